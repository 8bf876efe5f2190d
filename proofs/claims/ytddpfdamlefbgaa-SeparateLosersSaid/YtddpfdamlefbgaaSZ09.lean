/-
  Contracts: the reference's natural numbers: trim, digit, Cmp, Add, Sub, FromUint.
  Conditions: none.
-/
import Derived.Test.YtddpfdamlefbgaaSZ06
import Derived.Test.YtddpfdamlefbgaaSZ07
import Derived.Test.YtddpfdamlefbgaaSZ08
import Derived.Test.YtddpfdamlefbgaaSZ04
import Derived.Test.YtddpfdamlefbgaaProg
import Derived.Shelf.SlicesE.Clone
import Derived.Shelf.SlSortCmp.NoneTotal
import Derived.KernelRfl
import Derived.Shelf.Sort.AssemblyIn
import Derived.Shelf.SlicesE.Delete
import Derived.Sort.EveryDepth
import Derived.Sort.OwnSortedInts
import Derived.WalkKit
import Derived.Deep.LoopGhost
import Derived.Lib.Walk
import Derived.Lib.SliceRun
import Derived.Shelf.RegionOpenPlain
set_option maxRecDepth 100000
set_option maxHeartbeats 4000000
set_option linter.all false
namespace Go.Vi
open Go.Proofs.Ytddpfdamlefbgaa.Ir
open Go.Proofs
theorem val_tl (a:List Int):valN a=nthD a 0 0+4294967296*valN a.tail:=by
 cases a<;>grind[valN,nthD]
theorem nth_tl (a:List Int) (j:Nat):nthD a (j+1) 0=nthD a.tail j 0:=by
 grind[nthD]
theorem dig_tl {a:List Int} (h:Dig a):Dig a.tail:=fun d b=>h d (List.mem_of_mem_tail b)
theorem val_ext:∀(n:Nat) {a b:List Int},a.length≤n→b.length≤n→(∀j,nthD a j 0=nthD b j 0)→valN a=valN b
 |0,a,b,c,d,_=>by simp_all
 |n+1,a,b,c,d,h=>by
  rw[val_tl a,val_tl b,h 0]
  have:=val_ext n (a:=a.tail) (b:=b.tail) (by simp_all) (by simp_all) (fun j=>by rw[←nth_tl,←nth_tl];exact h (j+1))
  rw[this]
theorem cmp_dig:∀{k:Nat} {a b:List Int},Dig a→Dig b→(∀j,k<j→nthD a j 0=nthD b j 0)→nthD a k 0<nthD b k 0→valN a<valN b
 |0,a,b,e,c,h,d=>by
  have:=val_ext (max a.length b.length) (a:=a.tail) (b:=b.tail) (by grind) (by grind) (fun j=>by rw[←nth_tl,←nth_tl];simp_all)
  grind[val_tl]
 |k+1,a,b,e,c,h,d=>by
  rw[nth_tl,nth_tl] at d
  have:=cmp_dig (k:=k) (dig_tl e) (dig_tl c) (fun j g=>by rw[←nth_tl,←nth_tl];simp_all) d
  have i:=dig_nth e 0
  have f:=dig_nth c 0
  grind[val_tl]
def trL (a:List Int):SV:=.row (.i .u32) (natL (valN a))
def r140:SCtr:=⟨62,List Int,.one (codR (.i .u32)),fun a=>Dig a∧a.length≤100000000000,fun a=>trL a⟩
def Λ140 (a:List Int):Nat→LoopAnn
 |1=> .inv (List Int) (fun l=>⟨[(0,.row (.i .u32) l)],[]⟩) (fun s=>rS (.i .u32) s 0) (fun l=>Dig l∧valN l=valN a∧l.length≤a.length) (fun l=>l.length) fun _ _=> .look
 |_=> .look
theorem tr_last {l:List Int} (h:l.length≠0) (a:nthD l (l.length - 1) 0=0):valN (l.take (l.length - 1))=valN l:=by
 grind[take_snoc0]
theorem nrm_of {l:List Int} (h:l.length=0∨nthD l (l.length - 1) 0≠0):Nrm l:=by
 rcases h with h|h
 ·rw[List.eq_nil_of_length_eq_zero h];trivial
 ·by_cases b:l.length=0
  ·rw[List.eq_nil_of_length_eq_zero b];trivial
  ·have c:=take_snoc (a:=l) (n:=l.length - 1) (by omega)
   grind[nrm_snoc]
theorem h140:Holds Try.prog r140:=by
 refine con0 (L:=[]) r140 Λ140 (by simp) ?_
 intro(a:List Int) h
 obtain⟨ha,hl⟩:Dig a∧a.length≤100000000000:=h
 refine vcOf (let z0:=SId.i .u32;let z1:=SV.row z0 (natL (valN a));((((SV.row z0 a).same (SV.row z0 a)∧True)∧True)∧Dig a∧valN a=valN a∧a.length≤a.length)∧∀(x:List Int),let z2:=(↑x.length:Int);let z3:=decide ((0:Int)<z2);let z4:=z2 - (1:Int);let z5:=z4.toNat;let z6:=decide (nthD x z5 (0:Int)=(0:Int));let z7:=List.take (z5 - 0) x;let z8:=0+x.length;Dig x∧valN x=valN a∧x.length≤a.length→(z3=true→inR .i64 z4∧(0:Int)≤z4∧z4<z2∧z5<x.length∧(z6=true→inR .i64 z4∧(0:Int)≤z4∧0≤z5∧z5≤x.length∧(((SV.row z0 z7).same (SV.row z0 z7)∧True)∧True)∧(Dig z7∧valN z7=valN a∧z7.length≤a.length)∧z7.length<x.length)∧(z6=false→0=0∧z8*4≤140737488355328∧z8≤1000000000000∧x.length=x.length∧(SV.row z0 x).same z1))∧(z3=false→0=0∧z8*4≤140737488355328∧z8≤1000000000000∧x.length=x.length∧(SV.row z0 x).same z1)) (by kernel_rfl) ?_
 simp only[vcs]
 refine⟨⟨ha,by omega⟩,?_⟩
 rintro l ⟨dl,hv,hll⟩
 have t1:((l.length:Int) - 1).toNat - 0=l.length - 1:=by omega
 have t2:((l.length:Int) - 1).toNat=l.length - 1:=by omega
 rw[t1,t2]
 have fin:(l.length=0∨nthD l (l.length - 1) 0≠0)→(SV.row (.i .u32) l).same (SV.row (.i .u32) (natL (valN a))):=fun h=>rowN (by rw[←hv,natL_val dl (nrm_of h)])
 refine⟨fun hl0=>⟨by omega,by omega,by omega,by omega,fun hz=>?_,fun hz=>?_⟩,fun hl0=>?_⟩
 ·have:=tr_last (by omega) hz
  repeat' refine And.intro ?_ ?_
  all_goals first|omega|exact dig_take dl _|(rw[this];exact hv)|(simp;omega)
 ·repeat' refine And.intro ?_ ?_
  all_goals first|omega|exact natL_val dl (nrm_of (.inr hz))▸hv▸rfl|exact fin (.inr hz)|(rw[←hv,natL_val dl (nrm_of (.inr hz))])
 ·have h0:l.length=0:=by omega
  repeat' refine And.intro ?_ ?_
  all_goals first|omega|exact fin (.inl h0)|(rw[←hv,natL_val dl (nrm_of (.inl h0))])
def r139:SCtr:=⟨61,List Int×Int,.cons (codR (.i .u32)) (.one (codI .i64)),fun a=>Dig a.1∧0≤a.2,fun a=> .si .u64 (nthD a.1 a.2.toNat 0)⟩
theorem h139:Holds Try.prog r139:=by
 refine con0 (L:=[]) r139 lk (by simp) ?_
 rintro⟨a,i⟩ ⟨ha,hi⟩
 simp only at ha hi
 refine vcOf (let z0:=decide (i<(↑a.length:Int));let z1:=nthD a i.toNat (0:Int);let z2:=SV.si .u64 z1;(z0=true→(0:Int)≤i∧i<(↑a.length:Int)∧i.toNat<a.length∧(SV.si .u64 (z1 % (18446744073709551616:Int))).same z2)∧(z0=false→(SV.il .u64 0).same z2)) (by kernel_rfl) ?_
 simp only[vcs]
 have hd:=dig_nth ha i.toNat
 refine⟨fun h=>⟨hi,by omega,by omega,by omega⟩,fun h=>?_⟩
 exact(nth_out (by omega)).symm
def r141:SCtr:=⟨63,List Int×List Int,.cons (codR (.i .u32)) (.one (codR (.i .u32))),fun a=>(Dig a.1∧Dig a.2)∧a.1.length≤1000000000000∧a.2.length≤1000000000000,fun a=> .si .i64 (cmpN (valN a.1) (valN a.2))⟩
def Λ141 (a:List Int×List Int):Nat→LoopAnn
 |2=> .inv Int (fun i=>⟨[(0,.row (.i .u32) a.1),(1,.row (.i .u32) a.2),(5,.si .i64 i)],[]⟩) (fun s=>iS s 5)
  (fun i=> -1≤i∧i<max (a.1.length:Int) a.2.length∧∀j:Nat,i<j→nthD a.1 j 0=nthD a.2 j 0) (fun i=>(i+1).toNat) fun _ _=> .look
 |_=> .look
theorem h141:Holds Try.prog r141:=by
 refine con0 (L:=[r139]) r141 Λ141 (by simpa using h139) ?_
 rintro⟨a,b⟩ ⟨⟨ha,hb⟩,hla,hlb⟩
 simp only at ha hb hla hlb
 refine vcOf (let z0:=max (↑a.length:Int) (↑b.length:Int) - (1:Int);let z1:=SV.row (SId.i .u32) a;let z2:=SV.row (SId.i .u32) b;let z3:=SV.si .i64 z0;let z4:=max (↑a.length:Int) (↑b.length:Int);let z5:=SV.si .i64 (cmpN (valN a) (valN b));inR .i64 z0∧(((z1.same z1∧z2.same z2∧z3.same z3∧True)∧True)∧(-1:Int)≤z0∧z0<z4∧∀(j:Nat),z0<(↑j:Int)→nthD a j (0:Int)=nthD b j (0:Int))∧∀(x:Int),let z6:=decide ((0:Int)≤x);let z7:=nthD a x.toNat (0:Int);let z8:=nthD b x.toNat (0:Int);let z9:=x - (1:Int);let z10:=SV.si .i64 z9;((-1:Int)≤x∧x<z4∧∀(j:Nat),x<(↑j:Int)→nthD a j (0:Int)=nthD b j (0:Int))→(z6=true→(Dig a∧(0:Int)≤x)∧(Dig b∧(0:Int)≤x)∧(decide (z7<z8)=true→(SV.il .i64 (-1:Int)).same z5)∧(decide (z7<z8)=false→(Dig a∧(0:Int)≤x)∧(Dig b∧(0:Int)≤x)∧(decide (z8<z7)=true→(SV.il .i64 1).same z5)∧(decide (z8<z7)=false→inR .i64 z9∧((z1.same z1∧z2.same z2∧z10.same z10∧True)∧True)∧((-1:Int)≤z9∧z9<z4∧∀(j:Nat),z9<(↑j:Int)→nthD a j (0:Int)=nthD b j (0:Int))∧(z9+(1:Int)).toNat<(x+(1:Int)).toNat)))∧(z6=false→(SV.il .i64 0).same z5)) (by kernel_rfl) ?_
 simp only[vcs]
 refine⟨by omega,⟨by omega,by omega,fun j hj=>by rw[nth_out (a:=a) (by omega),nth_out (a:=b) (by omega)]⟩,?_⟩
 rintro i ⟨i0,i1,hd⟩
 refine⟨fun hi=>⟨⟨ha,hi⟩,⟨hb,hi⟩,fun h=>?_,fun h=>⟨⟨ha,hi⟩,⟨hb,hi⟩,fun h2=>?_,fun h2=>⟨by omega,⟨by omega,by omega,fun j hj=>?_⟩,by omega⟩⟩⟩,fun hi=>?_⟩
 ·have:=cmp_dig ha hb (fun j hj=>hd j (by omega)) h
  unfold cmpN
  rw[if_pos this]
 ·have:=cmp_dig hb ha (fun j hj=>(hd j (by omega)).symm) h2
  unfold cmpN
  rw[if_neg (by omega),if_pos this]
 ·by_cases hji:(j:Int)=i
  ·rw[show i.toNat=j by omega] at h h2
   omega
  ·exact hd j (by omega)
 ·have:=val_ext (max a.length b.length) (a:=a) (b:=b) (by omega) (by omega) (fun j=>hd j (by omega))
  unfold cmpN
  rw[if_neg (by omega),if_neg (by omega)]
def r106:SCtr:=⟨37,List Int×List Int,.cons (codR (.i .u32)) (.one (codR (.i .u32))),fun a=>(Dig a.1∧Dig a.2)∧a.1.length≤10000000000∧a.2.length≤10000000000,fun a=> .row (.i .u32) (natL (valN a.1+valN a.2))⟩
def Λ106 (a:List Int×List Int):Nat→LoopAnn
 |4=> .inv (Int×Int×List Int) (fun x=>⟨[(0,.row (.i .u32) a.1),(1,.row (.i .u32) a.2),(5,.ow 0 x.2.2.length 1),(6,.si .u64 x.2.1),(7,.si .i64 x.1)],[.row (.i .u32) x.2.2 81 true]⟩)
  (fun s=>(iS s 7,iS s 6,oS (.i .u32) s 0))
  (fun x=>(0≤x.1∧x.1≤max (a.1.length:Int) a.2.length+1)∧(0≤x.2.1∧x.2.1≤1)∧(Dig x.2.2∧(x.2.2.length:Int)=x.1)∧valN x.2.2+4294967296^x.1.toNat*x.2.1=valN (a.1.take x.1.toNat)+valN (a.2.take x.1.toNat))
  (fun x=>(max (a.1.length:Int) a.2.length+1 - x.1).toNat) fun _ _=> .look
 |_=> .look
theorem h106:Holds Try.prog r106:=by
 refine con0 (L:=[r139,r140]) r106 Λ106 (by simpa using⟨h139,h140⟩) ?_
 rintro⟨a,b⟩ ⟨⟨ha,hb⟩,hla,hlb⟩
 simp only at ha hb hla hlb
 refine vcOf (let z0:=SId.i .u32;let z1:=SV.ow 0 0 1;let z2:=SObj.row z0 [] 81 true;let z3:=max (↑a.length:Int) (↑b.length:Int)+(1:Int);((((SV.row z0 a).same (SV.row z0 a)∧(SV.row z0 b).same (SV.row z0 b)∧z1.same z1∧(SV.il .u64 0).same (SV.si .u64 0)∧(SV.il .i64 0).same (SV.si .i64 0)∧True)∧z2.same z2∧True)∧((0:Int)≤(0:Int)∧(0:Int)≤z3)∧((0:Int)≤(0:Int)∧(0:Int)≤(1:Int))∧(Dig []∧(0:Int)=(0:Int))∧(0:Int)=(0:Int))∧∀(x:Int×Int×List Int),let z4:=x.snd.snd.length;let z5:=x.fst.toNat;let z6:=decide (x.fst≤max (↑a.length:Int) (↑b.length:Int));let z7:=x.snd.snd.length+1;let z8:=((nthD a z5 (0:Int)+nthD b z5 (0:Int)) % (18446744073709551616:Int)+x.snd.fst) % (18446744073709551616:Int);let z9:=z8.tdiv (4294967296:Int);let z10:=x.fst+(1:Int);let z11:=x.snd.snd++[z8.tmod (4294967296:Int) % (4294967296:Int)];let z12:=SV.si .u64 z9;let z13:=SV.si .i64 z10;let z14:=SObj.row z0 z11 81 true;((0:Int)≤x.fst∧x.fst≤z3)∧((0:Int)≤x.snd.fst∧x.snd.fst≤(1:Int))∧(Dig x.snd.snd∧(↑z4:Int)=x.fst)∧valN x.snd.snd+(4294967296:Int)^z5*x.snd.fst=valN (List.take z5 a)+valN (List.take z5 b)→(z6=true→(Dig a∧(0:Int)≤x.fst)∧(Dig b∧(0:Int)≤x.fst)∧(4294967296:Int)≠(0:Int)∧z4=x.snd.snd.length∧z7*4≤140737488355328∧z7≤1000000000000∧(4294967296:Int)≠(0:Int)∧inR .u64 z9∧inR .i64 z10∧(((SV.row z0 a).same (SV.row z0 a)∧(SV.row z0 b).same (SV.row z0 b)∧(SV.ow 0 z11.length 1).same (SV.ow 0 z11.length 1)∧z12.same z12∧z13.same z13∧True)∧z14.same z14∧True)∧(((0:Int)≤z10∧z10≤z3)∧((0:Int)≤z9∧z9≤(1:Int))∧(Dig z11∧(↑z11.length:Int)=z10)∧valN z11+(4294967296:Int)^z10.toNat*z9=valN (List.take z10.toNat a)+valN (List.take z10.toNat b))∧(z3 - z10).toNat<(z3 - x.fst).toNat)∧(z6=false→z4=x.snd.snd.length∧(Dig x.snd.snd∧z4≤100000000000)∧(SV.row z0 (natL (valN x.snd.snd))).same (SV.row z0 (natL (valN a+valN b))))) (by kernel_rfl) ?_
 simp only[vcs]
 refine⟨⟨by omega,by omega,by simp[Dig]⟩,?_⟩
 rintro⟨i,c,out⟩ ⟨⟨i0,i1⟩,⟨c0,c1⟩,⟨ho,hlo⟩,hv⟩
 simp only at i0 i1 c0 c1 ho hlo hv ⊢
 refine⟨fun hi=>?_,fun hi=>?_⟩
 ·have x:=dig_nth ha i.toNat
  have y:=dig_nth hb i.toNat
  have e1:((nthD a i.toNat 0+nthD b i.toNat 0) % 18446744073709551616+c) % 18446744073709551616=nthD a i.toNat 0+nthD b i.toNat 0+c:=by omega
  have e2:(i+1).toNat=i.toNat+1:=by omega
  rw[e1,e2,Int.tdiv_eq_ediv_of_nonneg (by omega),Int.tmod_eq_emod_of_nonneg (by omega)]
  have hval:valN (out++[(nthD a i.toNat 0+nthD b i.toNat 0+c) % 4294967296 % 4294967296])+4294967296^(i.toNat+1)*((nthD a i.toNat 0+nthD b i.toNat 0+c) / 4294967296)=valN (a.take (i.toNat+1))+valN (b.take (i.toNat+1)):=by
   rw[val_snoc,take_snoc0,take_snoc0,show out.length=i.toNat by omega,Int.pow_succ]
   generalize (4294967296:Int)^i.toNat=B at*
   generalize hs:nthD a i.toNat 0+nthD b i.toNat 0+c=s at*
   have e:B*4294967296*(s / 4294967296)=B*(nthD a i.toNat 0+nthD b i.toNat 0+c - s % 4294967296 % 4294967296):=by rw[Int.mul_assoc];congr 1;omega
   rw[e]
   simp only[Int.mul_add,Int.mul_sub]
   omega
  have hdg:Dig (out++[(nthD a i.toNat 0+nthD b i.toNat 0+c) % 4294967296 % 4294967296]):=dig_app ho (dig_one (by omega) (by omega))
  repeat' refine And.intro ?_ ?_
  all_goals first|omega|exact ha|exact hb|exact u64_in (by omega) (by omega)|exact hval|exact hdg|(simp;omega)
 ·have hi2:i.toNat=max a.length b.length+1:=by omega
  rw[List.take_of_length_le (by omega),List.take_of_length_le (by omega)] at hv
  have b1:=val_bdN ha
  have b2:=val_bdN hb
  have b3:=pow_mono (show a.length≤max a.length b.length by omega)
  have b4:=pow_mono (show b.length≤max a.length b.length by omega)
  have hn:=val_nonneg ho
  rw[hi2,Int.pow_succ] at hv
  have hP:=pow_pos (max a.length b.length)
  have hc:c=0:=by
   by_cases h:c=0
   ·exact h
   ·have:c=1:=by omega
    subst this
    omega
  rw[hc,Int.mul_zero,Int.add_zero] at hv
  rw[hv]
  repeat' refine And.intro ?_ ?_
  all_goals first|omega|exact ho|rfl
def r107:SCtr:=⟨38,List Int×List Int,.cons (codR (.i .u32)) (.one (codR (.i .u32))),fun a=>(Dig a.1∧Dig a.2)∧a.1.length≤10000000000∧a.2.length≤10000000000,fun a=>sbO (valN a.1) (valN a.2)⟩
def Λ107 (a:List Int×List Int):Nat→LoopAnn
 |6=> .inv (Int×Int×List Int) (fun x=>⟨[(0,.row (.i .u32) a.1),(1,.row (.i .u32) a.2),(6,.ow 0 x.2.2.length 1),(7,.si .u64 x.2.1),(8,.si .i64 x.1)],[.row (.i .u32) x.2.2 81 true]⟩)
  (fun s=>(iS s 8,iS s 7,oS (.i .u32) s 0))
  (fun x=>(0≤x.1∧x.1≤a.1.length)∧(0≤x.2.1∧x.2.1≤1)∧(Dig x.2.2∧(x.2.2.length:Int)=x.1)∧valN x.2.2 - 4294967296^x.1.toNat*x.2.1=valN (a.1.take x.1.toNat) - valN (a.2.take x.1.toNat))
  (fun x=>(a.1.length - x.1).toNat) fun _ _=> .look
 |_=> .look
theorem h107:Holds Try.prog r107:=by
 refine con0 (L:=[r139,r140,r141]) r107 Λ107 (by simpa using⟨h139,h140,h141⟩) ?_
 rintro⟨a,b⟩ ⟨⟨ha,hb⟩,hla,hlb⟩
 simp only at ha hb hla hlb
 refine vcOf (let z0:=decide (cmpN (valN a) (valN b)<(0:Int));let z1:=SId.i .u32;let z2:=SV.tup [SV.row z1 (natL (valN a - valN b)),SV.sb (decide (valN b≤valN a))];let z3:=SV.ow 0 0 1;let z4:=SObj.row z1 [] 81 true;let z5:=(↑a.length:Int);((Dig a∧Dig b)∧a.length≤1000000000000∧b.length≤1000000000000)∧(z0=true→(SV.tup [SV.row (SId.i .i64) [],SV.bl false]).same z2)∧(z0=false→((((SV.row z1 a).same (SV.row z1 a)∧(SV.row z1 b).same (SV.row z1 b)∧z3.same z3∧(SV.il .u64 0).same (SV.si .u64 0)∧(SV.il .i64 0).same (SV.si .i64 0)∧True)∧z4.same z4∧True)∧((0:Int)≤(0:Int)∧(0:Int)≤z5)∧((0:Int)≤(0:Int)∧(0:Int)≤(1:Int))∧(Dig []∧(0:Int)=(0:Int))∧(0:Int)=(0:Int))∧∀(x:Int×Int×List Int),let z6:=x.snd.snd.length;let z7:=x.fst.toNat;let z8:=decide (x.fst<(↑a.length:Int));let z9:=x.snd.snd.length+1;let z10:=((((4294967296:Int)+nthD a z7 (0:Int)) % (18446744073709551616:Int) - nthD b z7 (0:Int)) % (18446744073709551616:Int) - x.snd.fst) % (18446744073709551616:Int);let z11:=z10.tdiv (4294967296:Int);let z12:=x.fst+(1:Int);let z13:=x.snd.snd++[z10.tmod (4294967296:Int) % (4294967296:Int)];let z14:=((1:Int) - z11) % (18446744073709551616:Int);let z15:=SV.si .u64 z14;let z16:=SV.si .i64 z12;let z17:=SObj.row z1 z13 81 true;((0:Int)≤x.fst∧x.fst≤z5)∧((0:Int)≤x.snd.fst∧x.snd.fst≤(1:Int))∧(Dig x.snd.snd∧(↑z6:Int)=x.fst)∧valN x.snd.snd - (4294967296:Int)^z7*x.snd.fst=valN (List.take z7 a) - valN (List.take z7 b)→(z8=true→(Dig a∧(0:Int)≤x.fst)∧(Dig b∧(0:Int)≤x.fst)∧(4294967296:Int)≠(0:Int)∧z6=x.snd.snd.length∧z9*4≤140737488355328∧z9≤1000000000000∧(4294967296:Int)≠(0:Int)∧inR .u64 z11∧inR .i64 z12∧(((SV.row z1 a).same (SV.row z1 a)∧(SV.row z1 b).same (SV.row z1 b)∧(SV.ow 0 z13.length 1).same (SV.ow 0 z13.length 1)∧z15.same z15∧z16.same z16∧True)∧z17.same z17∧True)∧(((0:Int)≤z12∧z12≤z5)∧((0:Int)≤z14∧z14≤(1:Int))∧(Dig z13∧(↑z13.length:Int)=z12)∧valN z13 - (4294967296:Int)^z12.toNat*z14=valN (List.take z12.toNat a) - valN (List.take z12.toNat b))∧(z5 - z12).toNat<(z5 - x.fst).toNat)∧(z8=false→z6=x.snd.snd.length∧(Dig x.snd.snd∧z6≤100000000000)∧(SV.tup [SV.row z1 (natL (valN x.snd.snd)),SV.bl true]).same z2))) (by kernel_rfl) ?_
 simp only[vcs]
 have pa:=val_nonneg ha
 have pb:=val_nonneg hb
 refine⟨⟨⟨ha,hb⟩,by omega,by omega⟩,fun hlt=>?_,fun hge=>?_⟩
 ·have hlt2:valN a<valN b:=by unfold cmpN at hlt;split at hlt<;>(try split at hlt)<;>omega
  refine⟨nilN (natL_neg (by omega)),?_⟩
  rw[eq_comm,decide_eq_false_iff_not]
  omega
 have hge2:valN b≤valN a:=by unfold cmpN at hge;split at hge<;>(try split at hge)<;>omega
 refine⟨⟨by omega,by omega,by simp[Dig]⟩,?_⟩
 rintro⟨i,c,out⟩ ⟨⟨i0,i1⟩,⟨c0,c1⟩,⟨ho,hlo⟩,hv⟩
 simp only at i0 i1 c0 c1 ho hlo hv ⊢
 refine⟨fun hi=>?_,fun hi=>?_⟩
 ·have x:=dig_nth ha i.toNat
  have y:=dig_nth hb i.toNat
  have e1:(((4294967296+nthD a i.toNat 0) % 18446744073709551616 - nthD b i.toNat 0) % 18446744073709551616 - c) % 18446744073709551616=4294967296+nthD a i.toNat 0 - nthD b i.toNat 0 - c:=by omega
  have e2:(i+1).toNat=i.toNat+1:=by omega
  rw[e1,e2,Int.tdiv_eq_ediv_of_nonneg (by omega),Int.tmod_eq_emod_of_nonneg (by omega)]
  have e3:(1 - (4294967296+nthD a i.toNat 0 - nthD b i.toNat 0 - c) / 4294967296) % 18446744073709551616=1 - (4294967296+nthD a i.toNat 0 - nthD b i.toNat 0 - c) / 4294967296:=by omega
  rw[e3]
  have hval:valN (out++[(4294967296+nthD a i.toNat 0 - nthD b i.toNat 0 - c) % 4294967296 % 4294967296]) - 4294967296^(i.toNat+1)*(1 - (4294967296+nthD a i.toNat 0 - nthD b i.toNat 0 - c) / 4294967296)=valN (a.take (i.toNat+1)) - valN (b.take (i.toNat+1)):=by
   rw[val_snoc,take_snoc0,take_snoc0,show out.length=i.toNat by omega,Int.pow_succ]
   generalize (4294967296:Int)^i.toNat=B at*
   generalize hs:4294967296+nthD a i.toNat 0 - nthD b i.toNat 0 - c=s at*
   have e:B*4294967296*(1 - s / 4294967296)=B*(s % 4294967296 % 4294967296 - (nthD a i.toNat 0 - nthD b i.toNat 0 - c)):=by rw[Int.mul_assoc];congr 1;omega
   rw[e]
   simp only[Int.mul_add,Int.mul_sub]
   omega
  have hdg:Dig (out++[(4294967296+nthD a i.toNat 0 - nthD b i.toNat 0 - c) % 4294967296 % 4294967296]):=dig_app ho (dig_one (by omega) (by omega))
  repeat' refine And.intro ?_ ?_
  all_goals first|omega|exact ha|exact hb|exact u64_in (by omega) (by omega)|exact hval|exact hdg|(simp;omega)
 ·have hi2:i.toNat=a.length:=by omega
  rw[hi2,List.take_length] at hv
  have b1:=val_bdN ha
  have hbt:valN (b.take a.length)=valN b:=by
   by_cases h:b.length≤a.length
   ·rw[List.take_of_length_le h]
   ·have h1:=val_split (U:=b) (j:=a.length) (by omega)
    have h2:=val_nonneg (dig_take hb a.length)
    have h3:=val_nonneg (dig_drop hb a.length)
    by_cases hz:valN (b.drop a.length)=0
    ·rw[hz,Int.mul_zero] at h1;omega
    ·have:=Int.mul_le_mul_of_nonneg_left (show(1:Int)≤valN (b.drop a.length) by omega) (Int.le_of_lt (pow_pos a.length))
     rw[Int.mul_one] at this
     omega
  rw[hbt] at hv
  have hn:=val_bdN ho
  rw[show out.length=a.length by omega] at hn
  have hc:c=0:=by
   by_cases h:c=0
   ·exact h
   ·have:c=1:=by omega
    subst this
    omega
  rw[hc,Int.mul_zero,Int.sub_zero] at hv
  rw[hv]
  refine⟨⟨ho,by omega⟩,?_⟩
  repeat' refine And.intro ?_ ?_
  all_goals first|omega|rfl|(rw[eq_comm,decide_eq_true_eq];exact hge2)
def r159:SCtr:=⟨83,Int,.one (codI .u64),fun x=>0≤(show Int from x)∧(show Int from x)<18446744073709551616,fun x=> .row (.i .u32) (natL x)⟩
theorem h159:Holds Try.prog r159:=by
 refine con0 (L:=[r140]) r159 lk (by simpa using h140) ?_
 intro(x:Int) h
 obtain⟨h0,h1⟩:0≤x∧x<18446744073709551616:=h
 refine vcOf (let z0:=x.tdiv (4294967296:Int);let z1:=[x.tmod (4294967296:Int) % (4294967296:Int),z0 % (4294967296:Int)];(4294967296:Int)≠(0:Int)∧(4294967296:Int)≠(0:Int)∧inR .u64 z0∧(Dig z1∧2≤100000000000)∧(SV.row (SId.i .u32) (natL (valN z1))).same (SV.row (SId.i .u32) (natL x))) (by kernel_rfl) ?_
 simp only[vcs]
 rw[Int.tdiv_eq_ediv_of_nonneg h0,Int.tmod_eq_emod_of_nonneg h0]
 have hd:Dig [x % 4294967296 % 4294967296,x / 4294967296 % 4294967296]:=dig_cons.2 ⟨by omega,dig_one (by omega) (by omega)⟩
 have hv:valN [x % 4294967296 % 4294967296,x / 4294967296 % 4294967296]=x:=by simp only[valN];omega
 rw[hv]
 repeat' refine And.intro ?_ ?_
 all_goals first|omega|exact hd|exact u64_in (by omega) (by omega)|rfl
theorem frS_eq {p q:Rat} (h:p=q):(SV.agg [.sb (frE p).1,.row (.i .u32) (frE p).2.1,.row (.i .u32) (frE p).2.2]).same (.agg [.sb (frE q).1,.row (.i .u32) (frE q).2.1,.row (.i .u32) (frE q).2.2]):=by subst h;rfl
theorem num_sgn (q:Rat):q.num=if decide (q<0) then -(q.num.natAbs:Int) else(q.num.natAbs:Int):=by
 have a:=@Rat.num_nonneg q
 grind
theorem frE_ok (q:Rat):(frE q).1=decide (q<0)∧(Dig (frE q).2.1∧Nrm (frE q).2.1∧valN (frE q).2.1=(q.num.natAbs:Int))∧(Dig (frE q).2.2∧Nrm (frE q).2.2∧valN (frE q).2.2=(q.den:Int)):=by
 obtain⟨f,e,d⟩:=natL_ok (show(0:Int)≤(q.num.natAbs:Int) by omega)
 obtain⟨b,c,a⟩:=natL_ok (show(0:Int)≤(q.den:Int) by omega)
 exact⟨rfl,⟨e,d,f⟩,⟨c,a,b⟩⟩
theorem frE_len {q:Rat} {k:Nat} (h:Sz k q):(frE q).2.1.length≤k∧(frE q).2.2.length≤k:=
 ⟨natL_len (by omega) h.1,natL_len (by omega) h.2⟩
theorem mkF_neg (q:Rat):mkF (!decide (q<0)) (q.num.natAbs:Int) (q.den:Int)= -q:=by
 unfold mkF
 have h:=num_sgn q
 have e:(if(!decide (q<0))=true then -(q.num.natAbs:Int) else(q.num.natAbs:Int))= -q.num:=by
  grind
 grind[Rat.mkRat_self,Rat.neg_mkRat]
def r130:SCtr:=⟨54,Fra,.one (codE sF),isF,fun x=>frS (-(valF x))⟩
theorem h130:Holds Try.prog r130:=by
 refine con0 (L:=[r126]) r130 lk (by simpa using h126) ?_
 intro(x:Fra) h
 obtain⟨q,k,rfl,hz,hk⟩:isF x:=h
 refine vcOf (let z0:=(frE q).snd.fst;let z1:=(frE q).snd.snd;let z2:=frE (mkF (!(frE q).fst) (valN z0) (valN z1));let z3:=SId.i .u32;let z4:=(frE (-valF (frE q))).snd;((Dig z0∧Dig z1)∧(List.length z0≤1000000000∧List.length z1≤1000000000)∧(0:Int)<valN z1)∧(SV.agg [SV.sb z2.fst,SV.row z3 z2.snd.fst,SV.row z3 z2.snd.snd]).same (SV.agg [SV.sb (frE (-valF (frE q))).fst,SV.row z3 z4.fst,SV.row z3 z4.snd])) (by kernel_rfl) ?_
 conv=>zeta
 obtain⟨e1,⟨a2,a3,a1⟩,⟨b2,b3,b1⟩⟩:=frE_ok q
 obtain⟨l1,l2⟩:=frE_len hz
 have hd:=q.den_pos
 refine⟨⟨⟨a2,b2⟩,⟨by omega,by omega⟩,by omega⟩,frS_eq ?_⟩
 rw[valF_frE,e1,a1,b1]
 exact mkF_neg q
theorem mul_lt_pow {a b:Int} {i j:Nat} (e:0≤a) (c:a<4294967296^i) (d:b<4294967296^j):a*b<4294967296^(i+j):=by
 rw[Int.pow_add]
 exact Int.lt_of_le_of_lt (Int.mul_le_mul_of_nonneg_left (Int.le_of_lt d) e) (Int.mul_lt_mul_of_pos_right c (pow_pos _))
theorem cross_ok {p q:Rat} {i j:Nat} (c:Sz i p) (b:Sz j q):∃X Y D:Int,valN (frE p).2.1*valN (frE q).2.2=X∧valN (frE q).2.1*valN (frE p).2.2=Y∧valN (frE p).2.2*valN (frE q).2.2=D∧0≤X∧0≤Y∧0<D∧
  (natL X).length≤i+j∧(natL Y).length≤i+j∧(natL (X+Y)).length≤i+j+1∧(natL (X - Y)).length≤i+j∧(natL (Y - X)).length≤i+j∧(natL D).length≤i+j∧p.num*q.den=(if decide (p<0) then -X else X)∧q.num*p.den=(if decide (q<0) then -Y else Y)∧((p.den*q.den:Nat):Int)=D:=by
 obtain⟨_,⟨_,_,l⟩,⟨_,_,r⟩⟩:=frE_ok p
 obtain⟨_,⟨_,_,n⟩,⟨_,_,m⟩⟩:=frE_ok q
 rw[l,r,n,m]
 have s:=p.den_pos
 have t:=q.den_pos
 have k:=mul_lt_pow (a:=(p.num.natAbs:Int)) (by omega) c.1 b.2
 have d:=mul_lt_pow (a:=(q.num.natAbs:Int)) (by omega) b.1 c.2
 rw[Nat.add_comm j i] at d
 have o:=mul_lt_pow (a:=(p.den:Int)) (by omega) c.2 b.2
 have f:0≤(p.num.natAbs:Int)*q.den:=Int.mul_nonneg (by omega) (by omega)
 have e:0≤(q.num.natAbs:Int)*p.den:=Int.mul_nonneg (by omega) (by omega)
 have g:0<(p.den:Int)*q.den:=Int.mul_pos (by omega) (by omega)
 have v:=num_sgn p
 have u:=num_sgn q
 refine⟨_,_,_,rfl,rfl,rfl,f,e,g,natL_len f k,natL_len e d,natL_len (by omega) ?_,?_,?_,natL_len (by omega) o,?_,?_,by push_cast;rfl⟩
 ·omega
 ·by_cases h:(p.num.natAbs:Int)*q.den - (q.num.natAbs:Int)*p.den≤0
  ·grind[natL_neg]
  ·exact natL_len (by omega) (by omega)
 ·by_cases h:(q.num.natAbs:Int)*p.den - (p.num.natAbs:Int)*q.den≤0
  ·grind[natL_neg]
  ·exact natL_len (by omega) (by omega)
 all_goals grind
theorem add_mkF {p q:Rat} {s:Bool} {n D:Int} (a:((p.den*q.den:Nat):Int)=D) (h:p.num*q.den+q.num*p.den=if s then -n else n):mkF s n D=p+q:=by
 rw[add_mk]
 grind[mkF]
theorem digF_ok {p:Rat} {k:Nat} (h:Sz k p) (c:k≤100000000):digF (frE p):=by
 obtain⟨_,⟨a,_,_⟩,⟨b,_,_⟩⟩:=frE_ok p
 have:=frE_len h
 exact⟨⟨a,b⟩,by omega,by omega⟩
def cmpQ (p q:Rat):Int:=if p<q then -1 else if q<p then 1 else 0
def r97:SCtr:=⟨29,Fra×Fra,.cons (codE sF) (.one (codE sF)),fun a=>isF a.1∧isF a.2,fun a=> .si .i64 (cmpQ (valF a.1) (valF a.2))⟩
theorem h97:Holds Try.prog r97:=by
 refine con0 (L:=[r131,r132]) r97 lk (by simpa using⟨h131,h132⟩) ?_
 rintro⟨x,y⟩ ⟨⟨p,i,hx,hz,hi⟩,⟨q,j,hy,hw,hj⟩⟩
 simp only at hx hy
 subst hx hy
 refine vcOf (let z0:=(frE p).fst;let z1:=SV.si .i64 (cmpQ (valF (frE p)) (valF (frE q)));let z2:=natL (valN (frE q).snd.fst*valN (frE p).snd.snd);let z3:=natL (valN (frE p).snd.fst*valN (frE q).snd.snd);((!z0==(frE q).fst)=true→(z0=true→(SV.il .i64 (-1:Int)).same z1)∧(z0=false→(SV.il .i64 1).same z1))∧((!z0==(frE q).fst)=false→(digF (z0,(frE p).snd.fst,(frE p).snd.snd)∧digF ((frE q).fst,(frE q).snd.fst,(frE q).snd.snd))∧(z0=true→((Dig z2∧Dig z3)∧z2.length≤1000000000000∧z3.length≤1000000000000)∧(SV.si .i64 (cmpN (valN z2) (valN z3))).same z1)∧(z0=false→((Dig z3∧Dig z2)∧z3.length≤1000000000000∧z2.length≤1000000000000)∧(SV.si .i64 (cmpN (valN z3) (valN z2))).same z1))) (by kernel_rfl) ?_
 conv=>zeta
 obtain⟨e1,_,_⟩:=frE_ok p
 obtain⟨e2,_,_⟩:=frE_ok q
 obtain⟨X,Y,D,hX,hY,hD,X0,Y0,D0,l1,l2,l3,l4,l5,l6,n1,n2,n3⟩:=cross_ok hz hw
 obtain⟨c1,c2,c3⟩:=natL_ok X0
 obtain⟨c4,c5,c6⟩:=natL_ok Y0
 simp only[valF_frE,hX,hY,c1,c4,e1,e2]
 simp only[vcs]
 have hl:p<q↔p.num*q.den<q.num*p.den:=Rat.lt_iff p q
 have hl2:q<p↔q.num*p.den<p.num*q.den:=Rat.lt_iff q p
 have hp0:=@Rat.num_nonneg p
 have hq0:=@Rat.num_nonneg q
 have hc:∀{z:Int},(z=if p.num*q.den<q.num*p.den then -1 else if q.num*p.den<p.num*q.den then 1 else 0)→z=cmpQ p q:=fun h=>by
  unfold cmpQ
  simp only[hl,hl2]
  exact h
 have hXp:p<0→0<X:=fun h=>by
  rw[if_pos (by simpa using h)] at n1
  have h1:p.num<0:=by rw[←Rat.not_le,←hp0] at h;omega
  have:=Int.mul_neg_of_neg_of_pos h1 (show(0:Int)<q.den by have:=q.den_pos;omega)
  omega
 have hYq:q<0→0<Y:=fun h=>by
  rw[if_pos (by simpa using h)] at n2
  have h1:q.num<0:=by rw[←Rat.not_le,←hq0] at h;omega
  have:=Int.mul_neg_of_neg_of_pos h1 (show(0:Int)<p.den by have:=p.den_pos;omega)
  omega
 rw[n1,n2] at hc
 refine⟨fun hne=>⟨fun hp=>?_,fun hp=>?_⟩,fun he=>⟨⟨digF_ok hz hi,digF_ok hw hj⟩,fun hp=>⟨⟨⟨c5,c2⟩,by omega,by omega⟩,?_⟩,fun hp=>⟨⟨⟨c2,c5⟩,by omega,by omega⟩,?_⟩⟩⟩
 ·apply hc
  have hq:¬q<0:=fun hq=>by simp[hp,hq] at hne
  simp only[decide_eq_true_eq,hp,hq,if_true,if_false]
  have:=hXp hp
  rw[if_pos (by omega)]
 ·apply hc
  have hq:q<0:=by
   by_cases hq:q<0
   ·exact hq
   ·simp[hp,hq] at hne
  simp only[decide_eq_true_eq,hp,hq,if_true,if_false]
  have:=hYq hq
  rw[if_neg (by omega),if_pos (by omega)]
 ·apply hc
  have hq:q<0:=by
   by_cases hq:q<0
   ·exact hq
   ·simp[hp,hq] at he
  simp only[decide_eq_true_eq,hp,hq,if_true,if_false]
  simp only[Int.neg_lt_neg_iff]
  rfl
 ·apply hc
  have hq:¬q<0:=fun hq=>by simp[hp,hq] at he
  simp only[decide_eq_true_eq,hp,hq,if_true,if_false]
  rfl
def r129:SCtr:=⟨53,Fra×Fra,.cons (codE sF) (.one (codE sF)),fun a=>isF a.1∧isF a.2,fun a=>frS (valF a.1+valF a.2)⟩
theorem h129:Holds Try.prog r129:=by
 refine con0 (L:=[r131,r153,r154,r155,r126]) r129 lk (by simpa using⟨h131,h153,h154,h155,h126⟩) ?_
 rintro⟨x,y⟩ ⟨⟨p,i,hx,hz,hi⟩,⟨q,j,hy,hw,hj⟩⟩
 simp only at hx hy
 subst hx hy
 refine vcOf (let z0:=(frE p).fst;let z1:=(frE p).snd.snd;let z2:=(frE q).snd.snd;let z3:=natL (valN (frE p).snd.fst*valN z2);let z4:=natL (valN (frE q).snd.fst*valN z1);let z5:=natL (valN z3+valN z4);let z6:=natL (valN z1*valN z2);let z7:=frE (mkF z0 (valN z5) (valN z6));let z8:=SId.i .u32;let z9:=frE (valF (frE p)+valF (frE q));let z10:=SV.agg [SV.sb z9.fst,SV.row z8 z9.snd.fst,SV.row z8 z9.snd.snd];let z11:=decide (valN z4≤valN z3);let z12:=natL (valN z3 - valN z4);let z13:=frE (mkF z0 (valN z12) (valN z6));let z14:=natL (valN z4 - valN z3);let z15:=frE (mkF (frE q).fst (valN z14) (valN z6));(digF (z0,(frE p).snd.fst,z1)∧digF ((frE q).fst,(frE q).snd.fst,z2))∧((Dig z1∧Dig z2)∧List.length z1≤100000000000∧List.length z2≤100000000000)∧((z0==(frE q).fst)=true→((Dig z3∧Dig z4)∧z3.length≤100000000000∧z4.length≤100000000000)∧((Dig z5∧Dig z6)∧(z5.length≤1000000000∧z6.length≤1000000000)∧(0:Int)<valN z6)∧(SV.agg [SV.sb z7.fst,SV.row z8 z7.snd.fst,SV.row z8 z7.snd.snd]).same z10)∧((z0==(frE q).fst)=false→((Dig z3∧Dig z4)∧z3.length≤100000000000∧z4.length≤100000000000)∧(z11=true→((Dig z12∧Dig z6)∧(z12.length≤1000000000∧z6.length≤1000000000)∧(0:Int)<valN z6)∧(SV.agg [SV.sb z13.fst,SV.row z8 z13.snd.fst,SV.row z8 z13.snd.snd]).same z10)∧(z11=false→((Dig z4∧Dig z3)∧z4.length≤100000000000∧z3.length≤100000000000)∧((Dig z14∧Dig z6)∧(z14.length≤1000000000∧z6.length≤1000000000)∧(0:Int)<valN z6)∧(SV.agg [SV.sb z15.fst,SV.row z8 z15.snd.fst,SV.row z8 z15.snd.snd]).same z10))) (by kernel_rfl) ?_
 conv=>zeta
 obtain⟨e1,⟨u1,_,_⟩,⟨u2,_,_⟩⟩:=frE_ok p
 obtain⟨e2,⟨u3,_,_⟩,⟨u4,_,_⟩⟩:=frE_ok q
 obtain⟨m1,m2⟩:=frE_len hz
 obtain⟨m3,m4⟩:=frE_len hw
 obtain⟨X,Y,D,hX,hY,hD,X0,Y0,D0,l1,l2,l3,l4,l5,l6,n1,n2,n3⟩:=cross_ok hz hw
 obtain⟨c1,c2,c3⟩:=natL_ok X0
 obtain⟨c4,c5,c6⟩:=natL_ok Y0
 obtain⟨c7,c8,c9⟩:=natL_ok (Int.le_of_lt D0)
 obtain⟨s1,s2,s3⟩:=natL_ok (show 0≤X+Y by omega)
 simp only[valF_frE,hX,hY,hD,c1,c4,c7,s1,e1,e2]
 simp only[vcs]
 have fin:∀{s:Bool} {n:Int},(p.num*q.den+q.num*p.den=if s then -n else n)→(SV.agg [.sb (frE (mkF s n D)).1,.row (.i .u32) (frE (mkF s n D)).2.1,.row (.i .u32) (frE (mkF s n D)).2.2]).same (.agg [.sb (frE (p+q)).1,.row (.i .u32) (frE (p+q)).2.1,.row (.i .u32) (frE (p+q)).2.2]):=
  fun h=>frS_eq (add_mkF n3 h)
 rw[n1,n2] at fin
 refine⟨⟨digF_ok hz hi,digF_ok hw hj⟩,⟨⟨u2,u4⟩,by omega,by omega⟩,fun he=>⟨⟨⟨c2,c5⟩,by omega,by omega⟩,⟨⟨s2,c8⟩,⟨by omega,by omega⟩,D0⟩,fin ?_⟩,fun he=>⟨⟨⟨c2,c5⟩,by omega,by omega⟩,fun hle=>?_,fun hle=>?_⟩⟩
 ·by_cases hp:p<0<;>by_cases hq:q<0<;>simp[hp,hq] at he ⊢<;>omega
 ·obtain⟨t1,t2,t3⟩:=natL_ok (show 0≤X - Y by omega)
  rw[t1]
  refine⟨⟨⟨t2,c8⟩,⟨by omega,by omega⟩,D0⟩,fin ?_⟩
  by_cases hp:p<0<;>by_cases hq:q<0<;>simp[hp,hq] at he ⊢<;>omega
 ·obtain⟨t1,t2,t3⟩:=natL_ok (show 0≤Y - X by omega)
  rw[t1]
  refine⟨⟨⟨c5,c2⟩,by omega,by omega⟩,⟨⟨t2,c8⟩,⟨by omega,by omega⟩,D0⟩,fin ?_⟩
  by_cases hp:p<0<;>by_cases hq:q<0<;>simp[hp,hq] at he ⊢<;>omega
def r95:SCtr:=⟨27,Fra×Fra,.cons (codE sF) (.one (codE sF)),fun a=>isF a.1∧isF a.2,fun a=>frS (valF a.1 - valF a.2)⟩
theorem h95:Holds Try.prog r95:=by
 refine con0 (L:=[r130,r129]) r95 lk (by simpa using⟨h130,h129⟩) ?_
 rintro⟨x,y⟩ ⟨⟨p,i,hx,hz,hi⟩,⟨q,j,hy,hw,hj⟩⟩
 simp only at hx hy
 subst hx hy
 refine vcOf (let z0:=((frE q).fst,(frE q).snd.fst,(frE q).snd.snd);let z1:=((frE p).fst,(frE p).snd.fst,(frE p).snd.snd);let z2:=(frE (-valF z0)).snd;let z3:=((frE (-valF z0)).fst,z2.fst,z2.snd);let z4:=frE (valF z1+valF z3);let z5:=SId.i .u32;let z6:=frE (valF (frE p) - valF (frE q));isF z0∧(isF z1∧isF z3)∧(SV.agg [SV.sb z4.fst,SV.row z5 z4.snd.fst,SV.row z5 z4.snd.snd]).same (SV.agg [SV.sb z6.fst,SV.row z5 z6.snd.fst,SV.row z5 z6.snd.snd])) (by kernel_rfl) ?_
 conv=>zeta
 have hn:isF (frE (-q)):=⟨-q,j,rfl,sz_neg hw,hj⟩
 refine⟨⟨q,j,rfl,hw,hj⟩,⟨⟨p,i,rfl,hz,hi⟩,?_⟩,frS_eq ?_⟩
 ·have e:valF (frE q)=q:=valF_frE q
  show isF (frE (-valF (frE q)))
  rw[e]
  exact hn
 ·show valF (frE p)+valF (frE (-valF (frE q)))=valF (frE p) - valF (frE q)
  rw[valF_frE,valF_frE,valF_frE,Rat.sub_eq_add_neg]
theorem add_len {a b:List Int} {k:Nat} (d:Dig a) (c:Dig b) (f:a.length≤k) (e:b.length≤k):(natL (valN a+valN b)).length≤k+1:=by
 have i:=val_nonneg d
 have g:=val_nonneg c
 have j:=lt_of_len d f
 have h:=lt_of_len c e
 refine natL_len (by omega) ?_
 omega
theorem mul_len {x y:Int} {i j:Nat} (a:0≤x) (b:0≤y) (d:x<4294967296^i) (c:y<4294967296^j):(natL (x*y)).length≤i+j:=natL_len (Int.mul_nonneg a b) (mul_lt_pow a d c)
theorem rep_app {n:Nat} {a:List Int}:valN (List.replicate n 0++a)=valN a*4294967296^n:=by
 grind[val_app,rep_val]
def r140o:OCtr where
 f:=62
 α:=Nat×List Int
 put a:=[.ow 0 a.1 1]
 st a:=[.row (.i .u32) a.2 81 true]
 dec v o:=match v,o with
  |[.ow 0 n 1],[.row t l 81 true]=>match castL t (.i .u32) l with
   |some l=>some (n,l)
   |_=>none
  |_,_=>none
 ok v o a h:=by
  split at h
  ·split at h
   ·rename_i h2
    simp only[Option.some.injEq] at h;subst h
    obtain⟨rfl,hh⟩:=castL_eq h2
    cases hh
    exact⟨rfl,rfl⟩
   ·cases h
  ·cases h
 inj a b h1 h2:=by
  obtain⟨n,U⟩:=a
  obtain⟨n',U'⟩:=b
  simp only[gL,List.cons.injEq,and_true,SV.g,AV.os.injEq,true_and] at h1
  simp only[gO,List.map_cons,List.map_nil,SObj.g,List.cons.injEq,AObj.cells.injEq,and_true] at h2
  have hl:U=U':=by
   have hf:=congrArg List.length h2
   rw[flatA_len,flatA_len] at hf
   exact flatA_inj (.i .u32) (by simpa[SId.sz] using hf) h2
  rw[h1.1,hl]
 dom a:=a.1=a.2.length∧Dig a.2∧a.2.length≤100000000000
 res a:=trL a.2
 out a:=[.row (.i .u32) a.2 81 true]
def Λ140o (a:Nat×List Int):Nat→LoopAnn
 |1=> .inv Int (fun n=>⟨[(0,.os 0 0 n.toNat a.1 1)],[.row (.i .u32) a.2 81 true]⟩) (fun s=>match getS s.env 0 with| .os _ _ n _ _=>n| .ow _ n _=>n|_=>0) (fun n=>0≤n∧n≤a.2.length∧valN (a.2.take n.toNat)=valN a.2) (fun n=>n.toNat) fun _ _=> .look
 |_=> .look
def r136:SCtr:=⟨58,List Int×Int,.cons (codR (.i .u32)) (.one (codI .i64)),fun a=>Dig a.1∧a.1.length≤10000000000∧0≤a.2∧a.2≤10000000000,fun a=> .row (.i .u32) (natL (valN a.1*4294967296^a.2.toNat))⟩
def Λ136 (a:List Int×Int):Nat→LoopAnn
 |3=> .inv Int (fun i=>⟨[(0,.row (.i .u32) a.1),(1,.si .i64 a.2),(5,.ow 0 i.toNat 1),(6,.si .i64 i)],[.row (.i .u32) (List.replicate i.toNat 0) 81 true]⟩) (fun s=>iS s 6) (fun i=>0≤i∧i≤a.2) (fun i=>(a.2 - i).toNat) fun _ _=> .look
 |_=> .look
theorem h140o:HoldsO Try.prog r140o:=by
 refine conO (L:=[]) (W:=[]) r140o Λ140o (by simp) (by simp) ?_
 rintro⟨n,a⟩ ⟨hn,ha,hl⟩
 simp only at hn ha hl
 subst hn
 refine vcOf (let z0:=(↑a.length:Int);let z1:=SId.i .u32;let z2:=SObj.row z1 a 81 true;let z3:=SV.row z1 (natL (valN a));((((SV.ow 0 a.length 1).same (SV.os 0 0 z0.toNat a.length 1)∧True)∧z2.same z2∧True)∧(0:Int)≤z0∧z0≤z0∧valN (List.take z0.toNat a)=valN a)∧∀(x:Int),let z4:=List.take x.toNat a;let z5:=(↑x.toNat:Int);let z6:=decide ((0:Int)<z5);let z7:=z5 - (1:Int);let z8:=0+z7.toNat;let z9:=decide (nthD a z8 (0:Int)=(0:Int));let z10:=z7.toNat - 0;let z11:=(↑z10:Int);let z12:=0+z4.length;(0:Int)≤x∧x≤z0∧valN z4=valN a→(z6=true→inR .i64 z7∧a.length=a.length∧(0:Int)≤z7∧z7<z5∧0+x.toNat≤a.length∧a.length=a.length∧z8<a.length∧(z9=true→inR .i64 z7∧a.length=a.length∧(0:Int)≤z7∧0≤z7.toNat∧z7.toNat≤x.toNat∧(((SV.os 0 0 z10 a.length 1).same (SV.os 0 0 z11.toNat a.length 1)∧True)∧z2.same z2∧True)∧((0:Int)≤z11∧z11≤z0∧valN (List.take z11.toNat a)=valN a)∧z11.toNat<x.toNat)∧(z9=false→a.length=a.length∧0+x.toNat≤a.length∧0=0∧z12*4≤140737488355328∧z12≤1000000000000∧z4.length=z4.length∧(SV.row z1 z4).same z3∧z2.same z2∧True))∧(z6=false→a.length=a.length∧0+x.toNat≤a.length∧0=0∧z12*4≤140737488355328∧z12≤1000000000000∧z4.length=z4.length∧(SV.row z1 z4).same z3∧z2.same z2∧True)) (by kernel_rfl) ?_
 simp only[vcs]
 refine⟨⟨rfl,⟨by omega,by omega,by rw[Int.toNat_natCast,List.take_length]⟩⟩,?_⟩
 rintro n ⟨n0,n1,hv⟩
 have hll:(a.take n.toNat).length=n.toNat:=by simp;omega
 have t1:0+((n.toNat:Int) - 1).toNat=n.toNat - 1:=by omega
 have hnth:nthD a (n.toNat - 1) 0=nthD (a.take n.toNat) (n.toNat - 1) 0∨n.toNat=0:=by
  by_cases h:n.toNat=0
  ·exact .inr h
  ·left
   unfold nthD
   rw[List.getElem?_take,if_pos (by omega)]
 have dl:=dig_take ha n.toNat
 have fin:(n.toNat=0∨nthD a (n.toNat - 1) 0≠0)→a.take n.toNat=natL (valN a):=fun h=>by
  rw[←hv,natL_val dl (nrm_of ?_)]
  rw[hll]
  rcases h with h|h
  ·exact .inl h
  ·rcases hnth with h2|h2
   ·exact .inr (by rw[←h2];exact h)
   ·exact .inl h2
 rw[t1,hll]
 refine⟨fun hp=>⟨by omega,by omega,by omega,by omega,by omega,fun hz=>?_,fun hz=>?_⟩,fun hp=>?_⟩
 ·have hnl:nthD (a.take n.toNat) (n.toNat - 1) 0=0:=by
   rcases hnth with h|h
   ·rw[←h];exact hz
   ·omega
  have hlast:=tr_last (l:=a.take n.toNat) (by omega) (by rw[hll];exact hnl)
  rw[hll,List.take_take,Nat.min_eq_left (by omega),hv] at hlast
  have e:(n.toNat:Int).toNat - 1=n.toNat - 1:=by omega
  have e2:((n.toNat:Int) - 1).toNat - 0=n.toNat - 1:=by omega
  repeat' refine And.intro ?_ ?_
  all_goals first|omega|rfl|(rw[e2];rfl)|(simp only[e2];exact hlast)|skip
 ·have:=fin (.inr hz)
  repeat' refine And.intro ?_ ?_
  all_goals first|omega|exact this|(rw[this];rfl)
 ·have:=fin (.inl (by omega))
  repeat' refine And.intro ?_ ?_
  all_goals first|omega|exact this|(rw[this];rfl)
theorem h136:Holds Try.prog r136:=by
 refine con (L:=[]) (W:=ownT [r140o]) r136 Λ136 (ownT_ok (by simpa using h140o)) (by simp) ?_
 rintro⟨a,n⟩ ⟨ha,hl,n0,n1⟩
 simp only at ha hl n0 n1
 refine vcOf (let z0:=SId.i .u32;let z1:=SV.ow 0 0 1;let z2:=SObj.row z0 [] 81 true;((((SV.row z0 a).same (SV.row z0 a)∧(SV.si .i64 n).same (SV.si .i64 n)∧z1.same z1∧(SV.il .i64 0).same (SV.si .i64 0)∧True)∧z2.same z2∧True)∧(0:Int)≤(0:Int)∧(0:Int)≤n)∧∀(x:Int),let z3:=List.replicate x.toNat (0:Int);let z4:=z3.length+1;let z5:=x+(1:Int);let z6:=SV.si .i64 z5;let z7:=z3.length+a.length;(0:Int)≤x∧x≤n→(decide (x<n)=true→x.toNat=z3.length∧z4*4≤140737488355328∧z4≤1000000000000∧inR .i64 z5∧(((SV.row z0 a).same (SV.row z0 a)∧(SV.si .i64 n).same (SV.si .i64 n)∧(SV.ow 0 (z3++[(0:Int)]).length 1).same (SV.ow 0 z5.toNat 1)∧z6.same z6∧True)∧(SObj.row z0 (z3++[(0:Int)]) 81 true).same (SObj.row z0 (List.replicate z5.toNat (0:Int)) 81 true)∧True)∧((0:Int)≤z5∧z5≤n)∧(n - z5).toNat<(n - x).toNat)∧(decide (x<n)=false→x.toNat=z3.length∧z7*4≤140737488355328∧z7≤1000000000000∧((z3++a).length=(z3++a).length∧Dig (z3++a)∧(z3++a).length≤100000000000)∧(SV.row z0 (natL (valN (z3++a)))).same (SV.row z0 (natL (valN a*(4294967296:Int)^n.toNat))))) (by kernel_rfl) ?_
 simp only[vcs]
 refine⟨⟨by omega,by omega⟩,?_⟩
 rintro i ⟨i0,i1⟩
 have hr:(List.replicate i.toNat (0:Int)).length=i.toNat:=by simp
 have hrs:List.replicate i.toNat (0:Int)++[0]=List.replicate (i+1).toNat 0:=by rw[show(i+1).toNat=i.toNat+1 by omega,List.replicate_succ']
 have hda:(List.replicate i.toNat (0:Int)++a).length=i.toNat+a.length:=by simp
 have hl2:@List.length (SId.T (.i .u32)) a≤10000000000:=hl
 rw[hrs]
 refine⟨fun hi=>?_,fun hi=>?_⟩
 ·repeat' refine And.intro ?_ ?_
  all_goals first|omega|exact howN (by simp)|rfl
 ·rw[rep_app,hda,show i.toNat=n.toNat by omega]
  simp only[List.length_replicate]
  repeat' refine And.intro ?_ ?_
  all_goals first|omega|exact dig_app rep_dig ha|rfl|trivial
def r137:SCtr:=⟨59,List Int×Int,.cons (codR (.i .u32)) (.one (codI .u64)),fun a=>Dig a.1∧a.1.length≤10000000000∧0≤a.2∧a.2<4294967296,fun a=> .row (.i .u32) (natL (valN a.1*a.2))⟩
def Λ137 (a:List Int×Int):Nat→LoopAnn
 |4=> .inv (Int×Int×List Int) (fun x=>⟨[(0,.row (.i .u32) a.1),(1,.si .u64 a.2),(5,.ow 0 x.2.2.length 1),(6,.si .u64 x.2.1),(7,.si .i64 x.1)],[.row (.i .u32) x.2.2 81 true]⟩)
  (fun s=>(iS s 7,iS s 6,oS (.i .u32) s 0))
  (fun x=>(0≤x.1∧x.1≤(a.1.length:Int)+1)∧(0≤x.2.1∧x.2.1<4294967296)∧(Dig x.2.2∧(x.2.2.length:Int)=x.1)∧valN x.2.2+4294967296^x.1.toNat*x.2.1=valN (a.1.take x.1.toNat)*a.2)
  (fun x=>((a.1.length:Int)+1 - x.1).toNat) fun _ _=> .look
 |_=> .look
theorem h137:Holds Try.prog r137:=by
 refine con0 (L:=[r139,r140]) r137 Λ137 (by simpa using⟨h139,h140⟩) ?_
 rintro⟨a,d⟩ ⟨ha,hla,d0,d1⟩
 simp only at ha hla d0 d1
 refine vcOf (let z0:=SId.i .u32;let z1:=SV.ow 0 0 1;let z2:=SObj.row z0 [] 81 true;let z3:=(↑a.length:Int)+(1:Int);((((SV.row z0 a).same (SV.row z0 a)∧(SV.si .u64 d).same (SV.si .u64 d)∧z1.same z1∧(SV.il .u64 0).same (SV.si .u64 0)∧(SV.il .i64 0).same (SV.si .i64 0)∧True)∧z2.same z2∧True)∧((0:Int)≤(0:Int)∧(0:Int)≤z3)∧((0:Int)≤(0:Int)∧(0:Int)<(4294967296:Int))∧(Dig []∧(0:Int)=(0:Int))∧(0:Int)=valN []*d)∧∀(x:Int×Int×List Int),let z4:=x.snd.snd.length;let z5:=decide (x.fst≤(↑a.length:Int));let z6:=x.snd.snd.length+1;let z7:=(nthD a x.fst.toNat (0:Int)*d % (18446744073709551616:Int)+x.snd.fst) % (18446744073709551616:Int);let z8:=z7.tdiv (4294967296:Int);let z9:=x.fst+(1:Int);let z10:=x.snd.snd++[z7.tmod (4294967296:Int) % (4294967296:Int)];let z11:=SV.si .u64 z8;let z12:=SV.si .i64 z9;let z13:=SObj.row z0 z10 81 true;((0:Int)≤x.fst∧x.fst≤z3)∧((0:Int)≤x.snd.fst∧x.snd.fst<(4294967296:Int))∧(Dig x.snd.snd∧(↑z4:Int)=x.fst)∧valN x.snd.snd+(4294967296:Int)^x.fst.toNat*x.snd.fst=valN (List.take x.fst.toNat a)*d→(z5=true→(Dig a∧(0:Int)≤x.fst)∧(4294967296:Int)≠(0:Int)∧z4=x.snd.snd.length∧z6*4≤140737488355328∧z6≤1000000000000∧(4294967296:Int)≠(0:Int)∧inR .u64 z8∧inR .i64 z9∧(((SV.row z0 a).same (SV.row z0 a)∧(SV.si .u64 d).same (SV.si .u64 d)∧(SV.ow 0 z10.length 1).same (SV.ow 0 z10.length 1)∧z11.same z11∧z12.same z12∧True)∧z13.same z13∧True)∧(((0:Int)≤z9∧z9≤z3)∧((0:Int)≤z8∧z8<(4294967296:Int))∧(Dig z10∧(↑z10.length:Int)=z9)∧valN z10+(4294967296:Int)^z9.toNat*z8=valN (List.take z9.toNat a)*d)∧(z3 - z9).toNat<(z3 - x.fst).toNat)∧(z5=false→z4=x.snd.snd.length∧(Dig x.snd.snd∧z4≤100000000000)∧(SV.row z0 (natL (valN x.snd.snd))).same (SV.row z0 (natL (valN a*d))))) (by kernel_rfl) ?_
 simp only[vcs]
 refine⟨⟨by omega,by omega,by simp[Dig],by simp[valN]⟩,?_⟩
 rintro⟨i,c,out⟩ ⟨⟨i0,i1⟩,⟨c0,c1⟩,⟨ho,hlo⟩,hv⟩
 simp only at i0 i1 c0 c1 ho hlo hv ⊢
 refine⟨fun hi=>?_,fun hi=>?_⟩
 ·have x:=dig_nth ha i.toNat
  have t0:0≤nthD a i.toNat 0*d:=Int.mul_nonneg x.1 d0
  have t1:nthD a i.toNat 0*d≤4294967295*4294967295:=Int.mul_le_mul (by omega) (by omega) d0 (by omega)
  have e1:(nthD a i.toNat 0*d % 18446744073709551616+c) % 18446744073709551616=nthD a i.toNat 0*d+c:=by omega
  have e2:(i+1).toNat=i.toNat+1:=by omega
  rw[e1,e2,Int.tdiv_eq_ediv_of_nonneg (by omega),Int.tmod_eq_emod_of_nonneg (by omega)]
  have hval:valN (out++[(nthD a i.toNat 0*d+c) % 4294967296 % 4294967296])+4294967296^(i.toNat+1)*((nthD a i.toNat 0*d+c) / 4294967296)=valN (a.take (i.toNat+1))*d:=by
   rw[val_snoc,take_snoc0,show out.length=i.toNat by omega,Int.pow_succ,Int.add_mul,Int.mul_assoc (4294967296^i.toNat) (nthD a i.toNat 0) d]
   generalize (4294967296:Int)^i.toNat=B at*
   generalize hs:nthD a i.toNat 0*d=s at*
   have e:B*4294967296*((s+c) / 4294967296)=B*(s+c - (s+c) % 4294967296 % 4294967296):=by rw[Int.mul_assoc];congr 1;omega
   rw[e]
   simp only[Int.mul_add,Int.mul_sub]
   omega
  have hdg:Dig (out++[(nthD a i.toNat 0*d+c) % 4294967296 % 4294967296]):=dig_app ho (dig_one (by omega) (by omega))
  repeat' refine And.intro ?_ ?_
  all_goals first|omega|exact ha|exact u64_in (by omega) (by omega)|exact hval|exact hdg|(simp;omega)
 ·have hi2:i.toNat=a.length+1:=by omega
  rw[hi2,List.take_of_length_le (by omega)] at hv
  have hn:=val_nonneg ho
  have hb:=val_bdN ha
  have hc:c=0:=by
   by_cases h:c=0
   ·exact h
   ·have h1:=Int.mul_le_mul_of_nonneg_left (show(1:Int)≤c by omega) (Int.le_of_lt (pow_pos (a.length+1)))
    have h2:valN a*d<4294967296^a.length*4294967296:=Int.lt_of_le_of_lt (Int.mul_le_mul_of_nonneg_left (Int.le_of_lt d1) (val_nonneg ha)) (Int.mul_lt_mul_of_pos_right hb (by decide))
    rw[Int.mul_one,Int.pow_succ] at h1
    rw[Int.pow_succ] at hv
    omega
  rw[hc,Int.mul_zero,Int.add_zero] at hv
  rw[hv]
  repeat' refine And.intro ?_ ?_
  all_goals first|omega|exact ho|rfl
def r104:SCtr:=⟨35,List Int×List Int,.cons (codR (.i .u32)) (.one (codR (.i .u32))),fun a=>(Dig a.1∧Dig a.2)∧a.1.length≤1000000000∧a.2.length≤1000000000,fun a=> .row (.i .u32) (natL (valN a.1*valN a.2))⟩
def Λ104 (a:List Int×List Int):Nat→LoopAnn
 |3=> .inv (Int×List Int) (fun x=>⟨[(0,.row (.i .u32) a.1),(1,.row (.i .u32) a.2),(5,.row (.i .u32) x.2),(6,.si .i64 x.1)],[.dead]⟩)
  (fun s=>(iS s 6,rS (.i .u32) s 5))
  (fun x=>(0≤x.1∧x.1≤(a.2.length:Int))∧x.2=natL (valN a.1*valN (a.2.take x.1.toNat))) (fun x=>((a.2.length:Int) - x.1).toNat) fun _ _=> .look
 |_=> .look
theorem h104:Holds Try.prog r104:=by
 refine con0 (L:=[r106,r136,r137]) r104 Λ104 (by simpa using⟨h106,h136,h137⟩) ?_
 rintro⟨a,b⟩ ⟨⟨ha,hb⟩,hla,hlb⟩
 simp only at ha hb hla hlb
 refine vcOf (let z0:=SId.i .u32;let z1:=(↑b.length:Int);0=0∧((((SV.row z0 a).same (SV.row z0 a)∧(SV.row z0 b).same (SV.row z0 b)∧(SV.row z0 []).same (SV.row z0 [])∧(SV.il .i64 0).same (SV.si .i64 0)∧True)∧SObj.dead.same SObj.dead∧True)∧((0:Int)≤(0:Int)∧(0:Int)≤z1)∧[]=natL (valN a*valN []))∧∀(x:Int×List Int),let z2:=x.fst.toNat;let z3:=decide (x.fst<(↑b.length:Int));let z4:=nthD b z2 (0:Int) % (18446744073709551616:Int);let z5:=natL (valN a*z4);let z6:=natL (valN z5*(4294967296:Int)^z2);let z7:=x.fst+(1:Int);let z8:=natL (valN x.snd+valN z6);let z9:=SV.si .i64 z7;((0:Int)≤x.fst∧x.fst≤z1)∧x.snd=natL (valN a*valN (List.take z2 b))→(z3=true→(0:Int)≤x.fst∧x.fst<(↑b.length:Int)∧z2<b.length∧(Dig a∧a.length≤10000000000∧(0:Int)≤z4∧z4<(4294967296:Int))∧(Dig z5∧z5.length≤10000000000∧(0:Int)≤x.fst∧x.fst≤(10000000000:Int))∧((Dig x.snd∧Dig z6)∧x.snd.length≤10000000000∧z6.length≤10000000000)∧inR .i64 z7∧(((SV.row z0 a).same (SV.row z0 a)∧(SV.row z0 b).same (SV.row z0 b)∧(SV.row z0 z8).same (SV.row z0 z8)∧z9.same z9∧True)∧SObj.dead.same SObj.dead∧True)∧(((0:Int)≤z7∧z7≤z1)∧z8=natL (valN a*valN (List.take z7.toNat b)))∧(z1 - z7).toNat<(z1 - x.fst).toNat)∧(z3=false→(SV.row z0 x.snd).same (SV.row z0 (natL (valN a*valN b))))) (by kernel_rfl) ?_
 simp only[vcs]
 have pa:=val_nonneg ha
 refine⟨⟨⟨by omega,by omega⟩,by simp[valN,natL,natF]⟩,?_⟩
 rintro⟨i,o⟩ ⟨⟨i0,i1⟩,ho⟩
 simp only at i0 i1 ho ⊢
 subst ho
 have pb:=val_nonneg (dig_take hb i.toNat)
 have hb1:=val_bdN (dig_take hb i.toNat)
 rw[List.length_take,Nat.min_eq_left (by omega)] at hb1
 have ha1:=val_bdN ha
 have pab:=Int.mul_nonneg pa pb
 obtain⟨u1,u2,u3⟩:=natL_ok pab
 have ul:=mul_len pa pb ha1 hb1
 refine⟨fun hi=>?_,fun hi=>?_⟩
 ·have x:=dig_nth hb i.toNat
  have e1:nthD b i.toNat 0 % 18446744073709551616=nthD b i.toNat 0:=by omega
  have e2:(i+1).toNat=i.toNat+1:=by omega
  have p1:=Int.mul_nonneg pa x.1
  obtain⟨w1,w2,w3⟩:=natL_ok p1
  have wl:=mul_len (j:=1) pa x.1 ha1 (by rw[Int.pow_succ,Int.pow_zero,Int.one_mul];exact x.2)
  have p2:0≤valN a*nthD b i.toNat 0*4294967296^i.toNat:=Int.mul_nonneg p1 (Int.le_of_lt (pow_pos _))
  obtain⟨z1,z2,z3⟩:=natL_ok p2
  have zl:=mul_len (j:=i.toNat+1) p1 (Int.le_of_lt (pow_pos i.toNat)) (show valN a*nthD b i.toNat 0<4294967296^(a.length+1) from mul_lt_pow pa ha1 (by rw[Int.pow_succ,Int.pow_zero,Int.one_mul];exact x.2)) (by
   have:=pow_pos i.toNat
   rw[Int.pow_succ];omega)
  have hfin:valN a*valN (b.take i.toNat)+valN a*nthD b i.toNat 0*4294967296^i.toNat=valN a*valN (b.take (i.toNat+1)):=by
   rw[take_snoc0,Int.mul_add,Int.mul_assoc (valN a) (nthD b i.toNat 0),Int.mul_comm (nthD b i.toNat 0)]
  rw[e1,e2,w1,z1,u1,hfin]
  repeat' refine And.intro ?_ ?_
  all_goals first|omega|exact ha|exact w2|exact u2|exact z2|rfl
 ·rw[show i.toNat=b.length by omega,List.take_length]
theorem nth_div:∀{j:Nat} {a:List Int},Dig a→valN a / 4294967296^j % 4294967296=nthD a j 0
 |0,a,h=>by
  have:=dig_nth h 0
  grind[val_tl]
 |j+1,a,h=>by
  have c:=dig_nth h 0
  have b:=@nth_div j a.tail (dig_tl h)
  have e:valN a / 4294967296=valN a.tail:=by grind[val_tl]
  rw[Int.pow_succ,Int.mul_comm (4294967296^j),←Int.ediv_ediv_of_nonneg (by decide),e,b,nth_tl]
theorem two_split {q r:Nat}:(2:Int)^(32*q+r)=4294967296^q*2^r:=by
 rw[Int.pow_add,Int.pow_mul]
 rfl
theorem cut_div {x:Int} {r m:Nat} (h:r≤m):x % 2^m / 2^r=x / 2^r % 2^(m - r):=by
 obtain⟨k,rfl⟩:=Nat.exists_eq_add_of_le h
 have c:(0:Int)<2^r:=Int.pow_pos (by decide)
 have f:(0:Int)<2^k:=Int.pow_pos (by decide)
 rw[Nat.add_sub_cancel_left,Int.pow_add]
 have j:=Int.mul_ediv_add_emod x (2^r)
 have n:=Int.mul_ediv_add_emod (x / 2^r) (2^k)
 have i:=Int.emod_nonneg x (show(2:Int)^r≠0 by omega)
 have e:=Int.emod_lt_of_pos x c
 have g:=Int.emod_nonneg (x / 2^r) (show(2:Int)^k≠0 by omega)
 have l:=Int.emod_lt_of_pos (x / 2^r) f
 generalize x / 2^r % 2^k=s at*
 generalize x / 2^r / 2^k=t at*
 generalize x / 2^r=y at*
 generalize x % 2^r=u at*
 have d:x=(2^r*s+u)+(2^r*2^k)*t:=by
  grind
 have b:2^r*s+u<2^r*2^k:=by
  have:=Int.mul_le_mul_of_nonneg_left (show s+1≤2^k by omega) (Int.le_of_lt c)
  grind
 have a:0≤2^r*s+u:=by
  have:=Int.mul_nonneg (Int.le_of_lt c) g
  omega
 rw[d,Int.add_mul_emod_self_left,Int.emod_eq_of_lt a b,Int.add_comm,Int.add_mul_ediv_left _ _ (by omega),Int.ediv_eq_zero_of_lt i e,Int.zero_add]
theorem mod_mod_two {x:Int} {j k:Nat} (h:j≤k):x % 2^k % 2^j=x % 2^j:=by
 obtain⟨m,rfl⟩:=Nat.exists_eq_add_of_le h
 rw[Int.pow_add]
 simp_all
def bitQ (v:Int) (i:Nat):Int:=v / 2^i % 2
theorem bit_eq {a:List Int} {i:Nat} (h:Dig a):nthD a (i / 32) 0 / 2^(i % 32) % 2=bitQ (valN a) i:=by
 unfold bitQ
 have e:(2:Int)^i=4294967296^(i / 32)*2^(i % 32):=by
  rw[←two_split];congr 1;omega
 have b:(0:Int)<4294967296^(i / 32):=pow_pos _
 rw[e,←Int.ediv_ediv_of_nonneg (Int.le_of_lt b),←nth_div h]
 have:=cut_div (x:=valN a / 4294967296^(i / 32)) (r:=i % 32) (m:=32) (by omega)
 rw[show(2:Int)^32=4294967296 from rfl] at this
 rw[this]
 have c:=mod_mod_two (x:=valN a / 4294967296^(i / 32) / 2^(i % 32)) (j:=1) (k:=32 - i % 32) (by omega)
 omega
theorem dig2 {a:List Int} {i r:Nat} (h:Dig a) (d:r<32):(nthD a i 0+nthD a (i+1) 0*4294967296) / 2^r % 4294967296=valN a / 2^(32*i+r) % 4294967296:=by
 have b:(0:Int)<4294967296^i:=pow_pos _
 rw[two_split,←Int.ediv_ediv_of_nonneg (Int.le_of_lt b),←nth_div h,←nth_div h,Int.pow_succ,←Int.ediv_ediv_of_nonneg (Int.le_of_lt b)]
 generalize valN a / 4294967296^i=y
 have e:y % 4294967296+y / 4294967296 % 4294967296*4294967296=y % 18446744073709551616:=by omega
 rw[e]
 have:=cut_div (x:=y) (r:=r) (m:=64) (by omega)
 rw[show(2:Int)^64=18446744073709551616 from rfl] at this
 rw[this]
 have c:=mod_mod_two (x:=y / 2^r) (j:=32) (k:=64 - r) (by omega)
 omega
def bitsN (v:Int):Int:=if v=0 then 0 else(v.toNat.log2+1:Nat)
theorem two_mono {a b:Nat} (h:a≤b):(2:Int)^a≤2^b:=by
 obtain⟨m,rfl⟩:=Nat.exists_eq_add_of_le h
 rw[Int.pow_add]
 have c:(0:Int)<2^a:=Int.pow_pos (by decide)
 have d:(0:Int)<2^m:=Int.pow_pos (by decide)
 have:=Int.mul_le_mul_of_nonneg_left (show(1:Int)≤2^m by omega) (Int.le_of_lt c)
 omega
theorem bits_ok {v:Int} (h:0≤v):0≤bitsN v∧v<2^(bitsN v).toNat∧(bitsN v=0∨2^((bitsN v).toNat - 1)≤v):=by
 unfold bitsN
 split
 ·simp_all
 ·rename_i c
  have a:=@Nat.lt_log2_self v.toNat
  have b:=Nat.log2_self_le (show v.toNat≠0 by omega)
  grind
theorem bits_eq {v:Int} {n:Nat} (d:0≤v) (f:v<2^n) (b:n=0∨2^(n - 1)≤v):(n:Int)=bitsN v:=by
 obtain⟨g,h,a⟩:=bits_ok d
 by_cases e:n<(bitsN v).toNat
 ·rcases a with a|a
  ·omega
  ·have:=two_mono (show n≤(bitsN v).toNat - 1 by omega)
   omega
 ·by_cases c:(bitsN v).toNat<n
  ·rcases b with b|b
   ·omega
   ·have:=two_mono (show(bitsN v).toNat≤n - 1 by omega)
    omega
  ·omega
def r162:SCtr:=⟨84,List Int×Int,.cons (codR (.i .u32)) (.one (codI .i64)),fun a=>Dig a.1∧0≤a.2∧a.2≤1000000000000,fun a=> .si .u64 (bitQ (valN a.1) a.2.toNat)⟩
theorem h162:Holds Try.prog r162:=by
 refine con0 (L:=[r139]) r162 lk (by simpa using h139) ?_
 rintro⟨a,i⟩ ⟨ha,hi,hi2⟩
 simp only at ha hi hi2
 refine vcOf (let z0:=i.tdiv (32:Int);let z1:=i.tmod (32:Int);let z2:=(1:Int)*(2:Int)^z1.toNat % (18446744073709551616:Int);let z3:=(nthD a z0.toNat (0:Int)).tdiv z2;(32:Int)≠(0:Int)∧inR .i64 z0∧(Dig a∧(0:Int)≤z0)∧(32:Int)≠(0:Int)∧(0:Int)≤z1∧z1≤(64:Int)∧z2≠(0:Int)∧inR .u64 z3∧(2:Int)≠(0:Int)∧(SV.si .u64 (z3.tmod (2:Int))).same (SV.si .u64 (bitQ (valN a) i.toNat))) (by kernel_rfl) ?_
 simp only[vcs]
 rw[Int.tdiv_eq_ediv_of_nonneg hi,Int.tmod_eq_emod_of_nonneg hi]
 have t1:(i / 32).toNat=i.toNat / 32:=by omega
 have t2:(i % 32).toNat=i.toNat % 32:=by omega
 have hp:(0:Int)<2^(i.toNat % 32):=Int.pow_pos (by decide)
 have hp2:=two_mono (show i.toNat % 32≤32 by omega)
 rw[show(2:Int)^32=4294967296 from rfl] at hp2
 have t3:1*2^(i.toNat % 32) % 18446744073709551616=(2:Int)^(i.toNat % 32):=by omega
 have hd:=dig_nth ha (i.toNat / 32)
 have hq:0≤nthD a (i.toNat / 32) 0 / 2^(i.toNat % 32):=Int.ediv_nonneg hd.1 (Int.le_of_lt hp)
 have hq2:nthD a (i.toNat / 32) 0 / 2^(i.toNat % 32)≤nthD a (i.toNat / 32) 0:=Int.ediv_le_self _ hd.1
 rw[t1,t2,t3,Int.tdiv_eq_ediv_of_nonneg hd.1,Int.tmod_eq_emod_of_nonneg hq,bit_eq ha]
 repeat' refine And.intro ?_ ?_
 all_goals first|omega|exact ha|exact u64_in hq (by omega)|rfl
def r160:SCtr:=⟨81,List Int,.one (codR (.i .u32)),fun a=>Dig a∧a.length≤10000000000,fun a=> .si .i64 (bitsN (valN a))⟩
def Λ160 (a:List Int):Nat→LoopAnn
 |2=> .inv Int (fun n=>⟨[(0,.row (.i .u32) a),(3,.si .i64 n)],[]⟩) (fun s=>iS s 3) (fun n=>0≤n∧n≤32*(a.length:Int)∧valN a<2^n.toNat) (fun n=>n.toNat) fun _ _=> .look
 |_=> .look
theorem h160:Holds Try.prog r160:=by
 refine con0 (L:=[r162]) r160 Λ160 (by simpa using h162) ?_
 intro(a:List Int) h
 obtain⟨ha,hl⟩:Dig a∧a.length≤10000000000:=h
 refine vcOf (let z0:=(32:Int)*(↑a.length:Int);let z1:=SV.row (SId.i .u32) a;let z2:=SV.si .i64 z0;let z3:=(32:Int)*(↑a.length:Int);let z4:=SV.si .i64 (bitsN (valN a));inR .i64 z0∧(((z1.same z1∧z2.same z2∧True)∧True)∧(0:Int)≤z0∧z0≤z3∧valN a<(2:Int)^z0.toNat)∧∀(x:Int),let z5:=decide ((0:Int)<x);let z6:=x - (1:Int);let z7:=decide (bitQ (valN a) z6.toNat=(0:Int));let z8:=SV.si .i64 z6;(0:Int)≤x∧x≤z3∧valN a<(2:Int)^x.toNat→(z5=true→inR .i64 z6∧(Dig a∧(0:Int)≤z6∧z6≤(1000000000000:Int))∧(z7=true→inR .i64 z6∧((z1.same z1∧z8.same z8∧True)∧True)∧((0:Int)≤z6∧z6≤z3∧valN a<(2:Int)^z6.toNat)∧z6.toNat<x.toNat)∧(z7=false→(SV.si .i64 x).same z4))∧(z5=false→(SV.si .i64 x).same z4)) (by kernel_rfl) ?_
 simp only[vcs]
 have pa:=val_nonneg ha
 refine⟨by omega,⟨by omega,by omega,?_⟩,?_⟩
 ·have:=val_bdN ha
  have e:(32*(a.length:Int)).toNat=32*a.length+0:=by omega
  rw[e,two_split]
  omega
 rintro n ⟨n0,n1,hv⟩
 refine⟨fun hn=>⟨by omega,⟨ha,by omega,by omega⟩,fun hb=>⟨by omega,⟨by omega,by omega,?_⟩,by omega⟩,fun hb=>?_⟩,fun hn=>?_⟩
 ·have e:n.toNat=(n - 1).toNat+1:=by omega
  rw[e,Int.pow_succ] at hv
  unfold bitQ at hb
  generalize (n - 1).toNat=m at*
  have hp:(0:Int)<2^m:=Int.pow_pos (by decide)
  have h1:valN a / 2^m<2:=Int.ediv_lt_of_lt_mul hp (by rw[Int.mul_comm];exact hv)
  have h2:0≤valN a / 2^m:=Int.ediv_nonneg pa (Int.le_of_lt hp)
  have h3:valN a / 2^m=0:=by omega
  have h4:=Int.mul_ediv_add_emod (valN a) (2^m)
  have h5:=Int.emod_lt_of_pos (valN a) hp
  rw[h3,Int.mul_zero] at h4
  omega
 ·have:=bits_eq pa hv (.inr ?_)
  ·omega
  ·by_cases h:2^(n.toNat - 1)≤valN a
   ·exact h
   ·exfalso
    apply hb
    unfold bitQ
    rw[show(n - 1).toNat=n.toNat - 1 by omega,Int.ediv_eq_zero_of_lt pa (by omega)]
    rfl
 ·have:=bits_eq pa hv (.inl (by omega))
  omega
def r161:SCtr:=⟨82,List Int×Int,.cons (codR (.i .u32)) (.one (codI .i64)),fun a=>(Dig a.1∧a.1.length≤10000000000)∧0≤a.2∧a.2≤1000000000000,fun a=> .row (.i .u32) (natL (valN a.1 / 2^a.2.toNat))⟩
def Λ161 (a:List Int×Int):Nat→LoopAnn
 |3=> .inv (Int×List Int) (fun x=>⟨[(0,.row (.i .u32) a.1),(1,.si .i64 a.2),(5,.ow 0 x.2.length 1),(6,.si .i64 x.1)],[.row (.i .u32) x.2 81 true]⟩) (fun s=>(iS s 6,oS (.i .u32) s 0))
  (fun x=>(a.2 / 32≤x.1∧x.1≤max (a.2 / 32) a.1.length)∧Dig x.2∧(x.2.length:Int)=x.1 - a.2 / 32∧valN x.2=valN a.1 / 2^a.2.toNat % 4294967296^x.2.length) (fun x=>(max (a.2 / 32) a.1.length - x.1).toNat) fun _ _=> .look
 |_=> .look
theorem h161:Holds Try.prog r161:=by
 refine con0 (L:=[r139,r140]) r161 Λ161 (by simpa using⟨h139,h140⟩) ?_
 rintro⟨a,k⟩ ⟨⟨ha,hla⟩,k0,k1⟩
 simp only at ha hla k0 k1
 refine vcOf (let z0:=k.tdiv (32:Int);let z1:=SId.i .u32;let z2:=SV.ow 0 0 1;let z3:=SV.si .i64 z0;let z4:=SObj.row z1 [] 81 true;let z5:=k / (32:Int);let z6:=max z5 (↑a.length:Int);let z7:=valN a / (2:Int)^k.toNat;let z8:=k.tmod (32:Int);let z9:=(1:Int)*(2:Int)^z8.toNat % (18446744073709551616:Int);(32:Int)≠(0:Int)∧inR .i64 z0∧((((SV.row z1 a).same (SV.row z1 a)∧(SV.si .i64 k).same (SV.si .i64 k)∧z2.same z2∧z3.same z3∧True)∧z4.same z4∧True)∧(z5≤z0∧z0≤z6)∧Dig []∧(0:Int)=z0 - z5∧valN []=z7 % (1:Int))∧∀(x:Int×List Int),let z10:=x.snd.length;let z11:=decide (x.fst<(↑a.length:Int));let z12:=x.fst+(1:Int);let z13:=((nthD a x.fst.toNat (0:Int)+nthD a z12.toNat (0:Int)*(4294967296:Int) % (18446744073709551616:Int)) % (18446744073709551616:Int)).tdiv z9;let z14:=x.snd.length+1;let z15:=x.snd++[z13.tmod (4294967296:Int) % (4294967296:Int)];let z16:=SV.si .i64 z12;let z17:=SObj.row z1 z15 81 true;(z5≤x.fst∧x.fst≤z6)∧Dig x.snd∧(↑z10:Int)=x.fst - z5∧valN x.snd=z7 % (4294967296:Int)^z10→(z11=true→(Dig a∧(0:Int)≤x.fst)∧inR .i64 z12∧(Dig a∧(0:Int)≤z12)∧(32:Int)≠(0:Int)∧(0:Int)≤z8∧z8≤(64:Int)∧z9≠(0:Int)∧inR .u64 z13∧(4294967296:Int)≠(0:Int)∧z10=x.snd.length∧z14*4≤140737488355328∧z14≤1000000000000∧inR .i64 z12∧(((SV.row z1 a).same (SV.row z1 a)∧(SV.si .i64 k).same (SV.si .i64 k)∧(SV.ow 0 z15.length 1).same (SV.ow 0 z15.length 1)∧z16.same z16∧True)∧z17.same z17∧True)∧((z5≤z12∧z12≤z6)∧Dig z15∧(↑z15.length:Int)=z12 - z5∧valN z15=z7 % (4294967296:Int)^z15.length)∧(z6 - z12).toNat<(z6 - x.fst).toNat)∧(z11=false→z10=x.snd.length∧(Dig x.snd∧z10≤100000000000)∧(SV.row z1 (natL (valN x.snd))).same (SV.row z1 (natL z7)))) (by kernel_rfl) ?_
 simp only[vcs]
 rw[Int.tdiv_eq_ediv_of_nonneg k0,Int.tmod_eq_emod_of_nonneg k0]
 have pa:=val_nonneg ha
 have t2:(k % 32).toNat=k.toNat % 32:=by omega
 have hp:(0:Int)<2^(k.toNat % 32):=Int.pow_pos (by decide)
 have hp2:=two_mono (show k.toNat % 32≤32 by omega)
 rw[show(2:Int)^32=4294967296 from rfl] at hp2
 have t3:1*2^(k.toNat % 32) % 18446744073709551616=(2:Int)^(k.toNat % 32):=by omega
 have hpk:(0:Int)<2^k.toNat:=Int.pow_pos (by decide)
 have pX:0≤valN a / 2^k.toNat:=Int.ediv_nonneg pa (Int.le_of_lt hpk)
 refine⟨by omega,by omega,⟨⟨by omega,by omega⟩,by simp[Dig],by omega,by rw[Int.emod_one];rfl⟩,?_⟩
 rintro⟨i,out⟩ ⟨⟨i0,i1⟩,ho,hlo,hv⟩
 simp only at i0 i1 ho hlo hv ⊢
 rw[t2,t3]
 refine⟨fun hi=>?_,fun hi=>?_⟩
 ·have x:=dig_nth ha i.toNat
  have y:=dig_nth ha (i.toNat+1)
  have e1:(i+1).toNat=i.toNat+1:=by omega
  have e2:(nthD a i.toNat 0+nthD a (i.toNat+1) 0*4294967296 % 18446744073709551616) % 18446744073709551616=nthD a i.toNat 0+nthD a (i.toNat+1) 0*4294967296:=by omega
  have hs0:0≤nthD a i.toNat 0+nthD a (i.toNat+1) 0*4294967296:=by omega
  have hq:0≤(nthD a i.toNat 0+nthD a (i.toNat+1) 0*4294967296) / 2^(k.toNat % 32):=Int.ediv_nonneg hs0 (Int.le_of_lt hp)
  have hq2:(nthD a i.toNat 0+nthD a (i.toNat+1) 0*4294967296) / 2^(k.toNat % 32)≤nthD a i.toNat 0+nthD a (i.toNat+1) 0*4294967296:=Int.ediv_le_self _ hs0
  have hd2:=dig2 (i:=i.toNat) (r:=k.toNat % 32) ha (by omega)
  have hin:inR .u64 ((nthD a i.toNat 0+nthD a (i.toNat+1) 0*4294967296) / 2^(k.toNat % 32)):=u64_in hq (by omega)
  rw[e1,e2,Int.tdiv_eq_ediv_of_nonneg hs0,Int.tmod_eq_emod_of_nonneg hq,hd2]
  have hm:valN a / 2^(32*i.toNat+k.toNat % 32) % 4294967296 % 4294967296=valN a / 2^k.toNat / 4294967296^out.length % 4294967296:=by
   rw[Int.emod_emod_of_dvd _ (Int.dvd_refl _)]
   have e3:(2:Int)^(32*i.toNat+k.toNat % 32)=2^k.toNat*4294967296^out.length:=by
    rw[two_split]
    have:(2:Int)^k.toNat=4294967296^(k.toNat / 32)*2^(k.toNat % 32):=by rw[←two_split];congr 1;omega
    rw[this,show i.toNat=k.toNat / 32+out.length by omega,Int.pow_add,Int.mul_assoc,Int.mul_comm (4294967296^out.length),←Int.mul_assoc]
   rw[e3,←Int.ediv_ediv_of_nonneg (Int.le_of_lt hpk)]
  rw[hm]
  have hd0:=Int.emod_nonneg (valN a / 2^k.toNat / 4294967296^out.length) (show(4294967296:Int)≠0 by decide)
  have hd1:=Int.emod_lt_of_pos (valN a / 2^k.toNat / 4294967296^out.length) (show(0:Int)<4294967296 by decide)
  have hval:valN (out++[valN a / 2^k.toNat / 4294967296^out.length % 4294967296])=valN a / 2^k.toNat % 4294967296^(out.length+1):=by
   rw[val_snoc,hv]
   have:=cut_div (x:=valN a / 2^k.toNat) (r:=32*out.length+0) (m:=32*(out.length+1)+0) (by omega)
   rw[two_split,two_split,Int.pow_zero,Int.mul_one,Int.mul_one,show 32*(out.length+1)+0 - (32*out.length+0)=32 by omega,show(2:Int)^32=4294967296 from rfl] at this
   rw[←this]
   have h1:=Int.mul_ediv_add_emod (valN a / 2^k.toNat % 4294967296^(out.length+1)) (4294967296^out.length)
   have h2:valN a / 2^k.toNat % 4294967296^(out.length+1) % 4294967296^out.length=valN a / 2^k.toNat % 4294967296^out.length:=by
    rw[Int.pow_succ]
    exact Int.emod_emod_of_dvd _ (Int.dvd_mul_right _ _)
   omega
  have hlen:(out++[valN a / 2^k.toNat / 4294967296^out.length % 4294967296]).length=out.length+1:=by simp
  have hdg:Dig (out++[valN a / 2^k.toNat / 4294967296^out.length % 4294967296]):=dig_app ho (dig_one (by omega) (by omega))
  rw[hlen]
  repeat' refine And.intro ?_ ?_
  all_goals first|omega|exact ha|exact hin|exact hdg|exact hval|rfl
 ·have hX:valN a / 2^k.toNat<4294967296^out.length:=by
   refine Int.ediv_lt_of_lt_mul hpk ?_
   have h1:=val_bdN ha
   have h2:=pow_mono (show a.length≤k.toNat / 32+out.length by omega)
   rw[Int.pow_add] at h2
   have h3:(4294967296:Int)^(k.toNat / 32)≤2^k.toNat:=by
    have:=two_mono (show 32*(k.toNat / 32)+0≤k.toNat by omega)
    rwa [two_split,Int.pow_zero,Int.mul_one] at this
   have h4:=Int.mul_le_mul_of_nonneg_right h3 (Int.le_of_lt (pow_pos out.length))
   rw[Int.mul_comm (2^k.toNat)] at h4
   first|omega|(rw[Int.mul_comm];omega)
  rw[Int.emod_eq_of_lt pX hX] at hv
  rw[hv]
  repeat' refine And.intro ?_ ?_
  all_goals first|omega|exact ho|rfl
theorem bits_le {a:List Int} (h:Dig a):bitsN (valN a)≤32*(a.length:Int):=by
 obtain⟨g,f,b⟩:=bits_ok (val_nonneg h)
 by_cases d:bitsN (valN a)≤32*(a.length:Int)
 ·exact d
 ·rcases b with b|b
  ·omega
  ·have e:=val_bdN h
   have c:=two_mono (show 32*a.length+0≤(bitsN (valN a)).toNat - 1 by omega)
   rw[two_split,Int.pow_zero,Int.mul_one] at c
   omega
def LR:List SCtr:=[r160,r161,r162,r106,r107,r141,r159]
theorem hLR:∀c∈LR,Holds Try.prog c:=by
 simp only[LR,List.forall_mem_cons,List.not_mem_nil,false_implies,implies_true,and_true]
 exact⟨h160,h161,h162,h106,h107,h141,h159⟩
def r138:SCtr:=⟨60,List Int×List Int,.cons (codR (.i .u32)) (.one (codR (.i .u32))),fun a=>(Dig a.1∧Dig a.2)∧(a.1.length≤1000000000∧a.2.length≤1000000000)∧0<valN a.2,
 fun a=> .tup [.row (.i .u32) (natL (valN a.1 / valN a.2)),.row (.i .u32) (natL (valN a.1 % valN a.2)),.si .i64 0]⟩
def Λ138 (a:List Int×List Int):Nat→LoopAnn
 |7=> .inv (Int×List Int×List Int) (fun x=>⟨[(0,.row (.i .u32) a.1),(1,.row (.i .u32) a.2),(8,.row (.i .u32) x.2.1),(9,.row (.i .u32) x.2.2),(10,.si .i64 x.1)],[.dead]⟩) (fun s=>(iS s 10,rS (.i .u32) s 8,rS (.i .u32) s 9))
  (fun x=>(-1≤x.1∧x.1≤100000000000)∧(Dig x.2.1∧Nrm x.2.1)∧(Dig x.2.2∧Nrm x.2.2)∧valN x.2.1*valN a.2+valN x.2.2=valN a.1 / 2^(x.1+1).toNat∧valN x.2.2<valN a.2) (fun x=>(x.1+1).toNat) fun _ _=> .look
 |_=> .look
theorem h138:Holds Try.prog r138:=by
 refine con0 (L:=LR) r138 Λ138 hLR ?_
 rintro⟨a,b⟩ ⟨⟨ha,hb⟩,⟨hla,hlb⟩,b0⟩
 simp only at ha hb hla hlb b0
 refine vcOf (let z0:=decide ((↑b.length:Int)=(0:Int));let z1:=SV.row (SId.i .i64) [];let z2:=SId.i .u32;let z3:=SV.tup [SV.row z2 (natL (valN a / valN b)),SV.row z2 (natL (valN a % valN b)),SV.si .i64 0];let z4:=bitsN (valN a) - max (1:Int) (bitsN (valN b));let z5:=max (0:Int) (z4+(1:Int));let z6:=z5 - (1:Int);let z7:=natL (valN a / (2:Int)^z5.toNat);let z8:=SV.si .i64 z6;let z9:=natL (1:Int);(z0=true→(SV.tup [z1,z1,SV.il .i64 8]).same z3)∧(z0=false→(Dig a∧a.length≤10000000000)∧(Dig b∧b.length≤10000000000)∧inR .i64 z4∧inR .i64 (z4+(1:Int))∧0=0∧((Dig a∧a.length≤10000000000)∧(0:Int)≤z5∧z5≤(1000000000000:Int))∧inR .i64 z6∧((((SV.row z2 a).same (SV.row z2 a)∧(SV.row z2 b).same (SV.row z2 b)∧(SV.row z2 []).same (SV.row z2 [])∧(SV.row z2 z7).same (SV.row z2 z7)∧z8.same z8∧True)∧SObj.dead.same SObj.dead∧True)∧((-1:Int)≤z6∧z6≤(100000000000:Int))∧(Dig []∧Nrm [])∧(Dig z7∧Nrm z7)∧valN []*valN b+valN z7=valN a / (2:Int)^(z6+(1:Int)).toNat∧valN z7<valN b)∧∀(x:Int×List Int×List Int),let z10:=valN x.snd.fst;let z11:=valN x.snd.snd;let z12:=(x.fst+(1:Int)).toNat;let z13:=decide ((0:Int)≤x.fst);let z14:=bitQ (valN a) x.fst.toNat;let z15:=natL (z11+z11);let z16:=natL (valN z15+valN (natL z14));let z17:=decide ((0:Int)≤cmpN (valN z16) (valN b));let z18:=natL (z10+z10);let z19:=x.fst - (1:Int);let z20:=natL (valN z18+valN z9);let z21:=natL (valN z16 - valN b);let z22:=SV.si .i64 z19;let z23:=(z19+(1:Int)).toNat;let z24:=valN a / (2:Int)^z23;((-1:Int)≤x.fst∧x.fst≤(100000000000:Int))∧(Dig x.snd.fst∧Nrm x.snd.fst)∧(Dig x.snd.snd∧Nrm x.snd.snd)∧z10*valN b+z11=valN a / (2:Int)^z12∧z11<valN b→(z13=true→((Dig x.snd.fst∧Dig x.snd.fst)∧x.snd.fst.length≤10000000000∧x.snd.fst.length≤10000000000)∧((Dig x.snd.snd∧Dig x.snd.snd)∧x.snd.snd.length≤10000000000∧x.snd.snd.length≤10000000000)∧(Dig a∧(0:Int)≤x.fst∧x.fst≤(1000000000000:Int))∧((0:Int)≤z14∧z14<(18446744073709551616:Int))∧((Dig z15∧Dig (natL z14))∧z15.length≤10000000000∧(natL z14).length≤10000000000)∧((Dig z16∧Dig b)∧z16.length≤1000000000000∧b.length≤1000000000000)∧(z17=true→((Dig z16∧Dig b)∧z16.length≤10000000000∧b.length≤10000000000)∧((0:Int)≤(1:Int)∧(1:Int)<(18446744073709551616:Int))∧((Dig z18∧Dig z9)∧z18.length≤10000000000∧z9.length≤10000000000)∧inR .i64 z19∧(((SV.row z2 a).same (SV.row z2 a)∧(SV.row z2 b).same (SV.row z2 b)∧(SV.row z2 z20).same (SV.row z2 z20)∧(SV.row z2 z21).same (SV.row z2 z21)∧z22.same z22∧True)∧SObj.dead.same SObj.dead∧True)∧(((-1:Int)≤z19∧z19≤(100000000000:Int))∧(Dig z20∧Nrm z20)∧(Dig z21∧Nrm z21)∧valN z20*valN b+valN z21=z24∧valN z21<valN b)∧z23<z12)∧(z17=false→inR .i64 z19∧(((SV.row z2 a).same (SV.row z2 a)∧(SV.row z2 b).same (SV.row z2 b)∧(SV.row z2 z18).same (SV.row z2 z18)∧(SV.row z2 z16).same (SV.row z2 z16)∧z22.same z22∧True)∧SObj.dead.same SObj.dead∧True)∧(((-1:Int)≤z19∧z19≤(100000000000:Int))∧(Dig z18∧Nrm z18)∧(Dig z16∧Nrm z16)∧valN z18*valN b+valN z16=z24∧valN z16<valN b)∧z23<z12))∧(z13=false→(SV.tup [SV.row z2 x.snd.fst,SV.row z2 x.snd.snd,SV.il .i64 0]).same z3))) (by kernel_rfl) ?_
 simp only[vcs]
 have pa:=val_nonneg ha
 have hb0:b.length≠0:=by
  intro h
  rw[List.eq_nil_of_length_eq_zero h] at b0
  exact absurd b0 (by decide)
 obtain⟨A0,A1,A2⟩:=bits_ok pa
 obtain⟨B0,B1,B2⟩:=bits_ok (Int.le_of_lt b0)
 have Ab:=bits_le ha
 have Bb:=bits_le hb
 have hB1:1≤bitsN (valN b):=by
  by_cases h:1≤bitsN (valN b)
  ·exact h
  ·rw[show bitsN (valN b)=0 by omega] at B1
   simp at B1
   omega
 have hm:max 1 (bitsN (valN b))=bitsN (valN b):=by omega
 rw[hm]
 obtain⟨K,hK⟩:∃K,K=max 0 (bitsN (valN a) - bitsN (valN b)+1):=⟨_,rfl⟩
 rw[←hK]
 have hK0:0≤K:=by omega
 have hp:(0:Int)<2^K.toNat:=Int.pow_pos (by decide)
 have hlt:valN a / 2^K.toNat<valN b:=by
  refine Int.ediv_lt_of_lt_mul hp ?_
  have h1:=two_mono (show(bitsN (valN a)).toNat≤K.toNat+((bitsN (valN b)).toNat - 1) by omega)
  rw[Int.pow_add] at h1
  have h2:(2:Int)^((bitsN (valN b)).toNat - 1)≤valN b:=by rcases B2 with h|h<;>omega
  have h3:=Int.mul_le_mul_of_nonneg_left h2 (Int.le_of_lt hp)
  rw[Int.mul_comm (valN b)]
  omega
 have pq:0≤valN a / 2^K.toNat:=Int.ediv_nonneg pa (Int.le_of_lt hp)
 obtain⟨q1,q2,q3⟩:=natL_ok pq
 have eK:(K - 1+1).toNat=K.toNat:=by omega
 rw[eK,q1]
 clear A1 A2 B1 B2 hm
 refine⟨fun h=>absurd h (by omega),fun _=>⟨⟨ha,by omega⟩,⟨hb,by omega⟩,by omega,by omega,⟨⟨ha,by omega⟩,by omega,by omega⟩,by omega,⟨⟨by omega,by omega⟩,⟨by simp[Dig],trivial⟩,⟨q2,q3⟩,by simp[valN],hlt⟩,?_⟩⟩
 rintro⟨i,q,r⟩ ⟨⟨i0,i1⟩,⟨hq,nq⟩,⟨hr,nr⟩,hv,hrb⟩
 simp only at i0 i1 hq nq hr nr hv hrb ⊢
 have pqq:=val_nonneg hq
 have prr:=val_nonneg hr
 have hrl:=len_of hr hb nr (Int.le_of_lt hrb)
 have hp2:(0:Int)<2^(i+1).toNat:=Int.pow_pos (by decide)
 have hle:valN a / 2^(i+1).toNat≤valN a:=Int.ediv_le_self _ pa
 have hql:q.length≤a.length:=by
  refine len_of hq ha nq ?_
  have:=Int.mul_le_mul_of_nonneg_left (show(1:Int)≤valN b by omega) pqq
  rw[Int.mul_one] at this
  omega
 refine⟨fun hi=>?_,fun hi=>?_⟩
 ·have e1:(i+1).toNat=i.toNat+1:=by omega
  have e2:(i - 1+1).toNat=i.toNat:=by omega
  have hb2:0≤bitQ (valN a) i.toNat∧bitQ (valN a) i.toNat≤1:=by unfold bitQ;omega
  have hstep:valN a / 2^i.toNat=2*(valN a / 2^(i+1).toNat)+bitQ (valN a) i.toNat:=by
   have hpi:(0:Int)<2^i.toNat:=Int.pow_pos (by decide)
   rw[e1,Int.pow_succ,←Int.ediv_ediv_of_nonneg (Int.le_of_lt hpi)]
   unfold bitQ
   omega
  rw[←hv] at hstep
  obtain⟨u1,u2,u3⟩:=natL_ok (show 0≤valN r+valN r by omega)
  obtain⟨w1,w2,w3⟩:=natL_ok hb2.1
  obtain⟨x1,x2,x3⟩:=natL_ok (show 0≤valN r+valN r+bitQ (valN a) i.toNat by omega)
  obtain⟨y1,y2,y3⟩:=natL_ok (show 0≤valN q+valN q by omega)
  obtain⟨z1,z2,z3⟩:=natL_ok (show(0:Int)≤1 by omega)
  obtain⟨s1,s2,s3⟩:=natL_ok (show 0≤valN q+valN q+1 by omega)
  have ul:=add_len hr hr hrl hrl
  have wl:=natL_len (k:=1) hb2.1 (by rw[Int.pow_succ,Int.pow_zero];omega)
  have xl:=add_len (k:=b.length+2) u2 w2 (by omega) (by omega)
  have yl:=add_len hq hq hql hql
  have zl:=natL_len (k:=1) (show(0:Int)≤1 by omega) (by decide)
  rw[u1,w1] at xl
  rw[u1,w1,x1,y1,z1,e2]
  have hbv:(valN q+valN q)*valN b=2*(valN q*valN b):=by rw[←Int.two_mul,Int.mul_assoc]
  have hbv2:(valN q+valN q+1)*valN b=2*(valN q*valN b)+valN b:=by rw[Int.add_mul,hbv,Int.one_mul]
  have hcm:(0≤cmpN (valN r+valN r+bitQ (valN a) i.toNat) (valN b))↔valN b≤valN r+valN r+bitQ (valN a) i.toNat:=by
   unfold cmpN
   split
   ·omega
   ·split<;>omega
  rw[hcm]
  refine⟨⟨⟨hq,hq⟩,by omega,by omega⟩,⟨⟨hr,hr⟩,by omega,by omega⟩,⟨ha,by omega,by omega⟩,⟨by omega,by omega⟩,⟨⟨u2,w2⟩,by omega,by omega⟩,⟨⟨x2,hb⟩,by omega,by omega⟩,fun hc=>?_,fun hc=>?_⟩
  ·obtain⟨t1,t2,t3⟩:=natL_ok (show 0≤valN r+valN r+bitQ (valN a) i.toNat - valN b by omega)
   rw[s1,t1]
   repeat' refine And.intro ?_ ?_
   all_goals first|omega|exact x2|exact hb|exact y2|exact z2|exact s2|exact s3|exact t2|exact t3|rfl|(rw[hbv2];omega)
  ·repeat' refine And.intro ?_ ?_
   all_goals first|omega|exact x2|exact x3|exact y2|exact y3|rfl|(rw[hbv];omega)
 ·have e0:(i+1).toNat=0:=by omega
  rw[e0,Int.pow_zero,Int.ediv_one] at hv
  obtain⟨w1,w2⟩:=qr_of (X:=valN a) (V:=valN b) (q:=valN q) (by omega) (by rw[Int.add_mul,Int.one_mul];omega)
  rw[w1,w2,natL_val hq nq,show valN a - valN q*valN b=valN r by omega,natL_val hr nr]
  repeat' refine And.intro ?_ ?_
  all_goals first|omega|rfl
def r125:SCtr:=⟨40,List Int×List Int,.cons (codR (.i .u32)) (.one (codR (.i .u32))),fun a=>(Dig a.1∧Dig a.2)∧(a.1.length≤100000000∧a.2.length≤100000000)∧Nrm a.2,
 fun a=> .row (.i .u32) (natL (gcdN (valN a.1) (valN a.2)))⟩
def Λ125 (a:List Int×List Int):Nat→LoopAnn
 |1=> .inv (List Int×List Int) (fun x=>⟨[(0,.row (.i .u32) x.1),(1,.row (.i .u32) x.2)],[]⟩) (fun s=>(rS (.i .u32) s 0,rS (.i .u32) s 1))
  (fun x=>(Dig x.1∧Dig x.2)∧Nrm x.2∧(x.1.length≤100000000∧x.2.length≤100000000)∧gcdN (valN x.1) (valN x.2)=gcdN (valN a.1) (valN a.2)) (fun x=>(valN x.2).toNat) fun _ _=> .look
 |_=> .look
theorem h125:Holds Try.prog r125:=by
 refine con0 (L:=[r138,r140]) r125 Λ125 (by simpa using⟨h138,h140⟩) ?_
 rintro⟨a,b⟩ ⟨⟨ha,hb⟩,⟨hla,hlb⟩,hn⟩
 simp only at ha hb hla hlb hn
 refine vcOf (let z0:=SId.i .u32;let z1:=gcdN (valN a) (valN b);((((SV.row z0 a).same (SV.row z0 a)∧(SV.row z0 b).same (SV.row z0 b)∧True)∧True)∧(Dig a∧Dig b)∧Nrm b∧(a.length≤100000000∧b.length≤100000000)∧z1=z1)∧∀(x:List Int×List Int),let z2:=x.fst.length;let z3:=decide ((0:Int)<(↑x.snd.length:Int));let z4:=natL (valN x.fst % valN x.snd);(Dig x.fst∧Dig x.snd)∧Nrm x.snd∧(z2≤100000000∧x.snd.length≤100000000)∧gcdN (valN x.fst) (valN x.snd)=z1→(z3=true→((Dig x.fst∧Dig x.snd)∧(z2≤1000000000∧x.snd.length≤1000000000)∧(0:Int)<valN x.snd)∧(((SV.row z0 x.snd).same (SV.row z0 x.snd)∧(SV.row z0 z4).same (SV.row z0 z4)∧True)∧True)∧((Dig x.snd∧Dig z4)∧Nrm z4∧(x.snd.length≤100000000∧z4.length≤100000000)∧gcdN (valN x.snd) (valN z4)=z1)∧(valN z4).toNat<(valN x.snd).toNat)∧(z3=false→(Dig x.fst∧z2≤100000000000)∧(SV.row z0 (natL (valN x.fst))).same (SV.row z0 (natL z1)))) (by kernel_rfl) ?_
 simp only[vcs]
 refine⟨⟨⟨ha,hb⟩,hn,⟨hla,hlb⟩⟩,?_⟩
 rintro⟨s,t⟩ ⟨⟨ds,dt⟩,nt,⟨hs,ht⟩,hg⟩
 simp only at ds dt nt ht hs hg ⊢
 have ps:=val_nonneg ds
 have pt:=val_nonneg dt
 refine⟨fun hl=>?_,fun hl=>?_⟩
 ·have hpos:0<valN t:=by
   by_cases h:valN t=0
   ·rw[val_zero dt nt h] at hl
    simp at hl
   ·omega
  have hm:=Int.emod_nonneg (valN s) (show valN t≠0 by omega)
  have hlt:=Int.emod_lt_of_pos (valN s) hpos
  obtain⟨m1,m2,m3⟩:=natL_ok hm
  have hml:=len_of m2 dt m3 (by rw[m1];omega)
  rw[m1]
  refine⟨⟨⟨ds,dt⟩,⟨by omega,by omega⟩,hpos⟩,⟨⟨dt,m2⟩,m3,⟨by omega,by omega⟩,by rw[gcdN_step ps hpos,hg]⟩,by omega⟩
 ·have ht0:t=[]:=List.eq_nil_of_length_eq_zero (by omega)
  rw[ht0,show valN []=0 from rfl,gcdN_zero ps] at hg
  rw[←hg]
  repeat' refine And.intro ?_ ?_
  all_goals first|omega|exact ds|rfl
def nrmB (a:List Int):Bool:=decide (a.length=0)||decide (nthD a (a.length - 1) 0≠0)
theorem nrmB_iff {a:List Int}:nrmB a=true↔Nrm a:=by
 unfold nrmB
 rw[Bool.or_eq_true,decide_eq_true_eq,decide_eq_true_eq]
 constructor
 ·exact nrm_of
 ·intro h
  by_cases e:a.length=0
  ·exact .inl e
  ·right
   have b:=take_snoc (a:=a) (n:=a.length - 1) (by omega)
   rw[show a.length - 1+1=a.length by omega,List.take_length] at b
   have:∀{l:List Int} {x:Int},Nrm (l++[x])→x≠0:=by
    intro l x
    induction l with
    |nil=>intro h;exact h.1 rfl
    |cons d l c=>intro h;exact c h.2
   grind
def r124:SCtr:=⟨39,List Int,.one (codR (.i .u32)),fun a=>a.length≤1000000000,fun a=> .sb (nrmB a)⟩
theorem h124:Holds Try.prog r124:=by
 refine con0 (L:=[]) r124 lk (by simp) ?_
 intro(a:List Int) h
 have h:a.length≤1000000000:=h
 refine vcOf (let z0:=(↑a.length:Int);let z1:=decide (z0=(0:Int));let z2:=z0 - (1:Int);(z1=true→(SV.bl true).same (SV.sb (nrmB a)))∧(z1=false→inR .i64 z2∧(0:Int)≤z2∧z2<z0∧z2.toNat<a.length∧(SV.sb (decide (nthD a z2.toNat (0:Int)≠(0:Int)))).same (SV.sb (nrmB a)))) (by kernel_rfl) ?_
 simp only[vcs]
 have e:((a.length:Int) - 1).toNat=a.length - 1:=by omega
 rw[e]
 unfold nrmB
 refine⟨fun h0=>?_,fun h0=>?_⟩
 ·have:a.length=0:=by omega
  simp[this]
 ·have:¬a.length=0:=by omega
  simp[this]
  omega
theorem natL_one {g:Int} (h:0≤g):natL g=[1]↔g=1:=by
 constructor
 ·grind[natL_ok,valN]
 ·rintro rfl
  rfl
theorem val_pos {a:List Int} (h:Dig a) (c:Nrm a) (b:a≠[]):0<valN a:=by
 have:=val_nonneg h
 grind[val_zero]
def okF (x:Fra):Bool:=decide (frE (valF x)=x)
theorem gcdN_pos {n d:Int} (h:0<d):0<gcdN n d:=by
 simp_all[gcdN]
theorem okF_nrm {s:Bool} {n d:List Int} (h:okF (s,(n,d))=true):Nrm n∧Nrm d∧d≠[]:=by
 have h:=of_decide_eq_true h
 have b:=natL_ok (show(0:Int)≤((valF (s,(n,d))).num.natAbs:Int) by omega)
 have a:=natL_ok (show(0:Int)≤((valF (s,(n,d))).den:Int) by omega)
 have e:natL ((valF (s,(n,d))).num.natAbs:Int)=n:=congrArg (fun x=>x.2.1) h
 have c:natL ((valF (s,(n,d))).den:Int)=d:=congrArg (fun x=>x.2.2) h
 rw[e] at b
 rw[c] at a
 refine⟨b.2.2,a.2.2,fun f=>?_⟩
 have g:=a.1
 rw[f] at g
 have:=(valF (s,(n,d))).den_pos
 grind[valN]
theorem okF_eq {s:Bool} {n d:List Int} (e:Dig n) (m:Dig d) (l:Nrm n) (p:Nrm d) (b:d≠[]):
  okF (s,(n,d))=if n=[] then !s&&decide (d=[1]) else decide (gcdN (valN n) (valN d)=1):=by
 have c:=val_pos m p b
 have r:=val_nonneg e
 have j:valF (s,(n,d))=mkRat (if s then -valN n else valN n) (valN d).toNat:=rfl
 have o:=@frE_mk s (valN n) (valN d) r c
 have u:=@gcdN_pos (valN n) (valN d) c
 unfold okF
 rw[j,o]
 by_cases a:n=[]
 ·rw[if_pos a,a]
  have i:gcdN (valN []) (valN d)=valN d:=by unfold gcdN;simp[valN];omega
  have k:natL (valN d / gcdN (valN []) (valN d))=[1]:=by rw[i,Int.ediv_self (by omega)];rfl
  have f:natL (valN [] / gcdN (valN []) (valN d))=[]:=by
   have:valN []=0:=rfl
   rw[this,Int.zero_ediv];rfl
  rw[k,f]
  have v:decide (0<valN [])=false:=rfl
  grind
 ·rw[if_neg a]
  have q:=val_pos e l a
  rw[decide_eq_true (show 0<valN n from q),Bool.and_true]
  rw[Bool.eq_iff_iff,decide_eq_true_eq,decide_eq_true_eq]
  constructor
  ·intro h
   injection h with h1 h2
   injection h2 with h2 h3
   have g:=(natL_ok (show 0≤valN d / gcdN (valN n) (valN d) from Int.ediv_nonneg (by omega) (by omega))).1
   rw[h3] at g
   by_cases t:gcdN (valN n) (valN d)=1
   ·exact t
   ·have:=Int.ediv_lt_self_of_pos_of_ne_one c (by omega:gcdN (valN n) (valN d)≠1)
    omega
  grind[natL_val]
def r93:SCtr:=⟨15,Fra,.one (codE sF),fun x=>(Dig x.2.1∧Dig x.2.2)∧x.2.1.length≤10000000∧x.2.2.length≤10000000,fun x=> .sb (okF x)⟩
theorem h93:Holds Try.prog r93:=by
 refine con0 (L:=[r124,r125]) r93 lk (by simpa using⟨h124,h125⟩) ?_
 rintro⟨s,n,d⟩ ⟨⟨hn,hd⟩,hl1,hl2⟩
 refine vcOf (let z0:=SV.sb (okF (s,n,d));let z1:=(↑d.length:Int);let z2:=decide (z1=(0:Int));let z3:=decide ((↑n.length:Int)=(0:Int));let z4:=decide (z1=(1:Int));let z5:=natL (gcdN (valN n) (valN d));let z6:=decide ((↑z5.length:Int)=(1:Int));n.length≤1000000000∧((!nrmB n)=true→(SV.bl false).same z0)∧((!nrmB n)=false→d.length≤1000000000∧((!nrmB d)=true→(SV.bl false).same z0)∧((!nrmB d)=false→(z2=true→(SV.bl false).same z0)∧(z2=false→(z3=true→((!s)=true→(z4=true→(0:Int)≤(0:Int)∧(0:Int)<z1∧0<d.length∧(SV.sb (decide (nthD d 0 (0:Int)=(1:Int)))).same z0)∧(z4=false→(SV.bl false).same z0))∧((!s)=false→(SV.bl false).same z0))∧(z3=false→((Dig n∧Dig d)∧(n.length≤100000000∧d.length≤100000000)∧Nrm d)∧(z6=true→(0:Int)≤(0:Int)∧(0:Int)<(↑z5.length:Int)∧0<z5.length∧(SV.sb (decide (nthD z5 0 (0:Int)=(1:Int)))).same z0)∧(z6=false→(SV.bl false).same z0)))))) (by kernel_rfl) ?_
 simp only[vcs]
 have hn:Dig n:=hn
 have hd:Dig d:=hd
 have hl1:n.length≤10000000:=hl1
 have hl2:d.length≤10000000:=hl2
 have nope:¬(Nrm n∧Nrm d∧d≠[])→false=okF (s,n,d):=fun h=>by
  cases hb:okF (s,n,d) with
  |false=>rfl
  |true=>exact absurd (okF_nrm hb) h
 have nil_of:∀{a:List Int},((a.length:Nat):Int)=0→a=[]:=fun h=>List.eq_nil_of_length_eq_zero (by omega)
 have ne_of:∀{a:List Int},¬((a.length:Nat):Int)=0→a≠[]:=fun h h2=>h (by rw[h2];rfl)
 refine⟨by omega,fun h1=>nope fun h=>?_,fun h1=>⟨by omega,fun h2=>nope fun h=>?_,fun h2=>⟨fun h3=>nope fun h=>h.2.2 (nil_of h3),fun h3=>?_⟩⟩⟩
 ·have:=nrmB_iff.2 h.1
  rw[h1] at this
  cases this
 ·have:=nrmB_iff.2 h.2.1
  rw[h2] at this
  cases this
 have he:=okF_eq (s:=s) hn hd (nrmB_iff.1 h1) (nrmB_iff.1 h2) (ne_of h3)
 have hg:=@gcdN_pos (valN n) (valN d) (val_pos hd (nrmB_iff.1 h2) (ne_of h3))
 obtain⟨g1,g2,g3⟩:=natL_ok (show 0≤gcdN (valN n) (valN d) by omega)
 rw[he]
 have one:∀{a:List Int},((a.length:Nat):Int)=1→a=[nthD a 0 0]:=fun {a} h=>by
  match a,h with
  |[x],_=>rfl
  |[],h=>simp at h
  |_::_::_,h=>simp at h;omega
 refine⟨fun h4=>?_,fun h4=>?_⟩
 ·rw[if_pos (nil_of h4)]
  refine⟨fun h5=>⟨fun h6=>⟨by omega,by omega,by omega,?_⟩,fun h6=>?_⟩,fun h5=>?_⟩
  ·rw[h5]
   have:=one h6
   rw[this]
   simp[nthD]
  ·have:¬d=[1]:=fun h=>h6 (by rw[h];rfl)
   rw[h5]
   simp[this]
  ·rw[h5]
   rfl
 ·rw[if_neg (ne_of h4)]
  refine⟨⟨⟨hn,hd⟩,⟨by omega,by omega⟩,nrmB_iff.1 h2⟩,fun h5=>⟨by omega,by omega,by omega,?_⟩,fun h5=>?_⟩
  ·have h6:=one h5
   have h7:=@natL_one (gcdN (valN n) (valN d)) (by omega)
   rw[Bool.eq_iff_iff,decide_eq_true_eq,decide_eq_true_eq,←h7]
   constructor
   ·intro h8
    rw[h6,h8]
   ·intro h8
    rw[h8]
    rfl
  ·have h7:¬gcdN (valN n) (valN d)=1:=fun h8=>h5 (by rw[(natL_one (by omega)).2 h8];rfl)
   simp[h7]
def rowD (l:List Fra):Prop:=∀x∈l,Dig x.2.1∧Dig x.2.2
def r135:SCtr:=⟨80,Int,.one (codI .i64),fun n=> -9223372036854775808≤(show Int from n)∧(show Int from n)≤9223372036854775807,fun n=> .row (.i .u32) (natL ((show Int from n).natAbs:Int))⟩
theorem h135:Holds Try.prog r135:=by
 refine con0 (L:=[r159]) r135 lk (by simpa using h159) ?_
 intro(n:Int) h
 obtain⟨h0,h1⟩: -9223372036854775808≤n∧n≤9223372036854775807:=h
 refine vcOf (let z0:=decide (n<(0:Int));let z1:=(-(n+(1:Int))+(1:Int)) % (18446744073709551616:Int);let z2:=SId.i .u32;let z3:=SV.row z2 (natL (↑n.natAbs:Int));(z0=true→inR .i64 (n+(1:Int))∧inR .i64 (-(n+(1:Int)))∧inR .u64 (-(n+(1:Int)))∧((0:Int)≤z1∧z1<(18446744073709551616:Int))∧(SV.row z2 (natL z1)).same z3)∧(z0=false→inR .u64 n∧((0:Int)≤n∧n<(18446744073709551616:Int))∧(SV.row z2 (natL n)).same z3)) (by kernel_rfl) ?_
 simp only[vcs]
 refine⟨fun hn=>?_,fun hn=>?_⟩
 ·have e:(-(n+1)+1) % 18446744073709551616=(n.natAbs:Int):=by omega
  rw[e]
  exact⟨by omega,by omega,u64_in (by omega) (by omega),by omega,rfl⟩
 ·have e:(n.natAbs:Int)=n:=by omega
  rw[e]
  exact⟨u64_in (by omega) (by omega),by omega,rfl⟩
def r105:SCtr:=⟨36,Bool×(List Int×List Int),.cons codB (.cons (codR (.i .u32)) (.one (codR (.i .u32)))),fun a=>(Dig a.2.1∧Dig a.2.2)∧(a.2.1.length≤100000000∧a.2.2.length≤100000000)∧(Nrm a.2.1∧Nrm a.2.2)∧0<valN a.2.2,
 fun a=> .tup [frS (mkF a.1 (valN a.2.1) (valN a.2.2)),.si .i64 0]⟩
theorem h105:Holds Try.prog r105:=by
 refine con0 (L:=[r125,r138]) r105 lk (by simpa using⟨h125,h138⟩) ?_
 rintro⟨s,n,d⟩ ⟨⟨hn,hd⟩,⟨hln,hld⟩,⟨nn,nd⟩,d0⟩
 simp only at hn hd hln hld d0 nn nd
 refine vcOf (let z0:=decide ((↑d.length:Int)=(0:Int));let z1:=SV.row (SId.i .i64) [];let z2:=frE (mkF s (valN n) (valN d));let z3:=SId.i .u32;let z4:=SV.tup [SV.agg [SV.sb z2.fst,SV.row z3 z2.snd.fst,SV.row z3 z2.snd.snd],SV.si .i64 0];let z5:=natL (gcdN (valN n) (valN d));let z6:=[SV.row z3 (natL (valN n / valN z5)),SV.row z3 (natL (valN d / valN z5))];let z7:=[SV.il .i64 0];(z0=true→(SV.tup [SV.agg [SV.bl false,z1,z1],SV.il .i64 8]).same z4)∧(z0=false→((Dig n∧Dig d)∧(n.length≤100000000∧d.length≤100000000)∧Nrm d)∧((Dig n∧Dig z5)∧(n.length≤1000000000∧z5.length≤1000000000)∧(0:Int)<valN z5)∧((Dig d∧Dig z5)∧(d.length≤1000000000∧z5.length≤1000000000)∧(0:Int)<valN z5)∧(s=true→(SV.tup (SV.agg (SV.sb (decide ((0:Int)<(↑n.length:Int)))::z6)::z7)).same z4)∧(s=false→(SV.tup (SV.agg (SV.bl false::z6)::z7)).same z4))) (by kernel_rfl) ?_
 simp only[vcs]
 have n0:=val_nonneg hn
 have g0:0<gcdN (valN n) (valN d):=by
  unfold gcdN
  have:=Nat.gcd_pos_of_pos_right (valN n).toNat (show 0<(valN d).toNat by omega)
  omega
 have gle:gcdN (valN n) (valN d)≤valN d:=by
  unfold gcdN
  have:=Nat.gcd_le_right (valN n).toNat (show 0<(valN d).toNat by omega)
  omega
 obtain⟨a1,a2,a3⟩:=natL_ok (Int.le_of_lt g0)
 have hgl:=len_of a2 hd a3 (by rw[a1];exact gle)
 have hpos:(0<(n.length:Int))↔0<valN n:=by
  constructor
  ·intro h
   by_cases hz:valN n=0
   ·rw[val_zero hn nn hz] at h;exact absurd h (by decide)
   ·omega
  ·intro h
   by_cases hl:n.length=0
   ·rw[List.eq_nil_of_length_eq_zero hl] at h
    exact absurd h (by decide)
   ·omega
 have hb:decide (0<(n.length:Int))=decide (0<valN n):=by rw[decide_eq_decide];exact hpos
 have hd0:d.length≠0:=by
  intro h
  rw[List.eq_nil_of_length_eq_zero h] at d0
  exact absurd d0 (by decide)
 unfold mkF
 rw[frE_mk n0 d0,a1]
 simp only
 refine⟨fun h=>absurd h (by omega),fun _=>⟨⟨⟨hn,hd⟩,⟨by omega,by omega⟩,nd⟩,⟨⟨hn,a2⟩,⟨by omega,by omega⟩,g0⟩,⟨⟨hd,a2⟩,⟨by omega,by omega⟩,g0⟩,fun hs=>?_,fun hs=>?_⟩⟩
 ·rw[hs,hb]
  rfl
 ·rw[hs]
  rfl
def r103:SCtr:=⟨57,Int×Int,.cons (codI .i64) (.one (codI .i64)),fun a=>(-9223372036854775808≤a.1∧a.1≤9223372036854775807)∧0<a.2∧a.2≤9223372036854775807,fun a=> .tup [frS (mkF (decide (a.1<0)) (a.1.natAbs:Int) a.2),.si .i64 0]⟩
theorem h103:Holds Try.prog r103:=by
 refine con0 (L:=[r135,r105]) r103 lk (by simpa using⟨h135,h105⟩) ?_
 rintro⟨n,d⟩ ⟨⟨h0,h1⟩,h2,h3⟩
 simp only at h0 h1 h2 h3
 refine vcOf (let z0:=natL (↑n.natAbs:Int);let z1:=natL (↑d.natAbs:Int);let z2:=frE (mkF (!decide (n<(0:Int))==decide (d<(0:Int))) (valN z0) (valN z1));let z3:=SId.i .u32;let z4:=[SV.si .i64 0];let z5:=frE (mkF (decide (n<(0:Int))) (↑n.natAbs:Int) d);((-9223372036854775808:Int)≤n∧n≤(9223372036854775807:Int))∧((-9223372036854775808:Int)≤d∧d≤(9223372036854775807:Int))∧((Dig z0∧Dig z1)∧(z0.length≤100000000∧z1.length≤100000000)∧(Nrm z0∧Nrm z1)∧(0:Int)<valN z1)∧(SV.tup (SV.agg [SV.sb z2.fst,SV.row z3 z2.snd.fst,SV.row z3 z2.snd.snd]::z4)).same (SV.tup (SV.agg [SV.sb z5.fst,SV.row z3 z5.snd.fst,SV.row z3 z5.snd.snd]::z4))) (by kernel_rfl) ?_
 simp only[vcs]
 obtain⟨a1,a2,a3⟩:=natL_ok (show(0:Int)≤(n.natAbs:Int) by omega)
 obtain⟨b1,b2,b3⟩:=natL_ok (show(0:Int)≤(d.natAbs:Int) by omega)
 have l1:=natL_len (k:=2) (show(0:Int)≤(n.natAbs:Int) by omega) (by rw[show(4294967296:Int)^2=18446744073709551616 from rfl];omega)
 have l2:=natL_len (k:=2) (show(0:Int)≤(d.natAbs:Int) by omega) (by rw[show(4294967296:Int)^2=18446744073709551616 from rfl];omega)
 have e:(d.natAbs:Int)=d:=by omega
 have hs:(!(decide (n<0)==decide (d<0)))=decide (n<0):=by
  have:decide (d<0)=false:=by rw[decide_eq_false_iff_not];omega
  rw[this]
  cases decide (n<0)<;>rfl
 rw[hs,a1,b1,e]
 rw[e] at b2 b3 l2
 repeat' refine And.intro ?_ ?_
 all_goals first|omega|exact a2|exact b2|exact a3|exact b3|rfl
def r51:SCtr:=⟨34,Int,.one (codI .i64),fun n=> -9223372036854775808≤(show Int from n)∧(show Int from n)≤9223372036854775807,fun n=>frS ((show Int from n):Rat)⟩
theorem mkF_int (n:Int):mkF (decide (n<0)) (n.natAbs:Int) 1=(n:Rat):=by
 unfold mkF
 have a:(if decide (n<0)=true then -(n.natAbs:Int) else(n.natAbs:Int))=n:=by
  grind
 grind[Rat.mkRat_one]
theorem h51:Holds Try.prog r51:=by
 refine con0 (L:=[r103]) r51 lk (by simpa using h103) ?_
 intro(n:Int) h
 obtain⟨h0,h1⟩: -9223372036854775808≤n∧n≤9223372036854775807:=h
 refine vcOf (let z0:=frE (mkF (decide (n<(0:Int))) (↑n.natAbs:Int) (1:Int));let z1:=SId.i .u32;let z2:=frE (IntCast.intCast n);(((-9223372036854775808:Int)≤n∧n≤(9223372036854775807:Int))∧(0:Int)<(1:Int)∧(1:Int)≤(9223372036854775807:Int))∧(SV.agg [SV.sb z0.fst,SV.row z1 z0.snd.fst,SV.row z1 z0.snd.snd]).same (SV.agg [SV.sb z2.fst,SV.row z1 z2.snd.fst,SV.row z1 z2.snd.snd])) (by kernel_rfl) ?_
 conv=>zeta
 exact⟨⟨⟨h0,h1⟩,by omega,by omega⟩,frS_eq (mkF_int n)⟩
def isG (x:Fra):Prop:=∃q k,x=frE q∧Sz k q∧k≤10000000
def r52:SCtr:=⟨14,Fra×Fra,.cons (codE sF) (.one (codE sF)),fun a=>isG a.1∧isG a.2,fun a=>frS (valF a.1+valF a.2)⟩
theorem h52:Holds Try.prog r52:=by
 refine con0 (L:=[r104,r106,r107,r105]) r52 lk (by simpa using⟨h104,h106,h107,h105⟩) ?_
 rintro⟨x,y⟩ ⟨⟨p,i,hx,hz,hi⟩,⟨q,j,hy,hw,hj⟩⟩
 simp only at hx hy
 subst hx hy
 refine vcOf (let z0:=(frE p).snd.fst;let z1:=(frE q).snd.snd;let z2:=(frE q).snd.fst;let z3:=(frE p).snd.snd;let z4:=(frE p).fst==(frE q).fst;let z5:=natL (valN z0*valN z1);let z6:=natL (valN z2*valN z3);let z7:=natL (valN z5+valN z6);let z8:=natL (valN z3*valN z1);let z9:=frE (mkF (frE p).fst (valN z7) (valN z8));let z10:=SId.i .u32;let z11:=frE (valF (frE p)+valF (frE q));let z12:=SV.agg [SV.sb z11.fst,SV.row z10 z11.snd.fst,SV.row z10 z11.snd.snd];let z13:=decide (valN z6≤valN z5);let z14:=natL (valN z5 - valN z6);let z15:=frE (mkF (frE p).fst (valN z14) (valN z8));let z16:=natL (valN z6 - valN z5);let z17:=frE (mkF (frE q).fst (valN z16) (valN z8));((Dig z0∧Dig z1)∧List.length z0≤1000000000∧List.length z1≤1000000000)∧((Dig z2∧Dig z3)∧List.length z2≤1000000000∧List.length z3≤1000000000)∧((Dig z3∧Dig z1)∧List.length z3≤1000000000∧List.length z1≤1000000000)∧(z4=true→((Dig z5∧Dig z6)∧z5.length≤10000000000∧z6.length≤10000000000)∧((Dig z7∧Dig z8)∧(z7.length≤100000000∧z8.length≤100000000)∧(Nrm z7∧Nrm z8)∧(0:Int)<valN z8)∧(SV.agg [SV.sb z9.fst,SV.row z10 z9.snd.fst,SV.row z10 z9.snd.snd]).same z12)∧(z4=false→((Dig z5∧Dig z6)∧z5.length≤10000000000∧z6.length≤10000000000)∧(z13=true→((Dig z14∧Dig z8)∧(z14.length≤100000000∧z8.length≤100000000)∧(Nrm z14∧Nrm z8)∧(0:Int)<valN z8)∧(SV.agg [SV.sb z15.fst,SV.row z10 z15.snd.fst,SV.row z10 z15.snd.snd]).same z12)∧(z13=false→((Dig z6∧Dig z5)∧z6.length≤10000000000∧z5.length≤10000000000)∧((Dig z16∧Dig z8)∧(z16.length≤100000000∧z8.length≤100000000)∧(Nrm z16∧Nrm z8)∧(0:Int)<valN z8)∧(SV.agg [SV.sb z17.fst,SV.row z10 z17.snd.fst,SV.row z10 z17.snd.snd]).same z12))) (by kernel_rfl) ?_
 conv=>zeta
 obtain⟨e1,⟨u1,_,_⟩,⟨u2,_,_⟩⟩:=frE_ok p
 obtain⟨e2,⟨u3,_,_⟩,⟨u4,_,_⟩⟩:=frE_ok q
 obtain⟨m1,m2⟩:=frE_len hz
 obtain⟨m3,m4⟩:=frE_len hw
 obtain⟨X,Y,D,hX,hY,hD,X0,Y0,D0,l1,l2,l3,l4,l5,l6,n1,n2,n3⟩:=cross_ok hz hw
 obtain⟨c1,c2,c3⟩:=natL_ok X0
 obtain⟨c4,c5,c6⟩:=natL_ok Y0
 obtain⟨c7,c8,c9⟩:=natL_ok (Int.le_of_lt D0)
 obtain⟨s1,s2,s3⟩:=natL_ok (show 0≤X+Y by omega)
 simp only[valF_frE,hX,hY,hD,c1,c4,c7,s1,e1,e2]
 simp only[vcs]
 have fin:∀{s:Bool} {n:Int},(p.num*q.den+q.num*p.den=if s then -n else n)→(SV.agg [.sb (frE (mkF s n D)).1,.row (.i .u32) (frE (mkF s n D)).2.1,.row (.i .u32) (frE (mkF s n D)).2.2]).same (.agg [.sb (frE (p+q)).1,.row (.i .u32) (frE (p+q)).2.1,.row (.i .u32) (frE (p+q)).2.2]):=
  fun h=>frS_eq (add_mkF n3 h)
 rw[n1,n2] at fin
 refine⟨⟨⟨u1,u4⟩,by omega,by omega⟩,⟨⟨u3,u2⟩,by omega,by omega⟩,⟨⟨u2,u4⟩,by omega,by omega⟩,fun he=>⟨⟨⟨c2,c5⟩,by omega,by omega⟩,⟨⟨s2,c8⟩,⟨by omega,by omega⟩,⟨s3,c9⟩,D0⟩,fin ?_⟩,fun he=>⟨⟨⟨c2,c5⟩,by omega,by omega⟩,fun hle=>?_,fun hle=>?_⟩⟩
 ·by_cases hp:p<0<;>by_cases hq:q<0<;>simp[hp,hq] at he ⊢<;>omega
 ·obtain⟨t1,t2,t3⟩:=natL_ok (show 0≤X - Y by omega)
  rw[t1]
  refine⟨⟨⟨t2,c8⟩,⟨by omega,by omega⟩,⟨t3,c9⟩,D0⟩,fin ?_⟩
  by_cases hp:p<0<;>by_cases hq:q<0<;>simp[hp,hq] at he ⊢<;>omega
 ·obtain⟨t1,t2,t3⟩:=natL_ok (show 0≤Y - X by omega)
  rw[t1]
  refine⟨⟨⟨c5,c2⟩,by omega,by omega⟩,⟨⟨t2,c8⟩,⟨by omega,by omega⟩,⟨t3,c9⟩,D0⟩,fin ?_⟩
  by_cases hp:p<0<;>by_cases hq:q<0<;>simp[hp,hq] at he ⊢<;>omega
def r48:SCtr:=⟨12,Fra,.one (codE sF),isF,fun x=> .si .i64 (sgnQ (valF x))⟩
theorem h48:Holds Try.prog r48:=by
 refine con0 (L:=[]) r48 lk (by simp) ?_
 intro(x:Fra) h
 obtain⟨q,k,rfl,hz,hk⟩:isF x:=h
 refine vcOf (let z0:=SV.si .i64 (sgnQ (valF (frE q)));let z1:=decide ((↑(List.length (frE q).snd.fst):Int)=(0:Int));((frE q).fst=true→(SV.il .i64 (-1:Int)).same z0)∧((frE q).fst=false→(z1=true→(SV.il .i64 0).same z0)∧(z1=false→(SV.il .i64 1).same z0))) (by kernel_rfl) ?_
 simp only[vcs]
 rw[valF_frE]
 obtain⟨e1,⟨a2,a3,a1⟩,_⟩:=frE_ok q
 have hl:((frE q).2.1.length:Int)=0↔q.num=0:=by
  constructor
  ·intro h
   rw[List.eq_nil_of_length_eq_zero (by omega:(frE q).2.1.length=0)] at a1
   simp only[valN] at a1
   omega
  ·intro h
   rw[val_zero a2 a3 (by rw[a1,h];rfl)]
   rfl
 have h0:=@Rat.num_nonneg q
 have hn:q<0↔q.num<0:=by
  rw[←Rat.not_le,←h0]
  omega
 have hp:0<q↔0<q.num:=by
  constructor
  ·intro h
   have h1:=h0.2 (Rat.le_of_lt h)
   by_cases hz:q.num=0
   ·have:=Rat.num_eq_zero.1 hz
    subst this
    exact absurd h (by decide)
   ·omega
  ·intro h
   have h1:=h0.1 (by omega)
   exact Rat.lt_of_le_of_ne h1 (fun he=>by rw[←he] at h;exact absurd h (by decide))
 rw[hl,e1]
 simp only[decide_eq_true_eq,decide_eq_false_iff_not]
 unfold sgnQ
 simp only[hn,hp]
 refine⟨fun h=>?_,fun h=>⟨fun h2=>?_,fun h2=>?_⟩⟩
 ·rw[if_pos h]
 ·rw[if_neg (by omega),if_neg (by omega)]
 ·rw[if_neg (by omega),if_pos (by omega)]
structure Tb where
 coef:List (List Rat)
 bound:List Rat
 cost:List Rat
 value:Rat
 basic:List Int
 free:List Int
namespace Tb
end Tb
section
variable {n m:Nat} {t:Tb} {r c:Nat}
end
section
variable {n m:Nat} {t t0:Tb} {r c:Nat}
end
open Go.Proofs.Ytddpfdamlefbgaa.Ir
open Go.Proofs
def vL (l:List Fra):List Rat:=l.map valF
structure TabF where
 n:Int
 m:Int
 k0:Nat
 k1:Nat
 k3:Nat
 k4:Nat
 coef:List (List Fra)
 bound:List Fra
 cost:List Fra
 v:Fra
 basic:List Int
 free:List Int
def TabF.t (x:TabF):Tb:=⟨x.coef.map vL,vL x.bound,vL x.cost,valF x.v,x.basic,x.free⟩
section
variable {n m:Int} {t:Tb}
end
section
variable {n m:Nat} {t t0:Tb} {r c:Nat}
end
section
variable {n m:Nat} {t t0:Tb} {r c:Nat}
end
section
variable {n m:Nat} {t t0 t':Tb}
end
section
variable {n m:Nat} {t t0:Tb}
end
section
variable {n m:Nat} {t t0:Tb}
end
open Classical in
section
variable {n m:Nat} {t t0 t':Tb}
end
section
variable {p:Prob} {f:List Int}
end
def rngB (f:List Int):Bool:=f.all fun x=>decide (-1≤x)&&decide (x≤1)
def fixE (p:Prob) (f:List Int):Int:=if checkE p≠0 then checkE p else if f.length≠p.offers.length then 3 else if rngB f=true then 0 else 4
abbrev Nod:=Int×(Int×(Int×(Int×List Fra)))
@[reducible] def sNd:SId:=.pair (.i .i64) (.pair (.i .i64) (.pair (.i .i64) (.pair (.i .i64) (.lst sF))))
structure Srch where
 ch:List Int
 val:Int
 found:Bool
 prf:List Nod
 err:Int
structure FixQ (p:Prob) (f:List Int):Prop where
 c:checkE p=0
 l:f.length=p.offers.length
 r:rngB f=true
theorem FixQ.e {p:Prob} {f:List Int} (h:FixQ p f):fixE p f=0:=by
 unfold fixE
 rw[if_neg (by simp[h.c]),if_neg (by simp[h.l]),if_pos h.r]
section
variable {p:Prob} {v v':Int} {t t':List Nod} {a lo hi:Nat} {f:List Int}
end
section
variable {P:Program} {T:Tab} {p:SPar} {Λ:Nat→LoopAnn}
end
structure SrF where
 p:Prob
 ch:List Int
 val:Int
 found:Bool
 en:Option Int
 k1:Nat
 k2:Nat
 most:Int
 err:Int
 prf:List Nod
 fx:List Int
def SrF.s (x:SrF):Srch:=⟨x.ch,x.val,x.found,x.prf,x.err⟩
section
variable {p:Prob} {en:Int→Bool} {most:Int} {f:List Int} {s O:Srch} {a k:Int}
end
def r515:SCtr:=⟨13,Int,.one (codI .i64),fun n=> -9223372036854775808≤(show Int from n)∧(show Int from n)≤9223372036854775807,fun n=>frS ((show Int from n):Rat)⟩
theorem h515:Holds Try.prog r515:=by
 refine con0 (L:=[r51]) r515 lk (by simpa using h51) ?_
 intro(n:Int) h
 obtain⟨h0,h1⟩: -9223372036854775808≤n∧n≤9223372036854775807:=h
 refine vcOf (let z0:=frE (IntCast.intCast n);let z1:=SV.agg [SV.sb z0.fst,SV.row (SId.i .u32) z0.snd.fst,SV.row (SId.i .u32) z0.snd.snd];((-9223372036854775808:Int)≤n∧n≤(9223372036854775807:Int))∧z1.same z1) (by kernel_rfl) ?_
 conv=>zeta
 exact⟨⟨h0,h1⟩,rfl⟩
@[reducible] def sStp:SId:=.pair .need (.pair .need sF)
abbrev Stp:=Need×(Need×Fra)
def fewD (x:Fra):Prop:=x.2.1.length≤1000000000∧x.2.2.length≤1000000000
def r516:SCtr:=⟨16,Stp×Stp,.cons (codE sStp) (.one (codE sStp)),fun a=>fewD a.1.2.2∧fewD a.2.2.2,fun a=> .sb (decide (a.1=a.2))⟩
theorem h516:Holds Try.prog r516:=by
 refine con0 (L:=[r46]) r516 lk (by simpa using h46) ?_
 rintro⟨⟨⟨a0,a1⟩,⟨a2,a3⟩,a4⟩,⟨⟨b0,b1⟩,⟨b2,b3⟩,b4⟩⟩ ⟨h0,h1⟩
 refine vcOf (let z0:=decide (a0=b0)&&(decide (a1=b1)&&true);let z1:=decide (a2=b2)&&(decide (a3=b3)&&true);let z2:=SV.sb (decide ((Need.mk a0 a1,Need.mk a2 a3,a4)=(Need.mk b0 b1,Need.mk b2 b3,b4)));(z0=true→(z1=true→((List.length a4.snd.fst≤1000000000∧List.length a4.snd.snd≤1000000000)∧List.length b4.snd.fst≤1000000000∧List.length b4.snd.snd≤1000000000)∧(SV.sb (decide ((a4.fst,a4.snd.fst,a4.snd.snd)=(b4.fst,b4.snd.fst,b4.snd.snd)))).same z2)∧(z1=false→(SV.bl false).same z2))∧(z0=false→(SV.bl false).same z2)) (by kernel_rfl) ?_
 simp only[vcs]
 have key:∀{q:Bool},((a0=b0∧a1=b1)∧(a2=b2∧a3=b3)∧a4=b4↔q=true)→q=decide (((⟨a0,a1⟩,⟨a2,a3⟩,a4):Stp)=(⟨b0,b1⟩,⟨b2,b3⟩,b4)):=fun {q} h=>by
  rw[Bool.eq_iff_iff,←h,decide_eq_true_eq]
  constructor
  ·rintro⟨⟨rfl,rfl⟩,⟨rfl,rfl⟩,rfl⟩;rfl
  ·intro h;injection h with h1 h2;injection h2 with h2 h3;injection h1 with h4 h5;injection h2 with h6 h7;exact⟨⟨h4,h5⟩,⟨h6,h7⟩,h3⟩
 refine⟨fun e1=>⟨fun e2=>⟨⟨h0,h1⟩,key ?_⟩,fun e2=>key ?_⟩,fun e1=>key ?_⟩
 ·rw[decide_eq_true_eq]
  exact⟨fun h=>h.2.2,fun h=>⟨e1,e2,h⟩⟩
 ·refine⟨fun h=>?_,fun h=>by cases h⟩
  simp[h.2.1.1,h.2.1.2] at e2
 ·refine⟨fun h=>?_,fun h=>by cases h⟩
  simp[h.1.1,h.1.2] at e1
structure FnF where
 p:Prob
 vals:List Int
 wins:Int
 wor:List (Int×Int)
 seen:List (Int×Bool)
def FnF.cs (x:FnF):List SV:=[.row (.i .i64) x.vals,.si .i64 x.wins,.mp 1,.mp 2]
def FnF.sto (x:FnF):SStore:=[.cells (x.p.ss++x.cs) 75 24 false,.map (.i .i64) (.i .i64) false x.wor ([0],false) true,.map (.i .i64) .b false x.seen ([0],false) true]
def decFnF:SStore→Option FnF
 |[.cells cs 75 24 false,.map k1 v1 false e1 ([0],false) true,.map k2 v2 false e2 ([0],false) true]=>match cs.drop 20 with
  |[v,s,.mp 1,.mp 2]=>match decProb (cs.take 20),decRow (.i .i64) v,s.int .i64,castM k1 v1 (.i .i64) (.i .i64) e1,castM k2 v2 (.i .i64) .b e2 with
   |some p,some v,some s,some e1,some e2=>some ⟨p,v,s,e1,e2⟩
   |_,_,_,_,_=>none
  |_=>none
 |_=>none
theorem decFnF_ok {o:SStore} {x:FnF} (h:decFnF o=some x):gO o=gO x.sto:=by
 unfold decFnF at h
 split at h
 ·rename_i cs k1 v1 e1 k2 v2 e2
  split at h
  ·rename_i v s hd
   split at h
   ·rename_i p v' s' e1' e2' h1 h2 h3 h4 h5
    simp only[Option.some.injEq] at h
    subst h
    obtain⟨rfl,rfl,g1⟩:=castM_some h4
    obtain⟨rfl,rfl,g2⟩:=castM_some h5
    cases g1;cases g2
    have e3:gL cs=gL p.ss++gL [v,s,.mp 1,.mp 2]:=by
     rw[←hd,←decProb_ok h1,←gL_app,List.take_append_drop]
    simp only[FnF.sto,FnF.cs,gO,List.map_cons,List.map_nil,SObj.g,gL_app,e3]
    simp only[gL,decRow_ok h2,int_g h3,SV.g]
   ·cases h
  ·cases h
 ·cases h
theorem ssP_inj {p q:Prob} (h:gL p.ss=gL q.ss):p=q:=codP.inj p q (by simp only[codP,SV.g,h])
theorem fin_inj {x y:FnF} (h:gO x.sto=gO y.sto):x=y:=by
 obtain⟨p,v,s,e1,e2⟩:=x
 obtain⟨p',v',s',e1',e2'⟩:=y
 simp only[FnF.sto,FnF.cs,gO,List.map_cons,List.map_nil,SObj.g,gL_app,List.cons.injEq,AObj.cells.injEq,AObj.map.injEq,and_true] at h
 obtain⟨h1,h2,h3⟩:=h
 obtain⟨h1,h4⟩:=List.append_inj h1 (by rw[gL_len,gL_len];rfl)
 simp only[gL,SV.g,List.cons.injEq,AV.sc.injEq,Value.int.injEq,AV.sl.injEq,and_true,true_and] at h4
 obtain rfl:=ssP_inj h1
 obtain⟨⟨h5,h6⟩,rfl⟩:=h4
 obtain rfl:=flatA_inj (.i .i64) h5 h6
 have m1:e1=e1':=List.map_inj_right (fun a b hab=>by
  obtain⟨a,b⟩:=a
  simp only[keyV,valA,encV,Prod.mk.injEq,Bool.false_eq_true,if_false,List.headD_cons,Value.int.injEq,AV.sc.injEq,true_and] at hab
  exact Prod.ext hab.1 hab.2) |>.1 h2
 have m2:e2=e2':=List.map_inj_right (fun a b hab=>by
  obtain⟨a,b⟩:=a
  simp only[keyV,valA,encV,Prod.mk.injEq,Bool.false_eq_true,if_false,List.headD_cons,Value.int.injEq,Value.bool.injEq,AV.sc.injEq,true_and] at hab
  exact Prod.ext hab.1 hab.2) |>.1 h3
 rw[m1,m2]
def finCtr (f:FuncId) (β:Type) (A:ACod β) (dom:FnF→β→Prop) (res:FnF→β→SV) (out:FnF→β→FnF):OCtr where
 f:=f
 α:=FnF×β
 put a:=.ptr 0 0 24::A.put a.2
 st a:=a.1.sto
 dec v o:=match v with
  | .ptr 0 0 24::r=>match decFnF o,A.dec r with
   |some s,some b=>some (s,b)
   |_,_=>none
  |_=>none
 ok v o a h:=by
  split at h
  ·split at h
   ·rename_i h1 h2
    simp only[Option.some.injEq] at h;subst h
    exact⟨by simp only[gL,A.ok _ _ h2],decFnF_ok h1⟩
   ·cases h
  ·cases h
 inj a b h1 h2:=by
  simp only[gL,List.cons.injEq,true_and] at h1
  exact Prod.ext (fin_inj h2) (A.inj _ _ h1)
 dom a:=dom a.1 a.2
 res a:=res a.1 a.2
 out a:=(out a.1 a.2).sto
def winU (V:List Int) (n:Nat):Int:=(List.range n).foldl (fun(s:Int) (j:Nat)=>if 0<nthD V j 0 then s+2^j else s) 0
structure okFn (x:FnF):Prop where
 c:checkE x.p=0
 n4:x.p.classes.length≤4
 l:x.vals.length=x.p.classes.length
 v:∀v∈x.vals,0≤v∧v≤1000000000000000
 w:x.wins=winU x.vals x.vals.length
 k:∀e∈x.wor,e.2=worthS x.p e.1
def winB (bs:List Bool):Int:=(List.range bs.length).foldl (fun(s:Int) (j:Nat)=>if nthD bs j false=true then s+2^j else s) 0
def payB (bs:List Bool) (m:Int):Int:=(List.range bs.length).foldl (fun(s:Int) (j:Nat)=>if nthD bs j false=true∧hasI m j=false then s+2^j else s) 0
def allB:Nat→List (List Bool)
 |0=>[[]]
 |n+1=>(allB n).flatMap fun l=>[true::l,false::l]
theorem allB_mem:∀bs:List Bool,bs∈allB bs.length
 |[]=>by simp[allB]
 |b::bs=>by
  simp only[List.length_cons,allB,List.mem_flatMap]
  exact⟨bs,allB_mem bs,by cases b<;>simp⟩
def winChk:Bool:=[0,1,2,3,4].all fun n=>(allB n).all fun bs=>(List.range 16).all fun m=>decide (binK.andNotI .i64 (winB bs) m=payB bs m)&&decide (0≤winB bs)&&decide (winB bs<16)
theorem win_chk:winChk=true:=by kernel_rfl
def posL (V:List Int):List Bool:=V.map fun v=>decide (0<v)
theorem pos_nthZ {V:List Int} {j:Nat}:nthD (posL V) j false=decide (0<nthD V j 0):=by
 unfold posL nthD
 rw[List.getElem?_map]
 cases V[j]?<;>simp
theorem win_pos {V:List Int}:winU V V.length=winB (posL V):=by
 unfold winU winB
 have:(posL V).length=V.length:=by simp[posL]
 simp only[pos_nthZ,decide_eq_true_eq,this]
theorem pay_pos {V:List Int} {m:Int}:pU V m=payB (posL V) m:=by
 unfold pU payU payB
 have:(posL V).length=V.length:=by simp[posL]
 simp only[pos_nthZ,decide_eq_true_eq,this]
theorem win_not {V:List Int} {m:Int} (h:V.length≤4) (m0:0≤m) (m1:m<16):binK.andNotI .i64 (winU V V.length) m=pU V m∧0≤winU V V.length∧winU V V.length<16:=by
 have hh:=win_chk
 simp only[winChk,List.all_eq_true,List.mem_range] at hh
 have hl:(posL V).length=V.length:=by simp[posL]
 have h2:=hh V.length (by have:V.length=0∨V.length=1∨V.length=2∨V.length=3∨V.length=4:=by omega
                          rcases this with h|h|h|h|h<;>rw[h]<;>simp) (posL V) (by rw[←hl];exact allB_mem _) m.toNat (by omega)
 rw[show((m.toNat:Nat):Int)=m from by omega] at h2
 simp only[Bool.and_eq_true,decide_eq_true_eq] at h2
 rw[win_pos,pay_pos]
 exact⟨h2.1.1,h2.1.2,h2.2⟩
theorem pow_4 {n:Nat} (h:n≤4):(2:Int)^n≤16∧1≤(2:Int)^n:=by
 have:n=0∨n=1∨n=2∨n=3∨n=4:=by omega
 rcases this with h|h|h|h|h<;>rw[h]<;>decide
theorem find_k {p:Prob} {es:List (Int×Int)} {m:Int} (h:∀e∈es,e.2=worthS p e.1) {v:Int} (hf:findT (.i .i64) (.i .i64) m es=some v):v=worthS p m:=by
 unfold findT at hf
 obtain⟨e,h1,rfl⟩:=Option.map_eq_some_iff.1 hf
 have h2:=List.find?_some h1
 have h3:e.1=m:=by simpa using h2
 rw[←h3]
 exact h e (List.mem_of_find?_eq_some h1)
def worU (p:Prob) (es:List (Int×Int)) (m:Int):List (Int×Int):=if(findT (.i .i64) (.i .i64) m es).isSome=true then es else setT (.i .i64) (.i .i64) m (worthS p m) es
def r520:OCtr:=finCtr 25 Int (.one (codI .i64)) (fun x m=>okFn x∧0≤m∧m<2^x.p.classes.length)
 (fun x m=> .tup [.agg [.si .i64 (pU x.vals m),.si .i64 (lU x.vals m (worthS x.p m))],.si .i64 (worthS x.p m)]) (fun x m=>⟨x.p,x.vals,x.wins,worU x.p x.wor m,x.seen⟩)
theorem mapI_same {k v:SId} {es es':List (k.T×v.T)} {kt:List Nat×Bool} (h:es=es'):(SObj.map k v false es kt true).same (SObj.map k v false es' kt true):=by rw[h];rfl
def nilNd:SObj:=.cells [.il .i64 0,.il .i64 0] 41 2 false
def Λ520 (a:FnF×Int):Nat→LoopAnn
 |7=> .inv (Int×Int) (fun x=>⟨[(1,.si .i64 a.2),(4,.ptr 3 0 2),(6,.si .i64 (worthS a.1.p a.2)),(8,.ptr 4 0 2),(48,.row (.i .i64) a.1.vals),(49,.si .i64 a.1.vals.length),(50,.si .i64 x.1)],
   FnF.sto ⟨a.1.p,a.1.vals,a.1.wins,worU a.1.p a.1.wor a.2,a.1.seen⟩++[nilNd,.cells [.si .i64 (pU a.1.vals a.2),.si .i64 x.2] 41 2 false]⟩)
   (fun s=>(iS s 50,cS (.i .i64) s 4 1)) (fun x=>(0≤x.1∧x.1≤a.1.vals.length)∧x.2=leastU a.1.vals a.2 (worthS a.1.p a.2) x.1.toNat) (fun x=>(a.1.vals.length - x.1).toNat) fun _ _=> .look
 |_=> .look
theorem h520:HoldsO Try.prog r520:=by
 refine conO (L:=[r80]) (W:=[]) r520 Λ520 (by simp) (by simpa using h80) ?_
 rintro⟨x,m⟩ ⟨hx,m0,m1⟩
 refine vcOf (let z0:=SId.i .i64;let z1:=!(findT z0 z0 m x.wor).isSome;let z2:=SV.ptr 3 0 2;let z3:=worthS x.p m;let z4:=SV.si .i64 z3;let z5:=SV.ptr 4 0 2;let z6:=SV.row z0 x.vals;let z7:=(↑x.vals.length:Int);let z8:=(↑x.vals.length:Int);let z9:=SV.si .i64 z8;let z10:=SV.il .i64 0;let z11:=SObj.cells [SV.si .i64 x.p.supply.a0,SV.si .i64 x.p.supply.a1,SV.si .i64 x.p.supply.a2,SV.si .i64 x.p.supply.a3,SV.si .i64 x.p.supply.a4,SV.si .i64 x.p.supply.a5,SV.si .i64 x.p.opn.a0,SV.si .i64 x.p.opn.a1,SV.si .i64 x.p.opn.a2,SV.si .i64 x.p.opn.a3,SV.si .i64 x.p.opn.a4,SV.si .i64 x.p.opn.a5,SV.si .i64 x.p.cls.a0,SV.si .i64 x.p.cls.a1,SV.si .i64 x.p.cls.a2,SV.si .i64 x.p.cls.a3,SV.si .i64 x.p.cls.a4,SV.si .i64 x.p.cls.a5,SV.row z0 x.p.classes,SV.row SId.off x.p.offers,z6,SV.si .i64 x.wins,SV.mp 1,SV.mp 2] 75 24 false;let z12:=([0],false);let z13:=SObj.map z0 z0 false (worU x.p x.wor m) z12 true;let z14:=SObj.map z0 SId.b false x.seen z12 true;let z15:=SObj.cells [z10,z10] 41 2 false;let z16:=SV.si .i64 (binK.andNotI .i64 x.wins m);let z17:=SV.si .i64 (pU x.vals m);let z18:=leastU x.vals m z3 0;let z19:=(findT z0 z0 m x.wor).getD (0:Int);let z20:=SV.si .i64 z19;(z1=true→True∧((((SV.si .i64 m).same (SV.si .i64 m)∧z2.same z2∧z4.same z4∧z5.same z5∧z6.same z6∧(SV.si .i64 z7).same z9∧z10.same (SV.si .i64 0)∧True)∧z11.same z11∧(SObj.map z0 z0 false (setT z0 z0 m z3 x.wor) z12 true).same z13∧z14.same z14∧z15.same z15∧(SObj.cells [z16,z4] 41 2 false).same (SObj.cells [z17,z4] 41 2 false)∧True)∧((0:Int)≤(0:Int)∧(0:Int)≤z8)∧z3=z18)∧∀(x_1:Int×Int),let z21:=x_1.fst.toNat;let z22:=decide (binK.andI .i64 (m / (2:Int)^z21) (1:Int)=(1:Int));let z23:=x_1.snd - nthD x.vals z21 (0:Int);let z24:=x_1.fst+(1:Int);let z25:=SV.si .i64 z24;let z26:=SObj.cells [z17,SV.si .i64 z23] 41 2 false;let z27:=leastU x.vals m z3 z24.toNat;let z28:=[z17,SV.si .i64 x_1.snd];let z29:=SObj.cells z28 41 2 false;((0:Int)≤x_1.fst∧x_1.fst≤z8)∧x_1.snd=leastU x.vals m z3 z21→(decide (x_1.fst<z8)=true→(0:Int)≤x_1.fst∧x_1.fst<z7∧z21<x.vals.length∧(0:Int)≤x_1.fst∧x_1.fst≤(64:Int)∧(z22=true→inR .i64 z23∧inR .i64 z24∧(((SV.si .i64 m).same (SV.si .i64 m)∧z2.same z2∧z4.same z4∧z5.same z5∧z6.same z6∧z9.same z9∧z25.same z25∧True)∧z11.same z11∧z13.same z13∧z14.same z14∧z15.same z15∧z26.same z26∧True)∧(((0:Int)≤z24∧z24≤z8)∧z23=z27)∧(z8 - z24).toNat<(z8 - x_1.fst).toNat)∧(z22=false→inR .i64 z24∧(((SV.si .i64 m).same (SV.si .i64 m)∧z2.same z2∧z4.same z4∧z5.same z5∧z6.same z6∧z9.same z9∧z25.same z25∧True)∧z11.same z11∧z13.same z13∧z14.same z14∧z15.same z15∧z29.same z29∧True)∧(((0:Int)≤z24∧z24≤z8)∧x_1.snd=z27)∧(z8 - z24).toNat<(z8 - x_1.fst).toNat))∧(decide (x_1.fst<z8)=false→(SV.tup [SV.agg z28,z4]).same (SV.tup [SV.agg [z17,SV.si .i64 (lU x.vals m z3)],z4])∧z11.same z11∧z13.same z13∧z14.same z14∧True))∧(z1=false→((((SV.si .i64 m).same (SV.si .i64 m)∧z2.same z2∧z20.same z4∧z5.same z5∧z6.same z6∧(SV.si .i64 z7).same z9∧z10.same (SV.si .i64 0)∧True)∧z11.same z11∧(SObj.map z0 z0 false x.wor z12 true).same z13∧z14.same z14∧z15.same z15∧(SObj.cells [z16,z20] 41 2 false).same (SObj.cells [z17,z20] 41 2 false)∧True)∧((0:Int)≤(0:Int)∧(0:Int)≤z8)∧z19=z18)∧∀(x_1:Int×Int),let z30:=x_1.fst.toNat;let z31:=decide (binK.andI .i64 (m / (2:Int)^z30) (1:Int)=(1:Int));let z32:=x_1.snd - nthD x.vals z30 (0:Int);let z33:=x_1.fst+(1:Int);let z34:=SV.si .i64 z33;let z35:=SObj.cells [z17,SV.si .i64 z32] 41 2 false;let z36:=leastU x.vals m z3 z33.toNat;let z37:=[z17,SV.si .i64 x_1.snd];let z38:=SObj.cells z37 41 2 false;((0:Int)≤x_1.fst∧x_1.fst≤z8)∧x_1.snd=leastU x.vals m z3 z30→(decide (x_1.fst<z8)=true→(0:Int)≤x_1.fst∧x_1.fst<z7∧z30<x.vals.length∧(0:Int)≤x_1.fst∧x_1.fst≤(64:Int)∧(z31=true→inR .i64 z32∧inR .i64 z33∧(((SV.si .i64 m).same (SV.si .i64 m)∧z2.same z2∧z4.same z4∧z5.same z5∧z6.same z6∧z9.same z9∧z34.same z34∧True)∧z11.same z11∧z13.same z13∧z14.same z14∧z15.same z15∧z35.same z35∧True)∧(((0:Int)≤z33∧z33≤z8)∧z32=z36)∧(z8 - z33).toNat<(z8 - x_1.fst).toNat)∧(z31=false→inR .i64 z33∧(((SV.si .i64 m).same (SV.si .i64 m)∧z2.same z2∧z4.same z4∧z5.same z5∧z6.same z6∧z9.same z9∧z34.same z34∧True)∧z11.same z11∧z13.same z13∧z14.same z14∧z15.same z15∧z38.same z38∧True)∧(((0:Int)≤z33∧z33≤z8)∧x_1.snd=z36)∧(z8 - z33).toNat<(z8 - x_1.fst).toNat))∧(decide (x_1.fst<z8)=false→(SV.tup [SV.agg z37,z4]).same (SV.tup [SV.agg [z17,SV.si .i64 (lU x.vals m z3)],z4])∧z11.same z11∧z13.same z13∧z14.same z14∧True))) (by kernel_rfl) ?_
 simp only[vcs]
 have hx:okFn x:=hx
 have m0:0≤m:=m0
 have m1:m<2^x.p.classes.length:=m1
 have h4:=hx.n4
 have hV:=hx.l
 have hp:=pow_4 h4
 have hw:=(@win_not x.vals m (by omega) m0 (by omega)).1
 rw[←hx.w] at hw
 have hwb:=worth_bd x.p m
 have hbd:=@leastU_bd x.vals m (worthS x.p m) hx.v
 have hl:lU x.vals m (worthS x.p m)=leastU x.vals m (worthS x.p m) x.vals.length:=rfl
 rw[hw,hl]
 have tail:∀(s:Int×Int),(0≤s.fst∧s.fst≤↑x.vals.length)∧s.snd=leastU x.vals m (worthS x.p m) s.fst.toNat→
   (s.1<x.vals.length→(binK.andI .i64 (m / 2^s.1.toNat) 1=1→s.2 - nthD x.vals s.1.toNat 0=leastU x.vals m (worthS x.p m) (s.1+1).toNat)∧(¬binK.andI .i64 (m / 2^s.1.toNat) 1=1→s.2=leastU x.vals m (worthS x.p m) (s.1+1).toNat))∧
   (-9000000000000000≤leastU x.vals m (worthS x.p m) (s.1+1).toNat∧leastU x.vals m (worthS x.p m) (s.1+1).toNat≤9000000000000000∨¬s.1<x.vals.length)∧(¬s.1<x.vals.length→s.1.toNat=x.vals.length):=by
  rintro⟨i,l⟩ ⟨⟨i0,i1⟩,hl⟩
  simp only at i0 i1 hl
  subst hl
  have e:(i+1).toNat=i.toNat+1:=by omega
  have ei:((i.toNat:Nat):Int)=i:=by omega
  have hsu:=@leastU_succ x.vals m (worthS x.p m) i.toNat
  rw[ei] at hsu
  obtain⟨n0,n1⟩:=half_nn (i:=i.toNat) m0
  have ha:binK.andI .i64 (m / 2^i.toNat) 1=m / 2^i.toNat % 2:=and_one n0 (by omega)
  have hI:hasI m i=decide (m / 2^i.toNat % 2=1):=rfl
  simp only[ha,e,hsu]
  refine⟨fun hi=>⟨fun h1=>?_,fun h1=>?_⟩,?_,fun hi=>by omega⟩
  ·rw[if_pos (by rw[hI];exact decide_eq_true h1)]
  ·rw[if_neg (by rw[hI];simpa using h1)]
  ·by_cases hi:i<x.vals.length
   ·left
    have h1:=@hbd (i.toNat+1) (by omega)
    rw[hsu] at h1
    have h3:((i.toNat+1:Nat):Int)≤4:=by omega
    omega
   ·exact .inr hi
 refine⟨fun hk=>⟨⟨⟨mapI_same (by unfold worU;rw[if_neg (by rw[hk];simp)]),rfl⟩,⟨by omega,by omega⟩,rfl⟩,?_⟩,fun hk=>?_⟩
 ·rintro s hs
  obtain⟨t1,t2,t3⟩:=tail s hs
  obtain⟨⟨i0,i1⟩,hl⟩:=hs
  refine⟨fun hi=>⟨i0,hi,by omega,i0,by omega,fun h1=>?_,fun h1=>?_⟩,fun hi=>?_⟩
  ·rw[(t1 hi).1 h1]
   exact⟨⟨by omega,by omega⟩,by omega,⟨⟨by omega,by omega⟩,rfl⟩,by omega⟩
  ·rw[(t1 hi).2 h1]
   exact⟨by omega,⟨⟨by omega,by omega⟩,rfl⟩,by omega⟩
  ·rw[hl,t3 hi]
   rfl
 ·obtain⟨v,hv⟩:=Option.isSome_iff_exists.1 hk
  have hvv:=find_k hx.k hv
  subst hvv
  have hg:(findT (.i .i64) (.i .i64) m x.wor).getD 0=worthS x.p m:=by rw[hv];rfl
  rw[hg]
  refine⟨⟨⟨rfl,mapI_same (by unfold worU;rw[if_pos hk]),rfl⟩,⟨by omega,by omega⟩,rfl⟩,?_⟩
  rintro s hs
  obtain⟨t1,t2,t3⟩:=tail s hs
  obtain⟨⟨i0,i1⟩,hl⟩:=hs
  refine⟨fun hi=>⟨i0,hi,by omega,i0,by omega,fun h1=>?_,fun h1=>?_⟩,fun hi=>?_⟩
  ·rw[(t1 hi).1 h1]
   exact⟨⟨by omega,by omega⟩,by omega,⟨⟨by omega,by omega⟩,rfl⟩,by omega⟩
  ·rw[(t1 hi).2 h1]
   exact⟨by omega,⟨⟨by omega,by omega⟩,rfl⟩,by omega⟩
  ·rw[hl,t3 hi]
   rfl
end Go.Vi
namespace Go.Proofs
open Go.Shelf
def Try.layC_ren:Ren:=
 ⟨fun
  |41=>23
  |n=>n,
 fun
  |22=>24
  |23=>3
  |4=>4
  |n=>n,
 fun n=>n⟩
def Try.layO_ren:Ren:=
 ⟨fun
  |41=>22
  |n=>n,
 fun
  |22=>25
  |23=>60
  |4=>4
  |n=>n,
 fun n=>n⟩
def Try.layQ_ren:Ren:=
 ⟨fun
  |6=>41
  |15=>65
  |14=>64
  |28=>93
  |29=>94
  |20=>85
  |21=>86
  |22=>87
  |23=>88
  |24=>89
  |25=>90
  |26=>91
  |27=>92
  |46=>101
  |47=>102
  |48=>103
  |49=>104
  |50=>105
  |57=>106
  |n=>n,
 fun
  |22=>64
  |24=>39
  |25=>96
  |3=>3
  |39=>55
  |0=>0
  |53=>81
  |55=>108
  |4=>4
  |46=>145
  |45=>144
  |50=>149
  |5=>5
  |9=>9
  |66=>159
  |70=>163
  |76=>165
  |77=>166
  |n=>n,
 fun n=>n⟩
theorem Try.layC:SlLaysE0.n41 Try.prog Try.layC_ren:={mixed:=by kernel_rfl,f41:=⟨Try.f23.name,by decide,Try.func23.trans (by kernel_rfl)⟩,t4:=Try.underlying4,a4:=Try.isAgg4,z4:=Try.sizeOf4,v4:=Try.zeroValue4,t22:=Try.underlying24,a22:=Try.isAgg24,z22:=Try.sizeOf24,v22:=Try.zeroValue24}
theorem Try.layO:SlLaysE0.n41 Try.prog Try.layO_ren:={mixed:=by kernel_rfl,f41:=⟨Try.f22.name,by decide,Try.func22.trans (by kernel_rfl)⟩,t4:=Try.underlying4,a4:=Try.isAgg4,z4:=Try.sizeOf4,v4:=Try.zeroValue4,t22:=Try.underlying25,a22:=Try.isAgg25,z22:=Try.sizeOf25,v22:=Try.zeroValue25}
theorem Try.layQ:SlLaysF0.n6 Try.prog Try.layQ_ren:={mixed:=by kernel_rfl,f6:=⟨Try.f41.name,by decide,Try.func41.trans (by kernel_rfl)⟩,f14:=⟨Try.f64.name,by decide,Try.func64.trans (by kernel_rfl)⟩,f15:=Try.func65.trans (by kernel_rfl),f20:=⟨Try.f85.name,by decide,Try.func85.trans (by kernel_rfl)⟩,f21:=⟨Try.f86.name,by decide,Try.func86.trans (by kernel_rfl)⟩,f22:=⟨Try.f87.name,by decide,Try.func87.trans (by kernel_rfl)⟩,f23:=⟨Try.f88.name,by decide,Try.func88.trans (by kernel_rfl)⟩,f24:=⟨Try.f89.name,by decide,Try.func89.trans (by kernel_rfl)⟩,f25:=⟨Try.f90.name,by decide,Try.func90.trans (by kernel_rfl)⟩,f26:=⟨Try.f91.name,by decide,Try.func91.trans (by kernel_rfl)⟩,f27:=⟨Try.f92.name,by decide,Try.func92.trans (by kernel_rfl)⟩,f28:=Try.func93.trans (by kernel_rfl),f29:=Try.func94.trans (by kernel_rfl),f46:=⟨Try.f101.name,by decide,Try.func101.trans (by kernel_rfl)⟩,f47:=Try.func102.trans (by kernel_rfl),f48:=Try.func103.trans (by kernel_rfl),f49:=⟨Try.f104.name,by decide,Try.func104.trans (by kernel_rfl)⟩,f50:=⟨Try.f105.name,by decide,Try.func105.trans (by kernel_rfl)⟩,f57:=⟨Try.f106.name,by decide,Try.func106.trans (by kernel_rfl)⟩,t0:=Try.underlying0,a0:=Try.isAgg0,z0:=Try.sizeOf0,v0:=Try.zeroValue0,t3:=Try.underlying3,a3:=Try.isAgg3,z3:=Try.sizeOf3,v3:=Try.zeroValue3,t4:=Try.underlying4,a4:=Try.isAgg4,z4:=Try.sizeOf4,v4:=Try.zeroValue4,t5:=Try.underlying5,a5:=Try.isAgg5,z5:=Try.sizeOf5,v5:=Try.zeroValue5,t9:=Try.underlying9,a9:=Try.isAgg9,z9:=Try.sizeOf9,v9:=Try.zeroValue9,t22:=Try.underlying64,a22:=Try.isAgg64,z22:=Try.sizeOf64,v22:=Try.zeroValue64,t25:=Try.underlying96,a25:=Try.isAgg96,z25:=Try.sizeOf96,v25:=Try.zeroValue96,t39:=Try.underlying55,a39:=Try.isAgg55,z39:=Try.sizeOf55,v39:=Try.zeroValue55,t45:=Try.underlying144,a45:=Try.isAgg144,z45:=Try.sizeOf144,v45:=Try.zeroValue144,t46:=Try.underlying145,a46:=Try.isAgg145,z46:=Try.sizeOf145,v46:=Try.zeroValue145,t50:=Try.underlying149,a50:=Try.isAgg149,z50:=Try.sizeOf149,v50:=Try.zeroValue149,t53:=Try.underlying81,a53:=Try.isAgg81,z53:=Try.sizeOf81,v53:=Try.zeroValue81,t55:=Try.underlying108,a55:=Try.isAgg108,z55:=Try.sizeOf108,v55:=Try.zeroValue108,t66:=Try.underlying159,a66:=Try.isAgg159,z66:=Try.sizeOf159,v66:=Try.zeroValue159,t70:=Try.underlying163,a70:=Try.isAgg163,z70:=Try.sizeOf163,v70:=Try.zeroValue163,t76:=Try.underlying165,a76:=Try.isAgg165,z76:=Try.sizeOf165,v76:=Try.zeroValue165,t77:=Try.underlying166,a77:=Try.isAgg166,z77:=Try.sizeOf166,v77:=Try.zeroValue166}
end Go.Proofs
namespace Go.Proofs
open Go.Shelf Go.RowKit Go.Lib
theorem cloneW {P:Program} {ρ:Ren} (L:SlLaysE0.n41 P ρ) (i0:TypeInfo) (z:Value) (b g:Nat) (I:P.info? (ρ.t 23)=some i0) (x:i0.zero=some z) (y:i0.size=b) (q:i0.bytes=g) (m:z.cells.size=b) (o:0<b)
  (Q:∀w,(Go.sizeOf (ρ.t 23)).run P w= .ok b w) (p:Addr) (n c:Nat) (d:List Value) (w:World) (K:d.length=n*b) (U:n≤maxLen) (B:n*g≤140737488355328)
  (C:∀j u,d[j]?=some u→w.cell? (p.add j)=some u) (E:∀u∈d,u.oneCell'=true):
  Calls P (ρ.f 41) #[.slice (some p) n c] w fun e w'=>∃l,e= .returned l∧w'.ownsRow w.heap.size (ρ.t 23) b l n d∧l≠ .slice none 0 0∧Below w.heap.size w w':=by
 have v:=L.mixed;have W:=L.t4;have V:=L.a4;have T:=L.z4;have S:=L.v4;have i:=L.t22;have N:=L.a22;have O:=L.z22;have H:=L.v22
 have G:∀(w:World) (a:Option Addr) (n c r s:Nat),(binOp .eql (ρ.t 22) (.slice a n c) (.slice none r s)).run P w= .ok (.bool a.isNone) w:=fun w a n c r s=>Lib.run_eql_slice_nil w _ _ a n c r s L.t22
 have F:∀w,Sem.run P (underlying (ρ.t 22)) w= .ok (TypeDesc.slice (ρ.t 23)) w:=run_underlying i
 have A:Aside (∀j u,d[j]?=some u→w.cell? (p.add j)=some u):=C
 clear C
 obtain⟨_,_,M⟩:=L.f41
 go_enter M,SlBodyN.n41_ntmps ρ
 go_wp2_with (at_builtin;refine wpList_append_own _ rfl _ _ (ρ.t 22) rfl w.heap.size (ρ.t 23) i0 z b g i I x y q m o _ _ _ rfl (World.ownsRow_made w #[] 0 (Nat.le_refl _) (Nat.zero_le _) (by simp)) p n c d rfl ?qc1 ?qc2 ?qc3 ?qc4 ?qc5 ?qc6 ?_)
 case qc1=>exact K
 case qc2=>
  intro j u J
  exact Lib.cell?_alloc_some _ (A.out j u J)
 case qc3=>exact E
 case qc4=>omega
 case qc5=>simp_all
 case qc6=>simp
 intro l R D h k
 go_wp2
 go_ret
 refine⟨l,rfl,by omega,?_,?_⟩
 ·exact k
 ·exact((Below.refl _ w).alloc (Nat.le_refl _) _).grown h (by simp) (by grind[Value.ownBlock])
end Go.Proofs
namespace Go.Vi
open Go.Proofs.Ytddpfdamlefbgaa.Ir
open Go.Proofs
theorem flatI (l:List Int):flatA (.i .i64) l=l.map fun x=>AV.sc (.int .i64 x):=by
 unfold flatA
 induction l with
 |nil=>rfl
 |cons x l a=>rw[List.flatMap_cons,a];rfl
def sortI (l:List Int):List Int:=l.mergeSort fun x y=>decide (x≤y)
theorem cloneC {A:Clr} {w:World} {l:List Int} {vs:List Value} {fid:FuncId} (hfid:fid=Try.layC_ren.f 41) (hS:SimO A w [] []) (hl:l.length≤1000000) (hR:RepL A w [] [] [.sl l.length (l.map fun x=>AV.sc (.int .i64 x))] vs):
  Calls Try.prog fid vs.toArray w fun e w'=>RowKit.Below w.heap.size w w'∧((e= .returned (.slice none 0 0)∧l=[])∨∃g cap cur,e= .returned (.slice (some ⟨g,0,none⟩) l.length cap)∧w.heap.size≤g∧w'.heap[g]?=some (.cells cur 3 (0,0))∧l.length≤cap∧cap≤maxLen∧cur.size=cap∧cur.toList.take l.length=l.map (Value.int .i64)):=by
 subst hfid
 simp only[RepL] at hR
 obtain⟨v,r,rfl,hv,rfl⟩:=hR
 simp only[Rep] at hv
 obtain⟨a,cap,rfl,hcap,_,hM⟩:=hv
 cases a with
 |none=>
  have hnil:l=[]:=by
   cases l with
   |nil=>rfl
   |cons x l=>
    simp only[List.map_cons,RepM] at hM
    obtain⟨⟨b,_,e,_⟩,_⟩:=hM
    cases e
  refine Calls.mono (AnyE.slices_Clone_nil Try.layC l.length cap w) ?_
  rintro e w' ⟨rfl,rfl⟩
  exact⟨RowKit.Below.refl _ _,.inl ⟨rfl,hnil⟩⟩
 |some p=>
  have hc:∀j u,(l.map (Value.int .i64))[j]?=some u→w.cell? (p.add j)=some u:=by
   intro j u hj
   rw[List.getElem?_map] at hj
   obtain⟨x,hx,rfl⟩:=Option.map_eq_some_iff.1 hj
   obtain⟨b,v,e,_,hcell,hrep⟩:=RepM.get _ _ _ hM j (.sc (.int .i64 x)) (by simp[hx])
   injection e with e
   subst e
   simp only[Rep] at hrep
   rw[Nat.zero_add,hrep.1] at hcell
   exact hcell
  refine Calls.mono (cloneW Try.layC Try.t3 (.int .i64 0) 1 8 (by kernel_rfl) (by kernel_rfl) (by kernel_rfl) (by kernel_rfl) (by kernel_rfl) (by omega) Try.sizeOf3 p l.length cap (l.map (Value.int .i64)) w (by simp) (by have:maxLen=9223372036854775807:=rfl;omega) (by omega) hc (by simp[Value.oneCell'])) ?_
  rintro e w' ⟨v',rfl,hown,hne,hbel⟩
  refine⟨hbel,.inr ?_⟩
  obtain⟨_,h|⟨g,cap',cur,rfl,h1,h2,h3,h4,h5,h6⟩⟩:=hown
  ·exact absurd h.1 hne
  ·exact⟨g,cap',cur,rfl,h1,h2,h3,h4,by omega,by simpa using h6⟩
def r330:SCtr:=⟨23,List Int,.one (codR (.i .i64)),fun l=>l.length≤1000000,fun l=> .row (.i .i64) l⟩
theorem h330:Holds Try.prog r330:=by
 intro(l:List Int) (hl:l.length≤1000000)
 refine⟨by kernel_rfl,?_⟩
 intro A w σ vs hS hR
 have hσ:σ=[]:=by have:=hS.len;simpa using this
 subst hσ
 have e1:gL (r330.A.put l)=[.sl l.length (l.map fun x=>AV.sc (.int .i64 x))]:=by rw[←flatI];rfl
 have e2:(r330.res l).G= .sl l.length (l.map fun x=>AV.sc (.int .i64 x)):=by rw[←flatI];rfl
 rw[e1] at hR
 rw[e2]
 refine Calls.mono (cloneC (by rfl) hS hl hR) ?_
 rintro e w' ⟨hb,h⟩
 have hS':SimO A w' [] []:=⟨rfl,by simp,by simp,by simp,by simp,fun b h=>Nat.lt_of_lt_of_le (hS.avb b h) hb.size⟩
 have hE:Ext w [] [] w' [] []:=⟨hb.size,fun b h _=>⟨hb.block b h,fun⟨i,c,hi⟩=>by simp at hi⟩,Nat.le_refl _,fun _ _ ⟨_,_,_,_,h,_⟩=>by simp at h,fun _ ⟨_,_,_,h⟩=>by simp at h,hb.os,hb.tape,hb.output⟩
 rcases h with⟨rfl,rfl⟩|⟨g,cap,cur,rfl,h1,h2,h3,h4,h5,h6⟩
 ·exact⟨_,[],rfl,hS',by simp only[Rep];exact⟨none,0,rfl,by simp,by rw[←flatI];exact flatA_pure _ _,by simp[RepM]⟩,hE⟩
 ·refine⟨_,[],rfl,hS',?_,hE⟩
  simp only[Rep]
  refine⟨_,_,rfl,h3,by rw[←flatI];exact flatA_pure _ _,RepM.of_get _ _ _ fun i c hi=>?_⟩
  rw[List.getElem?_map] at hi
  obtain⟨x,hx,rfl⟩:=Option.map_eq_some_iff.1 hi
  have hil:=(List.getElem?_eq_some_iff.1 hx).1
  have h9:(cur.toList.take l.length)[i]?=(l.map (Value.int .i64))[i]?:=by rw[h6]
  rw[List.getElem?_take_of_lt hil,Array.getElem?_toList,List.getElem?_map,hx] at h9
  refine⟨⟨g,0,none⟩,.int .i64 x,rfl,⟨fun⟨i,c,hi⟩=>by simp at hi,fun hA=>by have:=hS.avb g hA;omega⟩,?_,by simp[Rep,Value.oneCell']⟩
  rw[Addr.add_lit]
  simp only[World.cell?,h2,Nat.zero_add,Option.isSome_none,Bool.false_eq_true,if_false]
  exact h9
def r437:SCtr:=⟨20,Prob×List Int,.cons codP (.one (codR (.i .i64))),fun a=>checkE a.1=0∧a.2.length≤9223372036854775807,fun a=> .si .i64 (valueS a.1 a.2)⟩
def Λ437 (p:Prob) (c:List Int):Nat→LoopAnn
 |6=> .inv Int (fun i=>⟨[(7,.si .i64 (sumV ((pickL p c).take i.toNat))),(23,.row .off (pickL p c)),(24,.si .i64 (pickL p c).length),(25,.si .i64 i)],[.cells p.ss 27 20 false]⟩)
   (fun s=>iS s 25) (fun i=>0≤i∧i≤(pickL p c).length) (fun i=>((pickL p c).length - i).toNat) fun _ _=> .look
 |_=> .look
theorem h437:Holds Try.prog r437:=by
 refine con0 (L:=[r133,r79]) r437 (fun a=>Λ437 a.1 a.2) (by simpa using⟨h133,h79⟩) ?_
 rintro⟨p,c⟩ ⟨hz,hc⟩
 simp only at hz hc
 refine vcOf (let z0:=SV.il .i64 0;let z1:=SV.si .i64 (valueS p c);let z2:=decide (checkE p≠(0:Int));let z3:=SV.row SId.off (pickL p c);let z4:=(↑(pickL p c).length:Int);let z5:=(↑(pickL p c).length:Int);let z6:=SV.si .i64 z5;let z7:=SObj.cells (Prob.ss p) 27 20 false;(c.length≤9223372036854775807∧p.offers.length≤1000)∧((!pickOk p c)=true→z0.same z1)∧((!pickOk p c)=false→True∧(z2=true→z0.same z1)∧(z2=false→(((z0.same (SV.si .i64 (sumV []))∧z3.same z3∧(SV.si .i64 z4).same z6∧z0.same (SV.si .i64 0)∧True)∧z7.same z7∧True)∧(0:Int)≤(0:Int)∧(0:Int)≤z5)∧∀(x:Int),let z8:=sumV (List.take x.toNat (pickL p c));let z9:=z8+(nthD (pickL p c) x.toNat SId.off.dflt).value;let z10:=x+(1:Int);let z11:=SV.si .i64 z10;(0:Int)≤x∧x≤z5→(decide (x<z5)=true→(0:Int)≤x∧x<z4∧x.toNat<(pickL p c).length∧inR .i64 z9∧inR .i64 z10∧(((SV.si .i64 z9).same (SV.si .i64 (sumV (List.take z10.toNat (pickL p c))))∧z3.same z3∧z6.same z6∧z11.same z11∧True)∧z7.same z7∧True)∧((0:Int)≤z10∧z10≤z5)∧(z5 - z10).toNat<(z5 - x).toNat)∧(decide (x<z5)=false→(SV.si .i64 z8).same z1)))) (by kernel_rfl) ?_
 simp only[vcs]
 have hg:=good_of hz
 obtain⟨q1,q2⟩:=picks_ok (c:=c) hz
 have h160:=hg.2.1
 have hok:pickOk p c=false→0=valueS p c:=fun h=>by
  unfold valueS
  rw[if_pos hz]
  unfold pickL
  unfold pickOk at h
  rw[Option.isSome_eq_false_iff,Option.isNone_iff_eq_none] at h
  rw[h]
  rfl
 refine⟨⟨hc,by omega⟩,hok,fun _=>⟨fun h=>absurd hz h,fun _=>⟨⟨by simp[sumV],by omega,by omega⟩,?_⟩⟩⟩
 rintro i ⟨hi0,hi1⟩
 refine⟨fun hlt=>?_,fun hge=>?_⟩
 ·have hs:=sumV_take hi0 hlt
  have hb:=sum_val_bd hg (l:=(pickL p c).take i.toNat) fun x hx=>q2 x (List.mem_of_mem_take hx)
  have hb2:=sum_val_bd hg (l:=(pickL p c).take (i+1).toNat) fun x hx=>q2 x (List.mem_of_mem_take hx)
  simp only[List.length_take] at hb hb2
  exact⟨by omega,by omega,by omega,by omega,by omega,hs.symm,by omega,by omega⟩
 ·rw[show i.toNat=(pickL p c).length from by omega,List.take_length]
  simp[valueS,hz]
end Go.Vi
