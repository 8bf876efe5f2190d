/-
  Contracts: the reference's natural numbers: trim, digit, Cmp, Add, Sub, FromUint.
  Conditions: none.
-/
import Derived.Test.YtgejbpobaicgfaaGreatRX06
import Derived.Test.YtgejbpobaicgfaaGreatRX07
import Derived.Test.YtgejbpobaicgfaaGreatRX08
import Derived.Test.YtgejbpobaicgfaaGreatProg
import Derived.Shelf.Sort.AssemblyIn
import Derived.Shelf.SlicesE.Clone
import Derived.Shelf.SlicesE.Delete
import Derived.KernelRfl
import Derived.Sort.EveryDepth
import Derived.Sort.OwnSortedInts
import Derived.WalkKit
import Derived.Deep.LoopGhost
import Derived.Lib.Walk
import Derived.Lib.SliceRun
import Derived.Shelf.RegionOpenPlain
import Derived.Test.YtgejbpobaicgfaaGreatRX04
set_option maxRecDepth 100000
set_option maxHeartbeats 4000000
set_option linter.unusedSimpArgs false
set_option linter.unusedVariables false
namespace Go.Vi
open Go.Proofs.YtgejbpobaicgfaaGreat.Ir
open Go.Proofs
theorem oo (a:List Int):ac a=ae a 0 0+4294967296*ac a.tail:=by
 cases a with
 |nil=>simp[ac,ae]
 |cons d l=>simp[ac,ae]
theorem mT (a:List Int) (j:Nat):ae a (j+1) 0=ae a.tail j 0:=by
 cases a with
 |nil=>simp[ae]
 |cons d l=>simp[ae]
theorem D5 {a:List Int} (h:ag a):ag a.tail:=fun d hd=>h d (List.mem_of_mem_tail hd)
theorem D6:∀(n:Nat) {a b:List Int},a.length≤n→b.length≤n→(∀j,ae a j 0=ae b j 0)→ac a=ac b
 |0,a,b,h1,h2,_=>by rw[List.eq_nil_of_length_eq_zero (by omega:a.length=0),List.eq_nil_of_length_eq_zero (by omega:b.length=0)]
 |n+1,a,b,h1,h2,h=>by
  rw[oo a,oo b,h 0]
  have:=D6 n (a:=a.tail) (b:=b.tail) (by rw[List.length_tail];omega) (by rw[List.length_tail];omega) (fun j=>by rw[←mT,←mT];exact h (j+1))
  rw[this]
theorem D7:∀{k:Nat} {a b:List Int},ag a→ag b→(∀j,k<j→ae a j 0=ae b j 0)→ae a k 0<ae b k 0→ac a<ac b
 |0,a,b,ha,hb,h,hk=>by
  have:=D6 (max a.length b.length) (a:=a.tail) (b:=b.tail) (by rw[List.length_tail];omega) (by rw[List.length_tail];omega) (fun j=>by rw[←mT,←mT];exact h (j+1) (by omega))
  rw[oo a,oo b,this]
  omega
 |k+1,a,b,ha,hb,h,hk=>by
  rw[mT,mT] at hk
  have:=D7 (k:=k) (D5 ha) (D5 hb) (fun j hj=>by rw[←mT,←mT];exact h (j+1) (by omega)) hk
  have h1:=bK ha 0
  have h2:=bK hb 0
  rw[oo a,oo b]
  omega
def KO (a:List Int):SV:=.row (.i .u32) (aM (ac a))
def oq:bf:=⟨174,List Int,.one (bR (.i .u32)),fun a=>ag a∧a.length≤100000000000,fun a=>KO a⟩
def XZ (a:List Int):Nat→bz
 |1=> .inv (List Int) (fun l=>⟨[(0,.row (.i .u32) l)],[]⟩) (fun s=>rS (.i .u32) s 0) (fun l=>ag l∧ac l=ac a∧l.length≤a.length) (fun l=>l.length) fun _ _=> .look
 |_=> .look
theorem KP {l:List Int} (h:l.length≠0) (hz:ae l (l.length - 1) 0=0):ac (l.take (l.length - 1))=ac l:=by
 have:=@eJ l (l.length - 1)
 rw[show l.length - 1+1=l.length by omega,List.take_length,hz,Int.mul_zero,Int.add_zero] at this
 exact this.symm
theorem sA {l:List Int} (h:l.length=0∨ae l (l.length - 1) 0≠0):bO l:=by
 rcases h with h|h
 ·rw[List.eq_nil_of_length_eq_zero h];trivial
 ·by_cases hl:l.length=0
  ·rw[List.eq_nil_of_length_eq_zero hl];trivial
  ·have h1:=zi (a:=l) (n:=l.length - 1) (by omega)
   rw[show l.length - 1+1=l.length by omega,List.take_length] at h1
   rw[h1]
   exact Dn h
theorem h140:Holds Tryz.prog oq:=by
 refine con (L:=[]) oq sS XZ (bu.none _) (by simp) (by kernel_rfl) (by kernel_rfl) (fun _=>rfl) ?_
 intro(a:List Int) h
 obtain⟨ha,hl⟩:ag a∧a.length≤100000000000:=h
 refine bh (let z0:=ai.i .u32;let z1:=SV.row z0 (aM (ac a));((((SV.row z0 a).same (SV.row z0 a)∧True)∧True)∧ag a∧ac a=ac a∧a.length≤a.length)∧∀(x:List Int),let z2:=(↑x.length:Int);let z3:=decide ((0:Int)<z2);let z4:=z2 - (1:Int);let z5:=z4.toNat;let z6:=decide (ae x z5 (0:Int)=(0:Int));let z7:=List.take (z5 - 0) x;let z8:=0+x.length;ag x∧ac x=ac a∧x.length≤a.length→(z3=true→aC .i64 z4∧(0:Int)≤z4∧z4<z2∧z5<x.length∧(z6=true→aC .i64 z4∧(0:Int)≤z4∧0≤z5∧z5≤x.length∧(((SV.row z0 z7).same (SV.row z0 z7)∧True)∧True)∧(ag z7∧ac z7=ac a∧z7.length≤a.length)∧z7.length<x.length)∧(z6=false→0=0∧z8*4≤140737488355328∧z8≤1000000000000∧x.length=x.length∧(SV.row z0 x).same z1))∧(z3=false→0=0∧z8*4≤140737488355328∧z8≤1000000000000∧x.length=x.length∧(SV.row z0 x).same z1)) (by kernel_rfl) ?_
 simp only[vcs]
 refine⟨⟨ha,by omega⟩,?_⟩
 rintro l ⟨dl,hv,hll⟩
 have t1:((l.length:Int) - 1).toNat - 0=l.length - 1:=by omega
 have t2:((l.length:Int) - 1).toNat=l.length - 1:=by omega
 rw[t1,t2]
 have fin:(l.length=0∨ae l (l.length - 1) 0≠0)→(SV.row (.i .u32) l).same (SV.row (.i .u32) (aM (ac a))):=fun h=>Xi (by rw[←hv,jS dl (sA h)])
 refine⟨fun hl0=>⟨by omega,by omega,by omega,by omega,fun hz=>?_,fun hz=>?_⟩,fun hl0=>?_⟩
 ·have:=KP (by omega) hz
  repeat' refine And.intro ?_ ?_
  all_goals first|omega|exact fJ dl _|(rw[this];exact hv)|(simp;omega)
 ·repeat' refine And.intro ?_ ?_
  all_goals first|omega|exact jS dl (sA (.inr hz))▸hv▸rfl|exact fin (.inr hz)|(rw[←hv,jS dl (sA (.inr hz))])
 ·have h0:l.length=0:=by omega
  repeat' refine And.intro ?_ ?_
  all_goals first|omega|exact fin (.inl h0)|(rw[←hv,jS dl (sA (.inl h0))])
def ot:bf:=⟨173,List Int×Int,.cons (bR (.i .u32)) (.one (cT .i64)),fun a=>ag a.1∧0≤a.2,fun a=> .si .u64 (ae a.1 a.2.toNat 0)⟩
theorem h139:Holds Tryz.prog ot:=by
 refine con (L:=[]) ot wm (fun _ _=> .look) (bu.none _) (by simp) (by kernel_rfl) (by kernel_rfl) (fun _=>rfl) ?_
 rintro⟨a,i⟩ ⟨ha,hi⟩
 simp only at ha hi
 refine bh (let z0:=decide (i<(↑a.length:Int));let z1:=ae a i.toNat (0:Int);let z2:=SV.si .u64 z1;(z0=true→(0:Int)≤i∧i<(↑a.length:Int)∧i.toNat<a.length∧(SV.si .u64 (z1 % (18446744073709551616:Int))).same z2)∧(z0=false→(SV.il .u64 0).same z2)) (by kernel_rfl) ?_
 simp only[vcs]
 have hd:=bK ha i.toNat
 refine⟨fun h=>⟨hi,by omega,by omega,by omega⟩,fun h=>?_⟩
 exact(pU (by omega)).symm
def zF:bf:=⟨175,List Int×List Int,.cons (bR (.i .u32)) (.one (bR (.i .u32))),fun a=>(ag a.1∧ag a.2)∧a.1.length≤1000000000000∧a.2.length≤1000000000000,fun a=> .si .i64 (dS (ac a.1) (ac a.2))⟩
def X1 (a:List Int×List Int):Nat→bz
 |2=> .inv Int (fun i=>⟨[(0,.row (.i .u32) a.1),(1,.row (.i .u32) a.2),(5,.si .i64 i)],[]⟩) (fun s=>iS s 5)
  (fun i=> -1≤i∧i<max (a.1.length:Int) a.2.length∧∀j:Nat,i<j→ae a.1 j 0=ae a.2 j 0) (fun i=>(i+1).toNat) fun _ _=> .look
 |_=> .look
theorem h141:Holds Tryz.prog zF:=by
 refine con (L:=[ot]) zF wn X1 (bu.none _) (by simpa using h139) (by kernel_rfl) (by kernel_rfl) (fun _=>rfl) ?_
 rintro⟨a,b⟩ ⟨⟨ha,hb⟩,hla,hlb⟩
 simp only at ha hb hla hlb
 refine bh (let z0:=max (↑a.length:Int) (↑b.length:Int) - (1:Int);let z1:=SV.row (ai.i .u32) a;let z2:=SV.row (ai.i .u32) b;let z3:=SV.si .i64 z0;let z4:=max (↑a.length:Int) (↑b.length:Int);let z5:=SV.si .i64 (dS (ac a) (ac b));aC .i64 z0∧(((z1.same z1∧z2.same z2∧z3.same z3∧True)∧True)∧(-1:Int)≤z0∧z0<z4∧∀(j:Nat),z0<(↑j:Int)→ae a j (0:Int)=ae b j (0:Int))∧∀(x:Int),let z6:=decide ((0:Int)≤x);let z7:=ae a x.toNat (0:Int);let z8:=ae b x.toNat (0:Int);let z9:=x - (1:Int);let ak:=SV.si .i64 z9;((-1:Int)≤x∧x<z4∧∀(j:Nat),x<(↑j:Int)→ae a j (0:Int)=ae b j (0:Int))→(z6=true→(ag a∧(0:Int)≤x)∧(ag b∧(0:Int)≤x)∧(decide (z7<z8)=true→(SV.il .i64 (-1:Int)).same z5)∧(decide (z7<z8)=false→(ag a∧(0:Int)≤x)∧(ag b∧(0:Int)≤x)∧(decide (z8<z7)=true→(SV.il .i64 1).same z5)∧(decide (z8<z7)=false→aC .i64 z9∧((z1.same z1∧z2.same z2∧ak.same ak∧True)∧True)∧((-1:Int)≤z9∧z9<z4∧∀(j:Nat),z9<(↑j:Int)→ae a j (0:Int)=ae b j (0:Int))∧(z9+(1:Int)).toNat<(x+(1:Int)).toNat)))∧(z6=false→(SV.il .i64 0).same z5)) (by kernel_rfl) ?_
 simp only[vcs]
 refine⟨by omega,⟨by omega,by omega,fun j hj=>by rw[pU (a:=a) (by omega),pU (a:=b) (by omega)]⟩,?_⟩
 rintro i ⟨i0,i1,hd⟩
 refine⟨fun hi=>⟨⟨ha,hi⟩,⟨hb,hi⟩,fun h=>?_,fun h=>⟨⟨ha,hi⟩,⟨hb,hi⟩,fun h2=>?_,fun h2=>⟨by omega,⟨by omega,by omega,fun j hj=>?_⟩,by omega⟩⟩⟩,fun hi=>?_⟩
 ·have:=D7 ha hb (fun j hj=>hd j (by omega)) h
  unfold dS
  rw[if_pos this]
 ·have:=D7 hb ha (fun j hj=>(hd j (by omega)).symm) h2
  unfold dS
  rw[if_neg (by omega),if_pos this]
 ·by_cases hji:(j:Int)=i
  ·rw[show i.toNat=j by omega] at h h2
   omega
  ·exact hd j (by omega)
 ·have:=D6 (max a.length b.length) (a:=a) (b:=b) (by omega) (by omega) (fun j=>hd j (by omega))
  unfold dS
  rw[if_neg (by omega),if_neg (by omega)]
def uG:bf:=⟨150,List Int×List Int,.cons (bR (.i .u32)) (.one (bR (.i .u32))),fun a=>(ag a.1∧ag a.2)∧a.1.length≤10000000000∧a.2.length≤10000000000,fun a=> .row (.i .u32) (aM (ac a.1+ac a.2))⟩
def X2 (a:List Int×List Int):Nat→bz
 |4=> .inv (Int×Int×List Int) (fun x=>⟨[(0,.row (.i .u32) a.1),(1,.row (.i .u32) a.2),(5,.ow 0 x.2.2.length 1),(6,.si .u64 x.2.1),(7,.si .i64 x.1)],[.row (.i .u32) x.2.2 161 true]⟩)
  (fun s=>(iS s 7,iS s 6,oS (.i .u32) s 0))
  (fun x=>(0≤x.1∧x.1≤max (a.1.length:Int) a.2.length+1)∧(0≤x.2.1∧x.2.1≤1)∧(ag x.2.2∧(x.2.2.length:Int)=x.1)∧ac x.2.2+4294967296^x.1.toNat*x.2.1=ac (a.1.take x.1.toNat)+ac (a.2.take x.1.toNat))
  (fun x=>(max (a.1.length:Int) a.2.length+1 - x.1).toNat) fun _ _=> .look
 |_=> .look
theorem h106:Holds Tryz.prog uG:=by
 refine con (L:=[ot,oq]) uG vQ X2 (bu.none _) (by simpa using⟨h139,h140⟩) (by kernel_rfl) (by kernel_rfl) (fun _=>rfl) ?_
 rintro⟨a,b⟩ ⟨⟨ha,hb⟩,hla,hlb⟩
 simp only at ha hb hla hlb
 refine bh (let z0:=ai.i .u32;let z1:=SV.ow 0 0 1;let z2:=af.row z0 [] 161 true;let z3:=max (↑a.length:Int) (↑b.length:Int)+(1:Int);((((SV.row z0 a).same (SV.row z0 a)∧(SV.row z0 b).same (SV.row z0 b)∧z1.same z1∧(SV.il .u64 0).same (SV.si .u64 0)∧(SV.il .i64 0).same (SV.si .i64 0)∧True)∧z2.same z2∧True)∧((0:Int)≤(0:Int)∧(0:Int)≤z3)∧((0:Int)≤(0:Int)∧(0:Int)≤(1:Int))∧(ag []∧(0:Int)=(0:Int))∧(0:Int)=(0:Int))∧∀(x:Int×Int×List Int),let z4:=x.snd.snd.length;let z5:=x.fst.toNat;let z6:=decide (x.fst≤max (↑a.length:Int) (↑b.length:Int));let z7:=x.snd.snd.length+1;let z8:=((ae a z5 (0:Int)+ae b z5 (0:Int)) % (18446744073709551616:Int)+x.snd.fst) % (18446744073709551616:Int);let z9:=z8.tdiv (4294967296:Int);let ak:=x.fst+(1:Int);let al:=x.snd.snd++[z8.tmod (4294967296:Int) % (4294967296:Int)];let z12:=SV.si .u64 z9;let au:=SV.si .i64 ak;let ar:=af.row z0 al 161 true;((0:Int)≤x.fst∧x.fst≤z3)∧((0:Int)≤x.snd.fst∧x.snd.fst≤(1:Int))∧(ag x.snd.snd∧(↑z4:Int)=x.fst)∧ac x.snd.snd+(4294967296:Int)^z5*x.snd.fst=ac (List.take z5 a)+ac (List.take z5 b)→(z6=true→(ag a∧(0:Int)≤x.fst)∧(ag b∧(0:Int)≤x.fst)∧(4294967296:Int)≠(0:Int)∧z4=x.snd.snd.length∧z7*4≤140737488355328∧z7≤1000000000000∧(4294967296:Int)≠(0:Int)∧aC .u64 z9∧aC .i64 ak∧(((SV.row z0 a).same (SV.row z0 a)∧(SV.row z0 b).same (SV.row z0 b)∧(SV.ow 0 al.length 1).same (SV.ow 0 al.length 1)∧z12.same z12∧au.same au∧True)∧ar.same ar∧True)∧(((0:Int)≤ak∧ak≤z3)∧((0:Int)≤z9∧z9≤(1:Int))∧(ag al∧(↑al.length:Int)=ak)∧ac al+(4294967296:Int)^ak.toNat*z9=ac (List.take ak.toNat a)+ac (List.take ak.toNat b))∧(z3 - ak).toNat<(z3 - x.fst).toNat)∧(z6=false→z4=x.snd.snd.length∧(ag x.snd.snd∧z4≤100000000000)∧(SV.row z0 (aM (ac x.snd.snd))).same (SV.row z0 (aM (ac a+ac b))))) (by kernel_rfl) ?_
 simp only[vcs]
 refine⟨⟨by omega,by omega,by simp[ag]⟩,?_⟩
 rintro⟨i,c,out⟩ ⟨⟨i0,i1⟩,⟨c0,c1⟩,⟨ho,hlo⟩,hv⟩
 simp only at i0 i1 c0 c1 ho hlo hv ⊢
 refine⟨fun hi=>?_,fun hi=>?_⟩
 ·have x:=bK ha i.toNat
  have y:=bK hb i.toNat
  have e1:((ae a i.toNat 0+ae b i.toNat 0) % 18446744073709551616+c) % 18446744073709551616=ae a i.toNat 0+ae b i.toNat 0+c:=by omega
  have e2:(i+1).toNat=i.toNat+1:=by omega
  rw[e1,e2,Int.tdiv_eq_ediv_of_nonneg (by omega),Int.tmod_eq_emod_of_nonneg (by omega)]
  have hval:ac (out++[(ae a i.toNat 0+ae b i.toNat 0+c) % 4294967296 % 4294967296])+4294967296^(i.toNat+1)*((ae a i.toNat 0+ae b i.toNat 0+c) / 4294967296)=ac (a.take (i.toNat+1))+ac (b.take (i.toNat+1)):=by
   rw[lR,eJ,eJ,show out.length=i.toNat by omega,Int.pow_succ]
   generalize (4294967296:Int)^i.toNat=B at*
   generalize hs:ae a i.toNat 0+ae b i.toNat 0+c=s at*
   have e:B*4294967296*(s / 4294967296)=B*(ae a i.toNat 0+ae b i.toNat 0+c - s % 4294967296 % 4294967296):=by rw[Int.mul_assoc];congr 1;omega
   rw[e]
   simp only[Int.mul_add,Int.mul_sub]
   omega
  have hdg:ag (out++[(ae a i.toNat 0+ae b i.toNat 0+c) % 4294967296 % 4294967296]):=pV ho (ui (by omega) (by omega))
  repeat' refine And.intro ?_ ?_
  all_goals first|omega|exact ha|exact hb|exact u64_in (by omega) (by omega)|exact hval|exact hdg|(simp;omega)
 ·have hi2:i.toNat=max a.length b.length+1:=by omega
  rw[List.take_of_length_le (by omega),List.take_of_length_le (by omega)] at hv
  have b1:=eI ha
  have b2:=eI hb
  have b3:=ol (show a.length≤max a.length b.length by omega)
  have b4:=ol (show b.length≤max a.length b.length by omega)
  have hn:=bQ ho
  rw[hi2,Int.pow_succ] at hv
  have hP:=pow_pos (max a.length b.length)
  have hc:c=0:=by
   by_cases h:c=0
   ·exact h
   ·have:c=1:=by omega
    subst this
    omega
  rw[hc,Int.mul_zero,Int.add_zero] at hv
  rw[hv]
  repeat' refine And.intro ?_ ?_
  all_goals first|omega|exact ho|rfl
def zG:bf:=⟨151,List Int×List Int,.cons (bR (.i .u32)) (.one (bR (.i .u32))),fun a=>(ag a.1∧ag a.2)∧a.1.length≤10000000000∧a.2.length≤10000000000,fun a=>JW (ac a.1) (ac a.2)⟩
def X3 (a:List Int×List Int):Nat→bz
 |6=> .inv (Int×Int×List Int) (fun x=>⟨[(0,.row (.i .u32) a.1),(1,.row (.i .u32) a.2),(6,.ow 0 x.2.2.length 1),(7,.si .u64 x.2.1),(8,.si .i64 x.1)],[.row (.i .u32) x.2.2 161 true]⟩)
  (fun s=>(iS s 8,iS s 7,oS (.i .u32) s 0))
  (fun x=>(0≤x.1∧x.1≤a.1.length)∧(0≤x.2.1∧x.2.1≤1)∧(ag x.2.2∧(x.2.2.length:Int)=x.1)∧ac x.2.2 - 4294967296^x.1.toNat*x.2.1=ac (a.1.take x.1.toNat) - ac (a.2.take x.1.toNat))
  (fun x=>(a.1.length - x.1).toNat) fun _ _=> .look
 |_=> .look
theorem h107:Holds Tryz.prog zG:=by
 refine con (L:=[ot,oq,zF]) zG vR X3 (bu.none _) (by simpa using⟨h139,h140,h141⟩) (by kernel_rfl) (by kernel_rfl) (fun _=>rfl) ?_
 rintro⟨a,b⟩ ⟨⟨ha,hb⟩,hla,hlb⟩
 simp only at ha hb hla hlb
 refine bh (let z0:=decide (dS (ac a) (ac b)<(0:Int));let z1:=ai.i .u32;let z2:=SV.aD [SV.row z1 (aM (ac a - ac b)),SV.sb (decide (ac b≤ac a))];let z3:=SV.ow 0 0 1;let z4:=af.row z1 [] 161 true;let z5:=(↑a.length:Int);((ag a∧ag b)∧a.length≤1000000000000∧b.length≤1000000000000)∧(z0=true→(SV.aD [SV.row (ai.i .i64) [],SV.bl false]).same z2)∧(z0=false→((((SV.row z1 a).same (SV.row z1 a)∧(SV.row z1 b).same (SV.row z1 b)∧z3.same z3∧(SV.il .u64 0).same (SV.si .u64 0)∧(SV.il .i64 0).same (SV.si .i64 0)∧True)∧z4.same z4∧True)∧((0:Int)≤(0:Int)∧(0:Int)≤z5)∧((0:Int)≤(0:Int)∧(0:Int)≤(1:Int))∧(ag []∧(0:Int)=(0:Int))∧(0:Int)=(0:Int))∧∀(x:Int×Int×List Int),let z6:=x.snd.snd.length;let z7:=x.fst.toNat;let z8:=decide (x.fst<(↑a.length:Int));let z9:=x.snd.snd.length+1;let ak:=((((4294967296:Int)+ae a z7 (0:Int)) % (18446744073709551616:Int) - ae b z7 (0:Int)) % (18446744073709551616:Int) - x.snd.fst) % (18446744073709551616:Int);let al:=ak.tdiv (4294967296:Int);let z12:=x.fst+(1:Int);let au:=x.snd.snd++[ak.tmod (4294967296:Int) % (4294967296:Int)];let ar:=((1:Int) - al) % (18446744073709551616:Int);let ax:=SV.si .u64 ar;let ay:=SV.si .i64 z12;let z17:=af.row z1 au 161 true;((0:Int)≤x.fst∧x.fst≤z5)∧((0:Int)≤x.snd.fst∧x.snd.fst≤(1:Int))∧(ag x.snd.snd∧(↑z6:Int)=x.fst)∧ac x.snd.snd - (4294967296:Int)^z7*x.snd.fst=ac (List.take z7 a) - ac (List.take z7 b)→(z8=true→(ag a∧(0:Int)≤x.fst)∧(ag b∧(0:Int)≤x.fst)∧(4294967296:Int)≠(0:Int)∧z6=x.snd.snd.length∧z9*4≤140737488355328∧z9≤1000000000000∧(4294967296:Int)≠(0:Int)∧aC .u64 al∧aC .i64 z12∧(((SV.row z1 a).same (SV.row z1 a)∧(SV.row z1 b).same (SV.row z1 b)∧(SV.ow 0 au.length 1).same (SV.ow 0 au.length 1)∧ax.same ax∧ay.same ay∧True)∧z17.same z17∧True)∧(((0:Int)≤z12∧z12≤z5)∧((0:Int)≤ar∧ar≤(1:Int))∧(ag au∧(↑au.length:Int)=z12)∧ac au - (4294967296:Int)^z12.toNat*ar=ac (List.take z12.toNat a) - ac (List.take z12.toNat b))∧(z5 - z12).toNat<(z5 - x.fst).toNat)∧(z8=false→z6=x.snd.snd.length∧(ag x.snd.snd∧z6≤100000000000)∧(SV.aD [SV.row z1 (aM (ac x.snd.snd)),SV.bl true]).same z2))) (by kernel_rfl) ?_
 simp only[vcs]
 have pa:=bQ ha
 have pb:=bQ hb
 refine⟨⟨⟨ha,hb⟩,by omega,by omega⟩,fun hlt=>?_,fun hge=>?_⟩
 ·have hlt2:ac a<ac b:=by unfold dS at hlt;split at hlt<;>(try split at hlt)<;>omega
  refine⟨DC (zn (by omega)),?_⟩
  rw[eq_comm,decide_eq_false_iff_not]
  omega
 have uf:ac b≤ac a:=by unfold dS at hge;split at hge<;>(try split at hge)<;>omega
 refine⟨⟨by omega,by omega,by simp[ag]⟩,?_⟩
 rintro⟨i,c,out⟩ ⟨⟨i0,i1⟩,⟨c0,c1⟩,⟨ho,hlo⟩,hv⟩
 simp only at i0 i1 c0 c1 ho hlo hv ⊢
 refine⟨fun hi=>?_,fun hi=>?_⟩
 ·have x:=bK ha i.toNat
  have y:=bK hb i.toNat
  have e1:(((4294967296+ae a i.toNat 0) % 18446744073709551616 - ae b i.toNat 0) % 18446744073709551616 - c) % 18446744073709551616=4294967296+ae a i.toNat 0 - ae b i.toNat 0 - c:=by omega
  have e2:(i+1).toNat=i.toNat+1:=by omega
  rw[e1,e2,Int.tdiv_eq_ediv_of_nonneg (by omega),Int.tmod_eq_emod_of_nonneg (by omega)]
  have e3:(1 - (4294967296+ae a i.toNat 0 - ae b i.toNat 0 - c) / 4294967296) % 18446744073709551616=1 - (4294967296+ae a i.toNat 0 - ae b i.toNat 0 - c) / 4294967296:=by omega
  rw[e3]
  have hval:ac (out++[(4294967296+ae a i.toNat 0 - ae b i.toNat 0 - c) % 4294967296 % 4294967296]) - 4294967296^(i.toNat+1)*(1 - (4294967296+ae a i.toNat 0 - ae b i.toNat 0 - c) / 4294967296)=ac (a.take (i.toNat+1)) - ac (b.take (i.toNat+1)):=by
   rw[lR,eJ,eJ,show out.length=i.toNat by omega,Int.pow_succ]
   generalize (4294967296:Int)^i.toNat=B at*
   generalize hs:4294967296+ae a i.toNat 0 - ae b i.toNat 0 - c=s at*
   have e:B*4294967296*(1 - s / 4294967296)=B*(s % 4294967296 % 4294967296 - (ae a i.toNat 0 - ae b i.toNat 0 - c)):=by rw[Int.mul_assoc];congr 1;omega
   rw[e]
   simp only[Int.mul_add,Int.mul_sub]
   omega
  have hdg:ag (out++[(4294967296+ae a i.toNat 0 - ae b i.toNat 0 - c) % 4294967296 % 4294967296]):=pV ho (ui (by omega) (by omega))
  repeat' refine And.intro ?_ ?_
  all_goals first|omega|exact ha|exact hb|exact u64_in (by omega) (by omega)|exact hval|exact hdg|(simp;omega)
 ·have hi2:i.toNat=a.length:=by omega
  rw[hi2,List.take_length] at hv
  have b1:=eI ha
  have hbt:ac (b.take a.length)=ac b:=by
   by_cases h:b.length≤a.length
   ·rw[List.take_of_length_le h]
   ·have h1:=oh (U:=b) (j:=a.length) (by omega)
    have h2:=bQ (fJ hb a.length)
    have h3:=bQ (rY hb a.length)
    by_cases hz:ac (b.drop a.length)=0
    ·rw[hz,Int.mul_zero] at h1;omega
    ·have:=Int.mul_le_mul_of_nonneg_left (show(1:Int)≤ac (b.drop a.length) by omega) (Int.le_of_lt (pow_pos a.length))
     rw[Int.mul_one] at this
     omega
  rw[hbt] at hv
  have hn:=eI ho
  rw[show out.length=a.length by omega] at hn
  have hc:c=0:=by
   by_cases h:c=0
   ·exact h
   ·have:c=1:=by omega
    subst this
    omega
  rw[hc,Int.mul_zero,Int.sub_zero] at hv
  rw[hv]
  refine⟨⟨ho,by omega⟩,?_⟩
  repeat' refine And.intro ?_ ?_
  all_goals first|omega|rfl|(rw[eq_comm,decide_eq_true_eq];exact uf)
def zH:bf:=⟨154,Int,.one (cT .u64),fun x=>0≤(show Int from x)∧(show Int from x)<18446744073709551616,fun x=> .row (.i .u32) (aM x)⟩
theorem h159:Holds Tryz.prog zH:=by
 refine con (L:=[oq]) zH wE (fun _ _=> .look) (bu.none _) (by simpa using h140) (by kernel_rfl) (by kernel_rfl) (fun _=>rfl) ?_
 intro(x:Int) h
 obtain⟨h0,h1⟩:0≤x∧x<18446744073709551616:=h
 refine bh (let z0:=x.tdiv (4294967296:Int);let z1:=[x.tmod (4294967296:Int) % (4294967296:Int),z0 % (4294967296:Int)];(4294967296:Int)≠(0:Int)∧(4294967296:Int)≠(0:Int)∧aC .u64 z0∧(ag z1∧2≤100000000000)∧(SV.row (ai.i .u32) (aM (ac z1))).same (SV.row (ai.i .u32) (aM x))) (by kernel_rfl) ?_
 simp only[vcs]
 rw[Int.tdiv_eq_ediv_of_nonneg h0,Int.tmod_eq_emod_of_nonneg h0]
 have hd:ag [x % 4294967296 % 4294967296,x / 4294967296 % 4294967296]:=ea.2 ⟨by omega,ui (by omega) (by omega)⟩
 have hv:ac [x % 4294967296 % 4294967296,x / 4294967296 % 4294967296]=x:=by simp only[ac];omega
 rw[hv]
 repeat' refine And.intro ?_ ?_
 all_goals first|omega|exact hd|exact u64_in (by omega) (by omega)|rfl
theorem D8 {a b:List Int} {k:Nat} (ha:ag a) (hb:ag b) (h1:a.length≤k) (h2:b.length≤k):(aM (ac a+ac b)).length≤k+1:=by
 have p1:=bQ ha
 have p2:=bQ hb
 have q1:=KH ha h1
 have q2:=KH hb h2
 refine fQ (by omega) ?_
 rw[Int.pow_succ]
 omega
theorem D9 {x y:Int} {i j:Nat} (x0:0≤x) (y0:0≤y) (hx:x<4294967296^i) (hy:y<4294967296^j):(aM (x*y)).length≤i+j:=fQ (Int.mul_nonneg x0 y0) (jX x0 hx hy)
theorem X4 {n:Nat} {a:List Int}:ac (List.replicate n 0++a)=ac a*4294967296^n:=by
 rw[zm,pW,Int.zero_add,List.length_replicate,Int.mul_comm]
def Ea:cK where
 f:=174
 α:=Nat×List Int
 put a:=[.ow 0 a.1 1]
 st a:=[.row (.i .u32) a.2 161 true]
 dec v o:=match v,o with
  |[.ow 0 n 1],[.row t l 161 true]=>match gh t (.i .u32) l with
   |some l=>some (n,l)
   |_=>none
  |_,_=>none
 ok v o a h:=by
  split at h
  ·split at h
   ·rename_i h2
    simp only[Option.some.injEq] at h;subst h
    obtain⟨rfl,hh⟩:=nE h2
    cases hh
    exact⟨rfl,rfl⟩
   ·cases h
  ·cases h
 inj a b h1 h2:=by
  obtain⟨n,U⟩:=a
  obtain⟨n',U'⟩:=b
  simp only[gL,List.cons.injEq,and_true,SV.g,AV.os.injEq,true_and] at h1
  simp only[gO,List.map_cons,List.map_nil,af.g,List.cons.injEq,aP.cells.injEq,and_true] at h2
  have hl:U=U':=by
   have hf:=congrArg List.length h2
   rw[dD,dD] at hf
   exact mO (.i .u32) (by simpa[ai.sz] using hf) h2
  rw[h1.1,hl]
 dom a:=a.1=a.2.length∧ag a.2∧a.2.length≤100000000000
 res a:=KO a.2
 out a:=[.row (.i .u32) a.2 161 true]
def X5 (a:Nat×List Int):Nat→bz
 |1=> .inv Int (fun n=>⟨[(0,.os 0 0 n.toNat a.1 1)],[.row (.i .u32) a.2 161 true]⟩) (fun s=>match fo s.env 0 with| .os _ _ n _ _=>n| .ow _ n _=>n|_=>0) (fun n=>0≤n∧n≤a.2.length∧ac (a.2.take n.toNat)=ac a.2) (fun n=>n.toNat) fun _ _=> .look
 |_=> .look
def Eb:bf:=⟨171,List Int×Int,.cons (bR (.i .u32)) (.one (cT .i64)),fun a=>ag a.1∧a.1.length≤10000000000∧0≤a.2∧a.2≤10000000000,fun a=> .row (.i .u32) (aM (ac a.1*4294967296^a.2.toNat))⟩
def X6 (a:List Int×Int):Nat→bz
 |3=> .inv Int (fun i=>⟨[(0,.row (.i .u32) a.1),(1,.si .i64 a.2),(5,.ow 0 i.toNat 1),(6,.si .i64 i)],[.row (.i .u32) (List.replicate i.toNat 0) 161 true]⟩) (fun s=>iS s 6) (fun i=>0≤i∧i≤a.2) (fun i=>(a.2 - i).toNat) fun _ _=> .look
 |_=> .look
theorem h140o:eh Tryz.prog Ea:=by
 refine lN (L:=[]) (W:=[]) Ea sS X5 (by simp) (by simp) (by kernel_rfl) (fun _=>rfl) (by kernel_rfl) ?_
 rintro⟨n,a⟩ ⟨hn,ha,hl⟩
 simp only at hn ha hl
 subst hn
 refine bh (let z0:=(↑a.length:Int);let z1:=ai.i .u32;let z2:=af.row z1 a 161 true;let z3:=SV.row z1 (aM (ac a));((((SV.ow 0 a.length 1).same (SV.os 0 0 z0.toNat a.length 1)∧True)∧z2.same z2∧True)∧(0:Int)≤z0∧z0≤z0∧ac (List.take z0.toNat a)=ac a)∧∀(x:Int),let z4:=List.take x.toNat a;let z5:=(↑x.toNat:Int);let z6:=decide ((0:Int)<z5);let z7:=z5 - (1:Int);let z8:=0+z7.toNat;let z9:=decide (ae a z8 (0:Int)=(0:Int));let ak:=z7.toNat - 0;let al:=(↑ak:Int);let z12:=0+z4.length;(0:Int)≤x∧x≤z0∧ac z4=ac a→(z6=true→aC .i64 z7∧a.length=a.length∧(0:Int)≤z7∧z7<z5∧0+x.toNat≤a.length∧a.length=a.length∧z8<a.length∧(z9=true→aC .i64 z7∧a.length=a.length∧(0:Int)≤z7∧0≤z7.toNat∧z7.toNat≤x.toNat∧(((SV.os 0 0 ak a.length 1).same (SV.os 0 0 al.toNat a.length 1)∧True)∧z2.same z2∧True)∧((0:Int)≤al∧al≤z0∧ac (List.take al.toNat a)=ac a)∧al.toNat<x.toNat)∧(z9=false→a.length=a.length∧0+x.toNat≤a.length∧0=0∧z12*4≤140737488355328∧z12≤1000000000000∧z4.length=z4.length∧(SV.row z1 z4).same z3∧z2.same z2∧True))∧(z6=false→a.length=a.length∧0+x.toNat≤a.length∧0=0∧z12*4≤140737488355328∧z12≤1000000000000∧z4.length=z4.length∧(SV.row z1 z4).same z3∧z2.same z2∧True)) (by kernel_rfl) ?_
 simp only[vcs]
 refine⟨⟨rfl,⟨by omega,by omega,by rw[Int.toNat_natCast,List.take_length]⟩⟩,?_⟩
 rintro n ⟨n0,n1,hv⟩
 have hll:(a.take n.toNat).length=n.toNat:=by simp;omega
 have t1:0+((n.toNat:Int) - 1).toNat=n.toNat - 1:=by omega
 have zx:ae a (n.toNat - 1) 0=ae (a.take n.toNat) (n.toNat - 1) 0∨n.toNat=0:=by
  by_cases h:n.toNat=0
  ·exact .inr h
  ·left
   unfold ae
   rw[List.getElem?_take,if_pos (by omega)]
 have dl:=fJ ha n.toNat
 have fin:(n.toNat=0∨ae a (n.toNat - 1) 0≠0)→a.take n.toNat=aM (ac a):=fun h=>by
  rw[←hv,jS dl (sA ?_)]
  rw[hll]
  rcases h with h|h
  ·exact .inl h
  ·rcases zx with h2|h2
   ·exact .inr (by rw[←h2];exact h)
   ·exact .inl h2
 rw[t1,hll]
 refine⟨fun hp=>⟨by omega,by omega,by omega,by omega,by omega,fun hz=>?_,fun hz=>?_⟩,fun hp=>?_⟩
 ·have hnl:ae (a.take n.toNat) (n.toNat - 1) 0=0:=by
   rcases zx with h|h
   ·rw[←h];exact hz
   ·omega
  have hlast:=KP (l:=a.take n.toNat) (by omega) (by rw[hll];exact hnl)
  rw[hll,List.take_take,Nat.min_eq_left (by omega),hv] at hlast
  have e:(n.toNat:Int).toNat - 1=n.toNat - 1:=by omega
  have e2:((n.toNat:Int) - 1).toNat - 0=n.toNat - 1:=by omega
  repeat' refine And.intro ?_ ?_
  all_goals first|omega|rfl|(rw[e2];rfl)|(simp only[e2];exact hlast)|skip
 ·have:=fin (.inr hz)
  repeat' refine And.intro ?_ ?_
  all_goals first|omega|exact this|(rw[this];rfl)
 ·have:=fin (.inl (by omega))
  repeat' refine And.intro ?_ ?_
  all_goals first|omega|exact this|(rw[this];rfl)
theorem h136:Holds Tryz.prog Eb:=by
 refine con (L:=[]) (W:=gi [Ea]) Eb wh X6 (kZ (by simpa using h140o)) (by simp) (by kernel_rfl) (by kernel_rfl) (fun _=>rfl) ?_
 rintro⟨a,n⟩ ⟨ha,hl,n0,n1⟩
 simp only at ha hl n0 n1
 refine bh (let z0:=ai.i .u32;let z1:=SV.ow 0 0 1;let z2:=af.row z0 [] 161 true;((((SV.row z0 a).same (SV.row z0 a)∧(SV.si .i64 n).same (SV.si .i64 n)∧z1.same z1∧(SV.il .i64 0).same (SV.si .i64 0)∧True)∧z2.same z2∧True)∧(0:Int)≤(0:Int)∧(0:Int)≤n)∧∀(x:Int),let z3:=List.replicate x.toNat (0:Int);let z4:=z3.length+1;let z5:=x+(1:Int);let z6:=SV.si .i64 z5;let z7:=z3.length+a.length;(0:Int)≤x∧x≤n→(decide (x<n)=true→x.toNat=z3.length∧z4*4≤140737488355328∧z4≤1000000000000∧aC .i64 z5∧(((SV.row z0 a).same (SV.row z0 a)∧(SV.si .i64 n).same (SV.si .i64 n)∧(SV.ow 0 (z3++[(0:Int)]).length 1).same (SV.ow 0 z5.toNat 1)∧z6.same z6∧True)∧(af.row z0 (z3++[(0:Int)]) 161 true).same (af.row z0 (List.replicate z5.toNat (0:Int)) 161 true)∧True)∧((0:Int)≤z5∧z5≤n)∧(n - z5).toNat<(n - x).toNat)∧(decide (x<n)=false→x.toNat=z3.length∧z7*4≤140737488355328∧z7≤1000000000000∧((z3++a).length=(z3++a).length∧ag (z3++a)∧(z3++a).length≤100000000000)∧(SV.row z0 (aM (ac (z3++a)))).same (SV.row z0 (aM (ac a*(4294967296:Int)^n.toNat))))) (by kernel_rfl) ?_
 simp only[vcs]
 refine⟨⟨by omega,by omega⟩,?_⟩
 rintro i ⟨i0,i1⟩
 have hr:(List.replicate i.toNat (0:Int)).length=i.toNat:=by simp
 have hrs:List.replicate i.toNat (0:Int)++[0]=List.replicate (i+1).toNat 0:=by rw[show(i+1).toNat=i.toNat+1 by omega,List.replicate_succ']
 have hda:(List.replicate i.toNat (0:Int)++a).length=i.toNat+a.length:=by simp
 have hl2:@List.length (ai.T (.i .u32)) a≤10000000000:=hl
 rw[hrs]
 refine⟨fun hi=>?_,fun hi=>?_⟩
 ·repeat' refine And.intro ?_ ?_
  all_goals first|omega|exact gK (by simp)|rfl
 ·rw[X4,hda,show i.toNat=n.toNat by omega]
  simp only[List.length_replicate]
  repeat' refine And.intro ?_ ?_
  all_goals first|omega|exact pV rZ ha|rfl|trivial
def Ec:bf:=⟨172,List Int×Int,.cons (bR (.i .u32)) (.one (cT .u64)),fun a=>ag a.1∧a.1.length≤10000000000∧0≤a.2∧a.2<4294967296,fun a=> .row (.i .u32) (aM (ac a.1*a.2))⟩
def X7 (a:List Int×Int):Nat→bz
 |4=> .inv (Int×Int×List Int) (fun x=>⟨[(0,.row (.i .u32) a.1),(1,.si .u64 a.2),(5,.ow 0 x.2.2.length 1),(6,.si .u64 x.2.1),(7,.si .i64 x.1)],[.row (.i .u32) x.2.2 161 true]⟩)
  (fun s=>(iS s 7,iS s 6,oS (.i .u32) s 0))
  (fun x=>(0≤x.1∧x.1≤(a.1.length:Int)+1)∧(0≤x.2.1∧x.2.1<4294967296)∧(ag x.2.2∧(x.2.2.length:Int)=x.1)∧ac x.2.2+4294967296^x.1.toNat*x.2.1=ac (a.1.take x.1.toNat)*a.2)
  (fun x=>((a.1.length:Int)+1 - x.1).toNat) fun _ _=> .look
 |_=> .look
theorem h137:Holds Tryz.prog Ec:=by
 refine con (L:=[ot,oq]) Ec wi X7 (bu.none _) (by simpa using⟨h139,h140⟩) (by kernel_rfl) (by kernel_rfl) (fun _=>rfl) ?_
 rintro⟨a,d⟩ ⟨ha,hla,d0,d1⟩
 simp only at ha hla d0 d1
 refine bh (let z0:=ai.i .u32;let z1:=SV.ow 0 0 1;let z2:=af.row z0 [] 161 true;let z3:=(↑a.length:Int)+(1:Int);((((SV.row z0 a).same (SV.row z0 a)∧(SV.si .u64 d).same (SV.si .u64 d)∧z1.same z1∧(SV.il .u64 0).same (SV.si .u64 0)∧(SV.il .i64 0).same (SV.si .i64 0)∧True)∧z2.same z2∧True)∧((0:Int)≤(0:Int)∧(0:Int)≤z3)∧((0:Int)≤(0:Int)∧(0:Int)<(4294967296:Int))∧(ag []∧(0:Int)=(0:Int))∧(0:Int)=ac []*d)∧∀(x:Int×Int×List Int),let z4:=x.snd.snd.length;let z5:=decide (x.fst≤(↑a.length:Int));let z6:=x.snd.snd.length+1;let z7:=(ae a x.fst.toNat (0:Int)*d % (18446744073709551616:Int)+x.snd.fst) % (18446744073709551616:Int);let z8:=z7.tdiv (4294967296:Int);let z9:=x.fst+(1:Int);let ak:=x.snd.snd++[z7.tmod (4294967296:Int) % (4294967296:Int)];let al:=SV.si .u64 z8;let z12:=SV.si .i64 z9;let au:=af.row z0 ak 161 true;((0:Int)≤x.fst∧x.fst≤z3)∧((0:Int)≤x.snd.fst∧x.snd.fst<(4294967296:Int))∧(ag x.snd.snd∧(↑z4:Int)=x.fst)∧ac x.snd.snd+(4294967296:Int)^x.fst.toNat*x.snd.fst=ac (List.take x.fst.toNat a)*d→(z5=true→(ag a∧(0:Int)≤x.fst)∧(4294967296:Int)≠(0:Int)∧z4=x.snd.snd.length∧z6*4≤140737488355328∧z6≤1000000000000∧(4294967296:Int)≠(0:Int)∧aC .u64 z8∧aC .i64 z9∧(((SV.row z0 a).same (SV.row z0 a)∧(SV.si .u64 d).same (SV.si .u64 d)∧(SV.ow 0 ak.length 1).same (SV.ow 0 ak.length 1)∧al.same al∧z12.same z12∧True)∧au.same au∧True)∧(((0:Int)≤z9∧z9≤z3)∧((0:Int)≤z8∧z8<(4294967296:Int))∧(ag ak∧(↑ak.length:Int)=z9)∧ac ak+(4294967296:Int)^z9.toNat*z8=ac (List.take z9.toNat a)*d)∧(z3 - z9).toNat<(z3 - x.fst).toNat)∧(z5=false→z4=x.snd.snd.length∧(ag x.snd.snd∧z4≤100000000000)∧(SV.row z0 (aM (ac x.snd.snd))).same (SV.row z0 (aM (ac a*d))))) (by kernel_rfl) ?_
 simp only[vcs]
 refine⟨⟨by omega,by omega,by simp[ag],by simp[ac]⟩,?_⟩
 rintro⟨i,c,out⟩ ⟨⟨i0,i1⟩,⟨c0,c1⟩,⟨ho,hlo⟩,hv⟩
 simp only at i0 i1 c0 c1 ho hlo hv ⊢
 refine⟨fun hi=>?_,fun hi=>?_⟩
 ·have x:=bK ha i.toNat
  have t0:0≤ae a i.toNat 0*d:=Int.mul_nonneg x.1 d0
  have t1:ae a i.toNat 0*d≤4294967295*4294967295:=Int.mul_le_mul (by omega) (by omega) d0 (by omega)
  have e1:(ae a i.toNat 0*d % 18446744073709551616+c) % 18446744073709551616=ae a i.toNat 0*d+c:=by omega
  have e2:(i+1).toNat=i.toNat+1:=by omega
  rw[e1,e2,Int.tdiv_eq_ediv_of_nonneg (by omega),Int.tmod_eq_emod_of_nonneg (by omega)]
  have hval:ac (out++[(ae a i.toNat 0*d+c) % 4294967296 % 4294967296])+4294967296^(i.toNat+1)*((ae a i.toNat 0*d+c) / 4294967296)=ac (a.take (i.toNat+1))*d:=by
   rw[lR,eJ,show out.length=i.toNat by omega,Int.pow_succ,Int.add_mul,Int.mul_assoc (4294967296^i.toNat) (ae a i.toNat 0) d]
   generalize (4294967296:Int)^i.toNat=B at*
   generalize hs:ae a i.toNat 0*d=s at*
   have e:B*4294967296*((s+c) / 4294967296)=B*(s+c - (s+c) % 4294967296 % 4294967296):=by rw[Int.mul_assoc];congr 1;omega
   rw[e]
   simp only[Int.mul_add,Int.mul_sub]
   omega
  have hdg:ag (out++[(ae a i.toNat 0*d+c) % 4294967296 % 4294967296]):=pV ho (ui (by omega) (by omega))
  repeat' refine And.intro ?_ ?_
  all_goals first|omega|exact ha|exact u64_in (by omega) (by omega)|exact hval|exact hdg|(simp;omega)
 ·have hi2:i.toNat=a.length+1:=by omega
  rw[hi2,List.take_of_length_le (by omega)] at hv
  have hn:=bQ ho
  have hb:=eI ha
  have hc:c=0:=by
   by_cases h:c=0
   ·exact h
   ·have h1:=Int.mul_le_mul_of_nonneg_left (show(1:Int)≤c by omega) (Int.le_of_lt (pow_pos (a.length+1)))
    have h2:ac a*d<4294967296^a.length*4294967296:=Int.lt_of_le_of_lt (Int.mul_le_mul_of_nonneg_left (Int.le_of_lt d1) (bQ ha)) (Int.mul_lt_mul_of_pos_right hb (by decide))
    rw[Int.mul_one,Int.pow_succ] at h1
    rw[Int.pow_succ] at hv
    omega
  rw[hc,Int.mul_zero,Int.add_zero] at hv
  rw[hv]
  repeat' refine And.intro ?_ ?_
  all_goals first|omega|exact ho|rfl
def Ed:bf:=⟨149,List Int×List Int,.cons (bR (.i .u32)) (.one (bR (.i .u32))),fun a=>(ag a.1∧ag a.2)∧a.1.length≤1000000000∧a.2.length≤1000000000,fun a=> .row (.i .u32) (aM (ac a.1*ac a.2))⟩
def X8 (a:List Int×List Int):Nat→bz
 |3=> .inv (Int×List Int) (fun x=>⟨[(0,.row (.i .u32) a.1),(1,.row (.i .u32) a.2),(5,.row (.i .u32) x.2),(6,.si .i64 x.1)],[.dead]⟩)
  (fun s=>(iS s 6,rS (.i .u32) s 5))
  (fun x=>(0≤x.1∧x.1≤(a.2.length:Int))∧x.2=aM (ac a.1*ac (a.2.take x.1.toNat))) (fun x=>((a.2.length:Int) - x.1).toNat) fun _ _=> .look
 |_=> .look
theorem h104:Holds Tryz.prog Ed:=by
 refine con (L:=[uG,Eb,Ec]) Ed vO X8 (bu.none _) (by simpa using⟨h106,h136,h137⟩) (by kernel_rfl) (by kernel_rfl) (fun _=>rfl) ?_
 rintro⟨a,b⟩ ⟨⟨ha,hb⟩,hla,hlb⟩
 simp only at ha hb hla hlb
 refine bh (let z0:=ai.i .u32;let z1:=(↑b.length:Int);0=0∧((((SV.row z0 a).same (SV.row z0 a)∧(SV.row z0 b).same (SV.row z0 b)∧(SV.row z0 []).same (SV.row z0 [])∧(SV.il .i64 0).same (SV.si .i64 0)∧True)∧af.dead.same af.dead∧True)∧((0:Int)≤(0:Int)∧(0:Int)≤z1)∧[]=aM (ac a*ac []))∧∀(x:Int×List Int),let z2:=x.fst.toNat;let z3:=decide (x.fst<(↑b.length:Int));let z4:=ae b z2 (0:Int) % (18446744073709551616:Int);let z5:=aM (ac a*z4);let z6:=aM (ac z5*(4294967296:Int)^z2);let z7:=x.fst+(1:Int);let z8:=aM (ac x.snd+ac z6);let z9:=SV.si .i64 z7;((0:Int)≤x.fst∧x.fst≤z1)∧x.snd=aM (ac a*ac (List.take z2 b))→(z3=true→(0:Int)≤x.fst∧x.fst<(↑b.length:Int)∧z2<b.length∧(ag a∧a.length≤10000000000∧(0:Int)≤z4∧z4<(4294967296:Int))∧(ag z5∧z5.length≤10000000000∧(0:Int)≤x.fst∧x.fst≤(10000000000:Int))∧((ag x.snd∧ag z6)∧x.snd.length≤10000000000∧z6.length≤10000000000)∧aC .i64 z7∧(((SV.row z0 a).same (SV.row z0 a)∧(SV.row z0 b).same (SV.row z0 b)∧(SV.row z0 z8).same (SV.row z0 z8)∧z9.same z9∧True)∧af.dead.same af.dead∧True)∧(((0:Int)≤z7∧z7≤z1)∧z8=aM (ac a*ac (List.take z7.toNat b)))∧(z1 - z7).toNat<(z1 - x.fst).toNat)∧(z3=false→(SV.row z0 x.snd).same (SV.row z0 (aM (ac a*ac b))))) (by kernel_rfl) ?_
 simp only[vcs]
 have pa:=bQ ha
 refine⟨⟨⟨by omega,by omega⟩,by simp[ac,aM,nW]⟩,?_⟩
 rintro⟨i,o⟩ ⟨⟨i0,i1⟩,ho⟩
 simp only at i0 i1 ho ⊢
 subst ho
 have pb:=bQ (fJ hb i.toNat)
 have hb1:=eI (fJ hb i.toNat)
 rw[List.length_take,Nat.min_eq_left (by omega)] at hb1
 have ha1:=eI ha
 have pab:=Int.mul_nonneg pa pb
 obtain⟨u1,u2,u3⟩:=bZ pab
 have ul:=D9 pa pb ha1 hb1
 refine⟨fun hi=>?_,fun hi=>?_⟩
 ·have x:=bK hb i.toNat
  have e1:ae b i.toNat 0 % 18446744073709551616=ae b i.toNat 0:=by omega
  have e2:(i+1).toNat=i.toNat+1:=by omega
  have p1:=Int.mul_nonneg pa x.1
  obtain⟨w1,w2,w3⟩:=bZ p1
  have wl:=D9 (j:=1) pa x.1 ha1 (by rw[Int.pow_succ,Int.pow_zero,Int.one_mul];exact x.2)
  have p2:0≤ac a*ae b i.toNat 0*4294967296^i.toNat:=Int.mul_nonneg p1 (Int.le_of_lt (pow_pos _))
  obtain⟨z1,z2,z3⟩:=bZ p2
  have zl:=D9 (j:=i.toNat+1) p1 (Int.le_of_lt (pow_pos i.toNat)) (show ac a*ae b i.toNat 0<4294967296^(a.length+1) from jX pa ha1 (by rw[Int.pow_succ,Int.pow_zero,Int.one_mul];exact x.2)) (by
   have:=pow_pos i.toNat
   rw[Int.pow_succ];omega)
  have hfin:ac a*ac (b.take i.toNat)+ac a*ae b i.toNat 0*4294967296^i.toNat=ac a*ac (b.take (i.toNat+1)):=by
   rw[eJ,Int.mul_add,Int.mul_assoc (ac a) (ae b i.toNat 0),Int.mul_comm (ae b i.toNat 0)]
  rw[e1,e2,w1,z1,u1,hfin]
  repeat' refine And.intro ?_ ?_
  all_goals first|omega|exact ha|exact w2|exact u2|exact z2|rfl
 ·rw[show i.toNat=b.length by omega,List.take_length]
theorem zI:∀{j:Nat} {a:List Int},ag a→ac a / 4294967296^j % 4294967296=ae a j 0
 |0,a,h=>by
  have:=bK h 0
  rw[oo a,Int.pow_zero,Int.ediv_one]
  omega
 |j+1,a,h=>by
  have h0:=bK h 0
  have ih:=@zI j a.tail (D5 h)
  have e:ac a / 4294967296=ac a.tail:=by rw[oo a];omega
  rw[Int.pow_succ,Int.mul_comm (4294967296^j),←Int.ediv_ediv_of_nonneg (by decide),e,ih,mT]
theorem mU {q r:Nat}:(2:Int)^(32*q+r)=4294967296^q*2^r:=by
 rw[Int.pow_add,Int.pow_mul]
 rfl
theorem Ee {x:Int} {r m:Nat} (hr:r≤m):x % 2^m / 2^r=x / 2^r % 2^(m - r):=by
 obtain⟨k,rfl⟩:=Nat.exists_eq_add_of_le hr
 have h1:(0:Int)<2^r:=Int.pow_pos (by decide)
 have h2:(0:Int)<2^k:=Int.pow_pos (by decide)
 rw[Nat.add_sub_cancel_left,Int.pow_add]
 have e1:=Int.mul_ediv_add_emod x (2^r)
 have e2:=Int.mul_ediv_add_emod (x / 2^r) (2^k)
 have m1:=Int.emod_nonneg x (show(2:Int)^r≠0 by omega)
 have m2:=Int.emod_lt_of_pos x h1
 have m3:=Int.emod_nonneg (x / 2^r) (show(2:Int)^k≠0 by omega)
 have m4:=Int.emod_lt_of_pos (x / 2^r) h2
 generalize x / 2^r % 2^k=s at*
 generalize x / 2^r / 2^k=t at*
 generalize x / 2^r=y at*
 generalize x % 2^r=u at*
 have hx:x=(2^r*s+u)+(2^r*2^k)*t:=by
  rw[←e1,←e2,Int.mul_add,Int.mul_assoc]
  omega
 have hlt:2^r*s+u<2^r*2^k:=by
  have:=Int.mul_le_mul_of_nonneg_left (show s+1≤2^k by omega) (Int.le_of_lt h1)
  rw[Int.mul_add,Int.mul_one] at this
  omega
 have hnn:0≤2^r*s+u:=by
  have:=Int.mul_nonneg (Int.le_of_lt h1) m3
  omega
 rw[hx,Int.add_mul_emod_self_left,Int.emod_eq_of_lt hnn hlt,Int.add_comm,Int.add_mul_ediv_left _ _ (by omega),Int.ediv_eq_zero_of_lt m1 m2,Int.zero_add]
theorem KQ {x:Int} {j k:Nat} (h:j≤k):x % 2^k % 2^j=x % 2^j:=by
 obtain⟨m,rfl⟩:=Nat.exists_eq_add_of_le h
 rw[Int.pow_add]
 exact Int.emod_emod_of_dvd _ (Int.dvd_mul_right _ _)
def iq (v:Int) (i:Nat):Int:=v / 2^i % 2
theorem X9 {a:List Int} {i:Nat} (h:ag a):ae a (i / 32) 0 / 2^(i % 32) % 2=iq (ac a) i:=by
 unfold iq
 have e:(2:Int)^i=4294967296^(i / 32)*2^(i % 32):=by
  rw[←mU];congr 1;omega
 have h1:(0:Int)<4294967296^(i / 32):=pow_pos _
 rw[e,←Int.ediv_ediv_of_nonneg (Int.le_of_lt h1),←zI h]
 have:=Ee (x:=ac a / 4294967296^(i / 32)) (r:=i % 32) (m:=32) (by omega)
 rw[show(2:Int)^32=4294967296 from rfl] at this
 rw[this]
 have h2:=KQ (x:=ac a / 4294967296^(i / 32) / 2^(i % 32)) (j:=1) (k:=32 - i % 32) (by omega)
 rwa [show(2:Int)^1=2 from rfl] at h2
theorem Ya {a:List Int} {i r:Nat} (h:ag a) (hr:r<32):(ae a i 0+ae a (i+1) 0*4294967296) / 2^r % 4294967296=ac a / 2^(32*i+r) % 4294967296:=by
 have h1:(0:Int)<4294967296^i:=pow_pos _
 rw[mU,←Int.ediv_ediv_of_nonneg (Int.le_of_lt h1),←zI h,←zI h,Int.pow_succ,←Int.ediv_ediv_of_nonneg (Int.le_of_lt h1)]
 generalize ac a / 4294967296^i=y
 have e:y % 4294967296+y / 4294967296 % 4294967296*4294967296=y % 18446744073709551616:=by omega
 rw[e]
 have:=Ee (x:=y) (r:=r) (m:=64) (by omega)
 rw[show(2:Int)^64=18446744073709551616 from rfl] at this
 rw[this]
 have h2:=KQ (x:=y / 2^r) (j:=32) (k:=64 - r) (by omega)
 rwa [show(2:Int)^32=4294967296 from rfl] at h2
def eo (v:Int):Int:=if v=0 then 0 else(v.toNat.log2+1:Nat)
theorem qh {a b:Nat} (h:a≤b):(2:Int)^a≤2^b:=by
 obtain⟨m,rfl⟩:=Nat.exists_eq_add_of_le h
 rw[Int.pow_add]
 have q1:(0:Int)<2^a:=Int.pow_pos (by decide)
 have q2:(0:Int)<2^m:=Int.pow_pos (by decide)
 have:=Int.mul_le_mul_of_nonneg_left (show(1:Int)≤2^m by omega) (Int.le_of_lt q1)
 rwa [Int.mul_one] at this
theorem zJ {v:Int} (h:0≤v):0≤eo v∧v<2^(eo v).toNat∧(eo v=0∨2^((eo v).toNat - 1)≤v):=by
 unfold eo
 split
 ·rename_i h0;subst h0;simp
 ·rename_i h0
  have h1:=@Nat.lt_log2_self v.toNat
  have h2:=Nat.log2_self_le (show v.toNat≠0 by omega)
  have c:∀k:Nat,((2^k:Nat):Int)=2^k:=fun k=>by push_cast;rfl
  refine⟨by omega,?_,.inr ?_⟩
  ·rw[Int.toNat_natCast,←c];omega
  ·rw[Int.toNat_natCast,←c,Nat.add_sub_cancel];omega
theorem KR {v:Int} {n:Nat} (h0:0≤v) (h1:v<2^n) (h2:n=0∨2^(n - 1)≤v):(n:Int)=eo v:=by
 obtain⟨b0,b1,b2⟩:=zJ h0
 by_cases hlt:n<(eo v).toNat
 ·rcases b2 with b2|b2
  ·omega
  ·have:=qh (show n≤(eo v).toNat - 1 by omega)
   omega
 ·by_cases hgt:(eo v).toNat<n
  ·rcases h2 with h2|h2
   ·omega
   ·have:=qh (show(eo v).toNat≤n - 1 by omega)
    omega
  ·omega
def zK:bf:=⟨178,List Int×Int,.cons (bR (.i .u32)) (.one (cT .i64)),fun a=>ag a.1∧0≤a.2∧a.2≤1000000000000,fun a=> .si .u64 (iq (ac a.1) a.2.toNat)⟩
theorem h162:Holds Tryz.prog zK:=by
 refine con (L:=[ot]) zK wH (fun _ _=> .look) (bu.none _) (by simpa using h139) (by kernel_rfl) (by kernel_rfl) (fun _=>rfl) ?_
 rintro⟨a,i⟩ ⟨ha,hi,hi2⟩
 simp only at ha hi hi2
 refine bh (let z0:=i.tdiv (32:Int);let z1:=i.tmod (32:Int);let z2:=(1:Int)*(2:Int)^z1.toNat % (18446744073709551616:Int);let z3:=(ae a z0.toNat (0:Int)).tdiv z2;(32:Int)≠(0:Int)∧aC .i64 z0∧(ag a∧(0:Int)≤z0)∧(32:Int)≠(0:Int)∧(0:Int)≤z1∧z1≤(64:Int)∧z2≠(0:Int)∧aC .u64 z3∧(2:Int)≠(0:Int)∧(SV.si .u64 (z3.tmod (2:Int))).same (SV.si .u64 (iq (ac a) i.toNat))) (by kernel_rfl) ?_
 simp only[vcs]
 rw[Int.tdiv_eq_ediv_of_nonneg hi,Int.tmod_eq_emod_of_nonneg hi]
 have t1:(i / 32).toNat=i.toNat / 32:=by omega
 have t2:(i % 32).toNat=i.toNat % 32:=by omega
 have hp:(0:Int)<2^(i.toNat % 32):=Int.pow_pos (by decide)
 have hp2:=qh (show i.toNat % 32≤32 by omega)
 rw[show(2:Int)^32=4294967296 from rfl] at hp2
 have t3:1*2^(i.toNat % 32) % 18446744073709551616=(2:Int)^(i.toNat % 32):=by omega
 have hd:=bK ha (i.toNat / 32)
 have hq:0≤ae a (i.toNat / 32) 0 / 2^(i.toNat % 32):=Int.ediv_nonneg hd.1 (Int.le_of_lt hp)
 have hq2:ae a (i.toNat / 32) 0 / 2^(i.toNat % 32)≤ae a (i.toNat / 32) 0:=Int.ediv_le_self _ hd.1
 rw[t1,t2,t3,Int.tdiv_eq_ediv_of_nonneg hd.1,Int.tmod_eq_emod_of_nonneg hq,X9 ha]
 repeat' refine And.intro ?_ ?_
 all_goals first|omega|exact ha|exact u64_in hq (by omega)|rfl
def Ef:bf:=⟨176,List Int,.one (bR (.i .u32)),fun a=>ag a∧a.length≤10000000000,fun a=> .si .i64 (eo (ac a))⟩
def Yb (a:List Int):Nat→bz
 |2=> .inv Int (fun n=>⟨[(0,.row (.i .u32) a),(3,.si .i64 n)],[]⟩) (fun s=>iS s 3) (fun n=>0≤n∧n≤32*(a.length:Int)∧ac a<2^n.toNat) (fun n=>n.toNat) fun _ _=> .look
 |_=> .look
theorem h160:Holds Tryz.prog Ef:=by
 refine con (L:=[zK]) Ef wF Yb (bu.none _) (by simpa using h162) (by kernel_rfl) (by kernel_rfl) (fun _=>rfl) ?_
 intro(a:List Int) h
 obtain⟨ha,hl⟩:ag a∧a.length≤10000000000:=h
 refine bh (let z0:=(32:Int)*(↑a.length:Int);let z1:=SV.row (ai.i .u32) a;let z2:=SV.si .i64 z0;let z3:=(32:Int)*(↑a.length:Int);let z4:=SV.si .i64 (eo (ac a));aC .i64 z0∧(((z1.same z1∧z2.same z2∧True)∧True)∧(0:Int)≤z0∧z0≤z3∧ac a<(2:Int)^z0.toNat)∧∀(x:Int),let z5:=decide ((0:Int)<x);let z6:=x - (1:Int);let z7:=decide (iq (ac a) z6.toNat=(0:Int));let z8:=SV.si .i64 z6;(0:Int)≤x∧x≤z3∧ac a<(2:Int)^x.toNat→(z5=true→aC .i64 z6∧(ag a∧(0:Int)≤z6∧z6≤(1000000000000:Int))∧(z7=true→aC .i64 z6∧((z1.same z1∧z8.same z8∧True)∧True)∧((0:Int)≤z6∧z6≤z3∧ac a<(2:Int)^z6.toNat)∧z6.toNat<x.toNat)∧(z7=false→(SV.si .i64 x).same z4))∧(z5=false→(SV.si .i64 x).same z4)) (by kernel_rfl) ?_
 simp only[vcs]
 have pa:=bQ ha
 refine⟨by omega,⟨by omega,by omega,?_⟩,?_⟩
 ·have:=eI ha
  have e:(32*(a.length:Int)).toNat=32*a.length+0:=by omega
  rw[e,mU]
  omega
 rintro n ⟨n0,n1,hv⟩
 refine⟨fun hn=>⟨by omega,⟨ha,by omega,by omega⟩,fun hb=>⟨by omega,⟨by omega,by omega,?_⟩,by omega⟩,fun hb=>?_⟩,fun hn=>?_⟩
 ·have e:n.toNat=(n - 1).toNat+1:=by omega
  rw[e,Int.pow_succ] at hv
  unfold iq at hb
  generalize (n - 1).toNat=m at*
  have hp:(0:Int)<2^m:=Int.pow_pos (by decide)
  have h1:ac a / 2^m<2:=Int.ediv_lt_of_lt_mul hp (by rw[Int.mul_comm];exact hv)
  have h2:0≤ac a / 2^m:=Int.ediv_nonneg pa (Int.le_of_lt hp)
  have h3:ac a / 2^m=0:=by omega
  have h4:=Int.mul_ediv_add_emod (ac a) (2^m)
  have h5:=Int.emod_lt_of_pos (ac a) hp
  rw[h3,Int.mul_zero] at h4
  omega
 ·have:=KR pa hv (.inr ?_)
  ·omega
  ·by_cases h:2^(n.toNat - 1)≤ac a
   ·exact h
   ·exfalso
    apply hb
    unfold iq
    rw[show(n - 1).toNat=n.toNat - 1 by omega,Int.ediv_eq_zero_of_lt pa (by omega)]
    rfl
 ·have:=KR pa hv (.inl (by omega))
  omega
def Eg:bf:=⟨177,List Int×Int,.cons (bR (.i .u32)) (.one (cT .i64)),fun a=>(ag a.1∧a.1.length≤10000000000)∧0≤a.2∧a.2≤1000000000000,fun a=> .row (.i .u32) (aM (ac a.1 / 2^a.2.toNat))⟩
def Yc (a:List Int×Int):Nat→bz
 |3=> .inv (Int×List Int) (fun x=>⟨[(0,.row (.i .u32) a.1),(1,.si .i64 a.2),(5,.ow 0 x.2.length 1),(6,.si .i64 x.1)],[.row (.i .u32) x.2 161 true]⟩) (fun s=>(iS s 6,oS (.i .u32) s 0))
  (fun x=>(a.2 / 32≤x.1∧x.1≤max (a.2 / 32) a.1.length)∧ag x.2∧(x.2.length:Int)=x.1 - a.2 / 32∧ac x.2=ac a.1 / 2^a.2.toNat % 4294967296^x.2.length) (fun x=>(max (a.2 / 32) a.1.length - x.1).toNat) fun _ _=> .look
 |_=> .look
theorem h161:Holds Tryz.prog Eg:=by
 refine con (L:=[ot,oq]) Eg wG Yc (bu.none _) (by simpa using⟨h139,h140⟩) (by kernel_rfl) (by kernel_rfl) (fun _=>rfl) ?_
 rintro⟨a,k⟩ ⟨⟨ha,hla⟩,k0,k1⟩
 simp only at ha hla k0 k1
 refine bh (let z0:=k.tdiv (32:Int);let z1:=ai.i .u32;let z2:=SV.ow 0 0 1;let z3:=SV.si .i64 z0;let z4:=af.row z1 [] 161 true;let z5:=k / (32:Int);let z6:=max z5 (↑a.length:Int);let z7:=ac a / (2:Int)^k.toNat;let z8:=k.tmod (32:Int);let z9:=(1:Int)*(2:Int)^z8.toNat % (18446744073709551616:Int);(32:Int)≠(0:Int)∧aC .i64 z0∧((((SV.row z1 a).same (SV.row z1 a)∧(SV.si .i64 k).same (SV.si .i64 k)∧z2.same z2∧z3.same z3∧True)∧z4.same z4∧True)∧(z5≤z0∧z0≤z6)∧ag []∧(0:Int)=z0 - z5∧ac []=z7 % (1:Int))∧∀(x:Int×List Int),let ak:=x.snd.length;let al:=decide (x.fst<(↑a.length:Int));let z12:=x.fst+(1:Int);let au:=((ae a x.fst.toNat (0:Int)+ae a z12.toNat (0:Int)*(4294967296:Int) % (18446744073709551616:Int)) % (18446744073709551616:Int)).tdiv z9;let ar:=x.snd.length+1;let ax:=x.snd++[au.tmod (4294967296:Int) % (4294967296:Int)];let ay:=SV.si .i64 z12;let z17:=af.row z1 ax 161 true;(z5≤x.fst∧x.fst≤z6)∧ag x.snd∧(↑ak:Int)=x.fst - z5∧ac x.snd=z7 % (4294967296:Int)^ak→(al=true→(ag a∧(0:Int)≤x.fst)∧aC .i64 z12∧(ag a∧(0:Int)≤z12)∧(32:Int)≠(0:Int)∧(0:Int)≤z8∧z8≤(64:Int)∧z9≠(0:Int)∧aC .u64 au∧(4294967296:Int)≠(0:Int)∧ak=x.snd.length∧ar*4≤140737488355328∧ar≤1000000000000∧aC .i64 z12∧(((SV.row z1 a).same (SV.row z1 a)∧(SV.si .i64 k).same (SV.si .i64 k)∧(SV.ow 0 ax.length 1).same (SV.ow 0 ax.length 1)∧ay.same ay∧True)∧z17.same z17∧True)∧((z5≤z12∧z12≤z6)∧ag ax∧(↑ax.length:Int)=z12 - z5∧ac ax=z7 % (4294967296:Int)^ax.length)∧(z6 - z12).toNat<(z6 - x.fst).toNat)∧(al=false→ak=x.snd.length∧(ag x.snd∧ak≤100000000000)∧(SV.row z1 (aM (ac x.snd))).same (SV.row z1 (aM z7)))) (by kernel_rfl) ?_
 simp only[vcs]
 rw[Int.tdiv_eq_ediv_of_nonneg k0,Int.tmod_eq_emod_of_nonneg k0]
 have pa:=bQ ha
 have t2:(k % 32).toNat=k.toNat % 32:=by omega
 have hp:(0:Int)<2^(k.toNat % 32):=Int.pow_pos (by decide)
 have hp2:=qh (show k.toNat % 32≤32 by omega)
 rw[show(2:Int)^32=4294967296 from rfl] at hp2
 have t3:1*2^(k.toNat % 32) % 18446744073709551616=(2:Int)^(k.toNat % 32):=by omega
 have hpk:(0:Int)<2^k.toNat:=Int.pow_pos (by decide)
 have pX:0≤ac a / 2^k.toNat:=Int.ediv_nonneg pa (Int.le_of_lt hpk)
 refine⟨by omega,by omega,⟨⟨by omega,by omega⟩,by simp[ag],by omega,by rw[Int.emod_one];rfl⟩,?_⟩
 rintro⟨i,out⟩ ⟨⟨i0,i1⟩,ho,hlo,hv⟩
 simp only at i0 i1 ho hlo hv ⊢
 rw[t2,t3]
 refine⟨fun hi=>?_,fun hi=>?_⟩
 ·have x:=bK ha i.toNat
  have y:=bK ha (i.toNat+1)
  have e1:(i+1).toNat=i.toNat+1:=by omega
  have e2:(ae a i.toNat 0+ae a (i.toNat+1) 0*4294967296 % 18446744073709551616) % 18446744073709551616=ae a i.toNat 0+ae a (i.toNat+1) 0*4294967296:=by omega
  have hs0:0≤ae a i.toNat 0+ae a (i.toNat+1) 0*4294967296:=by omega
  have hq:0≤(ae a i.toNat 0+ae a (i.toNat+1) 0*4294967296) / 2^(k.toNat % 32):=Int.ediv_nonneg hs0 (Int.le_of_lt hp)
  have hq2:(ae a i.toNat 0+ae a (i.toNat+1) 0*4294967296) / 2^(k.toNat % 32)≤ae a i.toNat 0+ae a (i.toNat+1) 0*4294967296:=Int.ediv_le_self _ hs0
  have hd2:=Ya (i:=i.toNat) (r:=k.toNat % 32) ha (by omega)
  have hin:aC .u64 ((ae a i.toNat 0+ae a (i.toNat+1) 0*4294967296) / 2^(k.toNat % 32)):=u64_in hq (by omega)
  rw[e1,e2,Int.tdiv_eq_ediv_of_nonneg hs0,Int.tmod_eq_emod_of_nonneg hq,hd2]
  have hm:ac a / 2^(32*i.toNat+k.toNat % 32) % 4294967296 % 4294967296=ac a / 2^k.toNat / 4294967296^out.length % 4294967296:=by
   rw[Int.emod_emod_of_dvd _ (Int.dvd_refl _)]
   have e3:(2:Int)^(32*i.toNat+k.toNat % 32)=2^k.toNat*4294967296^out.length:=by
    rw[mU]
    have:(2:Int)^k.toNat=4294967296^(k.toNat / 32)*2^(k.toNat % 32):=by rw[←mU];congr 1;omega
    rw[this,show i.toNat=k.toNat / 32+out.length by omega,Int.pow_add,Int.mul_assoc,Int.mul_comm (4294967296^out.length),←Int.mul_assoc]
   rw[e3,←Int.ediv_ediv_of_nonneg (Int.le_of_lt hpk)]
  rw[hm]
  have hd0:=Int.emod_nonneg (ac a / 2^k.toNat / 4294967296^out.length) (show(4294967296:Int)≠0 by decide)
  have hd1:=Int.emod_lt_of_pos (ac a / 2^k.toNat / 4294967296^out.length) (show(0:Int)<4294967296 by decide)
  have hval:ac (out++[ac a / 2^k.toNat / 4294967296^out.length % 4294967296])=ac a / 2^k.toNat % 4294967296^(out.length+1):=by
   rw[lR,hv]
   have:=Ee (x:=ac a / 2^k.toNat) (r:=32*out.length+0) (m:=32*(out.length+1)+0) (by omega)
   rw[mU,mU,Int.pow_zero,Int.mul_one,Int.mul_one,show 32*(out.length+1)+0 - (32*out.length+0)=32 by omega,show(2:Int)^32=4294967296 from rfl] at this
   rw[←this]
   have h1:=Int.mul_ediv_add_emod (ac a / 2^k.toNat % 4294967296^(out.length+1)) (4294967296^out.length)
   have h2:ac a / 2^k.toNat % 4294967296^(out.length+1) % 4294967296^out.length=ac a / 2^k.toNat % 4294967296^out.length:=by
    rw[Int.pow_succ]
    exact Int.emod_emod_of_dvd _ (Int.dvd_mul_right _ _)
   omega
  have hlen:(out++[ac a / 2^k.toNat / 4294967296^out.length % 4294967296]).length=out.length+1:=by simp
  have hdg:ag (out++[ac a / 2^k.toNat / 4294967296^out.length % 4294967296]):=pV ho (ui (by omega) (by omega))
  rw[hlen]
  repeat' refine And.intro ?_ ?_
  all_goals first|omega|exact ha|exact hin|exact hdg|exact hval|rfl
 ·have hX:ac a / 2^k.toNat<4294967296^out.length:=by
   refine Int.ediv_lt_of_lt_mul hpk ?_
   have h1:=eI ha
   have h2:=ol (show a.length≤k.toNat / 32+out.length by omega)
   rw[Int.pow_add] at h2
   have h3:(4294967296:Int)^(k.toNat / 32)≤2^k.toNat:=by
    have:=qh (show 32*(k.toNat / 32)+0≤k.toNat by omega)
    rwa [mU,Int.pow_zero,Int.mul_one] at this
   have h4:=Int.mul_le_mul_of_nonneg_right h3 (Int.le_of_lt (pow_pos out.length))
   rw[Int.mul_comm (2^k.toNat)] at h4
   first|omega|(rw[Int.mul_comm];omega)
  rw[Int.emod_eq_of_lt pX hX] at hv
  rw[hv]
  repeat' refine And.intro ?_ ?_
  all_goals first|omega|exact ho|rfl
theorem KT {a:List Int} (h:ag a):eo (ac a)≤32*(a.length:Int):=by
 obtain⟨b0,b1,b2⟩:=zJ (bQ h)
 by_cases hl:eo (ac a)≤32*(a.length:Int)
 ·exact hl
 ·rcases b2 with b2|b2
  ·omega
  ·have h1:=eI h
   have h2:=qh (show 32*a.length+0≤(eo (ac a)).toNat - 1 by omega)
   rw[mU,Int.pow_zero,Int.mul_one] at h2
   omega
def LR:List bf:=[Ef,Eg,zK,uG,zG,zF,zH]
theorem Yd:∀c∈LR,Holds Tryz.prog c:=by
 simp only[LR,List.forall_mem_cons,List.not_mem_nil,false_implies,implies_true,and_true]
 exact⟨h160,h161,h162,h106,h107,h141,h159⟩
def zL:bf:=⟨153,List Int×List Int,.cons (bR (.i .u32)) (.one (bR (.i .u32))),fun a=>(ag a.1∧ag a.2)∧(a.1.length≤1000000000∧a.2.length≤1000000000)∧0<ac a.2,
 fun a=> .aD [.row (.i .u32) (aM (ac a.1 / ac a.2)),.row (.i .u32) (aM (ac a.1 % ac a.2)),.si .i64 0]⟩
def Ye (a:List Int×List Int):Nat→bz
 |7=> .inv (Int×List Int×List Int) (fun x=>⟨[(0,.row (.i .u32) a.1),(1,.row (.i .u32) a.2),(8,.row (.i .u32) x.2.1),(9,.row (.i .u32) x.2.2),(10,.si .i64 x.1)],[.dead]⟩) (fun s=>(iS s 10,rS (.i .u32) s 8,rS (.i .u32) s 9))
  (fun x=>(-1≤x.1∧x.1≤100000000000)∧(ag x.2.1∧bO x.2.1)∧(ag x.2.2∧bO x.2.2)∧ac x.2.1*ac a.2+ac x.2.2=ac a.1 / 2^(x.1+1).toNat∧ac x.2.2<ac a.2) (fun x=>(x.1+1).toNat) fun _ _=> .look
 |_=> .look
theorem h138:Holds Tryz.prog zL:=by
 refine con (L:=LR) zL wj Ye (bu.none _) Yd (by kernel_rfl) (by kernel_rfl) (fun _=>rfl) ?_
 rintro⟨a,b⟩ ⟨⟨ha,hb⟩,⟨hla,hlb⟩,b0⟩
 simp only at ha hb hla hlb b0
 refine bh (let z0:=decide ((↑b.length:Int)=(0:Int));let z1:=SV.row (ai.i .i64) [];let z2:=ai.i .u32;let z3:=SV.aD [SV.row z2 (aM (ac a / ac b)),SV.row z2 (aM (ac a % ac b)),SV.si .i64 0];let z4:=eo (ac a) - max (1:Int) (eo (ac b));let z5:=max (0:Int) (z4+(1:Int));let z6:=z5 - (1:Int);let z7:=aM (ac a / (2:Int)^z5.toNat);let z8:=SV.si .i64 z6;let z9:=aM (1:Int);(z0=true→(SV.aD [z1,z1,SV.il .i64 8]).same z3)∧(z0=false→(ag a∧a.length≤10000000000)∧(ag b∧b.length≤10000000000)∧aC .i64 z4∧aC .i64 (z4+(1:Int))∧0=0∧((ag a∧a.length≤10000000000)∧(0:Int)≤z5∧z5≤(1000000000000:Int))∧aC .i64 z6∧((((SV.row z2 a).same (SV.row z2 a)∧(SV.row z2 b).same (SV.row z2 b)∧(SV.row z2 []).same (SV.row z2 [])∧(SV.row z2 z7).same (SV.row z2 z7)∧z8.same z8∧True)∧af.dead.same af.dead∧True)∧((-1:Int)≤z6∧z6≤(100000000000:Int))∧(ag []∧bO [])∧(ag z7∧bO z7)∧ac []*ac b+ac z7=ac a / (2:Int)^(z6+(1:Int)).toNat∧ac z7<ac b)∧∀(x:Int×List Int×List Int),let ak:=ac x.snd.fst;let al:=ac x.snd.snd;let z12:=(x.fst+(1:Int)).toNat;let au:=decide ((0:Int)≤x.fst);let ar:=iq (ac a) x.fst.toNat;let ax:=aM (al+al);let ay:=aM (ac ax+ac (aM ar));let z17:=decide ((0:Int)≤dS (ac ay) (ac b));let aG:=aM (ak+ak);let aH:=x.fst - (1:Int);let z20:=aM (ac aG+ac z9);let z21:=aM (ac ay - ac b);let z22:=SV.si .i64 aH;let z23:=(aH+(1:Int)).toNat;let z24:=ac a / (2:Int)^z23;((-1:Int)≤x.fst∧x.fst≤(100000000000:Int))∧(ag x.snd.fst∧bO x.snd.fst)∧(ag x.snd.snd∧bO x.snd.snd)∧ak*ac b+al=ac a / (2:Int)^z12∧al<ac b→(au=true→((ag x.snd.fst∧ag x.snd.fst)∧x.snd.fst.length≤10000000000∧x.snd.fst.length≤10000000000)∧((ag x.snd.snd∧ag x.snd.snd)∧x.snd.snd.length≤10000000000∧x.snd.snd.length≤10000000000)∧(ag a∧(0:Int)≤x.fst∧x.fst≤(1000000000000:Int))∧((0:Int)≤ar∧ar<(18446744073709551616:Int))∧((ag ax∧ag (aM ar))∧ax.length≤10000000000∧(aM ar).length≤10000000000)∧((ag ay∧ag b)∧ay.length≤1000000000000∧b.length≤1000000000000)∧(z17=true→((ag ay∧ag b)∧ay.length≤10000000000∧b.length≤10000000000)∧((0:Int)≤(1:Int)∧(1:Int)<(18446744073709551616:Int))∧((ag aG∧ag z9)∧aG.length≤10000000000∧z9.length≤10000000000)∧aC .i64 aH∧(((SV.row z2 a).same (SV.row z2 a)∧(SV.row z2 b).same (SV.row z2 b)∧(SV.row z2 z20).same (SV.row z2 z20)∧(SV.row z2 z21).same (SV.row z2 z21)∧z22.same z22∧True)∧af.dead.same af.dead∧True)∧(((-1:Int)≤aH∧aH≤(100000000000:Int))∧(ag z20∧bO z20)∧(ag z21∧bO z21)∧ac z20*ac b+ac z21=z24∧ac z21<ac b)∧z23<z12)∧(z17=false→aC .i64 aH∧(((SV.row z2 a).same (SV.row z2 a)∧(SV.row z2 b).same (SV.row z2 b)∧(SV.row z2 aG).same (SV.row z2 aG)∧(SV.row z2 ay).same (SV.row z2 ay)∧z22.same z22∧True)∧af.dead.same af.dead∧True)∧(((-1:Int)≤aH∧aH≤(100000000000:Int))∧(ag aG∧bO aG)∧(ag ay∧bO ay)∧ac aG*ac b+ac ay=z24∧ac ay<ac b)∧z23<z12))∧(au=false→(SV.aD [SV.row z2 x.snd.fst,SV.row z2 x.snd.snd,SV.il .i64 0]).same z3))) (by kernel_rfl) ?_
 simp only[vcs]
 have pa:=bQ ha
 have hb0:b.length≠0:=by
  intro h
  rw[List.eq_nil_of_length_eq_zero h] at b0
  exact absurd b0 (by decide)
 obtain⟨A0,A1,A2⟩:=zJ pa
 obtain⟨B0,B1,B2⟩:=zJ (Int.le_of_lt b0)
 have Ab:=KT ha
 have Bb:=KT hb
 have hB1:1≤eo (ac b):=by
  by_cases h:1≤eo (ac b)
  ·exact h
  ·rw[show eo (ac b)=0 by omega] at B1
   simp at B1
   omega
 have hm:max 1 (eo (ac b))=eo (ac b):=by omega
 rw[hm]
 obtain⟨K,hK⟩:∃K,K=max 0 (eo (ac a) - eo (ac b)+1):=⟨_,rfl⟩
 rw[←hK]
 have hK0:0≤K:=by omega
 have hp:(0:Int)<2^K.toNat:=Int.pow_pos (by decide)
 have hlt:ac a / 2^K.toNat<ac b:=by
  refine Int.ediv_lt_of_lt_mul hp ?_
  have h1:=qh (show(eo (ac a)).toNat≤K.toNat+((eo (ac b)).toNat - 1) by omega)
  rw[Int.pow_add] at h1
  have h2:(2:Int)^((eo (ac b)).toNat - 1)≤ac b:=by rcases B2 with h|h<;>omega
  have h3:=Int.mul_le_mul_of_nonneg_left h2 (Int.le_of_lt hp)
  rw[Int.mul_comm (ac b)]
  omega
 have pq:0≤ac a / 2^K.toNat:=Int.ediv_nonneg pa (Int.le_of_lt hp)
 obtain⟨q1,q2,q3⟩:=bZ pq
 have eK:(K - 1+1).toNat=K.toNat:=by omega
 rw[eK,q1]
 clear A1 A2 B1 B2 hm
 refine⟨fun h=>absurd h (by omega),fun _=>⟨⟨ha,by omega⟩,⟨hb,by omega⟩,by omega,by omega,⟨⟨ha,by omega⟩,by omega,by omega⟩,by omega,⟨⟨by omega,by omega⟩,⟨by simp[ag],trivial⟩,⟨q2,q3⟩,by simp[ac],hlt⟩,?_⟩⟩
 rintro⟨i,q,r⟩ ⟨⟨i0,i1⟩,⟨hq,nq⟩,⟨hr,nr⟩,hv,hrb⟩
 simp only at i0 i1 hq nq hr nr hv hrb ⊢
 have Yf:=bQ hq
 have prr:=bQ hr
 have hrl:=qc hr hb nr (Int.le_of_lt hrb)
 have hp2:(0:Int)<2^(i+1).toNat:=Int.pow_pos (by decide)
 have hle:ac a / 2^(i+1).toNat≤ac a:=Int.ediv_le_self _ pa
 have om:q.length≤a.length:=by
  refine qc hq ha nq ?_
  have:=Int.mul_le_mul_of_nonneg_left (show(1:Int)≤ac b by omega) Yf
  rw[Int.mul_one] at this
  omega
 refine⟨fun hi=>?_,fun hi=>?_⟩
 ·have e1:(i+1).toNat=i.toNat+1:=by omega
  have e2:(i - 1+1).toNat=i.toNat:=by omega
  have hb2:0≤iq (ac a) i.toNat∧iq (ac a) i.toNat≤1:=by unfold iq;omega
  have hstep:ac a / 2^i.toNat=2*(ac a / 2^(i+1).toNat)+iq (ac a) i.toNat:=by
   have hpi:(0:Int)<2^i.toNat:=Int.pow_pos (by decide)
   rw[e1,Int.pow_succ,←Int.ediv_ediv_of_nonneg (Int.le_of_lt hpi)]
   unfold iq
   omega
  rw[←hv] at hstep
  obtain⟨u1,u2,u3⟩:=bZ (show 0≤ac r+ac r by omega)
  obtain⟨w1,w2,w3⟩:=bZ hb2.1
  obtain⟨x1,x2,x3⟩:=bZ (show 0≤ac r+ac r+iq (ac a) i.toNat by omega)
  obtain⟨y1,y2,y3⟩:=bZ (show 0≤ac q+ac q by omega)
  obtain⟨z1,z2,z3⟩:=bZ (show(0:Int)≤1 by omega)
  obtain⟨s1,s2,s3⟩:=bZ (show 0≤ac q+ac q+1 by omega)
  have ul:=D8 hr hr hrl hrl
  have wl:=fQ (k:=1) hb2.1 (by rw[Int.pow_succ,Int.pow_zero];omega)
  have xl:=D8 (k:=b.length+2) u2 w2 (by omega) (by omega)
  have yl:=D8 hq hq om om
  have zl:=fQ (k:=1) (show(0:Int)≤1 by omega) (by decide)
  rw[u1,w1] at xl
  rw[u1,w1,x1,y1,z1,e2]
  have hbv:(ac q+ac q)*ac b=2*(ac q*ac b):=by rw[←Int.two_mul,Int.mul_assoc]
  have Yg:(ac q+ac q+1)*ac b=2*(ac q*ac b)+ac b:=by rw[Int.add_mul,hbv,Int.one_mul]
  have hcm:(0≤dS (ac r+ac r+iq (ac a) i.toNat) (ac b))↔ac b≤ac r+ac r+iq (ac a) i.toNat:=by
   unfold dS
   split
   ·omega
   ·split<;>omega
  rw[hcm]
  refine⟨⟨⟨hq,hq⟩,by omega,by omega⟩,⟨⟨hr,hr⟩,by omega,by omega⟩,⟨ha,by omega,by omega⟩,⟨by omega,by omega⟩,⟨⟨u2,w2⟩,by omega,by omega⟩,⟨⟨x2,hb⟩,by omega,by omega⟩,fun hc=>?_,fun hc=>?_⟩
  ·obtain⟨t1,t2,t3⟩:=bZ (show 0≤ac r+ac r+iq (ac a) i.toNat - ac b by omega)
   rw[s1,t1]
   repeat' refine And.intro ?_ ?_
   all_goals first|omega|exact x2|exact hb|exact y2|exact z2|exact s2|exact s3|exact t2|exact t3|rfl|(rw[Yg];omega)
  ·repeat' refine And.intro ?_ ?_
   all_goals first|omega|exact x2|exact x3|exact y2|exact y3|rfl|(rw[hbv];omega)
 ·have e0:(i+1).toNat=0:=by omega
  rw[e0,Int.pow_zero,Int.ediv_one] at hv
  obtain⟨w1,w2⟩:=oa (X:=ac a) (V:=ac b) (q:=ac q) (by omega) (by rw[Int.add_mul,Int.one_mul];omega)
  rw[w1,w2,jS hq nq,show ac a - ac q*ac b=ac r by omega,jS hr nr]
  repeat' refine And.intro ?_ ?_
  all_goals first|omega|rfl
def Eh:bf:=⟨152,List Int×List Int,.cons (bR (.i .u32)) (.one (bR (.i .u32))),fun a=>(ag a.1∧ag a.2)∧(a.1.length≤100000000∧a.2.length≤100000000)∧bO a.2,
 fun a=> .row (.i .u32) (aM (bT (ac a.1) (ac a.2)))⟩
def Yh (a:List Int×List Int):Nat→bz
 |1=> .inv (List Int×List Int) (fun x=>⟨[(0,.row (.i .u32) x.1),(1,.row (.i .u32) x.2)],[]⟩) (fun s=>(rS (.i .u32) s 0,rS (.i .u32) s 1))
  (fun x=>(ag x.1∧ag x.2)∧bO x.2∧(x.1.length≤100000000∧x.2.length≤100000000)∧bT (ac x.1) (ac x.2)=bT (ac a.1) (ac a.2)) (fun x=>(ac x.2).toNat) fun _ _=> .look
 |_=> .look
theorem h125:Holds Tryz.prog Eh:=by
 refine con (L:=[zL,oq]) Eh vW Yh (bu.none _) (by simpa using⟨h138,h140⟩) (by kernel_rfl) (by kernel_rfl) (fun _=>rfl) ?_
 rintro⟨a,b⟩ ⟨⟨ha,hb⟩,⟨hla,hlb⟩,hn⟩
 simp only at ha hb hla hlb hn
 refine bh (let z0:=ai.i .u32;let z1:=bT (ac a) (ac b);((((SV.row z0 a).same (SV.row z0 a)∧(SV.row z0 b).same (SV.row z0 b)∧True)∧True)∧(ag a∧ag b)∧bO b∧(a.length≤100000000∧b.length≤100000000)∧z1=z1)∧∀(x:List Int×List Int),let z2:=x.fst.length;let z3:=decide ((0:Int)<(↑x.snd.length:Int));let z4:=aM (ac x.fst % ac x.snd);(ag x.fst∧ag x.snd)∧bO x.snd∧(z2≤100000000∧x.snd.length≤100000000)∧bT (ac x.fst) (ac x.snd)=z1→(z3=true→((ag x.fst∧ag x.snd)∧(z2≤1000000000∧x.snd.length≤1000000000)∧(0:Int)<ac x.snd)∧(((SV.row z0 x.snd).same (SV.row z0 x.snd)∧(SV.row z0 z4).same (SV.row z0 z4)∧True)∧True)∧((ag x.snd∧ag z4)∧bO z4∧(x.snd.length≤100000000∧z4.length≤100000000)∧bT (ac x.snd) (ac z4)=z1)∧(ac z4).toNat<(ac x.snd).toNat)∧(z3=false→(ag x.fst∧z2≤100000000000)∧(SV.row z0 (aM (ac x.fst))).same (SV.row z0 (aM z1)))) (by kernel_rfl) ?_
 simp only[vcs]
 refine⟨⟨⟨ha,hb⟩,hn,⟨hla,hlb⟩⟩,?_⟩
 rintro⟨s,t⟩ ⟨⟨ds,dt⟩,nt,⟨hs,ht⟩,hg⟩
 simp only at ds dt nt ht hs hg ⊢
 have ps:=bQ ds
 have pt:=bQ dt
 refine⟨fun hl=>?_,fun hl=>?_⟩
 ·have hpos:0<ac t:=by
   by_cases h:ac t=0
   ·rw[val_zero dt nt h] at hl
    simp at hl
   ·omega
  have hm:=Int.emod_nonneg (ac s) (show ac t≠0 by omega)
  have hlt:=Int.emod_lt_of_pos (ac s) hpos
  obtain⟨m1,m2,m3⟩:=bZ hm
  have hml:=qc m2 dt m3 (by rw[m1];omega)
  rw[m1]
  refine⟨⟨⟨ds,dt⟩,⟨by omega,by omega⟩,hpos⟩,⟨⟨dt,m2⟩,m3,⟨by omega,by omega⟩,by rw[JR ps hpos,hg]⟩,by omega⟩
 ·have ht0:t=[]:=List.eq_nil_of_length_eq_zero (by omega)
  rw[ht0,show ac []=0 from rfl,JS ps] at hg
  rw[←hg]
  repeat' refine And.intro ?_ ?_
  all_goals first|omega|exact ds|rfl
def mV (a:List Int):Bool:=decide (a.length=0)||decide (ae a (a.length - 1) 0≠0)
theorem ou {a:List Int}:mV a=true↔bO a:=by
 unfold mV
 rw[Bool.or_eq_true,decide_eq_true_eq,decide_eq_true_eq]
 constructor
 ·exact sA
 ·intro h
  by_cases h0:a.length=0
  ·exact .inl h0
  ·right
   have h1:=zi (a:=a) (n:=a.length - 1) (by omega)
   rw[show a.length - 1+1=a.length by omega,List.take_length] at h1
   have:∀{l:List Int} {x:Int},bO (l++[x])→x≠0:=by
    intro l x
    induction l with
    |nil=>intro h;exact h.1 rfl
    |cons d l ih=>intro h;exact ih h.2
   rw[h1] at h
   exact this h
def Ei:bf:=⟨114,Int,.one (cT .i64),fun n=> -9223372036854775808≤(show Int from n)∧(show Int from n)≤9223372036854775807,fun n=> .row (.i .u32) (aM ((show Int from n).natAbs:Int))⟩
theorem h135:Holds Tryz.prog Ei:=by
 refine con (L:=[zH]) Ei we (fun _ _=> .look) (bu.none _) (by simpa using h159) (by kernel_rfl) (by kernel_rfl) (fun _=>rfl) ?_
 intro(n:Int) h
 obtain⟨h0,h1⟩: -9223372036854775808≤n∧n≤9223372036854775807:=h
 refine bh (let z0:=decide (n<(0:Int));let z1:=(-(n+(1:Int))+(1:Int)) % (18446744073709551616:Int);let z2:=ai.i .u32;let z3:=SV.row z2 (aM (↑n.natAbs:Int));(z0=true→aC .i64 (n+(1:Int))∧aC .i64 (-(n+(1:Int)))∧aC .u64 (-(n+(1:Int)))∧((0:Int)≤z1∧z1<(18446744073709551616:Int))∧(SV.row z2 (aM z1)).same z3)∧(z0=false→aC .u64 n∧((0:Int)≤n∧n<(18446744073709551616:Int))∧(SV.row z2 (aM n)).same z3)) (by kernel_rfl) ?_
 simp only[vcs]
 refine⟨fun hn=>?_,fun hn=>?_⟩
 ·have e:(-(n+1)+1) % 18446744073709551616=(n.natAbs:Int):=by omega
  rw[e]
  exact⟨by omega,by omega,u64_in (by omega) (by omega),by omega,rfl⟩
 ·have e:(n.natAbs:Int)=n:=by omega
  rw[e]
  exact⟨u64_in (by omega) (by omega),by omega,rfl⟩
def zM:bf:=⟨113,Bool×(List Int×List Int),.cons CP (.cons (bR (.i .u32)) (.one (bR (.i .u32)))),fun a=>(ag a.2.1∧ag a.2.2)∧(a.2.1.length≤100000000∧a.2.2.length≤100000000)∧(bO a.2.1∧bO a.2.2)∧0<ac a.2.2,
 fun a=> .aD [iH (cE a.1 (ac a.2.1) (ac a.2.2)),.si .i64 0]⟩
theorem h105:Holds Tryz.prog zM:=by
 refine con (L:=[Eh,zL]) zM vP (fun _ _=> .look) (bu.none _) (by simpa using⟨h125,h138⟩) (by kernel_rfl) (by kernel_rfl) (fun _=>rfl) ?_
 rintro⟨s,n,d⟩ ⟨⟨hn,hd⟩,⟨hln,hld⟩,⟨nn,nd⟩,d0⟩
 simp only at hn hd hln hld d0 nn nd
 refine bh (let z0:=decide ((↑d.length:Int)=(0:Int));let z1:=SV.row (ai.i .i64) [];let z2:=ah (cE s (ac n) (ac d));let z3:=ai.i .u32;let z4:=SV.aD [SV.agg [SV.sb z2.fst,SV.row z3 z2.snd.fst,SV.row z3 z2.snd.snd],SV.si .i64 0];let z5:=aM (bT (ac n) (ac d));let z6:=[SV.row z3 (aM (ac n / ac z5)),SV.row z3 (aM (ac d / ac z5))];let z7:=[SV.il .i64 0];(z0=true→(SV.aD [SV.agg [SV.bl false,z1,z1],SV.il .i64 8]).same z4)∧(z0=false→((ag n∧ag d)∧(n.length≤100000000∧d.length≤100000000)∧bO d)∧((ag n∧ag z5)∧(n.length≤1000000000∧z5.length≤1000000000)∧(0:Int)<ac z5)∧((ag d∧ag z5)∧(d.length≤1000000000∧z5.length≤1000000000)∧(0:Int)<ac z5)∧(s=true→(SV.aD (SV.agg (SV.sb (decide ((0:Int)<(↑n.length:Int)))::z6)::z7)).same z4)∧(s=false→(SV.aD (SV.agg (SV.bl false::z6)::z7)).same z4))) (by kernel_rfl) ?_
 simp only[vcs]
 have n0:=bQ hn
 have g0:0<bT (ac n) (ac d):=by
  unfold bT
  have:=Nat.gcd_pos_of_pos_right (ac n).toNat (show 0<(ac d).toNat by omega)
  omega
 have uD:bT (ac n) (ac d)≤ac d:=by
  unfold bT
  have:=Nat.gcd_le_right (ac n).toNat (show 0<(ac d).toNat by omega)
  omega
 obtain⟨a1,a2,a3⟩:=bZ (Int.le_of_lt g0)
 have hgl:=qc a2 hd a3 (by rw[a1];exact uD)
 have hpos:(0<(n.length:Int))↔0<ac n:=by
  constructor
  ·intro h
   by_cases hz:ac n=0
   ·rw[val_zero hn nn hz] at h;exact absurd h (by decide)
   ·omega
  ·intro h
   by_cases hl:n.length=0
   ·rw[List.eq_nil_of_length_eq_zero hl] at h
    exact absurd h (by decide)
   ·omega
 have hb:decide (0<(n.length:Int))=decide (0<ac n):=by rw[decide_eq_decide];exact hpos
 have hd0:d.length≠0:=by
  intro h
  rw[List.eq_nil_of_length_eq_zero h] at d0
  exact absurd d0 (by decide)
 unfold cE
 rw[DZ n0 d0,a1]
 simp only
 refine⟨fun h=>absurd h (by omega),fun _=>⟨⟨⟨hn,hd⟩,⟨by omega,by omega⟩,nd⟩,⟨⟨hn,a2⟩,⟨by omega,by omega⟩,g0⟩,⟨⟨hd,a2⟩,⟨by omega,by omega⟩,g0⟩,fun hs=>?_,fun hs=>?_⟩⟩
 ·rw[hs,hb]
  rfl
 ·rw[hs]
  rfl
def Ej:bf:=⟨73,Int×Int,.cons (cT .i64) (.one (cT .i64)),fun a=>(-9223372036854775808≤a.1∧a.1≤9223372036854775807)∧0<a.2∧a.2≤9223372036854775807,fun a=> .aD [iH (cE (decide (a.1<0)) (a.1.natAbs:Int) a.2),.si .i64 0]⟩
theorem h103:Holds Tryz.prog Ej:=by
 refine con (L:=[Ei,zM]) Ej vN (fun _ _=> .look) (bu.none _) (by simpa using⟨h135,h105⟩) (by kernel_rfl) (by kernel_rfl) (fun _=>rfl) ?_
 rintro⟨n,d⟩ ⟨⟨h0,h1⟩,h2,h3⟩
 simp only at h0 h1 h2 h3
 refine bh (let z0:=aM (↑n.natAbs:Int);let z1:=aM (↑d.natAbs:Int);let z2:=ah (cE (!decide (n<(0:Int))==decide (d<(0:Int))) (ac z0) (ac z1));let z3:=ai.i .u32;let z4:=[SV.si .i64 0];let z5:=ah (cE (decide (n<(0:Int))) (↑n.natAbs:Int) d);((-9223372036854775808:Int)≤n∧n≤(9223372036854775807:Int))∧((-9223372036854775808:Int)≤d∧d≤(9223372036854775807:Int))∧((ag z0∧ag z1)∧(z0.length≤100000000∧z1.length≤100000000)∧(bO z0∧bO z1)∧(0:Int)<ac z1)∧(SV.aD (SV.agg [SV.sb z2.fst,SV.row z3 z2.snd.fst,SV.row z3 z2.snd.snd]::z4)).same (SV.aD (SV.agg [SV.sb z5.fst,SV.row z3 z5.snd.fst,SV.row z3 z5.snd.snd]::z4))) (by kernel_rfl) ?_
 simp only[vcs]
 obtain⟨a1,a2,a3⟩:=bZ (show(0:Int)≤(n.natAbs:Int) by omega)
 obtain⟨b1,b2,b3⟩:=bZ (show(0:Int)≤(d.natAbs:Int) by omega)
 have l1:=fQ (k:=2) (show(0:Int)≤(n.natAbs:Int) by omega) (by rw[show(4294967296:Int)^2=18446744073709551616 from rfl];omega)
 have l2:=fQ (k:=2) (show(0:Int)≤(d.natAbs:Int) by omega) (by rw[show(4294967296:Int)^2=18446744073709551616 from rfl];omega)
 have e:(d.natAbs:Int)=d:=by omega
 have hs:(!(decide (n<0)==decide (d<0)))=decide (n<0):=by
  have:decide (d<0)=false:=by rw[decide_eq_false_iff_not];omega
  rw[this]
  cases decide (n<0)<;>rfl
 rw[hs,a1,b1,e]
 rw[e] at b2 b3 l2
 repeat' refine And.intro ?_ ?_
 all_goals first|omega|exact a2|exact b2|exact a3|exact b3|rfl
def Ek:bf:=⟨41,Int,.one (cT .i64),fun n=> -9223372036854775808≤(show Int from n)∧(show Int from n)≤9223372036854775807,fun n=>iH ((show Int from n):Rat)⟩
theorem Yi (n:Int):cE (decide (n<0)) (n.natAbs:Int) 1=(n:Rat):=by
 unfold cE
 have h2:(if decide (n<0)=true then -(n.natAbs:Int) else(n.natAbs:Int))=n:=by
  by_cases h:n<0
  ·rw[if_pos (by simpa using h)];omega
  ·rw[if_neg (by simpa using h)];omega
 rw[h2]
 exact Rat.mkRat_one n
theorem h51:Holds Tryz.prog Ek:=by
 refine con (L:=[Ej]) Ek vC (fun _ _=> .look) (bu.none _) (by simpa using h103) (by kernel_rfl) (by kernel_rfl) (fun _=>rfl) ?_
 intro(n:Int) h
 obtain⟨h0,h1⟩: -9223372036854775808≤n∧n≤9223372036854775807:=h
 refine bh (let z0:=ah (cE (decide (n<(0:Int))) (↑n.natAbs:Int) (1:Int));let z1:=ai.i .u32;let z2:=ah (IntCast.intCast n);(((-9223372036854775808:Int)≤n∧n≤(9223372036854775807:Int))∧(0:Int)<(1:Int)∧(1:Int)≤(9223372036854775807:Int))∧(SV.agg [SV.sb z0.fst,SV.row z1 z0.snd.fst,SV.row z1 z0.snd.snd]).same (SV.agg [SV.sb z2.fst,SV.row z1 z2.snd.fst,SV.row z1 z2.snd.snd])) (by kernel_rfl) ?_
 conv=>zeta
 exact⟨⟨⟨h0,h1⟩,by omega,by omega⟩,qf (Yi n)⟩
def jB (x:aW):Prop:=∃q k,x=ah q∧Sz k q∧k≤10000000
theorem Yj (q:Rat):ah (-q)=(!(ah q).1&&decide (0<((ah q).2.1.length:Int)),(ah q).2):=by
 have hl:0<((ah q).2.1.length:Int)↔q.num≠0:=by
  obtain⟨_,⟨a2,a3,a1⟩,_⟩:=ij q
  constructor
  ·intro h hz
   rw[hz] at a1
   rw[val_zero a2 a3 a1] at h
   exact absurd h (by decide)
  ·intro h
   by_cases h0:(ah q).2.1.length=0
   ·rw[List.eq_nil_of_length_eq_zero h0] at a1
    simp only[ac] at a1
    omega
   ·omega
 unfold ah
 refine Prod.ext ?_ (Prod.ext ?_ ?_)
 ·simp only
  rw[Bool.eq_iff_iff]
  simp only[decide_eq_true_eq,Bool.and_eq_true,Bool.not_eq_true',decide_eq_false_iff_not]
  have h0:=@Rat.num_nonneg q
  have h1:=@Rat.num_nonneg (-q)
  rw[Rat.neg_num] at h1
  have hl2:(0:Int)<(aM (q.num.natAbs:Int)).length↔q.num≠0:=hl
  rw[hl2,←Rat.not_le,←h1,←Rat.not_le,←h0]
  omega
 ·simp only[Rat.neg_num,Int.natAbs_neg]
 ·simp only[Rat.neg_den]
def Em:bf:=⟨112,aW,.one (dc sF),bM,fun x=>iH (-(aO x))⟩
theorem h142:Holds Tryz.prog Em:=by
 refine con (L:=[]) Em wo (fun _ _=> .look) (bu.none _) (by simp) (by kernel_rfl) (by kernel_rfl) (fun _=>rfl) ?_
 intro(x:aW) h
 obtain⟨q,k,rfl,hz,hk⟩:bM x:=h
 refine bh (let z0:=ai.i .u32;let z1:=[SV.row z0 (ah q).snd.fst,SV.row z0 (ah q).snd.snd];let z2:=(ah (-aO (ah q))).snd;let z3:=SV.agg [SV.sb (ah (-aO (ah q))).fst,SV.row z0 z2.fst,SV.row z0 z2.snd];((!(ah q).fst)=true→(SV.agg (SV.sb (decide ((0:Int)<(↑(List.length (ah q).snd.fst):Int)))::z1)).same z3)∧((!(ah q).fst)=false→(SV.agg (SV.bl false::z1)).same z3)) (by kernel_rfl) ?_
 conv=>zeta
 have hn:=Yj q
 rw[cb]
 refine⟨fun h=>?_,fun h=>?_⟩
 ·rw[hn,h]
  rfl
 ·rw[hn,h]
  rfl
def En:bf:=⟨111,aW×aW,.cons (dc sF) (.one (dc sF)),fun a=>jB a.1∧jB a.2,fun a=>iH (aO a.1+aO a.2)⟩
theorem h52:Holds Tryz.prog En:=by
 refine con (L:=[Ed,uG,zG,zM]) En vD (fun _ _=> .look) (bu.none _) (by simpa using⟨h104,h106,h107,h105⟩) (by kernel_rfl) (by kernel_rfl) (fun _=>rfl) ?_
 rintro⟨x,y⟩ ⟨⟨p,i,hx,hz,hi⟩,⟨q,j,hy,hw,hj⟩⟩
 simp only at hx hy
 subst hx hy
 refine bh (let z0:=(ah p).snd.fst;let z1:=(ah q).snd.snd;let z2:=(ah q).snd.fst;let z3:=(ah p).snd.snd;let z4:=(ah p).fst==(ah q).fst;let z5:=aM (ac z0*ac z1);let z6:=aM (ac z2*ac z3);let z7:=aM (ac z5+ac z6);let z8:=aM (ac z3*ac z1);let z9:=ah (cE (ah p).fst (ac z7) (ac z8));let ak:=ai.i .u32;let al:=ah (aO (ah p)+aO (ah q));let z12:=SV.agg [SV.sb al.fst,SV.row ak al.snd.fst,SV.row ak al.snd.snd];let au:=decide (ac z6≤ac z5);let ar:=aM (ac z5 - ac z6);let ax:=ah (cE (ah p).fst (ac ar) (ac z8));let ay:=aM (ac z6 - ac z5);let z17:=ah (cE (ah q).fst (ac ay) (ac z8));((ag z0∧ag z1)∧List.length z0≤1000000000∧List.length z1≤1000000000)∧((ag z2∧ag z3)∧List.length z2≤1000000000∧List.length z3≤1000000000)∧((ag z3∧ag z1)∧List.length z3≤1000000000∧List.length z1≤1000000000)∧(z4=true→((ag z5∧ag z6)∧z5.length≤10000000000∧z6.length≤10000000000)∧((ag z7∧ag z8)∧(z7.length≤100000000∧z8.length≤100000000)∧(bO z7∧bO z8)∧(0:Int)<ac z8)∧(SV.agg [SV.sb z9.fst,SV.row ak z9.snd.fst,SV.row ak z9.snd.snd]).same z12)∧(z4=false→((ag z5∧ag z6)∧z5.length≤10000000000∧z6.length≤10000000000)∧(au=true→((ag ar∧ag z8)∧(ar.length≤100000000∧z8.length≤100000000)∧(bO ar∧bO z8)∧(0:Int)<ac z8)∧(SV.agg [SV.sb ax.fst,SV.row ak ax.snd.fst,SV.row ak ax.snd.snd]).same z12)∧(au=false→((ag z6∧ag z5)∧z6.length≤10000000000∧z5.length≤10000000000)∧((ag ay∧ag z8)∧(ay.length≤100000000∧z8.length≤100000000)∧(bO ay∧bO z8)∧(0:Int)<ac z8)∧(SV.agg [SV.sb z17.fst,SV.row ak z17.snd.fst,SV.row ak z17.snd.snd]).same z12))) (by kernel_rfl) ?_
 conv=>zeta
 obtain⟨e1,⟨u1,_,_⟩,⟨u2,_,_⟩⟩:=ij p
 obtain⟨e2,⟨u3,_,_⟩,⟨u4,_,_⟩⟩:=ij q
 obtain⟨m1,m2⟩:=ln hz
 obtain⟨m3,m4⟩:=ln hw
 obtain⟨X,Y,D,hX,hY,hD,X0,Y0,D0,l1,l2,l3,l4,l5,l6,n1,n2,n3⟩:=D3 hz hw
 obtain⟨c1,c2,c3⟩:=bZ X0
 obtain⟨c4,c5,c6⟩:=bZ Y0
 obtain⟨c7,c8,c9⟩:=bZ (Int.le_of_lt D0)
 obtain⟨s1,s2,s3⟩:=bZ (show 0≤X+Y by omega)
 simp only[cb,hX,hY,hD,c1,c4,c7,s1,e1,e2]
 simp only[vcs]
 have fin:∀{s:Bool} {n:Int},(p.num*q.den+q.num*p.den=if s then -n else n)→(SV.agg [.sb (ah (cE s n D)).1,.row (.i .u32) (ah (cE s n D)).2.1,.row (.i .u32) (ah (cE s n D)).2.2]).same (.agg [.sb (ah (p+q)).1,.row (.i .u32) (ah (p+q)).2.1,.row (.i .u32) (ah (p+q)).2.2]):=
  fun h=>qf (KN n3 h)
 rw[n1,n2] at fin
 refine⟨⟨⟨u1,u4⟩,by omega,by omega⟩,⟨⟨u3,u2⟩,by omega,by omega⟩,⟨⟨u2,u4⟩,by omega,by omega⟩,fun he=>⟨⟨⟨c2,c5⟩,by omega,by omega⟩,⟨⟨s2,c8⟩,⟨by omega,by omega⟩,⟨s3,c9⟩,D0⟩,fin ?_⟩,fun he=>⟨⟨⟨c2,c5⟩,by omega,by omega⟩,fun hle=>?_,fun hle=>?_⟩⟩
 ·by_cases hp:p<0<;>by_cases hq:q<0<;>simp[hp,hq] at he ⊢<;>omega
 ·obtain⟨t1,t2,t3⟩:=bZ (show 0≤X - Y by omega)
  rw[t1]
  refine⟨⟨⟨t2,c8⟩,⟨by omega,by omega⟩,⟨t3,c9⟩,D0⟩,fin ?_⟩
  by_cases hp:p<0<;>by_cases hq:q<0<;>simp[hp,hq] at he ⊢<;>omega
 ·obtain⟨t1,t2,t3⟩:=bZ (show 0≤Y - X by omega)
  rw[t1]
  refine⟨⟨⟨c5,c2⟩,by omega,by omega⟩,⟨⟨t2,c8⟩,⟨by omega,by omega⟩,⟨t3,c9⟩,D0⟩,fin ?_⟩
  by_cases hp:p<0<;>by_cases hq:q<0<;>simp[hp,hq] at he ⊢<;>omega
def Eo:bf:=⟨72,aW×aW,.cons (dc sF) (.one (dc sF)),fun a=>jB a.1∧jB a.2,fun a=>iH (aO a.1 - aO a.2)⟩
theorem h108:Holds Tryz.prog Eo:=by
 refine con (L:=[Em,En]) Eo vS (fun _ _=> .look) (bu.none _) (by simpa using⟨h142,h52⟩) (by kernel_rfl) (by kernel_rfl) (fun _=>rfl) ?_
 rintro⟨x,y⟩ ⟨⟨p,i,hx,hz,hi⟩,⟨q,j,hy,hw,hj⟩⟩
 simp only at hx hy
 subst hx hy
 refine bh (let z0:=((ah q).fst,(ah q).snd.fst,(ah q).snd.snd);let z1:=((ah p).fst,(ah p).snd.fst,(ah p).snd.snd);let z2:=(ah (-aO z0)).snd;let z3:=((ah (-aO z0)).fst,z2.fst,z2.snd);let z4:=ah (aO z1+aO z3);let z5:=ai.i .u32;let z6:=ah (aO (ah p) - aO (ah q));bM z0∧(jB z1∧jB z3)∧(SV.agg [SV.sb z4.fst,SV.row z5 z4.snd.fst,SV.row z5 z4.snd.snd]).same (SV.agg [SV.sb z6.fst,SV.row z5 z6.snd.fst,SV.row z5 z6.snd.snd])) (by kernel_rfl) ?_
 conv=>zeta
 have hn:jB (ah (-q)):=⟨-q,j,rfl,D1 hw,hj⟩
 refine⟨⟨q,j,rfl,hw,by omega⟩,⟨⟨p,i,rfl,hz,hi⟩,?_⟩,qf ?_⟩
 ·have e:aO (ah q)=q:=cb q
  show jB (ah (-aO (ah q)))
  rw[e]
  exact hn
 ·show aO (ah p)+aO (ah (-aO (ah q)))=aO (ah p) - aO (ah q)
  rw[cb,cb,cb,Rat.sub_eq_add_neg]
def Ep:bf:=⟨71,aW,.one (dc sF),bM,fun x=> .si .i64 (e7 (aO x))⟩
theorem h48:Holds Tryz.prog Ep:=by
 refine con (L:=[]) Ep vB (fun _ _=> .look) (bu.none _) (by simp) (by kernel_rfl) (by kernel_rfl) (fun _=>rfl) ?_
 intro(x:aW) h
 obtain⟨q,k,rfl,hz,hk⟩:bM x:=h
 refine bh (let z0:=SV.si .i64 (e7 (aO (ah q)));let z1:=decide ((↑(List.length (ah q).snd.fst):Int)=(0:Int));((ah q).fst=true→(SV.il .i64 (-1:Int)).same z0)∧((ah q).fst=false→(z1=true→(SV.il .i64 0).same z0)∧(z1=false→(SV.il .i64 1).same z0))) (by kernel_rfl) ?_
 simp only[vcs]
 rw[cb]
 obtain⟨e1,⟨a2,a3,a1⟩,_⟩:=ij q
 have hl:((ah q).2.1.length:Int)=0↔q.num=0:=by
  constructor
  ·intro h
   rw[List.eq_nil_of_length_eq_zero (by omega:(ah q).2.1.length=0)] at a1
   simp only[ac] at a1
   omega
  ·intro h
   rw[val_zero a2 a3 (by rw[a1,h];rfl)]
   rfl
 have h0:=@Rat.num_nonneg q
 have hn:q<0↔q.num<0:=by
  rw[←Rat.not_le,←h0]
  omega
 have hp:0<q↔0<q.num:=by
  constructor
  ·intro h
   have h1:=h0.2 (Rat.le_of_lt h)
   by_cases hz:q.num=0
   ·have:=Rat.num_eq_zero.1 hz
    subst this
    exact absurd h (by decide)
   ·omega
  ·intro h
   have h1:=h0.1 (by omega)
   exact Rat.lt_of_le_of_ne h1 (fun he=>by rw[←he] at h;exact absurd h (by decide))
 rw[hl,e1]
 simp only[decide_eq_true_eq,decide_eq_false_iff_not]
 unfold e7
 simp only[hn,hp]
 refine⟨fun h=>?_,fun h=>⟨fun h2=>?_,fun h2=>?_⟩⟩
 ·rw[if_pos h]
 ·rw[if_neg (by omega),if_neg (by omega)]
 ·rw[if_neg (by omega),if_pos (by omega)]
def Es:bf:=⟨40,aW×aW,.cons (dc sF) (.one (dc sF)),fun a=>jB a.1∧jB a.2,fun a=> .si .i64 (ik (aO a.1) (aO a.2))⟩
theorem Yk (p q:Rat):e7 (p - q)=ik p q:=by
 unfold e7 ik
 have h1:p - q<0↔p<q:=by constructor<;>intro h<;>grind
 have h2:0<p - q↔q<p:=by constructor<;>intro h<;>grind
 simp only[h1,h2]
theorem h53:Holds Tryz.prog Es:=by
 refine con (L:=[Eo,Ep]) Es vE (fun _ _=> .look) (bu.none _) (by simpa using⟨h108,h48⟩) (by kernel_rfl) (by kernel_rfl) (fun _=>rfl) ?_
 rintro⟨x,y⟩ ⟨⟨p,i,hx,hz,hi⟩,⟨q,j,hy,hw,hj⟩⟩
 simp only at hx hy
 subst hx hy
 refine bh (let z0:=((ah p).fst,(ah p).snd.fst,(ah p).snd.snd);let z1:=((ah q).fst,(ah q).snd.fst,(ah q).snd.snd);let z2:=ah (aO z0 - aO z1);let z3:=(z2.fst,z2.snd.fst,z2.snd.snd);(jB z0∧jB z1)∧bM z3∧(SV.si .i64 (e7 (aO z3))).same (SV.si .i64 (ik (aO (ah p)) (aO (ah q))))) (by kernel_rfl) ?_
 conv=>zeta
 have e0:aO (ah p) - aO (ah q)=p - q:=by rw[cb,cb]
 refine⟨⟨⟨p,i,rfl,hz,hi⟩,⟨q,j,rfl,hw,hj⟩⟩,?_,?_⟩
 ·show bM (ah (aO (ah p) - aO (ah q)))
  rw[e0,Rat.sub_eq_add_neg]
  exact⟨_,_,rfl,KL hz (D1 hw),by omega⟩
 ·show(SV.si IntKind.i64 (e7 (aO (ah (aO (ah p) - aO (ah q)))))).same _
  rw[e0,cb,cb,cb,Yk]
  rfl
theorem Et {a:List Int} (h:ag a) (hn:bO a) (hne:a≠[]):0<ac a:=by
 have:=bQ h
 by_cases hz:ac a=0
 ·exact absurd (val_zero h hn hz) hne
 ·omega
def okF (x:aW):Bool:=decide (ah (aO x)=x)
theorem KU {n d:Int} (h:0<d):0<bT n d:=by
 unfold bT
 have:0<Nat.gcd n.toNat d.toNat:=Nat.gcd_pos_of_pos_right _ (by omega)
 omega
theorem Yl {s:Bool} {n d:List Int} (h:okF (s,(n,d))=true):bO n∧bO d∧d≠[]:=by
 have h:=of_decide_eq_true h
 have h1:=bZ (show(0:Int)≤((aO (s,(n,d))).num.natAbs:Int) by omega)
 have h2:=bZ (show(0:Int)≤((aO (s,(n,d))).den:Int) by omega)
 have e1:aM ((aO (s,(n,d))).num.natAbs:Int)=n:=congrArg (fun x=>x.2.1) h
 have e2:aM ((aO (s,(n,d))).den:Int)=d:=congrArg (fun x=>x.2.2) h
 rw[e1] at h1
 rw[e2] at h2
 refine⟨h1.2.2,h2.2.2,fun hd=>?_⟩
 have h3:=h2.1
 rw[hd] at h3
 have:=(aO (s,(n,d))).den_pos
 simp only[ac] at h3
 rw[hd] at this
 omega
theorem okF_eq {s:Bool} {n d:List Int} (hn:ag n) (hd:ag d) (nn:bO n) (nd:bO d) (hd0:d≠[]):
  okF (s,(n,d))=if n=[] then !s&&decide (d=[1]) else decide (bT (ac n) (ac d)=1):=by
 have dp:=Et hd nd hd0
 have n0:=bQ hn
 have hv:aO (s,(n,d))=mkRat (if s then -ac n else ac n) (ac d).toNat:=rfl
 have hm:=@DZ s (ac n) (ac d) n0 dp
 have gp:=@KU (ac n) (ac d) dp
 unfold okF
 rw[hv,hm]
 by_cases h0:n=[]
 ·rw[if_pos h0,h0]
  have hg:bT (ac []) (ac d)=ac d:=by unfold bT;simp[ac];omega
  have e1:aM (ac d / bT (ac []) (ac d))=[1]:=by rw[hg,Int.ediv_self (by omega)];rfl
  have e2:aM (ac [] / bT (ac []) (ac d))=[]:=by
   have:ac []=0:=rfl
   rw[this,Int.zero_ediv];rfl
  rw[e1,e2]
  have e3:decide (0<ac [])=false:=rfl
  rw[e3,Bool.and_false]
  rw[Bool.eq_iff_iff,Bool.and_eq_true,decide_eq_true_eq,decide_eq_true_eq,Bool.not_eq_true']
  constructor
  ·intro h
   injection h with h1 h2
   injection h2 with h2 h3
   exact⟨h1.symm,h3.symm⟩
  ·rintro⟨h1,h2⟩
   rw[h1,h2]
 ·rw[if_neg h0]
  have np:=Et hn nn h0
  rw[decide_eq_true (show 0<ac n from np),Bool.and_true]
  rw[Bool.eq_iff_iff,decide_eq_true_eq,decide_eq_true_eq]
  constructor
  ·intro h
   injection h with h1 h2
   injection h2 with h2 h3
   have h4:=(bZ (show 0≤ac d / bT (ac n) (ac d) from Int.ediv_nonneg (by omega) (by omega))).1
   rw[h3] at h4
   by_cases h5:bT (ac n) (ac d)=1
   ·exact h5
   ·have:=Int.ediv_lt_self_of_pos_of_ne_one dp (by omega:bT (ac n) (ac d)≠1)
    omega
  ·intro h
   rw[h,Int.ediv_one,Int.ediv_one,jS hn nn,jS hd nd]
def oI (p:aE) (i:Int):Off:=ae p.offers i.toNat ai.off.dflt
def bW (n:Nat):List Int:=(List.range n).map fun i:Nat=>(i:Int)
theorem e8 {n:Nat}:(bW n).length=n:=by simp[bW]
theorem qi {n:Nat}:bW (n+1)=bW n++[(n:Int)]:=by simp[bW,List.range_succ]
theorem Eu {n:Nat}:(bW n).Pairwise (·<·):=by
 unfold bW
 rw[List.pairwise_map]
 exact List.pairwise_lt_range.imp fun h=>by omega
theorem lX {n:Nat} {x:Int}:x∈bW n↔0≤x∧x<n:=by
 unfold bW
 rw[List.mem_map]
 constructor
 ·rintro⟨k,hk,rfl⟩
  rw[List.mem_range] at hk
  omega
 ·rintro⟨h0,h1⟩
  exact⟨x.toNat,List.mem_range.2 (by omega),by omega⟩
end Go.Vi
namespace Go.Proofs
open Go.Shelf
def Tryz.layS_ren:Ren:=
 ⟨fun
  |189=>124
  |125=>160
  |257=>159
  |128=>189
  |129=>190
  |294=>181
  |295=>182
  |296=>183
  |297=>184
  |298=>185
  |299=>186
  |216=>136
  |300=>187
  |301=>188
  |328=>192
  |329=>193
  |330=>194
  |331=>195
  |332=>196
  |215=>164
  |343=>198
  |n=>n,
 fun
  |28=>24
  |3=>3
  |46=>162
  |0=>0
  |51=>161
  |53=>107
  |4=>4
  |183=>231
  |182=>230
  |131=>142
  |5=>5
  |9=>9
  |218=>238
  |222=>242
  |228=>244
  |229=>122
  |n=>n,
 fun n=>n⟩
def Tryz.layC_ren:Ren:=
 ⟨fun
  |41=>77
  |n=>n,
 fun
  |22=>24
  |23=>3
  |4=>4
  |n=>n,
 fun n=>n⟩
def Tryz.layD_ren:Ren:=
 ⟨fun
  |45=>155
  |n=>n,
 fun
  |22=>24
  |23=>3
  |3=>3
  |4=>4
  |0=>0
  |n=>n,
 fun n=>n⟩
theorem Tryz.layS:Lays.n189 Tryz.prog Tryz.layS_ren:={mixed:=by kernel_rfl,f125:=Tryz.func160.trans (by kernel_rfl),f128:=Tryz.func189.trans (by kernel_rfl),f129:=Tryz.func190.trans (by kernel_rfl),f189:=Tryz.func124.trans (by kernel_rfl),f215:=Tryz.func164.trans (by kernel_rfl),f216:=Tryz.func136.trans (by kernel_rfl),f257:=Tryz.func159.trans (by kernel_rfl),f294:=Tryz.func181.trans (by kernel_rfl),f295:=Tryz.func182.trans (by kernel_rfl),f296:=Tryz.func183.trans (by kernel_rfl),f297:=Tryz.func184.trans (by kernel_rfl),f298:=Tryz.func185.trans (by kernel_rfl),f299:=Tryz.func186.trans (by kernel_rfl),f300:=Tryz.func187.trans (by kernel_rfl),f301:=Tryz.func188.trans (by kernel_rfl),f328:=Tryz.func192.trans (by kernel_rfl),f329:=Tryz.func193.trans (by kernel_rfl),f330:=Tryz.func194.trans (by kernel_rfl),f331:=Tryz.func195.trans (by kernel_rfl),f332:=Tryz.func196.trans (by kernel_rfl),f343:=Tryz.func198.trans (by kernel_rfl),t0:=Tryz.underlying0,a0:=Tryz.isAgg0,z0:=Tryz.sizeOf0,v0:=Tryz.zeroValue0,t3:=Tryz.underlying3,a3:=Tryz.isAgg3,z3:=Tryz.sizeOf3,v3:=Tryz.zeroValue3,t4:=Tryz.underlying4,a4:=Tryz.isAgg4,z4:=Tryz.sizeOf4,v4:=Tryz.zeroValue4,t5:=Tryz.underlying5,a5:=Tryz.isAgg5,z5:=Tryz.sizeOf5,v5:=Tryz.zeroValue5,t9:=Tryz.underlying9,a9:=Tryz.isAgg9,z9:=Tryz.sizeOf9,v9:=Tryz.zeroValue9,t28:=Tryz.underlying24,a28:=Tryz.isAgg24,z28:=Tryz.sizeOf24,v28:=Tryz.zeroValue24,t46:=Tryz.underlying162,a46:=Tryz.isAgg162,z46:=Tryz.sizeOf162,v46:=Tryz.zeroValue162,t51:=Tryz.underlying161,a51:=Tryz.isAgg161,z51:=Tryz.sizeOf161,v51:=Tryz.zeroValue161,t53:=Tryz.underlying107,a53:=Tryz.isAgg107,z53:=Tryz.sizeOf107,v53:=Tryz.zeroValue107,t131:=Tryz.underlying142,a131:=Tryz.isAgg142,z131:=Tryz.sizeOf142,v131:=Tryz.zeroValue142,t182:=Tryz.underlying230,a182:=Tryz.isAgg230,z182:=Tryz.sizeOf230,v182:=Tryz.zeroValue230,t183:=Tryz.underlying231,a183:=Tryz.isAgg231,z183:=Tryz.sizeOf231,v183:=Tryz.zeroValue231,t218:=Tryz.underlying238,a218:=Tryz.isAgg238,z218:=Tryz.sizeOf238,v218:=Tryz.zeroValue238,t222:=Tryz.underlying242,a222:=Tryz.isAgg242,z222:=Tryz.sizeOf242,v222:=Tryz.zeroValue242,t228:=Tryz.underlying244,a228:=Tryz.isAgg244,z228:=Tryz.sizeOf244,v228:=Tryz.zeroValue244,t229:=Tryz.underlying122,a229:=Tryz.isAgg122,z229:=Tryz.sizeOf122,v229:=Tryz.zeroValue122}
theorem Tryz.layC:SlLaysE0.n41 Tryz.prog Tryz.layC_ren:={mixed:=by kernel_rfl,f41:=⟨Tryz.f77.name,by decide,Tryz.func77.trans (by kernel_rfl)⟩,t4:=Tryz.underlying4,a4:=Tryz.isAgg4,z4:=Tryz.sizeOf4,v4:=Tryz.zeroValue4,t22:=Tryz.underlying24,a22:=Tryz.isAgg24,z22:=Tryz.sizeOf24,v22:=Tryz.zeroValue24}
theorem Tryz.layD:SlLaysE.n45 Tryz.prog Tryz.layD_ren:={mixed:=by kernel_rfl,f45:=⟨Tryz.f155.name,by decide,Tryz.func155.trans (by kernel_rfl)⟩,t0:=Tryz.underlying0,a0:=Tryz.isAgg0,z0:=Tryz.sizeOf0,v0:=Tryz.zeroValue0,t3:=Tryz.underlying3,a3:=Tryz.isAgg3,z3:=Tryz.sizeOf3,v3:=Tryz.zeroValue3,t4:=Tryz.underlying4,a4:=Tryz.isAgg4,z4:=Tryz.sizeOf4,v4:=Tryz.zeroValue4,t22:=Tryz.underlying24,a22:=Tryz.isAgg24,z22:=Tryz.sizeOf24,v22:=Tryz.zeroValue24,a23:=Tryz.isAgg3,z23:=Tryz.sizeOf3}
end Go.Proofs
namespace Go.Proofs
open Go.Shelf Go.RowKit Go.Lib
theorem Ym {P:Program} {ρ:Ren} (L:SlLaysE0.n41 P ρ) (i0:TypeInfo) (z:Value) (size bytes:Nat) (hi:P.info? (ρ.t 23)=some i0) (hz0:i0.zero=some z) (hz1:i0.size=size) (hz2:i0.bytes=bytes) (hzs:z.cells.size=size) (hsz:0<size)
  (z23:∀w,(Go.sizeOf (ρ.t 23)).run P w= .ok size w) (p:Addr) (n c:Nat) (news:List Value) (w:World) (hl:news.length=n*size) (hn:n≤maxLen) (hbig:n*bytes≤140737488355328)
  (hc:∀j u,news[j]?=some u→w.cell? (p.add j)=some u) (h1:∀u∈news,u.oneCell'=true):
  Calls P (ρ.f 41) #[.slice (some p) n c] w fun e w'=>∃v',e= .returned v'∧w'.ownsRow w.heap.size (ρ.t 23) size v' n news∧v'≠ .slice none 0 0∧Below w.heap.size w w':=by
 have mixed:=L.mixed;have t4:=L.t4;have a4:=L.a4;have z4:=L.z4;have v4:=L.v4;have t22:=L.t22;have a22:=L.a22;have z22:=L.z22;have v22:=L.v22
 have q22:∀(w:World) (a:Option Addr) (n c n' c':Nat),(binOp .eql (ρ.t 22) (.slice a n c) (.slice none n' c')).run P w= .ok (.bool a.isNone) w:=fun w a n c n' c'=>Lib.run_eql_slice_nil w _ _ a n c n' c' L.t22
 have u22:∀w,Sem.run P (underlying (ρ.t 22)) w= .ok (TypeDesc.slice (ρ.t 23)) w:=run_underlying t22
 have A:Aside (∀j u,news[j]?=some u→w.cell? (p.add j)=some u):=hc
 clear hc
 obtain⟨_,_,FG⟩:=L.f41
 go_enter FG,SlBodyN.n41_ntmps ρ
 go_wp2_with (at_builtin;refine wpList_append_own _ rfl _ _ (ρ.t 22) rfl w.heap.size (ρ.t 23) i0 z size bytes t22 hi hz0 hz1 hz2 hzs hsz _ _ _ rfl (World.ownsRow_made w #[] 0 (Nat.le_refl _) (Nat.zero_le _) (by simp)) p n c news rfl ?qc1 ?qc2 ?qc3 ?qc4 ?qc5 ?qc6 ?_)
 case qc1=>exact hl
 case qc2=>
  intro j u hj
  exact Lib.cell?_alloc_some _ (A.out j u hj)
 case qc3=>exact h1
 case qc4=>rw[Nat.zero_add];exact hn
 case qc5=>rw[Nat.zero_add];exact hbig
 case qc6=>simp
 intro v' w1 hown hgrow hnil
 go_wp2
 go_ret
 refine⟨v',rfl,by simpa using hown,?_,?_⟩
 ·exact hnil
 ·exact((Below.refl _ w).alloc (Nat.le_refl _) _).grown hgrow (by simp) (by intro k hk;simp[Value.ownBlock] at hk;omega)
end Go.Proofs
namespace Go.Vi
open Go.Proofs.YtgejbpobaicgfaaGreat.Ir
open Go.Proofs
theorem zO (l:List Int):bn (.i .i64) l=l.map fun x=>AV.sc (.int .i64 x):=by
 unfold bn
 induction l with
 |nil=>rfl
 |cons x l ih=>rw[List.flatMap_cons,ih];rfl
theorem Yn {A:bG} {w:World} {l:List Int} {vs:List Value} {fid:FuncId} (Yo:fid=Tryz.layC_ren.f 41) (hS:aU A w [] []) (hl:l.length≤1000000) (hR:aA A w [] [] [.sl l.length (l.map fun x=>AV.sc (.int .i64 x))] vs):
  Calls Tryz.prog fid vs.toArray w fun e w'=>RowKit.Below w.heap.size w w'∧((e= .returned (.slice none 0 0)∧l=[])∨∃g cap cur,e= .returned (.slice (some ⟨g,0,none⟩) l.length cap)∧w.heap.size≤g∧w'.heap[g]?=some (.cells cur 3 (0,0))∧l.length≤cap∧cap≤maxLen∧cur.size=cap∧cur.toList.take l.length=l.map (Value.int .i64)):=by
 subst Yo
 simp only[aA] at hR
 obtain⟨v,r,rfl,hv,rfl⟩:=hR
 simp only[aj] at hv
 obtain⟨a,cap,rfl,hcap,_,hM⟩:=hv
 cases a with
 |none=>
  have hnil:l=[]:=by
   cases l with
   |nil=>rfl
   |cons x l=>
    simp only[List.map_cons,bH] at hM
    obtain⟨⟨b,_,e,_⟩,_⟩:=hM
    cases e
  refine Calls.mono (AnyE.slices_Clone_nil Tryz.layC l.length cap w) ?_
  rintro e w' ⟨rfl,rfl⟩
  exact⟨RowKit.Below.refl _ _,.inl ⟨rfl,hnil⟩⟩
 |some p=>
  have hc:∀j u,(l.map (Value.int .i64))[j]?=some u→w.cell? (p.add j)=some u:=by
   intro j u hj
   rw[List.getElem?_map] at hj
   obtain⟨x,hx,rfl⟩:=Option.map_eq_some_iff.1 hj
   obtain⟨b,v,e,_,hcell,hrep⟩:=bH.get _ _ _ hM j (.sc (.int .i64 x)) (by simp[hx])
   injection e with e
   subst e
   simp only[aj] at hrep
   rw[Nat.zero_add,hrep.1] at hcell
   exact hcell
  refine Calls.mono (Ym Tryz.layC Tryz.t3 (.int .i64 0) 1 8 (by kernel_rfl) (by kernel_rfl) (by kernel_rfl) (by kernel_rfl) (by kernel_rfl) (by omega) Tryz.sizeOf3 p l.length cap (l.map (Value.int .i64)) w (by simp) (by have:maxLen=9223372036854775807:=rfl;omega) (by omega) hc (by simp[Value.oneCell'])) ?_
  rintro e w' ⟨v',rfl,hown,hne,hbel⟩
  refine⟨hbel,.inr ?_⟩
  obtain⟨_,h|⟨g,cap',cur,rfl,h1,h2,h3,h4,h5,h6⟩⟩:=hown
  ·exact absurd h.1 hne
  ·exact⟨g,cap',cur,rfl,h1,h2,h3,h4,by omega,by simpa using h6⟩
def zQ:bf:=⟨77,List Int,.one (bR (.i .i64)),fun l=>l.length≤1000000,fun l=> .row (.i .i64) l⟩
theorem h330:Holds Tryz.prog zQ:=by
 intro(l:List Int) (hl:l.length≤1000000)
 refine⟨by kernel_rfl,?_⟩
 intro A w σ vs hS hR
 have hσ:σ=[]:=by have:=hS.len;simpa using this
 subst hσ
 have e1:gL (zQ.A.put l)=[.sl l.length (l.map fun x=>AV.sc (.int .i64 x))]:=by rw[←zO];rfl
 have e2:(zQ.res l).g= .sl l.length (l.map fun x=>AV.sc (.int .i64 x)):=by rw[←zO];rfl
 rw[e1] at hR
 rw[e2]
 refine Calls.mono (Yn (by rfl) hS hl hR) ?_
 rintro e w' ⟨hb,h⟩
 have hS':aU A w' [] []:=⟨rfl,by simp,by simp,by simp,by simp,fun b h=>Nat.lt_of_lt_of_le (hS.gw b h) hb.size⟩
 have hE:Ext w [] [] w' [] []:=⟨hb.size,fun b h _=>⟨hb.block b h,fun⟨i,c,hi⟩=>by simp at hi⟩,Nat.le_refl _,fun _ _ ⟨_,_,_,_,h,_⟩=>by simp at h,fun _ ⟨_,_,_,h⟩=>by simp at h,hb.os,hb.tape,hb.output⟩
 rcases h with⟨rfl,rfl⟩|⟨g,cap,cur,rfl,h1,h2,h3,h4,h5,h6⟩
 ·exact⟨_,[],rfl,hS',by simp only[aj];exact⟨none,0,rfl,by simp,by rw[←zO];exact nG _ _,by simp[bH]⟩,hE⟩
 ·refine⟨_,[],rfl,hS',?_,hE⟩
  simp only[aj]
  refine⟨_,_,rfl,h3,by rw[←zO];exact nG _ _,bH.gv _ _ _ fun i c hi=>?_⟩
  rw[List.getElem?_map] at hi
  obtain⟨x,hx,rfl⟩:=Option.map_eq_some_iff.1 hi
  have hil:=(List.getElem?_eq_some_iff.1 hx).1
  have h9:(cur.toList.take l.length)[i]?=(l.map (Value.int .i64))[i]?:=by rw[h6]
  rw[List.getElem?_take_of_lt hil,Array.getElem?_toList,List.getElem?_map,hx] at h9
  refine⟨⟨g,0,none⟩,.int .i64 x,rfl,⟨fun⟨i,c,hi⟩=>by simp at hi,fun hA=>by have:=hS.gw g hA;omega⟩,?_,by simp[aj,Value.oneCell']⟩
  rw[Addr.add_lit]
  simp only[World.cell?,h2,Nat.zero_add,Option.isSome_none,Bool.false_eq_true,if_false]
  exact h9
theorem Ew {p:aE} (hc:bw p=0) {r:Int}:0≤b9 p r∧b9 p r≤4:=by
 obtain⟨_,_,g3,g4,_⟩:=i6 hc
 unfold b9
 split
 ·omega
 ·split
  ·exact zb g3 _
  ·exact zb g4 _
def wed (c:Nat→Rat):(List Nat→Rat)→List Nat→Rat
 |_,[]=>0
 |f,i::R=>c i*f R - wed c (fun l=>f (i::l)) R
theorem Ey {c:Nat→Rat}:∀{R:List Nat},wed c (fun _=>0) R=0
 |[]=>rfl
 |i::R=>by simp only[wed,Ey];grind
theorem Ez {c:Nat→Rat} {p q:Rat}:∀{R:List Nat} {f g:List Nat→Rat},wed c (fun l=>p*f l+q*g l) R=p*wed c f R+q*wed c g R
 |[],_,_=>by simp only[wed];grind
 |i::R,f,g=>by
  simp only[wed,@Ez c p q R]
  grind
theorem KV {c d:Nat→Rat} {p q:Rat}:∀{R:List Nat} {f:List Nat→Rat},wed (fun i=>p*c i+q*d i) f R=p*wed c f R+q*wed d f R
 |[],_=>by simp only[wed];grind
 |i::R,f=>by
  simp only[wed,@KV c d p q R]
  grind
theorem KW {c:Nat→Rat} {p:Rat} {R:List Nat} {f g:List Nat→Rat}:wed c (fun l=>p*f l - g l) R=p*wed c f R - wed c g R:=by
 have:=@Ez c p (-1) R f g
 rw[show p*wed c f R - wed c g R=p*wed c f R+ -1*wed c g R by grind,←this]
 congr 1
 funext l
 grind
theorem EA {a b:Nat→Rat}:∀{R:List Nat} {f:List Nat→Rat},wed a (wed b f) R= - wed b (wed a f) R
 |[],_=>by simp only[wed];grind
 |i::R,f=>by
  have e1:wed a (fun l=>wed b f (i::l)) R=b i*wed a f R - wed a (wed b fun l=>f (i::l)) R:=KW
  have e2:wed b (fun l=>wed a f (i::l)) R=a i*wed b f R - wed b (wed a fun l=>f (i::l)) R:=KW
  have h:=@EA a b R fun l=>f (i::l)
  show a i*wed b f R - wed a (fun l=>wed b f (i::l)) R= -(b i*wed a f R - wed b (fun l=>wed a f (i::l)) R)
  rw[e1,e2,h]
  grind
theorem Yp {a:Nat→Rat} {f:List Nat→Rat}:wed a (wed a f)=fun _=>0:=by
 funext R
 have:=@EA a a R f
 grind
def sB (R:List Nat):Rat:=if R=[] then 1 else 0
def fq (cs:List (Nat→Rat)):List Nat→Rat:=cs.foldr wed sB
theorem KX {c:Nat→Rat} {cs:List (Nat→Rat)}:fq (c::cs)=wed c (fq cs):=rfl
theorem KY {a:Nat→Rat}:∀{cs:List (Nat→Rat)} {f:List Nat→Rat},wed a (cs.foldr wed (wed a f))=fun _=>0
 |[],f=>Yp
 |c::cs,f=>by
  funext R
  simp only[List.foldr_cons]
  rw[EA,@KY a cs f,Ey]
  rfl
theorem fold_zero:∀{cs:List (Nat→Rat)},cs.foldr wed (fun _=>0)=fun _=>0
 |[]=>rfl
 |c::cs=>by
  rw[List.foldr_cons,fold_zero]
  funext R
  exact Ey
theorem KZ {a:Nat→Rat} {p m q:List (Nat→Rat)}:fq (p++a::(m++a::q))=fun _=>0:=by
 unfold fq
 rw[List.foldr_append,List.foldr_cons,List.foldr_append,List.foldr_cons,KY,fold_zero]
theorem K0 {p q:Rat}:∀{cs:List (Nat→Rat)} {f g:List Nat→Rat} {R:List Nat},cs.foldr wed (fun l=>p*f l+q*g l) R=p*cs.foldr wed f R+q*cs.foldr wed g R
 |[],_,_,_=>rfl
 |c::cs,f,g,R=>by
  simp only[List.foldr_cons]
  rw[←Ez]
  congr 1
  funext l
  exact K0
theorem K1 {c d:Nat→Rat} {p q:Rat} {a b:List (Nat→Rat)} {R:List Nat}:fq (a++(fun i=>p*c i+q*d i)::b) R=p*fq (a++c::b) R+q*fq (a++d::b) R:=by
 unfold fq
 simp only[List.foldr_append,List.foldr_cons]
 rw[←K0]
 have e:wed (fun i=>p*c i+q*d i) (List.foldr wed sB b)=fun l=>p*wed c (List.foldr wed sB b) l+q*wed d (List.foldr wed sB b) l:=by
  funext l
  exact KV
 rw[e]
def cV (M:Nat) (q:Rat):Prop:=∃z:Int,q=(z:Rat)∧z.natAbs≤M
theorem K2 {c:Nat→Rat} {M K:Nat}:∀{R:List Nat} {f:List Nat→Rat},(∀i∈R,cV M (c i))→(∀l,l.length+1=R.length→(∀i∈l,i∈R)→cV K (f l))→cV (R.length*(M*K)) (wed c f R)
 |[],_,_,_=>⟨0,by simp[wed],by simp⟩
 |i::R,f,hc,hf=>by
  simp only[wed,List.length_cons]
  obtain⟨y,h1,h1'⟩:=@K2 c M K R (fun l=>f (i::l)) (fun j hj=>hc j (by simp[hj])) fun l hl hs=>hf _ (by simp only[List.length_cons];omega) fun j hj=>by
   rcases List.mem_cons.1 hj with rfl|hj
   ·simp
   ·simp[hs j hj]
  obtain⟨u,h2,h2'⟩:=hc i (by simp)
  obtain⟨v,h3,h3'⟩:=hf R (by simp) fun j hj=>by simp[hj]
  refine⟨u*v - y,?_,?_⟩
  ·rw[h1,h2,h3,Rat.intCast_sub,Rat.intCast_mul]
  ·have h4:(u*v).natAbs≤M*K:=by
    rw[Int.natAbs_mul]
    exact Nat.mul_le_mul h2' h3'
   rw[Nat.succ_mul]
   omega
def je (M:Nat):Nat→Nat
 |0=>1
 |n+1=>(n+1)*(M*je M n)
theorem zR {M:Nat}:∀{cs:List (Nat→Rat)} {R:List Nat},cs.length=R.length→(∀c∈cs,∀i∈R,cV M (c i))→cV (je M R.length) (fq cs R)
 |[],R,hl,_=>by
  have:R=[]:=List.eq_nil_of_length_eq_zero (by simpa using hl.symm)
  subst this
  exact⟨1,by simp[fq,sB],by simp[je]⟩
 |c::cs,R,hl,hc=>by
  rw[KX]
  cases R with
  |nil=>simp at hl
  |cons i R=>
   simp only[List.length_cons,je]
   refine K2 (hc c (by simp)) fun l hl2 hs=>?_
   simp only[List.length_cons] at hl hl2
   rw[show R.length=l.length by omega]
   exact zR (by omega) fun d hd j hj=>hc d (by simp[hd]) j (hs j hj)
def sC (k:Nat):Nat→Rat:=fun i=>if i=k then 1 else 0
theorem K3 {c:Nat→Rat}:∀{R:List Nat} {f:List Nat→Rat},(∀i∈R,c i=0)→wed c f R=0
 |[],_,_=>rfl
 |i::R,f,h=>by
  simp only[wed]
  rw[h i (by simp),K3 fun j hj=>h j (by simp[hj])]
  grind
theorem K4:∀{R:List Nat},R.Nodup→fq (R.map sC) R=1
 |[],_=>by simp[fq,sB]
 |i::R,h=>by
  rw[List.nodup_cons] at h
  rw[List.map_cons,KX]
  simp only[wed]
  rw[K3 (c:=sC i) (R:=R) fun j hj=>by
   unfold sC
   rw[if_neg]
   rintro rfl
   exact h.1 hj]
  rw[K4 h.2]
  unfold sC
  rw[if_pos rfl]
  grind
def bi (n:Nat) (f:Nat→Rat):Rat:=match n with
 |0=>0
 |n+1=>bi n f+f n
theorem cy:∀{n:Nat} {f g:Nat→Rat},(∀i,i<n→f i=g i)→bi n f=bi n g
 |0,_,_,_=>rfl
 |n+1,f,g,h=>by simp only[bi];rw[cy fun i hi=>h i (by omega),h n (by omega)]
theorem uH:∀{n:Nat} {f g:Nat→Rat},bi n (fun i=>f i+g i)=bi n f+bi n g
 |0,_,_=>by simp only[bi];grind
 |n+1,f,g=>by simp only[bi];rw[uH];grind
theorem uI {c:Rat}:∀{n:Nat} {f:Nat→Rat},bi n (fun i=>c*f i)=c*bi n f
 |0,_=>by simp only[bi];grind
 |n+1,f=>by simp only[bi];rw[uI];grind
theorem gk:∀{n:Nat},bi n (fun _=>0)=0
 |0=>rfl
 |n+1=>by simp only[bi];rw[gk];grind
theorem qj {k:Nat} {x:Rat}:∀{n:Nat},bi n (fun i=>if i=k then x else 0)=if k<n then x else 0
 |0=>by simp[bi]
 |n+1=>by
  simp only[bi]
  rw[qj]
  by_cases h:n=k
  ·subst h;rw[if_neg (by omega),if_pos rfl,if_pos (by omega)];grind
  ·rw[if_neg h]
   by_cases h2:k<n
   ·rw[if_pos h2,if_pos (by omega)];grind
   ·rw[if_neg h2,if_neg (by omega)];grind
theorem zS {n k:Nat} {f:Nat→Rat} (h:k<n):bi n f=f k+bi n fun i=>if i=k then 0 else f i:=by
 have h1:=@qj k (f k) n
 rw[if_pos h] at h1
 rw[←h1,←uH]
 refine cy fun i _=>?_
 split
 ·rename_i h;subst h;grind
 ·grind
theorem K5 {a b:List (Nat→Rat)} {R:List Nat} {y:Nat→Rat} {T:Nat→Nat→Rat}:∀{n:Nat},fq (a++(fun i=>bi n fun k=>y k*T k i)::b) R=bi n fun k=>y k*fq (a++T k::b) R
 |0=>by
  have e:(fun i:Nat=>bi 0 fun k=>y k*T k i)=fun i=>(0:Rat)*(fun _=>0) i+0*(fun _=>0) i:=by funext i;simp only[bi];grind
  rw[e,K1]
  simp only[bi]
  grind
 |n+1=>by
  have e:(fun i:Nat=>bi (n+1) fun k=>y k*T k i)=fun i=>(1:Rat)*(fun i=>bi n fun k=>y k*T k i) i+y n*T n i:=by
   funext i
   simp only[bi]
   grind
  rw[e,K1,K5]
  simp only[bi]
  grind
theorem Yq {C:List (Nat→Rat)} {R:List Nat} {y:Nat→Rat} {r:Nat} (hr:r<C.length):fq (C.set r (fun i=>bi C.length fun k=>y k*(C.getD k (fun _=>0)) i)) R=y r*fq C R:=by
 have split:∀c:Nat→Rat,C.set r c=C.take r++c::C.drop (r+1):=fun c=>by rw[List.set_eq_take_append_cons_drop,if_pos hr]
 rw[split,K5,zS hr]
 have h1:∀k,k<C.length→(if k=r then(0:Rat) else y k*fq (C.take r++C.getD k (fun _=>0)::C.drop (r+1)) R)=0:=by
  intro k hk
  split
  ·rfl
  ·rename_i hkr
   have hz:fq (C.take r++C.getD k (fun _=>0)::C.drop (r+1)) R=0:=by
    have hg:C.getD k (fun _=>0)=C[k]:=by simp[List.getD,hk]
    rw[hg]
    rcases Nat.lt_or_gt_of_ne hkr with h|h
    ·have e1:C.take r=C.take k++C[k]::(C.drop (k+1)).take (r - (k+1)):=by
      have h2:C[k]::C.drop (k+1)=C.drop k:=List.getElem_cons_drop hk
      obtain⟨d,rfl⟩:∃d,r=k+(d+1):=⟨r - (k+1),by omega⟩
      rw[List.take_add,←h2,List.take_succ_cons,show k+(d+1) - (k+1)=d by omega]
     rw[e1,List.append_assoc,List.cons_append,KZ]
    ·have e1:C.drop (r+1)=(C.drop (r+1)).take (k - (r+1))++C[k]::C.drop (k+1):=by
      have h2:C[k]::C.drop (k+1)=C.drop k:=List.getElem_cons_drop hk
      rw[h2]
      have h3:=List.take_append_drop (k - (r+1)) (C.drop (r+1))
      rw[List.drop_drop,show r+1+(k - (r+1))=k by omega] at h3
      exact h3.symm
     rw[e1,KZ]
   rw[hz]
   grind
 rw[cy h1,gk]
 have h2:C.take r++C.getD r (fun _=>0)::C.drop (r+1)=C:=by
  have hg:C.getD r (fun _=>0)=C[r]:=by simp[List.getD,hr]
  rw[hg,List.getElem_cons_drop hr,List.take_append_drop]
 rw[h2]
 grind
structure Tb where
 a7:List (List Rat)
 bound:List Rat
 cost:List Rat
 value:Rat
 basic:List Int
 free:List Int
namespace Tb
def cf (t:Tb) (i j:Nat):Rat:=ae (ae t.a7 i []) j 0
def bd (t:Tb) (i:Nat):Rat:=ae t.bound i 0
def cs (t:Tb) (j:Nat):Rat:=ae t.cost j 0
def bv (t:Tb) (i:Nat):Int:=ae t.basic i 0
def fv (t:Tb) (j:Nat):Int:=ae t.free j 0
structure WF (n m:Nat) (t:Tb):Prop where
 a7:t.a7.length=m
 row:∀i,i<m→(ae t.a7 i []).length=n
 bound:t.bound.length=m
 cost:t.cost.length=n
 basic:t.basic.length=m
 free:t.free.length=n
def holds (n m:Nat) (t:Tb) (x:Int→Rat) (z:Rat):Prop:=
 (∀i,i<m→x (t.bv i)+bi n (fun j=>t.cf i j*x (t.fv j))=t.bd i)∧z=t.value+bi n fun j=>t.cs j*x (t.fv j)
end Tb
def fy (l:List Rat) (c:Nat) (p:List Rat):List Rat:=(List.range l.length).map fun j=>if j=c then -(ae l c 0*ae p j 0) else ae l j 0 - ae l c 0*ae p j 0
def fR (l:List Rat) (c:Nat):List Rat:=(List.range l.length).map fun j=>if j=c then 1 / ae l c 0 else ae l j 0*(1 / ae l c 0)
def dB (t:Tb) (r c:Nat):Tb where
 a7:=(List.range t.a7.length).map fun i=>if i=r then fR (ae t.a7 r []) c else fy (ae t.a7 i []) c (fR (ae t.a7 r []) c)
 bound:=(List.range t.bound.length).map fun i=>if i=r then t.bd r*(1 / t.cf r c) else t.bd i - t.cf i c*(t.bd r*(1 / t.cf r c))
 cost:=fy t.cost c (fR (ae t.a7 r []) c)
 value:=t.value+t.cs c*(t.bd r*(1 / t.cf r c))
 basic:=t.basic.set r (t.fv c)
 free:=t.free.set c (t.bv r)
theorem lY {α:Type} {f:Nat→α} {n i:Nat} {d:α} (h:i<n):ae ((List.range n).map f) i d=f i:=by
 rw[bF (by simpa using h)]
 simp
theorem zT {α:Type} {l:List α} {r i:Nat} {x d:α} (h:r<l.length):ae (l.set r x) i d=if i=r then x else ae l i d:=by
 unfold ae
 rw[List.getElem?_set]
 by_cases hi:r=i
 ·subst hi;simp[h]
 ·rw[if_neg hi,if_neg (fun h=>hi h.symm)]
section
variable {n m:Nat} {t:Tb} {r c:Nat}
theorem K6 {l:List Rat}:(fR l c).length=l.length:=by simp[fR]
theorem zU {l p:List Rat}:(fy l c p).length=l.length:=by simp[fy]
theorem EB {l:List Rat} {j:Nat} (h:j<l.length):ae (fR l c) j 0=if j=c then 1 / ae l c 0 else ae l j 0*(1 / ae l c 0):=lY h
theorem zV {l p:List Rat} {j:Nat} (h:j<l.length):ae (fy l c p) j 0=if j=c then -(ae l c 0*ae p j 0) else ae l j 0 - ae l c 0*ae p j 0:=lY h
theorem K7 (h:t.WF n m):(dB t r c).WF n m where
 a7:=by simp[dB,h.a7]
 row i hi:=by
  simp only[dB]
  rw[lY (by rw[h.a7];exact hi)]
  split
  ·rename_i e;subst e;rw[K6,h.row _ hi]
  ·rw[zU,h.row _ hi]
 bound:=by simp[dB,h.bound]
 cost:=by simp only[dB];rw[zU,h.cost]
 basic:=by simp[dB,h.basic]
 free:=by simp[dB,h.free]
theorem uJ (h:t.WF n m) (hr:r<m) (hc:c<n) {i j:Nat} (hi:i<m) (hj:j<n):(dB t r c).cf i j=
  if i=r then(if j=c then 1 / t.cf r c else t.cf r j*(1 / t.cf r c)) else if j=c then -(t.cf i c*(1 / t.cf r c)) else t.cf i j - t.cf i c*(t.cf r j*(1 / t.cf r c)):=by
 unfold Tb.cf
 simp only[dB]
 rw[lY (by rw[h.a7];exact hi)]
 split
 ·rw[EB (by rw[h.row _ hr];exact hj)]
 ·rw[zV (by rw[h.row _ hi];exact hj)]
  rw[EB (by rw[h.row _ hr];exact hj)]
  split
  ·rfl
  ·rfl
theorem zW (h:t.WF n m) {i:Nat} (hi:i<m):(dB t r c).bd i=if i=r then t.bd r*(1 / t.cf r c) else t.bd i - t.cf i c*(t.bd r*(1 / t.cf r c)):=by
 show ae _ i 0=_
 simp only[dB]
 rw[lY (by rw[h.bound];exact hi)]
theorem K8 (h:t.WF n m) (hr:r<m) {j:Nat} (hj:j<n):(dB t r c).cs j=if j=c then -(t.cs c*(1 / t.cf r c)) else t.cs j - t.cs c*(t.cf r j*(1 / t.cf r c)):=by
 show ae _ j 0=_
 simp only[dB]
 rw[zV (by rw[h.cost];exact hj),EB (by rw[h.row _ hr];exact hj)]
 split
 ·rfl
 ·rfl
theorem EC (h:t.WF n m) (hr:r<m) {i:Nat}:(dB t r c).bv i=if i=r then t.fv c else t.bv i:=zT (by rw[h.basic];exact hr)
theorem ED (h:t.WF n m) (hc:c<n) {j:Nat}:(dB t r c).fv j=if j=c then t.bv r else t.fv j:=zT (by rw[h.free];exact hc)
theorem piv_holds (h:t.WF n m) (hr:r<m) (hc:c<n) (ha:t.cf r c≠0) {x:Int→Rat} {z:Rat}:(dB t r c).holds n m x z↔t.holds n m x z:=by
 have old:∀f:Nat→Rat,bi n (fun j=>f j*x (t.fv j))=f c*x (t.fv c)+bi n (fun j=>if j=c then 0 else f j*x (t.fv j)):=fun f=>zS hc
 have new:∀f:Nat→Rat,bi n (fun j=>f j*x ((dB t r c).fv j))=f c*x (t.bv r)+bi n (fun j=>if j=c then 0 else f j*x (t.fv j)):=fun f=>by
  rw[zS hc,ED h hc,if_pos rfl]
  congr 1
  refine cy fun j _=>?_
  split
  ·rfl
  ·rename_i hj;rw[ED h hc,if_neg hj]
 have er:bi n (fun j=>if j=c then 0 else(dB t r c).cf r j*x (t.fv j))=(1 / t.cf r c)*bi n (fun j=>if j=c then 0 else t.cf r j*x (t.fv j)):=by
  rw[←uI]
  refine cy fun j hj=>?_
  split
  ·grind
  ·rename_i hjc
   rw[uJ h hr hc hr hj,if_pos rfl,if_neg hjc]
   grind
 have ei:∀f g:Nat→Rat,∀q:Rat,(∀j,j<n→j≠c→g j=f j - q*(t.cf r j*(1 / t.cf r c)))→bi n (fun j=>if j=c then 0 else g j*x (t.fv j))=bi n (fun j=>if j=c then 0 else f j*x (t.fv j))+(-(q*(1 / t.cf r c)))*bi n (fun j=>if j=c then 0 else t.cf r j*x (t.fv j)):=fun f g q hg=>by
  rw[←uI,←uH]
  refine cy fun j hj=>?_
  split
  ·grind
  ·rename_i hjc
   rw[hg j hj hjc]
   grind
 have hz:∀j,j<n→j≠c→(dB t r c).cs j=t.cs j - t.cs c*(t.cf r j*(1 / t.cf r c)):=fun j hj hjc=>by rw[K8 h hr hj,if_neg hjc]
 have hfi:∀i,i<m→i≠r→∀j,j<n→j≠c→(dB t r c).cf i j=t.cf i j - t.cf i c*(t.cf r j*(1 / t.cf r c)):=fun i hi hir j hj hjc=>by rw[uJ h hr hc hi hj,if_neg hir,if_neg hjc]
 have kz:=ei t.cs _ _ hz
 have EE:=K8 (c:=c) h hr hc
 rw[if_pos rfl] at EE
 have EF:=uJ h hr hc hr hc
 rw[if_pos rfl,if_pos rfl] at EF
 have EG:=zW (r:=r) (c:=c) h hr
 rw[if_pos rfl] at EG
 have EH:=EC (c:=c) (i:=r) h hr
 rw[if_pos rfl] at EH
 have qv:(dB t r c).value=t.value+t.cs c*(t.bd r*(1 / t.cf r c)):=rfl
 unfold Tb.holds
 constructor
 ·rintro⟨h1,h2⟩
  have h3:=h1 r hr
  rw[new,er,EF,EH,EG] at h3
  refine⟨fun i hi=>?_,?_⟩
  ·by_cases hir:i=r
   ·subst hir
    rw[old]
    grind
   ·have h4:=h1 i hi
    have e1:=uJ h hr hc hi hc
    rw[if_neg hir,if_pos rfl] at e1
    rw[new,ei _ _ _ (hfi i hi hir),EC h hr,if_neg hir,zW h hi,if_neg hir,e1] at h4
    rw[old]
    grind
  ·rw[new,kz,EE,qv] at h2
   rw[old]
   grind
 ·rintro⟨h1,h2⟩
  have h3:=h1 r hr
  rw[old] at h3
  refine⟨fun i hi=>?_,?_⟩
  ·by_cases hir:i=r
   ·subst hir
    rw[new,er,EF,EH,EG]
    grind
   ·have h4:=h1 i hi
    have e1:=uJ h hr hc hi hc
    rw[if_neg hir,if_pos rfl] at e1
    rw[new,ei _ _ _ (hfi i hi hir),EC h hr,if_neg hir,zW h hi,if_neg hir,e1]
    rw[old] at h4
    grind
  ·rw[new,kz,EE,qv]
   rw[old] at h2
   grind
end
def jC (f:Int→Rat):List Int→Rat
 |[]=>0
 |x::l=>f x+jC f l
theorem EI {f:Int→Rat}:∀{l k:List Int},jC f (l++k)=jC f l+jC f k
 |[],k=>by simp only[List.nil_append,jC];grind
 |x::l,k=>by simp only[List.cons_append,jC,@EI f l k];grind
theorem K9 {f:Int→Rat} {l k:List Int} (h:l.Perm k):jC f l=jC f k:=by
 induction h with
 |nil=>rfl
 |cons x _ ih=>simp only[jC,ih]
 |swap x y l=>simp only[jC];grind
 |trans _ _ a b=>exact a.trans b
theorem La:∀{n:Nat} {f:Nat→Rat},bi (n+1) f=f 0+bi n fun i=>f (i+1)
 |0,f=>by simp only[bi];grind
 |n+1,f=>by
  rw[bi,La]
  simp only[bi]
  grind
theorem uK {f:Int→Rat}:∀{l:List Int},jC f l=bi l.length fun k=>f (ae l k 0)
 |[]=>rfl
 |x::l=>by
  rw[List.length_cons,La,jC,uK]
  rfl
def dG (n:Nat) (t:Tb) (y:Nat→Rat) (v:Int):Rat:=if v∈t.free then y (t.free.idxOf v) else t.bd (t.basic.idxOf v) - bi n fun j=>t.cf (t.basic.idxOf v) j*y j
section
variable {n m:Nat} {t t0:Tb} {r c:Nat}
theorem lp {l:List Int} {i:Nat} (h:l.Nodup) (hi:i<l.length):l.idxOf (ae l i 0)=i:=by
 rw[bF hi]
 exact h.idxOf_getElem i hi
theorem kE (h:t.WF n m) (hn:(t.basic++t.free).Nodup) {y:Nat→Rat} {j:Nat} (hj:j<n):dG n t y (t.fv j)=y j:=by
 have hl:j<t.free.length:=by rw[h.free];exact hj
 unfold dG Tb.fv
 rw[if_pos (by rw[bF hl];exact List.getElem_mem hl),lp (List.nodup_append.1 hn).2.1 hl]
theorem zY (h:t.WF n m) (hn:(t.basic++t.free).Nodup) {i:Nat} (hi:i<m):t.bv i∉t.free:=fun hf=>by
 have hl:i<t.basic.length:=by rw[h.basic];exact hi
 unfold Tb.bv at hf
 rw[bF hl] at hf
 exact(List.nodup_append.1 hn).2.2 _ (List.getElem_mem hl) _ hf rfl
theorem lq (h:t.WF n m) (hn:(t.basic++t.free).Nodup) {y:Nat→Rat} {i:Nat} (hi:i<m):dG n t y (t.bv i)=t.bd i - bi n fun j=>t.cf i j*y j:=by
 have hl:i<t.basic.length:=by rw[h.basic];exact hi
 have e:t.basic.idxOf (t.bv i)=i:=lp (List.nodup_append.1 hn).1 hl
 unfold dG
 rw[if_neg (zY h hn hi),e]
theorem asg_holds (h:t.WF n m) (hn:(t.basic++t.free).Nodup) {y:Nat→Rat}:t.holds n m (dG n t y) (t.value+bi n fun j=>t.cs j*y j):=by
 have e:∀f:Nat→Rat,bi n (fun j=>f j*dG n t y (t.fv j))=bi n fun j=>f j*y j:=fun f=>cy fun j hj=>by rw[kE h hn hj]
 refine⟨fun i hi=>?_,?_⟩
 ·rw[lq h hn hi,e]
  grind
 ·rw[e]
def dC (m:Nat) (t0:Tb) (v:Int) (i:Nat):Rat:=if i<m then(if v∈t0.free then t0.cf i (t0.free.idxOf v) else if t0.basic.idxOf v=i then 1 else 0) else 0
def sD (m:Nat) (t0:Tb) (i:Nat):Rat:=if i<m then t0.bd i else 0
def eS (m:Nat) (t0 t:Tb):Rat:=fq (t.basic.map (dC m t0)) (List.range m)
structure Run (n m:Nat) (t0 t:Tb):Prop where
 jD:t0.WF n m
 wf:t.WF n m
 nd:(t0.basic++t0.free).Nodup
 perm:(t.basic++t.free).Perm (t0.basic++t0.free)
 jY:∀x z,t.holds n m x z↔t0.holds n m x z
 dt:eS m t0 t≠0
theorem Run.eC (h:Run n m t0 t):(t.basic++t.free).Nodup:=h.perm.symm.nodup h.nd
theorem Run.refl (h:t0.WF n m) (hn:(t0.basic++t0.free).Nodup):Run n m t0 t0:=by
 refine⟨h,h,hn,List.Perm.refl _,fun _ _=>Iff.rfl,?_⟩
 have e:t0.basic.map (dC m t0)=(List.range m).map sC:=by
  refine List.ext_getElem (by simp[h.basic]) fun i h1 h2=>?_
  simp only[List.getElem_map,List.getElem_range]
  have hi:i<m:=by simpa using h2
  have hb:t0.basic[i]'(by simpa using h1)=t0.bv i:=by unfold Tb.bv;rw[bF (by simpa using h1)]
  rw[hb]
  funext k
  have e2:t0.basic.idxOf (t0.bv i)=i:=lp (List.nodup_append.1 hn).1 (by simpa using h1)
  unfold dC sC
  rw[if_neg (zY h hn hi),e2]
  by_cases hk:k<m
  ·rw[if_pos hk]
   by_cases hik:i=k
   ·rw[if_pos hik,if_pos hik.symm]
   ·rw[if_neg hik,if_neg (fun h=>hik h.symm)]
  ·rw[if_neg hk,if_neg (by omega)]
 unfold eS
 rw[e,K4 List.nodup_range]
 grind
theorem Run.rows (h:Run n m t0 t) {x:Int→Rat} {z:Rat} (hx:t.holds n m x z) {i:Nat}:bi m (fun k=>dC m t0 (t.bv k) i*x (t.bv k))+bi n (fun j=>dC m t0 (t.fv j) i*x (t.fv j))=sD m t0 i:=by
 have key:∀t:Tb,t.WF n m→jC (fun v=>dC m t0 v i*x v) (t.basic++t.free)=bi m (fun k=>dC m t0 (t.bv k) i*x (t.bv k))+bi n (fun j=>dC m t0 (t.fv j) i*x (t.fv j)):=fun t ht=>by
  rw[EI,uK,uK,ht.basic,ht.free]
  rfl
 rw[←key t h.wf,K9 h.perm,key t0 h.jD]
 have h0:=(h.jY x z).1 hx
 unfold sD
 by_cases hi:i<m
 ·rw[if_pos hi,←h0.1 i hi]
  congr 1
  ·have e:bi m (fun k=>dC m t0 (t0.bv k) i*x (t0.bv k))=bi m fun k=>if k=i then x (t0.bv i) else 0:=cy fun k hk=>by
    have e2:t0.basic.idxOf (t0.bv k)=k:=lp (List.nodup_append.1 h.nd).1 (by rw[h.jD.basic];exact hk)
    unfold dC
    rw[if_pos hi,if_neg (zY h.jD h.nd hk),e2]
    split
    ·rename_i e;subst e;grind
    ·grind
   rw[e,qj,if_pos hi]
  ·refine cy fun j hj=>?_
   have hl:j<t0.free.length:=by rw[h.jD.free];exact hj
   unfold dC
   rw[if_pos hi,if_pos (by unfold Tb.fv;rw[bF hl];exact List.getElem_mem hl)]
   have e2:t0.free.idxOf (t0.fv j)=j:=lp (List.nodup_append.1 h.nd).2.1 hl
   rw[e2]
 ·rw[if_neg hi]
  have e:∀v,dC m t0 v i=0:=fun v=>by unfold dC;rw[if_neg hi]
  simp only[e]
  rw[cy (g:=fun _=>0) fun k _=>by grind,gk,cy (g:=fun _=>0) fun k _=>by grind,gk]
  grind
theorem Run.Lc (h:Run n m t0 t):sD m t0=fun i=>bi m fun k=>t.bd k*dC m t0 (t.bv k) i:=by
 funext i
 have h1:=h.rows (i:=i) (asg_holds h.wf h.eC (y:=fun _=>0))
 rw[←h1,cy (n:=n) (g:=fun _=>0) fun j hj=>by rw[kE h.wf h.eC hj];grind,gk,cy (n:=m) (g:=fun k=>t.bd k*dC m t0 (t.bv k) i) fun k hk=>by
  rw[lq h.wf h.eC hk,cy (g:=fun _=>0) fun j _=>by grind,gk]
  grind]
 grind
theorem Run.Yr (h:Run n m t0 t) {c:Nat} (hc:c<n):dC m t0 (t.fv c)=fun i=>bi m fun k=>t.cf k c*dC m t0 (t.bv k) i:=by
 funext i
 have h0:=congrFun h.Lc i
 have h1:=h.rows (i:=i) (asg_holds h.wf h.eC (y:=fun j=>if j=c then 1 else 0))
 rw[cy (n:=n) (g:=fun j=>if j=c then dC m t0 (t.fv c) i else 0) fun j hj=>by
  rw[kE h.wf h.eC hj]
  split
  ·rename_i e;subst e;grind
  ·grind,qj,if_pos hc,cy (n:=m) (g:=fun k=>t.bd k*dC m t0 (t.bv k) i+(-1)*(t.cf k c*dC m t0 (t.bv k) i)) fun k hk=>by
   rw[lq h.wf h.eC hk,cy (g:=fun j=>if j=c then t.cf k c else 0) fun j _=>by
    split
    ·rename_i e;subst e;grind
    ·grind,qj,if_pos hc]
   grind,uH,uI] at h1
 grind
theorem getD_map {l:List Int} {f:Int→Nat→Rat} {k:Nat} (h:k<l.length):(l.map f).getD k (fun _=>0)=f (ae l k 0):=by
 rw[bF h]
 simp[List.getD,h]
theorem Run.Ld (h:Run n m t0 t) {y:Nat→Rat} {r:Nat} (hr:r<m):fq ((t.basic.map (dC m t0)).set r fun i=>bi m fun k=>y k*dC m t0 (t.bv k) i) (List.range m)=y r*eS m t0 t:=by
 have hl:(t.basic.map (dC m t0)).length=m:=by rw[List.length_map,h.wf.basic]
 have h1:=@Yq (t.basic.map (dC m t0)) (List.range m) y r (by rw[hl];exact hr)
 unfold eS
 rw[←h1,hl]
 congr 2
 funext i
 refine cy fun k hk=>?_
 rw[getD_map (by rw[h.wf.basic];exact hk)]
 rfl
theorem Run.Le (h:Run n m t0 t) {r c:Nat} (hr:r<m) (hc:c<n):fq ((t.basic.map (dC m t0)).set r (dC m t0 (t.fv c))) (List.range m)=t.cf r c*eS m t0 t:=by
 rw[h.Yr hc]
 exact h.Ld (y:=fun k=>t.cf k c) hr
theorem Run.Ys (h:Run n m t0 t) {r:Nat} (hr:r<m):fq ((t.basic.map (dC m t0)).set r (sD m t0)) (List.range m)=t.bd r*eS m t0 t:=by
 rw[h.Lc]
 exact h.Ld (y:=t.bd) hr
theorem set_perm {l:List Int} {r:Nat} {x:Int} (hr:r<l.length):(l.set r x).Perm (x::(l.take r++l.drop (r+1))):=by
 rw[List.set_eq_take_append_cons_drop,if_pos hr]
 exact List.perm_middle
theorem zZ {l:List Int} {r:Nat} (hr:r<l.length):(l[r]::(l.take r++l.drop (r+1))).Perm l:=by
 have h:=@set_perm l r l[r] hr
 rw[List.set_getElem_self] at h
 exact h.symm
theorem swap_perm {l k:List Int} {r c:Nat} (hr:r<l.length) (hc:c<k.length):(l.set r (ae k c 0)++k.set c (ae l r 0)).Perm (l++k):=by
 rw[bF hr,bF hc]
 refine((set_perm hr).append (set_perm hc)).trans ?_
 refine List.Perm.trans ?_ ((zZ hr).append (zZ hc))
 simp only[List.cons_append]
 refine(List.Perm.cons _ List.perm_middle).trans ?_
 refine(List.Perm.swap _ _ _).trans ?_
 exact(List.Perm.cons _ List.perm_middle.symm)
theorem Run.piv (h:Run n m t0 t) {r c:Nat} (hr:r<m) (hc:c<n) (ha:t.cf r c≠0):Run n m t0 (dB t r c) where
 jD:=h.jD
 wf:=K7 h.wf
 nd:=h.nd
 perm:=(swap_perm (by rw[h.wf.basic];exact hr) (by rw[h.wf.free];exact hc)).trans h.perm
 jY x z:=(piv_holds h.wf hr hc ha).trans (h.jY x z)
 dt:=by
  have e:eS m t0 (dB t r c)=t.cf r c*eS m t0 t:=by
   rw[←h.Le hr hc]
   unfold eS
   congr 1
   show(t.basic.set r (t.fv c)).map (dC m t0)=_
   rw[List.map_set]
  rw[e]
  have:=h.dt
  grind
theorem Aa {M:Nat} (hM:1≤M) (h0:∀i j,i<m→j<n→cV M (t0.cf i j)) (hw:t0.WF n m) {v:Int} {i:Nat}:cV M (dC m t0 v i):=by
 unfold dC
 split
 ·split
  ·rename_i hi hv
   exact h0 _ _ hi (by rw[←hw.free];exact List.idxOf_lt_length_of_mem hv)
  ·split
   ·exact⟨1,by simp,by simpa using hM⟩
   ·exact⟨0,by simp,by simp⟩
 ·exact⟨0,by simp,by simp⟩
theorem mem_set {C:List (Nat→Rat)} {r:Nat} {c d:Nat→Rat} (h:d∈C.set r c):d∈C∨d=c:=List.mem_or_eq_of_mem_set h
theorem Run.Yt (h:Run n m t0 t) {M:Nat} (hM:1≤M) (h0:∀i j,i<m→j<n→cV M (t0.cf i j)):cV (je M m) (eS m t0 t):=by
 have:=@zR M (t.basic.map (dC m t0)) (List.range m) (by simp[h.wf.basic]) fun d hd i _=>by
  obtain⟨v,_,rfl⟩:=List.mem_map.1 hd
  exact Aa hM h0 h.jD
 rwa [List.length_range] at this
theorem Run.Yu (h:Run n m t0 t) {M:Nat} (hM:1≤M) (h0:∀i j,i<m→j<n→cV M (t0.cf i j)) {r c:Nat} (hr:r<m) (hc:c<n):cV (je M m) (t.cf r c*eS m t0 t):=by
 rw[←h.Le hr hc]
 have:=@zR M ((t.basic.map (dC m t0)).set r (dC m t0 (t.fv c))) (List.range m) (by simp[h.wf.basic]) fun d hd i _=>by
  rcases mem_set hd with hd|rfl
  ·obtain⟨v,_,rfl⟩:=List.mem_map.1 hd
   exact Aa hM h0 h.jD
  ·exact Aa hM h0 h.jD
 rwa [List.length_range] at this
theorem Run.Yv (h:Run n m t0 t) {M:Nat} (hM:1≤M) (h0:∀i j,i<m→j<n→cV M (t0.cf i j)) (hb:∀i,i<m→cV M (t0.bd i)) {r:Nat} (hr:r<m):cV (je M m) (t.bd r*eS m t0 t):=by
 rw[←h.Ys hr]
 have:=@zR M ((t.basic.map (dC m t0)).set r (sD m t0)) (List.range m) (by simp[h.wf.basic]) fun d hd i hi=>by
  rcases mem_set hd with hd|rfl
  ·obtain⟨v,_,rfl⟩:=List.mem_map.1 hd
   exact Aa hM h0 h.jD
  ·unfold sD
   rw[if_pos (List.mem_range.1 hi)]
   exact hb i (List.mem_range.1 hi)
 rwa [List.length_range] at this
end
structure lr (n m:Nat) (t:Tb) (r c:Nat):Prop where
 hr:r<m
 hc:c<n
 cost:0<t.cs c
 least:∀j,j<n→0<t.cs j→t.fv c≤t.fv j
 pos:0<t.cf r c
 ratio:∀i,i<m→0<t.cf i c→t.bd r / t.cf r c<t.bd i / t.cf i c∨(t.bd r / t.cf r c=t.bd i / t.cf i c∧t.bv r≤t.bv i)
def fz (m:Nat) (t:Tb):Prop:=∀i,i<m→0≤t.bd i
section
variable {n m:Nat} {t t0:Tb} {r c:Nat}
theorem uL (a b:Rat):a≤b∨b<a:=(Classical.em (a≤b)).imp id Rat.not_le.1
theorem div_mul {a b:Rat} (h:0<b):a / b*b=a:=by
 have:b≠0:=by grind
 grind
theorem inv_pos {b:Rat} (h:0<b):0<1 / b:=by
 have h1:(1 / b)*b=1:=div_mul h
 rcases uL (1 / b) 0 with h2|h2
 ·exfalso
  have h3:0≤(-(1 / b))*b:=Rat.mul_nonneg (by grind) (by grind)
  grind
 ·exact h2
theorem Lh {a b:Rat} (ha:0≤a) (h:0<b):0≤a / b:=by
 have h1:a / b=a*(1 / b):=by grind
 rw[h1]
 exact Rat.mul_nonneg ha (by have:=inv_pos h;grind)
theorem lr.ge (h:lr n m t r c) (hf:fz m t):0≤t.bd r / t.cf r c:=Lh (hf r h.hr) h.pos
theorem lr.sE (h:lr n m t r c) (hw:t.WF n m) (hf:fz m t):fz m (dB t r c):=by
 intro i hi
 have hq:=h.ge hf
 have e:t.bd r*(1 / t.cf r c)=t.bd r / t.cf r c:=by grind
 rw[zW hw hi,e]
 split
 ·exact hq
 ·rcases uL (t.cf i c) 0 with h1|h1
  ·have h2:0≤(-(t.cf i c))*(t.bd r / t.cf r c):=Rat.mul_nonneg (by grind) hq
   have:=hf i hi
   grind
  ·have h2:t.bd r / t.cf r c≤t.bd i / t.cf i c:=by
    rcases h.ratio i hi h1 with h3|h3
    ·grind
    ·grind
   have h3:0≤t.cf i c*(t.bd i / t.cf i c - t.bd r / t.cf r c):=Rat.mul_nonneg (by grind) (by grind)
   have h4:=@div_mul (t.bd i) _ h1
   grind
theorem lr.value:(dB t r c).value=t.value+t.cs c*(t.bd r / t.cf r c):=by
 show t.value+t.cs c*(t.bd r*(1 / t.cf r c))=_
 grind
theorem EJ {α:Type}:∀(L:List α) (f:Nat→α),(∀k,f k∈L)→∃i j,i<j∧f i=f j
 |[],f,h=>by have:=h 0;simp at this
 |a::L,f,h=>by
  by_cases h1:∃i,f i=a
  ·obtain⟨i,hi⟩:=h1
   by_cases h2:∃j,i<j∧f j=a
   ·obtain⟨j,hj,hja⟩:=h2
    exact⟨i,j,hj,by rw[hi,hja]⟩
   ·obtain⟨x,y,hxy,he⟩:=EJ L (fun k=>f (k+i+1)) fun k=>by
     rcases List.mem_cons.1 (h (k+i+1)) with h3|h3
     ·exact absurd ⟨_,by omega,h3⟩ h2
     ·exact h3
    exact⟨x+i+1,y+i+1,by omega,he⟩
  ·exact EJ L f fun k=>by
    rcases List.mem_cons.1 (h k) with h3|h3
    ·exact absurd ⟨k,h3⟩ h1
    ·exact h3
def uM (V:List Int):Nat→List (List Int)
 |0=>[[]]
 |k+1=>(uM V k).flatMap fun l=>V.map fun v=>v::l
theorem Lj {V:List Int}:∀{l:List Int},(∀v∈l,v∈V)→l∈uM V l.length
 |[],_=>by simp[uM]
 |x::l,h=>by
  simp only[List.length_cons,uM,List.mem_flatMap,List.mem_map]
  exact⟨l,Lj fun v hv=>h v (by simp[hv]),x,h x (by simp),rfl⟩
theorem Yw {l:List Int} {r:Nat} {x v:Int} (hr:r<l.length) (hn:l.Nodup):v∈l.set r x↔v=x∨(v∈l∧v≠ae l r 0):=by
 rw[(set_perm hr).mem_iff,List.mem_cons,bF hr]
 have h1:=(zZ hr).symm.nodup hn
 rw[List.nodup_cons] at h1
 have h2:v∈l↔v=l[r]∨v∈l.take r++l.drop (r+1):=by rw[←(zZ hr).mem_iff,List.mem_cons]
 rw[h2]
 constructor
 ·rintro(h|h)
  ·exact .inl h
  ·exact .inr ⟨.inr h,fun e=>h1.1 (e▸h)⟩
 ·rintro(h|⟨h|h,h3⟩)
  ·exact .inl h
  ·exact absurd h h3
  ·exact .inr h
theorem Ll {f:Nat→Int} {i:Nat}:∀{d:Nat},∃k,(i≤k∧k≤i+d)∧∀x,i≤x→x≤i+d→f x≤f k
 |0=>⟨i,by omega,fun x h1 h2=>by rw[show x=i by omega];exact Int.le_refl _⟩
 |d+1=>by
  obtain⟨k,h1,h2⟩:=@Ll f i d
  by_cases h:f k≤f (i+(d+1))
  ·refine⟨i+(d+1),by omega,fun x h3 h4=>?_⟩
   by_cases h5:x≤i+d
   ·have:=h2 x h3 h5;omega
   ·rw[show x=i+(d+1) by omega];exact Int.le_refl _
  ·refine⟨k,by omega,fun x h3 h4=>?_⟩
   by_cases h5:x≤i+d
   ·exact h2 x h3 h5
   ·rw[show x=i+(d+1) by omega];omega
theorem Lm:∀{n:Nat} {f:Nat→Rat},0<bi n f→∃j,j<n∧0<f j
 |0,f,h=>by simp only[bi] at h;grind
 |n+1,f,h=>by
  rcases uL (f n) 0 with h1|h1
  ·obtain⟨j,hj,h2⟩:=@Lm n f (by simp only[bi] at h;grind)
   exact⟨j,by omega,h2⟩
  ·exact⟨n,by omega,h1⟩
theorem uN (h:t.WF n m) {j:Nat} (hj:j<n):t.fv j∈t.free:=by
 have hl:j<t.free.length:=by rw[h.free];exact hj
 unfold Tb.fv;rw[bF hl];exact List.getElem_mem hl
theorem EK (h:t.WF n m) {j:Nat} (hj:j<m):t.bv j∈t.basic:=by
 have hl:j<t.basic.length:=by rw[h.basic];exact hj
 unfold Tb.bv;rw[bF hl];exact List.getElem_mem hl
theorem EL (h:t.WF n m) {v:Int} (hv:v∈t.free):∃j,j<n∧t.fv j=v:=by
 obtain⟨j,hj,rfl⟩:=List.getElem_of_mem hv
 exact⟨j,by rw[←h.free];exact hj,by unfold Tb.fv;rw[bF hj]⟩
theorem EM (h:t.WF n m) {v:Int} (hv:v∈t.basic):∃j,j<m∧t.bv j=v:=by
 obtain⟨j,hj,rfl⟩:=List.getElem_of_mem hv
 exact⟨j,by rw[←h.basic];exact hj,by unfold Tb.bv;rw[bF hj]⟩
theorem EN (hn:(t.basic++t.free).Nodup) {v:Int} (h1:v∈t.basic) (h2:v∈t.free):False:=(List.nodup_append.1 hn).2.2 _ h1 _ h2 rfl
theorem Yx (h:t.WF n m) (hn:(t.basic++t.free).Nodup) {i j:Nat} (hi:i<m) (hj:j<m) (e:t.bv i=t.bv j):i=j:=by
 have a:=lp (List.nodup_append.1 hn).1 (show i<t.basic.length by rw[h.basic];exact hi)
 have b:=lp (List.nodup_append.1 hn).1 (show j<t.basic.length by rw[h.basic];exact hj)
 unfold Tb.bv at e
 rw[e,b] at a
 exact a.symm
theorem Yy (h:t.WF n m) (hn:(t.basic++t.free).Nodup) {i j:Nat} (hi:i<n) (hj:j<n) (e:t.fv i=t.fv j):i=j:=by
 have a:=lp (List.nodup_append.1 hn).2.1 (show i<t.free.length by rw[h.free];exact hi)
 have b:=lp (List.nodup_append.1 hn).2.1 (show j<t.free.length by rw[h.free];exact hj)
 unfold Tb.fv at e
 rw[e,b] at a
 exact a.symm
theorem Yz {T:Nat→Tb} {r c:Nat→Nat} (hR:∀k,Run n m t0 (T k)) (hF:∀k,fz m (T k)) (hP:∀k,lr n m (T k) (r k) (c k)) (hT:∀k,T (k+1)=dB (T k) (r k) (c k)) {i j:Nat} (hij:i<j) (hb:(T i).basic=(T j).basic) (hf:(T i).free=(T j).free):False:=by
 have hv0:(T i).value=(T j).value:=by
  have h1:=((hR j).jY _ _).2 (((hR i).jY _ _).1 (asg_holds (hR i).wf (hR i).eC (y:=fun _=>0)))
  have e1:bi n (fun k=>(T i).cs k*(fun _=>(0:Rat)) k)=0:=by rw[cy (g:=fun _=>0) fun k _=>by grind,gk]
  have e2:bi n (fun k=>(T j).cs k*dG n (T i) (fun _=>0) ((T j).fv k))=0:=by
   rw[cy (g:=fun _=>0) fun k hk=>by
    have:(T j).fv k=(T i).fv k:=by unfold Tb.fv;rw[hf]
    rw[this,kE (hR i).wf (hR i).eC hk]
    grind,gk]
  have h2:=h1.2
  rw[e1,e2] at h2
  grind
 have hmono:∀k,(T k).value≤(T (k+1)).value:=fun k=>by
  rw[hT k,lr.value]
  have:=Rat.mul_nonneg (a:=(T k).cs (c k)) (by have:=(hP k).cost;grind) ((hP k).ge (hF k))
  grind
 have hm2:∀d a,(T a).value≤(T (a+d)).value:=fun d=>by
  induction d with
  |zero=>intro a;simp
  |succ d ih=>intro a;have h1:=ih a;have h2:=hmono (a+d);rw[show a+(d+1)=a+d+1 by omega];grind
 have Ln:∀k,i≤k→k<j→(T k).bd (r k)=0:=fun k h1 h2=>by
  have a1:=hm2 (k - i) i
  have a2:=hm2 (j - (k+1)) (k+1)
  rw[show i+(k - i)=k by omega] at a1
  rw[show k+1+(j - (k+1))=j by omega] at a2
  have a3:=hmono k
  rw[hT k] at a2 a3
  rw[lr.value] at a2 a3
  have h3:=(hP k).ge (hF k)
  have hc:=(hP k).cost
  have h4:=@div_mul ((T k).bd (r k)) _ (hP k).pos
  have h5:(T k).cs (c k)*((T k).bd (r k) / (T k).cf (r k) (c k))=0:=by grind
  rcases Rat.mul_eq_zero.1 h5 with h6|h6
  ·grind
  ·rw[h6] at h4;grind
 have hA1:∀k,i≤k→k<j→∀v,v∈(T k).basic++(T k).free→dG n (T (k+1)) (fun _=>0) v=dG n (T k) (fun _=>0) v:=fun k h1 h2 v hv=>by
  have hw:=(hR k).wf
  have hw':=(hR (k+1)).wf
  have hx:=((hR (k+1)).jY _ _).2 (((hR k).jY _ _).1 (asg_holds hw (hR k).eC (y:=fun _=>0)))
  have hz:∀q,q<n→dG n (T k) (fun _=>0) ((T (k+1)).fv q)=0:=fun q hq=>by
   rw[hT k,ED hw (hP k).hc]
   split
   ·rw[lq hw (hR k).eC (hP k).hr,Ln k h1 h2,cy (g:=fun _=>0) fun j _=>by grind,gk]
    grind
   ·rw[kE hw (hR k).eC hq]
  have hv':v∈(T (k+1)).basic++(T (k+1)).free:=((hR (k+1)).perm.trans (hR k).perm.symm).mem_iff.2 hv
  rcases List.mem_append.1 hv' with hv'|hv'
  ·obtain⟨q,hq,rfl⟩:=EM hw' hv'
   have:=hx.1 q hq
   rw[cy (g:=fun _=>0) fun j hj=>by rw[hz j hj];grind,gk] at this
   rw[lq hw' (hR (k+1)).eC hq,cy (g:=fun _=>0) fun j _=>by grind,gk]
   grind
  ·obtain⟨q,hq,rfl⟩:=EL hw' hv'
   rw[hz q hq,kE hw' (hR (k+1)).eC hq]
 have hmem:∀a b v,v∈(T a).basic++(T a).free→v∈(T b).basic++(T b).free:=fun a b v hv=>((hR b).perm.trans (hR a).perm.symm).mem_iff.2 hv
 have hA2:∀d a,i≤a→a+d≤j→∀v,v∈(T a).basic++(T a).free→dG n (T (a+d)) (fun _=>0) v=dG n (T a) (fun _=>0) v:=fun d=>by
  induction d with
  |zero=>intro a _ _ v _;rfl
  |succ d ih=>
   intro a h1 h2 v hv
   rw[←ih a h1 (by omega) v hv]
   exact hA1 (a+d) (by omega) (by omega) v (hmem _ _ v hv)
 have hA:∀a b,i≤a→a≤j→i≤b→b≤j→∀v,v∈(T a).basic++(T a).free→dG n (T a) (fun _=>0) v=dG n (T b) (fun _=>0) v:=fun a b h1 h2 h3 h4 v hv=>by
  have e1:=hA2 (a - i) i (by omega) (by omega) v (hmem _ _ v hv)
  have e2:=hA2 (b - i) i (by omega) (by omega) v (hmem _ _ v hv)
  rw[show i+(a - i)=a by omega] at e1
  rw[show i+(b - i)=b by omega] at e2
  rw[e1,e2]
 have hst:∀k v,v∈(T (k+1)).basic↔v=(T k).fv (c k)∨(v∈(T k).basic∧v≠(T k).bv (r k)):=fun k v=>by
  rw[hT k]
  exact Yw (by rw[(hR k).wf.basic];exact(hP k).hr) (List.nodup_append.1 (hR k).eC).1
 have YA:∀v a b,i≤a→a≤j→i≤b→b≤j→v∈(T a).basic→v∉(T b).basic→∃k,i≤k∧k<j∧(T k).fv (c k)=v:=fun v a b a1 a2 b1 b2 ha hbn=>by
  apply Classical.byContradiction
  intro hno
  have down:∀d x,i≤x→x+d≤j→v∈(T (x+d)).basic→v∈(T x).basic:=fun d=>by
   induction d with
   |zero=>intro x _ _ h;exact h
   |succ d ih=>
    intro x h1 h2 h
    refine ih x h1 (by omega) ?_
    rcases(hst (x+d) v).1 h with h3|h3
    ·exact absurd ⟨x+d,by omega,by omega,h3.symm⟩ hno
    ·exact h3.1
  have h1:=down (a - i) i (by omega) (by omega) (by rw[show i+(a - i)=a by omega];exact ha)
  rw[hb] at h1
  exact hbn (down (j - b) b (by omega) (by omega) (by rw[show b+(j - b)=j by omega];exact h1))
 obtain⟨k1,⟨Lq,k1b⟩,hmax⟩:=@Ll (fun k=>(T k).fv (c k)) i (j - 1 - i)
 have Lr:∀x,i≤x→x<j→(T x).fv (c x)≤(T k1).fv (c k1):=fun x h1 h2=>hmax x h1 (by omega)
 have hk1:k1<j:=by omega
 have YB:(T k1).fv (c k1)∈(T k1).free:=uN (hR k1).wf (hP k1).hc
 have htb:(T k1).fv (c k1)∉(T k1).basic:=fun h=>EN (hR k1).eC h YB
 obtain⟨k2,Ac,Ls,hl⟩:∃k2,i≤k2∧k2<j∧(T k2).bv (r k2)=(T k1).fv (c k1):=by
  apply Classical.byContradiction
  intro hno
  have up:∀d x,i≤x→x+d≤j→(T k1).fv (c k1)∈(T x).basic→(T k1).fv (c k1)∈(T (x+d)).basic:=fun d=>by
   induction d with
   |zero=>intro x _ _ h;exact h
   |succ d ih=>
    intro x h1 h2 h
    exact(hst (x+d) _).2 (.inr ⟨ih x h1 (by omega) h,fun e=>hno ⟨x+d,by omega,by omega,e.symm⟩⟩)
  have h1:=up (j - (k1+1)) (k1+1) (by omega) (by omega) ((hst k1 _).2 (.inl rfl))
  rw[show k1+1+(j - (k1+1))=j by omega,←hb] at h1
  have h2:=up (k1 - i) i (by omega) (by omega) h1
  rw[show i+(k1 - i)=k1 by omega] at h2
  exact htb h2
 have w1:=(hR k1).wf
 have w2:=(hR k2).wf
 have n1:=(hR k1).eC
 have n2:=(hR k2).eC
 have p1:=hP k1
 have p2:=hP k2
 have x1:=(((hR k1).jY _ _).2 (((hR k2).jY _ _).1 (asg_holds w2 n2 (y:=fun q=>if q=c k2 then 1 else 0)))).2
 have x0:=(((hR k1).jY _ _).2 (((hR k2).jY _ _).1 (asg_holds w2 n2 (y:=fun _=>0)))).2
 rw[cy (f:=fun q=>(T k2).cs q*(fun q=>if q=c k2 then(1:Rat) else 0) q) (g:=fun q=>if q=c k2 then(T k2).cs (c k2) else 0) fun q _=>by
  by_cases hq:q=c k2
  ·simp only[hq,if_true];grind
  ·simp only[hq,if_false];grind,qj,if_pos p2.hc] at x1
 rw[cy (f:=fun q=>(T k2).cs q*(fun _=>(0:Rat)) q) (g:=fun _=>0) fun q _=>by grind,gk] at x0
 have hd:0<bi n fun q=>(T k1).cs q*(dG n (T k2) (fun q=>if q=c k2 then 1 else 0) ((T k1).fv q) - dG n (T k2) (fun _=>0) ((T k1).fv q)):=by
  rw[cy (g:=fun q=>(T k1).cs q*dG n (T k2) (fun q=>if q=c k2 then 1 else 0) ((T k1).fv q)+(-1)*((T k1).cs q*dG n (T k2) (fun _=>0) ((T k1).fv q))) fun q _=>by grind,uH,uI]
  have:=p2.cost
  grind
 obtain⟨q,hq,hpos⟩:=Lm hd
 have hvf:(T k1).fv q∈(T k1).free:=uN w1 hq
 have Lt:=hmem k1 k2 _ (List.mem_append_right _ hvf)
 rcases List.mem_append.1 Lt with hvb|YC
 ·obtain⟨ρ,hρ,e⟩:=EM w2 hvb
  rw[←e,lq w2 n2 hρ,lq w2 n2 hρ,cy (f:=fun j=>(T k2).cf ρ j*(fun q=>if q=c k2 then(1:Rat) else 0) j) (g:=fun j=>if j=c k2 then(T k2).cf ρ (c k2) else 0) (fun j _=>by
   by_cases hj:j=c k2
   ·simp only[hj,if_true];grind
   ·simp only[hj,if_false];grind),qj,if_pos p2.hc,cy (f:=fun j=>(T k2).cf ρ j*(fun _=>(0:Rat)) j) (g:=fun _=>0) (fun j _=>by grind),gk] at hpos
  have Gv:0<(T k1).cs q*(-(T k2).cf ρ (c k2)):=by grind
  obtain⟨k3,YD,YE,h3⟩:=YA _ k2 k1 Ac (by omega) Lq (by omega) hvb (fun h=>EN n1 h hvf)
  have hle:(T k1).fv q≤(T k1).fv (c k1):=by rw[←h3];exact Lr k3 YD YE
  rcases uL ((T k1).cs q) 0 with hs|hs
  ·have hap:0<(T k2).cf ρ (c k2):=by
    rcases uL ((T k2).cf ρ (c k2)) 0 with h4|h4
    ·exfalso
     have:=Rat.mul_nonneg (a:= -(T k1).cs q) (b:= -(T k2).cf ρ (c k2)) (by grind) (by grind)
     grind
    ·exact h4
   have hbz:(T k2).bd ρ=0:=by
    have h5:=hA k2 k1 Ac (by omega) Lq (by omega) ((T k1).fv q) Lt
    rw[kE w1 n1 hq,←e,lq w2 n2 hρ,cy (g:=fun _=>0) fun j _=>by grind,gk] at h5
    grind
   have hrz:=Ln k2 Ac Ls
   have hz:∀b:Rat,(0:Rat) / b=0:=fun b=>by grind
   rcases p2.ratio ρ hρ hap with h6|h6
   ·rw[hbz,hrz,hz,hz] at h6
    grind
   ·have h7:(T k1).fv (c k1)≤(T k1).fv q:=by rw[←hl,←e];exact h6.2
    have h8:=Yy w1 n1 hq p1.hc (by omega)
    rw[h8] at hs
    have:=p1.cost
    grind
  ·have h7:=p1.least q hq hs
   have h8:ρ=r k2:=Yx w2 n2 hρ p2.hr (by rw[e,hl];omega)
   rw[h8] at Gv
   have:=Rat.mul_nonneg (a:=(T k1).cs q) (b:=(T k2).cf (r k2) (c k2)) (by grind) (by have:=p2.pos;grind)
   grind
 ·obtain⟨q2,hq2,e⟩:=EL w2 YC
  rw[←e,kE w2 n2 hq2,kE w2 n2 hq2] at hpos
  by_cases h5:q2=c k2
  ·rw[if_pos h5] at hpos
   have h6:=p1.least q hq (by grind)
   have h7:=Lr k2 Ac Ls
   rw[h5] at e
   have h8:(T k1).fv (c k1)=(T k2).fv (c k2):=by omega
   exact EN n2 (EK w2 p2.hr) (by rw[hl,h8];exact uN w2 p2.hc)
  ·rw[if_neg h5] at hpos
   grind
end
end Go.Vi
