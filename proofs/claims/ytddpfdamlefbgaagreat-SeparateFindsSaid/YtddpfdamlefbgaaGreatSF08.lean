/-
  Contracts: the examples of the chapter.
  Conditions: none.
-/
import Derived.Test.YtddpfdamlefbgaaGreatSF06
import Derived.Test.YtddpfdamlefbgaaGreatSF07
import Derived.Test.YtddpfdamlefbgaaGreatSF04
import Derived.Test.YtddpfdamlefbgaaGreatProg
import Derived.Shelf.SlicesE.Clone
import Derived.Shelf.SlSortCmp.NoneTotal
import Derived.KernelRfl
import Derived.Shelf.Sort.AssemblyIn
import Derived.Shelf.SlicesE.Delete
import Derived.Sort.EveryDepth
import Derived.Sort.OwnSortedInts
import Derived.WalkKit
import Derived.Deep.LoopGhost
import Derived.Lib.Walk
import Derived.Lib.SliceRun
import Derived.Shelf.RegionOpenPlain
set_option maxRecDepth 100000
set_option maxHeartbeats 4000000
set_option linter.all false
namespace Go.Vi
open Go.Proofs.YtddpfdamlefbgaaGreat.Ir
open Go.Proofs
def prt (U:List Int) (j k:Nat):List Int:=(U.drop j).take k
theorem nth_drop {U:List Int} {j k:Nat}:nthD (U.drop j) k 0=nthD U (j+k) 0:=by
 grind[nthD]
theorem prt_succ {U:List Int} {j k:Nat}:valN (prt U j (k+1))=valN (prt U j k)+4294967296^k*nthD U (j+k) 0:=by
 grind[prt,take_snoc0,nth_drop]
theorem prt_set {U:List Int} {j k i:Nat} {d:Int} (h:k≤i):prt (U.set (j+i) d) j k=prt U j k:=by
 unfold prt
 apply List.ext_getElem?
 grind
theorem prt_dig {U:List Int} (h:Dig U) {j k:Nat}:Dig (prt U j k):=dig_take (dig_drop h j) k
theorem prt_len {U:List Int} {j k:Nat} (h:j+k≤U.length):(prt U j k).length=k:=by
 grind[prt]
theorem prt_bd {U:List Int} (h:Dig U) {j k:Nat}:valN (prt U j k)<4294967296^k:=by
 have g:=val_bdN (prt_dig h (j:=j) (k:=k))
 have e:(prt U j k).length≤k:=by grind[prt]
 have i:(4294967296:Int)^(prt U j k).length≤4294967296^k:=by
  have d:∀{a b:Nat},a≤b→(4294967296:Int)^a≤4294967296^b:=fun {a b} c=>by
   obtain⟨m,rfl⟩:=Nat.exists_eq_add_of_le c
   rw[Int.pow_add]
   have f:=pow_pos a
   have l:=pow_pos m
   have:=Int.mul_le_mul_of_nonneg_left (show(1:Int)≤4294967296^m by omega) (Int.le_of_lt f)
   omega
  exact d e
 omega
def wth (U:List Int) (j:Nat) (l:List Int):List Int:=U.take j++(l++U.drop (j+l.length))
theorem nth_ext {a b:List Int} (c:a.length=b.length) (h:∀m,nthD a m 0=nthD b m 0):a=b:=by
 apply List.ext_getElem c
 intro m d e
 have:=h m
 grind[nthD_eq]
theorem wth_len {U l:List Int} {j:Nat} (h:j+l.length≤U.length):(wth U j l).length=U.length:=by
 grind[wth]
theorem wth_nth {U l:List Int} {j m:Nat} (h:j+l.length≤U.length):nthD (wth U j l) m 0=if m<j then nthD U m 0 else if m<j+l.length then nthD l (m - j) 0 else nthD U m 0:=by
 unfold wth nthD
 grind
theorem wth_of {U W:List Int} {j k:Nat} {x:Int} (d:Dig W) (f:W.length=U.length) (g:j+k≤U.length) (e:∀m,(m<j∨j+k≤m)→nthD W m 0=nthD U m 0) (a:valN (prt W j k)=x):W=wth U j (digK k x):=by
 have b:prt W j k=digK k x:=digK_of (prt_dig d) (prt_len (by omega)) a
 have c:=@digK_len k x
 apply nth_ext
 ·grind[wth_len]
 ·intro m
  rw[wth_nth (by omega),c]
  split
  ·simp_all
  ·split
   ·rw[←b]
    unfold prt
    have:nthD ((W.drop j).take k) (m - j) 0=nthD (W.drop j) (m - j) 0:=by
     unfold nthD
     grind
    grind[nth_drop]
   simp_all
section
variable {P V X v1 v2 u2 top rv ru g r:Int}
theorem kn_gt (e:0<P) (n:V=rv+P*(v2+4294967296*v1)) (l:X=ru+P*(u2+4294967296*top)) (a:0≤rv) (f:ru<P) (d:X<4294967296*V) (b:0≤V)
  (c:0≤g) (j:g*v1+r=top) (h:4294967296≤g∨r*4294967296+u2<g*v2):X<g*V:=by
 rcases h with h|h
 ·exact Int.lt_of_lt_of_le d (Int.mul_le_mul_of_nonneg_right h b)
 ·have k:g*V=g*rv+P*(g*v2+4294967296*(top - r)):=by
   grind
  have i:P*(u2+1+4294967296*top)≤P*(g*v2+4294967296*(top - r)):=Int.mul_le_mul_of_nonneg_left (by omega) (Int.le_of_lt e)
  have m:0≤g*rv:=Int.mul_nonneg c a
  grind
theorem kn_le (c:0<P) (k:V=rv+P*(v2+4294967296*v1)) (n:X=ru+P*(u2+4294967296*top)) (a:0≤rv) (b:rv<P) (f:0≤ru) (e:2147483648≤v1) (j:0≤v2)
  (i:0≤g) (d:g<4294967296) (o:g*v1+r=top) (h:g*v2≤r*4294967296+u2):g*V<X+V:=by
 have m:g*V=g*rv+P*(g*v2+4294967296*(top - r)):=by
  grind
 have q:P*(g*v2+4294967296*(top - r))≤P*(u2+4294967296*top):=Int.mul_le_mul_of_nonneg_left (by omega) (Int.le_of_lt c)
 have p:g*rv≤4294967295*rv:=Int.mul_le_mul_of_nonneg_right (by omega) a
 have l:P*4294967296≤P*(v2+4294967296*v1):=Int.mul_le_mul_of_nonneg_left (by omega) (Int.le_of_lt c)
 omega
theorem kn_start (c:0<P) (p:V=rv+P*(v2+4294967296*v1)) (k:X=ru+P*(u2+4294967296*top)) (b:0≤rv) (e:ru<P) (a:0≤v2) (f:u2<4294967296)
  (d:0≤g) (o:g*v1+r=top) (l:r<v1):X<(g+1)*V:=by
 have n:(g+1)*V=(g+1)*rv+((g+1)*(P*v2)+P*(4294967296*((g+1)*v1))):=by
  grind
 have j:0≤(g+1)*rv:=Int.mul_nonneg (by omega) b
 have h:0≤(g+1)*(P*v2):=Int.mul_nonneg (by omega) (Int.mul_nonneg (Int.le_of_lt c) a)
 have i:top+1≤(g+1)*v1:=by grind
 have m:P*(u2+1+4294967296*top)≤P*(4294967296*((g+1)*v1)):=Int.mul_le_mul_of_nonneg_left (by omega) (Int.le_of_lt c)
 grind
theorem kn_top {b a:Int} (c:0<P) (l:V=rv+P*(v2+4294967296*v1)) (k:X=ru+P*(u2+4294967296*(b+4294967296*a))) (d:rv<P) (f:0≤ru) (e:0≤u2) (i:0≤b) (j:v2<4294967296)
  (g:X<4294967296*V):a≤v1:=by
 by_cases h:a≤v1
 ·exact h
 ·exfalso
  have m:P*(4294967296*(4294967296*(v1+1)))≤P*(u2+4294967296*(b+4294967296*a)):=Int.mul_le_mul_of_nonneg_left (by omega) (Int.le_of_lt c)
  have n:P*(v2+4294967296*v1)≤P*(4294967296*(v1+1) - 1):=Int.mul_le_mul_of_nonneg_left (by omega) (Int.le_of_lt c)
  grind
theorem qr_of {X V q:Int} (e:q*V≤X) (c:X<(q+1)*V):X / V=q∧X % V=X - q*V:=by
 rw[Int.add_mul,Int.one_mul] at c
 have d:0<V:=by omega
 have b:X=(X - q*V)+V*q:=by grind
 have a:X / V=q:=by
  conv=>lhs;rw[b]
  rw[Int.add_mul_ediv_left _ _ (by omega),Int.ediv_eq_zero_of_lt (by omega) (by omega),Int.zero_add]
 refine⟨a,?_⟩
 rw[Int.emod_def,a,Int.mul_comm]
end
theorem and_mask {p:Int} (a:0≤p) (e:p<18446744073709551616):binK.andI .u64 p 4294967295=p % 4294967296:=by
 obtain⟨m,rfl⟩:=Int.eq_ofNat_of_zero_le a
 have b:(BitVec.ofInt 64 ((m:Nat):Int)).toNat=m:=by grind
 have c:(BitVec.ofInt 64 4294967295).toNat=4294967295:=by simp_all
 have d:(BitVec.ofInt 64 ((m:Nat):Int) &&&BitVec.ofInt 64 4294967295).toNat=m % 4294967296:=by
  rw[BitVec.toNat_and,b,c]
  exact Nat.and_two_pow_sub_one_eq_mod m 32
 show wrapI .u64 ((BitVec.ofInt 64 ((m:Nat):Int) &&&BitVec.ofInt 64 4294967295).toNat:Nat)=_
 grind[wrapI_eq,IntKind.wrap,IntKind.bits]
theorem ms_step {U W v:List Int} {j i:Nat} {g c b d e:Int} (n:Dig W) (f:W.length=U.length) (o:Dig v) (h:0≤g) (r:g<4294967296) (y:0≤c) (t:c<4294967296) (s:0≤b) (q:b≤1) (u:j+i<U.length)
  (l:∀m,(m<j∨j+i≤m)→nthD W m 0=nthD U m 0)
  (k:valN (prt W j i)=valN (prt U j i) - g*valN (v.take i)+4294967296^i*(c+b))
  (a:0≤d∧d<4294967296) (w:d - 4294967296*e=nthD W (j+i) 0 - (g*nthD v i 0+c) % 4294967296 - b):
  Dig (W.set (j+i) d)∧(W.set (j+i) d).length=U.length∧(0≤(g*nthD v i 0+c) / 4294967296∧(g*nthD v i 0+c) / 4294967296<4294967296)∧
  (∀m,(m<j∨j+(i+1)≤m)→nthD (W.set (j+i) d) m 0=nthD U m 0)∧
  valN (prt (W.set (j+i) d) j (i+1))=valN (prt U j (i+1)) - g*valN (v.take (i+1))+4294967296^(i+1)*((g*nthD v i 0+c) / 4294967296+e):=by
 have x:=dig_nth o i
 have z:0≤g*nthD v i 0:=Int.mul_nonneg h x.1
 have p:g*nthD v i 0≤4294967295*4294967295:=Int.mul_le_mul (by omega) (by omega) x.1 (by omega)
 refine⟨dig_set n a.1 a.2,by simp[f],by omega,fun m A=>by grind[nth_set_ne],?_⟩
 have B:=l (j+i) (.inr (Nat.le_refl _))
 rw[prt_succ,prt_succ,prt_set (Nat.le_refl _),nth_set_self (by omega),k,take_snoc0,Int.pow_succ]
 grind
theorem ab_step {U W v:List Int} {j i:Nat} {c s:Int} (a:Dig W) (d:W.length=U.length) (b:Dig v) (n:0≤c) (l:c≤1) (h:j+i<U.length) (g:Dig U)
  (e:∀m,(m<j∨j+i≤m)→nthD W m 0=nthD U m 0)
  (k:valN (prt W j i)+4294967296^i*c=valN (prt U j i)+valN (v.take i)) (o:s=nthD W (j+i) 0+nthD v i 0+c):
  Dig (W.set (j+i) (s % 4294967296))∧(W.set (j+i) (s % 4294967296)).length=U.length∧(0≤s / 4294967296∧s / 4294967296≤1)∧
  (∀m,(m<j∨j+(i+1)≤m)→nthD (W.set (j+i) (s % 4294967296)) m 0=nthD U m 0)∧
  valN (prt (W.set (j+i) (s % 4294967296)) j (i+1))+4294967296^(i+1)*(s / 4294967296)=valN (prt U j (i+1))+valN (v.take (i+1)):=by
 have x:=dig_nth b i
 have y:=dig_nth a (j+i)
 refine⟨dig_set a (by omega) (by omega),by simp[d],by omega,fun m p=>by grind[nth_set_ne],?_⟩
 have f:=e (j+i) (.inr (Nat.le_refl _))
 rw[prt_succ,prt_succ,prt_set (Nat.le_refl _),nth_set_self (by omega),take_snoc0,Int.pow_succ]
 grind
theorem top_two {v:List Int} {n:Nat} (a:2≤n) (b:v.length=n):valN v=valN (v.take (n - 2))+4294967296^(n - 2)*(nthD v (n - 2) 0+4294967296*nthD v (n - 1) 0):=by
 obtain⟨m,rfl⟩:∃m,n=m+2:=⟨n - 2,by omega⟩
 grind[take_snoc0]
theorem top_three {U:List Int} {j n:Nat} (a:2≤n):valN (prt U j (n+1))=valN (prt U j (n - 2))+4294967296^(n - 2)*(nthD U (j+(n - 2)) 0+4294967296*(nthD U (j+(n - 1)) 0+4294967296*nthD U (j+n) 0)):=by
 obtain⟨m,rfl⟩:∃m,n=m+2:=⟨n - 2,by omega⟩
 grind[prt_succ]
structure DgA where
 U:List Int
 j:Nat
 len:Nat
 n:Nat
 v:List Int
def DgA.x (a:DgA):Int:=valN (prt a.U a.j (a.v.length+1))
def DgA.ok (a:DgA):Prop:=(Dig a.U∧Dig a.v)∧(a.len=a.v.length+1∧a.n=a.U.length)∧(2≤a.v.length∧a.j+a.v.length+1≤a.U.length∧a.U.length≤200000000000)∧
 2147483648≤nthD a.v (a.v.length - 1) 0∧a.x<4294967296*valN a.v
def DgA.row (a:DgA):List Int:=wth a.U a.j (digK (a.v.length+1) (a.x % valN a.v))
def r169:OCtr where
 f:=102
 α:=DgA
 put a:=[.oc 0 a.j a.len a.n 1,.row (.i .u32) a.v]
 st a:=[.row (.i .u32) a.U 90 false]
 dec v o:=match v,o with
  |[.oc 0 j len n 1,v],[.row t l 90 false]=>match decRow (.i .u32) v,castL t (.i .u32) l with
   |some v,some l=>some ⟨l,j,len,n,v⟩
   |_,_=>none
  |_,_=>none
 ok v o a h:=by
  split at h
  ·split at h
   ·rename_i h1 h2
    simp only[Option.some.injEq] at h;subst h
    obtain⟨rfl,hh⟩:=castL_eq h2
    cases hh
    exact⟨by simp only[gL,decRow_ok h1],rfl⟩
   ·cases h
  ·cases h
 inj a b h1 h2:=by
  obtain⟨U,j,len,n,v⟩:=a
  obtain⟨U',j',len',n',v'⟩:=b
  simp only[gL,List.cons.injEq,and_true] at h1
  obtain⟨g1,g2⟩:=h1
  have e2:=(codR (.i .u32)).inj _ _ g2
  simp only[SV.g,AV.os.injEq,true_and,SId.sz,Nat.mul_one] at g1
  simp only[gO,List.map_cons,List.map_nil,SObj.g,List.cons.injEq,AObj.cells.injEq,and_true] at h2
  have hl:U=U':=by
   have hf:=congrArg List.length h2
   rw[flatA_len,flatA_len] at hf
   exact flatA_inj (.i .u32) (by simpa[SId.sz] using hf) h2
  obtain⟨q1,q2,q3⟩:=g1
  subst q3
  have:j=j':=by omega
  rw[e2,hl,q2,this]
 dom:=DgA.ok
 res a:=.si .u32 (a.x / valN a.v)
 out a:=[.row (.i .u32) a.row 90 false]
def st169 (U:List Int):SStore:=[.row (.i .u32) U 90 false]
def Λ169 (a:DgA):Nat→LoopAnn
 |4=> .inv (Int×Int) (fun x=>⟨[(0,.oc 0 a.j a.len a.n 1),(1,.row (.i .u32) a.v),(5,.si .i64 a.v.length),(7,.si .u64 x.1),(8,.si .u64 x.2)],st169 a.U⟩) (fun s=>(iS s 7,iS s 8))
  (fun x=>(0≤x.1∧x.1≤4294967297)∧(0≤x.2∧x.2<4294967296)∧x.1*nthD a.v (a.v.length - 1) 0+x.2=nthD a.U (a.j+(a.v.length - 1)) 0+4294967296*nthD a.U (a.j+a.v.length) 0∧a.x<(x.1+1)*valN a.v) (fun x=>x.1.toNat) fun _ _=> .look
 |10=> .inv (Int×Int×Int×Int×List Int) (fun x=>⟨[(0,.oc 0 a.j a.len a.n 1),(1,.row (.i .u32) a.v),(5,.si .i64 a.v.length),(7,.si .u64 x.2.1),(9,.si .u64 x.2.2.1),(10,.si .u64 x.2.2.2.1),(82,.si .i64 a.v.length),(83,.si .i64 x.1)],st169 x.2.2.2.2⟩)
  (fun s=>(iS s 83,iS s 7,iS s 9,iS s 10,oS (.i .u32) s 0))
  (fun x=>(0≤x.1∧x.1≤a.v.length)∧(0≤x.2.1∧x.2.1<4294967296)∧(a.x<(x.2.1+1)*valN a.v∧x.2.1*valN a.v<a.x+valN a.v)∧(0≤x.2.2.1∧x.2.2.1<4294967296)∧(0≤x.2.2.2.1∧x.2.2.2.1≤1)∧(Dig x.2.2.2.2∧x.2.2.2.2.length=a.U.length)∧
   (∀m,(m<a.j∨a.j+x.1.toNat≤m)→nthD x.2.2.2.2 m 0=nthD a.U m 0)∧
   valN (prt x.2.2.2.2 a.j x.1.toNat)=valN (prt a.U a.j x.1.toNat) - x.2.1*valN (a.v.take x.1.toNat)+4294967296^x.1.toNat*(x.2.2.1+x.2.2.2.1)) (fun x=>(a.v.length - x.1).toNat) fun _ _=> .look
 |23=> .inv (Int×Int×Int×List Int) (fun x=>⟨[(0,.oc 0 a.j a.len a.n 1),(1,.row (.i .u32) a.v),(5,.si .i64 a.v.length),(7,.si .u64 x.2.1),(9,.si .u64 x.2.2.1),(134,.si .i64 a.v.length),(135,.si .i64 x.1)],st169 x.2.2.2⟩)
  (fun s=>(iS s 135,iS s 7,iS s 9,oS (.i .u32) s 0))
  (fun x=>(0≤x.1∧x.1≤a.v.length)∧(0≤x.2.1∧x.2.1<4294967296)∧(a.x<x.2.1*valN a.v∧x.2.1*valN a.v<a.x+valN a.v)∧(0≤x.2.2.1∧x.2.2.1≤1)∧(Dig x.2.2.2∧x.2.2.2.length=a.U.length)∧
   ∃W,(Dig W∧W.length=a.U.length)∧(∀m,(m<a.j∨a.j+(a.v.length+1)≤m)→nthD W m 0=nthD a.U m 0)∧valN (prt W a.j (a.v.length+1))=a.x - x.2.1*valN a.v+4294967296^(a.v.length+1)∧
    (∀m,(m<a.j∨a.j+x.1.toNat≤m)→nthD x.2.2.2 m 0=nthD W m 0)∧valN (prt x.2.2.2 a.j x.1.toNat)+4294967296^x.1.toNat*x.2.2.1=valN (prt W a.j x.1.toNat)+valN (a.v.take x.1.toNat))
  (fun x=>(a.v.length - x.1).toNat) fun _ _=> .look
 |_=> .look
theorem h169:HoldsO Tryz.prog r169:=by
 refine conO (L:=[]) (W:=[]) r169 Λ169 (by simp) (by simp) ?_
 rintro⟨U,j,len,n,v⟩ ⟨⟨hU,hv⟩,⟨e1,e2⟩,⟨hn,hj,hlU⟩,hv1,hx⟩
 simp only at hU hv hn hj hlU hv1 hx e1 e2
 subst e1 e2
 refine vcOf (let z0:=(↑v.length:Int);let z1:=v.length+1;let z2:=(↑z1:Int);let z3:=z0 - (1:Int);let z4:=nthD v z3.toNat (0:Int) % (18446744073709551616:Int);let z5:=binK.orI .u64 (nthD U (j+z0.toNat) 0 % (18446744073709551616:Int)*(4294967296:Int) % (18446744073709551616:Int)) (nthD U (j+z3.toNat) 0 % (18446744073709551616:Int));let z6:=z5.tdiv z4;let z7:=SV.oc 0 j z1 U.length 1;let z8:=SId.i .u32;let z9:=(↑v.length:Int);let z10:=SV.si .i64 z9;let z11:=SV.si .u64 z6;let z12:=z5.tmod z4;let z13:=SV.si .u64 z12;let z14:=SObj.row z8 U 90 false;let z15:=v.length - 1;let z16:=nthD v z15 (0:Int);let z17:=nthD U (j+z15) 0+(4294967296:Int)*nthD U (j+v.length) 0;let z18:=DgA.mk U j z1 U.length v;let z19:=z18.x;let z20:=z9 - (1:Int);let z21:=nthD v z20.toNat (0:Int) % (18446744073709551616:Int);let z22:=z19+valN v;let z23:=valN (prt U j 0);let z24:=j+z9.toNat;let z25:=SV.si .u32 (z19 / valN v);let z26:=SObj.row z8 z18.row 90 false;let z27:=(4294967296:Int)^z1;let z28:=z9 - (2:Int);U.length=U.length∧(0:Int)≤z0∧z0<z2∧j+z1≤U.length∧U.length=U.length∧j+z0.toNat<U.length∧(0:Int)≤(32:Int)∧(32:Int)≤(64:Int)∧inR .i64 z3∧U.length=U.length∧(0:Int)≤z3∧z3<z2∧j+z1≤U.length∧U.length=U.length∧j+z3.toNat<U.length∧inR .i64 z3∧(0:Int)≤z3∧z3<z0∧z3.toNat<v.length∧z4≠(0:Int)∧inR .u64 z6∧inR .i64 z3∧(0:Int)≤z3∧z3<z0∧z3.toNat<v.length∧z4≠(0:Int)∧(((z7.same z7∧(SV.row z8 v).same (SV.row z8 v)∧(SV.si .i64 z0).same z10∧z11.same z11∧z13.same z13∧True)∧z14.same z14∧True)∧((0:Int)≤z6∧z6≤(4294967297:Int))∧((0:Int)≤z12∧z12<(4294967296:Int))∧z6*z16+z12=z17∧z19<(z6+(1:Int))*valN v)∧∀(x:Int×Int),let z29:=decide ((4294967296:Int)≤x.fst);let z30:=(x.snd+z21) % (18446744073709551616:Int);let z31:=decide ((4294967296:Int)≤z30);let z32:=(x.fst - (1:Int)) % (18446744073709551616:Int);let z33:=SV.si .u64 z32;let z34:=SV.si .u64 z30;let z35:=decide (binK.orI .u64 (x.snd*(4294967296:Int) % (18446744073709551616:Int)) (nthD U (j+z28.toNat) 0 % (18446744073709551616:Int))<x.fst*(nthD v z28.toNat (0:Int) % (18446744073709551616:Int)) % (18446744073709551616:Int));let z36:=SV.si .u64 x.fst;((0:Int)≤x.fst∧x.fst≤(4294967297:Int))∧((0:Int)≤x.snd∧x.snd<(4294967296:Int))∧x.fst*z16+x.snd=z17∧z19<(x.fst+(1:Int))*valN v→(z29=true→inR .i64 z20∧(0:Int)≤z20∧z20<z0∧z20.toNat<v.length∧(z31=true→(((z7.same z7∧(SV.row z8 v).same (SV.row z8 v)∧z10.same z10∧z33.same z33∧(SV.il .u64 0).same (SV.si .u64 0)∧(SV.il .u64 0).same (SV.si .u64 0)∧z10.same z10∧(SV.il .i64 0).same (SV.si .i64 0)∧True)∧z14.same z14∧True)∧((0:Int)≤(0:Int)∧(0:Int)≤z9)∧((0:Int)≤z32∧z32<(4294967296:Int))∧(z19<(z32+(1:Int))*valN v∧z32*valN v<z22)∧((0:Int)≤(0:Int)∧(0:Int)<(4294967296:Int))∧((0:Int)≤(0:Int)∧(0:Int)≤(1:Int))∧(Dig U∧U.length=U.length)∧(∀(m:Nat),m<j∨j+0≤m→nthD U m (0:Int)=nthD U m (0:Int))∧z23=z23 - z32*valN []+(0:Int))∧∀(x:Int×Int×Int×Int×List Int),let z37:=x.snd.fst*valN v;let z38:=x.snd.snd.fst;let z39:=x.snd.snd.snd.fst;let z40:=x.snd.snd.snd.snd;let z41:=x.fst.toNat;let z42:=x.fst+(1:Int);let z43:=SV.si .u64 x.snd.fst;let z44:=(x.snd.fst*(nthD v z41 (0:Int) % (18446744073709551616:Int)) % (18446744073709551616:Int)+z38) % (18446744073709551616:Int);let z45:=z44 / (4294967296:Int);let z46:=SV.si .u64 z45;let z47:=((nthD z40 (j+z41) 0 % (18446744073709551616:Int) - binK.andI .u64 z44 (4294967295:Int)) % (18446744073709551616:Int) - z39) % (18446744073709551616:Int);let z48:=z47 / (9223372036854775808:Int);let z49:=SV.si .u64 z48;let z50:=SV.si .i64 z42;let z51:=z40.set (j+z41) (z47 % (4294967296:Int));let z52:=SObj.row z8 z51 90 false;let z53:=z42.toNat;let z54:=((nthD z40 z24 (0:Int) % (18446744073709551616:Int) - z38) % (18446744073709551616:Int) - z39) % (18446744073709551616:Int);let z55:=decide (z54 / (9223372036854775808:Int)=(0:Int));let z56:=z40.set z24 (z54 % (4294967296:Int));let z57:=SObj.row z8 z56 90 false;((0:Int)≤x.fst∧x.fst≤z9)∧((0:Int)≤x.snd.fst∧x.snd.fst<(4294967296:Int))∧(z19<(x.snd.fst+(1:Int))*valN v∧z37<z22)∧((0:Int)≤z38∧z38<(4294967296:Int))∧((0:Int)≤z39∧z39≤(1:Int))∧(Dig z40∧z40.length=U.length)∧(∀(m:Nat),m<j∨j+z41≤m→nthD z40 m (0:Int)=nthD U m (0:Int))∧valN (prt z40 j z41)=valN (prt U j z41) - x.snd.fst*valN (List.take z41 v)+(4294967296:Int)^z41*(z38+z39)→(decide (x.fst<z9)=true→(0:Int)≤x.fst∧x.fst<z0∧z41<v.length∧(0:Int)≤(32:Int)∧(32:Int)≤(64:Int)∧U.length=z40.length∧(0:Int)≤x.fst∧x.fst<z2∧j+z1≤U.length∧U.length=z40.length∧j+z41<z40.length∧(0:Int)≤(63:Int)∧(63:Int)≤(64:Int)∧U.length=z40.length∧(0:Int)≤x.fst∧x.fst<z2∧j+z1≤U.length∧U.length=z40.length∧j+z41<z40.length∧inR .i64 z42∧((z7.same z7∧(SV.row z8 v).same (SV.row z8 v)∧z10.same z10∧z43.same z43∧z46.same z46∧z49.same z49∧z10.same z10∧z50.same z50∧True)∧z52.same z52∧True)∧(((0:Int)≤z42∧z42≤z9)∧((0:Int)≤x.snd.fst∧x.snd.fst<(4294967296:Int))∧(z19<(x.snd.fst+(1:Int))*valN v∧z37<z22)∧((0:Int)≤z45∧z45<(4294967296:Int))∧((0:Int)≤z48∧z48≤(1:Int))∧(Dig z51∧z51.length=U.length)∧(∀(m:Nat),m<j∨j+z53≤m→nthD z51 m (0:Int)=nthD U m (0:Int))∧valN (prt z51 j z53)=valN (prt U j z53) - x.snd.fst*valN (List.take z53 v)+(4294967296:Int)^z53*(z45+z48))∧(z9 - z42).toNat<(z9 - x.fst).toNat)∧(decide (x.fst<z9)=false→U.length=z40.length∧(0:Int)≤z9∧z9<z2∧j+z1≤U.length∧U.length=z40.length∧z24<z40.length∧U.length=z40.length∧(0:Int)≤z9∧z9<z2∧j+z1≤U.length∧U.length=z40.length∧z24<z40.length∧(0:Int)≤(63:Int)∧(63:Int)≤(64:Int)∧(z55=true→(SV.si .u32 (x.snd.fst % (4294967296:Int))).same z25∧z57.same z26∧True)∧(z55=false→(((z7.same z7∧(SV.row z8 v).same (SV.row z8 v)∧z10.same z10∧z43.same z43∧(SV.il .u64 0).same (SV.si .u64 0)∧z10.same z10∧(SV.il .i64 0).same (SV.si .i64 0)∧True)∧z57.same z57∧True)∧((0:Int)≤(0:Int)∧(0:Int)≤z9)∧((0:Int)≤x.snd.fst∧x.snd.fst<(4294967296:Int))∧(z19<z37∧z37<z22)∧((0:Int)≤(0:Int)∧(0:Int)≤(1:Int))∧(Dig z56∧z56.length=U.length)∧∃W,(Dig W∧W.length=U.length)∧(∀(m:Nat),m<j∨j+z1≤m→nthD W m (0:Int)=nthD U m (0:Int))∧valN (prt W j z1)=z19 - z37+z27∧(∀(m:Nat),m<j∨j+0≤m→nthD z56 m (0:Int)=nthD W m (0:Int))∧valN (prt z56 j 0)+(0:Int)=valN (prt W j 0)+valN [])∧∀(x:Int×Int×Int×List Int),let z58:=x.snd.fst*valN v;let z59:=x.snd.snd.fst;let z60:=x.snd.snd.snd;let z61:=x.fst.toNat;let z62:=x.fst+(1:Int);let z63:=SV.si .u64 x.snd.fst;let z64:=((nthD z60 (j+z61) 0 % (18446744073709551616:Int)+nthD v z61 (0:Int) % (18446744073709551616:Int)) % (18446744073709551616:Int)+z59) % (18446744073709551616:Int);let z65:=z64 / (4294967296:Int);let z66:=SV.si .u64 z65;let z67:=SV.si .i64 z62;let z68:=z60.set (j+z61) (z64 % (4294967296:Int));let z69:=SObj.row z8 z68 90 false;let z70:=z62.toNat;(((0:Int)≤x.fst∧x.fst≤z9)∧((0:Int)≤x.snd.fst∧x.snd.fst<(4294967296:Int))∧(z19<z58∧z58<z22)∧((0:Int)≤z59∧z59≤(1:Int))∧(Dig z60∧z60.length=U.length)∧∃W,(Dig W∧W.length=U.length)∧(∀(m:Nat),m<j∨j+z1≤m→nthD W m (0:Int)=nthD U m (0:Int))∧valN (prt W j z1)=z19 - z58+z27∧(∀(m:Nat),m<j∨j+z61≤m→nthD z60 m (0:Int)=nthD W m (0:Int))∧valN (prt z60 j z61)+(4294967296:Int)^z61*z59=valN (prt W j z61)+valN (List.take z61 v))→(decide (x.fst<z9)=true→U.length=z60.length∧(0:Int)≤x.fst∧x.fst<z2∧j+z1≤U.length∧U.length=z60.length∧j+z61<z60.length∧(0:Int)≤x.fst∧x.fst<z0∧z61<v.length∧(0:Int)≤(32:Int)∧(32:Int)≤(64:Int)∧U.length=z60.length∧(0:Int)≤x.fst∧x.fst<z2∧j+z1≤U.length∧U.length=z60.length∧j+z61<z60.length∧inR .i64 z62∧((z7.same z7∧(SV.row z8 v).same (SV.row z8 v)∧z10.same z10∧z63.same z63∧z66.same z66∧z10.same z10∧z67.same z67∧True)∧z69.same z69∧True)∧(((0:Int)≤z62∧z62≤z9)∧((0:Int)≤x.snd.fst∧x.snd.fst<(4294967296:Int))∧(z19<z58∧z58<z22)∧((0:Int)≤z65∧z65≤(1:Int))∧(Dig z68∧z68.length=U.length)∧∃W,(Dig W∧W.length=U.length)∧(∀(m:Nat),m<j∨j+z1≤m→nthD W m (0:Int)=nthD U m (0:Int))∧valN (prt W j z1)=z19 - z58+z27∧(∀(m:Nat),m<j∨j+z70≤m→nthD z68 m (0:Int)=nthD W m (0:Int))∧valN (prt z68 j z70)+(4294967296:Int)^z70*z65=valN (prt W j z70)+valN (List.take z70 v))∧(z9 - z62).toNat<(z9 - x.fst).toNat)∧(decide (x.fst<z9)=false→U.length=z60.length∧(0:Int)≤z9∧z9<z2∧j+z1≤U.length∧U.length=z60.length∧z24<z60.length∧U.length=z60.length∧(0:Int)≤z9∧z9<z2∧j+z1≤U.length∧U.length=z60.length∧z24<z60.length∧(SV.si .u32 ((x.snd.fst - (1:Int)) % (18446744073709551616:Int) % (4294967296:Int))).same z25∧(SObj.row z8 (z60.set z24 ((nthD z60 z24 (0:Int)+z59 % (4294967296:Int)) % (4294967296:Int))) 90 false).same z26∧True))))∧(z31=false→((z7.same z7∧(SV.row z8 v).same (SV.row z8 v)∧z10.same z10∧z33.same z33∧z34.same z34∧True)∧z14.same z14∧True)∧(((0:Int)≤z32∧z32≤(4294967297:Int))∧((0:Int)≤z30∧z30<(4294967296:Int))∧z32*z16+z30=z17∧z19<(z32+(1:Int))*valN v)∧z32.toNat<x.fst.toNat))∧(z29=false→inR .i64 z28∧(0:Int)≤z28∧z28<z0∧z28.toNat<v.length∧(0:Int)≤(32:Int)∧(32:Int)≤(64:Int)∧inR .i64 z28∧U.length=U.length∧(0:Int)≤z28∧z28<z2∧j+z1≤U.length∧U.length=U.length∧j+z28.toNat<U.length∧(z35=true→inR .i64 z20∧(0:Int)≤z20∧z20<z0∧z20.toNat<v.length∧(z31=true→(((z7.same z7∧(SV.row z8 v).same (SV.row z8 v)∧z10.same z10∧z33.same z33∧(SV.il .u64 0).same (SV.si .u64 0)∧(SV.il .u64 0).same (SV.si .u64 0)∧z10.same z10∧(SV.il .i64 0).same (SV.si .i64 0)∧True)∧z14.same z14∧True)∧((0:Int)≤(0:Int)∧(0:Int)≤z9)∧((0:Int)≤z32∧z32<(4294967296:Int))∧(z19<(z32+(1:Int))*valN v∧z32*valN v<z22)∧((0:Int)≤(0:Int)∧(0:Int)<(4294967296:Int))∧((0:Int)≤(0:Int)∧(0:Int)≤(1:Int))∧(Dig U∧U.length=U.length)∧(∀(m:Nat),m<j∨j+0≤m→nthD U m (0:Int)=nthD U m (0:Int))∧z23=z23 - z32*valN []+(0:Int))∧∀(x:Int×Int×Int×Int×List Int),let z71:=x.snd.fst*valN v;let z72:=x.snd.snd.fst;let z73:=x.snd.snd.snd.fst;let z74:=x.snd.snd.snd.snd;let z75:=x.fst.toNat;let z76:=x.fst+(1:Int);let z77:=SV.si .u64 x.snd.fst;let z78:=(x.snd.fst*(nthD v z75 (0:Int) % (18446744073709551616:Int)) % (18446744073709551616:Int)+z72) % (18446744073709551616:Int);let z79:=z78 / (4294967296:Int);let z80:=SV.si .u64 z79;let z81:=((nthD z74 (j+z75) 0 % (18446744073709551616:Int) - binK.andI .u64 z78 (4294967295:Int)) % (18446744073709551616:Int) - z73) % (18446744073709551616:Int);let z82:=z81 / (9223372036854775808:Int);let z83:=SV.si .u64 z82;let z84:=SV.si .i64 z76;let z85:=z74.set (j+z75) (z81 % (4294967296:Int));let z86:=SObj.row z8 z85 90 false;let z87:=z76.toNat;let z88:=((nthD z74 z24 (0:Int) % (18446744073709551616:Int) - z72) % (18446744073709551616:Int) - z73) % (18446744073709551616:Int);let z89:=decide (z88 / (9223372036854775808:Int)=(0:Int));let z90:=z74.set z24 (z88 % (4294967296:Int));let z91:=SObj.row z8 z90 90 false;((0:Int)≤x.fst∧x.fst≤z9)∧((0:Int)≤x.snd.fst∧x.snd.fst<(4294967296:Int))∧(z19<(x.snd.fst+(1:Int))*valN v∧z71<z22)∧((0:Int)≤z72∧z72<(4294967296:Int))∧((0:Int)≤z73∧z73≤(1:Int))∧(Dig z74∧z74.length=U.length)∧(∀(m:Nat),m<j∨j+z75≤m→nthD z74 m (0:Int)=nthD U m (0:Int))∧valN (prt z74 j z75)=valN (prt U j z75) - x.snd.fst*valN (List.take z75 v)+(4294967296:Int)^z75*(z72+z73)→(decide (x.fst<z9)=true→(0:Int)≤x.fst∧x.fst<z0∧z75<v.length∧(0:Int)≤(32:Int)∧(32:Int)≤(64:Int)∧U.length=z74.length∧(0:Int)≤x.fst∧x.fst<z2∧j+z1≤U.length∧U.length=z74.length∧j+z75<z74.length∧(0:Int)≤(63:Int)∧(63:Int)≤(64:Int)∧U.length=z74.length∧(0:Int)≤x.fst∧x.fst<z2∧j+z1≤U.length∧U.length=z74.length∧j+z75<z74.length∧inR .i64 z76∧((z7.same z7∧(SV.row z8 v).same (SV.row z8 v)∧z10.same z10∧z77.same z77∧z80.same z80∧z83.same z83∧z10.same z10∧z84.same z84∧True)∧z86.same z86∧True)∧(((0:Int)≤z76∧z76≤z9)∧((0:Int)≤x.snd.fst∧x.snd.fst<(4294967296:Int))∧(z19<(x.snd.fst+(1:Int))*valN v∧z71<z22)∧((0:Int)≤z79∧z79<(4294967296:Int))∧((0:Int)≤z82∧z82≤(1:Int))∧(Dig z85∧z85.length=U.length)∧(∀(m:Nat),m<j∨j+z87≤m→nthD z85 m (0:Int)=nthD U m (0:Int))∧valN (prt z85 j z87)=valN (prt U j z87) - x.snd.fst*valN (List.take z87 v)+(4294967296:Int)^z87*(z79+z82))∧(z9 - z76).toNat<(z9 - x.fst).toNat)∧(decide (x.fst<z9)=false→U.length=z74.length∧(0:Int)≤z9∧z9<z2∧j+z1≤U.length∧U.length=z74.length∧z24<z74.length∧U.length=z74.length∧(0:Int)≤z9∧z9<z2∧j+z1≤U.length∧U.length=z74.length∧z24<z74.length∧(0:Int)≤(63:Int)∧(63:Int)≤(64:Int)∧(z89=true→(SV.si .u32 (x.snd.fst % (4294967296:Int))).same z25∧z91.same z26∧True)∧(z89=false→(((z7.same z7∧(SV.row z8 v).same (SV.row z8 v)∧z10.same z10∧z77.same z77∧(SV.il .u64 0).same (SV.si .u64 0)∧z10.same z10∧(SV.il .i64 0).same (SV.si .i64 0)∧True)∧z91.same z91∧True)∧((0:Int)≤(0:Int)∧(0:Int)≤z9)∧((0:Int)≤x.snd.fst∧x.snd.fst<(4294967296:Int))∧(z19<z71∧z71<z22)∧((0:Int)≤(0:Int)∧(0:Int)≤(1:Int))∧(Dig z90∧z90.length=U.length)∧∃W,(Dig W∧W.length=U.length)∧(∀(m:Nat),m<j∨j+z1≤m→nthD W m (0:Int)=nthD U m (0:Int))∧valN (prt W j z1)=z19 - z71+z27∧(∀(m:Nat),m<j∨j+0≤m→nthD z90 m (0:Int)=nthD W m (0:Int))∧valN (prt z90 j 0)+(0:Int)=valN (prt W j 0)+valN [])∧∀(x:Int×Int×Int×List Int),let z92:=x.snd.fst*valN v;let z93:=x.snd.snd.fst;let z94:=x.snd.snd.snd;let z95:=x.fst.toNat;let z96:=x.fst+(1:Int);let z97:=SV.si .u64 x.snd.fst;let z98:=((nthD z94 (j+z95) 0 % (18446744073709551616:Int)+nthD v z95 (0:Int) % (18446744073709551616:Int)) % (18446744073709551616:Int)+z93) % (18446744073709551616:Int);let z99:=z98 / (4294967296:Int);let z100:=SV.si .u64 z99;let z101:=SV.si .i64 z96;let z102:=z94.set (j+z95) (z98 % (4294967296:Int));let z103:=SObj.row z8 z102 90 false;let z104:=z96.toNat;(((0:Int)≤x.fst∧x.fst≤z9)∧((0:Int)≤x.snd.fst∧x.snd.fst<(4294967296:Int))∧(z19<z92∧z92<z22)∧((0:Int)≤z93∧z93≤(1:Int))∧(Dig z94∧z94.length=U.length)∧∃W,(Dig W∧W.length=U.length)∧(∀(m:Nat),m<j∨j+z1≤m→nthD W m (0:Int)=nthD U m (0:Int))∧valN (prt W j z1)=z19 - z92+z27∧(∀(m:Nat),m<j∨j+z95≤m→nthD z94 m (0:Int)=nthD W m (0:Int))∧valN (prt z94 j z95)+(4294967296:Int)^z95*z93=valN (prt W j z95)+valN (List.take z95 v))→(decide (x.fst<z9)=true→U.length=z94.length∧(0:Int)≤x.fst∧x.fst<z2∧j+z1≤U.length∧U.length=z94.length∧j+z95<z94.length∧(0:Int)≤x.fst∧x.fst<z0∧z95<v.length∧(0:Int)≤(32:Int)∧(32:Int)≤(64:Int)∧U.length=z94.length∧(0:Int)≤x.fst∧x.fst<z2∧j+z1≤U.length∧U.length=z94.length∧j+z95<z94.length∧inR .i64 z96∧((z7.same z7∧(SV.row z8 v).same (SV.row z8 v)∧z10.same z10∧z97.same z97∧z100.same z100∧z10.same z10∧z101.same z101∧True)∧z103.same z103∧True)∧(((0:Int)≤z96∧z96≤z9)∧((0:Int)≤x.snd.fst∧x.snd.fst<(4294967296:Int))∧(z19<z92∧z92<z22)∧((0:Int)≤z99∧z99≤(1:Int))∧(Dig z102∧z102.length=U.length)∧∃W,(Dig W∧W.length=U.length)∧(∀(m:Nat),m<j∨j+z1≤m→nthD W m (0:Int)=nthD U m (0:Int))∧valN (prt W j z1)=z19 - z92+z27∧(∀(m:Nat),m<j∨j+z104≤m→nthD z102 m (0:Int)=nthD W m (0:Int))∧valN (prt z102 j z104)+(4294967296:Int)^z104*z99=valN (prt W j z104)+valN (List.take z104 v))∧(z9 - z96).toNat<(z9 - x.fst).toNat)∧(decide (x.fst<z9)=false→U.length=z94.length∧(0:Int)≤z9∧z9<z2∧j+z1≤U.length∧U.length=z94.length∧z24<z94.length∧U.length=z94.length∧(0:Int)≤z9∧z9<z2∧j+z1≤U.length∧U.length=z94.length∧z24<z94.length∧(SV.si .u32 ((x.snd.fst - (1:Int)) % (18446744073709551616:Int) % (4294967296:Int))).same z25∧(SObj.row z8 (z94.set z24 ((nthD z94 z24 (0:Int)+z93 % (4294967296:Int)) % (4294967296:Int))) 90 false).same z26∧True))))∧(z31=false→((z7.same z7∧(SV.row z8 v).same (SV.row z8 v)∧z10.same z10∧z33.same z33∧z34.same z34∧True)∧z14.same z14∧True)∧(((0:Int)≤z32∧z32≤(4294967297:Int))∧((0:Int)≤z30∧z30<(4294967296:Int))∧z32*z16+z30=z17∧z19<(z32+(1:Int))*valN v)∧z32.toNat<x.fst.toNat))∧(z35=false→(((z7.same z7∧(SV.row z8 v).same (SV.row z8 v)∧z10.same z10∧z36.same z36∧(SV.il .u64 0).same (SV.si .u64 0)∧(SV.il .u64 0).same (SV.si .u64 0)∧z10.same z10∧(SV.il .i64 0).same (SV.si .i64 0)∧True)∧z14.same z14∧True)∧((0:Int)≤(0:Int)∧(0:Int)≤z9)∧((0:Int)≤x.fst∧x.fst<(4294967296:Int))∧(z19<(x.fst+(1:Int))*valN v∧x.fst*valN v<z22)∧((0:Int)≤(0:Int)∧(0:Int)<(4294967296:Int))∧((0:Int)≤(0:Int)∧(0:Int)≤(1:Int))∧(Dig U∧U.length=U.length)∧(∀(m:Nat),m<j∨j+0≤m→nthD U m (0:Int)=nthD U m (0:Int))∧z23=z23 - x.fst*valN []+(0:Int))∧∀(x:Int×Int×Int×Int×List Int),let z105:=x.snd.fst*valN v;let z106:=x.snd.snd.fst;let z107:=x.snd.snd.snd.fst;let z108:=x.snd.snd.snd.snd;let z109:=x.fst.toNat;let z110:=x.fst+(1:Int);let z111:=SV.si .u64 x.snd.fst;let z112:=(x.snd.fst*(nthD v z109 (0:Int) % (18446744073709551616:Int)) % (18446744073709551616:Int)+z106) % (18446744073709551616:Int);let z113:=z112 / (4294967296:Int);let z114:=SV.si .u64 z113;let z115:=((nthD z108 (j+z109) 0 % (18446744073709551616:Int) - binK.andI .u64 z112 (4294967295:Int)) % (18446744073709551616:Int) - z107) % (18446744073709551616:Int);let z116:=z115 / (9223372036854775808:Int);let z117:=SV.si .u64 z116;let z118:=SV.si .i64 z110;let z119:=z108.set (j+z109) (z115 % (4294967296:Int));let z120:=SObj.row z8 z119 90 false;let z121:=z110.toNat;let z122:=((nthD z108 z24 (0:Int) % (18446744073709551616:Int) - z106) % (18446744073709551616:Int) - z107) % (18446744073709551616:Int);let z123:=decide (z122 / (9223372036854775808:Int)=(0:Int));let z124:=z108.set z24 (z122 % (4294967296:Int));let z125:=SObj.row z8 z124 90 false;((0:Int)≤x.fst∧x.fst≤z9)∧((0:Int)≤x.snd.fst∧x.snd.fst<(4294967296:Int))∧(z19<(x.snd.fst+(1:Int))*valN v∧z105<z22)∧((0:Int)≤z106∧z106<(4294967296:Int))∧((0:Int)≤z107∧z107≤(1:Int))∧(Dig z108∧z108.length=U.length)∧(∀(m:Nat),m<j∨j+z109≤m→nthD z108 m (0:Int)=nthD U m (0:Int))∧valN (prt z108 j z109)=valN (prt U j z109) - x.snd.fst*valN (List.take z109 v)+(4294967296:Int)^z109*(z106+z107)→(decide (x.fst<z9)=true→(0:Int)≤x.fst∧x.fst<z0∧z109<v.length∧(0:Int)≤(32:Int)∧(32:Int)≤(64:Int)∧U.length=z108.length∧(0:Int)≤x.fst∧x.fst<z2∧j+z1≤U.length∧U.length=z108.length∧j+z109<z108.length∧(0:Int)≤(63:Int)∧(63:Int)≤(64:Int)∧U.length=z108.length∧(0:Int)≤x.fst∧x.fst<z2∧j+z1≤U.length∧U.length=z108.length∧j+z109<z108.length∧inR .i64 z110∧((z7.same z7∧(SV.row z8 v).same (SV.row z8 v)∧z10.same z10∧z111.same z111∧z114.same z114∧z117.same z117∧z10.same z10∧z118.same z118∧True)∧z120.same z120∧True)∧(((0:Int)≤z110∧z110≤z9)∧((0:Int)≤x.snd.fst∧x.snd.fst<(4294967296:Int))∧(z19<(x.snd.fst+(1:Int))*valN v∧z105<z22)∧((0:Int)≤z113∧z113<(4294967296:Int))∧((0:Int)≤z116∧z116≤(1:Int))∧(Dig z119∧z119.length=U.length)∧(∀(m:Nat),m<j∨j+z121≤m→nthD z119 m (0:Int)=nthD U m (0:Int))∧valN (prt z119 j z121)=valN (prt U j z121) - x.snd.fst*valN (List.take z121 v)+(4294967296:Int)^z121*(z113+z116))∧(z9 - z110).toNat<(z9 - x.fst).toNat)∧(decide (x.fst<z9)=false→U.length=z108.length∧(0:Int)≤z9∧z9<z2∧j+z1≤U.length∧U.length=z108.length∧z24<z108.length∧U.length=z108.length∧(0:Int)≤z9∧z9<z2∧j+z1≤U.length∧U.length=z108.length∧z24<z108.length∧(0:Int)≤(63:Int)∧(63:Int)≤(64:Int)∧(z123=true→(SV.si .u32 (x.snd.fst % (4294967296:Int))).same z25∧z125.same z26∧True)∧(z123=false→(((z7.same z7∧(SV.row z8 v).same (SV.row z8 v)∧z10.same z10∧z111.same z111∧(SV.il .u64 0).same (SV.si .u64 0)∧z10.same z10∧(SV.il .i64 0).same (SV.si .i64 0)∧True)∧z125.same z125∧True)∧((0:Int)≤(0:Int)∧(0:Int)≤z9)∧((0:Int)≤x.snd.fst∧x.snd.fst<(4294967296:Int))∧(z19<z105∧z105<z22)∧((0:Int)≤(0:Int)∧(0:Int)≤(1:Int))∧(Dig z124∧z124.length=U.length)∧∃W,(Dig W∧W.length=U.length)∧(∀(m:Nat),m<j∨j+z1≤m→nthD W m (0:Int)=nthD U m (0:Int))∧valN (prt W j z1)=z19 - z105+z27∧(∀(m:Nat),m<j∨j+0≤m→nthD z124 m (0:Int)=nthD W m (0:Int))∧valN (prt z124 j 0)+(0:Int)=valN (prt W j 0)+valN [])∧∀(x:Int×Int×Int×List Int),let z126:=x.snd.fst*valN v;let z127:=x.snd.snd.fst;let z128:=x.snd.snd.snd;let z129:=x.fst.toNat;let z130:=x.fst+(1:Int);let z131:=SV.si .u64 x.snd.fst;let z132:=((nthD z128 (j+z129) 0 % (18446744073709551616:Int)+nthD v z129 (0:Int) % (18446744073709551616:Int)) % (18446744073709551616:Int)+z127) % (18446744073709551616:Int);let z133:=z132 / (4294967296:Int);let z134:=SV.si .u64 z133;let z135:=SV.si .i64 z130;let z136:=z128.set (j+z129) (z132 % (4294967296:Int));let z137:=SObj.row z8 z136 90 false;let z138:=z130.toNat;(((0:Int)≤x.fst∧x.fst≤z9)∧((0:Int)≤x.snd.fst∧x.snd.fst<(4294967296:Int))∧(z19<z126∧z126<z22)∧((0:Int)≤z127∧z127≤(1:Int))∧(Dig z128∧z128.length=U.length)∧∃W,(Dig W∧W.length=U.length)∧(∀(m:Nat),m<j∨j+z1≤m→nthD W m (0:Int)=nthD U m (0:Int))∧valN (prt W j z1)=z19 - z126+z27∧(∀(m:Nat),m<j∨j+z129≤m→nthD z128 m (0:Int)=nthD W m (0:Int))∧valN (prt z128 j z129)+(4294967296:Int)^z129*z127=valN (prt W j z129)+valN (List.take z129 v))→(decide (x.fst<z9)=true→U.length=z128.length∧(0:Int)≤x.fst∧x.fst<z2∧j+z1≤U.length∧U.length=z128.length∧j+z129<z128.length∧(0:Int)≤x.fst∧x.fst<z0∧z129<v.length∧(0:Int)≤(32:Int)∧(32:Int)≤(64:Int)∧U.length=z128.length∧(0:Int)≤x.fst∧x.fst<z2∧j+z1≤U.length∧U.length=z128.length∧j+z129<z128.length∧inR .i64 z130∧((z7.same z7∧(SV.row z8 v).same (SV.row z8 v)∧z10.same z10∧z131.same z131∧z134.same z134∧z10.same z10∧z135.same z135∧True)∧z137.same z137∧True)∧(((0:Int)≤z130∧z130≤z9)∧((0:Int)≤x.snd.fst∧x.snd.fst<(4294967296:Int))∧(z19<z126∧z126<z22)∧((0:Int)≤z133∧z133≤(1:Int))∧(Dig z136∧z136.length=U.length)∧∃W,(Dig W∧W.length=U.length)∧(∀(m:Nat),m<j∨j+z1≤m→nthD W m (0:Int)=nthD U m (0:Int))∧valN (prt W j z1)=z19 - z126+z27∧(∀(m:Nat),m<j∨j+z138≤m→nthD z136 m (0:Int)=nthD W m (0:Int))∧valN (prt z136 j z138)+(4294967296:Int)^z138*z133=valN (prt W j z138)+valN (List.take z138 v))∧(z9 - z130).toNat<(z9 - x.fst).toNat)∧(decide (x.fst<z9)=false→U.length=z128.length∧(0:Int)≤z9∧z9<z2∧j+z1≤U.length∧U.length=z128.length∧z24<z128.length∧U.length=z128.length∧(0:Int)≤z9∧z9<z2∧j+z1≤U.length∧U.length=z128.length∧z24<z128.length∧(SV.si .u32 ((x.snd.fst - (1:Int)) % (18446744073709551616:Int) % (4294967296:Int))).same z25∧(SObj.row z8 (z128.set z24 ((nthD z128 z24 (0:Int)+z127 % (4294967296:Int)) % (4294967296:Int))) 90 false).same z26∧True)))))) (by kernel_rfl) ?_
 simp only[vcs]
 have t1:((v.length:Int) - 1).toNat=v.length - 1:=by omega
 have t2:((v.length:Int) - 2).toNat=v.length - 2:=by omega
 have t3:((v.length:Int)).toNat=v.length:=by omega
 have hVe:=top_two hn rfl
 have hXe:=@top_three U j v.length hn
 have dv1:=dig_nth hv (v.length - 1)
 have dv2:=dig_nth hv (v.length - 2)
 have du0:=dig_nth hU (j+v.length)
 have du1:=dig_nth hU (j+(v.length - 1))
 have du2:=dig_nth hU (j+(v.length - 2))
 have m1:nthD v (v.length - 1) 0 % 18446744073709551616=nthD v (v.length - 1) 0:=by omega
 have m2:nthD v (v.length - 2) 0 % 18446744073709551616=nthD v (v.length - 2) 0:=by omega
 have m3:nthD U (j+v.length) 0 % 18446744073709551616=nthD U (j+v.length) 0:=by omega
 have m4:nthD U (j+(v.length - 1)) 0 % 18446744073709551616=nthD U (j+(v.length - 1)) 0:=by omega
 have m5:nthD U (j+(v.length - 2)) 0 % 18446744073709551616=nthD U (j+(v.length - 2)) 0:=by omega
 have m6:nthD U (j+v.length) 0*4294967296 % 18446744073709551616=nthD U (j+v.length) 0*4294967296:=by omega
 have hor:=or_add du0.1 du0.2 du1.1 du1.2
 have htop:0≤nthD U (j+v.length) 0*4294967296+nthD U (j+(v.length - 1)) 0:=by omega
 have hx':valN (prt U j (v.length+1))<4294967296*valN v:=hx
 have hP:=pow_pos (v.length - 2)
 have hrv:=val_nonneg (dig_take hv (v.length - 2))
 have hrv2:=val_bdN (dig_take hv (v.length - 2))
 rw[List.length_take,Nat.min_eq_left (by omega)] at hrv2
 have hru:=val_nonneg (prt_dig hU (j:=j) (k:=v.length - 2))
 have hru2:=prt_bd hU (j:=j) (k:=v.length - 2)
 have hV0:=val_nonneg hv
 have hX0:=val_nonneg (prt_dig hU (j:=j) (k:=v.length+1))
 have htp:=kn_top hP hVe hXe hrv2 hru du2.1 du1.1 dv2.2 hx'
 have hax:(DgA.mk U j (v.length+1) U.length v).x=valN (prt U j (v.length+1)):=rfl
 simp only[hax,t1,t2,t3,m1,m2,m3,m4,m5,m6,hor,Int.tdiv_eq_ediv_of_nonneg htop,Int.tmod_eq_emod_of_nonneg htop]
 generalize hv1e:nthD v (v.length - 1) 0=v1 at*
 generalize hv2e:nthD v (v.length - 2) 0=v2 at*
 generalize hu0e:nthD U (j+v.length) 0=u0 at*
 generalize hu1e:nthD U (j+(v.length - 1)) 0=u1 at*
 generalize hu2e:nthD U (j+(v.length - 2)) 0=u2 at*
 have hqr:=Int.mul_ediv_add_emod (u0*4294967296+u1) v1
 have hr0:=Int.emod_nonneg (u0*4294967296+u1) (show v1≠0 by omega)
 have hr1:=Int.emod_lt_of_pos (u0*4294967296+u1) (show 0<v1 by omega)
 have hg0:0≤(u0*4294967296+u1) / v1:=Int.ediv_nonneg htop (by omega)
 generalize hge:(u0*4294967296+u1) / v1=g0 at*
 generalize hre:(u0*4294967296+u1) % v1=r0 at*
 have hg1:g0≤4294967297:=by
  by_cases h:g0≤4294967297
  ·exact h
  ·exfalso
   have:=Int.mul_le_mul_of_nonneg_left (show(4294967298:Int)≤g0 by omega) (show 0≤v1 by omega)
   omega
 have hqr2:g0*v1+r0=u1+4294967296*u0:=by rw[Int.mul_comm g0];omega
 have hst:=kn_start hP hVe hXe hrv hru2 dv2.1 du2.2 hg0 hqr2 hr1
 have hin:inR .u64 g0:=u64_in hg0 (by omega)
 repeat refine And.intro (by omega) ?_
 clear t1 t2 t3 m1 m2 m3 m4 m5 m6 hor htop hge hre hqr hr0 hr1 hg0 hg1 hqr2 hst hin hv1e hv2e hu1e hu2e hx
 rintro⟨g,r⟩ ⟨⟨g0',g1'⟩,⟨r0',r1'⟩,hgr,hgx⟩
 simp only at g0' g1' r0' r1' hgr hgx ⊢
 have hgpos:0<g+1:=by omega
 have e1:(r+v1) % 18446744073709551616=r+v1:=by omega
 have e2:r*4294967296 % 18446744073709551616=r*4294967296:=by omega
 have gv0:0≤g*v2:=Int.mul_nonneg g0' dv2.1
 have gv1:g*v2≤4294967297*4294967295:=Int.mul_le_mul (by omega) (by omega) dv2.1 (by omega)
 have e3:g*v2 % 18446744073709551616=g*v2:=by omega
 have hor2:=or_add r0' r1' du2.1 du2.2
 have hgr2:g*v1+r=u1+4294967296*u0:=hgr
 have hbrk:4294967296≤r+v1→g≤4294967296:=fun h=>by
  by_cases hg:g≤4294967296
  ·exact hg
  ·have:g=4294967297:=by omega
   subst this
   omega
 have dec:(4294967296≤g∨r*4294967296+u2<g*v2)→(valN (prt U j (v.length+1))<g*valN v∧(g - 1) % 18446744073709551616=g - 1∧0≤g - 1∧(g - 1)*v1+(r+v1)=u1+4294967296*u0):=fun h=>by
  have h1:=kn_gt hP hVe hXe hrv hru2 hx' hV0 g0' hgr2 h
  have h2:g≠0:=by
   rintro rfl
   omega
  refine⟨h1,by omega,by omega,?_⟩
  rw[Int.sub_mul,Int.one_mul]
  omega
 simp only[e1,e2,e3,hor2]
 have brk:(4294967296≤g∨r*4294967296+u2<g*v2)→4294967296≤r+v1→∃gg,gg=(g - 1) % 18446744073709551616∧(0≤gg∧gg<4294967296)∧valN (prt U j (v.length+1))<(gg+1)*valN v∧gg*valN v<valN (prt U j (v.length+1))+valN v:=fun h hb=>by
  obtain⟨k1,k2,k3,k4⟩:=dec h
  have k5:=hbrk hb
  rw[k2]
  refine⟨_,rfl,by omega,by rw[show g - 1+1=g by omega];exact k1,kn_le hP hVe hXe hrv hrv2 hru hv1 dv2.1 k3 (by omega) k4 ?_⟩
  have:=Int.mul_le_mul (show g - 1≤4294967295 by omega) (show v2≤4294967295 by omega) dv2.1 (by omega)
  omega
 have nbr:(4294967296≤g∨r*4294967296+u2<g*v2)→¬4294967296≤r+v1→(0≤(g - 1) % 18446744073709551616∧(g - 1) % 18446744073709551616≤4294967297)∧(g - 1) % 18446744073709551616*v1+(r+v1)=u1+4294967296*u0∧valN (prt U j (v.length+1))<((g - 1) % 18446744073709551616+1)*valN v∧((g - 1) % 18446744073709551616).toNat<g.toNat:=fun h hb=>by
  obtain⟨k1,k2,k3,k4⟩:=dec h
  rw[k2]
  exact⟨by omega,k4,by rw[show g - 1+1=g by omega];exact k1,by omega⟩
 have ext:¬4294967296≤g→¬r*4294967296+u2<g*v2→∃gg,gg=g∧(0≤gg∧gg<4294967296)∧valN (prt U j (v.length+1))<(gg+1)*valN v∧gg*valN v<valN (prt U j (v.length+1))+valN v:=fun h h2=>
  ⟨_,rfl,by omega,hgx,kn_le hP hVe hXe hrv hrv2 hru hv1 dv2.1 g0' (by omega) hgr2 (by omega)⟩
 clear hgr2 hgpos e1 e2 e3 gv0 gv1 hor2 hVe hXe hrv hrv2 hru hru2 hbrk dec htp
 refine⟨fun hB=>?_,fun hB=>?_⟩
 ·refine⟨by omega,by omega,by omega,by omega,?_⟩
  refine⟨fun hb=>?_,fun hb=>?_⟩
  ·obtain⟨gg,hgg,f0,f2,f3⟩:=brk (.inl hB) hb
   rw[←hgg]
   clear hB hb
   clear hgg brk nbr ext hgx hgr
   refine⟨?_,?_⟩
   ·repeat' refine And.intro ?_ ?_
    all_goals first|omega|exact hU|exact f2|exact f3|exact fun _ _=>trivial|(simp only[valN];omega)
   clear f0 f2 f3
   rintro⟨i,ga,c,b,R⟩ ⟨⟨i0,i1⟩,⟨ga0,ga1⟩,⟨f2,f3⟩,⟨c0,c1⟩,⟨b0,b1⟩,⟨hR,hRl⟩,ho,he⟩
   simp only at i0 i1 ga0 ga1 f2 f3 c0 c1 b0 b1 hR hRl ho he ⊢
   refine⟨fun ilt=>?_,fun ige=>?_⟩
   ·have x:=dig_nth hv i.toNat
    have y:=dig_nth hR (j+i.toNat)
    have gx0:0≤ga*nthD v i.toNat 0:=Int.mul_nonneg ga0 x.1
    have gx1:ga*nthD v i.toNat 0≤4294967295*4294967295:=Int.mul_le_mul (by omega) (by omega) x.1 (by omega)
    have q1:nthD v i.toNat 0 % 18446744073709551616=nthD v i.toNat 0:=by omega
    have q2:nthD R (j+i.toNat) 0 % 18446744073709551616=nthD R (j+i.toNat) 0:=by omega
    have q3:(ga*nthD v i.toNat 0 % 18446744073709551616+c) % 18446744073709551616=ga*nthD v i.toNat 0+c:=by omega
    have hi1:(i+1).toNat=i.toNat+1:=by omega
    rw[q1,q2,q3,and_mask (by omega) (by omega),hi1]
    generalize hq:((nthD R (j+i.toNat) 0 - (ga*nthD v i.toNat 0+c) % 4294967296) % 18446744073709551616 - b) % 18446744073709551616=q
    obtain⟨k1,k2,k3,k4,k5⟩:=ms_step (d:=q % 4294967296) (e:=q / 9223372036854775808) hR hRl hv ga0 ga1 c0 c1 b0 b1 (show j+i.toNat<U.length by omega) ho he (by omega) (by omega)
    repeat' refine And.intro ?_ ?_
    all_goals first|omega|exact k1|exact k2|exact k3|exact k4|exact k5|exact f2|exact f3
   ·have hi:i.toNat=v.length:=by omega
    rw[hi,List.take_length] at he
    rw[hi] at ho
    have hun:=ho (j+v.length) (.inr (Nat.le_refl _))
    have du:=dig_nth hU (j+v.length)
    have q2:nthD R (j+v.length) 0 % 18446744073709551616=nthD R (j+v.length) 0:=by rw[hun];omega
    have hXs:=@prt_succ U j v.length
    rw[q2]
    generalize hq:((nthD R (j+v.length) 0 - c) % 18446744073709551616 - b) % 18446744073709551616=q
    have hRset:Dig (R.set (j+v.length) (q % 4294967296)):=dig_set hR (by omega) (by omega)
    have hlen:(R.set (j+v.length) (q % 4294967296)).length=U.length:=by simp[hRl]
    have hout:∀m,(m<j∨j+(v.length+1)≤m)→nthD (R.set (j+v.length) (q % 4294967296)) m 0=nthD U m 0:=fun m hm=>by rw[nth_set_ne (by omega)];exact ho m (by omega)
    have hval:valN (prt (R.set (j+v.length) (q % 4294967296)) j (v.length+1))=valN (prt U j (v.length+1)) - ga*valN v+4294967296^(v.length+1)*(q / 9223372036854775808):=by
     rw[prt_succ,prt_set (Nat.le_refl _),nth_set_self (by omega),he,hXs,Int.pow_succ]
     have hd:q % 4294967296 - 4294967296*(q / 9223372036854775808)=nthD U (j+v.length) 0 - c - b:=by rw[hun] at hq;omega
     generalize (4294967296:Int)^v.length=B
     have e:B*4294967296*(q / 9223372036854775808)=B*(q % 4294967296+c+b - nthD U (j+v.length) 0):=by rw[Int.mul_assoc];congr 1;omega
     rw[e]
     simp only[Int.mul_add,Int.mul_sub]
     omega
    generalize hW:R.set (j+v.length) (q % 4294967296)=W at*
    have hbd:=prt_bd hRset (j:=j) (k:=v.length+1)
    have hnn:=val_nonneg (prt_dig hRset (j:=j) (k:=v.length+1))
    have q3:0≤q∧q<18446744073709551616:=by omega
    clear hq hun du q2 he ho hR
    repeat refine And.intro (by omega) ?_
    refine⟨fun hz=>?_,fun hz=>?_⟩
    ·rw[hz,Int.mul_zero,Int.add_zero] at hval
     obtain⟨w1,w2⟩:=qr_of (q:=ga) (show ga*valN v≤valN (prt U j (v.length+1)) by omega) f2
     refine⟨by rw[w1];omega,?_⟩
     have hfin:W=wth U j (digK (v.length+1) (valN (prt U j (v.length+1)) % valN v)):=wth_of hRset hlen (by omega) hout (by rw[hval,w2])
     rw[hfin]
     rfl
    ·have hq1:q / 9223372036854775808=1:=by omega
     rw[hq1,Int.mul_one] at hval
     have f4:valN (prt U j (v.length+1))<ga*valN v:=by omega
     refine⟨?_,?_⟩
     ·repeat' refine And.intro ?_ ?_
      all_goals first|omega|exact hRset|exact hlen|exact⟨W,⟨hRset,hlen⟩,hout,hval,fun _ _=>rfl,by simp only[valN]⟩
     clear hRset hlen hout hval hW hbd hnn q3 hz hq1 f4 f2 f3 c0 c1 b0 b1 i0 i1 ga0 ga1
     rintro⟨i2,gb,c2,R2⟩ ⟨⟨i0,i1⟩,⟨gb0,gb1⟩,⟨f5,f6⟩,⟨c0,c1⟩,⟨hR2,hR2l⟩,W2,⟨hW2,hW2l⟩,ho2,hvW,ho3,he3⟩
     simp only at i0 i1 gb0 gb1 f5 f6 c0 c1 hR2 hR2l ho3 he3 ⊢
     refine⟨fun ilt=>?_,fun ige=>?_⟩
     ·have x:=dig_nth hv i2.toNat
      have y:=dig_nth hR2 (j+i2.toNat)
      have hi1:(i2+1).toNat=i2.toNat+1:=by omega
      rw[hi1]
      have hs:((nthD R2 (j+i2.toNat) 0 % 18446744073709551616+nthD v i2.toNat 0 % 18446744073709551616) % 18446744073709551616+c2) % 18446744073709551616=nthD R2 (j+i2.toNat) 0+nthD v i2.toNat 0+c2:=by omega
      rw[hs]
      obtain⟨k1,k2,k3,k4,k5⟩:=ab_step hR2 (hR2l.trans hW2l.symm) hv c0 c1 (show j+i2.toNat<W2.length by omega) hW2 ho3 he3 rfl
      repeat' refine And.intro ?_ ?_
      all_goals first|omega|exact k1|exact f5|exact f6|exact⟨W2,⟨hW2,hW2l⟩,ho2,hvW,k4,k5⟩
     ·have hi2:i2.toNat=v.length:=by omega
      rw[hi2,List.take_length] at he3
      rw[hi2] at ho3
      have hun:=ho3 (j+v.length) (.inr (Nat.le_refl _))
      have du:=dig_nth hW2 (j+v.length)
      have hXs:=@prt_succ W2 j v.length
      have hc2:c2 % 4294967296=c2:=by omega
      rw[hc2,hun]
      have hF:Dig (R2.set (j+v.length) ((nthD W2 (j+v.length) 0+c2) % 4294967296)):=dig_set hR2 (by omega) (by omega)
      have hFl:(R2.set (j+v.length) ((nthD W2 (j+v.length) 0+c2) % 4294967296)).length=U.length:=by simp[hR2l]
      have hFo:∀m,(m<j∨j+(v.length+1)≤m)→nthD (R2.set (j+v.length) ((nthD W2 (j+v.length) 0+c2) % 4294967296)) m 0=nthD U m 0:=fun m hm=>by rw[nth_set_ne (by omega),ho3 m (by omega)];exact ho2 m hm
      have hFv:valN (prt (R2.set (j+v.length) ((nthD W2 (j+v.length) 0+c2) % 4294967296)) j (v.length+1))=valN (prt U j (v.length+1)) - gb*valN v+4294967296^(v.length+1)+valN v - 4294967296^(v.length+1)*((nthD W2 (j+v.length) 0+c2) / 4294967296):=by
       rw[prt_succ,prt_set (Nat.le_refl _),nth_set_self (by omega),←hvW,hXs,Int.pow_succ]
       generalize (4294967296:Int)^v.length=B at*
       have e:B*4294967296*((nthD W2 (j+v.length) 0+c2) / 4294967296)=B*(nthD W2 (j+v.length) 0+c2 - (nthD W2 (j+v.length) 0+c2) % 4294967296):=by rw[Int.mul_assoc];congr 1;omega
       rw[e]
       simp only[Int.mul_add,Int.mul_sub]
       omega
      have hbd:=prt_bd hF (j:=j) (k:=v.length+1)
      have hk:(nthD W2 (j+v.length) 0+c2) / 4294967296=1:=by
       by_cases h:(nthD W2 (j+v.length) 0+c2) / 4294967296=1
       ·exact h
       ·have h0:(nthD W2 (j+v.length) 0+c2) / 4294967296=0:=by omega
        rw[h0,Int.mul_zero] at hFv
        omega
      rw[hk,Int.mul_one] at hFv
      have e1:(gb - 1)*valN v=gb*valN v - valN v:=by rw[Int.sub_mul,Int.one_mul]
      obtain⟨w1,w2⟩:=qr_of (q:=gb - 1) (show(gb - 1)*valN v≤valN (prt U j (v.length+1)) by omega) (by rw[show gb - 1+1=gb by omega];exact f5)
      have hgpos:0<gb:=by
       by_cases h:0<gb
       ·exact h
       ·have:gb=0:=by omega
        subst this
        omega
      have hfin:R2.set (j+v.length) ((nthD W2 (j+v.length) 0+c2) % 4294967296)=wth U j (digK (v.length+1) (valN (prt U j (v.length+1)) % valN v)):=wth_of hF hFl (by omega) hFo (by rw[hFv,w2,e1];omega)
      repeat refine And.intro (by omega) ?_
      rw[hfin]
      rfl
  ·obtain⟨k1,k2,k3,k4⟩:=nbr (.inl hB) hb
   repeat' refine And.intro ?_ ?_
   all_goals first|omega|exact k2|exact k3
 ·repeat refine And.intro (by omega) ?_
  refine⟨fun hc=>?_,fun hc=>?_⟩
  ·repeat refine And.intro (by omega) ?_
   refine⟨fun hb=>?_,fun hb=>?_⟩
   ·obtain⟨gg,hgg,f0,f2,f3⟩:=brk (.inr hc) hb
    rw[←hgg]
    clear hB hb hc
    clear hgg brk nbr ext hgx hgr
    refine⟨?_,?_⟩
    ·repeat' refine And.intro ?_ ?_
     all_goals first|omega|exact hU|exact f2|exact f3|exact fun _ _=>trivial|(simp only[valN];omega)
    clear f0 f2 f3
    rintro⟨i,ga,c,b,R⟩ ⟨⟨i0,i1⟩,⟨ga0,ga1⟩,⟨f2,f3⟩,⟨c0,c1⟩,⟨b0,b1⟩,⟨hR,hRl⟩,ho,he⟩
    simp only at i0 i1 ga0 ga1 f2 f3 c0 c1 b0 b1 hR hRl ho he ⊢
    refine⟨fun ilt=>?_,fun ige=>?_⟩
    ·have x:=dig_nth hv i.toNat
     have y:=dig_nth hR (j+i.toNat)
     have gx0:0≤ga*nthD v i.toNat 0:=Int.mul_nonneg ga0 x.1
     have gx1:ga*nthD v i.toNat 0≤4294967295*4294967295:=Int.mul_le_mul (by omega) (by omega) x.1 (by omega)
     have q1:nthD v i.toNat 0 % 18446744073709551616=nthD v i.toNat 0:=by omega
     have q2:nthD R (j+i.toNat) 0 % 18446744073709551616=nthD R (j+i.toNat) 0:=by omega
     have q3:(ga*nthD v i.toNat 0 % 18446744073709551616+c) % 18446744073709551616=ga*nthD v i.toNat 0+c:=by omega
     have hi1:(i+1).toNat=i.toNat+1:=by omega
     rw[q1,q2,q3,and_mask (by omega) (by omega),hi1]
     generalize hq:((nthD R (j+i.toNat) 0 - (ga*nthD v i.toNat 0+c) % 4294967296) % 18446744073709551616 - b) % 18446744073709551616=q
     obtain⟨k1,k2,k3,k4,k5⟩:=ms_step (d:=q % 4294967296) (e:=q / 9223372036854775808) hR hRl hv ga0 ga1 c0 c1 b0 b1 (show j+i.toNat<U.length by omega) ho he (by omega) (by omega)
     repeat' refine And.intro ?_ ?_
     all_goals first|omega|exact k1|exact k2|exact k3|exact k4|exact k5|exact f2|exact f3
    ·have hi:i.toNat=v.length:=by omega
     rw[hi,List.take_length] at he
     rw[hi] at ho
     have hun:=ho (j+v.length) (.inr (Nat.le_refl _))
     have du:=dig_nth hU (j+v.length)
     have q2:nthD R (j+v.length) 0 % 18446744073709551616=nthD R (j+v.length) 0:=by rw[hun];omega
     have hXs:=@prt_succ U j v.length
     rw[q2]
     generalize hq:((nthD R (j+v.length) 0 - c) % 18446744073709551616 - b) % 18446744073709551616=q
     have hRset:Dig (R.set (j+v.length) (q % 4294967296)):=dig_set hR (by omega) (by omega)
     have hlen:(R.set (j+v.length) (q % 4294967296)).length=U.length:=by simp[hRl]
     have hout:∀m,(m<j∨j+(v.length+1)≤m)→nthD (R.set (j+v.length) (q % 4294967296)) m 0=nthD U m 0:=fun m hm=>by rw[nth_set_ne (by omega)];exact ho m (by omega)
     have hval:valN (prt (R.set (j+v.length) (q % 4294967296)) j (v.length+1))=valN (prt U j (v.length+1)) - ga*valN v+4294967296^(v.length+1)*(q / 9223372036854775808):=by
      rw[prt_succ,prt_set (Nat.le_refl _),nth_set_self (by omega),he,hXs,Int.pow_succ]
      have hd:q % 4294967296 - 4294967296*(q / 9223372036854775808)=nthD U (j+v.length) 0 - c - b:=by rw[hun] at hq;omega
      generalize (4294967296:Int)^v.length=B
      have e:B*4294967296*(q / 9223372036854775808)=B*(q % 4294967296+c+b - nthD U (j+v.length) 0):=by rw[Int.mul_assoc];congr 1;omega
      rw[e]
      simp only[Int.mul_add,Int.mul_sub]
      omega
     generalize hW:R.set (j+v.length) (q % 4294967296)=W at*
     have hbd:=prt_bd hRset (j:=j) (k:=v.length+1)
     have hnn:=val_nonneg (prt_dig hRset (j:=j) (k:=v.length+1))
     have q3:0≤q∧q<18446744073709551616:=by omega
     clear hq hun du q2 he ho hR
     repeat refine And.intro (by omega) ?_
     refine⟨fun hz=>?_,fun hz=>?_⟩
     ·rw[hz,Int.mul_zero,Int.add_zero] at hval
      obtain⟨w1,w2⟩:=qr_of (q:=ga) (show ga*valN v≤valN (prt U j (v.length+1)) by omega) f2
      refine⟨by rw[w1];omega,?_⟩
      have hfin:W=wth U j (digK (v.length+1) (valN (prt U j (v.length+1)) % valN v)):=wth_of hRset hlen (by omega) hout (by rw[hval,w2])
      rw[hfin]
      rfl
     ·have hq1:q / 9223372036854775808=1:=by omega
      rw[hq1,Int.mul_one] at hval
      have f4:valN (prt U j (v.length+1))<ga*valN v:=by omega
      refine⟨?_,?_⟩
      ·repeat' refine And.intro ?_ ?_
       all_goals first|omega|exact hRset|exact hlen|exact⟨W,⟨hRset,hlen⟩,hout,hval,fun _ _=>rfl,by simp only[valN]⟩
      clear hRset hlen hout hval hW hbd hnn q3 hz hq1 f4 f2 f3 c0 c1 b0 b1 i0 i1 ga0 ga1
      rintro⟨i2,gb,c2,R2⟩ ⟨⟨i0,i1⟩,⟨gb0,gb1⟩,⟨f5,f6⟩,⟨c0,c1⟩,⟨hR2,hR2l⟩,W2,⟨hW2,hW2l⟩,ho2,hvW,ho3,he3⟩
      simp only at i0 i1 gb0 gb1 f5 f6 c0 c1 hR2 hR2l ho3 he3 ⊢
      refine⟨fun ilt=>?_,fun ige=>?_⟩
      ·have x:=dig_nth hv i2.toNat
       have y:=dig_nth hR2 (j+i2.toNat)
       have hi1:(i2+1).toNat=i2.toNat+1:=by omega
       rw[hi1]
       have hs:((nthD R2 (j+i2.toNat) 0 % 18446744073709551616+nthD v i2.toNat 0 % 18446744073709551616) % 18446744073709551616+c2) % 18446744073709551616=nthD R2 (j+i2.toNat) 0+nthD v i2.toNat 0+c2:=by omega
       rw[hs]
       obtain⟨k1,k2,k3,k4,k5⟩:=ab_step hR2 (hR2l.trans hW2l.symm) hv c0 c1 (show j+i2.toNat<W2.length by omega) hW2 ho3 he3 rfl
       repeat' refine And.intro ?_ ?_
       all_goals first|omega|exact k1|exact f5|exact f6|exact⟨W2,⟨hW2,hW2l⟩,ho2,hvW,k4,k5⟩
      ·have hi2:i2.toNat=v.length:=by omega
       rw[hi2,List.take_length] at he3
       rw[hi2] at ho3
       have hun:=ho3 (j+v.length) (.inr (Nat.le_refl _))
       have du:=dig_nth hW2 (j+v.length)
       have hXs:=@prt_succ W2 j v.length
       have hc2:c2 % 4294967296=c2:=by omega
       rw[hc2,hun]
       have hF:Dig (R2.set (j+v.length) ((nthD W2 (j+v.length) 0+c2) % 4294967296)):=dig_set hR2 (by omega) (by omega)
       have hFl:(R2.set (j+v.length) ((nthD W2 (j+v.length) 0+c2) % 4294967296)).length=U.length:=by simp[hR2l]
       have hFo:∀m,(m<j∨j+(v.length+1)≤m)→nthD (R2.set (j+v.length) ((nthD W2 (j+v.length) 0+c2) % 4294967296)) m 0=nthD U m 0:=fun m hm=>by rw[nth_set_ne (by omega),ho3 m (by omega)];exact ho2 m hm
       have hFv:valN (prt (R2.set (j+v.length) ((nthD W2 (j+v.length) 0+c2) % 4294967296)) j (v.length+1))=valN (prt U j (v.length+1)) - gb*valN v+4294967296^(v.length+1)+valN v - 4294967296^(v.length+1)*((nthD W2 (j+v.length) 0+c2) / 4294967296):=by
        rw[prt_succ,prt_set (Nat.le_refl _),nth_set_self (by omega),←hvW,hXs,Int.pow_succ]
        generalize (4294967296:Int)^v.length=B at*
        have e:B*4294967296*((nthD W2 (j+v.length) 0+c2) / 4294967296)=B*(nthD W2 (j+v.length) 0+c2 - (nthD W2 (j+v.length) 0+c2) % 4294967296):=by rw[Int.mul_assoc];congr 1;omega
        rw[e]
        simp only[Int.mul_add,Int.mul_sub]
        omega
       have hbd:=prt_bd hF (j:=j) (k:=v.length+1)
       have hk:(nthD W2 (j+v.length) 0+c2) / 4294967296=1:=by
        by_cases h:(nthD W2 (j+v.length) 0+c2) / 4294967296=1
        ·exact h
        ·have h0:(nthD W2 (j+v.length) 0+c2) / 4294967296=0:=by omega
         rw[h0,Int.mul_zero] at hFv
         omega
       rw[hk,Int.mul_one] at hFv
       have e1:(gb - 1)*valN v=gb*valN v - valN v:=by rw[Int.sub_mul,Int.one_mul]
       obtain⟨w1,w2⟩:=qr_of (q:=gb - 1) (show(gb - 1)*valN v≤valN (prt U j (v.length+1)) by omega) (by rw[show gb - 1+1=gb by omega];exact f5)
       have hgpos:0<gb:=by
        by_cases h:0<gb
        ·exact h
        ·have:gb=0:=by omega
         subst this
         omega
       have hfin:R2.set (j+v.length) ((nthD W2 (j+v.length) 0+c2) % 4294967296)=wth U j (digK (v.length+1) (valN (prt U j (v.length+1)) % valN v)):=wth_of hF hFl (by omega) hFo (by rw[hFv,w2,e1];omega)
       repeat refine And.intro (by omega) ?_
       rw[hfin]
       rfl
   ·obtain⟨k1,k2,k3,k4⟩:=nbr (.inr hc) hb
    repeat' refine And.intro ?_ ?_
    all_goals first|omega|exact k2|exact k3
  ·obtain⟨gg,hgg,f0,f2,f3⟩:=ext hB hc
   rw[←hgg]
   clear hB hc
   clear hgg brk nbr ext hgx hgr
   refine⟨?_,?_⟩
   ·repeat' refine And.intro ?_ ?_
    all_goals first|omega|exact hU|exact f2|exact f3|exact fun _ _=>trivial|(simp only[valN];omega)
   clear f0 f2 f3
   rintro⟨i,ga,c,b,R⟩ ⟨⟨i0,i1⟩,⟨ga0,ga1⟩,⟨f2,f3⟩,⟨c0,c1⟩,⟨b0,b1⟩,⟨hR,hRl⟩,ho,he⟩
   simp only at i0 i1 ga0 ga1 f2 f3 c0 c1 b0 b1 hR hRl ho he ⊢
   refine⟨fun ilt=>?_,fun ige=>?_⟩
   ·have x:=dig_nth hv i.toNat
    have y:=dig_nth hR (j+i.toNat)
    have gx0:0≤ga*nthD v i.toNat 0:=Int.mul_nonneg ga0 x.1
    have gx1:ga*nthD v i.toNat 0≤4294967295*4294967295:=Int.mul_le_mul (by omega) (by omega) x.1 (by omega)
    have q1:nthD v i.toNat 0 % 18446744073709551616=nthD v i.toNat 0:=by omega
    have q2:nthD R (j+i.toNat) 0 % 18446744073709551616=nthD R (j+i.toNat) 0:=by omega
    have q3:(ga*nthD v i.toNat 0 % 18446744073709551616+c) % 18446744073709551616=ga*nthD v i.toNat 0+c:=by omega
    have hi1:(i+1).toNat=i.toNat+1:=by omega
    rw[q1,q2,q3,and_mask (by omega) (by omega),hi1]
    generalize hq:((nthD R (j+i.toNat) 0 - (ga*nthD v i.toNat 0+c) % 4294967296) % 18446744073709551616 - b) % 18446744073709551616=q
    obtain⟨k1,k2,k3,k4,k5⟩:=ms_step (d:=q % 4294967296) (e:=q / 9223372036854775808) hR hRl hv ga0 ga1 c0 c1 b0 b1 (show j+i.toNat<U.length by omega) ho he (by omega) (by omega)
    repeat' refine And.intro ?_ ?_
    all_goals first|omega|exact k1|exact k2|exact k3|exact k4|exact k5|exact f2|exact f3
   ·have hi:i.toNat=v.length:=by omega
    rw[hi,List.take_length] at he
    rw[hi] at ho
    have hun:=ho (j+v.length) (.inr (Nat.le_refl _))
    have du:=dig_nth hU (j+v.length)
    have q2:nthD R (j+v.length) 0 % 18446744073709551616=nthD R (j+v.length) 0:=by rw[hun];omega
    have hXs:=@prt_succ U j v.length
    rw[q2]
    generalize hq:((nthD R (j+v.length) 0 - c) % 18446744073709551616 - b) % 18446744073709551616=q
    have hRset:Dig (R.set (j+v.length) (q % 4294967296)):=dig_set hR (by omega) (by omega)
    have hlen:(R.set (j+v.length) (q % 4294967296)).length=U.length:=by simp[hRl]
    have hout:∀m,(m<j∨j+(v.length+1)≤m)→nthD (R.set (j+v.length) (q % 4294967296)) m 0=nthD U m 0:=fun m hm=>by rw[nth_set_ne (by omega)];exact ho m (by omega)
    have hval:valN (prt (R.set (j+v.length) (q % 4294967296)) j (v.length+1))=valN (prt U j (v.length+1)) - ga*valN v+4294967296^(v.length+1)*(q / 9223372036854775808):=by
     rw[prt_succ,prt_set (Nat.le_refl _),nth_set_self (by omega),he,hXs,Int.pow_succ]
     have hd:q % 4294967296 - 4294967296*(q / 9223372036854775808)=nthD U (j+v.length) 0 - c - b:=by rw[hun] at hq;omega
     generalize (4294967296:Int)^v.length=B
     have e:B*4294967296*(q / 9223372036854775808)=B*(q % 4294967296+c+b - nthD U (j+v.length) 0):=by rw[Int.mul_assoc];congr 1;omega
     rw[e]
     simp only[Int.mul_add,Int.mul_sub]
     omega
    generalize hW:R.set (j+v.length) (q % 4294967296)=W at*
    have hbd:=prt_bd hRset (j:=j) (k:=v.length+1)
    have hnn:=val_nonneg (prt_dig hRset (j:=j) (k:=v.length+1))
    have q3:0≤q∧q<18446744073709551616:=by omega
    clear hq hun du q2 he ho hR
    repeat refine And.intro (by omega) ?_
    refine⟨fun hz=>?_,fun hz=>?_⟩
    ·rw[hz,Int.mul_zero,Int.add_zero] at hval
     obtain⟨w1,w2⟩:=qr_of (q:=ga) (show ga*valN v≤valN (prt U j (v.length+1)) by omega) f2
     refine⟨by rw[w1];omega,?_⟩
     have hfin:W=wth U j (digK (v.length+1) (valN (prt U j (v.length+1)) % valN v)):=wth_of hRset hlen (by omega) hout (by rw[hval,w2])
     rw[hfin]
     rfl
    ·have hq1:q / 9223372036854775808=1:=by omega
     rw[hq1,Int.mul_one] at hval
     have f4:valN (prt U j (v.length+1))<ga*valN v:=by omega
     refine⟨?_,?_⟩
     ·repeat' refine And.intro ?_ ?_
      all_goals first|omega|exact hRset|exact hlen|exact⟨W,⟨hRset,hlen⟩,hout,hval,fun _ _=>rfl,by simp only[valN]⟩
     clear hRset hlen hout hval hW hbd hnn q3 hz hq1 f4 f2 f3 c0 c1 b0 b1 i0 i1 ga0 ga1
     rintro⟨i2,gb,c2,R2⟩ ⟨⟨i0,i1⟩,⟨gb0,gb1⟩,⟨f5,f6⟩,⟨c0,c1⟩,⟨hR2,hR2l⟩,W2,⟨hW2,hW2l⟩,ho2,hvW,ho3,he3⟩
     simp only at i0 i1 gb0 gb1 f5 f6 c0 c1 hR2 hR2l ho3 he3 ⊢
     refine⟨fun ilt=>?_,fun ige=>?_⟩
     ·have x:=dig_nth hv i2.toNat
      have y:=dig_nth hR2 (j+i2.toNat)
      have hi1:(i2+1).toNat=i2.toNat+1:=by omega
      rw[hi1]
      have hs:((nthD R2 (j+i2.toNat) 0 % 18446744073709551616+nthD v i2.toNat 0 % 18446744073709551616) % 18446744073709551616+c2) % 18446744073709551616=nthD R2 (j+i2.toNat) 0+nthD v i2.toNat 0+c2:=by omega
      rw[hs]
      obtain⟨k1,k2,k3,k4,k5⟩:=ab_step hR2 (hR2l.trans hW2l.symm) hv c0 c1 (show j+i2.toNat<W2.length by omega) hW2 ho3 he3 rfl
      repeat' refine And.intro ?_ ?_
      all_goals first|omega|exact k1|exact f5|exact f6|exact⟨W2,⟨hW2,hW2l⟩,ho2,hvW,k4,k5⟩
     ·have hi2:i2.toNat=v.length:=by omega
      rw[hi2,List.take_length] at he3
      rw[hi2] at ho3
      have hun:=ho3 (j+v.length) (.inr (Nat.le_refl _))
      have du:=dig_nth hW2 (j+v.length)
      have hXs:=@prt_succ W2 j v.length
      have hc2:c2 % 4294967296=c2:=by omega
      rw[hc2,hun]
      have hF:Dig (R2.set (j+v.length) ((nthD W2 (j+v.length) 0+c2) % 4294967296)):=dig_set hR2 (by omega) (by omega)
      have hFl:(R2.set (j+v.length) ((nthD W2 (j+v.length) 0+c2) % 4294967296)).length=U.length:=by simp[hR2l]
      have hFo:∀m,(m<j∨j+(v.length+1)≤m)→nthD (R2.set (j+v.length) ((nthD W2 (j+v.length) 0+c2) % 4294967296)) m 0=nthD U m 0:=fun m hm=>by rw[nth_set_ne (by omega),ho3 m (by omega)];exact ho2 m hm
      have hFv:valN (prt (R2.set (j+v.length) ((nthD W2 (j+v.length) 0+c2) % 4294967296)) j (v.length+1))=valN (prt U j (v.length+1)) - gb*valN v+4294967296^(v.length+1)+valN v - 4294967296^(v.length+1)*((nthD W2 (j+v.length) 0+c2) / 4294967296):=by
       rw[prt_succ,prt_set (Nat.le_refl _),nth_set_self (by omega),←hvW,hXs,Int.pow_succ]
       generalize (4294967296:Int)^v.length=B at*
       have e:B*4294967296*((nthD W2 (j+v.length) 0+c2) / 4294967296)=B*(nthD W2 (j+v.length) 0+c2 - (nthD W2 (j+v.length) 0+c2) % 4294967296):=by rw[Int.mul_assoc];congr 1;omega
       rw[e]
       simp only[Int.mul_add,Int.mul_sub]
       omega
      have hbd:=prt_bd hF (j:=j) (k:=v.length+1)
      have hk:(nthD W2 (j+v.length) 0+c2) / 4294967296=1:=by
       by_cases h:(nthD W2 (j+v.length) 0+c2) / 4294967296=1
       ·exact h
       ·have h0:(nthD W2 (j+v.length) 0+c2) / 4294967296=0:=by omega
        rw[h0,Int.mul_zero] at hFv
        omega
      rw[hk,Int.mul_one] at hFv
      have e1:(gb - 1)*valN v=gb*valN v - valN v:=by rw[Int.sub_mul,Int.one_mul]
      obtain⟨w1,w2⟩:=qr_of (q:=gb - 1) (show(gb - 1)*valN v≤valN (prt U j (v.length+1)) by omega) (by rw[show gb - 1+1=gb by omega];exact f5)
      have hgpos:0<gb:=by
       by_cases h:0<gb
       ·exact h
       ·have:gb=0:=by omega
        subst this
        omega
      have hfin:R2.set (j+v.length) ((nthD W2 (j+v.length) 0+c2) % 4294967296)=wth U j (digK (v.length+1) (valN (prt U j (v.length+1)) % valN v)):=wth_of hF hFl (by omega) hFo (by rw[hFv,w2,e1];omega)
      repeat refine And.intro (by omega) ?_
      rw[hfin]
      rfl
def gcdN (x y:Int):Int:=(Nat.gcd x.toNat y.toNat:Nat)
theorem gcdN_step {x y:Int} (h0:0≤x) (h1:0<y):gcdN y (x % y)=gcdN x y:=by
 unfold gcdN
 congr 1
 rw[Nat.gcd_comm x.toNat,Nat.gcd_rec y.toNat x.toNat,Nat.gcd_comm,Int.toNat_emod h0 (by omega)]
theorem gcdN_zero {x:Int} (h0:0≤x):gcdN x 0=x:=by unfold gcdN;simp;omega
theorem howN {i u v:Nat} (h:u=v):(SV.ow i u 1).same (SV.ow i v 1):=by subst h;rfl
theorem rowN {u v:List Int} (h:u=v):(SV.row (.i .u32) u).same (SV.row (.i .u32) v):=by subst h;rfl
theorem nilN {l:List Int} (h:l=[]):(SV.row (.i .i64) []).same (SV.row (.i .u32) l):=by subst h;rfl
def sbO (x y:Int):SV:=.tup [.row (.i .u32) (natL (x - y)),.sb (decide (y≤x))]
theorem natL_neg {n:Int} (h:n≤0):natL n=[]:=by
 unfold natL
 rw[show n.toNat=0 by omega]
 rfl
def r155:SCtr:=⟨80,List Int×List Int,.cons (codR (.i .u32)) (.one (codR (.i .u32))),fun a=>(Dig a.1∧Dig a.2)∧a.1.length≤100000000000∧a.2.length≤100000000000,
 fun a=>sbO (valN a.1) (valN a.2)⟩
def Λ155 (a:List Int×List Int):Nat→LoopAnn
 |7=> .inv (Int×Int×List Int) (fun x=>⟨[(0,.row (.i .u32) (trimN a.1)),(1,.row (.i .u32) (trimN a.2)),(6,.ow 0 x.2.2.length 1),(7,.si .u64 x.2.1),(22,.si .i64 (trimN a.1).length),(23,.si .i64 x.1)],[.row (.i .u32) x.2.2 90 true]⟩)
  (fun s=>(iS s 23,iS s 7,oS (.i .u32) s 0))
  (fun x=>(0≤x.1∧x.1≤(trimN a.1).length)∧(0≤x.2.1∧x.2.1≤1)∧Dig x.2.2∧x.2.2.length=(trimN a.1).length∧(∀j,x.1.toNat≤j→nthD x.2.2 j 0=0)∧
   valN x.2.2 - 4294967296^x.1.toNat*x.2.1=valN ((trimN a.1).take x.1.toNat) - valN ((trimN a.2).take x.1.toNat)) (fun x=>((trimN a.1).length - x.1).toNat) fun _ _=> .look
 |_=> .look
theorem sb_step {s t row:List Int} {i:Nat} {br d v c:Int} (hs:Dig s) (ht:Dig t) (hr:Dig row) (hl:row.length=s.length) (hz:∀j,i≤j→nthD row j 0=0)
  (hv:valN row - 4294967296^i*br=valN (s.take i) - valN (t.take i)) (hi:i<s.length) (hd:d=nthD s i 0 - br - nthD t i 0) (h0:0≤v∧v<4294967296) (hc:v - 4294967296*c=d):
  Dig (row.set i v)∧(row.set i v).length=s.length∧(∀j,i+1≤j→nthD (row.set i v) j 0=0)∧valN (row.set i v) - 4294967296^(i+1)*c=valN (s.take (i+1)) - valN (t.take (i+1)):=by
 refine⟨dig_set hr h0.1 h0.2,by simp[hl],fun j hj=>by rw[nth_set_ne (by omega)];exact hz j (by omega),?_⟩
 rw[val_set (by omega),take_snoc0,take_snoc0,hz i (Nat.le_refl _),Int.pow_succ,Int.sub_zero]
 have h1:(4294967296:Int)^i*(v - 4294967296*c)=4294967296^i*(nthD s i 0 - br - nthD t i 0):=by rw[hc,hd]
 simp only[Int.mul_sub] at h1
 rw[←Int.mul_assoc] at h1
 omega
theorem h155:Holds Tryz.prog r155:=by
 refine con0 (L:=[r152,r132]) r155 Λ155 (by simpa using⟨h152,h132⟩) ?_
 rintro⟨a,b⟩ ⟨⟨ha,hb⟩,hla,hlb⟩
 simp only at ha hb hla hlb
 refine vcOf (let z0:Nat:=(trimN a).length;let z1:=decide (cmpN (valN (trimN a)) (valN (trimN b))<(0:Int));let z2:=SId.i .u32;let z3:=SV.tup [SV.row z2 (natL (valN a - valN b)),SV.sb (decide (valN b≤valN a))];let z4:=(↑(trimN a).length:Int);let z5:=List.replicate z4.toNat (0:Int);let z6:=(↑z0:Int);let z7:=SV.si .i64 z6;let z8:=SObj.row z2 z5 90 true;let z9:=(↑(trimN b).length:Int);a.length≤1000000000000∧b.length≤1000000000000∧((Dig (trimN a)∧Dig (trimN b))∧z0≤1000000000000∧(trimN b).length≤1000000000000)∧(z1=true→(SV.tup [SV.row (SId.i .i64) [],SV.bl false]).same z3)∧(z1=false→(0:Int)≤z4∧z4≤z4∧z4*(4:Int)≤(140737488355328:Int)∧z4≤(1000000000000:Int)∧((((SV.row z2 (trimN a)).same (SV.row z2 (trimN a))∧(SV.row z2 (trimN b)).same (SV.row z2 (trimN b))∧(SV.ow 0 z4.toNat 1).same (SV.ow 0 z5.length 1)∧(SV.il .u64 0).same (SV.si .u64 0)∧(SV.si .i64 z4).same z7∧(SV.il .i64 0).same (SV.si .i64 0)∧True)∧z8.same z8∧True)∧((0:Int)≤(0:Int)∧(0:Int)≤z6)∧((0:Int)≤(0:Int)∧(0:Int)≤(1:Int))∧Dig z5∧z5.length=z0∧(∀(j:Nat),0≤j→nthD z5 j (0:Int)=(0:Int))∧valN z5 - (0:Int)=(0:Int))∧∀(x:Int×Int×List Int),let z10:=x.snd.snd.length;let z11:=x.fst.toNat;let z12:=x.snd.snd.length;let z13:=x.fst+(1:Int);let z14:=SV.ow 0 z10 1;let z15:=(nthD (trimN a) z11 (0:Int) % (18446744073709551616:Int) - x.snd.fst) % (18446744073709551616:Int);let z16:=(z15 - nthD (trimN b) z11 (0:Int) % (18446744073709551616:Int)) % (18446744073709551616:Int);let z17:=x.snd.snd.set z11 (z16 % (4294967296:Int));let z18:=z16 / (9223372036854775808:Int);let z19:=SV.si .u64 z18;let z20:=SV.si .i64 z13;let z21:=SObj.row z2 z17 90 true;let z22:=z13.toNat;let z23:=(4294967296:Int)^z22;let z24:=valN (List.take z22 (trimN a)) - valN (List.take z22 (trimN b));let z25:=x.snd.snd.set z11 (z15 % (4294967296:Int));let z26:=z15 / (9223372036854775808:Int);let z27:=SV.si .u64 z26;let z28:=SObj.row z2 z25 90 true;((0:Int)≤x.fst∧x.fst≤z6)∧((0:Int)≤x.snd.fst∧x.snd.fst≤(1:Int))∧Dig x.snd.snd∧z10=z0∧(∀(j:Nat),z11≤j→nthD x.snd.snd j (0:Int)=(0:Int))∧valN x.snd.snd - (4294967296:Int)^z11*x.snd.fst=valN (List.take z11 (trimN a)) - valN (List.take z11 (trimN b))→(decide (x.fst<z6)=true→(0:Int)≤x.fst∧x.fst<z4∧z11<(trimN a).length∧(decide (x.fst<z9)=true→(0:Int)≤x.fst∧x.fst<z9∧z11<(trimN b).length∧(0:Int)≤(63:Int)∧(63:Int)≤(64:Int)∧z10=z12∧(0:Int)≤x.fst∧x.fst<(↑z12:Int)∧z10=z12∧z11<z12∧inR .i64 z13∧(((SV.row z2 (trimN a)).same (SV.row z2 (trimN a))∧(SV.row z2 (trimN b)).same (SV.row z2 (trimN b))∧z14.same (SV.ow 0 z17.length 1)∧z19.same z19∧z7.same z7∧z20.same z20∧True)∧z21.same z21∧True)∧(((0:Int)≤z13∧z13≤z6)∧((0:Int)≤z18∧z18≤(1:Int))∧Dig z17∧z17.length=z0∧(∀(j:Nat),z22≤j→nthD z17 j (0:Int)=(0:Int))∧valN z17 - z23*z18=z24)∧(z6 - z13).toNat<(z6 - x.fst).toNat)∧(decide (x.fst<z9)=false→(0:Int)≤(63:Int)∧(63:Int)≤(64:Int)∧z10=z12∧(0:Int)≤x.fst∧x.fst<(↑z12:Int)∧z10=z12∧z11<z12∧inR .i64 z13∧(((SV.row z2 (trimN a)).same (SV.row z2 (trimN a))∧(SV.row z2 (trimN b)).same (SV.row z2 (trimN b))∧z14.same (SV.ow 0 z25.length 1)∧z27.same z27∧z7.same z7∧z20.same z20∧True)∧z28.same z28∧True)∧(((0:Int)≤z13∧z13≤z6)∧((0:Int)≤z26∧z26≤(1:Int))∧Dig z25∧z25.length=z0∧(∀(j:Nat),z22≤j→nthD z25 j (0:Int)=(0:Int))∧valN z25 - z23*z26=z24)∧(z6 - z13).toNat<(z6 - x.fst).toNat))∧(decide (x.fst<z6)=false→z10=z12∧z10≤1000000000000∧(SV.tup [SV.row z2 (trimN x.snd.snd),SV.bl true]).same z3))) (by kernel_rfl) ?_
 simp only[vcs]
 obtain⟨va,na⟩:=@trim_val a
 obtain⟨vb,nb⟩:=@trim_val b
 have da:=trim_dig ha
 have db:=trim_dig hb
 have la:=@trim_len a
 have lb:=@trim_len b
 have pa:=val_nonneg da
 have pb:=val_nonneg db
 rw[←va,←vb]
 generalize trimN a=s at*
 generalize trimN b=t at*
 have hr0:∀n j,nthD (List.replicate n (0:Int)) j 0=0:=fun n j=>by
  unfold nthD
  rw[List.getElem?_replicate]
  split<;>rfl
 have hd0:∀n,Dig (List.replicate n 0):=fun n d hd=>by
  have:=List.eq_of_mem_replicate hd
  omega
 have hv0:∀n,valN (List.replicate n 0)=0:=fun n=>by
  induction n with
  |zero=>rfl
  |succ n ih=>simp only[List.replicate_succ,valN,ih];omega
 refine⟨by omega,by omega,⟨⟨da,db⟩,by omega,by omega⟩,fun hlt=>?_,fun hge=>⟨by omega,by omega,by omega,by omega,?_,?_⟩⟩
 ·have hlt2:valN s<valN t:=by unfold cmpN at hlt;split at hlt<;>(try split at hlt)<;>omega
  refine⟨nilN (natL_neg (by omega)),?_⟩
  rw[eq_comm,decide_eq_false_iff_not]
  omega
 ·repeat' refine And.intro ?_ ?_
  all_goals first|omega|exact howN (by simp)|exact hd0 _|exact fun j _=>hr0 _ j|(simp;done)|(rw[hv0];rfl)
 have hge2:valN t≤valN s:=by unfold cmpN at hge;split at hge<;>(try split at hge)<;>omega
 rintro⟨i,br,row⟩ ⟨⟨i0,i1⟩,⟨b0,b1⟩,hr,hl,hz,hv⟩
 simp only at i0 i1 b0 b1 hr hl hz hv ⊢
 refine⟨fun ilt=>?_,fun ige=>?_⟩
 ·have d1:=dig_nth da i.toNat
  have d2:=dig_nth db i.toNat
  have e:(i+1).toNat=i.toNat+1:=by omega
  refine⟨i0,ilt,by omega,fun ht=>?_,fun ht=>?_⟩
  ·generalize hq:((nthD s i.toNat 0 % 18446744073709551616 - br) % 18446744073709551616 - nthD t i.toNat 0 % 18446744073709551616) % 18446744073709551616=q
   obtain⟨k1,k2,k3,k4⟩:=sb_step (v:=q % 4294967296) (c:=q / 9223372036854775808) da db hr hl hz hv (by omega) rfl (by omega) (by omega)
   rw[e]
   repeat' refine And.intro ?_ ?_
   all_goals first|omega|exact howN (by simp)|exact k1|exact k2|exact k3|exact k4
  ·have hz2:=nth_out (a:=t) (i:=i.toNat) (by omega)
   generalize hq:(nthD s i.toNat 0 % 18446744073709551616 - br) % 18446744073709551616=q
   obtain⟨k1,k2,k3,k4⟩:=sb_step (v:=q % 4294967296) (c:=q / 9223372036854775808) da db hr hl hz hv (by omega) rfl (by omega) (by omega)
   rw[e]
   repeat' refine And.intro ?_ ?_
   all_goals first|omega|exact howN (by simp)|exact k1|exact k2|exact k3|exact k4
 ·have hi:i.toNat=s.length:=by omega
  have hlen:t.length≤s.length:=by
   by_cases h:s.length<t.length
   ·have:=len_lt da db nb h
    omega
   ·omega
  rw[hi,List.take_length,List.take_of_length_le hlen] at hv
  have hbd:=val_bdN hr
  have hp:=pow_pos s.length
  rw[hl] at hbd
  have hb0:br=0:=by
   by_cases h:br=0
   ·exact h
   ·have:br=1:=by omega
    subst this
    omega
  rw[hb0,Int.mul_zero,Int.sub_zero] at hv
  refine⟨by omega,?_,?_⟩
  ·rw[trim_eq hr,hv]
  ·rw[eq_comm,decide_eq_true_eq]
   exact hge2
theorem rep_nth {n j:Nat}:nthD (List.replicate n (0:Int)) j 0=0:=by
 unfold nthD
 rw[List.getElem?_replicate]
 split<;>rfl
theorem rep_dig {n:Nat}:Dig (List.replicate n 0):=fun d hd=>by
 have:=List.eq_of_mem_replicate hd
 omega
theorem rep_val:∀{n:Nat},valN (List.replicate n 0)=0
 |0=>rfl
 |n+1=>by simp only[List.replicate_succ,valN,@rep_val n];omega
theorem mulI_succ {o b:List Int} {x:Int} {i k:Nat}:mulI o b x i (k+1)=((mulI o b x i k).1.set (i+k) ((x*nthD b k 0+nthD (mulI o b x i k).1 (i+k) 0+(mulI o b x i k).2) % 4294967296),(x*nthD b k 0+nthD (mulI o b x i k).1 (i+k) 0+(mulI o b x i k).2) / 4294967296):=rfl
def r153:SCtr:=⟨79,List Int×List Int,.cons (codR (.i .u32)) (.one (codR (.i .u32))),fun a=>(Dig a.1∧Dig a.2)∧a.1.length≤100000000000∧a.2.length≤100000000000,
 fun a=> .row (.i .u32) (natL (valN a.1*valN a.2))⟩
def stM (a:List Int×List Int) (row:List Int):SStore:=[.row (.i .u32) row 90 true]
def Λ153 (a:List Int×List Int):Nat→LoopAnn
 |3=> .inv (Int×List Int) (fun x=>⟨[(0,.row (.i .u32) a.1),(1,.row (.i .u32) a.2),(5,.ow 0 x.2.length 1),(17,.si .i64 a.1.length),(18,.si .i64 x.1)],stM a x.2⟩)
  (fun s=>(iS s 18,oS (.i .u32) s 0))
  (fun x=>(0≤x.1∧x.1≤a.1.length)∧Dig x.2∧x.2.length=a.1.length+a.2.length∧valN x.2=valN (a.1.take x.1.toNat)*valN a.2) (fun x=>(a.1.length - x.1).toNat)
  fun x=>fun
   |7=> .inv (Int×Int×List Int) (fun y=>⟨[(0,.row (.i .u32) a.1),(1,.row (.i .u32) a.2),(5,.ow 0 y.2.2.length 1),(6,.si .i64 x.1),(7,.si .u64 y.2.1),(17,.si .i64 a.1.length),(18,.si .i64 x.1),(22,.si .i64 a.2.length),(23,.si .i64 y.1)],stM a y.2.2⟩)
    (fun s=>(iS s 23,iS s 7,oS (.i .u32) s 0))
    (fun y=>(0≤y.1∧y.1≤a.2.length)∧y.2.2=(mulI x.2 a.2 (nthD a.1 x.1.toNat 0) x.1.toNat y.1.toNat).1∧y.2.1=(mulI x.2 a.2 (nthD a.1 x.1.toNat 0) x.1.toNat y.1.toNat).2) (fun y=>(a.2.length - y.1).toNat) fun _ _=> .look
   |_=> .look
 |_=> .look
theorem h153:Holds Tryz.prog r153:=by
 refine con0 (L:=[r152]) r153 Λ153 (by simpa using h152) ?_
 rintro⟨a,b⟩ ⟨⟨ha,hb⟩,hla,hlb⟩
 simp only at ha hb hla hlb
 refine vcOf (let z0:=(↑a.length:Int);let z1:=(↑b.length:Int);let z2:=z0+z1;let z3:=SId.i .u32;let z4:=List.replicate z2.toNat (0:Int);let z5:=(↑a.length:Int);let z6:=SV.si .i64 z5;let z7:=SObj.row z3 z4 90 true;let z8:=a.length+b.length;let z9:=(↑b.length:Int);let z10:=SV.si .i64 z9;inR .i64 z2∧(0:Int)≤z2∧z2≤z2∧z2*(4:Int)≤(140737488355328:Int)∧z2≤(1000000000000:Int)∧((((SV.row z3 a).same (SV.row z3 a)∧(SV.row z3 b).same (SV.row z3 b)∧(SV.ow 0 z2.toNat 1).same (SV.ow 0 z4.length 1)∧(SV.si .i64 z0).same z6∧(SV.il .i64 0).same (SV.si .i64 0)∧True)∧z7.same z7∧True)∧((0:Int)≤(0:Int)∧(0:Int)≤z5)∧Dig z4∧z4.length=z8∧valN z4=valN []*valN b)∧∀(x:Int×List Int),let z11:=x.snd.length;let z12:=x.fst.toNat;let z13:=SV.ow 0 z11 1;let z14:=SV.si .i64 x.fst;let z15:=SObj.row z3 x.snd 90 true;let z16:=nthD a z12 (0:Int);let z17:=mulI x.snd b z16 z12 0;let z18:=x.fst+(1:Int);let z19:=SV.si .i64 z18;((0:Int)≤x.fst∧x.fst≤z5)∧Dig x.snd∧z11=z8∧valN x.snd=valN (List.take z12 a)*valN b→(decide (x.fst<z5)=true→((((SV.row z3 a).same (SV.row z3 a)∧(SV.row z3 b).same (SV.row z3 b)∧z13.same z13∧z14.same z14∧(SV.il .u64 0).same (SV.si .u64 0)∧z6.same z6∧z14.same z14∧(SV.si .i64 z1).same z10∧(SV.il .i64 0).same (SV.si .i64 0)∧True)∧z15.same z15∧True)∧((0:Int)≤(0:Int)∧(0:Int)≤z9)∧x.snd=z17.fst∧(0:Int)=z17.snd)∧∀(x_1:Int×Int×List Int),let z20:=mulI x.snd b z16 z12 x_1.fst.toNat;let z21:=x.fst+x_1.fst;let z22:=x_1.snd.snd.length;let z23:=x_1.fst+(1:Int);let z24:=SV.ow 0 x_1.snd.snd.length 1;let z25:=((z16 % (18446744073709551616:Int)*(nthD b x_1.fst.toNat (0:Int) % (18446744073709551616:Int)) % (18446744073709551616:Int)+nthD x_1.snd.snd z21.toNat (0:Int) % (18446744073709551616:Int)) % (18446744073709551616:Int)+x_1.snd.fst) % (18446744073709551616:Int);let z26:=x_1.snd.snd.set z21.toNat (z25 % (4294967296:Int));let z27:=z25 / (4294967296:Int);let z28:=SV.si .u64 z27;let z29:=SV.si .i64 z23;let z30:=SObj.row z3 z26 90 true;let z31:=mulI x.snd b z16 z12 z23.toNat;let z32:=x.fst+z1;let z33:=x_1.snd.snd.set z32.toNat (x_1.snd.fst % (4294967296:Int));let z34:=SObj.row z3 z33 90 true;((0:Int)≤x_1.fst∧x_1.fst≤z9)∧x_1.snd.snd=z20.fst∧x_1.snd.fst=z20.snd→(decide (x_1.fst<z9)=true→(0:Int)≤x.fst∧x.fst<z0∧z12<a.length∧(0:Int)≤x_1.fst∧x_1.fst<z1∧x_1.fst.toNat<b.length∧inR .i64 z21∧x_1.snd.snd.length=z22∧(0:Int)≤z21∧z21<(↑z22:Int)∧x_1.snd.snd.length=z22∧z21.toNat<z22∧inR .i64 z21∧(0:Int)≤(32:Int)∧(32:Int)≤(64:Int)∧x_1.snd.snd.length=z22∧(0:Int)≤z21∧z21<(↑z22:Int)∧x_1.snd.snd.length=z22∧z21.toNat<z22∧inR .i64 z23∧(((SV.row z3 a).same (SV.row z3 a)∧(SV.row z3 b).same (SV.row z3 b)∧z24.same (SV.ow 0 z26.length 1)∧z14.same z14∧z28.same z28∧z6.same z6∧z14.same z14∧z10.same z10∧z29.same z29∧True)∧z30.same z30∧True)∧(((0:Int)≤z23∧z23≤z9)∧z26=z31.fst∧z27=z31.snd)∧(z9 - z23).toNat<(z9 - x_1.fst).toNat)∧(decide (x_1.fst<z9)=false→inR .i64 z32∧x_1.snd.snd.length=z22∧(0:Int)≤z32∧z32<(↑z22:Int)∧x_1.snd.snd.length=z22∧z32.toNat<z22∧inR .i64 z18∧(((SV.row z3 a).same (SV.row z3 a)∧(SV.row z3 b).same (SV.row z3 b)∧z24.same (SV.ow 0 z33.length 1)∧z6.same z6∧z19.same z19∧True)∧z34.same z34∧True)∧(((0:Int)≤z18∧z18≤z5)∧Dig z33∧z33.length=z8∧valN z33=valN (List.take z18.toNat a)*valN b)∧(z5 - z18).toNat<(z5 - x.fst).toNat))∧(decide (x.fst<z5)=false→z11=x.snd.length∧z11≤1000000000000∧(SV.row z3 (trimN x.snd)).same (SV.row z3 (natL (valN a*valN b))))) (by kernel_rfl) ?_
 simp only[vcs]
 refine⟨by omega,by omega,by omega,by omega,by omega,?_,?_⟩
 ·repeat' refine And.intro ?_ ?_
  all_goals first|omega|exact howN (by simp)|exact rep_dig|(simp;omega)|(rw[rep_val];simp[valN])
 rintro⟨i,row⟩ ⟨⟨i0,i1⟩,hr,hl,hv⟩
 simp only at i0 i1 hr hl hv ⊢
 refine⟨fun ilt=>⟨⟨⟨by omega,by omega⟩,rfl,rfl⟩,?_⟩,fun ige=>?_⟩
 ·rintro⟨k,c,ro⟩ ⟨⟨k0,k1⟩,e1,e2⟩
  simp only at k0 k1 e1 e2 ⊢
  have x1:=dig_nth ha i.toNat
  obtain⟨m1,m2,⟨m3,m4⟩,m5,m6⟩:=@mulI_ok row b (nthD a i.toNat 0) i.toNat hr hb x1.1 x1.2 k.toNat (by omega)
  have hp:=@mulI_succ row b (nthD a i.toNat 0) i.toNat k.toNat
  generalize mulI row b (nthD a i.toNat 0) i.toNat k.toNat=M at*
  obtain⟨p,q⟩:=M
  simp only at e1 e2 m1 m2 m3 m4 m5 m6 hp
  subst e1 e2
  have hik:(i+k).toNat=i.toNat+k.toNat:=by omega
  have hk1:(k+1).toNat=k.toNat+1:=by omega
  have hi1:(i+1).toNat=i.toNat+1:=by omega
  refine⟨fun klt=>?_,fun kge=>?_⟩
  ·have x2:=dig_nth hb k.toNat
   have x3:=dig_nth m1 (i.toNat+k.toNat)
   have hxb:0≤nthD a i.toNat 0*nthD b k.toNat 0:=Int.mul_nonneg x1.1 x2.1
   have hxb2:nthD a i.toNat 0*nthD b k.toNat 0≤4294967295*4294967295:=Int.mul_le_mul (by omega) (by omega) x2.1 (by omega)
   rw[hik,hk1,hp]
   have hq:(((nthD a i.toNat 0 % 18446744073709551616*(nthD b k.toNat 0 % 18446744073709551616) % 18446744073709551616+nthD ro (i.toNat+k.toNat) 0 % 18446744073709551616) % 18446744073709551616+c) % 18446744073709551616)=nthD a i.toNat 0*nthD b k.toNat 0+nthD ro (i.toNat+k.toNat) 0+c:=by
    rw[Int.emod_eq_of_lt (a:=nthD a i.toNat 0) (by omega) (by omega),Int.emod_eq_of_lt (a:=nthD b k.toNat 0) (by omega) (by omega)]
    omega
   rw[hq]
   repeat' refine And.intro ?_ ?_
   all_goals first|omega|exact howN (by simp)|rfl
  ·have hkl:k.toNat=b.length:=by omega
   rw[show(i+(b.length:Int)).toNat=i.toNat+b.length by omega]
   rw[hkl,List.take_length] at m6
   rw[hkl] at m5
   have hz:nthD ro (i.toNat+b.length) 0=0:=by
    rw[m5 _ (Nat.le_refl _)]
    refine nth_small hr (i:=i.toNat+b.length) ?_ (Nat.le_refl _)
    rw[hv,Int.pow_add]
    have t1:=val_bdN (dig_take ha i.toNat)
    rw[List.length_take,Nat.min_eq_left (by omega)] at t1
    have t2:=val_bdN hb
    have t3:=val_nonneg (dig_take ha i.toNat)
    have t4:=val_nonneg hb
    exact Int.lt_of_le_of_lt (Int.mul_le_mul_of_nonneg_left (Int.le_of_lt t2) t3) (Int.mul_lt_mul_of_pos_right t1 (pow_pos _))
   have hc:c % 4294967296=c:=by omega
   rw[hc,hi1]
   have hfin:valN (ro.set (i.toNat+b.length) c)=valN (a.take (i.toNat+1))*valN b:=by
    rw[val_set (by omega),hz,Int.sub_zero,m6,hv,take_snoc0,Int.add_mul,Int.mul_assoc]
   repeat' refine And.intro ?_ ?_
   all_goals first|omega|exact howN (by simp)|exact dig_set m1 m3 m4|exact hfin|(rw[List.length_set];omega)
 ·have hi:i.toNat=a.length:=by omega
  rw[hi,List.take_length] at hv
  refine⟨by omega,?_⟩
  rw[trim_eq hr,hv]
theorem or_add32 {x m:Int} {k:Nat} (p:0≤x) (t:x<2^k) (o:0≤m) (j:m*2^k<4294967296) (u:x<4294967296):binK.orI .u32 x (m*2^k)=x+m*2^k:=by
 obtain⟨a,rfl⟩:=Int.eq_ofNat_of_zero_le p
 obtain⟨b,rfl⟩:=Int.eq_ofNat_of_zero_le o
 have e:((b:Int)*2^k)=((2^k*b:Nat):Int):=by grind
 have h:a<2^k:=by grind
 rw[e] at j ⊢
 generalize i:2^k*b=c at*
 have d:c<4294967296:=by omega
 have f:a<4294967296:=by omega
 have q:(BitVec.ofInt 32 ((a:Nat):Int)).toNat=a:=by simp_all
 have r:(BitVec.ofInt 32 ((c:Nat):Int)).toNat=c:=by simp_all
 have g:a |||c=a+c:=by
  rw[Nat.or_comm,←i,←Nat.two_pow_add_eq_or_of_lt h]
  omega
 have l:a+c<4294967296:=by
  rw[←g]
  exact Nat.or_lt_two_pow (n:=32) f d
 have s:(BitVec.ofInt 32 ((a:Nat):Int) |||BitVec.ofInt 32 ((c:Nat):Int)).toNat=a+c:=by
  grind
 show wrapI .u32 ((BitVec.ofInt 32 ((a:Nat):Int) |||BitVec.ofInt 32 ((c:Nat):Int)).toNat:Nat)=_
 grind[wrapI_eq,IntKind.wrap,IntKind.bits,IntKind.signed]
theorem nth_le:∀{l:List Int} {i:Nat},Dig l→4294967296^i*nthD l i 0≤valN l
 |[],i,_=>by simp[nthD,valN]
 |d::l,0,h=>by
  obtain⟨b,a⟩:=dig_cons.1 h
  have:=val_nonneg a
  grind[nthD,valN]
 |d::l,i+1,h=>by
  obtain⟨b,a⟩:=dig_cons.1 h
  have:=@nth_le l i a
  have e:nthD (d::l) (i+1) 0=nthD l i 0:=by simp[nthD]
  rw[e,Int.pow_succ,Int.mul_comm (4294967296^i),Int.mul_assoc]
  grind[valN]
theorem sh_step {a b:List Int} {i k:Nat} (n:Dig a) (e:Dig b) (F:b.length=a.length+1) (G:i<a.length) (u:k≤31) (q:valN b=valN (a.take i)*2^k):
  Dig ((b.set i (binK.orI .u32 (nthD b i 0) (nthD a i 0 % 18446744073709551616*2^k % 18446744073709551616 % 4294967296))).set (i+1) (nthD a i 0 % 18446744073709551616*2^k % 18446744073709551616 / 4294967296 % 4294967296))∧
  valN ((b.set i (binK.orI .u32 (nthD b i 0) (nthD a i 0 % 18446744073709551616*2^k % 18446744073709551616 % 4294967296))).set (i+1) (nthD a i 0 % 18446744073709551616*2^k % 18446744073709551616 / 4294967296 % 4294967296))=valN (a.take (i+1))*2^k:=by
 have x:=dig_nth n i
 have r:=dig_nth e i
 have c:(0:Int)<2^k:=Int.pow_pos (by decide)
 have A:(2:Int)^k≤2147483648:=by
  have D:(2:Nat)^k≤2^31:=Nat.pow_le_pow_right (by decide) u
  grind
 have w:(4294967296:Int)=2^(32 - k)*2^k:=by
  rw[←Int.pow_add,show 32 - k+k=32 by omega]
  decide
 have B:(0:Int)<2^(32 - k):=Int.pow_pos (by decide)
 have v:0≤nthD a i 0*2^k:=Int.mul_nonneg x.1 (Int.le_of_lt c)
 have H:nthD a i 0*2^k<4294967296*2^k:=Int.mul_lt_mul_of_pos_right x.2 c
 have z:nthD a i 0 % 18446744073709551616*2^k % 18446744073709551616=nthD a i 0*2^k:=by
  rw[Int.emod_eq_of_lt (a:=nthD a i 0) (by omega) (by omega),Int.emod_eq_of_lt v (by omega)]
 have o:nthD a i 0*2^k % 4294967296=(nthD a i 0 % 2^(32 - k))*2^k:=by
  conv=>lhs;rw[w]
  rw[Int.mul_comm (nthD a i 0),Int.mul_comm (2^(32 - k)),Int.mul_emod_mul_of_pos _ _ c,Int.mul_comm]
 have p:=Int.emod_nonneg (nthD a i 0) (show(2:Int)^(32 - k)≠0 by omega)
 have E:=Int.emod_lt_of_pos (nthD a i 0) B
 have s:=pow_pos i
 have d:valN b<4294967296^i*2^k:=by
  rw[q]
  have:=val_bdN (dig_take n i)
  rw[List.length_take,Nat.min_eq_left (by omega)] at this
  simp_all
 have h:nthD b i 0<2^k:=Int.lt_of_mul_lt_mul_left (Int.lt_of_le_of_lt (nth_le e) d) (Int.le_of_lt s)
 have m:nthD b (i+1) 0=0:=by
  refine nth_small e (i:=i+1) ?_ (Nat.le_refl _)
  rw[Int.pow_succ]
  exact Int.lt_of_lt_of_le d (Int.mul_le_mul_of_nonneg_left (by omega) (Int.le_of_lt s))
 have f:(nthD a i 0 % 2^(32 - k))*2^k+2^k≤4294967296:=by
  have:(nthD a i 0 % 2^(32 - k)+1)*2^k≤2^(32 - k)*2^k:=Int.mul_le_mul_of_nonneg_right (by omega) (Int.le_of_lt c)
  grind
 have l:0≤(nthD a i 0 % 2^(32 - k))*2^k:=Int.mul_nonneg p (Int.le_of_lt c)
 have g:=or_add32 (k:=k) r.1 h p (by omega) r.2
 rw[z,o,g]
 generalize y:nthD a i 0*2^k=t at*
 have j:(nthD a i 0 % 2^(32 - k))*2^k=t % 4294967296:=o.symm
 rw[j] at f l ⊢
 refine⟨dig_set (dig_set e (by omega) (by omega)) (by omega) (by omega),?_⟩
 rw[val_set (by simp;omega),val_set (by omega),nth_set_ne (by omega),m,take_snoc0,Int.add_mul,Int.mul_assoc,y,q,Int.pow_succ]
 have C:t / 4294967296 % 4294967296=t / 4294967296:=by omega
 grind
def shl (a:List Int) (k:Nat):List Int:=digK (a.length+1) (valN a*2^k)
abbrev ShA:=List Int×Int
def shD (a:ShA):Prop:=Dig a.1∧a.1.length≤100000000000∧0≤a.2∧a.2≤31
def r168p:SCtr:=⟨101,List Int×Int,.cons (codR (.i .u32)) (.one (codI .u64)),shD,fun a=> .row (.i .u32) (shl a.1 a.2.toNat)⟩
def r168:OCtr where
 f:=101
 α:=List Int×Int
 put a:=[.row (.i .u32) a.1,.si .u64 a.2]
 st _:=[]
 dec v o:=match v,o with
  |[v,m],[]=>match decRow (.i .u32) v,m.int .u64 with
   |some p,some m=>some (p,m)
   |_,_=>none
  |_,_=>none
 ok v o a h:=by
  split at h
  ·split at h
   ·rename_i h1 h2
    simp only[Option.some.injEq] at h;subst h
    exact⟨by simp only[gL,decRow_ok h1,int_g h2];rfl,rfl⟩
   ·cases h
  ·cases h
 inj a b h _:=by
  simp only[gL,List.cons.injEq,and_true] at h
  have h2:=h.2
  simp only[SV.g,AV.sc.injEq,Value.int.injEq,true_and] at h2
  exact Prod.ext ((codR (.i .u32)).inj _ _ h.1) h2
 dom:=shD
 res a:=.ow 0 (shl a.1 a.2.toNat).length 1
 out a:=[.row (.i .u32) (shl a.1 a.2.toNat) 90 false]
def Λ168 (a:ShA):Nat→LoopAnn
 |3=> .inv (Int×List Int) (fun x=>⟨[(0,.row (.i .u32) a.1),(1,.si .u64 a.2),(5,.ow 0 x.2.length 1),(13,.si .i64 a.1.length),(14,.si .i64 x.1)],[.row (.i .u32) x.2 90 false]⟩)
  (fun s=>(iS s 14,oS (.i .u32) s 0))
  (fun x=>(0≤x.1∧x.1≤a.1.length)∧Dig x.2∧x.2.length=a.1.length+1∧valN x.2=valN (a.1.take x.1.toNat)*2^a.2.toNat) (fun x=>(a.1.length - x.1).toNat) fun _ _=> .look
 |_=> .look
theorem h168:HoldsO Tryz.prog r168:=by
 refine conN (L:=[]) (W:=[]) r168 (fun _=>none) Λ168 (by simp) (by simp) ?_
 rintro⟨a,s⟩ ⟨ha,hla,s0,s1⟩
 simp only at ha hla s0 s1
 refine vcOf (let z0:=(↑a.length:Int);let z1:=z0+(1:Int);let z2:=SId.i .u32;let z3:=(0:Int)::List.replicate a.length (0:Int);let z4:=(↑a.length:Int);let z5:=SV.si .i64 z4;let z6:=SObj.row z2 z3 90 false;let z7:=a.length+1;let z8:=(2:Int)^s.toNat;inR .i64 z1∧(0:Int)≤z1∧z1≤z1∧z1*(4:Int)≤(140737488355328:Int)∧z1≤(1000000000000:Int)∧((((SV.row z2 a).same (SV.row z2 a)∧(SV.si .u64 s).same (SV.si .u64 s)∧(SV.ow 0 z1.toNat 1).same (SV.ow 0 z3.length 1)∧(SV.si .i64 z0).same z5∧(SV.il .i64 0).same (SV.si .i64 0)∧True)∧z6.same z6∧True)∧((0:Int)≤(0:Int)∧(0:Int)≤z4)∧Dig z3∧z3.length=z7∧valN z3=valN []*z8)∧∀(x:Int×List Int),let z9:=x.snd.length;let z10:=x.fst.toNat;let z11:=x.snd.length;let z12:=x.fst+(1:Int);let z13:=nthD a z10 (0:Int) % (18446744073709551616:Int)*z8 % (18446744073709551616:Int);let z14:=x.snd.set z10 (binK.orI .u32 (nthD x.snd z10 (0:Int)) (z13 % (4294967296:Int)));let z15:=SV.ow 0 z9 1;let z16:=z14.set z12.toNat (z13 / (4294967296:Int) % (4294967296:Int));let z17:=SV.si .i64 z12;let z18:=SObj.row z2 z16 90 false;((0:Int)≤x.fst∧x.fst≤z4)∧Dig x.snd∧z9=z7∧valN x.snd=valN (List.take z10 a)*z8→(decide (x.fst<z4)=true→(0:Int)≤x.fst∧x.fst<z0∧z10<a.length∧(0:Int)≤s∧s≤(64:Int)∧z9=z11∧(0:Int)≤x.fst∧x.fst<(↑z11:Int)∧z9=z11∧z10<z11∧z9=z11∧(0:Int)≤x.fst∧x.fst<(↑z11:Int)∧z9=z11∧z10<z11∧inR .i64 z12∧(0:Int)≤(32:Int)∧(32:Int)≤(64:Int)∧z9=z14.length∧(0:Int)≤z12∧z12<(↑z14.length:Int)∧z9=z14.length∧z12.toNat<z14.length∧inR .i64 z12∧(((SV.row z2 a).same (SV.row z2 a)∧(SV.si .u64 s).same (SV.si .u64 s)∧z15.same (SV.ow 0 z16.length 1)∧z5.same z5∧z17.same z17∧True)∧z18.same z18∧True)∧(((0:Int)≤z12∧z12≤z4)∧Dig z16∧z16.length=z7∧valN z16=valN (List.take z12.toNat a)*z8)∧(z4 - z12).toNat<(z4 - x.fst).toNat)∧(decide (x.fst<z4)=false→z15.same (SV.ow 0 (shl a s.toNat).length 1)∧(SObj.row z2 x.snd 90 false).same (SObj.row z2 (shl a s.toNat) 90 false)∧True)) (by kernel_rfl) ?_
 simp only[vcs]
 refine⟨by omega,by omega,by omega,by omega,by omega,?_,?_⟩
 ·repeat' refine And.intro ?_ ?_
  all_goals first|omega|exact howN (by simp)|exact dig_cons.2 ⟨by omega,rep_dig⟩|(simp;done)|(simp only[valN,rep_val];omega)
 rintro⟨i,row⟩ ⟨⟨i0,i1⟩,hr,hl,hv⟩
 simp only at i0 i1 hr hl hv ⊢
 refine⟨fun ilt=>?_,fun ige=>?_⟩
 ·obtain⟨k1,k2⟩:=sh_step ha hr hl (show i.toNat<a.length by omega) (show s.toNat≤31 by omega) hv
  have e:(i+1).toNat=i.toNat+1:=by omega
  rw[e]
  repeat' refine And.intro ?_ ?_
  all_goals first|omega|exact howN (by simp)|(simp only[List.length_set];done)|(simp only[List.length_set];omega)|exact k1|exact k2
 ·have hi:i.toNat=a.length:=by omega
  rw[hi,List.take_length] at hv
  have hrow:row=shl a s.toNat:=digK_of hr hl hv
  rw[hrow]
  exact⟨rfl,rfl⟩
theorem h168p:Holds Tryz.prog r168p:=by
 refine con0 (L:=[]) r168p Λ168 (by simp) ?_
 rintro⟨a,s⟩ ⟨ha,hla,s0,s1⟩
 simp only at ha hla s0 s1
 refine vcOf (let z0:=(↑a.length:Int);let z1:=z0+(1:Int);let z2:=SId.i .u32;let z3:=(0:Int)::List.replicate a.length (0:Int);let z4:=(↑a.length:Int);let z5:=SV.si .i64 z4;let z6:=SObj.row z2 z3 90 false;let z7:=a.length+1;let z8:=(2:Int)^s.toNat;inR .i64 z1∧(0:Int)≤z1∧z1≤z1∧z1*(4:Int)≤(140737488355328:Int)∧z1≤(1000000000000:Int)∧((((SV.row z2 a).same (SV.row z2 a)∧(SV.si .u64 s).same (SV.si .u64 s)∧(SV.ow 0 z1.toNat 1).same (SV.ow 0 z3.length 1)∧(SV.si .i64 z0).same z5∧(SV.il .i64 0).same (SV.si .i64 0)∧True)∧z6.same z6∧True)∧((0:Int)≤(0:Int)∧(0:Int)≤z4)∧Dig z3∧z3.length=z7∧valN z3=valN []*z8)∧∀(x:Int×List Int),let z9:=x.snd.length;let z10:=x.fst.toNat;let z11:=x.snd.length;let z12:=x.fst+(1:Int);let z13:=nthD a z10 (0:Int) % (18446744073709551616:Int)*z8 % (18446744073709551616:Int);let z14:=x.snd.set z10 (binK.orI .u32 (nthD x.snd z10 (0:Int)) (z13 % (4294967296:Int)));let z15:=z14.set z12.toNat (z13 / (4294967296:Int) % (4294967296:Int));let z16:=SV.si .i64 z12;let z17:=SObj.row z2 z15 90 false;((0:Int)≤x.fst∧x.fst≤z4)∧Dig x.snd∧z9=z7∧valN x.snd=valN (List.take z10 a)*z8→(decide (x.fst<z4)=true→(0:Int)≤x.fst∧x.fst<z0∧z10<a.length∧(0:Int)≤s∧s≤(64:Int)∧z9=z11∧(0:Int)≤x.fst∧x.fst<(↑z11:Int)∧z9=z11∧z10<z11∧z9=z11∧(0:Int)≤x.fst∧x.fst<(↑z11:Int)∧z9=z11∧z10<z11∧inR .i64 z12∧(0:Int)≤(32:Int)∧(32:Int)≤(64:Int)∧z9=z14.length∧(0:Int)≤z12∧z12<(↑z14.length:Int)∧z9=z14.length∧z12.toNat<z14.length∧inR .i64 z12∧(((SV.row z2 a).same (SV.row z2 a)∧(SV.si .u64 s).same (SV.si .u64 s)∧(SV.ow 0 z9 1).same (SV.ow 0 z15.length 1)∧z5.same z5∧z16.same z16∧True)∧z17.same z17∧True)∧(((0:Int)≤z12∧z12≤z4)∧Dig z15∧z15.length=z7∧valN z15=valN (List.take z12.toNat a)*z8)∧(z4 - z12).toNat<(z4 - x.fst).toNat)∧(decide (x.fst<z4)=false→z9=z11∧(SV.row z2 x.snd).same (SV.row z2 (shl a s.toNat)))) (by kernel_rfl) ?_
 simp only[vcs]
 refine⟨by omega,by omega,by omega,by omega,by omega,?_,?_⟩
 ·repeat' refine And.intro ?_ ?_
  all_goals first|omega|exact howN (by simp)|exact dig_cons.2 ⟨by omega,rep_dig⟩|(simp;done)|(simp only[valN,rep_val];omega)
 rintro⟨i,row⟩ ⟨⟨i0,i1⟩,hr,hl,hv⟩
 simp only at i0 i1 hr hl hv ⊢
 refine⟨fun ilt=>?_,fun ige=>?_⟩
 ·obtain⟨k1,k2⟩:=sh_step ha hr hl (show i.toNat<a.length by omega) (show s.toNat≤31 by omega) hv
  have e:(i+1).toNat=i.toNat+1:=by omega
  rw[e]
  repeat' refine And.intro ?_ ?_
  all_goals first|omega|exact howN (by simp)|(simp only[List.length_set];done)|(simp only[List.length_set];omega)|exact k1|exact k2
 ·have hi:i.toNat=a.length:=by omega
  rw[hi,List.take_length] at hv
  have hrow:row=shl a s.toNat:=digK_of hr hl hv
  rw[hrow]
theorem val_split {U:List Int} {j:Nat} (h:j≤U.length):valN U=valN (U.take j)+4294967296^j*valN (U.drop j):=by
 conv=>lhs;rw[←List.take_append_drop j U]
 grind[val_app]
theorem wth_take {U l:List Int} {j:Nat} (h:j≤U.length):(wth U j l).take j=U.take j:=by
 grind[wth]
theorem wth_drop {U l:List Int} {j:Nat} (h:j≤U.length):(wth U j l).drop j=l++U.drop (j+l.length):=by
 grind[wth]
theorem dig_wth {U l:List Int} {j:Nat} (a:Dig U) (b:Dig l):Dig (wth U j l):=dig_app (dig_take a _) (dig_app b (dig_drop a _))
theorem dv_step {U q v:List Int} {j m:Nat} {A:Int} (d:Dig U) (w:Dig v) (G:Dig q) (H:2≤v.length) (u:U.length=m+1+v.length) (x:q.length=m+1) (J:j≤m) (p:0<valN v)
  (s:nthD q j 0=0) (B:valN U+valN v*valN q=A) (D:valN (U.drop (j+1))<valN v):
  valN (prt U j (v.length+1))<4294967296*valN v∧
  (Dig (wth U j (digK (v.length+1) (valN (prt U j (v.length+1)) % valN v)))∧(wth U j (digK (v.length+1) (valN (prt U j (v.length+1)) % valN v))).length=U.length)∧
  (0≤valN (prt U j (v.length+1)) / valN v∧valN (prt U j (v.length+1)) / valN v<4294967296)∧
  valN (wth U j (digK (v.length+1) (valN (prt U j (v.length+1)) % valN v)))+valN v*valN (q.set j (valN (prt U j (v.length+1)) / valN v))=A∧
  valN ((wth U j (digK (v.length+1) (valN (prt U j (v.length+1)) % valN v))).drop j)<valN v:=by
 have y:=val_bdN w
 have f:=dig_drop d (j+1)
 have l:=val_nonneg (prt_dig d (j:=j) (k:=v.length+1))
 have b:valN (U.drop (j+(v.length+1)))=0:=by
  have e:valN (U.drop (j+1))=valN ((U.drop (j+1)).take v.length)+4294967296^v.length*valN ((U.drop (j+1)).drop v.length):=val_split (by simp;omega)
  rw[List.drop_drop,show j+1+v.length=j+(v.length+1) by omega] at e
  have I:=val_nonneg (dig_take f v.length)
  have F:=val_nonneg (dig_drop d (j+(v.length+1)))
  by_cases h:valN (U.drop (j+(v.length+1)))=0
  ·exact h
  ·have:=Int.mul_le_mul_of_nonneg_left (show(1:Int)≤valN (U.drop (j+(v.length+1))) by omega) (Int.le_of_lt (pow_pos v.length))
   omega
 have a:valN (U.drop j)=valN (prt U j (v.length+1)):=by
  have e:valN (U.drop j)=valN ((U.drop j).take (v.length+1))+4294967296^(v.length+1)*valN ((U.drop j).drop (v.length+1)):=val_split (by simp;omega)
  rw[List.drop_drop,b,Int.mul_zero,Int.add_zero] at e
  exact e
 have g:valN (U.drop j)=nthD U j 0+4294967296*valN (U.drop (j+1)):=by
  rw[drop_nthN (show j<U.length by omega)]
  rfl
 have K:=dig_nth d j
 have r:valN (prt U j (v.length+1))<4294967296*valN v:=by omega
 have i:=@digK_len (v.length+1) (valN (prt U j (v.length+1)) % valN v)
 have C:=Int.emod_nonneg (valN (prt U j (v.length+1))) (show valN v≠0 by omega)
 have E:=Int.emod_lt_of_pos (valN (prt U j (v.length+1))) p
 have t:valN (digK (v.length+1) (valN (prt U j (v.length+1)) % valN v))=valN (prt U j (v.length+1)) % valN v:=by
  grind[digK_val]
 have o:valN ((wth U j (digK (v.length+1) (valN (prt U j (v.length+1)) % valN v))).drop j)=valN (prt U j (v.length+1)) % valN v:=by
  grind[wth_drop,val_app]
 have c:(wth U j (digK (v.length+1) (valN (prt U j (v.length+1)) % valN v))).length=U.length:=wth_len (by rw[i];omega)
 have n:0≤valN (prt U j (v.length+1)) / valN v:=Int.ediv_nonneg l (by omega)
 refine⟨r,⟨dig_wth d digK_dig,c⟩,⟨n,Int.ediv_lt_of_lt_mul p r⟩,?_,by omega⟩
 rw[val_split (U:=wth U j _) (j:=j) (by rw[c];omega),wth_take (by omega),o,val_set (by omega),s,Int.sub_zero]
 rw[val_split (U:=U) (j:=j) (by omega),a] at B
 have z:=Int.mul_ediv_add_emod (valN (prt U j (v.length+1))) (valN v)
 grind
theorem dv_start {a b:List Int} {s:Nat} (k:Dig a) (w:Dig b) (u:s≤31) (l:b.length≤a.length) (q:1≤b.length) (d:1≤nthD b (b.length - 1) 0):
  Dig (shl a s)∧(shl a s).length=a.length+1∧valN (shl a s)=valN a*2^s∧valN ((shl a s).drop (a.length - b.length+1))<valN b*2^s:=by
 have e:(0:Int)<2^s:=Int.pow_pos (by decide)
 have v:(2:Int)^s≤2147483648:=by
  have h:(2:Nat)^s≤2^31:=Nat.pow_le_pow_right (by decide) u
  grind
 have f:=val_nonneg k
 have g:=val_bdN k
 have n:valN a*2^s<4294967296^a.length*2^s:=Int.mul_lt_mul_of_pos_right g e
 have c:valN (shl a s)=valN a*2^s:=by
  unfold shl
  refine digK_val (Int.mul_nonneg f (Int.le_of_lt e)) (Int.lt_of_lt_of_le n ?_)
  rw[Int.pow_succ]
  exact Int.mul_le_mul_of_nonneg_left (by omega) (Int.le_of_lt (pow_pos _))
 have i:Dig (shl a s):=digK_dig
 have t:(shl a s).length=a.length+1:=digK_len
 refine⟨i,t,c,?_⟩
 have h:=val_split (U:=shl a s) (j:=a.length - b.length+1) (by omega)
 have y:=val_nonneg (dig_take i (a.length - b.length+1))
 have x:4294967296^(b.length - 1)*nthD b (b.length - 1) 0≤valN b:=nth_le w
 have o:(4294967296:Int)^(b.length - 1)≤valN b:=by
  have:=Int.mul_le_mul_of_nonneg_left d (Int.le_of_lt (pow_pos (b.length - 1)))
  omega
 have m:(4294967296:Int)^a.length=4294967296^(a.length - b.length+1)*4294967296^(b.length - 1):=by
  rw[←Int.pow_add]
  congr 1
  omega
 rw[c] at h
 have p:(4294967296:Int)^(a.length - b.length+1)*valN ((shl a s).drop (a.length - b.length+1))<4294967296^(a.length - b.length+1)*(4294967296^(b.length - 1)*2^s):=by
  rw[←Int.mul_assoc,←m]
  omega
 have r:=Int.lt_of_mul_lt_mul_left p (Int.le_of_lt (pow_pos _))
 exact Int.lt_of_lt_of_le r (Int.mul_le_mul_of_nonneg_right o (Int.le_of_lt e))
theorem rs_digit {x y:Int} {s:Nat} (n:0≤x) (u:x<4294967296) (t:0≤y) (o:y<4294967296) (g:0<s) (q:s≤31):
  ∃r,binK.orI .u32 (x / 2^s) (y*2^(32 - s) % 4294967296)=r∧(0≤r∧r<4294967296)∧2^s*r=x - x % 2^s+4294967296*(y % 2^s):=by
 have b:(0:Int)<2^s:=Int.pow_pos (by decide)
 have c:(0:Int)<2^(32 - s):=Int.pow_pos (by decide)
 have l:(4294967296:Int)=2^s*2^(32 - s):=by
  rw[←Int.pow_add,show s+(32 - s)=32 by omega]
  decide
 have f:y*2^(32 - s) % 4294967296=(y % 2^s)*2^(32 - s):=by
  conv=>lhs;rw[l]
  rw[Int.mul_comm y,Int.mul_comm (2^s),Int.mul_emod_mul_of_pos _ _ c,Int.mul_comm]
 have d:=Int.emod_nonneg y (show(2:Int)^s≠0 by omega)
 have p:=Int.emod_lt_of_pos y b
 have e:0≤x / 2^s:=Int.ediv_nonneg n (Int.le_of_lt b)
 have m:x / 2^s<2^(32 - s):=Int.ediv_lt_of_lt_mul b (by grind)
 have h:(y % 2^s)*2^(32 - s)+2^(32 - s)≤4294967296:=by
  have:=Int.mul_le_mul_of_nonneg_right (show y % 2^s+1≤2^s by omega) (Int.le_of_lt c)
  grind
 have j:0≤(y % 2^s)*2^(32 - s):=Int.mul_nonneg d (Int.le_of_lt c)
 have a:=or_add32 (k:=32 - s) e m d (by omega) (by omega)
 refine⟨x / 2^s+(y % 2^s)*2^(32 - s),by rw[f,a],⟨by omega,by omega⟩,?_⟩
 have i:=Int.mul_ediv_add_emod x (2^s)
 grind
theorem rs_step {U r:List Int} {i s:Nat} {d:Int} (b:Dig U) (c:Dig r) (h:i<r.length) (g:∀j,i≤j→nthD r j 0=0) (a:0≤d∧d<4294967296)
  (f:2^s*d=nthD U i 0 - nthD U i 0 % 2^s+4294967296*(nthD U (i+1) 0 % 2^s))
  (e:2^s*valN r=valN (U.take i) - nthD U 0 0 % 2^s+4294967296^i*(nthD U i 0 % 2^s)):
  Dig (r.set i d)∧(r.set i d).length=r.length∧(∀j,i+1≤j→nthD (r.set i d) j 0=0)∧
  2^s*valN (r.set i d)=valN (U.take (i+1)) - nthD U 0 0 % 2^s+4294967296^(i+1)*(nthD U (i+1) 0 % 2^s):=by
 grind[dig_set,nth_set_ne,val_set,take_snoc0]
theorem rs_fin {U r v q:List Int} {n s:Nat} {a b:Int} (f:Dig U) (A:Dig r) (y:Dig v) (g:v.length=n) (u:valN U<valN v) (J:valN v=b*2^s) (C:0<b) (D:valN U+valN v*valN q=a*2^s)
  (G:s≤31) (x:n+1≤U.length)
  (c:2^s*valN r=valN (U.take n) - nthD U 0 0 % 2^s+4294967296^n*(nthD U n 0 % 2^s)):valN q=a / b∧valN r=a % b:=by
 have H:(0:Int)<2^s:=Int.pow_pos (by decide)
 have m:=val_bdN y
 rw[g] at m
 have o:nthD U n 0=0:=nth_small f (i:=n) (by omega) (Nat.le_refl _)
 have e:valN (U.take n)=valN U:=by
  have k:=val_split (U:=U) (j:=n) (by omega)
  have p:=val_nonneg (dig_take f n)
  have w:=val_nonneg (dig_drop f n)
  by_cases h:valN (U.drop n)=0
  ·simp_all
  ·have:=Int.mul_le_mul_of_nonneg_left (show(1:Int)≤valN (U.drop n) by omega) (Int.le_of_lt (pow_pos n))
   omega
 have d:valN U=2^s*(a - b*valN q):=by
  grind
 have l:nthD U 0 0 % 2^s=0:=by
  have k:=@take_snoc0 U 0
  have p:=val_split (U:=U) (j:=1) (by omega)
  have E:(4294967296:Int)=2^s*2^(32 - s):=by
   rw[←Int.pow_add,show s+(32 - s)=32 by omega]
   decide
  simp only[Nat.zero_add,List.take_zero,valN,Int.pow_zero,Int.one_mul,Int.zero_add] at k
  rw[k,Int.pow_succ,Int.pow_zero,Int.one_mul] at p
  have w:nthD U 0 0=2^s*(a - b*valN q - 2^(32 - s)*valN (U.drop 1)):=by
   grind
  simp_all
 rw[o,l,e,Int.zero_emod,Int.mul_zero,Int.sub_zero,Int.add_zero,d] at c
 have t:valN r=a - b*valN q:=Int.eq_of_mul_eq_mul_left (by omega) c
 have B:=val_nonneg A
 have z:valN r<b:=by
  have:2^s*valN r<2^s*b:=by
   grind
  simp_all
 obtain⟨F,I⟩:=qr_of (X:=a) (V:=b) (q:=valN q) (by grind) (by grind)
 grind
theorem nrm_ge:∀{w:List Int},Dig w→Nrm w→w≠[]→4294967296^(w.length - 1)≤valN w
 |[],_,_,h=>absurd rfl h
 |[d],a,b,_=>by
  have f:=(dig_cons.1 a).1
  have c:=b.1 rfl
  grind[valN]
 |d::e::l,a,b,_=>by
  obtain⟨f,c⟩:=dig_cons.1 a
  have g:=nrm_ge c b.2 (by simp)
  have i:valN (d::e::l)=d+4294967296*valN (e::l):=rfl
  simp only[List.length_cons,Nat.add_sub_cancel] at g ⊢
  omega
theorem pow_mono {a b:Nat} (h:a≤b):(4294967296:Int)^a≤4294967296^b:=by
 obtain⟨m,rfl⟩:=Nat.exists_eq_add_of_le h
 rw[Int.pow_add]
 have c:=pow_pos a
 have d:=pow_pos m
 have:=Int.mul_le_mul_of_nonneg_left (show(1:Int)≤4294967296^m by omega) (Int.le_of_lt c)
 omega
theorem sh_trim {t:List Int} {s:Nat} (e:Dig t) (H:1≤t.length) (G:s≤31) (d:nthD t (t.length - 1) 0*2^s<4294967296) (c:2147483648≤nthD t (t.length - 1) 0*2^s):
  Dig (trimN (shl t s))∧(trimN (shl t s)).length=t.length∧valN (trimN (shl t s))=valN t*2^s∧2147483648≤nthD (trimN (shl t s)) (t.length - 1) 0∧1≤nthD t (t.length - 1) 0:=by
 have o:(0:Int)<2^s:=Int.pow_pos (by decide)
 have q:=dig_nth e (t.length - 1)
 have a:1≤nthD t (t.length - 1) 0:=by
  grind
 obtain⟨y,N,z,_⟩:=dv_start e e G (Nat.le_refl _) H a
 obtain⟨f,E⟩:=@trim_val (shl t s)
 have i:=trim_dig y
 rw[z] at f
 generalize trimN (shl t s)=w at*
 obtain⟨n,A⟩:∃n,t.length=n+1:=⟨t.length - 1,by omega⟩
 rw[A] at d c a q ⊢
 simp only[Nat.add_sub_cancel] at d c a q ⊢
 have p:=pow_pos n
 have v:valN t=valN (t.take n)+4294967296^n*nthD t n 0:=by
  grind[take_snoc0]
 have B:=val_nonneg (dig_take e n)
 have k:=val_bdN (dig_take e n)
 rw[List.length_take,Nat.min_eq_left (by omega)] at k
 have J:(4294967296:Int)=2^(32 - s)*2^s:=by
  rw[←Int.pow_add,show 32 - s+s=32 by omega]
  decide
 have L:(0:Int)<2^(32 - s):=Int.pow_pos (by decide)
 have D:nthD t n 0<2^(32 - s):=by
  simp_all
 have l:(nthD t n 0+1)*2^s≤4294967296:=by
  have:=Int.mul_le_mul_of_nonneg_right (show nthD t n 0+1≤2^(32 - s) by omega) (Int.le_of_lt o)
  omega
 have x:valN w<4294967296^(n+1):=by
  rw[f,Int.pow_succ]
  have F:valN t<4294967296^n*(nthD t n 0+1):=by grind
  have M:=Int.mul_lt_mul_of_pos_right F o
  have I:=Int.mul_le_mul_of_nonneg_left l (Int.le_of_lt p)
  grind
 have u:4294967296^n*(nthD t n 0*2^s)≤valN w:=by
  rw[f,←Int.mul_assoc]
  exact Int.mul_le_mul_of_nonneg_right (by omega) (Int.le_of_lt o)
 have r:(4294967296:Int)^n≤valN w:=by
  have:=Int.mul_le_mul_of_nonneg_left (show(1:Int)≤nthD t n 0*2^s by omega) (Int.le_of_lt p)
  omega
 have b:w.length=n+1:=by
  have K:n<w.length:=by
   by_cases h:n<w.length
   ·exact h
   ·have:=val_bdN i
    have:=pow_mono (show w.length≤n by omega)
    omega
  by_cases h:w.length=n+1
  ·exact h
  ·have j:w≠[]:=by grind
   have:=nrm_ge i E j
   have:=pow_mono (show n+1≤w.length - 1 by omega)
   omega
 refine⟨i,b,f,?_,a⟩
 have C:valN w=valN (w.take n)+4294967296^n*nthD w n 0:=by
  grind[take_snoc0]
 have m:=val_bdN (dig_take i n)
 rw[List.length_take,Nat.min_eq_left (by omega)] at m
 have g:4294967296^n*(nthD t n 0*2^s)<4294967296^n*(nthD w n 0+1):=by grind
 have:=Int.lt_of_mul_lt_mul_left g (Int.le_of_lt p)
 omega
@[reducible] def sF:SId:=.pair .b (.pair (.lst (.i .u32)) (.lst (.i .u32)))
abbrev Fra:=Bool×(List Int×List Int)
def frE (q:Rat):Fra:=(decide (q<0),(natL (q.num.natAbs:Int),natL (q.den:Int)))
def valF (x:Fra):Rat:=mkRat (if x.1 then -valN x.2.1 else valN x.2.1) (valN x.2.2).toNat
def Sz (k:Nat) (q:Rat):Prop:=(q.num.natAbs:Int)<4294967296^k∧(q.den:Int)<4294967296^k
theorem natL_len {n:Int} {k:Nat} (e:0≤n) (h:n<4294967296^k):(natL n).length≤k:=by
 obtain⟨f,b,d⟩:=natL_ok e
 by_cases c:(natL n).length≤k
 ·exact c
 ·have a:natL n≠[]:=by grind
  have:=nrm_ge b d a
  have:=pow_mono (show k≤(natL n).length - 1 by omega)
  omega
theorem lt_of_len {a:List Int} {k:Nat} (h:Dig a) (b:a.length≤k):valN a<4294967296^k:=by
 have:=val_bdN h
 have:=pow_mono b
 omega
theorem valF_frE (q:Rat):valF (frE q)=q:=by
 unfold valF frE
 have a:=(natL_ok (show(0:Int)≤(q.num.natAbs:Int) by omega)).1
 have b:=(natL_ok (show(0:Int)≤(q.den:Int) by omega)).1
 simp only[a,b,decide_eq_true_eq,Int.toNat_natCast]
 grind[Rat.num_nonneg,Rat.mkRat_self]
theorem mk_num {N:Int} {D:Nat} (a:D≠0):(mkRat N D).num.natAbs=N.natAbs / N.natAbs.gcd D∧(mkRat N D).den=D / N.natAbs.gcd D:=by
 rw[←Rat.normalize_eq_mkRat a,Rat.normalize_eq a]
 simp only
 refine⟨?_,trivial⟩
 have b:0<N.natAbs.gcd D:=Nat.gcd_pos_of_pos_right _ (by omega)
 have c:((N.natAbs.gcd D:Nat):Int)∣N:=Int.ofNat_dvd_left.2 (Nat.gcd_dvd_left _ _)
 generalize N.natAbs.gcd D=g at*
 obtain⟨m,rfl⟩:=c
 rw[Int.mul_ediv_cancel_left _ (by omega),Int.natAbs_mul,Int.natAbs_natCast,Nat.mul_div_cancel_left _ b]
theorem mk_neg {N:Int} {D:Nat} (f:D≠0):mkRat N D<0↔N<0:=by
 have i:(0:Rat)=mkRat 0 D:=(Rat.zero_mkRat D).symm
 have e:mkRat N D<0↔¬0≤mkRat N D:=Rat.not_le.symm
 rw[e,←Rat.num_nonneg]
 have g:=Rat.num_divInt_den (mkRat N D)
 have c:(mkRat N D).num*(D:Int)=N*((mkRat N D).den:Int):=by
  grind[Rat.mkRat_eq_iff,mkRat,Rat.mkRat_self]
 have d:(0:Int)<((mkRat N D).den:Int):=by have:=(mkRat N D).den_pos;omega
 have b:(0:Int)<(D:Int):=by omega
 constructor
 ·intro h
  by_cases a:N<0
  ·exact a
  ·exfalso
   apply h
   have:0≤(mkRat N D).num*(D:Int):=by rw[c];exact Int.mul_nonneg (by omega) (by omega)
   exact Int.nonneg_of_mul_nonneg_left this b
 ·intro a h
  have:0≤(mkRat N D).num*(D:Int):=Int.mul_nonneg h (by omega)
  rw[c] at this
  have:=Int.mul_neg_of_neg_of_pos a d
  omega
theorem frE_mk {s:Bool} {n d:Int} (n0:0≤n) (f:0<d):frE (mkRat (if s then -n else n) d.toNat)=(s&&decide (0<n),(natL (n / gcdN n d),natL (d / gcdN n d))):=by
 have e:d.toNat≠0:=by omega
 obtain⟨b,c⟩:=mk_num (N:=if s then -n else n) e
 have a:(if s then -n else n).natAbs=n.toNat:=by split<;>omega
 unfold frE
 rw[b,c,a]
 have g:gcdN n d=((n.toNat.gcd d.toNat:Nat):Int):=rfl
 refine Prod.ext ?_ (Prod.ext ?_ ?_)
 ·simp only
  rw[Bool.eq_iff_iff]
  simp only[decide_eq_true_eq,Bool.and_eq_true]
  grind[mk_neg]
 all_goals grind
theorem sz_mk {N:Int} {D:Nat} {k:Nat} (b:D≠0) (f:(N.natAbs:Int)<4294967296^k) (e:(D:Int)<4294967296^k):Sz k (mkRat N D):=by
 obtain⟨c,a⟩:=mk_num (N:=N) b
 unfold Sz
 rw[c,a]
 have g:=Nat.div_le_self N.natAbs (N.natAbs.gcd D)
 have d:=Nat.div_le_self D (N.natAbs.gcd D)
 omega
theorem Sz.mono {j k:Nat} {q:Rat} (h:Sz j q) (a:j≤k):Sz k q:=by
 have:=pow_mono a
 exact⟨by have:=h.1;omega,by have:=h.2;omega⟩
theorem add_mk (p q:Rat):p+q=mkRat (p.num*q.den+q.num*p.den) (p.den*q.den):=by
 rw[Rat.add_def,Rat.normalize_eq_mkRat]
theorem sz_add {p q:Rat} {i j:Nat} (e:Sz i p) (c:Sz j q):Sz (i+j+1) (p+q):=by
 rw[add_mk]
 have g:=p.den_pos
 have l:=q.den_pos
 have k:p.den*q.den≠0:=Nat.ne_of_gt (Nat.mul_pos g l)
 have m:∀{a b:Int} {i j:Nat},0≤a→0≤b→a<4294967296^i→b<4294967296^j→a*b<4294967296^(i+j):=by
  intro a b i j h o f d
  rw[Int.pow_add]
  exact Int.lt_of_le_of_lt (Int.mul_le_mul_of_nonneg_left (Int.le_of_lt d) h) (Int.mul_lt_mul_of_pos_right f (pow_pos _))
 have f:=m (by omega) (by omega) e.1 c.2
 have d:=m (by omega) (by omega) c.1 e.2
 have n:=m (by omega) (by omega) e.2 c.2
 rw[Nat.add_comm j i] at d
 have t:=pow_pos (i+j)
 refine sz_mk k ?_ ?_
 ·have r:(p.num*(q.den:Int)).natAbs=p.num.natAbs*q.den:=by rw[Int.natAbs_mul,Int.natAbs_natCast]
  have s:(q.num*(p.den:Int)).natAbs=q.num.natAbs*p.den:=by rw[Int.natAbs_mul,Int.natAbs_natCast]
  omega
 omega
theorem sz_neg {p:Rat} {i:Nat} (a:Sz i p):Sz i (-p):=by
 grind[Sz,Rat.neg_num,Rat.neg_den]
structure Tb where
 coef:List (List Rat)
 bound:List Rat
 cost:List Rat
 value:Rat
 basic:List Int
 free:List Int
namespace Tb
def cf (t:Tb) (i j:Nat):Rat:=nthD (nthD t.coef i []) j 0
def bd (t:Tb) (i:Nat):Rat:=nthD t.bound i 0
def cs (t:Tb) (j:Nat):Rat:=nthD t.cost j 0
def bv (t:Tb) (i:Nat):Int:=nthD t.basic i 0
def fv (t:Tb) (j:Nat):Int:=nthD t.free j 0
end Tb
def elimR (l:List Rat) (c:Nat) (p:List Rat):List Rat:=(List.range l.length).map fun j=>if j=c then -(nthD l c 0*nthD p j 0) else nthD l j 0 - nthD l c 0*nthD p j 0
def prowR (l:List Rat) (c:Nat):List Rat:=(List.range l.length).map fun j=>if j=c then 1 / nthD l c 0 else nthD l j 0*(1 / nthD l c 0)
def pivT (t:Tb) (r c:Nat):Tb where
 coef:=(List.range t.coef.length).map fun i=>if i=r then prowR (nthD t.coef r []) c else elimR (nthD t.coef i []) c (prowR (nthD t.coef r []) c)
 bound:=(List.range t.bound.length).map fun i=>if i=r then t.bd r*(1 / t.cf r c) else t.bd i - t.cf i c*(t.bd r*(1 / t.cf r c))
 cost:=elimR t.cost c (prowR (nthD t.coef r []) c)
 value:=t.value+t.cs c*(t.bd r*(1 / t.cf r c))
 basic:=t.basic.set r (t.fv c)
 free:=t.free.set c (t.bv r)
section
variable {n m:Nat} {t:Tb} {r c:Nat}
end
structure Piv (n m:Nat) (t:Tb) (r c:Nat):Prop where
 hr:r<m
 hc:c<n
 cost:0<t.cs c
 least:∀j,j<n→0<t.cs j→t.fv c≤t.fv j
 pos:0<t.cf r c
 ratio:∀i,i<m→0<t.cf i c→t.bd r / t.cf r c<t.bd i / t.cf i c∨(t.bd r / t.cf r c=t.bd i / t.cf i c∧t.bv r≤t.bv i)
section
variable {n m:Nat} {t t0:Tb} {r c:Nat}
theorem Piv.value:(pivT t r c).value=t.value+t.cs c*(t.bd r / t.cf r c):=by
 show t.value+t.cs c*(t.bd r*(1 / t.cf r c))=_
 grind
end
open Go.Proofs.YtddpfdamlefbgaaGreat.Ir
open Go.Proofs
def vL (l:List Fra):List Rat:=l.map valF
structure TabF where
 n:Int
 m:Int
 k0:Nat
 k1:Nat
 k3:Nat
 k4:Nat
 coef:List (List Fra)
 bound:List Fra
 cost:List Fra
 v:Fra
 basic:List Int
 free:List Int
def TabF.t (x:TabF):Tb:=⟨x.coef.map vL,vL x.bound,vL x.cost,valF x.v,x.basic,x.free⟩
section
variable {n m:Int} {t:Tb}
end
section
variable {n m:Nat} {t t0:Tb} {r c:Nat}
end
section
variable {P:Program} {T:Tab} {p:SPar} {Λ:Nat→LoopAnn}
end
theorem finishOwn_frz {k:Nat} {r a:AV} {o mid o2:Store} (c:r.frz o (fun i=>decide (k≤i))=some a) (g:frzS o (fun i=>decide (k≤i)) o=some mid) (e:dropPu (fun i=>decide (k≤i)) 0 mid=o2) (f:a.bel k=true) (d:∀x∈o2,x.bel k=true) (l:k≤o2.length):finishOwn k r o=some (a,o2.take k):=by
 unfold finishOwn
 rw[c,g]
 simp only[e]
 have m:∀x∈o2.take k,x.bel k=true:=fun x h=>d x (List.mem_of_mem_take h)
 rw[reach_bel (by grind[belL,avs_bel])]
 have j:callOwn.nodupN (List.range k)=true:=by rw[List.range_eq_range'];exact nodup_range'
 rw[if_pos j,ren_bel f]
 have b:=sub_range (k:=k) (o:=o2) m l (n:=k) (s:=0) (by omega)
 rw[←List.range_eq_range',List.drop_zero] at b
 rw[b]
def finF (k:Nat) (r:SV) (o:SStore) (K:SV→SStore→Prop):Prop:=
 frzA o k r fun b=>frzAO o k 0 o fun a=>if b.bel k&&a.all (fun x=>x.bel k)&&decide (k≤a.length) then K b (a.take k) else False
theorem finF_sound {k:Nat} {r:SV} {o:SStore} {K:SV→SStore→Prop} (h:finF k r o K):∃r' o',finishOwn k r.g (gO o)=some (r'.g,gO o')∧K r' o':=by
 unfold finF at h
 obtain⟨l,p,f⟩:=frzA_sound h
 obtain⟨c,i,n,m,a⟩:=frzAO_sound f
 split at a
 ·rename_i b
  simp only[Bool.and_eq_true,decide_eq_true_eq,List.all_eq_true] at b
  obtain⟨⟨d,j⟩,e⟩:=b
  refine⟨l,c.take k,?_,a⟩
  simp_all[finishOwn_frz,bel_g,gO,obel_g]
 simp_all
def fnOwnFK (p:SPar) (Λ:Nat→LoopAnn) (F:IFn) (args:List SV) (o:SStore) (Q:SV→SStore→Prop):Prop:=
 wpS p o.length F.body Λ ⟨bindS 0 args,o⟩ fun a b=>match a with
  | .exit _=>False
  | .goto _=>False
  |_=>resK b F.res fun r=>finF o.length r b.o Q
theorem fnOwnFK_sound {P:Program} {T:Tab} {p:SPar} {Λ:Nat→LoopAnn} (A:TabOK P T) (t:SCallsOK T.K p.C) (y:∀f F,p.it f=some F→T.fn f=some F) {f:FuncId} {F:IFn} (n:T.fn f=some F) {args:List SV} {o:SStore} {r:AV} {o':Store} (z:T.K f (gL args) (gO o) true=none) (j:args.length=F.params)
  {Q:SV→SStore→Prop} (D:∀v s,Q v s→v.g=r∧gO s=o') (h:fnOwnFK p Λ F args o Q):goodF P f=true∧CallO P f (gL args) (gO o) r o':=by
 unfold fnOwnFK at h
 have e:=wpS_sound t y h
 have d:(SSt.mk (bindS 0 args) o).g=⟨bindArgs 0 (gL args),gO o⟩:=by simp[SSt.g,bindS_g]
 rw[d] at e
 have i:(gO o).length=o.length:=gO_len o
 rw[←i] at e
 have x:∀(a:SSt),(resK a F.res fun v=>finF (gO o).length v a.o Q)→(resultsA a.g F.res).bind (fun c=>finish true (gO o).length c a.g.o)=some (r,o'):=by
  intro a m
  obtain⟨c,k,l⟩:=resK_sound m
  obtain⟨u,q,w,E⟩:=finF_sound l
  rw[k]
  simp only[Option.bind_some,finish,if_true]
  have:finishOwn (gO o).length c.g a.g.o=some (u.g,gO q):=w
  grind
 obtain⟨k,l,_⟩:=call_of_vw A n (o:=gO o) (own:=true) z (by grind[gL_len]) (v:=r) (o':=o') (e.mono fun b s B=>by
  obtain⟨a,rfl,m⟩:=B
  cases b<;>simp_all)
 simp_all
theorem holdsF_of {P:Program} {d:FuncId→Option IFn} {L:List SCtr} {W:List OCtr} (c:OCtr) {F:IFn} {k:TypeId→Option SId} {e:List Nat×Bool→Option (SId×SId)} {Λ:c.α→Nat→LoopAnn}
  (n:TabOK P ⟨d,fun _ _ _ _=>none⟩) (i:∀c∈W,HoldsO P c) (o:∀c∈L,Holds P c)
  (l:d c.f=some F) (b:∀a,(c.put a).length=F.params)
  (a:c.α) (m:findO c.f W=none)
  (h:fnOwnFK (parL L (ownT W) k e d) (Λ a) F (c.put a) (c.st a) fun v s=>v.same (c.res a)∧sameO s (c.out a)):
  goodF P c.f=true∧CallO P c.f (gL (c.put a)) (gO (c.st a)) (c.res a).g (gO (c.out a)):=by
 refine fnOwnFK_sound (p:=parL L (ownT W) k e d) (Λ:=Λ a) (Q:=fun v s=>v.same (c.res a)∧sameO s (c.out a)) (tabL_ok (ownT_ok i) o n) (tabL_calls (ownT_ok i)) (fun _ _ h=>h) l ?_ (b a) (fun v s j=>⟨j.1,sameO_g j.2⟩) h
 simp_all[tabL,tabK,ownT,ownA]
end Go.Vi
namespace Go.Proofs
open Go.Shelf
def Tryz.layC_ren:Ren:=
 ⟨fun
  |41=>20
  |n=>n,
 fun
  |22=>24
  |23=>3
  |4=>4
  |n=>n,
 fun n=>n⟩
def Tryz.layO_ren:Ren:=
 ⟨fun
  |41=>19
  |n=>n,
 fun
  |22=>25
  |23=>73
  |4=>4
  |n=>n,
 fun n=>n⟩
def Tryz.layQ_ren:Ren:=
 ⟨fun
  |6=>36
  |15=>61
  |14=>60
  |28=>93
  |29=>94
  |20=>85
  |21=>86
  |22=>87
  |23=>88
  |24=>89
  |25=>90
  |26=>91
  |27=>92
  |46=>112
  |47=>113
  |48=>114
  |49=>115
  |50=>116
  |57=>123
  |n=>n,
 fun
  |22=>57
  |24=>41
  |25=>89
  |3=>3
  |39=>114
  |0=>0
  |53=>90
  |55=>107
  |4=>4
  |46=>148
  |45=>147
  |50=>152
  |5=>5
  |9=>9
  |66=>174
  |70=>178
  |76=>184
  |77=>129
  |n=>n,
 fun n=>n⟩
theorem Tryz.layC:SlLaysE0.n41 Tryz.prog Tryz.layC_ren:={mixed:=by kernel_rfl,f41:=⟨Tryz.f20.name,by decide,Tryz.func20.trans (by kernel_rfl)⟩,t4:=Tryz.underlying4,a4:=Tryz.isAgg4,z4:=Tryz.sizeOf4,v4:=Tryz.zeroValue4,t22:=Tryz.underlying24,a22:=Tryz.isAgg24,z22:=Tryz.sizeOf24,v22:=Tryz.zeroValue24}
theorem Tryz.layO:SlLaysE0.n41 Tryz.prog Tryz.layO_ren:={mixed:=by kernel_rfl,f41:=⟨Tryz.f19.name,by decide,Tryz.func19.trans (by kernel_rfl)⟩,t4:=Tryz.underlying4,a4:=Tryz.isAgg4,z4:=Tryz.sizeOf4,v4:=Tryz.zeroValue4,t22:=Tryz.underlying25,a22:=Tryz.isAgg25,z22:=Tryz.sizeOf25,v22:=Tryz.zeroValue25}
theorem Tryz.layQ:SlLaysF0.n6 Tryz.prog Tryz.layQ_ren:={mixed:=by kernel_rfl,f6:=⟨Tryz.f36.name,by decide,Tryz.func36.trans (by kernel_rfl)⟩,f14:=⟨Tryz.f60.name,by decide,Tryz.func60.trans (by kernel_rfl)⟩,f15:=Tryz.func61.trans (by kernel_rfl),f20:=⟨Tryz.f85.name,by decide,Tryz.func85.trans (by kernel_rfl)⟩,f21:=⟨Tryz.f86.name,by decide,Tryz.func86.trans (by kernel_rfl)⟩,f22:=⟨Tryz.f87.name,by decide,Tryz.func87.trans (by kernel_rfl)⟩,f23:=⟨Tryz.f88.name,by decide,Tryz.func88.trans (by kernel_rfl)⟩,f24:=⟨Tryz.f89.name,by decide,Tryz.func89.trans (by kernel_rfl)⟩,f25:=⟨Tryz.f90.name,by decide,Tryz.func90.trans (by kernel_rfl)⟩,f26:=⟨Tryz.f91.name,by decide,Tryz.func91.trans (by kernel_rfl)⟩,f27:=⟨Tryz.f92.name,by decide,Tryz.func92.trans (by kernel_rfl)⟩,f28:=Tryz.func93.trans (by kernel_rfl),f29:=Tryz.func94.trans (by kernel_rfl),f46:=⟨Tryz.f112.name,by decide,Tryz.func112.trans (by kernel_rfl)⟩,f47:=Tryz.func113.trans (by kernel_rfl),f48:=Tryz.func114.trans (by kernel_rfl),f49:=⟨Tryz.f115.name,by decide,Tryz.func115.trans (by kernel_rfl)⟩,f50:=⟨Tryz.f116.name,by decide,Tryz.func116.trans (by kernel_rfl)⟩,f57:=⟨Tryz.f123.name,by decide,Tryz.func123.trans (by kernel_rfl)⟩,t0:=Tryz.underlying0,a0:=Tryz.isAgg0,z0:=Tryz.sizeOf0,v0:=Tryz.zeroValue0,t3:=Tryz.underlying3,a3:=Tryz.isAgg3,z3:=Tryz.sizeOf3,v3:=Tryz.zeroValue3,t4:=Tryz.underlying4,a4:=Tryz.isAgg4,z4:=Tryz.sizeOf4,v4:=Tryz.zeroValue4,t5:=Tryz.underlying5,a5:=Tryz.isAgg5,z5:=Tryz.sizeOf5,v5:=Tryz.zeroValue5,t9:=Tryz.underlying9,a9:=Tryz.isAgg9,z9:=Tryz.sizeOf9,v9:=Tryz.zeroValue9,t22:=Tryz.underlying57,a22:=Tryz.isAgg57,z22:=Tryz.sizeOf57,v22:=Tryz.zeroValue57,t25:=Tryz.underlying89,a25:=Tryz.isAgg89,z25:=Tryz.sizeOf89,v25:=Tryz.zeroValue89,t39:=Tryz.underlying114,a39:=Tryz.isAgg114,z39:=Tryz.sizeOf114,v39:=Tryz.zeroValue114,t45:=Tryz.underlying147,a45:=Tryz.isAgg147,z45:=Tryz.sizeOf147,v45:=Tryz.zeroValue147,t46:=Tryz.underlying148,a46:=Tryz.isAgg148,z46:=Tryz.sizeOf148,v46:=Tryz.zeroValue148,t50:=Tryz.underlying152,a50:=Tryz.isAgg152,z50:=Tryz.sizeOf152,v50:=Tryz.zeroValue152,t53:=Tryz.underlying90,a53:=Tryz.isAgg90,z53:=Tryz.sizeOf90,v53:=Tryz.zeroValue90,t55:=Tryz.underlying107,a55:=Tryz.isAgg107,z55:=Tryz.sizeOf107,v55:=Tryz.zeroValue107,t66:=Tryz.underlying174,a66:=Tryz.isAgg174,z66:=Tryz.sizeOf174,v66:=Tryz.zeroValue174,t70:=Tryz.underlying178,a70:=Tryz.isAgg178,z70:=Tryz.sizeOf178,v70:=Tryz.zeroValue178,t76:=Tryz.underlying184,a76:=Tryz.isAgg184,z76:=Tryz.sizeOf184,v76:=Tryz.zeroValue184,t77:=Tryz.underlying129,a77:=Tryz.isAgg129,z77:=Tryz.sizeOf129,v77:=Tryz.zeroValue129}
end Go.Proofs
namespace Go.Proofs
open Go.Shelf Go.RowKit Go.Lib
theorem cloneW {P:Program} {ρ:Ren} (L:SlLaysE0.n41 P ρ) (i0:TypeInfo) (z:Value) (b g:Nat) (I:P.info? (ρ.t 23)=some i0) (x:i0.zero=some z) (y:i0.size=b) (q:i0.bytes=g) (m:z.cells.size=b) (o:0<b)
  (Q:∀w,(Go.sizeOf (ρ.t 23)).run P w= .ok b w) (p:Addr) (n c:Nat) (d:List Value) (w:World) (K:d.length=n*b) (U:n≤maxLen) (B:n*g≤140737488355328)
  (C:∀j u,d[j]?=some u→w.cell? (p.add j)=some u) (E:∀u∈d,u.oneCell'=true):
  Calls P (ρ.f 41) #[.slice (some p) n c] w fun e w'=>∃l,e= .returned l∧w'.ownsRow w.heap.size (ρ.t 23) b l n d∧l≠ .slice none 0 0∧Below w.heap.size w w':=by
 have v:=L.mixed;have W:=L.t4;have V:=L.a4;have T:=L.z4;have S:=L.v4;have i:=L.t22;have N:=L.a22;have O:=L.z22;have H:=L.v22
 have G:∀(w:World) (a:Option Addr) (n c r s:Nat),(binOp .eql (ρ.t 22) (.slice a n c) (.slice none r s)).run P w= .ok (.bool a.isNone) w:=fun w a n c r s=>Lib.run_eql_slice_nil w _ _ a n c r s L.t22
 have F:∀w,Sem.run P (underlying (ρ.t 22)) w= .ok (TypeDesc.slice (ρ.t 23)) w:=run_underlying i
 have A:Aside (∀j u,d[j]?=some u→w.cell? (p.add j)=some u):=C
 clear C
 obtain⟨_,_,M⟩:=L.f41
 go_enter M,SlBodyN.n41_ntmps ρ
 go_wp2_with (at_builtin;refine wpList_append_own _ rfl _ _ (ρ.t 22) rfl w.heap.size (ρ.t 23) i0 z b g i I x y q m o _ _ _ rfl (World.ownsRow_made w #[] 0 (Nat.le_refl _) (Nat.zero_le _) (by simp)) p n c d rfl ?qc1 ?qc2 ?qc3 ?qc4 ?qc5 ?qc6 ?_)
 case qc1=>exact K
 case qc2=>
  intro j u J
  exact Lib.cell?_alloc_some _ (A.out j u J)
 case qc3=>exact E
 case qc4=>omega
 case qc5=>simp_all
 case qc6=>simp
 intro l R D h k
 go_wp2
 go_ret
 refine⟨l,rfl,by omega,?_,?_⟩
 ·exact k
 ·exact((Below.refl _ w).alloc (Nat.le_refl _) _).grown h (by simp) (by grind[Value.ownBlock])
end Go.Proofs
namespace Go.Vi
open Go.Proofs.YtddpfdamlefbgaaGreat.Ir
open Go.Proofs
theorem flatI (l:List Int):flatA (.i .i64) l=l.map fun x=>AV.sc (.int .i64 x):=by
 unfold flatA
 induction l with
 |nil=>rfl
 |cons x l a=>rw[List.flatMap_cons,a];rfl
def sortI (l:List Int):List Int:=l.mergeSort fun x y=>decide (x≤y)
theorem sortI_len {l:List Int}:(sortI l).length=l.length:=(List.mergeSort_perm _ _).length_eq
theorem cloneC {A:Clr} {w:World} {l:List Int} {vs:List Value} {m:FuncId} (n:m=Tryz.layC_ren.f 41) (N:SimO A w [] []) (K:l.length≤1000000) (B:RepL A w [] [] [.sl l.length (l.map fun x=>AV.sc (.int .i64 x))] vs):
  Calls Tryz.prog m vs.toArray w fun e w'=>RowKit.Below w.heap.size w w'∧((e= .returned (.slice none 0 0)∧l=[])∨∃g cap c,e= .returned (.slice (some ⟨g,0,none⟩) l.length cap)∧w.heap.size≤g∧w'.heap[g]?=some (.cells c 3 (0,0))∧l.length≤cap∧cap≤maxLen∧c.size=cap∧c.toList.take l.length=l.map (Value.int .i64)):=by
 subst n
 simp only[RepL] at B
 obtain⟨v,r,rfl,t,rfl⟩:=B
 simp only[Rep] at t
 obtain⟨a,cap,rfl,q,_,C⟩:=t
 cases a with
 |none=>
  have z:l=[]:=by
   cases l<;>grind[RepM]
  grind[Calls.mono,AnyE.slices_Clone_nil,Tryz.layC,RowKit.Below.refl]
 |some p=>
  have H:∀j u,(l.map (Value.int .i64))[j]?=some u→w.cell? (p.add j)=some u:=by
   intro j u s
   rw[List.getElem?_map] at s
   obtain⟨x,F,rfl⟩:=Option.map_eq_some_iff.1 s
   obtain⟨b,v,e,_,o,y⟩:=RepM.get _ _ _ C j (.sc (.int .i64 x)) (by simp[F])
   grind[Rep]
  refine Calls.mono (cloneW Tryz.layC Tryz.t3 (.int .i64 0) 1 8 (by kernel_rfl) (by kernel_rfl) (by kernel_rfl) (by kernel_rfl) (by kernel_rfl) (by omega) Tryz.sizeOf3 p l.length cap (l.map (Value.int .i64)) w (by simp) (by grind[maxLen]) (by omega) H (by simp[Value.oneCell'])) ?_
  rintro e w' ⟨L,rfl,k,E,i⟩
  refine⟨i,.inr ?_⟩
  obtain⟨_,h|⟨g,d,c,rfl,J,I,D,G,M,O⟩⟩:=k
  ·simp_all
  ·exact⟨g,d,c,rfl,J,I,D,G,by omega,by simp_all⟩
def r330:SCtr:=⟨20,List Int,.one (codR (.i .i64)),fun l=>l.length≤1000000,fun l=> .row (.i .i64) l⟩
theorem h330:Holds Tryz.prog r330:=by
 intro(l:List Int) (hl:l.length≤1000000)
 refine⟨by kernel_rfl,?_⟩
 intro A w σ vs hS hR
 have hσ:σ=[]:=by have:=hS.len;simpa using this
 subst hσ
 have e1:gL (r330.A.put l)=[.sl l.length (l.map fun x=>AV.sc (.int .i64 x))]:=by rw[←flatI];rfl
 have e2:(r330.res l).G= .sl l.length (l.map fun x=>AV.sc (.int .i64 x)):=by rw[←flatI];rfl
 rw[e1] at hR
 rw[e2]
 refine Calls.mono (cloneC (by rfl) hS hl hR) ?_
 rintro e w' ⟨hb,h⟩
 have hS':SimO A w' [] []:=⟨rfl,by simp,by simp,by simp,by simp,fun b h=>Nat.lt_of_lt_of_le (hS.avb b h) hb.size⟩
 have hE:Ext w [] [] w' [] []:=⟨hb.size,fun b h _=>⟨hb.block b h,fun⟨i,c,hi⟩=>by simp at hi⟩,Nat.le_refl _,fun _ _ ⟨_,_,_,_,h,_⟩=>by simp at h,fun _ ⟨_,_,_,h⟩=>by simp at h,hb.os,hb.tape,hb.output⟩
 rcases h with⟨rfl,rfl⟩|⟨g,cap,cur,rfl,h1,h2,h3,h4,h5,h6⟩
 ·exact⟨_,[],rfl,hS',by simp only[Rep];exact⟨none,0,rfl,by simp,by rw[←flatI];exact flatA_pure _ _,by simp[RepM]⟩,hE⟩
 ·refine⟨_,[],rfl,hS',?_,hE⟩
  simp only[Rep]
  refine⟨_,_,rfl,h3,by rw[←flatI];exact flatA_pure _ _,RepM.of_get _ _ _ fun i c hi=>?_⟩
  rw[List.getElem?_map] at hi
  obtain⟨x,hx,rfl⟩:=Option.map_eq_some_iff.1 hi
  have hil:=(List.getElem?_eq_some_iff.1 hx).1
  have h9:(cur.toList.take l.length)[i]?=(l.map (Value.int .i64))[i]?:=by rw[h6]
  rw[List.getElem?_take_of_lt hil,Array.getElem?_toList,List.getElem?_map,hx] at h9
  refine⟨⟨g,0,none⟩,.int .i64 x,rfl,⟨fun⟨i,c,hi⟩=>by simp at hi,fun hA=>by have:=hS.avb g hA;omega⟩,?_,by simp[Rep,Value.oneCell']⟩
  rw[Addr.add_lit]
  simp only[World.cell?,h2,Nat.zero_add,Option.isSome_none,Bool.false_eq_true,if_false]
  exact h9
structure Game where
 rows:List (List Int)
 bounds:List Int
 offers:List Off
def useG (g:Game) (c:List Int) (r:Nat):Int:=(c.map fun x=>nthD (nthD g.rows r []) x.toNat 0).sum
def fitG (g:Game) (c:List Int):Bool:=(List.range g.bounds.length).all fun r=>decide (0≤nthD g.bounds r 0 - useG g c r)
def valG (g:Game) (c:List Int):Int:=(c.map fun x=>(nthD g.offers x.toNat SId.off.dflt).value).sum
def betG (g:Game) (v:Int) (c:List Int):Bool:=decide (v<valG g c)&&fitG g c
def ex3 (g:Game) (c:List Int) (v:Int) (a:List Int) (o k:Int):Option (List Int):=if k≤o∨k∈c then none else if betG g v (sortI (a++[o,k]))=true then some (sortI (a++[o,k])) else none
def ex2 (g:Game) (c:List Int) (v:Int) (a:List Int) (o:Int):Option (List Int):=if o∈c then none else if betG g v (sortI (a++[o]))=true then some (sortI (a++[o])) else(List.range g.offers.length).findSome? fun k:Nat=>ex3 g c v a o k
def outI (c:List Int) (i:Nat):List Int:=c.take i++c.drop (i+1)
def ex1 (g:Game) (c:List Int) (v:Int) (i:Nat):Option (List Int):=(List.range g.offers.length).findSome? fun o:Nat=>ex2 g c v (outI c i) o
def valI (p:Prob) (i:Int):Int:=(nthD p.offers i.toNat SId.off.dflt).value
def leftN (p:Prob) (i:Int):Nat:=(p.offers.length - i).toNat
theorem conR {L:List SCtr} {W:OwnT} (c:SCtr) (F:IFn) (Λ:Nat→LoopAnn) (hW:OwnOK Tryz.prog W) (hL:∀c∈L,Holds Tryz.prog c)
  (hF:fnN c.f=some F) (a:c.α) (hlen:(c.A.put a).length=F.params) (hfr:∀d,findC c.f L=some d→∀b,gL (c.A.put a)=gL (d.A.put b)→¬d.dom b)
  (h:Vc (fnK (parL L W tyN mtN fnN) Λ F (c.A.put a) fun v=>v.sameR (c.res a))):goodF Tryz.prog c.f=true∧CallO Tryz.prog c.f (gL (c.A.put a)) [] (c.res a).G []:=by
 refine fnK_soundR (p:=parL L W tyN mtN fnN) (Λ:=Λ) (tabL_ok hW hL base_ok) (tabL_calls hW) (fun _ _ h=>h) hF ?_ hlen (fun _ h=>sameR_G h) h.out
 simp only[tabL,tabK,Bool.false_eq_true,if_false]
 split
 ·rename_i d hd
  have:ans (fun a=>gL (d.A.put a)) d.dom (fun a=>(d.res a).G) (gL (c.A.put a))=none:=by
   unfold ans
   rw[dif_neg]
   rintro⟨b,h1,h2⟩
   exact hfr d hd b h1 h2
  rw[this]
  rfl
 ·rfl
section
variable {n m:Nat} {t t0:Tb} {r c:Nat}
end
section
variable {n m:Nat} {t t0 t':Tb}
end
section
variable {n m:Nat} {t t0:Tb}
end
section
variable {n m:Nat} {t t0:Tb}
end
open Classical in
section
variable {n m:Nat} {t t0 t':Tb}
end
section
variable {p:Prob} {f:List Int}
end
def rngB (f:List Int):Bool:=f.all fun x=>decide (-1≤x)&&decide (x≤1)
def fixE (p:Prob) (f:List Int):Int:=if checkE p≠0 then checkE p else if f.length≠p.offers.length then 3 else if rngB f=true then 0 else 4
abbrev Nod:=Int×(Int×(Int×(Int×List Fra)))
@[reducible] def sNd:SId:=.pair (.i .i64) (.pair (.i .i64) (.pair (.i .i64) (.pair (.i .i64) (.lst sF))))
structure Srch where
 ch:List Int
 val:Int
 found:Bool
 prf:List Nod
 err:Int
structure FixQ (p:Prob) (f:List Int):Prop where
 c:checkE p=0
 l:f.length=p.offers.length
 r:rngB f=true
theorem FixQ.e {p:Prob} {f:List Int} (h:FixQ p f):fixE p f=0:=by
 unfold fixE
 rw[if_neg (by simp[h.c]),if_neg (by simp[h.l]),if_pos h.r]
section
variable {p:Prob} {v v':Int} {t t':List Nod} {a lo hi:Nat} {f:List Int}
end
structure SrF where
 p:Prob
 ch:List Int
 val:Int
 found:Bool
 en:Option Int
 k1:Nat
 k2:Nat
 most:Int
 err:Int
 prf:List Nod
 fx:List Int
def SrF.s (x:SrF):Srch:=⟨x.ch,x.val,x.found,x.prf,x.err⟩
section
variable {p:Prob} {v:Int} {t:List Nod} {a lo mid hi n:Nat} {f:List Int} {k:Int} {s:List Bool}
end
def tabP (p:Prob) (n:Nat):List Int:=(List.range n).map fun(m:Nat)=>bestS p ⟨(m:Int),p.supply,p.opn⟩
def tabS (p:Prob):List Int:=tabP p (2^p.classes.length)
end Go.Vi
