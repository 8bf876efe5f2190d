/-
  Contracts: natural numbers of any size: digit.
  Conditions: none.
-/
import Derived.Test.YtoifpgeocpjneaaDB06
import Derived.Test.YtoifpgeocpjneaaDB07
import Derived.Test.YtoifpgeocpjneaaDB04
set_option maxRecDepth 100000
set_option maxHeartbeats 4000000
set_option linter.unusedSimpArgs false
set_option linter.unusedVariables false
namespace Go.Vi
open Go.Proofs.Ytoifpgeocpjneaa.Ir
open Go.Proofs
structure DgA where
 U:List Int
 j:Nat
 len:Nat
 n:Nat
 v:List Int
def DgA.x (a:DgA):Int:=valN (prt a.U a.j (a.v.length+1))
def DgA.ok (a:DgA):Prop:=(Dig a.U∧Dig a.v)∧(a.len=a.v.length+1∧a.n=a.U.length)∧(2≤a.v.length∧a.j+a.v.length+1≤a.U.length∧a.U.length≤200000000000)∧
 2147483648≤nthD a.v (a.v.length - 1) 0∧a.x<4294967296*valN a.v
def DgA.row (a:DgA):List Int:=wth a.U a.j (digK (a.v.length+1) (a.x % valN a.v))
def r169:OCtr where
 f:=91
 α:=DgA
 put a:=[.oc 0 a.j a.len a.n 1,.row (.i .u32) a.v]
 st a:=[.row (.i .u32) a.U 110 false]
 dec v o:=match v,o with
  |[.oc 0 j len n 1,v],[.row t l 110 false]=>match decRow (.i .u32) v,castL t (.i .u32) l with
   |some v,some l=>some ⟨l,j,len,n,v⟩
   |_,_=>none
  |_,_=>none
 ok v o a h:=by
  split at h
  ·split at h
   ·rename_i h1 h2
    simp only[Option.some.injEq] at h;subst h
    obtain⟨rfl,hh⟩:=castL_eq h2
    cases hh
    exact⟨by simp only[gL,decRow_ok h1],rfl⟩
   ·cases h
  ·cases h
 inj a b h1 h2:=by
  obtain⟨U,j,len,n,v⟩:=a
  obtain⟨U',j',len',n',v'⟩:=b
  simp only[gL,List.cons.injEq,and_true] at h1
  obtain⟨g1,g2⟩:=h1
  have e2:=(codR (.i .u32)).inj _ _ g2
  simp only[SV.g,AV.os.injEq,true_and,SId.sz,Nat.mul_one] at g1
  simp only[gO,List.map_cons,List.map_nil,SObj.g,List.cons.injEq,AObj.cells.injEq,and_true] at h2
  have hl:U=U':=by
   have hf:=congrArg List.length h2
   rw[flatA_len,flatA_len] at hf
   exact flatA_inj (.i .u32) (by simpa[SId.sz] using hf) h2
  obtain⟨q1,q2,q3⟩:=g1
  subst q3
  have:j=j':=by omega
  rw[e2,hl,q2,this]
 dom:=DgA.ok
 res a:=.si .u32 (a.x / valN a.v)
 out a:=[.row (.i .u32) a.row 110 false]
def st169 (U:List Int):SStore:=[.row (.i .u32) U 110 false]
def Λ169 (a:DgA):Nat→LoopAnn
 |4=> .inv (Int×Int) (fun x=>⟨[(0,.oc 0 a.j a.len a.n 1),(1,.row (.i .u32) a.v),(5,.si .i64 a.v.length),(7,.si .u64 x.1),(8,.si .u64 x.2)],st169 a.U⟩) (fun s=>(iS s 7,iS s 8))
  (fun x=>(0≤x.1∧x.1≤4294967297)∧(0≤x.2∧x.2<4294967296)∧x.1*nthD a.v (a.v.length - 1) 0+x.2=nthD a.U (a.j+(a.v.length - 1)) 0+4294967296*nthD a.U (a.j+a.v.length) 0∧a.x<(x.1+1)*valN a.v) (fun x=>x.1.toNat) fun _ _=> .look
 |10=> .inv (Int×Int×Int×Int×List Int) (fun x=>⟨[(0,.oc 0 a.j a.len a.n 1),(1,.row (.i .u32) a.v),(5,.si .i64 a.v.length),(7,.si .u64 x.2.1),(9,.si .u64 x.2.2.1),(10,.si .u64 x.2.2.2.1),(82,.si .i64 a.v.length),(83,.si .i64 x.1)],st169 x.2.2.2.2⟩)
  (fun s=>(iS s 83,iS s 7,iS s 9,iS s 10,oS (.i .u32) s 0))
  (fun x=>(0≤x.1∧x.1≤a.v.length)∧(0≤x.2.1∧x.2.1<4294967296)∧(a.x<(x.2.1+1)*valN a.v∧x.2.1*valN a.v<a.x+valN a.v)∧(0≤x.2.2.1∧x.2.2.1<4294967296)∧(0≤x.2.2.2.1∧x.2.2.2.1≤1)∧(Dig x.2.2.2.2∧x.2.2.2.2.length=a.U.length)∧
   (∀m,(m<a.j∨a.j+x.1.toNat≤m)→nthD x.2.2.2.2 m 0=nthD a.U m 0)∧
   valN (prt x.2.2.2.2 a.j x.1.toNat)=valN (prt a.U a.j x.1.toNat) - x.2.1*valN (a.v.take x.1.toNat)+4294967296^x.1.toNat*(x.2.2.1+x.2.2.2.1)) (fun x=>(a.v.length - x.1).toNat) fun _ _=> .look
 |23=> .inv (Int×Int×Int×List Int) (fun x=>⟨[(0,.oc 0 a.j a.len a.n 1),(1,.row (.i .u32) a.v),(5,.si .i64 a.v.length),(7,.si .u64 x.2.1),(9,.si .u64 x.2.2.1),(134,.si .i64 a.v.length),(135,.si .i64 x.1)],st169 x.2.2.2⟩)
  (fun s=>(iS s 135,iS s 7,iS s 9,oS (.i .u32) s 0))
  (fun x=>(0≤x.1∧x.1≤a.v.length)∧(0≤x.2.1∧x.2.1<4294967296)∧(a.x<x.2.1*valN a.v∧x.2.1*valN a.v<a.x+valN a.v)∧(0≤x.2.2.1∧x.2.2.1≤1)∧(Dig x.2.2.2∧x.2.2.2.length=a.U.length)∧
   ∃W,(Dig W∧W.length=a.U.length)∧(∀m,(m<a.j∨a.j+(a.v.length+1)≤m)→nthD W m 0=nthD a.U m 0)∧valN (prt W a.j (a.v.length+1))=a.x - x.2.1*valN a.v+4294967296^(a.v.length+1)∧
    (∀m,(m<a.j∨a.j+x.1.toNat≤m)→nthD x.2.2.2 m 0=nthD W m 0)∧valN (prt x.2.2.2 a.j x.1.toNat)+4294967296^x.1.toNat*x.2.2.1=valN (prt W a.j x.1.toNat)+valN (a.v.take x.1.toNat))
  (fun x=>(a.v.length - x.1).toNat) fun _ _=> .look
 |_=> .look
theorem h169:HoldsO Try.prog r169:=by
 refine conO (L:=[]) (W:=[]) r169 F169 Λ169 (by simp) (by simp) (by kernel_rfl) (fun _=>rfl) (by kernel_rfl) ?_
 rintro⟨U,j,len,n,v⟩ ⟨⟨hU,hv⟩,⟨e1,e2⟩,⟨hn,hj,hlU⟩,hv1,hx⟩
 simp only at hU hv hn hj hlU hv1 hx e1 e2
 subst e1 e2
 refine vcOf (let z0:=(↑v.length:Int);let z1:=v.length+1;let z2:=(↑z1:Int);let z3:=z0 - (1:Int);let z4:=nthD v z3.toNat (0:Int) % (18446744073709551616:Int);let z5:=binK.orI .u64 (nthD U (j+z0.toNat) 0 % (18446744073709551616:Int)*(4294967296:Int) % (18446744073709551616:Int)) (nthD U (j+z3.toNat) 0 % (18446744073709551616:Int));let z6:=z5.tdiv z4;let z7:=SV.oc 0 j z1 U.length 1;let z8:=SId.i .u32;let z9:=(↑v.length:Int);let z10:=SV.si .i64 z9;let z11:=SV.si .u64 z6;let z12:=z5.tmod z4;let z13:=SV.si .u64 z12;let z14:=SObj.row z8 U 110 false;let z15:=v.length - 1;let z16:=nthD v z15 (0:Int);let z17:=nthD U (j+z15) 0+(4294967296:Int)*nthD U (j+v.length) 0;let z18:=DgA.mk U j z1 U.length v;let z19:=z18.x;let z20:=z9 - (1:Int);let z21:=nthD v z20.toNat (0:Int) % (18446744073709551616:Int);let z22:=z19+valN v;let z23:=valN (prt U j 0);let z24:=j+z9.toNat;let z25:=SV.si .u32 (z19 / valN v);let z26:=SObj.row z8 z18.row 110 false;let z27:=(4294967296:Int)^z1;let z28:=z9 - (2:Int);U.length=U.length∧(0:Int)≤z0∧z0<z2∧j+z1≤U.length∧U.length=U.length∧j+z0.toNat<U.length∧(0:Int)≤(32:Int)∧(32:Int)≤(64:Int)∧inR .i64 z3∧U.length=U.length∧(0:Int)≤z3∧z3<z2∧j+z1≤U.length∧U.length=U.length∧j+z3.toNat<U.length∧inR .i64 z3∧(0:Int)≤z3∧z3<z0∧z3.toNat<v.length∧z4≠(0:Int)∧inR .u64 z6∧inR .i64 z3∧(0:Int)≤z3∧z3<z0∧z3.toNat<v.length∧z4≠(0:Int)∧(((z7.same z7∧(SV.row z8 v).same (SV.row z8 v)∧(SV.si .i64 z0).same z10∧z11.same z11∧z13.same z13∧True)∧z14.same z14∧True)∧((0:Int)≤z6∧z6≤(4294967297:Int))∧((0:Int)≤z12∧z12<(4294967296:Int))∧z6*z16+z12=z17∧z19<(z6+(1:Int))*valN v)∧∀(x:Int×Int),let z29:=decide ((4294967296:Int)≤x.fst);let z30:=(x.snd+z21) % (18446744073709551616:Int);let z31:=decide ((4294967296:Int)≤z30);let z32:=(x.fst - (1:Int)) % (18446744073709551616:Int);let z33:=SV.si .u64 z32;let z34:=SV.si .u64 z30;let z35:=decide (binK.orI .u64 (x.snd*(4294967296:Int) % (18446744073709551616:Int)) (nthD U (j+z28.toNat) 0 % (18446744073709551616:Int))<x.fst*(nthD v z28.toNat (0:Int) % (18446744073709551616:Int)) % (18446744073709551616:Int));let z36:=SV.si .u64 x.fst;((0:Int)≤x.fst∧x.fst≤(4294967297:Int))∧((0:Int)≤x.snd∧x.snd<(4294967296:Int))∧x.fst*z16+x.snd=z17∧z19<(x.fst+(1:Int))*valN v→(z29=true→inR .i64 z20∧(0:Int)≤z20∧z20<z0∧z20.toNat<v.length∧(z31=true→(((z7.same z7∧(SV.row z8 v).same (SV.row z8 v)∧z10.same z10∧z33.same z33∧(SV.il .u64 0).same (SV.si .u64 0)∧(SV.il .u64 0).same (SV.si .u64 0)∧z10.same z10∧(SV.il .i64 0).same (SV.si .i64 0)∧True)∧z14.same z14∧True)∧((0:Int)≤(0:Int)∧(0:Int)≤z9)∧((0:Int)≤z32∧z32<(4294967296:Int))∧(z19<(z32+(1:Int))*valN v∧z32*valN v<z22)∧((0:Int)≤(0:Int)∧(0:Int)<(4294967296:Int))∧((0:Int)≤(0:Int)∧(0:Int)≤(1:Int))∧(Dig U∧U.length=U.length)∧(∀(m:Nat),m<j∨j+0≤m→nthD U m (0:Int)=nthD U m (0:Int))∧z23=z23 - z32*valN []+(0:Int))∧∀(x:Int×Int×Int×Int×List Int),let z37:=x.snd.fst*valN v;let z38:=x.snd.snd.fst;let z39:=x.snd.snd.snd.fst;let z40:=x.snd.snd.snd.snd;let z41:=x.fst.toNat;let z42:=x.fst+(1:Int);let z43:=SV.si .u64 x.snd.fst;let z44:=(x.snd.fst*(nthD v z41 (0:Int) % (18446744073709551616:Int)) % (18446744073709551616:Int)+z38) % (18446744073709551616:Int);let z45:=z44 / (4294967296:Int);let z46:=SV.si .u64 z45;let z47:=((nthD z40 (j+z41) 0 % (18446744073709551616:Int) - binK.andI .u64 z44 (4294967295:Int)) % (18446744073709551616:Int) - z39) % (18446744073709551616:Int);let z48:=z47 / (9223372036854775808:Int);let z49:=SV.si .u64 z48;let z50:=SV.si .i64 z42;let z51:=z40.set (j+z41) (z47 % (4294967296:Int));let z52:=SObj.row z8 z51 110 false;let z53:=z42.toNat;let z54:=((nthD z40 z24 (0:Int) % (18446744073709551616:Int) - z38) % (18446744073709551616:Int) - z39) % (18446744073709551616:Int);let z55:=decide (z54 / (9223372036854775808:Int)=(0:Int));let z56:=z40.set z24 (z54 % (4294967296:Int));let z57:=SObj.row z8 z56 110 false;((0:Int)≤x.fst∧x.fst≤z9)∧((0:Int)≤x.snd.fst∧x.snd.fst<(4294967296:Int))∧(z19<(x.snd.fst+(1:Int))*valN v∧z37<z22)∧((0:Int)≤z38∧z38<(4294967296:Int))∧((0:Int)≤z39∧z39≤(1:Int))∧(Dig z40∧z40.length=U.length)∧(∀(m:Nat),m<j∨j+z41≤m→nthD z40 m (0:Int)=nthD U m (0:Int))∧valN (prt z40 j z41)=valN (prt U j z41) - x.snd.fst*valN (List.take z41 v)+(4294967296:Int)^z41*(z38+z39)→(decide (x.fst<z9)=true→(0:Int)≤x.fst∧x.fst<z0∧z41<v.length∧(0:Int)≤(32:Int)∧(32:Int)≤(64:Int)∧U.length=z40.length∧(0:Int)≤x.fst∧x.fst<z2∧j+z1≤U.length∧U.length=z40.length∧j+z41<z40.length∧(0:Int)≤(63:Int)∧(63:Int)≤(64:Int)∧U.length=z40.length∧(0:Int)≤x.fst∧x.fst<z2∧j+z1≤U.length∧U.length=z40.length∧j+z41<z40.length∧inR .i64 z42∧((z7.same z7∧(SV.row z8 v).same (SV.row z8 v)∧z10.same z10∧z43.same z43∧z46.same z46∧z49.same z49∧z10.same z10∧z50.same z50∧True)∧z52.same z52∧True)∧(((0:Int)≤z42∧z42≤z9)∧((0:Int)≤x.snd.fst∧x.snd.fst<(4294967296:Int))∧(z19<(x.snd.fst+(1:Int))*valN v∧z37<z22)∧((0:Int)≤z45∧z45<(4294967296:Int))∧((0:Int)≤z48∧z48≤(1:Int))∧(Dig z51∧z51.length=U.length)∧(∀(m:Nat),m<j∨j+z53≤m→nthD z51 m (0:Int)=nthD U m (0:Int))∧valN (prt z51 j z53)=valN (prt U j z53) - x.snd.fst*valN (List.take z53 v)+(4294967296:Int)^z53*(z45+z48))∧(z9 - z42).toNat<(z9 - x.fst).toNat)∧(decide (x.fst<z9)=false→U.length=z40.length∧(0:Int)≤z9∧z9<z2∧j+z1≤U.length∧U.length=z40.length∧z24<z40.length∧U.length=z40.length∧(0:Int)≤z9∧z9<z2∧j+z1≤U.length∧U.length=z40.length∧z24<z40.length∧(0:Int)≤(63:Int)∧(63:Int)≤(64:Int)∧(z55=true→(SV.si .u32 (x.snd.fst % (4294967296:Int))).same z25∧z57.same z26∧True)∧(z55=false→(((z7.same z7∧(SV.row z8 v).same (SV.row z8 v)∧z10.same z10∧z43.same z43∧(SV.il .u64 0).same (SV.si .u64 0)∧z10.same z10∧(SV.il .i64 0).same (SV.si .i64 0)∧True)∧z57.same z57∧True)∧((0:Int)≤(0:Int)∧(0:Int)≤z9)∧((0:Int)≤x.snd.fst∧x.snd.fst<(4294967296:Int))∧(z19<z37∧z37<z22)∧((0:Int)≤(0:Int)∧(0:Int)≤(1:Int))∧(Dig z56∧z56.length=U.length)∧∃W,(Dig W∧W.length=U.length)∧(∀(m:Nat),m<j∨j+z1≤m→nthD W m (0:Int)=nthD U m (0:Int))∧valN (prt W j z1)=z19 - z37+z27∧(∀(m:Nat),m<j∨j+0≤m→nthD z56 m (0:Int)=nthD W m (0:Int))∧valN (prt z56 j 0)+(0:Int)=valN (prt W j 0)+valN [])∧∀(x:Int×Int×Int×List Int),let z58:=x.snd.fst*valN v;let z59:=x.snd.snd.fst;let z60:=x.snd.snd.snd;let z61:=x.fst.toNat;let z62:=x.fst+(1:Int);let z63:=SV.si .u64 x.snd.fst;let z64:=((nthD z60 (j+z61) 0 % (18446744073709551616:Int)+nthD v z61 (0:Int) % (18446744073709551616:Int)) % (18446744073709551616:Int)+z59) % (18446744073709551616:Int);let z65:=z64 / (4294967296:Int);let z66:=SV.si .u64 z65;let z67:=SV.si .i64 z62;let z68:=z60.set (j+z61) (z64 % (4294967296:Int));let z69:=SObj.row z8 z68 110 false;let z70:=z62.toNat;(((0:Int)≤x.fst∧x.fst≤z9)∧((0:Int)≤x.snd.fst∧x.snd.fst<(4294967296:Int))∧(z19<z58∧z58<z22)∧((0:Int)≤z59∧z59≤(1:Int))∧(Dig z60∧z60.length=U.length)∧∃W,(Dig W∧W.length=U.length)∧(∀(m:Nat),m<j∨j+z1≤m→nthD W m (0:Int)=nthD U m (0:Int))∧valN (prt W j z1)=z19 - z58+z27∧(∀(m:Nat),m<j∨j+z61≤m→nthD z60 m (0:Int)=nthD W m (0:Int))∧valN (prt z60 j z61)+(4294967296:Int)^z61*z59=valN (prt W j z61)+valN (List.take z61 v))→(decide (x.fst<z9)=true→U.length=z60.length∧(0:Int)≤x.fst∧x.fst<z2∧j+z1≤U.length∧U.length=z60.length∧j+z61<z60.length∧(0:Int)≤x.fst∧x.fst<z0∧z61<v.length∧(0:Int)≤(32:Int)∧(32:Int)≤(64:Int)∧U.length=z60.length∧(0:Int)≤x.fst∧x.fst<z2∧j+z1≤U.length∧U.length=z60.length∧j+z61<z60.length∧inR .i64 z62∧((z7.same z7∧(SV.row z8 v).same (SV.row z8 v)∧z10.same z10∧z63.same z63∧z66.same z66∧z10.same z10∧z67.same z67∧True)∧z69.same z69∧True)∧(((0:Int)≤z62∧z62≤z9)∧((0:Int)≤x.snd.fst∧x.snd.fst<(4294967296:Int))∧(z19<z58∧z58<z22)∧((0:Int)≤z65∧z65≤(1:Int))∧(Dig z68∧z68.length=U.length)∧∃W,(Dig W∧W.length=U.length)∧(∀(m:Nat),m<j∨j+z1≤m→nthD W m (0:Int)=nthD U m (0:Int))∧valN (prt W j z1)=z19 - z58+z27∧(∀(m:Nat),m<j∨j+z70≤m→nthD z68 m (0:Int)=nthD W m (0:Int))∧valN (prt z68 j z70)+(4294967296:Int)^z70*z65=valN (prt W j z70)+valN (List.take z70 v))∧(z9 - z62).toNat<(z9 - x.fst).toNat)∧(decide (x.fst<z9)=false→U.length=z60.length∧(0:Int)≤z9∧z9<z2∧j+z1≤U.length∧U.length=z60.length∧z24<z60.length∧U.length=z60.length∧(0:Int)≤z9∧z9<z2∧j+z1≤U.length∧U.length=z60.length∧z24<z60.length∧(SV.si .u32 ((x.snd.fst - (1:Int)) % (18446744073709551616:Int) % (4294967296:Int))).same z25∧(SObj.row z8 (z60.set z24 ((nthD z60 z24 (0:Int)+z59 % (4294967296:Int)) % (4294967296:Int))) 110 false).same z26∧True))))∧(z31=false→((z7.same z7∧(SV.row z8 v).same (SV.row z8 v)∧z10.same z10∧z33.same z33∧z34.same z34∧True)∧z14.same z14∧True)∧(((0:Int)≤z32∧z32≤(4294967297:Int))∧((0:Int)≤z30∧z30<(4294967296:Int))∧z32*z16+z30=z17∧z19<(z32+(1:Int))*valN v)∧z32.toNat<x.fst.toNat))∧(z29=false→inR .i64 z28∧(0:Int)≤z28∧z28<z0∧z28.toNat<v.length∧(0:Int)≤(32:Int)∧(32:Int)≤(64:Int)∧inR .i64 z28∧U.length=U.length∧(0:Int)≤z28∧z28<z2∧j+z1≤U.length∧U.length=U.length∧j+z28.toNat<U.length∧(z35=true→inR .i64 z20∧(0:Int)≤z20∧z20<z0∧z20.toNat<v.length∧(z31=true→(((z7.same z7∧(SV.row z8 v).same (SV.row z8 v)∧z10.same z10∧z33.same z33∧(SV.il .u64 0).same (SV.si .u64 0)∧(SV.il .u64 0).same (SV.si .u64 0)∧z10.same z10∧(SV.il .i64 0).same (SV.si .i64 0)∧True)∧z14.same z14∧True)∧((0:Int)≤(0:Int)∧(0:Int)≤z9)∧((0:Int)≤z32∧z32<(4294967296:Int))∧(z19<(z32+(1:Int))*valN v∧z32*valN v<z22)∧((0:Int)≤(0:Int)∧(0:Int)<(4294967296:Int))∧((0:Int)≤(0:Int)∧(0:Int)≤(1:Int))∧(Dig U∧U.length=U.length)∧(∀(m:Nat),m<j∨j+0≤m→nthD U m (0:Int)=nthD U m (0:Int))∧z23=z23 - z32*valN []+(0:Int))∧∀(x:Int×Int×Int×Int×List Int),let z71:=x.snd.fst*valN v;let z72:=x.snd.snd.fst;let z73:=x.snd.snd.snd.fst;let z74:=x.snd.snd.snd.snd;let z75:=x.fst.toNat;let z76:=x.fst+(1:Int);let z77:=SV.si .u64 x.snd.fst;let z78:=(x.snd.fst*(nthD v z75 (0:Int) % (18446744073709551616:Int)) % (18446744073709551616:Int)+z72) % (18446744073709551616:Int);let z79:=z78 / (4294967296:Int);let z80:=SV.si .u64 z79;let z81:=((nthD z74 (j+z75) 0 % (18446744073709551616:Int) - binK.andI .u64 z78 (4294967295:Int)) % (18446744073709551616:Int) - z73) % (18446744073709551616:Int);let z82:=z81 / (9223372036854775808:Int);let z83:=SV.si .u64 z82;let z84:=SV.si .i64 z76;let z85:=z74.set (j+z75) (z81 % (4294967296:Int));let z86:=SObj.row z8 z85 110 false;let z87:=z76.toNat;let z88:=((nthD z74 z24 (0:Int) % (18446744073709551616:Int) - z72) % (18446744073709551616:Int) - z73) % (18446744073709551616:Int);let z89:=decide (z88 / (9223372036854775808:Int)=(0:Int));let z90:=z74.set z24 (z88 % (4294967296:Int));let z91:=SObj.row z8 z90 110 false;((0:Int)≤x.fst∧x.fst≤z9)∧((0:Int)≤x.snd.fst∧x.snd.fst<(4294967296:Int))∧(z19<(x.snd.fst+(1:Int))*valN v∧z71<z22)∧((0:Int)≤z72∧z72<(4294967296:Int))∧((0:Int)≤z73∧z73≤(1:Int))∧(Dig z74∧z74.length=U.length)∧(∀(m:Nat),m<j∨j+z75≤m→nthD z74 m (0:Int)=nthD U m (0:Int))∧valN (prt z74 j z75)=valN (prt U j z75) - x.snd.fst*valN (List.take z75 v)+(4294967296:Int)^z75*(z72+z73)→(decide (x.fst<z9)=true→(0:Int)≤x.fst∧x.fst<z0∧z75<v.length∧(0:Int)≤(32:Int)∧(32:Int)≤(64:Int)∧U.length=z74.length∧(0:Int)≤x.fst∧x.fst<z2∧j+z1≤U.length∧U.length=z74.length∧j+z75<z74.length∧(0:Int)≤(63:Int)∧(63:Int)≤(64:Int)∧U.length=z74.length∧(0:Int)≤x.fst∧x.fst<z2∧j+z1≤U.length∧U.length=z74.length∧j+z75<z74.length∧inR .i64 z76∧((z7.same z7∧(SV.row z8 v).same (SV.row z8 v)∧z10.same z10∧z77.same z77∧z80.same z80∧z83.same z83∧z10.same z10∧z84.same z84∧True)∧z86.same z86∧True)∧(((0:Int)≤z76∧z76≤z9)∧((0:Int)≤x.snd.fst∧x.snd.fst<(4294967296:Int))∧(z19<(x.snd.fst+(1:Int))*valN v∧z71<z22)∧((0:Int)≤z79∧z79<(4294967296:Int))∧((0:Int)≤z82∧z82≤(1:Int))∧(Dig z85∧z85.length=U.length)∧(∀(m:Nat),m<j∨j+z87≤m→nthD z85 m (0:Int)=nthD U m (0:Int))∧valN (prt z85 j z87)=valN (prt U j z87) - x.snd.fst*valN (List.take z87 v)+(4294967296:Int)^z87*(z79+z82))∧(z9 - z76).toNat<(z9 - x.fst).toNat)∧(decide (x.fst<z9)=false→U.length=z74.length∧(0:Int)≤z9∧z9<z2∧j+z1≤U.length∧U.length=z74.length∧z24<z74.length∧U.length=z74.length∧(0:Int)≤z9∧z9<z2∧j+z1≤U.length∧U.length=z74.length∧z24<z74.length∧(0:Int)≤(63:Int)∧(63:Int)≤(64:Int)∧(z89=true→(SV.si .u32 (x.snd.fst % (4294967296:Int))).same z25∧z91.same z26∧True)∧(z89=false→(((z7.same z7∧(SV.row z8 v).same (SV.row z8 v)∧z10.same z10∧z77.same z77∧(SV.il .u64 0).same (SV.si .u64 0)∧z10.same z10∧(SV.il .i64 0).same (SV.si .i64 0)∧True)∧z91.same z91∧True)∧((0:Int)≤(0:Int)∧(0:Int)≤z9)∧((0:Int)≤x.snd.fst∧x.snd.fst<(4294967296:Int))∧(z19<z71∧z71<z22)∧((0:Int)≤(0:Int)∧(0:Int)≤(1:Int))∧(Dig z90∧z90.length=U.length)∧∃W,(Dig W∧W.length=U.length)∧(∀(m:Nat),m<j∨j+z1≤m→nthD W m (0:Int)=nthD U m (0:Int))∧valN (prt W j z1)=z19 - z71+z27∧(∀(m:Nat),m<j∨j+0≤m→nthD z90 m (0:Int)=nthD W m (0:Int))∧valN (prt z90 j 0)+(0:Int)=valN (prt W j 0)+valN [])∧∀(x:Int×Int×Int×List Int),let z92:=x.snd.fst*valN v;let z93:=x.snd.snd.fst;let z94:=x.snd.snd.snd;let z95:=x.fst.toNat;let z96:=x.fst+(1:Int);let z97:=SV.si .u64 x.snd.fst;let z98:=((nthD z94 (j+z95) 0 % (18446744073709551616:Int)+nthD v z95 (0:Int) % (18446744073709551616:Int)) % (18446744073709551616:Int)+z93) % (18446744073709551616:Int);let z99:=z98 / (4294967296:Int);let z100:=SV.si .u64 z99;let z101:=SV.si .i64 z96;let z102:=z94.set (j+z95) (z98 % (4294967296:Int));let z103:=SObj.row z8 z102 110 false;let z104:=z96.toNat;(((0:Int)≤x.fst∧x.fst≤z9)∧((0:Int)≤x.snd.fst∧x.snd.fst<(4294967296:Int))∧(z19<z92∧z92<z22)∧((0:Int)≤z93∧z93≤(1:Int))∧(Dig z94∧z94.length=U.length)∧∃W,(Dig W∧W.length=U.length)∧(∀(m:Nat),m<j∨j+z1≤m→nthD W m (0:Int)=nthD U m (0:Int))∧valN (prt W j z1)=z19 - z92+z27∧(∀(m:Nat),m<j∨j+z95≤m→nthD z94 m (0:Int)=nthD W m (0:Int))∧valN (prt z94 j z95)+(4294967296:Int)^z95*z93=valN (prt W j z95)+valN (List.take z95 v))→(decide (x.fst<z9)=true→U.length=z94.length∧(0:Int)≤x.fst∧x.fst<z2∧j+z1≤U.length∧U.length=z94.length∧j+z95<z94.length∧(0:Int)≤x.fst∧x.fst<z0∧z95<v.length∧(0:Int)≤(32:Int)∧(32:Int)≤(64:Int)∧U.length=z94.length∧(0:Int)≤x.fst∧x.fst<z2∧j+z1≤U.length∧U.length=z94.length∧j+z95<z94.length∧inR .i64 z96∧((z7.same z7∧(SV.row z8 v).same (SV.row z8 v)∧z10.same z10∧z97.same z97∧z100.same z100∧z10.same z10∧z101.same z101∧True)∧z103.same z103∧True)∧(((0:Int)≤z96∧z96≤z9)∧((0:Int)≤x.snd.fst∧x.snd.fst<(4294967296:Int))∧(z19<z92∧z92<z22)∧((0:Int)≤z99∧z99≤(1:Int))∧(Dig z102∧z102.length=U.length)∧∃W,(Dig W∧W.length=U.length)∧(∀(m:Nat),m<j∨j+z1≤m→nthD W m (0:Int)=nthD U m (0:Int))∧valN (prt W j z1)=z19 - z92+z27∧(∀(m:Nat),m<j∨j+z104≤m→nthD z102 m (0:Int)=nthD W m (0:Int))∧valN (prt z102 j z104)+(4294967296:Int)^z104*z99=valN (prt W j z104)+valN (List.take z104 v))∧(z9 - z96).toNat<(z9 - x.fst).toNat)∧(decide (x.fst<z9)=false→U.length=z94.length∧(0:Int)≤z9∧z9<z2∧j+z1≤U.length∧U.length=z94.length∧z24<z94.length∧U.length=z94.length∧(0:Int)≤z9∧z9<z2∧j+z1≤U.length∧U.length=z94.length∧z24<z94.length∧(SV.si .u32 ((x.snd.fst - (1:Int)) % (18446744073709551616:Int) % (4294967296:Int))).same z25∧(SObj.row z8 (z94.set z24 ((nthD z94 z24 (0:Int)+z93 % (4294967296:Int)) % (4294967296:Int))) 110 false).same z26∧True))))∧(z31=false→((z7.same z7∧(SV.row z8 v).same (SV.row z8 v)∧z10.same z10∧z33.same z33∧z34.same z34∧True)∧z14.same z14∧True)∧(((0:Int)≤z32∧z32≤(4294967297:Int))∧((0:Int)≤z30∧z30<(4294967296:Int))∧z32*z16+z30=z17∧z19<(z32+(1:Int))*valN v)∧z32.toNat<x.fst.toNat))∧(z35=false→(((z7.same z7∧(SV.row z8 v).same (SV.row z8 v)∧z10.same z10∧z36.same z36∧(SV.il .u64 0).same (SV.si .u64 0)∧(SV.il .u64 0).same (SV.si .u64 0)∧z10.same z10∧(SV.il .i64 0).same (SV.si .i64 0)∧True)∧z14.same z14∧True)∧((0:Int)≤(0:Int)∧(0:Int)≤z9)∧((0:Int)≤x.fst∧x.fst<(4294967296:Int))∧(z19<(x.fst+(1:Int))*valN v∧x.fst*valN v<z22)∧((0:Int)≤(0:Int)∧(0:Int)<(4294967296:Int))∧((0:Int)≤(0:Int)∧(0:Int)≤(1:Int))∧(Dig U∧U.length=U.length)∧(∀(m:Nat),m<j∨j+0≤m→nthD U m (0:Int)=nthD U m (0:Int))∧z23=z23 - x.fst*valN []+(0:Int))∧∀(x:Int×Int×Int×Int×List Int),let z105:=x.snd.fst*valN v;let z106:=x.snd.snd.fst;let z107:=x.snd.snd.snd.fst;let z108:=x.snd.snd.snd.snd;let z109:=x.fst.toNat;let z110:=x.fst+(1:Int);let z111:=SV.si .u64 x.snd.fst;let z112:=(x.snd.fst*(nthD v z109 (0:Int) % (18446744073709551616:Int)) % (18446744073709551616:Int)+z106) % (18446744073709551616:Int);let z113:=z112 / (4294967296:Int);let z114:=SV.si .u64 z113;let z115:=((nthD z108 (j+z109) 0 % (18446744073709551616:Int) - binK.andI .u64 z112 (4294967295:Int)) % (18446744073709551616:Int) - z107) % (18446744073709551616:Int);let z116:=z115 / (9223372036854775808:Int);let z117:=SV.si .u64 z116;let z118:=SV.si .i64 z110;let z119:=z108.set (j+z109) (z115 % (4294967296:Int));let z120:=SObj.row z8 z119 110 false;let z121:=z110.toNat;let z122:=((nthD z108 z24 (0:Int) % (18446744073709551616:Int) - z106) % (18446744073709551616:Int) - z107) % (18446744073709551616:Int);let z123:=decide (z122 / (9223372036854775808:Int)=(0:Int));let z124:=z108.set z24 (z122 % (4294967296:Int));let z125:=SObj.row z8 z124 110 false;((0:Int)≤x.fst∧x.fst≤z9)∧((0:Int)≤x.snd.fst∧x.snd.fst<(4294967296:Int))∧(z19<(x.snd.fst+(1:Int))*valN v∧z105<z22)∧((0:Int)≤z106∧z106<(4294967296:Int))∧((0:Int)≤z107∧z107≤(1:Int))∧(Dig z108∧z108.length=U.length)∧(∀(m:Nat),m<j∨j+z109≤m→nthD z108 m (0:Int)=nthD U m (0:Int))∧valN (prt z108 j z109)=valN (prt U j z109) - x.snd.fst*valN (List.take z109 v)+(4294967296:Int)^z109*(z106+z107)→(decide (x.fst<z9)=true→(0:Int)≤x.fst∧x.fst<z0∧z109<v.length∧(0:Int)≤(32:Int)∧(32:Int)≤(64:Int)∧U.length=z108.length∧(0:Int)≤x.fst∧x.fst<z2∧j+z1≤U.length∧U.length=z108.length∧j+z109<z108.length∧(0:Int)≤(63:Int)∧(63:Int)≤(64:Int)∧U.length=z108.length∧(0:Int)≤x.fst∧x.fst<z2∧j+z1≤U.length∧U.length=z108.length∧j+z109<z108.length∧inR .i64 z110∧((z7.same z7∧(SV.row z8 v).same (SV.row z8 v)∧z10.same z10∧z111.same z111∧z114.same z114∧z117.same z117∧z10.same z10∧z118.same z118∧True)∧z120.same z120∧True)∧(((0:Int)≤z110∧z110≤z9)∧((0:Int)≤x.snd.fst∧x.snd.fst<(4294967296:Int))∧(z19<(x.snd.fst+(1:Int))*valN v∧z105<z22)∧((0:Int)≤z113∧z113<(4294967296:Int))∧((0:Int)≤z116∧z116≤(1:Int))∧(Dig z119∧z119.length=U.length)∧(∀(m:Nat),m<j∨j+z121≤m→nthD z119 m (0:Int)=nthD U m (0:Int))∧valN (prt z119 j z121)=valN (prt U j z121) - x.snd.fst*valN (List.take z121 v)+(4294967296:Int)^z121*(z113+z116))∧(z9 - z110).toNat<(z9 - x.fst).toNat)∧(decide (x.fst<z9)=false→U.length=z108.length∧(0:Int)≤z9∧z9<z2∧j+z1≤U.length∧U.length=z108.length∧z24<z108.length∧U.length=z108.length∧(0:Int)≤z9∧z9<z2∧j+z1≤U.length∧U.length=z108.length∧z24<z108.length∧(0:Int)≤(63:Int)∧(63:Int)≤(64:Int)∧(z123=true→(SV.si .u32 (x.snd.fst % (4294967296:Int))).same z25∧z125.same z26∧True)∧(z123=false→(((z7.same z7∧(SV.row z8 v).same (SV.row z8 v)∧z10.same z10∧z111.same z111∧(SV.il .u64 0).same (SV.si .u64 0)∧z10.same z10∧(SV.il .i64 0).same (SV.si .i64 0)∧True)∧z125.same z125∧True)∧((0:Int)≤(0:Int)∧(0:Int)≤z9)∧((0:Int)≤x.snd.fst∧x.snd.fst<(4294967296:Int))∧(z19<z105∧z105<z22)∧((0:Int)≤(0:Int)∧(0:Int)≤(1:Int))∧(Dig z124∧z124.length=U.length)∧∃W,(Dig W∧W.length=U.length)∧(∀(m:Nat),m<j∨j+z1≤m→nthD W m (0:Int)=nthD U m (0:Int))∧valN (prt W j z1)=z19 - z105+z27∧(∀(m:Nat),m<j∨j+0≤m→nthD z124 m (0:Int)=nthD W m (0:Int))∧valN (prt z124 j 0)+(0:Int)=valN (prt W j 0)+valN [])∧∀(x:Int×Int×Int×List Int),let z126:=x.snd.fst*valN v;let z127:=x.snd.snd.fst;let z128:=x.snd.snd.snd;let z129:=x.fst.toNat;let z130:=x.fst+(1:Int);let z131:=SV.si .u64 x.snd.fst;let z132:=((nthD z128 (j+z129) 0 % (18446744073709551616:Int)+nthD v z129 (0:Int) % (18446744073709551616:Int)) % (18446744073709551616:Int)+z127) % (18446744073709551616:Int);let z133:=z132 / (4294967296:Int);let z134:=SV.si .u64 z133;let z135:=SV.si .i64 z130;let z136:=z128.set (j+z129) (z132 % (4294967296:Int));let z137:=SObj.row z8 z136 110 false;let z138:=z130.toNat;(((0:Int)≤x.fst∧x.fst≤z9)∧((0:Int)≤x.snd.fst∧x.snd.fst<(4294967296:Int))∧(z19<z126∧z126<z22)∧((0:Int)≤z127∧z127≤(1:Int))∧(Dig z128∧z128.length=U.length)∧∃W,(Dig W∧W.length=U.length)∧(∀(m:Nat),m<j∨j+z1≤m→nthD W m (0:Int)=nthD U m (0:Int))∧valN (prt W j z1)=z19 - z126+z27∧(∀(m:Nat),m<j∨j+z129≤m→nthD z128 m (0:Int)=nthD W m (0:Int))∧valN (prt z128 j z129)+(4294967296:Int)^z129*z127=valN (prt W j z129)+valN (List.take z129 v))→(decide (x.fst<z9)=true→U.length=z128.length∧(0:Int)≤x.fst∧x.fst<z2∧j+z1≤U.length∧U.length=z128.length∧j+z129<z128.length∧(0:Int)≤x.fst∧x.fst<z0∧z129<v.length∧(0:Int)≤(32:Int)∧(32:Int)≤(64:Int)∧U.length=z128.length∧(0:Int)≤x.fst∧x.fst<z2∧j+z1≤U.length∧U.length=z128.length∧j+z129<z128.length∧inR .i64 z130∧((z7.same z7∧(SV.row z8 v).same (SV.row z8 v)∧z10.same z10∧z131.same z131∧z134.same z134∧z10.same z10∧z135.same z135∧True)∧z137.same z137∧True)∧(((0:Int)≤z130∧z130≤z9)∧((0:Int)≤x.snd.fst∧x.snd.fst<(4294967296:Int))∧(z19<z126∧z126<z22)∧((0:Int)≤z133∧z133≤(1:Int))∧(Dig z136∧z136.length=U.length)∧∃W,(Dig W∧W.length=U.length)∧(∀(m:Nat),m<j∨j+z1≤m→nthD W m (0:Int)=nthD U m (0:Int))∧valN (prt W j z1)=z19 - z126+z27∧(∀(m:Nat),m<j∨j+z138≤m→nthD z136 m (0:Int)=nthD W m (0:Int))∧valN (prt z136 j z138)+(4294967296:Int)^z138*z133=valN (prt W j z138)+valN (List.take z138 v))∧(z9 - z130).toNat<(z9 - x.fst).toNat)∧(decide (x.fst<z9)=false→U.length=z128.length∧(0:Int)≤z9∧z9<z2∧j+z1≤U.length∧U.length=z128.length∧z24<z128.length∧U.length=z128.length∧(0:Int)≤z9∧z9<z2∧j+z1≤U.length∧U.length=z128.length∧z24<z128.length∧(SV.si .u32 ((x.snd.fst - (1:Int)) % (18446744073709551616:Int) % (4294967296:Int))).same z25∧(SObj.row z8 (z128.set z24 ((nthD z128 z24 (0:Int)+z127 % (4294967296:Int)) % (4294967296:Int))) 110 false).same z26∧True)))))) (by kernel_rfl) ?_
 simp only[vcs]
 have t1:((v.length:Int) - 1).toNat=v.length - 1:=by omega
 have t2:((v.length:Int) - 2).toNat=v.length - 2:=by omega
 have t3:((v.length:Int)).toNat=v.length:=by omega
 have hVe:=top_two hn rfl
 have hXe:=@top_three U j v.length hn
 have dv1:=dig_nth hv (v.length - 1)
 have dv2:=dig_nth hv (v.length - 2)
 have du0:=dig_nth hU (j+v.length)
 have du1:=dig_nth hU (j+(v.length - 1))
 have du2:=dig_nth hU (j+(v.length - 2))
 have m1:nthD v (v.length - 1) 0 % 18446744073709551616=nthD v (v.length - 1) 0:=by omega
 have m2:nthD v (v.length - 2) 0 % 18446744073709551616=nthD v (v.length - 2) 0:=by omega
 have m3:nthD U (j+v.length) 0 % 18446744073709551616=nthD U (j+v.length) 0:=by omega
 have m4:nthD U (j+(v.length - 1)) 0 % 18446744073709551616=nthD U (j+(v.length - 1)) 0:=by omega
 have m5:nthD U (j+(v.length - 2)) 0 % 18446744073709551616=nthD U (j+(v.length - 2)) 0:=by omega
 have m6:nthD U (j+v.length) 0*4294967296 % 18446744073709551616=nthD U (j+v.length) 0*4294967296:=by omega
 have hor:=or_add du0.1 du0.2 du1.1 du1.2
 have htop:0≤nthD U (j+v.length) 0*4294967296+nthD U (j+(v.length - 1)) 0:=by omega
 have hx':valN (prt U j (v.length+1))<4294967296*valN v:=hx
 have hP:=pow_pos (v.length - 2)
 have hrv:=val_nonneg (dig_take hv (v.length - 2))
 have hrv2:=val_bdN (dig_take hv (v.length - 2))
 rw[List.length_take,Nat.min_eq_left (by omega)] at hrv2
 have hru:=val_nonneg (prt_dig hU (j:=j) (k:=v.length - 2))
 have hru2:=prt_bd hU (j:=j) (k:=v.length - 2)
 have hV0:=val_nonneg hv
 have hX0:=val_nonneg (prt_dig hU (j:=j) (k:=v.length+1))
 have htp:=kn_top hP hVe hXe hrv2 hru du2.1 du1.1 dv2.2 hx'
 have hax:(DgA.mk U j (v.length+1) U.length v).x=valN (prt U j (v.length+1)):=rfl
 simp only[hax,t1,t2,t3,m1,m2,m3,m4,m5,m6,hor,Int.tdiv_eq_ediv_of_nonneg htop,Int.tmod_eq_emod_of_nonneg htop]
 generalize hv1e:nthD v (v.length - 1) 0=v1 at*
 generalize hv2e:nthD v (v.length - 2) 0=v2 at*
 generalize hu0e:nthD U (j+v.length) 0=u0 at*
 generalize hu1e:nthD U (j+(v.length - 1)) 0=u1 at*
 generalize hu2e:nthD U (j+(v.length - 2)) 0=u2 at*
 have hqr:=Int.mul_ediv_add_emod (u0*4294967296+u1) v1
 have hr0:=Int.emod_nonneg (u0*4294967296+u1) (show v1≠0 by omega)
 have hr1:=Int.emod_lt_of_pos (u0*4294967296+u1) (show 0<v1 by omega)
 have hg0:0≤(u0*4294967296+u1) / v1:=Int.ediv_nonneg htop (by omega)
 generalize hge:(u0*4294967296+u1) / v1=g0 at*
 generalize hre:(u0*4294967296+u1) % v1=r0 at*
 have hg1:g0≤4294967297:=by
  by_cases h:g0≤4294967297
  ·exact h
  ·exfalso
   have:=Int.mul_le_mul_of_nonneg_left (show(4294967298:Int)≤g0 by omega) (show 0≤v1 by omega)
   omega
 have hqr2:g0*v1+r0=u1+4294967296*u0:=by rw[Int.mul_comm g0];omega
 have hst:=kn_start hP hVe hXe hrv hru2 dv2.1 du2.2 hg0 hqr2 hr1
 have hin:inR .u64 g0:=u64_in hg0 (by omega)
 repeat refine And.intro (by omega) ?_
 clear t1 t2 t3 m1 m2 m3 m4 m5 m6 hor htop hge hre hqr hr0 hr1 hg0 hg1 hqr2 hst hin hv1e hv2e hu1e hu2e hx
 rintro⟨g,r⟩ ⟨⟨g0',g1'⟩,⟨r0',r1'⟩,hgr,hgx⟩
 simp only at g0' g1' r0' r1' hgr hgx ⊢
 have hgpos:0<g+1:=by omega
 have e1:(r+v1) % 18446744073709551616=r+v1:=by omega
 have e2:r*4294967296 % 18446744073709551616=r*4294967296:=by omega
 have gv0:0≤g*v2:=Int.mul_nonneg g0' dv2.1
 have gv1:g*v2≤4294967297*4294967295:=Int.mul_le_mul (by omega) (by omega) dv2.1 (by omega)
 have e3:g*v2 % 18446744073709551616=g*v2:=by omega
 have hor2:=or_add r0' r1' du2.1 du2.2
 have hgr2:g*v1+r=u1+4294967296*u0:=hgr
 have hbrk:4294967296≤r+v1→g≤4294967296:=fun h=>by
  by_cases hg:g≤4294967296
  ·exact hg
  ·have:g=4294967297:=by omega
   subst this
   omega
 have dec:(4294967296≤g∨r*4294967296+u2<g*v2)→(valN (prt U j (v.length+1))<g*valN v∧(g - 1) % 18446744073709551616=g - 1∧0≤g - 1∧(g - 1)*v1+(r+v1)=u1+4294967296*u0):=fun h=>by
  have h1:=kn_gt hP hVe hXe hrv hru2 hx' hV0 g0' hgr2 h
  have h2:g≠0:=by
   rintro rfl
   omega
  refine⟨h1,by omega,by omega,?_⟩
  rw[Int.sub_mul,Int.one_mul]
  omega
 simp only[e1,e2,e3,hor2]
 have brk:(4294967296≤g∨r*4294967296+u2<g*v2)→4294967296≤r+v1→∃gg,gg=(g - 1) % 18446744073709551616∧(0≤gg∧gg<4294967296)∧valN (prt U j (v.length+1))<(gg+1)*valN v∧gg*valN v<valN (prt U j (v.length+1))+valN v:=fun h hb=>by
  obtain⟨k1,k2,k3,k4⟩:=dec h
  have k5:=hbrk hb
  rw[k2]
  refine⟨_,rfl,by omega,by rw[show g - 1+1=g by omega];exact k1,kn_le hP hVe hXe hrv hrv2 hru hv1 dv2.1 k3 (by omega) k4 ?_⟩
  have:=Int.mul_le_mul (show g - 1≤4294967295 by omega) (show v2≤4294967295 by omega) dv2.1 (by omega)
  omega
 have nbr:(4294967296≤g∨r*4294967296+u2<g*v2)→¬4294967296≤r+v1→(0≤(g - 1) % 18446744073709551616∧(g - 1) % 18446744073709551616≤4294967297)∧(g - 1) % 18446744073709551616*v1+(r+v1)=u1+4294967296*u0∧valN (prt U j (v.length+1))<((g - 1) % 18446744073709551616+1)*valN v∧((g - 1) % 18446744073709551616).toNat<g.toNat:=fun h hb=>by
  obtain⟨k1,k2,k3,k4⟩:=dec h
  rw[k2]
  exact⟨by omega,k4,by rw[show g - 1+1=g by omega];exact k1,by omega⟩
 have ext:¬4294967296≤g→¬r*4294967296+u2<g*v2→∃gg,gg=g∧(0≤gg∧gg<4294967296)∧valN (prt U j (v.length+1))<(gg+1)*valN v∧gg*valN v<valN (prt U j (v.length+1))+valN v:=fun h h2=>
  ⟨_,rfl,by omega,hgx,kn_le hP hVe hXe hrv hrv2 hru hv1 dv2.1 g0' (by omega) hgr2 (by omega)⟩
 clear hgr2 hgpos e1 e2 e3 gv0 gv1 hor2 hVe hXe hrv hrv2 hru hru2 hbrk dec htp
 refine⟨fun hB=>?_,fun hB=>?_⟩
 ·refine⟨by omega,by omega,by omega,by omega,?_⟩
  refine⟨fun hb=>?_,fun hb=>?_⟩
  ·obtain⟨gg,hgg,f0,f2,f3⟩:=brk (.inl hB) hb
   rw[←hgg]
   clear hB hb
   clear hgg brk nbr ext hgx hgr
   refine⟨?_,?_⟩
   ·repeat' refine And.intro ?_ ?_
    all_goals first|omega|exact hU|exact f2|exact f3|exact fun _ _=>trivial|(simp only[valN];omega)
   clear f0 f2 f3
   rintro⟨i,ga,c,b,R⟩ ⟨⟨i0,i1⟩,⟨ga0,ga1⟩,⟨f2,f3⟩,⟨c0,c1⟩,⟨b0,b1⟩,⟨hR,hRl⟩,ho,he⟩
   simp only at i0 i1 ga0 ga1 f2 f3 c0 c1 b0 b1 hR hRl ho he ⊢
   refine⟨fun ilt=>?_,fun ige=>?_⟩
   ·have x:=dig_nth hv i.toNat
    have y:=dig_nth hR (j+i.toNat)
    have gx0:0≤ga*nthD v i.toNat 0:=Int.mul_nonneg ga0 x.1
    have gx1:ga*nthD v i.toNat 0≤4294967295*4294967295:=Int.mul_le_mul (by omega) (by omega) x.1 (by omega)
    have q1:nthD v i.toNat 0 % 18446744073709551616=nthD v i.toNat 0:=by omega
    have q2:nthD R (j+i.toNat) 0 % 18446744073709551616=nthD R (j+i.toNat) 0:=by omega
    have q3:(ga*nthD v i.toNat 0 % 18446744073709551616+c) % 18446744073709551616=ga*nthD v i.toNat 0+c:=by omega
    have hi1:(i+1).toNat=i.toNat+1:=by omega
    rw[q1,q2,q3,and_mask (by omega) (by omega),hi1]
    generalize hq:((nthD R (j+i.toNat) 0 - (ga*nthD v i.toNat 0+c) % 4294967296) % 18446744073709551616 - b) % 18446744073709551616=q
    obtain⟨k1,k2,k3,k4,k5⟩:=ms_step (d:=q % 4294967296) (e:=q / 9223372036854775808) hR hRl hv ga0 ga1 c0 c1 b0 b1 (show j+i.toNat<U.length by omega) ho he (by omega) (by omega)
    repeat' refine And.intro ?_ ?_
    all_goals first|omega|exact k1|exact k2|exact k3|exact k4|exact k5|exact f2|exact f3
   ·have hi:i.toNat=v.length:=by omega
    rw[hi,List.take_length] at he
    rw[hi] at ho
    have hun:=ho (j+v.length) (.inr (Nat.le_refl _))
    have du:=dig_nth hU (j+v.length)
    have q2:nthD R (j+v.length) 0 % 18446744073709551616=nthD R (j+v.length) 0:=by rw[hun];omega
    have hXs:=@prt_succ U j v.length
    rw[q2]
    generalize hq:((nthD R (j+v.length) 0 - c) % 18446744073709551616 - b) % 18446744073709551616=q
    have hRset:Dig (R.set (j+v.length) (q % 4294967296)):=dig_set hR (by omega) (by omega)
    have hlen:(R.set (j+v.length) (q % 4294967296)).length=U.length:=by simp[hRl]
    have hout:∀m,(m<j∨j+(v.length+1)≤m)→nthD (R.set (j+v.length) (q % 4294967296)) m 0=nthD U m 0:=fun m hm=>by rw[nth_set_ne (by omega)];exact ho m (by omega)
    have hval:valN (prt (R.set (j+v.length) (q % 4294967296)) j (v.length+1))=valN (prt U j (v.length+1)) - ga*valN v+4294967296^(v.length+1)*(q / 9223372036854775808):=by
     rw[prt_succ,prt_set (Nat.le_refl _),nth_set_self (by omega),he,hXs,Int.pow_succ]
     have hd:q % 4294967296 - 4294967296*(q / 9223372036854775808)=nthD U (j+v.length) 0 - c - b:=by rw[hun] at hq;omega
     generalize (4294967296:Int)^v.length=B
     have e:B*4294967296*(q / 9223372036854775808)=B*(q % 4294967296+c+b - nthD U (j+v.length) 0):=by rw[Int.mul_assoc];congr 1;omega
     rw[e]
     simp only[Int.mul_add,Int.mul_sub]
     omega
    generalize hW:R.set (j+v.length) (q % 4294967296)=W at*
    have hbd:=prt_bd hRset (j:=j) (k:=v.length+1)
    have hnn:=val_nonneg (prt_dig hRset (j:=j) (k:=v.length+1))
    have q3:0≤q∧q<18446744073709551616:=by omega
    clear hq hun du q2 he ho hR
    repeat refine And.intro (by omega) ?_
    refine⟨fun hz=>?_,fun hz=>?_⟩
    ·rw[hz,Int.mul_zero,Int.add_zero] at hval
     obtain⟨w1,w2⟩:=qr_of (q:=ga) (show ga*valN v≤valN (prt U j (v.length+1)) by omega) f2
     refine⟨by rw[w1];omega,?_⟩
     have hfin:W=wth U j (digK (v.length+1) (valN (prt U j (v.length+1)) % valN v)):=wth_of hRset hlen (by omega) hout (by rw[hval,w2])
     rw[hfin]
     rfl
    ·have hq1:q / 9223372036854775808=1:=by omega
     rw[hq1,Int.mul_one] at hval
     have f4:valN (prt U j (v.length+1))<ga*valN v:=by omega
     refine⟨?_,?_⟩
     ·repeat' refine And.intro ?_ ?_
      all_goals first|omega|exact hRset|exact hlen|exact⟨W,⟨hRset,hlen⟩,hout,hval,fun _ _=>rfl,by simp only[valN]⟩
     clear hRset hlen hout hval hW hbd hnn q3 hz hq1 f4 f2 f3 c0 c1 b0 b1 i0 i1 ga0 ga1
     rintro⟨i2,gb,c2,R2⟩ ⟨⟨i0,i1⟩,⟨gb0,gb1⟩,⟨f5,f6⟩,⟨c0,c1⟩,⟨hR2,hR2l⟩,W2,⟨hW2,hW2l⟩,ho2,hvW,ho3,he3⟩
     simp only at i0 i1 gb0 gb1 f5 f6 c0 c1 hR2 hR2l ho3 he3 ⊢
     refine⟨fun ilt=>?_,fun ige=>?_⟩
     ·have x:=dig_nth hv i2.toNat
      have y:=dig_nth hR2 (j+i2.toNat)
      have hi1:(i2+1).toNat=i2.toNat+1:=by omega
      rw[hi1]
      have hs:((nthD R2 (j+i2.toNat) 0 % 18446744073709551616+nthD v i2.toNat 0 % 18446744073709551616) % 18446744073709551616+c2) % 18446744073709551616=nthD R2 (j+i2.toNat) 0+nthD v i2.toNat 0+c2:=by omega
      rw[hs]
      obtain⟨k1,k2,k3,k4,k5⟩:=ab_step hR2 (hR2l.trans hW2l.symm) hv c0 c1 (show j+i2.toNat<W2.length by omega) hW2 ho3 he3 rfl
      repeat' refine And.intro ?_ ?_
      all_goals first|omega|exact k1|exact f5|exact f6|exact⟨W2,⟨hW2,hW2l⟩,ho2,hvW,k4,k5⟩
     ·have hi2:i2.toNat=v.length:=by omega
      rw[hi2,List.take_length] at he3
      rw[hi2] at ho3
      have hun:=ho3 (j+v.length) (.inr (Nat.le_refl _))
      have du:=dig_nth hW2 (j+v.length)
      have hXs:=@prt_succ W2 j v.length
      have hc2:c2 % 4294967296=c2:=by omega
      rw[hc2,hun]
      have hF:Dig (R2.set (j+v.length) ((nthD W2 (j+v.length) 0+c2) % 4294967296)):=dig_set hR2 (by omega) (by omega)
      have hFl:(R2.set (j+v.length) ((nthD W2 (j+v.length) 0+c2) % 4294967296)).length=U.length:=by simp[hR2l]
      have hFo:∀m,(m<j∨j+(v.length+1)≤m)→nthD (R2.set (j+v.length) ((nthD W2 (j+v.length) 0+c2) % 4294967296)) m 0=nthD U m 0:=fun m hm=>by rw[nth_set_ne (by omega),ho3 m (by omega)];exact ho2 m hm
      have hFv:valN (prt (R2.set (j+v.length) ((nthD W2 (j+v.length) 0+c2) % 4294967296)) j (v.length+1))=valN (prt U j (v.length+1)) - gb*valN v+4294967296^(v.length+1)+valN v - 4294967296^(v.length+1)*((nthD W2 (j+v.length) 0+c2) / 4294967296):=by
       rw[prt_succ,prt_set (Nat.le_refl _),nth_set_self (by omega),←hvW,hXs,Int.pow_succ]
       generalize (4294967296:Int)^v.length=B at*
       have e:B*4294967296*((nthD W2 (j+v.length) 0+c2) / 4294967296)=B*(nthD W2 (j+v.length) 0+c2 - (nthD W2 (j+v.length) 0+c2) % 4294967296):=by rw[Int.mul_assoc];congr 1;omega
       rw[e]
       simp only[Int.mul_add,Int.mul_sub]
       omega
      have hbd:=prt_bd hF (j:=j) (k:=v.length+1)
      have hk:(nthD W2 (j+v.length) 0+c2) / 4294967296=1:=by
       by_cases h:(nthD W2 (j+v.length) 0+c2) / 4294967296=1
       ·exact h
       ·have h0:(nthD W2 (j+v.length) 0+c2) / 4294967296=0:=by omega
        rw[h0,Int.mul_zero] at hFv
        omega
      rw[hk,Int.mul_one] at hFv
      have e1:(gb - 1)*valN v=gb*valN v - valN v:=by rw[Int.sub_mul,Int.one_mul]
      obtain⟨w1,w2⟩:=qr_of (q:=gb - 1) (show(gb - 1)*valN v≤valN (prt U j (v.length+1)) by omega) (by rw[show gb - 1+1=gb by omega];exact f5)
      have hgpos:0<gb:=by
       by_cases h:0<gb
       ·exact h
       ·have:gb=0:=by omega
        subst this
        omega
      have hfin:R2.set (j+v.length) ((nthD W2 (j+v.length) 0+c2) % 4294967296)=wth U j (digK (v.length+1) (valN (prt U j (v.length+1)) % valN v)):=wth_of hF hFl (by omega) hFo (by rw[hFv,w2,e1];omega)
      repeat refine And.intro (by omega) ?_
      rw[hfin]
      rfl
  ·obtain⟨k1,k2,k3,k4⟩:=nbr (.inl hB) hb
   repeat' refine And.intro ?_ ?_
   all_goals first|omega|exact k2|exact k3
 ·repeat refine And.intro (by omega) ?_
  refine⟨fun hc=>?_,fun hc=>?_⟩
  ·repeat refine And.intro (by omega) ?_
   refine⟨fun hb=>?_,fun hb=>?_⟩
   ·obtain⟨gg,hgg,f0,f2,f3⟩:=brk (.inr hc) hb
    rw[←hgg]
    clear hB hb hc
    clear hgg brk nbr ext hgx hgr
    refine⟨?_,?_⟩
    ·repeat' refine And.intro ?_ ?_
     all_goals first|omega|exact hU|exact f2|exact f3|exact fun _ _=>trivial|(simp only[valN];omega)
    clear f0 f2 f3
    rintro⟨i,ga,c,b,R⟩ ⟨⟨i0,i1⟩,⟨ga0,ga1⟩,⟨f2,f3⟩,⟨c0,c1⟩,⟨b0,b1⟩,⟨hR,hRl⟩,ho,he⟩
    simp only at i0 i1 ga0 ga1 f2 f3 c0 c1 b0 b1 hR hRl ho he ⊢
    refine⟨fun ilt=>?_,fun ige=>?_⟩
    ·have x:=dig_nth hv i.toNat
     have y:=dig_nth hR (j+i.toNat)
     have gx0:0≤ga*nthD v i.toNat 0:=Int.mul_nonneg ga0 x.1
     have gx1:ga*nthD v i.toNat 0≤4294967295*4294967295:=Int.mul_le_mul (by omega) (by omega) x.1 (by omega)
     have q1:nthD v i.toNat 0 % 18446744073709551616=nthD v i.toNat 0:=by omega
     have q2:nthD R (j+i.toNat) 0 % 18446744073709551616=nthD R (j+i.toNat) 0:=by omega
     have q3:(ga*nthD v i.toNat 0 % 18446744073709551616+c) % 18446744073709551616=ga*nthD v i.toNat 0+c:=by omega
     have hi1:(i+1).toNat=i.toNat+1:=by omega
     rw[q1,q2,q3,and_mask (by omega) (by omega),hi1]
     generalize hq:((nthD R (j+i.toNat) 0 - (ga*nthD v i.toNat 0+c) % 4294967296) % 18446744073709551616 - b) % 18446744073709551616=q
     obtain⟨k1,k2,k3,k4,k5⟩:=ms_step (d:=q % 4294967296) (e:=q / 9223372036854775808) hR hRl hv ga0 ga1 c0 c1 b0 b1 (show j+i.toNat<U.length by omega) ho he (by omega) (by omega)
     repeat' refine And.intro ?_ ?_
     all_goals first|omega|exact k1|exact k2|exact k3|exact k4|exact k5|exact f2|exact f3
    ·have hi:i.toNat=v.length:=by omega
     rw[hi,List.take_length] at he
     rw[hi] at ho
     have hun:=ho (j+v.length) (.inr (Nat.le_refl _))
     have du:=dig_nth hU (j+v.length)
     have q2:nthD R (j+v.length) 0 % 18446744073709551616=nthD R (j+v.length) 0:=by rw[hun];omega
     have hXs:=@prt_succ U j v.length
     rw[q2]
     generalize hq:((nthD R (j+v.length) 0 - c) % 18446744073709551616 - b) % 18446744073709551616=q
     have hRset:Dig (R.set (j+v.length) (q % 4294967296)):=dig_set hR (by omega) (by omega)
     have hlen:(R.set (j+v.length) (q % 4294967296)).length=U.length:=by simp[hRl]
     have hout:∀m,(m<j∨j+(v.length+1)≤m)→nthD (R.set (j+v.length) (q % 4294967296)) m 0=nthD U m 0:=fun m hm=>by rw[nth_set_ne (by omega)];exact ho m (by omega)
     have hval:valN (prt (R.set (j+v.length) (q % 4294967296)) j (v.length+1))=valN (prt U j (v.length+1)) - ga*valN v+4294967296^(v.length+1)*(q / 9223372036854775808):=by
      rw[prt_succ,prt_set (Nat.le_refl _),nth_set_self (by omega),he,hXs,Int.pow_succ]
      have hd:q % 4294967296 - 4294967296*(q / 9223372036854775808)=nthD U (j+v.length) 0 - c - b:=by rw[hun] at hq;omega
      generalize (4294967296:Int)^v.length=B
      have e:B*4294967296*(q / 9223372036854775808)=B*(q % 4294967296+c+b - nthD U (j+v.length) 0):=by rw[Int.mul_assoc];congr 1;omega
      rw[e]
      simp only[Int.mul_add,Int.mul_sub]
      omega
     generalize hW:R.set (j+v.length) (q % 4294967296)=W at*
     have hbd:=prt_bd hRset (j:=j) (k:=v.length+1)
     have hnn:=val_nonneg (prt_dig hRset (j:=j) (k:=v.length+1))
     have q3:0≤q∧q<18446744073709551616:=by omega
     clear hq hun du q2 he ho hR
     repeat refine And.intro (by omega) ?_
     refine⟨fun hz=>?_,fun hz=>?_⟩
     ·rw[hz,Int.mul_zero,Int.add_zero] at hval
      obtain⟨w1,w2⟩:=qr_of (q:=ga) (show ga*valN v≤valN (prt U j (v.length+1)) by omega) f2
      refine⟨by rw[w1];omega,?_⟩
      have hfin:W=wth U j (digK (v.length+1) (valN (prt U j (v.length+1)) % valN v)):=wth_of hRset hlen (by omega) hout (by rw[hval,w2])
      rw[hfin]
      rfl
     ·have hq1:q / 9223372036854775808=1:=by omega
      rw[hq1,Int.mul_one] at hval
      have f4:valN (prt U j (v.length+1))<ga*valN v:=by omega
      refine⟨?_,?_⟩
      ·repeat' refine And.intro ?_ ?_
       all_goals first|omega|exact hRset|exact hlen|exact⟨W,⟨hRset,hlen⟩,hout,hval,fun _ _=>rfl,by simp only[valN]⟩
      clear hRset hlen hout hval hW hbd hnn q3 hz hq1 f4 f2 f3 c0 c1 b0 b1 i0 i1 ga0 ga1
      rintro⟨i2,gb,c2,R2⟩ ⟨⟨i0,i1⟩,⟨gb0,gb1⟩,⟨f5,f6⟩,⟨c0,c1⟩,⟨hR2,hR2l⟩,W2,⟨hW2,hW2l⟩,ho2,hvW,ho3,he3⟩
      simp only at i0 i1 gb0 gb1 f5 f6 c0 c1 hR2 hR2l ho3 he3 ⊢
      refine⟨fun ilt=>?_,fun ige=>?_⟩
      ·have x:=dig_nth hv i2.toNat
       have y:=dig_nth hR2 (j+i2.toNat)
       have hi1:(i2+1).toNat=i2.toNat+1:=by omega
       rw[hi1]
       have hs:((nthD R2 (j+i2.toNat) 0 % 18446744073709551616+nthD v i2.toNat 0 % 18446744073709551616) % 18446744073709551616+c2) % 18446744073709551616=nthD R2 (j+i2.toNat) 0+nthD v i2.toNat 0+c2:=by omega
       rw[hs]
       obtain⟨k1,k2,k3,k4,k5⟩:=ab_step hR2 (hR2l.trans hW2l.symm) hv c0 c1 (show j+i2.toNat<W2.length by omega) hW2 ho3 he3 rfl
       repeat' refine And.intro ?_ ?_
       all_goals first|omega|exact k1|exact f5|exact f6|exact⟨W2,⟨hW2,hW2l⟩,ho2,hvW,k4,k5⟩
      ·have hi2:i2.toNat=v.length:=by omega
       rw[hi2,List.take_length] at he3
       rw[hi2] at ho3
       have hun:=ho3 (j+v.length) (.inr (Nat.le_refl _))
       have du:=dig_nth hW2 (j+v.length)
       have hXs:=@prt_succ W2 j v.length
       have hc2:c2 % 4294967296=c2:=by omega
       rw[hc2,hun]
       have hF:Dig (R2.set (j+v.length) ((nthD W2 (j+v.length) 0+c2) % 4294967296)):=dig_set hR2 (by omega) (by omega)
       have hFl:(R2.set (j+v.length) ((nthD W2 (j+v.length) 0+c2) % 4294967296)).length=U.length:=by simp[hR2l]
       have hFo:∀m,(m<j∨j+(v.length+1)≤m)→nthD (R2.set (j+v.length) ((nthD W2 (j+v.length) 0+c2) % 4294967296)) m 0=nthD U m 0:=fun m hm=>by rw[nth_set_ne (by omega),ho3 m (by omega)];exact ho2 m hm
       have hFv:valN (prt (R2.set (j+v.length) ((nthD W2 (j+v.length) 0+c2) % 4294967296)) j (v.length+1))=valN (prt U j (v.length+1)) - gb*valN v+4294967296^(v.length+1)+valN v - 4294967296^(v.length+1)*((nthD W2 (j+v.length) 0+c2) / 4294967296):=by
        rw[prt_succ,prt_set (Nat.le_refl _),nth_set_self (by omega),←hvW,hXs,Int.pow_succ]
        generalize (4294967296:Int)^v.length=B at*
        have e:B*4294967296*((nthD W2 (j+v.length) 0+c2) / 4294967296)=B*(nthD W2 (j+v.length) 0+c2 - (nthD W2 (j+v.length) 0+c2) % 4294967296):=by rw[Int.mul_assoc];congr 1;omega
        rw[e]
        simp only[Int.mul_add,Int.mul_sub]
        omega
       have hbd:=prt_bd hF (j:=j) (k:=v.length+1)
       have hk:(nthD W2 (j+v.length) 0+c2) / 4294967296=1:=by
        by_cases h:(nthD W2 (j+v.length) 0+c2) / 4294967296=1
        ·exact h
        ·have h0:(nthD W2 (j+v.length) 0+c2) / 4294967296=0:=by omega
         rw[h0,Int.mul_zero] at hFv
         omega
       rw[hk,Int.mul_one] at hFv
       have e1:(gb - 1)*valN v=gb*valN v - valN v:=by rw[Int.sub_mul,Int.one_mul]
       obtain⟨w1,w2⟩:=qr_of (q:=gb - 1) (show(gb - 1)*valN v≤valN (prt U j (v.length+1)) by omega) (by rw[show gb - 1+1=gb by omega];exact f5)
       have hgpos:0<gb:=by
        by_cases h:0<gb
        ·exact h
        ·have:gb=0:=by omega
         subst this
         omega
       have hfin:R2.set (j+v.length) ((nthD W2 (j+v.length) 0+c2) % 4294967296)=wth U j (digK (v.length+1) (valN (prt U j (v.length+1)) % valN v)):=wth_of hF hFl (by omega) hFo (by rw[hFv,w2,e1];omega)
       repeat refine And.intro (by omega) ?_
       rw[hfin]
       rfl
   ·obtain⟨k1,k2,k3,k4⟩:=nbr (.inr hc) hb
    repeat' refine And.intro ?_ ?_
    all_goals first|omega|exact k2|exact k3
  ·obtain⟨gg,hgg,f0,f2,f3⟩:=ext hB hc
   rw[←hgg]
   clear hB hc
   clear hgg brk nbr ext hgx hgr
   refine⟨?_,?_⟩
   ·repeat' refine And.intro ?_ ?_
    all_goals first|omega|exact hU|exact f2|exact f3|exact fun _ _=>trivial|(simp only[valN];omega)
   clear f0 f2 f3
   rintro⟨i,ga,c,b,R⟩ ⟨⟨i0,i1⟩,⟨ga0,ga1⟩,⟨f2,f3⟩,⟨c0,c1⟩,⟨b0,b1⟩,⟨hR,hRl⟩,ho,he⟩
   simp only at i0 i1 ga0 ga1 f2 f3 c0 c1 b0 b1 hR hRl ho he ⊢
   refine⟨fun ilt=>?_,fun ige=>?_⟩
   ·have x:=dig_nth hv i.toNat
    have y:=dig_nth hR (j+i.toNat)
    have gx0:0≤ga*nthD v i.toNat 0:=Int.mul_nonneg ga0 x.1
    have gx1:ga*nthD v i.toNat 0≤4294967295*4294967295:=Int.mul_le_mul (by omega) (by omega) x.1 (by omega)
    have q1:nthD v i.toNat 0 % 18446744073709551616=nthD v i.toNat 0:=by omega
    have q2:nthD R (j+i.toNat) 0 % 18446744073709551616=nthD R (j+i.toNat) 0:=by omega
    have q3:(ga*nthD v i.toNat 0 % 18446744073709551616+c) % 18446744073709551616=ga*nthD v i.toNat 0+c:=by omega
    have hi1:(i+1).toNat=i.toNat+1:=by omega
    rw[q1,q2,q3,and_mask (by omega) (by omega),hi1]
    generalize hq:((nthD R (j+i.toNat) 0 - (ga*nthD v i.toNat 0+c) % 4294967296) % 18446744073709551616 - b) % 18446744073709551616=q
    obtain⟨k1,k2,k3,k4,k5⟩:=ms_step (d:=q % 4294967296) (e:=q / 9223372036854775808) hR hRl hv ga0 ga1 c0 c1 b0 b1 (show j+i.toNat<U.length by omega) ho he (by omega) (by omega)
    repeat' refine And.intro ?_ ?_
    all_goals first|omega|exact k1|exact k2|exact k3|exact k4|exact k5|exact f2|exact f3
   ·have hi:i.toNat=v.length:=by omega
    rw[hi,List.take_length] at he
    rw[hi] at ho
    have hun:=ho (j+v.length) (.inr (Nat.le_refl _))
    have du:=dig_nth hU (j+v.length)
    have q2:nthD R (j+v.length) 0 % 18446744073709551616=nthD R (j+v.length) 0:=by rw[hun];omega
    have hXs:=@prt_succ U j v.length
    rw[q2]
    generalize hq:((nthD R (j+v.length) 0 - c) % 18446744073709551616 - b) % 18446744073709551616=q
    have hRset:Dig (R.set (j+v.length) (q % 4294967296)):=dig_set hR (by omega) (by omega)
    have hlen:(R.set (j+v.length) (q % 4294967296)).length=U.length:=by simp[hRl]
    have hout:∀m,(m<j∨j+(v.length+1)≤m)→nthD (R.set (j+v.length) (q % 4294967296)) m 0=nthD U m 0:=fun m hm=>by rw[nth_set_ne (by omega)];exact ho m (by omega)
    have hval:valN (prt (R.set (j+v.length) (q % 4294967296)) j (v.length+1))=valN (prt U j (v.length+1)) - ga*valN v+4294967296^(v.length+1)*(q / 9223372036854775808):=by
     rw[prt_succ,prt_set (Nat.le_refl _),nth_set_self (by omega),he,hXs,Int.pow_succ]
     have hd:q % 4294967296 - 4294967296*(q / 9223372036854775808)=nthD U (j+v.length) 0 - c - b:=by rw[hun] at hq;omega
     generalize (4294967296:Int)^v.length=B
     have e:B*4294967296*(q / 9223372036854775808)=B*(q % 4294967296+c+b - nthD U (j+v.length) 0):=by rw[Int.mul_assoc];congr 1;omega
     rw[e]
     simp only[Int.mul_add,Int.mul_sub]
     omega
    generalize hW:R.set (j+v.length) (q % 4294967296)=W at*
    have hbd:=prt_bd hRset (j:=j) (k:=v.length+1)
    have hnn:=val_nonneg (prt_dig hRset (j:=j) (k:=v.length+1))
    have q3:0≤q∧q<18446744073709551616:=by omega
    clear hq hun du q2 he ho hR
    repeat refine And.intro (by omega) ?_
    refine⟨fun hz=>?_,fun hz=>?_⟩
    ·rw[hz,Int.mul_zero,Int.add_zero] at hval
     obtain⟨w1,w2⟩:=qr_of (q:=ga) (show ga*valN v≤valN (prt U j (v.length+1)) by omega) f2
     refine⟨by rw[w1];omega,?_⟩
     have hfin:W=wth U j (digK (v.length+1) (valN (prt U j (v.length+1)) % valN v)):=wth_of hRset hlen (by omega) hout (by rw[hval,w2])
     rw[hfin]
     rfl
    ·have hq1:q / 9223372036854775808=1:=by omega
     rw[hq1,Int.mul_one] at hval
     have f4:valN (prt U j (v.length+1))<ga*valN v:=by omega
     refine⟨?_,?_⟩
     ·repeat' refine And.intro ?_ ?_
      all_goals first|omega|exact hRset|exact hlen|exact⟨W,⟨hRset,hlen⟩,hout,hval,fun _ _=>rfl,by simp only[valN]⟩
     clear hRset hlen hout hval hW hbd hnn q3 hz hq1 f4 f2 f3 c0 c1 b0 b1 i0 i1 ga0 ga1
     rintro⟨i2,gb,c2,R2⟩ ⟨⟨i0,i1⟩,⟨gb0,gb1⟩,⟨f5,f6⟩,⟨c0,c1⟩,⟨hR2,hR2l⟩,W2,⟨hW2,hW2l⟩,ho2,hvW,ho3,he3⟩
     simp only at i0 i1 gb0 gb1 f5 f6 c0 c1 hR2 hR2l ho3 he3 ⊢
     refine⟨fun ilt=>?_,fun ige=>?_⟩
     ·have x:=dig_nth hv i2.toNat
      have y:=dig_nth hR2 (j+i2.toNat)
      have hi1:(i2+1).toNat=i2.toNat+1:=by omega
      rw[hi1]
      have hs:((nthD R2 (j+i2.toNat) 0 % 18446744073709551616+nthD v i2.toNat 0 % 18446744073709551616) % 18446744073709551616+c2) % 18446744073709551616=nthD R2 (j+i2.toNat) 0+nthD v i2.toNat 0+c2:=by omega
      rw[hs]
      obtain⟨k1,k2,k3,k4,k5⟩:=ab_step hR2 (hR2l.trans hW2l.symm) hv c0 c1 (show j+i2.toNat<W2.length by omega) hW2 ho3 he3 rfl
      repeat' refine And.intro ?_ ?_
      all_goals first|omega|exact k1|exact f5|exact f6|exact⟨W2,⟨hW2,hW2l⟩,ho2,hvW,k4,k5⟩
     ·have hi2:i2.toNat=v.length:=by omega
      rw[hi2,List.take_length] at he3
      rw[hi2] at ho3
      have hun:=ho3 (j+v.length) (.inr (Nat.le_refl _))
      have du:=dig_nth hW2 (j+v.length)
      have hXs:=@prt_succ W2 j v.length
      have hc2:c2 % 4294967296=c2:=by omega
      rw[hc2,hun]
      have hF:Dig (R2.set (j+v.length) ((nthD W2 (j+v.length) 0+c2) % 4294967296)):=dig_set hR2 (by omega) (by omega)
      have hFl:(R2.set (j+v.length) ((nthD W2 (j+v.length) 0+c2) % 4294967296)).length=U.length:=by simp[hR2l]
      have hFo:∀m,(m<j∨j+(v.length+1)≤m)→nthD (R2.set (j+v.length) ((nthD W2 (j+v.length) 0+c2) % 4294967296)) m 0=nthD U m 0:=fun m hm=>by rw[nth_set_ne (by omega),ho3 m (by omega)];exact ho2 m hm
      have hFv:valN (prt (R2.set (j+v.length) ((nthD W2 (j+v.length) 0+c2) % 4294967296)) j (v.length+1))=valN (prt U j (v.length+1)) - gb*valN v+4294967296^(v.length+1)+valN v - 4294967296^(v.length+1)*((nthD W2 (j+v.length) 0+c2) / 4294967296):=by
       rw[prt_succ,prt_set (Nat.le_refl _),nth_set_self (by omega),←hvW,hXs,Int.pow_succ]
       generalize (4294967296:Int)^v.length=B at*
       have e:B*4294967296*((nthD W2 (j+v.length) 0+c2) / 4294967296)=B*(nthD W2 (j+v.length) 0+c2 - (nthD W2 (j+v.length) 0+c2) % 4294967296):=by rw[Int.mul_assoc];congr 1;omega
       rw[e]
       simp only[Int.mul_add,Int.mul_sub]
       omega
      have hbd:=prt_bd hF (j:=j) (k:=v.length+1)
      have hk:(nthD W2 (j+v.length) 0+c2) / 4294967296=1:=by
       by_cases h:(nthD W2 (j+v.length) 0+c2) / 4294967296=1
       ·exact h
       ·have h0:(nthD W2 (j+v.length) 0+c2) / 4294967296=0:=by omega
        rw[h0,Int.mul_zero] at hFv
        omega
      rw[hk,Int.mul_one] at hFv
      have e1:(gb - 1)*valN v=gb*valN v - valN v:=by rw[Int.sub_mul,Int.one_mul]
      obtain⟨w1,w2⟩:=qr_of (q:=gb - 1) (show(gb - 1)*valN v≤valN (prt U j (v.length+1)) by omega) (by rw[show gb - 1+1=gb by omega];exact f5)
      have hgpos:0<gb:=by
       by_cases h:0<gb
       ·exact h
       ·have:gb=0:=by omega
        subst this
        omega
      have hfin:R2.set (j+v.length) ((nthD W2 (j+v.length) 0+c2) % 4294967296)=wth U j (digK (v.length+1) (valN (prt U j (v.length+1)) % valN v)):=wth_of hF hFl (by omega) hFo (by rw[hFv,w2,e1];omega)
      repeat refine And.intro (by omega) ?_
      rw[hfin]
      rfl
structure FitL (p:Prob) (fs:List Int) (l o:Bun) (L:List Off):Prop where
 nd:(L.map Off.bidder).Nodup
 mem:∀x∈L,x∈p.offers∧x.bidder∈fs
 w:(sumB (L.map Off.want)).le l=true
 o:(sumB (L.map (outS p))).le o=true
theorem offsI_append {p:Prob} {l m:List Int}:offsI p (l++m)=offsI p l++offsI p m:=by simp[offsI]
def IncR (i:Int) (k:Nat) (t:List Int):Prop:=t.Pairwise (·<·)∧∀j∈t,i≤j∧j<i+k
structure BSt where
 at_:Sit
 rest:Int
 out:List Int
def stepB (p:Prob) (s:BSt) (i:Nat):BSt:=
 let x:=nthD p.offers i SId.off.dflt
 if bitI s.at_.members x.bidder≠0∧fitsAt p s.at_ x=true∧x.value+bestS p (nextAt p s.at_ x)=s.rest then⟨nextAt p s.at_ x,s.rest - x.value,s.out++[(i:Int)]⟩ else s
def startB (p:Prob) (m:Int):BSt:=⟨⟨m,p.supply,p.opn⟩,bestS p ⟨m,p.supply,p.opn⟩,[]⟩
def runB (p:Prob) (m:Int) (n:Nat):BSt:=(List.range n).foldl (stepB p) (startB p m)
theorem runB_succ {p:Prob} {m:Int} {n:Nat}:runB p m (n+1)=stepB p (runB p m n) n:=by
 unfold runB
 rw[List.range_succ,List.foldl_append]
 rfl
theorem nextOk {p:Prob} (hg:Good p) {a:Sit} (ha:SitOk a) {x:Off} (hx:x∈p.offers) (hb:bitI a.members x.bidder≠0) (hf:fitsAt p a x=true):SitOk (nextAt p a x):=by
 have hv:=hg.2.2.2.2 x hx
 have h8:=hg.1
 have hd:=(bit_del ha.1 ha.2.1 hv.1 (by omega)).2 hb
 simp only[fitsAt,Bool.and_eq_true] at hf
 exact⟨hd.1,hd.2.1,sub_ok ha.2.2.1 hv.2.2.1 hf.1,sub_ok ha.2.2.2 (out_ok hv.2.2.1) hf.2⟩
theorem runB_ok {p:Prob} (hg:Good p) {m:Int} (h0:0≤m) (h1:m<256):∀n,n≤p.offers.length→SitOk (runB p m n).at_∧(runB p m n).rest=bestS p (runB p m n).at_∧(runB p m n).out.length≤n
 |0,_=>⟨⟨h0,h1,hg.2.2.1,hg.2.2.2.1⟩,rfl,Nat.le_refl _⟩
 |n+1,hn=>by
  obtain⟨k1,k2,k3⟩:=runB_ok hg h0 h1 n (by omega)
  rw[runB_succ]
  unfold stepB
  simp only
  have hx:=nthD_mem (d:=SId.off.dflt) (show n<p.offers.length by omega)
  split
  ·rename_i hc
   refine⟨nextOk hg k1 hx hc.1 hc.2.1,?_,by simp;omega⟩
   simp only
   omega
  ·exact⟨k1,k2,by omega⟩
def FitS (p:Prob) (a:Sit) (L:List Off):Prop:=FitL p (memL a.members) a.left a.opn L
theorem mem_bit {m b:Int}:b∈memL m↔(0≤b∧b<8)∧bitI m b≠0:=by
 unfold memL
 rw[List.mem_filter,decide_eq_true_eq]
 constructor
 ·rintro⟨h1,h2⟩
  simp only[List.mem_cons,List.not_mem_nil,or_false] at h1
  exact⟨by omega,h2⟩
 ·rintro⟨h1,h2⟩
  refine⟨?_,h2⟩
  have:b=0∨b=1∨b=2∨b=3∨b=4∨b=5∨b=6∨b=7:=by omega
  rcases this with rfl|rfl|rfl|rfl|rfl|rfl|rfl|rfl<;>simp
theorem fitS_cons {p:Prob} (hg:Good p) {a:Sit} (ha:SitOk a) {x:Off} (hx:x∈p.offers) (hb:bitI a.members x.bidder≠0) (hf:fitsAt p a x=true) {L:List Off} (h:FitS p (nextAt p a x) L):FitS p a (x::L):=by
 have hv:=hg.2.2.2.2 x hx
 have h8:=hg.1
 have hd:=(bit_del ha.1 ha.2.1 hv.1 (by omega)).2 hb
 have hm:memL (nextAt p a x).members=(memL a.members).filter fun g=>decide (g≠x.bidder):=hd.2.2
 obtain⟨n1,n2,n3,n4⟩:=h
 rw[hm] at n2
 simp only[fitsAt,Bool.and_eq_true] at hf
 have w1:=Bun.le_iff.1 hf.1
 have w2:=Bun.le_iff.1 hf.2
 refine⟨?_,fun y hy=>?_,?_,?_⟩
 ·rw[List.map_cons,List.nodup_cons]
  refine⟨fun hh=>?_,n1⟩
  obtain⟨y,hy,he⟩:=List.mem_map.1 hh
  have:=(List.mem_filter.1 (n2 y hy).2).2
  simp only[decide_eq_true_eq] at this
  exact this he
 ·rcases List.mem_cons.1 hy with rfl|hy
  ·exact⟨hx,mem_bit.2 ⟨⟨hv.1,by omega⟩,hb⟩⟩
  ·exact⟨(n2 y hy).1,(List.mem_filter.1 (n2 y hy).2).1⟩
 ·have:=Bun.le_iff.1 n3
  rw[List.map_cons,sumB_cons,Bun.le_iff]
  simp only[Bun.add,Bun.sub,nextAt] at this ⊢
  omega
 ·have:=Bun.le_iff.1 n4
  rw[List.map_cons,sumB_cons,Bun.le_iff]
  simp only[Bun.add,Bun.sub,nextAt] at this ⊢
  omega
theorem taken {p:Prob} (hg:Good p) {m:Int} (h0:0≤m) (h1:m<256):∀n,n≤p.offers.length→IncR 0 n (runB p m n).out∧sumV (offsI p (runB p m n).out)+(runB p m n).rest=(startB p m).rest∧
  ∀L,FitS p (runB p m n).at_ L→FitS p (startB p m).at_ (offsI p (runB p m n).out++L)
 |0,_=>⟨⟨by simp[runB,startB],by simp[runB,startB]⟩,by simp[runB,startB,offsI,sumV],fun L h=>by simpa[runB,startB,offsI] using h⟩
 |n+1,hn=>by
  obtain⟨k1,k2,k3⟩:=runB_ok hg h0 h1 n (by omega)
  obtain⟨i1,i2,i3⟩:=taken hg h0 h1 n (by omega)
  have hx:=nthD_mem (d:=SId.off.dflt) (show n<p.offers.length by omega)
  rw[runB_succ]
  unfold stepB
  simp only
  split
  ·rename_i hcond
   obtain⟨c1,c2,c3⟩:=hcond
   have ho:offsI p ((runB p m n).out++[(n:Int)])=offsI p (runB p m n).out++[nthD p.offers n SId.off.dflt]:=by
    rw[offsI_append]
    congr 1
   refine⟨⟨?_,fun j hj=>?_⟩,?_,fun L hL=>?_⟩
   ·rw[List.pairwise_append]
    refine⟨i1.1,by simp,fun a ha b hb=>?_⟩
    rw[List.mem_singleton] at hb
    have:=i1.2 a ha
    omega
   ·rcases List.mem_append.1 hj with hj|hj
    ·have:=i1.2 j hj;omega
    ·rw[List.mem_singleton] at hj;omega
   ·simp only
    rw[ho,sumV_append]
    simp only[sumV]
    omega
   ·have:=i3 _ (fitS_cons hg k1 hx c1 c2 hL)
    rw[ho]
    simpa using this
  ·exact⟨⟨i1.1,fun j hj=>by have:=i1.2 j hj;omega⟩,i2,i3⟩
def wed (c:Nat→Rat):(List Nat→Rat)→List Nat→Rat
 |_,[]=>0
 |f,i::R=>c i*f R - wed c (fun l=>f (i::l)) R
theorem wed_zero {c:Nat→Rat}:∀{R:List Nat},wed c (fun _=>0) R=0
 |[]=>rfl
 |i::R=>by simp only[wed,wed_zero];grind
theorem wed_lin {c:Nat→Rat} {p q:Rat}:∀{R:List Nat} {f g:List Nat→Rat},wed c (fun l=>p*f l+q*g l) R=p*wed c f R+q*wed c g R
 |[],_,_=>by simp only[wed];grind
 |i::R,f,g=>by
  simp only[wed,@wed_lin c p q R]
  grind
theorem wed_lin1 {c d:Nat→Rat} {p q:Rat}:∀{R:List Nat} {f:List Nat→Rat},wed (fun i=>p*c i+q*d i) f R=p*wed c f R+q*wed d f R
 |[],_=>by simp only[wed];grind
 |i::R,f=>by
  simp only[wed,@wed_lin1 c d p q R]
  grind
theorem wed_sub {c:Nat→Rat} {p:Rat} {R:List Nat} {f g:List Nat→Rat}:wed c (fun l=>p*f l - g l) R=p*wed c f R - wed c g R:=by
 have:=@wed_lin c p (-1) R f g
 rw[show p*wed c f R - wed c g R=p*wed c f R+ -1*wed c g R by grind,←this]
 congr 1
 funext l
 grind
theorem wed_anti {a b:Nat→Rat}:∀{R:List Nat} {f:List Nat→Rat},wed a (wed b f) R= - wed b (wed a f) R
 |[],_=>by simp only[wed];grind
 |i::R,f=>by
  have e1:wed a (fun l=>wed b f (i::l)) R=b i*wed a f R - wed a (wed b fun l=>f (i::l)) R:=wed_sub
  have e2:wed b (fun l=>wed a f (i::l)) R=a i*wed b f R - wed b (wed a fun l=>f (i::l)) R:=wed_sub
  have h:=@wed_anti a b R fun l=>f (i::l)
  show a i*wed b f R - wed a (fun l=>wed b f (i::l)) R= -(b i*wed a f R - wed b (fun l=>wed a f (i::l)) R)
  rw[e1,e2,h]
  grind
theorem wed_self {a:Nat→Rat} {f:List Nat→Rat}:wed a (wed a f)=fun _=>0:=by
 funext R
 have:=@wed_anti a a R f
 grind
def detB (R:List Nat):Rat:=if R=[] then 1 else 0
def det (cs:List (Nat→Rat)):List Nat→Rat:=cs.foldr wed detB
theorem det_cons {c:Nat→Rat} {cs:List (Nat→Rat)}:det (c::cs)=wed c (det cs):=rfl
theorem det_mid {a:Nat→Rat}:∀{cs:List (Nat→Rat)} {f:List Nat→Rat},wed a (cs.foldr wed (wed a f))=fun _=>0
 |[],f=>wed_self
 |c::cs,f=>by
  funext R
  simp only[List.foldr_cons]
  rw[wed_anti,@det_mid a cs f,wed_zero]
  rfl
theorem fold_zero:∀{cs:List (Nat→Rat)},cs.foldr wed (fun _=>0)=fun _=>0
 |[]=>rfl
 |c::cs=>by
  rw[List.foldr_cons,fold_zero]
  funext R
  exact wed_zero
theorem det_eq {a:Nat→Rat} {p m q:List (Nat→Rat)}:det (p++a::(m++a::q))=fun _=>0:=by
 unfold det
 rw[List.foldr_append,List.foldr_cons,List.foldr_append,List.foldr_cons,det_mid,fold_zero]
theorem fold_lin {p q:Rat}:∀{cs:List (Nat→Rat)} {f g:List Nat→Rat} {R:List Nat},cs.foldr wed (fun l=>p*f l+q*g l) R=p*cs.foldr wed f R+q*cs.foldr wed g R
 |[],_,_,_=>rfl
 |c::cs,f,g,R=>by
  simp only[List.foldr_cons]
  rw[←wed_lin]
  congr 1
  funext l
  exact fold_lin
theorem det_lin {c d:Nat→Rat} {p q:Rat} {a b:List (Nat→Rat)} {R:List Nat}:det (a++(fun i=>p*c i+q*d i)::b) R=p*det (a++c::b) R+q*det (a++d::b) R:=by
 unfold det
 simp only[List.foldr_append,List.foldr_cons]
 rw[←fold_lin]
 have e:wed (fun i=>p*c i+q*d i) (List.foldr wed detB b)=fun l=>p*wed c (List.foldr wed detB b) l+q*wed d (List.foldr wed detB b) l:=by
  funext l
  exact wed_lin1
 rw[e]
def isZ (M:Nat) (q:Rat):Prop:=∃z:Int,q=(z:Rat)∧z.natAbs≤M
theorem wed_bd {c:Nat→Rat} {M K:Nat}:∀{R:List Nat} {f:List Nat→Rat},(∀i∈R,isZ M (c i))→(∀l,l.length+1=R.length→(∀i∈l,i∈R)→isZ K (f l))→isZ (R.length*(M*K)) (wed c f R)
 |[],_,_,_=>⟨0,by simp[wed],by simp⟩
 |i::R,f,hc,hf=>by
  simp only[wed,List.length_cons]
  obtain⟨y,h1,h1'⟩:=@wed_bd c M K R (fun l=>f (i::l)) (fun j hj=>hc j (by simp[hj])) fun l hl hs=>hf _ (by simp only[List.length_cons];omega) fun j hj=>by
   rcases List.mem_cons.1 hj with rfl|hj
   ·simp
   ·simp[hs j hj]
  obtain⟨u,h2,h2'⟩:=hc i (by simp)
  obtain⟨v,h3,h3'⟩:=hf R (by simp) fun j hj=>by simp[hj]
  refine⟨u*v - y,?_,?_⟩
  ·rw[h1,h2,h3,Rat.intCast_sub,Rat.intCast_mul]
  ·have h4:(u*v).natAbs≤M*K:=by
    rw[Int.natAbs_mul]
    exact Nat.mul_le_mul h2' h3'
   rw[Nat.succ_mul]
   omega
def facP (M:Nat):Nat→Nat
 |0=>1
 |n+1=>(n+1)*(M*facP M n)
theorem det_bd {M:Nat}:∀{cs:List (Nat→Rat)} {R:List Nat},cs.length=R.length→(∀c∈cs,∀i∈R,isZ M (c i))→isZ (facP M R.length) (det cs R)
 |[],R,hl,_=>by
  have:R=[]:=List.eq_nil_of_length_eq_zero (by simpa using hl.symm)
  subst this
  exact⟨1,by simp[det,detB],by simp[facP]⟩
 |c::cs,R,hl,hc=>by
  rw[det_cons]
  cases R with
  |nil=>simp at hl
  |cons i R=>
   simp only[List.length_cons,facP]
   refine wed_bd (hc c (by simp)) fun l hl2 hs=>?_
   simp only[List.length_cons] at hl hl2
   rw[show R.length=l.length by omega]
   exact det_bd (by omega) fun d hd j hj=>hc d (by simp[hd]) j (hs j hj)
def unitC (k:Nat):Nat→Rat:=fun i=>if i=k then 1 else 0
theorem wed_off {c:Nat→Rat}:∀{R:List Nat} {f:List Nat→Rat},(∀i∈R,c i=0)→wed c f R=0
 |[],_,_=>rfl
 |i::R,f,h=>by
  simp only[wed]
  rw[h i (by simp),wed_off fun j hj=>h j (by simp[hj])]
  grind
theorem det_unit:∀{R:List Nat},R.Nodup→det (R.map unitC) R=1
 |[],_=>by simp[det,detB]
 |i::R,h=>by
  rw[List.nodup_cons] at h
  rw[List.map_cons,det_cons]
  simp only[wed]
  rw[wed_off (c:=unitC i) (R:=R) fun j hj=>by
   unfold unitC
   rw[if_neg]
   rintro rfl
   exact h.1 hj]
  rw[det_unit h.2]
  unfold unitC
  rw[if_pos rfl]
  grind
def sumQ (n:Nat) (f:Nat→Rat):Rat:=match n with
 |0=>0
 |n+1=>sumQ n f+f n
theorem sumQ_congr:∀{n:Nat} {f g:Nat→Rat},(∀i,i<n→f i=g i)→sumQ n f=sumQ n g
 |0,_,_,_=>rfl
 |n+1,f,g,h=>by simp only[sumQ];rw[sumQ_congr fun i hi=>h i (by omega),h n (by omega)]
theorem sumQ_add:∀{n:Nat} {f g:Nat→Rat},sumQ n (fun i=>f i+g i)=sumQ n f+sumQ n g
 |0,_,_=>by simp only[sumQ];grind
 |n+1,f,g=>by simp only[sumQ];rw[sumQ_add];grind
theorem sumQ_mul {c:Rat}:∀{n:Nat} {f:Nat→Rat},sumQ n (fun i=>c*f i)=c*sumQ n f
 |0,_=>by simp only[sumQ];grind
 |n+1,f=>by simp only[sumQ];rw[sumQ_mul];grind
theorem sumQ_zero:∀{n:Nat},sumQ n (fun _=>0)=0
 |0=>rfl
 |n+1=>by simp only[sumQ];rw[sumQ_zero];grind
theorem sumQ_one {k:Nat} {x:Rat}:∀{n:Nat},sumQ n (fun i=>if i=k then x else 0)=if k<n then x else 0
 |0=>by simp[sumQ]
 |n+1=>by
  simp only[sumQ]
  rw[sumQ_one]
  by_cases h:n=k
  ·subst h;rw[if_neg (by omega),if_pos rfl,if_pos (by omega)];grind
  ·rw[if_neg h]
   by_cases h2:k<n
   ·rw[if_pos h2,if_pos (by omega)];grind
   ·rw[if_neg h2,if_neg (by omega)];grind
theorem sumQ_pick {n k:Nat} {f:Nat→Rat} (h:k<n):sumQ n f=f k+sumQ n fun i=>if i=k then 0 else f i:=by
 have h1:=@sumQ_one k (f k) n
 rw[if_pos h] at h1
 rw[←h1,←sumQ_add]
 refine sumQ_congr fun i _=>?_
 split
 ·rename_i h;subst h;grind
 ·grind
theorem det_sum {a b:List (Nat→Rat)} {R:List Nat} {y:Nat→Rat} {T:Nat→Nat→Rat}:∀{n:Nat},det (a++(fun i=>sumQ n fun k=>y k*T k i)::b) R=sumQ n fun k=>y k*det (a++T k::b) R
 |0=>by
  have e:(fun i:Nat=>sumQ 0 fun k=>y k*T k i)=fun i=>(0:Rat)*(fun _=>0) i+0*(fun _=>0) i:=by funext i;simp only[sumQ];grind
  rw[e,det_lin]
  simp only[sumQ]
  grind
 |n+1=>by
  have e:(fun i:Nat=>sumQ (n+1) fun k=>y k*T k i)=fun i=>(1:Rat)*(fun i=>sumQ n fun k=>y k*T k i) i+y n*T n i:=by
   funext i
   simp only[sumQ]
   grind
  rw[e,det_lin,det_sum]
  simp only[sumQ]
  grind
theorem cramer {C:List (Nat→Rat)} {R:List Nat} {y:Nat→Rat} {r:Nat} (hr:r<C.length):det (C.set r (fun i=>sumQ C.length fun k=>y k*(C.getD k (fun _=>0)) i)) R=y r*det C R:=by
 have split:∀c:Nat→Rat,C.set r c=C.take r++c::C.drop (r+1):=fun c=>by rw[List.set_eq_take_append_cons_drop,if_pos hr]
 rw[split,det_sum,sumQ_pick hr]
 have h1:∀k,k<C.length→(if k=r then(0:Rat) else y k*det (C.take r++C.getD k (fun _=>0)::C.drop (r+1)) R)=0:=by
  intro k hk
  split
  ·rfl
  ·rename_i hkr
   have hz:det (C.take r++C.getD k (fun _=>0)::C.drop (r+1)) R=0:=by
    have hg:C.getD k (fun _=>0)=C[k]:=by simp[List.getD,hk]
    rw[hg]
    rcases Nat.lt_or_gt_of_ne hkr with h|h
    ·have e1:C.take r=C.take k++C[k]::(C.drop (k+1)).take (r - (k+1)):=by
      have h2:C[k]::C.drop (k+1)=C.drop k:=List.getElem_cons_drop hk
      obtain⟨d,rfl⟩:∃d,r=k+(d+1):=⟨r - (k+1),by omega⟩
      rw[List.take_add,←h2,List.take_succ_cons,show k+(d+1) - (k+1)=d by omega]
     rw[e1,List.append_assoc,List.cons_append,det_eq]
    ·have e1:C.drop (r+1)=(C.drop (r+1)).take (k - (r+1))++C[k]::C.drop (k+1):=by
      have h2:C[k]::C.drop (k+1)=C.drop k:=List.getElem_cons_drop hk
      rw[h2]
      have h3:=List.take_append_drop (k - (r+1)) (C.drop (r+1))
      rw[List.drop_drop,show r+1+(k - (r+1))=k by omega] at h3
      exact h3.symm
     rw[e1,det_eq]
   rw[hz]
   grind
 rw[sumQ_congr h1,sumQ_zero]
 have h2:C.take r++C.getD r (fun _=>0)::C.drop (r+1)=C:=by
  have hg:C.getD r (fun _=>0)=C[r]:=by simp[List.getD,hr]
  rw[hg,List.getElem_cons_drop hr,List.take_append_drop]
 rw[h2]
 grind
structure Tb where
 coef:List (List Rat)
 bound:List Rat
 cost:List Rat
 value:Rat
 basic:List Int
 free:List Int
namespace Tb
def cf (t:Tb) (i j:Nat):Rat:=nthD (nthD t.coef i []) j 0
def bd (t:Tb) (i:Nat):Rat:=nthD t.bound i 0
def cs (t:Tb) (j:Nat):Rat:=nthD t.cost j 0
def bv (t:Tb) (i:Nat):Int:=nthD t.basic i 0
def fv (t:Tb) (j:Nat):Int:=nthD t.free j 0
structure WF (n m:Nat) (t:Tb):Prop where
 coef:t.coef.length=m
 row:∀i,i<m→(nthD t.coef i []).length=n
 bound:t.bound.length=m
 cost:t.cost.length=n
 basic:t.basic.length=m
 free:t.free.length=n
def holds (n m:Nat) (t:Tb) (x:Int→Rat) (z:Rat):Prop:=
 (∀i,i<m→x (t.bv i)+sumQ n (fun j=>t.cf i j*x (t.fv j))=t.bd i)∧z=t.value+sumQ n fun j=>t.cs j*x (t.fv j)
end Tb
def elimR (l:List Rat) (c:Nat) (p:List Rat):List Rat:=(List.range l.length).map fun j=>if j=c then -(nthD l c 0*nthD p j 0) else nthD l j 0 - nthD l c 0*nthD p j 0
def prowR (l:List Rat) (c:Nat):List Rat:=(List.range l.length).map fun j=>if j=c then 1 / nthD l c 0 else nthD l j 0*(1 / nthD l c 0)
def pivT (t:Tb) (r c:Nat):Tb where
 coef:=(List.range t.coef.length).map fun i=>if i=r then prowR (nthD t.coef r []) c else elimR (nthD t.coef i []) c (prowR (nthD t.coef r []) c)
 bound:=(List.range t.bound.length).map fun i=>if i=r then t.bd r*(1 / t.cf r c) else t.bd i - t.cf i c*(t.bd r*(1 / t.cf r c))
 cost:=elimR t.cost c (prowR (nthD t.coef r []) c)
 value:=t.value+t.cs c*(t.bd r*(1 / t.cf r c))
 basic:=t.basic.set r (t.fv c)
 free:=t.free.set c (t.bv r)
theorem nth_map {α:Type} {f:Nat→α} {n i:Nat} {d:α} (h:i<n):nthD ((List.range n).map f) i d=f i:=by
 rw[nthD_eq (by simpa using h)]
 simp
theorem nthT_set {α:Type} {l:List α} {r i:Nat} {x d:α} (h:r<l.length):nthD (l.set r x) i d=if i=r then x else nthD l i d:=by
 unfold nthD
 rw[List.getElem?_set]
 by_cases hi:r=i
 ·subst hi;simp[h]
 ·rw[if_neg hi,if_neg (fun h=>hi h.symm)]
section
variable {n m:Nat} {t:Tb} {r c:Nat}
theorem prow_len {l:List Rat}:(prowR l c).length=l.length:=by simp[prowR]
theorem elim_len {l p:List Rat}:(elimR l c p).length=l.length:=by simp[elimR]
theorem prow_nth {l:List Rat} {j:Nat} (h:j<l.length):nthD (prowR l c) j 0=if j=c then 1 / nthD l c 0 else nthD l j 0*(1 / nthD l c 0):=nth_map h
theorem elim_nth {l p:List Rat} {j:Nat} (h:j<l.length):nthD (elimR l c p) j 0=if j=c then -(nthD l c 0*nthD p j 0) else nthD l j 0 - nthD l c 0*nthD p j 0:=nth_map h
theorem piv_wf (h:t.WF n m):(pivT t r c).WF n m where
 coef:=by simp[pivT,h.coef]
 row i hi:=by
  simp only[pivT]
  rw[nth_map (by rw[h.coef];exact hi)]
  split
  ·rename_i e;subst e;rw[prow_len,h.row _ hi]
  ·rw[elim_len,h.row _ hi]
 bound:=by simp[pivT,h.bound]
 cost:=by simp only[pivT];rw[elim_len,h.cost]
 basic:=by simp[pivT,h.basic]
 free:=by simp[pivT,h.free]
theorem piv_cf (h:t.WF n m) (hr:r<m) (hc:c<n) {i j:Nat} (hi:i<m) (hj:j<n):(pivT t r c).cf i j=
  if i=r then(if j=c then 1 / t.cf r c else t.cf r j*(1 / t.cf r c)) else if j=c then -(t.cf i c*(1 / t.cf r c)) else t.cf i j - t.cf i c*(t.cf r j*(1 / t.cf r c)):=by
 unfold Tb.cf
 simp only[pivT]
 rw[nth_map (by rw[h.coef];exact hi)]
 split
 ·rw[prow_nth (by rw[h.row _ hr];exact hj)]
 ·rw[elim_nth (by rw[h.row _ hi];exact hj)]
  rw[prow_nth (by rw[h.row _ hr];exact hj)]
  split
  ·rfl
  ·rfl
theorem piv_bd (h:t.WF n m) {i:Nat} (hi:i<m):(pivT t r c).bd i=if i=r then t.bd r*(1 / t.cf r c) else t.bd i - t.cf i c*(t.bd r*(1 / t.cf r c)):=by
 show nthD _ i 0=_
 simp only[pivT]
 rw[nth_map (by rw[h.bound];exact hi)]
theorem piv_cs (h:t.WF n m) (hr:r<m) {j:Nat} (hj:j<n):(pivT t r c).cs j=if j=c then -(t.cs c*(1 / t.cf r c)) else t.cs j - t.cs c*(t.cf r j*(1 / t.cf r c)):=by
 show nthD _ j 0=_
 simp only[pivT]
 rw[elim_nth (by rw[h.cost];exact hj),prow_nth (by rw[h.row _ hr];exact hj)]
 split
 ·rfl
 ·rfl
theorem piv_bv (h:t.WF n m) (hr:r<m) {i:Nat}:(pivT t r c).bv i=if i=r then t.fv c else t.bv i:=nthT_set (by rw[h.basic];exact hr)
theorem piv_fv (h:t.WF n m) (hc:c<n) {j:Nat}:(pivT t r c).fv j=if j=c then t.bv r else t.fv j:=nthT_set (by rw[h.free];exact hc)
theorem piv_holds (h:t.WF n m) (hr:r<m) (hc:c<n) (ha:t.cf r c≠0) {x:Int→Rat} {z:Rat}:(pivT t r c).holds n m x z↔t.holds n m x z:=by
 have old:∀f:Nat→Rat,sumQ n (fun j=>f j*x (t.fv j))=f c*x (t.fv c)+sumQ n (fun j=>if j=c then 0 else f j*x (t.fv j)):=fun f=>sumQ_pick hc
 have new:∀f:Nat→Rat,sumQ n (fun j=>f j*x ((pivT t r c).fv j))=f c*x (t.bv r)+sumQ n (fun j=>if j=c then 0 else f j*x (t.fv j)):=fun f=>by
  rw[sumQ_pick hc,piv_fv h hc,if_pos rfl]
  congr 1
  refine sumQ_congr fun j _=>?_
  split
  ·rfl
  ·rename_i hj;rw[piv_fv h hc,if_neg hj]
 have er:sumQ n (fun j=>if j=c then 0 else(pivT t r c).cf r j*x (t.fv j))=(1 / t.cf r c)*sumQ n (fun j=>if j=c then 0 else t.cf r j*x (t.fv j)):=by
  rw[←sumQ_mul]
  refine sumQ_congr fun j hj=>?_
  split
  ·grind
  ·rename_i hjc
   rw[piv_cf h hr hc hr hj,if_pos rfl,if_neg hjc]
   grind
 have ei:∀f g:Nat→Rat,∀q:Rat,(∀j,j<n→j≠c→g j=f j - q*(t.cf r j*(1 / t.cf r c)))→sumQ n (fun j=>if j=c then 0 else g j*x (t.fv j))=sumQ n (fun j=>if j=c then 0 else f j*x (t.fv j))+(-(q*(1 / t.cf r c)))*sumQ n (fun j=>if j=c then 0 else t.cf r j*x (t.fv j)):=fun f g q hg=>by
  rw[←sumQ_mul,←sumQ_add]
  refine sumQ_congr fun j hj=>?_
  split
  ·grind
  ·rename_i hjc
   rw[hg j hj hjc]
   grind
 have hz:∀j,j<n→j≠c→(pivT t r c).cs j=t.cs j - t.cs c*(t.cf r j*(1 / t.cf r c)):=fun j hj hjc=>by rw[piv_cs h hr hj,if_neg hjc]
 have hfi:∀i,i<m→i≠r→∀j,j<n→j≠c→(pivT t r c).cf i j=t.cf i j - t.cf i c*(t.cf r j*(1 / t.cf r c)):=fun i hi hir j hj hjc=>by rw[piv_cf h hr hc hi hj,if_neg hir,if_neg hjc]
 have kz:=ei t.cs _ _ hz
 have qcs:=piv_cs (c:=c) h hr hc
 rw[if_pos rfl] at qcs
 have qcr:=piv_cf h hr hc hr hc
 rw[if_pos rfl,if_pos rfl] at qcr
 have qbr:=piv_bd (r:=r) (c:=c) h hr
 rw[if_pos rfl] at qbr
 have qvr:=piv_bv (c:=c) (i:=r) h hr
 rw[if_pos rfl] at qvr
 have qv:(pivT t r c).value=t.value+t.cs c*(t.bd r*(1 / t.cf r c)):=rfl
 unfold Tb.holds
 constructor
 ·rintro⟨h1,h2⟩
  have h3:=h1 r hr
  rw[new,er,qcr,qvr,qbr] at h3
  refine⟨fun i hi=>?_,?_⟩
  ·by_cases hir:i=r
   ·subst hir
    rw[old]
    grind
   ·have h4:=h1 i hi
    have e1:=piv_cf h hr hc hi hc
    rw[if_neg hir,if_pos rfl] at e1
    rw[new,ei _ _ _ (hfi i hi hir),piv_bv h hr,if_neg hir,piv_bd h hi,if_neg hir,e1] at h4
    rw[old]
    grind
  ·rw[new,kz,qcs,qv] at h2
   rw[old]
   grind
 ·rintro⟨h1,h2⟩
  have h3:=h1 r hr
  rw[old] at h3
  refine⟨fun i hi=>?_,?_⟩
  ·by_cases hir:i=r
   ·subst hir
    rw[new,er,qcr,qvr,qbr]
    grind
   ·have h4:=h1 i hi
    have e1:=piv_cf h hr hc hi hc
    rw[if_neg hir,if_pos rfl] at e1
    rw[new,ei _ _ _ (hfi i hi hir),piv_bv h hr,if_neg hir,piv_bd h hi,if_neg hir,e1]
    rw[old] at h4
    grind
  ·rw[new,kz,qcs,qv]
   rw[old] at h2
   grind
end
def sumL (f:Int→Rat):List Int→Rat
 |[]=>0
 |x::l=>f x+sumL f l
theorem sumL_app {f:Int→Rat}:∀{l k:List Int},sumL f (l++k)=sumL f l+sumL f k
 |[],k=>by simp only[List.nil_append,sumL];grind
 |x::l,k=>by simp only[List.cons_append,sumL,@sumL_app f l k];grind
theorem sumL_perm {f:Int→Rat} {l k:List Int} (h:l.Perm k):sumL f l=sumL f k:=by
 induction h with
 |nil=>rfl
 |cons x _ ih=>simp only[sumL,ih]
 |swap x y l=>simp only[sumL];grind
 |trans _ _ a b=>exact a.trans b
theorem sumQ_front:∀{n:Nat} {f:Nat→Rat},sumQ (n+1) f=f 0+sumQ n fun i=>f (i+1)
 |0,f=>by simp only[sumQ];grind
 |n+1,f=>by
  rw[sumQ,sumQ_front]
  simp only[sumQ]
  grind
theorem sumL_eq {f:Int→Rat}:∀{l:List Int},sumL f l=sumQ l.length fun k=>f (nthD l k 0)
 |[]=>rfl
 |x::l=>by
  rw[List.length_cons,sumQ_front,sumL,sumL_eq]
  rfl
def asg (n:Nat) (t:Tb) (y:Nat→Rat) (v:Int):Rat:=if v∈t.free then y (t.free.idxOf v) else t.bd (t.basic.idxOf v) - sumQ n fun j=>t.cf (t.basic.idxOf v) j*y j
section
variable {n m:Nat} {t t0:Tb} {r c:Nat}
theorem idx_nth {l:List Int} {i:Nat} (h:l.Nodup) (hi:i<l.length):l.idxOf (nthD l i 0)=i:=by
 rw[nthD_eq hi]
 exact h.idxOf_getElem i hi
theorem asg_free (h:t.WF n m) (hn:(t.basic++t.free).Nodup) {y:Nat→Rat} {j:Nat} (hj:j<n):asg n t y (t.fv j)=y j:=by
 have hl:j<t.free.length:=by rw[h.free];exact hj
 unfold asg Tb.fv
 rw[if_pos (by rw[nthD_eq hl];exact List.getElem_mem hl),idx_nth (List.nodup_append.1 hn).2.1 hl]
theorem bv_not (h:t.WF n m) (hn:(t.basic++t.free).Nodup) {i:Nat} (hi:i<m):t.bv i∉t.free:=fun hf=>by
 have hl:i<t.basic.length:=by rw[h.basic];exact hi
 unfold Tb.bv at hf
 rw[nthD_eq hl] at hf
 exact(List.nodup_append.1 hn).2.2 _ (List.getElem_mem hl) _ hf rfl
theorem asg_basic (h:t.WF n m) (hn:(t.basic++t.free).Nodup) {y:Nat→Rat} {i:Nat} (hi:i<m):asg n t y (t.bv i)=t.bd i - sumQ n fun j=>t.cf i j*y j:=by
 have hl:i<t.basic.length:=by rw[h.basic];exact hi
 have e:t.basic.idxOf (t.bv i)=i:=idx_nth (List.nodup_append.1 hn).1 hl
 unfold asg
 rw[if_neg (bv_not h hn hi),e]
theorem asg_holds (h:t.WF n m) (hn:(t.basic++t.free).Nodup) {y:Nat→Rat}:t.holds n m (asg n t y) (t.value+sumQ n fun j=>t.cs j*y j):=by
 have e:∀f:Nat→Rat,sumQ n (fun j=>f j*asg n t y (t.fv j))=sumQ n fun j=>f j*y j:=fun f=>sumQ_congr fun j hj=>by rw[asg_free h hn hj]
 refine⟨fun i hi=>?_,?_⟩
 ·rw[asg_basic h hn hi,e]
  grind
 ·rw[e]
def tcol (m:Nat) (t0:Tb) (v:Int) (i:Nat):Rat:=if i<m then(if v∈t0.free then t0.cf i (t0.free.idxOf v) else if t0.basic.idxOf v=i then 1 else 0) else 0
def bcol (m:Nat) (t0:Tb) (i:Nat):Rat:=if i<m then t0.bd i else 0
def detT (m:Nat) (t0 t:Tb):Rat:=det (t.basic.map (tcol m t0)) (List.range m)
structure Run (n m:Nat) (t0 t:Tb):Prop where
 wf0:t0.WF n m
 wf:t.WF n m
 nd:(t0.basic++t0.free).Nodup
 perm:(t.basic++t.free).Perm (t0.basic++t0.free)
 sol:∀x z,t.holds n m x z↔t0.holds n m x z
 dt:detT m t0 t≠0
theorem Run.nd1 (h:Run n m t0 t):(t.basic++t.free).Nodup:=h.perm.symm.nodup h.nd
theorem Run.refl (h:t0.WF n m) (hn:(t0.basic++t0.free).Nodup):Run n m t0 t0:=by
 refine⟨h,h,hn,List.Perm.refl _,fun _ _=>Iff.rfl,?_⟩
 have e:t0.basic.map (tcol m t0)=(List.range m).map unitC:=by
  refine List.ext_getElem (by simp[h.basic]) fun i h1 h2=>?_
  simp only[List.getElem_map,List.getElem_range]
  have hi:i<m:=by simpa using h2
  have hb:t0.basic[i]'(by simpa using h1)=t0.bv i:=by unfold Tb.bv;rw[nthD_eq (by simpa using h1)]
  rw[hb]
  funext k
  have e2:t0.basic.idxOf (t0.bv i)=i:=idx_nth (List.nodup_append.1 hn).1 (by simpa using h1)
  unfold tcol unitC
  rw[if_neg (bv_not h hn hi),e2]
  by_cases hk:k<m
  ·rw[if_pos hk]
   by_cases hik:i=k
   ·rw[if_pos hik,if_pos hik.symm]
   ·rw[if_neg hik,if_neg (fun h=>hik h.symm)]
  ·rw[if_neg hk,if_neg (by omega)]
 unfold detT
 rw[e,det_unit List.nodup_range]
 grind
theorem Run.rows (h:Run n m t0 t) {x:Int→Rat} {z:Rat} (hx:t.holds n m x z) {i:Nat}:sumQ m (fun k=>tcol m t0 (t.bv k) i*x (t.bv k))+sumQ n (fun j=>tcol m t0 (t.fv j) i*x (t.fv j))=bcol m t0 i:=by
 have key:∀t:Tb,t.WF n m→sumL (fun v=>tcol m t0 v i*x v) (t.basic++t.free)=sumQ m (fun k=>tcol m t0 (t.bv k) i*x (t.bv k))+sumQ n (fun j=>tcol m t0 (t.fv j) i*x (t.fv j)):=fun t ht=>by
  rw[sumL_app,sumL_eq,sumL_eq,ht.basic,ht.free]
  rfl
 rw[←key t h.wf,sumL_perm h.perm,key t0 h.wf0]
 have h0:=(h.sol x z).1 hx
 unfold bcol
 by_cases hi:i<m
 ·rw[if_pos hi,←h0.1 i hi]
  congr 1
  ·have e:sumQ m (fun k=>tcol m t0 (t0.bv k) i*x (t0.bv k))=sumQ m fun k=>if k=i then x (t0.bv i) else 0:=sumQ_congr fun k hk=>by
    have e2:t0.basic.idxOf (t0.bv k)=k:=idx_nth (List.nodup_append.1 h.nd).1 (by rw[h.wf0.basic];exact hk)
    unfold tcol
    rw[if_pos hi,if_neg (bv_not h.wf0 h.nd hk),e2]
    split
    ·rename_i e;subst e;grind
    ·grind
   rw[e,sumQ_one,if_pos hi]
  ·refine sumQ_congr fun j hj=>?_
   have hl:j<t0.free.length:=by rw[h.wf0.free];exact hj
   unfold tcol
   rw[if_pos hi,if_pos (by unfold Tb.fv;rw[nthD_eq hl];exact List.getElem_mem hl)]
   have e2:t0.free.idxOf (t0.fv j)=j:=idx_nth (List.nodup_append.1 h.nd).2.1 hl
   rw[e2]
 ·rw[if_neg hi]
  have e:∀v,tcol m t0 v i=0:=fun v=>by unfold tcol;rw[if_neg hi]
  simp only[e]
  rw[sumQ_congr (g:=fun _=>0) fun k _=>by grind,sumQ_zero,sumQ_congr (g:=fun _=>0) fun k _=>by grind,sumQ_zero]
  grind
theorem Run.bsum (h:Run n m t0 t):bcol m t0=fun i=>sumQ m fun k=>t.bd k*tcol m t0 (t.bv k) i:=by
 funext i
 have h1:=h.rows (i:=i) (asg_holds h.wf h.nd1 (y:=fun _=>0))
 rw[←h1,sumQ_congr (n:=n) (g:=fun _=>0) fun j hj=>by rw[asg_free h.wf h.nd1 hj];grind,sumQ_zero,sumQ_congr (n:=m) (g:=fun k=>t.bd k*tcol m t0 (t.bv k) i) fun k hk=>by
  rw[asg_basic h.wf h.nd1 hk,sumQ_congr (g:=fun _=>0) fun j _=>by grind,sumQ_zero]
  grind]
 grind
theorem Run.csum (h:Run n m t0 t) {c:Nat} (hc:c<n):tcol m t0 (t.fv c)=fun i=>sumQ m fun k=>t.cf k c*tcol m t0 (t.bv k) i:=by
 funext i
 have h0:=congrFun h.bsum i
 have h1:=h.rows (i:=i) (asg_holds h.wf h.nd1 (y:=fun j=>if j=c then 1 else 0))
 rw[sumQ_congr (n:=n) (g:=fun j=>if j=c then tcol m t0 (t.fv c) i else 0) fun j hj=>by
  rw[asg_free h.wf h.nd1 hj]
  split
  ·rename_i e;subst e;grind
  ·grind,sumQ_one,if_pos hc,sumQ_congr (n:=m) (g:=fun k=>t.bd k*tcol m t0 (t.bv k) i+(-1)*(t.cf k c*tcol m t0 (t.bv k) i)) fun k hk=>by
   rw[asg_basic h.wf h.nd1 hk,sumQ_congr (g:=fun j=>if j=c then t.cf k c else 0) fun j _=>by
    split
    ·rename_i e;subst e;grind
    ·grind,sumQ_one,if_pos hc]
   grind,sumQ_add,sumQ_mul] at h1
 grind
theorem getD_map {l:List Int} {f:Int→Nat→Rat} {k:Nat} (h:k<l.length):(l.map f).getD k (fun _=>0)=f (nthD l k 0):=by
 rw[nthD_eq h]
 simp[List.getD,h]
theorem Run.cram (h:Run n m t0 t) {y:Nat→Rat} {r:Nat} (hr:r<m):det ((t.basic.map (tcol m t0)).set r fun i=>sumQ m fun k=>y k*tcol m t0 (t.bv k) i) (List.range m)=y r*detT m t0 t:=by
 have hl:(t.basic.map (tcol m t0)).length=m:=by rw[List.length_map,h.wf.basic]
 have h1:=@cramer (t.basic.map (tcol m t0)) (List.range m) y r (by rw[hl];exact hr)
 unfold detT
 rw[←h1,hl]
 congr 2
 funext i
 refine sumQ_congr fun k hk=>?_
 rw[getD_map (by rw[h.wf.basic];exact hk)]
 rfl
theorem Run.cramC (h:Run n m t0 t) {r c:Nat} (hr:r<m) (hc:c<n):det ((t.basic.map (tcol m t0)).set r (tcol m t0 (t.fv c))) (List.range m)=t.cf r c*detT m t0 t:=by
 rw[h.csum hc]
 exact h.cram (y:=fun k=>t.cf k c) hr
theorem Run.cramB (h:Run n m t0 t) {r:Nat} (hr:r<m):det ((t.basic.map (tcol m t0)).set r (bcol m t0)) (List.range m)=t.bd r*detT m t0 t:=by
 rw[h.bsum]
 exact h.cram (y:=t.bd) hr
theorem set_perm {l:List Int} {r:Nat} {x:Int} (hr:r<l.length):(l.set r x).Perm (x::(l.take r++l.drop (r+1))):=by
 rw[List.set_eq_take_append_cons_drop,if_pos hr]
 exact List.perm_middle
theorem get_perm {l:List Int} {r:Nat} (hr:r<l.length):(l[r]::(l.take r++l.drop (r+1))).Perm l:=by
 have h:=@set_perm l r l[r] hr
 rw[List.set_getElem_self] at h
 exact h.symm
theorem swap_perm {l k:List Int} {r c:Nat} (hr:r<l.length) (hc:c<k.length):(l.set r (nthD k c 0)++k.set c (nthD l r 0)).Perm (l++k):=by
 rw[nthD_eq hr,nthD_eq hc]
 refine((set_perm hr).append (set_perm hc)).trans ?_
 refine List.Perm.trans ?_ ((get_perm hr).append (get_perm hc))
 simp only[List.cons_append]
 refine(List.Perm.cons _ List.perm_middle).trans ?_
 refine(List.Perm.swap _ _ _).trans ?_
 exact(List.Perm.cons _ List.perm_middle.symm)
theorem Run.piv (h:Run n m t0 t) {r c:Nat} (hr:r<m) (hc:c<n) (ha:t.cf r c≠0):Run n m t0 (pivT t r c) where
 wf0:=h.wf0
 wf:=piv_wf h.wf
 nd:=h.nd
 perm:=(swap_perm (by rw[h.wf.basic];exact hr) (by rw[h.wf.free];exact hc)).trans h.perm
 sol x z:=(piv_holds h.wf hr hc ha).trans (h.sol x z)
 dt:=by
  have e:detT m t0 (pivT t r c)=t.cf r c*detT m t0 t:=by
   rw[←h.cramC hr hc]
   unfold detT
   congr 1
   show(t.basic.set r (t.fv c)).map (tcol m t0)=_
   rw[List.map_set]
  rw[e]
  have:=h.dt
  grind
theorem tcol_Z {M:Nat} (hM:1≤M) (h0:∀i j,i<m→j<n→isZ M (t0.cf i j)) (hw:t0.WF n m) {v:Int} {i:Nat}:isZ M (tcol m t0 v i):=by
 unfold tcol
 split
 ·split
  ·rename_i hi hv
   exact h0 _ _ hi (by rw[←hw.free];exact List.idxOf_lt_length_of_mem hv)
  ·split
   ·exact⟨1,by simp,by simpa using hM⟩
   ·exact⟨0,by simp,by simp⟩
 ·exact⟨0,by simp,by simp⟩
theorem mem_set {C:List (Nat→Rat)} {r:Nat} {c d:Nat→Rat} (h:d∈C.set r c):d∈C∨d=c:=List.mem_or_eq_of_mem_set h
theorem Run.detZ (h:Run n m t0 t) {M:Nat} (hM:1≤M) (h0:∀i j,i<m→j<n→isZ M (t0.cf i j)):isZ (facP M m) (detT m t0 t):=by
 have:=@det_bd M (t.basic.map (tcol m t0)) (List.range m) (by simp[h.wf.basic]) fun d hd i _=>by
  obtain⟨v,_,rfl⟩:=List.mem_map.1 hd
  exact tcol_Z hM h0 h.wf0
 rwa [List.length_range] at this
theorem Run.cfZ (h:Run n m t0 t) {M:Nat} (hM:1≤M) (h0:∀i j,i<m→j<n→isZ M (t0.cf i j)) {r c:Nat} (hr:r<m) (hc:c<n):isZ (facP M m) (t.cf r c*detT m t0 t):=by
 rw[←h.cramC hr hc]
 have:=@det_bd M ((t.basic.map (tcol m t0)).set r (tcol m t0 (t.fv c))) (List.range m) (by simp[h.wf.basic]) fun d hd i _=>by
  rcases mem_set hd with hd|rfl
  ·obtain⟨v,_,rfl⟩:=List.mem_map.1 hd
   exact tcol_Z hM h0 h.wf0
  ·exact tcol_Z hM h0 h.wf0
 rwa [List.length_range] at this
theorem Run.bdZ (h:Run n m t0 t) {M:Nat} (hM:1≤M) (h0:∀i j,i<m→j<n→isZ M (t0.cf i j)) (hb:∀i,i<m→isZ M (t0.bd i)) {r:Nat} (hr:r<m):isZ (facP M m) (t.bd r*detT m t0 t):=by
 rw[←h.cramB hr]
 have:=@det_bd M ((t.basic.map (tcol m t0)).set r (bcol m t0)) (List.range m) (by simp[h.wf.basic]) fun d hd i hi=>by
  rcases mem_set hd with hd|rfl
  ·obtain⟨v,_,rfl⟩:=List.mem_map.1 hd
   exact tcol_Z hM h0 h.wf0
  ·unfold bcol
   rw[if_pos (List.mem_range.1 hi)]
   exact hb i (List.mem_range.1 hi)
 rwa [List.length_range] at this
end
structure Piv (n m:Nat) (t:Tb) (r c:Nat):Prop where
 hr:r<m
 hc:c<n
 cost:0<t.cs c
 least:∀j,j<n→0<t.cs j→t.fv c≤t.fv j
 pos:0<t.cf r c
 ratio:∀i,i<m→0<t.cf i c→t.bd r / t.cf r c<t.bd i / t.cf i c∨(t.bd r / t.cf r c=t.bd i / t.cf i c∧t.bv r≤t.bv i)
def feasT (m:Nat) (t:Tb):Prop:=∀i,i<m→0≤t.bd i
section
variable {n m:Nat} {t t0:Tb} {r c:Nat}
theorem rat_le_lt (a b:Rat):a≤b∨b<a:=(Classical.em (a≤b)).imp id Rat.not_le.1
theorem div_mul {a b:Rat} (h:0<b):a / b*b=a:=by
 have:b≠0:=by grind
 grind
theorem inv_pos {b:Rat} (h:0<b):0<1 / b:=by
 have h1:(1 / b)*b=1:=div_mul h
 rcases rat_le_lt (1 / b) 0 with h2|h2
 ·exfalso
  have h3:0≤(-(1 / b))*b:=Rat.mul_nonneg (by grind) (by grind)
  grind
 ·exact h2
theorem div_nonneg {a b:Rat} (ha:0≤a) (h:0<b):0≤a / b:=by
 have h1:a / b=a*(1 / b):=by grind
 rw[h1]
 exact Rat.mul_nonneg ha (by have:=inv_pos h;grind)
theorem Piv.ge (h:Piv n m t r c) (hf:feasT m t):0≤t.bd r / t.cf r c:=div_nonneg (hf r h.hr) h.pos
theorem Piv.feas (h:Piv n m t r c) (hw:t.WF n m) (hf:feasT m t):feasT m (pivT t r c):=by
 intro i hi
 have hq:=h.ge hf
 have e:t.bd r*(1 / t.cf r c)=t.bd r / t.cf r c:=by grind
 rw[piv_bd hw hi,e]
 split
 ·exact hq
 ·rcases rat_le_lt (t.cf i c) 0 with h1|h1
  ·have h2:0≤(-(t.cf i c))*(t.bd r / t.cf r c):=Rat.mul_nonneg (by grind) hq
   have:=hf i hi
   grind
  ·have h2:t.bd r / t.cf r c≤t.bd i / t.cf i c:=by
    rcases h.ratio i hi h1 with h3|h3
    ·grind
    ·grind
   have h3:0≤t.cf i c*(t.bd i / t.cf i c - t.bd r / t.cf r c):=Rat.mul_nonneg (by grind) (by grind)
   have h4:=@div_mul (t.bd i) _ h1
   grind
theorem Piv.value:(pivT t r c).value=t.value+t.cs c*(t.bd r / t.cf r c):=by
 show t.value+t.cs c*(t.bd r*(1 / t.cf r c))=_
 grind
theorem pigeon {α:Type}:∀(L:List α) (f:Nat→α),(∀k,f k∈L)→∃i j,i<j∧f i=f j
 |[],f,h=>by have:=h 0;simp at this
 |a::L,f,h=>by
  by_cases h1:∃i,f i=a
  ·obtain⟨i,hi⟩:=h1
   by_cases h2:∃j,i<j∧f j=a
   ·obtain⟨j,hj,hja⟩:=h2
    exact⟨i,j,hj,by rw[hi,hja]⟩
   ·obtain⟨x,y,hxy,he⟩:=pigeon L (fun k=>f (k+i+1)) fun k=>by
     rcases List.mem_cons.1 (h (k+i+1)) with h3|h3
     ·exact absurd ⟨_,by omega,h3⟩ h2
     ·exact h3
    exact⟨x+i+1,y+i+1,by omega,he⟩
  ·exact pigeon L f fun k=>by
    rcases List.mem_cons.1 (h k) with h3|h3
    ·exact absurd ⟨k,h3⟩ h1
    ·exact h3
def allL (V:List Int):Nat→List (List Int)
 |0=>[[]]
 |k+1=>(allL V k).flatMap fun l=>V.map fun v=>v::l
theorem allL_mem {V:List Int}:∀{l:List Int},(∀v∈l,v∈V)→l∈allL V l.length
 |[],_=>by simp[allL]
 |x::l,h=>by
  simp only[List.length_cons,allL,List.mem_flatMap,List.mem_map]
  exact⟨l,allL_mem fun v hv=>h v (by simp[hv]),x,h x (by simp),rfl⟩
theorem set_mem {l:List Int} {r:Nat} {x v:Int} (hr:r<l.length) (hn:l.Nodup):v∈l.set r x↔v=x∨(v∈l∧v≠nthD l r 0):=by
 rw[(set_perm hr).mem_iff,List.mem_cons,nthD_eq hr]
 have h1:=(get_perm hr).symm.nodup hn
 rw[List.nodup_cons] at h1
 have h2:v∈l↔v=l[r]∨v∈l.take r++l.drop (r+1):=by rw[←(get_perm hr).mem_iff,List.mem_cons]
 rw[h2]
 constructor
 ·rintro(h|h)
  ·exact .inl h
  ·exact .inr ⟨.inr h,fun e=>h1.1 (e▸h)⟩
 ·rintro(h|⟨h|h,h3⟩)
  ·exact .inl h
  ·exact absurd h h3
  ·exact .inr h
theorem max_in {f:Nat→Int} {i:Nat}:∀{d:Nat},∃k,(i≤k∧k≤i+d)∧∀x,i≤x→x≤i+d→f x≤f k
 |0=>⟨i,by omega,fun x h1 h2=>by rw[show x=i by omega];exact Int.le_refl _⟩
 |d+1=>by
  obtain⟨k,h1,h2⟩:=@max_in f i d
  by_cases h:f k≤f (i+(d+1))
  ·refine⟨i+(d+1),by omega,fun x h3 h4=>?_⟩
   by_cases h5:x≤i+d
   ·have:=h2 x h3 h5;omega
   ·rw[show x=i+(d+1) by omega];exact Int.le_refl _
  ·refine⟨k,by omega,fun x h3 h4=>?_⟩
   by_cases h5:x≤i+d
   ·exact h2 x h3 h5
   ·rw[show x=i+(d+1) by omega];omega
theorem sumQ_pos:∀{n:Nat} {f:Nat→Rat},0<sumQ n f→∃j,j<n∧0<f j
 |0,f,h=>by simp only[sumQ] at h;grind
 |n+1,f,h=>by
  rcases rat_le_lt (f n) 0 with h1|h1
  ·obtain⟨j,hj,h2⟩:=@sumQ_pos n f (by simp only[sumQ] at h;grind)
   exact⟨j,by omega,h2⟩
  ·exact⟨n,by omega,h1⟩
theorem fv_mem (h:t.WF n m) {j:Nat} (hj:j<n):t.fv j∈t.free:=by
 have hl:j<t.free.length:=by rw[h.free];exact hj
 unfold Tb.fv;rw[nthD_eq hl];exact List.getElem_mem hl
theorem bv_mem (h:t.WF n m) {j:Nat} (hj:j<m):t.bv j∈t.basic:=by
 have hl:j<t.basic.length:=by rw[h.basic];exact hj
 unfold Tb.bv;rw[nthD_eq hl];exact List.getElem_mem hl
theorem fv_of (h:t.WF n m) {v:Int} (hv:v∈t.free):∃j,j<n∧t.fv j=v:=by
 obtain⟨j,hj,rfl⟩:=List.getElem_of_mem hv
 exact⟨j,by rw[←h.free];exact hj,by unfold Tb.fv;rw[nthD_eq hj]⟩
theorem bv_of (h:t.WF n m) {v:Int} (hv:v∈t.basic):∃j,j<m∧t.bv j=v:=by
 obtain⟨j,hj,rfl⟩:=List.getElem_of_mem hv
 exact⟨j,by rw[←h.basic];exact hj,by unfold Tb.bv;rw[nthD_eq hj]⟩
theorem not_both (hn:(t.basic++t.free).Nodup) {v:Int} (h1:v∈t.basic) (h2:v∈t.free):False:=(List.nodup_append.1 hn).2.2 _ h1 _ h2 rfl
theorem bv_inj (h:t.WF n m) (hn:(t.basic++t.free).Nodup) {i j:Nat} (hi:i<m) (hj:j<m) (e:t.bv i=t.bv j):i=j:=by
 have a:=idx_nth (List.nodup_append.1 hn).1 (show i<t.basic.length by rw[h.basic];exact hi)
 have b:=idx_nth (List.nodup_append.1 hn).1 (show j<t.basic.length by rw[h.basic];exact hj)
 unfold Tb.bv at e
 rw[e,b] at a
 exact a.symm
theorem fv_inj (h:t.WF n m) (hn:(t.basic++t.free).Nodup) {i j:Nat} (hi:i<n) (hj:j<n) (e:t.fv i=t.fv j):i=j:=by
 have a:=idx_nth (List.nodup_append.1 hn).2.1 (show i<t.free.length by rw[h.free];exact hi)
 have b:=idx_nth (List.nodup_append.1 hn).2.1 (show j<t.free.length by rw[h.free];exact hj)
 unfold Tb.fv at e
 rw[e,b] at a
 exact a.symm
theorem bland_cycle {T:Nat→Tb} {r c:Nat→Nat} (hR:∀k,Run n m t0 (T k)) (hF:∀k,feasT m (T k)) (hP:∀k,Piv n m (T k) (r k) (c k)) (hT:∀k,T (k+1)=pivT (T k) (r k) (c k)) {i j:Nat} (hij:i<j) (hb:(T i).basic=(T j).basic) (hf:(T i).free=(T j).free):False:=by
 have hv0:(T i).value=(T j).value:=by
  have h1:=((hR j).sol _ _).2 (((hR i).sol _ _).1 (asg_holds (hR i).wf (hR i).nd1 (y:=fun _=>0)))
  have e1:sumQ n (fun k=>(T i).cs k*(fun _=>(0:Rat)) k)=0:=by rw[sumQ_congr (g:=fun _=>0) fun k _=>by grind,sumQ_zero]
  have e2:sumQ n (fun k=>(T j).cs k*asg n (T i) (fun _=>0) ((T j).fv k))=0:=by
   rw[sumQ_congr (g:=fun _=>0) fun k hk=>by
    have:(T j).fv k=(T i).fv k:=by unfold Tb.fv;rw[hf]
    rw[this,asg_free (hR i).wf (hR i).nd1 hk]
    grind,sumQ_zero]
  have h2:=h1.2
  rw[e1,e2] at h2
  grind
 have hmono:∀k,(T k).value≤(T (k+1)).value:=fun k=>by
  rw[hT k,Piv.value]
  have:=Rat.mul_nonneg (a:=(T k).cs (c k)) (by have:=(hP k).cost;grind) ((hP k).ge (hF k))
  grind
 have hm2:∀d a,(T a).value≤(T (a+d)).value:=fun d=>by
  induction d with
  |zero=>intro a;simp
  |succ d ih=>intro a;have h1:=ih a;have h2:=hmono (a+d);rw[show a+(d+1)=a+d+1 by omega];grind
 have hdeg:∀k,i≤k→k<j→(T k).bd (r k)=0:=fun k h1 h2=>by
  have a1:=hm2 (k - i) i
  have a2:=hm2 (j - (k+1)) (k+1)
  rw[show i+(k - i)=k by omega] at a1
  rw[show k+1+(j - (k+1))=j by omega] at a2
  have a3:=hmono k
  rw[hT k] at a2 a3
  rw[Piv.value] at a2 a3
  have h3:=(hP k).ge (hF k)
  have hc:=(hP k).cost
  have h4:=@div_mul ((T k).bd (r k)) _ (hP k).pos
  have h5:(T k).cs (c k)*((T k).bd (r k) / (T k).cf (r k) (c k))=0:=by grind
  rcases Rat.mul_eq_zero.1 h5 with h6|h6
  ·grind
  ·rw[h6] at h4;grind
 have hA1:∀k,i≤k→k<j→∀v,v∈(T k).basic++(T k).free→asg n (T (k+1)) (fun _=>0) v=asg n (T k) (fun _=>0) v:=fun k h1 h2 v hv=>by
  have hw:=(hR k).wf
  have hw':=(hR (k+1)).wf
  have hx:=((hR (k+1)).sol _ _).2 (((hR k).sol _ _).1 (asg_holds hw (hR k).nd1 (y:=fun _=>0)))
  have hz:∀q,q<n→asg n (T k) (fun _=>0) ((T (k+1)).fv q)=0:=fun q hq=>by
   rw[hT k,piv_fv hw (hP k).hc]
   split
   ·rw[asg_basic hw (hR k).nd1 (hP k).hr,hdeg k h1 h2,sumQ_congr (g:=fun _=>0) fun j _=>by grind,sumQ_zero]
    grind
   ·rw[asg_free hw (hR k).nd1 hq]
  have hv':v∈(T (k+1)).basic++(T (k+1)).free:=((hR (k+1)).perm.trans (hR k).perm.symm).mem_iff.2 hv
  rcases List.mem_append.1 hv' with hv'|hv'
  ·obtain⟨q,hq,rfl⟩:=bv_of hw' hv'
   have:=hx.1 q hq
   rw[sumQ_congr (g:=fun _=>0) fun j hj=>by rw[hz j hj];grind,sumQ_zero] at this
   rw[asg_basic hw' (hR (k+1)).nd1 hq,sumQ_congr (g:=fun _=>0) fun j _=>by grind,sumQ_zero]
   grind
  ·obtain⟨q,hq,rfl⟩:=fv_of hw' hv'
   rw[hz q hq,asg_free hw' (hR (k+1)).nd1 hq]
 have hmem:∀a b v,v∈(T a).basic++(T a).free→v∈(T b).basic++(T b).free:=fun a b v hv=>((hR b).perm.trans (hR a).perm.symm).mem_iff.2 hv
 have hA2:∀d a,i≤a→a+d≤j→∀v,v∈(T a).basic++(T a).free→asg n (T (a+d)) (fun _=>0) v=asg n (T a) (fun _=>0) v:=fun d=>by
  induction d with
  |zero=>intro a _ _ v _;rfl
  |succ d ih=>
   intro a h1 h2 v hv
   rw[←ih a h1 (by omega) v hv]
   exact hA1 (a+d) (by omega) (by omega) v (hmem _ _ v hv)
 have hA:∀a b,i≤a→a≤j→i≤b→b≤j→∀v,v∈(T a).basic++(T a).free→asg n (T a) (fun _=>0) v=asg n (T b) (fun _=>0) v:=fun a b h1 h2 h3 h4 v hv=>by
  have e1:=hA2 (a - i) i (by omega) (by omega) v (hmem _ _ v hv)
  have e2:=hA2 (b - i) i (by omega) (by omega) v (hmem _ _ v hv)
  rw[show i+(a - i)=a by omega] at e1
  rw[show i+(b - i)=b by omega] at e2
  rw[e1,e2]
 have hst:∀k v,v∈(T (k+1)).basic↔v=(T k).fv (c k)∨(v∈(T k).basic∧v≠(T k).bv (r k)):=fun k v=>by
  rw[hT k]
  exact set_mem (by rw[(hR k).wf.basic];exact(hP k).hr) (List.nodup_append.1 (hR k).nd1).1
 have lemA:∀v a b,i≤a→a≤j→i≤b→b≤j→v∈(T a).basic→v∉(T b).basic→∃k,i≤k∧k<j∧(T k).fv (c k)=v:=fun v a b a1 a2 b1 b2 ha hbn=>by
  apply Classical.byContradiction
  intro hno
  have down:∀d x,i≤x→x+d≤j→v∈(T (x+d)).basic→v∈(T x).basic:=fun d=>by
   induction d with
   |zero=>intro x _ _ h;exact h
   |succ d ih=>
    intro x h1 h2 h
    refine ih x h1 (by omega) ?_
    rcases(hst (x+d) v).1 h with h3|h3
    ·exact absurd ⟨x+d,by omega,by omega,h3.symm⟩ hno
    ·exact h3.1
  have h1:=down (a - i) i (by omega) (by omega) (by rw[show i+(a - i)=a by omega];exact ha)
  rw[hb] at h1
  exact hbn (down (j - b) b (by omega) (by omega) (by rw[show b+(j - b)=j by omega];exact h1))
 obtain⟨k1,⟨k1a,k1b⟩,hmax⟩:=@max_in (fun k=>(T k).fv (c k)) i (j - 1 - i)
 have hmax':∀x,i≤x→x<j→(T x).fv (c x)≤(T k1).fv (c k1):=fun x h1 h2=>hmax x h1 (by omega)
 have hk1:k1<j:=by omega
 have htf:(T k1).fv (c k1)∈(T k1).free:=fv_mem (hR k1).wf (hP k1).hc
 have htb:(T k1).fv (c k1)∉(T k1).basic:=fun h=>not_both (hR k1).nd1 h htf
 obtain⟨k2,k2a,k2b,hl⟩:∃k2,i≤k2∧k2<j∧(T k2).bv (r k2)=(T k1).fv (c k1):=by
  apply Classical.byContradiction
  intro hno
  have up:∀d x,i≤x→x+d≤j→(T k1).fv (c k1)∈(T x).basic→(T k1).fv (c k1)∈(T (x+d)).basic:=fun d=>by
   induction d with
   |zero=>intro x _ _ h;exact h
   |succ d ih=>
    intro x h1 h2 h
    exact(hst (x+d) _).2 (.inr ⟨ih x h1 (by omega) h,fun e=>hno ⟨x+d,by omega,by omega,e.symm⟩⟩)
  have h1:=up (j - (k1+1)) (k1+1) (by omega) (by omega) ((hst k1 _).2 (.inl rfl))
  rw[show k1+1+(j - (k1+1))=j by omega,←hb] at h1
  have h2:=up (k1 - i) i (by omega) (by omega) h1
  rw[show i+(k1 - i)=k1 by omega] at h2
  exact htb h2
 have w1:=(hR k1).wf
 have w2:=(hR k2).wf
 have n1:=(hR k1).nd1
 have n2:=(hR k2).nd1
 have p1:=hP k1
 have p2:=hP k2
 have x1:=(((hR k1).sol _ _).2 (((hR k2).sol _ _).1 (asg_holds w2 n2 (y:=fun q=>if q=c k2 then 1 else 0)))).2
 have x0:=(((hR k1).sol _ _).2 (((hR k2).sol _ _).1 (asg_holds w2 n2 (y:=fun _=>0)))).2
 rw[sumQ_congr (f:=fun q=>(T k2).cs q*(fun q=>if q=c k2 then(1:Rat) else 0) q) (g:=fun q=>if q=c k2 then(T k2).cs (c k2) else 0) fun q _=>by
  by_cases hq:q=c k2
  ·simp only[hq,if_true];grind
  ·simp only[hq,if_false];grind,sumQ_one,if_pos p2.hc] at x1
 rw[sumQ_congr (f:=fun q=>(T k2).cs q*(fun _=>(0:Rat)) q) (g:=fun _=>0) fun q _=>by grind,sumQ_zero] at x0
 have hd:0<sumQ n fun q=>(T k1).cs q*(asg n (T k2) (fun q=>if q=c k2 then 1 else 0) ((T k1).fv q) - asg n (T k2) (fun _=>0) ((T k1).fv q)):=by
  rw[sumQ_congr (g:=fun q=>(T k1).cs q*asg n (T k2) (fun q=>if q=c k2 then 1 else 0) ((T k1).fv q)+(-1)*((T k1).cs q*asg n (T k2) (fun _=>0) ((T k1).fv q))) fun q _=>by grind,sumQ_add,sumQ_mul]
  have:=p2.cost
  grind
 obtain⟨q,hq,hpos⟩:=sumQ_pos hd
 have hvf:(T k1).fv q∈(T k1).free:=fv_mem w1 hq
 have hvm:=hmem k1 k2 _ (List.mem_append_right _ hvf)
 rcases List.mem_append.1 hvm with hvb|hvf2
 ·obtain⟨ρ,hρ,e⟩:=bv_of w2 hvb
  rw[←e,asg_basic w2 n2 hρ,asg_basic w2 n2 hρ,sumQ_congr (f:=fun j=>(T k2).cf ρ j*(fun q=>if q=c k2 then(1:Rat) else 0) j) (g:=fun j=>if j=c k2 then(T k2).cf ρ (c k2) else 0) (fun j _=>by
   by_cases hj:j=c k2
   ·simp only[hj,if_true];grind
   ·simp only[hj,if_false];grind),sumQ_one,if_pos p2.hc,sumQ_congr (f:=fun j=>(T k2).cf ρ j*(fun _=>(0:Rat)) j) (g:=fun _=>0) (fun j _=>by grind),sumQ_zero] at hpos
  have hpos2:0<(T k1).cs q*(-(T k2).cf ρ (c k2)):=by grind
  obtain⟨k3,k3a,k3b,h3⟩:=lemA _ k2 k1 k2a (by omega) k1a (by omega) hvb (fun h=>not_both n1 h hvf)
  have hle:(T k1).fv q≤(T k1).fv (c k1):=by rw[←h3];exact hmax' k3 k3a k3b
  rcases rat_le_lt ((T k1).cs q) 0 with hs|hs
  ·have hap:0<(T k2).cf ρ (c k2):=by
    rcases rat_le_lt ((T k2).cf ρ (c k2)) 0 with h4|h4
    ·exfalso
     have:=Rat.mul_nonneg (a:= -(T k1).cs q) (b:= -(T k2).cf ρ (c k2)) (by grind) (by grind)
     grind
    ·exact h4
   have hbz:(T k2).bd ρ=0:=by
    have h5:=hA k2 k1 k2a (by omega) k1a (by omega) ((T k1).fv q) hvm
    rw[asg_free w1 n1 hq,←e,asg_basic w2 n2 hρ,sumQ_congr (g:=fun _=>0) fun j _=>by grind,sumQ_zero] at h5
    grind
   have hrz:=hdeg k2 k2a k2b
   have hz:∀b:Rat,(0:Rat) / b=0:=fun b=>by grind
   rcases p2.ratio ρ hρ hap with h6|h6
   ·rw[hbz,hrz,hz,hz] at h6
    grind
   ·have h7:(T k1).fv (c k1)≤(T k1).fv q:=by rw[←hl,←e];exact h6.2
    have h8:=fv_inj w1 n1 hq p1.hc (by omega)
    rw[h8] at hs
    have:=p1.cost
    grind
  ·have h7:=p1.least q hq hs
   have h8:ρ=r k2:=bv_inj w2 n2 hρ p2.hr (by rw[e,hl];omega)
   rw[h8] at hpos2
   have:=Rat.mul_nonneg (a:=(T k1).cs q) (b:=(T k2).cf (r k2) (c k2)) (by grind) (by have:=p2.pos;grind)
   grind
 ·obtain⟨q2,hq2,e⟩:=fv_of w2 hvf2
  rw[←e,asg_free w2 n2 hq2,asg_free w2 n2 hq2] at hpos
  by_cases h5:q2=c k2
  ·rw[if_pos h5] at hpos
   have h6:=p1.least q hq (by grind)
   have h7:=hmax' k2 k2a k2b
   rw[h5] at e
   have h8:(T k1).fv (c k1)=(T k2).fv (c k2):=by omega
   exact not_both n2 (bv_mem w2 p2.hr) (by rw[hl,h8];exact fv_mem w2 p2.hc)
  ·rw[if_neg h5] at hpos
   grind
end
def entN (t:Tb):Nat→Int
 |0=> -1
 |k+1=>if 0<t.cs k∧(entN t k<0∨t.fv k<t.fv (entN t k).toNat) then(k:Int) else entN t k
def levN (t:Tb) (c:Nat):Nat→Int
 |0=> -1
 |k+1=>if t.cf k c≤0 then levN t c k
  else if 0≤levN t c k∧(t.bd (levN t c k).toNat / t.cf (levN t c k).toNat c<t.bd k / t.cf k c∨(t.bd k / t.cf k c=t.bd (levN t c k).toNat / t.cf (levN t c k).toNat c∧t.bv (levN t c k).toNat<t.bv k)) then levN t c k
  else(k:Int)
section
variable {n m:Nat} {t t0:Tb} {r c:Nat}
theorem ent_ok:∀{k:Nat},(entN t k= -1∧∀j,j<k→¬0<t.cs j)∨(∃b:Nat,entN t k=b∧b<k∧0<t.cs b∧∀j,j<k→0<t.cs j→t.fv b≤t.fv j)
 |0=> .inl ⟨rfl,fun j h=>by omega⟩
 |k+1=>by
  unfold entN
  rcases @ent_ok k with⟨h1,h2⟩|⟨b,h1,h2,h3,h4⟩
  ·by_cases hk:0<t.cs k
   ·rw[if_pos ⟨hk,.inl (by omega)⟩]
    refine .inr ⟨k,rfl,by omega,hk,fun j hj hc=>?_⟩
    by_cases hjk:j=k
    ·subst hjk;exact Int.le_refl _
    ·exact absurd hc (h2 j (by omega))
   ·rw[if_neg fun h=>hk h.1]
    refine .inl ⟨h1,fun j hj=>?_⟩
    by_cases hjk:j=k
    ·subst hjk;exact hk
    ·exact h2 j (by omega)
  ·have hb:(entN t k).toNat=b:=by omega
   by_cases hk:0<t.cs k∧(entN t k<0∨t.fv k<t.fv (entN t k).toNat)
   ·rw[if_pos hk]
    have h5:t.fv k<t.fv b:=by
     rcases hk.2 with h|h
     ·omega
     ·rwa [hb] at h
    refine .inr ⟨k,rfl,by omega,hk.1,fun j hj hc=>?_⟩
    by_cases hjk:j=k
    ·subst hjk;exact Int.le_refl _
    ·have:=h4 j (by omega) hc;omega
   ·rw[if_neg hk]
    refine .inr ⟨b,h1,by omega,h3,fun j hj hc=>?_⟩
    by_cases hjk:j=k
    ·subst hjk
     rw[hb] at hk
     have:¬t.fv j<t.fv b:=fun h=>hk ⟨hc,.inr h⟩
     omega
    ·exact h4 j (by omega) hc
theorem lev_ok {c:Nat}:∀{k:Nat},(levN t c k= -1∧∀j,j<k→t.cf j c≤0)∨(∃b:Nat,levN t c k=b∧b<k∧0<t.cf b c∧∀j,j<k→0<t.cf j c→t.bd b / t.cf b c<t.bd j / t.cf j c∨(t.bd b / t.cf b c=t.bd j / t.cf j c∧t.bv b≤t.bv j))
 |0=> .inl ⟨rfl,fun j h=>by omega⟩
 |k+1=>by
  unfold levN
  by_cases hk:t.cf k c≤0
  ·rw[if_pos hk]
   rcases @lev_ok c k with⟨h1,h2⟩|⟨b,h1,h2,h3,h4⟩
   ·refine .inl ⟨h1,fun j hj=>?_⟩
    by_cases hjk:j=k
    ·subst hjk;exact hk
    ·exact h2 j (by omega)
   ·refine .inr ⟨b,h1,by omega,h3,fun j hj hc=>?_⟩
    by_cases hjk:j=k
    ·subst hjk;grind
    ·exact h4 j (by omega) hc
  ·rw[if_neg hk]
   have hk0:0<t.cf k c:=Rat.not_le.1 hk
   rcases @lev_ok c k with⟨h1,h2⟩|⟨b,h1,h2,h3,h4⟩
   ·rw[if_neg fun h=>by omega]
    refine .inr ⟨k,rfl,by omega,hk0,fun j hj hc=>?_⟩
    by_cases hjk:j=k
    ·subst hjk;exact .inr ⟨rfl,Int.le_refl _⟩
    ·have:=h2 j (by omega);grind
   ·have hb:(levN t c k).toNat=b:=by omega
    rw[hb]
    by_cases hx:0≤levN t c k∧(t.bd b / t.cf b c<t.bd k / t.cf k c∨(t.bd k / t.cf k c=t.bd b / t.cf b c∧t.bv b<t.bv k))
    ·rw[if_pos hx]
     refine .inr ⟨b,h1,by omega,h3,fun j hj hc=>?_⟩
     by_cases hjk:j=k
     ·subst hjk
      rcases hx.2 with h|h
      ·exact .inl h
      ·exact .inr ⟨h.1.symm,by omega⟩
     ·exact h4 j (by omega) hc
    ·rw[if_neg hx]
     have hx1:¬t.bd b / t.cf b c<t.bd k / t.cf k c:=fun h=>hx ⟨by omega,.inl h⟩
     have hx2:t.bd k / t.cf k c=t.bd b / t.cf b c→¬t.bv b<t.bv k:=fun h h2=>hx ⟨by omega,.inr ⟨h,h2⟩⟩
     refine .inr ⟨k,rfl,by omega,hk0,fun j hj hc=>?_⟩
     by_cases hjk:j=k
     ·subst hjk;exact .inr ⟨rfl,Int.le_refl _⟩
     ·rcases h4 j (by omega) hc with h|h
      ·exact .inl (by grind)
      ·rcases Classical.em (t.bd k / t.cf k c=t.bd b / t.cf b c) with h5|h5
       ·exact .inr ⟨by rw[h5];exact h.1,by have:=hx2 h5;omega⟩
       ·exact .inl (by grind)
end
def stepT (n m:Nat) (t:Tb):Option Tb:=
 if entN t n<0 then none
 else if levN t (entN t n).toNat m<0 then none
 else some (pivT t (levN t (entN t n).toNat m).toNat (entN t n).toNat)
def endsT (n m:Nat):Nat→Tb→Bool
 |0,t=>(stepT n m t).isNone
 |k+1,t=>match stepT n m t with
  |none=>true
  |some t'=>endsT n m k t'
def runT (n m:Nat):Nat→Tb→Tb
 |0,t=>t
 |k+1,t=>match stepT n m t with
  |none=>t
  |some t'=>runT n m k t'
def leftT (n m N:Nat) (t:Tb):Nat:=((List.range N).filter fun k=>!endsT n m k t).length
section
variable {n m:Nat} {t t0 t':Tb}
theorem step_piv (h:stepT n m t=some t'):∃r c,Piv n m t r c∧t'=pivT t r c∧entN t n=(c:Int)∧levN t c m=(r:Int):=by
 unfold stepT at h
 split at h
 ·cases h
 ·rename_i h1
  split at h
  ·cases h
  ·rename_i h2
   injection h with h
   rcases @ent_ok t n with⟨e1,_⟩|⟨c,e1,e2,e3,e4⟩
   ·omega
   ·have hc:(entN t n).toNat=c:=by omega
    rw[hc] at h h2
    rcases @lev_ok t c m with⟨l1,_⟩|⟨r,l1,l2,l3,l4⟩
    ·omega
    ·have hr:(levN t c m).toNat=r:=by omega
     rw[hr] at h
     exact⟨r,c,⟨l2,e2,e3,e4,l3,l4⟩,h.symm,e1,l1⟩
theorem step_run (hR:Run n m t0 t) (hF:feasT m t) (h:stepT n m t=some t'):Run n m t0 t'∧feasT m t':=by
 obtain⟨r,c,hp,rfl,_⟩:=step_piv h
 exact⟨hR.piv hp.hr hp.hc (by have:=hp.pos;grind),hp.feas hR.wf hF⟩
theorem ends_mono:∀{k:Nat} {t:Tb},endsT n m k t=true→endsT n m (k+1) t=true
 |0,t,h=>by
  unfold endsT
  unfold endsT at h
  rw[Option.isNone_iff_eq_none.1 h]
 |k+1,t,h=>by
  unfold endsT at h ⊢
  split
  ·rfl
  ·rename_i t' ht
   rw[ht] at h
   exact ends_mono h
theorem left_step {N:Nat} (hN:endsT n m N t=true) (h:stepT n m t=some t'):leftT n m N t'<leftT n m N t:=by
 unfold leftT
 have e:∀k,endsT n m k t'=endsT n m (k+1) t:=fun k=>by simp only[endsT,h]
 have h0:endsT n m 0 t=false:=by simp[endsT,h]
 simp only[e]
 cases N with
 |zero=>rw[h0] at hN;cases hN
 |succ N=>
  have h1:∀f:Nat→Bool,((List.range (N+1)).filter f).length=(if f 0 then 1 else 0)+((List.range N).filter fun k=>f (k+1)).length:=fun f=>by
   rw[List.range_succ_eq_map,List.filter_cons,List.filter_map,]
   split
   ·rw[List.length_cons,List.length_map];simp only[Function.comp_def,Nat.succ_eq_add_one];omega
   ·rw[List.length_map];simp only[Function.comp_def,Nat.succ_eq_add_one];omega
  rw[h1 (fun k=>!endsT n m k t),h0]
  rw[List.range_succ,List.filter_append,List.length_append]
  simp[hN]
theorem ends_step {N:Nat} (hN:endsT n m N t=true) (h:stepT n m t=some t'):endsT n m N t'=true:=by
 cases N with
 |zero=>simp[endsT,h] at hN
 |succ N=>
  simp only[endsT,h] at hN
  exact ends_mono hN
theorem bland (hR:Run n m t0 t) (hF:feasT m t):∃N,endsT n m N t=true:=by
 apply Classical.byContradiction
 intro hno
 have hne:∀N,endsT n m N t=false:=fun N=>by
  cases h:endsT n m N t with
  |false=>rfl
  |true=>exact absurd ⟨N,h⟩ hno
 let T:Nat→Tb:=fun k=>Nat.rec t (fun _ s=>(stepT n m s).getD s) k
 have hT1:∀k,T (k+1)=(stepT n m (T k)).getD (T k):=fun k=>rfl
 have hE:∀k N,endsT n m N (T k)=false:=by
  intro k
  induction k with
  |zero=>exact hne
  |succ k ih=>
   intro N
   rw[hT1]
   cases hs:stepT n m (T k) with
   |none=>have:=ih 0;simp[endsT,hs] at this
   |some t'=>
    have:=ih (N+1)
    simp only[endsT,hs] at this
    exact this
 have hS:∀k,stepT n m (T k)=some (T (k+1)):=fun k=>by
  rw[hT1]
  cases hs:stepT n m (T k) with
  |none=>have:=hE k 0;simp[endsT,hs] at this
  |some t'=>rfl
 have hRF:∀k,Run n m t0 (T k)∧feasT m (T k):=by
  intro k
  induction k with
  |zero=>exact⟨hR,hF⟩
  |succ k ih=>exact step_run ih.1 ih.2 (hS k)
 have hPP:∀k,∃p:Nat×Nat,Piv n m (T k) p.1 p.2∧T (k+1)=pivT (T k) p.1 p.2:=fun k=>by
  obtain⟨r,c,h1,h2,_⟩:=step_piv (hS k)
  exact⟨(r,c),h1,h2⟩
 let p:Nat→Nat×Nat:=fun k=>Classical.choose (hPP k)
 have hp:∀k,Piv n m (T k) (p k).1 (p k).2∧T (k+1)=pivT (T k) (p k).1 (p k).2:=fun k=>Classical.choose_spec (hPP k)
 obtain⟨i,j,hij,he⟩:=pigeon (allL (t0.basic++t0.free) (m+n)) (fun k=>(T k).basic++(T k).free) fun k=>by
  have h1:=@allL_mem (t0.basic++t0.free) ((T k).basic++(T k).free) fun v hv=>(hRF k).1.perm.mem_iff.1 hv
  rwa [List.length_append,(hRF k).1.wf.basic,(hRF k).1.wf.free] at h1
 obtain⟨e1,e2⟩:=List.append_inj he (by rw[(hRF i).1.wf.basic,(hRF j).1.wf.basic])
 exact bland_cycle (fun k=>(hRF k).1) (fun k=>(hRF k).2) (fun k=>(hp k).1) (fun k=>(hp k).2) hij e1 e2
end
open Go.Proofs.Ytoifpgeocpjneaa.Ir
open Go.Proofs
def gcdN (x y:Int):Int:=(Nat.gcd x.toNat y.toNat:Nat)
theorem gcdN_step {x y:Int} (h0:0≤x) (h1:0<y):gcdN y (x % y)=gcdN x y:=by
 unfold gcdN
 congr 1
 rw[Nat.gcd_comm x.toNat,Nat.gcd_rec y.toNat x.toNat,Nat.gcd_comm,Int.toNat_emod h0 (by omega)]
theorem gcdN_zero {x:Int} (h0:0≤x):gcdN x 0=x:=by unfold gcdN;simp;omega
theorem howN {i u v:Nat} (h:u=v):(SV.ow i u 1).same (SV.ow i v 1):=by subst h;rfl
theorem nilN {l:List Int} (h:l=[]):(SV.row (.i .i64) []).same (SV.row (.i .u32) l):=by subst h;rfl
def sbO (x y:Int):SV:=.tup [.row (.i .u32) (natL (x - y)),.sb (decide (y≤x))]
theorem natL_neg {n:Int} (h:n≤0):natL n=[]:=by
 unfold natL
 rw[show n.toNat=0 by omega]
 rfl
def r155:SCtr:=⟨73,List Int×List Int,.cons (codR (.i .u32)) (.one (codR (.i .u32))),fun a=>(Dig a.1∧Dig a.2)∧a.1.length≤100000000000∧a.2.length≤100000000000,
 fun a=>sbO (valN a.1) (valN a.2)⟩
def Λ155 (a:List Int×List Int):Nat→LoopAnn
 |7=> .inv (Int×Int×List Int) (fun x=>⟨[(0,.row (.i .u32) (trimN a.1)),(1,.row (.i .u32) (trimN a.2)),(6,.ow 0 x.2.2.length 1),(7,.si .u64 x.2.1),(22,.si .i64 (trimN a.1).length),(23,.si .i64 x.1)],[.row (.i .u32) x.2.2 110 true]⟩)
  (fun s=>(iS s 23,iS s 7,oS (.i .u32) s 0))
  (fun x=>(0≤x.1∧x.1≤(trimN a.1).length)∧(0≤x.2.1∧x.2.1≤1)∧Dig x.2.2∧x.2.2.length=(trimN a.1).length∧(∀j,x.1.toNat≤j→nthD x.2.2 j 0=0)∧
   valN x.2.2 - 4294967296^x.1.toNat*x.2.1=valN ((trimN a.1).take x.1.toNat) - valN ((trimN a.2).take x.1.toNat)) (fun x=>((trimN a.1).length - x.1).toNat) fun _ _=> .look
 |_=> .look
theorem sb_step {s t row:List Int} {i:Nat} {br d v c:Int} (hs:Dig s) (ht:Dig t) (hr:Dig row) (hl:row.length=s.length) (hz:∀j,i≤j→nthD row j 0=0)
  (hv:valN row - 4294967296^i*br=valN (s.take i) - valN (t.take i)) (hi:i<s.length) (hd:d=nthD s i 0 - br - nthD t i 0) (h0:0≤v∧v<4294967296) (hc:v - 4294967296*c=d):
  Dig (row.set i v)∧(row.set i v).length=s.length∧(∀j,i+1≤j→nthD (row.set i v) j 0=0)∧valN (row.set i v) - 4294967296^(i+1)*c=valN (s.take (i+1)) - valN (t.take (i+1)):=by
 refine⟨dig_set hr h0.1 h0.2,by simp[hl],fun j hj=>by rw[nth_set_ne (by omega)];exact hz j (by omega),?_⟩
 rw[val_set (by omega),take_snoc0,take_snoc0,hz i (Nat.le_refl _),Int.pow_succ,Int.sub_zero]
 have h1:(4294967296:Int)^i*(v - 4294967296*c)=4294967296^i*(nthD s i 0 - br - nthD t i 0):=by rw[hc,hd]
 simp only[Int.mul_sub] at h1
 rw[←Int.mul_assoc] at h1
 omega
theorem h155:Holds Try.prog r155:=by
 refine con (L:=[r152,r132]) r155 F155 Λ155 (OwnOK.none _) (by simpa using⟨h152,h132⟩) (by kernel_rfl) (by kernel_rfl) (fun _=>rfl) ?_
 rintro⟨a,b⟩ ⟨⟨ha,hb⟩,hla,hlb⟩
 simp only at ha hb hla hlb
 refine vcOf (let z0:=(trimN a).length;let z1:=decide (cmpN (valN (trimN a)) (valN (trimN b))<(0:Int));let z2:=SId.i .u32;let z3:=SV.tup [SV.row z2 (natL (valN a - valN b)),SV.sb (decide (valN b≤valN a))];let z4:=(↑(trimN a).length:Int);let z5:=List.replicate z4.toNat (0:Int);let z6:=(↑z0:Int);let z7:=SV.si .i64 z6;let z8:=SObj.row z2 z5 110 true;let z9:=(↑(trimN b).length:Int);a.length≤1000000000000∧b.length≤1000000000000∧((Dig (trimN a)∧Dig (trimN b))∧z0≤1000000000000∧(trimN b).length≤1000000000000)∧(z1=true→(SV.tup [SV.row (SId.i .i64) [],SV.bl false]).same z3)∧(z1=false→(0:Int)≤z4∧z4≤z4∧z4*(4:Int)≤(140737488355328:Int)∧z4≤(1000000000000:Int)∧((((SV.row z2 (trimN a)).same (SV.row z2 (trimN a))∧(SV.row z2 (trimN b)).same (SV.row z2 (trimN b))∧(SV.ow 0 z4.toNat 1).same (SV.ow 0 z5.length 1)∧(SV.il .u64 0).same (SV.si .u64 0)∧(SV.si .i64 z4).same z7∧(SV.il .i64 0).same (SV.si .i64 0)∧True)∧z8.same z8∧True)∧((0:Int)≤(0:Int)∧(0:Int)≤z6)∧((0:Int)≤(0:Int)∧(0:Int)≤(1:Int))∧Dig z5∧z5.length=z0∧(∀(j:Nat),0≤j→nthD z5 j (0:Int)=(0:Int))∧valN z5 - (0:Int)=(0:Int))∧∀(x:Int×Int×List Int),let z10:=x.snd.snd.length;let z11:=x.fst.toNat;let z12:=x.snd.snd.length;let z13:=x.fst+(1:Int);let z14:=SV.ow 0 z10 1;let z15:=(nthD (trimN a) z11 (0:Int) % (18446744073709551616:Int) - x.snd.fst) % (18446744073709551616:Int);let z16:=(z15 - nthD (trimN b) z11 (0:Int) % (18446744073709551616:Int)) % (18446744073709551616:Int);let z17:=x.snd.snd.set z11 (z16 % (4294967296:Int));let z18:=z16 / (9223372036854775808:Int);let z19:=SV.si .u64 z18;let z20:=SV.si .i64 z13;let z21:=SObj.row z2 z17 110 true;let z22:=z13.toNat;let z23:=(4294967296:Int)^z22;let z24:=valN (List.take z22 (trimN a)) - valN (List.take z22 (trimN b));let z25:=x.snd.snd.set z11 (z15 % (4294967296:Int));let z26:=z15 / (9223372036854775808:Int);let z27:=SV.si .u64 z26;let z28:=SObj.row z2 z25 110 true;((0:Int)≤x.fst∧x.fst≤z6)∧((0:Int)≤x.snd.fst∧x.snd.fst≤(1:Int))∧Dig x.snd.snd∧z10=z0∧(∀(j:Nat),z11≤j→nthD x.snd.snd j (0:Int)=(0:Int))∧valN x.snd.snd - (4294967296:Int)^z11*x.snd.fst=valN (List.take z11 (trimN a)) - valN (List.take z11 (trimN b))→(decide (x.fst<z6)=true→(0:Int)≤x.fst∧x.fst<z4∧z11<(trimN a).length∧(decide (x.fst<z9)=true→(0:Int)≤x.fst∧x.fst<z9∧z11<(trimN b).length∧(0:Int)≤(63:Int)∧(63:Int)≤(64:Int)∧z10=z12∧(0:Int)≤x.fst∧x.fst<(↑z12:Int)∧z10=z12∧z11<z12∧inR .i64 z13∧(((SV.row z2 (trimN a)).same (SV.row z2 (trimN a))∧(SV.row z2 (trimN b)).same (SV.row z2 (trimN b))∧z14.same (SV.ow 0 z17.length 1)∧z19.same z19∧z7.same z7∧z20.same z20∧True)∧z21.same z21∧True)∧(((0:Int)≤z13∧z13≤z6)∧((0:Int)≤z18∧z18≤(1:Int))∧Dig z17∧z17.length=z0∧(∀(j:Nat),z22≤j→nthD z17 j (0:Int)=(0:Int))∧valN z17 - z23*z18=z24)∧(z6 - z13).toNat<(z6 - x.fst).toNat)∧(decide (x.fst<z9)=false→(0:Int)≤(63:Int)∧(63:Int)≤(64:Int)∧z10=z12∧(0:Int)≤x.fst∧x.fst<(↑z12:Int)∧z10=z12∧z11<z12∧inR .i64 z13∧(((SV.row z2 (trimN a)).same (SV.row z2 (trimN a))∧(SV.row z2 (trimN b)).same (SV.row z2 (trimN b))∧z14.same (SV.ow 0 z25.length 1)∧z27.same z27∧z7.same z7∧z20.same z20∧True)∧z28.same z28∧True)∧(((0:Int)≤z13∧z13≤z6)∧((0:Int)≤z26∧z26≤(1:Int))∧Dig z25∧z25.length=z0∧(∀(j:Nat),z22≤j→nthD z25 j (0:Int)=(0:Int))∧valN z25 - z23*z26=z24)∧(z6 - z13).toNat<(z6 - x.fst).toNat))∧(decide (x.fst<z6)=false→z10=z12∧z10≤1000000000000∧(SV.tup [SV.row z2 (trimN x.snd.snd),SV.bl true]).same z3))) (by kernel_rfl) ?_
 simp only[vcs]
 obtain⟨va,na⟩:=@trim_val a
 obtain⟨vb,nb⟩:=@trim_val b
 have da:=trim_dig ha
 have db:=trim_dig hb
 have la:=@trim_len a
 have lb:=@trim_len b
 have pa:=val_nonneg da
 have pb:=val_nonneg db
 rw[←va,←vb]
 generalize trimN a=s at*
 generalize trimN b=t at*
 have hr0:∀n j,nthD (List.replicate n (0:Int)) j 0=0:=fun n j=>by
  unfold nthD
  rw[List.getElem?_replicate]
  split<;>rfl
 have hd0:∀n,Dig (List.replicate n 0):=fun n d hd=>by
  have:=List.eq_of_mem_replicate hd
  omega
 have hv0:∀n,valN (List.replicate n 0)=0:=fun n=>by
  induction n with
  |zero=>rfl
  |succ n ih=>simp only[List.replicate_succ,valN,ih];omega
 refine⟨by omega,by omega,⟨⟨da,db⟩,by omega,by omega⟩,fun hlt=>?_,fun hge=>⟨by omega,by omega,by omega,by omega,?_,?_⟩⟩
 ·have hlt2:valN s<valN t:=by unfold cmpN at hlt;split at hlt<;>(try split at hlt)<;>omega
  refine⟨nilN (natL_neg (by omega)),?_⟩
  rw[eq_comm,decide_eq_false_iff_not]
  omega
 ·repeat' refine And.intro ?_ ?_
  all_goals first|omega|exact howN (by simp)|exact hd0 _|exact fun j _=>hr0 _ j|(simp;done)|(rw[hv0];rfl)
 have hge2:valN t≤valN s:=by unfold cmpN at hge;split at hge<;>(try split at hge)<;>omega
 rintro⟨i,br,row⟩ ⟨⟨i0,i1⟩,⟨b0,b1⟩,hr,hl,hz,hv⟩
 simp only at i0 i1 b0 b1 hr hl hz hv ⊢
 refine⟨fun ilt=>?_,fun ige=>?_⟩
 ·have d1:=dig_nth da i.toNat
  have d2:=dig_nth db i.toNat
  have e:(i+1).toNat=i.toNat+1:=by omega
  refine⟨i0,ilt,by omega,fun ht=>?_,fun ht=>?_⟩
  ·generalize hq:((nthD s i.toNat 0 % 18446744073709551616 - br) % 18446744073709551616 - nthD t i.toNat 0 % 18446744073709551616) % 18446744073709551616=q
   obtain⟨k1,k2,k3,k4⟩:=sb_step (v:=q % 4294967296) (c:=q / 9223372036854775808) da db hr hl hz hv (by omega) rfl (by omega) (by omega)
   rw[e]
   repeat' refine And.intro ?_ ?_
   all_goals first|omega|exact howN (by simp)|exact k1|exact k2|exact k3|exact k4
  ·have hz2:=nth_out (a:=t) (i:=i.toNat) (by omega)
   generalize hq:(nthD s i.toNat 0 % 18446744073709551616 - br) % 18446744073709551616=q
   obtain⟨k1,k2,k3,k4⟩:=sb_step (v:=q % 4294967296) (c:=q / 9223372036854775808) da db hr hl hz hv (by omega) rfl (by omega) (by omega)
   rw[e]
   repeat' refine And.intro ?_ ?_
   all_goals first|omega|exact howN (by simp)|exact k1|exact k2|exact k3|exact k4
 ·have hi:i.toNat=s.length:=by omega
  have hlen:t.length≤s.length:=by
   by_cases h:s.length<t.length
   ·have:=len_lt da db nb h
    omega
   ·omega
  rw[hi,List.take_length,List.take_of_length_le hlen] at hv
  have hbd:=val_bdN hr
  have hp:=pow_pos s.length
  rw[hl] at hbd
  have hb0:br=0:=by
   by_cases h:br=0
   ·exact h
   ·have:br=1:=by omega
    subst this
    omega
  rw[hb0,Int.mul_zero,Int.sub_zero] at hv
  refine⟨by omega,?_,?_⟩
  ·rw[trim_eq hr,hv]
  ·rw[eq_comm,decide_eq_true_eq]
   exact hge2
theorem rep_nth {n j:Nat}:nthD (List.replicate n (0:Int)) j 0=0:=by
 unfold nthD
 rw[List.getElem?_replicate]
 split<;>rfl
theorem rep_dig {n:Nat}:Dig (List.replicate n 0):=fun d hd=>by
 have:=List.eq_of_mem_replicate hd
 omega
theorem rep_val:∀{n:Nat},valN (List.replicate n 0)=0
 |0=>rfl
 |n+1=>by simp only[List.replicate_succ,valN,@rep_val n];omega
theorem mulI_succ {o b:List Int} {x:Int} {i k:Nat}:mulI o b x i (k+1)=((mulI o b x i k).1.set (i+k) ((x*nthD b k 0+nthD (mulI o b x i k).1 (i+k) 0+(mulI o b x i k).2) % 4294967296),(x*nthD b k 0+nthD (mulI o b x i k).1 (i+k) 0+(mulI o b x i k).2) / 4294967296):=rfl
def r153:SCtr:=⟨71,List Int×List Int,.cons (codR (.i .u32)) (.one (codR (.i .u32))),fun a=>(Dig a.1∧Dig a.2)∧a.1.length≤100000000000∧a.2.length≤100000000000,
 fun a=> .row (.i .u32) (natL (valN a.1*valN a.2))⟩
def stM (a:List Int×List Int) (row:List Int):SStore:=[.row (.i .u32) row 110 true]
def Λ153 (a:List Int×List Int):Nat→LoopAnn
 |3=> .inv (Int×List Int) (fun x=>⟨[(0,.row (.i .u32) a.1),(1,.row (.i .u32) a.2),(5,.ow 0 x.2.length 1),(17,.si .i64 a.1.length),(18,.si .i64 x.1)],stM a x.2⟩)
  (fun s=>(iS s 18,oS (.i .u32) s 0))
  (fun x=>(0≤x.1∧x.1≤a.1.length)∧Dig x.2∧x.2.length=a.1.length+a.2.length∧valN x.2=valN (a.1.take x.1.toNat)*valN a.2) (fun x=>(a.1.length - x.1).toNat)
  fun x=>fun
   |7=> .inv (Int×Int×List Int) (fun y=>⟨[(0,.row (.i .u32) a.1),(1,.row (.i .u32) a.2),(5,.ow 0 y.2.2.length 1),(6,.si .i64 x.1),(7,.si .u64 y.2.1),(17,.si .i64 a.1.length),(18,.si .i64 x.1),(22,.si .i64 a.2.length),(23,.si .i64 y.1)],stM a y.2.2⟩)
    (fun s=>(iS s 23,iS s 7,oS (.i .u32) s 0))
    (fun y=>(0≤y.1∧y.1≤a.2.length)∧y.2.2=(mulI x.2 a.2 (nthD a.1 x.1.toNat 0) x.1.toNat y.1.toNat).1∧y.2.1=(mulI x.2 a.2 (nthD a.1 x.1.toNat 0) x.1.toNat y.1.toNat).2) (fun y=>(a.2.length - y.1).toNat) fun _ _=> .look
   |_=> .look
 |_=> .look
theorem h153:Holds Try.prog r153:=by
 refine con (L:=[r152]) r153 F153 Λ153 (OwnOK.none _) (by simpa using h152) (by kernel_rfl) (by kernel_rfl) (fun _=>rfl) ?_
 rintro⟨a,b⟩ ⟨⟨ha,hb⟩,hla,hlb⟩
 simp only at ha hb hla hlb
 refine vcOf (let z0:=(↑a.length:Int);let z1:=(↑b.length:Int);let z2:=z0+z1;let z3:=SId.i .u32;let z4:=List.replicate z2.toNat (0:Int);let z5:=(↑a.length:Int);let z6:=SV.si .i64 z5;let z7:=SObj.row z3 z4 110 true;let z8:=a.length+b.length;let z9:=(↑b.length:Int);let z10:=SV.si .i64 z9;inR .i64 z2∧(0:Int)≤z2∧z2≤z2∧z2*(4:Int)≤(140737488355328:Int)∧z2≤(1000000000000:Int)∧((((SV.row z3 a).same (SV.row z3 a)∧(SV.row z3 b).same (SV.row z3 b)∧(SV.ow 0 z2.toNat 1).same (SV.ow 0 z4.length 1)∧(SV.si .i64 z0).same z6∧(SV.il .i64 0).same (SV.si .i64 0)∧True)∧z7.same z7∧True)∧((0:Int)≤(0:Int)∧(0:Int)≤z5)∧Dig z4∧z4.length=z8∧valN z4=valN []*valN b)∧∀(x:Int×List Int),let z11:=x.snd.length;let z12:=x.fst.toNat;let z13:=SV.ow 0 z11 1;let z14:=SV.si .i64 x.fst;let z15:=SObj.row z3 x.snd 110 true;let z16:=nthD a z12 (0:Int);let z17:=mulI x.snd b z16 z12 0;let z18:=x.fst+(1:Int);let z19:=SV.si .i64 z18;((0:Int)≤x.fst∧x.fst≤z5)∧Dig x.snd∧z11=z8∧valN x.snd=valN (List.take z12 a)*valN b→(decide (x.fst<z5)=true→((((SV.row z3 a).same (SV.row z3 a)∧(SV.row z3 b).same (SV.row z3 b)∧z13.same z13∧z14.same z14∧(SV.il .u64 0).same (SV.si .u64 0)∧z6.same z6∧z14.same z14∧(SV.si .i64 z1).same z10∧(SV.il .i64 0).same (SV.si .i64 0)∧True)∧z15.same z15∧True)∧((0:Int)≤(0:Int)∧(0:Int)≤z9)∧x.snd=z17.fst∧(0:Int)=z17.snd)∧∀(x_1:Int×Int×List Int),let z20:=mulI x.snd b z16 z12 x_1.fst.toNat;let z21:=x.fst+x_1.fst;let z22:=x_1.snd.snd.length;let z23:=x_1.fst+(1:Int);let z24:=SV.ow 0 x_1.snd.snd.length 1;let z25:=((z16 % (18446744073709551616:Int)*(nthD b x_1.fst.toNat (0:Int) % (18446744073709551616:Int)) % (18446744073709551616:Int)+nthD x_1.snd.snd z21.toNat (0:Int) % (18446744073709551616:Int)) % (18446744073709551616:Int)+x_1.snd.fst) % (18446744073709551616:Int);let z26:=x_1.snd.snd.set z21.toNat (z25 % (4294967296:Int));let z27:=z25 / (4294967296:Int);let z28:=SV.si .u64 z27;let z29:=SV.si .i64 z23;let z30:=SObj.row z3 z26 110 true;let z31:=mulI x.snd b z16 z12 z23.toNat;let z32:=x.fst+z1;let z33:=x_1.snd.snd.set z32.toNat (x_1.snd.fst % (4294967296:Int));let z34:=SObj.row z3 z33 110 true;((0:Int)≤x_1.fst∧x_1.fst≤z9)∧x_1.snd.snd=z20.fst∧x_1.snd.fst=z20.snd→(decide (x_1.fst<z9)=true→(0:Int)≤x.fst∧x.fst<z0∧z12<a.length∧(0:Int)≤x_1.fst∧x_1.fst<z1∧x_1.fst.toNat<b.length∧inR .i64 z21∧x_1.snd.snd.length=z22∧(0:Int)≤z21∧z21<(↑z22:Int)∧x_1.snd.snd.length=z22∧z21.toNat<z22∧inR .i64 z21∧(0:Int)≤(32:Int)∧(32:Int)≤(64:Int)∧x_1.snd.snd.length=z22∧(0:Int)≤z21∧z21<(↑z22:Int)∧x_1.snd.snd.length=z22∧z21.toNat<z22∧inR .i64 z23∧(((SV.row z3 a).same (SV.row z3 a)∧(SV.row z3 b).same (SV.row z3 b)∧z24.same (SV.ow 0 z26.length 1)∧z14.same z14∧z28.same z28∧z6.same z6∧z14.same z14∧z10.same z10∧z29.same z29∧True)∧z30.same z30∧True)∧(((0:Int)≤z23∧z23≤z9)∧z26=z31.fst∧z27=z31.snd)∧(z9 - z23).toNat<(z9 - x_1.fst).toNat)∧(decide (x_1.fst<z9)=false→inR .i64 z32∧x_1.snd.snd.length=z22∧(0:Int)≤z32∧z32<(↑z22:Int)∧x_1.snd.snd.length=z22∧z32.toNat<z22∧inR .i64 z18∧(((SV.row z3 a).same (SV.row z3 a)∧(SV.row z3 b).same (SV.row z3 b)∧z24.same (SV.ow 0 z33.length 1)∧z6.same z6∧z19.same z19∧True)∧z34.same z34∧True)∧(((0:Int)≤z18∧z18≤z5)∧Dig z33∧z33.length=z8∧valN z33=valN (List.take z18.toNat a)*valN b)∧(z5 - z18).toNat<(z5 - x.fst).toNat))∧(decide (x.fst<z5)=false→z11=x.snd.length∧z11≤1000000000000∧(SV.row z3 (trimN x.snd)).same (SV.row z3 (natL (valN a*valN b))))) (by kernel_rfl) ?_
 simp only[vcs]
 refine⟨by omega,by omega,by omega,by omega,by omega,?_,?_⟩
 ·repeat' refine And.intro ?_ ?_
  all_goals first|omega|exact howN (by simp)|exact rep_dig|(simp;omega)|(rw[rep_val];simp[valN])
 rintro⟨i,row⟩ ⟨⟨i0,i1⟩,hr,hl,hv⟩
 simp only at i0 i1 hr hl hv ⊢
 refine⟨fun ilt=>⟨⟨⟨by omega,by omega⟩,rfl,rfl⟩,?_⟩,fun ige=>?_⟩
 ·rintro⟨k,c,ro⟩ ⟨⟨k0,k1⟩,e1,e2⟩
  simp only at k0 k1 e1 e2 ⊢
  have x1:=dig_nth ha i.toNat
  obtain⟨m1,m2,⟨m3,m4⟩,m5,m6⟩:=@mulI_ok row b (nthD a i.toNat 0) i.toNat hr hb x1.1 x1.2 k.toNat (by omega)
  have hp:=@mulI_succ row b (nthD a i.toNat 0) i.toNat k.toNat
  generalize mulI row b (nthD a i.toNat 0) i.toNat k.toNat=M at*
  obtain⟨p,q⟩:=M
  simp only at e1 e2 m1 m2 m3 m4 m5 m6 hp
  subst e1 e2
  have hik:(i+k).toNat=i.toNat+k.toNat:=by omega
  have hk1:(k+1).toNat=k.toNat+1:=by omega
  have hi1:(i+1).toNat=i.toNat+1:=by omega
  refine⟨fun klt=>?_,fun kge=>?_⟩
  ·have x2:=dig_nth hb k.toNat
   have x3:=dig_nth m1 (i.toNat+k.toNat)
   have hxb:0≤nthD a i.toNat 0*nthD b k.toNat 0:=Int.mul_nonneg x1.1 x2.1
   have hxb2:nthD a i.toNat 0*nthD b k.toNat 0≤4294967295*4294967295:=Int.mul_le_mul (by omega) (by omega) x2.1 (by omega)
   rw[hik,hk1,hp]
   have hq:(((nthD a i.toNat 0 % 18446744073709551616*(nthD b k.toNat 0 % 18446744073709551616) % 18446744073709551616+nthD ro (i.toNat+k.toNat) 0 % 18446744073709551616) % 18446744073709551616+c) % 18446744073709551616)=nthD a i.toNat 0*nthD b k.toNat 0+nthD ro (i.toNat+k.toNat) 0+c:=by
    rw[Int.emod_eq_of_lt (a:=nthD a i.toNat 0) (by omega) (by omega),Int.emod_eq_of_lt (a:=nthD b k.toNat 0) (by omega) (by omega)]
    omega
   rw[hq]
   repeat' refine And.intro ?_ ?_
   all_goals first|omega|exact howN (by simp)|rfl
  ·have hkl:k.toNat=b.length:=by omega
   rw[show(i+(b.length:Int)).toNat=i.toNat+b.length by omega]
   rw[hkl,List.take_length] at m6
   rw[hkl] at m5
   have hz:nthD ro (i.toNat+b.length) 0=0:=by
    rw[m5 _ (Nat.le_refl _)]
    refine nth_small hr (i:=i.toNat+b.length) ?_ (Nat.le_refl _)
    rw[hv,Int.pow_add]
    have t1:=val_bdN (dig_take ha i.toNat)
    rw[List.length_take,Nat.min_eq_left (by omega)] at t1
    have t2:=val_bdN hb
    have t3:=val_nonneg (dig_take ha i.toNat)
    have t4:=val_nonneg hb
    exact Int.lt_of_le_of_lt (Int.mul_le_mul_of_nonneg_left (Int.le_of_lt t2) t3) (Int.mul_lt_mul_of_pos_right t1 (pow_pos _))
   have hc:c % 4294967296=c:=by omega
   rw[hc,hi1]
   have hfin:valN (ro.set (i.toNat+b.length) c)=valN (a.take (i.toNat+1))*valN b:=by
    rw[val_set (by omega),hz,Int.sub_zero,m6,hv,take_snoc0,Int.add_mul,Int.mul_assoc]
   repeat' refine And.intro ?_ ?_
   all_goals first|omega|exact howN (by simp)|exact dig_set m1 m3 m4|exact hfin|(rw[List.length_set];omega)
 ·have hi:i.toNat=a.length:=by omega
  rw[hi,List.take_length] at hv
  refine⟨by omega,?_⟩
  rw[trim_eq hr,hv]
theorem or_add32 {x m:Int} {k:Nat} (x0:0≤x) (x1:x<2^k) (m0:0≤m) (hy:m*2^k<4294967296) (hx:x<4294967296):binK.orI .u32 x (m*2^k)=x+m*2^k:=by
 obtain⟨a,rfl⟩:=Int.eq_ofNat_of_zero_le x0
 obtain⟨b,rfl⟩:=Int.eq_ofNat_of_zero_le m0
 have e:((b:Int)*2^k)=((2^k*b:Nat):Int):=by rw[Nat.mul_comm];push_cast;rfl
 have x1':a<2^k:=by exact_mod_cast x1
 rw[e] at hy ⊢
 generalize hc:2^k*b=c at*
 have hy':c<4294967296:=by omega
 have hx':a<4294967296:=by omega
 have h1:(BitVec.ofInt 32 ((a:Nat):Int)).toNat=a:=by rw[BitVec.toNat_ofInt];omega
 have h2:(BitVec.ofInt 32 ((c:Nat):Int)).toNat=c:=by rw[BitVec.toNat_ofInt];omega
 have hor:a |||c=a+c:=by
  rw[Nat.or_comm,←hc,←Nat.two_pow_add_eq_or_of_lt x1']
  omega
 have hlt:a+c<4294967296:=by
  rw[←hor]
  exact Nat.or_lt_two_pow (n:=32) hx' hy'
 have h3:(BitVec.ofInt 32 ((a:Nat):Int) |||BitVec.ofInt 32 ((c:Nat):Int)).toNat=a+c:=by
  rw[BitVec.toNat_or,h1,h2,hor]
 show wrapI .u32 ((BitVec.ofInt 32 ((a:Nat):Int) |||BitVec.ofInt 32 ((c:Nat):Int)).toNat:Nat)=_
 rw[h3,wrapI_eq]
 simp only[IntKind.wrap,IntKind.bits,IntKind.signed]
 simp
 omega
theorem nth_le:∀{l:List Int} {i:Nat},Dig l→4294967296^i*nthD l i 0≤valN l
 |[],i,_=>by simp[nthD,valN]
 |d::l,0,h=>by
  obtain⟨h1,h2⟩:=dig_cons.1 h
  have:=val_nonneg h2
  simp[nthD,valN]
  omega
 |d::l,i+1,h=>by
  obtain⟨h1,h2⟩:=dig_cons.1 h
  have:=@nth_le l i h2
  have e:nthD (d::l) (i+1) 0=nthD l i 0:=by simp[nthD]
  rw[e,Int.pow_succ,Int.mul_comm (4294967296^i),Int.mul_assoc]
  simp only[valN]
  omega
theorem sh_step {a row:List Int} {i k:Nat} (ha:Dig a) (hr:Dig row) (hl:row.length=a.length+1) (hi:i<a.length) (hk:k≤31) (hv:valN row=valN (a.take i)*2^k):
  Dig ((row.set i (binK.orI .u32 (nthD row i 0) (nthD a i 0 % 18446744073709551616*2^k % 18446744073709551616 % 4294967296))).set (i+1) (nthD a i 0 % 18446744073709551616*2^k % 18446744073709551616 / 4294967296 % 4294967296))∧
  valN ((row.set i (binK.orI .u32 (nthD row i 0) (nthD a i 0 % 18446744073709551616*2^k % 18446744073709551616 % 4294967296))).set (i+1) (nthD a i 0 % 18446744073709551616*2^k % 18446744073709551616 / 4294967296 % 4294967296))=valN (a.take (i+1))*2^k:=by
 have x:=dig_nth ha i
 have r:=dig_nth hr i
 have hkp:(0:Int)<2^k:=Int.pow_pos (by decide)
 have hk2:(2:Int)^k≤2147483648:=by
  have h1:(2:Nat)^k≤2^31:=Nat.pow_le_pow_right (by decide) hk
  have h2:(2:Nat)^31=2147483648:=by decide
  rw[h2] at h1
  have h3:(2:Int)^k=((2^k:Nat):Int):=by push_cast;rfl
  rw[h3]
  omega
 have hB:(4294967296:Int)=2^(32 - k)*2^k:=by
  rw[←Int.pow_add,show 32 - k+k=32 by omega]
  decide
 have hq:(0:Int)<2^(32 - k):=Int.pow_pos (by decide)
 have t0:0≤nthD a i 0*2^k:=Int.mul_nonneg x.1 (Int.le_of_lt hkp)
 have t1:nthD a i 0*2^k<4294967296*2^k:=Int.mul_lt_mul_of_pos_right x.2 hkp
 have e1:nthD a i 0 % 18446744073709551616*2^k % 18446744073709551616=nthD a i 0*2^k:=by
  rw[Int.emod_eq_of_lt (a:=nthD a i 0) (by omega) (by omega),Int.emod_eq_of_lt t0 (by omega)]
 have e2:nthD a i 0*2^k % 4294967296=(nthD a i 0 % 2^(32 - k))*2^k:=by
  conv=>lhs;rw[hB]
  rw[Int.mul_comm (nthD a i 0),Int.mul_comm (2^(32 - k)),Int.mul_emod_mul_of_pos _ _ hkp,Int.mul_comm]
 have m0:=Int.emod_nonneg (nthD a i 0) (show(2:Int)^(32 - k)≠0 by omega)
 have m1:=Int.emod_lt_of_pos (nthD a i 0) hq
 have hP:=pow_pos i
 have hvlt:valN row<4294967296^i*2^k:=by
  rw[hv]
  have:=val_bdN (dig_take ha i)
  rw[List.length_take,Nat.min_eq_left (by omega)] at this
  exact Int.mul_lt_mul_of_pos_right this hkp
 have hri:nthD row i 0<2^k:=Int.lt_of_mul_lt_mul_left (Int.lt_of_le_of_lt (nth_le hr) hvlt) (Int.le_of_lt hP)
 have hrz:nthD row (i+1) 0=0:=by
  refine nth_small hr (i:=i+1) ?_ (Nat.le_refl _)
  rw[Int.pow_succ]
  exact Int.lt_of_lt_of_le hvlt (Int.mul_le_mul_of_nonneg_left (by omega) (Int.le_of_lt hP))
 have hml:(nthD a i 0 % 2^(32 - k))*2^k+2^k≤4294967296:=by
  have:(nthD a i 0 % 2^(32 - k)+1)*2^k≤2^(32 - k)*2^k:=Int.mul_le_mul_of_nonneg_right (by omega) (Int.le_of_lt hkp)
  rw[←hB,Int.add_mul,Int.one_mul] at this
  exact this
 have hmn:0≤(nthD a i 0 % 2^(32 - k))*2^k:=Int.mul_nonneg m0 (Int.le_of_lt hkp)
 have hor:=or_add32 (k:=k) r.1 hri m0 (by omega) r.2
 rw[e1,e2,hor]
 generalize ht:nthD a i 0*2^k=t at*
 have hmt:(nthD a i 0 % 2^(32 - k))*2^k=t % 4294967296:=e2.symm
 rw[hmt] at hml hmn ⊢
 refine⟨dig_set (dig_set hr (by omega) (by omega)) (by omega) (by omega),?_⟩
 rw[val_set (by simp;omega),val_set (by omega),nth_set_ne (by omega),hrz,take_snoc0,Int.add_mul,Int.mul_assoc,ht,hv,Int.pow_succ]
 have e3:t / 4294967296 % 4294967296=t / 4294967296:=by omega
 rw[e3]
 have e4:(4294967296:Int)^i*4294967296*(t / 4294967296 - 0)=4294967296^i*(t - t % 4294967296):=by
  rw[Int.mul_assoc];congr 1;omega
 have e5:nthD row i 0+t % 4294967296 - nthD row i 0=t % 4294967296:=by omega
 rw[e4,e5,Int.mul_sub]
 omega
def shl (a:List Int) (k:Nat):List Int:=digK (a.length+1) (valN a*2^k)
abbrev ShA:=List Int×Int
def shD (a:ShA):Prop:=Dig a.1∧a.1.length≤100000000000∧0≤a.2∧a.2≤31
def r168p:SCtr:=⟨90,List Int×Int,.cons (codR (.i .u32)) (.one (codI .u64)),shD,fun a=> .row (.i .u32) (shl a.1 a.2.toNat)⟩
def r168:OCtr where
 f:=90
 α:=List Int×Int
 put a:=[.row (.i .u32) a.1,.si .u64 a.2]
 st _:=[]
 dec v o:=match v,o with
  |[v,m],[]=>match decRow (.i .u32) v,m.int .u64 with
   |some p,some m=>some (p,m)
   |_,_=>none
  |_,_=>none
 ok v o a h:=by
  split at h
  ·split at h
   ·rename_i h1 h2
    simp only[Option.some.injEq] at h;subst h
    exact⟨by simp only[gL,decRow_ok h1,int_g h2];rfl,rfl⟩
   ·cases h
  ·cases h
 inj a b h _:=by
  simp only[gL,List.cons.injEq,and_true] at h
  have h2:=h.2
  simp only[SV.g,AV.sc.injEq,Value.int.injEq,true_and] at h2
  exact Prod.ext ((codR (.i .u32)).inj _ _ h.1) h2
 dom:=shD
 res a:=.ow 0 (shl a.1 a.2.toNat).length 1
 out a:=[.row (.i .u32) (shl a.1 a.2.toNat) 110 false]
def Λ168 (a:ShA):Nat→LoopAnn
 |3=> .inv (Int×List Int) (fun x=>⟨[(0,.row (.i .u32) a.1),(1,.si .u64 a.2),(5,.ow 0 x.2.length 1),(13,.si .i64 a.1.length),(14,.si .i64 x.1)],[.row (.i .u32) x.2 110 false]⟩)
  (fun s=>(iS s 14,oS (.i .u32) s 0))
  (fun x=>(0≤x.1∧x.1≤a.1.length)∧Dig x.2∧x.2.length=a.1.length+1∧valN x.2=valN (a.1.take x.1.toNat)*2^a.2.toNat) (fun x=>(a.1.length - x.1).toNat) fun _ _=> .look
 |_=> .look
theorem h168:HoldsO Try.prog r168:=by
 refine conN (L:=[]) (W:=[]) r168 F168 (fun _=>none) Λ168 (by simp) (by simp) (by kernel_rfl) (fun _=>rfl) (fun _=>rfl) (by kernel_rfl) ?_
 rintro⟨a,s⟩ ⟨ha,hla,s0,s1⟩
 simp only at ha hla s0 s1
 refine vcOf (let z0:=(↑a.length:Int);let z1:=z0+(1:Int);let z2:=SId.i .u32;let z3:=(0:Int)::List.replicate a.length (0:Int);let z4:=(↑a.length:Int);let z5:=SV.si .i64 z4;let z6:=SObj.row z2 z3 110 false;let z7:=a.length+1;let z8:=(2:Int)^s.toNat;inR .i64 z1∧(0:Int)≤z1∧z1≤z1∧z1*(4:Int)≤(140737488355328:Int)∧z1≤(1000000000000:Int)∧((((SV.row z2 a).same (SV.row z2 a)∧(SV.si .u64 s).same (SV.si .u64 s)∧(SV.ow 0 z1.toNat 1).same (SV.ow 0 z3.length 1)∧(SV.si .i64 z0).same z5∧(SV.il .i64 0).same (SV.si .i64 0)∧True)∧z6.same z6∧True)∧((0:Int)≤(0:Int)∧(0:Int)≤z4)∧Dig z3∧z3.length=z7∧valN z3=valN []*z8)∧∀(x:Int×List Int),let z9:=x.snd.length;let z10:=x.fst.toNat;let z11:=x.snd.length;let z12:=x.fst+(1:Int);let z13:=nthD a z10 (0:Int) % (18446744073709551616:Int)*z8 % (18446744073709551616:Int);let z14:=x.snd.set z10 (binK.orI .u32 (nthD x.snd z10 (0:Int)) (z13 % (4294967296:Int)));let z15:=SV.ow 0 z9 1;let z16:=z14.set z12.toNat (z13 / (4294967296:Int) % (4294967296:Int));let z17:=SV.si .i64 z12;let z18:=SObj.row z2 z16 110 false;((0:Int)≤x.fst∧x.fst≤z4)∧Dig x.snd∧z9=z7∧valN x.snd=valN (List.take z10 a)*z8→(decide (x.fst<z4)=true→(0:Int)≤x.fst∧x.fst<z0∧z10<a.length∧(0:Int)≤s∧s≤(64:Int)∧z9=z11∧(0:Int)≤x.fst∧x.fst<(↑z11:Int)∧z9=z11∧z10<z11∧z9=z11∧(0:Int)≤x.fst∧x.fst<(↑z11:Int)∧z9=z11∧z10<z11∧inR .i64 z12∧(0:Int)≤(32:Int)∧(32:Int)≤(64:Int)∧z9=z14.length∧(0:Int)≤z12∧z12<(↑z14.length:Int)∧z9=z14.length∧z12.toNat<z14.length∧inR .i64 z12∧(((SV.row z2 a).same (SV.row z2 a)∧(SV.si .u64 s).same (SV.si .u64 s)∧z15.same (SV.ow 0 z16.length 1)∧z5.same z5∧z17.same z17∧True)∧z18.same z18∧True)∧(((0:Int)≤z12∧z12≤z4)∧Dig z16∧z16.length=z7∧valN z16=valN (List.take z12.toNat a)*z8)∧(z4 - z12).toNat<(z4 - x.fst).toNat)∧(decide (x.fst<z4)=false→z15.same (SV.ow 0 (shl a s.toNat).length 1)∧(SObj.row z2 x.snd 110 false).same (SObj.row z2 (shl a s.toNat) 110 false)∧True)) (by kernel_rfl) ?_
 simp only[vcs]
 refine⟨by omega,by omega,by omega,by omega,by omega,?_,?_⟩
 ·repeat' refine And.intro ?_ ?_
  all_goals first|omega|exact howN (by simp)|exact dig_cons.2 ⟨by omega,rep_dig⟩|(simp;done)|(simp only[valN,rep_val];omega)
 rintro⟨i,row⟩ ⟨⟨i0,i1⟩,hr,hl,hv⟩
 simp only at i0 i1 hr hl hv ⊢
 refine⟨fun ilt=>?_,fun ige=>?_⟩
 ·obtain⟨k1,k2⟩:=sh_step ha hr hl (show i.toNat<a.length by omega) (show s.toNat≤31 by omega) hv
  have e:(i+1).toNat=i.toNat+1:=by omega
  rw[e]
  repeat' refine And.intro ?_ ?_
  all_goals first|omega|exact howN (by simp)|(simp only[List.length_set];done)|(simp only[List.length_set];omega)|exact k1|exact k2
 ·have hi:i.toNat=a.length:=by omega
  rw[hi,List.take_length] at hv
  have hrow:row=shl a s.toNat:=digK_of hr hl hv
  rw[hrow]
  exact⟨rfl,rfl⟩
theorem h168p:Holds Try.prog r168p:=by
 refine con (L:=[]) r168p F168 Λ168 (OwnOK.none _) (by simp) (by kernel_rfl) (by kernel_rfl) (fun _=>rfl) ?_
 rintro⟨a,s⟩ ⟨ha,hla,s0,s1⟩
 simp only at ha hla s0 s1
 refine vcOf (let z0:=(↑a.length:Int);let z1:=z0+(1:Int);let z2:=SId.i .u32;let z3:=(0:Int)::List.replicate a.length (0:Int);let z4:=(↑a.length:Int);let z5:=SV.si .i64 z4;let z6:=SObj.row z2 z3 110 false;let z7:=a.length+1;let z8:=(2:Int)^s.toNat;inR .i64 z1∧(0:Int)≤z1∧z1≤z1∧z1*(4:Int)≤(140737488355328:Int)∧z1≤(1000000000000:Int)∧((((SV.row z2 a).same (SV.row z2 a)∧(SV.si .u64 s).same (SV.si .u64 s)∧(SV.ow 0 z1.toNat 1).same (SV.ow 0 z3.length 1)∧(SV.si .i64 z0).same z5∧(SV.il .i64 0).same (SV.si .i64 0)∧True)∧z6.same z6∧True)∧((0:Int)≤(0:Int)∧(0:Int)≤z4)∧Dig z3∧z3.length=z7∧valN z3=valN []*z8)∧∀(x:Int×List Int),let z9:=x.snd.length;let z10:=x.fst.toNat;let z11:=x.snd.length;let z12:=x.fst+(1:Int);let z13:=nthD a z10 (0:Int) % (18446744073709551616:Int)*z8 % (18446744073709551616:Int);let z14:=x.snd.set z10 (binK.orI .u32 (nthD x.snd z10 (0:Int)) (z13 % (4294967296:Int)));let z15:=z14.set z12.toNat (z13 / (4294967296:Int) % (4294967296:Int));let z16:=SV.si .i64 z12;let z17:=SObj.row z2 z15 110 false;((0:Int)≤x.fst∧x.fst≤z4)∧Dig x.snd∧z9=z7∧valN x.snd=valN (List.take z10 a)*z8→(decide (x.fst<z4)=true→(0:Int)≤x.fst∧x.fst<z0∧z10<a.length∧(0:Int)≤s∧s≤(64:Int)∧z9=z11∧(0:Int)≤x.fst∧x.fst<(↑z11:Int)∧z9=z11∧z10<z11∧z9=z11∧(0:Int)≤x.fst∧x.fst<(↑z11:Int)∧z9=z11∧z10<z11∧inR .i64 z12∧(0:Int)≤(32:Int)∧(32:Int)≤(64:Int)∧z9=z14.length∧(0:Int)≤z12∧z12<(↑z14.length:Int)∧z9=z14.length∧z12.toNat<z14.length∧inR .i64 z12∧(((SV.row z2 a).same (SV.row z2 a)∧(SV.si .u64 s).same (SV.si .u64 s)∧(SV.ow 0 z9 1).same (SV.ow 0 z15.length 1)∧z5.same z5∧z16.same z16∧True)∧z17.same z17∧True)∧(((0:Int)≤z12∧z12≤z4)∧Dig z15∧z15.length=z7∧valN z15=valN (List.take z12.toNat a)*z8)∧(z4 - z12).toNat<(z4 - x.fst).toNat)∧(decide (x.fst<z4)=false→z9=z11∧(SV.row z2 x.snd).same (SV.row z2 (shl a s.toNat)))) (by kernel_rfl) ?_
 simp only[vcs]
 refine⟨by omega,by omega,by omega,by omega,by omega,?_,?_⟩
 ·repeat' refine And.intro ?_ ?_
  all_goals first|omega|exact howN (by simp)|exact dig_cons.2 ⟨by omega,rep_dig⟩|(simp;done)|(simp only[valN,rep_val];omega)
 rintro⟨i,row⟩ ⟨⟨i0,i1⟩,hr,hl,hv⟩
 simp only at i0 i1 hr hl hv ⊢
 refine⟨fun ilt=>?_,fun ige=>?_⟩
 ·obtain⟨k1,k2⟩:=sh_step ha hr hl (show i.toNat<a.length by omega) (show s.toNat≤31 by omega) hv
  have e:(i+1).toNat=i.toNat+1:=by omega
  rw[e]
  repeat' refine And.intro ?_ ?_
  all_goals first|omega|exact howN (by simp)|(simp only[List.length_set];done)|(simp only[List.length_set];omega)|exact k1|exact k2
 ·have hi:i.toNat=a.length:=by omega
  rw[hi,List.take_length] at hv
  have hrow:row=shl a s.toNat:=digK_of hr hl hv
  rw[hrow]
end Go.Vi
