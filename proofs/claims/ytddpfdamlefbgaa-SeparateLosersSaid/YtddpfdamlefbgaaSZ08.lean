/-
  Contracts: natural numbers of any size: digit.
  Conditions: none.
-/
import Derived.Test.YtddpfdamlefbgaaSZ06
import Derived.Test.YtddpfdamlefbgaaSZ07
set_option maxRecDepth 100000
set_option maxHeartbeats 4000000
set_option linter.all false
namespace Go.Vi
open Go.Proofs.Ytddpfdamlefbgaa.Ir
open Go.Proofs
structure DgA where
 U:List Int
 j:Nat
 len:Nat
 n:Nat
 v:List Int
def DgA.x (a:DgA):Int:=valN (prt a.U a.j (a.v.length+1))
def DgA.ok (a:DgA):Prop:=(Dig a.U∧Dig a.v)∧(a.len=a.v.length+1∧a.n=a.U.length)∧(2≤a.v.length∧a.j+a.v.length+1≤a.U.length∧a.U.length≤200000000000)∧
 2147483648≤nthD a.v (a.v.length - 1) 0∧a.x<4294967296*valN a.v
def DgA.row (a:DgA):List Int:=wth a.U a.j (digK (a.v.length+1) (a.x % valN a.v))
def r169:OCtr where
 f:=99
 α:=DgA
 put a:=[.oc 0 a.j a.len a.n 1,.row (.i .u32) a.v]
 st a:=[.row (.i .u32) a.U 81 false]
 dec v o:=match v,o with
  |[.oc 0 j len n 1,v],[.row t l 81 false]=>match decRow (.i .u32) v,castL t (.i .u32) l with
   |some v,some l=>some ⟨l,j,len,n,v⟩
   |_,_=>none
  |_,_=>none
 ok v o a h:=by
  split at h
  ·split at h
   ·rename_i h1 h2
    simp only[Option.some.injEq] at h;subst h
    obtain⟨rfl,hh⟩:=castL_eq h2
    cases hh
    exact⟨by simp only[gL,decRow_ok h1],rfl⟩
   ·cases h
  ·cases h
 inj a b h1 h2:=by
  obtain⟨U,j,len,n,v⟩:=a
  obtain⟨U',j',len',n',v'⟩:=b
  simp only[gL,List.cons.injEq,and_true] at h1
  obtain⟨g1,g2⟩:=h1
  have e2:=(codR (.i .u32)).inj _ _ g2
  simp only[SV.g,AV.os.injEq,true_and,SId.sz,Nat.mul_one] at g1
  simp only[gO,List.map_cons,List.map_nil,SObj.g,List.cons.injEq,AObj.cells.injEq,and_true] at h2
  have hl:U=U':=by
   have hf:=congrArg List.length h2
   rw[flatA_len,flatA_len] at hf
   exact flatA_inj (.i .u32) (by simpa[SId.sz] using hf) h2
  obtain⟨q1,q2,q3⟩:=g1
  subst q3
  have:j=j':=by omega
  rw[e2,hl,q2,this]
 dom:=DgA.ok
 res a:=.si .u32 (a.x / valN a.v)
 out a:=[.row (.i .u32) a.row 81 false]
def st169 (U:List Int):SStore:=[.row (.i .u32) U 81 false]
def Λ169 (a:DgA):Nat→LoopAnn
 |4=> .inv (Int×Int) (fun x=>⟨[(0,.oc 0 a.j a.len a.n 1),(1,.row (.i .u32) a.v),(5,.si .i64 a.v.length),(7,.si .u64 x.1),(8,.si .u64 x.2)],st169 a.U⟩) (fun s=>(iS s 7,iS s 8))
  (fun x=>(0≤x.1∧x.1≤4294967297)∧(0≤x.2∧x.2<4294967296)∧x.1*nthD a.v (a.v.length - 1) 0+x.2=nthD a.U (a.j+(a.v.length - 1)) 0+4294967296*nthD a.U (a.j+a.v.length) 0∧a.x<(x.1+1)*valN a.v) (fun x=>x.1.toNat) fun _ _=> .look
 |10=> .inv (Int×Int×Int×Int×List Int) (fun x=>⟨[(0,.oc 0 a.j a.len a.n 1),(1,.row (.i .u32) a.v),(5,.si .i64 a.v.length),(7,.si .u64 x.2.1),(9,.si .u64 x.2.2.1),(10,.si .u64 x.2.2.2.1),(82,.si .i64 a.v.length),(83,.si .i64 x.1)],st169 x.2.2.2.2⟩)
  (fun s=>(iS s 83,iS s 7,iS s 9,iS s 10,oS (.i .u32) s 0))
  (fun x=>(0≤x.1∧x.1≤a.v.length)∧(0≤x.2.1∧x.2.1<4294967296)∧(a.x<(x.2.1+1)*valN a.v∧x.2.1*valN a.v<a.x+valN a.v)∧(0≤x.2.2.1∧x.2.2.1<4294967296)∧(0≤x.2.2.2.1∧x.2.2.2.1≤1)∧(Dig x.2.2.2.2∧x.2.2.2.2.length=a.U.length)∧
   (∀m,(m<a.j∨a.j+x.1.toNat≤m)→nthD x.2.2.2.2 m 0=nthD a.U m 0)∧
   valN (prt x.2.2.2.2 a.j x.1.toNat)=valN (prt a.U a.j x.1.toNat) - x.2.1*valN (a.v.take x.1.toNat)+4294967296^x.1.toNat*(x.2.2.1+x.2.2.2.1)) (fun x=>(a.v.length - x.1).toNat) fun _ _=> .look
 |23=> .inv (Int×Int×Int×List Int) (fun x=>⟨[(0,.oc 0 a.j a.len a.n 1),(1,.row (.i .u32) a.v),(5,.si .i64 a.v.length),(7,.si .u64 x.2.1),(9,.si .u64 x.2.2.1),(134,.si .i64 a.v.length),(135,.si .i64 x.1)],st169 x.2.2.2⟩)
  (fun s=>(iS s 135,iS s 7,iS s 9,oS (.i .u32) s 0))
  (fun x=>(0≤x.1∧x.1≤a.v.length)∧(0≤x.2.1∧x.2.1<4294967296)∧(a.x<x.2.1*valN a.v∧x.2.1*valN a.v<a.x+valN a.v)∧(0≤x.2.2.1∧x.2.2.1≤1)∧(Dig x.2.2.2∧x.2.2.2.length=a.U.length)∧
   ∃W,(Dig W∧W.length=a.U.length)∧(∀m,(m<a.j∨a.j+(a.v.length+1)≤m)→nthD W m 0=nthD a.U m 0)∧valN (prt W a.j (a.v.length+1))=a.x - x.2.1*valN a.v+4294967296^(a.v.length+1)∧
    (∀m,(m<a.j∨a.j+x.1.toNat≤m)→nthD x.2.2.2 m 0=nthD W m 0)∧valN (prt x.2.2.2 a.j x.1.toNat)+4294967296^x.1.toNat*x.2.2.1=valN (prt W a.j x.1.toNat)+valN (a.v.take x.1.toNat))
  (fun x=>(a.v.length - x.1).toNat) fun _ _=> .look
 |_=> .look
theorem h169:HoldsO Try.prog r169:=by
 refine conO (L:=[]) (W:=[]) r169 Λ169 (by simp) (by simp) ?_
 rintro⟨U,j,len,n,v⟩ ⟨⟨hU,hv⟩,⟨e1,e2⟩,⟨hn,hj,hlU⟩,hv1,hx⟩
 simp only at hU hv hn hj hlU hv1 hx e1 e2
 subst e1 e2
 refine vcOf (let z0:=(↑v.length:Int);let z1:=v.length+1;let z2:=(↑z1:Int);let z3:=z0 - (1:Int);let z4:=nthD v z3.toNat (0:Int) % (18446744073709551616:Int);let z5:=binK.orI .u64 (nthD U (j+z0.toNat) 0 % (18446744073709551616:Int)*(4294967296:Int) % (18446744073709551616:Int)) (nthD U (j+z3.toNat) 0 % (18446744073709551616:Int));let z6:=z5.tdiv z4;let z7:=SV.oc 0 j z1 U.length 1;let z8:=SId.i .u32;let z9:=(↑v.length:Int);let z10:=SV.si .i64 z9;let z11:=SV.si .u64 z6;let z12:=z5.tmod z4;let z13:=SV.si .u64 z12;let z14:=SObj.row z8 U 81 false;let z15:=v.length - 1;let z16:=nthD v z15 (0:Int);let z17:=nthD U (j+z15) 0+(4294967296:Int)*nthD U (j+v.length) 0;let z18:=DgA.mk U j z1 U.length v;let z19:=z18.x;let z20:=z9 - (1:Int);let z21:=nthD v z20.toNat (0:Int) % (18446744073709551616:Int);let z22:=z19+valN v;let z23:=valN (prt U j 0);let z24:=j+z9.toNat;let z25:=SV.si .u32 (z19 / valN v);let z26:=SObj.row z8 z18.row 81 false;let z27:=(4294967296:Int)^z1;let z28:=z9 - (2:Int);U.length=U.length∧(0:Int)≤z0∧z0<z2∧j+z1≤U.length∧U.length=U.length∧j+z0.toNat<U.length∧(0:Int)≤(32:Int)∧(32:Int)≤(64:Int)∧inR .i64 z3∧U.length=U.length∧(0:Int)≤z3∧z3<z2∧j+z1≤U.length∧U.length=U.length∧j+z3.toNat<U.length∧inR .i64 z3∧(0:Int)≤z3∧z3<z0∧z3.toNat<v.length∧z4≠(0:Int)∧inR .u64 z6∧inR .i64 z3∧(0:Int)≤z3∧z3<z0∧z3.toNat<v.length∧z4≠(0:Int)∧(((z7.same z7∧(SV.row z8 v).same (SV.row z8 v)∧(SV.si .i64 z0).same z10∧z11.same z11∧z13.same z13∧True)∧z14.same z14∧True)∧((0:Int)≤z6∧z6≤(4294967297:Int))∧((0:Int)≤z12∧z12<(4294967296:Int))∧z6*z16+z12=z17∧z19<(z6+(1:Int))*valN v)∧∀(x:Int×Int),let z29:=decide ((4294967296:Int)≤x.fst);let z30:=(x.snd+z21) % (18446744073709551616:Int);let z31:=decide ((4294967296:Int)≤z30);let z32:=(x.fst - (1:Int)) % (18446744073709551616:Int);let z33:=SV.si .u64 z32;let z34:=SV.si .u64 z30;let z35:=decide (binK.orI .u64 (x.snd*(4294967296:Int) % (18446744073709551616:Int)) (nthD U (j+z28.toNat) 0 % (18446744073709551616:Int))<x.fst*(nthD v z28.toNat (0:Int) % (18446744073709551616:Int)) % (18446744073709551616:Int));let z36:=SV.si .u64 x.fst;((0:Int)≤x.fst∧x.fst≤(4294967297:Int))∧((0:Int)≤x.snd∧x.snd<(4294967296:Int))∧x.fst*z16+x.snd=z17∧z19<(x.fst+(1:Int))*valN v→(z29=true→inR .i64 z20∧(0:Int)≤z20∧z20<z0∧z20.toNat<v.length∧(z31=true→(((z7.same z7∧(SV.row z8 v).same (SV.row z8 v)∧z10.same z10∧z33.same z33∧(SV.il .u64 0).same (SV.si .u64 0)∧(SV.il .u64 0).same (SV.si .u64 0)∧z10.same z10∧(SV.il .i64 0).same (SV.si .i64 0)∧True)∧z14.same z14∧True)∧((0:Int)≤(0:Int)∧(0:Int)≤z9)∧((0:Int)≤z32∧z32<(4294967296:Int))∧(z19<(z32+(1:Int))*valN v∧z32*valN v<z22)∧((0:Int)≤(0:Int)∧(0:Int)<(4294967296:Int))∧((0:Int)≤(0:Int)∧(0:Int)≤(1:Int))∧(Dig U∧U.length=U.length)∧(∀(m:Nat),m<j∨j+0≤m→nthD U m (0:Int)=nthD U m (0:Int))∧z23=z23 - z32*valN []+(0:Int))∧∀(x:Int×Int×Int×Int×List Int),let z37:=x.snd.fst*valN v;let z38:=x.snd.snd.fst;let z39:=x.snd.snd.snd.fst;let z40:=x.snd.snd.snd.snd;let z41:=x.fst.toNat;let z42:=x.fst+(1:Int);let z43:=SV.si .u64 x.snd.fst;let z44:=(x.snd.fst*(nthD v z41 (0:Int) % (18446744073709551616:Int)) % (18446744073709551616:Int)+z38) % (18446744073709551616:Int);let z45:=z44 / (4294967296:Int);let z46:=SV.si .u64 z45;let z47:=((nthD z40 (j+z41) 0 % (18446744073709551616:Int) - binK.andI .u64 z44 (4294967295:Int)) % (18446744073709551616:Int) - z39) % (18446744073709551616:Int);let z48:=z47 / (9223372036854775808:Int);let z49:=SV.si .u64 z48;let z50:=SV.si .i64 z42;let z51:=z40.set (j+z41) (z47 % (4294967296:Int));let z52:=SObj.row z8 z51 81 false;let z53:=z42.toNat;let z54:=((nthD z40 z24 (0:Int) % (18446744073709551616:Int) - z38) % (18446744073709551616:Int) - z39) % (18446744073709551616:Int);let z55:=decide (z54 / (9223372036854775808:Int)=(0:Int));let z56:=z40.set z24 (z54 % (4294967296:Int));let z57:=SObj.row z8 z56 81 false;((0:Int)≤x.fst∧x.fst≤z9)∧((0:Int)≤x.snd.fst∧x.snd.fst<(4294967296:Int))∧(z19<(x.snd.fst+(1:Int))*valN v∧z37<z22)∧((0:Int)≤z38∧z38<(4294967296:Int))∧((0:Int)≤z39∧z39≤(1:Int))∧(Dig z40∧z40.length=U.length)∧(∀(m:Nat),m<j∨j+z41≤m→nthD z40 m (0:Int)=nthD U m (0:Int))∧valN (prt z40 j z41)=valN (prt U j z41) - x.snd.fst*valN (List.take z41 v)+(4294967296:Int)^z41*(z38+z39)→(decide (x.fst<z9)=true→(0:Int)≤x.fst∧x.fst<z0∧z41<v.length∧(0:Int)≤(32:Int)∧(32:Int)≤(64:Int)∧U.length=z40.length∧(0:Int)≤x.fst∧x.fst<z2∧j+z1≤U.length∧U.length=z40.length∧j+z41<z40.length∧(0:Int)≤(63:Int)∧(63:Int)≤(64:Int)∧U.length=z40.length∧(0:Int)≤x.fst∧x.fst<z2∧j+z1≤U.length∧U.length=z40.length∧j+z41<z40.length∧inR .i64 z42∧((z7.same z7∧(SV.row z8 v).same (SV.row z8 v)∧z10.same z10∧z43.same z43∧z46.same z46∧z49.same z49∧z10.same z10∧z50.same z50∧True)∧z52.same z52∧True)∧(((0:Int)≤z42∧z42≤z9)∧((0:Int)≤x.snd.fst∧x.snd.fst<(4294967296:Int))∧(z19<(x.snd.fst+(1:Int))*valN v∧z37<z22)∧((0:Int)≤z45∧z45<(4294967296:Int))∧((0:Int)≤z48∧z48≤(1:Int))∧(Dig z51∧z51.length=U.length)∧(∀(m:Nat),m<j∨j+z53≤m→nthD z51 m (0:Int)=nthD U m (0:Int))∧valN (prt z51 j z53)=valN (prt U j z53) - x.snd.fst*valN (List.take z53 v)+(4294967296:Int)^z53*(z45+z48))∧(z9 - z42).toNat<(z9 - x.fst).toNat)∧(decide (x.fst<z9)=false→U.length=z40.length∧(0:Int)≤z9∧z9<z2∧j+z1≤U.length∧U.length=z40.length∧z24<z40.length∧U.length=z40.length∧(0:Int)≤z9∧z9<z2∧j+z1≤U.length∧U.length=z40.length∧z24<z40.length∧(0:Int)≤(63:Int)∧(63:Int)≤(64:Int)∧(z55=true→(SV.si .u32 (x.snd.fst % (4294967296:Int))).same z25∧z57.same z26∧True)∧(z55=false→(((z7.same z7∧(SV.row z8 v).same (SV.row z8 v)∧z10.same z10∧z43.same z43∧(SV.il .u64 0).same (SV.si .u64 0)∧z10.same z10∧(SV.il .i64 0).same (SV.si .i64 0)∧True)∧z57.same z57∧True)∧((0:Int)≤(0:Int)∧(0:Int)≤z9)∧((0:Int)≤x.snd.fst∧x.snd.fst<(4294967296:Int))∧(z19<z37∧z37<z22)∧((0:Int)≤(0:Int)∧(0:Int)≤(1:Int))∧(Dig z56∧z56.length=U.length)∧∃W,(Dig W∧W.length=U.length)∧(∀(m:Nat),m<j∨j+z1≤m→nthD W m (0:Int)=nthD U m (0:Int))∧valN (prt W j z1)=z19 - z37+z27∧(∀(m:Nat),m<j∨j+0≤m→nthD z56 m (0:Int)=nthD W m (0:Int))∧valN (prt z56 j 0)+(0:Int)=valN (prt W j 0)+valN [])∧∀(x:Int×Int×Int×List Int),let z58:=x.snd.fst*valN v;let z59:=x.snd.snd.fst;let z60:=x.snd.snd.snd;let z61:=x.fst.toNat;let z62:=x.fst+(1:Int);let z63:=SV.si .u64 x.snd.fst;let z64:=((nthD z60 (j+z61) 0 % (18446744073709551616:Int)+nthD v z61 (0:Int) % (18446744073709551616:Int)) % (18446744073709551616:Int)+z59) % (18446744073709551616:Int);let z65:=z64 / (4294967296:Int);let z66:=SV.si .u64 z65;let z67:=SV.si .i64 z62;let z68:=z60.set (j+z61) (z64 % (4294967296:Int));let z69:=SObj.row z8 z68 81 false;let z70:=z62.toNat;(((0:Int)≤x.fst∧x.fst≤z9)∧((0:Int)≤x.snd.fst∧x.snd.fst<(4294967296:Int))∧(z19<z58∧z58<z22)∧((0:Int)≤z59∧z59≤(1:Int))∧(Dig z60∧z60.length=U.length)∧∃W,(Dig W∧W.length=U.length)∧(∀(m:Nat),m<j∨j+z1≤m→nthD W m (0:Int)=nthD U m (0:Int))∧valN (prt W j z1)=z19 - z58+z27∧(∀(m:Nat),m<j∨j+z61≤m→nthD z60 m (0:Int)=nthD W m (0:Int))∧valN (prt z60 j z61)+(4294967296:Int)^z61*z59=valN (prt W j z61)+valN (List.take z61 v))→(decide (x.fst<z9)=true→U.length=z60.length∧(0:Int)≤x.fst∧x.fst<z2∧j+z1≤U.length∧U.length=z60.length∧j+z61<z60.length∧(0:Int)≤x.fst∧x.fst<z0∧z61<v.length∧(0:Int)≤(32:Int)∧(32:Int)≤(64:Int)∧U.length=z60.length∧(0:Int)≤x.fst∧x.fst<z2∧j+z1≤U.length∧U.length=z60.length∧j+z61<z60.length∧inR .i64 z62∧((z7.same z7∧(SV.row z8 v).same (SV.row z8 v)∧z10.same z10∧z63.same z63∧z66.same z66∧z10.same z10∧z67.same z67∧True)∧z69.same z69∧True)∧(((0:Int)≤z62∧z62≤z9)∧((0:Int)≤x.snd.fst∧x.snd.fst<(4294967296:Int))∧(z19<z58∧z58<z22)∧((0:Int)≤z65∧z65≤(1:Int))∧(Dig z68∧z68.length=U.length)∧∃W,(Dig W∧W.length=U.length)∧(∀(m:Nat),m<j∨j+z1≤m→nthD W m (0:Int)=nthD U m (0:Int))∧valN (prt W j z1)=z19 - z58+z27∧(∀(m:Nat),m<j∨j+z70≤m→nthD z68 m (0:Int)=nthD W m (0:Int))∧valN (prt z68 j z70)+(4294967296:Int)^z70*z65=valN (prt W j z70)+valN (List.take z70 v))∧(z9 - z62).toNat<(z9 - x.fst).toNat)∧(decide (x.fst<z9)=false→U.length=z60.length∧(0:Int)≤z9∧z9<z2∧j+z1≤U.length∧U.length=z60.length∧z24<z60.length∧U.length=z60.length∧(0:Int)≤z9∧z9<z2∧j+z1≤U.length∧U.length=z60.length∧z24<z60.length∧(SV.si .u32 ((x.snd.fst - (1:Int)) % (18446744073709551616:Int) % (4294967296:Int))).same z25∧(SObj.row z8 (z60.set z24 ((nthD z60 z24 (0:Int)+z59 % (4294967296:Int)) % (4294967296:Int))) 81 false).same z26∧True))))∧(z31=false→((z7.same z7∧(SV.row z8 v).same (SV.row z8 v)∧z10.same z10∧z33.same z33∧z34.same z34∧True)∧z14.same z14∧True)∧(((0:Int)≤z32∧z32≤(4294967297:Int))∧((0:Int)≤z30∧z30<(4294967296:Int))∧z32*z16+z30=z17∧z19<(z32+(1:Int))*valN v)∧z32.toNat<x.fst.toNat))∧(z29=false→inR .i64 z28∧(0:Int)≤z28∧z28<z0∧z28.toNat<v.length∧(0:Int)≤(32:Int)∧(32:Int)≤(64:Int)∧inR .i64 z28∧U.length=U.length∧(0:Int)≤z28∧z28<z2∧j+z1≤U.length∧U.length=U.length∧j+z28.toNat<U.length∧(z35=true→inR .i64 z20∧(0:Int)≤z20∧z20<z0∧z20.toNat<v.length∧(z31=true→(((z7.same z7∧(SV.row z8 v).same (SV.row z8 v)∧z10.same z10∧z33.same z33∧(SV.il .u64 0).same (SV.si .u64 0)∧(SV.il .u64 0).same (SV.si .u64 0)∧z10.same z10∧(SV.il .i64 0).same (SV.si .i64 0)∧True)∧z14.same z14∧True)∧((0:Int)≤(0:Int)∧(0:Int)≤z9)∧((0:Int)≤z32∧z32<(4294967296:Int))∧(z19<(z32+(1:Int))*valN v∧z32*valN v<z22)∧((0:Int)≤(0:Int)∧(0:Int)<(4294967296:Int))∧((0:Int)≤(0:Int)∧(0:Int)≤(1:Int))∧(Dig U∧U.length=U.length)∧(∀(m:Nat),m<j∨j+0≤m→nthD U m (0:Int)=nthD U m (0:Int))∧z23=z23 - z32*valN []+(0:Int))∧∀(x:Int×Int×Int×Int×List Int),let z71:=x.snd.fst*valN v;let z72:=x.snd.snd.fst;let z73:=x.snd.snd.snd.fst;let z74:=x.snd.snd.snd.snd;let z75:=x.fst.toNat;let z76:=x.fst+(1:Int);let z77:=SV.si .u64 x.snd.fst;let z78:=(x.snd.fst*(nthD v z75 (0:Int) % (18446744073709551616:Int)) % (18446744073709551616:Int)+z72) % (18446744073709551616:Int);let z79:=z78 / (4294967296:Int);let z80:=SV.si .u64 z79;let z81:=((nthD z74 (j+z75) 0 % (18446744073709551616:Int) - binK.andI .u64 z78 (4294967295:Int)) % (18446744073709551616:Int) - z73) % (18446744073709551616:Int);let z82:=z81 / (9223372036854775808:Int);let z83:=SV.si .u64 z82;let z84:=SV.si .i64 z76;let z85:=z74.set (j+z75) (z81 % (4294967296:Int));let z86:=SObj.row z8 z85 81 false;let z87:=z76.toNat;let z88:=((nthD z74 z24 (0:Int) % (18446744073709551616:Int) - z72) % (18446744073709551616:Int) - z73) % (18446744073709551616:Int);let z89:=decide (z88 / (9223372036854775808:Int)=(0:Int));let z90:=z74.set z24 (z88 % (4294967296:Int));let z91:=SObj.row z8 z90 81 false;((0:Int)≤x.fst∧x.fst≤z9)∧((0:Int)≤x.snd.fst∧x.snd.fst<(4294967296:Int))∧(z19<(x.snd.fst+(1:Int))*valN v∧z71<z22)∧((0:Int)≤z72∧z72<(4294967296:Int))∧((0:Int)≤z73∧z73≤(1:Int))∧(Dig z74∧z74.length=U.length)∧(∀(m:Nat),m<j∨j+z75≤m→nthD z74 m (0:Int)=nthD U m (0:Int))∧valN (prt z74 j z75)=valN (prt U j z75) - x.snd.fst*valN (List.take z75 v)+(4294967296:Int)^z75*(z72+z73)→(decide (x.fst<z9)=true→(0:Int)≤x.fst∧x.fst<z0∧z75<v.length∧(0:Int)≤(32:Int)∧(32:Int)≤(64:Int)∧U.length=z74.length∧(0:Int)≤x.fst∧x.fst<z2∧j+z1≤U.length∧U.length=z74.length∧j+z75<z74.length∧(0:Int)≤(63:Int)∧(63:Int)≤(64:Int)∧U.length=z74.length∧(0:Int)≤x.fst∧x.fst<z2∧j+z1≤U.length∧U.length=z74.length∧j+z75<z74.length∧inR .i64 z76∧((z7.same z7∧(SV.row z8 v).same (SV.row z8 v)∧z10.same z10∧z77.same z77∧z80.same z80∧z83.same z83∧z10.same z10∧z84.same z84∧True)∧z86.same z86∧True)∧(((0:Int)≤z76∧z76≤z9)∧((0:Int)≤x.snd.fst∧x.snd.fst<(4294967296:Int))∧(z19<(x.snd.fst+(1:Int))*valN v∧z71<z22)∧((0:Int)≤z79∧z79<(4294967296:Int))∧((0:Int)≤z82∧z82≤(1:Int))∧(Dig z85∧z85.length=U.length)∧(∀(m:Nat),m<j∨j+z87≤m→nthD z85 m (0:Int)=nthD U m (0:Int))∧valN (prt z85 j z87)=valN (prt U j z87) - x.snd.fst*valN (List.take z87 v)+(4294967296:Int)^z87*(z79+z82))∧(z9 - z76).toNat<(z9 - x.fst).toNat)∧(decide (x.fst<z9)=false→U.length=z74.length∧(0:Int)≤z9∧z9<z2∧j+z1≤U.length∧U.length=z74.length∧z24<z74.length∧U.length=z74.length∧(0:Int)≤z9∧z9<z2∧j+z1≤U.length∧U.length=z74.length∧z24<z74.length∧(0:Int)≤(63:Int)∧(63:Int)≤(64:Int)∧(z89=true→(SV.si .u32 (x.snd.fst % (4294967296:Int))).same z25∧z91.same z26∧True)∧(z89=false→(((z7.same z7∧(SV.row z8 v).same (SV.row z8 v)∧z10.same z10∧z77.same z77∧(SV.il .u64 0).same (SV.si .u64 0)∧z10.same z10∧(SV.il .i64 0).same (SV.si .i64 0)∧True)∧z91.same z91∧True)∧((0:Int)≤(0:Int)∧(0:Int)≤z9)∧((0:Int)≤x.snd.fst∧x.snd.fst<(4294967296:Int))∧(z19<z71∧z71<z22)∧((0:Int)≤(0:Int)∧(0:Int)≤(1:Int))∧(Dig z90∧z90.length=U.length)∧∃W,(Dig W∧W.length=U.length)∧(∀(m:Nat),m<j∨j+z1≤m→nthD W m (0:Int)=nthD U m (0:Int))∧valN (prt W j z1)=z19 - z71+z27∧(∀(m:Nat),m<j∨j+0≤m→nthD z90 m (0:Int)=nthD W m (0:Int))∧valN (prt z90 j 0)+(0:Int)=valN (prt W j 0)+valN [])∧∀(x:Int×Int×Int×List Int),let z92:=x.snd.fst*valN v;let z93:=x.snd.snd.fst;let z94:=x.snd.snd.snd;let z95:=x.fst.toNat;let z96:=x.fst+(1:Int);let z97:=SV.si .u64 x.snd.fst;let z98:=((nthD z94 (j+z95) 0 % (18446744073709551616:Int)+nthD v z95 (0:Int) % (18446744073709551616:Int)) % (18446744073709551616:Int)+z93) % (18446744073709551616:Int);let z99:=z98 / (4294967296:Int);let z100:=SV.si .u64 z99;let z101:=SV.si .i64 z96;let z102:=z94.set (j+z95) (z98 % (4294967296:Int));let z103:=SObj.row z8 z102 81 false;let z104:=z96.toNat;(((0:Int)≤x.fst∧x.fst≤z9)∧((0:Int)≤x.snd.fst∧x.snd.fst<(4294967296:Int))∧(z19<z92∧z92<z22)∧((0:Int)≤z93∧z93≤(1:Int))∧(Dig z94∧z94.length=U.length)∧∃W,(Dig W∧W.length=U.length)∧(∀(m:Nat),m<j∨j+z1≤m→nthD W m (0:Int)=nthD U m (0:Int))∧valN (prt W j z1)=z19 - z92+z27∧(∀(m:Nat),m<j∨j+z95≤m→nthD z94 m (0:Int)=nthD W m (0:Int))∧valN (prt z94 j z95)+(4294967296:Int)^z95*z93=valN (prt W j z95)+valN (List.take z95 v))→(decide (x.fst<z9)=true→U.length=z94.length∧(0:Int)≤x.fst∧x.fst<z2∧j+z1≤U.length∧U.length=z94.length∧j+z95<z94.length∧(0:Int)≤x.fst∧x.fst<z0∧z95<v.length∧(0:Int)≤(32:Int)∧(32:Int)≤(64:Int)∧U.length=z94.length∧(0:Int)≤x.fst∧x.fst<z2∧j+z1≤U.length∧U.length=z94.length∧j+z95<z94.length∧inR .i64 z96∧((z7.same z7∧(SV.row z8 v).same (SV.row z8 v)∧z10.same z10∧z97.same z97∧z100.same z100∧z10.same z10∧z101.same z101∧True)∧z103.same z103∧True)∧(((0:Int)≤z96∧z96≤z9)∧((0:Int)≤x.snd.fst∧x.snd.fst<(4294967296:Int))∧(z19<z92∧z92<z22)∧((0:Int)≤z99∧z99≤(1:Int))∧(Dig z102∧z102.length=U.length)∧∃W,(Dig W∧W.length=U.length)∧(∀(m:Nat),m<j∨j+z1≤m→nthD W m (0:Int)=nthD U m (0:Int))∧valN (prt W j z1)=z19 - z92+z27∧(∀(m:Nat),m<j∨j+z104≤m→nthD z102 m (0:Int)=nthD W m (0:Int))∧valN (prt z102 j z104)+(4294967296:Int)^z104*z99=valN (prt W j z104)+valN (List.take z104 v))∧(z9 - z96).toNat<(z9 - x.fst).toNat)∧(decide (x.fst<z9)=false→U.length=z94.length∧(0:Int)≤z9∧z9<z2∧j+z1≤U.length∧U.length=z94.length∧z24<z94.length∧U.length=z94.length∧(0:Int)≤z9∧z9<z2∧j+z1≤U.length∧U.length=z94.length∧z24<z94.length∧(SV.si .u32 ((x.snd.fst - (1:Int)) % (18446744073709551616:Int) % (4294967296:Int))).same z25∧(SObj.row z8 (z94.set z24 ((nthD z94 z24 (0:Int)+z93 % (4294967296:Int)) % (4294967296:Int))) 81 false).same z26∧True))))∧(z31=false→((z7.same z7∧(SV.row z8 v).same (SV.row z8 v)∧z10.same z10∧z33.same z33∧z34.same z34∧True)∧z14.same z14∧True)∧(((0:Int)≤z32∧z32≤(4294967297:Int))∧((0:Int)≤z30∧z30<(4294967296:Int))∧z32*z16+z30=z17∧z19<(z32+(1:Int))*valN v)∧z32.toNat<x.fst.toNat))∧(z35=false→(((z7.same z7∧(SV.row z8 v).same (SV.row z8 v)∧z10.same z10∧z36.same z36∧(SV.il .u64 0).same (SV.si .u64 0)∧(SV.il .u64 0).same (SV.si .u64 0)∧z10.same z10∧(SV.il .i64 0).same (SV.si .i64 0)∧True)∧z14.same z14∧True)∧((0:Int)≤(0:Int)∧(0:Int)≤z9)∧((0:Int)≤x.fst∧x.fst<(4294967296:Int))∧(z19<(x.fst+(1:Int))*valN v∧x.fst*valN v<z22)∧((0:Int)≤(0:Int)∧(0:Int)<(4294967296:Int))∧((0:Int)≤(0:Int)∧(0:Int)≤(1:Int))∧(Dig U∧U.length=U.length)∧(∀(m:Nat),m<j∨j+0≤m→nthD U m (0:Int)=nthD U m (0:Int))∧z23=z23 - x.fst*valN []+(0:Int))∧∀(x:Int×Int×Int×Int×List Int),let z105:=x.snd.fst*valN v;let z106:=x.snd.snd.fst;let z107:=x.snd.snd.snd.fst;let z108:=x.snd.snd.snd.snd;let z109:=x.fst.toNat;let z110:=x.fst+(1:Int);let z111:=SV.si .u64 x.snd.fst;let z112:=(x.snd.fst*(nthD v z109 (0:Int) % (18446744073709551616:Int)) % (18446744073709551616:Int)+z106) % (18446744073709551616:Int);let z113:=z112 / (4294967296:Int);let z114:=SV.si .u64 z113;let z115:=((nthD z108 (j+z109) 0 % (18446744073709551616:Int) - binK.andI .u64 z112 (4294967295:Int)) % (18446744073709551616:Int) - z107) % (18446744073709551616:Int);let z116:=z115 / (9223372036854775808:Int);let z117:=SV.si .u64 z116;let z118:=SV.si .i64 z110;let z119:=z108.set (j+z109) (z115 % (4294967296:Int));let z120:=SObj.row z8 z119 81 false;let z121:=z110.toNat;let z122:=((nthD z108 z24 (0:Int) % (18446744073709551616:Int) - z106) % (18446744073709551616:Int) - z107) % (18446744073709551616:Int);let z123:=decide (z122 / (9223372036854775808:Int)=(0:Int));let z124:=z108.set z24 (z122 % (4294967296:Int));let z125:=SObj.row z8 z124 81 false;((0:Int)≤x.fst∧x.fst≤z9)∧((0:Int)≤x.snd.fst∧x.snd.fst<(4294967296:Int))∧(z19<(x.snd.fst+(1:Int))*valN v∧z105<z22)∧((0:Int)≤z106∧z106<(4294967296:Int))∧((0:Int)≤z107∧z107≤(1:Int))∧(Dig z108∧z108.length=U.length)∧(∀(m:Nat),m<j∨j+z109≤m→nthD z108 m (0:Int)=nthD U m (0:Int))∧valN (prt z108 j z109)=valN (prt U j z109) - x.snd.fst*valN (List.take z109 v)+(4294967296:Int)^z109*(z106+z107)→(decide (x.fst<z9)=true→(0:Int)≤x.fst∧x.fst<z0∧z109<v.length∧(0:Int)≤(32:Int)∧(32:Int)≤(64:Int)∧U.length=z108.length∧(0:Int)≤x.fst∧x.fst<z2∧j+z1≤U.length∧U.length=z108.length∧j+z109<z108.length∧(0:Int)≤(63:Int)∧(63:Int)≤(64:Int)∧U.length=z108.length∧(0:Int)≤x.fst∧x.fst<z2∧j+z1≤U.length∧U.length=z108.length∧j+z109<z108.length∧inR .i64 z110∧((z7.same z7∧(SV.row z8 v).same (SV.row z8 v)∧z10.same z10∧z111.same z111∧z114.same z114∧z117.same z117∧z10.same z10∧z118.same z118∧True)∧z120.same z120∧True)∧(((0:Int)≤z110∧z110≤z9)∧((0:Int)≤x.snd.fst∧x.snd.fst<(4294967296:Int))∧(z19<(x.snd.fst+(1:Int))*valN v∧z105<z22)∧((0:Int)≤z113∧z113<(4294967296:Int))∧((0:Int)≤z116∧z116≤(1:Int))∧(Dig z119∧z119.length=U.length)∧(∀(m:Nat),m<j∨j+z121≤m→nthD z119 m (0:Int)=nthD U m (0:Int))∧valN (prt z119 j z121)=valN (prt U j z121) - x.snd.fst*valN (List.take z121 v)+(4294967296:Int)^z121*(z113+z116))∧(z9 - z110).toNat<(z9 - x.fst).toNat)∧(decide (x.fst<z9)=false→U.length=z108.length∧(0:Int)≤z9∧z9<z2∧j+z1≤U.length∧U.length=z108.length∧z24<z108.length∧U.length=z108.length∧(0:Int)≤z9∧z9<z2∧j+z1≤U.length∧U.length=z108.length∧z24<z108.length∧(0:Int)≤(63:Int)∧(63:Int)≤(64:Int)∧(z123=true→(SV.si .u32 (x.snd.fst % (4294967296:Int))).same z25∧z125.same z26∧True)∧(z123=false→(((z7.same z7∧(SV.row z8 v).same (SV.row z8 v)∧z10.same z10∧z111.same z111∧(SV.il .u64 0).same (SV.si .u64 0)∧z10.same z10∧(SV.il .i64 0).same (SV.si .i64 0)∧True)∧z125.same z125∧True)∧((0:Int)≤(0:Int)∧(0:Int)≤z9)∧((0:Int)≤x.snd.fst∧x.snd.fst<(4294967296:Int))∧(z19<z105∧z105<z22)∧((0:Int)≤(0:Int)∧(0:Int)≤(1:Int))∧(Dig z124∧z124.length=U.length)∧∃W,(Dig W∧W.length=U.length)∧(∀(m:Nat),m<j∨j+z1≤m→nthD W m (0:Int)=nthD U m (0:Int))∧valN (prt W j z1)=z19 - z105+z27∧(∀(m:Nat),m<j∨j+0≤m→nthD z124 m (0:Int)=nthD W m (0:Int))∧valN (prt z124 j 0)+(0:Int)=valN (prt W j 0)+valN [])∧∀(x:Int×Int×Int×List Int),let z126:=x.snd.fst*valN v;let z127:=x.snd.snd.fst;let z128:=x.snd.snd.snd;let z129:=x.fst.toNat;let z130:=x.fst+(1:Int);let z131:=SV.si .u64 x.snd.fst;let z132:=((nthD z128 (j+z129) 0 % (18446744073709551616:Int)+nthD v z129 (0:Int) % (18446744073709551616:Int)) % (18446744073709551616:Int)+z127) % (18446744073709551616:Int);let z133:=z132 / (4294967296:Int);let z134:=SV.si .u64 z133;let z135:=SV.si .i64 z130;let z136:=z128.set (j+z129) (z132 % (4294967296:Int));let z137:=SObj.row z8 z136 81 false;let z138:=z130.toNat;(((0:Int)≤x.fst∧x.fst≤z9)∧((0:Int)≤x.snd.fst∧x.snd.fst<(4294967296:Int))∧(z19<z126∧z126<z22)∧((0:Int)≤z127∧z127≤(1:Int))∧(Dig z128∧z128.length=U.length)∧∃W,(Dig W∧W.length=U.length)∧(∀(m:Nat),m<j∨j+z1≤m→nthD W m (0:Int)=nthD U m (0:Int))∧valN (prt W j z1)=z19 - z126+z27∧(∀(m:Nat),m<j∨j+z129≤m→nthD z128 m (0:Int)=nthD W m (0:Int))∧valN (prt z128 j z129)+(4294967296:Int)^z129*z127=valN (prt W j z129)+valN (List.take z129 v))→(decide (x.fst<z9)=true→U.length=z128.length∧(0:Int)≤x.fst∧x.fst<z2∧j+z1≤U.length∧U.length=z128.length∧j+z129<z128.length∧(0:Int)≤x.fst∧x.fst<z0∧z129<v.length∧(0:Int)≤(32:Int)∧(32:Int)≤(64:Int)∧U.length=z128.length∧(0:Int)≤x.fst∧x.fst<z2∧j+z1≤U.length∧U.length=z128.length∧j+z129<z128.length∧inR .i64 z130∧((z7.same z7∧(SV.row z8 v).same (SV.row z8 v)∧z10.same z10∧z131.same z131∧z134.same z134∧z10.same z10∧z135.same z135∧True)∧z137.same z137∧True)∧(((0:Int)≤z130∧z130≤z9)∧((0:Int)≤x.snd.fst∧x.snd.fst<(4294967296:Int))∧(z19<z126∧z126<z22)∧((0:Int)≤z133∧z133≤(1:Int))∧(Dig z136∧z136.length=U.length)∧∃W,(Dig W∧W.length=U.length)∧(∀(m:Nat),m<j∨j+z1≤m→nthD W m (0:Int)=nthD U m (0:Int))∧valN (prt W j z1)=z19 - z126+z27∧(∀(m:Nat),m<j∨j+z138≤m→nthD z136 m (0:Int)=nthD W m (0:Int))∧valN (prt z136 j z138)+(4294967296:Int)^z138*z133=valN (prt W j z138)+valN (List.take z138 v))∧(z9 - z130).toNat<(z9 - x.fst).toNat)∧(decide (x.fst<z9)=false→U.length=z128.length∧(0:Int)≤z9∧z9<z2∧j+z1≤U.length∧U.length=z128.length∧z24<z128.length∧U.length=z128.length∧(0:Int)≤z9∧z9<z2∧j+z1≤U.length∧U.length=z128.length∧z24<z128.length∧(SV.si .u32 ((x.snd.fst - (1:Int)) % (18446744073709551616:Int) % (4294967296:Int))).same z25∧(SObj.row z8 (z128.set z24 ((nthD z128 z24 (0:Int)+z127 % (4294967296:Int)) % (4294967296:Int))) 81 false).same z26∧True)))))) (by kernel_rfl) ?_
 simp only[vcs]
 have t1:((v.length:Int) - 1).toNat=v.length - 1:=by omega
 have t2:((v.length:Int) - 2).toNat=v.length - 2:=by omega
 have t3:((v.length:Int)).toNat=v.length:=by omega
 have hVe:=top_two hn rfl
 have hXe:=@top_three U j v.length hn
 have dv1:=dig_nth hv (v.length - 1)
 have dv2:=dig_nth hv (v.length - 2)
 have du0:=dig_nth hU (j+v.length)
 have du1:=dig_nth hU (j+(v.length - 1))
 have du2:=dig_nth hU (j+(v.length - 2))
 have m1:nthD v (v.length - 1) 0 % 18446744073709551616=nthD v (v.length - 1) 0:=by omega
 have m2:nthD v (v.length - 2) 0 % 18446744073709551616=nthD v (v.length - 2) 0:=by omega
 have m3:nthD U (j+v.length) 0 % 18446744073709551616=nthD U (j+v.length) 0:=by omega
 have m4:nthD U (j+(v.length - 1)) 0 % 18446744073709551616=nthD U (j+(v.length - 1)) 0:=by omega
 have m5:nthD U (j+(v.length - 2)) 0 % 18446744073709551616=nthD U (j+(v.length - 2)) 0:=by omega
 have m6:nthD U (j+v.length) 0*4294967296 % 18446744073709551616=nthD U (j+v.length) 0*4294967296:=by omega
 have hor:=or_add du0.1 du0.2 du1.1 du1.2
 have htop:0≤nthD U (j+v.length) 0*4294967296+nthD U (j+(v.length - 1)) 0:=by omega
 have hx':valN (prt U j (v.length+1))<4294967296*valN v:=hx
 have hP:=pow_pos (v.length - 2)
 have hrv:=val_nonneg (dig_take hv (v.length - 2))
 have hrv2:=val_bdN (dig_take hv (v.length - 2))
 rw[List.length_take,Nat.min_eq_left (by omega)] at hrv2
 have hru:=val_nonneg (prt_dig hU (j:=j) (k:=v.length - 2))
 have hru2:=prt_bd hU (j:=j) (k:=v.length - 2)
 have hV0:=val_nonneg hv
 have hX0:=val_nonneg (prt_dig hU (j:=j) (k:=v.length+1))
 have htp:=kn_top hP hVe hXe hrv2 hru du2.1 du1.1 dv2.2 hx'
 have hax:(DgA.mk U j (v.length+1) U.length v).x=valN (prt U j (v.length+1)):=rfl
 simp only[hax,t1,t2,t3,m1,m2,m3,m4,m5,m6,hor,Int.tdiv_eq_ediv_of_nonneg htop,Int.tmod_eq_emod_of_nonneg htop]
 generalize hv1e:nthD v (v.length - 1) 0=v1 at*
 generalize hv2e:nthD v (v.length - 2) 0=v2 at*
 generalize hu0e:nthD U (j+v.length) 0=u0 at*
 generalize hu1e:nthD U (j+(v.length - 1)) 0=u1 at*
 generalize hu2e:nthD U (j+(v.length - 2)) 0=u2 at*
 have hqr:=Int.mul_ediv_add_emod (u0*4294967296+u1) v1
 have hr0:=Int.emod_nonneg (u0*4294967296+u1) (show v1≠0 by omega)
 have hr1:=Int.emod_lt_of_pos (u0*4294967296+u1) (show 0<v1 by omega)
 have hg0:0≤(u0*4294967296+u1) / v1:=Int.ediv_nonneg htop (by omega)
 generalize hge:(u0*4294967296+u1) / v1=g0 at*
 generalize hre:(u0*4294967296+u1) % v1=r0 at*
 have hg1:g0≤4294967297:=by
  by_cases h:g0≤4294967297
  ·exact h
  ·exfalso
   have:=Int.mul_le_mul_of_nonneg_left (show(4294967298:Int)≤g0 by omega) (show 0≤v1 by omega)
   omega
 have hqr2:g0*v1+r0=u1+4294967296*u0:=by rw[Int.mul_comm g0];omega
 have hst:=kn_start hP hVe hXe hrv hru2 dv2.1 du2.2 hg0 hqr2 hr1
 have hin:inR .u64 g0:=u64_in hg0 (by omega)
 repeat refine And.intro (by omega) ?_
 clear t1 t2 t3 m1 m2 m3 m4 m5 m6 hor htop hge hre hqr hr0 hr1 hg0 hg1 hqr2 hst hin hv1e hv2e hu1e hu2e hx
 rintro⟨g,r⟩ ⟨⟨g0',g1'⟩,⟨r0',r1'⟩,hgr,hgx⟩
 simp only at g0' g1' r0' r1' hgr hgx ⊢
 have hgpos:0<g+1:=by omega
 have e1:(r+v1) % 18446744073709551616=r+v1:=by omega
 have e2:r*4294967296 % 18446744073709551616=r*4294967296:=by omega
 have gv0:0≤g*v2:=Int.mul_nonneg g0' dv2.1
 have gv1:g*v2≤4294967297*4294967295:=Int.mul_le_mul (by omega) (by omega) dv2.1 (by omega)
 have e3:g*v2 % 18446744073709551616=g*v2:=by omega
 have hor2:=or_add r0' r1' du2.1 du2.2
 have hgr2:g*v1+r=u1+4294967296*u0:=hgr
 have hbrk:4294967296≤r+v1→g≤4294967296:=fun h=>by
  by_cases hg:g≤4294967296
  ·exact hg
  ·have:g=4294967297:=by omega
   subst this
   omega
 have dec:(4294967296≤g∨r*4294967296+u2<g*v2)→(valN (prt U j (v.length+1))<g*valN v∧(g - 1) % 18446744073709551616=g - 1∧0≤g - 1∧(g - 1)*v1+(r+v1)=u1+4294967296*u0):=fun h=>by
  have h1:=kn_gt hP hVe hXe hrv hru2 hx' hV0 g0' hgr2 h
  have h2:g≠0:=by
   rintro rfl
   omega
  refine⟨h1,by omega,by omega,?_⟩
  rw[Int.sub_mul,Int.one_mul]
  omega
 simp only[e1,e2,e3,hor2]
 have brk:(4294967296≤g∨r*4294967296+u2<g*v2)→4294967296≤r+v1→∃gg,gg=(g - 1) % 18446744073709551616∧(0≤gg∧gg<4294967296)∧valN (prt U j (v.length+1))<(gg+1)*valN v∧gg*valN v<valN (prt U j (v.length+1))+valN v:=fun h hb=>by
  obtain⟨k1,k2,k3,k4⟩:=dec h
  have k5:=hbrk hb
  rw[k2]
  refine⟨_,rfl,by omega,by rw[show g - 1+1=g by omega];exact k1,kn_le hP hVe hXe hrv hrv2 hru hv1 dv2.1 k3 (by omega) k4 ?_⟩
  have:=Int.mul_le_mul (show g - 1≤4294967295 by omega) (show v2≤4294967295 by omega) dv2.1 (by omega)
  omega
 have nbr:(4294967296≤g∨r*4294967296+u2<g*v2)→¬4294967296≤r+v1→(0≤(g - 1) % 18446744073709551616∧(g - 1) % 18446744073709551616≤4294967297)∧(g - 1) % 18446744073709551616*v1+(r+v1)=u1+4294967296*u0∧valN (prt U j (v.length+1))<((g - 1) % 18446744073709551616+1)*valN v∧((g - 1) % 18446744073709551616).toNat<g.toNat:=fun h hb=>by
  obtain⟨k1,k2,k3,k4⟩:=dec h
  rw[k2]
  exact⟨by omega,k4,by rw[show g - 1+1=g by omega];exact k1,by omega⟩
 have ext:¬4294967296≤g→¬r*4294967296+u2<g*v2→∃gg,gg=g∧(0≤gg∧gg<4294967296)∧valN (prt U j (v.length+1))<(gg+1)*valN v∧gg*valN v<valN (prt U j (v.length+1))+valN v:=fun h h2=>
  ⟨_,rfl,by omega,hgx,kn_le hP hVe hXe hrv hrv2 hru hv1 dv2.1 g0' (by omega) hgr2 (by omega)⟩
 clear hgr2 hgpos e1 e2 e3 gv0 gv1 hor2 hVe hXe hrv hrv2 hru hru2 hbrk dec htp
 refine⟨fun hB=>?_,fun hB=>?_⟩
 ·refine⟨by omega,by omega,by omega,by omega,?_⟩
  refine⟨fun hb=>?_,fun hb=>?_⟩
  ·obtain⟨gg,hgg,f0,f2,f3⟩:=brk (.inl hB) hb
   rw[←hgg]
   clear hB hb
   clear hgg brk nbr ext hgx hgr
   refine⟨?_,?_⟩
   ·repeat' refine And.intro ?_ ?_
    all_goals first|omega|exact hU|exact f2|exact f3|exact fun _ _=>trivial|(simp only[valN];omega)
   clear f0 f2 f3
   rintro⟨i,ga,c,b,R⟩ ⟨⟨i0,i1⟩,⟨ga0,ga1⟩,⟨f2,f3⟩,⟨c0,c1⟩,⟨b0,b1⟩,⟨hR,hRl⟩,ho,he⟩
   simp only at i0 i1 ga0 ga1 f2 f3 c0 c1 b0 b1 hR hRl ho he ⊢
   refine⟨fun ilt=>?_,fun ige=>?_⟩
   ·have x:=dig_nth hv i.toNat
    have y:=dig_nth hR (j+i.toNat)
    have gx0:0≤ga*nthD v i.toNat 0:=Int.mul_nonneg ga0 x.1
    have gx1:ga*nthD v i.toNat 0≤4294967295*4294967295:=Int.mul_le_mul (by omega) (by omega) x.1 (by omega)
    have q1:nthD v i.toNat 0 % 18446744073709551616=nthD v i.toNat 0:=by omega
    have q2:nthD R (j+i.toNat) 0 % 18446744073709551616=nthD R (j+i.toNat) 0:=by omega
    have q3:(ga*nthD v i.toNat 0 % 18446744073709551616+c) % 18446744073709551616=ga*nthD v i.toNat 0+c:=by omega
    have hi1:(i+1).toNat=i.toNat+1:=by omega
    rw[q1,q2,q3,and_mask (by omega) (by omega),hi1]
    generalize hq:((nthD R (j+i.toNat) 0 - (ga*nthD v i.toNat 0+c) % 4294967296) % 18446744073709551616 - b) % 18446744073709551616=q
    obtain⟨k1,k2,k3,k4,k5⟩:=ms_step (d:=q % 4294967296) (e:=q / 9223372036854775808) hR hRl hv ga0 ga1 c0 c1 b0 b1 (show j+i.toNat<U.length by omega) ho he (by omega) (by omega)
    repeat' refine And.intro ?_ ?_
    all_goals first|omega|exact k1|exact k2|exact k3|exact k4|exact k5|exact f2|exact f3
   ·have hi:i.toNat=v.length:=by omega
    rw[hi,List.take_length] at he
    rw[hi] at ho
    have hun:=ho (j+v.length) (.inr (Nat.le_refl _))
    have du:=dig_nth hU (j+v.length)
    have q2:nthD R (j+v.length) 0 % 18446744073709551616=nthD R (j+v.length) 0:=by rw[hun];omega
    have hXs:=@prt_succ U j v.length
    rw[q2]
    generalize hq:((nthD R (j+v.length) 0 - c) % 18446744073709551616 - b) % 18446744073709551616=q
    have hRset:Dig (R.set (j+v.length) (q % 4294967296)):=dig_set hR (by omega) (by omega)
    have hlen:(R.set (j+v.length) (q % 4294967296)).length=U.length:=by simp[hRl]
    have hout:∀m,(m<j∨j+(v.length+1)≤m)→nthD (R.set (j+v.length) (q % 4294967296)) m 0=nthD U m 0:=fun m hm=>by rw[nth_set_ne (by omega)];exact ho m (by omega)
    have hval:valN (prt (R.set (j+v.length) (q % 4294967296)) j (v.length+1))=valN (prt U j (v.length+1)) - ga*valN v+4294967296^(v.length+1)*(q / 9223372036854775808):=by
     rw[prt_succ,prt_set (Nat.le_refl _),nth_set_self (by omega),he,hXs,Int.pow_succ]
     have hd:q % 4294967296 - 4294967296*(q / 9223372036854775808)=nthD U (j+v.length) 0 - c - b:=by rw[hun] at hq;omega
     generalize (4294967296:Int)^v.length=B
     have e:B*4294967296*(q / 9223372036854775808)=B*(q % 4294967296+c+b - nthD U (j+v.length) 0):=by rw[Int.mul_assoc];congr 1;omega
     rw[e]
     simp only[Int.mul_add,Int.mul_sub]
     omega
    generalize hW:R.set (j+v.length) (q % 4294967296)=W at*
    have hbd:=prt_bd hRset (j:=j) (k:=v.length+1)
    have hnn:=val_nonneg (prt_dig hRset (j:=j) (k:=v.length+1))
    have q3:0≤q∧q<18446744073709551616:=by omega
    clear hq hun du q2 he ho hR
    repeat refine And.intro (by omega) ?_
    refine⟨fun hz=>?_,fun hz=>?_⟩
    ·rw[hz,Int.mul_zero,Int.add_zero] at hval
     obtain⟨w1,w2⟩:=qr_of (q:=ga) (show ga*valN v≤valN (prt U j (v.length+1)) by omega) f2
     refine⟨by rw[w1];omega,?_⟩
     have hfin:W=wth U j (digK (v.length+1) (valN (prt U j (v.length+1)) % valN v)):=wth_of hRset hlen (by omega) hout (by rw[hval,w2])
     rw[hfin]
     rfl
    ·have hq1:q / 9223372036854775808=1:=by omega
     rw[hq1,Int.mul_one] at hval
     have f4:valN (prt U j (v.length+1))<ga*valN v:=by omega
     refine⟨?_,?_⟩
     ·repeat' refine And.intro ?_ ?_
      all_goals first|omega|exact hRset|exact hlen|exact⟨W,⟨hRset,hlen⟩,hout,hval,fun _ _=>rfl,by simp only[valN]⟩
     clear hRset hlen hout hval hW hbd hnn q3 hz hq1 f4 f2 f3 c0 c1 b0 b1 i0 i1 ga0 ga1
     rintro⟨i2,gb,c2,R2⟩ ⟨⟨i0,i1⟩,⟨gb0,gb1⟩,⟨f5,f6⟩,⟨c0,c1⟩,⟨hR2,hR2l⟩,W2,⟨hW2,hW2l⟩,ho2,hvW,ho3,he3⟩
     simp only at i0 i1 gb0 gb1 f5 f6 c0 c1 hR2 hR2l ho3 he3 ⊢
     refine⟨fun ilt=>?_,fun ige=>?_⟩
     ·have x:=dig_nth hv i2.toNat
      have y:=dig_nth hR2 (j+i2.toNat)
      have hi1:(i2+1).toNat=i2.toNat+1:=by omega
      rw[hi1]
      have hs:((nthD R2 (j+i2.toNat) 0 % 18446744073709551616+nthD v i2.toNat 0 % 18446744073709551616) % 18446744073709551616+c2) % 18446744073709551616=nthD R2 (j+i2.toNat) 0+nthD v i2.toNat 0+c2:=by omega
      rw[hs]
      obtain⟨k1,k2,k3,k4,k5⟩:=ab_step hR2 (hR2l.trans hW2l.symm) hv c0 c1 (show j+i2.toNat<W2.length by omega) hW2 ho3 he3 rfl
      repeat' refine And.intro ?_ ?_
      all_goals first|omega|exact k1|exact f5|exact f6|exact⟨W2,⟨hW2,hW2l⟩,ho2,hvW,k4,k5⟩
     ·have hi2:i2.toNat=v.length:=by omega
      rw[hi2,List.take_length] at he3
      rw[hi2] at ho3
      have hun:=ho3 (j+v.length) (.inr (Nat.le_refl _))
      have du:=dig_nth hW2 (j+v.length)
      have hXs:=@prt_succ W2 j v.length
      have hc2:c2 % 4294967296=c2:=by omega
      rw[hc2,hun]
      have hF:Dig (R2.set (j+v.length) ((nthD W2 (j+v.length) 0+c2) % 4294967296)):=dig_set hR2 (by omega) (by omega)
      have hFl:(R2.set (j+v.length) ((nthD W2 (j+v.length) 0+c2) % 4294967296)).length=U.length:=by simp[hR2l]
      have hFo:∀m,(m<j∨j+(v.length+1)≤m)→nthD (R2.set (j+v.length) ((nthD W2 (j+v.length) 0+c2) % 4294967296)) m 0=nthD U m 0:=fun m hm=>by rw[nth_set_ne (by omega),ho3 m (by omega)];exact ho2 m hm
      have hFv:valN (prt (R2.set (j+v.length) ((nthD W2 (j+v.length) 0+c2) % 4294967296)) j (v.length+1))=valN (prt U j (v.length+1)) - gb*valN v+4294967296^(v.length+1)+valN v - 4294967296^(v.length+1)*((nthD W2 (j+v.length) 0+c2) / 4294967296):=by
       rw[prt_succ,prt_set (Nat.le_refl _),nth_set_self (by omega),←hvW,hXs,Int.pow_succ]
       generalize (4294967296:Int)^v.length=B at*
       have e:B*4294967296*((nthD W2 (j+v.length) 0+c2) / 4294967296)=B*(nthD W2 (j+v.length) 0+c2 - (nthD W2 (j+v.length) 0+c2) % 4294967296):=by rw[Int.mul_assoc];congr 1;omega
       rw[e]
       simp only[Int.mul_add,Int.mul_sub]
       omega
      have hbd:=prt_bd hF (j:=j) (k:=v.length+1)
      have hk:(nthD W2 (j+v.length) 0+c2) / 4294967296=1:=by
       by_cases h:(nthD W2 (j+v.length) 0+c2) / 4294967296=1
       ·exact h
       ·have h0:(nthD W2 (j+v.length) 0+c2) / 4294967296=0:=by omega
        rw[h0,Int.mul_zero] at hFv
        omega
      rw[hk,Int.mul_one] at hFv
      have e1:(gb - 1)*valN v=gb*valN v - valN v:=by rw[Int.sub_mul,Int.one_mul]
      obtain⟨w1,w2⟩:=qr_of (q:=gb - 1) (show(gb - 1)*valN v≤valN (prt U j (v.length+1)) by omega) (by rw[show gb - 1+1=gb by omega];exact f5)
      have hgpos:0<gb:=by
       by_cases h:0<gb
       ·exact h
       ·have:gb=0:=by omega
        subst this
        omega
      have hfin:R2.set (j+v.length) ((nthD W2 (j+v.length) 0+c2) % 4294967296)=wth U j (digK (v.length+1) (valN (prt U j (v.length+1)) % valN v)):=wth_of hF hFl (by omega) hFo (by rw[hFv,w2,e1];omega)
      repeat refine And.intro (by omega) ?_
      rw[hfin]
      rfl
  ·obtain⟨k1,k2,k3,k4⟩:=nbr (.inl hB) hb
   repeat' refine And.intro ?_ ?_
   all_goals first|omega|exact k2|exact k3
 ·repeat refine And.intro (by omega) ?_
  refine⟨fun hc=>?_,fun hc=>?_⟩
  ·repeat refine And.intro (by omega) ?_
   refine⟨fun hb=>?_,fun hb=>?_⟩
   ·obtain⟨gg,hgg,f0,f2,f3⟩:=brk (.inr hc) hb
    rw[←hgg]
    clear hB hb hc
    clear hgg brk nbr ext hgx hgr
    refine⟨?_,?_⟩
    ·repeat' refine And.intro ?_ ?_
     all_goals first|omega|exact hU|exact f2|exact f3|exact fun _ _=>trivial|(simp only[valN];omega)
    clear f0 f2 f3
    rintro⟨i,ga,c,b,R⟩ ⟨⟨i0,i1⟩,⟨ga0,ga1⟩,⟨f2,f3⟩,⟨c0,c1⟩,⟨b0,b1⟩,⟨hR,hRl⟩,ho,he⟩
    simp only at i0 i1 ga0 ga1 f2 f3 c0 c1 b0 b1 hR hRl ho he ⊢
    refine⟨fun ilt=>?_,fun ige=>?_⟩
    ·have x:=dig_nth hv i.toNat
     have y:=dig_nth hR (j+i.toNat)
     have gx0:0≤ga*nthD v i.toNat 0:=Int.mul_nonneg ga0 x.1
     have gx1:ga*nthD v i.toNat 0≤4294967295*4294967295:=Int.mul_le_mul (by omega) (by omega) x.1 (by omega)
     have q1:nthD v i.toNat 0 % 18446744073709551616=nthD v i.toNat 0:=by omega
     have q2:nthD R (j+i.toNat) 0 % 18446744073709551616=nthD R (j+i.toNat) 0:=by omega
     have q3:(ga*nthD v i.toNat 0 % 18446744073709551616+c) % 18446744073709551616=ga*nthD v i.toNat 0+c:=by omega
     have hi1:(i+1).toNat=i.toNat+1:=by omega
     rw[q1,q2,q3,and_mask (by omega) (by omega),hi1]
     generalize hq:((nthD R (j+i.toNat) 0 - (ga*nthD v i.toNat 0+c) % 4294967296) % 18446744073709551616 - b) % 18446744073709551616=q
     obtain⟨k1,k2,k3,k4,k5⟩:=ms_step (d:=q % 4294967296) (e:=q / 9223372036854775808) hR hRl hv ga0 ga1 c0 c1 b0 b1 (show j+i.toNat<U.length by omega) ho he (by omega) (by omega)
     repeat' refine And.intro ?_ ?_
     all_goals first|omega|exact k1|exact k2|exact k3|exact k4|exact k5|exact f2|exact f3
    ·have hi:i.toNat=v.length:=by omega
     rw[hi,List.take_length] at he
     rw[hi] at ho
     have hun:=ho (j+v.length) (.inr (Nat.le_refl _))
     have du:=dig_nth hU (j+v.length)
     have q2:nthD R (j+v.length) 0 % 18446744073709551616=nthD R (j+v.length) 0:=by rw[hun];omega
     have hXs:=@prt_succ U j v.length
     rw[q2]
     generalize hq:((nthD R (j+v.length) 0 - c) % 18446744073709551616 - b) % 18446744073709551616=q
     have hRset:Dig (R.set (j+v.length) (q % 4294967296)):=dig_set hR (by omega) (by omega)
     have hlen:(R.set (j+v.length) (q % 4294967296)).length=U.length:=by simp[hRl]
     have hout:∀m,(m<j∨j+(v.length+1)≤m)→nthD (R.set (j+v.length) (q % 4294967296)) m 0=nthD U m 0:=fun m hm=>by rw[nth_set_ne (by omega)];exact ho m (by omega)
     have hval:valN (prt (R.set (j+v.length) (q % 4294967296)) j (v.length+1))=valN (prt U j (v.length+1)) - ga*valN v+4294967296^(v.length+1)*(q / 9223372036854775808):=by
      rw[prt_succ,prt_set (Nat.le_refl _),nth_set_self (by omega),he,hXs,Int.pow_succ]
      have hd:q % 4294967296 - 4294967296*(q / 9223372036854775808)=nthD U (j+v.length) 0 - c - b:=by rw[hun] at hq;omega
      generalize (4294967296:Int)^v.length=B
      have e:B*4294967296*(q / 9223372036854775808)=B*(q % 4294967296+c+b - nthD U (j+v.length) 0):=by rw[Int.mul_assoc];congr 1;omega
      rw[e]
      simp only[Int.mul_add,Int.mul_sub]
      omega
     generalize hW:R.set (j+v.length) (q % 4294967296)=W at*
     have hbd:=prt_bd hRset (j:=j) (k:=v.length+1)
     have hnn:=val_nonneg (prt_dig hRset (j:=j) (k:=v.length+1))
     have q3:0≤q∧q<18446744073709551616:=by omega
     clear hq hun du q2 he ho hR
     repeat refine And.intro (by omega) ?_
     refine⟨fun hz=>?_,fun hz=>?_⟩
     ·rw[hz,Int.mul_zero,Int.add_zero] at hval
      obtain⟨w1,w2⟩:=qr_of (q:=ga) (show ga*valN v≤valN (prt U j (v.length+1)) by omega) f2
      refine⟨by rw[w1];omega,?_⟩
      have hfin:W=wth U j (digK (v.length+1) (valN (prt U j (v.length+1)) % valN v)):=wth_of hRset hlen (by omega) hout (by rw[hval,w2])
      rw[hfin]
      rfl
     ·have hq1:q / 9223372036854775808=1:=by omega
      rw[hq1,Int.mul_one] at hval
      have f4:valN (prt U j (v.length+1))<ga*valN v:=by omega
      refine⟨?_,?_⟩
      ·repeat' refine And.intro ?_ ?_
       all_goals first|omega|exact hRset|exact hlen|exact⟨W,⟨hRset,hlen⟩,hout,hval,fun _ _=>rfl,by simp only[valN]⟩
      clear hRset hlen hout hval hW hbd hnn q3 hz hq1 f4 f2 f3 c0 c1 b0 b1 i0 i1 ga0 ga1
      rintro⟨i2,gb,c2,R2⟩ ⟨⟨i0,i1⟩,⟨gb0,gb1⟩,⟨f5,f6⟩,⟨c0,c1⟩,⟨hR2,hR2l⟩,W2,⟨hW2,hW2l⟩,ho2,hvW,ho3,he3⟩
      simp only at i0 i1 gb0 gb1 f5 f6 c0 c1 hR2 hR2l ho3 he3 ⊢
      refine⟨fun ilt=>?_,fun ige=>?_⟩
      ·have x:=dig_nth hv i2.toNat
       have y:=dig_nth hR2 (j+i2.toNat)
       have hi1:(i2+1).toNat=i2.toNat+1:=by omega
       rw[hi1]
       have hs:((nthD R2 (j+i2.toNat) 0 % 18446744073709551616+nthD v i2.toNat 0 % 18446744073709551616) % 18446744073709551616+c2) % 18446744073709551616=nthD R2 (j+i2.toNat) 0+nthD v i2.toNat 0+c2:=by omega
       rw[hs]
       obtain⟨k1,k2,k3,k4,k5⟩:=ab_step hR2 (hR2l.trans hW2l.symm) hv c0 c1 (show j+i2.toNat<W2.length by omega) hW2 ho3 he3 rfl
       repeat' refine And.intro ?_ ?_
       all_goals first|omega|exact k1|exact f5|exact f6|exact⟨W2,⟨hW2,hW2l⟩,ho2,hvW,k4,k5⟩
      ·have hi2:i2.toNat=v.length:=by omega
       rw[hi2,List.take_length] at he3
       rw[hi2] at ho3
       have hun:=ho3 (j+v.length) (.inr (Nat.le_refl _))
       have du:=dig_nth hW2 (j+v.length)
       have hXs:=@prt_succ W2 j v.length
       have hc2:c2 % 4294967296=c2:=by omega
       rw[hc2,hun]
       have hF:Dig (R2.set (j+v.length) ((nthD W2 (j+v.length) 0+c2) % 4294967296)):=dig_set hR2 (by omega) (by omega)
       have hFl:(R2.set (j+v.length) ((nthD W2 (j+v.length) 0+c2) % 4294967296)).length=U.length:=by simp[hR2l]
       have hFo:∀m,(m<j∨j+(v.length+1)≤m)→nthD (R2.set (j+v.length) ((nthD W2 (j+v.length) 0+c2) % 4294967296)) m 0=nthD U m 0:=fun m hm=>by rw[nth_set_ne (by omega),ho3 m (by omega)];exact ho2 m hm
       have hFv:valN (prt (R2.set (j+v.length) ((nthD W2 (j+v.length) 0+c2) % 4294967296)) j (v.length+1))=valN (prt U j (v.length+1)) - gb*valN v+4294967296^(v.length+1)+valN v - 4294967296^(v.length+1)*((nthD W2 (j+v.length) 0+c2) / 4294967296):=by
        rw[prt_succ,prt_set (Nat.le_refl _),nth_set_self (by omega),←hvW,hXs,Int.pow_succ]
        generalize (4294967296:Int)^v.length=B at*
        have e:B*4294967296*((nthD W2 (j+v.length) 0+c2) / 4294967296)=B*(nthD W2 (j+v.length) 0+c2 - (nthD W2 (j+v.length) 0+c2) % 4294967296):=by rw[Int.mul_assoc];congr 1;omega
        rw[e]
        simp only[Int.mul_add,Int.mul_sub]
        omega
       have hbd:=prt_bd hF (j:=j) (k:=v.length+1)
       have hk:(nthD W2 (j+v.length) 0+c2) / 4294967296=1:=by
        by_cases h:(nthD W2 (j+v.length) 0+c2) / 4294967296=1
        ·exact h
        ·have h0:(nthD W2 (j+v.length) 0+c2) / 4294967296=0:=by omega
         rw[h0,Int.mul_zero] at hFv
         omega
       rw[hk,Int.mul_one] at hFv
       have e1:(gb - 1)*valN v=gb*valN v - valN v:=by rw[Int.sub_mul,Int.one_mul]
       obtain⟨w1,w2⟩:=qr_of (q:=gb - 1) (show(gb - 1)*valN v≤valN (prt U j (v.length+1)) by omega) (by rw[show gb - 1+1=gb by omega];exact f5)
       have hgpos:0<gb:=by
        by_cases h:0<gb
        ·exact h
        ·have:gb=0:=by omega
         subst this
         omega
       have hfin:R2.set (j+v.length) ((nthD W2 (j+v.length) 0+c2) % 4294967296)=wth U j (digK (v.length+1) (valN (prt U j (v.length+1)) % valN v)):=wth_of hF hFl (by omega) hFo (by rw[hFv,w2,e1];omega)
       repeat refine And.intro (by omega) ?_
       rw[hfin]
       rfl
   ·obtain⟨k1,k2,k3,k4⟩:=nbr (.inr hc) hb
    repeat' refine And.intro ?_ ?_
    all_goals first|omega|exact k2|exact k3
  ·obtain⟨gg,hgg,f0,f2,f3⟩:=ext hB hc
   rw[←hgg]
   clear hB hc
   clear hgg brk nbr ext hgx hgr
   refine⟨?_,?_⟩
   ·repeat' refine And.intro ?_ ?_
    all_goals first|omega|exact hU|exact f2|exact f3|exact fun _ _=>trivial|(simp only[valN];omega)
   clear f0 f2 f3
   rintro⟨i,ga,c,b,R⟩ ⟨⟨i0,i1⟩,⟨ga0,ga1⟩,⟨f2,f3⟩,⟨c0,c1⟩,⟨b0,b1⟩,⟨hR,hRl⟩,ho,he⟩
   simp only at i0 i1 ga0 ga1 f2 f3 c0 c1 b0 b1 hR hRl ho he ⊢
   refine⟨fun ilt=>?_,fun ige=>?_⟩
   ·have x:=dig_nth hv i.toNat
    have y:=dig_nth hR (j+i.toNat)
    have gx0:0≤ga*nthD v i.toNat 0:=Int.mul_nonneg ga0 x.1
    have gx1:ga*nthD v i.toNat 0≤4294967295*4294967295:=Int.mul_le_mul (by omega) (by omega) x.1 (by omega)
    have q1:nthD v i.toNat 0 % 18446744073709551616=nthD v i.toNat 0:=by omega
    have q2:nthD R (j+i.toNat) 0 % 18446744073709551616=nthD R (j+i.toNat) 0:=by omega
    have q3:(ga*nthD v i.toNat 0 % 18446744073709551616+c) % 18446744073709551616=ga*nthD v i.toNat 0+c:=by omega
    have hi1:(i+1).toNat=i.toNat+1:=by omega
    rw[q1,q2,q3,and_mask (by omega) (by omega),hi1]
    generalize hq:((nthD R (j+i.toNat) 0 - (ga*nthD v i.toNat 0+c) % 4294967296) % 18446744073709551616 - b) % 18446744073709551616=q
    obtain⟨k1,k2,k3,k4,k5⟩:=ms_step (d:=q % 4294967296) (e:=q / 9223372036854775808) hR hRl hv ga0 ga1 c0 c1 b0 b1 (show j+i.toNat<U.length by omega) ho he (by omega) (by omega)
    repeat' refine And.intro ?_ ?_
    all_goals first|omega|exact k1|exact k2|exact k3|exact k4|exact k5|exact f2|exact f3
   ·have hi:i.toNat=v.length:=by omega
    rw[hi,List.take_length] at he
    rw[hi] at ho
    have hun:=ho (j+v.length) (.inr (Nat.le_refl _))
    have du:=dig_nth hU (j+v.length)
    have q2:nthD R (j+v.length) 0 % 18446744073709551616=nthD R (j+v.length) 0:=by rw[hun];omega
    have hXs:=@prt_succ U j v.length
    rw[q2]
    generalize hq:((nthD R (j+v.length) 0 - c) % 18446744073709551616 - b) % 18446744073709551616=q
    have hRset:Dig (R.set (j+v.length) (q % 4294967296)):=dig_set hR (by omega) (by omega)
    have hlen:(R.set (j+v.length) (q % 4294967296)).length=U.length:=by simp[hRl]
    have hout:∀m,(m<j∨j+(v.length+1)≤m)→nthD (R.set (j+v.length) (q % 4294967296)) m 0=nthD U m 0:=fun m hm=>by rw[nth_set_ne (by omega)];exact ho m (by omega)
    have hval:valN (prt (R.set (j+v.length) (q % 4294967296)) j (v.length+1))=valN (prt U j (v.length+1)) - ga*valN v+4294967296^(v.length+1)*(q / 9223372036854775808):=by
     rw[prt_succ,prt_set (Nat.le_refl _),nth_set_self (by omega),he,hXs,Int.pow_succ]
     have hd:q % 4294967296 - 4294967296*(q / 9223372036854775808)=nthD U (j+v.length) 0 - c - b:=by rw[hun] at hq;omega
     generalize (4294967296:Int)^v.length=B
     have e:B*4294967296*(q / 9223372036854775808)=B*(q % 4294967296+c+b - nthD U (j+v.length) 0):=by rw[Int.mul_assoc];congr 1;omega
     rw[e]
     simp only[Int.mul_add,Int.mul_sub]
     omega
    generalize hW:R.set (j+v.length) (q % 4294967296)=W at*
    have hbd:=prt_bd hRset (j:=j) (k:=v.length+1)
    have hnn:=val_nonneg (prt_dig hRset (j:=j) (k:=v.length+1))
    have q3:0≤q∧q<18446744073709551616:=by omega
    clear hq hun du q2 he ho hR
    repeat refine And.intro (by omega) ?_
    refine⟨fun hz=>?_,fun hz=>?_⟩
    ·rw[hz,Int.mul_zero,Int.add_zero] at hval
     obtain⟨w1,w2⟩:=qr_of (q:=ga) (show ga*valN v≤valN (prt U j (v.length+1)) by omega) f2
     refine⟨by rw[w1];omega,?_⟩
     have hfin:W=wth U j (digK (v.length+1) (valN (prt U j (v.length+1)) % valN v)):=wth_of hRset hlen (by omega) hout (by rw[hval,w2])
     rw[hfin]
     rfl
    ·have hq1:q / 9223372036854775808=1:=by omega
     rw[hq1,Int.mul_one] at hval
     have f4:valN (prt U j (v.length+1))<ga*valN v:=by omega
     refine⟨?_,?_⟩
     ·repeat' refine And.intro ?_ ?_
      all_goals first|omega|exact hRset|exact hlen|exact⟨W,⟨hRset,hlen⟩,hout,hval,fun _ _=>rfl,by simp only[valN]⟩
     clear hRset hlen hout hval hW hbd hnn q3 hz hq1 f4 f2 f3 c0 c1 b0 b1 i0 i1 ga0 ga1
     rintro⟨i2,gb,c2,R2⟩ ⟨⟨i0,i1⟩,⟨gb0,gb1⟩,⟨f5,f6⟩,⟨c0,c1⟩,⟨hR2,hR2l⟩,W2,⟨hW2,hW2l⟩,ho2,hvW,ho3,he3⟩
     simp only at i0 i1 gb0 gb1 f5 f6 c0 c1 hR2 hR2l ho3 he3 ⊢
     refine⟨fun ilt=>?_,fun ige=>?_⟩
     ·have x:=dig_nth hv i2.toNat
      have y:=dig_nth hR2 (j+i2.toNat)
      have hi1:(i2+1).toNat=i2.toNat+1:=by omega
      rw[hi1]
      have hs:((nthD R2 (j+i2.toNat) 0 % 18446744073709551616+nthD v i2.toNat 0 % 18446744073709551616) % 18446744073709551616+c2) % 18446744073709551616=nthD R2 (j+i2.toNat) 0+nthD v i2.toNat 0+c2:=by omega
      rw[hs]
      obtain⟨k1,k2,k3,k4,k5⟩:=ab_step hR2 (hR2l.trans hW2l.symm) hv c0 c1 (show j+i2.toNat<W2.length by omega) hW2 ho3 he3 rfl
      repeat' refine And.intro ?_ ?_
      all_goals first|omega|exact k1|exact f5|exact f6|exact⟨W2,⟨hW2,hW2l⟩,ho2,hvW,k4,k5⟩
     ·have hi2:i2.toNat=v.length:=by omega
      rw[hi2,List.take_length] at he3
      rw[hi2] at ho3
      have hun:=ho3 (j+v.length) (.inr (Nat.le_refl _))
      have du:=dig_nth hW2 (j+v.length)
      have hXs:=@prt_succ W2 j v.length
      have hc2:c2 % 4294967296=c2:=by omega
      rw[hc2,hun]
      have hF:Dig (R2.set (j+v.length) ((nthD W2 (j+v.length) 0+c2) % 4294967296)):=dig_set hR2 (by omega) (by omega)
      have hFl:(R2.set (j+v.length) ((nthD W2 (j+v.length) 0+c2) % 4294967296)).length=U.length:=by simp[hR2l]
      have hFo:∀m,(m<j∨j+(v.length+1)≤m)→nthD (R2.set (j+v.length) ((nthD W2 (j+v.length) 0+c2) % 4294967296)) m 0=nthD U m 0:=fun m hm=>by rw[nth_set_ne (by omega),ho3 m (by omega)];exact ho2 m hm
      have hFv:valN (prt (R2.set (j+v.length) ((nthD W2 (j+v.length) 0+c2) % 4294967296)) j (v.length+1))=valN (prt U j (v.length+1)) - gb*valN v+4294967296^(v.length+1)+valN v - 4294967296^(v.length+1)*((nthD W2 (j+v.length) 0+c2) / 4294967296):=by
       rw[prt_succ,prt_set (Nat.le_refl _),nth_set_self (by omega),←hvW,hXs,Int.pow_succ]
       generalize (4294967296:Int)^v.length=B at*
       have e:B*4294967296*((nthD W2 (j+v.length) 0+c2) / 4294967296)=B*(nthD W2 (j+v.length) 0+c2 - (nthD W2 (j+v.length) 0+c2) % 4294967296):=by rw[Int.mul_assoc];congr 1;omega
       rw[e]
       simp only[Int.mul_add,Int.mul_sub]
       omega
      have hbd:=prt_bd hF (j:=j) (k:=v.length+1)
      have hk:(nthD W2 (j+v.length) 0+c2) / 4294967296=1:=by
       by_cases h:(nthD W2 (j+v.length) 0+c2) / 4294967296=1
       ·exact h
       ·have h0:(nthD W2 (j+v.length) 0+c2) / 4294967296=0:=by omega
        rw[h0,Int.mul_zero] at hFv
        omega
      rw[hk,Int.mul_one] at hFv
      have e1:(gb - 1)*valN v=gb*valN v - valN v:=by rw[Int.sub_mul,Int.one_mul]
      obtain⟨w1,w2⟩:=qr_of (q:=gb - 1) (show(gb - 1)*valN v≤valN (prt U j (v.length+1)) by omega) (by rw[show gb - 1+1=gb by omega];exact f5)
      have hgpos:0<gb:=by
       by_cases h:0<gb
       ·exact h
       ·have:gb=0:=by omega
        subst this
        omega
      have hfin:R2.set (j+v.length) ((nthD W2 (j+v.length) 0+c2) % 4294967296)=wth U j (digK (v.length+1) (valN (prt U j (v.length+1)) % valN v)):=wth_of hF hFl (by omega) hFo (by rw[hFv,w2,e1];omega)
      repeat refine And.intro (by omega) ?_
      rw[hfin]
      rfl
theorem or_add32 {x m:Int} {k:Nat} (p:0≤x) (t:x<2^k) (o:0≤m) (j:m*2^k<4294967296) (u:x<4294967296):binK.orI .u32 x (m*2^k)=x+m*2^k:=by
 obtain⟨a,rfl⟩:=Int.eq_ofNat_of_zero_le p
 obtain⟨b,rfl⟩:=Int.eq_ofNat_of_zero_le o
 have e:((b:Int)*2^k)=((2^k*b:Nat):Int):=by grind
 have h:a<2^k:=by grind
 rw[e] at j ⊢
 generalize i:2^k*b=c at*
 have d:c<4294967296:=by omega
 have f:a<4294967296:=by omega
 have q:(BitVec.ofInt 32 ((a:Nat):Int)).toNat=a:=by simp_all
 have r:(BitVec.ofInt 32 ((c:Nat):Int)).toNat=c:=by simp_all
 have g:a |||c=a+c:=by
  rw[Nat.or_comm,←i,←Nat.two_pow_add_eq_or_of_lt h]
  omega
 have l:a+c<4294967296:=by
  rw[←g]
  exact Nat.or_lt_two_pow (n:=32) f d
 have s:(BitVec.ofInt 32 ((a:Nat):Int) |||BitVec.ofInt 32 ((c:Nat):Int)).toNat=a+c:=by
  grind
 show wrapI .u32 ((BitVec.ofInt 32 ((a:Nat):Int) |||BitVec.ofInt 32 ((c:Nat):Int)).toNat:Nat)=_
 grind[wrapI_eq,IntKind.wrap,IntKind.bits,IntKind.signed]
theorem nth_le:∀{l:List Int} {i:Nat},Dig l→4294967296^i*nthD l i 0≤valN l
 |[],i,_=>by simp[nthD,valN]
 |d::l,0,h=>by
  obtain⟨b,a⟩:=dig_cons.1 h
  have:=val_nonneg a
  grind[nthD,valN]
 |d::l,i+1,h=>by
  obtain⟨b,a⟩:=dig_cons.1 h
  have:=@nth_le l i a
  have e:nthD (d::l) (i+1) 0=nthD l i 0:=by simp[nthD]
  rw[e,Int.pow_succ,Int.mul_comm (4294967296^i),Int.mul_assoc]
  grind[valN]
theorem sh_step {a b:List Int} {i k:Nat} (n:Dig a) (e:Dig b) (F:b.length=a.length+1) (G:i<a.length) (u:k≤31) (q:valN b=valN (a.take i)*2^k):
  Dig ((b.set i (binK.orI .u32 (nthD b i 0) (nthD a i 0 % 18446744073709551616*2^k % 18446744073709551616 % 4294967296))).set (i+1) (nthD a i 0 % 18446744073709551616*2^k % 18446744073709551616 / 4294967296 % 4294967296))∧
  valN ((b.set i (binK.orI .u32 (nthD b i 0) (nthD a i 0 % 18446744073709551616*2^k % 18446744073709551616 % 4294967296))).set (i+1) (nthD a i 0 % 18446744073709551616*2^k % 18446744073709551616 / 4294967296 % 4294967296))=valN (a.take (i+1))*2^k:=by
 have x:=dig_nth n i
 have r:=dig_nth e i
 have c:(0:Int)<2^k:=Int.pow_pos (by decide)
 have A:(2:Int)^k≤2147483648:=by
  have D:(2:Nat)^k≤2^31:=Nat.pow_le_pow_right (by decide) u
  grind
 have w:(4294967296:Int)=2^(32 - k)*2^k:=by
  rw[←Int.pow_add,show 32 - k+k=32 by omega]
  decide
 have B:(0:Int)<2^(32 - k):=Int.pow_pos (by decide)
 have v:0≤nthD a i 0*2^k:=Int.mul_nonneg x.1 (Int.le_of_lt c)
 have H:nthD a i 0*2^k<4294967296*2^k:=Int.mul_lt_mul_of_pos_right x.2 c
 have z:nthD a i 0 % 18446744073709551616*2^k % 18446744073709551616=nthD a i 0*2^k:=by
  rw[Int.emod_eq_of_lt (a:=nthD a i 0) (by omega) (by omega),Int.emod_eq_of_lt v (by omega)]
 have o:nthD a i 0*2^k % 4294967296=(nthD a i 0 % 2^(32 - k))*2^k:=by
  conv=>lhs;rw[w]
  rw[Int.mul_comm (nthD a i 0),Int.mul_comm (2^(32 - k)),Int.mul_emod_mul_of_pos _ _ c,Int.mul_comm]
 have p:=Int.emod_nonneg (nthD a i 0) (show(2:Int)^(32 - k)≠0 by omega)
 have E:=Int.emod_lt_of_pos (nthD a i 0) B
 have s:=pow_pos i
 have d:valN b<4294967296^i*2^k:=by
  rw[q]
  have:=val_bdN (dig_take n i)
  rw[List.length_take,Nat.min_eq_left (by omega)] at this
  simp_all
 have h:nthD b i 0<2^k:=Int.lt_of_mul_lt_mul_left (Int.lt_of_le_of_lt (nth_le e) d) (Int.le_of_lt s)
 have m:nthD b (i+1) 0=0:=by
  refine nth_small e (i:=i+1) ?_ (Nat.le_refl _)
  rw[Int.pow_succ]
  exact Int.lt_of_lt_of_le d (Int.mul_le_mul_of_nonneg_left (by omega) (Int.le_of_lt s))
 have f:(nthD a i 0 % 2^(32 - k))*2^k+2^k≤4294967296:=by
  have:(nthD a i 0 % 2^(32 - k)+1)*2^k≤2^(32 - k)*2^k:=Int.mul_le_mul_of_nonneg_right (by omega) (Int.le_of_lt c)
  grind
 have l:0≤(nthD a i 0 % 2^(32 - k))*2^k:=Int.mul_nonneg p (Int.le_of_lt c)
 have g:=or_add32 (k:=k) r.1 h p (by omega) r.2
 rw[z,o,g]
 generalize y:nthD a i 0*2^k=t at*
 have j:(nthD a i 0 % 2^(32 - k))*2^k=t % 4294967296:=o.symm
 rw[j] at f l ⊢
 refine⟨dig_set (dig_set e (by omega) (by omega)) (by omega) (by omega),?_⟩
 rw[val_set (by simp;omega),val_set (by omega),nth_set_ne (by omega),m,take_snoc0,Int.add_mul,Int.mul_assoc,y,q,Int.pow_succ]
 have C:t / 4294967296 % 4294967296=t / 4294967296:=by omega
 grind
def shl (a:List Int) (k:Nat):List Int:=digK (a.length+1) (valN a*2^k)
abbrev ShA:=List Int×Int
def shD (a:ShA):Prop:=Dig a.1∧a.1.length≤100000000000∧0≤a.2∧a.2≤31
def r168p:SCtr:=⟨98,List Int×Int,.cons (codR (.i .u32)) (.one (codI .u64)),shD,fun a=> .row (.i .u32) (shl a.1 a.2.toNat)⟩
def r168:OCtr where
 f:=98
 α:=List Int×Int
 put a:=[.row (.i .u32) a.1,.si .u64 a.2]
 st _:=[]
 dec v o:=match v,o with
  |[v,m],[]=>match decRow (.i .u32) v,m.int .u64 with
   |some p,some m=>some (p,m)
   |_,_=>none
  |_,_=>none
 ok v o a h:=by
  split at h
  ·split at h
   ·rename_i h1 h2
    simp only[Option.some.injEq] at h;subst h
    exact⟨by simp only[gL,decRow_ok h1,int_g h2];rfl,rfl⟩
   ·cases h
  ·cases h
 inj a b h _:=by
  simp only[gL,List.cons.injEq,and_true] at h
  have h2:=h.2
  simp only[SV.g,AV.sc.injEq,Value.int.injEq,true_and] at h2
  exact Prod.ext ((codR (.i .u32)).inj _ _ h.1) h2
 dom:=shD
 res a:=.ow 0 (shl a.1 a.2.toNat).length 1
 out a:=[.row (.i .u32) (shl a.1 a.2.toNat) 81 false]
def Λ168 (a:ShA):Nat→LoopAnn
 |3=> .inv (Int×List Int) (fun x=>⟨[(0,.row (.i .u32) a.1),(1,.si .u64 a.2),(5,.ow 0 x.2.length 1),(13,.si .i64 a.1.length),(14,.si .i64 x.1)],[.row (.i .u32) x.2 81 false]⟩)
  (fun s=>(iS s 14,oS (.i .u32) s 0))
  (fun x=>(0≤x.1∧x.1≤a.1.length)∧Dig x.2∧x.2.length=a.1.length+1∧valN x.2=valN (a.1.take x.1.toNat)*2^a.2.toNat) (fun x=>(a.1.length - x.1).toNat) fun _ _=> .look
 |_=> .look
theorem h168:HoldsO Try.prog r168:=by
 refine conN (L:=[]) (W:=[]) r168 (fun _=>none) Λ168 (by simp) (by simp) ?_
 rintro⟨a,s⟩ ⟨ha,hla,s0,s1⟩
 simp only at ha hla s0 s1
 refine vcOf (let z0:=(↑a.length:Int);let z1:=z0+(1:Int);let z2:=SId.i .u32;let z3:=(0:Int)::List.replicate a.length (0:Int);let z4:=(↑a.length:Int);let z5:=SV.si .i64 z4;let z6:=SObj.row z2 z3 81 false;let z7:=a.length+1;let z8:=(2:Int)^s.toNat;inR .i64 z1∧(0:Int)≤z1∧z1≤z1∧z1*(4:Int)≤(140737488355328:Int)∧z1≤(1000000000000:Int)∧((((SV.row z2 a).same (SV.row z2 a)∧(SV.si .u64 s).same (SV.si .u64 s)∧(SV.ow 0 z1.toNat 1).same (SV.ow 0 z3.length 1)∧(SV.si .i64 z0).same z5∧(SV.il .i64 0).same (SV.si .i64 0)∧True)∧z6.same z6∧True)∧((0:Int)≤(0:Int)∧(0:Int)≤z4)∧Dig z3∧z3.length=z7∧valN z3=valN []*z8)∧∀(x:Int×List Int),let z9:=x.snd.length;let z10:=x.fst.toNat;let z11:=x.snd.length;let z12:=x.fst+(1:Int);let z13:=nthD a z10 (0:Int) % (18446744073709551616:Int)*z8 % (18446744073709551616:Int);let z14:=x.snd.set z10 (binK.orI .u32 (nthD x.snd z10 (0:Int)) (z13 % (4294967296:Int)));let z15:=SV.ow 0 z9 1;let z16:=z14.set z12.toNat (z13 / (4294967296:Int) % (4294967296:Int));let z17:=SV.si .i64 z12;let z18:=SObj.row z2 z16 81 false;((0:Int)≤x.fst∧x.fst≤z4)∧Dig x.snd∧z9=z7∧valN x.snd=valN (List.take z10 a)*z8→(decide (x.fst<z4)=true→(0:Int)≤x.fst∧x.fst<z0∧z10<a.length∧(0:Int)≤s∧s≤(64:Int)∧z9=z11∧(0:Int)≤x.fst∧x.fst<(↑z11:Int)∧z9=z11∧z10<z11∧z9=z11∧(0:Int)≤x.fst∧x.fst<(↑z11:Int)∧z9=z11∧z10<z11∧inR .i64 z12∧(0:Int)≤(32:Int)∧(32:Int)≤(64:Int)∧z9=z14.length∧(0:Int)≤z12∧z12<(↑z14.length:Int)∧z9=z14.length∧z12.toNat<z14.length∧inR .i64 z12∧(((SV.row z2 a).same (SV.row z2 a)∧(SV.si .u64 s).same (SV.si .u64 s)∧z15.same (SV.ow 0 z16.length 1)∧z5.same z5∧z17.same z17∧True)∧z18.same z18∧True)∧(((0:Int)≤z12∧z12≤z4)∧Dig z16∧z16.length=z7∧valN z16=valN (List.take z12.toNat a)*z8)∧(z4 - z12).toNat<(z4 - x.fst).toNat)∧(decide (x.fst<z4)=false→z15.same (SV.ow 0 (shl a s.toNat).length 1)∧(SObj.row z2 x.snd 81 false).same (SObj.row z2 (shl a s.toNat) 81 false)∧True)) (by kernel_rfl) ?_
 simp only[vcs]
 refine⟨by omega,by omega,by omega,by omega,by omega,?_,?_⟩
 ·repeat' refine And.intro ?_ ?_
  all_goals first|omega|exact howN (by simp)|exact dig_cons.2 ⟨by omega,rep_dig⟩|(simp;done)|(simp only[valN,rep_val];omega)
 rintro⟨i,row⟩ ⟨⟨i0,i1⟩,hr,hl,hv⟩
 simp only at i0 i1 hr hl hv ⊢
 refine⟨fun ilt=>?_,fun ige=>?_⟩
 ·obtain⟨k1,k2⟩:=sh_step ha hr hl (show i.toNat<a.length by omega) (show s.toNat≤31 by omega) hv
  have e:(i+1).toNat=i.toNat+1:=by omega
  rw[e]
  repeat' refine And.intro ?_ ?_
  all_goals first|omega|exact howN (by simp)|(simp only[List.length_set];done)|(simp only[List.length_set];omega)|exact k1|exact k2
 ·have hi:i.toNat=a.length:=by omega
  rw[hi,List.take_length] at hv
  have hrow:row=shl a s.toNat:=digK_of hr hl hv
  rw[hrow]
  exact⟨rfl,rfl⟩
theorem h168p:Holds Try.prog r168p:=by
 refine con0 (L:=[]) r168p Λ168 (by simp) ?_
 rintro⟨a,s⟩ ⟨ha,hla,s0,s1⟩
 simp only at ha hla s0 s1
 refine vcOf (let z0:=(↑a.length:Int);let z1:=z0+(1:Int);let z2:=SId.i .u32;let z3:=(0:Int)::List.replicate a.length (0:Int);let z4:=(↑a.length:Int);let z5:=SV.si .i64 z4;let z6:=SObj.row z2 z3 81 false;let z7:=a.length+1;let z8:=(2:Int)^s.toNat;inR .i64 z1∧(0:Int)≤z1∧z1≤z1∧z1*(4:Int)≤(140737488355328:Int)∧z1≤(1000000000000:Int)∧((((SV.row z2 a).same (SV.row z2 a)∧(SV.si .u64 s).same (SV.si .u64 s)∧(SV.ow 0 z1.toNat 1).same (SV.ow 0 z3.length 1)∧(SV.si .i64 z0).same z5∧(SV.il .i64 0).same (SV.si .i64 0)∧True)∧z6.same z6∧True)∧((0:Int)≤(0:Int)∧(0:Int)≤z4)∧Dig z3∧z3.length=z7∧valN z3=valN []*z8)∧∀(x:Int×List Int),let z9:=x.snd.length;let z10:=x.fst.toNat;let z11:=x.snd.length;let z12:=x.fst+(1:Int);let z13:=nthD a z10 (0:Int) % (18446744073709551616:Int)*z8 % (18446744073709551616:Int);let z14:=x.snd.set z10 (binK.orI .u32 (nthD x.snd z10 (0:Int)) (z13 % (4294967296:Int)));let z15:=z14.set z12.toNat (z13 / (4294967296:Int) % (4294967296:Int));let z16:=SV.si .i64 z12;let z17:=SObj.row z2 z15 81 false;((0:Int)≤x.fst∧x.fst≤z4)∧Dig x.snd∧z9=z7∧valN x.snd=valN (List.take z10 a)*z8→(decide (x.fst<z4)=true→(0:Int)≤x.fst∧x.fst<z0∧z10<a.length∧(0:Int)≤s∧s≤(64:Int)∧z9=z11∧(0:Int)≤x.fst∧x.fst<(↑z11:Int)∧z9=z11∧z10<z11∧z9=z11∧(0:Int)≤x.fst∧x.fst<(↑z11:Int)∧z9=z11∧z10<z11∧inR .i64 z12∧(0:Int)≤(32:Int)∧(32:Int)≤(64:Int)∧z9=z14.length∧(0:Int)≤z12∧z12<(↑z14.length:Int)∧z9=z14.length∧z12.toNat<z14.length∧inR .i64 z12∧(((SV.row z2 a).same (SV.row z2 a)∧(SV.si .u64 s).same (SV.si .u64 s)∧(SV.ow 0 z9 1).same (SV.ow 0 z15.length 1)∧z5.same z5∧z16.same z16∧True)∧z17.same z17∧True)∧(((0:Int)≤z12∧z12≤z4)∧Dig z15∧z15.length=z7∧valN z15=valN (List.take z12.toNat a)*z8)∧(z4 - z12).toNat<(z4 - x.fst).toNat)∧(decide (x.fst<z4)=false→z9=z11∧(SV.row z2 x.snd).same (SV.row z2 (shl a s.toNat)))) (by kernel_rfl) ?_
 simp only[vcs]
 refine⟨by omega,by omega,by omega,by omega,by omega,?_,?_⟩
 ·repeat' refine And.intro ?_ ?_
  all_goals first|omega|exact howN (by simp)|exact dig_cons.2 ⟨by omega,rep_dig⟩|(simp;done)|(simp only[valN,rep_val];omega)
 rintro⟨i,row⟩ ⟨⟨i0,i1⟩,hr,hl,hv⟩
 simp only at i0 i1 hr hl hv ⊢
 refine⟨fun ilt=>?_,fun ige=>?_⟩
 ·obtain⟨k1,k2⟩:=sh_step ha hr hl (show i.toNat<a.length by omega) (show s.toNat≤31 by omega) hv
  have e:(i+1).toNat=i.toNat+1:=by omega
  rw[e]
  repeat' refine And.intro ?_ ?_
  all_goals first|omega|exact howN (by simp)|(simp only[List.length_set];done)|(simp only[List.length_set];omega)|exact k1|exact k2
 ·have hi:i.toNat=a.length:=by omega
  rw[hi,List.take_length] at hv
  have hrow:row=shl a s.toNat:=digK_of hr hl hv
  rw[hrow]
theorem val_split {U:List Int} {j:Nat} (h:j≤U.length):valN U=valN (U.take j)+4294967296^j*valN (U.drop j):=by
 conv=>lhs;rw[←List.take_append_drop j U]
 grind[val_app]
theorem wth_take {U l:List Int} {j:Nat} (h:j≤U.length):(wth U j l).take j=U.take j:=by
 grind[wth]
theorem wth_drop {U l:List Int} {j:Nat} (h:j≤U.length):(wth U j l).drop j=l++U.drop (j+l.length):=by
 grind[wth]
theorem dig_wth {U l:List Int} {j:Nat} (a:Dig U) (b:Dig l):Dig (wth U j l):=dig_app (dig_take a _) (dig_app b (dig_drop a _))
theorem dv_step {U q v:List Int} {j m:Nat} {A:Int} (d:Dig U) (w:Dig v) (G:Dig q) (H:2≤v.length) (u:U.length=m+1+v.length) (x:q.length=m+1) (J:j≤m) (p:0<valN v)
  (s:nthD q j 0=0) (B:valN U+valN v*valN q=A) (D:valN (U.drop (j+1))<valN v):
  valN (prt U j (v.length+1))<4294967296*valN v∧
  (Dig (wth U j (digK (v.length+1) (valN (prt U j (v.length+1)) % valN v)))∧(wth U j (digK (v.length+1) (valN (prt U j (v.length+1)) % valN v))).length=U.length)∧
  (0≤valN (prt U j (v.length+1)) / valN v∧valN (prt U j (v.length+1)) / valN v<4294967296)∧
  valN (wth U j (digK (v.length+1) (valN (prt U j (v.length+1)) % valN v)))+valN v*valN (q.set j (valN (prt U j (v.length+1)) / valN v))=A∧
  valN ((wth U j (digK (v.length+1) (valN (prt U j (v.length+1)) % valN v))).drop j)<valN v:=by
 have y:=val_bdN w
 have f:=dig_drop d (j+1)
 have l:=val_nonneg (prt_dig d (j:=j) (k:=v.length+1))
 have b:valN (U.drop (j+(v.length+1)))=0:=by
  have e:valN (U.drop (j+1))=valN ((U.drop (j+1)).take v.length)+4294967296^v.length*valN ((U.drop (j+1)).drop v.length):=val_split (by simp;omega)
  rw[List.drop_drop,show j+1+v.length=j+(v.length+1) by omega] at e
  have I:=val_nonneg (dig_take f v.length)
  have F:=val_nonneg (dig_drop d (j+(v.length+1)))
  by_cases h:valN (U.drop (j+(v.length+1)))=0
  ·exact h
  ·have:=Int.mul_le_mul_of_nonneg_left (show(1:Int)≤valN (U.drop (j+(v.length+1))) by omega) (Int.le_of_lt (pow_pos v.length))
   omega
 have a:valN (U.drop j)=valN (prt U j (v.length+1)):=by
  have e:valN (U.drop j)=valN ((U.drop j).take (v.length+1))+4294967296^(v.length+1)*valN ((U.drop j).drop (v.length+1)):=val_split (by simp;omega)
  rw[List.drop_drop,b,Int.mul_zero,Int.add_zero] at e
  exact e
 have g:valN (U.drop j)=nthD U j 0+4294967296*valN (U.drop (j+1)):=by
  rw[drop_nthN (show j<U.length by omega)]
  rfl
 have K:=dig_nth d j
 have r:valN (prt U j (v.length+1))<4294967296*valN v:=by omega
 have i:=@digK_len (v.length+1) (valN (prt U j (v.length+1)) % valN v)
 have C:=Int.emod_nonneg (valN (prt U j (v.length+1))) (show valN v≠0 by omega)
 have E:=Int.emod_lt_of_pos (valN (prt U j (v.length+1))) p
 have t:valN (digK (v.length+1) (valN (prt U j (v.length+1)) % valN v))=valN (prt U j (v.length+1)) % valN v:=by
  grind[digK_val]
 have o:valN ((wth U j (digK (v.length+1) (valN (prt U j (v.length+1)) % valN v))).drop j)=valN (prt U j (v.length+1)) % valN v:=by
  grind[wth_drop,val_app]
 have c:(wth U j (digK (v.length+1) (valN (prt U j (v.length+1)) % valN v))).length=U.length:=wth_len (by rw[i];omega)
 have n:0≤valN (prt U j (v.length+1)) / valN v:=Int.ediv_nonneg l (by omega)
 refine⟨r,⟨dig_wth d digK_dig,c⟩,⟨n,Int.ediv_lt_of_lt_mul p r⟩,?_,by omega⟩
 rw[val_split (U:=wth U j _) (j:=j) (by rw[c];omega),wth_take (by omega),o,val_set (by omega),s,Int.sub_zero]
 rw[val_split (U:=U) (j:=j) (by omega),a] at B
 have z:=Int.mul_ediv_add_emod (valN (prt U j (v.length+1))) (valN v)
 grind
theorem dv_start {a b:List Int} {s:Nat} (k:Dig a) (w:Dig b) (u:s≤31) (l:b.length≤a.length) (q:1≤b.length) (d:1≤nthD b (b.length - 1) 0):
  Dig (shl a s)∧(shl a s).length=a.length+1∧valN (shl a s)=valN a*2^s∧valN ((shl a s).drop (a.length - b.length+1))<valN b*2^s:=by
 have e:(0:Int)<2^s:=Int.pow_pos (by decide)
 have v:(2:Int)^s≤2147483648:=by
  have h:(2:Nat)^s≤2^31:=Nat.pow_le_pow_right (by decide) u
  grind
 have f:=val_nonneg k
 have g:=val_bdN k
 have n:valN a*2^s<4294967296^a.length*2^s:=Int.mul_lt_mul_of_pos_right g e
 have c:valN (shl a s)=valN a*2^s:=by
  unfold shl
  refine digK_val (Int.mul_nonneg f (Int.le_of_lt e)) (Int.lt_of_lt_of_le n ?_)
  rw[Int.pow_succ]
  exact Int.mul_le_mul_of_nonneg_left (by omega) (Int.le_of_lt (pow_pos _))
 have i:Dig (shl a s):=digK_dig
 have t:(shl a s).length=a.length+1:=digK_len
 refine⟨i,t,c,?_⟩
 have h:=val_split (U:=shl a s) (j:=a.length - b.length+1) (by omega)
 have y:=val_nonneg (dig_take i (a.length - b.length+1))
 have x:4294967296^(b.length - 1)*nthD b (b.length - 1) 0≤valN b:=nth_le w
 have o:(4294967296:Int)^(b.length - 1)≤valN b:=by
  have:=Int.mul_le_mul_of_nonneg_left d (Int.le_of_lt (pow_pos (b.length - 1)))
  omega
 have m:(4294967296:Int)^a.length=4294967296^(a.length - b.length+1)*4294967296^(b.length - 1):=by
  rw[←Int.pow_add]
  congr 1
  omega
 rw[c] at h
 have p:(4294967296:Int)^(a.length - b.length+1)*valN ((shl a s).drop (a.length - b.length+1))<4294967296^(a.length - b.length+1)*(4294967296^(b.length - 1)*2^s):=by
  rw[←Int.mul_assoc,←m]
  omega
 have r:=Int.lt_of_mul_lt_mul_left p (Int.le_of_lt (pow_pos _))
 exact Int.lt_of_lt_of_le r (Int.mul_le_mul_of_nonneg_right o (Int.le_of_lt e))
theorem rs_digit {x y:Int} {s:Nat} (n:0≤x) (u:x<4294967296) (t:0≤y) (o:y<4294967296) (g:0<s) (q:s≤31):
  ∃r,binK.orI .u32 (x / 2^s) (y*2^(32 - s) % 4294967296)=r∧(0≤r∧r<4294967296)∧2^s*r=x - x % 2^s+4294967296*(y % 2^s):=by
 have b:(0:Int)<2^s:=Int.pow_pos (by decide)
 have c:(0:Int)<2^(32 - s):=Int.pow_pos (by decide)
 have l:(4294967296:Int)=2^s*2^(32 - s):=by
  rw[←Int.pow_add,show s+(32 - s)=32 by omega]
  decide
 have f:y*2^(32 - s) % 4294967296=(y % 2^s)*2^(32 - s):=by
  conv=>lhs;rw[l]
  rw[Int.mul_comm y,Int.mul_comm (2^s),Int.mul_emod_mul_of_pos _ _ c,Int.mul_comm]
 have d:=Int.emod_nonneg y (show(2:Int)^s≠0 by omega)
 have p:=Int.emod_lt_of_pos y b
 have e:0≤x / 2^s:=Int.ediv_nonneg n (Int.le_of_lt b)
 have m:x / 2^s<2^(32 - s):=Int.ediv_lt_of_lt_mul b (by grind)
 have h:(y % 2^s)*2^(32 - s)+2^(32 - s)≤4294967296:=by
  have:=Int.mul_le_mul_of_nonneg_right (show y % 2^s+1≤2^s by omega) (Int.le_of_lt c)
  grind
 have j:0≤(y % 2^s)*2^(32 - s):=Int.mul_nonneg d (Int.le_of_lt c)
 have a:=or_add32 (k:=32 - s) e m d (by omega) (by omega)
 refine⟨x / 2^s+(y % 2^s)*2^(32 - s),by rw[f,a],⟨by omega,by omega⟩,?_⟩
 have i:=Int.mul_ediv_add_emod x (2^s)
 grind
theorem rs_step {U r:List Int} {i s:Nat} {d:Int} (b:Dig U) (c:Dig r) (h:i<r.length) (g:∀j,i≤j→nthD r j 0=0) (a:0≤d∧d<4294967296)
  (f:2^s*d=nthD U i 0 - nthD U i 0 % 2^s+4294967296*(nthD U (i+1) 0 % 2^s))
  (e:2^s*valN r=valN (U.take i) - nthD U 0 0 % 2^s+4294967296^i*(nthD U i 0 % 2^s)):
  Dig (r.set i d)∧(r.set i d).length=r.length∧(∀j,i+1≤j→nthD (r.set i d) j 0=0)∧
  2^s*valN (r.set i d)=valN (U.take (i+1)) - nthD U 0 0 % 2^s+4294967296^(i+1)*(nthD U (i+1) 0 % 2^s):=by
 grind[dig_set,nth_set_ne,val_set,take_snoc0]
theorem rs_fin {U r v q:List Int} {n s:Nat} {a b:Int} (f:Dig U) (A:Dig r) (y:Dig v) (g:v.length=n) (u:valN U<valN v) (J:valN v=b*2^s) (C:0<b) (D:valN U+valN v*valN q=a*2^s)
  (G:s≤31) (x:n+1≤U.length)
  (c:2^s*valN r=valN (U.take n) - nthD U 0 0 % 2^s+4294967296^n*(nthD U n 0 % 2^s)):valN q=a / b∧valN r=a % b:=by
 have H:(0:Int)<2^s:=Int.pow_pos (by decide)
 have m:=val_bdN y
 rw[g] at m
 have o:nthD U n 0=0:=nth_small f (i:=n) (by omega) (Nat.le_refl _)
 have e:valN (U.take n)=valN U:=by
  have k:=val_split (U:=U) (j:=n) (by omega)
  have p:=val_nonneg (dig_take f n)
  have w:=val_nonneg (dig_drop f n)
  by_cases h:valN (U.drop n)=0
  ·simp_all
  ·have:=Int.mul_le_mul_of_nonneg_left (show(1:Int)≤valN (U.drop n) by omega) (Int.le_of_lt (pow_pos n))
   omega
 have d:valN U=2^s*(a - b*valN q):=by
  grind
 have l:nthD U 0 0 % 2^s=0:=by
  have k:=@take_snoc0 U 0
  have p:=val_split (U:=U) (j:=1) (by omega)
  have E:(4294967296:Int)=2^s*2^(32 - s):=by
   rw[←Int.pow_add,show s+(32 - s)=32 by omega]
   decide
  simp only[Nat.zero_add,List.take_zero,valN,Int.pow_zero,Int.one_mul,Int.zero_add] at k
  rw[k,Int.pow_succ,Int.pow_zero,Int.one_mul] at p
  have w:nthD U 0 0=2^s*(a - b*valN q - 2^(32 - s)*valN (U.drop 1)):=by
   grind
  simp_all
 rw[o,l,e,Int.zero_emod,Int.mul_zero,Int.sub_zero,Int.add_zero,d] at c
 have t:valN r=a - b*valN q:=Int.eq_of_mul_eq_mul_left (by omega) c
 have B:=val_nonneg A
 have z:valN r<b:=by
  have:2^s*valN r<2^s*b:=by
   grind
  simp_all
 obtain⟨F,I⟩:=qr_of (X:=a) (V:=b) (q:=valN q) (by grind) (by grind)
 grind
theorem nrm_ge:∀{w:List Int},Dig w→Nrm w→w≠[]→4294967296^(w.length - 1)≤valN w
 |[],_,_,h=>absurd rfl h
 |[d],a,b,_=>by
  have f:=(dig_cons.1 a).1
  have c:=b.1 rfl
  grind[valN]
 |d::e::l,a,b,_=>by
  obtain⟨f,c⟩:=dig_cons.1 a
  have g:=nrm_ge c b.2 (by simp)
  have i:valN (d::e::l)=d+4294967296*valN (e::l):=rfl
  simp only[List.length_cons,Nat.add_sub_cancel] at g ⊢
  omega
theorem pow_mono {a b:Nat} (h:a≤b):(4294967296:Int)^a≤4294967296^b:=by
 obtain⟨m,rfl⟩:=Nat.exists_eq_add_of_le h
 rw[Int.pow_add]
 have c:=pow_pos a
 have d:=pow_pos m
 have:=Int.mul_le_mul_of_nonneg_left (show(1:Int)≤4294967296^m by omega) (Int.le_of_lt c)
 omega
theorem sh_trim {t:List Int} {s:Nat} (e:Dig t) (H:1≤t.length) (G:s≤31) (d:nthD t (t.length - 1) 0*2^s<4294967296) (c:2147483648≤nthD t (t.length - 1) 0*2^s):
  Dig (trimN (shl t s))∧(trimN (shl t s)).length=t.length∧valN (trimN (shl t s))=valN t*2^s∧2147483648≤nthD (trimN (shl t s)) (t.length - 1) 0∧1≤nthD t (t.length - 1) 0:=by
 have o:(0:Int)<2^s:=Int.pow_pos (by decide)
 have q:=dig_nth e (t.length - 1)
 have a:1≤nthD t (t.length - 1) 0:=by
  grind
 obtain⟨y,N,z,_⟩:=dv_start e e G (Nat.le_refl _) H a
 obtain⟨f,E⟩:=@trim_val (shl t s)
 have i:=trim_dig y
 rw[z] at f
 generalize trimN (shl t s)=w at*
 obtain⟨n,A⟩:∃n,t.length=n+1:=⟨t.length - 1,by omega⟩
 rw[A] at d c a q ⊢
 simp only[Nat.add_sub_cancel] at d c a q ⊢
 have p:=pow_pos n
 have v:valN t=valN (t.take n)+4294967296^n*nthD t n 0:=by
  grind[take_snoc0]
 have B:=val_nonneg (dig_take e n)
 have k:=val_bdN (dig_take e n)
 rw[List.length_take,Nat.min_eq_left (by omega)] at k
 have J:(4294967296:Int)=2^(32 - s)*2^s:=by
  rw[←Int.pow_add,show 32 - s+s=32 by omega]
  decide
 have L:(0:Int)<2^(32 - s):=Int.pow_pos (by decide)
 have D:nthD t n 0<2^(32 - s):=by
  simp_all
 have l:(nthD t n 0+1)*2^s≤4294967296:=by
  have:=Int.mul_le_mul_of_nonneg_right (show nthD t n 0+1≤2^(32 - s) by omega) (Int.le_of_lt o)
  omega
 have x:valN w<4294967296^(n+1):=by
  rw[f,Int.pow_succ]
  have F:valN t<4294967296^n*(nthD t n 0+1):=by grind
  have M:=Int.mul_lt_mul_of_pos_right F o
  have I:=Int.mul_le_mul_of_nonneg_left l (Int.le_of_lt p)
  grind
 have u:4294967296^n*(nthD t n 0*2^s)≤valN w:=by
  rw[f,←Int.mul_assoc]
  exact Int.mul_le_mul_of_nonneg_right (by omega) (Int.le_of_lt o)
 have r:(4294967296:Int)^n≤valN w:=by
  have:=Int.mul_le_mul_of_nonneg_left (show(1:Int)≤nthD t n 0*2^s by omega) (Int.le_of_lt p)
  omega
 have b:w.length=n+1:=by
  have K:n<w.length:=by
   by_cases h:n<w.length
   ·exact h
   ·have:=val_bdN i
    have:=pow_mono (show w.length≤n by omega)
    omega
  by_cases h:w.length=n+1
  ·exact h
  ·have j:w≠[]:=by grind
   have:=nrm_ge i E j
   have:=pow_mono (show n+1≤w.length - 1 by omega)
   omega
 refine⟨i,b,f,?_,a⟩
 have C:valN w=valN (w.take n)+4294967296^n*nthD w n 0:=by
  grind[take_snoc0]
 have m:=val_bdN (dig_take i n)
 rw[List.length_take,Nat.min_eq_left (by omega)] at m
 have g:4294967296^n*(nthD t n 0*2^s)<4294967296^n*(nthD w n 0+1):=by grind
 have:=Int.lt_of_mul_lt_mul_left g (Int.le_of_lt p)
 omega
def QD:List SCtr:=[r152,r132,r154,r167,r128,r168p]
theorem hQD:∀c∈QD,Holds Try.prog c:=by
 simp only[QD,List.forall_mem_cons,List.not_mem_nil,false_implies,implies_true,and_true]
 exact⟨h152,h132,h154,h167,h128,h168p⟩
def WD:List OCtr:=[r168,r169]
theorem hWD:∀c∈WD,HoldsO Try.prog c:=by
 simp only[WD,List.forall_mem_cons,List.not_mem_nil,false_implies,implies_true,and_true]
 exact⟨h168,h169⟩
def r166g:SCtr:=⟨73,List Int×List Int,.cons (codR (.i .u32)) (.one (codR (.i .u32))),fun a=>(Dig a.1∧Dig a.2)∧(a.1.length≤10000000000∧a.2.length≤10000000000)∧0<valN a.2,
 fun a=> .tup [.row (.i .u32) (natL (valN a.1 / valN a.2)),.row (.i .u32) (natL (valN a.1 % valN a.2)),.si .i64 0]⟩
def dvS (a:List Int×List Int) (s:Int):Prop:=(0≤s∧s≤31)∧nthD (trimN a.2) ((trimN a.2).length - 1) 0*2^s.toNat<4294967296∧2147483648≤nthD (trimN a.2) ((trimN a.2).length - 1) 0*2^s.toNat
def Λ166 (a:List Int×List Int):Nat→LoopAnn
 |10=> .inv Int (fun s=>⟨[(0,.row (.i .u32) (trimN a.1)),(1,.row (.i .u32) (trimN a.2)),(9,.si .u64 s)],[]⟩) (fun s=>iS s 9)
  (fun s=>(0≤s∧s≤31)∧nthD (trimN a.2) ((trimN a.2).length - 1) 0*2^s.toNat<4294967296) (fun s=>(32 - s).toNat) fun _ _=> .look
 |17=> .inv (Int×Int×List Int×List Int) (fun x=>⟨[(4,.ow 1 x.2.2.2.length 1),(9,.si .u64 x.2.1),(10,.ow 0 x.2.2.1.length 1),(11,.row (.i .u32) (trimN (shl (trimN a.2) x.2.1.toNat))),(12,.si .i64 (trimN (shl (trimN a.2) x.2.1.toNat)).length),
   (13,.si .i64 ((trimN a.1).length - (trimN a.2).length)),(74,.si .i64 ((trimN a.1).length - (trimN a.2).length+1)),(75,.si .i64 x.1)],[.row (.i .u32) x.2.2.1 81 false,.row (.i .u32) x.2.2.2 81 true]⟩)
  (fun s=>(iS s 75,iS s 9,oS (.i .u32) s 0,oS (.i .u32) s 1))
  (fun x=>(0≤x.1∧x.1≤(trimN a.1).length - (trimN a.2).length+1)∧dvS a x.2.1∧(Dig x.2.2.1∧x.2.2.1.length=(trimN a.1).length+1)∧(Dig x.2.2.2∧x.2.2.2.length=(trimN a.1).length - (trimN a.2).length+1)∧
   (∀j:Nat,(j:Int)<(trimN a.1).length - (trimN a.2).length+1 - x.1→nthD x.2.2.2 j 0=0)∧
   valN x.2.2.1+valN (trimN (shl (trimN a.2) x.2.1.toNat))*valN x.2.2.2=valN (trimN a.1)*2^x.2.1.toNat∧
   valN (x.2.2.1.drop (((trimN a.1).length - (trimN a.2).length+1 - x.1:Int).toNat))<valN (trimN (shl (trimN a.2) x.2.1.toNat)))
  (fun x=>((trimN a.1).length - (trimN a.2).length+1 - x.1:Int).toNat) fun _ _=> .look
 |24=> .inv (Int×Int×List Int×List Int×List Int) (fun x=>⟨[(4,.ow 1 x.2.2.2.1.length 1),(5,.ow 2 x.2.2.2.2.length 1),(9,.si .u64 x.2.1),(10,.ow 0 x.2.2.1.length 1),(100,.si .i64 (trimN (shl (trimN a.2) x.2.1.toNat)).length),(101,.si .i64 x.1)],
   [.row (.i .u32) x.2.2.1 81 false,.row (.i .u32) x.2.2.2.1 81 true,.row (.i .u32) x.2.2.2.2 81 true]⟩)
  (fun s=>(iS s 101,iS s 9,oS (.i .u32) s 0,oS (.i .u32) s 1,oS (.i .u32) s 2))
  (fun x=>(0≤x.1∧x.1≤(trimN (shl (trimN a.2) x.2.1.toNat)).length)∧dvS a x.2.1∧(Dig x.2.2.1∧x.2.2.1.length=(trimN a.1).length+1)∧(Dig x.2.2.2.1∧x.2.2.2.1.length=(trimN a.1).length - (trimN a.2).length+1)∧
   valN x.2.2.1+valN (trimN (shl (trimN a.2) x.2.1.toNat))*valN x.2.2.2.1=valN (trimN a.1)*2^x.2.1.toNat∧valN x.2.2.1<valN (trimN (shl (trimN a.2) x.2.1.toNat))∧
   (Dig x.2.2.2.2∧x.2.2.2.2.length=(trimN (shl (trimN a.2) x.2.1.toNat)).length)∧(∀j,x.1.toNat≤j→nthD x.2.2.2.2 j 0=0)∧
   2^x.2.1.toNat*valN x.2.2.2.2=valN (x.2.2.1.take x.1.toNat) - nthD x.2.2.1 0 0 % 2^x.2.1.toNat+4294967296^x.1.toNat*(nthD x.2.2.1 x.1.toNat 0 % 2^x.2.1.toNat))
  (fun x=>((trimN (shl (trimN a.2) x.2.1.toNat)).length - x.1).toNat) fun _ _=> .look
 |_=> .look
theorem h166g:Holds Try.prog r166g:=by
 refine con (L:=QD) (W:=ownT WD) r166g Λ166 (ownT_ok hWD) hQD ?_
 rintro⟨a,b⟩ ⟨⟨ha,hb⟩,⟨hla,hlb⟩,b0⟩
 simp only at ha hb hla hlb b0
 refine vcOf (let z0:Nat:=(trimN b).length;let z1:=(↑z0:Int);let z2:=decide (z1=(0:Int));let z3:=SV.row (SId.i .i64) [];let z4:=SId.i .u32;let z5:=SV.si .i64 0;let z6:=SV.tup [SV.row z4 (natL (valN a / valN b)),SV.row z4 (natL (valN a % valN b)),z5];let z7:Nat:=(trimN a).length;let z8:Nat:=(trimN b).length;let z9:=valN (trimN a);let z10:=decide (cmpN z9 (valN (trimN b))<(0:Int));let z11:=SV.il .i64 0;let z12:=decide (z1=(1:Int));let z13:=nthD (trimN b) 0 (0:Int);let z14:=z9 % z13 % (18446744073709551616:Int);let z15:=nthD (trimN b) (z8 - 1) (0:Int);let z16:=z1 - (1:Int);let z17:=(↑(trimN a).length:Int) - z1;let z18:=z17+(1:Int);let z19:=List.replicate z18.toNat (0:Int);let z20:=(↑z7:Int) - (↑z8:Int);let z21:=SV.si .i64 z20;let z22:=z20+(1:Int);let z23:=SV.si .i64 z22;let z24:=SObj.row z4 z19 81 true;let z25:=z7+1;let z26:=z7 - z8+1;a.length≤1000000000000∧b.length≤1000000000000∧(z2=true→(SV.tup [z3,z3,SV.il .i64 8]).same z6)∧(z2=false→((Dig (trimN a)∧Dig (trimN b))∧z7≤1000000000000∧z8≤1000000000000)∧(z10=true→((Dig (trimN a)∧Dig [])∧z7≤100000000000∧0≤100000000000)∧(SV.tup [z3,SV.row z4 (natL (z9+valN [])),z11]).same z6)∧(z10=false→(z12=true→(0:Int)≤(0:Int)∧(0:Int)<z1∧0<z0∧(Dig (trimN a)∧z7≤100000000000∧(0:Int)<z13∧z13<(4294967296:Int))∧((0:Int)≤z14∧z14<(18446744073709551616:Int))∧(SV.tup [SV.row z4 (natL (z9 / z13)),SV.row z4 (natL z14),z11]).same z6)∧(z12=false→((((SV.row z4 (trimN a)).same (SV.row z4 (trimN a))∧(SV.row z4 (trimN b)).same (SV.row z4 (trimN b))∧(SV.il .u64 0).same (SV.si .u64 0)∧True)∧True)∧((0:Int)≤(0:Int)∧(0:Int)≤(31:Int))∧z15*(1:Int)<(4294967296:Int))∧∀(x:Int),let z27:=(2:Int)^x.toNat;let z28:=decide (nthD (trimN b) z16.toNat (0:Int)*z27 % (4294967296:Int)<(2147483648:Int));let z29:=(x+(1:Int)) % (18446744073709551616:Int);let z30:=SV.si .u64 z29;let z31:=shl (trimN b) x.toNat;let z32:=shl (trimN a) x.toNat;let z33:=SV.ow 0 z32.length 1;let z34:=trimN z31;let z35:=SObj.row z4 z32 81 false;((0:Int)≤x∧x≤(31:Int))∧z15*z27<(4294967296:Int)→inR .i64 z16∧(0:Int)≤z16∧z16<z1∧z16.toNat<z0∧(0:Int)≤x∧x≤(32:Int)∧(z28=true→(((SV.row z4 (trimN a)).same (SV.row z4 (trimN a))∧(SV.row z4 (trimN b)).same (SV.row z4 (trimN b))∧z30.same z30∧True)∧True)∧(((0:Int)≤z29∧z29≤(31:Int))∧z15*(2:Int)^z29.toNat<(4294967296:Int))∧((32:Int) - z29).toNat<((32:Int) - x).toNat)∧(z28=false→shD (trimN a,x)∧shD (trimN b,x)∧z31.length≤1000000000000∧inR .i64 z17∧inR .i64 z18∧(0:Int)≤z18∧z18≤z18∧z18*(4:Int)≤(140737488355328:Int)∧z18≤(1000000000000:Int)∧inR .i64 z18∧((((SV.ow 1 z18.toNat 1).same (SV.ow 1 z19.length 1)∧(SV.si .u64 x).same (SV.si .u64 x)∧z33.same z33∧(SV.row z4 z34).same (SV.row z4 z34)∧(SV.si .i64 (↑z34.length:Int)).same (SV.si .i64 (↑z34.length:Int))∧(SV.si .i64 z17).same z21∧(SV.si .i64 z18).same z23∧z11.same z5∧True)∧z35.same z35∧z24.same z24∧True)∧((0:Int)≤(0:Int)∧(0:Int)≤z22)∧dvS (a,b) x∧(Dig z32∧z32.length=z25)∧(Dig z19∧z19.length=z26)∧(∀(j:Nat),(↑j:Int)<z22 - (0:Int)→nthD z19 j (0:Int)=(0:Int))∧valN z32+valN z34*valN z19=z9*z27∧valN (List.drop (z22 - (0:Int)).toNat z32)<valN z34)∧∀(x:Int×Int×List Int×List Int),let z36:=x.snd.snd.fst;let z37:=z36.length;let z38:=x.snd.snd.snd;let z39:=trimN (shl (trimN b) x.snd.fst.toNat);let z40:=valN z39;let z41:=(2:Int)^x.snd.fst.toNat;let z42:=decide (x.fst<z22);let z43:=z20 - x.fst;let z44:=(↑z39.length:Int);let z45:=z43+z44+(1:Int);let z46:=z43.toNat;let z47:=z45.toNat;let z48:=DgA.mk z36 z46 (z47 - z46) z37 z39;let z49:=x.fst+(1:Int);let z50:=SV.ow 1 z38.length 1;let z51:=z38.set z46 (z48.x / z40);let z52:=SV.si .u64 x.snd.fst;let z53:=SV.ow 0 z37 1;let z54:=SV.si .i64 z44;let z55:=SV.si .i64 z49;let z56:=SObj.row z4 z48.row 81 false;let z57:=SObj.row z4 z51 81 true;let z58:=List.replicate z44.toNat (0:Int);let z59:=SObj.row z4 z36 81 false;let z60:=SObj.row z4 z38 81 true;let z61:=SObj.row z4 z58 81 true;let z62:=nthD z36 0 (0:Int) % z41;((0:Int)≤x.fst∧x.fst≤z22)∧dvS (a,b) x.snd.fst∧(Dig z36∧z37=z25)∧(Dig z38∧z38.length=z26)∧(∀(j:Nat),(↑j:Int)<z22 - x.fst→nthD z38 j (0:Int)=(0:Int))∧valN z36+z40*valN z38=z9*z41∧valN (List.drop (z22 - x.fst).toNat z36)<z40→(z42=true→inR .i64 z43∧inR .i64 (z43+z44)∧inR .i64 z45∧inR .i64 (z43+z44)∧inR .i64 z45∧z37=z36.length∧(0:Int)≤z43∧(0:Int)≤z45∧(0:Int)≤z45∧z46≤z47∧z47≤z47∧z47≤z37∧z48.ok∧z38.length=z38.length∧(0:Int)≤z43∧z43<(↑z38.length:Int)∧z38.length=z38.length∧z46<z38.length∧inR .i64 z49∧((z50.same (SV.ow 1 z51.length 1)∧z52.same z52∧z53.same (SV.ow 0 z48.row.length 1)∧(SV.row z4 z39).same (SV.row z4 z39)∧z54.same z54∧z21.same z21∧z23.same z23∧z55.same z55∧True)∧z56.same z56∧z57.same z57∧True)∧(((0:Int)≤z49∧z49≤z22)∧dvS (a,b) x.snd.fst∧(Dig z48.row∧z48.row.length=z25)∧(Dig z51∧z51.length=z26)∧(∀(j:Nat),(↑j:Int)<z22 - z49→nthD z51 j (0:Int)=(0:Int))∧valN z48.row+z40*valN z51=z9*z41∧valN (List.drop (z22 - z49).toNat z48.row)<z40)∧(z22 - z49).toNat<(z22 - x.fst).toNat)∧(z42=false→(0:Int)≤z44∧z44≤z44∧z44*(4:Int)≤(140737488355328:Int)∧z44≤(1000000000000:Int)∧(((z50.same z50∧(SV.ow 2 z44.toNat 1).same (SV.ow 2 z58.length 1)∧z52.same z52∧z53.same z53∧z54.same z54∧z11.same z5∧True)∧z59.same z59∧z60.same z60∧z61.same z61∧True)∧((0:Int)≤(0:Int)∧(0:Int)≤z44)∧dvS (a,b) x.snd.fst∧(Dig z36∧z37=z25)∧(Dig z38∧z38.length=z26)∧valN z36+z40*valN z38=z9*z41∧valN z36<z40∧(Dig z58∧z58.length=z39.length)∧(∀(j:Nat),0≤j→nthD z58 j (0:Int)=(0:Int))∧z41*valN z58=valN [] - z62+(1:Int)*z62)∧∀(x:Int×Int×List Int×List Int×List Int),let z63:=trimN (shl (trimN b) x.snd.fst.toNat);let z64:=z63.length;let z65:=(↑z64:Int);let z66:=x.snd.snd.fst;let z67:=x.snd.snd.snd.fst;let z68:=z67.length;let z69:=(2:Int)^x.snd.fst.toNat;let z70:=x.snd.snd.snd.snd;let z71:=z70.length;let z72:=x.fst.toNat;let z73:=nthD z66 0 (0:Int) % z69;let z74:=nthD z66 z72 (0:Int);let z75:=decide (x.fst<z65);let z76:=z66.length;let z77:=decide ((0:Int)<x.snd.fst);let z78:=z70.set z72 (z74 / z69);let z79:=x.fst+(1:Int);let z80:=z79.toNat;let z81:=((32:Int) - x.snd.fst) % (18446744073709551616:Int);let z82:=SV.ow 1 z68 1;let z83:=SV.ow 2 z71 1;let z84:=nthD z66 z80 (0:Int);let z85:=z78.set z72 (binK.orI .u32 (nthD z78 z72 (0:Int)) (z84*(2:Int)^z81.toNat % (4294967296:Int)));let z86:=SV.si .u64 x.snd.fst;let z87:=SV.ow 0 z66.length 1;let z88:=SV.si .i64 z65;let z89:=SV.si .i64 z79;let z90:=SObj.row z4 z66 81 false;let z91:=SObj.row z4 z67 81 true;let z92:=SObj.row z4 z85 81 true;let z93:=valN (List.take z80 z66) - z73+(4294967296:Int)^z80*(z84 % z69);let z94:=SObj.row z4 z78 81 true;((0:Int)≤x.fst∧x.fst≤z65)∧dvS (a,b) x.snd.fst∧(Dig z66∧z66.length=z25)∧(Dig z67∧z68=z26)∧valN z66+valN z63*valN z67=z9*z69∧valN z66<valN z63∧(Dig z70∧z71=z64)∧(∀(j:Nat),z72≤j→nthD z70 j (0:Int)=(0:Int))∧z69*valN z70=valN (List.take z72 z66) - z73+(4294967296:Int)^z72*(z74 % z69)→(z75=true→z66.length=z76∧(0:Int)≤x.fst∧x.fst<(↑z76:Int)∧z66.length=z76∧z72<z76∧(0:Int)≤x.snd.fst∧x.snd.fst≤(32:Int)∧z71=z70.length∧(0:Int)≤x.fst∧x.fst<(↑z70.length:Int)∧z71=z70.length∧z72<z70.length∧(z77=true→z71=z78.length∧(0:Int)≤x.fst∧x.fst<(↑z78.length:Int)∧z71=z78.length∧z72<z78.length∧inR .i64 z79∧z66.length=z76∧(0:Int)≤z79∧z79<(↑z76:Int)∧z66.length=z76∧z80<z76∧(0:Int)≤z81∧z81≤(32:Int)∧z71=z78.length∧(0:Int)≤x.fst∧x.fst<(↑z78.length:Int)∧z71=z78.length∧z72<z78.length∧inR .i64 z79∧((z82.same z82∧z83.same (SV.ow 2 z85.length 1)∧z86.same z86∧z87.same z87∧z88.same z88∧z89.same z89∧True)∧z90.same z90∧z91.same z91∧z92.same z92∧True)∧(((0:Int)≤z79∧z79≤z65)∧dvS (a,b) x.snd.fst∧(Dig z66∧z66.length=z25)∧(Dig z67∧z68=z26)∧valN z66+valN z63*valN z67=z9*z69∧valN z66<valN z63∧(Dig z85∧z85.length=z64)∧(∀(j:Nat),z80≤j→nthD z85 j (0:Int)=(0:Int))∧z69*valN z85=z93)∧(z65 - z79).toNat<(z65 - x.fst).toNat)∧(z77=false→inR .i64 z79∧((z82.same z82∧z83.same (SV.ow 2 z78.length 1)∧z86.same z86∧z87.same z87∧z88.same z88∧z89.same z89∧True)∧z90.same z90∧z91.same z91∧z94.same z94∧True)∧(((0:Int)≤z79∧z79≤z65)∧dvS (a,b) x.snd.fst∧(Dig z66∧z66.length=z25)∧(Dig z67∧z68=z26)∧valN z66+valN z63*valN z67=z9*z69∧valN z66<valN z63∧(Dig z78∧z78.length=z64)∧(∀(j:Nat),z80≤j→nthD z78 j (0:Int)=(0:Int))∧z69*valN z78=z93)∧(z65 - z79).toNat<(z65 - x.fst).toNat))∧(z75=false→z68=z67.length∧z71=z70.length∧z68≤1000000000000∧z71≤1000000000000∧(SV.tup [SV.row z4 (trimN z67),SV.row z4 (trimN z70),z11]).same z6))))))) (by kernel_rfl) ?_
 simp only[vcs]
 obtain⟨va,na⟩:=@trim_val a
 obtain⟨vb,nb⟩:=@trim_val b
 have da:=trim_dig ha
 have db:=trim_dig hb
 have la:=@trim_len a
 have lb:=@trim_len b
 have p0:=val_nonneg da
 have d0:Dig []:=by simp[Dig]
 simp only[dvS]
 rw[←va,←vb]
 rw[←vb] at b0
 generalize trimN a=S at*
 generalize trimN b=T at*
 have hm:=Int.emod_nonneg (valN S) (show valN T≠0 by omega)
 have hl:=Int.emod_lt_of_pos (valN S) b0
 have hT1:T.length≠0:=by
  intro h
  rw[List.eq_nil_of_length_eq_zero h] at b0
  exact absurd b0 (by decide)
 refine⟨by omega,by omega,fun h0=>by omega,fun h0=>⟨⟨⟨da,db⟩,by omega,by omega⟩,fun hlt=>⟨⟨⟨da,d0⟩,by omega,by omega⟩,?_⟩,fun hge=>⟨fun h1=>?_,fun h1=>⟨?_,?_⟩⟩⟩⟩
 ·have hab:valN S<valN T:=by unfold cmpN at hlt;split at hlt<;>(try split at hlt)<;>omega
  have hdv:valN S / valN T=0:=Int.ediv_eq_zero_of_lt p0 hab
  have hmv:valN S % valN T=valN S:=Int.emod_eq_of_lt p0 hab
  refine⟨nilN (by rw[hdv];rfl),?_⟩
  rw[hmv]
  simp[valN]
 ·obtain⟨d,rfl⟩:∃d,T=[d]:=List.length_eq_one_iff.1 (by omega)
  have hd:=(dig_cons.1 db).1
  have hnth:nthD [d] 0 0=d:=rfl
  have hv:valN [d]=d:=by simp[valN]
  rw[hv] at b0 hm hl ⊢
  rw[hnth]
  have hmm:valN S % d % 18446744073709551616=valN S % d:=by omega
  rw[hmm]
  repeat' refine And.intro ?_ ?_
  all_goals first|omega|exact da|rfl|(simp;done)
 ·have:=dig_nth db (T.length - 1)
  repeat' refine And.intro ?_ ?_
  all_goals omega
 have hge2:valN T≤valN S:=by unfold cmpN at hge;split at hge<;>(try split at hge)<;>omega
 have hlen:T.length≤S.length:=by
  by_cases h:S.length<T.length
  ·have:=len_lt da db nb h
   omega
  ·omega
 have hTn:2≤T.length:=by omega
 clear hge h0 h1 hT1 va vb d0
 rintro s ⟨⟨s0,s1⟩,hs⟩
 have t1:((T.length:Int) - 1).toNat=T.length - 1:=by omega
 have hxt:=dig_nth db (T.length - 1)
 have hps:(0:Int)<2^s.toNat:=Int.pow_pos (by decide)
 have hnn:0≤nthD T (T.length - 1) 0*2^s.toNat:=Int.mul_nonneg hxt.1 (Int.le_of_lt hps)
 have hmod:nthD T (T.length - 1) 0*2^s.toNat % 4294967296=nthD T (T.length - 1) 0*2^s.toNat:=by omega
 rw[t1,hmod]
 repeat refine And.intro (by omega) ?_
 refine⟨fun hc=>?_,fun hc=>?_⟩
 ·have htop:1≤nthD T (T.length - 1) 0:=by
   by_cases h:1≤nthD T (T.length - 1) 0
   ·exact h
   ·exfalso
    have h4:=nrm_ge db nb (by rintro rfl;simp at hTn)
    have h5:valN T=valN (T.take (T.length - 1))+4294967296^(T.length - 1)*nthD T (T.length - 1) 0:=by
     have:=@take_snoc0 T (T.length - 1)
     rwa [show T.length - 1+1=T.length by omega,List.take_length] at this
    have h6:=val_bdN (dig_take db (T.length - 1))
    rw[List.length_take,Nat.min_eq_left (by omega)] at h6
    rw[show nthD T (T.length - 1) 0=0 by omega,Int.mul_zero] at h5
    omega
  have h31:s≤30:=by
   by_cases h:s≤30
   ·exact h
   ·have hs31:s.toNat=31:=by omega
    rw[hs31,show(2:Int)^31=2147483648 from rfl] at hc
    omega
  have e:((s+1) % 18446744073709551616)=s+1:=by omega
  have e2:(s+1).toNat=s.toNat+1:=by omega
  rw[e,e2,Int.pow_succ,←Int.mul_assoc]
  repeat' refine And.intro ?_ ?_
  all_goals omega
 ·obtain⟨dw,lw,vw,tw,ttop⟩:=sh_trim db (by omega) (show s.toNat≤31 by omega) hs (by omega)
  obtain⟨ds,ls,vs,hst⟩:=dv_start da db (show s.toNat≤31 by omega) hlen (by omega) ttop
  have hds:∀z,shD (z,s)↔(Dig z∧z.length≤100000000000):=fun z=>⟨fun h=>⟨h.1,h.2.1⟩,fun h=>⟨h.1,h.2,s0,s1⟩⟩
  have lst:(shl T s.toNat).length=T.length+1:=digK_len
  have bits:(0≤s∧s≤31)∧nthD T (T.length - 1) 0*2^s.toNat<4294967296∧2147483648≤nthD T (T.length - 1) 0*2^s.toNat:=⟨⟨s0,s1⟩,hs,by omega⟩
  rw[hds,hds,lst,ls]
  refine⟨⟨da,by omega⟩,⟨db,by omega⟩,?_⟩
  repeat refine And.intro (by omega) ?_
  refine⟨?_,?_⟩
  ·repeat' refine And.intro ?_ ?_
   all_goals first|omega|exact howN (by simp)|exact howN (by omega)|exact ds|exact rep_dig|exact fun j _=>rep_nth|(simp;omega)|(rw[rep_val,Int.mul_zero,Int.add_zero];exact vs)|(rw[vw,show((S.length:Int) - T.length+1 - 0).toNat=S.length - T.length+1 by omega];exact hst)
  clear hst vs ls ds bits hds hmod hnn hps hxt ttop tw vw lw dw lst t1 hc hs s0 s1
  clear s
  rintro⟨i,s,U,q⟩ ⟨⟨i0,i1⟩,⟨⟨s0,s1⟩,hs,hs2⟩,⟨hU,hUl⟩,⟨hq,hql⟩,hz,he,hlt⟩
  simp only at i0 i1 s0 s1 hs hs2 hU hUl hq hql hz he hlt ⊢
  obtain⟨dw,lw,vw,tw,ttop⟩:=sh_trim db (by omega) (show s.toNat≤31 by omega) hs (by omega)
  generalize hw:trimN (shl T s.toNat)=w at*
  have hw0:0<valN w:=by
   rw[vw]
   exact Int.mul_pos b0 (Int.pow_pos (by decide))
  refine⟨fun ilt=>?_,fun ige=>?_⟩
  ·obtain⟨j,hj⟩:∃j:Nat,(S.length:Int) - T.length - i=j:=⟨((S.length:Int) - T.length - i).toNat,by omega⟩
   have e1:((j:Int)+w.length+1).toNat - j=w.length+1:=by omega
   have e2:((S.length:Int) - T.length+1 - i).toNat=j+1:=by omega
   rw[e2] at hlt
   obtain⟨k1,⟨k2,k3⟩,⟨k4,k5⟩,k6,k7⟩:=dv_step (j:=j) (m:=S.length - T.length) hU dw hq (by omega) (by omega) (by omega) (by omega) hw0 (hz j (by omega)) he hlt
   have e3:((S.length:Int) - T.length+1 - (i+1)).toNat=j:=by omega
   simp only[hj,e1,e3,Int.toNat_natCast,DgA.row,DgA.x,DgA.ok]
   repeat' refine And.intro ?_ ?_
   all_goals first|omega|exact howN (by simp)|exact howN k3.symm|exact trivial|exact hU|exact dw|exact k1|exact k2|exact k6|exact k7|exact dig_set hq k4 k5|(simp;omega)|(rw[lw];exact tw)|exact fun p hp=>by rw[nth_set_ne (by omega)];exact hz p (by omega)
  ·have e2:((S.length:Int) - T.length+1 - i).toNat=0:=by omega
   rw[e2,List.drop_zero] at hlt
   repeat refine And.intro (by omega) ?_
   refine⟨?_,?_⟩
   ·have h1:=@take_snoc0 U 0
    simp only[List.take_zero,valN,Int.pow_zero,Int.one_mul]
    repeat' refine And.intro ?_ ?_
    all_goals first|omega|exact howN (by simp)|exact hU|exact hq|exact he|exact hlt|exact rep_dig|exact fun j _=>rep_nth|(simp;done)|(rw[rep_val];omega)
   clear hlt hz e2 ige i0 i1 tw ttop hw0 hs hs2 s0 s1 he hU hUl hq hql
   clear hw dw lw vw
   clear w s i U q
   rintro⟨i,s,U,q,r⟩ ⟨⟨i0,i1⟩,⟨⟨s0,s1⟩,hs,hs2⟩,⟨hU,hUl⟩,⟨hq,hql⟩,he,hlt,⟨hr,hrl⟩,hz,hv⟩
   simp only at i0 i1 s0 s1 hs hs2 hU hUl hq hql he hlt hr hrl hz hv ⊢
   obtain⟨dw,lw,vw,tw,ttop⟩:=sh_trim db (by omega) (show s.toNat≤31 by omega) hs (by omega)
   generalize hw:trimN (shl T s.toNat)=w at*
   refine⟨fun ilt=>?_,fun ige=>?_⟩
   ·have x0:=dig_nth hU i.toNat
    have x1:=dig_nth hU (i.toNat+1)
    have e1:(i+1).toNat=i.toNat+1:=by omega
    have x2:=dig_nth hr i.toNat
    have hps:(0:Int)<2^s.toNat:=Int.pow_pos (by decide)
    have y0:0≤nthD U i.toNat 0 / 2^s.toNat:=Int.ediv_nonneg x0.1 (Int.le_of_lt hps)
    have y1:nthD U i.toNat 0 / 2^s.toNat≤nthD U i.toNat 0:=Int.ediv_le_self _ x0.1
    have e2:((32 - s) % 18446744073709551616).toNat=32 - s.toNat:=by omega
    have e3:(r.set i.toNat (nthD U i.toNat 0 / 2^s.toNat)).set i.toNat=r.set i.toNat:=by funext z;rw[List.set_set]
    simp only[e1,e2,e3,nth_set_self (show i.toNat<r.length by omega),List.length_set]
    repeat refine And.intro (by omega) ?_
    refine⟨fun hs0=>?_,fun hs0=>?_⟩
    ·obtain⟨d,hd1,hd2,hd3⟩:=rs_digit (s:=s.toNat) x0.1 x0.2 x1.1 x1.2 (by omega) (by omega)
     obtain⟨k1,k2,k3,k4⟩:=rs_step hU hr (show i.toNat<r.length by omega) hz hd2 hd3 hv
     rw[hd1]
     repeat' refine And.intro ?_ ?_
     all_goals first|omega|exact howN (by simp)|exact hU|exact hq|exact k1|exact k3|exact k4|exact he|exact hlt|trivial
    ·have hs00:s.toNat=0:=by omega
     obtain⟨k1,k2,k3,k4⟩:=rs_step (s:=s.toNat) (d:=nthD U i.toNat 0 / 2^s.toNat) hU hr (show i.toNat<r.length by omega) hz ⟨y0,by omega⟩ (by rw[hs00];simp) hv
     repeat' refine And.intro ?_ ?_
     all_goals first|omega|exact howN (by simp)|exact hU|exact hq|exact k1|exact k3|exact k4|exact he|exact hlt|trivial
   ·have hi:i.toNat=w.length:=by omega
    rw[hi] at hv
    obtain⟨w1,w2⟩:=rs_fin hU hr dw rfl hlt vw b0 he (show s.toNat≤31 by omega) (by omega) hv
    rw[trim_eq hq,trim_eq hr,w1,w2]
    repeat' refine And.intro ?_ ?_
    all_goals first|omega|rfl|trivial
theorem len_of {a b:List Int} (d:Dig a) (c:Dig b) (f:Nrm a) (h:valN a≤valN b):a.length≤b.length:=by
 by_cases e:a.length≤b.length
 ·exact e
 ·have:=len_lt c d f (by omega)
  omega
def r165g:SCtr:=⟨49,List Int×List Int,.cons (codR (.i .u32)) (.one (codR (.i .u32))),fun a=>(Dig a.1∧Dig a.2)∧(a.1.length≤1000000000∧a.2.length≤1000000000),
 fun a=> .row (.i .u32) (natL (gcdN (valN a.1) (valN a.2)))⟩
def Λ165g (a:List Int×List Int):Nat→LoopAnn
 |2=> .inv (List Int×List Int) (fun x=>⟨[(0,.row (.i .u32) x.1),(1,.row (.i .u32) x.2)],[]⟩) (fun s=>(rS (.i .u32) s 0,rS (.i .u32) s 1))
  (fun x=>(Dig x.1∧Dig x.2)∧(Nrm x.1∧Nrm x.2)∧(x.1.length≤1000000000∧x.2.length≤1000000000)∧gcdN (valN x.1) (valN x.2)=gcdN (valN a.1) (valN a.2)) (fun x=>(valN x.2).toNat) fun _ _=> .look
 |_=> .look
theorem h165g:Holds Try.prog r165g:=by
 refine con0 (L:=[r154,r166g]) r165g Λ165g (by simpa using⟨h154,h166g⟩) ?_
 rintro⟨a,b⟩ ⟨⟨ha,hb⟩,⟨hla,hlb⟩⟩
 simp only at ha hb hla hlb
 refine vcOf (let z0:=SId.i .u32;let z1:=natL (valN a+valN []);let z2:=natL (valN b+valN []);let z3:=gcdN (valN a) (valN b);((Dig a∧Dig [])∧a.length≤100000000000∧0≤100000000000)∧((Dig b∧Dig [])∧b.length≤100000000000∧0≤100000000000)∧((((SV.row z0 z1).same (SV.row z0 z1)∧(SV.row z0 z2).same (SV.row z0 z2)∧True)∧True)∧(Dig z1∧Dig z2)∧(Nrm z1∧Nrm z2)∧(z1.length≤1000000000∧z2.length≤1000000000)∧gcdN (valN z1) (valN z2)=z3)∧∀(x:List Int×List Int),let z4:=decide ((0:Int)<(↑x.snd.length:Int));let z5:=natL (valN x.fst % valN x.snd);(Dig x.fst∧Dig x.snd)∧(Nrm x.fst∧Nrm x.snd)∧(x.fst.length≤1000000000∧x.snd.length≤1000000000)∧gcdN (valN x.fst) (valN x.snd)=z3→(z4=true→((Dig x.fst∧Dig x.snd)∧(x.fst.length≤10000000000∧x.snd.length≤10000000000)∧(0:Int)<valN x.snd)∧(false=true→(SV.row z0 x.fst).same (SV.row z0 (natL z3)))∧(false=false→(((SV.row z0 x.snd).same (SV.row z0 x.snd)∧(SV.row z0 z5).same (SV.row z0 z5)∧True)∧True)∧((Dig x.snd∧Dig z5)∧(Nrm x.snd∧Nrm z5)∧(x.snd.length≤1000000000∧z5.length≤1000000000)∧gcdN (valN x.snd) (valN z5)=z3)∧(valN z5).toNat<(valN x.snd).toNat))∧(z4=false→(SV.row z0 x.fst).same (SV.row z0 (natL z3)))) (by kernel_rfl) ?_
 simp only[vcs]
 have d0:Dig []:=by simp[Dig]
 have pa:=val_nonneg ha
 have pb:=val_nonneg hb
 have z:valN []=0:=rfl
 rw[z,Int.add_zero,Int.add_zero]
 obtain⟨a1,a2,a3⟩:=natL_ok pa
 obtain⟨b1',b2,b3⟩:=natL_ok pb
 have hln:(natL (valN a)).length≤1000000000:=by
  rw[←trim_eq ha]
  have:=@trim_len a
  omega
 have hln2:(natL (valN b)).length≤1000000000:=by
  rw[←trim_eq hb]
  have:=@trim_len b
  omega
 refine⟨⟨⟨ha,d0⟩,by omega,by omega⟩,⟨⟨hb,d0⟩,by omega,by omega⟩,⟨⟨a2,b2⟩,⟨a3,b3⟩,⟨hln,hln2⟩,by rw[a1,b1']⟩,?_⟩
 rintro⟨s,t⟩ ⟨⟨ds,dt⟩,⟨ns,nt⟩,⟨hs,ht⟩,hg⟩
 simp only at ds dt ns nt ht hs hg ⊢
 have ps:=val_nonneg ds
 have pt:=val_nonneg dt
 refine⟨fun hl=>?_,fun hl=>?_⟩
 ·have hpos:0<valN t:=by
   by_cases h:valN t=0
   ·rw[val_zero dt nt h] at hl
    simp at hl
   ·omega
  have hm:=Int.emod_nonneg (valN s) (show valN t≠0 by omega)
  have hlt:=Int.emod_lt_of_pos (valN s) hpos
  obtain⟨m1,m2,m3⟩:=natL_ok hm
  have hml:=len_of m2 dt m3 (by rw[m1];omega)
  refine⟨⟨⟨ds,dt⟩,⟨by omega,by omega⟩,hpos⟩,fun h=>absurd h (by decide),fun _=>⟨⟨⟨dt,m2⟩,⟨nt,m3⟩,⟨by omega,by omega⟩,?_⟩,by omega⟩⟩
  rw[m1,gcdN_step ps hpos,hg]
 ·have ht0:t=[]:=List.eq_nil_of_length_eq_zero (by omega)
  rw[ht0,z,gcdN_zero ps] at hg
  rw[←hg,natL_val ds ns]
@[reducible] def sF:SId:=.pair .b (.pair (.lst (.i .u32)) (.lst (.i .u32)))
abbrev Fra:=Bool×(List Int×List Int)
def frE (q:Rat):Fra:=(decide (q<0),(natL (q.num.natAbs:Int),natL (q.den:Int)))
def valF (x:Fra):Rat:=mkRat (if x.1 then -valN x.2.1 else valN x.2.1) (valN x.2.2).toNat
def Sz (k:Nat) (q:Rat):Prop:=(q.num.natAbs:Int)<4294967296^k∧(q.den:Int)<4294967296^k
theorem natL_len {n:Int} {k:Nat} (e:0≤n) (h:n<4294967296^k):(natL n).length≤k:=by
 obtain⟨f,b,d⟩:=natL_ok e
 by_cases c:(natL n).length≤k
 ·exact c
 ·have a:natL n≠[]:=by grind
  have:=nrm_ge b d a
  have:=pow_mono (show k≤(natL n).length - 1 by omega)
  omega
theorem lt_of_len {a:List Int} {k:Nat} (h:Dig a) (b:a.length≤k):valN a<4294967296^k:=by
 have:=val_bdN h
 have:=pow_mono b
 omega
theorem valF_frE (q:Rat):valF (frE q)=q:=by
 unfold valF frE
 have a:=(natL_ok (show(0:Int)≤(q.num.natAbs:Int) by omega)).1
 have b:=(natL_ok (show(0:Int)≤(q.den:Int) by omega)).1
 simp only[a,b,decide_eq_true_eq,Int.toNat_natCast]
 grind[Rat.num_nonneg,Rat.mkRat_self]
theorem mk_num {N:Int} {D:Nat} (a:D≠0):(mkRat N D).num.natAbs=N.natAbs / N.natAbs.gcd D∧(mkRat N D).den=D / N.natAbs.gcd D:=by
 rw[←Rat.normalize_eq_mkRat a,Rat.normalize_eq a]
 simp only
 refine⟨?_,trivial⟩
 have b:0<N.natAbs.gcd D:=Nat.gcd_pos_of_pos_right _ (by omega)
 have c:((N.natAbs.gcd D:Nat):Int)∣N:=Int.ofNat_dvd_left.2 (Nat.gcd_dvd_left _ _)
 generalize N.natAbs.gcd D=g at*
 obtain⟨m,rfl⟩:=c
 rw[Int.mul_ediv_cancel_left _ (by omega),Int.natAbs_mul,Int.natAbs_natCast,Nat.mul_div_cancel_left _ b]
theorem mk_neg {N:Int} {D:Nat} (f:D≠0):mkRat N D<0↔N<0:=by
 have i:(0:Rat)=mkRat 0 D:=(Rat.zero_mkRat D).symm
 have e:mkRat N D<0↔¬0≤mkRat N D:=Rat.not_le.symm
 rw[e,←Rat.num_nonneg]
 have g:=Rat.num_divInt_den (mkRat N D)
 have c:(mkRat N D).num*(D:Int)=N*((mkRat N D).den:Int):=by
  grind[Rat.mkRat_eq_iff,mkRat,Rat.mkRat_self]
 have d:(0:Int)<((mkRat N D).den:Int):=by have:=(mkRat N D).den_pos;omega
 have b:(0:Int)<(D:Int):=by omega
 constructor
 ·intro h
  by_cases a:N<0
  ·exact a
  ·exfalso
   apply h
   have:0≤(mkRat N D).num*(D:Int):=by rw[c];exact Int.mul_nonneg (by omega) (by omega)
   exact Int.nonneg_of_mul_nonneg_left this b
 ·intro a h
  have:0≤(mkRat N D).num*(D:Int):=Int.mul_nonneg h (by omega)
  rw[c] at this
  have:=Int.mul_neg_of_neg_of_pos a d
  omega
theorem frE_mk {s:Bool} {n d:Int} (n0:0≤n) (f:0<d):frE (mkRat (if s then -n else n) d.toNat)=(s&&decide (0<n),(natL (n / gcdN n d),natL (d / gcdN n d))):=by
 have e:d.toNat≠0:=by omega
 obtain⟨b,c⟩:=mk_num (N:=if s then -n else n) e
 have a:(if s then -n else n).natAbs=n.toNat:=by split<;>omega
 unfold frE
 rw[b,c,a]
 have g:gcdN n d=((n.toNat.gcd d.toNat:Nat):Int):=rfl
 refine Prod.ext ?_ (Prod.ext ?_ ?_)
 ·simp only
  rw[Bool.eq_iff_iff]
  simp only[decide_eq_true_eq,Bool.and_eq_true]
  grind[mk_neg]
 all_goals grind
theorem sz_mk {N:Int} {D:Nat} {k:Nat} (b:D≠0) (f:(N.natAbs:Int)<4294967296^k) (e:(D:Int)<4294967296^k):Sz k (mkRat N D):=by
 obtain⟨c,a⟩:=mk_num (N:=N) b
 unfold Sz
 rw[c,a]
 have g:=Nat.div_le_self N.natAbs (N.natAbs.gcd D)
 have d:=Nat.div_le_self D (N.natAbs.gcd D)
 omega
theorem Sz.mono {j k:Nat} {q:Rat} (h:Sz j q) (a:j≤k):Sz k q:=by
 have:=pow_mono a
 exact⟨by have:=h.1;omega,by have:=h.2;omega⟩
theorem add_mk (p q:Rat):p+q=mkRat (p.num*q.den+q.num*p.den) (p.den*q.den):=by
 rw[Rat.add_def,Rat.normalize_eq_mkRat]
theorem sz_add {p q:Rat} {i j:Nat} (e:Sz i p) (c:Sz j q):Sz (i+j+1) (p+q):=by
 rw[add_mk]
 have g:=p.den_pos
 have l:=q.den_pos
 have k:p.den*q.den≠0:=Nat.ne_of_gt (Nat.mul_pos g l)
 have m:∀{a b:Int} {i j:Nat},0≤a→0≤b→a<4294967296^i→b<4294967296^j→a*b<4294967296^(i+j):=by
  intro a b i j h o f d
  rw[Int.pow_add]
  exact Int.lt_of_le_of_lt (Int.mul_le_mul_of_nonneg_left (Int.le_of_lt d) h) (Int.mul_lt_mul_of_pos_right f (pow_pos _))
 have f:=m (by omega) (by omega) e.1 c.2
 have d:=m (by omega) (by omega) c.1 e.2
 have n:=m (by omega) (by omega) e.2 c.2
 rw[Nat.add_comm j i] at d
 have t:=pow_pos (i+j)
 refine sz_mk k ?_ ?_
 ·have r:(p.num*(q.den:Int)).natAbs=p.num.natAbs*q.den:=by rw[Int.natAbs_mul,Int.natAbs_natCast]
  have s:(q.num*(p.den:Int)).natAbs=q.num.natAbs*p.den:=by rw[Int.natAbs_mul,Int.natAbs_natCast]
  omega
 omega
theorem sz_neg {p:Rat} {i:Nat} (a:Sz i p):Sz i (-p):=by
 grind[Sz,Rat.neg_num,Rat.neg_den]
def frS (q:Rat):SV:=.agg (encS sF (frE q))
def isF (x:Fra):Prop:=∃q k,x=frE q∧Sz k q∧k≤100000000
def mkF (s:Bool) (n d:Int):Rat:=mkRat (if s then -n else n) d.toNat
def r127:SCtr:=⟨52,Int,.one (codI .i64),fun n=> -9223372036854775808≤(show Int from n)∧(show Int from n)≤9223372036854775807,fun n=> .row (.i .u32) (natL ((show Int from n).natAbs:Int))⟩
theorem h127:Holds Try.prog r127:=by
 refine con0 (L:=[r128]) r127 lk (by simpa using h128) ?_
 intro(n:Int) h
 obtain⟨h0,h1⟩: -9223372036854775808≤n∧n≤9223372036854775807:=h
 refine vcOf (let z0:=decide (n<(0:Int));let z1:=(-(n+(1:Int))+(1:Int)) % (18446744073709551616:Int);let z2:=SId.i .u32;let z3:=SV.row z2 (natL (↑n.natAbs:Int));(z0=true→inR .i64 (n+(1:Int))∧inR .i64 (-(n+(1:Int)))∧inR .u64 (-(n+(1:Int)))∧((0:Int)≤z1∧z1<(18446744073709551616:Int))∧(SV.row z2 (natL z1)).same z3)∧(z0=false→inR .u64 n∧((0:Int)≤n∧n<(18446744073709551616:Int))∧(SV.row z2 (natL n)).same z3)) (by kernel_rfl) ?_
 simp only[vcs]
 refine⟨fun hn=>?_,fun hn=>?_⟩
 ·have e:(-(n+1)+1) % 18446744073709551616=(n.natAbs:Int):=by omega
  rw[e]
  exact⟨by omega,by omega,u64_in (by omega) (by omega),by omega,rfl⟩
 ·have e:(n.natAbs:Int)=n:=by omega
  rw[e]
  exact⟨u64_in (by omega) (by omega),by omega,rfl⟩
def r151:SCtr:=⟨74,Bool×(List Int×List Int),.cons codB (.cons (codR (.i .u32)) (.one (codR (.i .u32)))),fun a=>(Dig a.2.1∧Dig a.2.2)∧(a.2.1.length≤1000000000∧a.2.2.length≤1000000000)∧0<valN a.2.2,
 fun a=> .tup [frS (mkF a.1 (valN a.2.1) (valN a.2.2)),.si .i64 0]⟩
theorem h151:Holds Try.prog r151:=by
 refine con0 (L:=[r165g,r166g]) r151 lk (by simpa using⟨h165g,h166g⟩) ?_
 rintro⟨s,n,d⟩ ⟨⟨hn,hd⟩,⟨hln,hld⟩,d0⟩
 simp only at hn hd hln hld d0
 refine vcOf (let z0:=decide ((↑d.length:Int)=(0:Int));let z1:=SV.row (SId.i .i64) [];let z2:=frE (mkF s (valN n) (valN d));let z3:=SId.i .u32;let z4:=SV.tup [SV.agg [SV.sb z2.fst,SV.row z3 z2.snd.fst,SV.row z3 z2.snd.snd],SV.si .i64 0];let z5:=natL (gcdN (valN n) (valN d));let z6:=natL (valN n / valN z5);let z7:=[SV.row z3 z6,SV.row z3 (natL (valN d / valN z5))];let z8:=[SV.il .i64 0];(z0=true→(SV.tup [SV.agg [SV.bl false,z1,z1],SV.il .i64 8]).same z4)∧(z0=false→((Dig n∧Dig d)∧n.length≤1000000000∧d.length≤1000000000)∧((Dig n∧Dig z5)∧(n.length≤10000000000∧z5.length≤10000000000)∧(0:Int)<valN z5)∧((Dig d∧Dig z5)∧(d.length≤10000000000∧z5.length≤10000000000)∧(0:Int)<valN z5)∧(false=true→(SV.tup [SV.agg [SV.bl false,z1,z1],SV.il .i64 8]).same z4)∧(false=false→(false=true→(SV.tup [SV.agg [SV.bl false,z1,z1],SV.il .i64 8]).same z4)∧(false=false→(s=true→(SV.tup (SV.agg (SV.sb (decide ((0:Int)<(↑z6.length:Int)))::z7)::z8)).same z4)∧(s=false→(SV.tup (SV.agg (SV.bl false::z7)::z8)).same z4))))) (by kernel_rfl) ?_
 simp only[vcs]
 have n0:=val_nonneg hn
 have g0:0<gcdN (valN n) (valN d):=by
  unfold gcdN
  have:=Nat.gcd_pos_of_pos_right (valN n).toNat (show 0<(valN d).toNat by omega)
  omega
 have gle:gcdN (valN n) (valN d)≤valN d:=by
  unfold gcdN
  have:=Nat.gcd_le_right (valN n).toNat (show 0<(valN d).toNat by omega)
  omega
 have gdv:gcdN (valN n) (valN d)∣valN n:=by
  unfold gcdN
  have:=Nat.gcd_dvd_left (valN n).toNat (valN d).toNat
  have h2:=Int.natCast_dvd_natCast.2 this
  rwa [Int.toNat_of_nonneg n0] at h2
 obtain⟨a1,a2,a3⟩:=natL_ok (Int.le_of_lt g0)
 have hgl:=len_of a2 (trim_dig hd) a3 (by rw[a1,trim_val.1];exact gle)
 have htl:=@trim_len d
 have hq0:0≤valN n / gcdN (valN n) (valN d):=Int.ediv_nonneg n0 (Int.le_of_lt g0)
 obtain⟨b1,b2,b3⟩:=natL_ok hq0
 have hpos:(0<((natL (valN n / gcdN (valN n) (valN d))).length:Int))↔0<valN n:=by
  obtain⟨m,hm⟩:=gdv
  have hmm:valN n / gcdN (valN n) (valN d)=m:=by
   conv=>lhs;arg 1;rw[hm]
   rw[Int.mul_ediv_cancel_left _ (by omega)]
  rw[hmm] at b1 b2 b3 ⊢
  have hm0:0<valN n↔0<m:=by
   generalize gcdN (valN n) (valN d)=g at*
   rw[hm]
   constructor
   ·intro h
    by_cases h2:0<m
    ·exact h2
    ·have:=Int.mul_nonpos_of_nonneg_of_nonpos (Int.le_of_lt g0) (show m≤0 by omega)
     omega
   ·intro h;exact Int.mul_pos g0 h
  rw[hm0]
  constructor
  ·intro h
   by_cases hm:m=0
   ·rw[hm] at h;exact absurd h (by decide)
   ·omega
  ·intro h
   by_cases hl:(natL m).length=0
   ·rw[List.eq_nil_of_length_eq_zero hl] at b1
    simp only[valN] at b1
    omega
   ·omega
 have hd0:d.length≠0:=by
  intro h
  rw[List.eq_nil_of_length_eq_zero h] at d0
  exact absurd d0 (by decide)
 unfold mkF
 rw[frE_mk n0 d0,a1]
 simp only
 refine⟨fun h=>absurd h (by omega),fun _=>⟨⟨⟨hn,hd⟩,by omega,by omega⟩,⟨⟨hn,a2⟩,by omega,g0⟩,⟨⟨hd,a2⟩,by omega,g0⟩,?_⟩⟩
 have hb:decide (0<((natL (valN n / gcdN (valN n) (valN d))).length:Int))=decide (0<valN n):=by
  rw[decide_eq_decide];exact hpos
 refine⟨fun h=>absurd h (by decide),fun _=>⟨fun h=>absurd h (by decide),fun _=>⟨fun hs=>?_,fun hs=>?_⟩⟩⟩
 ·rw[hs,hb]
  rfl
 ·rw[hs]
  rfl
def r126:SCtr:=⟨51,Bool×(List Int×List Int),.cons codB (.cons (codR (.i .u32)) (.one (codR (.i .u32)))),fun a=>(Dig a.2.1∧Dig a.2.2)∧(a.2.1.length≤1000000000∧a.2.2.length≤1000000000)∧0<valN a.2.2,
 fun a=>frS (mkF a.1 (valN a.2.1) (valN a.2.2))⟩
theorem h126:Holds Try.prog r126:=by
 refine con0 (L:=[r151]) r126 lk (by simpa using h151) ?_
 rintro⟨s,n,d⟩ ⟨⟨hn,hd⟩,⟨hln,hld⟩,d0⟩
 simp only at hn hd hln hld d0
 refine vcOf (let z0:=frE (mkF s (valN n) (valN d));let z1:=SV.agg [SV.sb z0.fst,SV.row (SId.i .u32) z0.snd.fst,SV.row (SId.i .u32) z0.snd.snd];((Dig n∧Dig d)∧(n.length≤1000000000∧d.length≤1000000000)∧(0:Int)<valN d)∧z1.same z1) (by kernel_rfl) ?_
 simp only[vcs]
 exact⟨⟨hn,hd⟩,⟨hln,hld⟩,d0⟩
def r94:SCtr:=⟨26,Int,.one (codI .i64),fun n=> -9223372036854775808≤(show Int from n)∧(show Int from n)≤9223372036854775807,fun n=>frS ((show Int from n):Rat)⟩
theorem h94:Holds Try.prog r94:=by
 refine con0 (L:=[r127,r128,r126]) r94 lk (by simpa using⟨h127,h128,h126⟩) ?_
 intro(n:Int) h
 obtain⟨h0,h1⟩: -9223372036854775808≤n∧n≤9223372036854775807:=h
 refine vcOf (let z0:=natL (↑n.natAbs:Int);let z1:=natL (1:Int);let z2:=frE (mkF (decide (n<(0:Int))) (valN z0) (valN z1));let z3:=SId.i .u32;let z4:=frE (IntCast.intCast n);((-9223372036854775808:Int)≤n∧n≤(9223372036854775807:Int))∧((0:Int)≤(1:Int)∧(1:Int)<(18446744073709551616:Int))∧((Dig z0∧Dig z1)∧(z0.length≤1000000000∧z1.length≤1000000000)∧(0:Int)<valN z1)∧(SV.agg [SV.sb z2.fst,SV.row z3 z2.snd.fst,SV.row z3 z2.snd.snd]).same (SV.agg [SV.sb z4.fst,SV.row z3 z4.snd.fst,SV.row z3 z4.snd.snd])) (by kernel_rfl) ?_
 conv=>zeta
 obtain⟨a1,a2,a3⟩:=natL_ok (show(0:Int)≤(n.natAbs:Int) by omega)
 obtain⟨b1,b2,b3⟩:=natL_ok (show(0:Int)≤1 by omega)
 have l1:=natL_len (k:=2) (show(0:Int)≤(n.natAbs:Int) by omega) (by rw[show(4294967296:Int)^2=18446744073709551616 from rfl];omega)
 have l2:=natL_len (k:=1) (show(0:Int)≤1 by omega) (by decide)
 refine⟨⟨h0,h1⟩,⟨by omega,by omega⟩,⟨⟨a2,b2⟩,⟨by omega,by omega⟩,by omega⟩,?_⟩
 have e:mkF (decide (n<0)) (valN (natL (n.natAbs:Int))) (valN (natL 1))=IntCast.intCast n:=by
  rw[a1,b1]
  unfold mkF
  have h2:(if decide (n<0)=true then -(n.natAbs:Int) else(n.natAbs:Int))=n:=by
   by_cases h:n<0
   ·rw[if_pos (by simpa using h)];omega
   ·rw[if_neg (by simpa using h)];omega
  rw[h2]
  show mkRat n 1=_
  rw[Rat.mkRat_one]
 rw[e]
 rfl
def sgnQ (q:Rat):Int:=if q<0 then -1 else if 0<q then 1 else 0
def r99:SCtr:=⟨28,Fra,.one (codE sF),isF,fun x=> .si .i64 (sgnQ (valF x))⟩
theorem h99:Holds Try.prog r99:=by
 refine con0 (L:=[]) r99 lk (by simp) ?_
 intro(x:Fra) h
 obtain⟨q,k,rfl,hz,hk⟩:isF x:=h
 refine vcOf (let z0:=decide ((↑(List.length (frE q).snd.fst):Int)=(0:Int));let z1:=SV.si .i64 (sgnQ (valF (frE q)));(z0=true→(SV.il .i64 0).same z1)∧(z0=false→((frE q).fst=true→(SV.il .i64 (-1:Int)).same z1)∧((frE q).fst=false→(SV.il .i64 1).same z1))) (by kernel_rfl) ?_
 simp only[vcs]
 rw[valF_frE]
 have hl:((frE q).2.1.length:Int)=0↔q.num=0:=by
  unfold frE
  simp only
  obtain⟨a1,a2,a3⟩:=natL_ok (show(0:Int)≤(q.num.natAbs:Int) by omega)
  constructor
  ·intro h
   rw[List.eq_nil_of_length_eq_zero (by omega:(natL (q.num.natAbs:Int)).length=0)] at a1
   simp only[valN] at a1
   omega
  ·intro h
   rw[h]
   rfl
 have hf:(frE q).1=decide (q<0):=rfl
 have h0:=@Rat.num_nonneg q
 have hn:q<0↔q.num<0:=by
  rw[←Rat.not_le,←h0]
  omega
 have hp:0<q↔0<q.num:=by
  constructor
  ·intro h
   have h1:=h0.2 (Rat.le_of_lt h)
   by_cases hz:q.num=0
   ·have:=Rat.num_eq_zero.1 hz
    subst this
    exact absurd h (by decide)
   ·omega
  ·intro h
   have h1:=h0.1 (by omega)
   exact Rat.lt_of_le_of_ne h1 (fun he=>by rw[←he] at h;exact absurd h (by decide))
 rw[hl,hf]
 simp only[decide_eq_true_eq,decide_eq_false_iff_not]
 unfold sgnQ
 simp only[hn,hp]
 refine⟨fun h=>?_,fun h=>⟨fun h2=>?_,fun h2=>?_⟩⟩
 ·rw[if_neg (by omega),if_neg (by omega)]
 ·rw[if_pos h2]
 ·rw[if_neg h2,if_pos (by omega)]
def digF (x:Fra):Prop:=(Dig x.2.1∧Dig x.2.2)∧x.2.1.length≤100000000∧x.2.2.length≤100000000
def r131:SCtr:=⟨55,Fra×Fra,.cons (codE sF) (.one (codE sF)),fun a=>digF a.1∧digF a.2,fun a=> .tup [.row (.i .u32) (natL (valN a.1.2.1*valN a.2.2.2)),.row (.i .u32) (natL (valN a.2.2.1*valN a.1.2.2))]⟩
theorem h131:Holds Try.prog r131:=by
 refine con0 (L:=[r153]) r131 lk (by simpa using h153) ?_
 rintro⟨⟨s,n,d⟩,⟨s',n',d'⟩⟩ ⟨⟨⟨h1,h2⟩,h3,h4⟩,⟨⟨h5,h6⟩,h7,h8⟩⟩
 simp only at h1 h2 h3 h4 h5 h6 h7 h8
 refine vcOf (let z0:=SV.tup [SV.row (SId.i .u32) (natL (valN n*valN d')),SV.row (SId.i .u32) (natL (valN n'*valN d))];((Dig n∧Dig d')∧n.length≤100000000000∧d'.length≤100000000000)∧((Dig n'∧Dig d)∧n'.length≤100000000000∧d.length≤100000000000)∧z0.same z0) (by kernel_rfl) ?_
 simp only[vcs]
 refine⟨⟨⟨h1,h6⟩,by omega,by omega⟩,⟨⟨h5,h2⟩,by omega,by omega⟩⟩
theorem sgn_pos {q:Rat}:0<sgnQ q↔0<q:=by
 unfold sgnQ
 by_cases h1:q<0
 ·rw[if_pos h1]
  have:¬0<q:=by grind
  simp[this]
 ·rw[if_neg h1]
  by_cases h2:0<q
  ·rw[if_pos h2];simp[h2]
  ·rw[if_neg h2];simp[h2]
theorem feas_ok {p:Prob} {c:List Int} (e:feasE p c=0):checkE p=0∧pickOk p c=true∧Good p∧c.length≤160∧∀i∈c,0≤i∧i<p.offers.length:=by
 have b:checkE p=0:=by
  unfold feasE at e
  omega
 have d:pickOk p c=true:=by
  unfold feasE at e
  grind
 have f:=good_of b
 obtain⟨r,g⟩:=Option.isSome_iff_exists.1 d
 obtain⟨h,a⟩:=pick_idx (by omega) g
 refine⟨b,d,f,?_,a⟩
 have k:=pick_len (by omega) g
 have j:=f.2.1
 grind
theorem howO {i u v:Nat} (h:u=v):(SV.ow i u 1).same (SV.ow i v 1):=by subst h;rfl
theorem valsL {p:Prob}:∀{c l:List Int},(c.foldl (setV p) l).length=l.length
 |[],l=>rfl
 |i::c,l=>by
  rw[List.foldl_cons,valsL]
  grind[setV]
theorem vals_lenN {p:Prob} {c:List Int}:(valsS p c).length=p.classes.length:=by
 grind[valsS,valsL]
theorem vals_succ {p:Prob} {c:List Int} {i:Nat} (h:i<c.length):valsS p (c.take (i+1))=setV p (valsS p (c.take i)) (nthD c i 0):=by
 grind[take_snoc,valsS]
def Λ101 (a:Prob×Alloc):Nat→LoopAnn
 |5=> .inv (Int×List Int) (fun x=>⟨[(2,.ptr 0 0 20),(5,.ow 2 x.2.length 1),(18,.row (.i .i64) a.2.chosen),(19,.si .i64 a.2.chosen.length),(20,.si .i64 x.1)],[.cells a.1.ss 27 20 false,.cells [.row (.i .i64) a.2.chosen,.si .i64 a.2.value] 29 2 false,.row (.i .i64) x.2 2 true]⟩) (fun s=>(iS s 20,oS (.i .i64) s 2))
  (fun x=>(0≤x.1∧x.1≤a.2.chosen.length)∧x.2=valsS a.1 (a.2.chosen.take x.1.toNat)) (fun x=>(a.2.chosen.length - x.1).toNat) fun _ _=> .look
 |_=> .look
def r101:SCtr:=⟨21,Prob×Alloc,.cons codP (.one codA),fun a=>a.2.chosen.length≤9223372036854775807,fun a=> .row (.i .i64) (if feasE a.1 a.2.chosen=0 then valsS a.1 a.2.chosen else[])⟩
theorem h101:Holds Try.prog r101:=by
 refine con0 (L:=[r100]) r101 Λ101 (by simpa using h100) ?_
 rintro⟨p,⟨c,v⟩⟩ h
 refine vcOf (let z0:=decide (feasE p c≠(0:Int));let z1:=SId.i .i64;let z2:=SV.row z1 (if feasE p c=(0:Int) then valsS p c else[]);let z3:=(↑p.classes.length:Int);let z4:=SV.ptr 0 0 20;let z5:=List.replicate z3.toNat (0:Int);let z6:=(↑c.length:Int);let z7:=SV.si .i64 z6;let z8:=SObj.cells [SV.si .i64 p.supply.a0,SV.si .i64 p.supply.a1,SV.si .i64 p.supply.a2,SV.si .i64 p.supply.a3,SV.si .i64 p.supply.a4,SV.si .i64 p.supply.a5,SV.si .i64 p.opn.a0,SV.si .i64 p.opn.a1,SV.si .i64 p.opn.a2,SV.si .i64 p.opn.a3,SV.si .i64 p.opn.a4,SV.si .i64 p.opn.a5,SV.si .i64 p.cls.a0,SV.si .i64 p.cls.a1,SV.si .i64 p.cls.a2,SV.si .i64 p.cls.a3,SV.si .i64 p.cls.a4,SV.si .i64 p.cls.a5,SV.row z1 p.classes,SV.row SId.off p.offers] 27 20 false;let z9:=SObj.cells [SV.row z1 c,SV.si .i64 v] 29 2 false;let z10:=SObj.row z1 z5 2 true;c.length≤9223372036854775807∧(z0=true→(SV.row z1 []).same z2)∧(z0=false→(0:Int)≤z3∧z3≤z3∧z3*(8:Int)≤(140737488355328:Int)∧z3≤(1000000000000:Int)∧(((z4.same z4∧(SV.ow 2 z3.toNat 1).same (SV.ow 2 z5.length 1)∧(SV.row z1 c).same (SV.row z1 c)∧(SV.si .i64 (↑c.length:Int)).same z7∧(SV.il .i64 0).same (SV.si .i64 0)∧True)∧z8.same z8∧z9.same z9∧z10.same z10∧True)∧((0:Int)≤(0:Int)∧(0:Int)≤z6)∧z5=valsS p [])∧∀(x:Int×List Int),let z11:=nthD c x.fst.toNat (0:Int);let z12:=x.snd.length;let z13:=nthD p.offers z11.toNat SId.off.dflt;let z14:=x.fst+(1:Int);let z15:=x.snd.set z13.bidder.toNat z13.value;let z16:=SV.si .i64 z14;let z17:=SObj.row z1 z15 2 true;((0:Int)≤x.fst∧x.fst≤z6)∧x.snd=valsS p (List.take x.fst.toNat c)→(decide (x.fst<z6)=true→(0:Int)≤x.fst∧x.fst<(↑c.length:Int)∧x.fst.toNat<c.length∧(0:Int)≤z11∧z11<(↑p.offers.length:Int)∧z11.toNat<p.offers.length∧(0:Int)≤z11∧z11<(↑p.offers.length:Int)∧z11.toNat<p.offers.length∧x.snd.length=z12∧(0:Int)≤z13.bidder∧z13.bidder<(↑z12:Int)∧x.snd.length=z12∧z13.bidder.toNat<z12∧inR .i64 z14∧((z4.same z4∧(SV.ow 2 x.snd.length 1).same (SV.ow 2 z15.length 1)∧(SV.row z1 c).same (SV.row z1 c)∧z7.same z7∧z16.same z16∧True)∧z8.same z8∧z9.same z9∧z17.same z17∧True)∧(((0:Int)≤z14∧z14≤z6)∧z15=valsS p (List.take z14.toNat c))∧(z6 - z14).toNat<(z6 - x.fst).toNat)∧(decide (x.fst<z6)=false→x.snd.length=z12∧(SV.row z1 x.snd).same z2))) (by kernel_rfl) ?_
 simp only[vcs]
 have hc1:c.length≤9223372036854775807:=h
 refine⟨hc1,fun hne=>?_,fun hz=>?_⟩
 ·rw[if_neg hne]
 have hz:feasE p c=0:=by simpa using hz
 obtain⟨_,_,hg,hcl,hix⟩:=feas_ok hz
 have h8:=hg.1
 have hN:=hg.2.1
 rw[if_pos hz]
 refine⟨by omega,by omega,by omega,by omega,?_,?_⟩
 ·repeat' refine And.intro ?_ ?_
  all_goals first|omega|exact howO (by simp)|rfl|trivial
 rintro⟨i,out⟩ ⟨⟨i0,i1⟩,ho⟩
 simp only at i0 i1 ho ⊢
 subst ho
 have hl:=@vals_lenN p (c.take i.toNat)
 refine⟨fun hi=>?_,fun hi=>?_⟩
 ·have hj:=hix (nthD c i.toNat 0) (nthD_mem (by omega))
  have hx:=hg.2.2.2.2 _ (nthD_mem (d:=SId.off.dflt) (show(nthD c i.toNat 0).toNat<p.offers.length by omega))
  have hs:=vals_succ (p:=p) (show i.toNat<c.length by omega)
  have e:(i+1).toNat=i.toNat+1:=by omega
  rw[e,hs]
  repeat' refine And.intro ?_ ?_
  all_goals first|omega|exact howO (by simp)|rfl|trivial
 ·have:i.toNat=c.length:=by omega
  rw[this,List.take_length]
  repeat' refine And.intro ?_ ?_
  all_goals first|omega|rfl
theorem and_one {p:Int} (p0:0≤p) (p1:p<9223372036854775808):binK.andI .i64 p 1=p % 2:=by
 obtain⟨m,rfl⟩:=Int.eq_ofNat_of_zero_le p0
 have h1:(BitVec.ofInt 64 ((m:Nat):Int)).toNat=m:=by rw[BitVec.toNat_ofInt];omega
 have h2:(BitVec.ofInt 64 1).toNat=1:=by rw[BitVec.toNat_ofInt];rfl
 have h3:(BitVec.ofInt 64 ((m:Nat):Int) &&&BitVec.ofInt 64 1).toNat=m % 2:=by
  rw[BitVec.toNat_and,h1,h2]
  exact Nat.and_two_pow_sub_one_eq_mod m 1
 show wrapI .i64 ((BitVec.ofInt 64 ((m:Nat):Int) &&&BitVec.ofInt 64 1).toNat:Nat)=_
 rw[h3,wrapI_eq]
 simp only[IntKind.wrap,IntKind.bits,IntKind.signed]
 simp
 omega
def hasI (m b:Int):Bool:=decide (m / 2^b.toNat % 2=1)
theorem half_nn {m:Int} {i:Nat} (h:0≤m):0≤m / 2^i∧m / 2^i≤m:=by
 refine⟨Int.ediv_nonneg h (Int.pow_nonneg (by omega)),Int.ediv_le_self _ h⟩
def payU (vals:List Int) (m:Int) (n:Nat):Int:=(List.range n).foldl (fun(s:Int) (j:Nat)=>if 0<nthD vals j 0∧hasI m j=false then s+2^j else s) 0
def leastU (vals:List Int) (m w:Int) (n:Nat):Int:=(List.range n).foldl (fun(s:Int) (j:Nat)=>if hasI m j=true then s - nthD vals j 0 else s) w
theorem payU_succ {vals:List Int} {m:Int} {n:Nat}:payU vals m (n+1)=if 0<nthD vals n 0∧hasI m n=false then payU vals m n+2^n else payU vals m n:=by
 unfold payU
 rw[List.range_succ,List.foldl_append]
 rfl
theorem leastU_succ {vals:List Int} {m w:Int} {n:Nat}:leastU vals m w (n+1)=if hasI m n=true then leastU vals m w n - nthD vals n 0 else leastU vals m w n:=by
 unfold leastU
 rw[List.range_succ,List.foldl_append]
 rfl
theorem payU_bd {vals:List Int} {m:Int}:∀{n:Nat},0≤payU vals m n∧payU vals m n<2^n
 |0=>by simp[payU]
 |n+1=>by
  have:=@payU_bd vals m n
  rw[payU_succ,Int.pow_succ]
  split<;>omega
theorem pow8 {n:Nat} (h:n≤8):(2:Int)^n≤256∧1≤(2:Int)^n:=by
 have:n=0∨n=1∨n=2∨n=3∨n=4∨n=5∨n=6∨n=7∨n=8:=by omega
 rcases this with rfl|rfl|rfl|rfl|rfl|rfl|rfl|rfl|rfl<;>decide
theorem leastU_bd {vals:List Int} {m w:Int} (h:∀v∈vals,0≤v∧v≤1000000000000000):∀{n:Nat},n≤vals.length→w - 1000000000000000*n≤leastU vals m w n∧leastU vals m w n≤w
 |0,_=>by simp[leastU]
 |n+1,hn=>by
  have:=@leastU_bd vals m w h n (by omega)
  have hv:=h _ (nthD_mem (d:=0) (show n<vals.length by omega))
  rw[leastU_succ]
  split<;>omega
theorem setV_mem {p:Prob} {l:List Int} {i v:Int} (h:v∈setV p l i):v∈l∨v=(nthD p.offers i.toNat SId.off.dflt).value:=by
 unfold setV at h
 rcases List.mem_or_eq_of_mem_set h with h|h
 ·exact .inl h
 ·exact .inr h
theorem vals_ok {p:Prob} (hg:Good p):∀{c:List Int} {l:List Int},(∀i∈c,0≤i∧i<p.offers.length)→(∀v∈l,0≤v∧v≤1000000000000000)→∀v∈c.foldl (setV p) l,0≤v∧v≤1000000000000000
 |[],l,_,hl,v,hv=>hl v hv
 |i::c,l,hc,hl,v,hv=>by
  refine vals_ok hg (c:=c) (l:=setV p l i) (fun j hj=>hc j (List.mem_cons_of_mem _ hj)) (fun u hu=>?_) v hv
  rcases setV_mem hu with h|h
  ·exact hl u h
  ·have hi:=hc i (by simp)
   have:=hg.2.2.2.2 _ (nthD_mem (d:=SId.off.dflt) (show i.toNat<p.offers.length by omega))
   omega
theorem vals_good {p:Prob} {c:List Int} (h:feasE p c=0):(valsS p c).length=p.classes.length∧p.classes.length≤8∧∀v∈valsS p c,0≤v∧v≤1000000000000000:=by
 obtain⟨_,_,hg,hcl,hix⟩:=feas_ok h
 refine⟨vals_lenN,hg.1,?_⟩
 unfold valsS
 exact vals_ok hg hix fun v hv=>by
  have:=(List.mem_replicate.1 hv).2
  omega
def pU (V:List Int) (m:Int):Int:=payU V m V.length
def lU (V:List Int) (m w:Int):Int:=leastU V m w V.length
theorem or_pow {x:Int} {i:Nat} (x0:0≤x) (x1:x<2^i) (hi:i≤8):binK.orI .i64 x (1*2^i)=x+2^i:=by
 obtain⟨m,rfl⟩:=Int.eq_ofNat_of_zero_le x0
 have hp:=pow8 hi
 have hpn:((2^i:Nat):Int)=2^i:=by push_cast;rfl
 have h1:(BitVec.ofInt 64 ((m:Nat):Int)).toNat=m:=by rw[BitVec.toNat_ofInt];omega
 have h2:(BitVec.ofInt 64 (1*2^i)).toNat=2^i*1:=by rw[BitVec.toNat_ofInt];omega
 have h3:(BitVec.ofInt 64 ((m:Nat):Int) |||BitVec.ofInt 64 (1*2^i)).toNat=2^i+m:=by
  rw[BitVec.toNat_or,h1,h2,Nat.or_comm,←Nat.two_pow_add_eq_or_of_lt (by omega)]
  omega
 show wrapI .i64 ((BitVec.ofInt 64 ((m:Nat):Int) |||BitVec.ofInt 64 (1*2^i)).toNat:Nat)=_
 rw[h3,wrapI_eq]
 simp only[IntKind.wrap,IntKind.bits,IntKind.signed]
 simp
 omega
def paidQ (l:List Fra) (m:Int) (n:Nat):Rat:=(List.range n).foldl (fun(s:Rat) (j:Nat)=>if hasI m j=true then s+valF (nthD l j sF.dflt) else s) 0
theorem paidQ_succ {l:List Fra} {m:Int} {n:Nat}:paidQ l m (n+1)=if hasI m n=true then paidQ l m n+valF (nthD l n sF.dflt) else paidQ l m n:=by
 unfold paidQ
 rw[List.range_succ,List.foldl_append]
 rfl
theorem sz_zero:Sz 1 0:=by unfold Sz;decide
def gainQ (V:List Int) (l:List Fra) (m w:Int):Rat:=(lU V m w:Rat) - paidQ l (pU V m) l.length
def fCells (x:Fra):SObj:=.cells [.sb x.1,.row (.i .u32) x.2.1,.row (.i .u32) x.2.2] 45 3 false
def Λ46 (a:Fra×Fra):Nat→LoopAnn
 |4=> .inv Int (fun x=>⟨[(2,.ptr 0 0 3),(3,.ptr 1 0 3),(5,.si .i64 x)],[fCells a.1,fCells a.2]⟩) (fun s=>iS s 5) (fun x=>(0≤x∧x≤a.1.2.1.length)∧∀j:Nat,(j:Int)<x→nthD a.1.2.1 j 0=nthD a.2.2.1 j 0) (fun x=>(a.1.2.1.length - x).toNat) fun _ _=> .look
 |9=> .inv Int (fun x=>⟨[(2,.ptr 0 0 3),(3,.ptr 1 0 3),(6,.si .i64 x)],[fCells a.1,fCells a.2]⟩) (fun s=>iS s 6) (fun x=>((0≤x∧x≤a.1.2.2.length)∧a.1.2.1=a.2.2.1)∧∀j:Nat,(j:Int)<x→nthD a.1.2.2 j 0=nthD a.2.2.2 j 0) (fun x=>(a.1.2.2.length - x).toNat) fun _ _=> .look
 |_=> .look
def r46:SCtr:=⟨10,Fra×Fra,.cons (codE sF) (.one (codE sF)),fun a=>(a.1.2.1.length≤1000000000∧a.1.2.2.length≤1000000000)∧a.2.2.1.length≤1000000000∧a.2.2.2.length≤1000000000,fun a=> .sb (decide (a.1=a.2))⟩
theorem h46:Holds Try.prog r46:=by
 refine con0 (L:=[]) r46 Λ46 (by simp) ?_
 rintro⟨⟨s,n,d⟩,⟨s',n',d'⟩⟩ ⟨⟨hn,hd⟩,hn',hd'⟩
 refine vcOf (let z0:=SV.sb (decide ((s,n,d)=(s',n',d')));let z1:=(↑n.length:Int);let z2:=decide (z1≠(↑n'.length:Int));let z3:=(↑d.length:Int);let z4:=decide (z3≠(↑d'.length:Int));let z5:=SV.ptr 0 0 3;let z6:=SV.ptr 1 0 3;let z7:=SId.i .u32;let z8:=SObj.cells [SV.sb s,SV.row z7 n,SV.row z7 d] 45 3 false;let z9:=SObj.cells [SV.sb s',SV.row z7 n',SV.row z7 d'] 45 3 false;let z10:=(↑n.length:Int);let z11:=(↑d.length:Int);((!s==s')=true→(SV.bl false).same z0)∧((!s==s')=false→(z2=true→(SV.bl false).same z0)∧(z2=false→(z4=true→(SV.bl false).same z0)∧(z4=false→(((z5.same z5∧z6.same z6∧(SV.il .i64 0).same (SV.si .i64 0)∧True)∧z8.same z8∧z9.same z9∧True)∧((0:Int)≤(0:Int)∧(0:Int)≤z10)∧∀(j:Nat),(↑j:Int)<(0:Int)→nthD n j (0:Int)=nthD n' j (0:Int))∧∀(x:Int),let z12:=decide (nthD n x.toNat (0:Int)≠nthD n' x.toNat (0:Int));let z13:=x+(1:Int);let z14:=SV.si .i64 z13;(((0:Int)≤x∧x≤z10)∧∀(j:Nat),(↑j:Int)<x→nthD n j (0:Int)=nthD n' j (0:Int))→(decide (x<z1)=true→(0:Int)≤x∧x<z1∧x.toNat<n.length∧(0:Int)≤x∧x<(↑n'.length:Int)∧x.toNat<n'.length∧(z12=true→(SV.bl false).same z0)∧(z12=false→inR .i64 z13∧((z5.same z5∧z6.same z6∧z14.same z14∧True)∧z8.same z8∧z9.same z9∧True)∧(((0:Int)≤z13∧z13≤z10)∧∀(j:Nat),(↑j:Int)<z13→nthD n j (0:Int)=nthD n' j (0:Int))∧(z10 - z13).toNat<(z10 - x).toNat))∧(decide (x<z1)=false→(((z5.same z5∧z6.same z6∧(SV.il .i64 0).same (SV.si .i64 0)∧True)∧z8.same z8∧z9.same z9∧True)∧(((0:Int)≤(0:Int)∧(0:Int)≤z11)∧n=n')∧∀(j:Nat),(↑j:Int)<(0:Int)→nthD d j (0:Int)=nthD d' j (0:Int))∧∀(x:Int),let z15:=decide (nthD d x.toNat (0:Int)≠nthD d' x.toNat (0:Int));let z16:=x+(1:Int);let z17:=SV.si .i64 z16;((((0:Int)≤x∧x≤z11)∧n=n')∧∀(j:Nat),(↑j:Int)<x→nthD d j (0:Int)=nthD d' j (0:Int))→(decide (x<z3)=true→(0:Int)≤x∧x<z3∧x.toNat<d.length∧(0:Int)≤x∧x<(↑d'.length:Int)∧x.toNat<d'.length∧(z15=true→(SV.bl false).same z0)∧(z15=false→inR .i64 z16∧((z5.same z5∧z6.same z6∧z17.same z17∧True)∧z8.same z8∧z9.same z9∧True)∧((((0:Int)≤z16∧z16≤z11)∧n=n')∧∀(j:Nat),(↑j:Int)<z16→nthD d j (0:Int)=nthD d' j (0:Int))∧(z11 - z16).toNat<(z11 - x).toNat))∧(decide (x<z3)=false→(SV.bl true).same z0)))))) (by kernel_rfl) ?_
 simp only[vcs]
 have hn:n.length≤1000000000:=hn
 have hd:d.length≤1000000000:=hd
 have hn':n'.length≤1000000000:=hn'
 have hd':d'.length≤1000000000:=hd'
 have ext:∀{a b:List Int},a.length=b.length→(∀j:Nat,(j:Int)<a.length→nthD a j 0=nthD b j 0)→a=b:=fun hl hj=>
  List.ext_getElem hl fun j h1 h2=>by
   have:=hj j (by omega)
   simpa[nthD,h1,h2] using this
 have nope:∀{b:Bool},¬((s,n,d)=(s',n',d'))→b=false→b=decide ((s,n,d)=(s',n',d')):=fun h hb=>by
  rw[hb,decide_eq_false h]
 refine⟨fun h1=>nope (fun h=>?_) rfl,fun h1=>⟨fun h2=>nope (fun h=>?_) rfl,fun h2=>⟨fun h3=>nope (fun h=>?_) rfl,fun h3=>⟨⟨⟨by omega,by omega⟩,fun j hj=>by omega⟩,?_⟩⟩⟩⟩
 ·injection h with h4 h5
  subst h4
  simp at h1
 ·injection h with h4 h5
  injection h5 with h5 h6
  subst h5
  omega
 ·injection h with h4 h5
  injection h5 with h5 h6
  subst h6
  omega
 rintro x ⟨⟨x0,x1⟩,hx⟩
 refine⟨fun hi=>⟨by omega,by omega,by omega,by omega,by omega,by omega,fun hne=>nope (fun h=>?_) rfl,fun he=>⟨by omega,⟨⟨by omega,by omega⟩,fun j hj=>?_⟩,by omega⟩⟩,fun hi=>?_⟩
 ·injection h with h4 h5
  injection h5 with h5 h6
  subst h5
  exact hne rfl
 ·by_cases hji:(j:Int)<x
  ·exact hx j hji
  ·have:j=x.toNat:=by omega
   subst this
   simpa using he
 ·have hnn:n=n':=ext (by omega) fun j hj=>hx j (by omega)
  refine⟨⟨⟨⟨by omega,by omega⟩,hnn⟩,fun j hj=>by omega⟩,?_⟩
  rintro y ⟨⟨⟨y0,y1⟩,_⟩,hy⟩
  refine⟨fun hi2=>⟨by omega,by omega,by omega,by omega,by omega,by omega,fun hne=>nope (fun h=>?_) rfl,fun he=>⟨by omega,⟨⟨⟨by omega,by omega⟩,hnn⟩,fun j hj=>?_⟩,by omega⟩⟩,fun hi2=>?_⟩
  ·injection h with h4 h5
   injection h5 with h5 h6
   subst h6
   exact hne rfl
  ·by_cases hji:(j:Int)<y
   ·exact hy j hji
   ·have:j=y.toNat:=by omega
    subst this
    simpa using he
  ·have hdd:d=d':=ext (by omega) fun j hj=>hy j (by omega)
   have hs:s=s':=by simpa using h1
   rw[hs,hnn,hdd]
   simp
end Go.Vi
