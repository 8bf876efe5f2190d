/-
  Contracts: natural numbers of any size: digit.
  Conditions: none.
-/
import Derived.Test.YtoifpgeocpjneaaDD06
import Derived.Test.YtoifpgeocpjneaaDD07
set_option maxRecDepth 100000
set_option maxHeartbeats 4000000
set_option linter.unusedSimpArgs false
set_option linter.unusedVariables false
namespace Go.Vi
open Go.Proofs.Ytoifpgeocpjneaa.Ir
open Go.Proofs
structure DgA where
 U:List Int
 j:Nat
 len:Nat
 n:Nat
 v:List Int
def DgA.x (a:DgA):Int:=valN (prt a.U a.j (a.v.length+1))
def DgA.ok (a:DgA):Prop:=(Dig a.U∧Dig a.v)∧(a.len=a.v.length+1∧a.n=a.U.length)∧(2≤a.v.length∧a.j+a.v.length+1≤a.U.length∧a.U.length≤200000000000)∧
 2147483648≤nthD a.v (a.v.length - 1) 0∧a.x<4294967296*valN a.v
def DgA.row (a:DgA):List Int:=wth a.U a.j (digK (a.v.length+1) (a.x % valN a.v))
def r169:OCtr where
 f:=91
 α:=DgA
 put a:=[.oc 0 a.j a.len a.n 1,.row (.i .u32) a.v]
 st a:=[.row (.i .u32) a.U 110 false]
 dec v o:=match v,o with
  |[.oc 0 j len n 1,v],[.row t l 110 false]=>match decRow (.i .u32) v,castL t (.i .u32) l with
   |some v,some l=>some ⟨l,j,len,n,v⟩
   |_,_=>none
  |_,_=>none
 ok v o a h:=by
  split at h
  ·split at h
   ·rename_i h1 h2
    simp only[Option.some.injEq] at h;subst h
    obtain⟨rfl,hh⟩:=castL_eq h2
    cases hh
    exact⟨by simp only[gL,decRow_ok h1],rfl⟩
   ·cases h
  ·cases h
 inj a b h1 h2:=by
  obtain⟨U,j,len,n,v⟩:=a
  obtain⟨U',j',len',n',v'⟩:=b
  simp only[gL,List.cons.injEq,and_true] at h1
  obtain⟨g1,g2⟩:=h1
  have e2:=(codR (.i .u32)).inj _ _ g2
  simp only[SV.g,AV.os.injEq,true_and,SId.sz,Nat.mul_one] at g1
  simp only[gO,List.map_cons,List.map_nil,SObj.g,List.cons.injEq,AObj.cells.injEq,and_true] at h2
  have hl:U=U':=by
   have hf:=congrArg List.length h2
   rw[flatA_len,flatA_len] at hf
   exact flatA_inj (.i .u32) (by simpa[SId.sz] using hf) h2
  obtain⟨q1,q2,q3⟩:=g1
  subst q3
  have:j=j':=by omega
  rw[e2,hl,q2,this]
 dom:=DgA.ok
 res a:=.si .u32 (a.x / valN a.v)
 out a:=[.row (.i .u32) a.row 110 false]
def st169 (U:List Int):SStore:=[.row (.i .u32) U 110 false]
def Λ169 (a:DgA):Nat→LoopAnn
 |4=> .inv (Int×Int) (fun x=>⟨[(0,.oc 0 a.j a.len a.n 1),(1,.row (.i .u32) a.v),(5,.si .i64 a.v.length),(7,.si .u64 x.1),(8,.si .u64 x.2)],st169 a.U⟩) (fun s=>(iS s 7,iS s 8))
  (fun x=>(0≤x.1∧x.1≤4294967297)∧(0≤x.2∧x.2<4294967296)∧x.1*nthD a.v (a.v.length - 1) 0+x.2=nthD a.U (a.j+(a.v.length - 1)) 0+4294967296*nthD a.U (a.j+a.v.length) 0∧a.x<(x.1+1)*valN a.v) (fun x=>x.1.toNat) fun _ _=> .look
 |10=> .inv (Int×Int×Int×Int×List Int) (fun x=>⟨[(0,.oc 0 a.j a.len a.n 1),(1,.row (.i .u32) a.v),(5,.si .i64 a.v.length),(7,.si .u64 x.2.1),(9,.si .u64 x.2.2.1),(10,.si .u64 x.2.2.2.1),(82,.si .i64 a.v.length),(83,.si .i64 x.1)],st169 x.2.2.2.2⟩)
  (fun s=>(iS s 83,iS s 7,iS s 9,iS s 10,oS (.i .u32) s 0))
  (fun x=>(0≤x.1∧x.1≤a.v.length)∧(0≤x.2.1∧x.2.1<4294967296)∧(a.x<(x.2.1+1)*valN a.v∧x.2.1*valN a.v<a.x+valN a.v)∧(0≤x.2.2.1∧x.2.2.1<4294967296)∧(0≤x.2.2.2.1∧x.2.2.2.1≤1)∧(Dig x.2.2.2.2∧x.2.2.2.2.length=a.U.length)∧
   (∀m,(m<a.j∨a.j+x.1.toNat≤m)→nthD x.2.2.2.2 m 0=nthD a.U m 0)∧
   valN (prt x.2.2.2.2 a.j x.1.toNat)=valN (prt a.U a.j x.1.toNat) - x.2.1*valN (a.v.take x.1.toNat)+4294967296^x.1.toNat*(x.2.2.1+x.2.2.2.1)) (fun x=>(a.v.length - x.1).toNat) fun _ _=> .look
 |23=> .inv (Int×Int×Int×List Int) (fun x=>⟨[(0,.oc 0 a.j a.len a.n 1),(1,.row (.i .u32) a.v),(5,.si .i64 a.v.length),(7,.si .u64 x.2.1),(9,.si .u64 x.2.2.1),(134,.si .i64 a.v.length),(135,.si .i64 x.1)],st169 x.2.2.2⟩)
  (fun s=>(iS s 135,iS s 7,iS s 9,oS (.i .u32) s 0))
  (fun x=>(0≤x.1∧x.1≤a.v.length)∧(0≤x.2.1∧x.2.1<4294967296)∧(a.x<x.2.1*valN a.v∧x.2.1*valN a.v<a.x+valN a.v)∧(0≤x.2.2.1∧x.2.2.1≤1)∧(Dig x.2.2.2∧x.2.2.2.length=a.U.length)∧
   ∃W,(Dig W∧W.length=a.U.length)∧(∀m,(m<a.j∨a.j+(a.v.length+1)≤m)→nthD W m 0=nthD a.U m 0)∧valN (prt W a.j (a.v.length+1))=a.x - x.2.1*valN a.v+4294967296^(a.v.length+1)∧
    (∀m,(m<a.j∨a.j+x.1.toNat≤m)→nthD x.2.2.2 m 0=nthD W m 0)∧valN (prt x.2.2.2 a.j x.1.toNat)+4294967296^x.1.toNat*x.2.2.1=valN (prt W a.j x.1.toNat)+valN (a.v.take x.1.toNat))
  (fun x=>(a.v.length - x.1).toNat) fun _ _=> .look
 |_=> .look
theorem h169:HoldsO Try.prog r169:=by
 refine conO (L:=[]) (W:=[]) r169 F169 Λ169 (by simp) (by simp) (by kernel_rfl) (fun _=>rfl) (by kernel_rfl) ?_
 rintro⟨U,j,len,n,v⟩ ⟨⟨hU,hv⟩,⟨e1,e2⟩,⟨hn,hj,hlU⟩,hv1,hx⟩
 simp only at hU hv hn hj hlU hv1 hx e1 e2
 subst e1 e2
 refine vcOf (let z0:=(↑v.length:Int);let z1:=v.length+1;let z2:=(↑z1:Int);let z3:=z0 - (1:Int);let z4:=nthD v z3.toNat (0:Int) % (18446744073709551616:Int);let z5:=binK.orI .u64 (nthD U (j+z0.toNat) 0 % (18446744073709551616:Int)*(4294967296:Int) % (18446744073709551616:Int)) (nthD U (j+z3.toNat) 0 % (18446744073709551616:Int));let z6:=z5.tdiv z4;let z7:=SV.oc 0 j z1 U.length 1;let z8:=SId.i .u32;let z9:=(↑v.length:Int);let z10:=SV.si .i64 z9;let z11:=SV.si .u64 z6;let z12:=z5.tmod z4;let z13:=SV.si .u64 z12;let z14:=SObj.row z8 U 110 false;let z15:=v.length - 1;let z16:=nthD v z15 (0:Int);let z17:=nthD U (j+z15) 0+(4294967296:Int)*nthD U (j+v.length) 0;let z18:=DgA.mk U j z1 U.length v;let z19:=z18.x;let z20:=z9 - (1:Int);let z21:=nthD v z20.toNat (0:Int) % (18446744073709551616:Int);let z22:=z19+valN v;let z23:=valN (prt U j 0);let z24:=j+z9.toNat;let z25:=SV.si .u32 (z19 / valN v);let z26:=SObj.row z8 z18.row 110 false;let z27:=(4294967296:Int)^z1;let z28:=z9 - (2:Int);U.length=U.length∧(0:Int)≤z0∧z0<z2∧j+z1≤U.length∧U.length=U.length∧j+z0.toNat<U.length∧(0:Int)≤(32:Int)∧(32:Int)≤(64:Int)∧inR .i64 z3∧U.length=U.length∧(0:Int)≤z3∧z3<z2∧j+z1≤U.length∧U.length=U.length∧j+z3.toNat<U.length∧inR .i64 z3∧(0:Int)≤z3∧z3<z0∧z3.toNat<v.length∧z4≠(0:Int)∧inR .u64 z6∧inR .i64 z3∧(0:Int)≤z3∧z3<z0∧z3.toNat<v.length∧z4≠(0:Int)∧(((z7.same z7∧(SV.row z8 v).same (SV.row z8 v)∧(SV.si .i64 z0).same z10∧z11.same z11∧z13.same z13∧True)∧z14.same z14∧True)∧((0:Int)≤z6∧z6≤(4294967297:Int))∧((0:Int)≤z12∧z12<(4294967296:Int))∧z6*z16+z12=z17∧z19<(z6+(1:Int))*valN v)∧∀(x:Int×Int),let z29:=decide ((4294967296:Int)≤x.fst);let z30:=(x.snd+z21) % (18446744073709551616:Int);let z31:=decide ((4294967296:Int)≤z30);let z32:=(x.fst - (1:Int)) % (18446744073709551616:Int);let z33:=SV.si .u64 z32;let z34:=SV.si .u64 z30;let z35:=decide (binK.orI .u64 (x.snd*(4294967296:Int) % (18446744073709551616:Int)) (nthD U (j+z28.toNat) 0 % (18446744073709551616:Int))<x.fst*(nthD v z28.toNat (0:Int) % (18446744073709551616:Int)) % (18446744073709551616:Int));let z36:=SV.si .u64 x.fst;((0:Int)≤x.fst∧x.fst≤(4294967297:Int))∧((0:Int)≤x.snd∧x.snd<(4294967296:Int))∧x.fst*z16+x.snd=z17∧z19<(x.fst+(1:Int))*valN v→(z29=true→inR .i64 z20∧(0:Int)≤z20∧z20<z0∧z20.toNat<v.length∧(z31=true→(((z7.same z7∧(SV.row z8 v).same (SV.row z8 v)∧z10.same z10∧z33.same z33∧(SV.il .u64 0).same (SV.si .u64 0)∧(SV.il .u64 0).same (SV.si .u64 0)∧z10.same z10∧(SV.il .i64 0).same (SV.si .i64 0)∧True)∧z14.same z14∧True)∧((0:Int)≤(0:Int)∧(0:Int)≤z9)∧((0:Int)≤z32∧z32<(4294967296:Int))∧(z19<(z32+(1:Int))*valN v∧z32*valN v<z22)∧((0:Int)≤(0:Int)∧(0:Int)<(4294967296:Int))∧((0:Int)≤(0:Int)∧(0:Int)≤(1:Int))∧(Dig U∧U.length=U.length)∧(∀(m:Nat),m<j∨j+0≤m→nthD U m (0:Int)=nthD U m (0:Int))∧z23=z23 - z32*valN []+(0:Int))∧∀(x:Int×Int×Int×Int×List Int),let z37:=x.snd.fst*valN v;let z38:=x.snd.snd.fst;let z39:=x.snd.snd.snd.fst;let z40:=x.snd.snd.snd.snd;let z41:=x.fst.toNat;let z42:=x.fst+(1:Int);let z43:=SV.si .u64 x.snd.fst;let z44:=(x.snd.fst*(nthD v z41 (0:Int) % (18446744073709551616:Int)) % (18446744073709551616:Int)+z38) % (18446744073709551616:Int);let z45:=z44 / (4294967296:Int);let z46:=SV.si .u64 z45;let z47:=((nthD z40 (j+z41) 0 % (18446744073709551616:Int) - binK.andI .u64 z44 (4294967295:Int)) % (18446744073709551616:Int) - z39) % (18446744073709551616:Int);let z48:=z47 / (9223372036854775808:Int);let z49:=SV.si .u64 z48;let z50:=SV.si .i64 z42;let z51:=z40.set (j+z41) (z47 % (4294967296:Int));let z52:=SObj.row z8 z51 110 false;let z53:=z42.toNat;let z54:=((nthD z40 z24 (0:Int) % (18446744073709551616:Int) - z38) % (18446744073709551616:Int) - z39) % (18446744073709551616:Int);let z55:=decide (z54 / (9223372036854775808:Int)=(0:Int));let z56:=z40.set z24 (z54 % (4294967296:Int));let z57:=SObj.row z8 z56 110 false;((0:Int)≤x.fst∧x.fst≤z9)∧((0:Int)≤x.snd.fst∧x.snd.fst<(4294967296:Int))∧(z19<(x.snd.fst+(1:Int))*valN v∧z37<z22)∧((0:Int)≤z38∧z38<(4294967296:Int))∧((0:Int)≤z39∧z39≤(1:Int))∧(Dig z40∧z40.length=U.length)∧(∀(m:Nat),m<j∨j+z41≤m→nthD z40 m (0:Int)=nthD U m (0:Int))∧valN (prt z40 j z41)=valN (prt U j z41) - x.snd.fst*valN (List.take z41 v)+(4294967296:Int)^z41*(z38+z39)→(decide (x.fst<z9)=true→(0:Int)≤x.fst∧x.fst<z0∧z41<v.length∧(0:Int)≤(32:Int)∧(32:Int)≤(64:Int)∧U.length=z40.length∧(0:Int)≤x.fst∧x.fst<z2∧j+z1≤U.length∧U.length=z40.length∧j+z41<z40.length∧(0:Int)≤(63:Int)∧(63:Int)≤(64:Int)∧U.length=z40.length∧(0:Int)≤x.fst∧x.fst<z2∧j+z1≤U.length∧U.length=z40.length∧j+z41<z40.length∧inR .i64 z42∧((z7.same z7∧(SV.row z8 v).same (SV.row z8 v)∧z10.same z10∧z43.same z43∧z46.same z46∧z49.same z49∧z10.same z10∧z50.same z50∧True)∧z52.same z52∧True)∧(((0:Int)≤z42∧z42≤z9)∧((0:Int)≤x.snd.fst∧x.snd.fst<(4294967296:Int))∧(z19<(x.snd.fst+(1:Int))*valN v∧z37<z22)∧((0:Int)≤z45∧z45<(4294967296:Int))∧((0:Int)≤z48∧z48≤(1:Int))∧(Dig z51∧z51.length=U.length)∧(∀(m:Nat),m<j∨j+z53≤m→nthD z51 m (0:Int)=nthD U m (0:Int))∧valN (prt z51 j z53)=valN (prt U j z53) - x.snd.fst*valN (List.take z53 v)+(4294967296:Int)^z53*(z45+z48))∧(z9 - z42).toNat<(z9 - x.fst).toNat)∧(decide (x.fst<z9)=false→U.length=z40.length∧(0:Int)≤z9∧z9<z2∧j+z1≤U.length∧U.length=z40.length∧z24<z40.length∧U.length=z40.length∧(0:Int)≤z9∧z9<z2∧j+z1≤U.length∧U.length=z40.length∧z24<z40.length∧(0:Int)≤(63:Int)∧(63:Int)≤(64:Int)∧(z55=true→(SV.si .u32 (x.snd.fst % (4294967296:Int))).same z25∧z57.same z26∧True)∧(z55=false→(((z7.same z7∧(SV.row z8 v).same (SV.row z8 v)∧z10.same z10∧z43.same z43∧(SV.il .u64 0).same (SV.si .u64 0)∧z10.same z10∧(SV.il .i64 0).same (SV.si .i64 0)∧True)∧z57.same z57∧True)∧((0:Int)≤(0:Int)∧(0:Int)≤z9)∧((0:Int)≤x.snd.fst∧x.snd.fst<(4294967296:Int))∧(z19<z37∧z37<z22)∧((0:Int)≤(0:Int)∧(0:Int)≤(1:Int))∧(Dig z56∧z56.length=U.length)∧∃W,(Dig W∧W.length=U.length)∧(∀(m:Nat),m<j∨j+z1≤m→nthD W m (0:Int)=nthD U m (0:Int))∧valN (prt W j z1)=z19 - z37+z27∧(∀(m:Nat),m<j∨j+0≤m→nthD z56 m (0:Int)=nthD W m (0:Int))∧valN (prt z56 j 0)+(0:Int)=valN (prt W j 0)+valN [])∧∀(x:Int×Int×Int×List Int),let z58:=x.snd.fst*valN v;let z59:=x.snd.snd.fst;let z60:=x.snd.snd.snd;let z61:=x.fst.toNat;let z62:=x.fst+(1:Int);let z63:=SV.si .u64 x.snd.fst;let z64:=((nthD z60 (j+z61) 0 % (18446744073709551616:Int)+nthD v z61 (0:Int) % (18446744073709551616:Int)) % (18446744073709551616:Int)+z59) % (18446744073709551616:Int);let z65:=z64 / (4294967296:Int);let z66:=SV.si .u64 z65;let z67:=SV.si .i64 z62;let z68:=z60.set (j+z61) (z64 % (4294967296:Int));let z69:=SObj.row z8 z68 110 false;let z70:=z62.toNat;(((0:Int)≤x.fst∧x.fst≤z9)∧((0:Int)≤x.snd.fst∧x.snd.fst<(4294967296:Int))∧(z19<z58∧z58<z22)∧((0:Int)≤z59∧z59≤(1:Int))∧(Dig z60∧z60.length=U.length)∧∃W,(Dig W∧W.length=U.length)∧(∀(m:Nat),m<j∨j+z1≤m→nthD W m (0:Int)=nthD U m (0:Int))∧valN (prt W j z1)=z19 - z58+z27∧(∀(m:Nat),m<j∨j+z61≤m→nthD z60 m (0:Int)=nthD W m (0:Int))∧valN (prt z60 j z61)+(4294967296:Int)^z61*z59=valN (prt W j z61)+valN (List.take z61 v))→(decide (x.fst<z9)=true→U.length=z60.length∧(0:Int)≤x.fst∧x.fst<z2∧j+z1≤U.length∧U.length=z60.length∧j+z61<z60.length∧(0:Int)≤x.fst∧x.fst<z0∧z61<v.length∧(0:Int)≤(32:Int)∧(32:Int)≤(64:Int)∧U.length=z60.length∧(0:Int)≤x.fst∧x.fst<z2∧j+z1≤U.length∧U.length=z60.length∧j+z61<z60.length∧inR .i64 z62∧((z7.same z7∧(SV.row z8 v).same (SV.row z8 v)∧z10.same z10∧z63.same z63∧z66.same z66∧z10.same z10∧z67.same z67∧True)∧z69.same z69∧True)∧(((0:Int)≤z62∧z62≤z9)∧((0:Int)≤x.snd.fst∧x.snd.fst<(4294967296:Int))∧(z19<z58∧z58<z22)∧((0:Int)≤z65∧z65≤(1:Int))∧(Dig z68∧z68.length=U.length)∧∃W,(Dig W∧W.length=U.length)∧(∀(m:Nat),m<j∨j+z1≤m→nthD W m (0:Int)=nthD U m (0:Int))∧valN (prt W j z1)=z19 - z58+z27∧(∀(m:Nat),m<j∨j+z70≤m→nthD z68 m (0:Int)=nthD W m (0:Int))∧valN (prt z68 j z70)+(4294967296:Int)^z70*z65=valN (prt W j z70)+valN (List.take z70 v))∧(z9 - z62).toNat<(z9 - x.fst).toNat)∧(decide (x.fst<z9)=false→U.length=z60.length∧(0:Int)≤z9∧z9<z2∧j+z1≤U.length∧U.length=z60.length∧z24<z60.length∧U.length=z60.length∧(0:Int)≤z9∧z9<z2∧j+z1≤U.length∧U.length=z60.length∧z24<z60.length∧(SV.si .u32 ((x.snd.fst - (1:Int)) % (18446744073709551616:Int) % (4294967296:Int))).same z25∧(SObj.row z8 (z60.set z24 ((nthD z60 z24 (0:Int)+z59 % (4294967296:Int)) % (4294967296:Int))) 110 false).same z26∧True))))∧(z31=false→((z7.same z7∧(SV.row z8 v).same (SV.row z8 v)∧z10.same z10∧z33.same z33∧z34.same z34∧True)∧z14.same z14∧True)∧(((0:Int)≤z32∧z32≤(4294967297:Int))∧((0:Int)≤z30∧z30<(4294967296:Int))∧z32*z16+z30=z17∧z19<(z32+(1:Int))*valN v)∧z32.toNat<x.fst.toNat))∧(z29=false→inR .i64 z28∧(0:Int)≤z28∧z28<z0∧z28.toNat<v.length∧(0:Int)≤(32:Int)∧(32:Int)≤(64:Int)∧inR .i64 z28∧U.length=U.length∧(0:Int)≤z28∧z28<z2∧j+z1≤U.length∧U.length=U.length∧j+z28.toNat<U.length∧(z35=true→inR .i64 z20∧(0:Int)≤z20∧z20<z0∧z20.toNat<v.length∧(z31=true→(((z7.same z7∧(SV.row z8 v).same (SV.row z8 v)∧z10.same z10∧z33.same z33∧(SV.il .u64 0).same (SV.si .u64 0)∧(SV.il .u64 0).same (SV.si .u64 0)∧z10.same z10∧(SV.il .i64 0).same (SV.si .i64 0)∧True)∧z14.same z14∧True)∧((0:Int)≤(0:Int)∧(0:Int)≤z9)∧((0:Int)≤z32∧z32<(4294967296:Int))∧(z19<(z32+(1:Int))*valN v∧z32*valN v<z22)∧((0:Int)≤(0:Int)∧(0:Int)<(4294967296:Int))∧((0:Int)≤(0:Int)∧(0:Int)≤(1:Int))∧(Dig U∧U.length=U.length)∧(∀(m:Nat),m<j∨j+0≤m→nthD U m (0:Int)=nthD U m (0:Int))∧z23=z23 - z32*valN []+(0:Int))∧∀(x:Int×Int×Int×Int×List Int),let z71:=x.snd.fst*valN v;let z72:=x.snd.snd.fst;let z73:=x.snd.snd.snd.fst;let z74:=x.snd.snd.snd.snd;let z75:=x.fst.toNat;let z76:=x.fst+(1:Int);let z77:=SV.si .u64 x.snd.fst;let z78:=(x.snd.fst*(nthD v z75 (0:Int) % (18446744073709551616:Int)) % (18446744073709551616:Int)+z72) % (18446744073709551616:Int);let z79:=z78 / (4294967296:Int);let z80:=SV.si .u64 z79;let z81:=((nthD z74 (j+z75) 0 % (18446744073709551616:Int) - binK.andI .u64 z78 (4294967295:Int)) % (18446744073709551616:Int) - z73) % (18446744073709551616:Int);let z82:=z81 / (9223372036854775808:Int);let z83:=SV.si .u64 z82;let z84:=SV.si .i64 z76;let z85:=z74.set (j+z75) (z81 % (4294967296:Int));let z86:=SObj.row z8 z85 110 false;let z87:=z76.toNat;let z88:=((nthD z74 z24 (0:Int) % (18446744073709551616:Int) - z72) % (18446744073709551616:Int) - z73) % (18446744073709551616:Int);let z89:=decide (z88 / (9223372036854775808:Int)=(0:Int));let z90:=z74.set z24 (z88 % (4294967296:Int));let z91:=SObj.row z8 z90 110 false;((0:Int)≤x.fst∧x.fst≤z9)∧((0:Int)≤x.snd.fst∧x.snd.fst<(4294967296:Int))∧(z19<(x.snd.fst+(1:Int))*valN v∧z71<z22)∧((0:Int)≤z72∧z72<(4294967296:Int))∧((0:Int)≤z73∧z73≤(1:Int))∧(Dig z74∧z74.length=U.length)∧(∀(m:Nat),m<j∨j+z75≤m→nthD z74 m (0:Int)=nthD U m (0:Int))∧valN (prt z74 j z75)=valN (prt U j z75) - x.snd.fst*valN (List.take z75 v)+(4294967296:Int)^z75*(z72+z73)→(decide (x.fst<z9)=true→(0:Int)≤x.fst∧x.fst<z0∧z75<v.length∧(0:Int)≤(32:Int)∧(32:Int)≤(64:Int)∧U.length=z74.length∧(0:Int)≤x.fst∧x.fst<z2∧j+z1≤U.length∧U.length=z74.length∧j+z75<z74.length∧(0:Int)≤(63:Int)∧(63:Int)≤(64:Int)∧U.length=z74.length∧(0:Int)≤x.fst∧x.fst<z2∧j+z1≤U.length∧U.length=z74.length∧j+z75<z74.length∧inR .i64 z76∧((z7.same z7∧(SV.row z8 v).same (SV.row z8 v)∧z10.same z10∧z77.same z77∧z80.same z80∧z83.same z83∧z10.same z10∧z84.same z84∧True)∧z86.same z86∧True)∧(((0:Int)≤z76∧z76≤z9)∧((0:Int)≤x.snd.fst∧x.snd.fst<(4294967296:Int))∧(z19<(x.snd.fst+(1:Int))*valN v∧z71<z22)∧((0:Int)≤z79∧z79<(4294967296:Int))∧((0:Int)≤z82∧z82≤(1:Int))∧(Dig z85∧z85.length=U.length)∧(∀(m:Nat),m<j∨j+z87≤m→nthD z85 m (0:Int)=nthD U m (0:Int))∧valN (prt z85 j z87)=valN (prt U j z87) - x.snd.fst*valN (List.take z87 v)+(4294967296:Int)^z87*(z79+z82))∧(z9 - z76).toNat<(z9 - x.fst).toNat)∧(decide (x.fst<z9)=false→U.length=z74.length∧(0:Int)≤z9∧z9<z2∧j+z1≤U.length∧U.length=z74.length∧z24<z74.length∧U.length=z74.length∧(0:Int)≤z9∧z9<z2∧j+z1≤U.length∧U.length=z74.length∧z24<z74.length∧(0:Int)≤(63:Int)∧(63:Int)≤(64:Int)∧(z89=true→(SV.si .u32 (x.snd.fst % (4294967296:Int))).same z25∧z91.same z26∧True)∧(z89=false→(((z7.same z7∧(SV.row z8 v).same (SV.row z8 v)∧z10.same z10∧z77.same z77∧(SV.il .u64 0).same (SV.si .u64 0)∧z10.same z10∧(SV.il .i64 0).same (SV.si .i64 0)∧True)∧z91.same z91∧True)∧((0:Int)≤(0:Int)∧(0:Int)≤z9)∧((0:Int)≤x.snd.fst∧x.snd.fst<(4294967296:Int))∧(z19<z71∧z71<z22)∧((0:Int)≤(0:Int)∧(0:Int)≤(1:Int))∧(Dig z90∧z90.length=U.length)∧∃W,(Dig W∧W.length=U.length)∧(∀(m:Nat),m<j∨j+z1≤m→nthD W m (0:Int)=nthD U m (0:Int))∧valN (prt W j z1)=z19 - z71+z27∧(∀(m:Nat),m<j∨j+0≤m→nthD z90 m (0:Int)=nthD W m (0:Int))∧valN (prt z90 j 0)+(0:Int)=valN (prt W j 0)+valN [])∧∀(x:Int×Int×Int×List Int),let z92:=x.snd.fst*valN v;let z93:=x.snd.snd.fst;let z94:=x.snd.snd.snd;let z95:=x.fst.toNat;let z96:=x.fst+(1:Int);let z97:=SV.si .u64 x.snd.fst;let z98:=((nthD z94 (j+z95) 0 % (18446744073709551616:Int)+nthD v z95 (0:Int) % (18446744073709551616:Int)) % (18446744073709551616:Int)+z93) % (18446744073709551616:Int);let z99:=z98 / (4294967296:Int);let z100:=SV.si .u64 z99;let z101:=SV.si .i64 z96;let z102:=z94.set (j+z95) (z98 % (4294967296:Int));let z103:=SObj.row z8 z102 110 false;let z104:=z96.toNat;(((0:Int)≤x.fst∧x.fst≤z9)∧((0:Int)≤x.snd.fst∧x.snd.fst<(4294967296:Int))∧(z19<z92∧z92<z22)∧((0:Int)≤z93∧z93≤(1:Int))∧(Dig z94∧z94.length=U.length)∧∃W,(Dig W∧W.length=U.length)∧(∀(m:Nat),m<j∨j+z1≤m→nthD W m (0:Int)=nthD U m (0:Int))∧valN (prt W j z1)=z19 - z92+z27∧(∀(m:Nat),m<j∨j+z95≤m→nthD z94 m (0:Int)=nthD W m (0:Int))∧valN (prt z94 j z95)+(4294967296:Int)^z95*z93=valN (prt W j z95)+valN (List.take z95 v))→(decide (x.fst<z9)=true→U.length=z94.length∧(0:Int)≤x.fst∧x.fst<z2∧j+z1≤U.length∧U.length=z94.length∧j+z95<z94.length∧(0:Int)≤x.fst∧x.fst<z0∧z95<v.length∧(0:Int)≤(32:Int)∧(32:Int)≤(64:Int)∧U.length=z94.length∧(0:Int)≤x.fst∧x.fst<z2∧j+z1≤U.length∧U.length=z94.length∧j+z95<z94.length∧inR .i64 z96∧((z7.same z7∧(SV.row z8 v).same (SV.row z8 v)∧z10.same z10∧z97.same z97∧z100.same z100∧z10.same z10∧z101.same z101∧True)∧z103.same z103∧True)∧(((0:Int)≤z96∧z96≤z9)∧((0:Int)≤x.snd.fst∧x.snd.fst<(4294967296:Int))∧(z19<z92∧z92<z22)∧((0:Int)≤z99∧z99≤(1:Int))∧(Dig z102∧z102.length=U.length)∧∃W,(Dig W∧W.length=U.length)∧(∀(m:Nat),m<j∨j+z1≤m→nthD W m (0:Int)=nthD U m (0:Int))∧valN (prt W j z1)=z19 - z92+z27∧(∀(m:Nat),m<j∨j+z104≤m→nthD z102 m (0:Int)=nthD W m (0:Int))∧valN (prt z102 j z104)+(4294967296:Int)^z104*z99=valN (prt W j z104)+valN (List.take z104 v))∧(z9 - z96).toNat<(z9 - x.fst).toNat)∧(decide (x.fst<z9)=false→U.length=z94.length∧(0:Int)≤z9∧z9<z2∧j+z1≤U.length∧U.length=z94.length∧z24<z94.length∧U.length=z94.length∧(0:Int)≤z9∧z9<z2∧j+z1≤U.length∧U.length=z94.length∧z24<z94.length∧(SV.si .u32 ((x.snd.fst - (1:Int)) % (18446744073709551616:Int) % (4294967296:Int))).same z25∧(SObj.row z8 (z94.set z24 ((nthD z94 z24 (0:Int)+z93 % (4294967296:Int)) % (4294967296:Int))) 110 false).same z26∧True))))∧(z31=false→((z7.same z7∧(SV.row z8 v).same (SV.row z8 v)∧z10.same z10∧z33.same z33∧z34.same z34∧True)∧z14.same z14∧True)∧(((0:Int)≤z32∧z32≤(4294967297:Int))∧((0:Int)≤z30∧z30<(4294967296:Int))∧z32*z16+z30=z17∧z19<(z32+(1:Int))*valN v)∧z32.toNat<x.fst.toNat))∧(z35=false→(((z7.same z7∧(SV.row z8 v).same (SV.row z8 v)∧z10.same z10∧z36.same z36∧(SV.il .u64 0).same (SV.si .u64 0)∧(SV.il .u64 0).same (SV.si .u64 0)∧z10.same z10∧(SV.il .i64 0).same (SV.si .i64 0)∧True)∧z14.same z14∧True)∧((0:Int)≤(0:Int)∧(0:Int)≤z9)∧((0:Int)≤x.fst∧x.fst<(4294967296:Int))∧(z19<(x.fst+(1:Int))*valN v∧x.fst*valN v<z22)∧((0:Int)≤(0:Int)∧(0:Int)<(4294967296:Int))∧((0:Int)≤(0:Int)∧(0:Int)≤(1:Int))∧(Dig U∧U.length=U.length)∧(∀(m:Nat),m<j∨j+0≤m→nthD U m (0:Int)=nthD U m (0:Int))∧z23=z23 - x.fst*valN []+(0:Int))∧∀(x:Int×Int×Int×Int×List Int),let z105:=x.snd.fst*valN v;let z106:=x.snd.snd.fst;let z107:=x.snd.snd.snd.fst;let z108:=x.snd.snd.snd.snd;let z109:=x.fst.toNat;let z110:=x.fst+(1:Int);let z111:=SV.si .u64 x.snd.fst;let z112:=(x.snd.fst*(nthD v z109 (0:Int) % (18446744073709551616:Int)) % (18446744073709551616:Int)+z106) % (18446744073709551616:Int);let z113:=z112 / (4294967296:Int);let z114:=SV.si .u64 z113;let z115:=((nthD z108 (j+z109) 0 % (18446744073709551616:Int) - binK.andI .u64 z112 (4294967295:Int)) % (18446744073709551616:Int) - z107) % (18446744073709551616:Int);let z116:=z115 / (9223372036854775808:Int);let z117:=SV.si .u64 z116;let z118:=SV.si .i64 z110;let z119:=z108.set (j+z109) (z115 % (4294967296:Int));let z120:=SObj.row z8 z119 110 false;let z121:=z110.toNat;let z122:=((nthD z108 z24 (0:Int) % (18446744073709551616:Int) - z106) % (18446744073709551616:Int) - z107) % (18446744073709551616:Int);let z123:=decide (z122 / (9223372036854775808:Int)=(0:Int));let z124:=z108.set z24 (z122 % (4294967296:Int));let z125:=SObj.row z8 z124 110 false;((0:Int)≤x.fst∧x.fst≤z9)∧((0:Int)≤x.snd.fst∧x.snd.fst<(4294967296:Int))∧(z19<(x.snd.fst+(1:Int))*valN v∧z105<z22)∧((0:Int)≤z106∧z106<(4294967296:Int))∧((0:Int)≤z107∧z107≤(1:Int))∧(Dig z108∧z108.length=U.length)∧(∀(m:Nat),m<j∨j+z109≤m→nthD z108 m (0:Int)=nthD U m (0:Int))∧valN (prt z108 j z109)=valN (prt U j z109) - x.snd.fst*valN (List.take z109 v)+(4294967296:Int)^z109*(z106+z107)→(decide (x.fst<z9)=true→(0:Int)≤x.fst∧x.fst<z0∧z109<v.length∧(0:Int)≤(32:Int)∧(32:Int)≤(64:Int)∧U.length=z108.length∧(0:Int)≤x.fst∧x.fst<z2∧j+z1≤U.length∧U.length=z108.length∧j+z109<z108.length∧(0:Int)≤(63:Int)∧(63:Int)≤(64:Int)∧U.length=z108.length∧(0:Int)≤x.fst∧x.fst<z2∧j+z1≤U.length∧U.length=z108.length∧j+z109<z108.length∧inR .i64 z110∧((z7.same z7∧(SV.row z8 v).same (SV.row z8 v)∧z10.same z10∧z111.same z111∧z114.same z114∧z117.same z117∧z10.same z10∧z118.same z118∧True)∧z120.same z120∧True)∧(((0:Int)≤z110∧z110≤z9)∧((0:Int)≤x.snd.fst∧x.snd.fst<(4294967296:Int))∧(z19<(x.snd.fst+(1:Int))*valN v∧z105<z22)∧((0:Int)≤z113∧z113<(4294967296:Int))∧((0:Int)≤z116∧z116≤(1:Int))∧(Dig z119∧z119.length=U.length)∧(∀(m:Nat),m<j∨j+z121≤m→nthD z119 m (0:Int)=nthD U m (0:Int))∧valN (prt z119 j z121)=valN (prt U j z121) - x.snd.fst*valN (List.take z121 v)+(4294967296:Int)^z121*(z113+z116))∧(z9 - z110).toNat<(z9 - x.fst).toNat)∧(decide (x.fst<z9)=false→U.length=z108.length∧(0:Int)≤z9∧z9<z2∧j+z1≤U.length∧U.length=z108.length∧z24<z108.length∧U.length=z108.length∧(0:Int)≤z9∧z9<z2∧j+z1≤U.length∧U.length=z108.length∧z24<z108.length∧(0:Int)≤(63:Int)∧(63:Int)≤(64:Int)∧(z123=true→(SV.si .u32 (x.snd.fst % (4294967296:Int))).same z25∧z125.same z26∧True)∧(z123=false→(((z7.same z7∧(SV.row z8 v).same (SV.row z8 v)∧z10.same z10∧z111.same z111∧(SV.il .u64 0).same (SV.si .u64 0)∧z10.same z10∧(SV.il .i64 0).same (SV.si .i64 0)∧True)∧z125.same z125∧True)∧((0:Int)≤(0:Int)∧(0:Int)≤z9)∧((0:Int)≤x.snd.fst∧x.snd.fst<(4294967296:Int))∧(z19<z105∧z105<z22)∧((0:Int)≤(0:Int)∧(0:Int)≤(1:Int))∧(Dig z124∧z124.length=U.length)∧∃W,(Dig W∧W.length=U.length)∧(∀(m:Nat),m<j∨j+z1≤m→nthD W m (0:Int)=nthD U m (0:Int))∧valN (prt W j z1)=z19 - z105+z27∧(∀(m:Nat),m<j∨j+0≤m→nthD z124 m (0:Int)=nthD W m (0:Int))∧valN (prt z124 j 0)+(0:Int)=valN (prt W j 0)+valN [])∧∀(x:Int×Int×Int×List Int),let z126:=x.snd.fst*valN v;let z127:=x.snd.snd.fst;let z128:=x.snd.snd.snd;let z129:=x.fst.toNat;let z130:=x.fst+(1:Int);let z131:=SV.si .u64 x.snd.fst;let z132:=((nthD z128 (j+z129) 0 % (18446744073709551616:Int)+nthD v z129 (0:Int) % (18446744073709551616:Int)) % (18446744073709551616:Int)+z127) % (18446744073709551616:Int);let z133:=z132 / (4294967296:Int);let z134:=SV.si .u64 z133;let z135:=SV.si .i64 z130;let z136:=z128.set (j+z129) (z132 % (4294967296:Int));let z137:=SObj.row z8 z136 110 false;let z138:=z130.toNat;(((0:Int)≤x.fst∧x.fst≤z9)∧((0:Int)≤x.snd.fst∧x.snd.fst<(4294967296:Int))∧(z19<z126∧z126<z22)∧((0:Int)≤z127∧z127≤(1:Int))∧(Dig z128∧z128.length=U.length)∧∃W,(Dig W∧W.length=U.length)∧(∀(m:Nat),m<j∨j+z1≤m→nthD W m (0:Int)=nthD U m (0:Int))∧valN (prt W j z1)=z19 - z126+z27∧(∀(m:Nat),m<j∨j+z129≤m→nthD z128 m (0:Int)=nthD W m (0:Int))∧valN (prt z128 j z129)+(4294967296:Int)^z129*z127=valN (prt W j z129)+valN (List.take z129 v))→(decide (x.fst<z9)=true→U.length=z128.length∧(0:Int)≤x.fst∧x.fst<z2∧j+z1≤U.length∧U.length=z128.length∧j+z129<z128.length∧(0:Int)≤x.fst∧x.fst<z0∧z129<v.length∧(0:Int)≤(32:Int)∧(32:Int)≤(64:Int)∧U.length=z128.length∧(0:Int)≤x.fst∧x.fst<z2∧j+z1≤U.length∧U.length=z128.length∧j+z129<z128.length∧inR .i64 z130∧((z7.same z7∧(SV.row z8 v).same (SV.row z8 v)∧z10.same z10∧z131.same z131∧z134.same z134∧z10.same z10∧z135.same z135∧True)∧z137.same z137∧True)∧(((0:Int)≤z130∧z130≤z9)∧((0:Int)≤x.snd.fst∧x.snd.fst<(4294967296:Int))∧(z19<z126∧z126<z22)∧((0:Int)≤z133∧z133≤(1:Int))∧(Dig z136∧z136.length=U.length)∧∃W,(Dig W∧W.length=U.length)∧(∀(m:Nat),m<j∨j+z1≤m→nthD W m (0:Int)=nthD U m (0:Int))∧valN (prt W j z1)=z19 - z126+z27∧(∀(m:Nat),m<j∨j+z138≤m→nthD z136 m (0:Int)=nthD W m (0:Int))∧valN (prt z136 j z138)+(4294967296:Int)^z138*z133=valN (prt W j z138)+valN (List.take z138 v))∧(z9 - z130).toNat<(z9 - x.fst).toNat)∧(decide (x.fst<z9)=false→U.length=z128.length∧(0:Int)≤z9∧z9<z2∧j+z1≤U.length∧U.length=z128.length∧z24<z128.length∧U.length=z128.length∧(0:Int)≤z9∧z9<z2∧j+z1≤U.length∧U.length=z128.length∧z24<z128.length∧(SV.si .u32 ((x.snd.fst - (1:Int)) % (18446744073709551616:Int) % (4294967296:Int))).same z25∧(SObj.row z8 (z128.set z24 ((nthD z128 z24 (0:Int)+z127 % (4294967296:Int)) % (4294967296:Int))) 110 false).same z26∧True)))))) (by kernel_rfl) ?_
 simp only[vcs]
 have t1:((v.length:Int) - 1).toNat=v.length - 1:=by omega
 have t2:((v.length:Int) - 2).toNat=v.length - 2:=by omega
 have t3:((v.length:Int)).toNat=v.length:=by omega
 have hVe:=top_two hn rfl
 have hXe:=@top_three U j v.length hn
 have dv1:=dig_nth hv (v.length - 1)
 have dv2:=dig_nth hv (v.length - 2)
 have du0:=dig_nth hU (j+v.length)
 have du1:=dig_nth hU (j+(v.length - 1))
 have du2:=dig_nth hU (j+(v.length - 2))
 have m1:nthD v (v.length - 1) 0 % 18446744073709551616=nthD v (v.length - 1) 0:=by omega
 have m2:nthD v (v.length - 2) 0 % 18446744073709551616=nthD v (v.length - 2) 0:=by omega
 have m3:nthD U (j+v.length) 0 % 18446744073709551616=nthD U (j+v.length) 0:=by omega
 have m4:nthD U (j+(v.length - 1)) 0 % 18446744073709551616=nthD U (j+(v.length - 1)) 0:=by omega
 have m5:nthD U (j+(v.length - 2)) 0 % 18446744073709551616=nthD U (j+(v.length - 2)) 0:=by omega
 have m6:nthD U (j+v.length) 0*4294967296 % 18446744073709551616=nthD U (j+v.length) 0*4294967296:=by omega
 have hor:=or_add du0.1 du0.2 du1.1 du1.2
 have htop:0≤nthD U (j+v.length) 0*4294967296+nthD U (j+(v.length - 1)) 0:=by omega
 have hx':valN (prt U j (v.length+1))<4294967296*valN v:=hx
 have hP:=pow_pos (v.length - 2)
 have hrv:=val_nonneg (dig_take hv (v.length - 2))
 have hrv2:=val_bdN (dig_take hv (v.length - 2))
 rw[List.length_take,Nat.min_eq_left (by omega)] at hrv2
 have hru:=val_nonneg (prt_dig hU (j:=j) (k:=v.length - 2))
 have hru2:=prt_bd hU (j:=j) (k:=v.length - 2)
 have hV0:=val_nonneg hv
 have hX0:=val_nonneg (prt_dig hU (j:=j) (k:=v.length+1))
 have htp:=kn_top hP hVe hXe hrv2 hru du2.1 du1.1 dv2.2 hx'
 have hax:(DgA.mk U j (v.length+1) U.length v).x=valN (prt U j (v.length+1)):=rfl
 simp only[hax,t1,t2,t3,m1,m2,m3,m4,m5,m6,hor,Int.tdiv_eq_ediv_of_nonneg htop,Int.tmod_eq_emod_of_nonneg htop]
 generalize hv1e:nthD v (v.length - 1) 0=v1 at*
 generalize hv2e:nthD v (v.length - 2) 0=v2 at*
 generalize hu0e:nthD U (j+v.length) 0=u0 at*
 generalize hu1e:nthD U (j+(v.length - 1)) 0=u1 at*
 generalize hu2e:nthD U (j+(v.length - 2)) 0=u2 at*
 have hqr:=Int.mul_ediv_add_emod (u0*4294967296+u1) v1
 have hr0:=Int.emod_nonneg (u0*4294967296+u1) (show v1≠0 by omega)
 have hr1:=Int.emod_lt_of_pos (u0*4294967296+u1) (show 0<v1 by omega)
 have hg0:0≤(u0*4294967296+u1) / v1:=Int.ediv_nonneg htop (by omega)
 generalize hge:(u0*4294967296+u1) / v1=g0 at*
 generalize hre:(u0*4294967296+u1) % v1=r0 at*
 have hg1:g0≤4294967297:=by
  by_cases h:g0≤4294967297
  ·exact h
  ·exfalso
   have:=Int.mul_le_mul_of_nonneg_left (show(4294967298:Int)≤g0 by omega) (show 0≤v1 by omega)
   omega
 have hqr2:g0*v1+r0=u1+4294967296*u0:=by rw[Int.mul_comm g0];omega
 have hst:=kn_start hP hVe hXe hrv hru2 dv2.1 du2.2 hg0 hqr2 hr1
 have hin:inR .u64 g0:=u64_in hg0 (by omega)
 repeat refine And.intro (by omega) ?_
 clear t1 t2 t3 m1 m2 m3 m4 m5 m6 hor htop hge hre hqr hr0 hr1 hg0 hg1 hqr2 hst hin hv1e hv2e hu1e hu2e hx
 rintro⟨g,r⟩ ⟨⟨g0',g1'⟩,⟨r0',r1'⟩,hgr,hgx⟩
 simp only at g0' g1' r0' r1' hgr hgx ⊢
 have hgpos:0<g+1:=by omega
 have e1:(r+v1) % 18446744073709551616=r+v1:=by omega
 have e2:r*4294967296 % 18446744073709551616=r*4294967296:=by omega
 have gv0:0≤g*v2:=Int.mul_nonneg g0' dv2.1
 have gv1:g*v2≤4294967297*4294967295:=Int.mul_le_mul (by omega) (by omega) dv2.1 (by omega)
 have e3:g*v2 % 18446744073709551616=g*v2:=by omega
 have hor2:=or_add r0' r1' du2.1 du2.2
 have hgr2:g*v1+r=u1+4294967296*u0:=hgr
 have hbrk:4294967296≤r+v1→g≤4294967296:=fun h=>by
  by_cases hg:g≤4294967296
  ·exact hg
  ·have:g=4294967297:=by omega
   subst this
   omega
 have dec:(4294967296≤g∨r*4294967296+u2<g*v2)→(valN (prt U j (v.length+1))<g*valN v∧(g - 1) % 18446744073709551616=g - 1∧0≤g - 1∧(g - 1)*v1+(r+v1)=u1+4294967296*u0):=fun h=>by
  have h1:=kn_gt hP hVe hXe hrv hru2 hx' hV0 g0' hgr2 h
  have h2:g≠0:=by
   rintro rfl
   omega
  refine⟨h1,by omega,by omega,?_⟩
  rw[Int.sub_mul,Int.one_mul]
  omega
 simp only[e1,e2,e3,hor2]
 have brk:(4294967296≤g∨r*4294967296+u2<g*v2)→4294967296≤r+v1→∃gg,gg=(g - 1) % 18446744073709551616∧(0≤gg∧gg<4294967296)∧valN (prt U j (v.length+1))<(gg+1)*valN v∧gg*valN v<valN (prt U j (v.length+1))+valN v:=fun h hb=>by
  obtain⟨k1,k2,k3,k4⟩:=dec h
  have k5:=hbrk hb
  rw[k2]
  refine⟨_,rfl,by omega,by rw[show g - 1+1=g by omega];exact k1,kn_le hP hVe hXe hrv hrv2 hru hv1 dv2.1 k3 (by omega) k4 ?_⟩
  have:=Int.mul_le_mul (show g - 1≤4294967295 by omega) (show v2≤4294967295 by omega) dv2.1 (by omega)
  omega
 have nbr:(4294967296≤g∨r*4294967296+u2<g*v2)→¬4294967296≤r+v1→(0≤(g - 1) % 18446744073709551616∧(g - 1) % 18446744073709551616≤4294967297)∧(g - 1) % 18446744073709551616*v1+(r+v1)=u1+4294967296*u0∧valN (prt U j (v.length+1))<((g - 1) % 18446744073709551616+1)*valN v∧((g - 1) % 18446744073709551616).toNat<g.toNat:=fun h hb=>by
  obtain⟨k1,k2,k3,k4⟩:=dec h
  rw[k2]
  exact⟨by omega,k4,by rw[show g - 1+1=g by omega];exact k1,by omega⟩
 have ext:¬4294967296≤g→¬r*4294967296+u2<g*v2→∃gg,gg=g∧(0≤gg∧gg<4294967296)∧valN (prt U j (v.length+1))<(gg+1)*valN v∧gg*valN v<valN (prt U j (v.length+1))+valN v:=fun h h2=>
  ⟨_,rfl,by omega,hgx,kn_le hP hVe hXe hrv hrv2 hru hv1 dv2.1 g0' (by omega) hgr2 (by omega)⟩
 clear hgr2 hgpos e1 e2 e3 gv0 gv1 hor2 hVe hXe hrv hrv2 hru hru2 hbrk dec htp
 refine⟨fun hB=>?_,fun hB=>?_⟩
 ·refine⟨by omega,by omega,by omega,by omega,?_⟩
  refine⟨fun hb=>?_,fun hb=>?_⟩
  ·obtain⟨gg,hgg,f0,f2,f3⟩:=brk (.inl hB) hb
   rw[←hgg]
   clear hB hb
   clear hgg brk nbr ext hgx hgr
   refine⟨?_,?_⟩
   ·repeat' refine And.intro ?_ ?_
    all_goals first|omega|exact hU|exact f2|exact f3|exact fun _ _=>trivial|(simp only[valN];omega)
   clear f0 f2 f3
   rintro⟨i,ga,c,b,R⟩ ⟨⟨i0,i1⟩,⟨ga0,ga1⟩,⟨f2,f3⟩,⟨c0,c1⟩,⟨b0,b1⟩,⟨hR,hRl⟩,ho,he⟩
   simp only at i0 i1 ga0 ga1 f2 f3 c0 c1 b0 b1 hR hRl ho he ⊢
   refine⟨fun ilt=>?_,fun ige=>?_⟩
   ·have x:=dig_nth hv i.toNat
    have y:=dig_nth hR (j+i.toNat)
    have gx0:0≤ga*nthD v i.toNat 0:=Int.mul_nonneg ga0 x.1
    have gx1:ga*nthD v i.toNat 0≤4294967295*4294967295:=Int.mul_le_mul (by omega) (by omega) x.1 (by omega)
    have q1:nthD v i.toNat 0 % 18446744073709551616=nthD v i.toNat 0:=by omega
    have q2:nthD R (j+i.toNat) 0 % 18446744073709551616=nthD R (j+i.toNat) 0:=by omega
    have q3:(ga*nthD v i.toNat 0 % 18446744073709551616+c) % 18446744073709551616=ga*nthD v i.toNat 0+c:=by omega
    have hi1:(i+1).toNat=i.toNat+1:=by omega
    rw[q1,q2,q3,and_mask (by omega) (by omega),hi1]
    generalize hq:((nthD R (j+i.toNat) 0 - (ga*nthD v i.toNat 0+c) % 4294967296) % 18446744073709551616 - b) % 18446744073709551616=q
    obtain⟨k1,k2,k3,k4,k5⟩:=ms_step (d:=q % 4294967296) (e:=q / 9223372036854775808) hR hRl hv ga0 ga1 c0 c1 b0 b1 (show j+i.toNat<U.length by omega) ho he (by omega) (by omega)
    repeat' refine And.intro ?_ ?_
    all_goals first|omega|exact k1|exact k2|exact k3|exact k4|exact k5|exact f2|exact f3
   ·have hi:i.toNat=v.length:=by omega
    rw[hi,List.take_length] at he
    rw[hi] at ho
    have hun:=ho (j+v.length) (.inr (Nat.le_refl _))
    have du:=dig_nth hU (j+v.length)
    have q2:nthD R (j+v.length) 0 % 18446744073709551616=nthD R (j+v.length) 0:=by rw[hun];omega
    have hXs:=@prt_succ U j v.length
    rw[q2]
    generalize hq:((nthD R (j+v.length) 0 - c) % 18446744073709551616 - b) % 18446744073709551616=q
    have hRset:Dig (R.set (j+v.length) (q % 4294967296)):=dig_set hR (by omega) (by omega)
    have hlen:(R.set (j+v.length) (q % 4294967296)).length=U.length:=by simp[hRl]
    have hout:∀m,(m<j∨j+(v.length+1)≤m)→nthD (R.set (j+v.length) (q % 4294967296)) m 0=nthD U m 0:=fun m hm=>by rw[nth_set_ne (by omega)];exact ho m (by omega)
    have hval:valN (prt (R.set (j+v.length) (q % 4294967296)) j (v.length+1))=valN (prt U j (v.length+1)) - ga*valN v+4294967296^(v.length+1)*(q / 9223372036854775808):=by
     rw[prt_succ,prt_set (Nat.le_refl _),nth_set_self (by omega),he,hXs,Int.pow_succ]
     have hd:q % 4294967296 - 4294967296*(q / 9223372036854775808)=nthD U (j+v.length) 0 - c - b:=by rw[hun] at hq;omega
     generalize (4294967296:Int)^v.length=B
     have e:B*4294967296*(q / 9223372036854775808)=B*(q % 4294967296+c+b - nthD U (j+v.length) 0):=by rw[Int.mul_assoc];congr 1;omega
     rw[e]
     simp only[Int.mul_add,Int.mul_sub]
     omega
    generalize hW:R.set (j+v.length) (q % 4294967296)=W at*
    have hbd:=prt_bd hRset (j:=j) (k:=v.length+1)
    have hnn:=val_nonneg (prt_dig hRset (j:=j) (k:=v.length+1))
    have q3:0≤q∧q<18446744073709551616:=by omega
    clear hq hun du q2 he ho hR
    repeat refine And.intro (by omega) ?_
    refine⟨fun hz=>?_,fun hz=>?_⟩
    ·rw[hz,Int.mul_zero,Int.add_zero] at hval
     obtain⟨w1,w2⟩:=qr_of (q:=ga) (show ga*valN v≤valN (prt U j (v.length+1)) by omega) f2
     refine⟨by rw[w1];omega,?_⟩
     have hfin:W=wth U j (digK (v.length+1) (valN (prt U j (v.length+1)) % valN v)):=wth_of hRset hlen (by omega) hout (by rw[hval,w2])
     rw[hfin]
     rfl
    ·have hq1:q / 9223372036854775808=1:=by omega
     rw[hq1,Int.mul_one] at hval
     have f4:valN (prt U j (v.length+1))<ga*valN v:=by omega
     refine⟨?_,?_⟩
     ·repeat' refine And.intro ?_ ?_
      all_goals first|omega|exact hRset|exact hlen|exact⟨W,⟨hRset,hlen⟩,hout,hval,fun _ _=>rfl,by simp only[valN]⟩
     clear hRset hlen hout hval hW hbd hnn q3 hz hq1 f4 f2 f3 c0 c1 b0 b1 i0 i1 ga0 ga1
     rintro⟨i2,gb,c2,R2⟩ ⟨⟨i0,i1⟩,⟨gb0,gb1⟩,⟨f5,f6⟩,⟨c0,c1⟩,⟨hR2,hR2l⟩,W2,⟨hW2,hW2l⟩,ho2,hvW,ho3,he3⟩
     simp only at i0 i1 gb0 gb1 f5 f6 c0 c1 hR2 hR2l ho3 he3 ⊢
     refine⟨fun ilt=>?_,fun ige=>?_⟩
     ·have x:=dig_nth hv i2.toNat
      have y:=dig_nth hR2 (j+i2.toNat)
      have hi1:(i2+1).toNat=i2.toNat+1:=by omega
      rw[hi1]
      have hs:((nthD R2 (j+i2.toNat) 0 % 18446744073709551616+nthD v i2.toNat 0 % 18446744073709551616) % 18446744073709551616+c2) % 18446744073709551616=nthD R2 (j+i2.toNat) 0+nthD v i2.toNat 0+c2:=by omega
      rw[hs]
      obtain⟨k1,k2,k3,k4,k5⟩:=ab_step hR2 (hR2l.trans hW2l.symm) hv c0 c1 (show j+i2.toNat<W2.length by omega) hW2 ho3 he3 rfl
      repeat' refine And.intro ?_ ?_
      all_goals first|omega|exact k1|exact f5|exact f6|exact⟨W2,⟨hW2,hW2l⟩,ho2,hvW,k4,k5⟩
     ·have hi2:i2.toNat=v.length:=by omega
      rw[hi2,List.take_length] at he3
      rw[hi2] at ho3
      have hun:=ho3 (j+v.length) (.inr (Nat.le_refl _))
      have du:=dig_nth hW2 (j+v.length)
      have hXs:=@prt_succ W2 j v.length
      have hc2:c2 % 4294967296=c2:=by omega
      rw[hc2,hun]
      have hF:Dig (R2.set (j+v.length) ((nthD W2 (j+v.length) 0+c2) % 4294967296)):=dig_set hR2 (by omega) (by omega)
      have hFl:(R2.set (j+v.length) ((nthD W2 (j+v.length) 0+c2) % 4294967296)).length=U.length:=by simp[hR2l]
      have hFo:∀m,(m<j∨j+(v.length+1)≤m)→nthD (R2.set (j+v.length) ((nthD W2 (j+v.length) 0+c2) % 4294967296)) m 0=nthD U m 0:=fun m hm=>by rw[nth_set_ne (by omega),ho3 m (by omega)];exact ho2 m hm
      have hFv:valN (prt (R2.set (j+v.length) ((nthD W2 (j+v.length) 0+c2) % 4294967296)) j (v.length+1))=valN (prt U j (v.length+1)) - gb*valN v+4294967296^(v.length+1)+valN v - 4294967296^(v.length+1)*((nthD W2 (j+v.length) 0+c2) / 4294967296):=by
       rw[prt_succ,prt_set (Nat.le_refl _),nth_set_self (by omega),←hvW,hXs,Int.pow_succ]
       generalize (4294967296:Int)^v.length=B at*
       have e:B*4294967296*((nthD W2 (j+v.length) 0+c2) / 4294967296)=B*(nthD W2 (j+v.length) 0+c2 - (nthD W2 (j+v.length) 0+c2) % 4294967296):=by rw[Int.mul_assoc];congr 1;omega
       rw[e]
       simp only[Int.mul_add,Int.mul_sub]
       omega
      have hbd:=prt_bd hF (j:=j) (k:=v.length+1)
      have hk:(nthD W2 (j+v.length) 0+c2) / 4294967296=1:=by
       by_cases h:(nthD W2 (j+v.length) 0+c2) / 4294967296=1
       ·exact h
       ·have h0:(nthD W2 (j+v.length) 0+c2) / 4294967296=0:=by omega
        rw[h0,Int.mul_zero] at hFv
        omega
      rw[hk,Int.mul_one] at hFv
      have e1:(gb - 1)*valN v=gb*valN v - valN v:=by rw[Int.sub_mul,Int.one_mul]
      obtain⟨w1,w2⟩:=qr_of (q:=gb - 1) (show(gb - 1)*valN v≤valN (prt U j (v.length+1)) by omega) (by rw[show gb - 1+1=gb by omega];exact f5)
      have hgpos:0<gb:=by
       by_cases h:0<gb
       ·exact h
       ·have:gb=0:=by omega
        subst this
        omega
      have hfin:R2.set (j+v.length) ((nthD W2 (j+v.length) 0+c2) % 4294967296)=wth U j (digK (v.length+1) (valN (prt U j (v.length+1)) % valN v)):=wth_of hF hFl (by omega) hFo (by rw[hFv,w2,e1];omega)
      repeat refine And.intro (by omega) ?_
      rw[hfin]
      rfl
  ·obtain⟨k1,k2,k3,k4⟩:=nbr (.inl hB) hb
   repeat' refine And.intro ?_ ?_
   all_goals first|omega|exact k2|exact k3
 ·repeat refine And.intro (by omega) ?_
  refine⟨fun hc=>?_,fun hc=>?_⟩
  ·repeat refine And.intro (by omega) ?_
   refine⟨fun hb=>?_,fun hb=>?_⟩
   ·obtain⟨gg,hgg,f0,f2,f3⟩:=brk (.inr hc) hb
    rw[←hgg]
    clear hB hb hc
    clear hgg brk nbr ext hgx hgr
    refine⟨?_,?_⟩
    ·repeat' refine And.intro ?_ ?_
     all_goals first|omega|exact hU|exact f2|exact f3|exact fun _ _=>trivial|(simp only[valN];omega)
    clear f0 f2 f3
    rintro⟨i,ga,c,b,R⟩ ⟨⟨i0,i1⟩,⟨ga0,ga1⟩,⟨f2,f3⟩,⟨c0,c1⟩,⟨b0,b1⟩,⟨hR,hRl⟩,ho,he⟩
    simp only at i0 i1 ga0 ga1 f2 f3 c0 c1 b0 b1 hR hRl ho he ⊢
    refine⟨fun ilt=>?_,fun ige=>?_⟩
    ·have x:=dig_nth hv i.toNat
     have y:=dig_nth hR (j+i.toNat)
     have gx0:0≤ga*nthD v i.toNat 0:=Int.mul_nonneg ga0 x.1
     have gx1:ga*nthD v i.toNat 0≤4294967295*4294967295:=Int.mul_le_mul (by omega) (by omega) x.1 (by omega)
     have q1:nthD v i.toNat 0 % 18446744073709551616=nthD v i.toNat 0:=by omega
     have q2:nthD R (j+i.toNat) 0 % 18446744073709551616=nthD R (j+i.toNat) 0:=by omega
     have q3:(ga*nthD v i.toNat 0 % 18446744073709551616+c) % 18446744073709551616=ga*nthD v i.toNat 0+c:=by omega
     have hi1:(i+1).toNat=i.toNat+1:=by omega
     rw[q1,q2,q3,and_mask (by omega) (by omega),hi1]
     generalize hq:((nthD R (j+i.toNat) 0 - (ga*nthD v i.toNat 0+c) % 4294967296) % 18446744073709551616 - b) % 18446744073709551616=q
     obtain⟨k1,k2,k3,k4,k5⟩:=ms_step (d:=q % 4294967296) (e:=q / 9223372036854775808) hR hRl hv ga0 ga1 c0 c1 b0 b1 (show j+i.toNat<U.length by omega) ho he (by omega) (by omega)
     repeat' refine And.intro ?_ ?_
     all_goals first|omega|exact k1|exact k2|exact k3|exact k4|exact k5|exact f2|exact f3
    ·have hi:i.toNat=v.length:=by omega
     rw[hi,List.take_length] at he
     rw[hi] at ho
     have hun:=ho (j+v.length) (.inr (Nat.le_refl _))
     have du:=dig_nth hU (j+v.length)
     have q2:nthD R (j+v.length) 0 % 18446744073709551616=nthD R (j+v.length) 0:=by rw[hun];omega
     have hXs:=@prt_succ U j v.length
     rw[q2]
     generalize hq:((nthD R (j+v.length) 0 - c) % 18446744073709551616 - b) % 18446744073709551616=q
     have hRset:Dig (R.set (j+v.length) (q % 4294967296)):=dig_set hR (by omega) (by omega)
     have hlen:(R.set (j+v.length) (q % 4294967296)).length=U.length:=by simp[hRl]
     have hout:∀m,(m<j∨j+(v.length+1)≤m)→nthD (R.set (j+v.length) (q % 4294967296)) m 0=nthD U m 0:=fun m hm=>by rw[nth_set_ne (by omega)];exact ho m (by omega)
     have hval:valN (prt (R.set (j+v.length) (q % 4294967296)) j (v.length+1))=valN (prt U j (v.length+1)) - ga*valN v+4294967296^(v.length+1)*(q / 9223372036854775808):=by
      rw[prt_succ,prt_set (Nat.le_refl _),nth_set_self (by omega),he,hXs,Int.pow_succ]
      have hd:q % 4294967296 - 4294967296*(q / 9223372036854775808)=nthD U (j+v.length) 0 - c - b:=by rw[hun] at hq;omega
      generalize (4294967296:Int)^v.length=B
      have e:B*4294967296*(q / 9223372036854775808)=B*(q % 4294967296+c+b - nthD U (j+v.length) 0):=by rw[Int.mul_assoc];congr 1;omega
      rw[e]
      simp only[Int.mul_add,Int.mul_sub]
      omega
     generalize hW:R.set (j+v.length) (q % 4294967296)=W at*
     have hbd:=prt_bd hRset (j:=j) (k:=v.length+1)
     have hnn:=val_nonneg (prt_dig hRset (j:=j) (k:=v.length+1))
     have q3:0≤q∧q<18446744073709551616:=by omega
     clear hq hun du q2 he ho hR
     repeat refine And.intro (by omega) ?_
     refine⟨fun hz=>?_,fun hz=>?_⟩
     ·rw[hz,Int.mul_zero,Int.add_zero] at hval
      obtain⟨w1,w2⟩:=qr_of (q:=ga) (show ga*valN v≤valN (prt U j (v.length+1)) by omega) f2
      refine⟨by rw[w1];omega,?_⟩
      have hfin:W=wth U j (digK (v.length+1) (valN (prt U j (v.length+1)) % valN v)):=wth_of hRset hlen (by omega) hout (by rw[hval,w2])
      rw[hfin]
      rfl
     ·have hq1:q / 9223372036854775808=1:=by omega
      rw[hq1,Int.mul_one] at hval
      have f4:valN (prt U j (v.length+1))<ga*valN v:=by omega
      refine⟨?_,?_⟩
      ·repeat' refine And.intro ?_ ?_
       all_goals first|omega|exact hRset|exact hlen|exact⟨W,⟨hRset,hlen⟩,hout,hval,fun _ _=>rfl,by simp only[valN]⟩
      clear hRset hlen hout hval hW hbd hnn q3 hz hq1 f4 f2 f3 c0 c1 b0 b1 i0 i1 ga0 ga1
      rintro⟨i2,gb,c2,R2⟩ ⟨⟨i0,i1⟩,⟨gb0,gb1⟩,⟨f5,f6⟩,⟨c0,c1⟩,⟨hR2,hR2l⟩,W2,⟨hW2,hW2l⟩,ho2,hvW,ho3,he3⟩
      simp only at i0 i1 gb0 gb1 f5 f6 c0 c1 hR2 hR2l ho3 he3 ⊢
      refine⟨fun ilt=>?_,fun ige=>?_⟩
      ·have x:=dig_nth hv i2.toNat
       have y:=dig_nth hR2 (j+i2.toNat)
       have hi1:(i2+1).toNat=i2.toNat+1:=by omega
       rw[hi1]
       have hs:((nthD R2 (j+i2.toNat) 0 % 18446744073709551616+nthD v i2.toNat 0 % 18446744073709551616) % 18446744073709551616+c2) % 18446744073709551616=nthD R2 (j+i2.toNat) 0+nthD v i2.toNat 0+c2:=by omega
       rw[hs]
       obtain⟨k1,k2,k3,k4,k5⟩:=ab_step hR2 (hR2l.trans hW2l.symm) hv c0 c1 (show j+i2.toNat<W2.length by omega) hW2 ho3 he3 rfl
       repeat' refine And.intro ?_ ?_
       all_goals first|omega|exact k1|exact f5|exact f6|exact⟨W2,⟨hW2,hW2l⟩,ho2,hvW,k4,k5⟩
      ·have hi2:i2.toNat=v.length:=by omega
       rw[hi2,List.take_length] at he3
       rw[hi2] at ho3
       have hun:=ho3 (j+v.length) (.inr (Nat.le_refl _))
       have du:=dig_nth hW2 (j+v.length)
       have hXs:=@prt_succ W2 j v.length
       have hc2:c2 % 4294967296=c2:=by omega
       rw[hc2,hun]
       have hF:Dig (R2.set (j+v.length) ((nthD W2 (j+v.length) 0+c2) % 4294967296)):=dig_set hR2 (by omega) (by omega)
       have hFl:(R2.set (j+v.length) ((nthD W2 (j+v.length) 0+c2) % 4294967296)).length=U.length:=by simp[hR2l]
       have hFo:∀m,(m<j∨j+(v.length+1)≤m)→nthD (R2.set (j+v.length) ((nthD W2 (j+v.length) 0+c2) % 4294967296)) m 0=nthD U m 0:=fun m hm=>by rw[nth_set_ne (by omega),ho3 m (by omega)];exact ho2 m hm
       have hFv:valN (prt (R2.set (j+v.length) ((nthD W2 (j+v.length) 0+c2) % 4294967296)) j (v.length+1))=valN (prt U j (v.length+1)) - gb*valN v+4294967296^(v.length+1)+valN v - 4294967296^(v.length+1)*((nthD W2 (j+v.length) 0+c2) / 4294967296):=by
        rw[prt_succ,prt_set (Nat.le_refl _),nth_set_self (by omega),←hvW,hXs,Int.pow_succ]
        generalize (4294967296:Int)^v.length=B at*
        have e:B*4294967296*((nthD W2 (j+v.length) 0+c2) / 4294967296)=B*(nthD W2 (j+v.length) 0+c2 - (nthD W2 (j+v.length) 0+c2) % 4294967296):=by rw[Int.mul_assoc];congr 1;omega
        rw[e]
        simp only[Int.mul_add,Int.mul_sub]
        omega
       have hbd:=prt_bd hF (j:=j) (k:=v.length+1)
       have hk:(nthD W2 (j+v.length) 0+c2) / 4294967296=1:=by
        by_cases h:(nthD W2 (j+v.length) 0+c2) / 4294967296=1
        ·exact h
        ·have h0:(nthD W2 (j+v.length) 0+c2) / 4294967296=0:=by omega
         rw[h0,Int.mul_zero] at hFv
         omega
       rw[hk,Int.mul_one] at hFv
       have e1:(gb - 1)*valN v=gb*valN v - valN v:=by rw[Int.sub_mul,Int.one_mul]
       obtain⟨w1,w2⟩:=qr_of (q:=gb - 1) (show(gb - 1)*valN v≤valN (prt U j (v.length+1)) by omega) (by rw[show gb - 1+1=gb by omega];exact f5)
       have hgpos:0<gb:=by
        by_cases h:0<gb
        ·exact h
        ·have:gb=0:=by omega
         subst this
         omega
       have hfin:R2.set (j+v.length) ((nthD W2 (j+v.length) 0+c2) % 4294967296)=wth U j (digK (v.length+1) (valN (prt U j (v.length+1)) % valN v)):=wth_of hF hFl (by omega) hFo (by rw[hFv,w2,e1];omega)
       repeat refine And.intro (by omega) ?_
       rw[hfin]
       rfl
   ·obtain⟨k1,k2,k3,k4⟩:=nbr (.inr hc) hb
    repeat' refine And.intro ?_ ?_
    all_goals first|omega|exact k2|exact k3
  ·obtain⟨gg,hgg,f0,f2,f3⟩:=ext hB hc
   rw[←hgg]
   clear hB hc
   clear hgg brk nbr ext hgx hgr
   refine⟨?_,?_⟩
   ·repeat' refine And.intro ?_ ?_
    all_goals first|omega|exact hU|exact f2|exact f3|exact fun _ _=>trivial|(simp only[valN];omega)
   clear f0 f2 f3
   rintro⟨i,ga,c,b,R⟩ ⟨⟨i0,i1⟩,⟨ga0,ga1⟩,⟨f2,f3⟩,⟨c0,c1⟩,⟨b0,b1⟩,⟨hR,hRl⟩,ho,he⟩
   simp only at i0 i1 ga0 ga1 f2 f3 c0 c1 b0 b1 hR hRl ho he ⊢
   refine⟨fun ilt=>?_,fun ige=>?_⟩
   ·have x:=dig_nth hv i.toNat
    have y:=dig_nth hR (j+i.toNat)
    have gx0:0≤ga*nthD v i.toNat 0:=Int.mul_nonneg ga0 x.1
    have gx1:ga*nthD v i.toNat 0≤4294967295*4294967295:=Int.mul_le_mul (by omega) (by omega) x.1 (by omega)
    have q1:nthD v i.toNat 0 % 18446744073709551616=nthD v i.toNat 0:=by omega
    have q2:nthD R (j+i.toNat) 0 % 18446744073709551616=nthD R (j+i.toNat) 0:=by omega
    have q3:(ga*nthD v i.toNat 0 % 18446744073709551616+c) % 18446744073709551616=ga*nthD v i.toNat 0+c:=by omega
    have hi1:(i+1).toNat=i.toNat+1:=by omega
    rw[q1,q2,q3,and_mask (by omega) (by omega),hi1]
    generalize hq:((nthD R (j+i.toNat) 0 - (ga*nthD v i.toNat 0+c) % 4294967296) % 18446744073709551616 - b) % 18446744073709551616=q
    obtain⟨k1,k2,k3,k4,k5⟩:=ms_step (d:=q % 4294967296) (e:=q / 9223372036854775808) hR hRl hv ga0 ga1 c0 c1 b0 b1 (show j+i.toNat<U.length by omega) ho he (by omega) (by omega)
    repeat' refine And.intro ?_ ?_
    all_goals first|omega|exact k1|exact k2|exact k3|exact k4|exact k5|exact f2|exact f3
   ·have hi:i.toNat=v.length:=by omega
    rw[hi,List.take_length] at he
    rw[hi] at ho
    have hun:=ho (j+v.length) (.inr (Nat.le_refl _))
    have du:=dig_nth hU (j+v.length)
    have q2:nthD R (j+v.length) 0 % 18446744073709551616=nthD R (j+v.length) 0:=by rw[hun];omega
    have hXs:=@prt_succ U j v.length
    rw[q2]
    generalize hq:((nthD R (j+v.length) 0 - c) % 18446744073709551616 - b) % 18446744073709551616=q
    have hRset:Dig (R.set (j+v.length) (q % 4294967296)):=dig_set hR (by omega) (by omega)
    have hlen:(R.set (j+v.length) (q % 4294967296)).length=U.length:=by simp[hRl]
    have hout:∀m,(m<j∨j+(v.length+1)≤m)→nthD (R.set (j+v.length) (q % 4294967296)) m 0=nthD U m 0:=fun m hm=>by rw[nth_set_ne (by omega)];exact ho m (by omega)
    have hval:valN (prt (R.set (j+v.length) (q % 4294967296)) j (v.length+1))=valN (prt U j (v.length+1)) - ga*valN v+4294967296^(v.length+1)*(q / 9223372036854775808):=by
     rw[prt_succ,prt_set (Nat.le_refl _),nth_set_self (by omega),he,hXs,Int.pow_succ]
     have hd:q % 4294967296 - 4294967296*(q / 9223372036854775808)=nthD U (j+v.length) 0 - c - b:=by rw[hun] at hq;omega
     generalize (4294967296:Int)^v.length=B
     have e:B*4294967296*(q / 9223372036854775808)=B*(q % 4294967296+c+b - nthD U (j+v.length) 0):=by rw[Int.mul_assoc];congr 1;omega
     rw[e]
     simp only[Int.mul_add,Int.mul_sub]
     omega
    generalize hW:R.set (j+v.length) (q % 4294967296)=W at*
    have hbd:=prt_bd hRset (j:=j) (k:=v.length+1)
    have hnn:=val_nonneg (prt_dig hRset (j:=j) (k:=v.length+1))
    have q3:0≤q∧q<18446744073709551616:=by omega
    clear hq hun du q2 he ho hR
    repeat refine And.intro (by omega) ?_
    refine⟨fun hz=>?_,fun hz=>?_⟩
    ·rw[hz,Int.mul_zero,Int.add_zero] at hval
     obtain⟨w1,w2⟩:=qr_of (q:=ga) (show ga*valN v≤valN (prt U j (v.length+1)) by omega) f2
     refine⟨by rw[w1];omega,?_⟩
     have hfin:W=wth U j (digK (v.length+1) (valN (prt U j (v.length+1)) % valN v)):=wth_of hRset hlen (by omega) hout (by rw[hval,w2])
     rw[hfin]
     rfl
    ·have hq1:q / 9223372036854775808=1:=by omega
     rw[hq1,Int.mul_one] at hval
     have f4:valN (prt U j (v.length+1))<ga*valN v:=by omega
     refine⟨?_,?_⟩
     ·repeat' refine And.intro ?_ ?_
      all_goals first|omega|exact hRset|exact hlen|exact⟨W,⟨hRset,hlen⟩,hout,hval,fun _ _=>rfl,by simp only[valN]⟩
     clear hRset hlen hout hval hW hbd hnn q3 hz hq1 f4 f2 f3 c0 c1 b0 b1 i0 i1 ga0 ga1
     rintro⟨i2,gb,c2,R2⟩ ⟨⟨i0,i1⟩,⟨gb0,gb1⟩,⟨f5,f6⟩,⟨c0,c1⟩,⟨hR2,hR2l⟩,W2,⟨hW2,hW2l⟩,ho2,hvW,ho3,he3⟩
     simp only at i0 i1 gb0 gb1 f5 f6 c0 c1 hR2 hR2l ho3 he3 ⊢
     refine⟨fun ilt=>?_,fun ige=>?_⟩
     ·have x:=dig_nth hv i2.toNat
      have y:=dig_nth hR2 (j+i2.toNat)
      have hi1:(i2+1).toNat=i2.toNat+1:=by omega
      rw[hi1]
      have hs:((nthD R2 (j+i2.toNat) 0 % 18446744073709551616+nthD v i2.toNat 0 % 18446744073709551616) % 18446744073709551616+c2) % 18446744073709551616=nthD R2 (j+i2.toNat) 0+nthD v i2.toNat 0+c2:=by omega
      rw[hs]
      obtain⟨k1,k2,k3,k4,k5⟩:=ab_step hR2 (hR2l.trans hW2l.symm) hv c0 c1 (show j+i2.toNat<W2.length by omega) hW2 ho3 he3 rfl
      repeat' refine And.intro ?_ ?_
      all_goals first|omega|exact k1|exact f5|exact f6|exact⟨W2,⟨hW2,hW2l⟩,ho2,hvW,k4,k5⟩
     ·have hi2:i2.toNat=v.length:=by omega
      rw[hi2,List.take_length] at he3
      rw[hi2] at ho3
      have hun:=ho3 (j+v.length) (.inr (Nat.le_refl _))
      have du:=dig_nth hW2 (j+v.length)
      have hXs:=@prt_succ W2 j v.length
      have hc2:c2 % 4294967296=c2:=by omega
      rw[hc2,hun]
      have hF:Dig (R2.set (j+v.length) ((nthD W2 (j+v.length) 0+c2) % 4294967296)):=dig_set hR2 (by omega) (by omega)
      have hFl:(R2.set (j+v.length) ((nthD W2 (j+v.length) 0+c2) % 4294967296)).length=U.length:=by simp[hR2l]
      have hFo:∀m,(m<j∨j+(v.length+1)≤m)→nthD (R2.set (j+v.length) ((nthD W2 (j+v.length) 0+c2) % 4294967296)) m 0=nthD U m 0:=fun m hm=>by rw[nth_set_ne (by omega),ho3 m (by omega)];exact ho2 m hm
      have hFv:valN (prt (R2.set (j+v.length) ((nthD W2 (j+v.length) 0+c2) % 4294967296)) j (v.length+1))=valN (prt U j (v.length+1)) - gb*valN v+4294967296^(v.length+1)+valN v - 4294967296^(v.length+1)*((nthD W2 (j+v.length) 0+c2) / 4294967296):=by
       rw[prt_succ,prt_set (Nat.le_refl _),nth_set_self (by omega),←hvW,hXs,Int.pow_succ]
       generalize (4294967296:Int)^v.length=B at*
       have e:B*4294967296*((nthD W2 (j+v.length) 0+c2) / 4294967296)=B*(nthD W2 (j+v.length) 0+c2 - (nthD W2 (j+v.length) 0+c2) % 4294967296):=by rw[Int.mul_assoc];congr 1;omega
       rw[e]
       simp only[Int.mul_add,Int.mul_sub]
       omega
      have hbd:=prt_bd hF (j:=j) (k:=v.length+1)
      have hk:(nthD W2 (j+v.length) 0+c2) / 4294967296=1:=by
       by_cases h:(nthD W2 (j+v.length) 0+c2) / 4294967296=1
       ·exact h
       ·have h0:(nthD W2 (j+v.length) 0+c2) / 4294967296=0:=by omega
        rw[h0,Int.mul_zero] at hFv
        omega
      rw[hk,Int.mul_one] at hFv
      have e1:(gb - 1)*valN v=gb*valN v - valN v:=by rw[Int.sub_mul,Int.one_mul]
      obtain⟨w1,w2⟩:=qr_of (q:=gb - 1) (show(gb - 1)*valN v≤valN (prt U j (v.length+1)) by omega) (by rw[show gb - 1+1=gb by omega];exact f5)
      have hgpos:0<gb:=by
       by_cases h:0<gb
       ·exact h
       ·have:gb=0:=by omega
        subst this
        omega
      have hfin:R2.set (j+v.length) ((nthD W2 (j+v.length) 0+c2) % 4294967296)=wth U j (digK (v.length+1) (valN (prt U j (v.length+1)) % valN v)):=wth_of hF hFl (by omega) hFo (by rw[hFv,w2,e1];omega)
      repeat refine And.intro (by omega) ?_
      rw[hfin]
      rfl
def uptoI (n:Nat):List Int:=(List.range n).map fun i:Nat=>(i:Int)
theorem uptoI_len {n:Nat}:(uptoI n).length=n:=by simp[uptoI]
theorem uptoI_succ {n:Nat}:uptoI (n+1)=uptoI n++[(n:Int)]:=by simp[uptoI,List.range_succ]
theorem uptoI_lt {n:Nat}:(uptoI n).Pairwise (·<·):=by
 unfold uptoI
 rw[List.pairwise_map]
 exact List.pairwise_lt_range.imp fun h=>by omega
theorem uptoI_mem {n:Nat} {x:Int}:x∈uptoI n↔0≤x∧x<n:=by
 unfold uptoI
 rw[List.mem_map]
 constructor
 ·rintro⟨k,hk,rfl⟩
  rw[List.mem_range] at hk
  omega
 ·rintro⟨h0,h1⟩
  exact⟨x.toNat,List.mem_range.2 (by omega),by omega⟩
def ascOk (n:Nat) (c:List Int):Prop:=c.Pairwise (·<·)∧∀x∈c,0≤x∧x<n
theorem asc_len' {n:Nat}:∀{c:List Int} {a:Int},a≤n→c.Pairwise (·<·)→(∀x∈c,a≤x∧x<n)→(c.length:Int)≤n - a
 |[],a,ha,_,_=>by simp;omega
 |x::c,a,ha,h,hx=>by
  have h1:=hx x (by simp)
  rw[List.pairwise_cons] at h
  have:=@asc_len' n c (x+1) (by omega) h.2 fun y hy=>⟨by have:=h.1 y hy;omega,(hx y (by simp[hy])).2⟩
  simp only[List.length_cons]
  omega
theorem asc_len {n:Nat} {c:List Int} (h:ascOk n c):c.length≤n:=by
 have:=asc_len' (n:=n) (a:=0) (by omega) h.1 h.2
 omega
theorem cmp_same:∀{l:List Int},cmpL l l=0
 |[]=>rfl
 |x::l=>by
  unfold cmpL
  rw[if_neg (by omega),if_neg (by omega)]
  exact cmp_same
theorem pick_of_asc {l:List Off}:∀{c:List Int} {last:Int}, -1≤last→c.Pairwise (·<·)→(∀x∈c,last<x∧x<l.length)→pickGo l last c=some (c.map fun x=>nthD l x.toNat SId.off.dflt)
 |[],_,_,_,_=>rfl
 |i::c,last,hl,h,hx=>by
  rw[List.pairwise_cons] at h
  have h1:=hx i (by simp)
  simp only[pickGo]
  rw[if_neg (by omega),@pick_of_asc l c i (by omega) h.2 fun x hxc=>⟨h.1 x hxc,(hx x (by simp[hxc])).2⟩]
  rfl
theorem pick_of {p:Prob} {c:List Int} (h:ascOk p.offers.length c):pickGo p.offers (-1) c=some (c.map (oI p)):=pick_of_asc (by omega) h.1 fun x hx=>by have:=h.2 x hx;omega
theorem bound_bd {p:Prob} (hc:checkE p=0) {r:Int}:0≤boundS p r∧boundS p r≤4:=by
 obtain⟨_,_,g3,g4,_⟩:=good_of hc
 unfold boundS
 split
 ·omega
 ·split
  ·exact bun_nth g3 _
  ·exact bun_nth g4 _
def gcdN (x y:Int):Int:=(Nat.gcd x.toNat y.toNat:Nat)
theorem gcdN_step {x y:Int} (h0:0≤x) (h1:0<y):gcdN y (x % y)=gcdN x y:=by
 unfold gcdN
 congr 1
 rw[Nat.gcd_comm x.toNat,Nat.gcd_rec y.toNat x.toNat,Nat.gcd_comm,Int.toNat_emod h0 (by omega)]
theorem gcdN_zero {x:Int} (h0:0≤x):gcdN x 0=x:=by unfold gcdN;simp;omega
theorem howN {i u v:Nat} (h:u=v):(SV.ow i u 1).same (SV.ow i v 1):=by subst h;rfl
theorem nilN {l:List Int} (h:l=[]):(SV.row (.i .i64) []).same (SV.row (.i .u32) l):=by subst h;rfl
def sbO (x y:Int):SV:=.tup [.row (.i .u32) (natL (x - y)),.sb (decide (y≤x))]
theorem natL_neg {n:Int} (h:n≤0):natL n=[]:=by
 unfold natL
 rw[show n.toNat=0 by omega]
 rfl
def r155:SCtr:=⟨73,List Int×List Int,.cons (codR (.i .u32)) (.one (codR (.i .u32))),fun a=>(Dig a.1∧Dig a.2)∧a.1.length≤100000000000∧a.2.length≤100000000000,
 fun a=>sbO (valN a.1) (valN a.2)⟩
def Λ155 (a:List Int×List Int):Nat→LoopAnn
 |7=> .inv (Int×Int×List Int) (fun x=>⟨[(0,.row (.i .u32) (trimN a.1)),(1,.row (.i .u32) (trimN a.2)),(6,.ow 0 x.2.2.length 1),(7,.si .u64 x.2.1),(22,.si .i64 (trimN a.1).length),(23,.si .i64 x.1)],[.row (.i .u32) x.2.2 110 true]⟩)
  (fun s=>(iS s 23,iS s 7,oS (.i .u32) s 0))
  (fun x=>(0≤x.1∧x.1≤(trimN a.1).length)∧(0≤x.2.1∧x.2.1≤1)∧Dig x.2.2∧x.2.2.length=(trimN a.1).length∧(∀j,x.1.toNat≤j→nthD x.2.2 j 0=0)∧
   valN x.2.2 - 4294967296^x.1.toNat*x.2.1=valN ((trimN a.1).take x.1.toNat) - valN ((trimN a.2).take x.1.toNat)) (fun x=>((trimN a.1).length - x.1).toNat) fun _ _=> .look
 |_=> .look
theorem sb_step {s t row:List Int} {i:Nat} {br d v c:Int} (hs:Dig s) (ht:Dig t) (hr:Dig row) (hl:row.length=s.length) (hz:∀j,i≤j→nthD row j 0=0)
  (hv:valN row - 4294967296^i*br=valN (s.take i) - valN (t.take i)) (hi:i<s.length) (hd:d=nthD s i 0 - br - nthD t i 0) (h0:0≤v∧v<4294967296) (hc:v - 4294967296*c=d):
  Dig (row.set i v)∧(row.set i v).length=s.length∧(∀j,i+1≤j→nthD (row.set i v) j 0=0)∧valN (row.set i v) - 4294967296^(i+1)*c=valN (s.take (i+1)) - valN (t.take (i+1)):=by
 refine⟨dig_set hr h0.1 h0.2,by simp[hl],fun j hj=>by rw[nth_set_ne (by omega)];exact hz j (by omega),?_⟩
 rw[val_set (by omega),take_snoc0,take_snoc0,hz i (Nat.le_refl _),Int.pow_succ,Int.sub_zero]
 have h1:(4294967296:Int)^i*(v - 4294967296*c)=4294967296^i*(nthD s i 0 - br - nthD t i 0):=by rw[hc,hd]
 simp only[Int.mul_sub] at h1
 rw[←Int.mul_assoc] at h1
 omega
theorem h155:Holds Try.prog r155:=by
 refine con (L:=[r152,r132]) r155 F155 Λ155 (OwnOK.none _) (by simpa using⟨h152,h132⟩) (by kernel_rfl) (by kernel_rfl) (fun _=>rfl) ?_
 rintro⟨a,b⟩ ⟨⟨ha,hb⟩,hla,hlb⟩
 simp only at ha hb hla hlb
 refine vcOf (let z0:=(trimN a).length;let z1:=decide (cmpN (valN (trimN a)) (valN (trimN b))<(0:Int));let z2:=SId.i .u32;let z3:=SV.tup [SV.row z2 (natL (valN a - valN b)),SV.sb (decide (valN b≤valN a))];let z4:=(↑(trimN a).length:Int);let z5:=List.replicate z4.toNat (0:Int);let z6:=(↑z0:Int);let z7:=SV.si .i64 z6;let z8:=SObj.row z2 z5 110 true;let z9:=(↑(trimN b).length:Int);a.length≤1000000000000∧b.length≤1000000000000∧((Dig (trimN a)∧Dig (trimN b))∧z0≤1000000000000∧(trimN b).length≤1000000000000)∧(z1=true→(SV.tup [SV.row (SId.i .i64) [],SV.bl false]).same z3)∧(z1=false→(0:Int)≤z4∧z4≤z4∧z4*(4:Int)≤(140737488355328:Int)∧z4≤(1000000000000:Int)∧((((SV.row z2 (trimN a)).same (SV.row z2 (trimN a))∧(SV.row z2 (trimN b)).same (SV.row z2 (trimN b))∧(SV.ow 0 z4.toNat 1).same (SV.ow 0 z5.length 1)∧(SV.il .u64 0).same (SV.si .u64 0)∧(SV.si .i64 z4).same z7∧(SV.il .i64 0).same (SV.si .i64 0)∧True)∧z8.same z8∧True)∧((0:Int)≤(0:Int)∧(0:Int)≤z6)∧((0:Int)≤(0:Int)∧(0:Int)≤(1:Int))∧Dig z5∧z5.length=z0∧(∀(j:Nat),0≤j→nthD z5 j (0:Int)=(0:Int))∧valN z5 - (0:Int)=(0:Int))∧∀(x:Int×Int×List Int),let z10:=x.snd.snd.length;let z11:=x.fst.toNat;let z12:=x.snd.snd.length;let z13:=x.fst+(1:Int);let z14:=SV.ow 0 z10 1;let z15:=(nthD (trimN a) z11 (0:Int) % (18446744073709551616:Int) - x.snd.fst) % (18446744073709551616:Int);let z16:=(z15 - nthD (trimN b) z11 (0:Int) % (18446744073709551616:Int)) % (18446744073709551616:Int);let z17:=x.snd.snd.set z11 (z16 % (4294967296:Int));let z18:=z16 / (9223372036854775808:Int);let z19:=SV.si .u64 z18;let z20:=SV.si .i64 z13;let z21:=SObj.row z2 z17 110 true;let z22:=z13.toNat;let z23:=(4294967296:Int)^z22;let z24:=valN (List.take z22 (trimN a)) - valN (List.take z22 (trimN b));let z25:=x.snd.snd.set z11 (z15 % (4294967296:Int));let z26:=z15 / (9223372036854775808:Int);let z27:=SV.si .u64 z26;let z28:=SObj.row z2 z25 110 true;((0:Int)≤x.fst∧x.fst≤z6)∧((0:Int)≤x.snd.fst∧x.snd.fst≤(1:Int))∧Dig x.snd.snd∧z10=z0∧(∀(j:Nat),z11≤j→nthD x.snd.snd j (0:Int)=(0:Int))∧valN x.snd.snd - (4294967296:Int)^z11*x.snd.fst=valN (List.take z11 (trimN a)) - valN (List.take z11 (trimN b))→(decide (x.fst<z6)=true→(0:Int)≤x.fst∧x.fst<z4∧z11<(trimN a).length∧(decide (x.fst<z9)=true→(0:Int)≤x.fst∧x.fst<z9∧z11<(trimN b).length∧(0:Int)≤(63:Int)∧(63:Int)≤(64:Int)∧z10=z12∧(0:Int)≤x.fst∧x.fst<(↑z12:Int)∧z10=z12∧z11<z12∧inR .i64 z13∧(((SV.row z2 (trimN a)).same (SV.row z2 (trimN a))∧(SV.row z2 (trimN b)).same (SV.row z2 (trimN b))∧z14.same (SV.ow 0 z17.length 1)∧z19.same z19∧z7.same z7∧z20.same z20∧True)∧z21.same z21∧True)∧(((0:Int)≤z13∧z13≤z6)∧((0:Int)≤z18∧z18≤(1:Int))∧Dig z17∧z17.length=z0∧(∀(j:Nat),z22≤j→nthD z17 j (0:Int)=(0:Int))∧valN z17 - z23*z18=z24)∧(z6 - z13).toNat<(z6 - x.fst).toNat)∧(decide (x.fst<z9)=false→(0:Int)≤(63:Int)∧(63:Int)≤(64:Int)∧z10=z12∧(0:Int)≤x.fst∧x.fst<(↑z12:Int)∧z10=z12∧z11<z12∧inR .i64 z13∧(((SV.row z2 (trimN a)).same (SV.row z2 (trimN a))∧(SV.row z2 (trimN b)).same (SV.row z2 (trimN b))∧z14.same (SV.ow 0 z25.length 1)∧z27.same z27∧z7.same z7∧z20.same z20∧True)∧z28.same z28∧True)∧(((0:Int)≤z13∧z13≤z6)∧((0:Int)≤z26∧z26≤(1:Int))∧Dig z25∧z25.length=z0∧(∀(j:Nat),z22≤j→nthD z25 j (0:Int)=(0:Int))∧valN z25 - z23*z26=z24)∧(z6 - z13).toNat<(z6 - x.fst).toNat))∧(decide (x.fst<z6)=false→z10=z12∧z10≤1000000000000∧(SV.tup [SV.row z2 (trimN x.snd.snd),SV.bl true]).same z3))) (by kernel_rfl) ?_
 simp only[vcs]
 obtain⟨va,na⟩:=@trim_val a
 obtain⟨vb,nb⟩:=@trim_val b
 have da:=trim_dig ha
 have db:=trim_dig hb
 have la:=@trim_len a
 have lb:=@trim_len b
 have pa:=val_nonneg da
 have pb:=val_nonneg db
 rw[←va,←vb]
 generalize trimN a=s at*
 generalize trimN b=t at*
 have hr0:∀n j,nthD (List.replicate n (0:Int)) j 0=0:=fun n j=>by
  unfold nthD
  rw[List.getElem?_replicate]
  split<;>rfl
 have hd0:∀n,Dig (List.replicate n 0):=fun n d hd=>by
  have:=List.eq_of_mem_replicate hd
  omega
 have hv0:∀n,valN (List.replicate n 0)=0:=fun n=>by
  induction n with
  |zero=>rfl
  |succ n ih=>simp only[List.replicate_succ,valN,ih];omega
 refine⟨by omega,by omega,⟨⟨da,db⟩,by omega,by omega⟩,fun hlt=>?_,fun hge=>⟨by omega,by omega,by omega,by omega,?_,?_⟩⟩
 ·have hlt2:valN s<valN t:=by unfold cmpN at hlt;split at hlt<;>(try split at hlt)<;>omega
  refine⟨nilN (natL_neg (by omega)),?_⟩
  rw[eq_comm,decide_eq_false_iff_not]
  omega
 ·repeat' refine And.intro ?_ ?_
  all_goals first|omega|exact howN (by simp)|exact hd0 _|exact fun j _=>hr0 _ j|(simp;done)|(rw[hv0];rfl)
 have hge2:valN t≤valN s:=by unfold cmpN at hge;split at hge<;>(try split at hge)<;>omega
 rintro⟨i,br,row⟩ ⟨⟨i0,i1⟩,⟨b0,b1⟩,hr,hl,hz,hv⟩
 simp only at i0 i1 b0 b1 hr hl hz hv ⊢
 refine⟨fun ilt=>?_,fun ige=>?_⟩
 ·have d1:=dig_nth da i.toNat
  have d2:=dig_nth db i.toNat
  have e:(i+1).toNat=i.toNat+1:=by omega
  refine⟨i0,ilt,by omega,fun ht=>?_,fun ht=>?_⟩
  ·generalize hq:((nthD s i.toNat 0 % 18446744073709551616 - br) % 18446744073709551616 - nthD t i.toNat 0 % 18446744073709551616) % 18446744073709551616=q
   obtain⟨k1,k2,k3,k4⟩:=sb_step (v:=q % 4294967296) (c:=q / 9223372036854775808) da db hr hl hz hv (by omega) rfl (by omega) (by omega)
   rw[e]
   repeat' refine And.intro ?_ ?_
   all_goals first|omega|exact howN (by simp)|exact k1|exact k2|exact k3|exact k4
  ·have hz2:=nth_out (a:=t) (i:=i.toNat) (by omega)
   generalize hq:(nthD s i.toNat 0 % 18446744073709551616 - br) % 18446744073709551616=q
   obtain⟨k1,k2,k3,k4⟩:=sb_step (v:=q % 4294967296) (c:=q / 9223372036854775808) da db hr hl hz hv (by omega) rfl (by omega) (by omega)
   rw[e]
   repeat' refine And.intro ?_ ?_
   all_goals first|omega|exact howN (by simp)|exact k1|exact k2|exact k3|exact k4
 ·have hi:i.toNat=s.length:=by omega
  have hlen:t.length≤s.length:=by
   by_cases h:s.length<t.length
   ·have:=len_lt da db nb h
    omega
   ·omega
  rw[hi,List.take_length,List.take_of_length_le hlen] at hv
  have hbd:=val_bdN hr
  have hp:=pow_pos s.length
  rw[hl] at hbd
  have hb0:br=0:=by
   by_cases h:br=0
   ·exact h
   ·have:br=1:=by omega
    subst this
    omega
  rw[hb0,Int.mul_zero,Int.sub_zero] at hv
  refine⟨by omega,?_,?_⟩
  ·rw[trim_eq hr,hv]
  ·rw[eq_comm,decide_eq_true_eq]
   exact hge2
theorem rep_nth {n j:Nat}:nthD (List.replicate n (0:Int)) j 0=0:=by
 unfold nthD
 rw[List.getElem?_replicate]
 split<;>rfl
theorem rep_dig {n:Nat}:Dig (List.replicate n 0):=fun d hd=>by
 have:=List.eq_of_mem_replicate hd
 omega
theorem rep_val:∀{n:Nat},valN (List.replicate n 0)=0
 |0=>rfl
 |n+1=>by simp only[List.replicate_succ,valN,@rep_val n];omega
theorem mulI_succ {o b:List Int} {x:Int} {i k:Nat}:mulI o b x i (k+1)=((mulI o b x i k).1.set (i+k) ((x*nthD b k 0+nthD (mulI o b x i k).1 (i+k) 0+(mulI o b x i k).2) % 4294967296),(x*nthD b k 0+nthD (mulI o b x i k).1 (i+k) 0+(mulI o b x i k).2) / 4294967296):=rfl
def r153:SCtr:=⟨71,List Int×List Int,.cons (codR (.i .u32)) (.one (codR (.i .u32))),fun a=>(Dig a.1∧Dig a.2)∧a.1.length≤100000000000∧a.2.length≤100000000000,
 fun a=> .row (.i .u32) (natL (valN a.1*valN a.2))⟩
def stM (a:List Int×List Int) (row:List Int):SStore:=[.row (.i .u32) row 110 true]
def Λ153 (a:List Int×List Int):Nat→LoopAnn
 |3=> .inv (Int×List Int) (fun x=>⟨[(0,.row (.i .u32) a.1),(1,.row (.i .u32) a.2),(5,.ow 0 x.2.length 1),(17,.si .i64 a.1.length),(18,.si .i64 x.1)],stM a x.2⟩)
  (fun s=>(iS s 18,oS (.i .u32) s 0))
  (fun x=>(0≤x.1∧x.1≤a.1.length)∧Dig x.2∧x.2.length=a.1.length+a.2.length∧valN x.2=valN (a.1.take x.1.toNat)*valN a.2) (fun x=>(a.1.length - x.1).toNat)
  fun x=>fun
   |7=> .inv (Int×Int×List Int) (fun y=>⟨[(0,.row (.i .u32) a.1),(1,.row (.i .u32) a.2),(5,.ow 0 y.2.2.length 1),(6,.si .i64 x.1),(7,.si .u64 y.2.1),(17,.si .i64 a.1.length),(18,.si .i64 x.1),(22,.si .i64 a.2.length),(23,.si .i64 y.1)],stM a y.2.2⟩)
    (fun s=>(iS s 23,iS s 7,oS (.i .u32) s 0))
    (fun y=>(0≤y.1∧y.1≤a.2.length)∧y.2.2=(mulI x.2 a.2 (nthD a.1 x.1.toNat 0) x.1.toNat y.1.toNat).1∧y.2.1=(mulI x.2 a.2 (nthD a.1 x.1.toNat 0) x.1.toNat y.1.toNat).2) (fun y=>(a.2.length - y.1).toNat) fun _ _=> .look
   |_=> .look
 |_=> .look
theorem h153:Holds Try.prog r153:=by
 refine con (L:=[r152]) r153 F153 Λ153 (OwnOK.none _) (by simpa using h152) (by kernel_rfl) (by kernel_rfl) (fun _=>rfl) ?_
 rintro⟨a,b⟩ ⟨⟨ha,hb⟩,hla,hlb⟩
 simp only at ha hb hla hlb
 refine vcOf (let z0:=(↑a.length:Int);let z1:=(↑b.length:Int);let z2:=z0+z1;let z3:=SId.i .u32;let z4:=List.replicate z2.toNat (0:Int);let z5:=(↑a.length:Int);let z6:=SV.si .i64 z5;let z7:=SObj.row z3 z4 110 true;let z8:=a.length+b.length;let z9:=(↑b.length:Int);let z10:=SV.si .i64 z9;inR .i64 z2∧(0:Int)≤z2∧z2≤z2∧z2*(4:Int)≤(140737488355328:Int)∧z2≤(1000000000000:Int)∧((((SV.row z3 a).same (SV.row z3 a)∧(SV.row z3 b).same (SV.row z3 b)∧(SV.ow 0 z2.toNat 1).same (SV.ow 0 z4.length 1)∧(SV.si .i64 z0).same z6∧(SV.il .i64 0).same (SV.si .i64 0)∧True)∧z7.same z7∧True)∧((0:Int)≤(0:Int)∧(0:Int)≤z5)∧Dig z4∧z4.length=z8∧valN z4=valN []*valN b)∧∀(x:Int×List Int),let z11:=x.snd.length;let z12:=x.fst.toNat;let z13:=SV.ow 0 z11 1;let z14:=SV.si .i64 x.fst;let z15:=SObj.row z3 x.snd 110 true;let z16:=nthD a z12 (0:Int);let z17:=mulI x.snd b z16 z12 0;let z18:=x.fst+(1:Int);let z19:=SV.si .i64 z18;((0:Int)≤x.fst∧x.fst≤z5)∧Dig x.snd∧z11=z8∧valN x.snd=valN (List.take z12 a)*valN b→(decide (x.fst<z5)=true→((((SV.row z3 a).same (SV.row z3 a)∧(SV.row z3 b).same (SV.row z3 b)∧z13.same z13∧z14.same z14∧(SV.il .u64 0).same (SV.si .u64 0)∧z6.same z6∧z14.same z14∧(SV.si .i64 z1).same z10∧(SV.il .i64 0).same (SV.si .i64 0)∧True)∧z15.same z15∧True)∧((0:Int)≤(0:Int)∧(0:Int)≤z9)∧x.snd=z17.fst∧(0:Int)=z17.snd)∧∀(x_1:Int×Int×List Int),let z20:=mulI x.snd b z16 z12 x_1.fst.toNat;let z21:=x.fst+x_1.fst;let z22:=x_1.snd.snd.length;let z23:=x_1.fst+(1:Int);let z24:=SV.ow 0 x_1.snd.snd.length 1;let z25:=((z16 % (18446744073709551616:Int)*(nthD b x_1.fst.toNat (0:Int) % (18446744073709551616:Int)) % (18446744073709551616:Int)+nthD x_1.snd.snd z21.toNat (0:Int) % (18446744073709551616:Int)) % (18446744073709551616:Int)+x_1.snd.fst) % (18446744073709551616:Int);let z26:=x_1.snd.snd.set z21.toNat (z25 % (4294967296:Int));let z27:=z25 / (4294967296:Int);let z28:=SV.si .u64 z27;let z29:=SV.si .i64 z23;let z30:=SObj.row z3 z26 110 true;let z31:=mulI x.snd b z16 z12 z23.toNat;let z32:=x.fst+z1;let z33:=x_1.snd.snd.set z32.toNat (x_1.snd.fst % (4294967296:Int));let z34:=SObj.row z3 z33 110 true;((0:Int)≤x_1.fst∧x_1.fst≤z9)∧x_1.snd.snd=z20.fst∧x_1.snd.fst=z20.snd→(decide (x_1.fst<z9)=true→(0:Int)≤x.fst∧x.fst<z0∧z12<a.length∧(0:Int)≤x_1.fst∧x_1.fst<z1∧x_1.fst.toNat<b.length∧inR .i64 z21∧x_1.snd.snd.length=z22∧(0:Int)≤z21∧z21<(↑z22:Int)∧x_1.snd.snd.length=z22∧z21.toNat<z22∧inR .i64 z21∧(0:Int)≤(32:Int)∧(32:Int)≤(64:Int)∧x_1.snd.snd.length=z22∧(0:Int)≤z21∧z21<(↑z22:Int)∧x_1.snd.snd.length=z22∧z21.toNat<z22∧inR .i64 z23∧(((SV.row z3 a).same (SV.row z3 a)∧(SV.row z3 b).same (SV.row z3 b)∧z24.same (SV.ow 0 z26.length 1)∧z14.same z14∧z28.same z28∧z6.same z6∧z14.same z14∧z10.same z10∧z29.same z29∧True)∧z30.same z30∧True)∧(((0:Int)≤z23∧z23≤z9)∧z26=z31.fst∧z27=z31.snd)∧(z9 - z23).toNat<(z9 - x_1.fst).toNat)∧(decide (x_1.fst<z9)=false→inR .i64 z32∧x_1.snd.snd.length=z22∧(0:Int)≤z32∧z32<(↑z22:Int)∧x_1.snd.snd.length=z22∧z32.toNat<z22∧inR .i64 z18∧(((SV.row z3 a).same (SV.row z3 a)∧(SV.row z3 b).same (SV.row z3 b)∧z24.same (SV.ow 0 z33.length 1)∧z6.same z6∧z19.same z19∧True)∧z34.same z34∧True)∧(((0:Int)≤z18∧z18≤z5)∧Dig z33∧z33.length=z8∧valN z33=valN (List.take z18.toNat a)*valN b)∧(z5 - z18).toNat<(z5 - x.fst).toNat))∧(decide (x.fst<z5)=false→z11=x.snd.length∧z11≤1000000000000∧(SV.row z3 (trimN x.snd)).same (SV.row z3 (natL (valN a*valN b))))) (by kernel_rfl) ?_
 simp only[vcs]
 refine⟨by omega,by omega,by omega,by omega,by omega,?_,?_⟩
 ·repeat' refine And.intro ?_ ?_
  all_goals first|omega|exact howN (by simp)|exact rep_dig|(simp;omega)|(rw[rep_val];simp[valN])
 rintro⟨i,row⟩ ⟨⟨i0,i1⟩,hr,hl,hv⟩
 simp only at i0 i1 hr hl hv ⊢
 refine⟨fun ilt=>⟨⟨⟨by omega,by omega⟩,rfl,rfl⟩,?_⟩,fun ige=>?_⟩
 ·rintro⟨k,c,ro⟩ ⟨⟨k0,k1⟩,e1,e2⟩
  simp only at k0 k1 e1 e2 ⊢
  have x1:=dig_nth ha i.toNat
  obtain⟨m1,m2,⟨m3,m4⟩,m5,m6⟩:=@mulI_ok row b (nthD a i.toNat 0) i.toNat hr hb x1.1 x1.2 k.toNat (by omega)
  have hp:=@mulI_succ row b (nthD a i.toNat 0) i.toNat k.toNat
  generalize mulI row b (nthD a i.toNat 0) i.toNat k.toNat=M at*
  obtain⟨p,q⟩:=M
  simp only at e1 e2 m1 m2 m3 m4 m5 m6 hp
  subst e1 e2
  have hik:(i+k).toNat=i.toNat+k.toNat:=by omega
  have hk1:(k+1).toNat=k.toNat+1:=by omega
  have hi1:(i+1).toNat=i.toNat+1:=by omega
  refine⟨fun klt=>?_,fun kge=>?_⟩
  ·have x2:=dig_nth hb k.toNat
   have x3:=dig_nth m1 (i.toNat+k.toNat)
   have hxb:0≤nthD a i.toNat 0*nthD b k.toNat 0:=Int.mul_nonneg x1.1 x2.1
   have hxb2:nthD a i.toNat 0*nthD b k.toNat 0≤4294967295*4294967295:=Int.mul_le_mul (by omega) (by omega) x2.1 (by omega)
   rw[hik,hk1,hp]
   have hq:(((nthD a i.toNat 0 % 18446744073709551616*(nthD b k.toNat 0 % 18446744073709551616) % 18446744073709551616+nthD ro (i.toNat+k.toNat) 0 % 18446744073709551616) % 18446744073709551616+c) % 18446744073709551616)=nthD a i.toNat 0*nthD b k.toNat 0+nthD ro (i.toNat+k.toNat) 0+c:=by
    rw[Int.emod_eq_of_lt (a:=nthD a i.toNat 0) (by omega) (by omega),Int.emod_eq_of_lt (a:=nthD b k.toNat 0) (by omega) (by omega)]
    omega
   rw[hq]
   repeat' refine And.intro ?_ ?_
   all_goals first|omega|exact howN (by simp)|rfl
  ·have hkl:k.toNat=b.length:=by omega
   rw[show(i+(b.length:Int)).toNat=i.toNat+b.length by omega]
   rw[hkl,List.take_length] at m6
   rw[hkl] at m5
   have hz:nthD ro (i.toNat+b.length) 0=0:=by
    rw[m5 _ (Nat.le_refl _)]
    refine nth_small hr (i:=i.toNat+b.length) ?_ (Nat.le_refl _)
    rw[hv,Int.pow_add]
    have t1:=val_bdN (dig_take ha i.toNat)
    rw[List.length_take,Nat.min_eq_left (by omega)] at t1
    have t2:=val_bdN hb
    have t3:=val_nonneg (dig_take ha i.toNat)
    have t4:=val_nonneg hb
    exact Int.lt_of_le_of_lt (Int.mul_le_mul_of_nonneg_left (Int.le_of_lt t2) t3) (Int.mul_lt_mul_of_pos_right t1 (pow_pos _))
   have hc:c % 4294967296=c:=by omega
   rw[hc,hi1]
   have hfin:valN (ro.set (i.toNat+b.length) c)=valN (a.take (i.toNat+1))*valN b:=by
    rw[val_set (by omega),hz,Int.sub_zero,m6,hv,take_snoc0,Int.add_mul,Int.mul_assoc]
   repeat' refine And.intro ?_ ?_
   all_goals first|omega|exact howN (by simp)|exact dig_set m1 m3 m4|exact hfin|(rw[List.length_set];omega)
 ·have hi:i.toNat=a.length:=by omega
  rw[hi,List.take_length] at hv
  refine⟨by omega,?_⟩
  rw[trim_eq hr,hv]
theorem or_add32 {x m:Int} {k:Nat} (x0:0≤x) (x1:x<2^k) (m0:0≤m) (hy:m*2^k<4294967296) (hx:x<4294967296):binK.orI .u32 x (m*2^k)=x+m*2^k:=by
 obtain⟨a,rfl⟩:=Int.eq_ofNat_of_zero_le x0
 obtain⟨b,rfl⟩:=Int.eq_ofNat_of_zero_le m0
 have e:((b:Int)*2^k)=((2^k*b:Nat):Int):=by rw[Nat.mul_comm];push_cast;rfl
 have x1':a<2^k:=by exact_mod_cast x1
 rw[e] at hy ⊢
 generalize hc:2^k*b=c at*
 have hy':c<4294967296:=by omega
 have hx':a<4294967296:=by omega
 have h1:(BitVec.ofInt 32 ((a:Nat):Int)).toNat=a:=by rw[BitVec.toNat_ofInt];omega
 have h2:(BitVec.ofInt 32 ((c:Nat):Int)).toNat=c:=by rw[BitVec.toNat_ofInt];omega
 have hor:a |||c=a+c:=by
  rw[Nat.or_comm,←hc,←Nat.two_pow_add_eq_or_of_lt x1']
  omega
 have hlt:a+c<4294967296:=by
  rw[←hor]
  exact Nat.or_lt_two_pow (n:=32) hx' hy'
 have h3:(BitVec.ofInt 32 ((a:Nat):Int) |||BitVec.ofInt 32 ((c:Nat):Int)).toNat=a+c:=by
  rw[BitVec.toNat_or,h1,h2,hor]
 show wrapI .u32 ((BitVec.ofInt 32 ((a:Nat):Int) |||BitVec.ofInt 32 ((c:Nat):Int)).toNat:Nat)=_
 rw[h3,wrapI_eq]
 simp only[IntKind.wrap,IntKind.bits,IntKind.signed]
 simp
 omega
theorem nth_le:∀{l:List Int} {i:Nat},Dig l→4294967296^i*nthD l i 0≤valN l
 |[],i,_=>by simp[nthD,valN]
 |d::l,0,h=>by
  obtain⟨h1,h2⟩:=dig_cons.1 h
  have:=val_nonneg h2
  simp[nthD,valN]
  omega
 |d::l,i+1,h=>by
  obtain⟨h1,h2⟩:=dig_cons.1 h
  have:=@nth_le l i h2
  have e:nthD (d::l) (i+1) 0=nthD l i 0:=by simp[nthD]
  rw[e,Int.pow_succ,Int.mul_comm (4294967296^i),Int.mul_assoc]
  simp only[valN]
  omega
theorem sh_step {a row:List Int} {i k:Nat} (ha:Dig a) (hr:Dig row) (hl:row.length=a.length+1) (hi:i<a.length) (hk:k≤31) (hv:valN row=valN (a.take i)*2^k):
  Dig ((row.set i (binK.orI .u32 (nthD row i 0) (nthD a i 0 % 18446744073709551616*2^k % 18446744073709551616 % 4294967296))).set (i+1) (nthD a i 0 % 18446744073709551616*2^k % 18446744073709551616 / 4294967296 % 4294967296))∧
  valN ((row.set i (binK.orI .u32 (nthD row i 0) (nthD a i 0 % 18446744073709551616*2^k % 18446744073709551616 % 4294967296))).set (i+1) (nthD a i 0 % 18446744073709551616*2^k % 18446744073709551616 / 4294967296 % 4294967296))=valN (a.take (i+1))*2^k:=by
 have x:=dig_nth ha i
 have r:=dig_nth hr i
 have hkp:(0:Int)<2^k:=Int.pow_pos (by decide)
 have hk2:(2:Int)^k≤2147483648:=by
  have h1:(2:Nat)^k≤2^31:=Nat.pow_le_pow_right (by decide) hk
  have h2:(2:Nat)^31=2147483648:=by decide
  rw[h2] at h1
  have h3:(2:Int)^k=((2^k:Nat):Int):=by push_cast;rfl
  rw[h3]
  omega
 have hB:(4294967296:Int)=2^(32 - k)*2^k:=by
  rw[←Int.pow_add,show 32 - k+k=32 by omega]
  decide
 have hq:(0:Int)<2^(32 - k):=Int.pow_pos (by decide)
 have t0:0≤nthD a i 0*2^k:=Int.mul_nonneg x.1 (Int.le_of_lt hkp)
 have t1:nthD a i 0*2^k<4294967296*2^k:=Int.mul_lt_mul_of_pos_right x.2 hkp
 have e1:nthD a i 0 % 18446744073709551616*2^k % 18446744073709551616=nthD a i 0*2^k:=by
  rw[Int.emod_eq_of_lt (a:=nthD a i 0) (by omega) (by omega),Int.emod_eq_of_lt t0 (by omega)]
 have e2:nthD a i 0*2^k % 4294967296=(nthD a i 0 % 2^(32 - k))*2^k:=by
  conv=>lhs;rw[hB]
  rw[Int.mul_comm (nthD a i 0),Int.mul_comm (2^(32 - k)),Int.mul_emod_mul_of_pos _ _ hkp,Int.mul_comm]
 have m0:=Int.emod_nonneg (nthD a i 0) (show(2:Int)^(32 - k)≠0 by omega)
 have m1:=Int.emod_lt_of_pos (nthD a i 0) hq
 have hP:=pow_pos i
 have hvlt:valN row<4294967296^i*2^k:=by
  rw[hv]
  have:=val_bdN (dig_take ha i)
  rw[List.length_take,Nat.min_eq_left (by omega)] at this
  exact Int.mul_lt_mul_of_pos_right this hkp
 have hri:nthD row i 0<2^k:=Int.lt_of_mul_lt_mul_left (Int.lt_of_le_of_lt (nth_le hr) hvlt) (Int.le_of_lt hP)
 have hrz:nthD row (i+1) 0=0:=by
  refine nth_small hr (i:=i+1) ?_ (Nat.le_refl _)
  rw[Int.pow_succ]
  exact Int.lt_of_lt_of_le hvlt (Int.mul_le_mul_of_nonneg_left (by omega) (Int.le_of_lt hP))
 have hml:(nthD a i 0 % 2^(32 - k))*2^k+2^k≤4294967296:=by
  have:(nthD a i 0 % 2^(32 - k)+1)*2^k≤2^(32 - k)*2^k:=Int.mul_le_mul_of_nonneg_right (by omega) (Int.le_of_lt hkp)
  rw[←hB,Int.add_mul,Int.one_mul] at this
  exact this
 have hmn:0≤(nthD a i 0 % 2^(32 - k))*2^k:=Int.mul_nonneg m0 (Int.le_of_lt hkp)
 have hor:=or_add32 (k:=k) r.1 hri m0 (by omega) r.2
 rw[e1,e2,hor]
 generalize ht:nthD a i 0*2^k=t at*
 have hmt:(nthD a i 0 % 2^(32 - k))*2^k=t % 4294967296:=e2.symm
 rw[hmt] at hml hmn ⊢
 refine⟨dig_set (dig_set hr (by omega) (by omega)) (by omega) (by omega),?_⟩
 rw[val_set (by simp;omega),val_set (by omega),nth_set_ne (by omega),hrz,take_snoc0,Int.add_mul,Int.mul_assoc,ht,hv,Int.pow_succ]
 have e3:t / 4294967296 % 4294967296=t / 4294967296:=by omega
 rw[e3]
 have e4:(4294967296:Int)^i*4294967296*(t / 4294967296 - 0)=4294967296^i*(t - t % 4294967296):=by
  rw[Int.mul_assoc];congr 1;omega
 have e5:nthD row i 0+t % 4294967296 - nthD row i 0=t % 4294967296:=by omega
 rw[e4,e5,Int.mul_sub]
 omega
def shl (a:List Int) (k:Nat):List Int:=digK (a.length+1) (valN a*2^k)
abbrev ShA:=List Int×Int
def shD (a:ShA):Prop:=Dig a.1∧a.1.length≤100000000000∧0≤a.2∧a.2≤31
def r168p:SCtr:=⟨90,List Int×Int,.cons (codR (.i .u32)) (.one (codI .u64)),shD,fun a=> .row (.i .u32) (shl a.1 a.2.toNat)⟩
def r168:OCtr where
 f:=90
 α:=List Int×Int
 put a:=[.row (.i .u32) a.1,.si .u64 a.2]
 st _:=[]
 dec v o:=match v,o with
  |[v,m],[]=>match decRow (.i .u32) v,m.int .u64 with
   |some p,some m=>some (p,m)
   |_,_=>none
  |_,_=>none
 ok v o a h:=by
  split at h
  ·split at h
   ·rename_i h1 h2
    simp only[Option.some.injEq] at h;subst h
    exact⟨by simp only[gL,decRow_ok h1,int_g h2];rfl,rfl⟩
   ·cases h
  ·cases h
 inj a b h _:=by
  simp only[gL,List.cons.injEq,and_true] at h
  have h2:=h.2
  simp only[SV.g,AV.sc.injEq,Value.int.injEq,true_and] at h2
  exact Prod.ext ((codR (.i .u32)).inj _ _ h.1) h2
 dom:=shD
 res a:=.ow 0 (shl a.1 a.2.toNat).length 1
 out a:=[.row (.i .u32) (shl a.1 a.2.toNat) 110 false]
def Λ168 (a:ShA):Nat→LoopAnn
 |3=> .inv (Int×List Int) (fun x=>⟨[(0,.row (.i .u32) a.1),(1,.si .u64 a.2),(5,.ow 0 x.2.length 1),(13,.si .i64 a.1.length),(14,.si .i64 x.1)],[.row (.i .u32) x.2 110 false]⟩)
  (fun s=>(iS s 14,oS (.i .u32) s 0))
  (fun x=>(0≤x.1∧x.1≤a.1.length)∧Dig x.2∧x.2.length=a.1.length+1∧valN x.2=valN (a.1.take x.1.toNat)*2^a.2.toNat) (fun x=>(a.1.length - x.1).toNat) fun _ _=> .look
 |_=> .look
theorem h168:HoldsO Try.prog r168:=by
 refine conN (L:=[]) (W:=[]) r168 F168 (fun _=>none) Λ168 (by simp) (by simp) (by kernel_rfl) (fun _=>rfl) (fun _=>rfl) (by kernel_rfl) ?_
 rintro⟨a,s⟩ ⟨ha,hla,s0,s1⟩
 simp only at ha hla s0 s1
 refine vcOf (let z0:=(↑a.length:Int);let z1:=z0+(1:Int);let z2:=SId.i .u32;let z3:=(0:Int)::List.replicate a.length (0:Int);let z4:=(↑a.length:Int);let z5:=SV.si .i64 z4;let z6:=SObj.row z2 z3 110 false;let z7:=a.length+1;let z8:=(2:Int)^s.toNat;inR .i64 z1∧(0:Int)≤z1∧z1≤z1∧z1*(4:Int)≤(140737488355328:Int)∧z1≤(1000000000000:Int)∧((((SV.row z2 a).same (SV.row z2 a)∧(SV.si .u64 s).same (SV.si .u64 s)∧(SV.ow 0 z1.toNat 1).same (SV.ow 0 z3.length 1)∧(SV.si .i64 z0).same z5∧(SV.il .i64 0).same (SV.si .i64 0)∧True)∧z6.same z6∧True)∧((0:Int)≤(0:Int)∧(0:Int)≤z4)∧Dig z3∧z3.length=z7∧valN z3=valN []*z8)∧∀(x:Int×List Int),let z9:=x.snd.length;let z10:=x.fst.toNat;let z11:=x.snd.length;let z12:=x.fst+(1:Int);let z13:=nthD a z10 (0:Int) % (18446744073709551616:Int)*z8 % (18446744073709551616:Int);let z14:=x.snd.set z10 (binK.orI .u32 (nthD x.snd z10 (0:Int)) (z13 % (4294967296:Int)));let z15:=SV.ow 0 z9 1;let z16:=z14.set z12.toNat (z13 / (4294967296:Int) % (4294967296:Int));let z17:=SV.si .i64 z12;let z18:=SObj.row z2 z16 110 false;((0:Int)≤x.fst∧x.fst≤z4)∧Dig x.snd∧z9=z7∧valN x.snd=valN (List.take z10 a)*z8→(decide (x.fst<z4)=true→(0:Int)≤x.fst∧x.fst<z0∧z10<a.length∧(0:Int)≤s∧s≤(64:Int)∧z9=z11∧(0:Int)≤x.fst∧x.fst<(↑z11:Int)∧z9=z11∧z10<z11∧z9=z11∧(0:Int)≤x.fst∧x.fst<(↑z11:Int)∧z9=z11∧z10<z11∧inR .i64 z12∧(0:Int)≤(32:Int)∧(32:Int)≤(64:Int)∧z9=z14.length∧(0:Int)≤z12∧z12<(↑z14.length:Int)∧z9=z14.length∧z12.toNat<z14.length∧inR .i64 z12∧(((SV.row z2 a).same (SV.row z2 a)∧(SV.si .u64 s).same (SV.si .u64 s)∧z15.same (SV.ow 0 z16.length 1)∧z5.same z5∧z17.same z17∧True)∧z18.same z18∧True)∧(((0:Int)≤z12∧z12≤z4)∧Dig z16∧z16.length=z7∧valN z16=valN (List.take z12.toNat a)*z8)∧(z4 - z12).toNat<(z4 - x.fst).toNat)∧(decide (x.fst<z4)=false→z15.same (SV.ow 0 (shl a s.toNat).length 1)∧(SObj.row z2 x.snd 110 false).same (SObj.row z2 (shl a s.toNat) 110 false)∧True)) (by kernel_rfl) ?_
 simp only[vcs]
 refine⟨by omega,by omega,by omega,by omega,by omega,?_,?_⟩
 ·repeat' refine And.intro ?_ ?_
  all_goals first|omega|exact howN (by simp)|exact dig_cons.2 ⟨by omega,rep_dig⟩|(simp;done)|(simp only[valN,rep_val];omega)
 rintro⟨i,row⟩ ⟨⟨i0,i1⟩,hr,hl,hv⟩
 simp only at i0 i1 hr hl hv ⊢
 refine⟨fun ilt=>?_,fun ige=>?_⟩
 ·obtain⟨k1,k2⟩:=sh_step ha hr hl (show i.toNat<a.length by omega) (show s.toNat≤31 by omega) hv
  have e:(i+1).toNat=i.toNat+1:=by omega
  rw[e]
  repeat' refine And.intro ?_ ?_
  all_goals first|omega|exact howN (by simp)|(simp only[List.length_set];done)|(simp only[List.length_set];omega)|exact k1|exact k2
 ·have hi:i.toNat=a.length:=by omega
  rw[hi,List.take_length] at hv
  have hrow:row=shl a s.toNat:=digK_of hr hl hv
  rw[hrow]
  exact⟨rfl,rfl⟩
theorem h168p:Holds Try.prog r168p:=by
 refine con (L:=[]) r168p F168 Λ168 (OwnOK.none _) (by simp) (by kernel_rfl) (by kernel_rfl) (fun _=>rfl) ?_
 rintro⟨a,s⟩ ⟨ha,hla,s0,s1⟩
 simp only at ha hla s0 s1
 refine vcOf (let z0:=(↑a.length:Int);let z1:=z0+(1:Int);let z2:=SId.i .u32;let z3:=(0:Int)::List.replicate a.length (0:Int);let z4:=(↑a.length:Int);let z5:=SV.si .i64 z4;let z6:=SObj.row z2 z3 110 false;let z7:=a.length+1;let z8:=(2:Int)^s.toNat;inR .i64 z1∧(0:Int)≤z1∧z1≤z1∧z1*(4:Int)≤(140737488355328:Int)∧z1≤(1000000000000:Int)∧((((SV.row z2 a).same (SV.row z2 a)∧(SV.si .u64 s).same (SV.si .u64 s)∧(SV.ow 0 z1.toNat 1).same (SV.ow 0 z3.length 1)∧(SV.si .i64 z0).same z5∧(SV.il .i64 0).same (SV.si .i64 0)∧True)∧z6.same z6∧True)∧((0:Int)≤(0:Int)∧(0:Int)≤z4)∧Dig z3∧z3.length=z7∧valN z3=valN []*z8)∧∀(x:Int×List Int),let z9:=x.snd.length;let z10:=x.fst.toNat;let z11:=x.snd.length;let z12:=x.fst+(1:Int);let z13:=nthD a z10 (0:Int) % (18446744073709551616:Int)*z8 % (18446744073709551616:Int);let z14:=x.snd.set z10 (binK.orI .u32 (nthD x.snd z10 (0:Int)) (z13 % (4294967296:Int)));let z15:=z14.set z12.toNat (z13 / (4294967296:Int) % (4294967296:Int));let z16:=SV.si .i64 z12;let z17:=SObj.row z2 z15 110 false;((0:Int)≤x.fst∧x.fst≤z4)∧Dig x.snd∧z9=z7∧valN x.snd=valN (List.take z10 a)*z8→(decide (x.fst<z4)=true→(0:Int)≤x.fst∧x.fst<z0∧z10<a.length∧(0:Int)≤s∧s≤(64:Int)∧z9=z11∧(0:Int)≤x.fst∧x.fst<(↑z11:Int)∧z9=z11∧z10<z11∧z9=z11∧(0:Int)≤x.fst∧x.fst<(↑z11:Int)∧z9=z11∧z10<z11∧inR .i64 z12∧(0:Int)≤(32:Int)∧(32:Int)≤(64:Int)∧z9=z14.length∧(0:Int)≤z12∧z12<(↑z14.length:Int)∧z9=z14.length∧z12.toNat<z14.length∧inR .i64 z12∧(((SV.row z2 a).same (SV.row z2 a)∧(SV.si .u64 s).same (SV.si .u64 s)∧(SV.ow 0 z9 1).same (SV.ow 0 z15.length 1)∧z5.same z5∧z16.same z16∧True)∧z17.same z17∧True)∧(((0:Int)≤z12∧z12≤z4)∧Dig z15∧z15.length=z7∧valN z15=valN (List.take z12.toNat a)*z8)∧(z4 - z12).toNat<(z4 - x.fst).toNat)∧(decide (x.fst<z4)=false→z9=z11∧(SV.row z2 x.snd).same (SV.row z2 (shl a s.toNat)))) (by kernel_rfl) ?_
 simp only[vcs]
 refine⟨by omega,by omega,by omega,by omega,by omega,?_,?_⟩
 ·repeat' refine And.intro ?_ ?_
  all_goals first|omega|exact howN (by simp)|exact dig_cons.2 ⟨by omega,rep_dig⟩|(simp;done)|(simp only[valN,rep_val];omega)
 rintro⟨i,row⟩ ⟨⟨i0,i1⟩,hr,hl,hv⟩
 simp only at i0 i1 hr hl hv ⊢
 refine⟨fun ilt=>?_,fun ige=>?_⟩
 ·obtain⟨k1,k2⟩:=sh_step ha hr hl (show i.toNat<a.length by omega) (show s.toNat≤31 by omega) hv
  have e:(i+1).toNat=i.toNat+1:=by omega
  rw[e]
  repeat' refine And.intro ?_ ?_
  all_goals first|omega|exact howN (by simp)|(simp only[List.length_set];done)|(simp only[List.length_set];omega)|exact k1|exact k2
 ·have hi:i.toNat=a.length:=by omega
  rw[hi,List.take_length] at hv
  have hrow:row=shl a s.toNat:=digK_of hr hl hv
  rw[hrow]
theorem val_split {U:List Int} {j:Nat} (h:j≤U.length):valN U=valN (U.take j)+4294967296^j*valN (U.drop j):=by
 conv=>lhs;rw[←List.take_append_drop j U]
 rw[val_app,List.length_take,Nat.min_eq_left h]
theorem wth_take {U l:List Int} {j:Nat} (h:j≤U.length):(wth U j l).take j=U.take j:=by
 unfold wth
 rw[List.take_append_of_le_length (by simp;omega),List.take_take,Nat.min_self]
theorem wth_drop {U l:List Int} {j:Nat} (h:j≤U.length):(wth U j l).drop j=l++U.drop (j+l.length):=by
 unfold wth
 rw[List.drop_append,List.drop_of_length_le (by simp;omega),List.length_take,Nat.min_eq_left h,Nat.sub_self]
 simp
theorem dig_wth {U l:List Int} {j:Nat} (hU:Dig U) (hl:Dig l):Dig (wth U j l):=dig_app (dig_take hU _) (dig_app hl (dig_drop hU _))
theorem dv_step {U q v:List Int} {j m:Nat} {A:Int} (hU:Dig U) (hv:Dig v) (hq:Dig q) (hn:2≤v.length) (hlU:U.length=m+1+v.length) (hlq:q.length=m+1) (hj:j≤m) (hV:0<valN v)
  (hz:nthD q j 0=0) (he:valN U+valN v*valN q=A) (hlt:valN (U.drop (j+1))<valN v):
  valN (prt U j (v.length+1))<4294967296*valN v∧
  (Dig (wth U j (digK (v.length+1) (valN (prt U j (v.length+1)) % valN v)))∧(wth U j (digK (v.length+1) (valN (prt U j (v.length+1)) % valN v))).length=U.length)∧
  (0≤valN (prt U j (v.length+1)) / valN v∧valN (prt U j (v.length+1)) / valN v<4294967296)∧
  valN (wth U j (digK (v.length+1) (valN (prt U j (v.length+1)) % valN v)))+valN v*valN (q.set j (valN (prt U j (v.length+1)) / valN v))=A∧
  valN ((wth U j (digK (v.length+1) (valN (prt U j (v.length+1)) % valN v))).drop j)<valN v:=by
 have hVb:=val_bdN hv
 have hd1:=dig_drop hU (j+1)
 have hX0:=val_nonneg (prt_dig hU (j:=j) (k:=v.length+1))
 have hrest:valN (U.drop (j+(v.length+1)))=0:=by
  have h1:valN (U.drop (j+1))=valN ((U.drop (j+1)).take v.length)+4294967296^v.length*valN ((U.drop (j+1)).drop v.length):=val_split (by simp;omega)
  rw[List.drop_drop,show j+1+v.length=j+(v.length+1) by omega] at h1
  have h2:=val_nonneg (dig_take hd1 v.length)
  have h3:=val_nonneg (dig_drop hU (j+(v.length+1)))
  by_cases h:valN (U.drop (j+(v.length+1)))=0
  ·exact h
  ·have:=Int.mul_le_mul_of_nonneg_left (show(1:Int)≤valN (U.drop (j+(v.length+1))) by omega) (Int.le_of_lt (pow_pos v.length))
   rw[Int.mul_one] at this
   omega
 have hdrop:valN (U.drop j)=valN (prt U j (v.length+1)):=by
  have h1:valN (U.drop j)=valN ((U.drop j).take (v.length+1))+4294967296^(v.length+1)*valN ((U.drop j).drop (v.length+1)):=val_split (by simp;omega)
  rw[List.drop_drop,hrest,Int.mul_zero,Int.add_zero] at h1
  exact h1
 have hcons:valN (U.drop j)=nthD U j 0+4294967296*valN (U.drop (j+1)):=by
  rw[drop_nthN (show j<U.length by omega)]
  rfl
 have du:=dig_nth hU j
 have hX:valN (prt U j (v.length+1))<4294967296*valN v:=by rw[←hdrop,hcons];omega
 have hlk:=@digK_len (v.length+1) (valN (prt U j (v.length+1)) % valN v)
 have hm0:=Int.emod_nonneg (valN (prt U j (v.length+1))) (show valN v≠0 by omega)
 have hm1:=Int.emod_lt_of_pos (valN (prt U j (v.length+1))) hV
 have hkv:valN (digK (v.length+1) (valN (prt U j (v.length+1)) % valN v))=valN (prt U j (v.length+1)) % valN v:=by
  refine digK_val hm0 ?_
  rw[Int.pow_succ]
  omega
 have hnd:valN ((wth U j (digK (v.length+1) (valN (prt U j (v.length+1)) % valN v))).drop j)=valN (prt U j (v.length+1)) % valN v:=by
  rw[wth_drop (by omega),val_app,hlk,hrest,hkv,Int.mul_zero,Int.add_zero]
 have hwl:(wth U j (digK (v.length+1) (valN (prt U j (v.length+1)) % valN v))).length=U.length:=wth_len (by rw[hlk];omega)
 have hq0:0≤valN (prt U j (v.length+1)) / valN v:=Int.ediv_nonneg hX0 (by omega)
 refine⟨hX,⟨dig_wth hU digK_dig,hwl⟩,⟨hq0,Int.ediv_lt_of_lt_mul hV hX⟩,?_,by rw[hnd];exact hm1⟩
 rw[val_split (U:=wth U j _) (j:=j) (by rw[hwl];omega),wth_take (by omega),hnd,val_set (by omega),hz,Int.sub_zero]
 rw[val_split (U:=U) (j:=j) (by omega),hdrop] at he
 have hdm:=Int.mul_ediv_add_emod (valN (prt U j (v.length+1))) (valN v)
 generalize valN (prt U j (v.length+1)) / valN v=d at*
 generalize valN (prt U j (v.length+1)) % valN v=r at*
 rw[←hdm] at he
 rw[Int.mul_add,Int.mul_left_comm (valN v) (4294967296^j)]
 rw[Int.mul_add] at he
 omega
theorem dv_start {a b:List Int} {s:Nat} (ha:Dig a) (hb:Dig b) (hs:s≤31) (hlen:b.length≤a.length) (hb1:1≤b.length) (htop:1≤nthD b (b.length - 1) 0):
  Dig (shl a s)∧(shl a s).length=a.length+1∧valN (shl a s)=valN a*2^s∧valN ((shl a s).drop (a.length - b.length+1))<valN b*2^s:=by
 have hk:(0:Int)<2^s:=Int.pow_pos (by decide)
 have hk2:(2:Int)^s≤2147483648:=by
  have h1:(2:Nat)^s≤2^31:=Nat.pow_le_pow_right (by decide) hs
  have h2:(2:Nat)^31=2147483648:=by decide
  rw[h2] at h1
  have h3:(2:Int)^s=((2^s:Nat):Int):=by push_cast;rfl
  rw[h3]
  omega
 have hv0:=val_nonneg ha
 have hbd:=val_bdN ha
 have hA:valN a*2^s<4294967296^a.length*2^s:=Int.mul_lt_mul_of_pos_right hbd hk
 have hval:valN (shl a s)=valN a*2^s:=by
  unfold shl
  refine digK_val (Int.mul_nonneg hv0 (Int.le_of_lt hk)) (Int.lt_of_lt_of_le hA ?_)
  rw[Int.pow_succ]
  exact Int.mul_le_mul_of_nonneg_left (by omega) (Int.le_of_lt (pow_pos _))
 have hd:Dig (shl a s):=digK_dig
 have hl:(shl a s).length=a.length+1:=digK_len
 refine⟨hd,hl,hval,?_⟩
 have h1:=val_split (U:=shl a s) (j:=a.length - b.length+1) (by omega)
 have h2:=val_nonneg (dig_take hd (a.length - b.length+1))
 have h3:4294967296^(b.length - 1)*nthD b (b.length - 1) 0≤valN b:=nth_le hb
 have h4:(4294967296:Int)^(b.length - 1)≤valN b:=by
  have:=Int.mul_le_mul_of_nonneg_left htop (Int.le_of_lt (pow_pos (b.length - 1)))
  rw[Int.mul_one] at this
  omega
 have h5:(4294967296:Int)^a.length=4294967296^(a.length - b.length+1)*4294967296^(b.length - 1):=by
  rw[←Int.pow_add]
  congr 1
  omega
 rw[hval] at h1
 have h6:(4294967296:Int)^(a.length - b.length+1)*valN ((shl a s).drop (a.length - b.length+1))<4294967296^(a.length - b.length+1)*(4294967296^(b.length - 1)*2^s):=by
  rw[←Int.mul_assoc,←h5]
  omega
 have h7:=Int.lt_of_mul_lt_mul_left h6 (Int.le_of_lt (pow_pos _))
 exact Int.lt_of_lt_of_le h7 (Int.mul_le_mul_of_nonneg_right h4 (Int.le_of_lt hk))
theorem rs_digit {x y:Int} {s:Nat} (x0:0≤x) (x1:x<4294967296) (y0:0≤y) (y1:y<4294967296) (hs0:0<s) (hs:s≤31):
  ∃r,binK.orI .u32 (x / 2^s) (y*2^(32 - s) % 4294967296)=r∧(0≤r∧r<4294967296)∧2^s*r=x - x % 2^s+4294967296*(y % 2^s):=by
 have hk:(0:Int)<2^s:=Int.pow_pos (by decide)
 have hq:(0:Int)<2^(32 - s):=Int.pow_pos (by decide)
 have hB:(4294967296:Int)=2^s*2^(32 - s):=by
  rw[←Int.pow_add,show s+(32 - s)=32 by omega]
  decide
 have e1:y*2^(32 - s) % 4294967296=(y % 2^s)*2^(32 - s):=by
  conv=>lhs;rw[hB]
  rw[Int.mul_comm y,Int.mul_comm (2^s),Int.mul_emod_mul_of_pos _ _ hq,Int.mul_comm]
 have m0:=Int.emod_nonneg y (show(2:Int)^s≠0 by omega)
 have m1:=Int.emod_lt_of_pos y hk
 have d0:0≤x / 2^s:=Int.ediv_nonneg x0 (Int.le_of_lt hk)
 have d1:x / 2^s<2^(32 - s):=Int.ediv_lt_of_lt_mul hk (by rw[Int.mul_comm,←hB];exact x1)
 have hm2:(y % 2^s)*2^(32 - s)+2^(32 - s)≤4294967296:=by
  have:=Int.mul_le_mul_of_nonneg_right (show y % 2^s+1≤2^s by omega) (Int.le_of_lt hq)
  rw[←hB,Int.add_mul,Int.one_mul] at this
  exact this
 have hmn:0≤(y % 2^s)*2^(32 - s):=Int.mul_nonneg m0 (Int.le_of_lt hq)
 have hor:=or_add32 (k:=32 - s) d0 d1 m0 (by omega) (by omega)
 refine⟨x / 2^s+(y % 2^s)*2^(32 - s),by rw[e1,hor],⟨by omega,by omega⟩,?_⟩
 have hxd:=Int.mul_ediv_add_emod x (2^s)
 rw[Int.mul_add,Int.mul_left_comm,←hB,Int.mul_comm (y % 2^s)]
 omega
theorem rs_step {U r:List Int} {i s:Nat} {d:Int} (hU:Dig U) (hr:Dig r) (hi:i<r.length) (hz:∀j,i≤j→nthD r j 0=0) (hd0:0≤d∧d<4294967296)
  (hd:2^s*d=nthD U i 0 - nthD U i 0 % 2^s+4294967296*(nthD U (i+1) 0 % 2^s))
  (he:2^s*valN r=valN (U.take i) - nthD U 0 0 % 2^s+4294967296^i*(nthD U i 0 % 2^s)):
  Dig (r.set i d)∧(r.set i d).length=r.length∧(∀j,i+1≤j→nthD (r.set i d) j 0=0)∧
  2^s*valN (r.set i d)=valN (U.take (i+1)) - nthD U 0 0 % 2^s+4294967296^(i+1)*(nthD U (i+1) 0 % 2^s):=by
 refine⟨dig_set hr hd0.1 hd0.2,by simp,fun j hj=>by rw[nth_set_ne (by omega)];exact hz j (by omega),?_⟩
 rw[val_set hi,hz i (Nat.le_refl _),Int.sub_zero,Int.mul_add,he,take_snoc0,Int.pow_succ,Int.mul_left_comm,hd]
 generalize (4294967296:Int)^i=B at*
 simp only[Int.mul_add,Int.mul_sub,Int.mul_assoc]
 omega
theorem rs_fin {U r v q:List Int} {n s:Nat} {a b:Int} (hU:Dig U) (hr:Dig r) (hv:Dig v) (hvn:v.length=n) (hlt:valN U<valN v) (hb:valN v=b*2^s) (hb0:0<b) (he:valN U+valN v*valN q=a*2^s)
  (hs:s≤31) (hln:n+1≤U.length)
  (hfin:2^s*valN r=valN (U.take n) - nthD U 0 0 % 2^s+4294967296^n*(nthD U n 0 % 2^s)):valN q=a / b∧valN r=a % b:=by
 have hk:(0:Int)<2^s:=Int.pow_pos (by decide)
 have hVb:=val_bdN hv
 rw[hvn] at hVb
 have hun:nthD U n 0=0:=nth_small hU (i:=n) (by omega) (Nat.le_refl _)
 have hut:valN (U.take n)=valN U:=by
  have h1:=val_split (U:=U) (j:=n) (by omega)
  have h2:=val_nonneg (dig_take hU n)
  have h3:=val_nonneg (dig_drop hU n)
  by_cases h:valN (U.drop n)=0
  ·rw[h,Int.mul_zero] at h1;omega
  ·have:=Int.mul_le_mul_of_nonneg_left (show(1:Int)≤valN (U.drop n) by omega) (Int.le_of_lt (pow_pos n))
   rw[Int.mul_one] at this
   omega
 have hUm:valN U=2^s*(a - b*valN q):=by
  rw[Int.mul_sub,Int.mul_comm (2^s) a,←he,hb,Int.mul_comm (2^s) (b*valN q),Int.mul_assoc b,Int.mul_assoc b,Int.mul_comm (2^s)]
  omega
 have hu0:nthD U 0 0 % 2^s=0:=by
  have h1:=@take_snoc0 U 0
  have h2:=val_split (U:=U) (j:=1) (by omega)
  have hB:(4294967296:Int)=2^s*2^(32 - s):=by
   rw[←Int.pow_add,show s+(32 - s)=32 by omega]
   decide
  simp only[Nat.zero_add,List.take_zero,valN,Int.pow_zero,Int.one_mul,Int.zero_add] at h1
  rw[h1,Int.pow_succ,Int.pow_zero,Int.one_mul] at h2
  have h3:nthD U 0 0=2^s*(a - b*valN q - 2^(32 - s)*valN (U.drop 1)):=by
   rw[Int.mul_sub,←hUm,←Int.mul_assoc,←hB]
   omega
  rw[h3]
  exact Int.mul_emod_right _ _
 rw[hun,hu0,hut,Int.zero_emod,Int.mul_zero,Int.sub_zero,Int.add_zero,hUm] at hfin
 have hr2:valN r=a - b*valN q:=Int.eq_of_mul_eq_mul_left (by omega) hfin
 have hr0:=val_nonneg hr
 have hrb:valN r<b:=by
  have:2^s*valN r<2^s*b:=by
   rw[hfin,←hUm,Int.mul_comm (2^s) b,←hb]
   exact hlt
  exact Int.lt_of_mul_lt_mul_left this (Int.le_of_lt hk)
 obtain⟨w1,w2⟩:=qr_of (X:=a) (V:=b) (q:=valN q) (by rw[Int.mul_comm];omega) (by rw[Int.add_mul,Int.one_mul,Int.mul_comm];omega)
 exact⟨w1.symm,by rw[w2,hr2,Int.mul_comm]⟩
theorem nrm_ge:∀{w:List Int},Dig w→Nrm w→w≠[]→4294967296^(w.length - 1)≤valN w
 |[],_,_,h=>absurd rfl h
 |[d],hd,hn,_=>by
  have h1:=(dig_cons.1 hd).1
  have h2:=hn.1 rfl
  simp[valN]
  omega
 |d::e::l,hd,hn,_=>by
  obtain⟨h1,h2⟩:=dig_cons.1 hd
  have ih:=nrm_ge h2 hn.2 (by simp)
  have hv:valN (d::e::l)=d+4294967296*valN (e::l):=rfl
  simp only[List.length_cons,Nat.add_sub_cancel] at ih ⊢
  rw[hv,Int.pow_succ]
  omega
theorem pow_mono {a b:Nat} (h:a≤b):(4294967296:Int)^a≤4294967296^b:=by
 obtain⟨m,rfl⟩:=Nat.exists_eq_add_of_le h
 rw[Int.pow_add]
 have q1:=pow_pos a
 have q2:=pow_pos m
 have:=Int.mul_le_mul_of_nonneg_left (show(1:Int)≤4294967296^m by omega) (Int.le_of_lt q1)
 rwa [Int.mul_one] at this
theorem sh_trim {t:List Int} {s:Nat} (ht:Dig t) (h1:1≤t.length) (hs:s≤31) (hlt:nthD t (t.length - 1) 0*2^s<4294967296) (hge:2147483648≤nthD t (t.length - 1) 0*2^s):
  Dig (trimN (shl t s))∧(trimN (shl t s)).length=t.length∧valN (trimN (shl t s))=valN t*2^s∧2147483648≤nthD (trimN (shl t s)) (t.length - 1) 0∧1≤nthD t (t.length - 1) 0:=by
 have hk:(0:Int)<2^s:=Int.pow_pos (by decide)
 have hx:=dig_nth ht (t.length - 1)
 have htop:1≤nthD t (t.length - 1) 0:=by
  by_cases h:1≤nthD t (t.length - 1) 0
  ·exact h
  ·have:nthD t (t.length - 1) 0=0:=by omega
   rw[this,Int.zero_mul] at hge
   omega
 obtain⟨d1,d2,d3,_⟩:=dv_start ht ht hs (Nat.le_refl _) h1 htop
 obtain⟨v1,v2⟩:=@trim_val (shl t s)
 have dw:=trim_dig d1
 rw[d3] at v1
 generalize trimN (shl t s)=w at*
 obtain⟨n,hn⟩:∃n,t.length=n+1:=⟨t.length - 1,by omega⟩
 rw[hn] at hlt hge htop hx ⊢
 simp only[Nat.add_sub_cancel] at hlt hge htop hx ⊢
 have hP:=pow_pos n
 have hts:valN t=valN (t.take n)+4294967296^n*nthD t n 0:=by
  have:=@take_snoc0 t n
  rwa [←hn,List.take_length] at this
 have hr0:=val_nonneg (dig_take ht n)
 have hr1:=val_bdN (dig_take ht n)
 rw[List.length_take,Nat.min_eq_left (by omega)] at hr1
 have hB:(4294967296:Int)=2^(32 - s)*2^s:=by
  rw[←Int.pow_add,show 32 - s+s=32 by omega]
  decide
 have hq:(0:Int)<2^(32 - s):=Int.pow_pos (by decide)
 have ht1:nthD t n 0<2^(32 - s):=by
  rw[hB] at hlt
  exact Int.lt_of_mul_lt_mul_right hlt (Int.le_of_lt hk)
 have ht2:(nthD t n 0+1)*2^s≤4294967296:=by
  have:=Int.mul_le_mul_of_nonneg_right (show nthD t n 0+1≤2^(32 - s) by omega) (Int.le_of_lt hk)
  rwa [←hB] at this
 have hup:valN w<4294967296^(n+1):=by
  rw[v1,Int.pow_succ]
  have g1:valN t<4294967296^n*(nthD t n 0+1):=by rw[Int.mul_add,Int.mul_one];omega
  have g2:=Int.mul_lt_mul_of_pos_right g1 hk
  have g3:=Int.mul_le_mul_of_nonneg_left ht2 (Int.le_of_lt hP)
  rw[←Int.mul_assoc] at g3
  omega
 have hlo:4294967296^n*(nthD t n 0*2^s)≤valN w:=by
  rw[v1,←Int.mul_assoc]
  exact Int.mul_le_mul_of_nonneg_right (by omega) (Int.le_of_lt hk)
 have hlo2:(4294967296:Int)^n≤valN w:=by
  have:=Int.mul_le_mul_of_nonneg_left (show(1:Int)≤nthD t n 0*2^s by omega) (Int.le_of_lt hP)
  rw[Int.mul_one] at this
  omega
 have hlen:w.length=n+1:=by
  have a1:n<w.length:=by
   by_cases h:n<w.length
   ·exact h
   ·have:=val_bdN dw
    have:=pow_mono (show w.length≤n by omega)
    omega
  by_cases h:w.length=n+1
  ·exact h
  ·have hne:w≠[]:=by rintro rfl;simp at a1
   have:=nrm_ge dw v2 hne
   have:=pow_mono (show n+1≤w.length - 1 by omega)
   omega
 refine⟨dw,hlen,v1,?_,htop⟩
 have hws:valN w=valN (w.take n)+4294967296^n*nthD w n 0:=by
  have:=@take_snoc0 w n
  rwa [←hlen,List.take_length] at this
 have hw1:=val_bdN (dig_take dw n)
 rw[List.length_take,Nat.min_eq_left (by omega)] at hw1
 have g:4294967296^n*(nthD t n 0*2^s)<4294967296^n*(nthD w n 0+1):=by rw[Int.mul_add,Int.mul_one];omega
 have:=Int.lt_of_mul_lt_mul_left g (Int.le_of_lt hP)
 omega
@[reducible] def sF:SId:=.pair .b (.pair (.lst (.i .u32)) (.lst (.i .u32)))
abbrev Fra:=Bool×(List Int×List Int)
def frE (q:Rat):Fra:=(decide (q<0),(natL (q.num.natAbs:Int),natL (q.den:Int)))
def valF (x:Fra):Rat:=mkRat (if x.1 then -valN x.2.1 else valN x.2.1) (valN x.2.2).toNat
def Sz (k:Nat) (q:Rat):Prop:=(q.num.natAbs:Int)<4294967296^k∧(q.den:Int)<4294967296^k
theorem natL_len {n:Int} {k:Nat} (h0:0≤n) (h:n<4294967296^k):(natL n).length≤k:=by
 obtain⟨h1,h2,h3⟩:=natL_ok h0
 by_cases hl:(natL n).length≤k
 ·exact hl
 ·have hne:natL n≠[]:=by rintro he;rw[he] at hl;simp at hl
  have:=nrm_ge h2 h3 hne
  have:=pow_mono (show k≤(natL n).length - 1 by omega)
  omega
theorem valF_frE (q:Rat):valF (frE q)=q:=by
 unfold valF frE
 have h1:=(natL_ok (show(0:Int)≤(q.num.natAbs:Int) by omega)).1
 have h2:=(natL_ok (show(0:Int)≤(q.den:Int) by omega)).1
 simp only[h1,h2,decide_eq_true_eq,Int.toNat_natCast]
 have h3:(if q<0 then -(q.num.natAbs:Int) else(q.num.natAbs:Int))=q.num:=by
  have:=@Rat.num_nonneg q
  split
  ·rename_i h
   have:¬0≤q.num:=fun h2=>by
    have:=this.1 h2
    exact absurd h (Rat.not_lt.2 this)
   omega
  ·rename_i h
   have:=this.2 (Rat.not_lt.1 h)
   omega
 rw[h3]
 exact Rat.mkRat_self q
theorem mk_num {N:Int} {D:Nat} (hD:D≠0):(mkRat N D).num.natAbs=N.natAbs / N.natAbs.gcd D∧(mkRat N D).den=D / N.natAbs.gcd D:=by
 rw[←Rat.normalize_eq_mkRat hD,Rat.normalize_eq hD]
 simp only
 refine⟨?_,trivial⟩
 have hg:0<N.natAbs.gcd D:=Nat.gcd_pos_of_pos_right _ (by omega)
 have hd:((N.natAbs.gcd D:Nat):Int)∣N:=Int.ofNat_dvd_left.2 (Nat.gcd_dvd_left _ _)
 generalize N.natAbs.gcd D=g at*
 obtain⟨m,rfl⟩:=hd
 rw[Int.mul_ediv_cancel_left _ (by omega),Int.natAbs_mul,Int.natAbs_natCast,Nat.mul_div_cancel_left _ hg]
theorem mk_neg {N:Int} {D:Nat} (hD:D≠0):mkRat N D<0↔N<0:=by
 have h1:(0:Rat)=mkRat 0 D:=(Rat.zero_mkRat D).symm
 have h2:mkRat N D<0↔¬0≤mkRat N D:=Rat.not_le.symm
 rw[h2,←Rat.num_nonneg]
 have h3:=Rat.num_divInt_den (mkRat N D)
 have h4:(mkRat N D).num*(D:Int)=N*((mkRat N D).den:Int):=by
  have:=(Rat.mkRat_eq_iff (n₁:=(mkRat N D).num) (d₁:=(mkRat N D).den) (n₂:=N) (d₂:=D) (mkRat N D).den_nz hD).1 (Rat.mkRat_self _)
  exact this
 have hd:(0:Int)<((mkRat N D).den:Int):=by have:=(mkRat N D).den_pos;omega
 have hD2:(0:Int)<(D:Int):=by omega
 constructor
 ·intro h
  by_cases hN:N<0
  ·exact hN
  ·exfalso
   apply h
   have:0≤(mkRat N D).num*(D:Int):=by rw[h4];exact Int.mul_nonneg (by omega) (by omega)
   exact Int.nonneg_of_mul_nonneg_left this hD2
 ·intro hN h
  have:0≤(mkRat N D).num*(D:Int):=Int.mul_nonneg h (by omega)
  rw[h4] at this
  have:=Int.mul_neg_of_neg_of_pos hN hd
  omega
theorem frE_mk {s:Bool} {n d:Int} (n0:0≤n) (d0:0<d):frE (mkRat (if s then -n else n) d.toNat)=(s&&decide (0<n),(natL (n / gcdN n d),natL (d / gcdN n d))):=by
 have hD:d.toNat≠0:=by omega
 obtain⟨h1,h2⟩:=mk_num (N:=if s then -n else n) hD
 have hab:(if s then -n else n).natAbs=n.toNat:=by split<;>omega
 unfold frE
 rw[h1,h2,hab]
 have hg:gcdN n d=((n.toNat.gcd d.toNat:Nat):Int):=rfl
 refine Prod.ext ?_ (Prod.ext ?_ ?_)
 ·simp only
  rw[Bool.eq_iff_iff]
  simp only[decide_eq_true_eq,Bool.and_eq_true]
  rw[mk_neg hD]
  cases s<;>simp<;>omega
 ·simp only
  rw[hg]
  congr 1
  rw[Int.natCast_ediv]
  congr 1
  omega
 ·simp only
  rw[hg]
  congr 1
  rw[Int.natCast_ediv]
  congr 1
  omega
theorem sz_mk {N:Int} {D:Nat} {k:Nat} (hD:D≠0) (h1:(N.natAbs:Int)<4294967296^k) (h2:(D:Int)<4294967296^k):Sz k (mkRat N D):=by
 obtain⟨e1,e2⟩:=mk_num (N:=N) hD
 unfold Sz
 rw[e1,e2]
 have a1:=Nat.div_le_self N.natAbs (N.natAbs.gcd D)
 have a2:=Nat.div_le_self D (N.natAbs.gcd D)
 exact⟨by omega,by omega⟩
theorem Sz.mono {j k:Nat} {q:Rat} (h:Sz j q) (hk:j≤k):Sz k q:=by
 have:=pow_mono hk
 exact⟨by have:=h.1;omega,by have:=h.2;omega⟩
theorem add_mk (p q:Rat):p+q=mkRat (p.num*q.den+q.num*p.den) (p.den*q.den):=by
 rw[Rat.add_def,Rat.normalize_eq_mkRat]
theorem sz_add {p q:Rat} {i j:Nat} (hp:Sz i p) (hq:Sz j q):Sz (i+j+1) (p+q):=by
 rw[add_mk]
 have d1:=p.den_pos
 have d2:=q.den_pos
 have hD:p.den*q.den≠0:=Nat.ne_of_gt (Nat.mul_pos d1 d2)
 have m:∀{a b:Int} {i j:Nat},0≤a→0≤b→a<4294967296^i→b<4294967296^j→a*b<4294967296^(i+j):=by
  intro a b i j a0 b0 h1 h2
  rw[Int.pow_add]
  exact Int.lt_of_le_of_lt (Int.mul_le_mul_of_nonneg_left (Int.le_of_lt h2) a0) (Int.mul_lt_mul_of_pos_right h1 (pow_pos _))
 have h1:=m (by omega) (by omega) hp.1 hq.2
 have h2:=m (by omega) (by omega) hq.1 hp.2
 have h3:=m (by omega) (by omega) hp.2 hq.2
 rw[Nat.add_comm j i] at h2
 have hP:=pow_pos (i+j)
 refine sz_mk hD ?_ ?_
 ·have a1:(p.num*(q.den:Int)).natAbs=p.num.natAbs*q.den:=by rw[Int.natAbs_mul,Int.natAbs_natCast]
  have a2:(q.num*(p.den:Int)).natAbs=q.num.natAbs*p.den:=by rw[Int.natAbs_mul,Int.natAbs_natCast]
  have a3:=Int.natAbs_add_le (p.num*(q.den:Int)) (q.num*(p.den:Int))
  rw[a1,a2] at a3
  have a4:((p.num.natAbs*q.den+q.num.natAbs*p.den:Nat):Int)=(p.num.natAbs:Int)*q.den+(q.num.natAbs:Int)*p.den:=by push_cast;rfl
  rw[Int.pow_succ]
  omega
 ·have a4:((p.den*q.den:Nat):Int)=(p.den:Int)*q.den:=by push_cast;rfl
  rw[a4,Int.pow_succ]
  omega
theorem sz_neg {p:Rat} {i:Nat} (hp:Sz i p):Sz i (-p):=by
 unfold Sz at hp ⊢
 rw[Rat.neg_num,Rat.neg_den,Int.natAbs_neg]
 exact hp
def r128:SCtr:=⟨42,Int,.one (codI .u64),fun x=>0≤(show Int from x)∧(show Int from x)<18446744073709551616,fun x=> .row (.i .u32) (natL x)⟩
theorem h128:Holds Try.prog r128:=by
 refine con (L:=[r152]) r128 F128 (fun _ _=> .look) (OwnOK.none _) (by simpa using h152) (by kernel_rfl) (by kernel_rfl) (fun _=>rfl) ?_
 intro(x:Int) h
 obtain⟨h0,h1⟩:0≤x∧x<18446744073709551616:=h
 refine vcOf ((0:Int)≤(32:Int)∧(32:Int)≤(64:Int)∧2≤1000000000000∧(SV.row (SId.i .u32) (trimN [x % (4294967296:Int),x / (4294967296:Int) % (4294967296:Int)])).same (SV.row (SId.i .u32) (natL x))) (by kernel_rfl) ?_
 simp only[vcs]
 refine⟨by omega,by omega,by omega,?_⟩
 have hd:Dig [x % 4294967296,x / 4294967296 % 4294967296]:=by
  rw[dig_cons,dig_cons]
  exact⟨by omega,by omega,by simp[Dig]⟩
 rw[trim_eq hd]
 congr 1
 simp only[valN]
 omega
def QD:List SCtr:=[r152,r132,r154,r167,r128,r168p]
theorem hQD:∀c∈QD,Holds Try.prog c:=by
 simp only[QD,List.forall_mem_cons,List.not_mem_nil,false_implies,implies_true,and_true]
 exact⟨h152,h132,h154,h167,h128,h168p⟩
def WD:List OCtr:=[r168,r169]
theorem hWD:∀c∈WD,HoldsO Try.prog c:=by
 simp only[WD,List.forall_mem_cons,List.not_mem_nil,false_implies,implies_true,and_true]
 exact⟨h168,h169⟩
def r166g:SCtr:=⟨77,List Int×List Int,.cons (codR (.i .u32)) (.one (codR (.i .u32))),fun a=>(Dig a.1∧Dig a.2)∧(a.1.length≤10000000000∧a.2.length≤10000000000)∧0<valN a.2,
 fun a=> .tup [.row (.i .u32) (natL (valN a.1 / valN a.2)),.row (.i .u32) (natL (valN a.1 % valN a.2)),.si .i64 0]⟩
def dvS (a:List Int×List Int) (s:Int):Prop:=(0≤s∧s≤31)∧nthD (trimN a.2) ((trimN a.2).length - 1) 0*2^s.toNat<4294967296∧2147483648≤nthD (trimN a.2) ((trimN a.2).length - 1) 0*2^s.toNat
def Λ166 (a:List Int×List Int):Nat→LoopAnn
 |10=> .inv Int (fun s=>⟨[(0,.row (.i .u32) (trimN a.1)),(1,.row (.i .u32) (trimN a.2)),(9,.si .u64 s)],[]⟩) (fun s=>iS s 9)
  (fun s=>(0≤s∧s≤31)∧nthD (trimN a.2) ((trimN a.2).length - 1) 0*2^s.toNat<4294967296) (fun s=>(32 - s).toNat) fun _ _=> .look
 |17=> .inv (Int×Int×List Int×List Int) (fun x=>⟨[(4,.ow 1 x.2.2.2.length 1),(9,.si .u64 x.2.1),(10,.ow 0 x.2.2.1.length 1),(11,.row (.i .u32) (trimN (shl (trimN a.2) x.2.1.toNat))),(12,.si .i64 (trimN (shl (trimN a.2) x.2.1.toNat)).length),
   (13,.si .i64 ((trimN a.1).length - (trimN a.2).length)),(74,.si .i64 ((trimN a.1).length - (trimN a.2).length+1)),(75,.si .i64 x.1)],[.row (.i .u32) x.2.2.1 110 false,.row (.i .u32) x.2.2.2 110 true]⟩)
  (fun s=>(iS s 75,iS s 9,oS (.i .u32) s 0,oS (.i .u32) s 1))
  (fun x=>(0≤x.1∧x.1≤(trimN a.1).length - (trimN a.2).length+1)∧dvS a x.2.1∧(Dig x.2.2.1∧x.2.2.1.length=(trimN a.1).length+1)∧(Dig x.2.2.2∧x.2.2.2.length=(trimN a.1).length - (trimN a.2).length+1)∧
   (∀j:Nat,(j:Int)<(trimN a.1).length - (trimN a.2).length+1 - x.1→nthD x.2.2.2 j 0=0)∧
   valN x.2.2.1+valN (trimN (shl (trimN a.2) x.2.1.toNat))*valN x.2.2.2=valN (trimN a.1)*2^x.2.1.toNat∧
   valN (x.2.2.1.drop (((trimN a.1).length - (trimN a.2).length+1 - x.1:Int).toNat))<valN (trimN (shl (trimN a.2) x.2.1.toNat)))
  (fun x=>((trimN a.1).length - (trimN a.2).length+1 - x.1:Int).toNat) fun _ _=> .look
 |24=> .inv (Int×Int×List Int×List Int×List Int) (fun x=>⟨[(4,.ow 1 x.2.2.2.1.length 1),(5,.ow 2 x.2.2.2.2.length 1),(9,.si .u64 x.2.1),(10,.ow 0 x.2.2.1.length 1),(100,.si .i64 (trimN (shl (trimN a.2) x.2.1.toNat)).length),(101,.si .i64 x.1)],
   [.row (.i .u32) x.2.2.1 110 false,.row (.i .u32) x.2.2.2.1 110 true,.row (.i .u32) x.2.2.2.2 110 true]⟩)
  (fun s=>(iS s 101,iS s 9,oS (.i .u32) s 0,oS (.i .u32) s 1,oS (.i .u32) s 2))
  (fun x=>(0≤x.1∧x.1≤(trimN (shl (trimN a.2) x.2.1.toNat)).length)∧dvS a x.2.1∧(Dig x.2.2.1∧x.2.2.1.length=(trimN a.1).length+1)∧(Dig x.2.2.2.1∧x.2.2.2.1.length=(trimN a.1).length - (trimN a.2).length+1)∧
   valN x.2.2.1+valN (trimN (shl (trimN a.2) x.2.1.toNat))*valN x.2.2.2.1=valN (trimN a.1)*2^x.2.1.toNat∧valN x.2.2.1<valN (trimN (shl (trimN a.2) x.2.1.toNat))∧
   (Dig x.2.2.2.2∧x.2.2.2.2.length=(trimN (shl (trimN a.2) x.2.1.toNat)).length)∧(∀j,x.1.toNat≤j→nthD x.2.2.2.2 j 0=0)∧
   2^x.2.1.toNat*valN x.2.2.2.2=valN (x.2.2.1.take x.1.toNat) - nthD x.2.2.1 0 0 % 2^x.2.1.toNat+4294967296^x.1.toNat*(nthD x.2.2.1 x.1.toNat 0 % 2^x.2.1.toNat))
  (fun x=>((trimN (shl (trimN a.2) x.2.1.toNat)).length - x.1).toNat) fun _ _=> .look
 |_=> .look
theorem h166g:Holds Try.prog r166g:=by
 refine con (L:=QD) (W:=ownT WD) r166g F166 Λ166 (ownT_ok hWD) hQD (by kernel_rfl) (by kernel_rfl) (fun _=>rfl) ?_
 rintro⟨a,b⟩ ⟨⟨ha,hb⟩,⟨hla,hlb⟩,b0⟩
 simp only at ha hb hla hlb b0
 refine vcOf (let z0:=(trimN b).length;let z1:=(↑z0:Int);let z2:=decide (z1=(0:Int));let z3:=SV.row (SId.i .i64) [];let z4:=SId.i .u32;let z5:=SV.si .i64 0;let z6:=SV.tup [SV.row z4 (natL (valN a / valN b)),SV.row z4 (natL (valN a % valN b)),z5];let z7:=(trimN a).length;let z8:=(trimN b).length;let z9:=valN (trimN a);let z10:=decide (cmpN z9 (valN (trimN b))<(0:Int));let z11:=SV.il .i64 0;let z12:=decide (z1=(1:Int));let z13:=nthD (trimN b) 0 (0:Int);let z14:=z9 % z13 % (18446744073709551616:Int);let z15:=nthD (trimN b) (z8 - 1) (0:Int);let z16:=z1 - (1:Int);let z17:=(↑(trimN a).length:Int) - z1;let z18:=z17+(1:Int);let z19:=List.replicate z18.toNat (0:Int);let z20:=(↑z7:Int) - (↑z8:Int);let z21:=SV.si .i64 z20;let z22:=z20+(1:Int);let z23:=SV.si .i64 z22;let z24:=SObj.row z4 z19 110 true;let z25:=z7+1;let z26:=z7 - z8+1;a.length≤1000000000000∧b.length≤1000000000000∧(z2=true→(SV.tup [z3,z3,SV.il .i64 8]).same z6)∧(z2=false→((Dig (trimN a)∧Dig (trimN b))∧z7≤1000000000000∧z8≤1000000000000)∧(z10=true→((Dig (trimN a)∧Dig [])∧z7≤100000000000∧0≤100000000000)∧(SV.tup [z3,SV.row z4 (natL (z9+valN [])),z11]).same z6)∧(z10=false→(z12=true→(0:Int)≤(0:Int)∧(0:Int)<z1∧0<z0∧(Dig (trimN a)∧z7≤100000000000∧(0:Int)<z13∧z13<(4294967296:Int))∧((0:Int)≤z14∧z14<(18446744073709551616:Int))∧(SV.tup [SV.row z4 (natL (z9 / z13)),SV.row z4 (natL z14),z11]).same z6)∧(z12=false→((((SV.row z4 (trimN a)).same (SV.row z4 (trimN a))∧(SV.row z4 (trimN b)).same (SV.row z4 (trimN b))∧(SV.il .u64 0).same (SV.si .u64 0)∧True)∧True)∧((0:Int)≤(0:Int)∧(0:Int)≤(31:Int))∧z15*(1:Int)<(4294967296:Int))∧∀(x:Int),let z27:=(2:Int)^x.toNat;let z28:=decide (nthD (trimN b) z16.toNat (0:Int)*z27 % (4294967296:Int)<(2147483648:Int));let z29:=(x+(1:Int)) % (18446744073709551616:Int);let z30:=SV.si .u64 z29;let z31:=shl (trimN b) x.toNat;let z32:=shl (trimN a) x.toNat;let z33:=SV.ow 0 z32.length 1;let z34:=trimN z31;let z35:=SObj.row z4 z32 110 false;((0:Int)≤x∧x≤(31:Int))∧z15*z27<(4294967296:Int)→inR .i64 z16∧(0:Int)≤z16∧z16<z1∧z16.toNat<z0∧(0:Int)≤x∧x≤(32:Int)∧(z28=true→(((SV.row z4 (trimN a)).same (SV.row z4 (trimN a))∧(SV.row z4 (trimN b)).same (SV.row z4 (trimN b))∧z30.same z30∧True)∧True)∧(((0:Int)≤z29∧z29≤(31:Int))∧z15*(2:Int)^z29.toNat<(4294967296:Int))∧((32:Int) - z29).toNat<((32:Int) - x).toNat)∧(z28=false→shD (trimN a,x)∧shD (trimN b,x)∧z31.length≤1000000000000∧inR .i64 z17∧inR .i64 z18∧(0:Int)≤z18∧z18≤z18∧z18*(4:Int)≤(140737488355328:Int)∧z18≤(1000000000000:Int)∧inR .i64 z18∧((((SV.ow 1 z18.toNat 1).same (SV.ow 1 z19.length 1)∧(SV.si .u64 x).same (SV.si .u64 x)∧z33.same z33∧(SV.row z4 z34).same (SV.row z4 z34)∧(SV.si .i64 (↑z34.length:Int)).same (SV.si .i64 (↑z34.length:Int))∧(SV.si .i64 z17).same z21∧(SV.si .i64 z18).same z23∧z11.same z5∧True)∧z35.same z35∧z24.same z24∧True)∧((0:Int)≤(0:Int)∧(0:Int)≤z22)∧dvS (a,b) x∧(Dig z32∧z32.length=z25)∧(Dig z19∧z19.length=z26)∧(∀(j:Nat),(↑j:Int)<z22 - (0:Int)→nthD z19 j (0:Int)=(0:Int))∧valN z32+valN z34*valN z19=z9*z27∧valN (List.drop (z22 - (0:Int)).toNat z32)<valN z34)∧∀(x:Int×Int×List Int×List Int),let z36:=x.snd.snd.fst;let z37:=z36.length;let z38:=x.snd.snd.snd;let z39:=trimN (shl (trimN b) x.snd.fst.toNat);let z40:=valN z39;let z41:=(2:Int)^x.snd.fst.toNat;let z42:=decide (x.fst<z22);let z43:=z20 - x.fst;let z44:=(↑z39.length:Int);let z45:=z43+z44+(1:Int);let z46:=z43.toNat;let z47:=z45.toNat;let z48:=DgA.mk z36 z46 (z47 - z46) z37 z39;let z49:=x.fst+(1:Int);let z50:=SV.ow 1 z38.length 1;let z51:=z38.set z46 (z48.x / z40);let z52:=SV.si .u64 x.snd.fst;let z53:=SV.ow 0 z37 1;let z54:=SV.si .i64 z44;let z55:=SV.si .i64 z49;let z56:=SObj.row z4 z48.row 110 false;let z57:=SObj.row z4 z51 110 true;let z58:=List.replicate z44.toNat (0:Int);let z59:=SObj.row z4 z36 110 false;let z60:=SObj.row z4 z38 110 true;let z61:=SObj.row z4 z58 110 true;let z62:=nthD z36 0 (0:Int) % z41;((0:Int)≤x.fst∧x.fst≤z22)∧dvS (a,b) x.snd.fst∧(Dig z36∧z37=z25)∧(Dig z38∧z38.length=z26)∧(∀(j:Nat),(↑j:Int)<z22 - x.fst→nthD z38 j (0:Int)=(0:Int))∧valN z36+z40*valN z38=z9*z41∧valN (List.drop (z22 - x.fst).toNat z36)<z40→(z42=true→inR .i64 z43∧inR .i64 (z43+z44)∧inR .i64 z45∧inR .i64 (z43+z44)∧inR .i64 z45∧z37=z36.length∧(0:Int)≤z43∧(0:Int)≤z45∧(0:Int)≤z45∧z46≤z47∧z47≤z47∧z47≤z37∧z48.ok∧z38.length=z38.length∧(0:Int)≤z43∧z43<(↑z38.length:Int)∧z38.length=z38.length∧z46<z38.length∧inR .i64 z49∧((z50.same (SV.ow 1 z51.length 1)∧z52.same z52∧z53.same (SV.ow 0 z48.row.length 1)∧(SV.row z4 z39).same (SV.row z4 z39)∧z54.same z54∧z21.same z21∧z23.same z23∧z55.same z55∧True)∧z56.same z56∧z57.same z57∧True)∧(((0:Int)≤z49∧z49≤z22)∧dvS (a,b) x.snd.fst∧(Dig z48.row∧z48.row.length=z25)∧(Dig z51∧z51.length=z26)∧(∀(j:Nat),(↑j:Int)<z22 - z49→nthD z51 j (0:Int)=(0:Int))∧valN z48.row+z40*valN z51=z9*z41∧valN (List.drop (z22 - z49).toNat z48.row)<z40)∧(z22 - z49).toNat<(z22 - x.fst).toNat)∧(z42=false→(0:Int)≤z44∧z44≤z44∧z44*(4:Int)≤(140737488355328:Int)∧z44≤(1000000000000:Int)∧(((z50.same z50∧(SV.ow 2 z44.toNat 1).same (SV.ow 2 z58.length 1)∧z52.same z52∧z53.same z53∧z54.same z54∧z11.same z5∧True)∧z59.same z59∧z60.same z60∧z61.same z61∧True)∧((0:Int)≤(0:Int)∧(0:Int)≤z44)∧dvS (a,b) x.snd.fst∧(Dig z36∧z37=z25)∧(Dig z38∧z38.length=z26)∧valN z36+z40*valN z38=z9*z41∧valN z36<z40∧(Dig z58∧z58.length=z39.length)∧(∀(j:Nat),0≤j→nthD z58 j (0:Int)=(0:Int))∧z41*valN z58=valN [] - z62+(1:Int)*z62)∧∀(x:Int×Int×List Int×List Int×List Int),let z63:=trimN (shl (trimN b) x.snd.fst.toNat);let z64:=z63.length;let z65:=(↑z64:Int);let z66:=x.snd.snd.fst;let z67:=x.snd.snd.snd.fst;let z68:=z67.length;let z69:=(2:Int)^x.snd.fst.toNat;let z70:=x.snd.snd.snd.snd;let z71:=z70.length;let z72:=x.fst.toNat;let z73:=nthD z66 0 (0:Int) % z69;let z74:=nthD z66 z72 (0:Int);let z75:=decide (x.fst<z65);let z76:=z66.length;let z77:=decide ((0:Int)<x.snd.fst);let z78:=z70.set z72 (z74 / z69);let z79:=x.fst+(1:Int);let z80:=z79.toNat;let z81:=((32:Int) - x.snd.fst) % (18446744073709551616:Int);let z82:=SV.ow 1 z68 1;let z83:=SV.ow 2 z71 1;let z84:=nthD z66 z80 (0:Int);let z85:=z78.set z72 (binK.orI .u32 (nthD z78 z72 (0:Int)) (z84*(2:Int)^z81.toNat % (4294967296:Int)));let z86:=SV.si .u64 x.snd.fst;let z87:=SV.ow 0 z66.length 1;let z88:=SV.si .i64 z65;let z89:=SV.si .i64 z79;let z90:=SObj.row z4 z66 110 false;let z91:=SObj.row z4 z67 110 true;let z92:=SObj.row z4 z85 110 true;let z93:=valN (List.take z80 z66) - z73+(4294967296:Int)^z80*(z84 % z69);let z94:=SObj.row z4 z78 110 true;((0:Int)≤x.fst∧x.fst≤z65)∧dvS (a,b) x.snd.fst∧(Dig z66∧z66.length=z25)∧(Dig z67∧z68=z26)∧valN z66+valN z63*valN z67=z9*z69∧valN z66<valN z63∧(Dig z70∧z71=z64)∧(∀(j:Nat),z72≤j→nthD z70 j (0:Int)=(0:Int))∧z69*valN z70=valN (List.take z72 z66) - z73+(4294967296:Int)^z72*(z74 % z69)→(z75=true→z66.length=z76∧(0:Int)≤x.fst∧x.fst<(↑z76:Int)∧z66.length=z76∧z72<z76∧(0:Int)≤x.snd.fst∧x.snd.fst≤(32:Int)∧z71=z70.length∧(0:Int)≤x.fst∧x.fst<(↑z70.length:Int)∧z71=z70.length∧z72<z70.length∧(z77=true→z71=z78.length∧(0:Int)≤x.fst∧x.fst<(↑z78.length:Int)∧z71=z78.length∧z72<z78.length∧inR .i64 z79∧z66.length=z76∧(0:Int)≤z79∧z79<(↑z76:Int)∧z66.length=z76∧z80<z76∧(0:Int)≤z81∧z81≤(32:Int)∧z71=z78.length∧(0:Int)≤x.fst∧x.fst<(↑z78.length:Int)∧z71=z78.length∧z72<z78.length∧inR .i64 z79∧((z82.same z82∧z83.same (SV.ow 2 z85.length 1)∧z86.same z86∧z87.same z87∧z88.same z88∧z89.same z89∧True)∧z90.same z90∧z91.same z91∧z92.same z92∧True)∧(((0:Int)≤z79∧z79≤z65)∧dvS (a,b) x.snd.fst∧(Dig z66∧z66.length=z25)∧(Dig z67∧z68=z26)∧valN z66+valN z63*valN z67=z9*z69∧valN z66<valN z63∧(Dig z85∧z85.length=z64)∧(∀(j:Nat),z80≤j→nthD z85 j (0:Int)=(0:Int))∧z69*valN z85=z93)∧(z65 - z79).toNat<(z65 - x.fst).toNat)∧(z77=false→inR .i64 z79∧((z82.same z82∧z83.same (SV.ow 2 z78.length 1)∧z86.same z86∧z87.same z87∧z88.same z88∧z89.same z89∧True)∧z90.same z90∧z91.same z91∧z94.same z94∧True)∧(((0:Int)≤z79∧z79≤z65)∧dvS (a,b) x.snd.fst∧(Dig z66∧z66.length=z25)∧(Dig z67∧z68=z26)∧valN z66+valN z63*valN z67=z9*z69∧valN z66<valN z63∧(Dig z78∧z78.length=z64)∧(∀(j:Nat),z80≤j→nthD z78 j (0:Int)=(0:Int))∧z69*valN z78=z93)∧(z65 - z79).toNat<(z65 - x.fst).toNat))∧(z75=false→z68=z67.length∧z71=z70.length∧z68≤1000000000000∧z71≤1000000000000∧(SV.tup [SV.row z4 (trimN z67),SV.row z4 (trimN z70),z11]).same z6))))))) (by kernel_rfl) ?_
 simp only[vcs]
 obtain⟨va,na⟩:=@trim_val a
 obtain⟨vb,nb⟩:=@trim_val b
 have da:=trim_dig ha
 have db:=trim_dig hb
 have la:=@trim_len a
 have lb:=@trim_len b
 have p0:=val_nonneg da
 have d0:Dig []:=by simp[Dig]
 simp only[dvS]
 rw[←va,←vb]
 rw[←vb] at b0
 generalize trimN a=S at*
 generalize trimN b=T at*
 have hm:=Int.emod_nonneg (valN S) (show valN T≠0 by omega)
 have hl:=Int.emod_lt_of_pos (valN S) b0
 have hT1:T.length≠0:=by
  intro h
  rw[List.eq_nil_of_length_eq_zero h] at b0
  exact absurd b0 (by decide)
 refine⟨by omega,by omega,fun h0=>by omega,fun h0=>⟨⟨⟨da,db⟩,by omega,by omega⟩,fun hlt=>⟨⟨⟨da,d0⟩,by omega,by omega⟩,?_⟩,fun hge=>⟨fun h1=>?_,fun h1=>⟨?_,?_⟩⟩⟩⟩
 ·have hab:valN S<valN T:=by unfold cmpN at hlt;split at hlt<;>(try split at hlt)<;>omega
  have hdv:valN S / valN T=0:=Int.ediv_eq_zero_of_lt p0 hab
  have hmv:valN S % valN T=valN S:=Int.emod_eq_of_lt p0 hab
  refine⟨nilN (by rw[hdv];rfl),?_⟩
  rw[hmv]
  simp[valN]
 ·obtain⟨d,rfl⟩:∃d,T=[d]:=List.length_eq_one_iff.1 (by omega)
  have hd:=(dig_cons.1 db).1
  have hnth:nthD [d] 0 0=d:=rfl
  have hv:valN [d]=d:=by simp[valN]
  rw[hv] at b0 hm hl ⊢
  rw[hnth]
  have hmm:valN S % d % 18446744073709551616=valN S % d:=by omega
  rw[hmm]
  repeat' refine And.intro ?_ ?_
  all_goals first|omega|exact da|rfl|(simp;done)
 ·have:=dig_nth db (T.length - 1)
  repeat' refine And.intro ?_ ?_
  all_goals omega
 have hge2:valN T≤valN S:=by unfold cmpN at hge;split at hge<;>(try split at hge)<;>omega
 have hlen:T.length≤S.length:=by
  by_cases h:S.length<T.length
  ·have:=len_lt da db nb h
   omega
  ·omega
 have hTn:2≤T.length:=by omega
 clear hge h0 h1 hT1 va vb d0
 rintro s ⟨⟨s0,s1⟩,hs⟩
 have t1:((T.length:Int) - 1).toNat=T.length - 1:=by omega
 have hxt:=dig_nth db (T.length - 1)
 have hps:(0:Int)<2^s.toNat:=Int.pow_pos (by decide)
 have hnn:0≤nthD T (T.length - 1) 0*2^s.toNat:=Int.mul_nonneg hxt.1 (Int.le_of_lt hps)
 have hmod:nthD T (T.length - 1) 0*2^s.toNat % 4294967296=nthD T (T.length - 1) 0*2^s.toNat:=by omega
 rw[t1,hmod]
 repeat refine And.intro (by omega) ?_
 refine⟨fun hc=>?_,fun hc=>?_⟩
 ·have htop:1≤nthD T (T.length - 1) 0:=by
   by_cases h:1≤nthD T (T.length - 1) 0
   ·exact h
   ·exfalso
    have h4:=nrm_ge db nb (by rintro rfl;simp at hTn)
    have h5:valN T=valN (T.take (T.length - 1))+4294967296^(T.length - 1)*nthD T (T.length - 1) 0:=by
     have:=@take_snoc0 T (T.length - 1)
     rwa [show T.length - 1+1=T.length by omega,List.take_length] at this
    have h6:=val_bdN (dig_take db (T.length - 1))
    rw[List.length_take,Nat.min_eq_left (by omega)] at h6
    rw[show nthD T (T.length - 1) 0=0 by omega,Int.mul_zero] at h5
    omega
  have h31:s≤30:=by
   by_cases h:s≤30
   ·exact h
   ·have hs31:s.toNat=31:=by omega
    rw[hs31,show(2:Int)^31=2147483648 from rfl] at hc
    omega
  have e:((s+1) % 18446744073709551616)=s+1:=by omega
  have e2:(s+1).toNat=s.toNat+1:=by omega
  rw[e,e2,Int.pow_succ,←Int.mul_assoc]
  repeat' refine And.intro ?_ ?_
  all_goals omega
 ·obtain⟨dw,lw,vw,tw,ttop⟩:=sh_trim db (by omega) (show s.toNat≤31 by omega) hs (by omega)
  obtain⟨ds,ls,vs,hst⟩:=dv_start da db (show s.toNat≤31 by omega) hlen (by omega) ttop
  have hds:∀z,shD (z,s)↔(Dig z∧z.length≤100000000000):=fun z=>⟨fun h=>⟨h.1,h.2.1⟩,fun h=>⟨h.1,h.2,s0,s1⟩⟩
  have lst:(shl T s.toNat).length=T.length+1:=digK_len
  have bits:(0≤s∧s≤31)∧nthD T (T.length - 1) 0*2^s.toNat<4294967296∧2147483648≤nthD T (T.length - 1) 0*2^s.toNat:=⟨⟨s0,s1⟩,hs,by omega⟩
  rw[hds,hds,lst,ls]
  refine⟨⟨da,by omega⟩,⟨db,by omega⟩,?_⟩
  repeat refine And.intro (by omega) ?_
  refine⟨?_,?_⟩
  ·repeat' refine And.intro ?_ ?_
   all_goals first|omega|exact howN (by simp)|exact howN (by omega)|exact ds|exact rep_dig|exact fun j _=>rep_nth|(simp;omega)|(rw[rep_val,Int.mul_zero,Int.add_zero];exact vs)|(rw[vw,show((S.length:Int) - T.length+1 - 0).toNat=S.length - T.length+1 by omega];exact hst)
  clear hst vs ls ds bits hds hmod hnn hps hxt ttop tw vw lw dw lst t1 hc hs s0 s1
  clear s
  rintro⟨i,s,U,q⟩ ⟨⟨i0,i1⟩,⟨⟨s0,s1⟩,hs,hs2⟩,⟨hU,hUl⟩,⟨hq,hql⟩,hz,he,hlt⟩
  simp only at i0 i1 s0 s1 hs hs2 hU hUl hq hql hz he hlt ⊢
  obtain⟨dw,lw,vw,tw,ttop⟩:=sh_trim db (by omega) (show s.toNat≤31 by omega) hs (by omega)
  generalize hw:trimN (shl T s.toNat)=w at*
  have hw0:0<valN w:=by
   rw[vw]
   exact Int.mul_pos b0 (Int.pow_pos (by decide))
  refine⟨fun ilt=>?_,fun ige=>?_⟩
  ·obtain⟨j,hj⟩:∃j:Nat,(S.length:Int) - T.length - i=j:=⟨((S.length:Int) - T.length - i).toNat,by omega⟩
   have e1:((j:Int)+w.length+1).toNat - j=w.length+1:=by omega
   have e2:((S.length:Int) - T.length+1 - i).toNat=j+1:=by omega
   rw[e2] at hlt
   obtain⟨k1,⟨k2,k3⟩,⟨k4,k5⟩,k6,k7⟩:=dv_step (j:=j) (m:=S.length - T.length) hU dw hq (by omega) (by omega) (by omega) (by omega) hw0 (hz j (by omega)) he hlt
   have e3:((S.length:Int) - T.length+1 - (i+1)).toNat=j:=by omega
   simp only[hj,e1,e3,Int.toNat_natCast,DgA.row,DgA.x,DgA.ok]
   repeat' refine And.intro ?_ ?_
   all_goals first|omega|exact howN (by simp)|exact howN k3.symm|exact trivial|exact hU|exact dw|exact k1|exact k2|exact k6|exact k7|exact dig_set hq k4 k5|(simp;omega)|(rw[lw];exact tw)|exact fun p hp=>by rw[nth_set_ne (by omega)];exact hz p (by omega)
  ·have e2:((S.length:Int) - T.length+1 - i).toNat=0:=by omega
   rw[e2,List.drop_zero] at hlt
   repeat refine And.intro (by omega) ?_
   refine⟨?_,?_⟩
   ·have h1:=@take_snoc0 U 0
    simp only[List.take_zero,valN,Int.pow_zero,Int.one_mul]
    repeat' refine And.intro ?_ ?_
    all_goals first|omega|exact howN (by simp)|exact hU|exact hq|exact he|exact hlt|exact rep_dig|exact fun j _=>rep_nth|(simp;done)|(rw[rep_val];omega)
   clear hlt hz e2 ige i0 i1 tw ttop hw0 hs hs2 s0 s1 he hU hUl hq hql
   clear hw dw lw vw
   clear w s i U q
   rintro⟨i,s,U,q,r⟩ ⟨⟨i0,i1⟩,⟨⟨s0,s1⟩,hs,hs2⟩,⟨hU,hUl⟩,⟨hq,hql⟩,he,hlt,⟨hr,hrl⟩,hz,hv⟩
   simp only at i0 i1 s0 s1 hs hs2 hU hUl hq hql he hlt hr hrl hz hv ⊢
   obtain⟨dw,lw,vw,tw,ttop⟩:=sh_trim db (by omega) (show s.toNat≤31 by omega) hs (by omega)
   generalize hw:trimN (shl T s.toNat)=w at*
   refine⟨fun ilt=>?_,fun ige=>?_⟩
   ·have x0:=dig_nth hU i.toNat
    have x1:=dig_nth hU (i.toNat+1)
    have e1:(i+1).toNat=i.toNat+1:=by omega
    have x2:=dig_nth hr i.toNat
    have hps:(0:Int)<2^s.toNat:=Int.pow_pos (by decide)
    have y0:0≤nthD U i.toNat 0 / 2^s.toNat:=Int.ediv_nonneg x0.1 (Int.le_of_lt hps)
    have y1:nthD U i.toNat 0 / 2^s.toNat≤nthD U i.toNat 0:=Int.ediv_le_self _ x0.1
    have e2:((32 - s) % 18446744073709551616).toNat=32 - s.toNat:=by omega
    have e3:(r.set i.toNat (nthD U i.toNat 0 / 2^s.toNat)).set i.toNat=r.set i.toNat:=by funext z;rw[List.set_set]
    simp only[e1,e2,e3,nth_set_self (show i.toNat<r.length by omega),List.length_set]
    repeat refine And.intro (by omega) ?_
    refine⟨fun hs0=>?_,fun hs0=>?_⟩
    ·obtain⟨d,hd1,hd2,hd3⟩:=rs_digit (s:=s.toNat) x0.1 x0.2 x1.1 x1.2 (by omega) (by omega)
     obtain⟨k1,k2,k3,k4⟩:=rs_step hU hr (show i.toNat<r.length by omega) hz hd2 hd3 hv
     rw[hd1]
     repeat' refine And.intro ?_ ?_
     all_goals first|omega|exact howN (by simp)|exact hU|exact hq|exact k1|exact k3|exact k4|exact he|exact hlt|trivial
    ·have hs00:s.toNat=0:=by omega
     obtain⟨k1,k2,k3,k4⟩:=rs_step (s:=s.toNat) (d:=nthD U i.toNat 0 / 2^s.toNat) hU hr (show i.toNat<r.length by omega) hz ⟨y0,by omega⟩ (by rw[hs00];simp) hv
     repeat' refine And.intro ?_ ?_
     all_goals first|omega|exact howN (by simp)|exact hU|exact hq|exact k1|exact k3|exact k4|exact he|exact hlt|trivial
   ·have hi:i.toNat=w.length:=by omega
    rw[hi] at hv
    obtain⟨w1,w2⟩:=rs_fin hU hr dw rfl hlt vw b0 he (show s.toNat≤31 by omega) (by omega) hv
    rw[trim_eq hq,trim_eq hr,w1,w2]
    repeat' refine And.intro ?_ ?_
    all_goals first|omega|rfl|trivial
theorem len_of {a b:List Int} (ha:Dig a) (hb:Dig b) (na:Nrm a) (h:valN a≤valN b):a.length≤b.length:=by
 by_cases hl:a.length≤b.length
 ·exact hl
 ·have:=len_lt hb ha na (by omega)
  omega
def r165g:SCtr:=⟨76,List Int×List Int,.cons (codR (.i .u32)) (.one (codR (.i .u32))),fun a=>(Dig a.1∧Dig a.2)∧(a.1.length≤1000000000∧a.2.length≤1000000000),
 fun a=> .row (.i .u32) (natL (gcdN (valN a.1) (valN a.2)))⟩
def Λ165g (a:List Int×List Int):Nat→LoopAnn
 |2=> .inv (List Int×List Int) (fun x=>⟨[(0,.row (.i .u32) x.1),(1,.row (.i .u32) x.2)],[]⟩) (fun s=>(rS (.i .u32) s 0,rS (.i .u32) s 1))
  (fun x=>(Dig x.1∧Dig x.2)∧(Nrm x.1∧Nrm x.2)∧(x.1.length≤1000000000∧x.2.length≤1000000000)∧gcdN (valN x.1) (valN x.2)=gcdN (valN a.1) (valN a.2)) (fun x=>(valN x.2).toNat) fun _ _=> .look
 |_=> .look
theorem h165g:Holds Try.prog r165g:=by
 refine con (L:=[r154,r166g]) r165g F165 Λ165g (OwnOK.none _) (by simpa using⟨h154,h166g⟩) (by kernel_rfl) (by kernel_rfl) (fun _=>rfl) ?_
 rintro⟨a,b⟩ ⟨⟨ha,hb⟩,⟨hla,hlb⟩⟩
 simp only at ha hb hla hlb
 refine vcOf (let z0:=SId.i .u32;let z1:=natL (valN a+valN []);let z2:=natL (valN b+valN []);let z3:=gcdN (valN a) (valN b);((Dig a∧Dig [])∧a.length≤100000000000∧0≤100000000000)∧((Dig b∧Dig [])∧b.length≤100000000000∧0≤100000000000)∧((((SV.row z0 z1).same (SV.row z0 z1)∧(SV.row z0 z2).same (SV.row z0 z2)∧True)∧True)∧(Dig z1∧Dig z2)∧(Nrm z1∧Nrm z2)∧(z1.length≤1000000000∧z2.length≤1000000000)∧gcdN (valN z1) (valN z2)=z3)∧∀(x:List Int×List Int),let z4:=decide ((0:Int)<(↑x.snd.length:Int));let z5:=natL (valN x.fst % valN x.snd);(Dig x.fst∧Dig x.snd)∧(Nrm x.fst∧Nrm x.snd)∧(x.fst.length≤1000000000∧x.snd.length≤1000000000)∧gcdN (valN x.fst) (valN x.snd)=z3→(z4=true→((Dig x.fst∧Dig x.snd)∧(x.fst.length≤10000000000∧x.snd.length≤10000000000)∧(0:Int)<valN x.snd)∧(false=true→(SV.row z0 x.fst).same (SV.row z0 (natL z3)))∧(false=false→(((SV.row z0 x.snd).same (SV.row z0 x.snd)∧(SV.row z0 z5).same (SV.row z0 z5)∧True)∧True)∧((Dig x.snd∧Dig z5)∧(Nrm x.snd∧Nrm z5)∧(x.snd.length≤1000000000∧z5.length≤1000000000)∧gcdN (valN x.snd) (valN z5)=z3)∧(valN z5).toNat<(valN x.snd).toNat))∧(z4=false→(SV.row z0 x.fst).same (SV.row z0 (natL z3)))) (by kernel_rfl) ?_
 simp only[vcs]
 have d0:Dig []:=by simp[Dig]
 have pa:=val_nonneg ha
 have pb:=val_nonneg hb
 have z:valN []=0:=rfl
 rw[z,Int.add_zero,Int.add_zero]
 obtain⟨a1,a2,a3⟩:=natL_ok pa
 obtain⟨b1',b2,b3⟩:=natL_ok pb
 have hln:(natL (valN a)).length≤1000000000:=by
  rw[←trim_eq ha]
  have:=@trim_len a
  omega
 have hln2:(natL (valN b)).length≤1000000000:=by
  rw[←trim_eq hb]
  have:=@trim_len b
  omega
 refine⟨⟨⟨ha,d0⟩,by omega,by omega⟩,⟨⟨hb,d0⟩,by omega,by omega⟩,⟨⟨a2,b2⟩,⟨a3,b3⟩,⟨hln,hln2⟩,by rw[a1,b1']⟩,?_⟩
 rintro⟨s,t⟩ ⟨⟨ds,dt⟩,⟨ns,nt⟩,⟨hs,ht⟩,hg⟩
 simp only at ds dt ns nt ht hs hg ⊢
 have ps:=val_nonneg ds
 have pt:=val_nonneg dt
 refine⟨fun hl=>?_,fun hl=>?_⟩
 ·have hpos:0<valN t:=by
   by_cases h:valN t=0
   ·rw[val_zero dt nt h] at hl
    simp at hl
   ·omega
  have hm:=Int.emod_nonneg (valN s) (show valN t≠0 by omega)
  have hlt:=Int.emod_lt_of_pos (valN s) hpos
  obtain⟨m1,m2,m3⟩:=natL_ok hm
  have hml:=len_of m2 dt m3 (by rw[m1];omega)
  refine⟨⟨⟨ds,dt⟩,⟨by omega,by omega⟩,hpos⟩,fun h=>absurd h (by decide),fun _=>⟨⟨⟨dt,m2⟩,⟨nt,m3⟩,⟨by omega,by omega⟩,?_⟩,by omega⟩⟩
  rw[m1,gcdN_step ps hpos,hg]
 ·have ht0:t=[]:=List.eq_nil_of_length_eq_zero (by omega)
  rw[ht0,z,gcdN_zero ps] at hg
  rw[←hg,natL_val ds ns]
end Go.Vi
