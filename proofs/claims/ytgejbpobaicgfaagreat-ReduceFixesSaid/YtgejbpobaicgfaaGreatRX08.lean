/-
  Contracts: natural numbers of any size: digit.
  Conditions: none.
-/
import Derived.Test.YtgejbpobaicgfaaGreatRX06
import Derived.Test.YtgejbpobaicgfaaGreatRX07
set_option maxRecDepth 100000
set_option maxHeartbeats 4000000
set_option linter.unusedSimpArgs false
set_option linter.unusedVariables false
namespace Go.Vi
open Go.Proofs.YtgejbpobaicgfaaGreat.Ir
open Go.Proofs
structure jc where
 U:List Int
 j:Nat
 len:Nat
 n:Nat
 v:List Int
def jc.x (a:jc):Int:=ac (prt a.U a.j (a.v.length+1))
def jc.ok (a:jc):Prop:=(ag a.U∧ag a.v)∧(a.len=a.v.length+1∧a.n=a.U.length)∧(2≤a.v.length∧a.j+a.v.length+1≤a.U.length∧a.U.length≤200000000000)∧
 2147483648≤ae a.v (a.v.length - 1) 0∧a.x<4294967296*ac a.v
def jc.row (a:jc):List Int:=eR a.U a.j (eb (a.v.length+1) (a.x % ac a.v))
def DO:cK where
 f:=168
 α:=jc
 put a:=[.oc 0 a.j a.len a.n 1,.row (.i .u32) a.v]
 st a:=[.row (.i .u32) a.U 161 false]
 dec v o:=match v,o with
  |[.oc 0 j len n 1,v],[.row t l 161 false]=>match jM (.i .u32) v,gh t (.i .u32) l with
   |some v,some l=>some ⟨l,j,len,n,v⟩
   |_,_=>none
  |_,_=>none
 ok v o a h:=by
  split at h
  ·split at h
   ·rename_i h1 h2
    simp only[Option.some.injEq] at h;subst h
    obtain⟨rfl,hh⟩:=nE h2
    cases hh
    exact⟨by simp only[gL,nS h1],rfl⟩
   ·cases h
  ·cases h
 inj a b h1 h2:=by
  obtain⟨U,j,len,n,v⟩:=a
  obtain⟨U',j',len',n',v'⟩:=b
  simp only[gL,List.cons.injEq,and_true] at h1
  obtain⟨g1,g2⟩:=h1
  have e2:=(bR (.i .u32)).inj _ _ g2
  simp only[SV.g,AV.os.injEq,true_and,ai.sz,Nat.mul_one] at g1
  simp only[gO,List.map_cons,List.map_nil,af.g,List.cons.injEq,aP.cells.injEq,and_true] at h2
  have hl:U=U':=by
   have hf:=congrArg List.length h2
   rw[dD,dD] at hf
   exact mO (.i .u32) (by simpa[ai.sz] using hf) h2
  obtain⟨q1,q2,q3⟩:=g1
  subst q3
  have:j=j':=by omega
  rw[e2,hl,q2,this]
 dom:=jc.ok
 res a:=.si .u32 (a.x / ac a.v)
 out a:=[.row (.i .u32) a.row 161 false]
def DR (U:List Int):a8:=[.row (.i .u32) U 161 false]
def Xw (a:jc):Nat→bz
 |4=> .inv (Int×Int) (fun x=>⟨[(0,.oc 0 a.j a.len a.n 1),(1,.row (.i .u32) a.v),(5,.si .i64 a.v.length),(7,.si .u64 x.1),(8,.si .u64 x.2)],DR a.U⟩) (fun s=>(iS s 7,iS s 8))
  (fun x=>(0≤x.1∧x.1≤4294967297)∧(0≤x.2∧x.2<4294967296)∧x.1*ae a.v (a.v.length - 1) 0+x.2=ae a.U (a.j+(a.v.length - 1)) 0+4294967296*ae a.U (a.j+a.v.length) 0∧a.x<(x.1+1)*ac a.v) (fun x=>x.1.toNat) fun _ _=> .look
 |10=> .inv (Int×Int×Int×Int×List Int) (fun x=>⟨[(0,.oc 0 a.j a.len a.n 1),(1,.row (.i .u32) a.v),(5,.si .i64 a.v.length),(7,.si .u64 x.2.1),(9,.si .u64 x.2.2.1),(10,.si .u64 x.2.2.2.1),(82,.si .i64 a.v.length),(83,.si .i64 x.1)],DR x.2.2.2.2⟩)
  (fun s=>(iS s 83,iS s 7,iS s 9,iS s 10,oS (.i .u32) s 0))
  (fun x=>(0≤x.1∧x.1≤a.v.length)∧(0≤x.2.1∧x.2.1<4294967296)∧(a.x<(x.2.1+1)*ac a.v∧x.2.1*ac a.v<a.x+ac a.v)∧(0≤x.2.2.1∧x.2.2.1<4294967296)∧(0≤x.2.2.2.1∧x.2.2.2.1≤1)∧(ag x.2.2.2.2∧x.2.2.2.2.length=a.U.length)∧
   (∀m,(m<a.j∨a.j+x.1.toNat≤m)→ae x.2.2.2.2 m 0=ae a.U m 0)∧
   ac (prt x.2.2.2.2 a.j x.1.toNat)=ac (prt a.U a.j x.1.toNat) - x.2.1*ac (a.v.take x.1.toNat)+4294967296^x.1.toNat*(x.2.2.1+x.2.2.2.1)) (fun x=>(a.v.length - x.1).toNat) fun _ _=> .look
 |23=> .inv (Int×Int×Int×List Int) (fun x=>⟨[(0,.oc 0 a.j a.len a.n 1),(1,.row (.i .u32) a.v),(5,.si .i64 a.v.length),(7,.si .u64 x.2.1),(9,.si .u64 x.2.2.1),(134,.si .i64 a.v.length),(135,.si .i64 x.1)],DR x.2.2.2⟩)
  (fun s=>(iS s 135,iS s 7,iS s 9,oS (.i .u32) s 0))
  (fun x=>(0≤x.1∧x.1≤a.v.length)∧(0≤x.2.1∧x.2.1<4294967296)∧(a.x<x.2.1*ac a.v∧x.2.1*ac a.v<a.x+ac a.v)∧(0≤x.2.2.1∧x.2.2.1≤1)∧(ag x.2.2.2∧x.2.2.2.length=a.U.length)∧
   ∃W,(ag W∧W.length=a.U.length)∧(∀m,(m<a.j∨a.j+(a.v.length+1)≤m)→ae W m 0=ae a.U m 0)∧ac (prt W a.j (a.v.length+1))=a.x - x.2.1*ac a.v+4294967296^(a.v.length+1)∧
    (∀m,(m<a.j∨a.j+x.1.toNat≤m)→ae x.2.2.2 m 0=ae W m 0)∧ac (prt x.2.2.2 a.j x.1.toNat)+4294967296^x.1.toNat*x.2.2.1=ac (prt W a.j x.1.toNat)+ac (a.v.take x.1.toNat))
  (fun x=>(a.v.length - x.1).toNat) fun _ _=> .look
 |_=> .look
theorem h169:eh Tryz.prog DO:=by
 refine lN (L:=[]) (W:=[]) DO wM Xw (by simp) (by simp) (by kernel_rfl) (fun _=>rfl) (by kernel_rfl) ?_
 rintro⟨U,j,len,n,v⟩ ⟨⟨hU,hv⟩,⟨e1,e2⟩,⟨hn,hj,J8⟩,hv1,hx⟩
 simp only at hU hv hn hj J8 hv1 hx e1 e2
 subst e1 e2
 refine bh (let z0:=(↑v.length:Int);let z1:=v.length+1;let z2:=(↑z1:Int);let z3:=z0 - (1:Int);let z4:=ae v z3.toNat (0:Int) % (18446744073709551616:Int);let z5:=dZ.ju .u64 (ae U (j+z0.toNat) 0 % (18446744073709551616:Int)*(4294967296:Int) % (18446744073709551616:Int)) (ae U (j+z3.toNat) 0 % (18446744073709551616:Int));let z6:=z5.tdiv z4;let z7:=SV.oc 0 j z1 U.length 1;let z8:=ai.i .u32;let z9:=(↑v.length:Int);let ak:=SV.si .i64 z9;let al:=SV.si .u64 z6;let z12:=z5.tmod z4;let au:=SV.si .u64 z12;let ar:=af.row z8 U 161 false;let ax:=v.length - 1;let ay:=ae v ax (0:Int);let z17:=ae U (j+ax) 0+(4294967296:Int)*ae U (j+v.length) 0;let aG:=jc.mk U j z1 U.length v;let aH:=aG.x;let z20:=z9 - (1:Int);let z21:=ae v z20.toNat (0:Int) % (18446744073709551616:Int);let z22:=aH+ac v;let z23:=ac (prt U j 0);let z24:=j+z9.toNat;let z25:=SV.si .u32 (aH / ac v);let z26:=af.row z8 aG.row 161 false;let z27:=(4294967296:Int)^z1;let z28:=z9 - (2:Int);U.length=U.length∧(0:Int)≤z0∧z0<z2∧j+z1≤U.length∧U.length=U.length∧j+z0.toNat<U.length∧(0:Int)≤(32:Int)∧(32:Int)≤(64:Int)∧aC .i64 z3∧U.length=U.length∧(0:Int)≤z3∧z3<z2∧j+z1≤U.length∧U.length=U.length∧j+z3.toNat<U.length∧aC .i64 z3∧(0:Int)≤z3∧z3<z0∧z3.toNat<v.length∧z4≠(0:Int)∧aC .u64 z6∧aC .i64 z3∧(0:Int)≤z3∧z3<z0∧z3.toNat<v.length∧z4≠(0:Int)∧(((z7.same z7∧(SV.row z8 v).same (SV.row z8 v)∧(SV.si .i64 z0).same ak∧al.same al∧au.same au∧True)∧ar.same ar∧True)∧((0:Int)≤z6∧z6≤(4294967297:Int))∧((0:Int)≤z12∧z12<(4294967296:Int))∧z6*ay+z12=z17∧aH<(z6+(1:Int))*ac v)∧∀(x:Int×Int),let z29:=decide ((4294967296:Int)≤x.fst);let z30:=(x.snd+z21) % (18446744073709551616:Int);let z31:=decide ((4294967296:Int)≤z30);let z32:=(x.fst - (1:Int)) % (18446744073709551616:Int);let z33:=SV.si .u64 z32;let z34:=SV.si .u64 z30;let z35:=decide (dZ.ju .u64 (x.snd*(4294967296:Int) % (18446744073709551616:Int)) (ae U (j+z28.toNat) 0 % (18446744073709551616:Int))<x.fst*(ae v z28.toNat (0:Int) % (18446744073709551616:Int)) % (18446744073709551616:Int));let z36:=SV.si .u64 x.fst;((0:Int)≤x.fst∧x.fst≤(4294967297:Int))∧((0:Int)≤x.snd∧x.snd<(4294967296:Int))∧x.fst*ay+x.snd=z17∧aH<(x.fst+(1:Int))*ac v→(z29=true→aC .i64 z20∧(0:Int)≤z20∧z20<z0∧z20.toNat<v.length∧(z31=true→(((z7.same z7∧(SV.row z8 v).same (SV.row z8 v)∧ak.same ak∧z33.same z33∧(SV.il .u64 0).same (SV.si .u64 0)∧(SV.il .u64 0).same (SV.si .u64 0)∧ak.same ak∧(SV.il .i64 0).same (SV.si .i64 0)∧True)∧ar.same ar∧True)∧((0:Int)≤(0:Int)∧(0:Int)≤z9)∧((0:Int)≤z32∧z32<(4294967296:Int))∧(aH<(z32+(1:Int))*ac v∧z32*ac v<z22)∧((0:Int)≤(0:Int)∧(0:Int)<(4294967296:Int))∧((0:Int)≤(0:Int)∧(0:Int)≤(1:Int))∧(ag U∧U.length=U.length)∧(∀(m:Nat),m<j∨j+0≤m→ae U m (0:Int)=ae U m (0:Int))∧z23=z23 - z32*ac []+(0:Int))∧∀(x:Int×Int×Int×Int×List Int),let z37:=x.snd.fst*ac v;let z38:=x.snd.snd.fst;let z39:=x.snd.snd.snd.fst;let z40:=x.snd.snd.snd.snd;let z41:=x.fst.toNat;let z42:=x.fst+(1:Int);let z43:=SV.si .u64 x.snd.fst;let z44:=(x.snd.fst*(ae v z41 (0:Int) % (18446744073709551616:Int)) % (18446744073709551616:Int)+z38) % (18446744073709551616:Int);let z45:=z44 / (4294967296:Int);let z46:=SV.si .u64 z45;let z47:=((ae z40 (j+z41) 0 % (18446744073709551616:Int) - dZ.pF .u64 z44 (4294967295:Int)) % (18446744073709551616:Int) - z39) % (18446744073709551616:Int);let z48:=z47 / (9223372036854775808:Int);let z49:=SV.si .u64 z48;let z50:=SV.si .i64 z42;let z51:=z40.set (j+z41) (z47 % (4294967296:Int));let z52:=af.row z8 z51 161 false;let z53:=z42.toNat;let z54:=((ae z40 z24 (0:Int) % (18446744073709551616:Int) - z38) % (18446744073709551616:Int) - z39) % (18446744073709551616:Int);let z55:=decide (z54 / (9223372036854775808:Int)=(0:Int));let z56:=z40.set z24 (z54 % (4294967296:Int));let z57:=af.row z8 z56 161 false;((0:Int)≤x.fst∧x.fst≤z9)∧((0:Int)≤x.snd.fst∧x.snd.fst<(4294967296:Int))∧(aH<(x.snd.fst+(1:Int))*ac v∧z37<z22)∧((0:Int)≤z38∧z38<(4294967296:Int))∧((0:Int)≤z39∧z39≤(1:Int))∧(ag z40∧z40.length=U.length)∧(∀(m:Nat),m<j∨j+z41≤m→ae z40 m (0:Int)=ae U m (0:Int))∧ac (prt z40 j z41)=ac (prt U j z41) - x.snd.fst*ac (List.take z41 v)+(4294967296:Int)^z41*(z38+z39)→(decide (x.fst<z9)=true→(0:Int)≤x.fst∧x.fst<z0∧z41<v.length∧(0:Int)≤(32:Int)∧(32:Int)≤(64:Int)∧U.length=z40.length∧(0:Int)≤x.fst∧x.fst<z2∧j+z1≤U.length∧U.length=z40.length∧j+z41<z40.length∧(0:Int)≤(63:Int)∧(63:Int)≤(64:Int)∧U.length=z40.length∧(0:Int)≤x.fst∧x.fst<z2∧j+z1≤U.length∧U.length=z40.length∧j+z41<z40.length∧aC .i64 z42∧((z7.same z7∧(SV.row z8 v).same (SV.row z8 v)∧ak.same ak∧z43.same z43∧z46.same z46∧z49.same z49∧ak.same ak∧z50.same z50∧True)∧z52.same z52∧True)∧(((0:Int)≤z42∧z42≤z9)∧((0:Int)≤x.snd.fst∧x.snd.fst<(4294967296:Int))∧(aH<(x.snd.fst+(1:Int))*ac v∧z37<z22)∧((0:Int)≤z45∧z45<(4294967296:Int))∧((0:Int)≤z48∧z48≤(1:Int))∧(ag z51∧z51.length=U.length)∧(∀(m:Nat),m<j∨j+z53≤m→ae z51 m (0:Int)=ae U m (0:Int))∧ac (prt z51 j z53)=ac (prt U j z53) - x.snd.fst*ac (List.take z53 v)+(4294967296:Int)^z53*(z45+z48))∧(z9 - z42).toNat<(z9 - x.fst).toNat)∧(decide (x.fst<z9)=false→U.length=z40.length∧(0:Int)≤z9∧z9<z2∧j+z1≤U.length∧U.length=z40.length∧z24<z40.length∧U.length=z40.length∧(0:Int)≤z9∧z9<z2∧j+z1≤U.length∧U.length=z40.length∧z24<z40.length∧(0:Int)≤(63:Int)∧(63:Int)≤(64:Int)∧(z55=true→(SV.si .u32 (x.snd.fst % (4294967296:Int))).same z25∧z57.same z26∧True)∧(z55=false→(((z7.same z7∧(SV.row z8 v).same (SV.row z8 v)∧ak.same ak∧z43.same z43∧(SV.il .u64 0).same (SV.si .u64 0)∧ak.same ak∧(SV.il .i64 0).same (SV.si .i64 0)∧True)∧z57.same z57∧True)∧((0:Int)≤(0:Int)∧(0:Int)≤z9)∧((0:Int)≤x.snd.fst∧x.snd.fst<(4294967296:Int))∧(aH<z37∧z37<z22)∧((0:Int)≤(0:Int)∧(0:Int)≤(1:Int))∧(ag z56∧z56.length=U.length)∧∃W,(ag W∧W.length=U.length)∧(∀(m:Nat),m<j∨j+z1≤m→ae W m (0:Int)=ae U m (0:Int))∧ac (prt W j z1)=aH - z37+z27∧(∀(m:Nat),m<j∨j+0≤m→ae z56 m (0:Int)=ae W m (0:Int))∧ac (prt z56 j 0)+(0:Int)=ac (prt W j 0)+ac [])∧∀(x:Int×Int×Int×List Int),let z58:=x.snd.fst*ac v;let z59:=x.snd.snd.fst;let z60:=x.snd.snd.snd;let z61:=x.fst.toNat;let z62:=x.fst+(1:Int);let z63:=SV.si .u64 x.snd.fst;let z64:=((ae z60 (j+z61) 0 % (18446744073709551616:Int)+ae v z61 (0:Int) % (18446744073709551616:Int)) % (18446744073709551616:Int)+z59) % (18446744073709551616:Int);let z65:=z64 / (4294967296:Int);let z66:=SV.si .u64 z65;let z67:=SV.si .i64 z62;let z68:=z60.set (j+z61) (z64 % (4294967296:Int));let z69:=af.row z8 z68 161 false;let z70:=z62.toNat;(((0:Int)≤x.fst∧x.fst≤z9)∧((0:Int)≤x.snd.fst∧x.snd.fst<(4294967296:Int))∧(aH<z58∧z58<z22)∧((0:Int)≤z59∧z59≤(1:Int))∧(ag z60∧z60.length=U.length)∧∃W,(ag W∧W.length=U.length)∧(∀(m:Nat),m<j∨j+z1≤m→ae W m (0:Int)=ae U m (0:Int))∧ac (prt W j z1)=aH - z58+z27∧(∀(m:Nat),m<j∨j+z61≤m→ae z60 m (0:Int)=ae W m (0:Int))∧ac (prt z60 j z61)+(4294967296:Int)^z61*z59=ac (prt W j z61)+ac (List.take z61 v))→(decide (x.fst<z9)=true→U.length=z60.length∧(0:Int)≤x.fst∧x.fst<z2∧j+z1≤U.length∧U.length=z60.length∧j+z61<z60.length∧(0:Int)≤x.fst∧x.fst<z0∧z61<v.length∧(0:Int)≤(32:Int)∧(32:Int)≤(64:Int)∧U.length=z60.length∧(0:Int)≤x.fst∧x.fst<z2∧j+z1≤U.length∧U.length=z60.length∧j+z61<z60.length∧aC .i64 z62∧((z7.same z7∧(SV.row z8 v).same (SV.row z8 v)∧ak.same ak∧z63.same z63∧z66.same z66∧ak.same ak∧z67.same z67∧True)∧z69.same z69∧True)∧(((0:Int)≤z62∧z62≤z9)∧((0:Int)≤x.snd.fst∧x.snd.fst<(4294967296:Int))∧(aH<z58∧z58<z22)∧((0:Int)≤z65∧z65≤(1:Int))∧(ag z68∧z68.length=U.length)∧∃W,(ag W∧W.length=U.length)∧(∀(m:Nat),m<j∨j+z1≤m→ae W m (0:Int)=ae U m (0:Int))∧ac (prt W j z1)=aH - z58+z27∧(∀(m:Nat),m<j∨j+z70≤m→ae z68 m (0:Int)=ae W m (0:Int))∧ac (prt z68 j z70)+(4294967296:Int)^z70*z65=ac (prt W j z70)+ac (List.take z70 v))∧(z9 - z62).toNat<(z9 - x.fst).toNat)∧(decide (x.fst<z9)=false→U.length=z60.length∧(0:Int)≤z9∧z9<z2∧j+z1≤U.length∧U.length=z60.length∧z24<z60.length∧U.length=z60.length∧(0:Int)≤z9∧z9<z2∧j+z1≤U.length∧U.length=z60.length∧z24<z60.length∧(SV.si .u32 ((x.snd.fst - (1:Int)) % (18446744073709551616:Int) % (4294967296:Int))).same z25∧(af.row z8 (z60.set z24 ((ae z60 z24 (0:Int)+z59 % (4294967296:Int)) % (4294967296:Int))) 161 false).same z26∧True))))∧(z31=false→((z7.same z7∧(SV.row z8 v).same (SV.row z8 v)∧ak.same ak∧z33.same z33∧z34.same z34∧True)∧ar.same ar∧True)∧(((0:Int)≤z32∧z32≤(4294967297:Int))∧((0:Int)≤z30∧z30<(4294967296:Int))∧z32*ay+z30=z17∧aH<(z32+(1:Int))*ac v)∧z32.toNat<x.fst.toNat))∧(z29=false→aC .i64 z28∧(0:Int)≤z28∧z28<z0∧z28.toNat<v.length∧(0:Int)≤(32:Int)∧(32:Int)≤(64:Int)∧aC .i64 z28∧U.length=U.length∧(0:Int)≤z28∧z28<z2∧j+z1≤U.length∧U.length=U.length∧j+z28.toNat<U.length∧(z35=true→aC .i64 z20∧(0:Int)≤z20∧z20<z0∧z20.toNat<v.length∧(z31=true→(((z7.same z7∧(SV.row z8 v).same (SV.row z8 v)∧ak.same ak∧z33.same z33∧(SV.il .u64 0).same (SV.si .u64 0)∧(SV.il .u64 0).same (SV.si .u64 0)∧ak.same ak∧(SV.il .i64 0).same (SV.si .i64 0)∧True)∧ar.same ar∧True)∧((0:Int)≤(0:Int)∧(0:Int)≤z9)∧((0:Int)≤z32∧z32<(4294967296:Int))∧(aH<(z32+(1:Int))*ac v∧z32*ac v<z22)∧((0:Int)≤(0:Int)∧(0:Int)<(4294967296:Int))∧((0:Int)≤(0:Int)∧(0:Int)≤(1:Int))∧(ag U∧U.length=U.length)∧(∀(m:Nat),m<j∨j+0≤m→ae U m (0:Int)=ae U m (0:Int))∧z23=z23 - z32*ac []+(0:Int))∧∀(x:Int×Int×Int×Int×List Int),let z71:=x.snd.fst*ac v;let z72:=x.snd.snd.fst;let z73:=x.snd.snd.snd.fst;let z74:=x.snd.snd.snd.snd;let z75:=x.fst.toNat;let z76:=x.fst+(1:Int);let z77:=SV.si .u64 x.snd.fst;let z78:=(x.snd.fst*(ae v z75 (0:Int) % (18446744073709551616:Int)) % (18446744073709551616:Int)+z72) % (18446744073709551616:Int);let z79:=z78 / (4294967296:Int);let z80:=SV.si .u64 z79;let jV:=((ae z74 (j+z75) 0 % (18446744073709551616:Int) - dZ.pF .u64 z78 (4294967295:Int)) % (18446744073709551616:Int) - z73) % (18446744073709551616:Int);let z82:=jV / (9223372036854775808:Int);let z83:=SV.si .u64 z82;let z84:=SV.si .i64 z76;let z85:=z74.set (j+z75) (jV % (4294967296:Int));let z86:=af.row z8 z85 161 false;let z87:=z76.toNat;let lT:=((ae z74 z24 (0:Int) % (18446744073709551616:Int) - z72) % (18446744073709551616:Int) - z73) % (18446744073709551616:Int);let z89:=decide (lT / (9223372036854775808:Int)=(0:Int));let eZ:=z74.set z24 (lT % (4294967296:Int));let z91:=af.row z8 eZ 161 false;((0:Int)≤x.fst∧x.fst≤z9)∧((0:Int)≤x.snd.fst∧x.snd.fst<(4294967296:Int))∧(aH<(x.snd.fst+(1:Int))*ac v∧z71<z22)∧((0:Int)≤z72∧z72<(4294967296:Int))∧((0:Int)≤z73∧z73≤(1:Int))∧(ag z74∧z74.length=U.length)∧(∀(m:Nat),m<j∨j+z75≤m→ae z74 m (0:Int)=ae U m (0:Int))∧ac (prt z74 j z75)=ac (prt U j z75) - x.snd.fst*ac (List.take z75 v)+(4294967296:Int)^z75*(z72+z73)→(decide (x.fst<z9)=true→(0:Int)≤x.fst∧x.fst<z0∧z75<v.length∧(0:Int)≤(32:Int)∧(32:Int)≤(64:Int)∧U.length=z74.length∧(0:Int)≤x.fst∧x.fst<z2∧j+z1≤U.length∧U.length=z74.length∧j+z75<z74.length∧(0:Int)≤(63:Int)∧(63:Int)≤(64:Int)∧U.length=z74.length∧(0:Int)≤x.fst∧x.fst<z2∧j+z1≤U.length∧U.length=z74.length∧j+z75<z74.length∧aC .i64 z76∧((z7.same z7∧(SV.row z8 v).same (SV.row z8 v)∧ak.same ak∧z77.same z77∧z80.same z80∧z83.same z83∧ak.same ak∧z84.same z84∧True)∧z86.same z86∧True)∧(((0:Int)≤z76∧z76≤z9)∧((0:Int)≤x.snd.fst∧x.snd.fst<(4294967296:Int))∧(aH<(x.snd.fst+(1:Int))*ac v∧z71<z22)∧((0:Int)≤z79∧z79<(4294967296:Int))∧((0:Int)≤z82∧z82≤(1:Int))∧(ag z85∧z85.length=U.length)∧(∀(m:Nat),m<j∨j+z87≤m→ae z85 m (0:Int)=ae U m (0:Int))∧ac (prt z85 j z87)=ac (prt U j z87) - x.snd.fst*ac (List.take z87 v)+(4294967296:Int)^z87*(z79+z82))∧(z9 - z76).toNat<(z9 - x.fst).toNat)∧(decide (x.fst<z9)=false→U.length=z74.length∧(0:Int)≤z9∧z9<z2∧j+z1≤U.length∧U.length=z74.length∧z24<z74.length∧U.length=z74.length∧(0:Int)≤z9∧z9<z2∧j+z1≤U.length∧U.length=z74.length∧z24<z74.length∧(0:Int)≤(63:Int)∧(63:Int)≤(64:Int)∧(z89=true→(SV.si .u32 (x.snd.fst % (4294967296:Int))).same z25∧z91.same z26∧True)∧(z89=false→(((z7.same z7∧(SV.row z8 v).same (SV.row z8 v)∧ak.same ak∧z77.same z77∧(SV.il .u64 0).same (SV.si .u64 0)∧ak.same ak∧(SV.il .i64 0).same (SV.si .i64 0)∧True)∧z91.same z91∧True)∧((0:Int)≤(0:Int)∧(0:Int)≤z9)∧((0:Int)≤x.snd.fst∧x.snd.fst<(4294967296:Int))∧(aH<z71∧z71<z22)∧((0:Int)≤(0:Int)∧(0:Int)≤(1:Int))∧(ag eZ∧eZ.length=U.length)∧∃W,(ag W∧W.length=U.length)∧(∀(m:Nat),m<j∨j+z1≤m→ae W m (0:Int)=ae U m (0:Int))∧ac (prt W j z1)=aH - z71+z27∧(∀(m:Nat),m<j∨j+0≤m→ae eZ m (0:Int)=ae W m (0:Int))∧ac (prt eZ j 0)+(0:Int)=ac (prt W j 0)+ac [])∧∀(x:Int×Int×Int×List Int),let jW:=x.snd.fst*ac v;let z93:=x.snd.snd.fst;let ek:=x.snd.snd.snd;let jd:=x.fst.toNat;let kD:=x.fst+(1:Int);let um:=SV.si .u64 x.snd.fst;let lU:=((ae ek (j+jd) 0 % (18446744073709551616:Int)+ae v jd (0:Int) % (18446744073709551616:Int)) % (18446744073709551616:Int)+z93) % (18446744073709551616:Int);let pZ:=lU / (4294967296:Int);let sf:=SV.si .u64 pZ;let uo:=SV.si .i64 kD;let ob:=ek.set (j+jd) (lU % (4294967296:Int));let J9:=af.row z8 ob 161 false;let uq:=kD.toNat;(((0:Int)≤x.fst∧x.fst≤z9)∧((0:Int)≤x.snd.fst∧x.snd.fst<(4294967296:Int))∧(aH<jW∧jW<z22)∧((0:Int)≤z93∧z93≤(1:Int))∧(ag ek∧ek.length=U.length)∧∃W,(ag W∧W.length=U.length)∧(∀(m:Nat),m<j∨j+z1≤m→ae W m (0:Int)=ae U m (0:Int))∧ac (prt W j z1)=aH - jW+z27∧(∀(m:Nat),m<j∨j+jd≤m→ae ek m (0:Int)=ae W m (0:Int))∧ac (prt ek j jd)+(4294967296:Int)^jd*z93=ac (prt W j jd)+ac (List.take jd v))→(decide (x.fst<z9)=true→U.length=ek.length∧(0:Int)≤x.fst∧x.fst<z2∧j+z1≤U.length∧U.length=ek.length∧j+jd<ek.length∧(0:Int)≤x.fst∧x.fst<z0∧jd<v.length∧(0:Int)≤(32:Int)∧(32:Int)≤(64:Int)∧U.length=ek.length∧(0:Int)≤x.fst∧x.fst<z2∧j+z1≤U.length∧U.length=ek.length∧j+jd<ek.length∧aC .i64 kD∧((z7.same z7∧(SV.row z8 v).same (SV.row z8 v)∧ak.same ak∧um.same um∧sf.same sf∧ak.same ak∧uo.same uo∧True)∧J9.same J9∧True)∧(((0:Int)≤kD∧kD≤z9)∧((0:Int)≤x.snd.fst∧x.snd.fst<(4294967296:Int))∧(aH<jW∧jW<z22)∧((0:Int)≤pZ∧pZ≤(1:Int))∧(ag ob∧ob.length=U.length)∧∃W,(ag W∧W.length=U.length)∧(∀(m:Nat),m<j∨j+z1≤m→ae W m (0:Int)=ae U m (0:Int))∧ac (prt W j z1)=aH - jW+z27∧(∀(m:Nat),m<j∨j+uq≤m→ae ob m (0:Int)=ae W m (0:Int))∧ac (prt ob j uq)+(4294967296:Int)^uq*pZ=ac (prt W j uq)+ac (List.take uq v))∧(z9 - kD).toNat<(z9 - x.fst).toNat)∧(decide (x.fst<z9)=false→U.length=ek.length∧(0:Int)≤z9∧z9<z2∧j+z1≤U.length∧U.length=ek.length∧z24<ek.length∧U.length=ek.length∧(0:Int)≤z9∧z9<z2∧j+z1≤U.length∧U.length=ek.length∧z24<ek.length∧(SV.si .u32 ((x.snd.fst - (1:Int)) % (18446744073709551616:Int) % (4294967296:Int))).same z25∧(af.row z8 (ek.set z24 ((ae ek z24 (0:Int)+z93 % (4294967296:Int)) % (4294967296:Int))) 161 false).same z26∧True))))∧(z31=false→((z7.same z7∧(SV.row z8 v).same (SV.row z8 v)∧ak.same ak∧z33.same z33∧z34.same z34∧True)∧ar.same ar∧True)∧(((0:Int)≤z32∧z32≤(4294967297:Int))∧((0:Int)≤z30∧z30<(4294967296:Int))∧z32*ay+z30=z17∧aH<(z32+(1:Int))*ac v)∧z32.toNat<x.fst.toNat))∧(z35=false→(((z7.same z7∧(SV.row z8 v).same (SV.row z8 v)∧ak.same ak∧z36.same z36∧(SV.il .u64 0).same (SV.si .u64 0)∧(SV.il .u64 0).same (SV.si .u64 0)∧ak.same ak∧(SV.il .i64 0).same (SV.si .i64 0)∧True)∧ar.same ar∧True)∧((0:Int)≤(0:Int)∧(0:Int)≤z9)∧((0:Int)≤x.fst∧x.fst<(4294967296:Int))∧(aH<(x.fst+(1:Int))*ac v∧x.fst*ac v<z22)∧((0:Int)≤(0:Int)∧(0:Int)<(4294967296:Int))∧((0:Int)≤(0:Int)∧(0:Int)≤(1:Int))∧(ag U∧U.length=U.length)∧(∀(m:Nat),m<j∨j+0≤m→ae U m (0:Int)=ae U m (0:Int))∧z23=z23 - x.fst*ac []+(0:Int))∧∀(x:Int×Int×Int×Int×List Int),let z105:=x.snd.fst*ac v;let ut:=x.snd.snd.fst;let z107:=x.snd.snd.snd.fst;let fK:=x.snd.snd.snd.snd;let z109:=x.fst.toNat;let sg:=x.fst+(1:Int);let zo:=SV.si .u64 x.snd.fst;let Ko:=(x.snd.fst*(ae v z109 (0:Int) % (18446744073709551616:Int)) % (18446744073709551616:Int)+ut) % (18446744073709551616:Int);let zp:=Ko / (4294967296:Int);let Kp:=SV.si .u64 zp;let Kq:=((ae fK (j+z109) 0 % (18446744073709551616:Int) - dZ.pF .u64 Ko (4294967295:Int)) % (18446744073709551616:Int) - z107) % (18446744073709551616:Int);let z116:=Kq / (9223372036854775808:Int);let z117:=SV.si .u64 z116;let Kr:=SV.si .i64 sg;let z119:=fK.set (j+z109) (Kq % (4294967296:Int));let Ks:=af.row z8 z119 161 false;let uu:=sg.toNat;let Kt:=((ae fK z24 (0:Int) % (18446744073709551616:Int) - ut) % (18446744073709551616:Int) - z107) % (18446744073709551616:Int);let Ku:=decide (Kt / (9223372036854775808:Int)=(0:Int));let z124:=fK.set z24 (Kt % (4294967296:Int));let DT:=af.row z8 z124 161 false;((0:Int)≤x.fst∧x.fst≤z9)∧((0:Int)≤x.snd.fst∧x.snd.fst<(4294967296:Int))∧(aH<(x.snd.fst+(1:Int))*ac v∧z105<z22)∧((0:Int)≤ut∧ut<(4294967296:Int))∧((0:Int)≤z107∧z107≤(1:Int))∧(ag fK∧fK.length=U.length)∧(∀(m:Nat),m<j∨j+z109≤m→ae fK m (0:Int)=ae U m (0:Int))∧ac (prt fK j z109)=ac (prt U j z109) - x.snd.fst*ac (List.take z109 v)+(4294967296:Int)^z109*(ut+z107)→(decide (x.fst<z9)=true→(0:Int)≤x.fst∧x.fst<z0∧z109<v.length∧(0:Int)≤(32:Int)∧(32:Int)≤(64:Int)∧U.length=fK.length∧(0:Int)≤x.fst∧x.fst<z2∧j+z1≤U.length∧U.length=fK.length∧j+z109<fK.length∧(0:Int)≤(63:Int)∧(63:Int)≤(64:Int)∧U.length=fK.length∧(0:Int)≤x.fst∧x.fst<z2∧j+z1≤U.length∧U.length=fK.length∧j+z109<fK.length∧aC .i64 sg∧((z7.same z7∧(SV.row z8 v).same (SV.row z8 v)∧ak.same ak∧zo.same zo∧Kp.same Kp∧z117.same z117∧ak.same ak∧Kr.same Kr∧True)∧Ks.same Ks∧True)∧(((0:Int)≤sg∧sg≤z9)∧((0:Int)≤x.snd.fst∧x.snd.fst<(4294967296:Int))∧(aH<(x.snd.fst+(1:Int))*ac v∧z105<z22)∧((0:Int)≤zp∧zp<(4294967296:Int))∧((0:Int)≤z116∧z116≤(1:Int))∧(ag z119∧z119.length=U.length)∧(∀(m:Nat),m<j∨j+uu≤m→ae z119 m (0:Int)=ae U m (0:Int))∧ac (prt z119 j uu)=ac (prt U j uu) - x.snd.fst*ac (List.take uu v)+(4294967296:Int)^uu*(zp+z116))∧(z9 - sg).toNat<(z9 - x.fst).toNat)∧(decide (x.fst<z9)=false→U.length=fK.length∧(0:Int)≤z9∧z9<z2∧j+z1≤U.length∧U.length=fK.length∧z24<fK.length∧U.length=fK.length∧(0:Int)≤z9∧z9<z2∧j+z1≤U.length∧U.length=fK.length∧z24<fK.length∧(0:Int)≤(63:Int)∧(63:Int)≤(64:Int)∧(Ku=true→(SV.si .u32 (x.snd.fst % (4294967296:Int))).same z25∧DT.same z26∧True)∧(Ku=false→(((z7.same z7∧(SV.row z8 v).same (SV.row z8 v)∧ak.same ak∧zo.same zo∧(SV.il .u64 0).same (SV.si .u64 0)∧ak.same ak∧(SV.il .i64 0).same (SV.si .i64 0)∧True)∧DT.same DT∧True)∧((0:Int)≤(0:Int)∧(0:Int)≤z9)∧((0:Int)≤x.snd.fst∧x.snd.fst<(4294967296:Int))∧(aH<z105∧z105<z22)∧((0:Int)≤(0:Int)∧(0:Int)≤(1:Int))∧(ag z124∧z124.length=U.length)∧∃W,(ag W∧W.length=U.length)∧(∀(m:Nat),m<j∨j+z1≤m→ae W m (0:Int)=ae U m (0:Int))∧ac (prt W j z1)=aH - z105+z27∧(∀(m:Nat),m<j∨j+0≤m→ae z124 m (0:Int)=ae W m (0:Int))∧ac (prt z124 j 0)+(0:Int)=ac (prt W j 0)+ac [])∧∀(x:Int×Int×Int×List Int),let sj:=x.snd.fst*ac v;let z127:=x.snd.snd.fst;let fN:=x.snd.snd.snd;let lh:=x.fst.toNat;let z130:=x.fst+(1:Int);let z131:=SV.si .u64 x.snd.fst;let Kv:=((ae fN (j+lh) 0 % (18446744073709551616:Int)+ae v lh (0:Int) % (18446744073709551616:Int)) % (18446744073709551616:Int)+z127) % (18446744073709551616:Int);let zq:=Kv / (4294967296:Int);let Kw:=SV.si .u64 zq;let Kx:=SV.si .i64 z130;let uv:=fN.set (j+lh) (Kv % (4294967296:Int));let Ky:=af.row z8 uv 161 false;let z138:=z130.toNat;(((0:Int)≤x.fst∧x.fst≤z9)∧((0:Int)≤x.snd.fst∧x.snd.fst<(4294967296:Int))∧(aH<sj∧sj<z22)∧((0:Int)≤z127∧z127≤(1:Int))∧(ag fN∧fN.length=U.length)∧∃W,(ag W∧W.length=U.length)∧(∀(m:Nat),m<j∨j+z1≤m→ae W m (0:Int)=ae U m (0:Int))∧ac (prt W j z1)=aH - sj+z27∧(∀(m:Nat),m<j∨j+lh≤m→ae fN m (0:Int)=ae W m (0:Int))∧ac (prt fN j lh)+(4294967296:Int)^lh*z127=ac (prt W j lh)+ac (List.take lh v))→(decide (x.fst<z9)=true→U.length=fN.length∧(0:Int)≤x.fst∧x.fst<z2∧j+z1≤U.length∧U.length=fN.length∧j+lh<fN.length∧(0:Int)≤x.fst∧x.fst<z0∧lh<v.length∧(0:Int)≤(32:Int)∧(32:Int)≤(64:Int)∧U.length=fN.length∧(0:Int)≤x.fst∧x.fst<z2∧j+z1≤U.length∧U.length=fN.length∧j+lh<fN.length∧aC .i64 z130∧((z7.same z7∧(SV.row z8 v).same (SV.row z8 v)∧ak.same ak∧z131.same z131∧Kw.same Kw∧ak.same ak∧Kx.same Kx∧True)∧Ky.same Ky∧True)∧(((0:Int)≤z130∧z130≤z9)∧((0:Int)≤x.snd.fst∧x.snd.fst<(4294967296:Int))∧(aH<sj∧sj<z22)∧((0:Int)≤zq∧zq≤(1:Int))∧(ag uv∧uv.length=U.length)∧∃W,(ag W∧W.length=U.length)∧(∀(m:Nat),m<j∨j+z1≤m→ae W m (0:Int)=ae U m (0:Int))∧ac (prt W j z1)=aH - sj+z27∧(∀(m:Nat),m<j∨j+z138≤m→ae uv m (0:Int)=ae W m (0:Int))∧ac (prt uv j z138)+(4294967296:Int)^z138*zq=ac (prt W j z138)+ac (List.take z138 v))∧(z9 - z130).toNat<(z9 - x.fst).toNat)∧(decide (x.fst<z9)=false→U.length=fN.length∧(0:Int)≤z9∧z9<z2∧j+z1≤U.length∧U.length=fN.length∧z24<fN.length∧U.length=fN.length∧(0:Int)≤z9∧z9<z2∧j+z1≤U.length∧U.length=fN.length∧z24<fN.length∧(SV.si .u32 ((x.snd.fst - (1:Int)) % (18446744073709551616:Int) % (4294967296:Int))).same z25∧(af.row z8 (fN.set z24 ((ae fN z24 (0:Int)+z127 % (4294967296:Int)) % (4294967296:Int))) 161 false).same z26∧True)))))) (by kernel_rfl) ?_
 simp only[vcs]
 have t1:((v.length:Int) - 1).toNat=v.length - 1:=by omega
 have t2:((v.length:Int) - 2).toNat=v.length - 2:=by omega
 have t3:((v.length:Int)).toNat=v.length:=by omega
 have so:=Xu hn rfl
 have sr:=@Xv U j v.length hn
 have dv1:=bK hv (v.length - 1)
 have qb:=bK hv (v.length - 2)
 have Kz:=bK hU (j+v.length)
 have DU:=bK hU (j+(v.length - 1))
 have zr:=bK hU (j+(v.length - 2))
 have m1:ae v (v.length - 1) 0 % 18446744073709551616=ae v (v.length - 1) 0:=by omega
 have m2:ae v (v.length - 2) 0 % 18446744073709551616=ae v (v.length - 2) 0:=by omega
 have m3:ae U (j+v.length) 0 % 18446744073709551616=ae U (j+v.length) 0:=by omega
 have m4:ae U (j+(v.length - 1)) 0 % 18446744073709551616=ae U (j+(v.length - 1)) 0:=by omega
 have m5:ae U (j+(v.length - 2)) 0 % 18446744073709551616=ae U (j+(v.length - 2)) 0:=by omega
 have m6:ae U (j+v.length) 0*4294967296 % 18446744073709551616=ae U (j+v.length) 0*4294967296:=by omega
 have hor:=Du Kz.1 Kz.2 DU.1 DU.2
 have htop:0≤ae U (j+v.length) 0*4294967296+ae U (j+(v.length - 1)) 0:=by omega
 have hx':ac (prt U j (v.length+1))<4294967296*ac v:=hx
 have hP:=pow_pos (v.length - 2)
 have fi:=bQ (fJ hv (v.length - 2))
 have sd:=eI (fJ hv (v.length - 2))
 rw[List.length_take,Nat.min_eq_left (by omega)] at sd
 have eW:=bQ (nZ hU (j:=j) (k:=v.length - 2))
 have DV:=pY hU (j:=j) (k:=v.length - 2)
 have DJ:=bQ hv
 have hX0:=bQ (nZ hU (j:=j) (k:=v.length+1))
 have htp:=Xt hP so sr sd eW zr.1 DU.1 qb.2 hx'
 have hax:(jc.mk U j (v.length+1) U.length v).x=ac (prt U j (v.length+1)):=rfl
 simp only[hax,t1,t2,t3,m1,m2,m3,m4,m5,m6,hor,Int.tdiv_eq_ediv_of_nonneg htop,Int.tmod_eq_emod_of_nonneg htop]
 generalize Xx:ae v (v.length - 1) 0=v1 at*
 generalize Xy:ae v (v.length - 2) 0=v2 at*
 generalize aaI:ae U (j+v.length) 0=u0 at*
 generalize Xz:ae U (j+(v.length - 1)) 0=u1 at*
 generalize XA:ae U (j+(v.length - 2)) 0=u2 at*
 have hqr:=Int.mul_ediv_add_emod (u0*4294967296+u1) v1
 have hr0:=Int.emod_nonneg (u0*4294967296+u1) (show v1≠0 by omega)
 have hr1:=Int.emod_lt_of_pos (u0*4294967296+u1) (show 0<v1 by omega)
 have hg0:0≤(u0*4294967296+u1) / v1:=Int.ediv_nonneg htop (by omega)
 generalize hge:(u0*4294967296+u1) / v1=g0 at*
 generalize hre:(u0*4294967296+u1) % v1=r0 at*
 have hg1:g0≤4294967297:=by
  by_cases h:g0≤4294967297
  ·exact h
  ·exfalso
   have:=Int.mul_le_mul_of_nonneg_left (show(4294967298:Int)≤g0 by omega) (show 0≤v1 by omega)
   omega
 have KA:g0*v1+r0=u1+4294967296*u0:=by rw[Int.mul_comm g0];omega
 have hst:=Xr hP so sr fi DV qb.1 zr.2 hg0 KA hr1
 have hin:aC .u64 g0:=u64_in hg0 (by omega)
 repeat refine And.intro (by omega) ?_
 clear t1 t2 t3 m1 m2 m3 m4 m5 m6 hor htop hge hre hqr hr0 hr1 hg0 hg1 KA hst hin Xx Xy Xz XA hx
 rintro⟨g,r⟩ ⟨⟨g0',g1'⟩,⟨r0',r1'⟩,hgr,hgx⟩
 simp only at g0' g1' r0' r1' hgr hgx ⊢
 have zt:0<g+1:=by omega
 have e1:(r+v1) % 18446744073709551616=r+v1:=by omega
 have e2:r*4294967296 % 18446744073709551616=r*4294967296:=by omega
 have XB:0≤g*v2:=Int.mul_nonneg g0' qb.1
 have XC:g*v2≤4294967297*4294967295:=Int.mul_le_mul (by omega) (by omega) qb.1 (by omega)
 have e3:g*v2 % 18446744073709551616=g*v2:=by omega
 have hor2:=Du r0' r1' zr.1 zr.2
 have DW:g*v1+r=u1+4294967296*u0:=hgr
 have KB:4294967296≤r+v1→g≤4294967296:=fun h=>by
  by_cases hg:g≤4294967296
  ·exact hg
  ·have:g=4294967297:=by omega
   subst this
   omega
 have dec:(4294967296≤g∨r*4294967296+u2<g*v2)→(ac (prt U j (v.length+1))<g*ac v∧(g - 1) % 18446744073709551616=g - 1∧0≤g - 1∧(g - 1)*v1+(r+v1)=u1+4294967296*u0):=fun h=>by
  have h1:=Xq hP so sr fi DV hx' DJ g0' DW h
  have h2:g≠0:=by
   rintro rfl
   omega
  refine⟨h1,by omega,by omega,?_⟩
  rw[Int.sub_mul,Int.one_mul]
  omega
 simp only[e1,e2,e3,hor2]
 have brk:(4294967296≤g∨r*4294967296+u2<g*v2)→4294967296≤r+v1→∃gg,gg=(g - 1) % 18446744073709551616∧(0≤gg∧gg<4294967296)∧ac (prt U j (v.length+1))<(gg+1)*ac v∧gg*ac v<ac (prt U j (v.length+1))+ac v:=fun h hb=>by
  obtain⟨k1,k2,k3,k4⟩:=dec h
  have k5:=KB hb
  rw[k2]
  refine⟨_,rfl,by omega,by rw[show g - 1+1=g by omega];exact k1,J7 hP so sr fi sd eW hv1 qb.1 k3 (by omega) k4 ?_⟩
  have:=Int.mul_le_mul (show g - 1≤4294967295 by omega) (show v2≤4294967295 by omega) qb.1 (by omega)
  omega
 have uw:(4294967296≤g∨r*4294967296+u2<g*v2)→¬4294967296≤r+v1→(0≤(g - 1) % 18446744073709551616∧(g - 1) % 18446744073709551616≤4294967297)∧(g - 1) % 18446744073709551616*v1+(r+v1)=u1+4294967296*u0∧ac (prt U j (v.length+1))<((g - 1) % 18446744073709551616+1)*ac v∧((g - 1) % 18446744073709551616).toNat<g.toNat:=fun h hb=>by
  obtain⟨k1,k2,k3,k4⟩:=dec h
  rw[k2]
  exact⟨by omega,k4,by rw[show g - 1+1=g by omega];exact k1,by omega⟩
 have ext:¬4294967296≤g→¬r*4294967296+u2<g*v2→∃gg,gg=g∧(0≤gg∧gg<4294967296)∧ac (prt U j (v.length+1))<(gg+1)*ac v∧gg*ac v<ac (prt U j (v.length+1))+ac v:=fun h h2=>
  ⟨_,rfl,by omega,hgx,J7 hP so sr fi sd eW hv1 qb.1 g0' (by omega) DW (by omega)⟩
 clear DW zt e1 e2 e3 XB XC hor2 so sr fi sd eW DV KB dec htp
 refine⟨fun hB=>?_,fun hB=>?_⟩
 ·refine⟨by omega,by omega,by omega,by omega,?_⟩
  refine⟨fun hb=>?_,fun hb=>?_⟩
  ·obtain⟨gg,hgg,f0,f2,f3⟩:=brk (.inl hB) hb
   rw[←hgg]
   clear hB hb
   clear hgg brk uw ext hgx hgr
   refine⟨?_,?_⟩
   ·repeat' refine And.intro ?_ ?_
    all_goals first|omega|exact hU|exact f2|exact f3|exact fun _ _=>trivial|(simp only[ac];omega)
   clear f0 f2 f3
   rintro⟨i,ga,c,b,R⟩ ⟨⟨i0,i1⟩,⟨jA,li⟩,⟨f2,f3⟩,⟨c0,c1⟩,⟨b0,b1⟩,⟨hR,hRl⟩,ho,he⟩
   simp only at i0 i1 jA li f2 f3 c0 c1 b0 b1 hR hRl ho he ⊢
   refine⟨fun ig=>?_,fun ja=>?_⟩
   ·have x:=bK hv i.toNat
    have y:=bK hR (j+i.toNat)
    have KC:0≤ga*ae v i.toNat 0:=Int.mul_nonneg jA x.1
    have KD:ga*ae v i.toNat 0≤4294967295*4294967295:=Int.mul_le_mul (by omega) (by omega) x.1 (by omega)
    have q1:ae v i.toNat 0 % 18446744073709551616=ae v i.toNat 0:=by omega
    have q2:ae R (j+i.toNat) 0 % 18446744073709551616=ae R (j+i.toNat) 0:=by omega
    have q3:(ga*ae v i.toNat 0 % 18446744073709551616+c) % 18446744073709551616=ga*ae v i.toNat 0+c:=by omega
    have hi1:(i+1).toNat=i.toNat+1:=by omega
    rw[q1,q2,q3,DK (by omega) (by omega),hi1]
    generalize hq:((ae R (j+i.toNat) 0 - (ga*ae v i.toNat 0+c) % 4294967296) % 18446744073709551616 - b) % 18446744073709551616=q
    obtain⟨k1,k2,k3,k4,k5⟩:=DL (d:=q % 4294967296) (e:=q / 9223372036854775808) hR hRl hv jA li c0 c1 b0 b1 (show j+i.toNat<U.length by omega) ho he (by omega) (by omega)
    repeat' refine And.intro ?_ ?_
    all_goals first|omega|exact k1|exact k2|exact k3|exact k4|exact k5|exact f2|exact f3
   ·have hi:i.toNat=v.length:=by omega
    rw[hi,List.take_length] at he
    rw[hi] at ho
    have hun:=ho (j+v.length) (.inr (Nat.le_refl _))
    have du:=bK hU (j+v.length)
    have q2:ae R (j+v.length) 0 % 18446744073709551616=ae R (j+v.length) 0:=by rw[hun];omega
    have lj:=@gj U j v.length
    rw[q2]
    generalize hq:((ae R (j+v.length) 0 - c) % 18446744073709551616 - b) % 18446744073709551616=q
    have fO:ag (R.set (j+v.length) (q % 4294967296)):=jb hR (by omega) (by omega)
    have hlen:(R.set (j+v.length) (q % 4294967296)).length=U.length:=by simp[hRl]
    have hout:∀m,(m<j∨j+(v.length+1)≤m)→ae (R.set (j+v.length) (q % 4294967296)) m 0=ae U m 0:=fun m hm=>by rw[jU (by omega)];exact ho m (by omega)
    have hval:ac (prt (R.set (j+v.length) (q % 4294967296)) j (v.length+1))=ac (prt U j (v.length+1)) - ga*ac v+4294967296^(v.length+1)*(q / 9223372036854775808):=by
     rw[gj,nY (Nat.le_refl _),mR (by omega),he,lj,Int.pow_succ]
     have hd:q % 4294967296 - 4294967296*(q / 9223372036854775808)=ae U (j+v.length) 0 - c - b:=by rw[hun] at hq;omega
     generalize (4294967296:Int)^v.length=B
     have e:B*4294967296*(q / 9223372036854775808)=B*(q % 4294967296+c+b - ae U (j+v.length) 0):=by rw[Int.mul_assoc];congr 1;omega
     rw[e]
     simp only[Int.mul_add,Int.mul_sub]
     omega
    generalize hW:R.set (j+v.length) (q % 4294967296)=W at*
    have hbd:=pY fO (j:=j) (k:=v.length+1)
    have hnn:=bQ (nZ fO (j:=j) (k:=v.length+1))
    have q3:0≤q∧q<18446744073709551616:=by omega
    clear hq hun du q2 he ho hR
    repeat refine And.intro (by omega) ?_
    refine⟨fun hz=>?_,fun hz=>?_⟩
    ·rw[hz,Int.mul_zero,Int.add_zero] at hval
     obtain⟨w1,w2⟩:=oa (q:=ga) (show ga*ac v≤ac (prt U j (v.length+1)) by omega) f2
     refine⟨by rw[w1];omega,?_⟩
     have hfin:W=eR U j (eb (v.length+1) (ac (prt U j (v.length+1)) % ac v)):=sa fO hlen (by omega) hout (by rw[hval,w2])
     rw[hfin]
     rfl
    ·have hq1:q / 9223372036854775808=1:=by omega
     rw[hq1,Int.mul_one] at hval
     have f4:ac (prt U j (v.length+1))<ga*ac v:=by omega
     refine⟨?_,?_⟩
     ·repeat' refine And.intro ?_ ?_
      all_goals first|omega|exact fO|exact hlen|exact⟨W,⟨fO,hlen⟩,hout,hval,fun _ _=>rfl,by simp only[ac]⟩
     clear fO hlen hout hval hW hbd hnn q3 hz hq1 f4 f2 f3 c0 c1 b0 b1 i0 i1 jA li
     rintro⟨i2,gb,c2,R2⟩ ⟨⟨i0,i1⟩,⟨uy,uz⟩,⟨f5,f6⟩,⟨c0,c1⟩,⟨hR2,ll⟩,W2,⟨hW2,od⟩,ho2,og,ho3,iR⟩
     simp only at i0 i1 uy uz f5 f6 c0 c1 hR2 ll ho3 iR ⊢
     refine⟨fun ig=>?_,fun ja=>?_⟩
     ·have x:=bK hv i2.toNat
      have y:=bK hR2 (j+i2.toNat)
      have hi1:(i2+1).toNat=i2.toNat+1:=by omega
      rw[hi1]
      have hs:((ae R2 (j+i2.toNat) 0 % 18446744073709551616+ae v i2.toNat 0 % 18446744073709551616) % 18446744073709551616+c2) % 18446744073709551616=ae R2 (j+i2.toNat) 0+ae v i2.toNat 0+c2:=by omega
      rw[hs]
      obtain⟨k1,k2,k3,k4,k5⟩:=DN hR2 (ll.trans od.symm) hv c0 c1 (show j+i2.toNat<W2.length by omega) hW2 ho3 iR rfl
      repeat' refine And.intro ?_ ?_
      all_goals first|omega|exact k1|exact f5|exact f6|exact⟨W2,⟨hW2,od⟩,ho2,og,k4,k5⟩
     ·have hi2:i2.toNat=v.length:=by omega
      rw[hi2,List.take_length] at iR
      rw[hi2] at ho3
      have hun:=ho3 (j+v.length) (.inr (Nat.le_refl _))
      have du:=bK hW2 (j+v.length)
      have lj:=@gj W2 j v.length
      have hc2:c2 % 4294967296=c2:=by omega
      rw[hc2,hun]
      have hF:ag (R2.set (j+v.length) ((ae W2 (j+v.length) 0+c2) % 4294967296)):=jb hR2 (by omega) (by omega)
      have uA:(R2.set (j+v.length) ((ae W2 (j+v.length) 0+c2) % 4294967296)).length=U.length:=by simp[ll]
      have uB:∀m,(m<j∨j+(v.length+1)≤m)→ae (R2.set (j+v.length) ((ae W2 (j+v.length) 0+c2) % 4294967296)) m 0=ae U m 0:=fun m hm=>by rw[jU (by omega),ho3 m (by omega)];exact ho2 m hm
      have lm:ac (prt (R2.set (j+v.length) ((ae W2 (j+v.length) 0+c2) % 4294967296)) j (v.length+1))=ac (prt U j (v.length+1)) - gb*ac v+4294967296^(v.length+1)+ac v - 4294967296^(v.length+1)*((ae W2 (j+v.length) 0+c2) / 4294967296):=by
       rw[gj,nY (Nat.le_refl _),mR (by omega),←og,lj,Int.pow_succ]
       generalize (4294967296:Int)^v.length=B at*
       have e:B*4294967296*((ae W2 (j+v.length) 0+c2) / 4294967296)=B*(ae W2 (j+v.length) 0+c2 - (ae W2 (j+v.length) 0+c2) % 4294967296):=by rw[Int.mul_assoc];congr 1;omega
       rw[e]
       simp only[Int.mul_add,Int.mul_sub]
       omega
      have hbd:=pY hF (j:=j) (k:=v.length+1)
      have hk:(ae W2 (j+v.length) 0+c2) / 4294967296=1:=by
       by_cases h:(ae W2 (j+v.length) 0+c2) / 4294967296=1
       ·exact h
       ·have h0:(ae W2 (j+v.length) 0+c2) / 4294967296=0:=by omega
        rw[h0,Int.mul_zero] at lm
        omega
      rw[hk,Int.mul_one] at lm
      have e1:(gb - 1)*ac v=gb*ac v - ac v:=by rw[Int.sub_mul,Int.one_mul]
      obtain⟨w1,w2⟩:=oa (q:=gb - 1) (show(gb - 1)*ac v≤ac (prt U j (v.length+1)) by omega) (by rw[show gb - 1+1=gb by omega];exact f5)
      have zt:0<gb:=by
       by_cases h:0<gb
       ·exact h
       ·have:gb=0:=by omega
        subst this
        omega
      have hfin:R2.set (j+v.length) ((ae W2 (j+v.length) 0+c2) % 4294967296)=eR U j (eb (v.length+1) (ac (prt U j (v.length+1)) % ac v)):=sa hF uA (by omega) uB (by rw[lm,w2,e1];omega)
      repeat refine And.intro (by omega) ?_
      rw[hfin]
      rfl
  ·obtain⟨k1,k2,k3,k4⟩:=uw (.inl hB) hb
   repeat' refine And.intro ?_ ?_
   all_goals first|omega|exact k2|exact k3
 ·repeat refine And.intro (by omega) ?_
  refine⟨fun hc=>?_,fun hc=>?_⟩
  ·repeat refine And.intro (by omega) ?_
   refine⟨fun hb=>?_,fun hb=>?_⟩
   ·obtain⟨gg,hgg,f0,f2,f3⟩:=brk (.inr hc) hb
    rw[←hgg]
    clear hB hb hc
    clear hgg brk uw ext hgx hgr
    refine⟨?_,?_⟩
    ·repeat' refine And.intro ?_ ?_
     all_goals first|omega|exact hU|exact f2|exact f3|exact fun _ _=>trivial|(simp only[ac];omega)
    clear f0 f2 f3
    rintro⟨i,ga,c,b,R⟩ ⟨⟨i0,i1⟩,⟨jA,li⟩,⟨f2,f3⟩,⟨c0,c1⟩,⟨b0,b1⟩,⟨hR,hRl⟩,ho,he⟩
    simp only at i0 i1 jA li f2 f3 c0 c1 b0 b1 hR hRl ho he ⊢
    refine⟨fun ig=>?_,fun ja=>?_⟩
    ·have x:=bK hv i.toNat
     have y:=bK hR (j+i.toNat)
     have KC:0≤ga*ae v i.toNat 0:=Int.mul_nonneg jA x.1
     have KD:ga*ae v i.toNat 0≤4294967295*4294967295:=Int.mul_le_mul (by omega) (by omega) x.1 (by omega)
     have q1:ae v i.toNat 0 % 18446744073709551616=ae v i.toNat 0:=by omega
     have q2:ae R (j+i.toNat) 0 % 18446744073709551616=ae R (j+i.toNat) 0:=by omega
     have q3:(ga*ae v i.toNat 0 % 18446744073709551616+c) % 18446744073709551616=ga*ae v i.toNat 0+c:=by omega
     have hi1:(i+1).toNat=i.toNat+1:=by omega
     rw[q1,q2,q3,DK (by omega) (by omega),hi1]
     generalize hq:((ae R (j+i.toNat) 0 - (ga*ae v i.toNat 0+c) % 4294967296) % 18446744073709551616 - b) % 18446744073709551616=q
     obtain⟨k1,k2,k3,k4,k5⟩:=DL (d:=q % 4294967296) (e:=q / 9223372036854775808) hR hRl hv jA li c0 c1 b0 b1 (show j+i.toNat<U.length by omega) ho he (by omega) (by omega)
     repeat' refine And.intro ?_ ?_
     all_goals first|omega|exact k1|exact k2|exact k3|exact k4|exact k5|exact f2|exact f3
    ·have hi:i.toNat=v.length:=by omega
     rw[hi,List.take_length] at he
     rw[hi] at ho
     have hun:=ho (j+v.length) (.inr (Nat.le_refl _))
     have du:=bK hU (j+v.length)
     have q2:ae R (j+v.length) 0 % 18446744073709551616=ae R (j+v.length) 0:=by rw[hun];omega
     have lj:=@gj U j v.length
     rw[q2]
     generalize hq:((ae R (j+v.length) 0 - c) % 18446744073709551616 - b) % 18446744073709551616=q
     have fO:ag (R.set (j+v.length) (q % 4294967296)):=jb hR (by omega) (by omega)
     have hlen:(R.set (j+v.length) (q % 4294967296)).length=U.length:=by simp[hRl]
     have hout:∀m,(m<j∨j+(v.length+1)≤m)→ae (R.set (j+v.length) (q % 4294967296)) m 0=ae U m 0:=fun m hm=>by rw[jU (by omega)];exact ho m (by omega)
     have hval:ac (prt (R.set (j+v.length) (q % 4294967296)) j (v.length+1))=ac (prt U j (v.length+1)) - ga*ac v+4294967296^(v.length+1)*(q / 9223372036854775808):=by
      rw[gj,nY (Nat.le_refl _),mR (by omega),he,lj,Int.pow_succ]
      have hd:q % 4294967296 - 4294967296*(q / 9223372036854775808)=ae U (j+v.length) 0 - c - b:=by rw[hun] at hq;omega
      generalize (4294967296:Int)^v.length=B
      have e:B*4294967296*(q / 9223372036854775808)=B*(q % 4294967296+c+b - ae U (j+v.length) 0):=by rw[Int.mul_assoc];congr 1;omega
      rw[e]
      simp only[Int.mul_add,Int.mul_sub]
      omega
     generalize hW:R.set (j+v.length) (q % 4294967296)=W at*
     have hbd:=pY fO (j:=j) (k:=v.length+1)
     have hnn:=bQ (nZ fO (j:=j) (k:=v.length+1))
     have q3:0≤q∧q<18446744073709551616:=by omega
     clear hq hun du q2 he ho hR
     repeat refine And.intro (by omega) ?_
     refine⟨fun hz=>?_,fun hz=>?_⟩
     ·rw[hz,Int.mul_zero,Int.add_zero] at hval
      obtain⟨w1,w2⟩:=oa (q:=ga) (show ga*ac v≤ac (prt U j (v.length+1)) by omega) f2
      refine⟨by rw[w1];omega,?_⟩
      have hfin:W=eR U j (eb (v.length+1) (ac (prt U j (v.length+1)) % ac v)):=sa fO hlen (by omega) hout (by rw[hval,w2])
      rw[hfin]
      rfl
     ·have hq1:q / 9223372036854775808=1:=by omega
      rw[hq1,Int.mul_one] at hval
      have f4:ac (prt U j (v.length+1))<ga*ac v:=by omega
      refine⟨?_,?_⟩
      ·repeat' refine And.intro ?_ ?_
       all_goals first|omega|exact fO|exact hlen|exact⟨W,⟨fO,hlen⟩,hout,hval,fun _ _=>rfl,by simp only[ac]⟩
      clear fO hlen hout hval hW hbd hnn q3 hz hq1 f4 f2 f3 c0 c1 b0 b1 i0 i1 jA li
      rintro⟨i2,gb,c2,R2⟩ ⟨⟨i0,i1⟩,⟨uy,uz⟩,⟨f5,f6⟩,⟨c0,c1⟩,⟨hR2,ll⟩,W2,⟨hW2,od⟩,ho2,og,ho3,iR⟩
      simp only at i0 i1 uy uz f5 f6 c0 c1 hR2 ll ho3 iR ⊢
      refine⟨fun ig=>?_,fun ja=>?_⟩
      ·have x:=bK hv i2.toNat
       have y:=bK hR2 (j+i2.toNat)
       have hi1:(i2+1).toNat=i2.toNat+1:=by omega
       rw[hi1]
       have hs:((ae R2 (j+i2.toNat) 0 % 18446744073709551616+ae v i2.toNat 0 % 18446744073709551616) % 18446744073709551616+c2) % 18446744073709551616=ae R2 (j+i2.toNat) 0+ae v i2.toNat 0+c2:=by omega
       rw[hs]
       obtain⟨k1,k2,k3,k4,k5⟩:=DN hR2 (ll.trans od.symm) hv c0 c1 (show j+i2.toNat<W2.length by omega) hW2 ho3 iR rfl
       repeat' refine And.intro ?_ ?_
       all_goals first|omega|exact k1|exact f5|exact f6|exact⟨W2,⟨hW2,od⟩,ho2,og,k4,k5⟩
      ·have hi2:i2.toNat=v.length:=by omega
       rw[hi2,List.take_length] at iR
       rw[hi2] at ho3
       have hun:=ho3 (j+v.length) (.inr (Nat.le_refl _))
       have du:=bK hW2 (j+v.length)
       have lj:=@gj W2 j v.length
       have hc2:c2 % 4294967296=c2:=by omega
       rw[hc2,hun]
       have hF:ag (R2.set (j+v.length) ((ae W2 (j+v.length) 0+c2) % 4294967296)):=jb hR2 (by omega) (by omega)
       have uA:(R2.set (j+v.length) ((ae W2 (j+v.length) 0+c2) % 4294967296)).length=U.length:=by simp[ll]
       have uB:∀m,(m<j∨j+(v.length+1)≤m)→ae (R2.set (j+v.length) ((ae W2 (j+v.length) 0+c2) % 4294967296)) m 0=ae U m 0:=fun m hm=>by rw[jU (by omega),ho3 m (by omega)];exact ho2 m hm
       have lm:ac (prt (R2.set (j+v.length) ((ae W2 (j+v.length) 0+c2) % 4294967296)) j (v.length+1))=ac (prt U j (v.length+1)) - gb*ac v+4294967296^(v.length+1)+ac v - 4294967296^(v.length+1)*((ae W2 (j+v.length) 0+c2) / 4294967296):=by
        rw[gj,nY (Nat.le_refl _),mR (by omega),←og,lj,Int.pow_succ]
        generalize (4294967296:Int)^v.length=B at*
        have e:B*4294967296*((ae W2 (j+v.length) 0+c2) / 4294967296)=B*(ae W2 (j+v.length) 0+c2 - (ae W2 (j+v.length) 0+c2) % 4294967296):=by rw[Int.mul_assoc];congr 1;omega
        rw[e]
        simp only[Int.mul_add,Int.mul_sub]
        omega
       have hbd:=pY hF (j:=j) (k:=v.length+1)
       have hk:(ae W2 (j+v.length) 0+c2) / 4294967296=1:=by
        by_cases h:(ae W2 (j+v.length) 0+c2) / 4294967296=1
        ·exact h
        ·have h0:(ae W2 (j+v.length) 0+c2) / 4294967296=0:=by omega
         rw[h0,Int.mul_zero] at lm
         omega
       rw[hk,Int.mul_one] at lm
       have e1:(gb - 1)*ac v=gb*ac v - ac v:=by rw[Int.sub_mul,Int.one_mul]
       obtain⟨w1,w2⟩:=oa (q:=gb - 1) (show(gb - 1)*ac v≤ac (prt U j (v.length+1)) by omega) (by rw[show gb - 1+1=gb by omega];exact f5)
       have zt:0<gb:=by
        by_cases h:0<gb
        ·exact h
        ·have:gb=0:=by omega
         subst this
         omega
       have hfin:R2.set (j+v.length) ((ae W2 (j+v.length) 0+c2) % 4294967296)=eR U j (eb (v.length+1) (ac (prt U j (v.length+1)) % ac v)):=sa hF uA (by omega) uB (by rw[lm,w2,e1];omega)
       repeat refine And.intro (by omega) ?_
       rw[hfin]
       rfl
   ·obtain⟨k1,k2,k3,k4⟩:=uw (.inr hc) hb
    repeat' refine And.intro ?_ ?_
    all_goals first|omega|exact k2|exact k3
  ·obtain⟨gg,hgg,f0,f2,f3⟩:=ext hB hc
   rw[←hgg]
   clear hB hc
   clear hgg brk uw ext hgx hgr
   refine⟨?_,?_⟩
   ·repeat' refine And.intro ?_ ?_
    all_goals first|omega|exact hU|exact f2|exact f3|exact fun _ _=>trivial|(simp only[ac];omega)
   clear f0 f2 f3
   rintro⟨i,ga,c,b,R⟩ ⟨⟨i0,i1⟩,⟨jA,li⟩,⟨f2,f3⟩,⟨c0,c1⟩,⟨b0,b1⟩,⟨hR,hRl⟩,ho,he⟩
   simp only at i0 i1 jA li f2 f3 c0 c1 b0 b1 hR hRl ho he ⊢
   refine⟨fun ig=>?_,fun ja=>?_⟩
   ·have x:=bK hv i.toNat
    have y:=bK hR (j+i.toNat)
    have KC:0≤ga*ae v i.toNat 0:=Int.mul_nonneg jA x.1
    have KD:ga*ae v i.toNat 0≤4294967295*4294967295:=Int.mul_le_mul (by omega) (by omega) x.1 (by omega)
    have q1:ae v i.toNat 0 % 18446744073709551616=ae v i.toNat 0:=by omega
    have q2:ae R (j+i.toNat) 0 % 18446744073709551616=ae R (j+i.toNat) 0:=by omega
    have q3:(ga*ae v i.toNat 0 % 18446744073709551616+c) % 18446744073709551616=ga*ae v i.toNat 0+c:=by omega
    have hi1:(i+1).toNat=i.toNat+1:=by omega
    rw[q1,q2,q3,DK (by omega) (by omega),hi1]
    generalize hq:((ae R (j+i.toNat) 0 - (ga*ae v i.toNat 0+c) % 4294967296) % 18446744073709551616 - b) % 18446744073709551616=q
    obtain⟨k1,k2,k3,k4,k5⟩:=DL (d:=q % 4294967296) (e:=q / 9223372036854775808) hR hRl hv jA li c0 c1 b0 b1 (show j+i.toNat<U.length by omega) ho he (by omega) (by omega)
    repeat' refine And.intro ?_ ?_
    all_goals first|omega|exact k1|exact k2|exact k3|exact k4|exact k5|exact f2|exact f3
   ·have hi:i.toNat=v.length:=by omega
    rw[hi,List.take_length] at he
    rw[hi] at ho
    have hun:=ho (j+v.length) (.inr (Nat.le_refl _))
    have du:=bK hU (j+v.length)
    have q2:ae R (j+v.length) 0 % 18446744073709551616=ae R (j+v.length) 0:=by rw[hun];omega
    have lj:=@gj U j v.length
    rw[q2]
    generalize hq:((ae R (j+v.length) 0 - c) % 18446744073709551616 - b) % 18446744073709551616=q
    have fO:ag (R.set (j+v.length) (q % 4294967296)):=jb hR (by omega) (by omega)
    have hlen:(R.set (j+v.length) (q % 4294967296)).length=U.length:=by simp[hRl]
    have hout:∀m,(m<j∨j+(v.length+1)≤m)→ae (R.set (j+v.length) (q % 4294967296)) m 0=ae U m 0:=fun m hm=>by rw[jU (by omega)];exact ho m (by omega)
    have hval:ac (prt (R.set (j+v.length) (q % 4294967296)) j (v.length+1))=ac (prt U j (v.length+1)) - ga*ac v+4294967296^(v.length+1)*(q / 9223372036854775808):=by
     rw[gj,nY (Nat.le_refl _),mR (by omega),he,lj,Int.pow_succ]
     have hd:q % 4294967296 - 4294967296*(q / 9223372036854775808)=ae U (j+v.length) 0 - c - b:=by rw[hun] at hq;omega
     generalize (4294967296:Int)^v.length=B
     have e:B*4294967296*(q / 9223372036854775808)=B*(q % 4294967296+c+b - ae U (j+v.length) 0):=by rw[Int.mul_assoc];congr 1;omega
     rw[e]
     simp only[Int.mul_add,Int.mul_sub]
     omega
    generalize hW:R.set (j+v.length) (q % 4294967296)=W at*
    have hbd:=pY fO (j:=j) (k:=v.length+1)
    have hnn:=bQ (nZ fO (j:=j) (k:=v.length+1))
    have q3:0≤q∧q<18446744073709551616:=by omega
    clear hq hun du q2 he ho hR
    repeat refine And.intro (by omega) ?_
    refine⟨fun hz=>?_,fun hz=>?_⟩
    ·rw[hz,Int.mul_zero,Int.add_zero] at hval
     obtain⟨w1,w2⟩:=oa (q:=ga) (show ga*ac v≤ac (prt U j (v.length+1)) by omega) f2
     refine⟨by rw[w1];omega,?_⟩
     have hfin:W=eR U j (eb (v.length+1) (ac (prt U j (v.length+1)) % ac v)):=sa fO hlen (by omega) hout (by rw[hval,w2])
     rw[hfin]
     rfl
    ·have hq1:q / 9223372036854775808=1:=by omega
     rw[hq1,Int.mul_one] at hval
     have f4:ac (prt U j (v.length+1))<ga*ac v:=by omega
     refine⟨?_,?_⟩
     ·repeat' refine And.intro ?_ ?_
      all_goals first|omega|exact fO|exact hlen|exact⟨W,⟨fO,hlen⟩,hout,hval,fun _ _=>rfl,by simp only[ac]⟩
     clear fO hlen hout hval hW hbd hnn q3 hz hq1 f4 f2 f3 c0 c1 b0 b1 i0 i1 jA li
     rintro⟨i2,gb,c2,R2⟩ ⟨⟨i0,i1⟩,⟨uy,uz⟩,⟨f5,f6⟩,⟨c0,c1⟩,⟨hR2,ll⟩,W2,⟨hW2,od⟩,ho2,og,ho3,iR⟩
     simp only at i0 i1 uy uz f5 f6 c0 c1 hR2 ll ho3 iR ⊢
     refine⟨fun ig=>?_,fun ja=>?_⟩
     ·have x:=bK hv i2.toNat
      have y:=bK hR2 (j+i2.toNat)
      have hi1:(i2+1).toNat=i2.toNat+1:=by omega
      rw[hi1]
      have hs:((ae R2 (j+i2.toNat) 0 % 18446744073709551616+ae v i2.toNat 0 % 18446744073709551616) % 18446744073709551616+c2) % 18446744073709551616=ae R2 (j+i2.toNat) 0+ae v i2.toNat 0+c2:=by omega
      rw[hs]
      obtain⟨k1,k2,k3,k4,k5⟩:=DN hR2 (ll.trans od.symm) hv c0 c1 (show j+i2.toNat<W2.length by omega) hW2 ho3 iR rfl
      repeat' refine And.intro ?_ ?_
      all_goals first|omega|exact k1|exact f5|exact f6|exact⟨W2,⟨hW2,od⟩,ho2,og,k4,k5⟩
     ·have hi2:i2.toNat=v.length:=by omega
      rw[hi2,List.take_length] at iR
      rw[hi2] at ho3
      have hun:=ho3 (j+v.length) (.inr (Nat.le_refl _))
      have du:=bK hW2 (j+v.length)
      have lj:=@gj W2 j v.length
      have hc2:c2 % 4294967296=c2:=by omega
      rw[hc2,hun]
      have hF:ag (R2.set (j+v.length) ((ae W2 (j+v.length) 0+c2) % 4294967296)):=jb hR2 (by omega) (by omega)
      have uA:(R2.set (j+v.length) ((ae W2 (j+v.length) 0+c2) % 4294967296)).length=U.length:=by simp[ll]
      have uB:∀m,(m<j∨j+(v.length+1)≤m)→ae (R2.set (j+v.length) ((ae W2 (j+v.length) 0+c2) % 4294967296)) m 0=ae U m 0:=fun m hm=>by rw[jU (by omega),ho3 m (by omega)];exact ho2 m hm
      have lm:ac (prt (R2.set (j+v.length) ((ae W2 (j+v.length) 0+c2) % 4294967296)) j (v.length+1))=ac (prt U j (v.length+1)) - gb*ac v+4294967296^(v.length+1)+ac v - 4294967296^(v.length+1)*((ae W2 (j+v.length) 0+c2) / 4294967296):=by
       rw[gj,nY (Nat.le_refl _),mR (by omega),←og,lj,Int.pow_succ]
       generalize (4294967296:Int)^v.length=B at*
       have e:B*4294967296*((ae W2 (j+v.length) 0+c2) / 4294967296)=B*(ae W2 (j+v.length) 0+c2 - (ae W2 (j+v.length) 0+c2) % 4294967296):=by rw[Int.mul_assoc];congr 1;omega
       rw[e]
       simp only[Int.mul_add,Int.mul_sub]
       omega
      have hbd:=pY hF (j:=j) (k:=v.length+1)
      have hk:(ae W2 (j+v.length) 0+c2) / 4294967296=1:=by
       by_cases h:(ae W2 (j+v.length) 0+c2) / 4294967296=1
       ·exact h
       ·have h0:(ae W2 (j+v.length) 0+c2) / 4294967296=0:=by omega
        rw[h0,Int.mul_zero] at lm
        omega
      rw[hk,Int.mul_one] at lm
      have e1:(gb - 1)*ac v=gb*ac v - ac v:=by rw[Int.sub_mul,Int.one_mul]
      obtain⟨w1,w2⟩:=oa (q:=gb - 1) (show(gb - 1)*ac v≤ac (prt U j (v.length+1)) by omega) (by rw[show gb - 1+1=gb by omega];exact f5)
      have zt:0<gb:=by
       by_cases h:0<gb
       ·exact h
       ·have:gb=0:=by omega
        subst this
        omega
      have hfin:R2.set (j+v.length) ((ae W2 (j+v.length) 0+c2) % 4294967296)=eR U j (eb (v.length+1) (ac (prt U j (v.length+1)) % ac v)):=sa hF uA (by omega) uB (by rw[lm,w2,e1];omega)
      repeat refine And.intro (by omega) ?_
      rw[hfin]
      rfl
theorem oh {U:List Int} {j:Nat} (h:j≤U.length):ac U=ac (U.take j)+4294967296^j*ac (U.drop j):=by
 conv=>lhs;rw[←List.take_append_drop j U]
 rw[zm,List.length_take,Nat.min_eq_left h]
theorem XD {U l:List Int} {j:Nat} (h:j≤U.length):(eR U j l).take j=U.take j:=by
 unfold eR
 rw[List.take_append_of_le_length (by simp;omega),List.take_take,Nat.min_self]
theorem XE {U l:List Int} {j:Nat} (h:j≤U.length):(eR U j l).drop j=l++U.drop (j+l.length):=by
 unfold eR
 rw[List.drop_append,List.drop_of_length_le (by simp;omega),List.length_take,Nat.min_eq_left h,Nat.sub_self]
 simp
theorem XF {U l:List Int} {j:Nat} (hU:ag U) (hl:ag l):ag (eR U j l):=pV (fJ hU _) (pV hl (rY hU _))
theorem XG {U q v:List Int} {j m:Nat} {A:Int} (hU:ag U) (hv:ag v) (hq:ag q) (hn:2≤v.length) (J8:U.length=m+1+v.length) (hlq:q.length=m+1) (hj:j≤m) (hV:0<ac v)
  (hz:ae q j 0=0) (he:ac U+ac v*ac q=A) (hlt:ac (U.drop (j+1))<ac v):
  ac (prt U j (v.length+1))<4294967296*ac v∧
  (ag (eR U j (eb (v.length+1) (ac (prt U j (v.length+1)) % ac v)))∧(eR U j (eb (v.length+1) (ac (prt U j (v.length+1)) % ac v))).length=U.length)∧
  (0≤ac (prt U j (v.length+1)) / ac v∧ac (prt U j (v.length+1)) / ac v<4294967296)∧
  ac (eR U j (eb (v.length+1) (ac (prt U j (v.length+1)) % ac v)))+ac v*ac (q.set j (ac (prt U j (v.length+1)) / ac v))=A∧
  ac ((eR U j (eb (v.length+1) (ac (prt U j (v.length+1)) % ac v))).drop j)<ac v:=by
 have KE:=eI hv
 have hd1:=rY hU (j+1)
 have hX0:=bQ (nZ hU (j:=j) (k:=v.length+1))
 have hrest:ac (U.drop (j+(v.length+1)))=0:=by
  have h1:ac (U.drop (j+1))=ac ((U.drop (j+1)).take v.length)+4294967296^v.length*ac ((U.drop (j+1)).drop v.length):=oh (by simp;omega)
  rw[List.drop_drop,show j+1+v.length=j+(v.length+1) by omega] at h1
  have h2:=bQ (fJ hd1 v.length)
  have h3:=bQ (rY hU (j+(v.length+1)))
  by_cases h:ac (U.drop (j+(v.length+1)))=0
  ·exact h
  ·have:=Int.mul_le_mul_of_nonneg_left (show(1:Int)≤ac (U.drop (j+(v.length+1))) by omega) (Int.le_of_lt (pow_pos v.length))
   rw[Int.mul_one] at this
   omega
 have hdrop:ac (U.drop j)=ac (prt U j (v.length+1)):=by
  have h1:ac (U.drop j)=ac ((U.drop j).take (v.length+1))+4294967296^(v.length+1)*ac ((U.drop j).drop (v.length+1)):=oh (by simp;omega)
  rw[List.drop_drop,hrest,Int.mul_zero,Int.add_zero] at h1
  exact h1
 have XH:ac (U.drop j)=ae U j 0+4294967296*ac (U.drop (j+1)):=by
  rw[zj (show j<U.length by omega)]
  rfl
 have du:=bK hU j
 have hX:ac (prt U j (v.length+1))<4294967296*ac v:=by rw[←hdrop,XH];omega
 have hlk:=@uh (v.length+1) (ac (prt U j (v.length+1)) % ac v)
 have hm0:=Int.emod_nonneg (ac (prt U j (v.length+1))) (show ac v≠0 by omega)
 have hm1:=Int.emod_lt_of_pos (ac (prt U j (v.length+1))) hV
 have hkv:ac (eb (v.length+1) (ac (prt U j (v.length+1)) % ac v))=ac (prt U j (v.length+1)) % ac v:=by
  refine Dz hm0 ?_
  rw[Int.pow_succ]
  omega
 have hnd:ac ((eR U j (eb (v.length+1) (ac (prt U j (v.length+1)) % ac v))).drop j)=ac (prt U j (v.length+1)) % ac v:=by
  rw[XE (by omega),zm,hlk,hrest,hkv,Int.mul_zero,Int.add_zero]
 have hwl:(eR U j (eb (v.length+1) (ac (prt U j (v.length+1)) % ac v))).length=U.length:=J5 (by rw[hlk];omega)
 have hq0:0≤ac (prt U j (v.length+1)) / ac v:=Int.ediv_nonneg hX0 (by omega)
 refine⟨hX,⟨XF hU Dx,hwl⟩,⟨hq0,Int.ediv_lt_of_lt_mul hV hX⟩,?_,by rw[hnd];exact hm1⟩
 rw[oh (U:=eR U j _) (j:=j) (by rw[hwl];omega),XD (by omega),hnd,nX (by omega),hz,Int.sub_zero]
 rw[oh (U:=U) (j:=j) (by omega),hdrop] at he
 have XI:=Int.mul_ediv_add_emod (ac (prt U j (v.length+1))) (ac v)
 generalize ac (prt U j (v.length+1)) / ac v=d at*
 generalize ac (prt U j (v.length+1)) % ac v=r at*
 rw[←XI] at he
 rw[Int.mul_add,Int.mul_left_comm (ac v) (4294967296^j)]
 rw[Int.mul_add] at he
 omega
theorem KF {a b:List Int} {s:Nat} (ha:ag a) (hb:ag b) (hs:s≤31) (hlen:b.length≤a.length) (hb1:1≤b.length) (htop:1≤ae b (b.length - 1) 0):
  ag (shl a s)∧(shl a s).length=a.length+1∧ac (shl a s)=ac a*2^s∧ac ((shl a s).drop (a.length - b.length+1))<ac b*2^s:=by
 have hk:(0:Int)<2^s:=Int.pow_pos (by decide)
 have hk2:(2:Int)^s≤2147483648:=by
  have h1:(2:Nat)^s≤2^31:=Nat.pow_le_pow_right (by decide) hs
  have h2:(2:Nat)^31=2147483648:=by decide
  rw[h2] at h1
  have h3:(2:Int)^s=((2^s:Nat):Int):=by push_cast;rfl
  rw[h3]
  omega
 have hv0:=bQ ha
 have hbd:=eI ha
 have hA:ac a*2^s<4294967296^a.length*2^s:=Int.mul_lt_mul_of_pos_right hbd hk
 have hval:ac (shl a s)=ac a*2^s:=by
  unfold shl
  refine Dz (Int.mul_nonneg hv0 (Int.le_of_lt hk)) (Int.lt_of_lt_of_le hA ?_)
  rw[Int.pow_succ]
  exact Int.mul_le_mul_of_nonneg_left (by omega) (Int.le_of_lt (pow_pos _))
 have hd:ag (shl a s):=Dx
 have hl:(shl a s).length=a.length+1:=uh
 refine⟨hd,hl,hval,?_⟩
 have h1:=oh (U:=shl a s) (j:=a.length - b.length+1) (by omega)
 have h2:=bQ (fJ hd (a.length - b.length+1))
 have h3:4294967296^(b.length - 1)*ae b (b.length - 1) 0≤ac b:=DF hb
 have h4:(4294967296:Int)^(b.length - 1)≤ac b:=by
  have:=Int.mul_le_mul_of_nonneg_left htop (Int.le_of_lt (pow_pos (b.length - 1)))
  rw[Int.mul_one] at this
  omega
 have h5:(4294967296:Int)^a.length=4294967296^(a.length - b.length+1)*4294967296^(b.length - 1):=by
  rw[←Int.pow_add]
  congr 1
  omega
 rw[hval] at h1
 have h6:(4294967296:Int)^(a.length - b.length+1)*ac ((shl a s).drop (a.length - b.length+1))<4294967296^(a.length - b.length+1)*(4294967296^(b.length - 1)*2^s):=by
  rw[←Int.mul_assoc,←h5]
  omega
 have h7:=Int.lt_of_mul_lt_mul_left h6 (Int.le_of_lt (pow_pos _))
 exact Int.lt_of_lt_of_le h7 (Int.mul_le_mul_of_nonneg_right h4 (Int.le_of_lt hk))
theorem XJ {x y:Int} {s:Nat} (x0:0≤x) (x1:x<4294967296) (y0:0≤y) (y1:y<4294967296) (hs0:0<s) (hs:s≤31):
  ∃r,dZ.ju .u32 (x / 2^s) (y*2^(32 - s) % 4294967296)=r∧(0≤r∧r<4294967296)∧2^s*r=x - x % 2^s+4294967296*(y % 2^s):=by
 have hk:(0:Int)<2^s:=Int.pow_pos (by decide)
 have hq:(0:Int)<2^(32 - s):=Int.pow_pos (by decide)
 have hB:(4294967296:Int)=2^s*2^(32 - s):=by
  rw[←Int.pow_add,show s+(32 - s)=32 by omega]
  decide
 have e1:y*2^(32 - s) % 4294967296=(y % 2^s)*2^(32 - s):=by
  conv=>lhs;rw[hB]
  rw[Int.mul_comm y,Int.mul_comm (2^s),Int.mul_emod_mul_of_pos _ _ hq,Int.mul_comm]
 have m0:=Int.emod_nonneg y (show(2:Int)^s≠0 by omega)
 have m1:=Int.emod_lt_of_pos y hk
 have d0:0≤x / 2^s:=Int.ediv_nonneg x0 (Int.le_of_lt hk)
 have d1:x / 2^s<2^(32 - s):=Int.ediv_lt_of_lt_mul hk (by rw[Int.mul_comm,←hB];exact x1)
 have hm2:(y % 2^s)*2^(32 - s)+2^(32 - s)≤4294967296:=by
  have:=Int.mul_le_mul_of_nonneg_right (show y % 2^s+1≤2^s by omega) (Int.le_of_lt hq)
  rw[←hB,Int.add_mul,Int.one_mul] at this
  exact this
 have hmn:0≤(y % 2^s)*2^(32 - s):=Int.mul_nonneg m0 (Int.le_of_lt hq)
 have hor:=JZ (k:=32 - s) d0 d1 m0 (by omega) (by omega)
 refine⟨x / 2^s+(y % 2^s)*2^(32 - s),by rw[e1,hor],⟨by omega,by omega⟩,?_⟩
 have hxd:=Int.mul_ediv_add_emod x (2^s)
 rw[Int.mul_add,Int.mul_left_comm,←hB,Int.mul_comm (y % 2^s)]
 omega
theorem KG {U r:List Int} {i s:Nat} {d:Int} (hU:ag U) (hr:ag r) (hi:i<r.length) (hz:∀j,i≤j→ae r j 0=0) (hd0:0≤d∧d<4294967296)
  (hd:2^s*d=ae U i 0 - ae U i 0 % 2^s+4294967296*(ae U (i+1) 0 % 2^s))
  (he:2^s*ac r=ac (U.take i) - ae U 0 0 % 2^s+4294967296^i*(ae U i 0 % 2^s)):
  ag (r.set i d)∧(r.set i d).length=r.length∧(∀j,i+1≤j→ae (r.set i d) j 0=0)∧
  2^s*ac (r.set i d)=ac (U.take (i+1)) - ae U 0 0 % 2^s+4294967296^(i+1)*(ae U (i+1) 0 % 2^s):=by
 refine⟨jb hr hd0.1 hd0.2,by simp,fun j hj=>by rw[jU (by omega)];exact hz j (by omega),?_⟩
 rw[nX hi,hz i (Nat.le_refl _),Int.sub_zero,Int.mul_add,he,eJ,Int.pow_succ,Int.mul_left_comm,hd]
 generalize (4294967296:Int)^i=B at*
 simp only[Int.mul_add,Int.mul_sub,Int.mul_assoc]
 omega
theorem XK {U r v q:List Int} {n s:Nat} {a b:Int} (hU:ag U) (hr:ag r) (hv:ag v) (XL:v.length=n) (hlt:ac U<ac v) (hb:ac v=b*2^s) (hb0:0<b) (he:ac U+ac v*ac q=a*2^s)
  (hs:s≤31) (hln:n+1≤U.length)
  (hfin:2^s*ac r=ac (U.take n) - ae U 0 0 % 2^s+4294967296^n*(ae U n 0 % 2^s)):ac q=a / b∧ac r=a % b:=by
 have hk:(0:Int)<2^s:=Int.pow_pos (by decide)
 have KE:=eI hv
 rw[XL] at KE
 have hun:ae U n 0=0:=uj hU (i:=n) (by omega) (Nat.le_refl _)
 have hut:ac (U.take n)=ac U:=by
  have h1:=oh (U:=U) (j:=n) (by omega)
  have h2:=bQ (fJ hU n)
  have h3:=bQ (rY hU n)
  by_cases h:ac (U.drop n)=0
  ·rw[h,Int.mul_zero] at h1;omega
  ·have:=Int.mul_le_mul_of_nonneg_left (show(1:Int)≤ac (U.drop n) by omega) (Int.le_of_lt (pow_pos n))
   rw[Int.mul_one] at this
   omega
 have DX:ac U=2^s*(a - b*ac q):=by
  rw[Int.mul_sub,Int.mul_comm (2^s) a,←he,hb,Int.mul_comm (2^s) (b*ac q),Int.mul_assoc b,Int.mul_assoc b,Int.mul_comm (2^s)]
  omega
 have hu0:ae U 0 0 % 2^s=0:=by
  have h1:=@eJ U 0
  have h2:=oh (U:=U) (j:=1) (by omega)
  have hB:(4294967296:Int)=2^s*2^(32 - s):=by
   rw[←Int.pow_add,show s+(32 - s)=32 by omega]
   decide
  simp only[Nat.zero_add,List.take_zero,ac,Int.pow_zero,Int.one_mul,Int.zero_add] at h1
  rw[h1,Int.pow_succ,Int.pow_zero,Int.one_mul] at h2
  have h3:ae U 0 0=2^s*(a - b*ac q - 2^(32 - s)*ac (U.drop 1)):=by
   rw[Int.mul_sub,←DX,←Int.mul_assoc,←hB]
   omega
  rw[h3]
  exact Int.mul_emod_right _ _
 rw[hun,hu0,hut,Int.zero_emod,Int.mul_zero,Int.sub_zero,Int.add_zero,DX] at hfin
 have hr2:ac r=a - b*ac q:=Int.eq_of_mul_eq_mul_left (by omega) hfin
 have hr0:=bQ hr
 have hrb:ac r<b:=by
  have:2^s*ac r<2^s*b:=by
   rw[hfin,←DX,Int.mul_comm (2^s) b,←hb]
   exact hlt
  exact Int.lt_of_mul_lt_mul_left this (Int.le_of_lt hk)
 obtain⟨w1,w2⟩:=oa (X:=a) (V:=b) (q:=ac q) (by rw[Int.mul_comm];omega) (by rw[Int.add_mul,Int.one_mul,Int.mul_comm];omega)
 exact⟨w1.symm,by rw[w2,hr2,Int.mul_comm]⟩
theorem zu:∀{w:List Int},ag w→bO w→w≠[]→4294967296^(w.length - 1)≤ac w
 |[],_,_,h=>absurd rfl h
 |[d],hd,hn,_=>by
  have h1:=(ea.1 hd).1
  have h2:=hn.1 rfl
  simp[ac]
  omega
 |d::e::l,hd,hn,_=>by
  obtain⟨h1,h2⟩:=ea.1 hd
  have ih:=zu h2 hn.2 (by simp)
  have hv:ac (d::e::l)=d+4294967296*ac (e::l):=rfl
  simp only[List.length_cons,Nat.add_sub_cancel] at ih ⊢
  rw[hv,Int.pow_succ]
  omega
theorem ol {a b:Nat} (h:a≤b):(4294967296:Int)^a≤4294967296^b:=by
 obtain⟨m,rfl⟩:=Nat.exists_eq_add_of_le h
 rw[Int.pow_add]
 have q1:=pow_pos a
 have q2:=pow_pos m
 have:=Int.mul_le_mul_of_nonneg_left (show(1:Int)≤4294967296^m by omega) (Int.le_of_lt q1)
 rwa [Int.mul_one] at this
theorem DY {t:List Int} {s:Nat} (ht:ag t) (h1:1≤t.length) (hs:s≤31) (hlt:ae t (t.length - 1) 0*2^s<4294967296) (hge:2147483648≤ae t (t.length - 1) 0*2^s):
  ag (aJ (shl t s))∧(aJ (shl t s)).length=t.length∧ac (aJ (shl t s))=ac t*2^s∧2147483648≤ae (aJ (shl t s)) (t.length - 1) 0∧1≤ae t (t.length - 1) 0:=by
 have hk:(0:Int)<2^s:=Int.pow_pos (by decide)
 have hx:=bK ht (t.length - 1)
 have htop:1≤ae t (t.length - 1) 0:=by
  by_cases h:1≤ae t (t.length - 1) 0
  ·exact h
  ·have:ae t (t.length - 1) 0=0:=by omega
   rw[this,Int.zero_mul] at hge
   omega
 obtain⟨d1,d2,d3,_⟩:=KF ht ht hs (Nat.le_refl _) h1 htop
 obtain⟨v1,v2⟩:=@lS (shl t s)
 have dw:=mQ d1
 rw[d3] at v1
 generalize aJ (shl t s)=w at*
 obtain⟨n,hn⟩:∃n,t.length=n+1:=⟨t.length - 1,by omega⟩
 rw[hn] at hlt hge htop hx ⊢
 simp only[Nat.add_sub_cancel] at hlt hge htop hx ⊢
 have hP:=pow_pos n
 have hts:ac t=ac (t.take n)+4294967296^n*ae t n 0:=by
  have:=@eJ t n
  rwa [←hn,List.take_length] at this
 have hr0:=bQ (fJ ht n)
 have hr1:=eI (fJ ht n)
 rw[List.length_take,Nat.min_eq_left (by omega)] at hr1
 have hB:(4294967296:Int)=2^(32 - s)*2^s:=by
  rw[←Int.pow_add,show 32 - s+s=32 by omega]
  decide
 have hq:(0:Int)<2^(32 - s):=Int.pow_pos (by decide)
 have ht1:ae t n 0<2^(32 - s):=by
  rw[hB] at hlt
  exact Int.lt_of_mul_lt_mul_right hlt (Int.le_of_lt hk)
 have ht2:(ae t n 0+1)*2^s≤4294967296:=by
  have:=Int.mul_le_mul_of_nonneg_right (show ae t n 0+1≤2^(32 - s) by omega) (Int.le_of_lt hk)
  rwa [←hB] at this
 have hup:ac w<4294967296^(n+1):=by
  rw[v1,Int.pow_succ]
  have g1:ac t<4294967296^n*(ae t n 0+1):=by rw[Int.mul_add,Int.mul_one];omega
  have g2:=Int.mul_lt_mul_of_pos_right g1 hk
  have g3:=Int.mul_le_mul_of_nonneg_left ht2 (Int.le_of_lt hP)
  rw[←Int.mul_assoc] at g3
  omega
 have hlo:4294967296^n*(ae t n 0*2^s)≤ac w:=by
  rw[v1,←Int.mul_assoc]
  exact Int.mul_le_mul_of_nonneg_right (by omega) (Int.le_of_lt hk)
 have hlo2:(4294967296:Int)^n≤ac w:=by
  have:=Int.mul_le_mul_of_nonneg_left (show(1:Int)≤ae t n 0*2^s by omega) (Int.le_of_lt hP)
  rw[Int.mul_one] at this
  omega
 have hlen:w.length=n+1:=by
  have a1:n<w.length:=by
   by_cases h:n<w.length
   ·exact h
   ·have:=eI dw
    have:=ol (show w.length≤n by omega)
    omega
  by_cases h:w.length=n+1
  ·exact h
  ·have hne:w≠[]:=by rintro rfl;simp at a1
   have:=zu dw v2 hne
   have:=ol (show n+1≤w.length - 1 by omega)
   omega
 refine⟨dw,hlen,v1,?_,htop⟩
 have hws:ac w=ac (w.take n)+4294967296^n*ae w n 0:=by
  have:=@eJ w n
  rwa [←hlen,List.take_length] at this
 have hw1:=eI (fJ dw n)
 rw[List.length_take,Nat.min_eq_left (by omega)] at hw1
 have g:4294967296^n*(ae t n 0*2^s)<4294967296^n*(ae w n 0+1):=by rw[Int.mul_add,Int.mul_one];omega
 have:=Int.lt_of_mul_lt_mul_left g (Int.le_of_lt hP)
 omega
def QD:List bf:=[lQ,rV,ug,Dv,rW,DG]
theorem XM:∀c∈QD,Holds Tryz.prog c:=by
 simp only[QD,List.forall_mem_cons,List.not_mem_nil,false_implies,implies_true,and_true]
 exact⟨h152,h132,h154,h167,h128,h168p⟩
def WD:List cK:=[DI,DO]
theorem XN:∀c∈WD,eh Tryz.prog c:=by
 simp only[WD,List.forall_mem_cons,List.not_mem_nil,false_implies,implies_true,and_true]
 exact⟨h168,h169⟩
def zw:bf:=⟨141,List Int×List Int,.cons (bR (.i .u32)) (.one (bR (.i .u32))),fun a=>(ag a.1∧ag a.2)∧(a.1.length≤10000000000∧a.2.length≤10000000000)∧0<ac a.2,
 fun a=> .aD [.row (.i .u32) (aM (ac a.1 / ac a.2)),.row (.i .u32) (aM (ac a.1 % ac a.2)),.si .i64 0]⟩
def lV (a:List Int×List Int) (s:Int):Prop:=(0≤s∧s≤31)∧ae (aJ a.2) ((aJ a.2).length - 1) 0*2^s.toNat<4294967296∧2147483648≤ae (aJ a.2) ((aJ a.2).length - 1) 0*2^s.toNat
def XO (a:List Int×List Int):Nat→bz
 |10=> .inv Int (fun s=>⟨[(0,.row (.i .u32) (aJ a.1)),(1,.row (.i .u32) (aJ a.2)),(9,.si .u64 s)],[]⟩) (fun s=>iS s 9)
  (fun s=>(0≤s∧s≤31)∧ae (aJ a.2) ((aJ a.2).length - 1) 0*2^s.toNat<4294967296) (fun s=>(32 - s).toNat) fun _ _=> .look
 |17=> .inv (Int×Int×List Int×List Int) (fun x=>⟨[(4,.ow 1 x.2.2.2.length 1),(9,.si .u64 x.2.1),(10,.ow 0 x.2.2.1.length 1),(11,.row (.i .u32) (aJ (shl (aJ a.2) x.2.1.toNat))),(12,.si .i64 (aJ (shl (aJ a.2) x.2.1.toNat)).length),
   (13,.si .i64 ((aJ a.1).length - (aJ a.2).length)),(74,.si .i64 ((aJ a.1).length - (aJ a.2).length+1)),(75,.si .i64 x.1)],[.row (.i .u32) x.2.2.1 161 false,.row (.i .u32) x.2.2.2 161 true]⟩)
  (fun s=>(iS s 75,iS s 9,oS (.i .u32) s 0,oS (.i .u32) s 1))
  (fun x=>(0≤x.1∧x.1≤(aJ a.1).length - (aJ a.2).length+1)∧lV a x.2.1∧(ag x.2.2.1∧x.2.2.1.length=(aJ a.1).length+1)∧(ag x.2.2.2∧x.2.2.2.length=(aJ a.1).length - (aJ a.2).length+1)∧
   (∀j:Nat,(j:Int)<(aJ a.1).length - (aJ a.2).length+1 - x.1→ae x.2.2.2 j 0=0)∧
   ac x.2.2.1+ac (aJ (shl (aJ a.2) x.2.1.toNat))*ac x.2.2.2=ac (aJ a.1)*2^x.2.1.toNat∧
   ac (x.2.2.1.drop (((aJ a.1).length - (aJ a.2).length+1 - x.1:Int).toNat))<ac (aJ (shl (aJ a.2) x.2.1.toNat)))
  (fun x=>((aJ a.1).length - (aJ a.2).length+1 - x.1:Int).toNat) fun _ _=> .look
 |24=> .inv (Int×Int×List Int×List Int×List Int) (fun x=>⟨[(4,.ow 1 x.2.2.2.1.length 1),(5,.ow 2 x.2.2.2.2.length 1),(9,.si .u64 x.2.1),(10,.ow 0 x.2.2.1.length 1),(100,.si .i64 (aJ (shl (aJ a.2) x.2.1.toNat)).length),(101,.si .i64 x.1)],
   [.row (.i .u32) x.2.2.1 161 false,.row (.i .u32) x.2.2.2.1 161 true,.row (.i .u32) x.2.2.2.2 161 true]⟩)
  (fun s=>(iS s 101,iS s 9,oS (.i .u32) s 0,oS (.i .u32) s 1,oS (.i .u32) s 2))
  (fun x=>(0≤x.1∧x.1≤(aJ (shl (aJ a.2) x.2.1.toNat)).length)∧lV a x.2.1∧(ag x.2.2.1∧x.2.2.1.length=(aJ a.1).length+1)∧(ag x.2.2.2.1∧x.2.2.2.1.length=(aJ a.1).length - (aJ a.2).length+1)∧
   ac x.2.2.1+ac (aJ (shl (aJ a.2) x.2.1.toNat))*ac x.2.2.2.1=ac (aJ a.1)*2^x.2.1.toNat∧ac x.2.2.1<ac (aJ (shl (aJ a.2) x.2.1.toNat))∧
   (ag x.2.2.2.2∧x.2.2.2.2.length=(aJ (shl (aJ a.2) x.2.1.toNat)).length)∧(∀j,x.1.toNat≤j→ae x.2.2.2.2 j 0=0)∧
   2^x.2.1.toNat*ac x.2.2.2.2=ac (x.2.2.1.take x.1.toNat) - ae x.2.2.1 0 0 % 2^x.2.1.toNat+4294967296^x.1.toNat*(ae x.2.2.1 x.1.toNat 0 % 2^x.2.1.toNat))
  (fun x=>((aJ (shl (aJ a.2) x.2.1.toNat)).length - x.1).toNat) fun _ _=> .look
 |_=> .look
theorem h166g:Holds Tryz.prog zw:=by
 refine con (L:=QD) (W:=gi WD) zw wK XO (kZ XN) XM (by kernel_rfl) (by kernel_rfl) (fun _=>rfl) ?_
 rintro⟨a,b⟩ ⟨⟨ha,hb⟩,⟨hla,hlb⟩,b0⟩
 simp only at ha hb hla hlb b0
 refine bh (let z0:=(aJ b).length;let z1:=(↑z0:Int);let z2:=decide (z1=(0:Int));let z3:=SV.row (ai.i .i64) [];let z4:=ai.i .u32;let z5:=SV.si .i64 0;let z6:=SV.aD [SV.row z4 (aM (ac a / ac b)),SV.row z4 (aM (ac a % ac b)),z5];let z7:=(aJ a).length;let z8:=(aJ b).length;let z9:=ac (aJ a);let ak:=decide (dS z9 (ac (aJ b))<(0:Int));let al:=SV.il .i64 0;let z12:=decide (z1=(1:Int));let au:=ae (aJ b) 0 (0:Int);let ar:=z9 % au % (18446744073709551616:Int);let ax:=ae (aJ b) (z8 - 1) (0:Int);let ay:=z1 - (1:Int);let z17:=(↑(aJ a).length:Int) - z1;let aG:=z17+(1:Int);let aH:=List.replicate aG.toNat (0:Int);let z20:=(↑z7:Int) - (↑z8:Int);let z21:=SV.si .i64 z20;let z22:=z20+(1:Int);let z23:=SV.si .i64 z22;let z24:=af.row z4 aH 161 true;let z25:=z7+1;let z26:=z7 - z8+1;a.length≤1000000000000∧b.length≤1000000000000∧(z2=true→(SV.aD [z3,z3,SV.il .i64 8]).same z6)∧(z2=false→((ag (aJ a)∧ag (aJ b))∧z7≤1000000000000∧z8≤1000000000000)∧(ak=true→((ag (aJ a)∧ag [])∧z7≤100000000000∧0≤100000000000)∧(SV.aD [z3,SV.row z4 (aM (z9+ac [])),al]).same z6)∧(ak=false→(z12=true→(0:Int)≤(0:Int)∧(0:Int)<z1∧0<z0∧(ag (aJ a)∧z7≤100000000000∧(0:Int)<au∧au<(4294967296:Int))∧((0:Int)≤ar∧ar<(18446744073709551616:Int))∧(SV.aD [SV.row z4 (aM (z9 / au)),SV.row z4 (aM ar),al]).same z6)∧(z12=false→((((SV.row z4 (aJ a)).same (SV.row z4 (aJ a))∧(SV.row z4 (aJ b)).same (SV.row z4 (aJ b))∧(SV.il .u64 0).same (SV.si .u64 0)∧True)∧True)∧((0:Int)≤(0:Int)∧(0:Int)≤(31:Int))∧ax*(1:Int)<(4294967296:Int))∧∀(x:Int),let z27:=(2:Int)^x.toNat;let z28:=decide (ae (aJ b) ay.toNat (0:Int)*z27 % (4294967296:Int)<(2147483648:Int));let z29:=(x+(1:Int)) % (18446744073709551616:Int);let z30:=SV.si .u64 z29;let z31:=shl (aJ b) x.toNat;let z32:=shl (aJ a) x.toNat;let z33:=SV.ow 0 z32.length 1;let z34:=aJ z31;let z35:=af.row z4 z32 161 false;((0:Int)≤x∧x≤(31:Int))∧ax*z27<(4294967296:Int)→aC .i64 ay∧(0:Int)≤ay∧ay<z1∧ay.toNat<z0∧(0:Int)≤x∧x≤(32:Int)∧(z28=true→(((SV.row z4 (aJ a)).same (SV.row z4 (aJ a))∧(SV.row z4 (aJ b)).same (SV.row z4 (aJ b))∧z30.same z30∧True)∧True)∧(((0:Int)≤z29∧z29≤(31:Int))∧ax*(2:Int)^z29.toNat<(4294967296:Int))∧((32:Int) - z29).toNat<((32:Int) - x).toNat)∧(z28=false→uk (aJ a,x)∧uk (aJ b,x)∧z31.length≤1000000000000∧aC .i64 z17∧aC .i64 aG∧(0:Int)≤aG∧aG≤aG∧aG*(4:Int)≤(140737488355328:Int)∧aG≤(1000000000000:Int)∧aC .i64 aG∧((((SV.ow 1 aG.toNat 1).same (SV.ow 1 aH.length 1)∧(SV.si .u64 x).same (SV.si .u64 x)∧z33.same z33∧(SV.row z4 z34).same (SV.row z4 z34)∧(SV.si .i64 (↑z34.length:Int)).same (SV.si .i64 (↑z34.length:Int))∧(SV.si .i64 z17).same z21∧(SV.si .i64 aG).same z23∧al.same z5∧True)∧z35.same z35∧z24.same z24∧True)∧((0:Int)≤(0:Int)∧(0:Int)≤z22)∧lV (a,b) x∧(ag z32∧z32.length=z25)∧(ag aH∧aH.length=z26)∧(∀(j:Nat),(↑j:Int)<z22 - (0:Int)→ae aH j (0:Int)=(0:Int))∧ac z32+ac z34*ac aH=z9*z27∧ac (List.drop (z22 - (0:Int)).toNat z32)<ac z34)∧∀(x:Int×Int×List Int×List Int),let z36:=x.snd.snd.fst;let z37:=z36.length;let z38:=x.snd.snd.snd;let z39:=aJ (shl (aJ b) x.snd.fst.toNat);let z40:=ac z39;let z41:=(2:Int)^x.snd.fst.toNat;let z42:=decide (x.fst<z22);let z43:=z20 - x.fst;let z44:=(↑z39.length:Int);let z45:=z43+z44+(1:Int);let z46:=z43.toNat;let z47:=z45.toNat;let z48:=jc.mk z36 z46 (z47 - z46) z37 z39;let z49:=x.fst+(1:Int);let z50:=SV.ow 1 z38.length 1;let z51:=z38.set z46 (z48.x / z40);let z52:=SV.si .u64 x.snd.fst;let z53:=SV.ow 0 z37 1;let z54:=SV.si .i64 z44;let z55:=SV.si .i64 z49;let z56:=af.row z4 z48.row 161 false;let z57:=af.row z4 z51 161 true;let z58:=List.replicate z44.toNat (0:Int);let z59:=af.row z4 z36 161 false;let z60:=af.row z4 z38 161 true;let z61:=af.row z4 z58 161 true;let z62:=ae z36 0 (0:Int) % z41;((0:Int)≤x.fst∧x.fst≤z22)∧lV (a,b) x.snd.fst∧(ag z36∧z37=z25)∧(ag z38∧z38.length=z26)∧(∀(j:Nat),(↑j:Int)<z22 - x.fst→ae z38 j (0:Int)=(0:Int))∧ac z36+z40*ac z38=z9*z41∧ac (List.drop (z22 - x.fst).toNat z36)<z40→(z42=true→aC .i64 z43∧aC .i64 (z43+z44)∧aC .i64 z45∧aC .i64 (z43+z44)∧aC .i64 z45∧z37=z36.length∧(0:Int)≤z43∧(0:Int)≤z45∧(0:Int)≤z45∧z46≤z47∧z47≤z47∧z47≤z37∧z48.ok∧z38.length=z38.length∧(0:Int)≤z43∧z43<(↑z38.length:Int)∧z38.length=z38.length∧z46<z38.length∧aC .i64 z49∧((z50.same (SV.ow 1 z51.length 1)∧z52.same z52∧z53.same (SV.ow 0 z48.row.length 1)∧(SV.row z4 z39).same (SV.row z4 z39)∧z54.same z54∧z21.same z21∧z23.same z23∧z55.same z55∧True)∧z56.same z56∧z57.same z57∧True)∧(((0:Int)≤z49∧z49≤z22)∧lV (a,b) x.snd.fst∧(ag z48.row∧z48.row.length=z25)∧(ag z51∧z51.length=z26)∧(∀(j:Nat),(↑j:Int)<z22 - z49→ae z51 j (0:Int)=(0:Int))∧ac z48.row+z40*ac z51=z9*z41∧ac (List.drop (z22 - z49).toNat z48.row)<z40)∧(z22 - z49).toNat<(z22 - x.fst).toNat)∧(z42=false→(0:Int)≤z44∧z44≤z44∧z44*(4:Int)≤(140737488355328:Int)∧z44≤(1000000000000:Int)∧(((z50.same z50∧(SV.ow 2 z44.toNat 1).same (SV.ow 2 z58.length 1)∧z52.same z52∧z53.same z53∧z54.same z54∧al.same z5∧True)∧z59.same z59∧z60.same z60∧z61.same z61∧True)∧((0:Int)≤(0:Int)∧(0:Int)≤z44)∧lV (a,b) x.snd.fst∧(ag z36∧z37=z25)∧(ag z38∧z38.length=z26)∧ac z36+z40*ac z38=z9*z41∧ac z36<z40∧(ag z58∧z58.length=z39.length)∧(∀(j:Nat),0≤j→ae z58 j (0:Int)=(0:Int))∧z41*ac z58=ac [] - z62+(1:Int)*z62)∧∀(x:Int×Int×List Int×List Int×List Int),let z63:=aJ (shl (aJ b) x.snd.fst.toNat);let z64:=z63.length;let z65:=(↑z64:Int);let z66:=x.snd.snd.fst;let z67:=x.snd.snd.snd.fst;let z68:=z67.length;let z69:=(2:Int)^x.snd.fst.toNat;let z70:=x.snd.snd.snd.snd;let z71:=z70.length;let z72:=x.fst.toNat;let z73:=ae z66 0 (0:Int) % z69;let z74:=ae z66 z72 (0:Int);let z75:=decide (x.fst<z65);let z76:=z66.length;let z77:=decide ((0:Int)<x.snd.fst);let z78:=z70.set z72 (z74 / z69);let z79:=x.fst+(1:Int);let z80:=z79.toNat;let jV:=((32:Int) - x.snd.fst) % (18446744073709551616:Int);let z82:=SV.ow 1 z68 1;let z83:=SV.ow 2 z71 1;let z84:=ae z66 z80 (0:Int);let z85:=z78.set z72 (dZ.ju .u32 (ae z78 z72 (0:Int)) (z84*(2:Int)^jV.toNat % (4294967296:Int)));let z86:=SV.si .u64 x.snd.fst;let z87:=SV.ow 0 z66.length 1;let lT:=SV.si .i64 z65;let z89:=SV.si .i64 z79;let eZ:=af.row z4 z66 161 false;let z91:=af.row z4 z67 161 true;let jW:=af.row z4 z85 161 true;let z93:=ac (List.take z80 z66) - z73+(4294967296:Int)^z80*(z84 % z69);let ek:=af.row z4 z78 161 true;((0:Int)≤x.fst∧x.fst≤z65)∧lV (a,b) x.snd.fst∧(ag z66∧z66.length=z25)∧(ag z67∧z68=z26)∧ac z66+ac z63*ac z67=z9*z69∧ac z66<ac z63∧(ag z70∧z71=z64)∧(∀(j:Nat),z72≤j→ae z70 j (0:Int)=(0:Int))∧z69*ac z70=ac (List.take z72 z66) - z73+(4294967296:Int)^z72*(z74 % z69)→(z75=true→z66.length=z76∧(0:Int)≤x.fst∧x.fst<(↑z76:Int)∧z66.length=z76∧z72<z76∧(0:Int)≤x.snd.fst∧x.snd.fst≤(32:Int)∧z71=z70.length∧(0:Int)≤x.fst∧x.fst<(↑z70.length:Int)∧z71=z70.length∧z72<z70.length∧(z77=true→z71=z78.length∧(0:Int)≤x.fst∧x.fst<(↑z78.length:Int)∧z71=z78.length∧z72<z78.length∧aC .i64 z79∧z66.length=z76∧(0:Int)≤z79∧z79<(↑z76:Int)∧z66.length=z76∧z80<z76∧(0:Int)≤jV∧jV≤(32:Int)∧z71=z78.length∧(0:Int)≤x.fst∧x.fst<(↑z78.length:Int)∧z71=z78.length∧z72<z78.length∧aC .i64 z79∧((z82.same z82∧z83.same (SV.ow 2 z85.length 1)∧z86.same z86∧z87.same z87∧lT.same lT∧z89.same z89∧True)∧eZ.same eZ∧z91.same z91∧jW.same jW∧True)∧(((0:Int)≤z79∧z79≤z65)∧lV (a,b) x.snd.fst∧(ag z66∧z66.length=z25)∧(ag z67∧z68=z26)∧ac z66+ac z63*ac z67=z9*z69∧ac z66<ac z63∧(ag z85∧z85.length=z64)∧(∀(j:Nat),z80≤j→ae z85 j (0:Int)=(0:Int))∧z69*ac z85=z93)∧(z65 - z79).toNat<(z65 - x.fst).toNat)∧(z77=false→aC .i64 z79∧((z82.same z82∧z83.same (SV.ow 2 z78.length 1)∧z86.same z86∧z87.same z87∧lT.same lT∧z89.same z89∧True)∧eZ.same eZ∧z91.same z91∧ek.same ek∧True)∧(((0:Int)≤z79∧z79≤z65)∧lV (a,b) x.snd.fst∧(ag z66∧z66.length=z25)∧(ag z67∧z68=z26)∧ac z66+ac z63*ac z67=z9*z69∧ac z66<ac z63∧(ag z78∧z78.length=z64)∧(∀(j:Nat),z80≤j→ae z78 j (0:Int)=(0:Int))∧z69*ac z78=z93)∧(z65 - z79).toNat<(z65 - x.fst).toNat))∧(z75=false→z68=z67.length∧z71=z70.length∧z68≤1000000000000∧z71≤1000000000000∧(SV.aD [SV.row z4 (aJ z67),SV.row z4 (aJ z70),al]).same z6))))))) (by kernel_rfl) ?_
 simp only[vcs]
 obtain⟨va,na⟩:=@lS a
 obtain⟨vb,nb⟩:=@lS b
 have da:=mQ ha
 have db:=mQ hb
 have la:=@nV a
 have lb:=@nV b
 have p0:=bQ da
 have d0:ag []:=by simp[ag]
 simp only[lV]
 rw[←va,←vb]
 rw[←vb] at b0
 generalize aJ a=S at*
 generalize aJ b=T at*
 have hm:=Int.emod_nonneg (ac S) (show ac T≠0 by omega)
 have hl:=Int.emod_lt_of_pos (ac S) b0
 have hT1:T.length≠0:=by
  intro h
  rw[List.eq_nil_of_length_eq_zero h] at b0
  exact absurd b0 (by decide)
 refine⟨by omega,by omega,fun h0=>by omega,fun h0=>⟨⟨⟨da,db⟩,by omega,by omega⟩,fun hlt=>⟨⟨⟨da,d0⟩,by omega,by omega⟩,?_⟩,fun hge=>⟨fun h1=>?_,fun h1=>⟨?_,?_⟩⟩⟩⟩
 ·have hab:ac S<ac T:=by unfold dS at hlt;split at hlt<;>(try split at hlt)<;>omega
  have hdv:ac S / ac T=0:=Int.ediv_eq_zero_of_lt p0 hab
  have hmv:ac S % ac T=ac S:=Int.emod_eq_of_lt p0 hab
  refine⟨DC (by rw[hdv];rfl),?_⟩
  rw[hmv]
  simp[ac]
 ·obtain⟨d,rfl⟩:∃d,T=[d]:=List.length_eq_one_iff.1 (by omega)
  have hd:=(ea.1 db).1
  have zx:ae [d] 0 0=d:=rfl
  have hv:ac [d]=d:=by simp[ac]
  rw[hv] at b0 hm hl ⊢
  rw[zx]
  have hmm:ac S % d % 18446744073709551616=ac S % d:=by omega
  rw[hmm]
  repeat' refine And.intro ?_ ?_
  all_goals first|omega|exact da|rfl|(simp;done)
 ·have:=bK db (T.length - 1)
  repeat' refine And.intro ?_ ?_
  all_goals omega
 have uf:ac T≤ac S:=by unfold dS at hge;split at hge<;>(try split at hge)<;>omega
 have hlen:T.length≤S.length:=by
  by_cases h:S.length<T.length
  ·have:=rU da db nb h
   omega
  ·omega
 have XP:2≤T.length:=by omega
 clear hge h0 h1 hT1 va vb d0
 rintro s ⟨⟨s0,s1⟩,hs⟩
 have t1:((T.length:Int) - 1).toNat=T.length - 1:=by omega
 have hxt:=bK db (T.length - 1)
 have hps:(0:Int)<2^s.toNat:=Int.pow_pos (by decide)
 have hnn:0≤ae T (T.length - 1) 0*2^s.toNat:=Int.mul_nonneg hxt.1 (Int.le_of_lt hps)
 have hmod:ae T (T.length - 1) 0*2^s.toNat % 4294967296=ae T (T.length - 1) 0*2^s.toNat:=by omega
 rw[t1,hmod]
 repeat refine And.intro (by omega) ?_
 refine⟨fun hc=>?_,fun hc=>?_⟩
 ·have htop:1≤ae T (T.length - 1) 0:=by
   by_cases h:1≤ae T (T.length - 1) 0
   ·exact h
   ·exfalso
    have h4:=zu db nb (by rintro rfl;simp at XP)
    have h5:ac T=ac (T.take (T.length - 1))+4294967296^(T.length - 1)*ae T (T.length - 1) 0:=by
     have:=@eJ T (T.length - 1)
     rwa [show T.length - 1+1=T.length by omega,List.take_length] at this
    have h6:=eI (fJ db (T.length - 1))
    rw[List.length_take,Nat.min_eq_left (by omega)] at h6
    rw[show ae T (T.length - 1) 0=0 by omega,Int.mul_zero] at h5
    omega
  have h31:s≤30:=by
   by_cases h:s≤30
   ·exact h
   ·have XQ:s.toNat=31:=by omega
    rw[XQ,show(2:Int)^31=2147483648 from rfl] at hc
    omega
  have e:((s+1) % 18446744073709551616)=s+1:=by omega
  have e2:(s+1).toNat=s.toNat+1:=by omega
  rw[e,e2,Int.pow_succ,←Int.mul_assoc]
  repeat' refine And.intro ?_ ?_
  all_goals omega
 ·obtain⟨dw,lw,vw,tw,uC⟩:=DY db (by omega) (show s.toNat≤31 by omega) hs (by omega)
  obtain⟨ds,ls,vs,hst⟩:=KF da db (show s.toNat≤31 by omega) hlen (by omega) uC
  have hds:∀z,uk (z,s)↔(ag z∧z.length≤100000000000):=fun z=>⟨fun h=>⟨h.1,h.2.1⟩,fun h=>⟨h.1,h.2,s0,s1⟩⟩
  have aY:(shl T s.toNat).length=T.length+1:=uh
  have bits:(0≤s∧s≤31)∧ae T (T.length - 1) 0*2^s.toNat<4294967296∧2147483648≤ae T (T.length - 1) 0*2^s.toNat:=⟨⟨s0,s1⟩,hs,by omega⟩
  rw[hds,hds,aY,ls]
  refine⟨⟨da,by omega⟩,⟨db,by omega⟩,?_⟩
  repeat refine And.intro (by omega) ?_
  refine⟨?_,?_⟩
  ·repeat' refine And.intro ?_ ?_
   all_goals first|omega|exact gK (by simp)|exact gK (by omega)|exact ds|exact rZ|exact fun j _=>JY|(simp;omega)|(rw[pW,Int.mul_zero,Int.add_zero];exact vs)|(rw[vw,show((S.length:Int) - T.length+1 - 0).toNat=S.length - T.length+1 by omega];exact hst)
  clear hst vs ls ds bits hds hmod hnn hps hxt uC tw vw lw dw aY t1 hc hs s0 s1
  clear s
  rintro⟨i,s,U,q⟩ ⟨⟨i0,i1⟩,⟨⟨s0,s1⟩,hs,hs2⟩,⟨hU,zy⟩,⟨hq,om⟩,hz,he,hlt⟩
  simp only at i0 i1 s0 s1 hs hs2 hU zy hq om hz he hlt ⊢
  obtain⟨dw,lw,vw,tw,uC⟩:=DY db (by omega) (show s.toNat≤31 by omega) hs (by omega)
  generalize hw:aJ (shl T s.toNat)=w at*
  have hw0:0<ac w:=by
   rw[vw]
   exact Int.mul_pos b0 (Int.pow_pos (by decide))
  refine⟨fun ig=>?_,fun ja=>?_⟩
  ·obtain⟨j,hj⟩:∃j:Nat,(S.length:Int) - T.length - i=j:=⟨((S.length:Int) - T.length - i).toNat,by omega⟩
   have e1:((j:Int)+w.length+1).toNat - j=w.length+1:=by omega
   have e2:((S.length:Int) - T.length+1 - i).toNat=j+1:=by omega
   rw[e2] at hlt
   obtain⟨k1,⟨k2,k3⟩,⟨k4,k5⟩,k6,k7⟩:=XG (j:=j) (m:=S.length - T.length) hU dw hq (by omega) (by omega) (by omega) (by omega) hw0 (hz j (by omega)) he hlt
   have e3:((S.length:Int) - T.length+1 - (i+1)).toNat=j:=by omega
   simp only[hj,e1,e3,Int.toNat_natCast,jc.row,jc.x,jc.ok]
   repeat' refine And.intro ?_ ?_
   all_goals first|omega|exact gK (by simp)|exact gK k3.symm|exact trivial|exact hU|exact dw|exact k1|exact k2|exact k6|exact k7|exact jb hq k4 k5|(simp;omega)|(rw[lw];exact tw)|exact fun p hp=>by rw[jU (by omega)];exact hz p (by omega)
  ·have e2:((S.length:Int) - T.length+1 - i).toNat=0:=by omega
   rw[e2,List.drop_zero] at hlt
   repeat refine And.intro (by omega) ?_
   refine⟨?_,?_⟩
   ·have h1:=@eJ U 0
    simp only[List.take_zero,ac,Int.pow_zero,Int.one_mul]
    repeat' refine And.intro ?_ ?_
    all_goals first|omega|exact gK (by simp)|exact hU|exact hq|exact he|exact hlt|exact rZ|exact fun j _=>JY|(simp;done)|(rw[pW];omega)
   clear hlt hz e2 ja i0 i1 tw uC hw0 hs hs2 s0 s1 he hU zy hq om
   clear hw dw lw vw
   clear w s i U q
   rintro⟨i,s,U,q,r⟩ ⟨⟨i0,i1⟩,⟨⟨s0,s1⟩,hs,hs2⟩,⟨hU,zy⟩,⟨hq,om⟩,he,hlt,⟨hr,hrl⟩,hz,hv⟩
   simp only at i0 i1 s0 s1 hs hs2 hU zy hq om he hlt hr hrl hz hv ⊢
   obtain⟨dw,lw,vw,tw,uC⟩:=DY db (by omega) (show s.toNat≤31 by omega) hs (by omega)
   generalize hw:aJ (shl T s.toNat)=w at*
   refine⟨fun ig=>?_,fun ja=>?_⟩
   ·have x0:=bK hU i.toNat
    have x1:=bK hU (i.toNat+1)
    have e1:(i+1).toNat=i.toNat+1:=by omega
    have x2:=bK hr i.toNat
    have hps:(0:Int)<2^s.toNat:=Int.pow_pos (by decide)
    have y0:0≤ae U i.toNat 0 / 2^s.toNat:=Int.ediv_nonneg x0.1 (Int.le_of_lt hps)
    have y1:ae U i.toNat 0 / 2^s.toNat≤ae U i.toNat 0:=Int.ediv_le_self _ x0.1
    have e2:((32 - s) % 18446744073709551616).toNat=32 - s.toNat:=by omega
    have e3:(r.set i.toNat (ae U i.toNat 0 / 2^s.toNat)).set i.toNat=r.set i.toNat:=by funext z;rw[List.set_set]
    simp only[e1,e2,e3,mR (show i.toNat<r.length by omega),List.length_set]
    repeat refine And.intro (by omega) ?_
    refine⟨fun hs0=>?_,fun hs0=>?_⟩
    ·obtain⟨d,hd1,hd2,hd3⟩:=XJ (s:=s.toNat) x0.1 x0.2 x1.1 x1.2 (by omega) (by omega)
     obtain⟨k1,k2,k3,k4⟩:=KG hU hr (show i.toNat<r.length by omega) hz hd2 hd3 hv
     rw[hd1]
     repeat' refine And.intro ?_ ?_
     all_goals first|omega|exact gK (by simp)|exact hU|exact hq|exact k1|exact k3|exact k4|exact he|exact hlt|trivial
    ·have XR:s.toNat=0:=by omega
     obtain⟨k1,k2,k3,k4⟩:=KG (s:=s.toNat) (d:=ae U i.toNat 0 / 2^s.toNat) hU hr (show i.toNat<r.length by omega) hz ⟨y0,by omega⟩ (by rw[XR];simp) hv
     repeat' refine And.intro ?_ ?_
     all_goals first|omega|exact gK (by simp)|exact hU|exact hq|exact k1|exact k3|exact k4|exact he|exact hlt|trivial
   ·have hi:i.toNat=w.length:=by omega
    rw[hi] at hv
    obtain⟨w1,w2⟩:=XK hU hr dw rfl hlt vw b0 he (show s.toNat≤31 by omega) (by omega) hv
    rw[lg hq,lg hr,w1,w2]
    repeat' refine And.intro ?_ ?_
    all_goals first|omega|rfl|trivial
theorem qc {a b:List Int} (ha:ag a) (hb:ag b) (na:bO a) (h:ac a≤ac b):a.length≤b.length:=by
 by_cases hl:a.length≤b.length
 ·exact hl
 ·have:=rU hb ha na (by omega)
  omega
def zz:bf:=⟨140,List Int×List Int,.cons (bR (.i .u32)) (.one (bR (.i .u32))),fun a=>(ag a.1∧ag a.2)∧(a.1.length≤1000000000∧a.2.length≤1000000000),
 fun a=> .row (.i .u32) (aM (bT (ac a.1) (ac a.2)))⟩
def XS (a:List Int×List Int):Nat→bz
 |2=> .inv (List Int×List Int) (fun x=>⟨[(0,.row (.i .u32) x.1),(1,.row (.i .u32) x.2)],[]⟩) (fun s=>(rS (.i .u32) s 0,rS (.i .u32) s 1))
  (fun x=>(ag x.1∧ag x.2)∧(bO x.1∧bO x.2)∧(x.1.length≤1000000000∧x.2.length≤1000000000)∧bT (ac x.1) (ac x.2)=bT (ac a.1) (ac a.2)) (fun x=>(ac x.2).toNat) fun _ _=> .look
 |_=> .look
theorem h165g:Holds Tryz.prog zz:=by
 refine con (L:=[ug,zw]) zz wJ XS (bu.none _) (by simpa using⟨h154,h166g⟩) (by kernel_rfl) (by kernel_rfl) (fun _=>rfl) ?_
 rintro⟨a,b⟩ ⟨⟨ha,hb⟩,⟨hla,hlb⟩⟩
 simp only at ha hb hla hlb
 refine bh (let z0:=ai.i .u32;let z1:=aM (ac a+ac []);let z2:=aM (ac b+ac []);let z3:=bT (ac a) (ac b);((ag a∧ag [])∧a.length≤100000000000∧0≤100000000000)∧((ag b∧ag [])∧b.length≤100000000000∧0≤100000000000)∧((((SV.row z0 z1).same (SV.row z0 z1)∧(SV.row z0 z2).same (SV.row z0 z2)∧True)∧True)∧(ag z1∧ag z2)∧(bO z1∧bO z2)∧(z1.length≤1000000000∧z2.length≤1000000000)∧bT (ac z1) (ac z2)=z3)∧∀(x:List Int×List Int),let z4:=decide ((0:Int)<(↑x.snd.length:Int));let z5:=aM (ac x.fst % ac x.snd);(ag x.fst∧ag x.snd)∧(bO x.fst∧bO x.snd)∧(x.fst.length≤1000000000∧x.snd.length≤1000000000)∧bT (ac x.fst) (ac x.snd)=z3→(z4=true→((ag x.fst∧ag x.snd)∧(x.fst.length≤10000000000∧x.snd.length≤10000000000)∧(0:Int)<ac x.snd)∧(false=true→(SV.row z0 x.fst).same (SV.row z0 (aM z3)))∧(false=false→(((SV.row z0 x.snd).same (SV.row z0 x.snd)∧(SV.row z0 z5).same (SV.row z0 z5)∧True)∧True)∧((ag x.snd∧ag z5)∧(bO x.snd∧bO z5)∧(x.snd.length≤1000000000∧z5.length≤1000000000)∧bT (ac x.snd) (ac z5)=z3)∧(ac z5).toNat<(ac x.snd).toNat))∧(z4=false→(SV.row z0 x.fst).same (SV.row z0 (aM z3)))) (by kernel_rfl) ?_
 simp only[vcs]
 have d0:ag []:=by simp[ag]
 have pa:=bQ ha
 have pb:=bQ hb
 have z:ac []=0:=rfl
 rw[z,Int.add_zero,Int.add_zero]
 obtain⟨a1,a2,a3⟩:=bZ pa
 obtain⟨b1',b2,b3⟩:=bZ pb
 have hln:(aM (ac a)).length≤1000000000:=by
  rw[←lg ha]
  have:=@nV a
  omega
 have XT:(aM (ac b)).length≤1000000000:=by
  rw[←lg hb]
  have:=@nV b
  omega
 refine⟨⟨⟨ha,d0⟩,by omega,by omega⟩,⟨⟨hb,d0⟩,by omega,by omega⟩,⟨⟨a2,b2⟩,⟨a3,b3⟩,⟨hln,XT⟩,by rw[a1,b1']⟩,?_⟩
 rintro⟨s,t⟩ ⟨⟨ds,dt⟩,⟨ns,nt⟩,⟨hs,ht⟩,hg⟩
 simp only at ds dt ns nt ht hs hg ⊢
 have ps:=bQ ds
 have pt:=bQ dt
 refine⟨fun hl=>?_,fun hl=>?_⟩
 ·have hpos:0<ac t:=by
   by_cases h:ac t=0
   ·rw[val_zero dt nt h] at hl
    simp at hl
   ·omega
  have hm:=Int.emod_nonneg (ac s) (show ac t≠0 by omega)
  have hlt:=Int.emod_lt_of_pos (ac s) hpos
  obtain⟨m1,m2,m3⟩:=bZ hm
  have hml:=qc m2 dt m3 (by rw[m1];omega)
  refine⟨⟨⟨ds,dt⟩,⟨by omega,by omega⟩,hpos⟩,fun h=>absurd h (by decide),fun _=>⟨⟨⟨dt,m2⟩,⟨nt,m3⟩,⟨by omega,by omega⟩,?_⟩,by omega⟩⟩
  rw[m1,JR ps hpos,hg]
 ·have ht0:t=[]:=List.eq_nil_of_length_eq_zero (by omega)
  rw[ht0,z,JS ps] at hg
  rw[←hg,jS ds ns]
@[reducible] def sF:ai:=.pair .b (.pair (.aY (.i .u32)) (.aY (.i .u32)))
abbrev aW:=Bool×(List Int×List Int)
def ah (q:Rat):aW:=(decide (q<0),(aM (q.num.natAbs:Int),aM (q.den:Int)))
def aO (x:aW):Rat:=mkRat (if x.1 then -ac x.2.1 else ac x.2.1) (ac x.2.2).toNat
def Sz (k:Nat) (q:Rat):Prop:=(q.num.natAbs:Int)<4294967296^k∧(q.den:Int)<4294967296^k
theorem fQ {n:Int} {k:Nat} (h0:0≤n) (h:n<4294967296^k):(aM n).length≤k:=by
 obtain⟨h1,h2,h3⟩:=bZ h0
 by_cases hl:(aM n).length≤k
 ·exact hl
 ·have hne:aM n≠[]:=by rintro he;rw[he] at hl;simp at hl
  have:=zu h2 h3 hne
  have:=ol (show k≤(aM n).length - 1 by omega)
  omega
theorem KH {a:List Int} {k:Nat} (h:ag a) (hl:a.length≤k):ac a<4294967296^k:=by
 have:=eI h
 have:=ol hl
 omega
theorem cb (q:Rat):aO (ah q)=q:=by
 unfold aO ah
 have h1:=(bZ (show(0:Int)≤(q.num.natAbs:Int) by omega)).1
 have h2:=(bZ (show(0:Int)≤(q.den:Int) by omega)).1
 simp only[h1,h2,decide_eq_true_eq,Int.toNat_natCast]
 have h3:(if q<0 then -(q.num.natAbs:Int) else(q.num.natAbs:Int))=q.num:=by
  have:=@Rat.num_nonneg q
  split
  ·rename_i h
   have:¬0≤q.num:=fun h2=>by
    have:=this.1 h2
    exact absurd h (Rat.not_lt.2 this)
   omega
  ·rename_i h
   have:=this.2 (Rat.not_lt.1 h)
   omega
 rw[h3]
 exact Rat.mkRat_self q
theorem KI {N:Int} {D:Nat} (hD:D≠0):(mkRat N D).num.natAbs=N.natAbs / N.natAbs.gcd D∧(mkRat N D).den=D / N.natAbs.gcd D:=by
 rw[←Rat.normalize_eq_mkRat hD,Rat.normalize_eq hD]
 simp only
 refine⟨?_,trivial⟩
 have hg:0<N.natAbs.gcd D:=Nat.gcd_pos_of_pos_right _ (by omega)
 have hd:((N.natAbs.gcd D:Nat):Int)∣N:=Int.ofNat_dvd_left.2 (Nat.gcd_dvd_left _ _)
 generalize N.natAbs.gcd D=g at*
 obtain⟨m,rfl⟩:=hd
 rw[Int.mul_ediv_cancel_left _ (by omega),Int.natAbs_mul,Int.natAbs_natCast,Nat.mul_div_cancel_left _ hg]
theorem XU {N:Int} {D:Nat} (hD:D≠0):mkRat N D<0↔N<0:=by
 have h1:(0:Rat)=mkRat 0 D:=(Rat.zero_mkRat D).symm
 have h2:mkRat N D<0↔¬0≤mkRat N D:=Rat.not_le.symm
 rw[h2,←Rat.num_nonneg]
 have h3:=Rat.num_divInt_den (mkRat N D)
 have h4:(mkRat N D).num*(D:Int)=N*((mkRat N D).den:Int):=by
  have:=(Rat.mkRat_eq_iff (n₁:=(mkRat N D).num) (d₁:=(mkRat N D).den) (n₂:=N) (d₂:=D) (mkRat N D).den_nz hD).1 (Rat.mkRat_self _)
  exact this
 have hd:(0:Int)<((mkRat N D).den:Int):=by have:=(mkRat N D).den_pos;omega
 have hD2:(0:Int)<(D:Int):=by omega
 constructor
 ·intro h
  by_cases hN:N<0
  ·exact hN
  ·exfalso
   apply h
   have:0≤(mkRat N D).num*(D:Int):=by rw[h4];exact Int.mul_nonneg (by omega) (by omega)
   exact Int.nonneg_of_mul_nonneg_left this hD2
 ·intro hN h
  have:0≤(mkRat N D).num*(D:Int):=Int.mul_nonneg h (by omega)
  rw[h4] at this
  have:=Int.mul_neg_of_neg_of_pos hN hd
  omega
theorem DZ {s:Bool} {n d:Int} (n0:0≤n) (d0:0<d):ah (mkRat (if s then -n else n) d.toNat)=(s&&decide (0<n),(aM (n / bT n d),aM (d / bT n d))):=by
 have hD:d.toNat≠0:=by omega
 obtain⟨h1,h2⟩:=KI (N:=if s then -n else n) hD
 have hab:(if s then -n else n).natAbs=n.toNat:=by split<;>omega
 unfold ah
 rw[h1,h2,hab]
 have hg:bT n d=((n.toNat.gcd d.toNat:Nat):Int):=rfl
 refine Prod.ext ?_ (Prod.ext ?_ ?_)
 ·simp only
  rw[Bool.eq_iff_iff]
  simp only[decide_eq_true_eq,Bool.and_eq_true]
  rw[XU hD]
  cases s<;>simp<;>omega
 ·simp only
  rw[hg]
  congr 1
  rw[Int.natCast_ediv]
  congr 1
  omega
 ·simp only
  rw[hg]
  congr 1
  rw[Int.natCast_ediv]
  congr 1
  omega
theorem zA {N:Int} {D:Nat} {k:Nat} (hD:D≠0) (h1:(N.natAbs:Int)<4294967296^k) (h2:(D:Int)<4294967296^k):Sz k (mkRat N D):=by
 obtain⟨e1,e2⟩:=KI (N:=N) hD
 unfold Sz
 rw[e1,e2]
 have a1:=Nat.div_le_self N.natAbs (N.natAbs.gcd D)
 have a2:=Nat.div_le_self D (N.natAbs.gcd D)
 exact⟨by omega,by omega⟩
theorem Sz.mono {j k:Nat} {q:Rat} (h:Sz j q) (hk:j≤k):Sz k q:=by
 have:=ol hk
 exact⟨by have:=h.1;omega,by have:=h.2;omega⟩
theorem KJ (p q:Rat):p+q=mkRat (p.num*q.den+q.num*p.den) (p.den*q.den):=by
 rw[Rat.add_def,Rat.normalize_eq_mkRat]
theorem KL {p q:Rat} {i j:Nat} (hp:Sz i p) (hq:Sz j q):Sz (i+j+1) (p+q):=by
 rw[KJ]
 have d1:=p.den_pos
 have d2:=q.den_pos
 have hD:p.den*q.den≠0:=Nat.ne_of_gt (Nat.mul_pos d1 d2)
 have m:∀{a b:Int} {i j:Nat},0≤a→0≤b→a<4294967296^i→b<4294967296^j→a*b<4294967296^(i+j):=by
  intro a b i j a0 b0 h1 h2
  rw[Int.pow_add]
  exact Int.lt_of_le_of_lt (Int.mul_le_mul_of_nonneg_left (Int.le_of_lt h2) a0) (Int.mul_lt_mul_of_pos_right h1 (pow_pos _))
 have h1:=m (by omega) (by omega) hp.1 hq.2
 have h2:=m (by omega) (by omega) hq.1 hp.2
 have h3:=m (by omega) (by omega) hp.2 hq.2
 rw[Nat.add_comm j i] at h2
 have hP:=pow_pos (i+j)
 refine zA hD ?_ ?_
 ·have a1:(p.num*(q.den:Int)).natAbs=p.num.natAbs*q.den:=by rw[Int.natAbs_mul,Int.natAbs_natCast]
  have a2:(q.num*(p.den:Int)).natAbs=q.num.natAbs*p.den:=by rw[Int.natAbs_mul,Int.natAbs_natCast]
  have a3:=Int.natAbs_add_le (p.num*(q.den:Int)) (q.num*(p.den:Int))
  rw[a1,a2] at a3
  have a4:((p.num.natAbs*q.den+q.num.natAbs*p.den:Nat):Int)=(p.num.natAbs:Int)*q.den+(q.num.natAbs:Int)*p.den:=by push_cast;rfl
  rw[Int.pow_succ]
  omega
 ·have a4:((p.den*q.den:Nat):Int)=(p.den:Int)*q.den:=by push_cast;rfl
  rw[a4,Int.pow_succ]
  omega
theorem D1 {p:Rat} {i:Nat} (hp:Sz i p):Sz i (-p):=by
 unfold Sz at hp ⊢
 rw[Rat.neg_num,Rat.neg_den,Int.natAbs_neg]
 exact hp
def iH (q:Rat):SV:=.agg (encS sF (ah q))
def bM (x:aW):Prop:=∃q k,x=ah q∧Sz k q∧k≤100000000
def cE (s:Bool) (n d:Int):Rat:=mkRat (if s then -n else n) d.toNat
def D2:bf:=⟨61,Int,.one (cT .i64),fun n=> -9223372036854775808≤(show Int from n)∧(show Int from n)≤9223372036854775807,fun n=> .row (.i .u32) (aM ((show Int from n).natAbs:Int))⟩
theorem h127:Holds Tryz.prog D2:=by
 refine con (L:=[rW]) D2 vY (fun _ _=> .look) (bu.none _) (by simpa using h128) (by kernel_rfl) (by kernel_rfl) (fun _=>rfl) ?_
 intro(n:Int) h
 obtain⟨h0,h1⟩: -9223372036854775808≤n∧n≤9223372036854775807:=h
 refine bh (let z0:=decide (n<(0:Int));let z1:=(-(n+(1:Int))+(1:Int)) % (18446744073709551616:Int);let z2:=ai.i .u32;let z3:=SV.row z2 (aM (↑n.natAbs:Int));(z0=true→aC .i64 (n+(1:Int))∧aC .i64 (-(n+(1:Int)))∧aC .u64 (-(n+(1:Int)))∧((0:Int)≤z1∧z1<(18446744073709551616:Int))∧(SV.row z2 (aM z1)).same z3)∧(z0=false→aC .u64 n∧((0:Int)≤n∧n<(18446744073709551616:Int))∧(SV.row z2 (aM n)).same z3)) (by kernel_rfl) ?_
 simp only[vcs]
 refine⟨fun hn=>?_,fun hn=>?_⟩
 ·have e:(-(n+1)+1) % 18446744073709551616=(n.natAbs:Int):=by omega
  rw[e]
  exact⟨by omega,by omega,u64_in (by omega) (by omega),by omega,rfl⟩
 ·have e:(n.natAbs:Int)=n:=by omega
  rw[e]
  exact⟨u64_in (by omega) (by omega),by omega,rfl⟩
def zB:bf:=⟨95,Bool×(List Int×List Int),.cons CP (.cons (bR (.i .u32)) (.one (bR (.i .u32)))),fun a=>(ag a.2.1∧ag a.2.2)∧(a.2.1.length≤1000000000∧a.2.2.length≤1000000000)∧0<ac a.2.2,
 fun a=> .aD [iH (cE a.1 (ac a.2.1) (ac a.2.2)),.si .i64 0]⟩
theorem h151:Holds Tryz.prog zB:=by
 refine con (L:=[zz,zw]) zB wv (fun _ _=> .look) (bu.none _) (by simpa using⟨h165g,h166g⟩) (by kernel_rfl) (by kernel_rfl) (fun _=>rfl) ?_
 rintro⟨s,n,d⟩ ⟨⟨hn,hd⟩,⟨hln,hld⟩,d0⟩
 simp only at hn hd hln hld d0
 refine bh (let z0:=decide ((↑d.length:Int)=(0:Int));let z1:=SV.row (ai.i .i64) [];let z2:=ah (cE s (ac n) (ac d));let z3:=ai.i .u32;let z4:=SV.aD [SV.agg [SV.sb z2.fst,SV.row z3 z2.snd.fst,SV.row z3 z2.snd.snd],SV.si .i64 0];let z5:=aM (bT (ac n) (ac d));let z6:=aM (ac n / ac z5);let z7:=[SV.row z3 z6,SV.row z3 (aM (ac d / ac z5))];let z8:=[SV.il .i64 0];(z0=true→(SV.aD [SV.agg [SV.bl false,z1,z1],SV.il .i64 8]).same z4)∧(z0=false→((ag n∧ag d)∧n.length≤1000000000∧d.length≤1000000000)∧((ag n∧ag z5)∧(n.length≤10000000000∧z5.length≤10000000000)∧(0:Int)<ac z5)∧((ag d∧ag z5)∧(d.length≤10000000000∧z5.length≤10000000000)∧(0:Int)<ac z5)∧(false=true→(SV.aD [SV.agg [SV.bl false,z1,z1],SV.il .i64 8]).same z4)∧(false=false→(false=true→(SV.aD [SV.agg [SV.bl false,z1,z1],SV.il .i64 8]).same z4)∧(false=false→(s=true→(SV.aD (SV.agg (SV.sb (decide ((0:Int)<(↑z6.length:Int)))::z7)::z8)).same z4)∧(s=false→(SV.aD (SV.agg (SV.bl false::z7)::z8)).same z4))))) (by kernel_rfl) ?_
 simp only[vcs]
 have n0:=bQ hn
 have g0:0<bT (ac n) (ac d):=by
  unfold bT
  have:=Nat.gcd_pos_of_pos_right (ac n).toNat (show 0<(ac d).toNat by omega)
  omega
 have uD:bT (ac n) (ac d)≤ac d:=by
  unfold bT
  have:=Nat.gcd_le_right (ac n).toNat (show 0<(ac d).toNat by omega)
  omega
 have XV:bT (ac n) (ac d)∣ac n:=by
  unfold bT
  have:=Nat.gcd_dvd_left (ac n).toNat (ac d).toNat
  have h2:=Int.natCast_dvd_natCast.2 this
  rwa [Int.toNat_of_nonneg n0] at h2
 obtain⟨a1,a2,a3⟩:=bZ (Int.le_of_lt g0)
 have hgl:=qc a2 (mQ hd) a3 (by rw[a1,lS.1];exact uD)
 have htl:=@nV d
 have hq0:0≤ac n / bT (ac n) (ac d):=Int.ediv_nonneg n0 (Int.le_of_lt g0)
 obtain⟨b1,b2,b3⟩:=bZ hq0
 have hpos:(0<((aM (ac n / bT (ac n) (ac d))).length:Int))↔0<ac n:=by
  obtain⟨m,hm⟩:=XV
  have hmm:ac n / bT (ac n) (ac d)=m:=by
   conv=>lhs;arg 1;rw[hm]
   rw[Int.mul_ediv_cancel_left _ (by omega)]
  rw[hmm] at b1 b2 b3 ⊢
  have hm0:0<ac n↔0<m:=by
   generalize bT (ac n) (ac d)=g at*
   rw[hm]
   constructor
   ·intro h
    by_cases h2:0<m
    ·exact h2
    ·have:=Int.mul_nonpos_of_nonneg_of_nonpos (Int.le_of_lt g0) (show m≤0 by omega)
     omega
   ·intro h;exact Int.mul_pos g0 h
  rw[hm0]
  constructor
  ·intro h
   by_cases hm:m=0
   ·rw[hm] at h;exact absurd h (by decide)
   ·omega
  ·intro h
   by_cases hl:(aM m).length=0
   ·rw[List.eq_nil_of_length_eq_zero hl] at b1
    simp only[ac] at b1
    omega
   ·omega
 have hd0:d.length≠0:=by
  intro h
  rw[List.eq_nil_of_length_eq_zero h] at d0
  exact absurd d0 (by decide)
 unfold cE
 rw[DZ n0 d0,a1]
 simp only
 refine⟨fun h=>absurd h (by omega),fun _=>⟨⟨⟨hn,hd⟩,by omega,by omega⟩,⟨⟨hn,a2⟩,by omega,g0⟩,⟨⟨hd,a2⟩,by omega,g0⟩,?_⟩⟩
 have hb:decide (0<((aM (ac n / bT (ac n) (ac d))).length:Int))=decide (0<ac n):=by
  rw[decide_eq_decide];exact hpos
 refine⟨fun h=>absurd h (by decide),fun _=>⟨fun h=>absurd h (by decide),fun _=>⟨fun hs=>?_,fun hs=>?_⟩⟩⟩
 ·rw[hs,hb]
  rfl
 ·rw[hs]
  rfl
def su:bf:=⟨60,Bool×(List Int×List Int),.cons CP (.cons (bR (.i .u32)) (.one (bR (.i .u32)))),fun a=>(ag a.2.1∧ag a.2.2)∧(a.2.1.length≤1000000000∧a.2.2.length≤1000000000)∧0<ac a.2.2,
 fun a=>iH (cE a.1 (ac a.2.1) (ac a.2.2))⟩
theorem h126:Holds Tryz.prog su:=by
 refine con (L:=[zB]) su vX (fun _ _=> .look) (bu.none _) (by simpa using h151) (by kernel_rfl) (by kernel_rfl) (fun _=>rfl) ?_
 rintro⟨s,n,d⟩ ⟨⟨hn,hd⟩,⟨hln,hld⟩,d0⟩
 simp only at hn hd hln hld d0
 refine bh (let z0:=ah (cE s (ac n) (ac d));let z1:=SV.agg [SV.sb z0.fst,SV.row (ai.i .u32) z0.snd.fst,SV.row (ai.i .u32) z0.snd.snd];((ag n∧ag d)∧(n.length≤1000000000∧d.length≤1000000000)∧(0:Int)<ac d)∧z1.same z1) (by kernel_rfl) ?_
 simp only[vcs]
 exact⟨⟨hn,hd⟩,⟨hln,hld⟩,d0⟩
def lW:bf:=⟨34,Int,.one (cT .i64),fun n=> -9223372036854775808≤(show Int from n)∧(show Int from n)≤9223372036854775807,fun n=>iH ((show Int from n):Rat)⟩
theorem h94:Holds Tryz.prog lW:=by
 refine con (L:=[D2,rW,su]) lW vI (fun _ _=> .look) (bu.none _) (by simpa using⟨h127,h128,h126⟩) (by kernel_rfl) (by kernel_rfl) (fun _=>rfl) ?_
 intro(n:Int) h
 obtain⟨h0,h1⟩: -9223372036854775808≤n∧n≤9223372036854775807:=h
 refine bh (let z0:=aM (↑n.natAbs:Int);let z1:=aM (1:Int);let z2:=ah (cE (decide (n<(0:Int))) (ac z0) (ac z1));let z3:=ai.i .u32;let z4:=ah (IntCast.intCast n);((-9223372036854775808:Int)≤n∧n≤(9223372036854775807:Int))∧((0:Int)≤(1:Int)∧(1:Int)<(18446744073709551616:Int))∧((ag z0∧ag z1)∧(z0.length≤1000000000∧z1.length≤1000000000)∧(0:Int)<ac z1)∧(SV.agg [SV.sb z2.fst,SV.row z3 z2.snd.fst,SV.row z3 z2.snd.snd]).same (SV.agg [SV.sb z4.fst,SV.row z3 z4.snd.fst,SV.row z3 z4.snd.snd])) (by kernel_rfl) ?_
 conv=>zeta
 obtain⟨a1,a2,a3⟩:=bZ (show(0:Int)≤(n.natAbs:Int) by omega)
 obtain⟨b1,b2,b3⟩:=bZ (show(0:Int)≤1 by omega)
 have l1:=fQ (k:=2) (show(0:Int)≤(n.natAbs:Int) by omega) (by rw[show(4294967296:Int)^2=18446744073709551616 from rfl];omega)
 have l2:=fQ (k:=1) (show(0:Int)≤1 by omega) (by decide)
 refine⟨⟨h0,h1⟩,⟨by omega,by omega⟩,⟨⟨a2,b2⟩,⟨by omega,by omega⟩,by omega⟩,?_⟩
 have e:cE (decide (n<0)) (ac (aM (n.natAbs:Int))) (ac (aM 1))=IntCast.intCast n:=by
  rw[a1,b1]
  unfold cE
  have h2:(if decide (n<0)=true then -(n.natAbs:Int) else(n.natAbs:Int))=n:=by
   by_cases h:n<0
   ·rw[if_pos (by simpa using h)];omega
   ·rw[if_neg (by simpa using h)];omega
  rw[h2]
  show mkRat n 1=_
  rw[Rat.mkRat_one]
 rw[e]
 rfl
def e7 (q:Rat):Int:=if q<0 then -1 else if 0<q then 1 else 0
def sw:bf:=⟨126,aW,.one (dc sF),bM,fun x=> .si .i64 (e7 (aO x))⟩
theorem h99:Holds Tryz.prog sw:=by
 refine con (L:=[]) sw vM (fun _ _=> .look) (bu.none _) (by simp) (by kernel_rfl) (by kernel_rfl) (fun _=>rfl) ?_
 intro(x:aW) h
 obtain⟨q,k,rfl,hz,hk⟩:bM x:=h
 refine bh (let z0:=decide ((↑(List.length (ah q).snd.fst):Int)=(0:Int));let z1:=SV.si .i64 (e7 (aO (ah q)));(z0=true→(SV.il .i64 0).same z1)∧(z0=false→((ah q).fst=true→(SV.il .i64 (-1:Int)).same z1)∧((ah q).fst=false→(SV.il .i64 1).same z1))) (by kernel_rfl) ?_
 simp only[vcs]
 rw[cb]
 have hl:((ah q).2.1.length:Int)=0↔q.num=0:=by
  unfold ah
  simp only
  obtain⟨a1,a2,a3⟩:=bZ (show(0:Int)≤(q.num.natAbs:Int) by omega)
  constructor
  ·intro h
   rw[List.eq_nil_of_length_eq_zero (by omega:(aM (q.num.natAbs:Int)).length=0)] at a1
   simp only[ac] at a1
   omega
  ·intro h
   rw[h]
   rfl
 have hf:(ah q).1=decide (q<0):=rfl
 have h0:=@Rat.num_nonneg q
 have hn:q<0↔q.num<0:=by
  rw[←Rat.not_le,←h0]
  omega
 have hp:0<q↔0<q.num:=by
  constructor
  ·intro h
   have h1:=h0.2 (Rat.le_of_lt h)
   by_cases hz:q.num=0
   ·have:=Rat.num_eq_zero.1 hz
    subst this
    exact absurd h (by decide)
   ·omega
  ·intro h
   have h1:=h0.1 (by omega)
   exact Rat.lt_of_le_of_ne h1 (fun he=>by rw[←he] at h;exact absurd h (by decide))
 rw[hl,hf]
 simp only[decide_eq_true_eq,decide_eq_false_iff_not]
 unfold e7
 simp only[hn,hp]
 refine⟨fun h=>?_,fun h=>⟨fun h2=>?_,fun h2=>?_⟩⟩
 ·rw[if_neg (by omega),if_neg (by omega)]
 ·rw[if_pos h2]
 ·rw[if_neg h2,if_pos (by omega)]
def qe (x:aW):Prop:=(ag x.2.1∧ag x.2.2)∧x.2.1.length≤100000000∧x.2.2.length≤100000000
def zC:bf:=⟨68,aW×aW,.cons (dc sF) (.one (dc sF)),fun a=>qe a.1∧qe a.2,fun a=> .aD [.row (.i .u32) (aM (ac a.1.2.1*ac a.2.2.2)),.row (.i .u32) (aM (ac a.2.2.1*ac a.1.2.2))]⟩
theorem h131:Holds Tryz.prog zC:=by
 refine con (L:=[r7]) zC v8 (fun _ _=> .look) (bu.none _) (by simpa using h153) (by kernel_rfl) (by kernel_rfl) (fun _=>rfl) ?_
 rintro⟨⟨s,n,d⟩,⟨s',n',d'⟩⟩ ⟨⟨⟨h1,h2⟩,h3,h4⟩,⟨⟨h5,h6⟩,h7,h8⟩⟩
 simp only at h1 h2 h3 h4 h5 h6 h7 h8
 refine bh (let z0:=SV.aD [SV.row (ai.i .u32) (aM (ac n*ac d')),SV.row (ai.i .u32) (aM (ac n'*ac d))];((ag n∧ag d')∧n.length≤100000000000∧d'.length≤100000000000)∧((ag n'∧ag d)∧n'.length≤100000000000∧d.length≤100000000000)∧z0.same z0) (by kernel_rfl) ?_
 simp only[vcs]
 refine⟨⟨⟨h1,h6⟩,by omega,by omega⟩,⟨⟨h5,h2⟩,by omega,by omega⟩⟩
theorem qf {p q:Rat} (h:p=q):(SV.agg [.sb (ah p).1,.row (.i .u32) (ah p).2.1,.row (.i .u32) (ah p).2.2]).same (.agg [.sb (ah q).1,.row (.i .u32) (ah q).2.1,.row (.i .u32) (ah q).2.2]):=by subst h;rfl
theorem qg (q:Rat):q.num=if decide (q<0) then -(q.num.natAbs:Int) else(q.num.natAbs:Int):=by
 have h0:=@Rat.num_nonneg q
 by_cases h:q<0
 ·rw[if_pos (by simpa using h)]
  have:¬0≤q.num:=fun h2=>Rat.not_le.2 h (h0.1 h2)
  omega
 ·rw[if_neg (by simpa using h)]
  have:=h0.2 (Rat.not_lt.1 h)
  omega
theorem ij (q:Rat):(ah q).1=decide (q<0)∧(ag (ah q).2.1∧bO (ah q).2.1∧ac (ah q).2.1=(q.num.natAbs:Int))∧(ag (ah q).2.2∧bO (ah q).2.2∧ac (ah q).2.2=(q.den:Int)):=by
 obtain⟨a1,a2,a3⟩:=bZ (show(0:Int)≤(q.num.natAbs:Int) by omega)
 obtain⟨b1,b2,b3⟩:=bZ (show(0:Int)≤(q.den:Int) by omega)
 exact⟨rfl,⟨a2,a3,a1⟩,⟨b2,b3,b1⟩⟩
theorem ln {q:Rat} {k:Nat} (h:Sz k q):(ah q).2.1.length≤k∧(ah q).2.2.length≤k:=
 ⟨fQ (by omega) h.1,fQ (by omega) h.2⟩
theorem XW (q:Rat):cE (!decide (q<0)) (q.num.natAbs:Int) (q.den:Int)= -q:=by
 unfold cE
 have h:=qg q
 have e:(if(!decide (q<0))=true then -(q.num.natAbs:Int) else(q.num.natAbs:Int))= -q.num:=by
  by_cases hq:q<0
  ·rw[if_pos (by simpa using hq)] at h
   rw[if_neg (by simpa using hq)]
   omega
  ·rw[if_neg (by simpa using hq)] at h
   rw[if_pos (by simpa using hq)]
   omega
 rw[e,Int.toNat_natCast]
 conv=>rhs;rw[←Rat.mkRat_self q]
 rw[Rat.neg_mkRat]
def uE:bf:=⟨129,aW,.one (dc sF),bM,fun x=>iH (-(aO x))⟩
theorem h130:Holds Tryz.prog uE:=by
 refine con (L:=[su]) uE v7 (fun _ _=> .look) (bu.none _) (by simpa using h126) (by kernel_rfl) (by kernel_rfl) (fun _=>rfl) ?_
 intro(x:aW) h
 obtain⟨q,k,rfl,hz,hk⟩:bM x:=h
 refine bh (let z0:=(ah q).snd.fst;let z1:=(ah q).snd.snd;let z2:=ah (cE (!(ah q).fst) (ac z0) (ac z1));let z3:=ai.i .u32;let z4:=(ah (-aO (ah q))).snd;((ag z0∧ag z1)∧(List.length z0≤1000000000∧List.length z1≤1000000000)∧(0:Int)<ac z1)∧(SV.agg [SV.sb z2.fst,SV.row z3 z2.snd.fst,SV.row z3 z2.snd.snd]).same (SV.agg [SV.sb (ah (-aO (ah q))).fst,SV.row z3 z4.fst,SV.row z3 z4.snd])) (by kernel_rfl) ?_
 conv=>zeta
 obtain⟨e1,⟨a2,a3,a1⟩,⟨b2,b3,b1⟩⟩:=ij q
 obtain⟨l1,l2⟩:=ln hz
 have hd:=q.den_pos
 refine⟨⟨⟨a2,b2⟩,⟨by omega,by omega⟩,by omega⟩,qf ?_⟩
 rw[cb,e1,a1,b1]
 exact XW q
theorem jX {a b:Int} {i j:Nat} (a0:0≤a) (h1:a<4294967296^i) (h2:b<4294967296^j):a*b<4294967296^(i+j):=by
 rw[Int.pow_add]
 exact Int.lt_of_le_of_lt (Int.mul_le_mul_of_nonneg_left (Int.le_of_lt h2) a0) (Int.mul_lt_mul_of_pos_right h1 (pow_pos _))
theorem D3 {p q:Rat} {i j:Nat} (hp:Sz i p) (hq:Sz j q):∃X Y D:Int,ac (ah p).2.1*ac (ah q).2.2=X∧ac (ah q).2.1*ac (ah p).2.2=Y∧ac (ah p).2.2*ac (ah q).2.2=D∧0≤X∧0≤Y∧0<D∧
  (aM X).length≤i+j∧(aM Y).length≤i+j∧(aM (X+Y)).length≤i+j+1∧(aM (X - Y)).length≤i+j∧(aM (Y - X)).length≤i+j∧(aM D).length≤i+j∧p.num*q.den=(if decide (p<0) then -X else X)∧q.num*p.den=(if decide (q<0) then -Y else Y)∧((p.den*q.den:Nat):Int)=D:=by
 obtain⟨_,⟨_,_,a1⟩,⟨_,_,b1⟩⟩:=ij p
 obtain⟨_,⟨_,_,a2⟩,⟨_,_,b2⟩⟩:=ij q
 rw[a1,b1,a2,b2]
 have d1:=p.den_pos
 have d2:=q.den_pos
 have x1:=jX (a:=(p.num.natAbs:Int)) (by omega) hp.1 hq.2
 have x2:=jX (a:=(q.num.natAbs:Int)) (by omega) hq.1 hp.2
 rw[Nat.add_comm j i] at x2
 have x3:=jX (a:=(p.den:Int)) (by omega) hp.2 hq.2
 have y1:0≤(p.num.natAbs:Int)*q.den:=Int.mul_nonneg (by omega) (by omega)
 have y2:0≤(q.num.natAbs:Int)*p.den:=Int.mul_nonneg (by omega) (by omega)
 have y3:0<(p.den:Int)*q.den:=Int.mul_pos (by omega) (by omega)
 have s1:=qg p
 have s2:=qg q
 refine⟨_,_,_,rfl,rfl,rfl,y1,y2,y3,fQ y1 x1,fQ y2 x2,fQ (by omega) ?_,?_,?_,fQ (by omega) x3,?_,?_,by push_cast;rfl⟩
 ·rw[Int.pow_succ]
  omega
 ·by_cases h:(p.num.natAbs:Int)*q.den - (q.num.natAbs:Int)*p.den≤0
  ·rw[zn h];simp
  ·exact fQ (by omega) (by omega)
 ·by_cases h:(q.num.natAbs:Int)*p.den - (p.num.natAbs:Int)*q.den≤0
  ·rw[zn h];simp
  ·exact fQ (by omega) (by omega)
 ·conv=>lhs;rw[s1]
  split
  ·rw[Int.neg_mul]
  ·rfl
 ·conv=>lhs;rw[s2]
  split
  ·rw[Int.neg_mul]
  ·rfl
theorem KN {p q:Rat} {s:Bool} {n D:Int} (hD:((p.den*q.den:Nat):Int)=D) (h:p.num*q.den+q.num*p.den=if s then -n else n):cE s n D=p+q:=by
 rw[KJ]
 unfold cE
 rw[←h,←hD,Int.toNat_natCast]
theorem zD {p:Rat} {k:Nat} (h:Sz k p) (hk:k≤100000000):qe (ah p):=by
 obtain⟨_,⟨a,_,_⟩,⟨b,_,_⟩⟩:=ij p
 have:=ln h
 exact⟨⟨a,b⟩,by omega,by omega⟩
def ik (p q:Rat):Int:=if p<q then -1 else if q<p then 1 else 0
def zE:bf:=⟨37,aW×aW,.cons (dc sF) (.one (dc sF)),fun a=>bM a.1∧bM a.2,fun a=> .si .i64 (ik (aO a.1) (aO a.2))⟩
theorem h97:Holds Tryz.prog zE:=by
 refine con (L:=[zC,rV]) zE vK (fun _ _=> .look) (bu.none _) (by simpa using⟨h131,h132⟩) (by kernel_rfl) (by kernel_rfl) (fun _=>rfl) ?_
 rintro⟨x,y⟩ ⟨⟨p,i,hx,hz,hi⟩,⟨q,j,hy,hw,hj⟩⟩
 simp only at hx hy
 subst hx hy
 refine bh (let z0:=(ah p).fst;let z1:=SV.si .i64 (ik (aO (ah p)) (aO (ah q)));let z2:=aM (ac (ah q).snd.fst*ac (ah p).snd.snd);let z3:=aM (ac (ah p).snd.fst*ac (ah q).snd.snd);((!z0==(ah q).fst)=true→(z0=true→(SV.il .i64 (-1:Int)).same z1)∧(z0=false→(SV.il .i64 1).same z1))∧((!z0==(ah q).fst)=false→(qe (z0,(ah p).snd.fst,(ah p).snd.snd)∧qe ((ah q).fst,(ah q).snd.fst,(ah q).snd.snd))∧(z0=true→((ag z2∧ag z3)∧z2.length≤1000000000000∧z3.length≤1000000000000)∧(SV.si .i64 (dS (ac z2) (ac z3))).same z1)∧(z0=false→((ag z3∧ag z2)∧z3.length≤1000000000000∧z2.length≤1000000000000)∧(SV.si .i64 (dS (ac z3) (ac z2))).same z1))) (by kernel_rfl) ?_
 conv=>zeta
 obtain⟨e1,_,_⟩:=ij p
 obtain⟨e2,_,_⟩:=ij q
 obtain⟨X,Y,D,hX,hY,hD,X0,Y0,D0,l1,l2,l3,l4,l5,l6,n1,n2,n3⟩:=D3 hz hw
 obtain⟨c1,c2,c3⟩:=bZ X0
 obtain⟨c4,c5,c6⟩:=bZ Y0
 simp only[cb,hX,hY,c1,c4,e1,e2]
 simp only[vcs]
 have hl:p<q↔p.num*q.den<q.num*p.den:=Rat.lt_iff p q
 have hl2:q<p↔q.num*p.den<p.num*q.den:=Rat.lt_iff q p
 have hp0:=@Rat.num_nonneg p
 have hq0:=@Rat.num_nonneg q
 have hc:∀{z:Int},(z=if p.num*q.den<q.num*p.den then -1 else if q.num*p.den<p.num*q.den then 1 else 0)→z=ik p q:=fun h=>by
  unfold ik
  simp only[hl,hl2]
  exact h
 have XX:p<0→0<X:=fun h=>by
  rw[if_pos (by simpa using h)] at n1
  have h1:p.num<0:=by rw[←Rat.not_le,←hp0] at h;omega
  have:=Int.mul_neg_of_neg_of_pos h1 (show(0:Int)<q.den by have:=q.den_pos;omega)
  omega
 have XY:q<0→0<Y:=fun h=>by
  rw[if_pos (by simpa using h)] at n2
  have h1:q.num<0:=by rw[←Rat.not_le,←hq0] at h;omega
  have:=Int.mul_neg_of_neg_of_pos h1 (show(0:Int)<p.den by have:=p.den_pos;omega)
  omega
 rw[n1,n2] at hc
 refine⟨fun hne=>⟨fun hp=>?_,fun hp=>?_⟩,fun he=>⟨⟨zD hz hi,zD hw hj⟩,fun hp=>⟨⟨⟨c5,c2⟩,by omega,by omega⟩,?_⟩,fun hp=>⟨⟨⟨c2,c5⟩,by omega,by omega⟩,?_⟩⟩⟩
 ·apply hc
  have hq:¬q<0:=fun hq=>by simp[hp,hq] at hne
  simp only[decide_eq_true_eq,hp,hq,if_true,if_false]
  have:=XX hp
  rw[if_pos (by omega)]
 ·apply hc
  have hq:q<0:=by
   by_cases hq:q<0
   ·exact hq
   ·simp[hp,hq] at hne
  simp only[decide_eq_true_eq,hp,hq,if_true,if_false]
  have:=XY hq
  rw[if_neg (by omega),if_pos (by omega)]
 ·apply hc
  have hq:q<0:=by
   by_cases hq:q<0
   ·exact hq
   ·simp[hp,hq] at he
  simp only[decide_eq_true_eq,hp,hq,if_true,if_false]
  simp only[Int.neg_lt_neg_iff]
  rfl
 ·apply hc
  have hq:¬q<0:=fun hq=>by simp[hp,hq] at he
  simp only[decide_eq_true_eq,hp,hq,if_true,if_false]
  rfl
def uF:bf:=⟨66,aW×aW,.cons (dc sF) (.one (dc sF)),fun a=>bM a.1∧bM a.2,fun a=>iH (aO a.1+aO a.2)⟩
theorem h129:Holds Tryz.prog uF:=by
 refine con (L:=[zC,r7,ug,DD,su]) uF v6 (fun _ _=> .look) (bu.none _) (by simpa using⟨h131,h153,h154,h155,h126⟩) (by kernel_rfl) (by kernel_rfl) (fun _=>rfl) ?_
 rintro⟨x,y⟩ ⟨⟨p,i,hx,hz,hi⟩,⟨q,j,hy,hw,hj⟩⟩
 simp only at hx hy
 subst hx hy
 refine bh (let z0:=(ah p).fst;let z1:=(ah p).snd.snd;let z2:=(ah q).snd.snd;let z3:=aM (ac (ah p).snd.fst*ac z2);let z4:=aM (ac (ah q).snd.fst*ac z1);let z5:=aM (ac z3+ac z4);let z6:=aM (ac z1*ac z2);let z7:=ah (cE z0 (ac z5) (ac z6));let z8:=ai.i .u32;let z9:=ah (aO (ah p)+aO (ah q));let ak:=SV.agg [SV.sb z9.fst,SV.row z8 z9.snd.fst,SV.row z8 z9.snd.snd];let al:=decide (ac z4≤ac z3);let z12:=aM (ac z3 - ac z4);let au:=ah (cE z0 (ac z12) (ac z6));let ar:=aM (ac z4 - ac z3);let ax:=ah (cE (ah q).fst (ac ar) (ac z6));(qe (z0,(ah p).snd.fst,z1)∧qe ((ah q).fst,(ah q).snd.fst,z2))∧((ag z1∧ag z2)∧List.length z1≤100000000000∧List.length z2≤100000000000)∧((z0==(ah q).fst)=true→((ag z3∧ag z4)∧z3.length≤100000000000∧z4.length≤100000000000)∧((ag z5∧ag z6)∧(z5.length≤1000000000∧z6.length≤1000000000)∧(0:Int)<ac z6)∧(SV.agg [SV.sb z7.fst,SV.row z8 z7.snd.fst,SV.row z8 z7.snd.snd]).same ak)∧((z0==(ah q).fst)=false→((ag z3∧ag z4)∧z3.length≤100000000000∧z4.length≤100000000000)∧(al=true→((ag z12∧ag z6)∧(z12.length≤1000000000∧z6.length≤1000000000)∧(0:Int)<ac z6)∧(SV.agg [SV.sb au.fst,SV.row z8 au.snd.fst,SV.row z8 au.snd.snd]).same ak)∧(al=false→((ag z4∧ag z3)∧z4.length≤100000000000∧z3.length≤100000000000)∧((ag ar∧ag z6)∧(ar.length≤1000000000∧z6.length≤1000000000)∧(0:Int)<ac z6)∧(SV.agg [SV.sb ax.fst,SV.row z8 ax.snd.fst,SV.row z8 ax.snd.snd]).same ak))) (by kernel_rfl) ?_
 conv=>zeta
 obtain⟨e1,⟨u1,_,_⟩,⟨u2,_,_⟩⟩:=ij p
 obtain⟨e2,⟨u3,_,_⟩,⟨u4,_,_⟩⟩:=ij q
 obtain⟨m1,m2⟩:=ln hz
 obtain⟨m3,m4⟩:=ln hw
 obtain⟨X,Y,D,hX,hY,hD,X0,Y0,D0,l1,l2,l3,l4,l5,l6,n1,n2,n3⟩:=D3 hz hw
 obtain⟨c1,c2,c3⟩:=bZ X0
 obtain⟨c4,c5,c6⟩:=bZ Y0
 obtain⟨c7,c8,c9⟩:=bZ (Int.le_of_lt D0)
 obtain⟨s1,s2,s3⟩:=bZ (show 0≤X+Y by omega)
 simp only[cb,hX,hY,hD,c1,c4,c7,s1,e1,e2]
 simp only[vcs]
 have fin:∀{s:Bool} {n:Int},(p.num*q.den+q.num*p.den=if s then -n else n)→(SV.agg [.sb (ah (cE s n D)).1,.row (.i .u32) (ah (cE s n D)).2.1,.row (.i .u32) (ah (cE s n D)).2.2]).same (.agg [.sb (ah (p+q)).1,.row (.i .u32) (ah (p+q)).2.1,.row (.i .u32) (ah (p+q)).2.2]):=
  fun h=>qf (KN n3 h)
 rw[n1,n2] at fin
 refine⟨⟨zD hz hi,zD hw hj⟩,⟨⟨u2,u4⟩,by omega,by omega⟩,fun he=>⟨⟨⟨c2,c5⟩,by omega,by omega⟩,⟨⟨s2,c8⟩,⟨by omega,by omega⟩,D0⟩,fin ?_⟩,fun he=>⟨⟨⟨c2,c5⟩,by omega,by omega⟩,fun hle=>?_,fun hle=>?_⟩⟩
 ·by_cases hp:p<0<;>by_cases hq:q<0<;>simp[hp,hq] at he ⊢<;>omega
 ·obtain⟨t1,t2,t3⟩:=bZ (show 0≤X - Y by omega)
  rw[t1]
  refine⟨⟨⟨t2,c8⟩,⟨by omega,by omega⟩,D0⟩,fin ?_⟩
  by_cases hp:p<0<;>by_cases hq:q<0<;>simp[hp,hq] at he ⊢<;>omega
 ·obtain⟨t1,t2,t3⟩:=bZ (show 0≤Y - X by omega)
  rw[t1]
  refine⟨⟨⟨c5,c2⟩,by omega,by omega⟩,⟨⟨t2,c8⟩,⟨by omega,by omega⟩,D0⟩,fin ?_⟩
  by_cases hp:p<0<;>by_cases hq:q<0<;>simp[hp,hq] at he ⊢<;>omega
def D4:bf:=⟨128,aW×aW,.cons (dc sF) (.one (dc sF)),fun a=>bM a.1∧bM a.2,fun a=>iH (aO a.1 - aO a.2)⟩
theorem h95:Holds Tryz.prog D4:=by
 refine con (L:=[uE,uF]) D4 vJ (fun _ _=> .look) (bu.none _) (by simpa using⟨h130,h129⟩) (by kernel_rfl) (by kernel_rfl) (fun _=>rfl) ?_
 rintro⟨x,y⟩ ⟨⟨p,i,hx,hz,hi⟩,⟨q,j,hy,hw,hj⟩⟩
 simp only at hx hy
 subst hx hy
 refine bh (let z0:=((ah q).fst,(ah q).snd.fst,(ah q).snd.snd);let z1:=((ah p).fst,(ah p).snd.fst,(ah p).snd.snd);let z2:=(ah (-aO z0)).snd;let z3:=((ah (-aO z0)).fst,z2.fst,z2.snd);let z4:=ah (aO z1+aO z3);let z5:=ai.i .u32;let z6:=ah (aO (ah p) - aO (ah q));bM z0∧(bM z1∧bM z3)∧(SV.agg [SV.sb z4.fst,SV.row z5 z4.snd.fst,SV.row z5 z4.snd.snd]).same (SV.agg [SV.sb z6.fst,SV.row z5 z6.snd.fst,SV.row z5 z6.snd.snd])) (by kernel_rfl) ?_
 conv=>zeta
 have hn:bM (ah (-q)):=⟨-q,j,rfl,D1 hw,hj⟩
 refine⟨⟨q,j,rfl,hw,hj⟩,⟨⟨p,i,rfl,hz,hi⟩,?_⟩,qf ?_⟩
 ·have e:aO (ah q)=q:=cb q
  show bM (ah (-aO (ah q)))
  rw[e]
  exact hn
 ·show aO (ah p)+aO (ah (-aO (ah q)))=aO (ah p) - aO (ah q)
  rw[cb,cb,cb,Rat.sub_eq_add_neg]
end Go.Vi
