/-
  Contracts: natural numbers of any size: digit.
  Conditions: none.
-/
import Derived.Test.YtgejbpobaicgfaaGreatRK06
import Derived.Test.YtgejbpobaicgfaaGreatRK07
set_option maxRecDepth 100000
set_option maxHeartbeats 4000000
set_option linter.all false
namespace Go.Vi
open Go.Proofs.YtgejbpobaicgfaaGreat.Ir
open Go.Proofs
structure DgA where
 U:List Int
 j:Nat
 len:Nat
 n:Nat
 v:List Int
def DgA.x (a:DgA):Int:=bC (prt a.U a.j (a.v.length+1))
def DgA.ok (a:DgA):Prop:=(df a.U/\df a.v)/\(a.len=a.v.length+1/\a.n=a.U.length)/\(2<=a.v.length/\a.j+a.v.length+1<=a.U.length/\a.U.length<=200000000000)/\
 2147483648<=bo a.v (a.v.length - 1) 0/\a.x<4294967296*bC a.v
def DgA.row (a:DgA):List Int:=Ko a.U a.j (ET (a.v.length+1) (a.x % bC a.v))
def apm:ob where
 f:=168
 α:=DgA
 put a:=[.oc 0 a.j a.len a.n 1,.row (.i .u32) a.v]
 st a:=[.row (.i .u32) a.U 161 false]
 dec v o:=match v,o with
  |[.oc 0 j c n 1,v],[.row t l 161 false]=>match J6 (.i .u32) v,Hj t (.i .u32) l with
   |some v,some l=>some ⟨l,j,c,n,v⟩
   |_,_=>none
  |_,_=>none
 ok v o a h:=by
  grind[aaJ,gL,abH]
 inj a b k d:=by
  obtain⟨U,j,c,n,v⟩:=a
  obtain⟨q,y,e,z,s⟩:=b
  simp only[gL,List.cons.injEq,and_true] at k
  obtain⟨p,m⟩:=k
  have w:=(qX (.i .u32)).inj _ _ m
  simp only[SV.g,AV.os.injEq,true_and,bD.sz,Nat.mul_one] at p;simp only[gO,List.map_cons,List.map_nil,cC.g,List.cons.injEq,fZ.cells.injEq,and_true] at d
  have u:U=q:=by
   have r:=congrArg List.length d
   rw[xl,xl] at r
   exact Yg (.i .u32) (by grind[bD.sz]) d
  grind
 dom:=DgA.ok
 res a:=.si .u32 (a.x / bC a.v)
 out a:=[.row (.i .u32) a.row 161 false]
def apn (U:List Int):ie:=[.row (.i .u32) U 161 false]
def aDp (a:DgA):Nat->jW
 |4=> .inv (Int×Int) (fun x=>⟨[(0,.oc 0 a.j a.len a.n 1),(1,.row (.i .u32) a.v),(5,.si .i64 a.v.length),(7,.si .u64 x.1),(8,.si .u64 x.2)],apn a.U⟩) (fun s=>(iS s 7,iS s 8))
  (fun x=>(0<=x.1/\x.1<=4294967297)/\(0<=x.2/\x.2<4294967296)/\x.1*bo a.v (a.v.length - 1) 0+x.2=bo a.U (a.j+(a.v.length - 1)) 0+4294967296*bo a.U (a.j+a.v.length) 0/\a.x<(x.1+1)*bC a.v) (fun x=>x.1.toNat) fun _ _=> .look
 |10=> .inv (Int×Int×Int×Int×List Int) (fun x=>⟨[(0,.oc 0 a.j a.len a.n 1),(1,.row (.i .u32) a.v),(5,.si .i64 a.v.length),(7,.si .u64 x.2.1),(9,.si .u64 x.2.2.1),(10,.si .u64 x.2.2.2.1),(82,.si .i64 a.v.length),(83,.si .i64 x.1)],apn x.2.2.2.2⟩)
  (fun s=>(iS s 83,iS s 7,iS s 9,iS s 10,oS (.i .u32) s 0))
  (fun x=>(0<=x.1/\x.1<=a.v.length)/\(0<=x.2.1/\x.2.1<4294967296)/\(a.x<(x.2.1+1)*bC a.v/\x.2.1*bC a.v<a.x+bC a.v)/\(0<=x.2.2.1/\x.2.2.1<4294967296)/\(0<=x.2.2.2.1/\x.2.2.2.1<=1)/\(df x.2.2.2.2/\x.2.2.2.2.length=a.U.length)/\
   (∀m,(m<a.j\/a.j+x.1.toNat<=m)->bo x.2.2.2.2 m 0=bo a.U m 0)/\
   bC (prt x.2.2.2.2 a.j x.1.toNat)=bC (prt a.U a.j x.1.toNat) - x.2.1*bC (a.v.take x.1.toNat)+4294967296^x.1.toNat*(x.2.2.1+x.2.2.2.1)) (fun x=>(a.v.length - x.1).toNat) fun _ _=> .look
 |23=> .inv (Int×Int×Int×List Int) (fun x=>⟨[(0,.oc 0 a.j a.len a.n 1),(1,.row (.i .u32) a.v),(5,.si .i64 a.v.length),(7,.si .u64 x.2.1),(9,.si .u64 x.2.2.1),(134,.si .i64 a.v.length),(135,.si .i64 x.1)],apn x.2.2.2⟩)
  (fun s=>(iS s 135,iS s 7,iS s 9,oS (.i .u32) s 0))
  (fun x=>(0<=x.1/\x.1<=a.v.length)/\(0<=x.2.1/\x.2.1<4294967296)/\(a.x<x.2.1*bC a.v/\x.2.1*bC a.v<a.x+bC a.v)/\(0<=x.2.2.1/\x.2.2.1<=1)/\(df x.2.2.2/\x.2.2.2.length=a.U.length)/\
   ∃W,(df W/\W.length=a.U.length)/\(∀m,(m<a.j\/a.j+(a.v.length+1)<=m)->bo W m 0=bo a.U m 0)/\bC (prt W a.j (a.v.length+1))=a.x - x.2.1*bC a.v+4294967296^(a.v.length+1)/\
    (∀m,(m<a.j\/a.j+x.1.toNat<=m)->bo x.2.2.2 m 0=bo W m 0)/\bC (prt x.2.2.2 a.j x.1.toNat)+4294967296^x.1.toNat*x.2.2.1=bC (prt W a.j x.1.toNat)+bC (a.v.take x.1.toNat))
  (fun x=>(a.v.length - x.1).toNat) fun _ _=> .look
 |_=> .look
theorem h169:qH Tryz.prog apm:=by
 refine SD (L:=[]) (W:=[]) apm aDp (by simp) (by simp) ?_
 rintro⟨U,j,q0,n,v⟩ ⟨⟨hU,hv⟩,⟨e1,e2⟩,⟨hn,hj,o5⟩,i3,hx⟩
 simp only at hU hv hn hj o5 i3 hx e1 e2
 subst e1 e2
 refine gw (let a:=(18446744073709551616:Int);let b:=(0:Int);let c:=(4294967296:Int);let d:=(1:Int);let e:=SV.row;let f:=SV.si .i64;let g:=(32:Int);let h:=iR .i64;let k:=(9223372036854775808:Int);let l:=(4294967297:Int);let n:=(64:Int);let p:=cC.row;let q:=SV.il .i64 0;let r:=(63:Int);let t:=SV.il .i64;let C:=(↑v.length:Int);let y:=v.length+1;let D:=(↑y:Int);let A:=C - d;let F:=bo v A.toNat b % a;let G:=B2.orI .u64 (bo U (j+C.toNat) 0 % a*c % a) (bo U (j+A.toNat) 0 % a);let E:=G.tdiv F;let B:=SV.oc 0 j y U.length 1;let w:=bD.i .u32;let K:=(↑v.length:Int);let o:=f K;let l1:=SV.si .u64 E;let g3:=G.tmod F;let j0:=SV.si .u64 g3;let a8:=p w U 161 false;let i5:=v.length - 1;let h8:=bo v i5 b;let h7:=bo U (j+i5) 0+c*bo U (j+v.length) 0;let k8:=DgA.mk U j y U.length v;let M:=k8.x;let c8:=K - d;let o4:=bo v c8.toNat b % a;let e4:=M+bC v;let f1:=bC (prt U j 0);let a4:=j+K.toNat;let i6:=SV.si .u32 (M / bC v);let j2:=p w k8.row 161 false;let i9:=c^y;let a0:=K - (2:Int);U.length=U.length/\b<=C/\C<D/\j+y<=U.length/\U.length=U.length/\j+C.toNat<U.length/\b<=g/\g<=n/\h A/\U.length=U.length/\b<=A/\A<D/\j+y<=U.length/\U.length=U.length/\j+A.toNat<U.length/\h A/\b<=A/\A<C/\A.toNat<v.length/\F≠b/\iR .u64 E/\h A/\b<=A/\A<C/\A.toNat<v.length/\F≠b/\(((B.same B/\(e w v).same (e w v)/\(f C).same o/\l1.same l1/\j0.same j0/\True)/\a8.same a8/\True)/\(b<=E/\E<=l)/\(b<=g3/\g3<c)/\E*h8+g3=h7/\M<(E+d)*bC v)/\∀(x:Int×Int),let c4:=(x.snd+o4) % a;let k6:=decide (c<=c4);let Y:=(x.fst - d) % a;let g6:=SV.si .u64 Y;let l6:=SV.si .u64 c4;let l9:=decide (c<=x.fst);let n8:=SV.si .u64 x.fst;let l7:=∀(x:Int×Int×Int×Int×List Int),let g2:=x.snd.fst*bC v;let s:=x.snd.snd.snd.snd;let e5:=x.snd.snd.snd.fst;let g4:=x.snd.snd.fst;let j1:=((bo s a4 b % a - g4) % a - e5) % a;let c7:=j+x.fst.toNat;let f8:=x.fst+d;let e8:=SV.si .u64 x.snd.fst;let j3:=(x.snd.fst*(bo v x.fst.toNat b % a) % a+g4) % a;let k9:=j3 / c;let n3:=SV.si .u64 k9;let k7:=B2.afC .u64 j3 (4294967295:Int);let n1:=((bo s c7 b % a - k7) % a - e5) % a;let l5:=n1 / k;let j7:=SV.si .u64 l5;let n6:=f f8;let c5:=s.set a4 (j1 % c);let n0:=fun(u a3 b2:Int) (e9:List Int) ↦(b<=u/\u<=K)/\(b<=x.snd.fst/\x.snd.fst<c)/\(M<(x.snd.fst+d)*bC v/\g2<e4)/\(b<=a3/\a3<c)/\(b<=b2/\b2<=d)/\(df e9/\e9.length=U.length)/\(∀(m:Nat),m<j\/j+u.toNat<=m->bo e9 m b=bo U m b)/\bC (prt e9 j u.toNat)=bC (prt U j u.toNat) - x.snd.fst*bC (List.take u.toNat v)+c^u.toNat*(a3+b2);let j8:=fun(u:Nat) (a3:Int) ↦let n9:=p w (s.set u (((bo s u b % a - a3) % a - e5) % a % c)) 161 false;n9.same n9/\True;let n5:=fun(u:Bool) ↦decide (j1 / k=b)=u;n0 x.fst g4 e5 s->(decide (x.fst<K)=true->b<=x.fst/\x.fst<C/\x.fst.toNat<v.length/\b<=g/\g<=n/\U.length=s.length/\b<=x.fst/\x.fst<D/\j+y<=U.length/\U.length=s.length/\c7<s.length/\b<=r/\r<=n/\U.length=s.length/\b<=x.fst/\x.fst<D/\j+y<=U.length/\U.length=s.length/\c7<s.length/\h f8/\((B.same B/\(e w v).same (e w v)/\o.same o/\e8.same e8/\n3.same n3/\j7.same j7/\o.same o/\n6.same n6/\True)/\j8 c7 k7)/\n0 f8 k9 l5 (s.set c7 (n1 % c))/\(K - f8).toNat<(K - x.fst).toNat)/\(decide (x.fst<K)=false->U.length=s.length/\b<=K/\K<D/\j+y<=U.length/\U.length=s.length/\a4<s.length/\U.length=s.length/\b<=K/\K<D/\j+y<=U.length/\U.length=s.length/\a4<s.length/\b<=r/\r<=n/\(n5 true->(SV.si .u32 (x.snd.fst % c)).same i6/\(p w c5 161 false).same j2/\True)/\(n5 false->(((B.same B/\(e w v).same (e w v)/\o.same o/\e8.same e8/\(SV.il .u64 0).same (SV.si .u64 0)/\o.same o/\(q).same (f 0)/\True)/\j8 a4 g4)/\(b<=b/\b<=K)/\(b<=x.snd.fst/\x.snd.fst<c)/\(M<g2/\g2<e4)/\(b<=b/\b<=d)/\(df c5/\c5.length=U.length)/\∃(W:List Int),(df W/\W.length=U.length)/\(∀(m:Nat),m<j\/j+y<=m->bo W m b=bo U m b)/\bC (prt W j y)=M - g2+i9/\(∀(m:Nat),m<j\/j+0<=m->bo c5 m b=bo W m b)/\bC (prt c5 j 0)+b=bC (prt W j 0)+bC [])/\∀(x:Int×Int×Int×List Int),let h6:=x.snd.fst*bC v;let h9:=x.snd.snd.fst;let z:=x.snd.snd.snd;let e7:=j+x.fst.toNat;let e6:=x.fst+d;let n4:=SV.si .u64 x.snd.fst;let l2:=((bo z e7 b % a+bo v x.fst.toNat b % a) % a+h9) % a;let l8:=l2 / c;let l3:=SV.si .u64 l8;let i4:=f e6;let j5:=z.set e7 (l2 % c);let l0:=p w j5 161 false;let n7:=fun(u a3:Int) (b2:List Int) ↦(b<=u/\u<=K)/\(b<=x.snd.fst/\x.snd.fst<c)/\(M<h6/\h6<e4)/\(b<=a3/\a3<=d)/\(df b2/\b2.length=U.length)/\∃(W:List Int),(df W/\W.length=U.length)/\(∀(m:Nat),m<j\/j+y<=m->bo W m b=bo U m b)/\bC (prt W j y)=M - h6+i9/\(∀(m:Nat),m<j\/j+u.toNat<=m->bo b2 m b=bo W m b)/\bC (prt b2 j u.toNat)+c^u.toNat*a3=bC (prt W j u.toNat)+bC (List.take u.toNat v);n7 x.fst h9 z->(decide (x.fst<K)=true->U.length=z.length/\b<=x.fst/\x.fst<D/\j+y<=U.length/\U.length=z.length/\e7<z.length/\b<=x.fst/\x.fst<C/\x.fst.toNat<v.length/\b<=g/\g<=n/\U.length=z.length/\b<=x.fst/\x.fst<D/\j+y<=U.length/\U.length=z.length/\e7<z.length/\h e6/\((B.same B/\(e w v).same (e w v)/\o.same o/\n4.same n4/\l3.same l3/\o.same o/\i4.same i4/\True)/\l0.same l0/\True)/\n7 e6 l8 j5/\(K - e6).toNat<(K - x.fst).toNat)/\(decide (x.fst<K)=false->U.length=z.length/\b<=K/\K<D/\j+y<=U.length/\U.length=z.length/\a4<z.length/\U.length=z.length/\b<=K/\K<D/\j+y<=U.length/\U.length=z.length/\a4<z.length/\(SV.si .u32 ((x.snd.fst - d) % a % c)).same i6/\(p w (z.set a4 ((bo z a4 b+h9 % c) % c)) 161 false).same j2/\True)));let n2:=h c8/\b<=c8/\c8<C/\c8.toNat<v.length/\(k6=true->(((B.same B/\(e w v).same (e w v)/\o.same o/\g6.same g6/\(SV.il .u64 0).same (SV.si .u64 0)/\(SV.il .u64 0).same (SV.si .u64 0)/\o.same o/\(q).same (f 0)/\True)/\a8.same a8/\True)/\(b<=b/\b<=K)/\(b<=Y/\Y<c)/\(M<(Y+d)*bC v/\Y*bC v<e4)/\(b<=b/\b<c)/\(b<=b/\b<=d)/\(df U/\U.length=U.length)/\(∀(m:Nat),m<j\/j+0<=m->bo U m b=bo U m b)/\f1=f1 - Y*bC []+b)/\l7)/\(k6=false->((B.same B/\(e w v).same (e w v)/\o.same o/\g6.same g6/\l6.same l6/\True)/\a8.same a8/\True)/\((b<=Y/\Y<=l)/\(b<=c4/\c4<c)/\Y*h8+c4=h7/\M<(Y+d)*bC v)/\Y.toNat<x.fst.toNat);let o0:=fun(u:Bool) ↦decide (B2.orI .u64 (x.snd*c % a) (bo U (j+a0.toNat) 0 % a)<x.fst*(bo v a0.toNat b % a) % a)=u;(b<=x.fst/\x.fst<=l)/\(b<=x.snd/\x.snd<c)/\x.fst*h8+x.snd=h7/\M<(x.fst+d)*bC v->(l9=true->n2)/\(l9=false->h a0/\b<=a0/\a0<C/\a0.toNat<v.length/\b<=g/\g<=n/\h a0/\U.length=U.length/\b<=a0/\a0<D/\j+y<=U.length/\U.length=U.length/\j+a0.toNat<U.length/\(o0 true->n2)/\(o0 false->(((B.same B/\(e w v).same (e w v)/\o.same o/\n8.same n8/\(SV.il .u64 0).same (SV.si .u64 0)/\(SV.il .u64 0).same (SV.si .u64 0)/\o.same o/\(q).same (f 0)/\True)/\a8.same a8/\True)/\(b<=b/\b<=K)/\(b<=x.fst/\x.fst<c)/\(M<(x.fst+d)*bC v/\x.fst*bC v<e4)/\(b<=b/\b<c)/\(b<=b/\b<=d)/\(df U/\U.length=U.length)/\(∀(m:Nat),m<j\/j+0<=m->bo U m b=bo U m b)/\f1=f1 - x.fst*bC []+b)/\l7))) (by kernel_rfl) ?_
 simp only[vcs]
 have t1:((v.length:Int) - 1).toNat=v.length - 1:=by omega
 have t2:((v.length:Int) - 2).toNat=v.length - 2:=by omega
 have t3:((v.length:Int)).toNat=v.length:=by omega
 have b7:=aDn hn rfl
 have b6:=@aDo U j v.length hn
 have q4:=ri hv (v.length - 1)
 have b8:=ri hv (v.length - 2)
 have m0:=ri hU (j+v.length)
 have h4:=ri hU (j+(v.length - 1))
 have f7:=ri hU (j+(v.length - 2))
 have m1:bo v (v.length - 1) 0 % 18446744073709551616=bo v (v.length - 1) 0:=by omega
 have m2:bo v (v.length - 2) 0 % 18446744073709551616=bo v (v.length - 2) 0:=by omega
 have m3:bo U (j+v.length) 0 % 18446744073709551616=bo U (j+v.length) 0:=by omega
 have m4:bo U (j+(v.length - 1)) 0 % 18446744073709551616=bo U (j+(v.length - 1)) 0:=by omega
 have m5:bo U (j+(v.length - 2)) 0 % 18446744073709551616=bo U (j+(v.length - 2)) 0:=by omega
 have m6:bo U (j+v.length) 0*4294967296 % 18446744073709551616=bo U (j+v.length) 0*4294967296:=by omega
 have l4:=ao7 m0.1 m0.2 h4.1 h4.2
 have b5:0<=bo U (j+v.length) 0*4294967296+bo U (j+(v.length - 1)) 0:=by omega
 have o1:bC (prt U j (v.length+1))<4294967296*bC v:=hx
 have hP:=pow_pos (v.length - 2)
 have c9:=uD (aaR hv (v.length - 2))
 have a6:=abo (aaR hv (v.length - 2))
 rw[List.length_take,Nat.min_eq_left (by omega)] at a6
 have g7:=uD (ae1 hU (j:=j) (k:=v.length - 2))
 have d7:=afX hU (j:=j) (k:=v.length - 2)
 have p4:=uD hv
 have p9:=uD (ae1 hU (j:=j) (k:=v.length+1))
 have o8:=aDm hP b7 b6 a6 g7 f7.1 h4.1 b8.2 o1
 have p7:(DgA.mk U j (v.length+1) U.length v).x=bC (prt U j (v.length+1)):=rfl
 simp only[p7,t1,t2,t3,m1,m2,m3,m4,m5,m6,l4,Int.tdiv_eq_ediv_of_nonneg b5,Int.tmod_eq_emod_of_nonneg b5]
 generalize m8:bo v (v.length - 1) 0=v1 at*
 generalize o2:bo v (v.length - 2) 0=v2 at*
 generalize p8:bo U (j+v.length) 0=u0 at*
 generalize j6:bo U (j+(v.length - 1)) 0=u1 at*
 generalize k0:bo U (j+(v.length - 2)) 0=u2 at*
 have p0:=Int.mul_ediv_add_emod (u0*4294967296+u1) v1
 have p6:=Int.emod_nonneg (u0*4294967296+u1) (show v1≠0 by omega)
 have i7:=Int.emod_lt_of_pos (u0*4294967296+u1) (show 0<v1 by omega)
 have h5:0<=(u0*4294967296+u1) / v1:=Int.ediv_nonneg b5 (by omega)
 generalize p5:(u0*4294967296+u1) / v1=g0 at*
 generalize o9:(u0*4294967296+u1) % v1=r0 at*
 have o6:g0<=4294967297:=by
  by_cases h:g0<=4294967297
  ·exact h
  ·exfalso
   have:=Int.mul_le_mul_of_nonneg_left (show(4294967298:Int)<=g0 by omega) (show 0<=v1 by omega)
   omega
 have g8:g0*v1+r0=u1+4294967296*u0:=by grind
 have o7:=aDl hP b7 b6 c9 d7 b8.1 f7.2 h5 g8 i7
 have o3:iR .u64 g0:=u64_in h5 (by omega)
 repeat refine And.intro (by omega) ?_
 clear t1 t2 t3 m1 m2 m3 m4 m5 m6 l4 b5 p5 o9 p0 p6 i7 h5 o6 g8 o7 o3 m8 o2 j6 k0 hx
 rintro⟨g,r⟩ ⟨⟨g5,p2⟩,⟨m9,i8⟩,e0,d8⟩
 simp only at g5 p2 m9 i8 e0 d8 ⊢
 have a2:0<g+1:=by omega
 have e1:(r+v1) % 18446744073709551616=r+v1:=by omega
 have e2:r*4294967296 % 18446744073709551616=r*4294967296:=by omega
 have p3:0<=g*v2:=Int.mul_nonneg g5 b8.1
 have p1:g*v2<=4294967297*4294967295:=Int.mul_le_mul (by omega) (by omega) b8.1 (by omega)
 have e3:g*v2 % 18446744073709551616=g*v2:=by omega
 have h3:=ao7 m9 i8 f7.1 f7.2
 have c6:g*v1+r=u1+4294967296*u0:=e0
 have g9:4294967296<=r+v1->g<=4294967296:=fun h=>by
  grind
 have j9:(4294967296<=g\/r*4294967296+u2<g*v2)->(bC (prt U j (v.length+1))<g*bC v/\(g - 1) % 18446744073709551616=g - 1/\0<=g - 1/\(g - 1)*v1+(r+v1)=u1+4294967296*u0):=fun h=>by
  have h1:=aDk hP b7 b6 c9 d7 o1 p4 g5 c6 h
  have h2:g≠0:=by
   grind
  grind
 simp only[e1,e2,e3,h3]
 have d9:(4294967296<=g\/r*4294967296+u2<g*v2)->4294967296<=r+v1->∃gg,gg=(g - 1) % 18446744073709551616/\(0<=gg/\gg<4294967296)/\bC (prt U j (v.length+1))<(gg+1)*bC v/\gg*bC v<bC (prt U j (v.length+1))+bC v:=fun h hb=>by
  obtain⟨k1,k2,k3,k4⟩:=j9 h
  have k5:=g9 hb
  rw[k2]
  refine⟨_,rfl,by omega,by simp_all,avy hP b7 b6 c9 a6 g7 i3 b8.1 k3 (by omega) k4 ?_⟩
  grind
 have g1:(4294967296<=g\/r*4294967296+u2<g*v2)->¬4294967296<=r+v1->(0<=(g - 1) % 18446744073709551616/\(g - 1) % 18446744073709551616<=4294967297)/\(g - 1) % 18446744073709551616*v1+(r+v1)=u1+4294967296*u0/\bC (prt U j (v.length+1))<((g - 1) % 18446744073709551616+1)*bC v/\((g - 1) % 18446744073709551616).toNat<g.toNat:=fun h hb=>by
  grind
 have f9:¬4294967296<=g->¬r*4294967296+u2<g*v2->∃gg,gg=g/\(0<=gg/\gg<4294967296)/\bC (prt U j (v.length+1))<(gg+1)*bC v/\gg*bC v<bC (prt U j (v.length+1))+bC v:=fun h h2=>
  ⟨_,rfl,by omega,d8,avy hP b7 b6 c9 a6 g7 i3 b8.1 g5 (by omega) c6 (by omega)⟩
 clear c6 a2 e1 e2 e3 p3 p1 h3 b7 b6 c9 a6 g7 d7 g9 j9 o8
 refine⟨fun hB=>?_,fun hB=>?_⟩
 ·refine⟨by omega,by omega,by omega,by omega,?_⟩
  refine⟨fun hb=>?_,fun hb=>?_⟩
  ·obtain⟨gg,a7,f0,Z,f3⟩:=d9 (.inl hB) hb
   rw[<-a7]
   clear hB hb
   clear a7 d9 g1 f9 d8 e0
   refine⟨?_,?_⟩
   ·simp_all[bC]
   clear f0 Z f3
   rintro⟨i,H,c,b,R⟩ ⟨⟨i0,i1⟩,⟨J,V⟩,⟨Z,f3⟩,⟨c0,c1⟩,⟨b0,b1⟩,⟨hR,T⟩,ho,he⟩
   simp only at i0 i1 J V Z f3 c0 c1 b0 b1 hR T ho he ⊢
   refine⟨fun c3=>?_,fun d4=>?_⟩
   ·have x:=ri hv i.toNat
    have y:=ri hR (j+i.toNat)
    have j4:0<=H*bo v i.toNat 0:=Int.mul_nonneg J x.1
    have m7:H*bo v i.toNat 0<=4294967295*4294967295:=Int.mul_le_mul (by omega) (by omega) x.1 (by omega)
    have q1:bo v i.toNat 0 % 18446744073709551616=bo v i.toNat 0:=by omega
    have q2:bo R (j+i.toNat) 0 % 18446744073709551616=bo R (j+i.toNat) 0:=by omega
    have q3:(H*bo v i.toNat 0 % 18446744073709551616+c) % 18446744073709551616=H*bo v i.toNat 0+c:=by omega
    have N:(i+1).toNat=i.toNat+1:=by omega
    rw[q1,q2,q3,apj (by omega) (by omega),N]
    generalize hq:((bo R (j+i.toNat) 0 - (H*bo v i.toNat 0+c) % 4294967296) % 18446744073709551616 - b) % 18446744073709551616=q
    obtain⟨k1,k2,k3,k4,k5⟩:=apk (d:=q % 4294967296) (e:=q / 9223372036854775808) hR T hv J V c0 c1 b0 b1 (show j+i.toNat<U.length by omega) ho he (by omega) (by omega)
    repeat' refine And.intro ?_ ?_
    all_goals omega
   ·have hi:i.toNat=v.length:=by omega
    rw[hi,List.take_length] at he;rw[hi] at ho
    have A:=ho (j+v.length) (.inr (Nat.le_refl _))
    have du:=ri hU (j+v.length)
    have q2:bo R (j+v.length) 0 % 18446744073709551616=bo R (j+v.length) 0:=by rw[A];omega
    have S:=@YQ U j v.length
    rw[q2]
    generalize hq:((bo R (j+v.length) 0 - c) % 18446744073709551616 - b) % 18446744073709551616=q
    have a:df (R.set (j+v.length) (q % 4294967296)):=aaS hR (by omega) (by omega)
    have t:(R.set (j+v.length) (q % 4294967296)).length=U.length:=by simp[T]
    have G:∀m,(m<j\/j+(v.length+1)<=m)->bo (R.set (j+v.length) (q % 4294967296)) m 0=bo U m 0:=fun m hm=>by grind[ach]
    have l:bC (prt (R.set (j+v.length) (q % 4294967296)) j (v.length+1))=bC (prt U j (v.length+1)) - H*bC v+4294967296^(v.length+1)*(q / 9223372036854775808):=by
     rw[YQ,ae0 (Nat.le_refl _),aef (by omega),he,S,Int.pow_succ]
     have hd:q % 4294967296 - 4294967296*(q / 9223372036854775808)=bo U (j+v.length) 0 - c - b:=by rw[A] at hq;omega
     grind
    generalize hW:R.set (j+v.length) (q % 4294967296)=W at*
    have a5:=afX a (j:=j) (k:=v.length+1)
    have d2:=uD (ae1 a (j:=j) (k:=v.length+1))
    have q3:0<=q/\q<18446744073709551616:=by omega
    clear hq A du q2 he ho hR
    repeat refine And.intro (by omega) ?_
    refine⟨fun hz=>?_,fun hz=>?_⟩
    ·rw[hz,Int.mul_zero,Int.add_zero] at l
     obtain⟨w1,w2⟩:=afY (q:=H) (show H*bC v<=bC (prt U j (v.length+1)) by omega) Z
     refine⟨by rw[w1];omega,?_⟩
     have w:W=Ko U j (ET (v.length+1) (bC (prt U j (v.length+1)) % bC v)):=aht a t (by omega) G (by rw[l,w2])
     rw[w];rfl
    ·have a9:q / 9223372036854775808=1:=by omega
     rw[a9,Int.mul_one] at l
     have f4:bC (prt U j (v.length+1))<H*bC v:=by omega
     refine⟨?_,?_⟩
     ·grind[bC]
     clear a t G l hW a5 d2 q3 hz a9 f4 Z f3 c0 c1 b0 b1 i0 i1 J V
     rintro⟨E,F,f,O⟩ ⟨⟨i0,i1⟩,⟨d0,d5⟩,⟨f5,f6⟩,⟨c0,c1⟩,⟨I,C⟩,p,⟨a1,Q⟩,b9,b4,D,X⟩
     simp only at i0 i1 d0 d5 f5 f6 c0 c1 I C D X ⊢
     refine⟨fun c3=>?_,fun d4=>?_⟩
     ·have x:=ri hv E.toNat
      have y:=ri I (j+E.toNat)
      have N:(E+1).toNat=E.toNat+1:=by omega
      rw[N]
      have hs:((bo O (j+E.toNat) 0 % 18446744073709551616+bo v E.toNat 0 % 18446744073709551616) % 18446744073709551616+f) % 18446744073709551616=bo O (j+E.toNat) 0+bo v E.toNat 0+f:=by omega
      rw[hs]
      obtain⟨k1,k2,k3,k4,k5⟩:=apl I (C.trans Q.symm) hv c0 c1 (show j+E.toNat<p.length by omega) a1 D X rfl
      repeat' refine And.intro ?_ ?_
      all_goals first|omega|exact k1|exact f5|exact f6|grind
     ·have b3:E.toNat=v.length:=by omega
      rw[b3,List.take_length] at X;rw[b3] at D
      have A:=D (j+v.length) (.inr (Nat.le_refl _))
      have du:=ri a1 (j+v.length)
      have S:=@YQ p j v.length
      have d1:f % 4294967296=f:=by omega
      rw[d1,A]
      have hF:df (O.set (j+v.length) ((bo p (j+v.length) 0+f) % 4294967296)):=aaS I (by omega) (by omega)
      have d6:(O.set (j+v.length) ((bo p (j+v.length) 0+f) % 4294967296)).length=U.length:=by simp[C]
      have d3:∀m,(m<j\/j+(v.length+1)<=m)->bo (O.set (j+v.length) ((bo p (j+v.length) 0+f) % 4294967296)) m 0=bo U m 0:=fun m hm=>by grind[ach]
      have P:bC (prt (O.set (j+v.length) ((bo p (j+v.length) 0+f) % 4294967296)) j (v.length+1))=bC (prt U j (v.length+1)) - F*bC v+4294967296^(v.length+1)+bC v - 4294967296^(v.length+1)*((bo p (j+v.length) 0+f) / 4294967296):=by
       rw[YQ,ae0 (Nat.le_refl _),aef (by omega),<-b4,S,Int.pow_succ]
       generalize (4294967296:Int)^v.length=B at*
       have e:B*4294967296*((bo p (j+v.length) 0+f) / 4294967296)=B*(bo p (j+v.length) 0+f - (bo p (j+v.length) 0+f) % 4294967296):=by rw[Int.mul_assoc];congr 1;omega
       rw[e]
       grind
      have a5:=afX hF (j:=j) (k:=v.length+1)
      have hk:(bo p (j+v.length) 0+f) / 4294967296=1:=by
       by_cases h:(bo p (j+v.length) 0+f) / 4294967296=1
       ·exact h
       ·have h0:(bo p (j+v.length) 0+f) / 4294967296=0:=by omega
        rw[h0,Int.mul_zero] at P;omega
      rw[hk,Int.mul_one] at P
      have e1:(F - 1)*bC v=F*bC v - bC v:=by rw[Int.sub_mul,Int.one_mul]
      obtain⟨w1,w2⟩:=afY (q:=F - 1) (show(F - 1)*bC v<=bC (prt U j (v.length+1)) by omega) (by rw[show F - 1+1=F by omega];exact f5)
      have a2:0<F:=by
       by_cases h:0<F
       ·exact h
       ·have:F=0:=by omega
        subst this;omega
      have w:O.set (j+v.length) ((bo p (j+v.length) 0+f) % 4294967296)=Ko U j (ET (v.length+1) (bC (prt U j (v.length+1)) % bC v)):=aht hF d6 (by omega) d3 (by rw[P,w2,e1];omega)
      repeat refine And.intro (by omega) ?_
      rw[w];rfl
  grind
 ·repeat refine And.intro (by omega) ?_
  refine⟨fun hc=>?_,fun hc=>?_⟩
  ·repeat refine And.intro (by omega) ?_
   refine⟨fun hb=>?_,fun hb=>?_⟩
   ·obtain⟨gg,a7,f0,Z,f3⟩:=d9 (.inr hc) hb
    rw[<-a7]
    clear hB hb hc
    clear a7 d9 g1 f9 d8 e0
    refine⟨?_,?_⟩
    ·repeat' refine And.intro ?_ ?_
     all_goals first|omega|exact hU|exact Z|exact f3|exact fun _ _=>trivial|(simp only[bC];omega)
    clear f0 Z f3
    rintro⟨i,H,c,b,R⟩ ⟨⟨i0,i1⟩,⟨J,V⟩,⟨Z,f3⟩,⟨c0,c1⟩,⟨b0,b1⟩,⟨hR,T⟩,ho,he⟩
    simp only at i0 i1 J V Z f3 c0 c1 b0 b1 hR T ho he ⊢
    refine⟨fun c3=>?_,fun d4=>?_⟩
    ·have x:=ri hv i.toNat
     have y:=ri hR (j+i.toNat)
     have j4:0<=H*bo v i.toNat 0:=Int.mul_nonneg J x.1
     have m7:H*bo v i.toNat 0<=4294967295*4294967295:=Int.mul_le_mul (by omega) (by omega) x.1 (by omega)
     have q1:bo v i.toNat 0 % 18446744073709551616=bo v i.toNat 0:=by omega
     have q2:bo R (j+i.toNat) 0 % 18446744073709551616=bo R (j+i.toNat) 0:=by omega
     have q3:(H*bo v i.toNat 0 % 18446744073709551616+c) % 18446744073709551616=H*bo v i.toNat 0+c:=by omega
     have N:(i+1).toNat=i.toNat+1:=by omega
     rw[q1,q2,q3,apj (by omega) (by omega),N]
     generalize hq:((bo R (j+i.toNat) 0 - (H*bo v i.toNat 0+c) % 4294967296) % 18446744073709551616 - b) % 18446744073709551616=q
     obtain⟨k1,k2,k3,k4,k5⟩:=apk (d:=q % 4294967296) (e:=q / 9223372036854775808) hR T hv J V c0 c1 b0 b1 (show j+i.toNat<U.length by omega) ho he (by omega) (by omega)
     repeat' refine And.intro ?_ ?_
     all_goals first|omega|exact k1|exact k2|exact k3|exact k4|exact k5|exact Z|exact f3
    ·have hi:i.toNat=v.length:=by omega
     rw[hi,List.take_length] at he;rw[hi] at ho
     have A:=ho (j+v.length) (.inr (Nat.le_refl _))
     have du:=ri hU (j+v.length)
     have q2:bo R (j+v.length) 0 % 18446744073709551616=bo R (j+v.length) 0:=by rw[A];omega
     have S:=@YQ U j v.length
     rw[q2]
     generalize hq:((bo R (j+v.length) 0 - c) % 18446744073709551616 - b) % 18446744073709551616=q
     have a:df (R.set (j+v.length) (q % 4294967296)):=aaS hR (by omega) (by omega)
     have t:(R.set (j+v.length) (q % 4294967296)).length=U.length:=by simp[T]
     have G:∀m,(m<j\/j+(v.length+1)<=m)->bo (R.set (j+v.length) (q % 4294967296)) m 0=bo U m 0:=fun m hm=>by rw[ach (by omega)];exact ho m (by omega)
     have l:bC (prt (R.set (j+v.length) (q % 4294967296)) j (v.length+1))=bC (prt U j (v.length+1)) - H*bC v+4294967296^(v.length+1)*(q / 9223372036854775808):=by
      rw[YQ,ae0 (Nat.le_refl _),aef (by omega),he,S,Int.pow_succ]
      have hd:q % 4294967296 - 4294967296*(q / 9223372036854775808)=bo U (j+v.length) 0 - c - b:=by rw[A] at hq;omega
      generalize (4294967296:Int)^v.length=B
      have e:B*4294967296*(q / 9223372036854775808)=B*(q % 4294967296+c+b - bo U (j+v.length) 0):=by rw[Int.mul_assoc];congr 1;omega
      rw[e];simp only[Int.mul_add,Int.mul_sub];omega
     generalize hW:R.set (j+v.length) (q % 4294967296)=W at*
     have a5:=afX a (j:=j) (k:=v.length+1)
     have d2:=uD (ae1 a (j:=j) (k:=v.length+1))
     have q3:0<=q/\q<18446744073709551616:=by omega
     clear hq A du q2 he ho hR
     repeat refine And.intro (by omega) ?_
     refine⟨fun hz=>?_,fun hz=>?_⟩
     ·rw[hz,Int.mul_zero,Int.add_zero] at l
      obtain⟨w1,w2⟩:=afY (q:=H) (show H*bC v<=bC (prt U j (v.length+1)) by omega) Z
      refine⟨by rw[w1];omega,?_⟩
      have w:W=Ko U j (ET (v.length+1) (bC (prt U j (v.length+1)) % bC v)):=aht a t (by omega) G (by rw[l,w2])
      rw[w];rfl
     ·have a9:q / 9223372036854775808=1:=by omega
      rw[a9,Int.mul_one] at l
      have f4:bC (prt U j (v.length+1))<H*bC v:=by omega
      refine⟨?_,?_⟩
      ·repeat' refine And.intro ?_ ?_
       all_goals first|omega|exact a|exact t|exact⟨W,⟨a,t⟩,G,l,fun _ _=>rfl,by simp only[bC]⟩
      clear a t G l hW a5 d2 q3 hz a9 f4 Z f3 c0 c1 b0 b1 i0 i1 J V
      rintro⟨E,F,f,O⟩ ⟨⟨i0,i1⟩,⟨d0,d5⟩,⟨f5,f6⟩,⟨c0,c1⟩,⟨I,C⟩,p,⟨a1,Q⟩,b9,b4,D,X⟩
      simp only at i0 i1 d0 d5 f5 f6 c0 c1 I C D X ⊢
      refine⟨fun c3=>?_,fun d4=>?_⟩
      ·have x:=ri hv E.toNat
       have y:=ri I (j+E.toNat)
       have N:(E+1).toNat=E.toNat+1:=by omega
       rw[N]
       have hs:((bo O (j+E.toNat) 0 % 18446744073709551616+bo v E.toNat 0 % 18446744073709551616) % 18446744073709551616+f) % 18446744073709551616=bo O (j+E.toNat) 0+bo v E.toNat 0+f:=by omega
       rw[hs]
       obtain⟨k1,k2,k3,k4,k5⟩:=apl I (C.trans Q.symm) hv c0 c1 (show j+E.toNat<p.length by omega) a1 D X rfl
       repeat' refine And.intro ?_ ?_
       all_goals first|omega|exact k1|exact f5|exact f6|exact⟨p,⟨a1,Q⟩,b9,b4,k4,k5⟩
      ·have b3:E.toNat=v.length:=by omega
       rw[b3,List.take_length] at X;rw[b3] at D
       have A:=D (j+v.length) (.inr (Nat.le_refl _))
       have du:=ri a1 (j+v.length)
       have S:=@YQ p j v.length
       have d1:f % 4294967296=f:=by omega
       rw[d1,A]
       have hF:df (O.set (j+v.length) ((bo p (j+v.length) 0+f) % 4294967296)):=aaS I (by omega) (by omega)
       have d6:(O.set (j+v.length) ((bo p (j+v.length) 0+f) % 4294967296)).length=U.length:=by simp[C]
       have d3:∀m,(m<j\/j+(v.length+1)<=m)->bo (O.set (j+v.length) ((bo p (j+v.length) 0+f) % 4294967296)) m 0=bo U m 0:=fun m hm=>by rw[ach (by omega),D m (by omega)];exact b9 m hm
       have P:bC (prt (O.set (j+v.length) ((bo p (j+v.length) 0+f) % 4294967296)) j (v.length+1))=bC (prt U j (v.length+1)) - F*bC v+4294967296^(v.length+1)+bC v - 4294967296^(v.length+1)*((bo p (j+v.length) 0+f) / 4294967296):=by
        rw[YQ,ae0 (Nat.le_refl _),aef (by omega),<-b4,S,Int.pow_succ]
        generalize (4294967296:Int)^v.length=B at*
        have e:B*4294967296*((bo p (j+v.length) 0+f) / 4294967296)=B*(bo p (j+v.length) 0+f - (bo p (j+v.length) 0+f) % 4294967296):=by rw[Int.mul_assoc];congr 1;omega
        rw[e];simp only[Int.mul_add,Int.mul_sub];omega
       have a5:=afX hF (j:=j) (k:=v.length+1)
       have hk:(bo p (j+v.length) 0+f) / 4294967296=1:=by
        by_cases h:(bo p (j+v.length) 0+f) / 4294967296=1
        ·exact h
        ·have h0:(bo p (j+v.length) 0+f) / 4294967296=0:=by omega
         rw[h0,Int.mul_zero] at P;omega
       rw[hk,Int.mul_one] at P
       have e1:(F - 1)*bC v=F*bC v - bC v:=by rw[Int.sub_mul,Int.one_mul]
       obtain⟨w1,w2⟩:=afY (q:=F - 1) (show(F - 1)*bC v<=bC (prt U j (v.length+1)) by omega) (by rw[show F - 1+1=F by omega];exact f5)
       have a2:0<F:=by
        by_cases h:0<F
        ·exact h
        ·have:F=0:=by omega
         subst this;omega
       have w:O.set (j+v.length) ((bo p (j+v.length) 0+f) % 4294967296)=Ko U j (ET (v.length+1) (bC (prt U j (v.length+1)) % bC v)):=aht hF d6 (by omega) d3 (by rw[P,w2,e1];omega)
       repeat refine And.intro (by omega) ?_
       rw[w];rfl
   ·obtain⟨k1,k2,k3,k4⟩:=g1 (.inr hc) hb
    repeat' refine And.intro ?_ ?_
    all_goals first|omega|exact k2|exact k3
  ·obtain⟨gg,a7,f0,Z,f3⟩:=f9 hB hc
   rw[<-a7]
   clear hB hc
   clear a7 d9 g1 f9 d8 e0
   refine⟨?_,?_⟩
   ·repeat' refine And.intro ?_ ?_
    all_goals first|omega|exact hU|exact Z|exact f3|exact fun _ _=>trivial|(simp only[bC];omega)
   clear f0 Z f3
   rintro⟨i,H,c,b,R⟩ ⟨⟨i0,i1⟩,⟨J,V⟩,⟨Z,f3⟩,⟨c0,c1⟩,⟨b0,b1⟩,⟨hR,T⟩,ho,he⟩
   simp only at i0 i1 J V Z f3 c0 c1 b0 b1 hR T ho he ⊢
   refine⟨fun c3=>?_,fun d4=>?_⟩
   ·have x:=ri hv i.toNat
    have y:=ri hR (j+i.toNat)
    have j4:0<=H*bo v i.toNat 0:=Int.mul_nonneg J x.1
    have m7:H*bo v i.toNat 0<=4294967295*4294967295:=Int.mul_le_mul (by omega) (by omega) x.1 (by omega)
    have q1:bo v i.toNat 0 % 18446744073709551616=bo v i.toNat 0:=by omega
    have q2:bo R (j+i.toNat) 0 % 18446744073709551616=bo R (j+i.toNat) 0:=by omega
    have q3:(H*bo v i.toNat 0 % 18446744073709551616+c) % 18446744073709551616=H*bo v i.toNat 0+c:=by omega
    have N:(i+1).toNat=i.toNat+1:=by omega
    rw[q1,q2,q3,apj (by omega) (by omega),N]
    generalize hq:((bo R (j+i.toNat) 0 - (H*bo v i.toNat 0+c) % 4294967296) % 18446744073709551616 - b) % 18446744073709551616=q
    obtain⟨k1,k2,k3,k4,k5⟩:=apk (d:=q % 4294967296) (e:=q / 9223372036854775808) hR T hv J V c0 c1 b0 b1 (show j+i.toNat<U.length by omega) ho he (by omega) (by omega)
    repeat' refine And.intro ?_ ?_
    all_goals first|omega|exact k1|exact k2|exact k3|exact k4|exact k5|exact Z|exact f3
   ·have hi:i.toNat=v.length:=by omega
    rw[hi,List.take_length] at he;rw[hi] at ho
    have A:=ho (j+v.length) (.inr (Nat.le_refl _))
    have du:=ri hU (j+v.length)
    have q2:bo R (j+v.length) 0 % 18446744073709551616=bo R (j+v.length) 0:=by rw[A];omega
    have S:=@YQ U j v.length
    rw[q2]
    generalize hq:((bo R (j+v.length) 0 - c) % 18446744073709551616 - b) % 18446744073709551616=q
    have a:df (R.set (j+v.length) (q % 4294967296)):=aaS hR (by omega) (by omega)
    have t:(R.set (j+v.length) (q % 4294967296)).length=U.length:=by simp[T]
    have G:∀m,(m<j\/j+(v.length+1)<=m)->bo (R.set (j+v.length) (q % 4294967296)) m 0=bo U m 0:=fun m hm=>by rw[ach (by omega)];exact ho m (by omega)
    have l:bC (prt (R.set (j+v.length) (q % 4294967296)) j (v.length+1))=bC (prt U j (v.length+1)) - H*bC v+4294967296^(v.length+1)*(q / 9223372036854775808):=by
     rw[YQ,ae0 (Nat.le_refl _),aef (by omega),he,S,Int.pow_succ]
     have hd:q % 4294967296 - 4294967296*(q / 9223372036854775808)=bo U (j+v.length) 0 - c - b:=by rw[A] at hq;omega
     generalize (4294967296:Int)^v.length=B
     have e:B*4294967296*(q / 9223372036854775808)=B*(q % 4294967296+c+b - bo U (j+v.length) 0):=by rw[Int.mul_assoc];congr 1;omega
     rw[e];simp only[Int.mul_add,Int.mul_sub];omega
    generalize hW:R.set (j+v.length) (q % 4294967296)=W at*
    have a5:=afX a (j:=j) (k:=v.length+1)
    have d2:=uD (ae1 a (j:=j) (k:=v.length+1))
    have q3:0<=q/\q<18446744073709551616:=by omega
    clear hq A du q2 he ho hR
    repeat refine And.intro (by omega) ?_
    refine⟨fun hz=>?_,fun hz=>?_⟩
    ·rw[hz,Int.mul_zero,Int.add_zero] at l
     obtain⟨w1,w2⟩:=afY (q:=H) (show H*bC v<=bC (prt U j (v.length+1)) by omega) Z
     refine⟨by rw[w1];omega,?_⟩
     have w:W=Ko U j (ET (v.length+1) (bC (prt U j (v.length+1)) % bC v)):=aht a t (by omega) G (by rw[l,w2])
     rw[w];rfl
    ·have a9:q / 9223372036854775808=1:=by omega
     rw[a9,Int.mul_one] at l
     have f4:bC (prt U j (v.length+1))<H*bC v:=by omega
     refine⟨?_,?_⟩
     ·repeat' refine And.intro ?_ ?_
      all_goals first|omega|exact a|exact t|exact⟨W,⟨a,t⟩,G,l,fun _ _=>rfl,by simp only[bC]⟩
     clear a t G l hW a5 d2 q3 hz a9 f4 Z f3 c0 c1 b0 b1 i0 i1 J V
     rintro⟨E,F,f,O⟩ ⟨⟨i0,i1⟩,⟨d0,d5⟩,⟨f5,f6⟩,⟨c0,c1⟩,⟨I,C⟩,p,⟨a1,Q⟩,b9,b4,D,X⟩
     simp only at i0 i1 d0 d5 f5 f6 c0 c1 I C D X ⊢
     refine⟨fun c3=>?_,fun d4=>?_⟩
     ·have x:=ri hv E.toNat
      have y:=ri I (j+E.toNat)
      have N:(E+1).toNat=E.toNat+1:=by omega
      rw[N]
      have hs:((bo O (j+E.toNat) 0 % 18446744073709551616+bo v E.toNat 0 % 18446744073709551616) % 18446744073709551616+f) % 18446744073709551616=bo O (j+E.toNat) 0+bo v E.toNat 0+f:=by omega
      rw[hs]
      obtain⟨k1,k2,k3,k4,k5⟩:=apl I (C.trans Q.symm) hv c0 c1 (show j+E.toNat<p.length by omega) a1 D X rfl
      repeat' refine And.intro ?_ ?_
      all_goals first|omega|exact k1|exact f5|exact f6|exact⟨p,⟨a1,Q⟩,b9,b4,k4,k5⟩
     ·have b3:E.toNat=v.length:=by omega
      rw[b3,List.take_length] at X;rw[b3] at D
      have A:=D (j+v.length) (.inr (Nat.le_refl _))
      have du:=ri a1 (j+v.length)
      have S:=@YQ p j v.length
      have d1:f % 4294967296=f:=by omega
      rw[d1,A]
      have hF:df (O.set (j+v.length) ((bo p (j+v.length) 0+f) % 4294967296)):=aaS I (by omega) (by omega)
      have d6:(O.set (j+v.length) ((bo p (j+v.length) 0+f) % 4294967296)).length=U.length:=by simp[C]
      have d3:∀m,(m<j\/j+(v.length+1)<=m)->bo (O.set (j+v.length) ((bo p (j+v.length) 0+f) % 4294967296)) m 0=bo U m 0:=fun m hm=>by rw[ach (by omega),D m (by omega)];exact b9 m hm
      have P:bC (prt (O.set (j+v.length) ((bo p (j+v.length) 0+f) % 4294967296)) j (v.length+1))=bC (prt U j (v.length+1)) - F*bC v+4294967296^(v.length+1)+bC v - 4294967296^(v.length+1)*((bo p (j+v.length) 0+f) / 4294967296):=by
       rw[YQ,ae0 (Nat.le_refl _),aef (by omega),<-b4,S,Int.pow_succ]
       generalize (4294967296:Int)^v.length=B at*
       have e:B*4294967296*((bo p (j+v.length) 0+f) / 4294967296)=B*(bo p (j+v.length) 0+f - (bo p (j+v.length) 0+f) % 4294967296):=by rw[Int.mul_assoc];congr 1;omega
       rw[e];simp only[Int.mul_add,Int.mul_sub];omega
      have a5:=afX hF (j:=j) (k:=v.length+1)
      have hk:(bo p (j+v.length) 0+f) / 4294967296=1:=by
       by_cases h:(bo p (j+v.length) 0+f) / 4294967296=1
       ·exact h
       ·have h0:(bo p (j+v.length) 0+f) / 4294967296=0:=by omega
        rw[h0,Int.mul_zero] at P;omega
      rw[hk,Int.mul_one] at P
      have e1:(F - 1)*bC v=F*bC v - bC v:=by rw[Int.sub_mul,Int.one_mul]
      obtain⟨w1,w2⟩:=afY (q:=F - 1) (show(F - 1)*bC v<=bC (prt U j (v.length+1)) by omega) (by rw[show F - 1+1=F by omega];exact f5)
      have a2:0<F:=by
       by_cases h:0<F
       ·exact h
       ·have:F=0:=by omega
        subst this;omega
      have w:O.set (j+v.length) ((bo p (j+v.length) 0+f) % 4294967296)=Ko U j (ET (v.length+1) (bC (prt U j (v.length+1)) % bC v)):=aht hF d6 (by omega) d3 (by rw[P,w2,e1];omega)
      repeat refine And.intro (by omega) ?_
      rw[w];rfl
theorem afZ {U:List Int} {j:Nat} (h:j<=U.length):bC U=bC (U.take j)+4294967296^j*bC (U.drop j):=by
 conv=>lhs;rw[<-List.take_append_drop j U]
 grind[apc]
theorem aDq {U l:List Int} {j:Nat} (h:j<=U.length):(Ko U j l).take j=U.take j:=by
 grind[Ko]
theorem aDr {U l:List Int} {j:Nat} (h:j<=U.length):(Ko U j l).drop j=l++U.drop (j+l.length):=by
 grind[Ko]
theorem aDs {U l:List Int} {j:Nat} (a:df U) (b:df l):df (Ko U j l):=avl (aaR a _) (avl b (ai4 a _))
theorem aDt {U q v:List Int} {j m:Nat} {A:Int} (d:df U) (w:df v) (G:df q) (H:2<=v.length) (u:U.length=m+1+v.length) (x:q.length=m+1) (J:j<=m) (p:0<bC v)
  (s:bo q j 0=0) (B:bC U+bC v*bC q=A) (D:bC (U.drop (j+1))<bC v):
  bC (prt U j (v.length+1))<4294967296*bC v/\
  (df (Ko U j (ET (v.length+1) (bC (prt U j (v.length+1)) % bC v)))/\(Ko U j (ET (v.length+1) (bC (prt U j (v.length+1)) % bC v))).length=U.length)/\
  (0<=bC (prt U j (v.length+1)) / bC v/\bC (prt U j (v.length+1)) / bC v<4294967296)/\
  bC (Ko U j (ET (v.length+1) (bC (prt U j (v.length+1)) % bC v)))+bC v*bC (q.set j (bC (prt U j (v.length+1)) / bC v))=A/\
  bC ((Ko U j (ET (v.length+1) (bC (prt U j (v.length+1)) % bC v))).drop j)<bC v:=by
 have y:=abo w
 have f:=ai4 d (j+1)
 have l:=uD (ae1 d (j:=j) (k:=v.length+1))
 have b:bC (U.drop (j+(v.length+1)))=0:=by
  have e:bC (U.drop (j+1))=bC ((U.drop (j+1)).take v.length)+4294967296^v.length*bC ((U.drop (j+1)).drop v.length):=afZ (by simp;omega)
  rw[List.drop_drop,show j+1+v.length=j+(v.length+1) by omega] at e
  have I:=uD (aaR f v.length)
  have F:=uD (ai4 d (j+(v.length+1)))
  by_cases h:bC (U.drop (j+(v.length+1)))=0
  ·exact h
  ·have:=Int.mul_le_mul_of_nonneg_left (show(1:Int)<=bC (U.drop (j+(v.length+1))) by omega) (Int.le_of_lt (pow_pos v.length))
   omega
 have a:bC (U.drop j)=bC (prt U j (v.length+1)):=by
  have e:bC (U.drop j)=bC ((U.drop j).take (v.length+1))+4294967296^(v.length+1)*bC ((U.drop j).drop (v.length+1)):=afZ (by simp;omega)
  rw[List.drop_drop,b,Int.mul_zero,Int.add_zero] at e;exact e
 have g:bC (U.drop j)=bo U j 0+4294967296*bC (U.drop (j+1)):=by
  rw[alD (show j<U.length by omega)]
  rfl
 have K:=ri d j
 have r:bC (prt U j (v.length+1))<4294967296*bC v:=by omega
 have i:=@ai3 (v.length+1) (bC (prt U j (v.length+1)) % bC v)
 have C:=Int.emod_nonneg (bC (prt U j (v.length+1))) (show bC v≠0 by omega)
 have E:=Int.emod_lt_of_pos (bC (prt U j (v.length+1))) p
 have t:bC (ET (v.length+1) (bC (prt U j (v.length+1)) % bC v))=bC (prt U j (v.length+1)) % bC v:=by
  grind[apb]
 have o:bC ((Ko U j (ET (v.length+1) (bC (prt U j (v.length+1)) % bC v))).drop j)=bC (prt U j (v.length+1)) % bC v:=by
  grind[aDr,apc]
 have c:(Ko U j (ET (v.length+1) (bC (prt U j (v.length+1)) % bC v))).length=U.length:=avx (by rw[i];omega)
 have n:0<=bC (prt U j (v.length+1)) / bC v:=Int.ediv_nonneg l (by omega)
 refine⟨r,⟨aDs d ao9,c⟩,⟨n,Int.ediv_lt_of_lt_mul p r⟩,?_,by omega⟩
 rw[afZ (U:=Ko U j _) (j:=j) (by rw[c];omega),aDq (by omega),o,aeZ (by omega),s,Int.sub_zero]
 rw[afZ (U:=U) (j:=j) (by omega),a] at B
 have z:=Int.mul_ediv_add_emod (bC (prt U j (v.length+1))) (bC v)
 grind
theorem avz {a b:List Int} {s:Nat} (k:df a) (w:df b) (u:s<=31) (l:b.length<=a.length) (q:1<=b.length) (d:1<=bo b (b.length - 1) 0):
  df (shl a s)/\(shl a s).length=a.length+1/\bC (shl a s)=bC a*2^s/\bC ((shl a s).drop (a.length - b.length+1))<bC b*2^s:=by
 have e:(0:Int)<2^s:=Int.pow_pos (by decide)
 have v:(2:Int)^s<=2147483648:=by
  have h:(2:Nat)^s<=2^31:=Nat.pow_le_pow_right (by decide) u
  grind
 have f:=uD k
 have g:=abo k
 have n:bC a*2^s<4294967296^a.length*2^s:=Int.mul_lt_mul_of_pos_right g e
 have c:bC (shl a s)=bC a*2^s:=by
  unfold shl
  refine apb (Int.mul_nonneg f (Int.le_of_lt e)) (Int.lt_of_lt_of_le n ?_)
  rw[Int.pow_succ]
  exact Int.mul_le_mul_of_nonneg_left (by omega) (Int.le_of_lt (pow_pos _))
 have i:df (shl a s):=ao9
 have t:(shl a s).length=a.length+1:=ai3
 refine⟨i,t,c,?_⟩
 have h:=afZ (U:=shl a s) (j:=a.length - b.length+1) (by omega)
 have y:=uD (aaR i (a.length - b.length+1))
 have x:4294967296^(b.length - 1)*bo b (b.length - 1) 0<=bC b:=apf w
 have o:(4294967296:Int)^(b.length - 1)<=bC b:=by
  have:=Int.mul_le_mul_of_nonneg_left d (Int.le_of_lt (pow_pos (b.length - 1)))
  omega
 have m:(4294967296:Int)^a.length=4294967296^(a.length - b.length+1)*4294967296^(b.length - 1):=by
  rw[<-Int.pow_add]
  congr 1
  omega
 rw[c] at h
 have p:(4294967296:Int)^(a.length - b.length+1)*bC ((shl a s).drop (a.length - b.length+1))<4294967296^(a.length - b.length+1)*(4294967296^(b.length - 1)*2^s):=by
  rw[<-Int.mul_assoc,<-m];omega
 have r:=Int.lt_of_mul_lt_mul_left p (Int.le_of_lt (pow_pos _))
 exact Int.lt_of_lt_of_le r (Int.mul_le_mul_of_nonneg_right o (Int.le_of_lt e))
theorem aDu {x y:Int} {s:Nat} (n:0<=x) (u:x<4294967296) (t:0<=y) (o:y<4294967296) (g:0<s) (q:s<=31):
  ∃r,B2.orI .u32 (x / 2^s) (y*2^(32 - s) % 4294967296)=r/\(0<=r/\r<4294967296)/\2^s*r=x - x % 2^s+4294967296*(y % 2^s):=by
 have b:(0:Int)<2^s:=Int.pow_pos (by decide)
 have c:(0:Int)<2^(32 - s):=Int.pow_pos (by decide)
 have l:(4294967296:Int)=2^s*2^(32 - s):=by
  rw[<-Int.pow_add,show s+(32 - s)=32 by omega]
  decide
 have f:y*2^(32 - s) % 4294967296=(y % 2^s)*2^(32 - s):=by
  conv=>lhs;rw[l]
  rw[Int.mul_comm y,Int.mul_comm (2^s),Int.mul_emod_mul_of_pos _ _ c,Int.mul_comm]
 have d:=Int.emod_nonneg y (show(2:Int)^s≠0 by omega)
 have p:=Int.emod_lt_of_pos y b
 have e:0<=x / 2^s:=Int.ediv_nonneg n (Int.le_of_lt b)
 have m:x / 2^s<2^(32 - s):=Int.ediv_lt_of_lt_mul b (by grind)
 have h:(y % 2^s)*2^(32 - s)+2^(32 - s)<=4294967296:=by
  have:=Int.mul_le_mul_of_nonneg_right (show y % 2^s+1<=2^s by omega) (Int.le_of_lt c)
  grind
 have j:0<=(y % 2^s)*2^(32 - s):=Int.mul_nonneg d (Int.le_of_lt c)
 have a:=avr (k:=32 - s) e m d (by omega) (by omega)
 refine⟨x / 2^s+(y % 2^s)*2^(32 - s),by rw[f,a],⟨by omega,by omega⟩,?_⟩
 have i:=Int.mul_ediv_add_emod x (2^s)
 grind
theorem avA {U r:List Int} {i s:Nat} {d:Int} (b:df U) (c:df r) (h:i<r.length) (g:∀j,i<=j->bo r j 0=0) (a:0<=d/\d<4294967296)
  (f:2^s*d=bo U i 0 - bo U i 0 % 2^s+4294967296*(bo U (i+1) 0 % 2^s))
  (e:2^s*bC r=bC (U.take i) - bo U 0 0 % 2^s+4294967296^i*(bo U i 0 % 2^s)):
  df (r.set i d)/\(r.set i d).length=r.length/\(∀j,i+1<=j->bo (r.set i d) j 0=0)/\
  2^s*bC (r.set i d)=bC (U.take (i+1)) - bo U 0 0 % 2^s+4294967296^(i+1)*(bo U (i+1) 0 % 2^s):=by
 grind[aaS,ach,aeZ,YE]
theorem aDv {U r v q:List Int} {n s:Nat} {a b:Int} (f:df U) (A:df r) (y:df v) (g:v.length=n) (u:bC U<bC v) (J:bC v=b*2^s) (C:0<b) (D:bC U+bC v*bC q=a*2^s)
  (G:s<=31) (x:n+1<=U.length)
  (c:2^s*bC r=bC (U.take n) - bo U 0 0 % 2^s+4294967296^n*(bo U n 0 % 2^s)):bC q=a / b/\bC r=a % b:=by
 have H:(0:Int)<2^s:=Int.pow_pos (by decide)
 have m:=abo y
 rw[g] at m
 have o:bo U n 0=0:=ai5 f (i:=n) (by omega) (Nat.le_refl _)
 have e:bC (U.take n)=bC U:=by
  have k:=afZ (U:=U) (j:=n) (by omega)
  have p:=uD (aaR f n)
  have w:=uD (ai4 f n)
  by_cases h:bC (U.drop n)=0
  ·simp_all
  ·have:=Int.mul_le_mul_of_nonneg_left (show(1:Int)<=bC (U.drop n) by omega) (Int.le_of_lt (pow_pos n))
   omega
 have d:bC U=2^s*(a - b*bC q):=by
  grind
 have l:bo U 0 0 % 2^s=0:=by
  have k:=@YE U 0
  have p:=afZ (U:=U) (j:=1) (by omega)
  have E:(4294967296:Int)=2^s*2^(32 - s):=by
   rw[<-Int.pow_add,show s+(32 - s)=32 by omega]
   decide
  simp only[Nat.zero_add,List.take_zero,bC,Int.pow_zero,Int.one_mul,Int.zero_add] at k;rw[k,Int.pow_succ,Int.pow_zero,Int.one_mul] at p
  have w:bo U 0 0=2^s*(a - b*bC q - 2^(32 - s)*bC (U.drop 1)):=by
   grind
  simp_all
 rw[o,l,e,Int.zero_emod,Int.mul_zero,Int.sub_zero,Int.add_zero,d] at c
 have t:bC r=a - b*bC q:=Int.eq_of_mul_eq_mul_left (by omega) c
 have B:=uD A
 have z:bC r<b:=by
  have:2^s*bC r<2^s*b:=by
   grind
  simp_all
 obtain⟨F,I⟩:=afY (X:=a) (V:=b) (q:=bC q) (by grind) (by grind)
 grind
theorem alJ:∀{w:List Int},df w->zp w->w≠[]->4294967296^(w.length - 1)<=bC w
 |[],_,_,h=>absurd rfl h
 |[d],a,b,_=>by
  have f:=(J9.1 a).1
  have c:=b.1 rfl
  grind[bC]
 |d::e::l,a,b,_=>by
  obtain⟨f,c⟩:=J9.1 a
  have g:=alJ c b.2 (by simp)
  have i:bC (d::e::l)=d+4294967296*bC (e::l):=rfl
  simp only[List.length_cons,Nat.add_sub_cancel] at g ⊢;omega
theorem alK {a b:Nat} (h:a<=b):(4294967296:Int)^a<=4294967296^b:=by
 obtain⟨m,rfl⟩:=Nat.exists_eq_add_of_le h
 rw[Int.pow_add]
 have c:=pow_pos a
 have d:=pow_pos m
 have:=Int.mul_le_mul_of_nonneg_left (show(1:Int)<=4294967296^m by omega) (Int.le_of_lt c)
 omega
theorem apo {t:List Int} {s:Nat} (e:df t) (H:1<=t.length) (G:s<=31) (d:bo t (t.length - 1) 0*2^s<4294967296) (c:2147483648<=bo t (t.length - 1) 0*2^s):
  df (eZ (shl t s))/\(eZ (shl t s)).length=t.length/\bC (eZ (shl t s))=bC t*2^s/\2147483648<=bo (eZ (shl t s)) (t.length - 1) 0/\1<=bo t (t.length - 1) 0:=by
 have o:(0:Int)<2^s:=Int.pow_pos (by decide)
 have q:=ri e (t.length - 1)
 have a:1<=bo t (t.length - 1) 0:=by
  grind
 obtain⟨y,N,z,_⟩:=avz e e G (Nat.le_refl _) H a
 obtain⟨f,E⟩:=@ady (shl t s)
 have i:=aee y
 rw[z] at f
 generalize eZ (shl t s)=w at*
 obtain⟨n,A⟩:∃n,t.length=n+1:=⟨t.length - 1,by omega⟩
 rw[A] at d c a q ⊢;simp only[Nat.add_sub_cancel] at d c a q ⊢
 have p:=pow_pos n
 have v:bC t=bC (t.take n)+4294967296^n*bo t n 0:=by
  grind[YE]
 have B:=uD (aaR e n)
 have k:=abo (aaR e n)
 rw[List.length_take,Nat.min_eq_left (by omega)] at k
 have J:(4294967296:Int)=2^(32 - s)*2^s:=by
  rw[<-Int.pow_add,show 32 - s+s=32 by omega]
  decide
 have L:(0:Int)<2^(32 - s):=Int.pow_pos (by decide)
 have D:bo t n 0<2^(32 - s):=by
  simp_all
 have l:(bo t n 0+1)*2^s<=4294967296:=by
  have:=Int.mul_le_mul_of_nonneg_right (show bo t n 0+1<=2^(32 - s) by omega) (Int.le_of_lt o)
  omega
 have x:bC w<4294967296^(n+1):=by
  rw[f,Int.pow_succ]
  have F:bC t<4294967296^n*(bo t n 0+1):=by grind
  have M:=Int.mul_lt_mul_of_pos_right F o
  have I:=Int.mul_le_mul_of_nonneg_left l (Int.le_of_lt p)
  grind
 have u:4294967296^n*(bo t n 0*2^s)<=bC w:=by
  rw[f,<-Int.mul_assoc]
  exact Int.mul_le_mul_of_nonneg_right (by omega) (Int.le_of_lt o)
 have r:(4294967296:Int)^n<=bC w:=by
  have:=Int.mul_le_mul_of_nonneg_left (show(1:Int)<=bo t n 0*2^s by omega) (Int.le_of_lt p)
  omega
 have b:w.length=n+1:=by
  have K:n<w.length:=by
   by_cases h:n<w.length
   ·exact h
   ·have:=abo i
    have:=alK (show w.length<=n by omega)
    omega
  by_cases h:w.length=n+1
  ·exact h
  ·have j:w≠[]:=by grind
   have:=alJ i E j
   have:=alK (show n+1<=w.length - 1 by omega)
   omega
 refine⟨i,b,f,?_,a⟩
 have C:bC w=bC (w.take n)+4294967296^n*bo w n 0:=by
  grind[YE]
 have m:=abo (aaR i n)
 rw[List.length_take,Nat.min_eq_left (by omega)] at m
 have g:4294967296^n*(bo t n 0*2^s)<4294967296^n*(bo w n 0+1):=by grind
 have:=Int.lt_of_mul_lt_mul_left g (Int.le_of_lt p)
 omega
def QD:List fN:=[adx,ahp,ai2,ao8,ahq,apg]
theorem hQD:∀c∈QD,Holds Tryz.prog c:=by
 simp only[QD,List.forall_mem_cons,List.not_mem_nil,false_implies,implies_true,and_true]
 grind[h152,h132,h154,h167,h128,h168p]
def WD:List ob:=[aph,apm]
theorem hWD:∀c∈WD,qH Tryz.prog c:=by
 simp_all[WD,h168,h169]
def alL:fN:=⟨141,List Int×List Int,.cons (qX (.i .u32)) (.one (qX (.i .u32))),fun a=>(df a.1/\df a.2)/\(a.1.length<=10000000000/\a.2.length<=10000000000)/\0<bC a.2,
 fun a=> .eW [.row (.i .u32) (ki (bC a.1 / bC a.2)),.row (.i .u32) (ki (bC a.1 % bC a.2)),.si .i64 0]⟩
def dvS (a:List Int×List Int) (s:Int):Prop:=(0<=s/\s<=31)/\bo (eZ a.2) ((eZ a.2).length - 1) 0*2^s.toNat<4294967296/\2147483648<=bo (eZ a.2) ((eZ a.2).length - 1) 0*2^s.toNat
def aDy (a:List Int×List Int):Nat->jW
 |10=> .inv Int (fun s=>⟨[(0,.row (.i .u32) (eZ a.1)),(1,.row (.i .u32) (eZ a.2)),(9,.si .u64 s)],[]⟩) (fun s=>iS s 9)
  (fun s=>(0<=s/\s<=31)/\bo (eZ a.2) ((eZ a.2).length - 1) 0*2^s.toNat<4294967296) (fun s=>(32 - s).toNat) fun _ _=> .look
 |17=> .inv (Int×Int×List Int×List Int) (fun x=>⟨[(4,.ow 1 x.2.2.2.length 1),(9,.si .u64 x.2.1),(10,.ow 0 x.2.2.1.length 1),(11,.row (.i .u32) (eZ (shl (eZ a.2) x.2.1.toNat))),(12,.si .i64 (eZ (shl (eZ a.2) x.2.1.toNat)).length),
   (13,.si .i64 ((eZ a.1).length - (eZ a.2).length)),(74,.si .i64 ((eZ a.1).length - (eZ a.2).length+1)),(75,.si .i64 x.1)],[.row (.i .u32) x.2.2.1 161 false,.row (.i .u32) x.2.2.2 161 true]⟩)
  (fun s=>(iS s 75,iS s 9,oS (.i .u32) s 0,oS (.i .u32) s 1))
  (fun x=>(0<=x.1/\x.1<=(eZ a.1).length - (eZ a.2).length+1)/\dvS a x.2.1/\(df x.2.2.1/\x.2.2.1.length=(eZ a.1).length+1)/\(df x.2.2.2/\x.2.2.2.length=(eZ a.1).length - (eZ a.2).length+1)/\
   (∀j:Nat,(j:Int)<(eZ a.1).length - (eZ a.2).length+1 - x.1->bo x.2.2.2 j 0=0)/\
   bC x.2.2.1+bC (eZ (shl (eZ a.2) x.2.1.toNat))*bC x.2.2.2=bC (eZ a.1)*2^x.2.1.toNat/\
   bC (x.2.2.1.drop (((eZ a.1).length - (eZ a.2).length+1 - x.1:Int).toNat))<bC (eZ (shl (eZ a.2) x.2.1.toNat)))
  (fun x=>((eZ a.1).length - (eZ a.2).length+1 - x.1:Int).toNat) fun _ _=> .look
 |24=> .inv (Int×Int×List Int×List Int×List Int) (fun x=>⟨[(4,.ow 1 x.2.2.2.1.length 1),(5,.ow 2 x.2.2.2.2.length 1),(9,.si .u64 x.2.1),(10,.ow 0 x.2.2.1.length 1),(100,.si .i64 (eZ (shl (eZ a.2) x.2.1.toNat)).length),(101,.si .i64 x.1)],
   [.row (.i .u32) x.2.2.1 161 false,.row (.i .u32) x.2.2.2.1 161 true,.row (.i .u32) x.2.2.2.2 161 true]⟩)
  (fun s=>(iS s 101,iS s 9,oS (.i .u32) s 0,oS (.i .u32) s 1,oS (.i .u32) s 2))
  (fun x=>(0<=x.1/\x.1<=(eZ (shl (eZ a.2) x.2.1.toNat)).length)/\dvS a x.2.1/\(df x.2.2.1/\x.2.2.1.length=(eZ a.1).length+1)/\(df x.2.2.2.1/\x.2.2.2.1.length=(eZ a.1).length - (eZ a.2).length+1)/\
   bC x.2.2.1+bC (eZ (shl (eZ a.2) x.2.1.toNat))*bC x.2.2.2.1=bC (eZ a.1)*2^x.2.1.toNat/\bC x.2.2.1<bC (eZ (shl (eZ a.2) x.2.1.toNat))/\
   (df x.2.2.2.2/\x.2.2.2.2.length=(eZ (shl (eZ a.2) x.2.1.toNat)).length)/\(∀j,x.1.toNat<=j->bo x.2.2.2.2 j 0=0)/\
   2^x.2.1.toNat*bC x.2.2.2.2=bC (x.2.2.1.take x.1.toNat) - bo x.2.2.1 0 0 % 2^x.2.1.toNat+4294967296^x.1.toNat*(bo x.2.2.1 x.1.toNat 0 % 2^x.2.1.toNat))
  (fun x=>((eZ (shl (eZ a.2) x.2.1.toNat)).length - x.1).toNat) fun _ _=> .look
 |_=> .look
theorem h166g:Holds Tryz.prog alL:=by
 refine con (L:=QD) (W:=A2 WD) alL aDy (Xy hWD) hQD ?_
 rintro⟨a,b⟩ ⟨⟨ha,hb⟩,⟨hla,hlb⟩,b0⟩
 simp only at ha hb hla hlb b0
 refine gw (let c:=(0:Int);let d:=(4294967296:Int);let e:=(18446744073709551616:Int);let f:=SV.row;let g:=SV.si .i64;let h:=iR .i64;let k:=cC.row;let l:=(1:Int);let m:=SV.ow;let n:=(32:Int);let o:=(140737488355328:Int);let p:=(1000000000000:Int);let q:=(2:Int);let r:=SV.eW;let s:=(31:Int);let z0:Nat:=(eZ b).length;let Q:=(↑z0:Int);let ay:=decide (Q=c);let aj:=f (bD.i .i64) [];let t:=bD.i .u32;let ak:=g 0;let aa:=r [f t (ki (bC a / bC b)),f t (ki (bC a % bC b)),ak];let z7:Nat:=(eZ a).length;let z8:Nat:=(eZ b).length;let G:=bC (eZ a);let az:=decide (YC G (bC (eZ b))<c);let a3:=SV.il .i64 0;let aA:=decide (Q=l);let ab:=bo (eZ b) 0 c;let al:=G % ab % e;let am:=bo (eZ b) (z8 - 1) c;let a4:=Q - l;let an:=(↑(eZ a).length:Int) - Q;let C:=an+l;let R:=List.replicate C.toNat c;let ao:=(↑z7:Int) - (↑z8:Int);let ap:=g ao;let y:=ao+l;let aq:=g y;let aB:=k t R 161 true;let M:=z7+1;let N:=z7 - z8+1;a.length<=1000000000000/\b.length<=1000000000000/\(ay=true->(r [aj,aj,SV.il .i64 8]).same aa)/\(ay=false->((df (eZ a)/\df (eZ b))/\z7<=1000000000000/\z8<=1000000000000)/\(az=true->((df (eZ a)/\df [])/\z7<=100000000000/\0<=100000000000)/\(r [aj,f t (ki (G+bC [])),a3]).same aa)/\(az=false->(aA=true->c<=c/\c<Q/\0<z0/\(df (eZ a)/\z7<=100000000000/\c<ab/\ab<d)/\(c<=al/\al<e)/\(r [f t (ki (G / ab)),f t (ki al),a3]).same aa)/\(aA=false->((((f t (eZ a)).same (f t (eZ a))/\(f t (eZ b)).same (f t (eZ b))/\(SV.il .u64 0).same (SV.si .u64 0)/\True)/\True)/\(c<=c/\c<=s)/\am*l<d)/\∀(x:Int),let ar:=q^x.toNat;let a5:=(x+l) % e;let aC:=SV.si .u64 a5;let aD:=shl (eZ b) x.toNat;let S:=shl (eZ a) x.toNat;let aE:=m 0 S.length 1;let T:=eZ aD;let aF:=k t S 161 false;let aG:=fun(u:Bool) ↦decide (bo (eZ b) a4.toNat c*ar % d<(2147483648:Int))=u;(c<=x/\x<=s)/\am*ar<d->h a4/\c<=a4/\a4<Q/\a4.toNat<z0/\c<=x/\x<=n/\(aG true->(((f t (eZ a)).same (f t (eZ a))/\(f t (eZ b)).same (f t (eZ b))/\aC.same aC/\True)/\True)/\((c<=a5/\a5<=s)/\am*q^a5.toNat<d)/\(n - a5).toNat<(n - x).toNat)/\(aG false->shD (eZ a,x)/\shD (eZ b,x)/\aD.length<=1000000000000/\h an/\h C/\c<=C/\C<=C/\C*(4:Int)<=o/\C<=p/\h C/\((((m 1 C.toNat 1).same (m 1 R.length 1)/\(SV.si .u64 x).same (SV.si .u64 x)/\aE.same aE/\(f t T).same (f t T)/\(g (↑T.length:Int)).same (g (↑T.length:Int))/\(g an).same ap/\(g C).same aq/\a3.same ak/\True)/\aF.same aF/\aB.same aB/\True)/\(c<=c/\c<=y)/\dvS (a,b) x/\(df S/\S.length=M)/\(df R/\R.length=N)/\(∀(j:Nat),(↑j:Int)<y - c->bo R j c=c)/\bC S+bC T*bC R=G*ar/\bC (List.drop (y - c).toNat S)<bC T)/\∀(x:Int×Int×List Int×List Int),let D:=x.snd.snd.fst;let U:=eZ (shl (eZ b) x.snd.fst.toNat);let V:=bC U;let w:=x.snd.snd.snd;let ac:=q^x.snd.fst.toNat;let W:=D.length;let aH:=decide (x.fst<y);let H:=ao - x.fst;let z:=(↑U.length:Int);let a6:=H+z+l;let a7:=H.toNat;let a8:=a6.toNat;let I:=DgA.mk D a7 (a8 - a7) W U;let O:=x.fst+l;let au:=m 1 w.length 1;let X:=w.set a7 (I.x / V);let ad:=SV.si .u64 x.snd.fst;let av:=m 0 W 1;let ae:=g z;let aI:=g O;let aJ:=k t I.row 161 false;let aK:=k t X 161 true;let Y:=List.replicate z.toNat c;let aL:=k t D 161 false;let aM:=k t w 161 true;let aN:=k t Y 161 true;let aO:=bo D 0 c % ac;let aP:=bC D+V*bC w=G*ac;(c<=x.fst/\x.fst<=y)/\dvS (a,b) x.snd.fst/\(df D/\W=M)/\(df w/\w.length=N)/\(∀(j:Nat),(↑j:Int)<y - x.fst->bo w j c=c)/\aP/\bC (List.drop (y - x.fst).toNat D)<V->(aH=true->h H/\h (H+z)/\h a6/\h (H+z)/\h a6/\W=D.length/\c<=H/\c<=a6/\c<=a6/\a7<=a8/\a8<=a8/\a8<=W/\I.ok/\w.length=w.length/\c<=H/\H<(↑w.length:Int)/\w.length=w.length/\a7<w.length/\h O/\((au.same (m 1 X.length 1)/\ad.same ad/\av.same (m 0 I.row.length 1)/\(f t U).same (f t U)/\ae.same ae/\ap.same ap/\aq.same aq/\aI.same aI/\True)/\aJ.same aJ/\aK.same aK/\True)/\((c<=O/\O<=y)/\dvS (a,b) x.snd.fst/\(df I.row/\I.row.length=M)/\(df X/\X.length=N)/\(∀(j:Nat),(↑j:Int)<y - O->bo X j c=c)/\bC I.row+V*bC X=G*ac/\bC (List.drop (y - O).toNat I.row)<V)/\(y - O).toNat<(y - x.fst).toNat)/\(aH=false->c<=z/\z<=z/\z*(4:Int)<=o/\z<=p/\(((au.same au/\(m 2 z.toNat 1).same (m 2 Y.length 1)/\ad.same ad/\av.same av/\ae.same ae/\a3.same ak/\True)/\aL.same aL/\aM.same aM/\aN.same aN/\True)/\(c<=c/\c<=z)/\dvS (a,b) x.snd.fst/\(df D/\W=M)/\(df w/\w.length=N)/\aP/\bC D<V/\(df Y/\Y.length=U.length)/\(∀(j:Nat),0<=j->bo Y j c=c)/\ac*bC Y=bC [] - aO+l*aO)/\∀(x:Int×Int×List Int×List Int×List Int),let aQ:=SV.si .u64 x.snd.fst;let v:=x.snd.snd.fst;let aR:=m 0 v.length 1;let a9:=eZ (shl (eZ b) x.snd.fst.toNat);let af:=a9.length;let Z:=(↑af:Int);let aS:=g Z;let E:=x.fst+l;let aT:=g E;let A:=x.snd.snd.snd.snd;let P:=A.length;let F:=x.fst.toNat;let aU:=bo v F c;let J:=q^x.snd.fst.toNat;let B:=A.set F (aU / J);let K:=x.snd.snd.snd.fst;let a0:=K.length;let aV:=m 1 a0 1;let aW:=bo v 0 c % J;let aX:=decide (x.fst<Z);let L:=v.length;let aY:=decide (c<x.snd.fst);let a1:=E.toNat;let aw:=(n - x.snd.fst) % e;let aZ:=m 2 P 1;let b0:=bo v a1 c;let a2:=B.set F (B2.orI .u32 (bo B F c) (b0*q^aw.toNat % d));let ag:=k t v 161 false;let ah:=k t K 161 true;let b1:=k t a2 161 true;let b2:=bC (List.take a1 v) - aW+d^a1*(b0 % J);let b3:=k t B 161 true;let b4:=aQ.same aQ/\aR.same aR/\aS.same aS/\aT.same aT/\True;let ai:=P=B.length;let b5:=x.fst<(↑B.length:Int);let b6:=F<B.length;let ax:=bC v+bC a9*bC K=G*J;let b7:=(Z - E).toNat<(Z - x.fst).toNat;let b8:=aV.same aV;let b9:=c<=E/\E<=Z;(c<=x.fst/\x.fst<=Z)/\dvS (a,b) x.snd.fst/\(df v/\v.length=M)/\(df K/\a0=N)/\ax/\bC v<bC a9/\(df A/\P=af)/\(∀(j:Nat),F<=j->bo A j c=c)/\J*bC A=bC (List.take F v) - aW+d^F*(aU % J)->(aX=true->v.length=L/\c<=x.fst/\x.fst<(↑L:Int)/\v.length=L/\F<L/\c<=x.snd.fst/\x.snd.fst<=n/\P=A.length/\c<=x.fst/\x.fst<(↑A.length:Int)/\P=A.length/\F<A.length/\(aY=true->ai/\c<=x.fst/\b5/\ai/\b6/\h E/\v.length=L/\c<=E/\E<(↑L:Int)/\v.length=L/\a1<L/\c<=aw/\aw<=n/\ai/\c<=x.fst/\b5/\ai/\b6/\h E/\((b8/\aZ.same (m 2 a2.length 1)/\b4)/\ag.same ag/\ah.same ah/\b1.same b1/\True)/\(b9/\dvS (a,b) x.snd.fst/\(df v/\v.length=M)/\(df K/\a0=N)/\ax/\bC v<bC a9/\(df a2/\a2.length=af)/\(∀(j:Nat),a1<=j->bo a2 j c=c)/\J*bC a2=b2)/\b7)/\(aY=false->h E/\((b8/\aZ.same (m 2 B.length 1)/\b4)/\ag.same ag/\ah.same ah/\b3.same b3/\True)/\(b9/\dvS (a,b) x.snd.fst/\(df v/\v.length=M)/\(df K/\a0=N)/\ax/\bC v<bC a9/\(df B/\B.length=af)/\(∀(j:Nat),a1<=j->bo B j c=c)/\J*bC B=b2)/\b7))/\(aX=false->a0=K.length/\P=A.length/\a0<=1000000000000/\P<=1000000000000/\(r [f t (eZ K),f t (eZ A),a3]).same aa))))))) (by kernel_rfl) ?_
 simp only[vcs]
 obtain⟨va,na⟩:=@ady a
 obtain⟨vb,nb⟩:=@ady b
 have da:=aee ha
 have db:=aee hb
 have la:=@aeX a
 have lb:=@aeX b
 have p0:=uD da
 have d0:df []:=by simp[df]
 simp only[dvS];rw[<-va,<-vb];rw[<-vb] at b0
 generalize eZ a=S at*
 generalize eZ b=T at*
 have hm:=Int.emod_nonneg (bC S) (show bC T≠0 by omega)
 have hl:=Int.emod_lt_of_pos (bC S) b0
 have hT1:T.length≠0:=by
  intro h;rw[List.eq_nil_of_length_eq_zero h] at b0
  exact absurd b0 (by decide)
 refine⟨by omega,by omega,fun h0=>by omega,fun h0=>⟨⟨⟨da,db⟩,by omega,by omega⟩,fun hlt=>⟨⟨⟨da,d0⟩,by omega,by omega⟩,?_⟩,fun hge=>⟨fun h1=>?_,fun h1=>⟨?_,?_⟩⟩⟩⟩
 ·have hab:bC S<bC T:=by unfold YC at hlt;split at hlt<;>(try split at hlt)<;>omega
  have hdv:bC S / bC T=0:=Int.ediv_eq_zero_of_lt p0 hab
  have hmv:bC S % bC T=bC S:=Int.emod_eq_of_lt p0 hab
  refine⟨avn (by rw[hdv];rfl),?_⟩
  rw[hmv]
  simp[bC]
 ·obtain⟨d,rfl⟩:∃d,T=[d]:=List.length_eq_one_iff.1 (by omega)
  have hd:=(J9.1 db).1
  have aDz:bo [d] 0 0=d:=rfl
  have hv:bC [d]=d:=by simp[bC]
  rw[hv] at b0 hm hl ⊢;rw[aDz]
  have hmm:bC S % d % 18446744073709551616=bC S % d:=by omega
  rw[hmm]
  repeat' refine And.intro ?_ ?_
  all_goals first|omega|exact da|rfl|(simp;done)
 ·have:=ri db (T.length - 1)
  repeat' refine And.intro ?_ ?_
  all_goals omega
 have avp:bC T<=bC S:=by unfold YC at hge;split at hge<;>(try split at hge)<;>omega
 have hlen:T.length<=S.length:=by
  by_cases h:S.length<T.length
  ·have:=aho da db nb h
   omega
  ·omega
 have hTn:2<=T.length:=by omega
 clear hge h0 h1 hT1 va vb d0
 rintro s ⟨⟨s0,s1⟩,hs⟩
 have t1:((T.length:Int) - 1).toNat=T.length - 1:=by omega
 have hxt:=ri db (T.length - 1)
 have hps:(0:Int)<2^s.toNat:=Int.pow_pos (by decide)
 have hnn:0<=bo T (T.length - 1) 0*2^s.toNat:=Int.mul_nonneg hxt.1 (Int.le_of_lt hps)
 have hmod:bo T (T.length - 1) 0*2^s.toNat % 4294967296=bo T (T.length - 1) 0*2^s.toNat:=by omega
 rw[t1,hmod]
 repeat refine And.intro (by omega) ?_
 refine⟨fun hc=>?_,fun hc=>?_⟩
 ·have htop:1<=bo T (T.length - 1) 0:=by
   by_cases h:1<=bo T (T.length - 1) 0
   ·exact h
   ·exfalso
    have h4:=alJ db nb (by rintro rfl;simp at hTn)
    have h5:bC T=bC (T.take (T.length - 1))+4294967296^(T.length - 1)*bo T (T.length - 1) 0:=by
     have:=@YE T (T.length - 1)
     rwa [show T.length - 1+1=T.length by omega,List.take_length] at this
    have h6:=abo (aaR db (T.length - 1))
    rw[List.length_take,Nat.min_eq_left (by omega)] at h6
    rw[show bo T (T.length - 1) 0=0 by omega,Int.mul_zero] at h5
    omega
  have h31:s<=30:=by
   by_cases h:s<=30
   ·exact h
   ·have aDB:s.toNat=31:=by omega
    rw[aDB,show(2:Int)^31=2147483648 from rfl] at hc;omega
  have e:((s+1) % 18446744073709551616)=s+1:=by omega
  have e2:(s+1).toNat=s.toNat+1:=by omega
  rw[e,e2,Int.pow_succ,<-Int.mul_assoc]
  repeat' refine And.intro ?_ ?_
  all_goals omega
 ·obtain⟨dw,lw,vw,tw,ai8⟩:=apo db (by omega) (show s.toNat<=31 by omega) hs (by omega)
  obtain⟨ds,ls,vs,hst⟩:=avz da db (show s.toNat<=31 by omega) hlen (by omega) ai8
  have hds:∀z,shD (z,s)↔(df z/\z.length<=100000000000):=fun z=>⟨fun h=>⟨h.1,h.2.1⟩,fun h=>⟨h.1,h.2,s0,s1⟩⟩
  have fa:(shl T s.toNat).length=T.length+1:=ai3
  have bits:(0<=s/\s<=31)/\bo T (T.length - 1) 0*2^s.toNat<4294967296/\2147483648<=bo T (T.length - 1) 0*2^s.toNat:=⟨⟨s0,s1⟩,hs,by omega⟩
  rw[hds,hds,fa,ls]
  refine⟨⟨da,by omega⟩,⟨db,by omega⟩,?_⟩
  repeat refine And.intro (by omega) ?_
  refine⟨?_,?_⟩
  ·repeat' refine And.intro ?_ ?_
   all_goals first|omega|exact YP (by simp)|exact YP (by omega)|exact ds|exact ai6|exact fun j _=>avq|(simp;omega)|(rw[ahr,Int.mul_zero,Int.add_zero];exact vs)|(rw[vw,show((S.length:Int) - T.length+1 - 0).toNat=S.length - T.length+1 by omega];exact hst)
  clear hst vs ls ds bits hds hmod hnn hps hxt ai8 tw vw lw dw fa t1 hc hs s0 s1
  clear s
  rintro⟨i,s,U,q⟩ ⟨⟨i0,i1⟩,⟨⟨s0,s1⟩,hs,hs2⟩,⟨hU,hUl⟩,⟨hq,hql⟩,hz,he,hlt⟩
  simp only at i0 i1 s0 s1 hs hs2 hU hUl hq hql hz he hlt ⊢
  obtain⟨dw,lw,vw,tw,ai8⟩:=apo db (by omega) (show s.toNat<=31 by omega) hs (by omega)
  generalize hw:eZ (shl T s.toNat)=w at*
  have hw0:0<bC w:=by
   rw[vw]
   exact Int.mul_pos b0 (Int.pow_pos (by decide))
  refine⟨fun ilt=>?_,fun ige=>?_⟩
  ·obtain⟨j,hj⟩:∃j:Nat,(S.length:Int) - T.length - i=j:=⟨((S.length:Int) - T.length - i).toNat,by omega⟩
   have e1:((j:Int)+w.length+1).toNat - j=w.length+1:=by omega
   have e2:((S.length:Int) - T.length+1 - i).toNat=j+1:=by omega
   rw[e2] at hlt
   obtain⟨k1,⟨k2,k3⟩,⟨k4,k5⟩,k6,k7⟩:=aDt (j:=j) (m:=S.length - T.length) hU dw hq (by omega) (by omega) (by omega) (by omega) hw0 (hz j (by omega)) he hlt
   have e3:((S.length:Int) - T.length+1 - (i+1)).toNat=j:=by omega
   simp only[hj,e1,e3,Int.toNat_natCast,DgA.row,DgA.x,DgA.ok]
   repeat' refine And.intro ?_ ?_
   all_goals first|omega|exact YP (by simp)|exact YP k3.symm|exact trivial|exact hU|exact dw|exact k1|exact k2|exact k6|exact k7|exact aaS hq k4 k5|(simp;omega)|(rw[lw];exact tw)|exact fun p hp=>by rw[ach (by omega)];exact hz p (by omega)
  ·have e2:((S.length:Int) - T.length+1 - i).toNat=0:=by omega
   rw[e2,List.drop_zero] at hlt
   repeat refine And.intro (by omega) ?_
   refine⟨?_,?_⟩
   ·have h1:=@YE U 0
    simp only[List.take_zero,bC,Int.pow_zero,Int.one_mul]
    repeat' refine And.intro ?_ ?_
    all_goals first|omega|exact YP (by simp)|exact hU|exact hq|exact he|exact hlt|exact ai6|exact fun j _=>avq|(simp;done)|(rw[ahr];omega)
   clear hlt hz e2 ige i0 i1 tw ai8 hw0 hs hs2 s0 s1 he hU hUl hq hql
   clear hw dw lw vw
   clear w s i U q
   rintro⟨i,s,U,q,r⟩ ⟨⟨i0,i1⟩,⟨⟨s0,s1⟩,hs,hs2⟩,⟨hU,hUl⟩,⟨hq,hql⟩,he,hlt,⟨hr,hrl⟩,hz,hv⟩
   simp only at i0 i1 s0 s1 hs hs2 hU hUl hq hql he hlt hr hrl hz hv ⊢
   obtain⟨dw,lw,vw,tw,ai8⟩:=apo db (by omega) (show s.toNat<=31 by omega) hs (by omega)
   generalize hw:eZ (shl T s.toNat)=w at*
   refine⟨fun ilt=>?_,fun ige=>?_⟩
   ·have x0:=ri hU i.toNat
    have x1:=ri hU (i.toNat+1)
    have e1:(i+1).toNat=i.toNat+1:=by omega
    have x2:=ri hr i.toNat
    have hps:(0:Int)<2^s.toNat:=Int.pow_pos (by decide)
    have y0:0<=bo U i.toNat 0 / 2^s.toNat:=Int.ediv_nonneg x0.1 (Int.le_of_lt hps)
    have y1:bo U i.toNat 0 / 2^s.toNat<=bo U i.toNat 0:=Int.ediv_le_self _ x0.1
    have e2:((32 - s) % 18446744073709551616).toNat=32 - s.toNat:=by omega
    have e3:(r.set i.toNat (bo U i.toNat 0 / 2^s.toNat)).set i.toNat=r.set i.toNat:=by funext z;rw[List.set_set]
    simp only[e1,e2,e3,aef (show i.toNat<r.length by omega),List.length_set]
    repeat refine And.intro (by omega) ?_
    refine⟨fun hs0=>?_,fun hs0=>?_⟩
    ·obtain⟨d,hd1,hd2,hd3⟩:=aDu (s:=s.toNat) x0.1 x0.2 x1.1 x1.2 (by omega) (by omega)
     obtain⟨k1,k2,k3,k4⟩:=avA hU hr (show i.toNat<r.length by omega) hz hd2 hd3 hv
     rw[hd1]
     repeat' refine And.intro ?_ ?_
     all_goals first|omega|exact YP (by simp)|exact hU|exact hq|exact k1|exact k3|exact k4|exact he|exact hlt|trivial
    ·have aDC:s.toNat=0:=by omega
     obtain⟨k1,k2,k3,k4⟩:=avA (s:=s.toNat) (d:=bo U i.toNat 0 / 2^s.toNat) hU hr (show i.toNat<r.length by omega) hz ⟨y0,by omega⟩ (by rw[aDC];simp) hv
     repeat' refine And.intro ?_ ?_
     all_goals first|omega|exact YP (by simp)|exact hU|exact hq|exact k1|exact k3|exact k4|exact he|exact hlt|trivial
   ·have hi:i.toNat=w.length:=by omega
    rw[hi] at hv
    obtain⟨w1,w2⟩:=aDv hU hr dw rfl hlt vw b0 he (show s.toNat<=31 by omega) (by omega) hv
    rw[acU hq,acU hr,w1,w2]
    repeat' refine And.intro ?_ ?_
    all_goals first|omega|rfl|trivial
theorem apq {a b:List Int} (d:df a) (c:df b) (f:zp a) (h:bC a<=bC b):a.length<=b.length:=by
 by_cases e:a.length<=b.length
 ·exact e
 ·have:=aho c d f (by omega)
  omega
def alN:fN:=⟨140,List Int×List Int,.cons (qX (.i .u32)) (.one (qX (.i .u32))),fun a=>(df a.1/\df a.2)/\(a.1.length<=1000000000/\a.2.length<=1000000000),
 fun a=> .row (.i .u32) (ki (sr (bC a.1) (bC a.2)))⟩
def aDD (a:List Int×List Int):Nat->jW
 |2=> .inv (List Int×List Int) (fun x=>⟨[(0,.row (.i .u32) x.1),(1,.row (.i .u32) x.2)],[]⟩) (fun s=>(rS (.i .u32) s 0,rS (.i .u32) s 1))
  (fun x=>(df x.1/\df x.2)/\(zp x.1/\zp x.2)/\(x.1.length<=1000000000/\x.2.length<=1000000000)/\sr (bC x.1) (bC x.2)=sr (bC a.1) (bC a.2)) (fun x=>(bC x.2).toNat) fun _ _=> .look
 |_=> .look
theorem h165g:Holds Tryz.prog alN:=by
 refine lj (L:=[ai2,alL]) alN aDD (by grind[h154,h166g]) ?_
 rintro⟨a,b⟩ ⟨⟨l,k⟩,⟨n,m⟩⟩
 simp only at l k n m
 refine gw (let h:=SV.row;let c:=bD.i .u32;let f:=ki (bC a+bC []);let e:=ki (bC b+bC []);let g:=sr (bC a) (bC b);((df a/\df [])/\a.length<=100000000000/\0<=100000000000)/\((df b/\df [])/\b.length<=100000000000/\0<=100000000000)/\((((h c f).same (h c f)/\(h c e).same (h c e)/\True)/\True)/\(df f/\df e)/\(zp f/\zp e)/\(f.length<=1000000000/\e.length<=1000000000)/\sr (bC f) (bC e)=g)/\∀(x:List Int×List Int),let v:=decide ((0:Int)<(↑x.snd.length:Int));let d:=ki (bC x.fst % bC x.snd);(df x.fst/\df x.snd)/\(zp x.fst/\zp x.snd)/\(x.fst.length<=1000000000/\x.snd.length<=1000000000)/\sr (bC x.fst) (bC x.snd)=g->(v=true->((df x.fst/\df x.snd)/\(x.fst.length<=10000000000/\x.snd.length<=10000000000)/\(0:Int)<bC x.snd)/\(false=true->(h c x.fst).same (h c (ki g)))/\(false=false->(((h c x.snd).same (h c x.snd)/\(h c d).same (h c d)/\True)/\True)/\((df x.snd/\df d)/\(zp x.snd/\zp d)/\(x.snd.length<=1000000000/\d.length<=1000000000)/\sr (bC x.snd) (bC d)=g)/\(bC d).toNat<(bC x.snd).toNat))/\(v=false->(h c x.fst).same (h c (ki g)))) (by kernel_rfl) ?_
 simp only[vcs]
 have r:df []:=by simp[df]
 have N:=uD l
 have E:=uD k
 have z:bC []=0:=rfl
 rw[z,Int.add_zero,Int.add_zero]
 obtain⟨Q,y,D⟩:=AO N
 obtain⟨o,w,H⟩:=AO E
 have p:(ki (bC a)).length<=1000000000:=by
  rw[<-acU l]
  grind[aeX]
 have j:(ki (bC b)).length<=1000000000:=by
  rw[<-acU k]
  grind[aeX]
 refine⟨⟨⟨l,r⟩,by omega,by omega⟩,⟨⟨k,r⟩,by omega,by omega⟩,⟨⟨y,w⟩,⟨D,H⟩,⟨p,j⟩,by rw[Q,o]⟩,?_⟩
 rintro⟨s,t⟩ ⟨⟨u,q⟩,⟨J,C⟩,⟨O,G⟩,F⟩
 simp only at u q J C G O F ⊢
 have T:=uD u
 have U:=uD q
 refine⟨fun B=>?_,fun B=>?_⟩
 ·have h:0<bC t:=by
   grind[val_zero]
  have K:=Int.emod_nonneg (bC s) (show bC t≠0 by omega)
  have A:=Int.emod_lt_of_pos (bC s) h
  obtain⟨I,M,S⟩:=AO K
  have P:=apq M q S (by rw[I];omega)
  grind[aDb]
 ·have R:t=[]:=List.eq_nil_of_length_eq_zero (by omega)
  grind[aDc,ai1]
@[reducible] def sF:bD:=.pair .b (.pair (.fa (.i .u32)) (.fa (.i .u32)))
abbrev fO:=Bool×(List Int×List Int)
def cJ (q:Rat):fO:=(decide (q<0),(ki (q.num.natAbs:Int),ki (q.den:Int)))
def ja (x:fO):Rat:=mkRat (if x.1 then -bC x.2.1 else bC x.2.1) (bC x.2.2).toNat
def Sz (k:Nat) (q:Rat):Prop:=(q.num.natAbs:Int)<4294967296^k/\(q.den:Int)<4294967296^k
theorem aam {n:Int} {k:Nat} (e:0<=n) (h:n<4294967296^k):(ki n).length<=k:=by
 obtain⟨f,b,d⟩:=AO e
 by_cases c:(ki n).length<=k
 ·exact c
 ·have a:ki n≠[]:=by grind
  have:=alJ b d a
  have:=alK (show k<=(ki n).length - 1 by omega)
  omega
theorem tc (q:Rat):ja (cJ q)=q:=by
 unfold ja cJ
 have a:=(AO (show(0:Int)<=(q.num.natAbs:Int) by omega)).1
 have b:=(AO (show(0:Int)<=(q.den:Int) by omega)).1
 simp only[a,b,decide_eq_true_eq,Int.toNat_natCast]
 grind[Rat.num_nonneg,Rat.mkRat_self]
theorem avB {N:Int} {D:Nat} (a:D≠0):(mkRat N D).num.natAbs=N.natAbs / N.natAbs.gcd D/\(mkRat N D).den=D / N.natAbs.gcd D:=by
 rw[<-Rat.normalize_eq_mkRat a,Rat.normalize_eq a]
 simp only
 refine⟨?_,trivial⟩
 have b:0<N.natAbs.gcd D:=Nat.gcd_pos_of_pos_right _ (by omega)
 have c:((N.natAbs.gcd D:Nat):Int)∣N:=Int.ofNat_dvd_left.2 (Nat.gcd_dvd_left _ _)
 generalize N.natAbs.gcd D=g at*
 obtain⟨m,rfl⟩:=c
 rw[Int.mul_ediv_cancel_left _ (by omega),Int.natAbs_mul,Int.natAbs_natCast,Nat.mul_div_cancel_left _ b]
theorem aDE {N:Int} {D:Nat} (f:D≠0):mkRat N D<0↔N<0:=by
 have i:(0:Rat)=mkRat 0 D:=(Rat.zero_mkRat D).symm
 have e:mkRat N D<0↔¬0<=mkRat N D:=Rat.not_le.symm
 rw[e,<-Rat.num_nonneg]
 have g:=Rat.num_divInt_den (mkRat N D)
 have c:(mkRat N D).num*(D:Int)=N*((mkRat N D).den:Int):=by
  grind[Rat.mkRat_eq_iff,mkRat,Rat.mkRat_self]
 have d:(0:Int)<((mkRat N D).den:Int):=by have:=(mkRat N D).den_pos;omega
 have b:(0:Int)<(D:Int):=by omega
 constructor
 ·intro h
  by_cases a:N<0
  ·exact a
  ·exfalso
   apply h
   have:0<=(mkRat N D).num*(D:Int):=by rw[c];exact Int.mul_nonneg (by omega) (by omega)
   exact Int.nonneg_of_mul_nonneg_left this b
 ·intro a h
  have:0<=(mkRat N D).num*(D:Int):=Int.mul_nonneg h (by omega)
  rw[c] at this
  have:=Int.mul_neg_of_neg_of_pos a d
  omega
theorem avC {s:Bool} {n d:Int} (n0:0<=n) (f:0<d):cJ (mkRat (if s then -n else n) d.toNat)=(s&&decide (0<n),(ki (n / sr n d),ki (d / sr n d))):=by
 have e:d.toNat≠0:=by omega
 obtain⟨b,c⟩:=avB (N:=if s then -n else n) e
 have a:(if s then -n else n).natAbs=n.toNat:=by split<;>omega
 unfold cJ;rw[b,c,a]
 have g:sr n d=((n.toNat.gcd d.toNat:Nat):Int):=rfl
 refine Prod.ext ?_ (Prod.ext ?_ ?_)
 ·simp only
  rw[Bool.eq_iff_iff];simp only[decide_eq_true_eq,Bool.and_eq_true]
  grind[aDE]
 all_goals grind
theorem ai9 {N:Int} {D:Nat} {k:Nat} (b:D≠0) (f:(N.natAbs:Int)<4294967296^k) (e:(D:Int)<4294967296^k):Sz k (mkRat N D):=by
 obtain⟨c,a⟩:=avB (N:=N) b
 unfold Sz;rw[c,a]
 have g:=Nat.div_le_self N.natAbs (N.natAbs.gcd D)
 have d:=Nat.div_le_self D (N.natAbs.gcd D)
 omega
theorem Sz.mono {j k:Nat} {q:Rat} (h:Sz j q) (a:j<=k):Sz k q:=by
 have:=alK a
 exact⟨by have:=h.1;omega,by have:=h.2;omega⟩
theorem avD (p q:Rat):p+q=mkRat (p.num*q.den+q.num*p.den) (p.den*q.den):=by
 rw[Rat.add_def,Rat.normalize_eq_mkRat]
theorem avE {p q:Rat} {i j:Nat} (e:Sz i p) (c:Sz j q):Sz (i+j+1) (p+q):=by
 rw[avD]
 have g:=p.den_pos
 have l:=q.den_pos
 have k:p.den*q.den≠0:=Nat.ne_of_gt (Nat.mul_pos g l)
 have m:∀{a b:Int} {i j:Nat},0<=a->0<=b->a<4294967296^i->b<4294967296^j->a*b<4294967296^(i+j):=by
  intro a b i j h o f d;rw[Int.pow_add]
  exact Int.lt_of_le_of_lt (Int.mul_le_mul_of_nonneg_left (Int.le_of_lt d) h) (Int.mul_lt_mul_of_pos_right f (pow_pos _))
 have f:=m (by omega) (by omega) e.1 c.2
 have d:=m (by omega) (by omega) c.1 e.2
 have n:=m (by omega) (by omega) e.2 c.2
 rw[Nat.add_comm j i] at d
 have t:=pow_pos (i+j)
 refine ai9 k ?_ ?_
 ·have r:(p.num*(q.den:Int)).natAbs=p.num.natAbs*q.den:=by rw[Int.natAbs_mul,Int.natAbs_natCast]
  have s:(q.num*(p.den:Int)).natAbs=q.num.natAbs*p.den:=by rw[Int.natAbs_mul,Int.natAbs_natCast]
  omega
 omega
theorem alO {p:Rat} {i:Nat} (a:Sz i p):Sz i (-p):=by
 grind[Sz,Rat.neg_num,Rat.neg_den]
def frS (q:Rat):SV:=.agg (encS sF (cJ q))
def lH (x:fO):Prop:=∃q k,x=cJ q/\Sz k q/\k<=100000000
def zq (s:Bool) (n d:Int):Rat:=mkRat (if s then -n else n) d.toNat
def alP:fN:=⟨61,Int,.one (sj .i64),fun n=> -9223372036854775808<=(show Int from n)/\(show Int from n)<=9223372036854775807,fun n=> .row (.i .u32) (ki ((show Int from n).natAbs:Int))⟩
theorem h127:Holds Tryz.prog alP:=by
 refine lj (L:=[ahq]) alP lk (by grind[h128]) ?_
 intro(n:Int) h
 obtain⟨e,f⟩: -9223372036854775808<=n/\n<=9223372036854775807:=h
 refine gw (let e:=(18446744073709551616:Int);let f:=(1:Int);let g:=(0:Int);let h:=SV.row;let d:=decide (n<g);let a:=(-(n+f)+f) % e;let b:=bD.i .u32;let c:=h b (ki (↑n.natAbs:Int));(d=true->iR .i64 (n+f)/\iR .i64 (-(n+f))/\iR .u64 (-(n+f))/\(g<=a/\a<e)/\(h b (ki a)).same c)/\(d=false->iR .u64 n/\(g<=n/\n<e)/\(h b (ki n)).same c)) (by kernel_rfl) ?_
 simp only[vcs]
 grind[u64_in]
def aja:fN:=⟨95,Bool×(List Int×List Int),.cons aub (.cons (qX (.i .u32)) (.one (qX (.i .u32)))),fun a=>(df a.2.1/\df a.2.2)/\(a.2.1.length<=1000000000/\a.2.2.length<=1000000000)/\0<bC a.2.2,
 fun a=> .eW [frS (zq a.1 (bC a.2.1) (bC a.2.2)),.si .i64 0]⟩
theorem h151:Holds Tryz.prog aja:=by
 refine lj (L:=[alN,alL]) aja lk (by grind[h165g,h166g]) ?_
 rintro⟨s,n,d⟩ ⟨⟨c,f⟩,⟨t,p⟩,j⟩
 simp only at c f t p j
 refine gw (let b:=SV.bl false;let c:=SV.il .i64;let e:=SV.row;let f:=(0:Int);let g:=SV.agg;let h:=SV.eW;let k:=e (bD.i .i64) [];let w:=cJ (zq s (bC n) (bC d));let l:=bD.i .u32;let y:=h [g [SV.sb w.fst,e l w.snd.fst,e l w.snd.snd],SV.si .i64 0];let a:=ki (sr (bC n) (bC d));let C:=ki (bC n / bC a);let B:=decide ((↑d.length:Int)=f);let F:=false=true->(h [g [b,k,k],c 8]).same y;let E:=fun(u:Bool) (v:SV) ↦s=u->(h [g [v,e l C,e l (ki (bC d / bC a))],c 0]).same y;(B=true->(h [g [b,k,k],c 8]).same y)/\(B=false->((df n/\df d)/\n.length<=1000000000/\d.length<=1000000000)/\((df n/\df a)/\(n.length<=10000000000/\a.length<=10000000000)/\f<bC a)/\((df d/\df a)/\(d.length<=10000000000/\a.length<=10000000000)/\f<bC a)/\F/\(false=false->F/\(false=false->E true (SV.sb (decide (f<(↑C.length:Int))))/\E false (b))))) (by kernel_rfl) ?_
 simp only[vcs]
 have D:=uD c
 have b:0<sr (bC n) (bC d):=by
  simp_all[sr]
 have K:sr (bC n) (bC d)<=bC d:=by
  unfold sr
  have:=Nat.gcd_le_right (bC n).toNat (show 0<(bC d).toNat by omega)
  omega
 have o:sr (bC n) (bC d)∣bC n:=by
  unfold sr
  have:=Nat.gcd_dvd_left (bC n).toNat (bC d).toNat
  have S:=Int.natCast_dvd_natCast.2 this
  grind
 obtain⟨R,q,Q⟩:=AO (Int.le_of_lt b)
 have I:=apq q (aee f) Q (by grind[ady])
 have P:=@aeX d
 have A:0<=bC n / sr (bC n) (bC d):=Int.ediv_nonneg D (Int.le_of_lt b)
 obtain⟨N,H,M⟩:=AO A
 have G:(0<((ki (bC n / sr (bC n) (bC d))).length:Int))↔0<bC n:=by
  obtain⟨m,e⟩:=o
  have r:bC n / sr (bC n) (bC d)=m:=by
   conv=>lhs;arg 1;rw[e]
   rw[Int.mul_ediv_cancel_left _ (by omega)]
  rw[r] at N H M ⊢
  have z:0<bC n↔0<m:=by
   generalize sr (bC n) (bC d)=g at*
   rw[e]
   constructor
   ·grind
   ·intro h;exact Int.mul_pos b h
  rw[z]
  constructor
  ·intro h
   by_cases e:m=0
   ·rw[e] at h;exact absurd h (by decide)
   ·omega
  ·intro h
   by_cases T:(ki m).length=0<;>grind[ki,bC]
 have O:d.length≠0:=by
  intro h;rw[List.eq_nil_of_length_eq_zero h] at j
  exact absurd j (by decide)
 unfold zq;rw[avC D j,R]
 simp only
 refine⟨fun h=>absurd h (by omega),fun _=>⟨⟨⟨c,f⟩,by omega,by omega⟩,⟨⟨c,q⟩,by omega,b⟩,⟨⟨f,q⟩,by omega,b⟩,?_⟩⟩
 have J:decide (0<((ki (bC n / sr (bC n) (bC d))).length:Int))=decide (0<bC n):=by
  simp_all
 refine⟨fun h=>absurd h (by decide),fun _=>⟨fun h=>absurd h (by decide),fun _=>⟨fun x=>?_,fun x=>?_⟩⟩⟩
 ·rw[x,J]
  rfl
 ·rw[x]
  rfl
def ahu:fN:=⟨60,Bool×(List Int×List Int),.cons aub (.cons (qX (.i .u32)) (.one (qX (.i .u32)))),fun a=>(df a.2.1/\df a.2.2)/\(a.2.1.length<=1000000000/\a.2.2.length<=1000000000)/\0<bC a.2.2,
 fun a=>frS (zq a.1 (bC a.2.1) (bC a.2.2))⟩
theorem h126:Holds Tryz.prog ahu:=by
 refine lj (L:=[aja]) ahu lk (by grind[h151]) ?_
 rintro⟨s,n,d⟩ ⟨⟨h,g⟩,⟨a,c⟩,f⟩
 simp only at h g a c f
 refine gw (let b:=cJ (zq s (bC n) (bC d));let e:=SV.agg [SV.sb b.fst,SV.row (bD.i .u32) b.snd.fst,SV.row (bD.i .u32) b.snd.snd];((df n/\df d)/\(n.length<=1000000000/\d.length<=1000000000)/\(0:Int)<bC d)/\e.same e) (by kernel_rfl) ?_
 simp_all[vcs]
def r94:fN:=⟨34,Int,.one (sj .i64),fun n=> -9223372036854775808<=(show Int from n)/\(show Int from n)<=9223372036854775807,fun n=>frS ((show Int from n):Rat)⟩
theorem h94:Holds Tryz.prog r94:=by
 refine lj (L:=[alP,ahq,ahu]) r94 lk (by grind[h127,h128,h126]) ?_
 intro(n:Int) h
 obtain⟨o,p⟩: -9223372036854775808<=n/\n<=9223372036854775807:=h
 refine gw (let e:=SV.row;let g:=(1:Int);let h:=(0:Int);let c:=ki (↑n.natAbs:Int);let b:=ki g;let f:=cJ (zq (decide (n<h)) (bC c) (bC b));let a:=bD.i .u32;let d:=cJ (IntCast.intCast n);((-9223372036854775808:Int)<=n/\n<=(9223372036854775807:Int))/\(h<=g/\g<(18446744073709551616:Int))/\((df c/\df b)/\(c.length<=1000000000/\b.length<=1000000000)/\h<bC b)/\(SV.agg [SV.sb f.fst,e a f.snd.fst,e a f.snd.snd]).same (SV.agg [SV.sb d.fst,e a d.snd.fst,e a d.snd.snd])) (by kernel_rfl) ?_
 conv=>zeta
 obtain⟨j,g,t⟩:=AO (show(0:Int)<=(n.natAbs:Int) by omega)
 obtain⟨l,m,s⟩:=AO (show(0:Int)<=1 by omega)
 have u:=aam (k:=2) (show(0:Int)<=(n.natAbs:Int) by omega) (by omega)
 have q:=aam (k:=1) (show(0:Int)<=1 by omega) (by decide)
 refine⟨⟨o,p⟩,⟨by omega,by omega⟩,⟨⟨g,m⟩,⟨by omega,by omega⟩,by omega⟩,?_⟩
 have e:zq (decide (n<0)) (bC (ki (n.natAbs:Int))) (bC (ki 1))=IntCast.intCast n:=by
  rw[j,l];unfold zq
  have r:(if decide (n<0)=true then -(n.natAbs:Int) else(n.natAbs:Int))=n:=by
   grind
  grind[Rat.mkRat_one]
 rw[e];rfl
def SH (q:Rat):Int:=if q<0 then -1 else if 0<q then 1 else 0
def r99:fN:=⟨126,fO,.one (yl sF),lH,fun x=> .si .i64 (SH (ja x))⟩
theorem h99:Holds Tryz.prog r99:=by
 refine lj (L:=[]) r99 lk (by simp) ?_
 intro(x:fO) h
 obtain⟨q,k,rfl,m,f⟩:lH x:=h
 refine gw (let c:=SV.il .i64;let b:=decide ((↑(List.length (cJ q).snd.fst):Int)=(0:Int));let a:=SV.si .i64 (SH (ja (cJ q)));(b=true->(c 0).same a)/\(b=false->((cJ q).fst=true->(c (-1:Int)).same a)/\((cJ q).fst=false->(c 1).same a))) (by kernel_rfl) ?_
 simp only[vcs];rw[tc]
 have e:((cJ q).2.1.length:Int)=0↔q.num=0:=by
  unfold cJ
  simp only
  obtain⟨d,j,i⟩:=AO (show(0:Int)<=(q.num.natAbs:Int) by omega)
  constructor
  ·intro h
   rw[List.eq_nil_of_length_eq_zero (by omega:(ki (q.num.natAbs:Int)).length=0)] at d
   grind[bC]
  ·intro h
   rw[h];rfl
 have c:(cJ q).1=decide (q<0):=rfl
 have n:=@Rat.num_nonneg q
 have l:q<0↔q.num<0:=by
  grind
 have g:0<q↔0<q.num:=by
  grind[Rat.num_eq_zero]
 rw[e,c];simp only[decide_eq_true_eq,decide_eq_false_iff_not];unfold SH
 grind
def af0 (x:fO):Prop:=(df x.2.1/\df x.2.2)/\x.2.1.length<=100000000/\x.2.2.length<=100000000
def alQ:fN:=⟨68,fO×fO,.cons (yl sF) (.one (yl sF)),fun a=>af0 a.1/\af0 a.2,fun a=> .eW [.row (.i .u32) (ki (bC a.1.2.1*bC a.2.2.2)),.row (.i .u32) (ki (bC a.2.2.1*bC a.1.2.2))]⟩
theorem h131:Holds Tryz.prog alQ:=by
 refine lj (L:=[ahs]) alQ lk (by grind[h153]) ?_
 rintro⟨⟨s,n,d⟩,⟨o,b,a⟩⟩ ⟨⟨⟨e,j⟩,g,f⟩,⟨⟨k,h⟩,l,m⟩⟩
 simp only at e j g f k h l m
 refine gw (let c:=SV.eW [SV.row (bD.i .u32) (ki (bC n*bC a)),SV.row (bD.i .u32) (ki (bC b*bC d))];((df n/\df a)/\n.length<=100000000000/\a.length<=100000000000)/\((df b/\df d)/\b.length<=100000000000/\d.length<=100000000000)/\c.same c) (by kernel_rfl) ?_
 simp only[vcs]
 grind
theorem alR {p q:Rat} (h:p=q):(SV.agg [.sb (cJ p).1,.row (.i .u32) (cJ p).2.1,.row (.i .u32) (cJ p).2.2]).same (.agg [.sb (cJ q).1,.row (.i .u32) (cJ q).2.1,.row (.i .u32) (cJ q).2.2]):=by subst h;rfl
theorem af2 (q:Rat):q.num=if decide (q<0) then -(q.num.natAbs:Int) else(q.num.natAbs:Int):=by
 have a:=@Rat.num_nonneg q
 grind
theorem aaU (q:Rat):(cJ q).1=decide (q<0)/\(df (cJ q).2.1/\zp (cJ q).2.1/\bC (cJ q).2.1=(q.num.natAbs:Int))/\(df (cJ q).2.2/\zp (cJ q).2.2/\bC (cJ q).2.2=(q.den:Int)):=by
 obtain⟨f,e,d⟩:=AO (show(0:Int)<=(q.num.natAbs:Int) by omega)
 obtain⟨b,c,a⟩:=AO (show(0:Int)<=(q.den:Int) by omega)
 exact⟨rfl,⟨e,d,f⟩,⟨c,a,b⟩⟩
theorem acW {q:Rat} {k:Nat} (h:Sz k q):(cJ q).2.1.length<=k/\(cJ q).2.2.length<=k:=
 ⟨aam (by omega) h.1,aam (by omega) h.2⟩
theorem aDF (q:Rat):zq (!decide (q<0)) (q.num.natAbs:Int) (q.den:Int)= -q:=by
 unfold zq
 have h:=af2 q
 have e:(if(!decide (q<0))=true then -(q.num.natAbs:Int) else(q.num.natAbs:Int))= -q.num:=by
  grind
 grind[Rat.mkRat_self,Rat.neg_mkRat]
def ahv:fN:=⟨129,fO,.one (yl sF),lH,fun x=>frS (-(ja x))⟩
theorem h130:Holds Tryz.prog ahv:=by
 refine lj (L:=[ahu]) ahv lk (by grind[h126]) ?_
 intro(x:fO) h
 obtain⟨q,k,rfl,f,g⟩:lH x:=h
 refine gw (let f:=SV.row;let c:=(cJ q).snd.fst;let a:=(cJ q).snd.snd;let d:=cJ (zq (!(cJ q).fst) (bC c) (bC a));let b:=bD.i .u32;let e:=(cJ (-ja (cJ q))).snd;((df c/\df a)/\(List.length c<=1000000000/\List.length a<=1000000000)/\(0:Int)<bC a)/\(SV.agg [SV.sb d.fst,f b d.snd.fst,f b d.snd.snd]).same (SV.agg [SV.sb (cJ (-ja (cJ q))).fst,f b e.fst,f b e.snd])) (by kernel_rfl) ?_
 conv=>zeta
 obtain⟨s,⟨r,p,u⟩,⟨o,l,n⟩⟩:=aaU q
 obtain⟨j,m⟩:=acW f
 have t:=q.den_pos
 grind[alR,tc,aDF]
theorem acX {a b:Int} {i j:Nat} (e:0<=a) (c:a<4294967296^i) (d:b<4294967296^j):a*b<4294967296^(i+j):=by
 rw[Int.pow_add]
 exact Int.lt_of_le_of_lt (Int.mul_le_mul_of_nonneg_left (Int.le_of_lt d) e) (Int.mul_lt_mul_of_pos_right c (pow_pos _))
theorem avF {p q:Rat} {i j:Nat} (c:Sz i p) (b:Sz j q):∃X Y D:Int,bC (cJ p).2.1*bC (cJ q).2.2=X/\bC (cJ q).2.1*bC (cJ p).2.2=Y/\bC (cJ p).2.2*bC (cJ q).2.2=D/\0<=X/\0<=Y/\0<D/\
  (ki X).length<=i+j/\(ki Y).length<=i+j/\(ki (X+Y)).length<=i+j+1/\(ki (X - Y)).length<=i+j/\(ki (Y - X)).length<=i+j/\(ki D).length<=i+j/\p.num*q.den=(if decide (p<0) then -X else X)/\q.num*p.den=(if decide (q<0) then -Y else Y)/\((p.den*q.den:Nat):Int)=D:=by
 obtain⟨_,⟨_,_,l⟩,⟨_,_,r⟩⟩:=aaU p
 obtain⟨_,⟨_,_,n⟩,⟨_,_,m⟩⟩:=aaU q
 rw[l,r,n,m]
 have s:=p.den_pos
 have t:=q.den_pos
 have k:=acX (a:=(p.num.natAbs:Int)) (by omega) c.1 b.2
 have d:=acX (a:=(q.num.natAbs:Int)) (by omega) b.1 c.2
 rw[Nat.add_comm j i] at d
 have o:=acX (a:=(p.den:Int)) (by omega) c.2 b.2
 have f:0<=(p.num.natAbs:Int)*q.den:=Int.mul_nonneg (by omega) (by omega)
 have e:0<=(q.num.natAbs:Int)*p.den:=Int.mul_nonneg (by omega) (by omega)
 have g:0<(p.den:Int)*q.den:=Int.mul_pos (by omega) (by omega)
 have v:=af2 p
 have u:=af2 q
 refine⟨_,_,_,rfl,rfl,rfl,f,e,g,aam f k,aam e d,aam (by omega) ?_,?_,?_,aam (by omega) o,?_,?_,by push_cast;rfl⟩
 ·omega
 ·by_cases h:(p.num.natAbs:Int)*q.den - (q.num.natAbs:Int)*p.den<=0
  ·grind[apd]
  ·exact aam (by omega) (by omega)
 ·by_cases h:(q.num.natAbs:Int)*p.den - (p.num.natAbs:Int)*q.den<=0
  ·grind[apd]
  ·exact aam (by omega) (by omega)
 all_goals grind
theorem aDG {p q:Rat} {s:Bool} {n D:Int} (a:((p.den*q.den:Nat):Int)=D) (h:p.num*q.den+q.num*p.den=if s then -n else n):zq s n D=p+q:=by
 rw[avD]
 grind[zq]
theorem alS {p:Rat} {k:Nat} (h:Sz k p) (c:k<=100000000):af0 (cJ p):=by
 obtain⟨_,⟨a,_,_⟩,⟨b,_,_⟩⟩:=aaU p
 have:=acW h
 exact⟨⟨a,b⟩,by omega,by omega⟩
def Kp (p q:Rat):Int:=if p<q then -1 else if q<p then 1 else 0
def r97:fN:=⟨37,fO×fO,.cons (yl sF) (.one (yl sF)),fun a=>lH a.1/\lH a.2,fun a=> .si .i64 (Kp (ja a.1) (ja a.2))⟩
theorem h97:Holds Tryz.prog r97:=by
 refine lj (L:=[alQ,ahp]) r97 lk (by grind[h131,h132]) ?_
 rintro⟨x,y⟩ ⟨⟨p,i,t,w,S⟩,⟨q,j,r,o,T⟩⟩
 simp only at t r
 subst t r
 refine gw (let a:=(cJ p).fst;let g:=SV.si .i64 (Kp (ja (cJ p)) (ja (cJ q)));let s:=fun(u:Bool) (c b:Rat) ↦let k:=ki (bC (cJ c).snd.fst*bC (cJ b).snd.snd);let l:=ki (bC (cJ b).snd.fst*bC (cJ c).snd.snd);a=u->((df k/\df l)/\k.length<=1000000000000/\l.length<=1000000000000)/\(SV.si .i64 (YC (bC k) (bC l))).same g;((!a==(cJ q).fst)=true->(a=true->(SV.il .i64 (-1:Int)).same g)/\(a=false->(SV.il .i64 1).same g))/\((!a==(cJ q).fst)=false->(af0 (a,(cJ p).snd.fst,(cJ p).snd.snd)/\af0 ((cJ q).fst,(cJ q).snd.fst,(cJ q).snd.snd))/\s true q p/\s false p q)) (by kernel_rfl) ?_
 conv=>zeta
 obtain⟨C,_,_⟩:=aaU p
 obtain⟨P,_,_⟩:=aaU q
 obtain⟨X,Y,D,E,M,hD,G,N,U,l1,l2,l3,l4,Z,V,B,A,W⟩:=avF w o
 obtain⟨J,v,c3⟩:=AO G
 obtain⟨K,n,c6⟩:=AO N
 simp only[tc,E,M,J,K,C,P];simp only[vcs]
 have hl:p<q↔p.num*q.den<q.num*p.den:=Rat.lt_iff p q
 have R:q<p↔q.num*p.den<p.num*q.den:=Rat.lt_iff q p
 have O:=@Rat.num_nonneg p
 have H:=@Rat.num_nonneg q
 have m:∀{z:Int},(z=if p.num*q.den<q.num*p.den then -1 else if q.num*p.den<p.num*q.den then 1 else 0)->z=Kp p q:=fun h=>by
  grind[Kp]
 have Q:p<0->0<X:=fun h=>by
  rw[if_pos (by simpa using h)] at B
  have f:p.num<0:=by grind
  have:=Int.mul_neg_of_neg_of_pos f (show(0:Int)<q.den by grind)
  omega
 have F:q<0->0<Y:=fun h=>by
  rw[if_pos (by simpa using h)] at A
  have f:q.num<0:=by grind
  have:=Int.mul_neg_of_neg_of_pos f (show(0:Int)<p.den by grind)
  omega
 rw[B,A] at m
 refine⟨fun I=>⟨fun d=>?_,fun d=>?_⟩,fun he=>⟨⟨alS w S,alS o T⟩,fun d=>⟨⟨⟨n,v⟩,by omega,by omega⟩,?_⟩,fun d=>⟨⟨⟨v,n⟩,by omega,by omega⟩,?_⟩⟩⟩
 ·grind
 ·grind
 ·apply m
  have e:q<0:=by
   grind
  simp only[decide_eq_true_eq,d,e,if_true,if_false];simp only[Int.neg_lt_neg_iff];rfl
 ·apply m
  have e:¬q<0:=fun e=>by grind
  simp only[decide_eq_true_eq,d,e,if_true,if_false];rfl
def ajb:fN:=⟨66,fO×fO,.cons (yl sF) (.one (yl sF)),fun a=>lH a.1/\lH a.2,fun a=>frS (ja a.1+ja a.2)⟩
theorem h129:Holds Tryz.prog ajb:=by
 refine lj (L:=[alQ,ahs,ai2,ape,ahu]) ajb lk (by grind[h131,h153,h154,h155,h126]) ?_
 rintro⟨x,y⟩ ⟨⟨p,i,J,w,S⟩,⟨q,j,E,B,hj⟩⟩
 simp only at J E
 subst J E
 refine gw (let h:=SV.row;let j:=SV.agg;let m:=(cJ q).snd.snd;let f:=ki (bC (cJ p).snd.fst*bC m);let t:=(cJ p).snd.snd;let k:=ki (bC (cJ q).snd.fst*bC t);let a:=ki (bC t*bC m);let g:=bD.i .u32;let z:=cJ (ja (cJ p)+ja (cJ q));let o:=j [SV.sb z.fst,h g z.snd.fst,h g z.snd.snd];let v:=(cJ p).fst==(cJ q).fst;let c:=ki (bC f+bC k);let d:=cJ (zq (cJ p).fst (bC c) (bC a));let I:=(df f/\df k)/\f.length<=100000000000/\k.length<=100000000000;let K:=fun(u r:Rat) ↦let e:=ki (bC (ki (bC (cJ u).snd.fst*bC (cJ r).snd.snd)) - bC (ki (bC (cJ r).snd.fst*bC (cJ u).snd.snd)));let b:=cJ (zq (cJ u).fst (bC e) (bC a));((df e/\df a)/\(e.length<=1000000000/\a.length<=1000000000)/\(0:Int)<bC a)/\(j [SV.sb b.fst,h g b.snd.fst,h g b.snd.snd]).same o;let F:=fun(u:Bool) ↦decide (bC k<=bC f)=u;(af0 ((cJ p).fst,(cJ p).snd.fst,t)/\af0 ((cJ q).fst,(cJ q).snd.fst,m))/\((df t/\df m)/\List.length t<=100000000000/\List.length m<=100000000000)/\(v=true->I/\((df c/\df a)/\(c.length<=1000000000/\a.length<=1000000000)/\(0:Int)<bC a)/\(j [SV.sb d.fst,h g d.snd.fst,h g d.snd.snd]).same o)/\(v=false->I/\(F true->K p q)/\(F false->((df k/\df f)/\k.length<=100000000000/\f.length<=100000000000)/\K q p))) (by kernel_rfl) ?_
 conv=>zeta
 obtain⟨O,⟨u1,_,_⟩,⟨u2,_,_⟩⟩:=aaU p
 obtain⟨W,⟨u3,_,_⟩,⟨P,_,_⟩⟩:=aaU q
 obtain⟨m1,m2⟩:=acW w
 obtain⟨m3,m4⟩:=acW B
 obtain⟨X,Y,D,T,Q,hD,U,R,C,l1,l2,l3,l4,l5,l6,n1,n2,n3⟩:=avF w B
 obtain⟨N,H,c3⟩:=AO U
 obtain⟨c4,G,c6⟩:=AO R
 obtain⟨c7,V,c9⟩:=AO (Int.le_of_lt C)
 obtain⟨s1,M,s3⟩:=AO (show 0<=X+Y by omega)
 simp only[tc,T,Q,hD,N,c4,c7,s1,O,W];simp only[vcs]
 have l:∀{s:Bool} {n:Int},(p.num*q.den+q.num*p.den=if s then -n else n)->(SV.agg [.sb (cJ (zq s n D)).1,.row (.i .u32) (cJ (zq s n D)).2.1,.row (.i .u32) (cJ (zq s n D)).2.2]).same (.agg [.sb (cJ (p+q)).1,.row (.i .u32) (cJ (p+q)).2.1,.row (.i .u32) (cJ (p+q)).2.2]):=
  fun h=>alR (aDG n3 h)
 rw[n1,n2] at l
 refine⟨⟨alS w S,alS B hj⟩,⟨⟨u2,P⟩,by omega,by omega⟩,fun Z=>⟨⟨⟨H,G⟩,by omega,by omega⟩,⟨⟨M,V⟩,⟨by omega,by omega⟩,C⟩,l ?_⟩,fun Z=>⟨⟨⟨H,G⟩,by omega,by omega⟩,fun A=>?_,fun A=>?_⟩⟩
 all_goals grind[AO]
def r95:fN:=⟨128,fO×fO,.cons (yl sF) (.one (yl sF)),fun a=>lH a.1/\lH a.2,fun a=>frS (ja a.1 - ja a.2)⟩
theorem h95:Holds Tryz.prog r95:=by
 refine lj (L:=[ahv,ajb]) r95 lk (by grind[h130,h129]) ?_
 rintro⟨x,y⟩ ⟨⟨p,i,k,m,n⟩,⟨q,j,g,l,o⟩⟩
 simp only at k g
 subst k g
 refine gw (let g:=SV.row;let b:=((cJ q).fst,(cJ q).snd.fst,(cJ q).snd.snd);let e:=((cJ p).fst,(cJ p).snd.fst,(cJ p).snd.snd);let h:=(cJ (-ja b)).snd;let f:=((cJ (-ja b)).fst,h.fst,h.snd);let d:=cJ (ja e+ja f);let a:=bD.i .u32;let c:=cJ (ja (cJ p) - ja (cJ q));lH b/\(lH e/\lH f)/\(SV.agg [SV.sb d.fst,g a d.snd.fst,g a d.snd.snd]).same (SV.agg [SV.sb c.fst,g a c.snd.fst,g a c.snd.snd])) (by kernel_rfl) ?_
 grind[lH,alO,alR,tc]
theorem aDH {l:List Int} (h:l.length=0\/bo l (l.length - 1) 0≠0):zp l:=by
 rcases h with h|h
 ·rw[List.eq_nil_of_length_eq_zero h];trivial
 ·by_cases b:l.length=0
  ·rw[List.eq_nil_of_length_eq_zero b];trivial
  ·have c:=alC (a:=l) (n:=l.length - 1) (by omega)
   grind[ao2]
def aeg (a:List Int):Bool:=decide (a.length=0)||decide (bo a (a.length - 1) 0≠0)
theorem ae4 {a:List Int}:aeg a=true↔zp a:=by
 unfold aeg;rw[Bool.or_eq_true,decide_eq_true_eq,decide_eq_true_eq]
 constructor
 ·exact aDH
 ·intro h
  by_cases e:a.length=0
  ·exact .inl e
  ·right
   have b:=alC (a:=a) (n:=a.length - 1) (by omega)
   rw[show a.length - 1+1=a.length by omega,List.take_length] at b
   have:∀{l:List Int} {x:Int},zp (l++[x])->x≠0:=by
    intro l x
    induction l with
    |nil=>intro h;exact h.1 rfl
    |cons d l c=>intro h;exact c h.2
   grind
theorem szI {W:Int} (a: -9223372036854775808<=W) (b:W<=9223372036854775807):Sz 2 (W:Rat):=by
 unfold Sz
 simp
 omega
theorem apr {a:List Int} (h:df a) (c:zp a) (b:a≠[]):0<bC a:=by
 have:=uD h
 grind[val_zero]
def okF (x:fO):Bool:=decide (cJ (ja x)=x)
theorem avH {n d:Int} (h:0<d):0<sr n d:=by
 simp_all[sr]
theorem aDI {s:Bool} {n d:List Int} (h:okF (s,(n,d))=true):zp n/\zp d/\d≠[]:=by
 have h:=of_decide_eq_true h
 have b:=AO (show(0:Int)<=((ja (s,(n,d))).num.natAbs:Int) by omega)
 have a:=AO (show(0:Int)<=((ja (s,(n,d))).den:Int) by omega)
 have e:ki ((ja (s,(n,d))).num.natAbs:Int)=n:=congrArg (fun x=>x.2.1) h
 have c:ki ((ja (s,(n,d))).den:Int)=d:=congrArg (fun x=>x.2.2) h
 rw[e] at b;rw[c] at a
 refine⟨b.2.2,a.2.2,fun f=>?_⟩
 have g:=a.1
 rw[f] at g
 have:=(ja (s,(n,d))).den_pos
 grind[bC]
theorem okF_eq {s:Bool} {n d:List Int} (e:df n) (m:df d) (l:zp n) (p:zp d) (b:d≠[]):
  okF (s,(n,d))=if n=[] then !s&&decide (d=[1]) else decide (sr (bC n) (bC d)=1):=by
 have c:=apr m p b
 have r:=uD e
 have j:ja (s,(n,d))=mkRat (if s then -bC n else bC n) (bC d).toNat:=rfl
 have o:=@avC s (bC n) (bC d) r c
 have u:=@avH (bC n) (bC d) c
 unfold okF;rw[j,o]
 by_cases a:n=[]
 ·rw[if_pos a,a]
  have i:sr (bC []) (bC d)=bC d:=by unfold sr;simp[bC];omega
  have k:ki (bC d / sr (bC []) (bC d))=[1]:=by rw[i,Int.ediv_self (by omega)];rfl
  have f:ki (bC [] / sr (bC []) (bC d))=[]:=by
   have:bC []=0:=rfl
   rw[this,Int.zero_ediv];rfl
  rw[k,f]
  have v:decide (0<bC [])=false:=rfl
  grind
 ·rw[if_neg a]
  have q:=apr e l a
  rw[decide_eq_true (show 0<bC n from q),Bool.and_true];rw[Bool.eq_iff_iff,decide_eq_true_eq,decide_eq_true_eq]
  constructor
  ·intro h
   injection h with h1 h2;injection h2 with h2 h3
   have g:=(AO (show 0<=bC d / sr (bC n) (bC d) from Int.ediv_nonneg (by omega) (by omega))).1
   rw[h3] at g
   by_cases t:sr (bC n) (bC d)=1
   ·exact t
   ·have:=Int.ediv_lt_self_of_pos_of_ne_one c (by omega:sr (bC n) (bC d)≠1)
    omega
  grind[ai1]
theorem af4 {p q:Rat}:Kp p q<0↔p<q:=by
 unfold Kp
 grind
def A4 (D:Int->Int) (x y:Int):Bool:=decide (D y<D x)||(decide (D x=D y)&&decide (x<=y))
theorem abO {D:Int->Int} {x y:Int}:A4 D x y=true↔D y<D x\/(D x=D y/\x<=y):=by grind[A4]
theorem avI {D:Int->Int} (a b c:Int) (d:A4 D a b=true) (e:A4 D b c=true):A4 D a c=true:=by
 grind[abO]
theorem aDJ {D:Int->Int} (a b:Int):(A4 D a b||A4 D b a)=true:=by
 grind[abO]
theorem aDK {D:Int->Int} {a b:Int} (c:A4 D a b=true) (d:A4 D b a=true):a=b:=by
 grind[abO]
abbrev Hl (D:Int->Int) (l:List Int):Prop:=l.Pairwise fun a b=>A4 D a b=true
def mg (D:Int->Int) (l:List Int):List Int:=l.mergeSort (A4 D)
theorem adA {D:Int->Int} {l:List Int}:(mg D l).Perm l:=List.mergeSort_perm _ _
theorem af5 {D:Int->Int} {l:List Int}:Hl D (mg D l):=List.pairwise_mergeSort avI aDJ l
theorem abp {D:Int->Int} {l:List Int}:(mg D l).length=l.length:=adA.length_eq
theorem ahx {D:Int->Int} {l:List Int} {x:Int}:x∈mg D l↔x∈l:=adA.mem_iff
theorem ajc {D:Int->Int} {l m:List Int} (e:m.Perm l) (f:Hl D m):m=mg D l:=
 List.Perm.eq_of_pairwise (fun a b _ _ c d=>aDK c d) f af5 (e.trans adA.symm)
theorem aps {D:Int->Int} {l:List Int} (h:Hl D l):mg D l=l:=(ajc (List.Perm.refl _) h).symm
def seg (l:List Int) (a b:Nat):List Int:=(l.drop a).take (b - a)
def np (D:Int->Int) (l:List Int) (a b:Nat):List Int:=l.take a++mg D (seg l a b)++l.drop b
theorem SI {l:List Int} {a b:Nat} (c:a<=b) (d:b<=l.length):(seg l a b).length=b - a:=by
 grind[seg]
theorem apt {l:List Int} {a b:Nat} (c:a<=b) (d:b<l.length):seg l a (b+1)=seg l a b++[bo l b 0]:=by
 unfold seg
 rw[show b+1 - a=(b - a)+1 by omega,List.take_succ_eq_append_getElem (by grind),List.getElem_drop]
 grind[jV]
theorem ajd {l:List Int} {a:Nat}:seg l a a=[]:=by grind[seg]
theorem ahy {D:Int->Int} {l:List Int} {a b:Nat} (c:a<=b) (d:b<=l.length):(np D l a b).length=l.length:=by
 grind[np,abp,SI]
theorem alU {l:List Int} {i:Nat} (h:i<l.length):l.drop i=bo l i 0::l.drop (i+1):=by
 simp_all[jV]
theorem avJ {D:Int->Int} {l:List Int} {a:Nat}:np D l a a=l:=by
 simp_all[np,ajd,mg]
theorem aDL {D:Int->Int} {l:List Int} {a:Nat} (h:a<l.length):np D l a (a+1)=l:=by
 have e:seg l a (a+1)=[bo l a 0]:=by grind[apt,ajd]
 unfold np
 rw[e,aps (by simp),List.append_assoc]
 simp only[List.singleton_append];rw[<-alU h,List.take_append_drop]
def KB (D:Int->Int) (l:List Int) (a i j:Nat):List Int:=l.take a++((mg D (seg l a i)).take (j - a)++bo l i 0::(mg D (seg l a i)).drop (j - a))++l.drop (i+1)
theorem avK {D:Int->Int} {l:List Int} {a i j:Nat} (b:a<=i) (c:i<l.length):(KB D l a i j).length=l.length:=by
 grind[abp,SI,KB]
theorem avL {D:Int->Int} {l:List Int} {a i:Nat} (b:a<=i) (c:i<l.length):KB D l a i i=np D l a i:=by
 grind[abp,SI,KB,np,alU]
theorem aDM {A B:List Int} {y x:Int}:((A++y::x::B).set (A.length+1) y).set A.length x=A++x::y::B:=by
 simp_all
theorem avM {A B:List Int} {y:Int}:bo (A++y::B) A.length 0=y:=by grind[bo]
theorem avN {A B:List Int} {y x:Int}:bo (A++y::x::B) (A.length+1) 0=x:=by grind[bo]
theorem aDN {D:Int->Int} {l:List Int} {a i k:Nat} (c:a+k+1<=i) (d:i<l.length):
  KB D l a i (a+k+1)=(l.take a++(mg D (seg l a i)).take k)++bo (mg D (seg l a i)) k 0::bo l i 0::((mg D (seg l a i)).drop (k+1)++l.drop (i+1))/\
  KB D l a i (a+k)=(l.take a++(mg D (seg l a i)).take k)++bo l i 0::bo (mg D (seg l a i)) k 0::((mg D (seg l a i)).drop (k+1)++l.drop (i+1))/\
  (l.take a++(mg D (seg l a i)).take k).length=a+k:=by
 have b:=@abp D (seg l a i)
 rw[SI (by omega) (by omega)] at b
 have e:k<(mg D (seg l a i)).length:=by omega
 have g:(mg D (seg l a i)).take (k+1)=(mg D (seg l a i)).take k++[bo (mg D (seg l a i)) k 0]:=by simp_all[jV]
 have f:(mg D (seg l a i)).drop k=bo (mg D (seg l a i)) k 0::(mg D (seg l a i)).drop (k+1):=by simp_all[jV]
 grind[KB]
theorem avO {D:Int->Int} {l:List Int} {a i j:Nat} (g:a<j) (f:j<=i) (d:i<l.length):
  bo (KB D l a i j) j 0=bo l i 0/\bo (KB D l a i j) (j - 1) 0=bo (mg D (seg l a i)) (j - 1 - a) 0/\
  ((KB D l a i j).set j (bo (mg D (seg l a i)) (j - 1 - a) 0)).set (j - 1) (bo l i 0)=KB D l a i (j - 1):=by
 obtain⟨b,c,e⟩:=@aDN D l a i (j - 1 - a) (by omega) d
 rw[show a+(j - 1 - a)+1=j by omega] at b
 rw[show a+(j - 1 - a)=j - 1 by omega] at c e
 rw[b,c]
 generalize l.take a++(mg D (seg l a i)).take (j - 1 - a)=A at*
 generalize bo (mg D (seg l a i)) (j - 1 - a) 0=y at*
 generalize bo l i 0=x at*
 grind[avN,avM,aDM]
theorem avP {D:Int->Int} {S:List Int} {x:Int} {k:Nat} (n:Hl D S) (d:∀s∈S.drop k,A4 D x s=true) (b:k=0\/(k<=S.length/\A4 D (bo S (k - 1) 0) x=true)):Hl D (S.take k++x::S.drop k):=by
 have a:Hl D (S.take k++S.drop k):=by simp_all
 obtain⟨g,f,i⟩:=List.pairwise_append.1 a
 have j:∀s∈S.take k,A4 D s x=true:=by
  rcases b with rfl|⟨h,b⟩
  ·simp
  ·intro s l
   by_cases m:k=0
   ·simp_all
   have c:k - 1<S.length:=by omega
   have e:S.take k=S.take (k - 1)++[bo S (k - 1) 0]:=by
    conv=>lhs;rw[show k=(k - 1)+1 by omega]
    simp_all[jV]
   grind[avI]
 rw[Hl,List.pairwise_append]
 simp_all
theorem aDO {S:List Int} {x:Int} {k:Nat}:(S.take k++x::S.drop k).Perm (S++[x]):=by
 refine(List.perm_middle).trans ?_
 rw[List.take_append_drop]
 grind
theorem avQ {D:Int->Int} {l:List Int} {a i j:Nat} (k:a<=j) (f:j<=i) (e:i<l.length) (b:∀s∈(mg D (seg l a i)).drop (j - a),A4 D (bo l i 0) s=true) (g:j=a\/A4 D (bo (mg D (seg l a i)) (j - 1 - a) 0) (bo l i 0)=true):
  KB D l a i j=np D l a (i+1):=by
 have c:=@abp D (seg l a i)
 rw[SI (by omega) (by omega)] at c
 have d:Hl D ((mg D (seg l a i)).take (j - a)++bo l i 0::(mg D (seg l a i)).drop (j - a)):=by
  refine avP af5 b ?_
  grind
 have h:((mg D (seg l a i)).take (j - a)++bo l i 0::(mg D (seg l a i)).drop (j - a)).Perm (seg l a (i+1)):=by
  rw[apt (by omega) e]
  exact aDO.trans (List.Perm.append adA (List.Perm.refl _))
 grind[KB,np,ajc]
def KC (l:List Int) (a b n:Nat):List Int:=(List.range l.length).map fun k=>if a<=k/\k<a+n then bo l (k - a+b) 0 else if b<=k/\k<b+n then bo l (k - b+a) 0 else bo l k 0
theorem ae5 {l:List Int} {a b n:Nat}:(KC l a b n).length=l.length:=by simp[KC]
theorem ahz {l:List Int} {a b n k:Nat} (h:k<l.length):bo (KC l a b n) k 0=if a<=k/\k<a+n then bo l (k - a+b) 0 else if b<=k/\k<b+n then bo l (k - b+a) 0 else bo l k 0:=by
 show(((List.range l.length).map _)[k]?).getD 0=_
 simp_all
theorem aDP {l:List Int} {a b:Nat}:KC l a b 0=l:=by
 apply List.ext_getElem ae5
 intro k d c
 have:=@ahz l a b 0 k c
 simp_all[jV,if_neg]
theorem avR {l m:List Int} (a:l.length=m.length) (h:∀k,k<l.length->bo l k 0=bo m k 0):l=m:=
 List.ext_getElem a fun k b c=>by
  grind[jV]
theorem avS {l:List Int} {i k:Nat} {v:Int} (h:k<l.length):bo (l.set i v) k 0=if i=k then v else bo l k 0:=by
 grind[bo]
theorem aDQ {l:List Int} {a b n:Nat} (g:a+n<b) (f:b+n<l.length):
  ((KC l a b n).set (a+n) (bo (KC l a b n) (b+n) 0)).set (b+n) (bo (KC l a b n) (a+n) 0)=KC l a b (n+1):=by
 have e:bo (KC l a b n) (a+n) 0=bo l (a+n) 0:=by rw[ahz (by omega),if_neg (by omega),if_neg (by omega)]
 have d:bo (KC l a b n) (b+n) 0=bo l (b+n) 0:=by rw[ahz (by omega),if_neg (by omega),if_neg (by omega)]
 rw[e,d]
 refine avR (by simp[ae5]) fun k c=>?_
 simp only[List.length_set,ae5] at c
 rw[avS (by grind[ae5]),avS (by grind[ae5]),ahz c,ahz c]
 grind
theorem aDR {A B:List Int} {k:Nat}:bo (A++B) k 0=if k<A.length then bo A k 0 else bo B (k - A.length) 0:=by
 grind[bo]
theorem apu {A X M Y B:List Int} (h:X.length=Y.length):KC (A++(X++(M++(Y++B)))) A.length (A.length+X.length+M.length) X.length=A++(Y++(M++(X++B))):=by
 refine avR (by simp[ae5];omega) fun k a=>?_
 rw[ae5] at a;rw[ahz a];simp only[aDR]
 grind
def rotR (l:List Int) (a m b:Nat):List Int:=l.take a++(seg l m b++(seg l a m++l.drop b))
theorem avT {l:List Int} {a m b:Nat} (g:a<=m) (f:m<=b) (e:b<=l.length):l=l.take a++(seg l a m++(seg l m b++l.drop b)):=by
 have d:l.drop a=seg l a m++l.drop m:=by
  have:=List.take_append_drop (m - a) (l.drop a)
  rw[List.drop_drop,show a+(m - a)=m by omega] at this
  exact this.symm
 have c:l.drop m=seg l m b++l.drop b:=by
  have:=List.take_append_drop (b - m) (l.drop m)
  rw[List.drop_drop,show m+(b - m)=b by omega] at this
  exact this.symm
 rw[<-c,<-d,List.take_append_drop]
def apv:fN:=⟨158,Int,.one (sj .i64),fun _=>True,fun _=> .sb false⟩
theorem h334:Holds Tryz.prog apv:=by
 refine lj (L:=[]) apv lk (by simp) ?_
 rintro(x:Int) -
 refine gw ((SV.sb (decide (x≠x))).same (SV.sb false)) (by kernel_rfl) ?_
 simp_all
def ahA (x y:Int):Int:=if x<y then -1 else if y<x then 1 else 0
def apw:fN:=⟨122,Int×Int,.cons (sj .i64) (.one (sj .i64)),fun _=>True,fun a=> .si .i64 (ahA a.1 a.2)⟩
theorem h321:Holds Tryz.prog apw:=by
 refine lj (L:=[apv]) apw lk (by grind[h334]) ?_
 rintro⟨x,y⟩ -
 refine gw (let b:=SV.il .i64;let c:=SV.il .i64 0;let a:=SV.si .i64 (ahA x y);True/\True/\(false=true->(false=true->(b 0).same a)/\(false=false->(b (-1:Int)).same a))/\(false=false->(false=true->(b 1).same a)/\(false=false->(decide (x<y)=true->(b (-1:Int)).same a)/\(decide (x<y)=false->(decide (y<x)=true->(b 1).same a)/\(decide (y<x)=false->(b 0).same a))))) (by kernel_rfl) ?_
 simp_all[ahA,if_neg]
def af6 (b:dp):Int:=b.a0+b.a1+b.a2+b.a3+b.a4+b.a5
def apx:fN:=⟨123,dp,.one (yl .uo),fun b=>b.ok=true,fun b=> .si .i64 (af6 b)⟩
theorem h322:Holds Tryz.prog apx:=by
 refine lj (L:=[]) apx (fun _ _=> .ado 7) (by simp) ?_
 rintro(b:dp) (h:b.ok=true)
 have h:=dp.Kz.1 h
 refine gw (let d:=iR .i64;let a:=(0:Int)+b.a0+b.a1;let c:=a+b.a2+b.a3+b.a4;d ((0:Int)+b.a0)/\d a/\d (a+b.a2)/\d (a+b.a2+b.a3)/\d c/\d (c+b.a5)/\(SV.si .i64 (c+b.a5)).same (SV.si .i64 (af6 b))) (by kernel_rfl) ?_
 simp only[vcs];unfold af6;omega
def oI (p:cn) (i:Int):Off:=bo p.offers i.toNat bD.off.dflt
def adB (p:cn) (i:Int):Int:=(oI p i).value
def acj (p:cn) (i:Int):Int:=af6 (oI p i).want
def fK (p:cn) (i:Int):Int:=adB p i*(5354228880 / acj p i)
def GG (p:cn) (i:Int):Prop:=0<=i/\i<p.offers.length
theorem aje {p:cn} (b:dV p=0) {i:Int} (h:GG p i):(1<=adB p i/\adB p i<=1000000)/\(1<=acj p i/\acj p i<=24)/\(oI p i).want.ok=true:=by
 obtain⟨j,k⟩:=h
 have c:=nA (d:=bD.off.dflt) (show i.toNat<p.offers.length by omega)
 have a:=(pz b).2.2.2.2 _ c
 have g:=(aiU ((aec b).2 _ c)).2.1
 have e:=dp.Kz.1 a.2.2.1
 have f:¬((oI p i).want.a0=0/\(oI p i).want.a1=0/\(oI p i).want.a2=0/\(oI p i).want.a3=0/\(oI p i).want.a4=0/\(oI p i).want.a5=0):=fun h=>g (alc.2 h)
 have e:(0<=(oI p i).want.a0/\(oI p i).want.a0<=4)/\(0<=(oI p i).want.a1/\(oI p i).want.a1<=4)/\(0<=(oI p i).want.a2/\(oI p i).want.a2<=4)/\(0<=(oI p i).want.a3/\(oI p i).want.a3<=4)/\(0<=(oI p i).want.a4/\(oI p i).want.a4<=4)/\(0<=(oI p i).want.a5/\(oI p i).want.a5<=4):=e
 refine⟨⟨a.2.2.2.1,a.2.2.2.2⟩,?_,a.2.2.1⟩
 unfold acj af6;omega
theorem avU {t:Int} (a:1<=t) (b:t<=24):t*(5354228880 / t)=5354228880/\1<=5354228880 / t:=by
 have:t=1\/t=2\/t=3\/t=4\/t=5\/t=6\/t=7\/t=8\/t=9\/t=10\/t=11\/t=12\/t=13\/t=14\/t=15\/t=16\/t=17\/t=18\/t=19\/t=20\/t=21\/t=22\/t=23\/t=24:=by omega
 rcases this with rfl|rfl|rfl|rfl|rfl|rfl|rfl|rfl|rfl|rfl|rfl|rfl|rfl|rfl|rfl|rfl|rfl|rfl|rfl|rfl|rfl|rfl|rfl|rfl<;>decide
theorem aDS {p:cn} (g:dV p=0) {x y:Int} (j:GG p x) (i:GG p y):fK p x<fK p y↔adB p x*acj p y<adB p y*acj p x:=by
 obtain⟨m,e,_⟩:=aje g j
 obtain⟨u,f,_⟩:=aje g i
 obtain⟨v,q⟩:=avU e.1 e.2
 obtain⟨o,r⟩:=avU f.1 f.2
 unfold fK
 generalize 5354228880 / acj p x=d at*
 generalize 5354228880 / acj p y=c at*
 generalize adB p x=a at*
 generalize adB p y=b at*
 generalize acj p x=s at*
 generalize acj p y=t at*
 have k:0<d*c:=Int.mul_pos (by omega) (by omega)
 have l:(a*t)*(d*c)=(a*d)*5354228880:=by grind
 have n:(b*s)*(d*c)=(b*c)*5354228880:=by grind
 constructor
 ·intro h
  have:(a*t)*(d*c)<(b*s)*(d*c):=by omega
  exact Int.lt_of_mul_lt_mul_right this (by omega)
 ·intro h
  have:(a*t)*(d*c)<(b*s)*(d*c):=Int.mul_lt_mul_of_pos_right h k
  omega
def aeh (p:cn) (x y:Int):Int:=ahA (adB p y*acj p x) (adB p x*acj p y)
theorem avV {p:cn} (a:dV p=0) {x y:Int} (c:GG p x) (b:GG p y):aeh p x y<0↔fK p y<fK p x:=by
 rw[aDS a b c]
 grind[aeh,ahA]
def alV:ob where
 f:=121
 α:=Int×Int×cn
 put a:=[.si .i64 a.1,.si .i64 a.2.1,.ptr 0 0 20]
 st a:=[.cells a.2.2.ss 27 20 false]
 dec v o:=match v,o with
  |[x,y,.ptr 0 0 20],[.cells e 27 20 false]=>match x.int .i64,y.int .i64,aeQ e with
   |some x,some y,some p=>some (x,y,p)
   |_,_,_=>none
  |_,_=>none
 ok v o a h:=by
  split at h
  ·split at h
   ·rename_i c d i
    simp only[Option.some.injEq] at h;subst h
    refine⟨by simp only[gL,EG c,EG d];rfl,?_⟩
    grind[gO,cC.g,ahc]
   ·cases h
  ·cases h
 inj a b c d:=by
  simp only[gL,List.cons.injEq,and_true,SV.g,AV.sc.injEq,Value.int.injEq,true_and] at c;simp only[gO,List.map_cons,List.map_nil,cC.g,List.cons.injEq,fZ.cells.injEq,and_true] at d
  grind[ql,SV.g]
 dom a:=dV a.2.2=0/\GG a.2.2 a.1/\GG a.2.2 a.2.1
 res a:=.si .i64 (aeh a.2.2 a.1 a.2.1)
 out a:=[.cells a.2.2.ss 27 20 false]
theorem h320:qH Tryz.prog alV:=by
 refine SD (L:=[apx,apw]) (W:=[]) alV lk (by simp) (by grind[h322,h321]) ?_
 rintro⟨x,y,p⟩ ⟨f,e,c⟩
 refine gw (let a:=bD.off.dflt;let d:=p.offers.length;let g:=bo p.offers x.toNat a;let h:=bo p.offers y.toNat a;let k:=h.value*af6 g.want;let l:=g.value*af6 h.want;let j:=cC.cells (cn.ss p) 27 20 false;(0:Int)<=x/\x<(↑d:Int)/\x.toNat<d/\(0:Int)<=y/\y<(↑d:Int)/\y.toNat<d/\g.want.ok=true/\iR .i64 k/\h.want.ok=true/\iR .i64 l/\True/\(SV.si .i64 (ahA k l)).same (SV.si .i64 (aeh p x y))/\j.same j/\True) (by kernel_rfl) ?_
 simp only[vcs]
 have f:dV p=0:=f
 have e:GG p x:=e
 have c:GG p y:=c
 obtain⟨s,w,q⟩:=aje f e
 obtain⟨m,A,z⟩:=aje f c
 obtain⟨o,n⟩:=e
 obtain⟨B,r⟩:=c
 have i:∀{v t:Int},1<=v/\v<=1000000->1<=t/\t<=24-> -9223372036854775808<=v*t/\v*t<=9223372036854775807:=fun {v t} C u=>by
  have a:=Int.mul_nonneg (show 0<=v by omega) (show 0<=t by omega)
  have b:=Int.mul_le_mul C.2 u.2 (by omega) (show(0:Int)<=1000000 by omega)
  omega
 exact⟨o,n,by omega,B,r,by omega,q,i m w,z,i s A,rfl⟩
end Go.Vi
