/-
  Contracts: rotation of two parts; the merge of two parts in place.
  Conditions: none.
-/
import Derived.Test.YtojbjnpkdlfijaaDI06
import Derived.Test.YtojbjnpkdlfijaaDI07
set_option maxRecDepth 100000
set_option maxHeartbeats 4000000
set_option linter.unusedSimpArgs false
set_option linter.unusedVariables false
namespace Go.Vi
open Go.Proofs.Ytojbjnpkdlfijaa.Ir
open Go.Proofs
def r351:OCtr:=sortCtr 70 3 (Int×Int×Int) to3 of3 (fun _=>rfl) of3_ok to3_inj (fun a=>a.1.1=a.1.2.1.length∧a.1.2.1.length≤1000∧0≤a.2.1∧a.2.1<a.2.2.1∧a.2.2.1<a.2.2.2∧a.2.2.2≤a.1.2.1.length) fun a=>rotR a.1.2.1 a.2.1.toNat a.2.2.1.toNat a.2.2.2.toNat
def Λ351 (n:Nat) (l:List Int) (p:Prob) (a m b:Int):Nat→LoopAnn
 |2=> .inv (Int×Int×List Int) (fun x=>⟨[(0,.ow 0 n 1),(2,.si .i64 m),(4,.fn (.func 25) [] [.ptr 1 0 20]),(10,.si .i64 x.1),(11,.si .i64 x.2.1)],[.row (.i .i64) x.2.2 3 true,.cells p.ss 27 20 false]⟩) (fun s=>(iS s 10,iS s 11,oS (.i .i64) s 0))
   (fun x=>(0<x.1∧0<x.2.1)∧∃A X Y B:List Int,x.2.2=A++(X++(Y++B))∧(A.length:Int)+x.1=m∧(X.length:Int)=x.1∧(Y.length:Int)=x.2.1∧A++(Y++(X++B))=rotR l a.toNat m.toNat b.toNat) (fun x=>(x.1+x.2.1).toNat) fun _ _=> .look
 |_=> .look
theorem h351:HoldsO Try.prog r351:=by
 refine conO (L:=[]) (W:=[r363]) r351 F351 (fun a=>Λ351 a.1.1 a.1.2.1 a.1.2.2 a.2.1 a.2.2.1 a.2.2.2) (by simpa using h363) (by simp) (by kernel_rfl) (fun _=>rfl) (by kernel_rfl) ?_
 rintro⟨⟨n,l,p⟩,a,m,b⟩ ⟨hn,hl,a0,h1,h2,h3⟩
 refine vcOf (let z0:=SV.ow 0 n 1;let z1:=SV.fn (Fn.func 25) [] [SV.ptr 1 0 20];let z2:=SV.si .i64 (m - a);let z3:=SV.si .i64 (b - m);let z4:=SId.i .i64;let z5:=SObj.row z4 l 3 true;let z6:=SObj.cells [SV.si .i64 p.supply.a0,SV.si .i64 p.supply.a1,SV.si .i64 p.supply.a2,SV.si .i64 p.supply.a3,SV.si .i64 p.supply.a4,SV.si .i64 p.supply.a5,SV.si .i64 p.opn.a0,SV.si .i64 p.opn.a1,SV.si .i64 p.opn.a2,SV.si .i64 p.opn.a3,SV.si .i64 p.opn.a4,SV.si .i64 p.opn.a5,SV.si .i64 p.cls.a0,SV.si .i64 p.cls.a1,SV.si .i64 p.cls.a2,SV.si .i64 p.cls.a3,SV.si .i64 p.cls.a4,SV.si .i64 p.cls.a5,SV.row z4 p.classes,SV.row SId.off p.offers] 27 20 false;let z7:=rotR l a.toNat m.toNat b.toNat;inR .i64 (m - a)∧inR .i64 (b - m)∧(((z0.same z0∧(SV.si .i64 m).same (SV.si .i64 m)∧z1.same z1∧z2.same z2∧z3.same z3∧True)∧z5.same z5∧z6.same z6∧True)∧((0:Int)<m - a∧(0:Int)<b - m)∧∃A X Y B,l=A++(X++(Y++B))∧(↑A.length:Int)+(m - a)=m∧(↑X.length:Int)=m - a∧(↑Y.length:Int)=b - m∧A++(Y++(X++B))=z7)∧∀(x:Int×Int×List Int),let z8:=decide (x.fst≠x.snd.fst);let z9:=decide (x.snd.fst<x.fst);let z10:=x.snd.snd.length;let z11:=m+x.snd.fst;let z12:=(↑z10:Int);let z13:=x.fst - x.snd.fst;let z14:=SV.si .i64 z13;let z15:=SV.si .i64 x.snd.fst;let z16:=(m - x.fst).toNat;let z17:=swR x.snd.snd z16 m.toNat x.snd.fst.toNat;let z18:=SObj.row z4 z17 3 true;let z19:=(x.fst+x.snd.fst).toNat;let z20:=z11 - x.fst;let z21:=x.snd.fst - x.fst;let z22:=SV.si .i64 x.fst;let z23:=SV.si .i64 z21;let z24:=swR x.snd.snd z16 z20.toNat x.fst.toNat;let z25:=SObj.row z4 z24 3 true;(((0:Int)<x.fst∧(0:Int)<x.snd.fst)∧∃A X Y B,x.snd.snd=A++(X++(Y++B))∧(↑A.length:Int)+x.fst=m∧(↑X.length:Int)=x.fst∧(↑Y.length:Int)=x.snd.fst∧A++(Y++(X++B))=z7)→(z8=true→(z9=true→inR .i64 (m - x.fst)∧(n=z10∧z10≤1000∧(0:Int)≤m - x.fst∧(0:Int)≤x.snd.fst∧m - x.fst+x.snd.fst≤m∧z11≤z12)∧inR .i64 z13∧((z0.same z0∧(SV.si .i64 m).same (SV.si .i64 m)∧z1.same z1∧z14.same z14∧z15.same z15∧True)∧z18.same z18∧z6.same z6∧True)∧(((0:Int)<z13∧(0:Int)<x.snd.fst)∧∃A X Y B,z17=A++(X++(Y++B))∧(↑A.length:Int)+z13=m∧(↑X.length:Int)=z13∧(↑Y.length:Int)=x.snd.fst∧A++(Y++(X++B))=z7)∧(z13+x.snd.fst).toNat<z19)∧(z9=false→inR .i64 (m - x.fst)∧inR .i64 z11∧inR .i64 z20∧(n=z10∧z10≤1000∧(0:Int)≤m - x.fst∧(0:Int)≤x.fst∧m - x.fst+x.fst≤z20∧z20+x.fst≤z12)∧inR .i64 z21∧((z0.same z0∧(SV.si .i64 m).same (SV.si .i64 m)∧z1.same z1∧z22.same z22∧z23.same z23∧True)∧z25.same z25∧z6.same z6∧True)∧(((0:Int)<x.fst∧(0:Int)<z21)∧∃A X Y B,z24=A++(X++(Y++B))∧(↑A.length:Int)+x.fst=m∧(↑X.length:Int)=x.fst∧(↑Y.length:Int)=z21∧A++(Y++(X++B))=z7)∧(x.fst+z21).toNat<z19))∧(z8=false→inR .i64 (m - x.fst)∧(n=z10∧z10≤1000∧(0:Int)≤m - x.fst∧(0:Int)≤x.fst∧m - x.fst+x.fst≤m∧m+x.fst≤z12)∧(SV.tup []).same (SV.tup [])∧(SObj.row z4 (swR x.snd.snd z16 m.toNat x.fst.toNat) 3 true).same (SObj.row z4 z7 3 true)∧z6.same z6∧True)) (by kernel_rfl) ?_
 simp only[vcs]
 have hn:n=l.length:=hn
 have hl:l.length≤1000:=hl
 have a0:0≤a:=a0
 have h1:a<m:=h1
 have h2:m<b:=h2
 have h3:b≤l.length:=h3
 have la:(l.take a.toNat).length=a.toNat:=by rw[List.length_take];omega
 have l1:=seg_len (l:=l) (a:=a.toNat) (b:=m.toNat) (by omega) (by omega)
 have l2:=seg_len (l:=l) (a:=m.toNat) (b:=b.toNat) (by omega) (by omega)
 refine⟨by omega,by omega,⟨⟨by omega,by omega⟩,l.take a.toNat,seg l a.toNat m.toNat,seg l m.toNat b.toNat,l.drop b.toNat,split4 (by omega) (by omega) (by omega),by omega,by omega,by omega,rfl⟩,?_⟩
 rintro⟨i,j,w⟩ ⟨⟨i0,j0⟩,A,X,Y,B,hw,hA,hX,hY,hf⟩
 simp only at i0 j0 hw hA hX hY ⊢
 have hfl:=congrArg List.length hf
 rw[rotR_len (by omega) (by omega) (by omega)] at hfl
 simp only[List.length_append] at hfl
 have hwl:w.length=l.length:=by rw[hw];simp only[List.length_append];omega
 rw[hwl]
 refine⟨fun hne=>⟨fun hgt=>?_,fun hle=>?_⟩,fun heq=>?_⟩
 ·have hs:=rot_gt (A:=A) (X:=X) (Y:=Y) (B:=B) (i:=i.toNat) (j:=j.toNat) (by omega) (by omega) (by omega) (m:=m.toNat) (by omega)
  rw[←hw,show m.toNat - i.toNat=(m - i).toNat by omega] at hs
  refine⟨by omega,⟨by omega,by omega,by omega,by omega,by omega,by omega⟩,by omega,⟨⟨by omega,by omega⟩,A++Y,X.drop j.toNat,X.take j.toNat,B,hs,?_,?_,?_,?_⟩,by omega⟩
  ·rw[List.length_append];omega
  ·rw[List.length_drop];omega
  ·rw[List.length_take];omega
  ·rw[←hf]
   rw[←List.append_assoc (X.take j.toNat),List.take_append_drop]
   simp
 ·have hs:=rot_lt (A:=A) (X:=X) (Y:=Y) (B:=B) (i:=i.toNat) (j:=j.toNat) (by omega) (by omega) (by omega) (m:=m.toNat) (by omega)
  rw[←hw,show m.toNat - i.toNat=(m - i).toNat by omega,show m.toNat+j.toNat - i.toNat=(m+j - i).toNat by omega] at hs
  refine⟨by omega,by omega,by omega,⟨by omega,by omega,by omega,by omega,by omega,by omega⟩,by omega,⟨⟨by omega,by omega⟩,A,Y.drop (j.toNat - i.toNat),Y.take (j.toNat - i.toNat),X++B,hs,by omega,?_,?_,?_⟩,by omega⟩
  ·rw[List.length_drop];omega
  ·rw[List.length_take];omega
  ·rw[←hf]
   rw[←List.append_assoc (Y.take (j.toNat - i.toNat)),List.take_append_drop]
 ·have hij:i=j:=by omega
  have hs:=rot_eq (A:=A) (X:=X) (Y:=Y) (B:=B) (i:=i.toNat) (by omega) (by omega) (m:=m.toNat) (by omega)
  rw[←hw,show m.toNat - i.toNat=(m - i).toNat by omega,hf] at hs
  exact⟨by omega,⟨by omega,by omega,by omega,by omega,by omega,by omega⟩,orow hs⟩
theorem drop_seg2 {l:List Int} {a b c:Nat}:(seg l a b).drop c=seg l (a+c) b:=by
 unfold seg
 rw[List.drop_take,List.drop_drop,show b - a - c=b - (a+c) by omega]
abbrev SyA:=Srg×Int×Int×Int
def symD (a:SyA):Prop:=offL a.1∧(0≤a.2.1∧a.2.1<a.2.2.1∧a.2.2.1<a.2.2.2∧a.2.2.2≤a.1.2.1.length)∧Srt (denI a.1.2.2) (seg a.1.2.1 a.2.1.toNat a.2.2.1.toNat)∧Srt (denI a.1.2.2) (seg a.1.2.1 a.2.2.1.toNat a.2.2.2.toNat)∧
 ∀x∈seg a.1.2.1 a.2.1.toNat a.2.2.1.toNat,∀y∈seg a.1.2.1 a.2.2.1.toNat a.2.2.2.toNat,x<y
def symC (k:Nat):OCtr:=sortCtr 60 3 (Int×Int×Int) to3 of3 (fun _=>rfl) of3_ok to3_inj (fun a=>symD a∧(a.2.2.2 - a.2.1).toNat<k) fun a=>srtP (denI a.1.2.2) a.1.2.1 a.2.1.toNat a.2.2.2.toNat
def W344 (k:Nat):List OCtr:=[symC k,r351,r320]
def st344 (l:List Int) (p:Prob):SStore:=[.row (.i .i64) l 3 true,.cells p.ss 27 20 false]
def Λ344 (n:Nat) (l:List Int) (p:Prob) (a m b:Int):Nat→LoopAnn
 |3=> .inv (Int×Int) (fun x=>⟨[(0,.ow 0 n 1),(1,.si .i64 a),(4,.fn (.func 25) [] [.ptr 1 0 20]),(10,.si .i64 x.1),(11,.si .i64 x.2)],st344 l p⟩) (fun s=>(iS s 10,iS s 11))
   (fun x=>(m≤x.1∧x.1≤x.2∧x.2≤b)∧(∀k:Nat,m≤k→(k:Int)<x.1→denI p (nthD l a.toNat 0)<denI p (nthD l k 0))∧∀k:Nat,x.2≤k→(k:Int)<b→¬denI p (nthD l a.toNat 0)<denI p (nthD l k 0)) (fun x=>(x.2 - x.1).toNat) fun _ _=> .look
 |9=> .inv (Int×Int×List Int) (fun x=>⟨[(0,.ow 0 n 1),(10,.si .i64 x.2.1),(13,.si .i64 x.1)],st344 x.2.2 p⟩) (fun s=>(iS s 13,iS s 10,oS (.i .i64) s 0))
   (fun x=>(a≤x.1∧x.1≤x.2.1 - 1∧m≤x.2.1∧x.2.1≤b)∧((∀k:Nat,m≤k→(k:Int)<x.2.1→denI p (nthD l a.toNat 0)<denI p (nthD l k 0))∧∀k:Nat,x.2.1≤k→(k:Int)<b→¬denI p (nthD l a.toNat 0)<denI p (nthD l k 0))∧x.2.2=mvP l a.toNat b.toNat (x.1 - a).toNat) (fun x=>(x.2.1 - x.1).toNat) fun _ _=> .look
 |15=> .inv (Int×Int) (fun x=>⟨[(0,.ow 0 n 1),(2,.si .i64 m),(4,.fn (.func 25) [] [.ptr 1 0 20]),(14,.si .i64 x.1),(15,.si .i64 x.2)],st344 l p⟩) (fun s=>(iS s 14,iS s 15))
   (fun x=>(a≤x.1∧x.1≤x.2∧x.2≤m)∧(∀k:Nat,a≤k→(k:Int)<x.1→¬denI p (nthD l k 0)<denI p (nthD l m.toNat 0))∧∀k:Nat,x.2≤k→(k:Int)<m→denI p (nthD l k 0)<denI p (nthD l m.toNat 0)) (fun x=>(x.2 - x.1).toNat) fun _ _=> .look
 |21=> .inv (Int×Int×List Int) (fun x=>⟨[(0,.ow 0 n 1),(14,.si .i64 x.2.1),(17,.si .i64 x.1)],st344 x.2.2 p⟩) (fun s=>(iS s 17,iS s 14,oS (.i .i64) s 0))
   (fun x=>(x.2.1≤x.1∧x.1≤m∧a≤x.2.1)∧((∀k:Nat,a≤k→(k:Int)<x.2.1→¬denI p (nthD l k 0)<denI p (nthD l m.toNat 0))∧∀k:Nat,x.2.1≤k→(k:Int)<m→denI p (nthD l k 0)<denI p (nthD l m.toNat 0))∧x.2.2=insP (denI p) l a.toNat m.toNat x.1.toNat) (fun x=>(x.1 - x.2.1).toNat) fun _ _=> .look
 |33=> .inv (Int×Int) (fun x=>⟨[(0,.ow 0 n 1),(1,.si .i64 a),(2,.si .i64 m),(3,.si .i64 b),(4,.fn (.func 25) [] [.ptr 1 0 20]),(18,.si .i64 ((a+b) / 2^1)),(19,.si .i64 ((a+b) / 2^1+m)),(20,.si .i64 x.1),(21,.si .i64 x.2),(22,.si .i64 ((a+b) / 2^1+m - 1))],st344 l p⟩) (fun s=>(iS s 20,iS s 21))
   (fun x=>((if(a+b) / 2<m then(a+b) / 2+m - b else a)≤x.1∧x.1≤x.2∧x.2≤(if(a+b) / 2<m then(a+b) / 2 else m))∧(∀k:Nat,(if(a+b) / 2<m then(a+b) / 2+m - b else a)≤k→(k:Int)<x.1→¬denI p (nthD l k 0)<denI p (nthD l ((a+b) / 2+m - 1 - k).toNat 0))∧
    ∀k:Nat,x.2≤k→(k:Int)<(if(a+b) / 2<m then(a+b) / 2 else m)→denI p (nthD l k 0)<denI p (nthD l ((a+b) / 2+m - 1 - k).toNat 0)) (fun x=>(x.2 - x.1).toNat) fun _ _=> .look
 |_=> .look
def symU (D:Int→Int) (n k:Nat) (l V:List Int) (p:Prob) (a b mid e:Int):Prop:=
 (mid<e→(e<b→(symD ((n,V,p),mid,e,b)∧(b - mid).toNat<k)∧(SObj.row (SId.i IntKind.i64) (srtP D V mid.toNat b.toNat) 3 true).same (SObj.row (SId.i IntKind.i64) (srtP D l a.toNat b.toNat) 3 true))∧
  (¬e<b→(SObj.row (SId.i IntKind.i64) V 3 true).same (SObj.row (SId.i IntKind.i64) (srtP D l a.toNat b.toNat) 3 true)))∧(¬mid<e→(SObj.row (SId.i IntKind.i64) V 3 true).same (SObj.row (SId.i IntKind.i64) (srtP D l a.toNat b.toNat) 3 true))
def symW (D:Int→Int) (n k:Nat) (l W:List Int) (p:Prob) (a b mid e s:Int):Prop:=
 (a<s→(s<mid→(symD ((n,W,p),a,s,mid)∧(mid - a).toNat<k)∧symU D n k l (srtP D W a.toNat mid.toNat) p a b mid e)∧(¬s<mid→symU D n k l W p a b mid e))∧(¬a<s→symU D n k l W p a b mid e)
def symT (D:Int→Int) (n k:Nat) (l:List Int) (p:Prob) (a m b mid s:Int):Prop:=
 (-9223372036854775808≤mid+m - s∧mid+m - s≤9223372036854775807)∧
 (s<m→(m<mid+m - s→(n=l.length∧l.length≤1000∧0≤s∧s<m∧m<mid+m - s∧mid+m - s≤l.length)∧symW D n k l (rotR l s.toNat m.toNat (mid+m - s).toNat) p a b mid (mid+m - s) s)∧
  (¬m<mid+m - s→symW D n k l l p a b mid (mid+m - s) s))∧(¬s<m→symW D n k l l p a b mid (mid+m - s) s)
theorem symT_ok {D:Int→Int} {n k:Nat} {l:List Int} {p:Prob} {a m b mid s:Int} (hD:denI p=D) (hc:checkE p=0) (hn:n=l.length) (hl:l.length≤1000) (ho:∀x∈l,inO p x) (a0:0≤a) (a1:a≤s) (s1:s≤m) (sm:s≤mid) (am:a<mid) (mb:mid<b)
  (e1:m≤mid+m - s) (e2:mid+m - s≤b) (a3:b≤l.length) (hL:Srt D (seg l a.toNat m.toNat)) (hR:Srt D (seg l m.toNat b.toNat)) (hx:∀x∈seg l a.toNat m.toNat,∀y∈seg l m.toNat b.toNat,x<y)
  (H1:∀x y,x∈seg l a.toNat s.toNat→y∈seg l (mid+m - s).toNat b.toNat→leD D x y=true) (H2:∀x y,x∈seg l m.toNat (mid+m - s).toNat→y∈seg l s.toNat m.toNat→leD D x y=true) (hk:(b - a).toNat<k+1):
  symT D n k l p a m b mid s:=by
 generalize he:mid+m - s=e at*
 obtain⟨⟨x1,x2,x3⟩,⟨y1,y2,y3⟩,z1⟩:=@sym_law D l a.toNat s.toNat m.toNat e.toNat b.toNat mid.toNat (by omega) (by omega) (by omega) (by omega) (by omega) (by omega) hL hR (fun x h y h'=>H1 x y h h') (fun x h y h'=>H2 x y h h')
 have rl:(rotR l s.toNat m.toNat e.toNat).length=l.length:=rotR_len (by omega) (by omega) (by omega)
 have rm:∀x∈rotR l s.toNat m.toNat e.toNat,inO p x:=fun x h=>ho x (rotR_mem h)
 have r0:(¬s<m∨¬m<e)→rotR l s.toNat m.toNat e.toNat=l:=fun h=>rotR_triv (by omega) (by omega) (by omega) (by omega)
 generalize hRd:rotR l s.toNat m.toNat e.toNat=R at*
 have tl:(srtP D R a.toNat mid.toNat).length=R.length:=srtP_len (by omega) (by omega)
 have tm:∀x∈srtP D R a.toNat mid.toNat,inO p x:=fun x h=>rm x (srtP_mem h)
 have s_as:Srt D (seg l a.toNat s.toNat):=List.Pairwise.sublist (seg_sub (by omega) (by omega)) hL
 have s_sm:Srt D (seg l s.toNat m.toNat):=List.Pairwise.sublist (seg_sub (by omega) (by omega)) hL
 have s_me:Srt D (seg l m.toNat e.toNat):=List.Pairwise.sublist (seg_sub (by omega) (by omega)) hR
 have s_eb:Srt D (seg l e.toNat b.toNat):=List.Pairwise.sublist (seg_sub (by omega) (by omega)) hR
 have t0:(¬a<s∨¬s<mid)→srtP D R a.toNat mid.toNat=R:=by
  intro h
  refine srtP_triv (by omega) ?_
  rcases h with h|h
  ·rw[show a.toNat=s.toNat by omega,x2];exact s_me
  ·rw[show mid.toNat=s.toNat by omega,x1];exact s_as
 generalize hT:srtP D R a.toNat mid.toNat=T at*
 have u0:(¬mid<e∨¬e<b)→srtP D T mid.toNat b.toNat=T:=by
  intro h
  refine srtP_triv (by omega) ?_
  rcases h with h|h
  ·rw[show mid.toNat=e.toNat by omega,y2];exact s_eb
  ·rw[show b.toNat=e.toNat by omega,y1];exact s_sm
 have hU:symU D n k l T p a b mid e:=by
  refine⟨fun q1=>⟨fun q2=>⟨⟨⟨⟨⟨hc,by simp only;omega⟩,by simp only;omega,tm⟩,⟨by simp only;omega,q1,q2,by simp only;omega⟩,?_,?_,?_⟩,by omega⟩,orow z1⟩,fun q2=>orow ((u0 (.inr q2)).symm.trans z1)⟩,fun q1=>orow ((u0 (.inl q1)).symm.trans z1)⟩
  ·simp only[hD,y1];exact s_sm
  ·simp only[hD,y2];exact s_eb
  ·simp only[y1,y2]
   exact fun x hX y hY=>hx x ((seg_sub (by omega) (by omega)).subset hX) y ((seg_sub (by omega) (by omega)).subset hY)
 have hW:symW D n k l R p a b mid e s:=by
  refine⟨fun q1=>⟨fun q2=>⟨⟨⟨⟨⟨hc,by simp only;omega⟩,by simp only;omega,rm⟩,⟨by simp only;omega,q1,q2,by simp only;omega⟩,?_,?_,?_⟩,by omega⟩,by rw[hT];exact hU⟩,fun q2=>t0 (.inr q2)▸hU⟩,fun q1=>t0 (.inl q1)▸hU⟩
  ·simp only[hD,x1];exact s_as
  ·simp only[hD,x2];exact s_me
  ·simp only[x1,x2]
   exact fun x hX y hY=>hx x ((seg_sub (by omega) (by omega)).subset hX) y ((seg_sub (by omega) (by omega)).subset hY)
 refine⟨by omega,fun q1=>⟨fun q2=>⟨⟨hn,hl,by omega,q1,by omega,by omega⟩,by rw[he,hRd];exact hW⟩,fun q2=>?_⟩,fun q1=>?_⟩
 ·rw[he];exact r0 (.inr (by omega))▸hW
 ·rw[he];exact r0 (.inl q1)▸hW
theorem symX (k n:Nat) (l:List Int) (p:Prob) (a m b:Int) (hd:symD ((n,l,p),a,m,b)) (hk:(b - a).toNat<k+1):
  Vc (fnOwnK (parL [] (ownT (W344 k)) tyN mtN fnN) (Λ344 n l p a m b) F344 ((symC (k+1)).put ((n,l,p),a,m,b)) ((symC (k+1)).st ((n,l,p),a,m,b)) fun v t=>v.same ((symC (k+1)).res ((n,l,p),a,m,b))∧sameO t ((symC (k+1)).out ((n,l,p),a,m,b))):=by
 obtain⟨⟨⟨hc,hn⟩,hl,ho⟩,⟨a0,a1,a2,a3⟩,hL,hR,hx⟩:=hd
 simp only at hc hn hl ho a0 a1 a2 a3 hL hR hx
 refine vcOf (let z0:=decide (m - a=(1:Int));let z1:=SV.ow 0 n 1;let z2:=SV.fn (Fn.func 25) [] [SV.ptr 1 0 20];let z3:=SId.i .i64;let z4:=SObj.row z3 l 3 true;let z5:=SObj.cells [SV.si .i64 p.supply.a0,SV.si .i64 p.supply.a1,SV.si .i64 p.supply.a2,SV.si .i64 p.supply.a3,SV.si .i64 p.supply.a4,SV.si .i64 p.supply.a5,SV.si .i64 p.opn.a0,SV.si .i64 p.opn.a1,SV.si .i64 p.opn.a2,SV.si .i64 p.opn.a3,SV.si .i64 p.opn.a4,SV.si .i64 p.opn.a5,SV.si .i64 p.cls.a0,SV.si .i64 p.cls.a1,SV.si .i64 p.cls.a2,SV.si .i64 p.cls.a3,SV.si .i64 p.cls.a4,SV.si .i64 p.cls.a5,SV.row z3 p.classes,SV.row SId.off p.offers] 27 20 false;let z6:=nthD l a.toNat (0:Int);let z7:=(↑l.length:Int);let z8:=SObj.row z3 (srtP (denI p) l a.toNat b.toNat) 3 true;let z9:=decide (b - m=(1:Int));let z10:=nthD l m.toNat (0:Int);let z11:=(a+b) / (2:Int);let z12:=z11+m;let z13:=z12 - b;let z14:=z12 - (1:Int);let z15:=SV.si .i64 z11;let z16:=SV.si .i64 z12;let z17:=SV.si .i64 z13;let z18:=SV.si .i64 z14;let z19:=if z11<m then z13 else a;let z20:=if z11<m then z11 else m;let z21:=z11.toNat;let z22:=srtP (denI p) l a.toNat z21;inR .i64 (m - a)∧(z0=true→(((z1.same z1∧(SV.si .i64 a).same (SV.si .i64 a)∧z2.same z2∧(SV.si .i64 m).same (SV.si .i64 m)∧(SV.si .i64 b).same (SV.si .i64 b)∧True)∧z4.same z4∧z5.same z5∧True)∧(m≤m∧m≤b∧b≤b)∧(∀(k:Nat),m≤(↑k:Int)→(↑k:Int)<m→denI p z6<denI p (nthD l k (0:Int)))∧∀(k:Nat),b≤(↑k:Int)→(↑k:Int)<b→denI p z6<denI p (nthD l k (0:Int))→False)∧∀(x:Int×Int),let z23:=decide (x.fst<x.snd);let z24:=x.fst+x.snd;let z25:=z24 / (2:Int);let z26:=nthD l z25.toNat (0:Int);let z27:=decide (cmpO p z26 z6<(0:Int));let z28:=z25+(1:Int);let z29:=SV.si .i64 z28;let z30:=SV.si .i64 x.snd;let z31:=(x.snd - x.fst).toNat;let z32:=SV.si .i64 x.fst;let z33:=SV.si .i64 z25;((m≤x.fst∧x.fst≤x.snd∧x.snd≤b)∧(∀(k:Nat),m≤(↑k:Int)→(↑k:Int)<x.fst→denI p z6<denI p (nthD l k (0:Int)))∧∀(k:Nat),x.snd≤(↑k:Int)→(↑k:Int)<b→denI p z6<denI p (nthD l k (0:Int))→False)→(z23=true→inR .i64 z24∧inR .u64 z24∧(0:Int)≤(1:Int)∧(1:Int)≤(64:Int)∧inR .i64 z25∧n=l.length∧(0:Int)≤z25∧z25<z7∧n=l.length∧z25.toNat<l.length∧n=l.length∧(0:Int)≤a∧a<z7∧n=l.length∧a.toNat<l.length∧(checkE p=(0:Int)∧inO p z26∧inO p z6)∧(z27=true→inR .i64 z28∧((z1.same z1∧(SV.si .i64 a).same (SV.si .i64 a)∧z2.same z2∧z29.same z29∧z30.same z30∧True)∧z4.same z4∧z5.same z5∧True)∧((m≤z28∧z28≤x.snd∧x.snd≤b)∧(∀(k:Nat),m≤(↑k:Int)→(↑k:Int)<z28→denI p z6<denI p (nthD l k (0:Int)))∧∀(k:Nat),x.snd≤(↑k:Int)→(↑k:Int)<b→denI p z6<denI p (nthD l k (0:Int))→False)∧(x.snd - z28).toNat<z31)∧(z27=false→((z1.same z1∧(SV.si .i64 a).same (SV.si .i64 a)∧z2.same z2∧z32.same z32∧z33.same z33∧True)∧z4.same z4∧z5.same z5∧True)∧((m≤x.fst∧x.fst≤z25∧z25≤b)∧(∀(k:Nat),m≤(↑k:Int)→(↑k:Int)<x.fst→denI p z6<denI p (nthD l k (0:Int)))∧∀(k:Nat),z25≤(↑k:Int)→(↑k:Int)<b→denI p z6<denI p (nthD l k (0:Int))→False)∧(z25 - x.fst).toNat<z31))∧(z23=false→(((z1.same z1∧z32.same z32∧(SV.si .i64 a).same (SV.si .i64 a)∧True)∧z4.same z4∧z5.same z5∧True)∧(a≤a∧a≤x.fst - (1:Int)∧m≤x.fst∧x.fst≤b)∧((∀(k:Nat),m≤(↑k:Int)→(↑k:Int)<x.fst→denI p z6<denI p (nthD l k (0:Int)))∧∀(k:Nat),x.fst≤(↑k:Int)→(↑k:Int)<b→denI p z6<denI p (nthD l k (0:Int))→False)∧l=mvP l a.toNat b.toNat (a - a).toNat)∧∀(x:Int×Int×List Int),let z34:=x.snd.fst - (1:Int);let z35:=decide (x.fst<z34);let z36:=x.fst+(1:Int);let z37:=x.snd.snd.length;let z38:=z36.toNat;let z39:=x.snd.snd.set x.fst.toNat (nthD x.snd.snd z38 (0:Int));let z40:=SV.si .i64 x.snd.fst;let z41:=SV.si .i64 z36;let z42:=z39.set z38 (nthD x.snd.snd x.fst.toNat (0:Int));let z43:=SObj.row z3 z42 3 true;(a≤x.fst∧x.fst≤z34∧m≤x.snd.fst∧x.snd.fst≤b)∧((∀(k:Nat),m≤(↑k:Int)→(↑k:Int)<x.snd.fst→denI p z6<denI p (nthD l k (0:Int)))∧∀(k:Nat),x.snd.fst≤(↑k:Int)→(↑k:Int)<b→denI p z6<denI p (nthD l k (0:Int))→False)∧x.snd.snd=mvP l a.toNat b.toNat (x.fst - a).toNat→inR .i64 z34∧(z35=true→inR .i64 z36∧inR .i64 z36∧n=z37∧(0:Int)≤z36∧z36<(↑z37:Int)∧n=z37∧z38<z37∧n=z37∧(0:Int)≤x.fst∧x.fst<(↑z37:Int)∧n=z37∧x.fst.toNat<z37∧n=z37∧(0:Int)≤x.fst∧x.fst<(↑z37:Int)∧n=z37∧x.fst.toNat<z37∧n=z39.length∧(0:Int)≤z36∧z36<(↑z39.length:Int)∧n=z39.length∧z38<z39.length∧inR .i64 z36∧((z1.same z1∧z40.same z40∧z41.same z41∧True)∧z43.same z43∧z5.same z5∧True)∧((a≤z36∧z36≤z34∧m≤x.snd.fst∧x.snd.fst≤b)∧((∀(k:Nat),m≤(↑k:Int)→(↑k:Int)<x.snd.fst→denI p z6<denI p (nthD l k (0:Int)))∧∀(k:Nat),x.snd.fst≤(↑k:Int)→(↑k:Int)<b→denI p z6<denI p (nthD l k (0:Int))→False)∧z42=mvP l a.toNat b.toNat (z36 - a).toNat)∧(x.snd.fst - z36).toNat<(x.snd.fst - x.fst).toNat)∧(z35=false→(SV.tup []).same (SV.tup [])∧(SObj.row z3 x.snd.snd 3 true).same z8∧z5.same z5∧True)))∧(z0=false→inR .i64 (b - m)∧(z9=true→(((z1.same z1∧(SV.si .i64 m).same (SV.si .i64 m)∧z2.same z2∧(SV.si .i64 a).same (SV.si .i64 a)∧(SV.si .i64 m).same (SV.si .i64 m)∧True)∧z4.same z4∧z5.same z5∧True)∧(a≤a∧a≤m∧m≤m)∧(∀(k:Nat),a≤(↑k:Int)→(↑k:Int)<a→denI p (nthD l k (0:Int))<denI p z10→False)∧∀(k:Nat),m≤(↑k:Int)→(↑k:Int)<m→denI p (nthD l k (0:Int))<denI p z10)∧∀(x:Int×Int),let z44:=decide (x.fst<x.snd);let z45:=x.fst+x.snd;let z46:=z45 / (2:Int);let z47:=nthD l z46.toNat (0:Int);let z48:=!decide (cmpO p z10 z47<(0:Int));let z49:=z46+(1:Int);let z50:=SV.si .i64 z49;let z51:=SV.si .i64 x.snd;let z52:=(x.snd - x.fst).toNat;let z53:=SV.si .i64 x.fst;let z54:=SV.si .i64 z46;((a≤x.fst∧x.fst≤x.snd∧x.snd≤m)∧(∀(k:Nat),a≤(↑k:Int)→(↑k:Int)<x.fst→denI p (nthD l k (0:Int))<denI p z10→False)∧∀(k:Nat),x.snd≤(↑k:Int)→(↑k:Int)<m→denI p (nthD l k (0:Int))<denI p z10)→(z44=true→inR .i64 z45∧inR .u64 z45∧(0:Int)≤(1:Int)∧(1:Int)≤(64:Int)∧inR .i64 z46∧n=l.length∧(0:Int)≤m∧m<z7∧n=l.length∧m.toNat<l.length∧n=l.length∧(0:Int)≤z46∧z46<z7∧n=l.length∧z46.toNat<l.length∧(checkE p=(0:Int)∧inO p z10∧inO p z47)∧(z48=true→inR .i64 z49∧((z1.same z1∧(SV.si .i64 m).same (SV.si .i64 m)∧z2.same z2∧z50.same z50∧z51.same z51∧True)∧z4.same z4∧z5.same z5∧True)∧((a≤z49∧z49≤x.snd∧x.snd≤m)∧(∀(k:Nat),a≤(↑k:Int)→(↑k:Int)<z49→denI p (nthD l k (0:Int))<denI p z10→False)∧∀(k:Nat),x.snd≤(↑k:Int)→(↑k:Int)<m→denI p (nthD l k (0:Int))<denI p z10)∧(x.snd - z49).toNat<z52)∧(z48=false→((z1.same z1∧(SV.si .i64 m).same (SV.si .i64 m)∧z2.same z2∧z53.same z53∧z54.same z54∧True)∧z4.same z4∧z5.same z5∧True)∧((a≤x.fst∧x.fst≤z46∧z46≤m)∧(∀(k:Nat),a≤(↑k:Int)→(↑k:Int)<x.fst→denI p (nthD l k (0:Int))<denI p z10→False)∧∀(k:Nat),z46≤(↑k:Int)→(↑k:Int)<m→denI p (nthD l k (0:Int))<denI p z10)∧(z46 - x.fst).toNat<z52))∧(z44=false→(((z1.same z1∧z53.same z53∧(SV.si .i64 m).same (SV.si .i64 m)∧True)∧z4.same z4∧z5.same z5∧True)∧(x.fst≤m∧m≤m∧a≤x.fst)∧((∀(k:Nat),a≤(↑k:Int)→(↑k:Int)<x.fst→denI p (nthD l k (0:Int))<denI p z10→False)∧∀(k:Nat),x.fst≤(↑k:Int)→(↑k:Int)<m→denI p (nthD l k (0:Int))<denI p z10)∧l=insP (denI p) l a.toNat m.toNat m.toNat)∧∀(x:Int×Int×List Int),let z55:=x.fst.toNat;let z56:=decide (x.snd.fst<x.fst);let z57:=x.fst - (1:Int);let z58:=x.snd.snd.length;let z59:=z57.toNat;let z60:=x.snd.snd.set z55 (nthD x.snd.snd z59 (0:Int));let z61:=SV.si .i64 x.snd.fst;let z62:=SV.si .i64 z57;let z63:=z60.set z59 (nthD x.snd.snd z55 (0:Int));let z64:=SObj.row z3 z63 3 true;(x.snd.fst≤x.fst∧x.fst≤m∧a≤x.snd.fst)∧((∀(k:Nat),a≤(↑k:Int)→(↑k:Int)<x.snd.fst→denI p (nthD l k (0:Int))<denI p z10→False)∧∀(k:Nat),x.snd.fst≤(↑k:Int)→(↑k:Int)<m→denI p (nthD l k (0:Int))<denI p z10)∧x.snd.snd=insP (denI p) l a.toNat m.toNat z55→(z56=true→inR .i64 z57∧inR .i64 z57∧n=z58∧(0:Int)≤z57∧z57<(↑z58:Int)∧n=z58∧z59<z58∧n=z58∧(0:Int)≤x.fst∧x.fst<(↑z58:Int)∧n=z58∧z55<z58∧n=z58∧(0:Int)≤x.fst∧x.fst<(↑z58:Int)∧n=z58∧z55<z58∧n=z60.length∧(0:Int)≤z57∧z57<(↑z60.length:Int)∧n=z60.length∧z59<z60.length∧inR .i64 z57∧((z1.same z1∧z61.same z61∧z62.same z62∧True)∧z64.same z64∧z5.same z5∧True)∧((x.snd.fst≤z57∧z57≤m∧a≤x.snd.fst)∧((∀(k:Nat),a≤(↑k:Int)→(↑k:Int)<x.snd.fst→denI p (nthD l k (0:Int))<denI p z10→False)∧∀(k:Nat),x.snd.fst≤(↑k:Int)→(↑k:Int)<m→denI p (nthD l k (0:Int))<denI p z10)∧z63=insP (denI p) l a.toNat m.toNat z59)∧(z57 - x.snd.fst).toNat<(x.fst - x.snd.fst).toNat)∧(z56=false→(SV.tup []).same (SV.tup [])∧(SObj.row z3 x.snd.snd 3 true).same z8∧z5.same z5∧True)))∧(z9=false→inR .i64 (a+b)∧inR .u64 (a+b)∧(0:Int)≤(1:Int)∧(1:Int)≤(64:Int)∧inR .i64 z11∧inR .i64 z12∧(decide (z11<m)=true→inR .i64 z13∧inR .i64 z14∧(((z1.same z1∧(SV.si .i64 a).same (SV.si .i64 a)∧(SV.si .i64 m).same (SV.si .i64 m)∧(SV.si .i64 b).same (SV.si .i64 b)∧z2.same z2∧z15.same z15∧z16.same z16∧z17.same z17∧z15.same z15∧z18.same z18∧True)∧z4.same z4∧z5.same z5∧True)∧(z19≤z13∧z13≤z11∧z11≤z20)∧(∀(k:Nat),z19≤(↑k:Int)→(↑k:Int)<z13→denI p (nthD l k (0:Int))<denI p (nthD l (z14 - (↑k:Int)).toNat (0:Int))→False)∧∀(k:Nat),z11≤(↑k:Int)→(↑k:Int)<z20→denI p (nthD l k (0:Int))<denI p (nthD l (z14 - (↑k:Int)).toNat (0:Int)))∧∀(x:Int×Int),let z65:=decide (x.fst<x.snd);let z66:=x.fst+x.snd;let z67:=z66 / (2:Int);let z68:=z14 - z67;let z69:=nthD l z68.toNat (0:Int);let z70:=nthD l z67.toNat (0:Int);let z71:=!decide (cmpO p z69 z70<(0:Int));let z72:=z67+(1:Int);let z73:=SV.si .i64 z72;let z74:=SV.si .i64 x.snd;let z75:=(x.snd - x.fst).toNat;let z76:=SV.si .i64 x.fst;let z77:=SV.si .i64 z67;let z78:=z12 - x.fst;let z79:=decide (x.fst<z11);let z80:=rotR l x.fst.toNat m.toNat z78.toNat;let z81:=srtP (denI p) z80 a.toNat z21;let z82:=(z11,z78,b);((z19≤x.fst∧x.fst≤x.snd∧x.snd≤z20)∧(∀(k:Nat),z19≤(↑k:Int)→(↑k:Int)<x.fst→denI p (nthD l k (0:Int))<denI p (nthD l (z14 - (↑k:Int)).toNat (0:Int))→False)∧∀(k:Nat),x.snd≤(↑k:Int)→(↑k:Int)<z20→denI p (nthD l k (0:Int))<denI p (nthD l (z14 - (↑k:Int)).toNat (0:Int)))→(z65=true→inR .i64 z66∧inR .u64 z66∧(0:Int)≤(1:Int)∧(1:Int)≤(64:Int)∧inR .i64 z67∧inR .i64 z68∧n=l.length∧(0:Int)≤z68∧z68<z7∧n=l.length∧z68.toNat<l.length∧n=l.length∧(0:Int)≤z67∧z67<z7∧n=l.length∧z67.toNat<l.length∧(checkE p=(0:Int)∧inO p z69∧inO p z70)∧(z71=true→inR .i64 z72∧((z1.same z1∧(SV.si .i64 a).same (SV.si .i64 a)∧(SV.si .i64 m).same (SV.si .i64 m)∧(SV.si .i64 b).same (SV.si .i64 b)∧z2.same z2∧z15.same z15∧z16.same z16∧z73.same z73∧z74.same z74∧z18.same z18∧True)∧z4.same z4∧z5.same z5∧True)∧((z19≤z72∧z72≤x.snd∧x.snd≤z20)∧(∀(k:Nat),z19≤(↑k:Int)→(↑k:Int)<z72→denI p (nthD l k (0:Int))<denI p (nthD l (z14 - (↑k:Int)).toNat (0:Int))→False)∧∀(k:Nat),x.snd≤(↑k:Int)→(↑k:Int)<z20→denI p (nthD l k (0:Int))<denI p (nthD l (z14 - (↑k:Int)).toNat (0:Int)))∧(x.snd - z72).toNat<z75)∧(z71=false→((z1.same z1∧(SV.si .i64 a).same (SV.si .i64 a)∧(SV.si .i64 m).same (SV.si .i64 m)∧(SV.si .i64 b).same (SV.si .i64 b)∧z2.same z2∧z15.same z15∧z16.same z16∧z76.same z76∧z77.same z77∧z18.same z18∧True)∧z4.same z4∧z5.same z5∧True)∧((z19≤x.fst∧x.fst≤z67∧z67≤z20)∧(∀(k:Nat),z19≤(↑k:Int)→(↑k:Int)<x.fst→denI p (nthD l k (0:Int))<denI p (nthD l (z14 - (↑k:Int)).toNat (0:Int))→False)∧∀(k:Nat),z67≤(↑k:Int)→(↑k:Int)<z20→denI p (nthD l k (0:Int))<denI p (nthD l (z14 - (↑k:Int)).toNat (0:Int)))∧(z67 - x.fst).toNat<z75))∧(z65=false→inR .i64 z78∧(decide (x.fst<m)=true→(decide (m<z78)=true→(n=l.length∧l.length≤1000∧(0:Int)≤x.fst∧x.fst<m∧m<z78∧z78≤(↑l.length:Int))∧(decide (a<x.fst)=true→(z79=true→(symD ((n,z80,p),a,x.fst,z11)∧(z11 - a).toNat<k)∧(decide (z11<z78)=true→(decide (z78<b)=true→(symD ((n,z81,p),z82)∧(b - z11).toNat<k)∧(SV.tup []).same (SV.tup [])∧(SObj.row z3 (srtP (denI p) z81 z21 b.toNat) 3 true).same z8∧z5.same z5∧True)∧(decide (z78<b)=false→(SV.tup []).same (SV.tup [])∧(SObj.row z3 z81 3 true).same z8∧z5.same z5∧True))∧(decide (z11<z78)=false→(SV.tup []).same (SV.tup [])∧(SObj.row z3 z81 3 true).same z8∧z5.same z5∧True))∧(z79=false→(decide (z11<z78)=true→(decide (z78<b)=true→(symD ((n,z80,p),z82)∧(b - z11).toNat<k)∧(SV.tup []).same (SV.tup [])∧(SObj.row z3 (srtP (denI p) z80 z21 b.toNat) 3 true).same z8∧z5.same z5∧True)∧(decide (z78<b)=false→(SV.tup []).same (SV.tup [])∧(SObj.row z3 z80 3 true).same z8∧z5.same z5∧True))∧(decide (z11<z78)=false→(SV.tup []).same (SV.tup [])∧(SObj.row z3 z80 3 true).same z8∧z5.same z5∧True)))∧(decide (a<x.fst)=false→(decide (z11<z78)=true→(decide (z78<b)=true→(symD ((n,z80,p),z82)∧(b - z11).toNat<k)∧(SV.tup []).same (SV.tup [])∧(SObj.row z3 (srtP (denI p) z80 z21 b.toNat) 3 true).same z8∧z5.same z5∧True)∧(decide (z78<b)=false→(SV.tup []).same (SV.tup [])∧(SObj.row z3 z80 3 true).same z8∧z5.same z5∧True))∧(decide (z11<z78)=false→(SV.tup []).same (SV.tup [])∧(SObj.row z3 z80 3 true).same z8∧z5.same z5∧True)))∧(decide (m<z78)=false→(decide (a<x.fst)=true→(z79=true→(symD ((n,l,p),a,x.fst,z11)∧(z11 - a).toNat<k)∧(decide (z11<z78)=true→(decide (z78<b)=true→(symD ((n,z22,p),z82)∧(b - z11).toNat<k)∧(SV.tup []).same (SV.tup [])∧(SObj.row z3 (srtP (denI p) z22 z21 b.toNat) 3 true).same z8∧z5.same z5∧True)∧(decide (z78<b)=false→(SV.tup []).same (SV.tup [])∧(SObj.row z3 z22 3 true).same z8∧z5.same z5∧True))∧(decide (z11<z78)=false→(SV.tup []).same (SV.tup [])∧(SObj.row z3 z22 3 true).same z8∧z5.same z5∧True))∧(z79=false→(decide (z11<z78)=true→(decide (z78<b)=true→(symD ((n,l,p),z82)∧(b - z11).toNat<k)∧(SV.tup []).same (SV.tup [])∧(SObj.row z3 (srtP (denI p) l z21 b.toNat) 3 true).same z8∧z5.same z5∧True)∧(decide (z78<b)=false→(SV.tup []).same (SV.tup [])∧z4.same z8∧z5.same z5∧True))∧(decide (z11<z78)=false→(SV.tup []).same (SV.tup [])∧z4.same z8∧z5.same z5∧True)))∧(decide (a<x.fst)=false→(decide (z11<z78)=true→(decide (z78<b)=true→(symD ((n,l,p),z82)∧(b - z11).toNat<k)∧(SV.tup []).same (SV.tup [])∧(SObj.row z3 (srtP (denI p) l z21 b.toNat) 3 true).same z8∧z5.same z5∧True)∧(decide (z78<b)=false→(SV.tup []).same (SV.tup [])∧z4.same z8∧z5.same z5∧True))∧(decide (z11<z78)=false→(SV.tup []).same (SV.tup [])∧z4.same z8∧z5.same z5∧True))))∧(decide (x.fst<m)=false→(decide (a<x.fst)=true→(z79=true→(symD ((n,l,p),a,x.fst,z11)∧(z11 - a).toNat<k)∧(decide (z11<z78)=true→(decide (z78<b)=true→(symD ((n,z22,p),z82)∧(b - z11).toNat<k)∧(SV.tup []).same (SV.tup [])∧(SObj.row z3 (srtP (denI p) z22 z21 b.toNat) 3 true).same z8∧z5.same z5∧True)∧(decide (z78<b)=false→(SV.tup []).same (SV.tup [])∧(SObj.row z3 z22 3 true).same z8∧z5.same z5∧True))∧(decide (z11<z78)=false→(SV.tup []).same (SV.tup [])∧(SObj.row z3 z22 3 true).same z8∧z5.same z5∧True))∧(z79=false→(decide (z11<z78)=true→(decide (z78<b)=true→(symD ((n,l,p),z82)∧(b - z11).toNat<k)∧(SV.tup []).same (SV.tup [])∧(SObj.row z3 (srtP (denI p) l z21 b.toNat) 3 true).same z8∧z5.same z5∧True)∧(decide (z78<b)=false→(SV.tup []).same (SV.tup [])∧z4.same z8∧z5.same z5∧True))∧(decide (z11<z78)=false→(SV.tup []).same (SV.tup [])∧z4.same z8∧z5.same z5∧True)))∧(decide (a<x.fst)=false→(decide (z11<z78)=true→(decide (z78<b)=true→(symD ((n,l,p),z82)∧(b - z11).toNat<k)∧(SV.tup []).same (SV.tup [])∧(SObj.row z3 (srtP (denI p) l z21 b.toNat) 3 true).same z8∧z5.same z5∧True)∧(decide (z78<b)=false→(SV.tup []).same (SV.tup [])∧z4.same z8∧z5.same z5∧True))∧(decide (z11<z78)=false→(SV.tup []).same (SV.tup [])∧z4.same z8∧z5.same z5∧True)))))∧(decide (z11<m)=false→inR .i64 z14∧(((z1.same z1∧(SV.si .i64 a).same (SV.si .i64 a)∧(SV.si .i64 m).same (SV.si .i64 m)∧(SV.si .i64 b).same (SV.si .i64 b)∧z2.same z2∧z15.same z15∧z16.same z16∧(SV.si .i64 a).same (SV.si .i64 a)∧(SV.si .i64 m).same (SV.si .i64 m)∧z18.same z18∧True)∧z4.same z4∧z5.same z5∧True)∧(z19≤a∧a≤m∧m≤z20)∧(∀(k:Nat),z19≤(↑k:Int)→(↑k:Int)<a→denI p (nthD l k (0:Int))<denI p (nthD l (z14 - (↑k:Int)).toNat (0:Int))→False)∧∀(k:Nat),m≤(↑k:Int)→(↑k:Int)<z20→denI p (nthD l k (0:Int))<denI p (nthD l (z14 - (↑k:Int)).toNat (0:Int)))∧∀(x:Int×Int),let z83:=decide (x.fst<x.snd);let z84:=x.fst+x.snd;let z85:=z84 / (2:Int);let z86:=z14 - z85;let z87:=nthD l z86.toNat (0:Int);let z88:=nthD l z85.toNat (0:Int);let z89:=!decide (cmpO p z87 z88<(0:Int));let z90:=z85+(1:Int);let z91:=SV.si .i64 z90;let z92:=SV.si .i64 x.snd;let z93:=(x.snd - x.fst).toNat;let z94:=SV.si .i64 x.fst;let z95:=SV.si .i64 z85;let z96:=z12 - x.fst;let z97:=decide (x.fst<z11);let z98:=rotR l x.fst.toNat m.toNat z96.toNat;let z99:=srtP (denI p) z98 a.toNat z21;let z100:=(z11,z96,b);((z19≤x.fst∧x.fst≤x.snd∧x.snd≤z20)∧(∀(k:Nat),z19≤(↑k:Int)→(↑k:Int)<x.fst→denI p (nthD l k (0:Int))<denI p (nthD l (z14 - (↑k:Int)).toNat (0:Int))→False)∧∀(k:Nat),x.snd≤(↑k:Int)→(↑k:Int)<z20→denI p (nthD l k (0:Int))<denI p (nthD l (z14 - (↑k:Int)).toNat (0:Int)))→(z83=true→inR .i64 z84∧inR .u64 z84∧(0:Int)≤(1:Int)∧(1:Int)≤(64:Int)∧inR .i64 z85∧inR .i64 z86∧n=l.length∧(0:Int)≤z86∧z86<z7∧n=l.length∧z86.toNat<l.length∧n=l.length∧(0:Int)≤z85∧z85<z7∧n=l.length∧z85.toNat<l.length∧(checkE p=(0:Int)∧inO p z87∧inO p z88)∧(z89=true→inR .i64 z90∧((z1.same z1∧(SV.si .i64 a).same (SV.si .i64 a)∧(SV.si .i64 m).same (SV.si .i64 m)∧(SV.si .i64 b).same (SV.si .i64 b)∧z2.same z2∧z15.same z15∧z16.same z16∧z91.same z91∧z92.same z92∧z18.same z18∧True)∧z4.same z4∧z5.same z5∧True)∧((z19≤z90∧z90≤x.snd∧x.snd≤z20)∧(∀(k:Nat),z19≤(↑k:Int)→(↑k:Int)<z90→denI p (nthD l k (0:Int))<denI p (nthD l (z14 - (↑k:Int)).toNat (0:Int))→False)∧∀(k:Nat),x.snd≤(↑k:Int)→(↑k:Int)<z20→denI p (nthD l k (0:Int))<denI p (nthD l (z14 - (↑k:Int)).toNat (0:Int)))∧(x.snd - z90).toNat<z93)∧(z89=false→((z1.same z1∧(SV.si .i64 a).same (SV.si .i64 a)∧(SV.si .i64 m).same (SV.si .i64 m)∧(SV.si .i64 b).same (SV.si .i64 b)∧z2.same z2∧z15.same z15∧z16.same z16∧z94.same z94∧z95.same z95∧z18.same z18∧True)∧z4.same z4∧z5.same z5∧True)∧((z19≤x.fst∧x.fst≤z85∧z85≤z20)∧(∀(k:Nat),z19≤(↑k:Int)→(↑k:Int)<x.fst→denI p (nthD l k (0:Int))<denI p (nthD l (z14 - (↑k:Int)).toNat (0:Int))→False)∧∀(k:Nat),z85≤(↑k:Int)→(↑k:Int)<z20→denI p (nthD l k (0:Int))<denI p (nthD l (z14 - (↑k:Int)).toNat (0:Int)))∧(z85 - x.fst).toNat<z93))∧(z83=false→inR .i64 z96∧(decide (x.fst<m)=true→(decide (m<z96)=true→(n=l.length∧l.length≤1000∧(0:Int)≤x.fst∧x.fst<m∧m<z96∧z96≤(↑l.length:Int))∧(decide (a<x.fst)=true→(z97=true→(symD ((n,z98,p),a,x.fst,z11)∧(z11 - a).toNat<k)∧(decide (z11<z96)=true→(decide (z96<b)=true→(symD ((n,z99,p),z100)∧(b - z11).toNat<k)∧(SV.tup []).same (SV.tup [])∧(SObj.row z3 (srtP (denI p) z99 z21 b.toNat) 3 true).same z8∧z5.same z5∧True)∧(decide (z96<b)=false→(SV.tup []).same (SV.tup [])∧(SObj.row z3 z99 3 true).same z8∧z5.same z5∧True))∧(decide (z11<z96)=false→(SV.tup []).same (SV.tup [])∧(SObj.row z3 z99 3 true).same z8∧z5.same z5∧True))∧(z97=false→(decide (z11<z96)=true→(decide (z96<b)=true→(symD ((n,z98,p),z100)∧(b - z11).toNat<k)∧(SV.tup []).same (SV.tup [])∧(SObj.row z3 (srtP (denI p) z98 z21 b.toNat) 3 true).same z8∧z5.same z5∧True)∧(decide (z96<b)=false→(SV.tup []).same (SV.tup [])∧(SObj.row z3 z98 3 true).same z8∧z5.same z5∧True))∧(decide (z11<z96)=false→(SV.tup []).same (SV.tup [])∧(SObj.row z3 z98 3 true).same z8∧z5.same z5∧True)))∧(decide (a<x.fst)=false→(decide (z11<z96)=true→(decide (z96<b)=true→(symD ((n,z98,p),z100)∧(b - z11).toNat<k)∧(SV.tup []).same (SV.tup [])∧(SObj.row z3 (srtP (denI p) z98 z21 b.toNat) 3 true).same z8∧z5.same z5∧True)∧(decide (z96<b)=false→(SV.tup []).same (SV.tup [])∧(SObj.row z3 z98 3 true).same z8∧z5.same z5∧True))∧(decide (z11<z96)=false→(SV.tup []).same (SV.tup [])∧(SObj.row z3 z98 3 true).same z8∧z5.same z5∧True)))∧(decide (m<z96)=false→(decide (a<x.fst)=true→(z97=true→(symD ((n,l,p),a,x.fst,z11)∧(z11 - a).toNat<k)∧(decide (z11<z96)=true→(decide (z96<b)=true→(symD ((n,z22,p),z100)∧(b - z11).toNat<k)∧(SV.tup []).same (SV.tup [])∧(SObj.row z3 (srtP (denI p) z22 z21 b.toNat) 3 true).same z8∧z5.same z5∧True)∧(decide (z96<b)=false→(SV.tup []).same (SV.tup [])∧(SObj.row z3 z22 3 true).same z8∧z5.same z5∧True))∧(decide (z11<z96)=false→(SV.tup []).same (SV.tup [])∧(SObj.row z3 z22 3 true).same z8∧z5.same z5∧True))∧(z97=false→(decide (z11<z96)=true→(decide (z96<b)=true→(symD ((n,l,p),z100)∧(b - z11).toNat<k)∧(SV.tup []).same (SV.tup [])∧(SObj.row z3 (srtP (denI p) l z21 b.toNat) 3 true).same z8∧z5.same z5∧True)∧(decide (z96<b)=false→(SV.tup []).same (SV.tup [])∧z4.same z8∧z5.same z5∧True))∧(decide (z11<z96)=false→(SV.tup []).same (SV.tup [])∧z4.same z8∧z5.same z5∧True)))∧(decide (a<x.fst)=false→(decide (z11<z96)=true→(decide (z96<b)=true→(symD ((n,l,p),z100)∧(b - z11).toNat<k)∧(SV.tup []).same (SV.tup [])∧(SObj.row z3 (srtP (denI p) l z21 b.toNat) 3 true).same z8∧z5.same z5∧True)∧(decide (z96<b)=false→(SV.tup []).same (SV.tup [])∧z4.same z8∧z5.same z5∧True))∧(decide (z11<z96)=false→(SV.tup []).same (SV.tup [])∧z4.same z8∧z5.same z5∧True))))∧(decide (x.fst<m)=false→(decide (a<x.fst)=true→(z97=true→(symD ((n,l,p),a,x.fst,z11)∧(z11 - a).toNat<k)∧(decide (z11<z96)=true→(decide (z96<b)=true→(symD ((n,z22,p),z100)∧(b - z11).toNat<k)∧(SV.tup []).same (SV.tup [])∧(SObj.row z3 (srtP (denI p) z22 z21 b.toNat) 3 true).same z8∧z5.same z5∧True)∧(decide (z96<b)=false→(SV.tup []).same (SV.tup [])∧(SObj.row z3 z22 3 true).same z8∧z5.same z5∧True))∧(decide (z11<z96)=false→(SV.tup []).same (SV.tup [])∧(SObj.row z3 z22 3 true).same z8∧z5.same z5∧True))∧(z97=false→(decide (z11<z96)=true→(decide (z96<b)=true→(symD ((n,l,p),z100)∧(b - z11).toNat<k)∧(SV.tup []).same (SV.tup [])∧(SObj.row z3 (srtP (denI p) l z21 b.toNat) 3 true).same z8∧z5.same z5∧True)∧(decide (z96<b)=false→(SV.tup []).same (SV.tup [])∧z4.same z8∧z5.same z5∧True))∧(decide (z11<z96)=false→(SV.tup []).same (SV.tup [])∧z4.same z8∧z5.same z5∧True)))∧(decide (a<x.fst)=false→(decide (z11<z96)=true→(decide (z96<b)=true→(symD ((n,l,p),z100)∧(b - z11).toNat<k)∧(SV.tup []).same (SV.tup [])∧(SObj.row z3 (srtP (denI p) l z21 b.toNat) 3 true).same z8∧z5.same z5∧True)∧(decide (z96<b)=false→(SV.tup []).same (SV.tup [])∧z4.same z8∧z5.same z5∧True))∧(decide (z11<z96)=false→(SV.tup []).same (SV.tup [])∧z4.same z8∧z5.same z5∧True)))))))) (by kernel_rfl) ?_
 simp only[vcs]
 have hV:∀k:Nat,k<l.length→inO p (nthD l k 0):=fun k hk=>ho _ (nthD_mem hk)
 have hcmp:∀i j:Nat,i<l.length→j<l.length→(cmpO p (nthD l i 0) (nthD l j 0)<0↔denI p (nthD l j 0)<denI p (nthD l i 0)):=fun i j hi hj=>cmpO_neg hc (hV i hi) (hV j hj)
 have hxi:∀i j:Nat,a≤i→(i:Int)<m→m≤j→(j:Int)<b→nthD l i 0<nthD l j 0:=fun i j h1 h2 h3 h4=>hx _ (seg_mem.2 ⟨i,by omega,by omega,by omega,rfl⟩) _ (seg_mem.2 ⟨j,by omega,by omega,by omega,rfl⟩)
 have u64:∀{v:Int},0≤v→v≤100000→inR .u64 v:=fun h1 h2=>u64_in h1 (by omega)
 generalize hD:denI p=D at*
 refine⟨by omega,fun h1=>?_,fun h1=>⟨by omega,fun h2=>?_,fun h2=>?_⟩⟩
 ·have hm:m=a+1:=by omega
  have mono:∀i j:Nat,m≤i→i≤j→(j:Int)<b→D (nthD l j 0)≤D (nthD l i 0):=fun i j q1 q2 q3=>leD_den (srt_idx' hR (by omega) q2 (by omega) (by omega))
  refine⟨⟨⟨by omega,by omega,by omega⟩,fun k q1 q2=>by omega,fun k q1 q2=>by omega⟩,?_⟩
  rintro⟨i,j⟩ ⟨⟨i0,i1,i2⟩,q1,q2⟩
  simp only at i0 i1 i2 q1 q2 ⊢
  refine⟨fun hij=>?_,fun hij=>⟨⟨⟨by omega,by omega,by omega,by omega⟩,⟨q1,fun k w1 w2=>q2 k (by omega) w2⟩,?_⟩,?_⟩⟩
  ·rw[hcmp _ _ (by omega) (by omega)]
   generalize hh:(i+j) / 2=h
   have hh1:i≤h∧h<j:=by omega
   refine⟨by omega,u64 (by omega) (by omega),by omega,by omega,by omega,by omega,by omega,by omega,by omega,by omega,by omega,by omega,by omega,by omega,by omega,⟨hc,hV _ (by omega),hV _ (by omega)⟩,fun hlt=>⟨by omega,⟨⟨by omega,by omega,by omega⟩,fun k w1 w2=>?_,fun k w1 w2=>q2 k w1 w2⟩,by omega⟩,fun hge=>⟨⟨⟨by omega,by omega,by omega⟩,fun k w1 w2=>q1 k w1 w2,fun k w1 w2=>?_⟩,by omega⟩⟩
   ·have:=mono k h.toNat (by omega) (by omega) (by omega)
    omega
   ·have:=mono h.toNat k (by omega) (by omega) (by omega)
    omega
  ·rw[show(a - a).toNat=0 by omega,mvP_start (by omega) (by omega)]
  ·rintro⟨k,i',w⟩ ⟨⟨k0,k1,k2,k3⟩,⟨q1,q2⟩,hw⟩
   simp only at k0 k1 k2 k3 q1 q2 hw ⊢
   have hwl:w.length=l.length:=by rw[hw,mvP_len (by omega) (by omega)]
   refine⟨by omega,fun hk=>?_,fun hk=>?_⟩
   ·obtain⟨e1,e2,e3⟩:=@mvP_at l a.toNat b.toNat (k - a).toNat (by omega) (by omega)
    rw[←hw] at e1 e2 e3
    rw[show a.toNat+(k - a).toNat=k.toNat by omega] at e1 e2 e3
    rw[show k.toNat+1=(k+1).toNat by omega] at e2 e3
    rw[show(k - a).toNat+1=(k+1 - a).toNat by omega] at e3
    rw[e1,e2,e3]
    simp only[List.length_set,hwl]
    refine⟨by omega,by omega,by omega,by omega,by omega,by omega,by omega,by omega,by omega,by omega,by omega,by omega,by omega,by omega,by omega,by omega,by omega,by omega,by omega,by omega,by omega,by omega,by omega,⟨⟨by omega,by omega,by omega,by omega⟩,⟨q1,q2⟩,trivial⟩,by omega⟩
   ·have hki:k=i' - 1:=by omega
    refine orow ?_
    rw[hw]
    refine mvP_done (by omega) (by omega) (by rw[show a.toNat+1=m.toNat by omega];exact hR) ?_ ?_
    ·intro s hs
     rw[drop_seg2,seg_mem] at hs
     obtain⟨k',w1,w2,w3,rfl⟩:=hs
     have h9:¬D (nthD l a.toNat 0)<D (nthD l k' 0):=q2 k' (by omega) (by omega)
     have:=hxi a.toNat k' (by omega) (by omega) (by omega) (by omega)
     exact leD_iff.2 (by omega)
    ·by_cases hka:k=a
     ·exact .inl (by omega)
     ·refine .inr (leD_iff.2 (.inl ?_))
      rw[show a.toNat+(k - a).toNat=k.toNat by omega]
      exact q1 k.toNat (by omega) (by omega)
 ·have hb:b=m+1:=by omega
  have mono:∀i j:Nat,a≤i→i≤j→(j:Int)<m→D (nthD l j 0)≤D (nthD l i 0):=fun i j q1 q2 q3=>leD_den (srt_idx' hL (by omega) q2 (by omega) (by omega))
  refine⟨⟨⟨by omega,by omega,by omega⟩,fun k q1 q2=>by omega,fun k q1 q2=>by omega⟩,?_⟩
  rintro⟨i,j⟩ ⟨⟨i0,i1,i2⟩,q1,q2⟩
  simp only at i0 i1 i2 q1 q2 ⊢
  refine⟨fun hij=>?_,fun hij=>⟨⟨⟨by omega,by omega,by omega⟩,⟨q1,fun k w1 w2=>q2 k (by omega) w2⟩,?_⟩,?_⟩⟩
  ·rw[hcmp _ _ (by omega) (by omega)]
   generalize hh:(i+j) / 2=h
   have hh1:i≤h∧h<j:=by omega
   refine⟨by omega,u64 (by omega) (by omega),by omega,by omega,by omega,by omega,by omega,by omega,by omega,by omega,by omega,by omega,by omega,by omega,by omega,⟨hc,hV _ (by omega),hV _ (by omega)⟩,fun hge=>⟨by omega,⟨⟨by omega,by omega,by omega⟩,fun k w1 w2=>?_,fun k w1 w2=>q2 k w1 w2⟩,by omega⟩,fun hlt=>⟨⟨⟨by omega,by omega,by omega⟩,fun k w1 w2=>q1 k w1 w2,fun k w1 w2=>?_⟩,by omega⟩⟩
   ·have:=mono k h.toNat (by omega) (by omega) (by omega)
    omega
   ·have:=mono h.toNat k (by omega) (by omega) (by omega)
    omega
  ·rw[insP_start (by omega) (by omega),srtP_triv (by omega) hL]
  ·rintro⟨k,i',w⟩ ⟨⟨k0,k1,k2⟩,⟨q1,q2⟩,hw⟩
   simp only at k0 k1 k2 q1 q2 hw ⊢
   have hwl:w.length=l.length:=by rw[hw,insP_len (by omega) (by omega)]
   have hso:srt D (seg l a.toNat m.toNat)=seg l a.toNat m.toNat:=srt_of hL
   have hsl:=seg_len (l:=l) (a:=a.toNat) (b:=m.toNat) (by omega) (by omega)
   refine⟨fun hk=>?_,fun hk=>?_⟩
   ·obtain⟨e1,e2,e3⟩:=@insP_at D l a.toNat m.toNat k.toNat (by omega) (by omega) (by omega)
    rw[←hw] at e1 e2 e3
    rw[show k.toNat - 1=(k - 1).toNat by omega] at e2 e3
    rw[e1,e2,e3]
    simp only[List.length_set,hwl]
    refine⟨by omega,by omega,by omega,by omega,by omega,by omega,by omega,by omega,by omega,by omega,by omega,by omega,by omega,by omega,by omega,by omega,by omega,by omega,by omega,by omega,by omega,by omega,by omega,⟨⟨by omega,by omega,by omega⟩,⟨q1,q2⟩,trivial⟩,by omega⟩
   ·have hki:k=i':=by omega
    refine orow ?_
    rw[hw,show b.toNat=m.toNat+1 by omega]
    refine insP_done (by omega) (by omega) (by omega) ?_ ?_
    ·intro s hs
     rw[hso,drop_seg2,seg_mem] at hs
     obtain⟨k',w1,w2,w3,rfl⟩:=hs
     have h9:D (nthD l k' 0)<D (nthD l m.toNat 0):=q2 k' (by omega) (by omega)
     exact leD_iff.2 (by omega)
    ·by_cases hka:k=a
     ·exact .inl (by omega)
     ·refine .inr ?_
      rw[hso,nthD_eq (show k.toNat - 1 - a.toNat<(seg l a.toNat m.toNat).length by omega),seg_get]
      have h9:¬D (nthD l (a.toNat+(k.toNat - 1 - a.toNat)) 0)<D (nthD l m.toNat 0):=q1 (a.toNat+(k.toNat - 1 - a.toNat)) (by omega) (by omega)
      have:=hxi (a.toNat+(k.toNat - 1 - a.toNat)) m.toNat (by omega) (by omega) (by omega) (by omega)
      exact leD_iff.2 (by omega)
 ·generalize hmd:(a+b) / 2=mid
  have md:2*mid≤a+b∧a+b≤2*mid+1:=by omega
  clear hmd
  have hlh:∃lo hi,lo=(if mid<m then mid+m - b else a)∧hi=(if mid<m then mid else m):=⟨_,_,rfl,rfl⟩
  obtain⟨lo,hi,elo,ehi⟩:=hlh
  rw[←elo,←ehi]
  have hlo:(mid<m∧lo=mid+m - b∧hi=mid)∨(m≤mid∧lo=a∧hi=m):=by
   rcases Int.lt_or_le mid m with h|h
   ·exact .inl ⟨h,by rw[elo,if_pos h],by rw[ehi,if_pos h]⟩
   ·exact .inr ⟨h,by rw[elo,if_neg (by omega)],by rw[ehi,if_neg (by omega)]⟩
  clear elo ehi
  have moL:∀i j:Nat,a≤i→i≤j→(j:Int)<m→D (nthD l j 0)≤D (nthD l i 0):=fun i j q1 q2 q3=>leD_den (srt_idx' hL (by omega) q2 (by omega) (by omega))
  have moR:∀i j:Nat,m≤i→i≤j→(j:Int)<b→D (nthD l j 0)≤D (nthD l i 0):=fun i j q1 q2 q3=>leD_den (srt_idx' hR (by omega) q2 (by omega) (by omega))
  have tail:∀s:Int,lo≤s→s≤hi→(∀k:Nat,lo≤k→(k:Int)<s→D (nthD l k 0)<D (nthD l (mid+m - 1 - k).toNat 0)→False)→(∀k:Nat,s≤k→(k:Int)<hi→D (nthD l k 0)<D (nthD l (mid+m - 1 - k).toNat 0))→
    symT D n k l p a m b mid s:=by
   intro s s1 s2 q1 q2
   refine symT_ok hD hc hn hl ho a0 (by omega) (by omega) (by omega) (by omega) (by omega) (by omega) (by omega) a3 hL hR hx ?_ ?_ hk
   ·rintro x y hX hY
    rw[seg_mem] at hX hY
    obtain⟨i,i1,i2,i3,rfl⟩:=hX
    obtain⟨j,j1,j2,j3,rfl⟩:=hY
    have h3:=q1 (s - 1).toNat (by omega) (by omega)
    rw[show(mid+m - 1 - ((s - 1).toNat:Int)).toNat=(mid+m - s).toNat by omega] at h3
    have h4:=moL i (s - 1).toNat (by omega) (by omega) (by omega)
    have h5:=moR (mid+m - s).toNat j (by omega) (by omega) (by omega)
    have h6:=hxi i j (by omega) (by omega) (by omega) (by omega)
    have h7:¬D (nthD l (s - 1).toNat 0)<D (nthD l (mid+m - s).toNat 0):=h3
    exact leD_iff.2 (by omega)
   ·rintro x y hX hY
    rw[seg_mem] at hX hY
    obtain⟨j,j1,j2,j3,rfl⟩:=hX
    obtain⟨i,i1,i2,i3,rfl⟩:=hY
    have h3:=q2 s.toNat (by omega) (by omega)
    have h4:=moL s.toNat i (by omega) (by omega) (by omega)
    have h5:=moR j (mid+m - 1 - (s.toNat:Int)).toNat (by omega) (by omega) (by omega)
    exact leD_iff.2 (by omega)
  refine⟨by omega,u64 (by omega) (by omega),by omega,by omega,by omega,by omega,fun hm=>⟨by omega,by omega,⟨⟨by omega,by omega,by omega⟩,fun k w1 w2=>by omega,fun k w1 w2=>by omega⟩,?_⟩,fun hm=>⟨by omega,⟨⟨by omega,by omega,by omega⟩,fun k w1 w2=>by omega,fun k w1 w2=>by omega⟩,?_⟩⟩
  all_goals
   rintro⟨i,j⟩ ⟨⟨i0,i1,i2⟩,q1,q2⟩
   simp only at i0 i1 i2 q1 q2 ⊢
   refine⟨fun hij=>?_,fun hij=>?_⟩
   ·generalize hh:(i+j) / 2=h
    have hh1:i≤h∧h<j:=by omega
    rw[hcmp _ _ (by omega) (by omega)]
    refine⟨by omega,u64 (by omega) (by omega),by omega,by omega,by omega,by omega,by omega,by omega,by omega,by omega,by omega,by omega,by omega,by omega,by omega,by omega,⟨hc,hV _ (by omega),hV _ (by omega)⟩,fun hge=>⟨by omega,⟨⟨by omega,by omega,by omega⟩,fun k w1 w2=>?_,fun k w1 w2=>q2 k w1 w2⟩,by omega⟩,fun hlt=>⟨⟨⟨by omega,by omega,by omega⟩,fun k w1 w2=>q1 k w1 w2,fun k w1 w2=>?_⟩,by omega⟩⟩
    ·have h3:=moL k h.toNat (by omega) (by omega) (by omega)
     have h4:=moR (mid+m - 1 - h).toNat (mid+m - 1 - (k:Int)).toNat (by omega) (by omega) (by omega)
     omega
    ·have h3:=moL h.toNat k (by omega) (by omega) (by omega)
     have h4:=moR (mid+m - 1 - (k:Int)).toNat (mid+m - 1 - h).toNat (by omega) (by omega) (by omega)
     omega
   ·have hij':i=j:=by omega
    have h3:=tail i i0 (by omega) q1 (fun k w1 w2=>q2 k (by omega) w2)
    exact h3
theorem hSym:∀n,HoldsO Try.prog (symC n)
 |0=>by
  rintro⟨⟨c,l,p⟩,a,m,b⟩ ⟨_,h⟩
  exact absurd h (Nat.not_lt_zero _)
 |n+1=>by
  rintro⟨⟨c,l,p⟩,a,m,b⟩ ⟨h1,h2⟩
  by_cases hc:(b - a).toNat<n
  ·exact hSym n ⟨⟨c,l,p⟩,a,m,b⟩ ⟨h1,hc⟩
  ·refine holdsO_of (symC (n+1)) (W:=W344 n) (Λ:=fun x=>Λ344 x.1.1 x.1.2.1 x.1.2.2 x.2.1 x.2.2.1 x.2.2.2) base_ok (by simp only[W344,List.forall_mem_cons,List.not_mem_nil,false_implies,implies_true,and_true];exact⟨hSym n,h351,h320⟩) (by simp)
    (show fnN 60=some F344 by kernel_rfl) (fun _=>rfl) ⟨⟨c,l,p⟩,a,m,b⟩ ?_ (symX n c l p a m b h1 h2).out
   intro d hd b' hb1 hb2 hb3
   have hd2:d=symC n:=by
    have:findO 60 (W344 n)=some (symC n):=rfl
    have hd3:findO 60 (W344 n)=some d:=hd
    rw[this] at hd3
    injection hd3 with hd3
    exact hd3.symm
   subst hd2
   have hb:(⟨⟨c,l,p⟩,a,m,b⟩:Srg×Int×Int×Int)=b':=(symC n).inj ⟨⟨c,l,p⟩,a,m,b⟩ b' hb1 hb2
   subst hb
   exact hc hb3.2
def to1 (b:Int):List Int:=[b]
def of1:List Int→Option Int
 |[a]=>some a
 |_=>none
theorem of1_ok:∀l b,of1 l=some b→l=to1 b:=fun l b h=>by
 unfold of1 at h
 split at h
 ·simp only[Option.some.injEq] at h;subst h;rfl
 ·cases h
theorem to1_inj:∀b c,to1 b=to1 c→b=c:=fun b c h=>by
 unfold to1 at h
 simp only[List.cons.injEq,and_true] at h
 exact h
def to0 (_:Unit):List Int:=[]
def of0:List Int→Option Unit
 |[]=>some ()
 |_=>none
theorem of0_ok:∀l b,of0 l=some b→l=to0 b:=fun l b h=>by
 unfold of0 at h
 split at h
 ·rfl
 ·cases h
theorem to0_inj:∀b c,to0 b=to0 c→b=c:=fun _ _ _=>rfl
theorem srtP_all {D:Int→Int} {l:List Int} {n:Nat} (h:n=l.length):srtP D l 0 n=srt D l:=by
 subst h
 unfold srtP seg
 simp
def m20 (D:Int→Int) (l:List Int):List Int:=srt D (l.take 20)++(srt D (l.drop 20)++[])
theorem srtP_20 {D:Int→Int} {l:List Int} (h:20≤l.length):srtP D l 0 20=srt D (l.take 20)++(l.drop 20++[]):=by
 unfold srtP seg
 simp
theorem srtP_m20 {D:Int→Int} {l:List Int} {n:Nat} (hn:n=l.length) (h:20≤l.length):srtP D (srtP D l 0 20) 20 n=m20 D l:=by
 have hl:(srt D (l.take 20)).length=20:=by rw[srt_len,List.length_take];omega
 rw[srtP_20 h]
 exact srtP_mid hl.symm (by rw[List.length_drop];omega)
theorem m20_len {D:Int→Int} {l:List Int}:(m20 D l).length=l.length:=by
 unfold m20
 rw[List.append_nil,List.length_append,srt_len,srt_len,←List.length_append,List.take_append_drop]
theorem m20_perm {D:Int→Int} {l:List Int}:(m20 D l).Perm l:=by
 unfold m20
 rw[List.append_nil]
 refine(srt_perm.append srt_perm).trans ?_
 rw[List.take_append_drop]
theorem m20_seg {D:Int→Int} {l:List Int} {n:Nat} (hn:n=l.length) (h:20≤l.length):seg (m20 D l) 0 20=srt D (l.take 20)∧seg (m20 D l) 20 n=srt D (l.drop 20):=by
 have hl:(srt D (l.take 20)).length=20:=by rw[srt_len,List.length_take];omega
 refine⟨?_,?_⟩
 ·have:=@seg_mid [] (srt D (l.take 20)) (srt D (l.drop 20)++[]) 0 20 rfl (by rw[hl];rfl)
  exact this
 ·exact seg_mid hl.symm (by rw[srt_len,srt_len,List.length_take,List.length_drop];omega)
theorem m20_srt {D:Int→Int} {l:List Int} {n:Nat} (hn:n=l.length):srtP D (m20 D l) 0 n=srt D l:=by
 rw[srtP_all (by rw[m20_len];exact hn)]
 exact srt_eq (srt_perm.trans m20_perm) srt_srt
theorem seg_after {D:Int→Int} {l:List Int} {b c d:Nat} (h:b≤c) (hb:b≤l.length):seg (srtP D l 0 b) c d=seg l c d:=by
 have hl:(srt D (seg l 0 b)).length=b:=by rw[srt_len,seg_len (by omega) hb];omega
 unfold srtP
 have:(l.take 0++srt D (seg l 0 b)++l.drop b).drop c=l.drop c:=by
  rw[List.take_zero,List.nil_append,List.drop_append,List.drop_eq_nil_of_le (by omega),List.nil_append,List.drop_drop,hl,show b+(c - b)=c by omega]
 show((l.take 0++srt D (seg l 0 b)++l.drop b).drop c).take (d - c)=(l.drop c).take (d - c)
 rw[this]
theorem m20_dom {l:List Int} {p:Prob} {n:Nat} (hc:checkE p=0) (hn:n=l.length) (h:20<l.length) (hl:l.length≤1000) (ho:∀x∈l,inO p x) (hi:l.Pairwise (·<·)):symD ((n,m20 (denI p) l,p),0,20,(l.length:Int)):=by
 obtain⟨s1,s2⟩:=@m20_seg (denI p) l l.length rfl (by omega)
 refine⟨⟨⟨hc,by simp only[m20_len];exact hn⟩,by simp only[m20_len];exact hl,fun x hx=>ho x (m20_perm.mem_iff.1 hx)⟩,⟨by simp only;omega,by simp only;omega,by simp only;omega,by simp only[m20_len];omega⟩,?_,?_,?_⟩
 ·show Srt _ (seg _ 0 20)
  rw[s1];exact srt_srt
 ·show Srt _ (seg _ 20 _)
  rw[show((l.length:Int)).toNat=l.length by omega,s2];exact srt_srt
 ·show ∀x∈seg _ 0 20,∀y∈seg _ 20 _,x<y
  rw[show((l.length:Int)).toNat=l.length by omega,s1,s2]
  intro x hx y hy
  rw[srt_mem] at hx hy
  have:=List.take_append_drop 20 l
  rw[←this,List.pairwise_append] at hi
  exact hi.2.2 x hx y hy
def r333:OCtr:=sortCtr 44 1 Int to1 of1 (fun _=>rfl) of1_ok to1_inj (fun a=>(offL a.1∧a.1.2.1.Pairwise (·<·))∧a.2=a.1.2.1.length∧a.1.2.1.length≤40) fun a=>srt (denI a.1.2.2) a.1.2.1
def Λ333 (n:Nat) (l:List Int) (p:Prob):Nat→LoopAnn
 |2=> .inv (Int×Int×List Int) (fun x=>⟨[(0,.ow 0 n 1),(1,.si .i64 l.length),(2,.fn (.func 25) [] [.ptr 1 0 20]),(6,.si .i64 20),(7,.si .i64 x.1),(8,.si .i64 x.2.1)],[.row (.i .i64) x.2.2 3 true,.cells p.ss 27 20 false]⟩) (fun s=>(iS s 7,iS s 8,oS (.i .i64) s 0))
   (fun x=>x.2.1=x.1+20∧(x.1=0∧x.2.2=l∨x.1=20∧20≤l.length∧x.2.2=srtP (denI p) l 0 20∨x.1=40∧l.length=40∧x.2.2=srtP (denI p) (srtP (denI p) l 0 20) 20 40)) (fun x=>(1000 - x.1).toNat) fun _ _=> .look
 |7=> .inv (Int×List Int) (fun x=>⟨[(0,.ow 0 n 1),(1,.si .i64 l.length),(2,.fn (.func 25) [] [.ptr 1 0 20]),(6,.si .i64 x.1)],[.row (.i .i64) x.2 3 true,.cells p.ss 27 20 false]⟩) (fun s=>(iS s 6,oS (.i .i64) s 0))
   (fun x=>x.1=20∧(l.length≤20∧x.2=srt (denI p) l∨20<l.length∧x.2=m20 (denI p) l)∨x.1=40∧x.2=srt (denI p) l) (fun x=>(1000 - x.1).toNat) fun x k=>match k with
    |9=> .inv (Int×Int×List Int) (fun y=>⟨[(0,.ow 0 n 1),(1,.si .i64 l.length),(2,.fn (.func 25) [] [.ptr 1 0 20]),(6,.si .i64 x.1),(7,.si .i64 y.1),(8,.si .i64 y.2.1)],[.row (.i .i64) y.2.2 3 true,.cells p.ss 27 20 false]⟩) (fun s=>(iS s 7,iS s 8,oS (.i .i64) s 0))
      (fun y=>y.1=0∧y.2.1=40∧y.2.2=m20 (denI p) l∨y.1=40∧y.2.1=80∧l.length=40∧y.2.2=srt (denI p) l) (fun y=>(1000 - y.1).toNat) fun _ _=> .look
    |_=> .look
 |_=> .look
theorem h333:HoldsO Try.prog r333:=by
 refine conO (L:=[]) (W:=[r343,symC 1001]) r333 F333 (fun a=>Λ333 a.1.1 a.1.2.1 a.1.2.2) (by simp only[List.forall_mem_cons,List.not_mem_nil,false_implies,implies_true,and_true];exact⟨h343,hSym 1001⟩) (by simp) (by kernel_rfl) (fun _=>rfl) (by kernel_rfl) ?_
 rintro⟨⟨n,l,p⟩,N⟩ ⟨⟨⟨⟨hc,hn⟩,hl,ho⟩,hi⟩,hN,h40⟩
 simp only at hc hn hl ho hi hN h40
 subst hN
 refine vcOf (let z0:=SV.ow 0 n 1;let z1:=(↑l.length:Int);let z2:=SV.si .i64 z1;let z3:=SV.fn (Fn.func 25) [] [SV.ptr 1 0 20];let z4:=SV.si .i64 20;let z5:=SId.i .i64;let z6:=SObj.row z5 l 3 true;let z7:=SObj.cells [SV.si .i64 p.supply.a0,SV.si .i64 p.supply.a1,SV.si .i64 p.supply.a2,SV.si .i64 p.supply.a3,SV.si .i64 p.supply.a4,SV.si .i64 p.supply.a5,SV.si .i64 p.opn.a0,SV.si .i64 p.opn.a1,SV.si .i64 p.opn.a2,SV.si .i64 p.opn.a3,SV.si .i64 p.opn.a4,SV.si .i64 p.opn.a5,SV.si .i64 p.cls.a0,SV.si .i64 p.cls.a1,SV.si .i64 p.cls.a2,SV.si .i64 p.cls.a3,SV.si .i64 p.cls.a4,SV.si .i64 p.cls.a5,SV.row z5 p.classes,SV.row SId.off p.offers] 27 20 false;let z8:=srtP (denI p) l 0 20;let z9:=srtP (denI p) z8 20 40;let z10:=srt (denI p) l;let z11:=m20 (denI p) l;(((z0.same z0∧z2.same z2∧z3.same z3∧(SV.il .i64 20).same z4∧(SV.il .i64 0).same (SV.si .i64 0)∧(SV.il .i64 20).same z4∧True)∧z6.same z6∧z7.same z7∧True)∧(20:Int)=(20:Int)∧((0:Int)=(0:Int)∧l=l∨(0:Int)=(20:Int)∧20≤l.length∧l=z8∨(0:Int)=(40:Int)∧l.length=40∧l=z9))∧∀(x:Int×Int×List Int),let z12:=decide (x.snd.fst≤z1);let z13:=x.fst.toNat;let z14:=x.snd.fst+(20:Int);let z15:=SV.si .i64 x.snd.fst;let z16:=SV.si .i64 z14;let z17:=srtP (denI p) x.snd.snd z13 x.snd.fst.toNat;let z18:=SObj.row z5 z17 3 true;let z19:=srtP (denI p) x.snd.snd z13 z1.toNat;let z20:=SObj.row z5 z19 3 true;x.snd.fst=x.fst+(20:Int)∧(x.fst=(0:Int)∧x.snd.snd=l∨x.fst=(20:Int)∧20≤l.length∧x.snd.snd=z8∨x.fst=(40:Int)∧l.length=40∧x.snd.snd=z9)→(z12=true→(offL (n,x.snd.snd,p)∧rngL x.snd.snd x.fst x.snd.fst∧List.Pairwise (fun x1 x2 ↦x1<x2) (seg x.snd.snd z13 x.snd.fst.toNat))∧inR .i64 z14∧((z0.same z0∧z2.same z2∧z3.same z3∧z4.same z4∧z15.same z15∧z16.same z16∧True)∧z18.same z18∧z7.same z7∧True)∧(z14=z14∧(x.snd.fst=(0:Int)∧z17=l∨x.snd.fst=(20:Int)∧20≤l.length∧z17=z8∨x.snd.fst=(40:Int)∧l.length=40∧z17=z9))∧((1000:Int) - x.snd.fst).toNat<((1000:Int) - x.fst).toNat)∧(z12=false→(offL (n,x.snd.snd,p)∧rngL x.snd.snd x.fst z1∧List.Pairwise (fun x1 x2 ↦x1<x2) (seg x.snd.snd z13 z1.toNat))∧(((z0.same z0∧z2.same z2∧z3.same z3∧z4.same z4∧True)∧z20.same z20∧z7.same z7∧True)∧((20:Int)=(20:Int)∧(l.length≤20∧z19=z10∨20<l.length∧z19=z11)∨(20:Int)=(40:Int)∧z19=z10))∧∀(x:Int×List Int),let z21:=(2:Int)*x.fst;let z22:=SV.si .i64 x.fst;let z23:=SV.si .i64 z21;let z24:=SObj.row z5 x.snd 3 true;let z25:=x.fst*(2:Int);let z26:=SV.si .i64 z25;x.fst=(20:Int)∧(l.length≤20∧x.snd=z10∨20<l.length∧x.snd=z11)∨x.fst=(40:Int)∧x.snd=z10→(decide (x.fst<z1)=true→inR .i64 z21∧(((z0.same z0∧z2.same z2∧z3.same z3∧z22.same z22∧(SV.il .i64 0).same (SV.si .i64 0)∧z23.same z23∧True)∧z24.same z24∧z7.same z7∧True)∧((0:Int)=(0:Int)∧z21=(40:Int)∧x.snd=z11∨(0:Int)=(40:Int)∧z21=(80:Int)∧l.length=40∧x.snd=z10))∧∀(x_1:Int×Int×List Int),let z27:=decide (x_1.snd.fst≤z1);let z28:=x_1.fst+x.fst;let z29:=x_1.snd.fst+z21;let z30:=SV.si .i64 x_1.snd.fst;let z31:=SV.si .i64 z29;let z32:=srtP (denI p) x_1.snd.snd x_1.fst.toNat x_1.snd.fst.toNat;let z33:=SObj.row z5 z32 3 true;let z34:=srtP (denI p) x_1.snd.snd x_1.fst.toNat z1.toNat;let z35:=SObj.row z5 z34 3 true;let z36:=SObj.row z5 x_1.snd.snd 3 true;x_1.fst=(0:Int)∧x_1.snd.fst=(40:Int)∧x_1.snd.snd=z11∨x_1.fst=(40:Int)∧x_1.snd.fst=(80:Int)∧l.length=40∧x_1.snd.snd=z10→(z27=true→inR .i64 z28∧(symD ((n,x_1.snd.snd,p),x_1.fst,z28,x_1.snd.fst)∧(x_1.snd.fst - x_1.fst).toNat<1001)∧inR .i64 z21∧inR .i64 z29∧((z0.same z0∧z2.same z2∧z3.same z3∧z22.same z22∧z30.same z30∧z31.same z31∧True)∧z33.same z33∧z7.same z7∧True)∧(x_1.snd.fst=(0:Int)∧z29=(40:Int)∧z32=z11∨x_1.snd.fst=(40:Int)∧z29=(80:Int)∧l.length=40∧z32=z10)∧((1000:Int) - x_1.snd.fst).toNat<((1000:Int) - x_1.fst).toNat)∧(z27=false→inR .i64 z28∧(decide (z28<z1)=true→(symD ((n,x_1.snd.snd,p),x_1.fst,z28,z1)∧(z1 - x_1.fst).toNat<1001)∧inR .i64 z25∧((z0.same z0∧z2.same z2∧z3.same z3∧z26.same z26∧True)∧z35.same z35∧z7.same z7∧True)∧(z25=(20:Int)∧(l.length≤20∧z34=z10∨20<l.length∧z34=z11)∨z25=(40:Int)∧z34=z10)∧((1000:Int) - z25).toNat<((1000:Int) - x.fst).toNat)∧(decide (z28<z1)=false→inR .i64 z25∧((z0.same z0∧z2.same z2∧z3.same z3∧z26.same z26∧True)∧z36.same z36∧z7.same z7∧True)∧(z25=(20:Int)∧(l.length≤20∧x_1.snd.snd=z10∨20<l.length∧x_1.snd.snd=z11)∨z25=(40:Int)∧x_1.snd.snd=z10)∧((1000:Int) - z25).toNat<((1000:Int) - x.fst).toNat)))∧(decide (x.fst<z1)=false→(SV.tup []).same (SV.tup [])∧z24.same (SObj.row z5 z10 3 true)∧z7.same z7∧True))) (by kernel_rfl) ?_
 simp only[vcs]
 have pw:∀a b,(seg l a b).Pairwise (·<·):=fun a b=>List.Pairwise.sublist ((List.take_sublist _ _).trans (List.drop_sublist _ _)) hi
 have e0:((l.length:Int)).toNat=l.length:=by omega
 rw[e0]
 refine⟨.inl trivial,?_⟩
 rintro⟨a,b,w⟩ ⟨hb,hw⟩
 simp only at hb hw ⊢
 subst hb
 refine⟨fun h=>?_,fun h=>?_⟩
 ·rcases hw with⟨rfl,rfl⟩|⟨rfl,h2,rfl⟩|⟨rfl,h2,rfl⟩
  ·exact⟨⟨⟨⟨hc,hn⟩,hl,ho⟩,⟨by omega,by omega,by omega⟩,pw _ _⟩,by omega,.inr (.inl ⟨by omega,by omega,rfl⟩),by omega⟩
  ·have hw:=@srtP_len (denI p) l 0 20 (by omega) (by omega)
   exact⟨⟨⟨⟨hc,by simp only[hw];exact hn⟩,by simp only[hw];exact hl,fun x hx=>ho x (srtP_mem hx)⟩,⟨by omega,by omega,by rw[hw];omega⟩,by rw[seg_after (by omega) (by omega)];exact pw _ _⟩,by omega,.inr (.inr ⟨by omega,by omega,rfl⟩),by omega⟩
  ·omega
 ·refine⟨?_,?_,?_⟩
  ·rcases hw with⟨rfl,rfl⟩|⟨rfl,h2,rfl⟩|⟨rfl,h2,rfl⟩
   ·exact⟨⟨⟨hc,hn⟩,hl,ho⟩,⟨by omega,by omega,by omega⟩,pw _ _⟩
   ·have hw:=@srtP_len (denI p) l 0 20 (by omega) (by omega)
    exact⟨⟨⟨hc,by simp only[hw];exact hn⟩,by simp only[hw];exact hl,fun x hx=>ho x (srtP_mem hx)⟩,⟨by omega,by omega,by rw[hw];omega⟩,by rw[seg_after (by omega) (by omega)];exact pw _ _⟩
   ·have hw:=@srtP_len (denI p) l 0 20 (by omega) (by omega)
    have hw2:=@srtP_len (denI p) (srtP (denI p) l 0 20) 20 40 (by omega) (by omega)
    rw[hw] at hw2
    refine⟨⟨⟨hc,by simp only[hw2];exact hn⟩,by simp only[hw2];exact hl,fun x hx=>ho x (srtP_mem (srtP_mem hx))⟩,⟨by omega,by omega,by rw[hw2];omega⟩,?_⟩
    rw[h2]
    show(seg _ 40 40).Pairwise _
    rw[seg_nil]
    exact List.Pairwise.nil
  ·left
   rcases hw with⟨rfl,rfl⟩|⟨rfl,h2,rfl⟩|⟨rfl,h2,rfl⟩
   ·exact .inl ⟨by omega,srtP_all rfl⟩
   ·rcases Nat.lt_or_ge 20 l.length with h3|h3
    ·exact .inr ⟨h3,srtP_m20 rfl (by omega)⟩
    ·refine .inl ⟨h3,?_⟩
     rw[show l.length=20 by omega]
     show srtP _ _ 20 20=_
     rw[srtP_nil]
     exact srtP_all (by omega)
   ·refine .inr ⟨by omega,?_⟩
    rw[h2]
    show srtP _ _ 40 40=_
    rw[srtP_nil]
    exact srtP_m20 h2.symm (by omega)
  ·rintro⟨s,w⟩ hw
   simp only at hw ⊢
   refine⟨fun h=>?_,fun h=>orow ?_⟩
   ·have hs:s=20∧20<l.length∧w=m20 (denI p) l:=by
     rcases hw with⟨h1,h2|h2⟩|h2
     ·omega
     ·exact⟨h1,h2⟩
     ·omega
    obtain⟨rfl,h20,rfl⟩:=hs
    refine⟨by omega,.inl ⟨by omega,rfl⟩,?_⟩
    rintro⟨a,b,w⟩ hy
    simp only at hy ⊢
    have hd:=@m20_dom l p n hc hn h20 hl ho hi
    rcases hy with⟨rfl,rfl,rfl⟩|⟨rfl,rfl,h4,rfl⟩
    ·refine⟨fun h5=>?_,fun h5=>⟨by omega,fun h6=>?_,fun h6=>by omega⟩⟩
     ·have h6:l.length=40:=by omega
      refine⟨by omega,⟨?_,by omega⟩,by omega,by omega,.inr ⟨by omega,by omega,h6,m20_srt h6.symm⟩,by omega⟩
      rw[h6] at hd
      exact hd
     ·exact⟨⟨hd,by omega⟩,by omega,.inr ⟨by omega,m20_srt rfl⟩,by omega⟩
    ·refine⟨fun h5=>by omega,fun h5=>⟨by omega,fun h6=>by omega,fun h6=>⟨by omega,.inr ⟨by omega,rfl⟩,by omega⟩⟩⟩
   ·rcases hw with⟨h1,h2|h2⟩|h2
    ·exact h2.2
    ·omega
    ·exact h2.2
def r319:OCtr:=sortCtr 24 0 Unit to0 of0 (fun _=>rfl) of0_ok to0_inj (fun a=>(offL a.1∧a.1.2.1.Pairwise (·<·))∧a.1.2.1.length≤40) fun a=>srt (denI a.1.2.2) a.1.2.1
theorem h319:HoldsO Try.prog r319:=by
 refine conO (L:=[]) (W:=[r333]) r319 F319 (fun _ _=> .look) (by simpa using h333) (by simp) (by kernel_rfl) (fun _=>rfl) (by kernel_rfl) ?_
 rintro⟨⟨n,l,p⟩,u⟩ ⟨⟨⟨⟨hc,hn⟩,hl,ho⟩,hi⟩,h40⟩
 simp only at hc hn hl ho hi h40
 refine vcOf (let z0:=SObj.row (SId.i .i64) (srt (denI p) l) 3 true;let z1:=SObj.cells (Prob.ss p) 27 20 false;((offL (n,l,p)∧List.Pairwise (fun x1 x2 ↦x1<x2) l)∧(↑n:Int)=(↑l.length:Int)∧l.length≤40)∧(SV.tup []).same (SV.tup [])∧z0.same z0∧z1.same z1∧True) (by kernel_rfl) ?_
 simp only[vcs]
 exact⟨⟨⟨⟨hc,hn⟩,hl,ho⟩,hi⟩,by omega,h40⟩
def uptoI (n:Nat):List Int:=(List.range n).map fun i:Nat=>(i:Int)
theorem uptoI_len {n:Nat}:(uptoI n).length=n:=by simp[uptoI]
theorem uptoI_succ {n:Nat}:uptoI (n+1)=uptoI n++[(n:Int)]:=by simp[uptoI,List.range_succ]
theorem uptoI_lt {n:Nat}:(uptoI n).Pairwise (·<·):=by
 unfold uptoI
 rw[List.pairwise_map]
 exact List.pairwise_lt_range.imp fun h=>by omega
theorem uptoI_mem {n:Nat} {x:Int}:x∈uptoI n↔0≤x∧x<n:=by
 unfold uptoI
 rw[List.mem_map]
 constructor
 ·rintro⟨k,hk,rfl⟩
  rw[List.mem_range] at hk
  omega
 ·rintro⟨h0,h1⟩
  exact⟨x.toNat,List.mem_range.2 (by omega),by omega⟩
def filI (n i:Nat):List Int:=uptoI i++List.replicate (n - i) 0
theorem filI_len {n i:Nat} (h:i≤n):(filI n i).length=n:=by simp[filI,uptoI_len];omega
theorem filI_zero {n:Nat}:filI n 0=List.replicate n 0:=by simp[filI,uptoI]
theorem filI_all {n:Nat}:filI n n=uptoI n:=by simp[filI]
theorem filI_set {n i:Nat} (h:i<n):(filI n i).set i (i:Int)=filI n (i+1):=by
 unfold filI
 rw[List.set_append_right _ _ (by rw[uptoI_len];omega),uptoI_len,Nat.sub_self,show n - i=(n - (i+1))+1 by omega,List.replicate_succ,List.set_cons_zero,uptoI_succ,List.append_assoc]
 rfl
def ordR (p:Prob):List Int:=srt (denI p) (uptoI p.offers.length)
def r308:SCtr:=⟨9,Prob,.one codP,fun p=>p.offers.length≤40,fun p=> .row (.i .i64) (if checkE p=0 then ordR p else[])⟩
def Λ308 (p:Prob):Nat→LoopAnn
 |5=> .inv Int (fun i=>⟨[(1,.ptr 0 0 20),(3,.ow 1 (filI p.offers.length i.toNat).length 1),(13,.si .i64 p.offers.length),(14,.si .i64 i)],[.cells p.ss 27 20 false,.row (.i .i64) (filI p.offers.length i.toNat) 3 true]⟩)
   (fun s=>iS s 14) (fun i=>0≤i∧i≤p.offers.length) (fun i=>(p.offers.length - i).toNat) fun _ _=> .look
 |_=> .look
theorem h308:Holds Try.prog r308:=by
 refine con (L:=[r79]) (W:=ownT [r319]) r308 F308 Λ308 (ownT_ok (by simpa using h319)) (by simpa using h79) (by kernel_rfl) (by kernel_rfl) (fun _=>rfl) ?_
 intro(p:Prob) (hp:p.offers.length≤40)
 refine vcOf (let z0:=decide (checkE p≠(0:Int));let z1:=SId.i .i64;let z2:=SV.row z1 (if checkE p=(0:Int) then ordR p else[]);let z3:=(↑p.offers.length:Int);let z4:=SV.ptr 0 0 20;let z5:=p.offers.length;let z6:=(↑z5:Int);let z7:=SV.si .i64 z6;let z8:=SObj.cells [SV.si .i64 p.supply.a0,SV.si .i64 p.supply.a1,SV.si .i64 p.supply.a2,SV.si .i64 p.supply.a3,SV.si .i64 p.supply.a4,SV.si .i64 p.supply.a5,SV.si .i64 p.opn.a0,SV.si .i64 p.opn.a1,SV.si .i64 p.opn.a2,SV.si .i64 p.opn.a3,SV.si .i64 p.opn.a4,SV.si .i64 p.opn.a5,SV.si .i64 p.cls.a0,SV.si .i64 p.cls.a1,SV.si .i64 p.cls.a2,SV.si .i64 p.cls.a3,SV.si .i64 p.cls.a4,SV.si .i64 p.cls.a5,SV.row z1 p.classes,SV.row SId.off p.offers] 27 20 false;True∧(z0=true→(SV.row z1 []).same z2)∧(z0=false→(0:Int)≤z3∧z3≤z3∧z3*(8:Int)≤(140737488355328:Int)∧z3≤(1000000000000:Int)∧(((z4.same z4∧(SV.ow 1 z3.toNat 1).same (SV.ow 1 (filI z5 0).length 1)∧(SV.si .i64 (↑z3.toNat:Int)).same z7∧(SV.il .i64 0).same (SV.si .i64 0)∧True)∧z8.same z8∧(SObj.row z1 (List.replicate z3.toNat (0:Int)) 3 true).same (SObj.row z1 (filI z5 0) 3 true)∧True)∧(0:Int)≤(0:Int)∧(0:Int)≤z6)∧∀(x:Int),let z9:=filI z5 x.toNat;let z10:=z9.length;let z11:=x+(1:Int);let z12:=SV.si .i64 z11;(0:Int)≤x∧x≤z6→(decide (x<z6)=true→z10=z9.length∧(0:Int)≤x∧x<(↑z9.length:Int)∧z10=z9.length∧x.toNat<z9.length∧inR .i64 z11∧((z4.same z4∧(SV.ow 1 z10 1).same (SV.ow 1 (filI z5 z11.toNat).length 1)∧z7.same z7∧z12.same z12∧True)∧z8.same z8∧(SObj.row z1 (z9.set x.toNat x) 3 true).same (SObj.row z1 (filI z5 z11.toNat) 3 true)∧True)∧((0:Int)≤z11∧z11≤z6)∧(z6 - z11).toNat<(z6 - x).toNat)∧(decide (x<z6)=false→((offL (z10,z9,p)∧List.Pairwise (fun x1 x2 ↦x1<x2) z9)∧z10≤40)∧z10=(srt (denI p) z9).length∧(SV.row z1 (srt (denI p) z9)).same z2))) (by kernel_rfl) ?_
 simp only[vcs]
 refine⟨fun h=>by rw[if_neg h],fun h=>?_⟩
 have hc:checkE p=0:=Classical.not_not.1 h
 rw[if_pos hc]
 have e0:((p.offers.length:Int)).toNat=p.offers.length:=by omega
 have how:∀{x y:Nat},x=y→(SV.ow 1 x 1).same (SV.ow 1 y 1):=by rintro _ _ rfl;rfl
 rw[e0,filI_zero]
 refine⟨by omega,by omega,by omega,by omega,⟨⟨⟨how (by simp),rfl⟩,rfl⟩,by omega,by omega⟩,?_⟩
 rintro i ⟨i0,i1⟩
 have hL:=@filI_len p.offers.length i.toNat (by omega)
 refine⟨fun hi=>?_,fun hi=>?_⟩
 ·have hs:=@filI_set p.offers.length i.toNat (by omega)
  rw[show((i.toNat:Nat):Int)=i by omega] at hs
  have hL2:=@filI_len p.offers.length (i.toNat+1) (by omega)
  rw[show(i+1).toNat=i.toNat+1 by omega,hs]
  exact⟨i0,by omega,by omega,by omega,⟨how (by omega),rfl⟩,by omega,by omega⟩
 ·rw[show i.toNat=p.offers.length by omega,filI_all]
  refine⟨⟨⟨⟨⟨hc,rfl⟩,by simp only[uptoI_len];omega,fun x hx=>by have:=uptoI_mem.1 hx;exact this⟩,uptoI_lt⟩,by simp only[uptoI_len];omega⟩,by rw[srt_len],rfl⟩
def r326:SCtr:=⟨31,List Int×List Int,.cons (codR (.i .i64)) (.one (codR (.i .i64))),fun a=>a.1.length≤1000∧1≤a.2.length∧a.2.length≤1000,fun a=> .row (.i .i64) (sortI (a.1++a.2))⟩
theorem h326:Holds Try.prog r326:=by
 refine con (L:=[]) (W:=ownT [r330o,r337]) r326 F326 (fun _ _=> .look) (ownT_ok (by simpa using⟨h330o,h337⟩)) (by simp) (by kernel_rfl) (by kernel_rfl) (fun _=>rfl) ?_
 rintro⟨s,x⟩ ⟨h1,h2,h3⟩
 simp only at h1 h2 h3
 refine vcOf (let z0:=(s++x).length;s.length≤1000000∧s.length=s.length∧(s.length+x.length)*8≤140737488355328∧s.length+x.length≤1000000000000∧((s++x).length=z0∧1≤z0∧z0≤1000000)∧(s++x).length=(sortI (s++x)).length∧(SV.row (SId.i .i64) (sortI (s++x))).same (SV.row (SId.i .i64) (sortI (s++x)))) (by kernel_rfl) ?_
 conv=>zeta
 try simp only[vcs]
 have:=@sortI_len (s++x)
 rw[List.length_append] at this ⊢
 omega
def r339:SCtr:=⟨52,List Int×Int,.cons (codR (.i .i64)) (.one (codI .i64)),fun a=>a.1.length≤1000∧0≤a.2∧a.2<a.1.length,fun a=> .row (.i .i64) (a.1.take a.2.toNat++a.1.drop (a.2+1).toNat)⟩
theorem h339:Holds Try.prog r339:=by
 refine con (L:=[]) (W:=ownT [r330o,r347]) r339 F339 (fun _ _=> .look) (ownT_ok (by simpa using⟨h330o,h347⟩)) (by simp) (by kernel_rfl) (by kernel_rfl) (fun _=>rfl) ?_
 rintro⟨s,i⟩ ⟨h1,h2,h3⟩
 simp only at h1 h2 h3
 refine vcOf (let z0:=i+(1:Int);let z1:=cutI s i.toNat z0.toNat;let z2:=s.length - (z0 - i).toNat;s.length≤1000000∧inR .i64 z0∧((s.length=s.length∧1≤s.length∧s.length≤1000000)∧(0:Int)≤i∧i≤z0∧z0≤(↑s.length:Int))∧s.length=z1.length∧0+z2≤s.length∧(SV.row (SId.i .i64) (List.take z2 z1)).same (SV.row (SId.i .i64) (List.take i.toNat s++List.drop z0.toNat s))) (by kernel_rfl) ?_
 conv=>zeta
 try simp only[vcs]
 have hl:=@cutI_len s i.toNat (i+1).toNat (by omega) (by omega)
 refine⟨by omega,by omega,by omega,hl.symm,by omega,?_⟩
 unfold cutI
 rw[List.take_append_of_le_length (by rw[List.length_append,List.length_take,List.length_drop];omega),List.take_of_length_le (by rw[List.length_append,List.length_take,List.length_drop];omega)]
def idxC (c:List Int) (x:Int):Int:=if x∈c then(c.idxOf x:Int) else -1
theorem idxC_hit {c:List Int} {x:Int} {k:Nat} (h:k<c.length) (h1:∀j:Nat,j<k→nthD c j 0≠x) (h2:nthD c k 0=x):idxC c x=k:=by
 unfold idxC
 rw[if_pos (h2▸nthD_mem h)]
 congr 1
 rw[nthD_eq h] at h2
 rw[List.idxOf,List.findIdx_eq h]
 refine⟨by simp[h2],fun j hj=>?_⟩
 have:=h1 j hj
 rw[nthD_eq (by omega)] at this
 simp[this]
theorem idxC_miss {c:List Int} {x:Int} (h1:∀j:Nat,j<c.length→nthD c j 0≠x):idxC c x= -1:=by
 unfold idxC
 rw[if_neg]
 intro h
 obtain⟨k,hk,rfl⟩:=List.getElem_of_mem h
 exact h1 k hk (nthD_eq hk)
theorem idxC_pos {c:List Int} {x:Int}:0≤idxC c x↔x∈c:=by
 unfold idxC
 split
 ·rename_i h;exact⟨fun _=>h,fun _=>by omega⟩
 ·rename_i h;exact⟨fun h=>by omega,fun h'=>absurd h' h⟩
def r348:SCtr:=⟨67,List Int×Int,.cons (codR (.i .i64)) (.one (codI .i64)),fun a=>a.1.length≤1000,fun a=> .si .i64 (idxC a.1 a.2)⟩
def Λ348 (c:List Int) (x:Int):Nat→LoopAnn
 |2=> .inv Int (fun i=>⟨[(0,.row (.i .i64) c),(1,.si .i64 x),(7,.si .i64 c.length),(8,.si .i64 i)],[]⟩)
   (fun s=>iS s 8) (fun i=>(0≤i∧i≤c.length)∧∀k:Nat,(k:Int)<i→nthD c k 0≠x) (fun i=>(c.length - i).toNat) fun _ _=> .look
 |_=> .look
theorem h348:Holds Try.prog r348:=by
 refine con (L:=[]) r348 F348 (fun a=>Λ348 a.1 a.2) (OwnOK.none _) (by simp) (by kernel_rfl) (by kernel_rfl) (fun _=>rfl) ?_
 rintro⟨c,x⟩ h1
 replace h1:c.length≤1000:=h1
 refine vcOf (let z0:=SV.row (SId.i .i64) c;let z1:=(↑c.length:Int);let z2:=SV.si .i64 z1;let z3:=SV.si .i64 (idxC c x);(((z0.same z0∧(SV.si .i64 x).same (SV.si .i64 x)∧(SV.si .i64 (↑c.length:Int)).same z2∧(SV.il .i64 0).same (SV.si .i64 0)∧True)∧True)∧((0:Int)≤(0:Int)∧(0:Int)≤z1)∧∀(k:Nat),(↑k:Int)<(0:Int)→nthD c k (0:Int)≠x)∧∀(x_1:Int),let z4:=decide (x=nthD c x_1.toNat (0:Int));let z5:=x_1+(1:Int);let z6:=SV.si .i64 x;let z7:=SV.si .i64 z5;(((0:Int)≤x_1∧x_1≤z1)∧∀(k:Nat),(↑k:Int)<x_1→nthD c k (0:Int)≠x)→(decide (x_1<z1)=true→(0:Int)≤x_1∧x_1<(↑c.length:Int)∧x_1.toNat<c.length∧(z4=true→(SV.si .i64 x_1).same z3)∧(z4=false→inR .i64 z5∧((z0.same z0∧z6.same z6∧z2.same z2∧z7.same z7∧True)∧True)∧(((0:Int)≤z5∧z5≤z1)∧∀(k:Nat),(↑k:Int)<z5→nthD c k (0:Int)≠x)∧(z1 - z5).toNat<(z1 - x_1).toNat))∧(decide (x_1<z1)=false→(SV.il .i64 (-1:Int)).same z3)) (by kernel_rfl) ?_
 conv=>zeta
 try simp only[vcs]
 refine⟨⟨by omega,fun k h=>by omega⟩,?_⟩
 rintro i ⟨⟨i0,i1⟩,hk⟩
 refine⟨fun hi=>⟨i0,hi,by omega,fun he=>?_,fun he=>⟨by omega,⟨by omega,fun k h=>?_⟩,by omega⟩⟩,fun hi=>?_⟩
 ·rw[idxC_hit (k:=i.toNat) (by omega) (fun j hj=>hk j (by omega)) he.symm]
  omega
 ·by_cases h2:(k:Int)<i
  ·exact hk k h2
  ·rw[show k=i.toNat by omega]
   exact fun h=>he h.symm
 ·exact(idxC_miss fun j hj=>hk j (by omega)).symm
def r340:SCtr:=⟨53,List Int×Int,.cons (codR (.i .i64)) (.one (codI .i64)),fun a=>a.1.length≤1000,fun a=> .sb (decide (a.2∈a.1))⟩
theorem h340:Holds Try.prog r340:=by
 refine con (L:=[r348]) r340 F340 (fun _ _=> .look) (OwnOK.none _) (by simpa using h348) (by kernel_rfl) (by kernel_rfl) (fun _=>rfl) ?_
 rintro⟨c,x⟩ h1
 replace h1:c.length≤1000:=h1
 refine vcOf (c.length≤1000∧(SV.sb (decide ((0:Int)≤idxC c x))).same (SV.sb (decide (x∈c)))) (by kernel_rfl) ?_
 try simp only[vcs]
 exact⟨h1,by simp only[idxC_pos]⟩
theorem bound_bd {p:Prob} (hc:checkE p=0) {r:Int}:0≤boundS p r∧boundS p r≤4:=by
 obtain⟨_,_,g3,g4,_⟩:=good_of hc
 unfold boundS
 split
 ·omega
 ·split
  ·exact bun_nth g3 _
  ·exact bun_nth g4 _
theorem game_ok {p:Prob} (hp:p.offers.length≤1000):GameOk (gameR p):=by
 have hn:nR p≤20:=by
  unfold nR
  split
  ·rename_i hc
   have:=(good_of hc).1
   omega
  ·omega
 have hz:0<nR p→checkE p=0:=by
  unfold nR
  split
  ·exact fun _=>by assumption
  ·intro h;omega
 refine⟨⟨?_,?_,hp⟩,fun r hr=>?_,fun b hb=>?_⟩
 ·show(rowsR p (nR p)).length=(bndR p (nR p)).length
  rw[rowsR_len,bndR_len]
 ·show(bndR p (nR p)).length≤1000
  rw[bndR_len];omega
 ·obtain⟨k,hk,rfl⟩:=List.mem_map.1 (show r∈rowsR p (nR p) from hr)
  rw[List.mem_range] at hk
  have hc:=hz (by omega)
  refine⟨by simp[rowR,gameR],fun x hx=>?_⟩
  obtain⟨o,ho,rfl⟩:=List.mem_map.1 (show x∈rowR p k p.offers.length from hx)
  have:=coef_bd (p:=p) (r:=k) ((good_of hc).2.2.2.2 o (List.mem_of_mem_take ho)).2.2.1
  omega
 ·obtain⟨k,hk,rfl⟩:=List.mem_map.1 (show b∈bndR p (nR p) from hb)
  rw[List.mem_range] at hk
  have:=bound_bd (hz (by omega)) (r:=k)
  omega
def stepG (g:Game) (c:List Int) (x:Int):List Int:=if fitG g (sortI (c++[x]))=true then sortI (c++[x]) else c
def startG (g:Game) (l:List Int):List Int:=l.foldl (stepG g) []
def ordE (p:Prob):List Int:=if checkE p=0 then ordR p else[]
def startR (p:Prob):List Int:=startG (gameR p) (ordE p)
theorem sortI_mem {l:List Int} {x:Int}:x∈sortI l↔x∈l:=(List.mergeSort_perm _ _).mem_iff
theorem step_mem {g:Game} {c:List Int} {x y:Int} (h:y∈stepG g c x):y∈c∨y=x:=by
 unfold stepG at h
 split at h
 ·rw[sortI_mem] at h;simpa using h
 ·exact .inl h
theorem step_len {g:Game} {c:List Int} {x:Int}:(stepG g c x).length≤c.length+1:=by
 unfold stepG
 split
 ·rw[sortI_len];simp
 ·omega
theorem fold_mem {g:Game} {l:List Int}:∀{c:List Int} {y:Int},y∈l.foldl (stepG g) c→y∈c∨y∈l:=by
 induction l with
 |nil=>intro c y h;exact .inl h
 |cons x l ih=>
  intro c y h
  rcases ih h with h|h
  ·rcases step_mem h with h|h
   ·exact .inl h
   ·exact .inr (by simp[h])
  ·exact .inr (by simp[h])
theorem fold_len {g:Game} {l:List Int}:∀{c:List Int},(l.foldl (stepG g) c).length≤c.length+l.length:=by
 induction l with
 |nil=>intro c;simp
 |cons x l ih=>
  intro c
  have h1:=@ih (stepG g c x)
  have h2:=@step_len g c x
  simp only[List.foldl_cons,List.length_cons]
  omega
theorem start_len {g:Game} {l:List Int}:(startG g l).length≤l.length:=by
 have:=@fold_len g l []
 simpa[startG] using this
theorem start_succ {g:Game} {l:List Int} {i:Int} (h0:0≤i) (h:i<l.length):startG g (l.take (i+1).toNat)=stepG g (startG g (l.take i.toNat)) (nthD l i.toNat 0):=by
 unfold startG
 rw[take_nth (d:=0) h0 h,List.foldl_append]
 rfl
theorem ordE_mem {p:Prob} {x:Int} (h:x∈ordE p):checkE p=0∧inO p x:=by
 unfold ordE at h
 split at h
 ·rename_i hc
  rw[ordR,srt_mem,uptoI_mem] at h
  exact⟨hc,h⟩
 ·simp at h
theorem ordE_len {p:Prob}:(ordE p).length≤p.offers.length:=by
 unfold ordE
 split
 ·rw[ordR,srt_len,uptoI_len];omega
 ·simp
theorem start_idx {p:Prob} (hp:p.offers.length≤40) {k:Nat}:(startG (gameR p) ((ordE p).take k)).length≤40∧∀x∈startG (gameR p) ((ordE p).take k),checkE p=0∧inO p x:=by
 have h1:=@start_len (gameR p) ((ordE p).take k)
 have h2:=@ordE_len p
 rw[List.length_take] at h1
 refine⟨by omega,fun x hx=>?_⟩
 rcases fold_mem hx with h|h
 ·simp at h
 ·exact ordE_mem (List.mem_of_mem_take h)
def r312:SCtr:=⟨13,Prob,.one codP,fun p=>p.offers.length≤40,fun p=>codA.put ⟨startR p,valG (gameR p) (startR p)⟩⟩
def Λ312 (p:Prob):Nat→LoopAnn
 |4=> .inv Int (fun i=>⟨[(2,.ptr 1 0 2),(3,.ptr 2 0 3),(4,.row (.i .i64) (startG (gameR p) ((ordE p).take i.toNat))),(11,.row (.i .i64) (ordE p)),(12,.si .i64 (ordE p).length),(13,.si .i64 i)],[.cells p.ss 27 20 false,.cells [.sc (.slice none 0 0),.il .i64 0] 34 2 false,.cells [.row (.lst (.i .i64)) (gameR p).rows,.row (.i .i64) (gameR p).bounds,.row .off (gameR p).offers] 54 3 false,.dead]⟩)
   (fun s=>iS s 13) (fun i=>0≤i∧i≤(ordE p).length) (fun i=>((ordE p).length - i).toNat) fun _ _=> .look
 |_=> .look
theorem h312:Holds Try.prog r312:=by
 refine con (L:=[r325,r308,r326,r327,r328]) r312 F312 Λ312 (OwnOK.none _) (by simpa using⟨h325,h308,h326,h327,h328⟩) (by kernel_rfl) (by kernel_rfl) (fun _=>rfl) ?_
 intro(p:Prob) (hp:p.offers.length≤40)
 refine vcOf (let z0:=SV.ptr 1 0 2;let z1:=SV.ptr 2 0 3;let z2:=SId.i .i64;let z3:=if checkE p=(0:Int) then ordR p else[];let z4:=SV.row z2 (ordE p);let z5:=(↑(ordE p).length:Int);let z6:=SV.si .i64 z5;let z7:=SV.il .i64 0;let z8:=SObj.cells [SV.si .i64 p.supply.a0,SV.si .i64 p.supply.a1,SV.si .i64 p.supply.a2,SV.si .i64 p.supply.a3,SV.si .i64 p.supply.a4,SV.si .i64 p.supply.a5,SV.si .i64 p.opn.a0,SV.si .i64 p.opn.a1,SV.si .i64 p.opn.a2,SV.si .i64 p.opn.a3,SV.si .i64 p.opn.a4,SV.si .i64 p.opn.a5,SV.si .i64 p.cls.a0,SV.si .i64 p.cls.a1,SV.si .i64 p.cls.a2,SV.si .i64 p.cls.a3,SV.si .i64 p.cls.a4,SV.si .i64 p.cls.a5,SV.row z2 p.classes,SV.row SId.off p.offers] 27 20 false;let z9:=SObj.cells [SV.sc (Value.slice none 0 0),z7] 34 2 false;let z10:=SObj.cells [SV.row z2.lst (gameR p).rows,SV.row z2 (gameR p).bounds,SV.row SId.off (gameR p).offers] 54 3 false;True∧0=0∧p.offers.length≤40∧(((z0.same z0∧z1.same z1∧(SV.row z2 []).same (SV.row z2 (startG (gameR p) []))∧(SV.row z2 z3).same z4∧(SV.si .i64 (↑z3.length:Int)).same z6∧z7.same (SV.si .i64 0)∧True)∧z8.same z8∧z9.same z9∧z10.same z10∧SObj.dead.same SObj.dead∧True)∧(0:Int)≤(0:Int)∧(0:Int)≤z5)∧∀(x:Int),let z11:=startG (gameR p) (List.take x.toNat (ordE p));let z12:=sortI (z11++[nthD (ordE p) x.toNat (0:Int)]);let z13:=x+(1:Int);let z14:=SV.row z2 (startG (gameR p) (List.take z13.toNat (ordE p)));let z15:=SV.si .i64 z13;(0:Int)≤x∧x≤z5→(decide (x<z5)=true→(0:Int)≤x∧x<(↑(ordE p).length:Int)∧x.toNat<(ordE p).length∧(z11.length≤1000∧1≤1∧1≤1000)∧(GameOk (gameR p)∧idxOk (gameR p) z12)∧(fitG (gameR p) z12=true→inR .i64 z13∧((z0.same z0∧z1.same z1∧(SV.row z2 z12).same z14∧z4.same z4∧z6.same z6∧z15.same z15∧True)∧z8.same z8∧z9.same z9∧z10.same z10∧SObj.dead.same SObj.dead∧True)∧((0:Int)≤z13∧z13≤z5)∧(z5 - z13).toNat<(z5 - x).toNat)∧(fitG (gameR p) z12=false→inR .i64 z13∧((z0.same z0∧z1.same z1∧(SV.row z2 z11).same z14∧z4.same z4∧z6.same z6∧z15.same z15∧True)∧z8.same z8∧z9.same z9∧z10.same z10∧SObj.dead.same SObj.dead∧True)∧((0:Int)≤z13∧z13≤z5)∧(z5 - z13).toNat<(z5 - x).toNat))∧(decide (x<z5)=false→(GameOk (gameR p)∧idxOk (gameR p) z11∧valOk (gameR p) z11)∧(SV.agg [SV.row z2 z11,SV.si .i64 (valG (gameR p) z11)]).same (SV.agg [SV.row z2 (startR p),SV.si .i64 (valG (gameR p) (startR p))]))) (by kernel_rfl) ?_
 conv=>zeta
 try simp only[vcs]
 have hg:=@game_ok p (by omega)
 have hol:=@ordE_len p
 have e0:(if checkE p=0 then ordR p else[])=ordE p:=rfl
 rw[e0]
 refine⟨hp,⟨⟨rfl,rfl,rfl⟩,by omega,by omega⟩,?_⟩
 ·rintro i ⟨i0,i1⟩
  obtain⟨hsl,hsm⟩:=@start_idx p hp i.toNat
  refine⟨fun hi=>?_,fun hi=>?_⟩
  ·have hs:=@start_succ (gameR p) (ordE p) i i0 hi
   have hx:=ordE_mem (nthD_mem (d:=0) (show i.toNat<(ordE p).length by omega))
   rw[hs]
   generalize startG (gameR p) ((ordE p).take i.toNat)=c at*
   refine⟨i0,hi,by omega,⟨by omega,by omega,by omega⟩,⟨hg,by rw[sortI_len,List.length_append];simp;omega,fun x h=>?_⟩,fun h=>⟨by omega,by unfold stepG;rw[if_pos h],by omega,by omega⟩,fun h=>⟨by omega,by unfold stepG;rw[if_neg (by rw[h];simp)],by omega,by omega⟩⟩
   rw[sortI_mem,List.mem_append] at h
   rcases h with h|h
   ·exact(hsm x h).2
   ·rw[List.mem_singleton] at h
    rw[h];exact hx.2
  ·have hk:(ordE p).take i.toNat=ordE p:=List.take_of_length_le (by omega)
   rw[hk] at hsl hsm ⊢
   refine⟨⟨hg,⟨by omega,fun x h=>(hsm x h).2⟩,fun x h=>?_⟩,rfl⟩
   obtain⟨hc,hx⟩:=hsm x h
   have:=(off_ok hc hx).1
   have e:(nthD (gameR p).offers x.toNat SId.off.dflt).value=valO p x:=rfl
   rw[e]
   omega
def gSS (g:Game):List SV:=[.row (.lst (.i .i64)) g.rows,.row (.i .i64) g.bounds,.row .off g.offers]
def decGame:List SV→Option Game
 |[r,v,x]=>match decRow (.lst (.i .i64)) r,decRow (.i .i64) v,decRow .off x with
  |some c,some v,some x=>some ⟨c,v,x⟩
  |_,_,_=>none
 |_=>none
theorem decGame_ok {cs:List SV} {g:Game} (h:decGame cs=some g):gL cs=gL (gSS g):=by
 unfold decGame at h
 split at h
 ·split at h
  ·rename_i h1 h2 h3
   simp only[Option.some.injEq] at h;subst h
   simp only[gSS,gL,decRow_ok h1,decRow_ok h2,decRow_ok h3]
  ·cases h
 ·cases h
theorem gSS_inj {g g':Game} (h:gL (gSS g)=gL (gSS g')):g=g':=codG.inj g g' (by
 show AV.agg (gL (gSS g))=AV.agg (gL (gSS g'))
 rw[h])
def betG (g:Game) (v:Int) (c:List Int):Bool:=decide (v<valG g c)&&fitG g c
def r338:OCtr where
 f:=51
 α:=List Int×Game×Int
 put a:=[.row (.i .i64) a.1,.ptr 0 0 3,.ptr 1 0 1]
 st a:=[.cells (gSS a.2.1) 54 3 false,.cells [.si .i64 a.2.2] 2 1 false]
 dec v o:=match v,o with
  |[x,.ptr 0 0 3,.ptr 1 0 1],[.cells cs 54 3 false,.cells [y] 2 1 false]=>match decRow (.i .i64) x,decGame cs,y.int .i64 with
   |some x,some g,some y=>some (x,g,y)
   |_,_,_=>none
  |_,_=>none
 ok v o a h:=by
  split at h
  ·split at h
   ·rename_i h1 h2 h3
    simp only[Option.some.injEq] at h;subst h
    refine⟨by simp only[gL,decRow_ok h1],?_⟩
    simp only[gO,List.map_cons,List.map_nil,SObj.g,decGame_ok h2,gL,int_g h3]
    rfl
   ·cases h
  ·cases h
 inj a b h1 h2:=by
  simp only[gL,List.cons.injEq,and_true,SV.g,AV.sl.injEq] at h1
  simp only[gO,List.map_cons,List.map_nil,SObj.g,List.cons.injEq,AObj.cells.injEq,and_true,gL,SV.g,AV.sc.injEq,Value.int.injEq,true_and] at h2
  have h3:=gSS_inj h2.1
  have h4:=flatA_inj (.i .i64) h1.1 h1.2
  exact Prod.ext h4 (Prod.ext h3 h2.2)
 dom a:=GameOk a.2.1∧idxOk a.2.1 a.1∧valOk a.2.1 a.1
 res a:=.sb (betG a.2.1 a.2.2 a.1)
 out a:=[.cells (gSS a.2.1) 54 3 false,.cells [.si .i64 a.2.2] 2 1 false]
theorem h338:HoldsO Try.prog r338:=by
 refine conO (L:=[r327,r328]) (W:=[]) r338 F338 (fun _ _=> .look) (by simp) (by simpa using⟨h327,h328⟩) (by kernel_rfl) (fun _=>rfl) (by kernel_rfl) ?_
 rintro⟨c,g,v⟩ ⟨h1,h2,h3⟩
 simp only at h1 h2 h3
 refine vcOf (let z0:=decide (v<valG g c);let z1:=SObj.cells [SV.row (SId.i .i64).lst g.rows,SV.row (SId.i .i64) g.bounds,SV.row SId.off g.offers] 54 3 false;let z2:=SObj.cells [SV.si .i64 v] 2 1 false;(GameOk g∧idxOk g c∧valOk g c)∧(z0=true→(GameOk g∧idxOk g c)∧(SV.sb (fitG g c)).same (SV.sb (betG g v c))∧z1.same z1∧z2.same z2∧True)∧(z0=false→(SV.bl false).same (SV.sb (betG g v c))∧z1.same z1∧z2.same z2∧True)) (by kernel_rfl) ?_
 conv=>zeta
 try simp only[vcs]
 refine⟨⟨h1,h2,h3⟩,fun h=>⟨⟨h1,h2⟩,?_⟩,fun h=>?_⟩
 ·unfold betG;rw[decide_eq_true h,Bool.true_and]
 ·unfold betG;rw[decide_eq_false h,Bool.false_and]
def ex3 (g:Game) (c:List Int) (v:Int) (rest:List Int) (o k:Int):Option (List Int):=if k≤o∨k∈c then none else if betG g v (sortI (rest++[o,k]))=true then some (sortI (rest++[o,k])) else none
def ex2 (g:Game) (c:List Int) (v:Int) (rest:List Int) (o:Int):Option (List Int):=if o∈c then none else if betG g v (sortI (rest++[o]))=true then some (sortI (rest++[o])) else(List.range g.offers.length).findSome? fun k:Nat=>ex3 g c v rest o k
def outI (c:List Int) (i:Nat):List Int:=c.take i++c.drop (i+1)
def ex1 (g:Game) (c:List Int) (v:Int) (i:Nat):Option (List Int):=(List.range g.offers.length).findSome? fun o:Nat=>ex2 g c v (outI c i) o
def exG (g:Game) (c:List Int):Option (List Int):=(List.range c.length).findSome? fun i=>ex1 g c (valG g c) i
theorem find_none {n:Nat} {f:Nat→Option (List Int)} (h:∀i,i<n→f i=none):(List.range n).findSome? f=none:=by
 rw[List.findSome?_eq_none_iff]
 intro i hi
 exact h i (List.mem_range.1 hi)
theorem find_some {n i:Nat} {f:Nat→Option (List Int)} {t:List Int} (hi:i<n) (h:∀j,j<i→f j=none) (ht:f i=some t):(List.range n).findSome? f=some t:=by
 have e:List.range n=List.range i++(i::(List.range (n - (i+1))).map fun k=>i+1+k):=by
  have h1:=@List.range_add i (n - i)
  rw[show i+(n - i)=n by omega] at h1
  rw[h1,show n - i=(n - (i+1))+1 by omega,List.range_succ_eq_map]
  simp only[List.map_cons,List.map_map,Nat.add_zero]
  congr 2
  apply List.map_congr_left
  intro k _
  simp only[Function.comp]
  omega
 rw[e,List.findSome?_append,find_none h]
 simp[ht]
def gAll (g:Game):Prop:=GameOk g∧∀o∈g.offers,0≤o.value∧o.value≤1000000
def r331:SCtr:=⟨37,Game×List Int,.cons codG (.one (codR (.i .i64))),fun a=>gAll a.1∧(a.2.length≤900∧∀x∈a.2,0≤x∧x<a.1.offers.length),fun a=> .tup [.row (.i .i64) ((exG a.1 a.2).getD []),.sb (exG a.1 a.2).isSome]⟩
def st331 (g:Game) (c:List Int):SStore:=[.cells (gSS g) 54 3 false,.cells [.si .i64 (valG g c)] 2 1 false]
def Λ331 (g:Game) (c:List Int):Nat→LoopAnn
 |4=> .inv Int (fun i=>⟨[(1,.row (.i .i64) c),(2,.ptr 0 0 3),(7,.fn (.func 51) [] [.ptr 0 0 3,.ptr 1 0 1]),(19,.si .i64 c.length),(20,.si .i64 i)],st331 g c⟩)
   (fun s=>iS s 20) (fun i=>(0≤i∧i≤c.length)∧∀k:Nat,(k:Int)<i→ex1 g c (valG g c) k=none) (fun i=>(c.length - i).toNat) fun i k=>match k with
   |8=> .inv Int (fun o=>⟨[(1,.row (.i .i64) c),(2,.ptr 0 0 3),(7,.fn (.func 51) [] [.ptr 0 0 3,.ptr 1 0 1]),(9,.row (.i .i64) (outI c i.toNat)),(19,.si .i64 c.length),(20,.si .i64 i),(28,.si .i64 g.offers.length),(29,.si .i64 o)],st331 g c⟩)
     (fun s=>iS s 29) (fun o=>(0≤o∧o≤g.offers.length)∧∀k:Nat,(k:Int)<o→ex2 g c (valG g c) (outI c i.toNat) k=none) (fun o=>(g.offers.length - o).toNat) fun o k=>match k with
     |15=> .inv Int (fun z=>⟨[(1,.row (.i .i64) c),(2,.ptr 0 0 3),(7,.fn (.func 51) [] [.ptr 0 0 3,.ptr 1 0 1]),(9,.row (.i .i64) (outI c i.toNat)),(10,.si .i64 o),(12,.si .i64 z),(19,.si .i64 c.length),(20,.si .i64 i),(28,.si .i64 g.offers.length),(29,.si .i64 o)],st331 g c⟩)
       (fun s=>iS s 12) (fun z=>(o<z∧z≤g.offers.length)∧∀k:Nat,(k:Int)<z→ex3 g c (valG g c) (outI c i.toNat) o k=none) (fun z=>(g.offers.length - z).toNat) fun _ _=> .look
     |_=> .look
   |_=> .look
 |_=> .look
theorem h331:Holds Try.prog r331:=by
 refine con (L:=[r326,r328,r339,r340]) (W:=ownT [r338]) r331 F331 (fun a=>Λ331 a.1 a.2) (ownT_ok (by simpa using h338)) (by simpa using⟨h326,h328,h339,h340⟩) (by kernel_rfl) (by kernel_rfl) (fun _=>rfl) ?_
 rintro⟨g,c⟩ ⟨⟨hg,hv⟩,hcl,hci⟩
 simp only at hg hv hcl hci
 refine vcOf (let z0:=SId.i .i64;let z1:=SV.ptr 0 0 3;let z2:=SV.fn (Fn.func 51) [] [z1,SV.ptr 1 0 1];let z3:=(↑c.length:Int);let z4:=SV.si .i64 z3;let z5:=SObj.cells [SV.row z0.lst g.rows,SV.row z0 g.bounds,SV.row SId.off g.offers] 54 3 false;let z6:=SObj.cells [SV.si .i64 (valG g c)] 2 1 false;let z7:=(↑g.offers.length:Int);let z8:=(↑g.offers.length:Int);let z9:=SV.si .i64 z8;let z10:=SV.tup [SV.row z0 ((exG g c).getD []),SV.sb (exG g c).isSome];(GameOk g∧idxOk g c∧valOk g c)∧((((SV.row z0 c).same (SV.row z0 c)∧z1.same z1∧z2.same z2∧(SV.si .i64 (↑c.length:Int)).same z4∧(SV.il .i64 0).same (SV.si .i64 0)∧True)∧z5.same z5∧z6.same z6∧True)∧((0:Int)≤(0:Int)∧(0:Int)≤z3)∧∀(k:Nat),(↑k:Int)<(0:Int)→ex1 g c (valG g c) k=none)∧∀(x:Int),let z11:=x+(1:Int);let z12:=outI c x.toNat;let z13:=SV.row z0 z12;let z14:=SV.si .i64 z11;(((0:Int)≤x∧x≤z3)∧∀(k:Nat),(↑k:Int)<x→ex1 g c (valG g c) k=none)→(decide (x<z3)=true→(c.length≤1000∧(0:Int)≤x∧x<z3)∧((((SV.row z0 c).same (SV.row z0 c)∧z1.same z1∧z2.same z2∧(SV.row z0 (List.take x.toNat c++List.drop z11.toNat c)).same z13∧z4.same z4∧(SV.si .i64 x).same (SV.si .i64 x)∧(SV.si .i64 z7).same z9∧(SV.il .i64 0).same (SV.si .i64 0)∧True)∧z5.same z5∧z6.same z6∧True)∧((0:Int)≤(0:Int)∧(0:Int)≤z8)∧∀(k:Nat),(↑k:Int)<(0:Int)→ex2 g c (valG g c) z12 (↑k:Int)=none)∧∀(x_1:Int),let z15:=x_1+(1:Int);let z16:=SV.si .i64 x;let z17:=SV.si .i64 z15;let z18:=sortI (z12++[x_1]);let z19:=betG g (valG g c) z18;(((0:Int)≤x_1∧x_1≤z8)∧∀(k:Nat),(↑k:Int)<x_1→ex2 g c (valG g c) z12 (↑k:Int)=none)→(decide (x_1<z8)=true→c.length≤1000∧(decide (x_1∈c)=true→inR .i64 z15∧(((SV.row z0 c).same (SV.row z0 c)∧z1.same z1∧z2.same z2∧z13.same z13∧z4.same z4∧z16.same z16∧z9.same z9∧z17.same z17∧True)∧z5.same z5∧z6.same z6∧True)∧(((0:Int)≤z15∧z15≤z8)∧∀(k:Nat),(↑k:Int)<z15→ex2 g c (valG g c) z12 (↑k:Int)=none)∧(z8 - z15).toNat<(z8 - x_1).toNat)∧(decide (x_1∈c)=false→(z12.length≤1000∧1≤1∧1≤1000)∧(GameOk g∧idxOk g z18∧valOk g z18)∧(z19=true→(SV.tup [SV.row z0 z18,SV.bl true]).same z10)∧(z19=false→inR .i64 z15∧((((SV.row z0 c).same (SV.row z0 c)∧z1.same z1∧z2.same z2∧z13.same z13∧(SV.si .i64 x_1).same (SV.si .i64 x_1)∧z17.same z17∧z4.same z4∧z16.same z16∧z9.same z9∧(SV.si .i64 x_1).same (SV.si .i64 x_1)∧True)∧z5.same z5∧z6.same z6∧True)∧(x_1<z15∧z15≤z8)∧∀(k:Nat),(↑k:Int)<z15→ex3 g c (valG g c) z12 x_1 (↑k:Int)=none)∧∀(x:Int),let z20:=x+(1:Int);let z21:=SV.si .i64 x_1;let z22:=SV.si .i64 z20;let z23:=sortI (z12++[x_1,x]);let z24:=betG g (valG g c) z23;((x_1<x∧x≤z8)∧∀(k:Nat),(↑k:Int)<x→ex3 g c (valG g c) z12 x_1 (↑k:Int)=none)→(decide (x<z7)=true→c.length≤1000∧(decide (x∈c)=true→inR .i64 z20∧(((SV.row z0 c).same (SV.row z0 c)∧z1.same z1∧z2.same z2∧z13.same z13∧z21.same z21∧z22.same z22∧z4.same z4∧z16.same z16∧z9.same z9∧z21.same z21∧True)∧z5.same z5∧z6.same z6∧True)∧((x_1<z20∧z20≤z8)∧∀(k:Nat),(↑k:Int)<z20→ex3 g c (valG g c) z12 x_1 (↑k:Int)=none)∧(z8 - z20).toNat<(z8 - x).toNat)∧(decide (x∈c)=false→(z12.length≤1000∧1≤2∧2≤1000)∧(GameOk g∧idxOk g z23∧valOk g z23)∧(z24=true→(SV.tup [SV.row z0 z23,SV.bl true]).same z10)∧(z24=false→inR .i64 z20∧(((SV.row z0 c).same (SV.row z0 c)∧z1.same z1∧z2.same z2∧z13.same z13∧z21.same z21∧z22.same z22∧z4.same z4∧z16.same z16∧z9.same z9∧z21.same z21∧True)∧z5.same z5∧z6.same z6∧True)∧((x_1<z20∧z20≤z8)∧∀(k:Nat),(↑k:Int)<z20→ex3 g c (valG g c) z12 x_1 (↑k:Int)=none)∧(z8 - z20).toNat<(z8 - x).toNat)))∧(decide (x<z7)=false→inR .i64 z15∧(((SV.row z0 c).same (SV.row z0 c)∧z1.same z1∧z2.same z2∧z13.same z13∧z4.same z4∧z16.same z16∧z9.same z9∧z17.same z17∧True)∧z5.same z5∧z6.same z6∧True)∧(((0:Int)≤z15∧z15≤z8)∧∀(k:Nat),(↑k:Int)<z15→ex2 g c (valG g c) z12 (↑k:Int)=none)∧(z8 - z15).toNat<(z8 - x_1).toNat))))∧(decide (x_1<z8)=false→inR .i64 z11∧(((SV.row z0 c).same (SV.row z0 c)∧z1.same z1∧z2.same z2∧z4.same z4∧z14.same z14∧True)∧z5.same z5∧z6.same z6∧True)∧(((0:Int)≤z11∧z11≤z3)∧∀(k:Nat),(↑k:Int)<z11→ex1 g c (valG g c) k=none)∧(z3 - z11).toNat<(z3 - x).toNat))∧(decide (x<z3)=false→(SV.tup [SV.row z0 [],SV.bl false]).same z10)) (by kernel_rfl) ?_
 conv=>zeta
 try simp only[vcs]
 have hvo:∀d:List Int,(∀x∈d,0≤x∧x<g.offers.length)→valOk g d:=fun d hd x hx=>hv _ (nthD_mem (by have:=hd x hx;omega))
 have hout:∀i:Nat,(outI c i).length≤900∧∀x∈outI c i,x∈c:=fun i=>by
  unfold outI
  refine⟨by rw[List.length_append,List.length_take,List.length_drop];omega,fun x hx=>?_⟩
  rw[List.mem_append] at hx
  exact hx.elim List.mem_of_mem_take List.mem_of_mem_drop
 have hnew:∀(i:Nat) (d:List Int),d.length≤2→(∀x∈d,0≤x∧x<g.offers.length)→GameOk g∧idxOk g (sortI (outI c i++d))∧valOk g (sortI (outI c i++d)):=fun i d hd hx=>by
  have h2:∀x∈sortI (outI c i++d),0≤x∧x<g.offers.length:=fun x h=>by
   rw[sortI_mem,List.mem_append] at h
   exact h.elim (fun h=>hci x ((hout i).2 x h)) (hx x)
  have:=(hout i).1
  exact⟨hg,⟨by rw[sortI_len,List.length_append];omega,h2⟩,hvo _ h2⟩
 have hg1:=hg.1
 refine⟨⟨hg,⟨by omega,hci⟩,hvo c hci⟩,⟨by omega,fun k h=>by omega⟩,?_⟩
 rintro i ⟨⟨i0,i1⟩,hi⟩
 refine⟨fun hil=>⟨⟨by omega,i0,hil⟩,⟨by unfold outI;rw[show(i+1).toNat=i.toNat+1 by omega],by omega,fun k h=>by omega⟩,?_⟩,fun hil=>?_⟩
 ·have ho:=hout i.toNat
  have found:∀t,ex1 g c (valG g c) i.toNat=some t→exG g c=some t:=fun t ht=>find_some (i:=i.toNat) (by omega) (fun j hj=>hi j (by omega)) ht
  rintro o ⟨⟨o0,o1⟩,hk⟩
  refine⟨fun hol=>⟨by omega,fun hin=>⟨by omega,⟨by omega,fun k h=>?_⟩,by omega⟩,fun hin=>⟨by omega,hnew _ _ (by simp) (by simp;omega),fun hb=>?_,fun hb=>⟨by omega,⟨by omega,fun k h=>?_⟩,?_⟩⟩⟩,fun hol=>⟨by omega,⟨by omega,fun k h=>?_⟩,by omega⟩⟩
  ·by_cases h2:(k:Int)<o
   ·exact hk k h2
   ·rw[show(k:Int)=o by omega]
    unfold ex2
    rw[if_pos hin]
  ·have h2:ex2 g c (valG g c) (outI c i.toNat) o=some (sortI (outI c i.toNat++[o])):=by
    unfold ex2
    rw[if_neg hin,if_pos hb]
   have h3:=found _ (find_some (f:=fun o:Nat=>ex2 g c (valG g c) (outI c i.toNat) o) (i:=o.toNat) (by omega) (fun j hj=>hk j (by omega)) (by simp only[show((o.toNat:Nat):Int)=o by omega];exact h2))
   rw[h3]
   exact⟨rfl,rfl⟩
  ·unfold ex3
   rw[if_pos (.inl (by omega))]
  ·rintro z ⟨⟨z0,z1⟩,hz⟩
   refine⟨fun hzl=>⟨by omega,fun hin2=>⟨by omega,⟨by omega,fun k h=>?_⟩,by omega⟩,fun hin2=>⟨by omega,hnew _ _ (by simp) (by simp;omega),fun hb2=>?_,fun hb2=>⟨by omega,⟨by omega,fun k h=>?_⟩,by omega⟩⟩⟩,fun hzl=>⟨by omega,⟨by omega,fun k h=>?_⟩,by omega⟩⟩
   ·by_cases h2:(k:Int)<z
    ·exact hz k h2
    ·rw[show(k:Int)=z by omega]
     unfold ex3
     rw[if_pos (.inr hin2)]
   ·have h4:¬z≤o:=by omega
    have h5:ex3 g c (valG g c) (outI c i.toNat) o z=some (sortI (outI c i.toNat++[o,z])):=by
     unfold ex3
     rw[if_neg (fun h=>h.elim h4 hin2),if_pos hb2]
    have h2:ex2 g c (valG g c) (outI c i.toNat) o=some (sortI (outI c i.toNat++[o,z])):=by
     unfold ex2
     rw[if_neg hin,if_neg (by rw[hb];simp)]
     exact find_some (f:=fun k:Nat=>ex3 g c (valG g c) (outI c i.toNat) o k) (i:=z.toNat) (by omega) (fun j hj=>hz j (by omega)) (by simp only[show((z.toNat:Nat):Int)=z by omega];exact h5)
    have h3:=found _ (find_some (f:=fun o:Nat=>ex2 g c (valG g c) (outI c i.toNat) o) (i:=o.toNat) (by omega) (fun j hj=>hk j (by omega)) (by simp only[show((o.toNat:Nat):Int)=o by omega];exact h2))
    rw[h3]
    exact⟨rfl,rfl⟩
   ·by_cases h2:(k:Int)<z
    ·exact hz k h2
    ·rw[show(k:Int)=z by omega]
     unfold ex3
     rw[hb2]
     simp
   ·by_cases h2:(k:Int)<o
    ·exact hk k h2
    ·rw[show(k:Int)=o by omega]
     unfold ex2
     rw[if_neg hin,if_neg (by rw[hb];simp)]
     exact find_none fun j hj=>hz j (by omega)
  ·by_cases h2:(k:Int)<i
   ·exact hi k h2
   ·rw[show k=i.toNat by omega]
    exact find_none fun j hj=>hk j (by omega)
 ·have:exG g c=none:=find_none fun j hj=>hi j (by omega)
  rw[this]
  exact⟨rfl,rfl⟩
def ascOk (n:Nat) (c:List Int):Prop:=c.Pairwise (·<·)∧∀x∈c,0≤x∧x<n
theorem asc_len' {n:Nat}:∀{c:List Int} {a:Int},a≤n→c.Pairwise (·<·)→(∀x∈c,a≤x∧x<n)→(c.length:Int)≤n - a
 |[],a,ha,_,_=>by simp;omega
 |x::c,a,ha,h,hx=>by
  have h1:=hx x (by simp)
  rw[List.pairwise_cons] at h
  have:=@asc_len' n c (x+1) (by omega) h.2 fun y hy=>⟨by have:=h.1 y hy;omega,(hx y (by simp[hy])).2⟩
  simp only[List.length_cons]
  omega
theorem asc_len {n:Nat} {c:List Int} (h:ascOk n c):c.length≤n:=by
 have:=asc_len' (n:=n) (a:=0) (by omega) h.1 h.2
 omega
theorem asc_sort {n:Nat} {c:List Int} (h1:c.Nodup) (h2:∀x∈c,0≤x∧x<n):ascOk n (sortI c):=by
 refine⟨?_,fun x hx=>h2 x (sortI_mem.1 hx)⟩
 have hs:(sortI c).Pairwise (·≤·):=by
  have:=List.pairwise_mergeSort (le:=fun x y:Int=>decide (x≤y)) (fun a b d h1 h2=>by simp at h1 h2 ⊢;omega) (fun a b=>by simp;omega) c
  exact this.imp fun h=>of_decide_eq_true h
 have hn:(sortI c).Pairwise (·≠·):=(List.mergeSort_perm _ _).symm.nodup h1
 exact(hs.and hn).imp fun h=>by have:=h.1;have:=h.2;omega
theorem asc_nodup {n:Nat} {c:List Int} (h:ascOk n c):c.Nodup:=h.1.imp fun h=>by omega
theorem out_sub {c:List Int} {i:Nat}:(outI c i).Sublist c:=by
 unfold outI
 rw[List.drop_add_one_eq_tail_drop]
 have:=(List.Sublist.refl (c.take i)).append (List.tail_sublist (c.drop i))
 rwa [List.take_append_drop] at this
theorem ex_some {g:Game} {c t:List Int} (h:exG g c=some t) (hc:ascOk g.offers.length c):betG g (valG g c) t=true∧ascOk g.offers.length t:=by
 obtain⟨i,hi,h⟩:=List.exists_of_findSome?_eq_some h
 obtain⟨o,ho,h⟩:=List.exists_of_findSome?_eq_some h
 rw[List.mem_range] at hi ho
 have hnd:(outI c i).Nodup:=(asc_nodup hc).sublist out_sub
 have hmem:∀x∈outI c i,x∈c:=fun x hx=>out_sub.subset hx
 unfold ex2 at h
 split at h
 ·cases h
 ·rename_i hoc
  split at h
  ·rename_i hb
   injection h with h
   subst h
   refine⟨hb,asc_sort ?_ fun x hx=>?_⟩
   ·rw[List.nodup_append]
    exact⟨hnd,by simp,fun x hx y hy e=>by simp at hy;rw[e,hy] at hx;exact hoc (hmem _ hx)⟩
   ·rw[List.mem_append] at hx
    rcases hx with hx|hx
    ·exact hc.2 x (hmem x hx)
    ·simp at hx;omega
  ·obtain⟨k,hk,h⟩:=List.exists_of_findSome?_eq_some h
   rw[List.mem_range] at hk
   unfold ex3 at h
   split at h
   ·cases h
   ·rename_i hko
    split at h
    ·rename_i hb
     injection h with h
     subst h
     refine⟨hb,asc_sort ?_ fun x hx=>?_⟩
     ·rw[List.nodup_append]
      refine⟨hnd,by simp;omega,fun x hx y hy e=>?_⟩
      simp at hy
      subst e
      rcases hy with rfl|rfl
      ·exact hoc (hmem _ hx)
      ·exact hko (.inr (hmem _ hx))
     ·rw[List.mem_append] at hx
      rcases hx with hx|hx
      ·exact hc.2 x (hmem x hx)
      ·simp at hx;omega
    ·cases h
def impG (g:Game):Nat→List Int→List Int
 |0,c=>c
 |n+1,c=>match exG g c with
  |some t=>impG g n t
  |none=>c
def impR (g:Game) (c:List Int):List Int:=impG g (1000000000 - valG g c).toNat c
theorem valBd {g:Game} (hg:gAll g) {c:List Int} (h:ascOk g.offers.length c):0≤valG g c∧valG g c≤1000000000:=by
 have h1:=sumBd (f:=fun x=>(nthD g.offers x.toNat SId.off.dflt).value) (c:=c) (k:=c.length) (m:=1000000) (by omega) fun x hx=>hg.2 _ (nthD_mem (by have:=h.2 x hx;omega))
 rw[List.take_length] at h1
 have h2:=asc_len h
 have h3:=hg.1.1.2.2
 have h4:valG g c=(c.map fun x=>(nthD g.offers x.toNat SId.off.dflt).value).sum:=rfl
 rw[h4]
 omega
theorem imp_fuel {g:Game} (hg:gAll g):∀{n m:Nat} {c:List Int},ascOk g.offers.length c→(1000000000 - valG g c).toNat≤n→(1000000000 - valG g c).toNat≤m→impG g n c=impG g m c:=by
 intro n
 induction n with
 |zero=>
  intro m c hc h1 h2
  have hb:=valBd hg hc
  cases m with
  |zero=>rfl
  |succ m=>
   unfold impG
   cases he:exG g c with
   |none=>rfl
   |some t=>
    obtain⟨h3,h4⟩:=ex_some he hc
    have h5:=valBd hg h4
    unfold betG at h3
    simp only[Bool.and_eq_true,decide_eq_true_eq] at h3
    omega
 |succ n ih=>
  intro m c hc h1 h2
  have hb:=valBd hg hc
  cases he:exG g c with
  |none=>
   cases m with
   |zero=>simp only[impG,he]
   |succ m=>simp only[impG,he]
  |some t=>
   obtain⟨h3,h4⟩:=ex_some he hc
   have h5:=valBd hg h4
   unfold betG at h3
   simp only[Bool.and_eq_true,decide_eq_true_eq] at h3
   cases m with
   |zero=>omega
   |succ m=>
    simp only[impG,he]
    exact ih h4 (by omega) (by omega)
theorem imp_some {g:Game} (hg:gAll g) {c t:List Int} (hc:ascOk g.offers.length c) (h:exG g c=some t):impR g c=impR g t:=by
 obtain⟨h3,h4⟩:=ex_some h hc
 have hb:=valBd hg hc
 have h5:=valBd hg h4
 unfold betG at h3
 simp only[Bool.and_eq_true,decide_eq_true_eq] at h3
 unfold impR
 rw[show(1000000000 - valG g c).toNat=((1000000000 - valG g c).toNat - 1)+1 by omega]
 simp only[impG,h]
 exact imp_fuel hg h4 (by omega) (by omega)
theorem imp_none {g:Game} {c:List Int} (h:exG g c=none):impR g c=c:=by
 unfold impR
 generalize (1000000000 - valG g c).toNat=n
 cases n with
 |zero=>rfl
 |succ n=>simp only[impG,h]
def goodC (p:Prob) (c:List Int):Prop:=checkE p=0∧ascOk p.offers.length c
theorem gall_ok {p:Prob} (hc:checkE p=0):gAll (gameR p):=by
 have hg:=good_of hc
 refine⟨game_ok (by have:=hg.2.1;omega),fun o ho=>?_⟩
 have:=hg.2.2.2.2 o ho
 omega
theorem pick_asc {l:List Off}:∀{c:List Int} {last:Int}, -1≤last→(pickGo l last c).isSome=true→c.Pairwise (·<·)∧∀x∈c,last<x∧x<l.length
 |[],last,_,_=>⟨List.Pairwise.nil,by simp⟩
 |i::c,last,hl,h=>by
  simp only[pickGo] at h
  split at h
  ·simp at h
  ·rename_i hi
   rw[Option.isSome_map] at h
   obtain⟨h1,h2⟩:=@pick_asc l c i (by omega) h
   refine⟨List.pairwise_cons.2 ⟨fun x hx=>(h2 x hx).1,h1⟩,fun x hx=>?_⟩
   rcases List.mem_cons.1 hx with rfl|hx
   ·omega
   ·have:=h2 x hx;omega
theorem feas_good {p:Prob} {c:List Int} (h:feasE p c=0):goodC p c:=by
 unfold feasE at h
 split at h
 ·rename_i h1;exact absurd h h1
 ·rename_i h1
  split at h
  ·cases h
  ·rename_i h2
   have h3:=@pick_asc p.offers c (-1) (by omega) (by unfold pickOk at h2;simpa only[Bool.not_eq_false] using h2)
   exact⟨Classical.not_not.1 h1,h3.1,fun x hx=>by have:=h3.2 x hx;omega⟩
def impS (p:Prob) (c:List Int):Alloc:=if feasE p c=0 then⟨impR (gameR p) c,valG (gameR p) (impR (gameR p) c)⟩ else⟨[],0⟩
def r315:SCtr:=⟨16,Prob×Alloc,.cons codP (.one codA),fun a=>a.2.chosen.length≤9223372036854775807,fun a=>codA.put (impS a.1 a.2.chosen)⟩
def Λ315 (p:Prob) (a:Alloc):Nat→LoopAnn
 |6=> .inv (List Int×List Int×Bool) (fun x=>⟨[(4,.ptr 2 0 2),(5,.ptr 3 0 3),(6,.row (.i .i64) x.1),(7,.row (.i .i64) x.2.1),(8,.sb x.2.2)],[.cells p.ss 27 20 false,.cells [.row (.i .i64) a.chosen,.si .i64 a.value] 34 2 false,.cells [.sc (.slice none 0 0),.il .i64 0] 34 2 false,.cells (gSS (gameR p)) 54 3 false]⟩)
   (fun s=>(rS (.i .i64) s 6,rS (.i .i64) s 7,bS s 8)) (fun x=>ascOk p.offers.length x.1∧(x.2.1=(exG (gameR p) x.1).getD []∧x.2.2=(exG (gameR p) x.1).isSome)∧impR (gameR p) x.1=impR (gameR p) a.chosen) (fun x=>(1000000000 - valG (gameR p) x.1).toNat) fun _ _=> .look
 |_=> .look
theorem h315:Holds Try.prog r315:=by
 refine con (L:=[r100,r325,r330,r331,r328]) r315 F315 (fun a=>Λ315 a.1 a.2) (OwnOK.none _) (by simpa using⟨h100,h325,h330,h331,h328⟩) (by kernel_rfl) (by kernel_rfl) (fun _=>rfl) ?_
 rintro⟨p,⟨c,v⟩⟩ hl
 replace hl:c.length≤9223372036854775807:=hl
 refine vcOf (let z0:=decide (feasE p c≠(0:Int));let z1:=SId.i .i64;let z2:=[SV.il .i64 0];let z3:=SV.agg [SV.row z1 (impS p c).chosen,SV.si .i64 (impS p c).value];let z4:=SV.ptr 2 0 2;let z5:=SV.ptr 3 0 3;let z6:=(exG (gameR p) c).getD [];let z7:=(exG (gameR p) c).isSome;let z8:=SObj.cells [SV.si .i64 p.supply.a0,SV.si .i64 p.supply.a1,SV.si .i64 p.supply.a2,SV.si .i64 p.supply.a3,SV.si .i64 p.supply.a4,SV.si .i64 p.supply.a5,SV.si .i64 p.opn.a0,SV.si .i64 p.opn.a1,SV.si .i64 p.opn.a2,SV.si .i64 p.opn.a3,SV.si .i64 p.opn.a4,SV.si .i64 p.opn.a5,SV.si .i64 p.cls.a0,SV.si .i64 p.cls.a1,SV.si .i64 p.cls.a2,SV.si .i64 p.cls.a3,SV.si .i64 p.cls.a4,SV.si .i64 p.cls.a5,SV.row z1 p.classes,SV.row SId.off p.offers] 27 20 false;let z9:=SObj.cells [SV.row z1 c,SV.si .i64 v] 34 2 false;let z10:=SObj.cells (SV.sc (Value.slice none 0 0)::z2) 34 2 false;let z11:=SObj.cells [SV.row z1.lst (gameR p).rows,SV.row z1 (gameR p).bounds,SV.row SId.off (gameR p).offers] 54 3 false;let z12:=p.offers.length;let z13:=impR (gameR p) c;c.length≤9223372036854775807∧(z0=true→(SV.agg (SV.row z1 []::z2)).same z3)∧(z0=false→True∧c.length≤1000000∧(gAll (gameR p)∧c.length≤900∧∀(x:Int),x∈c→(0:Int)≤x∧x<(↑(gameR p).offers.length:Int))∧(((z4.same z4∧z5.same z5∧(SV.row z1 c).same (SV.row z1 c)∧(SV.row z1 z6).same (SV.row z1 z6)∧(SV.sb z7).same (SV.sb z7)∧True)∧z8.same z8∧z9.same z9∧z10.same z10∧z11.same z11∧True)∧ascOk z12 c∧(z6=z6∧z7=z7)∧z13=z13)∧∀(x:List Int×List Int×Bool),let z14:=exG (gameR p) x.snd.fst;let z15:=SV.row z1 (z14.getD []);let z16:=valG (gameR p) x.fst;ascOk z12 x.fst∧(x.snd.fst=(exG (gameR p) x.fst).getD []∧x.snd.snd=(exG (gameR p) x.fst).isSome)∧impR (gameR p) x.fst=z13→(x.snd.snd=true→(gAll (gameR p)∧x.snd.fst.length≤900∧∀(x_1:Int),x_1∈x.snd.fst→(0:Int)≤x_1∧x_1<(↑(gameR p).offers.length:Int))∧((z4.same z4∧z5.same z5∧(SV.row z1 x.snd.fst).same (SV.row z1 x.snd.fst)∧z15.same z15∧(SV.sb z14.isSome).same (SV.sb z14.isSome)∧True)∧z8.same z8∧z9.same z9∧z10.same z10∧z11.same z11∧True)∧(ascOk z12 x.snd.fst∧(z14.getD []=z14.getD []∧z14.isSome=z14.isSome)∧impR (gameR p) x.snd.fst=z13)∧((1000000000:Int) - valG (gameR p) x.snd.fst).toNat<((1000000000:Int) - z16).toNat)∧(x.snd.snd=false→(GameOk (gameR p)∧idxOk (gameR p) x.fst∧valOk (gameR p) x.fst)∧(SV.agg [SV.row z1 x.fst,SV.si .i64 z16]).same z3))) (by kernel_rfl) ?_
 conv=>zeta
 try simp only[vcs]
 refine⟨by omega,fun h=>by simp only[impS,if_neg h];rfl,fun h=>?_⟩
 have hf:feasE p c=0:=Classical.not_not.1 h
 obtain⟨hc,ha⟩:=feas_good hf
 have hg:=gall_ok hc
 have h160:=(good_of hc).2.1
 have hval:∀d,ascOk p.offers.length d→GameOk (gameR p)∧idxOk (gameR p) d∧valOk (gameR p) d:=fun d hd=>by
  have h1:=asc_len hd
  exact⟨hg.1,⟨by omega,hd.2⟩,fun x hx=>hg.2 _ (nthD_mem (by have:=hd.2 x hx;show x.toNat<p.offers.length;omega))⟩
 have hlen:=asc_len ha
 refine⟨by omega,⟨hg,by omega,ha.2⟩,ha,?_⟩
 rintro⟨d,t,b⟩ ⟨hd,⟨ht,hb⟩,hi⟩
 simp only at hd ht hb hi ⊢
 have hdl:=asc_len hd
 refine⟨fun hbt=>?_,fun hbf=>?_⟩
 ·rw[hbt] at hb
  obtain⟨t',he⟩:=Option.isSome_iff_exists.1 hb.symm
  rw[he] at ht
  simp only[Option.getD_some] at ht
  subst ht
  obtain⟨h1,h2⟩:=ex_some he hd
  have h3:=asc_len h2
  have h3':t.length≤p.offers.length:=h3
  have hb2:=valBd hg h2
  have hb1:=valBd hg (c:=d) hd
  unfold betG at h1
  simp only[Bool.and_eq_true,decide_eq_true_eq] at h1
  exact⟨⟨hg,by omega,h2.2⟩,⟨h2,by rw[←imp_some hg hd he];exact hi⟩,by omega⟩
 ·rw[hbf] at hb
  have he:exG (gameR p) d=none:=by
   cases hh:exG (gameR p) d with
   |none=>rfl
   |some t=>rw[hh] at hb;cases hb
  refine⟨hval d hd,?_⟩
  have h1:impR (gameR p) c=d:=by rw[←hi,imp_none he]
  simp only[impS,if_pos hf,h1]
  rfl
def sameA (a b:Alloc):Bool:=decide (a.value=b.value)&&decide (cmpL a.chosen b.chosen=0)
def r311:SCtr:=⟨12,Alloc×Alloc,.cons codA (.one codA),fun a=>a.1.chosen.length≤1000000∧a.2.chosen.length≤1000000,fun a=> .sb (sameA a.1 a.2)⟩
theorem h311:Holds Try.prog r311:=by
 refine con (L:=[r32]) r311 F311 (fun _ _=> .look) (OwnOK.none _) (by simpa using h32) (by kernel_rfl) (by kernel_rfl) (fun _=>rfl) ?_
 rintro⟨⟨c,v⟩,⟨c',v'⟩⟩ ⟨h1,h2⟩
 simp only at h1 h2
 refine vcOf (let z0:=SV.sb (sameA (Alloc.mk c v) (Alloc.mk c' v'));(decide (v=v')=true→(c.length≤1000000000000∧c'.length≤1000000000000)∧(SV.sb (decide (cmpL c c'=(0:Int)))).same z0)∧(decide (v=v')=false→(SV.bl false).same z0)) (by kernel_rfl) ?_
 conv=>zeta
 try simp only[vcs]
 refine⟨fun h=>⟨⟨by omega,by omega⟩,?_⟩,fun h=>?_⟩
 ·simp only[sameA,decide_eq_true h,Bool.true_and]
 ·simp only[sameA,decide_eq_false h,Bool.false_and]
def threeP (v:Int):Prob:=⟨⟨1,1,0,0,0,0⟩,⟨1,1,0,0,0,0⟩,⟨0,0,0,0,0,0⟩,[0,0,0],[⟨0,⟨1,1,0,0,0,0⟩,v⟩,⟨1,⟨1,0,0,0,0,0⟩,6⟩,⟨2,⟨0,1,0,0,0,0⟩,6⟩]⟩
def r324:SCtr:=⟨29,Int,.one (codI .i64),fun _=>True,fun v=>codP.put (threeP v)⟩
theorem h324:Holds Try.prog r324:=by
 refine con (L:=[]) r324 F324 (fun _ _=> .look) (OwnOK.none _) (by simp) (by kernel_rfl) (by kernel_rfl) (fun _=>rfl) ?_
 rintro(v:Int) -
 refine vcOf (let z0:=SV.il .i64 1;let z1:=SV.il .i64 0;let z2:=(threeP v).supply;let z3:=(threeP v).opn;let z4:=(threeP v).cls;(SV.agg [z0,z0,z1,z1,z1,z1,z0,z0,z1,z1,z1,z1,z1,z1,z1,z1,z1,z1,SV.row (SId.i .i64) [(0:Int),(0:Int),(0:Int)],SV.row SId.off [Off.mk (0:Int) (Bun.mk (1:Int) (1:Int) (0:Int) (0:Int) (0:Int) (0:Int)) v,Off.mk (1:Int) (Bun.mk (1:Int) (0:Int) (0:Int) (0:Int) (0:Int) (0:Int)) (6:Int),Off.mk (2:Int) (Bun.mk (0:Int) (1:Int) (0:Int) (0:Int) (0:Int) (0:Int)) (6:Int)]]).same (SV.agg [SV.si .i64 z2.a0,SV.si .i64 z2.a1,SV.si .i64 z2.a2,SV.si .i64 z2.a3,SV.si .i64 z2.a4,SV.si .i64 z2.a5,SV.si .i64 z3.a0,SV.si .i64 z3.a1,SV.si .i64 z3.a2,SV.si .i64 z3.a3,SV.si .i64 z3.a4,SV.si .i64 z3.a5,SV.si .i64 z4.a0,SV.si .i64 z4.a1,SV.si .i64 z4.a2,SV.si .i64 z4.a3,SV.si .i64 z4.a4,SV.si .i64 z4.a5,SV.row (SId.i .i64) (threeP v).classes,SV.row SId.off (threeP v).offers])) (by kernel_rfl) ?_
 conv=>zeta
 try simp only[vcs]
 rfl
def insA (x:Int):List Int→List Int
 |[]=>[x]
 |y::l=>if x≤y then x::y::l else y::insA x l
def sortA:List Int→List Int
 |[]=>[]
 |x::l=>insA x (sortA l)
theorem insA_perm {x:Int}:∀{l:List Int},(insA x l).Perm (x::l)
 |[]=>List.Perm.refl _
 |y::l=>by
  unfold insA
  split
  ·exact List.Perm.refl _
  ·exact(List.Perm.cons y insA_perm).trans (List.Perm.swap x y l)
theorem insA_le {x:Int}:∀{l:List Int},l.Pairwise (·≤·)→(insA x l).Pairwise (·≤·)
 |[],_=>by simp[insA]
 |y::l,h=>by
  rw[List.pairwise_cons] at h
  unfold insA
  split
  ·rename_i hx
   refine List.pairwise_cons.2 ⟨fun z hz=>?_,List.pairwise_cons.2 h⟩
   rcases List.mem_cons.1 hz with rfl|hz
   ·exact hx
   ·have:=h.1 z hz;omega
  ·rename_i hx
   refine List.pairwise_cons.2 ⟨fun z hz=>?_,insA_le h.2⟩
   rcases List.mem_cons.1 (insA_perm.mem_iff.1 hz) with rfl|hz
   ·omega
   ·exact h.1 z hz
theorem sortA_perm:∀{l:List Int},(sortA l).Perm l
 |[]=>List.Perm.refl _
 |x::l=>insA_perm.trans (List.Perm.cons x sortA_perm)
theorem sortA_le:∀{l:List Int},(sortA l).Pairwise (·≤·)
 |[]=>List.Pairwise.nil
 |x::l=>insA_le sortA_le
theorem sortI_srt {l:List Int}:sortI l=srt (fun _=>0) l:=by
 unfold sortI srt
 congr 1
theorem sortI_A:sortI=sortA:=by
 funext l
 rw[sortI_srt]
 refine(srt_eq sortA_perm ?_).symm
 refine sortA_le.imp ?_
 intro a b h
 exact leD_iff.2 (.inr ⟨rfl,h⟩)
theorem ord3:ordE (threeP 10)=[1,2,0]:=by
 have hc:checkE (threeP 10)=0:=by kernel_rfl
 unfold ordE
 rw[if_pos hc]
 refine(srt_eq (D:=denI (threeP 10)) (m:=[1,2,0]) (by decide) ?_).symm
 decide
def stepS (s:List Int→List Int) (g:Game) (c:List Int) (x:Int):List Int:=if fitG g (s (c++[x]))=true then s (c++[x]) else c
theorem start3:startR (threeP 10)=[1,2]∧valG (gameR (threeP 10)) [1,2]=12:=by
 refine⟨?_,by kernel_rfl⟩
 unfold startR
 rw[ord3]
 show[1,2,0].foldl (stepS sortI (gameR (threeP 10))) []=_
 rw[sortI_A]
 kernel_rfl
def e3S (s:List Int→List Int) (g:Game) (c:List Int) (v:Int) (rest:List Int) (o k:Int):Option (List Int):=if k≤o∨k∈c then none else if betG g v (s (rest++[o,k]))=true then some (s (rest++[o,k])) else none
def e2S (s:List Int→List Int) (g:Game) (c:List Int) (v:Int) (rest:List Int) (o:Int):Option (List Int):=if o∈c then none else if betG g v (s (rest++[o]))=true then some (s (rest++[o])) else(List.range g.offers.length).findSome? fun k:Nat=>e3S s g c v rest o k
def eGS (s:List Int→List Int) (g:Game) (c:List Int):Option (List Int):=(List.range c.length).findSome? fun i=>(List.range g.offers.length).findSome? fun o:Nat=>e2S s g c (valG g c) (outI c i) o
theorem exG_A {g:Game} {c:List Int}:exG g c=eGS sortA g c:=by
 rw[←sortI_A]
 rfl
theorem impr3:impR (gameR (threeP 11)) [0]=[1,2]∧impR (gameR (threeP 13)) [0]=[0]:=by
 refine⟨?_,imp_none (by rw[exG_A];kernel_rfl)⟩
 have hc:checkE (threeP 11)=0:=by kernel_rfl
 rw[imp_some (gall_ok hc) (t:=[1,2]) ⟨by decide,by decide⟩ (by rw[exG_A];kernel_rfl)]
 exact imp_none (by rw[exG_A];kernel_rfl)
theorem imps3:impS (threeP 11) [0]=⟨[1,2],12⟩∧impS (threeP 13) [0]=⟨[0],13⟩:=by
 refine⟨?_,?_⟩
 ·unfold impS
  rw[if_pos (by kernel_rfl),impr3.1]
  congr 1
 ·unfold impS
  rw[if_pos (by kernel_rfl),impr3.2]
  congr 1
def r310:SCtr:=⟨11,Unit,.nil,fun _=>True,fun _=> .sb true⟩
theorem h310:Holds Try.prog r310:=by
 refine con (L:=[r324,r308,r312,r315,r32,r311]) r310 F310 (fun _ _=> .look) (OwnOK.none _) (by simpa using⟨h324,h308,h312,h315,h32,h311⟩) (by kernel_rfl) (by kernel_rfl) (fun _=>rfl) ?_
 rintro⟨⟩ -
 refine vcOf (let z0:=threeP (10:Int);let z1:=[(0:Int)];let z2:=decide (cmpL (ordR z0) ((1:Int)::(2:Int)::z1)=(0:Int));let z3:=Alloc.mk (startR z0) (valG (gameR z0) (startR z0));let z4:=sameA z3 (Alloc.mk [(1:Int),(2:Int)] (12:Int));let z5:=impS (threeP (11:Int)) z1;let z6:=impS (threeP (13:Int)) z1;True∧z0.offers.length≤40∧True∧z0.offers.length≤40∧True∧1≤9223372036854775807∧True∧1≤9223372036854775807∧((ordR z0).length≤1000000000000∧3≤1000000000000)∧(z2=true→((startR z0).length≤1000000∧2≤1000000)∧(z4=true→(z5.chosen.length≤1000000∧(startR z0).length≤1000000)∧(sameA z5 z3=true→(z6.chosen.length≤1000000∧1≤1000000)∧(SV.sb (sameA z6 (Alloc.mk z1 (13:Int)))).same (SV.sb true))∧(sameA z5 z3=false→(SV.bl false).same (SV.sb true)))∧(z4=false→(SV.bl false).same (SV.sb true)))∧(z2=false→(SV.bl false).same (SV.sb true))) (by kernel_rfl) ?_
 conv=>zeta
 try simp only[vcs]
 have ho:ordR (threeP 10)=[1,2,0]:=by
  have:=ord3
  unfold ordE at this
  rwa [if_pos (show checkE (threeP 10)=0 by kernel_rfl)] at this
 rw[ho,start3.1,start3.2,imps3.1,imps3.2]
 have k1:cmpL [1,2,0] [1,2,0]=0:=by kernel_rfl
 have k2:sameA ⟨[1,2],12⟩ ⟨[1,2],12⟩=true:=by kernel_rfl
 have k3:sameA ⟨[0],13⟩ ⟨[0],13⟩=true:=by kernel_rfl
 refine⟨by decide,by decide,by decide,by decide,by decide,fun _=>⟨by decide,fun _=>⟨by decide,fun _=>⟨by decide,k3⟩,fun h=>?_⟩,fun h=>?_⟩,fun h=>absurd k1 h⟩
 ·rw[k2] at h;exact h.symm▸rfl
 ·rw[k2] at h;exact h.symm▸rfl
theorem cmp_same:∀{l:List Int},cmpL l l=0
 |[]=>rfl
 |x::l=>by
  unfold cmpL
  rw[if_neg (by omega),if_neg (by omega)]
  exact cmp_same
def wthR:List Int→Int→List Int
 |[],x=>[x]
 |y::l,x=>if x<y then x::y::l else y::wthR l x
def anyG (l:List Int) (x:Int):Bool:=l.any fun y=>decide (x<y)
theorem wth_done {x y:Int}:∀{l:List Int},anyG l x=true→wthR (l++[y]) x=wthR l x++[y]
 |[],h=>by simp[anyG] at h
 |z::l,h=>by
  simp only[List.cons_append,wthR]
  split
  ·rfl
  ·rename_i hz
   rw[wth_done (by simpa[anyG,hz] using h)]
   rfl
theorem wth_no {x:Int}:∀{l m:List Int},anyG l x=false→wthR (l++m) x=l++wthR m x
 |[],m,h=>rfl
 |z::l,m,h=>by
  simp only[anyG,List.any_cons,Bool.or_eq_false_iff,decide_eq_false_iff_not] at h
  simp only[List.cons_append,wthR]
  rw[if_neg h.1,wth_no (by simpa[anyG] using h.2)]
theorem any_app {l:List Int} {x y:Int}:anyG (l++[y]) x=(anyG l x||decide (x<y)):=by simp[anyG]
theorem wthRLen {x:Int}:∀{l:List Int},(wthR l x).length=l.length+1
 |[]=>rfl
 |y::l=>by
  simp only[wthR]
  split
  ·simp
  ·simp[wthRLen]
def wthN (l:List Int) (x:Int):List Int:=if anyG l x=true then wthR l x else l
theorem wthN_len {l:List Int} {x:Int}:(wthN l x).length≤l.length+1:=by
 unfold wthN
 split
 ·rw[wthRLen];omega
 ·omega
def r329:SCtr:=⟨34,List Int×Int,.cons (codR (.i .i64)) (.one (codI .i64)),fun a=>a.1.length≤100000,fun a=> .row (.i .i64) (wthR a.1 a.2)⟩
def Λ329 (c:List Int) (x:Int):Nat→LoopAnn
 |4=> .inv Int (fun i=>⟨[(0,.row (.i .i64) c),(1,.si .i64 x),(5,.ow 0 (wthN (c.take i.toNat) x).length 1),(6,.sb (anyG (c.take i.toNat) x)),(7,.si .i64 i)],[.row (.i .i64) (wthN (c.take i.toNat) x) 3 true]⟩)
   (fun s=>iS s 7) (fun i=>0≤i∧i≤c.length) (fun i=>(c.length - i).toNat) fun _ _=> .look
 |_=> .look
theorem h329:Holds Try.prog r329:=by
 refine con (L:=[]) r329 F329 (fun a=>Λ329 a.1 a.2) (OwnOK.none _) (by simp) (by kernel_rfl) (by kernel_rfl) (fun _=>rfl) ?_
 rintro⟨c,x⟩ hl
 replace hl:c.length≤100000:=hl
 refine vcOf (let z0:=SId.i .i64;let z1:=(↑c.length:Int);let z2:=(↑c.length:Int);let z3:=SV.row z0 (wthR c x);((((SV.row z0 c).same (SV.row z0 c)∧(SV.si .i64 x).same (SV.si .i64 x)∧(SV.ow 0 0 1).same (SV.ow 0 (wthN [] x).length 1)∧(SV.bl false).same (SV.sb (anyG [] x))∧(SV.il .i64 0).same (SV.si .i64 0)∧True)∧(SObj.row z0 [] 3 true).same (SObj.row z0 (wthN [] x) 3 true)∧True)∧(0:Int)≤(0:Int)∧(0:Int)≤z1)∧∀(x_1:Int),let z4:=anyG (List.take x_1.toNat c) x;let z5:=nthD c x_1.toNat (0:Int);let z6:=wthN (List.take x_1.toNat c) x;let z7:=z6.length+1;let z8:=(z6++[x]).length;let z9:=x_1+(1:Int);let z10:=SV.si .i64 x;let z11:=List.take z9.toNat c;let z12:=SV.ow 0 (wthN z11 x).length 1;let z13:=SV.si .i64 z9;let z14:=SObj.row z0 (wthN z11 x) 3 true;(0:Int)≤x_1∧x_1≤z1→(decide (x_1<z2)=true→((!z4)=true→(0:Int)≤x_1∧x_1<z2∧x_1.toNat<c.length∧(decide (x<z5)=true→z6.length=z6.length∧z7*8≤140737488355328∧z7≤1000000000000∧(0:Int)≤x_1∧x_1<z2∧x_1.toNat<c.length∧z8=z8∧(z8+1)*8≤140737488355328∧z8+1≤1000000000000∧inR .i64 z9∧(((SV.row z0 c).same (SV.row z0 c)∧z10.same z10∧(SV.ow 0 (z6++[x]++[z5]).length 1).same z12∧(SV.bl true).same (SV.sb (anyG z11 x))∧z13.same z13∧True)∧(SObj.row z0 (z6++[x]++[z5]) 3 true).same z14∧True)∧((0:Int)≤z9∧z9≤z1)∧(z1 - z9).toNat<(z1 - x_1).toNat)∧(decide (x<z5)=false→(0:Int)≤x_1∧x_1<z2∧x_1.toNat<c.length∧z6.length=z6.length∧z7*8≤140737488355328∧z7≤1000000000000∧inR .i64 z9∧(((SV.row z0 c).same (SV.row z0 c)∧z10.same z10∧(SV.ow 0 (z6++[z5]).length 1).same z12∧(SV.sb z4).same (SV.sb (anyG z11 x))∧z13.same z13∧True)∧(SObj.row z0 (z6++[z5]) 3 true).same z14∧True)∧((0:Int)≤z9∧z9≤z1)∧(z1 - z9).toNat<(z1 - x_1).toNat))∧((!z4)=false→(0:Int)≤x_1∧x_1<z2∧x_1.toNat<c.length∧z6.length=z6.length∧z7*8≤140737488355328∧z7≤1000000000000∧inR .i64 z9∧(((SV.row z0 c).same (SV.row z0 c)∧z10.same z10∧(SV.ow 0 (z6++[z5]).length 1).same z12∧(SV.sb z4).same (SV.sb (anyG z11 x))∧z13.same z13∧True)∧(SObj.row z0 (z6++[z5]) 3 true).same z14∧True)∧((0:Int)≤z9∧z9≤z1)∧(z1 - z9).toNat<(z1 - x_1).toNat))∧(decide (x_1<z2)=false→((!z4)=true→z6.length=z6.length∧z7*8≤140737488355328∧z7≤1000000000000∧z8=z8∧(SV.row z0 (z6++[x])).same z3)∧((!z4)=false→z6.length=z6.length∧(SV.row z0 z6).same z3))) (by kernel_rfl) ?_
 conv=>zeta
 try simp only[vcs]
 have how:∀{x y:Nat},x=y→(SV.ow 0 x 1).same (SV.ow 0 y 1):=by rintro _ _ rfl;rfl
 have hrow:∀{x y:List Int},x=y→(SObj.row (.i .i64) x 3 true).same (SObj.row (.i .i64) y 3 true):=by rintro _ _ rfl;rfl
 refine⟨⟨⟨⟨how rfl,rfl⟩,hrow rfl⟩,by omega,by omega⟩,?_⟩
 rintro i ⟨i0,i1⟩
 have hn:=@wthN_len (c.take i.toNat) x
 rw[List.length_take] at hn
 refine⟨fun hi=>?_,fun hi=>?_⟩
 ·have et:=take_nth (d:=0) i0 hi
  have ea:anyG (c.take (i+1).toNat) x=(anyG (c.take i.toNat) x||decide (x<nthD c i.toNat 0)):=by rw[et,any_app]
  refine⟨fun hf=>⟨i0,hi,by omega,fun hx=>?_,fun hx=>?_⟩,fun ht=>?_⟩
  ·have e:wthN (c.take i.toNat) x++[x]++[nthD c i.toNat 0]=wthN (c.take (i+1).toNat) x:=by
    have h1:anyG (c.take (i+1).toNat) x=true:=by rw[ea,decide_eq_true hx,Bool.or_true]
    unfold wthN
    rw[hf,h1,et,wth_no hf]
    simp[wthR,hx]
   rw[e]
   refine⟨by omega,by omega,i0,hi,by omega,?_,?_,by omega,⟨⟨how rfl,by rw[ea,decide_eq_true hx,Bool.or_true]⟩,rfl⟩,by omega,by omega⟩
   ·rw[List.length_append];simp only[List.length_cons,List.length_nil];omega
   ·rw[List.length_append];simp only[List.length_cons,List.length_nil];omega
  ·have h1:anyG (c.take (i+1).toNat) x=false:=by rw[ea,hf,decide_eq_false hx];rfl
   have e:wthN (c.take i.toNat) x++[nthD c i.toNat 0]=wthN (c.take (i+1).toNat) x:=by
    unfold wthN
    rw[hf,h1,et]
    simp
   rw[e]
   exact⟨i0,hi,by omega,by omega,by omega,by omega,⟨⟨how rfl,by rw[hf,h1]⟩,rfl⟩,by omega,by omega⟩
  ·have h1:anyG (c.take (i+1).toNat) x=true:=by rw[ea,ht];rfl
   have e:wthN (c.take i.toNat) x++[nthD c i.toNat 0]=wthN (c.take (i+1).toNat) x:=by
    unfold wthN
    rw[ht,h1,et]
    simp only[if_true]
    exact(wth_done ht).symm
   rw[e]
   exact⟨i0,hi,by omega,by omega,by omega,by omega,⟨⟨how rfl,by rw[ht,h1]⟩,rfl⟩,by omega,by omega⟩
 ·have et:c.take i.toNat=c:=List.take_of_length_le (by omega)
  rw[et] at hn ⊢
  refine⟨fun hf=>⟨by omega,by omega,?_⟩,fun ht=>?_⟩
  ·unfold wthN
   rw[hf]
   have:=wth_no (m:=[]) hf
   rw[List.append_nil] at this
   rw[this]
   rfl
  ·unfold wthN
   rw[if_pos ht]
theorem wth_perm {x:Int}:∀{l:List Int},(wthR l x).Perm (x::l)
 |[]=>List.Perm.refl _
 |y::l=>by
  unfold wthR
  split
  ·exact List.Perm.refl _
  ·exact(List.Perm.cons y wth_perm).trans (List.Perm.swap x y l)
theorem wth_le {x:Int}:∀{l:List Int},l.Pairwise (·≤·)→(wthR l x).Pairwise (·≤·)
 |[],_=>by simp[wthR]
 |y::l,h=>by
  rw[List.pairwise_cons] at h
  unfold wthR
  split
  ·rename_i hx
   refine List.pairwise_cons.2 ⟨fun z hz=>?_,List.pairwise_cons.2 h⟩
   rcases List.mem_cons.1 hz with rfl|hz
   ·omega
   ·have:=h.1 z hz;omega
  ·rename_i hx
   refine List.pairwise_cons.2 ⟨fun z hz=>?_,wth_le h.2⟩
   rcases List.mem_cons.1 (wth_perm.mem_iff.1 hz) with rfl|hz
   ·omega
   ·exact h.1 z hz
theorem wth_sort {l:List Int} {x:Int} (h:l.Pairwise (·<·)):wthR l x=sortI (l++[x]):=by
 rw[sortI_srt]
 refine srt_eq (wth_perm.trans ?_) ?_
 ·exact(List.perm_append_singleton x l).symm
 ·refine(wth_le (h.imp fun h=>by omega)).imp ?_
  intro a b h
  exact leD_iff.2 (.inr ⟨rfl,h⟩)
theorem pick_of_asc {l:List Off}:∀{c:List Int} {last:Int}, -1≤last→c.Pairwise (·<·)→(∀x∈c,last<x∧x<l.length)→pickGo l last c=some (c.map fun x=>nthD l x.toNat SId.off.dflt)
 |[],_,_,_,_=>rfl
 |i::c,last,hl,h,hx=>by
  rw[List.pairwise_cons] at h
  have h1:=hx i (by simp)
  simp only[pickGo]
  rw[if_neg (by omega),@pick_of_asc l c i (by omega) h.2 fun x hxc=>⟨h.1 x hxc,(hx x (by simp[hxc])).2⟩]
  rfl
theorem pick_of {p:Prob} {c:List Int} (h:ascOk p.offers.length c):pickGo p.offers (-1) c=some (c.map (oI p)):=pick_of_asc (by omega) h.1 fun x hx=>by have:=h.2 x hx;omega
theorem feas_fit {p:Prob} (hc:checkE p=0) {c:List Int} (h:ascOk p.offers.length c):feasE p c=0↔fitG (gameR p) c=true:=by
 have hp:=pick_of h
 have e1:pickOk p c=true:=by unfold pickOk;rw[hp];rfl
 have e2:pickL p c=c.map (oI p):=by unfold pickL;rw[hp];rfl
 have e3:fitsB p (c.map (oI p))=fitG (gameR p) c:=by
  have hn:nR p=p.classes.length+12:=by unfold nR;rw[if_pos hc]
  have hb:(gameR p).bounds.length=p.classes.length+12:=by show(bndR p (nR p)).length=_;rw[bndR_len,hn]
  unfold fitsB fitG
  rw[hb]
  have key:∀r:Nat,r<p.classes.length+12→nthD (gameR p).bounds r 0=boundS p r∧useG (gameR p) c r=sumS p (c.map (oI p)) r:=fun r hr=>by
   refine⟨?_,?_⟩
   ·show nthD (bndR p (nR p)) r 0=_
    rw[nthD_eq (by rw[bndR_len];omega)]
    simp[bndR]
   ·have hrow:nthD (gameR p).rows r []=rowR p r p.offers.length:=by
     show nthD (rowsR p (nR p)) r []=_
     rw[nthD_eq (by rw[rowsR_len];omega)]
     simp[rowsR]
    unfold useG sumS
    rw[hrow,List.map_map]
    congr 1
    refine List.map_congr_left fun x hx=>?_
    have:=h.2 x hx
    have hxl:x.toNat<p.offers.length:=by omega
    show nthD (rowR p r p.offers.length) x.toNat 0=coefS p r (nthD p.offers x.toNat SId.off.dflt)
    rw[nthD_eq (by simp[rowR];omega),nthD_eq hxl]
    simp[rowR]
  rw[Bool.eq_iff_iff,List.all_eq_true,List.all_eq_true]
  constructor
  ·intro h1 r hr
   obtain⟨k1,k2⟩:=key r (List.mem_range.1 hr)
   have:=of_decide_eq_true (h1 r hr)
   rw[k1,k2]
   exact decide_eq_true (by omega)
  ·intro h1 r hr
   obtain⟨k1,k2⟩:=key r (List.mem_range.1 hr)
   have:=of_decide_eq_true (h1 r hr)
   rw[k1,k2] at this
   exact decide_eq_true (by omega)
 unfold feasE
 rw[if_neg (by simp[hc]),e1,e2,e3]
 cases fitG (gameR p) c<;>simp
theorem val_eq {p:Prob} (hc:checkE p=0) {c:List Int} (h:ascOk p.offers.length c):valueS p c=valG (gameR p) c:=by
 have e2:pickL p c=c.map (oI p):=by unfold pickL;rw[pick_of h];rfl
 unfold valueS
 rw[if_pos hc,e2]
 clear h e2
 induction c with
 |nil=>rfl
 |cons x c ih=>
  have e:valG (gameR p) (x::c)=(oI p x).value+valG (gameR p) c:=by simp[valG];rfl
  rw[e,←ih]
  rfl
def offI (c:List Int) (x:Int):List Int:=c.filter fun y=>decide (y≠x)
theorem offI_le {c:List Int} {x:Int}:(offI c x).length≤c.length:=List.length_filter_le _ _
def r349:SCtr:=⟨68,List Int×Int,.cons (codR (.i .i64)) (.one (codI .i64)),fun a=>a.1.length≤100000,fun a=> .row (.i .i64) (offI a.1 a.2)⟩
def Λ349 (c:List Int) (x:Int):Nat→LoopAnn
 |3=> .inv Int (fun i=>⟨[(0,.row (.i .i64) c),(1,.si .i64 x),(5,.ow 0 (offI (c.take i.toNat) x).length 1),(6,.si .i64 i)],[.row (.i .i64) (offI (c.take i.toNat) x) 3 true]⟩)
   (fun s=>iS s 6) (fun i=>0≤i∧i≤c.length) (fun i=>(c.length - i).toNat) fun _ _=> .look
 |_=> .look
theorem h349:Holds Try.prog r349:=by
 refine con (L:=[]) r349 F349 (fun a=>Λ349 a.1 a.2) (OwnOK.none _) (by simp) (by kernel_rfl) (by kernel_rfl) (fun _=>rfl) ?_
 rintro⟨c,x⟩ hl
 replace hl:c.length≤100000:=hl
 refine vcOf (let z0:=SId.i .i64;let z1:=(↑c.length:Int);let z2:=(↑c.length:Int);((((SV.row z0 c).same (SV.row z0 c)∧(SV.si .i64 x).same (SV.si .i64 x)∧(SV.ow 0 0 1).same (SV.ow 0 (offI [] x).length 1)∧(SV.il .i64 0).same (SV.si .i64 0)∧True)∧(SObj.row z0 [] 3 true).same (SObj.row z0 (offI [] x) 3 true)∧True)∧(0:Int)≤(0:Int)∧(0:Int)≤z1)∧∀(x_1:Int),let z3:=nthD c x_1.toNat (0:Int);let z4:=offI (List.take x_1.toNat c) x;let z5:=z4.length+1;let z6:=x_1+(1:Int);let z7:=SV.si .i64 x;let z8:=offI (List.take z6.toNat c) x;let z9:=SV.ow 0 z8.length 1;let z10:=SV.si .i64 z6;let z11:=SObj.row z0 z8 3 true;(0:Int)≤x_1∧x_1≤z1→(decide (x_1<z2)=true→(0:Int)≤x_1∧x_1<z2∧x_1.toNat<c.length∧(decide (z3≠x)=true→(0:Int)≤x_1∧x_1<z2∧x_1.toNat<c.length∧z4.length=z4.length∧z5*8≤140737488355328∧z5≤1000000000000∧inR .i64 z6∧(((SV.row z0 c).same (SV.row z0 c)∧z7.same z7∧(SV.ow 0 (z4++[z3]).length 1).same z9∧z10.same z10∧True)∧(SObj.row z0 (z4++[z3]) 3 true).same z11∧True)∧((0:Int)≤z6∧z6≤z1)∧(z1 - z6).toNat<(z1 - x_1).toNat)∧(decide (z3≠x)=false→inR .i64 z6∧(((SV.row z0 c).same (SV.row z0 c)∧z7.same z7∧(SV.ow 0 z4.length 1).same z9∧z10.same z10∧True)∧(SObj.row z0 z4 3 true).same z11∧True)∧((0:Int)≤z6∧z6≤z1)∧(z1 - z6).toNat<(z1 - x_1).toNat))∧(decide (x_1<z2)=false→z4.length=z4.length∧(SV.row z0 z4).same (SV.row z0 (offI c x)))) (by kernel_rfl) ?_
 conv=>zeta
 try simp only[vcs]
 have how:∀{x y:Nat},x=y→(SV.ow 0 x 1).same (SV.ow 0 y 1):=by rintro _ _ rfl;rfl
 have hrow:∀{x y:List Int},x=y→(SObj.row (.i .i64) x 3 true).same (SObj.row (.i .i64) y 3 true):=by rintro _ _ rfl;rfl
 refine⟨⟨⟨how rfl,hrow rfl⟩,by omega,by omega⟩,?_⟩
 rintro i ⟨i0,i1⟩
 have hn:=@offI_le (c.take i.toNat) x
 rw[List.length_take] at hn
 refine⟨fun hi=>?_,fun hi=>?_⟩
 ·have et:=take_nth (d:=0) i0 hi
  refine⟨i0,hi,by omega,fun hx=>?_,fun hx=>?_⟩
  ·have e:offI (c.take i.toNat) x++[nthD c i.toNat 0]=offI (c.take (i+1).toNat) x:=by
    rw[et]
    unfold offI
    rw[List.filter_append,List.filter_cons_of_pos (by simpa using hx)]
    rfl
   rw[e]
   exact⟨i0,hi,by omega,by omega,by omega,by omega,⟨how rfl,rfl⟩,by omega,by omega⟩
  ·have e:offI (c.take i.toNat) x=offI (c.take (i+1).toNat) x:=by
    rw[et]
    unfold offI
    rw[List.filter_append,List.filter_cons_of_neg (by simpa using hx)]
    simp
   rw[←e]
   exact⟨by omega,⟨how rfl,rfl⟩,by omega,by omega⟩
 ·rw[show i.toNat=c.length by omega,List.take_length]
def r341:SCtr:=⟨54,List Int×Int,.cons (codR (.i .i64)) (.one (codI .i64)),fun a=>a.1.length≤100000,fun a=> .sb (decide (a.2∈a.1))⟩
theorem in_iff {c:List Int} {x:Int}:(offI c x).length≠c.length↔x∈c:=by
 constructor
 ·intro h
  apply Classical.byContradiction
  intro hx
  apply h
  unfold offI
  rw[List.filter_eq_self.2 fun y hy=>by simp;exact fun e=>hx (e▸hy)]
 ·intro hx h
  have:=List.length_filter_eq_length_iff.1 h x hx
  simp at this
theorem h341:Holds Try.prog r341:=by
 refine con (L:=[r349]) r341 F341 (fun _ _=> .look) (OwnOK.none _) (by simpa using h349) (by kernel_rfl) (by kernel_rfl) (fun _=>rfl) ?_
 rintro⟨c,x⟩ hl
 replace hl:c.length≤100000:=hl
 refine vcOf (c.length≤100000∧(SV.sb (decide ((↑(offI c x).length:Int)≠(↑c.length:Int)))).same (SV.sb (decide (x∈c)))) (by kernel_rfl) ?_
 try simp only[vcs]
 refine⟨hl,?_⟩
 have:=@in_iff c x
 by_cases hx:x∈c
 ·rw[decide_eq_true hx]
  exact decide_eq_true (by have:=this.2 hx;omega)
 ·rw[decide_eq_false hx]
  exact decide_eq_false fun h=>hx (this.1 (by omega))
def r350:SCtr:=⟨69,Prob×List Int×Int,.cons codP (.cons (codR (.i .i64)) (.one (codI .i64))),fun a=>goodC a.1 a.2.1,fun a=> .sb (betG (gameR a.1) a.2.2 a.2.1)⟩
theorem h350:Holds Try.prog r350:=by
 refine con (L:=[r55,r58]) r350 F350 (fun _ _=> .look) (OwnOK.none _) (by simpa using⟨h55,h58⟩) (by kernel_rfl) (by kernel_rfl) (fun _=>rfl) ?_
 rintro⟨p,c,v⟩ ⟨hc,ha⟩
 simp only at hc ha
 have hl:=asc_len ha
 have hn160:=(good_of hc).2.1
 refine vcOf (let z0:=decide (v<valueS p c);let z1:=SV.sb (betG (gameR p) v c);c.length≤9223372036854775807∧(z0=true→c.length≤9223372036854775807∧(SV.sb (decide (feasE p c=(0:Int)))).same z1)∧(z0=false→(SV.bl false).same z1)) (by kernel_rfl) ?_
 conv=>zeta
 try simp only[vcs]
 have hv:=val_eq hc ha
 have hf:=feas_fit hc ha
 refine⟨by omega,fun h=>⟨by omega,?_⟩,fun h=>?_⟩
 ·unfold betG
  rw[decide_eq_true (by omega:v<valG (gameR p) c),Bool.true_and]
  cases hfg:fitG (gameR p) c
  ·exact decide_eq_false fun h2=>by rw[hf,hfg] at h2;cases h2
  ·exact decide_eq_true (hf.2 hfg)
 ·unfold betG
  rw[decide_eq_false (by omega:¬v<valG (gameR p) c),Bool.false_and]
theorem sortI_perm {l m:List Int} (h:l.Perm m):sortI l=sortI m:=by
 rw[sortI_srt,sortI_srt]
 exact srt_eq (srt_perm.trans h) srt_srt
theorem add_asc {n:Nat} {c:List Int} {x:Int} (hc:ascOk n c) (hx:x∉c) (h0:0≤x∧x<n):ascOk n (wthR c x):=by
 rw[wth_sort hc.1]
 refine asc_sort ?_ fun y hy=>?_
 ·rw[List.nodup_append]
  exact⟨asc_nodup hc,by simp,fun a ha b hb e=>by simp at hb;rw[e,hb] at ha;exact hx ha⟩
 ·rw[List.mem_append] at hy
  rcases hy with hy|hy
  ·exact hc.2 y hy
  ·simp at hy;rw[hy];exact h0
def exOf (p:Prob) (c:List Int) (x o:Int):Option (List Int):=ex2 (gameR p) c (valG (gameR p) c) (offI c x) o
def r342:SCtr:=⟨55,Prob×List Int×Int×Int,.cons codP (.cons (codR (.i .i64)) (.cons (codI .i64) (.one (codI .i64)))),fun a=>goodC a.1 a.2.1∧inO a.1 a.2.2.2∧a.2.2.2∉a.2.1,fun a=> .tup [.row (.i .i64) ((exOf a.1 a.2.1 a.2.2.1 a.2.2.2).getD []),.sb (exOf a.1 a.2.1 a.2.2.1 a.2.2.2).isSome]⟩
def Λ342 (p:Prob) (c:List Int) (x o:Int):Nat→LoopAnn
 |6=> .inv Int (fun z=>⟨[(1,.row (.i .i64) c),(4,.ptr 0 0 20),(10,.si .i64 (valueS p c)),(11,.row (.i .i64) (wthR (offI c x) o)),(12,.si .i64 z)],[.cells p.ss 27 20 false]⟩)
   (fun s=>iS s 12) (fun z=>(o<z∧z≤p.offers.length)∧∀k:Nat,(k:Int)<z→ex3 (gameR p) c (valG (gameR p) c) (offI c x) o k=none) (fun z=>(p.offers.length - z).toNat) fun _ _=> .look
 |_=> .look
theorem h342:Holds Try.prog r342:=by
 refine con (L:=[r58,r349,r329,r350,r341]) r342 F342 (fun a=>Λ342 a.1 a.2.1 a.2.2.1 a.2.2.2) (OwnOK.none _) (by simpa using⟨h58,h349,h329,h350,h341⟩) (by kernel_rfl) (by kernel_rfl) (fun _=>rfl) ?_
 rintro⟨p,c,x,o⟩ ⟨⟨hc,ha⟩,ho,hoc⟩
 simp only at hc ha ho hoc
 have hl:=asc_len ha
 have hn160:=(good_of hc).2.1
 refine vcOf (let z0:=wthR (offI c x) o;let z1:=betG (gameR p) (valueS p c) z0;let z2:=SId.i .i64;let z3:=SV.row z2 z0;let z4:=SV.tup [SV.row z2 ((exOf p c x o).getD []),SV.sb (exOf p c x o).isSome];let z5:=o+(1:Int);let z6:=SV.ptr 0 0 20;let z7:=SV.si .i64 (valueS p c);let z8:=SV.si .i64 z5;let z9:=SObj.cells [SV.si .i64 p.supply.a0,SV.si .i64 p.supply.a1,SV.si .i64 p.supply.a2,SV.si .i64 p.supply.a3,SV.si .i64 p.supply.a4,SV.si .i64 p.supply.a5,SV.si .i64 p.opn.a0,SV.si .i64 p.opn.a1,SV.si .i64 p.opn.a2,SV.si .i64 p.opn.a3,SV.si .i64 p.opn.a4,SV.si .i64 p.opn.a5,SV.si .i64 p.cls.a0,SV.si .i64 p.cls.a1,SV.si .i64 p.cls.a2,SV.si .i64 p.cls.a3,SV.si .i64 p.cls.a4,SV.si .i64 p.cls.a5,SV.row z2 p.classes,SV.row SId.off p.offers] 27 20 false;let z10:=(↑p.offers.length:Int);c.length≤9223372036854775807∧c.length≤100000∧(offI c x).length≤100000∧goodC p z0∧(z1=true→(SV.tup [z3,SV.bl true]).same z4)∧(z1=false→inR .i64 z5∧((((SV.row z2 c).same (SV.row z2 c)∧z6.same z6∧z7.same z7∧z3.same z3∧z8.same z8∧True)∧z9.same z9∧True)∧(o<z5∧z5≤z10)∧∀(k:Nat),(↑k:Int)<z5→ex3 (gameR p) c (valG (gameR p) c) (offI c x) o (↑k:Int)=none)∧∀(x_1:Int),let z11:=decide (x_1<(↑p.offers.length:Int));let z12:=betG (gameR p) (valueS p c) (wthR z0 x_1);let z13:=x_1+(1:Int);let z14:=SV.si .i64 z13;((o<x_1∧x_1≤z10)∧∀(k:Nat),(↑k:Int)<x_1→ex3 (gameR p) c (valG (gameR p) c) (offI c x) o (↑k:Int)=none)→(z11=true→c.length≤100000∧((!decide (x_1∈c))=true→z0.length≤100000∧goodC p (wthR z0 x_1)∧(z12=true→z0.length≤100000∧(SV.tup [SV.row z2 (wthR z0 x_1),SV.bl true]).same z4)∧(z12=false→inR .i64 z13∧(((SV.row z2 c).same (SV.row z2 c)∧z6.same z6∧z7.same z7∧z3.same z3∧z14.same z14∧True)∧z9.same z9∧True)∧((o<z13∧z13≤z10)∧∀(k:Nat),(↑k:Int)<z13→ex3 (gameR p) c (valG (gameR p) c) (offI c x) o (↑k:Int)=none)∧(z10 - z13).toNat<(z10 - x_1).toNat))∧((!decide (x_1∈c))=false→inR .i64 z13∧(((SV.row z2 c).same (SV.row z2 c)∧z6.same z6∧z7.same z7∧z3.same z3∧z14.same z14∧True)∧z9.same z9∧True)∧((o<z13∧z13≤z10)∧∀(k:Nat),(↑k:Int)<z13→ex3 (gameR p) c (valG (gameR p) c) (offI c x) o (↑k:Int)=none)∧(z10 - z13).toNat<(z10 - x_1).toNat))∧(z11=false→(SV.tup [SV.row z2 [],SV.bl false]).same z4))) (by kernel_rfl) ?_
 conv=>zeta
 try simp only[vcs]
 rw[val_eq hc ha]
 have hsub:∀y∈offI c x,y∈c:=fun y hy=>(List.mem_filter.1 hy).1
 have hr:ascOk p.offers.length (offI c x):=⟨ha.1.sublist List.filter_sublist,fun y hy=>ha.2 y (hsub y hy)⟩
 have hor:o∉offI c x:=fun h=>hoc (hsub o h)
 have h1:=wth_sort (x:=o) hr.1
 have t1:=add_asc hr hor ho
 have hrl:=asc_len hr
 have htl:=asc_len t1
 refine⟨by omega,by omega,by omega,⟨hc,t1⟩,fun hb=>?_,fun hb=>⟨by have:=ho.2;have:=ho.1;omega,⟨⟨by omega,by have:=ho.2;omega⟩,fun k hk=>?_⟩,?_⟩⟩
 ·have e:exOf p c x o=some (sortI (offI c x++[o])):=by
   unfold exOf ex2
   rw[if_neg hoc,if_pos (by rw[←h1];exact hb)]
  rw[e,h1]
  exact⟨rfl,rfl⟩
 ·unfold ex3
  rw[if_pos (.inl (by omega))]
 ·rw[h1] at hb
  rintro z ⟨⟨z0,z1⟩,hz⟩
  have ho0:=ho.1
  refine⟨fun hzl=>⟨by omega,fun hzc=>?_,fun hzc=>⟨by omega,⟨⟨by omega,by omega⟩,fun k hk=>?_⟩,by omega⟩⟩,fun hzl=>?_⟩
  ·have hzt:z∉wthR (offI c x) o:=fun h=>by
    rcases List.mem_cons.1 (wth_perm.mem_iff.1 h) with h|h
    ·omega
    ·exact hzc (hsub z h)
   have h2:wthR (wthR (offI c x) o) z=sortI (offI c x++[o,z]):=by
    rw[wth_sort t1.1]
    refine sortI_perm ?_
    rw[h1,show offI c x++[o,z]=(offI c x++[o])++[z] by simp]
    exact(List.mergeSort_perm _ _).append_right [z]
   refine⟨by omega,⟨hc,add_asc t1 hzt ⟨by omega,hzl⟩⟩,fun hb2=>?_,fun hb2=>⟨by omega,⟨⟨by omega,by omega⟩,fun k hk=>?_⟩,by omega⟩⟩
   ·rw[h2] at hb2 ⊢
    have e3:ex3 (gameR p) c (valG (gameR p) c) (offI c x) o z=some (sortI (offI c x++[o,z])):=by
     unfold ex3
     rw[if_neg (fun h=>h.elim (by omega) hzc),if_pos hb2]
    have e:exOf p c x o=some (sortI (offI c x++[o,z])):=by
     unfold exOf ex2
     rw[if_neg hoc,if_neg (by rw[hb];simp)]
     exact find_some (f:=fun k:Nat=>ex3 (gameR p) c (valG (gameR p) c) (offI c x) o k) (i:=z.toNat) (by show z.toNat<p.offers.length;omega) (fun j hj=>hz j (by omega)) (by simp only[show((z.toNat:Nat):Int)=z by omega];exact e3)
    rw[e]
    exact⟨by omega,rfl,rfl⟩
   ·by_cases h3:(k:Int)<z
    ·exact hz k h3
    ·rw[show(k:Int)=z by omega]
     rw[h2] at hb2
     unfold ex3
     rw[hb2]
     simp
  ·by_cases h3:(k:Int)<z
   ·exact hz k h3
   ·rw[show(k:Int)=z by omega]
    unfold ex3
    rw[if_pos (.inr hzc)]
  ·have e:exOf p c x o=none:=by
    unfold exOf ex2
    rw[if_neg hoc,if_neg (by rw[hb];simp)]
    exact find_none fun j hj=>hz j (by have:j<p.offers.length:=hj;omega)
   rw[e]
   exact⟨rfl,rfl⟩
end Go.Vi
