/-
  Contracts: rotation of two parts; the merge of two parts in place.
  Conditions: none.
-/
import Derived.Test.YtojbjnpkdlfijaaOD06
import Derived.Test.YtojbjnpkdlfijaaProg
import Derived.Shelf.Sort.AssemblyIn
import Derived.Shelf.SlicesE.Clone
import Derived.Shelf.SlicesE.Delete
import Derived.KernelRfl
import Derived.Sort.EveryDepth
import Derived.Sort.OwnSortedInts
import Derived.WalkKit
import Derived.Deep.LoopGhost
import Derived.Lib.Walk
import Derived.Lib.SliceRun
import Derived.Shelf.RegionOpenPlain
set_option maxRecDepth 100000
set_option maxHeartbeats 4000000
set_option linter.unusedSimpArgs false
set_option linter.unusedVariables false
namespace Go.Vi
open Go.Proofs.Ytojbjnpkdlfijaa.Ir
open Go.Proofs
def r351:OCtr:=sortCtr 70 3 (Int×Int×Int) to3 of3 (fun _=>rfl) of3_ok to3_inj (fun a=>a.1.1=a.1.2.1.length∧a.1.2.1.length≤1000∧0≤a.2.1∧a.2.1<a.2.2.1∧a.2.2.1<a.2.2.2∧a.2.2.2≤a.1.2.1.length) fun a=>rotR a.1.2.1 a.2.1.toNat a.2.2.1.toNat a.2.2.2.toNat
def Λ351 (n:Nat) (l:List Int) (p:Prob) (a m b:Int):Nat→LoopAnn
 |2=> .inv (Int×Int×List Int) (fun x=>⟨[(0,.ow 0 n 1),(2,.si .i64 m),(4,.fn (.func 25) [] [.ptr 1 0 20]),(10,.si .i64 x.1),(11,.si .i64 x.2.1)],[.row (.i .i64) x.2.2 3 true,.cells p.ss 27 20 false]⟩) (fun s=>(iS s 10,iS s 11,oS (.i .i64) s 0))
   (fun x=>(0<x.1∧0<x.2.1)∧∃A X Y B:List Int,x.2.2=A++(X++(Y++B))∧(A.length:Int)+x.1=m∧(X.length:Int)=x.1∧(Y.length:Int)=x.2.1∧A++(Y++(X++B))=rotR l a.toNat m.toNat b.toNat) (fun x=>(x.1+x.2.1).toNat) fun _ _=> .look
 |_=> .look
theorem h351:HoldsO Try.prog r351:=by
 refine conO (L:=[]) (W:=[r363]) r351 F351 (fun a=>Λ351 a.1.1 a.1.2.1 a.1.2.2 a.2.1 a.2.2.1 a.2.2.2) (by simpa using h363) (by simp) (by kernel_rfl) (fun _=>rfl) (by kernel_rfl) ?_
 rintro⟨⟨n,l,p⟩,a,m,b⟩ ⟨hn,hl,a0,h1,h2,h3⟩
 refine vcOf (let z0:=SV.ow 0 n 1;let z1:=SV.fn (Fn.func 25) [] [SV.ptr 1 0 20];let z2:=SV.si .i64 (m - a);let z3:=SV.si .i64 (b - m);let z4:=SId.i .i64;let z5:=SObj.row z4 l 3 true;let z6:=SObj.cells [SV.si .i64 p.supply.a0,SV.si .i64 p.supply.a1,SV.si .i64 p.supply.a2,SV.si .i64 p.supply.a3,SV.si .i64 p.supply.a4,SV.si .i64 p.supply.a5,SV.si .i64 p.opn.a0,SV.si .i64 p.opn.a1,SV.si .i64 p.opn.a2,SV.si .i64 p.opn.a3,SV.si .i64 p.opn.a4,SV.si .i64 p.opn.a5,SV.si .i64 p.cls.a0,SV.si .i64 p.cls.a1,SV.si .i64 p.cls.a2,SV.si .i64 p.cls.a3,SV.si .i64 p.cls.a4,SV.si .i64 p.cls.a5,SV.row z4 p.classes,SV.row SId.off p.offers] 27 20 false;let z7:=rotR l a.toNat m.toNat b.toNat;inR .i64 (m - a)∧inR .i64 (b - m)∧(((z0.same z0∧(SV.si .i64 m).same (SV.si .i64 m)∧z1.same z1∧z2.same z2∧z3.same z3∧True)∧z5.same z5∧z6.same z6∧True)∧((0:Int)<m - a∧(0:Int)<b - m)∧∃A X Y B,l=A++(X++(Y++B))∧(↑A.length:Int)+(m - a)=m∧(↑X.length:Int)=m - a∧(↑Y.length:Int)=b - m∧A++(Y++(X++B))=z7)∧∀(x:Int×Int×List Int),let z8:=decide (x.fst≠x.snd.fst);let z9:=decide (x.snd.fst<x.fst);let z10:=x.snd.snd.length;let z11:=m+x.snd.fst;let z12:=(↑z10:Int);let z13:=x.fst - x.snd.fst;let z14:=SV.si .i64 z13;let z15:=SV.si .i64 x.snd.fst;let z16:=(m - x.fst).toNat;let z17:=swR x.snd.snd z16 m.toNat x.snd.fst.toNat;let z18:=SObj.row z4 z17 3 true;let z19:=(x.fst+x.snd.fst).toNat;let z20:=z11 - x.fst;let z21:=x.snd.fst - x.fst;let z22:=SV.si .i64 x.fst;let z23:=SV.si .i64 z21;let z24:=swR x.snd.snd z16 z20.toNat x.fst.toNat;let z25:=SObj.row z4 z24 3 true;(((0:Int)<x.fst∧(0:Int)<x.snd.fst)∧∃A X Y B,x.snd.snd=A++(X++(Y++B))∧(↑A.length:Int)+x.fst=m∧(↑X.length:Int)=x.fst∧(↑Y.length:Int)=x.snd.fst∧A++(Y++(X++B))=z7)→(z8=true→(z9=true→inR .i64 (m - x.fst)∧(n=z10∧z10≤1000∧(0:Int)≤m - x.fst∧(0:Int)≤x.snd.fst∧m - x.fst+x.snd.fst≤m∧z11≤z12)∧inR .i64 z13∧((z0.same z0∧(SV.si .i64 m).same (SV.si .i64 m)∧z1.same z1∧z14.same z14∧z15.same z15∧True)∧z18.same z18∧z6.same z6∧True)∧(((0:Int)<z13∧(0:Int)<x.snd.fst)∧∃A X Y B,z17=A++(X++(Y++B))∧(↑A.length:Int)+z13=m∧(↑X.length:Int)=z13∧(↑Y.length:Int)=x.snd.fst∧A++(Y++(X++B))=z7)∧(z13+x.snd.fst).toNat<z19)∧(z9=false→inR .i64 (m - x.fst)∧inR .i64 z11∧inR .i64 z20∧(n=z10∧z10≤1000∧(0:Int)≤m - x.fst∧(0:Int)≤x.fst∧m - x.fst+x.fst≤z20∧z20+x.fst≤z12)∧inR .i64 z21∧((z0.same z0∧(SV.si .i64 m).same (SV.si .i64 m)∧z1.same z1∧z22.same z22∧z23.same z23∧True)∧z25.same z25∧z6.same z6∧True)∧(((0:Int)<x.fst∧(0:Int)<z21)∧∃A X Y B,z24=A++(X++(Y++B))∧(↑A.length:Int)+x.fst=m∧(↑X.length:Int)=x.fst∧(↑Y.length:Int)=z21∧A++(Y++(X++B))=z7)∧(x.fst+z21).toNat<z19))∧(z8=false→inR .i64 (m - x.fst)∧(n=z10∧z10≤1000∧(0:Int)≤m - x.fst∧(0:Int)≤x.fst∧m - x.fst+x.fst≤m∧m+x.fst≤z12)∧(SV.tup []).same (SV.tup [])∧(SObj.row z4 (swR x.snd.snd z16 m.toNat x.fst.toNat) 3 true).same (SObj.row z4 z7 3 true)∧z6.same z6∧True)) (by kernel_rfl) ?_
 simp only[vcs]
 have hn:n=l.length:=hn
 have hl:l.length≤1000:=hl
 have a0:0≤a:=a0
 have h1:a<m:=h1
 have h2:m<b:=h2
 have h3:b≤l.length:=h3
 have la:(l.take a.toNat).length=a.toNat:=by rw[List.length_take];omega
 have l1:=seg_len (l:=l) (a:=a.toNat) (b:=m.toNat) (by omega) (by omega)
 have l2:=seg_len (l:=l) (a:=m.toNat) (b:=b.toNat) (by omega) (by omega)
 refine⟨by omega,by omega,⟨⟨by omega,by omega⟩,l.take a.toNat,seg l a.toNat m.toNat,seg l m.toNat b.toNat,l.drop b.toNat,split4 (by omega) (by omega) (by omega),by omega,by omega,by omega,rfl⟩,?_⟩
 rintro⟨i,j,w⟩ ⟨⟨i0,j0⟩,A,X,Y,B,hw,hA,hX,hY,hf⟩
 simp only at i0 j0 hw hA hX hY ⊢
 have hfl:=congrArg List.length hf
 rw[rotR_len (by omega) (by omega) (by omega)] at hfl
 simp only[List.length_append] at hfl
 have hwl:w.length=l.length:=by rw[hw];simp only[List.length_append];omega
 rw[hwl]
 refine⟨fun hne=>⟨fun hgt=>?_,fun hle=>?_⟩,fun heq=>?_⟩
 ·have hs:=rot_gt (A:=A) (X:=X) (Y:=Y) (B:=B) (i:=i.toNat) (j:=j.toNat) (by omega) (by omega) (by omega) (m:=m.toNat) (by omega)
  rw[←hw,show m.toNat - i.toNat=(m - i).toNat by omega] at hs
  refine⟨by omega,⟨by omega,by omega,by omega,by omega,by omega,by omega⟩,by omega,⟨⟨by omega,by omega⟩,A++Y,X.drop j.toNat,X.take j.toNat,B,hs,?_,?_,?_,?_⟩,by omega⟩
  ·rw[List.length_append];omega
  ·rw[List.length_drop];omega
  ·rw[List.length_take];omega
  ·rw[←hf]
   rw[←List.append_assoc (X.take j.toNat),List.take_append_drop]
   simp
 ·have hs:=rot_lt (A:=A) (X:=X) (Y:=Y) (B:=B) (i:=i.toNat) (j:=j.toNat) (by omega) (by omega) (by omega) (m:=m.toNat) (by omega)
  rw[←hw,show m.toNat - i.toNat=(m - i).toNat by omega,show m.toNat+j.toNat - i.toNat=(m+j - i).toNat by omega] at hs
  refine⟨by omega,by omega,by omega,⟨by omega,by omega,by omega,by omega,by omega,by omega⟩,by omega,⟨⟨by omega,by omega⟩,A,Y.drop (j.toNat - i.toNat),Y.take (j.toNat - i.toNat),X++B,hs,by omega,?_,?_,?_⟩,by omega⟩
  ·rw[List.length_drop];omega
  ·rw[List.length_take];omega
  ·rw[←hf]
   rw[←List.append_assoc (Y.take (j.toNat - i.toNat)),List.take_append_drop]
 ·have hij:i=j:=by omega
  have hs:=rot_eq (A:=A) (X:=X) (Y:=Y) (B:=B) (i:=i.toNat) (by omega) (by omega) (m:=m.toNat) (by omega)
  rw[←hw,show m.toNat - i.toNat=(m - i).toNat by omega,hf] at hs
  exact⟨by omega,⟨by omega,by omega,by omega,by omega,by omega,by omega⟩,orow hs⟩
theorem drop_seg2 {l:List Int} {a b c:Nat}:(seg l a b).drop c=seg l (a+c) b:=by
 unfold seg
 rw[List.drop_take,List.drop_drop,show b - a - c=b - (a+c) by omega]
abbrev SyA:=Srg×Int×Int×Int
def symD (a:SyA):Prop:=offL a.1∧(0≤a.2.1∧a.2.1<a.2.2.1∧a.2.2.1<a.2.2.2∧a.2.2.2≤a.1.2.1.length)∧Srt (denI a.1.2.2) (seg a.1.2.1 a.2.1.toNat a.2.2.1.toNat)∧Srt (denI a.1.2.2) (seg a.1.2.1 a.2.2.1.toNat a.2.2.2.toNat)∧
 ∀x∈seg a.1.2.1 a.2.1.toNat a.2.2.1.toNat,∀y∈seg a.1.2.1 a.2.2.1.toNat a.2.2.2.toNat,x<y
def symC (k:Nat):OCtr:=sortCtr 60 3 (Int×Int×Int) to3 of3 (fun _=>rfl) of3_ok to3_inj (fun a=>symD a∧(a.2.2.2 - a.2.1).toNat<k) fun a=>srtP (denI a.1.2.2) a.1.2.1 a.2.1.toNat a.2.2.2.toNat
def W344 (k:Nat):List OCtr:=[symC k,r351,r320]
def st344 (l:List Int) (p:Prob):SStore:=[.row (.i .i64) l 3 true,.cells p.ss 27 20 false]
def Λ344 (n:Nat) (l:List Int) (p:Prob) (a m b:Int):Nat→LoopAnn
 |3=> .inv (Int×Int) (fun x=>⟨[(0,.ow 0 n 1),(1,.si .i64 a),(4,.fn (.func 25) [] [.ptr 1 0 20]),(10,.si .i64 x.1),(11,.si .i64 x.2)],st344 l p⟩) (fun s=>(iS s 10,iS s 11))
   (fun x=>(m≤x.1∧x.1≤x.2∧x.2≤b)∧(∀k:Nat,m≤k→(k:Int)<x.1→denI p (nthD l a.toNat 0)<denI p (nthD l k 0))∧∀k:Nat,x.2≤k→(k:Int)<b→¬denI p (nthD l a.toNat 0)<denI p (nthD l k 0)) (fun x=>(x.2 - x.1).toNat) fun _ _=> .look
 |9=> .inv (Int×Int×List Int) (fun x=>⟨[(0,.ow 0 n 1),(10,.si .i64 x.2.1),(13,.si .i64 x.1)],st344 x.2.2 p⟩) (fun s=>(iS s 13,iS s 10,oS (.i .i64) s 0))
   (fun x=>(a≤x.1∧x.1≤x.2.1 - 1∧m≤x.2.1∧x.2.1≤b)∧((∀k:Nat,m≤k→(k:Int)<x.2.1→denI p (nthD l a.toNat 0)<denI p (nthD l k 0))∧∀k:Nat,x.2.1≤k→(k:Int)<b→¬denI p (nthD l a.toNat 0)<denI p (nthD l k 0))∧x.2.2=mvP l a.toNat b.toNat (x.1 - a).toNat) (fun x=>(x.2.1 - x.1).toNat) fun _ _=> .look
 |15=> .inv (Int×Int) (fun x=>⟨[(0,.ow 0 n 1),(2,.si .i64 m),(4,.fn (.func 25) [] [.ptr 1 0 20]),(14,.si .i64 x.1),(15,.si .i64 x.2)],st344 l p⟩) (fun s=>(iS s 14,iS s 15))
   (fun x=>(a≤x.1∧x.1≤x.2∧x.2≤m)∧(∀k:Nat,a≤k→(k:Int)<x.1→¬denI p (nthD l k 0)<denI p (nthD l m.toNat 0))∧∀k:Nat,x.2≤k→(k:Int)<m→denI p (nthD l k 0)<denI p (nthD l m.toNat 0)) (fun x=>(x.2 - x.1).toNat) fun _ _=> .look
 |21=> .inv (Int×Int×List Int) (fun x=>⟨[(0,.ow 0 n 1),(14,.si .i64 x.2.1),(17,.si .i64 x.1)],st344 x.2.2 p⟩) (fun s=>(iS s 17,iS s 14,oS (.i .i64) s 0))
   (fun x=>(x.2.1≤x.1∧x.1≤m∧a≤x.2.1)∧((∀k:Nat,a≤k→(k:Int)<x.2.1→¬denI p (nthD l k 0)<denI p (nthD l m.toNat 0))∧∀k:Nat,x.2.1≤k→(k:Int)<m→denI p (nthD l k 0)<denI p (nthD l m.toNat 0))∧x.2.2=insP (denI p) l a.toNat m.toNat x.1.toNat) (fun x=>(x.1 - x.2.1).toNat) fun _ _=> .look
 |33=> .inv (Int×Int) (fun x=>⟨[(0,.ow 0 n 1),(1,.si .i64 a),(2,.si .i64 m),(3,.si .i64 b),(4,.fn (.func 25) [] [.ptr 1 0 20]),(18,.si .i64 ((a+b) / 2^1)),(19,.si .i64 ((a+b) / 2^1+m)),(20,.si .i64 x.1),(21,.si .i64 x.2),(22,.si .i64 ((a+b) / 2^1+m - 1))],st344 l p⟩) (fun s=>(iS s 20,iS s 21))
   (fun x=>((if(a+b) / 2<m then(a+b) / 2+m - b else a)≤x.1∧x.1≤x.2∧x.2≤(if(a+b) / 2<m then(a+b) / 2 else m))∧(∀k:Nat,(if(a+b) / 2<m then(a+b) / 2+m - b else a)≤k→(k:Int)<x.1→¬denI p (nthD l k 0)<denI p (nthD l ((a+b) / 2+m - 1 - k).toNat 0))∧
    ∀k:Nat,x.2≤k→(k:Int)<(if(a+b) / 2<m then(a+b) / 2 else m)→denI p (nthD l k 0)<denI p (nthD l ((a+b) / 2+m - 1 - k).toNat 0)) (fun x=>(x.2 - x.1).toNat) fun _ _=> .look
 |_=> .look
def symU (D:Int→Int) (n k:Nat) (l V:List Int) (p:Prob) (a b mid e:Int):Prop:=
 (mid<e→(e<b→(symD ((n,V,p),mid,e,b)∧(b - mid).toNat<k)∧(SObj.row (SId.i IntKind.i64) (srtP D V mid.toNat b.toNat) 3 true).same (SObj.row (SId.i IntKind.i64) (srtP D l a.toNat b.toNat) 3 true))∧
  (¬e<b→(SObj.row (SId.i IntKind.i64) V 3 true).same (SObj.row (SId.i IntKind.i64) (srtP D l a.toNat b.toNat) 3 true)))∧(¬mid<e→(SObj.row (SId.i IntKind.i64) V 3 true).same (SObj.row (SId.i IntKind.i64) (srtP D l a.toNat b.toNat) 3 true))
def symW (D:Int→Int) (n k:Nat) (l W:List Int) (p:Prob) (a b mid e s:Int):Prop:=
 (a<s→(s<mid→(symD ((n,W,p),a,s,mid)∧(mid - a).toNat<k)∧symU D n k l (srtP D W a.toNat mid.toNat) p a b mid e)∧(¬s<mid→symU D n k l W p a b mid e))∧(¬a<s→symU D n k l W p a b mid e)
def symT (D:Int→Int) (n k:Nat) (l:List Int) (p:Prob) (a m b mid s:Int):Prop:=
 (-9223372036854775808≤mid+m - s∧mid+m - s≤9223372036854775807)∧
 (s<m→(m<mid+m - s→(n=l.length∧l.length≤1000∧0≤s∧s<m∧m<mid+m - s∧mid+m - s≤l.length)∧symW D n k l (rotR l s.toNat m.toNat (mid+m - s).toNat) p a b mid (mid+m - s) s)∧
  (¬m<mid+m - s→symW D n k l l p a b mid (mid+m - s) s))∧(¬s<m→symW D n k l l p a b mid (mid+m - s) s)
theorem symT_ok {D:Int→Int} {n k:Nat} {l:List Int} {p:Prob} {a m b mid s:Int} (hD:denI p=D) (hc:checkE p=0) (hn:n=l.length) (hl:l.length≤1000) (ho:∀x∈l,inO p x) (a0:0≤a) (a1:a≤s) (s1:s≤m) (sm:s≤mid) (am:a<mid) (mb:mid<b)
  (e1:m≤mid+m - s) (e2:mid+m - s≤b) (a3:b≤l.length) (hL:Srt D (seg l a.toNat m.toNat)) (hR:Srt D (seg l m.toNat b.toNat)) (hx:∀x∈seg l a.toNat m.toNat,∀y∈seg l m.toNat b.toNat,x<y)
  (H1:∀x y,x∈seg l a.toNat s.toNat→y∈seg l (mid+m - s).toNat b.toNat→leD D x y=true) (H2:∀x y,x∈seg l m.toNat (mid+m - s).toNat→y∈seg l s.toNat m.toNat→leD D x y=true) (hk:(b - a).toNat<k+1):
  symT D n k l p a m b mid s:=by
 generalize he:mid+m - s=e at*
 obtain⟨⟨x1,x2,x3⟩,⟨y1,y2,y3⟩,z1⟩:=@sym_law D l a.toNat s.toNat m.toNat e.toNat b.toNat mid.toNat (by omega) (by omega) (by omega) (by omega) (by omega) (by omega) hL hR (fun x h y h'=>H1 x y h h') (fun x h y h'=>H2 x y h h')
 have rl:(rotR l s.toNat m.toNat e.toNat).length=l.length:=rotR_len (by omega) (by omega) (by omega)
 have rm:∀x∈rotR l s.toNat m.toNat e.toNat,inO p x:=fun x h=>ho x (rotR_mem h)
 have r0:(¬s<m∨¬m<e)→rotR l s.toNat m.toNat e.toNat=l:=fun h=>rotR_triv (by omega) (by omega) (by omega) (by omega)
 generalize hRd:rotR l s.toNat m.toNat e.toNat=R at*
 have tl:(srtP D R a.toNat mid.toNat).length=R.length:=srtP_len (by omega) (by omega)
 have tm:∀x∈srtP D R a.toNat mid.toNat,inO p x:=fun x h=>rm x (srtP_mem h)
 have s_as:Srt D (seg l a.toNat s.toNat):=List.Pairwise.sublist (seg_sub (by omega) (by omega)) hL
 have s_sm:Srt D (seg l s.toNat m.toNat):=List.Pairwise.sublist (seg_sub (by omega) (by omega)) hL
 have s_me:Srt D (seg l m.toNat e.toNat):=List.Pairwise.sublist (seg_sub (by omega) (by omega)) hR
 have s_eb:Srt D (seg l e.toNat b.toNat):=List.Pairwise.sublist (seg_sub (by omega) (by omega)) hR
 have t0:(¬a<s∨¬s<mid)→srtP D R a.toNat mid.toNat=R:=by
  intro h
  refine srtP_triv (by omega) ?_
  rcases h with h|h
  ·rw[show a.toNat=s.toNat by omega,x2];exact s_me
  ·rw[show mid.toNat=s.toNat by omega,x1];exact s_as
 generalize hT:srtP D R a.toNat mid.toNat=T at*
 have u0:(¬mid<e∨¬e<b)→srtP D T mid.toNat b.toNat=T:=by
  intro h
  refine srtP_triv (by omega) ?_
  rcases h with h|h
  ·rw[show mid.toNat=e.toNat by omega,y2];exact s_eb
  ·rw[show b.toNat=e.toNat by omega,y1];exact s_sm
 have hU:symU D n k l T p a b mid e:=by
  refine⟨fun q1=>⟨fun q2=>⟨⟨⟨⟨⟨hc,by simp only;omega⟩,by simp only;omega,tm⟩,⟨by simp only;omega,q1,q2,by simp only;omega⟩,?_,?_,?_⟩,by omega⟩,orow z1⟩,fun q2=>orow ((u0 (.inr q2)).symm.trans z1)⟩,fun q1=>orow ((u0 (.inl q1)).symm.trans z1)⟩
  ·simp only[hD,y1];exact s_sm
  ·simp only[hD,y2];exact s_eb
  ·simp only[y1,y2]
   exact fun x hX y hY=>hx x ((seg_sub (by omega) (by omega)).subset hX) y ((seg_sub (by omega) (by omega)).subset hY)
 have hW:symW D n k l R p a b mid e s:=by
  refine⟨fun q1=>⟨fun q2=>⟨⟨⟨⟨⟨hc,by simp only;omega⟩,by simp only;omega,rm⟩,⟨by simp only;omega,q1,q2,by simp only;omega⟩,?_,?_,?_⟩,by omega⟩,by rw[hT];exact hU⟩,fun q2=>t0 (.inr q2)▸hU⟩,fun q1=>t0 (.inl q1)▸hU⟩
  ·simp only[hD,x1];exact s_as
  ·simp only[hD,x2];exact s_me
  ·simp only[x1,x2]
   exact fun x hX y hY=>hx x ((seg_sub (by omega) (by omega)).subset hX) y ((seg_sub (by omega) (by omega)).subset hY)
 refine⟨by omega,fun q1=>⟨fun q2=>⟨⟨hn,hl,by omega,q1,by omega,by omega⟩,by rw[he,hRd];exact hW⟩,fun q2=>?_⟩,fun q1=>?_⟩
 ·rw[he];exact r0 (.inr (by omega))▸hW
 ·rw[he];exact r0 (.inl q1)▸hW
theorem symX (k n:Nat) (l:List Int) (p:Prob) (a m b:Int) (hd:symD ((n,l,p),a,m,b)) (hk:(b - a).toNat<k+1):
  Vc (fnOwnK (parL [] (ownT (W344 k)) tyN mtN fnN) (Λ344 n l p a m b) F344 ((symC (k+1)).put ((n,l,p),a,m,b)) ((symC (k+1)).st ((n,l,p),a,m,b)) fun v t=>v.same ((symC (k+1)).res ((n,l,p),a,m,b))∧sameO t ((symC (k+1)).out ((n,l,p),a,m,b))):=by
 obtain⟨⟨⟨hc,hn⟩,hl,ho⟩,⟨a0,a1,a2,a3⟩,hL,hR,hx⟩:=hd
 simp only at hc hn hl ho a0 a1 a2 a3 hL hR hx
 refine vcOf (let z0:=decide (m - a=(1:Int));let z1:=SV.ow 0 n 1;let z2:=SV.fn (Fn.func 25) [] [SV.ptr 1 0 20];let z3:=SId.i .i64;let z4:=SObj.row z3 l 3 true;let z5:=SObj.cells [SV.si .i64 p.supply.a0,SV.si .i64 p.supply.a1,SV.si .i64 p.supply.a2,SV.si .i64 p.supply.a3,SV.si .i64 p.supply.a4,SV.si .i64 p.supply.a5,SV.si .i64 p.opn.a0,SV.si .i64 p.opn.a1,SV.si .i64 p.opn.a2,SV.si .i64 p.opn.a3,SV.si .i64 p.opn.a4,SV.si .i64 p.opn.a5,SV.si .i64 p.cls.a0,SV.si .i64 p.cls.a1,SV.si .i64 p.cls.a2,SV.si .i64 p.cls.a3,SV.si .i64 p.cls.a4,SV.si .i64 p.cls.a5,SV.row z3 p.classes,SV.row SId.off p.offers] 27 20 false;let z6:=nthD l a.toNat (0:Int);let z7:=(↑l.length:Int);let z8:=SObj.row z3 (srtP (denI p) l a.toNat b.toNat) 3 true;let z9:=decide (b - m=(1:Int));let z10:=nthD l m.toNat (0:Int);let z11:=(a+b) / (2:Int);let z12:=z11+m;let z13:=z12 - b;let z14:=z12 - (1:Int);let z15:=SV.si .i64 z11;let z16:=SV.si .i64 z12;let z17:=SV.si .i64 z13;let z18:=SV.si .i64 z14;let z19:=if z11<m then z13 else a;let z20:=if z11<m then z11 else m;let z21:=z11.toNat;let z22:=srtP (denI p) l a.toNat z21;inR .i64 (m - a)∧(z0=true→(((z1.same z1∧(SV.si .i64 a).same (SV.si .i64 a)∧z2.same z2∧(SV.si .i64 m).same (SV.si .i64 m)∧(SV.si .i64 b).same (SV.si .i64 b)∧True)∧z4.same z4∧z5.same z5∧True)∧(m≤m∧m≤b∧b≤b)∧(∀(k:Nat),m≤(↑k:Int)→(↑k:Int)<m→denI p z6<denI p (nthD l k (0:Int)))∧∀(k:Nat),b≤(↑k:Int)→(↑k:Int)<b→denI p z6<denI p (nthD l k (0:Int))→False)∧∀(x:Int×Int),let z23:=decide (x.fst<x.snd);let z24:=x.fst+x.snd;let z25:=z24 / (2:Int);let z26:=nthD l z25.toNat (0:Int);let z27:=decide (cmpO p z26 z6<(0:Int));let z28:=z25+(1:Int);let z29:=SV.si .i64 z28;let z30:=SV.si .i64 x.snd;let z31:=(x.snd - x.fst).toNat;let z32:=SV.si .i64 x.fst;let z33:=SV.si .i64 z25;((m≤x.fst∧x.fst≤x.snd∧x.snd≤b)∧(∀(k:Nat),m≤(↑k:Int)→(↑k:Int)<x.fst→denI p z6<denI p (nthD l k (0:Int)))∧∀(k:Nat),x.snd≤(↑k:Int)→(↑k:Int)<b→denI p z6<denI p (nthD l k (0:Int))→False)→(z23=true→inR .i64 z24∧inR .u64 z24∧(0:Int)≤(1:Int)∧(1:Int)≤(64:Int)∧inR .i64 z25∧n=l.length∧(0:Int)≤z25∧z25<z7∧n=l.length∧z25.toNat<l.length∧n=l.length∧(0:Int)≤a∧a<z7∧n=l.length∧a.toNat<l.length∧(checkE p=(0:Int)∧inO p z26∧inO p z6)∧(z27=true→inR .i64 z28∧((z1.same z1∧(SV.si .i64 a).same (SV.si .i64 a)∧z2.same z2∧z29.same z29∧z30.same z30∧True)∧z4.same z4∧z5.same z5∧True)∧((m≤z28∧z28≤x.snd∧x.snd≤b)∧(∀(k:Nat),m≤(↑k:Int)→(↑k:Int)<z28→denI p z6<denI p (nthD l k (0:Int)))∧∀(k:Nat),x.snd≤(↑k:Int)→(↑k:Int)<b→denI p z6<denI p (nthD l k (0:Int))→False)∧(x.snd - z28).toNat<z31)∧(z27=false→((z1.same z1∧(SV.si .i64 a).same (SV.si .i64 a)∧z2.same z2∧z32.same z32∧z33.same z33∧True)∧z4.same z4∧z5.same z5∧True)∧((m≤x.fst∧x.fst≤z25∧z25≤b)∧(∀(k:Nat),m≤(↑k:Int)→(↑k:Int)<x.fst→denI p z6<denI p (nthD l k (0:Int)))∧∀(k:Nat),z25≤(↑k:Int)→(↑k:Int)<b→denI p z6<denI p (nthD l k (0:Int))→False)∧(z25 - x.fst).toNat<z31))∧(z23=false→(((z1.same z1∧z32.same z32∧(SV.si .i64 a).same (SV.si .i64 a)∧True)∧z4.same z4∧z5.same z5∧True)∧(a≤a∧a≤x.fst - (1:Int)∧m≤x.fst∧x.fst≤b)∧((∀(k:Nat),m≤(↑k:Int)→(↑k:Int)<x.fst→denI p z6<denI p (nthD l k (0:Int)))∧∀(k:Nat),x.fst≤(↑k:Int)→(↑k:Int)<b→denI p z6<denI p (nthD l k (0:Int))→False)∧l=mvP l a.toNat b.toNat (a - a).toNat)∧∀(x:Int×Int×List Int),let z34:=x.snd.fst - (1:Int);let z35:=decide (x.fst<z34);let z36:=x.fst+(1:Int);let z37:=x.snd.snd.length;let z38:=z36.toNat;let z39:=x.snd.snd.set x.fst.toNat (nthD x.snd.snd z38 (0:Int));let z40:=SV.si .i64 x.snd.fst;let z41:=SV.si .i64 z36;let z42:=z39.set z38 (nthD x.snd.snd x.fst.toNat (0:Int));let z43:=SObj.row z3 z42 3 true;(a≤x.fst∧x.fst≤z34∧m≤x.snd.fst∧x.snd.fst≤b)∧((∀(k:Nat),m≤(↑k:Int)→(↑k:Int)<x.snd.fst→denI p z6<denI p (nthD l k (0:Int)))∧∀(k:Nat),x.snd.fst≤(↑k:Int)→(↑k:Int)<b→denI p z6<denI p (nthD l k (0:Int))→False)∧x.snd.snd=mvP l a.toNat b.toNat (x.fst - a).toNat→inR .i64 z34∧(z35=true→inR .i64 z36∧inR .i64 z36∧n=z37∧(0:Int)≤z36∧z36<(↑z37:Int)∧n=z37∧z38<z37∧n=z37∧(0:Int)≤x.fst∧x.fst<(↑z37:Int)∧n=z37∧x.fst.toNat<z37∧n=z37∧(0:Int)≤x.fst∧x.fst<(↑z37:Int)∧n=z37∧x.fst.toNat<z37∧n=z39.length∧(0:Int)≤z36∧z36<(↑z39.length:Int)∧n=z39.length∧z38<z39.length∧inR .i64 z36∧((z1.same z1∧z40.same z40∧z41.same z41∧True)∧z43.same z43∧z5.same z5∧True)∧((a≤z36∧z36≤z34∧m≤x.snd.fst∧x.snd.fst≤b)∧((∀(k:Nat),m≤(↑k:Int)→(↑k:Int)<x.snd.fst→denI p z6<denI p (nthD l k (0:Int)))∧∀(k:Nat),x.snd.fst≤(↑k:Int)→(↑k:Int)<b→denI p z6<denI p (nthD l k (0:Int))→False)∧z42=mvP l a.toNat b.toNat (z36 - a).toNat)∧(x.snd.fst - z36).toNat<(x.snd.fst - x.fst).toNat)∧(z35=false→(SV.tup []).same (SV.tup [])∧(SObj.row z3 x.snd.snd 3 true).same z8∧z5.same z5∧True)))∧(z0=false→inR .i64 (b - m)∧(z9=true→(((z1.same z1∧(SV.si .i64 m).same (SV.si .i64 m)∧z2.same z2∧(SV.si .i64 a).same (SV.si .i64 a)∧(SV.si .i64 m).same (SV.si .i64 m)∧True)∧z4.same z4∧z5.same z5∧True)∧(a≤a∧a≤m∧m≤m)∧(∀(k:Nat),a≤(↑k:Int)→(↑k:Int)<a→denI p (nthD l k (0:Int))<denI p z10→False)∧∀(k:Nat),m≤(↑k:Int)→(↑k:Int)<m→denI p (nthD l k (0:Int))<denI p z10)∧∀(x:Int×Int),let z44:=decide (x.fst<x.snd);let z45:=x.fst+x.snd;let z46:=z45 / (2:Int);let z47:=nthD l z46.toNat (0:Int);let z48:=!decide (cmpO p z10 z47<(0:Int));let z49:=z46+(1:Int);let z50:=SV.si .i64 z49;let z51:=SV.si .i64 x.snd;let z52:=(x.snd - x.fst).toNat;let z53:=SV.si .i64 x.fst;let z54:=SV.si .i64 z46;((a≤x.fst∧x.fst≤x.snd∧x.snd≤m)∧(∀(k:Nat),a≤(↑k:Int)→(↑k:Int)<x.fst→denI p (nthD l k (0:Int))<denI p z10→False)∧∀(k:Nat),x.snd≤(↑k:Int)→(↑k:Int)<m→denI p (nthD l k (0:Int))<denI p z10)→(z44=true→inR .i64 z45∧inR .u64 z45∧(0:Int)≤(1:Int)∧(1:Int)≤(64:Int)∧inR .i64 z46∧n=l.length∧(0:Int)≤m∧m<z7∧n=l.length∧m.toNat<l.length∧n=l.length∧(0:Int)≤z46∧z46<z7∧n=l.length∧z46.toNat<l.length∧(checkE p=(0:Int)∧inO p z10∧inO p z47)∧(z48=true→inR .i64 z49∧((z1.same z1∧(SV.si .i64 m).same (SV.si .i64 m)∧z2.same z2∧z50.same z50∧z51.same z51∧True)∧z4.same z4∧z5.same z5∧True)∧((a≤z49∧z49≤x.snd∧x.snd≤m)∧(∀(k:Nat),a≤(↑k:Int)→(↑k:Int)<z49→denI p (nthD l k (0:Int))<denI p z10→False)∧∀(k:Nat),x.snd≤(↑k:Int)→(↑k:Int)<m→denI p (nthD l k (0:Int))<denI p z10)∧(x.snd - z49).toNat<z52)∧(z48=false→((z1.same z1∧(SV.si .i64 m).same (SV.si .i64 m)∧z2.same z2∧z53.same z53∧z54.same z54∧True)∧z4.same z4∧z5.same z5∧True)∧((a≤x.fst∧x.fst≤z46∧z46≤m)∧(∀(k:Nat),a≤(↑k:Int)→(↑k:Int)<x.fst→denI p (nthD l k (0:Int))<denI p z10→False)∧∀(k:Nat),z46≤(↑k:Int)→(↑k:Int)<m→denI p (nthD l k (0:Int))<denI p z10)∧(z46 - x.fst).toNat<z52))∧(z44=false→(((z1.same z1∧z53.same z53∧(SV.si .i64 m).same (SV.si .i64 m)∧True)∧z4.same z4∧z5.same z5∧True)∧(x.fst≤m∧m≤m∧a≤x.fst)∧((∀(k:Nat),a≤(↑k:Int)→(↑k:Int)<x.fst→denI p (nthD l k (0:Int))<denI p z10→False)∧∀(k:Nat),x.fst≤(↑k:Int)→(↑k:Int)<m→denI p (nthD l k (0:Int))<denI p z10)∧l=insP (denI p) l a.toNat m.toNat m.toNat)∧∀(x:Int×Int×List Int),let z55:=x.fst.toNat;let z56:=decide (x.snd.fst<x.fst);let z57:=x.fst - (1:Int);let z58:=x.snd.snd.length;let z59:=z57.toNat;let z60:=x.snd.snd.set z55 (nthD x.snd.snd z59 (0:Int));let z61:=SV.si .i64 x.snd.fst;let z62:=SV.si .i64 z57;let z63:=z60.set z59 (nthD x.snd.snd z55 (0:Int));let z64:=SObj.row z3 z63 3 true;(x.snd.fst≤x.fst∧x.fst≤m∧a≤x.snd.fst)∧((∀(k:Nat),a≤(↑k:Int)→(↑k:Int)<x.snd.fst→denI p (nthD l k (0:Int))<denI p z10→False)∧∀(k:Nat),x.snd.fst≤(↑k:Int)→(↑k:Int)<m→denI p (nthD l k (0:Int))<denI p z10)∧x.snd.snd=insP (denI p) l a.toNat m.toNat z55→(z56=true→inR .i64 z57∧inR .i64 z57∧n=z58∧(0:Int)≤z57∧z57<(↑z58:Int)∧n=z58∧z59<z58∧n=z58∧(0:Int)≤x.fst∧x.fst<(↑z58:Int)∧n=z58∧z55<z58∧n=z58∧(0:Int)≤x.fst∧x.fst<(↑z58:Int)∧n=z58∧z55<z58∧n=z60.length∧(0:Int)≤z57∧z57<(↑z60.length:Int)∧n=z60.length∧z59<z60.length∧inR .i64 z57∧((z1.same z1∧z61.same z61∧z62.same z62∧True)∧z64.same z64∧z5.same z5∧True)∧((x.snd.fst≤z57∧z57≤m∧a≤x.snd.fst)∧((∀(k:Nat),a≤(↑k:Int)→(↑k:Int)<x.snd.fst→denI p (nthD l k (0:Int))<denI p z10→False)∧∀(k:Nat),x.snd.fst≤(↑k:Int)→(↑k:Int)<m→denI p (nthD l k (0:Int))<denI p z10)∧z63=insP (denI p) l a.toNat m.toNat z59)∧(z57 - x.snd.fst).toNat<(x.fst - x.snd.fst).toNat)∧(z56=false→(SV.tup []).same (SV.tup [])∧(SObj.row z3 x.snd.snd 3 true).same z8∧z5.same z5∧True)))∧(z9=false→inR .i64 (a+b)∧inR .u64 (a+b)∧(0:Int)≤(1:Int)∧(1:Int)≤(64:Int)∧inR .i64 z11∧inR .i64 z12∧(decide (z11<m)=true→inR .i64 z13∧inR .i64 z14∧(((z1.same z1∧(SV.si .i64 a).same (SV.si .i64 a)∧(SV.si .i64 m).same (SV.si .i64 m)∧(SV.si .i64 b).same (SV.si .i64 b)∧z2.same z2∧z15.same z15∧z16.same z16∧z17.same z17∧z15.same z15∧z18.same z18∧True)∧z4.same z4∧z5.same z5∧True)∧(z19≤z13∧z13≤z11∧z11≤z20)∧(∀(k:Nat),z19≤(↑k:Int)→(↑k:Int)<z13→denI p (nthD l k (0:Int))<denI p (nthD l (z14 - (↑k:Int)).toNat (0:Int))→False)∧∀(k:Nat),z11≤(↑k:Int)→(↑k:Int)<z20→denI p (nthD l k (0:Int))<denI p (nthD l (z14 - (↑k:Int)).toNat (0:Int)))∧∀(x:Int×Int),let z65:=decide (x.fst<x.snd);let z66:=x.fst+x.snd;let z67:=z66 / (2:Int);let z68:=z14 - z67;let z69:=nthD l z68.toNat (0:Int);let z70:=nthD l z67.toNat (0:Int);let z71:=!decide (cmpO p z69 z70<(0:Int));let z72:=z67+(1:Int);let z73:=SV.si .i64 z72;let z74:=SV.si .i64 x.snd;let z75:=(x.snd - x.fst).toNat;let z76:=SV.si .i64 x.fst;let z77:=SV.si .i64 z67;let z78:=z12 - x.fst;let z79:=decide (x.fst<z11);let z80:=rotR l x.fst.toNat m.toNat z78.toNat;let z81:=srtP (denI p) z80 a.toNat z21;let z82:=(z11,z78,b);((z19≤x.fst∧x.fst≤x.snd∧x.snd≤z20)∧(∀(k:Nat),z19≤(↑k:Int)→(↑k:Int)<x.fst→denI p (nthD l k (0:Int))<denI p (nthD l (z14 - (↑k:Int)).toNat (0:Int))→False)∧∀(k:Nat),x.snd≤(↑k:Int)→(↑k:Int)<z20→denI p (nthD l k (0:Int))<denI p (nthD l (z14 - (↑k:Int)).toNat (0:Int)))→(z65=true→inR .i64 z66∧inR .u64 z66∧(0:Int)≤(1:Int)∧(1:Int)≤(64:Int)∧inR .i64 z67∧inR .i64 z68∧n=l.length∧(0:Int)≤z68∧z68<z7∧n=l.length∧z68.toNat<l.length∧n=l.length∧(0:Int)≤z67∧z67<z7∧n=l.length∧z67.toNat<l.length∧(checkE p=(0:Int)∧inO p z69∧inO p z70)∧(z71=true→inR .i64 z72∧((z1.same z1∧(SV.si .i64 a).same (SV.si .i64 a)∧(SV.si .i64 m).same (SV.si .i64 m)∧(SV.si .i64 b).same (SV.si .i64 b)∧z2.same z2∧z15.same z15∧z16.same z16∧z73.same z73∧z74.same z74∧z18.same z18∧True)∧z4.same z4∧z5.same z5∧True)∧((z19≤z72∧z72≤x.snd∧x.snd≤z20)∧(∀(k:Nat),z19≤(↑k:Int)→(↑k:Int)<z72→denI p (nthD l k (0:Int))<denI p (nthD l (z14 - (↑k:Int)).toNat (0:Int))→False)∧∀(k:Nat),x.snd≤(↑k:Int)→(↑k:Int)<z20→denI p (nthD l k (0:Int))<denI p (nthD l (z14 - (↑k:Int)).toNat (0:Int)))∧(x.snd - z72).toNat<z75)∧(z71=false→((z1.same z1∧(SV.si .i64 a).same (SV.si .i64 a)∧(SV.si .i64 m).same (SV.si .i64 m)∧(SV.si .i64 b).same (SV.si .i64 b)∧z2.same z2∧z15.same z15∧z16.same z16∧z76.same z76∧z77.same z77∧z18.same z18∧True)∧z4.same z4∧z5.same z5∧True)∧((z19≤x.fst∧x.fst≤z67∧z67≤z20)∧(∀(k:Nat),z19≤(↑k:Int)→(↑k:Int)<x.fst→denI p (nthD l k (0:Int))<denI p (nthD l (z14 - (↑k:Int)).toNat (0:Int))→False)∧∀(k:Nat),z67≤(↑k:Int)→(↑k:Int)<z20→denI p (nthD l k (0:Int))<denI p (nthD l (z14 - (↑k:Int)).toNat (0:Int)))∧(z67 - x.fst).toNat<z75))∧(z65=false→inR .i64 z78∧(decide (x.fst<m)=true→(decide (m<z78)=true→(n=l.length∧l.length≤1000∧(0:Int)≤x.fst∧x.fst<m∧m<z78∧z78≤(↑l.length:Int))∧(decide (a<x.fst)=true→(z79=true→(symD ((n,z80,p),a,x.fst,z11)∧(z11 - a).toNat<k)∧(decide (z11<z78)=true→(decide (z78<b)=true→(symD ((n,z81,p),z82)∧(b - z11).toNat<k)∧(SV.tup []).same (SV.tup [])∧(SObj.row z3 (srtP (denI p) z81 z21 b.toNat) 3 true).same z8∧z5.same z5∧True)∧(decide (z78<b)=false→(SV.tup []).same (SV.tup [])∧(SObj.row z3 z81 3 true).same z8∧z5.same z5∧True))∧(decide (z11<z78)=false→(SV.tup []).same (SV.tup [])∧(SObj.row z3 z81 3 true).same z8∧z5.same z5∧True))∧(z79=false→(decide (z11<z78)=true→(decide (z78<b)=true→(symD ((n,z80,p),z82)∧(b - z11).toNat<k)∧(SV.tup []).same (SV.tup [])∧(SObj.row z3 (srtP (denI p) z80 z21 b.toNat) 3 true).same z8∧z5.same z5∧True)∧(decide (z78<b)=false→(SV.tup []).same (SV.tup [])∧(SObj.row z3 z80 3 true).same z8∧z5.same z5∧True))∧(decide (z11<z78)=false→(SV.tup []).same (SV.tup [])∧(SObj.row z3 z80 3 true).same z8∧z5.same z5∧True)))∧(decide (a<x.fst)=false→(decide (z11<z78)=true→(decide (z78<b)=true→(symD ((n,z80,p),z82)∧(b - z11).toNat<k)∧(SV.tup []).same (SV.tup [])∧(SObj.row z3 (srtP (denI p) z80 z21 b.toNat) 3 true).same z8∧z5.same z5∧True)∧(decide (z78<b)=false→(SV.tup []).same (SV.tup [])∧(SObj.row z3 z80 3 true).same z8∧z5.same z5∧True))∧(decide (z11<z78)=false→(SV.tup []).same (SV.tup [])∧(SObj.row z3 z80 3 true).same z8∧z5.same z5∧True)))∧(decide (m<z78)=false→(decide (a<x.fst)=true→(z79=true→(symD ((n,l,p),a,x.fst,z11)∧(z11 - a).toNat<k)∧(decide (z11<z78)=true→(decide (z78<b)=true→(symD ((n,z22,p),z82)∧(b - z11).toNat<k)∧(SV.tup []).same (SV.tup [])∧(SObj.row z3 (srtP (denI p) z22 z21 b.toNat) 3 true).same z8∧z5.same z5∧True)∧(decide (z78<b)=false→(SV.tup []).same (SV.tup [])∧(SObj.row z3 z22 3 true).same z8∧z5.same z5∧True))∧(decide (z11<z78)=false→(SV.tup []).same (SV.tup [])∧(SObj.row z3 z22 3 true).same z8∧z5.same z5∧True))∧(z79=false→(decide (z11<z78)=true→(decide (z78<b)=true→(symD ((n,l,p),z82)∧(b - z11).toNat<k)∧(SV.tup []).same (SV.tup [])∧(SObj.row z3 (srtP (denI p) l z21 b.toNat) 3 true).same z8∧z5.same z5∧True)∧(decide (z78<b)=false→(SV.tup []).same (SV.tup [])∧z4.same z8∧z5.same z5∧True))∧(decide (z11<z78)=false→(SV.tup []).same (SV.tup [])∧z4.same z8∧z5.same z5∧True)))∧(decide (a<x.fst)=false→(decide (z11<z78)=true→(decide (z78<b)=true→(symD ((n,l,p),z82)∧(b - z11).toNat<k)∧(SV.tup []).same (SV.tup [])∧(SObj.row z3 (srtP (denI p) l z21 b.toNat) 3 true).same z8∧z5.same z5∧True)∧(decide (z78<b)=false→(SV.tup []).same (SV.tup [])∧z4.same z8∧z5.same z5∧True))∧(decide (z11<z78)=false→(SV.tup []).same (SV.tup [])∧z4.same z8∧z5.same z5∧True))))∧(decide (x.fst<m)=false→(decide (a<x.fst)=true→(z79=true→(symD ((n,l,p),a,x.fst,z11)∧(z11 - a).toNat<k)∧(decide (z11<z78)=true→(decide (z78<b)=true→(symD ((n,z22,p),z82)∧(b - z11).toNat<k)∧(SV.tup []).same (SV.tup [])∧(SObj.row z3 (srtP (denI p) z22 z21 b.toNat) 3 true).same z8∧z5.same z5∧True)∧(decide (z78<b)=false→(SV.tup []).same (SV.tup [])∧(SObj.row z3 z22 3 true).same z8∧z5.same z5∧True))∧(decide (z11<z78)=false→(SV.tup []).same (SV.tup [])∧(SObj.row z3 z22 3 true).same z8∧z5.same z5∧True))∧(z79=false→(decide (z11<z78)=true→(decide (z78<b)=true→(symD ((n,l,p),z82)∧(b - z11).toNat<k)∧(SV.tup []).same (SV.tup [])∧(SObj.row z3 (srtP (denI p) l z21 b.toNat) 3 true).same z8∧z5.same z5∧True)∧(decide (z78<b)=false→(SV.tup []).same (SV.tup [])∧z4.same z8∧z5.same z5∧True))∧(decide (z11<z78)=false→(SV.tup []).same (SV.tup [])∧z4.same z8∧z5.same z5∧True)))∧(decide (a<x.fst)=false→(decide (z11<z78)=true→(decide (z78<b)=true→(symD ((n,l,p),z82)∧(b - z11).toNat<k)∧(SV.tup []).same (SV.tup [])∧(SObj.row z3 (srtP (denI p) l z21 b.toNat) 3 true).same z8∧z5.same z5∧True)∧(decide (z78<b)=false→(SV.tup []).same (SV.tup [])∧z4.same z8∧z5.same z5∧True))∧(decide (z11<z78)=false→(SV.tup []).same (SV.tup [])∧z4.same z8∧z5.same z5∧True)))))∧(decide (z11<m)=false→inR .i64 z14∧(((z1.same z1∧(SV.si .i64 a).same (SV.si .i64 a)∧(SV.si .i64 m).same (SV.si .i64 m)∧(SV.si .i64 b).same (SV.si .i64 b)∧z2.same z2∧z15.same z15∧z16.same z16∧(SV.si .i64 a).same (SV.si .i64 a)∧(SV.si .i64 m).same (SV.si .i64 m)∧z18.same z18∧True)∧z4.same z4∧z5.same z5∧True)∧(z19≤a∧a≤m∧m≤z20)∧(∀(k:Nat),z19≤(↑k:Int)→(↑k:Int)<a→denI p (nthD l k (0:Int))<denI p (nthD l (z14 - (↑k:Int)).toNat (0:Int))→False)∧∀(k:Nat),m≤(↑k:Int)→(↑k:Int)<z20→denI p (nthD l k (0:Int))<denI p (nthD l (z14 - (↑k:Int)).toNat (0:Int)))∧∀(x:Int×Int),let z83:=decide (x.fst<x.snd);let z84:=x.fst+x.snd;let z85:=z84 / (2:Int);let z86:=z14 - z85;let z87:=nthD l z86.toNat (0:Int);let z88:=nthD l z85.toNat (0:Int);let z89:=!decide (cmpO p z87 z88<(0:Int));let z90:=z85+(1:Int);let z91:=SV.si .i64 z90;let z92:=SV.si .i64 x.snd;let z93:=(x.snd - x.fst).toNat;let z94:=SV.si .i64 x.fst;let z95:=SV.si .i64 z85;let z96:=z12 - x.fst;let z97:=decide (x.fst<z11);let z98:=rotR l x.fst.toNat m.toNat z96.toNat;let z99:=srtP (denI p) z98 a.toNat z21;let z100:=(z11,z96,b);((z19≤x.fst∧x.fst≤x.snd∧x.snd≤z20)∧(∀(k:Nat),z19≤(↑k:Int)→(↑k:Int)<x.fst→denI p (nthD l k (0:Int))<denI p (nthD l (z14 - (↑k:Int)).toNat (0:Int))→False)∧∀(k:Nat),x.snd≤(↑k:Int)→(↑k:Int)<z20→denI p (nthD l k (0:Int))<denI p (nthD l (z14 - (↑k:Int)).toNat (0:Int)))→(z83=true→inR .i64 z84∧inR .u64 z84∧(0:Int)≤(1:Int)∧(1:Int)≤(64:Int)∧inR .i64 z85∧inR .i64 z86∧n=l.length∧(0:Int)≤z86∧z86<z7∧n=l.length∧z86.toNat<l.length∧n=l.length∧(0:Int)≤z85∧z85<z7∧n=l.length∧z85.toNat<l.length∧(checkE p=(0:Int)∧inO p z87∧inO p z88)∧(z89=true→inR .i64 z90∧((z1.same z1∧(SV.si .i64 a).same (SV.si .i64 a)∧(SV.si .i64 m).same (SV.si .i64 m)∧(SV.si .i64 b).same (SV.si .i64 b)∧z2.same z2∧z15.same z15∧z16.same z16∧z91.same z91∧z92.same z92∧z18.same z18∧True)∧z4.same z4∧z5.same z5∧True)∧((z19≤z90∧z90≤x.snd∧x.snd≤z20)∧(∀(k:Nat),z19≤(↑k:Int)→(↑k:Int)<z90→denI p (nthD l k (0:Int))<denI p (nthD l (z14 - (↑k:Int)).toNat (0:Int))→False)∧∀(k:Nat),x.snd≤(↑k:Int)→(↑k:Int)<z20→denI p (nthD l k (0:Int))<denI p (nthD l (z14 - (↑k:Int)).toNat (0:Int)))∧(x.snd - z90).toNat<z93)∧(z89=false→((z1.same z1∧(SV.si .i64 a).same (SV.si .i64 a)∧(SV.si .i64 m).same (SV.si .i64 m)∧(SV.si .i64 b).same (SV.si .i64 b)∧z2.same z2∧z15.same z15∧z16.same z16∧z94.same z94∧z95.same z95∧z18.same z18∧True)∧z4.same z4∧z5.same z5∧True)∧((z19≤x.fst∧x.fst≤z85∧z85≤z20)∧(∀(k:Nat),z19≤(↑k:Int)→(↑k:Int)<x.fst→denI p (nthD l k (0:Int))<denI p (nthD l (z14 - (↑k:Int)).toNat (0:Int))→False)∧∀(k:Nat),z85≤(↑k:Int)→(↑k:Int)<z20→denI p (nthD l k (0:Int))<denI p (nthD l (z14 - (↑k:Int)).toNat (0:Int)))∧(z85 - x.fst).toNat<z93))∧(z83=false→inR .i64 z96∧(decide (x.fst<m)=true→(decide (m<z96)=true→(n=l.length∧l.length≤1000∧(0:Int)≤x.fst∧x.fst<m∧m<z96∧z96≤(↑l.length:Int))∧(decide (a<x.fst)=true→(z97=true→(symD ((n,z98,p),a,x.fst,z11)∧(z11 - a).toNat<k)∧(decide (z11<z96)=true→(decide (z96<b)=true→(symD ((n,z99,p),z100)∧(b - z11).toNat<k)∧(SV.tup []).same (SV.tup [])∧(SObj.row z3 (srtP (denI p) z99 z21 b.toNat) 3 true).same z8∧z5.same z5∧True)∧(decide (z96<b)=false→(SV.tup []).same (SV.tup [])∧(SObj.row z3 z99 3 true).same z8∧z5.same z5∧True))∧(decide (z11<z96)=false→(SV.tup []).same (SV.tup [])∧(SObj.row z3 z99 3 true).same z8∧z5.same z5∧True))∧(z97=false→(decide (z11<z96)=true→(decide (z96<b)=true→(symD ((n,z98,p),z100)∧(b - z11).toNat<k)∧(SV.tup []).same (SV.tup [])∧(SObj.row z3 (srtP (denI p) z98 z21 b.toNat) 3 true).same z8∧z5.same z5∧True)∧(decide (z96<b)=false→(SV.tup []).same (SV.tup [])∧(SObj.row z3 z98 3 true).same z8∧z5.same z5∧True))∧(decide (z11<z96)=false→(SV.tup []).same (SV.tup [])∧(SObj.row z3 z98 3 true).same z8∧z5.same z5∧True)))∧(decide (a<x.fst)=false→(decide (z11<z96)=true→(decide (z96<b)=true→(symD ((n,z98,p),z100)∧(b - z11).toNat<k)∧(SV.tup []).same (SV.tup [])∧(SObj.row z3 (srtP (denI p) z98 z21 b.toNat) 3 true).same z8∧z5.same z5∧True)∧(decide (z96<b)=false→(SV.tup []).same (SV.tup [])∧(SObj.row z3 z98 3 true).same z8∧z5.same z5∧True))∧(decide (z11<z96)=false→(SV.tup []).same (SV.tup [])∧(SObj.row z3 z98 3 true).same z8∧z5.same z5∧True)))∧(decide (m<z96)=false→(decide (a<x.fst)=true→(z97=true→(symD ((n,l,p),a,x.fst,z11)∧(z11 - a).toNat<k)∧(decide (z11<z96)=true→(decide (z96<b)=true→(symD ((n,z22,p),z100)∧(b - z11).toNat<k)∧(SV.tup []).same (SV.tup [])∧(SObj.row z3 (srtP (denI p) z22 z21 b.toNat) 3 true).same z8∧z5.same z5∧True)∧(decide (z96<b)=false→(SV.tup []).same (SV.tup [])∧(SObj.row z3 z22 3 true).same z8∧z5.same z5∧True))∧(decide (z11<z96)=false→(SV.tup []).same (SV.tup [])∧(SObj.row z3 z22 3 true).same z8∧z5.same z5∧True))∧(z97=false→(decide (z11<z96)=true→(decide (z96<b)=true→(symD ((n,l,p),z100)∧(b - z11).toNat<k)∧(SV.tup []).same (SV.tup [])∧(SObj.row z3 (srtP (denI p) l z21 b.toNat) 3 true).same z8∧z5.same z5∧True)∧(decide (z96<b)=false→(SV.tup []).same (SV.tup [])∧z4.same z8∧z5.same z5∧True))∧(decide (z11<z96)=false→(SV.tup []).same (SV.tup [])∧z4.same z8∧z5.same z5∧True)))∧(decide (a<x.fst)=false→(decide (z11<z96)=true→(decide (z96<b)=true→(symD ((n,l,p),z100)∧(b - z11).toNat<k)∧(SV.tup []).same (SV.tup [])∧(SObj.row z3 (srtP (denI p) l z21 b.toNat) 3 true).same z8∧z5.same z5∧True)∧(decide (z96<b)=false→(SV.tup []).same (SV.tup [])∧z4.same z8∧z5.same z5∧True))∧(decide (z11<z96)=false→(SV.tup []).same (SV.tup [])∧z4.same z8∧z5.same z5∧True))))∧(decide (x.fst<m)=false→(decide (a<x.fst)=true→(z97=true→(symD ((n,l,p),a,x.fst,z11)∧(z11 - a).toNat<k)∧(decide (z11<z96)=true→(decide (z96<b)=true→(symD ((n,z22,p),z100)∧(b - z11).toNat<k)∧(SV.tup []).same (SV.tup [])∧(SObj.row z3 (srtP (denI p) z22 z21 b.toNat) 3 true).same z8∧z5.same z5∧True)∧(decide (z96<b)=false→(SV.tup []).same (SV.tup [])∧(SObj.row z3 z22 3 true).same z8∧z5.same z5∧True))∧(decide (z11<z96)=false→(SV.tup []).same (SV.tup [])∧(SObj.row z3 z22 3 true).same z8∧z5.same z5∧True))∧(z97=false→(decide (z11<z96)=true→(decide (z96<b)=true→(symD ((n,l,p),z100)∧(b - z11).toNat<k)∧(SV.tup []).same (SV.tup [])∧(SObj.row z3 (srtP (denI p) l z21 b.toNat) 3 true).same z8∧z5.same z5∧True)∧(decide (z96<b)=false→(SV.tup []).same (SV.tup [])∧z4.same z8∧z5.same z5∧True))∧(decide (z11<z96)=false→(SV.tup []).same (SV.tup [])∧z4.same z8∧z5.same z5∧True)))∧(decide (a<x.fst)=false→(decide (z11<z96)=true→(decide (z96<b)=true→(symD ((n,l,p),z100)∧(b - z11).toNat<k)∧(SV.tup []).same (SV.tup [])∧(SObj.row z3 (srtP (denI p) l z21 b.toNat) 3 true).same z8∧z5.same z5∧True)∧(decide (z96<b)=false→(SV.tup []).same (SV.tup [])∧z4.same z8∧z5.same z5∧True))∧(decide (z11<z96)=false→(SV.tup []).same (SV.tup [])∧z4.same z8∧z5.same z5∧True)))))))) (by kernel_rfl) ?_
 simp only[vcs]
 have hV:∀k:Nat,k<l.length→inO p (nthD l k 0):=fun k hk=>ho _ (nthD_mem hk)
 have hcmp:∀i j:Nat,i<l.length→j<l.length→(cmpO p (nthD l i 0) (nthD l j 0)<0↔denI p (nthD l j 0)<denI p (nthD l i 0)):=fun i j hi hj=>cmpO_neg hc (hV i hi) (hV j hj)
 have hxi:∀i j:Nat,a≤i→(i:Int)<m→m≤j→(j:Int)<b→nthD l i 0<nthD l j 0:=fun i j h1 h2 h3 h4=>hx _ (seg_mem.2 ⟨i,by omega,by omega,by omega,rfl⟩) _ (seg_mem.2 ⟨j,by omega,by omega,by omega,rfl⟩)
 have u64:∀{v:Int},0≤v→v≤100000→inR .u64 v:=fun h1 h2=>u64_in h1 (by omega)
 generalize hD:denI p=D at*
 refine⟨by omega,fun h1=>?_,fun h1=>⟨by omega,fun h2=>?_,fun h2=>?_⟩⟩
 ·have hm:m=a+1:=by omega
  have mono:∀i j:Nat,m≤i→i≤j→(j:Int)<b→D (nthD l j 0)≤D (nthD l i 0):=fun i j q1 q2 q3=>leD_den (srt_idx' hR (by omega) q2 (by omega) (by omega))
  refine⟨⟨⟨by omega,by omega,by omega⟩,fun k q1 q2=>by omega,fun k q1 q2=>by omega⟩,?_⟩
  rintro⟨i,j⟩ ⟨⟨i0,i1,i2⟩,q1,q2⟩
  simp only at i0 i1 i2 q1 q2 ⊢
  refine⟨fun hij=>?_,fun hij=>⟨⟨⟨by omega,by omega,by omega,by omega⟩,⟨q1,fun k w1 w2=>q2 k (by omega) w2⟩,?_⟩,?_⟩⟩
  ·rw[hcmp _ _ (by omega) (by omega)]
   generalize hh:(i+j) / 2=h
   have hh1:i≤h∧h<j:=by omega
   refine⟨by omega,u64 (by omega) (by omega),by omega,by omega,by omega,by omega,by omega,by omega,by omega,by omega,by omega,by omega,by omega,by omega,by omega,⟨hc,hV _ (by omega),hV _ (by omega)⟩,fun hlt=>⟨by omega,⟨⟨by omega,by omega,by omega⟩,fun k w1 w2=>?_,fun k w1 w2=>q2 k w1 w2⟩,by omega⟩,fun hge=>⟨⟨⟨by omega,by omega,by omega⟩,fun k w1 w2=>q1 k w1 w2,fun k w1 w2=>?_⟩,by omega⟩⟩
   ·have:=mono k h.toNat (by omega) (by omega) (by omega)
    omega
   ·have:=mono h.toNat k (by omega) (by omega) (by omega)
    omega
  ·rw[show(a - a).toNat=0 by omega,mvP_start (by omega) (by omega)]
  ·rintro⟨k,i',w⟩ ⟨⟨k0,k1,k2,k3⟩,⟨q1,q2⟩,hw⟩
   simp only at k0 k1 k2 k3 q1 q2 hw ⊢
   have hwl:w.length=l.length:=by rw[hw,mvP_len (by omega) (by omega)]
   refine⟨by omega,fun hk=>?_,fun hk=>?_⟩
   ·obtain⟨e1,e2,e3⟩:=@mvP_at l a.toNat b.toNat (k - a).toNat (by omega) (by omega)
    rw[←hw] at e1 e2 e3
    rw[show a.toNat+(k - a).toNat=k.toNat by omega] at e1 e2 e3
    rw[show k.toNat+1=(k+1).toNat by omega] at e2 e3
    rw[show(k - a).toNat+1=(k+1 - a).toNat by omega] at e3
    rw[e1,e2,e3]
    simp only[List.length_set,hwl]
    refine⟨by omega,by omega,by omega,by omega,by omega,by omega,by omega,by omega,by omega,by omega,by omega,by omega,by omega,by omega,by omega,by omega,by omega,by omega,by omega,by omega,by omega,by omega,by omega,⟨⟨by omega,by omega,by omega,by omega⟩,⟨q1,q2⟩,trivial⟩,by omega⟩
   ·have hki:k=i' - 1:=by omega
    refine orow ?_
    rw[hw]
    refine mvP_done (by omega) (by omega) (by rw[show a.toNat+1=m.toNat by omega];exact hR) ?_ ?_
    ·intro s hs
     rw[drop_seg2,seg_mem] at hs
     obtain⟨k',w1,w2,w3,rfl⟩:=hs
     have h9:¬D (nthD l a.toNat 0)<D (nthD l k' 0):=q2 k' (by omega) (by omega)
     have:=hxi a.toNat k' (by omega) (by omega) (by omega) (by omega)
     exact leD_iff.2 (by omega)
    ·by_cases hka:k=a
     ·exact .inl (by omega)
     ·refine .inr (leD_iff.2 (.inl ?_))
      rw[show a.toNat+(k - a).toNat=k.toNat by omega]
      exact q1 k.toNat (by omega) (by omega)
 ·have hb:b=m+1:=by omega
  have mono:∀i j:Nat,a≤i→i≤j→(j:Int)<m→D (nthD l j 0)≤D (nthD l i 0):=fun i j q1 q2 q3=>leD_den (srt_idx' hL (by omega) q2 (by omega) (by omega))
  refine⟨⟨⟨by omega,by omega,by omega⟩,fun k q1 q2=>by omega,fun k q1 q2=>by omega⟩,?_⟩
  rintro⟨i,j⟩ ⟨⟨i0,i1,i2⟩,q1,q2⟩
  simp only at i0 i1 i2 q1 q2 ⊢
  refine⟨fun hij=>?_,fun hij=>⟨⟨⟨by omega,by omega,by omega⟩,⟨q1,fun k w1 w2=>q2 k (by omega) w2⟩,?_⟩,?_⟩⟩
  ·rw[hcmp _ _ (by omega) (by omega)]
   generalize hh:(i+j) / 2=h
   have hh1:i≤h∧h<j:=by omega
   refine⟨by omega,u64 (by omega) (by omega),by omega,by omega,by omega,by omega,by omega,by omega,by omega,by omega,by omega,by omega,by omega,by omega,by omega,⟨hc,hV _ (by omega),hV _ (by omega)⟩,fun hge=>⟨by omega,⟨⟨by omega,by omega,by omega⟩,fun k w1 w2=>?_,fun k w1 w2=>q2 k w1 w2⟩,by omega⟩,fun hlt=>⟨⟨⟨by omega,by omega,by omega⟩,fun k w1 w2=>q1 k w1 w2,fun k w1 w2=>?_⟩,by omega⟩⟩
   ·have:=mono k h.toNat (by omega) (by omega) (by omega)
    omega
   ·have:=mono h.toNat k (by omega) (by omega) (by omega)
    omega
  ·rw[insP_start (by omega) (by omega),srtP_triv (by omega) hL]
  ·rintro⟨k,i',w⟩ ⟨⟨k0,k1,k2⟩,⟨q1,q2⟩,hw⟩
   simp only at k0 k1 k2 q1 q2 hw ⊢
   have hwl:w.length=l.length:=by rw[hw,insP_len (by omega) (by omega)]
   have hso:srt D (seg l a.toNat m.toNat)=seg l a.toNat m.toNat:=srt_of hL
   have hsl:=seg_len (l:=l) (a:=a.toNat) (b:=m.toNat) (by omega) (by omega)
   refine⟨fun hk=>?_,fun hk=>?_⟩
   ·obtain⟨e1,e2,e3⟩:=@insP_at D l a.toNat m.toNat k.toNat (by omega) (by omega) (by omega)
    rw[←hw] at e1 e2 e3
    rw[show k.toNat - 1=(k - 1).toNat by omega] at e2 e3
    rw[e1,e2,e3]
    simp only[List.length_set,hwl]
    refine⟨by omega,by omega,by omega,by omega,by omega,by omega,by omega,by omega,by omega,by omega,by omega,by omega,by omega,by omega,by omega,by omega,by omega,by omega,by omega,by omega,by omega,by omega,by omega,⟨⟨by omega,by omega,by omega⟩,⟨q1,q2⟩,trivial⟩,by omega⟩
   ·have hki:k=i':=by omega
    refine orow ?_
    rw[hw,show b.toNat=m.toNat+1 by omega]
    refine insP_done (by omega) (by omega) (by omega) ?_ ?_
    ·intro s hs
     rw[hso,drop_seg2,seg_mem] at hs
     obtain⟨k',w1,w2,w3,rfl⟩:=hs
     have h9:D (nthD l k' 0)<D (nthD l m.toNat 0):=q2 k' (by omega) (by omega)
     exact leD_iff.2 (by omega)
    ·by_cases hka:k=a
     ·exact .inl (by omega)
     ·refine .inr ?_
      rw[hso,nthD_eq (show k.toNat - 1 - a.toNat<(seg l a.toNat m.toNat).length by omega),seg_get]
      have h9:¬D (nthD l (a.toNat+(k.toNat - 1 - a.toNat)) 0)<D (nthD l m.toNat 0):=q1 (a.toNat+(k.toNat - 1 - a.toNat)) (by omega) (by omega)
      have:=hxi (a.toNat+(k.toNat - 1 - a.toNat)) m.toNat (by omega) (by omega) (by omega) (by omega)
      exact leD_iff.2 (by omega)
 ·generalize hmd:(a+b) / 2=mid
  have md:2*mid≤a+b∧a+b≤2*mid+1:=by omega
  clear hmd
  have hlh:∃lo hi,lo=(if mid<m then mid+m - b else a)∧hi=(if mid<m then mid else m):=⟨_,_,rfl,rfl⟩
  obtain⟨lo,hi,elo,ehi⟩:=hlh
  rw[←elo,←ehi]
  have hlo:(mid<m∧lo=mid+m - b∧hi=mid)∨(m≤mid∧lo=a∧hi=m):=by
   rcases Int.lt_or_le mid m with h|h
   ·exact .inl ⟨h,by rw[elo,if_pos h],by rw[ehi,if_pos h]⟩
   ·exact .inr ⟨h,by rw[elo,if_neg (by omega)],by rw[ehi,if_neg (by omega)]⟩
  clear elo ehi
  have moL:∀i j:Nat,a≤i→i≤j→(j:Int)<m→D (nthD l j 0)≤D (nthD l i 0):=fun i j q1 q2 q3=>leD_den (srt_idx' hL (by omega) q2 (by omega) (by omega))
  have moR:∀i j:Nat,m≤i→i≤j→(j:Int)<b→D (nthD l j 0)≤D (nthD l i 0):=fun i j q1 q2 q3=>leD_den (srt_idx' hR (by omega) q2 (by omega) (by omega))
  have tail:∀s:Int,lo≤s→s≤hi→(∀k:Nat,lo≤k→(k:Int)<s→D (nthD l k 0)<D (nthD l (mid+m - 1 - k).toNat 0)→False)→(∀k:Nat,s≤k→(k:Int)<hi→D (nthD l k 0)<D (nthD l (mid+m - 1 - k).toNat 0))→
    symT D n k l p a m b mid s:=by
   intro s s1 s2 q1 q2
   refine symT_ok hD hc hn hl ho a0 (by omega) (by omega) (by omega) (by omega) (by omega) (by omega) (by omega) a3 hL hR hx ?_ ?_ hk
   ·rintro x y hX hY
    rw[seg_mem] at hX hY
    obtain⟨i,i1,i2,i3,rfl⟩:=hX
    obtain⟨j,j1,j2,j3,rfl⟩:=hY
    have h3:=q1 (s - 1).toNat (by omega) (by omega)
    rw[show(mid+m - 1 - ((s - 1).toNat:Int)).toNat=(mid+m - s).toNat by omega] at h3
    have h4:=moL i (s - 1).toNat (by omega) (by omega) (by omega)
    have h5:=moR (mid+m - s).toNat j (by omega) (by omega) (by omega)
    have h6:=hxi i j (by omega) (by omega) (by omega) (by omega)
    have h7:¬D (nthD l (s - 1).toNat 0)<D (nthD l (mid+m - s).toNat 0):=h3
    exact leD_iff.2 (by omega)
   ·rintro x y hX hY
    rw[seg_mem] at hX hY
    obtain⟨j,j1,j2,j3,rfl⟩:=hX
    obtain⟨i,i1,i2,i3,rfl⟩:=hY
    have h3:=q2 s.toNat (by omega) (by omega)
    have h4:=moL s.toNat i (by omega) (by omega) (by omega)
    have h5:=moR j (mid+m - 1 - (s.toNat:Int)).toNat (by omega) (by omega) (by omega)
    exact leD_iff.2 (by omega)
  refine⟨by omega,u64 (by omega) (by omega),by omega,by omega,by omega,by omega,fun hm=>⟨by omega,by omega,⟨⟨by omega,by omega,by omega⟩,fun k w1 w2=>by omega,fun k w1 w2=>by omega⟩,?_⟩,fun hm=>⟨by omega,⟨⟨by omega,by omega,by omega⟩,fun k w1 w2=>by omega,fun k w1 w2=>by omega⟩,?_⟩⟩
  all_goals
   rintro⟨i,j⟩ ⟨⟨i0,i1,i2⟩,q1,q2⟩
   simp only at i0 i1 i2 q1 q2 ⊢
   refine⟨fun hij=>?_,fun hij=>?_⟩
   ·generalize hh:(i+j) / 2=h
    have hh1:i≤h∧h<j:=by omega
    rw[hcmp _ _ (by omega) (by omega)]
    refine⟨by omega,u64 (by omega) (by omega),by omega,by omega,by omega,by omega,by omega,by omega,by omega,by omega,by omega,by omega,by omega,by omega,by omega,by omega,⟨hc,hV _ (by omega),hV _ (by omega)⟩,fun hge=>⟨by omega,⟨⟨by omega,by omega,by omega⟩,fun k w1 w2=>?_,fun k w1 w2=>q2 k w1 w2⟩,by omega⟩,fun hlt=>⟨⟨⟨by omega,by omega,by omega⟩,fun k w1 w2=>q1 k w1 w2,fun k w1 w2=>?_⟩,by omega⟩⟩
    ·have h3:=moL k h.toNat (by omega) (by omega) (by omega)
     have h4:=moR (mid+m - 1 - h).toNat (mid+m - 1 - (k:Int)).toNat (by omega) (by omega) (by omega)
     omega
    ·have h3:=moL h.toNat k (by omega) (by omega) (by omega)
     have h4:=moR (mid+m - 1 - (k:Int)).toNat (mid+m - 1 - h).toNat (by omega) (by omega) (by omega)
     omega
   ·have hij':i=j:=by omega
    have h3:=tail i i0 (by omega) q1 (fun k w1 w2=>q2 k (by omega) w2)
    exact h3
theorem hSym:∀n,HoldsO Try.prog (symC n)
 |0=>by
  rintro⟨⟨c,l,p⟩,a,m,b⟩ ⟨_,h⟩
  exact absurd h (Nat.not_lt_zero _)
 |n+1=>by
  rintro⟨⟨c,l,p⟩,a,m,b⟩ ⟨h1,h2⟩
  by_cases hc:(b - a).toNat<n
  ·exact hSym n ⟨⟨c,l,p⟩,a,m,b⟩ ⟨h1,hc⟩
  ·refine holdsO_of (symC (n+1)) (W:=W344 n) (Λ:=fun x=>Λ344 x.1.1 x.1.2.1 x.1.2.2 x.2.1 x.2.2.1 x.2.2.2) base_ok (by simp only[W344,List.forall_mem_cons,List.not_mem_nil,false_implies,implies_true,and_true];exact⟨hSym n,h351,h320⟩) (by simp)
    (show fnN 60=some F344 by kernel_rfl) (fun _=>rfl) ⟨⟨c,l,p⟩,a,m,b⟩ ?_ (symX n c l p a m b h1 h2).out
   intro d hd b' hb1 hb2 hb3
   have hd2:d=symC n:=by
    have:findO 60 (W344 n)=some (symC n):=rfl
    have hd3:findO 60 (W344 n)=some d:=hd
    rw[this] at hd3
    injection hd3 with hd3
    exact hd3.symm
   subst hd2
   have hb:(⟨⟨c,l,p⟩,a,m,b⟩:Srg×Int×Int×Int)=b':=(symC n).inj ⟨⟨c,l,p⟩,a,m,b⟩ b' hb1 hb2
   subst hb
   exact hc hb3.2
def to1 (b:Int):List Int:=[b]
def of1:List Int→Option Int
 |[a]=>some a
 |_=>none
theorem of1_ok:∀l b,of1 l=some b→l=to1 b:=fun l b h=>by
 unfold of1 at h
 split at h
 ·simp only[Option.some.injEq] at h;subst h;rfl
 ·cases h
theorem to1_inj:∀b c,to1 b=to1 c→b=c:=fun b c h=>by
 unfold to1 at h
 simp only[List.cons.injEq,and_true] at h
 exact h
def to0 (_:Unit):List Int:=[]
def of0:List Int→Option Unit
 |[]=>some ()
 |_=>none
theorem of0_ok:∀l b,of0 l=some b→l=to0 b:=fun l b h=>by
 unfold of0 at h
 split at h
 ·rfl
 ·cases h
theorem to0_inj:∀b c,to0 b=to0 c→b=c:=fun _ _ _=>rfl
theorem srtP_all {D:Int→Int} {l:List Int} {n:Nat} (h:n=l.length):srtP D l 0 n=srt D l:=by
 subst h
 unfold srtP seg
 simp
def m20 (D:Int→Int) (l:List Int):List Int:=srt D (l.take 20)++(srt D (l.drop 20)++[])
theorem srtP_20 {D:Int→Int} {l:List Int} (h:20≤l.length):srtP D l 0 20=srt D (l.take 20)++(l.drop 20++[]):=by
 unfold srtP seg
 simp
theorem srtP_m20 {D:Int→Int} {l:List Int} {n:Nat} (hn:n=l.length) (h:20≤l.length):srtP D (srtP D l 0 20) 20 n=m20 D l:=by
 have hl:(srt D (l.take 20)).length=20:=by rw[srt_len,List.length_take];omega
 rw[srtP_20 h]
 exact srtP_mid hl.symm (by rw[List.length_drop];omega)
theorem m20_len {D:Int→Int} {l:List Int}:(m20 D l).length=l.length:=by
 unfold m20
 rw[List.append_nil,List.length_append,srt_len,srt_len,←List.length_append,List.take_append_drop]
theorem m20_perm {D:Int→Int} {l:List Int}:(m20 D l).Perm l:=by
 unfold m20
 rw[List.append_nil]
 refine(srt_perm.append srt_perm).trans ?_
 rw[List.take_append_drop]
theorem m20_seg {D:Int→Int} {l:List Int} {n:Nat} (hn:n=l.length) (h:20≤l.length):seg (m20 D l) 0 20=srt D (l.take 20)∧seg (m20 D l) 20 n=srt D (l.drop 20):=by
 have hl:(srt D (l.take 20)).length=20:=by rw[srt_len,List.length_take];omega
 refine⟨?_,?_⟩
 ·have:=@seg_mid [] (srt D (l.take 20)) (srt D (l.drop 20)++[]) 0 20 rfl (by rw[hl];rfl)
  exact this
 ·exact seg_mid hl.symm (by rw[srt_len,srt_len,List.length_take,List.length_drop];omega)
theorem m20_srt {D:Int→Int} {l:List Int} {n:Nat} (hn:n=l.length):srtP D (m20 D l) 0 n=srt D l:=by
 rw[srtP_all (by rw[m20_len];exact hn)]
 exact srt_eq (srt_perm.trans m20_perm) srt_srt
theorem seg_after {D:Int→Int} {l:List Int} {b c d:Nat} (h:b≤c) (hb:b≤l.length):seg (srtP D l 0 b) c d=seg l c d:=by
 have hl:(srt D (seg l 0 b)).length=b:=by rw[srt_len,seg_len (by omega) hb];omega
 unfold srtP
 have:(l.take 0++srt D (seg l 0 b)++l.drop b).drop c=l.drop c:=by
  rw[List.take_zero,List.nil_append,List.drop_append,List.drop_eq_nil_of_le (by omega),List.nil_append,List.drop_drop,hl,show b+(c - b)=c by omega]
 show((l.take 0++srt D (seg l 0 b)++l.drop b).drop c).take (d - c)=(l.drop c).take (d - c)
 rw[this]
theorem m20_dom {l:List Int} {p:Prob} {n:Nat} (hc:checkE p=0) (hn:n=l.length) (h:20<l.length) (hl:l.length≤1000) (ho:∀x∈l,inO p x) (hi:l.Pairwise (·<·)):symD ((n,m20 (denI p) l,p),0,20,(l.length:Int)):=by
 obtain⟨s1,s2⟩:=@m20_seg (denI p) l l.length rfl (by omega)
 refine⟨⟨⟨hc,by simp only[m20_len];exact hn⟩,by simp only[m20_len];exact hl,fun x hx=>ho x (m20_perm.mem_iff.1 hx)⟩,⟨by simp only;omega,by simp only;omega,by simp only;omega,by simp only[m20_len];omega⟩,?_,?_,?_⟩
 ·show Srt _ (seg _ 0 20)
  rw[s1];exact srt_srt
 ·show Srt _ (seg _ 20 _)
  rw[show((l.length:Int)).toNat=l.length by omega,s2];exact srt_srt
 ·show ∀x∈seg _ 0 20,∀y∈seg _ 20 _,x<y
  rw[show((l.length:Int)).toNat=l.length by omega,s1,s2]
  intro x hx y hy
  rw[srt_mem] at hx hy
  have:=List.take_append_drop 20 l
  rw[←this,List.pairwise_append] at hi
  exact hi.2.2 x hx y hy
def r333:OCtr:=sortCtr 44 1 Int to1 of1 (fun _=>rfl) of1_ok to1_inj (fun a=>(offL a.1∧a.1.2.1.Pairwise (·<·))∧a.2=a.1.2.1.length∧a.1.2.1.length≤40) fun a=>srt (denI a.1.2.2) a.1.2.1
def Λ333 (n:Nat) (l:List Int) (p:Prob):Nat→LoopAnn
 |2=> .inv (Int×Int×List Int) (fun x=>⟨[(0,.ow 0 n 1),(1,.si .i64 l.length),(2,.fn (.func 25) [] [.ptr 1 0 20]),(6,.si .i64 20),(7,.si .i64 x.1),(8,.si .i64 x.2.1)],[.row (.i .i64) x.2.2 3 true,.cells p.ss 27 20 false]⟩) (fun s=>(iS s 7,iS s 8,oS (.i .i64) s 0))
   (fun x=>x.2.1=x.1+20∧(x.1=0∧x.2.2=l∨x.1=20∧20≤l.length∧x.2.2=srtP (denI p) l 0 20∨x.1=40∧l.length=40∧x.2.2=srtP (denI p) (srtP (denI p) l 0 20) 20 40)) (fun x=>(1000 - x.1).toNat) fun _ _=> .look
 |7=> .inv (Int×List Int) (fun x=>⟨[(0,.ow 0 n 1),(1,.si .i64 l.length),(2,.fn (.func 25) [] [.ptr 1 0 20]),(6,.si .i64 x.1)],[.row (.i .i64) x.2 3 true,.cells p.ss 27 20 false]⟩) (fun s=>(iS s 6,oS (.i .i64) s 0))
   (fun x=>x.1=20∧(l.length≤20∧x.2=srt (denI p) l∨20<l.length∧x.2=m20 (denI p) l)∨x.1=40∧x.2=srt (denI p) l) (fun x=>(1000 - x.1).toNat) fun x k=>match k with
    |9=> .inv (Int×Int×List Int) (fun y=>⟨[(0,.ow 0 n 1),(1,.si .i64 l.length),(2,.fn (.func 25) [] [.ptr 1 0 20]),(6,.si .i64 x.1),(7,.si .i64 y.1),(8,.si .i64 y.2.1)],[.row (.i .i64) y.2.2 3 true,.cells p.ss 27 20 false]⟩) (fun s=>(iS s 7,iS s 8,oS (.i .i64) s 0))
      (fun y=>y.1=0∧y.2.1=40∧y.2.2=m20 (denI p) l∨y.1=40∧y.2.1=80∧l.length=40∧y.2.2=srt (denI p) l) (fun y=>(1000 - y.1).toNat) fun _ _=> .look
    |_=> .look
 |_=> .look
theorem h333:HoldsO Try.prog r333:=by
 refine conO (L:=[]) (W:=[r343,symC 1001]) r333 F333 (fun a=>Λ333 a.1.1 a.1.2.1 a.1.2.2) (by simp only[List.forall_mem_cons,List.not_mem_nil,false_implies,implies_true,and_true];exact⟨h343,hSym 1001⟩) (by simp) (by kernel_rfl) (fun _=>rfl) (by kernel_rfl) ?_
 rintro⟨⟨n,l,p⟩,N⟩ ⟨⟨⟨⟨hc,hn⟩,hl,ho⟩,hi⟩,hN,h40⟩
 simp only at hc hn hl ho hi hN h40
 subst hN
 refine vcOf (let z0:=SV.ow 0 n 1;let z1:=(↑l.length:Int);let z2:=SV.si .i64 z1;let z3:=SV.fn (Fn.func 25) [] [SV.ptr 1 0 20];let z4:=SV.si .i64 20;let z5:=SId.i .i64;let z6:=SObj.row z5 l 3 true;let z7:=SObj.cells [SV.si .i64 p.supply.a0,SV.si .i64 p.supply.a1,SV.si .i64 p.supply.a2,SV.si .i64 p.supply.a3,SV.si .i64 p.supply.a4,SV.si .i64 p.supply.a5,SV.si .i64 p.opn.a0,SV.si .i64 p.opn.a1,SV.si .i64 p.opn.a2,SV.si .i64 p.opn.a3,SV.si .i64 p.opn.a4,SV.si .i64 p.opn.a5,SV.si .i64 p.cls.a0,SV.si .i64 p.cls.a1,SV.si .i64 p.cls.a2,SV.si .i64 p.cls.a3,SV.si .i64 p.cls.a4,SV.si .i64 p.cls.a5,SV.row z5 p.classes,SV.row SId.off p.offers] 27 20 false;let z8:=srtP (denI p) l 0 20;let z9:=srtP (denI p) z8 20 40;let z10:=srt (denI p) l;let z11:=m20 (denI p) l;(((z0.same z0∧z2.same z2∧z3.same z3∧(SV.il .i64 20).same z4∧(SV.il .i64 0).same (SV.si .i64 0)∧(SV.il .i64 20).same z4∧True)∧z6.same z6∧z7.same z7∧True)∧(20:Int)=(20:Int)∧((0:Int)=(0:Int)∧l=l∨(0:Int)=(20:Int)∧20≤l.length∧l=z8∨(0:Int)=(40:Int)∧l.length=40∧l=z9))∧∀(x:Int×Int×List Int),let z12:=decide (x.snd.fst≤z1);let z13:=x.fst.toNat;let z14:=x.snd.fst+(20:Int);let z15:=SV.si .i64 x.snd.fst;let z16:=SV.si .i64 z14;let z17:=srtP (denI p) x.snd.snd z13 x.snd.fst.toNat;let z18:=SObj.row z5 z17 3 true;let z19:=srtP (denI p) x.snd.snd z13 z1.toNat;let z20:=SObj.row z5 z19 3 true;x.snd.fst=x.fst+(20:Int)∧(x.fst=(0:Int)∧x.snd.snd=l∨x.fst=(20:Int)∧20≤l.length∧x.snd.snd=z8∨x.fst=(40:Int)∧l.length=40∧x.snd.snd=z9)→(z12=true→(offL (n,x.snd.snd,p)∧rngL x.snd.snd x.fst x.snd.fst∧List.Pairwise (fun x1 x2 ↦x1<x2) (seg x.snd.snd z13 x.snd.fst.toNat))∧inR .i64 z14∧((z0.same z0∧z2.same z2∧z3.same z3∧z4.same z4∧z15.same z15∧z16.same z16∧True)∧z18.same z18∧z7.same z7∧True)∧(z14=z14∧(x.snd.fst=(0:Int)∧z17=l∨x.snd.fst=(20:Int)∧20≤l.length∧z17=z8∨x.snd.fst=(40:Int)∧l.length=40∧z17=z9))∧((1000:Int) - x.snd.fst).toNat<((1000:Int) - x.fst).toNat)∧(z12=false→(offL (n,x.snd.snd,p)∧rngL x.snd.snd x.fst z1∧List.Pairwise (fun x1 x2 ↦x1<x2) (seg x.snd.snd z13 z1.toNat))∧(((z0.same z0∧z2.same z2∧z3.same z3∧z4.same z4∧True)∧z20.same z20∧z7.same z7∧True)∧((20:Int)=(20:Int)∧(l.length≤20∧z19=z10∨20<l.length∧z19=z11)∨(20:Int)=(40:Int)∧z19=z10))∧∀(x:Int×List Int),let z21:=(2:Int)*x.fst;let z22:=SV.si .i64 x.fst;let z23:=SV.si .i64 z21;let z24:=SObj.row z5 x.snd 3 true;let z25:=x.fst*(2:Int);let z26:=SV.si .i64 z25;x.fst=(20:Int)∧(l.length≤20∧x.snd=z10∨20<l.length∧x.snd=z11)∨x.fst=(40:Int)∧x.snd=z10→(decide (x.fst<z1)=true→inR .i64 z21∧(((z0.same z0∧z2.same z2∧z3.same z3∧z22.same z22∧(SV.il .i64 0).same (SV.si .i64 0)∧z23.same z23∧True)∧z24.same z24∧z7.same z7∧True)∧((0:Int)=(0:Int)∧z21=(40:Int)∧x.snd=z11∨(0:Int)=(40:Int)∧z21=(80:Int)∧l.length=40∧x.snd=z10))∧∀(x_1:Int×Int×List Int),let z27:=decide (x_1.snd.fst≤z1);let z28:=x_1.fst+x.fst;let z29:=x_1.snd.fst+z21;let z30:=SV.si .i64 x_1.snd.fst;let z31:=SV.si .i64 z29;let z32:=srtP (denI p) x_1.snd.snd x_1.fst.toNat x_1.snd.fst.toNat;let z33:=SObj.row z5 z32 3 true;let z34:=srtP (denI p) x_1.snd.snd x_1.fst.toNat z1.toNat;let z35:=SObj.row z5 z34 3 true;let z36:=SObj.row z5 x_1.snd.snd 3 true;x_1.fst=(0:Int)∧x_1.snd.fst=(40:Int)∧x_1.snd.snd=z11∨x_1.fst=(40:Int)∧x_1.snd.fst=(80:Int)∧l.length=40∧x_1.snd.snd=z10→(z27=true→inR .i64 z28∧(symD ((n,x_1.snd.snd,p),x_1.fst,z28,x_1.snd.fst)∧(x_1.snd.fst - x_1.fst).toNat<1001)∧inR .i64 z21∧inR .i64 z29∧((z0.same z0∧z2.same z2∧z3.same z3∧z22.same z22∧z30.same z30∧z31.same z31∧True)∧z33.same z33∧z7.same z7∧True)∧(x_1.snd.fst=(0:Int)∧z29=(40:Int)∧z32=z11∨x_1.snd.fst=(40:Int)∧z29=(80:Int)∧l.length=40∧z32=z10)∧((1000:Int) - x_1.snd.fst).toNat<((1000:Int) - x_1.fst).toNat)∧(z27=false→inR .i64 z28∧(decide (z28<z1)=true→(symD ((n,x_1.snd.snd,p),x_1.fst,z28,z1)∧(z1 - x_1.fst).toNat<1001)∧inR .i64 z25∧((z0.same z0∧z2.same z2∧z3.same z3∧z26.same z26∧True)∧z35.same z35∧z7.same z7∧True)∧(z25=(20:Int)∧(l.length≤20∧z34=z10∨20<l.length∧z34=z11)∨z25=(40:Int)∧z34=z10)∧((1000:Int) - z25).toNat<((1000:Int) - x.fst).toNat)∧(decide (z28<z1)=false→inR .i64 z25∧((z0.same z0∧z2.same z2∧z3.same z3∧z26.same z26∧True)∧z36.same z36∧z7.same z7∧True)∧(z25=(20:Int)∧(l.length≤20∧x_1.snd.snd=z10∨20<l.length∧x_1.snd.snd=z11)∨z25=(40:Int)∧x_1.snd.snd=z10)∧((1000:Int) - z25).toNat<((1000:Int) - x.fst).toNat)))∧(decide (x.fst<z1)=false→(SV.tup []).same (SV.tup [])∧z24.same (SObj.row z5 z10 3 true)∧z7.same z7∧True))) (by kernel_rfl) ?_
 simp only[vcs]
 have pw:∀a b,(seg l a b).Pairwise (·<·):=fun a b=>List.Pairwise.sublist ((List.take_sublist _ _).trans (List.drop_sublist _ _)) hi
 have e0:((l.length:Int)).toNat=l.length:=by omega
 rw[e0]
 refine⟨.inl trivial,?_⟩
 rintro⟨a,b,w⟩ ⟨hb,hw⟩
 simp only at hb hw ⊢
 subst hb
 refine⟨fun h=>?_,fun h=>?_⟩
 ·rcases hw with⟨rfl,rfl⟩|⟨rfl,h2,rfl⟩|⟨rfl,h2,rfl⟩
  ·exact⟨⟨⟨⟨hc,hn⟩,hl,ho⟩,⟨by omega,by omega,by omega⟩,pw _ _⟩,by omega,.inr (.inl ⟨by omega,by omega,rfl⟩),by omega⟩
  ·have hw:=@srtP_len (denI p) l 0 20 (by omega) (by omega)
   exact⟨⟨⟨⟨hc,by simp only[hw];exact hn⟩,by simp only[hw];exact hl,fun x hx=>ho x (srtP_mem hx)⟩,⟨by omega,by omega,by rw[hw];omega⟩,by rw[seg_after (by omega) (by omega)];exact pw _ _⟩,by omega,.inr (.inr ⟨by omega,by omega,rfl⟩),by omega⟩
  ·omega
 ·refine⟨?_,?_,?_⟩
  ·rcases hw with⟨rfl,rfl⟩|⟨rfl,h2,rfl⟩|⟨rfl,h2,rfl⟩
   ·exact⟨⟨⟨hc,hn⟩,hl,ho⟩,⟨by omega,by omega,by omega⟩,pw _ _⟩
   ·have hw:=@srtP_len (denI p) l 0 20 (by omega) (by omega)
    exact⟨⟨⟨hc,by simp only[hw];exact hn⟩,by simp only[hw];exact hl,fun x hx=>ho x (srtP_mem hx)⟩,⟨by omega,by omega,by rw[hw];omega⟩,by rw[seg_after (by omega) (by omega)];exact pw _ _⟩
   ·have hw:=@srtP_len (denI p) l 0 20 (by omega) (by omega)
    have hw2:=@srtP_len (denI p) (srtP (denI p) l 0 20) 20 40 (by omega) (by omega)
    rw[hw] at hw2
    refine⟨⟨⟨hc,by simp only[hw2];exact hn⟩,by simp only[hw2];exact hl,fun x hx=>ho x (srtP_mem (srtP_mem hx))⟩,⟨by omega,by omega,by rw[hw2];omega⟩,?_⟩
    rw[h2]
    show(seg _ 40 40).Pairwise _
    rw[seg_nil]
    exact List.Pairwise.nil
  ·left
   rcases hw with⟨rfl,rfl⟩|⟨rfl,h2,rfl⟩|⟨rfl,h2,rfl⟩
   ·exact .inl ⟨by omega,srtP_all rfl⟩
   ·rcases Nat.lt_or_ge 20 l.length with h3|h3
    ·exact .inr ⟨h3,srtP_m20 rfl (by omega)⟩
    ·refine .inl ⟨h3,?_⟩
     rw[show l.length=20 by omega]
     show srtP _ _ 20 20=_
     rw[srtP_nil]
     exact srtP_all (by omega)
   ·refine .inr ⟨by omega,?_⟩
    rw[h2]
    show srtP _ _ 40 40=_
    rw[srtP_nil]
    exact srtP_m20 h2.symm (by omega)
  ·rintro⟨s,w⟩ hw
   simp only at hw ⊢
   refine⟨fun h=>?_,fun h=>orow ?_⟩
   ·have hs:s=20∧20<l.length∧w=m20 (denI p) l:=by
     rcases hw with⟨h1,h2|h2⟩|h2
     ·omega
     ·exact⟨h1,h2⟩
     ·omega
    obtain⟨rfl,h20,rfl⟩:=hs
    refine⟨by omega,.inl ⟨by omega,rfl⟩,?_⟩
    rintro⟨a,b,w⟩ hy
    simp only at hy ⊢
    have hd:=@m20_dom l p n hc hn h20 hl ho hi
    rcases hy with⟨rfl,rfl,rfl⟩|⟨rfl,rfl,h4,rfl⟩
    ·refine⟨fun h5=>?_,fun h5=>⟨by omega,fun h6=>?_,fun h6=>by omega⟩⟩
     ·have h6:l.length=40:=by omega
      refine⟨by omega,⟨?_,by omega⟩,by omega,by omega,.inr ⟨by omega,by omega,h6,m20_srt h6.symm⟩,by omega⟩
      rw[h6] at hd
      exact hd
     ·exact⟨⟨hd,by omega⟩,by omega,.inr ⟨by omega,m20_srt rfl⟩,by omega⟩
    ·refine⟨fun h5=>by omega,fun h5=>⟨by omega,fun h6=>by omega,fun h6=>⟨by omega,.inr ⟨by omega,rfl⟩,by omega⟩⟩⟩
   ·rcases hw with⟨h1,h2|h2⟩|h2
    ·exact h2.2
    ·omega
    ·exact h2.2
def r319:OCtr:=sortCtr 24 0 Unit to0 of0 (fun _=>rfl) of0_ok to0_inj (fun a=>(offL a.1∧a.1.2.1.Pairwise (·<·))∧a.1.2.1.length≤40) fun a=>srt (denI a.1.2.2) a.1.2.1
theorem h319:HoldsO Try.prog r319:=by
 refine conO (L:=[]) (W:=[r333]) r319 F319 (fun _ _=> .look) (by simpa using h333) (by simp) (by kernel_rfl) (fun _=>rfl) (by kernel_rfl) ?_
 rintro⟨⟨n,l,p⟩,u⟩ ⟨⟨⟨⟨hc,hn⟩,hl,ho⟩,hi⟩,h40⟩
 simp only at hc hn hl ho hi h40
 refine vcOf (let z0:=SObj.row (SId.i .i64) (srt (denI p) l) 3 true;let z1:=SObj.cells (Prob.ss p) 27 20 false;((offL (n,l,p)∧List.Pairwise (fun x1 x2 ↦x1<x2) l)∧(↑n:Int)=(↑l.length:Int)∧l.length≤40)∧(SV.tup []).same (SV.tup [])∧z0.same z0∧z1.same z1∧True) (by kernel_rfl) ?_
 simp only[vcs]
 exact⟨⟨⟨⟨hc,hn⟩,hl,ho⟩,hi⟩,by omega,h40⟩
def uptoI (n:Nat):List Int:=(List.range n).map fun i:Nat=>(i:Int)
theorem uptoI_len {n:Nat}:(uptoI n).length=n:=by simp[uptoI]
theorem uptoI_succ {n:Nat}:uptoI (n+1)=uptoI n++[(n:Int)]:=by simp[uptoI,List.range_succ]
theorem uptoI_lt {n:Nat}:(uptoI n).Pairwise (·<·):=by
 unfold uptoI
 rw[List.pairwise_map]
 exact List.pairwise_lt_range.imp fun h=>by omega
theorem uptoI_mem {n:Nat} {x:Int}:x∈uptoI n↔0≤x∧x<n:=by
 unfold uptoI
 rw[List.mem_map]
 constructor
 ·rintro⟨k,hk,rfl⟩
  rw[List.mem_range] at hk
  omega
 ·rintro⟨h0,h1⟩
  exact⟨x.toNat,List.mem_range.2 (by omega),by omega⟩
def filI (n i:Nat):List Int:=uptoI i++List.replicate (n - i) 0
theorem filI_len {n i:Nat} (h:i≤n):(filI n i).length=n:=by simp[filI,uptoI_len];omega
theorem filI_zero {n:Nat}:filI n 0=List.replicate n 0:=by simp[filI,uptoI]
theorem filI_all {n:Nat}:filI n n=uptoI n:=by simp[filI]
theorem filI_set {n i:Nat} (h:i<n):(filI n i).set i (i:Int)=filI n (i+1):=by
 unfold filI
 rw[List.set_append_right _ _ (by rw[uptoI_len];omega),uptoI_len,Nat.sub_self,show n - i=(n - (i+1))+1 by omega,List.replicate_succ,List.set_cons_zero,uptoI_succ,List.append_assoc]
 rfl
def ordR (p:Prob):List Int:=srt (denI p) (uptoI p.offers.length)
def r308:SCtr:=⟨9,Prob,.one codP,fun p=>p.offers.length≤40,fun p=> .row (.i .i64) (if checkE p=0 then ordR p else[])⟩
def Λ308 (p:Prob):Nat→LoopAnn
 |5=> .inv Int (fun i=>⟨[(1,.ptr 0 0 20),(3,.ow 1 (filI p.offers.length i.toNat).length 1),(13,.si .i64 p.offers.length),(14,.si .i64 i)],[.cells p.ss 27 20 false,.row (.i .i64) (filI p.offers.length i.toNat) 3 true]⟩)
   (fun s=>iS s 14) (fun i=>0≤i∧i≤p.offers.length) (fun i=>(p.offers.length - i).toNat) fun _ _=> .look
 |_=> .look
theorem h308:Holds Try.prog r308:=by
 refine con (L:=[r79]) (W:=ownT [r319]) r308 F308 Λ308 (ownT_ok (by simpa using h319)) (by simpa using h79) (by kernel_rfl) (by kernel_rfl) (fun _=>rfl) ?_
 intro(p:Prob) (hp:p.offers.length≤40)
 refine vcOf (let z0:=decide (checkE p≠(0:Int));let z1:=SId.i .i64;let z2:=SV.row z1 (if checkE p=(0:Int) then ordR p else[]);let z3:=(↑p.offers.length:Int);let z4:=SV.ptr 0 0 20;let z5:=p.offers.length;let z6:=(↑z5:Int);let z7:=SV.si .i64 z6;let z8:=SObj.cells [SV.si .i64 p.supply.a0,SV.si .i64 p.supply.a1,SV.si .i64 p.supply.a2,SV.si .i64 p.supply.a3,SV.si .i64 p.supply.a4,SV.si .i64 p.supply.a5,SV.si .i64 p.opn.a0,SV.si .i64 p.opn.a1,SV.si .i64 p.opn.a2,SV.si .i64 p.opn.a3,SV.si .i64 p.opn.a4,SV.si .i64 p.opn.a5,SV.si .i64 p.cls.a0,SV.si .i64 p.cls.a1,SV.si .i64 p.cls.a2,SV.si .i64 p.cls.a3,SV.si .i64 p.cls.a4,SV.si .i64 p.cls.a5,SV.row z1 p.classes,SV.row SId.off p.offers] 27 20 false;True∧(z0=true→(SV.row z1 []).same z2)∧(z0=false→(0:Int)≤z3∧z3≤z3∧z3*(8:Int)≤(140737488355328:Int)∧z3≤(1000000000000:Int)∧(((z4.same z4∧(SV.ow 1 z3.toNat 1).same (SV.ow 1 (filI z5 0).length 1)∧(SV.si .i64 (↑z3.toNat:Int)).same z7∧(SV.il .i64 0).same (SV.si .i64 0)∧True)∧z8.same z8∧(SObj.row z1 (List.replicate z3.toNat (0:Int)) 3 true).same (SObj.row z1 (filI z5 0) 3 true)∧True)∧(0:Int)≤(0:Int)∧(0:Int)≤z6)∧∀(x:Int),let z9:=filI z5 x.toNat;let z10:=z9.length;let z11:=x+(1:Int);let z12:=SV.si .i64 z11;(0:Int)≤x∧x≤z6→(decide (x<z6)=true→z10=z9.length∧(0:Int)≤x∧x<(↑z9.length:Int)∧z10=z9.length∧x.toNat<z9.length∧inR .i64 z11∧((z4.same z4∧(SV.ow 1 z10 1).same (SV.ow 1 (filI z5 z11.toNat).length 1)∧z7.same z7∧z12.same z12∧True)∧z8.same z8∧(SObj.row z1 (z9.set x.toNat x) 3 true).same (SObj.row z1 (filI z5 z11.toNat) 3 true)∧True)∧((0:Int)≤z11∧z11≤z6)∧(z6 - z11).toNat<(z6 - x).toNat)∧(decide (x<z6)=false→((offL (z10,z9,p)∧List.Pairwise (fun x1 x2 ↦x1<x2) z9)∧z10≤40)∧z10=(srt (denI p) z9).length∧(SV.row z1 (srt (denI p) z9)).same z2))) (by kernel_rfl) ?_
 simp only[vcs]
 refine⟨fun h=>by rw[if_neg h],fun h=>?_⟩
 have hc:checkE p=0:=Classical.not_not.1 h
 rw[if_pos hc]
 have e0:((p.offers.length:Int)).toNat=p.offers.length:=by omega
 have how:∀{x y:Nat},x=y→(SV.ow 1 x 1).same (SV.ow 1 y 1):=by rintro _ _ rfl;rfl
 rw[e0,filI_zero]
 refine⟨by omega,by omega,by omega,by omega,⟨⟨⟨how (by simp),rfl⟩,rfl⟩,by omega,by omega⟩,?_⟩
 rintro i ⟨i0,i1⟩
 have hL:=@filI_len p.offers.length i.toNat (by omega)
 refine⟨fun hi=>?_,fun hi=>?_⟩
 ·have hs:=@filI_set p.offers.length i.toNat (by omega)
  rw[show((i.toNat:Nat):Int)=i by omega] at hs
  have hL2:=@filI_len p.offers.length (i.toNat+1) (by omega)
  rw[show(i+1).toNat=i.toNat+1 by omega,hs]
  exact⟨i0,by omega,by omega,by omega,⟨how (by omega),rfl⟩,by omega,by omega⟩
 ·rw[show i.toNat=p.offers.length by omega,filI_all]
  refine⟨⟨⟨⟨⟨hc,rfl⟩,by simp only[uptoI_len];omega,fun x hx=>by have:=uptoI_mem.1 hx;exact this⟩,uptoI_lt⟩,by simp only[uptoI_len];omega⟩,by rw[srt_len],rfl⟩
def r68:SCtr:=⟨39,Bun,.one (codE .bun),fun _=>True,fun b=> .sb b.ok⟩
theorem h68:Holds Try.prog r68:=by
 refine con (L:=[]) r68 F68 (fun _ _=> .unroll 7) (OwnOK.none _) (by simp) (by kernel_rfl) (by kernel_rfl) (fun _=>rfl) ?_
 intro b _
 refine vcOf (let z0:=decide (b.a0<(0:Int));let z1:=decide ((4:Int)<b.a0);let z2:=decide (b.a1<(0:Int));let z3:=decide ((4:Int)<b.a1);let z4:=decide (b.a2<(0:Int));let z5:=decide ((4:Int)<b.a2);let z6:=decide (b.a3<(0:Int));let z7:=decide ((4:Int)<b.a3);let z8:=decide (b.a4<(0:Int));let z9:=decide ((4:Int)<b.a4);let z10:=decide (b.a5<(0:Int));let z11:=decide ((4:Int)<b.a5);(z0=true→(SV.bl false).same (SV.sb (Bun.ok b)))∧(z0=false→(z1=true→(SV.bl false).same (SV.sb (Bun.ok b)))∧(z1=false→(z2=true→(SV.bl false).same (SV.sb (Bun.ok b)))∧(z2=false→(z3=true→(SV.bl false).same (SV.sb (Bun.ok b)))∧(z3=false→(z4=true→(SV.bl false).same (SV.sb (Bun.ok b)))∧(z4=false→(z5=true→(SV.bl false).same (SV.sb (Bun.ok b)))∧(z5=false→(z6=true→(SV.bl false).same (SV.sb (Bun.ok b)))∧(z6=false→(z7=true→(SV.bl false).same (SV.sb (Bun.ok b)))∧(z7=false→(z8=true→(SV.bl false).same (SV.sb (Bun.ok b)))∧(z8=false→(z9=true→(SV.bl false).same (SV.sb (Bun.ok b)))∧(z9=false→(z10=true→(SV.bl false).same (SV.sb (Bun.ok b)))∧(z10=false→(z11=true→(SV.bl false).same (SV.sb (Bun.ok b)))∧(z11=false→(SV.bl true).same (SV.sb (Bun.ok b))))))))))))))) (by kernel_rfl) ?_
 conv=>zeta
 have hb:=@Bun.ok_iff b
 by_cases h:b.ok=true
 ·have h2:=hb.1 h
  simp only[decide_eq_true_eq,decide_eq_false_iff_not,same_bl_sb,eq_self,true_and,h,if_true]
  repeat' (first|refine And.intro ?_ ?_|intro _)
  all_goals first|trivial|omega|(exfalso;omega)
 ·have h2:=mt hb.2 h
  have h3:b.ok=false:=by simpa using h
  simp only[decide_eq_true_eq,decide_eq_false_iff_not,same_bl_sb,eq_self,true_and,h3]
  repeat' (first|refine And.intro ?_ ?_|intro _)
  all_goals first|trivial|omega|(exfalso;omega)
def coefR (p:Prob) (r:Int) (o:Off):Int:=
 if r - p.classes.length<0 then(if o.bidder=r then 1 else 0)
 else if r - p.classes.length<6 then nthD [o.want.a0,o.want.a1,o.want.a2,o.want.a3,o.want.a4,o.want.a5] (r - p.classes.length).toNat 0
 else if nthD [p.cls.a0,p.cls.a1,p.cls.a2,p.cls.a3,p.cls.a4,p.cls.a5] (r - p.classes.length - 6).toNat 0=0∨p.classes.length≤o.bidder∨nthD [p.cls.a0,p.cls.a1,p.cls.a2,p.cls.a3,p.cls.a4,p.cls.a5] (r - p.classes.length - 6).toNat 0=nthD p.classes o.bidder.toNat 0 then 0
 else nthD [o.want.a0,o.want.a1,o.want.a2,o.want.a3,o.want.a4,o.want.a5] (r - p.classes.length - 6).toNat 0
theorem coefR_eq {p:Prob} {r:Int} {o:Off} (h:o.bidder<p.classes.length):coefR p r o=coefS p r o:=by
 unfold coefR coefS
 have:¬(p.classes.length:Int)≤o.bidder:=by omega
 simp only[this,false_or]
def r110:SCtr:=⟨56,Prob×Int×Off,.cons codP (.cons (codI .i64) (.one (codE .off))),fun a=>a.1.classes.length≤8∧0≤a.2.1∧a.2.1<nrows a.1∧0≤a.2.2.bidder,
 fun a=> .tup [.si .i64 (coefR a.1 a.2.1 a.2.2),.si .i64 (boundS a.1 a.2.1)]⟩
theorem h110:Holds Try.prog r110:=by
 refine con (L:=[]) r110 F110 (fun _ _=> .unroll 7) (OwnOK.none _) (by simp) (by kernel_rfl) (by kernel_rfl) (fun _=>rfl) ?_
 rintro⟨p,r,x⟩ ⟨hp,h1,h2,h3⟩
 simp only[nrows] at hp h1 h2 h3
 refine vcOf (let z0:=(↑p.classes.length:Int);let z1:=decide (x.bidder=r);let z2:=SV.il .i64 1;let z3:=SV.tup [SV.si .i64 (coefR p r x),SV.si .i64 (boundS p r)];let z4:=SV.il .i64 0;let z5:=decide (r<z0+(6:Int));let z6:=(r - z0).toNat;let z7:=[x.want.a0,x.want.a1,x.want.a2,x.want.a3,x.want.a4,x.want.a5];let z8:=r - z0 - (6:Int);let z9:=nthD [p.cls.a0,p.cls.a1,p.cls.a2,p.cls.a3,p.cls.a4,p.cls.a5] z8.toNat (0:Int);let z10:=decide (z9≠(0:Int));let z11:=decide (x.bidder<z0);let z12:=decide (z9≠nthD p.classes x.bidder.toNat (0:Int));let z13:=[SV.si .i64 (nthD [p.opn.a0,p.opn.a1,p.opn.a2,p.opn.a3,p.opn.a4,p.opn.a5] z8.toNat (0:Int))];(decide (r<z0)=true→(z1=true→(SV.tup [z2,z2]).same z3)∧(z1=false→(SV.tup [z4,z2]).same z3))∧(decide (r<z0)=false→inR .i64 (z0+(6:Int))∧(z5=true→inR .i64 (r - z0)∧(0:Int)≤r - z0∧r - z0<(6:Int)∧z6<6∧inR .i64 (r - z0)∧(0:Int)≤r - z0∧r - z0<(6:Int)∧z6<6∧(SV.tup [SV.si .i64 (nthD z7 z6 (0:Int)),SV.si .i64 (nthD [p.supply.a0,p.supply.a1,p.supply.a2,p.supply.a3,p.supply.a4,p.supply.a5] z6 (0:Int))]).same z3)∧(z5=false→inR .i64 (r - z0)∧inR .i64 z8∧(0:Int)≤z8∧z8<(6:Int)∧z8.toNat<6∧(z10=true→(z11=true→(0:Int)≤z8∧z8<(6:Int)∧z8.toNat<6∧(0:Int)≤x.bidder∧x.bidder<z0∧x.bidder.toNat<p.classes.length∧(z12=true→(0:Int)≤z8∧z8<(6:Int)∧z8.toNat<6∧(0:Int)≤z8∧z8<(6:Int)∧z8.toNat<6∧(SV.tup (SV.si .i64 (nthD z7 z8.toNat (0:Int))::z13)).same z3)∧(z12=false→(0:Int)≤z8∧z8<(6:Int)∧z8.toNat<6∧(SV.tup (z4::z13)).same z3))∧(z11=false→(0:Int)≤z8∧z8<(6:Int)∧z8.toNat<6∧(SV.tup (z4::z13)).same z3))∧(z10=false→(0:Int)≤z8∧z8<(6:Int)∧z8.toNat<6∧(SV.tup (z4::z13)).same z3)))) (by kernel_rfl) ?_
 simp only[vcs]
 have b1:r - p.classes.length<0→boundS p r=1:=fun h=>by unfold boundS;rw[if_pos h]
 have b2:¬r - p.classes.length<0→r - p.classes.length<6→boundS p r=nthD [p.supply.a0,p.supply.a1,p.supply.a2,p.supply.a3,p.supply.a4,p.supply.a5] (r - p.classes.length).toNat 0:=fun h h'=>by unfold boundS;rw[if_neg h,if_pos h']
 have b3:¬r - p.classes.length<0→¬r - p.classes.length<6→boundS p r=nthD [p.opn.a0,p.opn.a1,p.opn.a2,p.opn.a3,p.opn.a4,p.opn.a5] (r - p.classes.length - 6).toNat 0:=fun h h'=>by unfold boundS;rw[if_neg h,if_neg h']
 have c1:r - p.classes.length<0→coefR p r x=if x.bidder=r then 1 else 0:=fun h=>by unfold coefR;rw[if_pos h]
 have c2:¬r - p.classes.length<0→r - p.classes.length<6→coefR p r x=nthD [x.want.a0,x.want.a1,x.want.a2,x.want.a3,x.want.a4,x.want.a5] (r - p.classes.length).toNat 0:=fun h h'=>by unfold coefR;rw[if_neg h,if_pos h']
 have c3:=fun(h:¬r - p.classes.length<0) (h':¬r - p.classes.length<6)=>(show coefR p r x=_ by unfold coefR;rw[if_neg h,if_neg h'])
 refine⟨fun ha=>?_,fun ha=>⟨by omega,fun hb=>?_,fun hb=>?_⟩⟩
 ·rw[b1 (by omega),c1 (by omega)]
  exact⟨fun h=>by simp[h],fun h=>by simp[h]⟩
 ·rw[b2 (by omega) (by omega),c2 (by omega) (by omega)]
  refine⟨by omega,by omega,by omega,by omega,by omega,by omega,by omega,by omega,rfl,rfl⟩
 ·rw[b3 (by omega) (by omega),c3 (by omega) (by omega)]
  refine⟨by omega,by omega,by omega,by omega,by omega,fun h4=>⟨fun h5=>⟨by omega,by omega,by omega,by omega,by omega,by omega,fun h6=>⟨by omega,by omega,by omega,by omega,by omega,by omega,(if_neg (by omega)).symm,rfl⟩,fun h6=>⟨by omega,by omega,by omega,(if_pos (by omega)).symm,rfl⟩⟩,fun h5=>⟨by omega,by omega,by omega,(if_pos (by omega)).symm,rfl⟩⟩,fun h4=>⟨by omega,by omega,by omega,(if_pos (by omega)).symm,rfl⟩⟩
def M1:List SCtr:=[r110,r68]
theorem hM1:∀c∈M1,Holds Try.prog c:=by
 simp only[M1,List.forall_mem_cons,List.not_mem_nil,false_implies,implies_true,and_true]
 exact⟨h110,h68⟩
def r69:SCtr:=⟨40,Prob×List Off,.cons codP (.one (codR .off)),fun a=>a.1.classes.length≤8∧a.2.length≤1000∧(∀x∈a.2,0≤x.bidder∧x.bidder<a.1.classes.length∧x.want.ok=true),fun a=> .sb (fitsB a.1 a.2)⟩
def Λ69 (a:Prob×List Off):Nat→LoopAnn
 |2=> .inv Int (fun i=>⟨[(1,.row .off a.2),(2,.ptr 0 0 20),(5,.si .i64 i)],[.cells a.1.ss 27 20 false]⟩) (fun s=>iS s 5)
  (fun i=>0≤i∧i≤nrows a.1∧∀r:Nat,r<i→sumS a.1 a.2 r≤boundS a.1 r) (fun i=>(nrows a.1 - i).toNat)
  fun i=>fun
   |6=> .inv (Int×Int) (fun x=>⟨[(1,.row .off a.2),(2,.ptr 0 0 20),(5,.si .i64 i),(6,.si .i64 x.2),(7,.si .i64 x.1)],[.cells a.1.ss 27 20 false]⟩)
    (fun s=>(iS s 7,iS s 6))
    (fun x=>0≤x.1∧x.1≤a.2.length∧x.2=sumS a.1 (a.2.take x.1.toNat) i) (fun x=>(a.2.length - x.1).toNat) fun _ _=> .look
   |_=> .look
 |_=> .look
theorem h69:Holds Try.prog r69:=by
 refine con (L:=M1) r69 F69 Λ69 (OwnOK.none _) hM1 (by kernel_rfl) (by kernel_rfl) (fun _=>rfl) ?_
 rintro⟨p,l⟩ ⟨hp,hl,hb⟩
 simp only at hp hl hb
 refine vcOf (let z0:=SV.ptr 0 0 20;let z1:=SObj.cells (Prob.ss p) 27 20 false;let z2:=(↑p.classes.length:Int)+(12:Int);let z3:=(↑l.length:Int);((((SV.row SId.off l).same (SV.row SId.off l)∧z0.same z0∧(SV.il .i64 0).same (SV.si .i64 0)∧True)∧z1.same z1∧True)∧(0:Int)≤(0:Int)∧(0:Int)≤nrows p∧∀(r:Nat),(↑r:Int)<(0:Int)→sumS p l (↑r:Int)≤boundS p (↑r:Int))∧∀(x:Int),let z4:=x+(1:Int);let z5:=SV.si .i64 z4;((0:Int)≤x∧x≤nrows p∧∀(r:Nat),(↑r:Int)<x→sumS p l (↑r:Int)≤boundS p (↑r:Int))→inR .i64 z2∧(decide (x<z2)=true→((((SV.row SId.off l).same (SV.row SId.off l)∧z0.same z0∧(SV.si .i64 x).same (SV.si .i64 x)∧(SV.il .i64 0).same (SV.si .i64 0)∧(SV.il .i64 0).same (SV.si .i64 0)∧True)∧z1.same z1∧True)∧(0:Int)≤(0:Int)∧(0:Int)≤z3∧(0:Int)=sumS p [] x)∧∀(x_1:Int×Int),let z6:=decide (x_1.fst<(↑l.length:Int));let z7:=nthD l x_1.fst.toNat SId.off.dflt;let z8:=x_1.snd+coefR p x z7;let z9:=x_1.fst+(1:Int);let z10:=SV.si .i64 x;let z11:=SV.si .i64 z8;let z12:=SV.si .i64 z9;let z13:=decide (boundS p x<x_1.snd);(0:Int)≤x_1.fst∧x_1.fst≤z3∧x_1.snd=sumS p (List.take x_1.fst.toNat l) x→(z6=true→(0:Int)≤x_1.fst∧x_1.fst<(↑l.length:Int)∧x_1.fst.toNat<l.length∧(p.classes.length≤8∧(0:Int)≤x∧x<nrows p∧(0:Int)≤z7.bidder)∧inR .i64 z8∧inR .i64 z9∧(((SV.row SId.off l).same (SV.row SId.off l)∧z0.same z0∧z10.same z10∧z11.same z11∧z12.same z12∧True)∧z1.same z1∧True)∧((0:Int)≤z9∧z9≤z3∧z8=sumS p (List.take z9.toNat l) x)∧(z3 - z9).toNat<(z3 - x_1.fst).toNat)∧(z6=false→(p.classes.length≤8∧(0:Int)≤x∧x<nrows p∧(0:Int)≤(0:Int))∧(z13=true→(SV.bl false).same (SV.sb (fitsB p l)))∧(z13=false→inR .i64 z4∧(((SV.row SId.off l).same (SV.row SId.off l)∧z0.same z0∧z5.same z5∧True)∧z1.same z1∧True)∧((0:Int)≤z4∧z4≤nrows p∧∀(r:Nat),(↑r:Int)<z4→sumS p l (↑r:Int)≤boundS p (↑r:Int))∧(nrows p - z4).toNat<(nrows p - x).toNat)))∧(decide (x<z2)=false→(SV.bl true).same (SV.sb (fitsB p l)))) (by kernel_rfl) ?_
 simp only[vcs]
 have hn:nrows p=p.classes.length+12:=rfl
 have ho:∀x∈l,x.want.ok=true:=fun x hx=>(hb x hx).2.2
 refine⟨⟨by omega,by omega,fun r hr=>by omega⟩,?_⟩
 rintro i ⟨hi0,hi1,hi⟩
 refine⟨by omega,fun hlt=>⟨⟨by omega,by omega,by simp[sumS]⟩,?_⟩,?_⟩
 ·rintro⟨j,s⟩ ⟨hj0,hj1,hs⟩
  simp only at hj0 hj1 hs ⊢
  have hsb:=@sum_bd p i (l.take j.toNat) fun x hx=>ho x (List.mem_of_mem_take hx)
  have hlen:(l.take j.toNat).length≤l.length:=by simp;omega
  refine⟨fun hjl=>?_,fun hjl=>?_⟩
  ·have hm:=hb _ (nthD_mem (d:=SId.off.dflt) (show j.toNat<l.length by omega))
   have hc:=@coef_bd p i _ hm.2.2
   have hst:=@sum_take p i l j SId.off.dflt hj0 hjl
   rw[coefR_eq hm.2.1]
   refine⟨by omega,by omega,by omega,⟨hp,by omega,by omega,hm.1⟩,by omega,by omega,⟨by omega,by omega,by omega⟩,by omega⟩
  ·have:j.toNat=l.length:=by omega
   rw[this,List.take_length] at hs
   refine⟨⟨hp,by omega,by omega,by omega⟩,fun hgt=>?_,fun hle=>⟨by omega,⟨by omega,by omega,fun r hr=>?_⟩,by omega⟩⟩
   ·symm
    rw[Bool.eq_false_iff]
    intro hf
    have:=fits_iff.1 hf i.toNat (by omega)
    rw[show((i.toNat:Nat):Int)=i from by omega] at this
    omega
   ·by_cases hr2:(r:Int)<i
    ·exact hi r hr2
    ·have:(r:Int)=i:=by omega
     rw[this]
     omega
 ·intro hge
  symm
  exact fits_iff.2 fun r hr=>hi r (by omega)
def r24:SCtr:=⟨18,Prob,.one codP,fun p=>True,fun p=> .si .i64 (checkE p)⟩
def Λ24 (p:Prob):Nat→LoopAnn
 |11=> .inv Int (fun k=>⟨[(1,.ptr 0 0 20),(4,.si .i64 k)],[.cells p.ss 27 20 false]⟩) (fun s=>iS s 4) (fun k=>0≤k∧k≤p.classes.length∧∀c∈p.classes.take k.toNat,0≤c∧c≤4) (fun k=>(p.classes.length - k).toNat) fun _ _=> .look
 |16=> .inv Int (fun i=>⟨[(1,.ptr 0 0 20),(5,.si .i64 i)],[.cells p.ss 27 20 false]⟩) (fun s=>iS s 5)
  (fun i=>0≤i∧i≤p.offers.length∧checkL p [] p.offers=checkL p ((p.offers.take i.toNat).map Off.key) (p.offers.drop i.toNat)) (fun i=>(p.offers.length - i).toNat)
  fun i=>fun
   |26=> .inv Int (fun k=>⟨[(1,.ptr 0 0 20),(5,.si .i64 i),(6,.ptr 1 0 8),(7,.si .i64 k)],[.cells p.ss 27 20 false,.cells (encS .off (nthD p.offers i.toNat SId.off.dflt)) 45 8 false]⟩) (fun s=>iS s 7)
    (fun k=>0≤k∧k≤i∧∀j:Nat,j<k→(nthD p.offers j SId.off.dflt).key≠(nthD p.offers i.toNat SId.off.dflt).key) (fun k=>(i - k).toNat) fun _ _=> .look
   |_=> .look
 |4=> .inv Int (fun k=>⟨[(1,.ptr 0 0 20),(3,.si .i64 k)],[.cells p.ss 27 20 false]⟩) (fun s=>iS s 3) (fun k=>0≤k∧k≤6∧∀j:Nat,j<k→prodOk p j) (fun k=>(6 - k).toNat) fun _ _=> .look
 |_=> .look
theorem bun_z {b:Bun}:(decide (b.a0=0)&&(decide (b.a1=0)&&(decide (b.a2=0)&&(decide (b.a3=0)&&(decide (b.a4=0)&&(decide (b.a5=0)&&true))))))=decide (b=Bun.zero):=by
 rw[Bool.eq_iff_iff]
 simp[bun_eq,Bun.zero]
theorem bun_d {b c:Bun}:(decide (b.a0=c.a0)&&(decide (b.a1=c.a1)&&(decide (b.a2=c.a2)&&(decide (b.a3=c.a3)&&(decide (b.a4=c.a4)&&(decide (b.a5=c.a5)&&true))))))=decide (b=c):=by
 rw[Bool.eq_iff_iff]
 simp[bun_eq]
theorem mem_take_nth {α:Type} {l:List α} {i:Int} {d x:α} (h1:i≤l.length) (h:x∈l.take i.toNat):∃j:Nat,(j:Int)<i∧nthD l j d=x:=by
 obtain⟨j,hj,rfl⟩:=List.mem_iff_getElem.1 h
 have hj2:=hj
 simp only[List.length_take] at hj2
 refine⟨j,by omega,?_⟩
 rw[nthD_eq (by omega),List.getElem_take]
theorem h24:Holds Try.prog r24:=by
 refine con (L:=r69::M1) r24 F24 Λ24 (OwnOK.none _) (by simp only[List.forall_mem_cons];exact⟨h69,hM1⟩) (by kernel_rfl) (by kernel_rfl) (fun _=>rfl) ?_
 intro p _
 refine vcOf (let z0:=SV.si .i64 (checkE p);let z1:=SV.ptr 0 0 20;let z2:=SV.il .i64 0;let z3:=SObj.cells (Prob.ss p) 27 20 false;let z4:=[p.cls.a0,p.cls.a1,p.cls.a2,p.cls.a3,p.cls.a4,p.cls.a5];let z5:=[p.opn.a0,p.opn.a1,p.opn.a2,p.opn.a3,p.opn.a4,p.opn.a5];let z6:=[p.supply.a0,p.supply.a1,p.supply.a2,p.supply.a3,p.supply.a4,p.supply.a5];let z7:=p.classes.length;let z8:=(↑z7:Int);let z9:=decide ((8:Int)<z8);let z10:=p.offers.length;let z11:=(↑z10:Int);let z12:=decide ((160:Int)<z11);let z13:=(↑p.classes.length:Int);let z14:=(↑p.offers.length:Int);let z15:=checkL p [] p.offers;let z16:=SId.off.dflt;let z17:=SV.ptr 1 0 8;True∧((!p.supply.ok)=true→(SV.il .i64 4).same z0)∧((!p.supply.ok)=false→(((z1.same z1∧z2.same (SV.si .i64 0)∧True)∧z3.same z3∧True)∧(0:Int)≤(0:Int)∧(0:Int)≤(6:Int)∧∀(j:Nat),(↑j:Int)<(0:Int)→prodOk p j)∧∀(x:Int),let z18:=decide (x<(6:Int));let z19:=nthD z4 x.toNat (0:Int);let z20:=decide (z19<(0:Int));let z21:=decide ((4:Int)<z19);let z22:=nthD z5 x.toNat (0:Int);let z23:=decide (z22<(0:Int));let z24:=nthD z6 x.toNat (0:Int);let z25:=decide (z19=(0:Int));let z26:=x+(1:Int);let z27:=SV.si .i64 z26;((0:Int)≤x∧x≤(6:Int)∧∀(j:Nat),(↑j:Int)<x→prodOk p j)→(z18=true→(0:Int)≤x∧x<(6:Int)∧x.toNat<6∧(z20=true→(SV.il .i64 4).same z0)∧(z20=false→(0:Int)≤x∧x<(6:Int)∧x.toNat<6∧(z21=true→(SV.il .i64 4).same z0)∧(z21=false→(0:Int)≤x∧x<(6:Int)∧x.toNat<6∧(z23=true→(SV.il .i64 4).same z0)∧(z23=false→(0:Int)≤x∧x<(6:Int)∧x.toNat<6∧(0:Int)≤x∧x<(6:Int)∧x.toNat<6∧(decide (z24<z22)=true→(SV.il .i64 4).same z0)∧(decide (z24<z22)=false→(0:Int)≤x∧x<(6:Int)∧x.toNat<6∧(z25=true→(0:Int)≤x∧x<(6:Int)∧x.toNat<6∧(0:Int)≤x∧x<(6:Int)∧x.toNat<6∧(decide (z22≠z24)=true→(SV.il .i64 4).same z0)∧(decide (z22≠z24)=false→inR .i64 z26∧((z1.same z1∧z27.same z27∧True)∧z3.same z3∧True)∧((0:Int)≤z26∧z26≤(6:Int)∧∀(j:Nat),(↑j:Int)<z26→prodOk p j)∧((6:Int) - z26).toNat<((6:Int) - x).toNat))∧(z25=false→inR .i64 z26∧((z1.same z1∧z27.same z27∧True)∧z3.same z3∧True)∧((0:Int)≤z26∧z26≤(6:Int)∧∀(j:Nat),(↑j:Int)<z26→prodOk p j)∧((6:Int) - z26).toNat<((6:Int) - x).toNat))))))∧(z18=false→(z9=true→(SV.il .i64 3).same z0)∧(z9=false→(z12=true→(SV.il .i64 3).same z0)∧(z12=false→(((z1.same z1∧z2.same (SV.si .i64 0)∧True)∧z3.same z3∧True)∧(0:Int)≤(0:Int)∧(0:Int)≤z13∧∀(c:Int),c∈[]→(0:Int)≤c∧c≤(4:Int))∧∀(x:Int),let z28:=nthD p.classes x.toNat (0:Int);let z29:=decide (z28<(0:Int));let z30:=decide ((4:Int)<z28);let z31:=x+(1:Int);let z32:=SV.si .i64 z31;((0:Int)≤x∧x≤z13∧∀(c:Int),c∈List.take x.toNat p.classes→(0:Int)≤c∧c≤(4:Int))→(decide (x<z8)=true→(0:Int)≤x∧x<z8∧x.toNat<z7∧(z29=true→(SV.il .i64 4).same z0)∧(z29=false→(0:Int)≤x∧x<z8∧x.toNat<z7∧(z30=true→(SV.il .i64 4).same z0)∧(z30=false→inR .i64 z31∧((z1.same z1∧z32.same z32∧True)∧z3.same z3∧True)∧((0:Int)≤z31∧z31≤z13∧∀(c:Int),c∈List.take z31.toNat p.classes→(0:Int)≤c∧c≤(4:Int))∧(z13 - z31).toNat<(z13 - x).toNat)))∧(decide (x<z8)=false→(((z1.same z1∧z2.same (SV.si .i64 0)∧True)∧z3.same z3∧True)∧(0:Int)≤(0:Int)∧(0:Int)≤z14∧z15=z15)∧∀(x:Int),let z33:=nthD p.offers x.toNat z16;let z34:=z33.bidder;let z35:=decide (z34<(0:Int));let z36:=decide (z33.value<(1:Int));let z37:=decide ((1000000:Int)<z33.value);let z38:=z33.want;let z39:=decide (z38.a0=(0:Int))&&(decide (z38.a1=(0:Int))&&(decide (z38.a2=(0:Int))&&(decide (z38.a3=(0:Int))&&(decide (z38.a4=(0:Int))&&(decide (z38.a5=(0:Int))&&true)))));let z40:=SObj.cells [SV.si .i64 z34,SV.si .i64 z38.a0,SV.si .i64 z38.a1,SV.si .i64 z38.a2,SV.si .i64 z38.a3,SV.si .i64 z38.a4,SV.si .i64 z38.a5,SV.si .i64 z33.value] 45 8 false;let z41:=x+(1:Int);let z42:=SV.si .i64 z41;(0:Int)≤x∧x≤z14∧z15=checkL p (List.map Off.key (List.take x.toNat p.offers)) (List.drop x.toNat p.offers)→(decide (x<z11)=true→(0:Int)≤x∧x<z11∧x.toNat<z10∧(z35=true→(SV.il .i64 6).same z0)∧(z35=false→(decide (z8≤z34)=true→(SV.il .i64 6).same z0)∧(decide (z8≤z34)=false→(z36=true→(SV.il .i64 4).same z0)∧(z36=false→(z37=true→(SV.il .i64 4).same z0)∧(z37=false→True∧((!z38.ok)=true→(SV.il .i64 4).same z0)∧((!z38.ok)=false→(z39=true→(SV.il .i64 4).same z0)∧(z39=false→(p.classes.length≤8∧1≤1000∧∀(x:Off),x∈[z33]→(0:Int)≤x.bidder∧x.bidder<z13∧x.want.ok=true)∧((!fitsB p [z33])=true→(SV.il .i64 14).same z0)∧((!fitsB p [z33])=false→(((z1.same z1∧(SV.si .i64 x).same (SV.si .i64 x)∧z17.same z17∧z2.same (SV.si .i64 0)∧True)∧z3.same z3∧z40.same z40∧True)∧(0:Int)≤(0:Int)∧(0:Int)≤x∧∀(j:Nat),(↑j:Int)<(0:Int)→(nthD p.offers j z16).key≠z33.key)∧∀(x_1:Int),let z43:=nthD p.offers x_1.toNat z16;let z44:=decide (z43.bidder=z34);let z45:=z43.want;let z46:=decide (z45.a0=z38.a0)&&(decide (z45.a1=z38.a1)&&(decide (z45.a2=z38.a2)&&(decide (z45.a3=z38.a3)&&(decide (z45.a4=z38.a4)&&(decide (z45.a5=z38.a5)&&true)))));let z47:=x_1+(1:Int);let z48:=SV.si .i64 x;let z49:=SV.si .i64 z47;((0:Int)≤x_1∧x_1≤x∧∀(j:Nat),(↑j:Int)<x_1→(nthD p.offers j z16).key≠z33.key)→(decide (x_1<x)=true→(0:Int)≤x_1∧x_1<z11∧x_1.toNat<z10∧(z44=true→(0:Int)≤x_1∧x_1<z11∧x_1.toNat<z10∧(z46=true→(SV.il .i64 7).same z0)∧(z46=false→inR .i64 z47∧((z1.same z1∧z48.same z48∧z17.same z17∧z49.same z49∧True)∧z3.same z3∧z40.same z40∧True)∧((0:Int)≤z47∧z47≤x∧∀(j:Nat),(↑j:Int)<z47→(nthD p.offers j z16).key≠z33.key)∧(x - z47).toNat<(x - x_1).toNat))∧(z44=false→inR .i64 z47∧((z1.same z1∧z48.same z48∧z17.same z17∧z49.same z49∧True)∧z3.same z3∧z40.same z40∧True)∧((0:Int)≤z47∧z47≤x∧∀(j:Nat),(↑j:Int)<z47→(nthD p.offers j z16).key≠z33.key)∧(x - z47).toNat<(x - x_1).toNat))∧(decide (x_1<x)=false→inR .i64 z41∧((z1.same z1∧z42.same z42∧True)∧z3.same z3∧True)∧((0:Int)≤z41∧z41≤z14∧z15=checkL p (List.map Off.key (List.take z41.toNat p.offers)) (List.drop z41.toNat p.offers))∧(z14 - z41).toNat<(z14 - x).toNat)))))))))∧(decide (x<z11)=false→z2.same z0))))))) (by kernel_rfl) ?_
 simp only[bun_z,bun_d]
 simp only[vcs]
 have e4:frameE p=4→(4:Int)=checkE p:=fun h=>by simp[checkE,h]
 have e3:frameE p=3→(3:Int)=checkE p:=fun h=>by simp[checkE,h]
 refine⟨fun hs=>e4 (frame_sup hs),fun hs=>⟨⟨by omega,by omega,fun j hj=>by omega⟩,?_⟩⟩
 rintro k ⟨hk0,hk1,hk⟩
 refine⟨fun hlt=>?_,fun hge=>?_⟩
 ·have bad:¬prodOk p k.toNat→(4:Int)=checkE p:=fun h=>e4 (frame_prod hs (by omega) h)
  have nxt:prodOk p k.toNat→∀(j:Nat),(j:Int)<k+1→prodOk p j:=fun h j hj=>by
   by_cases hj2:(j:Int)<k
   ·exact hk j hj2
   ·rw[show j=k.toNat from by omega];exact h
  repeat' (first|refine And.intro ?_ ?_|intro _)
  all_goals first
   |omega
   |exact bad fun hh=>by have h2:=prodOk_iff.1 hh;omega
   |exact nxt (prodOk_iff.2 (by omega)) _ (by assumption)
 ·have hall:∀j:Nat,j<6→prodOk p j:=fun j hj=>hk j (by omega)
  refine⟨fun h=>e3 (frame_len hs hall (.inl (by omega))),fun h8=>⟨fun h=>e3 (frame_len hs hall (.inr (by omega))),fun h160=>⟨⟨by omega,by omega,by simp⟩,?_⟩⟩⟩
  rintro i ⟨hi0,hi1,hi⟩
  refine⟨fun hlt=>?_,fun hge=>?_⟩
  ·have hm:=nthD_mem (d:=0) (show i.toNat<p.classes.length by omega)
   refine⟨by omega,by omega,by omega,fun h=>e4 (frame_cls hs hall (by omega) hm (by omega)),fun h1=>⟨by omega,by omega,by omega,fun h=>e4 (frame_cls hs hall (by omega) hm (by omega)),fun h2=>⟨by omega,⟨by omega,by omega,?_⟩,by omega⟩⟩⟩
   exact mem_take_next hi0 hlt hi (by omega)
  ·rw[show i.toNat=p.classes.length from by omega,List.take_length] at hi
   have hz:frameE p=0:=frame_ok hs hall (by omega) hi
   have ce:checkE p=checkL p [] p.offers:=by simp[checkE,hz]
   refine⟨⟨by omega,by omega⟩,?_⟩
   rintro i ⟨hi0,hi1,hi⟩
   refine⟨fun hlt=>?_,fun hge=>?_⟩
   ·rw[drop_nth (d:=SId.off.dflt) hi0 hlt] at hi
    generalize hx:nthD p.offers i.toNat SId.off.dflt=x at hi ⊢
    have oe:∀c:Int,c≠0→offerE p x=c→c=checkE p:=fun c hc h=>by
     rw[ce,hi]
     simp only[checkL,h]
     rw[if_pos hc]
    have se:∀c:Int,c≠0→simpleE p.classes.length x=c→c=checkE p:=fun c hc h=>oe c hc (by
     unfold offerE
     rw[if_pos (by omega),h])
    refine⟨by omega,by omega,by omega,fun h1=>?_,fun h1=>⟨fun h2=>?_,fun h2=>⟨fun h3=>?_,fun h3=>⟨fun h4=>?_,fun h4=>⟨fun h5=>?_,fun h5=>⟨fun h6=>?_,fun h6=>?_⟩⟩⟩⟩⟩⟩
    ·exact se 6 (by decide) (by unfold simpleE;rw[if_pos (by omega)])
    ·exact se 6 (by decide) (by unfold simpleE;rw[if_pos (by omega)])
    ·exact se 4 (by decide) (by unfold simpleE;rw[if_neg (by omega),if_pos (by omega)])
    ·exact se 4 (by decide) (by unfold simpleE;rw[if_neg (by omega),if_pos (by omega)])
    ·exact se 4 (by decide) (by unfold simpleE;rw[if_neg (by omega),if_neg (by omega),h5];rfl)
    ·have hs0:simpleE p.classes.length x=0:=by unfold simpleE;rw[if_neg (by omega),if_neg (by omega),h5];rfl
     exact oe 4 (by decide) (by simp[offerE,hs0,h6])
    ·have hs0:simpleE p.classes.length x=0:=by unfold simpleE;rw[if_neg (by omega),if_neg (by omega),h5];rfl
     refine⟨⟨by omega,by omega,fun y hy=>?_⟩,fun h7=>?_,fun h7=>⟨⟨by omega,by omega,fun j hj=>by omega⟩,?_⟩⟩
     ·rw[List.mem_singleton.1 hy]
      exact⟨by omega,by omega,h5⟩
     ·exact oe 14 (by decide) (by simp[offerE,hs0,h6,h7])
     ·have ho0:offerE p x=0:=by simp[offerE,hs0,h6,h7]
      rintro k ⟨hk0,hk1,hk⟩
      have hnx:(nthD p.offers k.toNat SId.off.dflt).key≠x.key→∀j:Nat,(j:Int)<k+1→(nthD p.offers j SId.off.dflt).key≠x.key:=fun h j hj=>by
       by_cases hj2:(j:Int)<k
       ·exact hk j hj2
       ·rw[show j=k.toNat from by omega];exact h
      refine⟨fun hlt2=>⟨by omega,by omega,by omega,fun h8=>⟨by omega,by omega,by omega,fun h9=>?_,fun h9=>⟨by omega,⟨by omega,by omega,?_⟩,by omega⟩⟩,fun h8=>⟨by omega,⟨by omega,by omega,?_⟩,by omega⟩⟩,fun hge2=>⟨by omega,⟨by omega,by omega,?_⟩,by omega⟩⟩
      ·have hk9:(nthD p.offers k.toNat SId.off.dflt).key=x.key:=by
        show BKey.mk _ _=BKey.mk _ _
        rw[h8,h9]
       have hmem:x.key∈(p.offers.take i.toNat).map Off.key:=by
        rw[←hk9]
        refine List.mem_map.2 ⟨_,?_,rfl⟩
        rw[nthD_eq (by omega)]
        exact List.mem_take_iff_getElem.2 ⟨k.toNat,by omega,rfl⟩
       rw[ce,hi]
       simp only[checkL,ho0,ne_eq,not_true,if_false,if_pos hmem]
      ·refine hnx fun e=>h9 ?_
       injection e
      ·refine hnx fun e=>h8 ?_
       injection e
      ·have hnm:x.key∉(p.offers.take i.toNat).map Off.key:=by
        intro hmem
        obtain⟨o,ho,he⟩:=List.mem_map.1 hmem
        obtain⟨j,hj,rfl⟩:=mem_take_nth (d:=SId.off.dflt) hi1 ho
        exact hk j (by omega) he
       rw[hi,take_nth (d:=SId.off.dflt) hi0 hlt,hx]
       simp only[checkL,ho0,ne_eq,not_true,if_false,if_neg hnm,List.map_append,List.map_cons,List.map_nil]
   ·rw[show i.toNat=p.offers.length from by omega,List.drop_length] at hi
    rw[ce,hi]
    rfl
end Go.Vi
namespace Go.Proofs
open Go.Shelf
def Try.layS_ren:Ren:=
 ⟨fun
  |189=>48
  |125=>65
  |257=>64
  |128=>80
  |129=>81
  |294=>71
  |295=>72
  |296=>73
  |297=>74
  |298=>75
  |299=>76
  |216=>77
  |300=>78
  |301=>79
  |328=>83
  |329=>84
  |330=>85
  |331=>86
  |332=>87
  |215=>88
  |343=>89
  |n=>n,
 fun
  |28=>24
  |3=>3
  |46=>94
  |0=>0
  |51=>109
  |53=>111
  |4=>4
  |183=>101
  |182=>100
  |131=>106
  |5=>5
  |9=>9
  |218=>112
  |222=>116
  |228=>119
  |229=>83
  |n=>n,
 fun n=>n⟩
def Try.layC_ren:Ren:=
 ⟨fun
  |41=>36
  |n=>n,
 fun
  |22=>24
  |23=>3
  |4=>4
  |n=>n,
 fun n=>n⟩
def Try.layD_ren:Ren:=
 ⟨fun
  |45=>66
  |n=>n,
 fun
  |22=>24
  |23=>3
  |3=>3
  |4=>4
  |0=>0
  |n=>n,
 fun n=>n⟩
theorem Try.layS:Lays.n189 Try.prog Try.layS_ren:={mixed:=by kernel_rfl,f125:=Try.func65.trans (by kernel_rfl),f128:=Try.func80.trans (by kernel_rfl),f129:=Try.func81.trans (by kernel_rfl),f189:=Try.func48.trans (by kernel_rfl),f215:=Try.func88.trans (by kernel_rfl),f216:=Try.func77.trans (by kernel_rfl),f257:=Try.func64.trans (by kernel_rfl),f294:=Try.func71.trans (by kernel_rfl),f295:=Try.func72.trans (by kernel_rfl),f296:=Try.func73.trans (by kernel_rfl),f297:=Try.func74.trans (by kernel_rfl),f298:=Try.func75.trans (by kernel_rfl),f299:=Try.func76.trans (by kernel_rfl),f300:=Try.func78.trans (by kernel_rfl),f301:=Try.func79.trans (by kernel_rfl),f328:=Try.func83.trans (by kernel_rfl),f329:=Try.func84.trans (by kernel_rfl),f330:=Try.func85.trans (by kernel_rfl),f331:=Try.func86.trans (by kernel_rfl),f332:=Try.func87.trans (by kernel_rfl),f343:=Try.func89.trans (by kernel_rfl),t0:=Try.underlying0,a0:=Try.isAgg0,z0:=Try.sizeOf0,v0:=Try.zeroValue0,t3:=Try.underlying3,a3:=Try.isAgg3,z3:=Try.sizeOf3,v3:=Try.zeroValue3,t4:=Try.underlying4,a4:=Try.isAgg4,z4:=Try.sizeOf4,v4:=Try.zeroValue4,t5:=Try.underlying5,a5:=Try.isAgg5,z5:=Try.sizeOf5,v5:=Try.zeroValue5,t9:=Try.underlying9,a9:=Try.isAgg9,z9:=Try.sizeOf9,v9:=Try.zeroValue9,t28:=Try.underlying24,a28:=Try.isAgg24,z28:=Try.sizeOf24,v28:=Try.zeroValue24,t46:=Try.underlying94,a46:=Try.isAgg94,z46:=Try.sizeOf94,v46:=Try.zeroValue94,t51:=Try.underlying109,a51:=Try.isAgg109,z51:=Try.sizeOf109,v51:=Try.zeroValue109,t53:=Try.underlying111,a53:=Try.isAgg111,z53:=Try.sizeOf111,v53:=Try.zeroValue111,t131:=Try.underlying106,a131:=Try.isAgg106,z131:=Try.sizeOf106,v131:=Try.zeroValue106,t182:=Try.underlying100,a182:=Try.isAgg100,z182:=Try.sizeOf100,v182:=Try.zeroValue100,t183:=Try.underlying101,a183:=Try.isAgg101,z183:=Try.sizeOf101,v183:=Try.zeroValue101,t218:=Try.underlying112,a218:=Try.isAgg112,z218:=Try.sizeOf112,v218:=Try.zeroValue112,t222:=Try.underlying116,a222:=Try.isAgg116,z222:=Try.sizeOf116,v222:=Try.zeroValue116,t228:=Try.underlying119,a228:=Try.isAgg119,z228:=Try.sizeOf119,v228:=Try.zeroValue119,t229:=Try.underlying83,a229:=Try.isAgg83,z229:=Try.sizeOf83,v229:=Try.zeroValue83}
theorem Try.layC:SlLaysE0.n41 Try.prog Try.layC_ren:={mixed:=by kernel_rfl,f41:=⟨Try.f36.name,by decide,Try.func36.trans (by kernel_rfl)⟩,t4:=Try.underlying4,a4:=Try.isAgg4,z4:=Try.sizeOf4,v4:=Try.zeroValue4,t22:=Try.underlying24,a22:=Try.isAgg24,z22:=Try.sizeOf24,v22:=Try.zeroValue24}
theorem Try.layD:SlLaysE.n45 Try.prog Try.layD_ren:={mixed:=by kernel_rfl,f45:=⟨Try.f66.name,by decide,Try.func66.trans (by kernel_rfl)⟩,t0:=Try.underlying0,a0:=Try.isAgg0,z0:=Try.sizeOf0,v0:=Try.zeroValue0,t3:=Try.underlying3,a3:=Try.isAgg3,z3:=Try.sizeOf3,v3:=Try.zeroValue3,t4:=Try.underlying4,a4:=Try.isAgg4,z4:=Try.sizeOf4,v4:=Try.zeroValue4,t22:=Try.underlying24,a22:=Try.isAgg24,z22:=Try.sizeOf24,v22:=Try.zeroValue24,a23:=Try.isAgg3,z23:=Try.sizeOf3}
end Go.Proofs
namespace Go.Proofs
open Go.Shelf Go.RowKit Go.Lib
theorem cloneW {P:Program} {ρ:Ren} (L:SlLaysE0.n41 P ρ) (i0:TypeInfo) (z:Value) (size bytes:Nat) (hi:P.info? (ρ.t 23)=some i0) (hz0:i0.zero=some z) (hz1:i0.size=size) (hz2:i0.bytes=bytes) (hzs:z.cells.size=size) (hsz:0<size)
  (z23:∀w,(Go.sizeOf (ρ.t 23)).run P w= .ok size w) (p:Addr) (n c:Nat) (news:List Value) (w:World) (hl:news.length=n*size) (hn:n≤maxLen) (hbig:n*bytes≤140737488355328)
  (hc:∀j u,news[j]?=some u→w.cell? (p.add j)=some u) (h1:∀u∈news,u.oneCell'=true):
  Calls P (ρ.f 41) #[.slice (some p) n c] w fun e w'=>∃v',e= .returned v'∧w'.ownsRow w.heap.size (ρ.t 23) size v' n news∧v'≠ .slice none 0 0∧Below w.heap.size w w':=by
 have mixed:=L.mixed;have t4:=L.t4;have a4:=L.a4;have z4:=L.z4;have v4:=L.v4;have t22:=L.t22;have a22:=L.a22;have z22:=L.z22;have v22:=L.v22
 have q22:∀(w:World) (a:Option Addr) (n c n' c':Nat),(binOp .eql (ρ.t 22) (.slice a n c) (.slice none n' c')).run P w= .ok (.bool a.isNone) w:=fun w a n c n' c'=>Lib.run_eql_slice_nil w _ _ a n c n' c' L.t22
 have u22:∀w,Sem.run P (underlying (ρ.t 22)) w= .ok (TypeDesc.slice (ρ.t 23)) w:=run_underlying t22
 have A:Aside (∀j u,news[j]?=some u→w.cell? (p.add j)=some u):=hc
 clear hc
 obtain⟨_,_,FG⟩:=L.f41
 go_enter FG,SlBodyN.n41_ntmps ρ
 go_wp2_with (at_builtin;refine wpList_append_own _ rfl _ _ (ρ.t 22) rfl w.heap.size (ρ.t 23) i0 z size bytes t22 hi hz0 hz1 hz2 hzs hsz _ _ _ rfl (World.ownsRow_made w #[] 0 (Nat.le_refl _) (Nat.zero_le _) (by simp)) p n c news rfl ?qc1 ?qc2 ?qc3 ?qc4 ?qc5 ?qc6 ?_)
 case qc1=>exact hl
 case qc2=>
  intro j u hj
  exact Lib.cell?_alloc_some _ (A.out j u hj)
 case qc3=>exact h1
 case qc4=>rw[Nat.zero_add];exact hn
 case qc5=>rw[Nat.zero_add];exact hbig
 case qc6=>simp
 intro v' w1 hown hgrow hnil
 go_wp2
 go_ret
 refine⟨v',rfl,by simpa using hown,?_,?_⟩
 ·exact hnil
 ·exact((Below.refl _ w).alloc (Nat.le_refl _) _).grown hgrow (by simp) (by intro k hk;simp[Value.ownBlock] at hk;omega)
end Go.Proofs
namespace Go.Vi
open Go.Proofs.Ytojbjnpkdlfijaa.Ir
open Go.Proofs
theorem flatI (l:List Int):flatA (.i .i64) l=l.map fun x=>AV.sc (.int .i64 x):=by
 unfold flatA
 induction l with
 |nil=>rfl
 |cons x l ih=>rw[List.flatMap_cons,ih];rfl
theorem ownRowI {A:Clr} {w:World} {σ:Sig} {l:List Int} {e:TypeId} (hS:SimO A w σ [.cells (l.map fun x=>AV.sc (.int .i64 x)) e 1 true]) (hl:1≤l.length):
  ∃b cap arr,σ=[some (b,cap)]∧cap≤maxLen∧w.heap[b]?=some (.cells arr e (0,0))∧arr.size=cap∧l.length≤cap∧arr.toList.take l.length=l.map (Value.int .i64):=by
 have ho:=hS.obj 0 _ rfl
 simp only[ObjOK] at ho
 obtain⟨_,_,h|⟨b,cap,arr,h1,h2,h3,h4,h5,h6⟩⟩:=ho
 ·rw[List.map_eq_nil_iff] at h
  rw[h.2] at hl
  simp at hl
 ·have hs:=hS.len
  simp at hs
  have h5':l.length≤arr.size:=by simpa using h5
  refine⟨b,cap,arr,?_,h2,h3,by omega,by omega,?_⟩
  ·match σ,hs,h1 with
   |[x],_,h1=>simp at h1;rw[h1]
  ·apply List.ext_getElem?
   intro j
   by_cases hj:j<l.length
   ·obtain⟨v,hv,hr⟩:=h6 j (.sc (.int .i64 l[j])) (by simp[hj])
    simp only[Rep] at hr
    rw[List.getElem?_take_of_lt hj,Array.getElem?_toList,hv,hr.1]
    simp[hj]
   ·rw[List.getElem?_take_eq_none (by omega),List.getElem?_eq_none (by simp;omega)]
def sortI (l:List Int):List Int:=l.mergeSort fun x y=>decide (x≤y)
theorem sortI_len {l:List Int}:(sortI l).length=l.length:=(List.mergeSort_perm _ _).length_eq
def r337:OCtr where
 f:=48
 α:=Nat×List Int
 put a:=[.ow 0 a.1 1]
 st a:=[.row (.i .i64) a.2 3 true]
 dec v o:=match v,o with
  |[.ow 0 n 1],[.row t l 3 true]=>match castL t (.i .i64) l with
   |some l=>some (n,l)
   |_=>none
  |_,_=>none
 ok v o a h:=by
  split at h
  ·split at h
   ·rename_i h4
    simp only[Option.some.injEq] at h;subst h
    obtain⟨rfl,hh⟩:=castL_eq h4
    cases hh
    exact⟨rfl,rfl⟩
   ·cases h
  ·cases h
 inj a b e1 e2:=by
  obtain⟨n,l⟩:=a
  obtain⟨n',l'⟩:=b
  simp only[gL,List.cons.injEq,SV.g,AV.os.injEq,true_and] at e1
  simp only[gO,List.map_cons,List.map_nil,SObj.g,List.cons.injEq,AObj.cells.injEq,and_true,true_and] at e2
  have h4:l=l':=by
   have hf:=congrArg List.length e2
   rw[flatA_len,flatA_len] at hf
   exact flatA_inj (.i .i64) (by simpa[SId.sz] using hf) e2
  rw[e1.1.1,h4]
 dom a:=a.1=a.2.length∧1≤a.2.length∧a.2.length≤1000000
 res _:=.tup []
 out a:=[.row (.i .i64) (sortI a.2) 3 true]
theorem h337:HoldsO Try.prog r337:=by
 rintro⟨n,l⟩ ⟨hn,h1,h2⟩
 simp only at hn h1 h2
 subst hn
 refine⟨by kernel_rfl,?_⟩
 intro A w σ vs hS hR
 have e0:∀m:List Int,gO [SObj.row (.i .i64) m 3 true]=[AObj.cells (m.map fun x=>AV.sc (.int .i64 x)) 3 1 true]:=fun m=>by
  simp only[gO,List.map_cons,List.map_nil,SObj.g,flatI]
  rfl
 have e1:gL (r337.put (l.length,l))=[.os 0 0 l.length (l.length*1)]:=rfl
 show Calls _ _ _ _ fun e w'=>∃u σ',e= .returned u∧SimO A w' σ' (gO [SObj.row (.i .i64) (sortI l) 3 true])∧Rep A w' σ' (gO [SObj.row (.i .i64) (sortI l) 3 true]) (.tup []) u∧Ext w σ (gO [SObj.row (.i .i64) l 3 true]) w' σ' (gO [SObj.row (.i .i64) (sortI l) 3 true])
 replace hS:SimO A w σ (gO [SObj.row (.i .i64) l 3 true]):=hS
 replace hR:RepL A w σ (gO [SObj.row (.i .i64) l 3 true]) (gL (r337.put (l.length,l))) vs:=hR
 rw[e0] at hS hR
 rw[e0,e0]
 rw[e1] at hR
 obtain⟨b,cap,arr,rfl,q2,q3,q4,q5,q6⟩:=ownRowI hS h1
 simp only[RepL] at hR
 obtain⟨v,r,rfl,hv,rfl⟩:=hR
 simp only[Rep] at hv
 obtain⟨hle,a,cp,rfl,hcp,hos⟩:=hv
 have ho:=hos 1 ⟨_,_,_,rfl,by simp⟩
 simp only[OsOk,List.getElem?_cons_zero] at ho
 obtain⟨rfl,rfl⟩:=ho.2.1 trivial trivial (by omega)
 have hb:b<w.heap.size:=hS.bnd 0 b cp rfl
 have hH:=holds_of_blockI (ss:=l) q3 q6
 have hc:Calls Try.prog (r337).f #[.slice (some ⟨b,0,none⟩) l.length cp] w fun e w'=>e= .returned (.tuple #[])∧∃n os,w'=Sort.grow (Sort.putRow (Value.int .i64) (Sort.ahead w n) b 0 (sortI l).toArray) os:=
  calls_of_every_depth fun D=>AnyS.slices_Sort_int_in Try.layS D b 0 cp l w hH hb (by omega)
 refine Calls.mono hc ?_
 rintro e w' ⟨rfl,n,os,rfl⟩
 have hg:=grownBy_sortedI (w:=w) (g:=b) (n:=n) (os:=os) (sortI l).toArray
 have hh:=heap_sortedI (w:=w) (n:=n) (os:=os) (sortI l).toArray q3
 have ht:=take_putCellsI arr (sortI l) (by rw[sortI_len];omega)
 have hz:(Sort.putCells (Value.int .i64) 0 (sortI l).toArray arr).size=arr.size:=by simp[Sort.putCells]
 generalize Sort.grow (Sort.putRow (Value.int .i64) (Sort.ahead w n) b 0 (sortI l).toArray) os=w' at*
 generalize Sort.putCells (Value.int .i64) 0 (sortI l).toArray arr=arr' at*
 have hU:=hS.upd (w':=w') (id:=0) (x':=.cells ((sortI l).map fun x=>AV.sc (.int .i64 x)) 3 1 true) (s':=some (b,cp)) rfl hg.size hg.os hg.tape hg.output
  (fun k hk hn=>hg.block k hk fun e=>by injection e with e;subst e;exact hn cp rfl) (fun b' c' e=>by injection e with e;injection e with e1 e2;subst e1;exact .inl ⟨cp,rfl⟩)
  ⟨_,_,_,rfl,by simp[sortI_len],fun _=>rfl⟩ ?_
 ·refine⟨_,[some (b,cp)],rfl,hU.1,?_,hU.2⟩
  simp only[Rep]
  exact⟨#[],rfl,by simp[RepL]⟩
 ·intro hx
  simp only[ObjOK]
  refine⟨fun _=>by rw[←flatI];exact flatA_pure _ _,by rw[←flatI];exact flatA_one _ _,.inr ⟨b,cp,arr',rfl,q2,hh,by omega,by simp[sortI_len];omega,?_⟩⟩
  intro j c hj
  rw[List.getElem?_map] at hj
  obtain⟨x,hx1,rfl⟩:=Option.map_eq_some_iff.1 hj
  have hjl:=(List.getElem?_eq_some_iff.1 hx1).1
  refine⟨.int .i64 x,?_,by simp[Rep,Value.oneCell']⟩
  have h9:(arr'.toList.take (sortI l).length)[j]?=((sortI l).map (Value.int .i64))[j]?:=by rw[ht]
  rw[List.getElem?_take_of_lt hjl,Array.getElem?_toList,List.getElem?_map,hx1] at h9
  exact h9
theorem cloneC {A:Clr} {w:World} {l:List Int} {vs:List Value} {fid:FuncId} (hfid:fid=Try.layC_ren.f 41) (hS:SimO A w [] []) (hl:l.length≤1000000) (hR:RepL A w [] [] [.sl l.length (l.map fun x=>AV.sc (.int .i64 x))] vs):
  Calls Try.prog fid vs.toArray w fun e w'=>RowKit.Below w.heap.size w w'∧((e= .returned (.slice none 0 0)∧l=[])∨∃g cap cur,e= .returned (.slice (some ⟨g,0,none⟩) l.length cap)∧w.heap.size≤g∧w'.heap[g]?=some (.cells cur 3 (0,0))∧l.length≤cap∧cap≤maxLen∧cur.size=cap∧cur.toList.take l.length=l.map (Value.int .i64)):=by
 subst hfid
 simp only[RepL] at hR
 obtain⟨v,r,rfl,hv,rfl⟩:=hR
 simp only[Rep] at hv
 obtain⟨a,cap,rfl,hcap,_,hM⟩:=hv
 cases a with
 |none=>
  have hnil:l=[]:=by
   cases l with
   |nil=>rfl
   |cons x l=>
    simp only[List.map_cons,RepM] at hM
    obtain⟨⟨b,_,e,_⟩,_⟩:=hM
    cases e
  refine Calls.mono (AnyE.slices_Clone_nil Try.layC l.length cap w) ?_
  rintro e w' ⟨rfl,rfl⟩
  exact⟨RowKit.Below.refl _ _,.inl ⟨rfl,hnil⟩⟩
 |some p=>
  have hc:∀j u,(l.map (Value.int .i64))[j]?=some u→w.cell? (p.add j)=some u:=by
   intro j u hj
   rw[List.getElem?_map] at hj
   obtain⟨x,hx,rfl⟩:=Option.map_eq_some_iff.1 hj
   obtain⟨b,v,e,_,hcell,hrep⟩:=RepM.get _ _ _ hM j (.sc (.int .i64 x)) (by simp[hx])
   injection e with e
   subst e
   simp only[Rep] at hrep
   rw[Nat.zero_add,hrep.1] at hcell
   exact hcell
  refine Calls.mono (cloneW Try.layC Try.t3 (.int .i64 0) 1 8 (by kernel_rfl) (by kernel_rfl) (by kernel_rfl) (by kernel_rfl) (by kernel_rfl) (by omega) Try.sizeOf3 p l.length cap (l.map (Value.int .i64)) w (by simp) (by have:maxLen=9223372036854775807:=rfl;omega) (by omega) hc (by simp[Value.oneCell'])) ?_
  rintro e w' ⟨v',rfl,hown,hne,hbel⟩
  refine⟨hbel,.inr ?_⟩
  obtain⟨_,h|⟨g,cap',cur,rfl,h1,h2,h3,h4,h5,h6⟩⟩:=hown
  ·exact absurd h.1 hne
  ·exact⟨g,cap',cur,rfl,h1,h2,h3,h4,by omega,by simpa using h6⟩
def r330:SCtr:=⟨36,List Int,.one (codR (.i .i64)),fun l=>l.length≤1000000,fun l=> .row (.i .i64) l⟩
theorem h330:Holds Try.prog r330:=by
 intro(l:List Int) (hl:l.length≤1000000)
 refine⟨by kernel_rfl,?_⟩
 intro A w σ vs hS hR
 have hσ:σ=[]:=by have:=hS.len;simpa using this
 subst hσ
 have e1:gL (r330.A.put l)=[.sl l.length (l.map fun x=>AV.sc (.int .i64 x))]:=by rw[←flatI];rfl
 have e2:(r330.res l).g= .sl l.length (l.map fun x=>AV.sc (.int .i64 x)):=by rw[←flatI];rfl
 rw[e1] at hR
 rw[e2]
 refine Calls.mono (cloneC (by rfl) hS hl hR) ?_
 rintro e w' ⟨hb,h⟩
 have hS':SimO A w' [] []:=⟨rfl,by simp,by simp,by simp,by simp,fun b h=>Nat.lt_of_lt_of_le (hS.avb b h) hb.size⟩
 have hE:Ext w [] [] w' [] []:=⟨hb.size,fun b h _=>⟨hb.block b h,fun⟨i,c,hi⟩=>by simp at hi⟩,Nat.le_refl _,fun _ _ ⟨_,_,_,_,h,_⟩=>by simp at h,fun _ ⟨_,_,_,h⟩=>by simp at h,hb.os,hb.tape,hb.output⟩
 rcases h with⟨rfl,rfl⟩|⟨g,cap,cur,rfl,h1,h2,h3,h4,h5,h6⟩
 ·exact⟨_,[],rfl,hS',by simp only[Rep];exact⟨none,0,rfl,by simp,by rw[←flatI];exact flatA_pure _ _,by simp[RepM]⟩,hE⟩
 ·refine⟨_,[],rfl,hS',?_,hE⟩
  simp only[Rep]
  refine⟨_,_,rfl,h3,by rw[←flatI];exact flatA_pure _ _,RepM.of_get _ _ _ fun i c hi=>?_⟩
  rw[List.getElem?_map] at hi
  obtain⟨x,hx,rfl⟩:=Option.map_eq_some_iff.1 hi
  have hil:=(List.getElem?_eq_some_iff.1 hx).1
  have h9:(cur.toList.take l.length)[i]?=(l.map (Value.int .i64))[i]?:=by rw[h6]
  rw[List.getElem?_take_of_lt hil,Array.getElem?_toList,List.getElem?_map,hx] at h9
  refine⟨⟨g,0,none⟩,.int .i64 x,rfl,⟨fun⟨i,c,hi⟩=>by simp at hi,fun hA=>by have:=hS.avb g hA;omega⟩,?_,by simp[Rep,Value.oneCell']⟩
  rw[Addr.add_lit]
  simp only[World.cell?,h2,Nat.zero_add,Option.isSome_none,Bool.false_eq_true,if_false]
  exact h9
def r330o:OCtr where
 f:=36
 α:=List Int
 put a:=[.row (.i .i64) a]
 st a:=[]
 dec v o:=match v,o with
  |[.row t l],[]=>castL t (.i .i64) l
  |_,_=>none
 ok v o a h:=by
  split at h
  ·obtain⟨rfl,hh⟩:=castL_eq h
   cases hh
   exact⟨rfl,rfl⟩
  ·cases h
 inj a b e1 e2:=by
  simp only[gL,List.cons.injEq,SV.g,AV.sl.injEq,and_true] at e1
  exact flatA_inj (.i .i64) (by simpa using e1.1) e1.2
 dom a:=a.length≤1000000
 res a:=.ow 0 a.length 1
 out a:=[.row (.i .i64) a 3 true]
theorem h330o:HoldsO Try.prog r330o:=by
 intro(l:List Int) (hl:l.length≤1000000)
 refine⟨by kernel_rfl,?_⟩
 intro A w σ vs hS hR
 replace hS:SimO A w σ []:=hS
 replace hR:RepL A w σ [] (gL (r330o.put l)) vs:=hR
 have hσ:σ=[]:=by have:=hS.len;simpa using this
 subst hσ
 have e1:gL (r330o.put l)=[.sl l.length (l.map fun x=>AV.sc (.int .i64 x))]:=by rw[←flatI];rfl
 have e2:(r330o.res l).g= .os 0 0 l.length (l.length*1):=rfl
 have e3:gO (r330o.out l)=[AObj.cells (l.map fun x=>AV.sc (.int .i64 x)) 3 1 true]:=by rw[←flatI];rfl
 rw[e1] at hR
 rw[e2,e3]
 show Calls _ _ _ _ fun e w'=>∃u σ',e= .returned u∧SimO A w' σ' [AObj.cells (l.map fun x=>AV.sc (.int .i64 x)) 3 1 true]∧Rep A w' σ' [AObj.cells (l.map fun x=>AV.sc (.int .i64 x)) 3 1 true] (.os 0 0 l.length (l.length*1)) u∧Ext w [] [] w' σ' [AObj.cells (l.map fun x=>AV.sc (.int .i64 x)) 3 1 true]
 refine Calls.mono (cloneC (by rfl) hS hl hR) ?_
 rintro e w' ⟨hb,h⟩
 have hle:LenLe [AObj.cells (l.map fun x=>AV.sc (.int .i64 x)) 3 1 true] 0 (l.length*1):=⟨_,_,_,_,rfl,by simp⟩
 rcases h with⟨rfl,rfl⟩|⟨g,cap,cur,rfl,h1,h2,h3,h4,h5,h6⟩
 ·refine⟨_,[none],rfl,⟨rfl,?_,?_,?_,?_,fun b h=>Nat.lt_of_lt_of_le (hS.avb b h) hb.size⟩,?_,hb.size,fun b h _=>⟨hb.block b h,?_⟩,Nat.zero_le _,fun _ _ ⟨_,_,_,_,h,_⟩=>by simp at h,fun _ ⟨_,_,_,h⟩=>by simp at h,hb.os,hb.tape,hb.output⟩
  ·intro i j b c d hi;cases i<;>simp at hi
  ·intro i b c hi;cases i<;>simp at hi
  ·intro i x hi
   cases i with
   |zero=>
    simp at hi;subst hi
    simp only[ObjOK]
    exact⟨fun _=>rfl,rfl,.inl (by simp)⟩
   |succ i=>simp at hi
  ·intro i b c hi;cases i<;>simp at hi
  ·simp only[Rep]
   exact⟨hle,none,0,rfl,by simp,fun sz _=>by simp[OsOk]⟩
  ·rintro⟨i,c,hi⟩;cases i<;>simp at hi
 ·have hg:g<w'.heap.size:=(Array.getElem?_eq_some_iff.1 h2).1
  refine⟨_,[some (g,cap)],rfl,⟨rfl,?_,?_,?_,?_,fun b h=>Nat.lt_of_lt_of_le (hS.avb b h) hb.size⟩,?_,hb.size,fun b h _=>⟨hb.block b h,?_⟩,Nat.zero_le _,fun _ _ ⟨_,_,_,_,h,_⟩=>by simp at h,fun _ ⟨_,_,_,h⟩=>by simp at h,hb.os,hb.tape,hb.output⟩
  ·intro i j b c d hi hj
   cases i with
   |zero=>cases j with
    |zero=>rfl
    |succ j=>simp at hj
   |succ i=>simp at hi
  ·intro i b c hi
   cases i with
   |zero=>simp at hi;omega
   |succ i=>simp at hi
  ·intro i x hi
   cases i with
   |zero=>
    simp at hi;subst hi
    simp only[ObjOK]
    refine⟨fun _=>by rw[←flatI];exact flatA_pure _ _,by rw[←flatI];exact flatA_one _ _,.inr ⟨g,cap,cur,rfl,h4,h2,by omega,by simp;omega,?_⟩⟩
    intro j c hj
    rw[List.getElem?_map] at hj
    obtain⟨x,hx1,rfl⟩:=Option.map_eq_some_iff.1 hj
    have hjl:=(List.getElem?_eq_some_iff.1 hx1).1
    refine⟨.int .i64 x,?_,by simp[Rep,Value.oneCell']⟩
    have h9:(cur.toList.take l.length)[j]?=(l.map (Value.int .i64))[j]?:=by rw[h6]
    rw[List.getElem?_take_of_lt hjl,Array.getElem?_toList,List.getElem?_map,hx1] at h9
    exact h9
   |succ i=>simp at hi
  ·intro i b c hi
   cases i with
   |zero=>
    simp at hi
    intro hA
    have:=hS.avb b hA
    omega
   |succ i=>simp at hi
  ·simp only[Rep]
   refine⟨hle,_,_,rfl,h3,fun sz hc=>?_⟩
   obtain⟨_,_,_,hc,_⟩:=hc
   simp at hc
   obtain⟨_,_,rfl,_⟩:=hc
   simp only[OsOk,List.getElem?_cons_zero]
   exact⟨fun _=>by rw[offR_le (Nat.zero_le _)],fun _ _ _=>by simp,.inl ⟨by omega,by omega⟩⟩
  ·rintro⟨i,c,hi⟩
   cases i with
   |zero=>simp at hi;omega
   |succ i=>simp at hi
def cutI (l:List Int) (i j:Nat):List Int:=l.take i++l.drop j++List.replicate (j - i) 0
theorem cutI_len {l:List Int} {i j:Nat} (h1:i≤j) (h2:j≤l.length):(cutI l i j).length=l.length:=by
 unfold cutI
 rw[List.length_append,List.length_append,List.length_take,List.length_drop,List.length_replicate]
 omega
def r347:OCtr where
 f:=66
 α:=(Nat×List Int)×Int×Int
 put a:=[.ow 0 a.1.1 1,.si .i64 a.2.1,.si .i64 a.2.2]
 st a:=[.row (.i .i64) a.1.2 3 true]
 dec v o:=match v,o with
  |[.ow 0 n 1,x,y],[.row t l 3 true]=>match castL t (.i .i64) l,x.int .i64,y.int .i64 with
   |some l,some i,some j=>some ((n,l),i,j)
   |_,_,_=>none
  |_,_=>none
 ok v o a h:=by
  split at h
  ·split at h
   ·rename_i h4 h5 h6
    simp only[Option.some.injEq] at h;subst h
    obtain⟨rfl,hh⟩:=castL_eq h4
    cases hh
    refine⟨?_,rfl⟩
    simp only[gL,int_g h5,int_g h6]
    rfl
   ·cases h
  ·cases h
 inj a b e1 e2:=by
  obtain⟨⟨n,l⟩,i,j⟩:=a
  obtain⟨⟨n',l'⟩,i',j'⟩:=b
  simp only[gL,List.cons.injEq,SV.g,AV.os.injEq,true_and,and_true,AV.sc.injEq,Value.int.injEq] at e1
  simp only[gO,List.map_cons,List.map_nil,SObj.g,List.cons.injEq,AObj.cells.injEq,and_true,true_and] at e2
  have h4:l=l':=by
   have hf:=congrArg List.length e2
   rw[flatA_len,flatA_len] at hf
   exact flatA_inj (.i .i64) (by simpa[SId.sz] using hf) e2
  rw[e1.1.1,h4,e1.2.1,e1.2.2]
 dom a:=(a.1.1=a.1.2.length∧1≤a.1.2.length∧a.1.2.length≤1000000)∧0≤a.2.1∧a.2.1≤a.2.2∧a.2.2≤a.1.2.length
 res a:=.os 0 0 (a.1.2.length - (a.2.2 - a.2.1).toNat) a.1.1 1
 out a:=[.row (.i .i64) (cutI a.1.2 a.2.1.toNat a.2.2.toNat) 3 true]
theorem h347:HoldsO Try.prog r347:=by
 rintro⟨⟨n,l⟩,i,j⟩ ⟨⟨hn,h1,h2⟩,i0,ij,jl⟩
 simp only at hn h1 h2 i0 ij jl
 subst hn
 obtain⟨i,rfl⟩:∃k:Nat,i=k:=⟨i.toNat,by omega⟩
 obtain⟨j,rfl⟩:∃k:Nat,j=k:=⟨j.toNat,by omega⟩
 refine⟨by kernel_rfl,?_⟩
 intro A w σ vs hS hR
 have e0:∀m:List Int,gO [SObj.row (.i .i64) m 3 true]=[AObj.cells (m.map fun x=>AV.sc (.int .i64 x)) 3 1 true]:=fun m=>by
  simp only[gO,List.map_cons,List.map_nil,SObj.g,flatI]
  rfl
 have e1:gL (r347.put ((l.length,l),(i:Int),(j:Int)))=[.os 0 0 l.length (l.length*1),.sc (.int .i64 i),.sc (.int .i64 j)]:=rfl
 have e2:(r347.res ((l.length,l),(i:Int),(j:Int))).g= .os 0 0 (l.length - (j - i)) (l.length*1):=by
  show AV.os 0 (0*1) (l.length - ((j:Int) - (i:Int)).toNat) (l.length*1)=_
  rw[Nat.zero_mul,show((j:Int) - (i:Int)).toNat=j - i by omega]
 show Calls _ _ _ _ fun e w'=>∃u σ',e= .returned u∧SimO A w' σ' (gO [SObj.row (.i .i64) (cutI l i j) 3 true])∧Rep A w' σ' (gO [SObj.row (.i .i64) (cutI l i j) 3 true]) (r347.res ((l.length,l),(i:Int),(j:Int))).g u∧Ext w σ (gO [SObj.row (.i .i64) l 3 true]) w' σ' (gO [SObj.row (.i .i64) (cutI l i j) 3 true])
 replace hS:SimO A w σ (gO [SObj.row (.i .i64) l 3 true]):=hS
 replace hR:RepL A w σ (gO [SObj.row (.i .i64) l 3 true]) (gL (r347.put ((l.length,l),(i:Int),(j:Int)))) vs:=hR
 rw[e0] at hS hR
 rw[e0,e0,e2]
 rw[e1] at hR
 obtain⟨b,cap,arr,rfl,q2,q3,q4,q5,q6⟩:=ownRowI hS h1
 simp only[RepL] at hR
 obtain⟨v,r,rfl,hv,v2,r2,rfl,hv2,v3,r3,rfl,hv3,rfl⟩:=hR
 simp only[Rep] at hv hv2 hv3
 obtain⟨hle,a,cp,rfl,hcp,hos⟩:=hv
 obtain⟨rfl,_⟩:=hv2
 obtain⟨rfl,_⟩:=hv3
 have ho:=hos 1 ⟨_,_,_,rfl,by simp⟩
 simp only[OsOk,List.getElem?_cons_zero] at ho
 obtain⟨rfl,rfl⟩:=ho.2.1 trivial trivial (by omega)
 have hb:b<w.heap.size:=hS.bnd 0 b cp rfl
 have hH:=holds_of_blockI (ss:=l) q3 q6
 have hmx:maxLen=9223372036854775807:=rfl
 have hdl:=@cutI_len l i j (by omega) (by omega)
 have hc:Calls Try.prog (r347).f #[.slice (some ⟨b,0,none⟩) l.length cp,.int .i64 i,.int .i64 j] w fun e w'=>e= .returned (.slice (some ⟨b,0,none⟩) (l.length - (j - i)) cp)∧∃q,w'=Sort.putRow (Value.int .i64) (Sort.ahead w q) b 0 (cutI l i j).toArray:=by
  exact AnyE.slices_Delete Try.layD (Value.int .i64) (fun _=>rfl) 0 Try.zeroValue3 Try.t3 (by kernel_rfl) (by kernel_rfl) b 0 cp i j l.toArray w hH (by simpa using q5) (by omega) (by omega) (by simp;omega)
 refine Calls.mono hc ?_
 rintro e w' ⟨rfl,q,rfl⟩
 have hg:=grownBy_sortedI (w:=w) (g:=b) (n:=q) (os:=#[]) (cutI l i j).toArray
 have hh:=heap_sortedI (w:=w) (n:=q) (os:=#[]) (cutI l i j).toArray q3
 rw[Sort.grow_empty] at hg hh
 have ht:=take_putCellsI arr (cutI l i j) (by omega)
 have hz:(Sort.putCells (Value.int .i64) 0 (cutI l i j).toArray arr).size=arr.size:=by simp[Sort.putCells]
 generalize Sort.putRow (Value.int .i64) (Sort.ahead w q) b 0 (cutI l i j).toArray=w' at*
 generalize Sort.putCells (Value.int .i64) 0 (cutI l i j).toArray arr=arr' at*
 have hU:=hS.upd (w':=w') (id:=0) (x':=.cells ((cutI l i j).map fun x=>AV.sc (.int .i64 x)) 3 1 true) (s':=some (b,cp)) rfl hg.size hg.os hg.tape hg.output
  (fun k hk hn=>hg.block k hk fun e=>by injection e with e;subst e;exact hn cp rfl) (fun b' c' e=>by injection e with e;injection e with e1 e2;subst e1;exact .inl ⟨cp,rfl⟩)
  ⟨_,_,_,rfl,by simp[hdl],fun _=>rfl⟩ ?_
 ·refine⟨_,[some (b,cp)],rfl,hU.1,?_,hU.2⟩
  simp only[Rep]
  refine⟨⟨_,_,_,_,rfl,by simp[hdl]⟩,_,_,rfl,by omega,fun sz hc=>?_⟩
  obtain⟨_,_,_,hc,_⟩:=hc
  simp at hc
  obtain⟨_,_,rfl,_⟩:=hc
  simp only[OsOk,List.getElem?_cons_zero]
  exact⟨fun _=>by rw[offR_le (Nat.zero_le _)],fun _ _ _=>by simp,.inl ⟨by omega,by omega⟩⟩
 ·intro hx
  simp only[ObjOK]
  refine⟨fun _=>by rw[←flatI];exact flatA_pure _ _,by rw[←flatI];exact flatA_one _ _,.inr ⟨b,cp,arr',rfl,q2,hh,by omega,by simp[hdl];omega,?_⟩⟩
  intro k c hj
  rw[List.getElem?_map] at hj
  obtain⟨x,hx1,rfl⟩:=Option.map_eq_some_iff.1 hj
  have hjl:=(List.getElem?_eq_some_iff.1 hx1).1
  refine⟨.int .i64 x,?_,by simp[Rep,Value.oneCell']⟩
  have h9:(arr'.toList.take (cutI l i j).length)[k]?=((cutI l i j).map (Value.int .i64))[k]?:=by rw[ht]
  rw[List.getElem?_take_of_lt hjl,Array.getElem?_toList,List.getElem?_map,hx1] at h9
  exact h9
theorem sum_cons {p:Prob} {x:Off} {L:List Off} {r:Int}:sumS p (x::L) r=coefS p r x+sumS p L r:=by simp[sumS]
structure Game where
 rows:List (List Int)
 bounds:List Int
 offers:List Off
def codG:Cod Game where
 put a:=.agg [.row (.lst (.i .i64)) a.rows,.row (.i .i64) a.bounds,.row .off a.offers]
 dec
  | .agg [r,v,x]=>match decRow (.lst (.i .i64)) r,decRow (.i .i64) v,decRow .off x with
   |some c,some v,some x=>some ⟨c,v,x⟩
   |_,_,_=>none
  |_=>none
 ok v a h:=by
  split at h
  ·split at h
   ·rename_i h1 h2 h3
    simp only[Option.some.injEq] at h;subst h
    simp only[SV.g,gL,decRow_ok h1,decRow_ok h2,decRow_ok h3]
   ·cases h
  ·cases h
 inj a b h:=by
  obtain⟨c,v,x⟩:=a
  obtain⟨c',v',x'⟩:=b
  simp only[SV.g,gL,AV.agg.injEq,List.cons.injEq,and_true,true_and,AV.sl.injEq] at h
  have m1:=flatA_inj (.lst (.i .i64)) h.1.1 h.1.2
  have m2:=flatA_inj (.i .i64) h.2.1.1 h.2.1.2
  have m3:=flatA_inj .off h.2.2.1 h.2.2.2
  rw[m1,m2,m3]
def r335:SCtr:=⟨46,Prob,.one codP,fun _=>True,fun p=> .si .i64 (if checkE p=0 then nrows p else 0)⟩
theorem h335:Holds Try.prog r335:=by
 refine con (L:=[r79,r157]) r335 F335 (fun _ _=> .look) (OwnOK.none _) (by simpa using⟨h79,h157⟩) (by kernel_rfl) (by kernel_rfl) (fun _=>rfl) ?_
 rintro(p:Prob) -
 refine vcOf (let z0:=decide (checkE p≠(0:Int));let z1:=SV.si .i64 (if checkE p=(0:Int) then nrows p else(0:Int));True∧(z0=true→(SV.il .i64 0).same z1)∧(z0=false→p.classes.length≤8∧(SV.si .i64 (nrows p)).same z1)) (by kernel_rfl) ?_
 simp only[vcs]
 refine⟨fun h=>by rw[if_neg h],fun h=>?_⟩
 have hc:checkE p=0:=Classical.not_not.1 h
 rw[if_pos hc]
 have:=(good_of hc).1
 exact⟨this,rfl⟩
def rowR (p:Prob) (r:Int) (n:Nat):List Int:=(p.offers.take n).map (coefS p r)
def r336:SCtr:=⟨47,Prob×Int,.cons codP (.one (codI .i64)),fun a=>checkE a.1=0∧0≤a.2∧a.2<nrows a.1,fun a=> .tup [.row (.i .i64) (rowR a.1 a.2 a.1.offers.length),.si .i64 (boundS a.1 a.2)]⟩
def Λ336 (a:Prob×Int):Nat→LoopAnn
 |5=> .inv Int (fun i=>⟨[(1,.si .i64 a.2),(4,.ow 1 (rowR a.1 a.2 i.toNat).length 1),(6,.ptr 2 0 20),(20,.row .off a.1.offers),(21,.si .i64 a.1.offers.length),(22,.si .i64 i)],[.cells a.1.ss 27 20 false,.row (.i .i64) (rowR a.1 a.2 i.toNat) 3 true,.cells a.1.ss 69 20 false]⟩)
   (fun s=>iS s 22) (fun i=>0≤i∧i≤a.1.offers.length) (fun i=>(a.1.offers.length - i).toNat) fun _ _=> .look
 |_=> .look
theorem h336:Holds Try.prog r336:=by
 refine con (L:=[r335,r156,r158]) r336 F336 Λ336 (OwnOK.none _) (by simpa using⟨h335,h156,h158⟩) (by kernel_rfl) (by kernel_rfl) (fun _=>rfl) ?_
 rintro⟨p,r⟩ ⟨hc,r0,r1⟩
 simp only at hc r0 r1
 refine vcOf (let z0:=decide (r<(0:Int));let z1:=SId.i .i64;let z2:=SV.il .i64 0;let z3:=[SV.si .i64 (boundS p r)];let z4:=SV.tup (SV.row z1 (rowR p r p.offers.length)::z3);let z5:=decide ((if checkE p=(0:Int) then nrows p else(0:Int))≤r);let z6:=SV.ptr 2 0 20;let z7:=SV.row SId.off p.offers;let z8:=(↑p.offers.length:Int);let z9:=(↑p.offers.length:Int);let z10:=SV.si .i64 z9;let z11:=[SV.si .i64 p.supply.a0,SV.si .i64 p.supply.a1,SV.si .i64 p.supply.a2,SV.si .i64 p.supply.a3,SV.si .i64 p.supply.a4,SV.si .i64 p.supply.a5,SV.si .i64 p.opn.a0,SV.si .i64 p.opn.a1,SV.si .i64 p.opn.a2,SV.si .i64 p.opn.a3,SV.si .i64 p.opn.a4,SV.si .i64 p.opn.a5,SV.si .i64 p.cls.a0,SV.si .i64 p.cls.a1,SV.si .i64 p.cls.a2,SV.si .i64 p.cls.a3,SV.si .i64 p.cls.a4,SV.si .i64 p.cls.a5,SV.row z1 p.classes,z7];let z12:=SObj.cells z11 27 20 false;let z13:=SObj.cells z11 69 20 false;(z0=true→0=0∧(SV.tup [SV.row z1 [],z2]).same z4)∧(z0=false→True∧(z5=true→0=0∧(SV.tup [SV.row z1 [],z2]).same z4)∧(z5=false→((((SV.si .i64 r).same (SV.si .i64 r)∧(SV.ow 1 0 1).same (SV.ow 1 (rowR p r 0).length 1)∧z6.same z6∧z7.same z7∧(SV.si .i64 z8).same z10∧z2.same (SV.si .i64 0)∧True)∧z12.same z12∧(SObj.row z1 [] 3 true).same (SObj.row z1 (rowR p r 0) 3 true)∧z13.same z13∧True)∧(0:Int)≤(0:Int)∧(0:Int)≤z9)∧∀(x:Int),let z14:=nthD p.offers x.toNat SId.off.dflt;let z15:=rowR p r x.toNat;let z16:=z15.length+1;let z17:=x+(1:Int);let z18:=z15++[coefS p r z14];let z19:=SV.si .i64 z17;(0:Int)≤x∧x≤z9→(decide (x<z9)=true→(0:Int)≤x∧x<z8∧x.toNat<p.offers.length∧(p.classes.length≤8∧(0:Int)≤r∧r<nrows p∧(0:Int)≤z14.bidder∧z14.bidder<(↑p.classes.length:Int))∧z15.length=z15.length∧z16*8≤140737488355328∧z16≤1000000000000∧inR .i64 z17∧(((SV.si .i64 r).same (SV.si .i64 r)∧(SV.ow 1 z18.length 1).same (SV.ow 1 (rowR p r z17.toNat).length 1)∧z6.same z6∧z7.same z7∧z10.same z10∧z19.same z19∧True)∧z12.same z12∧(SObj.row z1 z18 3 true).same (SObj.row z1 (rowR p r z17.toNat) 3 true)∧z13.same z13∧True)∧((0:Int)≤z17∧z17≤z9)∧(z9 - z17).toNat<(z9 - x).toNat)∧(decide (x<z9)=false→(p.classes.length≤8∧(0:Int)≤r∧r<nrows p)∧z15.length=z15.length∧(SV.tup (SV.row z1 z15::z3)).same z4)))) (by kernel_rfl) ?_
 simp only[vcs]
 obtain⟨g1,g2,g3,g4,g5⟩:=good_of hc
 have how:∀{x y:Nat},x=y→(SV.ow 1 x 1).same (SV.ow 1 y 1):=by rintro _ _ rfl;rfl
 have hrow:∀{x y:List Int},x=y→(SObj.row (.i .i64) x 3 true).same (SObj.row (.i .i64) y 3 true):=by rintro _ _ rfl;rfl
 rw[if_pos hc]
 refine⟨fun h=>by omega,fun _=>⟨fun h=>by omega,fun _=>⟨⟨?_,by omega,by omega⟩,?_⟩⟩⟩
 ·exact⟨how rfl,hrow rfl⟩
 ·rintro i ⟨i0,i1⟩
  have hL:(rowR p r i.toNat).length≤160:=by unfold rowR;rw[List.length_map,List.length_take];omega
  refine⟨fun hi=>?_,fun hi=>?_⟩
  ·have hx:=g5 _ (nthD_mem (d:=SId.off.dflt) (show i.toNat<p.offers.length by omega))
   have e:rowR p r (i+1).toNat=rowR p r i.toNat++[coefS p r (nthD p.offers i.toNat SId.off.dflt)]:=by
    unfold rowR
    rw[take_nth (d:=SId.off.dflt) i0 hi,List.map_append]
    rfl
   rw[e]
   exact⟨i0,hi,by omega,⟨g1,r0,r1,hx.1,hx.2.1⟩,by omega,by omega,by omega,⟨how rfl,hrow rfl⟩,by omega,by omega⟩
  ·rw[show i.toNat=p.offers.length by omega]
   exact⟨⟨g1,r0,r1⟩,rfl⟩
def rowsR (p:Prob) (n:Nat):List (List Int):=(List.range n).map fun r:Nat=>rowR p r p.offers.length
def bndR (p:Prob) (n:Nat):List Int:=(List.range n).map fun r:Nat=>boundS p r
def nR (p:Prob):Nat:=if checkE p=0 then p.classes.length+12 else 0
def gameR (p:Prob):Game:=⟨rowsR p (nR p),bndR p (nR p),p.offers⟩
theorem rowsR_len {p:Prob} {n:Nat}:(rowsR p n).length=n:=by simp[rowsR]
theorem bndR_len {p:Prob} {n:Nat}:(bndR p n).length=n:=by simp[bndR]
theorem rowsR_succ {p:Prob} {i:Int} (h:0≤i):rowsR p (i+1).toNat=rowsR p i.toNat++[rowR p i p.offers.length]:=by
 unfold rowsR
 rw[show(i+1).toNat=i.toNat+1 from by omega,List.range_succ,List.map_append]
 simp only[List.map_cons,List.map_nil,show((i.toNat:Nat):Int)=i from by omega]
theorem bndR_succ {p:Prob} {i:Int} (h:0≤i):bndR p (i+1).toNat=bndR p i.toNat++[boundS p i]:=by
 unfold bndR
 rw[show(i+1).toNat=i.toNat+1 from by omega,List.range_succ,List.map_append]
 simp only[List.map_cons,List.map_nil,show((i.toNat:Nat):Int)=i from by omega]
def r325:SCtr:=⟨30,Prob,.one codP,fun _=>True,fun p=>codG.put (gameR p)⟩
def Λ325 (p:Prob):Nat→LoopAnn
 |3=> .inv Int (fun i=>⟨[(1,.ptr 0 0 20),(2,.ptr 1 0 3),(3,.ptr 2 0 3),(11,.si .i64 (nR p)),(12,.si .i64 i)],[.cells p.ss 27 20 false,.cells [.sc (.slice none 0 0),.sc (.slice none 0 0),.sc (.slice none 0 0)] 54 3 false,.cells [.ow 4 (rowsR p i.toNat).length 1,.ow 3 (bndR p i.toNat).length 1,.row .off p.offers] 54 3 false,.row (.i .i64) (bndR p i.toNat) 3 true,.row (.lst (.i .i64)) (rowsR p i.toNat) 24 false]⟩)
   (fun s=>iS s 12) (fun i=>0≤i∧i≤nR p) (fun i=>(nR p - i).toNat) fun _ _=> .look
 |_=> .look
theorem h325:Holds Try.prog r325:=by
 refine con (L:=[r335,r336]) r325 F325 Λ325 (OwnOK.none _) (by simpa using⟨h335,h336⟩) (by kernel_rfl) (by kernel_rfl) (fun _=>rfl) ?_
 rintro(p:Prob) -
 refine vcOf (let z0:=SV.ptr 0 0 20;let z1:=SV.ptr 1 0 3;let z2:=SV.ptr 2 0 3;let z3:=(↑(nR p):Int);let z4:=SV.si .i64 z3;let z5:=SId.i .i64;let z6:=[SV.row SId.off p.offers];let z7:=SObj.cells (SV.si .i64 p.supply.a0::SV.si .i64 p.supply.a1::SV.si .i64 p.supply.a2::SV.si .i64 p.supply.a3::SV.si .i64 p.supply.a4::SV.si .i64 p.supply.a5::SV.si .i64 p.opn.a0::SV.si .i64 p.opn.a1::SV.si .i64 p.opn.a2::SV.si .i64 p.opn.a3::SV.si .i64 p.opn.a4::SV.si .i64 p.opn.a5::SV.si .i64 p.cls.a0::SV.si .i64 p.cls.a1::SV.si .i64 p.cls.a2::SV.si .i64 p.cls.a3::SV.si .i64 p.cls.a4::SV.si .i64 p.cls.a5::SV.row z5 p.classes::z6) 27 20 false;let z8:=SV.sc (Value.slice none 0 0);let z9:=SObj.cells [z8,z8,z8] 54 3 false;True∧(((z0.same z0∧z1.same z1∧z2.same z2∧(SV.si .i64 (if checkE p=(0:Int) then nrows p else(0:Int))).same z4∧(SV.il .i64 0).same (SV.si .i64 0)∧True)∧z7.same z7∧z9.same z9∧(SObj.cells (SV.ow 4 0 1::SV.ow 3 0 1::z6) 54 3 false).same (SObj.cells (SV.ow 4 (rowsR p 0).length 1::SV.ow 3 (bndR p 0).length 1::z6) 54 3 false)∧(SObj.row z5 [] 3 true).same (SObj.row z5 (bndR p 0) 3 true)∧(SObj.row z5.lst [] 24 false).same (SObj.row z5.lst (rowsR p 0) 24 false)∧True)∧(0:Int)≤(0:Int)∧(0:Int)≤z3)∧∀(x:Int),let z10:=rowsR p x.toNat;let z11:=z10.length+1;let z12:=bndR p x.toNat;let z13:=z12.length+1;let z14:=x+(1:Int);let z15:=SV.si .i64 z14;let z16:=z10++[rowR p x p.offers.length];(0:Int)≤x∧x≤z3→(decide (x<z3)=true→(checkE p=(0:Int)∧(0:Int)≤x∧x<nrows p)∧1=1∧z10.length=z10.length∧z11*24≤140737488355328∧z11≤1000000000000∧1=1∧z12.length=z12.length∧z13*8≤140737488355328∧z13≤1000000000000∧inR .i64 z14∧((z0.same z0∧z1.same z1∧z2.same z2∧z4.same z4∧z15.same z15∧True)∧z7.same z7∧z9.same z9∧(SObj.cells (SV.ow 4 z16.length 1::SV.ow 3 (z12++[boundS p x]).length 1::z6) 54 3 false).same (SObj.cells (SV.ow 4 (rowsR p z14.toNat).length 1::SV.ow 3 (bndR p z14.toNat).length 1::z6) 54 3 false)∧(SObj.row z5 (z12++[boundS p x]) 3 true).same (SObj.row z5 (bndR p z14.toNat) 3 true)∧(SObj.row z5.lst z16 24 false).same (SObj.row z5.lst (rowsR p z14.toNat) 24 false)∧True)∧((0:Int)≤z14∧z14≤z3)∧(z3 - z14).toNat<(z3 - x).toNat)∧(decide (x<z3)=false→z10.length=z10.length∧z12.length=z12.length∧(SV.agg (SV.row z5.lst z10::SV.row z5 z12::z6)).same (SV.agg [SV.row z5.lst (gameR p).rows,SV.row z5 (gameR p).bounds,SV.row SId.off (gameR p).offers]))) (by kernel_rfl) ?_
 simp only[vcs]
 have hn:∀x:Int,0≤x→x<nR p→checkE p=0∧x<nrows p∧nR p≤20:=by
  intro x hx0 hx
  unfold nR at hx ⊢
  split at hx
  ·rename_i hc
   have:=(good_of hc).1
   rw[if_pos hc]
   exact⟨hc,by unfold nrows;omega,by omega⟩
  ·omega
 have e0:(if checkE p=0 then nrows p else 0)=((nR p:Nat):Int):=by
  unfold nR nrows
  split
  ·omega
  ·rfl
 have hcell:∀{a a' b b':Nat} {l:List Off},a=a'→b=b'→(SObj.cells [.ow 4 a 1,.ow 3 b 1,.row .off l] 54 3 false).same (.cells [.ow 4 a' 1,.ow 3 b' 1,.row .off l] 54 3 false):=by rintro _ _ _ _ _ rfl rfl;rfl
 have hrow:∀{x y:List Int},x=y→(SObj.row (.i .i64) x 3 true).same (SObj.row (.i .i64) y 3 true):=by rintro _ _ rfl;rfl
 have hrow2:∀{x y:List (List Int)},x=y→(SObj.row (.lst (.i .i64)) x 24 false).same (SObj.row (.lst (.i .i64)) y 24 false):=by rintro _ _ rfl;rfl
 refine⟨⟨⟨e0,hcell rfl rfl,hrow rfl,hrow2 rfl⟩,by omega,by omega⟩,?_⟩
 rintro i ⟨i0,i1⟩
 refine⟨fun hi=>?_,fun hi=>?_⟩
 ·obtain⟨hc,h1,h2⟩:=hn i i0 hi
  have l1:=@rowsR_len p i.toNat
  have l2:=@bndR_len p i.toNat
  rw[rowsR_succ i0,bndR_succ i0]
  exact⟨⟨hc,i0,h1⟩,by omega,by omega,by omega,by omega,by omega,⟨hcell rfl rfl,hrow rfl,hrow2 rfl⟩,by omega,by omega⟩
 ·rw[show i.toNat=nR p by omega]
  rfl
def GameOk (g:Game):Prop:=(g.rows.length=g.bounds.length∧g.bounds.length≤1000∧g.offers.length≤1000)∧(∀r∈g.rows,r.length=g.offers.length∧∀x∈r,0≤x∧x≤1000)∧∀b∈g.bounds, -1000≤b∧b≤1000
def valOk (g:Game) (c:List Int):Prop:=∀x∈c,0≤(nthD g.offers x.toNat SId.off.dflt).value∧(nthD g.offers x.toNat SId.off.dflt).value≤1000000
def idxOk (g:Game) (c:List Int):Prop:=c.length≤1000∧∀x∈c,0≤x∧x<g.offers.length
def useG (g:Game) (c:List Int) (r:Nat):Int:=(c.map fun x=>nthD (nthD g.rows r []) x.toNat 0).sum
def fitG (g:Game) (c:List Int):Bool:=(List.range g.bounds.length).all fun r=>decide (0≤nthD g.bounds r 0 - useG g c r)
def valG (g:Game) (c:List Int):Int:=(c.map fun x=>(nthD g.offers x.toNat SId.off.dflt).value).sum
theorem sumTk {f:Int→Int} {c:List Int} {i:Int} (h0:0≤i) (h:i<c.length):((c.take (i+1).toNat).map f).sum=((c.take i.toNat).map f).sum+f (nthD c i.toNat 0):=by
 rw[take_nth (d:=0) h0 h,List.map_append,List.sum_append]
 simp
theorem sumBd {f:Int→Int} {c:List Int} {k:Nat} {m:Int} (hm:0≤m) (h:∀x∈c,0≤f x∧f x≤m):0≤((c.take k).map f).sum∧((c.take k).map f).sum≤c.length*m:=by
 induction c generalizing k with
 |nil=>simp
 |cons x c ih=>
  cases k with
  |zero=>simp;exact Int.mul_nonneg (by omega) hm
  |succ k=>
   have h1:=h x (by simp)
   obtain⟨h2,h3⟩:=ih (k:=k) fun y hy=>h y (by simp[hy])
   simp only[List.take_succ_cons,List.map_cons,List.sum_cons,List.length_cons]
   rw[show(((c.length+1:Nat):Int))*m=c.length*m+m by rw[Int.natCast_add,Int.add_mul];simp]
   omega
def r327:SCtr:=⟨32,Game×List Int,.cons codG (.one (codR (.i .i64))),fun a=>GameOk a.1∧idxOk a.1 a.2,fun a=> .sb (fitG a.1 a.2)⟩
def Λ327 (g:Game) (c:List Int):Nat→LoopAnn
 |2=> .inv Int (fun i=>⟨[(1,.row (.i .i64) c),(2,.ptr 0 0 3),(10,.row (.i .i64) g.bounds),(11,.si .i64 g.bounds.length),(12,.si .i64 i)],[.cells [.row (.lst (.i .i64)) g.rows,.row (.i .i64) g.bounds,.row .off g.offers] 54 3 false]⟩)
   (fun s=>iS s 12) (fun i=>(0≤i∧i≤g.bounds.length)∧∀r:Nat,r<i→0≤nthD g.bounds r 0 - useG g c r) (fun i=>(g.bounds.length - i).toNat) fun i k=>match k with
   |5=> .inv (Int×Int) (fun y=>⟨[(1,.row (.i .i64) c),(2,.ptr 0 0 3),(5,.si .i64 i),(6,.si .i64 y.2),(10,.row (.i .i64) g.bounds),(11,.si .i64 g.bounds.length),(12,.si .i64 i),(17,.row (.i .i64) c),(18,.si .i64 c.length),(19,.si .i64 y.1)],[.cells [.row (.lst (.i .i64)) g.rows,.row (.i .i64) g.bounds,.row .off g.offers] 54 3 false]⟩)
     (fun s=>(iS s 19,iS s 6)) (fun y=>(0≤y.1∧y.1≤c.length)∧y.2=nthD g.bounds i.toNat 0 - useG g (c.take y.1.toNat) i.toNat) (fun y=>(c.length - y.1).toNat) fun _ _=> .look
   |_=> .look
 |_=> .look
theorem h327:Holds Try.prog r327:=by
 refine con (L:=[]) r327 F327 (fun a=>Λ327 a.1 a.2) (OwnOK.none _) (by simp) (by kernel_rfl) (by kernel_rfl) (fun _=>rfl) ?_
 rintro⟨g,c⟩ ⟨⟨⟨q1,q2,q3⟩,hr,hb⟩,hcl,hci⟩
 simp only at q1 q2 q3 hr hb hcl hci
 refine vcOf (let z0:=SId.i .i64;let z1:=SV.ptr 0 0 3;let z2:=SV.row z0 g.bounds;let z3:=(↑g.bounds.length:Int);let z4:=(↑g.bounds.length:Int);let z5:=SV.si .i64 z4;let z6:=SObj.cells [SV.row z0.lst g.rows,z2,SV.row SId.off g.offers] 54 3 false;let z7:=(↑c.length:Int);let z8:=SV.si .i64 z7;((((SV.row z0 c).same (SV.row z0 c)∧z1.same z1∧z2.same z2∧(SV.si .i64 z3).same z5∧(SV.il .i64 0).same (SV.si .i64 0)∧True)∧z6.same z6∧True)∧((0:Int)≤(0:Int)∧(0:Int)≤z4)∧∀(r:Nat),(↑r:Int)<(0:Int)→(0:Int)≤nthD g.bounds r (0:Int) - useG g c r)∧∀(x:Int),let z9:=nthD g.bounds x.toNat (0:Int);let z10:=SV.si .i64 z9;let z11:=nthD g.rows x.toNat z0.lst.dflt;let z12:=x+(1:Int);let z13:=SV.si .i64 z12;(((0:Int)≤x∧x≤z4)∧∀(r:Nat),(↑r:Int)<x→(0:Int)≤nthD g.bounds r (0:Int) - useG g c r)→(decide (x<z4)=true→(0:Int)≤x∧x<z3∧x.toNat<g.bounds.length∧((((SV.row z0 c).same (SV.row z0 c)∧z1.same z1∧(SV.si .i64 x).same (SV.si .i64 x)∧z10.same z10∧z2.same z2∧z5.same z5∧(SV.si .i64 x).same (SV.si .i64 x)∧(SV.row z0 c).same (SV.row z0 c)∧(SV.si .i64 (↑c.length:Int)).same z8∧(SV.il .i64 0).same (SV.si .i64 0)∧True)∧z6.same z6∧True)∧((0:Int)≤(0:Int)∧(0:Int)≤z7)∧z9=z9 - useG g [] x.toNat)∧∀(x_1:Int×Int),let z14:=nthD c x_1.fst.toNat (0:Int);let z15:=x_1.snd - nthD z11 z14.toNat (0:Int);let z16:=x_1.fst+(1:Int);let z17:=SV.si .i64 x;let z18:=SV.si .i64 z15;let z19:=SV.si .i64 z16;let z20:=decide (x_1.snd<(0:Int));((0:Int)≤x_1.fst∧x_1.fst≤z7)∧x_1.snd=z9 - useG g (List.take x_1.fst.toNat c) x.toNat→(decide (x_1.fst<z7)=true→(0:Int)≤x_1.fst∧x_1.fst<(↑c.length:Int)∧x_1.fst.toNat<c.length∧(0:Int)≤x∧x<(↑g.rows.length:Int)∧x.toNat<g.rows.length∧(0:Int)≤z14∧z14<(↑z11.length:Int)∧z14.toNat<z11.length∧inR .i64 z15∧inR .i64 z16∧(((SV.row z0 c).same (SV.row z0 c)∧z1.same z1∧z17.same z17∧z18.same z18∧z2.same z2∧z5.same z5∧z17.same z17∧(SV.row z0 c).same (SV.row z0 c)∧z8.same z8∧z19.same z19∧True)∧z6.same z6∧True)∧(((0:Int)≤z16∧z16≤z7)∧z15=z9 - useG g (List.take z16.toNat c) x.toNat)∧(z7 - z16).toNat<(z7 - x_1.fst).toNat)∧(decide (x_1.fst<z7)=false→(z20=true→(SV.bl false).same (SV.sb (fitG g c)))∧(z20=false→inR .i64 z12∧(((SV.row z0 c).same (SV.row z0 c)∧z1.same z1∧z2.same z2∧z5.same z5∧z13.same z13∧True)∧z6.same z6∧True)∧(((0:Int)≤z12∧z12≤z4)∧∀(r:Nat),(↑r:Int)<z12→(0:Int)≤nthD g.bounds r (0:Int) - useG g c r)∧(z4 - z12).toNat<(z4 - x).toNat)))∧(decide (x<z4)=false→(SV.bl true).same (SV.sb (fitG g c)))) (by kernel_rfl) ?_
 simp only[vcs]
 have hd:(SId.i IntKind.i64).lst.dflt=([]:List Int):=rfl
 rw[hd]
 have hrr:∀r:Nat,r<g.rows.length→(nthD g.rows r []).length=g.offers.length∧∀x∈c,0≤nthD (nthD g.rows r []) x.toNat 0∧nthD (nthD g.rows r []) x.toNat 0≤1000:=fun r h=>by
  have:=hr _ (nthD_mem (d:=[]) h)
  refine⟨this.1,fun x hx=>?_⟩
  have h2:=hci x hx
  exact this.2 _ (nthD_mem (by rw[this.1];omega))
 refine⟨⟨by omega,fun r h=>by omega⟩,?_⟩
 rintro i ⟨⟨i0,i1⟩,hdone⟩
 refine⟨fun hi=>⟨i0,hi,by omega,⟨by omega,by simp[useG]⟩,?_⟩,fun hi=>?_⟩
 ·obtain⟨hrl,hrx⟩:=hrr i.toNat (by omega)
  have hbi:=hb _ (nthD_mem (d:=0) (show i.toNat<g.bounds.length by omega))
  rintro⟨j,v⟩ ⟨⟨j0,j1⟩,hv⟩
  simp only at j0 j1 hv ⊢
  refine⟨fun hj=>?_,fun hj=>?_⟩
  ·have hx:=hci _ (nthD_mem (d:=0) (show j.toNat<c.length by omega))
   have hs:useG g (c.take (j+1).toNat) i.toNat=useG g (c.take j.toNat) i.toNat+nthD (nthD g.rows i.toNat []) (nthD c j.toNat 0).toNat 0:=sumTk (f:=fun x=>nthD (nthD g.rows i.toNat []) x.toNat 0) j0 hj
   have hbd:0≤useG g (c.take j.toNat) i.toNat∧useG g (c.take j.toNat) i.toNat≤c.length*1000:=sumBd (f:=fun x=>nthD (nthD g.rows i.toNat []) x.toNat 0) (m:=1000) (by omega) hrx
   have hvx:=hrx _ (nthD_mem (d:=0) (show j.toNat<c.length by omega))
   rw[hs,hrl]
   exact⟨j0,hj,by omega,i0,by omega,by omega,hx.1,hx.2,by omega,by omega,by omega,⟨by omega,by omega⟩,by omega⟩
  ·have hjc:j.toNat=c.length:=by omega
   rw[hjc,List.take_length] at hv
   refine⟨fun hneg=>?_,fun hpos=>⟨by omega,⟨by omega,fun r h=>?_⟩,by omega⟩⟩
   ·symm
    rw[←Bool.not_eq_true,fitG,List.all_eq_true]
    intro h
    have:=of_decide_eq_true (h i.toNat (List.mem_range.2 (by omega)))
    omega
   ·by_cases h2:(r:Int)<i
    ·exact hdone r h2
    ·rw[show r=i.toNat by omega,←hv];omega
 ·symm
  rw[fitG,List.all_eq_true]
  intro r h
  rw[List.mem_range] at h
  exact decide_eq_true (hdone r (by omega))
def r328:SCtr:=⟨33,Game×List Int,.cons codG (.one (codR (.i .i64))),fun a=>GameOk a.1∧idxOk a.1 a.2∧valOk a.1 a.2,fun a=> .si .i64 (valG a.1 a.2)⟩
def Λ328 (g:Game) (c:List Int):Nat→LoopAnn
 |3=> .inv Int (fun i=>⟨[(2,.ptr 0 0 3),(5,.si .i64 (valG g (c.take i.toNat))),(8,.row (.i .i64) c),(9,.si .i64 c.length),(10,.si .i64 i)],[.cells [.row (.lst (.i .i64)) g.rows,.row (.i .i64) g.bounds,.row .off g.offers] 54 3 false]⟩)
   (fun s=>iS s 10) (fun i=>0≤i∧i≤c.length) (fun i=>(c.length - i).toNat) fun _ _=> .look
 |_=> .look
theorem h328:Holds Try.prog r328:=by
 refine con (L:=[]) r328 F328 (fun a=>Λ328 a.1 a.2) (OwnOK.none _) (by simp) (by kernel_rfl) (by kernel_rfl) (fun _=>rfl) ?_
 rintro⟨g,c⟩ ⟨⟨⟨q1,q2,q3⟩,hr,hb⟩,⟨hcl,hci⟩,hvv⟩
 simp only[valOk] at q1 q2 q3 hr hb hcl hci hvv
 refine vcOf (let z0:=SV.ptr 0 0 3;let z1:=SV.il .i64 0;let z2:=SId.i .i64;let z3:=(↑c.length:Int);let z4:=SV.si .i64 z3;let z5:=SObj.cells [SV.row z2.lst g.rows,SV.row z2 g.bounds,SV.row SId.off g.offers] 54 3 false;(((z0.same z0∧z1.same (SV.si .i64 (valG g []))∧(SV.row z2 c).same (SV.row z2 c)∧(SV.si .i64 (↑c.length:Int)).same z4∧z1.same (SV.si .i64 0)∧True)∧z5.same z5∧True)∧(0:Int)≤(0:Int)∧(0:Int)≤z3)∧∀(x:Int),let z6:=nthD c x.toNat (0:Int);let z7:=valG g (List.take x.toNat c);let z8:=z7+(nthD g.offers z6.toNat SId.off.dflt).value;let z9:=x+(1:Int);let z10:=SV.si .i64 z9;(0:Int)≤x∧x≤z3→(decide (x<z3)=true→(0:Int)≤x∧x<(↑c.length:Int)∧x.toNat<c.length∧(0:Int)≤z6∧z6<(↑g.offers.length:Int)∧z6.toNat<g.offers.length∧inR .i64 z8∧inR .i64 z9∧((z0.same z0∧(SV.si .i64 z8).same (SV.si .i64 (valG g (List.take z9.toNat c)))∧(SV.row z2 c).same (SV.row z2 c)∧z4.same z4∧z10.same z10∧True)∧z5.same z5∧True)∧((0:Int)≤z9∧z9≤z3)∧(z3 - z9).toNat<(z3 - x).toNat)∧(decide (x<z3)=false→(SV.si .i64 z7).same (SV.si .i64 (valG g c)))) (by kernel_rfl) ?_
 conv=>zeta
 try simp only[vcs]
 refine⟨⟨by simp[valG],by omega,by omega⟩,?_⟩
 rintro i ⟨i0,i1⟩
 refine⟨fun hi=>?_,fun hi=>?_⟩
 ·have hx:=hci _ (nthD_mem (d:=0) (show i.toNat<c.length by omega))
  have hs:valG g (c.take (i+1).toNat)=valG g (c.take i.toNat)+(nthD g.offers (nthD c i.toNat 0).toNat SId.off.dflt).value:=sumTk (f:=fun x=>(nthD g.offers x.toNat SId.off.dflt).value) i0 hi
  have hbd:0≤valG g (c.take i.toNat)∧valG g (c.take i.toNat)≤c.length*1000000:=sumBd (f:=fun x=>(nthD g.offers x.toNat SId.off.dflt).value) (m:=1000000) (by omega) hvv
  have hv1:=hvv _ (nthD_mem (d:=0) (show i.toNat<c.length by omega))
  rw[hs]
  refine⟨i0,hi,by omega,hx.1,hx.2,by omega,by omega,by omega,by first|trivial|rfl,by omega,by omega⟩
 ·rw[show i.toNat=c.length by omega,List.take_length]
end Go.Vi
