/-
  Plain law: the merge of two parts in place.
  Conditions: none.
-/
import Derived.Test.YtjcmncmajmoiiaaGreatDY06
import Derived.Test.YtjcmncmajmoiiaaGreatDY08
import Derived.Test.YtjcmncmajmoiiaaGreatDY09
import Derived.Test.YtjcmncmajmoiiaaGreatDY10
import Derived.Test.YtjcmncmajmoiiaaGreatProg
import Derived.Shelf.Sort.AssemblyIn
import Derived.Shelf.SlicesE.Clone
import Derived.Shelf.SlicesE.Delete
import Derived.KernelRfl
import Derived.Sort.EveryDepth
import Derived.Sort.OwnSortedInts
import Derived.WalkKit
import Derived.Deep.LoopGhost
import Derived.Lib.Walk
import Derived.Lib.SliceRun
import Derived.Shelf.RegionOpenPlain
import Derived.Test.YtjcmncmajmoiiaaGreatDY07
set_option maxRecDepth 100000
set_option maxHeartbeats 4000000
set_option linter.all false
open Classical renaming not_not->ω
open Go.Vi.AV renaming sc->δh
open Go.Vi.AV.os renaming injEq->εP
open Go.Vi.AV.sl renaming injEq->εc
open Go.Vi.SV renaming si->Ξ,ow->γ8,ptr->γV,row->Ψ,il->γr,agg->γG
open List renaming take_append_drop->γc,drop_drop->γW,append_assoc->γf,length_append->ν,getElem_of_mem->δc,length_take->Ω,length_drop->γJ,getElem_take->εR,getElem_drop->δ7,append_cancel_right->δG,sublist_append_right->ζf,take_of_length_le->γk,mem_of_mem_drop->γK,mem_of_mem_take->γm,mem_append->Γ,pairwise_append->γY,nil_append->δg,take_zero->εT,length_cons->γy,set_append_right->εo,length->γn,length_set->γe,forall_mem_cons->γs,not_mem_nil->γ5,Pairwise->ζu,range->τ,range_succ->δr,mem_map->γg,mem_range->γL,replicate->ε,mergeSort_perm->εC,map_cons->ι,map_nil->γp,getElem?_cons_zero->δp,getElem?_map->δe,getElem?_eq_some_iff->θ,map_append->γb,take->γd,take_length->Δ,all_eq_true->Φ
open List.Pairwise renaming sublist->δY,nil->δB
open List.cons renaming injEq->π
open Nat renaming le_refl->φ,zero_le->εM,lt_of_lt_of_le->γu
open Option renaming map_eq_some_iff->δ
open Option.some renaming injEq->γ
namespace Go.Vi
theorem jw {l:List Int} {a b:Nat} (h1:a<=b):l.drop a=seg l a b++l.drop b:=by
 have:=γc (b - a) (l.drop a);rw[γW,show a+(b - a)=b by omega] at this;exact this.symm
theorem s7 {P Q R:List Int} {a b:Nat} (ha:a=P.length) (hb:b=P.length+Q.length):seg (P++(Q++R)) a b=Q:=by
 subst ha;subst hb;unfold seg;rw[List.drop_left,show P.length+Q.length - P.length=Q.length by omega,List.take_left]
theorem KF {D:Int->Int} {P Q R:List Int} {a b:Nat} (ha:a=P.length) (hb:b=P.length+Q.length):di D (P++(Q++R)) a b=P++(df D Q++R):=by
 have h:=@s7 P Q R a b ha hb;unfold di;rw[h,ha,hb,List.take_left];have:(P++(Q++R)).drop (P.length+Q.length)=R:=by rw[<-γf,<-ν,List.drop_left]
 rw[this];simp
theorem yF {l:List Int} {a b:Nat} {x:Int}:x∈seg l a b↔∃k,a<=k/\k<b/\k<l.length/\bj l k 0=x:=by
 unfold seg;constructor
 ·intro h;obtain⟨j,hj,rfl⟩:=δc h;simp only[Ω,γJ] at hj;refine⟨a+j,by omega,by omega,by omega,?_⟩;rw[εR,δ7,cQ (show a+j<l.length by omega)]
 ·rintro⟨k,h1,h2,h3,rfl⟩;have hj:k - a<((l.drop a).take (b - a)).length:=by simp only[Ω,γJ];omega
  have:((l.drop a).take (b - a))[k - a]=bj l k 0:=by
   rw[εR,δ7,cQ h3];congr 1;omega
  rw[<-this];exact List.getElem_mem hj
theorem adh {D:Int->Int} {l:List Int} {a b:Nat} (h:iK D (seg l a b)) {i j:Nat} (h1:a<=i) (h2:i<j) (h3:j<b) (h4:b<=l.length):gq D (bj l i 0) (bj l j 0)=true:=by
 have hl:=kP (l:=l) (show a<=b by omega) h4;have:=List.pairwise_iff_getElem.1 h (i - a) (j - a) (by omega) (by omega) (by omega);have e1:(seg l a b)[i - a]'(by omega)=bj l i 0:=by
  unfold seg;rw[εR,δ7,cQ (show i<l.length by omega)];congr 1;omega
 have e2:(seg l a b)[j - a]'(by omega)=bj l j 0:=by
  unfold seg;rw[εR,δ7,cQ (show j<l.length by omega)];congr 1;omega
 rwa [e1,e2] at this
theorem Ez {D:Int->Int} {x y:Int} (h:gq D x y=true):D y<=D x:=by rw[pz] at h;omega
theorem adi {D:Int->Int} {x:Int}:gq D x x=true:=pz.2 (by omega)
theorem EA {D:Int->Int} {l:List Int} {a b:Nat} (h:iK D (seg l a b)) {i j:Nat} (h1:a<=i) (h2:i<=j) (h3:j<b) (h4:b<=l.length):gq D (bj l i 0) (bj l j 0)=true:=by
 by_cases hij:i=j;·subst hij;exact adi
 ·exact adh h h1 (by omega) h3 h4
theorem uJ {l:List Int} {a b c d:Nat} (h1:a<=c) (h2:d<=b):(seg l c d).Sublist (seg l a b):=by
 by_cases hcd:c<=d
 ·by_cases hb:d<=l.length
  ·have e:seg l a b=seg l a c++(seg l c d++(seg (l.take b) d b)):=by
    apply δG (bs:=l.drop b);have e1:=jw (l:=l) (show a<=b by omega);have e2:=jw (l:=l) (show a<=c by omega);have e3:=jw (l:=l) hcd;have e4:=jw (l:=l) (show d<=b by omega);have e5:seg (l.take b) d b=seg l d b:=by
     unfold seg;rw[List.drop_take,List.take_take];congr 1;omega
    rw[<-e1,e2,e3,e4,e5];simp
   rw[e];exact(List.sublist_append_left _ _).trans (ζf _ _)
  ·have e:seg l c d=l.drop c:=by unfold seg;exact γk (by rw[γJ];omega)
   have e2:seg l a b=l.drop a:=by unfold seg;exact γk (by rw[γJ];omega)
   rw[e,e2,jw (l:=l) h1];exact ζf _ _
 ·have:seg l c d=[]:=by unfold seg;rw[show d - c=0 by omega];simp
  rw[this];exact List.nil_sublist _
theorem TS {l:List Int} {a m b:Nat} (h1:a<=m) (h2:m<=b) (h3:b<=l.length):(rotR l a m b).length=l.length:=by
 unfold rotR;simp only[ν,Ω,γJ,kP h1 (show m<=l.length by omega),kP h2 h3];omega
theorem KG {l:List Int} {a b:Nat} {x:Int} (h:x∈seg l a b):x∈l:=by
 unfold seg at h;exact γK (γm h)
theorem adj {l:List Int} {a m b:Nat} {x:Int} (h:x∈rotR l a m b):x∈l:=by
 unfold rotR at h;simp only[Γ] at h;rcases h with h|h|h|h;·exact γm h
 ·exact KG h
 ·exact KG h
 ·exact γK h
theorem AW {D:Int->Int} {l:List Int} {a b:Nat} {x:Int} (h:x∈di D l a b):x∈l:=by
 unfold di at h;simp only[Γ] at h;rcases h with(h|h)|h;·exact γm h
 ·exact KG (yA.1 h)
 ·exact γK h
theorem adk {l:List Int} {a m b:Nat} (h1:a<=m) (h2:m<=b) (h3:b<=l.length) (h:a=m\/m=b):rotR l a m b=l:=by
 have:=TN h1 h2 h3;conv=>rhs;rw[this]
 unfold rotR;rcases h with rfl|rfl;·rw[AO];simp
 ·rw[AO];simp
theorem KH {D:Int->Int} {l:List Int} {a b:Nat} (h1:a<=b) (h:iK D (seg l a b)):di D l a b=l:=by
 unfold di;rw[Ku h,γf,<-jw h1,γc]
theorem adl {D:Int->Int} {l:List Int} {a s m e b mid:Nat} (h1:a<=s) (h2:s<=m) (h3:m<=e) (h4:e<=b) (h5:b<=l.length) (hmid:mid=s+(e - m)) (hL:iK D (seg l a m)) (hR:iK D (seg l m b))
  (H1:∀x∈seg l a s,∀y∈seg l e b,gq D x y=true) (H2:∀x∈seg l m e,∀y∈seg l s m,gq D x y=true):
  (seg (rotR l s m e) a s=seg l a s/\seg (rotR l s m e) s mid=seg l m e/\seg (rotR l s m e) a mid=seg l a s++seg l m e)/\
  (seg (di D (rotR l s m e) a mid) mid e=seg l s m/\seg (di D (rotR l s m e) a mid) e b=seg l e b/\seg (di D (rotR l s m e) a mid) mid b=seg l s m++seg l e b)/\
  di D (di D (rotR l s m e) a mid) mid b=di D l a b:=by
 have la:(l.take a).length=a:=by rw[Ω];omega
 have l1:=kP (l:=l) h1 (show s<=l.length by omega);have l2:=kP (l:=l) h2 (show m<=l.length by omega);have l3:=kP (l:=l) h3 (show e<=l.length by omega);have l4:=kP (l:=l) h4 h5;have hsp:l=l.take a++(seg l a s++(seg l s m++(seg l m e++(seg l e b++l.drop b)))):=by
  rw[<-jw h4,<-jw h3,<-jw h2,<-jw h1,γc]
 have hts:l.take s=l.take a++seg l a s:=by
  conv=>lhs;rw[hsp]
  rw[<-γf];exact List.take_left' (by rw[ν,la,l1];omega)
 have adn:rotR l s m e=l.take a++(seg l a s++(seg l m e++(seg l s m++(seg l e b++l.drop b)))):=by
  unfold rotR;rw[hts,jw h4];simp
 have TT:seg l a m=seg l a s++seg l s m:=by
  have:=jw (l:=l) (show a<=m by omega);rw[jw h1,jw h2,<-γf] at this;exact(δG this).symm
 have hRR:seg l m b=seg l m e++seg l e b:=by
  have:=jw (l:=l) (show m<=b by omega);rw[jw h3,jw h4,<-γf] at this;exact(δG this).symm
 have hWh:seg l a b=seg l a s++(seg l s m++(seg l m e++seg l e b)):=by
  have:=jw (l:=l) (show a<=b by omega);rw[jw (show a<=m by omega),jw (show m<=b by omega),<-γf] at this;rw[<-δG this,TT,hRR];simp
 have hsr:di D l a b=l.take a++df D (seg l a b)++l.drop b:=rfl;rw[adn,hsr,hWh];rw[TT,iK,γY] at hL;rw[hRR,iK,γY] at hR;generalize l.take a=A at*;generalize seg l a s=X1 at*;generalize seg l s m=X2 at*;generalize seg l m e=Y1 at*;generalize seg l e b=Y2 at*;generalize l.drop b=Z at*;have hs1:A++(X1++(Y1++(X2++(Y2++Z))))=A++((X1++Y1)++(X2++(Y2++Z))):=by simp
 have g1:di D (A++(X1++(Y1++(X2++(Y2++Z))))) a mid=A++(df D (X1++Y1)++(X2++(Y2++Z))):=by
  rw[hs1];exact KF (by omega) (by rw[ν];omega)
 have hs2:A++(df D (X1++Y1)++(X2++(Y2++Z)))=(A++df D (X1++Y1))++((X2++Y2)++Z):=by simp
 have lS:(df D (X1++Y1)).length=X1.length+Y1.length:=by rw[ox,ν]
 refine⟨⟨s7 (by omega) (by omega),?_,?_⟩,⟨?_,?_,?_⟩,?_⟩
 ·rw[<-γf];exact s7 (by rw[ν];omega) (by rw[ν];omega)
 ·rw[hs1];exact s7 (by omega) (by rw[ν];omega)
 ·rw[g1,<-γf];exact s7 (by rw[ν,lS];omega) (by rw[ν,lS];omega)
 ·rw[g1,<-γf,<-γf];exact s7 (by rw[ν,ν,lS];omega) (by rw[ν,ν,lS];omega)
 ·rw[g1,hs2];exact s7 (by rw[ν,lS];omega) (by rw[ν,ν,lS];omega)
 ·rw[g1,hs2,KF (by rw[ν,lS];omega) (by rw[ν,ν,lS];omega)];have:df D (X1++Y1)++df D (X2++Y2)=df D (X1++(X2++(Y1++Y2))):=by
   refine AL ?_ ?_
   ·refine(List.Perm.append rV rV).trans ?_;rw[γf];refine List.Perm.append_left X1 ?_;rw[<-γf,<-γf];exact List.Perm.append_right Y2 List.perm_append_comm
   ·rw[iK,γY];refine⟨wm,wm,λx hx y hy=>?_⟩;have hx:=yA.1 hx;have hy:=yA.1 hy;rcases Γ.1 hx with hx|hx
    ·rcases Γ.1 hy with hy|hy;·exact hL.2.2 x hx y hy
     ·exact H1 x hx y hy
    ·rcases Γ.1 hy with hy|hy;·exact H2 x hx y hy
     ·exact hR.2.2 x hx y hy
  rw[<-this];simp
theorem ado {A X Y B:List Int} {i j:Nat} (hi:X.length=i) (hj:Y.length=j) (h:j<i) {m:Nat} (hm:A.length+i=m):
  jv (A++(X++(Y++B))) (m - i) m j=(A++Y)++(X.drop j++(X.take j++B)):=by
 have e:A++(X++(Y++B))=A++(X.take j++(X.drop j++(Y++B))):=by
  rw[<-γf (X.take j),γc]
 have lt:(X.take j).length=j:=by rw[Ω];omega
 have ld:(X.drop j).length=i - j:=by rw[γJ];omega
 have hs:=@Kx A (X.take j) (X.drop j) Y B (by omega);rw[lt,ld,show A.length+j+(i - j)=m by omega] at hs;rw[e,show m - i=A.length by omega,hs];simp
theorem adp {A X Y B:List Int} {i j:Nat} (hi:X.length=i) (hj:Y.length=j) (h:i<j) {m:Nat} (hm:A.length+i=m):
  jv (A++(X++(Y++B))) (m - i) (m+j - i) i=A++(Y.drop (j - i)++(Y.take (j - i)++(X++B))):=by
 have e:A++(X++(Y++B))=A++(X++(Y.take (j - i)++(Y.drop (j - i)++B))):=by
  rw[<-γf (Y.take (j - i)),γc]
 have lt:(Y.take (j - i)).length=j - i:=by rw[Ω];omega
 have ld:(Y.drop (j - i)).length=i:=by rw[γJ];omega
 have hs:=@Kx A X (Y.take (j - i)) (Y.drop (j - i)) B (by omega);rw[hi,lt,show A.length+i+(j - i)=m+j - i by omega] at hs;rw[e,show m - i=A.length by omega,hs]
theorem adq {A X Y B:List Int} {i:Nat} (hi:X.length=i) (hj:Y.length=i) {m:Nat} (hm:A.length+i=m):
  jv (A++(X++(Y++B))) (m - i) m i=A++(Y++(X++B)):=by
 have hs:=@Kx A X [] Y B (by omega);simp only[δg,List.length_nil,Nat.add_zero] at hs;rw[hi,hm] at hs;rw[show m - i=A.length by omega,hs]
theorem KI {l:List Int} {a b k:Nat} (h:k<(seg l a b).length):(seg l a b)[k]=bj l (a+k) 0:=by
 have h2:bj (seg l a b) k 0=bj l (a+k) 0:=by
  have h3:k<b - a:=by
   unfold seg at h;rw[Ω] at h;omega
  unfold seg bj;rw[List.getElem?_take,if_pos h3,List.getElem?_drop]
 rwa [cQ h] at h2
def mj (l:List Int) (a b c:Nat):List Int:=l.take a++((seg l (a+1) b).take c++bj l a 0::((seg l (a+1) b).drop c++l.drop b))
theorem adr {l:List Int} {a b:Nat} (h1:a<b) (h2:b<=l.length):mj l a b 0=l:=by
 unfold mj;rw[εT,List.drop_zero,δg,<-jw (by omega),<-Ey (by omega),γc]
theorem ads {l:List Int} {a b c:Nat} (h1:a<b) (h2:b<=l.length):(mj l a b c).length=l.length:=by
 have:=kP (l:=l) (show a+1<=b by omega) h2;unfold mj;simp only[ν,γy,Ω,γJ,this];omega
theorem adt {l:List Int} {a b c:Nat} (h1:a+1+c<b) (h2:b<=l.length):
  bj (mj l a b c) (a+c) 0=bj l a 0/\bj (mj l a b c) (a+c+1) 0=bj l (a+1+c) 0/\((mj l a b c).set (a+c) (bj l (a+1+c) 0)).set (a+c+1) (bj l a 0)=mj l a b (c+1):=by
 have hl:=kP (l:=l) (show a+1<=b by omega) h2;have hc:c<(seg l (a+1) b).length:=by omega
 have hy:(seg l (a+1) b)[c]=bj l (a+1+c) 0:=KI hc;have t1:(seg l (a+1) b).take (c+1)=(seg l (a+1) b).take c++[bj l (a+1+c) 0]:=by rw[List.take_succ_eq_append_getElem hc,hy]
 have t2:(seg l (a+1) b).drop c=bj l (a+1+c) 0::(seg l (a+1) b).drop (c+1):=by rw[List.drop_eq_getElem_cons hc,hy]
 have f1:mj l a b c=(l.take a++(seg l (a+1) b).take c)++bj l a 0::bj l (a+1+c) 0::((seg l (a+1) b).drop (c+1)++l.drop b):=by
  unfold mj;rw[t2];simp
 have f2:mj l a b (c+1)=(l.take a++(seg l (a+1) b).take c)++bj l (a+1+c) 0::bj l a 0::((seg l (a+1) b).drop (c+1)++l.drop b):=by
  unfold mj;rw[t1];simp
 have f3:(l.take a++(seg l (a+1) b).take c).length=a+c:=by
  rw[ν,Ω,Ω];omega
 rw[f1,f2];generalize l.take a++(seg l (a+1) b).take c=A at*;generalize (seg l (a+1) b).drop (c+1)++l.drop b=B at*;generalize bj l a 0=x at*;generalize bj l (a+1+c) 0=y at*;rw[<-f3];refine⟨TF,TG,?_⟩;rw[εo _ _ (by omega),εo _ _ (by omega)];simp
theorem adu {D:Int->Int} {l:List Int} {a b c:Nat} (h1:a+1+c<=b) (h2:b<=l.length) (hT:iK D (seg l (a+1) b)) (h3:∀s∈(seg l (a+1) b).drop c,gq D (bj l a 0) s=true) (h4:c=0\/gq D (bj l (a+c) 0) (bj l a 0)=true):mj l a b c=di D l a b:=by
 have hl:=kP (l:=l) (show a+1<=b by omega) h2;have key:iK D ((seg l (a+1) b).take c++bj l a 0::(seg l (a+1) b).drop c):=by
  refine TJ hT h3 ?_;rcases h4 with rfl|h4;·exact .inl rfl
  ·by_cases hc:c=0;·exact .inl hc
   ·refine .inr ⟨by omega,?_⟩;have:bj (seg l (a+1) b) (c - 1) 0=bj l (a+c) 0:=by
     rw[cQ (show c - 1<(seg l (a+1) b).length by omega),KI];congr 1;omega
    rw[this];exact h4
 have hs:seg l a b=bj l a 0::seg l (a+1) b:=by
  have e1:=jw (l:=l) (show a<=b by omega);rw[Ey (show a<l.length by omega),jw (show a+1<=b by omega),<-List.cons_append] at e1;exact(δG e1).symm
 have hp:((seg l (a+1) b).take c++bj l a 0::(seg l (a+1) b).drop c).Perm (seg l a b):=by
  rw[hs];refine List.perm_middle.trans ?_;rw[γc]
 unfold mj di;rw[<-AL hp key];simp
open Go.Proofs.YtjcmncmajmoiiaaGreat.Ir
open Go.Proofs
def KJ:cZ:=yE 224 3 (Int×Int×Int) wo AS (λ_=>rfl) KA KB (λa=>a.1.1=a.1.2.1.length/\a.1.2.1.length<=1000/\0<=a.2.1/\a.2.1<a.2.2.1/\a.2.2.1<a.2.2.2/\a.2.2.2<=a.1.2.1.length) λa=>rotR a.1.2.1 a.2.1.toNat a.2.2.1.toNat a.2.2.2.toNat
def adv (n:Nat) (l:List Int) (p:bp) (a m b:Int):Nat->cC
 |2=> .inv (Int×Int×List Int) (λx=>⟨[(0,.ow 0 n 1),(2,.si .i64 m),(4,.fn (.func 127) [] [.ptr 1 0 20]),(10,.si .i64 x.1),(11,.si .i64 x.2.1)],[.row (.i .i64) x.2.2 3 true,.cells p.ss 27 20 false]⟩) (λs=>(iS s 10,iS s 11,oS (.i .i64) s 0))
   (λx=>(0<x.1/\0<x.2.1)/\∃A X Y B:List Int,x.2.2=A++(X++(Y++B))/\(A.length:Int)+x.1=m/\(X.length:Int)=x.1/\(Y.length:Int)=x.2.1/\A++(Y++(X++B))=rotR l a.toNat m.toNat b.toNat) (λx=>(x.1+x.2.1).toNat) λ_ _=> .look
 |_=> .look
theorem h351:dJ Tryz.prog KJ:=by
 refine jm (L:=[]) (W:=[KD]) KJ (λa=>adv a.1.1 a.1.2.1 a.1.2.2 a.2.1 a.2.2.1 a.2.2.2) (by simpa using h363) (by simp) ?_;rintro⟨⟨n,l,p⟩,a,m,b⟩ ⟨hn,hl,a0,h1,h2,h3⟩;refine bO (let c:=Ξ .i64;let d:=bW .i64;let e:=(0:Int);let f:=bq.row;let h:=γ8 0 n 1;let j:=SV.fn (Fn.func 127) [] [γV 1 0 20];let t:=c (m - a);let v:=c (b - m);let k:=bn.i .i64;let w:=f k l 3 true;let g:=bq.cells [c p.supply.a0,c p.supply.a1,c p.supply.a2,c p.supply.a3,c p.supply.a4,c p.supply.a5,c p.opn.a0,c p.opn.a1,c p.opn.a2,c p.opn.a3,c p.opn.a4,c p.opn.a5,c p.cls.a0,c p.cls.a1,c p.cls.a2,c p.cls.a3,c p.cls.a4,c p.cls.a5,Ψ k p.classes,Ψ bn.off p.offers] 27 20 false;let q:=rotR l a.toNat m.toNat b.toNat;d (m - a)/\d (b - m)/\(((h.same h/\(c m).same (c m)/\j.same j/\t.same t/\v.same v/\True)/\w.same w/\g.same g/\True)/\(e<m - a/\e<b - m)/\∃(A:List Int),∃(X:List Int),∃(Y:List Int),∃(B:List Int),l=A++(X++(Y++B))/\(↑A.length:Int)+(m - a)=m/\(↑X.length:Int)=m - a/\(↑Y.length:Int)=b - m/\A++(Y++(X++B))=q)/\∀(x:Int×Int×List Int),let o:=x.snd.snd.length;let s:=(m - x.fst).toNat;let y:=(x.fst+x.snd.fst).toNat;let z:=decide (x.fst≠x.snd.fst);let C:=decide (x.snd.fst<x.fst);let r:=x.fst - x.snd.fst;let D:=c r;let E:=c x.snd.fst;let F:=jv x.snd.snd s m.toNat x.snd.fst.toNat;let G:=f k F 3 true;let H:=m+x.snd.fst - x.fst;let N:=λ(u u_1 u_2 u_3 u_4:Int) ↦let I:=c u_3;let J:=jv x.snd.snd s u_1.toNat u.toNat;let K:=f k J 3 true;(n=o/\o<=1000/\e<=m - x.fst/\e<=u/\m - x.fst+u<=u_1/\u_1+u<=(↑o:Int))/\d (u_2 - u)/\((h.same h/\(c m).same (c m)/\j.same j/\I.same I/\(c u_4).same (c u_4)/\True)/\K.same K/\g.same g/\True)/\((e<u_3/\e<u_4)/\∃(A:List Int),∃(X:List Int),∃(Y:List Int),∃(B:List Int),J=A++(X++(Y++B))/\(↑A.length:Int)+u_3=m/\(↑X.length:Int)=u_3/\(↑Y.length:Int)=u_4/\A++(Y++(X++B))=q)/\(u_3+u_4).toNat<y;let L:=λ(u:Int) (u_1:List Int) ↦(e<u/\e<x.snd.fst)/\∃(A:List Int),∃(X:List Int),∃(Y:List Int),∃(B:List Int),u_1=A++(X++(Y++B))/\(↑A.length:Int)+u=m/\(↑X.length:Int)=u/\(↑Y.length:Int)=x.snd.fst/\A++(Y++(X++B))=q;let M:=λ(u:Int) ↦n=o/\o<=1000/\e<=m - x.fst/\e<=u/\m - x.fst+u<=m/\m+u<=(↑o:Int);L x.fst x.snd.snd->(z=true->(C=true->d (m - x.fst)/\M x.snd.fst/\d r/\((h.same h/\(c m).same (c m)/\j.same j/\D.same D/\E.same E/\True)/\G.same G/\g.same g/\True)/\L r F/\(r+x.snd.fst).toNat<y)/\(C=false->d (m - x.fst)/\d (m+x.snd.fst)/\d H/\N x.fst H x.snd.fst x.fst (x.snd.fst - x.fst)))/\(z=false->d (m - x.fst)/\M x.fst/\(SV.bH []).same (SV.bH [])/\(f k (jv x.snd.snd s m.toNat x.fst.toNat) 3 true).same (f k q 3 true)/\g.same g/\True)) (by kernel_rfl) ?_;simp only[vcs];have hn:n=l.length:=hn;have hl:l.length<=1000:=hl;have a0:0<=a:=a0;have h1:a<m:=h1;have h2:m<b:=h2;have h3:b<=l.length:=h3;have la:(l.take a.toNat).length=a.toNat:=by rw[Ω];omega
 have l1:=kP (l:=l) (a:=a.toNat) (b:=m.toNat) (by omega) (by omega);have l2:=kP (l:=l) (a:=m.toNat) (b:=b.toNat) (by omega) (by omega);refine⟨by omega,by omega,⟨⟨by omega,by omega⟩,l.take a.toNat,seg l a.toNat m.toNat,seg l m.toNat b.toNat,l.drop b.toNat,TN (by omega) (by omega) (by omega),by omega,by omega,by omega,rfl⟩,?_⟩;rintro⟨i,j,w⟩ ⟨⟨i0,j0⟩,A,X,Y,B,hw,hA,hX,hY,hf⟩;simp only at i0 j0 hw hA hX hY ⊢;have hfl:=congrArg γn hf;rw[TS (by omega) (by omega) (by omega)] at hfl;simp only[ν] at hfl;have hwl:w.length=l.length:=by rw[hw];simp only[ν];omega
 rw[hwl];refine⟨λhne=>⟨λhgt=>?_,λhle=>?_⟩,λheq=>?_⟩
 ·have hs:=ado (A:=A) (X:=X) (Y:=Y) (B:=B) (i:=i.toNat) (j:=j.toNat) (by omega) (by omega) (by omega) (m:=m.toNat) (by omega);rw[<-hw,show m.toNat - i.toNat=(m - i).toNat by omega] at hs;refine⟨by omega,⟨by omega,by omega,by omega,by omega,by omega,by omega⟩,by omega,⟨⟨by omega,by omega⟩,A++Y,X.drop j.toNat,X.take j.toNat,B,hs,?_,?_,?_,?_⟩,by omega⟩;·rw[ν];omega
  ·rw[γJ];omega
  ·rw[Ω];omega
  ·rw[<-hf];rw[<-γf (X.take j.toNat),γc];simp
 ·have hs:=adp (A:=A) (X:=X) (Y:=Y) (B:=B) (i:=i.toNat) (j:=j.toNat) (by omega) (by omega) (by omega) (m:=m.toNat) (by omega);rw[<-hw,show m.toNat - i.toNat=(m - i).toNat by omega,show m.toNat+j.toNat - i.toNat=(m+j - i).toNat by omega] at hs;refine⟨by omega,by omega,by omega,⟨by omega,by omega,by omega,by omega,by omega,by omega⟩,by omega,⟨⟨by omega,by omega⟩,A,Y.drop (j.toNat - i.toNat),Y.take (j.toNat - i.toNat),X++B,hs,by omega,?_,?_,?_⟩,by omega⟩;·rw[γJ];omega
  ·rw[Ω];omega
  ·rw[<-hf];rw[<-γf (Y.take (j.toNat - i.toNat)),γc]
 ·have hij:i=j:=by omega
  have hs:=adq (A:=A) (X:=X) (Y:=Y) (B:=B) (i:=i.toNat) (by omega) (by omega) (m:=m.toNat) (by omega);rw[<-hw,show m.toNat - i.toNat=(m - i).toNat by omega,hf] at hs;refine⟨?_,⟨?_,?_,?_,?_,?_,?_⟩,s6 hs⟩<;>omega
theorem TU {l:List Int} {a b c:Nat}:(seg l a b).drop c=seg l (a+c) b:=by
 unfold seg;rw[List.drop_take,γW,show b - a - c=b - (a+c) by omega]
abbrev SyA:=Ky×Int×Int×Int
def qf (a:SyA):Prop:=uI a.1/\(0<=a.2.1/\a.2.1<a.2.2.1/\a.2.2.1<a.2.2.2/\a.2.2.2<=a.1.2.1.length)/\iK (bM a.1.2.2) (seg a.1.2.1 a.2.1.toNat a.2.2.1.toNat)/\iK (bM a.1.2.2) (seg a.1.2.1 a.2.2.1.toNat a.2.2.2.toNat)/\
 ∀x∈seg a.1.2.1 a.2.1.toNat a.2.2.1.toNat,∀y∈seg a.1.2.1 a.2.2.1.toNat a.2.2.2.toNat,x<y
def q8 (k:Nat):cZ:=yE 200 3 (Int×Int×Int) wo AS (λ_=>rfl) KA KB (λa=>qf a/\(a.2.2.2 - a.2.1).toNat<k) λa=>di (bM a.1.2.2) a.1.2.1 a.2.1.toNat a.2.2.2.toNat
def AX (k:Nat):List cZ:=[q8 k,KJ,Ew]
def AY (l:List Int) (p:bp):bX:=[.row (.i .i64) l 3 true,.cells p.ss 27 20 false]
def TV (n:Nat) (l:List Int) (p:bp) (a m b:Int):Nat->cC
 |3=> .inv (Int×Int) (λx=>⟨[(0,.ow 0 n 1),(1,.si .i64 a),(4,.fn (.func 127) [] [.ptr 1 0 20]),(10,.si .i64 x.1),(11,.si .i64 x.2)],AY l p⟩) (λs=>(iS s 10,iS s 11))
   (λx=>(m<=x.1/\x.1<=x.2/\x.2<=b)/\(∀k:Nat,m<=k->(k:Int)<x.1->bM p (bj l a.toNat 0)<bM p (bj l k 0))/\∀k:Nat,x.2<=k->(k:Int)<b->¬bM p (bj l a.toNat 0)<bM p (bj l k 0)) (λx=>(x.2 - x.1).toNat) λ_ _=> .look
 |9=> .inv (Int×Int×List Int) (λx=>⟨[(0,.ow 0 n 1),(10,.si .i64 x.2.1),(13,.si .i64 x.1)],AY x.2.2 p⟩) (λs=>(iS s 13,iS s 10,oS (.i .i64) s 0))
   (λx=>(a<=x.1/\x.1<=x.2.1 - 1/\m<=x.2.1/\x.2.1<=b)/\((∀k:Nat,m<=k->(k:Int)<x.2.1->bM p (bj l a.toNat 0)<bM p (bj l k 0))/\∀k:Nat,x.2.1<=k->(k:Int)<b->¬bM p (bj l a.toNat 0)<bM p (bj l k 0))/\x.2.2=mj l a.toNat b.toNat (x.1 - a).toNat) (λx=>(x.2.1 - x.1).toNat) λ_ _=> .look
 |15=> .inv (Int×Int) (λx=>⟨[(0,.ow 0 n 1),(2,.si .i64 m),(4,.fn (.func 127) [] [.ptr 1 0 20]),(14,.si .i64 x.1),(15,.si .i64 x.2)],AY l p⟩) (λs=>(iS s 14,iS s 15))
   (λx=>(a<=x.1/\x.1<=x.2/\x.2<=m)/\(∀k:Nat,a<=k->(k:Int)<x.1->¬bM p (bj l k 0)<bM p (bj l m.toNat 0))/\∀k:Nat,x.2<=k->(k:Int)<m->bM p (bj l k 0)<bM p (bj l m.toNat 0)) (λx=>(x.2 - x.1).toNat) λ_ _=> .look
 |21=> .inv (Int×Int×List Int) (λx=>⟨[(0,.ow 0 n 1),(14,.si .i64 x.2.1),(17,.si .i64 x.1)],AY x.2.2 p⟩) (λs=>(iS s 17,iS s 14,oS (.i .i64) s 0))
   (λx=>(x.2.1<=x.1/\x.1<=m/\a<=x.2.1)/\((∀k:Nat,a<=k->(k:Int)<x.2.1->¬bM p (bj l k 0)<bM p (bj l m.toNat 0))/\∀k:Nat,x.2.1<=k->(k:Int)<m->bM p (bj l k 0)<bM p (bj l m.toNat 0))/\x.2.2=ju (bM p) l a.toNat m.toNat x.1.toNat) (λx=>(x.1 - x.2.1).toNat) λ_ _=> .look
 |33=> .inv (Int×Int) (λx=>⟨[(0,.ow 0 n 1),(1,.si .i64 a),(2,.si .i64 m),(3,.si .i64 b),(4,.fn (.func 127) [] [.ptr 1 0 20]),(18,.si .i64 ((a+b) / 2^1)),(19,.si .i64 ((a+b) / 2^1+m)),(20,.si .i64 x.1),(21,.si .i64 x.2),(22,.si .i64 ((a+b) / 2^1+m - 1))],AY l p⟩) (λs=>(iS s 20,iS s 21))
   (λx=>((if(a+b) / 2<m then(a+b) / 2+m - b else a)<=x.1/\x.1<=x.2/\x.2<=(if(a+b) / 2<m then(a+b) / 2 else m))/\(∀k:Nat,(if(a+b) / 2<m then(a+b) / 2+m - b else a)<=k->(k:Int)<x.1->¬bM p (bj l k 0)<bM p (bj l ((a+b) / 2+m - 1 - k).toNat 0))/\
    ∀k:Nat,x.2<=k->(k:Int)<(if(a+b) / 2<m then(a+b) / 2 else m)->bM p (bj l k 0)<bM p (bj l ((a+b) / 2+m - 1 - k).toNat 0)) (λx=>(x.2 - x.1).toNat) λ_ _=> .look
 |_=> .look
def EB (D:Int->Int) (n k:Nat) (l V:List Int) (p:bp) (a b mid e:Int):Prop:=
 (mid<e->(e<b->(qf ((n,V,p),mid,e,b)/\(b - mid).toNat<k)/\(bq.row (bn.i IntKind.i64) (di D V mid.toNat b.toNat) 3 true).same (bq.row (bn.i IntKind.i64) (di D l a.toNat b.toNat) 3 true))/\
  (¬e<b->(bq.row (bn.i IntKind.i64) V 3 true).same (bq.row (bn.i IntKind.i64) (di D l a.toNat b.toNat) 3 true)))/\(¬mid<e->(bq.row (bn.i IntKind.i64) V 3 true).same (bq.row (bn.i IntKind.i64) (di D l a.toNat b.toNat) 3 true))
def EC (D:Int->Int) (n k:Nat) (l W:List Int) (p:bp) (a b mid e s:Int):Prop:=
 (a<s->(s<mid->(qf ((n,W,p),a,s,mid)/\(mid - a).toNat<k)/\EB D n k l (di D W a.toNat mid.toNat) p a b mid e)/\(¬s<mid->EB D n k l W p a b mid e))/\(¬a<s->EB D n k l W p a b mid e)
def TW (D:Int->Int) (n k:Nat) (l:List Int) (p:bp) (a m b mid s:Int):Prop:=
 (-9223372036854775808<=mid+m - s/\mid+m - s<=9223372036854775807)/\
 (s<m->(m<mid+m - s->(n=l.length/\l.length<=1000/\0<=s/\s<m/\m<mid+m - s/\mid+m - s<=l.length)/\EC D n k l (rotR l s.toNat m.toNat (mid+m - s).toNat) p a b mid (mid+m - s) s)/\
  (¬m<mid+m - s->EC D n k l l p a b mid (mid+m - s) s))/\(¬s<m->EC D n k l l p a b mid (mid+m - s) s)
theorem adx {D:Int->Int} {n k:Nat} {l:List Int} {p:bp} {a m b mid s:Int} (hD:bM p=D) (E:bC p=0) (I:n=l.length) (L:l.length<=1000) (K:∀x∈l,iz p x) (a0:0<=a) (a1:a<=s) (s1:s<=m) (sm:s<=mid) (am:a<mid) (mb:mid<b)
  (Q:m<=mid+m - s) (Y:mid+m - s<=b) (X:b<=l.length) (q:iK D (seg l a.toNat m.toNat)) (r:iK D (seg l m.toNat b.toNat)) (w:∀x∈seg l a.toNat m.toNat,∀y∈seg l m.toNat b.toNat,x<y)
  (J:∀x y,x∈seg l a.toNat s.toNat->y∈seg l (mid+m - s).toNat b.toNat->gq D x y=true) (M:∀x y,x∈seg l m.toNat (mid+m - s).toNat->y∈seg l s.toNat m.toNat->gq D x y=true) (V:(b - a).toNat<k+1):
  TW D n k l p a m b mid s:=by
 generalize U:mid+m - s=e at*;obtain⟨⟨G,N,W⟩,⟨O,F,y3⟩,i⟩:=@adl D l a.toNat s.toNat m.toNat e.toNat b.toNat mid.toNat (by omega) (by omega) (by omega) (by omega) (by omega) (by omega) q r (λx h y g=>J x y h g) (λx h y g=>M x y h g);have rl:(rotR l s.toNat m.toNat e.toNat).length=l.length:=TS (by omega) (by omega) (by omega);have t:∀x∈rotR l s.toNat m.toNat e.toNat,iz p x:=λx h=>K x (adj h);have r0:(¬s<m\/¬m<e)->rotR l s.toNat m.toNat e.toNat=l:=λh=>adk (by omega) (by omega) (by omega) (by omega);generalize H:rotR l s.toNat m.toNat e.toNat=R at*;have S:(di D R a.toNat mid.toNat).length=R.length:=yB (by omega) (by omega);have P:∀x∈di D R a.toNat mid.toNat,iz p x:=λx h=>t x (AW h);have A:iK D (seg l a.toNat s.toNat):=δY (uJ (by omega) (by omega)) q;have B:iK D (seg l s.toNat m.toNat):=δY (uJ (by omega) (by omega)) q;have u:iK D (seg l m.toNat e.toNat):=δY (uJ (by omega) (by omega)) r;have f:iK D (seg l e.toNat b.toNat):=δY (uJ (by omega) (by omega)) r;have v:(¬a<s\/¬s<mid)->di D R a.toNat mid.toNat=R:=by
  intro h;refine KH (by omega) ?_;grind
 generalize Z:di D R a.toNat mid.toNat=T at*;have z:(¬mid<e\/¬e<b)->di D T mid.toNat b.toNat=T:=by
  intro h;refine KH (by omega) ?_;rcases h with h|h;·rw[show mid.toNat=e.toNat by omega,F];exact f
  grind
 have C:EB D n k l T p a b mid e:=by
  refine⟨λc=>⟨λd=>⟨⟨⟨⟨⟨E,by simp_all⟩,by simp_all,P⟩,⟨by grind,c,d,by simp_all⟩,?_,?_,?_⟩,by omega⟩,s6 i⟩,λd=>s6 ((z (.inr d)).symm.trans i)⟩,λc=>s6 ((z (.inl c)).symm.trans i)⟩;·simp_all
  ·simp_all
  ·simp only[O,F];exact λx j y o=>w x ((uJ (by omega) (by omega)).subset j) y ((uJ (by omega) (by omega)).subset o)
 have hW:EC D n k l R p a b mid e s:=by
  refine⟨λc=>⟨λd=>⟨⟨⟨⟨⟨E,by simp_all⟩,by simp_all,t⟩,⟨by omega,c,d,by grind⟩,?_,?_,?_⟩,by omega⟩,by simp_all⟩,λd=>v (.inr d)▸C⟩,λc=>v (.inl c)▸C⟩;·simp_all
  ·simp_all
  ·simp only[G,N];exact λx j y o=>w x ((uJ (by omega) (by omega)).subset j) y ((uJ (by omega) (by omega)).subset o)
 refine⟨by omega,λc=>⟨λd=>⟨⟨I,L,by omega,c,by omega,by omega⟩,by simp_all⟩,λd=>?_⟩,λc=>?_⟩;all_goals simp_all
theorem ady (k n:Nat) (l:List Int) (p:bp) (a m b:Int) (hd:qf ((n,l,p),a,m,b)) (hk:(b - a).toNat<k+1):
  Vc (vy (lT [] (fQ (AX k)) oY oZ gy) (TV n l p a m b) (fG 200) ((q8 (k+1)).put ((n,l,p),a,m,b)) ((q8 (k+1)).st ((n,l,p),a,m,b)) λv t=>v.same ((q8 (k+1)).res ((n,l,p),a,m,b))/\jk t ((q8 (k+1)).out ((n,l,p),a,m,b))):=by
 obtain⟨⟨⟨hc,hn⟩,hl,ho⟩,⟨a0,a1,a2,a3⟩,hL,hR,hx⟩:=hd;simp only at hc hn hl ho a0 a1 a2 a3 hL hR hx;refine bO (let c:=Ξ .i64;let d:=(0:Int);let e:=bW .i64;let f:=SV.bH;let g:=(1:Int);let h:=bq.row;let j:=(64:Int);let o:=(2:Int);let r:=(a+b) / o;let v:=r+m;let L:=if r<m then v - b else a;let M:=if r<m then r else m;let z:=v - g;let N:=(↑l.length:Int);let s:=γ8 0 n 1;let G:=SV.fn (Fn.func 127) [] [γV 1 0 20];let W:=c r;let X:=c v;let Y:=c z;let t:=bn.i .i64;let O:=h t l 3 true;let q:=bq.cells [c p.supply.a0,c p.supply.a1,c p.supply.a2,c p.supply.a3,c p.supply.a4,c p.supply.a5,c p.opn.a0,c p.opn.a1,c p.opn.a2,c p.opn.a3,c p.opn.a4,c p.opn.a5,c p.cls.a0,c p.cls.a1,c p.cls.a2,c p.cls.a3,c p.cls.a4,c p.cls.a5,Ψ t p.classes,Ψ bn.off p.offers] 27 20 false;let P:=r.toNat;let w:=h t (di (bM p) l a.toNat b.toNat) 3 true;let Z:=di (bM p) l a.toNat P;let ad:=decide (m - a=g);let B:=bj l a.toNat d;let ae:=decide (b - m=g);let y:=bj l m.toNat d;let aT:=∀(x:Int×Int),let H:=decide (r<v - x.fst);let I:=decide (v - x.fst<b);let a6:=(r,v - x.fst,b);let Q:=rotR l x.fst.toNat m.toNat (v - x.fst).toNat;let a9:=x.fst+x.snd;let A:=a9 / o;let af:=bj l (z - A).toNat d;let ag:=bj l A.toNat d;let ah:=decide (x.fst<x.snd);let ai:=decide (m<v - x.fst);let a7:=di (bM p) Q a.toNat P;let aj:=let ak:=(H=true->(I=true->(qf ((n,l,p),a6)/\(b - r).toNat<k)/\(f []).same (f [])/\(h t (di (bM p) l P b.toNat) 3 true).same w/\q.same q/\True)/\(I=false->(f []).same (f [])/\O.same w/\q.same q/\True))/\(H=false->(f []).same (f [])/\O.same w/\q.same q/\True);(decide (a<x.fst)=true->(decide (x.fst<r)=true->(qf ((n,l,p),a,x.fst,r)/\(r - a).toNat<k)/\(H=true->(I=true->(qf ((n,Z,p),a6)/\(b - r).toNat<k)/\(f []).same (f [])/\(h t (di (bM p) Z P b.toNat) 3 true).same w/\q.same q/\True)/\(I=false->(f []).same (f [])/\(h t Z 3 true).same w/\q.same q/\True))/\(H=false->(f []).same (f [])/\(h t Z 3 true).same w/\q.same q/\True))/\(decide (x.fst<r)=false->ak))/\(decide (a<x.fst)=false->ak);let al:=(H=true->(I=true->(qf ((n,Q,p),a6)/\(b - r).toNat<k)/\(f []).same (f [])/\(h t (di (bM p) Q P b.toNat) 3 true).same w/\q.same q/\True)/\(I=false->(f []).same (f [])/\(h t Q 3 true).same w/\q.same q/\True))/\(H=false->(f []).same (f [])/\(h t Q 3 true).same w/\q.same q/\True);let am:=λ(u u_1:Int) ↦let an:=c u;((s.same s/\(c a).same (c a)/\(c m).same (c m)/\(c b).same (c b)/\G.same G/\W.same W/\X.same X/\an.same an/\(c u_1).same (c u_1)/\Y.same Y/\True)/\O.same O/\q.same q/\True)/\((L<=u/\u<=u_1/\u_1<=M)/\(∀(k:Nat),L<=(↑k:Int)->(↑k:Int)<u->bM p (bj l k d)<bM p (bj l (z - (↑k:Int)).toNat d)->False)/\∀(k:Nat),u_1<=(↑k:Int)->(↑k:Int)<M->bM p (bj l k d)<bM p (bj l (z - (↑k:Int)).toNat d))/\(u_1 - u).toNat<(x.snd - x.fst).toNat;let ao:=λ(u:Bool) ↦(!decide (sZ p af ag<d))=u;((L<=x.fst/\x.fst<=x.snd/\x.snd<=M)/\(∀(k:Nat),L<=(↑k:Int)->(↑k:Int)<x.fst->bM p (bj l k d)<bM p (bj l (z - (↑k:Int)).toNat d)->False)/\∀(k:Nat),x.snd<=(↑k:Int)->(↑k:Int)<M->bM p (bj l k d)<bM p (bj l (z - (↑k:Int)).toNat d))->(ah=true->e a9/\bW .u64 a9/\d<=g/\g<=j/\e A/\e (z - A)/\n=l.length/\d<=z - A/\z - A<N/\n=l.length/\(z - A).toNat<l.length/\n=l.length/\d<=A/\A<N/\n=l.length/\A.toNat<l.length/\(bC p=d/\iz p af/\iz p ag)/\(ao true->e (A+g)/\am (A+g) x.snd)/\(ao false->am x.fst A))/\(ah=false->e (v - x.fst)/\(decide (x.fst<m)=true->(ai=true->(n=l.length/\l.length<=1000/\d<=x.fst/\x.fst<m/\m<v - x.fst/\v - x.fst<=(↑l.length:Int))/\(decide (a<x.fst)=true->(decide (x.fst<r)=true->(qf ((n,Q,p),a,x.fst,r)/\(r - a).toNat<k)/\(H=true->(I=true->(qf ((n,a7,p),a6)/\(b - r).toNat<k)/\(f []).same (f [])/\(h t (di (bM p) a7 P b.toNat) 3 true).same w/\q.same q/\True)/\(I=false->(f []).same (f [])/\(h t a7 3 true).same w/\q.same q/\True))/\(H=false->(f []).same (f [])/\(h t a7 3 true).same w/\q.same q/\True))/\(decide (x.fst<r)=false->al))/\(decide (a<x.fst)=false->al))/\(ai=false->aj))/\(decide (x.fst<m)=false->aj));let R:=O.same O/\q.same q/\True;let ap:=λ(u u_1:Int) ↦let aq:=c u;e z/\(((s.same s/\(c a).same (c a)/\(c m).same (c m)/\(c b).same (c b)/\G.same G/\W.same W/\X.same X/\aq.same aq/\(c u_1).same (c u_1)/\Y.same Y/\True)/\R)/\(L<=u/\u<=u_1/\u_1<=M)/\(∀(k:Nat),L<=(↑k:Int)->(↑k:Int)<u->bM p (bj l k d)<bM p (bj l (z - (↑k:Int)).toNat d)->False)/\∀(k:Nat),u_1<=(↑k:Int)->(↑k:Int)<M->bM p (bj l k d)<bM p (bj l (z - (↑k:Int)).toNat d))/\aT;let ar:=λ(u u_1 u_2:Int) ↦let au:=c u;let av:=c u_1;(s.same s/\au.same au/\G.same G/\av.same av/\(c u_2).same (c u_2)/\True)/\R;e (m - a)/\(ad=true->(ar a m b/\(m<=m/\m<=b/\b<=b)/\(∀(k:Nat),m<=(↑k:Int)->(↑k:Int)<m->bM p B<bM p (bj l k d))/\∀(k:Nat),b<=(↑k:Int)->(↑k:Int)<b->bM p B<bM p (bj l k d)->False)/\∀(x:Int×Int),let aa:=x.fst+x.snd;let J:=aa / o;let aw:=bj l J.toNat d;let ax:=decide (x.fst<x.snd);let ay:=c x.fst;let az:=λ(u u_1:Int) ↦let aA:=c u;((s.same s/\(c a).same (c a)/\G.same G/\aA.same aA/\(c u_1).same (c u_1)/\True)/\R)/\((m<=u/\u<=u_1/\u_1<=b)/\(∀(k:Nat),m<=(↑k:Int)->(↑k:Int)<u->bM p B<bM p (bj l k d))/\∀(k:Nat),u_1<=(↑k:Int)->(↑k:Int)<b->bM p B<bM p (bj l k d)->False)/\(u_1 - u).toNat<(x.snd - x.fst).toNat;let aB:=λ(u:Bool) ↦decide (sZ p aw B<d)=u;((m<=x.fst/\x.fst<=x.snd/\x.snd<=b)/\(∀(k:Nat),m<=(↑k:Int)->(↑k:Int)<x.fst->bM p B<bM p (bj l k d))/\∀(k:Nat),x.snd<=(↑k:Int)->(↑k:Int)<b->bM p B<bM p (bj l k d)->False)->(ax=true->e aa/\bW .u64 aa/\d<=g/\g<=j/\e J/\n=l.length/\d<=J/\J<N/\n=l.length/\J.toNat<l.length/\n=l.length/\d<=a/\a<N/\n=l.length/\a.toNat<l.length/\(bC p=d/\iz p aw/\iz p B)/\(aB true->e (J+g)/\az (J+g) x.snd)/\(aB false->az x.fst J))/\(ax=false->(((s.same s/\ay.same ay/\(c a).same (c a)/\True)/\R)/\(a<=a/\a<=x.fst - g/\m<=x.fst/\x.fst<=b)/\((∀(k:Nat),m<=(↑k:Int)->(↑k:Int)<x.fst->bM p B<bM p (bj l k d))/\∀(k:Nat),x.fst<=(↑k:Int)->(↑k:Int)<b->bM p B<bM p (bj l k d)->False)/\l=mj l a.toNat b.toNat (a - a).toNat)/\∀(x:Int×Int×List Int),let ab:=x.snd.fst - g;let aC:=decide (x.fst<ab);let F:=x.fst+g;let C:=x.snd.snd.length;let a8:=F.toNat;let S:=x.snd.snd.set x.fst.toNat (bj x.snd.snd a8 d);let aD:=c x.snd.fst;let aE:=c F;let aF:=S.set a8 (bj x.snd.snd x.fst.toNat d);let aG:=h t aF 3 true;let aH:=λ(u:Int) (u_1:List Int) ↦(a<=u/\u<=ab/\m<=x.snd.fst/\x.snd.fst<=b)/\((∀(k:Nat),m<=(↑k:Int)->(↑k:Int)<x.snd.fst->bM p B<bM p (bj l k d))/\∀(k:Nat),x.snd.fst<=(↑k:Int)->(↑k:Int)<b->bM p B<bM p (bj l k d)->False)/\u_1=mj l a.toNat b.toNat (u - a).toNat;aH x.fst x.snd.snd->e ab/\(aC=true->e F/\e F/\n=C/\d<=F/\F<(↑C:Int)/\n=C/\a8<C/\n=C/\d<=x.fst/\x.fst<(↑C:Int)/\n=C/\x.fst.toNat<C/\n=C/\d<=x.fst/\x.fst<(↑C:Int)/\n=C/\x.fst.toNat<C/\n=S.length/\d<=F/\F<(↑S.length:Int)/\n=S.length/\a8<S.length/\e F/\((s.same s/\aD.same aD/\aE.same aE/\True)/\aG.same aG/\q.same q/\True)/\aH F aF/\(x.snd.fst - F).toNat<(x.snd.fst - x.fst).toNat)/\(aC=false->(f []).same (f [])/\(h t x.snd.snd 3 true).same w/\q.same q/\True)))/\(ad=false->e (b - m)/\(ae=true->(ar m a m/\(a<=a/\a<=m/\m<=m)/\(∀(k:Nat),a<=(↑k:Int)->(↑k:Int)<a->bM p (bj l k d)<bM p y->False)/\∀(k:Nat),m<=(↑k:Int)->(↑k:Int)<m->bM p (bj l k d)<bM p y)/\∀(x:Int×Int),let ac:=x.fst+x.snd;let K:=ac / o;let aI:=bj l K.toNat d;let aJ:=decide (x.fst<x.snd);let aK:=c x.fst;let aL:=λ(u u_1:Int) ↦let aM:=c u;((s.same s/\(c m).same (c m)/\G.same G/\aM.same aM/\(c u_1).same (c u_1)/\True)/\R)/\((a<=u/\u<=u_1/\u_1<=m)/\(∀(k:Nat),a<=(↑k:Int)->(↑k:Int)<u->bM p (bj l k d)<bM p y->False)/\∀(k:Nat),u_1<=(↑k:Int)->(↑k:Int)<m->bM p (bj l k d)<bM p y)/\(u_1 - u).toNat<(x.snd - x.fst).toNat;let aN:=λ(u:Bool) ↦(!decide (sZ p y aI<d))=u;((a<=x.fst/\x.fst<=x.snd/\x.snd<=m)/\(∀(k:Nat),a<=(↑k:Int)->(↑k:Int)<x.fst->bM p (bj l k d)<bM p y->False)/\∀(k:Nat),x.snd<=(↑k:Int)->(↑k:Int)<m->bM p (bj l k d)<bM p y)->(aJ=true->e ac/\bW .u64 ac/\d<=g/\g<=j/\e K/\n=l.length/\d<=m/\m<N/\n=l.length/\m.toNat<l.length/\n=l.length/\d<=K/\K<N/\n=l.length/\K.toNat<l.length/\(bC p=d/\iz p y/\iz p aI)/\(aN true->e (K+g)/\aL (K+g) x.snd)/\(aN false->aL x.fst K))/\(aJ=false->(((s.same s/\aK.same aK/\(c m).same (c m)/\True)/\R)/\(x.fst<=m/\m<=m/\a<=x.fst)/\((∀(k:Nat),a<=(↑k:Int)->(↑k:Int)<x.fst->bM p (bj l k d)<bM p y->False)/\∀(k:Nat),x.fst<=(↑k:Int)->(↑k:Int)<m->bM p (bj l k d)<bM p y)/\l=ju (bM p) l a.toNat m.toNat m.toNat)/\∀(x:Int×Int×List Int),let T:=x.fst.toNat;let aO:=decide (x.snd.fst<x.fst);let D:=x.fst - g;let E:=x.snd.snd.length;let U:=D.toNat;let V:=x.snd.snd.set T (bj x.snd.snd U d);let aP:=c x.snd.fst;let aQ:=c D;let aR:=V.set U (bj x.snd.snd T d);let aS:=h t aR 3 true;(x.snd.fst<=x.fst/\x.fst<=m/\a<=x.snd.fst)/\((∀(k:Nat),a<=(↑k:Int)->(↑k:Int)<x.snd.fst->bM p (bj l k d)<bM p y->False)/\∀(k:Nat),x.snd.fst<=(↑k:Int)->(↑k:Int)<m->bM p (bj l k d)<bM p y)/\x.snd.snd=ju (bM p) l a.toNat m.toNat T->(aO=true->e D/\e D/\n=E/\d<=D/\D<(↑E:Int)/\n=E/\U<E/\n=E/\d<=x.fst/\x.fst<(↑E:Int)/\n=E/\T<E/\n=E/\d<=x.fst/\x.fst<(↑E:Int)/\n=E/\T<E/\n=V.length/\d<=D/\D<(↑V.length:Int)/\n=V.length/\U<V.length/\e D/\((s.same s/\aP.same aP/\aQ.same aQ/\True)/\aS.same aS/\q.same q/\True)/\((x.snd.fst<=D/\D<=m/\a<=x.snd.fst)/\((∀(k:Nat),a<=(↑k:Int)->(↑k:Int)<x.snd.fst->bM p (bj l k d)<bM p y->False)/\∀(k:Nat),x.snd.fst<=(↑k:Int)->(↑k:Int)<m->bM p (bj l k d)<bM p y)/\aR=ju (bM p) l a.toNat m.toNat U)/\(D - x.snd.fst).toNat<(x.fst - x.snd.fst).toNat)/\(aO=false->(f []).same (f [])/\(h t x.snd.snd 3 true).same w/\q.same q/\True)))/\(ae=false->e (a+b)/\bW .u64 (a+b)/\d<=g/\g<=j/\e r/\e v/\(decide (r<m)=true->e (v - b)/\ap (v - b) r)/\(decide (r<m)=false->ap a m)))) (by kernel_rfl) ?_;simp only[vcs];have hV:∀k:Nat,k<l.length->iz p (bj l k 0):=λk hk=>ho _ (cO hk);have hcmp:∀i j:Nat,i<l.length->j<l.length->(sZ p (bj l i 0) (bj l j 0)<0↔bM p (bj l j 0)<bM p (bj l i 0)):=λi j hi hj=>TB hc (hV i hi) (hV j hj);have hxi:∀i j:Nat,a<=i->(i:Int)<m->m<=j->(j:Int)<b->bj l i 0<bj l j 0:=λi j h1 h2 h3 h4=>hx _ (yF.2 ⟨i,by omega,by omega,by omega,rfl⟩) _ (yF.2 ⟨j,by omega,by omega,by omega,rfl⟩);have u64:∀{v:Int},0<=v->v<=100000->bW .u64 v:=λh1 h2=>u64_in h1 (by omega);generalize hD:bM p=D at*;refine⟨by omega,λh1=>?_,λh1=>⟨by omega,λh2=>?_,λh2=>?_⟩⟩
 ·have hm:m=a+1:=by omega
  have mono:∀i j:Nat,m<=i->i<=j->(j:Int)<b->D (bj l j 0)<=D (bj l i 0):=λi j q1 q2 q3=>Ez (EA hR (by omega) q2 (by omega) (by omega));refine⟨⟨⟨by omega,by omega,by omega⟩,λk q1 q2=>by omega,λk q1 q2=>by omega⟩,?_⟩;rintro⟨i,j⟩ ⟨⟨i0,i1,i2⟩,q1,q2⟩;simp only at i0 i1 i2 q1 q2 ⊢;refine⟨λhij=>?_,λhij=>⟨⟨⟨by omega,by omega,by omega,by omega⟩,⟨q1,λk w1 w2=>q2 k (by omega) w2⟩,?_⟩,?_⟩⟩
  ·rw[hcmp _ _ (by omega) (by omega)];generalize hh:(i+j) / 2=h;have TX:i<=h/\h<j:=by omega
   refine⟨by omega,u64 (by omega) (by omega),by omega,by omega,by omega,by omega,by omega,by omega,by omega,by omega,by omega,by omega,by omega,by omega,by omega,⟨hc,hV _ (by omega),hV _ (by omega)⟩,λhlt=>⟨by omega,⟨⟨by omega,by omega,by omega⟩,λk w1 w2=>?_,λk w1 w2=>q2 k w1 w2⟩,by omega⟩,λhge=>⟨⟨⟨by omega,by omega,by omega⟩,λk w1 w2=>q1 k w1 w2,λk w1 w2=>?_⟩,by omega⟩⟩
   ·have:=mono k h.toNat (by omega) (by omega) (by omega);omega
   ·have:=mono h.toNat k (by omega) (by omega) (by omega);omega
  ·rw[show(a - a).toNat=0 by omega,adr (by omega) (by omega)]
  ·rintro⟨k,i',w⟩ ⟨⟨k0,k1,k2,k3⟩,⟨q1,q2⟩,hw⟩;simp only at k0 k1 k2 k3 q1 q2 hw ⊢;have hwl:w.length=l.length:=by rw[hw,ads (by omega) (by omega)]
   refine⟨by omega,λhk=>?_,λhk=>?_⟩
   ·obtain⟨e1,e2,e3⟩:=@adt l a.toNat b.toNat (k - a).toNat (by omega) (by omega);rw[<-hw] at e1 e2 e3;rw[show a.toNat+(k - a).toNat=k.toNat by omega] at e1 e2 e3;rw[show k.toNat+1=(k+1).toNat by omega] at e2 e3;rw[show(k - a).toNat+1=(k+1 - a).toNat by omega] at e3;rw[e1,e2,e3];simp only[γe,hwl];refine⟨by omega,by omega,by omega,by omega,by omega,by omega,by omega,by omega,by omega,by omega,by omega,by omega,by omega,by omega,by omega,by omega,by omega,by omega,by omega,by omega,by omega,by omega,by omega,⟨⟨by omega,by omega,by omega,by omega⟩,⟨q1,q2⟩,trivial⟩,by omega⟩
   ·have hki:k=i' - 1:=by omega
    refine s6 ?_;rw[hw];refine adu (by omega) (by omega) (by rw[show a.toNat+1=m.toNat by omega];exact hR) ?_ ?_
    ·intro s hs;rw[TU,yF] at hs;obtain⟨k',w1,w2,w3,rfl⟩:=hs;have h9:¬D (bj l a.toNat 0)<D (bj l k' 0):=q2 k' (by omega) (by omega);have:=hxi a.toNat k' (by omega) (by omega) (by omega) (by omega);exact pz.2 (by omega)
    ·by_cases hka:k=a;·exact .inl (by omega)
     ·refine .inr (pz.2 (.inl ?_));rw[show a.toNat+(k - a).toNat=k.toNat by omega];exact q1 k.toNat (by omega) (by omega)
 ·have hb:b=m+1:=by omega
  have mono:∀i j:Nat,a<=i->i<=j->(j:Int)<m->D (bj l j 0)<=D (bj l i 0):=λi j q1 q2 q3=>Ez (EA hL (by omega) q2 (by omega) (by omega));refine⟨⟨⟨by omega,by omega,by omega⟩,λk q1 q2=>by omega,λk q1 q2=>by omega⟩,?_⟩;rintro⟨i,j⟩ ⟨⟨i0,i1,i2⟩,q1,q2⟩;simp only at i0 i1 i2 q1 q2 ⊢;refine⟨λhij=>?_,λhij=>⟨⟨⟨by omega,by omega,by omega⟩,⟨q1,λk w1 w2=>q2 k (by omega) w2⟩,?_⟩,?_⟩⟩
  ·rw[hcmp _ _ (by omega) (by omega)];generalize hh:(i+j) / 2=h;have TX:i<=h/\h<j:=by omega
   refine⟨by omega,u64 (by omega) (by omega),by omega,by omega,by omega,by omega,by omega,by omega,by omega,by omega,by omega,by omega,by omega,by omega,by omega,⟨hc,hV _ (by omega),hV _ (by omega)⟩,λhge=>⟨by omega,⟨⟨by omega,by omega,by omega⟩,λk w1 w2=>?_,λk w1 w2=>q2 k w1 w2⟩,by omega⟩,λhlt=>⟨⟨⟨by omega,by omega,by omega⟩,λk w1 w2=>q1 k w1 w2,λk w1 w2=>?_⟩,by omega⟩⟩
   ·have:=mono k h.toNat (by omega) (by omega) (by omega);omega
   ·have:=mono h.toNat k (by omega) (by omega) (by omega);omega
  ·rw[TE (by omega) (by omega),KH (by omega) hL]
  ·rintro⟨k,i',w⟩ ⟨⟨k0,k1,k2⟩,⟨q1,q2⟩,hw⟩;simp only at k0 k1 k2 q1 q2 hw ⊢;have hwl:w.length=l.length:=by rw[hw,TD (by omega) (by omega)]
   have hso:df D (seg l a.toNat m.toNat)=seg l a.toNat m.toNat:=Ku hL;have hsl:=kP (l:=l) (a:=a.toNat) (b:=m.toNat) (by omega) (by omega);refine⟨λhk=>?_,λhk=>?_⟩
   ·obtain⟨e1,e2,e3⟩:=@TI D l a.toNat m.toNat k.toNat (by omega) (by omega) (by omega);rw[<-hw] at e1 e2 e3;rw[show k.toNat - 1=(k - 1).toNat by omega] at e2 e3;rw[e1,e2,e3];simp only[γe,hwl];refine⟨by omega,by omega,by omega,by omega,by omega,by omega,by omega,by omega,by omega,by omega,by omega,by omega,by omega,by omega,by omega,by omega,by omega,by omega,by omega,by omega,by omega,by omega,by omega,⟨⟨by omega,by omega,by omega⟩,⟨q1,q2⟩,trivial⟩,by omega⟩
   ·have hki:k=i':=by omega
    refine s6 ?_;rw[hw,show b.toNat=m.toNat+1 by omega];refine TK (by omega) (by omega) (by omega) ?_ ?_
    ·intro s hs;rw[hso,TU,yF] at hs;obtain⟨k',w1,w2,w3,rfl⟩:=hs;have h9:D (bj l k' 0)<D (bj l m.toNat 0):=q2 k' (by omega) (by omega);exact pz.2 (by omega)
    ·by_cases hka:k=a;·exact .inl (by omega)
     ·refine .inr ?_;rw[hso,cQ (show k.toNat - 1 - a.toNat<(seg l a.toNat m.toNat).length by omega),KI];have h9:¬D (bj l (a.toNat+(k.toNat - 1 - a.toNat)) 0)<D (bj l m.toNat 0):=q1 (a.toNat+(k.toNat - 1 - a.toNat)) (by omega) (by omega);have:=hxi (a.toNat+(k.toNat - 1 - a.toNat)) m.toNat (by omega) (by omega) (by omega) (by omega);exact pz.2 (by omega)
 ·generalize hmd:(a+b) / 2=mid;have md:2*mid<=a+b/\a+b<=2*mid+1:=by omega
  clear hmd;have hlh:∃lo hi,lo=(if mid<m then mid+m - b else a)/\hi=(if mid<m then mid else m):=⟨_,_,rfl,rfl⟩;obtain⟨lo,hi,ED,EE⟩:=hlh;rw[<-ED,<-EE];have hlo:(mid<m/\lo=mid+m - b/\hi=mid)\/(m<=mid/\lo=a/\hi=m):=by
   rcases Int.lt_or_le mid m with h|h;·exact .inl ⟨h,by rw[ED,if_pos h],by rw[EE,if_pos h]⟩
   ·exact .inr ⟨h,by rw[ED,if_neg (by omega)],by rw[EE,if_neg (by omega)]⟩
  clear ED EE;have EF:∀i j:Nat,a<=i->i<=j->(j:Int)<m->D (bj l j 0)<=D (bj l i 0):=λi j q1 q2 q3=>Ez (EA hL (by omega) q2 (by omega) (by omega));have EG:∀i j:Nat,m<=i->i<=j->(j:Int)<b->D (bj l j 0)<=D (bj l i 0):=λi j q1 q2 q3=>Ez (EA hR (by omega) q2 (by omega) (by omega));have tail:∀s:Int,lo<=s->s<=hi->(∀k:Nat,lo<=k->(k:Int)<s->D (bj l k 0)<D (bj l (mid+m - 1 - k).toNat 0)->False)->(∀k:Nat,s<=k->(k:Int)<hi->D (bj l k 0)<D (bj l (mid+m - 1 - k).toNat 0))->
    TW D n k l p a m b mid s:=by
   intro s s1 s2 q1 q2;refine adx hD hc hn hl ho a0 (by omega) (by omega) (by omega) (by omega) (by omega) (by omega) (by omega) a3 hL hR hx ?_ ?_ hk
   ·rintro x y hX hY;rw[yF] at hX hY;obtain⟨i,i1,i2,i3,rfl⟩:=hX;obtain⟨j,j1,j2,j3,rfl⟩:=hY;have h3:=q1 (s - 1).toNat (by omega) (by omega);rw[show(mid+m - 1 - ((s - 1).toNat:Int)).toNat=(mid+m - s).toNat by omega] at h3;have h4:=EF i (s - 1).toNat (by omega) (by omega) (by omega);have h5:=EG (mid+m - s).toNat j (by omega) (by omega) (by omega);have h6:=hxi i j (by omega) (by omega) (by omega) (by omega);have h7:¬D (bj l (s - 1).toNat 0)<D (bj l (mid+m - s).toNat 0):=h3;exact pz.2 (by omega)
   ·rintro x y hX hY;rw[yF] at hX hY;obtain⟨j,j1,j2,j3,rfl⟩:=hX;obtain⟨i,i1,i2,i3,rfl⟩:=hY;have h3:=q2 s.toNat (by omega) (by omega);have h4:=EF s.toNat i (by omega) (by omega) (by omega);have h5:=EG j (mid+m - 1 - (s.toNat:Int)).toNat (by omega) (by omega) (by omega);exact pz.2 (by omega)
  refine⟨by omega,u64 (by omega) (by omega),by omega,by omega,by omega,by omega,λhm=>⟨by omega,by omega,⟨⟨by omega,by omega,by omega⟩,λk w1 w2=>by omega,λk w1 w2=>by omega⟩,?_⟩,λhm=>⟨by omega,⟨⟨by omega,by omega,by omega⟩,λk w1 w2=>by omega,λk w1 w2=>by omega⟩,?_⟩⟩;all_goals
   rintro⟨i,j⟩ ⟨⟨i0,i1,i2⟩,q1,q2⟩;simp only at i0 i1 i2 q1 q2 ⊢;refine⟨λhij=>?_,λhij=>?_⟩
   ·generalize hh:(i+j) / 2=h;have TX:i<=h/\h<j:=by omega
    rw[hcmp _ _ (by omega) (by omega)];refine⟨by omega,u64 (by omega) (by omega),by omega,by omega,by omega,by omega,by omega,by omega,by omega,by omega,by omega,by omega,by omega,by omega,by omega,by omega,⟨hc,hV _ (by omega),hV _ (by omega)⟩,λhge=>⟨by omega,⟨⟨by omega,by omega,by omega⟩,λk w1 w2=>?_,λk w1 w2=>q2 k w1 w2⟩,by omega⟩,λhlt=>⟨⟨⟨by omega,by omega,by omega⟩,λk w1 w2=>q1 k w1 w2,λk w1 w2=>?_⟩,by omega⟩⟩
    ·have h3:=EF k h.toNat (by omega) (by omega) (by omega);have h4:=EG (mid+m - 1 - h).toNat (mid+m - 1 - (k:Int)).toNat (by omega) (by omega) (by omega);omega
    ·have h3:=EF h.toNat k (by omega) (by omega) (by omega);have h4:=EG (mid+m - 1 - (k:Int)).toNat (mid+m - 1 - h).toNat (by omega) (by omega) (by omega);omega
   ·have hij':i=j:=by omega
    have h3:=tail i i0 (by omega) q1 (λk w1 w2=>q2 k (by omega) w2);exact h3
theorem KL:∀n,dJ Tryz.prog (q8 n)
 |0=>by
  rintro⟨⟨c,l,p⟩,a,m,b⟩ ⟨_,h⟩;exact absurd h (Nat.not_lt_zero _);|n+1=>by
  rintro⟨⟨c,l,p⟩,a,m,b⟩ ⟨h1,h2⟩;by_cases hc:(b - a).toNat<n;·exact KL n ⟨⟨c,l,p⟩,a,m,b⟩ ⟨h1,hc⟩
  ·refine C7 (q8 (n+1)) (W:=AX n) (Λ:=λx=>TV x.1.1 x.1.2.1 x.1.2.2 x.2.1 x.2.2.1 x.2.2.2) pU (by simp only[AX,γs,γ5,false_implies,implies_true,and_true];exact⟨KL n,h351,h320⟩) (by simp)
    (show gy 200=some (fG 200) by kernel_rfl) (λ_=>rfl) ⟨⟨c,l,p⟩,a,m,b⟩ ?_ (ady n c l p a m b h1 h2).out;intro d hd b' hb1 hb2 hb3;have hd2:d=q8 n:=by
    have:kY 200 (AX n)=some (q8 n):=rfl;have hd3:kY 200 (AX n)=some d:=hd;rw[this] at hd3;injection hd3 with hd3;exact hd3.symm
   subst hd2;have hb:(⟨⟨c,l,p⟩,a,m,b⟩:Ky×Int×Int×Int)=b':=(q8 n).inj ⟨⟨c,l,p⟩,a,m,b⟩ b' hb1 hb2;subst hb;exact hc hb3.2
def AZ (b:Int):List Int:=[b]
def KN:List Int->Option Int
 |[a]=>some a
 |_=>none
theorem adz:∀l b,KN l=some b->l=AZ b:=λl b h=>by
 unfold KN at h;split at h;·simp only[γ] at h;subst h;rfl
 ·cases h
theorem adA:∀b c,AZ b=AZ c->b=c:=λb c h=>by
 simp_all[AZ]
def EH (_:Unit):List Int:=[]
def KO:List Int->Option Unit
 |[]=>some ()
 |_=>none
theorem adB:∀l b,KO l=some b->l=EH b:=λl b h=>by
 unfold KO at h;split at h;·rfl
 ·cases h
theorem adE:∀b c,EH b=EH c->b=c:=λ_ _ _=>rfl
theorem KP {D:Int->Int} {l:List Int} {n:Nat} (h:n=l.length):di D l 0 n=df D l:=by
 grind[di,seg]
def m20 (D:Int->Int) (l:List Int):List Int:=df D (l.take 20)++(df D (l.drop 20)++[])
theorem adF {D:Int->Int} {l:List Int} (h:20<=l.length):di D l 0 20=df D (l.take 20)++(l.drop 20++[]):=by
 grind[di,seg]
theorem TY {D:Int->Int} {l:List Int} {n:Nat} (b:n=l.length) (h:20<=l.length):di D (di D l 0 20) 20 n=m20 D l:=by
 have a:(df D (l.take 20)).length=20:=by grind[ox]
 rw[adF h];exact KF a.symm (by simp_all)
theorem EI {D:Int->Int} {l:List Int}:(m20 D l).length=l.length:=by
 grind[m20,ox]
theorem T0 {D:Int->Int} {l:List Int}:(m20 D l).Perm l:=by
 unfold m20;rw[List.append_nil];refine(rV.append rV).trans ?_;simp_all
theorem adG {D:Int->Int} {l:List Int} {n:Nat} (b:n=l.length) (h:20<=l.length):seg (m20 D l) 0 20=df D (l.take 20)/\seg (m20 D l) 20 n=df D (l.drop 20):=by
 have a:(df D (l.take 20)).length=20:=by grind[ox]
 refine⟨?_,?_⟩
 ·have:=@s7 [] (df D (l.take 20)) (df D (l.drop 20)++[]) 0 20 rfl (by rw[a];rfl);exact this
 ·exact s7 a.symm (by grind[ox])
theorem T8 {D:Int->Int} {l:List Int} {n:Nat} (a:n=l.length):di D (m20 D l) 0 n=df D l:=by
 rw[KP (by grind[EI])];exact AL (rV.trans T0) wm
theorem T9 {D:Int->Int} {l:List Int} {b c d:Nat} (h:b<=c) (e:b<=l.length):seg (di D l 0 b) c d=seg l c d:=by
 have a:(df D (seg l 0 b)).length=b:=by grind[ox,kP]
 unfold di;have:(l.take 0++df D (seg l 0 b)++l.drop b).drop c=l.drop c:=by
  rw[εT,δg,List.drop_append,List.drop_eq_nil_of_le (by omega),δg,γW,a,show b+(c - b)=c by omega]
 grind[seg]
theorem adH {l:List Int} {p:bp} {n:Nat} (b:bC p=0) (i:n=l.length) (h:20<l.length) (g:l.length<=1000) (e:∀x∈l,iz p x) (j:l.Pairwise (·<·)):qf ((n,m20 (bM p) l,p),0,20,(l.length:Int)):=by
 obtain⟨f,d⟩:=@adG (bM p) l l.length rfl (by omega);refine⟨⟨⟨b,by grind[EI]⟩,by grind[EI],λx a=>e x (T0.mem_iff.1 a)⟩,⟨by simp_all,by simp_all,by grind,by grind[EI]⟩,?_,?_,?_⟩;·simp_all[wm]
 ·simp_all[wm]
 ·show ∀x∈seg _ 0 20,∀y∈seg _ 20 _,x<y;rw[show((l.length:Int)).toNat=l.length by omega,f,d];intro x a y c;rw[yA] at a c;have:=γc 20 l;grind
def KQ:cZ:=yE 168 1 Int AZ KN (λ_=>rfl) adz adA (λa=>(uI a.1/\a.1.2.1.Pairwise (·<·))/\a.2=a.1.2.1.length/\a.1.2.1.length<=40) λa=>df (bM a.1.2.2) a.1.2.1
def adI (n:Nat) (l:List Int) (p:bp):Nat->cC
 |2=> .inv (Int×Int×List Int) (λx=>⟨[(0,.ow 0 n 1),(1,.si .i64 l.length),(2,.fn (.func 127) [] [.ptr 1 0 20]),(6,.si .i64 20),(7,.si .i64 x.1),(8,.si .i64 x.2.1)],[.row (.i .i64) x.2.2 3 true,.cells p.ss 27 20 false]⟩) (λs=>(iS s 7,iS s 8,oS (.i .i64) s 0))
   (λx=>x.2.1=x.1+20/\(x.1=0/\x.2.2=l\/x.1=20/\20<=l.length/\x.2.2=di (bM p) l 0 20\/x.1=40/\l.length=40/\x.2.2=di (bM p) (di (bM p) l 0 20) 20 40)) (λx=>(1000 - x.1).toNat) λ_ _=> .look
 |7=> .inv (Int×List Int) (λx=>⟨[(0,.ow 0 n 1),(1,.si .i64 l.length),(2,.fn (.func 127) [] [.ptr 1 0 20]),(6,.si .i64 x.1)],[.row (.i .i64) x.2 3 true,.cells p.ss 27 20 false]⟩) (λs=>(iS s 6,oS (.i .i64) s 0))
   (λx=>x.1=20/\(l.length<=20/\x.2=df (bM p) l\/20<l.length/\x.2=m20 (bM p) l)\/x.1=40/\x.2=df (bM p) l) (λx=>(1000 - x.1).toNat) λx k=>match k with
    |9=> .inv (Int×Int×List Int) (λy=>⟨[(0,.ow 0 n 1),(1,.si .i64 l.length),(2,.fn (.func 127) [] [.ptr 1 0 20]),(6,.si .i64 x.1),(7,.si .i64 y.1),(8,.si .i64 y.2.1)],[.row (.i .i64) y.2.2 3 true,.cells p.ss 27 20 false]⟩) (λs=>(iS s 7,iS s 8,oS (.i .i64) s 0))
      (λy=>y.1=0/\y.2.1=40/\y.2.2=m20 (bM p) l\/y.1=40/\y.2.1=80/\l.length=40/\y.2.2=df (bM p) l) (λy=>(1000 - y.1).toNat) λ_ _=> .look
    |_=> .look
 |_=> .look
theorem h333:dJ Tryz.prog KQ:=by
 refine jm (L:=[]) (W:=[KE,q8 1001]) KQ (λa=>adI a.1.1 a.1.2.1 a.1.2.2) (by simp only[γs,γ5,false_implies,implies_true,and_true];exact⟨h343,KL 1001⟩) (by simp) ?_;rintro⟨⟨n,l,p⟩,N⟩ ⟨⟨⟨⟨hc,hn⟩,hl,ho⟩,hi⟩,hN,h40⟩;simp only at hc hn hl ho hi hN h40;subst hN;refine bO (let a:=Ξ .i64;let b:=(20:Int);let c:=(40:Int);let d:=(0:Int);let e:=(1000:Int);let f:=bq.row;let g:=bW .i64;let h:=γr .i64;let j:=γr .i64 0;let k:=(80:Int);let o:=γ8 0 n 1;let q:=(↑l.length:Int);let r:=a q;let s:=SV.fn (Fn.func 127) [] [γV 1 0 20];let w:=a 20;let v:=bn.i .i64;let M:=f v l 3 true;let m:=bq.cells [a p.supply.a0,a p.supply.a1,a p.supply.a2,a p.supply.a3,a p.supply.a4,a p.supply.a5,a p.opn.a0,a p.opn.a1,a p.opn.a2,a p.opn.a3,a p.opn.a4,a p.opn.a5,a p.cls.a0,a p.cls.a1,a p.cls.a2,a p.cls.a3,a p.cls.a4,a p.cls.a5,Ψ v p.classes,Ψ bn.off p.offers] 27 20 false;let C:=di (bM p) l 0 20;let J:=di (bM p) C 20 40;let t:=df (bM p) l;let y:=m20 (bM p) l;(((o.same o/\r.same r/\s.same s/\(h 20).same w/\(h 0).same (a 0)/\(h 20).same w/\True)/\M.same M/\m.same m/\True)/\b=b/\(d=d/\l=l\/d=b/\20<=l.length/\l=C\/d=c/\l.length=40/\l=J))/\∀(x:Int×Int×List Int),let N:=decide (x.snd.fst<=q);let D:=x.fst.toNat;let E:=x.snd.fst+b;let O:=a x.snd.fst;let P:=a E;let F:=di (bM p) x.snd.snd D x.snd.fst.toNat;let Q:=f v F 3 true;let G:=di (bM p) x.snd.snd D q.toNat;let R:=f v G 3 true;x.snd.fst=x.fst+b/\(x.fst=d/\x.snd.snd=l\/x.fst=b/\20<=l.length/\x.snd.snd=C\/x.fst=c/\l.length=40/\x.snd.snd=J)->(N=true->(uI (n,x.snd.snd,p)/\KC x.snd.snd x.fst x.snd.fst/\ζu (λ(x1 x2:Int) ↦x1<x2) (seg x.snd.snd D x.snd.fst.toNat))/\g E/\((o.same o/\r.same r/\s.same s/\w.same w/\O.same O/\P.same P/\True)/\Q.same Q/\m.same m/\True)/\(E=E/\(x.snd.fst=d/\F=l\/x.snd.fst=b/\20<=l.length/\F=C\/x.snd.fst=c/\l.length=40/\F=J))/\(e - x.snd.fst).toNat<(e - x.fst).toNat)/\(N=false->(uI (n,x.snd.snd,p)/\KC x.snd.snd x.fst q/\ζu (λ(x1 x2:Int) ↦x1<x2) (seg x.snd.snd D q.toNat))/\(((o.same o/\r.same r/\s.same s/\w.same w/\True)/\R.same R/\m.same m/\True)/\(b=b/\(l.length<=20/\G=t\/20<l.length/\G=y)\/b=c/\G=t))/\∀(x:Int×List Int),let z:=(2:Int)*x.fst;let H:=a x.fst;let S:=a z;let K:=f v x.snd 3 true;let A:=x.fst*(2:Int);let T:=a A;x.fst=b/\(l.length<=20/\x.snd=t\/20<l.length/\x.snd=y)\/x.fst=c/\x.snd=t->(decide (x.fst<q)=true->g z/\(((o.same o/\r.same r/\s.same s/\H.same H/\(h 0).same (a 0)/\S.same S/\True)/\K.same K/\m.same m/\True)/\(d=d/\z=c/\x.snd=y\/d=c/\z=k/\l.length=40/\x.snd=t))/\∀(x_1:Int×Int×List Int),let B:=x_1.fst+x.fst;let U:=decide (x_1.snd.fst<=q);let I:=x_1.snd.fst+z;let V:=a x_1.snd.fst;let W:=a I;let L:=di (bM p) x_1.snd.snd x_1.fst.toNat x_1.snd.fst.toNat;let X:=f v L 3 true;let Y:=λ(u:List Int) ↦let Z:=f v u 3 true;g A/\((o.same o/\r.same r/\s.same s/\T.same T/\True)/\Z.same Z/\m.same m/\True)/\(A=b/\(l.length<=20/\u=t\/20<l.length/\u=y)\/A=c/\u=t)/\(e - A).toNat<(e - x.fst).toNat;let a6:=λ(u:Int) ↦qf ((n,x_1.snd.snd,p),x_1.fst,B,u)/\(u - x_1.fst).toNat<1001;x_1.fst=d/\x_1.snd.fst=c/\x_1.snd.snd=y\/x_1.fst=c/\x_1.snd.fst=k/\l.length=40/\x_1.snd.snd=t->(U=true->g B/\a6 x_1.snd.fst/\g z/\g I/\((o.same o/\r.same r/\s.same s/\H.same H/\V.same V/\W.same W/\True)/\X.same X/\m.same m/\True)/\(x_1.snd.fst=d/\I=c/\L=y\/x_1.snd.fst=c/\I=k/\l.length=40/\L=t)/\(e - x_1.snd.fst).toNat<(e - x_1.fst).toNat)/\(U=false->g B/\(decide (B<q)=true->a6 q/\Y (di (bM p) x_1.snd.snd x_1.fst.toNat q.toNat))/\(decide (B<q)=false->Y x_1.snd.snd)))/\(decide (x.fst<q)=false->(SV.bH []).same (SV.bH [])/\K.same (f v t 3 true)/\m.same m/\True))) (by kernel_rfl) ?_;simp only[vcs];have pw:∀a b,(seg l a b).Pairwise (·<·):=λa b=>δY ((List.take_sublist _ _).trans (List.drop_sublist _ _)) hi;have e0:((l.length:Int)).toNat=l.length:=by omega
 rw[e0];refine⟨.inl trivial,?_⟩;rintro⟨a,b,w⟩ ⟨hb,hw⟩;simp only at hb hw ⊢;subst hb;refine⟨λh=>?_,λh=>?_⟩
 ·rcases hw with⟨rfl,rfl⟩|⟨rfl,h2,rfl⟩|⟨rfl,h2,rfl⟩;·refine⟨⟨⟨⟨hc,hn⟩,hl,ho⟩,⟨?_,?_,?_⟩,pw _ _⟩,?_,.inr (.inl ⟨?_,?_,rfl⟩),?_⟩<;>omega
  ·have hw:=@yB (bM p) l 0 20 (by omega) (by omega);exact⟨⟨⟨⟨hc,by simp only[hw];exact hn⟩,by simp only[hw];exact hl,λx hx=>ho x (AW hx)⟩,⟨by omega,by omega,by rw[hw];omega⟩,by rw[T9 (by omega) (by omega)];exact pw _ _⟩,by omega,.inr (.inr ⟨by omega,by omega,rfl⟩),by omega⟩
  ·omega
 ·refine⟨?_,?_,?_⟩
  ·rcases hw with⟨rfl,rfl⟩|⟨rfl,h2,rfl⟩|⟨rfl,h2,rfl⟩;·refine⟨⟨⟨hc,hn⟩,hl,ho⟩,⟨?_,?_,?_⟩,pw _ _⟩<;>omega
   ·have hw:=@yB (bM p) l 0 20 (by omega) (by omega);exact⟨⟨⟨hc,by simp only[hw];exact hn⟩,by simp only[hw];exact hl,λx hx=>ho x (AW hx)⟩,⟨by omega,by omega,by rw[hw];omega⟩,by rw[T9 (by omega) (by omega)];exact pw _ _⟩
   ·have hw:=@yB (bM p) l 0 20 (by omega) (by omega);have hw2:=@yB (bM p) (di (bM p) l 0 20) 20 40 (by omega) (by omega);rw[hw] at hw2;refine⟨⟨⟨hc,by simp only[hw2];exact hn⟩,by simp only[hw2];exact hl,λx hx=>ho x (AW (AW hx))⟩,⟨by omega,by omega,by rw[hw2];omega⟩,?_⟩;rw[h2];show(seg _ 40 40).Pairwise _;rw[AO];exact δB
  ·left;rcases hw with⟨rfl,rfl⟩|⟨rfl,h2,rfl⟩|⟨rfl,h2,rfl⟩;·exact .inl ⟨by omega,KP rfl⟩
   ·rcases Nat.lt_or_ge 20 l.length with h3|h3;·exact .inr ⟨h3,TY rfl (by omega)⟩
    ·refine .inl ⟨h3,?_⟩;rw[show l.length=20 by omega];show di _ _ 20 20=_;rw[Kw];exact KP (by omega)
   ·refine .inr ⟨by omega,?_⟩;rw[h2];show di _ _ 40 40=_;rw[Kw];exact TY h2.symm (by omega)
  ·rintro⟨s,w⟩ hw;simp only at hw ⊢;refine⟨λh=>?_,λh=>s6 ?_⟩
   ·have hs:s=20/\20<l.length/\w=m20 (bM p) l:=by
     rcases hw with⟨h1,h2|h2⟩|h2;·omega
     ·exact⟨h1,h2⟩
     ·omega
    obtain⟨rfl,h20,rfl⟩:=hs;refine⟨by omega,.inl ⟨by omega,rfl⟩,?_⟩;rintro⟨a,b,w⟩ hy;simp only at hy ⊢;have hd:=@adH l p n hc hn h20 hl ho hi;rcases hy with⟨rfl,rfl,rfl⟩|⟨rfl,rfl,h4,rfl⟩
    ·refine⟨λh5=>?_,λh5=>⟨by omega,λh6=>?_,λh6=>by omega⟩⟩
     ·have h6:l.length=40:=by omega
      refine⟨by omega,⟨?_,by omega⟩,by omega,by omega,.inr ⟨by omega,by omega,h6,T8 h6.symm⟩,by omega⟩;rw[h6] at hd;exact hd
     ·refine⟨⟨hd,?_⟩,?_,.inr ⟨?_,T8 rfl⟩,?_⟩<;>omega
    ·refine⟨λh5=>by omega,λh5=>⟨by omega,λh6=>by omega,λh6=>⟨by omega,.inr ⟨by omega,rfl⟩,by omega⟩⟩⟩
   ·rcases hw with⟨h1,h2|h2⟩|h2;·exact h2.2
    ·omega
    ·exact h2.2
def KR:cZ:=yE 126 0 Unit EH KO (λ_=>rfl) adB adE (λa=>(uI a.1/\a.1.2.1.Pairwise (·<·))/\a.1.2.1.length<=40) λa=>df (bM a.1.2.2) a.1.2.1
theorem h319:dJ Tryz.prog KR:=by
 refine jm (L:=[]) (W:=[KQ]) KR lk (by grind[h333]) (by simp) ?_;rintro⟨⟨n,l,p⟩,u⟩ ⟨⟨⟨⟨g,h⟩,d,c⟩,e⟩,a⟩;simp only at g h d c e a;refine bO (let f:=bq.row (bn.i .i64) (df (bM p) l) 3 true;let b:=bq.cells (bp.ss p) 27 20 false;((uI (n,l,p)/\ζu (λj k ↦j<k) l)/\(↑n:Int)=(↑l.length:Int)/\l.length<=40)/\(SV.bH []).same (SV.bH [])/\f.same f/\b.same b/\True) (by kernel_rfl) ?_;simp only[vcs];exact⟨⟨⟨⟨g,h⟩,d,c⟩,e⟩,by omega,a⟩
def dS (n:Nat):List Int:=(τ n).map λi:Nat=>(i:Int)
theorem jy {n:Nat}:(dS n).length=n:=by simp[dS]
theorem yG {n:Nat}:dS (n+1)=dS n++[(n:Int)]:=by simp[dS,δr]
theorem A0 {n:Nat}:(dS n).Pairwise (·<·):=by
 unfold dS;rw[List.pairwise_map];exact List.pairwise_lt_range.imp λh=>by omega
theorem rW {n:Nat} {x:Int}:x∈dS n↔0<=x/\x<n:=by
 unfold dS;rw[γg];constructor;·grind
 ·rintro⟨b,a⟩;exact⟨x.toNat,γL.2 (by omega),by omega⟩
def mQ (n i:Nat):List Int:=dS i++ε (n - i) 0
theorem Ua {n i:Nat} (h:i<=n):(mQ n i).length=n:=by grind[mQ,jy]
theorem adJ {n:Nat}:mQ n 0=ε n 0:=by simp[mQ,dS]
theorem adK {n:Nat}:mQ n n=dS n:=by simp[mQ]
theorem adL {n i:Nat} (h:i<n):(mQ n i).set i (i:Int)=mQ n (i+1):=by
 unfold mQ;rw[εo _ _ (by grind[jy]),jy,Nat.sub_self,show n - i=(n - (i+1))+1 by omega,List.replicate_succ,List.set_cons_zero,yG,γf];rfl
def wq (p:bp):List Int:=df (bM p) (dS p.offers.length)
def KT:bL:=⟨89,bp,.one cY,λp=>p.offers.length<=40,λp=> .row (.i .i64) (if bC p=0 then wq p else[])⟩
def adM (p:bp):Nat->cC
 |5=> .inv Int (λi=>⟨[(1,.ptr 0 0 20),(3,.ow 1 (mQ p.offers.length i.toNat).length 1),(13,.si .i64 p.offers.length),(14,.si .i64 i)],[.cells p.ss 27 20 false,.row (.i .i64) (mQ p.offers.length i.toNat) 3 true]⟩)
   (λs=>iS s 14) (λi=>0<=i/\i<=p.offers.length) (λi=>(p.offers.length - i).toNat) λ_ _=> .look
 |_=> .look
theorem h308:Holds Tryz.prog KT:=by
 refine con (L:=[pV]) (W:=fQ [KR]) KT adM (kZ (by grind[h319])) (by grind[h79]) ?_;intro(p:bp) (C:p.offers.length<=40);refine bO (let h:=Ξ .i64;let k:=(0:Int);let o:=bq.row;let s:=Ψ;let t:=γ8;let q:=decide (bC p≠k);let d:=bn.i .i64;let r:=s d (if bC p=k then wq p else[]);let f:=(↑p.offers.length:Int);let m:=γV 0 0 20;let g:=p.offers.length;let e:=(↑g:Int);let n:=h e;let l:=bq.cells [h p.supply.a0,h p.supply.a1,h p.supply.a2,h p.supply.a3,h p.supply.a4,h p.supply.a5,h p.opn.a0,h p.opn.a1,h p.opn.a2,h p.opn.a3,h p.opn.a4,h p.opn.a5,h p.cls.a0,h p.cls.a1,h p.cls.a2,h p.cls.a3,h p.cls.a4,h p.cls.a5,s d p.classes,s bn.off p.offers] 27 20 false;True/\(q=true->(s d []).same r)/\(q=false->k<=f/\f<=f/\f*(8:Int)<=(140737488355328:Int)/\f<=(1000000000000:Int)/\(((m.same m/\(t 1 f.toNat 1).same (t 1 (mQ g 0).length 1)/\(h (↑f.toNat:Int)).same n/\(γr .i64 0).same (h 0)/\True)/\l.same l/\(o d (ε f.toNat k) 3 true).same (o d (mQ g 0) 3 true)/\True)/\k<=k/\k<=e)/\∀(x:Int),let c:=mQ g x.toNat;let b:=c.length;let a:=x+(1:Int);let j:=h a;k<=x/\x<=e->(decide (x<e)=true->b=c.length/\k<=x/\x<(↑c.length:Int)/\b=c.length/\x.toNat<c.length/\bW .i64 a/\((m.same m/\(t 1 b 1).same (t 1 (mQ g a.toNat).length 1)/\n.same n/\j.same j/\True)/\l.same l/\(o d (c.set x.toNat x) 3 true).same (o d (mQ g a.toNat) 3 true)/\True)/\(k<=a/\a<=e)/\(e - a).toNat<(e - x).toNat)/\(decide (x<e)=false->((uI (b,c,p)/\ζu (λB v ↦B<v) c)/\b<=40)/\b=(df (bM p) c).length/\(s d (df (bM p) c)).same r))) (by kernel_rfl) ?_;simp only[vcs];refine⟨λh=>by rw[if_neg h],λh=>?_⟩;have s:bC p=0:=ω.1 h;rw[if_pos s];have A:((p.offers.length:Int)).toNat=p.offers.length:=by omega
 have k:∀{x y:Nat},x=y->(γ8 1 x 1).same (γ8 1 y 1):=by rintro _ _ rfl;rfl
 rw[A,adJ];refine⟨by omega,by omega,by omega,by omega,⟨⟨⟨k (by simp),rfl⟩,rfl⟩,by omega,by omega⟩,?_⟩;rintro i ⟨u,D⟩;have E:=@Ua p.offers.length i.toNat (by omega);refine⟨λz=>?_,λz=>?_⟩
 ·have o:=@adL p.offers.length i.toNat (by omega);rw[show((i.toNat:Nat):Int)=i by omega] at o;have t:=@Ua p.offers.length (i.toNat+1) (by omega);rw[show(i+1).toNat=i.toNat+1 by omega,o];exact⟨u,by omega,by omega,by omega,⟨k (by omega),rfl⟩,by omega,by omega⟩
 ·rw[show i.toNat=p.offers.length by omega,adK];refine⟨⟨⟨⟨⟨s,rfl⟩,by grind[jy],λx w=>by have:=rW.1 w;exact this⟩,A0⟩,by grind[jy]⟩,by rw[ox],rfl⟩
end Go.Vi
namespace Go.Proofs
open Go.Shelf
def Tryz.layS_ren:Ren:=
 ⟨λ
  |189=>130
  |125=>171
  |257=>170
  |128=>210
  |129=>211
  |294=>201
  |295=>202
  |296=>203
  |297=>204
  |298=>205
  |299=>206
  |216=>207
  |300=>208
  |301=>209
  |328=>225
  |329=>226
  |330=>227
  |331=>228
  |332=>229
  |215=>230
  |343=>237
  |n=>n,
 λ
  |28=>24
  |3=>3
  |46=>245
  |0=>0
  |51=>235
  |53=>231
  |4=>4
  |183=>275
  |182=>274
  |131=>181
  |5=>5
  |9=>9
  |218=>284
  |222=>288
  |228=>297
  |229=>106
  |n=>n,
 λn=>n⟩
def Tryz.layC_ren:Ren:=
 ⟨λ
  |41=>86
  |n=>n,
 λ
  |22=>24
  |23=>3
  |4=>4
  |n=>n,
 λn=>n⟩
def Tryz.layD_ren:Ren:=
 ⟨λ
  |45=>166
  |n=>n,
 λ
  |22=>24
  |23=>3
  |3=>3
  |4=>4
  |0=>0
  |n=>n,
 λn=>n⟩
theorem Tryz.layS:Lays.n189 Tryz.prog Tryz.layS_ren:={mixed:=by kernel_rfl,f125:=Tryz.func171.trans (by kernel_rfl),f128:=Tryz.func210.trans (by kernel_rfl),f129:=Tryz.func211.trans (by kernel_rfl),f189:=Tryz.func130.trans (by kernel_rfl),f215:=Tryz.func230.trans (by kernel_rfl),f216:=Tryz.func207.trans (by kernel_rfl),f257:=Tryz.func170.trans (by kernel_rfl),f294:=Tryz.func201.trans (by kernel_rfl),f295:=Tryz.func202.trans (by kernel_rfl),f296:=Tryz.func203.trans (by kernel_rfl),f297:=Tryz.func204.trans (by kernel_rfl),f298:=Tryz.func205.trans (by kernel_rfl),f299:=Tryz.func206.trans (by kernel_rfl),f300:=Tryz.func208.trans (by kernel_rfl),f301:=Tryz.func209.trans (by kernel_rfl),f328:=Tryz.func225.trans (by kernel_rfl),f329:=Tryz.func226.trans (by kernel_rfl),f330:=Tryz.func227.trans (by kernel_rfl),f331:=Tryz.func228.trans (by kernel_rfl),f332:=Tryz.func229.trans (by kernel_rfl),f343:=Tryz.func237.trans (by kernel_rfl),t0:=Tryz.underlying0,a0:=Tryz.isAgg0,z0:=Tryz.sizeOf0,v0:=Tryz.zeroValue0,t3:=Tryz.underlying3,a3:=Tryz.isAgg3,z3:=Tryz.sizeOf3,v3:=Tryz.zeroValue3,t4:=Tryz.underlying4,a4:=Tryz.isAgg4,z4:=Tryz.sizeOf4,v4:=Tryz.zeroValue4,t5:=Tryz.underlying5,a5:=Tryz.isAgg5,z5:=Tryz.sizeOf5,v5:=Tryz.zeroValue5,t9:=Tryz.underlying9,a9:=Tryz.isAgg9,z9:=Tryz.sizeOf9,v9:=Tryz.zeroValue9,t28:=Tryz.underlying24,a28:=Tryz.isAgg24,z28:=Tryz.sizeOf24,v28:=Tryz.zeroValue24,t46:=Tryz.underlying245,a46:=Tryz.isAgg245,z46:=Tryz.sizeOf245,v46:=Tryz.zeroValue245,t51:=Tryz.underlying235,a51:=Tryz.isAgg235,z51:=Tryz.sizeOf235,v51:=Tryz.zeroValue235,t53:=Tryz.underlying231,a53:=Tryz.isAgg231,z53:=Tryz.sizeOf231,v53:=Tryz.zeroValue231,t131:=Tryz.underlying181,a131:=Tryz.isAgg181,z131:=Tryz.sizeOf181,v131:=Tryz.zeroValue181,t182:=Tryz.underlying274,a182:=Tryz.isAgg274,z182:=Tryz.sizeOf274,v182:=Tryz.zeroValue274,t183:=Tryz.underlying275,a183:=Tryz.isAgg275,z183:=Tryz.sizeOf275,v183:=Tryz.zeroValue275,t218:=Tryz.underlying284,a218:=Tryz.isAgg284,z218:=Tryz.sizeOf284,v218:=Tryz.zeroValue284,t222:=Tryz.underlying288,a222:=Tryz.isAgg288,z222:=Tryz.sizeOf288,v222:=Tryz.zeroValue288,t228:=Tryz.underlying297,a228:=Tryz.isAgg297,z228:=Tryz.sizeOf297,v228:=Tryz.zeroValue297,t229:=Tryz.underlying106,a229:=Tryz.isAgg106,z229:=Tryz.sizeOf106,v229:=Tryz.zeroValue106}
theorem Tryz.layC:SlLaysE0.n41 Tryz.prog Tryz.layC_ren:={mixed:=by kernel_rfl,f41:=⟨Tryz.f86.name,by decide,Tryz.func86.trans (by kernel_rfl)⟩,t4:=Tryz.underlying4,a4:=Tryz.isAgg4,z4:=Tryz.sizeOf4,v4:=Tryz.zeroValue4,t22:=Tryz.underlying24,a22:=Tryz.isAgg24,z22:=Tryz.sizeOf24,v22:=Tryz.zeroValue24}
theorem Tryz.layD:SlLaysE.n45 Tryz.prog Tryz.layD_ren:={mixed:=by kernel_rfl,f45:=⟨Tryz.f166.name,by decide,Tryz.func166.trans (by kernel_rfl)⟩,t0:=Tryz.underlying0,a0:=Tryz.isAgg0,z0:=Tryz.sizeOf0,v0:=Tryz.zeroValue0,t3:=Tryz.underlying3,a3:=Tryz.isAgg3,z3:=Tryz.sizeOf3,v3:=Tryz.zeroValue3,t4:=Tryz.underlying4,a4:=Tryz.isAgg4,z4:=Tryz.sizeOf4,v4:=Tryz.zeroValue4,t22:=Tryz.underlying24,a22:=Tryz.isAgg24,z22:=Tryz.sizeOf24,v22:=Tryz.zeroValue24,a23:=Tryz.isAgg3,z23:=Tryz.sizeOf3}
end Go.Proofs
namespace Go.Proofs
open Go.Shelf Go.RowKit Go.Lib
theorem adN {P:Program} {ρ:Ren} (L:SlLaysE0.n41 P ρ) (i0:TypeInfo) (z:Value) (b g:Nat) (I:P.info? (ρ.t 23)=some i0) (x:i0.zero=some z) (y:i0.size=b) (q:i0.bytes=g) (m:z.cells.size=b) (o:0<b)
  (Q:∀w,(Go.sizeOf (ρ.t 23)).run P w= .ok b w) (p:Addr) (n c:Nat) (d:List Value) (w:World) (K:d.length=n*b) (U:n<=maxLen) (B:n*g<=140737488355328)
  (C:∀j u,d[j]?=some u->w.cell? (p.add j)=some u) (E:∀u∈d,u.oneCell'=true):
  Calls P (ρ.f 41) #[.slice (some p) n c] w λe w'=>∃l,e= .returned l/\w'.ownsRow w.heap.size (ρ.t 23) b l n d/\l≠ .slice none 0 0/\Below w.heap.size w w':=by
 have v:=L.mixed;have W:=L.t4;have V:=L.a4;have T:=L.z4;have S:=L.v4;have i:=L.t22;have N:=L.a22;have O:=L.z22;have H:=L.v22;have G:∀(w:World) (a:Option Addr) (n c r s:Nat),(binOp .eql (ρ.t 22) (.slice a n c) (.slice none r s)).run P w= .ok (.bool a.isNone) w:=λw a n c r s=>Lib.run_eql_slice_nil w _ _ a n c r s L.t22;have F:∀w,Sem.run P (underlying (ρ.t 22)) w= .ok (TypeDesc.slice (ρ.t 23)) w:=run_underlying i;have A:Aside (∀j u,d[j]?=some u->w.cell? (p.add j)=some u):=C;clear C;obtain⟨_,_,M⟩:=L.f41;go_enter M,SlBodyN.n41_ntmps ρ;go_wp2_with (at_builtin;refine wpList_append_own _ rfl _ _ (ρ.t 22) rfl w.heap.size (ρ.t 23) i0 z b g i I x y q m o _ _ _ rfl (World.ownsRow_made w #[] 0 (φ _) (εM _) (by simp)) p n c d rfl ?qc1 ?qc2 ?qc3 ?qc4 ?qc5 ?qc6 ?_);case qc1=>exact K
 case qc2=>
  intro j u J;exact Lib.cell?_alloc_some _ (A.out j u J)
 case qc3=>exact E
 case qc4=>omega
 case qc5=>simp_all
 case qc6=>simp
 intro l R D h k;go_wp2;go_ret;refine⟨l,rfl,by omega,?_,?_⟩;·exact k
 ·exact((Below.refl _ w).alloc (φ _) _).grown h (by simp) (by grind[Value.ownBlock])
end Go.Proofs
namespace Go.Vi
open Go.Proofs.YtjcmncmajmoiiaaGreat.Ir
open Go.Proofs
theorem oz (l:List Int):cE (.i .i64) l=l.map λx=>δh (.int .i64 x):=by
 unfold cE;induction l with
 |nil=>rfl;|cons x l a=>rw[List.flatMap_cons,a];rfl
theorem Ub {A:dK} {w:World} {σ:bY} {l:List Int} {e:TypeId} (d:bU A w σ [.cells (l.map λx=>δh (.int .i64 x)) e 1 true]) (s:1<=l.length):
  ∃b cap arr,σ=[some (b,cap)]/\cap<=maxLen/\w.heap[b]?=some (.cells arr e (0,0))/\arr.size=cap/\l.length<=cap/\arr.toList.take l.length=l.map (Value.int .i64):=by
 have f:=d.obj 0 _ rfl;simp only[dC] at f;obtain⟨_,_,h|⟨b,cap,arr,a,n,g,r,p,i⟩⟩:=f;·simp_all
 ·have c:=d.len;simp at c;have m:l.length<=arr.size:=by simp_all
  refine⟨b,cap,arr,?_,n,g,by omega,by omega,?_⟩;·match σ,c,a with
   |[x],_,a=>simp_all
  ·apply List.ext_getElem?;intro j;by_cases k:j<l.length
   ·obtain⟨v,o,q⟩:=i j (.sc (.int .i64 l[j])) (by simp[k]);grind[bw]
   simp_all
def eV (l:List Int):List Int:=l.mergeSort λx y=>decide (x<=y)
theorem wt {l:List Int}:(eV l).length=l.length:=(εC _ _).length_eq
def A1:cZ where
 f:=130;α:=Nat×List Int;put a:=[.ow 0 a.1 1];st a:=[.row (.i .i64) a.2 3 true];dec v o:=match v,o with
  |[.ow 0 n 1],[.row t l 3 true]=>match iI t (.i .i64) l with
   |some l=>some (n,l)
   |_=>none
  |_,_=>none;ok v o a h:=by
  split at h
  ·split at h
   ·rename_i h4;simp only[γ] at h;subst h;obtain⟨rfl,hh⟩:=nj h4;cases hh;exact⟨rfl,rfl⟩
   ·cases h
  ·cases h
 inj a b e1 e2:=by
  obtain⟨n,l⟩:=a;obtain⟨n',l'⟩:=b;simp only[gL,π,SV.g,εP,true_and] at e1;simp only[gO,ι,γp,bq.g,π,bQ.cells.injEq,and_true,true_and] at e2;have h4:l=l':=by
   have hf:=congrArg γn e2;rw[fj,fj] at hf;exact lU (.i .i64) (by simpa[bn.sz] using hf) e2
  rw[e1.1.1,h4]
 dom a:=a.1=a.2.length/\1<=a.2.length/\a.2.length<=1000000;res _:=.bH [];out a:=[.row (.i .i64) (eV a.2) 3 true]
theorem h337:dJ Tryz.prog A1:=by
 rintro⟨n,l⟩ ⟨E,H,V⟩;simp only at E H V;subst E;refine⟨by kernel_rfl,?_⟩;intro A w F Q q s;have C:∀m:List Int,gO [bq.row (.i .i64) m 3 true]=[bQ.cells (m.map λx=>δh (.int .i64 x)) 3 1 true]:=λm=>by
  simp only[gO,ι,γp,bq.g,oz];rfl
 have T:gL (A1.put (l.length,l))=[.os 0 0 l.length (l.length*1)]:=rfl;show Calls _ _ _ _ λe h=>∃u p,e= .returned u/\bU A h p (gO [bq.row (.i .i64) (eV l) 3 true])/\bw A h p (gO [bq.row (.i .i64) (eV l) 3 true]) (.bH []) u/\Ext w F (gO [bq.row (.i .i64) l 3 true]) h p (gO [bq.row (.i .i64) (eV l) 3 true]);replace q:bU A w F (gO [bq.row (.i .i64) l 3 true]):=q;replace s:bD A w F (gO [bq.row (.i .i64) l 3 true]) (gL (A1.put (l.length,l))) Q:=s;rw[C] at q s;rw[C,C];rw[T] at s;obtain⟨b,Y,d,rfl,U,L,q4,q5,N⟩:=Ub q H;simp only[bD] at s;obtain⟨v,r,rfl,I,rfl⟩:=s;simp only[bw] at I;obtain⟨O,a,y,rfl,a0,B⟩:=I;have K:=B 1 ⟨_,_,_,rfl,by simp⟩;simp only[ku,δp] at K;obtain⟨rfl,rfl⟩:=K.2.1 trivial trivial (by omega);have P:b<w.heap.size:=q.bnd 0 b y rfl;have R:=holds_of_blockI (ss:=l) L N;have S:Calls Tryz.prog (A1).f #[.slice (some ⟨b,0,none⟩) l.length y] w λe h=>e= .returned (.tuple #[])/\∃n z,h=Sort.grow (Sort.putRow (Value.int .i64) (Sort.ahead w n) b 0 (eV l).toArray) z:=
  calls_of_every_depth λD=>AnyS.slices_Sort_int_in Tryz.layS D b 0 y l w R P (by omega);refine Calls.mono S ?_;rintro e h ⟨rfl,n,z,rfl⟩;have t:=grownBy_sortedI (w:=w) (g:=b) (n:=n) (os:=z) (eV l).toArray;have W:=heap_sortedI (w:=w) (n:=n) (os:=z) (eV l).toArray L;have X:=take_putCellsI d (eV l) (by rw[wt];omega);have hz:(Sort.putCells (Value.int .i64) 0 (eV l).toArray d).size=d.size:=by simp[Sort.putCells]
 generalize Sort.grow (Sort.putRow (Value.int .i64) (Sort.ahead w n) b 0 (eV l).toArray) z=h at*;generalize Sort.putCells (Value.int .i64) 0 (eV l).toArray d=o at*;have hU:=q.upd (w':=h) (id:=0) (x':=.cells ((eV l).map λx=>δh (.int .i64 x)) 3 1 true) (s':=some (b,y)) rfl t.size t.os t.tape t.output
  (λk M E=>t.block k M λe=>by simp_all) (λb' c' e=>by simp_all)
  ⟨_,_,_,rfl,by simp[wt],λ_=>rfl⟩ ?_;·grind[bw,bD]
 ·intro hx;simp only[dC];refine⟨λ_=>by rw[<-oz];grind[qG],by rw[<-oz];grind[CH],.inr ⟨b,y,o,rfl,U,W,by omega,by grind[wt],?_⟩⟩;intro j c J;rw[δe] at J;obtain⟨x,G,rfl⟩:=δ.1 J;have Z:=(θ.1 G).1;refine⟨.int .i64 x,?_,by simp[bw,Value.oneCell']⟩;have h9:(o.toList.take (eV l).length)[j]?=((eV l).map (Value.int .i64))[j]?:=by rw[X]
  grind
theorem Uc {A:dK} {w:World} {l:List Int} {vs:List Value} {m:FuncId} (n:m=Tryz.layC_ren.f 41) (N:bU A w [] []) (K:l.length<=1000000) (B:bD A w [] [] [.sl l.length (l.map λx=>δh (.int .i64 x))] vs):
  Calls Tryz.prog m vs.toArray w λe w'=>RowKit.Below w.heap.size w w'/\((e= .returned (.slice none 0 0)/\l=[])\/∃g cap c,e= .returned (.slice (some ⟨g,0,none⟩) l.length cap)/\w.heap.size<=g/\w'.heap[g]?=some (.cells c 3 (0,0))/\l.length<=cap/\cap<=maxLen/\c.size=cap/\c.toList.take l.length=l.map (Value.int .i64)):=by
 subst n;simp only[bD] at B;obtain⟨v,r,rfl,t,rfl⟩:=B;simp only[bw] at t;obtain⟨a,cap,rfl,q,_,C⟩:=t;cases a with
 |none=>
  have z:l=[]:=by
   cases l<;>grind[dB]
  grind[Calls.mono,AnyE.slices_Clone_nil,Tryz.layC,RowKit.Below.refl];|some p=>
  have H:∀j u,(l.map (Value.int .i64))[j]?=some u->w.cell? (p.add j)=some u:=by
   intro j u s;rw[δe] at s;obtain⟨x,F,rfl⟩:=δ.1 s;obtain⟨b,v,e,_,o,y⟩:=dB.get _ _ _ C j (.sc (.int .i64 x)) (by simp[F]);grind[bw]
  refine Calls.mono (adN Tryz.layC Tryz.t3 (.int .i64 0) 1 8 (by kernel_rfl) (by kernel_rfl) (by kernel_rfl) (by kernel_rfl) (by kernel_rfl) (by omega) Tryz.sizeOf3 p l.length cap (l.map (Value.int .i64)) w (by simp) (by grind[maxLen]) (by omega) H (by simp[Value.oneCell'])) ?_;rintro e w' ⟨L,rfl,k,E,i⟩;refine⟨i,.inr ?_⟩;obtain⟨_,h|⟨g,d,c,rfl,J,I,D,G,M,O⟩⟩:=k;·simp_all
  ·exact⟨g,d,c,rfl,J,I,D,G,by omega,by simp_all⟩
def EJ:bL:=⟨86,List Int,.one (dV (.i .i64)),λl=>l.length<=1000000,λl=> .row (.i .i64) l⟩
theorem h330:Holds Tryz.prog EJ:=by
 intro(l:List Int) (hl:l.length<=1000000);refine⟨by kernel_rfl,?_⟩;intro A w σ vs hS hR;have hσ:σ=[]:=by have:=hS.len;simpa using this
 subst hσ;have e1:gL (EJ.A.put l)=[.sl l.length (l.map λx=>δh (.int .i64 x))]:=by rw[<-oz];rfl
 have e2:(EJ.res l).G= .sl l.length (l.map λx=>δh (.int .i64 x)):=by rw[<-oz];rfl
 rw[e1] at hR;rw[e2];refine Calls.mono (Uc (by rfl) hS hl hR) ?_;rintro e w' ⟨hb,h⟩;have hS':bU A w' [] []:=⟨rfl,by simp,by simp,by simp,by simp,λb h=>γu (hS.jW b h) hb.size⟩;have hE:Ext w [] [] w' [] []:=⟨hb.size,λb h _=>⟨hb.block b h,λ⟨i,c,hi⟩=>by simp at hi⟩,φ _,λ_ _ ⟨_,_,_,_,h,_⟩=>by simp at h,λ_ ⟨_,_,_,h⟩=>by simp at h,hb.os,hb.tape,hb.output⟩;rcases h with⟨rfl,rfl⟩|⟨g,cap,cur,rfl,h1,h2,h3,h4,h5,h6⟩;·exact⟨_,[],rfl,hS',by simp only[bw];exact⟨none,0,rfl,by simp,by rw[<-oz];exact qG _ _,by simp[dB]⟩,hE⟩
 ·refine⟨_,[],rfl,hS',?_,hE⟩;simp only[bw];refine⟨_,_,rfl,h3,by rw[<-oz];exact qG _ _,dB.lL _ _ _ λi c hi=>?_⟩;rw[δe] at hi;obtain⟨x,hx,rfl⟩:=δ.1 hi;have hil:=(θ.1 hx).1;have h9:(cur.toList.take l.length)[i]?=(l.map (Value.int .i64))[i]?:=by rw[h6]
  rw[List.getElem?_take_of_lt hil,Array.getElem?_toList,δe,hx] at h9;refine⟨⟨g,0,none⟩,.int .i64 x,rfl,⟨λ⟨i,c,hi⟩=>by simp at hi,λhA=>by have:=hS.jW g hA;omega⟩,?_,by simp[bw,Value.oneCell']⟩;rw[Addr.add_lit];simp only[World.cell?,h2,Nat.zero_add,Option.isSome_none,Bool.false_eq_true,if_false];exact h9
def wu:cZ where
 f:=86;α:=List Int;put a:=[.row (.i .i64) a];st a:=[];dec v o:=match v,o with
  |[.row t l],[]=>iI t (.i .i64) l
  |_,_=>none;ok v o a h:=by
  split at h
  ·obtain⟨rfl,hh⟩:=nj h;cases hh;exact⟨rfl,rfl⟩
  ·cases h
 inj a b e1 e2:=by
  simp only[gL,π,SV.g,εc,and_true] at e1;exact lU (.i .i64) (by simpa using e1.1) e1.2
 dom a:=a.length<=1000000;res a:=.ow 0 a.length 1;out a:=[.row (.i .i64) a 3 true]
theorem h330o:dJ Tryz.prog wu:=by
 intro(l:List Int) (E:l.length<=1000000);refine⟨by kernel_rfl,?_⟩;intro A w s G k p;replace k:bU A w s []:=k;replace p:bD A w s [] (gL (wu.put l)) G:=p;have q:s=[]:=by have:=k.len;simp_all
 subst q;have F:gL (wu.put l)=[.sl l.length (l.map λx=>δh (.int .i64 x))]:=by rw[<-oz];rfl
 have B:(wu.res l).g= .os 0 0 l.length (l.length*1):=rfl;have D:gO (wu.out l)=[bQ.cells (l.map λx=>δh (.int .i64 x)) 3 1 true]:=by rw[<-oz];rfl
 rw[F] at p;rw[B,D];show Calls _ _ _ _ λe n=>∃u f,e= .returned u/\bU A n f [bQ.cells (l.map λx=>δh (.int .i64 x)) 3 1 true]/\bw A n f [bQ.cells (l.map λx=>δh (.int .i64 x)) 3 1 true] (.os 0 0 l.length (l.length*1)) u/\Ext w [] [] n f [bQ.cells (l.map λx=>δh (.int .i64 x)) 3 1 true];refine Calls.mono (Uc (by rfl) k E p) ?_;rintro e n ⟨d,h⟩;have t:tB [bQ.cells (l.map λx=>δh (.int .i64 x)) 3 1 true] 0 (l.length*1):=⟨_,_,_,_,rfl,by simp⟩;rcases h with⟨rfl,rfl⟩|⟨g,m,o,rfl,P,z,C,J,O,I⟩
 ·refine⟨_,[none],rfl,⟨rfl,?_,?_,?_,?_,λb h=>γu (k.jW b h) d.size⟩,?_,d.size,λb h _=>⟨d.block b h,?_⟩,εM _,λ_ _ ⟨_,_,_,_,h,_⟩=>by simp at h,λ_ ⟨_,_,_,h⟩=>by simp at h,d.os,d.tape,d.output⟩;·grind
  ·grind
  ·intro i x a;cases i with
   |zero=>
    simp at a;subst a;simp only[dC];exact⟨λ_=>rfl,rfl,.inl (by simp)⟩;|succ i=>simp at a
  ·grind
  ·grind[bw,ku]
  ·rintro⟨i,c,a⟩;grind
 ·have L:g<n.heap.size:=(Array.getElem?_eq_some_iff.1 z).1;refine⟨_,[some (g,m)],rfl,⟨rfl,?_,?_,?_,?_,λb h=>γu (k.jW b h) d.size⟩,?_,d.size,λb h _=>⟨d.block b h,?_⟩,εM _,λ_ _ ⟨_,_,_,_,h,_⟩=>by simp at h,λ_ ⟨_,_,_,h⟩=>by simp at h,d.os,d.tape,d.output⟩;·grind
  ·grind
  ·intro i x a;cases i with
   |zero=>
    simp at a;subst a;simp only[dC];refine⟨λ_=>by rw[<-oz];grind[qG],by rw[<-oz];grind[CH],.inr ⟨g,m,o,rfl,J,z,by omega,by simp;omega,?_⟩⟩;intro j c v;rw[δe] at v;obtain⟨x,r,rfl⟩:=δ.1 v;have H:=(θ.1 r).1;refine⟨.int .i64 x,?_,by simp[bw,Value.oneCell']⟩;have N:(o.toList.take l.length)[j]?=(l.map (Value.int .i64))[j]?:=by rw[I]
    grind;|succ i=>simp at a
  ·intro i b c a;cases i with
   |zero=>
    simp at a;intro K;have:=k.jW b K;omega;|succ i=>simp at a
  ·simp only[bw];refine⟨t,_,_,rfl,C,λM y=>?_⟩;obtain⟨_,_,_,y,_⟩:=y;grind[ku,pL]
  ·rintro⟨i,c,a⟩;grind
def lF (l:List Int) (i j:Nat):List Int:=l.take i++l.drop j++ε (j - i) 0
theorem Ud {l:List Int} {i j:Nat} (a:i<=j) (b:j<=l.length):(lF l i j).length=l.length:=by
 grind[lF]
def wv:cZ where
 f:=166;α:=(Nat×List Int)×Int×Int;put a:=[.ow 0 a.1.1 1,.si .i64 a.2.1,.si .i64 a.2.2];st a:=[.row (.i .i64) a.1.2 3 true];dec v o:=match v,o with
  |[.ow 0 n 1,x,y],[.row t l 3 true]=>match iI t (.i .i64) l,x.int .i64,y.int .i64 with
   |some l,some i,some j=>some ((n,l),i,j)
   |_,_,_=>none
  |_,_=>none;ok v o a h:=by
  split at h
  ·split at h
   ·rename_i h4 h5 h6;simp only[γ] at h;subst h;obtain⟨rfl,hh⟩:=nj h4;cases hh;refine⟨?_,rfl⟩;simp only[gL,gP h5,gP h6];rfl
   ·cases h
  ·cases h
 inj a b e1 e2:=by
  obtain⟨⟨n,l⟩,i,j⟩:=a;obtain⟨⟨n',l'⟩,i',j'⟩:=b;simp only[gL,π,SV.g,εP,true_and,and_true,AV.sc.injEq,Value.int.injEq] at e1;simp only[gO,ι,γp,bq.g,π,bQ.cells.injEq,and_true,true_and] at e2;have h4:l=l':=by
   have hf:=congrArg γn e2;rw[fj,fj] at hf;exact lU (.i .i64) (by simpa[bn.sz] using hf) e2
  rw[e1.1.1,h4,e1.2.1,e1.2.2]
 dom a:=(a.1.1=a.1.2.length/\1<=a.1.2.length/\a.1.2.length<=1000000)/\0<=a.2.1/\a.2.1<=a.2.2/\a.2.2<=a.1.2.length;res a:=.os 0 0 (a.1.2.length - (a.2.2 - a.2.1).toNat) a.1.1 1;out a:=[.row (.i .i64) (lF a.1.2 a.2.1.toNat a.2.2.toNat) 3 true]
theorem h347:dJ Tryz.prog wv:=by
 rintro⟨⟨n,l⟩,i,j⟩ ⟨⟨H,K,h2⟩,i0,ij,Y⟩;simp only at H K h2 i0 ij Y;subst H;obtain⟨i,rfl⟩:∃k:Nat,i=k:=⟨i.toNat,by omega⟩;obtain⟨j,rfl⟩:∃k:Nat,j=k:=⟨j.toNat,by omega⟩;refine⟨by kernel_rfl,?_⟩;intro A w F X t z;have I:∀m:List Int,gO [bq.row (.i .i64) m 3 true]=[bQ.cells (m.map λx=>δh (.int .i64 x)) 3 1 true]:=λm=>by
  simp only[gO,ι,γp,bq.g,oz];rfl
 have V:gL (wv.put ((l.length,l),(i:Int),(j:Int)))=[.os 0 0 l.length (l.length*1),.sc (.int .i64 i),.sc (.int .i64 j)]:=rfl;have Z:(wv.res ((l.length,l),(i:Int),(j:Int))).g= .os 0 0 (l.length - (j - i)) (l.length*1):=by
  show AV.os 0 (0*1) (l.length - ((j:Int) - (i:Int)).toNat) (l.length*1)=_;simp_all
 show Calls _ _ _ _ λe h=>∃u p,e= .returned u/\bU A h p (gO [bq.row (.i .i64) (lF l i j) 3 true])/\bw A h p (gO [bq.row (.i .i64) (lF l i j) 3 true]) (wv.res ((l.length,l),(i:Int),(j:Int))).g u/\Ext w F (gO [bq.row (.i .i64) l 3 true]) h p (gO [bq.row (.i .i64) (lF l i j) 3 true]);replace t:bU A w F (gO [bq.row (.i .i64) l 3 true]):=t;replace z:bD A w F (gO [bq.row (.i .i64) l 3 true]) (gL (wv.put ((l.length,l),(i:Int),(j:Int)))) X:=z;rw[I] at t z;rw[I,I,Z];rw[V] at z;obtain⟨b,a2,d,rfl,S,Q,q4,q5,q6⟩:=Ub t K;simp only[bD] at z;obtain⟨v,r,rfl,M,v2,r2,rfl,C,v3,r3,rfl,D,rfl⟩:=z;simp only[bw] at M C D;obtain⟨a0,a,s,rfl,a3,J⟩:=M;obtain⟨rfl,_⟩:=C;obtain⟨rfl,_⟩:=D;have O:=J 1 ⟨_,_,_,rfl,by simp⟩;simp only[ku,δp] at O;obtain⟨rfl,rfl⟩:=O.2.1 trivial trivial (by omega);have hb:b<w.heap.size:=t.bnd 0 b s rfl;have W:=holds_of_blockI (ss:=l) Q q6;have T:maxLen=9223372036854775807:=rfl;have B:=@Ud l i j (by omega) (by omega);have E:Calls Tryz.prog (wv).f #[.slice (some ⟨b,0,none⟩) l.length s,.int .i64 i,.int .i64 j] w λe h=>e= .returned (.slice (some ⟨b,0,none⟩) (l.length - (j - i)) s)/\∃q,h=Sort.putRow (Value.int .i64) (Sort.ahead w q) b 0 (lF l i j).toArray:=by
  exact AnyE.slices_Delete Tryz.layD (Value.int .i64) (λ_=>rfl) 0 Tryz.zeroValue3 Tryz.t3 (by kernel_rfl) (by kernel_rfl) b 0 s i j l.toArray w W (by omega) (by omega) (by omega) (by simp;omega)
 refine Calls.mono E ?_;rintro e h ⟨rfl,q,rfl⟩;have y:=grownBy_sortedI (w:=w) (g:=b) (n:=q) (os:=#[]) (lF l i j).toArray;have L:=heap_sortedI (w:=w) (n:=q) (os:=#[]) (lF l i j).toArray Q;rw[Sort.grow_empty] at y L;have R:=take_putCellsI d (lF l i j) (by omega);have hz:(Sort.putCells (Value.int .i64) 0 (lF l i j).toArray d).size=d.size:=by simp[Sort.putCells]
 generalize Sort.putRow (Value.int .i64) (Sort.ahead w q) b 0 (lF l i j).toArray=h at*;generalize Sort.putCells (Value.int .i64) 0 (lF l i j).toArray d=o at*;have N:=t.upd (w':=h) (id:=0) (x':=.cells ((lF l i j).map λx=>δh (.int .i64 x)) 3 1 true) (s':=some (b,s)) rfl y.size y.os y.tape y.output
  (λk U H=>y.block k U λe=>by simp_all) (λb' c' e=>by simp_all)
  ⟨_,_,_,rfl,by simp[B],λ_=>rfl⟩ ?_
 ·refine⟨_,[some (b,s)],rfl,N.1,?_,N.2⟩;simp only[bw];refine⟨⟨_,_,_,_,rfl,by simp[B]⟩,_,_,rfl,by omega,λsz E=>?_⟩;obtain⟨_,_,_,E,_⟩:=E;grind[ku]
 ·intro hx;simp only[dC];refine⟨λ_=>by rw[<-oz];exact qG _ _,by rw[<-oz];exact CH _ _,.inr ⟨b,s,o,rfl,S,L,by omega,by simp_all,?_⟩⟩;intro k c P;rw[δe] at P;obtain⟨x,G,rfl⟩:=δ.1 P;have a1:=(θ.1 G).1;refine⟨.int .i64 x,?_,by simp[bw,Value.oneCell']⟩;have h9:(o.toList.take (lF l i j).length)[k]?=((lF l i j).map (Value.int .i64))[k]?:=by rw[R]
  grind
structure Game where
 rows:List (List Int)
 bounds:List Int
 offers:List Off
def A2:oV Game where
 put a:=.agg [.row (.bK (.i .i64)) a.rows,.row (.i .i64) a.bounds,.row .off a.offers];dec
  | .agg [r,v,x]=>match fZ (.bK (.i .i64)) r,fZ (.i .i64) v,fZ .off x with
   |some c,some v,some x=>some ⟨c,v,x⟩
   |_,_,_=>none
  |_=>none;ok v a h:=by
  grind[SV.g,gL,jI]
 inj a b h:=by
  obtain⟨c,v,x⟩:=a;obtain⟨l,k,j⟩:=b;simp only[SV.g,gL,AV.agg.injEq,π,and_true,true_and,εc] at h;have e:=lU (.bK (.i .i64)) h.1.1 h.1.2;have d:=lU (.i .i64) h.2.1.1 h.2.1.2;have f:=lU .off h.2.2.1 h.2.2.2;rw[e,d,f]
def EK:bL:=⟨59,bp,.one cY,λ_=>True,λp=> .si .i64 (if bC p=0 then dm p else 0)⟩
theorem h335:Holds Tryz.prog EK:=by
 refine cG (L:=[pV,xJ]) EK lk (by grind[h79,h157]) ?_;rintro(p:bp) -;refine bO (let c:=(0:Int);let b:=decide (bC p≠c);let a:=Ξ .i64 (if bC p=c then dm p else c);True/\(b=true->(γr .i64 0).same a)/\(b=false->p.classes.length<=8/\(Ξ .i64 (dm p)).same a)) (by kernel_rfl) ?_;simp only[vcs];refine⟨λh=>by rw[if_neg h],λh=>?_⟩;have c:bC p=0:=ω.1 h;rw[if_pos c];have:=(dn c).1;omega
def jN (p:bp) (r:Int) (n:Nat):List Int:=(p.offers.take n).map (eT p r)
def KU:bL:=⟨122,bp×Int,.cons cY (.one (dX .i64)),λa=>bC a.1=0/\0<=a.2/\a.2<dm a.1,λa=> .bH [.row (.i .i64) (jN a.1 a.2 a.1.offers.length),.si .i64 (dD a.1 a.2)]⟩
def adO (a:bp×Int):Nat->cC
 |5=> .inv Int (λi=>⟨[(1,.si .i64 a.2),(4,.ow 1 (jN a.1 a.2 i.toNat).length 1),(6,.ptr 2 0 20),(20,.row .off a.1.offers),(21,.si .i64 a.1.offers.length),(22,.si .i64 i)],[.cells a.1.ss 27 20 false,.row (.i .i64) (jN a.1 a.2 i.toNat) 3 true,.cells a.1.ss 110 20 false]⟩)
   (λs=>iS s 22) (λi=>0<=i/\i<=a.1.offers.length) (λi=>(a.1.offers.length - i).toNat) λ_ _=> .look
 |_=> .look
theorem h336:Holds Tryz.prog KU:=by
 refine cG (L:=[EK,xM,xK]) KU adO (by simpa using⟨h335,h156,h158⟩) ?_;rintro⟨p,r⟩ ⟨hc,r0,r1⟩;simp only at hc r0 r1;refine bO (let a:=Ξ .i64;let b:=(0:Int);let c:=Ψ;let d:=bq.row;let e:=SV.bH;let f:=γ8;let g:=bn.i .i64;let l:=c bn.off p.offers;let v:=decide (r<b);let o:=γr .i64 0;let w:=[a (dD p r)];let q:=e (c g (jN p r p.offers.length)::w);let y:=decide ((if bC p=b then dm p else b)<=r);let m:=γV 2 0 20;let z:=(↑p.offers.length:Int);let h:=(↑p.offers.length:Int);let s:=a h;let n:=λ(u:Nat) ↦let A:=bq.cells [a p.supply.a0,a p.supply.a1,a p.supply.a2,a p.supply.a3,a p.supply.a4,a p.supply.a5,a p.opn.a0,a p.opn.a1,a p.opn.a2,a p.opn.a3,a p.opn.a4,a p.opn.a5,a p.cls.a0,a p.cls.a1,a p.cls.a2,a p.cls.a3,a p.cls.a4,a p.cls.a5,c g p.classes,l] u 20 false;A.same A;(v=true->0=0/\(e [c g [],o]).same q)/\(v=false->True/\(y=true->0=0/\(e [c g [],o]).same q)/\(y=false->((((a r).same (a r)/\(f 1 0 1).same (f 1 (jN p r 0).length 1)/\m.same m/\l.same l/\(a z).same s/\o.same (a 0)/\True)/\n 27/\(d g [] 3 true).same (d g (jN p r 0) 3 true)/\n 110/\True)/\b<=b/\b<=h)/\∀(x:Int),let t:=bj p.offers x.toNat bn.off.dflt;let j:=jN p r x.toNat;let B:=j.length+1;let k:=x+(1:Int);let C:=j++[eT p r t];let D:=a k;b<=x/\x<=h->(decide (x<h)=true->b<=x/\x<z/\x.toNat<p.offers.length/\(p.classes.length<=8/\b<=r/\r<dm p/\b<=t.bE/\t.bE<(↑p.classes.length:Int))/\j.length=j.length/\B*8<=140737488355328/\B<=1000000000000/\bW .i64 k/\(((a r).same (a r)/\(f 1 C.length 1).same (f 1 (jN p r k.toNat).length 1)/\m.same m/\l.same l/\s.same s/\D.same D/\True)/\n 27/\(d g C 3 true).same (d g (jN p r k.toNat) 3 true)/\n 110/\True)/\(b<=k/\k<=h)/\(h - k).toNat<(h - x).toNat)/\(decide (x<h)=false->(p.classes.length<=8/\b<=r/\r<dm p)/\j.length=j.length/\(e (c g j::w)).same q)))) (by kernel_rfl) ?_;simp only[vcs];obtain⟨g1,g2,g3,g4,g5⟩:=dn hc;have how:∀{x y:Nat},x=y->(γ8 1 x 1).same (γ8 1 y 1):=by rintro _ _ rfl;rfl
 have hrow:∀{x y:List Int},x=y->(bq.row (.i .i64) x 3 true).same (bq.row (.i .i64) y 3 true):=by rintro _ _ rfl;rfl
 rw[if_pos hc];refine⟨λh=>by omega,λ_=>⟨λh=>by omega,λ_=>⟨⟨?_,by omega,by omega⟩,?_⟩⟩⟩;·exact⟨how rfl,hrow rfl⟩
 ·rintro i ⟨i0,i1⟩;have hL:(jN p r i.toNat).length<=160:=by unfold jN;rw[List.length_map,Ω];omega
  refine⟨λhi=>?_,λhi=>?_⟩
  ·have hx:=g5 _ (cO (d:=bn.off.dflt) (show i.toNat<p.offers.length by omega));have e:jN p r (i+1).toNat=jN p r i.toNat++[eT p r (bj p.offers i.toNat bn.off.dflt)]:=by
    unfold jN;rw[j4 (d:=bn.off.dflt) i0 hi,γb];rfl
   rw[e];refine⟨i0,hi,?_,⟨g1,r0,r1,hx.1,hx.2.1⟩,?_,?_,?_,⟨how rfl,hrow rfl⟩,?_,?_⟩<;>omega
  ·rw[show i.toNat=p.offers.length by omega];exact⟨⟨g1,r0,r1⟩,rfl⟩
def mq (p:bp) (n:Nat):List (List Int):=(τ n).map λr:Nat=>jN p r p.offers.length
def kh (p:bp) (n:Nat):List Int:=(τ n).map λr:Nat=>dD p r
def nR (p:bp):Nat:=if bC p=0 then p.classes.length+12 else 0
def cH (p:bp):Game:=⟨mq p (nR p),kh p (nR p),p.offers⟩
theorem Ue {p:bp} {n:Nat}:(mq p n).length=n:=by simp[mq]
theorem EL {p:bp} {n:Nat}:(kh p n).length=n:=by simp[kh]
theorem adP {p:bp} {i:Int} (h:0<=i):mq p (i+1).toNat=mq p i.toNat++[jN p i p.offers.length]:=by
 unfold mq;rw[show(i+1).toNat=i.toNat+1 from by omega,δr,γb];grind
theorem adQ {p:bp} {i:Int} (h:0<=i):kh p (i+1).toNat=kh p i.toNat++[dD p i]:=by
 unfold kh;rw[show(i+1).toNat=i.toNat+1 from by omega,δr,γb];grind
def EM:bL:=⟨85,bp,.one cY,λ_=>True,λp=>A2.put (cH p)⟩
def adS (p:bp):Nat->cC
 |3=> .inv Int (λi=>⟨[(1,.ptr 0 0 20),(2,.ptr 1 0 3),(3,.ptr 2 0 3),(11,.si .i64 (nR p)),(12,.si .i64 i)],[.cells p.ss 27 20 false,.cells [.sc (.slice none 0 0),.sc (.slice none 0 0),.sc (.slice none 0 0)] 124 3 false,.cells [.ow 4 (mq p i.toNat).length 1,.ow 3 (kh p i.toNat).length 1,.row .off p.offers] 124 3 false,.row (.i .i64) (kh p i.toNat) 3 true,.row (.bK (.i .i64)) (mq p i.toNat) 24 false]⟩)
   (λs=>iS s 12) (λi=>0<=i/\i<=nR p) (λi=>(nR p - i).toNat) λ_ _=> .look
 |_=> .look
theorem h325:Holds Tryz.prog EM:=by
 refine cG (L:=[EK,KU]) EM adS (by simpa using⟨h335,h336⟩) ?_;rintro(p:bp) -;refine bO (let a:=Ξ .i64;let b:=bq.row;let c:=(0:Int);let d:=bq.cells;let e:=Ψ;let f:=γ8;let g:=γV;let o:=g 0 0 20;let q:=g 1 0 3;let r:=g 2 0 3;let k:=(↑(nR p):Int);let u:=a k;let h:=bn.i .i64;let n:=[e bn.off p.offers];let s:=d (a p.supply.a0::a p.supply.a1::a p.supply.a2::a p.supply.a3::a p.supply.a4::a p.supply.a5::a p.opn.a0::a p.opn.a1::a p.opn.a2::a p.opn.a3::a p.opn.a4::a p.opn.a5::a p.cls.a0::a p.cls.a1::a p.cls.a2::a p.cls.a3::a p.cls.a4::a p.cls.a5::e h p.classes::n) 27 20 false;let v:=SV.sc (Value.slice none 0 0);let t:=d [v,v,v] 124 3 false;True/\(((o.same o/\q.same q/\r.same r/\(a (if bC p=c then dm p else c)).same u/\(γr .i64 0).same (a 0)/\True)/\s.same s/\t.same t/\(d (f 4 0 1::f 3 0 1::n) 124 3 false).same (d (f 4 (mq p 0).length 1::f 3 (kh p 0).length 1::n) 124 3 false)/\(b h [] 3 true).same (b h (kh p 0) 3 true)/\(b h.bK [] 24 false).same (b h.bK (mq p 0) 24 false)/\True)/\c<=c/\c<=k)/\∀(x:Int),let m:=mq p x.toNat;let w:=m.length+1;let l:=kh p x.toNat;let y:=l.length+1;let j:=x+(1:Int);let z:=a j;let A:=m++[jN p x p.offers.length];c<=x/\x<=k->(decide (x<k)=true->(bC p=c/\c<=x/\x<dm p)/\1=1/\m.length=m.length/\w*24<=140737488355328/\w<=1000000000000/\1=1/\l.length=l.length/\y*8<=140737488355328/\y<=1000000000000/\bW .i64 j/\((o.same o/\q.same q/\r.same r/\u.same u/\z.same z/\True)/\s.same s/\t.same t/\(d (f 4 A.length 1::f 3 (l++[dD p x]).length 1::n) 124 3 false).same (d (f 4 (mq p j.toNat).length 1::f 3 (kh p j.toNat).length 1::n) 124 3 false)/\(b h (l++[dD p x]) 3 true).same (b h (kh p j.toNat) 3 true)/\(b h.bK A 24 false).same (b h.bK (mq p j.toNat) 24 false)/\True)/\(c<=j/\j<=k)/\(k - j).toNat<(k - x).toNat)/\(decide (x<k)=false->m.length=m.length/\l.length=l.length/\(γG (e h.bK m::e h l::n)).same (γG [e h.bK (cH p).rows,e h (cH p).bounds,e bn.off (cH p).offers]))) (by kernel_rfl) ?_;simp only[vcs];have hn:∀x:Int,0<=x->x<nR p->bC p=0/\x<dm p/\nR p<=20:=by
  intro x hx0 hx;unfold nR at hx ⊢;split at hx
  ·rename_i hc;have:=(dn hc).1;rw[if_pos hc];exact⟨hc,by unfold dm;omega,by omega⟩
  ·omega
 have e0:(if bC p=0 then dm p else 0)=((nR p:Nat):Int):=by
  unfold nR dm;split;·omega
  ·rfl
 have hcell:∀{a a' b b':Nat} {l:List Off},a=a'->b=b'->(bq.cells [.ow 4 a 1,.ow 3 b 1,.row .off l] 124 3 false).same (.cells [.ow 4 a' 1,.ow 3 b' 1,.row .off l] 124 3 false):=by rintro _ _ _ _ _ rfl rfl;rfl
 have hrow:∀{x y:List Int},x=y->(bq.row (.i .i64) x 3 true).same (bq.row (.i .i64) y 3 true):=by rintro _ _ rfl;rfl
 have hrow2:∀{x y:List (List Int)},x=y->(bq.row (.bK (.i .i64)) x 24 false).same (bq.row (.bK (.i .i64)) y 24 false):=by rintro _ _ rfl;rfl
 refine⟨⟨⟨e0,hcell rfl rfl,hrow rfl,hrow2 rfl⟩,by omega,by omega⟩,?_⟩;rintro i ⟨i0,i1⟩;refine⟨λhi=>?_,λhi=>?_⟩
 ·obtain⟨hc,h1,h2⟩:=hn i i0 hi;have l1:=@Ue p i.toNat;have l2:=@EL p i.toNat;rw[adP i0,adQ i0];refine⟨⟨hc,i0,h1⟩,?_,?_,?_,?_,?_,⟨hcell rfl rfl,hrow rfl,hrow2 rfl⟩,?_,?_⟩<;>omega
 ·rw[show i.toNat=nR p by omega];rfl
def nM (g:Game):Prop:=(g.rows.length=g.bounds.length/\g.bounds.length<=1000/\g.offers.length<=1000)/\(∀r∈g.rows,r.length=g.offers.length/\∀x∈r,0<=x/\x<=1000)/\∀b∈g.bounds, -1000<=b/\b<=1000
def qg (g:Game) (c:List Int):Prop:=∀x∈c,0<=(bj g.offers x.toNat bn.off.dflt).value/\(bj g.offers x.toNat bn.off.dflt).value<=1000000
def pA (g:Game) (c:List Int):Prop:=c.length<=1000/\∀x∈c,0<=x/\x<g.offers.length
def mr (g:Game) (c:List Int) (r:Nat):Int:=(c.map λx=>bj (bj g.rows r []) x.toNat 0).sum
def li (g:Game) (c:List Int):Bool:=(τ g.bounds.length).all λr=>decide (0<=bj g.bounds r 0 - mr g c r)
def dF (g:Game) (c:List Int):Int:=(c.map λx=>(bj g.offers x.toNat bn.off.dflt).value).sum
theorem Uf {f:Int->Int} {c:List Int} {i:Int} (a:0<=i) (h:i<c.length):((c.take (i+1).toNat).map f).sum=((c.take i.toNat).map f).sum+f (bj c i.toNat 0):=by
 grind[j4]
theorem KV {f:Int->Int} {c:List Int} {k:Nat} {m:Int} (b:0<=m) (h:∀x∈c,0<=f x/\f x<=m):0<=((c.take k).map f).sum/\((c.take k).map f).sum<=c.length*m:=by
 induction c generalizing k with
 |nil=>simp;|cons x c a=>
  cases k with
  |zero=>simp;exact Int.mul_nonneg (by omega) b;|succ k=>
   have i:=h x (by simp);obtain⟨g,e⟩:=a (k:=k) λy d=>h y (by simp[d]);simp only[List.take_succ_cons,ι,List.sum_cons,γy];grind
def EN:bL:=⟨91,Game×List Int,.cons A2 (.one (dV (.i .i64))),λa=>nM a.1/\pA a.1 a.2,λa=> .sb (li a.1 a.2)⟩
def adT (g:Game) (c:List Int):Nat->cC
 |2=> .inv Int (λi=>⟨[(1,.row (.i .i64) c),(2,.ptr 0 0 3),(10,.row (.i .i64) g.bounds),(11,.si .i64 g.bounds.length),(12,.si .i64 i)],[.cells [.row (.bK (.i .i64)) g.rows,.row (.i .i64) g.bounds,.row .off g.offers] 124 3 false]⟩)
   (λs=>iS s 12) (λi=>(0<=i/\i<=g.bounds.length)/\∀r:Nat,r<i->0<=bj g.bounds r 0 - mr g c r) (λi=>(g.bounds.length - i).toNat) λi k=>match k with
   |5=> .inv (Int×Int) (λy=>⟨[(1,.row (.i .i64) c),(2,.ptr 0 0 3),(5,.si .i64 i),(6,.si .i64 y.2),(10,.row (.i .i64) g.bounds),(11,.si .i64 g.bounds.length),(12,.si .i64 i),(17,.row (.i .i64) c),(18,.si .i64 c.length),(19,.si .i64 y.1)],[.cells [.row (.bK (.i .i64)) g.rows,.row (.i .i64) g.bounds,.row .off g.offers] 124 3 false]⟩)
     (λs=>(iS s 19,iS s 6)) (λy=>(0<=y.1/\y.1<=c.length)/\y.2=bj g.bounds i.toNat 0 - mr g (c.take y.1.toNat) i.toNat) (λy=>(c.length - y.1).toNat) λ_ _=> .look
   |_=> .look
 |_=> .look
theorem h327:Holds Tryz.prog EN:=by
 refine cG (L:=[]) EN (λa=>adT a.1 a.2) (by simp) ?_;rintro⟨g,c⟩ ⟨⟨⟨q1,q2,q3⟩,hr,hb⟩,hcl,hci⟩;simp only at q1 q2 q3 hr hb hcl hci;refine bO (let a:=(0:Int);let b:=Ξ .i64;let d:=Ψ;let e:=γr .i64 0;let f:=bW .i64;let h:=bn.i .i64;let k:=γV 0 0 3;let j:=d h g.bounds;let z:=(↑g.bounds.length:Int);let l:=(↑g.bounds.length:Int);let o:=b l;let m:=bq.cells [d h.bK g.rows,j,d bn.off g.offers] 124 3 false;let n:=(↑c.length:Int);let v:=b n;((((d h c).same (d h c)/\k.same k/\j.same j/\(b z).same o/\(e).same (b 0)/\True)/\m.same m/\True)/\(a<=a/\a<=l)/\∀(r:Nat),(↑r:Int)<a->a<=bj g.bounds r a - mr g c r)/\∀(x:Int),let s:=bj g.bounds x.toNat a;let A:=b s;let w:=bj g.rows x.toNat h.bK.dflt;let p:=x+(1:Int);let B:=b p;((a<=x/\x<=l)/\∀(r:Nat),(↑r:Int)<x->a<=bj g.bounds r a - mr g c r)->(decide (x<l)=true->a<=x/\x<z/\x.toNat<g.bounds.length/\((((d h c).same (d h c)/\k.same k/\(b x).same (b x)/\A.same A/\j.same j/\o.same o/\(b x).same (b x)/\(d h c).same (d h c)/\(b (↑c.length:Int)).same v/\(e).same (b 0)/\True)/\m.same m/\True)/\(a<=a/\a<=n)/\s=s - mr g [] x.toNat)/\∀(x_1:Int×Int),let t:=bj c x_1.fst.toNat a;let y:=x_1.snd - bj w t.toNat a;let q:=x_1.fst+(1:Int);let u:=b x;let C:=b y;let D:=b q;let E:=decide (x_1.snd<a);(a<=x_1.fst/\x_1.fst<=n)/\x_1.snd=s - mr g (γd x_1.fst.toNat c) x.toNat->(decide (x_1.fst<n)=true->a<=x_1.fst/\x_1.fst<(↑c.length:Int)/\x_1.fst.toNat<c.length/\a<=x/\x<(↑g.rows.length:Int)/\x.toNat<g.rows.length/\a<=t/\t<(↑w.length:Int)/\t.toNat<w.length/\f y/\f q/\(((d h c).same (d h c)/\k.same k/\u.same u/\C.same C/\j.same j/\o.same o/\u.same u/\(d h c).same (d h c)/\v.same v/\D.same D/\True)/\m.same m/\True)/\((a<=q/\q<=n)/\y=s - mr g (γd q.toNat c) x.toNat)/\(n - q).toNat<(n - x_1.fst).toNat)/\(decide (x_1.fst<n)=false->(E=true->(SV.bl false).same (SV.sb (li g c)))/\(E=false->f p/\(((d h c).same (d h c)/\k.same k/\j.same j/\o.same o/\B.same B/\True)/\m.same m/\True)/\((a<=p/\p<=l)/\∀(r:Nat),(↑r:Int)<p->a<=bj g.bounds r a - mr g c r)/\(l - p).toNat<(l - x).toNat)))/\(decide (x<l)=false->(SV.bl true).same (SV.sb (li g c)))) (by kernel_rfl) ?_;simp only[vcs];have hd:(bn.i IntKind.i64).bK.dflt=([]:List Int):=rfl;rw[hd];have hrr:∀r:Nat,r<g.rows.length->(bj g.rows r []).length=g.offers.length/\∀x∈c,0<=bj (bj g.rows r []) x.toNat 0/\bj (bj g.rows r []) x.toNat 0<=1000:=λr h=>by
  have:=hr _ (cO (d:=[]) h);refine⟨this.1,λx hx=>?_⟩;have h2:=hci x hx;exact this.2 _ (cO (by rw[this.1];omega))
 refine⟨⟨by omega,λr h=>by omega⟩,?_⟩;rintro i ⟨⟨i0,i1⟩,hdone⟩;refine⟨λhi=>⟨i0,hi,by omega,⟨by omega,by simp[mr]⟩,?_⟩,λhi=>?_⟩
 ·obtain⟨hrl,hrx⟩:=hrr i.toNat (by omega);have hbi:=hb _ (cO (d:=0) (show i.toNat<g.bounds.length by omega));rintro⟨j,v⟩ ⟨⟨j0,j1⟩,hv⟩;simp only at j0 j1 hv ⊢;refine⟨λhj=>?_,λhj=>?_⟩
  ·have hx:=hci _ (cO (d:=0) (show j.toNat<c.length by omega));have hs:mr g (c.take (j+1).toNat) i.toNat=mr g (c.take j.toNat) i.toNat+bj (bj g.rows i.toNat []) (bj c j.toNat 0).toNat 0:=Uf (f:=λx=>bj (bj g.rows i.toNat []) x.toNat 0) j0 hj;have hbd:0<=mr g (c.take j.toNat) i.toNat/\mr g (c.take j.toNat) i.toNat<=c.length*1000:=KV (f:=λx=>bj (bj g.rows i.toNat []) x.toNat 0) (m:=1000) (by omega) hrx;have hvx:=hrx _ (cO (d:=0) (show j.toNat<c.length by omega));rw[hs,hrl];refine⟨j0,hj,?_,i0,?_,?_,hx.1,hx.2,?_,?_,?_,⟨?_,?_⟩,?_⟩<;>omega
  ·have hjc:j.toNat=c.length:=by omega
   rw[hjc,Δ] at hv;refine⟨λhneg=>?_,λhpos=>⟨by omega,⟨by omega,λr h=>?_⟩,by omega⟩⟩
   ·symm;rw[<-Bool.not_eq_true,li,Φ];intro h;have:=of_decide_eq_true (h i.toNat (γL.2 (by omega)));omega
   ·by_cases h2:(r:Int)<i;·exact hdone r h2
    ·rw[show r=i.toNat by omega,<-hv];omega
 ·symm;rw[li,Φ];intro r h;rw[γL] at h;exact decide_eq_true (hdone r (by omega))
def yH:bL:=⟨88,Game×List Int,.cons A2 (.one (dV (.i .i64))),λa=>nM a.1/\pA a.1 a.2/\qg a.1 a.2,λa=> .si .i64 (dF a.1 a.2)⟩
def adU (g:Game) (c:List Int):Nat->cC
 |3=> .inv Int (λi=>⟨[(2,.ptr 0 0 3),(5,.si .i64 (dF g (c.take i.toNat))),(8,.row (.i .i64) c),(9,.si .i64 c.length),(10,.si .i64 i)],[.cells [.row (.bK (.i .i64)) g.rows,.row (.i .i64) g.bounds,.row .off g.offers] 124 3 false]⟩)
   (λs=>iS s 10) (λi=>0<=i/\i<=c.length) (λi=>(c.length - i).toNat) λ_ _=> .look
 |_=> .look
theorem h328:Holds Tryz.prog yH:=by
 refine cG (L:=[]) yH (λa=>adU a.1 a.2) (by simp) ?_;rintro⟨g,c⟩ ⟨⟨⟨q1,q2,q3⟩,hr,hb⟩,⟨hcl,hci⟩,hvv⟩;simp only[qg] at q1 q2 q3 hr hb hcl hci hvv;refine bO (let a:=Ξ .i64;let b:=(0:Int);let d:=Ψ;let j:=γV 0 0 3;let n:=γr .i64 0;let f:=bn.i .i64;let e:=(↑c.length:Int);let m:=a e;let k:=bq.cells [d f.bK g.rows,d f g.bounds,d bn.off g.offers] 124 3 false;(((j.same j/\n.same (a (dF g []))/\(d f c).same (d f c)/\(a (↑c.length:Int)).same m/\n.same (a 0)/\True)/\k.same k/\True)/\b<=b/\b<=e)/\∀(x:Int),let l:=bj c x.toNat b;let o:=dF g (γd x.toNat c);let p:=o+(bj g.offers l.toNat bn.off.dflt).value;let h:=x+(1:Int);let q:=a h;b<=x/\x<=e->(decide (x<e)=true->b<=x/\x<(↑c.length:Int)/\x.toNat<c.length/\b<=l/\l<(↑g.offers.length:Int)/\l.toNat<g.offers.length/\bW .i64 p/\bW .i64 h/\((j.same j/\(a p).same (a (dF g (γd h.toNat c)))/\(d f c).same (d f c)/\m.same m/\q.same q/\True)/\k.same k/\True)/\(b<=h/\h<=e)/\(e - h).toNat<(e - x).toNat)/\(decide (x<e)=false->(a o).same (a (dF g c)))) (by kernel_rfl) ?_;conv=>zeta
 try simp only[vcs]
 refine⟨⟨by simp[dF],by omega,by omega⟩,?_⟩;rintro i ⟨i0,i1⟩;refine⟨λhi=>?_,λhi=>?_⟩
 ·have hx:=hci _ (cO (d:=0) (show i.toNat<c.length by omega));have hs:dF g (c.take (i+1).toNat)=dF g (c.take i.toNat)+(bj g.offers (bj c i.toNat 0).toNat bn.off.dflt).value:=Uf (f:=λx=>(bj g.offers x.toNat bn.off.dflt).value) i0 hi;have hbd:0<=dF g (c.take i.toNat)/\dF g (c.take i.toNat)<=c.length*1000000:=KV (f:=λx=>(bj g.offers x.toNat bn.off.dflt).value) (m:=1000000) (by omega) hvv;have hv1:=hvv _ (cO (d:=0) (show i.toNat<c.length by omega));rw[hs];refine⟨i0,hi,by omega,hx.1,hx.2,by omega,by omega,by omega,by first|trivial|rfl,by omega,by omega⟩
 ·rw[show i.toNat=c.length by omega,Δ]
def EO:bL:=⟨90,List Int×List Int,.cons (dV (.i .i64)) (.one (dV (.i .i64))),λa=>a.1.length<=1000/\1<=a.2.length/\a.2.length<=1000,λa=> .row (.i .i64) (eV (a.1++a.2))⟩
theorem h326:Holds Tryz.prog EO:=by
 refine con (L:=[]) (W:=fQ [wu,A1]) EO lk (kZ (by simpa using⟨h330o,h337⟩)) (by simp) ?_;rintro⟨s,x⟩ ⟨h1,h2,h3⟩;simp only at h1 h2 h3;refine bO (let z0:Nat:=(s++x).length;s.length<=1000000/\s.length=s.length/\(s.length+x.length)*8<=140737488355328/\s.length+x.length<=1000000000000/\((s++x).length=z0/\1<=z0/\z0<=1000000)/\(s++x).length=(eV (s++x)).length/\(Ψ (bn.i .i64) (eV (s++x))).same (Ψ (bn.i .i64) (eV (s++x)))) (by kernel_rfl) ?_;conv=>zeta
 try simp only[vcs]
 have:=@wt (s++x);rw[ν] at this ⊢;omega
def KW:bL:=⟨124,List Int×Int,.cons (dV (.i .i64)) (.one (dX .i64)),λa=>a.1.length<=1000/\0<=a.2/\a.2<a.1.length,λa=> .row (.i .i64) (a.1.take a.2.toNat++a.1.drop (a.2+1).toNat)⟩
theorem h339:Holds Tryz.prog KW:=by
 refine con (L:=[]) (W:=fQ [wu,wv]) KW lk (kZ (by grind[h330o,h347])) (by simp) ?_;rintro⟨s,i⟩ ⟨d,e,f⟩;simp only at d e f;refine bO (let a:=i+(1:Int);let c:=lF s i.toNat a.toNat;let b:=s.length - (a - i).toNat;s.length<=1000000/\bW .i64 a/\((s.length=s.length/\1<=s.length/\s.length<=1000000)/\(0:Int)<=i/\i<=a/\a<=(↑s.length:Int))/\s.length=c.length/\0+b<=s.length/\(Ψ (bn.i .i64) (γd b c)).same (Ψ (bn.i .i64) (γd i.toNat s++List.drop a.toNat s))) (by kernel_rfl) ?_;conv=>zeta
 try simp only[vcs]
 have g:=@Ud s i.toNat (i+1).toNat (by omega) (by omega);refine⟨by omega,by omega,by omega,g.symm,by omega,?_⟩;unfold lF;rw[List.take_append_of_le_length (by grind),γk (by grind)]
def s8 (c:List Int) (x:Int):Int:=if x∈c then(c.idxOf x:Int) else -1
theorem adV {c:List Int} {x:Int} {k:Nat} (h:k<c.length) (b:∀j:Nat,j<k->bj c j 0≠x) (a:bj c k 0=x):s8 c x=k:=by
 unfold s8;rw[if_pos (a▸cO h)];congr 1;rw[cQ h] at a;rw[List.idxOf,List.findIdx_eq h];grind[cQ]
theorem adW {c:List Int} {x:Int} (a:∀j:Nat,j<c.length->bj c j 0≠x):s8 c x= -1:=by
 unfold s8;rw[if_neg];intro h;obtain⟨k,b,rfl⟩:=δc h;grind[cQ]
theorem adX {c:List Int} {x:Int}:0<=s8 c x↔x∈c:=by
 grind[s8]
def KX:bL:=⟨167,List Int×Int,.cons (dV (.i .i64)) (.one (dX .i64)),λa=>a.1.length<=1000,λa=> .si .i64 (s8 a.1 a.2)⟩
def adY (c:List Int) (x:Int):Nat->cC
 |2=> .inv Int (λi=>⟨[(0,.row (.i .i64) c),(1,.si .i64 x),(7,.si .i64 c.length),(8,.si .i64 i)],[]⟩)
   (λs=>iS s 8) (λi=>(0<=i/\i<=c.length)/\∀k:Nat,(k:Int)<i->bj c k 0≠x) (λi=>(c.length - i).toNat) λ_ _=> .look
 |_=> .look
theorem h348:Holds Tryz.prog KX:=by
 refine cG (L:=[]) KX (λa=>adY a.1 a.2) (by simp) ?_;rintro⟨c,x⟩ o;replace o:c.length<=1000:=o;refine bO (let a:=Ξ .i64;let h:=(0:Int);let f:=Ψ (bn.i .i64) c;let d:=(↑c.length:Int);let g:=a d;let n:=a (s8 c x);(((f.same f/\(a x).same (a x)/\(a (↑c.length:Int)).same g/\(γr .i64 0).same (a 0)/\True)/\True)/\(h<=h/\h<=d)/\∀(k:Nat),(↑k:Int)<h->bj c k h≠x)/\∀(b:Int),let l:=decide (x=bj c b.toNat h);let e:=b+(1:Int);let j:=a x;let m:=a e;((h<=b/\b<=d)/\∀(k:Nat),(↑k:Int)<b->bj c k h≠x)->(decide (b<d)=true->h<=b/\b<(↑c.length:Int)/\b.toNat<c.length/\(l=true->(a b).same n)/\(l=false->bW .i64 e/\((f.same f/\j.same j/\g.same g/\m.same m/\True)/\True)/\((h<=e/\e<=d)/\∀(k:Nat),(↑k:Int)<e->bj c k h≠x)/\(d - e).toNat<(d - b).toNat))/\(decide (b<d)=false->(γr .i64 (-1:Int)).same n)) (by kernel_rfl) ?_;conv=>zeta
 try simp only[vcs]
 refine⟨⟨by omega,λk h=>by omega⟩,?_⟩;grind[adV,adW]
def KY:bL:=⟨125,List Int×Int,.cons (dV (.i .i64)) (.one (dX .i64)),λa=>a.1.length<=1000,λa=> .sb (decide (a.2∈a.1))⟩
theorem h340:Holds Tryz.prog KY:=by
 refine cG (L:=[KX]) KY lk (by grind[h348]) ?_;rintro⟨c,x⟩ a;replace a:c.length<=1000:=a;refine bO (c.length<=1000/\(SV.sb (decide ((0:Int)<=s8 c x))).same (SV.sb (decide (x∈c)))) (by kernel_rfl) ?_;simp_all[adX]
theorem EP {p:bp} (a:bC p=0) {r:Int}:0<=dD p r/\dD p r<=4:=by
 obtain⟨_,_,b,c,_⟩:=dn a;unfold dD;split;·omega
 ·split;all_goals simp_all[HN]
theorem Ug {p:bp} (h:p.offers.length<=1000):nM (cH p):=by
 have j:nR p<=20:=by
  unfold nR;split
  ·rename_i a;have:=(dn a).1;omega
  ·omega
 have d:0<nR p->bC p=0:=by
  grind[nR]
 refine⟨⟨?_,?_,h⟩,λr f=>?_,λb g=>?_⟩
 ·show(mq p (nR p)).length=(kh p (nR p)).length;rw[Ue,EL]
 ·show(kh p (nR p)).length<=1000;grind[EL]
 ·obtain⟨k,c,rfl⟩:=γg.1 (show r∈mq p (nR p) from f);rw[γL] at c;have a:=d (by omega);refine⟨by simp[jN,cH],λx i=>?_⟩;obtain⟨o,e,rfl⟩:=γg.1 (show x∈jN p k p.offers.length from i);have:=rL (p:=p) (r:=k) ((dn a).2.2.2.2 o (γm e)).2.2.1;omega
 ·obtain⟨k,c,rfl⟩:=γg.1 (show b∈kh p (nR p) from g);rw[γL] at c;have:=EP (d (by omega)) (r:=k);omega
def stepG (g:Game) (c:List Int) (x:Int):List Int:=if li g (eV (c++[x]))=true then eV (c++[x]) else c
def oC (g:Game) (l:List Int):List Int:=l.foldl (stepG g) []
def gC (p:bp):List Int:=if bC p=0 then wq p else[]
def jO (p:bp):List Int:=oC (cH p) (gC p)
theorem ER {l:List Int} {x:Int}:x∈eV l↔x∈l:=(εC _ _).mem_iff
theorem Uh {g:Game} {c:List Int} {x y:Int} (h:y∈stepG g c x):y∈c\/y=x:=by
 grind[stepG,ER]
theorem adZ {g:Game} {c:List Int} {x:Int}:(stepG g c x).length<=c.length+1:=by
 grind[stepG,wt]
theorem Ui {g:Game} {l:List Int}:∀{c:List Int} {y:Int},y∈l.foldl (stepG g) c->y∈c\/y∈l:=by
 induction l<;>grind[Uh]
theorem ad1 {g:Game} {l:List Int}:∀{c:List Int},(l.foldl (stepG g) c).length<=c.length+l.length:=by
 induction l<;>grind[stepG,adZ]
theorem ad2 {g:Game} {l:List Int}:(oC g l).length<=l.length:=by
 grind[ad1,oC]
theorem ad3 {g:Game} {l:List Int} {i:Int} (a:0<=i) (h:i<l.length):oC g (l.take (i+1).toNat)=stepG g (oC g (l.take i.toNat)) (bj l i.toNat 0):=by
 grind[oC,j4]
theorem KZ {p:bp} {x:Int} (h:x∈gC p):bC p=0/\iz p x:=by
 unfold gC at h;split at h
 ·rename_i a;rw[wq,yA,rW] at h;exact⟨a,h⟩
 ·simp at h
theorem Uj {p:bp}:(gC p).length<=p.offers.length:=by
 grind[gC,wq,ox,jy]
theorem ad4 {p:bp} (d:p.offers.length<=40) {k:Nat}:(oC (cH p) ((gC p).take k)).length<=40/\∀x∈oC (cH p) ((gC p).take k),bC p=0/\iz p x:=by
 have b:=@ad2 (cH p) ((gC p).take k);have c:=@Uj p;rw[Ω] at b;refine⟨by omega,λx a=>?_⟩;rcases Ui a with h|h<;>grind[Ui,KZ]
def A4:bL:=⟨54,bp,.one cY,λp=>p.offers.length<=40,λp=>lV.put ⟨jO p,dF (cH p) (jO p)⟩⟩
def ad5 (p:bp):Nat->cC
 |4=> .inv Int (λi=>⟨[(2,.ptr 1 0 2),(3,.ptr 2 0 3),(4,.row (.i .i64) (oC (cH p) ((gC p).take i.toNat))),(11,.row (.i .i64) (gC p)),(12,.si .i64 (gC p).length),(13,.si .i64 i)],[.cells p.ss 27 20 false,.cells [.sc (.slice none 0 0),.il .i64 0] 41 2 false,.cells [.row (.bK (.i .i64)) (cH p).rows,.row (.i .i64) (cH p).bounds,.row .off (cH p).offers] 124 3 false,.dead]⟩)
   (λs=>iS s 13) (λi=>0<=i/\i<=(gC p).length) (λi=>((gC p).length - i).toNat) λ_ _=> .look
 |_=> .look
theorem h312:Holds Tryz.prog A4:=by
 refine cG (L:=[EM,KT,EO,EN,yH]) A4 ad5 (by simpa using⟨h325,h308,h326,h327,h328⟩) ?_;intro(p:bp) (hp:p.offers.length<=40);refine bO (let a:=Ξ .i64;let b:=Ψ;let c:=(0:Int);let d:=bq.cells;let j:=γV 1 0 2;let k:=γV 2 0 3;let e:=bn.i .i64;let s:=if bC p=c then wq p else[];let o:=b e (gC p);let f:=(↑(gC p).length:Int);let q:=a f;let t:=γr .i64 0;let l:=d [a p.supply.a0,a p.supply.a1,a p.supply.a2,a p.supply.a3,a p.supply.a4,a p.supply.a5,a p.opn.a0,a p.opn.a1,a p.opn.a2,a p.opn.a3,a p.opn.a4,a p.opn.a5,a p.cls.a0,a p.cls.a1,a p.cls.a2,a p.cls.a3,a p.cls.a4,a p.cls.a5,b e p.classes,b bn.off p.offers] 27 20 false;let m:=d [SV.sc (Value.slice none 0 0),t] 41 2 false;let n:=d [b e.bK (cH p).rows,b e (cH p).bounds,b bn.off (cH p).offers] 124 3 false;True/\0=0/\p.offers.length<=40/\(((j.same j/\k.same k/\(b e []).same (b e (oC (cH p) []))/\(b e s).same o/\(a (↑s.length:Int)).same q/\t.same (a 0)/\True)/\l.same l/\m.same m/\n.same n/\bq.dead.same bq.dead/\True)/\c<=c/\c<=f)/\∀(x:Int),let g:=oC (cH p) (γd x.toNat (gC p));let r:=eV (g++[bj (gC p) x.toNat c]);let h:=x+(1:Int);let v:=a h;let w:=λ(u:Bool) (u_1:List Int) ↦li (cH p) r=u->bW .i64 h/\((j.same j/\k.same k/\(b e u_1).same (b e (oC (cH p) (γd h.toNat (gC p))))/\o.same o/\q.same q/\v.same v/\True)/\l.same l/\m.same m/\n.same n/\bq.dead.same bq.dead/\True)/\(c<=h/\h<=f)/\(f - h).toNat<(f - x).toNat;c<=x/\x<=f->(decide (x<f)=true->c<=x/\x<(↑(gC p).length:Int)/\x.toNat<(gC p).length/\(g.length<=1000/\1<=1/\1<=1000)/\(nM (cH p)/\pA (cH p) r)/\w true r/\w false g)/\(decide (x<f)=false->(nM (cH p)/\pA (cH p) g/\qg (cH p) g)/\(γG [b e g,a (dF (cH p) g)]).same (γG [b e (jO p),a (dF (cH p) (jO p))]))) (by kernel_rfl) ?_;conv=>zeta
 try simp only[vcs]
 have hg:=@Ug p (by omega);have hol:=@Uj p;have e0:(if bC p=0 then wq p else[])=gC p:=rfl;rw[e0];refine⟨hp,⟨⟨rfl,rfl,rfl⟩,by omega,by omega⟩,?_⟩
 ·rintro i ⟨i0,i1⟩;obtain⟨hsl,hsm⟩:=@ad4 p hp i.toNat;refine⟨λhi=>?_,λhi=>?_⟩
  ·have hs:=@ad3 (cH p) (gC p) i i0 hi;have hx:=KZ (cO (d:=0) (show i.toNat<(gC p).length by omega));rw[hs];generalize oC (cH p) ((gC p).take i.toNat)=c at*;refine⟨i0,hi,by omega,⟨by omega,by omega,by omega⟩,⟨hg,by rw[wt,ν];simp;omega,λx h=>?_⟩,λh=>⟨by omega,by unfold stepG;rw[if_pos h],by omega,by omega⟩,λh=>⟨by omega,by unfold stepG;rw[if_neg (by rw[h];simp)],by omega,by omega⟩⟩;rw[ER,Γ] at h;rcases h with h|h;·exact(hsm x h).2
   ·rw[List.mem_singleton] at h;rw[h];exact hx.2
  ·have hk:(gC p).take i.toNat=gC p:=γk (by omega);rw[hk] at hsl hsm ⊢;refine⟨⟨hg,⟨by omega,λx h=>(hsm x h).2⟩,λx h=>?_⟩,rfl⟩;obtain⟨hc,hx⟩:=hsm x h;have:=(AK hc hx).1;have e:(bj (cH p).offers x.toNat bn.off.dflt).value=rU p x:=rfl;rw[e];omega
end Go.Vi
