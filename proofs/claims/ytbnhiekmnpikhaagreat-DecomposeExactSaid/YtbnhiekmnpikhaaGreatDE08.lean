import Derived.Test.YtbnhiekmnpikhaaGreatDE07
import Derived.Shelf.Sort.AssemblyIn
import Derived.Shelf.SlicesE.Clone
import Derived.Shelf.SlicesE.Delete
import Derived.Shelf.SlSortCmp.NoneTotal
import Derived.Sort.EveryDepth
import Derived.Sort.OwnSortedInts
set_option maxRecDepth 100000
set_option maxHeartbeats 4000000
set_option linter.all false
open And renaming intro->γm
open Bool renaming and_eq_true->θ
open Classical renaming not_not->γe
open Go.Vi.AV renaming sc->δg
open Go.Vi.AV.os renaming injEq->εA
open Go.Vi.AV.sc renaming injEq->δe
open Go.Vi.AV.sl renaming injEq->δ7
open Go.Vi.SV renaming sb->γB,il->γC,si->γj,g->γF,ow->γ1,ptr->γV,row->γa,agg->γN,bl->δj
open Int renaming mul_nonneg->γy
open List renaming mergeSort_perm->δp,pairwise_mergeSort->δK,append_assoc->γG,take_append_drop->γT,pairwise_append->δI,map_cons->ξ,map_nil->γw,cons_append->γM,length->γd,drop->γ4,mem_of_mem_drop->γY,mem_of_mem_take->γn,mem_append->γi,nil_append->δP,drop_drop->δl,Pairwise->ζF,take_sublist->ζ4,range->ω,range_succ->εf,mem_map->Γ,mem_range->γD,replicate->δ,getElem?_cons_zero->δq,getElem?_map->γH,getElem?_eq_some_iff->ζ,length_take->γz,map_append->γb,take_succ_cons->δw,length_cons->γK,take->Δ,take_length->φ,take_of_length_le->γu,length_append->γh,map_map->γP,map_congr_left->γI,pairwise_cons->γr,exists_of_findSome?_eq_some->δZ,nodup_cons->γR,foldr_cons->ε5,foldr->θf,getElem_cons_drop->ζJ
open List.Pairwise renaming nil->δv
open List.Perm renaming refl->ζV
open List.cons renaming injEq->Θ
open Nat renaming le_refl->π,zero_le->δ6,lt_of_lt_of_le->γl
open Option renaming map_eq_some_iff->ε
open Option.some renaming injEq->γ
open Prod renaming ext->εE
namespace Go.Vi
open Go.Proofs.YtbnhiekmnpikhaaGreat.Ir
open Go.Proofs
def jo (D:Int->Int) (x y:Int):Bool:=decide (D y<D x)||(decide (D x=D y)&&decide (x<=y))
theorem xM {D:Int->Int} {x y:Int}:jo D x y=true↔D y<D x\/(D x=D y/\x<=y):=by grind[jo]
theorem MZ {D:Int->Int} (a b c:Int) (d:jo D a b=true) (e:jo D b c=true):jo D a c=true:=by
 grind[xM]
theorem Vr {D:Int->Int} (a b:Int):(jo D a b||jo D b a)=true:=by
 grind[xM]
theorem Vq {D:Int->Int} {a b:Int} (c:jo D a b=true) (d:jo D b a=true):a=b:=by
 grind[xM]
abbrev sm (D:Int->Int) (l:List Int):Prop:=l.Pairwise λa b=>jo D a b=true
def dz (D:Int->Int) (l:List Int):List Int:=l.mergeSort (jo D)
theorem xL {D:Int->Int} {l:List Int}:(dz D l).Perm l:=δp _ _
theorem MY {D:Int->Int} {l:List Int}:sm D (dz D l):=δK MZ Vr l
theorem qm {D:Int->Int} {l:List Int}:(dz D l).length=l.length:=xL.length_eq
theorem EF {D:Int->Int} {l:List Int} {x:Int}:x∈dz D l↔x∈l:=xL.mem_iff
theorem MX {D:Int->Int} {l m:List Int} (e:m.Perm l) (f:sm D m):m=dz D l:=
 List.Perm.eq_of_pairwise (λa b _ _ c d=>Vq c d) f MY (e.trans xL.symm)
theorem Vp {D:Int->Int} {l:List Int} (h:sm D l):dz D l=l:=(MX (ζV _) h).symm
def de (l:List Int) (a b:Nat):List Int:=(l.drop a).take (b - a)
def gd (D:Int->Int) (l:List Int) (a b:Nat):List Int:=l.take a++dz D (de l a b)++l.drop b
theorem sV {l:List Int} {a b:Nat} (c:a<=b) (d:b<=l.length):(de l a b).length=b - a:=by
 grind[de]
theorem EE {l:List Int} {a b:Nat} (c:a<=b) (d:b<l.length):de l a (b+1)=de l a b++[bN l b 0]:=by
 unfold de;rw[show b+1 - a=(b - a)+1 by omega,List.take_succ_eq_append_getElem (by grind),List.getElem_drop];grind[bW]
theorem MW {l:List Int} {a:Nat}:de l a a=[]:=by grind[de]
theorem MV {D:Int->Int} {l:List Int} {a b:Nat} (c:a<=b) (d:b<=l.length):(gd D l a b).length=l.length:=by
 grind[gd,qm,sV]
theorem MU {l:List Int} {i:Nat} (h:i<l.length):l.drop i=bN l i 0::l.drop (i+1):=by
 simp_all[bW]
theorem MT {D:Int->Int} {l:List Int} {a:Nat}:gd D l a a=l:=by
 simp_all[gd,MW,dz]
theorem V9 {D:Int->Int} {l:List Int} {a:Nat} (h:a<l.length):gd D l a (a+1)=l:=by
 have e:de l a (a+1)=[bN l a 0]:=by grind[EE,MW]
 unfold gd;rw[e,Vp (by simp),γG];simp only[List.singleton_append];rw[<-MU h,γT]
def kb (D:Int->Int) (l:List Int) (a i j:Nat):List Int:=l.take a++((dz D (de l a i)).take (j - a)++bN l i 0::(dz D (de l a i)).drop (j - a))++l.drop (i+1)
theorem V8 {D:Int->Int} {l:List Int} {a i j:Nat} (b:a<=i) (c:i<l.length):(kb D l a i j).length=l.length:=by
 grind[qm,sV,kb]
theorem V7 {D:Int->Int} {l:List Int} {a i:Nat} (b:a<=i) (c:i<l.length):kb D l a i i=gd D l a i:=by
 grind[qm,sV,kb,gd,MU]
theorem V6 {A B:List Int} {y x:Int}:((A++y::x::B).set (A.length+1) y).set A.length x=A++x::y::B:=by
 simp_all
theorem V5 {A B:List Int} {y:Int}:bN (A++y::B) A.length 0=y:=by grind[bN]
theorem V4 {A B:List Int} {y x:Int}:bN (A++y::x::B) (A.length+1) 0=x:=by grind[bN]
theorem V3 {D:Int->Int} {l:List Int} {a i k:Nat} (c:a+k+1<=i) (d:i<l.length):
  kb D l a i (a+k+1)=(l.take a++(dz D (de l a i)).take k)++bN (dz D (de l a i)) k 0::bN l i 0::((dz D (de l a i)).drop (k+1)++l.drop (i+1))/\
  kb D l a i (a+k)=(l.take a++(dz D (de l a i)).take k)++bN l i 0::bN (dz D (de l a i)) k 0::((dz D (de l a i)).drop (k+1)++l.drop (i+1))/\
  (l.take a++(dz D (de l a i)).take k).length=a+k:=by
 have b:=@qm D (de l a i);rw[sV (by omega) (by omega)] at b;have e:k<(dz D (de l a i)).length:=by omega
 have g:(dz D (de l a i)).take (k+1)=(dz D (de l a i)).take k++[bN (dz D (de l a i)) k 0]:=by simp_all[bW]
 have f:(dz D (de l a i)).drop k=bN (dz D (de l a i)) k 0::(dz D (de l a i)).drop (k+1):=by simp_all[bW]
 grind[kb]
theorem V2 {D:Int->Int} {l:List Int} {a i j:Nat} (g:a<j) (f:j<=i) (d:i<l.length):
  bN (kb D l a i j) j 0=bN l i 0/\bN (kb D l a i j) (j - 1) 0=bN (dz D (de l a i)) (j - 1 - a) 0/\
  ((kb D l a i j).set j (bN (dz D (de l a i)) (j - 1 - a) 0)).set (j - 1) (bN l i 0)=kb D l a i (j - 1):=by
 obtain⟨b,c,e⟩:=@V3 D l a i (j - 1 - a) (by omega) d;rw[show a+(j - 1 - a)+1=j by omega] at b;rw[show a+(j - 1 - a)=j - 1 by omega] at c e;rw[b,c];generalize l.take a++(dz D (de l a i)).take (j - 1 - a)=A at*;generalize bN (dz D (de l a i)) (j - 1 - a) 0=y at*;generalize bN l i 0=x at*;grind[V4,V5,V6]
theorem V1 {D:Int->Int} {S:List Int} {x:Int} {k:Nat} (n:sm D S) (d:∀s∈S.drop k,jo D x s=true) (b:k=0\/(k<=S.length/\jo D (bN S (k - 1) 0) x=true)):sm D (S.take k++x::S.drop k):=by
 have a:sm D (S.take k++S.drop k):=by simp_all
 obtain⟨g,f,i⟩:=δI.1 a;have j:∀s∈S.take k,jo D s x=true:=by
  rcases b with rfl|⟨h,b⟩;·simp
  ·intro s l;by_cases m:k=0;·simp_all
   have c:k - 1<S.length:=by omega
   have e:S.take k=S.take (k - 1)++[bN S (k - 1) 0]:=by
    conv=>lhs;rw[show k=(k - 1)+1 by omega]
    simp_all[bW]
   grind[MZ]
 rw[sm,δI];simp_all
theorem V0 {S:List Int} {x:Int} {k:Nat}:(S.take k++x::S.drop k).Perm (S++[x]):=by
 refine(List.perm_middle).trans ?_;rw[γT];grind
theorem VZ {D:Int->Int} {l:List Int} {a i j:Nat} (k:a<=j) (f:j<=i) (e:i<l.length) (b:∀s∈(dz D (de l a i)).drop (j - a),jo D (bN l i 0) s=true) (g:j=a\/jo D (bN (dz D (de l a i)) (j - 1 - a) 0) (bN l i 0)=true):
  kb D l a i j=gd D l a (i+1):=by
 have c:=@qm D (de l a i);rw[sV (by omega) (by omega)] at c;have d:sm D ((dz D (de l a i)).take (j - a)++bN l i 0::(dz D (de l a i)).drop (j - a)):=by
  refine V1 MY b ?_;grind
 have h:((dz D (de l a i)).take (j - a)++bN l i 0::(dz D (de l a i)).drop (j - a)).Perm (de l a (i+1)):=by
  rw[EE (by omega) e];exact V0.trans (List.Perm.append xL (ζV _))
 grind[kb,gd,MX]
def ED:NG:=⟨150,Int,.one (dZ .i64),λ_=>True,λ_=> .sb false⟩
theorem Iz:Holds Tryz.prog ED:=by
 refine bO (L:=[]) ED lk (by simp) ?_;rintro(x:Int) -;refine NI ((γB (decide (x≠x))).as (γB false)) (by kernel_rfl) ?_;simp_all
def vK (x y:Int):Int:=if x<y then -1 else if y<x then 1 else 0
def EC:NG:=⟨113,Int×Int,.cons (dZ .i64) (.one (dZ .i64)),λ_=>True,λa=> .si .i64 (vK a.1 a.2)⟩
theorem ID:Holds Tryz.prog EC:=by
 refine bO (L:=[ED]) EC lk (by grind[Iz]) ?_;rintro⟨x,y⟩ -;refine NI (let b:=γC .i64;let c:=γC .i64 0;let a:=γj .i64 (vK x y);True/\True/\(false=true->(false=true->(b 0).as a)/\(false=false->(b (-1:Int)).as a))/\(false=false->(false=true->(b 1).as a)/\(false=false->(decide (x<y)=true->(b (-1:Int)).as a)/\(decide (x<y)=false->(decide (y<x)=true->(b 1).as a)/\(decide (y<x)=false->(b 0).as a))))) (by kernel_rfl) ?_;simp_all[vK,if_neg]
def sU (b:oz):Int:=b.a0+b.a1+b.a2+b.a3+b.a4+b.a5
def EB:NG:=⟨114,oz,.one (dF .bun),λb=>b.ok=true,λb=> .si .i64 (sU b)⟩
theorem IC:Holds Tryz.prog EB:=by
 refine bO (L:=[]) EB (λ_ _=> .apl 7) (by simp) ?_;rintro(b:oz) (h:b.ok=true);have h:=oz.gT.1 h;refine NI (let d:=VL .i64;let a:=(0:Int)+b.a0+b.a1;let c:=a+b.a2+b.a3+b.a4;d ((0:Int)+b.a0)/\d a/\d (a+b.a2)/\d (a+b.a2+b.a3)/\d c/\d (c+b.a5)/\(γj .i64 (c+b.a5)).as (γj .i64 (sU b))) (by kernel_rfl) ?_;simp only[vcs];unfold sU;omega
def oI (p:cj) (i:Int):bD:=bN p.bi i.toNat ew.bt.bu
def pE (p:cj) (i:Int):Int:=(oI p i).value
def nN (p:cj) (i:Int):Int:=sU (oI p i).bw
def eC (p:cj) (i:Int):Int:=pE p i*(5354228880 / nN p i)
def lg (p:cj) (i:Int):Prop:=0<=i/\i<p.bi.length
theorem xK {p:cj} (b:nW p=0) {i:Int} (h:lg p i):(1<=pE p i/\pE p i<=1000000)/\(1<=nN p i/\nN p i<=24)/\(oI p i).bw.ok=true:=by
 obtain⟨j,k⟩:=h;have c:=cB (d:=ew.bt.bu) (show i.toNat<p.bi.length by omega);have a:=(cN b).2.2.2.2 _ c;have g:=(AO ((rH b).2 _ c)).2.1;have e:=oz.gT.1 a.2.2.1;have f:¬((oI p i).bw.a0=0/\(oI p i).bw.a1=0/\(oI p i).bw.a2=0/\(oI p i).bw.a3=0/\(oI p i).bw.a4=0/\(oI p i).bw.a5=0):=λh=>g (AX.2 h);have e:(0<=(oI p i).bw.a0/\(oI p i).bw.a0<=4)/\(0<=(oI p i).bw.a1/\(oI p i).bw.a1<=4)/\(0<=(oI p i).bw.a2/\(oI p i).bw.a2<=4)/\(0<=(oI p i).bw.a3/\(oI p i).bw.a3<=4)/\(0<=(oI p i).bw.a4/\(oI p i).bw.a4<=4)/\(0<=(oI p i).bw.a5/\(oI p i).bw.a5<=4):=e;refine⟨⟨a.2.2.2.1,a.2.2.2.2⟩,?_,a.2.2.1⟩;unfold nN sU;omega
theorem MS {t:Int} (a:1<=t) (b:t<=24):t*(5354228880 / t)=5354228880/\1<=5354228880 / t:=by
 have:t=1\/t=2\/t=3\/t=4\/t=5\/t=6\/t=7\/t=8\/t=9\/t=10\/t=11\/t=12\/t=13\/t=14\/t=15\/t=16\/t=17\/t=18\/t=19\/t=20\/t=21\/t=22\/t=23\/t=24:=by omega
 rcases this with rfl|rfl|rfl|rfl|rfl|rfl|rfl|rfl|rfl|rfl|rfl|rfl|rfl|rfl|rfl|rfl|rfl|rfl|rfl|rfl|rfl|rfl|rfl|rfl<;>decide
theorem VY {p:cj} (g:nW p=0) {x y:Int} (j:lg p x) (i:lg p y):eC p x<eC p y↔pE p x*nN p y<pE p y*nN p x:=by
 obtain⟨m,e,_⟩:=xK g j;obtain⟨u,f,_⟩:=xK g i;obtain⟨v,q⟩:=MS e.1 e.2;obtain⟨o,r⟩:=MS f.1 f.2;unfold eC;generalize 5354228880 / nN p x=d at*;generalize 5354228880 / nN p y=c at*;generalize pE p x=a at*;generalize pE p y=b at*;generalize nN p x=s at*;generalize nN p y=t at*;have k:0<d*c:=Int.mul_pos (by omega) (by omega);have l:(a*t)*(d*c)=(a*d)*5354228880:=by grind
 have n:(b*s)*(d*c)=(b*c)*5354228880:=by grind
 constructor
 ·intro h;have:(a*t)*(d*c)<(b*s)*(d*c):=by omega
  exact Int.lt_of_mul_lt_mul_right this (by omega)
 ·intro h;have:(a*t)*(d*c)<(b*s)*(d*c):=Int.mul_lt_mul_of_pos_right h k;omega
def xJ (p:cj) (x y:Int):Int:=vK (pE p y*nN p x) (pE p x*nN p y)
theorem VX {p:cj} (a:nW p=0) {x y:Int} (c:lg p x) (b:lg p y):xJ p x y<0↔eC p y<eC p x:=by
 rw[VY a b c];grind[xJ,vK]
def EA:cW where
 f:=112;α:=Int×Int×cj;put a:=[.si .i64 a.1,.si .i64 a.2.1,.ptr 0 0 20];st a:=[.cells a.2.2.ss 27 20 false];dec v o:=match v,o with
  |[x,y,.ptr 0 0 20],[.cells cs 27 20 false]=>match x.int .i64,y.int .i64,tK cs with
   |some x,some y,some p=>some (x,y,p)
   |_,_,_=>none
  |_,_=>none;ok v o a h:=by
  split at h
  ·split at h
   ·rename_i h1 h2 h3;simp only[γ] at h;subst h;refine⟨by simp only[gL,gU h1,gU h2];rfl,?_⟩;simp only[gO,ξ,γw,iZ.g,xt h3]
   ·cases h
  ·cases h
 inj a b h1 h2:=by
  simp only[gL,Θ,and_true,γF,δe,Value.int.injEq,true_and] at h1;simp only[gO,ξ,γw,iZ.g,Θ,OL.cells.injEq,and_true] at h2;have h3:=cX.inj a.2.2 b.2.2 (by simp only[cX,γF,h2]);exact εE h1.1 (εE h1.2 h3)
 dom a:=nW a.2.2=0/\lg a.2.2 a.1/\lg a.2.2 a.2.1;res a:=.si .i64 (xJ a.2.2 a.1 a.2.1);out a:=[.cells a.2.2.ss 27 20 false]
theorem IE:dD Tryz.prog EA:=by
 refine kq (L:=[EB,EC]) (W:=[]) EA lk (by simp) (by grind[IC,ID]) ?_;rintro⟨x,y,p⟩ ⟨f,e,c⟩;refine NI (let a:=ew.bt.bu;let d:=p.bi.length;let g:=bN p.bi x.toNat a;let h:=bN p.bi y.toNat a;let k:=h.value*sU g.bw;let l:=g.value*sU h.bw;let j:=iZ.cells (cj.ss p) 27 20 false;(0:Int)<=x/\x<(↑d:Int)/\x.toNat<d/\(0:Int)<=y/\y<(↑d:Int)/\y.toNat<d/\g.bw.ok=true/\VL .i64 k/\h.bw.ok=true/\VL .i64 l/\True/\(γj .i64 (vK k l)).as (γj .i64 (xJ p x y))/\j.as j/\True) (by kernel_rfl) ?_;simp only[vcs];have f:nW p=0:=f;have e:lg p x:=e;have c:lg p y:=c;obtain⟨s,w,q⟩:=xK f e;obtain⟨m,A,z⟩:=xK f c;obtain⟨o,n⟩:=e;obtain⟨B,r⟩:=c;have i:∀{v t:Int},1<=v/\v<=1000000->1<=t/\t<=24-> -9223372036854775808<=v*t/\v*t<=9223372036854775807:=λ{v t} C u=>by
  have a:=γy (show 0<=v by omega) (show 0<=t by omega);have b:=Int.mul_le_mul C.2 u.2 (by omega) (show(0:Int)<=1000000 by omega);omega
 exact⟨o,n,by omega,B,r,by omega,q,i m w,z,i s A,rfl⟩
def vJ:Nat->List SV->Option (List Int)
 |0,[.fn (.func 112) [] [.ptr 1 0 20]]=>some []
 |k+1,x::r=>match x.int .i64,vJ k r with
  |some n,some l=>some (n::l)
  |_,_=>none
 |_,_=>none
theorem MR:∀{k:Nat} {r:List SV} {l:List Int},vJ k r=some l->gL r=gL (l.map (γj .i64)++[.fn (.func 112) [] [.ptr 1 0 20]])
 |0,r,l,h=>by
  unfold vJ at h;split at h;·simp only[γ] at h;subst h;rfl
  ·rename_i h0;cases h0
  ·cases h;|k+1,[],l,h=>by simp[vJ] at h;|k+1,x::r,l,h=>by
  simp only[vJ] at h;split at h
  ·rename_i n l' h1 h2;simp only[γ] at h;subst h;simp only[gL,ξ,γM,MR h2,gU h1];rfl
  ·cases h
theorem MQ:∀{l m:List Int} {z:List SV},l.length=m.length->gL (l.map (γj .i64)++z)=gL (m.map (γj .i64)++z)->l=m
 |[],[],_,_,_=>rfl
 |[],_::_,_,h,_=>by simp at h;|_::_,[],_,h,_=>by simp at h;|x::l,y::m,z,hl,h=>by
  simp only[ξ,γM,gL,Θ,γF,δe,Value.int.injEq,true_and] at h;rw[h.1,MQ (by simpa using hl) h.2]
def Ez (f:FuncId) (k:Nat) (β:Type) (toL:β->List Int) (ofL:List Int->Option β) (h0:∀b,(toL b).length=k) (h1:∀l b,ofL l=some b->l=toL b) (h2:∀b c,toL b=toL c->b=c) (dom:(Nat×List Int×cj)×β->Prop) (out:(Nat×List Int×cj)×β->List Int):cW where
 f:=f;α:=(Nat×List Int×cj)×β;put a:=.ow 0 a.1.1 1::((toL a.2).map (γj .i64)++[.fn (.func 112) [] [.ptr 1 0 20]]);st a:=[.row (.i .i64) a.1.2.1 3 true,.cells a.1.2.2.ss 27 20 false];dec v o:=match v,o with
  | .ow 0 n 1::r,[.row t l 3 true,.cells cs 27 20 false]=>match vJ k r,gG t (.i .i64) l,tK cs with
   |some xs,some l,some p=>match ofL xs with
    |some b=>some ((n,l,p),b)
    |none=>none
   |_,_,_=>none
  |_,_=>none;ok v o a h:=by
  split at h
  ·split at h
   ·rename_i h3 h4 h5;split at h
    ·rename_i b hb;simp only[γ] at h;subst h;obtain⟨rfl,hh⟩:=lq h4;cases hh;have:=h1 _ _ hb;subst this;refine⟨by simp only[gL,MR h3],?_⟩;simp only[gO,ξ,γw,iZ.g,xt h5]
    ·cases h
   ·cases h
  ·cases h
 inj a b e1 e2:=by
  obtain⟨⟨n,l,p⟩,x⟩:=a;obtain⟨⟨n',l',p'⟩,x'⟩:=b;simp only[gL,Θ,γF,εA,true_and] at e1;simp only[gO,ξ,γw,iZ.g,Θ,OL.cells.injEq,and_true,true_and] at e2;have h3:p=p':=cX.inj p p' (by simp only[cX,γF,e2.2]);have h4:l=l':=by
   have hf:=congrArg γd e2.1;rw[ee,ee] at hf;exact ku (.i .i64) (by simpa[ew.sz] using hf) e2.1
  have h5:x=x':=h2 _ _ (MQ (by rw[h0,h0]) e1.2);rw[e1.1.1,h3,h4,h5]
 dom:=dom;res _:=.Gz [];out a:=[.row (.i .i64) (out a) 3 true,.cells a.1.2.2.ss 27 20 false]
abbrev Srg:=Nat×List Int×cj
def wC (b:Int×Int):List Int:=[b.1,b.2]
def Cf:List Int->Option (Int×Int)
 |[a,b]=>some (a,b)
 |_=>none
theorem VV:∀l b,Cf l=some b->l=wC b:=λl b h=>by
 unfold Cf at h;split at h;·simp only[γ] at h;subst h;rfl
 ·cases h
theorem VU:∀b c,wC b=wC c->b=c:=λb c h=>by
 unfold wC at h;simp only[Θ,and_true] at h;exact εE h.1 h.2
def sT (a:Srg):Prop:=(nW a.2.2=0/\a.1=a.2.1.length)/\a.2.1.length<=1000/\∀x∈a.2.1,lg a.2.2 x
def Ey (l:List Int) (a b:Int):Prop:=0<=a/\a<=b/\b<=l.length
theorem MP {l m:List Int} (h:l=m):(iZ.row (.i .i64) l 3 true).as (iZ.row (.i .i64) m 3 true):=by subst h;rfl
def Ex:cW:=Ez 172 2 (Int×Int) wC Cf (λ_=>rfl) VV VU (λa=>sT a.1/\Ey a.1.2.1 a.2.1 a.2.2/\(de a.1.2.1 a.2.1.toNat a.2.2.toNat).Pairwise (·<·)) λa=>gd (eC a.1.2.2) a.1.2.1 a.2.1.toNat a.2.2.toNat
def VT (n:Nat) (l:List Int) (p:cj) (a b:Int):Nat->bK
 |1=> .inv (Int×List Int) (λx=>⟨[(0,.ow 0 n 1),(1,.si .i64 a),(2,.si .i64 b),(3,.fn (.func 112) [] [.ptr 1 0 20]),(8,.si .i64 x.1)],[.row (.i .i64) x.2 3 true,.cells p.ss 27 20 false]⟩) (λs=>(iS s 8,oS (.i .i64) s 0))
   (λx=>(a<x.1/\(x.1<=b\/x.1=a+1))/\x.2=gd (eC p) l a.toNat (if a<b then x.1 else a).toNat) (λx=>(b - x.1).toNat) λx k=>match k with
    |4=> .inv (Int×List Int) (λy=>⟨[(0,.ow 0 n 1),(1,.si .i64 a),(2,.si .i64 b),(3,.fn (.func 112) [] [.ptr 1 0 20]),(8,.si .i64 x.1),(9,.si .i64 y.1)],[.row (.i .i64) y.2 3 true,.cells p.ss 27 20 false]⟩) (λs=>(iS s 9,oS (.i .i64) s 0))
      (λy=>(a<=y.1/\y.1<=x.1)/\y.2=kb (eC p) l a.toNat x.1.toNat y.1.toNat/\∀s∈(dz (eC p) (de l a.toNat x.1.toNat)).drop (y.1 - a).toNat,jo (eC p) (bN l x.1.toNat 0) s=true) (λy=>(y.1 - a).toNat) λ_ _=> .bz
    |_=> .bz
 |_=> .bz
theorem Iv:dD Tryz.prog Ex:=by
 refine kq (L:=[]) (W:=[EA]) Ex (λa=>VT a.1.1 a.1.2.1 a.1.2.2 a.2.1 a.2.2) (by simpa using IE) (by simp) ?_;rintro⟨⟨n,l,p⟩,a,b⟩ ⟨⟨⟨hc,hn⟩,hl,ho⟩,⟨a0,a1,a2⟩,hi⟩;refine NI (let c:=γj .i64;let d:=(0:Int);let e:=VL .i64;let f:=iZ.row;let g:=(1:Int);let m:=a+g;let o:=γ1 0 n 1;let q:=SV.fn (Fn.func 112) [] [γV 1 0 20];let E:=c m;let w:=ew.i .i64;let F:=f w l 3 true;let k:=iZ.cells [c p.bk.a0,c p.bk.a1,c p.bk.a2,c p.bk.a3,c p.bk.a4,c p.bk.a5,c p.bq.a0,c p.bq.a1,c p.bq.a2,c p.bq.a3,c p.bq.a4,c p.bq.a5,c p.bs.a0,c p.bs.a1,c p.bs.a2,c p.bs.a3,c p.bs.a4,c p.bs.a5,γa w p.bj,γa ew.bt p.bi] 27 20 false;e m/\(((o.as o/\(c a).as (c a)/\(c b).as (c b)/\q.as q/\E.as E/\True)/\F.as F/\k.as k/\True)/\(a<m/\(m<=b\/m=m))/\l=gd (eC p) l a.toNat (if a<b then m else a).toNat)/\∀(x:Int×List Int),let y:=c x.1;let B:=f w x.2 3 true;let r:=x.1.toNat;let C:=dz (eC p) (de l a.toNat r);let t:=x.1+g;let G:=c t;let N:=gd (eC p) l a.toNat (if a<b then t else a).toNat;(a<x.1/\(x.1<=b\/x.1=m))/\x.2=gd (eC p) l a.toNat (if a<b then x.1 else a).toNat->(decide (x.1<b)=true->(((o.as o/\(c a).as (c a)/\(c b).as (c b)/\q.as q/\y.as y/\y.as y/\True)/\B.as B/\k.as k/\True)/\(a<=x.1/\x.1<=x.1)/\x.2=kb (eC p) l a.toNat r r/\∀(s:Int),s∈γ4 (x.1 - a).toNat C->jo (eC p) (bN l r d) s=true)/\∀(x_1:Int×List Int),let H:=f w x_1.2 3 true;let v:=x_1.1.toNat;let D:=bN x_1.2 v d;let j:=x_1.1 - g;let z:=j.toNat;let A:=bN x_1.2 z d;let h:=x_1.2.length;let z23:Nat:=(x_1.2.set v A).length;let I:=c j;let J:=(x_1.2.set v A).set z D;let K:=f w J 3 true;let L:=e t/\((o.as o/\(c a).as (c a)/\(c b).as (c b)/\q.as q/\G.as G/\True)/\H.as H/\k.as k/\True)/\((a<t/\(t<=b\/t=m))/\x_1.2=N)/\(b - t).toNat<(b - x.1).toNat;let M:=λ(u:Bool) ↦decide (xJ p D A<d)=u;((a<=x_1.1/\x_1.1<=x.1)/\x_1.2=kb (eC p) l a.toNat r v/\∀(s:Int),s∈γ4 (x_1.1 - a).toNat C->jo (eC p) (bN l r d) s=true)->(decide (a<x_1.1)=true->n=h/\d<=x_1.1/\x_1.1<(↑h:Int)/\n=h/\v<h/\e j/\n=h/\d<=j/\j<(↑h:Int)/\n=h/\z<h/\(nW p=d/\lg p D/\lg p A)/\(M true->e j/\e j/\n=h/\d<=j/\j<(↑h:Int)/\n=h/\z<h/\n=h/\d<=x_1.1/\x_1.1<(↑h:Int)/\n=h/\v<h/\n=h/\d<=x_1.1/\x_1.1<(↑h:Int)/\n=h/\v<h/\n=z23/\d<=j/\j<(↑z23:Int)/\n=z23/\z<z23/\e j/\((o.as o/\(c a).as (c a)/\(c b).as (c b)/\q.as q/\y.as y/\I.as I/\True)/\K.as K/\k.as k/\True)/\((a<=j/\j<=x.1)/\J=kb (eC p) l a.toNat r z/\∀(s:Int),s∈γ4 (j - a).toNat C->jo (eC p) (bN l r d) s=true)/\(j - a).toNat<(x_1.1 - a).toNat)/\(M false->L))/\(decide (a<x_1.1)=false->L))/\(decide (x.1<b)=false->(SV.Gz []).as (SV.Gz [])/\B.as (f w (gd (eC p) l a.toNat b.toNat) 3 true)/\k.as k/\True)) (by kernel_rfl) ?_;simp only[vcs];have hc:nW p=0:=hc;have hn:n=l.length:=hn;have hl:l.length<=1000:=hl;have ho:∀x∈l,lg p x:=ho;have a0:0<=a:=a0;have a1:a<=b:=a1;have a2:b<=l.length:=a2;have hi:(de l a.toNat b.toNat).Pairwise (·<·):=hi;generalize hD:eC p=D at*;have sl:∀{i:Int},a<=i->i<=b->(gd D l a.toNat i.toNat).length=l.length:=λh1 h2=>MV (by omega) (by omega);refine⟨by omega,⟨⟨by omega,.inr trivial⟩,?_⟩,?_⟩
 ·by_cases hab:a<b;·rw[if_pos hab,show(a+1).toNat=a.toNat+1 by omega,V9 (by omega)]
  ·rw[if_neg hab,MT]
 rintro⟨i,m⟩ ⟨⟨i0,i1⟩,hm⟩;simp only at i0 i1 hm ⊢;refine⟨λhib=>?_,λhib=>MP ?_⟩
 ·rw[if_pos (by omega)] at hm;have hx:=ho _ (cB (d:=(0:Int)) (show i.toNat<l.length by omega));have hS:∀s∈dz D (de l a.toNat i.toNat),s<bN l i.toNat 0/\lg p s:=λs hs=>by
   have h1:=EF.1 hs;have h2:(de l a.toNat (i.toNat+1)).Pairwise (·<·):=by
    refine hi.sublist ?_;unfold de;exact List.take_sublist_take_left (by omega)
   rw[EE (by omega) (by omega)] at h2;refine⟨(δI.1 h2).2.2 s h1 _ (by simp),ho s ?_⟩;unfold de at h1;exact γY (γn h1)
  have hSl:(dz D (de l a.toNat i.toNat)).length=i.toNat - a.toNat:=by rw[qm,sV (by omega) (by omega)]
  have il:∀{j:Nat},(kb D l a.toNat i.toNat j).length=l.length:=λ{j}=>V8 (by omega) (by omega);refine⟨⟨⟨by omega,by omega⟩,?_,?_⟩,?_⟩;·rw[hm,V7 (by omega) (by omega)]
  ·intro s hs;rw[List.drop_of_length_le (by omega)] at hs;simp at hs
  rintro⟨j,m2⟩ ⟨⟨j0,j1⟩,hm2,hle⟩;simp only at j0 j1 hm2 hle ⊢;subst hm2;simp only[List.length_set,il];have fin:(j=a\/jo D (bN (dz D (de l a.toNat i.toNat)) (j.toNat - 1 - a.toNat) 0) (bN l i.toNat 0)=true)->kb D l a.toNat i.toNat j.toNat=gd D l a.toNat (if a<b then i+1 else a).toNat:=λh=>by
   rw[if_pos (by omega),show(i+1).toNat=i.toNat+1 by omega];refine VZ (by omega) (by omega) (by omega) ?_ ?_;·rw[show j.toNat - a.toNat=(j - a).toNat by omega];exact hle
   ·rcases h with h|h;·exact .inl (by omega)
    ·exact .inr h
  refine⟨λhj=>?_,λhj=>?_⟩
  ·obtain⟨k1,k2,k3⟩:=@V2 D l a.toNat i.toNat j.toNat (by omega) (by omega) (by omega);have ej:(j - 1).toNat=j.toNat - 1:=by omega
   rw[ej,k1,k2,k3];have hs:=cB (d:=(0:Int)) (show j.toNat - 1 - a.toNat<(dz D (de l a.toNat i.toNat)).length by omega);obtain⟨s1,s2⟩:=hS _ hs;have hcmp:=VX hc hx s2;rw[hD] at hcmp;rw[hcmp];refine⟨by omega,by omega,by omega,by omega,by omega,by omega,by omega,by omega,by omega,by omega,by omega,⟨hc,hx,s2⟩,λh1=>?_,λh1=>?_⟩
   ·repeat' refine γm ?_ ?_
    all_goals first|omega|rfl|skip
    intro s hs2;rw[show(j - 1 - a).toNat=j.toNat - 1 - a.toNat by omega,List.drop_eq_getElem_cons (show j.toNat - 1 - a.toNat<(dz D (de l a.toNat i.toNat)).length by omega)] at hs2;rcases List.mem_cons.1 hs2 with rfl|hs2
    ·rw[<-bW (d:=(0:Int))];exact xM.2 (.inl h1)
    ·refine hle s ?_;rw[show(j - a).toNat=j.toNat - 1 - a.toNat+1 by omega];exact hs2
   ·have:=fin (.inr (xM.2 (by omega)));repeat' refine γm ?_ ?_
    all_goals first|omega|exact this|rfl
  ·have:=fin (.inl (by omega));repeat' refine γm ?_ ?_
   all_goals first|omega|exact this|rfl
 ·rw[hm];by_cases hab:a<b;·rw[if_pos hab,show i=b by omega]
  ·rw[if_neg hab,show a=b by omega]
theorem VS {l:List Int} {a b:Nat} {x:Int} (h:x∈de l a b):x∈l:=by
 unfold de at h;exact γY (γn h)
theorem VR {D:Int->Int} {l:List Int} {a b:Nat} {x:Int} (h:x∈gd D l a b):x∈l:=by
 unfold gd at h;simp only[γi] at h;rcases h with(h|h)|h;·exact γn h
 ·exact VS (EF.1 h)
 ·exact γY h
def wD (b:Int):List Int:=[b]
def Cg:List Int->Option Int
 |[a]=>some a
 |_=>none
theorem VQ:∀l b,Cg l=some b->l=wD b:=λl b h=>by
 unfold Cg at h;split at h;·simp only[γ] at h;subst h;rfl
 ·cases h
theorem VP:∀b c,wD b=wD c->b=c:=λb c h=>by
 simp_all[wD]
def y_ (_:Unit):List Int:=[]
def Ch:List Int->Option Unit
 |[]=>some ()
 |_=>none
theorem VO:∀l b,Ch l=some b->l=y_ b:=λl b h=>by
 unfold Ch at h;split at h;·rfl
 ·cases h
theorem VN:∀b c,y_ b=y_ c->b=c:=λ_ _ _=>rfl
theorem MN {D:Int->Int} {l:List Int} {n:Nat} (h:n=l.length):gd D l 0 n=dz D l:=by
 grind[gd,de]
theorem VM {D:Int->Int} {l:List Int} {b c d:Nat} (h:b<=c) (e:b<=l.length):de (gd D l 0 b) c d=de l c d:=by
 have a:(dz D (de l 0 b)).length=b:=by grind[qm,sV]
 unfold gd;have:(l.take 0++dz D (de l 0 b)++l.drop b).drop c=l.drop c:=by
  rw[List.take_zero,δP,List.drop_append,List.drop_eq_nil_of_le (by omega),δP,δl,a,show b+(c - b)=c by omega]
 grind[de]
def Ew:cW:=Ez 149 1 Int wD Cg (λ_=>rfl) VQ VP (λa=>(sT a.1/\a.1.2.1.Pairwise (·<·))/\a.2=a.1.2.1.length/\a.1.2.1.length<=20) λa=>dz (eC a.1.2.2) a.1.2.1
def VH (n:Nat) (l:List Int) (p:cj):Nat->bK
 |2=> .inv (Int×Int×List Int) (λx=>⟨[(0,.ow 0 n 1),(1,.si .i64 l.length),(2,.fn (.func 112) [] [.ptr 1 0 20]),(6,.si .i64 20),(7,.si .i64 x.1),(8,.si .i64 x.2.1)],[.row (.i .i64) x.2.2 3 true,.cells p.ss 27 20 false]⟩) (λs=>(iS s 7,iS s 8,oS (.i .i64) s 0))
   (λx=>x.2.1=x.1+20/\(x.1=0/\x.2.2=l\/x.1=20/\l.length=20/\x.2.2=gd (eC p) l 0 20)) (λx=>(1000 - x.1).toNat) λ_ _=> .bz
 |7=> .inv (Int×List Int) (λx=>⟨[(0,.ow 0 n 1),(1,.si .i64 l.length),(2,.fn (.func 112) [] [.ptr 1 0 20]),(6,.si .i64 x.1)],[.row (.i .i64) x.2 3 true,.cells p.ss 27 20 false]⟩) (λs=>(iS s 6,oS (.i .i64) s 0))
   (λx=>x.1=20/\x.2=dz (eC p) l) (λx=>(1000 - x.1).toNat) λ_ _=> .bz
 |_=> .bz
theorem IA:dD Tryz.prog Ew:=by
 refine kq (L:=[]) (W:=[Ex]) Ew (λa=>VH a.1.1 a.1.2.1 a.1.2.2) (by simpa using Iv) (by simp) ?_;rintro⟨⟨n,l,p⟩,N⟩ ⟨⟨⟨⟨hc,hn⟩,hl,ho⟩,hi⟩,hN,h20⟩;simp only at hc hn hl ho hi hN h20;subst hN;refine NI (let a:=γj .i64;let b:=(20:Int);let c:=iZ.row;let d:=(0:Int);let e:=γC .i64;let g:=γ1 0 n 1;let h:=(↑l.length:Int);let j:=a h;let k:=SV.fn (Fn.func 112) [] [γV 1 0 20];let m:=a 20;let v:=e 0;let o:=ew.i .i64;let w:=c o l 3 true;let f:=iZ.cells [a p.bk.a0,a p.bk.a1,a p.bk.a2,a p.bk.a3,a p.bk.a4,a p.bk.a5,a p.bq.a0,a p.bq.a1,a p.bq.a2,a p.bq.a3,a p.bq.a4,a p.bq.a5,a p.bs.a0,a p.bs.a1,a p.bs.a2,a p.bs.a3,a p.bs.a4,a p.bs.a5,γa o p.bj,γa ew.bt p.bi] 27 20 false;let s:=gd (eC p) l 0 20;let t:=dz (eC p) l;(((g.as g/\j.as j/\k.as k/\(e 20).as m/\v.as (a 0)/\(e 20).as m/\True)/\w.as w/\f.as f/\True)/\b=b/\(d=d/\l=l\/d=b/\l.length=20/\l=s))/\∀(x:Int×Int×List Int),let y:=decide (x.2.1<=h);let q:=x.1.toNat;let r:=x.2.1+b;let z:=a x.2.1;let A:=a r;let u:=gd (eC p) x.2.2 q x.2.1.toNat;let B:=c o u 3 true;let C:=gd (eC p) x.2.2 q h.toNat;let D:=c o C 3 true;x.2.1=x.1+b/\(x.1=d/\x.2.2=l\/x.1=b/\l.length=20/\x.2.2=s)->(y=true->(sT (n,x.2.2,p)/\Ey x.2.2 x.1 x.2.1/\ζF (λx1 x2 ↦x1<x2) (de x.2.2 q x.2.1.toNat))/\VL .i64 r/\((g.as g/\j.as j/\k.as k/\m.as m/\z.as z/\A.as A/\True)/\B.as B/\f.as f/\True)/\(r=r/\(x.2.1=d/\u=l\/x.2.1=b/\l.length=20/\u=s))/\((1000:Int) - x.2.1).toNat<((1000:Int) - x.1).toNat)/\(y=false->(sT (n,x.2.2,p)/\Ey x.2.2 x.1 h/\ζF (λx1 x2 ↦x1<x2) (de x.2.2 q h.toNat))/\(((g.as g/\j.as j/\k.as k/\m.as m/\True)/\D.as D/\f.as f/\True)/\b=b/\C=t)/\∀(x:Int×List Int),let E:=c o x.2 3 true;x.1=b/\x.2=t->(decide (x.1<h)=true->VL .i64 ((2:Int)*x.1)/\uf (bF.mk [(0,g),(1,j),(2,k),(6,a x.1),(7,v),(8,a ((2:Int)*x.1))] [E,f]))/\(decide (x.1<h)=false->(SV.Gz []).as (SV.Gz [])/\E.as (c o t 3 true)/\f.as f/\True))) (by kernel_rfl) ?_;simp only[vcs];have pw:∀a b,(de l a b).Pairwise (·<·):=λa b=>List.Pairwise.sublist ((ζ4 _ _).trans (List.drop_sublist _ _)) hi;have e0:((l.length:Int)).toNat=l.length:=by omega
 rw[e0];refine⟨.inl trivial,?_⟩;rintro⟨a,b,w⟩ ⟨hb,hw⟩;simp only at hb hw ⊢;subst hb;refine⟨λh=>?_,λh=>?_⟩
 ·rcases hw with⟨rfl,rfl⟩|⟨rfl,h2,rfl⟩;·refine⟨⟨⟨⟨hc,hn⟩,hl,ho⟩,⟨?_,?_,?_⟩,pw _ _⟩,?_,.inr ⟨?_,?_,rfl⟩,?_⟩<;>omega
  ·omega
 ·refine⟨?_,?_,?_⟩
  ·rcases hw with⟨rfl,rfl⟩|⟨rfl,h2,rfl⟩;·refine⟨⟨⟨hc,hn⟩,hl,ho⟩,⟨?_,?_,?_⟩,pw _ _⟩<;>omega
   ·have hw:=@MV (eC p) l 0 20 (by omega) (by omega);exact⟨⟨⟨hc,by simp only[hw];exact hn⟩,by simp only[hw];exact hl,λx hx=>ho x (VR hx)⟩,⟨by omega,by omega,by rw[hw];omega⟩,by rw[VM (by omega) (by omega)];exact pw _ _⟩
  ·rcases hw with⟨rfl,rfl⟩|⟨rfl,h2,rfl⟩;·exact MN rfl
   ·rw[h2];show gd _ _ 20 20=_;rw[MT];exact MN h2.symm
  ·rintro⟨s,w⟩ hw;simp only at hw ⊢;exact⟨λh=>by omega,λh=>MP hw.2⟩
def Eu:cW:=Ez 111 0 Unit y_ Ch (λ_=>rfl) VO VN (λa=>(sT a.1/\a.1.2.1.Pairwise (·<·))/\a.1.2.1.length<=20) λa=>dz (eC a.1.2.2) a.1.2.1
theorem IF:dD Tryz.prog Eu:=by
 refine kq (L:=[]) (W:=[Ew]) Eu lk (by simpa using IA) (by simp) ?_;rintro⟨⟨n,l,p⟩,u⟩ ⟨⟨⟨⟨hc,hn⟩,hl,ho⟩,hi⟩,h20⟩;simp only at hc hn hl ho hi h20;refine NI (let a:=iZ.row (ew.i .i64) (dz (eC p) l) 3 true;let b:=iZ.cells (cj.ss p) 27 20 false;((sT (n,l,p)/\ζF (λx1 x2 ↦x1<x2) l)/\(↑n:Int)=(↑l.length:Int)/\l.length<=20)/\(SV.Gz []).as (SV.Gz [])/\a.as a/\b.as b/\True) (by kernel_rfl) ?_;simp only[vcs];exact⟨⟨⟨⟨hc,hn⟩,hl,ho⟩,hi⟩,by omega,h20⟩
def cA (n:Nat):List Int:=(ω n).map λi:Nat=>(i:Int)
theorem gR {n:Nat}:(cA n).length=n:=by simp[cA]
theorem ql {n:Nat}:cA (n+1)=cA n++[(n:Int)]:=by simp[cA,εf]
theorem nM {n:Nat}:(cA n).Pairwise (·<·):=by
 unfold cA;rw[List.pairwise_map];exact List.pairwise_lt_range.imp λh=>by omega
theorem ji {n:Nat} {x:Int}:x∈cA n↔0<=x/\x<n:=by
 unfold cA;rw[Γ];constructor;·grind
 ·rintro⟨b,a⟩;exact⟨x.toNat,γD.2 (by omega),by omega⟩
def lG (n i:Nat):List Int:=cA i++δ (n - i) 0
theorem MM {n i:Nat} (h:i<=n):(lG n i).length=n:=by grind[lG,gR]
theorem VG {n:Nat}:lG n 0=δ n 0:=by simp[lG,cA]
theorem Wh {n:Nat}:lG n n=cA n:=by simp[lG]
theorem Wg {n i:Nat} (h:i<n):(lG n i).set i (i:Int)=lG n (i+1):=by
 unfold lG;rw[List.set_append_right _ _ (by grind[gR]),gR,Nat.sub_self,show n - i=(n - (i+1))+1 by omega,List.replicate_succ,List.set_cons_zero,ql,γG];rfl
def sS (p:cj):List Int:=dz (eC p) (cA p.bi.length)
def Et:NG:=⟨76,cj,.one cX,λp=>p.bi.length<=20,λp=> .row (.i .i64) (if nW p=0 then sS p else[])⟩
def Wf (p:cj):Nat->bK
 |5=> .inv Int (λi=>⟨[(1,.ptr 0 0 20),(3,.ow 1 (lG p.bi.length i.toNat).length 1),(13,.si .i64 p.bi.length),(14,.si .i64 i)],[.cells p.ss 27 20 false,.row (.i .i64) (lG p.bi.length i.toNat) 3 true]⟩)
   (λs=>iS s 14) (λi=>0<=i/\i<=p.bi.length) (λi=>(p.bi.length - i).toNat) λ_ _=> .bz
 |_=> .bz
theorem IG:Holds Tryz.prog Et:=by
 refine j7 (L:=[mW]) (W:=fT [Eu]) Et Wf (ke (by simpa using IF)) (by simpa using om) ?_;intro(p:cj) (hp:p.bi.length<=20);refine NI (let a:=γj .i64;let b:=(0:Int);let c:=iZ.row;let d:=γa;let e:=γ1;let r:=decide (nW p≠b);let g:=ew.i .i64;let s:=d g (if nW p=b then sS p else[]);let h:=(↑p.bi.length:Int);let n:=γV 0 0 20;let l:=p.bi.length;let j:=(↑l:Int);let q:=a j;let o:=iZ.cells [a p.bk.a0,a p.bk.a1,a p.bk.a2,a p.bk.a3,a p.bk.a4,a p.bk.a5,a p.bq.a0,a p.bq.a1,a p.bq.a2,a p.bq.a3,a p.bq.a4,a p.bq.a5,a p.bs.a0,a p.bs.a1,a p.bs.a2,a p.bs.a3,a p.bs.a4,a p.bs.a5,d g p.bj,d ew.bt p.bi] 27 20 false;True/\(r=true->(d g []).as s)/\(r=false->b<=h/\h<=h/\h*(8:Int)<=(140737488355328:Int)/\h<=(1000000000000:Int)/\(((n.as n/\(e 1 h.toNat 1).as (e 1 (lG l 0).length 1)/\(a (↑h.toNat:Int)).as q/\(γC .i64 0).as (a 0)/\True)/\o.as o/\(c g (δ h.toNat b) 3 true).as (c g (lG l 0) 3 true)/\True)/\b<=b/\b<=j)/\∀(x:Int),let f:=lG l x.toNat;let m:=f.length;let k:=x+(1:Int);let t:=a k;b<=x/\x<=j->(decide (x<j)=true->m=f.length/\b<=x/\x<(↑f.length:Int)/\m=f.length/\x.toNat<f.length/\VL .i64 k/\((n.as n/\(e 1 m 1).as (e 1 (lG l k.toNat).length 1)/\q.as q/\t.as t/\True)/\o.as o/\(c g (f.set x.toNat x) 3 true).as (c g (lG l k.toNat) 3 true)/\True)/\(b<=k/\k<=j)/\(j - k).toNat<(j - x).toNat)/\(decide (x<j)=false->((sT (m,f,p)/\ζF (λx1 x2 ↦x1<x2) f)/\m<=20)/\m=(dz (eC p) f).length/\(d g (dz (eC p) f)).as s))) (by kernel_rfl) ?_;simp only[vcs];refine⟨λh=>by rw[if_neg h],λh=>?_⟩;have hc:nW p=0:=γe.1 h;rw[if_pos hc];have e0:((p.bi.length:Int)).toNat=p.bi.length:=by omega
 have how:∀{x y:Nat},x=y->(γ1 1 x 1).as (γ1 1 y 1):=by rintro _ _ rfl;rfl
 rw[e0,VG];refine⟨by omega,by omega,by omega,by omega,⟨⟨⟨how (by simp),rfl⟩,rfl⟩,by omega,by omega⟩,?_⟩;rintro i ⟨i0,i1⟩;have hL:=@MM p.bi.length i.toNat (by omega);refine⟨λhi=>?_,λhi=>?_⟩
 ·have hs:=@Wg p.bi.length i.toNat (by omega);rw[show((i.toNat:Nat):Int)=i by omega] at hs;have I1:=@MM p.bi.length (i.toNat+1) (by omega);rw[show(i+1).toNat=i.toNat+1 by omega,hs];exact⟨i0,by omega,by omega,by omega,⟨how (by omega),rfl⟩,by omega,by omega⟩
 ·rw[show i.toNat=p.bi.length by omega,Wh];refine⟨⟨⟨⟨⟨hc,rfl⟩,by simp only[gR];omega,λx hx=>by have:=ji.1 hx;exact this⟩,nM⟩,by simp only[gR];omega⟩,by rw[qm],rfl⟩
end Go.Vi
namespace Go.Proofs
open Go.Shelf
def Tryz.pe:Ren:=
 ⟨λ
  |189=>57
  |125=>69
  |257=>82
  |128=>98
  |129=>99
  |294=>117
  |295=>118
  |296=>119
  |297=>120
  |298=>121
  |299=>122
  |216=>123
  |300=>124
  |301=>125
  |328=>151
  |329=>127
  |330=>128
  |331=>152
  |332=>153
  |215=>154
  |343=>174
  |n=>n,
 λ
  |28=>24
  |3=>3
  |46=>55
  |0=>0
  |51=>172
  |53=>53
  |4=>4
  |183=>165
  |182=>164
  |131=>169
  |5=>5
  |9=>9
  |218=>209
  |222=>213
  |228=>246
  |229=>109
  |n=>n,
 λn=>n⟩
def Tryz.k8:Ren:=
 ⟨λ
  |41=>52
  |n=>n,
 λ
  |22=>24
  |23=>3
  |4=>4
  |n=>n,
 λn=>n⟩
def Tryz.pg:Ren:=
 ⟨λ
  |45=>147
  |n=>n,
 λ
  |22=>24
  |23=>3
  |3=>3
  |4=>4
  |0=>0
  |n=>n,
 λn=>n⟩
def Tryz.pf:Ren:=
 ⟨λ
  |6=>50
  |15=>69
  |14=>68
  |28=>98
  |29=>99
  |20=>90
  |21=>91
  |22=>92
  |23=>93
  |24=>94
  |25=>95
  |26=>96
  |27=>97
  |46=>126
  |47=>127
  |48=>128
  |49=>129
  |50=>130
  |57=>155
  |n=>n,
 λ
  |22=>30
  |24=>24
  |25=>34
  |3=>3
  |39=>55
  |0=>0
  |53=>172
  |55=>53
  |4=>4
  |46=>165
  |45=>164
  |50=>169
  |5=>5
  |9=>9
  |66=>209
  |70=>213
  |76=>246
  |77=>109
  |n=>n,
 λn=>n⟩
theorem Tryz.Hy:Lays.n189 Tryz.prog Tryz.pe:={mixed:=by kernel_rfl,f125:=Tryz.func69.trans (by kernel_rfl),f128:=Tryz.func98.trans (by kernel_rfl),f129:=Tryz.func99.trans (by kernel_rfl),f189:=Tryz.func57.trans (by kernel_rfl),f215:=Tryz.func154.trans (by kernel_rfl),f216:=Tryz.func123.trans (by kernel_rfl),f257:=Tryz.func82.trans (by kernel_rfl),f294:=Tryz.func117.trans (by kernel_rfl),f295:=Tryz.func118.trans (by kernel_rfl),f296:=Tryz.func119.trans (by kernel_rfl),f297:=Tryz.func120.trans (by kernel_rfl),f298:=Tryz.func121.trans (by kernel_rfl),f299:=Tryz.func122.trans (by kernel_rfl),f300:=Tryz.func124.trans (by kernel_rfl),f301:=Tryz.func125.trans (by kernel_rfl),f328:=Tryz.func151.trans (by kernel_rfl),f329:=Tryz.func127.trans (by kernel_rfl),f330:=Tryz.func128.trans (by kernel_rfl),f331:=Tryz.func152.trans (by kernel_rfl),f332:=Tryz.func153.trans (by kernel_rfl),f343:=Tryz.func174.trans (by kernel_rfl),t0:=Tryz.underlying0,a0:=Tryz.isAgg0,z0:=Tryz.sizeOf0,v0:=Tryz.zeroValue0,t3:=Tryz.underlying3,a3:=Tryz.isAgg3,z3:=Tryz.sizeOf3,v3:=Tryz.zeroValue3,t4:=Tryz.underlying4,a4:=Tryz.isAgg4,z4:=Tryz.sizeOf4,v4:=Tryz.zeroValue4,t5:=Tryz.underlying5,a5:=Tryz.isAgg5,z5:=Tryz.sizeOf5,v5:=Tryz.zeroValue5,t9:=Tryz.underlying9,a9:=Tryz.isAgg9,z9:=Tryz.sizeOf9,v9:=Tryz.zeroValue9,t28:=Tryz.underlying24,a28:=Tryz.isAgg24,z28:=Tryz.sizeOf24,v28:=Tryz.zeroValue24,t46:=Tryz.underlying55,a46:=Tryz.isAgg55,z46:=Tryz.sizeOf55,v46:=Tryz.zeroValue55,t51:=Tryz.underlying172,a51:=Tryz.isAgg172,z51:=Tryz.sizeOf172,v51:=Tryz.zeroValue172,t53:=Tryz.underlying53,a53:=Tryz.isAgg53,z53:=Tryz.sizeOf53,v53:=Tryz.zeroValue53,t131:=Tryz.underlying169,a131:=Tryz.isAgg169,z131:=Tryz.sizeOf169,v131:=Tryz.zeroValue169,t182:=Tryz.underlying164,a182:=Tryz.isAgg164,z182:=Tryz.sizeOf164,v182:=Tryz.zeroValue164,t183:=Tryz.underlying165,a183:=Tryz.isAgg165,z183:=Tryz.sizeOf165,v183:=Tryz.zeroValue165,t218:=Tryz.underlying209,a218:=Tryz.isAgg209,z218:=Tryz.sizeOf209,v218:=Tryz.zeroValue209,t222:=Tryz.underlying213,a222:=Tryz.isAgg213,z222:=Tryz.sizeOf213,v222:=Tryz.zeroValue213,t228:=Tryz.underlying246,a228:=Tryz.isAgg246,z228:=Tryz.sizeOf246,v228:=Tryz.zeroValue246,t229:=Tryz.underlying109,a229:=Tryz.isAgg109,z229:=Tryz.sizeOf109,v229:=Tryz.zeroValue109}
theorem Tryz.tV:SlLaysE0.n41 Tryz.prog Tryz.k8:={mixed:=by kernel_rfl,f41:=⟨Tryz.f52.name,by decide,Tryz.func52.trans (by kernel_rfl)⟩,t4:=Tryz.underlying4,a4:=Tryz.isAgg4,z4:=Tryz.sizeOf4,v4:=Tryz.zeroValue4,t22:=Tryz.underlying24,a22:=Tryz.isAgg24,z22:=Tryz.sizeOf24,v22:=Tryz.zeroValue24}
theorem Tryz.Hz:SlLaysE.n45 Tryz.prog Tryz.pg:={mixed:=by kernel_rfl,f45:=⟨Tryz.f147.name,by decide,Tryz.func147.trans (by kernel_rfl)⟩,t0:=Tryz.underlying0,a0:=Tryz.isAgg0,z0:=Tryz.sizeOf0,v0:=Tryz.zeroValue0,t3:=Tryz.underlying3,a3:=Tryz.isAgg3,z3:=Tryz.sizeOf3,v3:=Tryz.zeroValue3,t4:=Tryz.underlying4,a4:=Tryz.isAgg4,z4:=Tryz.sizeOf4,v4:=Tryz.zeroValue4,t22:=Tryz.underlying24,a22:=Tryz.isAgg24,z22:=Tryz.sizeOf24,v22:=Tryz.zeroValue24,a23:=Tryz.isAgg3,z23:=Tryz.sizeOf3}
theorem Tryz.tU:SlLaysF.n6 Tryz.prog Tryz.pf:={mixed:=by kernel_rfl,f6:=⟨Tryz.f50.name,by decide,Tryz.func50.trans (by kernel_rfl)⟩,f14:=⟨Tryz.f68.name,by decide,Tryz.func68.trans (by kernel_rfl)⟩,f15:=Tryz.func69.trans (by kernel_rfl),f20:=⟨Tryz.f90.name,by decide,Tryz.func90.trans (by kernel_rfl)⟩,f21:=⟨Tryz.f91.name,by decide,Tryz.func91.trans (by kernel_rfl)⟩,f22:=⟨Tryz.f92.name,by decide,Tryz.func92.trans (by kernel_rfl)⟩,f23:=⟨Tryz.f93.name,by decide,Tryz.func93.trans (by kernel_rfl)⟩,f24:=⟨Tryz.f94.name,by decide,Tryz.func94.trans (by kernel_rfl)⟩,f25:=⟨Tryz.f95.name,by decide,Tryz.func95.trans (by kernel_rfl)⟩,f26:=⟨Tryz.f96.name,by decide,Tryz.func96.trans (by kernel_rfl)⟩,f27:=⟨Tryz.f97.name,by decide,Tryz.func97.trans (by kernel_rfl)⟩,f28:=Tryz.func98.trans (by kernel_rfl),f29:=Tryz.func99.trans (by kernel_rfl),f46:=⟨Tryz.f126.name,by decide,Tryz.func126.trans (by kernel_rfl)⟩,f47:=Tryz.func127.trans (by kernel_rfl),f48:=Tryz.func128.trans (by kernel_rfl),f49:=⟨Tryz.f129.name,by decide,Tryz.func129.trans (by kernel_rfl)⟩,f50:=⟨Tryz.f130.name,by decide,Tryz.func130.trans (by kernel_rfl)⟩,f57:=⟨Tryz.f155.name,by decide,Tryz.func155.trans (by kernel_rfl)⟩,t0:=Tryz.underlying0,a0:=Tryz.isAgg0,z0:=Tryz.sizeOf0,v0:=Tryz.zeroValue0,t3:=Tryz.underlying3,a3:=Tryz.isAgg3,z3:=Tryz.sizeOf3,v3:=Tryz.zeroValue3,t4:=Tryz.underlying4,a4:=Tryz.isAgg4,z4:=Tryz.sizeOf4,v4:=Tryz.zeroValue4,t5:=Tryz.underlying5,a5:=Tryz.isAgg5,z5:=Tryz.sizeOf5,v5:=Tryz.zeroValue5,t9:=Tryz.underlying9,a9:=Tryz.isAgg9,z9:=Tryz.sizeOf9,v9:=Tryz.zeroValue9,t22:=Tryz.underlying30,a22:=Tryz.isAgg30,z22:=Tryz.sizeOf30,v22:=Tryz.zeroValue30,a24:=Tryz.isAgg24,z24:=Tryz.sizeOf24,t25:=Tryz.underlying34,a25:=Tryz.isAgg34,z25:=Tryz.sizeOf34,v25:=Tryz.zeroValue34,t39:=Tryz.underlying55,a39:=Tryz.isAgg55,z39:=Tryz.sizeOf55,v39:=Tryz.zeroValue55,t45:=Tryz.underlying164,a45:=Tryz.isAgg164,z45:=Tryz.sizeOf164,v45:=Tryz.zeroValue164,t46:=Tryz.underlying165,a46:=Tryz.isAgg165,z46:=Tryz.sizeOf165,v46:=Tryz.zeroValue165,t50:=Tryz.underlying169,a50:=Tryz.isAgg169,z50:=Tryz.sizeOf169,v50:=Tryz.zeroValue169,t53:=Tryz.underlying172,a53:=Tryz.isAgg172,z53:=Tryz.sizeOf172,v53:=Tryz.zeroValue172,t55:=Tryz.underlying53,a55:=Tryz.isAgg53,z55:=Tryz.sizeOf53,v55:=Tryz.zeroValue53,t66:=Tryz.underlying209,a66:=Tryz.isAgg209,z66:=Tryz.sizeOf209,v66:=Tryz.zeroValue209,t70:=Tryz.underlying213,a70:=Tryz.isAgg213,z70:=Tryz.sizeOf213,v70:=Tryz.zeroValue213,t76:=Tryz.underlying246,a76:=Tryz.isAgg246,z76:=Tryz.sizeOf246,v76:=Tryz.zeroValue246,t77:=Tryz.underlying109,a77:=Tryz.isAgg109,z77:=Tryz.sizeOf109,v77:=Tryz.zeroValue109}
end Go.Proofs
namespace Go.Proofs
open Go.Shelf Go.RowKit Go.Lib
theorem ML {P:Program} {ρ:Ren} (L:SlLaysE0.n41 P ρ) (i0:TypeInfo) (z:Value) (b g:Nat) (I:P.info? (ρ.t 23)=some i0) (x:i0.zero=some z) (y:i0.size=b) (q:i0.bytes=g) (m:z.cells.size=b) (o:0<b)
  (Q:∀w,(Go.sizeOf (ρ.t 23)).run P w= .ok b w) (p:Addr) (n c:Nat) (d:List Value) (w:World) (K:d.length=n*b) (U:n<=maxLen) (B:n*g<=140737488355328)
  (C:∀j u,d[j]?=some u->w.cell? (p.add j)=some u) (E:∀u∈d,u.oneCell'=true):
  Calls P (ρ.f 41) #[.slice (some p) n c] w λe w'=>∃l,e= .returned l/\w'.ownsRow w.heap.size (ρ.t 23) b l n d/\l≠ .slice none 0 0/\Below w.heap.size w w':=by
 have v:=L.mixed;have W:=L.t4;have V:=L.a4;have T:=L.z4;have S:=L.v4;have i:=L.t22;have N:=L.a22;have O:=L.z22;have H:=L.v22;have G:∀(w:World) (a:Option Addr) (n c r s:Nat),(binOp .eql (ρ.t 22) (.slice a n c) (.slice none r s)).run P w= .ok (.bool a.isNone) w:=λw a n c r s=>Lib.run_eql_slice_nil w _ _ a n c r s L.t22;have F:∀w,Sem.run P (underlying (ρ.t 22)) w= .ok (TypeDesc.slice (ρ.t 23)) w:=run_underlying i;have A:Aside (∀j u,d[j]?=some u->w.cell? (p.add j)=some u):=C;clear C;obtain⟨_,_,M⟩:=L.f41;go_enter M,SlBodyN.n41_ntmps ρ;go_wp2_with (at_builtin;refine wpList_append_own _ rfl _ _ (ρ.t 22) rfl w.heap.size (ρ.t 23) i0 z b g i I x y q m o _ _ _ rfl (World.ownsRow_made w #[] 0 (π _) (δ6 _) (by simp)) p n c d rfl ?qc1 ?qc2 ?qc3 ?qc4 ?qc5 ?qc6 ?_);case qc1=>exact K
 case qc2=>
  intro j u J;exact Lib.cell?_alloc_some _ (A.out j u J)
 case qc3=>exact E
 case qc4=>omega
 case qc5=>simp_all
 case qc6=>simp
 intro l R D h k;go_wp2;go_ret;refine⟨l,rfl,by omega,?_,?_⟩;·exact k
 ·exact((Below.refl _ w).alloc (π _) _).grown h (by simp) (by grind[Value.ownBlock])
end Go.Proofs
namespace Go.Vi
open Go.Proofs.YtbnhiekmnpikhaaGreat.Ir
open Go.Proofs
theorem lF (l:List Int):bQ (.i .i64) l=l.map λx=>δg (.int .i64 x):=by
 unfold bQ;induction l with
 |nil=>rfl;|cons x l a=>rw[List.flatMap_cons,a];rfl
theorem MK {A:dg} {w:World} {σ:TN} {l:List Int} {e:TypeId} (d:OM A w σ [.cells (l.map λx=>δg (.int .i64 x)) e 1 true]) (s:1<=l.length):
  ∃b cap arr,σ=[some (b,cap)]/\cap<=maxLen/\w.heap[b]?=some (.cells arr e (0,0))/\arr.size=cap/\l.length<=cap/\arr.toList.take l.length=l.map (Value.int .i64):=by
 have f:=d.obj 0 _ rfl;simp only[cT] at f;obtain⟨_,_,h|⟨b,cap,arr,a,n,g,r,p,i⟩⟩:=f;·simp_all
 ·have c:=d.len;simp at c;have m:l.length<=arr.size:=by simp_all
  refine⟨b,cap,arr,?_,n,g,by omega,by omega,?_⟩;·match σ,c,a with
   |[x],_,a=>simp_all
  ·apply List.ext_getElem?;intro j;by_cases k:j<l.length
   ·obtain⟨v,o,q⟩:=i j (.sc (.int .i64 l[j])) (by simp[k]);grind[nA]
   simp_all
def dr (l:List Int):List Int:=l.mergeSort λx y=>decide (x<=y)
theorem pD {l:List Int}:(dr l).length=l.length:=(δp _ _).length_eq
def yh:cW where
 f:=57;α:=Nat×List Int;put a:=[.ow 0 a.1 1];st a:=[.row (.i .i64) a.2 3 true];dec v o:=match v,o with
  |[.ow 0 n 1],[.row t l 3 true]=>match gG t (.i .i64) l with
   |some l=>some (n,l)
   |_=>none
  |_,_=>none;ok v o a h:=by
  split at h
  ·split at h
   ·rename_i h4;simp only[γ] at h;subst h;obtain⟨rfl,hh⟩:=lq h4;cases hh;exact⟨rfl,rfl⟩
   ·cases h
  ·cases h
 inj a b e1 e2:=by
  obtain⟨n,l⟩:=a;obtain⟨n',l'⟩:=b;simp only[gL,Θ,γF,εA,true_and] at e1;simp only[gO,ξ,γw,iZ.g,Θ,OL.cells.injEq,and_true,true_and] at e2;have h4:l=l':=by
   have hf:=congrArg γd e2;rw[ee,ee] at hf;exact ku (.i .i64) (by simpa[ew.sz] using hf) e2
  rw[e1.1.1,h4]
 dom a:=a.1=a.2.length/\1<=a.2.length/\a.2.length<=1000000;res _:=.Gz [];out a:=[.row (.i .i64) (dr a.2) 3 true]
theorem yR:dD Tryz.prog yh:=by
 rintro⟨n,l⟩ ⟨E,H,V⟩;simp only at E H V;subst E;refine⟨by kernel_rfl,?_⟩;intro A w F Q q s;have C:∀m:List Int,gO [iZ.row (.i .i64) m 3 true]=[OL.cells (m.map λx=>δg (.int .i64 x)) 3 1 true]:=λm=>by
  simp only[gO,ξ,γw,iZ.g,lF];rfl
 have T:gL (yh.put (l.length,l))=[.os 0 0 l.length (l.length*1)]:=rfl;show Calls _ _ _ _ λe h=>∃u p,e= .returned u/\OM A h p (gO [iZ.row (.i .i64) (dr l) 3 true])/\nA A h p (gO [iZ.row (.i .i64) (dr l) 3 true]) (.Gz []) u/\cE w F (gO [iZ.row (.i .i64) l 3 true]) h p (gO [iZ.row (.i .i64) (dr l) 3 true]);replace q:OM A w F (gO [iZ.row (.i .i64) l 3 true]):=q;replace s:Aq A w F (gO [iZ.row (.i .i64) l 3 true]) (gL (yh.put (l.length,l))) Q:=s;rw[C] at q s;rw[C,C];rw[T] at s;obtain⟨b,Y,d,rfl,U,L,q4,q5,N⟩:=MK q H;simp only[Aq] at s;obtain⟨v,r,rfl,I,rfl⟩:=s;simp only[nA] at I;obtain⟨O,a,y,rfl,a0,B⟩:=I;have K:=B 1 ⟨_,_,_,rfl,by simp⟩;simp only[jZ,δq] at K;obtain⟨rfl,rfl⟩:=K.2.1 trivial trivial (by omega);have P:b<w.heap.size:=q.ec 0 b y rfl;have R:=holds_of_blockI (ss:=l) L N;have S:Calls Tryz.prog (yh).f #[.slice (some ⟨b,0,none⟩) l.length y] w λe h=>e= .returned (.tuple #[])/\∃n z,h=Sort.grow (Sort.putRow (Value.int .i64) (Sort.ahead w n) b 0 (dr l).toArray) z:=
  calls_of_every_depth λD=>AnyS.slices_Sort_int_in Tryz.Hy D b 0 y l w R P (by omega);refine Calls.mono S ?_;rintro e h ⟨rfl,n,z,rfl⟩;have t:=grownBy_sortedI (w:=w) (g:=b) (n:=n) (os:=z) (dr l).toArray;have W:=heap_sortedI (w:=w) (n:=n) (os:=z) (dr l).toArray L;have X:=take_putCellsI d (dr l) (by rw[pD];omega);have hz:(Sort.putCells (Value.int .i64) 0 (dr l).toArray d).size=d.size:=by simp[Sort.putCells]
 generalize Sort.grow (Sort.putRow (Value.int .i64) (Sort.ahead w n) b 0 (dr l).toArray) z=h at*;generalize Sort.putCells (Value.int .i64) 0 (dr l).toArray d=o at*;have hU:=q.ix (w':=h) (id:=0) (x':=.cells ((dr l).map λx=>δg (.int .i64 x)) 3 1 true) (s':=some (b,y)) rfl t.size t.os t.tape t.output
  (λk M E=>t.block k M λe=>by simp_all) (λb' c' e=>by simp_all)
  ⟨_,_,_,rfl,by simp[pD],λ_=>rfl⟩ ?_;·grind[nA,Aq]
 ·intro hx;simp only[cT];refine⟨λ_=>by rw[<-lF];grind[nr],by rw[<-lF];grind[Aw],.inr ⟨b,y,o,rfl,U,W,by omega,by grind[pD],?_⟩⟩;intro j c J;rw[γH] at J;obtain⟨x,G,rfl⟩:=ε.1 J;have Z:=(ζ.1 G).1;refine⟨.int .i64 x,?_,by simp[nA,Value.oneCell']⟩;have h9:(o.toList.take (dr l).length)[j]?=((dr l).map (Value.int .i64))[j]?:=by rw[X]
  grind
theorem MJ {A:dg} {w:World} {l:List Int} {vs:List Value} {m:FuncId} (n:m=Tryz.k8.f 41) (N:OM A w [] []) (K:l.length<=1000000) (B:Aq A w [] [] [.sl l.length (l.map λx=>δg (.int .i64 x))] vs):
  Calls Tryz.prog m vs.toArray w λe w'=>RowKit.Below w.heap.size w w'/\((e= .returned (.slice none 0 0)/\l=[])\/∃g cap c,e= .returned (.slice (some ⟨g,0,none⟩) l.length cap)/\w.heap.size<=g/\w'.heap[g]?=some (.cells c 3 (0,0))/\l.length<=cap/\cap<=maxLen/\c.size=cap/\c.toList.take l.length=l.map (Value.int .i64)):=by
 subst n;simp only[Aq] at B;obtain⟨v,r,rfl,t,rfl⟩:=B;simp only[nA] at t;obtain⟨a,cap,rfl,q,_,C⟩:=t;cases a with
 |none=>
  have z:l=[]:=by
   cases l<;>grind[cH]
  grind[Calls.mono,AnyE.slices_Clone_nil,Tryz.tV,RowKit.Below.refl];|some p=>
  have H:∀j u,(l.map (Value.int .i64))[j]?=some u->w.cell? (p.add j)=some u:=by
   intro j u s;rw[γH] at s;obtain⟨x,F,rfl⟩:=ε.1 s;obtain⟨b,v,e,_,o,y⟩:=cH.get _ _ _ C j (.sc (.int .i64 x)) (by simp[F]);grind[nA]
  refine Calls.mono (ML Tryz.tV Tryz.t3 (.int .i64 0) 1 8 (by kernel_rfl) (by kernel_rfl) (by kernel_rfl) (by kernel_rfl) (by kernel_rfl) (by omega) Tryz.sizeOf3 p l.length cap (l.map (Value.int .i64)) w (by simp) (by grind[maxLen]) (by omega) H (by simp[Value.oneCell'])) ?_;rintro e w' ⟨L,rfl,k,E,i⟩;refine⟨i,.inr ?_⟩;obtain⟨_,h|⟨g,d,c,rfl,J,I,D,G,M,O⟩⟩:=k;·simp_all
  ·exact⟨g,d,c,rfl,J,I,D,G,by omega,by simp_all⟩
def yg:NG:=⟨52,List Int,.one (cQ (.i .i64)),λl=>l.length<=1000000,λl=> .row (.i .i64) l⟩
theorem yT:Holds Tryz.prog yg:=by
 intro(l:List Int) (hl:l.length<=1000000);refine⟨by kernel_rfl,?_⟩;intro A w σ vs hS hR;have hσ:σ=[]:=by have:=hS.len;simpa using this
 subst hσ;have e1:gL (yg.A.put l)=[.sl l.length (l.map λx=>δg (.int .i64 x))]:=by rw[<-lF];rfl
 have e2:(yg.res l).G= .sl l.length (l.map λx=>δg (.int .i64 x)):=by rw[<-lF];rfl
 rw[e1] at hR;rw[e2];refine Calls.mono (MJ (by rfl) hS hl hR) ?_;rintro e w' ⟨hb,h⟩;have hS':OM A w' [] []:=⟨rfl,by simp,by simp,by simp,by simp,λb h=>γl (hS.avb b h) hb.size⟩;have hE:cE w [] [] w' [] []:=⟨hb.size,λb h _=>⟨hb.block b h,λ⟨i,c,hi⟩=>by simp at hi⟩,π _,λ_ _ ⟨_,_,_,_,h,_⟩=>by simp at h,λ_ ⟨_,_,_,h⟩=>by simp at h,hb.os,hb.tape,hb.output⟩;rcases h with⟨rfl,rfl⟩|⟨g,cap,cur,rfl,h1,h2,h3,h4,h5,h6⟩;·exact⟨_,[],rfl,hS',by simp only[nA];exact⟨none,0,rfl,by simp,by rw[<-lF];exact nr _ _,by simp[cH]⟩,hE⟩
 ·refine⟨_,[],rfl,hS',?_,hE⟩;simp only[nA];refine⟨_,_,rfl,h3,by rw[<-lF];exact nr _ _,cH.kf _ _ _ λi c hi=>?_⟩;rw[γH] at hi;obtain⟨x,hx,rfl⟩:=ε.1 hi;have hil:=(ζ.1 hx).1;have h9:(cur.toList.take l.length)[i]?=(l.map (Value.int .i64))[i]?:=by rw[h6]
  rw[List.getElem?_take_of_lt hil,Array.getElem?_toList,γH,hx] at h9;refine⟨⟨g,0,none⟩,.int .i64 x,rfl,⟨λ⟨i,c,hi⟩=>by simp at hi,λhA=>by have:=hS.avb g hA;omega⟩,?_,by simp[nA,Value.oneCell']⟩;rw[Addr.add_lit];simp only[World.cell?,h2,Nat.zero_add,Option.isSome_none,Bool.false_eq_true,if_false];exact h9
def sQ:cW where
 f:=52;α:=List Int;put a:=[.row (.i .i64) a];st a:=[];dec v o:=match v,o with
  |[.row t l],[]=>gG t (.i .i64) l
  |_,_=>none;ok v o a h:=by
  split at h
  ·obtain⟨rfl,hh⟩:=lq h;cases hh;exact⟨rfl,rfl⟩
  ·cases h
 inj a b e1 e2:=by
  simp only[gL,Θ,γF,δ7,and_true] at e1;exact ku (.i .i64) (by simpa using e1.1) e1.2
 dom a:=a.length<=1000000;res a:=.ow 0 a.length 1;out a:=[.row (.i .i64) a 3 true]
theorem sq:dD Tryz.prog sQ:=by
 intro(l:List Int) (E:l.length<=1000000);refine⟨by kernel_rfl,?_⟩;intro A w s G k p;replace k:OM A w s []:=k;replace p:Aq A w s [] (gL (sQ.put l)) G:=p;have q:s=[]:=by have:=k.len;simp_all
 subst q;have F:gL (sQ.put l)=[.sl l.length (l.map λx=>δg (.int .i64 x))]:=by rw[<-lF];rfl
 have B:(sQ.res l).g= .os 0 0 l.length (l.length*1):=rfl;have D:gO (sQ.out l)=[OL.cells (l.map λx=>δg (.int .i64 x)) 3 1 true]:=by rw[<-lF];rfl
 rw[F] at p;rw[B,D];show Calls _ _ _ _ λe n=>∃u f,e= .returned u/\OM A n f [OL.cells (l.map λx=>δg (.int .i64 x)) 3 1 true]/\nA A n f [OL.cells (l.map λx=>δg (.int .i64 x)) 3 1 true] (.os 0 0 l.length (l.length*1)) u/\cE w [] [] n f [OL.cells (l.map λx=>δg (.int .i64 x)) 3 1 true];refine Calls.mono (MJ (by rfl) k E p) ?_;rintro e n ⟨d,h⟩;have t:rr [OL.cells (l.map λx=>δg (.int .i64 x)) 3 1 true] 0 (l.length*1):=⟨_,_,_,_,rfl,by simp⟩;rcases h with⟨rfl,rfl⟩|⟨g,m,o,rfl,P,z,C,J,O,I⟩
 ·refine⟨_,[none],rfl,⟨rfl,?_,?_,?_,?_,λb h=>γl (k.avb b h) d.size⟩,?_,d.size,λb h _=>⟨d.block b h,?_⟩,δ6 _,λ_ _ ⟨_,_,_,_,h,_⟩=>by simp at h,λ_ ⟨_,_,_,h⟩=>by simp at h,d.os,d.tape,d.output⟩;·grind
  ·grind
  ·intro i x a;cases i with
   |zero=>
    simp at a;subst a;simp only[cT];exact⟨λ_=>rfl,rfl,.inl (by simp)⟩;|succ i=>simp at a
  ·grind
  ·grind[nA,jZ]
  ·rintro⟨i,c,a⟩;grind
 ·have L:g<n.heap.size:=(Array.getElem?_eq_some_iff.1 z).1;refine⟨_,[some (g,m)],rfl,⟨rfl,?_,?_,?_,?_,λb h=>γl (k.avb b h) d.size⟩,?_,d.size,λb h _=>⟨d.block b h,?_⟩,δ6 _,λ_ _ ⟨_,_,_,_,h,_⟩=>by simp at h,λ_ ⟨_,_,_,h⟩=>by simp at h,d.os,d.tape,d.output⟩;·grind
  ·grind
  ·intro i x a;cases i with
   |zero=>
    simp at a;subst a;simp only[cT];refine⟨λ_=>by rw[<-lF];grind[nr],by rw[<-lF];grind[Aw],.inr ⟨g,m,o,rfl,J,z,by omega,by simp;omega,?_⟩⟩;intro j c v;rw[γH] at v;obtain⟨x,r,rfl⟩:=ε.1 v;have H:=(ζ.1 r).1;refine⟨.int .i64 x,?_,by simp[nA,Value.oneCell']⟩;have N:(o.toList.take l.length)[j]?=(l.map (Value.int .i64))[j]?:=by rw[I]
    grind;|succ i=>simp at a
  ·intro i b c a;cases i with
   |zero=>
    simp at a;intro K;have:=k.avb b K;omega;|succ i=>simp at a
  ·simp only[nA];refine⟨t,_,_,rfl,C,λM y=>?_⟩;obtain⟨_,_,_,y,_⟩:=y;grind[jZ,n4]
  ·rintro⟨i,c,a⟩;grind
def ko (l:List Int) (i j:Nat):List Int:=l.take i++l.drop j++δ (j - i) 0
theorem Nh {l:List Int} {i j:Nat} (a:i<=j) (b:j<=l.length):(ko l i j).length=l.length:=by
 grind[ko]
def sP:cW where
 f:=147;α:=(Nat×List Int)×Int×Int;put a:=[.ow 0 a.1.1 1,.si .i64 a.2.1,.si .i64 a.2.2];st a:=[.row (.i .i64) a.1.2 3 true];dec v o:=match v,o with
  |[.ow 0 n 1,x,y],[.row t l 3 true]=>match gG t (.i .i64) l,x.int .i64,y.int .i64 with
   |some l,some i,some j=>some ((n,l),i,j)
   |_,_,_=>none
  |_,_=>none;ok v o a h:=by
  split at h
  ·split at h
   ·rename_i h4 h5 h6;simp only[γ] at h;subst h;obtain⟨rfl,hh⟩:=lq h4;cases hh;refine⟨?_,rfl⟩;simp only[gL,gU h5,gU h6];rfl
   ·cases h
  ·cases h
 inj a b e1 e2:=by
  obtain⟨⟨n,l⟩,i,j⟩:=a;obtain⟨⟨n',l'⟩,i',j'⟩:=b;simp only[gL,Θ,γF,εA,true_and,and_true,δe,Value.int.injEq] at e1;simp only[gO,ξ,γw,iZ.g,Θ,OL.cells.injEq,and_true,true_and] at e2;have h4:l=l':=by
   have hf:=congrArg γd e2;rw[ee,ee] at hf;exact ku (.i .i64) (by simpa[ew.sz] using hf) e2
  rw[e1.1.1,h4,e1.2.1,e1.2.2]
 dom a:=(a.1.1=a.1.2.length/\1<=a.1.2.length/\a.1.2.length<=1000000)/\0<=a.2.1/\a.2.1<=a.2.2/\a.2.2<=a.1.2.length;res a:=.os 0 0 (a.1.2.length - (a.2.2 - a.2.1).toNat) a.1.1 1;out a:=[.row (.i .i64) (ko a.1.2 a.2.1.toNat a.2.2.toNat) 3 true]
theorem Iu:dD Tryz.prog sP:=by
 rintro⟨⟨n,l⟩,i,j⟩ ⟨⟨H,K,h2⟩,i0,ij,Y⟩;simp only at H K h2 i0 ij Y;subst H;obtain⟨i,rfl⟩:∃k:Nat,i=k:=⟨i.toNat,by omega⟩;obtain⟨j,rfl⟩:∃k:Nat,j=k:=⟨j.toNat,by omega⟩;refine⟨by kernel_rfl,?_⟩;intro A w F X t z;have I:∀m:List Int,gO [iZ.row (.i .i64) m 3 true]=[OL.cells (m.map λx=>δg (.int .i64 x)) 3 1 true]:=λm=>by
  simp only[gO,ξ,γw,iZ.g,lF];rfl
 have V:gL (sP.put ((l.length,l),(i:Int),(j:Int)))=[.os 0 0 l.length (l.length*1),.sc (.int .i64 i),.sc (.int .i64 j)]:=rfl;have Z:(sP.res ((l.length,l),(i:Int),(j:Int))).g= .os 0 0 (l.length - (j - i)) (l.length*1):=by
  show AV.os 0 (0*1) (l.length - ((j:Int) - (i:Int)).toNat) (l.length*1)=_;simp_all
 show Calls _ _ _ _ λe h=>∃u p,e= .returned u/\OM A h p (gO [iZ.row (.i .i64) (ko l i j) 3 true])/\nA A h p (gO [iZ.row (.i .i64) (ko l i j) 3 true]) (sP.res ((l.length,l),(i:Int),(j:Int))).g u/\cE w F (gO [iZ.row (.i .i64) l 3 true]) h p (gO [iZ.row (.i .i64) (ko l i j) 3 true]);replace t:OM A w F (gO [iZ.row (.i .i64) l 3 true]):=t;replace z:Aq A w F (gO [iZ.row (.i .i64) l 3 true]) (gL (sP.put ((l.length,l),(i:Int),(j:Int)))) X:=z;rw[I] at t z;rw[I,I,Z];rw[V] at z;obtain⟨b,a2,d,rfl,S,Q,q4,q5,q6⟩:=MK t K;simp only[Aq] at z;obtain⟨v,r,rfl,M,v2,r2,rfl,C,v3,r3,rfl,D,rfl⟩:=z;simp only[nA] at M C D;obtain⟨a0,a,s,rfl,a3,J⟩:=M;obtain⟨rfl,_⟩:=C;obtain⟨rfl,_⟩:=D;have O:=J 1 ⟨_,_,_,rfl,by simp⟩;simp only[jZ,δq] at O;obtain⟨rfl,rfl⟩:=O.2.1 trivial trivial (by omega);have hb:b<w.heap.size:=t.ec 0 b s rfl;have W:=holds_of_blockI (ss:=l) Q q6;have T:maxLen=9223372036854775807:=rfl;have B:=@Nh l i j (by omega) (by omega);have E:Calls Tryz.prog (sP).f #[.slice (some ⟨b,0,none⟩) l.length s,.int .i64 i,.int .i64 j] w λe h=>e= .returned (.slice (some ⟨b,0,none⟩) (l.length - (j - i)) s)/\∃q,h=Sort.putRow (Value.int .i64) (Sort.ahead w q) b 0 (ko l i j).toArray:=by
  exact AnyE.slices_Delete Tryz.Hz (Value.int .i64) (λ_=>rfl) 0 Tryz.zeroValue3 Tryz.t3 (by kernel_rfl) (by kernel_rfl) b 0 s i j l.toArray w W (by omega) (by omega) (by omega) (by simp;omega)
 refine Calls.mono E ?_;rintro e h ⟨rfl,q,rfl⟩;have y:=grownBy_sortedI (w:=w) (g:=b) (n:=q) (os:=#[]) (ko l i j).toArray;have L:=heap_sortedI (w:=w) (n:=q) (os:=#[]) (ko l i j).toArray Q;rw[Sort.grow_empty] at y L;have R:=take_putCellsI d (ko l i j) (by omega);have hz:(Sort.putCells (Value.int .i64) 0 (ko l i j).toArray d).size=d.size:=by simp[Sort.putCells]
 generalize Sort.putRow (Value.int .i64) (Sort.ahead w q) b 0 (ko l i j).toArray=h at*;generalize Sort.putCells (Value.int .i64) 0 (ko l i j).toArray d=o at*;have N:=t.ix (w':=h) (id:=0) (x':=.cells ((ko l i j).map λx=>δg (.int .i64 x)) 3 1 true) (s':=some (b,s)) rfl y.size y.os y.tape y.output
  (λk U H=>y.block k U λe=>by simp_all) (λb' c' e=>by simp_all)
  ⟨_,_,_,rfl,by simp[B],λ_=>rfl⟩ ?_
 ·refine⟨_,[some (b,s)],rfl,N.1,?_,N.2⟩;simp only[nA];refine⟨⟨_,_,_,_,rfl,by simp[B]⟩,_,_,rfl,by omega,λsz E=>?_⟩;obtain⟨_,_,_,E,_⟩:=E;grind[jZ]
 ·intro hx;simp only[cT];refine⟨λ_=>by rw[<-lF];exact nr _ _,by rw[<-lF];exact Aw _ _,.inr ⟨b,s,o,rfl,S,L,by omega,by simp_all,?_⟩⟩;intro k c P;rw[γH] at P;obtain⟨x,G,rfl⟩:=ε.1 P;have a1:=(ζ.1 G).1;refine⟨.int .i64 x,?_,by simp[nA,Value.oneCell']⟩;have h9:(o.toList.take (ko l i j).length)[k]?=((ko l i j).map (Value.int .i64))[k]?:=by rw[R]
  grind
structure bZ where
 rows:List (List Int)
 bounds:List Int
 bi:List bD
def yf:o_ bZ where
 put a:=.agg [.row (.Ap (.i .i64)) a.rows,.row (.i .i64) a.bounds,.row .bt a.bi];dec
  | .agg [r,v,x]=>match iI (.Ap (.i .i64)) r,iI (.i .i64) v,iI .bt x with
   |some c,some v,some x=>some ⟨c,v,x⟩
   |_,_,_=>none
  |_=>none;ok v a h:=by
  grind[γF,gL,nn]
 inj a b h:=by
  obtain⟨c,v,x⟩:=a;obtain⟨l,k,j⟩:=b;simp only[γF,gL,AV.agg.injEq,Θ,and_true,true_and,δ7] at h;have e:=ku (.Ap (.i .i64)) h.1.1 h.1.2;have d:=ku (.i .i64) h.2.1.1 h.2.1.2;have f:=ku .bt h.2.2.1 h.2.2.2;rw[e,d,f]
def vI:NG:=⟨61,cj,.one cX,λ_=>True,λp=> .si .i64 (if nW p=0 then cr p else 0)⟩
theorem qO:Holds Tryz.prog vI:=by
 refine bO (L:=[mW,uY]) vI lk (by grind[om,qR]) ?_;rintro(p:cj) -;refine NI (let c:=(0:Int);let b:=decide (nW p≠c);let a:=γj .i64 (if nW p=c then cr p else c);True/\(b=true->(γC .i64 0).as a)/\(b=false->p.bj.length<=8/\(γj .i64 (cr p)).as a)) (by kernel_rfl) ?_;simp only[vcs];refine⟨λh=>by rw[if_neg h],λh=>?_⟩;have c:nW p=0:=γe.1 h;rw[if_pos c];have:=(cN c).1;omega
def gz (p:cj) (r:Int) (n:Nat):List Int:=(p.bi.take n).map (dA p r)
def zz:NG:=⟨107,cj×Int,.cons cX (.one (dZ .i64)),λa=>nW a.1=0/\0<=a.2/\a.2<cr a.1,λa=> .Gz [.row (.i .i64) (gz a.1 a.2 a.1.bi.length),.si .i64 (cD a.1 a.2)]⟩
def We (a:cj×Int):Nat->bK
 |5=> .inv Int (λi=>⟨[(1,.si .i64 a.2),(4,.ow 1 (gz a.1 a.2 i.toNat).length 1),(6,.ptr 2 0 20),(20,.row .bt a.1.bi),(21,.si .i64 a.1.bi.length),(22,.si .i64 i)],[.cells a.1.ss 27 20 false,.row (.i .i64) (gz a.1 a.2 i.toNat) 3 true,.cells a.1.ss 87 20 false]⟩)
   (λs=>iS s 22) (λi=>0<=i/\i<=a.1.bi.length) (λi=>(a.1.bi.length - i).toNat) λ_ _=> .bz
 |_=> .bz
theorem yS:Holds Tryz.prog zz:=by
 refine bO (L:=[vI,uW,uX]) zz We (by simpa using⟨qO,qS,qQ⟩) ?_;rintro⟨p,r⟩ ⟨hc,r0,r1⟩;simp only at hc r0 r1;refine NI (let a:=γj .i64;let b:=(0:Int);let c:=γa;let d:=iZ.row;let e:=SV.Gz;let f:=γ1;let g:=ew.i .i64;let l:=c ew.bt p.bi;let v:=decide (r<b);let o:=γC .i64 0;let w:=[a (cD p r)];let q:=e (c g (gz p r p.bi.length)::w);let y:=decide ((if nW p=b then cr p else b)<=r);let m:=γV 2 0 20;let z:=(↑p.bi.length:Int);let h:=(↑p.bi.length:Int);let s:=a h;let n:=λ(u:Nat) ↦let A:=iZ.cells [a p.bk.a0,a p.bk.a1,a p.bk.a2,a p.bk.a3,a p.bk.a4,a p.bk.a5,a p.bq.a0,a p.bq.a1,a p.bq.a2,a p.bq.a3,a p.bq.a4,a p.bq.a5,a p.bs.a0,a p.bs.a1,a p.bs.a2,a p.bs.a3,a p.bs.a4,a p.bs.a5,c g p.bj,l] u 20 false;A.as A;(v=true->0=0/\(e [c g [],o]).as q)/\(v=false->True/\(y=true->0=0/\(e [c g [],o]).as q)/\(y=false->((((a r).as (a r)/\(f 1 0 1).as (f 1 (gz p r 0).length 1)/\m.as m/\l.as l/\(a z).as s/\o.as (a 0)/\True)/\n 27/\(d g [] 3 true).as (d g (gz p r 0) 3 true)/\n 87/\True)/\b<=b/\b<=h)/\∀(x:Int),let t:=bN p.bi x.toNat ew.bt.bu;let j:=gz p r x.toNat;let B:=j.length+1;let k:=x+(1:Int);let C:=j++[dA p r t];let D:=a k;b<=x/\x<=h->(decide (x<h)=true->b<=x/\x<z/\x.toNat<p.bi.length/\(p.bj.length<=8/\b<=r/\r<cr p/\b<=t.TM/\t.TM<(↑p.bj.length:Int))/\j.length=j.length/\B*8<=140737488355328/\B<=1000000000000/\VL .i64 k/\(((a r).as (a r)/\(f 1 C.length 1).as (f 1 (gz p r k.toNat).length 1)/\m.as m/\l.as l/\s.as s/\D.as D/\True)/\n 27/\(d g C 3 true).as (d g (gz p r k.toNat) 3 true)/\n 87/\True)/\(b<=k/\k<=h)/\(h - k).toNat<(h - x).toNat)/\(decide (x<h)=false->(p.bj.length<=8/\b<=r/\r<cr p)/\j.length=j.length/\(e (c g j::w)).as q)))) (by kernel_rfl) ?_;simp only[vcs];obtain⟨g1,g2,g3,g4,g5⟩:=cN hc;have how:∀{x y:Nat},x=y->(γ1 1 x 1).as (γ1 1 y 1):=by rintro _ _ rfl;rfl
 have hrow:∀{x y:List Int},x=y->(iZ.row (.i .i64) x 3 true).as (iZ.row (.i .i64) y 3 true):=by rintro _ _ rfl;rfl
 rw[if_pos hc];refine⟨λh=>by omega,λ_=>⟨λh=>by omega,λ_=>⟨⟨?_,by omega,by omega⟩,?_⟩⟩⟩;·exact⟨how rfl,hrow rfl⟩
 ·rintro i ⟨i0,i1⟩;have hL:(gz p r i.toNat).length<=160:=by unfold gz;rw[List.length_map,γz];omega
  refine⟨λhi=>?_,λhi=>?_⟩
  ·have hx:=g5 _ (cB (d:=ew.bt.bu) (show i.toNat<p.bi.length by omega));have e:gz p r (i+1).toNat=gz p r i.toNat++[dA p r (bN p.bi i.toNat ew.bt.bu)]:=by
    unfold gz;rw[jj (d:=ew.bt.bu) i0 hi,γb];rfl
   rw[e];refine⟨i0,hi,?_,⟨g1,r0,r1,hx.1,hx.2.1⟩,?_,?_,?_,⟨how rfl,hrow rfl⟩,?_,?_⟩<;>omega
  ·rw[show i.toNat=p.bi.length by omega];exact⟨⟨g1,r0,r1⟩,rfl⟩
def kU (p:cj) (n:Nat):List (List Int):=(ω n).map λr:Nat=>gz p r p.bi.length
def jw (p:cj) (n:Nat):List Int:=(ω n).map λr:Nat=>cD p r
def nR (p:cj):Nat:=if nW p=0 then p.bj.length+12 else 0
def bY (p:cj):bZ:=⟨kU p (nR p),jw p (nR p),p.bi⟩
theorem Ng {p:cj} {n:Nat}:(kU p n).length=n:=by simp[kU]
theorem zy {p:cj} {n:Nat}:(jw p n).length=n:=by simp[jw]
theorem Wd {p:cj} {i:Int} (h:0<=i):kU p (i+1).toNat=kU p i.toNat++[gz p i p.bi.length]:=by
 unfold kU;rw[show(i+1).toNat=i.toNat+1 from by omega,εf,γb];grind
theorem Wc {p:cj} {i:Int} (h:0<=i):jw p (i+1).toNat=jw p i.toNat++[cD p i]:=by
 unfold jw;rw[show(i+1).toNat=i.toNat+1 from by omega,εf,γb];grind
def zx:NG:=⟨73,cj,.one cX,λ_=>True,λp=>yf.put (bY p)⟩
def Wb (p:cj):Nat->bK
 |3=> .inv Int (λi=>⟨[(1,.ptr 0 0 20),(2,.ptr 1 0 3),(3,.ptr 2 0 3),(11,.si .i64 (nR p)),(12,.si .i64 i)],[.cells p.ss 27 20 false,.cells [.sc (.slice none 0 0),.sc (.slice none 0 0),.sc (.slice none 0 0)] 130 3 false,.cells [.ow 4 (kU p i.toNat).length 1,.ow 3 (jw p i.toNat).length 1,.row .bt p.bi] 130 3 false,.row (.i .i64) (jw p i.toNat) 3 true,.row (.Ap (.i .i64)) (kU p i.toNat) 24 false]⟩)
   (λs=>iS s 12) (λi=>0<=i/\i<=nR p) (λi=>(nR p - i).toNat) λ_ _=> .bz
 |_=> .bz
theorem yW:Holds Tryz.prog zx:=by
 refine bO (L:=[vI,zz]) zx Wb (by grind[qO,yS]) ?_;rintro(p:cj) -;refine NI (let a:=γj .i64;let b:=iZ.row;let h:=(0:Int);let j:=iZ.cells;let l:=γa;let o:=γ1;let y:=γV;let w:=y 0 0 20;let s:=y 1 0 3;let t:=y 2 0 3;let g:=(↑(nR p):Int);let z:=a g;let f:=ew.i .i64;let k:=[l ew.bt p.bi];let u:=j (a p.bk.a0::a p.bk.a1::a p.bk.a2::a p.bk.a3::a p.bk.a4::a p.bk.a5::a p.bq.a0::a p.bq.a1::a p.bq.a2::a p.bq.a3::a p.bq.a4::a p.bq.a5::a p.bs.a0::a p.bs.a1::a p.bs.a2::a p.bs.a3::a p.bs.a4::a p.bs.a5::l f p.bj::k) 27 20 false;let A:=SV.sc (Value.slice none 0 0);let v:=j [A,A,A] 130 3 false;True/\(((w.as w/\s.as s/\t.as t/\(a (if nW p=h then cr p else h)).as z/\(γC .i64 0).as (a 0)/\True)/\u.as u/\v.as v/\(j (o 4 0 1::o 3 0 1::k) 130 3 false).as (j (o 4 (kU p 0).length 1::o 3 (jw p 0).length 1::k) 130 3 false)/\(b f [] 3 true).as (b f (jw p 0) 3 true)/\(b f.Ap [] 24 false).as (b f.Ap (kU p 0) 24 false)/\True)/\h<=h/\h<=g)/\∀(x:Int),let e:=kU p x.toNat;let n:=e.length+1;let d:=jw p x.toNat;let m:=d.length+1;let c:=x+(1:Int);let r:=a c;let q:=e++[gz p x p.bi.length];h<=x/\x<=g->(decide (x<g)=true->(nW p=h/\h<=x/\x<cr p)/\1=1/\e.length=e.length/\n*24<=140737488355328/\n<=1000000000000/\1=1/\d.length=d.length/\m*8<=140737488355328/\m<=1000000000000/\VL .i64 c/\((w.as w/\s.as s/\t.as t/\z.as z/\r.as r/\True)/\u.as u/\v.as v/\(j (o 4 q.length 1::o 3 (d++[cD p x]).length 1::k) 130 3 false).as (j (o 4 (kU p c.toNat).length 1::o 3 (jw p c.toNat).length 1::k) 130 3 false)/\(b f (d++[cD p x]) 3 true).as (b f (jw p c.toNat) 3 true)/\(b f.Ap q 24 false).as (b f.Ap (kU p c.toNat) 24 false)/\True)/\(h<=c/\c<=g)/\(g - c).toNat<(g - x).toNat)/\(decide (x<g)=false->e.length=e.length/\d.length=d.length/\(γN (l f.Ap e::l f d::k)).as (γN [l f.Ap (bY p).rows,l f (bY p).bounds,l ew.bt (bY p).bi]))) (by kernel_rfl) ?_;simp only[vcs];have J:∀x:Int,0<=x->x<nR p->nW p=0/\x<cr p/\nR p<=20:=by
  intro x H B;unfold nR at B ⊢;split at B
  ·rename_i G;have:=(cN G).1;simp_all[cr]
  ·omega
 have E:(if nW p=0 then cr p else 0)=((nR p:Nat):Int):=by
  grind[nR,cr]
 have j:∀{a C b D:Nat} {l:List bD},a=C->b=D->(iZ.cells [.ow 4 a 1,.ow 3 b 1,.row .bt l] 130 3 false).as (.cells [.ow 4 C 1,.ow 3 D 1,.row .bt l] 130 3 false):=by rintro _ _ _ _ _ rfl rfl;rfl
 have o:∀{x y:List Int},x=y->(iZ.row (.i .i64) x 3 true).as (iZ.row (.i .i64) y 3 true):=by rintro _ _ rfl;rfl
 have h:∀{x y:List (List Int)},x=y->(iZ.row (.Ap (.i .i64)) x 24 false).as (iZ.row (.Ap (.i .i64)) y 24 false):=by rintro _ _ rfl;rfl
 refine⟨⟨⟨E,j rfl rfl,o rfl,h rfl⟩,by omega,by omega⟩,?_⟩;rintro i ⟨I,K⟩;refine⟨λF=>?_,λF=>?_⟩;·grind[Ng,zy,Wd,Wc]
 ·rw[show i.toNat=nR p by omega];rfl
def lM (g:bZ):Prop:=(g.rows.length=g.bounds.length/\g.bounds.length<=1000/\g.bi.length<=1000)/\(∀r∈g.rows,r.length=g.bi.length/\∀x∈r,0<=x/\x<=1000)/\∀b∈g.bounds, -1000<=b/\b<=1000
def nL (g:bZ) (c:List Int):Prop:=∀x∈c,0<=(bN g.bi x.toNat ew.bt.bu).value/\(bN g.bi x.toNat ew.bt.bu).value<=1000000
def ng (g:bZ) (c:List Int):Prop:=c.length<=1000/\∀x∈c,0<=x/\x<g.bi.length
def kT (g:bZ) (c:List Int) (r:Nat):Int:=(c.map λx=>bN (bN g.rows r []) x.toNat 0).sum
def j_ (g:bZ) (c:List Int):Bool:=(ω g.bounds.length).all λr=>decide (0<=bN g.bounds r 0 - kT g c r)
def cV (g:bZ) (c:List Int):Int:=(c.map λx=>(bN g.bi x.toNat ew.bt.bu).value).sum
theorem Nf {f:Int->Int} {c:List Int} {i:Int} (a:0<=i) (h:i<c.length):((c.take (i+1).toNat).map f).sum=((c.take i.toNat).map f).sum+f (bN c i.toNat 0):=by
 grind[jj]
theorem Es {f:Int->Int} {c:List Int} {k:Nat} {m:Int} (b:0<=m) (h:∀x∈c,0<=f x/\f x<=m):0<=((c.take k).map f).sum/\((c.take k).map f).sum<=c.length*m:=by
 induction c generalizing k with
 |nil=>simp;|cons x c a=>
  cases k with
  |zero=>simp;exact γy (by omega) b;|succ k=>
   have i:=h x (by simp);obtain⟨g,e⟩:=a (k:=k) λy d=>h y (by simp[d]);simp only[δw,ξ,List.sum_cons,γK];grind
def zw:NG:=⟨78,bZ×List Int,.cons yf (.one (cQ (.i .i64))),λa=>lM a.1/\ng a.1 a.2,λa=> .sb (j_ a.1 a.2)⟩
def Wa (g:bZ) (c:List Int):Nat->bK
 |2=> .inv Int (λi=>⟨[(1,.row (.i .i64) c),(2,.ptr 0 0 3),(10,.row (.i .i64) g.bounds),(11,.si .i64 g.bounds.length),(12,.si .i64 i)],[.cells [.row (.Ap (.i .i64)) g.rows,.row (.i .i64) g.bounds,.row .bt g.bi] 130 3 false]⟩)
   (λs=>iS s 12) (λi=>(0<=i/\i<=g.bounds.length)/\∀r:Nat,r<i->0<=bN g.bounds r 0 - kT g c r) (λi=>(g.bounds.length - i).toNat) λi k=>match k with
   |5=> .inv (Int×Int) (λy=>⟨[(1,.row (.i .i64) c),(2,.ptr 0 0 3),(5,.si .i64 i),(6,.si .i64 y.2),(10,.row (.i .i64) g.bounds),(11,.si .i64 g.bounds.length),(12,.si .i64 i),(17,.row (.i .i64) c),(18,.si .i64 c.length),(19,.si .i64 y.1)],[.cells [.row (.Ap (.i .i64)) g.rows,.row (.i .i64) g.bounds,.row .bt g.bi] 130 3 false]⟩)
     (λs=>(iS s 19,iS s 6)) (λy=>(0<=y.1/\y.1<=c.length)/\y.2=bN g.bounds i.toNat 0 - kT g (c.take y.1.toNat) i.toNat) (λy=>(c.length - y.1).toNat) λ_ _=> .bz
   |_=> .bz
 |_=> .bz
theorem yU:Holds Tryz.prog zw:=by
 refine bO (L:=[]) zw (λa=>Wa a.1 a.2) (by simp) ?_;rintro⟨g,c⟩ ⟨⟨⟨Y,q2,q3⟩,hr,U⟩,O,C⟩;simp only at Y q2 q3 hr U O C;refine NI (let a:=(0:Int);let d:=γj .i64;let f:=γa;let h:=γC .i64 0;let j:=VL .i64;let e:=ew.i .i64;let t:=γV 0 0 3;let o:=f e g.bounds;let Q:=(↑g.bounds.length:Int);let q:=(↑g.bounds.length:Int);let z:=d q;let u:=iZ.cells [f e.Ap g.rows,o,f ew.bt g.bi] 130 3 false;let s:=(↑c.length:Int);let I:=d s;((((f e c).as (f e c)/\t.as t/\o.as o/\(d Q).as z/\(h).as (d 0)/\True)/\u.as u/\True)/\(a<=a/\a<=q)/\∀(r:Nat),(↑r:Int)<a->a<=bN g.bounds r a - kT g c r)/\∀(x:Int),let F:=bN g.bounds x.toNat a;let E:=d F;let y:=bN g.rows x.toNat e.Ap.bu;let k:=x+(1:Int);let A:=d k;((a<=x/\x<=q)/\∀(r:Nat),(↑r:Int)<x->a<=bN g.bounds r a - kT g c r)->(decide (x<q)=true->a<=x/\x<Q/\x.toNat<g.bounds.length/\((((f e c).as (f e c)/\t.as t/\(d x).as (d x)/\E.as E/\o.as o/\z.as z/\(d x).as (d x)/\(f e c).as (f e c)/\(d (↑c.length:Int)).as I/\(h).as (d 0)/\True)/\u.as u/\True)/\(a<=a/\a<=s)/\F=F - kT g [] x.toNat)/\∀(b:Int×Int),let p:=bN c b.1.toNat a;let w:=b.2 - bN y p.toNat a;let l:=b.1+(1:Int);let n:=d x;let H:=d w;let D:=d l;let G:=decide (b.2<a);(a<=b.1/\b.1<=s)/\b.2=F - kT g (Δ b.1.toNat c) x.toNat->(decide (b.1<s)=true->a<=b.1/\b.1<(↑c.length:Int)/\b.1.toNat<c.length/\a<=x/\x<(↑g.rows.length:Int)/\x.toNat<g.rows.length/\a<=p/\p<(↑y.length:Int)/\p.toNat<y.length/\j w/\j l/\(((f e c).as (f e c)/\t.as t/\n.as n/\H.as H/\o.as o/\z.as z/\n.as n/\(f e c).as (f e c)/\I.as I/\D.as D/\True)/\u.as u/\True)/\((a<=l/\l<=s)/\w=F - kT g (Δ l.toNat c) x.toNat)/\(s - l).toNat<(s - b.1).toNat)/\(decide (b.1<s)=false->(G=true->(δj false).as (γB (j_ g c)))/\(G=false->j k/\(((f e c).as (f e c)/\t.as t/\o.as o/\z.as z/\A.as A/\True)/\u.as u/\True)/\((a<=k/\k<=q)/\∀(r:Nat),(↑r:Int)<k->a<=bN g.bounds r a - kT g c r)/\(q - k).toNat<(q - x).toNat)))/\(decide (x<q)=false->(δj true).as (γB (j_ g c)))) (by kernel_rfl) ?_;simp only[vcs];have hd:(ew.i IntKind.i64).Ap.bu=([]:List Int):=rfl;rw[hd];have M:∀r:Nat,r<g.rows.length->(bN g.rows r []).length=g.bi.length/\∀x∈c,0<=bN (bN g.rows r []) x.toNat 0/\bN (bN g.rows r []) x.toNat 0<=1000:=λr h=>by
  grind[cB]
 refine⟨⟨by omega,λr h=>by omega⟩,?_⟩;rintro i ⟨⟨Z,i1⟩,K⟩;refine⟨λP=>⟨Z,P,by omega,⟨by omega,by simp[kT]⟩,?_⟩,λP=>?_⟩
 ·obtain⟨W,B⟩:=M i.toNat (by omega);have a1:=U _ (cB (d:=0) (show i.toNat<g.bounds.length by omega));rintro⟨j,v⟩ ⟨⟨S,j1⟩,J⟩;simp only at S j1 J ⊢;refine⟨λV=>?_,λV=>?_⟩
  ·have hx:=C _ (cB (d:=0) (show j.toNat<c.length by omega));have hs:kT g (c.take (j+1).toNat) i.toNat=kT g (c.take j.toNat) i.toNat+bN (bN g.rows i.toNat []) (bN c j.toNat 0).toNat 0:=Nf (f:=λx=>bN (bN g.rows i.toNat []) x.toNat 0) S V;have X:0<=kT g (c.take j.toNat) i.toNat/\kT g (c.take j.toNat) i.toNat<=c.length*1000:=Es (f:=λx=>bN (bN g.rows i.toNat []) x.toNat 0) (m:=1000) (by omega) B;have a0:=B _ (cB (d:=0) (show j.toNat<c.length by omega));omega
  ·have N:j.toNat=c.length:=by omega
   rw[N,φ] at J;refine⟨λR=>?_,λT=>⟨by omega,⟨by omega,λr h=>?_⟩,by omega⟩⟩
   ·symm;rw[<-Bool.not_eq_true,j_,List.all_eq_true];intro h;have:=of_decide_eq_true (h i.toNat (γD.2 (by omega)));omega
   ·by_cases h2:(r:Int)<i;·simp_all
    ·rw[show r=i.toNat by omega,<-J];omega
 grind[j_]
def vH:NG:=⟨75,bZ×List Int,.cons yf (.one (cQ (.i .i64))),λa=>lM a.1/\ng a.1 a.2/\nL a.1 a.2,λa=> .si .i64 (cV a.1 a.2)⟩
def V_ (g:bZ) (c:List Int):Nat->bK
 |3=> .inv Int (λi=>⟨[(2,.ptr 0 0 3),(5,.si .i64 (cV g (c.take i.toNat))),(8,.row (.i .i64) c),(9,.si .i64 c.length),(10,.si .i64 i)],[.cells [.row (.Ap (.i .i64)) g.rows,.row (.i .i64) g.bounds,.row .bt g.bi] 130 3 false]⟩)
   (λs=>iS s 10) (λi=>0<=i/\i<=c.length) (λi=>(c.length - i).toNat) λ_ _=> .bz
 |_=> .bz
theorem qP:Holds Tryz.prog vH:=by
 refine bO (L:=[]) vH (λa=>V_ a.1 a.2) (by simp) ?_;rintro⟨g,c⟩ ⟨⟨⟨D,E,C⟩,B,y⟩,⟨q,l⟩,e⟩;simp only[nL] at D E C B y q l e;refine NI (let a:=γj .i64;let d:=(0:Int);let e:=γa;let o:=γV 0 0 3;let v:=γC .i64 0;let j:=ew.i .i64;let b:=(↑c.length:Int);let r:=a b;let n:=iZ.cells [e j.Ap g.rows,e j g.bounds,e ew.bt g.bi] 130 3 false;(((o.as o/\v.as (a (cV g []))/\(e j c).as (e j c)/\(a (↑c.length:Int)).as r/\v.as (a 0)/\True)/\n.as n/\True)/\d<=d/\d<=b)/\∀(x:Int),let p:=bN c x.toNat d;let t:=cV g (Δ x.toNat c);let s:=t+(bN g.bi p.toNat ew.bt.bu).value;let h:=x+(1:Int);let k:=a h;d<=x/\x<=b->(decide (x<b)=true->d<=x/\x<(↑c.length:Int)/\x.toNat<c.length/\d<=p/\p<(↑g.bi.length:Int)/\p.toNat<g.bi.length/\VL .i64 s/\VL .i64 h/\((o.as o/\(a s).as (a (cV g (Δ h.toNat c)))/\(e j c).as (e j c)/\r.as r/\k.as k/\True)/\n.as n/\True)/\(d<=h/\h<=b)/\(b - h).toNat<(b - x).toNat)/\(decide (x<b)=false->(a t).as (a (cV g c)))) (by kernel_rfl) ?_;conv=>zeta
 try simp only[vcs]
 refine⟨⟨by simp[cV],by omega,by omega⟩,?_⟩;rintro i ⟨A,H⟩;refine⟨λu=>?_,λu=>?_⟩
 ·have F:=l _ (cB (d:=0) (show i.toNat<c.length by omega));have G:cV g (c.take (i+1).toNat)=cV g (c.take i.toNat)+(bN g.bi (bN c i.toNat 0).toNat ew.bt.bu).value:=Nf (f:=λx=>(bN g.bi x.toNat ew.bt.bu).value) A u;have w:0<=cV g (c.take i.toNat)/\cV g (c.take i.toNat)<=c.length*1000000:=Es (f:=λx=>(bN g.bi x.toNat ew.bt.bu).value) (m:=1000000) (by omega) e;have z:=e _ (cB (d:=0) (show i.toNat<c.length by omega));omega
 ·rw[show i.toNat=c.length by omega,φ]
def zu:NG:=⟨77,List Int×List Int,.cons (cQ (.i .i64)) (.one (cQ (.i .i64))),λa=>a.1.length<=1000/\1<=a.2.length/\a.2.length<=1000,λa=> .row (.i .i64) (dr (a.1++a.2))⟩
theorem yV:Holds Tryz.prog zu:=by
 refine j7 (L:=[]) (W:=fT [sQ,yh]) zu lk (ke (by grind[sq,yR])) (by simp) ?_;rintro⟨s,x⟩ ⟨b,c,d⟩;simp only at b c d;refine NI (let a:Nat:=(s++x).length;s.length<=1000000/\s.length=s.length/\(s.length+x.length)*8<=140737488355328/\s.length+x.length<=1000000000000/\((s++x).length=a/\1<=a/\a<=1000000)/\(s++x).length=(dr (s++x)).length/\(γa (ew.i .i64) (dr (s++x))).as (γa (ew.i .i64) (dr (s++x)))) (by kernel_rfl) ?_;conv=>zeta
 try simp only[vcs]
 grind[pD]
def Er:NG:=⟨109,List Int×Int,.cons (cQ (.i .i64)) (.one (dZ .i64)),λa=>a.1.length<=1000/\0<=a.2/\a.2<a.1.length,λa=> .row (.i .i64) (a.1.take a.2.toNat++a.1.drop (a.2+1).toNat)⟩
theorem Ix:Holds Tryz.prog Er:=by
 refine j7 (L:=[]) (W:=fT [sQ,sP]) Er lk (ke (by grind[sq,Iu])) (by simp) ?_;rintro⟨s,i⟩ ⟨d,e,f⟩;simp only at d e f;refine NI (let a:=i+(1:Int);let c:=ko s i.toNat a.toNat;let b:=s.length - (a - i).toNat;s.length<=1000000/\VL .i64 a/\((s.length=s.length/\1<=s.length/\s.length<=1000000)/\(0:Int)<=i/\i<=a/\a<=(↑s.length:Int))/\s.length=c.length/\0+b<=s.length/\(γa (ew.i .i64) (Δ b c)).as (γa (ew.i .i64) (Δ i.toNat s++γ4 a.toNat s))) (by kernel_rfl) ?_;conv=>zeta
 try simp only[vcs]
 have g:=@Nh s i.toNat (i+1).toNat (by omega) (by omega);refine⟨by omega,by omega,by omega,g.symm,by omega,?_⟩;unfold ko;rw[List.take_append_of_le_length (by grind),γu (by grind)]
def qk (c:List Int) (x:Int):Int:=if x∈c then(c.idxOf x:Int) else -1
theorem UW {c:List Int} {x:Int} {k:Nat} (h:k<c.length) (b:∀j:Nat,j<k->bN c j 0≠x) (a:bN c k 0=x):qk c x=k:=by
 unfold qk;rw[if_pos (a▸cB h)];congr 1;rw[bW h] at a;rw[List.idxOf,List.findIdx_eq h];grind[bW]
theorem UV {c:List Int} {x:Int} (a:∀j:Nat,j<c.length->bN c j 0≠x):qk c x= -1:=by
 unfold qk;rw[if_neg];intro h;obtain⟨k,b,rfl⟩:=List.getElem_of_mem h;grind[bW]
theorem UU {c:List Int} {x:Int}:0<=qk c x↔x∈c:=by
 grind[qk]
def Ep:NG:=⟨148,List Int×Int,.cons (cQ (.i .i64)) (.one (dZ .i64)),λa=>a.1.length<=1000,λa=> .si .i64 (qk a.1 a.2)⟩
def UT (c:List Int) (x:Int):Nat->bK
 |2=> .inv Int (λi=>⟨[(0,.row (.i .i64) c),(1,.si .i64 x),(7,.si .i64 c.length),(8,.si .i64 i)],[]⟩)
   (λs=>iS s 8) (λi=>(0<=i/\i<=c.length)/\∀k:Nat,(k:Int)<i->bN c k 0≠x) (λi=>(c.length - i).toNat) λ_ _=> .bz
 |_=> .bz
theorem It:Holds Tryz.prog Ep:=by
 refine bO (L:=[]) Ep (λa=>UT a.1 a.2) (by simp) ?_;rintro⟨c,x⟩ o;replace o:c.length<=1000:=o;refine NI (let a:=γj .i64;let h:=(0:Int);let f:=γa (ew.i .i64) c;let d:=(↑c.length:Int);let g:=a d;let n:=a (qk c x);(((f.as f/\(a x).as (a x)/\(a (↑c.length:Int)).as g/\(γC .i64 0).as (a 0)/\True)/\True)/\(h<=h/\h<=d)/\∀(k:Nat),(↑k:Int)<h->bN c k h≠x)/\∀(b:Int),let l:=decide (x=bN c b.toNat h);let e:=b+(1:Int);let j:=a x;let m:=a e;((h<=b/\b<=d)/\∀(k:Nat),(↑k:Int)<b->bN c k h≠x)->(decide (b<d)=true->h<=b/\b<(↑c.length:Int)/\b.toNat<c.length/\(l=true->(a b).as n)/\(l=false->VL .i64 e/\((f.as f/\j.as j/\g.as g/\m.as m/\True)/\True)/\((h<=e/\e<=d)/\∀(k:Nat),(↑k:Int)<e->bN c k h≠x)/\(d - e).toNat<(d - b).toNat))/\(decide (b<d)=false->(γC .i64 (-1:Int)).as n)) (by kernel_rfl) ?_;conv=>zeta
 try simp only[vcs]
 refine⟨⟨by omega,λk h=>by omega⟩,?_⟩;grind[UW,UV]
def Eo:NG:=⟨110,List Int×Int,.cons (cQ (.i .i64)) (.one (dZ .i64)),λa=>a.1.length<=1000,λa=> .sb (decide (a.2∈a.1))⟩
theorem Iw:Holds Tryz.prog Eo:=by
 refine bO (L:=[Ep]) Eo lk (by grind[It]) ?_;rintro⟨c,x⟩ a;replace a:c.length<=1000:=a;refine NI (c.length<=1000/\(γB (decide ((0:Int)<=qk c x))).as (γB (decide (x∈c)))) (by kernel_rfl) ?_;simp_all[UU]
theorem ye {p:cj} (a:nW p=0) {r:Int}:0<=cD p r/\cD p r<=4:=by
 obtain⟨_,_,b,c,_⟩:=cN a;unfold cD;split;·omega
 ·split;all_goals simp_all[Fs]
theorem Nd {p:cj} (h:p.bi.length<=1000):lM (bY p):=by
 have j:nR p<=20:=by
  unfold nR;split
  ·rename_i a;have:=(cN a).1;omega
  ·omega
 have d:0<nR p->nW p=0:=by
  grind[nR]
 refine⟨⟨?_,?_,h⟩,λr f=>?_,λb g=>?_⟩
 ·show(kU p (nR p)).length=(jw p (nR p)).length;rw[Ng,zy]
 ·show(jw p (nR p)).length<=1000;grind[zy]
 ·obtain⟨k,c,rfl⟩:=Γ.1 (show r∈kU p (nR p) from f);rw[γD] at c;have a:=d (by omega);refine⟨by simp[gz,bY],λx i=>?_⟩;obtain⟨o,e,rfl⟩:=Γ.1 (show x∈gz p k p.bi.length from i);have:=nP (p:=p) (r:=k) ((cN a).2.2.2.2 o (γn e)).2.2.1;omega
 ·obtain⟨k,c,rfl⟩:=Γ.1 (show b∈jw p (nR p) from g);rw[γD] at c;have:=ye (d (by omega)) (r:=k);omega
def stepG (g:bZ) (c:List Int) (x:Int):List Int:=if j_ g (dr (c++[x]))=true then dr (c++[x]) else c
def mR (g:bZ) (l:List Int):List Int:=l.foldl (stepG g) []
def fS (p:cj):List Int:=if nW p=0 then sS p else[]
def jh (p:cj):List Int:=mR (bY p) (fS p)
theorem zt {l:List Int} {x:Int}:x∈dr l↔x∈l:=(δp _ _).mem_iff
theorem Nc {g:bZ} {c:List Int} {x y:Int} (h:y∈stepG g c x):y∈c\/y=x:=by
 grind[stepG,zt]
theorem US {g:bZ} {c:List Int} {x:Int}:(stepG g c x).length<=c.length+1:=by
 grind[stepG,pD]
theorem Nb {g:bZ} {l:List Int}:∀{c:List Int} {y:Int},y∈l.foldl (stepG g) c->y∈c\/y∈l:=by
 induction l<;>grind[Nc]
theorem UR {g:bZ} {l:List Int}:∀{c:List Int},(l.foldl (stepG g) c).length<=c.length+l.length:=by
 induction l<;>grind[stepG,US]
theorem UQ {g:bZ} {l:List Int}:(mR g l).length<=l.length:=by
 grind[UR,mR]
theorem UP {g:bZ} {l:List Int} {i:Int} (a:0<=i) (h:i<l.length):mR g (l.take (i+1).toNat)=stepG g (mR g (l.take i.toNat)) (bN l i.toNat 0):=by
 grind[mR,jj]
theorem En {p:cj} {x:Int} (h:x∈fS p):nW p=0/\lg p x:=by
 unfold fS at h;split at h
 ·rename_i a;rw[sS,EF,ji] at h;exact⟨a,h⟩
 ·simp at h
theorem Na {p:cj}:(fS p).length<=p.bi.length:=by
 grind[fS,sS,qm,gR]
theorem UO {p:cj} (d:p.bi.length<=20) {k:Nat}:(mR (bY p) ((fS p).take k)).length<=40/\∀x∈mR (bY p) ((fS p).take k),nW p=0/\lg p x:=by
 have b:=@UQ (bY p) ((fS p).take k);have c:=@Na p;rw[γz] at b;refine⟨by omega,λx a=>?_⟩;rcases Nb a with h|h<;>grind[Nb,En]
def yd:NG:=⟨55,cj,.one cX,λp=>p.bi.length<=20,λp=>kr.put ⟨jh p,cV (bY p) (jh p)⟩⟩
def UN (p:cj):Nat->bK
 |4=> .inv Int (λi=>⟨[(2,.ptr 1 0 2),(3,.ptr 2 0 3),(4,.row (.i .i64) (mR (bY p) ((fS p).take i.toNat))),(11,.row (.i .i64) (fS p)),(12,.si .i64 (fS p).length),(13,.si .i64 i)],[.cells p.ss 27 20 false,.cells [.sc (.slice none 0 0),.il .i64 0] 40 2 false,.cells [.row (.Ap (.i .i64)) (bY p).rows,.row (.i .i64) (bY p).bounds,.row .bt (bY p).bi] 130 3 false,.dead]⟩)
   (λs=>iS s 13) (λi=>0<=i/\i<=(fS p).length) (λi=>((fS p).length - i).toNat) λ_ _=> .bz
 |_=> .bz
theorem ua:Holds Tryz.prog yd:=by
 refine bO (L:=[zx,Et,zu,zw,vH]) yd UN (by simpa using⟨yW,IG,yV,yU,qP⟩) ?_;intro(p:cj) (hp:p.bi.length<=20);refine NI (let a:=γj .i64;let b:=γa;let c:=(0:Int);let d:=iZ.cells;let j:=γV 1 0 2;let k:=γV 2 0 3;let e:=ew.i .i64;let s:=if nW p=c then sS p else[];let o:=b e (fS p);let f:=(↑(fS p).length:Int);let q:=a f;let t:=γC .i64 0;let l:=d [a p.bk.a0,a p.bk.a1,a p.bk.a2,a p.bk.a3,a p.bk.a4,a p.bk.a5,a p.bq.a0,a p.bq.a1,a p.bq.a2,a p.bq.a3,a p.bq.a4,a p.bq.a5,a p.bs.a0,a p.bs.a1,a p.bs.a2,a p.bs.a3,a p.bs.a4,a p.bs.a5,b e p.bj,b ew.bt p.bi] 27 20 false;let m:=d [SV.sc (Value.slice none 0 0),t] 40 2 false;let n:=d [b e.Ap (bY p).rows,b e (bY p).bounds,b ew.bt (bY p).bi] 130 3 false;True/\0=0/\p.bi.length<=20/\(((j.as j/\k.as k/\(b e []).as (b e (mR (bY p) []))/\(b e s).as o/\(a (↑s.length:Int)).as q/\t.as (a 0)/\True)/\l.as l/\m.as m/\n.as n/\iZ.dead.as iZ.dead/\True)/\c<=c/\c<=f)/\∀(x:Int),let g:=mR (bY p) (Δ x.toNat (fS p));let r:=dr (g++[bN (fS p) x.toNat c]);let h:=x+(1:Int);let v:=a h;let w:=λ(u:Bool) (u_1:List Int) ↦j_ (bY p) r=u->VL .i64 h/\((j.as j/\k.as k/\(b e u_1).as (b e (mR (bY p) (Δ h.toNat (fS p))))/\o.as o/\q.as q/\v.as v/\True)/\l.as l/\m.as m/\n.as n/\iZ.dead.as iZ.dead/\True)/\(c<=h/\h<=f)/\(f - h).toNat<(f - x).toNat;c<=x/\x<=f->(decide (x<f)=true->c<=x/\x<(↑(fS p).length:Int)/\x.toNat<(fS p).length/\(g.length<=1000/\1<=1/\1<=1000)/\(lM (bY p)/\ng (bY p) r)/\w true r/\w false g)/\(decide (x<f)=false->(lM (bY p)/\ng (bY p) g/\nL (bY p) g)/\(γN [b e g,a (cV (bY p) g)]).as (γN [b e (jh p),a (cV (bY p) (jh p))]))) (by kernel_rfl) ?_;conv=>zeta
 try simp only[vcs]
 have hg:=@Nd p (by omega);have hol:=@Na p;have e0:(if nW p=0 then sS p else[])=fS p:=rfl;rw[e0];refine⟨hp,⟨⟨rfl,rfl,rfl⟩,by omega,by omega⟩,?_⟩
 ·rintro i ⟨i0,i1⟩;obtain⟨hsl,hsm⟩:=@UO p hp i.toNat;refine⟨λhi=>?_,λhi=>?_⟩
  ·have hs:=@UP (bY p) (fS p) i i0 hi;have hx:=En (cB (d:=0) (show i.toNat<(fS p).length by omega));rw[hs];generalize mR (bY p) ((fS p).take i.toNat)=c at*;refine⟨i0,hi,by omega,⟨by omega,by omega,by omega⟩,⟨hg,by rw[pD,γh];simp;omega,λx h=>?_⟩,λh=>⟨by omega,by unfold stepG;rw[if_pos h],by omega,by omega⟩,λh=>⟨by omega,by unfold stepG;rw[if_neg (by rw[h];simp)],by omega,by omega⟩⟩;rw[zt,γi] at h;rcases h with h|h;·exact(hsm x h).2
   ·rw[List.mem_singleton] at h;rw[h];exact hx.2
  ·have hk:(fS p).take i.toNat=fS p:=γu (by omega);rw[hk] at hsl hsm ⊢;refine⟨⟨hg,⟨by omega,λx h=>(hsm x h).2⟩,λx h=>?_⟩,rfl⟩;obtain⟨hc,hx⟩:=hsm x h;have:=(xK hc hx).1;have e:(bN (bY p).bi x.toNat ew.bt.bu).value=pE p x:=rfl;rw[e];omega
def pj (g:bZ):List SV:=[.row (.Ap (.i .i64)) g.rows,.row (.i .i64) g.bounds,.row .bt g.bi]
def Em:List SV->Option bZ
 |[r,v,x]=>match iI (.Ap (.i .i64)) r,iI (.i .i64) v,iI .bt x with
  |some c,some v,some x=>some ⟨c,v,x⟩
  |_,_,_=>none
 |_=>none
theorem UM {cs:List SV} {g:bZ} (h:Em cs=some g):gL cs=gL (pj g):=by
 unfold Em at h;grind[pj,gL,nn]
theorem UL {g a:bZ} (h:gL (pj g)=gL (pj a)):g=a:=yf.inj g a (by
 show AV.agg (gL (pj g))=AV.agg (gL (pj a));rw[h])
def lL (g:bZ) (v:Int) (c:List Int):Bool:=decide (v<cV g c)&&j_ g c
def El:cW where
 f:=108;α:=List Int×bZ×Int;put a:=[.row (.i .i64) a.1,.ptr 0 0 3,.ptr 1 0 1];st a:=[.cells (pj a.2.1) 130 3 false,.cells [.si .i64 a.2.2] 2 1 false];dec v o:=match v,o with
  |[x,.ptr 0 0 3,.ptr 1 0 1],[.cells cs 130 3 false,.cells [y] 2 1 false]=>match iI (.i .i64) x,Em cs,y.int .i64 with
   |some x,some g,some y=>some (x,g,y)
   |_,_,_=>none
  |_,_=>none;ok v o a h:=by
  split at h
  ·split at h
   ·rename_i h1 h2 h3;simp only[γ] at h;subst h;refine⟨by simp only[gL,nn h1],?_⟩;simp only[gO,ξ,γw,iZ.g,UM h2,gL,gU h3];rfl
   ·cases h
  ·cases h
 inj a b h1 h2:=by
  simp only[gL,Θ,and_true,γF,δ7] at h1;simp only[gO,ξ,γw,iZ.g,Θ,OL.cells.injEq,and_true,gL,γF,δe,Value.int.injEq,true_and] at h2;have h3:=UL h2.1;have h4:=ku (.i .i64) h1.1 h1.2;exact εE h4 (εE h3 h2.2)
 dom a:=lM a.2.1/\ng a.2.1 a.1/\nL a.2.1 a.1;res a:=.sb (lL a.2.1 a.2.2 a.1);out a:=[.cells (pj a.2.1) 130 3 false,.cells [.si .i64 a.2.2] 2 1 false]
theorem Iy:dD Tryz.prog El:=by
 refine kq (L:=[zw,vH]) (W:=[]) El lk (by simp) (by grind[yU,qP]) ?_;rintro⟨c,g,v⟩ ⟨j,f,h⟩;simp only at j f h;refine NI (let f:=γa;let e:=iZ.cells [f (ew.i .i64).Ap g.rows,f (ew.i .i64) g.bounds,f ew.bt g.bi] 130 3 false;let a:=iZ.cells [γj .i64 v] 2 1 false;let b:=decide (v<cV g c);let d:=e.as e/\a.as a/\True;(lM g/\ng g c/\nL g c)/\(b=true->(lM g/\ng g c)/\(γB (j_ g c)).as (γB (lL g v c))/\d)/\(b=false->(δj false).as (γB (lL g v c))/\d)) (by kernel_rfl) ?_;simp_all[vcs,lL,decide_eq_false]
def nJ (g:bZ) (c:List Int) (v:Int) (a:List Int) (o k:Int):Option (List Int):=if k<=o\/k∈c then none else if lL g v (dr (a++[o,k]))=true then some (dr (a++[o,k])) else none
def lJ (g:bZ) (c:List Int) (v:Int) (a:List Int) (o:Int):Option (List Int):=if o∈c then none else if lL g v (dr (a++[o]))=true then some (dr (a++[o])) else(ω g.bi.length).findSome? λk:Nat=>nJ g c v a o k
def gQ (c:List Int) (i:Nat):List Int:=c.take i++c.drop (i+1)
def uo (g:bZ) (c:List Int) (v:Int) (i:Nat):Option (List Int):=(ω g.bi.length).findSome? λo:Nat=>lJ g c v (gQ c i) o
def gZ (g:bZ) (c:List Int):Option (List Int):=(ω c.length).findSome? λi=>uo g c (cV g c) i
theorem zr {n:Nat} {f:Nat->Option (List Int)} (h:∀i,i<n->f i=none):(ω n).findSome? f=none:=by
 simp_all
theorem zq {n i:Nat} {f:Nat->Option (List Int)} {t:List Int} (c:i<n) (h:∀j,j<i->f j=none) (b:f i=some t):(ω n).findSome? f=some t:=by
 have e:ω n=ω i++(i::(ω (n - (i+1))).map λk=>i+1+k):=by
  have a:=@List.range_add i (n - i);rw[show i+(n - i)=n by omega] at a;rw[a,show n - i=(n - (i+1))+1 by omega,List.range_succ_eq_map];simp only[ξ,γP,Nat.add_zero];congr 2;apply γI;grind
 simp_all[zr]
def rB (g:bZ):Prop:=lM g/\∀o∈g.bi,0<=o.value/\o.value<=1000000
def Ek:NG:=⟨74,bZ×List Int,.cons yf (.one (cQ (.i .i64))),λa=>rB a.1/\(a.2.length<=900/\∀x∈a.2,0<=x/\x<a.1.bi.length),λa=> .Gz [.row (.i .i64) ((gZ a.1 a.2).getD []),.sb (gZ a.1 a.2).isSome]⟩
def Ej (g:bZ) (c:List Int):TP:=[.cells (pj g) 130 3 false,.cells [.si .i64 (cV g c)] 2 1 false]
def UK (g:bZ) (c:List Int):Nat->bK
 |4=> .inv Int (λi=>⟨[(1,.row (.i .i64) c),(2,.ptr 0 0 3),(7,.fn (.func 108) [] [.ptr 0 0 3,.ptr 1 0 1]),(19,.si .i64 c.length),(20,.si .i64 i)],Ej g c⟩)
   (λs=>iS s 20) (λi=>(0<=i/\i<=c.length)/\∀k:Nat,(k:Int)<i->uo g c (cV g c) k=none) (λi=>(c.length - i).toNat) λi k=>match k with
   |8=> .inv Int (λo=>⟨[(1,.row (.i .i64) c),(2,.ptr 0 0 3),(7,.fn (.func 108) [] [.ptr 0 0 3,.ptr 1 0 1]),(9,.row (.i .i64) (gQ c i.toNat)),(19,.si .i64 c.length),(20,.si .i64 i),(28,.si .i64 g.bi.length),(29,.si .i64 o)],Ej g c⟩)
     (λs=>iS s 29) (λo=>(0<=o/\o<=g.bi.length)/\∀k:Nat,(k:Int)<o->lJ g c (cV g c) (gQ c i.toNat) k=none) (λo=>(g.bi.length - o).toNat) λo k=>match k with
     |15=> .inv Int (λz=>⟨[(1,.row (.i .i64) c),(2,.ptr 0 0 3),(7,.fn (.func 108) [] [.ptr 0 0 3,.ptr 1 0 1]),(9,.row (.i .i64) (gQ c i.toNat)),(10,.si .i64 o),(12,.si .i64 z),(19,.si .i64 c.length),(20,.si .i64 i),(28,.si .i64 g.bi.length),(29,.si .i64 o)],Ej g c⟩)
       (λs=>iS s 12) (λz=>(o<z/\z<=g.bi.length)/\∀k:Nat,(k:Int)<z->nJ g c (cV g c) (gQ c i.toNat) o k=none) (λz=>(g.bi.length - z).toNat) λ_ _=> .bz
     |_=> .bz
   |_=> .bz
 |_=> .bz
theorem IB:Holds Tryz.prog Ek:=by
 refine j7 (L:=[zu,vH,Er,Eo]) (W:=fT [El]) Ek (λa=>UK a.1 a.2) (ke (by simpa using Iy)) (by simpa using⟨yV,qP,Ix,Iw⟩) ?_;rintro⟨g,c⟩ ⟨⟨hg,hv⟩,hcl,hci⟩;simp only at hg hv hcl hci;refine NI (let a:=γj .i64;let b:=γa;let d:=(0:Int);let e:=VL .i64;let f:=γC .i64 0;let h:=SV.Gz;let j:=(1:Int);let l:=ew.i .i64;let n:=γV 0 0 3;let p:=SV.fn (Fn.func 108) [] [n,γV 1 0 1];let u:=(↑c.length:Int);let s:=a u;let q:=iZ.cells [b l.Ap g.rows,b l g.bounds,b ew.bt g.bi] 130 3 false;let r:=iZ.cells [a (cV g c)] 2 1 false;let F:=(↑g.bi.length:Int);let m:=(↑g.bi.length:Int);let v:=a m;let G:=h [b l ((gZ g c).getD []),γB (gZ g c).isSome];(lM g/\ng g c/\nL g c)/\((((b l c).as (b l c)/\n.as n/\p.as p/\(a (↑c.length:Int)).as s/\(f).as (a 0)/\True)/\q.as q/\r.as r/\True)/\(d<=d/\d<=u)/\∀(k:Nat),(↑k:Int)<d->uo g c (cV g c) k=none)/\∀(x:Int),let z:=x+j;let t:=gQ c x.toNat;let w:=b l t;let H:=a z;((d<=x/\x<=u)/\∀(k:Nat),(↑k:Int)<x->uo g c (cV g c) k=none)->(decide (x<u)=true->(c.length<=1000/\d<=x/\x<u)/\((((b l c).as (b l c)/\n.as n/\p.as p/\(b l (Δ x.toNat c++γ4 z.toNat c)).as w/\s.as s/\(a x).as (a x)/\(a F).as v/\(f).as (a 0)/\True)/\q.as q/\r.as r/\True)/\(d<=d/\d<=m)/\∀(k:Nat),(↑k:Int)<d->lJ g c (cV g c) t (↑k:Int)=none)/\∀(x_1:Int),let o:=x_1+j;let y:=a x;let A:=a o;let C:=dr (t++[x_1]);let I:=lL g (cV g c) C;((d<=x_1/\x_1<=m)/\∀(k:Nat),(↑k:Int)<x_1->lJ g c (cV g c) t (↑k:Int)=none)->(decide (x_1<m)=true->c.length<=1000/\(decide (x_1∈c)=true->e o/\(((b l c).as (b l c)/\n.as n/\p.as p/\w.as w/\s.as s/\y.as y/\v.as v/\A.as A/\True)/\q.as q/\r.as r/\True)/\((d<=o/\o<=m)/\∀(k:Nat),(↑k:Int)<o->lJ g c (cV g c) t (↑k:Int)=none)/\(m - o).toNat<(m - x_1).toNat)/\(decide (x_1∈c)=false->(t.length<=1000/\1<=1/\1<=1000)/\(lM g/\ng g C/\nL g C)/\(I=true->(h [b l C,δj true]).as G)/\(I=false->e o/\((((b l c).as (b l c)/\n.as n/\p.as p/\w.as w/\(a x_1).as (a x_1)/\A.as A/\s.as s/\y.as y/\v.as v/\(a x_1).as (a x_1)/\True)/\q.as q/\r.as r/\True)/\(x_1<o/\o<=m)/\∀(k:Nat),(↑k:Int)<o->nJ g c (cV g c) t x_1 (↑k:Int)=none)/\∀(x:Int),let B:=x+j;let D:=a x_1;let J:=a B;let E:=dr (t++[x_1,x]);let K:=lL g (cV g c) E;let L:=e B/\(((b l c).as (b l c)/\n.as n/\p.as p/\w.as w/\D.as D/\J.as J/\s.as s/\y.as y/\v.as v/\D.as D/\True)/\q.as q/\r.as r/\True)/\((x_1<B/\B<=m)/\∀(k:Nat),(↑k:Int)<B->nJ g c (cV g c) t x_1 (↑k:Int)=none)/\(m - B).toNat<(m - x).toNat;((x_1<x/\x<=m)/\∀(k:Nat),(↑k:Int)<x->nJ g c (cV g c) t x_1 (↑k:Int)=none)->(decide (x<F)=true->c.length<=1000/\(decide (x∈c)=true->L)/\(decide (x∈c)=false->(t.length<=1000/\1<=2/\2<=1000)/\(lM g/\ng g E/\nL g E)/\(K=true->(h [b l E,δj true]).as G)/\(K=false->L)))/\(decide (x<F)=false->e o/\(((b l c).as (b l c)/\n.as n/\p.as p/\w.as w/\s.as s/\y.as y/\v.as v/\A.as A/\True)/\q.as q/\r.as r/\True)/\((d<=o/\o<=m)/\∀(k:Nat),(↑k:Int)<o->lJ g c (cV g c) t (↑k:Int)=none)/\(m - o).toNat<(m - x_1).toNat))))/\(decide (x_1<m)=false->e z/\(((b l c).as (b l c)/\n.as n/\p.as p/\s.as s/\H.as H/\True)/\q.as q/\r.as r/\True)/\((d<=z/\z<=u)/\∀(k:Nat),(↑k:Int)<z->uo g c (cV g c) k=none)/\(u - z).toNat<(u - x).toNat))/\(decide (x<u)=false->(h [b l [],δj false]).as G)) (by kernel_rfl) ?_;conv=>zeta
 try simp only[vcs]
 have hvo:∀d:List Int,(∀x∈d,0<=x/\x<g.bi.length)->nL g d:=λd hd x hx=>hv _ (cB (by have:=hd x hx;omega));have hout:∀i:Nat,(gQ c i).length<=900/\∀x∈gQ c i,x∈c:=λi=>by
  unfold gQ;refine⟨by rw[γh,γz,List.length_drop];omega,λx hx=>?_⟩;rw[γi] at hx;exact hx.elim γn γY
 have hnew:∀(i:Nat) (d:List Int),d.length<=2->(∀x∈d,0<=x/\x<g.bi.length)->lM g/\ng g (dr (gQ c i++d))/\nL g (dr (gQ c i++d)):=λi d hd hx=>by
  have h2:∀x∈dr (gQ c i++d),0<=x/\x<g.bi.length:=λx h=>by
   rw[zt,γi] at h;exact h.elim (λh=>hci x ((hout i).2 x h)) (hx x)
  have:=(hout i).1;exact⟨hg,⟨by rw[pD,γh];omega,h2⟩,hvo _ h2⟩
 have hg1:=hg.1;refine⟨⟨hg,⟨by omega,hci⟩,hvo c hci⟩,⟨by omega,λk h=>by omega⟩,?_⟩;rintro i ⟨⟨i0,i1⟩,hi⟩;refine⟨λhil=>⟨⟨by omega,i0,hil⟩,⟨by unfold gQ;rw[show(i+1).toNat=i.toNat+1 by omega],by omega,λk h=>by omega⟩,?_⟩,λhil=>?_⟩
 ·have ho:=hout i.toNat;have bn:∀t,uo g c (cV g c) i.toNat=some t->gZ g c=some t:=λt ht=>zq (i:=i.toNat) (by omega) (λj hj=>hi j (by omega)) ht;rintro o ⟨⟨o0,o1⟩,hk⟩;refine⟨λhol=>⟨by omega,λhin=>⟨by omega,⟨by omega,λk h=>?_⟩,by omega⟩,λhin=>⟨by omega,hnew _ _ (by simp) (by simp;omega),λhb=>?_,λhb=>⟨by omega,⟨by omega,λk h=>?_⟩,?_⟩⟩⟩,λhol=>⟨by omega,⟨by omega,λk h=>?_⟩,by omega⟩⟩
  ·by_cases h2:(k:Int)<o;·exact hk k h2
   ·rw[show(k:Int)=o by omega];unfold lJ;rw[if_pos hin]
  ·have h2:lJ g c (cV g c) (gQ c i.toNat) o=some (dr (gQ c i.toNat++[o])):=by
    unfold lJ;rw[if_neg hin,if_pos hb]
   have h3:=bn _ (zq (f:=λo:Nat=>lJ g c (cV g c) (gQ c i.toNat) o) (i:=o.toNat) (by omega) (λj hj=>hk j (by omega)) (by simp only[show((o.toNat:Nat):Int)=o by omega];exact h2));rw[h3];exact⟨rfl,rfl⟩
  ·unfold nJ;rw[if_pos (.inl (by omega))]
  ·rintro z ⟨⟨z0,z1⟩,hz⟩;refine⟨λhzl=>⟨by omega,λhin2=>⟨by omega,⟨by omega,λk h=>?_⟩,by omega⟩,λhin2=>⟨by omega,hnew _ _ (by simp) (by simp;omega),λhb2=>?_,λhb2=>⟨by omega,⟨by omega,λk h=>?_⟩,by omega⟩⟩⟩,λhzl=>⟨by omega,⟨by omega,λk h=>?_⟩,by omega⟩⟩
   ·by_cases h2:(k:Int)<z;·exact hz k h2
    ·rw[show(k:Int)=z by omega];unfold nJ;rw[if_pos (.inr hin2)]
   ·have h4:¬z<=o:=by omega
    have h5:nJ g c (cV g c) (gQ c i.toNat) o z=some (dr (gQ c i.toNat++[o,z])):=by
     unfold nJ;rw[if_neg (λh=>h.elim h4 hin2),if_pos hb2]
    have h2:lJ g c (cV g c) (gQ c i.toNat) o=some (dr (gQ c i.toNat++[o,z])):=by
     unfold lJ;rw[if_neg hin,if_neg (by rw[hb];simp)];exact zq (f:=λk:Nat=>nJ g c (cV g c) (gQ c i.toNat) o k) (i:=z.toNat) (by omega) (λj hj=>hz j (by omega)) (by simp only[show((z.toNat:Nat):Int)=z by omega];exact h5)
    have h3:=bn _ (zq (f:=λo:Nat=>lJ g c (cV g c) (gQ c i.toNat) o) (i:=o.toNat) (by omega) (λj hj=>hk j (by omega)) (by simp only[show((o.toNat:Nat):Int)=o by omega];exact h2));rw[h3];exact⟨rfl,rfl⟩
   ·by_cases h2:(k:Int)<z;·exact hz k h2
    ·rw[show(k:Int)=z by omega];unfold nJ;rw[hb2];simp
   ·by_cases h2:(k:Int)<o;·exact hk k h2
    ·rw[show(k:Int)=o by omega];unfold lJ;rw[if_neg hin,if_neg (by rw[hb];simp)];exact zr λj hj=>hz j (by omega)
  ·by_cases h2:(k:Int)<i;·exact hi k h2
   ·rw[show k=i.toNat by omega];exact zr λj hj=>hk j (by omega)
 ·have:gZ g c=none:=zr λj hj=>hi j (by omega);rw[this];exact⟨rfl,rfl⟩
def dn (n:Nat) (c:List Int):Prop:=c.Pairwise (·<·)/\∀x∈c,0<=x/\x<n
theorem Ei {n:Nat}:∀{c:List Int} {a:Int},a<=n->c.Pairwise (·<·)->(∀x∈c,a<=x/\x<n)->(c.length:Int)<=n - a
 |[],a,e,_,_=>by simp;omega;|x::c,a,e,h,b=>by
  have f:=b x (by simp);rw[γr] at h;have:=@Ei n c (x+1) (by omega) h.2 λy d=>⟨by grind,(b y (by simp[d])).2⟩;grind
theorem qj {n:Nat} {c:List Int} (h:dn n c):c.length<=n:=by
 have:=Ei (n:=n) (a:=0) (by omega) h.1 h.2;omega
theorem Eh {n:Nat} {c:List Int} (f:c.Nodup) (e:∀x∈c,0<=x/\x<n):dn n (dr c):=by
 refine⟨?_,λx i=>e x (zt.1 i)⟩;have g:(dr c).Pairwise (·<=·):=by
  have:=δK (le:=λx y:Int=>decide (x<=y)) (λa b d f e=>by grind) (λa b=>by simp;omega) c;exact this.imp λh=>of_decide_eq_true h
 have j:(dr c).Pairwise (·≠·):=(δp _ _).symm.nodup f;exact(g.and j).imp λh=>by omega
theorem vG {n:Nat} {c:List Int} (h:dn n c):c.Nodup:=h.1.imp λh=>by omega
theorem M_ {c:List Int} {i:Nat}:(gQ c i).Sublist c:=by
 unfold gQ;rw[List.drop_add_one_eq_tail_drop];have:=(List.Sublist.refl (c.take i)).append (List.tail_sublist (c.drop i));simp_all
theorem vF {g:bZ} {c t:List Int} (h:gZ g c=some t) (d:dn g.bi.length c):lL g (cV g c) t=true/\dn g.bi.length t:=by
 obtain⟨i,l,h⟩:=δZ h;obtain⟨o,m,h⟩:=δZ h;rw[γD] at l m;have f:(gQ c i).Nodup:=(vG d).sublist M_;have b:∀x∈gQ c i,x∈c:=λx a=>M_.subset a;unfold lJ at h;split at h;·cases h
 ·rename_i p;split at h
  ·rename_i e;injection h with h;subst h;refine⟨e,Eh ?_ λx a=>?_⟩;·grind
   ·rw[γi] at a;rcases a with a|a;·exact d.2 x (b x a)
    simp_all
  ·obtain⟨k,j,h⟩:=δZ h;rw[γD] at j;unfold nJ at h;split at h;·cases h
   ·rename_i n;split at h
    ·rename_i e;injection h with h;subst h;refine⟨e,Eh ?_ λx a=>?_⟩;·grind
     ·rw[γi] at a;rcases a with a|a;·exact d.2 x (b x a)
      grind
    ·cases h
def kS (g:bZ):Nat->List Int->List Int
 |0,c=>c
 |n+1,c=>match gZ g c with
  |some t=>kS g n t
  |none=>c
def jS (g:bZ) (c:List Int):List Int:=kS g (1000000000 - cV g c).toNat c
theorem pC {g:bZ} (a:rB g) {c:List Int} (h:dn g.bi.length c):0<=cV g c/\cV g c<=1000000000:=by
 have d:=Es (f:=λx=>(bN g.bi x.toNat ew.bt.bu).value) (c:=c) (k:=c.length) (m:=1000000) (by omega) λx b=>a.2 _ (cB (by have:=h.2 x b;omega));rw[φ] at d;have e:=qj h;have i:=a.1.1.2.2;grind[cV]
theorem UJ {g:bZ} (d:rB g):∀{n m:Nat} {c:List Int},dn g.bi.length c->(1000000000 - cV g c).toNat<=n->(1000000000 - cV g c).toNat<=m->kS g n c=kS g m c:=by
 intro n;induction n with
 |zero=>
  intro m c a k j;have h:=pC d a;cases m with
  |zero=>rfl;|succ m=>
   unfold kS;cases f:gZ g c with
   |none=>rfl;|some t=>
    obtain⟨b,e⟩:=vF f a;have i:=pC d e;unfold lL at b;grind
 |succ n l=>
  intro m c a k j;have h:=pC d a;cases f:gZ g c with
  |none=>
   cases m<;>grind[kS];|some t=>
   obtain⟨b,e⟩:=vF f a;have i:=pC d e;unfold lL at b;simp only[θ,decide_eq_true_eq] at b;cases m<;>grind[kS]
theorem UI {g:bZ} (d:rB g) {c t:List Int} (b:dn g.bi.length c) (h:gZ g c=some t):jS g c=jS g t:=by
 obtain⟨a,e⟩:=vF h b;have f:=pC d b;have i:=pC d e;unfold lL at a;simp only[θ,decide_eq_true_eq] at a;unfold jS;rw[show(1000000000 - cV g c).toNat=((1000000000 - cV g c).toNat - 1)+1 by omega];grind[kS,UJ]
theorem M8 {g:bZ} {c:List Int} (h:gZ g c=none):jS g c=c:=by
 unfold jS;generalize (1000000000 - cV g c).toNat=n;cases n<;>grind[kS]
def UH (p:cj) (c:List Int):Prop:=nW p=0/\dn p.bi.length c
theorem LB {p:cj} (c:nW p=0):rB (bY p):=by
 have a:=cN c;refine⟨Nd (by have:=a.2.1;omega),λo b=>?_⟩;have:=a.2.2.2.2 o b;omega
theorem E6 {l:List bD}:∀{c:List Int} {a:Int}, -1<=a->(dC l a c).isSome=true->c.Pairwise (·<·)/\∀x∈c,a<x/\x<l.length
 |[],a,_,_=>⟨δv,by simp⟩
 |i::c,a,f,h=>by
  simp only[dC] at h;split at h;·simp at h
  ·rename_i g;rw[Option.isSome_map] at h;obtain⟨d,e⟩:=@E6 l c i (by omega) h;refine⟨γr.2 ⟨λx b=>(e x b).1,d⟩,λx b=>?_⟩;grind
theorem rA {p:cj} {c:List Int} (h:bU p c=0):UH p c:=by
 unfold bU at h;split at h;·omega
 ·rename_i b;split at h;·cases h
  ·rename_i d;have a:=@E6 p.bi c (-1) (by omega) (by grind[fY]);exact⟨γe.1 b,a.1,λx e=>by grind⟩
def fA (p:cj) (c:List Int):bC:=if bU p c=0 then⟨jS (bY p) c,cV (bY p) (jS (bY p) c)⟩ else⟨[],0⟩
def yc:NG:=⟨54,cj×bC,.cons cX (.one kr),λa=>a.2.bm.length<=9223372036854775807,λa=>kr.put (fA a.1 a.2.bm)⟩
def UG (p:cj) (a:bC):Nat->bK
 |6=> .inv (List Int×List Int×Bool) (λx=>⟨[(4,.ptr 2 0 2),(5,.ptr 3 0 3),(6,.row (.i .i64) x.1),(7,.row (.i .i64) x.2.1),(8,.sb x.2.2)],[.cells p.ss 27 20 false,.cells [.row (.i .i64) a.bm,.si .i64 a.value] 40 2 false,.cells [.sc (.slice none 0 0),.il .i64 0] 40 2 false,.cells (pj (bY p)) 130 3 false]⟩)
   (λs=>(rS (.i .i64) s 6,rS (.i .i64) s 7,bS s 8)) (λx=>dn p.bi.length x.1/\(x.2.1=(gZ (bY p) x.1).getD []/\x.2.2=(gZ (bY p) x.1).isSome)/\jS (bY p) x.1=jS (bY p) a.bm) (λx=>(1000000000 - cV (bY p) x.1).toNat) λ_ _=> .bz
 |_=> .bz
theorem t_:Holds Tryz.prog yc:=by
 refine bO (L:=[vR,zx,yg,Ek,vH]) yc (λa=>UG a.1 a.2) (by simpa using⟨qY,yW,yT,IB,qP⟩) ?_;rintro⟨p,⟨c,v⟩⟩ hl;replace hl:c.length<=9223372036854775807:=hl;refine NI (let a:=γj .i64;let b:=γa;let d:=iZ.cells;let e:=(1000000000:Int);let f:=(0:Int);let g:=γB;let h:=γN;let y:=decide (bU p c≠f);let j:=ew.i .i64;let z:=[γC .i64 0];let A:=h [b j (fA p c).bm,a (fA p c).value];let l:=γV 2 0 2;let m:=γV 3 0 3;let n:=(gZ (bY p) c).getD [];let o:=(gZ (bY p) c).isSome;let q:=d [a p.bk.a0,a p.bk.a1,a p.bk.a2,a p.bk.a3,a p.bk.a4,a p.bk.a5,a p.bq.a0,a p.bq.a1,a p.bq.a2,a p.bq.a3,a p.bq.a4,a p.bq.a5,a p.bs.a0,a p.bs.a1,a p.bs.a2,a p.bs.a3,a p.bs.a4,a p.bs.a5,b j p.bj,b ew.bt p.bi] 27 20 false;let r:=d [b j c,a v] 40 2 false;let s:=d (SV.sc (Value.slice none 0 0)::z) 40 2 false;let t:=d [b j.Ap (bY p).rows,b j (bY p).bounds,b ew.bt (bY p).bi] 130 3 false;let w:=p.bi.length;let u:=jS (bY p) c;c.length<=9223372036854775807/\(y=true->(h (b j []::z)).as A)/\(y=false->True/\c.length<=1000000/\(rB (bY p)/\c.length<=900/\∀(x:Int),x∈c->f<=x/\x<(↑(bY p).bi.length:Int))/\(((l.as l/\m.as m/\(b j c).as (b j c)/\(b j n).as (b j n)/\(g o).as (g o)/\True)/\q.as q/\r.as r/\s.as s/\t.as t/\True)/\dn w c/\(n=n/\o=o)/\u=u)/\∀(x:List Int×List Int×Bool),let k:=gZ (bY p) x.2.1;let B:=b j (k.getD []);let C:=cV (bY p) x.1;dn w x.1/\(x.2.1=(gZ (bY p) x.1).getD []/\x.2.2=(gZ (bY p) x.1).isSome)/\jS (bY p) x.1=u->(x.2.2=true->(rB (bY p)/\x.2.1.length<=900/\∀(x_1:Int),x_1∈x.2.1->f<=x_1/\x_1<(↑(bY p).bi.length:Int))/\((l.as l/\m.as m/\(b j x.2.1).as (b j x.2.1)/\B.as B/\(g k.isSome).as (g k.isSome)/\True)/\q.as q/\r.as r/\s.as s/\t.as t/\True)/\(dn w x.2.1/\(k.getD []=k.getD []/\k.isSome=k.isSome)/\jS (bY p) x.2.1=u)/\(e - cV (bY p) x.2.1).toNat<(e - C).toNat)/\(x.2.2=false->(lM (bY p)/\ng (bY p) x.1/\nL (bY p) x.1)/\(h [b j x.1,a C]).as A))) (by kernel_rfl) ?_;conv=>zeta
 try simp only[vcs]
 refine⟨by omega,λh=>by simp only[fA,if_neg h];rfl,λh=>?_⟩;have hf:bU p c=0:=γe.1 h;obtain⟨hc,ha⟩:=rA hf;have hg:=LB hc;have h160:=(cN hc).2.1;have hval:∀d,dn p.bi.length d->lM (bY p)/\ng (bY p) d/\nL (bY p) d:=λd hd=>by
  have h1:=qj hd;exact⟨hg.1,⟨by omega,hd.2⟩,λx hx=>hg.2 _ (cB (by have:=hd.2 x hx;show x.toNat<p.bi.length;omega))⟩
 have hlen:=qj ha;refine⟨by omega,⟨hg,by omega,ha.2⟩,ha,?_⟩;rintro⟨d,t,b⟩ ⟨hd,⟨ht,hb⟩,hi⟩;simp only at hd ht hb hi ⊢;have hdl:=qj hd;refine⟨λhbt=>?_,λhbf=>?_⟩
 ·rw[hbt] at hb;obtain⟨t',he⟩:=Option.isSome_iff_exists.1 hb.symm;rw[he] at ht;simp only[Option.getD_some] at ht;subst ht;obtain⟨h1,h2⟩:=vF he hd;have h3:=qj h2;have h3':t.length<=p.bi.length:=h3;have hb2:=pC hg h2;have hb1:=pC hg (c:=d) hd;unfold lL at h1;simp only[θ,decide_eq_true_eq] at h1;exact⟨⟨hg,by omega,h2.2⟩,⟨h2,by rw[<-UI hg hd he];exact hi⟩,by omega⟩
 ·rw[hbf] at hb;have he:gZ (bY p) d=none:=by
   cases hh:gZ (bY p) d with
   |none=>rfl;|some t=>rw[hh] at hb;cases hb
  refine⟨hval d hd,?_⟩;have h1:jS (bY p) c=d:=by rw[<-hi,M8 he]
  simp only[fA,if_pos hf,h1];rfl
theorem LA {l:List bD}:∀{c:List Int} {a:Int}, -1<=a->c.Pairwise (·<·)->(∀x∈c,a<x/\x<l.length)->dC l a c=some (c.map λx=>bN l x.toNat ew.bt.bu)
 |[],_,_,_,_=>rfl
 |i::c,a,f,h,d=>by
  rw[γr] at h;have e:=d i (by simp);simp only[dC];rw[if_neg (by omega),@LA l c i (by omega) h.2 λx b=>⟨h.1 x b,(d x (by simp[b])).2⟩];rfl
theorem zp {p:cj} {c:List Int} (h:dn p.bi.length c):dC p.bi (-1) c=some (c.map (oI p)):=LA (by omega) h.1 λx a=>by have:=h.2 x a;omega
theorem E5 {p:cj} (l:nW p=0) {c:List Int} (h:dn p.bi.length c):bU p c=0↔j_ (bY p) c=true:=by
 have k:=zp h;have n:fY p c=true:=by grind[fY]
 have i:cM p c=c.map (oI p):=by grind[cM]
 have m:ir p (c.map (oI p))=j_ (bY p) c:=by
  have f:nR p=p.bj.length+12:=by simp_all[nR]
  have g:(bY p).bounds.length=p.bj.length+12:=by show(jw p (nR p)).length=_;rw[zy,f]
  unfold ir j_;rw[g];have d:∀r:Nat,r<p.bj.length+12->bN (bY p).bounds r 0=cD p r/\kT (bY p) c r=b_ p (c.map (oI p)) r:=λr j=>by
   refine⟨?_,?_⟩
   ·show bN (jw p (nR p)) r 0=_;grind[bW,jw]
   ·have a:bN (bY p).rows r []=gz p r p.bi.length:=by
     show bN (kU p (nR p)) r []=_;grind[bW,kU]
    unfold kT b_;rw[a,γP];congr 1;refine γI λx b=>?_;have:=h.2 x b;have e:x.toNat<p.bi.length:=by omega
    show bN (gz p r p.bi.length) x.toNat 0=dA p r (bN p.bi x.toNat ew.bt.bu);grind[bW,gz]
  grind
 simp_all[bU]
theorem UF {p:cj} (d:nW p=0) {c:List Int} (h:dn p.bi.length c):cC p c=cV (bY p) c:=by
 have a:cM p c=c.map (oI p):=by grind[cM,zp]
 unfold cC;rw[if_pos d,a];clear h a;induction c with
 |nil=>rfl;|cons x c b=>
  have e:cV (bY p) (x::c)=(oI p x).value+cV (bY p) c:=by simp[cV];rfl
  rw[e,<-b];rfl
theorem Lz {g:bZ} {n:Nat}:∀{l c:List Int},dn n c->l.Nodup->(∀x∈l,x∉c/\0<=x/\x<n)->dn n (l.foldl (stepG g) c)
 |[],c,b,_,_=>b
 |x::l,c,b,e,d=>by
  rw[γR] at e;have i:=d x (by simp);have f:dn n (stepG g c x):=by
   unfold stepG;split
   ·refine Eh ?_ λy a=>?_;·grind[vG]
    ·rw[γi] at a;rcases a with a|a;·exact b.2 y a
     simp_all
   ·exact b
  show dn n (l.foldl (stepG g) (stepG g c x));refine Lz f e.2 λy a=>⟨λh=>?_,(d y (by simp[a])).2⟩;grind[Nc]
theorem UE {p:cj}:(fS p).Nodup:=by
 unfold fS;split;·exact(xL (D:=eC p) (l:=cA p.bi.length)).symm.nodup (nM.imp λh=>by omega)
 simp_all
theorem UD {p:cj} {k:Nat}:dn p.bi.length (mR (bY p) ((fS p).take k)):=
 Lz ⟨δv,by simp⟩ (UE.sublist (ζ4 _ _)) λx a=>⟨by simp,(En (γn a)).2⟩
def dp (c:Nat->Rat):(List Nat->Rat)->List Nat->Rat
 |_,[]=>0
 |f,i::R=>c i*f R - dp c (λl=>f (i::l)) R
theorem E4 {c:Nat->Rat}:∀{R:List Nat},dp c (λ_=>0) R=0
 |[]=>rfl
 |i::R=>by simp only[dp,E4];grind
theorem E3 {c:Nat->Rat} {p q:Rat}:∀{R:List Nat} {f g:List Nat->Rat},dp c (λl=>p*f l+q*g l) R=p*dp c f R+q*dp c g R
 |[],_,_=>by grind[dp];|i::R,f,g=>by
  simp only[dp,@E3 c p q R];grind
theorem Ly {c d:Nat->Rat} {p q:Rat}:∀{R:List Nat} {f:List Nat->Rat},dp (λi=>p*c i+q*d i) f R=p*dp c f R+q*dp d f R
 |[],_=>by grind[dp];|i::R,f=>by
  simp only[dp,@Ly c d p q R];grind
theorem Lx {c:Nat->Rat} {p:Rat} {R:List Nat} {f g:List Nat->Rat}:dp c (λl=>p*f l - g l) R=p*dp c f R - dp c g R:=by
 have:=@E3 c p (-1) R f g;grind
theorem E2 {a b:Nat->Rat}:∀{R:List Nat} {f:List Nat->Rat},dp a (dp b f) R= - dp b (dp a f) R
 |[],_=>by grind[dp];|i::R,f=>by
  have d:dp a (λl=>dp b f (i::l)) R=b i*dp a f R - dp a (dp b λl=>f (i::l)) R:=Lx;have c:dp b (λl=>dp a f (i::l)) R=a i*dp b f R - dp b (dp a λl=>f (i::l)) R:=Lx;have h:=@E2 a b R λl=>f (i::l);grind[dp]
theorem UC {a:Nat->Rat} {f:List Nat->Rat}:dp a (dp a f)=λ_=>0:=by
 grind[E2]
def vE (R:List Nat):Rat:=if R=[] then 1 else 0
def jb (a:List (Nat->Rat)):List Nat->Rat:=a.foldr dp vE
theorem Lw {c:Nat->Rat} {a:List (Nat->Rat)}:jb (c::a)=dp c (jb a):=rfl
theorem Lv {a:Nat->Rat}:∀{b:List (Nat->Rat)} {f:List Nat->Rat},dp a (b.foldr dp (dp a f))=λ_=>0
 |[],f=>UC
 |c::b,f=>by
  funext R;simp only[ε5];rw[E2,@Lv a b f,E4];rfl
theorem fold_zero:∀{cs:List (Nat->Rat)},cs.foldr dp (λ_=>0)=λ_=>0
 |[]=>rfl
 |c::cs=>by
  rw[ε5,fold_zero];grind[E4]
theorem Lu {a:Nat->Rat} {p m q:List (Nat->Rat)}:jb (p++a::(m++a::q))=λ_=>0:=by
 grind[jb,Lv,fold_zero]
theorem Lt {p q:Rat}:∀{a:List (Nat->Rat)} {f g:List Nat->Rat} {R:List Nat},a.foldr dp (λl=>p*f l+q*g l) R=p*a.foldr dp f R+q*a.foldr dp g R
 |[],_,_,_=>rfl
 |c::a,f,g,R=>by
  simp only[ε5];rw[<-E3];congr 1;funext l;exact Lt
theorem Ls {c d:Nat->Rat} {p q:Rat} {a b:List (Nat->Rat)} {R:List Nat}:jb (a++(λi=>p*c i+q*d i)::b) R=p*jb (a++c::b) R+q*jb (a++d::b) R:=by
 unfold jb;simp only[List.foldr_append,ε5];rw[<-Lt];have e:dp (λi=>p*c i+q*d i) (θf dp vE b)=λl=>p*dp c (θf dp vE b) l+q*dp d (θf dp vE b) l:=by
  grind[Ly]
 rw[e]
def d_ (M:Nat) (q:Rat):Prop:=∃z:Int,q=(z:Rat)/\z.natAbs<=M
theorem Lr {c:Nat->Rat} {M K:Nat}:∀{R:List Nat} {f:List Nat->Rat},(∀i∈R,d_ M (c i))->(∀l,l.length+1=R.length->(∀i∈l,i∈R)->d_ K (f l))->d_ (R.length*(M*K)) (dp c f R)
 |[],_,_,_=>⟨0,by simp[dp],by simp⟩
 |i::R,f,e,g=>by
  simp only[dp,γK];obtain⟨y,q,h⟩:=@Lr c M K R (λl=>f (i::l)) (λj a=>e j (by simp[a])) λl n p=>g _ (by simp_all) λj a=>by
   grind
  obtain⟨u,o,b⟩:=e i (by simp);obtain⟨v,k,d⟩:=g R (by simp) λj a=>by simp[a]
  refine⟨u*v - y,?_,?_⟩;·simp_all
  ·have m:(u*v).natAbs<=M*K:=by
    rw[Int.natAbs_mul];exact Nat.mul_le_mul b d
   grind
def lK (M:Nat):Nat->Nat
 |0=>1
 |n+1=>(n+1)*(M*lK M n)
theorem zo {M:Nat}:∀{cs:List (Nat->Rat)} {R:List Nat},cs.length=R.length->(∀c∈cs,∀i∈R,d_ M (c i))->d_ (lK M R.length) (jb cs R)
 |[],R,b,_=>by
  have:R=[]:=List.eq_nil_of_length_eq_zero (by simp_all);subst this;exact⟨1,by simp[jb,vE],by simp[lK]⟩;|c::cs,R,b,e=>by
  rw[Lw];cases R with
  |nil=>simp at b;|cons i R=>
   simp only[γK,lK];refine Lr (e c (by simp)) λl a g=>?_;simp only[γK] at b a;rw[show R.length=l.length by omega];exact zo (by omega) λd f j h=>e d (by simp[f]) j (g j h)
def vD (k:Nat):Nat->Rat:=λi=>if i=k then 1 else 0
theorem Lq {c:Nat->Rat}:∀{R:List Nat} {f:List Nat->Rat},(∀i∈R,c i=0)->dp c f R=0
 |[],_,_=>rfl
 |i::R,f,h=>by
  simp only[dp];rw[h i (by simp),Lq λj a=>h j (by simp[a])];grind
theorem Lo:∀{R:List Nat},R.Nodup->jb (R.map vD) R=1
 |[],_=>by simp[jb,vE];|i::R,h=>by
  rw[γR] at h;rw[ξ,Lw];simp only[dp];rw[Lq (c:=vD i) (R:=R) λj a=>by
   unfold vD;grind];rw[Lo h.2];unfold vD;grind
def Ov (n:Nat) (f:Nat->Rat):Rat:=match n with
 |0=>0
 |n+1=>Ov n f+f n
theorem cZ:∀{n:Nat} {f g:Nat->Rat},(∀i,i<n->f i=g i)->Ov n f=Ov n g
 |0,_,_,_=>rfl
 |n+1,f,g,h=>by simp only[Ov];rw[cZ λi a=>h i (by omega),h n (by omega)]
theorem vC:∀{n:Nat} {f g:Nat->Rat},Ov n (λi=>f i+g i)=Ov n f+Ov n g
 |0,_,_=>by grind[Ov];|n+1,f,g=>by simp only[Ov];rw[vC];grind
theorem sO {c:Rat}:∀{n:Nat} {f:Nat->Rat},Ov n (λi=>c*f i)=c*Ov n f
 |0,_=>by grind[Ov];|n+1,f=>by simp only[Ov];rw[sO];grind
theorem gP:∀{n:Nat},Ov n (λ_=>0)=0
 |0=>rfl
 |n+1=>by simp only[Ov];rw[gP];grind
theorem sN {k:Nat} {x:Rat}:∀{n:Nat},Ov n (λi=>if i=k then x else 0)=if k<n then x else 0
 |0=>by simp[Ov];|n+1=>by
  simp only[Ov];rw[sN];grind
theorem zn {n k:Nat} {f:Nat->Rat} (h:k<n):Ov n f=f k+Ov n λi=>if i=k then 0 else f i:=by
 have a:=@sN k (f k) n;rw[if_pos h] at a;rw[<-a,<-vC];grind[cZ]
theorem Ln {a b:List (Nat->Rat)} {R:List Nat} {y:Nat->Rat} {T:Nat->Nat->Rat}:∀{n:Nat},jb (a++(λi=>Ov n λk=>y k*T k i)::b) R=Ov n λk=>y k*jb (a++T k::b) R
 |0=>by
  have e:(λi:Nat=>Ov 0 λk=>y k*T k i)=λi=>(0:Rat)*(λ_=>0) i+0*(λ_=>0) i:=by grind[Ov]
  rw[e,Ls];grind[Ov];|n+1=>by
  have e:(λi:Nat=>Ov (n+1) λk=>y k*T k i)=λi=>(1:Rat)*(λi=>Ov n λk=>y k*T k i) i+y n*T n i:=by
   grind[Ov]
  rw[e,Ls,Ln];grind[Ov]
theorem UB {C:List (Nat->Rat)} {R:List Nat} {y:Nat->Rat} {r:Nat} (f:r<C.length):jb (C.set r (λi=>Ov C.length λk=>y k*(C.getD k (λ_=>0)) i)) R=y r*jb C R:=by
 have a:∀c:Nat->Rat,C.set r c=C.take r++c::C.drop (r+1):=λc=>by rw[List.set_eq_take_append_cons_drop,if_pos f]
 rw[a,Ln,zn f];have m:∀k,k<C.length->(if k=r then(0:Rat) else y k*jb (C.take r++C.getD k (λ_=>0)::C.drop (r+1)) R)=0:=by
  intro k g;split;·rfl
  ·rename_i e;have o:jb (C.take r++C.getD k (λ_=>0)::C.drop (r+1)) R=0:=by
    have n:C.getD k (λ_=>0)=C[k]:=by simp_all
    rw[n];rcases Nat.lt_or_gt_of_ne e with h|h
    ·have j:C.take r=C.take k++C[k]::(C.drop (k+1)).take (r - (k+1)):=by
      have b:C[k]::C.drop (k+1)=C.drop k:=ζJ g;obtain⟨d,rfl⟩:∃d,r=k+(d+1):=⟨r - (k+1),by omega⟩;rw[List.take_add,<-b,δw,show k+(d+1) - (k+1)=d by omega]
     grind[Lu]
    ·have j:C.drop (r+1)=(C.drop (r+1)).take (k - (r+1))++C[k]::C.drop (k+1):=by
      have b:C[k]::C.drop (k+1)=C.drop k:=ζJ g;rw[b];have l:=γT (k - (r+1)) (C.drop (r+1));rw[δl,show r+1+(k - (r+1))=k by omega] at l;exact l.symm
     rw[j,Lu]
   simp_all
 rw[cZ m,gP];have b:C.take r++C.getD r (λ_=>0)::C.drop (r+1)=C:=by
  simp_all
 rw[b];grind
end Go.Vi
