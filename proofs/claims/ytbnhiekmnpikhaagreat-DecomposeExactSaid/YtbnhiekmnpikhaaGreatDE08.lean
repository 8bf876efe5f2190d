import Derived.Test.YtbnhiekmnpikhaaGreatDE07
import Derived.Shelf.Sort.AssemblyIn
import Derived.Shelf.SlicesE.Clone
import Derived.Shelf.SlicesE.Delete
import Derived.Shelf.SlSortCmp.NoneTotal
import Derived.Sort.EveryDepth
import Derived.Sort.OwnSortedInts
set_option maxRecDepth 100000
set_option maxHeartbeats 4000000
set_option linter.all false
open And renaming intro->γm
open Bool renaming and_eq_true->θ
open Classical renaming not_not->γe
open Go.Vi.AV renaming sc->δg
open Go.Vi.AV.os renaming injEq->εA
open Go.Vi.AV.sc renaming injEq->δe
open Go.Vi.AV.sl renaming injEq->δ7
open Go.Vi.SV renaming sb->γB,il->γC,si->γj,g->γF,ow->γ1,ptr->γV,row->γa,agg->γN,bl->δj
open Int renaming mul_nonneg->γy
open List renaming mergeSort_perm->δp,pairwise_mergeSort->δK,append_assoc->γG,take_append_drop->γT,pairwise_append->δI,map_cons->ξ,map_nil->γw,cons_append->γM,length->γd,drop->γ4,mem_of_mem_drop->γY,mem_of_mem_take->γn,mem_append->γi,nil_append->δP,drop_drop->δl,Pairwise->ζF,take_sublist->ζ4,range->ω,range_succ->εf,mem_map->Γ,mem_range->γD,replicate->δ,getElem?_cons_zero->δq,getElem?_map->γH,getElem?_eq_some_iff->ζ,length_take->γz,map_append->γb,take_succ_cons->δw,length_cons->γK,take->Δ,take_length->φ,take_of_length_le->γu,length_append->γh,map_map->γP,map_congr_left->γI,pairwise_cons->γr,exists_of_findSome?_eq_some->δZ,nodup_cons->γR,foldr_cons->ε5,foldr->θf,getElem_cons_drop->ζJ
open List.Pairwise renaming nil->δv
open List.Perm renaming refl->ζV
open List.cons renaming injEq->Θ
open Nat renaming le_refl->π,zero_le->δ6,lt_of_lt_of_le->γl
open Option renaming map_eq_some_iff->ε
open Option.some renaming injEq->γ
open Prod renaming ext->εE
namespace Go.Vi
open Go.Proofs.YtbnhiekmnpikhaaGreat.Ir
open Go.Proofs
def jn (D:Int->Int) (x y:Int):Bool:=decide (D y<D x)||(decide (D x=D y)&&decide (x<=y))
theorem xL {D:Int->Int} {x y:Int}:jn D x y=true↔D y<D x\/(D x=D y/\x<=y):=by grind[jn]
theorem MX {D:Int->Int} (a b c:Int) (d:jn D a b=true) (e:jn D b c=true):jn D a c=true:=by
 grind[xL]
theorem Vp {D:Int->Int} (a b:Int):(jn D a b||jn D b a)=true:=by
 grind[xL]
theorem Vo {D:Int->Int} {a b:Int} (c:jn D a b=true) (d:jn D b a=true):a=b:=by
 grind[xL]
abbrev sm (D:Int->Int) (l:List Int):Prop:=l.Pairwise λa b=>jn D a b=true
def dy (D:Int->Int) (l:List Int):List Int:=l.mergeSort (jn D)
theorem xK {D:Int->Int} {l:List Int}:(dy D l).Perm l:=δp _ _
theorem MW {D:Int->Int} {l:List Int}:sm D (dy D l):=δK MX Vp l
theorem qo {D:Int->Int} {l:List Int}:(dy D l).length=l.length:=xK.length_eq
theorem ED {D:Int->Int} {l:List Int} {x:Int}:x∈dy D l↔x∈l:=xK.mem_iff
theorem MV {D:Int->Int} {l m:List Int} (e:m.Perm l) (f:sm D m):m=dy D l:=
 List.Perm.eq_of_pairwise (λa b _ _ c d=>Vo c d) f MW (e.trans xK.symm)
theorem Vn {D:Int->Int} {l:List Int} (h:sm D l):dy D l=l:=(MV (ζV _) h).symm
def c_ (l:List Int) (a b:Nat):List Int:=(l.drop a).take (b - a)
def f_ (D:Int->Int) (l:List Int) (a b:Nat):List Int:=l.take a++dy D (c_ l a b)++l.drop b
theorem sV {l:List Int} {a b:Nat} (c:a<=b) (d:b<=l.length):(c_ l a b).length=b - a:=by
 grind[c_]
theorem EC {l:List Int} {a b:Nat} (c:a<=b) (d:b<l.length):c_ l a (b+1)=c_ l a b++[bN l b 0]:=by
 unfold c_;rw[show b+1 - a=(b - a)+1 by omega,List.take_succ_eq_append_getElem (by grind),List.getElem_drop];grind[bV]
theorem MU {l:List Int} {a:Nat}:c_ l a a=[]:=by grind[c_]
theorem MT {D:Int->Int} {l:List Int} {a b:Nat} (c:a<=b) (d:b<=l.length):(f_ D l a b).length=l.length:=by
 grind[f_,qo,sV]
theorem MS {l:List Int} {i:Nat} (h:i<l.length):l.drop i=bN l i 0::l.drop (i+1):=by
 simp_all[bV]
theorem MR {D:Int->Int} {l:List Int} {a:Nat}:f_ D l a a=l:=by
 simp_all[f_,MU,dy]
theorem V7 {D:Int->Int} {l:List Int} {a:Nat} (h:a<l.length):f_ D l a (a+1)=l:=by
 have e:c_ l a (a+1)=[bN l a 0]:=by grind[EC,MU]
 unfold f_;rw[e,Vn (by simp),γG];simp only[List.singleton_append];rw[<-MS h,γT]
def j_ (D:Int->Int) (l:List Int) (a i j:Nat):List Int:=l.take a++((dy D (c_ l a i)).take (j - a)++bN l i 0::(dy D (c_ l a i)).drop (j - a))++l.drop (i+1)
theorem V6 {D:Int->Int} {l:List Int} {a i j:Nat} (b:a<=i) (c:i<l.length):(j_ D l a i j).length=l.length:=by
 grind[qo,sV,j_]
theorem V5 {D:Int->Int} {l:List Int} {a i:Nat} (b:a<=i) (c:i<l.length):j_ D l a i i=f_ D l a i:=by
 grind[qo,sV,j_,f_,MS]
theorem V4 {A B:List Int} {y x:Int}:((A++y::x::B).set (A.length+1) y).set A.length x=A++x::y::B:=by
 simp_all
theorem V3 {A B:List Int} {y:Int}:bN (A++y::B) A.length 0=y:=by grind[bN]
theorem V2 {A B:List Int} {y x:Int}:bN (A++y::x::B) (A.length+1) 0=x:=by grind[bN]
theorem V1 {D:Int->Int} {l:List Int} {a i k:Nat} (c:a+k+1<=i) (d:i<l.length):
  j_ D l a i (a+k+1)=(l.take a++(dy D (c_ l a i)).take k)++bN (dy D (c_ l a i)) k 0::bN l i 0::((dy D (c_ l a i)).drop (k+1)++l.drop (i+1))/\
  j_ D l a i (a+k)=(l.take a++(dy D (c_ l a i)).take k)++bN l i 0::bN (dy D (c_ l a i)) k 0::((dy D (c_ l a i)).drop (k+1)++l.drop (i+1))/\
  (l.take a++(dy D (c_ l a i)).take k).length=a+k:=by
 have b:=@qo D (c_ l a i);rw[sV (by omega) (by omega)] at b;have e:k<(dy D (c_ l a i)).length:=by omega
 have g:(dy D (c_ l a i)).take (k+1)=(dy D (c_ l a i)).take k++[bN (dy D (c_ l a i)) k 0]:=by simp_all[bV]
 have f:(dy D (c_ l a i)).drop k=bN (dy D (c_ l a i)) k 0::(dy D (c_ l a i)).drop (k+1):=by simp_all[bV]
 grind[j_]
theorem V0 {D:Int->Int} {l:List Int} {a i j:Nat} (g:a<j) (f:j<=i) (d:i<l.length):
  bN (j_ D l a i j) j 0=bN l i 0/\bN (j_ D l a i j) (j - 1) 0=bN (dy D (c_ l a i)) (j - 1 - a) 0/\
  ((j_ D l a i j).set j (bN (dy D (c_ l a i)) (j - 1 - a) 0)).set (j - 1) (bN l i 0)=j_ D l a i (j - 1):=by
 obtain⟨b,c,e⟩:=@V1 D l a i (j - 1 - a) (by omega) d;rw[show a+(j - 1 - a)+1=j by omega] at b;rw[show a+(j - 1 - a)=j - 1 by omega] at c e;rw[b,c];generalize l.take a++(dy D (c_ l a i)).take (j - 1 - a)=A at*;generalize bN (dy D (c_ l a i)) (j - 1 - a) 0=y at*;generalize bN l i 0=x at*;grind[V2,V3,V4]
theorem VZ {D:Int->Int} {S:List Int} {x:Int} {k:Nat} (n:sm D S) (d:∀s∈S.drop k,jn D x s=true) (b:k=0\/(k<=S.length/\jn D (bN S (k - 1) 0) x=true)):sm D (S.take k++x::S.drop k):=by
 have a:sm D (S.take k++S.drop k):=by simp_all
 obtain⟨g,f,i⟩:=δI.1 a;have j:∀s∈S.take k,jn D s x=true:=by
  rcases b with rfl|⟨h,b⟩;·simp
  ·intro s l;by_cases m:k=0;·simp_all
   have c:k - 1<S.length:=by omega
   have e:S.take k=S.take (k - 1)++[bN S (k - 1) 0]:=by
    conv=>lhs;rw[show k=(k - 1)+1 by omega]
    simp_all[bV]
   grind[MX]
 rw[sm,δI];simp_all
theorem VY {S:List Int} {x:Int} {k:Nat}:(S.take k++x::S.drop k).Perm (S++[x]):=by
 refine(List.perm_middle).trans ?_;rw[γT];grind
theorem VX {D:Int->Int} {l:List Int} {a i j:Nat} (k:a<=j) (f:j<=i) (e:i<l.length) (b:∀s∈(dy D (c_ l a i)).drop (j - a),jn D (bN l i 0) s=true) (g:j=a\/jn D (bN (dy D (c_ l a i)) (j - 1 - a) 0) (bN l i 0)=true):
  j_ D l a i j=f_ D l a (i+1):=by
 have c:=@qo D (c_ l a i);rw[sV (by omega) (by omega)] at c;have d:sm D ((dy D (c_ l a i)).take (j - a)++bN l i 0::(dy D (c_ l a i)).drop (j - a)):=by
  refine VZ MW b ?_;grind
 have h:((dy D (c_ l a i)).take (j - a)++bN l i 0::(dy D (c_ l a i)).drop (j - a)).Perm (c_ l a (i+1)):=by
  rw[EC (by omega) e];exact VY.trans (List.Perm.append xK (ζV _))
 grind[j_,f_,MV]
def EB:NG:=⟨150,Int,.one (dX .i64),λ_=>True,λ_=> .sb false⟩
theorem Ix:Holds Tryz.prog EB:=by
 refine bM (L:=[]) EB lk (by simp) ?_;rintro(x:Int) -;refine NI ((γB (decide (x≠x))).bi (γB false)) (by kernel_rfl) ?_;simp_all
def vJ (x y:Int):Int:=if x<y then -1 else if y<x then 1 else 0
def EA:NG:=⟨113,Int×Int,.cons (dX .i64) (.one (dX .i64)),λ_=>True,λa=> .si .i64 (vJ a.1 a.2)⟩
theorem IB:Holds Tryz.prog EA:=by
 refine bM (L:=[EB]) EA lk (by grind[Ix]) ?_;rintro⟨x,y⟩ -;refine NI (let b:=γC .i64;let c:=γC .i64 0;let a:=γj .i64 (vJ x y);True/\True/\(false=true->(false=true->(b 0).bi a)/\(false=false->(b (-1:Int)).bi a))/\(false=false->(false=true->(b 1).bi a)/\(false=false->(decide (x<y)=true->(b (-1:Int)).bi a)/\(decide (x<y)=false->(decide (y<x)=true->(b 1).bi a)/\(decide (y<x)=false->(b 0).bi a))))) (by kernel_rfl) ?_;simp_all[vJ,if_neg]
def sU (b:oz):Int:=b.a0+b.a1+b.a2+b.a3+b.a4+b.a5
def Ez:NG:=⟨114,oz,.one (dD .bun),λb=>b.ok=true,λb=> .si .i64 (sU b)⟩
theorem IA:Holds Tryz.prog Ez:=by
 refine bM (L:=[]) Ez (λ_ _=> .apl 7) (by simp) ?_;rintro(b:oz) (h:b.ok=true);have h:=oz.gS.1 h;refine NI (let d:=VL .i64;let a:=(0:Int)+b.a0+b.a1;let c:=a+b.a2+b.a3+b.a4;d ((0:Int)+b.a0)/\d a/\d (a+b.a2)/\d (a+b.a2+b.a3)/\d c/\d (c+b.a5)/\(γj .i64 (c+b.a5)).bi (γj .i64 (sU b))) (by kernel_rfl) ?_;simp only[vcs];unfold sU;omega
def oI (p:cj) (i:Int):bC:=bN p.bj i.toNat ew.bu.bw
def pF (p:cj) (i:Int):Int:=(oI p i).value
def nM (p:cj) (i:Int):Int:=sU (oI p i).bx
def eA (p:cj) (i:Int):Int:=pF p i*(5354228880 / nM p i)
def k_ (p:cj) (i:Int):Prop:=0<=i/\i<p.bj.length
theorem xJ {p:cj} (b:nW p=0) {i:Int} (h:k_ p i):(1<=pF p i/\pF p i<=1000000)/\(1<=nM p i/\nM p i<=24)/\(oI p i).bx.ok=true:=by
 obtain⟨j,k⟩:=h;have c:=cA (d:=ew.bu.bw) (show i.toNat<p.bj.length by omega);have a:=(cL b).2.2.2.2 _ c;have g:=(AM ((rI b).2 _ c)).2.1;have e:=oz.gS.1 a.2.2.1;have f:¬((oI p i).bx.a0=0/\(oI p i).bx.a1=0/\(oI p i).bx.a2=0/\(oI p i).bx.a3=0/\(oI p i).bx.a4=0/\(oI p i).bx.a5=0):=λh=>g (AU.2 h);have e:(0<=(oI p i).bx.a0/\(oI p i).bx.a0<=4)/\(0<=(oI p i).bx.a1/\(oI p i).bx.a1<=4)/\(0<=(oI p i).bx.a2/\(oI p i).bx.a2<=4)/\(0<=(oI p i).bx.a3/\(oI p i).bx.a3<=4)/\(0<=(oI p i).bx.a4/\(oI p i).bx.a4<=4)/\(0<=(oI p i).bx.a5/\(oI p i).bx.a5<=4):=e;refine⟨⟨a.2.2.2.1,a.2.2.2.2⟩,?_,a.2.2.1⟩;unfold nM sU;omega
theorem MQ {t:Int} (a:1<=t) (b:t<=24):t*(5354228880 / t)=5354228880/\1<=5354228880 / t:=by
 have:t=1\/t=2\/t=3\/t=4\/t=5\/t=6\/t=7\/t=8\/t=9\/t=10\/t=11\/t=12\/t=13\/t=14\/t=15\/t=16\/t=17\/t=18\/t=19\/t=20\/t=21\/t=22\/t=23\/t=24:=by omega
 rcases this with rfl|rfl|rfl|rfl|rfl|rfl|rfl|rfl|rfl|rfl|rfl|rfl|rfl|rfl|rfl|rfl|rfl|rfl|rfl|rfl|rfl|rfl|rfl|rfl<;>decide
theorem VV {p:cj} (g:nW p=0) {x y:Int} (j:k_ p x) (i:k_ p y):eA p x<eA p y↔pF p x*nM p y<pF p y*nM p x:=by
 obtain⟨m,e,_⟩:=xJ g j;obtain⟨u,f,_⟩:=xJ g i;obtain⟨v,q⟩:=MQ e.1 e.2;obtain⟨o,r⟩:=MQ f.1 f.2;unfold eA;generalize 5354228880 / nM p x=d at*;generalize 5354228880 / nM p y=c at*;generalize pF p x=a at*;generalize pF p y=b at*;generalize nM p x=s at*;generalize nM p y=t at*;have k:0<d*c:=Int.mul_pos (by omega) (by omega);have l:(a*t)*(d*c)=(a*d)*5354228880:=by grind
 have n:(b*s)*(d*c)=(b*c)*5354228880:=by grind
 constructor
 ·intro h;have:(a*t)*(d*c)<(b*s)*(d*c):=by omega
  exact Int.lt_of_mul_lt_mul_right this (by omega)
 ·intro h;have:(a*t)*(d*c)<(b*s)*(d*c):=Int.mul_lt_mul_of_pos_right h k;omega
def xI (p:cj) (x y:Int):Int:=vJ (pF p y*nM p x) (pF p x*nM p y)
theorem VU {p:cj} (a:nW p=0) {x y:Int} (c:k_ p x) (b:k_ p y):xI p x y<0↔eA p y<eA p x:=by
 rw[VV a b c];grind[xI,vJ]
def Ey:cU where
 f:=112;α:=Int×Int×cj;put a:=[.si .i64 a.1,.si .i64 a.2.1,.ptr 0 0 20];st a:=[.cells a.2.2.ss 27 20 false];dec v o:=match v,o with
  |[x,y,.ptr 0 0 20],[.cells cs 27 20 false]=>match x.int .i64,y.int .i64,tK cs with
   |some x,some y,some p=>some (x,y,p)
   |_,_,_=>none
  |_,_=>none;ok v o a h:=by
  split at h
  ·split at h
   ·rename_i h1 h2 h3;simp only[γ] at h;subst h;refine⟨by simp only[gL,gT h1,gT h2];rfl,?_⟩;simp only[gO,ξ,γw,iZ.g,xp h3]
   ·cases h
  ·cases h
 inj a b h1 h2:=by
  simp only[gL,Θ,and_true,γF,δe,Value.int.injEq,true_and] at h1;simp only[gO,ξ,γw,iZ.g,Θ,OL.cells.injEq,and_true] at h2;have h3:=cV.inj a.2.2 b.2.2 (by simp only[cV,γF,h2]);exact εE h1.1 (εE h1.2 h3)
 dom a:=nW a.2.2=0/\k_ a.2.2 a.1/\k_ a.2.2 a.2.1;res a:=.si .i64 (xI a.2.2 a.1 a.2.1);out a:=[.cells a.2.2.ss 27 20 false]
theorem IC:dB Tryz.prog Ey:=by
 refine ko (L:=[Ez,EA]) (W:=[]) Ey lk (by simp) (by grind[IA,IB]) ?_;rintro⟨x,y,p⟩ ⟨f,e,c⟩;refine NI (let a:=ew.bu.bw;let d:=p.bj.length;let g:=bN p.bj x.toNat a;let h:=bN p.bj y.toNat a;let k:=h.value*sU g.bx;let l:=g.value*sU h.bx;let j:=iZ.cells (cj.ss p) 27 20 false;(0:Int)<=x/\x<(↑d:Int)/\x.toNat<d/\(0:Int)<=y/\y<(↑d:Int)/\y.toNat<d/\g.bx.ok=true/\VL .i64 k/\h.bx.ok=true/\VL .i64 l/\True/\(γj .i64 (vJ k l)).bi (γj .i64 (xI p x y))/\j.bi j/\True) (by kernel_rfl) ?_;simp only[vcs];have f:nW p=0:=f;have e:k_ p x:=e;have c:k_ p y:=c;obtain⟨s,w,q⟩:=xJ f e;obtain⟨m,A,z⟩:=xJ f c;obtain⟨o,n⟩:=e;obtain⟨B,r⟩:=c;have i:∀{v t:Int},1<=v/\v<=1000000->1<=t/\t<=24-> -9223372036854775808<=v*t/\v*t<=9223372036854775807:=λ{v t} C u=>by
  have a:=γy (show 0<=v by omega) (show 0<=t by omega);have b:=Int.mul_le_mul C.2 u.2 (by omega) (show(0:Int)<=1000000 by omega);omega
 exact⟨o,n,by omega,B,r,by omega,q,i m w,z,i s A,rfl⟩
def vI:Nat->List SV->Option (List Int)
 |0,[.fn (.func 112) [] [.ptr 1 0 20]]=>some []
 |k+1,x::r=>match x.int .i64,vI k r with
  |some n,some l=>some (n::l)
  |_,_=>none
 |_,_=>none
theorem MP:∀{k:Nat} {r:List SV} {l:List Int},vI k r=some l->gL r=gL (l.map (γj .i64)++[.fn (.func 112) [] [.ptr 1 0 20]])
 |0,r,l,h=>by
  unfold vI at h;split at h;·simp only[γ] at h;subst h;rfl
  ·rename_i h0;cases h0
  ·cases h;|k+1,[],l,h=>by simp[vI] at h;|k+1,x::r,l,h=>by
  simp only[vI] at h;split at h
  ·rename_i n l' h1 h2;simp only[γ] at h;subst h;simp only[gL,ξ,γM,MP h2,gT h1];rfl
  ·cases h
theorem MN:∀{l m:List Int} {z:List SV},l.length=m.length->gL (l.map (γj .i64)++z)=gL (m.map (γj .i64)++z)->l=m
 |[],[],_,_,_=>rfl
 |[],_::_,_,h,_=>by simp at h;|_::_,[],_,h,_=>by simp at h;|x::l,y::m,z,hl,h=>by
  simp only[ξ,γM,gL,Θ,γF,δe,Value.int.injEq,true_and] at h;rw[h.1,MN (by simpa using hl) h.2]
def Ex (f:FuncId) (k:Nat) (β:Type) (toL:β->List Int) (ofL:List Int->Option β) (h0:∀b,(toL b).length=k) (h1:∀l b,ofL l=some b->l=toL b) (h2:∀b c,toL b=toL c->b=c) (dom:(Nat×List Int×cj)×β->Prop) (out:(Nat×List Int×cj)×β->List Int):cU where
 f:=f;α:=(Nat×List Int×cj)×β;put a:=.ow 0 a.1.1 1::((toL a.2).map (γj .i64)++[.fn (.func 112) [] [.ptr 1 0 20]]);st a:=[.row (.i .i64) a.1.2.1 3 true,.cells a.1.2.2.ss 27 20 false];dec v o:=match v,o with
  | .ow 0 n 1::r,[.row t l 3 true,.cells cs 27 20 false]=>match vI k r,gF t (.i .i64) l,tK cs with
   |some xs,some l,some p=>match ofL xs with
    |some b=>some ((n,l,p),b)
    |none=>none
   |_,_,_=>none
  |_,_=>none;ok v o a h:=by
  split at h
  ·split at h
   ·rename_i h3 h4 h5;split at h
    ·rename_i b hb;simp only[γ] at h;subst h;obtain⟨rfl,hh⟩:=ln h4;cases hh;have:=h1 _ _ hb;subst this;refine⟨by simp only[gL,MP h3],?_⟩;simp only[gO,ξ,γw,iZ.g,xp h5]
    ·cases h
   ·cases h
  ·cases h
 inj a b e1 e2:=by
  obtain⟨⟨n,l,p⟩,x⟩:=a;obtain⟨⟨n',l',p'⟩,x'⟩:=b;simp only[gL,Θ,γF,εA,true_and] at e1;simp only[gO,ξ,γw,iZ.g,Θ,OL.cells.injEq,and_true,true_and] at e2;have h3:p=p':=cV.inj p p' (by simp only[cV,γF,e2.2]);have h4:l=l':=by
   have hf:=congrArg γd e2.1;rw[ec,ec] at hf;exact kq (.i .i64) (by simpa[ew.sz] using hf) e2.1
  have h5:x=x':=h2 _ _ (MN (by rw[h0,h0]) e1.2);rw[e1.1.1,h3,h4,h5]
 dom:=dom;res _:=.Gz [];out a:=[.row (.i .i64) (out a) 3 true,.cells a.1.2.2.ss 27 20 false]
abbrev Srg:=Nat×List Int×cj
def wB (b:Int×Int):List Int:=[b.1,b.2]
def Cd:List Int->Option (Int×Int)
 |[a,b]=>some (a,b)
 |_=>none
theorem VT:∀l b,Cd l=some b->l=wB b:=λl b h=>by
 unfold Cd at h;split at h;·simp only[γ] at h;subst h;rfl
 ·cases h
theorem VS:∀b c,wB b=wB c->b=c:=λb c h=>by
 unfold wB at h;simp only[Θ,and_true] at h;exact εE h.1 h.2
def sT (a:Srg):Prop:=(nW a.2.2=0/\a.1=a.2.1.length)/\a.2.1.length<=1000/\∀x∈a.2.1,k_ a.2.2 x
def Ew (l:List Int) (a b:Int):Prop:=0<=a/\a<=b/\b<=l.length
theorem MM {l m:List Int} (h:l=m):(iZ.row (.i .i64) l 3 true).bi (iZ.row (.i .i64) m 3 true):=by subst h;rfl
def Eu:cU:=Ex 172 2 (Int×Int) wB Cd (λ_=>rfl) VT VS (λa=>sT a.1/\Ew a.1.2.1 a.2.1 a.2.2/\(c_ a.1.2.1 a.2.1.toNat a.2.2.toNat).Pairwise (·<·)) λa=>f_ (eA a.1.2.2) a.1.2.1 a.2.1.toNat a.2.2.toNat
def VR (n:Nat) (l:List Int) (p:cj) (a b:Int):Nat->bJ
 |1=> .inv (Int×List Int) (λx=>⟨[(0,.ow 0 n 1),(1,.si .i64 a),(2,.si .i64 b),(3,.fn (.func 112) [] [.ptr 1 0 20]),(8,.si .i64 x.1)],[.row (.i .i64) x.2 3 true,.cells p.ss 27 20 false]⟩) (λs=>(iS s 8,oS (.i .i64) s 0))
   (λx=>(a<x.1/\(x.1<=b\/x.1=a+1))/\x.2=f_ (eA p) l a.toNat (if a<b then x.1 else a).toNat) (λx=>(b - x.1).toNat) λx k=>match k with
    |4=> .inv (Int×List Int) (λy=>⟨[(0,.ow 0 n 1),(1,.si .i64 a),(2,.si .i64 b),(3,.fn (.func 112) [] [.ptr 1 0 20]),(8,.si .i64 x.1),(9,.si .i64 y.1)],[.row (.i .i64) y.2 3 true,.cells p.ss 27 20 false]⟩) (λs=>(iS s 9,oS (.i .i64) s 0))
      (λy=>(a<=y.1/\y.1<=x.1)/\y.2=j_ (eA p) l a.toNat x.1.toNat y.1.toNat/\∀s∈(dy (eA p) (c_ l a.toNat x.1.toNat)).drop (y.1 - a).toNat,jn (eA p) (bN l x.1.toNat 0) s=true) (λy=>(y.1 - a).toNat) λ_ _=> .look
    |_=> .look
 |_=> .look
theorem It:dB Tryz.prog Eu:=by
 refine ko (L:=[]) (W:=[Ey]) Eu (λa=>VR a.1.1 a.1.2.1 a.1.2.2 a.2.1 a.2.2) (by simpa using IC) (by simp) ?_;rintro⟨⟨n,l,p⟩,a,b⟩ ⟨⟨⟨hc,hn⟩,hl,ho⟩,⟨a0,a1,a2⟩,hi⟩;refine NI (let c:=γj .i64;let d:=(0:Int);let e:=VL .i64;let f:=iZ.row;let g:=(1:Int);let m:=a+g;let o:=γ1 0 n 1;let q:=SV.fn (Fn.func 112) [] [γV 1 0 20];let E:=c m;let w:=ew.i .i64;let F:=f w l 3 true;let k:=iZ.cells [c p.bm.a0,c p.bm.a1,c p.bm.a2,c p.bm.a3,c p.bm.a4,c p.bm.a5,c p.bs.a0,c p.bs.a1,c p.bs.a2,c p.bs.a3,c p.bs.a4,c p.bs.a5,c p.bt.a0,c p.bt.a1,c p.bt.a2,c p.bt.a3,c p.bt.a4,c p.bt.a5,γa w p.bk,γa ew.bu p.bj] 27 20 false;e m/\(((o.bi o/\(c a).bi (c a)/\(c b).bi (c b)/\q.bi q/\E.bi E/\True)/\F.bi F/\k.bi k/\True)/\(a<m/\(m<=b\/m=m))/\l=f_ (eA p) l a.toNat (if a<b then m else a).toNat)/\∀(x:Int×List Int),let y:=c x.1;let B:=f w x.2 3 true;let r:=x.1.toNat;let C:=dy (eA p) (c_ l a.toNat r);let t:=x.1+g;let G:=c t;let N:=f_ (eA p) l a.toNat (if a<b then t else a).toNat;(a<x.1/\(x.1<=b\/x.1=m))/\x.2=f_ (eA p) l a.toNat (if a<b then x.1 else a).toNat->(decide (x.1<b)=true->(((o.bi o/\(c a).bi (c a)/\(c b).bi (c b)/\q.bi q/\y.bi y/\y.bi y/\True)/\B.bi B/\k.bi k/\True)/\(a<=x.1/\x.1<=x.1)/\x.2=j_ (eA p) l a.toNat r r/\∀(s:Int),s∈γ4 (x.1 - a).toNat C->jn (eA p) (bN l r d) s=true)/\∀(x_1:Int×List Int),let H:=f w x_1.2 3 true;let v:=x_1.1.toNat;let D:=bN x_1.2 v d;let j:=x_1.1 - g;let z:=j.toNat;let A:=bN x_1.2 z d;let h:=x_1.2.length;let z23:Nat:=(x_1.2.set v A).length;let I:=c j;let J:=(x_1.2.set v A).set z D;let K:=f w J 3 true;let L:=e t/\((o.bi o/\(c a).bi (c a)/\(c b).bi (c b)/\q.bi q/\G.bi G/\True)/\H.bi H/\k.bi k/\True)/\((a<t/\(t<=b\/t=m))/\x_1.2=N)/\(b - t).toNat<(b - x.1).toNat;let M:=λ(u:Bool) ↦decide (xI p D A<d)=u;((a<=x_1.1/\x_1.1<=x.1)/\x_1.2=j_ (eA p) l a.toNat r v/\∀(s:Int),s∈γ4 (x_1.1 - a).toNat C->jn (eA p) (bN l r d) s=true)->(decide (a<x_1.1)=true->n=h/\d<=x_1.1/\x_1.1<(↑h:Int)/\n=h/\v<h/\e j/\n=h/\d<=j/\j<(↑h:Int)/\n=h/\z<h/\(nW p=d/\k_ p D/\k_ p A)/\(M true->e j/\e j/\n=h/\d<=j/\j<(↑h:Int)/\n=h/\z<h/\n=h/\d<=x_1.1/\x_1.1<(↑h:Int)/\n=h/\v<h/\n=h/\d<=x_1.1/\x_1.1<(↑h:Int)/\n=h/\v<h/\n=z23/\d<=j/\j<(↑z23:Int)/\n=z23/\z<z23/\e j/\((o.bi o/\(c a).bi (c a)/\(c b).bi (c b)/\q.bi q/\y.bi y/\I.bi I/\True)/\K.bi K/\k.bi k/\True)/\((a<=j/\j<=x.1)/\J=j_ (eA p) l a.toNat r z/\∀(s:Int),s∈γ4 (j - a).toNat C->jn (eA p) (bN l r d) s=true)/\(j - a).toNat<(x_1.1 - a).toNat)/\(M false->L))/\(decide (a<x_1.1)=false->L))/\(decide (x.1<b)=false->(SV.Gz []).bi (SV.Gz [])/\B.bi (f w (f_ (eA p) l a.toNat b.toNat) 3 true)/\k.bi k/\True)) (by kernel_rfl) ?_;simp only[vcs];have hc:nW p=0:=hc;have hn:n=l.length:=hn;have hl:l.length<=1000:=hl;have ho:∀x∈l,k_ p x:=ho;have a0:0<=a:=a0;have a1:a<=b:=a1;have a2:b<=l.length:=a2;have hi:(c_ l a.toNat b.toNat).Pairwise (·<·):=hi;generalize hD:eA p=D at*;have sl:∀{i:Int},a<=i->i<=b->(f_ D l a.toNat i.toNat).length=l.length:=λh1 h2=>MT (by omega) (by omega);refine⟨by omega,⟨⟨by omega,.inr trivial⟩,?_⟩,?_⟩
 ·by_cases hab:a<b;·rw[if_pos hab,show(a+1).toNat=a.toNat+1 by omega,V7 (by omega)]
  ·rw[if_neg hab,MR]
 rintro⟨i,m⟩ ⟨⟨i0,i1⟩,hm⟩;simp only at i0 i1 hm ⊢;refine⟨λhib=>?_,λhib=>MM ?_⟩
 ·rw[if_pos (by omega)] at hm;have hx:=ho _ (cA (d:=(0:Int)) (show i.toNat<l.length by omega));have hS:∀s∈dy D (c_ l a.toNat i.toNat),s<bN l i.toNat 0/\k_ p s:=λs hs=>by
   have h1:=ED.1 hs;have h2:(c_ l a.toNat (i.toNat+1)).Pairwise (·<·):=by
    refine hi.sublist ?_;unfold c_;exact List.take_sublist_take_left (by omega)
   rw[EC (by omega) (by omega)] at h2;refine⟨(δI.1 h2).2.2 s h1 _ (by simp),ho s ?_⟩;unfold c_ at h1;exact γY (γn h1)
  have hSl:(dy D (c_ l a.toNat i.toNat)).length=i.toNat - a.toNat:=by rw[qo,sV (by omega) (by omega)]
  have il:∀{j:Nat},(j_ D l a.toNat i.toNat j).length=l.length:=λ{j}=>V6 (by omega) (by omega);refine⟨⟨⟨by omega,by omega⟩,?_,?_⟩,?_⟩;·rw[hm,V5 (by omega) (by omega)]
  ·intro s hs;rw[List.drop_of_length_le (by omega)] at hs;simp at hs
  rintro⟨j,m2⟩ ⟨⟨j0,j1⟩,hm2,hle⟩;simp only at j0 j1 hm2 hle ⊢;subst hm2;simp only[List.length_set,il];have fin:(j=a\/jn D (bN (dy D (c_ l a.toNat i.toNat)) (j.toNat - 1 - a.toNat) 0) (bN l i.toNat 0)=true)->j_ D l a.toNat i.toNat j.toNat=f_ D l a.toNat (if a<b then i+1 else a).toNat:=λh=>by
   rw[if_pos (by omega),show(i+1).toNat=i.toNat+1 by omega];refine VX (by omega) (by omega) (by omega) ?_ ?_;·rw[show j.toNat - a.toNat=(j - a).toNat by omega];exact hle
   ·rcases h with h|h;·exact .inl (by omega)
    ·exact .inr h
  refine⟨λhj=>?_,λhj=>?_⟩
  ·obtain⟨k1,k2,k3⟩:=@V0 D l a.toNat i.toNat j.toNat (by omega) (by omega) (by omega);have ej:(j - 1).toNat=j.toNat - 1:=by omega
   rw[ej,k1,k2,k3];have hs:=cA (d:=(0:Int)) (show j.toNat - 1 - a.toNat<(dy D (c_ l a.toNat i.toNat)).length by omega);obtain⟨s1,s2⟩:=hS _ hs;have hcmp:=VU hc hx s2;rw[hD] at hcmp;rw[hcmp];refine⟨by omega,by omega,by omega,by omega,by omega,by omega,by omega,by omega,by omega,by omega,by omega,⟨hc,hx,s2⟩,λh1=>?_,λh1=>?_⟩
   ·repeat' refine γm ?_ ?_
    all_goals first|omega|rfl|skip
    intro s hs2;rw[show(j - 1 - a).toNat=j.toNat - 1 - a.toNat by omega,List.drop_eq_getElem_cons (show j.toNat - 1 - a.toNat<(dy D (c_ l a.toNat i.toNat)).length by omega)] at hs2;rcases List.mem_cons.1 hs2 with rfl|hs2
    ·rw[<-bV (d:=(0:Int))];exact xL.2 (.inl h1)
    ·refine hle s ?_;rw[show(j - a).toNat=j.toNat - 1 - a.toNat+1 by omega];exact hs2
   ·have:=fin (.inr (xL.2 (by omega)));repeat' refine γm ?_ ?_
    all_goals first|omega|exact this|rfl
  ·have:=fin (.inl (by omega));repeat' refine γm ?_ ?_
   all_goals first|omega|exact this|rfl
 ·rw[hm];by_cases hab:a<b;·rw[if_pos hab,show i=b by omega]
  ·rw[if_neg hab,show a=b by omega]
theorem VQ {l:List Int} {a b:Nat} {x:Int} (h:x∈c_ l a b):x∈l:=by
 unfold c_ at h;exact γY (γn h)
theorem VP {D:Int->Int} {l:List Int} {a b:Nat} {x:Int} (h:x∈f_ D l a b):x∈l:=by
 unfold f_ at h;simp only[γi] at h;rcases h with(h|h)|h;·exact γn h
 ·exact VQ (ED.1 h)
 ·exact γY h
def wC (b:Int):List Int:=[b]
def Ce:List Int->Option Int
 |[a]=>some a
 |_=>none
theorem VO:∀l b,Ce l=some b->l=wC b:=λl b h=>by
 unfold Ce at h;split at h;·simp only[γ] at h;subst h;rfl
 ·cases h
theorem VN:∀b c,wC b=wC c->b=c:=λb c h=>by
 simp_all[wC]
def y8 (_:Unit):List Int:=[]
def Cf:List Int->Option Unit
 |[]=>some ()
 |_=>none
theorem VM:∀l b,Cf l=some b->l=y8 b:=λl b h=>by
 unfold Cf at h;split at h;·rfl
 ·cases h
theorem VH:∀b c,y8 b=y8 c->b=c:=λ_ _ _=>rfl
theorem ML {D:Int->Int} {l:List Int} {n:Nat} (h:n=l.length):f_ D l 0 n=dy D l:=by
 grind[f_,c_]
theorem VG {D:Int->Int} {l:List Int} {b c d:Nat} (h:b<=c) (e:b<=l.length):c_ (f_ D l 0 b) c d=c_ l c d:=by
 have a:(dy D (c_ l 0 b)).length=b:=by grind[qo,sV]
 unfold f_;have:(l.take 0++dy D (c_ l 0 b)++l.drop b).drop c=l.drop c:=by
  rw[List.take_zero,δP,List.drop_append,List.drop_eq_nil_of_le (by omega),δP,δl,a,show b+(c - b)=c by omega]
 grind[c_]
def Et:cU:=Ex 149 1 Int wC Ce (λ_=>rfl) VO VN (λa=>(sT a.1/\a.1.2.1.Pairwise (·<·))/\a.2=a.1.2.1.length/\a.1.2.1.length<=20) λa=>dy (eA a.1.2.2) a.1.2.1
def VF (n:Nat) (l:List Int) (p:cj):Nat->bJ
 |2=> .inv (Int×Int×List Int) (λx=>⟨[(0,.ow 0 n 1),(1,.si .i64 l.length),(2,.fn (.func 112) [] [.ptr 1 0 20]),(6,.si .i64 20),(7,.si .i64 x.1),(8,.si .i64 x.2.1)],[.row (.i .i64) x.2.2 3 true,.cells p.ss 27 20 false]⟩) (λs=>(iS s 7,iS s 8,oS (.i .i64) s 0))
   (λx=>x.2.1=x.1+20/\(x.1=0/\x.2.2=l\/x.1=20/\l.length=20/\x.2.2=f_ (eA p) l 0 20)) (λx=>(1000 - x.1).toNat) λ_ _=> .look
 |7=> .inv (Int×List Int) (λx=>⟨[(0,.ow 0 n 1),(1,.si .i64 l.length),(2,.fn (.func 112) [] [.ptr 1 0 20]),(6,.si .i64 x.1)],[.row (.i .i64) x.2 3 true,.cells p.ss 27 20 false]⟩) (λs=>(iS s 6,oS (.i .i64) s 0))
   (λx=>x.1=20/\x.2=dy (eA p) l) (λx=>(1000 - x.1).toNat) λ_ _=> .look
 |_=> .look
theorem Iy:dB Tryz.prog Et:=by
 refine ko (L:=[]) (W:=[Eu]) Et (λa=>VF a.1.1 a.1.2.1 a.1.2.2) (by simpa using It) (by simp) ?_;rintro⟨⟨n,l,p⟩,N⟩ ⟨⟨⟨⟨hc,hn⟩,hl,ho⟩,hi⟩,hN,h20⟩;simp only at hc hn hl ho hi hN h20;subst hN;refine NI (let a:=γj .i64;let b:=(20:Int);let c:=iZ.row;let d:=(0:Int);let e:=γC .i64;let g:=γ1 0 n 1;let h:=(↑l.length:Int);let j:=a h;let k:=SV.fn (Fn.func 112) [] [γV 1 0 20];let m:=a 20;let v:=e 0;let o:=ew.i .i64;let w:=c o l 3 true;let f:=iZ.cells [a p.bm.a0,a p.bm.a1,a p.bm.a2,a p.bm.a3,a p.bm.a4,a p.bm.a5,a p.bs.a0,a p.bs.a1,a p.bs.a2,a p.bs.a3,a p.bs.a4,a p.bs.a5,a p.bt.a0,a p.bt.a1,a p.bt.a2,a p.bt.a3,a p.bt.a4,a p.bt.a5,γa o p.bk,γa ew.bu p.bj] 27 20 false;let s:=f_ (eA p) l 0 20;let t:=dy (eA p) l;(((g.bi g/\j.bi j/\k.bi k/\(e 20).bi m/\v.bi (a 0)/\(e 20).bi m/\True)/\w.bi w/\f.bi f/\True)/\b=b/\(d=d/\l=l\/d=b/\l.length=20/\l=s))/\∀(x:Int×Int×List Int),let y:=decide (x.2.1<=h);let q:=x.1.toNat;let r:=x.2.1+b;let z:=a x.2.1;let A:=a r;let u:=f_ (eA p) x.2.2 q x.2.1.toNat;let B:=c o u 3 true;let C:=f_ (eA p) x.2.2 q h.toNat;let D:=c o C 3 true;x.2.1=x.1+b/\(x.1=d/\x.2.2=l\/x.1=b/\l.length=20/\x.2.2=s)->(y=true->(sT (n,x.2.2,p)/\Ew x.2.2 x.1 x.2.1/\ζF (λx1 x2 ↦x1<x2) (c_ x.2.2 q x.2.1.toNat))/\VL .i64 r/\((g.bi g/\j.bi j/\k.bi k/\m.bi m/\z.bi z/\A.bi A/\True)/\B.bi B/\f.bi f/\True)/\(r=r/\(x.2.1=d/\u=l\/x.2.1=b/\l.length=20/\u=s))/\((1000:Int) - x.2.1).toNat<((1000:Int) - x.1).toNat)/\(y=false->(sT (n,x.2.2,p)/\Ew x.2.2 x.1 h/\ζF (λx1 x2 ↦x1<x2) (c_ x.2.2 q h.toNat))/\(((g.bi g/\j.bi j/\k.bi k/\m.bi m/\True)/\D.bi D/\f.bi f/\True)/\b=b/\C=t)/\∀(x:Int×List Int),let E:=c o x.2 3 true;x.1=b/\x.2=t->(decide (x.1<h)=true->VL .i64 ((2:Int)*x.1)/\uf (bE.mk [(0,g),(1,j),(2,k),(6,a x.1),(7,v),(8,a ((2:Int)*x.1))] [E,f]))/\(decide (x.1<h)=false->(SV.Gz []).bi (SV.Gz [])/\E.bi (c o t 3 true)/\f.bi f/\True))) (by kernel_rfl) ?_;simp only[vcs];have pw:∀a b,(c_ l a b).Pairwise (·<·):=λa b=>List.Pairwise.sublist ((ζ4 _ _).trans (List.drop_sublist _ _)) hi;have e0:((l.length:Int)).toNat=l.length:=by omega
 rw[e0];refine⟨.inl trivial,?_⟩;rintro⟨a,b,w⟩ ⟨hb,hw⟩;simp only at hb hw ⊢;subst hb;refine⟨λh=>?_,λh=>?_⟩
 ·rcases hw with⟨rfl,rfl⟩|⟨rfl,h2,rfl⟩;·refine⟨⟨⟨⟨hc,hn⟩,hl,ho⟩,⟨?_,?_,?_⟩,pw _ _⟩,?_,.inr ⟨?_,?_,rfl⟩,?_⟩<;>omega
  ·omega
 ·refine⟨?_,?_,?_⟩
  ·rcases hw with⟨rfl,rfl⟩|⟨rfl,h2,rfl⟩;·refine⟨⟨⟨hc,hn⟩,hl,ho⟩,⟨?_,?_,?_⟩,pw _ _⟩<;>omega
   ·have hw:=@MT (eA p) l 0 20 (by omega) (by omega);exact⟨⟨⟨hc,by simp only[hw];exact hn⟩,by simp only[hw];exact hl,λx hx=>ho x (VP hx)⟩,⟨by omega,by omega,by rw[hw];omega⟩,by rw[VG (by omega) (by omega)];exact pw _ _⟩
  ·rcases hw with⟨rfl,rfl⟩|⟨rfl,h2,rfl⟩;·exact ML rfl
   ·rw[h2];show f_ _ _ 20 20=_;rw[MR];exact ML h2.symm
  ·rintro⟨s,w⟩ hw;simp only at hw ⊢;exact⟨λh=>by omega,λh=>MM hw.2⟩
def Es:cU:=Ex 111 0 Unit y8 Cf (λ_=>rfl) VM VH (λa=>(sT a.1/\a.1.2.1.Pairwise (·<·))/\a.1.2.1.length<=20) λa=>dy (eA a.1.2.2) a.1.2.1
theorem ID:dB Tryz.prog Es:=by
 refine ko (L:=[]) (W:=[Et]) Es lk (by simpa using Iy) (by simp) ?_;rintro⟨⟨n,l,p⟩,u⟩ ⟨⟨⟨⟨hc,hn⟩,hl,ho⟩,hi⟩,h20⟩;simp only at hc hn hl ho hi h20;refine NI (let a:=iZ.row (ew.i .i64) (dy (eA p) l) 3 true;let b:=iZ.cells (cj.ss p) 27 20 false;((sT (n,l,p)/\ζF (λx1 x2 ↦x1<x2) l)/\(↑n:Int)=(↑l.length:Int)/\l.length<=20)/\(SV.Gz []).bi (SV.Gz [])/\a.bi a/\b.bi b/\True) (by kernel_rfl) ?_;simp only[vcs];exact⟨⟨⟨⟨hc,hn⟩,hl,ho⟩,hi⟩,by omega,h20⟩
def cz (n:Nat):List Int:=(ω n).map λi:Nat=>(i:Int)
theorem gQ {n:Nat}:(cz n).length=n:=by simp[cz]
theorem qm {n:Nat}:cz (n+1)=cz n++[(n:Int)]:=by simp[cz,εf]
theorem nL {n:Nat}:(cz n).Pairwise (·<·):=by
 unfold cz;rw[List.pairwise_map];exact List.pairwise_lt_range.imp λh=>by omega
theorem jh {n:Nat} {x:Int}:x∈cz n↔0<=x/\x<n:=by
 unfold cz;rw[Γ];constructor;·grind
 ·rintro⟨b,a⟩;exact⟨x.toNat,γD.2 (by omega),by omega⟩
def lE (n i:Nat):List Int:=cz i++δ (n - i) 0
theorem MK {n i:Nat} (h:i<=n):(lE n i).length=n:=by grind[lE,gQ]
theorem VE {n:Nat}:lE n 0=δ n 0:=by simp[lE,cz]
theorem Wf {n:Nat}:lE n n=cz n:=by simp[lE]
theorem We {n i:Nat} (h:i<n):(lE n i).set i (i:Int)=lE n (i+1):=by
 unfold lE;rw[List.set_append_right _ _ (by grind[gQ]),gQ,Nat.sub_self,show n - i=(n - (i+1))+1 by omega,List.replicate_succ,List.set_cons_zero,qm,γG];rfl
def sS (p:cj):List Int:=dy (eA p) (cz p.bj.length)
def Er:NG:=⟨76,cj,.one cV,λp=>p.bj.length<=20,λp=> .row (.i .i64) (if nW p=0 then sS p else[])⟩
def Wd (p:cj):Nat->bJ
 |5=> .inv Int (λi=>⟨[(1,.ptr 0 0 20),(3,.ow 1 (lE p.bj.length i.toNat).length 1),(13,.si .i64 p.bj.length),(14,.si .i64 i)],[.cells p.ss 27 20 false,.row (.i .i64) (lE p.bj.length i.toNat) 3 true]⟩)
   (λs=>iS s 14) (λi=>0<=i/\i<=p.bj.length) (λi=>(p.bj.length - i).toNat) λ_ _=> .look
 |_=> .look
theorem IE:Holds Tryz.prog Er:=by
 refine j6 (L:=[mV]) (W:=fT [Es]) Er Wd (kd (by simpa using ID)) (by simpa using oi) ?_;intro(p:cj) (hp:p.bj.length<=20);refine NI (let a:=γj .i64;let b:=(0:Int);let c:=iZ.row;let d:=γa;let e:=γ1;let r:=decide (nW p≠b);let g:=ew.i .i64;let s:=d g (if nW p=b then sS p else[]);let h:=(↑p.bj.length:Int);let n:=γV 0 0 20;let l:=p.bj.length;let j:=(↑l:Int);let q:=a j;let o:=iZ.cells [a p.bm.a0,a p.bm.a1,a p.bm.a2,a p.bm.a3,a p.bm.a4,a p.bm.a5,a p.bs.a0,a p.bs.a1,a p.bs.a2,a p.bs.a3,a p.bs.a4,a p.bs.a5,a p.bt.a0,a p.bt.a1,a p.bt.a2,a p.bt.a3,a p.bt.a4,a p.bt.a5,d g p.bk,d ew.bu p.bj] 27 20 false;True/\(r=true->(d g []).bi s)/\(r=false->b<=h/\h<=h/\h*(8:Int)<=(140737488355328:Int)/\h<=(1000000000000:Int)/\(((n.bi n/\(e 1 h.toNat 1).bi (e 1 (lE l 0).length 1)/\(a (↑h.toNat:Int)).bi q/\(γC .i64 0).bi (a 0)/\True)/\o.bi o/\(c g (δ h.toNat b) 3 true).bi (c g (lE l 0) 3 true)/\True)/\b<=b/\b<=j)/\∀(x:Int),let f:=lE l x.toNat;let m:=f.length;let k:=x+(1:Int);let t:=a k;b<=x/\x<=j->(decide (x<j)=true->m=f.length/\b<=x/\x<(↑f.length:Int)/\m=f.length/\x.toNat<f.length/\VL .i64 k/\((n.bi n/\(e 1 m 1).bi (e 1 (lE l k.toNat).length 1)/\q.bi q/\t.bi t/\True)/\o.bi o/\(c g (f.set x.toNat x) 3 true).bi (c g (lE l k.toNat) 3 true)/\True)/\(b<=k/\k<=j)/\(j - k).toNat<(j - x).toNat)/\(decide (x<j)=false->((sT (m,f,p)/\ζF (λx1 x2 ↦x1<x2) f)/\m<=20)/\m=(dy (eA p) f).length/\(d g (dy (eA p) f)).bi s))) (by kernel_rfl) ?_;simp only[vcs];refine⟨λh=>by rw[if_neg h],λh=>?_⟩;have hc:nW p=0:=γe.1 h;rw[if_pos hc];have e0:((p.bj.length:Int)).toNat=p.bj.length:=by omega
 have how:∀{x y:Nat},x=y->(γ1 1 x 1).bi (γ1 1 y 1):=by rintro _ _ rfl;rfl
 rw[e0,VE];refine⟨by omega,by omega,by omega,by omega,⟨⟨⟨how (by simp),rfl⟩,rfl⟩,by omega,by omega⟩,?_⟩;rintro i ⟨i0,i1⟩;have hL:=@MK p.bj.length i.toNat (by omega);refine⟨λhi=>?_,λhi=>?_⟩
 ·have hs:=@We p.bj.length i.toNat (by omega);rw[show((i.toNat:Nat):Int)=i by omega] at hs;have IZ:=@MK p.bj.length (i.toNat+1) (by omega);rw[show(i+1).toNat=i.toNat+1 by omega,hs];exact⟨i0,by omega,by omega,by omega,⟨how (by omega),rfl⟩,by omega,by omega⟩
 ·rw[show i.toNat=p.bj.length by omega,Wf];refine⟨⟨⟨⟨⟨hc,rfl⟩,by simp only[gQ];omega,λx hx=>by have:=jh.1 hx;exact this⟩,nL⟩,by simp only[gQ];omega⟩,by rw[qo],rfl⟩
end Go.Vi
namespace Go.Proofs
open Go.Shelf
def Tryz.pc:Ren:=
 ⟨λ
  |189=>57
  |125=>69
  |257=>82
  |128=>98
  |129=>99
  |294=>117
  |295=>118
  |296=>119
  |297=>120
  |298=>121
  |299=>122
  |216=>123
  |300=>124
  |301=>125
  |328=>151
  |329=>127
  |330=>128
  |331=>152
  |332=>153
  |215=>154
  |343=>174
  |n=>n,
 λ
  |28=>24
  |3=>3
  |46=>55
  |0=>0
  |51=>172
  |53=>53
  |4=>4
  |183=>165
  |182=>164
  |131=>169
  |5=>5
  |9=>9
  |218=>209
  |222=>213
  |228=>246
  |229=>109
  |n=>n,
 λn=>n⟩
def Tryz.kY:Ren:=
 ⟨λ
  |41=>52
  |n=>n,
 λ
  |22=>24
  |23=>3
  |4=>4
  |n=>n,
 λn=>n⟩
def Tryz.pe:Ren:=
 ⟨λ
  |45=>147
  |n=>n,
 λ
  |22=>24
  |23=>3
  |3=>3
  |4=>4
  |0=>0
  |n=>n,
 λn=>n⟩
def Tryz.pd:Ren:=
 ⟨λ
  |6=>50
  |15=>69
  |14=>68
  |28=>98
  |29=>99
  |20=>90
  |21=>91
  |22=>92
  |23=>93
  |24=>94
  |25=>95
  |26=>96
  |27=>97
  |46=>126
  |47=>127
  |48=>128
  |49=>129
  |50=>130
  |57=>155
  |n=>n,
 λ
  |22=>30
  |24=>24
  |25=>34
  |3=>3
  |39=>55
  |0=>0
  |53=>172
  |55=>53
  |4=>4
  |46=>165
  |45=>164
  |50=>169
  |5=>5
  |9=>9
  |66=>209
  |70=>213
  |76=>246
  |77=>109
  |n=>n,
 λn=>n⟩
theorem Tryz.Hw:Lays.n189 Tryz.prog Tryz.pc:={mixed:=by kernel_rfl,f125:=Tryz.func69.trans (by kernel_rfl),f128:=Tryz.func98.trans (by kernel_rfl),f129:=Tryz.func99.trans (by kernel_rfl),f189:=Tryz.func57.trans (by kernel_rfl),f215:=Tryz.func154.trans (by kernel_rfl),f216:=Tryz.func123.trans (by kernel_rfl),f257:=Tryz.func82.trans (by kernel_rfl),f294:=Tryz.func117.trans (by kernel_rfl),f295:=Tryz.func118.trans (by kernel_rfl),f296:=Tryz.func119.trans (by kernel_rfl),f297:=Tryz.func120.trans (by kernel_rfl),f298:=Tryz.func121.trans (by kernel_rfl),f299:=Tryz.func122.trans (by kernel_rfl),f300:=Tryz.func124.trans (by kernel_rfl),f301:=Tryz.func125.trans (by kernel_rfl),f328:=Tryz.func151.trans (by kernel_rfl),f329:=Tryz.func127.trans (by kernel_rfl),f330:=Tryz.func128.trans (by kernel_rfl),f331:=Tryz.func152.trans (by kernel_rfl),f332:=Tryz.func153.trans (by kernel_rfl),f343:=Tryz.func174.trans (by kernel_rfl),t0:=Tryz.underlying0,a0:=Tryz.isAgg0,z0:=Tryz.sizeOf0,v0:=Tryz.zeroValue0,t3:=Tryz.underlying3,a3:=Tryz.isAgg3,z3:=Tryz.sizeOf3,v3:=Tryz.zeroValue3,t4:=Tryz.underlying4,a4:=Tryz.isAgg4,z4:=Tryz.sizeOf4,v4:=Tryz.zeroValue4,t5:=Tryz.underlying5,a5:=Tryz.isAgg5,z5:=Tryz.sizeOf5,v5:=Tryz.zeroValue5,t9:=Tryz.underlying9,a9:=Tryz.isAgg9,z9:=Tryz.sizeOf9,v9:=Tryz.zeroValue9,t28:=Tryz.underlying24,a28:=Tryz.isAgg24,z28:=Tryz.sizeOf24,v28:=Tryz.zeroValue24,t46:=Tryz.underlying55,a46:=Tryz.isAgg55,z46:=Tryz.sizeOf55,v46:=Tryz.zeroValue55,t51:=Tryz.underlying172,a51:=Tryz.isAgg172,z51:=Tryz.sizeOf172,v51:=Tryz.zeroValue172,t53:=Tryz.underlying53,a53:=Tryz.isAgg53,z53:=Tryz.sizeOf53,v53:=Tryz.zeroValue53,t131:=Tryz.underlying169,a131:=Tryz.isAgg169,z131:=Tryz.sizeOf169,v131:=Tryz.zeroValue169,t182:=Tryz.underlying164,a182:=Tryz.isAgg164,z182:=Tryz.sizeOf164,v182:=Tryz.zeroValue164,t183:=Tryz.underlying165,a183:=Tryz.isAgg165,z183:=Tryz.sizeOf165,v183:=Tryz.zeroValue165,t218:=Tryz.underlying209,a218:=Tryz.isAgg209,z218:=Tryz.sizeOf209,v218:=Tryz.zeroValue209,t222:=Tryz.underlying213,a222:=Tryz.isAgg213,z222:=Tryz.sizeOf213,v222:=Tryz.zeroValue213,t228:=Tryz.underlying246,a228:=Tryz.isAgg246,z228:=Tryz.sizeOf246,v228:=Tryz.zeroValue246,t229:=Tryz.underlying109,a229:=Tryz.isAgg109,z229:=Tryz.sizeOf109,v229:=Tryz.zeroValue109}
theorem Tryz.tV:SlLaysE0.n41 Tryz.prog Tryz.kY:={mixed:=by kernel_rfl,f41:=⟨Tryz.f52.name,by decide,Tryz.func52.trans (by kernel_rfl)⟩,t4:=Tryz.underlying4,a4:=Tryz.isAgg4,z4:=Tryz.sizeOf4,v4:=Tryz.zeroValue4,t22:=Tryz.underlying24,a22:=Tryz.isAgg24,z22:=Tryz.sizeOf24,v22:=Tryz.zeroValue24}
theorem Tryz.Hx:SlLaysE.n45 Tryz.prog Tryz.pe:={mixed:=by kernel_rfl,f45:=⟨Tryz.f147.name,by decide,Tryz.func147.trans (by kernel_rfl)⟩,t0:=Tryz.underlying0,a0:=Tryz.isAgg0,z0:=Tryz.sizeOf0,v0:=Tryz.zeroValue0,t3:=Tryz.underlying3,a3:=Tryz.isAgg3,z3:=Tryz.sizeOf3,v3:=Tryz.zeroValue3,t4:=Tryz.underlying4,a4:=Tryz.isAgg4,z4:=Tryz.sizeOf4,v4:=Tryz.zeroValue4,t22:=Tryz.underlying24,a22:=Tryz.isAgg24,z22:=Tryz.sizeOf24,v22:=Tryz.zeroValue24,a23:=Tryz.isAgg3,z23:=Tryz.sizeOf3}
theorem Tryz.tU:SlLaysF.n6 Tryz.prog Tryz.pd:={mixed:=by kernel_rfl,f6:=⟨Tryz.f50.name,by decide,Tryz.func50.trans (by kernel_rfl)⟩,f14:=⟨Tryz.f68.name,by decide,Tryz.func68.trans (by kernel_rfl)⟩,f15:=Tryz.func69.trans (by kernel_rfl),f20:=⟨Tryz.f90.name,by decide,Tryz.func90.trans (by kernel_rfl)⟩,f21:=⟨Tryz.f91.name,by decide,Tryz.func91.trans (by kernel_rfl)⟩,f22:=⟨Tryz.f92.name,by decide,Tryz.func92.trans (by kernel_rfl)⟩,f23:=⟨Tryz.f93.name,by decide,Tryz.func93.trans (by kernel_rfl)⟩,f24:=⟨Tryz.f94.name,by decide,Tryz.func94.trans (by kernel_rfl)⟩,f25:=⟨Tryz.f95.name,by decide,Tryz.func95.trans (by kernel_rfl)⟩,f26:=⟨Tryz.f96.name,by decide,Tryz.func96.trans (by kernel_rfl)⟩,f27:=⟨Tryz.f97.name,by decide,Tryz.func97.trans (by kernel_rfl)⟩,f28:=Tryz.func98.trans (by kernel_rfl),f29:=Tryz.func99.trans (by kernel_rfl),f46:=⟨Tryz.f126.name,by decide,Tryz.func126.trans (by kernel_rfl)⟩,f47:=Tryz.func127.trans (by kernel_rfl),f48:=Tryz.func128.trans (by kernel_rfl),f49:=⟨Tryz.f129.name,by decide,Tryz.func129.trans (by kernel_rfl)⟩,f50:=⟨Tryz.f130.name,by decide,Tryz.func130.trans (by kernel_rfl)⟩,f57:=⟨Tryz.f155.name,by decide,Tryz.func155.trans (by kernel_rfl)⟩,t0:=Tryz.underlying0,a0:=Tryz.isAgg0,z0:=Tryz.sizeOf0,v0:=Tryz.zeroValue0,t3:=Tryz.underlying3,a3:=Tryz.isAgg3,z3:=Tryz.sizeOf3,v3:=Tryz.zeroValue3,t4:=Tryz.underlying4,a4:=Tryz.isAgg4,z4:=Tryz.sizeOf4,v4:=Tryz.zeroValue4,t5:=Tryz.underlying5,a5:=Tryz.isAgg5,z5:=Tryz.sizeOf5,v5:=Tryz.zeroValue5,t9:=Tryz.underlying9,a9:=Tryz.isAgg9,z9:=Tryz.sizeOf9,v9:=Tryz.zeroValue9,t22:=Tryz.underlying30,a22:=Tryz.isAgg30,z22:=Tryz.sizeOf30,v22:=Tryz.zeroValue30,a24:=Tryz.isAgg24,z24:=Tryz.sizeOf24,t25:=Tryz.underlying34,a25:=Tryz.isAgg34,z25:=Tryz.sizeOf34,v25:=Tryz.zeroValue34,t39:=Tryz.underlying55,a39:=Tryz.isAgg55,z39:=Tryz.sizeOf55,v39:=Tryz.zeroValue55,t45:=Tryz.underlying164,a45:=Tryz.isAgg164,z45:=Tryz.sizeOf164,v45:=Tryz.zeroValue164,t46:=Tryz.underlying165,a46:=Tryz.isAgg165,z46:=Tryz.sizeOf165,v46:=Tryz.zeroValue165,t50:=Tryz.underlying169,a50:=Tryz.isAgg169,z50:=Tryz.sizeOf169,v50:=Tryz.zeroValue169,t53:=Tryz.underlying172,a53:=Tryz.isAgg172,z53:=Tryz.sizeOf172,v53:=Tryz.zeroValue172,t55:=Tryz.underlying53,a55:=Tryz.isAgg53,z55:=Tryz.sizeOf53,v55:=Tryz.zeroValue53,t66:=Tryz.underlying209,a66:=Tryz.isAgg209,z66:=Tryz.sizeOf209,v66:=Tryz.zeroValue209,t70:=Tryz.underlying213,a70:=Tryz.isAgg213,z70:=Tryz.sizeOf213,v70:=Tryz.zeroValue213,t76:=Tryz.underlying246,a76:=Tryz.isAgg246,z76:=Tryz.sizeOf246,v76:=Tryz.zeroValue246,t77:=Tryz.underlying109,a77:=Tryz.isAgg109,z77:=Tryz.sizeOf109,v77:=Tryz.zeroValue109}
end Go.Proofs
namespace Go.Proofs
open Go.Shelf Go.RowKit Go.Lib
theorem MJ {P:Program} {ρ:Ren} (L:SlLaysE0.n41 P ρ) (i0:TypeInfo) (z:Value) (b g:Nat) (I:P.info? (ρ.t 23)=some i0) (x:i0.zero=some z) (y:i0.size=b) (q:i0.bytes=g) (m:z.cells.size=b) (o:0<b)
  (Q:∀w,(Go.sizeOf (ρ.t 23)).run P w= .ok b w) (p:Addr) (n c:Nat) (d:List Value) (w:World) (K:d.length=n*b) (U:n<=maxLen) (B:n*g<=140737488355328)
  (C:∀j u,d[j]?=some u->w.cell? (p.add j)=some u) (E:∀u∈d,u.oneCell'=true):
  Calls P (ρ.f 41) #[.slice (some p) n c] w λe w'=>∃l,e= .returned l/\w'.ownsRow w.heap.size (ρ.t 23) b l n d/\l≠ .slice none 0 0/\Below w.heap.size w w':=by
 have v:=L.mixed;have W:=L.t4;have V:=L.a4;have T:=L.z4;have S:=L.v4;have i:=L.t22;have N:=L.a22;have O:=L.z22;have H:=L.v22;have G:∀(w:World) (a:Option Addr) (n c r s:Nat),(binOp .eql (ρ.t 22) (.slice a n c) (.slice none r s)).run P w= .ok (.bool a.isNone) w:=λw a n c r s=>Lib.run_eql_slice_nil w _ _ a n c r s L.t22;have F:∀w,Sem.run P (underlying (ρ.t 22)) w= .ok (TypeDesc.slice (ρ.t 23)) w:=run_underlying i;have A:Aside (∀j u,d[j]?=some u->w.cell? (p.add j)=some u):=C;clear C;obtain⟨_,_,M⟩:=L.f41;go_enter M,SlBodyN.n41_ntmps ρ;go_wp2_with (at_builtin;refine wpList_append_own _ rfl _ _ (ρ.t 22) rfl w.heap.size (ρ.t 23) i0 z b g i I x y q m o _ _ _ rfl (World.ownsRow_made w #[] 0 (π _) (δ6 _) (by simp)) p n c d rfl ?qc1 ?qc2 ?qc3 ?qc4 ?qc5 ?qc6 ?_);case qc1=>exact K
 case qc2=>
  intro j u J;exact Lib.cell?_alloc_some _ (A.out j u J)
 case qc3=>exact E
 case qc4=>omega
 case qc5=>simp_all
 case qc6=>simp
 intro l R D h k;go_wp2;go_ret;refine⟨l,rfl,by omega,?_,?_⟩;·exact k
 ·exact((Below.refl _ w).alloc (π _) _).grown h (by simp) (by grind[Value.ownBlock])
end Go.Proofs
namespace Go.Vi
open Go.Proofs.YtbnhiekmnpikhaaGreat.Ir
open Go.Proofs
theorem lD (l:List Int):bP (.i .i64) l=l.map λx=>δg (.int .i64 x):=by
 unfold bP;induction l with
 |nil=>rfl;|cons x l a=>rw[List.flatMap_cons,a];rfl
theorem MI {A:de} {w:World} {σ:TN} {l:List Int} {e:TypeId} (d:OM A w σ [.cells (l.map λx=>δg (.int .i64 x)) e 1 true]) (s:1<=l.length):
  ∃b cap arr,σ=[some (b,cap)]/\cap<=maxLen/\w.heap[b]?=some (.cells arr e (0,0))/\arr.size=cap/\l.length<=cap/\arr.toList.take l.length=l.map (Value.int .i64):=by
 have f:=d.obj 0 _ rfl;simp only[cQ] at f;obtain⟨_,_,h|⟨b,cap,arr,a,n,g,r,p,i⟩⟩:=f;·simp_all
 ·have c:=d.len;simp at c;have m:l.length<=arr.size:=by simp_all
  refine⟨b,cap,arr,?_,n,g,by omega,by omega,?_⟩;·match σ,c,a with
   |[x],_,a=>simp_all
  ·apply List.ext_getElem?;intro j;by_cases k:j<l.length
   ·obtain⟨v,o,q⟩:=i j (.sc (.int .i64 l[j])) (by simp[k]);grind[nA]
   simp_all
def dp (l:List Int):List Int:=l.mergeSort λx y=>decide (x<=y)
theorem pE {l:List Int}:(dp l).length=l.length:=(δp _ _).length_eq
def yg:cU where
 f:=57;α:=Nat×List Int;put a:=[.ow 0 a.1 1];st a:=[.row (.i .i64) a.2 3 true];dec v o:=match v,o with
  |[.ow 0 n 1],[.row t l 3 true]=>match gF t (.i .i64) l with
   |some l=>some (n,l)
   |_=>none
  |_,_=>none;ok v o a h:=by
  split at h
  ·split at h
   ·rename_i h4;simp only[γ] at h;subst h;obtain⟨rfl,hh⟩:=ln h4;cases hh;exact⟨rfl,rfl⟩
   ·cases h
  ·cases h
 inj a b e1 e2:=by
  obtain⟨n,l⟩:=a;obtain⟨n',l'⟩:=b;simp only[gL,Θ,γF,εA,true_and] at e1;simp only[gO,ξ,γw,iZ.g,Θ,OL.cells.injEq,and_true,true_and] at e2;have h4:l=l':=by
   have hf:=congrArg γd e2;rw[ec,ec] at hf;exact kq (.i .i64) (by simpa[ew.sz] using hf) e2
  rw[e1.1.1,h4]
 dom a:=a.1=a.2.length/\1<=a.2.length/\a.2.length<=1000000;res _:=.Gz [];out a:=[.row (.i .i64) (dp a.2) 3 true]
theorem yP:dB Tryz.prog yg:=by
 rintro⟨n,l⟩ ⟨E,H,V⟩;simp only at E H V;subst E;refine⟨by kernel_rfl,?_⟩;intro A w F Q q s;have C:∀m:List Int,gO [iZ.row (.i .i64) m 3 true]=[OL.cells (m.map λx=>δg (.int .i64 x)) 3 1 true]:=λm=>by
  simp only[gO,ξ,γw,iZ.g,lD];rfl
 have T:gL (yg.put (l.length,l))=[.os 0 0 l.length (l.length*1)]:=rfl;show Calls _ _ _ _ λe h=>∃u p,e= .returned u/\OM A h p (gO [iZ.row (.i .i64) (dp l) 3 true])/\nA A h p (gO [iZ.row (.i .i64) (dp l) 3 true]) (.Gz []) u/\Ext w F (gO [iZ.row (.i .i64) l 3 true]) h p (gO [iZ.row (.i .i64) (dp l) 3 true]);replace q:OM A w F (gO [iZ.row (.i .i64) l 3 true]):=q;replace s:Aq A w F (gO [iZ.row (.i .i64) l 3 true]) (gL (yg.put (l.length,l))) Q:=s;rw[C] at q s;rw[C,C];rw[T] at s;obtain⟨b,Y,d,rfl,U,L,q4,q5,N⟩:=MI q H;simp only[Aq] at s;obtain⟨v,r,rfl,I,rfl⟩:=s;simp only[nA] at I;obtain⟨O,a,y,rfl,a0,B⟩:=I;have K:=B 1 ⟨_,_,_,rfl,by simp⟩;simp only[jY,δq] at K;obtain⟨rfl,rfl⟩:=K.2.1 trivial trivial (by omega);have P:b<w.heap.size:=q.dZ 0 b y rfl;have R:=holds_of_blockI (ss:=l) L N;have S:Calls Tryz.prog (yg).f #[.slice (some ⟨b,0,none⟩) l.length y] w λe h=>e= .returned (.tuple #[])/\∃n z,h=Sort.grow (Sort.putRow (Value.int .i64) (Sort.ahead w n) b 0 (dp l).toArray) z:=
  calls_of_every_depth λD=>AnyS.slices_Sort_int_in Tryz.Hw D b 0 y l w R P (by omega);refine Calls.mono S ?_;rintro e h ⟨rfl,n,z,rfl⟩;have t:=grownBy_sortedI (w:=w) (g:=b) (n:=n) (os:=z) (dp l).toArray;have W:=heap_sortedI (w:=w) (n:=n) (os:=z) (dp l).toArray L;have X:=take_putCellsI d (dp l) (by rw[pE];omega);have hz:(Sort.putCells (Value.int .i64) 0 (dp l).toArray d).size=d.size:=by simp[Sort.putCells]
 generalize Sort.grow (Sort.putRow (Value.int .i64) (Sort.ahead w n) b 0 (dp l).toArray) z=h at*;generalize Sort.putCells (Value.int .i64) 0 (dp l).toArray d=o at*;have hU:=q.iw (w':=h) (id:=0) (x':=.cells ((dp l).map λx=>δg (.int .i64 x)) 3 1 true) (s':=some (b,y)) rfl t.size t.os t.tape t.output
  (λk M E=>t.block k M λe=>by simp_all) (λb' c' e=>by simp_all)
  ⟨_,_,_,rfl,by simp[pE],λ_=>rfl⟩ ?_;·grind[nA,Aq]
 ·intro hx;simp only[cQ];refine⟨λ_=>by rw[<-lD];grind[np],by rw[<-lD];grind[Au],.inr ⟨b,y,o,rfl,U,W,by omega,by grind[pE],?_⟩⟩;intro j c J;rw[γH] at J;obtain⟨x,G,rfl⟩:=ε.1 J;have Z:=(ζ.1 G).1;refine⟨.int .i64 x,?_,by simp[nA,Value.oneCell']⟩;have h9:(o.toList.take (dp l).length)[j]?=((dp l).map (Value.int .i64))[j]?:=by rw[X]
  grind
theorem MH {A:de} {w:World} {l:List Int} {vs:List Value} {m:FuncId} (n:m=Tryz.kY.f 41) (N:OM A w [] []) (K:l.length<=1000000) (B:Aq A w [] [] [.sl l.length (l.map λx=>δg (.int .i64 x))] vs):
  Calls Tryz.prog m vs.toArray w λe w'=>RowKit.Below w.heap.size w w'/\((e= .returned (.slice none 0 0)/\l=[])\/∃g cap c,e= .returned (.slice (some ⟨g,0,none⟩) l.length cap)/\w.heap.size<=g/\w'.heap[g]?=some (.cells c 3 (0,0))/\l.length<=cap/\cap<=maxLen/\c.size=cap/\c.toList.take l.length=l.map (Value.int .i64)):=by
 subst n;simp only[Aq] at B;obtain⟨v,r,rfl,t,rfl⟩:=B;simp only[nA] at t;obtain⟨a,cap,rfl,q,_,C⟩:=t;cases a with
 |none=>
  have z:l=[]:=by
   cases l<;>grind[cF]
  grind[Calls.mono,AnyE.slices_Clone_nil,Tryz.tV,RowKit.Below.refl];|some p=>
  have H:∀j u,(l.map (Value.int .i64))[j]?=some u->w.cell? (p.add j)=some u:=by
   intro j u s;rw[γH] at s;obtain⟨x,F,rfl⟩:=ε.1 s;obtain⟨b,v,e,_,o,y⟩:=cF.get _ _ _ C j (.sc (.int .i64 x)) (by simp[F]);grind[nA]
  refine Calls.mono (MJ Tryz.tV Tryz.t3 (.int .i64 0) 1 8 (by kernel_rfl) (by kernel_rfl) (by kernel_rfl) (by kernel_rfl) (by kernel_rfl) (by omega) Tryz.sizeOf3 p l.length cap (l.map (Value.int .i64)) w (by simp) (by grind[maxLen]) (by omega) H (by simp[Value.oneCell'])) ?_;rintro e w' ⟨L,rfl,k,E,i⟩;refine⟨i,.inr ?_⟩;obtain⟨_,h|⟨g,d,c,rfl,J,I,D,G,M,O⟩⟩:=k;·simp_all
  ·exact⟨g,d,c,rfl,J,I,D,G,by omega,by simp_all⟩
def yf:NG:=⟨52,List Int,.one (cO (.i .i64)),λl=>l.length<=1000000,λl=> .row (.i .i64) l⟩
theorem yR:Holds Tryz.prog yf:=by
 intro(l:List Int) (hl:l.length<=1000000);refine⟨by kernel_rfl,?_⟩;intro A w σ vs hS hR;have hσ:σ=[]:=by have:=hS.len;simpa using this
 subst hσ;have e1:gL (yf.A.put l)=[.sl l.length (l.map λx=>δg (.int .i64 x))]:=by rw[<-lD];rfl
 have e2:(yf.res l).G= .sl l.length (l.map λx=>δg (.int .i64 x)):=by rw[<-lD];rfl
 rw[e1] at hR;rw[e2];refine Calls.mono (MH (by rfl) hS hl hR) ?_;rintro e w' ⟨hb,h⟩;have hS':OM A w' [] []:=⟨rfl,by simp,by simp,by simp,by simp,λb h=>γl (hS.avb b h) hb.size⟩;have hE:Ext w [] [] w' [] []:=⟨hb.size,λb h _=>⟨hb.block b h,λ⟨i,c,hi⟩=>by simp at hi⟩,π _,λ_ _ ⟨_,_,_,_,h,_⟩=>by simp at h,λ_ ⟨_,_,_,h⟩=>by simp at h,hb.os,hb.tape,hb.output⟩;rcases h with⟨rfl,rfl⟩|⟨g,cap,cur,rfl,h1,h2,h3,h4,h5,h6⟩;·exact⟨_,[],rfl,hS',by simp only[nA];exact⟨none,0,rfl,by simp,by rw[<-lD];exact np _ _,by simp[cF]⟩,hE⟩
 ·refine⟨_,[],rfl,hS',?_,hE⟩;simp only[nA];refine⟨_,_,rfl,h3,by rw[<-lD];exact np _ _,cF.ke _ _ _ λi c hi=>?_⟩;rw[γH] at hi;obtain⟨x,hx,rfl⟩:=ε.1 hi;have hil:=(ζ.1 hx).1;have h9:(cur.toList.take l.length)[i]?=(l.map (Value.int .i64))[i]?:=by rw[h6]
  rw[List.getElem?_take_of_lt hil,Array.getElem?_toList,γH,hx] at h9;refine⟨⟨g,0,none⟩,.int .i64 x,rfl,⟨λ⟨i,c,hi⟩=>by simp at hi,λhA=>by have:=hS.avb g hA;omega⟩,?_,by simp[nA,Value.oneCell']⟩;rw[Addr.add_lit];simp only[World.cell?,h2,Nat.zero_add,Option.isSome_none,Bool.false_eq_true,if_false];exact h9
def sQ:cU where
 f:=52;α:=List Int;put a:=[.row (.i .i64) a];st a:=[];dec v o:=match v,o with
  |[.row t l],[]=>gF t (.i .i64) l
  |_,_=>none;ok v o a h:=by
  split at h
  ·obtain⟨rfl,hh⟩:=ln h;cases hh;exact⟨rfl,rfl⟩
  ·cases h
 inj a b e1 e2:=by
  simp only[gL,Θ,γF,δ7,and_true] at e1;exact kq (.i .i64) (by simpa using e1.1) e1.2
 dom a:=a.length<=1000000;res a:=.ow 0 a.length 1;out a:=[.row (.i .i64) a 3 true]
theorem sq:dB Tryz.prog sQ:=by
 intro(l:List Int) (E:l.length<=1000000);refine⟨by kernel_rfl,?_⟩;intro A w s G k p;replace k:OM A w s []:=k;replace p:Aq A w s [] (gL (sQ.put l)) G:=p;have q:s=[]:=by have:=k.len;simp_all
 subst q;have F:gL (sQ.put l)=[.sl l.length (l.map λx=>δg (.int .i64 x))]:=by rw[<-lD];rfl
 have B:(sQ.res l).g= .os 0 0 l.length (l.length*1):=rfl;have D:gO (sQ.out l)=[OL.cells (l.map λx=>δg (.int .i64 x)) 3 1 true]:=by rw[<-lD];rfl
 rw[F] at p;rw[B,D];show Calls _ _ _ _ λe n=>∃u f,e= .returned u/\OM A n f [OL.cells (l.map λx=>δg (.int .i64 x)) 3 1 true]/\nA A n f [OL.cells (l.map λx=>δg (.int .i64 x)) 3 1 true] (.os 0 0 l.length (l.length*1)) u/\Ext w [] [] n f [OL.cells (l.map λx=>δg (.int .i64 x)) 3 1 true];refine Calls.mono (MH (by rfl) k E p) ?_;rintro e n ⟨d,h⟩;have t:ry [OL.cells (l.map λx=>δg (.int .i64 x)) 3 1 true] 0 (l.length*1):=⟨_,_,_,_,rfl,by simp⟩;rcases h with⟨rfl,rfl⟩|⟨g,m,o,rfl,P,z,C,J,O,I⟩
 ·refine⟨_,[none],rfl,⟨rfl,?_,?_,?_,?_,λb h=>γl (k.avb b h) d.size⟩,?_,d.size,λb h _=>⟨d.block b h,?_⟩,δ6 _,λ_ _ ⟨_,_,_,_,h,_⟩=>by simp at h,λ_ ⟨_,_,_,h⟩=>by simp at h,d.os,d.tape,d.output⟩;·grind
  ·grind
  ·intro i x a;cases i with
   |zero=>
    simp at a;subst a;simp only[cQ];exact⟨λ_=>rfl,rfl,.inl (by simp)⟩;|succ i=>simp at a
  ·grind
  ·grind[nA,jY]
  ·rintro⟨i,c,a⟩;grind
 ·have L:g<n.heap.size:=(Array.getElem?_eq_some_iff.1 z).1;refine⟨_,[some (g,m)],rfl,⟨rfl,?_,?_,?_,?_,λb h=>γl (k.avb b h) d.size⟩,?_,d.size,λb h _=>⟨d.block b h,?_⟩,δ6 _,λ_ _ ⟨_,_,_,_,h,_⟩=>by simp at h,λ_ ⟨_,_,_,h⟩=>by simp at h,d.os,d.tape,d.output⟩;·grind
  ·grind
  ·intro i x a;cases i with
   |zero=>
    simp at a;subst a;simp only[cQ];refine⟨λ_=>by rw[<-lD];grind[np],by rw[<-lD];grind[Au],.inr ⟨g,m,o,rfl,J,z,by omega,by simp;omega,?_⟩⟩;intro j c v;rw[γH] at v;obtain⟨x,r,rfl⟩:=ε.1 v;have H:=(ζ.1 r).1;refine⟨.int .i64 x,?_,by simp[nA,Value.oneCell']⟩;have N:(o.toList.take l.length)[j]?=(l.map (Value.int .i64))[j]?:=by rw[I]
    grind;|succ i=>simp at a
  ·intro i b c a;cases i with
   |zero=>
    simp at a;intro K;have:=k.avb b K;omega;|succ i=>simp at a
  ·simp only[nA];refine⟨t,_,_,rfl,C,λM y=>?_⟩;obtain⟨_,_,_,y,_⟩:=y;grind[jY,nZ]
  ·rintro⟨i,c,a⟩;grind
def km (l:List Int) (i j:Nat):List Int:=l.take i++l.drop j++δ (j - i) 0
theorem Nf {l:List Int} {i j:Nat} (a:i<=j) (b:j<=l.length):(km l i j).length=l.length:=by
 grind[km]
def sP:cU where
 f:=147;α:=(Nat×List Int)×Int×Int;put a:=[.ow 0 a.1.1 1,.si .i64 a.2.1,.si .i64 a.2.2];st a:=[.row (.i .i64) a.1.2 3 true];dec v o:=match v,o with
  |[.ow 0 n 1,x,y],[.row t l 3 true]=>match gF t (.i .i64) l,x.int .i64,y.int .i64 with
   |some l,some i,some j=>some ((n,l),i,j)
   |_,_,_=>none
  |_,_=>none;ok v o a h:=by
  split at h
  ·split at h
   ·rename_i h4 h5 h6;simp only[γ] at h;subst h;obtain⟨rfl,hh⟩:=ln h4;cases hh;refine⟨?_,rfl⟩;simp only[gL,gT h5,gT h6];rfl
   ·cases h
  ·cases h
 inj a b e1 e2:=by
  obtain⟨⟨n,l⟩,i,j⟩:=a;obtain⟨⟨n',l'⟩,i',j'⟩:=b;simp only[gL,Θ,γF,εA,true_and,and_true,δe,Value.int.injEq] at e1;simp only[gO,ξ,γw,iZ.g,Θ,OL.cells.injEq,and_true,true_and] at e2;have h4:l=l':=by
   have hf:=congrArg γd e2;rw[ec,ec] at hf;exact kq (.i .i64) (by simpa[ew.sz] using hf) e2
  rw[e1.1.1,h4,e1.2.1,e1.2.2]
 dom a:=(a.1.1=a.1.2.length/\1<=a.1.2.length/\a.1.2.length<=1000000)/\0<=a.2.1/\a.2.1<=a.2.2/\a.2.2<=a.1.2.length;res a:=.os 0 0 (a.1.2.length - (a.2.2 - a.2.1).toNat) a.1.1 1;out a:=[.row (.i .i64) (km a.1.2 a.2.1.toNat a.2.2.toNat) 3 true]
theorem Is:dB Tryz.prog sP:=by
 rintro⟨⟨n,l⟩,i,j⟩ ⟨⟨H,K,h2⟩,i0,ij,Y⟩;simp only at H K h2 i0 ij Y;subst H;obtain⟨i,rfl⟩:∃k:Nat,i=k:=⟨i.toNat,by omega⟩;obtain⟨j,rfl⟩:∃k:Nat,j=k:=⟨j.toNat,by omega⟩;refine⟨by kernel_rfl,?_⟩;intro A w F X t z;have I:∀m:List Int,gO [iZ.row (.i .i64) m 3 true]=[OL.cells (m.map λx=>δg (.int .i64 x)) 3 1 true]:=λm=>by
  simp only[gO,ξ,γw,iZ.g,lD];rfl
 have V:gL (sP.put ((l.length,l),(i:Int),(j:Int)))=[.os 0 0 l.length (l.length*1),.sc (.int .i64 i),.sc (.int .i64 j)]:=rfl;have Z:(sP.res ((l.length,l),(i:Int),(j:Int))).g= .os 0 0 (l.length - (j - i)) (l.length*1):=by
  show AV.os 0 (0*1) (l.length - ((j:Int) - (i:Int)).toNat) (l.length*1)=_;simp_all
 show Calls _ _ _ _ λe h=>∃u p,e= .returned u/\OM A h p (gO [iZ.row (.i .i64) (km l i j) 3 true])/\nA A h p (gO [iZ.row (.i .i64) (km l i j) 3 true]) (sP.res ((l.length,l),(i:Int),(j:Int))).g u/\Ext w F (gO [iZ.row (.i .i64) l 3 true]) h p (gO [iZ.row (.i .i64) (km l i j) 3 true]);replace t:OM A w F (gO [iZ.row (.i .i64) l 3 true]):=t;replace z:Aq A w F (gO [iZ.row (.i .i64) l 3 true]) (gL (sP.put ((l.length,l),(i:Int),(j:Int)))) X:=z;rw[I] at t z;rw[I,I,Z];rw[V] at z;obtain⟨b,a2,d,rfl,S,Q,q4,q5,q6⟩:=MI t K;simp only[Aq] at z;obtain⟨v,r,rfl,M,v2,r2,rfl,C,v3,r3,rfl,D,rfl⟩:=z;simp only[nA] at M C D;obtain⟨a0,a,s,rfl,a3,J⟩:=M;obtain⟨rfl,_⟩:=C;obtain⟨rfl,_⟩:=D;have O:=J 1 ⟨_,_,_,rfl,by simp⟩;simp only[jY,δq] at O;obtain⟨rfl,rfl⟩:=O.2.1 trivial trivial (by omega);have hb:b<w.heap.size:=t.dZ 0 b s rfl;have W:=holds_of_blockI (ss:=l) Q q6;have T:maxLen=9223372036854775807:=rfl;have B:=@Nf l i j (by omega) (by omega);have E:Calls Tryz.prog (sP).f #[.slice (some ⟨b,0,none⟩) l.length s,.int .i64 i,.int .i64 j] w λe h=>e= .returned (.slice (some ⟨b,0,none⟩) (l.length - (j - i)) s)/\∃q,h=Sort.putRow (Value.int .i64) (Sort.ahead w q) b 0 (km l i j).toArray:=by
  exact AnyE.slices_Delete Tryz.Hx (Value.int .i64) (λ_=>rfl) 0 Tryz.zeroValue3 Tryz.t3 (by kernel_rfl) (by kernel_rfl) b 0 s i j l.toArray w W (by omega) (by omega) (by omega) (by simp;omega)
 refine Calls.mono E ?_;rintro e h ⟨rfl,q,rfl⟩;have y:=grownBy_sortedI (w:=w) (g:=b) (n:=q) (os:=#[]) (km l i j).toArray;have L:=heap_sortedI (w:=w) (n:=q) (os:=#[]) (km l i j).toArray Q;rw[Sort.grow_empty] at y L;have R:=take_putCellsI d (km l i j) (by omega);have hz:(Sort.putCells (Value.int .i64) 0 (km l i j).toArray d).size=d.size:=by simp[Sort.putCells]
 generalize Sort.putRow (Value.int .i64) (Sort.ahead w q) b 0 (km l i j).toArray=h at*;generalize Sort.putCells (Value.int .i64) 0 (km l i j).toArray d=o at*;have N:=t.iw (w':=h) (id:=0) (x':=.cells ((km l i j).map λx=>δg (.int .i64 x)) 3 1 true) (s':=some (b,s)) rfl y.size y.os y.tape y.output
  (λk U H=>y.block k U λe=>by simp_all) (λb' c' e=>by simp_all)
  ⟨_,_,_,rfl,by simp[B],λ_=>rfl⟩ ?_
 ·refine⟨_,[some (b,s)],rfl,N.1,?_,N.2⟩;simp only[nA];refine⟨⟨_,_,_,_,rfl,by simp[B]⟩,_,_,rfl,by omega,λsz E=>?_⟩;obtain⟨_,_,_,E,_⟩:=E;grind[jY]
 ·intro hx;simp only[cQ];refine⟨λ_=>by rw[<-lD];exact np _ _,by rw[<-lD];exact Au _ _,.inr ⟨b,s,o,rfl,S,L,by omega,by simp_all,?_⟩⟩;intro k c P;rw[γH] at P;obtain⟨x,G,rfl⟩:=ε.1 P;have a1:=(ζ.1 G).1;refine⟨.int .i64 x,?_,by simp[nA,Value.oneCell']⟩;have h9:(o.toList.take (km l i j).length)[k]?=((km l i j).map (Value.int .i64))[k]?:=by rw[R]
  grind
structure bY where
 rows:List (List Int)
 bounds:List Int
 bj:List bC
def ye:o8 bY where
 put a:=.agg [.row (.Ap (.i .i64)) a.rows,.row (.i .i64) a.bounds,.row .bu a.bj];dec
  | .agg [r,v,x]=>match iH (.Ap (.i .i64)) r,iH (.i .i64) v,iH .bu x with
   |some c,some v,some x=>some ⟨c,v,x⟩
   |_,_,_=>none
  |_=>none;ok v a h:=by
  grind[γF,gL,nl]
 inj a b h:=by
  obtain⟨c,v,x⟩:=a;obtain⟨l,k,j⟩:=b;simp only[γF,gL,AV.agg.injEq,Θ,and_true,true_and,δ7] at h;have e:=kq (.Ap (.i .i64)) h.1.1 h.1.2;have d:=kq (.i .i64) h.2.1.1 h.2.1.2;have f:=kq .bu h.2.2.1 h.2.2.2;rw[e,d,f]
def vH:NG:=⟨61,cj,.one cV,λ_=>True,λp=> .si .i64 (if nW p=0 then cq p else 0)⟩
theorem qP:Holds Tryz.prog vH:=by
 refine bM (L:=[mV,uX]) vH lk (by grind[oi,qS]) ?_;rintro(p:cj) -;refine NI (let c:=(0:Int);let b:=decide (nW p≠c);let a:=γj .i64 (if nW p=c then cq p else c);True/\(b=true->(γC .i64 0).bi a)/\(b=false->p.bk.length<=8/\(γj .i64 (cq p)).bi a)) (by kernel_rfl) ?_;simp only[vcs];refine⟨λh=>by rw[if_neg h],λh=>?_⟩;have c:nW p=0:=γe.1 h;rw[if_pos c];have:=(cL c).1;omega
def gw (p:cj) (r:Int) (n:Nat):List Int:=(p.bj.take n).map (dz p r)
def zx:NG:=⟨107,cj×Int,.cons cV (.one (dX .i64)),λa=>nW a.1=0/\0<=a.2/\a.2<cq a.1,λa=> .Gz [.row (.i .i64) (gw a.1 a.2 a.1.bj.length),.si .i64 (cC a.1 a.2)]⟩
def Wc (a:cj×Int):Nat->bJ
 |5=> .inv Int (λi=>⟨[(1,.si .i64 a.2),(4,.ow 1 (gw a.1 a.2 i.toNat).length 1),(6,.ptr 2 0 20),(20,.row .bu a.1.bj),(21,.si .i64 a.1.bj.length),(22,.si .i64 i)],[.cells a.1.ss 27 20 false,.row (.i .i64) (gw a.1 a.2 i.toNat) 3 true,.cells a.1.ss 87 20 false]⟩)
   (λs=>iS s 22) (λi=>0<=i/\i<=a.1.bj.length) (λi=>(a.1.bj.length - i).toNat) λ_ _=> .look
 |_=> .look
theorem yQ:Holds Tryz.prog zx:=by
 refine bM (L:=[vH,uV,uW]) zx Wc (by simpa using⟨qP,qT,qR⟩) ?_;rintro⟨p,r⟩ ⟨hc,r0,r1⟩;simp only at hc r0 r1;refine NI (let a:=γj .i64;let b:=(0:Int);let c:=γa;let d:=iZ.row;let e:=SV.Gz;let f:=γ1;let g:=ew.i .i64;let l:=c ew.bu p.bj;let v:=decide (r<b);let o:=γC .i64 0;let w:=[a (cC p r)];let q:=e (c g (gw p r p.bj.length)::w);let y:=decide ((if nW p=b then cq p else b)<=r);let m:=γV 2 0 20;let z:=(↑p.bj.length:Int);let h:=(↑p.bj.length:Int);let s:=a h;let n:=λ(u:Nat) ↦let A:=iZ.cells [a p.bm.a0,a p.bm.a1,a p.bm.a2,a p.bm.a3,a p.bm.a4,a p.bm.a5,a p.bs.a0,a p.bs.a1,a p.bs.a2,a p.bs.a3,a p.bs.a4,a p.bs.a5,a p.bt.a0,a p.bt.a1,a p.bt.a2,a p.bt.a3,a p.bt.a4,a p.bt.a5,c g p.bk,l] u 20 false;A.bi A;(v=true->0=0/\(e [c g [],o]).bi q)/\(v=false->True/\(y=true->0=0/\(e [c g [],o]).bi q)/\(y=false->((((a r).bi (a r)/\(f 1 0 1).bi (f 1 (gw p r 0).length 1)/\m.bi m/\l.bi l/\(a z).bi s/\o.bi (a 0)/\True)/\n 27/\(d g [] 3 true).bi (d g (gw p r 0) 3 true)/\n 87/\True)/\b<=b/\b<=h)/\∀(x:Int),let t:=bN p.bj x.toNat ew.bu.bw;let j:=gw p r x.toNat;let B:=j.length+1;let k:=x+(1:Int);let C:=j++[dz p r t];let D:=a k;b<=x/\x<=h->(decide (x<h)=true->b<=x/\x<z/\x.toNat<p.bj.length/\(p.bk.length<=8/\b<=r/\r<cq p/\b<=t.TM/\t.TM<(↑p.bk.length:Int))/\j.length=j.length/\B*8<=140737488355328/\B<=1000000000000/\VL .i64 k/\(((a r).bi (a r)/\(f 1 C.length 1).bi (f 1 (gw p r k.toNat).length 1)/\m.bi m/\l.bi l/\s.bi s/\D.bi D/\True)/\n 27/\(d g C 3 true).bi (d g (gw p r k.toNat) 3 true)/\n 87/\True)/\(b<=k/\k<=h)/\(h - k).toNat<(h - x).toNat)/\(decide (x<h)=false->(p.bk.length<=8/\b<=r/\r<cq p)/\j.length=j.length/\(e (c g j::w)).bi q)))) (by kernel_rfl) ?_;simp only[vcs];obtain⟨g1,g2,g3,g4,g5⟩:=cL hc;have how:∀{x y:Nat},x=y->(γ1 1 x 1).bi (γ1 1 y 1):=by rintro _ _ rfl;rfl
 have hrow:∀{x y:List Int},x=y->(iZ.row (.i .i64) x 3 true).bi (iZ.row (.i .i64) y 3 true):=by rintro _ _ rfl;rfl
 rw[if_pos hc];refine⟨λh=>by omega,λ_=>⟨λh=>by omega,λ_=>⟨⟨?_,by omega,by omega⟩,?_⟩⟩⟩;·exact⟨how rfl,hrow rfl⟩
 ·rintro i ⟨i0,i1⟩;have hL:(gw p r i.toNat).length<=160:=by unfold gw;rw[List.length_map,γz];omega
  refine⟨λhi=>?_,λhi=>?_⟩
  ·have hx:=g5 _ (cA (d:=ew.bu.bw) (show i.toNat<p.bj.length by omega));have e:gw p r (i+1).toNat=gw p r i.toNat++[dz p r (bN p.bj i.toNat ew.bu.bw)]:=by
    unfold gw;rw[ji (d:=ew.bu.bw) i0 hi,γb];rfl
   rw[e];refine⟨i0,hi,?_,⟨g1,r0,r1,hx.1,hx.2.1⟩,?_,?_,?_,⟨how rfl,hrow rfl⟩,?_,?_⟩<;>omega
  ·rw[show i.toNat=p.bj.length by omega];exact⟨⟨g1,r0,r1⟩,rfl⟩
def kS (p:cj) (n:Nat):List (List Int):=(ω n).map λr:Nat=>gw p r p.bj.length
def jv (p:cj) (n:Nat):List Int:=(ω n).map λr:Nat=>cC p r
def nR (p:cj):Nat:=if nW p=0 then p.bk.length+12 else 0
def bW (p:cj):bY:=⟨kS p (nR p),jv p (nR p),p.bj⟩
theorem Nd {p:cj} {n:Nat}:(kS p n).length=n:=by simp[kS]
theorem zw {p:cj} {n:Nat}:(jv p n).length=n:=by simp[jv]
theorem Wb {p:cj} {i:Int} (h:0<=i):kS p (i+1).toNat=kS p i.toNat++[gw p i p.bj.length]:=by
 unfold kS;rw[show(i+1).toNat=i.toNat+1 from by omega,εf,γb];grind
theorem Wa {p:cj} {i:Int} (h:0<=i):jv p (i+1).toNat=jv p i.toNat++[cC p i]:=by
 unfold jv;rw[show(i+1).toNat=i.toNat+1 from by omega,εf,γb];grind
def zu:NG:=⟨73,cj,.one cV,λ_=>True,λp=>ye.put (bW p)⟩
def V_ (p:cj):Nat->bJ
 |3=> .inv Int (λi=>⟨[(1,.ptr 0 0 20),(2,.ptr 1 0 3),(3,.ptr 2 0 3),(11,.si .i64 (nR p)),(12,.si .i64 i)],[.cells p.ss 27 20 false,.cells [.sc (.slice none 0 0),.sc (.slice none 0 0),.sc (.slice none 0 0)] 130 3 false,.cells [.ow 4 (kS p i.toNat).length 1,.ow 3 (jv p i.toNat).length 1,.row .bu p.bj] 130 3 false,.row (.i .i64) (jv p i.toNat) 3 true,.row (.Ap (.i .i64)) (kS p i.toNat) 24 false]⟩)
   (λs=>iS s 12) (λi=>0<=i/\i<=nR p) (λi=>(nR p - i).toNat) λ_ _=> .look
 |_=> .look
theorem yU:Holds Tryz.prog zu:=by
 refine bM (L:=[vH,zx]) zu V_ (by grind[qP,yQ]) ?_;rintro(p:cj) -;refine NI (let a:=γj .i64;let b:=iZ.row;let h:=(0:Int);let j:=iZ.cells;let l:=γa;let o:=γ1;let y:=γV;let w:=y 0 0 20;let s:=y 1 0 3;let t:=y 2 0 3;let g:=(↑(nR p):Int);let z:=a g;let f:=ew.i .i64;let k:=[l ew.bu p.bj];let u:=j (a p.bm.a0::a p.bm.a1::a p.bm.a2::a p.bm.a3::a p.bm.a4::a p.bm.a5::a p.bs.a0::a p.bs.a1::a p.bs.a2::a p.bs.a3::a p.bs.a4::a p.bs.a5::a p.bt.a0::a p.bt.a1::a p.bt.a2::a p.bt.a3::a p.bt.a4::a p.bt.a5::l f p.bk::k) 27 20 false;let A:=SV.sc (Value.slice none 0 0);let v:=j [A,A,A] 130 3 false;True/\(((w.bi w/\s.bi s/\t.bi t/\(a (if nW p=h then cq p else h)).bi z/\(γC .i64 0).bi (a 0)/\True)/\u.bi u/\v.bi v/\(j (o 4 0 1::o 3 0 1::k) 130 3 false).bi (j (o 4 (kS p 0).length 1::o 3 (jv p 0).length 1::k) 130 3 false)/\(b f [] 3 true).bi (b f (jv p 0) 3 true)/\(b f.Ap [] 24 false).bi (b f.Ap (kS p 0) 24 false)/\True)/\h<=h/\h<=g)/\∀(x:Int),let e:=kS p x.toNat;let n:=e.length+1;let d:=jv p x.toNat;let m:=d.length+1;let c:=x+(1:Int);let r:=a c;let q:=e++[gw p x p.bj.length];h<=x/\x<=g->(decide (x<g)=true->(nW p=h/\h<=x/\x<cq p)/\1=1/\e.length=e.length/\n*24<=140737488355328/\n<=1000000000000/\1=1/\d.length=d.length/\m*8<=140737488355328/\m<=1000000000000/\VL .i64 c/\((w.bi w/\s.bi s/\t.bi t/\z.bi z/\r.bi r/\True)/\u.bi u/\v.bi v/\(j (o 4 q.length 1::o 3 (d++[cC p x]).length 1::k) 130 3 false).bi (j (o 4 (kS p c.toNat).length 1::o 3 (jv p c.toNat).length 1::k) 130 3 false)/\(b f (d++[cC p x]) 3 true).bi (b f (jv p c.toNat) 3 true)/\(b f.Ap q 24 false).bi (b f.Ap (kS p c.toNat) 24 false)/\True)/\(h<=c/\c<=g)/\(g - c).toNat<(g - x).toNat)/\(decide (x<g)=false->e.length=e.length/\d.length=d.length/\(γN (l f.Ap e::l f d::k)).bi (γN [l f.Ap (bW p).rows,l f (bW p).bounds,l ew.bu (bW p).bj]))) (by kernel_rfl) ?_;simp only[vcs];have J:∀x:Int,0<=x->x<nR p->nW p=0/\x<cq p/\nR p<=20:=by
  intro x H B;unfold nR at B ⊢;split at B
  ·rename_i G;have:=(cL G).1;simp_all[cq]
  ·omega
 have E:(if nW p=0 then cq p else 0)=((nR p:Nat):Int):=by
  grind[nR,cq]
 have j:∀{a C b D:Nat} {l:List bC},a=C->b=D->(iZ.cells [.ow 4 a 1,.ow 3 b 1,.row .bu l] 130 3 false).bi (.cells [.ow 4 C 1,.ow 3 D 1,.row .bu l] 130 3 false):=by rintro _ _ _ _ _ rfl rfl;rfl
 have o:∀{x y:List Int},x=y->(iZ.row (.i .i64) x 3 true).bi (iZ.row (.i .i64) y 3 true):=by rintro _ _ rfl;rfl
 have h:∀{x y:List (List Int)},x=y->(iZ.row (.Ap (.i .i64)) x 24 false).bi (iZ.row (.Ap (.i .i64)) y 24 false):=by rintro _ _ rfl;rfl
 refine⟨⟨⟨E,j rfl rfl,o rfl,h rfl⟩,by omega,by omega⟩,?_⟩;rintro i ⟨I,K⟩;refine⟨λF=>?_,λF=>?_⟩;·grind[Nd,zw,Wb,Wa]
 ·rw[show i.toNat=nR p by omega];rfl
def lK (g:bY):Prop:=(g.rows.length=g.bounds.length/\g.bounds.length<=1000/\g.bj.length<=1000)/\(∀r∈g.rows,r.length=g.bj.length/\∀x∈r,0<=x/\x<=1000)/\∀b∈g.bounds, -1000<=b/\b<=1000
def nK (g:bY) (c:List Int):Prop:=∀x∈c,0<=(bN g.bj x.toNat ew.bu.bw).value/\(bN g.bj x.toNat ew.bu.bw).value<=1000000
def nc (g:bY) (c:List Int):Prop:=c.length<=1000/\∀x∈c,0<=x/\x<g.bj.length
def kR (g:bY) (c:List Int) (r:Nat):Int:=(c.map λx=>bN (bN g.rows r []) x.toNat 0).sum
def j9 (g:bY) (c:List Int):Bool:=(ω g.bounds.length).all λr=>decide (0<=bN g.bounds r 0 - kR g c r)
def cT (g:bY) (c:List Int):Int:=(c.map λx=>(bN g.bj x.toNat ew.bu.bw).value).sum
theorem Nc {f:Int->Int} {c:List Int} {i:Int} (a:0<=i) (h:i<c.length):((c.take (i+1).toNat).map f).sum=((c.take i.toNat).map f).sum+f (bN c i.toNat 0):=by
 grind[ji]
theorem Ep {f:Int->Int} {c:List Int} {k:Nat} {m:Int} (b:0<=m) (h:∀x∈c,0<=f x/\f x<=m):0<=((c.take k).map f).sum/\((c.take k).map f).sum<=c.length*m:=by
 induction c generalizing k with
 |nil=>simp;|cons x c a=>
  cases k with
  |zero=>simp;exact γy (by omega) b;|succ k=>
   have i:=h x (by simp);obtain⟨g,e⟩:=a (k:=k) λy d=>h y (by simp[d]);simp only[δw,ξ,List.sum_cons,γK];grind
def zt:NG:=⟨78,bY×List Int,.cons ye (.one (cO (.i .i64))),λa=>lK a.1/\nc a.1 a.2,λa=> .sb (j9 a.1 a.2)⟩
def V9 (g:bY) (c:List Int):Nat->bJ
 |2=> .inv Int (λi=>⟨[(1,.row (.i .i64) c),(2,.ptr 0 0 3),(10,.row (.i .i64) g.bounds),(11,.si .i64 g.bounds.length),(12,.si .i64 i)],[.cells [.row (.Ap (.i .i64)) g.rows,.row (.i .i64) g.bounds,.row .bu g.bj] 130 3 false]⟩)
   (λs=>iS s 12) (λi=>(0<=i/\i<=g.bounds.length)/\∀r:Nat,r<i->0<=bN g.bounds r 0 - kR g c r) (λi=>(g.bounds.length - i).toNat) λi k=>match k with
   |5=> .inv (Int×Int) (λy=>⟨[(1,.row (.i .i64) c),(2,.ptr 0 0 3),(5,.si .i64 i),(6,.si .i64 y.2),(10,.row (.i .i64) g.bounds),(11,.si .i64 g.bounds.length),(12,.si .i64 i),(17,.row (.i .i64) c),(18,.si .i64 c.length),(19,.si .i64 y.1)],[.cells [.row (.Ap (.i .i64)) g.rows,.row (.i .i64) g.bounds,.row .bu g.bj] 130 3 false]⟩)
     (λs=>(iS s 19,iS s 6)) (λy=>(0<=y.1/\y.1<=c.length)/\y.2=bN g.bounds i.toNat 0 - kR g (c.take y.1.toNat) i.toNat) (λy=>(c.length - y.1).toNat) λ_ _=> .look
   |_=> .look
 |_=> .look
theorem yS:Holds Tryz.prog zt:=by
 refine bM (L:=[]) zt (λa=>V9 a.1 a.2) (by simp) ?_;rintro⟨g,c⟩ ⟨⟨⟨Y,q2,q3⟩,hr,U⟩,O,C⟩;simp only at Y q2 q3 hr U O C;refine NI (let a:=(0:Int);let d:=γj .i64;let f:=γa;let h:=γC .i64 0;let j:=VL .i64;let e:=ew.i .i64;let t:=γV 0 0 3;let o:=f e g.bounds;let Q:=(↑g.bounds.length:Int);let q:=(↑g.bounds.length:Int);let z:=d q;let u:=iZ.cells [f e.Ap g.rows,o,f ew.bu g.bj] 130 3 false;let s:=(↑c.length:Int);let I:=d s;((((f e c).bi (f e c)/\t.bi t/\o.bi o/\(d Q).bi z/\(h).bi (d 0)/\True)/\u.bi u/\True)/\(a<=a/\a<=q)/\∀(r:Nat),(↑r:Int)<a->a<=bN g.bounds r a - kR g c r)/\∀(x:Int),let F:=bN g.bounds x.toNat a;let E:=d F;let y:=bN g.rows x.toNat e.Ap.bw;let k:=x+(1:Int);let A:=d k;((a<=x/\x<=q)/\∀(r:Nat),(↑r:Int)<x->a<=bN g.bounds r a - kR g c r)->(decide (x<q)=true->a<=x/\x<Q/\x.toNat<g.bounds.length/\((((f e c).bi (f e c)/\t.bi t/\(d x).bi (d x)/\E.bi E/\o.bi o/\z.bi z/\(d x).bi (d x)/\(f e c).bi (f e c)/\(d (↑c.length:Int)).bi I/\(h).bi (d 0)/\True)/\u.bi u/\True)/\(a<=a/\a<=s)/\F=F - kR g [] x.toNat)/\∀(b:Int×Int),let p:=bN c b.1.toNat a;let w:=b.2 - bN y p.toNat a;let l:=b.1+(1:Int);let n:=d x;let H:=d w;let D:=d l;let G:=decide (b.2<a);(a<=b.1/\b.1<=s)/\b.2=F - kR g (Δ b.1.toNat c) x.toNat->(decide (b.1<s)=true->a<=b.1/\b.1<(↑c.length:Int)/\b.1.toNat<c.length/\a<=x/\x<(↑g.rows.length:Int)/\x.toNat<g.rows.length/\a<=p/\p<(↑y.length:Int)/\p.toNat<y.length/\j w/\j l/\(((f e c).bi (f e c)/\t.bi t/\n.bi n/\H.bi H/\o.bi o/\z.bi z/\n.bi n/\(f e c).bi (f e c)/\I.bi I/\D.bi D/\True)/\u.bi u/\True)/\((a<=l/\l<=s)/\w=F - kR g (Δ l.toNat c) x.toNat)/\(s - l).toNat<(s - b.1).toNat)/\(decide (b.1<s)=false->(G=true->(δj false).bi (γB (j9 g c)))/\(G=false->j k/\(((f e c).bi (f e c)/\t.bi t/\o.bi o/\z.bi z/\A.bi A/\True)/\u.bi u/\True)/\((a<=k/\k<=q)/\∀(r:Nat),(↑r:Int)<k->a<=bN g.bounds r a - kR g c r)/\(q - k).toNat<(q - x).toNat)))/\(decide (x<q)=false->(δj true).bi (γB (j9 g c)))) (by kernel_rfl) ?_;simp only[vcs];have hd:(ew.i IntKind.i64).Ap.bw=([]:List Int):=rfl;rw[hd];have M:∀r:Nat,r<g.rows.length->(bN g.rows r []).length=g.bj.length/\∀x∈c,0<=bN (bN g.rows r []) x.toNat 0/\bN (bN g.rows r []) x.toNat 0<=1000:=λr h=>by
  grind[cA]
 refine⟨⟨by omega,λr h=>by omega⟩,?_⟩;rintro i ⟨⟨Z,i1⟩,K⟩;refine⟨λP=>⟨Z,P,by omega,⟨by omega,by simp[kR]⟩,?_⟩,λP=>?_⟩
 ·obtain⟨W,B⟩:=M i.toNat (by omega);have a1:=U _ (cA (d:=0) (show i.toNat<g.bounds.length by omega));rintro⟨j,v⟩ ⟨⟨S,j1⟩,J⟩;simp only at S j1 J ⊢;refine⟨λV=>?_,λV=>?_⟩
  ·have hx:=C _ (cA (d:=0) (show j.toNat<c.length by omega));have hs:kR g (c.take (j+1).toNat) i.toNat=kR g (c.take j.toNat) i.toNat+bN (bN g.rows i.toNat []) (bN c j.toNat 0).toNat 0:=Nc (f:=λx=>bN (bN g.rows i.toNat []) x.toNat 0) S V;have X:0<=kR g (c.take j.toNat) i.toNat/\kR g (c.take j.toNat) i.toNat<=c.length*1000:=Ep (f:=λx=>bN (bN g.rows i.toNat []) x.toNat 0) (m:=1000) (by omega) B;have a0:=B _ (cA (d:=0) (show j.toNat<c.length by omega));omega
  ·have N:j.toNat=c.length:=by omega
   rw[N,φ] at J;refine⟨λR=>?_,λT=>⟨by omega,⟨by omega,λr h=>?_⟩,by omega⟩⟩
   ·symm;rw[<-Bool.not_eq_true,j9,List.all_eq_true];intro h;have:=of_decide_eq_true (h i.toNat (γD.2 (by omega)));omega
   ·by_cases h2:(r:Int)<i;·simp_all
    ·rw[show r=i.toNat by omega,<-J];omega
 grind[j9]
def vG:NG:=⟨75,bY×List Int,.cons ye (.one (cO (.i .i64))),λa=>lK a.1/\nc a.1 a.2/\nK a.1 a.2,λa=> .si .i64 (cT a.1 a.2)⟩
def V8 (g:bY) (c:List Int):Nat->bJ
 |3=> .inv Int (λi=>⟨[(2,.ptr 0 0 3),(5,.si .i64 (cT g (c.take i.toNat))),(8,.row (.i .i64) c),(9,.si .i64 c.length),(10,.si .i64 i)],[.cells [.row (.Ap (.i .i64)) g.rows,.row (.i .i64) g.bounds,.row .bu g.bj] 130 3 false]⟩)
   (λs=>iS s 10) (λi=>0<=i/\i<=c.length) (λi=>(c.length - i).toNat) λ_ _=> .look
 |_=> .look
theorem qQ:Holds Tryz.prog vG:=by
 refine bM (L:=[]) vG (λa=>V8 a.1 a.2) (by simp) ?_;rintro⟨g,c⟩ ⟨⟨⟨D,E,C⟩,B,y⟩,⟨q,l⟩,e⟩;simp only[nK] at D E C B y q l e;refine NI (let a:=γj .i64;let d:=(0:Int);let e:=γa;let o:=γV 0 0 3;let v:=γC .i64 0;let j:=ew.i .i64;let b:=(↑c.length:Int);let r:=a b;let n:=iZ.cells [e j.Ap g.rows,e j g.bounds,e ew.bu g.bj] 130 3 false;(((o.bi o/\v.bi (a (cT g []))/\(e j c).bi (e j c)/\(a (↑c.length:Int)).bi r/\v.bi (a 0)/\True)/\n.bi n/\True)/\d<=d/\d<=b)/\∀(x:Int),let p:=bN c x.toNat d;let t:=cT g (Δ x.toNat c);let s:=t+(bN g.bj p.toNat ew.bu.bw).value;let h:=x+(1:Int);let k:=a h;d<=x/\x<=b->(decide (x<b)=true->d<=x/\x<(↑c.length:Int)/\x.toNat<c.length/\d<=p/\p<(↑g.bj.length:Int)/\p.toNat<g.bj.length/\VL .i64 s/\VL .i64 h/\((o.bi o/\(a s).bi (a (cT g (Δ h.toNat c)))/\(e j c).bi (e j c)/\r.bi r/\k.bi k/\True)/\n.bi n/\True)/\(d<=h/\h<=b)/\(b - h).toNat<(b - x).toNat)/\(decide (x<b)=false->(a t).bi (a (cT g c)))) (by kernel_rfl) ?_;conv=>zeta
 try simp only[vcs]
 refine⟨⟨by simp[cT],by omega,by omega⟩,?_⟩;rintro i ⟨A,H⟩;refine⟨λu=>?_,λu=>?_⟩
 ·have F:=l _ (cA (d:=0) (show i.toNat<c.length by omega));have G:cT g (c.take (i+1).toNat)=cT g (c.take i.toNat)+(bN g.bj (bN c i.toNat 0).toNat ew.bu.bw).value:=Nc (f:=λx=>(bN g.bj x.toNat ew.bu.bw).value) A u;have w:0<=cT g (c.take i.toNat)/\cT g (c.take i.toNat)<=c.length*1000000:=Ep (f:=λx=>(bN g.bj x.toNat ew.bu.bw).value) (m:=1000000) (by omega) e;have z:=e _ (cA (d:=0) (show i.toNat<c.length by omega));omega
 ·rw[show i.toNat=c.length by omega,φ]
def zr:NG:=⟨77,List Int×List Int,.cons (cO (.i .i64)) (.one (cO (.i .i64))),λa=>a.1.length<=1000/\1<=a.2.length/\a.2.length<=1000,λa=> .row (.i .i64) (dp (a.1++a.2))⟩
theorem yT:Holds Tryz.prog zr:=by
 refine j6 (L:=[]) (W:=fT [sQ,yg]) zr lk (kd (by grind[sq,yP])) (by simp) ?_;rintro⟨s,x⟩ ⟨b,c,d⟩;simp only at b c d;refine NI (let a:Nat:=(s++x).length;s.length<=1000000/\s.length=s.length/\(s.length+x.length)*8<=140737488355328/\s.length+x.length<=1000000000000/\((s++x).length=a/\1<=a/\a<=1000000)/\(s++x).length=(dp (s++x)).length/\(γa (ew.i .i64) (dp (s++x))).bi (γa (ew.i .i64) (dp (s++x)))) (by kernel_rfl) ?_;conv=>zeta
 try simp only[vcs]
 grind[pE]
def Eo:NG:=⟨109,List Int×Int,.cons (cO (.i .i64)) (.one (dX .i64)),λa=>a.1.length<=1000/\0<=a.2/\a.2<a.1.length,λa=> .row (.i .i64) (a.1.take a.2.toNat++a.1.drop (a.2+1).toNat)⟩
theorem Iv:Holds Tryz.prog Eo:=by
 refine j6 (L:=[]) (W:=fT [sQ,sP]) Eo lk (kd (by grind[sq,Is])) (by simp) ?_;rintro⟨s,i⟩ ⟨d,e,f⟩;simp only at d e f;refine NI (let a:=i+(1:Int);let c:=km s i.toNat a.toNat;let b:=s.length - (a - i).toNat;s.length<=1000000/\VL .i64 a/\((s.length=s.length/\1<=s.length/\s.length<=1000000)/\(0:Int)<=i/\i<=a/\a<=(↑s.length:Int))/\s.length=c.length/\0+b<=s.length/\(γa (ew.i .i64) (Δ b c)).bi (γa (ew.i .i64) (Δ i.toNat s++γ4 a.toNat s))) (by kernel_rfl) ?_;conv=>zeta
 try simp only[vcs]
 have g:=@Nf s i.toNat (i+1).toNat (by omega) (by omega);refine⟨by omega,by omega,by omega,g.symm,by omega,?_⟩;unfold km;rw[List.take_append_of_le_length (by grind),γu (by grind)]
def ql (c:List Int) (x:Int):Int:=if x∈c then(c.idxOf x:Int) else -1
theorem UU {c:List Int} {x:Int} {k:Nat} (h:k<c.length) (b:∀j:Nat,j<k->bN c j 0≠x) (a:bN c k 0=x):ql c x=k:=by
 unfold ql;rw[if_pos (a▸cA h)];congr 1;rw[bV h] at a;rw[List.idxOf,List.findIdx_eq h];grind[bV]
theorem UT {c:List Int} {x:Int} (a:∀j:Nat,j<c.length->bN c j 0≠x):ql c x= -1:=by
 unfold ql;rw[if_neg];intro h;obtain⟨k,b,rfl⟩:=List.getElem_of_mem h;grind[bV]
theorem US {c:List Int} {x:Int}:0<=ql c x↔x∈c:=by
 grind[ql]
def En:NG:=⟨148,List Int×Int,.cons (cO (.i .i64)) (.one (dX .i64)),λa=>a.1.length<=1000,λa=> .si .i64 (ql a.1 a.2)⟩
def UR (c:List Int) (x:Int):Nat->bJ
 |2=> .inv Int (λi=>⟨[(0,.row (.i .i64) c),(1,.si .i64 x),(7,.si .i64 c.length),(8,.si .i64 i)],[]⟩)
   (λs=>iS s 8) (λi=>(0<=i/\i<=c.length)/\∀k:Nat,(k:Int)<i->bN c k 0≠x) (λi=>(c.length - i).toNat) λ_ _=> .look
 |_=> .look
theorem Iq:Holds Tryz.prog En:=by
 refine bM (L:=[]) En (λa=>UR a.1 a.2) (by simp) ?_;rintro⟨c,x⟩ o;replace o:c.length<=1000:=o;refine NI (let a:=γj .i64;let h:=(0:Int);let f:=γa (ew.i .i64) c;let d:=(↑c.length:Int);let g:=a d;let n:=a (ql c x);(((f.bi f/\(a x).bi (a x)/\(a (↑c.length:Int)).bi g/\(γC .i64 0).bi (a 0)/\True)/\True)/\(h<=h/\h<=d)/\∀(k:Nat),(↑k:Int)<h->bN c k h≠x)/\∀(b:Int),let l:=decide (x=bN c b.toNat h);let e:=b+(1:Int);let j:=a x;let m:=a e;((h<=b/\b<=d)/\∀(k:Nat),(↑k:Int)<b->bN c k h≠x)->(decide (b<d)=true->h<=b/\b<(↑c.length:Int)/\b.toNat<c.length/\(l=true->(a b).bi n)/\(l=false->VL .i64 e/\((f.bi f/\j.bi j/\g.bi g/\m.bi m/\True)/\True)/\((h<=e/\e<=d)/\∀(k:Nat),(↑k:Int)<e->bN c k h≠x)/\(d - e).toNat<(d - b).toNat))/\(decide (b<d)=false->(γC .i64 (-1:Int)).bi n)) (by kernel_rfl) ?_;conv=>zeta
 try simp only[vcs]
 refine⟨⟨by omega,λk h=>by omega⟩,?_⟩;grind[UU,UT]
def Em:NG:=⟨110,List Int×Int,.cons (cO (.i .i64)) (.one (dX .i64)),λa=>a.1.length<=1000,λa=> .sb (decide (a.2∈a.1))⟩
theorem Iu:Holds Tryz.prog Em:=by
 refine bM (L:=[En]) Em lk (by grind[Iq]) ?_;rintro⟨c,x⟩ a;replace a:c.length<=1000:=a;refine NI (c.length<=1000/\(γB (decide ((0:Int)<=ql c x))).bi (γB (decide (x∈c)))) (by kernel_rfl) ?_;simp_all[US]
theorem yd {p:cj} (a:nW p=0) {r:Int}:0<=cC p r/\cC p r<=4:=by
 obtain⟨_,_,b,c,_⟩:=cL a;unfold cC;split;·omega
 ·split;all_goals simp_all[Fp]
theorem Nb {p:cj} (h:p.bj.length<=1000):lK (bW p):=by
 have j:nR p<=20:=by
  unfold nR;split
  ·rename_i a;have:=(cL a).1;omega
  ·omega
 have d:0<nR p->nW p=0:=by
  grind[nR]
 refine⟨⟨?_,?_,h⟩,λr f=>?_,λb g=>?_⟩
 ·show(kS p (nR p)).length=(jv p (nR p)).length;rw[Nd,zw]
 ·show(jv p (nR p)).length<=1000;grind[zw]
 ·obtain⟨k,c,rfl⟩:=Γ.1 (show r∈kS p (nR p) from f);rw[γD] at c;have a:=d (by omega);refine⟨by simp[gw,bW],λx i=>?_⟩;obtain⟨o,e,rfl⟩:=Γ.1 (show x∈gw p k p.bj.length from i);have:=nO (p:=p) (r:=k) ((cL a).2.2.2.2 o (γn e)).2.2.1;omega
 ·obtain⟨k,c,rfl⟩:=Γ.1 (show b∈jv p (nR p) from g);rw[γD] at c;have:=yd (d (by omega)) (r:=k);omega
def stepG (g:bY) (c:List Int) (x:Int):List Int:=if j9 g (dp (c++[x]))=true then dp (c++[x]) else c
def mP (g:bY) (l:List Int):List Int:=l.foldl (stepG g) []
def fS (p:cj):List Int:=if nW p=0 then sS p else[]
def jg (p:cj):List Int:=mP (bW p) (fS p)
theorem zq {l:List Int} {x:Int}:x∈dp l↔x∈l:=(δp _ _).mem_iff
theorem Na {g:bY} {c:List Int} {x y:Int} (h:y∈stepG g c x):y∈c\/y=x:=by
 grind[stepG,zq]
theorem UQ {g:bY} {c:List Int} {x:Int}:(stepG g c x).length<=c.length+1:=by
 grind[stepG,pE]
theorem M_ {g:bY} {l:List Int}:∀{c:List Int} {y:Int},y∈l.foldl (stepG g) c->y∈c\/y∈l:=by
 induction l<;>grind[Na]
theorem UP {g:bY} {l:List Int}:∀{c:List Int},(l.foldl (stepG g) c).length<=c.length+l.length:=by
 induction l<;>grind[stepG,UQ]
theorem UO {g:bY} {l:List Int}:(mP g l).length<=l.length:=by
 grind[UP,mP]
theorem UN {g:bY} {l:List Int} {i:Int} (a:0<=i) (h:i<l.length):mP g (l.take (i+1).toNat)=stepG g (mP g (l.take i.toNat)) (bN l i.toNat 0):=by
 grind[mP,ji]
theorem El {p:cj} {x:Int} (h:x∈fS p):nW p=0/\k_ p x:=by
 unfold fS at h;split at h
 ·rename_i a;rw[sS,ED,jh] at h;exact⟨a,h⟩
 ·simp at h
theorem M8 {p:cj}:(fS p).length<=p.bj.length:=by
 grind[fS,sS,qo,gQ]
theorem UM {p:cj} (d:p.bj.length<=20) {k:Nat}:(mP (bW p) ((fS p).take k)).length<=40/\∀x∈mP (bW p) ((fS p).take k),nW p=0/\k_ p x:=by
 have b:=@UO (bW p) ((fS p).take k);have c:=@M8 p;rw[γz] at b;refine⟨by omega,λx a=>?_⟩;rcases M_ a with h|h<;>grind[M_,El]
def yc:NG:=⟨55,cj,.one cV,λp=>p.bj.length<=20,λp=>kp.put ⟨jg p,cT (bW p) (jg p)⟩⟩
def UL (p:cj):Nat->bJ
 |4=> .inv Int (λi=>⟨[(2,.ptr 1 0 2),(3,.ptr 2 0 3),(4,.row (.i .i64) (mP (bW p) ((fS p).take i.toNat))),(11,.row (.i .i64) (fS p)),(12,.si .i64 (fS p).length),(13,.si .i64 i)],[.cells p.ss 27 20 false,.cells [.sc (.slice none 0 0),.il .i64 0] 40 2 false,.cells [.row (.Ap (.i .i64)) (bW p).rows,.row (.i .i64) (bW p).bounds,.row .bu (bW p).bj] 130 3 false,.dead]⟩)
   (λs=>iS s 13) (λi=>0<=i/\i<=(fS p).length) (λi=>((fS p).length - i).toNat) λ_ _=> .look
 |_=> .look
theorem ua:Holds Tryz.prog yc:=by
 refine bM (L:=[zu,Er,zr,zt,vG]) yc UL (by simpa using⟨yU,IE,yT,yS,qQ⟩) ?_;intro(p:cj) (hp:p.bj.length<=20);refine NI (let a:=γj .i64;let b:=γa;let c:=(0:Int);let d:=iZ.cells;let j:=γV 1 0 2;let k:=γV 2 0 3;let e:=ew.i .i64;let s:=if nW p=c then sS p else[];let o:=b e (fS p);let f:=(↑(fS p).length:Int);let q:=a f;let t:=γC .i64 0;let l:=d [a p.bm.a0,a p.bm.a1,a p.bm.a2,a p.bm.a3,a p.bm.a4,a p.bm.a5,a p.bs.a0,a p.bs.a1,a p.bs.a2,a p.bs.a3,a p.bs.a4,a p.bs.a5,a p.bt.a0,a p.bt.a1,a p.bt.a2,a p.bt.a3,a p.bt.a4,a p.bt.a5,b e p.bk,b ew.bu p.bj] 27 20 false;let m:=d [SV.sc (Value.slice none 0 0),t] 40 2 false;let n:=d [b e.Ap (bW p).rows,b e (bW p).bounds,b ew.bu (bW p).bj] 130 3 false;True/\0=0/\p.bj.length<=20/\(((j.bi j/\k.bi k/\(b e []).bi (b e (mP (bW p) []))/\(b e s).bi o/\(a (↑s.length:Int)).bi q/\t.bi (a 0)/\True)/\l.bi l/\m.bi m/\n.bi n/\iZ.dead.bi iZ.dead/\True)/\c<=c/\c<=f)/\∀(x:Int),let g:=mP (bW p) (Δ x.toNat (fS p));let r:=dp (g++[bN (fS p) x.toNat c]);let h:=x+(1:Int);let v:=a h;let w:=λ(u:Bool) (u_1:List Int) ↦j9 (bW p) r=u->VL .i64 h/\((j.bi j/\k.bi k/\(b e u_1).bi (b e (mP (bW p) (Δ h.toNat (fS p))))/\o.bi o/\q.bi q/\v.bi v/\True)/\l.bi l/\m.bi m/\n.bi n/\iZ.dead.bi iZ.dead/\True)/\(c<=h/\h<=f)/\(f - h).toNat<(f - x).toNat;c<=x/\x<=f->(decide (x<f)=true->c<=x/\x<(↑(fS p).length:Int)/\x.toNat<(fS p).length/\(g.length<=1000/\1<=1/\1<=1000)/\(lK (bW p)/\nc (bW p) r)/\w true r/\w false g)/\(decide (x<f)=false->(lK (bW p)/\nc (bW p) g/\nK (bW p) g)/\(γN [b e g,a (cT (bW p) g)]).bi (γN [b e (jg p),a (cT (bW p) (jg p))]))) (by kernel_rfl) ?_;conv=>zeta
 try simp only[vcs]
 have hg:=@Nb p (by omega);have hol:=@M8 p;have e0:(if nW p=0 then sS p else[])=fS p:=rfl;rw[e0];refine⟨hp,⟨⟨rfl,rfl,rfl⟩,by omega,by omega⟩,?_⟩
 ·rintro i ⟨i0,i1⟩;obtain⟨hsl,hsm⟩:=@UM p hp i.toNat;refine⟨λhi=>?_,λhi=>?_⟩
  ·have hs:=@UN (bW p) (fS p) i i0 hi;have hx:=El (cA (d:=0) (show i.toNat<(fS p).length by omega));rw[hs];generalize mP (bW p) ((fS p).take i.toNat)=c at*;refine⟨i0,hi,by omega,⟨by omega,by omega,by omega⟩,⟨hg,by rw[pE,γh];simp;omega,λx h=>?_⟩,λh=>⟨by omega,by unfold stepG;rw[if_pos h],by omega,by omega⟩,λh=>⟨by omega,by unfold stepG;rw[if_neg (by rw[h];simp)],by omega,by omega⟩⟩;rw[zq,γi] at h;rcases h with h|h;·exact(hsm x h).2
   ·rw[List.mem_singleton] at h;rw[h];exact hx.2
  ·have hk:(fS p).take i.toNat=fS p:=γu (by omega);rw[hk] at hsl hsm ⊢;refine⟨⟨hg,⟨by omega,λx h=>(hsm x h).2⟩,λx h=>?_⟩,rfl⟩;obtain⟨hc,hx⟩:=hsm x h;have:=(xJ hc hx).1;have e:(bN (bW p).bj x.toNat ew.bu.bw).value=pF p x:=rfl;rw[e];omega
def ph (g:bY):List SV:=[.row (.Ap (.i .i64)) g.rows,.row (.i .i64) g.bounds,.row .bu g.bj]
def Ek:List SV->Option bY
 |[r,v,x]=>match iH (.Ap (.i .i64)) r,iH (.i .i64) v,iH .bu x with
  |some c,some v,some x=>some ⟨c,v,x⟩
  |_,_,_=>none
 |_=>none
theorem UK {cs:List SV} {g:bY} (h:Ek cs=some g):gL cs=gL (ph g):=by
 unfold Ek at h;grind[ph,gL,nl]
theorem UJ {g a:bY} (h:gL (ph g)=gL (ph a)):g=a:=ye.inj g a (by
 show AV.agg (gL (ph g))=AV.agg (gL (ph a));rw[h])
def lJ (g:bY) (v:Int) (c:List Int):Bool:=decide (v<cT g c)&&j9 g c
def Ej:cU where
 f:=108;α:=List Int×bY×Int;put a:=[.row (.i .i64) a.1,.ptr 0 0 3,.ptr 1 0 1];st a:=[.cells (ph a.2.1) 130 3 false,.cells [.si .i64 a.2.2] 2 1 false];dec v o:=match v,o with
  |[x,.ptr 0 0 3,.ptr 1 0 1],[.cells cs 130 3 false,.cells [y] 2 1 false]=>match iH (.i .i64) x,Ek cs,y.int .i64 with
   |some x,some g,some y=>some (x,g,y)
   |_,_,_=>none
  |_,_=>none;ok v o a h:=by
  split at h
  ·split at h
   ·rename_i h1 h2 h3;simp only[γ] at h;subst h;refine⟨by simp only[gL,nl h1],?_⟩;simp only[gO,ξ,γw,iZ.g,UK h2,gL,gT h3];rfl
   ·cases h
  ·cases h
 inj a b h1 h2:=by
  simp only[gL,Θ,and_true,γF,δ7] at h1;simp only[gO,ξ,γw,iZ.g,Θ,OL.cells.injEq,and_true,gL,γF,δe,Value.int.injEq,true_and] at h2;have h3:=UJ h2.1;have h4:=kq (.i .i64) h1.1 h1.2;exact εE h4 (εE h3 h2.2)
 dom a:=lK a.2.1/\nc a.2.1 a.1/\nK a.2.1 a.1;res a:=.sb (lJ a.2.1 a.2.2 a.1);out a:=[.cells (ph a.2.1) 130 3 false,.cells [.si .i64 a.2.2] 2 1 false]
theorem Iw:dB Tryz.prog Ej:=by
 refine ko (L:=[zt,vG]) (W:=[]) Ej lk (by simp) (by grind[yS,qQ]) ?_;rintro⟨c,g,v⟩ ⟨j,f,h⟩;simp only at j f h;refine NI (let f:=γa;let e:=iZ.cells [f (ew.i .i64).Ap g.rows,f (ew.i .i64) g.bounds,f ew.bu g.bj] 130 3 false;let a:=iZ.cells [γj .i64 v] 2 1 false;let b:=decide (v<cT g c);let d:=e.bi e/\a.bi a/\True;(lK g/\nc g c/\nK g c)/\(b=true->(lK g/\nc g c)/\(γB (j9 g c)).bi (γB (lJ g v c))/\d)/\(b=false->(δj false).bi (γB (lJ g v c))/\d)) (by kernel_rfl) ?_;simp_all[vcs,lJ,decide_eq_false]
def nI (g:bY) (c:List Int) (v:Int) (a:List Int) (o k:Int):Option (List Int):=if k<=o\/k∈c then none else if lJ g v (dp (a++[o,k]))=true then some (dp (a++[o,k])) else none
def lH (g:bY) (c:List Int) (v:Int) (a:List Int) (o:Int):Option (List Int):=if o∈c then none else if lJ g v (dp (a++[o]))=true then some (dp (a++[o])) else(ω g.bj.length).findSome? λk:Nat=>nI g c v a o k
def gP (c:List Int) (i:Nat):List Int:=c.take i++c.drop (i+1)
def um (g:bY) (c:List Int) (v:Int) (i:Nat):Option (List Int):=(ω g.bj.length).findSome? λo:Nat=>lH g c v (gP c i) o
def gY (g:bY) (c:List Int):Option (List Int):=(ω c.length).findSome? λi=>um g c (cT g c) i
theorem zp {n:Nat} {f:Nat->Option (List Int)} (h:∀i,i<n->f i=none):(ω n).findSome? f=none:=by
 simp_all
theorem zo {n i:Nat} {f:Nat->Option (List Int)} {t:List Int} (c:i<n) (h:∀j,j<i->f j=none) (b:f i=some t):(ω n).findSome? f=some t:=by
 have e:ω n=ω i++(i::(ω (n - (i+1))).map λk=>i+1+k):=by
  have a:=@List.range_add i (n - i);rw[show i+(n - i)=n by omega] at a;rw[a,show n - i=(n - (i+1))+1 by omega,List.range_succ_eq_map];simp only[ξ,γP,Nat.add_zero];congr 2;apply γI;grind
 simp_all[zp]
def rC (g:bY):Prop:=lK g/\∀o∈g.bj,0<=o.value/\o.value<=1000000
def Ei:NG:=⟨74,bY×List Int,.cons ye (.one (cO (.i .i64))),λa=>rC a.1/\(a.2.length<=900/\∀x∈a.2,0<=x/\x<a.1.bj.length),λa=> .Gz [.row (.i .i64) ((gY a.1 a.2).getD []),.sb (gY a.1 a.2).isSome]⟩
def Eh (g:bY) (c:List Int):TP:=[.cells (ph g) 130 3 false,.cells [.si .i64 (cT g c)] 2 1 false]
def UI (g:bY) (c:List Int):Nat->bJ
 |4=> .inv Int (λi=>⟨[(1,.row (.i .i64) c),(2,.ptr 0 0 3),(7,.fn (.func 108) [] [.ptr 0 0 3,.ptr 1 0 1]),(19,.si .i64 c.length),(20,.si .i64 i)],Eh g c⟩)
   (λs=>iS s 20) (λi=>(0<=i/\i<=c.length)/\∀k:Nat,(k:Int)<i->um g c (cT g c) k=none) (λi=>(c.length - i).toNat) λi k=>match k with
   |8=> .inv Int (λo=>⟨[(1,.row (.i .i64) c),(2,.ptr 0 0 3),(7,.fn (.func 108) [] [.ptr 0 0 3,.ptr 1 0 1]),(9,.row (.i .i64) (gP c i.toNat)),(19,.si .i64 c.length),(20,.si .i64 i),(28,.si .i64 g.bj.length),(29,.si .i64 o)],Eh g c⟩)
     (λs=>iS s 29) (λo=>(0<=o/\o<=g.bj.length)/\∀k:Nat,(k:Int)<o->lH g c (cT g c) (gP c i.toNat) k=none) (λo=>(g.bj.length - o).toNat) λo k=>match k with
     |15=> .inv Int (λz=>⟨[(1,.row (.i .i64) c),(2,.ptr 0 0 3),(7,.fn (.func 108) [] [.ptr 0 0 3,.ptr 1 0 1]),(9,.row (.i .i64) (gP c i.toNat)),(10,.si .i64 o),(12,.si .i64 z),(19,.si .i64 c.length),(20,.si .i64 i),(28,.si .i64 g.bj.length),(29,.si .i64 o)],Eh g c⟩)
       (λs=>iS s 12) (λz=>(o<z/\z<=g.bj.length)/\∀k:Nat,(k:Int)<z->nI g c (cT g c) (gP c i.toNat) o k=none) (λz=>(g.bj.length - z).toNat) λ_ _=> .look
     |_=> .look
   |_=> .look
 |_=> .look
theorem Iz:Holds Tryz.prog Ei:=by
 refine j6 (L:=[zr,vG,Eo,Em]) (W:=fT [Ej]) Ei (λa=>UI a.1 a.2) (kd (by simpa using Iw)) (by simpa using⟨yT,qQ,Iv,Iu⟩) ?_;rintro⟨g,c⟩ ⟨⟨hg,hv⟩,hcl,hci⟩;simp only at hg hv hcl hci;refine NI (let a:=γj .i64;let b:=γa;let d:=(0:Int);let e:=VL .i64;let f:=γC .i64 0;let h:=SV.Gz;let j:=(1:Int);let l:=ew.i .i64;let n:=γV 0 0 3;let p:=SV.fn (Fn.func 108) [] [n,γV 1 0 1];let u:=(↑c.length:Int);let s:=a u;let q:=iZ.cells [b l.Ap g.rows,b l g.bounds,b ew.bu g.bj] 130 3 false;let r:=iZ.cells [a (cT g c)] 2 1 false;let F:=(↑g.bj.length:Int);let m:=(↑g.bj.length:Int);let v:=a m;let G:=h [b l ((gY g c).getD []),γB (gY g c).isSome];(lK g/\nc g c/\nK g c)/\((((b l c).bi (b l c)/\n.bi n/\p.bi p/\(a (↑c.length:Int)).bi s/\(f).bi (a 0)/\True)/\q.bi q/\r.bi r/\True)/\(d<=d/\d<=u)/\∀(k:Nat),(↑k:Int)<d->um g c (cT g c) k=none)/\∀(x:Int),let z:=x+j;let t:=gP c x.toNat;let w:=b l t;let H:=a z;((d<=x/\x<=u)/\∀(k:Nat),(↑k:Int)<x->um g c (cT g c) k=none)->(decide (x<u)=true->(c.length<=1000/\d<=x/\x<u)/\((((b l c).bi (b l c)/\n.bi n/\p.bi p/\(b l (Δ x.toNat c++γ4 z.toNat c)).bi w/\s.bi s/\(a x).bi (a x)/\(a F).bi v/\(f).bi (a 0)/\True)/\q.bi q/\r.bi r/\True)/\(d<=d/\d<=m)/\∀(k:Nat),(↑k:Int)<d->lH g c (cT g c) t (↑k:Int)=none)/\∀(x_1:Int),let o:=x_1+j;let y:=a x;let A:=a o;let C:=dp (t++[x_1]);let I:=lJ g (cT g c) C;((d<=x_1/\x_1<=m)/\∀(k:Nat),(↑k:Int)<x_1->lH g c (cT g c) t (↑k:Int)=none)->(decide (x_1<m)=true->c.length<=1000/\(decide (x_1∈c)=true->e o/\(((b l c).bi (b l c)/\n.bi n/\p.bi p/\w.bi w/\s.bi s/\y.bi y/\v.bi v/\A.bi A/\True)/\q.bi q/\r.bi r/\True)/\((d<=o/\o<=m)/\∀(k:Nat),(↑k:Int)<o->lH g c (cT g c) t (↑k:Int)=none)/\(m - o).toNat<(m - x_1).toNat)/\(decide (x_1∈c)=false->(t.length<=1000/\1<=1/\1<=1000)/\(lK g/\nc g C/\nK g C)/\(I=true->(h [b l C,δj true]).bi G)/\(I=false->e o/\((((b l c).bi (b l c)/\n.bi n/\p.bi p/\w.bi w/\(a x_1).bi (a x_1)/\A.bi A/\s.bi s/\y.bi y/\v.bi v/\(a x_1).bi (a x_1)/\True)/\q.bi q/\r.bi r/\True)/\(x_1<o/\o<=m)/\∀(k:Nat),(↑k:Int)<o->nI g c (cT g c) t x_1 (↑k:Int)=none)/\∀(x:Int),let B:=x+j;let D:=a x_1;let J:=a B;let E:=dp (t++[x_1,x]);let K:=lJ g (cT g c) E;let L:=e B/\(((b l c).bi (b l c)/\n.bi n/\p.bi p/\w.bi w/\D.bi D/\J.bi J/\s.bi s/\y.bi y/\v.bi v/\D.bi D/\True)/\q.bi q/\r.bi r/\True)/\((x_1<B/\B<=m)/\∀(k:Nat),(↑k:Int)<B->nI g c (cT g c) t x_1 (↑k:Int)=none)/\(m - B).toNat<(m - x).toNat;((x_1<x/\x<=m)/\∀(k:Nat),(↑k:Int)<x->nI g c (cT g c) t x_1 (↑k:Int)=none)->(decide (x<F)=true->c.length<=1000/\(decide (x∈c)=true->L)/\(decide (x∈c)=false->(t.length<=1000/\1<=2/\2<=1000)/\(lK g/\nc g E/\nK g E)/\(K=true->(h [b l E,δj true]).bi G)/\(K=false->L)))/\(decide (x<F)=false->e o/\(((b l c).bi (b l c)/\n.bi n/\p.bi p/\w.bi w/\s.bi s/\y.bi y/\v.bi v/\A.bi A/\True)/\q.bi q/\r.bi r/\True)/\((d<=o/\o<=m)/\∀(k:Nat),(↑k:Int)<o->lH g c (cT g c) t (↑k:Int)=none)/\(m - o).toNat<(m - x_1).toNat))))/\(decide (x_1<m)=false->e z/\(((b l c).bi (b l c)/\n.bi n/\p.bi p/\s.bi s/\H.bi H/\True)/\q.bi q/\r.bi r/\True)/\((d<=z/\z<=u)/\∀(k:Nat),(↑k:Int)<z->um g c (cT g c) k=none)/\(u - z).toNat<(u - x).toNat))/\(decide (x<u)=false->(h [b l [],δj false]).bi G)) (by kernel_rfl) ?_;conv=>zeta
 try simp only[vcs]
 have hvo:∀d:List Int,(∀x∈d,0<=x/\x<g.bj.length)->nK g d:=λd hd x hx=>hv _ (cA (by have:=hd x hx;omega));have hout:∀i:Nat,(gP c i).length<=900/\∀x∈gP c i,x∈c:=λi=>by
  unfold gP;refine⟨by rw[γh,γz,List.length_drop];omega,λx hx=>?_⟩;rw[γi] at hx;exact hx.elim γn γY
 have hnew:∀(i:Nat) (d:List Int),d.length<=2->(∀x∈d,0<=x/\x<g.bj.length)->lK g/\nc g (dp (gP c i++d))/\nK g (dp (gP c i++d)):=λi d hd hx=>by
  have h2:∀x∈dp (gP c i++d),0<=x/\x<g.bj.length:=λx h=>by
   rw[zq,γi] at h;exact h.elim (λh=>hci x ((hout i).2 x h)) (hx x)
  have:=(hout i).1;exact⟨hg,⟨by rw[pE,γh];omega,h2⟩,hvo _ h2⟩
 have hg1:=hg.1;refine⟨⟨hg,⟨by omega,hci⟩,hvo c hci⟩,⟨by omega,λk h=>by omega⟩,?_⟩;rintro i ⟨⟨i0,i1⟩,hi⟩;refine⟨λhil=>⟨⟨by omega,i0,hil⟩,⟨by unfold gP;rw[show(i+1).toNat=i.toNat+1 by omega],by omega,λk h=>by omega⟩,?_⟩,λhil=>?_⟩
 ·have ho:=hout i.toNat;have bp:∀t,um g c (cT g c) i.toNat=some t->gY g c=some t:=λt ht=>zo (i:=i.toNat) (by omega) (λj hj=>hi j (by omega)) ht;rintro o ⟨⟨o0,o1⟩,hk⟩;refine⟨λhol=>⟨by omega,λhin=>⟨by omega,⟨by omega,λk h=>?_⟩,by omega⟩,λhin=>⟨by omega,hnew _ _ (by simp) (by simp;omega),λhb=>?_,λhb=>⟨by omega,⟨by omega,λk h=>?_⟩,?_⟩⟩⟩,λhol=>⟨by omega,⟨by omega,λk h=>?_⟩,by omega⟩⟩
  ·by_cases h2:(k:Int)<o;·exact hk k h2
   ·rw[show(k:Int)=o by omega];unfold lH;rw[if_pos hin]
  ·have h2:lH g c (cT g c) (gP c i.toNat) o=some (dp (gP c i.toNat++[o])):=by
    unfold lH;rw[if_neg hin,if_pos hb]
   have h3:=bp _ (zo (f:=λo:Nat=>lH g c (cT g c) (gP c i.toNat) o) (i:=o.toNat) (by omega) (λj hj=>hk j (by omega)) (by simp only[show((o.toNat:Nat):Int)=o by omega];exact h2));rw[h3];exact⟨rfl,rfl⟩
  ·unfold nI;rw[if_pos (.inl (by omega))]
  ·rintro z ⟨⟨z0,z1⟩,hz⟩;refine⟨λhzl=>⟨by omega,λhin2=>⟨by omega,⟨by omega,λk h=>?_⟩,by omega⟩,λhin2=>⟨by omega,hnew _ _ (by simp) (by simp;omega),λhb2=>?_,λhb2=>⟨by omega,⟨by omega,λk h=>?_⟩,by omega⟩⟩⟩,λhzl=>⟨by omega,⟨by omega,λk h=>?_⟩,by omega⟩⟩
   ·by_cases h2:(k:Int)<z;·exact hz k h2
    ·rw[show(k:Int)=z by omega];unfold nI;rw[if_pos (.inr hin2)]
   ·have h4:¬z<=o:=by omega
    have h5:nI g c (cT g c) (gP c i.toNat) o z=some (dp (gP c i.toNat++[o,z])):=by
     unfold nI;rw[if_neg (λh=>h.elim h4 hin2),if_pos hb2]
    have h2:lH g c (cT g c) (gP c i.toNat) o=some (dp (gP c i.toNat++[o,z])):=by
     unfold lH;rw[if_neg hin,if_neg (by rw[hb];simp)];exact zo (f:=λk:Nat=>nI g c (cT g c) (gP c i.toNat) o k) (i:=z.toNat) (by omega) (λj hj=>hz j (by omega)) (by simp only[show((z.toNat:Nat):Int)=z by omega];exact h5)
    have h3:=bp _ (zo (f:=λo:Nat=>lH g c (cT g c) (gP c i.toNat) o) (i:=o.toNat) (by omega) (λj hj=>hk j (by omega)) (by simp only[show((o.toNat:Nat):Int)=o by omega];exact h2));rw[h3];exact⟨rfl,rfl⟩
   ·by_cases h2:(k:Int)<z;·exact hz k h2
    ·rw[show(k:Int)=z by omega];unfold nI;rw[hb2];simp
   ·by_cases h2:(k:Int)<o;·exact hk k h2
    ·rw[show(k:Int)=o by omega];unfold lH;rw[if_neg hin,if_neg (by rw[hb];simp)];exact zp λj hj=>hz j (by omega)
  ·by_cases h2:(k:Int)<i;·exact hi k h2
   ·rw[show k=i.toNat by omega];exact zp λj hj=>hk j (by omega)
 ·have:gY g c=none:=zp λj hj=>hi j (by omega);rw[this];exact⟨rfl,rfl⟩
def dj (n:Nat) (c:List Int):Prop:=c.Pairwise (·<·)/\∀x∈c,0<=x/\x<n
theorem Eg {n:Nat}:∀{c:List Int} {a:Int},a<=n->c.Pairwise (·<·)->(∀x∈c,a<=x/\x<n)->(c.length:Int)<=n - a
 |[],a,e,_,_=>by simp;omega;|x::c,a,e,h,b=>by
  have f:=b x (by simp);rw[γr] at h;have:=@Eg n c (x+1) (by omega) h.2 λy d=>⟨by grind,(b y (by simp[d])).2⟩;grind
theorem qk {n:Nat} {c:List Int} (h:dj n c):c.length<=n:=by
 have:=Eg (n:=n) (a:=0) (by omega) h.1 h.2;omega
theorem Ef {n:Nat} {c:List Int} (f:c.Nodup) (e:∀x∈c,0<=x/\x<n):dj n (dp c):=by
 refine⟨?_,λx i=>e x (zq.1 i)⟩;have g:(dp c).Pairwise (·<=·):=by
  have:=δK (le:=λx y:Int=>decide (x<=y)) (λa b d f e=>by grind) (λa b=>by simp;omega) c;exact this.imp λh=>of_decide_eq_true h
 have j:(dp c).Pairwise (·≠·):=(δp _ _).symm.nodup f;exact(g.and j).imp λh=>by omega
theorem vF {n:Nat} {c:List Int} (h:dj n c):c.Nodup:=h.1.imp λh=>by omega
theorem M7 {c:List Int} {i:Nat}:(gP c i).Sublist c:=by
 unfold gP;rw[List.drop_add_one_eq_tail_drop];have:=(List.Sublist.refl (c.take i)).append (List.tail_sublist (c.drop i));simp_all
theorem vE {g:bY} {c t:List Int} (h:gY g c=some t) (d:dj g.bj.length c):lJ g (cT g c) t=true/\dj g.bj.length t:=by
 obtain⟨i,l,h⟩:=δZ h;obtain⟨o,m,h⟩:=δZ h;rw[γD] at l m;have f:(gP c i).Nodup:=(vF d).sublist M7;have b:∀x∈gP c i,x∈c:=λx a=>M7.subset a;unfold lH at h;split at h;·cases h
 ·rename_i p;split at h
  ·rename_i e;injection h with h;subst h;refine⟨e,Ef ?_ λx a=>?_⟩;·grind
   ·rw[γi] at a;rcases a with a|a;·exact d.2 x (b x a)
    simp_all
  ·obtain⟨k,j,h⟩:=δZ h;rw[γD] at j;unfold nI at h;split at h;·cases h
   ·rename_i n;split at h
    ·rename_i e;injection h with h;subst h;refine⟨e,Ef ?_ λx a=>?_⟩;·grind
     ·rw[γi] at a;rcases a with a|a;·exact d.2 x (b x a)
      grind
    ·cases h
def kQ (g:bY):Nat->List Int->List Int
 |0,c=>c
 |n+1,c=>match gY g c with
  |some t=>kQ g n t
  |none=>c
def jR (g:bY) (c:List Int):List Int:=kQ g (1000000000 - cT g c).toNat c
theorem pD {g:bY} (a:rC g) {c:List Int} (h:dj g.bj.length c):0<=cT g c/\cT g c<=1000000000:=by
 have d:=Ep (f:=λx=>(bN g.bj x.toNat ew.bu.bw).value) (c:=c) (k:=c.length) (m:=1000000) (by omega) λx b=>a.2 _ (cA (by have:=h.2 x b;omega));rw[φ] at d;have e:=qk h;have i:=a.1.1.2.2;grind[cT]
theorem UH {g:bY} (d:rC g):∀{n m:Nat} {c:List Int},dj g.bj.length c->(1000000000 - cT g c).toNat<=n->(1000000000 - cT g c).toNat<=m->kQ g n c=kQ g m c:=by
 intro n;induction n with
 |zero=>
  intro m c a k j;have h:=pD d a;cases m with
  |zero=>rfl;|succ m=>
   unfold kQ;cases f:gY g c with
   |none=>rfl;|some t=>
    obtain⟨b,e⟩:=vE f a;have i:=pD d e;unfold lJ at b;grind
 |succ n l=>
  intro m c a k j;have h:=pD d a;cases f:gY g c with
  |none=>
   cases m<;>grind[kQ];|some t=>
   obtain⟨b,e⟩:=vE f a;have i:=pD d e;unfold lJ at b;simp only[θ,decide_eq_true_eq] at b;cases m<;>grind[kQ]
theorem UG {g:bY} (d:rC g) {c t:List Int} (b:dj g.bj.length c) (h:gY g c=some t):jR g c=jR g t:=by
 obtain⟨a,e⟩:=vE h b;have f:=pD d b;have i:=pD d e;unfold lJ at a;simp only[θ,decide_eq_true_eq] at a;unfold jR;rw[show(1000000000 - cT g c).toNat=((1000000000 - cT g c).toNat - 1)+1 by omega];grind[kQ,UH]
theorem M5 {g:bY} {c:List Int} (h:gY g c=none):jR g c=c:=by
 unfold jR;generalize (1000000000 - cT g c).toNat=n;cases n<;>grind[kQ]
def UF (p:cj) (c:List Int):Prop:=nW p=0/\dj p.bj.length c
theorem Lz {p:cj} (c:nW p=0):rC (bW p):=by
 have a:=cL c;refine⟨Nb (by have:=a.2.1;omega),λo b=>?_⟩;have:=a.2.2.2.2 o b;omega
theorem E4 {l:List bC}:∀{c:List Int} {a:Int}, -1<=a->(dA l a c).isSome=true->c.Pairwise (·<·)/\∀x∈c,a<x/\x<l.length
 |[],a,_,_=>⟨δv,by simp⟩
 |i::c,a,f,h=>by
  simp only[dA] at h;split at h;·simp at h
  ·rename_i g;rw[Option.isSome_map] at h;obtain⟨d,e⟩:=@E4 l c i (by omega) h;refine⟨γr.2 ⟨λx b=>(e x b).1,d⟩,λx b=>?_⟩;grind
theorem rB {p:cj} {c:List Int} (h:bT p c=0):UF p c:=by
 unfold bT at h;split at h;·omega
 ·rename_i b;split at h;·cases h
  ·rename_i d;have a:=@E4 p.bj c (-1) (by omega) (by grind[eG]);exact⟨γe.1 b,a.1,λx e=>by grind⟩
def fA (p:cj) (c:List Int):bB:=if bT p c=0 then⟨jR (bW p) c,cT (bW p) (jR (bW p) c)⟩ else⟨[],0⟩
def yb:NG:=⟨54,cj×bB,.cons cV (.one kp),λa=>a.2.bn.length<=9223372036854775807,λa=>kp.put (fA a.1 a.2.bn)⟩
def UE (p:cj) (a:bB):Nat->bJ
 |6=> .inv (List Int×List Int×Bool) (λx=>⟨[(4,.ptr 2 0 2),(5,.ptr 3 0 3),(6,.row (.i .i64) x.1),(7,.row (.i .i64) x.2.1),(8,.sb x.2.2)],[.cells p.ss 27 20 false,.cells [.row (.i .i64) a.bn,.si .i64 a.value] 40 2 false,.cells [.sc (.slice none 0 0),.il .i64 0] 40 2 false,.cells (ph (bW p)) 130 3 false]⟩)
   (λs=>(rS (.i .i64) s 6,rS (.i .i64) s 7,bS s 8)) (λx=>dj p.bj.length x.1/\(x.2.1=(gY (bW p) x.1).getD []/\x.2.2=(gY (bW p) x.1).isSome)/\jR (bW p) x.1=jR (bW p) a.bn) (λx=>(1000000000 - cT (bW p) x.1).toNat) λ_ _=> .look
 |_=> .look
theorem t_:Holds Tryz.prog yb:=by
 refine bM (L:=[vQ,zu,yf,Ei,vG]) yb (λa=>UE a.1 a.2) (by simpa using⟨qZ,yU,yR,Iz,qQ⟩) ?_;rintro⟨p,⟨c,v⟩⟩ hl;replace hl:c.length<=9223372036854775807:=hl;refine NI (let a:=γj .i64;let b:=γa;let d:=iZ.cells;let e:=(1000000000:Int);let f:=(0:Int);let g:=γB;let h:=γN;let y:=decide (bT p c≠f);let j:=ew.i .i64;let z:=[γC .i64 0];let A:=h [b j (fA p c).bn,a (fA p c).value];let l:=γV 2 0 2;let m:=γV 3 0 3;let n:=(gY (bW p) c).getD [];let o:=(gY (bW p) c).isSome;let q:=d [a p.bm.a0,a p.bm.a1,a p.bm.a2,a p.bm.a3,a p.bm.a4,a p.bm.a5,a p.bs.a0,a p.bs.a1,a p.bs.a2,a p.bs.a3,a p.bs.a4,a p.bs.a5,a p.bt.a0,a p.bt.a1,a p.bt.a2,a p.bt.a3,a p.bt.a4,a p.bt.a5,b j p.bk,b ew.bu p.bj] 27 20 false;let r:=d [b j c,a v] 40 2 false;let s:=d (SV.sc (Value.slice none 0 0)::z) 40 2 false;let t:=d [b j.Ap (bW p).rows,b j (bW p).bounds,b ew.bu (bW p).bj] 130 3 false;let w:=p.bj.length;let u:=jR (bW p) c;c.length<=9223372036854775807/\(y=true->(h (b j []::z)).bi A)/\(y=false->True/\c.length<=1000000/\(rC (bW p)/\c.length<=900/\∀(x:Int),x∈c->f<=x/\x<(↑(bW p).bj.length:Int))/\(((l.bi l/\m.bi m/\(b j c).bi (b j c)/\(b j n).bi (b j n)/\(g o).bi (g o)/\True)/\q.bi q/\r.bi r/\s.bi s/\t.bi t/\True)/\dj w c/\(n=n/\o=o)/\u=u)/\∀(x:List Int×List Int×Bool),let k:=gY (bW p) x.2.1;let B:=b j (k.getD []);let C:=cT (bW p) x.1;dj w x.1/\(x.2.1=(gY (bW p) x.1).getD []/\x.2.2=(gY (bW p) x.1).isSome)/\jR (bW p) x.1=u->(x.2.2=true->(rC (bW p)/\x.2.1.length<=900/\∀(x_1:Int),x_1∈x.2.1->f<=x_1/\x_1<(↑(bW p).bj.length:Int))/\((l.bi l/\m.bi m/\(b j x.2.1).bi (b j x.2.1)/\B.bi B/\(g k.isSome).bi (g k.isSome)/\True)/\q.bi q/\r.bi r/\s.bi s/\t.bi t/\True)/\(dj w x.2.1/\(k.getD []=k.getD []/\k.isSome=k.isSome)/\jR (bW p) x.2.1=u)/\(e - cT (bW p) x.2.1).toNat<(e - C).toNat)/\(x.2.2=false->(lK (bW p)/\nc (bW p) x.1/\nK (bW p) x.1)/\(h [b j x.1,a C]).bi A))) (by kernel_rfl) ?_;conv=>zeta
 try simp only[vcs]
 refine⟨by omega,λh=>by simp only[fA,if_neg h];rfl,λh=>?_⟩;have hf:bT p c=0:=γe.1 h;obtain⟨hc,ha⟩:=rB hf;have hg:=Lz hc;have h160:=(cL hc).2.1;have hval:∀d,dj p.bj.length d->lK (bW p)/\nc (bW p) d/\nK (bW p) d:=λd hd=>by
  have h1:=qk hd;exact⟨hg.1,⟨by omega,hd.2⟩,λx hx=>hg.2 _ (cA (by have:=hd.2 x hx;show x.toNat<p.bj.length;omega))⟩
 have hlen:=qk ha;refine⟨by omega,⟨hg,by omega,ha.2⟩,ha,?_⟩;rintro⟨d,t,b⟩ ⟨hd,⟨ht,hb⟩,hi⟩;simp only at hd ht hb hi ⊢;have hdl:=qk hd;refine⟨λhbt=>?_,λhbf=>?_⟩
 ·rw[hbt] at hb;obtain⟨t',he⟩:=Option.isSome_iff_exists.1 hb.symm;rw[he] at ht;simp only[Option.getD_some] at ht;subst ht;obtain⟨h1,h2⟩:=vE he hd;have h3:=qk h2;have h3':t.length<=p.bj.length:=h3;have hb2:=pD hg h2;have hb1:=pD hg (c:=d) hd;unfold lJ at h1;simp only[θ,decide_eq_true_eq] at h1;exact⟨⟨hg,by omega,h2.2⟩,⟨h2,by rw[<-UG hg hd he];exact hi⟩,by omega⟩
 ·rw[hbf] at hb;have he:gY (bW p) d=none:=by
   cases hh:gY (bW p) d with
   |none=>rfl;|some t=>rw[hh] at hb;cases hb
  refine⟨hval d hd,?_⟩;have h1:jR (bW p) c=d:=by rw[<-hi,M5 he]
  simp only[fA,if_pos hf,h1];rfl
theorem Ly {l:List bC}:∀{c:List Int} {a:Int}, -1<=a->c.Pairwise (·<·)->(∀x∈c,a<x/\x<l.length)->dA l a c=some (c.map λx=>bN l x.toNat ew.bu.bw)
 |[],_,_,_,_=>rfl
 |i::c,a,f,h,d=>by
  rw[γr] at h;have e:=d i (by simp);simp only[dA];rw[if_neg (by omega),@Ly l c i (by omega) h.2 λx b=>⟨h.1 x b,(d x (by simp[b])).2⟩];rfl
theorem zn {p:cj} {c:List Int} (h:dj p.bj.length c):dA p.bj (-1) c=some (c.map (oI p)):=Ly (by omega) h.1 λx a=>by have:=h.2 x a;omega
theorem E3 {p:cj} (l:nW p=0) {c:List Int} (h:dj p.bj.length c):bT p c=0↔j9 (bW p) c=true:=by
 have k:=zn h;have n:eG p c=true:=by grind[eG]
 have i:cK p c=c.map (oI p):=by grind[cK]
 have m:fi p (c.map (oI p))=j9 (bW p) c:=by
  have f:nR p=p.bk.length+12:=by simp_all[nR]
  have g:(bW p).bounds.length=p.bk.length+12:=by show(jv p (nR p)).length=_;rw[zw,f]
  unfold fi j9;rw[g];have d:∀r:Nat,r<p.bk.length+12->bN (bW p).bounds r 0=cC p r/\kR (bW p) c r=bZ p (c.map (oI p)) r:=λr j=>by
   refine⟨?_,?_⟩
   ·show bN (jv p (nR p)) r 0=_;grind[bV,jv]
   ·have a:bN (bW p).rows r []=gw p r p.bj.length:=by
     show bN (kS p (nR p)) r []=_;grind[bV,kS]
    unfold kR bZ;rw[a,γP];congr 1;refine γI λx b=>?_;have:=h.2 x b;have e:x.toNat<p.bj.length:=by omega
    show bN (gw p r p.bj.length) x.toNat 0=dz p r (bN p.bj x.toNat ew.bu.bw);grind[bV,gw]
  grind
 simp_all[bT]
theorem UD {p:cj} (d:nW p=0) {c:List Int} (h:dj p.bj.length c):cB p c=cT (bW p) c:=by
 have a:cK p c=c.map (oI p):=by grind[cK,zn]
 unfold cB;rw[if_pos d,a];clear h a;induction c with
 |nil=>rfl;|cons x c b=>
  have e:cT (bW p) (x::c)=(oI p x).value+cT (bW p) c:=by simp[cT];rfl
  rw[e,<-b];rfl
theorem Lx {g:bY} {n:Nat}:∀{l c:List Int},dj n c->l.Nodup->(∀x∈l,x∉c/\0<=x/\x<n)->dj n (l.foldl (stepG g) c)
 |[],c,b,_,_=>b
 |x::l,c,b,e,d=>by
  rw[γR] at e;have i:=d x (by simp);have f:dj n (stepG g c x):=by
   unfold stepG;split
   ·refine Ef ?_ λy a=>?_;·grind[vF]
    ·rw[γi] at a;rcases a with a|a;·exact b.2 y a
     simp_all
   ·exact b
  show dj n (l.foldl (stepG g) (stepG g c x));refine Lx f e.2 λy a=>⟨λh=>?_,(d y (by simp[a])).2⟩;grind[Na]
theorem UC {p:cj}:(fS p).Nodup:=by
 unfold fS;split;·exact(xK (D:=eA p) (l:=cz p.bj.length)).symm.nodup (nL.imp λh=>by omega)
 simp_all
theorem UB {p:cj} {k:Nat}:dj p.bj.length (mP (bW p) ((fS p).take k)):=
 Lx ⟨δv,by simp⟩ (UC.sublist (ζ4 _ _)) λx a=>⟨by simp,(El (γn a)).2⟩
def dm (c:Nat->Rat):(List Nat->Rat)->List Nat->Rat
 |_,[]=>0
 |f,i::R=>c i*f R - dm c (λl=>f (i::l)) R
theorem E2 {c:Nat->Rat}:∀{R:List Nat},dm c (λ_=>0) R=0
 |[]=>rfl
 |i::R=>by simp only[dm,E2];grind
theorem E1 {c:Nat->Rat} {p q:Rat}:∀{R:List Nat} {f g:List Nat->Rat},dm c (λl=>p*f l+q*g l) R=p*dm c f R+q*dm c g R
 |[],_,_=>by grind[dm];|i::R,f,g=>by
  simp only[dm,@E1 c p q R];grind
theorem Lw {c d:Nat->Rat} {p q:Rat}:∀{R:List Nat} {f:List Nat->Rat},dm (λi=>p*c i+q*d i) f R=p*dm c f R+q*dm d f R
 |[],_=>by grind[dm];|i::R,f=>by
  simp only[dm,@Lw c d p q R];grind
theorem Lv {c:Nat->Rat} {p:Rat} {R:List Nat} {f g:List Nat->Rat}:dm c (λl=>p*f l - g l) R=p*dm c f R - dm c g R:=by
 have:=@E1 c p (-1) R f g;grind
theorem E0 {a b:Nat->Rat}:∀{R:List Nat} {f:List Nat->Rat},dm a (dm b f) R= - dm b (dm a f) R
 |[],_=>by grind[dm];|i::R,f=>by
  have d:dm a (λl=>dm b f (i::l)) R=b i*dm a f R - dm a (dm b λl=>f (i::l)) R:=Lv;have c:dm b (λl=>dm a f (i::l)) R=a i*dm b f R - dm b (dm a λl=>f (i::l)) R:=Lv;have h:=@E0 a b R λl=>f (i::l);grind[dm]
theorem UA {a:Nat->Rat} {f:List Nat->Rat}:dm a (dm a f)=λ_=>0:=by
 grind[E0]
def vD (R:List Nat):Rat:=if R=[] then 1 else 0
def ja (a:List (Nat->Rat)):List Nat->Rat:=a.foldr dm vD
theorem Lu {c:Nat->Rat} {a:List (Nat->Rat)}:ja (c::a)=dm c (ja a):=rfl
theorem Lt {a:Nat->Rat}:∀{b:List (Nat->Rat)} {f:List Nat->Rat},dm a (b.foldr dm (dm a f))=λ_=>0
 |[],f=>UA
 |c::b,f=>by
  funext R;simp only[ε5];rw[E0,@Lt a b f,E2];rfl
theorem fold_zero:∀{cs:List (Nat->Rat)},cs.foldr dm (λ_=>0)=λ_=>0
 |[]=>rfl
 |c::cs=>by
  rw[ε5,fold_zero];grind[E2]
theorem Ls {a:Nat->Rat} {p m q:List (Nat->Rat)}:ja (p++a::(m++a::q))=λ_=>0:=by
 grind[ja,Lt,fold_zero]
theorem Lr {p q:Rat}:∀{a:List (Nat->Rat)} {f g:List Nat->Rat} {R:List Nat},a.foldr dm (λl=>p*f l+q*g l) R=p*a.foldr dm f R+q*a.foldr dm g R
 |[],_,_,_=>rfl
 |c::a,f,g,R=>by
  simp only[ε5];rw[<-E1];congr 1;funext l;exact Lr
theorem Lq {c d:Nat->Rat} {p q:Rat} {a b:List (Nat->Rat)} {R:List Nat}:ja (a++(λi=>p*c i+q*d i)::b) R=p*ja (a++c::b) R+q*ja (a++d::b) R:=by
 unfold ja;simp only[List.foldr_append,ε5];rw[<-Lr];have e:dm (λi=>p*c i+q*d i) (θf dm vD b)=λl=>p*dm c (θf dm vD b) l+q*dm d (θf dm vD b) l:=by
  grind[Lw]
 rw[e]
def dY (M:Nat) (q:Rat):Prop:=∃z:Int,q=(z:Rat)/\z.natAbs<=M
theorem Lo {c:Nat->Rat} {M K:Nat}:∀{R:List Nat} {f:List Nat->Rat},(∀i∈R,dY M (c i))->(∀l,l.length+1=R.length->(∀i∈l,i∈R)->dY K (f l))->dY (R.length*(M*K)) (dm c f R)
 |[],_,_,_=>⟨0,by simp[dm],by simp⟩
 |i::R,f,e,g=>by
  simp only[dm,γK];obtain⟨y,q,h⟩:=@Lo c M K R (λl=>f (i::l)) (λj a=>e j (by simp[a])) λl n p=>g _ (by simp_all) λj a=>by
   grind
  obtain⟨u,o,b⟩:=e i (by simp);obtain⟨v,k,d⟩:=g R (by simp) λj a=>by simp[a]
  refine⟨u*v - y,?_,?_⟩;·simp_all
  ·have m:(u*v).natAbs<=M*K:=by
    rw[Int.natAbs_mul];exact Nat.mul_le_mul b d
   grind
def lI (M:Nat):Nat->Nat
 |0=>1
 |n+1=>(n+1)*(M*lI M n)
theorem zm {M:Nat}:∀{cs:List (Nat->Rat)} {R:List Nat},cs.length=R.length->(∀c∈cs,∀i∈R,dY M (c i))->dY (lI M R.length) (ja cs R)
 |[],R,b,_=>by
  have:R=[]:=List.eq_nil_of_length_eq_zero (by simp_all);subst this;exact⟨1,by simp[ja,vD],by simp[lI]⟩;|c::cs,R,b,e=>by
  rw[Lu];cases R with
  |nil=>simp at b;|cons i R=>
   simp only[γK,lI];refine Lo (e c (by simp)) λl a g=>?_;simp only[γK] at b a;rw[show R.length=l.length by omega];exact zm (by omega) λd f j h=>e d (by simp[f]) j (g j h)
def vC (k:Nat):Nat->Rat:=λi=>if i=k then 1 else 0
theorem Ln {c:Nat->Rat}:∀{R:List Nat} {f:List Nat->Rat},(∀i∈R,c i=0)->dm c f R=0
 |[],_,_=>rfl
 |i::R,f,h=>by
  simp only[dm];rw[h i (by simp),Ln λj a=>h j (by simp[a])];grind
theorem Lm:∀{R:List Nat},R.Nodup->ja (R.map vC) R=1
 |[],_=>by simp[ja,vD];|i::R,h=>by
  rw[γR] at h;rw[ξ,Lu];simp only[dm];rw[Ln (c:=vC i) (R:=R) λj a=>by
   unfold vC;grind];rw[Lm h.2];unfold vC;grind
def Ov (n:Nat) (f:Nat->Rat):Rat:=match n with
 |0=>0
 |n+1=>Ov n f+f n
theorem cX:∀{n:Nat} {f g:Nat->Rat},(∀i,i<n->f i=g i)->Ov n f=Ov n g
 |0,_,_,_=>rfl
 |n+1,f,g,h=>by simp only[Ov];rw[cX λi a=>h i (by omega),h n (by omega)]
theorem vB:∀{n:Nat} {f g:Nat->Rat},Ov n (λi=>f i+g i)=Ov n f+Ov n g
 |0,_,_=>by grind[Ov];|n+1,f,g=>by simp only[Ov];rw[vB];grind
theorem sO {c:Rat}:∀{n:Nat} {f:Nat->Rat},Ov n (λi=>c*f i)=c*Ov n f
 |0,_=>by grind[Ov];|n+1,f=>by simp only[Ov];rw[sO];grind
theorem gN:∀{n:Nat},Ov n (λ_=>0)=0
 |0=>rfl
 |n+1=>by simp only[Ov];rw[gN];grind
theorem sN {k:Nat} {x:Rat}:∀{n:Nat},Ov n (λi=>if i=k then x else 0)=if k<n then x else 0
 |0=>by simp[Ov];|n+1=>by
  simp only[Ov];rw[sN];grind
theorem zl {n k:Nat} {f:Nat->Rat} (h:k<n):Ov n f=f k+Ov n λi=>if i=k then 0 else f i:=by
 have a:=@sN k (f k) n;rw[if_pos h] at a;rw[<-a,<-vB];grind[cX]
theorem Ll {a b:List (Nat->Rat)} {R:List Nat} {y:Nat->Rat} {T:Nat->Nat->Rat}:∀{n:Nat},ja (a++(λi=>Ov n λk=>y k*T k i)::b) R=Ov n λk=>y k*ja (a++T k::b) R
 |0=>by
  have e:(λi:Nat=>Ov 0 λk=>y k*T k i)=λi=>(0:Rat)*(λ_=>0) i+0*(λ_=>0) i:=by grind[Ov]
  rw[e,Lq];grind[Ov];|n+1=>by
  have e:(λi:Nat=>Ov (n+1) λk=>y k*T k i)=λi=>(1:Rat)*(λi=>Ov n λk=>y k*T k i) i+y n*T n i:=by
   grind[Ov]
  rw[e,Lq,Ll];grind[Ov]
theorem Uz {C:List (Nat->Rat)} {R:List Nat} {y:Nat->Rat} {r:Nat} (f:r<C.length):ja (C.set r (λi=>Ov C.length λk=>y k*(C.getD k (λ_=>0)) i)) R=y r*ja C R:=by
 have a:∀c:Nat->Rat,C.set r c=C.take r++c::C.drop (r+1):=λc=>by rw[List.set_eq_take_append_cons_drop,if_pos f]
 rw[a,Ll,zl f];have m:∀k,k<C.length->(if k=r then(0:Rat) else y k*ja (C.take r++C.getD k (λ_=>0)::C.drop (r+1)) R)=0:=by
  intro k g;split;·rfl
  ·rename_i e;have o:ja (C.take r++C.getD k (λ_=>0)::C.drop (r+1)) R=0:=by
    have n:C.getD k (λ_=>0)=C[k]:=by simp_all
    rw[n];rcases Nat.lt_or_gt_of_ne e with h|h
    ·have j:C.take r=C.take k++C[k]::(C.drop (k+1)).take (r - (k+1)):=by
      have b:C[k]::C.drop (k+1)=C.drop k:=ζJ g;obtain⟨d,rfl⟩:∃d,r=k+(d+1):=⟨r - (k+1),by omega⟩;rw[List.take_add,<-b,δw,show k+(d+1) - (k+1)=d by omega]
     grind[Ls]
    ·have j:C.drop (r+1)=(C.drop (r+1)).take (k - (r+1))++C[k]::C.drop (k+1):=by
      have b:C[k]::C.drop (k+1)=C.drop k:=ζJ g;rw[b];have l:=γT (k - (r+1)) (C.drop (r+1));rw[δl,show r+1+(k - (r+1))=k by omega] at l;exact l.symm
     rw[j,Ls]
   simp_all
 rw[cX m,gN];have b:C.take r++C.getD r (λ_=>0)::C.drop (r+1)=C:=by
  simp_all
 rw[b];grind
end Go.Vi
