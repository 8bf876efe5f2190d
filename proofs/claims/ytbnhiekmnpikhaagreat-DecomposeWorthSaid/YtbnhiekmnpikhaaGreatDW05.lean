import Derived.Test.YtbnhiekmnpikhaaGreatDW04
import Derived.Shelf.Sort.AssemblyIn
import Derived.Shelf.SlicesE.Clone
import Derived.Shelf.SlicesE.Delete
import Derived.Shelf.SlSortCmp.NoneTotal
import Derived.Sort.EveryDepth
import Derived.Sort.OwnSortedInts
set_option maxRecDepth 100000
set_option maxHeartbeats 4000000
set_option linter.all false
open And renaming intro->γk
open BitVec renaming ofInt->γq
open Bool renaming and_eq_true->ζ,eq_iff_iff->ζV
open Classical renaming not_not->γa,byContradiction->γU
open Go.Vi.AV renaming sc->δe
open Go.Vi.AV.os renaming injEq->εH
open Go.Vi.AV.sc renaming injEq->δa
open Go.Vi.AV.sl renaming injEq->δ9
open Go.Vi.SV renaming sb->γA,il->γu,si->γc,g->ε8,ow->γZ,ptr->γM,row->Ω,agg->γG,bl->δb
open Int renaming mul_pos->εI,mul_lt_mul_of_pos_right->γ4,mul_nonneg->γz,mul_le_mul->δL,natAbs_mul->εz,pow_succ->γW,sub_zero->ζp,mul_assoc->δm,mul_zero->δM,emod_eq_of_lt->δP,pow_add->εc,lt_of_le_of_lt->εQ,mul_le_mul_of_nonneg_left->Ψ,le_of_lt->γi,eq_ofNat_of_zero_le->δJ,mul_comm->δ7,pow_pos->δE,mul_emod_mul_of_pos->ζN,emod_nonneg->δS,emod_lt_of_pos->δp,lt_of_mul_lt_mul_left->εA,lt_of_lt_of_le->εN,mul_le_mul_of_nonneg_right->γX,add_zero->εo,ediv_nonneg->δ3,ediv_lt_of_lt_mul->ε3,mul_ediv_add_emod->εm,pow_zero->ζX,one_mul->εa,toNat_natCast->γg,mul_ediv_cancel_left->ζE,natAbs_natCast->ζq,mul_neg_of_neg_of_pos->εB,toNat_of_nonneg->εJ
open IntCast renaming intCast->κ
open List renaming mergeSort_perm->δn,pairwise_mergeSort->δK,append_assoc->γV,take_append_drop->γS,pairwise_append->δ1,map_cons->ν,map_nil->γv,cons_append->γL,length->γf,drop->γ3,mem_of_mem_drop->γY,mem_of_mem_take->γj,length_set->γm,mem_append->γo,take_zero->εy,nil_append->δR,drop_drop->δj,Pairwise->ζM,take_sublist->θj,range->Γ,range_succ->εl,mem_map->Δ,mem_range->γt,replicate->δ,replicate_succ->δc,getElem?_cons_zero->δo,getElem?_map->γH,getElem?_eq_some_iff->θ,length_map->Φ,length_take->γx,map_append->γb,take_succ_cons->δv,length_cons->γC,take->Ξ,take_length->φ,all_eq_true->τ,take_of_length_le->γr,getElem_of_mem->γJ,length_append->γF,map_map->γO,map_congr_left->γI,pairwise_cons->γp,exists_of_findSome?_eq_some->δ0,nodup_cons->γQ,foldr_cons->ζc,foldr->θz,eq_nil_of_length_eq_zero->ψ,set_eq_take_append_cons_drop->εO,getElem_cons_drop->ζQ,nodup_append->γy,getElem?_replicate->εL,eq_of_mem_replicate->δ4
open List.Pairwise renaming nil->δN
open List.Perm renaming refl->ζ6
open List.cons renaming injEq->χ
open Nat renaming le_refl->π,zero_le->δ8,lt_of_lt_of_le->γw,zero_add->εf,min_eq_left->εn,pow_le_pow_right->δs,add_sub_cancel->θe,gcd_dvd_left->θq,gcd_le_right->θr
open Option renaming map_eq_some_iff->ε
open Option.some renaming injEq->γ
open Prod renaming ext->εD
open Rat renaming mul_nonneg->δw,mkRat_self->δY,normalize_eq_mkRat->ζR,num_eq_zero->ζZ,mkRat_eq_div->δG,intCast_natCast->ζd
namespace Go.Vi
def jz (D:Int->Int) (x y:Int):Bool:=decide (D y<D x)||(decide (D x=D y)&&decide (x<=y))
theorem xv {D:Int->Int} {x y:Int}:jz D x y=true↔D y<D x\/(D x=D y/\x<=y):=by grind[jz]
theorem NT {D:Int->Int} (a b c:Int) (d:jz D a b=true) (e:jz D b c=true):jz D a c=true:=by grind[xv]
theorem XB {D:Int->Int} (a b:Int):(jz D a b||jz D b a)=true:=by grind[xv]
theorem XA {D:Int->Int} {a b:Int} (c:jz D a b=true) (d:jz D b a=true):a=b:=by grind[xv]
abbrev sP (D:Int->Int) (l:List Int):Prop:=l.Pairwise λa b=>jz D a b=true
def dC (D:Int->Int) (l:List Int):List Int:=l.mergeSort (jz D)
theorem xu {D:Int->Int} {l:List Int}:(dC D l).Perm l:=δn _ _
theorem NS {D:Int->Int} {l:List Int}:sP D (dC D l):=δK NT XB l
theorem q_ {D:Int->Int} {l:List Int}:(dC D l).length=l.length:=xu.length_eq
theorem F2 {D:Int->Int} {l:List Int} {x:Int}:x∈dC D l↔x∈l:=xu.mem_iff
theorem NR {D:Int->Int} {l m:List Int} (e:m.Perm l) (f:sP D m):m=dC D l:=
 List.Perm.eq_of_pairwise (λa b _ _ c d=>XA c d) f NS (e.trans xu.symm)
theorem Xz {D:Int->Int} {l:List Int} (h:sP D l):dC D l=l:=(NR (ζ6 _) h).symm
def cZ (l:List Int) (a b:Nat):List Int:=(l.drop a).take (b - a)
def gr (D:Int->Int) (l:List Int) (a b:Nat):List Int:=l.take a++dC D (cZ l a b)++l.drop b
theorem s9 {l:List Int} {a b:Nat} (c:a<=b) (d:b<=l.length):(cZ l a b).length=b - a:=by grind[cZ]
theorem F1 {l:List Int} {a b:Nat} (c:a<=b) (d:b<l.length):cZ l a (b+1)=cZ l a b++[bN l b 0]:=by unfold cZ;rw[show b+1 - a=(b - a)+1 by omega,List.take_succ_eq_append_getElem (by grind),List.getElem_drop];grind[bR]
theorem NQ {l:List Int} {a:Nat}:cZ l a a=[]:=by grind[cZ]
theorem NP {D:Int->Int} {l:List Int} {a b:Nat} (c:a<=b) (d:b<=l.length):(gr D l a b).length=l.length:=by grind[gr,q_,s9]
theorem NO {l:List Int} {i:Nat} (h:i<l.length):l.drop i=bN l i 0::l.drop (i+1):=by simp_all[bR]
theorem NN {D:Int->Int} {l:List Int} {a:Nat}:gr D l a a=l:=by simp_all[gr,NQ,dC]
theorem Xy {D:Int->Int} {l:List Int} {a:Nat} (h:a<l.length):gr D l a (a+1)=l:=by
 have e:cZ l a (a+1)=[bN l a 0]:=by grind[F1,NQ]
 unfold gr;rw[e,Xz (by simp),γV];simp only[List.singleton_append];rw[<-NO h,γS]
def ky (D:Int->Int) (l:List Int) (a i j:Nat):List Int:=l.take a++((dC D (cZ l a i)).take (j - a)++bN l i 0::(dC D (cZ l a i)).drop (j - a))++l.drop (i+1)
theorem Xx {D:Int->Int} {l:List Int} {a i j:Nat} (b:a<=i) (c:i<l.length):(ky D l a i j).length=l.length:=by grind[q_,s9,ky]
theorem Xw {D:Int->Int} {l:List Int} {a i:Nat} (b:a<=i) (c:i<l.length):ky D l a i i=gr D l a i:=by grind[q_,s9,ky,gr,NO]
theorem Xv {A B:List Int} {y x:Int}:((A++y::x::B).set (A.length+1) y).set A.length x=A++x::y::B:=by simp_all
theorem Xu {A B:List Int} {y:Int}:bN (A++y::B) A.length 0=y:=by grind[bN]
theorem Xt {A B:List Int} {y x:Int}:bN (A++y::x::B) (A.length+1) 0=x:=by grind[bN]
theorem Xs {D:Int->Int} {l:List Int} {a i k:Nat} (c:a+k+1<=i) (d:i<l.length):
  ky D l a i (a+k+1)=(l.take a++(dC D (cZ l a i)).take k)++bN (dC D (cZ l a i)) k 0::bN l i 0::((dC D (cZ l a i)).drop (k+1)++l.drop (i+1))/\
  ky D l a i (a+k)=(l.take a++(dC D (cZ l a i)).take k)++bN l i 0::bN (dC D (cZ l a i)) k 0::((dC D (cZ l a i)).drop (k+1)++l.drop (i+1))/\
  (l.take a++(dC D (cZ l a i)).take k).length=a+k:=by
 have b:=@q_ D (cZ l a i);rw[s9 (by omega) (by omega)] at b;have e:k<(dC D (cZ l a i)).length:=by omega
 have g:(dC D (cZ l a i)).take (k+1)=(dC D (cZ l a i)).take k++[bN (dC D (cZ l a i)) k 0]:=by simp_all[bR]
 have f:(dC D (cZ l a i)).drop k=bN (dC D (cZ l a i)) k 0::(dC D (cZ l a i)).drop (k+1):=by simp_all[bR]
 grind[ky]
theorem Xr {D:Int->Int} {l:List Int} {a i j:Nat} (g:a<j) (f:j<=i) (d:i<l.length):
  bN (ky D l a i j) j 0=bN l i 0/\bN (ky D l a i j) (j - 1) 0=bN (dC D (cZ l a i)) (j - 1 - a) 0/\
  ((ky D l a i j).set j (bN (dC D (cZ l a i)) (j - 1 - a) 0)).set (j - 1) (bN l i 0)=ky D l a i (j - 1):=by obtain⟨b,c,e⟩:=@Xs D l a i (j - 1 - a) (by omega) d;rw[show a+(j - 1 - a)+1=j by omega] at b;rw[show a+(j - 1 - a)=j - 1 by omega] at c e;rw[b,c];generalize l.take a++(dC D (cZ l a i)).take (j - 1 - a)=A at*;generalize bN (dC D (cZ l a i)) (j - 1 - a) 0=y at*;generalize bN l i 0=x at*;grind[Xt,Xu,Xv]
theorem Xq {D:Int->Int} {S:List Int} {x:Int} {k:Nat} (n:sP D S) (d:∀s∈S.drop k,jz D x s=true) (b:k=0\/(k<=S.length/\jz D (bN S (k - 1) 0) x=true)):sP D (S.take k++x::S.drop k):=by
 have a:sP D (S.take k++S.drop k):=by simp_all
 obtain⟨g,f,i⟩:=δ1.1 a;have j:∀s∈S.take k,jz D s x=true:=by
  rcases b with rfl|⟨h,b⟩;·simp
  ·intro s l;by_cases m:k=0;·simp_all
   have c:k - 1<S.length:=by omega
   have e:S.take k=S.take (k - 1)++[bN S (k - 1) 0]:=by
    conv=>lhs;rw[show k=(k - 1)+1 by omega]
    simp_all[bR]
   grind[NT]
 rw[sP,δ1];simp_all
theorem Xp {S:List Int} {x:Int} {k:Nat}:(S.take k++x::S.drop k).Perm (S++[x]):=by refine(List.perm_middle).trans ?_;rw[γS];grind
theorem Xo {D:Int->Int} {l:List Int} {a i j:Nat} (k:a<=j) (f:j<=i) (e:i<l.length) (b:∀s∈(dC D (cZ l a i)).drop (j - a),jz D (bN l i 0) s=true) (g:j=a\/jz D (bN (dC D (cZ l a i)) (j - 1 - a) 0) (bN l i 0)=true):
  ky D l a i j=gr D l a (i+1):=by
 have c:=@q_ D (cZ l a i);rw[s9 (by omega) (by omega)] at c;have d:sP D ((dC D (cZ l a i)).take (j - a)++bN l i 0::(dC D (cZ l a i)).drop (j - a)):=by refine Xq NS b ?_;grind
 have h:((dC D (cZ l a i)).take (j - a)++bN l i 0::(dC D (cZ l a i)).drop (j - a)).Perm (cZ l a (i+1)):=by rw[F1 (by omega) e];exact Xp.trans (List.Perm.append xu (ζ6 _))
 grind[ky,gr,NR]
open Go.Proofs.YtbnhiekmnpikhaaGreat.Ir
open Go.Proofs
def F0:NG:=⟨150,Int,.one (dY .i64),λ_=>True,λ_=> .sb false⟩
abbrev d':=Holds Tryz.prog
abbrev g':=dp Tryz.prog
theorem Jk:d' F0:=by refine bI (L:=[]) F0 lk (by simp) ?_;rintro(x:Int) -;refine NI ((γA (decide (x≠x))).bi (γA false)) (by kernel_rfl) ?_;simp_all
def wQ (x y:Int):Int:=if x<y then -1 else if y<x then 1 else 0
def FZ:NG:=⟨113,Int×Int,.cons (dY .i64) (.one (dY .i64)),λ_=>True,λa=> .si .i64 (wQ a.1 a.2)⟩
theorem Jo:d' FZ:=by refine bI (L:=[F0]) FZ lk (by grind[Jk]) ?_;rintro⟨x,y⟩ -;refine NI (let b:=γu .i64;let c:=γu .i64 0;let a:=γc .i64 (wQ x y);True/\True/\(false=true->(false=true->(b 0).bi a)/\(false=false->(b (-1:Int)).bi a))/\(false=false->(false=true->(b 1).bi a)/\(false=false->(decide (x<y)=true->(b (-1:Int)).bi a)/\(decide (x<y)=false->(decide (y<x)=true->(b 1).bi a)/\(decide (y<x)=false->(b 0).bi a))))) (by kernel_rfl) ?_;simp_all[wQ,if_neg]
def s8 (b:oz):Int:=b.a0+b.a1+b.a2+b.a3+b.a4+b.a5
def FY:NG:=⟨114,oz,.one (dg .bun),λb=>b.ok=true,λb=> .si .i64 (s8 b)⟩
theorem Jn:d' FY:=by refine bI (L:=[]) FY (λ_ _=> .aob 7) (by simp) ?_;rintro(b:oz) (h:b.ok=true);have h:=oz.fA.1 h;refine NI (let d:=TP .i64;let a:=(0:Int)+b.a0+b.a1;let c:=a+b.a2+b.a3+b.a4;d ((0:Int)+b.a0)/\d a/\d (a+b.a2)/\d (a+b.a2+b.a3)/\d c/\d (c+b.a5)/\(γc .i64 (c+b.a5)).bi (γc .i64 (s8 b))) (by kernel_rfl) ?_;simp only[vcs];unfold s8;omega
def oI (p:ew) (i:Int):bA:=bN p.bj i.toNat cj.bu.bw
def pU (p:ew) (i:Int):Int:=(oI p i).value
def oq (p:ew) (i:Int):Int:=s8 (oI p i).bx
def eG (p:ew) (i:Int):Int:=pU p i*(5354228880 / oq p i)
def lG (p:ew) (i:Int):Prop:=0<=i/\i<p.bj.length
theorem xt {p:ew} (b:nW p=0) {i:Int} (h:lG p i):(1<=pU p i/\pU p i<=1000000)/\(1<=oq p i/\oq p i<=24)/\(oI p i).bx.ok=true:=by obtain⟨j,k⟩:=h;have c:=cy (d:=cj.bu.bw) (show i.toNat<p.bj.length by omega);have a:=(cT b).2.2.2.2 _ c;have g:=(zY ((rh b).2 _ c)).2.1;have e:=oz.fA.1 a.2.2.1;have f:¬((oI p i).bx.a0=0/\(oI p i).bx.a1=0/\(oI p i).bx.a2=0/\(oI p i).bx.a3=0/\(oI p i).bx.a4=0/\(oI p i).bx.a5=0):=λh=>g (Bz.2 h);have e:(0<=(oI p i).bx.a0/\(oI p i).bx.a0<=4)/\(0<=(oI p i).bx.a1/\(oI p i).bx.a1<=4)/\(0<=(oI p i).bx.a2/\(oI p i).bx.a2<=4)/\(0<=(oI p i).bx.a3/\(oI p i).bx.a3<=4)/\(0<=(oI p i).bx.a4/\(oI p i).bx.a4<=4)/\(0<=(oI p i).bx.a5/\(oI p i).bx.a5<=4):=e;refine⟨⟨a.2.2.2.1,a.2.2.2.2⟩,?_,a.2.2.1⟩;unfold oq s8;omega
theorem NM {t:Int} (a:1<=t) (b:t<=24):t*(5354228880 / t)=5354228880/\1<=5354228880 / t:=by
 have:t=1\/t=2\/t=3\/t=4\/t=5\/t=6\/t=7\/t=8\/t=9\/t=10\/t=11\/t=12\/t=13\/t=14\/t=15\/t=16\/t=17\/t=18\/t=19\/t=20\/t=21\/t=22\/t=23\/t=24:=by omega
 rcases this with rfl|rfl|rfl|rfl|rfl|rfl|rfl|rfl|rfl|rfl|rfl|rfl|rfl|rfl|rfl|rfl|rfl|rfl|rfl|rfl|rfl|rfl|rfl|rfl<;>decide
theorem Xn {p:ew} (g:nW p=0) {x y:Int} (j:lG p x) (i:lG p y):eG p x<eG p y↔pU p x*oq p y<pU p y*oq p x:=by
 obtain⟨m,e,_⟩:=xt g j;obtain⟨u,f,_⟩:=xt g i;obtain⟨v,q⟩:=NM e.1 e.2;obtain⟨o,r⟩:=NM f.1 f.2;unfold eG;generalize 5354228880 / oq p x=d at*;generalize 5354228880 / oq p y=c at*;generalize pU p x=a at*;generalize pU p y=b at*;generalize oq p x=s at*;generalize oq p y=t at*;have k:0<d*c:=εI (by omega) (by omega);have l:(a*t)*(d*c)=(a*d)*5354228880:=by grind
 have n:(b*s)*(d*c)=(b*c)*5354228880:=by grind
 constructor
 ·intro h;have:(a*t)*(d*c)<(b*s)*(d*c):=by omega
  exact Int.lt_of_mul_lt_mul_right this (by omega)
 ·intro h;have:(a*t)*(d*c)<(b*s)*(d*c):=γ4 h k;omega
def xp (p:ew) (x y:Int):Int:=wQ (pU p y*oq p x) (pU p x*oq p y)
theorem Xm {p:ew} (a:nW p=0) {x y:Int} (c:lG p x) (b:lG p y):xp p x y<0↔eG p y<eG p x:=by rw[Xn a b c];grind[xp,wQ]
def FX:cC where
 f:=112;α:=Int×Int×ew;put a:=[.si .i64 a.1,.si .i64 a.2.1,.ptr 0 0 20];st a:=[.cells a.2.2.ss 27 20 false];dec v o:=match v,o with
  |[x,y,.ptr 0 0 20],[.cells cs 27 20 false]=>match x.int .i64,y.int .i64,sM cs with
   |some x,some y,some p=>some (x,y,p)
   |_,_,_=>none
  |_,_=>none;ok v o a h:=by
  split at h
  ·split at h
   next h1 c d=>simp only[γ] at h;subst h;refine⟨by simp only[gL,iq h1,iq c];rfl,?_⟩;simp only[gO,ν,γv,iZ.g,wB d]
   ·cases h
  ·cases h
 inj a b h1 c:=by simp only[gL,χ,and_true,ε8,δa,Value.int.injEq,true_and] at h1;simp only[gO,ν,γv,iZ.g,χ,OL.cells.injEq,and_true] at c;have d:=cI.inj a.2.2 b.2.2 (by simp only[cI,ε8,c]);exact εD h1.1 (εD h1.2 d)
 dom a:=nW a.2.2=0/\lG a.2.2 a.1/\lG a.2.2 a.2.1;res a:=.si .i64 (xp a.2.2 a.1 a.2.1);out a:=[.cells a.2.2.ss 27 20 false]
theorem Jp:g' FX:=by
 refine jE (L:=[FY,FZ]) (W:=[]) FX lk (by simp) (by grind[Jn,Jo]) ?_;rintro⟨x,y,p⟩ ⟨f,e,c⟩;refine NI (let a:=cj.bu.bw;let d:=p.bj.length;let g:=bN p.bj x.toNat a;let h:=bN p.bj y.toNat a;let k:=h.value*s8 g.bx;let l:=g.value*s8 h.bx;let j:=iZ.cells (ew.ss p) 27 20 false;(0:Int)<=x/\x<(↑d:Int)/\x.toNat<d/\(0:Int)<=y/\y<(↑d:Int)/\y.toNat<d/\g.bx.ok=true/\TP .i64 k/\h.bx.ok=true/\TP .i64 l/\True/\(γc .i64 (wQ k l)).bi (γc .i64 (xp p x y))/\j.bi j/\True) (by kernel_rfl) ?_;simp only[vcs];have f:nW p=0:=f;have e:lG p x:=e;have c:lG p y:=c;obtain⟨s,w,q⟩:=xt f e;obtain⟨m,A,z⟩:=xt f c;obtain⟨o,n⟩:=e;obtain⟨B,r⟩:=c;have i:∀{v t:Int},1<=v/\v<=1000000->1<=t/\t<=24-> -9223372036854775808<=v*t/\v*t<=9223372036854775807:=λ{v t} C u=>by have a:=γz (show 0<=v by omega) (show 0<=t by omega);have b:=δL C.2 u.2 (by omega) (show(0:Int)<=1000000 by omega);omega
 exact⟨o,n,by omega,B,r,by omega,q,i m w,z,i s A,rfl⟩
def vl:Nat->List SV->Option (List Int)
 |0,[.fn (.func 112) [] [.ptr 1 0 20]]=>some []
 |k+1,x::r=>match x.int .i64,vl k r with
  |some n,some l=>some (n::l)
  |_,_=>none
 |_,_=>none
theorem NL:∀{k:Nat} {r:List SV} {l:List Int},vl k r=some l->gL r=gL (l.map (γc .i64)++[.fn (.func 112) [] [.ptr 1 0 20]])
 |0,r,l,h=>by
  unfold vl at h;split at h;·simp only[γ] at h;subst h;rfl
  next b=>cases b
  ·cases h;|k+1,[],l,h=>by simp[vl] at h;|k+1,x::r,l,h=>by
  simp only[vl] at h;split at h
  next n d h1 a=>simp only[γ] at h;subst h;simp only[gL,ν,γL,NL a,iq h1];rfl
  ·cases h
theorem NK:∀{l m:List Int} {z:List SV},l.length=m.length->gL (l.map (γc .i64)++z)=gL (m.map (γc .i64)++z)->l=m
 |[],[],_,_,_=>rfl
 |[],_::_,_,h,_=>by simp at h;|_::_,[],_,h,_=>by simp at h;|x::l,y::m,z,b,h=>by simp only[ν,γL,gL,χ,ε8,δa,Value.int.injEq,true_and] at h;rw[h.1,NK (by simpa using b) h.2]
def FW (f:FuncId) (k:Nat) (β:Type) (d:β->List Int) (e:List Int->Option β) (z:∀b,(d b).length=k) (h1:∀l b,e l=some b->l=d b) (D:∀b c,d b=d c->b=c) (dom:(Nat×List Int×ew)×β->Prop) (out:(Nat×List Int×ew)×β->List Int):cC where
 f:=f;α:=(Nat×List Int×ew)×β;put a:=.ow 0 a.1.1 1::((d a.2).map (γc .i64)++[.fn (.func 112) [] [.ptr 1 0 20]]);st a:=[.row (.i .i64) a.1.2.1 3 true,.cells a.1.2.2.ss 27 20 false];dec v o:=match v,o with
  | .ow 0 n 1::r,[.row t l 3 true,.cells cs 27 20 false]=>match vl k r,gX t (.i .i64) l,sM cs with
   |some xs,some l,some p=>match e xs with
    |some b=>some ((n,l,p),b)
    |none=>none
   |_,_,_=>none
  |_,_=>none;ok v o a h:=by
  split at h
  ·split at h
   ·rename_i s q m;split at h
    next b C=>simp only[γ] at h;subst h;obtain⟨rfl,B⟩:=lU q;cases B;have:=h1 _ _ C;subst this;refine⟨by simp only[gL,NL s],?_⟩;simp only[gO,ν,γv,iZ.g,wB m]
    ·cases h
   ·cases h
  ·cases h
 inj a b u j:=by
  obtain⟨⟨n,l,p⟩,x⟩:=a;obtain⟨⟨E,A,w⟩,x'⟩:=b;simp only[gL,χ,ε8,εH,true_and] at u;simp only[gO,ν,γv,iZ.g,χ,OL.cells.injEq,and_true,true_and] at j;have s:p=w:=cI.inj p w (by simp only[cI,ε8,j.2]);have q:l=A:=by have y:=congrArg γf j.1;rw[eh,eh] at y;exact kK (.i .i64) (by simpa[cj.sz] using y) j.1
  have m:x=x':=D _ _ (NK (by rw[z,z]) u.2);rw[u.1.1,s,q,m]
 dom:=dom;res _:=.IL [];out a:=[.row (.i .i64) (out a) 3 true,.cells a.1.2.2.ss 27 20 false]
abbrev Srg:=Nat×List Int×ew
def wZ (b:Int×Int):List Int:=[b.1,b.2]
def CG:List Int->Option (Int×Int)
 |[a,b]=>some (a,b)
 |_=>none
theorem Xl:∀l b,CG l=some b->l=wZ b:=λl b h=>by
 unfold CG at h;split at h;·simp only[γ] at h;subst h;rfl
 ·cases h
theorem XL:∀b c,wZ b=wZ c->b=c:=λb c h=>by unfold wZ at h;simp only[χ,and_true] at h;exact εD h.1 h.2
def tV (a:Srg):Prop:=(nW a.2.2=0/\a.1=a.2.1.length)/\a.2.1.length<=1000/\∀x∈a.2.1,lG a.2.2 x
def FU (l:List Int) (a b:Int):Prop:=0<=a/\a<=b/\b<=l.length
theorem NJ {l m:List Int} (h:l=m):(iZ.row (.i .i64) l 3 true).bi (iZ.row (.i .i64) m 3 true):=by subst h;rfl
def FT:cC:=FW 172 2 (Int×Int) wZ CG (λ_=>rfl) Xl XL (λa=>tV a.1/\FU a.1.2.1 a.2.1 a.2.2/\(cZ a.1.2.1 a.2.1.toNat a.2.2.toNat).Pairwise (·<·)) λa=>gr (eG a.1.2.2) a.1.2.1 a.2.1.toNat a.2.2.toNat
def XK (n:Nat) (l:List Int) (p:ew) (a b:Int):Nat->bH
 |1=> .inv (Int×List Int) (λx=>⟨[(0,.ow 0 n 1),(1,.si .i64 a),(2,.si .i64 b),(3,.fn (.func 112) [] [.ptr 1 0 20]),(8,.si .i64 x.1)],[.row (.i .i64) x.2 3 true,.cells p.ss 27 20 false]⟩) (λs=>(iS s 8,oS (.i .i64) s 0))
   (λx=>(a<x.1/\(x.1<=b\/x.1=a+1))/\x.2=gr (eG p) l a.toNat (if a<b then x.1 else a).toNat) (λx=>(b - x.1).toNat) λx k=>match k with
    |4=> .inv (Int×List Int) (λy=>⟨[(0,.ow 0 n 1),(1,.si .i64 a),(2,.si .i64 b),(3,.fn (.func 112) [] [.ptr 1 0 20]),(8,.si .i64 x.1),(9,.si .i64 y.1)],[.row (.i .i64) y.2 3 true,.cells p.ss 27 20 false]⟩) (λs=>(iS s 9,oS (.i .i64) s 0))
      (λy=>(a<=y.1/\y.1<=x.1)/\y.2=ky (eG p) l a.toNat x.1.toNat y.1.toNat/\∀s∈(dC (eG p) (cZ l a.toNat x.1.toNat)).drop (y.1 - a).toNat,jz (eG p) (bN l x.1.toNat 0) s=true) (λy=>(y.1 - a).toNat) λ_ _=> .look
    |_=> .look
 |_=> .look
theorem Jg:g' FT:=by
 refine jE (L:=[]) (W:=[FX]) FT (λa=>XK a.1.1 a.1.2.1 a.1.2.2 a.2.1 a.2.2) (by simpa using Jp) (by simp) ?_;rintro⟨⟨n,l,p⟩,a,b⟩ ⟨⟨⟨hc,hn⟩,hl,U⟩,⟨a0,a1,a2⟩,hi⟩;refine NI (let c:=γc .i64;let d:=(0:Int);let e:=TP .i64;let f:=iZ.row;let g:=(1:Int);let m:=a+g;let o:=γZ 0 n 1;let q:=SV.fn (Fn.func 112) [] [γM 1 0 20];let E:=c m;let w:=cj.i .i64;let F:=f w l 3 true;let k:=iZ.cells [c p.bm.a0,c p.bm.a1,c p.bm.a2,c p.bm.a3,c p.bm.a4,c p.bm.a5,c p.bs.a0,c p.bs.a1,c p.bs.a2,c p.bs.a3,c p.bs.a4,c p.bs.a5,c p.bt.a0,c p.bt.a1,c p.bt.a2,c p.bt.a3,c p.bt.a4,c p.bt.a5,Ω w p.bk,Ω cj.bu p.bj] 27 20 false;e m/\(((o.bi o/\(c a).bi (c a)/\(c b).bi (c b)/\q.bi q/\E.bi E/\True)/\F.bi F/\k.bi k/\True)/\(a<m/\(m<=b\/m=m))/\l=gr (eG p) l a.toNat (if a<b then m else a).toNat)/\∀(x:Int×List Int),let y:=c x.1;let B:=f w x.2 3 true;let r:=x.1.toNat;let C:=dC (eG p) (cZ l a.toNat r);let t:=x.1+g;let G:=c t;let N:=gr (eG p) l a.toNat (if a<b then t else a).toNat;(a<x.1/\(x.1<=b\/x.1=m))/\x.2=gr (eG p) l a.toNat (if a<b then x.1 else a).toNat->(decide (x.1<b)=true->(((o.bi o/\(c a).bi (c a)/\(c b).bi (c b)/\q.bi q/\y.bi y/\y.bi y/\True)/\B.bi B/\k.bi k/\True)/\(a<=x.1/\x.1<=x.1)/\x.2=ky (eG p) l a.toNat r r/\∀(s:Int),s∈γ3 (x.1 - a).toNat C->jz (eG p) (bN l r d) s=true)/\∀(O:Int×List Int),let H:=f w O.2 3 true;let v:=O.1.toNat;let D:=bN O.2 v d;let j:=O.1 - g;let z:=j.toNat;let A:=bN O.2 z d;let h:=O.2.length;let z23:Nat:=(O.2.set v A).length;let I:=c j;let J:=(O.2.set v A).set z D;let K:=f w J 3 true;let L:=e t/\((o.bi o/\(c a).bi (c a)/\(c b).bi (c b)/\q.bi q/\G.bi G/\True)/\H.bi H/\k.bi k/\True)/\((a<t/\(t<=b\/t=m))/\O.2=N)/\(b - t).toNat<(b - x.1).toNat;let M:=λ(u:Bool) ↦decide (xp p D A<d)=u;((a<=O.1/\O.1<=x.1)/\O.2=ky (eG p) l a.toNat r v/\∀(s:Int),s∈γ3 (O.1 - a).toNat C->jz (eG p) (bN l r d) s=true)->(decide (a<O.1)=true->n=h/\d<=O.1/\O.1<(↑h:Int)/\n=h/\v<h/\e j/\n=h/\d<=j/\j<(↑h:Int)/\n=h/\z<h/\(nW p=d/\lG p D/\lG p A)/\(M true->e j/\e j/\n=h/\d<=j/\j<(↑h:Int)/\n=h/\z<h/\n=h/\d<=O.1/\O.1<(↑h:Int)/\n=h/\v<h/\n=h/\d<=O.1/\O.1<(↑h:Int)/\n=h/\v<h/\n=z23/\d<=j/\j<(↑z23:Int)/\n=z23/\z<z23/\e j/\((o.bi o/\(c a).bi (c a)/\(c b).bi (c b)/\q.bi q/\y.bi y/\I.bi I/\True)/\K.bi K/\k.bi k/\True)/\((a<=j/\j<=x.1)/\J=ky (eG p) l a.toNat r z/\∀(s:Int),s∈γ3 (j - a).toNat C->jz (eG p) (bN l r d) s=true)/\(j - a).toNat<(O.1 - a).toNat)/\(M false->L))/\(decide (a<O.1)=false->L))/\(decide (x.1<b)=false->(SV.IL []).bi (SV.IL [])/\B.bi (f w (gr (eG p) l a.toNat b.toNat) 3 true)/\k.bi k/\True)) (by kernel_rfl) ?_;simp only[vcs];have hc:nW p=0:=hc;have hn:n=l.length:=hn;have hl:l.length<=1000:=hl;have U:∀x∈l,lG p x:=U;have a0:0<=a:=a0;have a1:a<=b:=a1;have a2:b<=l.length:=a2;have hi:(cZ l a.toNat b.toNat).Pairwise (·<·):=hi;generalize hD:eG p=D at*;have sl:∀{i:Int},a<=i->i<=b->(gr D l a.toNat i.toNat).length=l.length:=λh1 V=>NP (by omega) (by omega);refine⟨by omega,⟨⟨by omega,.inr trivial⟩,?_⟩,?_⟩
 ·by_cases P:a<b;·rw[if_pos P,show(a+1).toNat=a.toNat+1 by omega,Xy (by omega)]
  ·rw[if_neg P,NN]
 rintro⟨i,m⟩ ⟨⟨i0,i1⟩,hm⟩;simp only at i0 i1 hm ⊢;refine⟨λX=>?_,λX=>NJ ?_⟩
 ·rw[if_pos (by omega)] at hm;have hx:=U _ (cy (d:=(0:Int)) (show i.toNat<l.length by omega));have hS:∀s∈dC D (cZ l a.toNat i.toNat),s<bN l i.toNat 0/\lG p s:=λs S=>by
   have h1:=F2.1 S;have V:(cZ l a.toNat (i.toNat+1)).Pairwise (·<·):=by refine hi.sublist ?_;unfold cZ;exact List.take_sublist_take_left (by omega)
   rw[F1 (by omega) (by omega)] at V;refine⟨(δ1.1 V).2.2 s h1 _ (by simp),U s ?_⟩;unfold cZ at h1;exact γY (γj h1)
  have hSl:(dC D (cZ l a.toNat i.toNat)).length=i.toNat - a.toNat:=by rw[q_,s9 (by omega) (by omega)]
  have il:∀{j:Nat},(ky D l a.toNat i.toNat j).length=l.length:=λ{j}=>Xx (by omega) (by omega);refine⟨⟨(by omega),?_,?_⟩,?_⟩;·rw[hm,Xw (by omega) (by omega)]
  ·intro s S;rw[List.drop_of_length_le (by omega)] at S;simp at S
  rintro⟨j,m2⟩ ⟨⟨j0,j1⟩,T,hle⟩;simp only at j0 j1 T hle ⊢;subst T;simp only[γm,il];have fin:(j=a\/jz D (bN (dC D (cZ l a.toNat i.toNat)) (j.toNat - 1 - a.toNat) 0) (bN l i.toNat 0)=true)->ky D l a.toNat i.toNat j.toNat=gr D l a.toNat (if a<b then i+1 else a).toNat:=λh=>by
   rw[if_pos (by omega),show(i+1).toNat=i.toNat+1 by omega];refine Xo (by omega) (by omega) (by omega) ?_ ?_;·rw[show j.toNat - a.toNat=(j - a).toNat by omega];exact hle
   ·rcases h with h|h;·exact .inl (by omega)
    ·exact .inr h
  refine⟨λhj=>?_,λhj=>?_⟩
  ·obtain⟨k1,k2,k3⟩:=@Xr D l a.toNat i.toNat j.toNat (by omega) (by omega) (by omega);have ej:(j - 1).toNat=j.toNat - 1:=by omega
   rw[ej,k1,k2,k3];have S:=cy (d:=(0:Int)) (show j.toNat - 1 - a.toNat<(dC D (cZ l a.toNat i.toNat)).length by omega);obtain⟨s1,s2⟩:=hS _ S;have R:=Xm hc hx s2;rw[hD] at R;rw[R];refine⟨by omega,by omega,by omega,by omega,by omega,by omega,by omega,by omega,by omega,by omega,by omega,⟨hc,hx,s2⟩,λh1=>?_,λh1=>?_⟩
   ·repeat' refine γk ?_ ?_
    all_goals first|omega|rfl|skip
    intro s Q;rw[show(j - 1 - a).toNat=j.toNat - 1 - a.toNat by omega,List.drop_eq_getElem_cons (show j.toNat - 1 - a.toNat<(dC D (cZ l a.toNat i.toNat)).length by omega)] at Q;rcases List.mem_cons.1 Q with rfl|Q
    ·rw[<-bR (d:=(0:Int))];exact xv.2 (.inl h1)
    ·refine hle s ?_;rw[show(j - a).toNat=j.toNat - 1 - a.toNat+1 by omega];exact Q
   ·have:=fin (.inr (xv.2 (by omega)));repeat' refine γk ?_ ?_
    all_goals first|omega|exact this|rfl
  ·have:=fin (.inl (by omega));repeat' refine γk ?_ ?_
   all_goals first|omega|exact this|rfl
 ·rw[hm];by_cases P:a<b;·rw[if_pos P,show i=b by omega]
  ·rw[if_neg P,show a=b by omega]
theorem XJ {l:List Int} {a b:Nat} {x:Int} (h:x∈cZ l a b):x∈l:=by unfold cZ at h;exact γY (γj h)
theorem XI {D:Int->Int} {l:List Int} {a b:Nat} {x:Int} (h:x∈gr D l a b):x∈l:=by
 unfold gr at h;simp only[γo] at h;rcases h with(h|h)|h;·exact γj h
 ·exact XJ (F2.1 h)
 ·exact γY h
def w8 (b:Int):List Int:=[b]
def CH:List Int->Option Int
 |[a]=>some a
 |_=>none
theorem XH:∀l b,CH l=some b->l=w8 b:=λl b h=>by
 unfold CH at h;split at h;·simp only[γ] at h;subst h;rfl
 ·cases h
theorem XG:∀b c,w8 b=w8 c->b=c:=λb c h=>by simp_all[w8]
def zz (_:Unit):List Int:=[]
def CI:List Int->Option Unit
 |[]=>some ()
 |_=>none
theorem XF:∀l b,CI l=some b->l=zz b:=λl b h=>by
 unfold CI at h;split at h;·rfl
 ·cases h
theorem XE:∀b c,zz b=zz c->b=c:=λ_ _ _=>rfl
theorem NF {D:Int->Int} {l:List Int} {n:Nat} (h:n=l.length):gr D l 0 n=dC D l:=by grind[gr,cZ]
theorem XD {D:Int->Int} {l:List Int} {b c d:Nat} (h:b<=c) (e:b<=l.length):cZ (gr D l 0 b) c d=cZ l c d:=by
 have a:(dC D (cZ l 0 b)).length=b:=by grind[q_,s9]
 unfold gr;have:(l.take 0++dC D (cZ l 0 b)++l.drop b).drop c=l.drop c:=by rw[εy,δR,List.drop_append,List.drop_eq_nil_of_le (by omega),δR,δj,a,show b+(c - b)=c by omega]
 grind[cZ]
def Gm:cC:=FW 149 1 Int w8 CH (λ_=>rfl) XH XG (λa=>(tV a.1/\a.1.2.1.Pairwise (·<·))/\a.2=a.1.2.1.length/\a.1.2.1.length<=20) λa=>dC (eG a.1.2.2) a.1.2.1
def XC (n:Nat) (l:List Int) (p:ew):Nat->bH
 |2=> .inv (Int×Int×List Int) (λx=>⟨[(0,.ow 0 n 1),(1,.si .i64 l.length),(2,.fn (.func 112) [] [.ptr 1 0 20]),(6,.si .i64 20),(7,.si .i64 x.1),(8,.si .i64 x.2.1)],[.row (.i .i64) x.2.2 3 true,.cells p.ss 27 20 false]⟩) (λs=>(iS s 7,iS s 8,oS (.i .i64) s 0))
   (λx=>x.2.1=x.1+20/\(x.1=0/\x.2.2=l\/x.1=20/\l.length=20/\x.2.2=gr (eG p) l 0 20)) (λx=>(1000 - x.1).toNat) λ_ _=> .look
 |7=> .inv (Int×List Int) (λx=>⟨[(0,.ow 0 n 1),(1,.si .i64 l.length),(2,.fn (.func 112) [] [.ptr 1 0 20]),(6,.si .i64 x.1)],[.row (.i .i64) x.2 3 true,.cells p.ss 27 20 false]⟩) (λs=>(iS s 6,oS (.i .i64) s 0))
   (λx=>x.1=20/\x.2=dC (eG p) l) (λx=>(1000 - x.1).toNat) λ_ _=> .look
 |_=> .look
theorem Jl:g' Gm:=by
 refine jE (L:=[]) (W:=[FT]) Gm (λa=>XC a.1.1 a.1.2.1 a.1.2.2) (by simpa using Jg) (by simp) ?_;rintro⟨⟨n,l,p⟩,N⟩ ⟨⟨⟨⟨hc,G⟩,H,F⟩,hi⟩,R,P⟩;simp only at hc G H F hi R P;subst R;refine NI (let a:=γc .i64;let b:=(20:Int);let c:=iZ.row;let d:=(0:Int);let e:=γu .i64;let g:=γZ 0 n 1;let h:=(↑l.length:Int);let j:=a h;let k:=SV.fn (Fn.func 112) [] [γM 1 0 20];let m:=a 20;let v:=e 0;let o:=cj.i .i64;let w:=c o l 3 true;let f:=iZ.cells [a p.bm.a0,a p.bm.a1,a p.bm.a2,a p.bm.a3,a p.bm.a4,a p.bm.a5,a p.bs.a0,a p.bs.a1,a p.bs.a2,a p.bs.a3,a p.bs.a4,a p.bs.a5,a p.bt.a0,a p.bt.a1,a p.bt.a2,a p.bt.a3,a p.bt.a4,a p.bt.a5,Ω o p.bk,Ω cj.bu p.bj] 27 20 false;let s:=gr (eG p) l 0 20;let t:=dC (eG p) l;(((g.bi g/\j.bi j/\k.bi k/\(e 20).bi m/\v.bi (a 0)/\(e 20).bi m/\True)/\w.bi w/\f.bi f/\True)/\b=b/\(d=d/\l=l\/d=b/\l.length=20/\l=s))/\∀(x:Int×Int×List Int),let y:=decide (x.2.1<=h);let q:=x.1.toNat;let r:=x.2.1+b;let z:=a x.2.1;let A:=a r;let u:=gr (eG p) x.2.2 q x.2.1.toNat;let B:=c o u 3 true;let C:=gr (eG p) x.2.2 q h.toNat;let D:=c o C 3 true;x.2.1=x.1+b/\(x.1=d/\x.2.2=l\/x.1=b/\l.length=20/\x.2.2=s)->(y=true->(tV (n,x.2.2,p)/\FU x.2.2 x.1 x.2.1/\ζM (λK J ↦K<J) (cZ x.2.2 q x.2.1.toNat))/\TP .i64 r/\((g.bi g/\j.bi j/\k.bi k/\m.bi m/\z.bi z/\A.bi A/\True)/\B.bi B/\f.bi f/\True)/\(r=r/\(x.2.1=d/\u=l\/x.2.1=b/\l.length=20/\u=s))/\((1000:Int) - x.2.1).toNat<((1000:Int) - x.1).toNat)/\(y=false->(tV (n,x.2.2,p)/\FU x.2.2 x.1 h/\ζM (λK J ↦K<J) (cZ x.2.2 q h.toNat))/\(((g.bi g/\j.bi j/\k.bi k/\m.bi m/\True)/\D.bi D/\f.bi f/\True)/\b=b/\C=t)/\∀(x:Int×List Int),let E:=c o x.2 3 true;x.1=b/\x.2=t->(decide (x.1<h)=true->TP .i64 ((2:Int)*x.1)/\uM (bF.mk [(0,g),(1,j),(2,k),(6,a x.1),(7,v),(8,a ((2:Int)*x.1))] [E,f]))/\(decide (x.1<h)=false->(SV.IL []).bi (SV.IL [])/\E.bi (c o t 3 true)/\f.bi f/\True))) (by kernel_rfl) ?_;simp only[vcs];have O:∀a b,(cZ l a b).Pairwise (·<·):=λa b=>List.Pairwise.sublist ((θj _ _).trans (List.drop_sublist _ _)) hi;have T:((l.length:Int)).toNat=l.length:=by omega
 rw[T];refine⟨.inl trivial,?_⟩;rintro⟨a,b,w⟩ ⟨Q,hw⟩;simp only at Q hw ⊢;subst Q;refine⟨λh=>?_,λh=>?_⟩
 ·rcases hw with⟨rfl,rfl⟩|⟨rfl,I,rfl⟩;·refine⟨⟨⟨⟨hc,G⟩,H,F⟩,⟨?_,?_,?_⟩,O _ _⟩,?_,.inr ⟨?_,?_,rfl⟩,?_⟩<;>omega
  ·omega
 ·refine⟨?_,?_,?_⟩
  ·rcases hw with⟨rfl,rfl⟩|⟨rfl,I,rfl⟩;·refine⟨⟨⟨hc,G⟩,H,F⟩,⟨?_,?_,?_⟩,O _ _⟩<;>omega
   ·have hw:=@NP (eG p) l 0 20 (by omega) (by omega);exact⟨⟨⟨hc,by simp only[hw];exact G⟩,by simp only[hw];exact H,λx S=>F x (XI S)⟩,⟨by omega,by omega,by rw[hw];omega⟩,by rw[XD (by omega) (by omega)];exact O _ _⟩
  ·rcases hw with⟨rfl,rfl⟩|⟨rfl,I,rfl⟩;·exact NF rfl
   ·rw[I];show gr _ _ 20 20=_;rw[NN];exact NF I.symm
  ·rintro⟨s,w⟩ hw;simp only at hw ⊢;exact⟨λh=>by omega,λh=>NJ hw.2⟩
def Gl:cC:=FW 111 0 Unit zz CI (λ_=>rfl) XF XE (λa=>(tV a.1/\a.1.2.1.Pairwise (·<·))/\a.1.2.1.length<=20) λa=>dC (eG a.1.2.2) a.1.2.1
theorem Jq:g' Gl:=by refine jE (L:=[]) (W:=[Gm]) Gl lk (by simpa using Jl) (by simp) ?_;rintro⟨⟨n,l,p⟩,u⟩ ⟨⟨⟨⟨hc,e⟩,f,d⟩,hi⟩,c⟩;simp only at hc e f d hi c;refine NI (let a:=iZ.row (cj.i .i64) (dC (eG p) l) 3 true;let b:=iZ.cells (ew.ss p) 27 20 false;((tV (n,l,p)/\ζM (λh g ↦h<g) l)/\(↑n:Int)=(↑l.length:Int)/\l.length<=20)/\(SV.IL []).bi (SV.IL [])/\a.bi a/\b.bi b/\True) (by kernel_rfl) ?_;simp only[vcs];exact⟨⟨⟨⟨hc,e⟩,f,d⟩,hi⟩,by omega,c⟩
def bL (n:Nat):List Int:=(Γ n).map λi:Nat=>(i:Int)
theorem fj {n:Nat}:(bL n).length=n:=by simp[bL]
theorem oo {n:Nat}:bL (n+1)=bL n++[(n:Int)]:=by simp[bL,εl]
theorem om {n:Nat}:(bL n).Pairwise (·<·):=by unfold bL;rw[List.pairwise_map];exact List.pairwise_lt_range.imp λh=>by omega
theorem ik {n:Nat} {x:Int}:x∈bL n↔0<=x/\x<n:=by
 unfold bL;rw[Δ];constructor;·grind
 ·rintro⟨b,a⟩;exact⟨x.toNat,γt.2 (by omega),by omega⟩
def lP (n i:Nat):List Int:=bL i++δ (n - i) 0
theorem ND {n i:Nat} (h:i<=n):(lP n i).length=n:=by grind[lP,fj]
theorem Wm {n:Nat}:lP n 0=δ n 0:=by simp[lP,bL]
theorem Wl {n:Nat}:lP n n=bL n:=by simp[lP]
theorem Wk {n i:Nat} (h:i<n):(lP n i).set i (i:Int)=lP n (i+1):=by unfold lP;rw[List.set_append_right _ _ (by grind[fj]),fj,Nat.sub_self,show n - i=(n - (i+1))+1 by omega,δc,List.set_cons_zero,oo,γV];rfl
def tU (p:ew):List Int:=dC (eG p) (bL p.bj.length)
def Gk:NG:=⟨76,ew,.one cI,λp=>p.bj.length<=20,λp=> .row (.i .i64) (if nW p=0 then tU p else[])⟩
def Wj (p:ew):Nat->bH
 |5=> .inv Int (λi=>⟨[(1,.ptr 0 0 20),(3,.ow 1 (lP p.bj.length i.toNat).length 1),(13,.si .i64 p.bj.length),(14,.si .i64 i)],[.cells p.ss 27 20 false,.row (.i .i64) (lP p.bj.length i.toNat) 3 true]⟩)
   (λs=>iS s 14) (λi=>0<=i/\i<=p.bj.length) (λi=>(p.bj.length - i).toNat) λ_ _=> .look
 |_=> .look
theorem Jr:d' Gk:=by
 refine jY (L:=[nz]) (W:=fH [Gl]) Gk Wj (j6 (by simpa using Jq)) (by simpa using oT) ?_;intro(p:ew) (D:p.bj.length<=20);refine NI (let a:=γc .i64;let b:=(0:Int);let c:=iZ.row;let d:=Ω;let e:=γZ;let r:=decide (nW p≠b);let g:=cj.i .i64;let s:=d g (if nW p=b then tU p else[]);let h:=(↑p.bj.length:Int);let n:=γM 0 0 20;let l:=p.bj.length;let j:=(↑l:Int);let q:=a j;let o:=iZ.cells [a p.bm.a0,a p.bm.a1,a p.bm.a2,a p.bm.a3,a p.bm.a4,a p.bm.a5,a p.bs.a0,a p.bs.a1,a p.bs.a2,a p.bs.a3,a p.bs.a4,a p.bs.a5,a p.bt.a0,a p.bt.a1,a p.bt.a2,a p.bt.a3,a p.bt.a4,a p.bt.a5,d g p.bk,d cj.bu p.bj] 27 20 false;True/\(r=true->(d g []).bi s)/\(r=false->b<=h/\h<=h/\h*(8:Int)<=(140737488355328:Int)/\h<=(1000000000000:Int)/\(((n.bi n/\(e 1 h.toNat 1).bi (e 1 (lP l 0).length 1)/\(a (↑h.toNat:Int)).bi q/\(γu .i64 0).bi (a 0)/\True)/\o.bi o/\(c g (δ h.toNat b) 3 true).bi (c g (lP l 0) 3 true)/\True)/\b<=b/\b<=j)/\∀(x:Int),let f:=lP l x.toNat;let m:=f.length;let k:=x+(1:Int);let t:=a k;b<=x/\x<=j->(decide (x<j)=true->m=f.length/\b<=x/\x<(↑f.length:Int)/\m=f.length/\x.toNat<f.length/\TP .i64 k/\((n.bi n/\(e 1 m 1).bi (e 1 (lP l k.toNat).length 1)/\q.bi q/\t.bi t/\True)/\o.bi o/\(c g (f.set x.toNat x) 3 true).bi (c g (lP l k.toNat) 3 true)/\True)/\(b<=k/\k<=j)/\(j - k).toNat<(j - x).toNat)/\(decide (x<j)=false->((tV (m,f,p)/\ζM (λA z ↦A<z) f)/\m<=20)/\m=(dC (eG p) f).length/\(d g (dC (eG p) f)).bi s))) (by kernel_rfl) ?_;simp only[vcs];refine⟨λh=>by rw[if_neg h],λh=>?_⟩;have hc:nW p=0:=γa.1 h;rw[if_pos hc];have C:((p.bj.length:Int)).toNat=p.bj.length:=by omega
 have v:∀{x y:Nat},x=y->(γZ 1 x 1).bi (γZ 1 y 1):=by rintro _ _ rfl;rfl
 rw[C,Wm];refine⟨by omega,by omega,by omega,by omega,⟨⟨⟨v (by simp),rfl⟩,rfl⟩,by omega⟩,?_⟩;rintro i ⟨i0,i1⟩;have E:=@ND p.bj.length i.toNat (by omega);refine⟨λhi=>?_,λhi=>?_⟩
 ·have w:=@Wk p.bj.length i.toNat (by omega);rw[show((i.toNat:Nat):Int)=i by omega] at w;have JQ:=@ND p.bj.length (i.toNat+1) (by omega);rw[show(i+1).toNat=i.toNat+1 by omega,w];exact⟨i0,by omega,by omega,by omega,⟨v (by omega),rfl⟩,by omega⟩
 ·rw[show i.toNat=p.bj.length by omega,Wl];refine⟨⟨⟨⟨⟨hc,rfl⟩,by simp only[fj];omega,λx B=>by have:=ik.1 B;exact this⟩,om⟩,by simp only[fj];omega⟩,by rw[q_],rfl⟩
end Go.Vi
namespace Go.Proofs
open Go.Shelf
def Tryz.pL:Ren:=
 ⟨λ
  |189=>57
  |125=>69
  |257=>82
  |128=>98
  |129=>99
  |294=>117
  |295=>118
  |296=>119
  |297=>120
  |298=>121
  |299=>122
  |216=>123
  |300=>124
  |301=>125
  |328=>151
  |329=>127
  |330=>128
  |331=>152
  |332=>153
  |215=>154
  |343=>174
  |n=>n,
 λ
  |28=>24
  |3=>3
  |46=>55
  |0=>0
  |51=>172
  |53=>53
  |4=>4
  |183=>165
  |182=>164
  |131=>169
  |5=>5
  |9=>9
  |218=>209
  |222=>213
  |228=>246
  |229=>109
  |n=>n,
 λn=>n⟩
def Tryz.lC:Ren:=
 ⟨λ
  |41=>52
  |n=>n,
 λ
  |22=>24
  |23=>3
  |4=>4
  |n=>n,
 λn=>n⟩
def Tryz.pN:Ren:=
 ⟨λ
  |45=>147
  |n=>n,
 λ
  |22=>24
  |23=>3
  |3=>3
  |4=>4
  |0=>0
  |n=>n,
 λn=>n⟩
def Tryz.pM:Ren:=
 ⟨λ
  |6=>50
  |15=>69
  |14=>68
  |28=>98
  |29=>99
  |20=>90
  |21=>91
  |22=>92
  |23=>93
  |24=>94
  |25=>95
  |26=>96
  |27=>97
  |46=>126
  |47=>127
  |48=>128
  |49=>129
  |50=>130
  |57=>155
  |n=>n,
 λ
  |22=>30
  |24=>24
  |25=>34
  |3=>3
  |39=>55
  |0=>0
  |53=>172
  |55=>53
  |4=>4
  |46=>165
  |45=>164
  |50=>169
  |5=>5
  |9=>9
  |66=>209
  |70=>213
  |76=>246
  |77=>109
  |n=>n,
 λn=>n⟩
theorem Tryz.Ig:Lays.n189 Tryz.prog Tryz.pL:={mixed:=by kernel_rfl,f125:=Tryz.func69.trans (by kernel_rfl),f128:=Tryz.func98.trans (by kernel_rfl),f129:=Tryz.func99.trans (by kernel_rfl),f189:=Tryz.func57.trans (by kernel_rfl),f215:=Tryz.func154.trans (by kernel_rfl),f216:=Tryz.func123.trans (by kernel_rfl),f257:=Tryz.func82.trans (by kernel_rfl),f294:=Tryz.func117.trans (by kernel_rfl),f295:=Tryz.func118.trans (by kernel_rfl),f296:=Tryz.func119.trans (by kernel_rfl),f297:=Tryz.func120.trans (by kernel_rfl),f298:=Tryz.func121.trans (by kernel_rfl),f299:=Tryz.func122.trans (by kernel_rfl),f300:=Tryz.func124.trans (by kernel_rfl),f301:=Tryz.func125.trans (by kernel_rfl),f328:=Tryz.func151.trans (by kernel_rfl),f329:=Tryz.func127.trans (by kernel_rfl),f330:=Tryz.func128.trans (by kernel_rfl),f331:=Tryz.func152.trans (by kernel_rfl),f332:=Tryz.func153.trans (by kernel_rfl),f343:=Tryz.func174.trans (by kernel_rfl),t0:=Tryz.underlying0,a0:=Tryz.isAgg0,z0:=Tryz.sizeOf0,v0:=Tryz.zeroValue0,t3:=Tryz.underlying3,a3:=Tryz.isAgg3,z3:=Tryz.sizeOf3,v3:=Tryz.zeroValue3,t4:=Tryz.underlying4,a4:=Tryz.isAgg4,z4:=Tryz.sizeOf4,v4:=Tryz.zeroValue4,t5:=Tryz.underlying5,a5:=Tryz.isAgg5,z5:=Tryz.sizeOf5,v5:=Tryz.zeroValue5,t9:=Tryz.underlying9,a9:=Tryz.isAgg9,z9:=Tryz.sizeOf9,v9:=Tryz.zeroValue9,t28:=Tryz.underlying24,a28:=Tryz.isAgg24,z28:=Tryz.sizeOf24,v28:=Tryz.zeroValue24,t46:=Tryz.underlying55,a46:=Tryz.isAgg55,z46:=Tryz.sizeOf55,v46:=Tryz.zeroValue55,t51:=Tryz.underlying172,a51:=Tryz.isAgg172,z51:=Tryz.sizeOf172,v51:=Tryz.zeroValue172,t53:=Tryz.underlying53,a53:=Tryz.isAgg53,z53:=Tryz.sizeOf53,v53:=Tryz.zeroValue53,t131:=Tryz.underlying169,a131:=Tryz.isAgg169,z131:=Tryz.sizeOf169,v131:=Tryz.zeroValue169,t182:=Tryz.underlying164,a182:=Tryz.isAgg164,z182:=Tryz.sizeOf164,v182:=Tryz.zeroValue164,t183:=Tryz.underlying165,a183:=Tryz.isAgg165,z183:=Tryz.sizeOf165,v183:=Tryz.zeroValue165,t218:=Tryz.underlying209,a218:=Tryz.isAgg209,z218:=Tryz.sizeOf209,v218:=Tryz.zeroValue209,t222:=Tryz.underlying213,a222:=Tryz.isAgg213,z222:=Tryz.sizeOf213,v222:=Tryz.zeroValue213,t228:=Tryz.underlying246,a228:=Tryz.isAgg246,z228:=Tryz.sizeOf246,v228:=Tryz.zeroValue246,t229:=Tryz.underlying109,a229:=Tryz.isAgg109,z229:=Tryz.sizeOf109,v229:=Tryz.zeroValue109}
theorem Tryz.uB:SlLaysE0.n41 Tryz.prog Tryz.lC:={mixed:=by kernel_rfl,f41:=⟨Tryz.f52.name,by decide,Tryz.func52.trans (by kernel_rfl)⟩,t4:=Tryz.underlying4,a4:=Tryz.isAgg4,z4:=Tryz.sizeOf4,v4:=Tryz.zeroValue4,t22:=Tryz.underlying24,a22:=Tryz.isAgg24,z22:=Tryz.sizeOf24,v22:=Tryz.zeroValue24}
theorem Tryz.Ih:SlLaysE.n45 Tryz.prog Tryz.pN:={mixed:=by kernel_rfl,f45:=⟨Tryz.f147.name,by decide,Tryz.func147.trans (by kernel_rfl)⟩,t0:=Tryz.underlying0,a0:=Tryz.isAgg0,z0:=Tryz.sizeOf0,v0:=Tryz.zeroValue0,t3:=Tryz.underlying3,a3:=Tryz.isAgg3,z3:=Tryz.sizeOf3,v3:=Tryz.zeroValue3,t4:=Tryz.underlying4,a4:=Tryz.isAgg4,z4:=Tryz.sizeOf4,v4:=Tryz.zeroValue4,t22:=Tryz.underlying24,a22:=Tryz.isAgg24,z22:=Tryz.sizeOf24,v22:=Tryz.zeroValue24,a23:=Tryz.isAgg3,z23:=Tryz.sizeOf3}
theorem Tryz.uA:SlLaysF.n6 Tryz.prog Tryz.pM:={mixed:=by kernel_rfl,f6:=⟨Tryz.f50.name,by decide,Tryz.func50.trans (by kernel_rfl)⟩,f14:=⟨Tryz.f68.name,by decide,Tryz.func68.trans (by kernel_rfl)⟩,f15:=Tryz.func69.trans (by kernel_rfl),f20:=⟨Tryz.f90.name,by decide,Tryz.func90.trans (by kernel_rfl)⟩,f21:=⟨Tryz.f91.name,by decide,Tryz.func91.trans (by kernel_rfl)⟩,f22:=⟨Tryz.f92.name,by decide,Tryz.func92.trans (by kernel_rfl)⟩,f23:=⟨Tryz.f93.name,by decide,Tryz.func93.trans (by kernel_rfl)⟩,f24:=⟨Tryz.f94.name,by decide,Tryz.func94.trans (by kernel_rfl)⟩,f25:=⟨Tryz.f95.name,by decide,Tryz.func95.trans (by kernel_rfl)⟩,f26:=⟨Tryz.f96.name,by decide,Tryz.func96.trans (by kernel_rfl)⟩,f27:=⟨Tryz.f97.name,by decide,Tryz.func97.trans (by kernel_rfl)⟩,f28:=Tryz.func98.trans (by kernel_rfl),f29:=Tryz.func99.trans (by kernel_rfl),f46:=⟨Tryz.f126.name,by decide,Tryz.func126.trans (by kernel_rfl)⟩,f47:=Tryz.func127.trans (by kernel_rfl),f48:=Tryz.func128.trans (by kernel_rfl),f49:=⟨Tryz.f129.name,by decide,Tryz.func129.trans (by kernel_rfl)⟩,f50:=⟨Tryz.f130.name,by decide,Tryz.func130.trans (by kernel_rfl)⟩,f57:=⟨Tryz.f155.name,by decide,Tryz.func155.trans (by kernel_rfl)⟩,t0:=Tryz.underlying0,a0:=Tryz.isAgg0,z0:=Tryz.sizeOf0,v0:=Tryz.zeroValue0,t3:=Tryz.underlying3,a3:=Tryz.isAgg3,z3:=Tryz.sizeOf3,v3:=Tryz.zeroValue3,t4:=Tryz.underlying4,a4:=Tryz.isAgg4,z4:=Tryz.sizeOf4,v4:=Tryz.zeroValue4,t5:=Tryz.underlying5,a5:=Tryz.isAgg5,z5:=Tryz.sizeOf5,v5:=Tryz.zeroValue5,t9:=Tryz.underlying9,a9:=Tryz.isAgg9,z9:=Tryz.sizeOf9,v9:=Tryz.zeroValue9,t22:=Tryz.underlying30,a22:=Tryz.isAgg30,z22:=Tryz.sizeOf30,v22:=Tryz.zeroValue30,a24:=Tryz.isAgg24,z24:=Tryz.sizeOf24,t25:=Tryz.underlying34,a25:=Tryz.isAgg34,z25:=Tryz.sizeOf34,v25:=Tryz.zeroValue34,t39:=Tryz.underlying55,a39:=Tryz.isAgg55,z39:=Tryz.sizeOf55,v39:=Tryz.zeroValue55,t45:=Tryz.underlying164,a45:=Tryz.isAgg164,z45:=Tryz.sizeOf164,v45:=Tryz.zeroValue164,t46:=Tryz.underlying165,a46:=Tryz.isAgg165,z46:=Tryz.sizeOf165,v46:=Tryz.zeroValue165,t50:=Tryz.underlying169,a50:=Tryz.isAgg169,z50:=Tryz.sizeOf169,v50:=Tryz.zeroValue169,t53:=Tryz.underlying172,a53:=Tryz.isAgg172,z53:=Tryz.sizeOf172,v53:=Tryz.zeroValue172,t55:=Tryz.underlying53,a55:=Tryz.isAgg53,z55:=Tryz.sizeOf53,v55:=Tryz.zeroValue53,t66:=Tryz.underlying209,a66:=Tryz.isAgg209,z66:=Tryz.sizeOf209,v66:=Tryz.zeroValue209,t70:=Tryz.underlying213,a70:=Tryz.isAgg213,z70:=Tryz.sizeOf213,v70:=Tryz.zeroValue213,t76:=Tryz.underlying246,a76:=Tryz.isAgg246,z76:=Tryz.sizeOf246,v76:=Tryz.zeroValue246,t77:=Tryz.underlying109,a77:=Tryz.isAgg109,z77:=Tryz.sizeOf109,v77:=Tryz.zeroValue109}
end Go.Proofs
namespace Go.Proofs
open Go.Shelf Go.RowKit Go.Lib
theorem NC {P:Program} {ρ:Ren} (L:SlLaysE0.n41 P ρ) (i0:TypeInfo) (z:Value) (b g:Nat) (I:P.info? (ρ.t 23)=some i0) (x:i0.zero=some z) (y:i0.size=b) (q:i0.bytes=g) (m:z.cells.size=b) (o:0<b)
  (Q:∀w,(Go.sizeOf (ρ.t 23)).run P w= .ok b w) (p:Addr) (n c:Nat) (d:List Value) (w:World) (K:d.length=n*b) (U:n<=maxLen) (B:n*g<=140737488355328)
  (C:∀j u,d[j]?=some u->w.cell? (p.add j)=some u) (E:∀u∈d,u.oneCell'=true):
  Calls P (ρ.f 41) #[.slice (some p) n c] w λe w'=>∃l,e= .returned l/\w'.ownsRow w.heap.size (ρ.t 23) b l n d/\l≠ .slice none 0 0/\Below w.heap.size w w':=by
 have v:=L.mixed;have W:=L.t4;have V:=L.a4;have T:=L.z4;have S:=L.v4;have i:=L.t22;have N:=L.a22;have O:=L.z22;have H:=L.v22;have G:∀(w:World) (a:Option Addr) (n c r s:Nat),(binOp .eql (ρ.t 22) (.slice a n c) (.slice none r s)).run P w= .ok (.bool a.isNone) w:=λw a n c r s=>Lib.run_eql_slice_nil w _ _ a n c r s L.t22;have F:∀w,Sem.run P (underlying (ρ.t 22)) w= .ok (TypeDesc.slice (ρ.t 23)) w:=run_underlying i;have A:Aside (∀j u,d[j]?=some u->w.cell? (p.add j)=some u):=C;clear C;obtain⟨_,_,M⟩:=L.f41;go_enter M,SlBodyN.n41_ntmps ρ;go_wp2_with (at_builtin;refine wpList_append_own _ rfl _ _ (ρ.t 22) rfl w.heap.size (ρ.t 23) i0 z b g i I x y q m o _ _ _ rfl (World.ownsRow_made w #[] 0 (π _) (δ8 _) (by simp)) p n c d rfl ?qc1 ?qc2 ?qc3 ?Z ?Y ?X ?_);case qc1=>exact K
 case qc2=>
  intro j u J;exact Lib.cell?_alloc_some _ (A.out j u J)
 case qc3=>exact E
 case Z=>omega
 case Y=>simp_all
 case X=>simp
 intro l R D h k;go_wp2;go_ret;refine⟨l,rfl,by omega,?_,?_⟩;·exact k
 ·exact((Below.refl _ w).alloc (π _) _).grown h (by simp) (by grind[Value.ownBlock])
end Go.Proofs
namespace Go.Vi
open Go.Proofs.YtbnhiekmnpikhaaGreat.Ir
open Go.Proofs
theorem lO (l:List Int):bO (.i .i64) l=l.map λx=>δe (.int .i64 x):=by
 unfold bO;induction l with
 |nil=>rfl;|cons x l a=>rw[List.flatMap_cons,a];rfl
theorem NB {A:c_} {w:World} {σ:TN} {l:List Int} {e:TypeId} (d:Q5 A w σ [.cells (l.map λx=>δe (.int .i64 x)) e 1 true]) (s:1<=l.length):
  ∃b cap arr,σ=[some (b,cap)]/\cap<=maxLen/\w.heap[b]?=some (.cells arr e (0,0))/\arr.size=cap/\l.length<=cap/\arr.toList.take l.length=l.map (Value.int .i64):=by
 have f:=d.obj 0 _ rfl;simp only[cQ] at f;obtain⟨_,_,h|⟨b,cap,arr,a,n,g,r,p,i⟩⟩:=f;·simp_all
 ·have c:=d.len;simp at c;have m:l.length<=arr.size:=by simp_all
  refine⟨b,cap,arr,?_,n,g,by omega,by omega,?_⟩;·match σ,c,a with
   |[x],_,a=>simp_all
  ·apply List.ext_getElem?;intro j;by_cases k:j<l.length
   ·obtain⟨v,o,q⟩:=i j (.sc (.int .i64 l[j])) (by simp[k]);grind[nA]
   simp_all
def dv (l:List Int):List Int:=l.mergeSort λx y=>decide (x<=y)
theorem pT {l:List Int}:(dv l).length=l.length:=(δn _ _).length_eq
def xo:cC where
 f:=57;α:=Nat×List Int;put a:=[.ow 0 a.1 1];st a:=[.row (.i .i64) a.2 3 true];dec v o:=match v,o with
  |[.ow 0 n 1],[.row t l 3 true]=>match gX t (.i .i64) l with
   |some l=>some (n,l)
   |_=>none
  |_,_=>none;ok v o a h:=by
  split at h
  ·split at h
   next c=>simp only[γ] at h;subst h;obtain⟨rfl,m⟩:=lU c;cases m;exact⟨rfl,rfl⟩
   ·cases h
  ·cases h
 inj a b j d:=by
  obtain⟨n,l⟩:=a;obtain⟨p,k⟩:=b;simp only[gL,χ,ε8,εH,true_and] at j;simp only[gO,ν,γv,iZ.g,χ,OL.cells.injEq,and_true,true_and] at d;have c:l=k:=by have e:=congrArg γf d;rw[eh,eh] at e;exact kK (.i .i64) (by simpa[cj.sz] using e) d
  rw[j.1.1,c]
 dom a:=a.1=a.2.length/\1<=a.2.length/\a.2.length<=1000000;res _:=.IL [];out a:=[.row (.i .i64) (dv a.2) 3 true]
theorem zg:g' xo:=by
 rintro⟨n,l⟩ ⟨E,H,V⟩;simp only at E H V;subst E;refine⟨by kernel_rfl,?_⟩;intro A w F Q q s;have C:∀m:List Int,gO [iZ.row (.i .i64) m 3 true]=[OL.cells (m.map λx=>δe (.int .i64 x)) 3 1 true]:=λm=>by simp only[gO,ν,γv,iZ.g,lO];rfl
 have T:gL (xo.put (l.length,l))=[.os 0 0 l.length (l.length*1)]:=rfl;show Calls _ _ _ _ λe h=>∃u p,e= .returned u/\Q5 A h p (gO [iZ.row (.i .i64) (dv l) 3 true])/\nA A h p (gO [iZ.row (.i .i64) (dv l) 3 true]) (.IL []) u/\Ext w F (gO [iZ.row (.i .i64) l 3 true]) h p (gO [iZ.row (.i .i64) (dv l) 3 true]);replace q:Q5 A w F (gO [iZ.row (.i .i64) l 3 true]):=q;replace s:Aq A w F (gO [iZ.row (.i .i64) l 3 true]) (gL (xo.put (l.length,l))) Q:=s;rw[C] at q s;rw[C,C];rw[T] at s;obtain⟨b,Y,d,rfl,U,L,q4,q5,N⟩:=NB q H;simp only[Aq] at s;obtain⟨v,r,rfl,I,rfl⟩:=s;simp only[nA] at I;obtain⟨O,a,y,rfl,a0,B⟩:=I;have K:=B 1 ⟨_,_,_,rfl,by simp⟩;simp only[j9,δo] at K;obtain⟨rfl,rfl⟩:=K.2.1 trivial trivial (by omega);have P:b<w.heap.size:=q.ef 0 b y rfl;have R:=holds_of_blockI (ss:=l) L N;have S:Calls Tryz.prog (xo).f #[.slice (some ⟨b,0,none⟩) l.length y] w λe h=>e= .returned (.tuple #[])/\∃n z,h=Sort.grow (Sort.putRow (Value.int .i64) (Sort.ahead w n) b 0 (dv l).toArray) z:=
  calls_of_every_depth λD=>AnyS.slices_Sort_int_in Tryz.Ig D b 0 y l w R P (by omega);refine Calls.mono S ?_;rintro e h ⟨rfl,n,z,rfl⟩;have t:=grownBy_sortedI (w:=w) (g:=b) (n:=n) (os:=z) (dv l).toArray;have W:=heap_sortedI (w:=w) (n:=n) (os:=z) (dv l).toArray L;have X:=take_putCellsI d (dv l) (by rw[pT];omega);have hz:(Sort.putCells (Value.int .i64) 0 (dv l).toArray d).size=d.size:=by simp[Sort.putCells]
 generalize Sort.grow (Sort.putRow (Value.int .i64) (Sort.ahead w n) b 0 (dv l).toArray) z=h at*;generalize Sort.putCells (Value.int .i64) 0 (dv l).toArray d=o at*;have hU:=q.kj (w':=h) (id:=0) (x':=.cells ((dv l).map λx=>δe (.int .i64 x)) 3 1 true) (s':=some (b,y)) rfl t.size t.os t.tape t.output
  (λk M E=>t.block k M λe=>by simp_all) (λb' c' e=>by simp_all)
  ⟨_,_,_,rfl,by simp[pT],λ_=>rfl⟩ ?_;·grind[nA,Aq]
 ·intro hx;simp only[cQ];refine⟨λ_=>by rw[<-lO];grind[nV],by rw[<-lO];grind[Bl],.inr ⟨b,y,o,rfl,U,W,by omega,by grind[pT],?_⟩⟩;intro j c J;rw[γH] at J;obtain⟨x,G,rfl⟩:=ε.1 J;have Z:=(θ.1 G).1;refine⟨.int .i64 x,?_,by simp[nA,Value.oneCell']⟩;have h9:(o.toList.take (dv l).length)[j]?=((dv l).map (Value.int .i64))[j]?:=by rw[X]
  grind
theorem NA {A:c_} {w:World} {l:List Int} {vs:List Value} {m:FuncId} (n:m=Tryz.lC.f 41) (N:Q5 A w [] []) (K:l.length<=1000000) (B:Aq A w [] [] [.sl l.length (l.map λx=>δe (.int .i64 x))] vs):
  Calls Tryz.prog m vs.toArray w λe w'=>RowKit.Below w.heap.size w w'/\((e= .returned (.slice none 0 0)/\l=[])\/∃g cap c,e= .returned (.slice (some ⟨g,0,none⟩) l.length cap)/\w.heap.size<=g/\w'.heap[g]?=some (.cells c 3 (0,0))/\l.length<=cap/\cap<=maxLen/\c.size=cap/\c.toList.take l.length=l.map (Value.int .i64)):=by
 subst n;simp only[Aq] at B;obtain⟨v,r,rfl,t,rfl⟩:=B;simp only[nA] at t;obtain⟨a,cap,rfl,q,_,C⟩:=t;cases a with
 |none=>
  have z:l=[]:=by cases l<;>grind[cF]
  grind[Calls.mono,AnyE.slices_Clone_nil,Tryz.uB,RowKit.Below.refl];|some p=>
  have H:∀j u,(l.map (Value.int .i64))[j]?=some u->w.cell? (p.add j)=some u:=by intro j u s;rw[γH] at s;obtain⟨x,F,rfl⟩:=ε.1 s;obtain⟨b,v,e,_,o,y⟩:=cF.get _ _ _ C j (.sc (.int .i64 x)) (by simp[F]);grind[nA]
  refine Calls.mono (NC Tryz.uB Tryz.t3 (.int .i64 0) 1 8 (by kernel_rfl) (by kernel_rfl) (by kernel_rfl) (by kernel_rfl) (by kernel_rfl) (by omega) Tryz.sizeOf3 p l.length cap (l.map (Value.int .i64)) w (by simp) (by grind[maxLen]) (by omega) H (by simp[Value.oneCell'])) ?_;rintro e w' ⟨L,rfl,k,E,i⟩;refine⟨i,.inr ?_⟩;obtain⟨_,h|⟨g,d,c,rfl,J,I,D,G,M,O⟩⟩:=k;·simp_all
  ·exact⟨g,d,c,rfl,J,I,D,G,by omega,by simp_all⟩
def xn:NG:=⟨52,List Int,.one (cP (.i .i64)),λl=>l.length<=1000000,λl=> .row (.i .i64) l⟩
theorem zj:d' xn:=by
 intro(l:List Int) (r:l.length<=1000000);refine⟨by kernel_rfl,?_⟩;intro A w σ vs j n;have q:σ=[]:=by have:=j.len;simpa using this
 subst q;have z:gL (xn.A.put l)=[.sl l.length (l.map λx=>δe (.int .i64 x))]:=by rw[<-lO];rfl
 have y:(xn.res l).G= .sl l.length (l.map λx=>δe (.int .i64 x)):=by rw[<-lO];rfl
 rw[z] at n;rw[y];refine Calls.mono (NA (by rfl) j r n) ?_;rintro e w' ⟨a,h⟩;have d:Q5 A w' [] []:=⟨rfl,by simp,by simp,by simp,by simp,λb h=>γw (j.avb b h) a.size⟩;have o:Ext w [] [] w' [] []:=⟨a.size,λb h _=>⟨a.block b h,λ⟨i,c,hi⟩=>by simp at hi⟩,π _,λ_ _ ⟨_,_,_,_,h,_⟩=>by simp at h,λ_ ⟨_,_,_,h⟩=>by simp at h,a.os,a.tape,a.output⟩;rcases h with⟨rfl,rfl⟩|⟨g,cap,cur,rfl,h1,v,u,C,B,t⟩;·exact⟨_,[],rfl,d,by simp only[nA];exact⟨none,0,rfl,by simp,by rw[<-lO];exact nV _ _,by simp[cF]⟩,o⟩
 ·refine⟨_,[],rfl,d,?_,o⟩;simp only[nA];refine⟨_,_,rfl,u,by rw[<-lO];exact nV _ _,cF.kC _ _ _ λi c hi=>?_⟩;rw[γH] at hi;obtain⟨x,m,rfl⟩:=ε.1 hi;have k:=(θ.1 m).1;have p:(cur.toList.take l.length)[i]?=(l.map (Value.int .i64))[i]?:=by rw[t]
  rw[List.getElem?_take_of_lt k,Array.getElem?_toList,γH,m] at p;refine⟨⟨g,0,none⟩,.int .i64 x,rfl,⟨λ⟨i,c,hi⟩=>by simp at hi,λs=>by have:=j.avb g s;omega⟩,?_,by simp[nA,Value.oneCell']⟩;rw[Addr.add_lit];simp only[World.cell?,v,εf,Option.isSome_none,Bool.false_eq_true,if_false];exact p
def tT:cC where
 f:=52;α:=List Int;put a:=[.row (.i .i64) a];st a:=[];dec v o:=match v,o with
  |[.row t l],[]=>gX t (.i .i64) l
  |_,_=>none;ok v o a h:=by
  split at h
  ·obtain⟨rfl,d⟩:=lU h;cases d;exact⟨rfl,rfl⟩
  ·cases h
 inj a b c e:=by simp only[gL,χ,ε8,δ9,and_true] at c;exact kK (.i .i64) (by simpa using c.1) c.2
 dom a:=a.length<=1000000;res a:=.ow 0 a.length 1;out a:=[.row (.i .i64) a 3 true]
theorem sT:g' tT:=by
 intro(l:List Int) (E:l.length<=1000000);refine⟨by kernel_rfl,?_⟩;intro A w s G k p;replace k:Q5 A w s []:=k;replace p:Aq A w s [] (gL (tT.put l)) G:=p;have q:s=[]:=by have:=k.len;simp_all
 subst q;have F:gL (tT.put l)=[.sl l.length (l.map λx=>δe (.int .i64 x))]:=by rw[<-lO];rfl
 have B:(tT.res l).g= .os 0 0 l.length (l.length*1):=rfl;have D:gO (tT.out l)=[OL.cells (l.map λx=>δe (.int .i64 x)) 3 1 true]:=by rw[<-lO];rfl
 rw[F] at p;rw[B,D];show Calls _ _ _ _ λe n=>∃u f,e= .returned u/\Q5 A n f [OL.cells (l.map λx=>δe (.int .i64 x)) 3 1 true]/\nA A n f [OL.cells (l.map λx=>δe (.int .i64 x)) 3 1 true] (.os 0 0 l.length (l.length*1)) u/\Ext w [] [] n f [OL.cells (l.map λx=>δe (.int .i64 x)) 3 1 true];refine Calls.mono (NA (by rfl) k E p) ?_;rintro e n ⟨d,h⟩;have t:sC [OL.cells (l.map λx=>δe (.int .i64 x)) 3 1 true] 0 (l.length*1):=⟨_,_,_,_,rfl,by simp⟩;rcases h with⟨rfl,rfl⟩|⟨g,m,o,rfl,P,z,C,J,O,I⟩
 ·refine⟨_,[none],rfl,⟨rfl,?_,?_,?_,?_,λb h=>γw (k.avb b h) d.size⟩,?_,d.size,λb h _=>⟨d.block b h,?_⟩,δ8 _,λ_ _ ⟨_,_,_,_,h,_⟩=>by simp at h,λ_ ⟨_,_,_,h⟩=>by simp at h,d.os,d.tape,d.output⟩;·grind
  ·grind
  ·intro i x a;cases i with
   |zero=>
    simp at a;subst a;simp only[cQ];exact⟨λ_=>rfl,rfl,.inl (by simp)⟩;|succ i=>simp at a
  ·grind
  ·grind[nA,j9]
  ·rintro⟨i,c,a⟩;grind
 ·have L:g<n.heap.size:=(Array.getElem?_eq_some_iff.1 z).1;refine⟨_,[some (g,m)],rfl,⟨rfl,?_,?_,?_,?_,λb h=>γw (k.avb b h) d.size⟩,?_,d.size,λb h _=>⟨d.block b h,?_⟩,δ8 _,λ_ _ ⟨_,_,_,_,h,_⟩=>by simp at h,λ_ ⟨_,_,_,h⟩=>by simp at h,d.os,d.tape,d.output⟩;·grind
  ·grind
  ·intro i x a;cases i with
   |zero=>
    simp at a;subst a;simp only[cQ];refine⟨λ_=>by rw[<-lO];grind[nV],by rw[<-lO];grind[Bl],.inr ⟨g,m,o,rfl,J,z,by omega,by simp;omega,?_⟩⟩;intro j c v;rw[γH] at v;obtain⟨x,r,rfl⟩:=ε.1 v;have H:=(θ.1 r).1;refine⟨.int .i64 x,?_,by simp[nA,Value.oneCell']⟩;have N:(o.toList.take l.length)[j]?=(l.map (Value.int .i64))[j]?:=by rw[I]
    grind;|succ i=>simp at a
  ·intro i b c a;cases i with
   |zero=>
    simp at a;intro K;have:=k.avb b K;omega;|succ i=>simp at a
  ·simp only[nA];refine⟨t,_,_,rfl,C,λM y=>?_⟩;obtain⟨_,_,_,y,_⟩:=y;grind[j9,oA]
  ·rintro⟨i,c,a⟩;grind
def kS (l:List Int) (i j:Nat):List Int:=l.take i++l.drop j++δ (j - i) 0
theorem Nz {l:List Int} {i j:Nat} (a:i<=j) (b:j<=l.length):(kS l i j).length=l.length:=by grind[kS]
def tR:cC where
 f:=147;α:=(Nat×List Int)×Int×Int;put a:=[.ow 0 a.1.1 1,.si .i64 a.2.1,.si .i64 a.2.2];st a:=[.row (.i .i64) a.1.2 3 true];dec v o:=match v,o with
  |[.ow 0 n 1,x,y],[.row t l 3 true]=>match gX t (.i .i64) l,x.int .i64,y.int .i64 with
   |some l,some i,some j=>some ((n,l),i,j)
   |_,_,_=>none
  |_,_=>none;ok v o a h:=by
  split at h
  ·split at h
   next d r q=>simp only[γ] at h;subst h;obtain⟨rfl,p⟩:=lU d;cases p;refine⟨?_,rfl⟩;simp only[gL,iq r,iq q];rfl
   ·cases h
  ·cases h
 inj a b c e:=by
  obtain⟨⟨n,l⟩,i,j⟩:=a;obtain⟨⟨s,m⟩,w,u⟩:=b;simp only[gL,χ,ε8,εH,true_and,and_true,δa,Value.int.injEq] at c;simp only[gO,ν,γv,iZ.g,χ,OL.cells.injEq,and_true,true_and] at e;have d:l=m:=by have k:=congrArg γf e;rw[eh,eh] at k;exact kK (.i .i64) (by simpa[cj.sz] using k) e
  rw[c.1.1,d,c.2.1,c.2.2]
 dom a:=(a.1.1=a.1.2.length/\1<=a.1.2.length/\a.1.2.length<=1000000)/\0<=a.2.1/\a.2.1<=a.2.2/\a.2.2<=a.1.2.length;res a:=.os 0 0 (a.1.2.length - (a.2.2 - a.2.1).toNat) a.1.1 1;out a:=[.row (.i .i64) (kS a.1.2 a.2.1.toNat a.2.2.toNat) 3 true]
theorem Jf:g' tR:=by
 rintro⟨⟨n,l⟩,i,j⟩ ⟨⟨H,K,h2⟩,i0,ij,Y⟩;simp only at H K h2 i0 ij Y;subst H;obtain⟨i,rfl⟩:∃k:Nat,i=k:=⟨i.toNat,by omega⟩;obtain⟨j,rfl⟩:∃k:Nat,j=k:=⟨j.toNat,by omega⟩;refine⟨by kernel_rfl,?_⟩;intro A w F X t z;have I:∀m:List Int,gO [iZ.row (.i .i64) m 3 true]=[OL.cells (m.map λx=>δe (.int .i64 x)) 3 1 true]:=λm=>by simp only[gO,ν,γv,iZ.g,lO];rfl
 have V:gL (tR.put ((l.length,l),(i:Int),(j:Int)))=[.os 0 0 l.length (l.length*1),.sc (.int .i64 i),.sc (.int .i64 j)]:=rfl;have Z:(tR.res ((l.length,l),(i:Int),(j:Int))).g= .os 0 0 (l.length - (j - i)) (l.length*1):=by show AV.os 0 (0*1) (l.length - ((j:Int) - (i:Int)).toNat) (l.length*1)=_;simp_all
 show Calls _ _ _ _ λe h=>∃u p,e= .returned u/\Q5 A h p (gO [iZ.row (.i .i64) (kS l i j) 3 true])/\nA A h p (gO [iZ.row (.i .i64) (kS l i j) 3 true]) (tR.res ((l.length,l),(i:Int),(j:Int))).g u/\Ext w F (gO [iZ.row (.i .i64) l 3 true]) h p (gO [iZ.row (.i .i64) (kS l i j) 3 true]);replace t:Q5 A w F (gO [iZ.row (.i .i64) l 3 true]):=t;replace z:Aq A w F (gO [iZ.row (.i .i64) l 3 true]) (gL (tR.put ((l.length,l),(i:Int),(j:Int)))) X:=z;rw[I] at t z;rw[I,I,Z];rw[V] at z;obtain⟨b,a2,d,rfl,S,Q,q4,q5,q6⟩:=NB t K;simp only[Aq] at z;obtain⟨v,r,rfl,M,v2,r2,rfl,C,v3,r3,rfl,D,rfl⟩:=z;simp only[nA] at M C D;obtain⟨a0,a,s,rfl,a3,J⟩:=M;obtain⟨rfl,_⟩:=C;obtain⟨rfl,_⟩:=D;have O:=J 1 ⟨_,_,_,rfl,by simp⟩;simp only[j9,δo] at O;obtain⟨rfl,rfl⟩:=O.2.1 trivial trivial (by omega);have hb:b<w.heap.size:=t.ef 0 b s rfl;have W:=holds_of_blockI (ss:=l) Q q6;have T:maxLen=9223372036854775807:=rfl;have B:=@Nz l i j (by omega) (by omega);have E:Calls Tryz.prog (tR).f #[.slice (some ⟨b,0,none⟩) l.length s,.int .i64 i,.int .i64 j] w λe h=>e= .returned (.slice (some ⟨b,0,none⟩) (l.length - (j - i)) s)/\∃q,h=Sort.putRow (Value.int .i64) (Sort.ahead w q) b 0 (kS l i j).toArray:=by exact AnyE.slices_Delete Tryz.Ih (Value.int .i64) (λ_=>rfl) 0 Tryz.zeroValue3 Tryz.t3 (by kernel_rfl) (by kernel_rfl) b 0 s i j l.toArray w W (by omega) (by omega) (by omega) (by simp;omega)
 refine Calls.mono E ?_;rintro e h ⟨rfl,q,rfl⟩;have y:=grownBy_sortedI (w:=w) (g:=b) (n:=q) (os:=#[]) (kS l i j).toArray;have L:=heap_sortedI (w:=w) (n:=q) (os:=#[]) (kS l i j).toArray Q;rw[Sort.grow_empty] at y L;have R:=take_putCellsI d (kS l i j) (by omega);have hz:(Sort.putCells (Value.int .i64) 0 (kS l i j).toArray d).size=d.size:=by simp[Sort.putCells]
 generalize Sort.putRow (Value.int .i64) (Sort.ahead w q) b 0 (kS l i j).toArray=h at*;generalize Sort.putCells (Value.int .i64) 0 (kS l i j).toArray d=o at*;have N:=t.kj (w':=h) (id:=0) (x':=.cells ((kS l i j).map λx=>δe (.int .i64 x)) 3 1 true) (s':=some (b,s)) rfl y.size y.os y.tape y.output
  (λk U H=>y.block k U λe=>by simp_all) (λb' c' e=>by simp_all)
  ⟨_,_,_,rfl,by simp[B],λ_=>rfl⟩ ?_
 ·refine⟨_,[some (b,s)],rfl,N.1,?_,N.2⟩;simp only[nA];refine⟨⟨_,_,_,_,rfl,by simp[B]⟩,_,_,rfl,by omega,λsz E=>?_⟩;obtain⟨_,_,_,E,_⟩:=E;grind[j9]
 ·intro hx;simp only[cQ];refine⟨λ_=>by rw[<-lO];exact nV _ _,by rw[<-lO];exact Bl _ _,.inr ⟨b,s,o,rfl,S,L,by omega,by simp_all,?_⟩⟩;intro k c P;rw[γH] at P;obtain⟨x,G,rfl⟩:=ε.1 P;have a1:=(θ.1 G).1;refine⟨.int .i64 x,?_,by simp[nA,Value.oneCell']⟩;have h9:(o.toList.take (kS l i j).length)[k]?=((kS l i j).map (Value.int .i64))[k]?:=by rw[R]
  grind
structure bY where
 rows:List (List Int)
 bounds:List Int
 bj:List bA
def xm:pH bY where
 put a:=.agg [.row (.zi (.i .i64)) a.rows,.row (.i .i64) a.bounds,.row .bu a.bj];dec
  | .agg [r,v,x]=>match fZ (.zi (.i .i64)) r,fZ (.i .i64) v,fZ .bu x with
   |some c,some v,some x=>some ⟨c,v,x⟩
   |_,_,_=>none
  |_=>none;ok v a h:=by grind[ε8,gL,jF]
 inj a b h:=by obtain⟨c,v,x⟩:=a;obtain⟨l,k,j⟩:=b;simp only[ε8,gL,AV.agg.injEq,χ,and_true,true_and,δ9] at h;have e:=kK (.zi (.i .i64)) h.1.1 h.1.2;have d:=kK (.i .i64) h.2.1.1 h.2.1.2;have f:=kK .bu h.2.2.1 h.2.2.2;rw[e,d,f]
def vk:NG:=⟨61,ew,.one cI,λ_=>True,λp=> .si .i64 (if nW p=0 then cr p else 0)⟩
theorem rm:d' vk:=by refine bI (L:=[nz,wv]) vk lk (by grind[oT,rr]) ?_;rintro(p:ew) -;refine NI (let c:=(0:Int);let b:=decide (nW p≠c);let a:=γc .i64 (if nW p=c then cr p else c);True/\(b=true->(γu .i64 0).bi a)/\(b=false->p.bk.length<=8/\(γc .i64 (cr p)).bi a)) (by kernel_rfl) ?_;simp only[vcs];refine⟨λh=>by rw[if_neg h],λh=>?_⟩;have c:nW p=0:=γa.1 h;rw[if_pos c];have:=(cT c).1;omega
def gG (p:ew) (r:Int) (n:Nat):List Int:=(p.bj.take n).map (dE p r)
def Ay:NG:=⟨107,ew×Int,.cons cI (.one (dY .i64)),λa=>nW a.1=0/\0<=a.2/\a.2<cr a.1,λa=> .IL [.row (.i .i64) (gG a.1 a.2 a.1.bj.length),.si .i64 (cB a.1 a.2)]⟩
def Wi (a:ew×Int):Nat->bH
 |5=> .inv Int (λi=>⟨[(1,.si .i64 a.2),(4,.ow 1 (gG a.1 a.2 i.toNat).length 1),(6,.ptr 2 0 20),(20,.row .bu a.1.bj),(21,.si .i64 a.1.bj.length),(22,.si .i64 i)],[.cells a.1.ss 27 20 false,.row (.i .i64) (gG a.1 a.2 i.toNat) 3 true,.cells a.1.ss 87 20 false]⟩)
   (λs=>iS s 22) (λi=>0<=i/\i<=a.1.bj.length) (λi=>(a.1.bj.length - i).toNat) λ_ _=> .look
 |_=> .look
theorem zh:d' Ay:=by
 refine bI (L:=[vk,wt,wu]) Ay Wi (by simpa using⟨rm,ry,rq⟩) ?_;rintro⟨p,r⟩ ⟨hc,H,G⟩;simp only at hc H G;refine NI (let a:=γc .i64;let b:=(0:Int);let c:=Ω;let d:=iZ.row;let e:=SV.IL;let f:=γZ;let g:=cj.i .i64;let l:=c cj.bu p.bj;let v:=decide (r<b);let o:=γu .i64 0;let w:=[a (cB p r)];let q:=e (c g (gG p r p.bj.length)::w);let y:=decide ((if nW p=b then cr p else b)<=r);let m:=γM 2 0 20;let z:=(↑p.bj.length:Int);let h:=(↑p.bj.length:Int);let s:=a h;let n:=λ(u:Nat) ↦let A:=iZ.cells [a p.bm.a0,a p.bm.a1,a p.bm.a2,a p.bm.a3,a p.bm.a4,a p.bm.a5,a p.bs.a0,a p.bs.a1,a p.bs.a2,a p.bs.a3,a p.bs.a4,a p.bs.a5,a p.bt.a0,a p.bt.a1,a p.bt.a2,a p.bt.a3,a p.bt.a4,a p.bt.a5,c g p.bk,l] u 20 false;A.bi A;(v=true->0=0/\(e [c g [],o]).bi q)/\(v=false->True/\(y=true->0=0/\(e [c g [],o]).bi q)/\(y=false->((((a r).bi (a r)/\(f 1 0 1).bi (f 1 (gG p r 0).length 1)/\m.bi m/\l.bi l/\(a z).bi s/\o.bi (a 0)/\True)/\n 27/\(d g [] 3 true).bi (d g (gG p r 0) 3 true)/\n 87/\True)/\b<=b/\b<=h)/\∀(x:Int),let t:=bN p.bj x.toNat cj.bu.bw;let j:=gG p r x.toNat;let B:=j.length+1;let k:=x+(1:Int);let C:=j++[dE p r t];let D:=a k;b<=x/\x<=h->(decide (x<h)=true->b<=x/\x<z/\x.toNat<p.bj.length/\(p.bk.length<=8/\b<=r/\r<cr p/\b<=t.Gz/\t.Gz<(↑p.bk.length:Int))/\j.length=j.length/\B*8<=140737488355328/\B<=1000000000000/\TP .i64 k/\(((a r).bi (a r)/\(f 1 C.length 1).bi (f 1 (gG p r k.toNat).length 1)/\m.bi m/\l.bi l/\s.bi s/\D.bi D/\True)/\n 27/\(d g C 3 true).bi (d g (gG p r k.toNat) 3 true)/\n 87/\True)/\(b<=k/\k<=h)/\(h - k).toNat<(h - x).toNat)/\(decide (x<h)=false->(p.bk.length<=8/\b<=r/\r<cr p)/\j.length=j.length/\(e (c g j::w)).bi q)))) (by kernel_rfl) ?_;simp only[vcs];obtain⟨g1,g2,g3,g4,g5⟩:=cT hc;have F:∀{x y:Nat},x=y->(γZ 1 x 1).bi (γZ 1 y 1):=by rintro _ _ rfl;rfl
 have E:∀{x y:List Int},x=y->(iZ.row (.i .i64) x 3 true).bi (iZ.row (.i .i64) y 3 true):=by rintro _ _ rfl;rfl
 rw[if_pos hc];refine⟨λh=>by omega,λ_=>⟨λh=>by omega,λ_=>⟨⟨?_,by omega⟩,?_⟩⟩⟩;·exact⟨F rfl,E rfl⟩
 ·rintro i ⟨i0,i1⟩;have J:(gG p r i.toNat).length<=160:=by unfold gG;rw[Φ,γx];omega
  refine⟨λhi=>?_,λhi=>?_⟩
  ·have I:=g5 _ (cy (d:=cj.bu.bw) (show i.toNat<p.bj.length by omega));have e:gG p r (i+1).toNat=gG p r i.toNat++[dE p r (bN p.bj i.toNat cj.bu.bw)]:=by unfold gG;rw[iG (d:=cj.bu.bw) i0 hi,γb];rfl
   rw[e];refine⟨i0,hi,?_,⟨g1,H,G,I.1,I.2.1⟩,?_,?_,?_,⟨F rfl,E rfl⟩,?_,?_⟩<;>omega
  ·rw[show i.toNat=p.bj.length by omega];exact⟨⟨g1,H,G⟩,rfl⟩
def k9 (p:ew) (n:Nat):List (List Int):=(Γ n).map λr:Nat=>gG p r p.bj.length
def jS (p:ew) (n:Nat):List Int:=(Γ n).map λr:Nat=>cB p r
def nR (p:ew):Nat:=if nW p=0 then p.bk.length+12 else 0
def bV (p:ew):bY:=⟨k9 p (nR p),jS p (nR p),p.bj⟩
theorem Ny {p:ew} {n:Nat}:(k9 p n).length=n:=by simp[k9]
theorem Ax {p:ew} {n:Nat}:(jS p n).length=n:=by simp[jS]
theorem Wh {p:ew} {i:Int} (h:0<=i):k9 p (i+1).toNat=k9 p i.toNat++[gG p i p.bj.length]:=by unfold k9;rw[show(i+1).toNat=i.toNat+1 from by omega,εl,γb];grind
theorem Wg {p:ew} {i:Int} (h:0<=i):jS p (i+1).toNat=jS p i.toNat++[cB p i]:=by unfold jS;rw[show(i+1).toNat=i.toNat+1 from by omega,εl,γb];grind
def Aw:NG:=⟨73,ew,.one cI,λ_=>True,λp=>xm.put (bV p)⟩
def Wf (p:ew):Nat->bH
 |3=> .inv Int (λi=>⟨[(1,.ptr 0 0 20),(2,.ptr 1 0 3),(3,.ptr 2 0 3),(11,.si .i64 (nR p)),(12,.si .i64 i)],[.cells p.ss 27 20 false,.cells [.sc (.slice none 0 0),.sc (.slice none 0 0),.sc (.slice none 0 0)] 130 3 false,.cells [.ow 4 (k9 p i.toNat).length 1,.ow 3 (jS p i.toNat).length 1,.row .bu p.bj] 130 3 false,.row (.i .i64) (jS p i.toNat) 3 true,.row (.zi (.i .i64)) (k9 p i.toNat) 24 false]⟩)
   (λs=>iS s 12) (λi=>0<=i/\i<=nR p) (λi=>(nR p - i).toNat) λ_ _=> .look
 |_=> .look
theorem zm:d' Aw:=by
 refine bI (L:=[vk,Ay]) Aw Wf (by grind[rm,zh]) ?_;rintro(p:ew) -;refine NI (let a:=γc .i64;let b:=iZ.row;let h:=(0:Int);let j:=iZ.cells;let l:=Ω;let o:=γZ;let y:=γM;let w:=y 0 0 20;let s:=y 1 0 3;let t:=y 2 0 3;let g:=(↑(nR p):Int);let z:=a g;let f:=cj.i .i64;let k:=[l cj.bu p.bj];let u:=j (a p.bm.a0::a p.bm.a1::a p.bm.a2::a p.bm.a3::a p.bm.a4::a p.bm.a5::a p.bs.a0::a p.bs.a1::a p.bs.a2::a p.bs.a3::a p.bs.a4::a p.bs.a5::a p.bt.a0::a p.bt.a1::a p.bt.a2::a p.bt.a3::a p.bt.a4::a p.bt.a5::l f p.bk::k) 27 20 false;let A:=SV.sc (Value.slice none 0 0);let v:=j [A,A,A] 130 3 false;True/\(((w.bi w/\s.bi s/\t.bi t/\(a (if nW p=h then cr p else h)).bi z/\(γu .i64 0).bi (a 0)/\True)/\u.bi u/\v.bi v/\(j (o 4 0 1::o 3 0 1::k) 130 3 false).bi (j (o 4 (k9 p 0).length 1::o 3 (jS p 0).length 1::k) 130 3 false)/\(b f [] 3 true).bi (b f (jS p 0) 3 true)/\(b f.zi [] 24 false).bi (b f.zi (k9 p 0) 24 false)/\True)/\h<=h/\h<=g)/\∀(x:Int),let e:=k9 p x.toNat;let n:=e.length+1;let d:=jS p x.toNat;let m:=d.length+1;let c:=x+(1:Int);let r:=a c;let q:=e++[gG p x p.bj.length];h<=x/\x<=g->(decide (x<g)=true->(nW p=h/\h<=x/\x<cr p)/\1=1/\e.length=e.length/\n*24<=140737488355328/\n<=1000000000000/\1=1/\d.length=d.length/\m*8<=140737488355328/\m<=1000000000000/\TP .i64 c/\((w.bi w/\s.bi s/\t.bi t/\z.bi z/\r.bi r/\True)/\u.bi u/\v.bi v/\(j (o 4 q.length 1::o 3 (d++[cB p x]).length 1::k) 130 3 false).bi (j (o 4 (k9 p c.toNat).length 1::o 3 (jS p c.toNat).length 1::k) 130 3 false)/\(b f (d++[cB p x]) 3 true).bi (b f (jS p c.toNat) 3 true)/\(b f.zi q 24 false).bi (b f.zi (k9 p c.toNat) 24 false)/\True)/\(h<=c/\c<=g)/\(g - c).toNat<(g - x).toNat)/\(decide (x<g)=false->e.length=e.length/\d.length=d.length/\(γG (l f.zi e::l f d::k)).bi (γG [l f.zi (bV p).rows,l f (bV p).bounds,l cj.bu (bV p).bj]))) (by kernel_rfl) ?_;simp only[vcs];have J:∀x:Int,0<=x->x<nR p->nW p=0/\x<cr p/\nR p<=20:=by
  intro x H B;unfold nR at B ⊢;split at B
  next G=>have:=(cT G).1;simp_all[cr]
  ·omega
 have E:(if nW p=0 then cr p else 0)=((nR p:Nat):Int):=by grind[nR,cr]
 have j:∀{a C b D:Nat} {l:List bA},a=C->b=D->(iZ.cells [.ow 4 a 1,.ow 3 b 1,.row .bu l] 130 3 false).bi (.cells [.ow 4 C 1,.ow 3 D 1,.row .bu l] 130 3 false):=by rintro _ _ _ _ _ rfl rfl;rfl
 have o:∀{x y:List Int},x=y->(iZ.row (.i .i64) x 3 true).bi (iZ.row (.i .i64) y 3 true):=by rintro _ _ rfl;rfl
 have h:∀{x y:List (List Int)},x=y->(iZ.row (.zi (.i .i64)) x 24 false).bi (iZ.row (.zi (.i .i64)) y 24 false):=by rintro _ _ rfl;rfl
 refine⟨⟨⟨E,j rfl rfl,o rfl,h rfl⟩,by omega⟩,?_⟩;rintro i ⟨I,K⟩;refine⟨λF=>?_,λF=>?_⟩;·grind[Ny,Ax,Wh,Wg]
 ·rw[show i.toNat=nR p by omega];rfl
def mr (g:bY):Prop:=(g.rows.length=g.bounds.length/\g.bounds.length<=1000/\g.bj.length<=1000)/\(∀r∈g.rows,r.length=g.bj.length/\∀x∈r,0<=x/\x<=1000)/\∀b∈g.bounds, -1000<=b/\b<=1000
def oj (g:bY) (c:List Int):Prop:=∀x∈c,0<=(bN g.bj x.toNat cj.bu.bw).value/\(bN g.bj x.toNat cj.bu.bw).value<=1000000
def nM (g:bY) (c:List Int):Prop:=c.length<=1000/\∀x∈c,0<=x/\x<g.bj.length
def k8 (g:bY) (c:List Int) (r:Nat):Int:=(c.map λx=>bN (bN g.rows r []) x.toNat 0).sum
def kx (g:bY) (c:List Int):Bool:=(Γ g.bounds.length).all λr=>decide (0<=bN g.bounds r 0 - k8 g c r)
def cR (g:bY) (c:List Int):Int:=(c.map λx=>(bN g.bj x.toNat cj.bu.bw).value).sum
theorem N4 {f:Int->Int} {c:List Int} {i:Int} (a:0<=i) (h:i<c.length):((c.take (i+1).toNat).map f).sum=((c.take i.toNat).map f).sum+f (bN c i.toNat 0):=by grind[iG]
theorem Gj {f:Int->Int} {c:List Int} {k:Nat} {m:Int} (b:0<=m) (h:∀x∈c,0<=f x/\f x<=m):0<=((c.take k).map f).sum/\((c.take k).map f).sum<=c.length*m:=by
 induction c generalizing k with
 |nil=>simp;|cons x c a=>
  cases k with
  |zero=>simp;exact γz (by omega) b;|succ k=>
   have i:=h x (by simp);obtain⟨g,e⟩:=a (k:=k) λy d=>h y (by simp[d]);simp only[δv,ν,List.sum_cons,γC];grind
def Av:NG:=⟨78,bY×List Int,.cons xm (.one (cP (.i .i64))),λa=>mr a.1/\nM a.1 a.2,λa=> .sb (kx a.1 a.2)⟩
def We (g:bY) (c:List Int):Nat->bH
 |2=> .inv Int (λi=>⟨[(1,.row (.i .i64) c),(2,.ptr 0 0 3),(10,.row (.i .i64) g.bounds),(11,.si .i64 g.bounds.length),(12,.si .i64 i)],[.cells [.row (.zi (.i .i64)) g.rows,.row (.i .i64) g.bounds,.row .bu g.bj] 130 3 false]⟩)
   (λs=>iS s 12) (λi=>(0<=i/\i<=g.bounds.length)/\∀r:Nat,r<i->0<=bN g.bounds r 0 - k8 g c r) (λi=>(g.bounds.length - i).toNat) λi k=>match k with
   |5=> .inv (Int×Int) (λy=>⟨[(1,.row (.i .i64) c),(2,.ptr 0 0 3),(5,.si .i64 i),(6,.si .i64 y.2),(10,.row (.i .i64) g.bounds),(11,.si .i64 g.bounds.length),(12,.si .i64 i),(17,.row (.i .i64) c),(18,.si .i64 c.length),(19,.si .i64 y.1)],[.cells [.row (.zi (.i .i64)) g.rows,.row (.i .i64) g.bounds,.row .bu g.bj] 130 3 false]⟩)
     (λs=>(iS s 19,iS s 6)) (λy=>(0<=y.1/\y.1<=c.length)/\y.2=bN g.bounds i.toNat 0 - k8 g (c.take y.1.toNat) i.toNat) (λy=>(c.length - y.1).toNat) λ_ _=> .look
   |_=> .look
 |_=> .look
theorem zk:d' Av:=by
 refine bI (L:=[]) Av (λa=>We a.1 a.2) (by simp) ?_;rintro⟨g,c⟩ ⟨⟨⟨Y,q2,q3⟩,hr,U⟩,O,C⟩;simp only at Y q2 q3 hr U O C;refine NI (let a:=(0:Int);let d:=γc .i64;let f:=Ω;let h:=γu .i64 0;let j:=TP .i64;let e:=cj.i .i64;let t:=γM 0 0 3;let o:=f e g.bounds;let Q:=(↑g.bounds.length:Int);let q:=(↑g.bounds.length:Int);let z:=d q;let u:=iZ.cells [f e.zi g.rows,o,f cj.bu g.bj] 130 3 false;let s:=(↑c.length:Int);let I:=d s;((((f e c).bi (f e c)/\t.bi t/\o.bi o/\(d Q).bi z/\(h).bi (d 0)/\True)/\u.bi u/\True)/\(a<=a/\a<=q)/\∀(r:Nat),(↑r:Int)<a->a<=bN g.bounds r a - k8 g c r)/\∀(x:Int),let F:=bN g.bounds x.toNat a;let E:=d F;let y:=bN g.rows x.toNat e.zi.bw;let k:=x+(1:Int);let A:=d k;((a<=x/\x<=q)/\∀(r:Nat),(↑r:Int)<x->a<=bN g.bounds r a - k8 g c r)->(decide (x<q)=true->a<=x/\x<Q/\x.toNat<g.bounds.length/\((((f e c).bi (f e c)/\t.bi t/\(d x).bi (d x)/\E.bi E/\o.bi o/\z.bi z/\(d x).bi (d x)/\(f e c).bi (f e c)/\(d (↑c.length:Int)).bi I/\(h).bi (d 0)/\True)/\u.bi u/\True)/\(a<=a/\a<=s)/\F=F - k8 g [] x.toNat)/\∀(b:Int×Int),let p:=bN c b.1.toNat a;let w:=b.2 - bN y p.toNat a;let l:=b.1+(1:Int);let n:=d x;let H:=d w;let D:=d l;let G:=decide (b.2<a);(a<=b.1/\b.1<=s)/\b.2=F - k8 g (Ξ b.1.toNat c) x.toNat->(decide (b.1<s)=true->a<=b.1/\b.1<(↑c.length:Int)/\b.1.toNat<c.length/\a<=x/\x<(↑g.rows.length:Int)/\x.toNat<g.rows.length/\a<=p/\p<(↑y.length:Int)/\p.toNat<y.length/\j w/\j l/\(((f e c).bi (f e c)/\t.bi t/\n.bi n/\H.bi H/\o.bi o/\z.bi z/\n.bi n/\(f e c).bi (f e c)/\I.bi I/\D.bi D/\True)/\u.bi u/\True)/\((a<=l/\l<=s)/\w=F - k8 g (Ξ l.toNat c) x.toNat)/\(s - l).toNat<(s - b.1).toNat)/\(decide (b.1<s)=false->(G=true->(δb false).bi (γA (kx g c)))/\(G=false->j k/\(((f e c).bi (f e c)/\t.bi t/\o.bi o/\z.bi z/\A.bi A/\True)/\u.bi u/\True)/\((a<=k/\k<=q)/\∀(r:Nat),(↑r:Int)<k->a<=bN g.bounds r a - k8 g c r)/\(q - k).toNat<(q - x).toNat)))/\(decide (x<q)=false->(δb true).bi (γA (kx g c)))) (by kernel_rfl) ?_;simp only[vcs];have hd:(cj.i IntKind.i64).zi.bw=([]:List Int):=rfl;rw[hd];have M:∀r:Nat,r<g.rows.length->(bN g.rows r []).length=g.bj.length/\∀x∈c,0<=bN (bN g.rows r []) x.toNat 0/\bN (bN g.rows r []) x.toNat 0<=1000:=λr h=>by grind[cy]
 refine⟨⟨by omega,λr h=>by omega⟩,?_⟩;rintro i ⟨⟨Z,i1⟩,K⟩;refine⟨λP=>⟨Z,P,by omega,⟨by omega,by simp[k8]⟩,?_⟩,λP=>?_⟩
 ·obtain⟨W,B⟩:=M i.toNat (by omega);have a1:=U _ (cy (d:=0) (show i.toNat<g.bounds.length by omega));rintro⟨j,v⟩ ⟨⟨S,j1⟩,J⟩;simp only at S j1 J ⊢;refine⟨λV=>?_,λV=>?_⟩
  ·have hx:=C _ (cy (d:=0) (show j.toNat<c.length by omega));have hs:k8 g (c.take (j+1).toNat) i.toNat=k8 g (c.take j.toNat) i.toNat+bN (bN g.rows i.toNat []) (bN c j.toNat 0).toNat 0:=N4 (f:=λx=>bN (bN g.rows i.toNat []) x.toNat 0) S V;have X:0<=k8 g (c.take j.toNat) i.toNat/\k8 g (c.take j.toNat) i.toNat<=c.length*1000:=Gj (f:=λx=>bN (bN g.rows i.toNat []) x.toNat 0) (m:=1000) (by omega) B;have a0:=B _ (cy (d:=0) (show j.toNat<c.length by omega));omega
  ·have N:j.toNat=c.length:=by omega
   rw[N,φ] at J;refine⟨λR=>?_,λT=>⟨by omega,⟨by omega,λr h=>?_⟩,by omega⟩⟩
   ·symm;rw[<-Bool.not_eq_true,kx,τ];intro h;have:=of_decide_eq_true (h i.toNat (γt.2 (by omega)));omega
   ·by_cases h2:(r:Int)<i;·simp_all
    ·rw[show r=i.toNat by omega,<-J];omega
 grind[kx]
def vj:NG:=⟨75,bY×List Int,.cons xm (.one (cP (.i .i64))),λa=>mr a.1/\nM a.1 a.2/\oj a.1 a.2,λa=> .si .i64 (cR a.1 a.2)⟩
def Wd (g:bY) (c:List Int):Nat->bH
 |3=> .inv Int (λi=>⟨[(2,.ptr 0 0 3),(5,.si .i64 (cR g (c.take i.toNat))),(8,.row (.i .i64) c),(9,.si .i64 c.length),(10,.si .i64 i)],[.cells [.row (.zi (.i .i64)) g.rows,.row (.i .i64) g.bounds,.row .bu g.bj] 130 3 false]⟩)
   (λs=>iS s 10) (λi=>0<=i/\i<=c.length) (λi=>(c.length - i).toNat) λ_ _=> .look
 |_=> .look
theorem rn:d' vj:=by
 refine bI (L:=[]) vj (λa=>Wd a.1 a.2) (by simp) ?_;rintro⟨g,c⟩ ⟨⟨⟨D,E,C⟩,B,y⟩,⟨q,l⟩,e⟩;simp only[oj] at D E C B y q l e;refine NI (let a:=γc .i64;let d:=(0:Int);let e:=Ω;let o:=γM 0 0 3;let v:=γu .i64 0;let j:=cj.i .i64;let b:=(↑c.length:Int);let r:=a b;let n:=iZ.cells [e j.zi g.rows,e j g.bounds,e cj.bu g.bj] 130 3 false;(((o.bi o/\v.bi (a (cR g []))/\(e j c).bi (e j c)/\(a (↑c.length:Int)).bi r/\v.bi (a 0)/\True)/\n.bi n/\True)/\d<=d/\d<=b)/\∀(x:Int),let p:=bN c x.toNat d;let t:=cR g (Ξ x.toNat c);let s:=t+(bN g.bj p.toNat cj.bu.bw).value;let h:=x+(1:Int);let k:=a h;d<=x/\x<=b->(decide (x<b)=true->d<=x/\x<(↑c.length:Int)/\x.toNat<c.length/\d<=p/\p<(↑g.bj.length:Int)/\p.toNat<g.bj.length/\TP .i64 s/\TP .i64 h/\((o.bi o/\(a s).bi (a (cR g (Ξ h.toNat c)))/\(e j c).bi (e j c)/\r.bi r/\k.bi k/\True)/\n.bi n/\True)/\(d<=h/\h<=b)/\(b - h).toNat<(b - x).toNat)/\(decide (x<b)=false->(a t).bi (a (cR g c)))) (by kernel_rfl) ?_;conv=>zeta
 try simp only[vcs]
 refine⟨⟨by simp[cR],by omega⟩,?_⟩;rintro i ⟨A,H⟩;refine⟨λu=>?_,λu=>?_⟩
 ·have F:=l _ (cy (d:=0) (show i.toNat<c.length by omega));have G:cR g (c.take (i+1).toNat)=cR g (c.take i.toNat)+(bN g.bj (bN c i.toNat 0).toNat cj.bu.bw).value:=N4 (f:=λx=>(bN g.bj x.toNat cj.bu.bw).value) A u;have w:0<=cR g (c.take i.toNat)/\cR g (c.take i.toNat)<=c.length*1000000:=Gj (f:=λx=>(bN g.bj x.toNat cj.bu.bw).value) (m:=1000000) (by omega) e;have z:=e _ (cy (d:=0) (show i.toNat<c.length by omega));omega
 ·rw[show i.toNat=c.length by omega,φ]
def Au:NG:=⟨77,List Int×List Int,.cons (cP (.i .i64)) (.one (cP (.i .i64))),λa=>a.1.length<=1000/\1<=a.2.length/\a.2.length<=1000,λa=> .row (.i .i64) (dv (a.1++a.2))⟩
theorem zl:d' Au:=by
 refine jY (L:=[]) (W:=fH [tT,xo]) Au lk (j6 (by grind[sT,zg])) (by simp) ?_;rintro⟨s,x⟩ ⟨b,c,d⟩;simp only at b c d;refine NI (let a:Nat:=(s++x).length;s.length<=1000000/\s.length=s.length/\(s.length+x.length)*8<=140737488355328/\s.length+x.length<=1000000000000/\((s++x).length=a/\1<=a/\a<=1000000)/\(s++x).length=(dv (s++x)).length/\(Ω (cj.i .i64) (dv (s++x))).bi (Ω (cj.i .i64) (dv (s++x)))) (by kernel_rfl) ?_;conv=>zeta
 try simp only[vcs]
 grind[pT]
def Gi:NG:=⟨109,List Int×Int,.cons (cP (.i .i64)) (.one (dY .i64)),λa=>a.1.length<=1000/\0<=a.2/\a.2<a.1.length,λa=> .row (.i .i64) (a.1.take a.2.toNat++a.1.drop (a.2+1).toNat)⟩
theorem Ji:d' Gi:=by
 refine jY (L:=[]) (W:=fH [tT,tR]) Gi lk (j6 (by grind[sT,Jf])) (by simp) ?_;rintro⟨s,i⟩ ⟨d,e,f⟩;simp only at d e f;refine NI (let a:=i+(1:Int);let c:=kS s i.toNat a.toNat;let b:=s.length - (a - i).toNat;s.length<=1000000/\TP .i64 a/\((s.length=s.length/\1<=s.length/\s.length<=1000000)/\(0:Int)<=i/\i<=a/\a<=(↑s.length:Int))/\s.length=c.length/\0+b<=s.length/\(Ω (cj.i .i64) (Ξ b c)).bi (Ω (cj.i .i64) (Ξ i.toNat s++γ3 a.toNat s))) (by kernel_rfl) ?_;conv=>zeta
 try simp only[vcs]
 have g:=@Nz s i.toNat (i+1).toNat (by omega) (by omega);refine⟨by omega,by omega,by omega,g.symm,by omega,?_⟩;unfold kS;rw[List.take_append_of_le_length (by grind),γr (by grind)]
def q9 (c:List Int) (x:Int):Int:=if x∈c then(c.idxOf x:Int) else -1
theorem Wc {c:List Int} {x:Int} {k:Nat} (h:k<c.length) (b:∀j:Nat,j<k->bN c j 0≠x) (a:bN c k 0=x):q9 c x=k:=by unfold q9;rw[if_pos (a▸cy h)];congr 1;rw[bR h] at a;rw[List.idxOf,List.findIdx_eq h];grind[bR]
theorem Wb {c:List Int} {x:Int} (a:∀j:Nat,j<c.length->bN c j 0≠x):q9 c x= -1:=by unfold q9;rw[if_neg];intro h;obtain⟨k,b,rfl⟩:=γJ h;grind[bR]
theorem Wa {c:List Int} {x:Int}:0<=q9 c x↔x∈c:=by grind[q9]
def Gh:NG:=⟨148,List Int×Int,.cons (cP (.i .i64)) (.one (dY .i64)),λa=>a.1.length<=1000,λa=> .si .i64 (q9 a.1 a.2)⟩
def V_ (c:List Int) (x:Int):Nat->bH
 |2=> .inv Int (λi=>⟨[(0,.row (.i .i64) c),(1,.si .i64 x),(7,.si .i64 c.length),(8,.si .i64 i)],[]⟩)
   (λs=>iS s 8) (λi=>(0<=i/\i<=c.length)/\∀k:Nat,(k:Int)<i->bN c k 0≠x) (λi=>(c.length - i).toNat) λ_ _=> .look
 |_=> .look
theorem Je:d' Gh:=by
 refine bI (L:=[]) Gh (λa=>V_ a.1 a.2) (by simp) ?_;rintro⟨c,x⟩ o;replace o:c.length<=1000:=o;refine NI (let a:=γc .i64;let h:=(0:Int);let f:=Ω (cj.i .i64) c;let d:=(↑c.length:Int);let g:=a d;let n:=a (q9 c x);(((f.bi f/\(a x).bi (a x)/\(a (↑c.length:Int)).bi g/\(γu .i64 0).bi (a 0)/\True)/\True)/\(h<=h/\h<=d)/\∀(k:Nat),(↑k:Int)<h->bN c k h≠x)/\∀(b:Int),let l:=decide (x=bN c b.toNat h);let e:=b+(1:Int);let j:=a x;let m:=a e;((h<=b/\b<=d)/\∀(k:Nat),(↑k:Int)<b->bN c k h≠x)->(decide (b<d)=true->h<=b/\b<(↑c.length:Int)/\b.toNat<c.length/\(l=true->(a b).bi n)/\(l=false->TP .i64 e/\((f.bi f/\j.bi j/\g.bi g/\m.bi m/\True)/\True)/\((h<=e/\e<=d)/\∀(k:Nat),(↑k:Int)<e->bN c k h≠x)/\(d - e).toNat<(d - b).toNat))/\(decide (b<d)=false->(γu .i64 (-1:Int)).bi n)) (by kernel_rfl) ?_;conv=>zeta
 try simp only[vcs]
 refine⟨⟨by omega,λk h=>by omega⟩,?_⟩;grind[Wc,Wb]
def Gg:NG:=⟨110,List Int×Int,.cons (cP (.i .i64)) (.one (dY .i64)),λa=>a.1.length<=1000,λa=> .sb (decide (a.2∈a.1))⟩
theorem Jh:d' Gg:=by refine bI (L:=[Gh]) Gg lk (by grind[Je]) ?_;rintro⟨c,x⟩ a;replace a:c.length<=1000:=a;refine NI (c.length<=1000/\(γA (decide ((0:Int)<=q9 c x))).bi (γA (decide (x∈c)))) (by kernel_rfl) ?_;simp_all[Wa]
theorem xl {p:ew} (a:nW p=0) {r:Int}:0<=cB p r/\cB p r<=4:=by
 obtain⟨_,_,b,c,_⟩:=cT a;unfold cB;split;·omega
 ·split;all_goals simp_all[GZ]
theorem N3 {p:ew} (h:p.bj.length<=1000):mr (bV p):=by
 have j:nR p<=20:=by
  unfold nR;split
  next a=>have:=(cT a).1;omega
  ·omega
 have d:0<nR p->nW p=0:=by grind[nR]
 refine⟨⟨?_,?_,h⟩,λr f=>?_,λb g=>?_⟩
 ·show(k9 p (nR p)).length=(jS p (nR p)).length;rw[Ny,Ax]
 ·show(jS p (nR p)).length<=1000;grind[Ax]
 ·obtain⟨k,c,rfl⟩:=Δ.1 (show r∈k9 p (nR p) from f);rw[γt] at c;have a:=d (by omega);refine⟨by simp[gG,bV],λx i=>?_⟩;obtain⟨o,e,rfl⟩:=Δ.1 (show x∈gG p k p.bj.length from i);have:=oF (p:=p) (r:=k) ((cT a).2.2.2.2 o (γj e)).2.2.1;omega
 ·obtain⟨k,c,rfl⟩:=Δ.1 (show b∈jS p (nR p) from g);rw[γt] at c;have:=xl (d (by omega)) (r:=k);omega
def stepG (g:bY) (c:List Int) (x:Int):List Int:=if kx g (dv (c++[x]))=true then dv (c++[x]) else c
def nc (g:bY) (l:List Int):List Int:=l.foldl (stepG g) []
def gj (p:ew):List Int:=if nW p=0 then tU p else[]
def ju (p:ew):List Int:=nc (bV p) (gj p)
theorem As {l:List Int} {x:Int}:x∈dv l↔x∈l:=(δn _ _).mem_iff
theorem N2 {g:bY} {c:List Int} {x y:Int} (h:y∈stepG g c x):y∈c\/y=x:=by grind[stepG,As]
theorem V9 {g:bY} {c:List Int} {x:Int}:(stepG g c x).length<=c.length+1:=by grind[stepG,pT]
theorem N1 {g:bY} {l:List Int}:∀{c:List Int} {y:Int},y∈l.foldl (stepG g) c->y∈c\/y∈l:=by induction l<;>grind[N2]
theorem V8 {g:bY} {l:List Int}:∀{c:List Int},(l.foldl (stepG g) c).length<=c.length+l.length:=by induction l<;>grind[stepG,V9]
theorem V7 {g:bY} {l:List Int}:(nc g l).length<=l.length:=by grind[V8,nc]
theorem V6 {g:bY} {l:List Int} {i:Int} (a:0<=i) (h:i<l.length):nc g (l.take (i+1).toNat)=stepG g (nc g (l.take i.toNat)) (bN l i.toNat 0):=by grind[nc,iG]
theorem Gf {p:ew} {x:Int} (h:x∈gj p):nW p=0/\lG p x:=by
 unfold gj at h;split at h
 next a=>rw[tU,F2,ik] at h;exact⟨a,h⟩
 ·simp at h
theorem N0 {p:ew}:(gj p).length<=p.bj.length:=by grind[gj,tU,q_,fj]
theorem V5 {p:ew} (d:p.bj.length<=20) {k:Nat}:(nc (bV p) ((gj p).take k)).length<=40/\∀x∈nc (bV p) ((gj p).take k),nW p=0/\lG p x:=by have b:=@V7 (bV p) ((gj p).take k);have c:=@N0 p;rw[γx] at b;refine⟨by omega,λx a=>?_⟩;rcases N1 a with h|h<;>grind[N1,Gf]
def xk:NG:=⟨55,ew,.one cI,λp=>p.bj.length<=20,λp=>mA.put ⟨ju p,cR (bV p) (ju p)⟩⟩
def V4 (p:ew):Nat->bH
 |4=> .inv Int (λi=>⟨[(2,.ptr 1 0 2),(3,.ptr 2 0 3),(4,.row (.i .i64) (nc (bV p) ((gj p).take i.toNat))),(11,.row (.i .i64) (gj p)),(12,.si .i64 (gj p).length),(13,.si .i64 i)],[.cells p.ss 27 20 false,.cells [.sc (.slice none 0 0),.il .i64 0] 40 2 false,.cells [.row (.zi (.i .i64)) (bV p).rows,.row (.i .i64) (bV p).bounds,.row .bu (bV p).bj] 130 3 false,.dead]⟩)
   (λs=>iS s 13) (λi=>0<=i/\i<=(gj p).length) (λi=>((gj p).length - i).toNat) λ_ _=> .look
 |_=> .look
theorem uH:d' xk:=by
 refine bI (L:=[Aw,Gk,Au,Av,vj]) xk V4 (by simpa using⟨zm,Jr,zl,zk,rn⟩) ?_;intro(p:ew) (C:p.bj.length<=20);refine NI (let a:=γc .i64;let b:=Ω;let c:=(0:Int);let d:=iZ.cells;let j:=γM 1 0 2;let k:=γM 2 0 3;let e:=cj.i .i64;let s:=if nW p=c then tU p else[];let o:=b e (gj p);let f:=(↑(gj p).length:Int);let q:=a f;let t:=γu .i64 0;let l:=d [a p.bm.a0,a p.bm.a1,a p.bm.a2,a p.bm.a3,a p.bm.a4,a p.bm.a5,a p.bs.a0,a p.bs.a1,a p.bs.a2,a p.bs.a3,a p.bs.a4,a p.bs.a5,a p.bt.a0,a p.bt.a1,a p.bt.a2,a p.bt.a3,a p.bt.a4,a p.bt.a5,b e p.bk,b cj.bu p.bj] 27 20 false;let m:=d [SV.sc (Value.slice none 0 0),t] 40 2 false;let n:=d [b e.zi (bV p).rows,b e (bV p).bounds,b cj.bu (bV p).bj] 130 3 false;True/\0=0/\p.bj.length<=20/\(((j.bi j/\k.bi k/\(b e []).bi (b e (nc (bV p) []))/\(b e s).bi o/\(a (↑s.length:Int)).bi q/\t.bi (a 0)/\True)/\l.bi l/\m.bi m/\n.bi n/\iZ.dead.bi iZ.dead/\True)/\c<=c/\c<=f)/\∀(x:Int),let g:=nc (bV p) (Ξ x.toNat (gj p));let r:=dv (g++[bN (gj p) x.toNat c]);let h:=x+(1:Int);let v:=a h;let w:=λ(u:Bool) (A:List Int) ↦kx (bV p) r=u->TP .i64 h/\((j.bi j/\k.bi k/\(b e A).bi (b e (nc (bV p) (Ξ h.toNat (gj p))))/\o.bi o/\q.bi q/\v.bi v/\True)/\l.bi l/\m.bi m/\n.bi n/\iZ.dead.bi iZ.dead/\True)/\(c<=h/\h<=f)/\(f - h).toNat<(f - x).toNat;c<=x/\x<=f->(decide (x<f)=true->c<=x/\x<(↑(gj p).length:Int)/\x.toNat<(gj p).length/\(g.length<=1000/\1<=1/\1<=1000)/\(mr (bV p)/\nM (bV p) r)/\w true r/\w false g)/\(decide (x<f)=false->(mr (bV p)/\nM (bV p) g/\oj (bV p) g)/\(γG [b e g,a (cR (bV p) g)]).bi (γG [b e (ju p),a (cR (bV p) (ju p))]))) (by kernel_rfl) ?_;conv=>zeta
 try simp only[vcs]
 have D:=@N3 p (by omega);have I:=@N0 p;have H:(if nW p=0 then tU p else[])=gj p:=rfl;rw[H];refine⟨C,⟨⟨rfl,rfl,rfl⟩,by omega⟩,?_⟩
 ·rintro i ⟨i0,i1⟩;obtain⟨B,y⟩:=@V5 p C i.toNat;refine⟨λhi=>?_,λhi=>?_⟩
  ·have E:=@V6 (bV p) (gj p) i i0 hi;have z:=Gf (cy (d:=0) (show i.toNat<(gj p).length by omega));rw[E];generalize nc (bV p) ((gj p).take i.toNat)=c at*;refine⟨i0,hi,by omega,(by omega),⟨D,by rw[pT,γF];simp;omega,λx h=>?_⟩,λh=>⟨by omega,by unfold stepG;rw[if_pos h],by omega⟩,λh=>⟨by omega,by unfold stepG;rw[if_neg (by rw[h];simp)],by omega⟩⟩;rw[As,γo] at h;rcases h with h|h;·exact(y x h).2
   ·rw[List.mem_singleton] at h;rw[h];exact z.2
  ·have hk:(gj p).take i.toNat=gj p:=γr (by omega);rw[hk] at B y ⊢;refine⟨⟨D,⟨by omega,λx h=>(y x h).2⟩,λx h=>?_⟩,rfl⟩;obtain⟨hc,z⟩:=y x h;have:=(xt hc z).1;have e:(bN (bV p).bj x.toNat cj.bu.bw).value=pU p x:=rfl;rw[e];omega
def pP (g:bY):List SV:=[.row (.zi (.i .i64)) g.rows,.row (.i .i64) g.bounds,.row .bu g.bj]
def Ge:List SV->Option bY
 |[r,v,x]=>match fZ (.zi (.i .i64)) r,fZ (.i .i64) v,fZ .bu x with
  |some c,some v,some x=>some ⟨c,v,x⟩
  |_,_,_=>none
 |_=>none
theorem V3 {cs:List SV} {g:bY} (h:Ge cs=some g):gL cs=gL (pP g):=by unfold Ge at h;grind[pP,gL,jF]
theorem V2 {g a:bY} (h:gL (pP g)=gL (pP a)):g=a:=xm.inj g a (by show AV.agg (gL (pP g))=AV.agg (gL (pP a));rw[h])
def mq (g:bY) (v:Int) (c:List Int):Bool:=decide (v<cR g c)&&kx g c
def EW:cC where
 f:=108;α:=List Int×bY×Int;put a:=[.row (.i .i64) a.1,.ptr 0 0 3,.ptr 1 0 1];st a:=[.cells (pP a.2.1) 130 3 false,.cells [.si .i64 a.2.2] 2 1 false];dec v o:=match v,o with
  |[x,.ptr 0 0 3,.ptr 1 0 1],[.cells cs 130 3 false,.cells [y] 2 1 false]=>match fZ (.i .i64) x,Ge cs,y.int .i64 with
   |some x,some g,some y=>some (x,g,y)
   |_,_,_=>none
  |_,_=>none;ok v o a h:=by
  split at h
  ·split at h
   next h1 c d=>simp only[γ] at h;subst h;refine⟨by simp only[gL,jF h1],?_⟩;simp only[gO,ν,γv,iZ.g,V3 c,gL,iq d];rfl
   ·cases h
  ·cases h
 inj a b h1 c:=by simp only[gL,χ,and_true,ε8,δ9] at h1;simp only[gO,ν,γv,iZ.g,χ,OL.cells.injEq,and_true,gL,ε8,δa,Value.int.injEq,true_and] at c;have d:=V2 c.1;have e:=kK (.i .i64) h1.1 h1.2;exact εD e (εD d c.2)
 dom a:=mr a.2.1/\nM a.2.1 a.1/\oj a.2.1 a.1;res a:=.sb (mq a.2.1 a.2.2 a.1);out a:=[.cells (pP a.2.1) 130 3 false,.cells [.si .i64 a.2.2] 2 1 false]
theorem Jj:g' EW:=by refine jE (L:=[Av,vj]) (W:=[]) EW lk (by simp) (by grind[zk,rn]) ?_;rintro⟨c,g,v⟩ ⟨j,f,h⟩;simp only at j f h;refine NI (let f:=Ω;let e:=iZ.cells [f (cj.i .i64).zi g.rows,f (cj.i .i64) g.bounds,f cj.bu g.bj] 130 3 false;let a:=iZ.cells [γc .i64 v] 2 1 false;let b:=decide (v<cR g c);let d:=e.bi e/\a.bi a/\True;(mr g/\nM g c/\oj g c)/\(b=true->(mr g/\nM g c)/\(γA (kx g c)).bi (γA (mq g v c))/\d)/\(b=false->(δb false).bi (γA (mq g v c))/\d)) (by kernel_rfl) ?_;simp_all[vcs,mq,decide_eq_false]
def ob (g:bY) (c:List Int) (v:Int) (a:List Int) (o k:Int):Option (List Int):=if k<=o\/k∈c then none else if mq g v (dv (a++[o,k]))=true then some (dv (a++[o,k])) else none
def l_ (g:bY) (c:List Int) (v:Int) (a:List Int) (o:Int):Option (List Int):=if o∈c then none else if mq g v (dv (a++[o]))=true then some (dv (a++[o])) else(Γ g.bj.length).findSome? λk:Nat=>ob g c v a o k
def ig (c:List Int) (i:Nat):List Int:=c.take i++c.drop (i+1)
def uQ (g:bY) (c:List Int) (v:Int) (i:Nat):Option (List Int):=(Γ g.bj.length).findSome? λo:Nat=>l_ g c v (ig c i) o
def iz (g:bY) (c:List Int):Option (List Int):=(Γ c.length).findSome? λi=>uQ g c (cR g c) i
theorem Ar {n:Nat} {f:Nat->Option (List Int)} (h:∀i,i<n->f i=none):(Γ n).findSome? f=none:=by simp_all
theorem An {n i:Nat} {f:Nat->Option (List Int)} {t:List Int} (c:i<n) (h:∀j,j<i->f j=none) (b:f i=some t):(Γ n).findSome? f=some t:=by
 have e:Γ n=Γ i++(i::(Γ (n - (i+1))).map λk=>i+1+k):=by have a:=@List.range_add i (n - i);rw[show i+(n - i)=n by omega] at a;rw[a,show n - i=(n - (i+1))+1 by omega,List.range_succ_eq_map];simp only[ν,γO,Nat.add_zero];congr 2;apply γI;grind
 simp_all[Ar]
def rV (g:bY):Prop:=mr g/\∀o∈g.bj,0<=o.value/\o.value<=1000000
def EV:NG:=⟨74,bY×List Int,.cons xm (.one (cP (.i .i64))),λa=>rV a.1/\(a.2.length<=900/\∀x∈a.2,0<=x/\x<a.1.bj.length),λa=> .IL [.row (.i .i64) ((iz a.1 a.2).getD []),.sb (iz a.1 a.2).isSome]⟩
def EU (g:bY) (c:List Int):VI:=[.cells (pP g) 130 3 false,.cells [.si .i64 (cR g c)] 2 1 false]
def V1 (g:bY) (c:List Int):Nat->bH
 |4=> .inv Int (λi=>⟨[(1,.row (.i .i64) c),(2,.ptr 0 0 3),(7,.fn (.func 108) [] [.ptr 0 0 3,.ptr 1 0 1]),(19,.si .i64 c.length),(20,.si .i64 i)],EU g c⟩)
   (λs=>iS s 20) (λi=>(0<=i/\i<=c.length)/\∀k:Nat,(k:Int)<i->uQ g c (cR g c) k=none) (λi=>(c.length - i).toNat) λi k=>match k with
   |8=> .inv Int (λo=>⟨[(1,.row (.i .i64) c),(2,.ptr 0 0 3),(7,.fn (.func 108) [] [.ptr 0 0 3,.ptr 1 0 1]),(9,.row (.i .i64) (ig c i.toNat)),(19,.si .i64 c.length),(20,.si .i64 i),(28,.si .i64 g.bj.length),(29,.si .i64 o)],EU g c⟩)
     (λs=>iS s 29) (λo=>(0<=o/\o<=g.bj.length)/\∀k:Nat,(k:Int)<o->l_ g c (cR g c) (ig c i.toNat) k=none) (λo=>(g.bj.length - o).toNat) λo k=>match k with
     |15=> .inv Int (λz=>⟨[(1,.row (.i .i64) c),(2,.ptr 0 0 3),(7,.fn (.func 108) [] [.ptr 0 0 3,.ptr 1 0 1]),(9,.row (.i .i64) (ig c i.toNat)),(10,.si .i64 o),(12,.si .i64 z),(19,.si .i64 c.length),(20,.si .i64 i),(28,.si .i64 g.bj.length),(29,.si .i64 o)],EU g c⟩)
       (λs=>iS s 12) (λz=>(o<z/\z<=g.bj.length)/\∀k:Nat,(k:Int)<z->ob g c (cR g c) (ig c i.toNat) o k=none) (λz=>(g.bj.length - z).toNat) λ_ _=> .look
     |_=> .look
   |_=> .look
 |_=> .look
theorem Jm:d' EV:=by
 refine jY (L:=[Au,vj,Gi,Gg]) (W:=fH [EW]) EV (λa=>V1 a.1 a.2) (j6 (by simpa using Jj)) (by simpa using⟨zl,rn,Ji,Jh⟩) ?_;rintro⟨g,c⟩ ⟨⟨hg,hv⟩,hcl,S⟩;simp only at hg hv hcl S;refine NI (let a:=γc .i64;let b:=Ω;let d:=(0:Int);let e:=TP .i64;let f:=γu .i64 0;let h:=SV.IL;let j:=(1:Int);let l:=cj.i .i64;let n:=γM 0 0 3;let p:=SV.fn (Fn.func 108) [] [n,γM 1 0 1];let u:=(↑c.length:Int);let s:=a u;let q:=iZ.cells [b l.zi g.rows,b l g.bounds,b cj.bu g.bj] 130 3 false;let r:=iZ.cells [a (cR g c)] 2 1 false;let F:=(↑g.bj.length:Int);let m:=(↑g.bj.length:Int);let v:=a m;let G:=h [b l ((iz g c).getD []),γA (iz g c).isSome];(mr g/\nM g c/\oj g c)/\((((b l c).bi (b l c)/\n.bi n/\p.bi p/\(a (↑c.length:Int)).bi s/\(f).bi (a 0)/\True)/\q.bi q/\r.bi r/\True)/\(d<=d/\d<=u)/\∀(k:Nat),(↑k:Int)<d->uQ g c (cR g c) k=none)/\∀(x:Int),let z:=x+j;let t:=ig c x.toNat;let w:=b l t;let H:=a z;((d<=x/\x<=u)/\∀(k:Nat),(↑k:Int)<x->uQ g c (cR g c) k=none)->(decide (x<u)=true->(c.length<=1000/\d<=x/\x<u)/\((((b l c).bi (b l c)/\n.bi n/\p.bi p/\(b l (Ξ x.toNat c++γ3 z.toNat c)).bi w/\s.bi s/\(a x).bi (a x)/\(a F).bi v/\(f).bi (a 0)/\True)/\q.bi q/\r.bi r/\True)/\(d<=d/\d<=m)/\∀(k:Nat),(↑k:Int)<d->l_ g c (cR g c) t (↑k:Int)=none)/\∀(N:Int),let o:=N+j;let y:=a x;let A:=a o;let C:=dv (t++[N]);let I:=mq g (cR g c) C;((d<=N/\N<=m)/\∀(k:Nat),(↑k:Int)<N->l_ g c (cR g c) t (↑k:Int)=none)->(decide (N<m)=true->c.length<=1000/\(decide (N∈c)=true->e o/\(((b l c).bi (b l c)/\n.bi n/\p.bi p/\w.bi w/\s.bi s/\y.bi y/\v.bi v/\A.bi A/\True)/\q.bi q/\r.bi r/\True)/\((d<=o/\o<=m)/\∀(k:Nat),(↑k:Int)<o->l_ g c (cR g c) t (↑k:Int)=none)/\(m - o).toNat<(m - N).toNat)/\(decide (N∈c)=false->(t.length<=1000/\1<=1/\1<=1000)/\(mr g/\nM g C/\oj g C)/\(I=true->(h [b l C,δb true]).bi G)/\(I=false->e o/\((((b l c).bi (b l c)/\n.bi n/\p.bi p/\w.bi w/\(a N).bi (a N)/\A.bi A/\s.bi s/\y.bi y/\v.bi v/\(a N).bi (a N)/\True)/\q.bi q/\r.bi r/\True)/\(N<o/\o<=m)/\∀(k:Nat),(↑k:Int)<o->ob g c (cR g c) t N (↑k:Int)=none)/\∀(x:Int),let B:=x+j;let D:=a N;let J:=a B;let E:=dv (t++[N,x]);let K:=mq g (cR g c) E;let L:=e B/\(((b l c).bi (b l c)/\n.bi n/\p.bi p/\w.bi w/\D.bi D/\J.bi J/\s.bi s/\y.bi y/\v.bi v/\D.bi D/\True)/\q.bi q/\r.bi r/\True)/\((N<B/\B<=m)/\∀(k:Nat),(↑k:Int)<B->ob g c (cR g c) t N (↑k:Int)=none)/\(m - B).toNat<(m - x).toNat;((N<x/\x<=m)/\∀(k:Nat),(↑k:Int)<x->ob g c (cR g c) t N (↑k:Int)=none)->(decide (x<F)=true->c.length<=1000/\(decide (x∈c)=true->L)/\(decide (x∈c)=false->(t.length<=1000/\1<=2/\2<=1000)/\(mr g/\nM g E/\oj g E)/\(K=true->(h [b l E,δb true]).bi G)/\(K=false->L)))/\(decide (x<F)=false->e o/\(((b l c).bi (b l c)/\n.bi n/\p.bi p/\w.bi w/\s.bi s/\y.bi y/\v.bi v/\A.bi A/\True)/\q.bi q/\r.bi r/\True)/\((d<=o/\o<=m)/\∀(k:Nat),(↑k:Int)<o->l_ g c (cR g c) t (↑k:Int)=none)/\(m - o).toNat<(m - N).toNat))))/\(decide (N<m)=false->e z/\(((b l c).bi (b l c)/\n.bi n/\p.bi p/\s.bi s/\H.bi H/\True)/\q.bi q/\r.bi r/\True)/\((d<=z/\z<=u)/\∀(k:Nat),(↑k:Int)<z->uQ g c (cR g c) k=none)/\(u - z).toNat<(u - x).toNat))/\(decide (x<u)=false->(h [b l [],δb false]).bi G)) (by kernel_rfl) ?_;conv=>zeta
 try simp only[vcs]
 have Z:∀d:List Int,(∀x∈d,0<=x/\x<g.bj.length)->oj g d:=λd hd x V=>hv _ (cy (by have:=hd x V;omega));have Q:∀i:Nat,(ig c i).length<=900/\∀x∈ig c i,x∈c:=λi=>by unfold ig;refine⟨by rw[γF,γx,List.length_drop];omega,λx V=>?_⟩;rw[γo] at V;exact V.elim γj γY
 have T:∀(i:Nat) (d:List Int),d.length<=2->(∀x∈d,0<=x/\x<g.bj.length)->mr g/\nM g (dv (ig c i++d))/\oj g (dv (ig c i++d)):=λi d hd V=>by
  have O:∀x∈dv (ig c i++d),0<=x/\x<g.bj.length:=λx h=>by rw[As,γo] at h;exact h.elim (λh=>S x ((Q i).2 x h)) (V x)
  have:=(Q i).1;exact⟨hg,⟨by rw[pT,γF];omega,O⟩,Z _ O⟩
 have hg1:=hg.1;refine⟨⟨hg,⟨by omega,S⟩,Z c S⟩,⟨by omega,λk h=>by omega⟩,?_⟩;rintro i ⟨⟨i0,i1⟩,hi⟩;refine⟨λhil=>⟨⟨by omega,i0,hil⟩,⟨by unfold ig;rw[show(i+1).toNat=i.toNat+1 by omega],by omega,λk h=>by omega⟩,?_⟩,λhil=>?_⟩
 ·have ho:=Q i.toNat;have bp:∀t,uQ g c (cR g c) i.toNat=some t->iz g c=some t:=λt ht=>An (i:=i.toNat) (by omega) (λj X=>hi j (by omega)) ht;rintro o ⟨⟨o0,o1⟩,hk⟩;refine⟨λhol=>⟨by omega,λP=>⟨by omega,⟨by omega,λk h=>?_⟩,by omega⟩,λP=>⟨by omega,T _ _ (by simp) (by simp;omega),λhb=>?_,λhb=>⟨by omega,⟨by omega,λk h=>?_⟩,?_⟩⟩⟩,λhol=>⟨by omega,⟨by omega,λk h=>?_⟩,by omega⟩⟩
  ·by_cases O:(k:Int)<o;·exact hk k O
   ·rw[show(k:Int)=o by omega];unfold l_;rw[if_pos P]
  ·have O:l_ g c (cR g c) (ig c i.toNat) o=some (dv (ig c i.toNat++[o])):=by unfold l_;rw[if_neg P,if_pos hb]
   have h3:=bp _ (An (f:=λo:Nat=>l_ g c (cR g c) (ig c i.toNat) o) (i:=o.toNat) (by omega) (λj X=>hk j (by omega)) (by simp only[show((o.toNat:Nat):Int)=o by omega];exact O));rw[h3];exact⟨rfl,rfl⟩
  ·unfold ob;rw[if_pos (.inl (by omega))]
  ·rintro z ⟨⟨z0,z1⟩,hz⟩;refine⟨λhzl=>⟨by omega,λR=>⟨by omega,⟨by omega,λk h=>?_⟩,by omega⟩,λR=>⟨by omega,T _ _ (by simp) (by simp;omega),λU=>?_,λU=>⟨by omega,⟨by omega,λk h=>?_⟩,by omega⟩⟩⟩,λhzl=>⟨by omega,⟨by omega,λk h=>?_⟩,by omega⟩⟩
   ·by_cases O:(k:Int)<z;·exact hz k O
    ·rw[show(k:Int)=z by omega];unfold ob;rw[if_pos (.inr R)]
   ·have h4:¬z<=o:=by omega
    have h5:ob g c (cR g c) (ig c i.toNat) o z=some (dv (ig c i.toNat++[o,z])):=by unfold ob;rw[if_neg (λh=>h.elim h4 R),if_pos U]
    have O:l_ g c (cR g c) (ig c i.toNat) o=some (dv (ig c i.toNat++[o,z])):=by unfold l_;rw[if_neg P,if_neg (by rw[hb];simp)];exact An (f:=λk:Nat=>ob g c (cR g c) (ig c i.toNat) o k) (i:=z.toNat) (by omega) (λj X=>hz j (by omega)) (by simp only[show((z.toNat:Nat):Int)=z by omega];exact h5)
    have h3:=bp _ (An (f:=λo:Nat=>l_ g c (cR g c) (ig c i.toNat) o) (i:=o.toNat) (by omega) (λj X=>hk j (by omega)) (by simp only[show((o.toNat:Nat):Int)=o by omega];exact O));rw[h3];exact⟨rfl,rfl⟩
   ·by_cases O:(k:Int)<z;·exact hz k O
    ·rw[show(k:Int)=z by omega];unfold ob;rw[U];simp
   ·by_cases O:(k:Int)<o;·exact hk k O
    ·rw[show(k:Int)=o by omega];unfold l_;rw[if_neg P,if_neg (by rw[hb];simp)];exact Ar λj X=>hz j (by omega)
  ·by_cases O:(k:Int)<i;·exact hi k O
   ·rw[show k=i.toNat by omega];exact Ar λj X=>hk j (by omega)
 ·have:iz g c=none:=Ar λj X=>hi j (by omega);rw[this];exact⟨rfl,rfl⟩
def dm (n:Nat) (c:List Int):Prop:=c.Pairwise (·<·)/\∀x∈c,0<=x/\x<n
theorem ET {n:Nat}:∀{c:List Int} {a:Int},a<=n->c.Pairwise (·<·)->(∀x∈c,a<=x/\x<n)->(c.length:Int)<=n - a
 |[],a,e,_,_=>by simp;omega;|x::c,a,e,h,b=>by have f:=b x (by simp);rw[γp] at h;have:=@ET n c (x+1) (by omega) h.2 λy d=>⟨by grind,(b y (by simp[d])).2⟩;grind
theorem rU {n:Nat} {c:List Int} (h:dm n c):c.length<=n:=by have:=ET (n:=n) (a:=0) (by omega) h.1 h.2;omega
theorem ES {n:Nat} {c:List Int} (f:c.Nodup) (e:∀x∈c,0<=x/\x<n):dm n (dv c):=by
 refine⟨?_,λx i=>e x (As.1 i)⟩;have g:(dv c).Pairwise (·<=·):=by have:=δK (le:=λx y:Int=>decide (x<=y)) (λa b d f e=>by grind) (λa b=>by simp;omega) c;exact this.imp λh=>of_decide_eq_true h
 have j:(dv c).Pairwise (·≠·):=(δn _ _).symm.nodup f;exact(g.and j).imp λh=>by omega
theorem vi {n:Nat} {c:List Int} (h:dm n c):c.Nodup:=h.1.imp λh=>by omega
theorem NZ {c:List Int} {i:Nat}:(ig c i).Sublist c:=by unfold ig;rw[List.drop_add_one_eq_tail_drop];have:=(List.Sublist.refl (c.take i)).append (List.tail_sublist (c.drop i));simp_all
theorem vh {g:bY} {c t:List Int} (h:iz g c=some t) (d:dm g.bj.length c):mq g (cR g c) t=true/\dm g.bj.length t:=by
 obtain⟨i,l,h⟩:=δ0 h;obtain⟨o,m,h⟩:=δ0 h;rw[γt] at l m;have f:(ig c i).Nodup:=(vi d).sublist NZ;have b:∀x∈ig c i,x∈c:=λx a=>NZ.subset a;unfold l_ at h;split at h;·cases h
 ·rename_i p;split at h
  ·rename_i e;injection h with h;subst h;refine⟨e,ES ?_ λx a=>?_⟩;·grind
   ·rw[γo] at a;rcases a with a|a;·exact d.2 x (b x a)
    simp_all
  ·obtain⟨k,j,h⟩:=δ0 h;rw[γt] at j;unfold ob at h;split at h;·cases h
   ·rename_i n;split at h
    ·rename_i e;injection h with h;subst h;refine⟨e,ES ?_ λx a=>?_⟩;·grind
     ·rw[γo] at a;rcases a with a|a;·exact d.2 x (b x a)
      grind
    ·cases h
def kZ (g:bY):Nat->List Int->List Int
 |0,c=>c
 |n+1,c=>match iz g c with
  |some t=>kZ g n t
  |none=>c
def kh (g:bY) (c:List Int):List Int:=kZ g (1000000000 - cR g c).toNat c
theorem pS {g:bY} (a:rV g) {c:List Int} (h:dm g.bj.length c):0<=cR g c/\cR g c<=1000000000:=by have d:=Gj (f:=λx=>(bN g.bj x.toNat cj.bu.bw).value) (c:=c) (k:=c.length) (m:=1000000) (by omega) λx b=>a.2 _ (cy (by have:=h.2 x b;omega));rw[φ] at d;have e:=rU h;have i:=a.1.1.2.2;grind[cR]
theorem V0 {g:bY} (d:rV g):∀{n m:Nat} {c:List Int},dm g.bj.length c->(1000000000 - cR g c).toNat<=n->(1000000000 - cR g c).toNat<=m->kZ g n c=kZ g m c:=by
 intro n;induction n with
 |zero=>
  intro m c a k j;have h:=pS d a;cases m with
  |zero=>rfl;|succ m=>
   unfold kZ;cases f:iz g c with
   |none=>rfl;|some t=>
    obtain⟨b,e⟩:=vh f a;have i:=pS d e;unfold mq at b;grind
 |succ n l=>
  intro m c a k j;have h:=pS d a;cases f:iz g c with
  |none=>
   cases m<;>grind[kZ];|some t=>
   obtain⟨b,e⟩:=vh f a;have i:=pS d e;unfold mq at b;simp only[ζ,decide_eq_true_eq] at b;cases m<;>grind[kZ]
theorem VZ {g:bY} (d:rV g) {c t:List Int} (b:dm g.bj.length c) (h:iz g c=some t):kh g c=kh g t:=by obtain⟨a,e⟩:=vh h b;have f:=pS d b;have i:=pS d e;unfold mq at a;simp only[ζ,decide_eq_true_eq] at a;unfold kh;rw[show(1000000000 - cR g c).toNat=((1000000000 - cR g c).toNat - 1)+1 by omega];grind[kZ,V0]
theorem NY {g:bY} {c:List Int} (h:iz g c=none):kh g c=c:=by unfold kh;generalize (1000000000 - cR g c).toNat=n;cases n<;>grind[kZ]
def VY (p:ew) (c:List Int):Prop:=nW p=0/\dm p.bj.length c
theorem NX {p:ew} (c:nW p=0):rV (bV p):=by have a:=cT c;refine⟨N3 (by have:=a.2.1;omega),λo b=>?_⟩;have:=a.2.2.2.2 o b;omega
theorem ER {l:List bA}:∀{c:List Int} {a:Int}, -1<=a->(dG l a c).isSome=true->c.Pairwise (·<·)/\∀x∈c,a<x/\x<l.length
 |[],a,_,_=>⟨δN,by simp⟩
 |i::c,a,f,h=>by
  simp only[dG] at h;split at h;·simp at h
  next g=>rw[Option.isSome_map] at h;obtain⟨d,e⟩:=@ER l c i (by omega) h;refine⟨γp.2 ⟨λx b=>(e x b).1,d⟩,λx b=>?_⟩;grind
theorem rT {p:ew} {c:List Int} (h:cq p c=0):VY p c:=by
 unfold cq at h;split at h;·omega
 ·rename_i b;split at h;·cases h
  next d=>have a:=@ER p.bj c (-1) (by omega) (by grind[eT]);exact⟨γa.1 b,a.1,λx e=>by grind⟩
def fY (p:ew) (c:List Int):bC:=if cq p c=0 then⟨kh (bV p) c,cR (bV p) (kh (bV p) c)⟩ else⟨[],0⟩
def xj:NG:=⟨54,ew×bC,.cons cI (.one mA),λa=>a.2.bn.length<=9223372036854775807,λa=>mA.put (fY a.1 a.2.bn)⟩
def WM (p:ew) (a:bC):Nat->bH
 |6=> .inv (List Int×List Int×Bool) (λx=>⟨[(4,.ptr 2 0 2),(5,.ptr 3 0 3),(6,.row (.i .i64) x.1),(7,.row (.i .i64) x.2.1),(8,.sb x.2.2)],[.cells p.ss 27 20 false,.cells [.row (.i .i64) a.bn,.si .i64 a.value] 40 2 false,.cells [.sc (.slice none 0 0),.il .i64 0] 40 2 false,.cells (pP (bV p)) 130 3 false]⟩)
   (λs=>(rS (.i .i64) s 6,rS (.i .i64) s 7,bS s 8)) (λx=>dm p.bj.length x.1/\(x.2.1=(iz (bV p) x.1).getD []/\x.2.2=(iz (bV p) x.1).isSome)/\kh (bV p) x.1=kh (bV p) a.bn) (λx=>(1000000000 - cR (bV p) x.1).toNat) λ_ _=> .look
 |_=> .look
theorem uG:d' xj:=by
 refine bI (L:=[td,Aw,xn,EV,vj]) xj (λa=>WM a.1 a.2) (by simpa using⟨pJ,zm,zj,Jm,rn⟩) ?_;rintro⟨p,⟨c,v⟩⟩ Q;replace Q:c.length<=9223372036854775807:=Q;refine NI (let a:=γc .i64;let b:=Ω;let d:=iZ.cells;let e:=(1000000000:Int);let f:=(0:Int);let g:=γA;let h:=γG;let y:=decide (cq p c≠f);let j:=cj.i .i64;let z:=[γu .i64 0];let A:=h [b j (fY p c).bn,a (fY p c).value];let l:=γM 2 0 2;let m:=γM 3 0 3;let n:=(iz (bV p) c).getD [];let o:=(iz (bV p) c).isSome;let q:=d [a p.bm.a0,a p.bm.a1,a p.bm.a2,a p.bm.a3,a p.bm.a4,a p.bm.a5,a p.bs.a0,a p.bs.a1,a p.bs.a2,a p.bs.a3,a p.bs.a4,a p.bs.a5,a p.bt.a0,a p.bt.a1,a p.bt.a2,a p.bt.a3,a p.bt.a4,a p.bt.a5,b j p.bk,b cj.bu p.bj] 27 20 false;let r:=d [b j c,a v] 40 2 false;let s:=d (SV.sc (Value.slice none 0 0)::z) 40 2 false;let t:=d [b j.zi (bV p).rows,b j (bV p).bounds,b cj.bu (bV p).bj] 130 3 false;let w:=p.bj.length;let u:=kh (bV p) c;c.length<=9223372036854775807/\(y=true->(h (b j []::z)).bi A)/\(y=false->True/\c.length<=1000000/\(rV (bV p)/\c.length<=900/\∀(x:Int),x∈c->f<=x/\x<(↑(bV p).bj.length:Int))/\(((l.bi l/\m.bi m/\(b j c).bi (b j c)/\(b j n).bi (b j n)/\(g o).bi (g o)/\True)/\q.bi q/\r.bi r/\s.bi s/\t.bi t/\True)/\dm w c/\(n=n/\o=o)/\u=u)/\∀(x:List Int×List Int×Bool),let k:=iz (bV p) x.2.1;let B:=b j (k.getD []);let C:=cR (bV p) x.1;dm w x.1/\(x.2.1=(iz (bV p) x.1).getD []/\x.2.2=(iz (bV p) x.1).isSome)/\kh (bV p) x.1=u->(x.2.2=true->(rV (bV p)/\x.2.1.length<=900/\∀(F:Int),F∈x.2.1->f<=F/\F<(↑(bV p).bj.length:Int))/\((l.bi l/\m.bi m/\(b j x.2.1).bi (b j x.2.1)/\B.bi B/\(g k.isSome).bi (g k.isSome)/\True)/\q.bi q/\r.bi r/\s.bi s/\t.bi t/\True)/\(dm w x.2.1/\(k.getD []=k.getD []/\k.isSome=k.isSome)/\kh (bV p) x.2.1=u)/\(e - cR (bV p) x.2.1).toNat<(e - C).toNat)/\(x.2.2=false->(mr (bV p)/\nM (bV p) x.1/\oj (bV p) x.1)/\(h [b j x.1,a C]).bi A))) (by kernel_rfl) ?_;conv=>zeta
 try simp only[vcs]
 refine⟨by omega,λh=>by simp only[fY,if_neg h];rfl,λh=>?_⟩;have R:cq p c=0:=γa.1 h;obtain⟨hc,N⟩:=rT R;have E:=NX hc;have S:=(cT hc).2.1;have I:∀d,dm p.bj.length d->mr (bV p)/\nM (bV p) d/\oj (bV p) d:=λd D=>by have h1:=rU D;exact⟨E.1,⟨by omega,D.2⟩,λx T=>E.2 _ (cy (by have:=D.2 x T;show x.toNat<p.bj.length;omega))⟩
 have hlen:=rU N;refine⟨by omega,⟨E,by omega,N.2⟩,N,?_⟩;rintro⟨d,t,b⟩ ⟨D,⟨J,H⟩,hi⟩;simp only at D J H hi ⊢;have W:=rU D;refine⟨λO=>?_,λP=>?_⟩
 ·rw[O] at H;obtain⟨t',he⟩:=Option.isSome_iff_exists.1 H.symm;rw[he] at J;simp only[Option.getD_some] at J;subst J;obtain⟨h1,K⟩:=vh he D;have V:=rU K;have Z:t.length<=p.bj.length:=V;have X:=pS E K;have Y:=pS E (c:=d) D;unfold mq at h1;simp only[ζ,decide_eq_true_eq] at h1;exact⟨⟨E,by omega,K.2⟩,⟨K,by rw[<-VZ E D he];exact hi⟩,by omega⟩
 ·rw[P] at H;have he:iz (bV p) d=none:=by
   cases U:iz (bV p) d with
   |none=>rfl;|some t=>rw[U] at H;cases H
  refine⟨I d D,?_⟩;have h1:kh (bV p) c=d:=by rw[<-hi,NY he]
  simp only[fY,if_pos R,h1];rfl
theorem NW {l:List bA}:∀{c:List Int} {a:Int}, -1<=a->c.Pairwise (·<·)->(∀x∈c,a<x/\x<l.length)->dG l a c=some (c.map λx=>bN l x.toNat cj.bu.bw)
 |[],_,_,_,_=>rfl
 |i::c,a,f,h,d=>by rw[γp] at h;have e:=d i (by simp);simp only[dG];rw[if_neg (by omega),@NW l c i (by omega) h.2 λx b=>⟨h.1 x b,(d x (by simp[b])).2⟩];rfl
theorem Am {p:ew} {c:List Int} (h:dm p.bj.length c):dG p.bj (-1) c=some (c.map (oI p)):=NW (by omega) h.1 λx a=>by have:=h.2 x a;omega
theorem EP {p:ew} (l:nW p=0) {c:List Int} (h:dm p.bj.length c):cq p c=0↔kx (bV p) c=true:=by
 have k:=Am h;have n:eT p c=true:=by grind[eT]
 have i:cK p c=c.map (oI p):=by grind[cK]
 have m:fz p (c.map (oI p))=kx (bV p) c:=by
  have f:nR p=p.bk.length+12:=by simp_all[nR]
  have g:(bV p).bounds.length=p.bk.length+12:=by show(jS p (nR p)).length=_;rw[Ax,f]
  unfold fz kx;rw[g];have d:∀r:Nat,r<p.bk.length+12->bN (bV p).bounds r 0=cB p r/\k8 (bV p) c r=bZ p (c.map (oI p)) r:=λr j=>by
   refine⟨?_,?_⟩
   ·show bN (jS p (nR p)) r 0=_;grind[bR,jS]
   ·have a:bN (bV p).rows r []=gG p r p.bj.length:=by show bN (k9 p (nR p)) r []=_;grind[bR,k9]
    unfold k8 bZ;rw[a,γO];congr 1;refine γI λx b=>?_;have:=h.2 x b;have e:x.toNat<p.bj.length:=by omega
    show bN (gG p r p.bj.length) x.toNat 0=dE p r (bN p.bj x.toNat cj.bu.bw);grind[bR,gG]
  grind
 simp_all[cq]
theorem WL {p:ew} (d:nW p=0) {c:List Int} (h:dm p.bj.length c):dA p c=cR (bV p) c:=by
 have a:cK p c=c.map (oI p):=by grind[cK,Am]
 unfold dA;rw[if_pos d,a];clear h a;induction c with
 |nil=>rfl;|cons x c b=>
  have e:cR (bV p) (x::c)=(oI p x).value+cR (bV p) c:=by simp[cR];rfl
  rw[e,<-b];rfl
theorem Mt {g:bY} {n:Nat}:∀{l c:List Int},dm n c->l.Nodup->(∀x∈l,x∉c/\0<=x/\x<n)->dm n (l.foldl (stepG g) c)
 |[],c,b,_,_=>b
 |x::l,c,b,e,d=>by
  rw[γQ] at e;have i:=d x (by simp);have f:dm n (stepG g c x):=by
   unfold stepG;split
   ·refine ES ?_ λy a=>?_;·grind[vi]
    ·rw[γo] at a;rcases a with a|a;·exact b.2 y a
     simp_all
   ·exact b
  show dm n (l.foldl (stepG g) (stepG g c x));refine Mt f e.2 λy a=>⟨λh=>?_,(d y (by simp[a])).2⟩;grind[N2]
theorem WK {p:ew}:(gj p).Nodup:=by
 unfold gj;split;·exact(xu (D:=eG p) (l:=bL p.bj.length)).symm.nodup (om.imp λh=>by omega)
 simp_all
theorem WJ {p:ew} {k:Nat}:dm p.bj.length (nc (bV p) ((gj p).take k)):=
 Mt ⟨δN,by simp⟩ (WK.sublist (θj _ _)) λx a=>⟨by simp,(Gf (γj a)).2⟩
def dq (c:Nat->Rat):(List Nat->Rat)->List Nat->Rat
 |_,[]=>0
 |f,i::R=>c i*f R - dq c (λl=>f (i::l)) R
theorem EO {c:Nat->Rat}:∀{R:List Nat},dq c (λ_=>0) R=0
 |[]=>rfl
 |i::R=>by simp only[dq,EO];grind
theorem EN {c:Nat->Rat} {p q:Rat}:∀{R:List Nat} {f g:List Nat->Rat},dq c (λl=>p*f l+q*g l) R=p*dq c f R+q*dq c g R
 |[],_,_=>by grind[dq];|i::R,f,g=>by simp only[dq,@EN c p q R];grind
theorem Ms {c d:Nat->Rat} {p q:Rat}:∀{R:List Nat} {f:List Nat->Rat},dq (λi=>p*c i+q*d i) f R=p*dq c f R+q*dq d f R
 |[],_=>by grind[dq];|i::R,f=>by simp only[dq,@Ms c d p q R];grind
theorem Mr {c:Nat->Rat} {p:Rat} {R:List Nat} {f g:List Nat->Rat}:dq c (λl=>p*f l - g l) R=p*dq c f R - dq c g R:=by have:=@EN c p (-1) R f g;grind
theorem EM {a b:Nat->Rat}:∀{R:List Nat} {f:List Nat->Rat},dq a (dq b f) R= - dq b (dq a f) R
 |[],_=>by grind[dq];|i::R,f=>by have d:dq a (λl=>dq b f (i::l)) R=b i*dq a f R - dq a (dq b λl=>f (i::l)) R:=Mr;have c:dq b (λl=>dq a f (i::l)) R=a i*dq b f R - dq b (dq a λl=>f (i::l)) R:=Mr;have h:=@EM a b R λl=>f (i::l);grind[dq]
theorem WI {a:Nat->Rat} {f:List Nat->Rat}:dq a (dq a f)=λ_=>0:=by grind[EM]
def vg (R:List Nat):Rat:=if R=[] then 1 else 0
def jo (a:List (Nat->Rat)):List Nat->Rat:=a.foldr dq vg
theorem Mq {c:Nat->Rat} {a:List (Nat->Rat)}:jo (c::a)=dq c (jo a):=rfl
theorem Mp {a:Nat->Rat}:∀{b:List (Nat->Rat)} {f:List Nat->Rat},dq a (b.foldr dq (dq a f))=λ_=>0
 |[],f=>WI
 |c::b,f=>by funext R;simp only[ζc];rw[EM,@Mp a b f,EO];rfl
theorem fold_zero:∀{cs:List (Nat->Rat)},cs.foldr dq (λ_=>0)=λ_=>0
 |[]=>rfl
 |c::cs=>by rw[ζc,fold_zero];grind[EO]
theorem Mo {a:Nat->Rat} {p m q:List (Nat->Rat)}:jo (p++a::(m++a::q))=λ_=>0:=by grind[jo,Mp,fold_zero]
theorem Mn {p q:Rat}:∀{a:List (Nat->Rat)} {f g:List Nat->Rat} {R:List Nat},a.foldr dq (λl=>p*f l+q*g l) R=p*a.foldr dq f R+q*a.foldr dq g R
 |[],_,_,_=>rfl
 |c::a,f,g,R=>by simp only[ζc];rw[<-EN];congr 1;funext l;exact Mn
theorem Mm {c d:Nat->Rat} {p q:Rat} {a b:List (Nat->Rat)} {R:List Nat}:jo (a++(λi=>p*c i+q*d i)::b) R=p*jo (a++c::b) R+q*jo (a++d::b) R:=by
 unfold jo;simp only[List.foldr_append,ζc];rw[<-Mn];have e:dq (λi=>p*c i+q*d i) (θz dq vg b)=λl=>p*dq c (θz dq vg b) l+q*dq d (θz dq vg b) l:=by grind[Ms]
 rw[e]
def ee (M:Nat) (q:Rat):Prop:=∃z:Int,q=(z:Rat)/\z.natAbs<=M
theorem Ml {c:Nat->Rat} {M K:Nat}:∀{R:List Nat} {f:List Nat->Rat},(∀i∈R,ee M (c i))->(∀l,l.length+1=R.length->(∀i∈l,i∈R)->ee K (f l))->ee (R.length*(M*K)) (dq c f R)
 |[],_,_,_=>⟨0,by simp[dq],by simp⟩
 |i::R,f,e,g=>by
  simp only[dq,γC];obtain⟨y,q,h⟩:=@Ml c M K R (λl=>f (i::l)) (λj a=>e j (by simp[a])) λl n p=>g _ (by simp_all) λj a=>by grind
  obtain⟨u,o,b⟩:=e i (by simp);obtain⟨v,k,d⟩:=g R (by simp) λj a=>by simp[a]
  refine⟨u*v - y,?_,?_⟩;·simp_all
  ·have m:(u*v).natAbs<=M*K:=by rw[εz];exact Nat.mul_le_mul b d
   grind
def mn (M:Nat):Nat->Nat
 |0=>1
 |n+1=>(n+1)*(M*mn M n)
theorem Al {M:Nat}:∀{cs:List (Nat->Rat)} {R:List Nat},cs.length=R.length->(∀c∈cs,∀i∈R,ee M (c i))->ee (mn M R.length) (jo cs R)
 |[],R,b,_=>by
  have:R=[]:=ψ (by simp_all);subst this;exact⟨1,by simp[jo,vg],by simp[mn]⟩;|c::cs,R,b,e=>by
  rw[Mq];cases R with
  |nil=>simp at b;|cons i R=>
   simp only[γC,mn];refine Ml (e c (by simp)) λl a g=>?_;simp only[γC] at b a;rw[show R.length=l.length by omega];exact Al (by omega) λd f j h=>e d (by simp[f]) j (g j h)
def vf (k:Nat):Nat->Rat:=λi=>if i=k then 1 else 0
theorem Mk {c:Nat->Rat}:∀{R:List Nat} {f:List Nat->Rat},(∀i∈R,c i=0)->dq c f R=0
 |[],_,_=>rfl
 |i::R,f,h=>by simp only[dq];rw[h i (by simp),Mk λj a=>h j (by simp[a])];grind
theorem Mj:∀{R:List Nat},R.Nodup->jo (R.map vf) R=1
 |[],_=>by simp[jo,vg];|i::R,h=>by rw[γQ] at h;rw[ν,Mq];simp only[dq];rw[Mk (c:=vf i) (R:=R) λj a=>by unfold vf;grind];rw[Mj h.2];unfold vf;grind
def OA (n:Nat) (f:Nat->Rat):Rat:=match n with
 |0=>0
 |n+1=>OA n f+f n
theorem cU:∀{n:Nat} {f g:Nat->Rat},(∀i,i<n->f i=g i)->OA n f=OA n g
 |0,_,_,_=>rfl
 |n+1,f,g,h=>by simp only[OA];rw[cU λi a=>h i (by omega),h n (by omega)]
theorem ve:∀{n:Nat} {f g:Nat->Rat},OA n (λi=>f i+g i)=OA n f+OA n g
 |0,_,_=>by grind[OA];|n+1,f,g=>by simp only[OA];rw[ve];grind
theorem tQ {c:Rat}:∀{n:Nat} {f:Nat->Rat},OA n (λi=>c*f i)=c*OA n f
 |0,_=>by grind[OA];|n+1,f=>by simp only[OA];rw[tQ];grind
theorem ic:∀{n:Nat},OA n (λ_=>0)=0
 |0=>rfl
 |n+1=>by simp only[OA];rw[ic];grind
theorem tP {k:Nat} {x:Rat}:∀{n:Nat},OA n (λi=>if i=k then x else 0)=if k<n then x else 0
 |0=>by simp[OA];|n+1=>by simp only[OA];rw[tP];grind
theorem Ak {n k:Nat} {f:Nat->Rat} (h:k<n):OA n f=f k+OA n λi=>if i=k then 0 else f i:=by have a:=@tP k (f k) n;rw[if_pos h] at a;rw[<-a,<-ve];grind[cU]
theorem Mi {a b:List (Nat->Rat)} {R:List Nat} {y:Nat->Rat} {T:Nat->Nat->Rat}:∀{n:Nat},jo (a++(λi=>OA n λk=>y k*T k i)::b) R=OA n λk=>y k*jo (a++T k::b) R
 |0=>by
  have e:(λi:Nat=>OA 0 λk=>y k*T k i)=λi=>(0:Rat)*(λ_=>0) i+0*(λ_=>0) i:=by grind[OA]
  rw[e,Mm];grind[OA];|n+1=>by
  have e:(λi:Nat=>OA (n+1) λk=>y k*T k i)=λi=>(1:Rat)*(λi=>OA n λk=>y k*T k i) i+y n*T n i:=by grind[OA]
  rw[e,Mm,Mi];grind[OA]
theorem WH {C:List (Nat->Rat)} {R:List Nat} {y:Nat->Rat} {r:Nat} (f:r<C.length):jo (C.set r (λi=>OA C.length λk=>y k*(C.getD k (λ_=>0)) i)) R=y r*jo C R:=by
 have a:∀c:Nat->Rat,C.set r c=C.take r++c::C.drop (r+1):=λc=>by rw[εO,if_pos f]
 rw[a,Mi,Ak f];have m:∀k,k<C.length->(if k=r then(0:Rat) else y k*jo (C.take r++C.getD k (λ_=>0)::C.drop (r+1)) R)=0:=by
  intro k g;split;·rfl
  ·rename_i e;have o:jo (C.take r++C.getD k (λ_=>0)::C.drop (r+1)) R=0:=by
    have n:C.getD k (λ_=>0)=C[k]:=by simp_all
    rw[n];rcases Nat.lt_or_gt_of_ne e with h|h
    ·have j:C.take r=C.take k++C[k]::(C.drop (k+1)).take (r - (k+1)):=by have b:C[k]::C.drop (k+1)=C.drop k:=ζQ g;obtain⟨d,rfl⟩:∃d,r=k+(d+1):=⟨r - (k+1),by omega⟩;rw[List.take_add,<-b,δv,show k+(d+1) - (k+1)=d by omega]
     grind[Mo]
    ·have j:C.drop (r+1)=(C.drop (r+1)).take (k - (r+1))++C[k]::C.drop (k+1):=by have b:C[k]::C.drop (k+1)=C.drop k:=ζQ g;rw[b];have l:=γS (k - (r+1)) (C.drop (r+1));rw[δj,show r+1+(k - (r+1))=k by omega] at l;exact l.symm
     rw[j,Mo]
   simp_all
 rw[cU m,ic];have b:C.take r++C.getD r (λ_=>0)::C.drop (r+1)=C:=by simp_all
 rw[b];grind
structure Tb where
 VL:List (List Rat)
 bound:List Rat
 cost:List Rat
 value:Rat
 basic:List Int
 free:List Int
namespace Tb
def cf (t:Tb) (i j:Nat):Rat:=bN (bN t.VL i []) j 0
def bd (t:Tb) (i:Nat):Rat:=bN t.bound i 0
def cs (t:Tb) (j:Nat):Rat:=bN t.cost j 0
def bv (t:Tb) (i:Nat):Int:=bN t.basic i 0
def fv (t:Tb) (j:Nat):Int:=bN t.free j 0
structure WF (n m:Nat) (t:Tb):Prop where
 VL:t.VL.length=m
 row:∀i,i<m->(bN t.VL i []).length=n
 bound:t.bound.length=m
 cost:t.cost.length=n
 basic:t.basic.length=m
 free:t.free.length=n
def holds (n m:Nat) (t:Tb) (x:Int->Rat) (z:Rat):Prop:=
 (∀i,i<m->x (t.bv i)+OA n (λj=>t.cf i j*x (t.fv j))=t.bd i)/\z=t.value+OA n λj=>t.cs j*x (t.fv j)
end Tb
def jR (l:List Rat) (c:Nat) (p:List Rat):List Rat:=(Γ l.length).map λj=>if j=c then -(bN l c 0*bN p j 0) else bN l j 0 - bN l c 0*bN p j 0
def kg (l:List Rat) (c:Nat):List Rat:=(Γ l.length).map λj=>if j=c then 1 / bN l c 0 else bN l j 0*(1 / bN l c 0)
def fi (t:Tb) (r c:Nat):Tb where
 VL:=(Γ t.VL.length).map λi=>if i=r then kg (bN t.VL r []) c else jR (bN t.VL i []) c (kg (bN t.VL r []) c);bound:=(Γ t.bound.length).map λi=>if i=r then t.bd r*(1 / t.cf r c) else t.bd i - t.cf i c*(t.bd r*(1 / t.cf r c));cost:=jR t.cost c (kg (bN t.VL r []) c);value:=t.value+t.cs c*(t.bd r*(1 / t.cf r c));basic:=t.basic.set r (t.fv c);free:=t.free.set c (t.bv r)
theorem pe {a:Type} {f:Nat->a} {n i:Nat} {d:a} (h:i<n):bN ((Γ n).map f) i d=f i:=by grind[bR]
theorem gU {a:Type} {l:List a} {r i:Nat} {x d:a} (h:r<l.length):bN (l.set r x) i d=if i=r then x else bN l i d:=by unfold bN;grind
section
variable {n m:Nat} {t:Tb} {r c:Nat}
theorem Mh {l:List Rat}:(kg l c).length=l.length:=by simp[kg]
theorem Aj {l p:List Rat}:(jR l c p).length=l.length:=by simp[jR]
theorem EL {l:List Rat} {j:Nat} (h:j<l.length):bN (kg l c) j 0=if j=c then 1 / bN l c 0 else bN l j 0*(1 / bN l c 0):=pe h
theorem Ai {l p:List Rat} {j:Nat} (h:j<l.length):bN (jR l c p) j 0=if j=c then -(bN l c 0*bN p j 0) else bN l j 0 - bN l c 0*bN p j 0:=pe h
theorem Mg (h:t.WF n m):(fi t r c).WF n m where
 VL:=by simp[fi,h.VL]
 row i a:=by
  simp only[fi];rw[pe (by rw[h.VL];exact a)];split;·rename_i e;subst e;rw[Mh,h.row _ a]
  ·rw[Aj,h.row _ a]
 bound:=by simp[fi,h.bound]
 cost:=by simp only[fi];rw[Aj,h.cost]
 basic:=by simp[fi,h.basic]
 free:=by simp[fi,h.free]
theorem xi (h:t.WF n m) (b:r<m) (e:c<n) {i j:Nat} (d:i<m) (a:j<n):(fi t r c).cf i j=
  if i=r then(if j=c then 1 / t.cf r c else t.cf r j*(1 / t.cf r c)) else if j=c then -(t.cf i c*(1 / t.cf r c)) else t.cf i j - t.cf i c*(t.cf r j*(1 / t.cf r c)):=by
 unfold Tb.cf;simp only[fi];rw[pe (by rw[h.VL];exact d)];split;·rw[EL (by rw[h.row _ b];exact a)]
 ·rw[Ai (by rw[h.row _ d];exact a)];rw[EL (by rw[h.row _ b];exact a)];simp_all
theorem Ah (h:t.WF n m) {i:Nat} (a:i<m):(fi t r c).bd i=if i=r then t.bd r*(1 / t.cf r c) else t.bd i - t.cf i c*(t.bd r*(1 / t.cf r c)):=by show bN _ i 0=_;simp only[fi];rw[pe (by rw[h.bound];exact a)]
theorem Mf (h:t.WF n m) (b:r<m) {j:Nat} (a:j<n):(fi t r c).cs j=if j=c then -(t.cs c*(1 / t.cf r c)) else t.cs j - t.cs c*(t.cf r j*(1 / t.cf r c)):=by
 show bN _ j 0=_;simp only[fi];rw[Ai (by rw[h.cost];exact a),EL (by rw[h.row _ b];exact a)];split;·rfl
 ·rfl
theorem EK (h:t.WF n m) (a:r<m) {i:Nat}:(fi t r c).bv i=if i=r then t.fv c else t.bv i:=gU (by rw[h.basic];exact a)
theorem EJ (h:t.WF n m) (a:c<n) {j:Nat}:(fi t r c).fv j=if j=c then t.bv r else t.fv j:=gU (by rw[h.free];exact a)
theorem piv_holds (h:t.WF n m) (b:r<m) (k:c<n) (K:t.cf r c≠0) {x:Int->Rat} {z:Rat}:(fi t r c).holds n m x z↔t.holds n m x z:=by
 have d:∀f:Nat->Rat,OA n (λj=>f j*x (t.fv j))=f c*x (t.fv c)+OA n (λj=>if j=c then 0 else f j*x (t.fv j)):=λf=>Ak k;have e:∀f:Nat->Rat,OA n (λj=>f j*x ((fi t r c).fv j))=f c*x (t.bv r)+OA n (λj=>if j=c then 0 else f j*x (t.fv j)):=λf=>by
  rw[Ak k,EJ h k,if_pos rfl];congr 1;refine cU λj _=>?_;split;·rfl
  next p=>rw[EJ h k,if_neg p]
 have I:OA n (λj=>if j=c then 0 else(fi t r c).cf r j*x (t.fv j))=(1 / t.cf r c)*OA n (λj=>if j=c then 0 else t.cf r j*x (t.fv j)):=by
  rw[<-tQ];refine cU λj p=>?_;split;·grind
  next l=>rw[xi h b k b p,if_pos rfl,if_neg l];grind
 have E:∀f g:Nat->Rat,∀q:Rat,(∀j,j<n->j≠c->g j=f j - q*(t.cf r j*(1 / t.cf r c)))->OA n (λj=>if j=c then 0 else g j*x (t.fv j))=OA n (λj=>if j=c then 0 else f j*x (t.fv j))+(-(q*(1 / t.cf r c)))*OA n (λj=>if j=c then 0 else t.cf r j*x (t.fv j)):=λf g q L=>by rw[<-tQ,<-ve];refine cU λj p=>?_;grind
 have J:∀j,j<n->j≠c->(fi t r c).cs j=t.cs j - t.cs c*(t.cf r j*(1 / t.cf r c)):=λj p l=>by rw[Mf h b p,if_neg l]
 have B:∀i,i<m->i≠r->∀j,j<n->j≠c->(fi t r c).cf i j=t.cf i j - t.cf i c*(t.cf r j*(1 / t.cf r c)):=λi o a j p l=>by rw[xi h b k o p,if_neg a,if_neg l]
 have G:=E t.cs _ _ J;have v:=Mf (c:=c) h b k;rw[if_pos rfl] at v;have s:=xi h b k b k;rw[if_pos rfl,if_pos rfl] at s;have w:=Ah (r:=r) (c:=c) h b;rw[if_pos rfl] at w;have u:=EK (c:=c) (i:=r) h b;rw[if_pos rfl] at u;have H:(fi t r c).value=t.value+t.cs c*(t.bd r*(1 / t.cf r c)):=rfl;unfold Tb.holds;constructor
 ·rintro⟨A,F⟩;have C:=A r b;rw[e,I,s,u,w] at C;refine⟨λi o=>?_,?_⟩
  ·by_cases a:i=r
   ·subst a;rw[d];grind
   ·have D:=A i o;have y:=xi h b k o k;rw[if_neg a,if_pos rfl] at y;rw[e,E _ _ _ (B i o a),EK h b,if_neg a,Ah h o,if_neg a,y] at D;rw[d];grind
  ·rw[e,G,v,H] at F;rw[d];grind
 ·rintro⟨A,F⟩;have C:=A r b;rw[d] at C;refine⟨λi o=>?_,?_⟩
  ·by_cases a:i=r
   ·subst a;rw[e,I,s,u,w];grind
   ·have D:=A i o;have y:=xi h b k o k;rw[if_neg a,if_pos rfl] at y;rw[e,E _ _ _ (B i o a),EK h b,if_neg a,Ah h o,if_neg a,y];rw[d] at D;grind
  ·rw[e,G,v,H];rw[d] at F;grind
end
def kY (f:Int->Rat):List Int->Rat
 |[]=>0
 |x::l=>f x+kY f l
theorem xh {f:Int->Rat}:∀{l k:List Int},kY f (l++k)=kY f l+kY f k
 |[],k=>by grind[kY];|x::l,k=>by simp only[γL,kY,@xh f l k];grind
theorem EI {f:Int->Rat} {l k:List Int} (h:l.Perm k):kY f l=kY f k:=by induction h<;>grind[kY,swap,trans]
theorem Me:∀{n:Nat} {f:Nat->Rat},OA (n+1) f=f 0+OA n λi=>f (i+1)
 |0,f=>by grind[OA];|n+1,f=>by rw[OA,Me];grind[OA]
theorem pd {f:Int->Rat}:∀{l:List Int},kY f l=OA l.length λk=>f (bN l k 0)
 |[]=>rfl
 |x::l=>by rw[γC,Me,kY,pd];rfl
def iQ (n:Nat) (t:Tb) (y:Nat->Rat) (v:Int):Rat:=if v∈t.free then y (t.free.idxOf v) else t.bd (t.basic.idxOf v) - OA n λj=>t.cf (t.basic.idxOf v) j*y j
section
variable {n m:Nat} {t t0:Tb} {r c:Nat}
theorem nL {l:List Int} {i:Nat} (h:l.Nodup) (a:i<l.length):l.idxOf (bN l i 0)=i:=by grind[bR]
theorem lN (h:t.WF n m) (c:(t.basic++t.free).Nodup) {y:Nat->Rat} {j:Nat} (a:j<n):iQ n t y (t.fv j)=y j:=by
 have b:j<t.free.length:=by rw[h.free];exact a
 unfold iQ Tb.fv;rw[if_pos (by grind[bR]),nL (γy.1 c).2.1 b]
theorem EH (h:t.WF n m) (b:(t.basic++t.free).Nodup) {i:Nat} (a:i<m):t.bv i∉t.free:=λc=>by
 have d:i<t.basic.length:=by rw[h.basic];exact a
 grind[Tb.bv,bR]
theorem ml (h:t.WF n m) (a:(t.basic++t.free).Nodup) {y:Nat->Rat} {i:Nat} (c:i<m):iQ n t y (t.bv i)=t.bd i - OA n λj=>t.cf i j*y j:=by
 have b:i<t.basic.length:=by rw[h.basic];exact c
 have e:t.basic.idxOf (t.bv i)=i:=nL (γy.1 a).1 b;unfold iQ;grind
theorem asg_holds (h:t.WF n m) (a:(t.basic++t.free).Nodup) {y:Nat->Rat}:t.holds n m (iQ n t y) (t.value+OA n λj=>t.cs j*y j):=by
 have e:∀f:Nat->Rat,OA n (λj=>f j*iQ n t y (t.fv j))=OA n λj=>f j*y j:=λf=>cU λj c=>by grind[lN]
 refine⟨λi b=>?_,?_⟩
 ·rw[ml h a b,e];grind
 ·rw[e]
def fh (m:Nat) (a:Tb) (v:Int) (i:Nat):Rat:=if i<m then(if v∈a.free then a.cf i (a.free.idxOf v) else if a.basic.idxOf v=i then 1 else 0) else 0
def vd (m:Nat) (a:Tb) (i:Nat):Rat:=if i<m then a.bd i else 0
def iT (m:Nat) (a t:Tb):Rat:=jo (t.basic.map (fh m a)) (Γ m)
structure dx (n m:Nat) (t0 t:Tb):Prop where
 wf0:t0.WF n m
 wf:t.WF n m
 nd:(t0.basic++t0.free).Nodup
 perm:(t.basic++t.free).Perm (t0.basic++t0.free)
 sol:∀x z,t.holds n m x z↔t0.holds n m x z
 dt:iT m t0 t≠0
theorem dx.fF (h:dx n m t0 t):(t.basic++t.free).Nodup:=h.perm.symm.nodup h.nd
theorem dx.refl (h:t0.WF n m) (a:(t0.basic++t0.free).Nodup):dx n m t0 t0:=by
 refine⟨h,h,a,ζ6 _,λ_ _=>Iff.rfl,?_⟩;have e:t0.basic.map (fh m t0)=(Γ m).map vf:=by
  refine List.ext_getElem (by simp[h.basic]) λi g d=>?_;simp only[List.getElem_map,List.getElem_range];have f:i<m:=by simp_all
  have b:t0.basic[i]'(by simp_all)=t0.bv i:=by grind[Tb.bv,bR]
  rw[b];funext k;have c:t0.basic.idxOf (t0.bv i)=i:=nL (γy.1 a).1 (by grind);unfold fh vf;grind
 grind[iT,Mj]
theorem dx.rows (h:dx n m t0 t) {x:Int->Rat} {z:Rat} (l:t.holds n m x z) {i:Nat}:OA m (λk=>fh m t0 (t.bv k) i*x (t.bv k))+OA n (λj=>fh m t0 (t.fv j) i*x (t.fv j))=vd m t0 i:=by
 have b:∀t:Tb,t.WF n m->kY (λv=>fh m t0 v i*x v) (t.basic++t.free)=OA m (λk=>fh m t0 (t.bv k) i*x (t.bv k))+OA n (λj=>fh m t0 (t.fv j) i*x (t.fv j)):=λt f=>by rw[xh,pd,pd,f.basic,f.free];rfl
 rw[<-b t h.wf,EI h.perm,b t0 h.wf0];have p:=(h.sol x z).1 l;unfold vd;by_cases a:i<m
 ·rw[if_pos a,<-p.1 i a];congr 1
  ·have e:OA m (λk=>fh m t0 (t0.bv k) i*x (t0.bv k))=OA m λk=>if k=i then x (t0.bv i) else 0:=cU λk d=>by have c:t0.basic.idxOf (t0.bv k)=k:=nL (γy.1 h.nd).1 (by rw[h.wf0.basic];exact d);unfold fh;rw[if_pos a,if_neg (EH h.wf0 h.nd d),c];grind
   rw[e,tP,if_pos a]
  ·refine cU λj g=>?_;have o:j<t0.free.length:=by rw[h.wf0.free];exact g
   unfold fh;rw[if_pos a,if_pos (by grind[Tb.fv,bR])];have c:t0.free.idxOf (t0.fv j)=j:=nL (γy.1 h.nd).2.1 o;rw[c]
 ·rw[if_neg a];have e:∀v,fh m t0 v i=0:=λv=>by simp_all[fh,if_neg]
  simp only[e];grind[ic]
theorem dx.Mc (h:dx n m t0 t):vd m t0=λi=>OA m λk=>t.bd k*fh m t0 (t.bv k) i:=by funext i;have a:=h.rows (i:=i) (asg_holds h.wf h.fF (y:=λ_=>0));rw[<-a,cU (n:=n) (g:=λ_=>0) λj c=>by rw[lN h.wf h.fF c];grind,ic,cU (n:=m) (g:=λk=>t.bd k*fh m t0 (t.bv k) i) λk b=>by rw[ml h.wf h.fF b,cU (g:=λ_=>0) λj _=>by grind,ic];grind];grind
theorem dx.WG (h:dx n m t0 t) {c:Nat} (a:c<n):fh m t0 (t.fv c)=λi=>OA m λk=>t.cf k c*fh m t0 (t.bv k) i:=by funext i;have f:=congrFun h.Mc i;have b:=h.rows (i:=i) (asg_holds h.wf h.fF (y:=λj=>if j=c then 1 else 0));rw[cU (n:=n) (g:=λj=>if j=c then fh m t0 (t.fv c) i else 0) λj e=>by rw[lN h.wf h.fF e];grind,tP,if_pos a,cU (n:=m) (g:=λk=>t.bd k*fh m t0 (t.bv k) i+(-1)*(t.cf k c*fh m t0 (t.bv k) i)) λk d=>by rw[ml h.wf h.fF d,cU (g:=λj=>if j=c then t.cf k c else 0) λj _=>by grind,tP,if_pos a];grind,ve,tQ] at b;grind
theorem getD_map {l:List Int} {f:Int->Nat->Rat} {k:Nat} (h:k<l.length):(l.map f).getD k (λ_=>0)=f (bN l k 0):=by grind[bR]
theorem dx.Mb (h:dx n m t0 t) {y:Nat->Rat} {r:Nat} (d:r<m):jo ((t.basic.map (fh m t0)).set r λi=>OA m λk=>y k*fh m t0 (t.bv k) i) (Γ m)=y r*iT m t0 t:=by
 have b:(t.basic.map (fh m t0)).length=m:=by rw[Φ,h.wf.basic]
 have a:=@WH (t.basic.map (fh m t0)) (Γ m) y r (by omega);unfold iT;rw[<-a,b];congr 2;funext i;refine cU λk c=>?_;rw[getD_map (by simp_all)];rfl
theorem dx.Ma (h:dx n m t0 t) {r c:Nat} (a:r<m) (b:c<n):jo ((t.basic.map (fh m t0)).set r (fh m t0 (t.fv c))) (Γ m)=t.cf r c*iT m t0 t:=by rw[h.WG b];exact h.Mb (y:=λk=>t.cf k c) a
theorem dx.WE (h:dx n m t0 t) {r:Nat} (a:r<m):jo ((t.basic.map (fh m t0)).set r (vd m t0)) (Γ m)=t.bd r*iT m t0 t:=by rw[h.Mc];exact h.Mb (y:=t.bd) a
theorem set_perm {l:List Int} {r:Nat} {x:Int} (a:r<l.length):(l.set r x).Perm (x::(l.take r++l.drop (r+1))):=by rw[εO,if_pos a];simp_all
theorem WC {l:List Int} {r:Nat} (a:r<l.length):(l[r]::(l.take r++l.drop (r+1))).Perm l:=by have h:=@set_perm l r l[r] a;grind
theorem swap_perm {l k:List Int} {r c:Nat} (a:r<l.length) (b:c<k.length):(l.set r (bN k c 0)++k.set c (bN l r 0)).Perm (l++k):=by grind[bR]
theorem dx.Rm (h:dx n m t0 t) {r c:Nat} (a:r<m) (b:c<n) (d:t.cf r c≠0):dx n m t0 (fi t r c) where
 wf0:=h.wf0;wf:=Mg h.wf;nd:=h.nd;perm:=(swap_perm (by rw[h.wf.basic];exact a) (by rw[h.wf.free];exact b)).trans h.perm;sol x z:=(piv_holds h.wf a b d).trans (h.sol x z);dt:=by
  have e:iT m t0 (fi t r c)=t.cf r c*iT m t0 t:=by rw[<-h.Ma a b];unfold iT;congr 1;show(t.basic.set r (t.fv c)).map (fh m t0)=_;simp_all
  rw[e];have:=h.dt;grind
theorem Ag {M:Nat} (d:1<=M) (c:∀i j,i<m->j<n->ee M (t0.cf i j)) (a:t0.WF n m) {v:Int} {i:Nat}:ee M (fh m t0 v i):=by
 unfold fh;split
 ·split
  next b e=>exact c _ _ b (by rw[<-a.free];grind)
  ·split;·exact⟨1,by simp,by omega⟩
   ·exact⟨0,by simp,by simp⟩
 ·exact⟨0,by simp,by simp⟩
theorem mem_set {C:List (Nat->Rat)} {r:Nat} {c d:Nat->Rat} (h:d∈C.set r c):d∈C\/d=c:=List.mem_or_eq_of_mem_set h
theorem dx.WA (h:dx n m t0 t) {M:Nat} (a:1<=M) (c:∀i j,i<m->j<n->ee M (t0.cf i j)):ee (mn M m) (iT m t0 t):=by
 have:=@Al M (t.basic.map (fh m t0)) (Γ m) (by simp[h.wf.basic]) λd b i _=>by obtain⟨v,_,rfl⟩:=Δ.1 b;exact Ag a c h.wf0
 rwa [List.length_range] at this
theorem dx.Ry (h:dx n m t0 t) {M:Nat} (e:1<=M) (b:∀i j,i<m->j<n->ee M (t0.cf i j)) {r c:Nat} (f:r<m) (g:c<n):ee (mn M m) (t.cf r c*iT m t0 t):=by
 rw[<-h.Ma f g];have:=@Al M ((t.basic.map (fh m t0)).set r (fh m t0 (t.fv c))) (Γ m) (by simp[h.wf.basic]) λd a i _=>by
  rcases mem_set a with a|rfl
  ·obtain⟨v,_,rfl⟩:=Δ.1 a;exact Ag e b h.wf0
  ·exact Ag e b h.wf0
 simp_all
theorem dx.Rz (h:dx n m t0 t) {M:Nat} (b:1<=M) (c:∀i j,i<m->j<n->ee M (t0.cf i j)) (f:∀i,i<m->ee M (t0.bd i)) {r:Nat} (e:r<m):ee (mn M m) (t.bd r*iT m t0 t):=by
 rw[<-h.WE e];have:=@Al M ((t.basic.map (fh m t0)).set r (vd m t0)) (Γ m) (by simp[h.wf.basic]) λd a i g=>by
  rcases mem_set a with a|rfl
  ·obtain⟨v,_,rfl⟩:=Δ.1 a;exact Ag b c h.wf0
  simp_all[vd]
 simp_all
end
structure pG (n m:Nat) (t:Tb) (r c:Nat):Prop where
 hr:r<m
 hc:c<n
 cost:0<t.cs c
 least:∀j,j<n->0<t.cs j->t.fv c<=t.fv j
 pos:0<t.cf r c
 ratio:∀i,i<m->0<t.cf i c->t.bd r / t.cf r c<t.bd i / t.cf i c\/(t.bd r / t.cf r c=t.bd i / t.cf i c/\t.bv r<=t.bv i)
def jQ (m:Nat) (t:Tb):Prop:=∀i,i<m->0<=t.bd i
section
variable {n m:Nat} {t t0:Tb} {r c:Nat}
theorem xg (a b:Rat):a<=b\/b<a:=(Classical.em (a<=b)).imp id Rat.not_le.1
theorem div_mul {a b:Rat} (h:0<b):a / b*b=a:=by grind
theorem inv_pos {b:Rat} (h:0<b):0<1 / b:=by
 have c:(1 / b)*b=1:=div_mul h;rcases xg (1 / b) 0 with a|a
 ·exfalso;have d:0<=(-(1 / b))*b:=δw (by grind) (by grind);grind
 ·exact a
theorem L_ {a b:Rat} (c:0<=a) (h:0<b):0<=a / b:=by grind[δw,inv_pos]
theorem pG.ge (h:pG n m t r c) (a:jQ m t):0<=t.bd r / t.cf r c:=L_ (a r h.hr) h.pos
theorem pG.vc (h:pG n m t r c) (k:t.WF n m) (d:jQ m t):jQ m (fi t r c):=by
 intro i a;have f:=h.ge d;have e:t.bd r*(1 / t.cf r c)=t.bd r / t.cf r c:=by grind
 rw[Ah k a,e];split;·exact f
 ·rcases xg (t.cf i c) 0 with b|b
  ·have j:0<=(-(t.cf i c))*(t.bd r / t.cf r c):=δw (by grind) f;have:=d i a;grind
  ·have j:t.bd r / t.cf r c<=t.bd i / t.cf i c:=by rcases h.ratio i a b with g|g<;>grind
   have g:0<=t.cf i c*(t.bd i / t.cf i c - t.bd r / t.cf r c):=δw (by grind) (by grind);grind[div_mul]
theorem pG.value:(fi t r c).value=t.value+t.cs c*(t.bd r / t.cf r c):=by show t.value+t.cs c*(t.bd r*(1 / t.cf r c))=_;grind
theorem EG {b:Type}:∀(L:List b) (f:Nat->b),(∀k,f k∈L)->∃i j,i<j/\f i=f j
 |[],f,h=>by simp_all;|a::L,f,h=>by
  by_cases c:∃i,f i=a
  ·obtain⟨i,g⟩:=c;by_cases e:∃j,i<j/\f j=a;·grind
   ·obtain⟨x,y,d,l⟩:=EG L (λk=>f (k+i+1)) λk=>by grind
    grind
  ·exact EG L f λk=>by simp_all
def xf (V:List Int):Nat->List (List Int)
 |0=>[[]]
 |k+1=>(xf V k).flatMap λl=>V.map λv=>v::l
theorem L9 {V:List Int}:∀{l:List Int},(∀v∈l,v∈V)->l∈xf V l.length
 |[],_=>by simp[xf];|x::l,h=>by simp only[γC,xf,List.mem_flatMap,Δ];exact⟨l,L9 λv a=>h v (by simp[a]),x,h x (by simp),rfl⟩
theorem Wz {l:List Int} {r:Nat} {x v:Int} (a:r<l.length) (b:l.Nodup):v∈l.set r x↔v=x\/(v∈l/\v≠bN l r 0):=by grind[set_perm,bR,WC]
theorem L1 {f:Nat->Int} {i:Nat}:∀{d:Nat},∃k,(i<=k/\k<=i+d)/\∀x,i<=x->x<=i+d->f x<=f k
 |0=>⟨i,by omega,λx a b=>by grind⟩
 |d+1=>by
  obtain⟨k,a,b⟩:=@L1 f i d;by_cases h:f k<=f (i+(d+1))
  ·refine⟨i+(d+1),by omega,λx c e=>?_⟩;grind
  ·refine⟨k,by omega,λx c e=>?_⟩;grind
theorem L0:∀{n:Nat} {f:Nat->Rat},0<OA n f->∃j,j<n/\0<f j
 |0,f,h=>by grind[OA];|n+1,f,h=>by
  rcases xg (f n) 0 with a|a
  ·obtain⟨j,c,b⟩:=@L0 n f (by grind[OA]);grind
  grind
theorem tO (h:t.WF n m) {j:Nat} (a:j<n):t.fv j∈t.free:=by
 have b:j<t.free.length:=by rw[h.free];exact a
 grind[Tb.fv,bR]
theorem xe (h:t.WF n m) {j:Nat} (a:j<m):t.bv j∈t.basic:=by
 have b:j<t.basic.length:=by rw[h.basic];exact a
 grind[Tb.bv,bR]
theorem tN (h:t.WF n m) {v:Int} (b:v∈t.free):∃j,j<n/\t.fv j=v:=by obtain⟨j,a,rfl⟩:=γJ b;exact⟨j,by rw[<-h.free];exact a,by grind[Tb.fv,bR]⟩
theorem u_ (h:t.WF n m) {v:Int} (b:v∈t.basic):∃j,j<m/\t.bv j=v:=by obtain⟨j,a,rfl⟩:=γJ b;exact⟨j,by rw[<-h.basic];exact a,by grind[Tb.bv,bR]⟩
theorem EF (c:(t.basic++t.free).Nodup) {v:Int} (a:v∈t.basic) (b:v∈t.free):False:=(γy.1 c).2.2 _ a _ b rfl
theorem Wy (h:t.WF n m) (c:(t.basic++t.free).Nodup) {i j:Nat} (f:i<m) (d:j<m) (e:t.bv i=t.bv j):i=j:=by have a:=nL (γy.1 c).1 (show i<t.basic.length by rw[h.basic];exact f);have b:=nL (γy.1 c).1 (show j<t.basic.length by rw[h.basic];exact d);grind[Tb.bv]
theorem Wx (h:t.WF n m) (c:(t.basic++t.free).Nodup) {i j:Nat} (f:i<n) (d:j<n) (e:t.fv i=t.fv j):i=j:=by have a:=nL (γy.1 c).2.1 (show i<t.free.length by rw[h.free];exact f);have b:=nL (γy.1 c).2.1 (show j<t.free.length by rw[h.free];exact d);grind[Tb.fv]
theorem Ww {T:Nat->Tb} {r c:Nat->Nat} (p:∀k,dx n m t0 (T k)) (hF:∀k,jQ m (T k)) (B:∀k,pG n m (T k) (r k) (c k)) (hT:∀k,T (k+1)=fi (T k) (r k) (c k)) {i j:Nat} (b8:i<j) (hb:(T i).basic=(T j).basic) (hf:(T i).free=(T j).free):False:=by
 have b7:(T i).value=(T j).value:=by
  have t:=((p j).sol _ _).2 (((p i).sol _ _).1 (asg_holds (p i).wf (p i).fF (y:=λ_=>0)));have e1:OA n (λk=>(T i).cs k*(λ_=>(0:Rat)) k)=0:=by grind[ic]
  have e2:OA n (λk=>(T j).cs k*iQ n (T i) (λ_=>0) ((T j).fv k))=0:=by
   rw[cU (g:=λ_=>0) λk hk=>by
    have:(T j).fv k=(T i).fv k:=by grind[Tb.fv]
    rw[this,lN (p i).wf (p i).fF hk];grind,ic]
  have K:=t.2;grind
 have L:∀k,(T k).value<=(T (k+1)).value:=λk=>by rw[hT k,pG.value];have:=δw (a:=(T k).cs (c k)) (by have:=(B k).cost;grind) ((B k).ge (hF k));grind
 have S:∀d a,(T a).value<=(T (a+d)).value:=λd=>by induction d<;>grind
 have H:∀k,i<=k->k<j->(T k).bd (r k)=0:=λk t K=>by have a1:=S (k - i) i;have a2:=S (j - (k+1)) (k+1);rw[show i+(k - i)=k by omega] at a1;rw[show k+1+(j - (k+1))=j by omega] at a2;have a3:=L k;rw[hT k] at a2 a3;rw[pG.value] at a2 a3;have h3:=(B k).ge (hF k);have hc:=(B k).cost;have h4:=@div_mul ((T k).bd (r k)) _ (B k).pos;grind[Rat.mul_eq_zero]
 have b6:∀k,i<=k->k<j->∀v,v∈(T k).basic++(T k).free->iQ n (T (k+1)) (λ_=>0) v=iQ n (T k) (λ_=>0) v:=λk t K v O=>by
  have hw:=(p k).wf;have G:=(p (k+1)).wf;have hx:=((p (k+1)).sol _ _).2 (((p k).sol _ _).1 (asg_holds hw (p k).fF (y:=λ_=>0)));have hz:∀q,q<n->iQ n (T k) (λ_=>0) ((T (k+1)).fv q)=0:=λq s=>by
   rw[hT k,EJ hw (B k).hc];split
   ·rw[ml hw (p k).fF (B k).hr,H k t K,cU (g:=λ_=>0) λj _=>by grind,ic];grind
   ·rw[lN hw (p k).fF s]
  have A:v∈(T (k+1)).basic++(T (k+1)).free:=((p (k+1)).perm.trans (p k).perm.symm).mem_iff.2 O;rcases γo.1 A with A|A
  ·obtain⟨q,s,rfl⟩:=u_ G A;have:=hx.1 q s;rw[cU (g:=λ_=>0) λj hj=>by simp_all,ic] at this;rw[ml G (p (k+1)).fF s,cU (g:=λ_=>0) λj _=>by grind,ic];grind
  ·obtain⟨q,s,rfl⟩:=tN G A;rw[hz q s,lN G (p (k+1)).fF s]
 have w:∀a b v,v∈(T a).basic++(T a).free->v∈(T b).basic++(T b).free:=λa b v O=>((p b).perm.trans (p a).perm.symm).mem_iff.2 O;have W:∀d a,i<=a->a+d<=j->∀v,v∈(T a).basic++(T a).free->iQ n (T (a+d)) (λ_=>0) v=iQ n (T a) (λ_=>0) v:=λd=>by induction d<;>grind
 have hA:∀a b,i<=a->a<=j->i<=b->b<=j->∀v,v∈(T a).basic++(T a).free->iQ n (T a) (λ_=>0) v=iQ n (T b) (λ_=>0) v:=λa b t K h3 h4 v O=>by have e1:=W (a - i) i (by omega) (by omega) v (w _ _ v O);have e2:=W (b - i) i (by omega) (by omega) v (w _ _ v O);simp_all
 have P:∀k v,v∈(T (k+1)).basic↔v=(T k).fv (c k)\/(v∈(T k).basic/\v≠(T k).bv (r k)):=λk v=>by rw[hT k];exact Wz (by rw[(p k).wf.basic];exact(B k).hr) (γy.1 (p k).fF).1
 have U:∀v a b,i<=a->a<=j->i<=b->b<=j->v∈(T a).basic->v∉(T b).basic->∃k,i<=k/\k<j/\(T k).fv (c k)=v:=λv a b a1 a2 b1 b2 ha a9=>by
  apply γU;intro Y;have I:∀d x,i<=x->x+d<=j->v∈(T (x+d)).basic->v∈(T x).basic:=λd=>by induction d<;>grind
  have t:=I (a - i) i (by omega) (by omega) (by simp_all);rw[hb] at t;exact a9 (I (j - b) b (by omega) (by omega) (by simp_all))
 obtain⟨l,⟨a6,b9⟩,a0⟩:=@L1 (λk=>(T k).fv (c k)) i (j - 1 - i);have J:∀x,i<=x->x<j->(T x).fv (c x)<=(T l).fv (c l):=λx t K=>a0 x t (by omega);have c2:l<j:=by omega
 have a7:(T l).fv (c l)∈(T l).free:=tO (p l).wf (B l).hc;have c0:(T l).fv (c l)∉(T l).basic:=λh=>EF (p l).fF h a7;obtain⟨o,F,Q,hl⟩:∃o,i<=o/\o<j/\(T o).bv (r o)=(T l).fv (c l):=by
  apply γU;intro Y;have up:∀d x,i<=x->x+d<=j->(T l).fv (c l)∈(T x).basic->(T l).fv (c l)∈(T (x+d)).basic:=λd=>by
   induction d with
   |zero=>intro x _ _ h;exact h;|succ d ih=>
    intro x t K h;exact(P (x+d) _).2 (.inr ⟨ih x t (by omega) h,λe=>Y ⟨x+d,by omega,by omega,e.symm⟩⟩)
  have t:=up (j - (l+1)) (l+1) (by omega) (by omega) ((P l _).2 (.inl rfl));rw[show l+1+(j - (l+1))=j by omega,<-hb] at t;have K:=up (l - i) i (by omega) (by omega) t;simp_all
 have w1:=(p l).wf;have C:=(p o).wf;have n1:=(p l).fF;have E:=(p o).fF;have p1:=B l;have N:=B o;have x1:=(((p l).sol _ _).2 (((p o).sol _ _).1 (asg_holds C E (y:=λq=>if q=c o then 1 else 0)))).2;have x0:=(((p l).sol _ _).2 (((p o).sol _ _).1 (asg_holds C E (y:=λ_=>0)))).2;rw[cU (f:=λq=>(T o).cs q*(λq=>if q=c o then(1:Rat) else 0) q) (g:=λq=>if q=c o then(T o).cs (c o) else 0) λq _=>by by_cases s:q=c o<;>grind,tP,if_pos N.hc] at x1;rw[cU (f:=λq=>(T o).cs q*(λ_=>(0:Rat)) q) (g:=λ_=>0) λq _=>by grind,ic] at x0;have hd:0<OA n λq=>(T l).cs q*(iQ n (T o) (λq=>if q=c o then 1 else 0) ((T l).fv q) - iQ n (T o) (λ_=>0) ((T l).fv q)):=by rw[cU (g:=λq=>(T l).cs q*iQ n (T o) (λq=>if q=c o then 1 else 0) ((T l).fv q)+(-1)*((T l).cs q*iQ n (T o) (λ_=>0) ((T l).fv q))) λq _=>by grind,ve,tQ];have:=N.cost;grind
 obtain⟨q,s,u⟩:=L0 hd;have a5:(T l).fv q∈(T l).free:=tO w1 s;have Z:=w l o _ (List.mem_append_right _ a5);rcases γo.1 Z with a4|X
 ·obtain⟨D,z,e⟩:=u_ C a4;rw[<-e,ml C E z,ml C E z,cU (f:=λj=>(T o).cf D j*(λq=>if q=c o then(1:Rat) else 0) j) (g:=λj=>if j=c o then(T o).cf D (c o) else 0) (λj _=>by by_cases hj:j=c o<;>grind),tP,if_pos N.hc,cU (f:=λj=>(T o).cf D j*(λ_=>(0:Rat)) j) (g:=λ_=>0) (λj _=>by grind),ic] at u;have M:0<(T l).cs q*(-(T o).cf D (c o)):=by grind
  obtain⟨k3,b3,b5,h3⟩:=U _ o l F (by omega) a6 (by omega) a4 (λh=>EF n1 h a5);have b0:(T l).fv q<=(T l).fv (c l):=by grind
  rcases xg ((T l).cs q) 0 with hs|hs
  ·have a8:0<(T o).cf D (c o):=by
    rcases xg ((T o).cf D (c o)) 0 with h4|h4
    ·exfalso;have:=δw (a:= -(T l).cs q) (b:= -(T o).cf D (c o)) (by grind) (by grind);grind
    ·exact h4
   have b4:(T o).bd D=0:=by have V:=hA o l F (by omega) a6 (by omega) ((T l).fv q) Z;rw[lN w1 n1 s,<-e,ml C E z,cU (g:=λ_=>0) λj _=>by grind,ic] at V;grind
   have c1:=H o F Q;have hz:∀b:Rat,(0:Rat) / b=0:=λb=>by grind
   rcases N.ratio D z a8 with h6|h6;·simp_all
   ·have h7:(T l).fv (c l)<=(T l).fv q:=by omega
    have h8:=Wx w1 n1 s p1.hc (by omega);rw[h8] at hs;have:=p1.cost;grind
  ·have h7:=p1.least q s hs;have h8:D=r o:=Wy C E z N.hr (by omega);rw[h8] at M;have:=δw (a:=(T l).cs q) (b:=(T o).cf (r o) (c o)) (by grind) (by have:=N.pos;grind);grind
 ·obtain⟨q2,R,e⟩:=tN C X;rw[<-e,lN C E R,lN C E R] at u;by_cases V:q2=c o
  ·rw[if_pos V] at u;have h6:=p1.least q s (by grind);have h7:=J o F Q;rw[V] at e;have h8:(T l).fv (c l)=(T o).fv (c o):=by omega
   exact EF E (xe C N.hr) (by grind)
  ·rw[if_neg V] at u;grind
end
open Go.Proofs.YtbnhiekmnpikhaaGreat.Ir
open Go.Proofs
def dO (x y:Int):Int:=(Nat.gcd x.toNat y.toNat:Nat)
theorem Wv {x y:Int} (a:0<=x) (h1:0<y):dO y (x % y)=dO x y:=by unfold dO;congr 1;rw[Nat.gcd_comm x.toNat,Nat.gcd_rec y.toNat x.toNat,Nat.gcd_comm,Int.toNat_emod a (by omega)]
theorem Wu {x:Int} (a:0<=x):dO x 0=x:=by unfold dO;simp;omega
theorem kX {i u v:Nat} (h:u=v):(γZ i u 1).bi (γZ i v 1):=by subst h;rfl
theorem LZ {l:List Int} (h:l=[]):(Ω (.i .i64) []).bi (Ω (.i .u32) l):=by subst h;rfl
def Ri (x y:Int):SV:=.IL [.row (.i .u32) (bU (x - y)),.sb (decide (y<=x))]
theorem EE {n:Int} (h:n<=0):bU n=[]:=by unfold bU;rw[show n.toNat=0 by omega];rfl
def ED:NG:=⟨166,List Int×List Int,.cons (cP (.i .u32)) (.one (cP (.i .u32))),λa=>(ou a.1/\ou a.2)/\a.1.length<=100000000000/\a.2.length<=100000000000,
 λa=>Ri (bX a.1) (bX a.2)⟩
def Wt (a:List Int×List Int):Nat->bH
 |7=> .inv (Int×Int×List Int) (λx=>⟨[(0,.row (.i .u32) (MO a.1)),(1,.row (.i .u32) (MO a.2)),(6,.ow 0 x.2.2.length 1),(7,.si .u64 x.2.1),(22,.si .i64 (MO a.1).length),(23,.si .i64 x.1)],[.row (.i .u32) x.2.2 172 true]⟩)
  (λs=>(iS s 23,iS s 7,oS (.i .u32) s 0))
  (λx=>(0<=x.1/\x.1<=(MO a.1).length)/\(0<=x.2.1/\x.2.1<=1)/\ou x.2.2/\x.2.2.length=(MO a.1).length/\(∀j,x.1.toNat<=j->bN x.2.2 j 0=0)/\
   bX x.2.2 - 4294967296^x.1.toNat*x.2.1=bX ((MO a.1).take x.1.toNat) - bX ((MO a.2).take x.1.toNat)) (λx=>((MO a.1).length - x.1).toNat) λ_ _=> .look
 |_=> .look
theorem LY {s t row:List Int} {i:Nat} {a d v c:Int} (l:ou s) (k:ou t) (hr:ou row) (f:row.length=s.length) (b:∀j,i<=j->bN row j 0=0)
  (h:bX row - 4294967296^i*a=bX (s.take i) - bX (t.take i)) (hi:i<s.length) (g:d=bN s i 0 - a - bN t i 0) (e:0<=v/\v<4294967296) (hc:v - 4294967296*c=d):
  ou (row.set i v)/\(row.set i v).length=s.length/\(∀j,i+1<=j->bN (row.set i v) j 0=0)/\bX (row.set i v) - 4294967296^(i+1)*c=bX (s.take (i+1)) - bX (t.take (i+1)):=by
 refine⟨mu hr e.1 e.2,by simp[f],λj n=>by rw[ot (by omega)];exact b j (by omega),?_⟩;rw[sH (by omega),lf,lf,b i (π _),γW,ζp];have h1:(4294967296:Int)^i*(v - 4294967296*c)=4294967296^i*(bN s i 0 - a - bN t i 0):=by rw[hc,g]
 simp only[Int.mul_sub] at h1;rw[<-δm] at h1;omega
theorem Jv:d' ED:=by
 refine bI (L:=[pW,wT]) ED Wt (by simpa using⟨lB,rA⟩) ?_;rintro⟨a,b⟩ ⟨⟨ha,hb⟩,hla,Y⟩;simp only at ha hb hla Y;refine NI (let c:=(0:Int);let d:=(18446744073709551616:Int);let e:=Ω;let f:=(4294967296:Int);let g:=γc .i64;let h:=(1:Int);let k:=γZ;let l:=SV.IL;let z0:Nat:=(MO a).length;let B:=decide (lg (bX (MO a)) (bX (MO b))<c);let m:=cj.i .u32;let C:=l [e m (bU (bX a - bX b)),γA (decide (bX b<=bX a))];let o:=(↑(MO a).length:Int);let q:=δ o.toNat c;let p:=(↑z0:Int);let z:=g p;let D:=iZ.row m q 172 true;let A:=(↑(MO b).length:Int);a.length<=1000000000000/\b.length<=1000000000000/\((ou (MO a)/\ou (MO b))/\z0<=1000000000000/\(MO b).length<=1000000000000)/\(B=true->(l [e (cj.i .i64) [],δb false]).bi C)/\(B=false->c<=o/\o<=o/\o*(4:Int)<=(140737488355328:Int)/\o<=(1000000000000:Int)/\((((e m (MO a)).bi (e m (MO a))/\(e m (MO b)).bi (e m (MO b))/\(k 0 o.toNat 1).bi (k 0 q.length 1)/\(γu .u64 0).bi (γc .u64 0)/\(g o).bi z/\(γu .i64 0).bi (g 0)/\True)/\D.bi D/\True)/\(c<=c/\c<=p)/\(c<=c/\c<=h)/\ou q/\q.length=z0/\(∀(j:Nat),0<=j->bN q j c=c)/\bX q - c=c)/\∀(x:Int×Int×List Int),let r:=x.2.2.length;let v:=x.2.2.length;let n:=x.1.toNat;let s:=x.1+h;let E:=g s;let w:=s.toNat;let F:=bN (MO a) n c;let G:=λ(u U:Int) ↦let H:=(u % d - U) % d;let t:=x.2.2.set n (H % f);let y:=H / (9223372036854775808:Int);let I:=γc .u64 y;let J:=iZ.row m t 172 true;c<=(63:Int)/\(63:Int)<=(64:Int)/\r=v/\c<=x.1/\x.1<(↑v:Int)/\r=v/\n<v/\TP .i64 s/\(((e m (MO a)).bi (e m (MO a))/\(e m (MO b)).bi (e m (MO b))/\(k 0 r 1).bi (k 0 t.length 1)/\I.bi I/\z.bi z/\E.bi E/\True)/\J.bi J/\True)/\((c<=s/\s<=p)/\(c<=y/\y<=h)/\ou t/\t.length=z0/\(∀(j:Nat),w<=j->bN t j c=c)/\bX t - f^w*y=bX (Ξ w (MO a)) - bX (Ξ w (MO b)))/\(p - s).toNat<(p - x.1).toNat;(c<=x.1/\x.1<=p)/\(c<=x.2.1/\x.2.1<=h)/\ou x.2.2/\r=z0/\(∀(j:Nat),n<=j->bN x.2.2 j c=c)/\bX x.2.2 - f^n*x.2.1=bX (Ξ n (MO a)) - bX (Ξ n (MO b))->(decide (x.1<p)=true->c<=x.1/\x.1<o/\n<(MO a).length/\(decide (x.1<A)=true->c<=x.1/\x.1<A/\n<(MO b).length/\G (F % d - x.2.1) (bN (MO b) n c % d))/\(decide (x.1<A)=false->G F x.2.1))/\(decide (x.1<p)=false->r=v/\r<=1000000000000/\(l [e m (MO x.2.2),δb true]).bi C))) (by kernel_rfl) ?_;simp only[vcs];obtain⟨va,na⟩:=@pV a;obtain⟨vb,nb⟩:=@pV b;have Q:=rb ha;have P:=rb hb;have la:=@sI a;have lb:=@sI b;have pa:=eD Q;have pb:=eD P;rw[<-va,<-vb];generalize MO a=s at*;generalize MO b=t at*;have X:∀n j,bN (δ n (0:Int)) j 0=0:=λn j=>by unfold bN;rw[εL];split<;>rfl
 have hd0:∀n,ou (δ n 0):=λn d hd=>by have:=δ4 hd;omega
 have W:∀n,bX (δ n 0)=0:=λn=>by
  induction n with
  |zero=>rfl;|succ n ih=>simp only[δc,bX,ih];omega
 refine⟨by omega,by omega,⟨⟨Q,P⟩,by omega⟩,λK=>?_,λN=>⟨by omega,by omega,by omega,by omega,?_,?_⟩⟩
 ·have hlt2:bX s<bX t:=by unfold lg at K;split at K<;>(try split at K)<;>omega
  refine⟨LZ (EE (by omega)),?_⟩;rw[eq_comm,decide_eq_false_iff_not];omega
 ·repeat' refine γk ?_ ?_
  all_goals first|omega|exact kX (by simp)|exact hd0 _|exact λj _=>X _ j|(simp;done)|(rw[W];rfl)
 have azl:bX t<=bX s:=by unfold lg at N;split at N<;>(try split at N)<;>omega
 rintro⟨i,R,row⟩ ⟨⟨i0,i1⟩,⟨b0,b1⟩,hr,S,T,O⟩;simp only at i0 i1 b0 b1 hr S T O ⊢;refine⟨λV=>?_,λige=>?_⟩
 ·have d1:=dH Q i.toNat;have d2:=dH P i.toNat;have e:(i+1).toNat=i.toNat+1:=by omega
  refine⟨i0,V,by omega,λht=>?_,λht=>?_⟩
  ·generalize hq:((bN s i.toNat 0 % 18446744073709551616 - R) % 18446744073709551616 - bN t i.toNat 0 % 18446744073709551616) % 18446744073709551616=q;obtain⟨k1,k2,k3,k4⟩:=LY (v:=q % 4294967296) (c:=q / 9223372036854775808) Q P hr S T O (by omega) rfl (by omega) (by omega);rw[e];repeat' refine γk ?_ ?_
   all_goals first|omega|exact kX (by simp)|exact k1|exact k2|exact k3|exact k4
  ·have hz2:=AA (a:=t) (i:=i.toNat) (by omega);generalize hq:(bN s i.toNat 0 % 18446744073709551616 - R) % 18446744073709551616=q;obtain⟨k1,k2,k3,k4⟩:=LY (v:=q % 4294967296) (c:=q / 9223372036854775808) Q P hr S T O (by omega) rfl (by omega) (by omega);rw[e];repeat' refine γk ?_ ?_
   all_goals first|omega|exact kX (by simp)|exact k1|exact k2|exact k3|exact k4
 ·have hi:i.toNat=s.length:=by omega
  have hlen:t.length<=s.length:=by
   by_cases h:s.length<t.length
   ·have:=wU Q P nb h;omega
   ·omega
  rw[hi,φ,γr hlen] at O;have hbd:=ng hr;have hp:=pow_pos s.length;rw[S] at hbd;have hb0:R=0:=by
   by_cases h:R=0;·exact h
   ·have:R=1:=by omega
    subst this;omega
  rw[hb0,δM,ζp] at O;refine⟨by omega,?_,?_⟩;·rw[pf hr,O]
  ·rw[eq_comm,decide_eq_true_eq];exact azl
theorem LX {n j:Nat}:bN (δ n (0:Int)) j 0=0:=by unfold bN;rw[εL];split<;>rfl
theorem xd {n:Nat}:ou (δ n 0):=λd a=>by have:=δ4 a;omega
theorem u7:∀{n:Nat},bX (δ n 0)=0
 |0=>rfl
 |n+1=>by simp only[δc,bX,@u7 n];omega
theorem Ws {o b:List Int} {x:Int} {i k:Nat}:gH o b x i (k+1)=((gH o b x i k).1.set (i+k) ((x*bN b k 0+bN (gH o b x i k).1 (i+k) 0+(gH o b x i k).2) % 4294967296),(x*bN b k 0+bN (gH o b x i k).1 (i+k) 0+(gH o b x i k).2) / 4294967296):=rfl
def uZ:NG:=⟨164,List Int×List Int,.cons (cP (.i .u32)) (.one (cP (.i .u32))),λa=>(ou a.1/\ou a.2)/\a.1.length<=100000000000/\a.2.length<=100000000000,
 λa=> .row (.i .u32) (bU (bX a.1*bX a.2))⟩
def stM (a:List Int×List Int) (row:List Int):VI:=[.row (.i .u32) row 172 true]
def Wr (a:List Int×List Int):Nat->bH
 |3=> .inv (Int×List Int) (λx=>⟨[(0,.row (.i .u32) a.1),(1,.row (.i .u32) a.2),(5,.ow 0 x.2.length 1),(17,.si .i64 a.1.length),(18,.si .i64 x.1)],stM a x.2⟩)
  (λs=>(iS s 18,oS (.i .u32) s 0))
  (λx=>(0<=x.1/\x.1<=a.1.length)/\ou x.2/\x.2.length=a.1.length+a.2.length/\bX x.2=bX (a.1.take x.1.toNat)*bX a.2) (λx=>(a.1.length - x.1).toNat)
  λx=>λ
   |7=> .inv (Int×Int×List Int) (λy=>⟨[(0,.row (.i .u32) a.1),(1,.row (.i .u32) a.2),(5,.ow 0 y.2.2.length 1),(6,.si .i64 x.1),(7,.si .u64 y.2.1),(17,.si .i64 a.1.length),(18,.si .i64 x.1),(22,.si .i64 a.2.length),(23,.si .i64 y.1)],stM a y.2.2⟩)
    (λs=>(iS s 23,iS s 7,oS (.i .u32) s 0))
    (λy=>(0<=y.1/\y.1<=a.2.length)/\y.2.2=(gH x.2 a.2 (bN a.1 x.1.toNat 0) x.1.toNat y.1.toNat).1/\y.2.1=(gH x.2 a.2 (bN a.1 x.1.toNat 0) x.1.toNat y.1.toNat).2) (λy=>(a.2.length - y.1).toNat) λ_ _=> .look
   |_=> .look
 |_=> .look
theorem rz:d' uZ:=by
 refine bI (L:=[pW]) uZ Wr (by simpa using lB) ?_;rintro⟨a,b⟩ ⟨⟨ha,hb⟩,hla,hlb⟩;simp only at ha hb hla hlb;refine NI (let c:=(18446744073709551616:Int);let d:=(0:Int);let e:=Ω;let f:=γc .i64;let g:=(4294967296:Int);let h:=TP .i64;let j:=γZ;let k:=γu .i64 0;let l:=iZ.row;let F:=(↑a.length:Int);let z:=(↑b.length:Int);let p:=F+z;let m:=cj.i .u32;let A:=δ p.toNat d;let q:=(↑a.length:Int);let t:=f q;let J:=l m A 172 true;let G:=a.length+b.length;let r:=(↑b.length:Int);let H:=f r;h p/\d<=p/\p<=p/\p*(4:Int)<=(140737488355328:Int)/\p<=(1000000000000:Int)/\((((e m a).bi (e m a)/\(e m b).bi (e m b)/\(j 0 p.toNat 1).bi (j 0 A.length 1)/\(f F).bi t/\(k).bi (f 0)/\True)/\J.bi J/\True)/\(d<=d/\d<=q)/\ou A/\A.length=G/\bX A=bX []*bX b)/\∀(x:Int×List Int),let C:=x.2.length;let v:=x.1.toNat;let K:=j 0 C 1;let s:=f x.1;let L:=l m x.2 172 true;let D:=bN a v d;let M:=gH x.2 b D v 0;let w:=x.1+(1:Int);let N:=f w;(d<=x.1/\x.1<=q)/\ou x.2/\C=G/\bX x.2=bX (Ξ v a)*bX b->(decide (x.1<q)=true->((((e m a).bi (e m a)/\(e m b).bi (e m b)/\K.bi K/\s.bi s/\(γu .u64 0).bi (γc .u64 0)/\t.bi t/\s.bi s/\(f z).bi H/\(k).bi (f 0)/\True)/\L.bi L/\True)/\(d<=d/\d<=r)/\x.2=M.1/\d=M.2)/\∀(X:Int×Int×List Int),let O:=gH x.2 b D v X.1.toNat;let o:=x.1+X.1;let n:=X.2.2.length;let y:=X.1+(1:Int);let P:=j 0 X.2.2.length 1;let I:=((D % c*(bN b X.1.toNat d % c) % c+bN X.2.2 o.toNat d % c) % c+X.2.1) % c;let Q:=X.2.2.set o.toNat (I % g);let R:=I / g;let S:=γc .u64 R;let T:=f y;let U:=gH x.2 b D v y.toNat;let B:=x.1+z;let E:=X.2.2.set B.toNat (X.2.1 % g);let V:=λ(u u_1:Int) ↦let W:=l m (X.2.2.set (x.1+u).toNat (u_1 % g)) 172 true;W.bi W/\True;(d<=X.1/\X.1<=r)/\X.2.2=O.1/\X.2.1=O.2->(decide (X.1<r)=true->d<=x.1/\x.1<F/\v<a.length/\d<=X.1/\X.1<z/\X.1.toNat<b.length/\h o/\X.2.2.length=n/\d<=o/\o<(↑n:Int)/\X.2.2.length=n/\o.toNat<n/\h o/\d<=(32:Int)/\(32:Int)<=(64:Int)/\X.2.2.length=n/\d<=o/\o<(↑n:Int)/\X.2.2.length=n/\o.toNat<n/\h y/\(((e m a).bi (e m a)/\(e m b).bi (e m b)/\P.bi (j 0 Q.length 1)/\s.bi s/\S.bi S/\t.bi t/\s.bi s/\H.bi H/\T.bi T/\True)/\V X.1 I)/\((d<=y/\y<=r)/\Q=U.1/\R=U.2)/\(r - y).toNat<(r - X.1).toNat)/\(decide (X.1<r)=false->h B/\X.2.2.length=n/\d<=B/\B<(↑n:Int)/\X.2.2.length=n/\B.toNat<n/\h w/\(((e m a).bi (e m a)/\(e m b).bi (e m b)/\P.bi (j 0 E.length 1)/\t.bi t/\N.bi N/\True)/\V z X.2.1)/\((d<=w/\w<=q)/\ou E/\E.length=G/\bX E=bX (Ξ w.toNat a)*bX b)/\(q - w).toNat<(q - x.1).toNat))/\(decide (x.1<q)=false->C=x.2.length/\C<=1000000000000/\(e m (MO x.2)).bi (e m (bU (bX a*bX b))))) (by kernel_rfl) ?_;simp only[vcs];refine⟨by omega,by omega,by omega,by omega,by omega,?_,?_⟩
 ·repeat' refine γk ?_ ?_
  all_goals first|omega|exact kX (by simp)|exact xd|(simp;omega)|(rw[u7];simp[bX])
 rintro⟨i,row⟩ ⟨⟨i0,i1⟩,hr,hl,Y⟩;simp only at i0 i1 hr hl Y ⊢;refine⟨λilt=>⟨⟨(by omega),rfl,rfl⟩,?_⟩,λige=>?_⟩
 ·rintro⟨k,c,ro⟩ ⟨⟨k0,k1⟩,e1,e2⟩;simp only at k0 k1 e1 e2 ⊢;have x1:=dH ha i.toNat;obtain⟨m1,m2,⟨m3,m4⟩,m5,m6⟩:=@M8 row b (bN a i.toNat 0) i.toNat hr hb x1.1 x1.2 k.toNat (by omega);have hp:=@Ws row b (bN a i.toNat 0) i.toNat k.toNat;generalize gH row b (bN a i.toNat 0) i.toNat k.toNat=M at*;obtain⟨p,q⟩:=M;simp only at e1 e2 m1 m2 m3 m4 m5 m6 hp;subst e1 e2;have hik:(i+k).toNat=i.toNat+k.toNat:=by omega
  have hk1:(k+1).toNat=k.toNat+1:=by omega
  have hi1:(i+1).toNat=i.toNat+1:=by omega
  refine⟨λklt=>?_,λkge=>?_⟩
  ·have x2:=dH hb k.toNat;have x3:=dH m1 (i.toNat+k.toNat);have hxb:0<=bN a i.toNat 0*bN b k.toNat 0:=γz x1.1 x2.1;have baG:bN a i.toNat 0*bN b k.toNat 0<=4294967295*4294967295:=δL (by omega) (by omega) x2.1 (by omega);rw[hik,hk1,hp];have hq:(((bN a i.toNat 0 % 18446744073709551616*(bN b k.toNat 0 % 18446744073709551616) % 18446744073709551616+bN ro (i.toNat+k.toNat) 0 % 18446744073709551616) % 18446744073709551616+c) % 18446744073709551616)=bN a i.toNat 0*bN b k.toNat 0+bN ro (i.toNat+k.toNat) 0+c:=by rw[δP (a:=bN a i.toNat 0) (by omega) (by omega),δP (a:=bN b k.toNat 0) (by omega) (by omega)];omega
   rw[hq];repeat' refine γk ?_ ?_
   all_goals first|omega|exact kX (by simp)|rfl
  ·have hkl:k.toNat=b.length:=by omega
   rw[show(i+(b.length:Int)).toNat=i.toNat+b.length by omega];rw[hkl,φ] at m6;rw[hkl] at m5;have hz:bN ro (i.toNat+b.length) 0=0:=by rw[m5 _ (π _)];refine yQ hr (i:=i.toNat+b.length) ?_ (π _);rw[Y,εc];have t1:=ng (mv ha i.toNat);rw[γx,εn (by omega)] at t1;have t2:=ng hb;have t3:=eD (mv ha i.toNat);have t4:=eD hb;exact εQ (Ψ (γi t2) t3) (γ4 t1 (pow_pos _))
   have hc:c % 4294967296=c:=by omega
   rw[hc,hi1];have hfin:bX (ro.set (i.toNat+b.length) c)=bX (a.take (i.toNat+1))*bX b:=by rw[sH (by omega),hz,ζp,m6,Y,lf,Int.add_mul,δm]
   repeat' refine γk ?_ ?_
   all_goals first|omega|exact kX (by simp)|exact mu m1 m3 m4|exact hfin|(rw[γm];omega)
 ·have hi:i.toNat=a.length:=by omega
  rw[hi,φ] at Y;refine⟨by omega,?_⟩;rw[pf hr,Y]
theorem MS {x m:Int} {k:Nat} (p:0<=x) (t:x<2^k) (o:0<=m) (j:m*2^k<4294967296) (u:x<4294967296):fm.orI .u32 x (m*2^k)=x+m*2^k:=by
 obtain⟨a,rfl⟩:=δJ p;obtain⟨b,rfl⟩:=δJ o;have e:((b:Int)*2^k)=((2^k*b:Nat):Int):=by grind
 have h:a<2^k:=by grind
 rw[e] at j ⊢;generalize i:2^k*b=c at*;have d:c<4294967296:=by omega
 have f:a<4294967296:=by omega
 have q:(γq 32 ((a:Nat):Int)).toNat=a:=by simp_all
 have r:(γq 32 ((c:Nat):Int)).toNat=c:=by simp_all
 have g:a |||c=a+c:=by rw[Nat.or_comm,<-i,<-Nat.two_pow_add_eq_or_of_lt h];omega
 have l:a+c<4294967296:=by rw[<-g];exact Nat.or_lt_two_pow (n:=32) f d
 have s:(γq 32 ((a:Nat):Int) |||γq 32 ((c:Nat):Int)).toNat=a+c:=by grind
 show ei .u32 ((γq 32 ((a:Nat):Int) |||γq 32 ((c:Nat):Int)).toNat:Nat)=_;grind[sy,IntKind.wrap,IntKind.bits,IntKind.signed]
theorem EC:∀{l:List Int} {i:Nat},ou l->4294967296^i*bN l i 0<=bX l
 |[],i,_=>by simp[bN,bX];|d::l,0,h=>by
  obtain⟨b,a⟩:=iU.1 h;have:=eD a;grind[bN,bX];|d::l,i+1,h=>by
  obtain⟨b,a⟩:=iU.1 h;have:=@EC l i a;have e:bN (d::l) (i+1) 0=bN l i 0:=by simp[bN]
  rw[e,γW,δ7 (4294967296^i),δm];grind[bX]
theorem MR {a b:List Int} {i k:Nat} (n:ou a) (e:ou b) (F:b.length=a.length+1) (G:i<a.length) (u:k<=31) (q:bX b=bX (a.take i)*2^k):
  ou ((b.set i (fm.orI .u32 (bN b i 0) (bN a i 0 % 18446744073709551616*2^k % 18446744073709551616 % 4294967296))).set (i+1) (bN a i 0 % 18446744073709551616*2^k % 18446744073709551616 / 4294967296 % 4294967296))/\
  bX ((b.set i (fm.orI .u32 (bN b i 0) (bN a i 0 % 18446744073709551616*2^k % 18446744073709551616 % 4294967296))).set (i+1) (bN a i 0 % 18446744073709551616*2^k % 18446744073709551616 / 4294967296 % 4294967296))=bX (a.take (i+1))*2^k:=by
 have x:=dH n i;have r:=dH e i;have c:(0:Int)<2^k:=δE (by decide);have A:(2:Int)^k<=2147483648:=by have D:(2:Nat)^k<=2^31:=δs (by decide) u;grind
 have w:(4294967296:Int)=2^(32 - k)*2^k:=by rw[<-εc,show 32 - k+k=32 by omega];decide
 have B:(0:Int)<2^(32 - k):=δE (by decide);have v:0<=bN a i 0*2^k:=γz x.1 (γi c);have H:bN a i 0*2^k<4294967296*2^k:=γ4 x.2 c;have z:bN a i 0 % 18446744073709551616*2^k % 18446744073709551616=bN a i 0*2^k:=by rw[δP (a:=bN a i 0) (by omega) (by omega),δP v (by omega)]
 have o:bN a i 0*2^k % 4294967296=(bN a i 0 % 2^(32 - k))*2^k:=by
  conv=>lhs;rw[w]
  rw[δ7 (bN a i 0),δ7 (2^(32 - k)),ζN _ _ c,δ7]
 have p:=δS (bN a i 0) (show(2:Int)^(32 - k)≠0 by omega);have E:=δp (bN a i 0) B;have s:=pow_pos i;have d:bX b<4294967296^i*2^k:=by rw[q];have:=ng (mv n i);rw[γx,εn (by omega)] at this;simp_all
 have h:bN b i 0<2^k:=εA (εQ (EC e) d) (γi s);have m:bN b (i+1) 0=0:=by refine yQ e (i:=i+1) ?_ (π _);rw[γW];exact εN d (Ψ (by omega) (γi s))
 have f:(bN a i 0 % 2^(32 - k))*2^k+2^k<=4294967296:=by have:(bN a i 0 % 2^(32 - k)+1)*2^k<=2^(32 - k)*2^k:=γX (by omega) (γi c);grind
 have l:0<=(bN a i 0 % 2^(32 - k))*2^k:=γz p (γi c);have g:=MS (k:=k) r.1 h p (by omega) r.2;rw[z,o,g];generalize y:bN a i 0*2^k=t at*;have j:(bN a i 0 % 2^(32 - k))*2^k=t % 4294967296:=o.symm;rw[j] at f l ⊢;refine⟨mu (mu e (by omega) (by omega)) (by omega) (by omega),?_⟩;rw[sH (by simp;omega),sH (by omega),ot (by omega),m,lf,Int.add_mul,δm,y,q,γW];have C:t / 4294967296 % 4294967296=t / 4294967296:=by omega
 grind
def shl (a:List Int) (k:Nat):List Int:=gI (a.length+1) (bX a*2^k)
abbrev Q6:=List Int×Int
def w9 (a:Q6):Prop:=ou a.1/\a.1.length<=100000000000/\0<=a.2/\a.2<=31
def EB:NG:=⟨187,List Int×Int,.cons (cP (.i .u32)) (.one (dY .u64)),w9,λa=> .row (.i .u32) (shl a.1 a.2.toNat)⟩
def EA:cC where
 f:=187;α:=List Int×Int;put a:=[.row (.i .u32) a.1,.si .u64 a.2];st _:=[];dec v o:=match v,o with
  |[v,m],[]=>match fZ (.i .u32) v,m.int .u64 with
   |some p,some m=>some (p,m)
   |_,_=>none
  |_,_=>none;ok v o a h:=by
  split at h
  ·split at h
   next h1 c=>simp only[γ] at h;subst h;exact⟨by simp only[gL,jF h1,iq c];rfl,rfl⟩
   ·cases h
  ·cases h
 inj a b h _:=by simp only[gL,χ,and_true] at h;have c:=h.2;simp only[ε8,δa,Value.int.injEq,true_and] at c;exact εD ((cP (.i .u32)).inj _ _ h.1) c
 dom:=w9;res a:=.ow 0 (shl a.1 a.2.toNat).length 1;out a:=[.row (.i .u32) (shl a.1 a.2.toNat) 172 false]
def MQ (a:Q6):Nat->bH
 |3=> .inv (Int×List Int) (λx=>⟨[(0,.row (.i .u32) a.1),(1,.si .u64 a.2),(5,.ow 0 x.2.length 1),(13,.si .i64 a.1.length),(14,.si .i64 x.1)],[.row (.i .u32) x.2 172 false]⟩)
  (λs=>(iS s 14,oS (.i .u32) s 0))
  (λx=>(0<=x.1/\x.1<=a.1.length)/\ou x.2/\x.2.length=a.1.length+1/\bX x.2=bX (a.1.take x.1.toNat)*2^a.2.toNat) (λx=>(a.1.length - x.1).toNat) λ_ _=> .look
 |_=> .look
theorem Jt:g' EA:=by
 refine BB (L:=[]) (W:=[]) EA (λ_=>none) MQ (by simp) (by simp) ?_;rintro⟨a,s⟩ ⟨K,J,s0,s1⟩;simp only at K J s0 s1;refine NI (let b:=(0:Int);let c:=(18446744073709551616:Int);let d:=(4294967296:Int);let e:=γc .i64;let f:=iZ.row;let g:=TP .i64;let h:=Ω;let j:=γZ;let w:=(↑a.length:Int);let o:=w+(1:Int);let l:=cj.i .u32;let r:=b::δ a.length b;let m:=(↑a.length:Int);let y:=e m;let A:=f l r 172 false;let z:=a.length+1;let u:=(2:Int)^s.toNat;g o/\b<=o/\o<=o/\o*(4:Int)<=(140737488355328:Int)/\o<=(1000000000000:Int)/\((((h l a).bi (h l a)/\(γc .u64 s).bi (γc .u64 s)/\(j 0 o.toNat 1).bi (j 0 r.length 1)/\(e w).bi y/\(γu .i64 0).bi (e 0)/\True)/\A.bi A/\True)/\(b<=b/\b<=m)/\ou r/\r.length=z/\bX r=bX []*u)/\∀(x:Int×List Int),let p:=x.2.length;let q:=x.1.toNat;let B:=bN a q b % c*u % c;let v:=x.2.set q (fm.orI .u32 (bN x.2 q b) (B % d));let n:=x.2.length;let k:=x.1+(1:Int);let C:=j 0 p 1;let t:=v.set k.toNat (B / d % d);let D:=e k;let E:=f l t 172 false;let F:=p=v.length;(b<=x.1/\x.1<=m)/\ou x.2/\p=z/\bX x.2=bX (Ξ q a)*u->(decide (x.1<m)=true->b<=x.1/\x.1<w/\q<a.length/\b<=s/\s<=(64:Int)/\p=n/\b<=x.1/\x.1<(↑n:Int)/\p=n/\q<n/\p=n/\b<=x.1/\x.1<(↑n:Int)/\p=n/\q<n/\g k/\b<=(32:Int)/\(32:Int)<=(64:Int)/\F/\b<=k/\k<(↑v.length:Int)/\F/\k.toNat<v.length/\g k/\(((h l a).bi (h l a)/\(γc .u64 s).bi (γc .u64 s)/\C.bi (j 0 t.length 1)/\y.bi y/\D.bi D/\True)/\E.bi E/\True)/\((b<=k/\k<=m)/\ou t/\t.length=z/\bX t=bX (Ξ k.toNat a)*u)/\(m - k).toNat<(m - x.1).toNat)/\(decide (x.1<m)=false->C.bi (j 0 (shl a s.toNat).length 1)/\(f l x.2 172 false).bi (f l (shl a s.toNat) 172 false)/\True)) (by kernel_rfl) ?_;simp only[vcs];refine⟨by omega,by omega,by omega,by omega,by omega,?_,?_⟩
 ·repeat' refine γk ?_ ?_
  all_goals first|omega|exact kX (by simp)|exact iU.2 ⟨by omega,xd⟩|(simp;done)|(simp only[bX,u7];omega)
 rintro⟨i,row⟩ ⟨⟨i0,i1⟩,hr,I,H⟩;simp only at i0 i1 hr I H ⊢;refine⟨λM=>?_,λN=>?_⟩
 ·obtain⟨k1,k2⟩:=MR K hr I (show i.toNat<a.length by omega) (show s.toNat<=31 by omega) H;have e:(i+1).toNat=i.toNat+1:=by omega
  rw[e];repeat' refine γk ?_ ?_
  all_goals first|omega|exact kX (by simp)|(simp only[γm];done)|(simp only[γm];omega)|exact k1|exact k2
 ·have hi:i.toNat=a.length:=by omega
  rw[hi,φ] at H;have G:row=shl a s.toNat:=F_ hr I H;rw[G];exact⟨rfl,rfl⟩
theorem zy:d' EB:=by
 refine bI (L:=[]) EB MQ (by simp) ?_;rintro⟨a,s⟩ ⟨I,H,s0,s1⟩;simp only at I H s0 s1;refine NI (let b:=(0:Int);let c:=(18446744073709551616:Int);let d:=(4294967296:Int);let e:=γc .i64;let f:=Ω;let g:=TP .i64;let h:=γZ;let v:=(↑a.length:Int);let o:=v+(1:Int);let l:=cj.i .u32;let q:=b::δ a.length b;let m:=(↑a.length:Int);let w:=e m;let z:=iZ.row l q 172 false;let y:=a.length+1;let t:=(2:Int)^s.toNat;g o/\b<=o/\o<=o/\o*(4:Int)<=(140737488355328:Int)/\o<=(1000000000000:Int)/\((((f l a).bi (f l a)/\(γc .u64 s).bi (γc .u64 s)/\(h 0 o.toNat 1).bi (h 0 q.length 1)/\(e v).bi w/\(γu .i64 0).bi (e 0)/\True)/\z.bi z/\True)/\(b<=b/\b<=m)/\ou q/\q.length=y/\bX q=bX []*t)/\∀(x:Int×List Int),let n:=x.2.length;let p:=x.1.toNat;let A:=bN a p b % c*t % c;let u:=x.2.set p (fm.orI .u32 (bN x.2 p b) (A % d));let k:=x.2.length;let j:=x.1+(1:Int);let r:=u.set j.toNat (A / d % d);let B:=e j;let C:=iZ.row l r 172 false;let D:=n=u.length;(b<=x.1/\x.1<=m)/\ou x.2/\n=y/\bX x.2=bX (Ξ p a)*t->(decide (x.1<m)=true->b<=x.1/\x.1<v/\p<a.length/\b<=s/\s<=(64:Int)/\n=k/\b<=x.1/\x.1<(↑k:Int)/\n=k/\p<k/\n=k/\b<=x.1/\x.1<(↑k:Int)/\n=k/\p<k/\g j/\b<=(32:Int)/\(32:Int)<=(64:Int)/\D/\b<=j/\j<(↑u.length:Int)/\D/\j.toNat<u.length/\g j/\(((f l a).bi (f l a)/\(γc .u64 s).bi (γc .u64 s)/\(h 0 n 1).bi (h 0 r.length 1)/\w.bi w/\B.bi B/\True)/\C.bi C/\True)/\((b<=j/\j<=m)/\ou r/\r.length=y/\bX r=bX (Ξ j.toNat a)*t)/\(m - j).toNat<(m - x.1).toNat)/\(decide (x.1<m)=false->n=k/\(f l x.2).bi (f l (shl a s.toNat)))) (by kernel_rfl) ?_;simp only[vcs];refine⟨by omega,by omega,by omega,by omega,by omega,?_,?_⟩
 ·repeat' refine γk ?_ ?_
  all_goals first|omega|exact kX (by simp)|exact iU.2 ⟨by omega,xd⟩|(simp;done)|(simp only[bX,u7];omega)
 rintro⟨i,row⟩ ⟨⟨i0,i1⟩,hr,G,F⟩;simp only at i0 i1 hr G F ⊢;refine⟨λJ=>?_,λK=>?_⟩
 ·obtain⟨k1,k2⟩:=MR I hr G (show i.toNat<a.length by omega) (show s.toNat<=31 by omega) F;have e:(i+1).toNat=i.toNat+1:=by omega
  rw[e];repeat' refine γk ?_ ?_
  all_goals first|omega|exact kX (by simp)|(simp only[γm];done)|(simp only[γm];omega)|exact k1|exact k2
 ·have hi:i.toNat=a.length:=by omega
  rw[hi,φ] at F;have E:row=shl a s.toNat:=F_ hr G F;rw[E]
theorem tM {U:List Int} {j:Nat} (h:j<=U.length):bX U=bX (U.take j)+4294967296^j*bX (U.drop j):=by
 conv=>lhs;rw[<-γS j U]
 grind[F8]
theorem Wq {U l:List Int} {j:Nat} (h:j<=U.length):(iK U j l).take j=U.take j:=by grind[iK]
theorem Wp {U l:List Int} {j:Nat} (h:j<=U.length):(iK U j l).drop j=l++U.drop (j+l.length):=by grind[iK]
theorem Wo {U l:List Int} {j:Nat} (a:ou U) (b:ou l):ou (iK U j l):=M_ (mv a _) (M_ b (yR a _))
theorem Wn {U q v:List Int} {j m:Nat} {A:Int} (d:ou U) (w:ou v) (G:ou q) (H:2<=v.length) (u:U.length=m+1+v.length) (x:q.length=m+1) (J:j<=m) (p:0<bX v)
  (s:bN q j 0=0) (B:bX U+bX v*bX q=A) (D:bX (U.drop (j+1))<bX v):
  bX (bM U j (v.length+1))<4294967296*bX v/\
  (ou (iK U j (gI (v.length+1) (bX (bM U j (v.length+1)) % bX v)))/\(iK U j (gI (v.length+1) (bX (bM U j (v.length+1)) % bX v))).length=U.length)/\
  (0<=bX (bM U j (v.length+1)) / bX v/\bX (bM U j (v.length+1)) / bX v<4294967296)/\
  bX (iK U j (gI (v.length+1) (bX (bM U j (v.length+1)) % bX v)))+bX v*bX (q.set j (bX (bM U j (v.length+1)) / bX v))=A/\
  bX ((iK U j (gI (v.length+1) (bX (bM U j (v.length+1)) % bX v))).drop j)<bX v:=by
 have y:=ng w;have f:=yR d (j+1);have l:=eD (rW d (j:=j) (k:=v.length+1));have b:bX (U.drop (j+(v.length+1)))=0:=by
  have e:bX (U.drop (j+1))=bX ((U.drop (j+1)).take v.length)+4294967296^v.length*bX ((U.drop (j+1)).drop v.length):=tM (by simp;omega);rw[δj,show j+1+v.length=j+(v.length+1) by omega] at e;have I:=eD (mv f v.length);have F:=eD (yR d (j+(v.length+1)));by_cases h:bX (U.drop (j+(v.length+1)))=0;·exact h
  ·have:=Ψ (show(1:Int)<=bX (U.drop (j+(v.length+1))) by omega) (γi (pow_pos v.length));omega
 have a:bX (U.drop j)=bX (bM U j (v.length+1)):=by have e:bX (U.drop j)=bX ((U.drop j).take (v.length+1))+4294967296^(v.length+1)*bX ((U.drop j).drop (v.length+1)):=tM (by simp;omega);rw[δj,b,δM,εo] at e;exact e
 have g:bX (U.drop j)=bN U j 0+4294967296*bX (U.drop (j+1)):=by rw[AB (show j<U.length by omega)];rfl
 have K:=dH d j;have r:bX (bM U j (v.length+1))<4294967296*bX v:=by omega
 have i:=@yS (v.length+1) (bX (bM U j (v.length+1)) % bX v);have C:=δS (bX (bM U j (v.length+1))) (show bX v≠0 by omega);have E:=δp (bX (bM U j (v.length+1))) p;have t:bX (gI (v.length+1) (bX (bM U j (v.length+1)) % bX v))=bX (bM U j (v.length+1)) % bX v:=by grind[F9]
 have o:bX ((iK U j (gI (v.length+1) (bX (bM U j (v.length+1)) % bX v))).drop j)=bX (bM U j (v.length+1)) % bX v:=by grind[Wp,F8]
 have c:(iK U j (gI (v.length+1) (bX (bM U j (v.length+1)) % bX v))).length=U.length:=NV (by rw[i];omega);have n:0<=bX (bM U j (v.length+1)) / bX v:=δ3 l (by omega);refine⟨r,⟨Wo d Ga,c⟩,⟨n,ε3 p r⟩,?_,by omega⟩;rw[tM (U:=iK U j _) (j:=j) (by rw[c];omega),Wq (by omega),o,sH (by omega),s,ζp];rw[tM (U:=U) (j:=j) (by omega),a] at B;have z:=εm (bX (bM U j (v.length+1))) (bX v);grind
theorem MP {a b:List Int} {s:Nat} (k:ou a) (w:ou b) (u:s<=31) (l:b.length<=a.length) (q:1<=b.length) (d:1<=bN b (b.length - 1) 0):
  ou (shl a s)/\(shl a s).length=a.length+1/\bX (shl a s)=bX a*2^s/\bX ((shl a s).drop (a.length - b.length+1))<bX b*2^s:=by
 have e:(0:Int)<2^s:=δE (by decide);have v:(2:Int)^s<=2147483648:=by have h:(2:Nat)^s<=2^31:=δs (by decide) u;grind
 have f:=eD k;have g:=ng k;have n:bX a*2^s<4294967296^a.length*2^s:=γ4 g e;have c:bX (shl a s)=bX a*2^s:=by unfold shl;refine F9 (γz f (γi e)) (εN n ?_);rw[γW];exact Ψ (by omega) (γi (pow_pos _))
 have i:ou (shl a s):=Ga;have t:(shl a s).length=a.length+1:=yS;refine⟨i,t,c,?_⟩;have h:=tM (U:=shl a s) (j:=a.length - b.length+1) (by omega);have y:=eD (mv i (a.length - b.length+1));have x:4294967296^(b.length - 1)*bN b (b.length - 1) 0<=bX b:=EC w;have o:(4294967296:Int)^(b.length - 1)<=bX b:=by have:=Ψ d (γi (pow_pos (b.length - 1)));omega
 have m:(4294967296:Int)^a.length=4294967296^(a.length - b.length+1)*4294967296^(b.length - 1):=by rw[<-εc];congr 1;omega
 rw[c] at h;have p:(4294967296:Int)^(a.length - b.length+1)*bX ((shl a s).drop (a.length - b.length+1))<4294967296^(a.length - b.length+1)*(4294967296^(b.length - 1)*2^s):=by rw[<-δm,<-m];omega
 have r:=εA p (γi (pow_pos _));exact εN r (γX o (γi e))
theorem WU {x y:Int} {s:Nat} (n:0<=x) (u:x<4294967296) (t:0<=y) (o:y<4294967296) (g:0<s) (q:s<=31):
  ∃r,fm.orI .u32 (x / 2^s) (y*2^(32 - s) % 4294967296)=r/\(0<=r/\r<4294967296)/\2^s*r=x - x % 2^s+4294967296*(y % 2^s):=by
 have b:(0:Int)<2^s:=δE (by decide);have c:(0:Int)<2^(32 - s):=δE (by decide);have l:(4294967296:Int)=2^s*2^(32 - s):=by rw[<-εc,show s+(32 - s)=32 by omega];decide
 have f:y*2^(32 - s) % 4294967296=(y % 2^s)*2^(32 - s):=by
  conv=>lhs;rw[l]
  rw[δ7 y,δ7 (2^s),ζN _ _ c,δ7]
 have d:=δS y (show(2:Int)^s≠0 by omega);have p:=δp y b;have e:0<=x / 2^s:=δ3 n (γi b);have m:x / 2^s<2^(32 - s):=ε3 b (by grind);have h:(y % 2^s)*2^(32 - s)+2^(32 - s)<=4294967296:=by have:=γX (show y % 2^s+1<=2^s by omega) (γi c);grind
 have j:0<=(y % 2^s)*2^(32 - s):=γz d (γi c);have a:=MS (k:=32 - s) e m d (by omega) (by omega);refine⟨x / 2^s+(y % 2^s)*2^(32 - s),by rw[f,a],(by omega),?_⟩;have i:=εm x (2^s);grind
theorem MN {U r:List Int} {i s:Nat} {d:Int} (b:ou U) (c:ou r) (h:i<r.length) (g:∀j,i<=j->bN r j 0=0) (a:0<=d/\d<4294967296)
  (f:2^s*d=bN U i 0 - bN U i 0 % 2^s+4294967296*(bN U (i+1) 0 % 2^s))
  (e:2^s*bX r=bX (U.take i) - bN U 0 0 % 2^s+4294967296^i*(bN U i 0 % 2^s)):
  ou (r.set i d)/\(r.set i d).length=r.length/\(∀j,i+1<=j->bN (r.set i d) j 0=0)/\
  2^s*bX (r.set i d)=bX (U.take (i+1)) - bN U 0 0 % 2^s+4294967296^(i+1)*(bN U (i+1) 0 % 2^s):=by grind[mu,ot,sH,lf]
theorem WT {U r v q:List Int} {n s:Nat} {a b:Int} (f:ou U) (A:ou r) (y:ou v) (g:v.length=n) (u:bX U<bX v) (J:bX v=b*2^s) (C:0<b) (D:bX U+bX v*bX q=a*2^s)
  (G:s<=31) (x:n+1<=U.length)
  (c:2^s*bX r=bX (U.take n) - bN U 0 0 % 2^s+4294967296^n*(bN U n 0 % 2^s)):bX q=a / b/\bX r=a % b:=by
 have H:(0:Int)<2^s:=δE (by decide);have m:=ng y;rw[g] at m;have o:bN U n 0=0:=yQ f (i:=n) (by omega) (π _);have e:bX (U.take n)=bX U:=by
  have k:=tM (U:=U) (j:=n) (by omega);have p:=eD (mv f n);have w:=eD (yR f n);by_cases h:bX (U.drop n)=0;·simp_all
  ·have:=Ψ (show(1:Int)<=bX (U.drop n) by omega) (γi (pow_pos n));omega
 have d:bX U=2^s*(a - b*bX q):=by grind
 have l:bN U 0 0 % 2^s=0:=by
  have k:=@lf U 0;have p:=tM (U:=U) (j:=1) (by omega);have E:(4294967296:Int)=2^s*2^(32 - s):=by rw[<-εc,show s+(32 - s)=32 by omega];decide
  simp only[εf,εy,bX,ζX,εa,Int.zero_add] at k;rw[k,γW,ζX,εa] at p;have w:bN U 0 0=2^s*(a - b*bX q - 2^(32 - s)*bX (U.drop 1)):=by grind
  simp_all
 rw[o,l,e,Int.zero_emod,δM,ζp,εo,d] at c;have t:bX r=a - b*bX q:=Int.eq_of_mul_eq_mul_left (by omega) c;have B:=eD A;have z:bX r<b:=by
  have:2^s*bX r<2^s*b:=by grind
  simp_all
 obtain⟨F,I⟩:=s_ (X:=a) (V:=b) (q:=bX q) (by grind) (by grind);grind
theorem Af:∀{w:List Int},ou w->fu w->w≠[]->4294967296^(w.length - 1)<=bX w
 |[],_,_,h=>absurd rfl h
 |[d],a,b,_=>by have f:=(iU.1 a).1;have c:=b.1 rfl;grind[bX];|d::e::l,a,b,_=>by obtain⟨f,c⟩:=iU.1 a;have g:=Af c b.2 (by simp);have i:bX (d::e::l)=d+4294967296*bX (e::l):=rfl;simp only[γC,θe] at g ⊢;omega
theorem Ae {a b:Nat} (h:a<=b):(4294967296:Int)^a<=4294967296^b:=by obtain⟨m,rfl⟩:=Nat.exists_eq_add_of_le h;rw[εc];have c:=pow_pos a;have d:=pow_pos m;have:=Ψ (show(1:Int)<=4294967296^m by omega) (γi c);omega
theorem Ez {t:List Int} {s:Nat} (e:ou t) (H:1<=t.length) (G:s<=31) (d:bN t (t.length - 1) 0*2^s<4294967296) (c:2147483648<=bN t (t.length - 1) 0*2^s):
  ou (MO (shl t s))/\(MO (shl t s)).length=t.length/\bX (MO (shl t s))=bX t*2^s/\2147483648<=bN (MO (shl t s)) (t.length - 1) 0/\1<=bN t (t.length - 1) 0:=by
 have o:(0:Int)<2^s:=δE (by decide);have q:=dH e (t.length - 1);have a:1<=bN t (t.length - 1) 0:=by grind
 obtain⟨y,N,z,_⟩:=MP e e G (π _) H a;obtain⟨f,E⟩:=@pV (shl t s);have i:=rb y;rw[z] at f;generalize MO (shl t s)=w at*;obtain⟨n,A⟩:∃n,t.length=n+1:=⟨t.length - 1,by omega⟩;rw[A] at d c a q ⊢;simp only[θe] at d c a q ⊢;have p:=pow_pos n;have v:bX t=bX (t.take n)+4294967296^n*bN t n 0:=by grind[lf]
 have B:=eD (mv e n);have k:=ng (mv e n);rw[γx,εn (by omega)] at k;have J:(4294967296:Int)=2^(32 - s)*2^s:=by rw[<-εc,show 32 - s+s=32 by omega];decide
 have L:(0:Int)<2^(32 - s):=δE (by decide);have D:bN t n 0<2^(32 - s):=by simp_all
 have l:(bN t n 0+1)*2^s<=4294967296:=by have:=γX (show bN t n 0+1<=2^(32 - s) by omega) (γi o);omega
 have x:bX w<4294967296^(n+1):=by
  rw[f,γW];have F:bX t<4294967296^n*(bN t n 0+1):=by grind
  have M:=γ4 F o;have I:=Ψ l (γi p);grind
 have u:4294967296^n*(bN t n 0*2^s)<=bX w:=by rw[f,<-δm];exact γX (by omega) (γi o)
 have r:(4294967296:Int)^n<=bX w:=by have:=Ψ (show(1:Int)<=bN t n 0*2^s by omega) (γi p);omega
 have b:w.length=n+1:=by
  have K:n<w.length:=by
   by_cases h:n<w.length;·exact h
   ·have:=ng i;have:=Ae (show w.length<=n by omega);omega
  by_cases h:w.length=n+1;·exact h
  ·have j:w≠[]:=by grind
   have:=Af i E j;have:=Ae (show n+1<=w.length - 1 by omega);omega
 refine⟨i,b,f,?_,a⟩;have C:bX w=bX (w.take n)+4294967296^n*bN w n 0:=by grind[lf]
 have m:=ng (mv i n);rw[γx,εn (by omega)] at m;have g:4294967296^n*(bN t n 0*2^s)<4294967296^n*(bN w n 0+1):=by grind
 have:=εA g (γi p);omega
@[reducible] def sF:cj:=.pair .b (.pair (.zi (.i .u32)) (.zi (.i .u32)))
abbrev NH:=Bool×(List Int×List Int)
def nf (q:Rat):NH:=(decide (q<0),(bU (q.num.natAbs:Int),bU (q.den:Int)))
def TM (x:NH):Rat:=mkRat (if x.1 then -bX x.2.1 else bX x.2.1) (bX x.2.2).toNat
def Sz (k:Nat) (q:Rat):Prop:=(q.num.natAbs:Int)<4294967296^k/\(q.den:Int)<4294967296^k
theorem lM {n:Int} {k:Nat} (e:0<=n) (h:n<4294967296^k):(bU n).length<=k:=by
 obtain⟨f,b,d⟩:=fR e;by_cases c:(bU n).length<=k;·exact c
 ·have a:bU n≠[]:=by grind
  have:=Af b d a;have:=Ae (show k<=(bU n).length - 1 by omega);omega
theorem dR (q:Rat):TM (nf q)=q:=by unfold TM nf;have a:=(fR (show(0:Int)<=(q.num.natAbs:Int) by omega)).1;have b:=(fR (show(0:Int)<=(q.den:Int) by omega)).1;simp only[a,b,decide_eq_true_eq,γg];grind[Rat.num_nonneg,δY]
theorem MM {N:Int} {D:Nat} (a:D≠0):(mkRat N D).num.natAbs=N.natAbs / N.natAbs.gcd D/\(mkRat N D).den=D / N.natAbs.gcd D:=by rw[<-ζR a,Rat.normalize_eq a];simp only;refine⟨?_,trivial⟩;have b:0<N.natAbs.gcd D:=Nat.gcd_pos_of_pos_right _ (by omega);have c:((N.natAbs.gcd D:Nat):Int)∣N:=Int.ofNat_dvd_left.2 (θq _ _);generalize N.natAbs.gcd D=g at*;obtain⟨m,rfl⟩:=c;rw[ζE _ (by omega),εz,ζq,Nat.mul_div_cancel_left _ b]
theorem WS {N:Int} {D:Nat} (f:D≠0):mkRat N D<0↔N<0:=by
 have i:(0:Rat)=mkRat 0 D:=(Rat.zero_mkRat D).symm;have e:mkRat N D<0↔¬0<=mkRat N D:=Rat.not_le.symm;rw[e,<-Rat.num_nonneg];have g:=Rat.num_divInt_den (mkRat N D);have c:(mkRat N D).num*(D:Int)=N*((mkRat N D).den:Int):=by grind[Rat.mkRat_eq_iff,mkRat,δY]
 have d:(0:Int)<((mkRat N D).den:Int):=by have:=(mkRat N D).den_pos;omega
 have b:(0:Int)<(D:Int):=by omega
 constructor
 ·intro h;by_cases a:N<0;·exact a
  ·exfalso;apply h;have:0<=(mkRat N D).num*(D:Int):=by rw[c];exact γz (by omega) (by omega)
   exact Int.nonneg_of_mul_nonneg_left this b
 ·intro a h;have:0<=(mkRat N D).num*(D:Int):=γz h (by omega);rw[c] at this;have:=εB a d;omega
theorem ML {s:Bool} {n d:Int} (n0:0<=n) (f:0<d):nf (mkRat (if s then -n else n) d.toNat)=(s&&decide (0<n),(bU (n / dO n d),bU (d / dO n d))):=by
 have e:d.toNat≠0:=by omega
 obtain⟨b,c⟩:=MM (N:=if s then -n else n) e;have a:(if s then -n else n).natAbs=n.toNat:=by split<;>omega
 unfold nf;rw[b,c,a];have g:dO n d=((n.toNat.gcd d.toNat:Nat):Int):=rfl;refine εD ?_ (εD ?_ ?_)
 ·simp only;rw[ζV];simp only[decide_eq_true_eq,ζ];grind[WS]
 all_goals grind
theorem xS {N:Int} {D:Nat} {k:Nat} (b:D≠0) (f:(N.natAbs:Int)<4294967296^k) (e:(D:Int)<4294967296^k):Sz k (mkRat N D):=by obtain⟨c,a⟩:=MM (N:=N) b;unfold Sz;rw[c,a];have g:=Nat.div_le_self N.natAbs (N.natAbs.gcd D);have d:=Nat.div_le_self D (N.natAbs.gcd D);omega
theorem Sz.mono {j k:Nat} {q:Rat} (h:Sz j q) (a:j<=k):Sz k q:=by have:=Ae a;exact⟨by have:=h.1;omega,by have:=h.2;omega⟩
theorem MK (p q:Rat):p+q=mkRat (p.num*q.den+q.num*p.den) (p.den*q.den):=by rw[Rat.add_def,ζR]
theorem xR {p q:Rat} {i j:Nat} (e:Sz i p) (c:Sz j q):Sz (i+j+1) (p+q):=by
 rw[MK];have g:=p.den_pos;have l:=q.den_pos;have k:p.den*q.den≠0:=Nat.ne_of_gt (Nat.mul_pos g l);have m:∀{a b:Int} {i j:Nat},0<=a->0<=b->a<4294967296^i->b<4294967296^j->a*b<4294967296^(i+j):=by intro a b i j h o f d;rw[εc];exact εQ (Ψ (γi d) h) (γ4 f (pow_pos _))
 have f:=m (by omega) (by omega) e.1 c.2;have d:=m (by omega) (by omega) c.1 e.2;have n:=m (by omega) (by omega) e.2 c.2;rw[Nat.add_comm j i] at d;have t:=pow_pos (i+j);refine xS k ?_ ?_
 ·have r:(p.num*(q.den:Int)).natAbs=p.num.natAbs*q.den:=by rw[εz,ζq]
  have s:(q.num*(p.den:Int)).natAbs=q.num.natAbs*p.den:=by rw[εz,ζq]
  omega
 omega
theorem xQ {p:Rat} {i:Nat} (a:Sz i p):Sz i (-p):=by grind[Sz,Rat.neg_num,Rat.neg_den]
theorem MJ {l m:List Int} (h:l.Perm m):l.sum=m.sum:=by induction h<;>grind
theorem MI {g:bY}:∀{l c:List Int},kx g c=true->kx g (l.foldl (stepG g) c)=true
 |[],c,h=>h
 |x::l,c,h=>by show kx g (l.foldl (stepG g) (stepG g c x))=true;refine MI ?_;grind[stepG]
theorem WR {p:ew} (d:nW p=0):kx (bV p) []=true:=by
 unfold kx;rw[τ];intro r b;have a:r<(bV p).bounds.length:=γt.1 b;have c:bN (bV p).bounds r 0=cB p r:=by show bN (jS p (nR p)) r 0=_;rw[bR (by exact a)];simp[jS]
 simp_all[xl,k8]
theorem WQ {p:ew}:dm p.bj.length (ju p):=by have h:=@WJ p (gj p).length;rw[φ] at h;exact h
theorem MH {p:ew} (a:nW p=0):cq p (ju p)=0:=(EP a WQ).2 (MI (WR a))
theorem WO {g:bY} (i:rV g):∀{n:Nat} {c:List Int},dm g.bj.length c->kx g c=true->dm g.bj.length (kZ g n c)/\kx g (kZ g n c)=true/\cR g c<=cR g (kZ g n c)/\((1000000000 - cR g c).toNat<=n->iz g (kZ g n c)=none):=by
 intro n;induction n with
 |zero=>
  intro c a j;refine⟨a,j,Int.le_refl _,λh=>?_⟩;show iz g c=none;cases f:iz g c with
  |none=>rfl;|some t=>
   obtain⟨d,b⟩:=vh f a;have k:=pS i b;unfold mq at d;grind
 |succ n l=>
  intro c a j;cases f:iz g c with
  |none=>
   grind[kZ];|some t=>
   have e:kZ g (n+1) c=kZ g n t:=by grind[kZ]
   rw[e];obtain⟨d,b⟩:=vh f a;have k:=pS i b;unfold mq at d;grind
theorem Ey {p:ew} (a:nW p=0) {c:List Int} (b:cq p c=0):dm p.bj.length (fY p c).bn/\cq p (fY p c).bn=0/\dA p (fY p c).bn=(fY p c).value/\dA p c<=(fY p c).value/\fY p (fY p c).bn=fY p c:=by
 obtain⟨_,d⟩:=rT b;have h:=NX a;obtain⟨i,j,l,g⟩:=WO h (n:=(1000000000 - cR (bV p) c).toNat) (c:=c) d ((EP a d).1 b);have e:fY p c=⟨kh (bV p) c,cR (bV p) (kh (bV p) c)⟩:=by simp_all[fY]
 have f:cq p (kh (bV p) c)=0:=(EP a i).2 j;have k:kh (bV p) (kh (bV p) c)=kh (bV p) c:=NY (g (π _));simp_all[WL,fY,kh,bV]
def uY:NG:=⟨138,Int,.one (dY .u64),λx=>0<=(show Int from x)/\(show Int from x)<18446744073709551616,λx=> .row (.i .u32) (bU x)⟩
theorem rC:d' uY:=by refine bI (L:=[pW]) uY lk (by grind[lB]) ?_;intro(x:Int) h;obtain⟨b,a⟩:0<=x/\x<18446744073709551616:=h;refine NI (let a:=(4294967296:Int);(0:Int)<=(32:Int)/\(32:Int)<=(64:Int)/\2<=1000000000000/\(Ω (cj.i .u32) (MO [x % a,x / a % a])).bi (Ω (cj.i .u32) (bU x))) (by kernel_rfl) ?_;simp only[vcs];grind[ou,pf,bX]
def QD:List NG:=[pW,wT,yT,Gc,uY,EB]
theorem Rr:∀c∈QD,d' c:=by simp only[QD,List.forall_mem_cons,List.not_mem_nil,false_implies,implies_true,and_true];grind[lB,rA,uJ,Ju,rC,zy]
def WD:List cC:=[EA,F4]
theorem Rp:∀c∈WD,g' c:=by simp_all[WD,Jt,Js]
def Ad:NG:=⟨182,List Int×List Int,.cons (cP (.i .u32)) (.one (cP (.i .u32))),λa=>(ou a.1/\ou a.2)/\(a.1.length<=10000000000/\a.2.length<=10000000000)/\0<bX a.2,
 λa=> .IL [.row (.i .u32) (bU (bX a.1 / bX a.2)),.row (.i .u32) (bU (bX a.1 % bX a.2)),.si .i64 0]⟩
def qB (a:List Int×List Int) (s:Int):Prop:=(0<=s/\s<=31)/\bN (MO a.2) ((MO a.2).length - 1) 0*2^s.toNat<4294967296/\2147483648<=bN (MO a.2) ((MO a.2).length - 1) 0*2^s.toNat
def WN (a:List Int×List Int):Nat->bH
 |10=> .inv Int (λs=>⟨[(0,.row (.i .u32) (MO a.1)),(1,.row (.i .u32) (MO a.2)),(9,.si .u64 s)],[]⟩) (λs=>iS s 9)
  (λs=>(0<=s/\s<=31)/\bN (MO a.2) ((MO a.2).length - 1) 0*2^s.toNat<4294967296) (λs=>(32 - s).toNat) λ_ _=> .look
 |17=> .inv (Int×Int×List Int×List Int) (λx=>⟨[(4,.ow 1 x.2.2.2.length 1),(9,.si .u64 x.2.1),(10,.ow 0 x.2.2.1.length 1),(11,.row (.i .u32) (MO (shl (MO a.2) x.2.1.toNat))),(12,.si .i64 (MO (shl (MO a.2) x.2.1.toNat)).length),
   (13,.si .i64 ((MO a.1).length - (MO a.2).length)),(74,.si .i64 ((MO a.1).length - (MO a.2).length+1)),(75,.si .i64 x.1)],[.row (.i .u32) x.2.2.1 172 false,.row (.i .u32) x.2.2.2 172 true]⟩)
  (λs=>(iS s 75,iS s 9,oS (.i .u32) s 0,oS (.i .u32) s 1))
  (λx=>(0<=x.1/\x.1<=(MO a.1).length - (MO a.2).length+1)/\qB a x.2.1/\(ou x.2.2.1/\x.2.2.1.length=(MO a.1).length+1)/\(ou x.2.2.2/\x.2.2.2.length=(MO a.1).length - (MO a.2).length+1)/\
   (∀j:Nat,(j:Int)<(MO a.1).length - (MO a.2).length+1 - x.1->bN x.2.2.2 j 0=0)/\
   bX x.2.2.1+bX (MO (shl (MO a.2) x.2.1.toNat))*bX x.2.2.2=bX (MO a.1)*2^x.2.1.toNat/\
   bX (x.2.2.1.drop (((MO a.1).length - (MO a.2).length+1 - x.1:Int).toNat))<bX (MO (shl (MO a.2) x.2.1.toNat)))
  (λx=>((MO a.1).length - (MO a.2).length+1 - x.1:Int).toNat) λ_ _=> .look
 |24=> .inv (Int×Int×List Int×List Int×List Int) (λx=>⟨[(4,.ow 1 x.2.2.2.1.length 1),(5,.ow 2 x.2.2.2.2.length 1),(9,.si .u64 x.2.1),(10,.ow 0 x.2.2.1.length 1),(100,.si .i64 (MO (shl (MO a.2) x.2.1.toNat)).length),(101,.si .i64 x.1)],
   [.row (.i .u32) x.2.2.1 172 false,.row (.i .u32) x.2.2.2.1 172 true,.row (.i .u32) x.2.2.2.2 172 true]⟩)
  (λs=>(iS s 101,iS s 9,oS (.i .u32) s 0,oS (.i .u32) s 1,oS (.i .u32) s 2))
  (λx=>(0<=x.1/\x.1<=(MO (shl (MO a.2) x.2.1.toNat)).length)/\qB a x.2.1/\(ou x.2.2.1/\x.2.2.1.length=(MO a.1).length+1)/\(ou x.2.2.2.1/\x.2.2.2.1.length=(MO a.1).length - (MO a.2).length+1)/\
   bX x.2.2.1+bX (MO (shl (MO a.2) x.2.1.toNat))*bX x.2.2.2.1=bX (MO a.1)*2^x.2.1.toNat/\bX x.2.2.1<bX (MO (shl (MO a.2) x.2.1.toNat))/\
   (ou x.2.2.2.2/\x.2.2.2.2.length=(MO (shl (MO a.2) x.2.1.toNat)).length)/\(∀j,x.1.toNat<=j->bN x.2.2.2.2 j 0=0)/\
   2^x.2.1.toNat*bX x.2.2.2.2=bX (x.2.2.1.take x.1.toNat) - bN x.2.2.1 0 0 % 2^x.2.1.toNat+4294967296^x.1.toNat*(bN x.2.2.1 x.1.toNat 0 % 2^x.2.1.toNat))
  (λx=>((MO (shl (MO a.2) x.2.1.toNat)).length - x.1).toNat) λ_ _=> .look
 |_=> .look
theorem sU:d' Ad:=by
 refine jY (L:=QD) (W:=fH WD) Ad WN (j6 Rp) Rr ?_;rintro⟨a,b⟩ ⟨⟨ha,hb⟩,⟨hla,hlb⟩,b0⟩;simp only at ha hb hla hlb b0;refine NI (let c:=(0:Int);let d:=(4294967296:Int);let e:=(18446744073709551616:Int);let f:=Ω;let g:=γc .i64;let h:=TP .i64;let k:=iZ.row;let l:=(1:Int);let m:=γZ;let n:=(32:Int);let o:=(140737488355328:Int);let p:=(1000000000000:Int);let q:=(2:Int);let r:=SV.IL;let s:=(31:Int);let z0:Nat:=(MO b).length;let N:=(↑z0:Int);let av:=decide (N=c);let ag:=f (cj.i .i64) [];let t:=cj.i .u32;let ah:=g 0;let aa:=r [f t (bU (bX a / bX b)),f t (bU (bX a % bX b)),ah];let z7:Nat:=(MO a).length;let z8:Nat:=(MO b).length;let F:=bX (MO a);let aw:=decide (lg F (bX (MO b))<c);let a1:=γu .i64 0;let ax:=decide (N=l);let ab:=bN (MO b) 0 c;let ai:=F % ab % e;let aj:=bN (MO b) (z8 - 1) c;let a2:=N - l;let ak:=(↑(MO a).length:Int) - N;let B:=ak+l;let O:=δ B.toNat c;let al:=(↑z7:Int) - (↑z8:Int);let am:=g al;let y:=al+l;let an:=g y;let ay:=k t O 172 true;let P:=z7+1;let Q:=z7 - z8+1;a.length<=1000000000000/\b.length<=1000000000000/\(av=true->(r [ag,ag,γu .i64 8]).bi aa)/\(av=false->((ou (MO a)/\ou (MO b))/\z7<=1000000000000/\z8<=1000000000000)/\(aw=true->((ou (MO a)/\ou [])/\z7<=100000000000/\0<=100000000000)/\(r [ag,f t (bU (F+bX [])),a1]).bi aa)/\(aw=false->(ax=true->c<=c/\c<N/\0<z0/\(ou (MO a)/\z7<=100000000000/\c<ab/\ab<d)/\(c<=ai/\ai<e)/\(r [f t (bU (F / ab)),f t (bU ai),a1]).bi aa)/\(ax=false->((((f t (MO a)).bi (f t (MO a))/\(f t (MO b)).bi (f t (MO b))/\(γu .u64 0).bi (γc .u64 0)/\True)/\True)/\(c<=c/\c<=s)/\aj*l<d)/\∀(x:Int),let ao:=q^x.toNat;let a3:=(x+l) % e;let az:=γc .u64 a3;let aA:=shl (MO b) x.toNat;let R:=shl (MO a) x.toNat;let aB:=m 0 R.length 1;let S:=MO aA;let aC:=k t R 172 false;let aD:=λ(u:Bool) ↦decide (bN (MO b) a2.toNat c*ao % d<(2147483648:Int))=u;(c<=x/\x<=s)/\aj*ao<d->h a2/\c<=a2/\a2<N/\a2.toNat<z0/\c<=x/\x<=n/\(aD true->(((f t (MO a)).bi (f t (MO a))/\(f t (MO b)).bi (f t (MO b))/\az.bi az/\True)/\True)/\((c<=a3/\a3<=s)/\aj*q^a3.toNat<d)/\(n - a3).toNat<(n - x).toNat)/\(aD false->w9 (MO a,x)/\w9 (MO b,x)/\aA.length<=1000000000000/\h ak/\h B/\c<=B/\B<=B/\B*(4:Int)<=o/\B<=p/\h B/\((((m 1 B.toNat 1).bi (m 1 O.length 1)/\(γc .u64 x).bi (γc .u64 x)/\aB.bi aB/\(f t S).bi (f t S)/\(g (↑S.length:Int)).bi (g (↑S.length:Int))/\(g ak).bi am/\(g B).bi an/\a1.bi ah/\True)/\aC.bi aC/\ay.bi ay/\True)/\(c<=c/\c<=y)/\qB (a,b) x/\(ou R/\R.length=P)/\(ou O/\O.length=Q)/\(∀(j:Nat),(↑j:Int)<y - c->bN O j c=c)/\bX R+bX S*bX O=F*ao/\bX (γ3 (y - c).toNat R)<bX S)/\∀(x:Int×Int×List Int×List Int),let C:=x.2.2.1;let T:=MO (shl (MO b) x.2.1.toNat);let U:=bX T;let w:=x.2.2.2;let ac:=q^x.2.1.toNat;let V:=C.length;let aE:=decide (x.1<y);let G:=al - x.1;let z:=(↑T.length:Int);let a4:=G+z+l;let a5:=G.toNat;let a6:=a4.toNat;let H:=mO.mk C a5 (a6 - a5) V T;let K:=x.1+l;let ap:=m 1 w.length 1;let W:=w.set a5 (H.x / U);let ad:=γc .u64 x.2.1;let aq:=m 0 V 1;let ae:=g z;let aF:=g K;let aG:=k t H.row 172 false;let aH:=k t W 172 true;let X:=δ z.toNat c;let aI:=k t C 172 false;let aJ:=k t w 172 true;let aK:=k t X 172 true;let aL:=bN C 0 c % ac;let aM:=bX C+U*bX w=F*ac;(c<=x.1/\x.1<=y)/\qB (a,b) x.2.1/\(ou C/\V=P)/\(ou w/\w.length=Q)/\(∀(j:Nat),(↑j:Int)<y - x.1->bN w j c=c)/\aM/\bX (γ3 (y - x.1).toNat C)<U->(aE=true->h G/\h (G+z)/\h a4/\h (G+z)/\h a4/\V=C.length/\c<=G/\c<=a4/\c<=a4/\a5<=a6/\a6<=a6/\a6<=V/\H.ok/\w.length=w.length/\c<=G/\G<(↑w.length:Int)/\w.length=w.length/\a5<w.length/\h K/\((ap.bi (m 1 W.length 1)/\ad.bi ad/\aq.bi (m 0 H.row.length 1)/\(f t T).bi (f t T)/\ae.bi ae/\am.bi am/\an.bi an/\aF.bi aF/\True)/\aG.bi aG/\aH.bi aH/\True)/\((c<=K/\K<=y)/\qB (a,b) x.2.1/\(ou H.row/\H.row.length=P)/\(ou W/\W.length=Q)/\(∀(j:Nat),(↑j:Int)<y - K->bN W j c=c)/\bX H.row+U*bX W=F*ac/\bX (γ3 (y - K).toNat H.row)<U)/\(y - K).toNat<(y - x.1).toNat)/\(aE=false->c<=z/\z<=z/\z*(4:Int)<=o/\z<=p/\(((ap.bi ap/\(m 2 z.toNat 1).bi (m 2 X.length 1)/\ad.bi ad/\aq.bi aq/\ae.bi ae/\a1.bi ah/\True)/\aI.bi aI/\aJ.bi aJ/\aK.bi aK/\True)/\(c<=c/\c<=z)/\qB (a,b) x.2.1/\(ou C/\V=P)/\(ou w/\w.length=Q)/\aM/\bX C<U/\(ou X/\X.length=T.length)/\(∀(j:Nat),0<=j->bN X j c=c)/\ac*bX X=bX [] - aL+l*aL)/\∀(x:Int×Int×List Int×List Int×List Int),let aN:=γc .u64 x.2.1;let v:=x.2.2.1;let aO:=m 0 v.length 1;let Y:=MO (shl (MO b) x.2.1.toNat);let Z:=(↑Y.length:Int);let aP:=g Z;let E:=x.1+l;let aQ:=g E;let A:=x.2.2.2.2;let L:=A.length;let D:=x.1.toNat;let ar:=bN v D c;let I:=q^x.2.1.toNat;let a7:=A.set D (ar / I);let M:=x.2.2.2.1;let a8:=M.length;let aR:=m 1 a8 1;let aS:=k t v 172 false;let aT:=k t M 172 true;let a9:=E.toNat;let aU:=bN v 0 c % I;let aV:=bN v a9 c;let aW:=decide (x.1<Z);let J:=v.length;let aX:=decide (c<x.2.1);let au:=(n - x.2.1) % e;let b3:=aN.bi aN/\aO.bi aO/\aP.bi aP/\aQ.bi aQ/\True;let af:=L=a7.length;let aY:=x.1<(↑a7.length:Int);let aZ:=D<a7.length;let b0:=bX v+bX Y*bX M=F*I;let b4:=(Z - E).toNat<(Z - x.1).toNat;let b5:=aR.bi aR;let b6:=c<=E/\E<=Z;let b1:=λ(u:List Int) (u_1:Int) ↦let a0:=u.set D u_1;let b2:=k t a0 172 true;h E/\((b5/\(m 2 L 1).bi (m 2 a0.length 1)/\b3)/\aS.bi aS/\aT.bi aT/\b2.bi b2/\True)/\(b6/\qB (a,b) x.2.1/\(ou v/\v.length=P)/\(ou M/\a8=Q)/\b0/\bX v<bX Y/\(ou a0/\a0.length=Y.length)/\(∀(j:Nat),a9<=j->bN a0 j c=c)/\I*bX a0=bX (Ξ a9 v) - aU+d^a9*(aV % I))/\b4;(c<=x.1/\x.1<=Z)/\qB (a,b) x.2.1/\(ou v/\v.length=P)/\(ou M/\a8=Q)/\b0/\bX v<bX Y/\(ou A/\L=Y.length)/\(∀(j:Nat),D<=j->bN A j c=c)/\I*bX A=bX (Ξ D v) - aU+d^D*(ar % I)->(aW=true->v.length=J/\c<=x.1/\x.1<(↑J:Int)/\v.length=J/\D<J/\c<=x.2.1/\x.2.1<=n/\L=A.length/\c<=x.1/\x.1<(↑A.length:Int)/\L=A.length/\D<A.length/\(aX=true->af/\c<=x.1/\aY/\af/\aZ/\h E/\v.length=J/\c<=E/\E<(↑J:Int)/\v.length=J/\a9<J/\c<=au/\au<=n/\af/\c<=x.1/\aY/\af/\aZ/\b1 a7 (fm.orI .u32 (bN a7 D c) (aV*q^au.toNat % d)))/\(aX=false->b1 A (ar / I)))/\(aW=false->a8=M.length/\L=A.length/\a8<=1000000000000/\L<=1000000000000/\(r [f t (MO M),f t (MO A),a1]).bi aa))))))) (by kernel_rfl) ?_;simp only[vcs];obtain⟨va,na⟩:=@pV a;obtain⟨vb,nb⟩:=@pV b;have da:=rb ha;have db:=rb hb;have la:=@sI a;have lb:=@sI b;have p0:=eD da;have d0:ou []:=by simp[ou]
 simp only[qB];rw[<-va,<-vb];rw[<-vb] at b0;generalize MO a=S at*;generalize MO b=T at*;have hm:=δS (bX S) (show bX T≠0 by omega);have hl:=δp (bX S) b0;have hT1:T.length≠0:=by intro h;rw[ψ h] at b0;exact absurd b0 (by decide)
 refine⟨by omega,by omega,λh0=>by omega,λh0=>⟨⟨⟨da,db⟩,by omega⟩,λhlt=>⟨⟨⟨da,d0⟩,by omega⟩,?_⟩,λhge=>⟨λh1=>?_,λh1=>⟨?_,?_⟩⟩⟩⟩
 ·have hab:bX S<bX T:=by unfold lg at hlt;split at hlt<;>(try split at hlt)<;>omega
  have hdv:bX S / bX T=0:=Int.ediv_eq_zero_of_lt p0 hab;have hmv:bX S % bX T=bX S:=δP p0 hab;refine⟨LZ (by rw[hdv];rfl),?_⟩;rw[hmv];simp[bX]
 ·obtain⟨d,rfl⟩:∃d,T=[d]:=List.length_eq_one_iff.1 (by omega);have hd:=(iU.1 db).1;have aU9:bN [d] 0 0=d:=rfl;have hv:bX [d]=d:=by simp[bX]
  rw[hv] at b0 hm hl ⊢;rw[aU9];have hmm:bX S % d % 18446744073709551616=bX S % d:=by omega
  rw[hmm];repeat' refine γk ?_ ?_
  all_goals first|omega|exact da|rfl|(simp;done)
 ·have:=dH db (T.length - 1);repeat' refine γk ?_ ?_
  all_goals omega
 have azl:bX T<=bX S:=by unfold lg at hge;split at hge<;>(try split at hge)<;>omega
 have hlen:T.length<=S.length:=by
  by_cases h:S.length<T.length
  ·have:=wU da db nb h;omega
  ·omega
 have hTn:2<=T.length:=by omega
 clear hge h0 h1 hT1 va vb d0;rintro s ⟨⟨s0,s1⟩,hs⟩;have t1:((T.length:Int) - 1).toNat=T.length - 1:=by omega
 have hxt:=dH db (T.length - 1);have hps:(0:Int)<2^s.toNat:=δE (by decide);have hnn:0<=bN T (T.length - 1) 0*2^s.toNat:=γz hxt.1 (γi hps);have hmod:bN T (T.length - 1) 0*2^s.toNat % 4294967296=bN T (T.length - 1) 0*2^s.toNat:=by omega
 rw[t1,hmod];repeat refine γk (by omega) ?_
 refine⟨λhc=>?_,λhc=>?_⟩
 ·have htop:1<=bN T (T.length - 1) 0:=by
   by_cases h:1<=bN T (T.length - 1) 0;·exact h
   ·exfalso;have h4:=Af db nb (by rintro rfl;simp at hTn);have h5:bX T=bX (T.take (T.length - 1))+4294967296^(T.length - 1)*bN T (T.length - 1) 0:=by have:=@lf T (T.length - 1);rwa [show T.length - 1+1=T.length by omega,φ] at this
    have h6:=ng (mv db (T.length - 1));rw[γx,εn (by omega)] at h6;rw[show bN T (T.length - 1) 0=0 by omega,δM] at h5;omega
  have h31:s<=30:=by
   by_cases h:s<=30;·exact h
   ·have aVb:s.toNat=31:=by omega
    rw[aVb,show(2:Int)^31=2147483648 from rfl] at hc;omega
  have e:((s+1) % 18446744073709551616)=s+1:=by omega
  have e2:(s+1).toNat=s.toNat+1:=by omega
  rw[e,e2,γW,<-δm];repeat' refine γk ?_ ?_
  all_goals omega
 ·obtain⟨dw,lw,vw,tw,avq⟩:=Ez db (by omega) (show s.toNat<=31 by omega) hs (by omega);obtain⟨ds,ls,vs,hst⟩:=MP da db (show s.toNat<=31 by omega) hlen (by omega) avq;have hds:∀z,w9 (z,s)↔(ou z/\z.length<=100000000000):=λz=>⟨λh=>⟨h.1,h.2.1⟩,λh=>⟨h.1,h.2,s0,s1⟩⟩;have zi:(shl T s.toNat).length=T.length+1:=yS;have bits:(0<=s/\s<=31)/\bN T (T.length - 1) 0*2^s.toNat<4294967296/\2147483648<=bN T (T.length - 1) 0*2^s.toNat:=⟨⟨s0,s1⟩,hs,by omega⟩;rw[hds,hds,zi,ls];refine⟨⟨da,by omega⟩,⟨db,by omega⟩,?_⟩;repeat refine γk (by omega) ?_
  refine⟨?_,?_⟩
  ·repeat' refine γk ?_ ?_
   all_goals first|omega|exact kX (by simp)|exact kX (by omega)|exact ds|exact xd|exact λj _=>LX|(simp;omega)|(rw[u7,δM,εo];exact vs)|(rw[vw,show((S.length:Int) - T.length+1 - 0).toNat=S.length - T.length+1 by omega];exact hst)
  clear hst vs ls ds bits hds hmod hnn hps hxt avq tw vw lw dw zi t1 hc hs s0 s1;clear s;rintro⟨i,s,U,q⟩ ⟨⟨i0,i1⟩,⟨⟨s0,s1⟩,hs,hs2⟩,⟨hU,hUl⟩,⟨hq,hql⟩,hz,he,hlt⟩;simp only at i0 i1 s0 s1 hs hs2 hU hUl hq hql hz he hlt ⊢;obtain⟨dw,lw,vw,tw,avq⟩:=Ez db (by omega) (show s.toNat<=31 by omega) hs (by omega);generalize hw:MO (shl T s.toNat)=w at*;have hw0:0<bX w:=by rw[vw];exact εI b0 (δE (by decide))
  refine⟨λilt=>?_,λige=>?_⟩
  ·obtain⟨j,hj⟩:∃j:Nat,(S.length:Int) - T.length - i=j:=⟨((S.length:Int) - T.length - i).toNat,by omega⟩;have e1:((j:Int)+w.length+1).toNat - j=w.length+1:=by omega
   have e2:((S.length:Int) - T.length+1 - i).toNat=j+1:=by omega
   rw[e2] at hlt;obtain⟨k1,⟨k2,k3⟩,⟨k4,k5⟩,k6,k7⟩:=Wn (j:=j) (m:=S.length - T.length) hU dw hq (by omega) (by omega) (by omega) (by omega) hw0 (hz j (by omega)) he hlt;have e3:((S.length:Int) - T.length+1 - (i+1)).toNat=j:=by omega
   simp only[hj,e1,e3,γg,mO.row,mO.x,mO.ok];repeat' refine γk ?_ ?_
   all_goals first|omega|exact kX (by simp)|exact kX k3.symm|exact trivial|exact hU|exact dw|exact k1|exact k2|exact k6|exact k7|exact mu hq k4 k5|(simp;omega)|(rw[lw];exact tw)|exact λp hp=>by rw[ot (by omega)];exact hz p (by omega)
  ·have e2:((S.length:Int) - T.length+1 - i).toNat=0:=by omega
   rw[e2,List.drop_zero] at hlt;repeat refine γk (by omega) ?_
   refine⟨?_,?_⟩
   ·have h1:=@lf U 0;simp only[εy,bX,ζX,εa];repeat' refine γk ?_ ?_
    all_goals first|omega|exact kX (by simp)|exact hU|exact hq|exact he|exact hlt|exact xd|exact λj _=>LX|(simp;done)|(rw[u7];omega)
   clear hlt hz e2 ige i0 i1 tw avq hw0 hs hs2 s0 s1 he hU hUl hq hql;clear hw dw lw vw;clear w s i U q;rintro⟨i,s,U,q,r⟩ ⟨⟨i0,i1⟩,⟨⟨s0,s1⟩,hs,hs2⟩,⟨hU,hUl⟩,⟨hq,hql⟩,he,hlt,⟨hr,hrl⟩,hz,hv⟩;simp only at i0 i1 s0 s1 hs hs2 hU hUl hq hql he hlt hr hrl hz hv ⊢;obtain⟨dw,lw,vw,tw,avq⟩:=Ez db (by omega) (show s.toNat<=31 by omega) hs (by omega);generalize hw:MO (shl T s.toNat)=w at*;refine⟨λilt=>?_,λige=>?_⟩
   ·have x0:=dH hU i.toNat;have x1:=dH hU (i.toNat+1);have e1:(i+1).toNat=i.toNat+1:=by omega
    have x2:=dH hr i.toNat;have hps:(0:Int)<2^s.toNat:=δE (by decide);have y0:0<=bN U i.toNat 0 / 2^s.toNat:=δ3 x0.1 (γi hps);have y1:bN U i.toNat 0 / 2^s.toNat<=bN U i.toNat 0:=Int.ediv_le_self _ x0.1;have e2:((32 - s) % 18446744073709551616).toNat=32 - s.toNat:=by omega
    have e3:(r.set i.toNat (bN U i.toNat 0 / 2^s.toNat)).set i.toNat=r.set i.toNat:=by funext z;rw[List.set_set]
    simp only[e1,e2,e3,ra (show i.toNat<r.length by omega),γm];repeat refine γk (by omega) ?_
    refine⟨λhs0=>?_,λhs0=>?_⟩
    ·obtain⟨d,hd1,hd2,hd3⟩:=WU (s:=s.toNat) x0.1 x0.2 x1.1 x1.2 (by omega) (by omega);obtain⟨k1,k2,k3,k4⟩:=MN hU hr (show i.toNat<r.length by omega) hz hd2 hd3 hv;rw[hd1];repeat' refine γk ?_ ?_
     all_goals first|omega|exact kX (by simp)|exact hU|exact hq|exact k1|exact k3|exact k4|exact he|exact hlt|trivial
    ·have aVc:s.toNat=0:=by omega
     obtain⟨k1,k2,k3,k4⟩:=MN (s:=s.toNat) (d:=bN U i.toNat 0 / 2^s.toNat) hU hr (show i.toNat<r.length by omega) hz ⟨y0,by omega⟩ (by rw[aVc];simp) hv;repeat' refine γk ?_ ?_
     all_goals first|omega|exact kX (by simp)|exact hU|exact hq|exact k1|exact k3|exact k4|exact he|exact hlt|trivial
   ·have hi:i.toNat=w.length:=by omega
    rw[hi] at hv;obtain⟨w1,w2⟩:=WT hU hr dw rfl hlt vw b0 he (show s.toNat<=31 by omega) (by omega) hv;rw[pf hq,pf hr,w1,w2];repeat' refine γk ?_ ?_
    all_goals first|omega|rfl|trivial
theorem Ex {a b:List Int} (d:ou a) (c:ou b) (f:fu a) (h:bX a<=bX b):a.length<=b.length:=by
 by_cases e:a.length<=b.length;·exact e
 ·have:=wU c d f (by omega);omega
def Ac:NG:=⟨171,List Int×List Int,.cons (cP (.i .u32)) (.one (cP (.i .u32))),λa=>(ou a.1/\ou a.2)/\(a.1.length<=1000000000/\a.2.length<=1000000000),
 λa=> .row (.i .u32) (bU (dO (bX a.1) (bX a.2)))⟩
def Vq (a:List Int×List Int):Nat->bH
 |2=> .inv (List Int×List Int) (λx=>⟨[(0,.row (.i .u32) x.1),(1,.row (.i .u32) x.2)],[]⟩) (λs=>(rS (.i .u32) s 0,rS (.i .u32) s 1))
  (λx=>(ou x.1/\ou x.2)/\(fu x.1/\fu x.2)/\(x.1.length<=1000000000/\x.2.length<=1000000000)/\dO (bX x.1) (bX x.2)=dO (bX a.1) (bX a.2)) (λx=>(bX x.2).toNat) λ_ _=> .look
 |_=> .look
theorem sV:d' Ac:=by
 refine bI (L:=[yT,Ad]) Ac Vq (by grind[uJ,sU]) ?_;rintro⟨a,b⟩ ⟨⟨l,k⟩,⟨n,m⟩⟩;simp only at l k n m;refine NI (let h:=Ω;let c:=cj.i .u32;let f:=bU (bX a+bX []);let e:=bU (bX b+bX []);let g:=dO (bX a) (bX b);((ou a/\ou [])/\a.length<=100000000000/\0<=100000000000)/\((ou b/\ou [])/\b.length<=100000000000/\0<=100000000000)/\((((h c f).bi (h c f)/\(h c e).bi (h c e)/\True)/\True)/\(ou f/\ou e)/\(fu f/\fu e)/\(f.length<=1000000000/\e.length<=1000000000)/\dO (bX f) (bX e)=g)/\∀(x:List Int×List Int),let v:=decide ((0:Int)<(↑x.2.length:Int));let d:=bU (bX x.1 % bX x.2);(ou x.1/\ou x.2)/\(fu x.1/\fu x.2)/\(x.1.length<=1000000000/\x.2.length<=1000000000)/\dO (bX x.1) (bX x.2)=g->(v=true->((ou x.1/\ou x.2)/\(x.1.length<=10000000000/\x.2.length<=10000000000)/\(0:Int)<bX x.2)/\(false=true->(h c x.1).bi (h c (bU g)))/\(false=false->(((h c x.2).bi (h c x.2)/\(h c d).bi (h c d)/\True)/\True)/\((ou x.2/\ou d)/\(fu x.2/\fu d)/\(x.2.length<=1000000000/\d.length<=1000000000)/\dO (bX x.2) (bX d)=g)/\(bX d).toNat<(bX x.2).toNat))/\(v=false->(h c x.1).bi (h c (bU g)))) (by kernel_rfl) ?_;simp only[vcs];have r:ou []:=by simp[ou]
 have N:=eD l;have E:=eD k;have z:bX []=0:=rfl;rw[z,εo,εo];obtain⟨Q,y,D⟩:=fR N;obtain⟨o,w,H⟩:=fR E;have p:(bU (bX a)).length<=1000000000:=by rw[<-pf l];grind[sI]
 have j:(bU (bX b)).length<=1000000000:=by rw[<-pf k];grind[sI]
 refine⟨⟨⟨l,r⟩,by omega⟩,⟨⟨k,r⟩,by omega⟩,⟨⟨y,w⟩,⟨D,H⟩,⟨p,j⟩,by rw[Q,o]⟩,?_⟩;rintro⟨s,t⟩ ⟨⟨u,q⟩,⟨J,C⟩,⟨O,G⟩,F⟩;simp only at u q J C G O F ⊢;have T:=eD u;have U:=eD q;refine⟨λB=>?_,λB=>?_⟩
 ·have h:0<bX t:=by grind[val_zero]
  have K:=δS (bX s) (show bX t≠0 by omega);have A:=δp (bX s) h;obtain⟨I,M,S⟩:=fR K;have P:=Ex M q S (by rw[I];omega);grind[Wv]
 ·have R:t=[]:=ψ (by omega);grind[Wu,yU]
def oa (q:Rat):SV:=.agg (cd sF (nf q))
def bP (x:NH):Prop:=∃q k,x=nf q/\Sz k q/\k<=100000000
def fe (s:Bool) (n d:Int):Rat:=mkRat (if s then -n else n) d.toNat
def AK:NG:=⟨137,Int,.one (dY .i64),λn=> -9223372036854775808<=(show Int from n)/\(show Int from n)<=9223372036854775807,λn=> .row (.i .u32) (bU ((show Int from n).natAbs:Int))⟩
theorem zq:d' AK:=by refine bI (L:=[uY]) AK lk (by grind[rC]) ?_;intro(n:Int) h;obtain⟨e,f⟩: -9223372036854775808<=n/\n<=9223372036854775807:=h;refine NI (let e:=(18446744073709551616:Int);let f:=(1:Int);let g:=(0:Int);let h:=Ω;let d:=decide (n<g);let a:=(-(n+f)+f) % e;let b:=cj.i .u32;let c:=h b (bU (↑n.natAbs:Int));(d=true->TP .i64 (n+f)/\TP .i64 (-(n+f))/\TP .u64 (-(n+f))/\(g<=a/\a<e)/\(h b (bU a)).bi c)/\(d=false->TP .u64 n/\(g<=n/\n<e)/\(h b (bU n)).bi c)) (by kernel_rfl) ?_;simp only[vcs];grind[u64_in]
def xO:NG:=⟨167,Bool×(List Int×List Int),.cons Ow (.cons (cP (.i .u32)) (.one (cP (.i .u32)))),λa=>(ou a.2.1/\ou a.2.2)/\(a.2.1.length<=1000000000/\a.2.2.length<=1000000000)/\0<bX a.2.2,
 λa=> .IL [oa (fe a.1 (bX a.2.1) (bX a.2.2)),.si .i64 0]⟩
theorem uK:d' xO:=by
 refine bI (L:=[Ac,Ad]) xO lk (by grind[sV,sU]) ?_;rintro⟨s,n,d⟩ ⟨⟨c,f⟩,⟨t,p⟩,j⟩;simp only at c f t p j;refine NI (let b:=δb false;let c:=γu .i64;let e:=Ω;let f:=(0:Int);let g:=γG;let h:=SV.IL;let k:=e (cj.i .i64) [];let w:=nf (fe s (bX n) (bX d));let l:=cj.i .u32;let y:=h [g [γA w.1,e l w.2.1,e l w.2.2],γc .i64 0];let a:=bU (dO (bX n) (bX d));let C:=bU (bX n / bX a);let B:=decide ((↑d.length:Int)=f);let F:=false=true->(h [g [b,k,k],c 8]).bi y;let E:=λ(u:Bool) (v:SV) ↦s=u->(h [g [v,e l C,e l (bU (bX d / bX a))],c 0]).bi y;(B=true->(h [g [b,k,k],c 8]).bi y)/\(B=false->((ou n/\ou d)/\n.length<=1000000000/\d.length<=1000000000)/\((ou n/\ou a)/\(n.length<=10000000000/\a.length<=10000000000)/\f<bX a)/\((ou d/\ou a)/\(d.length<=10000000000/\a.length<=10000000000)/\f<bX a)/\F/\(false=false->F/\(false=false->E true (γA (decide (f<(↑C.length:Int))))/\E false (b))))) (by kernel_rfl) ?_;simp only[vcs];have D:=eD c;have b:0<dO (bX n) (bX d):=by simp_all[dO]
 have K:dO (bX n) (bX d)<=bX d:=by unfold dO;have:=θr (bX n).toNat (show 0<(bX d).toNat by omega);omega
 have o:dO (bX n) (bX d)∣bX n:=by unfold dO;have:=θq (bX n).toNat (bX d).toNat;have S:=Int.natCast_dvd_natCast.2 this;grind
 obtain⟨R,q,Q⟩:=fR (γi b);have I:=Ex q (rb f) Q (by grind[pV]);have P:=@sI d;have A:0<=bX n / dO (bX n) (bX d):=δ3 D (γi b);obtain⟨N,H,M⟩:=fR A;have G:(0<((bU (bX n / dO (bX n) (bX d))).length:Int))↔0<bX n:=by
  obtain⟨m,e⟩:=o;have r:bX n / dO (bX n) (bX d)=m:=by
   conv=>lhs;arg 1;rw[e]
   rw[ζE _ (by omega)]
  rw[r] at N H M ⊢;have z:0<bX n↔0<m:=by
   generalize dO (bX n) (bX d)=g at*;rw[e];constructor;·grind
   ·intro h;exact εI b h
  rw[z];constructor
  ·intro h;by_cases e:m=0;·rw[e] at h;exact absurd h (by decide)
   ·omega
  ·intro h;by_cases T:(bU m).length=0<;>grind[bU,bX]
 have O:d.length≠0:=by intro h;rw[ψ h] at j;exact absurd j (by decide)
 unfold fe;rw[ML D j,R];simp only;refine⟨λh=>absurd h (by omega),λ_=>⟨⟨⟨c,f⟩,by omega⟩,⟨⟨c,q⟩,by omega,b⟩,⟨⟨f,q⟩,by omega,b⟩,?_⟩⟩;have J:decide (0<((bU (bX n / dO (bX n) (bX d))).length:Int))=decide (0<bX n):=by simp_all
 refine⟨λh=>absurd h (by decide),λ_=>⟨λh=>absurd h (by decide),λ_=>⟨λx=>?_,λx=>?_⟩⟩⟩
 ·rw[x,J];rfl
 ·rw[x];rfl
def uX:NG:=⟨136,Bool×(List Int×List Int),.cons Ow (.cons (cP (.i .u32)) (.one (cP (.i .u32)))),λa=>(ou a.2.1/\ou a.2.2)/\(a.2.1.length<=1000000000/\a.2.2.length<=1000000000)/\0<bX a.2.2,
 λa=>oa (fe a.1 (bX a.2.1) (bX a.2.2))⟩
theorem rD:d' uX:=by refine bI (L:=[xO]) uX lk (by grind[uK]) ?_;rintro⟨s,n,d⟩ ⟨⟨h,g⟩,⟨a,c⟩,f⟩;simp only at h g a c f;refine NI (let b:=nf (fe s (bX n) (bX d));let e:=γG [γA b.1,Ω (cj.i .u32) b.2.1,Ω (cj.i .u32) b.2.2];((ou n/\ou d)/\(n.length<=1000000000/\d.length<=1000000000)/\(0:Int)<bX d)/\e.bi e) (by kernel_rfl) ?_;simp_all[vcs]
def mR:NG:=⟨101,Int,.one (dY .i64),λn=> -9223372036854775808<=(show Int from n)/\(show Int from n)<=9223372036854775807,λn=>oa ((show Int from n):Rat)⟩
theorem n_:d' mR:=by
 refine bI (L:=[AK,uY,uX]) mR lk (by grind[zq,rC,rD]) ?_;intro(n:Int) h;obtain⟨o,p⟩: -9223372036854775808<=n/\n<=9223372036854775807:=h;refine NI (let e:=Ω;let g:=(1:Int);let h:=(0:Int);let c:=bU (↑n.natAbs:Int);let b:=bU g;let f:=nf (fe (decide (n<h)) (bX c) (bX b));let a:=cj.i .u32;let d:=nf (κ n);((-9223372036854775808:Int)<=n/\n<=(9223372036854775807:Int))/\(h<=g/\g<(18446744073709551616:Int))/\((ou c/\ou b)/\(c.length<=1000000000/\b.length<=1000000000)/\h<bX b)/\(γG [γA f.1,e a f.2.1,e a f.2.2]).bi (γG [γA d.1,e a d.2.1,e a d.2.2])) (by kernel_rfl) ?_;conv=>zeta
 obtain⟨j,g,t⟩:=fR (show(0:Int)<=(n.natAbs:Int) by omega);obtain⟨l,m,s⟩:=fR (show(0:Int)<=1 by omega);have u:=lM (k:=2) (show(0:Int)<=(n.natAbs:Int) by omega) (by omega);have q:=lM (k:=1) (show(0:Int)<=1 by omega) (by decide);refine⟨⟨o,p⟩,(by omega),⟨⟨g,m⟩,(by omega),by omega⟩,?_⟩;have e:fe (decide (n<0)) (bX (bU (n.natAbs:Int))) (bX (bU 1))=κ n:=by
  rw[j,l];unfold fe;have r:(if decide (n<0)=true then -(n.natAbs:Int) else(n.natAbs:Int))=n:=by grind
  grind[Rat.mkRat_one]
 rw[e];rfl
def jh (q:Rat):Int:=if q<0 then -1 else if 0<q then 1 else 0
def qx:NG:=⟨142,NH,.one (dg sF),bP,λx=> .si .i64 (jh (TM x))⟩
theorem sZ:d' qx:=by
 refine bI (L:=[]) qx lk (by simp) ?_;intro(x:NH) h;obtain⟨q,k,rfl,m,f⟩:bP x:=h;refine NI (let c:=γu .i64;let b:=decide ((↑(γf (nf q).2.1):Int)=(0:Int));let a:=γc .i64 (jh (TM (nf q)));(b=true->(c 0).bi a)/\(b=false->((nf q).1=true->(c (-1:Int)).bi a)/\((nf q).1=false->(c 1).bi a))) (by kernel_rfl) ?_;simp only[vcs];rw[dR];have e:((nf q).2.1.length:Int)=0↔q.num=0:=by
  unfold nf;simp only;obtain⟨d,j,i⟩:=fR (show(0:Int)<=(q.num.natAbs:Int) by omega);constructor
  ·intro h;rw[ψ (by omega:(bU (q.num.natAbs:Int)).length=0)] at d;grind[bX]
  ·intro h;rw[h];rfl
 have c:(nf q).1=decide (q<0):=rfl;have n:=@Rat.num_nonneg q;have l:q<0↔q.num<0:=by grind
 have g:0<q↔0<q.num:=by grind[ζZ]
 rw[e,c];simp only[decide_eq_true_eq,decide_eq_false_iff_not];unfold jh;grind
def tL (x:NH):Prop:=(ou x.2.1/\ou x.2.2)/\x.2.1.length<=100000000/\x.2.2.length<=100000000
def AJ:NG:=⟨139,NH×NH,.cons (dg sF) (.one (dg sF)),λa=>tL a.1/\tL a.2,λa=> .IL [.row (.i .u32) (bU (bX a.1.2.1*bX a.2.2.2)),.row (.i .u32) (bU (bX a.2.2.1*bX a.1.2.2))]⟩
theorem zp:d' AJ:=by refine bI (L:=[uZ]) AJ lk (by grind[rz]) ?_;rintro⟨⟨s,n,d⟩,⟨o,b,a⟩⟩ ⟨⟨⟨e,j⟩,g,f⟩,⟨⟨k,h⟩,l,m⟩⟩;simp only at e j g f k h l m;refine NI (let c:=SV.IL [Ω (cj.i .u32) (bU (bX n*bX a)),Ω (cj.i .u32) (bU (bX b*bX d))];((ou n/\ou a)/\n.length<=100000000000/\a.length<=100000000000)/\((ou b/\ou d)/\b.length<=100000000000/\d.length<=100000000000)/\c.bi c) (by kernel_rfl) ?_;simp only[vcs];grind
theorem AI {p q:Rat} (h:p=q):(γG [.sb (nf p).1,.row (.i .u32) (nf p).2.1,.row (.i .u32) (nf p).2.2]).bi (.agg [.sb (nf q).1,.row (.i .u32) (nf q).2.1,.row (.i .u32) (nf q).2.2]):=by subst h;rfl
theorem tK (q:Rat):q.num=if decide (q<0) then -(q.num.natAbs:Int) else(q.num.natAbs:Int):=by have a:=@Rat.num_nonneg q;grind
theorem kW (q:Rat):(nf q).1=decide (q<0)/\(ou (nf q).2.1/\fu (nf q).2.1/\bX (nf q).2.1=(q.num.natAbs:Int))/\(ou (nf q).2.2/\fu (nf q).2.2/\bX (nf q).2.2=(q.den:Int)):=by obtain⟨f,e,d⟩:=fR (show(0:Int)<=(q.num.natAbs:Int) by omega);obtain⟨b,c,a⟩:=fR (show(0:Int)<=(q.den:Int) by omega);exact⟨rfl,⟨e,d,f⟩,⟨c,a,b⟩⟩
theorem nK {q:Rat} {k:Nat} (h:Sz k q):(nf q).2.1.length<=k/\(nf q).2.2.length<=k:=
 ⟨lM (by omega) h.1,lM (by omega) h.2⟩
theorem Vp (q:Rat):fe (!decide (q<0)) (q.num.natAbs:Int) (q.den:Int)= -q:=by
 unfold fe;have h:=tK q;have e:(if(!decide (q<0))=true then -(q.num.natAbs:Int) else(q.num.natAbs:Int))= -q.num:=by grind
 grind[δY,Rat.neg_mkRat]
def uW:NG:=⟨145,NH,.one (dg sF),bP,λx=>oa (-(TM x))⟩
theorem rB:d' uW:=by
 refine bI (L:=[uX]) uW lk (by grind[rD]) ?_;intro(x:NH) h;obtain⟨q,k,rfl,f,g⟩:bP x:=h;refine NI (let f:=Ω;let c:=(nf q).2.1;let a:=(nf q).2.2;let d:=nf (fe (!(nf q).1) (bX c) (bX a));let b:=cj.i .u32;let e:=(nf (-TM (nf q))).2;((ou c/\ou a)/\(γf c<=1000000000/\γf a<=1000000000)/\(0:Int)<bX a)/\(γG [γA d.1,f b d.2.1,f b d.2.2]).bi (γG [γA (nf (-TM (nf q))).1,f b e.1,f b e.2])) (by kernel_rfl) ?_;conv=>zeta
 obtain⟨s,⟨r,p,u⟩,⟨o,l,n⟩⟩:=kW q;obtain⟨j,m⟩:=nK f;have t:=q.den_pos;grind[AI,dR,Vp]
theorem pc {a b:Int} {i j:Nat} (e:0<=a) (c:a<4294967296^i) (d:b<4294967296^j):a*b<4294967296^(i+j):=by rw[εc];exact εQ (Ψ (γi d) e) (γ4 c (pow_pos _))
theorem MG {p q:Rat} {i j:Nat} (c:Sz i p) (b:Sz j q):∃X Y D:Int,bX (nf p).2.1*bX (nf q).2.2=X/\bX (nf q).2.1*bX (nf p).2.2=Y/\bX (nf p).2.2*bX (nf q).2.2=D/\0<=X/\0<=Y/\0<D/\
  (bU X).length<=i+j/\(bU Y).length<=i+j/\(bU (X+Y)).length<=i+j+1/\(bU (X - Y)).length<=i+j/\(bU (Y - X)).length<=i+j/\(bU D).length<=i+j/\p.num*q.den=(if decide (p<0) then -X else X)/\q.num*p.den=(if decide (q<0) then -Y else Y)/\((p.den*q.den:Nat):Int)=D:=by
 obtain⟨_,⟨_,_,l⟩,⟨_,_,r⟩⟩:=kW p;obtain⟨_,⟨_,_,n⟩,⟨_,_,m⟩⟩:=kW q;rw[l,r,n,m];have s:=p.den_pos;have t:=q.den_pos;have k:=pc (a:=(p.num.natAbs:Int)) (by omega) c.1 b.2;have d:=pc (a:=(q.num.natAbs:Int)) (by omega) b.1 c.2;rw[Nat.add_comm j i] at d;have o:=pc (a:=(p.den:Int)) (by omega) c.2 b.2;have f:0<=(p.num.natAbs:Int)*q.den:=γz (by omega) (by omega);have e:0<=(q.num.natAbs:Int)*p.den:=γz (by omega) (by omega);have g:0<(p.den:Int)*q.den:=εI (by omega) (by omega);have v:=tK p;have u:=tK q;refine⟨_,_,_,rfl,rfl,rfl,f,e,g,lM f k,lM e d,lM (by omega) ?_,?_,?_,lM (by omega) o,?_,?_,by push_cast;rfl⟩;·omega
 ·by_cases h:(p.num.natAbs:Int)*q.den - (q.num.natAbs:Int)*p.den<=0;·grind[EE]
  ·exact lM (by omega) (by omega)
 ·by_cases h:(q.num.natAbs:Int)*p.den - (p.num.natAbs:Int)*q.den<=0;·grind[EE]
  ·exact lM (by omega) (by omega)
 all_goals grind
theorem Vo {p q:Rat} {s:Bool} {n D:Int} (a:((p.den*q.den:Nat):Int)=D) (h:p.num*q.den+q.num*p.den=if s then -n else n):fe s n D=p+q:=by rw[MK];grind[fe]
theorem AH {p:Rat} {k:Nat} (h:Sz k p) (c:k<=100000000):tL (nf p):=by obtain⟨_,⟨a,_,_⟩,⟨b,_,_⟩⟩:=kW p;have:=nK h;exact⟨⟨a,b⟩,by omega⟩
def iE (p q:Rat):Int:=if p<q then -1 else if q<p then 1 else 0
def uO:NG:=⟨102,NH×NH,.cons (dg sF) (.one (dg sF)),λa=>bP a.1/\bP a.2,λa=> .si .i64 (iE (TM a.1) (TM a.2))⟩
theorem zB:d' uO:=by
 refine bI (L:=[AJ,wT]) uO lk (by grind[zp,rA]) ?_;rintro⟨x,y⟩ ⟨⟨p,i,t,w,S⟩,⟨q,j,r,o,T⟩⟩;simp only at t r;subst t r;refine NI (let a:=(nf p).1;let g:=γc .i64 (iE (TM (nf p)) (TM (nf q)));let s:=λ(u:Bool) (c b:Rat) ↦let k:=bU (bX (nf c).2.1*bX (nf b).2.2);let l:=bU (bX (nf b).2.1*bX (nf c).2.2);a=u->((ou k/\ou l)/\k.length<=1000000000000/\l.length<=1000000000000)/\(γc .i64 (lg (bX k) (bX l))).bi g;((!a==(nf q).1)=true->(a=true->(γu .i64 (-1:Int)).bi g)/\(a=false->(γu .i64 1).bi g))/\((!a==(nf q).1)=false->(tL (a,(nf p).2.1,(nf p).2.2)/\tL ((nf q).1,(nf q).2.1,(nf q).2.2))/\s true q p/\s false p q)) (by kernel_rfl) ?_;conv=>zeta
 obtain⟨C,_,_⟩:=kW p;obtain⟨P,_,_⟩:=kW q;obtain⟨X,Y,D,E,M,hD,G,N,U,l1,l2,l3,l4,Z,V,B,A,W⟩:=MG w o;obtain⟨J,v,c3⟩:=fR G;obtain⟨K,n,c6⟩:=fR N;simp only[dR,E,M,J,K,C,P];simp only[vcs];have hl:p<q↔p.num*q.den<q.num*p.den:=Rat.lt_iff p q;have R:q<p↔q.num*p.den<p.num*q.den:=Rat.lt_iff q p;have O:=@Rat.num_nonneg p;have H:=@Rat.num_nonneg q;have m:∀{z:Int},(z=if p.num*q.den<q.num*p.den then -1 else if q.num*p.den<p.num*q.den then 1 else 0)->z=iE p q:=λh=>by grind[iE]
 have Q:p<0->0<X:=λh=>by
  rw[if_pos (by simpa using h)] at B;have f:p.num<0:=by grind
  have:=εB f (show(0:Int)<q.den by grind);omega
 have F:q<0->0<Y:=λh=>by
  rw[if_pos (by simpa using h)] at A;have f:q.num<0:=by grind
  have:=εB f (show(0:Int)<p.den by grind);omega
 rw[B,A] at m;refine⟨λI=>⟨λd=>?_,λd=>?_⟩,λhe=>⟨⟨AH w S,AH o T⟩,λd=>⟨⟨⟨n,v⟩,by omega⟩,?_⟩,λd=>⟨⟨⟨v,n⟩,by omega⟩,?_⟩⟩⟩;·grind
 ·grind
 ·apply m;have e:q<0:=by grind
  simp only[decide_eq_true_eq,d,e,if_true,if_false];simp only[Int.neg_lt_neg_iff];rfl
 ·apply m;have e:¬q<0:=λe=>by grind
  simp only[decide_eq_true_eq,d,e,if_true,if_false];rfl
def tJ:NG:=⟨134,NH×NH,.cons (dg sF) (.one (dg sF)),λa=>bP a.1/\bP a.2,λa=>oa (TM a.1+TM a.2)⟩
theorem pI:d' tJ:=by
 refine bI (L:=[AJ,uZ,yT,ED,uX]) tJ lk (by grind[zp,rz,uJ,Jv,rD]) ?_;rintro⟨x,y⟩ ⟨⟨p,i,J,w,S⟩,⟨q,j,E,B,hj⟩⟩;simp only at J E;subst J E;refine NI (let h:=Ω;let j:=γG;let m:=(nf q).2.2;let f:=bU (bX (nf p).2.1*bX m);let t:=(nf p).2.2;let k:=bU (bX (nf q).2.1*bX t);let a:=bU (bX t*bX m);let g:=cj.i .u32;let z:=nf (TM (nf p)+TM (nf q));let o:=j [γA z.1,h g z.2.1,h g z.2.2];let v:=(nf p).1==(nf q).1;let c:=bU (bX f+bX k);let d:=nf (fe (nf p).1 (bX c) (bX a));let I:=(ou f/\ou k)/\f.length<=100000000000/\k.length<=100000000000;let K:=λ(u r:Rat) ↦let e:=bU (bX (bU (bX (nf u).2.1*bX (nf r).2.2)) - bX (bU (bX (nf r).2.1*bX (nf u).2.2)));let b:=nf (fe (nf u).1 (bX e) (bX a));((ou e/\ou a)/\(e.length<=1000000000/\a.length<=1000000000)/\(0:Int)<bX a)/\(j [γA b.1,h g b.2.1,h g b.2.2]).bi o;let F:=λ(u:Bool) ↦decide (bX k<=bX f)=u;(tL ((nf p).1,(nf p).2.1,t)/\tL ((nf q).1,(nf q).2.1,m))/\((ou t/\ou m)/\γf t<=100000000000/\γf m<=100000000000)/\(v=true->I/\((ou c/\ou a)/\(c.length<=1000000000/\a.length<=1000000000)/\(0:Int)<bX a)/\(j [γA d.1,h g d.2.1,h g d.2.2]).bi o)/\(v=false->I/\(F true->K p q)/\(F false->((ou k/\ou f)/\k.length<=100000000000/\f.length<=100000000000)/\K q p))) (by kernel_rfl) ?_;conv=>zeta
 obtain⟨O,⟨u1,_,_⟩,⟨u2,_,_⟩⟩:=kW p;obtain⟨W,⟨u3,_,_⟩,⟨P,_,_⟩⟩:=kW q;obtain⟨m1,m2⟩:=nK w;obtain⟨m3,m4⟩:=nK B;obtain⟨X,Y,D,T,Q,hD,U,R,C,l1,l2,l3,l4,l5,l6,n1,n2,n3⟩:=MG w B;obtain⟨N,H,c3⟩:=fR U;obtain⟨c4,G,c6⟩:=fR R;obtain⟨c7,V,c9⟩:=fR (γi C);obtain⟨s1,M,s3⟩:=fR (show 0<=X+Y by omega);simp only[dR,T,Q,hD,N,c4,c7,s1,O,W];simp only[vcs];have l:∀{s:Bool} {n:Int},(p.num*q.den+q.num*p.den=if s then -n else n)->(γG [.sb (nf (fe s n D)).1,.row (.i .u32) (nf (fe s n D)).2.1,.row (.i .u32) (nf (fe s n D)).2.2]).bi (.agg [.sb (nf (p+q)).1,.row (.i .u32) (nf (p+q)).2.1,.row (.i .u32) (nf (p+q)).2.2]):=
  λh=>AI (Vo n3 h);rw[n1,n2] at l;refine⟨⟨AH w S,AH B hj⟩,⟨⟨u2,P⟩,by omega⟩,λZ=>⟨⟨⟨H,G⟩,by omega⟩,⟨⟨M,V⟩,(by omega),C⟩,l ?_⟩,λZ=>⟨⟨⟨H,G⟩,by omega⟩,λA=>?_,λA=>?_⟩⟩;all_goals grind[fR]
def w_:NG:=⟨144,NH×NH,.cons (dg sF) (.one (dg sF)),λa=>bP a.1/\bP a.2,λa=>oa (TM a.1 - TM a.2)⟩
theorem CN:d' w_:=by refine bI (L:=[uW,tJ]) w_ lk (by grind[rB,pI]) ?_;rintro⟨x,y⟩ ⟨⟨p,i,k,m,n⟩,⟨q,j,g,l,o⟩⟩;simp only at k g;subst k g;refine NI (let g:=Ω;let b:=((nf q).1,(nf q).2.1,(nf q).2.2);let e:=((nf p).1,(nf p).2.1,(nf p).2.2);let h:=(nf (-TM b)).2;let f:=((nf (-TM b)).1,h.1,h.2);let d:=nf (TM e+TM f);let a:=cj.i .u32;let c:=nf (TM (nf p) - TM (nf q));bP b/\(bP e/\bP f)/\(γG [γA d.1,g a d.2.1,g a d.2.2]).bi (γG [γA c.1,g a c.2.1,g a c.2.2])) (by kernel_rfl) ?_;grind[bP,xQ,AI,dR]
theorem Ew {a:List Int} (h:ou a) (c:fu a) (b:a≠[]):0<bX a:=by have:=eD h;grind[val_zero]
def okF (x:NH):Bool:=decide (nf (TM x)=x)
theorem MF {n d:Int} (h:0<d):0<dO n d:=by simp_all[dO]
theorem Vn {s:Bool} {n d:List Int} (h:okF (s,(n,d))=true):fu n/\fu d/\d≠[]:=by have h:=of_decide_eq_true h;have b:=fR (show(0:Int)<=((TM (s,(n,d))).num.natAbs:Int) by omega);have a:=fR (show(0:Int)<=((TM (s,(n,d))).den:Int) by omega);have e:bU ((TM (s,(n,d))).num.natAbs:Int)=n:=congrArg (λx=>x.2.1) h;have c:bU ((TM (s,(n,d))).den:Int)=d:=congrArg (λx=>x.2.2) h;rw[e] at b;rw[c] at a;refine⟨b.2.2,a.2.2,λf=>?_⟩;have g:=a.1;rw[f] at g;have:=(TM (s,(n,d))).den_pos;grind[bX]
theorem okF_eq {s:Bool} {n d:List Int} (e:ou n) (m:ou d) (l:fu n) (p:fu d) (b:d≠[]):
  okF (s,(n,d))=if n=[] then !s&&decide (d=[1]) else decide (dO (bX n) (bX d)=1):=by
 have c:=Ew m p b;have r:=eD e;have j:TM (s,(n,d))=mkRat (if s then -bX n else bX n) (bX d).toNat:=rfl;have o:=@ML s (bX n) (bX d) r c;have u:=@MF (bX n) (bX d) c;unfold okF;rw[j,o];by_cases a:n=[]
 ·rw[if_pos a,a];have i:dO (bX []) (bX d)=bX d:=by unfold dO;simp[bX];omega
  have k:bU (bX d / dO (bX []) (bX d))=[1]:=by rw[i,Int.ediv_self (by omega)];rfl
  have f:bU (bX [] / dO (bX []) (bX d))=[]:=by have:bX []=0:=rfl;rw[this,Int.zero_ediv];rfl
  rw[k,f];have v:decide (0<bX [])=false:=rfl;grind
 ·rw[if_neg a];have q:=Ew e l a;rw[decide_eq_true (show 0<bX n from q),Bool.and_true];rw[ζV,decide_eq_true_eq,decide_eq_true_eq];constructor
  ·intro h;injection h with h1 w;injection w with w x;have g:=(fR (show 0<=bX d / dO (bX n) (bX d) from δ3 (by omega) (by omega))).1;rw[x] at g;by_cases t:dO (bX n) (bX d)=1;·exact t
   ·have:=Int.ediv_lt_self_of_pos_of_ne_one c (by omega:dO (bX n) (bX d)≠1);omega
  grind[yU]
theorem Vm {l:List Int} (h:l.length=0\/bN l (l.length - 1) 0≠0):fu l:=by
 rcases h with h|h;·rw[ψ h];trivial
 ·by_cases b:l.length=0;·rw[ψ b];trivial
  ·have c:=zE (a:=l) (n:=l.length - 1) (by omega);grind[FB]
def qN (a:List Int):Bool:=decide (a.length=0)||decide (bN a (a.length - 1) 0≠0)
theorem rR {a:List Int}:qN a=true↔fu a:=by
 unfold qN;rw[Bool.or_eq_true,decide_eq_true_eq,decide_eq_true_eq];constructor;·exact Vm
 ·intro h;by_cases e:a.length=0;·exact .inl e
  ·right;have b:=zE (a:=a) (n:=a.length - 1) (by omega);rw[show a.length - 1+1=a.length by omega,φ] at b;have:∀{l:List Int} {x:Int},fu (l++[x])->x≠0:=by
    intro l x;induction l with
    |nil=>intro h;exact h.1 rfl;|cons d l c=>intro h;exact c h.2
   grind
theorem ME (p q:Rat):(if(!(decide (p<0)==decide (q<0)))=true then -((p.num.natAbs:Int)*(q.num.natAbs:Int)) else(p.num.natAbs:Int)*(q.num.natAbs:Int))=p.num*q.num:=by have a:=tK p;have b:=tK q;grind
theorem MD (p q:Rat):fe (!(decide (p<0)==decide (q<0))) ((p.num.natAbs:Int)*(q.num.natAbs:Int)) ((p.den:Int)*(q.den:Int))=p*q:=by
 unfold fe;rw[ME,show((p.den:Int)*(q.den:Int)).toNat=p.den*q.den by omega,δG];have a:(p.num:Rat) / (p.den:Rat)=p:=by rw[<-δG,δY]
 have b:(q.num:Rat) / (q.den:Rat)=q:=by rw[<-δG,δY]
 grind
theorem MC {p q:Rat} (a:q≠0):fe (!(decide (p<0)==decide (q<0))) ((p.num.natAbs:Int)*(q.den:Int)) ((p.den:Int)*(q.num.natAbs:Int))=p / q:=by
 unfold fe;rw[show((p.den:Int)*(q.num.natAbs:Int)).toNat=p.den*q.num.natAbs by omega,δG];have k:(p.num:Rat) / (p.den:Rat)=p:=by rw[<-δG,δY]
 have d:(q.num:Rat) / (q.den:Rat)=q:=by rw[<-δG,δY]
 have m:(p.den:Rat)≠0:=by have:=p.den_nz;simp_all
 have o:(q.den:Rat)≠0:=by grind
 have e:=tK p;have g:=tK q;have n:(q.num:Rat)≠0:=λh=>a (by grind);rw[Rat.natCast_mul];conv=>rhs;rw[<-k,<-d]
 have f:((p.num.natAbs:Int):Rat)=(p.num.natAbs:Rat):=ζd _;have c:((q.num.natAbs:Int):Rat)=(q.num.natAbs:Rat):=ζd _;have i:((q.den:Int):Rat)=(q.den:Rat):=ζd _;have j:(p.num:Rat)=if decide (p<0)=true then -(p.num.natAbs:Rat) else(p.num.natAbs:Rat):=by
  rw[<-f];conv=>lhs;rw[e]
  split<;>grind
 have b:(q.num:Rat)=if decide (q<0)=true then -(q.num.natAbs:Rat) else(q.num.natAbs:Rat):=by
  rw[<-c];conv=>lhs;rw[g]
  split<;>grind
 have l:((if(!(decide (p<0)==decide (q<0)))=true then -((p.num.natAbs:Int)*(q.den:Int)) else(p.num.natAbs:Int)*(q.den:Int):Int):Rat)=if(!(decide (p<0)==decide (q<0)))=true then -((p.num.natAbs:Rat)*(q.den:Rat)) else(p.num.natAbs:Rat)*(q.den:Rat):=by split<;>grind
 grind
def xN:NG:=⟨178,NH×NH,.cons (dg sF) (.one (dg sF)),λa=>bP a.1/\bP a.2,λa=>oa (TM a.1*TM a.2)⟩
theorem uF:d' xN:=by
 refine bI (L:=[uZ,uX]) xN lk (by grind[rz,rD]) ?_;rintro⟨x,y⟩ ⟨⟨p,i,n,f,M⟩,⟨q,j,o,l,G⟩⟩;simp only at n o;subst n o;refine NI (let f:=Ω;let c:=(nf p).2.1;let k:=(nf q).2.1;let g:=(nf p).2.2;let h:=(nf q).2.2;let m:=bU (bX c*bX k);let b:=bU (bX g*bX h);let d:=nf (fe (!(nf p).1==(nf q).1) (bX m) (bX b));let a:=cj.i .u32;let e:=nf (TM (nf p)*TM (nf q));((ou c/\ou k)/\γf c<=100000000000/\γf k<=100000000000)/\((ou g/\ou h)/\γf g<=100000000000/\γf h<=100000000000)/\((ou m/\ou b)/\(m.length<=1000000000/\b.length<=1000000000)/\(0:Int)<bX b)/\(γG [γA d.1,f a d.2.1,f a d.2.2]).bi (γG [γA e.1,f a e.2.1,f a e.2.2])) (by kernel_rfl) ?_;conv=>zeta
 obtain⟨t,⟨P,_,s⟩,⟨E,_,v⟩⟩:=kW p;obtain⟨u,⟨J,_,z⟩,⟨I,_,A⟩⟩:=kW q;obtain⟨D,F⟩:=nK f;obtain⟨O,N⟩:=nK l;have C:=p.den_pos;have K:=q.den_pos;rw[s,v,z,A,t,u,dR,dR];have r:0<=(p.num.natAbs:Int)*(q.num.natAbs:Int):=γz (by omega) (by omega);have w:0<(p.den:Int)*(q.den:Int):=εI (by omega) (by omega);have H:=lM r (pc (by omega) f.1 l.1);have B:=lM (γi w) (pc (by omega) f.2 l.2);grind[fR,AI,MD]
def AG:NG:=⟨184,NH×NH,.cons (dg sF) (.one (dg sF)),λa=>(bP a.1/\bP a.2)/\TM a.2≠0,λa=> .IL [oa (TM a.1 / TM a.2),.si .i64 0]⟩
theorem zd:d' AG:=by
 refine bI (L:=[uZ,xO]) AG lk (by grind[rz,uK]) ?_;rintro⟨x,y⟩ ⟨⟨⟨p,i,v,f,X⟩,⟨q,j,u,m,Q⟩⟩,a⟩;simp only at v u a;subst v u;refine NI (let a:=Ω;let g:=(nf p).2.1;let d:=(nf q).2.2;let r:=(nf p).2.2;let e:=(nf q).2.1;let k:=bU (bX g*bX d);let c:=bU (bX r*bX e);let l:=nf (fe (!(nf p).1==(nf q).1) (bX k) (bX c));let b:=cj.i .u32;let t:=[γc .i64 0];let o:=nf (TM (nf p) / TM (nf q));((ou g/\ou d)/\γf g<=100000000000/\γf d<=100000000000)/\((ou r/\ou e)/\γf r<=100000000000/\γf e<=100000000000)/\((ou k/\ou c)/\(k.length<=1000000000/\c.length<=1000000000)/\(0:Int)<bX c)/\(SV.IL (γG [γA l.1,a b l.2.1,a b l.2.2]::t)).bi (SV.IL (γG [γA o.1,a b o.2.1,a b o.2.2]::t))) (by kernel_rfl) ?_;conv=>zeta
 rw[dR] at a;obtain⟨E,⟨C,_,M⟩,⟨K,_,I⟩⟩:=kW p;obtain⟨B,⟨z,_,J⟩,⟨F,_,A⟩⟩:=kW q;obtain⟨V,O⟩:=nK f;obtain⟨S,W⟩:=nK m;have T:=p.den_pos;have Z:=q.den_pos;have R:q.num≠0:=λh=>a (ζZ.1 h);rw[M,I,J,A,E,B,dR,dR];have s:0<=(p.num.natAbs:Int)*(q.den:Int):=γz (by omega) (by omega);have n:0<(p.den:Int)*(q.num.natAbs:Int):=εI (by omega) (by omega);have Y:=lM s (pc (by omega) f.1 m.2);have N:=lM (γi n) (pc (by omega) f.2 m.1);obtain⟨G,H,P⟩:=fR s;obtain⟨w,D,U⟩:=fR (γi n);rw[G,w,MC a];refine⟨⟨⟨C,F⟩,?_,?_⟩,⟨⟨K,z⟩,?_,?_⟩,⟨⟨H,D⟩,⟨?_,?_⟩,n⟩,rfl⟩<;>omega
def Fl:NG:=⟨169,List Int,.one (cP (.i .u32)),λa=>ou (show List Int from a)/\(show List Int from a).length<=1000000000,λa=> .sb (qN a)⟩
theorem I2:d' Fl:=by
 refine bI (L:=[pW]) Fl lk (by grind[lB]) ?_;rintro(a:List Int) h;refine NI (a.length<=1000000000000/\(γA (decide ((↑(MO a).length:Int)=(↑a.length:Int)))).bi (γA (qN a))) (by kernel_rfl) ?_;simp only[vcs];obtain⟨f,d⟩:ou a/\a.length<=1000000000:=h;refine⟨by omega,?_⟩;cases c:qN a with
 |true=>
  grind[pf,yU,rR];|false=>
  refine decide_eq_false λb=>?_;have e:MO a=a:=by unfold MO at b ⊢;rw[γx] at b;exact γr (by omega)
  grind[pV,rR]
def Fk:NG:=⟨170,NH,.one (dg sF),λx=>x.2.1.length<=1000000000,λx=> .agg [.sb x.1,.sb (decide (x.2.1=[]))]⟩
theorem I1:d' Fk:=by
 refine bI (L:=[]) Fk lk (by simp) ?_;rintro⟨s,n,d⟩ h;refine NI (let a:=γA;(γG [a s,a (decide ((↑n.length:Int)=(0:Int)))]).bi (γG [a s,a (decide (n=[]))])) (by kernel_rfl) ?_;have e:decide ((n.length:Int)=0)=decide (n=[]):=by simp_all
 rw[e];rfl
def rQ:NG:=⟨141,NH,.one (dg sF),λx=>(ou x.2.1/\ou x.2.2)/\x.2.1.length<=10000000/\x.2.2.length<=10000000,λx=> .sb (okF x)⟩
theorem n4:d' rQ:=by
 refine bI (L:=[Fl,Fk,Ac,uY,wT]) rQ lk (by grind[I2,I1,sV,rC,rA]) ?_;rintro⟨s,n,d⟩ ⟨⟨m,f⟩,j,k⟩;refine NI (let a:=δb false;let b:=(0:Int);let c:=(1:Int);let l:=γA (okF (s,n,d));let w:=decide ((↑d.length:Int)=b);let x:=s==true&&(decide (n=[])==true&&true);let p:=bU (dO (bX n) (bX d));let t:=bU c;(ou n/\n.length<=1000000000)/\((!qN n)=true->(a).bi l)/\((!qN n)=false->(ou d/\d.length<=1000000000)/\((!qN d)=true->(a).bi l)/\((!qN d)=false->(w=true->(a).bi l)/\(w=false->n.length<=1000000000/\(x=true->(a).bi l)/\(x=false->((ou n/\ou d)/\n.length<=1000000000/\d.length<=1000000000)/\(b<=c/\c<(18446744073709551616:Int))/\((ou p/\ou t)/\p.length<=1000000000000/\t.length<=1000000000000)/\(γA (decide (lg (bX p) (bX t)=b))).bi l))))) (by kernel_rfl) ?_;simp only[vcs];have m:ou n:=m;have f:ou d:=f;have j:n.length<=10000000:=j;have k:d.length<=10000000:=k;have c:¬(fu n/\fu d/\d≠[])->false=okF (s,n,d):=λh=>by grind[Vn]
 have e:∀{a:List Int},((a.length:Nat):Int)=0->a=[]:=λh=>ψ (by omega);have b:∀{a:List Int},¬((a.length:Nat):Int)=0->a≠[]:=λh i=>h (by rw[i];rfl);refine⟨⟨m,by omega⟩,λu=>c λh=>?_,λu=>⟨⟨f,by omega⟩,λi=>c λh=>?_,λi=>⟨λo=>c λh=>h.2.2 (e o),λo=>⟨by omega,λC=>?_,λC=>?_⟩⟩⟩⟩;·grind[rR]
 ·grind[rR]
 all_goals
  have E:=okF_eq (s:=s) m f (rR.1 u) (rR.1 i) (b o);have D:=Ew f (rR.1 i) (b o);have J:=@MF (bX n) (bX d) D;obtain⟨H,v,A⟩:=fR (show 0<=dO (bX n) (bX d) by omega);obtain⟨B,G,I⟩:=fR (show(0:Int)<=1 by omega);have y:dO (bX n) (bX d)<=bX d:=by unfold dO;have:=θr (bX n).toNat (show 0<(bX d).toNat by omega);omega
  rw[E]
 ·simp_all
 ·have F:=Ex v f A (by omega);refine⟨⟨⟨m,f⟩,by omega⟩,by omega,⟨⟨v,G⟩,by omega,by decide⟩,?_⟩;rw[H,B];have r:(lg (dO (bX n) (bX d)) 1=0)=(dO (bX n) (bX d)=1):=by grind[lg]
  simp only[r];by_cases g:n=[]
  ·rw[if_pos g];have z:s=false:=by simp_all
   have q:dO (bX n) (bX d)=bX d:=by rw[g];unfold dO;simp[bX];omega
   rw[q,z,Bool.not_false,Bool.true_and,decide_eq_decide];constructor
   ·intro h;rw[<-yU f (rR.1 i),h];rfl
   ·intro h;rw[h];rfl
  ·rw[if_neg g]
theorem rP {p q:Rat} {i j:Nat} (b:Sz i p) (a:Sz j q):Sz (i+j) (p*q):=by
 rw[<-MD];unfold fe;rw[ME];have c:=p.den_pos;have d:=q.den_pos;have e:0<(p.den:Int)*(q.den:Int):=εI (by omega) (by omega);refine xS (by omega) ?_ ?_
 ·rw[εz,Int.natCast_mul];exact pc (by omega) b.1 a.1
 ·rw[εJ (by omega)];exact pc (by omega) b.2 a.2
theorem Fj {p q:Rat} {i j:Nat} (c:Sz i p) (b:Sz j q) (d:q≠0):Sz (i+j) (p / q):=by
 rw[<-MC d];unfold fe;have e:=p.den_pos;have f:=q.den_pos;have l:q.num≠0:=λh=>d (ζZ.1 h);have k:0<(p.den:Int)*(q.num.natAbs:Int):=εI (by omega) (by omega);have g:=pc (a:=(p.num.natAbs:Int)) (by omega) c.1 b.2;refine xS (by omega) ?_ ?_;·grind
 ·rw[εJ (by omega)];exact pc (by omega) c.2 b.1
theorem Vl {p q:Rat}:0<iE p q↔q<p:=by grind[iE]
theorem Vk {p q:Rat}:iE p q=0↔p=q:=by grind[iE]
end Go.Vi
