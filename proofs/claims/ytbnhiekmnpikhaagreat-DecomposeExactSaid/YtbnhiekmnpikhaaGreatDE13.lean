import Derived.Test.YtbnhiekmnpikhaaGreatDE12
set_option maxRecDepth 100000
set_option maxHeartbeats 4000000
set_option linter.all false
open Bool renaming eq_false_iff->δN,false_eq_true->τ,and_eq_true->θ
open Classical renaming not_not->γe
open Go.Vi.SV renaming bl->δj,row->γa,sb->γB,si->γj,il->γC,ow->γ1,ptr->γV
open Int renaming toNat_natCast->γk,toNat->ζy,ofNat_lt->εW
open IntCast renaming intCast->κ
open List renaming range->ω,ext_getElem->γ9,replicate->δ,append_nil->γ0,count_pos_iff->δW,all_eq_true->ψ,mem_range->γD,length_take->γz,length_set->Ω,take_length->φ,take->Δ,length->γd,getElem_of_mem->γJ,length_append->γh
open Nat renaming le_refl->π,lt_of_lt_of_le->γl
open Option renaming isSome_eq_false_iff->γ8,isNone_iff_eq_none->γU,isSome_iff_exists->γs,getD_some->γ3
open Rat renaming add_zero->ζT,not_lt->ε1
namespace Go.Vi
open Go.Proofs.YtbnhiekmnpikhaaGreat.Ir
open Go.Proofs
def iD (n:cz):List Int:=if n.1=2 then[n.2.2.1,n.2.2.2.1] else[]
def p7 (n:cz):Bool:=if n.1=1 then oj n else if n.1=2 then q8 n else if n.1=3 then ug n else false
def fZ (t:List cz) (i:Nat):List Int:=(t.take i).flatMap iD
def j4 (n:Nat) (c:List Int):List Int:=(cA n).map λk=>(c.count k:Int)
def rf (n:Nat) (i:Int) (c:List Int):List Int->Bool
 |[]=>true
 |x::r=>decide (i<x/\x<n)&&decide (x∉c)&&rf n i (c++[x]) r
def jM (t:List cz) (i:Nat):Bool:=p7 (bN t i Ao.bu)&&rf t.length i (fZ t i) (iD (bN t i Ao.bu))
def dB (t:List cz):Bool:=decide (1<=t.length/\t.length<=65536)&&((ω t.length).all (jM t)&&(ω (t.length - 1)).all λk=>decide (((k:Int)+1)∈fZ t t.length))
theorem uv {n:Nat} {c:List Int}:(j4 n c).length=n:=by simp[j4,gR]
theorem uu {n j:Nat} {c:List Int} (h:j<n):bN (j4 n c) j 0=(c.count (j:Int):Nat):=by
 grind[j4,bW,cA]
theorem JI {n:Nat} {c:List Int} {x:Int} (l:0<=x) (g:x<n):(j4 n c).set x.toNat (bN (j4 n c) x.toNat 0+1)=j4 n (c++[x]):=by
 refine γ9 (by grind[uv]) λj h i=>?_;have a:j<n:=by grind[uv]
 have e:x.toNat<n:=by omega
 have b:=@uu n j (c++[x]) a;rw[bW (by omega)] at b;rw[b,List.getElem_set];have k:=@uu n x.toNat c e;by_cases f:x.toNat=j;·grind
 ·rw[if_neg f];have d:=@uu n j c a;rw[bW (by simp_all)] at d;grind
theorem Tz {n:Nat}:j4 n []=δ n 0:=by
 refine γ9 (by grind[uv]) λj b a=>?_;simp[j4]
theorem JH {t:List cz} {i:Int} (b:0<=i) (a:i<t.length):fZ t (i+1).toNat=fZ t i.toNat++iD (bN t i.toNat Ao.bu):=by
 grind[fZ,jj]
theorem Ty {t:List cz} {i:Nat} (h:i<t.length) (a:jM t i=false):dB t=false:=by
 grind[dB]
theorem Tx {t:List cz} {k:Nat} (h:k<t.length - 1) (a:((k:Int)+1)∉fZ t t.length):dB t=false:=by
 unfold dB;grind
def CO:NG:=⟨60,List cz,.one (cQ Ao),λt=>∀n∈(show List cz from t),∀x∈n.2.2.2.2,gJ x,λt=> .sb (dB t)⟩
def Tw (t:List cz):Nat->bK
 |5=> .inv Int (λi=>⟨[(0,.row Ao t),(3,.ow 0 t.length 1),(22,.row Ao t),(23,.si .i64 t.length),(24,.si .i64 i)],[.row (.i .i64) (j4 t.length (fZ t i.toNat)) 3 true]⟩) (λs=>iS s 24)
  (λi=>0<=i/\i<=t.length/\∀j:Nat,j<i->jM t j=true) (λi=>(t.length - i).toNat) λ_=>λ
   |11=> .apl 3
   |_=> .bz
 |19=> .inv Int (λi=>⟨[(66,.os 0 1 (t.length - 1) t.length 1),(67,.si .i64 (t.length - 1:Nat)),(68,.si .i64 i)],[.row (.i .i64) (j4 t.length (fZ t t.length)) 3 true]⟩) (λs=>iS s 68)
  (λi=>0<=i/\i<=(t.length - 1:Nat)/\∀j:Nat,j<i->((j:Int)+1)∈fZ t t.length) (λi=>((t.length - 1:Nat) - i).toNat) λ_ _=> .bz
 |_=> .bz
theorem HW:Holds Tryz.prog CO:=by
 refine bO (L:=[BP,D_,D9,D8,CS,CR,CQ,CP,r505]) CO Tw (by simpa using⟨yL,HS,HO,HL,HI,HU,HQ,HN,HK⟩) ?_;intro(t:List cz) ht;refine NI (let a:=(0:Int);let b:=δj false;let c:=(1:Int);let d:=γa;let e:=γB;let f:=VL .i64;let g:=γj .i64;let h:=iZ.row;let k:=(2:Int);let l:=γC .i64 0;let p:=(↑t.length:Int);let a9:=decide (p<c);let aa:=decide ((65536:Int)<p);let s:=γ1 0 t.length 1;let o:=(↑t.length:Int);let v:=g o;let C:=ew.i .i64;let E:=decide (p<=a);let R:=t.length - 1;let P:=SV.os 0 1 R t.length 1;let z:=(↑R:Int);let Q:=g z;let M:=j4 t.length (fZ t t.length);let S:=h C M 3 true;(a9=true->(b).as (e (dB t)))/\(a9=false->(aa=true->(b).as (e (dB t)))/\(aa=false->a<=p/\p<=p/\p*(8:Int)<=(140737488355328:Int)/\p<=(1000000000000:Int)/\((((d Ao t).as (d Ao t)/\(γ1 0 p.toNat 1).as s/\(d Ao t).as (d Ao t)/\(g p).as v/\(l).as (g 0)/\True)/\(h C (δ p.toNat a) 3 true).as (h C (j4 t.length (fZ t 0)) 3 true)/\True)/\a<=a/\a<=o/\∀(j:Nat),(↑j:Int)<a->jM t j=true)/\∀(x:Int),let F:=decide (a<=x);let G:=j4 t.length (fZ t x.toNat);let n:=G.length;let T:=bN G 0 a;let ab:=decide (a<T);let q:=G.set 0 (T+c);let U:=bN q 0 a;let ac:=decide (a<U);let r:=q.set 0 (U+c);let ad:=bN r 0 a;let ae:=decide (a<ad);let m:=x+c;let y:=g m;let N:=h C (j4 t.length (fZ t m.toNat)) 3 true;let V:=h C G 3 true;let w:=bN t x.toNat Ao.bu;let W:=[w.2.2.1,w.2.2.2.1];let D:=bN W 2 a;let A:=bN W 0 a;let X:=bN G A.toNat a;let H:=G.set A.toNat (X+c);let B:=bN W 1 a;let Y:=bN H B.toNat a;let O:=H.set B.toNat (Y+c);let af:=decide (w.1=c);let I:=(w.1,w.2.1,w.2.2.1,w.2.2.2.1,w.2.2.2.2);let ag:=decide (w.1=k);let ah:=decide (a<X);let ai:=decide (a<Y);let aj:=bN O D.toNat a;let ak:=decide (a<aj);let al:=decide (w.1=(3:Int));let Z:=let am:=λ(u:List Int) ↦false=false->f m/\(((d Ao t).as (d Ao t)/\s.as s/\(d Ao t).as (d Ao t)/\v.as v/\y.as y/\True)/\(h C u 3 true).as N/\True)/\(a<=m/\m<=o/\∀(j:Nat),(↑j:Int)<m->jM t j=true)/\(o - m).toNat<(o - x).toNat;True/\(false=true->a<=a/\a<a/\0<0/\(F=true->(b).as (e (dB t)))/\(F=false->(E=true->(b).as (e (dB t)))/\(E=false->t.length=n/\a<=a/\a<(↑n:Int)/\t.length=n/\0<n/\(ab=true->(b).as (e (dB t)))/\(ab=false->t.length=n/\a<=a/\a<(↑n:Int)/\t.length=n/\0<n/\f (T+c)/\t.length=n/\a<=a/\a<(↑n:Int)/\t.length=n/\0<n/\(false=true->a<=c/\c<a/\1<0/\(F=true->(b).as (e (dB t)))/\(F=false->(E=true->(b).as (e (dB t)))/\(E=false->t.length=q.length/\a<=a/\a<(↑q.length:Int)/\t.length=q.length/\0<q.length/\(ac=true->(b).as (e (dB t)))/\(ac=false->t.length=q.length/\a<=a/\a<(↑q.length:Int)/\t.length=q.length/\0<q.length/\f (U+c)/\t.length=q.length/\a<=a/\a<(↑q.length:Int)/\t.length=q.length/\0<q.length/\(false=true->a<=k/\k<a/\2<0/\(F=true->(b).as (e (dB t)))/\(F=false->(E=true->(b).as (e (dB t)))/\(E=false->t.length=r.length/\a<=a/\a<(↑r.length:Int)/\t.length=r.length/\0<r.length/\(ae=true->(b).as (e (dB t)))/\(ae=false->t.length=r.length/\a<=a/\a<(↑r.length:Int)/\t.length=r.length/\0<r.length/\f (ad+c)/\t.length=r.length/\a<=a/\a<(↑r.length:Int)/\t.length=r.length/\0<r.length/\False))))/\am r))))/\am q))))/\(false=false->f m/\(((d Ao t).as (d Ao t)/\s.as s/\(d Ao t).as (d Ao t)/\v.as v/\y.as y/\True)/\V.as N/\True)/\(a<=m/\m<=o/\∀(j:Nat),(↑j:Int)<m->jM t j=true)/\(o - m).toNat<(o - x).toNat);let a0:=D<(↑O.length:Int);let a1:=D.toNat<O.length;let J:=t.length=O.length;let a2:=B<(↑H.length:Int);let a3:=B.toNat<H.length;let K:=t.length=H.length;let a4:=A<(↑n:Int);let a5:=A.toNat<n;let a6:=a<=D;let a7:=a<=A;let a8:=a<=B;(a<=x/\x<=o/\∀(j:Nat),(↑j:Int)<x->jM t j=true)->(decide (x<o)=true->a<=x/\x<p/\x.toNat<t.length/\True/\(af=true->(∀(x:NH),x∈w.2.2.2.2->gJ x)/\((!wf1 I)=true->(b).as (e (dB t)))/\((!wf1 I)=false->Z))/\(af=false->(ag=true->True/\((!wf2 I)=true->(b).as (e (dB t)))/\((!wf2 I)=false->True/\(true=true->a<=a/\a<k/\0<2/\(decide (A<=x)=true->(b).as (e (dB t)))/\(decide (A<=x)=false->(decide (p<=A)=true->(b).as (e (dB t)))/\(decide (p<=A)=false->t.length=n/\a7/\a4/\t.length=n/\a5/\(ah=true->(b).as (e (dB t)))/\(ah=false->t.length=n/\a7/\a4/\t.length=n/\a5/\f (X+c)/\t.length=n/\a7/\a4/\t.length=n/\a5/\(true=true->a<=c/\c<k/\1<2/\(decide (B<=x)=true->(b).as (e (dB t)))/\(decide (B<=x)=false->(decide (p<=B)=true->(b).as (e (dB t)))/\(decide (p<=B)=false->K/\a8/\a2/\K/\a3/\(ai=true->(b).as (e (dB t)))/\(ai=false->K/\a8/\a2/\K/\a3/\f (Y+c)/\K/\a8/\a2/\K/\a3/\(false=true->a<=k/\k<k/\2<2/\(decide (D<=x)=true->(b).as (e (dB t)))/\(decide (D<=x)=false->(decide (p<=D)=true->(b).as (e (dB t)))/\(decide (p<=D)=false->J/\a6/\a0/\J/\a1/\(ak=true->(b).as (e (dB t)))/\(ak=false->J/\a6/\a0/\J/\a1/\f (aj+c)/\J/\a6/\a0/\J/\a1/\False))))/\(false=false->f m/\(((d Ao t).as (d Ao t)/\s.as s/\(d Ao t).as (d Ao t)/\v.as v/\y.as y/\True)/\(h C O 3 true).as N/\True)/\(a<=m/\m<=o/\∀(j:Nat),(↑j:Int)<m->jM t j=true)/\(o - m).toNat<(o - x).toNat)))))/\(true=false->f m/\(((d Ao t).as (d Ao t)/\s.as s/\(d Ao t).as (d Ao t)/\v.as v/\y.as y/\True)/\(h C H 3 true).as N/\True)/\(a<=m/\m<=o/\∀(j:Nat),(↑j:Int)<m->jM t j=true)/\(o - m).toNat<(o - x).toNat)))))/\(true=false->f m/\(((d Ao t).as (d Ao t)/\s.as s/\(d Ao t).as (d Ao t)/\v.as v/\y.as y/\True)/\V.as N/\True)/\(a<=m/\m<=o/\∀(j:Nat),(↑j:Int)<m->jM t j=true)/\(o - m).toNat<(o - x).toNat)))/\(ag=false->(al=true->True/\((!wf3 I)=true->(b).as (e (dB t)))/\((!wf3 I)=false->Z))/\(al=false->True/\(true=true->(b).as (e (dB t)))/\(true=false->Z)))))/\(decide (x<o)=false->t.length=n/\1<=t.length/\t.length<=t.length/\(((P.as P/\Q.as Q/\(l).as (g 0)/\True)/\V.as S/\True)/\a<=a/\a<=z/\∀(j:Nat),(↑j:Int)<a->(↑j:Int)+c∈fZ t t.length)/\∀(x:Int),let an:=decide (bN M (1+x.toNat) 0=a);let L:=x+c;let ao:=g L;(a<=x/\x<=z/\∀(j:Nat),(↑j:Int)<x->(↑j:Int)+c∈fZ t t.length)->(decide (x<z)=true->t.length=M.length/\a<=x/\x<z/\1+R<=t.length/\t.length=M.length/\1+x.toNat<M.length/\(an=true->(b).as (e (dB t)))/\(an=false->f L/\((P.as P/\Q.as Q/\ao.as ao/\True)/\S.as S/\True)/\(a<=L/\L<=z/\∀(j:Nat),(↑j:Int)<L->(↑j:Int)+c∈fZ t t.length)/\(z - L).toNat<(z - x).toNat))/\(decide (x<z)=false->(δj true).as (e (dB t))))))) (by kernel_rfl) ?_;simp only[vcs];refine⟨λh=>?_,λh1=>⟨λh=>?_,λh2=>?_⟩⟩
 ·have:¬(1<=t.length/\t.length<=65536):=by omega
  simp[dB,this]
 ·have:¬(1<=t.length/\t.length<=65536):=by omega
  simp[dB,this]
 have hrow:∀{x y:List Int},x=y->(iZ.row (.i .i64) x 3 true).as (iZ.row (.i .i64) y 3 true):=by rintro _ _ rfl;rfl
 have how:∀{x y:Nat},x=y->(γ1 0 x 1).as (γ1 0 y 1):=by rintro _ _ rfl;rfl
 refine⟨by omega,by omega,by omega,by omega,⟨⟨how (by omega),hrow ?_⟩,by omega,by omega,λj hj=>by omega⟩,?_⟩;·rw[show fZ t 0=[] from rfl,Tz];simp
 rintro i ⟨i0,i1,hi⟩;refine⟨λhlt=>?_,λhge=>?_⟩
 ·have hil:i.toNat<t.length:=by omega
  have hm:=ht _ (cB (d:=Ao.bu) hil);have hs:=JH i0 hlt;have hg:jM t i.toNat=(p7 (bN t i.toNat Ao.bu)&&rf t.length i (fZ t i.toNat) (iD (bN t i.toNat Ao.bu))):=by
   unfold jM;rw[show((i.toNat:Nat):Int)=i by omega]
  generalize bN t i.toNat Ao.bu=N at*;obtain⟨k,o,a,b,y⟩:=N;generalize hc:fZ t i.toNat=c at*;have no:jM t i.toNat=false->false=dB t:=λh=>(Ty hil h).symm;have fin:jM t i.toNat=true->(∀j:Nat,(j:Int)<i+1->jM t j=true):=λh j hj=>by
   by_cases h2:(j:Int)<i;·exact hi j h2
   ·rw[show j=i.toNat by omega];exact h
  have hl:=@uv t.length c;have w1:k=1->p7 (k,o,a,b,y)=oj (k,o,a,b,y):=λh=>if_pos h;have w2:¬k=1->k=2->p7 (k,o,a,b,y)=q8 (k,o,a,b,y):=λh h'=>(if_neg h).trans (if_pos h');have w3:¬k=1->¬k=2->k=3->p7 (k,o,a,b,y)=ug (k,o,a,b,y):=λh h' h''=>(if_neg h).trans ((if_neg h').trans (if_pos h''));have w4:¬k=1->¬k=2->¬k=3->p7 (k,o,a,b,y)=false:=λh h' h''=>(if_neg h).trans ((if_neg h').trans (if_neg h''));have kd1:¬k=2->iD (k,o,a,b,y)=[]:=λh=>if_neg h;have kd2:k=2->iD (k,o,a,b,y)=[a,b]:=λh=>if_pos h;have ea:bN [a,b] 0 0=a:=rfl;have eb:bN [a,b] 1 0=b:=rfl;dsimp only;simp only[ea,eb];refine⟨i0,hlt,hil,λh1=>⟨hm,λhw=>no ?_,λhw=>⟨λh=>(by cases h),λ_=>⟨⟨by omega,by omega⟩,hrow ?_,⟨by omega,by omega,fin ?_⟩,by omega⟩⟩⟩,λh1=>⟨λh2=>?_,λh2=>⟨λh3=>⟨λhw=>no ?_,λhw=>⟨λh=>(by cases h),λ_=>⟨⟨by omega,by omega⟩,hrow ?_,⟨by omega,by omega,fin ?_⟩,by omega⟩⟩⟩,λh3=>⟨λ_=>no ?_,λh=>(by cases h)⟩⟩⟩⟩;·rw[hg,w1 h1,hw];rfl
  ·rw[hs,kd1 (by omega),γ0]
  ·rw[hg,w1 h1,kd1 (by omega),hw];rfl
  ·have hg2:jM t i.toNat=(q8 (k,o,a,b,y)&&(decide (i<a/\a<t.length)&&decide (a∉c)&&(decide (i<b/\b<t.length)&&decide (b∉c++[a])&&true))):=by rw[hg,w2 h1 h2,kd2 h2];rfl
   rw[kd2 h2] at hs;refine⟨λhw=>no ?_,λhw=>⟨λ_=>⟨by omega,by omega,by omega,λha=>no ?_,λha=>⟨λhb=>no ?_,λhb=>?_⟩⟩,λh=>(by cases h)⟩⟩;·rw[hg2,hw];rfl
   ·rw[hg2,decide_eq_false (p:=i<a/\a<t.length) (by omega)];simp
   ·rw[hg2,decide_eq_false (p:=i<a/\a<t.length) (by omega)];simp
   have hat:a.toNat<t.length:=by omega
   have ca:=@uu t.length a.toNat c hat;rw[show((a.toNat:Nat):Int)=a by omega] at ca;have pa:=@JI t.length c a (by omega) (by omega);have la:0<=a/\a<(j4 t.length c).length:=by rw[hl];omega
   have la2:a.toNat<(j4 t.length c).length:=by rw[hl];exact hat
   refine⟨hl.symm,la.1,la.2,hl.symm,la2,λhc1=>no ?_,λhc1=>⟨hl.symm,la.1,la.2,hl.symm,la2,⟨by omega,by omega⟩,hl.symm,la.1,la.2,hl.symm,la2,λ_=>?_,λh=>(by cases h)⟩⟩
   ·have:a∈c:=δW.1 (by omega);rw[hg2,decide_eq_false (p:=a∉c) (by simpa using this)];simp
   have hac:a∉c:=λh=>by have:=δW.2 h;omega
   simp only[pa];have hl2:=@uv t.length (c++[a]);refine⟨by omega,by omega,by omega,λhb1=>no ?_,λhb1=>⟨λhb2=>no ?_,λhb2=>?_⟩⟩;·rw[hg2,decide_eq_false (p:=i<b/\b<t.length) (by omega)];simp
   ·rw[hg2,decide_eq_false (p:=i<b/\b<t.length) (by omega)];simp
   have hbt:b.toNat<t.length:=by omega
   have cb:=@uu t.length b.toNat (c++[a]) hbt;rw[show((b.toNat:Nat):Int)=b by omega] at cb;have pb:=@JI t.length (c++[a]) b (by omega) (by omega);have lb:0<=b/\b<(j4 t.length (c++[a])).length:=by rw[hl2];omega
   have lb2:b.toNat<(j4 t.length (c++[a])).length:=by rw[hl2];exact hbt
   refine⟨hl2.symm,lb.1,lb.2,hl2.symm,lb2,λhc2=>no ?_,λhc2=>⟨hl2.symm,lb.1,lb.2,hl2.symm,lb2,⟨by omega,by omega⟩,hl2.symm,lb.1,lb.2,hl2.symm,lb2,λh=>(by cases h),λ_=>⟨⟨by omega,by omega⟩,hrow ?_,⟨by omega,by omega,fin ?_⟩,by omega⟩⟩⟩
   ·have:b∈c++[a]:=δW.1 (by omega);rw[hg2,decide_eq_false (p:=b∉c++[a]) λh=>h this];simp
   ·rw[pb,hs,List.append_assoc];rfl
   ·have hbc:b∉c++[a]:=λh=>by have:=δW.2 h;omega
    rw[hg2,hw,decide_eq_true (p:=i<a/\a<t.length) (by omega),decide_eq_true (p:=i<b/\b<t.length) (by omega),decide_eq_true hac,decide_eq_true hbc];rfl
  ·rw[hg,w3 h1 h2 h3,hw];rfl
  ·rw[hs,kd1 h2,γ0]
  ·rw[hg,w3 h1 h2 h3,kd1 h2,hw];rfl
  ·rw[hg,w4 h1 h2 h3];rfl
 ·rw[show i.toNat=t.length by omega];have hl:=@uv t.length (fZ t t.length);refine⟨hl.symm,by omega,by omega,⟨hrow rfl,by omega,by omega,λj hj=>by omega⟩,?_⟩;rintro x ⟨x0,x1,hx⟩;refine⟨λhlt=>?_,λayY=>?_⟩
  ·have cx:=@uu t.length (1+x.toNat) (fZ t t.length) (by omega);rw[show(((1+x.toNat:Nat)):Int)=(x.toNat:Int)+1 by omega] at cx;refine⟨hl.symm,x0,hlt,by omega,hl.symm,by rw[hl];omega,λh=>?_,λh=>⟨⟨by omega,by omega⟩,⟨by omega,by omega,λj hj=>?_⟩,by omega⟩⟩;·exact(Tx (k:=x.toNat) (by omega) λhm=>by have:=δW.2 hm;omega).symm
   ·by_cases hj2:(j:Int)<x;·exact hx j hj2
    ·rw[show j=x.toNat by omega];exact δW.1 (by omega)
  ·symm;unfold dB;rw[decide_eq_true (by omega),ψ.2 λk hk=>hi k (by have:=γD.1 hk;omega),ψ.2 λk hk=>decide_eq_true (hx k (by have:=γD.1 hk;omega))];rfl
theorem ph {W:Int} (a: -9223372036854775808<=W) (b:W<=9223372036854775807):Sz 2 (W:Rat):=by
 unfold Sz;simp;omega
def gY (p:cj) (y:List Rat) (r:Nat) (i:Int):Rat:=((oI p i).value:Rat) - Ov r λk=>bN y k 0*((dA p k (oI p i):Int):Rat)
def jJ (p:cj) (f:List Int) (y:List Rat) (r:Nat):Rat:=((fN p f:Int):Rat)+Ov r λk=>bN y k 0*((cD p k - b_ p ((zi f 1).map (oI p)) k:Int):Rat)
def lh (p:cj) (f:List Int) (r:Int) (k:Nat):Int:=cD p r - b_ p ((zi (f.take k) 1).map (oI p)) r
theorem R_ {a:Type} {n j:Nat} (g:Int->a) (d:a) (h:j<n):bN ((cA n).map g) j d=g j:=by
 grind[bW,cA]
theorem CN {c:Type} {a b:List c} (d:c) (e:a.length=b.length) (h:∀j,j<a.length->bN a j d=bN b j d):a=b:=by
 refine γ9 e λj f g=>?_;grind[bW]
theorem R9 {p:cj} {f:List Int} {y:List Rat}:jJ p f y 0=((fN p f:Int):Rat):=by
 grind[jJ,Ov]
theorem JG {p:cj} {f:List Int} {y:List Rat} {r:Nat}:jJ p f y (r+1)=jJ p f y r+bN y r 0*((cD p r - b_ p ((zi f 1).map (oI p)) r:Int):Rat):=by
 grind[jJ,Ov]
theorem CM {p:cj} {y:List Rat} {r:Nat} {i:Int}:gY p y (r+1) i=gY p y r i - bN y r 0*((dA p r (oI p i):Int):Rat):=by
 grind[gY,Ov]
theorem JF {p:cj} {r:Int}:(gz p r p.bi.length).length=p.bi.length:=by grind[gz]
theorem R8 {p:cj} {r i:Int} (h:0<=i/\i<p.bi.length):bN (gz p r p.bi.length) i.toNat 0=dA p r (oI p i):=by
 grind[gz,bW,oI]
theorem R7 {p:cj} {f:List Int} {r:Int}:lh p f r 0=cD p r:=by
 simp_all[lh,zi,cA,b_]
theorem R6 {p:cj} {f:List Int} {r k:Int} (a:0<=k) (h:k<f.length):lh p f r (k+1).toNat=lh p f r k.toNat - if bN f k.toNat 0=1 then dA p r (oI p k) else 0:=by
 grind[lh,wR,b_]
theorem JE {p:cj} {f:List Int} {r:Int}:lh p f r f.length=cD p r - b_ p ((zi f 1).map (oI p)) r:=by
 grind[lh]
theorem JD {p:cj} {f:List Int} {r:Int} {k:Nat} (a:nW p=0) (j:f.length=p.bi.length): -640<=lh p f r k/\lh p f r k<=4:=by
 have g:=@ye p a r;have b:=@qu p r ((zi (f.take k) 1).map (oI p)) λx d=>by
  obtain⟨i,e,rfl⟩:=List.mem_map.1 d;have:=(jP.1 e).1;rw[γz] at this;exact(jt a (i:=i) (by omega)).2.2.1
 have c:=@rh (f.take k) 1;rw[List.length_map] at b;rw[γz] at c;have h:=(cN a).2.1;grind[lh]
section
variable {p:cj} {f:List Int}
theorem R5 (h:dY p f) {i:Int} (c:0<=i/\i<f.length) (d:bN f i.toNat 0=0):gY p (gw p f) (mF p) i<=0:=by
 have a:i∈zi f 0:=jP.2 ⟨c,d⟩;have b:(zi f 0).idxOf i<nF f:=List.idxOf_lt_length_of_mem a;have g:=S3 h b;have e:bN (zi f 0) ((zi f 0).idxOf i) 0=i:=by grind[bW]
 grind[wU,cZ,vX,gY]
theorem R4 (h:dY p f):jJ p f (gw p f) (mF p)=hJ p f:=by
 grind[jJ,hJ,KW,cZ,vW]
end
def mu (p:cj) (f:List Int) (y:List Rat) (r k:Nat) (i:Int):Rat:=if bN f i.toNat 0=0 then gY p y (if i<(k:Int) then r+1 else r) i else(((oI p i).value:Int):Rat)
def fX (p:cj) (f:List Int) (y:List Rat) (r k:Nat):List NH:=(cA p.bi.length).map λ(i:Int)=>nf (mu p f y r k i)
def gX (p:cj) (f:List Int) (y:List Rat) (i:Nat):Rat:=jJ p f y (mF p)+Ov i λk=>if bN f k 0=0/\0<gY p y (mF p) k then gY p y (mF p) k else 0
def px (n:Nat) (K:Nat->Nat):Nat:=match n with
 |0=>0
 |n+1=>px n K+K n
def ui (p:cj) (y:List Rat):Prop:=∃K:Nat->Nat,(∀k,k<mF p->Sz (K k) (bN y k 0))/\px (mF p) K<=9000000
def sy (p:cj) (f:List Int) (x:List NH):Prop:=(nW p=0/\f.length=p.bi.length/\iP f=true)/\∃y,x=fL y/\y.length=mF p/\ui p y
def dj (x:List NH):Bool:=x.all λe=>!e.1
theorem ur {p:cj} {f:List Int} {y:List Rat} {r k:Nat}:(fX p f y r k).length=p.bi.length:=by grind[fX,gR]
theorem uq {p:cj} {f:List Int} {y:List Rat} {r k j:Nat} (h:j<p.bi.length) {d:NH}:bN (fX p f y r k) j d=nf (mu p f y r k j):=R_ _ _ h
theorem CL {p:cj} {f:List Int} {y:List Rat} {r k a b:Nat} (h:∀j:Nat,j<p.bi.length->mu p f y r k j=mu p f y a b j):fX p f y r k=fX p f y a b:=by
 refine CN (false,([],[])) (by grind[ur]) λj c=>?_;grind[ur,uq]
theorem R3 {p:cj} {f:List Int} {y:List Rat} {i:Int} (a:0<=i):mu p f y 0 0 i=(((oI p i).value:Int):Rat):=by
 unfold mu;rw[if_neg (show ¬i<((0:Nat):Int) by omega)];grind[gY,Ov]
theorem R1 {p:cj} {f:List Int} {y:List Rat} {r:Nat}:fX p f y r p.bi.length=fX p f y (r+1) 0:=CL λj a=>by
 simp_all[mu,if_neg]
theorem CK {p:cj} {f:List Int} {y:List Rat} {r:Nat} {k:Int} (c:0<=k) (h:bN f k.toNat 0≠0\/dA p r (oI p k)=0\/bN y r 0=0):fX p f y r k.toNat=fX p f y r (k+1).toNat:=CL λj a=>by
 unfold mu;by_cases a:(j:Int)=k
 ·rw[if_neg (show ¬(j:Int)<((k.toNat:Nat):Int) by omega),if_pos (show(j:Int)<(((k+1).toNat:Nat):Int) by omega),a];split
  ·rename_i b;rw[CM];rcases h with h|h|h;·omega
   ·rw[h];grind
   ·rw[h];grind
  ·rfl
 grind
theorem R0 {p:cj} {f:List Int} {y:List Rat} {r:Nat} (h:bN y r 0=0):fX p f y r 0=fX p f y (r+1) 0:=CL λj a=>by
 unfold mu;rw[if_neg (show ¬(j:Int)<((0:Nat):Int) by omega),if_neg (show ¬(j:Int)<((0:Nat):Int) by omega),CM,h];split<;>grind
theorem RZ {p:cj} {f:List Int} {y:List Rat} {r:Nat} {k:Int} (c:0<=k) (h:k<p.bi.length) (b:bN f k.toNat 0=0):(fX p f y r k.toNat).set k.toNat (nf (gY p y (r+1) k))=fX p f y r (k+1).toNat:=by
 refine CN (false,([],[])) (by grind[ur]) λj a=>?_;rw[Ω,ur] at a;rw[gN (by grind[ur]),uq a,uq a];unfold mu;grind
theorem RY {p:cj} {f:List Int} {y:List Rat} {r:Nat} {k:Int} (b:0<=k) (a:bN f k.toNat 0=0):mu p f y r k.toNat k=gY p y r k:=by
 unfold mu;grind
theorem RX {p:cj} {f:List Int} {y:List Rat} {r:Nat} (h:bN y r 0=0):jJ p f y r=jJ p f y (r+1):=by
 grind[JG]
theorem JC {p:cj} {f:List Int} {y:List Rat}:gX p f y 0=jJ p f y (mF p):=by
 grind[gX,Ov]
theorem JB {p:cj} {f:List Int} {y:List Rat} {i:Int} (a:0<=i):gX p f y (i+1).toNat=gX p f y i.toNat+if bN f i.toNat 0=0/\0<gY p y (mF p) i then gY p y (mF p) i else 0:=by
 rw[show(i+1).toNat=i.toNat+1 by omega];grind[gX,Ov]
section
variable {p:cj} {f:List Int} {y:List Rat}
theorem JA {K:Nat->Nat}:∀{n k:Nat},k<n->K k<=px n K
 |0,_,h=>by omega;|n+1,k,h=>by
  simp only[px];by_cases e:k=n;·rw[e];omega
  ·have:=@JA K n k (by omega);omega
theorem Jz {g:Nat->Rat} {K:Nat->Nat} {c:Nat}:∀{n:Nat},(∀k,k<n->Sz (K k+c) (g k))->Sz (px n K+n*(c+1)+1) (Ov n g)
 |0,_=>by
  simp only[Ov];exact(show Sz 1 0 by simp_all[Sz]).mono (by omega);|n+1,h=>by
  simp only[Ov,px];have a:Sz (px n K+n*(c+1)+1) (Ov n g):=Jz λk b=>h k (by omega);exact(wZ a (h n (by omega))).mono (by grind)
theorem Jy (h:ui p y) {k:Nat} (a:k<mF p):Sz 9000000 (bN y k 0):=by
 obtain⟨K,b,c⟩:=h;exact(b k a).mono (by have:=@JA K _ _ a;omega)
def oi (y:List Rat) (m:Nat) (C:Int) (q:Rat):Prop:=∃(c:Int) (z:Nat->Int),(-C<=c/\c<=C)/\(∀r,r<m-> -C<=z r/\z r<=C)/\q=(c:Rat)+Ov m λr=>bN y r 0*((z r:Int):Rat)
theorem RW {m:Nat} {C D:Int} {q b:Rat} (h:oi y m C q) (j:oi y m D b):oi y m (C+D) (q+b):=by
 obtain⟨c,z,l,o,n⟩:=h;obtain⟨f,a,g,d,i⟩:=j;refine⟨c+f,λr=>z r+a r,by omega,λr k=>?_,?_⟩;·grind
 ·have e:(Ov m λr=>bN y r 0*(((z r+a r:Int)):Rat))=(Ov m λr=>bN y r 0*((z r:Int):Rat))+Ov m λr=>bN y r 0*((a r:Int):Rat):=by
   simp_all[vC,Rat.mul_add]
  grind
theorem RV {m:Nat} {C D:Int} {q:Rat} (h:oi y m C q) (f:C<=D):oi y m D q:=by
 obtain⟨c,z,b,e,a⟩:=h;exact⟨c,z,by omega,λr d=>by grind,a⟩
theorem RU {m:Nat} {C:Int} (a:0<=C):oi y m C 0:=⟨0,λ_=>0,by omega,λ_ _=>⟨by simp_all,a⟩,by
 simp_all[gP,ζT]⟩
theorem CJ {C:Int} {q:Rat} (h:oi y (mF p) C q) (g:C<=9223372036854775807) (b:ui p y) (j:mF p<=20):Sz 9000100 q:=by
 obtain⟨c,z,k,f,rfl⟩:=h;obtain⟨K,i,d⟩:=b;have a:Sz (px (mF p) K+mF p*3+1) (Ov (mF p) λr=>bN y r 0*((z r:Int):Rat)):=Jz (c:=2) λr e=>by
  grind[sf,ph]
 refine(wZ (ph (W:=c) (by omega) (by omega)) a).mono ?_;omega
theorem Jx {g:Nat->Rat} {r:Nat}:∀{m:Nat},r<=m->(Ov m λk=>if k<r then g k else 0)=Ov r g
 |0,h=>by rw[show r=0 by omega];rfl;|m+1,h=>by
  by_cases e:r=m+1;·simp_all[cZ]
  ·simp only[Ov];rw[if_neg (by omega),ζT];exact Jx (by omega)
theorem Jw {r m:Nat} (a:r<=m) {C c:Int} {z:Nat->Int} (b: -C<=c/\c<=C) (e:∀k,k<r-> -C<=z k/\z k<=C):oi y m C ((c:Rat)+Ov r λk=>bN y k 0*((z k:Int):Rat)):=by
 refine⟨c,λk=>if k<r then z k else 0,b,λk d=>?_,?_⟩;·grind
 ·rw[<-Jx a];congr 1;refine cZ λk _=>?_;show _=bN y k 0*(((if k<r then z k else 0:Int)):Rat);split<;>simp_all
theorem Jv (d:nW p=0) {r:Nat} (a:r<=mF p) {i:Int} (c:0<=i/\i<p.bi.length):oi y (mF p) 1000000 (gY p y r i):=by
 have b:=jt d c;have h:=@Jw y r (mF p) a 1000000 (oI p i).value (λk=> -dA p k (oI p i)) (by omega) λk _=>by
  have:=@nP p k _ b.2.2.1;omega
 have e:gY p y r i=(((oI p i).value:Int):Rat)+Ov r λk=>bN y k 0*(((-dA p k (oI p i):Int)):Rat):=by
  unfold gY;rw[Rat.sub_eq_add_neg];congr 1;rw[show(-(Ov r λk=>bN y k 0*((dA p k (oI p i):Int):Rat)))=(-1)*(Ov r λk=>bN y k 0*((dA p k (oI p i):Int):Rat)) by grind,<-sO];grind
 simp_all
theorem Ju (b:nW p=0) (a:f.length=p.bi.length) {r:Nat} (d:r<=mF p):oi y (mF p) 1000000000 (jJ p f y r):=by
 have c:=@wQ p b f f.length a;rw[φ] at c;unfold jJ;refine Jw d (by omega) λk _=>?_;have e:=@JD p f k f.length b a;grind[JE]
theorem Jt (e:nW p=0) (c:f.length=p.bi.length):∀{i:Nat},i<=f.length->oi y (mF p) (1000000000+1000000*i) (gX p f y i)
 |0,_=>by grind[JC,Ju];|i+1,h=>by
  have a:=@JB p f y i (by omega);rw[show((i:Int)+1).toNat=i+1 by omega,γk] at a;rw[a];have b:=Jt e c (i:=i) (by omega);have d:oi y (mF p) 1000000 (if bN f i 0=0/\0<gY p y (mF p) i then gY p y (mF p) i else 0):=by
   grind[Jv,RU]
  exact RV (RW b d) (by omega)
theorem BN (a:nW p=0):mF p<=20:=by have:=(cN a).1;grind
theorem Js (a:nW p=0) (d:ui p y) {r:Nat} (b:r<=mF p) {i:Int} (c:0<=i/\i<p.bi.length):Sz 9000100 (gY p y r i):=CJ (Jv a b c) (by omega) d (BN a)
theorem RT (a:nW p=0) (c:f.length=p.bi.length) (d:ui p y) {r:Nat} (b:r<=mF p):Sz 9000100 (jJ p f y r):=CJ (Ju a c b) (by omega) d (BN a)
theorem Jr (a:nW p=0) (c:f.length=p.bi.length) (b:ui p y) {i:Nat} (d:i<=f.length):Sz 9000100 (gX p f y i):=CJ (Jt a c d) (by have:=(cN a).2.1;omega) b (BN a)
end
def RS (f:FuncId) {c:Type} (A:oC c) (e:c->Prop) (d:c->SV):cW where
 f:=f;α:=c;put:=A.put;st _:=[];dec v o:=match o with
  |[]=>A.dec v
  |_=>none;ok v o a h:=by
  split at h;·exact⟨A.ok _ _ h,rfl⟩
  ·cases h
 inj a b h _:=A.inj _ _ h;dom:=e;res:=d;out _:=[]
def CI:cW:=RS 135 (.cons cX (.one (cQ (.i .i64)))) (λ(a:cj×List Int)=>nW a.1=0/\a.2.length=a.1.bi.length) λa=>nI (κ (fN a.1 a.2))
def RR (p:cj) (f:List Int):Nat->bK
 |3=> .inv Int (λi=>⟨[(2,.ptr 0 0 20),(4,.ptr 1 0 3),(5,.si .i64 (fN p (f.take i.toNat))),(8,.row (.i .i64) f),(9,.si .i64 f.length),(10,.si .i64 i)],[.cells p.ss 27 20 false,.cells [.bl false,.sc (.slice none 0 0),.sc (.slice none 0 0)] 177 3 false]⟩)
   (λs=>iS s 10) (λi=>0<=i/\i<=f.length) (λi=>(f.length - i).toNat) λ_ _=> .bz
 |_=> .bz
theorem y5:dD Tryz.prog CI:=by
 refine wM (L:=[mn]) (W:=[]) CI (λa=>RR a.1 a.2) (by simp) (by simpa using nH) ?_;rintro⟨p,f⟩ ⟨hc,hl⟩;simp only at hc hl;refine NI (let a:=γj .i64;let b:=(0:Int);let c:=γa;let h:=γV 0 0 20;let j:=γV 1 0 3;let s:=γC .i64 0;let k:=c (ew.i .i64) f;let d:=(↑f.length:Int);let o:=a d;let l:=iZ.cells (cj.ss p) 27 20 false;let t:=SV.sc (Value.slice none 0 0);let m:=iZ.cells [δj false,t,t] 177 3 false;let n:=ew.i .u32;let q:=nf (κ (fN p f));(((h.as h/\j.as j/\s.as (a (fN p []))/\k.as k/\(a (↑f.length:Int)).as o/\s.as (a 0)/\True)/\l.as l/\m.as m/\True)/\b<=b/\b<=d)/\∀(x:Int),let e:=x+(1:Int);let v:=a e;let w:=decide (bN f x.toNat b=(1:Int));let g:=fN p (Δ x.toNat f);let y:=g+(bN p.bi x.toNat ew.bt.bu).value;let r:=nf (κ g);let z:=λ(u:Int) ↦VL .i64 e/\((h.as h/\j.as j/\(a u).as (a (fN p (Δ e.toNat f)))/\k.as k/\o.as o/\v.as v/\True)/\l.as l/\m.as m/\True)/\(b<=e/\e<=d)/\(d - e).toNat<(d - x).toNat;b<=x/\x<=d->(decide (x<d)=true->b<=x/\x<(↑f.length:Int)/\x.toNat<f.length/\(w=true->b<=x/\x<(↑p.bi.length:Int)/\x.toNat<p.bi.length/\VL .i64 y/\z y)/\(w=false->z g))/\(decide (x<d)=false->((-9223372036854775808:Int)<=g/\g<=(9223372036854775807:Int))/\(SV.agg [γB r.1,c n r.2.1,c n r.2.2]).as (SV.agg [γB q.1,c n q.2.1,c n q.2.2])/\True)) (by kernel_rfl) ?_;simp only[vcs];have h160:=(cN hc).2.1;refine⟨⟨by simp[fN,zi,cA,bG],by omega,by omega⟩,?_⟩;rintro i ⟨i0,i1⟩;have hb:=@wQ p hc f i.toNat hl;refine⟨λhi=>?_,λhi=>?_⟩
 ·have hs:=@Kr p f i i0 hi;have ho:=jt hc (i:=i) ⟨i0,by omega⟩;have hv:(bN p.bi i.toNat ew.bt.bu).value=(oI p i).value:=rfl;rw[hv];refine⟨i0,hi,by omega,λh1=>?_,λh1=>?_⟩
  ·rw[if_pos h1] at hs;refine⟨i0,?_,?_,?_,?_,?_,?_,?_⟩<;>omega
  ·rw[if_neg h1] at hs;refine⟨?_,?_,?_,?_⟩<;>omega
 ·rw[show f.take i.toNat=f by rw[show i.toNat=f.length by omega,φ]] at hb ⊢;exact⟨by omega,rfl⟩
def Qt (p:cj) (f:List Int) (x:List NH):SV:=.agg [.sb (if dj x=true then(nf (gX p f (vL x) f.length)).1 else false),.row (.i .u32) (if dj x=true then(nf (gX p f (vL x) f.length)).2.1 else[]),.row (.i .u32) (if dj x=true then(nf (gX p f (vL x) f.length)).2.2 else[])]
def CH:NG:=⟨210,cj×List Int×List NH,.cons cX (.cons (cQ (.i .i64)) (.one (cQ sF))),λa=>sy a.1 a.2.1 a.2.2,λa=> .Gz [Qt a.1 a.2.1 a.2.2,.si .i64 (if dj a.2.2=true then 0 else 4)]⟩
def BM (p:cj) (q:Rat) (ex:List NH):TP:=[.cells p.ss 27 20 false,.cells [.bl false,.sc (.slice none 0 0),.sc (.slice none 0 0)] 177 3 false,.cells [.sb (nf q).1,.row (.i .u32) (nf q).2.1,.row (.i .u32) (nf q).2.2] 177 3 false,.row sF ex 177 true]
noncomputable def RP (p:cj) (f:List Int) (x:List NH):Nat->bK
 |7=> .inv Int (λi=>⟨[(1,.row (.i .i64) f),(2,.row sF x),(3,.ptr 0 0 20),(6,.ptr 1 0 3),(35,.row sF x),(36,.si .i64 x.length),(37,.si .i64 i)],[.cells p.ss 27 20 false,.cells [.bl false,.sc (.slice none 0 0),.sc (.slice none 0 0)] 177 3 false]⟩)
   (λs=>iS s 37) (λi=>0<=i/\i<=x.length/\dj (x.take i.toNat)=true) (λi=>(x.length - i).toNat) λ_ _=> .bz
 |17=> .inv Int (λi=>⟨[(1,.row (.i .i64) f),(2,.row sF x),(3,.ptr 0 0 20),(6,.ptr 1 0 3),(11,.ptr 2 0 3),(12,.ow 3 f.length 3),(57,.si .i64 f.length),(58,.si .i64 i)],BM p (κ (fN p f)) (dW (fX p f (vL x) 0 0) i.toNat (false,([],[])))⟩)
   (λs=>iS s 58) (λi=>0<=i/\i<=f.length) (λi=>(f.length - i).toNat) λ_ _=> .bz
 |22=> .inv Int (λr=>⟨[(1,.row (.i .i64) f),(3,.ptr 0 0 20),(6,.ptr 1 0 3),(11,.ptr 2 0 3),(12,.ow 3 f.length 3),(72,.row sF x),(73,.si .i64 x.length),(74,.si .i64 r)],BM p (jJ p f (vL x) r.toNat) (fX p f (vL x) r.toNat 0)⟩)
   (λs=>iS s 74) (λr=>0<=r/\r<=x.length) (λr=>(x.length - r).toNat) λr k=>match k with
   |27=> .inv Int (λk=>⟨[(1,.row (.i .i64) f),(3,.ptr 0 0 20),(6,.ptr 1 0 3),(11,.ptr 2 0 3),(12,.ow 3 f.length 3),(15,.ptr 4 0 3),(17,.si .i64 (lh p f r k.toNat)),(72,.row sF x),(73,.si .i64 x.length),(74,.si .i64 r),(88,.row (.i .i64) (gz p r p.bi.length)),(89,.si .i64 f.length),(90,.si .i64 k)],
      BM p (jJ p f (vL x) r.toNat) (fX p f (vL x) r.toNat k.toNat)++[.cells [.sb (bN x r.toNat sF.bu).1,.row (.i .u32) (bN x r.toNat sF.bu).2.1,.row (.i .u32) (bN x r.toNat sF.bu).2.2] 177 3 false]⟩)
     (λs=>iS s 90) (λk=>0<=k/\k<=f.length) (λk=>(f.length - k).toNat) λ_ _=> .bz
   |_=> .bz
 |38=> .inv Int (λi=>⟨[(6,.ptr 1 0 3),(11,.ptr 2 0 3),(12,.ow 3 f.length 3),(133,.row (.i .i64) f),(134,.si .i64 f.length),(135,.si .i64 i)],BM p (gX p f (vL x) i.toNat) (fX p f (vL x) (mF p) 0)⟩)
   (λs=>iS s 135) (λi=>0<=i/\i<=f.length) (λi=>(f.length - i).toNat) λ_ _=> .bz
 |_=> .bz
theorem HR:Holds Tryz.prog CH:=by
 refine j7 (L:=[zK,vI,sg,p9,mn,zz,wW,wF,sH]) (W:=fT [CI]) CH (λa=>RP a.1 a.2.1 a.2.2) (ke (by simpa using y5)) (by simpa using⟨yQ,qO,nE,sA,nH,yS,tZ,Cl,pc⟩) ?_;rintro⟨p,f,x⟩ ⟨⟨hc,hl,hr⟩,y,hx,hyl,hy⟩;simp only at hc hl hr hx hyl hy;refine NI (let a:=γa;let c:=γj .i64;let d:=(0:Int);let e:=iZ.cells;let g:=iZ.row;let h:=(-9223372036854775808:Int);let j:=(9223372036854775807:Int);let k:=VL .i64;let l:=γB;let m:=(1:Int);let n:=γC .i64;let o:=sF.bu;let q:=SV.Gz;let r:=γV;let s:=δj false;let t:=SV.agg;let v:=ew.i .i64;let am:=t [s,a v [],a v []];let an:=nf (gX p f (vL x) f.length);let w:=ew.i .u32;let ad:=q [t [l (if dj x=true then an.1 else false),a w (if dj x=true then an.2.1 else[]),a w (if dj x=true then an.2.2 else[])],c (if dj x=true then d else(4:Int))];let T:=(↑x.length:Int);let aK:=if nW p=d then cr p else d;let E:=r 0 0 20;let z:=r 1 0 3;let F:=(↑x.length:Int);let G:=c F;let U:=n 0;let A:=e [c p.bk.a0,c p.bk.a1,c p.bk.a2,c p.bk.a3,c p.bk.a4,c p.bk.a5,c p.bq.a0,c p.bq.a1,c p.bq.a2,c p.bq.a3,c p.bq.a4,c p.bq.a5,c p.bs.a0,c p.bs.a1,c p.bs.a2,c p.bs.a3,c p.bs.a4,c p.bs.a5,a v p.bj,a ew.bt p.bi] 27 20 false;let aL:=SV.sc (Value.slice none 0 0);let B:=e [s,aL,aL] 177 3 false;let aM:=p.bi.length;let I:=(↑f.length:Int);let C:=r 2 0 3;let D:=γ1 3 f.length 3;let y:=(↑f.length:Int);let H:=c y;let V:=nf (κ (fN p f));let ae:=e [l V.1,a w V.2.1,a w V.2.2] 177 3 false;let af:=(false,[],[]);let ag:=fX p f (vL x) 0 0;let ao:=nf (jJ p f (vL x) 0);let W:=r 4 0 3;let bg:=nf (gX p f (vL x) 0);let ap:=fX p f (vL x) (mF p) 0;let aa:=g sF ap 177 true;let O:=ap.length;let aN:=λ(u u_1:Int) (u_2:SV) ↦decide (u≠u_1)=true->(q [am,u_2]).as ad;f.length<=1000000000000/\aN (h_ p f) d (c (h_ p f))/\(decide (h_ p f≠d)=false->True/\aN T aK (n 3)/\(decide (T≠aK)=false->((((a v f).as (a v f)/\(a sF x).as (a sF x)/\E.as E/\z.as z/\(a sF x).as (a sF x)/\(c T).as G/\U.as (c 0)/\True)/\A.as A/\B.as B/\True)/\d<=d/\d<=F/\dj []=true)/\∀(x_1:Int),let Q:=bN x x_1.toNat o;let aq:=(Q.1,Q.2.1,Q.2.2);let X:=x_1+m;let aO:=c X;let aP:=λ(u:Bool) ↦decide (iR (TL aq)<d)=u;let aQ:=λ(u:Bool) ↦(!okF aq)=u;d<=x_1/\x_1<=F/\dj (Δ x_1.toNat x)=true->(decide (x_1<F)=true->d<=x_1/\x_1<T/\x_1.toNat<x.length/\((ou Q.2.1/\ou Q.2.2)/\γd Q.2.1<=10000000/\γd Q.2.2<=10000000)/\(aQ true->(q [am,n 2]).as ad)/\(aQ false->bM aq/\(aP true->(q [am,n 4]).as ad)/\(aP false->k X/\(((a v f).as (a v f)/\(a sF x).as (a sF x)/\E.as E/\z.as z/\(a sF x).as (a sF x)/\G.as G/\aO.as aO/\True)/\A.as A/\B.as B/\True)/\(d<=X/\X<=F/\dj (Δ X.toNat x)=true)/\(F - X).toNat<(F - x_1).toNat)))/\(decide (x_1<F)=false->(nW p=d/\f.length=aM)/\d<=I/\I<=I/\I*(56:Int)<=(140737488355328:Int)/\I<=(1000000000000:Int)/\((((a v f).as (a v f)/\(a sF x).as (a sF x)/\E.as E/\z.as z/\C.as C/\(γ1 3 I.toNat 3).as D/\(c (↑I.toNat:Int)).as H/\U.as (c 0)/\True)/\A.as A/\B.as B/\(e [l V.1,a w V.2.1,a w V.2.2] 177 3 false).as ae/\(g (ew.b.pair (w.Ap.pair w.Ap)) (δ I.toNat af) 177 true).as (g sF (dW ag 0 af) 177 true)/\True)/\d<=d/\d<=y)/\∀(x_2:Int),let ar:=(bN p.bi x_2.toNat ew.bt.bu).value;let Y:=dW ag x_2.toNat af;let Z:=x_2+m;let aR:=c Z;let au:=nf (κ ar);d<=x_2/\x_2<=y->(decide (x_2<y)=true->d<=x_2/\x_2<(↑p.bi.length:Int)/\x_2.toNat<p.bi.length/\(h<=ar/\ar<=j)/\f.length=Y.length/\d<=x_2/\x_2<(↑Y.length:Int)/\f.length=Y.length/\x_2.toNat<Y.length/\k Z/\(((a v f).as (a v f)/\(a sF x).as (a sF x)/\E.as E/\z.as z/\C.as C/\D.as D/\H.as H/\aR.as aR/\True)/\A.as A/\B.as B/\ae.as ae/\(g sF (Y.set x_2.toNat (au.1,au.2.1,au.2.2)) 177 true).as (g sF (dW ag Z.toNat af) 177 true)/\True)/\(d<=Z/\Z<=y)/\(y - Z).toNat<(y - x_2).toNat)/\(decide (x_2<y)=false->((((a v f).as (a v f)/\E.as E/\z.as z/\C.as C/\D.as D/\(a sF x).as (a sF x)/\(c T).as G/\U.as (c 0)/\True)/\A.as A/\B.as B/\ae.as (e [l ao.1,a w ao.2.1,a w ao.2.2] 177 3 false)/\(g sF Y 177 true).as (g sF ag 177 true)/\True)/\d<=d/\d<=F)/\∀(x_3:Int),let a6:=nf (jJ p f (vL x) x_3.toNat);let R:=e [l a6.1,a w a6.2.1,a w a6.2.2] 177 3 false;let av:=g sF (fX p f (vL x) x_3.toNat 0) 177 true;let a7:=bN x x_3.toNat o;let aS:=(a7.1,a7.2.1,a7.2.2);let J:=x_3+m;let ah:=c J;let ai:=nf (jJ p f (vL x) J.toNat);let aT:=g sF (fX p f (vL x) J.toNat 0) 177 true;let M:=gz p x_3 aM;let a8:=bN x x_3.toNat o;let ab:=e [l a8.1,a w a8.2.1,a w a8.2.2] 177 3 false;let ac:=(a8.1,a8.2.1,a8.2.2);let aU:=(a6.1,a6.2.1,a6.2.2);let aV:=λ(u:NH) (u_1:iZ) ↦R.as (e [l u.1,a w u.2.1,a w u.2.2] 177 3 false)/\av.as u_1/\True;let aW:=λ(u:Bool) ↦decide (iR (TL aS)=d)=u;d<=x_3/\x_3<=F->(decide (x_3<F)=true->d<=x_3/\x_3<T/\x_3.toNat<x.length/\bM aS/\(aW true->k J/\(((a v f).as (a v f)/\E.as E/\z.as z/\C.as C/\D.as D/\(a sF x).as (a sF x)/\G.as G/\ah.as ah/\True)/\A.as A/\B.as B/\aV ai aT)/\(d<=J/\J<=F)/\(F - J).toNat<(F - x_3).toNat)/\(aW false->(nW p=d/\d<=x_3/\x_3<cr p)/\((((a v f).as (a v f)/\E.as E/\z.as z/\C.as C/\D.as D/\W.as W/\(c (cD p x_3)).as (c (lh p f x_3 0))/\(a sF x).as (a sF x)/\G.as G/\(c x_3).as (c x_3)/\(a v M).as (a v M)/\(c (↑M.length:Int)).as H/\U.as (c 0)/\True)/\A.as A/\B.as B/\R.as R/\av.as av/\(e [l a7.1,a w a7.2.1,a w a7.2.2] 177 3 false).as ab/\True)/\d<=d/\d<=y)/\∀(x_4:Int),let K:=x_4+m;let P:=lh p f x_3 x_4.toNat;let aX:=c (lh p f x_3 K.toNat);let aj:=c x_3;let ak:=c K;let L:=fX p f (vL x) x_3.toNat x_4.toNat;let aw:=g sF L 177 true;let aY:=g sF (fX p f (vL x) x_3.toNat K.toNat) 177 true;let S:=bN M x_4.toNat d;let aZ:=decide (S=d);let b0:=bN f x_4.toNat d;let b1:=decide (b0=m);let b2:=decide (b0=d);let ax:=nf (κ S);let b3:=(ax.1,ax.2.1,ax.2.2);let ay:=bN L x_4.toNat o;let b4:=(ay.1,ay.2.1,ay.2.2);let az:=nf (TL ac*TL b3);let aA:=nf (TL b4 - TL (az.1,az.2.1,az.2.2));let aB:=nf (κ P);let b5:=(aB.1,aB.2.1,aB.2.2);let aC:=nf (TL ac*TL b5);let aD:=nf (TL aU+TL (aC.1,aC.2.1,aC.2.2));let b6:=k K/\(((a v f).as (a v f)/\E.as E/\z.as z/\C.as C/\D.as D/\W.as W/\(c P).as aX/\(a sF x).as (a sF x)/\G.as G/\aj.as aj/\(a v M).as (a v M)/\H.as H/\ak.as ak/\True)/\A.as A/\B.as B/\R.as R/\aw.as aY/\ab.as ab/\True)/\(d<=K/\K<=y)/\(y - K).toNat<(y - x_4).toNat;let b7:=λ(u:Int) (u_1:iZ) ↦k K/\(((a v f).as (a v f)/\E.as E/\z.as z/\C.as C/\D.as D/\W.as W/\(c u).as aX/\(a sF x).as (a sF x)/\G.as G/\aj.as aj/\(a v M).as (a v M)/\H.as H/\ak.as ak/\True)/\A.as A/\B.as B/\R.as R/\u_1.as aY/\ab.as ab/\True)/\(d<=K/\K<=y)/\(y - K).toNat<(y - x_4).toNat;let b8:=λ(u:Bool×List Int×List Int) (u_1:Int) ↦let aE:=nf (κ u_1);let aF:=nf (TL ac*TL (aE.1,aE.2.1,aE.2.2));bM u/\bM (aF.1,aF.2.1,aF.2.2);d<=x_4/\x_4<=y->(decide (x_4<y)=true->d<=x_4/\x_4<(↑M.length:Int)/\x_4.toNat<M.length/\(aZ=true->b6)/\(aZ=false->d<=x_4/\x_4<I/\x_4.toNat<f.length/\(b1=true->k (P - S)/\b7 (P - S) aw)/\(b1=false->d<=x_4/\x_4<I/\x_4.toNat<f.length/\(b2=true->f.length=L.length/\d<=x_4/\x_4<(↑L.length:Int)/\f.length=L.length/\x_4.toNat<L.length/\(h<=S/\S<=j)/\(bM ac/\bM b3)/\b8 b4 S/\f.length=L.length/\d<=x_4/\x_4<(↑L.length:Int)/\f.length=L.length/\x_4.toNat<L.length/\b7 P (g sF (L.set x_4.toNat (aA.1,aA.2.1,aA.2.2)) 177 true))/\(b2=false->b6))))/\(decide (x_4<y)=false->(h<=P/\P<=j)/\(bM ac/\bM b5)/\b8 aU P/\k J/\(((a v f).as (a v f)/\E.as E/\z.as z/\C.as C/\D.as D/\(a sF x).as (a sF x)/\G.as G/\ah.as ah/\True)/\A.as A/\B.as B/\(e [l aD.1,a w aD.2.1,a w aD.2.2] 177 3 false).as (e [l ai.1,a w ai.2.1,a w ai.2.2] 177 3 false)/\aw.as aT/\True)/\(d<=J/\J<=F)/\(F - J).toNat<(F - x_3).toNat)))/\(decide (x_3<F)=false->(((z.as z/\C.as C/\D.as D/\(a v f).as (a v f)/\(c I).as H/\U.as (c 0)/\True)/\A.as A/\B.as B/\aV bg aa)/\d<=d/\d<=y)/\∀(x_4:Int),let N:=x_4+m;let al:=c N;let a9:=nf (gX p f (vL x) x_4.toNat);let b9:=[l a9.1,a w a9.2.1,a w a9.2.2];let aG:=nf (gX p f (vL x) N.toNat);let ba:=e [l aG.1,a w aG.2.1,a w aG.2.2] 177 3 false;let aH:=bN ap x_4.toNat o;let aI:=(aH.1,aH.2.1,aH.2.2);let bb:=decide (bN f x_4.toNat d=d);let bc:=(a9.1,a9.2.1,a9.2.2);let aJ:=nf (TL bc+TL aI);let bd:=k N/\((z.as z/\C.as C/\D.as D/\(a v f).as (a v f)/\H.as H/\al.as al/\True)/\A.as A/\B.as B/\(e b9 177 3 false).as ba/\aa.as aa/\True)/\(d<=N/\N<=y)/\(y - N).toNat<(y - x_4).toNat;let be:=bM aI;let bf:=λ(u:Bool) ↦decide (d<iR (TL aI))=u;d<=x_4/\x_4<=y->(decide (x_4<y)=true->d<=x_4/\x_4<I/\x_4.toNat<f.length/\(bb=true->f.length=O/\d<=x_4/\x_4<(↑O:Int)/\f.length=O/\x_4.toNat<O/\be/\(bf true->f.length=O/\d<=x_4/\x_4<(↑O:Int)/\f.length=O/\x_4.toNat<O/\(bM bc/\be)/\k N/\((z.as z/\C.as C/\D.as D/\(a v f).as (a v f)/\H.as H/\al.as al/\True)/\A.as A/\B.as B/\(e [l aJ.1,a w aJ.2.1,a w aJ.2.2] 177 3 false).as ba/\aa.as aa/\True)/\(d<=N/\N<=y)/\(y - N).toNat<(y - x_4).toNat)/\(bf false->bd))/\(bb=false->bd))/\(decide (x_4<y)=false->(q [t b9,U]).as ad))))))) (by kernel_rfl) ?_;simp only[vcs];have hgo:=cN hc;have h160:=hgo.2.1;have hfe:h_ p f=0:=by simp[h_,hc,hl,hr]
 have hnr:cr p=mF p:=by unfold cr mF;omega
 have hxl:x.length=mF p:=by rw[hx,eA,hyl]
 have hvl:vL x=y:=by rw[hx,jQ]
 have aZd:mF p<=20:=by have:=hgo.1;unfold mF;omega
 have hxn:∀r:Int,0<=r->r<mF p->bN x r.toNat sF.bu=nf (bN y r.toNat 0):=λr h0 h1=>by rw[hx];exact iE (by rw[hyl];omega)
 have hrC:∀{q q':Rat},q=q'->(iZ.cells [.sb (nf q).1,.row (.i .u32) (nf q).2.1,.row (.i .u32) (nf q).2.2] 177 3 false).as (iZ.cells [.sb (nf q').1,.row (.i .u32) (nf q').2.1,.row (.i .u32) (nf q').2.2] 177 3 false):=by rintro _ _ rfl;rfl
 have hrL:∀{a b:List NH},a=b->(iZ.row sF a 177 true).as (iZ.row sF b 177 true):=by rintro _ _ rfl;rfl
 have hrO:∀{a b:Nat},a=b->(γ1 3 a 3).as (γ1 3 b 3):=by rintro _ _ rfl;rfl
 have hval:∀i:Int,(bN p.bi i.toNat ew.bt.bu).value=(oI p i).value:=λi=>rfl;have hel:∀r k,(fX p f y r k).length=f.length:=λr k=>by rw[ur,hl]
 rw[if_pos hc,hnr,hvl];simp only[iQ,dL,hval,γk];refine⟨by omega,λh=>absurd hfe h,λ_=>⟨λh=>absurd (by rw[hxl]) h,λ_=>⟨⟨by omega,by omega,rfl⟩,?_⟩⟩⟩;rintro i ⟨i0,i1,hall⟩;have et:=λh=>jj (d:=sF.bu) (l:=x) i0 h;refine⟨λhi=>?_,λhge=>?_⟩
 ·have hys:=Jy hy (k:=i.toNat) (by omega);have hm:=cB (d:=sF.bu) (show i.toNat<x.length by omega);have et:=et hi;have hok:=BY (bN y i.toNat 0);obtain⟨s1,⟨u1,u2,u3⟩,⟨u4,u5,u6⟩⟩:=kP (bN y i.toNat 0);obtain⟨m1,m2⟩:=m_ hys;rw[hxn i i0 (by omega)] at hm et ⊢;refine⟨i0,hi,by omega,⟨⟨u1,u4⟩,by omega,by omega⟩,(λh=>by rw[hok] at h;cases h),λ_=>⟨df hys (by omega),λh=>?_,λh=>⟨by omega,⟨by omega,by omega,?_⟩,by omega⟩⟩⟩
  ·have hn:bN y i.toNat 0<0:=wV.1 (by rwa [dL] at h);have hp:dj x=false:=by
    rw[δN];intro ha;have:=ψ.1 ha _ hm;have e:(nf (bN y i.toNat 0)).1=true:=decide_eq_true hn;rw[e] at this;cases this
   simp only[hp,τ,if_false];first|exact rfl|exact⟨rfl,rfl⟩|exact⟨rfl,trivial⟩|(unfold SV.as;exact⟨rfl,rfl⟩)
  ·have hn:¬bN y i.toNat 0<0:=λhh=>h (by rw[dL];exact wV.2 hh);have e:(nf (bN y i.toNat 0)).1=false:=decide_eq_false hn;unfold dj at hall ⊢;rw[et,List.all_append,hall];simp[e]
 have hpos:dj x=true:=by rwa [show i.toNat=x.length by omega,φ] at hall
 simp only[hpos,if_true];refine⟨⟨hc,hl⟩,by omega,by omega,by omega,by omega,⟨⟨⟨hrO rfl,trivial⟩,hrL ?_⟩,by omega,by omega⟩,?_⟩;·rw[vT,hel]
 rintro i ⟨i0,i1⟩;have hru:=@vU (fX p f y 0 0) i.toNat (false,([],[])) (by rw[hel];omega);rw[hel] at hru;refine⟨λhi=>?_,λhi=>?_⟩
 ·have ho:=jt hc (i:=i) ⟨i0,by omega⟩;have hE:bN (fX p f y 0 0) i.toNat (false,([],[]))=nf (κ (oI p i).value):=by
   rw[uq (by omega),show((i.toNat:Nat):Int)=i by omega,R3 i0]
  exact⟨i0,by omega,by omega,by omega,by omega,by omega,by omega,by omega,by omega,by omega,hrL (by rw[uN (by rw[hel];omega) hE.symm,show(i+1).toNat=i.toNat+1 by omega]),by omega,by omega⟩
 rw[show i.toNat=(fX p f y 0 0).length by rw[hel];omega,vS];refine⟨⟨⟨hrC R9.symm,hrL rfl⟩,by omega,by omega⟩,?_⟩;rintro r ⟨r0,r1⟩;refine⟨λhr1=>?_,λhr1=>?_⟩
 ·have hys:=Jy hy (k:=r.toNat) (by omega);have hx1:=hxn r r0 (by omega);have gy:bM (nf (bN y r.toNat 0)):=df hys (by omega);have hrr:((r.toNat:Nat):Int)=r:=by omega
  have hrt:(r+1).toNat=r.toNat+1:=by omega
  simp only[hx1,dL];refine⟨r0,hr1,by omega,gy,λh0=>?_,λh0=>⟨⟨hc,r0,by omega⟩,⟨⟨R7.symm,by rw[JF];omega⟩,by omega,by omega⟩,?_⟩⟩
  ·have h0:=Fb.1 h0;exact⟨by omega,⟨hrC (by rw[hrt,RX h0]),hrL (by rw[hrt,R0 h0])⟩,by omega,by omega⟩
  rintro k ⟨k0,k1⟩;have hbd:=@JD p f r k.toNat hc hl;have hrl:=@JF p r;refine⟨λhk=>?_,λhk=>?_⟩
  ·have ho:=jt hc (i:=k) ⟨k0,by omega⟩;have hcb:=@nP p r _ ho.2.2.1;have hrn:=@R8 p r k ⟨k0,by omega⟩;have hbs:=@R6 p f r k k0 (by omega);rw[hrn];refine⟨k0,by omega,by omega,λh1=>?_,λh1=>⟨k0,by omega,by omega,λh2=>?_,λh2=>⟨k0,by omega,by omega,λh3=>?_,λh3=>?_⟩⟩⟩
   ·have hb2:lh p f r k.toNat=lh p f r (k+1).toNat:=by rw[hbs,h1];split<;>omega
    exact⟨by omega,⟨hb2,hrL (CK k0 (.inr (.inl (by rw[hrr];exact h1))))⟩,by omega,by omega⟩
   ·rw[if_pos h2] at hbs;exact⟨by omega,by omega,⟨by omega,hrL (CK k0 (.inl (by omega)))⟩,by omega,by omega⟩
   ·rw[if_neg h2] at hbs;have hen:=@uq p f y r.toNat k.toNat k.toNat (by omega) sF.bu;rw[show((k.toNat:Nat):Int)=k by omega,RY k0 h3] at hen;have gx:bM (nf (gY p y r.toNat k)):=df (Js hc hy (by omega) ⟨k0,by omega⟩) (by omega);have gc:bM (nf (κ (dA p r (oI p k)))):=df (ph (W:=dA p r (oI p k)) (by omega) (by omega)) (by omega);have gm:bM (nf (bN y r.toNat 0*κ (dA p r (oI p k)))):=df (sf hys (ph (W:=dA p r (oI p k)) (by omega) (by omega))) (by omega);have hset:=@RZ p f y r.toNat k k0 (by omega) h3;rw[CM,hrr] at hset;have aWv:(fX p f y r.toNat k.toNat).set k.toNat (nf (gY p y r.toNat k - bN y r.toNat 0*κ (dA p r (oI p k))))=fX p f y r.toNat (k+1).toNat:=hset;rw[hen];simp only[dL];rw[aWv,hel];refine⟨rfl,k0,?_,rfl,?_,?_,⟨gy,gc⟩,⟨gx,gm⟩,rfl,k0,?_,rfl,?_,?_,⟨?_,hrL rfl⟩,?_,?_⟩<;>omega
   ·rw[if_neg h2] at hbs;refine⟨?_,⟨?_,hrL (CK k0 (.inl h3))⟩,?_,?_⟩<;>omega
  ·have hk2:k.toNat=f.length:=by omega
   rw[hk2,JE] at hbd ⊢;have gb:bM (nf (κ (cD p r - b_ p ((zi f 1).map (oI p)) r))):=df (ph (W:=cD p r - b_ p ((zi f 1).map (oI p)) r) (by omega) (by omega)) (by omega);have gs:bM (nf (jJ p f y r.toNat)):=df (RT hc hl hy (by omega)) (by omega);have gm:bM (nf (bN y r.toNat 0*κ (cD p r - b_ p ((zi f 1).map (oI p)) r))):=df (sf hys (ph (W:=cD p r - b_ p ((zi f 1).map (oI p)) r) (by omega) (by omega))) (by omega);refine⟨by omega,⟨gy,gb⟩,⟨gs,gm⟩,by omega,⟨hrC ?_,hrL ?_⟩,by omega,by omega⟩;·rw[hrt,JG,hrr]
   ·rw[hrt,hl];exact R1
 ·have hr2:r.toNat=mF p:=by omega
  rw[hr2];refine⟨⟨⟨hrC JC.symm,hrL rfl⟩,by omega,by omega⟩,?_⟩;rintro i ⟨i0,i1⟩;refine⟨λhi=>?_,λhi=>?_⟩
  ·have hs:=@JB p f y i i0;refine⟨i0,hi,by omega,λh0=>?_,λh0=>?_⟩
   ·have hen:=@uq p f y (mF p) 0 i.toNat (by omega) sF.bu;have he0:mu p f y (mF p) 0 i=gY p y (mF p) i:=by
     unfold mu;rw[if_pos h0,if_neg (show ¬i<((0:Nat):Int) by omega)]
    rw[show((i.toNat:Nat):Int)=i by omega,he0] at hen;have gx:bM (nf (gY p y (mF p) i)):=df (Js hc hy (π _) ⟨i0,by omega⟩) (by omega);have gs:bM (nf (gX p f y i.toNat)):=df (Jr hc hl hy (by omega)) (by omega);rw[hen,hel];simp only[dL];refine⟨trivial,i0,by omega,trivial,by omega,gx,λh1=>⟨trivial,i0,by omega,trivial,by omega,⟨gs,gx⟩,by omega,hrC ?_,by omega,by omega⟩,λh1=>⟨by omega,hrC ?_,by omega,by omega⟩⟩;·rw[hs,if_pos ⟨h0,r_.1 h1⟩]
    ·rw[hs,if_neg (λh=>h1 (r_.2 h.2))];exact(ζT _).symm
   ·refine⟨by omega,hrC ?_,by omega,by omega⟩;rw[hs,if_neg (λh=>h0 h.1)];exact(ζT _).symm
  ·rw[show i.toNat=f.length by omega];first|exact rfl|exact⟨rfl,rfl⟩|exact⟨rfl,trivial⟩
def CG:NG:=⟨208,cz×cj×Int×List Int,.cons (dF Ao) (.cons cX (.cons (dZ .i64) (.one (cQ (.i .i64))))),λa=>sy a.2.1 a.2.2.2 a.1.2.2.2.2/\ -9223372036854775808<=a.2.2.1/\a.2.2.1<=9223372036854775807,
 λa=> .sb (dj a.1.2.2.2.2&&decide (gX a.2.1 a.2.2.2 (vL a.1.2.2.2.2) a.2.2.2.length<κ a.2.2.1+1))⟩
theorem HT:Holds Tryz.prog CG:=by
 refine bO (L:=[CH,mn,sH,uk]) CG lk (by grind[HR,nH,pc,zd]) ?_;rintro⟨⟨k,o,a,b,x⟩,p,v,f⟩ ⟨c,i,g⟩;simp only at c i g;have d:=c;obtain⟨⟨H,J,M⟩,y,K,I,G⟩:=d;have C:=Jr H J G (π f.length);have q:vL x=y:=by rw[K,jQ]
 rw[<-q] at C;have F:(κ 1:Rat)=1:=rfl;have s:Sz 2 (κ v:Rat):=ph i g;have t:Sz 2 (1:Rat):=ph (W:=1) (by omega) (by omega);refine NI (let a:=(-9223372036854775808:Int);let b:=(9223372036854775807:Int);let c:=(1:Int);let d:=(0:Int);let j:=gX p f (vL x) f.length;let n:=nf (κ v);let D:=(n.1,n.2.1,n.2.2);let r:=nf (κ c);let A:=(r.1,r.2.1,r.2.2);let z:=(if dj x=true then(nf j).1 else false,if dj x=true then(nf j).2.1 else[],if dj x=true then(nf j).2.2 else[]);let l:=nf (TL D+TL A);let E:=(l.1,l.2.1,l.2.2);let B:=λ(u:SV) ↦u.as (γB (dj x&&decide (j<κ v+(1:Rat))));let w:=λ(u:Bool) ↦decide ((if dj x=true then d else(4:Int))=d)=u;sy p f x/\(a<=v/\v<=b)/\(a<=c/\c<=b)/\(bM D/\bM A)/\(w true->(bM z/\bM E)/\B (γB (decide (gM (TL z) (TL E)<d))))/\(w false->B (δj false))) (by kernel_rfl) ?_;simp only[iQ,dL,F];by_cases m:dj x=true
 ·simp only[m,if_true,Bool.true_and,iQ,dL];refine⟨c,⟨i,g⟩,by omega,⟨df s (by omega),df t (by omega)⟩,λ_=>⟨⟨df C (by omega),df (wZ s t) (by omega)⟩,?_⟩,λh=>by cases h⟩;have e:decide (gM (gX p f (vL x) f.length) (κ v+1)<0)=decide (gX p f (vL x) f.length<κ v+1):=decide_eq_decide.2 qJ;rw[e];rfl
 ·have m:dj x=false:=by simp_all
  simp only[m,τ,if_false,Bool.false_and];exact⟨c,⟨i,g⟩,by omega,⟨df s (by omega),df t (by omega)⟩,(λh=>by cases h),λ_=>rfl⟩
def CF:NG:=⟨214,cz×cj×Int×List Int,.cons (dF Ao) (.cons cX (.cons (dZ .i64) (.one (cQ (.i .i64))))),λa=>0<=a.1.2.1,λa=> .sb (decide (a.1.2.1<a.2.2.2.length)&&decide (bN a.2.2.2 a.1.2.1.toNat 0=0))⟩
theorem HP:Holds Tryz.prog CF:=by
 refine bO (L:=[]) CF lk (by simp) ?_;rintro⟨⟨k,o,a,b,x⟩,p,v,f⟩ (e:0<=o);refine NI (let a:=(0:Int);let c:=decide (o<(↑f.length:Int));let d:=λ(u:SV) ↦u.as (γB (decide (o<(↑f.length:Int))&&decide (bN f o.toNat a=a)));(c=true->a<=o/\o<(↑f.length:Int)/\o.toNat<f.length/\d (γB (decide (bN f o.toNat a=a))))/\(c=false->d (δj false))) (by kernel_rfl) ?_;simp_all[decide_eq_false]
def CE:NG:=⟨218,cz×cj×Int×List Int,.cons (dF Ao) (.cons cX (.cons (dZ .i64) (.one (cQ (.i .i64))))),λa=>a.2.2.2.length<=1000000,λa=> .sb (decide (bU a.2.1 (zi a.2.2.2 1)≠0))⟩
def RO (n:cz) (p:cj) (f:List Int):Nat->bK
 |3=> .inv Int (λi=>⟨[(5,.ptr 1 0 20),(9,.ow 2 (zi (f.take i.toNat) 1).length 1),(12,.row (.i .i64) f),(13,.si .i64 f.length),(14,.si .i64 i)],[.cells (cU Ao n) 206 5 false,.cells p.ss 27 20 false,.row (.i .i64) (zi (f.take i.toNat) 1) 3 true]⟩)
   (λs=>iS s 14) (λi=>0<=i/\i<=f.length) (λi=>(f.length - i).toNat) λ_ _=> .bz
 |_=> .bz
theorem HM:Holds Tryz.prog CE:=by
 refine bO (L:=[vR]) CE (λa=>RO a.1 a.2.1 a.2.2.2) (by simpa using qY) ?_;rintro⟨⟨k,o,a,b,x⟩,p,v,f⟩ (hl:f.length<=1000000);refine NI (let c:=γj .i64;let d:=(0:Int);let e:=(1:Int);let g:=iZ.row;let h:=γa;let j:=γ1;let r:=γV 1 0 20;let m:=ew.i .i64;let n:=(↑f.length:Int);let v:=c n;let s:=iZ.cells [c k,c o,c a,c b,h sF x] 206 5 false;let t:=iZ.cells [c p.bk.a0,c p.bk.a1,c p.bk.a2,c p.bk.a3,c p.bk.a4,c p.bk.a5,c p.bq.a0,c p.bq.a1,c p.bq.a2,c p.bq.a3,c p.bq.a4,c p.bq.a5,c p.bs.a0,c p.bs.a1,c p.bs.a2,c p.bs.a3,c p.bs.a4,c p.bs.a5,h m p.bj,h ew.bt p.bi] 27 20 false;(((r.as r/\(j 2 0 1).as (j 2 (zi [] e).length 1)/\(h m f).as (h m f)/\(c (↑f.length:Int)).as v/\(γC .i64 0).as (c 0)/\True)/\s.as s/\t.as t/\(g m [] 3 true).as (g m (zi [] e) 3 true)/\True)/\d<=d/\d<=n)/\∀(x_1:Int),let q:=x_1+e;let w:=zi (Δ q.toNat f) e;let y:=c q;let z:=decide (bN f x_1.toNat d=e);let l:=zi (Δ x_1.toNat f) e;let A:=l.length+1;let B:=λ(u:Nat) (u_1:iZ) ↦VL .i64 q/\((r.as r/\(j 2 u 1).as (j 2 w.length 1)/\(h m f).as (h m f)/\v.as v/\y.as y/\True)/\s.as s/\t.as t/\u_1.as (g m w 3 true)/\True)/\(d<=q/\q<=n)/\(n - q).toNat<(n - x_1).toNat;d<=x_1/\x_1<=n->(decide (x_1<n)=true->d<=x_1/\x_1<(↑f.length:Int)/\x_1.toNat<f.length/\(z=true->l.length=l.length/\A*8<=140737488355328/\A<=1000000000000/\B (l++[x_1]).length (g m (l++[x_1]) 3 true))/\(z=false->B l.length (g m l 3 true)))/\(decide (x_1<n)=false->l.length=l.length/\l.length<=9223372036854775807/\(γB (decide (bU p l≠d))).as (γB (decide (bU p (zi f e)≠d))))) (by kernel_rfl) ?_;simp only[vcs];have how:∀{x y:Nat},x=y->(γ1 2 x 1).as (γ1 2 y 1):=by rintro _ _ rfl;rfl
 have hrow:∀{x y:List Int},x=y->(iZ.row (.i .i64) x 3 true).as (iZ.row (.i .i64) y 3 true):=by rintro _ _ rfl;rfl
 refine⟨⟨⟨how rfl,hrow rfl⟩,by omega,by omega⟩,?_⟩;rintro i ⟨i0,i1⟩;have hd:=@rh (f.take i.toNat) 1;rw[γz] at hd;refine⟨λhi=>?_,λhi=>?_⟩
 ·have hs:=wR (d:=1) i0 hi;refine⟨i0,hi,by omega,λh1=>?_,λh1=>?_⟩
  ·rw[if_pos h1] at hs;rw[hs];refine⟨?_,?_,?_,⟨how rfl,hrow rfl⟩,?_,?_⟩<;>omega
  ·rw[if_neg h1,γ0] at hs;rw[hs];refine⟨?_,⟨how rfl,hrow rfl⟩,?_,?_⟩<;>omega
 ·rw[show f.take i.toNat=f by rw[show i.toNat=f.length by omega,φ]] at hd ⊢;exact⟨by omega,rfl⟩
def CD:NG:=⟨222,Unit×cj×Int×List Int,.cons CT (.cons cX (.cons (dZ .i64) (.one (cQ (.i .i64))))),λ_=>True,λ_=> .sb false⟩
theorem HJ:Holds Tryz.prog CD:=by
 refine bO (L:=[]) CD lk (by simp) ?_;rintro⟨_,p,v,f⟩ _;refine NI ((δj false).as (γB false)) (by kernel_rfl) ?_;rfl
@[reducible] def pv:ew:=.pair (.i .i64) .b
def dT (t:List cz):Nat->List (Int×Bool)
 |0=>δ t.length (0,false)
 |i+1=>if(bN t i Ao.bu).1=2 then((dT t i).set (bN t i Ao.bu).2.2.1.toNat ((i:Int),false)).set (bN t i Ao.bu).2.2.2.1.toNat ((i:Int),true) else dT t i
def mr (t:List cz) (u:List (Int×Bool)) (k:Int) (f:List Int):List Int:=
 if(bN t (bN u k.toNat (0,false)).1.toNat Ao.bu).2.1<f.length then f.set (bN t (bN u k.toNat (0,false)).1.toNat Ao.bu).2.1.toNat (if(bN u k.toNat (0,false)).2 then 1 else -1) else f
def gk (t:List cz) (u:List (Int×Bool)):Nat->Int->List Int->List Int
 |0,_,f=>f
 |m+1,k,f=>if 0<k then gk t u m (bN u k.toNat (0,false)).1 (mr t u k f) else f
def gI (p:cj) (t:List cz) (i:Nat):List Int:=gk t (dT t i) i i (δ p.bi.length 0)
def pt (p:cj) (v:Int) (f:List Int) (n:cz):Bool:=
 if n.1=1 then dj n.2.2.2.2&&decide (gX p f (vL n.2.2.2.2) f.length<κ v+1) else if n.1=2 then decide (n.2.1<f.length)&&decide (bN f n.2.1.toNat 0=0) else if n.1=3 then decide (bU p (zi f 1)≠0) else false
def pr (p:cj) (v:Int) (t:List cz):Bool:=(ω t.length).all λi=>pt p v (gI p t i) (bN t i Ao.bu)
def CC (t:List cz) (u:List (Int×Bool)):Prop:=u.length=t.length/\∀k,k<t.length->0<=(bN u k (0,false)).1/\(0<k->(bN u k (0,false)).1<k)
def CB (p:cj) (v:Int) (t:List cz):Prop:=(nW p=0/\dB t=true)/\(-9223372036854775808<=v/\v<=9223372036854775807)/\∀i,i<t.length->(bN t i Ao.bu).1=1->sy p (gI p t i) (bN t i Ao.bu).2.2.2.2
theorem Jq {t:List cz} {u:List (Int×Bool)} {k:Int} {f:List Int}:(mr t u k f).length=f.length:=by
 grind[mr]
theorem Jp {t:List cz} {u:List (Int×Bool)}:∀{m:Nat} {k:Int} {f:List Int},(gk t u m k f).length=f.length
 |0,_,_=>rfl
 |m+1,k,f=>by
  unfold gk;split;·rw[Jp,Jq]
  ·rfl
theorem CA {t:List cz} {u:List (Int×Bool)} (a:CC t u):∀{m:Nat} {k:Int} {f:List Int},0<=k->k<t.length->k<=m->gk t u m k f=gk t u k.toNat k f
 |0,k,f,g,d,e=>by grind;|m+1,k,f,g,d,e=>by
  by_cases c:0<k
  ·have b:=a.2 k.toNat (by omega);have h:=b.2 (by omega);rw[show k.toNat=(k.toNat - 1)+1 by omega];unfold gk;rw[if_pos c,if_pos c,CA a b.1 (by omega) (by omega)];exact(CA a b.1 (by omega) (by omega)).symm
  ·rw[show k=0 by omega];rfl
theorem Ka {t:List cz} {u:List (Int×Bool)} (b:CC t u) {k:Int} {f:List Int} (a:0<k) (e:k<t.length):gk t u k.toNat k f=gk t u (bN u k.toNat (0,false)).1.toNat (bN u k.toNat (0,false)).1 (mr t u k f):=by
 have c:=b.2 k.toNat (by omega);have d:=c.2 (by omega);rw[show gk t u k.toNat k f=gk t u ((k.toNat - 1)+1) k f by grind];conv=>lhs;unfold gk
 rw[if_pos a];grind[CA]
theorem qH {t:List cz}:∀{i:Nat},(dT t i).length=t.length
 |0=>by simp[dT];|i+1=>by
  unfold dT;split;·rw[Ω,Ω,qH]
  ·exact qH
theorem Cz {t:List cz} (h:dB t=true) {i:Nat} (c:i<t.length):0<=(bN t i Ao.bu).2.1/\((bN t i Ao.bu).1=2->((i:Int)<(bN t i Ao.bu).2.2.1/\(bN t i Ao.bu).2.2.1<t.length)/\((i:Int)<(bN t i Ao.bu).2.2.2.1/\(bN t i Ao.bu).2.2.2.1<t.length)):=by
 unfold dB at h;simp only[θ,ψ,γD] at h;have b:=h.2.1 i c;unfold jM at b;simp only[θ] at b;obtain⟨a,d⟩:=b;refine⟨?_,λe=>?_⟩
 ·unfold p7 at a;split at a;·simp_all[oj,qh]
  ·split at a;all_goals simp_all[q8,mM,ug,qh]
 simp_all[iD,rf]
theorem Cy {t:List cz} (h:dB t=true):∀{i:Nat},i<=t.length->CC t (dT t i)
 |0,_=>⟨qH,λk a=>by
   grind[dT,bW]⟩
 |i+1,g=>⟨qH,λk a=>by
   have b:=(Cy h (i:=i) (by omega)).2 k a;unfold dT;split
   ·rename_i c;obtain⟨⟨j,f⟩,d,e⟩:=(Cz h (i:=i) (by omega)).2 c;grind[qH,gN]
   ·exact b⟩
def Cx:NG:=⟨62,cj×Int×List cz,.cons cX (.cons (dZ .i64) (.one (cQ Ao))),λa=>CB a.1 a.2.1 a.2.2,λa=> .si .i64 (if pr a.1 a.2.1 a.2.2 then 0 else 13)⟩
noncomputable def RN (p:cj) (v:Int) (t:List cz):Nat->bK
 |3=> .inv Int (λi=>⟨[(1,.si .i64 v),(2,.row Ao t),(3,.ptr 0 0 20),(7,.ow 1 t.length 2),(16,.row Ao t),(17,.si .i64 t.length),(18,.si .i64 i)],[.cells p.ss 27 20 false,.row pv (dT t i.toNat) 159 true]⟩)
   (λs=>iS s 18) (λi=>0<=i/\i<=t.length/\∀j:Nat,j<i->pt p v (gI p t j) (bN t j Ao.bu)=true) (λi=>(t.length - i).toNat) λi k=>match k with
   |7=> .inv (Int×List Int) (λx=>⟨[(1,.si .i64 v),(2,.row Ao t),(3,.ptr 0 0 20),(7,.ow 1 t.length 2),(8,.si .i64 i),(9,.ptr 2 0 5),(10,.ow 3 p.bi.length 1),(11,.si .i64 x.1),(16,.row Ao t),(17,.si .i64 t.length),(18,.si .i64 i)],
      [.cells p.ss 27 20 false,.row pv (dT t i.toNat) 159 true,.cells (cU Ao (bN t i.toNat Ao.bu)) 108 5 false,.row (.i .i64) x.2 3 true]⟩)
     (λs=>(iS s 11,oS (.i .i64) s 3)) (λx=>(0<=x.1/\x.1<=i)/\x.2.length=p.bi.length/\gk t (dT t i.toNat) x.1.toNat x.1 x.2=gI p t i.toNat) (λx=>x.1.toNat) λ_ _=> .bz
   |_=> .bz
 |_=> .bz
theorem HV:Holds Tryz.prog Cx:=by
 refine bO (L:=[BP,CG,CF,CE,CD]) Cx (λa=>RN a.1 a.2.1 a.2.2) (by simpa using⟨yL,HT,HP,HM,HJ⟩) ?_;rintro⟨p,v,t⟩ ⟨⟨hc,ht⟩,⟨v0,v1⟩,hb⟩;simp only at hc ht v0 v1 hb;refine NI (let a:=γj .i64;let c:=(0:Int);let d:=γa;let e:=iZ.row;let f:=γC .i64;let g:=(140737488355328:Int);let h:=(1000000000000:Int);let k:=(1:Int);let l:=γ1;let o:=(↑t.length:Int);let w:=γV 0 0 20;let C:=l 1 t.length 2;let y:=(↑t.length:Int);let D:=a y;let a9:=f 0;let K:=ew.i .i64;let q:=iZ.cells [a p.bk.a0,a p.bk.a1,a p.bk.a2,a p.bk.a3,a p.bk.a4,a p.bk.a5,a p.bq.a0,a p.bq.a1,a p.bq.a2,a p.bq.a3,a p.bq.a4,a p.bq.a5,a p.bs.a0,a p.bs.a1,a p.bs.a2,a p.bs.a3,a p.bs.a4,a p.bs.a5,d K p.bj,d ew.bt p.bi] 27 20 false;let E:=(↑p.bi.length:Int);let S:=γV 2 0 5;let n:=p.bi.length;let Z:=l 3 n 1;let a6:=δ E.toNat c;let aa:=e K a6 3 true;let L:=a (if pr p v t=true then c else(13:Int));c<=o/\o<=o/\o*(16:Int)<=g/\o<=h/\((((a v).as (a v)/\(d Ao t).as (d Ao t)/\w.as w/\(l 1 o.toNat 2).as C/\(d Ao t).as (d Ao t)/\(a o).as D/\a9.as (a 0)/\True)/\q.as q/\(e (K.pair ew.b) (δ o.toNat (c,false)) 159 true).as (e pv (dT t 0) 159 true)/\True)/\c<=c/\c<=y/\∀(j:Nat),(↑j:Int)<c->pt p v (gI p t j) (bN t j Ao.bu)=true)/\∀(x:Int),let z:=dT t x.toNat;let F:=e pv z 159 true;let s:=bN t x.toNat Ao.bu;let T:=s.2.1;let M:=s.2.2.1;let N:=s.2.2.2.1;let U:=s.2.2.2.2;let H:=iZ.cells [a s.1,a T,a M,a N,d sF U] 108 5 false;let V:=gI p t x.toNat;let m:=z.length;let O:=(↑m:Int);let ab:=decide (s.1=k);let ac:=decide (s.1=(2:Int));let P:=z.set (ζy M) (x,false);let G:=x+k;let ad:=a G;let ar:=e pv (dT t G.toNat) 159 true;let ae:=decide (s.1=(2:Int));let af:=decide (s.1=(3:Int));(c<=x/\x<=y/\∀(j:Nat),(↑j:Int)<x->pt p v (gI p t j) (bN t j Ao.bu)=true)->(decide (x<y)=true->c<=x/\x<o/\x.toNat<t.length/\c<=E/\E<=E/\E*(8:Int)<=g/\E<=h/\((((a v).as (a v)/\(d Ao t).as (d Ao t)/\w.as w/\C.as C/\(a x).as (a x)/\S.as S/\(l 3 E.toNat 1).as Z/\(a x).as (a x)/\(d Ao t).as (d Ao t)/\D.as D/\(a x).as (a x)/\True)/\q.as q/\F.as F/\H.as H/\aa.as aa/\True)/\(c<=x/\x<=x)/\a6.length=n/\gk t z x.toNat x a6=V)/\∀(x_1:Int×List Int),let W:=a x;let A:=x_1.1.toNat;let a7:=bN z A pv.bu;let r:=a7.1;let ag:=a r;let I:=ζy r;let J:=(bN t I Ao.bu).2.1;let X:=ζy J;let Q:=x_1.2.length;let ah:=decide (c<x_1.1);let B:=x_1.2.length;let R:=x_1.2.set X (-1:Int);let ai:=e K x_1.2 3 true;let Y:=let aj:=λ(u:iZ) ↦VL .i64 G/\(((a v).as (a v)/\(d Ao t).as (d Ao t)/\w.as w/\C.as C/\(d Ao t).as (d Ao t)/\D.as D/\ad.as ad/\True)/\q.as q/\u.as ar/\True)/\(c<=G/\G<=y/\∀(j:Nat),(↑j:Int)<G->pt p v (gI p t j) (bN t j Ao.bu)=true)/\(y - G).toNat<(y - x).toNat;(ac=true->t.length=m/\c<=M/\M<O/\t.length=m/\ζy M<m/\t.length=P.length/\c<=N/\N<(↑P.length:Int)/\t.length=P.length/\ζy N<P.length/\aj (e pv (P.set (ζy N) (x,true)) 159 true))/\(ac=false->aj F);let ak:=(a v).as (a v)/\(d Ao t).as (d Ao t)/\w.as w/\C.as C/\W.as W/\S.as S/\Z.as Z/\ag.as ag/\(d Ao t).as (d Ao t)/\D.as D/\W.as W/\True;let al:=λ(u:List Int) (u_1:Int) ↦let a8:=u.set X u_1;let am:=e K a8 3 true;t.length=m/\c<=x_1.1/\x_1.1<O/\t.length=m/\A<m/\(ak/\q.as q/\F.as F/\H.as H/\am.as am/\True)/\((c<=r/\r<=x)/\a8.length=n/\gk t z I r a8=V)/\I<A;let an:=λ(u:Bool) ↦(!(dj U&&decide (gX p x_1.2 (vL U) Q<κ v+(1:Rat))))=u;let ao:=λ(u:Bool) ↦(!(decide (T<(↑Q:Int))&&decide (bN x_1.2 (ζy T) 0=c)))=u;let ap:=λ(u:Bool) ↦(!decide (bU p (zi x_1.2 k)≠c))=u;let aq:=λ(u:Bool) ↦decide (J<(↑n:Int))=u;(c<=x_1.1/\x_1.1<=x)/\Q=n/\gk t z A x_1.1 x_1.2=V->(ah=true->t.length=m/\c<=x_1.1/\x_1.1<O/\t.length=m/\A<m/\c<=r/\r<o/\I<t.length/\(aq true->n=B/\c<=J/\J<(↑B:Int)/\n=B/\X<B/\t.length=m/\c<=x_1.1/\x_1.1<O/\t.length=m/\A<m/\(a7.2=true->n=R.length/\c<=J/\J<(↑R.length:Int)/\n=R.length/\X<R.length/\al R k)/\(a7.2=false->al x_1.2 (-1:Int)))/\(aq false->t.length=m/\c<=x_1.1/\x_1.1<O/\t.length=m/\A<m/\(ak/\q.as q/\F.as F/\H.as H/\ai.as ai/\True)/\((c<=r/\r<=x)/\Q=n/\gk t z I r x_1.2=V)/\I<A))/\(ah=false->True/\(ab=true->n=B/\(sy p x_1.2 U/\(-9223372036854775808:Int)<=v/\v<=(9223372036854775807:Int))/\(an true->(f 13).as L)/\(an false->Y))/\(ab=false->(ae=true->n=B/\c<=T/\(ao true->(f 13).as L)/\(ao false->Y))/\(ae=false->(af=true->n=B/\Q<=1000000/\(ap true->(f 13).as L)/\(ap false->Y))/\(af=false->n=B/\True/\(true=true->(f 13).as L)/\(true=false->Y))))))/\(decide (x<y)=false->a9.as L)) (by kernel_rfl) ?_;simp only[vcs];have h160:=(cN hc).2.1;have htn:1<=t.length/\t.length<=65536:=by
  unfold dB at ht;simp only[θ,decide_eq_true_eq] at ht;exact ht.1
 have hw:∀i,t.length=(dT t i).length:=λi=>qH.symm;have how:∀{x y:Nat},x=y->(γ1 1 x 2).as (γ1 1 y 2):=by rintro _ _ rfl;rfl
 have hof:∀{x y:Nat},x=y->(γ1 3 x 1).as (γ1 3 y 1):=by rintro _ _ rfl;rfl
 have hrow:∀{x y:List (Int×Bool)},x=y->(iZ.row pv x 159 true).as (iZ.row pv y 159 true):=by rintro _ _ rfl;rfl
 have hd:(pv.bu:Int×Bool)=(0,false):=rfl;simp only[γk,hd];refine⟨by omega,by omega,by omega,by omega,⟨⟨how rfl,hrow rfl⟩,by omega,by omega,λj hj=>by omega⟩,?_⟩;rintro i ⟨i0,i1,hall⟩;refine⟨λhi=>?_,λhi=>?_⟩
 ·have hu:=Cy ht (i:=i.toNat) (by omega);have hlu:=@qH t i.toNat;have hno:=Cz ht (i:=i.toNat) (by omega);refine⟨i0,hi,by omega,by omega,by omega,by omega,by omega,⟨hof rfl,⟨i0,Int.le_refl _⟩,List.length_replicate,?_⟩,?_⟩
  ·unfold gI;rw[show((i.toNat:Nat):Int)=i by omega]
  rintro⟨k,f⟩ ⟨⟨k0,k1⟩,hfl,hfx⟩;simp only at k0 k1 hfl hfx ⊢;refine⟨λhk=>?_,λhk=>?_⟩
  ·have q:=hu.2 k.toNat (by omega);have q1:=q.2 (by omega);have ho:=(Cz ht (i:=(bN (dT t i.toNat) k.toNat (0,false)).1.toNat) (by omega)).1;have hs:=@Ka t (dT t i.toNat) hu k f hk (by omega);rw[hfx] at hs;unfold mr at hs;rw[hfl] at hs;have qq:=q.1;clear q;generalize bN (dT t i.toNat) k.toNat (0,false)=s at qq q1 ho hs ⊢;generalize (bN t s.1.toNat Ao.bu).2.1=o at ho hs ⊢;refine⟨hw _,k0,by omega,hw _,by omega,qq,by omega,by omega,λh=>?_,λh=>?_⟩
   ·rw[if_pos h] at hs;have l1:(f.set o.toNat (-1)).length=p.bi.length:=by rw[Ω,hfl]
    refine⟨by omega,ho,by omega,by omega,by omega,hw _,k0,by omega,hw _,by omega,λh2=>?_,λh2=>?_⟩
    ·rw[if_pos h2] at hs;exact⟨by omega,ho,by omega,by omega,by omega,hw _,k0,by omega,hw _,by omega,⟨⟨qq,by omega⟩,by rw[Ω];exact l1,by rw[List.set_set];exact hs.symm⟩,by omega⟩
    ·rw[if_neg (by rw[h2];exact Bool.false_ne_true)] at hs;refine⟨hw _,k0,?_,hw _,?_,⟨⟨qq,?_⟩,l1,hs.symm⟩,?_⟩<;>omega
   ·rw[if_neg h] at hs;refine⟨hw _,k0,?_,hw _,?_,⟨⟨qq,?_⟩,hfl,hs.symm⟩,?_⟩<;>omega
  ·have hk0:k=0:=by omega
   have hf:f=gI p t i.toNat:=by rw[<-hfx,hk0];rfl
   have hbi:=hb i.toNat (by omega);rw[<-hf] at hbi;have no:pt p v f (bN t i.toNat Ao.bu)=false->(13:Int)=if pr p v t=true then 0 else 13:=λh=>by
    have:pr p v t=false:=by
     unfold pr;rw[δN];intro ha;have:=ψ.1 ha i.toNat (γD.2 (by omega));rw[<-hf,h] at this;cases this
    rw[this];rfl
   have next:pt p v f (bN t i.toNat Ao.bu)=true->∀j:Nat,(j:Int)<i+1->pt p v (gI p t j) (bN t j Ao.bu)=true:=λh j hj=>by
    by_cases h2:(j:Int)<i;·exact hall j h2
    ·rw[show j=i.toNat by omega,<-hf];exact h
   have hup:dT t (i+1).toNat=if(bN t i.toNat Ao.bu).1=2 then((dT t i.toNat).set (bN t i.toNat Ao.bu).2.2.1.toNat (i,false)).set (bN t i.toNat Ao.bu).2.2.2.1.toNat (i,true) else dT t i.toNat:=by
    rw[show(i+1).toNat=i.toNat+1 by omega];conv=>lhs;unfold dT
    rw[show((i.toNat:Nat):Int)=i by omega]
   rw[hup];unfold pt at no next;have hsl:∀(j:Nat) (z:Int×Bool),((dT t i.toNat).set j z).length=t.length:=λj z=>by rw[Ω,hlu]
   generalize bN t i.toNat Ao.bu=n at no next hno hbi ⊢;refine⟨λh1=>⟨hfl.symm,⟨hbi h1,v0,v1⟩,λh=>no (by rw[if_pos h1];exact h),λh=>?_⟩,λh1=>⟨λh3=>⟨hfl.symm,hno.1,λh=>no (by rw[if_neg h1,if_pos h3];exact h),λh=>?_⟩,λh3=>⟨λh4=>⟨hfl.symm,by omega,λh=>no (by rw[if_neg h1,if_neg h3,if_pos h4];exact decide_eq_false h),λh=>?_⟩,λh4=>?_⟩⟩⟩;·exact⟨λh2=>by
      obtain⟨⟨a1,a2⟩,b1,b2⟩:=hno.2 h2;have s1:=hsl n.2.2.1.toNat (i,false);exact⟨hw _,by omega,by omega,hw _,by omega,s1.symm,by omega,by omega,s1.symm,by omega,by omega,hrow (if_pos h2).symm,⟨by omega,by omega,next (by rw[if_pos h1,h.1,decide_eq_true h.2];rfl)⟩,by omega⟩,λh2=>⟨by omega,hrow (if_neg h2).symm,⟨by omega,by omega,next (by rw[if_pos h1,h.1,decide_eq_true h.2];rfl)⟩,by omega⟩⟩
   ·exact⟨λh2=>by
      obtain⟨⟨a1,a2⟩,b1,b2⟩:=hno.2 h2;have s1:=hsl n.2.2.1.toNat (i,false);exact⟨hw _,by omega,by omega,hw _,by omega,s1.symm,by omega,by omega,s1.symm,by omega,by omega,hrow (if_pos h2).symm,⟨by omega,by omega,next (by rw[if_neg h1,if_pos h3,decide_eq_true h.1,decide_eq_true h.2];rfl)⟩,by omega⟩,λh2=>⟨by omega,hrow (if_neg h2).symm,⟨by omega,by omega,next (by rw[if_neg h1,if_pos h3,decide_eq_true h.1,decide_eq_true h.2];rfl)⟩,by omega⟩⟩
   ·exact⟨λh2=>by
      obtain⟨⟨a1,a2⟩,b1,b2⟩:=hno.2 h2;have s1:=hsl n.2.2.1.toNat (i,false);exact⟨hw _,by omega,by omega,hw _,by omega,s1.symm,by omega,by omega,s1.symm,by omega,by omega,hrow (if_pos h2).symm,⟨by omega,by omega,next (by rw[if_neg h1,if_neg h3,if_pos h4];exact decide_eq_true h)⟩,by omega⟩,λh2=>⟨by omega,hrow (if_neg h2).symm,⟨by omega,by omega,next (by rw[if_neg h1,if_neg h3,if_pos h4];exact decide_eq_true h)⟩,by omega⟩⟩
   ·have:=no (by rw[if_neg h1,if_neg h3,if_neg h4]);exact⟨hfl.symm,λ_=>this,λh=>by cases h⟩
 ·have:pr p v t=true:=ψ.2 λj hj=>hall j (by have:=γD.1 hj;omega);rw[this];rfl
def kM (p:cj) (n:cz):Bool:=!(decide (n.1=1)&&decide ((n.2.2.2.2.length:Int)≠cr p))
def re (p:cj) (v:Int) (t:List cz):Int:=
 if nW p≠0 then nW p else if t.length=0 then 1 else if 65536<t.length then 3 else if dB t=false then 2 else if t.all (kM p)=false then 2 else if pr p v t=true then 0 else 13
def s7 (p:cj) (v:Int) (t:List cz):Prop:=(∀n∈t,∀x∈n.2.2.2.2,gJ x)/\t.length<=1000000000000/\(nW p=0->dB t=true->t.all (kM p)=true->CB p v t)
def Dc:NG:=⟨39,cj×Int×List cz,.cons cX (.cons (dZ .i64) (.one (cQ Ao))),λa=>s7 a.1 a.2.1 a.2.2,λa=> .si .i64 (re a.1 a.2.1 a.2.2)⟩
def RM (p:cj) (v:Int) (t:List cz):Nat->bK
 |12=> .inv Int (λi=>⟨[(1,.si .i64 v),(2,.row Ao t),(3,.ptr 0 0 20),(8,.si .i64 (cr p)),(30,.row Ao t),(31,.si .i64 t.length),(32,.si .i64 i)],[.cells p.ss 27 20 false]⟩)
   (λs=>iS s 32) (λi=>0<=i/\i<=t.length/\∀j:Nat,j<i->kM p (bN t j Ao.bu)=true) (λi=>(t.length - i).toNat) λ_ _=> .bz
 |_=> .bz
theorem HY:Holds Tryz.prog Dc:=by
 refine bO (L:=[mW,CO,vI,Cx]) Dc (λa=>RM a.1 a.2.1 a.2.2) (by grind[om,HW,qO,HV]) ?_;rintro⟨p,v,t⟩ ⟨hdg,htl,hok⟩;simp only at hdg htl hok;refine NI (let a:=γj .i64;let b:=(0:Int);let c:=γC .i64;let d:=γa;let o:=decide (nW p≠b);let f:=a (re p v t);let h:=(↑t.length:Int);let q:=decide (h=b);let r:=decide ((65536:Int)<h);let i:=γV 0 0 20;let l:=a (cr p);let e:=(↑t.length:Int);let m:=a e;let k:=iZ.cells (cj.ss p) 27 20 false;True/\(o=true->(a (nW p)).as f)/\(o=false->(q=true->(c 1).as f)/\(q=false->(r=true->(c 3).as f)/\(r=false->(∀(n:cz),n∈t->∀(x:NH),x∈n.2.2.2.2->gJ x)/\((!aip t)=true->(c 2).as f)/\((!aip t)=false->True/\((((a v).as (a v)/\(d Ao t).as (d Ao t)/\i.as i/\(a (if nW p=b then cr p else b)).as l/\(d Ao t).as (d Ao t)/\(a h).as m/\(c 0).as (a 0)/\True)/\k.as k/\True)/\b<=b/\b<=e/\∀(j:Nat),(↑j:Int)<b->kM p (bN t j Ao.bu)=true)/\∀(x:Int),let g:=x+(1:Int);let s:=a g;let w:=bN t x.toNat Ao.bu;let y:=VL .i64 g/\(((a v).as (a v)/\(d Ao t).as (d Ao t)/\i.as i/\l.as l/\(d Ao t).as (d Ao t)/\m.as m/\s.as s/\True)/\k.as k/\True)/\(b<=g/\g<=e/\∀(j:Nat),(↑j:Int)<g->kM p (bN t j Ao.bu)=true)/\(e - g).toNat<(e - x).toNat;let z:=λ(u:Bool) ↦decide ((↑(γd w.2.2.2.2):Int)≠cr p)=u;let A:=λ(u:Bool) ↦decide (w.1=(1:Int))=u;(b<=x/\x<=e/\∀(j:Nat),(↑j:Int)<x->kM p (bN t j Ao.bu)=true)->(decide (x<e)=true->b<=x/\x<h/\x.toNat<t.length/\(A true->(z true->(c 2).as f)/\(z false->y))/\(A false->y))/\(decide (x<e)=false->CB p v t/\(a (if pr p v t=true then b else(13:Int))).as f)))))) (by kernel_rfl) ?_;simp only[vcs];unfold re;refine⟨λh=>by rw[if_pos h],λh=>?_⟩;rw[if_neg h];have hc:nW p=0:=γe.1 h;refine⟨λh1=>by omega,λh1=>?_⟩;rw[if_neg (show ¬t.length=0 by omega)];refine⟨λh2=>by omega,λh2=>?_⟩;rw[if_neg (show ¬65536<t.length by omega)];refine⟨hdg,λh3=>by rw[if_pos h3],λh3=>?_⟩;have hnt:¬dB t=false:=by simp_all
 rw[if_neg hnt,if_pos hc];refine⟨⟨rfl,by omega,by omega,λj hj=>by omega⟩,?_⟩;rintro i ⟨i0,i1,hall⟩;refine⟨λhi=>?_,λhi=>?_⟩
 ·have hm:=cB (d:=Ao.bu) (show i.toNat<t.length by omega);have next:kM p (bN t i.toNat Ao.bu)=true->∀j:Nat,(j:Int)<i+1->kM p (bN t j Ao.bu)=true:=λhr j hj=>by
   grind
  have no:kM p (bN t i.toNat Ao.bu)=false->t.all (kM p)=false:=λhr=>by
   grind
  refine⟨i0,hi,by omega,λh4=>⟨λh5=>?_,λh5=>⟨by omega,⟨by omega,by omega,next ?_⟩,by omega⟩⟩,λh4=>⟨by omega,⟨by omega,by omega,next ?_⟩,by omega⟩⟩;·simp_all[kM]
  all_goals grind[kM]
 ·have ha:t.all (kM p)=true:=ψ.2 λn hn=>by
   obtain⟨j,hj,rfl⟩:=γJ hn;grind[bW]
  simp_all
@[reducible] def Qi:ew:=.pair (.Ap (.i .i64)) (.pair (.i .i64) (.Ap Ao))
def rb (p:cj) (r:List Int×Int×List cz):Int:=if bU p r.1≠0 then bU p r.1 else if cC p r.1≠r.2.1 then 13 else re p r.2.1 r.2.2
def Db:NG:=⟨22,cj×List Int×Int×List cz,.cons cX (.one (dF Qi)),λa=>a.2.1.length<=1000000000000/\(bU a.1 a.2.1=0->cC a.1 a.2.1=a.2.2.1->s7 a.1 a.2.2.1 a.2.2.2),λa=> .si .i64 (rb a.1 a.2)⟩
theorem HX:Holds Tryz.prog Db:=by
 refine bO (L:=[vR,BZ,Dc]) Db lk (by grind[qY,yN,HY]) ?_;rintro⟨p,c,w,t⟩ ⟨g,a⟩;simp only at g a;refine NI (let a:=γj .i64;let d:=decide (bU p c≠(0:Int));let b:=a (rb p (c,w,t));let e:=decide (cC p c≠w);c.length<=9223372036854775807/\(d=true->(a (bU p c)).as b)/\(d=false->(nW p=(0:Int)/\c.length<=9223372036854775807)/\(e=true->(γC .i64 13).as b)/\(e=false->s7 p w t/\(a (re p w t)).as b))) (by kernel_rfl) ?_;simp only[vcs];unfold rb;refine⟨by omega,λh=>by rw[if_pos h],λh=>?_⟩;rw[if_neg h];have f:bU p c=0:=γe.1 h;have i:nW p=0:=by
  unfold bU at f;omega
 grind
theorem SA {p:cj} {f:List Int} {d:Int} (h:f.length=p.bi.length):dn p.bi.length (zi f d):=⟨rX,λi a=>by grind[jP]⟩
theorem uV {a:Type} {l:List a} {i:Nat} {x d:a} (h:l[i]?=some x):bN l i d=x/\i<l.length:=by
 grind[bN]
theorem g_.top {p:cj} {v:Int} {t:List cz} {a lo b:Nat} {f:List Int} (h:g_ p v t a f lo b):a<t.length/\(lo<b->b<=t.length):=by
 induction h with
 |ec c _ _=>grind;|j7 c _=>grind;|@bra a f lo d b k c _ _ _ g e i j=>
  omega
theorem Sy {p:cj} {f:List Int} (h:ki p f=true):dY p f:=by
 unfold ki at h;rw[θ,decide_eq_true_eq] at h;obtain⟨a,b⟩:=h;unfold h_ at a;split at a;·omega
 ·rename_i d;split at a;·cases a
  ·rename_i c;exact⟨γe.1 d,γe.1 c,b⟩
theorem J_ {p:cj} {f:List Int} (h:ki p f=true):Sz 1000002 (hJ p f):=by
 have a:=Sy h;have c:=@wQ p a.1 f f.length a.2.1;rw[φ] at c;have d:Sz 1 ((fN p f:Int):Rat):=by
  unfold Sz;rw[Rat.num_intCast,Rat.den_intCast];omega
 have b:Sz 1000000 (cG p f).value:=((zR a).sw (mQ a).1).2.2.2;exact(wZ d b).mono (by omega)
theorem Sx {n:Nat} (hD:dD Tryz.prog (BW n)):dD Tryz.prog (s8 (n+1)):=by
 refine Ya (L:=[mn,uk,D0,DU]) (W:=[DW,DV,wN,BW n]) (s8 (n+1)) (fG 72) lk (by simpa using⟨y7,H2,tY,hD⟩) (by simpa using⟨nH,zd,H3,H1⟩) ?_;rintro⟨⟨p,ch,val,bn,en,k1,k2,bA,err,bp,fx⟩,a⟩ ⟨hok,ha,hn⟩;simp only at hok ha hn;have e1:k1=bp.length:=hok.k1;have e2:k2=fx.length:=hok.k2;subst e1;subst e2;have hf:dR p fx:=hok.f;have h160:=(cN hf.c).2.1;have hfl:fx.length=p.bi.length:=hf.l;have hfe:=hf.e;have hfo:=hf.ki;have hv0:0<=val:=hok.v0;have hv1:val<=9223372036854775806:=hok.v1;have hm0:1<=bA:=hok.m0;have hm1:bA<=65536:=hok.m1;have hpl:bp.length<=65536:=hok.l;rcases en with _|m
 ·refine NI (let b:=γj .i64;let c:=(0:Int);let d:=(1:Int);let e:=iZ.cells;let f:=SV.Gz;let g:=iZ.row;let h:=VL .i64;let j:=(-9223372036854775808:Int);let k:=(-1:Int);let l:=(9223372036854775807:Int);let m:=(2:Int);let o:=γa;let q:=γB;let r:=γ1;let v:=vL (jr p fx);let x:=b p.bk.a0;let y:=b p.bk.a1;let z:=b p.bk.a2;let A:=b p.bk.a3;let B:=b p.bk.a4;let C:=b p.bk.a5;let D:=b p.bq.a0;let E:=b p.bq.a1;let F:=b p.bq.a2;let G:=b p.bq.a3;let H:=b p.bq.a4;let I:=b p.bq.a5;let J:=b p.bs.a0;let K:=b p.bs.a1;let L:=b p.bs.a2;let M:=b p.bs.a3;let N:=b p.bs.a4;let O:=b p.bs.a5;let U:=ew.i .i64;let P:=o U p.bj;let Q:=o ew.bt p.bi;let ag:=o U ch;let ah:=b val;let R:=SV.fn (Fn.func 70) [] [];let ai:=r 1 bp.length 5;let V:=r 2 fx.length 1;let W:=b bA;let aw:=[V,W,γC .i64 12];let ax:=cm.mk ch val bn bp err;let a7:=cR p (bI none) bA (nF fx) ax a fx;let X:=e [x,y,z,A,B,C,D,E,F,G,H,I,J,K,L,M,N,O,P,Q,o U a7.ch,b a7.val,q a7.bn,R,r 1 a7.bp.length 5,V,W,b a7.err] 126 28 false;let an:=g Ao bp 108 true;let Y:=g Ao a7.bp 108 true;let t:=g U fx 3 true;let Z:=(↑bp.length:Int);let ay:=decide (bA<Z+m);let az:=bp.length+2;let a8:=Z+d;let ao:=(c,c,c,[]);let aj:=[(c,ao),(c,ao)];let z53:Nat:=(bp++aj).length;let w:=(iN v).getD c;let ap:=(bp++aj).set a.toNat (m,w,Z,a8,[]);let a9:=w.toNat;let ac:=fx.set a9 d;let S:=cR p (bI none) bA (nF ac) (cm.mk ch val bn ap err) a8 ac;let ad:=fx.set a9 k;let aa:=cR p (bI none) bA (nF ad) S Z ad;let ak:=((js p fx).1,(js p fx).2.1,(js p fx).2.2);let al:=val+d;let aq:=nf (κ al);let aA:=(aq.1,aq.2.1,aq.2.2);let aB:=gM (TL ak) (TL aA);let aC:=decide (aB<c);let aD:=(d,c,c,c,oY p fx);let s:=dx (bI none) ax (bC.mk (dP v) (bG (List.map (oI p) (dP v))));let z69:Nat:=(s.bp++aj).length;let ae:=s.bp.length;let am:=s.val+d;let ar:=nf (κ am);let ab:=(↑ae:Int);let aE:=decide (err≠c);let aF:=decide (h_ p fx≠c);let a6:=s.bp.length;let af:=ab+d;let au:=(s.bp++aj).set a.toNat (m,w,ab,af,[]);let T:=cR p (bI none) bA (nF ac) (cm.mk s.ch s.val s.bn au s.err) af ac;let aG:=cR p (bI none) bA (nF ad) T ab ad;let aT:=let aH:=(f []).as (f [])/\(e (x::y::z::A::B::C::D::E::F::G::H::I::J::K::L::M::N::O::P::Q::ag::ah::q bn::R::ai::aw) 126 28 false).as X/\an.as Y/\t.as t/\True;mX (jr p fx)/\((!(iN v).isSome)=true->aH)/\((!(iN v).isSome)=false->h (Z+m)/\(ay=true->aH)/\(ay=false->2=2/\bp.length=bp.length/\az*56<=140737488355328/\az<=1000000000000/\h a8/\z53=z53/\c<=a/\a<(↑z53:Int)/\z53=z53/\a.toNat<z53/\h a8/\(ek (cY.mk p ch val bn none z53 fx.length bA err ap fx)/\(c<=a8/\a8<(↑ap.length:Int))/\(c<=w/\w<(↑fx.length:Int))/\bN fx a9 c=c/\(d=d\/d=k)/\nF ac<n)/\(ek (cY.mk p S.ch S.val S.bn none S.bp.length fx.length bA S.err S.bp fx)/\(c<=Z/\Z<(↑S.bp.length:Int))/\(c<=w/\w<(↑fx.length:Int))/\bN fx a9 c=c/\(k=d\/k=k)/\nF ad<n)/\(f []).as (f [])/\(e [x,y,z,A,B,C,D,E,F,G,H,I,J,K,L,M,N,O,P,Q,o U aa.ch,b aa.val,q aa.bn,R,r 1 aa.bp.length 5,V,W,b aa.err] 126 28 false).as X/\(g Ao aa.bp 108 true).as Y/\t.as t/\True));let aI:=(bM ak/\bM aA)/\(aC=true->bp.length=bp.length/\c<=a/\a<(↑bp.length:Int)/\bp.length=bp.length/\a.toNat<bp.length/\(f []).as (f [])/\(e [x,y,z,A,B,C,D,E,F,G,H,I,J,K,L,M,N,O,P,Q,ag,ah,q bn,R,ai,V,W,b err] 126 28 false).as X/\(g Ao (bp.set a.toNat aD) 108 true).as Y/\t.as t/\True)/\(aC=false->aT);let aJ:=z69=z69;let aK:=(f []).as (f [])/\(e (x::y::z::A::B::C::D::E::F::G::H::I::J::K::L::M::N::O::P::Q::o U s.ch::b s.val::q s.bn::R::r 1 ae 5::aw) 126 28 false).as X/\(g Ao s.bp 108 true).as Y/\t.as t/\True;let aL:=(f []).as (f [])/\(e [x,y,z,A,B,C,D,E,F,G,H,I,J,K,L,M,N,O,P,Q,ag,ah,q bn,R,ai,V,W,b err] 126 28 false).as X/\an.as Y/\t.as t/\True;let aM:=λ(u:cm) (u_1:iZ) ↦(f []).as (f [])/\(e [x,y,z,A,B,C,D,E,F,G,H,I,J,K,L,M,N,O,P,Q,o U u.ch,b u.val,q u.bn,R,r 1 u.bp.length 5,V,W,b u.err] 126 28 false).as X/\u_1.as Y/\t.as t/\True;let aN:=λ(u:cY) (u_1:Int) (u_2:Nat) (u_3:Int) ↦ek u/\(c<=u_1/\u_1<(↑u_2:Int))/\(c<=w/\w<(↑fx.length:Int))/\bN fx a9 c=c/\(u_3=d\/u_3=k)/\nF (fx.set a9 u_3)<n;let aO:=λ(u:Int) (u_1:iZ) ↦(f []).as (f [])/\(e [x,y,z,A,B,C,D,E,F,G,H,I,J,K,L,M,N,O,P,Q,ag,ah,q bn,R,ai,V,W,b u] 126 28 false).as X/\u_1.as Y/\t.as t/\True;let aP:=λ(u:Bool) ↦decide (gM (TL ak) (TL (ar.1,ar.2.1,ar.2.2))<c)=u;let aQ:=λ(u:Bool) ↦decide (c<=aB)=u;let aR:=λ(u:Int) ↦let av:=nf (κ (u+d));bM ak/\bM (av.1,av.2.1,av.2.2);let aS:=λ(u:Bool) ↦decide (bA<ab+m)=u;(aE=true->aL)/\(aE=false->(bn=true->aL)/\(bn=false->(fx.length=fx.length/\fx.length<=1000000000000)/\(aF=true->aO (h_ p fx) an)/\(aF=false->((!okX p fx)=true->bp.length=bp.length/\c<=a/\a<(↑bp.length:Int)/\bp.length=bp.length/\a.toNat<bp.length/\aO err (g Ao (bp.set a.toNat ((3:Int),ao)) 108 true))/\((!okX p fx)=false->h al/\(j<=al/\al<=l)/\aR val/\(aQ true->mX (jr p fx)/\(lB v=true->(ek (cY.mk p ch val bn none bp.length fx.length bA err bp fx)/\mX (jr p fx)/\(jr p fx).length=p.bi.length)/\bp.length=bp.length/\h am/\(j<=am/\am<=l)/\aR s.val/\(aP true->ae=a6/\c<=a/\a<(↑a6:Int)/\ae=a6/\a.toNat<a6/\aM s (g Ao (s.bp.set a.toNat aD) 108 true))/\(aP false->mX (jr p fx)/\((!(iN v).isSome)=true->aK)/\((!(iN v).isSome)=false->h (ab+m)/\(aS true->aK)/\(aS false->2=2/\ae=a6/\(a6+2)*56<=140737488355328/\a6+2<=1000000000000/\h af/\aJ/\c<=a/\a<(↑z69:Int)/\aJ/\a.toNat<z69/\h af/\aN (cY.mk p s.ch s.val s.bn none z69 fx.length bA s.err au fx) af au.length d/\aN (cY.mk p T.ch T.val T.bn none T.bp.length fx.length bA T.err T.bp fx) ab T.bp.length k/\aM aG (g Ao aG.bp 108 true)))))/\(lB v=false->aI))/\(aQ false->aI)))))) (by kernel_rfl) ?_;simp only[vcs];refine⟨λh=>by rw[wK hf (.inl h)];exact⟨rfl,rfl⟩,λh0=>⟨λh=>by rw[wK hf (.inr h)];exact⟨rfl,rfl⟩,λh1=>⟨by omega,λh=>absurd hfe h,λ_=>⟨λh=>?_,λhb=>?_⟩⟩⟩⟩
  ·have hs:¬((⟨ch,val,bn,bp,err⟩:cm).err≠0\/(⟨ch,val,bn,bp,err⟩:cm).bn=true):=by
    rintro(h|h);·exact h0 h
    ·rw[show bn=true from h] at h1;cases h1
   rw[K7 hf hs (by rw[<-hfo];exact h)];refine⟨ha.1,ha.2,by omega,?_,rfl⟩;simp only[Ω];rfl
  ·have hs:¬((⟨ch,val,bn,bp,err⟩:cm).err≠0\/(⟨ch,val,bn,bp,err⟩:cm).bn=true):=by
    rintro(h|h);·exact h0 h
    ·rw[show bn=true from h] at h1;cases h1
   have hbf:f_ p fx=true:=by rw[<-hfo];exact hb
   have hfix:=hf.ok hbf;have eB:js p fx=nf (hJ p fx):=by unfold js;rw[if_pos hb]
   have eS:jr p fx=fL (cP p fx):=by unfold jr cP;rw[if_pos hb]
   have eP:oY p fx=fL (gw p fx):=by unfold oY;rw[if_pos hb]
   have hsl:(cP p fx).length=fx.length:=pA;have oS:mX (fL (cP p fx)):=⟨cP p fx,rfl,by rw[eA];omega,λq hq=>by
    obtain⟨i,hi,rfl⟩:=γJ hq;have:=(Ak hfix hf.r (i:=i) (by omega)).2.2;rwa [bW hi] at this⟩;have fB:bM (nf (hJ p fx)):=df (J_ hb) (by omega);have fI:∀v:Int,0<=v->v<=9223372036854775807->bM (nf (κ v)):=λv h0 h1=>df (ph (by omega) h1) (by omega);have hcv:∀v:Int,gM (hJ p fx) (κ v)<0↔hJ p fx<((v:Int):Rat):=λv=>qJ;simp only[eB,eS,eP,jQ,iQ,dL];have hcm:dP (cP p fx)=(nC p fx).bm:=rfl;refine⟨by omega,by omega,⟨fB,fI _ (by omega) (by omega)⟩,λhge=>⟨oS,λhi=>?_,λhi=>?_⟩,λhlt=>?_⟩
   ·have hO:cF p (bI none) ⟨ch,val,bn,bp,err⟩ fx=dx (bI none) ⟨ch,val,bn,bp,err⟩ ⟨dP (cP p fx),bG ((dP (cP p fx)).map (oI p))⟩:=by
     unfold cF;rw[if_pos ⟨ε1.1 λh=>absurd ((hcv (val+1)).2 h) (Int.not_lt.2 hge),hi⟩];rfl
    have hok':ek (cY.ix ⟨p,ch,val,bn,none,bp.length,fx.length,bA,err,bp,fx⟩ (cF p (bI none) ⟨ch,val,bn,bp,err⟩ fx)):=hok.IY;rw[hO] at hok';obtain⟨e1,e2,_⟩:=@Ah (bI none) ⟨ch,val,bn,bp,err⟩ ⟨dP (cP p fx),bG ((dP (cP p fx)).map (oI p))⟩;generalize dx (bI none) ⟨ch,val,bn,bp,err⟩ ⟨dP (cP p fx),bG ((dP (cP p fx)).map (oI p))⟩=O at*;obtain⟨ch',val',found',prf',aq8⟩:=O;have e1:bp=prf':=Eq.symm e1;have e2:err=aq8:=Eq.symm e2;subst e1;subst e2;have w0:0<=val':=hok'.v0;have w1:val'<=9223372036854775806:=hok'.v1;dsimp only;refine⟨⟨hok,oS,by rw[eA];omega⟩,by omega,by omega,⟨fB,fI _ (by omega) (by omega)⟩,?_⟩;refine⟨λh=>?_,λh=>⟨oS,λhk=>?_,λhk=>⟨by omega,λhm=>?_,λhm=>?_⟩⟩⟩
    ·rw[uB hf hs hbf hO ((hcv _).1 h)];refine⟨ha.1,ha.2,by omega,?_,rfl⟩;simp only[Ω];rfl
    ·rw[og hf hs hbf hO (λh'=>h ((hcv _).2 h')) (.inl (γ8.1 hk |>γU.1))];exact⟨rfl,rfl⟩
    ·rw[og hf hs hbf hO (λh'=>h ((hcv _).2 h')) (.inr hm)];exact⟨rfl,rfl⟩
    ·obtain⟨k,hk'⟩:=γs.1 hk;rw[uA hf hs hbf hO (λh'=>h ((hcv _).2 h')) hk' hm];simp only[hk',γ3];obtain⟨hk1,hk2,hk3⟩:=qK hk';rw[hsl] at hk1;have hk0:bN fx k.toNat 0=0:=qL hfix hf.r (by omega) hk2 hk3;have n1:=kN hk1 hk0 (d:=1) (by omega);have n2:=kN hk1 hk0 (d:= -1) (by omega);have hl2:((bp++[zN,zN]).set a.toNat (jf k bp.length)).length=bp.length+2:=by rw[Ω,γh];rfl
     have hl1:(bp++[zN,zN]).length=bp.length+2:=by rw[γh];rfl
     have o1:=ek.uj (x:=⟨p,ch',val',found',none,bp.length,fx.length,bA,aq8,bp,fx⟩) hok' (k:=(bp++[zN,zN]).length) (l:=(bp++[zN,zN]).set a.toNat (jf k bp.length)) hm (by rw[hl1,hl2]) hl2;have o2:=o1.uh (f:=fx.set k.toNat 1) (hf.set (by omega)) (n:=nF (fx.set k.toNat 1)) (a:=(bp.length:Int)+1);have o3:=(@pz p (bI none) bA (nF (fx.set k.toNat 1)) (fK ⟨ch',val',found',bp,aq8⟩ a k) ((bp.length:Int)+1) (fx.set k.toNat 1) (hf.set (by omega))).1;have o4:bp.length+2<=(cR p (bI none) bA (nF (fx.set k.toNat 1)) (fK ⟨ch',val',found',bp,aq8⟩ a k) ((bp.length:Int)+1) (fx.set k.toNat 1)).bp.length:=by rw[<-hl2];exact o3
     have q1:a<((bp++[zN,zN]).length:Int):=by omega
     have q3:(bp.length:Int)+1<(((bp++[zN,zN]).set a.toNat (jf k bp.length)).length:Int):=by rw[hl2];omega
     have q2:a.toNat<(bp++[zN,zN]).length:=by omega
     exact⟨by omega,by omega,by omega,ha.1,q1,q2,by omega,⟨o1,⟨by omega,q3⟩,hk1,hk0,.inl trivial,by omega⟩,⟨o2,⟨by omega,εW.2 (γl (by omega) o4)⟩,hk1,hk0,.inr trivial,by omega⟩,rfl,rfl⟩
   ·have hO:cF p (bI none) ⟨ch,val,bn,bp,err⟩ fx=⟨ch,val,bn,bp,err⟩:=by
     unfold cF;rw[if_neg (λh=>by rw[h.2] at hi;cases hi)]
    refine⟨⟨fB,fI _ (by omega) (by omega)⟩,?_⟩;refine⟨λh=>?_,λh=>⟨oS,λhk=>?_,λhk=>⟨by omega,λhm=>?_,λhm=>?_⟩⟩⟩
    ·rw[uB hf hs hbf hO ((hcv _).1 h)];refine⟨ha.1,ha.2,by omega,?_,rfl⟩;simp only[Ω];rfl
    ·rw[og hf hs hbf hO (λh'=>h ((hcv _).2 h')) (.inl (γ8.1 hk |>γU.1))];exact⟨rfl,rfl⟩
    ·rw[og hf hs hbf hO (λh'=>h ((hcv _).2 h')) (.inr hm)];exact⟨rfl,rfl⟩
    ·obtain⟨k,hk'⟩:=γs.1 hk;rw[uA hf hs hbf hO (λh'=>h ((hcv _).2 h')) hk' hm];simp only[hk',γ3];obtain⟨hk1,hk2,hk3⟩:=qK hk';rw[hsl] at hk1;have hk0:bN fx k.toNat 0=0:=qL hfix hf.r (by omega) hk2 hk3;have n1:=kN hk1 hk0 (d:=1) (by omega);have n2:=kN hk1 hk0 (d:= -1) (by omega);have hl2:((bp++[zN,zN]).set a.toNat (jf k bp.length)).length=bp.length+2:=by rw[Ω,γh];rfl
     have hl1:(bp++[zN,zN]).length=bp.length+2:=by rw[γh];rfl
     have o1:=ek.uj hok (k:=(bp++[zN,zN]).length) (l:=(bp++[zN,zN]).set a.toNat (jf k bp.length)) hm (by rw[hl1,hl2]) hl2;have o2:=o1.uh (f:=fx.set k.toNat 1) (hf.set (by omega)) (n:=nF (fx.set k.toNat 1)) (a:=(bp.length:Int)+1);have o3:=(@pz p (bI none) bA (nF (fx.set k.toNat 1)) (fK ⟨ch,val,bn,bp,err⟩ a k) ((bp.length:Int)+1) (fx.set k.toNat 1) (hf.set (by omega))).1;have o4:bp.length+2<=(cR p (bI none) bA (nF (fx.set k.toNat 1)) (fK ⟨ch,val,bn,bp,err⟩ a k) ((bp.length:Int)+1) (fx.set k.toNat 1)).bp.length:=by rw[<-hl2];exact o3
     have q1:a<((bp++[zN,zN]).length:Int):=by omega
     have q3:(bp.length:Int)+1<(((bp++[zN,zN]).set a.toNat (jf k bp.length)).length:Int):=by rw[hl2];omega
     have q2:a.toNat<(bp++[zN,zN]).length:=by omega
     exact⟨by omega,by omega,by omega,ha.1,q1,q2,by omega,⟨o1,⟨by omega,q3⟩,hk1,hk0,.inl trivial,by omega⟩,⟨o2,⟨by omega,εW.2 (γl (by omega) o4)⟩,hk1,hk0,.inr trivial,by omega⟩,rfl,rfl⟩
   ·have hO:cF p (bI none) ⟨ch,val,bn,bp,err⟩ fx=⟨ch,val,bn,bp,err⟩:=by
     unfold cF;rw[if_neg (λh=>ε1.2 h.1 ((hcv (val+1)).1 (Int.not_le.1 hlt)))]
    refine⟨⟨fB,fI _ (by omega) (by omega)⟩,?_⟩;refine⟨λh=>?_,λh=>⟨oS,λhk=>?_,λhk=>⟨by omega,λhm=>?_,λhm=>?_⟩⟩⟩
    ·rw[uB hf hs hbf hO ((hcv _).1 h)];refine⟨ha.1,ha.2,by omega,?_,rfl⟩;simp only[Ω];rfl
    ·rw[og hf hs hbf hO (λh'=>h ((hcv _).2 h')) (.inl (γ8.1 hk |>γU.1))];exact⟨rfl,rfl⟩
    ·rw[og hf hs hbf hO (λh'=>h ((hcv _).2 h')) (.inr hm)];exact⟨rfl,rfl⟩
    ·obtain⟨k,hk'⟩:=γs.1 hk;rw[uA hf hs hbf hO (λh'=>h ((hcv _).2 h')) hk' hm];simp only[hk',γ3];obtain⟨hk1,hk2,hk3⟩:=qK hk';rw[hsl] at hk1;have hk0:bN fx k.toNat 0=0:=qL hfix hf.r (by omega) hk2 hk3;have n1:=kN hk1 hk0 (d:=1) (by omega);have n2:=kN hk1 hk0 (d:= -1) (by omega);have hl2:((bp++[zN,zN]).set a.toNat (jf k bp.length)).length=bp.length+2:=by rw[Ω,γh];rfl
     have hl1:(bp++[zN,zN]).length=bp.length+2:=by rw[γh];rfl
     have o1:=ek.uj hok (k:=(bp++[zN,zN]).length) (l:=(bp++[zN,zN]).set a.toNat (jf k bp.length)) hm (by rw[hl1,hl2]) hl2;have o2:=o1.uh (f:=fx.set k.toNat 1) (hf.set (by omega)) (n:=nF (fx.set k.toNat 1)) (a:=(bp.length:Int)+1);have o3:=(@pz p (bI none) bA (nF (fx.set k.toNat 1)) (fK ⟨ch,val,bn,bp,err⟩ a k) ((bp.length:Int)+1) (fx.set k.toNat 1) (hf.set (by omega))).1;have o4:bp.length+2<=(cR p (bI none) bA (nF (fx.set k.toNat 1)) (fK ⟨ch,val,bn,bp,err⟩ a k) ((bp.length:Int)+1) (fx.set k.toNat 1)).bp.length:=by rw[<-hl2];exact o3
     have q1:a<((bp++[zN,zN]).length:Int):=by omega
     have q3:(bp.length:Int)+1<(((bp++[zN,zN]).set a.toNat (jf k bp.length)).length:Int):=by rw[hl2];omega
     have q2:a.toNat<(bp++[zN,zN]).length:=by omega
     exact⟨by omega,by omega,by omega,ha.1,q1,q2,by omega,⟨o1,⟨by omega,q3⟩,hk1,hk0,.inl trivial,by omega⟩,⟨o2,⟨by omega,εW.2 (γl (by omega) o4)⟩,hk1,hk0,.inr trivial,by omega⟩,rfl,rfl⟩
 ·refine NI (let b:=γj .i64;let c:=(0:Int);let d:=iZ.cells;let e:=(1:Int);let f:=SV.Gz;let g:=iZ.row;let h:=VL .i64;let j:=(-9223372036854775808:Int);let k:=(-1:Int);let l:=(9223372036854775807:Int);let o:=(2:Int);let q:=γa;let r:=γB;let s:=γ1;let ai:=((js p fx).1,(js p fx).2.1,(js p fx).2.2);let aj:=val+e;let ap:=nf (κ aj);let ay:=(ap.1,ap.2.1,ap.2.2);let az:=gM (TL ai) (TL ay);let aA:=decide (az<c);let z:=b p.bk.a0;let A:=b p.bk.a1;let B:=b p.bk.a2;let C:=b p.bk.a3;let D:=b p.bk.a4;let E:=b p.bk.a5;let F:=b p.bq.a0;let G:=b p.bq.a1;let H:=b p.bq.a2;let I:=b p.bq.a3;let J:=b p.bq.a4;let K:=b p.bq.a5;let L:=b p.bs.a0;let M:=b p.bs.a1;let N:=b p.bs.a2;let O:=b p.bs.a3;let P:=b p.bs.a4;let Q:=b p.bs.a5;let W:=ew.i .i64;let R:=q W p.bj;let S:=q ew.bt p.bi;let ak:=q W ch;let al:=b val;let T:=SV.fn (Fn.func 116) [] [γV 1 0 1];let am:=s 2 bp.length 5;let X:=s 3 fx.length 1;let Y:=b bA;let aB:=cm.mk ch val bn bp err;let a9:=cR p (bI (some m)) bA (nF fx) aB a fx;let Z:=d [z,A,B,C,D,E,F,G,H,I,J,K,L,M,N,O,P,Q,R,S,q W a9.ch,b a9.val,r a9.bn,T,s 2 a9.bp.length 5,X,Y,b a9.err] 126 28 false;let v:=d [b m] 2 1 false;let aC:=(e,c,c,c,oY p fx);let a6:=g Ao a9.bp 108 true;let w:=g W fx 3 true;let x:=vL (jr p fx);let aD:=[X,Y,γC .i64 12];let aq:=g Ao bp 108 true;let a7:=(↑bp.length:Int);let aE:=decide (bA<a7+o);let aF:=bp.length+2;let aa:=a7+e;let ar:=(c,c,c,[]);let an:=[(c,ar),(c,ar)];let z61:Nat:=(bp++an).length;let y:=(iN x).getD c;let au:=(bp++an).set a.toNat (o,y,a7,aa,[]);let ab:=y.toNat;let ae:=fx.set ab e;let U:=cR p (bI (some m)) bA (nF ae) (cm.mk ch val bn au err) aa ae;let af:=fx.set ab k;let ac:=cR p (bI (some m)) bA (nF af) U a7 af;let t:=dx (bI (some m)) aB (bC.mk (dP x) (bG (List.map (oI p) (dP x))));let ag:=t.bp.length;let z71:Nat:=(t.bp++an).length;let ao:=t.val+e;let av:=nf (κ ao);let ad:=(↑ag:Int);let aG:=decide (err≠c);let aH:=decide (h_ p fx≠c);let a8:=t.bp.length;let ah:=ad+e;let aw:=(t.bp++an).set a.toNat (o,y,ad,ah,[]);let V:=cR p (bI (some m)) bA (nF ae) (cm.mk t.ch t.val t.bn aw t.err) ah ae;let aI:=cR p (bI (some m)) bA (nF af) V ad af;let aV:=let aJ:=(f []).as (f [])/\(d (z::A::B::C::D::E::F::G::H::I::J::K::L::M::N::O::P::Q::R::S::ak::al::r bn::T::am::aD) 126 28 false).as Z/\v.as v/\aq.as a6/\w.as w/\True;(aA=true->bp.length=bp.length/\c<=a/\a<(↑bp.length:Int)/\bp.length=bp.length/\a.toNat<bp.length/\(f []).as (f [])/\(d [z,A,B,C,D,E,F,G,H,I,J,K,L,M,N,O,P,Q,R,S,ak,al,r bn,T,am,X,Y,b err] 126 28 false).as Z/\v.as v/\(g Ao (bp.set a.toNat aC) 108 true).as a6/\w.as w/\True)/\(aA=false->mX (jr p fx)/\((!(iN x).isSome)=true->aJ)/\((!(iN x).isSome)=false->h (a7+o)/\(aE=true->aJ)/\(aE=false->2=2/\bp.length=bp.length/\aF*56<=140737488355328/\aF<=1000000000000/\h aa/\z61=z61/\c<=a/\a<(↑z61:Int)/\z61=z61/\a.toNat<z61/\h aa/\(ek (cY.mk p ch val bn (some m) z61 fx.length bA err au fx)/\(c<=aa/\aa<(↑au.length:Int))/\(c<=y/\y<(↑fx.length:Int))/\bN fx ab c=c/\(e=e\/e=k)/\nF ae<n)/\(ek (cY.mk p U.ch U.val U.bn (some m) U.bp.length fx.length bA U.err U.bp fx)/\(c<=a7/\a7<(↑U.bp.length:Int))/\(c<=y/\y<(↑fx.length:Int))/\bN fx ab c=c/\(k=e\/k=k)/\nF af<n)/\(f []).as (f [])/\(d [z,A,B,C,D,E,F,G,H,I,J,K,L,M,N,O,P,Q,R,S,q W ac.ch,b ac.val,r ac.bn,T,s 2 ac.bp.length 5,X,Y,b ac.err] 126 28 false).as Z/\v.as v/\(g Ao ac.bp 108 true).as a6/\w.as w/\True)));let aK:=(f []).as (f [])/\(d (z::A::B::C::D::E::F::G::H::I::J::K::L::M::N::O::P::Q::R::S::q W t.ch::b t.val::r t.bn::T::s 2 ag 5::aD) 126 28 false).as Z/\v.as v/\(g Ao t.bp 108 true).as a6/\w.as w/\True;let aL:=z71=z71;let aM:=(f []).as (f [])/\(d [z,A,B,C,D,E,F,G,H,I,J,K,L,M,N,O,P,Q,R,S,ak,al,r bn,T,am,X,Y,b err] 126 28 false).as Z/\v.as v/\aq.as a6/\w.as w/\True;let aN:=(bM ai/\bM ay)/\aV;let aO:=λ(u:cm) (u_1:iZ) ↦(f []).as (f [])/\(d [z,A,B,C,D,E,F,G,H,I,J,K,L,M,N,O,P,Q,R,S,q W u.ch,b u.val,r u.bn,T,s 2 u.bp.length 5,X,Y,b u.err] 126 28 false).as Z/\v.as v/\u_1.as a6/\w.as w/\True;let aP:=λ(u:cY) (u_1:Int) (u_2:Nat) (u_3:Int) ↦ek u/\(c<=u_1/\u_1<(↑u_2:Int))/\(c<=y/\y<(↑fx.length:Int))/\bN fx ab c=c/\(u_3=e\/u_3=k)/\nF (fx.set ab u_3)<n;let aQ:=λ(u:Int) (u_1:iZ) ↦(f []).as (f [])/\(d [z,A,B,C,D,E,F,G,H,I,J,K,L,M,N,O,P,Q,R,S,ak,al,r bn,T,am,X,Y,b u] 126 28 false).as Z/\v.as v/\u_1.as a6/\w.as w/\True;let aR:=λ(u:Bool) ↦decide (gM (TL ai) (TL (av.1,av.2.1,av.2.2))<c)=u;let aS:=λ(u:Bool) ↦decide (c<=az)=u;let aT:=λ(u:Int) ↦let ax:=nf (κ (u+e));bM ai/\bM (ax.1,ax.2.1,ax.2.2);let aU:=λ(u:Bool) ↦decide (bA<ad+o)=u;(aG=true->aM)/\(aG=false->(bn=true->aM)/\(bn=false->(fx.length=fx.length/\fx.length<=1000000000000)/\(aH=true->aQ (h_ p fx) aq)/\(aH=false->((!okX p fx)=true->bp.length=bp.length/\c<=a/\a<(↑bp.length:Int)/\bp.length=bp.length/\a.toNat<bp.length/\aQ err (g Ao (bp.set a.toNat ((3:Int),ar)) 108 true))/\((!okX p fx)=false->h aj/\(j<=aj/\aj<=l)/\aT val/\(aS true->mX (jr p fx)/\(lB x=true->(ek (cY.mk p ch val bn (some m) bp.length fx.length bA err bp fx)/\mX (jr p fx)/\(jr p fx).length=p.bi.length)/\bp.length=bp.length/\h ao/\(j<=ao/\ao<=l)/\aT t.val/\(aR true->ag=a8/\c<=a/\a<(↑a8:Int)/\ag=a8/\a.toNat<a8/\aO t (g Ao (t.bp.set a.toNat aC) 108 true))/\(aR false->mX (jr p fx)/\((!(iN x).isSome)=true->aK)/\((!(iN x).isSome)=false->h (ad+o)/\(aU true->aK)/\(aU false->2=2/\ag=a8/\(a8+2)*56<=140737488355328/\a8+2<=1000000000000/\h ah/\aL/\c<=a/\a<(↑z71:Int)/\aL/\a.toNat<z71/\h ah/\aP (cY.mk p t.ch t.val t.bn (some m) z71 fx.length bA t.err aw fx) ah aw.length e/\aP (cY.mk p V.ch V.val V.bn (some m) V.bp.length fx.length bA V.err V.bp fx) ad V.bp.length k/\aO aI (g Ao aI.bp 108 true)))))/\(lB x=false->aN))/\(aS false->aN)))))) (by kernel_rfl) ?_;simp only[vcs];refine⟨λh=>by rw[wK hf (.inl h)];exact⟨rfl,rfl⟩,λh0=>⟨λh=>by rw[wK hf (.inr h)];exact⟨rfl,rfl⟩,λh1=>⟨by omega,λh=>absurd hfe h,λ_=>⟨λh=>?_,λhb=>?_⟩⟩⟩⟩
  ·have hs:¬((⟨ch,val,bn,bp,err⟩:cm).err≠0\/(⟨ch,val,bn,bp,err⟩:cm).bn=true):=by
    rintro(h|h);·exact h0 h
    ·rw[show bn=true from h] at h1;cases h1
   rw[K7 hf hs (by rw[<-hfo];exact h)];refine⟨ha.1,ha.2,by omega,?_,rfl⟩;simp only[Ω];rfl
  ·have hs:¬((⟨ch,val,bn,bp,err⟩:cm).err≠0\/(⟨ch,val,bn,bp,err⟩:cm).bn=true):=by
    rintro(h|h);·exact h0 h
    ·rw[show bn=true from h] at h1;cases h1
   have hbf:f_ p fx=true:=by rw[<-hfo];exact hb
   have hfix:=hf.ok hbf;have eB:js p fx=nf (hJ p fx):=by unfold js;rw[if_pos hb]
   have eS:jr p fx=fL (cP p fx):=by unfold jr cP;rw[if_pos hb]
   have eP:oY p fx=fL (gw p fx):=by unfold oY;rw[if_pos hb]
   have hsl:(cP p fx).length=fx.length:=pA;have oS:mX (fL (cP p fx)):=⟨cP p fx,rfl,by rw[eA];omega,λq hq=>by
    obtain⟨i,hi,rfl⟩:=γJ hq;have:=(Ak hfix hf.r (i:=i) (by omega)).2.2;rwa [bW hi] at this⟩;have fB:bM (nf (hJ p fx)):=df (J_ hb) (by omega);have fI:∀v:Int,0<=v->v<=9223372036854775807->bM (nf (κ v)):=λv h0 h1=>df (ph (by omega) h1) (by omega);have hcv:∀v:Int,gM (hJ p fx) (κ v)<0↔hJ p fx<((v:Int):Rat):=λv=>qJ;simp only[eB,eS,eP,jQ,iQ,dL];have hcm:dP (cP p fx)=(nC p fx).bm:=rfl;refine⟨by omega,by omega,⟨fB,fI _ (by omega) (by omega)⟩,λhge=>⟨oS,λhi=>?_,λhi=>?_⟩,λhlt=>?_⟩
   ·have hO:cF p (bI (some m)) ⟨ch,val,bn,bp,err⟩ fx=dx (bI (some m)) ⟨ch,val,bn,bp,err⟩ ⟨dP (cP p fx),bG ((dP (cP p fx)).map (oI p))⟩:=by
     unfold cF;rw[if_pos ⟨ε1.1 λh=>absurd ((hcv (val+1)).2 h) (Int.not_lt.2 hge),hi⟩];rfl
    have hok':ek (cY.ix ⟨p,ch,val,bn,(some m),bp.length,fx.length,bA,err,bp,fx⟩ (cF p (bI (some m)) ⟨ch,val,bn,bp,err⟩ fx)):=hok.IY;rw[hO] at hok';obtain⟨e1,e2,_⟩:=@Ah (bI (some m)) ⟨ch,val,bn,bp,err⟩ ⟨dP (cP p fx),bG ((dP (cP p fx)).map (oI p))⟩;generalize dx (bI (some m)) ⟨ch,val,bn,bp,err⟩ ⟨dP (cP p fx),bG ((dP (cP p fx)).map (oI p))⟩=O at*;obtain⟨ch',val',found',prf',aq8⟩:=O;have e1:bp=prf':=Eq.symm e1;have e2:err=aq8:=Eq.symm e2;subst e1;subst e2;have w0:0<=val':=hok'.v0;have w1:val'<=9223372036854775806:=hok'.v1;dsimp only;refine⟨⟨hok,oS,by rw[eA];omega⟩,by omega,by omega,⟨fB,fI _ (by omega) (by omega)⟩,?_⟩;refine⟨λh=>?_,λh=>⟨oS,λhk=>?_,λhk=>⟨by omega,λhm=>?_,λhm=>?_⟩⟩⟩
    ·rw[uB hf hs hbf hO ((hcv _).1 h)];refine⟨ha.1,ha.2,by omega,?_,rfl⟩;simp only[Ω];rfl
    ·rw[og hf hs hbf hO (λh'=>h ((hcv _).2 h')) (.inl (γ8.1 hk |>γU.1))];exact⟨rfl,rfl⟩
    ·rw[og hf hs hbf hO (λh'=>h ((hcv _).2 h')) (.inr hm)];exact⟨rfl,rfl⟩
    ·obtain⟨k,hk'⟩:=γs.1 hk;rw[uA hf hs hbf hO (λh'=>h ((hcv _).2 h')) hk' hm];simp only[hk',γ3];obtain⟨hk1,hk2,hk3⟩:=qK hk';rw[hsl] at hk1;have hk0:bN fx k.toNat 0=0:=qL hfix hf.r (by omega) hk2 hk3;have n1:=kN hk1 hk0 (d:=1) (by omega);have n2:=kN hk1 hk0 (d:= -1) (by omega);have hl2:((bp++[zN,zN]).set a.toNat (jf k bp.length)).length=bp.length+2:=by rw[Ω,γh];rfl
     have hl1:(bp++[zN,zN]).length=bp.length+2:=by rw[γh];rfl
     have o1:=ek.uj (x:=⟨p,ch',val',found',(some m),bp.length,fx.length,bA,aq8,bp,fx⟩) hok' (k:=(bp++[zN,zN]).length) (l:=(bp++[zN,zN]).set a.toNat (jf k bp.length)) hm (by rw[hl1,hl2]) hl2;have o2:=o1.uh (f:=fx.set k.toNat 1) (hf.set (by omega)) (n:=nF (fx.set k.toNat 1)) (a:=(bp.length:Int)+1);have o3:=(@pz p (bI (some m)) bA (nF (fx.set k.toNat 1)) (fK ⟨ch',val',found',bp,aq8⟩ a k) ((bp.length:Int)+1) (fx.set k.toNat 1) (hf.set (by omega))).1;have o4:bp.length+2<=(cR p (bI (some m)) bA (nF (fx.set k.toNat 1)) (fK ⟨ch',val',found',bp,aq8⟩ a k) ((bp.length:Int)+1) (fx.set k.toNat 1)).bp.length:=by rw[<-hl2];exact o3
     have q1:a<((bp++[zN,zN]).length:Int):=by omega
     have q3:(bp.length:Int)+1<(((bp++[zN,zN]).set a.toNat (jf k bp.length)).length:Int):=by rw[hl2];omega
     have q2:a.toNat<(bp++[zN,zN]).length:=by omega
     exact⟨by omega,by omega,by omega,ha.1,q1,q2,by omega,⟨o1,⟨by omega,q3⟩,hk1,hk0,.inl trivial,by omega⟩,⟨o2,⟨by omega,εW.2 (γl (by omega) o4)⟩,hk1,hk0,.inr trivial,by omega⟩,rfl,rfl⟩
   ·have hO:cF p (bI (some m)) ⟨ch,val,bn,bp,err⟩ fx=⟨ch,val,bn,bp,err⟩:=by
     unfold cF;rw[if_neg (λh=>by rw[h.2] at hi;cases hi)]
    refine⟨⟨fB,fI _ (by omega) (by omega)⟩,?_⟩;refine⟨λh=>?_,λh=>⟨oS,λhk=>?_,λhk=>⟨by omega,λhm=>?_,λhm=>?_⟩⟩⟩
    ·rw[uB hf hs hbf hO ((hcv _).1 h)];refine⟨ha.1,ha.2,by omega,?_,rfl⟩;simp only[Ω];rfl
    ·rw[og hf hs hbf hO (λh'=>h ((hcv _).2 h')) (.inl (γ8.1 hk |>γU.1))];exact⟨rfl,rfl⟩
    ·rw[og hf hs hbf hO (λh'=>h ((hcv _).2 h')) (.inr hm)];exact⟨rfl,rfl⟩
    ·obtain⟨k,hk'⟩:=γs.1 hk;rw[uA hf hs hbf hO (λh'=>h ((hcv _).2 h')) hk' hm];simp only[hk',γ3];obtain⟨hk1,hk2,hk3⟩:=qK hk';rw[hsl] at hk1;have hk0:bN fx k.toNat 0=0:=qL hfix hf.r (by omega) hk2 hk3;have n1:=kN hk1 hk0 (d:=1) (by omega);have n2:=kN hk1 hk0 (d:= -1) (by omega);have hl2:((bp++[zN,zN]).set a.toNat (jf k bp.length)).length=bp.length+2:=by rw[Ω,γh];rfl
     have hl1:(bp++[zN,zN]).length=bp.length+2:=by rw[γh];rfl
     have o1:=ek.uj hok (k:=(bp++[zN,zN]).length) (l:=(bp++[zN,zN]).set a.toNat (jf k bp.length)) hm (by rw[hl1,hl2]) hl2;have o2:=o1.uh (f:=fx.set k.toNat 1) (hf.set (by omega)) (n:=nF (fx.set k.toNat 1)) (a:=(bp.length:Int)+1);have o3:=(@pz p (bI (some m)) bA (nF (fx.set k.toNat 1)) (fK ⟨ch,val,bn,bp,err⟩ a k) ((bp.length:Int)+1) (fx.set k.toNat 1) (hf.set (by omega))).1;have o4:bp.length+2<=(cR p (bI (some m)) bA (nF (fx.set k.toNat 1)) (fK ⟨ch,val,bn,bp,err⟩ a k) ((bp.length:Int)+1) (fx.set k.toNat 1)).bp.length:=by rw[<-hl2];exact o3
     have q1:a<((bp++[zN,zN]).length:Int):=by omega
     have q3:(bp.length:Int)+1<(((bp++[zN,zN]).set a.toNat (jf k bp.length)).length:Int):=by rw[hl2];omega
     have q2:a.toNat<(bp++[zN,zN]).length:=by omega
     exact⟨by omega,by omega,by omega,ha.1,q1,q2,by omega,⟨o1,⟨by omega,q3⟩,hk1,hk0,.inl trivial,by omega⟩,⟨o2,⟨by omega,εW.2 (γl (by omega) o4)⟩,hk1,hk0,.inr trivial,by omega⟩,rfl,rfl⟩
   ·have hO:cF p (bI (some m)) ⟨ch,val,bn,bp,err⟩ fx=⟨ch,val,bn,bp,err⟩:=by
     unfold cF;rw[if_neg (λh=>ε1.2 h.1 ((hcv (val+1)).1 (Int.not_le.1 hlt)))]
    refine⟨⟨fB,fI _ (by omega) (by omega)⟩,?_⟩;refine⟨λh=>?_,λh=>⟨oS,λhk=>?_,λhk=>⟨by omega,λhm=>?_,λhm=>?_⟩⟩⟩
    ·rw[uB hf hs hbf hO ((hcv _).1 h)];refine⟨ha.1,ha.2,by omega,?_,rfl⟩;simp only[Ω];rfl
    ·rw[og hf hs hbf hO (λh'=>h ((hcv _).2 h')) (.inl (γ8.1 hk |>γU.1))];exact⟨rfl,rfl⟩
    ·rw[og hf hs hbf hO (λh'=>h ((hcv _).2 h')) (.inr hm)];exact⟨rfl,rfl⟩
    ·obtain⟨k,hk'⟩:=γs.1 hk;rw[uA hf hs hbf hO (λh'=>h ((hcv _).2 h')) hk' hm];simp only[hk',γ3];obtain⟨hk1,hk2,hk3⟩:=qK hk';rw[hsl] at hk1;have hk0:bN fx k.toNat 0=0:=qL hfix hf.r (by omega) hk2 hk3;have n1:=kN hk1 hk0 (d:=1) (by omega);have n2:=kN hk1 hk0 (d:= -1) (by omega);have hl2:((bp++[zN,zN]).set a.toNat (jf k bp.length)).length=bp.length+2:=by rw[Ω,γh];rfl
     have hl1:(bp++[zN,zN]).length=bp.length+2:=by rw[γh];rfl
     have o1:=ek.uj hok (k:=(bp++[zN,zN]).length) (l:=(bp++[zN,zN]).set a.toNat (jf k bp.length)) hm (by rw[hl1,hl2]) hl2;have o2:=o1.uh (f:=fx.set k.toNat 1) (hf.set (by omega)) (n:=nF (fx.set k.toNat 1)) (a:=(bp.length:Int)+1);have o3:=(@pz p (bI (some m)) bA (nF (fx.set k.toNat 1)) (fK ⟨ch,val,bn,bp,err⟩ a k) ((bp.length:Int)+1) (fx.set k.toNat 1) (hf.set (by omega))).1;have o4:bp.length+2<=(cR p (bI (some m)) bA (nF (fx.set k.toNat 1)) (fK ⟨ch,val,bn,bp,err⟩ a k) ((bp.length:Int)+1) (fx.set k.toNat 1)).bp.length:=by rw[<-hl2];exact o3
     have q1:a<((bp++[zN,zN]).length:Int):=by omega
     have q3:(bp.length:Int)+1<(((bp++[zN,zN]).set a.toNat (jf k bp.length)).length:Int):=by rw[hl2];omega
     have q2:a.toNat<(bp++[zN,zN]).length:=by omega
     exact⟨by omega,by omega,by omega,ha.1,q1,q2,by omega,⟨o1,⟨by omega,q3⟩,hk1,hk0,.inl trivial,by omega⟩,⟨o2,⟨by omega,εW.2 (γl (by omega) o4)⟩,hk1,hk0,.inr trivial,by omega⟩,rfl,rfl⟩
theorem Da:∀n,dD Tryz.prog (s8 n)
 |0=>λa b=>absurd b.2.2 (by omega)
 |n+1=>Sx (Te (Da n))
end Go.Vi
