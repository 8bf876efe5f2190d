import Derived.Test.YtbnhiekmnpikhaaGreatDE12
set_option maxRecDepth 100000
set_option maxHeartbeats 4000000
set_option linter.all false
open Bool renaming eq_false_iff->δN,false_eq_true->τ,and_eq_true->θ
open Classical renaming not_not->γe
open Go.Vi.SV renaming bl->δj,row->γa,sb->γB,si->γj,il->γC,ow->γ1,ptr->γV
open Int renaming toNat_natCast->γk,toNat->ζy,ofNat_lt->εW
open IntCast renaming intCast->κ
open List renaming range->ω,ext_getElem->γ9,replicate->δ,append_nil->γ0,count_pos_iff->δW,all_eq_true->ψ,mem_range->γD,length_take->γz,length_set->Ω,take_length->φ,take->Δ,length->γd,getElem_of_mem->γJ,length_append->γh
open Nat renaming le_refl->π,lt_of_lt_of_le->γl
open Option renaming isSome_eq_false_iff->γ8,isNone_iff_eq_none->γU,isSome_iff_exists->γs,getD_some->γ3
open Rat renaming add_zero->ζT,not_lt->ε1
namespace Go.Vi
open Go.Proofs.YtbnhiekmnpikhaaGreat.Ir
open Go.Proofs
def iC (n:cy):List Int:=if n.1=2 then[n.2.2.1,n.2.2.2.1] else[]
def p8 (n:cy):Bool:=if n.1=1 then mU n else if n.1=2 then pf n else if n.1=3 then q9 n else false
def fY (t:List cy) (i:Nat):List Int:=(t.take i).flatMap iC
def j3 (n:Nat) (c:List Int):List Int:=(cz n).map λk=>(c.count k:Int)
def rh (n:Nat) (i:Int) (c:List Int):List Int->Bool
 |[]=>true
 |x::r=>decide (i<x/\x<n)&&decide (x∉c)&&rh n i (c++[x]) r
def jL (t:List cy) (i:Nat):Bool:=p8 (bN t i Ao.bw)&&rh t.length i (fY t i) (iC (bN t i Ao.bw))
def dr (t:List cy):Bool:=decide (1<=t.length/\t.length<=65536)&&((ω t.length).all (jL t)&&(ω (t.length - 1)).all λk=>decide (((k:Int)+1)∈fY t t.length))
theorem uu {n:Nat} {c:List Int}:(j3 n c).length=n:=by simp[j3,gQ]
theorem ur {n j:Nat} {c:List Int} (h:j<n):bN (j3 n c) j 0=(c.count (j:Int):Nat):=by
 grind[j3,bV,cz]
theorem JG {n:Nat} {c:List Int} {x:Int} (l:0<=x) (g:x<n):(j3 n c).set x.toNat (bN (j3 n c) x.toNat 0+1)=j3 n (c++[x]):=by
 refine γ9 (by grind[uu]) λj h i=>?_;have a:j<n:=by grind[uu]
 have e:x.toNat<n:=by omega
 have b:=@ur n j (c++[x]) a;rw[bV (by omega)] at b;rw[b,List.getElem_set];have k:=@ur n x.toNat c e;by_cases f:x.toNat=j;·grind
 ·rw[if_neg f];have d:=@ur n j c a;rw[bV (by simp_all)] at d;grind
theorem Tx {n:Nat}:j3 n []=δ n 0:=by
 refine γ9 (by grind[uu]) λj b a=>?_;simp[j3]
theorem JF {t:List cy} {i:Int} (b:0<=i) (a:i<t.length):fY t (i+1).toNat=fY t i.toNat++iC (bN t i.toNat Ao.bw):=by
 grind[fY,ji]
theorem Tw {t:List cy} {i:Nat} (h:i<t.length) (a:jL t i=false):dr t=false:=by
 grind[dr]
theorem Tv {t:List cy} {k:Nat} (h:k<t.length - 1) (a:((k:Int)+1)∉fY t t.length):dr t=false:=by
 unfold dr;grind
def CM:NG:=⟨60,List cy,.one (cO Ao),λt=>∀n∈(show List cy from t),∀x∈n.2.2.2.2,gI x,λt=> .sb (dr t)⟩
def Tu (t:List cy):Nat->bJ
 |5=> .inv Int (λi=>⟨[(0,.row Ao t),(3,.ow 0 t.length 1),(22,.row Ao t),(23,.si .i64 t.length),(24,.si .i64 i)],[.row (.i .i64) (j3 t.length (fY t i.toNat)) 3 true]⟩) (λs=>iS s 24)
  (λi=>0<=i/\i<=t.length/\∀j:Nat,j<i->jL t j=true) (λi=>(t.length - i).toNat) λ_=>λ
   |11=> .apl 3
   |_=> .look
 |19=> .inv Int (λi=>⟨[(66,.os 0 1 (t.length - 1) t.length 1),(67,.si .i64 (t.length - 1:Nat)),(68,.si .i64 i)],[.row (.i .i64) (j3 t.length (fY t t.length)) 3 true]⟩) (λs=>iS s 68)
  (λi=>0<=i/\i<=(t.length - 1:Nat)/\∀j:Nat,j<i->((j:Int)+1)∈fY t t.length) (λi=>((t.length - 1:Nat) - i).toNat) λ_ _=> .look
 |_=> .look
theorem HU:Holds Tryz.prog CM:=by
 refine bM (L:=[BN,D8,D7,D6,CQ,CP,CO,CN,r505]) CM Tu (by simpa using⟨yJ,HQ,HM,HJ,HG,HS,HO,HL,HI⟩) ?_;intro(t:List cy) ht;refine NI (let a:=(0:Int);let b:=δj false;let c:=(1:Int);let d:=γa;let e:=γB;let f:=VL .i64;let g:=γj .i64;let h:=iZ.row;let k:=(2:Int);let l:=γC .i64 0;let p:=(↑t.length:Int);let a9:=decide (p<c);let aa:=decide ((65536:Int)<p);let s:=γ1 0 t.length 1;let o:=(↑t.length:Int);let v:=g o;let C:=ew.i .i64;let E:=decide (p<=a);let R:=t.length - 1;let P:=SV.os 0 1 R t.length 1;let z:=(↑R:Int);let Q:=g z;let M:=j3 t.length (fY t t.length);let S:=h C M 3 true;(a9=true->(b).bi (e (dr t)))/\(a9=false->(aa=true->(b).bi (e (dr t)))/\(aa=false->a<=p/\p<=p/\p*(8:Int)<=(140737488355328:Int)/\p<=(1000000000000:Int)/\((((d Ao t).bi (d Ao t)/\(γ1 0 p.toNat 1).bi s/\(d Ao t).bi (d Ao t)/\(g p).bi v/\(l).bi (g 0)/\True)/\(h C (δ p.toNat a) 3 true).bi (h C (j3 t.length (fY t 0)) 3 true)/\True)/\a<=a/\a<=o/\∀(j:Nat),(↑j:Int)<a->jL t j=true)/\∀(x:Int),let F:=decide (a<=x);let G:=j3 t.length (fY t x.toNat);let n:=G.length;let T:=bN G 0 a;let ab:=decide (a<T);let q:=G.set 0 (T+c);let U:=bN q 0 a;let ac:=decide (a<U);let r:=q.set 0 (U+c);let ad:=bN r 0 a;let ae:=decide (a<ad);let m:=x+c;let y:=g m;let N:=h C (j3 t.length (fY t m.toNat)) 3 true;let V:=h C G 3 true;let w:=bN t x.toNat Ao.bw;let W:=[w.2.2.1,w.2.2.2.1];let D:=bN W 2 a;let A:=bN W 0 a;let X:=bN G A.toNat a;let H:=G.set A.toNat (X+c);let B:=bN W 1 a;let Y:=bN H B.toNat a;let O:=H.set B.toNat (Y+c);let af:=decide (w.1=c);let I:=(w.1,w.2.1,w.2.2.1,w.2.2.2.1,w.2.2.2.2);let ag:=decide (w.1=k);let ah:=decide (a<X);let ai:=decide (a<Y);let aj:=bN O D.toNat a;let ak:=decide (a<aj);let al:=decide (w.1=(3:Int));let Z:=let am:=λ(u:List Int) ↦false=false->f m/\(((d Ao t).bi (d Ao t)/\s.bi s/\(d Ao t).bi (d Ao t)/\v.bi v/\y.bi y/\True)/\(h C u 3 true).bi N/\True)/\(a<=m/\m<=o/\∀(j:Nat),(↑j:Int)<m->jL t j=true)/\(o - m).toNat<(o - x).toNat;True/\(false=true->a<=a/\a<a/\0<0/\(F=true->(b).bi (e (dr t)))/\(F=false->(E=true->(b).bi (e (dr t)))/\(E=false->t.length=n/\a<=a/\a<(↑n:Int)/\t.length=n/\0<n/\(ab=true->(b).bi (e (dr t)))/\(ab=false->t.length=n/\a<=a/\a<(↑n:Int)/\t.length=n/\0<n/\f (T+c)/\t.length=n/\a<=a/\a<(↑n:Int)/\t.length=n/\0<n/\(false=true->a<=c/\c<a/\1<0/\(F=true->(b).bi (e (dr t)))/\(F=false->(E=true->(b).bi (e (dr t)))/\(E=false->t.length=q.length/\a<=a/\a<(↑q.length:Int)/\t.length=q.length/\0<q.length/\(ac=true->(b).bi (e (dr t)))/\(ac=false->t.length=q.length/\a<=a/\a<(↑q.length:Int)/\t.length=q.length/\0<q.length/\f (U+c)/\t.length=q.length/\a<=a/\a<(↑q.length:Int)/\t.length=q.length/\0<q.length/\(false=true->a<=k/\k<a/\2<0/\(F=true->(b).bi (e (dr t)))/\(F=false->(E=true->(b).bi (e (dr t)))/\(E=false->t.length=r.length/\a<=a/\a<(↑r.length:Int)/\t.length=r.length/\0<r.length/\(ae=true->(b).bi (e (dr t)))/\(ae=false->t.length=r.length/\a<=a/\a<(↑r.length:Int)/\t.length=r.length/\0<r.length/\f (ad+c)/\t.length=r.length/\a<=a/\a<(↑r.length:Int)/\t.length=r.length/\0<r.length/\False))))/\am r))))/\am q))))/\(false=false->f m/\(((d Ao t).bi (d Ao t)/\s.bi s/\(d Ao t).bi (d Ao t)/\v.bi v/\y.bi y/\True)/\V.bi N/\True)/\(a<=m/\m<=o/\∀(j:Nat),(↑j:Int)<m->jL t j=true)/\(o - m).toNat<(o - x).toNat);let a0:=D<(↑O.length:Int);let a1:=D.toNat<O.length;let J:=t.length=O.length;let a2:=B<(↑H.length:Int);let a3:=B.toNat<H.length;let K:=t.length=H.length;let a4:=A<(↑n:Int);let a5:=A.toNat<n;let a6:=a<=D;let a7:=a<=A;let a8:=a<=B;(a<=x/\x<=o/\∀(j:Nat),(↑j:Int)<x->jL t j=true)->(decide (x<o)=true->a<=x/\x<p/\x.toNat<t.length/\True/\(af=true->(∀(x:NH),x∈w.2.2.2.2->gI x)/\((!mU I)=true->(b).bi (e (dr t)))/\((!mU I)=false->Z))/\(af=false->(ag=true->True/\((!pf I)=true->(b).bi (e (dr t)))/\((!pf I)=false->True/\(true=true->a<=a/\a<k/\0<2/\(decide (A<=x)=true->(b).bi (e (dr t)))/\(decide (A<=x)=false->(decide (p<=A)=true->(b).bi (e (dr t)))/\(decide (p<=A)=false->t.length=n/\a7/\a4/\t.length=n/\a5/\(ah=true->(b).bi (e (dr t)))/\(ah=false->t.length=n/\a7/\a4/\t.length=n/\a5/\f (X+c)/\t.length=n/\a7/\a4/\t.length=n/\a5/\(true=true->a<=c/\c<k/\1<2/\(decide (B<=x)=true->(b).bi (e (dr t)))/\(decide (B<=x)=false->(decide (p<=B)=true->(b).bi (e (dr t)))/\(decide (p<=B)=false->K/\a8/\a2/\K/\a3/\(ai=true->(b).bi (e (dr t)))/\(ai=false->K/\a8/\a2/\K/\a3/\f (Y+c)/\K/\a8/\a2/\K/\a3/\(false=true->a<=k/\k<k/\2<2/\(decide (D<=x)=true->(b).bi (e (dr t)))/\(decide (D<=x)=false->(decide (p<=D)=true->(b).bi (e (dr t)))/\(decide (p<=D)=false->J/\a6/\a0/\J/\a1/\(ak=true->(b).bi (e (dr t)))/\(ak=false->J/\a6/\a0/\J/\a1/\f (aj+c)/\J/\a6/\a0/\J/\a1/\False))))/\(false=false->f m/\(((d Ao t).bi (d Ao t)/\s.bi s/\(d Ao t).bi (d Ao t)/\v.bi v/\y.bi y/\True)/\(h C O 3 true).bi N/\True)/\(a<=m/\m<=o/\∀(j:Nat),(↑j:Int)<m->jL t j=true)/\(o - m).toNat<(o - x).toNat)))))/\(true=false->f m/\(((d Ao t).bi (d Ao t)/\s.bi s/\(d Ao t).bi (d Ao t)/\v.bi v/\y.bi y/\True)/\(h C H 3 true).bi N/\True)/\(a<=m/\m<=o/\∀(j:Nat),(↑j:Int)<m->jL t j=true)/\(o - m).toNat<(o - x).toNat)))))/\(true=false->f m/\(((d Ao t).bi (d Ao t)/\s.bi s/\(d Ao t).bi (d Ao t)/\v.bi v/\y.bi y/\True)/\V.bi N/\True)/\(a<=m/\m<=o/\∀(j:Nat),(↑j:Int)<m->jL t j=true)/\(o - m).toNat<(o - x).toNat)))/\(ag=false->(al=true->True/\((!q9 I)=true->(b).bi (e (dr t)))/\((!q9 I)=false->Z))/\(al=false->True/\(true=true->(b).bi (e (dr t)))/\(true=false->Z)))))/\(decide (x<o)=false->t.length=n/\1<=t.length/\t.length<=t.length/\(((P.bi P/\Q.bi Q/\(l).bi (g 0)/\True)/\V.bi S/\True)/\a<=a/\a<=z/\∀(j:Nat),(↑j:Int)<a->(↑j:Int)+c∈fY t t.length)/\∀(x:Int),let an:=decide (bN M (1+x.toNat) 0=a);let L:=x+c;let ao:=g L;(a<=x/\x<=z/\∀(j:Nat),(↑j:Int)<x->(↑j:Int)+c∈fY t t.length)->(decide (x<z)=true->t.length=M.length/\a<=x/\x<z/\1+R<=t.length/\t.length=M.length/\1+x.toNat<M.length/\(an=true->(b).bi (e (dr t)))/\(an=false->f L/\((P.bi P/\Q.bi Q/\ao.bi ao/\True)/\S.bi S/\True)/\(a<=L/\L<=z/\∀(j:Nat),(↑j:Int)<L->(↑j:Int)+c∈fY t t.length)/\(z - L).toNat<(z - x).toNat))/\(decide (x<z)=false->(δj true).bi (e (dr t))))))) (by kernel_rfl) ?_;simp only[vcs];refine⟨λh=>?_,λh1=>⟨λh=>?_,λh2=>?_⟩⟩
 ·have:¬(1<=t.length/\t.length<=65536):=by omega
  simp[dr,this]
 ·have:¬(1<=t.length/\t.length<=65536):=by omega
  simp[dr,this]
 have hrow:∀{x y:List Int},x=y->(iZ.row (.i .i64) x 3 true).bi (iZ.row (.i .i64) y 3 true):=by rintro _ _ rfl;rfl
 have how:∀{x y:Nat},x=y->(γ1 0 x 1).bi (γ1 0 y 1):=by rintro _ _ rfl;rfl
 refine⟨by omega,by omega,by omega,by omega,⟨⟨how (by omega),hrow ?_⟩,by omega,by omega,λj hj=>by omega⟩,?_⟩;·rw[show fY t 0=[] from rfl,Tx];simp
 rintro i ⟨i0,i1,hi⟩;refine⟨λhlt=>?_,λhge=>?_⟩
 ·have hil:i.toNat<t.length:=by omega
  have hm:=ht _ (cA (d:=Ao.bw) hil);have hs:=JF i0 hlt;have hg:jL t i.toNat=(p8 (bN t i.toNat Ao.bw)&&rh t.length i (fY t i.toNat) (iC (bN t i.toNat Ao.bw))):=by
   unfold jL;rw[show((i.toNat:Nat):Int)=i by omega]
  generalize bN t i.toNat Ao.bw=N at*;obtain⟨k,o,a,b,y⟩:=N;generalize hc:fY t i.toNat=c at*;have no:jL t i.toNat=false->false=dr t:=λh=>(Tw hil h).symm;have fin:jL t i.toNat=true->(∀j:Nat,(j:Int)<i+1->jL t j=true):=λh j hj=>by
   by_cases h2:(j:Int)<i;·exact hi j h2
   ·rw[show j=i.toNat by omega];exact h
  have hl:=@uu t.length c;have w1:k=1->p8 (k,o,a,b,y)=mU (k,o,a,b,y):=λh=>if_pos h;have w2:¬k=1->k=2->p8 (k,o,a,b,y)=pf (k,o,a,b,y):=λh h'=>(if_neg h).trans (if_pos h');have w3:¬k=1->¬k=2->k=3->p8 (k,o,a,b,y)=q9 (k,o,a,b,y):=λh h' h''=>(if_neg h).trans ((if_neg h').trans (if_pos h''));have w4:¬k=1->¬k=2->¬k=3->p8 (k,o,a,b,y)=false:=λh h' h''=>(if_neg h).trans ((if_neg h').trans (if_neg h''));have kd1:¬k=2->iC (k,o,a,b,y)=[]:=λh=>if_neg h;have kd2:k=2->iC (k,o,a,b,y)=[a,b]:=λh=>if_pos h;have ea:bN [a,b] 0 0=a:=rfl;have eb:bN [a,b] 1 0=b:=rfl;dsimp only;simp only[ea,eb];refine⟨i0,hlt,hil,λh1=>⟨hm,λhw=>no ?_,λhw=>⟨λh=>(by cases h),λ_=>⟨⟨by omega,by omega⟩,hrow ?_,⟨by omega,by omega,fin ?_⟩,by omega⟩⟩⟩,λh1=>⟨λh2=>?_,λh2=>⟨λh3=>⟨λhw=>no ?_,λhw=>⟨λh=>(by cases h),λ_=>⟨⟨by omega,by omega⟩,hrow ?_,⟨by omega,by omega,fin ?_⟩,by omega⟩⟩⟩,λh3=>⟨λ_=>no ?_,λh=>(by cases h)⟩⟩⟩⟩;·rw[hg,w1 h1,hw];rfl
  ·rw[hs,kd1 (by omega),γ0]
  ·rw[hg,w1 h1,kd1 (by omega),hw];rfl
  ·have hg2:jL t i.toNat=(pf (k,o,a,b,y)&&(decide (i<a/\a<t.length)&&decide (a∉c)&&(decide (i<b/\b<t.length)&&decide (b∉c++[a])&&true))):=by rw[hg,w2 h1 h2,kd2 h2];rfl
   rw[kd2 h2] at hs;refine⟨λhw=>no ?_,λhw=>⟨λ_=>⟨by omega,by omega,by omega,λha=>no ?_,λha=>⟨λhb=>no ?_,λhb=>?_⟩⟩,λh=>(by cases h)⟩⟩;·rw[hg2,hw];rfl
   ·rw[hg2,decide_eq_false (p:=i<a/\a<t.length) (by omega)];simp
   ·rw[hg2,decide_eq_false (p:=i<a/\a<t.length) (by omega)];simp
   have hat:a.toNat<t.length:=by omega
   have ca:=@ur t.length a.toNat c hat;rw[show((a.toNat:Nat):Int)=a by omega] at ca;have pa:=@JG t.length c a (by omega) (by omega);have la:0<=a/\a<(j3 t.length c).length:=by rw[hl];omega
   have la2:a.toNat<(j3 t.length c).length:=by rw[hl];exact hat
   refine⟨hl.symm,la.1,la.2,hl.symm,la2,λhc1=>no ?_,λhc1=>⟨hl.symm,la.1,la.2,hl.symm,la2,⟨by omega,by omega⟩,hl.symm,la.1,la.2,hl.symm,la2,λ_=>?_,λh=>(by cases h)⟩⟩
   ·have:a∈c:=δW.1 (by omega);rw[hg2,decide_eq_false (p:=a∉c) (by simpa using this)];simp
   have hac:a∉c:=λh=>by have:=δW.2 h;omega
   simp only[pa];have hl2:=@uu t.length (c++[a]);refine⟨by omega,by omega,by omega,λhb1=>no ?_,λhb1=>⟨λhb2=>no ?_,λhb2=>?_⟩⟩;·rw[hg2,decide_eq_false (p:=i<b/\b<t.length) (by omega)];simp
   ·rw[hg2,decide_eq_false (p:=i<b/\b<t.length) (by omega)];simp
   have hbt:b.toNat<t.length:=by omega
   have cb:=@ur t.length b.toNat (c++[a]) hbt;rw[show((b.toNat:Nat):Int)=b by omega] at cb;have pb:=@JG t.length (c++[a]) b (by omega) (by omega);have lb:0<=b/\b<(j3 t.length (c++[a])).length:=by rw[hl2];omega
   have lb2:b.toNat<(j3 t.length (c++[a])).length:=by rw[hl2];exact hbt
   refine⟨hl2.symm,lb.1,lb.2,hl2.symm,lb2,λhc2=>no ?_,λhc2=>⟨hl2.symm,lb.1,lb.2,hl2.symm,lb2,⟨by omega,by omega⟩,hl2.symm,lb.1,lb.2,hl2.symm,lb2,λh=>(by cases h),λ_=>⟨⟨by omega,by omega⟩,hrow ?_,⟨by omega,by omega,fin ?_⟩,by omega⟩⟩⟩
   ·have:b∈c++[a]:=δW.1 (by omega);rw[hg2,decide_eq_false (p:=b∉c++[a]) λh=>h this];simp
   ·rw[pb,hs,List.append_assoc];rfl
   ·have hbc:b∉c++[a]:=λh=>by have:=δW.2 h;omega
    rw[hg2,hw,decide_eq_true (p:=i<a/\a<t.length) (by omega),decide_eq_true (p:=i<b/\b<t.length) (by omega),decide_eq_true hac,decide_eq_true hbc];rfl
  ·rw[hg,w3 h1 h2 h3,hw];rfl
  ·rw[hs,kd1 h2,γ0]
  ·rw[hg,w3 h1 h2 h3,kd1 h2,hw];rfl
  ·rw[hg,w4 h1 h2 h3];rfl
 ·rw[show i.toNat=t.length by omega];have hl:=@uu t.length (fY t t.length);refine⟨hl.symm,by omega,by omega,⟨hrow rfl,by omega,by omega,λj hj=>by omega⟩,?_⟩;rintro x ⟨x0,x1,hx⟩;refine⟨λhlt=>?_,λayY=>?_⟩
  ·have cx:=@ur t.length (1+x.toNat) (fY t t.length) (by omega);rw[show(((1+x.toNat:Nat)):Int)=(x.toNat:Int)+1 by omega] at cx;refine⟨hl.symm,x0,hlt,by omega,hl.symm,by rw[hl];omega,λh=>?_,λh=>⟨⟨by omega,by omega⟩,⟨by omega,by omega,λj hj=>?_⟩,by omega⟩⟩;·exact(Tv (k:=x.toNat) (by omega) λhm=>by have:=δW.2 hm;omega).symm
   ·by_cases hj2:(j:Int)<x;·exact hx j hj2
    ·rw[show j=x.toNat by omega];exact δW.1 (by omega)
  ·symm;unfold dr;rw[decide_eq_true (by omega),ψ.2 λk hk=>hi k (by have:=γD.1 hk;omega),ψ.2 λk hk=>decide_eq_true (hx k (by have:=γD.1 hk;omega))];rfl
theorem pg {W:Int} (a: -9223372036854775808<=W) (b:W<=9223372036854775807):Sz 2 (W:Rat):=by
 unfold Sz;simp;omega
def gX (p:cj) (y:List Rat) (r:Nat) (i:Int):Rat:=((oI p i).value:Rat) - Ov r λk=>bN y k 0*((dz p k (oI p i):Int):Rat)
def jI (p:cj) (f:List Int) (y:List Rat) (r:Nat):Rat:=((fN p f:Int):Rat)+Ov r λk=>bN y k 0*((cC p k - bZ p ((zi f 1).map (oI p)) k:Int):Rat)
def lf (p:cj) (f:List Int) (r:Int) (k:Nat):Int:=cC p r - bZ p ((zi (f.take k) 1).map (oI p)) r
theorem R8 {a:Type} {n j:Nat} (g:Int->a) (d:a) (h:j<n):bN ((cz n).map g) j d=g j:=by
 grind[bV,cz]
theorem CL {c:Type} {a b:List c} (d:c) (e:a.length=b.length) (h:∀j,j<a.length->bN a j d=bN b j d):a=b:=by
 refine γ9 e λj f g=>?_;grind[bV]
theorem R7 {p:cj} {f:List Int} {y:List Rat}:jI p f y 0=((fN p f:Int):Rat):=by
 grind[jI,Ov]
theorem JE {p:cj} {f:List Int} {y:List Rat} {r:Nat}:jI p f y (r+1)=jI p f y r+bN y r 0*((cC p r - bZ p ((zi f 1).map (oI p)) r:Int):Rat):=by
 grind[jI,Ov]
theorem CK {p:cj} {y:List Rat} {r:Nat} {i:Int}:gX p y (r+1) i=gX p y r i - bN y r 0*((dz p r (oI p i):Int):Rat):=by
 grind[gX,Ov]
theorem JD {p:cj} {r:Int}:(gw p r p.bj.length).length=p.bj.length:=by grind[gw]
theorem R6 {p:cj} {r i:Int} (h:0<=i/\i<p.bj.length):bN (gw p r p.bj.length) i.toNat 0=dz p r (oI p i):=by
 grind[gw,bV,oI]
theorem R5 {p:cj} {f:List Int} {r:Int}:lf p f r 0=cC p r:=by
 simp_all[lf,zi,cz,bZ]
theorem R4 {p:cj} {f:List Int} {r k:Int} (a:0<=k) (h:k<f.length):lf p f r (k+1).toNat=lf p f r k.toNat - if bN f k.toNat 0=1 then dz p r (oI p k) else 0:=by
 grind[lf,wQ,bZ]
theorem JC {p:cj} {f:List Int} {r:Int}:lf p f r f.length=cC p r - bZ p ((zi f 1).map (oI p)) r:=by
 grind[lf]
theorem JB {p:cj} {f:List Int} {r:Int} {k:Nat} (a:nW p=0) (j:f.length=p.bj.length): -640<=lf p f r k/\lf p f r k<=4:=by
 have g:=@yd p a r;have b:=@qv p r ((zi (f.take k) 1).map (oI p)) λx d=>by
  obtain⟨i,e,rfl⟩:=List.mem_map.1 d;have:=(jO.1 e).1;rw[γz] at this;exact(js a (i:=i) (by omega)).2.2.1
 have c:=@ri (f.take k) 1;rw[List.length_map] at b;rw[γz] at c;have h:=(cL a).2.1;grind[lf]
section
variable {p:cj} {f:List Int}
theorem R3 (h:dW p f) {i:Int} (c:0<=i/\i<f.length) (d:bN f i.toNat 0=0):gX p (gv p f) (mF p) i<=0:=by
 have a:i∈zi f 0:=jO.2 ⟨c,d⟩;have b:(zi f 0).idxOf i<nF f:=List.idxOf_lt_length_of_mem a;have g:=S1 h b;have e:bN (zi f 0) ((zi f 0).idxOf i) 0=i:=by grind[bV]
 grind[wT,cX,vW,gX]
theorem R1 (h:dW p f):jI p f (gv p f) (mF p)=g_ p f:=by
 grind[jI,g_,KU,cX,vV]
end
def mq (p:cj) (f:List Int) (y:List Rat) (r k:Nat) (i:Int):Rat:=if bN f i.toNat 0=0 then gX p y (if i<(k:Int) then r+1 else r) i else(((oI p i).value:Int):Rat)
def fX (p:cj) (f:List Int) (y:List Rat) (r k:Nat):List NH:=(cz p.bj.length).map λ(i:Int)=>nf (mq p f y r k i)
def gW (p:cj) (f:List Int) (y:List Rat) (i:Nat):Rat:=jI p f y (mF p)+Ov i λk=>if bN f k 0=0/\0<gX p y (mF p) k then gX p y (mF p) k else 0
def px (n:Nat) (K:Nat->Nat):Nat:=match n with
 |0=>0
 |n+1=>px n K+K n
def uh (p:cj) (y:List Rat):Prop:=∃K:Nat->Nat,(∀k,k<mF p->Sz (K k) (bN y k 0))/\px (mF p) K<=9000000
def sy (p:cj) (f:List Int) (x:List NH):Prop:=(nW p=0/\f.length=p.bj.length/\iN f=true)/\∃y,x=fL y/\y.length=mF p/\uh p y
def dh (x:List NH):Bool:=x.all λe=>!e.1
theorem uq {p:cj} {f:List Int} {y:List Rat} {r k:Nat}:(fX p f y r k).length=p.bj.length:=by grind[fX,gQ]
theorem uo {p:cj} {f:List Int} {y:List Rat} {r k j:Nat} (h:j<p.bj.length) {d:NH}:bN (fX p f y r k) j d=nf (mq p f y r k j):=R8 _ _ h
theorem CJ {p:cj} {f:List Int} {y:List Rat} {r k a b:Nat} (h:∀j:Nat,j<p.bj.length->mq p f y r k j=mq p f y a b j):fX p f y r k=fX p f y a b:=by
 refine CL (false,([],[])) (by grind[uq]) λj c=>?_;grind[uq,uo]
theorem R0 {p:cj} {f:List Int} {y:List Rat} {i:Int} (a:0<=i):mq p f y 0 0 i=(((oI p i).value:Int):Rat):=by
 unfold mq;rw[if_neg (show ¬i<((0:Nat):Int) by omega)];grind[gX,Ov]
theorem RZ {p:cj} {f:List Int} {y:List Rat} {r:Nat}:fX p f y r p.bj.length=fX p f y (r+1) 0:=CJ λj a=>by
 simp_all[mq,if_neg]
theorem CI {p:cj} {f:List Int} {y:List Rat} {r:Nat} {k:Int} (c:0<=k) (h:bN f k.toNat 0≠0\/dz p r (oI p k)=0\/bN y r 0=0):fX p f y r k.toNat=fX p f y r (k+1).toNat:=CJ λj a=>by
 unfold mq;by_cases a:(j:Int)=k
 ·rw[if_neg (show ¬(j:Int)<((k.toNat:Nat):Int) by omega),if_pos (show(j:Int)<(((k+1).toNat:Nat):Int) by omega),a];split
  ·rename_i b;rw[CK];rcases h with h|h|h;·omega
   ·rw[h];grind
   ·rw[h];grind
  ·rfl
 grind
theorem RY {p:cj} {f:List Int} {y:List Rat} {r:Nat} (h:bN y r 0=0):fX p f y r 0=fX p f y (r+1) 0:=CJ λj a=>by
 unfold mq;rw[if_neg (show ¬(j:Int)<((0:Nat):Int) by omega),if_neg (show ¬(j:Int)<((0:Nat):Int) by omega),CK,h];split<;>grind
theorem RX {p:cj} {f:List Int} {y:List Rat} {r:Nat} {k:Int} (c:0<=k) (h:k<p.bj.length) (b:bN f k.toNat 0=0):(fX p f y r k.toNat).set k.toNat (nf (gX p y (r+1) k))=fX p f y r (k+1).toNat:=by
 refine CL (false,([],[])) (by grind[uq]) λj a=>?_;rw[Ω,uq] at a;rw[gM (by grind[uq]),uo a,uo a];unfold mq;grind
theorem RW {p:cj} {f:List Int} {y:List Rat} {r:Nat} {k:Int} (b:0<=k) (a:bN f k.toNat 0=0):mq p f y r k.toNat k=gX p y r k:=by
 unfold mq;grind
theorem RV {p:cj} {f:List Int} {y:List Rat} {r:Nat} (h:bN y r 0=0):jI p f y r=jI p f y (r+1):=by
 grind[JE]
theorem JA {p:cj} {f:List Int} {y:List Rat}:gW p f y 0=jI p f y (mF p):=by
 grind[gW,Ov]
theorem Jz {p:cj} {f:List Int} {y:List Rat} {i:Int} (a:0<=i):gW p f y (i+1).toNat=gW p f y i.toNat+if bN f i.toNat 0=0/\0<gX p y (mF p) i then gX p y (mF p) i else 0:=by
 rw[show(i+1).toNat=i.toNat+1 by omega];grind[gW,Ov]
section
variable {p:cj} {f:List Int} {y:List Rat}
theorem Jy {K:Nat->Nat}:∀{n k:Nat},k<n->K k<=px n K
 |0,_,h=>by omega;|n+1,k,h=>by
  simp only[px];by_cases e:k=n;·rw[e];omega
  ·have:=@Jy K n k (by omega);omega
theorem Jx {g:Nat->Rat} {K:Nat->Nat} {c:Nat}:∀{n:Nat},(∀k,k<n->Sz (K k+c) (g k))->Sz (px n K+n*(c+1)+1) (Ov n g)
 |0,_=>by
  simp only[Ov];exact(show Sz 1 0 by simp_all[Sz]).mono (by omega);|n+1,h=>by
  simp only[Ov,px];have a:Sz (px n K+n*(c+1)+1) (Ov n g):=Jx λk b=>h k (by omega);exact(wY a (h n (by omega))).mono (by grind)
theorem Jw (h:uh p y) {k:Nat} (a:k<mF p):Sz 9000000 (bN y k 0):=by
 obtain⟨K,b,c⟩:=h;exact(b k a).mono (by have:=@Jy K _ _ a;omega)
def oh (y:List Rat) (m:Nat) (C:Int) (q:Rat):Prop:=∃(c:Int) (z:Nat->Int),(-C<=c/\c<=C)/\(∀r,r<m-> -C<=z r/\z r<=C)/\q=(c:Rat)+Ov m λr=>bN y r 0*((z r:Int):Rat)
theorem RU {m:Nat} {C D:Int} {q b:Rat} (h:oh y m C q) (j:oh y m D b):oh y m (C+D) (q+b):=by
 obtain⟨c,z,l,o,n⟩:=h;obtain⟨f,a,g,d,i⟩:=j;refine⟨c+f,λr=>z r+a r,by omega,λr k=>?_,?_⟩;·grind
 ·have e:(Ov m λr=>bN y r 0*(((z r+a r:Int)):Rat))=(Ov m λr=>bN y r 0*((z r:Int):Rat))+Ov m λr=>bN y r 0*((a r:Int):Rat):=by
   simp_all[vB,Rat.mul_add]
  grind
theorem RT {m:Nat} {C D:Int} {q:Rat} (h:oh y m C q) (f:C<=D):oh y m D q:=by
 obtain⟨c,z,b,e,a⟩:=h;exact⟨c,z,by omega,λr d=>by grind,a⟩
theorem RS {m:Nat} {C:Int} (a:0<=C):oh y m C 0:=⟨0,λ_=>0,by omega,λ_ _=>⟨by simp_all,a⟩,by
 simp_all[gN,ζT]⟩
theorem CH {C:Int} {q:Rat} (h:oh y (mF p) C q) (g:C<=9223372036854775807) (b:uh p y) (j:mF p<=20):Sz 9000100 q:=by
 obtain⟨c,z,k,f,rfl⟩:=h;obtain⟨K,i,d⟩:=b;have a:Sz (px (mF p) K+mF p*3+1) (Ov (mF p) λr=>bN y r 0*((z r:Int):Rat)):=Jx (c:=2) λr e=>by
  grind[sg,pg]
 refine(wY (pg (W:=c) (by omega) (by omega)) a).mono ?_;omega
theorem Jv {g:Nat->Rat} {r:Nat}:∀{m:Nat},r<=m->(Ov m λk=>if k<r then g k else 0)=Ov r g
 |0,h=>by rw[show r=0 by omega];rfl;|m+1,h=>by
  by_cases e:r=m+1;·simp_all[cX]
  ·simp only[Ov];rw[if_neg (by omega),ζT];exact Jv (by omega)
theorem Ju {r m:Nat} (a:r<=m) {C c:Int} {z:Nat->Int} (b: -C<=c/\c<=C) (e:∀k,k<r-> -C<=z k/\z k<=C):oh y m C ((c:Rat)+Ov r λk=>bN y k 0*((z k:Int):Rat)):=by
 refine⟨c,λk=>if k<r then z k else 0,b,λk d=>?_,?_⟩;·grind
 ·rw[<-Jv a];congr 1;refine cX λk _=>?_;show _=bN y k 0*(((if k<r then z k else 0:Int)):Rat);split<;>simp_all
theorem Jt (d:nW p=0) {r:Nat} (a:r<=mF p) {i:Int} (c:0<=i/\i<p.bj.length):oh y (mF p) 1000000 (gX p y r i):=by
 have b:=js d c;have h:=@Ju y r (mF p) a 1000000 (oI p i).value (λk=> -dz p k (oI p i)) (by omega) λk _=>by
  have:=@nO p k _ b.2.2.1;omega
 have e:gX p y r i=(((oI p i).value:Int):Rat)+Ov r λk=>bN y k 0*(((-dz p k (oI p i):Int)):Rat):=by
  unfold gX;rw[Rat.sub_eq_add_neg];congr 1;rw[show(-(Ov r λk=>bN y k 0*((dz p k (oI p i):Int):Rat)))=(-1)*(Ov r λk=>bN y k 0*((dz p k (oI p i):Int):Rat)) by grind,<-sO];grind
 simp_all
theorem Js (b:nW p=0) (a:f.length=p.bj.length) {r:Nat} (d:r<=mF p):oh y (mF p) 1000000000 (jI p f y r):=by
 have c:=@wP p b f f.length a;rw[φ] at c;unfold jI;refine Ju d (by omega) λk _=>?_;have e:=@JB p f k f.length b a;grind[JC]
theorem Jr (e:nW p=0) (c:f.length=p.bj.length):∀{i:Nat},i<=f.length->oh y (mF p) (1000000000+1000000*i) (gW p f y i)
 |0,_=>by grind[JA,Js];|i+1,h=>by
  have a:=@Jz p f y i (by omega);rw[show((i:Int)+1).toNat=i+1 by omega,γk] at a;rw[a];have b:=Jr e c (i:=i) (by omega);have d:oh y (mF p) 1000000 (if bN f i 0=0/\0<gX p y (mF p) i then gX p y (mF p) i else 0):=by
   grind[Jt,RS]
  exact RT (RU b d) (by omega)
theorem BL (a:nW p=0):mF p<=20:=by have:=(cL a).1;grind
theorem Jq (a:nW p=0) (d:uh p y) {r:Nat} (b:r<=mF p) {i:Int} (c:0<=i/\i<p.bj.length):Sz 9000100 (gX p y r i):=CH (Jt a b c) (by omega) d (BL a)
theorem RR (a:nW p=0) (c:f.length=p.bj.length) (d:uh p y) {r:Nat} (b:r<=mF p):Sz 9000100 (jI p f y r):=CH (Js a c b) (by omega) d (BL a)
theorem Jp (a:nW p=0) (c:f.length=p.bj.length) (b:uh p y) {i:Nat} (d:i<=f.length):Sz 9000100 (gW p f y i):=CH (Jr a c d) (by have:=(cL a).2.1;omega) b (BL a)
end
def RP (f:FuncId) {c:Type} (A:oA c) (e:c->Prop) (d:c->SV):cU where
 f:=f;α:=c;put:=A.put;st _:=[];dec v o:=match o with
  |[]=>A.dec v
  |_=>none;ok v o a h:=by
  split at h;·exact⟨A.ok _ _ h,rfl⟩
  ·cases h
 inj a b h _:=A.inj _ _ h;dom:=e;res:=d;out _:=[]
def CG:cU:=RP 135 (.cons cV (.one (cO (.i .i64)))) (λ(a:cj×List Int)=>nW a.1=0/\a.2.length=a.1.bj.length) λa=>nH (κ (fN a.1 a.2))
def RO (p:cj) (f:List Int):Nat->bJ
 |3=> .inv Int (λi=>⟨[(2,.ptr 0 0 20),(4,.ptr 1 0 3),(5,.si .i64 (fN p (f.take i.toNat))),(8,.row (.i .i64) f),(9,.si .i64 f.length),(10,.si .i64 i)],[.cells p.ss 27 20 false,.cells [.bl false,.sc (.slice none 0 0),.sc (.slice none 0 0)] 177 3 false]⟩)
   (λs=>iS s 10) (λi=>0<=i/\i<=f.length) (λi=>(f.length - i).toNat) λ_ _=> .look
 |_=> .look
theorem y3:dB Tryz.prog CG:=by
 refine wL (L:=[mj]) (W:=[]) CG (λa=>RO a.1 a.2) (by simp) (by simpa using nG) ?_;rintro⟨p,f⟩ ⟨hc,hl⟩;simp only at hc hl;refine NI (let a:=γj .i64;let b:=(0:Int);let c:=γa;let h:=γV 0 0 20;let j:=γV 1 0 3;let s:=γC .i64 0;let k:=c (ew.i .i64) f;let d:=(↑f.length:Int);let o:=a d;let l:=iZ.cells (cj.ss p) 27 20 false;let t:=SV.sc (Value.slice none 0 0);let m:=iZ.cells [δj false,t,t] 177 3 false;let n:=ew.i .u32;let q:=nf (κ (fN p f));(((h.bi h/\j.bi j/\s.bi (a (fN p []))/\k.bi k/\(a (↑f.length:Int)).bi o/\s.bi (a 0)/\True)/\l.bi l/\m.bi m/\True)/\b<=b/\b<=d)/\∀(x:Int),let e:=x+(1:Int);let v:=a e;let w:=decide (bN f x.toNat b=(1:Int));let g:=fN p (Δ x.toNat f);let y:=g+(bN p.bj x.toNat ew.bu.bw).value;let r:=nf (κ g);let z:=λ(u:Int) ↦VL .i64 e/\((h.bi h/\j.bi j/\(a u).bi (a (fN p (Δ e.toNat f)))/\k.bi k/\o.bi o/\v.bi v/\True)/\l.bi l/\m.bi m/\True)/\(b<=e/\e<=d)/\(d - e).toNat<(d - x).toNat;b<=x/\x<=d->(decide (x<d)=true->b<=x/\x<(↑f.length:Int)/\x.toNat<f.length/\(w=true->b<=x/\x<(↑p.bj.length:Int)/\x.toNat<p.bj.length/\VL .i64 y/\z y)/\(w=false->z g))/\(decide (x<d)=false->((-9223372036854775808:Int)<=g/\g<=(9223372036854775807:Int))/\(SV.agg [γB r.1,c n r.2.1,c n r.2.2]).bi (SV.agg [γB q.1,c n q.2.1,c n q.2.2])/\True)) (by kernel_rfl) ?_;simp only[vcs];have h160:=(cL hc).2.1;refine⟨⟨by simp[fN,zi,cz,bF],by omega,by omega⟩,?_⟩;rintro i ⟨i0,i1⟩;have hb:=@wP p hc f i.toNat hl;refine⟨λhi=>?_,λhi=>?_⟩
 ·have hs:=@Kp p f i i0 hi;have ho:=js hc (i:=i) ⟨i0,by omega⟩;have hv:(bN p.bj i.toNat ew.bu.bw).value=(oI p i).value:=rfl;rw[hv];refine⟨i0,hi,by omega,λh1=>?_,λh1=>?_⟩
  ·rw[if_pos h1] at hs;refine⟨i0,?_,?_,?_,?_,?_,?_,?_⟩<;>omega
  ·rw[if_neg h1] at hs;refine⟨?_,?_,?_,?_⟩<;>omega
 ·rw[show f.take i.toNat=f by rw[show i.toNat=f.length by omega,φ]] at hb ⊢;exact⟨by omega,rfl⟩
def Qr (p:cj) (f:List Int) (x:List NH):SV:=.agg [.sb (if dh x=true then(nf (gW p f (vL x) f.length)).1 else false),.row (.i .u32) (if dh x=true then(nf (gW p f (vL x) f.length)).2.1 else[]),.row (.i .u32) (if dh x=true then(nf (gW p f (vL x) f.length)).2.2 else[])]
def CF:NG:=⟨210,cj×List Int×List NH,.cons cV (.cons (cO (.i .i64)) (.one (cO sF))),λa=>sy a.1 a.2.1 a.2.2,λa=> .Gz [Qr a.1 a.2.1 a.2.2,.si .i64 (if dh a.2.2=true then 0 else 4)]⟩
def BK (p:cj) (q:Rat) (ex:List NH):TP:=[.cells p.ss 27 20 false,.cells [.bl false,.sc (.slice none 0 0),.sc (.slice none 0 0)] 177 3 false,.cells [.sb (nf q).1,.row (.i .u32) (nf q).2.1,.row (.i .u32) (nf q).2.2] 177 3 false,.row sF ex 177 true]
noncomputable def RN (p:cj) (f:List Int) (x:List NH):Nat->bJ
 |7=> .inv Int (λi=>⟨[(1,.row (.i .i64) f),(2,.row sF x),(3,.ptr 0 0 20),(6,.ptr 1 0 3),(35,.row sF x),(36,.si .i64 x.length),(37,.si .i64 i)],[.cells p.ss 27 20 false,.cells [.bl false,.sc (.slice none 0 0),.sc (.slice none 0 0)] 177 3 false]⟩)
   (λs=>iS s 37) (λi=>0<=i/\i<=x.length/\dh (x.take i.toNat)=true) (λi=>(x.length - i).toNat) λ_ _=> .look
 |17=> .inv Int (λi=>⟨[(1,.row (.i .i64) f),(2,.row sF x),(3,.ptr 0 0 20),(6,.ptr 1 0 3),(11,.ptr 2 0 3),(12,.ow 3 f.length 3),(57,.si .i64 f.length),(58,.si .i64 i)],BK p (κ (fN p f)) (dU (fX p f (vL x) 0 0) i.toNat (false,([],[])))⟩)
   (λs=>iS s 58) (λi=>0<=i/\i<=f.length) (λi=>(f.length - i).toNat) λ_ _=> .look
 |22=> .inv Int (λr=>⟨[(1,.row (.i .i64) f),(3,.ptr 0 0 20),(6,.ptr 1 0 3),(11,.ptr 2 0 3),(12,.ow 3 f.length 3),(72,.row sF x),(73,.si .i64 x.length),(74,.si .i64 r)],BK p (jI p f (vL x) r.toNat) (fX p f (vL x) r.toNat 0)⟩)
   (λs=>iS s 74) (λr=>0<=r/\r<=x.length) (λr=>(x.length - r).toNat) λr k=>match k with
   |27=> .inv Int (λk=>⟨[(1,.row (.i .i64) f),(3,.ptr 0 0 20),(6,.ptr 1 0 3),(11,.ptr 2 0 3),(12,.ow 3 f.length 3),(15,.ptr 4 0 3),(17,.si .i64 (lf p f r k.toNat)),(72,.row sF x),(73,.si .i64 x.length),(74,.si .i64 r),(88,.row (.i .i64) (gw p r p.bj.length)),(89,.si .i64 f.length),(90,.si .i64 k)],
      BK p (jI p f (vL x) r.toNat) (fX p f (vL x) r.toNat k.toNat)++[.cells [.sb (bN x r.toNat sF.bw).1,.row (.i .u32) (bN x r.toNat sF.bw).2.1,.row (.i .u32) (bN x r.toNat sF.bw).2.2] 177 3 false]⟩)
     (λs=>iS s 90) (λk=>0<=k/\k<=f.length) (λk=>(f.length - k).toNat) λ_ _=> .look
   |_=> .look
 |38=> .inv Int (λi=>⟨[(6,.ptr 1 0 3),(11,.ptr 2 0 3),(12,.ow 3 f.length 3),(133,.row (.i .i64) f),(134,.si .i64 f.length),(135,.si .i64 i)],BK p (gW p f (vL x) i.toNat) (fX p f (vL x) (mF p) 0)⟩)
   (λs=>iS s 135) (λi=>0<=i/\i<=f.length) (λi=>(f.length - i).toNat) λ_ _=> .look
 |_=> .look
theorem HP:Holds Tryz.prog CF:=by
 refine j6 (L:=[zI,vH,sh,p_,mj,zx,wV,wE,sH]) (W:=fT [CG]) CF (λa=>RN a.1 a.2.1 a.2.2) (kd (by simpa using y3)) (by simpa using⟨yO,qP,nD,sA,nG,yQ,tZ,Cj,o9⟩) ?_;rintro⟨p,f,x⟩ ⟨⟨hc,hl,hr⟩,y,hx,hyl,hy⟩;simp only at hc hl hr hx hyl hy;refine NI (let a:=γa;let c:=γj .i64;let d:=(0:Int);let e:=iZ.cells;let g:=iZ.row;let h:=(-9223372036854775808:Int);let j:=(9223372036854775807:Int);let k:=VL .i64;let l:=γB;let m:=(1:Int);let n:=γC .i64;let o:=sF.bw;let q:=SV.Gz;let r:=γV;let s:=δj false;let t:=SV.agg;let v:=ew.i .i64;let am:=t [s,a v [],a v []];let an:=nf (gW p f (vL x) f.length);let w:=ew.i .u32;let ad:=q [t [l (if dh x=true then an.1 else false),a w (if dh x=true then an.2.1 else[]),a w (if dh x=true then an.2.2 else[])],c (if dh x=true then d else(4:Int))];let T:=(↑x.length:Int);let aK:=if nW p=d then cq p else d;let E:=r 0 0 20;let z:=r 1 0 3;let F:=(↑x.length:Int);let G:=c F;let U:=n 0;let A:=e [c p.bm.a0,c p.bm.a1,c p.bm.a2,c p.bm.a3,c p.bm.a4,c p.bm.a5,c p.bs.a0,c p.bs.a1,c p.bs.a2,c p.bs.a3,c p.bs.a4,c p.bs.a5,c p.bt.a0,c p.bt.a1,c p.bt.a2,c p.bt.a3,c p.bt.a4,c p.bt.a5,a v p.bk,a ew.bu p.bj] 27 20 false;let aL:=SV.sc (Value.slice none 0 0);let B:=e [s,aL,aL] 177 3 false;let aM:=p.bj.length;let I:=(↑f.length:Int);let C:=r 2 0 3;let D:=γ1 3 f.length 3;let y:=(↑f.length:Int);let H:=c y;let V:=nf (κ (fN p f));let ae:=e [l V.1,a w V.2.1,a w V.2.2] 177 3 false;let af:=(false,[],[]);let ag:=fX p f (vL x) 0 0;let ao:=nf (jI p f (vL x) 0);let W:=r 4 0 3;let bg:=nf (gW p f (vL x) 0);let ap:=fX p f (vL x) (mF p) 0;let aa:=g sF ap 177 true;let O:=ap.length;let aN:=λ(u u_1:Int) (u_2:SV) ↦decide (u≠u_1)=true->(q [am,u_2]).bi ad;f.length<=1000000000000/\aN (hJ p f) d (c (hJ p f))/\(decide (hJ p f≠d)=false->True/\aN T aK (n 3)/\(decide (T≠aK)=false->((((a v f).bi (a v f)/\(a sF x).bi (a sF x)/\E.bi E/\z.bi z/\(a sF x).bi (a sF x)/\(c T).bi G/\U.bi (c 0)/\True)/\A.bi A/\B.bi B/\True)/\d<=d/\d<=F/\dh []=true)/\∀(x_1:Int),let Q:=bN x x_1.toNat o;let aq:=(Q.1,Q.2.1,Q.2.2);let X:=x_1+m;let aO:=c X;let aP:=λ(u:Bool) ↦decide (iP (TL aq)<d)=u;let aQ:=λ(u:Bool) ↦(!okF aq)=u;d<=x_1/\x_1<=F/\dh (Δ x_1.toNat x)=true->(decide (x_1<F)=true->d<=x_1/\x_1<T/\x_1.toNat<x.length/\((ou Q.2.1/\ou Q.2.2)/\γd Q.2.1<=10000000/\γd Q.2.2<=10000000)/\(aQ true->(q [am,n 2]).bi ad)/\(aQ false->bL aq/\(aP true->(q [am,n 4]).bi ad)/\(aP false->k X/\(((a v f).bi (a v f)/\(a sF x).bi (a sF x)/\E.bi E/\z.bi z/\(a sF x).bi (a sF x)/\G.bi G/\aO.bi aO/\True)/\A.bi A/\B.bi B/\True)/\(d<=X/\X<=F/\dh (Δ X.toNat x)=true)/\(F - X).toNat<(F - x_1).toNat)))/\(decide (x_1<F)=false->(nW p=d/\f.length=aM)/\d<=I/\I<=I/\I*(56:Int)<=(140737488355328:Int)/\I<=(1000000000000:Int)/\((((a v f).bi (a v f)/\(a sF x).bi (a sF x)/\E.bi E/\z.bi z/\C.bi C/\(γ1 3 I.toNat 3).bi D/\(c (↑I.toNat:Int)).bi H/\U.bi (c 0)/\True)/\A.bi A/\B.bi B/\(e [l V.1,a w V.2.1,a w V.2.2] 177 3 false).bi ae/\(g (ew.b.pair (w.Ap.pair w.Ap)) (δ I.toNat af) 177 true).bi (g sF (dU ag 0 af) 177 true)/\True)/\d<=d/\d<=y)/\∀(x_2:Int),let ar:=(bN p.bj x_2.toNat ew.bu.bw).value;let Y:=dU ag x_2.toNat af;let Z:=x_2+m;let aR:=c Z;let au:=nf (κ ar);d<=x_2/\x_2<=y->(decide (x_2<y)=true->d<=x_2/\x_2<(↑p.bj.length:Int)/\x_2.toNat<p.bj.length/\(h<=ar/\ar<=j)/\f.length=Y.length/\d<=x_2/\x_2<(↑Y.length:Int)/\f.length=Y.length/\x_2.toNat<Y.length/\k Z/\(((a v f).bi (a v f)/\(a sF x).bi (a sF x)/\E.bi E/\z.bi z/\C.bi C/\D.bi D/\H.bi H/\aR.bi aR/\True)/\A.bi A/\B.bi B/\ae.bi ae/\(g sF (Y.set x_2.toNat (au.1,au.2.1,au.2.2)) 177 true).bi (g sF (dU ag Z.toNat af) 177 true)/\True)/\(d<=Z/\Z<=y)/\(y - Z).toNat<(y - x_2).toNat)/\(decide (x_2<y)=false->((((a v f).bi (a v f)/\E.bi E/\z.bi z/\C.bi C/\D.bi D/\(a sF x).bi (a sF x)/\(c T).bi G/\U.bi (c 0)/\True)/\A.bi A/\B.bi B/\ae.bi (e [l ao.1,a w ao.2.1,a w ao.2.2] 177 3 false)/\(g sF Y 177 true).bi (g sF ag 177 true)/\True)/\d<=d/\d<=F)/\∀(x_3:Int),let a6:=nf (jI p f (vL x) x_3.toNat);let R:=e [l a6.1,a w a6.2.1,a w a6.2.2] 177 3 false;let av:=g sF (fX p f (vL x) x_3.toNat 0) 177 true;let a7:=bN x x_3.toNat o;let aS:=(a7.1,a7.2.1,a7.2.2);let J:=x_3+m;let ah:=c J;let ai:=nf (jI p f (vL x) J.toNat);let aT:=g sF (fX p f (vL x) J.toNat 0) 177 true;let M:=gw p x_3 aM;let a8:=bN x x_3.toNat o;let ab:=e [l a8.1,a w a8.2.1,a w a8.2.2] 177 3 false;let ac:=(a8.1,a8.2.1,a8.2.2);let aU:=(a6.1,a6.2.1,a6.2.2);let aV:=λ(u:NH) (u_1:iZ) ↦R.bi (e [l u.1,a w u.2.1,a w u.2.2] 177 3 false)/\av.bi u_1/\True;let aW:=λ(u:Bool) ↦decide (iP (TL aS)=d)=u;d<=x_3/\x_3<=F->(decide (x_3<F)=true->d<=x_3/\x_3<T/\x_3.toNat<x.length/\bL aS/\(aW true->k J/\(((a v f).bi (a v f)/\E.bi E/\z.bi z/\C.bi C/\D.bi D/\(a sF x).bi (a sF x)/\G.bi G/\ah.bi ah/\True)/\A.bi A/\B.bi B/\aV ai aT)/\(d<=J/\J<=F)/\(F - J).toNat<(F - x_3).toNat)/\(aW false->(nW p=d/\d<=x_3/\x_3<cq p)/\((((a v f).bi (a v f)/\E.bi E/\z.bi z/\C.bi C/\D.bi D/\W.bi W/\(c (cC p x_3)).bi (c (lf p f x_3 0))/\(a sF x).bi (a sF x)/\G.bi G/\(c x_3).bi (c x_3)/\(a v M).bi (a v M)/\(c (↑M.length:Int)).bi H/\U.bi (c 0)/\True)/\A.bi A/\B.bi B/\R.bi R/\av.bi av/\(e [l a7.1,a w a7.2.1,a w a7.2.2] 177 3 false).bi ab/\True)/\d<=d/\d<=y)/\∀(x_4:Int),let K:=x_4+m;let P:=lf p f x_3 x_4.toNat;let aX:=c (lf p f x_3 K.toNat);let aj:=c x_3;let ak:=c K;let L:=fX p f (vL x) x_3.toNat x_4.toNat;let aw:=g sF L 177 true;let aY:=g sF (fX p f (vL x) x_3.toNat K.toNat) 177 true;let S:=bN M x_4.toNat d;let aZ:=decide (S=d);let b0:=bN f x_4.toNat d;let b1:=decide (b0=m);let b2:=decide (b0=d);let ax:=nf (κ S);let b3:=(ax.1,ax.2.1,ax.2.2);let ay:=bN L x_4.toNat o;let b4:=(ay.1,ay.2.1,ay.2.2);let az:=nf (TL ac*TL b3);let aA:=nf (TL b4 - TL (az.1,az.2.1,az.2.2));let aB:=nf (κ P);let b5:=(aB.1,aB.2.1,aB.2.2);let aC:=nf (TL ac*TL b5);let aD:=nf (TL aU+TL (aC.1,aC.2.1,aC.2.2));let b6:=k K/\(((a v f).bi (a v f)/\E.bi E/\z.bi z/\C.bi C/\D.bi D/\W.bi W/\(c P).bi aX/\(a sF x).bi (a sF x)/\G.bi G/\aj.bi aj/\(a v M).bi (a v M)/\H.bi H/\ak.bi ak/\True)/\A.bi A/\B.bi B/\R.bi R/\aw.bi aY/\ab.bi ab/\True)/\(d<=K/\K<=y)/\(y - K).toNat<(y - x_4).toNat;let b7:=λ(u:Int) (u_1:iZ) ↦k K/\(((a v f).bi (a v f)/\E.bi E/\z.bi z/\C.bi C/\D.bi D/\W.bi W/\(c u).bi aX/\(a sF x).bi (a sF x)/\G.bi G/\aj.bi aj/\(a v M).bi (a v M)/\H.bi H/\ak.bi ak/\True)/\A.bi A/\B.bi B/\R.bi R/\u_1.bi aY/\ab.bi ab/\True)/\(d<=K/\K<=y)/\(y - K).toNat<(y - x_4).toNat;let b8:=λ(u:Bool×List Int×List Int) (u_1:Int) ↦let aE:=nf (κ u_1);let aF:=nf (TL ac*TL (aE.1,aE.2.1,aE.2.2));bL u/\bL (aF.1,aF.2.1,aF.2.2);d<=x_4/\x_4<=y->(decide (x_4<y)=true->d<=x_4/\x_4<(↑M.length:Int)/\x_4.toNat<M.length/\(aZ=true->b6)/\(aZ=false->d<=x_4/\x_4<I/\x_4.toNat<f.length/\(b1=true->k (P - S)/\b7 (P - S) aw)/\(b1=false->d<=x_4/\x_4<I/\x_4.toNat<f.length/\(b2=true->f.length=L.length/\d<=x_4/\x_4<(↑L.length:Int)/\f.length=L.length/\x_4.toNat<L.length/\(h<=S/\S<=j)/\(bL ac/\bL b3)/\b8 b4 S/\f.length=L.length/\d<=x_4/\x_4<(↑L.length:Int)/\f.length=L.length/\x_4.toNat<L.length/\b7 P (g sF (L.set x_4.toNat (aA.1,aA.2.1,aA.2.2)) 177 true))/\(b2=false->b6))))/\(decide (x_4<y)=false->(h<=P/\P<=j)/\(bL ac/\bL b5)/\b8 aU P/\k J/\(((a v f).bi (a v f)/\E.bi E/\z.bi z/\C.bi C/\D.bi D/\(a sF x).bi (a sF x)/\G.bi G/\ah.bi ah/\True)/\A.bi A/\B.bi B/\(e [l aD.1,a w aD.2.1,a w aD.2.2] 177 3 false).bi (e [l ai.1,a w ai.2.1,a w ai.2.2] 177 3 false)/\aw.bi aT/\True)/\(d<=J/\J<=F)/\(F - J).toNat<(F - x_3).toNat)))/\(decide (x_3<F)=false->(((z.bi z/\C.bi C/\D.bi D/\(a v f).bi (a v f)/\(c I).bi H/\U.bi (c 0)/\True)/\A.bi A/\B.bi B/\aV bg aa)/\d<=d/\d<=y)/\∀(x_4:Int),let N:=x_4+m;let al:=c N;let a9:=nf (gW p f (vL x) x_4.toNat);let b9:=[l a9.1,a w a9.2.1,a w a9.2.2];let aG:=nf (gW p f (vL x) N.toNat);let ba:=e [l aG.1,a w aG.2.1,a w aG.2.2] 177 3 false;let aH:=bN ap x_4.toNat o;let aI:=(aH.1,aH.2.1,aH.2.2);let bb:=decide (bN f x_4.toNat d=d);let bc:=(a9.1,a9.2.1,a9.2.2);let aJ:=nf (TL bc+TL aI);let bd:=k N/\((z.bi z/\C.bi C/\D.bi D/\(a v f).bi (a v f)/\H.bi H/\al.bi al/\True)/\A.bi A/\B.bi B/\(e b9 177 3 false).bi ba/\aa.bi aa/\True)/\(d<=N/\N<=y)/\(y - N).toNat<(y - x_4).toNat;let be:=bL aI;let bf:=λ(u:Bool) ↦decide (d<iP (TL aI))=u;d<=x_4/\x_4<=y->(decide (x_4<y)=true->d<=x_4/\x_4<I/\x_4.toNat<f.length/\(bb=true->f.length=O/\d<=x_4/\x_4<(↑O:Int)/\f.length=O/\x_4.toNat<O/\be/\(bf true->f.length=O/\d<=x_4/\x_4<(↑O:Int)/\f.length=O/\x_4.toNat<O/\(bL bc/\be)/\k N/\((z.bi z/\C.bi C/\D.bi D/\(a v f).bi (a v f)/\H.bi H/\al.bi al/\True)/\A.bi A/\B.bi B/\(e [l aJ.1,a w aJ.2.1,a w aJ.2.2] 177 3 false).bi ba/\aa.bi aa/\True)/\(d<=N/\N<=y)/\(y - N).toNat<(y - x_4).toNat)/\(bf false->bd))/\(bb=false->bd))/\(decide (x_4<y)=false->(q [t b9,U]).bi ad))))))) (by kernel_rfl) ?_;simp only[vcs];have hgo:=cL hc;have h160:=hgo.2.1;have hfe:hJ p f=0:=by simp[hJ,hc,hl,hr]
 have hnr:cq p=mF p:=by unfold cq mF;omega
 have hxl:x.length=mF p:=by rw[hx,ez,hyl]
 have hvl:vL x=y:=by rw[hx,jP]
 have aZd:mF p<=20:=by have:=hgo.1;unfold mF;omega
 have hxn:∀r:Int,0<=r->r<mF p->bN x r.toNat sF.bw=nf (bN y r.toNat 0):=λr h0 h1=>by rw[hx];exact iD (by rw[hyl];omega)
 have hrC:∀{q q':Rat},q=q'->(iZ.cells [.sb (nf q).1,.row (.i .u32) (nf q).2.1,.row (.i .u32) (nf q).2.2] 177 3 false).bi (iZ.cells [.sb (nf q').1,.row (.i .u32) (nf q').2.1,.row (.i .u32) (nf q').2.2] 177 3 false):=by rintro _ _ rfl;rfl
 have hrL:∀{a b:List NH},a=b->(iZ.row sF a 177 true).bi (iZ.row sF b 177 true):=by rintro _ _ rfl;rfl
 have hrO:∀{a b:Nat},a=b->(γ1 3 a 3).bi (γ1 3 b 3):=by rintro _ _ rfl;rfl
 have hval:∀i:Int,(bN p.bj i.toNat ew.bu.bw).value=(oI p i).value:=λi=>rfl;have hel:∀r k,(fX p f y r k).length=f.length:=λr k=>by rw[uq,hl]
 rw[if_pos hc,hnr,hvl];simp only[iO,dJ,hval,γk];refine⟨by omega,λh=>absurd hfe h,λ_=>⟨λh=>absurd (by rw[hxl]) h,λ_=>⟨⟨by omega,by omega,rfl⟩,?_⟩⟩⟩;rintro i ⟨i0,i1,hall⟩;have et:=λh=>ji (d:=sF.bw) (l:=x) i0 h;refine⟨λhi=>?_,λhge=>?_⟩
 ·have hys:=Jw hy (k:=i.toNat) (by omega);have hm:=cA (d:=sF.bw) (show i.toNat<x.length by omega);have et:=et hi;have hok:=BW (bN y i.toNat 0);obtain⟨s1,⟨u1,u2,u3⟩,⟨u4,u5,u6⟩⟩:=kN (bN y i.toNat 0);obtain⟨m1,m2⟩:=mZ hys;rw[hxn i i0 (by omega)] at hm et ⊢;refine⟨i0,hi,by omega,⟨⟨u1,u4⟩,by omega,by omega⟩,(λh=>by rw[hok] at h;cases h),λ_=>⟨dc hys (by omega),λh=>?_,λh=>⟨by omega,⟨by omega,by omega,?_⟩,by omega⟩⟩⟩
  ·have hn:bN y i.toNat 0<0:=wU.1 (by rwa [dJ] at h);have hp:dh x=false:=by
    rw[δN];intro ha;have:=ψ.1 ha _ hm;have e:(nf (bN y i.toNat 0)).1=true:=decide_eq_true hn;rw[e] at this;cases this
   simp only[hp,τ,if_false];first|exact rfl|exact⟨rfl,rfl⟩|exact⟨rfl,trivial⟩|(unfold SV.bi;exact⟨rfl,rfl⟩)
  ·have hn:¬bN y i.toNat 0<0:=λhh=>h (by rw[dJ];exact wU.2 hh);have e:(nf (bN y i.toNat 0)).1=false:=decide_eq_false hn;unfold dh at hall ⊢;rw[et,List.all_append,hall];simp[e]
 have hpos:dh x=true:=by rwa [show i.toNat=x.length by omega,φ] at hall
 simp only[hpos,if_true];refine⟨⟨hc,hl⟩,by omega,by omega,by omega,by omega,⟨⟨⟨hrO rfl,trivial⟩,hrL ?_⟩,by omega,by omega⟩,?_⟩;·rw[vS,hel]
 rintro i ⟨i0,i1⟩;have hru:=@vT (fX p f y 0 0) i.toNat (false,([],[])) (by rw[hel];omega);rw[hel] at hru;refine⟨λhi=>?_,λhi=>?_⟩
 ·have ho:=js hc (i:=i) ⟨i0,by omega⟩;have hE:bN (fX p f y 0 0) i.toNat (false,([],[]))=nf (κ (oI p i).value):=by
   rw[uo (by omega),show((i.toNat:Nat):Int)=i by omega,R0 i0]
  exact⟨i0,by omega,by omega,by omega,by omega,by omega,by omega,by omega,by omega,by omega,hrL (by rw[uM (by rw[hel];omega) hE.symm,show(i+1).toNat=i.toNat+1 by omega]),by omega,by omega⟩
 rw[show i.toNat=(fX p f y 0 0).length by rw[hel];omega,vR];refine⟨⟨⟨hrC R7.symm,hrL rfl⟩,by omega,by omega⟩,?_⟩;rintro r ⟨r0,r1⟩;refine⟨λhr1=>?_,λhr1=>?_⟩
 ·have hys:=Jw hy (k:=r.toNat) (by omega);have hx1:=hxn r r0 (by omega);have gy:bL (nf (bN y r.toNat 0)):=dc hys (by omega);have hrr:((r.toNat:Nat):Int)=r:=by omega
  have hrt:(r+1).toNat=r.toNat+1:=by omega
  simp only[hx1,dJ];refine⟨r0,hr1,by omega,gy,λh0=>?_,λh0=>⟨⟨hc,r0,by omega⟩,⟨⟨R5.symm,by rw[JD];omega⟩,by omega,by omega⟩,?_⟩⟩
  ·have h0:=E_.1 h0;exact⟨by omega,⟨hrC (by rw[hrt,RV h0]),hrL (by rw[hrt,RY h0])⟩,by omega,by omega⟩
  rintro k ⟨k0,k1⟩;have hbd:=@JB p f r k.toNat hc hl;have hrl:=@JD p r;refine⟨λhk=>?_,λhk=>?_⟩
  ·have ho:=js hc (i:=k) ⟨k0,by omega⟩;have hcb:=@nO p r _ ho.2.2.1;have hrn:=@R6 p r k ⟨k0,by omega⟩;have hbs:=@R4 p f r k k0 (by omega);rw[hrn];refine⟨k0,by omega,by omega,λh1=>?_,λh1=>⟨k0,by omega,by omega,λh2=>?_,λh2=>⟨k0,by omega,by omega,λh3=>?_,λh3=>?_⟩⟩⟩
   ·have hb2:lf p f r k.toNat=lf p f r (k+1).toNat:=by rw[hbs,h1];split<;>omega
    exact⟨by omega,⟨hb2,hrL (CI k0 (.inr (.inl (by rw[hrr];exact h1))))⟩,by omega,by omega⟩
   ·rw[if_pos h2] at hbs;exact⟨by omega,by omega,⟨by omega,hrL (CI k0 (.inl (by omega)))⟩,by omega,by omega⟩
   ·rw[if_neg h2] at hbs;have hen:=@uo p f y r.toNat k.toNat k.toNat (by omega) sF.bw;rw[show((k.toNat:Nat):Int)=k by omega,RW k0 h3] at hen;have gx:bL (nf (gX p y r.toNat k)):=dc (Jq hc hy (by omega) ⟨k0,by omega⟩) (by omega);have gc:bL (nf (κ (dz p r (oI p k)))):=dc (pg (W:=dz p r (oI p k)) (by omega) (by omega)) (by omega);have gm:bL (nf (bN y r.toNat 0*κ (dz p r (oI p k)))):=dc (sg hys (pg (W:=dz p r (oI p k)) (by omega) (by omega))) (by omega);have hset:=@RX p f y r.toNat k k0 (by omega) h3;rw[CK,hrr] at hset;have aWv:(fX p f y r.toNat k.toNat).set k.toNat (nf (gX p y r.toNat k - bN y r.toNat 0*κ (dz p r (oI p k))))=fX p f y r.toNat (k+1).toNat:=hset;rw[hen];simp only[dJ];rw[aWv,hel];refine⟨rfl,k0,?_,rfl,?_,?_,⟨gy,gc⟩,⟨gx,gm⟩,rfl,k0,?_,rfl,?_,?_,⟨?_,hrL rfl⟩,?_,?_⟩<;>omega
   ·rw[if_neg h2] at hbs;refine⟨?_,⟨?_,hrL (CI k0 (.inl h3))⟩,?_,?_⟩<;>omega
  ·have hk2:k.toNat=f.length:=by omega
   rw[hk2,JC] at hbd ⊢;have gb:bL (nf (κ (cC p r - bZ p ((zi f 1).map (oI p)) r))):=dc (pg (W:=cC p r - bZ p ((zi f 1).map (oI p)) r) (by omega) (by omega)) (by omega);have gs:bL (nf (jI p f y r.toNat)):=dc (RR hc hl hy (by omega)) (by omega);have gm:bL (nf (bN y r.toNat 0*κ (cC p r - bZ p ((zi f 1).map (oI p)) r))):=dc (sg hys (pg (W:=cC p r - bZ p ((zi f 1).map (oI p)) r) (by omega) (by omega))) (by omega);refine⟨by omega,⟨gy,gb⟩,⟨gs,gm⟩,by omega,⟨hrC ?_,hrL ?_⟩,by omega,by omega⟩;·rw[hrt,JE,hrr]
   ·rw[hrt,hl];exact RZ
 ·have hr2:r.toNat=mF p:=by omega
  rw[hr2];refine⟨⟨⟨hrC JA.symm,hrL rfl⟩,by omega,by omega⟩,?_⟩;rintro i ⟨i0,i1⟩;refine⟨λhi=>?_,λhi=>?_⟩
  ·have hs:=@Jz p f y i i0;refine⟨i0,hi,by omega,λh0=>?_,λh0=>?_⟩
   ·have hen:=@uo p f y (mF p) 0 i.toNat (by omega) sF.bw;have he0:mq p f y (mF p) 0 i=gX p y (mF p) i:=by
     unfold mq;rw[if_pos h0,if_neg (show ¬i<((0:Nat):Int) by omega)]
    rw[show((i.toNat:Nat):Int)=i by omega,he0] at hen;have gx:bL (nf (gX p y (mF p) i)):=dc (Jq hc hy (π _) ⟨i0,by omega⟩) (by omega);have gs:bL (nf (gW p f y i.toNat)):=dc (Jp hc hl hy (by omega)) (by omega);rw[hen,hel];simp only[dJ];refine⟨trivial,i0,by omega,trivial,by omega,gx,λh1=>⟨trivial,i0,by omega,trivial,by omega,⟨gs,gx⟩,by omega,hrC ?_,by omega,by omega⟩,λh1=>⟨by omega,hrC ?_,by omega,by omega⟩⟩;·rw[hs,if_pos ⟨h0,sa.1 h1⟩]
    ·rw[hs,if_neg (λh=>h1 (sa.2 h.2))];exact(ζT _).symm
   ·refine⟨by omega,hrC ?_,by omega,by omega⟩;rw[hs,if_neg (λh=>h0 h.1)];exact(ζT _).symm
  ·rw[show i.toNat=f.length by omega];first|exact rfl|exact⟨rfl,rfl⟩|exact⟨rfl,trivial⟩
def CE:NG:=⟨208,cy×cj×Int×List Int,.cons (dD Ao) (.cons cV (.cons (dX .i64) (.one (cO (.i .i64))))),λa=>sy a.2.1 a.2.2.2 a.1.2.2.2.2/\ -9223372036854775808<=a.2.2.1/\a.2.2.1<=9223372036854775807,
 λa=> .sb (dh a.1.2.2.2.2&&decide (gW a.2.1 a.2.2.2 (vL a.1.2.2.2.2) a.2.2.2.length<κ a.2.2.1+1))⟩
theorem HR:Holds Tryz.prog CE:=by
 refine bM (L:=[CF,mj,sH,uj]) CE lk (by grind[HP,nG,o9,zb]) ?_;rintro⟨⟨k,o,a,b,x⟩,p,v,f⟩ ⟨c,i,g⟩;simp only at c i g;have d:=c;obtain⟨⟨H,J,M⟩,y,K,I,G⟩:=d;have C:=Jp H J G (π f.length);have q:vL x=y:=by rw[K,jP]
 rw[<-q] at C;have F:(κ 1:Rat)=1:=rfl;have s:Sz 2 (κ v:Rat):=pg i g;have t:Sz 2 (1:Rat):=pg (W:=1) (by omega) (by omega);refine NI (let a:=(-9223372036854775808:Int);let b:=(9223372036854775807:Int);let c:=(1:Int);let d:=(0:Int);let j:=gW p f (vL x) f.length;let n:=nf (κ v);let D:=(n.1,n.2.1,n.2.2);let r:=nf (κ c);let A:=(r.1,r.2.1,r.2.2);let z:=(if dh x=true then(nf j).1 else false,if dh x=true then(nf j).2.1 else[],if dh x=true then(nf j).2.2 else[]);let l:=nf (TL D+TL A);let E:=(l.1,l.2.1,l.2.2);let B:=λ(u:SV) ↦u.bi (γB (dh x&&decide (j<κ v+(1:Rat))));let w:=λ(u:Bool) ↦decide ((if dh x=true then d else(4:Int))=d)=u;sy p f x/\(a<=v/\v<=b)/\(a<=c/\c<=b)/\(bL D/\bL A)/\(w true->(bL z/\bL E)/\B (γB (decide (gK (TL z) (TL E)<d))))/\(w false->B (δj false))) (by kernel_rfl) ?_;simp only[iO,dJ,F];by_cases m:dh x=true
 ·simp only[m,if_true,Bool.true_and,iO,dJ];refine⟨c,⟨i,g⟩,by omega,⟨dc s (by omega),dc t (by omega)⟩,λ_=>⟨⟨dc C (by omega),dc (wY s t) (by omega)⟩,?_⟩,λh=>by cases h⟩;have e:decide (gK (gW p f (vL x) f.length) (κ v+1)<0)=decide (gW p f (vL x) f.length<κ v+1):=decide_eq_decide.2 qK;rw[e];rfl
 ·have m:dh x=false:=by simp_all
  simp only[m,τ,if_false,Bool.false_and];exact⟨c,⟨i,g⟩,by omega,⟨dc s (by omega),dc t (by omega)⟩,(λh=>by cases h),λ_=>rfl⟩
def CD:NG:=⟨214,cy×cj×Int×List Int,.cons (dD Ao) (.cons cV (.cons (dX .i64) (.one (cO (.i .i64))))),λa=>0<=a.1.2.1,λa=> .sb (decide (a.1.2.1<a.2.2.2.length)&&decide (bN a.2.2.2 a.1.2.1.toNat 0=0))⟩
theorem HN:Holds Tryz.prog CD:=by
 refine bM (L:=[]) CD lk (by simp) ?_;rintro⟨⟨k,o,a,b,x⟩,p,v,f⟩ (e:0<=o);refine NI (let a:=(0:Int);let c:=decide (o<(↑f.length:Int));let d:=λ(u:SV) ↦u.bi (γB (decide (o<(↑f.length:Int))&&decide (bN f o.toNat a=a)));(c=true->a<=o/\o<(↑f.length:Int)/\o.toNat<f.length/\d (γB (decide (bN f o.toNat a=a))))/\(c=false->d (δj false))) (by kernel_rfl) ?_;simp_all[decide_eq_false]
def CC:NG:=⟨218,cy×cj×Int×List Int,.cons (dD Ao) (.cons cV (.cons (dX .i64) (.one (cO (.i .i64))))),λa=>a.2.2.2.length<=1000000,λa=> .sb (decide (bT a.2.1 (zi a.2.2.2 1)≠0))⟩
def RM (n:cy) (p:cj) (f:List Int):Nat->bJ
 |3=> .inv Int (λi=>⟨[(5,.ptr 1 0 20),(9,.ow 2 (zi (f.take i.toNat) 1).length 1),(12,.row (.i .i64) f),(13,.si .i64 f.length),(14,.si .i64 i)],[.cells (cR Ao n) 206 5 false,.cells p.ss 27 20 false,.row (.i .i64) (zi (f.take i.toNat) 1) 3 true]⟩)
   (λs=>iS s 14) (λi=>0<=i/\i<=f.length) (λi=>(f.length - i).toNat) λ_ _=> .look
 |_=> .look
theorem HK:Holds Tryz.prog CC:=by
 refine bM (L:=[vQ]) CC (λa=>RM a.1 a.2.1 a.2.2.2) (by simpa using qZ) ?_;rintro⟨⟨k,o,a,b,x⟩,p,v,f⟩ (hl:f.length<=1000000);refine NI (let c:=γj .i64;let d:=(0:Int);let e:=(1:Int);let g:=iZ.row;let h:=γa;let j:=γ1;let r:=γV 1 0 20;let m:=ew.i .i64;let n:=(↑f.length:Int);let v:=c n;let s:=iZ.cells [c k,c o,c a,c b,h sF x] 206 5 false;let t:=iZ.cells [c p.bm.a0,c p.bm.a1,c p.bm.a2,c p.bm.a3,c p.bm.a4,c p.bm.a5,c p.bs.a0,c p.bs.a1,c p.bs.a2,c p.bs.a3,c p.bs.a4,c p.bs.a5,c p.bt.a0,c p.bt.a1,c p.bt.a2,c p.bt.a3,c p.bt.a4,c p.bt.a5,h m p.bk,h ew.bu p.bj] 27 20 false;(((r.bi r/\(j 2 0 1).bi (j 2 (zi [] e).length 1)/\(h m f).bi (h m f)/\(c (↑f.length:Int)).bi v/\(γC .i64 0).bi (c 0)/\True)/\s.bi s/\t.bi t/\(g m [] 3 true).bi (g m (zi [] e) 3 true)/\True)/\d<=d/\d<=n)/\∀(x_1:Int),let q:=x_1+e;let w:=zi (Δ q.toNat f) e;let y:=c q;let z:=decide (bN f x_1.toNat d=e);let l:=zi (Δ x_1.toNat f) e;let A:=l.length+1;let B:=λ(u:Nat) (u_1:iZ) ↦VL .i64 q/\((r.bi r/\(j 2 u 1).bi (j 2 w.length 1)/\(h m f).bi (h m f)/\v.bi v/\y.bi y/\True)/\s.bi s/\t.bi t/\u_1.bi (g m w 3 true)/\True)/\(d<=q/\q<=n)/\(n - q).toNat<(n - x_1).toNat;d<=x_1/\x_1<=n->(decide (x_1<n)=true->d<=x_1/\x_1<(↑f.length:Int)/\x_1.toNat<f.length/\(z=true->l.length=l.length/\A*8<=140737488355328/\A<=1000000000000/\B (l++[x_1]).length (g m (l++[x_1]) 3 true))/\(z=false->B l.length (g m l 3 true)))/\(decide (x_1<n)=false->l.length=l.length/\l.length<=9223372036854775807/\(γB (decide (bT p l≠d))).bi (γB (decide (bT p (zi f e)≠d))))) (by kernel_rfl) ?_;simp only[vcs];have how:∀{x y:Nat},x=y->(γ1 2 x 1).bi (γ1 2 y 1):=by rintro _ _ rfl;rfl
 have hrow:∀{x y:List Int},x=y->(iZ.row (.i .i64) x 3 true).bi (iZ.row (.i .i64) y 3 true):=by rintro _ _ rfl;rfl
 refine⟨⟨⟨how rfl,hrow rfl⟩,by omega,by omega⟩,?_⟩;rintro i ⟨i0,i1⟩;have hd:=@ri (f.take i.toNat) 1;rw[γz] at hd;refine⟨λhi=>?_,λhi=>?_⟩
 ·have hs:=wQ (d:=1) i0 hi;refine⟨i0,hi,by omega,λh1=>?_,λh1=>?_⟩
  ·rw[if_pos h1] at hs;rw[hs];refine⟨?_,?_,?_,⟨how rfl,hrow rfl⟩,?_,?_⟩<;>omega
  ·rw[if_neg h1,γ0] at hs;rw[hs];refine⟨?_,⟨how rfl,hrow rfl⟩,?_,?_⟩<;>omega
 ·rw[show f.take i.toNat=f by rw[show i.toNat=f.length by omega,φ]] at hd ⊢;exact⟨by omega,rfl⟩
def CB:NG:=⟨222,Unit×cj×Int×List Int,.cons CR (.cons cV (.cons (dX .i64) (.one (cO (.i .i64))))),λ_=>True,λ_=> .sb false⟩
theorem HH:Holds Tryz.prog CB:=by
 refine bM (L:=[]) CB lk (by simp) ?_;rintro⟨_,p,v,f⟩ _;refine NI ((δj false).bi (γB false)) (by kernel_rfl) ?_;rfl
@[reducible] def pv:ew:=.pair (.i .i64) .b
def dR (t:List cy):Nat->List (Int×Bool)
 |0=>δ t.length (0,false)
 |i+1=>if(bN t i Ao.bw).1=2 then((dR t i).set (bN t i Ao.bw).2.2.1.toNat ((i:Int),false)).set (bN t i Ao.bw).2.2.2.1.toNat ((i:Int),true) else dR t i
def mn (t:List cy) (u:List (Int×Bool)) (k:Int) (f:List Int):List Int:=
 if(bN t (bN u k.toNat (0,false)).1.toNat Ao.bw).2.1<f.length then f.set (bN t (bN u k.toNat (0,false)).1.toNat Ao.bw).2.1.toNat (if(bN u k.toNat (0,false)).2 then 1 else -1) else f
def gj (t:List cy) (u:List (Int×Bool)):Nat->Int->List Int->List Int
 |0,_,f=>f
 |m+1,k,f=>if 0<k then gj t u m (bN u k.toNat (0,false)).1 (mn t u k f) else f
def gH (p:cj) (t:List cy) (i:Nat):List Int:=gj t (dR t i) i i (δ p.bj.length 0)
def pt (p:cj) (v:Int) (f:List Int) (n:cy):Bool:=
 if n.1=1 then dh n.2.2.2.2&&decide (gW p f (vL n.2.2.2.2) f.length<κ v+1) else if n.1=2 then decide (n.2.1<f.length)&&decide (bN f n.2.1.toNat 0=0) else if n.1=3 then decide (bT p (zi f 1)≠0) else false
def pr (p:cj) (v:Int) (t:List cy):Bool:=(ω t.length).all λi=>pt p v (gH p t i) (bN t i Ao.bw)
def CA (t:List cy) (u:List (Int×Bool)):Prop:=u.length=t.length/\∀k,k<t.length->0<=(bN u k (0,false)).1/\(0<k->(bN u k (0,false)).1<k)
def Cz (p:cj) (v:Int) (t:List cy):Prop:=(nW p=0/\dr t=true)/\(-9223372036854775808<=v/\v<=9223372036854775807)/\∀i,i<t.length->(bN t i Ao.bw).1=1->sy p (gH p t i) (bN t i Ao.bw).2.2.2.2
theorem Jo {t:List cy} {u:List (Int×Bool)} {k:Int} {f:List Int}:(mn t u k f).length=f.length:=by
 grind[mn]
theorem Jn {t:List cy} {u:List (Int×Bool)}:∀{m:Nat} {k:Int} {f:List Int},(gj t u m k f).length=f.length
 |0,_,_=>rfl
 |m+1,k,f=>by
  unfold gj;split;·rw[Jn,Jo]
  ·rfl
theorem Cy {t:List cy} {u:List (Int×Bool)} (a:CA t u):∀{m:Nat} {k:Int} {f:List Int},0<=k->k<t.length->k<=m->gj t u m k f=gj t u k.toNat k f
 |0,k,f,g,d,e=>by grind;|m+1,k,f,g,d,e=>by
  by_cases c:0<k
  ·have b:=a.2 k.toNat (by omega);have h:=b.2 (by omega);rw[show k.toNat=(k.toNat - 1)+1 by omega];unfold gj;rw[if_pos c,if_pos c,Cy a b.1 (by omega) (by omega)];exact(Cy a b.1 (by omega) (by omega)).symm
  ·rw[show k=0 by omega];rfl
theorem J9 {t:List cy} {u:List (Int×Bool)} (b:CA t u) {k:Int} {f:List Int} (a:0<k) (e:k<t.length):gj t u k.toNat k f=gj t u (bN u k.toNat (0,false)).1.toNat (bN u k.toNat (0,false)).1 (mn t u k f):=by
 have c:=b.2 k.toNat (by omega);have d:=c.2 (by omega);rw[show gj t u k.toNat k f=gj t u ((k.toNat - 1)+1) k f by grind];conv=>lhs;unfold gj
 rw[if_pos a];grind[Cy]
theorem qI {t:List cy}:∀{i:Nat},(dR t i).length=t.length
 |0=>by simp[dR];|i+1=>by
  unfold dR;split;·rw[Ω,Ω,qI]
  ·exact qI
theorem Cx {t:List cy} (h:dr t=true) {i:Nat} (c:i<t.length):0<=(bN t i Ao.bw).2.1/\((bN t i Ao.bw).1=2->((i:Int)<(bN t i Ao.bw).2.2.1/\(bN t i Ao.bw).2.2.1<t.length)/\((i:Int)<(bN t i Ao.bw).2.2.2.1/\(bN t i Ao.bw).2.2.2.1<t.length)):=by
 unfold dr at h;simp only[θ,ψ,γD] at h;have b:=h.2.1 i c;unfold jL at b;simp only[θ] at b;obtain⟨a,d⟩:=b;refine⟨?_,λe=>?_⟩
 ·unfold p8 at a;split at a;·simp_all[mU,py]
  ·split at a;all_goals simp_all[pf,mK,q9,py]
 simp_all[iC,rh]
theorem Cw {t:List cy} (h:dr t=true):∀{i:Nat},i<=t.length->CA t (dR t i)
 |0,_=>⟨qI,λk a=>by
   grind[dR,bV]⟩
 |i+1,g=>⟨qI,λk a=>by
   have b:=(Cw h (i:=i) (by omega)).2 k a;unfold dR;split
   ·rename_i c;obtain⟨⟨j,f⟩,d,e⟩:=(Cx h (i:=i) (by omega)).2 c;grind[qI,gM]
   ·exact b⟩
def Cv:NG:=⟨62,cj×Int×List cy,.cons cV (.cons (dX .i64) (.one (cO Ao))),λa=>Cz a.1 a.2.1 a.2.2,λa=> .si .i64 (if pr a.1 a.2.1 a.2.2 then 0 else 13)⟩
noncomputable def RL (p:cj) (v:Int) (t:List cy):Nat->bJ
 |3=> .inv Int (λi=>⟨[(1,.si .i64 v),(2,.row Ao t),(3,.ptr 0 0 20),(7,.ow 1 t.length 2),(16,.row Ao t),(17,.si .i64 t.length),(18,.si .i64 i)],[.cells p.ss 27 20 false,.row pv (dR t i.toNat) 159 true]⟩)
   (λs=>iS s 18) (λi=>0<=i/\i<=t.length/\∀j:Nat,j<i->pt p v (gH p t j) (bN t j Ao.bw)=true) (λi=>(t.length - i).toNat) λi k=>match k with
   |7=> .inv (Int×List Int) (λx=>⟨[(1,.si .i64 v),(2,.row Ao t),(3,.ptr 0 0 20),(7,.ow 1 t.length 2),(8,.si .i64 i),(9,.ptr 2 0 5),(10,.ow 3 p.bj.length 1),(11,.si .i64 x.1),(16,.row Ao t),(17,.si .i64 t.length),(18,.si .i64 i)],
      [.cells p.ss 27 20 false,.row pv (dR t i.toNat) 159 true,.cells (cR Ao (bN t i.toNat Ao.bw)) 108 5 false,.row (.i .i64) x.2 3 true]⟩)
     (λs=>(iS s 11,oS (.i .i64) s 3)) (λx=>(0<=x.1/\x.1<=i)/\x.2.length=p.bj.length/\gj t (dR t i.toNat) x.1.toNat x.1 x.2=gH p t i.toNat) (λx=>x.1.toNat) λ_ _=> .look
   |_=> .look
 |_=> .look
theorem HT:Holds Tryz.prog Cv:=by
 refine bM (L:=[BN,CE,CD,CC,CB]) Cv (λa=>RL a.1 a.2.1 a.2.2) (by simpa using⟨yJ,HR,HN,HK,HH⟩) ?_;rintro⟨p,v,t⟩ ⟨⟨hc,ht⟩,⟨v0,v1⟩,hb⟩;simp only at hc ht v0 v1 hb;refine NI (let a:=γj .i64;let c:=(0:Int);let d:=γa;let e:=iZ.row;let f:=γC .i64;let g:=(140737488355328:Int);let h:=(1000000000000:Int);let k:=(1:Int);let l:=γ1;let o:=(↑t.length:Int);let w:=γV 0 0 20;let C:=l 1 t.length 2;let y:=(↑t.length:Int);let D:=a y;let a9:=f 0;let K:=ew.i .i64;let q:=iZ.cells [a p.bm.a0,a p.bm.a1,a p.bm.a2,a p.bm.a3,a p.bm.a4,a p.bm.a5,a p.bs.a0,a p.bs.a1,a p.bs.a2,a p.bs.a3,a p.bs.a4,a p.bs.a5,a p.bt.a0,a p.bt.a1,a p.bt.a2,a p.bt.a3,a p.bt.a4,a p.bt.a5,d K p.bk,d ew.bu p.bj] 27 20 false;let E:=(↑p.bj.length:Int);let S:=γV 2 0 5;let n:=p.bj.length;let Z:=l 3 n 1;let a6:=δ E.toNat c;let aa:=e K a6 3 true;let L:=a (if pr p v t=true then c else(13:Int));c<=o/\o<=o/\o*(16:Int)<=g/\o<=h/\((((a v).bi (a v)/\(d Ao t).bi (d Ao t)/\w.bi w/\(l 1 o.toNat 2).bi C/\(d Ao t).bi (d Ao t)/\(a o).bi D/\a9.bi (a 0)/\True)/\q.bi q/\(e (K.pair ew.b) (δ o.toNat (c,false)) 159 true).bi (e pv (dR t 0) 159 true)/\True)/\c<=c/\c<=y/\∀(j:Nat),(↑j:Int)<c->pt p v (gH p t j) (bN t j Ao.bw)=true)/\∀(x:Int),let z:=dR t x.toNat;let F:=e pv z 159 true;let s:=bN t x.toNat Ao.bw;let T:=s.2.1;let M:=s.2.2.1;let N:=s.2.2.2.1;let U:=s.2.2.2.2;let H:=iZ.cells [a s.1,a T,a M,a N,d sF U] 108 5 false;let V:=gH p t x.toNat;let m:=z.length;let O:=(↑m:Int);let ab:=decide (s.1=k);let ac:=decide (s.1=(2:Int));let P:=z.set (ζy M) (x,false);let G:=x+k;let ad:=a G;let ar:=e pv (dR t G.toNat) 159 true;let ae:=decide (s.1=(2:Int));let af:=decide (s.1=(3:Int));(c<=x/\x<=y/\∀(j:Nat),(↑j:Int)<x->pt p v (gH p t j) (bN t j Ao.bw)=true)->(decide (x<y)=true->c<=x/\x<o/\x.toNat<t.length/\c<=E/\E<=E/\E*(8:Int)<=g/\E<=h/\((((a v).bi (a v)/\(d Ao t).bi (d Ao t)/\w.bi w/\C.bi C/\(a x).bi (a x)/\S.bi S/\(l 3 E.toNat 1).bi Z/\(a x).bi (a x)/\(d Ao t).bi (d Ao t)/\D.bi D/\(a x).bi (a x)/\True)/\q.bi q/\F.bi F/\H.bi H/\aa.bi aa/\True)/\(c<=x/\x<=x)/\a6.length=n/\gj t z x.toNat x a6=V)/\∀(x_1:Int×List Int),let W:=a x;let A:=x_1.1.toNat;let a7:=bN z A pv.bw;let r:=a7.1;let ag:=a r;let I:=ζy r;let J:=(bN t I Ao.bw).2.1;let X:=ζy J;let Q:=x_1.2.length;let ah:=decide (c<x_1.1);let B:=x_1.2.length;let R:=x_1.2.set X (-1:Int);let ai:=e K x_1.2 3 true;let Y:=let aj:=λ(u:iZ) ↦VL .i64 G/\(((a v).bi (a v)/\(d Ao t).bi (d Ao t)/\w.bi w/\C.bi C/\(d Ao t).bi (d Ao t)/\D.bi D/\ad.bi ad/\True)/\q.bi q/\u.bi ar/\True)/\(c<=G/\G<=y/\∀(j:Nat),(↑j:Int)<G->pt p v (gH p t j) (bN t j Ao.bw)=true)/\(y - G).toNat<(y - x).toNat;(ac=true->t.length=m/\c<=M/\M<O/\t.length=m/\ζy M<m/\t.length=P.length/\c<=N/\N<(↑P.length:Int)/\t.length=P.length/\ζy N<P.length/\aj (e pv (P.set (ζy N) (x,true)) 159 true))/\(ac=false->aj F);let ak:=(a v).bi (a v)/\(d Ao t).bi (d Ao t)/\w.bi w/\C.bi C/\W.bi W/\S.bi S/\Z.bi Z/\ag.bi ag/\(d Ao t).bi (d Ao t)/\D.bi D/\W.bi W/\True;let al:=λ(u:List Int) (u_1:Int) ↦let a8:=u.set X u_1;let am:=e K a8 3 true;t.length=m/\c<=x_1.1/\x_1.1<O/\t.length=m/\A<m/\(ak/\q.bi q/\F.bi F/\H.bi H/\am.bi am/\True)/\((c<=r/\r<=x)/\a8.length=n/\gj t z I r a8=V)/\I<A;let an:=λ(u:Bool) ↦(!(dh U&&decide (gW p x_1.2 (vL U) Q<κ v+(1:Rat))))=u;let ao:=λ(u:Bool) ↦(!(decide (T<(↑Q:Int))&&decide (bN x_1.2 (ζy T) 0=c)))=u;let ap:=λ(u:Bool) ↦(!decide (bT p (zi x_1.2 k)≠c))=u;let aq:=λ(u:Bool) ↦decide (J<(↑n:Int))=u;(c<=x_1.1/\x_1.1<=x)/\Q=n/\gj t z A x_1.1 x_1.2=V->(ah=true->t.length=m/\c<=x_1.1/\x_1.1<O/\t.length=m/\A<m/\c<=r/\r<o/\I<t.length/\(aq true->n=B/\c<=J/\J<(↑B:Int)/\n=B/\X<B/\t.length=m/\c<=x_1.1/\x_1.1<O/\t.length=m/\A<m/\(a7.2=true->n=R.length/\c<=J/\J<(↑R.length:Int)/\n=R.length/\X<R.length/\al R k)/\(a7.2=false->al x_1.2 (-1:Int)))/\(aq false->t.length=m/\c<=x_1.1/\x_1.1<O/\t.length=m/\A<m/\(ak/\q.bi q/\F.bi F/\H.bi H/\ai.bi ai/\True)/\((c<=r/\r<=x)/\Q=n/\gj t z I r x_1.2=V)/\I<A))/\(ah=false->True/\(ab=true->n=B/\(sy p x_1.2 U/\(-9223372036854775808:Int)<=v/\v<=(9223372036854775807:Int))/\(an true->(f 13).bi L)/\(an false->Y))/\(ab=false->(ae=true->n=B/\c<=T/\(ao true->(f 13).bi L)/\(ao false->Y))/\(ae=false->(af=true->n=B/\Q<=1000000/\(ap true->(f 13).bi L)/\(ap false->Y))/\(af=false->n=B/\True/\(true=true->(f 13).bi L)/\(true=false->Y))))))/\(decide (x<y)=false->a9.bi L)) (by kernel_rfl) ?_;simp only[vcs];have h160:=(cL hc).2.1;have htn:1<=t.length/\t.length<=65536:=by
  unfold dr at ht;simp only[θ,decide_eq_true_eq] at ht;exact ht.1
 have hw:∀i,t.length=(dR t i).length:=λi=>qI.symm;have how:∀{x y:Nat},x=y->(γ1 1 x 2).bi (γ1 1 y 2):=by rintro _ _ rfl;rfl
 have hof:∀{x y:Nat},x=y->(γ1 3 x 1).bi (γ1 3 y 1):=by rintro _ _ rfl;rfl
 have hrow:∀{x y:List (Int×Bool)},x=y->(iZ.row pv x 159 true).bi (iZ.row pv y 159 true):=by rintro _ _ rfl;rfl
 have hd:(pv.bw:Int×Bool)=(0,false):=rfl;simp only[γk,hd];refine⟨by omega,by omega,by omega,by omega,⟨⟨how rfl,hrow rfl⟩,by omega,by omega,λj hj=>by omega⟩,?_⟩;rintro i ⟨i0,i1,hall⟩;refine⟨λhi=>?_,λhi=>?_⟩
 ·have hu:=Cw ht (i:=i.toNat) (by omega);have hlu:=@qI t i.toNat;have hno:=Cx ht (i:=i.toNat) (by omega);refine⟨i0,hi,by omega,by omega,by omega,by omega,by omega,⟨hof rfl,⟨i0,Int.le_refl _⟩,List.length_replicate,?_⟩,?_⟩
  ·unfold gH;rw[show((i.toNat:Nat):Int)=i by omega]
  rintro⟨k,f⟩ ⟨⟨k0,k1⟩,hfl,hfx⟩;simp only at k0 k1 hfl hfx ⊢;refine⟨λhk=>?_,λhk=>?_⟩
  ·have q:=hu.2 k.toNat (by omega);have q1:=q.2 (by omega);have ho:=(Cx ht (i:=(bN (dR t i.toNat) k.toNat (0,false)).1.toNat) (by omega)).1;have hs:=@J9 t (dR t i.toNat) hu k f hk (by omega);rw[hfx] at hs;unfold mn at hs;rw[hfl] at hs;have qq:=q.1;clear q;generalize bN (dR t i.toNat) k.toNat (0,false)=s at qq q1 ho hs ⊢;generalize (bN t s.1.toNat Ao.bw).2.1=o at ho hs ⊢;refine⟨hw _,k0,by omega,hw _,by omega,qq,by omega,by omega,λh=>?_,λh=>?_⟩
   ·rw[if_pos h] at hs;have l1:(f.set o.toNat (-1)).length=p.bj.length:=by rw[Ω,hfl]
    refine⟨by omega,ho,by omega,by omega,by omega,hw _,k0,by omega,hw _,by omega,λh2=>?_,λh2=>?_⟩
    ·rw[if_pos h2] at hs;exact⟨by omega,ho,by omega,by omega,by omega,hw _,k0,by omega,hw _,by omega,⟨⟨qq,by omega⟩,by rw[Ω];exact l1,by rw[List.set_set];exact hs.symm⟩,by omega⟩
    ·rw[if_neg (by rw[h2];exact Bool.false_ne_true)] at hs;refine⟨hw _,k0,?_,hw _,?_,⟨⟨qq,?_⟩,l1,hs.symm⟩,?_⟩<;>omega
   ·rw[if_neg h] at hs;refine⟨hw _,k0,?_,hw _,?_,⟨⟨qq,?_⟩,hfl,hs.symm⟩,?_⟩<;>omega
  ·have hk0:k=0:=by omega
   have hf:f=gH p t i.toNat:=by rw[<-hfx,hk0];rfl
   have hbi:=hb i.toNat (by omega);rw[<-hf] at hbi;have no:pt p v f (bN t i.toNat Ao.bw)=false->(13:Int)=if pr p v t=true then 0 else 13:=λh=>by
    have:pr p v t=false:=by
     unfold pr;rw[δN];intro ha;have:=ψ.1 ha i.toNat (γD.2 (by omega));rw[<-hf,h] at this;cases this
    rw[this];rfl
   have next:pt p v f (bN t i.toNat Ao.bw)=true->∀j:Nat,(j:Int)<i+1->pt p v (gH p t j) (bN t j Ao.bw)=true:=λh j hj=>by
    by_cases h2:(j:Int)<i;·exact hall j h2
    ·rw[show j=i.toNat by omega,<-hf];exact h
   have hup:dR t (i+1).toNat=if(bN t i.toNat Ao.bw).1=2 then((dR t i.toNat).set (bN t i.toNat Ao.bw).2.2.1.toNat (i,false)).set (bN t i.toNat Ao.bw).2.2.2.1.toNat (i,true) else dR t i.toNat:=by
    rw[show(i+1).toNat=i.toNat+1 by omega];conv=>lhs;unfold dR
    rw[show((i.toNat:Nat):Int)=i by omega]
   rw[hup];unfold pt at no next;have hsl:∀(j:Nat) (z:Int×Bool),((dR t i.toNat).set j z).length=t.length:=λj z=>by rw[Ω,hlu]
   generalize bN t i.toNat Ao.bw=n at no next hno hbi ⊢;refine⟨λh1=>⟨hfl.symm,⟨hbi h1,v0,v1⟩,λh=>no (by rw[if_pos h1];exact h),λh=>?_⟩,λh1=>⟨λh3=>⟨hfl.symm,hno.1,λh=>no (by rw[if_neg h1,if_pos h3];exact h),λh=>?_⟩,λh3=>⟨λh4=>⟨hfl.symm,by omega,λh=>no (by rw[if_neg h1,if_neg h3,if_pos h4];exact decide_eq_false h),λh=>?_⟩,λh4=>?_⟩⟩⟩;·exact⟨λh2=>by
      obtain⟨⟨a1,a2⟩,b1,b2⟩:=hno.2 h2;have s1:=hsl n.2.2.1.toNat (i,false);exact⟨hw _,by omega,by omega,hw _,by omega,s1.symm,by omega,by omega,s1.symm,by omega,by omega,hrow (if_pos h2).symm,⟨by omega,by omega,next (by rw[if_pos h1,h.1,decide_eq_true h.2];rfl)⟩,by omega⟩,λh2=>⟨by omega,hrow (if_neg h2).symm,⟨by omega,by omega,next (by rw[if_pos h1,h.1,decide_eq_true h.2];rfl)⟩,by omega⟩⟩
   ·exact⟨λh2=>by
      obtain⟨⟨a1,a2⟩,b1,b2⟩:=hno.2 h2;have s1:=hsl n.2.2.1.toNat (i,false);exact⟨hw _,by omega,by omega,hw _,by omega,s1.symm,by omega,by omega,s1.symm,by omega,by omega,hrow (if_pos h2).symm,⟨by omega,by omega,next (by rw[if_neg h1,if_pos h3,decide_eq_true h.1,decide_eq_true h.2];rfl)⟩,by omega⟩,λh2=>⟨by omega,hrow (if_neg h2).symm,⟨by omega,by omega,next (by rw[if_neg h1,if_pos h3,decide_eq_true h.1,decide_eq_true h.2];rfl)⟩,by omega⟩⟩
   ·exact⟨λh2=>by
      obtain⟨⟨a1,a2⟩,b1,b2⟩:=hno.2 h2;have s1:=hsl n.2.2.1.toNat (i,false);exact⟨hw _,by omega,by omega,hw _,by omega,s1.symm,by omega,by omega,s1.symm,by omega,by omega,hrow (if_pos h2).symm,⟨by omega,by omega,next (by rw[if_neg h1,if_neg h3,if_pos h4];exact decide_eq_true h)⟩,by omega⟩,λh2=>⟨by omega,hrow (if_neg h2).symm,⟨by omega,by omega,next (by rw[if_neg h1,if_neg h3,if_pos h4];exact decide_eq_true h)⟩,by omega⟩⟩
   ·have:=no (by rw[if_neg h1,if_neg h3,if_neg h4]);exact⟨hfl.symm,λ_=>this,λh=>by cases h⟩
 ·have:pr p v t=true:=ψ.2 λj hj=>hall j (by have:=γD.1 hj;omega);rw[this];rfl
def kK (p:cj) (n:cy):Bool:=!(decide (n.1=1)&&decide ((n.2.2.2.2.length:Int)≠cq p))
def rf (p:cj) (v:Int) (t:List cy):Int:=
 if nW p≠0 then nW p else if t.length=0 then 1 else if 65536<t.length then 3 else if dr t=false then 2 else if t.all (kK p)=false then 2 else if pr p v t=true then 0 else 13
def s7 (p:cj) (v:Int) (t:List cy):Prop:=(∀n∈t,∀x∈n.2.2.2.2,gI x)/\t.length<=1000000000000/\(nW p=0->dr t=true->t.all (kK p)=true->Cz p v t)
def Da:NG:=⟨39,cj×Int×List cy,.cons cV (.cons (dX .i64) (.one (cO Ao))),λa=>s7 a.1 a.2.1 a.2.2,λa=> .si .i64 (rf a.1 a.2.1 a.2.2)⟩
def RK (p:cj) (v:Int) (t:List cy):Nat->bJ
 |12=> .inv Int (λi=>⟨[(1,.si .i64 v),(2,.row Ao t),(3,.ptr 0 0 20),(8,.si .i64 (cq p)),(30,.row Ao t),(31,.si .i64 t.length),(32,.si .i64 i)],[.cells p.ss 27 20 false]⟩)
   (λs=>iS s 32) (λi=>0<=i/\i<=t.length/\∀j:Nat,j<i->kK p (bN t j Ao.bw)=true) (λi=>(t.length - i).toNat) λ_ _=> .look
 |_=> .look
theorem HW:Holds Tryz.prog Da:=by
 refine bM (L:=[mV,CM,vH,Cv]) Da (λa=>RK a.1 a.2.1 a.2.2) (by grind[oi,HU,qP,HT]) ?_;rintro⟨p,v,t⟩ ⟨hdg,htl,hok⟩;simp only at hdg htl hok;refine NI (let a:=γj .i64;let b:=(0:Int);let c:=γC .i64;let d:=γa;let o:=decide (nW p≠b);let f:=a (rf p v t);let h:=(↑t.length:Int);let q:=decide (h=b);let r:=decide ((65536:Int)<h);let i:=γV 0 0 20;let l:=a (cq p);let e:=(↑t.length:Int);let m:=a e;let k:=iZ.cells (cj.ss p) 27 20 false;True/\(o=true->(a (nW p)).bi f)/\(o=false->(q=true->(c 1).bi f)/\(q=false->(r=true->(c 3).bi f)/\(r=false->(∀(n:cy),n∈t->∀(x:NH),x∈n.2.2.2.2->gI x)/\((!dr t)=true->(c 2).bi f)/\((!dr t)=false->True/\((((a v).bi (a v)/\(d Ao t).bi (d Ao t)/\i.bi i/\(a (if nW p=b then cq p else b)).bi l/\(d Ao t).bi (d Ao t)/\(a h).bi m/\(c 0).bi (a 0)/\True)/\k.bi k/\True)/\b<=b/\b<=e/\∀(j:Nat),(↑j:Int)<b->kK p (bN t j Ao.bw)=true)/\∀(x:Int),let g:=x+(1:Int);let s:=a g;let w:=bN t x.toNat Ao.bw;let y:=VL .i64 g/\(((a v).bi (a v)/\(d Ao t).bi (d Ao t)/\i.bi i/\l.bi l/\(d Ao t).bi (d Ao t)/\m.bi m/\s.bi s/\True)/\k.bi k/\True)/\(b<=g/\g<=e/\∀(j:Nat),(↑j:Int)<g->kK p (bN t j Ao.bw)=true)/\(e - g).toNat<(e - x).toNat;let z:=λ(u:Bool) ↦decide ((↑(γd w.2.2.2.2):Int)≠cq p)=u;let A:=λ(u:Bool) ↦decide (w.1=(1:Int))=u;(b<=x/\x<=e/\∀(j:Nat),(↑j:Int)<x->kK p (bN t j Ao.bw)=true)->(decide (x<e)=true->b<=x/\x<h/\x.toNat<t.length/\(A true->(z true->(c 2).bi f)/\(z false->y))/\(A false->y))/\(decide (x<e)=false->Cz p v t/\(a (if pr p v t=true then b else(13:Int))).bi f)))))) (by kernel_rfl) ?_;simp only[vcs];unfold rf;refine⟨λh=>by rw[if_pos h],λh=>?_⟩;rw[if_neg h];have hc:nW p=0:=γe.1 h;refine⟨λh1=>by omega,λh1=>?_⟩;rw[if_neg (show ¬t.length=0 by omega)];refine⟨λh2=>by omega,λh2=>?_⟩;rw[if_neg (show ¬65536<t.length by omega)];refine⟨hdg,λh3=>by rw[if_pos h3],λh3=>?_⟩;have hnt:¬dr t=false:=by simp_all
 rw[if_neg hnt,if_pos hc];refine⟨⟨rfl,by omega,by omega,λj hj=>by omega⟩,?_⟩;rintro i ⟨i0,i1,hall⟩;refine⟨λhi=>?_,λhi=>?_⟩
 ·have hm:=cA (d:=Ao.bw) (show i.toNat<t.length by omega);have next:kK p (bN t i.toNat Ao.bw)=true->∀j:Nat,(j:Int)<i+1->kK p (bN t j Ao.bw)=true:=λhr j hj=>by
   grind
  have no:kK p (bN t i.toNat Ao.bw)=false->t.all (kK p)=false:=λhr=>by
   grind
  refine⟨i0,hi,by omega,λh4=>⟨λh5=>?_,λh5=>⟨by omega,⟨by omega,by omega,next ?_⟩,by omega⟩⟩,λh4=>⟨by omega,⟨by omega,by omega,next ?_⟩,by omega⟩⟩;·simp_all[kK]
  all_goals grind[kK]
 ·have ha:t.all (kK p)=true:=ψ.2 λn hn=>by
   obtain⟨j,hj,rfl⟩:=γJ hn;grind[bV]
  simp_all
@[reducible] def Qg:ew:=.pair (.Ap (.i .i64)) (.pair (.i .i64) (.Ap Ao))
def re (p:cj) (r:List Int×Int×List cy):Int:=if bT p r.1≠0 then bT p r.1 else if cB p r.1≠r.2.1 then 13 else rf p r.2.1 r.2.2
def C_:NG:=⟨22,cj×List Int×Int×List cy,.cons cV (.one (dD Qg)),λa=>a.2.1.length<=1000000000000/\(bT a.1 a.2.1=0->cB a.1 a.2.1=a.2.2.1->s7 a.1 a.2.2.1 a.2.2.2),λa=> .si .i64 (re a.1 a.2)⟩
theorem HV:Holds Tryz.prog C_:=by
 refine bM (L:=[vQ,BX,Da]) C_ lk (by grind[qZ,yL,HW]) ?_;rintro⟨p,c,w,t⟩ ⟨g,a⟩;simp only at g a;refine NI (let a:=γj .i64;let d:=decide (bT p c≠(0:Int));let b:=a (re p (c,w,t));let e:=decide (cB p c≠w);c.length<=9223372036854775807/\(d=true->(a (bT p c)).bi b)/\(d=false->(nW p=(0:Int)/\c.length<=9223372036854775807)/\(e=true->(γC .i64 13).bi b)/\(e=false->s7 p w t/\(a (rf p w t)).bi b))) (by kernel_rfl) ?_;simp only[vcs];unfold re;refine⟨by omega,λh=>by rw[if_pos h],λh=>?_⟩;rw[if_neg h];have f:bT p c=0:=γe.1 h;have i:nW p=0:=by
  unfold bT at f;omega
 grind
theorem Sx {p:cj} {f:List Int} {d:Int} (h:f.length=p.bj.length):dj p.bj.length (zi f d):=⟨rY,λi a=>by grind[jO]⟩
theorem uU {a:Type} {l:List a} {i:Nat} {x d:a} (h:l[i]?=some x):bN l i d=x/\i<l.length:=by
 grind[bN]
theorem gZ.top {p:cj} {v:Int} {t:List cy} {a lo b:Nat} {f:List Int} (h:gZ p v t a f lo b):a<t.length/\(lo<b->b<=t.length):=by
 induction h with
 |dZ c _ _=>grind;|j6 c _=>grind;|@bra a f lo d b k c _ _ _ g e i j=>
  omega
theorem Sw {p:cj} {f:List Int} (h:i_ p f=true):dW p f:=by
 unfold i_ at h;rw[θ,decide_eq_true_eq] at h;obtain⟨a,b⟩:=h;unfold hJ at a;split at a;·omega
 ·rename_i d;split at a;·cases a
  ·rename_i c;exact⟨γe.1 d,γe.1 c,b⟩
theorem J8 {p:cj} {f:List Int} (h:i_ p f=true):Sz 1000002 (g_ p f):=by
 have a:=Sw h;have c:=@wP p a.1 f f.length a.2.1;rw[φ] at c;have d:Sz 1 ((fN p f:Int):Rat):=by
  unfold Sz;rw[Rat.num_intCast,Rat.den_intCast];omega
 have b:Sz 1000000 (cE p f).value:=((zP a).sw (mO a).1).2.2.2;exact(wY d b).mono (by omega)
theorem Sv {n:Nat} (hD:dB Tryz.prog (BU n)):dB Tryz.prog (s8 (n+1)):=by
 refine X9 (L:=[mj,uj,DY,DS]) (W:=[DU,DT,wM,BU n]) (s8 (n+1)) (fG 72) lk (by simpa using⟨y5,H0,tY,hD⟩) (by simpa using⟨nG,zb,H1,HZ⟩) ?_;rintro⟨⟨p,ch,val,bp,en,k1,k2,bz,err,bq,fx⟩,a⟩ ⟨hok,ha,hn⟩;simp only at hok ha hn;have e1:k1=bq.length:=hok.k1;have e2:k2=fx.length:=hok.k2;subst e1;subst e2;have hf:dP p fx:=hok.f;have h160:=(cL hf.c).2.1;have hfl:fx.length=p.bj.length:=hf.l;have hfe:=hf.e;have hfo:=hf.i_;have hv0:0<=val:=hok.v0;have hv1:val<=9223372036854775806:=hok.v1;have hm0:1<=bz:=hok.m0;have hm1:bz<=65536:=hok.m1;have hpl:bq.length<=65536:=hok.l;rcases en with _|m
 ·refine NI (let b:=γj .i64;let c:=(0:Int);let d:=(1:Int);let e:=iZ.cells;let f:=SV.Gz;let g:=iZ.row;let h:=VL .i64;let j:=(-9223372036854775808:Int);let k:=(-1:Int);let l:=(9223372036854775807:Int);let m:=(2:Int);let o:=γa;let q:=γB;let r:=γ1;let v:=vL (jq p fx);let x:=b p.bm.a0;let y:=b p.bm.a1;let z:=b p.bm.a2;let A:=b p.bm.a3;let B:=b p.bm.a4;let C:=b p.bm.a5;let D:=b p.bs.a0;let E:=b p.bs.a1;let F:=b p.bs.a2;let G:=b p.bs.a3;let H:=b p.bs.a4;let I:=b p.bs.a5;let J:=b p.bt.a0;let K:=b p.bt.a1;let L:=b p.bt.a2;let M:=b p.bt.a3;let N:=b p.bt.a4;let O:=b p.bt.a5;let U:=ew.i .i64;let P:=o U p.bk;let Q:=o ew.bu p.bj;let ag:=o U ch;let ah:=b val;let R:=SV.fn (Fn.func 70) [] [];let ai:=r 1 bq.length 5;let V:=r 2 fx.length 1;let W:=b bz;let aw:=[V,W,γC .i64 12];let ax:=cd.mk ch val bp bq err;let a7:=cP p (bH none) bz (nF fx) ax a fx;let X:=e [x,y,z,A,B,C,D,E,F,G,H,I,J,K,L,M,N,O,P,Q,o U a7.ch,b a7.val,q a7.bp,R,r 1 a7.bq.length 5,V,W,b a7.err] 126 28 false;let an:=g Ao bq 108 true;let Y:=g Ao a7.bq 108 true;let t:=g U fx 3 true;let Z:=(↑bq.length:Int);let ay:=decide (bz<Z+m);let az:=bq.length+2;let a8:=Z+d;let ao:=(c,c,c,[]);let aj:=[(c,ao),(c,ao)];let z53:Nat:=(bq++aj).length;let w:=(iL v).getD c;let ap:=(bq++aj).set a.toNat (m,w,Z,a8,[]);let a9:=w.toNat;let ac:=fx.set a9 d;let S:=cP p (bH none) bz (nF ac) (cd.mk ch val bp ap err) a8 ac;let ad:=fx.set a9 k;let aa:=cP p (bH none) bz (nF ad) S Z ad;let ak:=((jr p fx).1,(jr p fx).2.1,(jr p fx).2.2);let al:=val+d;let aq:=nf (κ al);let aA:=(aq.1,aq.2.1,aq.2.2);let aB:=gK (TL ak) (TL aA);let aC:=decide (aB<c);let aD:=(d,c,c,c,oW p fx);let s:=dv (bH none) ax (bB.mk (dN v) (bF (List.map (oI p) (dN v))));let z69:Nat:=(s.bq++aj).length;let ae:=s.bq.length;let am:=s.val+d;let ar:=nf (κ am);let ab:=(↑ae:Int);let aE:=decide (err≠c);let aF:=decide (hJ p fx≠c);let a6:=s.bq.length;let af:=ab+d;let au:=(s.bq++aj).set a.toNat (m,w,ab,af,[]);let T:=cP p (bH none) bz (nF ac) (cd.mk s.ch s.val s.bp au s.err) af ac;let aG:=cP p (bH none) bz (nF ad) T ab ad;let aT:=let aH:=(f []).bi (f [])/\(e (x::y::z::A::B::C::D::E::F::G::H::I::J::K::L::M::N::O::P::Q::ag::ah::q bp::R::ai::aw) 126 28 false).bi X/\an.bi Y/\t.bi t/\True;mW (jq p fx)/\((!(iL v).isSome)=true->aH)/\((!(iL v).isSome)=false->h (Z+m)/\(ay=true->aH)/\(ay=false->2=2/\bq.length=bq.length/\az*56<=140737488355328/\az<=1000000000000/\h a8/\z53=z53/\c<=a/\a<(↑z53:Int)/\z53=z53/\a.toNat<z53/\h a8/\(eh (cW.mk p ch val bp none z53 fx.length bz err ap fx)/\(c<=a8/\a8<(↑ap.length:Int))/\(c<=w/\w<(↑fx.length:Int))/\bN fx a9 c=c/\(d=d\/d=k)/\nF ac<n)/\(eh (cW.mk p S.ch S.val S.bp none S.bq.length fx.length bz S.err S.bq fx)/\(c<=Z/\Z<(↑S.bq.length:Int))/\(c<=w/\w<(↑fx.length:Int))/\bN fx a9 c=c/\(k=d\/k=k)/\nF ad<n)/\(f []).bi (f [])/\(e [x,y,z,A,B,C,D,E,F,G,H,I,J,K,L,M,N,O,P,Q,o U aa.ch,b aa.val,q aa.bp,R,r 1 aa.bq.length 5,V,W,b aa.err] 126 28 false).bi X/\(g Ao aa.bq 108 true).bi Y/\t.bi t/\True));let aI:=(bL ak/\bL aA)/\(aC=true->bq.length=bq.length/\c<=a/\a<(↑bq.length:Int)/\bq.length=bq.length/\a.toNat<bq.length/\(f []).bi (f [])/\(e [x,y,z,A,B,C,D,E,F,G,H,I,J,K,L,M,N,O,P,Q,ag,ah,q bp,R,ai,V,W,b err] 126 28 false).bi X/\(g Ao (bq.set a.toNat aD) 108 true).bi Y/\t.bi t/\True)/\(aC=false->aT);let aJ:=z69=z69;let aK:=(f []).bi (f [])/\(e (x::y::z::A::B::C::D::E::F::G::H::I::J::K::L::M::N::O::P::Q::o U s.ch::b s.val::q s.bp::R::r 1 ae 5::aw) 126 28 false).bi X/\(g Ao s.bq 108 true).bi Y/\t.bi t/\True;let aL:=(f []).bi (f [])/\(e [x,y,z,A,B,C,D,E,F,G,H,I,J,K,L,M,N,O,P,Q,ag,ah,q bp,R,ai,V,W,b err] 126 28 false).bi X/\an.bi Y/\t.bi t/\True;let aM:=λ(u:cd) (u_1:iZ) ↦(f []).bi (f [])/\(e [x,y,z,A,B,C,D,E,F,G,H,I,J,K,L,M,N,O,P,Q,o U u.ch,b u.val,q u.bp,R,r 1 u.bq.length 5,V,W,b u.err] 126 28 false).bi X/\u_1.bi Y/\t.bi t/\True;let aN:=λ(u:cW) (u_1:Int) (u_2:Nat) (u_3:Int) ↦eh u/\(c<=u_1/\u_1<(↑u_2:Int))/\(c<=w/\w<(↑fx.length:Int))/\bN fx a9 c=c/\(u_3=d\/u_3=k)/\nF (fx.set a9 u_3)<n;let aO:=λ(u:Int) (u_1:iZ) ↦(f []).bi (f [])/\(e [x,y,z,A,B,C,D,E,F,G,H,I,J,K,L,M,N,O,P,Q,ag,ah,q bp,R,ai,V,W,b u] 126 28 false).bi X/\u_1.bi Y/\t.bi t/\True;let aP:=λ(u:Bool) ↦decide (gK (TL ak) (TL (ar.1,ar.2.1,ar.2.2))<c)=u;let aQ:=λ(u:Bool) ↦decide (c<=aB)=u;let aR:=λ(u:Int) ↦let av:=nf (κ (u+d));bL ak/\bL (av.1,av.2.1,av.2.2);let aS:=λ(u:Bool) ↦decide (bz<ab+m)=u;(aE=true->aL)/\(aE=false->(bp=true->aL)/\(bp=false->(fx.length=fx.length/\fx.length<=1000000000000)/\(aF=true->aO (hJ p fx) an)/\(aF=false->((!i_ p fx)=true->bq.length=bq.length/\c<=a/\a<(↑bq.length:Int)/\bq.length=bq.length/\a.toNat<bq.length/\aO err (g Ao (bq.set a.toNat ((3:Int),ao)) 108 true))/\((!i_ p fx)=false->h al/\(j<=al/\al<=l)/\aR val/\(aQ true->mW (jq p fx)/\(lz v=true->(eh (cW.mk p ch val bp none bq.length fx.length bz err bq fx)/\mW (jq p fx)/\(jq p fx).length=p.bj.length)/\bq.length=bq.length/\h am/\(j<=am/\am<=l)/\aR s.val/\(aP true->ae=a6/\c<=a/\a<(↑a6:Int)/\ae=a6/\a.toNat<a6/\aM s (g Ao (s.bq.set a.toNat aD) 108 true))/\(aP false->mW (jq p fx)/\((!(iL v).isSome)=true->aK)/\((!(iL v).isSome)=false->h (ab+m)/\(aS true->aK)/\(aS false->2=2/\ae=a6/\(a6+2)*56<=140737488355328/\a6+2<=1000000000000/\h af/\aJ/\c<=a/\a<(↑z69:Int)/\aJ/\a.toNat<z69/\h af/\aN (cW.mk p s.ch s.val s.bp none z69 fx.length bz s.err au fx) af au.length d/\aN (cW.mk p T.ch T.val T.bp none T.bq.length fx.length bz T.err T.bq fx) ab T.bq.length k/\aM aG (g Ao aG.bq 108 true)))))/\(lz v=false->aI))/\(aQ false->aI)))))) (by kernel_rfl) ?_;simp only[vcs];refine⟨λh=>by rw[wJ hf (.inl h)];exact⟨rfl,rfl⟩,λh0=>⟨λh=>by rw[wJ hf (.inr h)];exact⟨rfl,rfl⟩,λh1=>⟨by omega,λh=>absurd hfe h,λ_=>⟨λh=>?_,λhb=>?_⟩⟩⟩⟩
  ·have hs:¬((⟨ch,val,bp,bq,err⟩:cd).err≠0\/(⟨ch,val,bp,bq,err⟩:cd).bp=true):=by
    rintro(h|h);·exact h0 h
    ·rw[show bp=true from h] at h1;cases h1
   rw[K5 hf hs (by rw[<-hfo];exact h)];refine⟨ha.1,ha.2,by omega,?_,rfl⟩;simp only[Ω];rfl
  ·have hs:¬((⟨ch,val,bp,bq,err⟩:cd).err≠0\/(⟨ch,val,bp,bq,err⟩:cd).bp=true):=by
    rintro(h|h);·exact h0 h
    ·rw[show bp=true from h] at h1;cases h1
   have hbf:fZ p fx=true:=by rw[<-hfo];exact hb
   have hfix:=hf.ok hbf;have eB:jr p fx=nf (g_ p fx):=by unfold jr;rw[if_pos hb]
   have eS:jq p fx=fL (cN p fx):=by unfold jq cN;rw[if_pos hb]
   have eP:oW p fx=fL (gv p fx):=by unfold oW;rw[if_pos hb]
   have hsl:(cN p fx).length=fx.length:=pB;have oS:mW (fL (cN p fx)):=⟨cN p fx,rfl,by rw[ez];omega,λq hq=>by
    obtain⟨i,hi,rfl⟩:=γJ hq;have:=(Ai hfix hf.r (i:=i) (by omega)).2.2;rwa [bV hi] at this⟩;have fB:bL (nf (g_ p fx)):=dc (J8 hb) (by omega);have fI:∀v:Int,0<=v->v<=9223372036854775807->bL (nf (κ v)):=λv h0 h1=>dc (pg (by omega) h1) (by omega);have hcv:∀v:Int,gK (g_ p fx) (κ v)<0↔g_ p fx<((v:Int):Rat):=λv=>qK;simp only[eB,eS,eP,jP,iO,dJ];have hcm:dN (cN p fx)=(nB p fx).bn:=rfl;refine⟨by omega,by omega,⟨fB,fI _ (by omega) (by omega)⟩,λhge=>⟨oS,λhi=>?_,λhi=>?_⟩,λhlt=>?_⟩
   ·have hO:cD p (bH none) ⟨ch,val,bp,bq,err⟩ fx=dv (bH none) ⟨ch,val,bp,bq,err⟩ ⟨dN (cN p fx),bF ((dN (cN p fx)).map (oI p))⟩:=by
     unfold cD;rw[if_pos ⟨ε1.1 λh=>absurd ((hcv (val+1)).2 h) (Int.not_lt.2 hge),hi⟩];rfl
    have hok':eh (cW.iw ⟨p,ch,val,bp,none,bq.length,fx.length,bz,err,bq,fx⟩ (cD p (bH none) ⟨ch,val,bp,bq,err⟩ fx)):=hok.IW;rw[hO] at hok';obtain⟨e1,e2,_⟩:=@Af (bH none) ⟨ch,val,bp,bq,err⟩ ⟨dN (cN p fx),bF ((dN (cN p fx)).map (oI p))⟩;generalize dv (bH none) ⟨ch,val,bp,bq,err⟩ ⟨dN (cN p fx),bF ((dN (cN p fx)).map (oI p))⟩=O at*;obtain⟨ch',val',found',prf',aq8⟩:=O;have e1:bq=prf':=Eq.symm e1;have e2:err=aq8:=Eq.symm e2;subst e1;subst e2;have w0:0<=val':=hok'.v0;have w1:val'<=9223372036854775806:=hok'.v1;dsimp only;refine⟨⟨hok,oS,by rw[ez];omega⟩,by omega,by omega,⟨fB,fI _ (by omega) (by omega)⟩,?_⟩;refine⟨λh=>?_,λh=>⟨oS,λhk=>?_,λhk=>⟨by omega,λhm=>?_,λhm=>?_⟩⟩⟩
    ·rw[uA hf hs hbf hO ((hcv _).1 h)];refine⟨ha.1,ha.2,by omega,?_,rfl⟩;simp only[Ω];rfl
    ·rw[od hf hs hbf hO (λh'=>h ((hcv _).2 h')) (.inl (γ8.1 hk |>γU.1))];exact⟨rfl,rfl⟩
    ·rw[od hf hs hbf hO (λh'=>h ((hcv _).2 h')) (.inr hm)];exact⟨rfl,rfl⟩
    ·obtain⟨k,hk'⟩:=γs.1 hk;rw[uz hf hs hbf hO (λh'=>h ((hcv _).2 h')) hk' hm];simp only[hk',γ3];obtain⟨hk1,hk2,hk3⟩:=qL hk';rw[hsl] at hk1;have hk0:bN fx k.toNat 0=0:=qM hfix hf.r (by omega) hk2 hk3;have n1:=kL hk1 hk0 (d:=1) (by omega);have n2:=kL hk1 hk0 (d:= -1) (by omega);have hl2:((bq++[zN,zN]).set a.toNat (je k bq.length)).length=bq.length+2:=by rw[Ω,γh];rfl
     have hl1:(bq++[zN,zN]).length=bq.length+2:=by rw[γh];rfl
     have o1:=eh.ui (x:=⟨p,ch',val',found',none,bq.length,fx.length,bz,aq8,bq,fx⟩) hok' (k:=(bq++[zN,zN]).length) (l:=(bq++[zN,zN]).set a.toNat (je k bq.length)) hm (by rw[hl1,hl2]) hl2;have o2:=o1.ug (f:=fx.set k.toNat 1) (hf.set (by omega)) (n:=nF (fx.set k.toNat 1)) (a:=(bq.length:Int)+1);have o3:=(@pA p (bH none) bz (nF (fx.set k.toNat 1)) (fK ⟨ch',val',found',bq,aq8⟩ a k) ((bq.length:Int)+1) (fx.set k.toNat 1) (hf.set (by omega))).1;have o4:bq.length+2<=(cP p (bH none) bz (nF (fx.set k.toNat 1)) (fK ⟨ch',val',found',bq,aq8⟩ a k) ((bq.length:Int)+1) (fx.set k.toNat 1)).bq.length:=by rw[<-hl2];exact o3
     have q1:a<((bq++[zN,zN]).length:Int):=by omega
     have q3:(bq.length:Int)+1<(((bq++[zN,zN]).set a.toNat (je k bq.length)).length:Int):=by rw[hl2];omega
     have q2:a.toNat<(bq++[zN,zN]).length:=by omega
     exact⟨by omega,by omega,by omega,ha.1,q1,q2,by omega,⟨o1,⟨by omega,q3⟩,hk1,hk0,.inl trivial,by omega⟩,⟨o2,⟨by omega,εW.2 (γl (by omega) o4)⟩,hk1,hk0,.inr trivial,by omega⟩,rfl,rfl⟩
   ·have hO:cD p (bH none) ⟨ch,val,bp,bq,err⟩ fx=⟨ch,val,bp,bq,err⟩:=by
     unfold cD;rw[if_neg (λh=>by rw[h.2] at hi;cases hi)]
    refine⟨⟨fB,fI _ (by omega) (by omega)⟩,?_⟩;refine⟨λh=>?_,λh=>⟨oS,λhk=>?_,λhk=>⟨by omega,λhm=>?_,λhm=>?_⟩⟩⟩
    ·rw[uA hf hs hbf hO ((hcv _).1 h)];refine⟨ha.1,ha.2,by omega,?_,rfl⟩;simp only[Ω];rfl
    ·rw[od hf hs hbf hO (λh'=>h ((hcv _).2 h')) (.inl (γ8.1 hk |>γU.1))];exact⟨rfl,rfl⟩
    ·rw[od hf hs hbf hO (λh'=>h ((hcv _).2 h')) (.inr hm)];exact⟨rfl,rfl⟩
    ·obtain⟨k,hk'⟩:=γs.1 hk;rw[uz hf hs hbf hO (λh'=>h ((hcv _).2 h')) hk' hm];simp only[hk',γ3];obtain⟨hk1,hk2,hk3⟩:=qL hk';rw[hsl] at hk1;have hk0:bN fx k.toNat 0=0:=qM hfix hf.r (by omega) hk2 hk3;have n1:=kL hk1 hk0 (d:=1) (by omega);have n2:=kL hk1 hk0 (d:= -1) (by omega);have hl2:((bq++[zN,zN]).set a.toNat (je k bq.length)).length=bq.length+2:=by rw[Ω,γh];rfl
     have hl1:(bq++[zN,zN]).length=bq.length+2:=by rw[γh];rfl
     have o1:=eh.ui hok (k:=(bq++[zN,zN]).length) (l:=(bq++[zN,zN]).set a.toNat (je k bq.length)) hm (by rw[hl1,hl2]) hl2;have o2:=o1.ug (f:=fx.set k.toNat 1) (hf.set (by omega)) (n:=nF (fx.set k.toNat 1)) (a:=(bq.length:Int)+1);have o3:=(@pA p (bH none) bz (nF (fx.set k.toNat 1)) (fK ⟨ch,val,bp,bq,err⟩ a k) ((bq.length:Int)+1) (fx.set k.toNat 1) (hf.set (by omega))).1;have o4:bq.length+2<=(cP p (bH none) bz (nF (fx.set k.toNat 1)) (fK ⟨ch,val,bp,bq,err⟩ a k) ((bq.length:Int)+1) (fx.set k.toNat 1)).bq.length:=by rw[<-hl2];exact o3
     have q1:a<((bq++[zN,zN]).length:Int):=by omega
     have q3:(bq.length:Int)+1<(((bq++[zN,zN]).set a.toNat (je k bq.length)).length:Int):=by rw[hl2];omega
     have q2:a.toNat<(bq++[zN,zN]).length:=by omega
     exact⟨by omega,by omega,by omega,ha.1,q1,q2,by omega,⟨o1,⟨by omega,q3⟩,hk1,hk0,.inl trivial,by omega⟩,⟨o2,⟨by omega,εW.2 (γl (by omega) o4)⟩,hk1,hk0,.inr trivial,by omega⟩,rfl,rfl⟩
   ·have hO:cD p (bH none) ⟨ch,val,bp,bq,err⟩ fx=⟨ch,val,bp,bq,err⟩:=by
     unfold cD;rw[if_neg (λh=>ε1.2 h.1 ((hcv (val+1)).1 (Int.not_le.1 hlt)))]
    refine⟨⟨fB,fI _ (by omega) (by omega)⟩,?_⟩;refine⟨λh=>?_,λh=>⟨oS,λhk=>?_,λhk=>⟨by omega,λhm=>?_,λhm=>?_⟩⟩⟩
    ·rw[uA hf hs hbf hO ((hcv _).1 h)];refine⟨ha.1,ha.2,by omega,?_,rfl⟩;simp only[Ω];rfl
    ·rw[od hf hs hbf hO (λh'=>h ((hcv _).2 h')) (.inl (γ8.1 hk |>γU.1))];exact⟨rfl,rfl⟩
    ·rw[od hf hs hbf hO (λh'=>h ((hcv _).2 h')) (.inr hm)];exact⟨rfl,rfl⟩
    ·obtain⟨k,hk'⟩:=γs.1 hk;rw[uz hf hs hbf hO (λh'=>h ((hcv _).2 h')) hk' hm];simp only[hk',γ3];obtain⟨hk1,hk2,hk3⟩:=qL hk';rw[hsl] at hk1;have hk0:bN fx k.toNat 0=0:=qM hfix hf.r (by omega) hk2 hk3;have n1:=kL hk1 hk0 (d:=1) (by omega);have n2:=kL hk1 hk0 (d:= -1) (by omega);have hl2:((bq++[zN,zN]).set a.toNat (je k bq.length)).length=bq.length+2:=by rw[Ω,γh];rfl
     have hl1:(bq++[zN,zN]).length=bq.length+2:=by rw[γh];rfl
     have o1:=eh.ui hok (k:=(bq++[zN,zN]).length) (l:=(bq++[zN,zN]).set a.toNat (je k bq.length)) hm (by rw[hl1,hl2]) hl2;have o2:=o1.ug (f:=fx.set k.toNat 1) (hf.set (by omega)) (n:=nF (fx.set k.toNat 1)) (a:=(bq.length:Int)+1);have o3:=(@pA p (bH none) bz (nF (fx.set k.toNat 1)) (fK ⟨ch,val,bp,bq,err⟩ a k) ((bq.length:Int)+1) (fx.set k.toNat 1) (hf.set (by omega))).1;have o4:bq.length+2<=(cP p (bH none) bz (nF (fx.set k.toNat 1)) (fK ⟨ch,val,bp,bq,err⟩ a k) ((bq.length:Int)+1) (fx.set k.toNat 1)).bq.length:=by rw[<-hl2];exact o3
     have q1:a<((bq++[zN,zN]).length:Int):=by omega
     have q3:(bq.length:Int)+1<(((bq++[zN,zN]).set a.toNat (je k bq.length)).length:Int):=by rw[hl2];omega
     have q2:a.toNat<(bq++[zN,zN]).length:=by omega
     exact⟨by omega,by omega,by omega,ha.1,q1,q2,by omega,⟨o1,⟨by omega,q3⟩,hk1,hk0,.inl trivial,by omega⟩,⟨o2,⟨by omega,εW.2 (γl (by omega) o4)⟩,hk1,hk0,.inr trivial,by omega⟩,rfl,rfl⟩
 ·refine NI (let b:=γj .i64;let c:=(0:Int);let d:=iZ.cells;let e:=(1:Int);let f:=SV.Gz;let g:=iZ.row;let h:=VL .i64;let j:=(-9223372036854775808:Int);let k:=(-1:Int);let l:=(9223372036854775807:Int);let o:=(2:Int);let q:=γa;let r:=γB;let s:=γ1;let ai:=((jr p fx).1,(jr p fx).2.1,(jr p fx).2.2);let aj:=val+e;let ap:=nf (κ aj);let ay:=(ap.1,ap.2.1,ap.2.2);let az:=gK (TL ai) (TL ay);let aA:=decide (az<c);let z:=b p.bm.a0;let A:=b p.bm.a1;let B:=b p.bm.a2;let C:=b p.bm.a3;let D:=b p.bm.a4;let E:=b p.bm.a5;let F:=b p.bs.a0;let G:=b p.bs.a1;let H:=b p.bs.a2;let I:=b p.bs.a3;let J:=b p.bs.a4;let K:=b p.bs.a5;let L:=b p.bt.a0;let M:=b p.bt.a1;let N:=b p.bt.a2;let O:=b p.bt.a3;let P:=b p.bt.a4;let Q:=b p.bt.a5;let W:=ew.i .i64;let R:=q W p.bk;let S:=q ew.bu p.bj;let ak:=q W ch;let al:=b val;let T:=SV.fn (Fn.func 116) [] [γV 1 0 1];let am:=s 2 bq.length 5;let X:=s 3 fx.length 1;let Y:=b bz;let aB:=cd.mk ch val bp bq err;let a9:=cP p (bH (some m)) bz (nF fx) aB a fx;let Z:=d [z,A,B,C,D,E,F,G,H,I,J,K,L,M,N,O,P,Q,R,S,q W a9.ch,b a9.val,r a9.bp,T,s 2 a9.bq.length 5,X,Y,b a9.err] 126 28 false;let v:=d [b m] 2 1 false;let aC:=(e,c,c,c,oW p fx);let a6:=g Ao a9.bq 108 true;let w:=g W fx 3 true;let x:=vL (jq p fx);let aD:=[X,Y,γC .i64 12];let aq:=g Ao bq 108 true;let a7:=(↑bq.length:Int);let aE:=decide (bz<a7+o);let aF:=bq.length+2;let aa:=a7+e;let ar:=(c,c,c,[]);let an:=[(c,ar),(c,ar)];let z61:Nat:=(bq++an).length;let y:=(iL x).getD c;let au:=(bq++an).set a.toNat (o,y,a7,aa,[]);let ab:=y.toNat;let ae:=fx.set ab e;let U:=cP p (bH (some m)) bz (nF ae) (cd.mk ch val bp au err) aa ae;let af:=fx.set ab k;let ac:=cP p (bH (some m)) bz (nF af) U a7 af;let t:=dv (bH (some m)) aB (bB.mk (dN x) (bF (List.map (oI p) (dN x))));let ag:=t.bq.length;let z71:Nat:=(t.bq++an).length;let ao:=t.val+e;let av:=nf (κ ao);let ad:=(↑ag:Int);let aG:=decide (err≠c);let aH:=decide (hJ p fx≠c);let a8:=t.bq.length;let ah:=ad+e;let aw:=(t.bq++an).set a.toNat (o,y,ad,ah,[]);let V:=cP p (bH (some m)) bz (nF ae) (cd.mk t.ch t.val t.bp aw t.err) ah ae;let aI:=cP p (bH (some m)) bz (nF af) V ad af;let aV:=let aJ:=(f []).bi (f [])/\(d (z::A::B::C::D::E::F::G::H::I::J::K::L::M::N::O::P::Q::R::S::ak::al::r bp::T::am::aD) 126 28 false).bi Z/\v.bi v/\aq.bi a6/\w.bi w/\True;(aA=true->bq.length=bq.length/\c<=a/\a<(↑bq.length:Int)/\bq.length=bq.length/\a.toNat<bq.length/\(f []).bi (f [])/\(d [z,A,B,C,D,E,F,G,H,I,J,K,L,M,N,O,P,Q,R,S,ak,al,r bp,T,am,X,Y,b err] 126 28 false).bi Z/\v.bi v/\(g Ao (bq.set a.toNat aC) 108 true).bi a6/\w.bi w/\True)/\(aA=false->mW (jq p fx)/\((!(iL x).isSome)=true->aJ)/\((!(iL x).isSome)=false->h (a7+o)/\(aE=true->aJ)/\(aE=false->2=2/\bq.length=bq.length/\aF*56<=140737488355328/\aF<=1000000000000/\h aa/\z61=z61/\c<=a/\a<(↑z61:Int)/\z61=z61/\a.toNat<z61/\h aa/\(eh (cW.mk p ch val bp (some m) z61 fx.length bz err au fx)/\(c<=aa/\aa<(↑au.length:Int))/\(c<=y/\y<(↑fx.length:Int))/\bN fx ab c=c/\(e=e\/e=k)/\nF ae<n)/\(eh (cW.mk p U.ch U.val U.bp (some m) U.bq.length fx.length bz U.err U.bq fx)/\(c<=a7/\a7<(↑U.bq.length:Int))/\(c<=y/\y<(↑fx.length:Int))/\bN fx ab c=c/\(k=e\/k=k)/\nF af<n)/\(f []).bi (f [])/\(d [z,A,B,C,D,E,F,G,H,I,J,K,L,M,N,O,P,Q,R,S,q W ac.ch,b ac.val,r ac.bp,T,s 2 ac.bq.length 5,X,Y,b ac.err] 126 28 false).bi Z/\v.bi v/\(g Ao ac.bq 108 true).bi a6/\w.bi w/\True)));let aK:=(f []).bi (f [])/\(d (z::A::B::C::D::E::F::G::H::I::J::K::L::M::N::O::P::Q::R::S::q W t.ch::b t.val::r t.bp::T::s 2 ag 5::aD) 126 28 false).bi Z/\v.bi v/\(g Ao t.bq 108 true).bi a6/\w.bi w/\True;let aL:=z71=z71;let aM:=(f []).bi (f [])/\(d [z,A,B,C,D,E,F,G,H,I,J,K,L,M,N,O,P,Q,R,S,ak,al,r bp,T,am,X,Y,b err] 126 28 false).bi Z/\v.bi v/\aq.bi a6/\w.bi w/\True;let aN:=(bL ai/\bL ay)/\aV;let aO:=λ(u:cd) (u_1:iZ) ↦(f []).bi (f [])/\(d [z,A,B,C,D,E,F,G,H,I,J,K,L,M,N,O,P,Q,R,S,q W u.ch,b u.val,r u.bp,T,s 2 u.bq.length 5,X,Y,b u.err] 126 28 false).bi Z/\v.bi v/\u_1.bi a6/\w.bi w/\True;let aP:=λ(u:cW) (u_1:Int) (u_2:Nat) (u_3:Int) ↦eh u/\(c<=u_1/\u_1<(↑u_2:Int))/\(c<=y/\y<(↑fx.length:Int))/\bN fx ab c=c/\(u_3=e\/u_3=k)/\nF (fx.set ab u_3)<n;let aQ:=λ(u:Int) (u_1:iZ) ↦(f []).bi (f [])/\(d [z,A,B,C,D,E,F,G,H,I,J,K,L,M,N,O,P,Q,R,S,ak,al,r bp,T,am,X,Y,b u] 126 28 false).bi Z/\v.bi v/\u_1.bi a6/\w.bi w/\True;let aR:=λ(u:Bool) ↦decide (gK (TL ai) (TL (av.1,av.2.1,av.2.2))<c)=u;let aS:=λ(u:Bool) ↦decide (c<=az)=u;let aT:=λ(u:Int) ↦let ax:=nf (κ (u+e));bL ai/\bL (ax.1,ax.2.1,ax.2.2);let aU:=λ(u:Bool) ↦decide (bz<ad+o)=u;(aG=true->aM)/\(aG=false->(bp=true->aM)/\(bp=false->(fx.length=fx.length/\fx.length<=1000000000000)/\(aH=true->aQ (hJ p fx) aq)/\(aH=false->((!i_ p fx)=true->bq.length=bq.length/\c<=a/\a<(↑bq.length:Int)/\bq.length=bq.length/\a.toNat<bq.length/\aQ err (g Ao (bq.set a.toNat ((3:Int),ar)) 108 true))/\((!i_ p fx)=false->h aj/\(j<=aj/\aj<=l)/\aT val/\(aS true->mW (jq p fx)/\(lz x=true->(eh (cW.mk p ch val bp (some m) bq.length fx.length bz err bq fx)/\mW (jq p fx)/\(jq p fx).length=p.bj.length)/\bq.length=bq.length/\h ao/\(j<=ao/\ao<=l)/\aT t.val/\(aR true->ag=a8/\c<=a/\a<(↑a8:Int)/\ag=a8/\a.toNat<a8/\aO t (g Ao (t.bq.set a.toNat aC) 108 true))/\(aR false->mW (jq p fx)/\((!(iL x).isSome)=true->aK)/\((!(iL x).isSome)=false->h (ad+o)/\(aU true->aK)/\(aU false->2=2/\ag=a8/\(a8+2)*56<=140737488355328/\a8+2<=1000000000000/\h ah/\aL/\c<=a/\a<(↑z71:Int)/\aL/\a.toNat<z71/\h ah/\aP (cW.mk p t.ch t.val t.bp (some m) z71 fx.length bz t.err aw fx) ah aw.length e/\aP (cW.mk p V.ch V.val V.bp (some m) V.bq.length fx.length bz V.err V.bq fx) ad V.bq.length k/\aO aI (g Ao aI.bq 108 true)))))/\(lz x=false->aN))/\(aS false->aN)))))) (by kernel_rfl) ?_;simp only[vcs];refine⟨λh=>by rw[wJ hf (.inl h)];exact⟨rfl,rfl⟩,λh0=>⟨λh=>by rw[wJ hf (.inr h)];exact⟨rfl,rfl⟩,λh1=>⟨by omega,λh=>absurd hfe h,λ_=>⟨λh=>?_,λhb=>?_⟩⟩⟩⟩
  ·have hs:¬((⟨ch,val,bp,bq,err⟩:cd).err≠0\/(⟨ch,val,bp,bq,err⟩:cd).bp=true):=by
    rintro(h|h);·exact h0 h
    ·rw[show bp=true from h] at h1;cases h1
   rw[K5 hf hs (by rw[<-hfo];exact h)];refine⟨ha.1,ha.2,by omega,?_,rfl⟩;simp only[Ω];rfl
  ·have hs:¬((⟨ch,val,bp,bq,err⟩:cd).err≠0\/(⟨ch,val,bp,bq,err⟩:cd).bp=true):=by
    rintro(h|h);·exact h0 h
    ·rw[show bp=true from h] at h1;cases h1
   have hbf:fZ p fx=true:=by rw[<-hfo];exact hb
   have hfix:=hf.ok hbf;have eB:jr p fx=nf (g_ p fx):=by unfold jr;rw[if_pos hb]
   have eS:jq p fx=fL (cN p fx):=by unfold jq cN;rw[if_pos hb]
   have eP:oW p fx=fL (gv p fx):=by unfold oW;rw[if_pos hb]
   have hsl:(cN p fx).length=fx.length:=pB;have oS:mW (fL (cN p fx)):=⟨cN p fx,rfl,by rw[ez];omega,λq hq=>by
    obtain⟨i,hi,rfl⟩:=γJ hq;have:=(Ai hfix hf.r (i:=i) (by omega)).2.2;rwa [bV hi] at this⟩;have fB:bL (nf (g_ p fx)):=dc (J8 hb) (by omega);have fI:∀v:Int,0<=v->v<=9223372036854775807->bL (nf (κ v)):=λv h0 h1=>dc (pg (by omega) h1) (by omega);have hcv:∀v:Int,gK (g_ p fx) (κ v)<0↔g_ p fx<((v:Int):Rat):=λv=>qK;simp only[eB,eS,eP,jP,iO,dJ];have hcm:dN (cN p fx)=(nB p fx).bn:=rfl;refine⟨by omega,by omega,⟨fB,fI _ (by omega) (by omega)⟩,λhge=>⟨oS,λhi=>?_,λhi=>?_⟩,λhlt=>?_⟩
   ·have hO:cD p (bH (some m)) ⟨ch,val,bp,bq,err⟩ fx=dv (bH (some m)) ⟨ch,val,bp,bq,err⟩ ⟨dN (cN p fx),bF ((dN (cN p fx)).map (oI p))⟩:=by
     unfold cD;rw[if_pos ⟨ε1.1 λh=>absurd ((hcv (val+1)).2 h) (Int.not_lt.2 hge),hi⟩];rfl
    have hok':eh (cW.iw ⟨p,ch,val,bp,(some m),bq.length,fx.length,bz,err,bq,fx⟩ (cD p (bH (some m)) ⟨ch,val,bp,bq,err⟩ fx)):=hok.IW;rw[hO] at hok';obtain⟨e1,e2,_⟩:=@Af (bH (some m)) ⟨ch,val,bp,bq,err⟩ ⟨dN (cN p fx),bF ((dN (cN p fx)).map (oI p))⟩;generalize dv (bH (some m)) ⟨ch,val,bp,bq,err⟩ ⟨dN (cN p fx),bF ((dN (cN p fx)).map (oI p))⟩=O at*;obtain⟨ch',val',found',prf',aq8⟩:=O;have e1:bq=prf':=Eq.symm e1;have e2:err=aq8:=Eq.symm e2;subst e1;subst e2;have w0:0<=val':=hok'.v0;have w1:val'<=9223372036854775806:=hok'.v1;dsimp only;refine⟨⟨hok,oS,by rw[ez];omega⟩,by omega,by omega,⟨fB,fI _ (by omega) (by omega)⟩,?_⟩;refine⟨λh=>?_,λh=>⟨oS,λhk=>?_,λhk=>⟨by omega,λhm=>?_,λhm=>?_⟩⟩⟩
    ·rw[uA hf hs hbf hO ((hcv _).1 h)];refine⟨ha.1,ha.2,by omega,?_,rfl⟩;simp only[Ω];rfl
    ·rw[od hf hs hbf hO (λh'=>h ((hcv _).2 h')) (.inl (γ8.1 hk |>γU.1))];exact⟨rfl,rfl⟩
    ·rw[od hf hs hbf hO (λh'=>h ((hcv _).2 h')) (.inr hm)];exact⟨rfl,rfl⟩
    ·obtain⟨k,hk'⟩:=γs.1 hk;rw[uz hf hs hbf hO (λh'=>h ((hcv _).2 h')) hk' hm];simp only[hk',γ3];obtain⟨hk1,hk2,hk3⟩:=qL hk';rw[hsl] at hk1;have hk0:bN fx k.toNat 0=0:=qM hfix hf.r (by omega) hk2 hk3;have n1:=kL hk1 hk0 (d:=1) (by omega);have n2:=kL hk1 hk0 (d:= -1) (by omega);have hl2:((bq++[zN,zN]).set a.toNat (je k bq.length)).length=bq.length+2:=by rw[Ω,γh];rfl
     have hl1:(bq++[zN,zN]).length=bq.length+2:=by rw[γh];rfl
     have o1:=eh.ui (x:=⟨p,ch',val',found',(some m),bq.length,fx.length,bz,aq8,bq,fx⟩) hok' (k:=(bq++[zN,zN]).length) (l:=(bq++[zN,zN]).set a.toNat (je k bq.length)) hm (by rw[hl1,hl2]) hl2;have o2:=o1.ug (f:=fx.set k.toNat 1) (hf.set (by omega)) (n:=nF (fx.set k.toNat 1)) (a:=(bq.length:Int)+1);have o3:=(@pA p (bH (some m)) bz (nF (fx.set k.toNat 1)) (fK ⟨ch',val',found',bq,aq8⟩ a k) ((bq.length:Int)+1) (fx.set k.toNat 1) (hf.set (by omega))).1;have o4:bq.length+2<=(cP p (bH (some m)) bz (nF (fx.set k.toNat 1)) (fK ⟨ch',val',found',bq,aq8⟩ a k) ((bq.length:Int)+1) (fx.set k.toNat 1)).bq.length:=by rw[<-hl2];exact o3
     have q1:a<((bq++[zN,zN]).length:Int):=by omega
     have q3:(bq.length:Int)+1<(((bq++[zN,zN]).set a.toNat (je k bq.length)).length:Int):=by rw[hl2];omega
     have q2:a.toNat<(bq++[zN,zN]).length:=by omega
     exact⟨by omega,by omega,by omega,ha.1,q1,q2,by omega,⟨o1,⟨by omega,q3⟩,hk1,hk0,.inl trivial,by omega⟩,⟨o2,⟨by omega,εW.2 (γl (by omega) o4)⟩,hk1,hk0,.inr trivial,by omega⟩,rfl,rfl⟩
   ·have hO:cD p (bH (some m)) ⟨ch,val,bp,bq,err⟩ fx=⟨ch,val,bp,bq,err⟩:=by
     unfold cD;rw[if_neg (λh=>by rw[h.2] at hi;cases hi)]
    refine⟨⟨fB,fI _ (by omega) (by omega)⟩,?_⟩;refine⟨λh=>?_,λh=>⟨oS,λhk=>?_,λhk=>⟨by omega,λhm=>?_,λhm=>?_⟩⟩⟩
    ·rw[uA hf hs hbf hO ((hcv _).1 h)];refine⟨ha.1,ha.2,by omega,?_,rfl⟩;simp only[Ω];rfl
    ·rw[od hf hs hbf hO (λh'=>h ((hcv _).2 h')) (.inl (γ8.1 hk |>γU.1))];exact⟨rfl,rfl⟩
    ·rw[od hf hs hbf hO (λh'=>h ((hcv _).2 h')) (.inr hm)];exact⟨rfl,rfl⟩
    ·obtain⟨k,hk'⟩:=γs.1 hk;rw[uz hf hs hbf hO (λh'=>h ((hcv _).2 h')) hk' hm];simp only[hk',γ3];obtain⟨hk1,hk2,hk3⟩:=qL hk';rw[hsl] at hk1;have hk0:bN fx k.toNat 0=0:=qM hfix hf.r (by omega) hk2 hk3;have n1:=kL hk1 hk0 (d:=1) (by omega);have n2:=kL hk1 hk0 (d:= -1) (by omega);have hl2:((bq++[zN,zN]).set a.toNat (je k bq.length)).length=bq.length+2:=by rw[Ω,γh];rfl
     have hl1:(bq++[zN,zN]).length=bq.length+2:=by rw[γh];rfl
     have o1:=eh.ui hok (k:=(bq++[zN,zN]).length) (l:=(bq++[zN,zN]).set a.toNat (je k bq.length)) hm (by rw[hl1,hl2]) hl2;have o2:=o1.ug (f:=fx.set k.toNat 1) (hf.set (by omega)) (n:=nF (fx.set k.toNat 1)) (a:=(bq.length:Int)+1);have o3:=(@pA p (bH (some m)) bz (nF (fx.set k.toNat 1)) (fK ⟨ch,val,bp,bq,err⟩ a k) ((bq.length:Int)+1) (fx.set k.toNat 1) (hf.set (by omega))).1;have o4:bq.length+2<=(cP p (bH (some m)) bz (nF (fx.set k.toNat 1)) (fK ⟨ch,val,bp,bq,err⟩ a k) ((bq.length:Int)+1) (fx.set k.toNat 1)).bq.length:=by rw[<-hl2];exact o3
     have q1:a<((bq++[zN,zN]).length:Int):=by omega
     have q3:(bq.length:Int)+1<(((bq++[zN,zN]).set a.toNat (je k bq.length)).length:Int):=by rw[hl2];omega
     have q2:a.toNat<(bq++[zN,zN]).length:=by omega
     exact⟨by omega,by omega,by omega,ha.1,q1,q2,by omega,⟨o1,⟨by omega,q3⟩,hk1,hk0,.inl trivial,by omega⟩,⟨o2,⟨by omega,εW.2 (γl (by omega) o4)⟩,hk1,hk0,.inr trivial,by omega⟩,rfl,rfl⟩
   ·have hO:cD p (bH (some m)) ⟨ch,val,bp,bq,err⟩ fx=⟨ch,val,bp,bq,err⟩:=by
     unfold cD;rw[if_neg (λh=>ε1.2 h.1 ((hcv (val+1)).1 (Int.not_le.1 hlt)))]
    refine⟨⟨fB,fI _ (by omega) (by omega)⟩,?_⟩;refine⟨λh=>?_,λh=>⟨oS,λhk=>?_,λhk=>⟨by omega,λhm=>?_,λhm=>?_⟩⟩⟩
    ·rw[uA hf hs hbf hO ((hcv _).1 h)];refine⟨ha.1,ha.2,by omega,?_,rfl⟩;simp only[Ω];rfl
    ·rw[od hf hs hbf hO (λh'=>h ((hcv _).2 h')) (.inl (γ8.1 hk |>γU.1))];exact⟨rfl,rfl⟩
    ·rw[od hf hs hbf hO (λh'=>h ((hcv _).2 h')) (.inr hm)];exact⟨rfl,rfl⟩
    ·obtain⟨k,hk'⟩:=γs.1 hk;rw[uz hf hs hbf hO (λh'=>h ((hcv _).2 h')) hk' hm];simp only[hk',γ3];obtain⟨hk1,hk2,hk3⟩:=qL hk';rw[hsl] at hk1;have hk0:bN fx k.toNat 0=0:=qM hfix hf.r (by omega) hk2 hk3;have n1:=kL hk1 hk0 (d:=1) (by omega);have n2:=kL hk1 hk0 (d:= -1) (by omega);have hl2:((bq++[zN,zN]).set a.toNat (je k bq.length)).length=bq.length+2:=by rw[Ω,γh];rfl
     have hl1:(bq++[zN,zN]).length=bq.length+2:=by rw[γh];rfl
     have o1:=eh.ui hok (k:=(bq++[zN,zN]).length) (l:=(bq++[zN,zN]).set a.toNat (je k bq.length)) hm (by rw[hl1,hl2]) hl2;have o2:=o1.ug (f:=fx.set k.toNat 1) (hf.set (by omega)) (n:=nF (fx.set k.toNat 1)) (a:=(bq.length:Int)+1);have o3:=(@pA p (bH (some m)) bz (nF (fx.set k.toNat 1)) (fK ⟨ch,val,bp,bq,err⟩ a k) ((bq.length:Int)+1) (fx.set k.toNat 1) (hf.set (by omega))).1;have o4:bq.length+2<=(cP p (bH (some m)) bz (nF (fx.set k.toNat 1)) (fK ⟨ch,val,bp,bq,err⟩ a k) ((bq.length:Int)+1) (fx.set k.toNat 1)).bq.length:=by rw[<-hl2];exact o3
     have q1:a<((bq++[zN,zN]).length:Int):=by omega
     have q3:(bq.length:Int)+1<(((bq++[zN,zN]).set a.toNat (je k bq.length)).length:Int):=by rw[hl2];omega
     have q2:a.toNat<(bq++[zN,zN]).length:=by omega
     exact⟨by omega,by omega,by omega,ha.1,q1,q2,by omega,⟨o1,⟨by omega,q3⟩,hk1,hk0,.inl trivial,by omega⟩,⟨o2,⟨by omega,εW.2 (γl (by omega) o4)⟩,hk1,hk0,.inr trivial,by omega⟩,rfl,rfl⟩
theorem C9:∀n,dB Tryz.prog (s8 n)
 |0=>λa b=>absurd b.2.2 (by omega)
 |n+1=>Sv (Tc (C9 n))
end Go.Vi
