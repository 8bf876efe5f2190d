/-
  Contracts: whether a proof is a tree.
  Conditions: none.
-/
import Derived.Test.YtbnhiekmnpikhaaGreatDF06
import Derived.Test.YtbnhiekmnpikhaaGreatDF07
import Derived.Test.YtbnhiekmnpikhaaGreatDF09
import Derived.Test.YtbnhiekmnpikhaaGreatDF11
import Derived.Test.YtbnhiekmnpikhaaGreatDF12
import Derived.Test.YtbnhiekmnpikhaaGreatDF08
import Derived.Test.YtbnhiekmnpikhaaGreatDF10
set_option maxRecDepth 100000
set_option maxHeartbeats 4000000
set_option linter.all false
open Bool renaming eq_false_iff->δI,false_eq_true->ψ,and_eq_true->θ
open Classical renaming not_not->γf
open Go.Vi.SV renaming bl->δh,row->Ω,sb->γA,si->γd,il->γB,ow->γZ,ptr->γQ,agg->γR
open Int renaming toNat_natCast->γn,toNat->ζu,ofNat_lt->εS
open IntCast renaming intCast->κ
open List renaming range->ω,ext_getElem->γ9,replicate->δ,append_nil->γ1,count_pos_iff->δU,all_eq_true->τ,mem_range->γC,mem_map->Θ,length_take->γy,length_set->Ψ,take_length->φ,take->Δ,length->γc,length_replicate->γE,getElem_of_mem->γH,length_append->γh
open Nat renaming le_refl->π,lt_of_lt_of_le->γj
open Option renaming isSome_eq_false_iff->γ8,isNone_iff_eq_none->γP,isSome_iff_exists->γp,getD_some->γ3
open Rat renaming add_zero->ζQ,not_lt->εY
namespace Go.Vi
open Go.Proofs.YtbnhiekmnpikhaaGreat.Ir
open Go.Proofs
def jB (n:dj):List Int:=if n.1=2 then[n.2.2.1,n.2.2.2.1] else[]
def tn (n:dj):Bool:=if n.1=1 then wf1 n else if n.1=2 then wf2 n else if n.1=3 then uR n else false
def ic (t:List dj) (i:Nat):List Int:=(t.take i).flatMap jB
def ln (n:Nat) (c:List Int):List Int:=(df n).map λk=>(c.count k:Int)
def uS (n:Nat) (i:Int) (c:List Int):List Int->Bool
 |[]=>true
 |x::r=>decide (i<x/\x<n)&&decide (x∉c)&&uS n i (c++[x]) r
def kS (t:List dj) (i:Nat):Bool:=tn (bj t i bF.dflt)&&uS t.length i (ic t i) (jB (bj t i bF.dflt))
def dV (t:List dj):Bool:=decide (1<=t.length/\t.length<=65536)&&((ω t.length).all (kS t)&&(ω (t.length - 1)).all λk=>decide (((k:Int)+1)∈ic t t.length))
theorem yY {n:Nat} {c:List Int}:(ln n c).length=n:=by simp[ln,iz]
theorem yZ {n j:Nat} {c:List Int} (h:j<n):bj (ln n c) j 0=(c.count (j:Int):Nat):=by
 grind[ln,cT,df]
theorem UZ {n:Nat} {c:List Int} {x:Int} (l:0<=x) (g:x<n):(ln n c).set x.toNat (bj (ln n c) x.toNat 0+1)=ln n (c++[x]):=by
 refine γ9 (by grind[yY]) λj h i=>?_;have a:j<n:=by grind[yY]
 have e:x.toNat<n:=by omega
 have b:=@yZ n j (c++[x]) a;rw[cT (by omega)] at b;rw[b,List.getElem_set];have k:=@yZ n x.toNat c e;by_cases f:x.toNat=j;·grind
 ·rw[if_neg f];have d:=@yZ n j c a;rw[cT (by simp_all)] at d;grind
theorem afE {n:Nat}:ln n []=δ n 0:=by
 refine γ9 (by grind[yY]) λj b a=>?_;simp[ln]
theorem U0 {t:List dj} {i:Int} (b:0<=i) (a:i<t.length):ic t (i+1).toNat=ic t i.toNat++jB (bj t i.toNat bF.dflt):=by
 grind[ic,jq]
theorem afF {t:List dj} {i:Nat} (h:i<t.length) (a:kS t i=false):dV t=false:=by
 grind[dV]
theorem afG {t:List dj} {k:Nat} (h:k<t.length - 1) (a:((k:Int)+1)∉ic t t.length):dV t=false:=by
 unfold dV;grind
def Lr:bM:=⟨60,List dj,.one (dG bF),λt=>∀n∈(show List dj from t),∀x∈n.2.2.2.2,iZ x,λt=> .sb (dV t)⟩
def afH (t:List dj):Nat->cG
 |5=> .inv Int (λi=>⟨[(0,.row bF t),(3,.ow 0 t.length 1),(22,.row bF t),(23,.si .i64 t.length),(24,.si .i64 i)],[.row (.i .i64) (ln t.length (ic t i.toNat)) 3 true]⟩) (λs=>iS s 24)
  (λi=>0<=i/\i<=t.length/\∀j:Nat,j<i->kS t j=true) (λi=>(t.length - i).toNat) λ_=>λ
   |11=> .qy 3
   |_=> .look
 |19=> .inv Int (λi=>⟨[(66,.os 0 1 (t.length - 1) t.length 1),(67,.si .i64 (t.length - 1:Nat)),(68,.si .i64 i)],[.row (.i .i64) (ln t.length (ic t t.length)) 3 true]⟩) (λs=>iS s 68)
  (λi=>0<=i/\i<=(t.length - 1:Nat)/\∀j:Nat,j<i->((j:Int)+1)∈ic t t.length) (λi=>((t.length - 1:Nat) - i).toNat) λ_ _=> .look
 |_=> .look
theorem h480:Holds Tryz.prog Lr:=by
 refine cH (L:=[Fb,Ld,Le,Lh,Ll,Lm,Ln,Lq,r505]) Lr afH (by simpa using⟨h485,h493,h499,h503,h507,h491,h497,h501,h505⟩) ?_;intro(t:List dj) ht;refine bQ (let a:=(0:Int);let b:=δh false;let c:=(1:Int);let d:=Ω;let e:=γA;let f:=cu .i64;let g:=γd .i64;let h:=bq.row;let k:=(2:Int);let l:=γB .i64 0;let p:=(↑t.length:Int);let a9:=decide (p<c);let aa:=decide ((65536:Int)<p);let s:=γZ 0 t.length 1;let o:=(↑t.length:Int);let v:=g o;let C:=bp.i .i64;let E:=decide (p<=a);let R:=t.length - 1;let P:=SV.os 0 1 R t.length 1;let z:=(↑R:Int);let Q:=g z;let M:=ln t.length (ic t t.length);let S:=h C M 3 true;(a9=true->(b).same (e (dV t)))/\(a9=false->(aa=true->(b).same (e (dV t)))/\(aa=false->a<=p/\p<=p/\p*(8:Int)<=(140737488355328:Int)/\p<=(1000000000000:Int)/\((((d bF t).same (d bF t)/\(γZ 0 p.toNat 1).same s/\(d bF t).same (d bF t)/\(g p).same v/\(l).same (g 0)/\True)/\(h C (δ p.toNat a) 3 true).same (h C (ln t.length (ic t 0)) 3 true)/\True)/\a<=a/\a<=o/\∀(j:Nat),(↑j:Int)<a->kS t j=true)/\∀(x:Int),let F:=decide (a<=x);let G:=ln t.length (ic t x.toNat);let n:=G.length;let T:=bj G 0 a;let ab:=decide (a<T);let q:=G.set 0 (T+c);let U:=bj q 0 a;let ac:=decide (a<U);let r:=q.set 0 (U+c);let ad:=bj r 0 a;let ae:=decide (a<ad);let m:=x+c;let y:=g m;let N:=h C (ln t.length (ic t m.toNat)) 3 true;let V:=h C G 3 true;let w:=bj t x.toNat bF.dflt;let W:=[w.snd.snd.fst,w.snd.snd.snd.fst];let D:=bj W 2 a;let A:=bj W 0 a;let X:=bj G A.toNat a;let H:=G.set A.toNat (X+c);let B:=bj W 1 a;let Y:=bj H B.toNat a;let O:=H.set B.toNat (Y+c);let af:=decide (w.fst=c);let I:=(w.fst,w.snd.fst,w.snd.snd.fst,w.snd.snd.snd.fst,w.snd.snd.snd.snd);let ag:=decide (w.fst=k);let ah:=decide (a<X);let ai:=decide (a<Y);let aj:=bj O D.toNat a;let ak:=decide (a<aj);let al:=decide (w.fst=(3:Int));let Z:=let am:=λ(u:List Int) ↦false=false->f m/\(((d bF t).same (d bF t)/\s.same s/\(d bF t).same (d bF t)/\v.same v/\y.same y/\True)/\(h C u 3 true).same N/\True)/\(a<=m/\m<=o/\∀(j:Nat),(↑j:Int)<m->kS t j=true)/\(o - m).toNat<(o - x).toNat;True/\(false=true->a<=a/\a<a/\0<0/\(F=true->(b).same (e (dV t)))/\(F=false->(E=true->(b).same (e (dV t)))/\(E=false->t.length=n/\a<=a/\a<(↑n:Int)/\t.length=n/\0<n/\(ab=true->(b).same (e (dV t)))/\(ab=false->t.length=n/\a<=a/\a<(↑n:Int)/\t.length=n/\0<n/\f (T+c)/\t.length=n/\a<=a/\a<(↑n:Int)/\t.length=n/\0<n/\(false=true->a<=c/\c<a/\1<0/\(F=true->(b).same (e (dV t)))/\(F=false->(E=true->(b).same (e (dV t)))/\(E=false->t.length=q.length/\a<=a/\a<(↑q.length:Int)/\t.length=q.length/\0<q.length/\(ac=true->(b).same (e (dV t)))/\(ac=false->t.length=q.length/\a<=a/\a<(↑q.length:Int)/\t.length=q.length/\0<q.length/\f (U+c)/\t.length=q.length/\a<=a/\a<(↑q.length:Int)/\t.length=q.length/\0<q.length/\(false=true->a<=k/\k<a/\2<0/\(F=true->(b).same (e (dV t)))/\(F=false->(E=true->(b).same (e (dV t)))/\(E=false->t.length=r.length/\a<=a/\a<(↑r.length:Int)/\t.length=r.length/\0<r.length/\(ae=true->(b).same (e (dV t)))/\(ae=false->t.length=r.length/\a<=a/\a<(↑r.length:Int)/\t.length=r.length/\0<r.length/\f (ad+c)/\t.length=r.length/\a<=a/\a<(↑r.length:Int)/\t.length=r.length/\0<r.length/\False))))/\am r))))/\am q))))/\(false=false->f m/\(((d bF t).same (d bF t)/\s.same s/\(d bF t).same (d bF t)/\v.same v/\y.same y/\True)/\V.same N/\True)/\(a<=m/\m<=o/\∀(j:Nat),(↑j:Int)<m->kS t j=true)/\(o - m).toNat<(o - x).toNat);let a0:=D<(↑O.length:Int);let a1:=D.toNat<O.length;let J:=t.length=O.length;let a2:=B<(↑H.length:Int);let a3:=B.toNat<H.length;let K:=t.length=H.length;let a4:=A<(↑n:Int);let a5:=A.toNat<n;let a6:=a<=D;let a7:=a<=A;let a8:=a<=B;(a<=x/\x<=o/\∀(j:Nat),(↑j:Int)<x->kS t j=true)->(decide (x<o)=true->a<=x/\x<p/\x.toNat<t.length/\True/\(af=true->(∀(x:bL),x∈w.snd.snd.snd.snd->iZ x)/\((!wf1 I)=true->(b).same (e (dV t)))/\((!wf1 I)=false->Z))/\(af=false->(ag=true->True/\((!wf2 I)=true->(b).same (e (dV t)))/\((!wf2 I)=false->True/\(true=true->a<=a/\a<k/\0<2/\(decide (A<=x)=true->(b).same (e (dV t)))/\(decide (A<=x)=false->(decide (p<=A)=true->(b).same (e (dV t)))/\(decide (p<=A)=false->t.length=n/\a7/\a4/\t.length=n/\a5/\(ah=true->(b).same (e (dV t)))/\(ah=false->t.length=n/\a7/\a4/\t.length=n/\a5/\f (X+c)/\t.length=n/\a7/\a4/\t.length=n/\a5/\(true=true->a<=c/\c<k/\1<2/\(decide (B<=x)=true->(b).same (e (dV t)))/\(decide (B<=x)=false->(decide (p<=B)=true->(b).same (e (dV t)))/\(decide (p<=B)=false->K/\a8/\a2/\K/\a3/\(ai=true->(b).same (e (dV t)))/\(ai=false->K/\a8/\a2/\K/\a3/\f (Y+c)/\K/\a8/\a2/\K/\a3/\(false=true->a<=k/\k<k/\2<2/\(decide (D<=x)=true->(b).same (e (dV t)))/\(decide (D<=x)=false->(decide (p<=D)=true->(b).same (e (dV t)))/\(decide (p<=D)=false->J/\a6/\a0/\J/\a1/\(ak=true->(b).same (e (dV t)))/\(ak=false->J/\a6/\a0/\J/\a1/\f (aj+c)/\J/\a6/\a0/\J/\a1/\False))))/\(false=false->f m/\(((d bF t).same (d bF t)/\s.same s/\(d bF t).same (d bF t)/\v.same v/\y.same y/\True)/\(h C O 3 true).same N/\True)/\(a<=m/\m<=o/\∀(j:Nat),(↑j:Int)<m->kS t j=true)/\(o - m).toNat<(o - x).toNat)))))/\(true=false->f m/\(((d bF t).same (d bF t)/\s.same s/\(d bF t).same (d bF t)/\v.same v/\y.same y/\True)/\(h C H 3 true).same N/\True)/\(a<=m/\m<=o/\∀(j:Nat),(↑j:Int)<m->kS t j=true)/\(o - m).toNat<(o - x).toNat)))))/\(true=false->f m/\(((d bF t).same (d bF t)/\s.same s/\(d bF t).same (d bF t)/\v.same v/\y.same y/\True)/\V.same N/\True)/\(a<=m/\m<=o/\∀(j:Nat),(↑j:Int)<m->kS t j=true)/\(o - m).toNat<(o - x).toNat)))/\(ag=false->(al=true->True/\((!uR I)=true->(b).same (e (dV t)))/\((!uR I)=false->Z))/\(al=false->True/\(true=true->(b).same (e (dV t)))/\(true=false->Z)))))/\(decide (x<o)=false->t.length=n/\1<=t.length/\t.length<=t.length/\(((P.same P/\Q.same Q/\(l).same (g 0)/\True)/\V.same S/\True)/\a<=a/\a<=z/\∀(j:Nat),(↑j:Int)<a->(↑j:Int)+c∈ic t t.length)/\∀(x:Int),let an:=decide (bj M (1+x.toNat) 0=a);let L:=x+c;let ao:=g L;(a<=x/\x<=z/\∀(j:Nat),(↑j:Int)<x->(↑j:Int)+c∈ic t t.length)->(decide (x<z)=true->t.length=M.length/\a<=x/\x<z/\1+R<=t.length/\t.length=M.length/\1+x.toNat<M.length/\(an=true->(b).same (e (dV t)))/\(an=false->f L/\((P.same P/\Q.same Q/\ao.same ao/\True)/\S.same S/\True)/\(a<=L/\L<=z/\∀(j:Nat),(↑j:Int)<L->(↑j:Int)+c∈ic t t.length)/\(z - L).toNat<(z - x).toNat))/\(decide (x<z)=false->(δh true).same (e (dV t))))))) (by kernel_rfl) ?_;simp only[vcs];refine⟨λh=>?_,λh1=>⟨λh=>?_,λh2=>?_⟩⟩
 ·have:¬(1<=t.length/\t.length<=65536):=by omega
  simp[dV,this]
 ·have:¬(1<=t.length/\t.length<=65536):=by omega
  simp[dV,this]
 have hrow:∀{x y:List Int},x=y->(bq.row (.i .i64) x 3 true).same (bq.row (.i .i64) y 3 true):=by rintro _ _ rfl;rfl
 have how:∀{x y:Nat},x=y->(γZ 0 x 1).same (γZ 0 y 1):=by rintro _ _ rfl;rfl
 refine⟨by omega,by omega,by omega,by omega,⟨⟨how (by omega),hrow ?_⟩,by omega,by omega,λj hj=>by omega⟩,?_⟩;·rw[show ic t 0=[] from rfl,afE];simp
 rintro i ⟨i0,i1,hi⟩;refine⟨λhlt=>?_,λhge=>?_⟩
 ·have hil:i.toNat<t.length:=by omega
  have hm:=ht _ (dn (d:=bF.dflt) hil);have hs:=U0 i0 hlt;have hg:kS t i.toNat=(tn (bj t i.toNat bF.dflt)&&uS t.length i (ic t i.toNat) (jB (bj t i.toNat bF.dflt))):=by
   unfold kS;rw[show((i.toNat:Nat):Int)=i by omega]
  generalize bj t i.toNat bF.dflt=N at*;obtain⟨k,o,a,b,y⟩:=N;generalize hc:ic t i.toNat=c at*;have no:kS t i.toNat=false->false=dV t:=λh=>(afF hil h).symm;have fin:kS t i.toNat=true->(∀j:Nat,(j:Int)<i+1->kS t j=true):=λh j hj=>by
   by_cases h2:(j:Int)<i;·exact hi j h2
   ·rw[show j=i.toNat by omega];exact h
  have hl:=@yY t.length c;have w1:k=1->tn (k,o,a,b,y)=wf1 (k,o,a,b,y):=λh=>if_pos h;have w2:¬k=1->k=2->tn (k,o,a,b,y)=wf2 (k,o,a,b,y):=λh h'=>(if_neg h).trans (if_pos h');have w3:¬k=1->¬k=2->k=3->tn (k,o,a,b,y)=uR (k,o,a,b,y):=λh h' h''=>(if_neg h).trans ((if_neg h').trans (if_pos h''));have w4:¬k=1->¬k=2->¬k=3->tn (k,o,a,b,y)=false:=λh h' h''=>(if_neg h).trans ((if_neg h').trans (if_neg h''));have Ff:¬k=2->jB (k,o,a,b,y)=[]:=λh=>if_neg h;have U1:k=2->jB (k,o,a,b,y)=[a,b]:=λh=>if_pos h;have ea:bj [a,b] 0 0=a:=rfl;have eb:bj [a,b] 1 0=b:=rfl;dsimp only;simp only[ea,eb];refine⟨i0,hlt,hil,λh1=>⟨hm,λhw=>no ?_,λhw=>⟨λh=>(by cases h),λ_=>⟨⟨by omega,by omega⟩,hrow ?_,⟨by omega,by omega,fin ?_⟩,by omega⟩⟩⟩,λh1=>⟨λh2=>?_,λh2=>⟨λh3=>⟨λhw=>no ?_,λhw=>⟨λh=>(by cases h),λ_=>⟨⟨by omega,by omega⟩,hrow ?_,⟨by omega,by omega,fin ?_⟩,by omega⟩⟩⟩,λh3=>⟨λ_=>no ?_,λh=>(by cases h)⟩⟩⟩⟩;·rw[hg,w1 h1,hw];rfl
  ·rw[hs,Ff (by omega),γ1]
  ·rw[hg,w1 h1,Ff (by omega),hw];rfl
  ·have hg2:kS t i.toNat=(wf2 (k,o,a,b,y)&&(decide (i<a/\a<t.length)&&decide (a∉c)&&(decide (i<b/\b<t.length)&&decide (b∉c++[a])&&true))):=by rw[hg,w2 h1 h2,U1 h2];rfl
   rw[U1 h2] at hs;refine⟨λhw=>no ?_,λhw=>⟨λ_=>⟨by omega,by omega,by omega,λha=>no ?_,λha=>⟨λhb=>no ?_,λhb=>?_⟩⟩,λh=>(by cases h)⟩⟩;·rw[hg2,hw];rfl
   ·rw[hg2,decide_eq_false (p:=i<a/\a<t.length) (by omega)];simp
   ·rw[hg2,decide_eq_false (p:=i<a/\a<t.length) (by omega)];simp
   have hat:a.toNat<t.length:=by omega
   have ca:=@yZ t.length a.toNat c hat;rw[show((a.toNat:Nat):Int)=a by omega] at ca;have pa:=@UZ t.length c a (by omega) (by omega);have la:0<=a/\a<(ln t.length c).length:=by rw[hl];omega
   have Ls:a.toNat<(ln t.length c).length:=by rw[hl];exact hat
   refine⟨hl.symm,la.1,la.2,hl.symm,Ls,λhc1=>no ?_,λhc1=>⟨hl.symm,la.1,la.2,hl.symm,Ls,⟨by omega,by omega⟩,hl.symm,la.1,la.2,hl.symm,Ls,λ_=>?_,λh=>(by cases h)⟩⟩
   ·have:a∈c:=δU.1 (by omega);rw[hg2,decide_eq_false (p:=a∉c) (by simpa using this)];simp
   have hac:a∉c:=λh=>by have:=δU.2 h;omega
   simp only[pa];have hl2:=@yY t.length (c++[a]);refine⟨by omega,by omega,by omega,λhb1=>no ?_,λhb1=>⟨λhb2=>no ?_,λhb2=>?_⟩⟩;·rw[hg2,decide_eq_false (p:=i<b/\b<t.length) (by omega)];simp
   ·rw[hg2,decide_eq_false (p:=i<b/\b<t.length) (by omega)];simp
   have hbt:b.toNat<t.length:=by omega
   have cb:=@yZ t.length b.toNat (c++[a]) hbt;rw[show((b.toNat:Nat):Int)=b by omega] at cb;have pb:=@UZ t.length (c++[a]) b (by omega) (by omega);have lb:0<=b/\b<(ln t.length (c++[a])).length:=by rw[hl2];omega
   have Lt:b.toNat<(ln t.length (c++[a])).length:=by rw[hl2];exact hbt
   refine⟨hl2.symm,lb.1,lb.2,hl2.symm,Lt,λhc2=>no ?_,λhc2=>⟨hl2.symm,lb.1,lb.2,hl2.symm,Lt,⟨by omega,by omega⟩,hl2.symm,lb.1,lb.2,hl2.symm,Lt,λh=>(by cases h),λ_=>⟨⟨by omega,by omega⟩,hrow ?_,⟨by omega,by omega,fin ?_⟩,by omega⟩⟩⟩
   ·have:b∈c++[a]:=δU.1 (by omega);rw[hg2,decide_eq_false (p:=b∉c++[a]) λh=>h this];simp
   ·rw[pb,hs,List.append_assoc];rfl
   ·have hbc:b∉c++[a]:=λh=>by have:=δU.2 h;omega
    rw[hg2,hw,decide_eq_true (p:=i<a/\a<t.length) (by omega),decide_eq_true (p:=i<b/\b<t.length) (by omega),decide_eq_true hac,decide_eq_true hbc];rfl
  ·rw[hg,w3 h1 h2 h3,hw];rfl
  ·rw[hs,Ff h2,γ1]
  ·rw[hg,w3 h1 h2 h3,Ff h2,hw];rfl
  ·rw[hg,w4 h1 h2 h3];rfl
 ·rw[show i.toNat=t.length by omega];have hl:=@yY t.length (ic t t.length);refine⟨hl.symm,by omega,by omega,⟨hrow rfl,by omega,by omega,λj hj=>by omega⟩,?_⟩;rintro x ⟨x0,x1,hx⟩;refine⟨λhlt=>?_,λDC=>?_⟩
  ·have cx:=@yZ t.length (1+x.toNat) (ic t t.length) (by omega);rw[show(((1+x.toNat:Nat)):Int)=(x.toNat:Int)+1 by omega] at cx;refine⟨hl.symm,x0,hlt,by omega,hl.symm,by rw[hl];omega,λh=>?_,λh=>⟨⟨by omega,by omega⟩,⟨by omega,by omega,λj hj=>?_⟩,by omega⟩⟩;·exact(afG (k:=x.toNat) (by omega) λhm=>by have:=δU.2 hm;omega).symm
   ·by_cases hj2:(j:Int)<x;·exact hx j hj2
    ·rw[show j=x.toNat by omega];exact δU.1 (by omega)
  ·symm;unfold dV;rw[decide_eq_true (by omega),τ.2 λk hk=>hi k (by have:=γC.1 hk;omega),τ.2 λk hk=>decide_eq_true (hx k (by have:=γC.1 hk;omega))];rfl
theorem rV {W:Int} (a: -9223372036854775808<=W) (b:W<=9223372036854775807):Sz 2 (W:Rat):=by
 unfold Sz;simp;omega
def jk (p:bn) (y:List Rat) (r:Nat) (i:Int):Rat:=((oI p i).value:Rat) - bO r λk=>bj y k 0*((dY p k (oI p i):Int):Rat)
def kT (p:bn) (f:List Int) (y:List Rat) (r:Nat):Rat:=((gC p f:Int):Rat)+bO r λk=>bj y k 0*((dm p k - cZ p ((bE f 1).map (oI p)) k:Int):Rat)
def mV (p:bn) (f:List Int) (r:Int) (k:Nat):Int:=dm p r - cZ p ((bE (f.take k) 1).map (oI p)) r
theorem afI {a:Type} {n j:Nat} (g:Int->a) (d:a) (h:j<n):bj ((df n).map g) j d=g j:=by
 grind[cT,df]
theorem Lu {c:Type} {a b:List c} (d:c) (e:a.length=b.length) (h:∀j,j<a.length->bj a j d=bj b j d):a=b:=by
 refine γ9 e λj f g=>?_;grind[cT]
theorem afJ {p:bn} {f:List Int} {y:List Rat}:kT p f y 0=((gC p f:Int):Rat):=by
 grind[kT,bO]
theorem U2 {p:bn} {f:List Int} {y:List Rat} {r:Nat}:kT p f y (r+1)=kT p f y r+bj y r 0*((dm p r - cZ p ((bE f 1).map (oI p)) r:Int):Rat):=by
 grind[kT,bO]
theorem Lx {p:bn} {y:List Rat} {r:Nat} {i:Int}:jk p y (r+1) i=jk p y r i - bj y r 0*((dY p r (oI p i):Int):Rat):=by
 grind[jk,bO]
theorem U3 {p:bn} {r:Int}:(iC p r p.offers.length).length=p.offers.length:=by grind[iC]
theorem afK {p:bn} {r i:Int} (h:0<=i/\i<p.offers.length):bj (iC p r p.offers.length) i.toNat 0=dY p r (oI p i):=by
 grind[iC,cT,oI]
theorem afL {p:bn} {f:List Int} {r:Int}:mV p f r 0=dm p r:=by
 simp_all[mV,bE,df,cZ]
theorem afM {p:bn} {f:List Int} {r k:Int} (a:0<=k) (h:k<f.length):mV p f r (k+1).toNat=mV p f r k.toNat - if bj f k.toNat 0=1 then dY p r (oI p k) else 0:=by
 grind[mV,Bn,cZ]
theorem U4 {p:bn} {f:List Int} {r:Int}:mV p f r f.length=dm p r - cZ p ((bE f 1).map (oI p)) r:=by
 grind[mV]
theorem U5 {p:bn} {f:List Int} {r:Int} {k:Nat} (a:bz p=0) (j:f.length=p.offers.length): -640<=mV p f r k/\mV p f r k<=4:=by
 have g:=@Bf p a r;have b:=@sO p r ((bE (f.take k) 1).map (oI p)) λx d=>by
  obtain⟨i,e,rfl⟩:=Θ.1 d;have:=(kP.1 e).1;rw[γy] at this;exact(kr a (i:=i) (by omega)).2.2.1
 have c:=@uO (f.take k) 1;rw[List.length_map] at b;rw[γy] at c;have h:=(dQ a).2.1;grind[mV]
section
variable {p:bn} {f:List Int}
theorem afN (h:eZ p f) {i:Int} (c:0<=i/\i<f.length) (d:bj f i.toNat 0=0):jk p (iD p f) (mF p) i<=0:=by
 have a:i∈bE f 0:=kP.2 ⟨c,d⟩;have b:(bE f 0).idxOf i<nF f:=List.idxOf_lt_length_of_mem a;have g:=aeS h b;have e:bj (bE f 0) ((bE f 0).idxOf i) 0=i:=by grind[cT]
 grind[Bj,dK,yB,jk]
theorem afO (h:eZ p f):kT p f (iD p f) (mF p)=jg p f:=by
 grind[kT,jg,Ur,dK,yC]
end
def oM (p:bn) (f:List Int) (y:List Rat) (r k:Nat) (i:Int):Rat:=if bj f i.toNat 0=0 then jk p y (if i<(k:Int) then r+1 else r) i else(((oI p i).value:Int):Rat)
def ig (p:bn) (f:List Int) (y:List Rat) (r k:Nat):List bL:=(df p.offers.length).map λ(i:Int)=>bu (oM p f y r k i)
def jl (p:bn) (f:List Int) (y:List Rat) (i:Nat):Rat:=kT p f y (mF p)+bO i λk=>if bj f k 0=0/\0<jk p y (mF p) k then jk p y (mF p) k else 0
def rW (n:Nat) (K:Nat->Nat):Nat:=match n with
 |0=>0
 |n+1=>rW n K+K n
def y5 (p:bn) (y:List Rat):Prop:=∃K:Nat->Nat,(∀k,k<mF p->Sz (K k) (bj y k 0))/\rW (mF p) K<=9000000
def wK (p:bn) (f:List Int) (x:List bL):Prop:=(bz p=0/\f.length=p.offers.length/\jN f=true)/\∃y,x=fL y/\y.length=mF p/\y5 p y
def posB (x:List bL):Bool:=x.all λe=>!e.1
theorem y7 {p:bn} {f:List Int} {y:List Rat} {r k:Nat}:(ig p f y r k).length=p.offers.length:=by grind[ig,iz]
theorem y8 {p:bn} {f:List Int} {y:List Rat} {r k j:Nat} (h:j<p.offers.length) {d:bL}:bj (ig p f y r k) j d=bu (oM p f y r k j):=afI _ _ h
theorem Ly {p:bn} {f:List Int} {y:List Rat} {r k a b:Nat} (h:∀j:Nat,j<p.offers.length->oM p f y r k j=oM p f y a b j):ig p f y r k=ig p f y a b:=by
 refine Lu (false,([],[])) (by grind[y7]) λj c=>?_;grind[y7,y8]
theorem afP {p:bn} {f:List Int} {y:List Rat} {i:Int} (a:0<=i):oM p f y 0 0 i=(((oI p i).value:Int):Rat):=by
 unfold oM;rw[if_neg (show ¬i<((0:Nat):Int) by omega)];grind[jk,bO]
theorem afQ {p:bn} {f:List Int} {y:List Rat} {r:Nat}:ig p f y r p.offers.length=ig p f y (r+1) 0:=Ly λj a=>by
 simp_all[oM,if_neg]
theorem LA {p:bn} {f:List Int} {y:List Rat} {r:Nat} {k:Int} (c:0<=k) (h:bj f k.toNat 0≠0\/dY p r (oI p k)=0\/bj y r 0=0):ig p f y r k.toNat=ig p f y r (k+1).toNat:=Ly λj a=>by
 unfold oM;by_cases a:(j:Int)=k
 ·rw[if_neg (show ¬(j:Int)<((k.toNat:Nat):Int) by omega),if_pos (show(j:Int)<(((k+1).toNat:Nat):Int) by omega),a];split
  ·rename_i b;rw[Lx];rcases h with h|h|h;·omega
   ·rw[h];grind
   ·rw[h];grind
  ·rfl
 grind
theorem afR {p:bn} {f:List Int} {y:List Rat} {r:Nat} (h:bj y r 0=0):ig p f y r 0=ig p f y (r+1) 0:=Ly λj a=>by
 unfold oM;rw[if_neg (show ¬(j:Int)<((0:Nat):Int) by omega),if_neg (show ¬(j:Int)<((0:Nat):Int) by omega),Lx,h];split<;>grind
theorem afS {p:bn} {f:List Int} {y:List Rat} {r:Nat} {k:Int} (c:0<=k) (h:k<p.offers.length) (b:bj f k.toNat 0=0):(ig p f y r k.toNat).set k.toNat (bu (jk p y (r+1) k))=ig p f y r (k+1).toNat:=by
 refine Lu (false,([],[])) (by grind[y7]) λj a=>?_;rw[Ψ,y7] at a;rw[iU (by grind[y7]),y8 a,y8 a];unfold oM;grind
theorem afT {p:bn} {f:List Int} {y:List Rat} {r:Nat} {k:Int} (b:0<=k) (a:bj f k.toNat 0=0):oM p f y r k.toNat k=jk p y r k:=by
 unfold oM;grind
theorem afU {p:bn} {f:List Int} {y:List Rat} {r:Nat} (h:bj y r 0=0):kT p f y r=kT p f y (r+1):=by
 grind[U2]
theorem U6 {p:bn} {f:List Int} {y:List Rat}:jl p f y 0=kT p f y (mF p):=by
 grind[jl,bO]
theorem U7 {p:bn} {f:List Int} {y:List Rat} {i:Int} (a:0<=i):jl p f y (i+1).toNat=jl p f y i.toNat+if bj f i.toNat 0=0/\0<jk p y (mF p) i then jk p y (mF p) i else 0:=by
 rw[show(i+1).toNat=i.toNat+1 by omega];grind[jl,bO]
section
variable {p:bn} {f:List Int} {y:List Rat}
theorem U8 {K:Nat->Nat}:∀{n k:Nat},k<n->K k<=rW n K
 |0,_,h=>by omega;|n+1,k,h=>by
  simp only[rW];by_cases e:k=n;·rw[e];omega
  ·have:=@U8 K n k (by omega);omega
theorem U9 {g:Nat->Rat} {K:Nat->Nat} {c:Nat}:∀{n:Nat},(∀k,k<n->Sz (K k+c) (g k))->Sz (rW n K+n*(c+1)+1) (bO n g)
 |0,_=>by
  simp only[bO];exact(show Sz 1 0 by simp_all[Sz]).mono (by omega);|n+1,h=>by
  simp only[bO,rW];have a:Sz (rW n K+n*(c+1)+1) (bO n g):=U9 λk b=>h k (by omega);exact(AK a (h n (by omega))).mono (by grind)
theorem Va (h:y5 p y) {k:Nat} (a:k<mF p):Sz 9000000 (bj y k 0):=by
 obtain⟨K,b,c⟩:=h;exact(b k a).mono (by have:=@U8 K _ _ a;omega)
def qa (y:List Rat) (m:Nat) (C:Int) (q:Rat):Prop:=∃(c:Int) (z:Nat->Int),(-C<=c/\c<=C)/\(∀r,r<m-> -C<=z r/\z r<=C)/\q=(c:Rat)+bO m λr=>bj y r 0*((z r:Int):Rat)
theorem afV {m:Nat} {C D:Int} {q b:Rat} (h:qa y m C q) (j:qa y m D b):qa y m (C+D) (q+b):=by
 obtain⟨c,z,l,o,n⟩:=h;obtain⟨f,a,g,d,i⟩:=j;refine⟨c+f,λr=>z r+a r,by omega,λr k=>?_,?_⟩;·grind
 ·have e:(bO m λr=>bj y r 0*(((z r+a r:Int)):Rat))=(bO m λr=>bj y r 0*((z r:Int):Rat))+bO m λr=>bj y r 0*((a r:Int):Rat):=by
   simp_all[yn,Rat.mul_add]
  grind
theorem afW {m:Nat} {C D:Int} {q:Rat} (h:qa y m C q) (f:C<=D):qa y m D q:=by
 obtain⟨c,z,b,e,a⟩:=h;exact⟨c,z,by omega,λr d=>by grind,a⟩
theorem afX {m:Nat} {C:Int} (a:0<=C):qa y m C 0:=⟨0,λ_=>0,by omega,λ_ _=>⟨by simp_all,a⟩,by
 simp_all[iT,ζQ]⟩
theorem LC {C:Int} {q:Rat} (h:qa y (mF p) C q) (g:C<=9223372036854775807) (b:y5 p y) (j:mF p<=20):Sz 9000100 q:=by
 obtain⟨c,z,k,f,rfl⟩:=h;obtain⟨K,i,d⟩:=b;have a:Sz (rW (mF p) K+mF p*3+1) (bO (mF p) λr=>bj y r 0*((z r:Int):Rat)):=U9 (c:=2) λr e=>by
  grind[uE,rV]
 refine(AK (rV (W:=c) (by omega) (by omega)) a).mono ?_;omega
theorem Vb {g:Nat->Rat} {r:Nat}:∀{m:Nat},r<=m->(bO m λk=>if k<r then g k else 0)=bO r g
 |0,h=>by rw[show r=0 by omega];rfl;|m+1,h=>by
  by_cases e:r=m+1;·simp_all[dK]
  ·simp only[bO];rw[if_neg (by omega),ζQ];exact Vb (by omega)
theorem Vd {r m:Nat} (a:r<=m) {C c:Int} {z:Nat->Int} (b: -C<=c/\c<=C) (e:∀k,k<r-> -C<=z k/\z k<=C):qa y m C ((c:Rat)+bO r λk=>bj y k 0*((z k:Int):Rat)):=by
 refine⟨c,λk=>if k<r then z k else 0,b,λk d=>?_,?_⟩;·grind
 ·rw[<-Vb a];congr 1;refine dK λk _=>?_;show _=bj y k 0*(((if k<r then z k else 0:Int)):Rat);split<;>simp_all
theorem Ve (d:bz p=0) {r:Nat} (a:r<=mF p) {i:Int} (c:0<=i/\i<p.offers.length):qa y (mF p) 1000000 (jk p y r i):=by
 have b:=kr d c;have h:=@Vd y r (mF p) a 1000000 (oI p i).value (λk=> -dY p k (oI p i)) (by omega) λk _=>by
  have:=@pR p k _ b.2.2.1;omega
 have e:jk p y r i=(((oI p i).value:Int):Rat)+bO r λk=>bj y k 0*(((-dY p k (oI p i):Int)):Rat):=by
  unfold jk;rw[Rat.sub_eq_add_neg];congr 1;rw[show(-(bO r λk=>bj y k 0*((dY p k (oI p i):Int):Rat)))=(-1)*(bO r λk=>bj y k 0*((dY p k (oI p i):Int):Rat)) by grind,<-wj];grind
 simp_all
theorem Vf (b:bz p=0) (a:f.length=p.offers.length) {r:Nat} (d:r<=mF p):qa y (mF p) 1000000000 (kT p f y r):=by
 have c:=@Bo p b f f.length a;rw[φ] at c;unfold kT;refine Vd d (by omega) λk _=>?_;have e:=@U5 p f k f.length b a;grind[U4]
theorem Vg (e:bz p=0) (c:f.length=p.offers.length):∀{i:Nat},i<=f.length->qa y (mF p) (1000000000+1000000*i) (jl p f y i)
 |0,_=>by grind[U6,Vf];|i+1,h=>by
  have a:=@U7 p f y i (by omega);rw[show((i:Int)+1).toNat=i+1 by omega,γn] at a;rw[a];have b:=Vg e c (i:=i) (by omega);have d:qa y (mF p) 1000000 (if bj f i 0=0/\0<jk p y (mF p) i then jk p y (mF p) i else 0):=by
   grind[Ve,afX]
  exact afW (afV b d) (by omega)
theorem Fg (a:bz p=0):mF p<=20:=by have:=(dQ a).1;grind
theorem Vh (a:bz p=0) (d:y5 p y) {r:Nat} (b:r<=mF p) {i:Int} (c:0<=i/\i<p.offers.length):Sz 9000100 (jk p y r i):=LC (Ve a b c) (by omega) d (Fg a)
theorem afY (a:bz p=0) (c:f.length=p.offers.length) (d:y5 p y) {r:Nat} (b:r<=mF p):Sz 9000100 (kT p f y r):=LC (Vf a c b) (by omega) d (Fg a)
theorem Vj (a:bz p=0) (c:f.length=p.offers.length) (b:y5 p y) {i:Nat} (d:i<=f.length):Sz 9000100 (jl p f y i):=LC (Vg a c d) (by have:=(dQ a).2.1;omega) b (Fg a)
end
def afZ (f:FuncId) {c:Type} (A:qC c) (e:c->Prop) (d:c->SV):dH where
 f:=f;α:=c;put:=A.put;st _:=[];dec v o:=match o with
  |[]=>A.dec v
  |_=>none;ok v o a h:=by
  split at h;·exact⟨A.ok _ _ h,rfl⟩
  ·cases h
 inj a b h _:=A.inj _ _ h;dom:=e;res:=d;out _:=[]
def LD:dH:=afZ 135 (.cons dO (.one (dG (.i .i64)))) (λ(a:bn×List Int)=>bz a.1=0/\a.2.length=a.1.offers.length) λa=>pU (κ (gC a.1 a.2))
def af0 (p:bn) (f:List Int):Nat->cG
 |3=> .inv Int (λi=>⟨[(2,.ptr 0 0 20),(4,.ptr 1 0 3),(5,.si .i64 (gC p (f.take i.toNat))),(8,.row (.i .i64) f),(9,.si .i64 f.length),(10,.si .i64 i)],[.cells p.ss 27 20 false,.cells [.bl false,.sc (.slice none 0 0),.sc (.slice none 0 0)] 177 3 false]⟩)
   (λs=>iS s 10) (λi=>0<=i/\i<=f.length) (λi=>(f.length - i).toNat) λ_ _=> .look
 |_=> .look
theorem h396o:ef Tryz.prog LD:=by
 refine Bt (L:=[oz]) (W:=[]) LD (λa=>af0 a.1 a.2) (by simp) (by simpa using h94) ?_;rintro⟨p,f⟩ ⟨hc,hl⟩;simp only at hc hl;refine bQ (let a:=γd .i64;let b:=(0:Int);let c:=Ω;let h:=γQ 0 0 20;let j:=γQ 1 0 3;let s:=γB .i64 0;let k:=c (bp.i .i64) f;let d:=(↑f.length:Int);let o:=a d;let l:=bq.cells (bn.ss p) 27 20 false;let t:=SV.sc (Value.slice none 0 0);let m:=bq.cells [δh false,t,t] 177 3 false;let n:=bp.i .u32;let q:=bu (κ (gC p f));(((h.same h/\j.same j/\s.same (a (gC p []))/\k.same k/\(a (↑f.length:Int)).same o/\s.same (a 0)/\True)/\l.same l/\m.same m/\True)/\b<=b/\b<=d)/\∀(x:Int),let e:=x+(1:Int);let v:=a e;let w:=decide (bj f x.toNat b=(1:Int));let g:=gC p (Δ x.toNat f);let y:=g+(bj p.offers x.toNat bp.off.dflt).value;let r:=bu (κ g);let z:=λ(u:Int) ↦cu .i64 e/\((h.same h/\j.same j/\(a u).same (a (gC p (Δ e.toNat f)))/\k.same k/\o.same o/\v.same v/\True)/\l.same l/\m.same m/\True)/\(b<=e/\e<=d)/\(d - e).toNat<(d - x).toNat;b<=x/\x<=d->(decide (x<d)=true->b<=x/\x<(↑f.length:Int)/\x.toNat<f.length/\(w=true->b<=x/\x<(↑p.offers.length:Int)/\x.toNat<p.offers.length/\cu .i64 y/\z y)/\(w=false->z g))/\(decide (x<d)=false->((-9223372036854775808:Int)<=g/\g<=(9223372036854775807:Int))/\(γR [γA r.fst,c n r.snd.fst,c n r.snd.snd]).same (γR [γA q.fst,c n q.snd.fst,c n q.snd.snd])/\True)) (by kernel_rfl) ?_;simp only[vcs];have h160:=(dQ hc).2.1;refine⟨⟨by simp[gC,bE,df,cM],by omega,by omega⟩,?_⟩;rintro i ⟨i0,i1⟩;have hb:=@Bo p hc f i.toNat hl;refine⟨λhi=>?_,λhi=>?_⟩
 ·have hs:=@Ub p f i i0 hi;have ho:=kr hc (i:=i) ⟨i0,by omega⟩;have hv:(bj p.offers i.toNat bp.off.dflt).value=(oI p i).value:=rfl;rw[hv];refine⟨i0,hi,by omega,λh1=>?_,λh1=>?_⟩
  ·rw[if_pos h1] at hs;refine⟨i0,?_,?_,?_,?_,?_,?_,?_⟩<;>omega
  ·rw[if_neg h1] at hs;refine⟨?_,?_,?_,?_⟩<;>omega
 ·rw[show f.take i.toNat=f by rw[show i.toNat=f.length by omega,φ]] at hb ⊢;exact⟨by omega,rfl⟩
def fsN (p:bn) (f:List Int) (x:List bL):SV:=.agg [.sb (if posB x=true then(bu (jl p f (vL x) f.length)).1 else false),.row (.i .u32) (if posB x=true then(bu (jl p f (vL x) f.length)).2.1 else[]),.row (.i .u32) (if posB x=true then(bu (jl p f (vL x) f.length)).2.2 else[])]
def LG:bM:=⟨210,bn×List Int×List bL,.cons dO (.cons (dG (.i .i64)) (.one (dG sF))),λa=>wK a.1 a.2.1 a.2.2,λa=> .bI [fsN a.1 a.2.1 a.2.2,.si .i64 (if posB a.2.2=true then 0 else 4)]⟩
def Fh (p:bn) (q:Rat) (ex:List bL):cj:=[.cells p.ss 27 20 false,.cells [.bl false,.sc (.slice none 0 0),.sc (.slice none 0 0)] 177 3 false,.cells [.sb (bu q).1,.row (.i .u32) (bu q).2.1,.row (.i .u32) (bu q).2.2] 177 3 false,.row sF ex 177 true]
noncomputable def af4 (p:bn) (f:List Int) (x:List bL):Nat->cG
 |7=> .inv Int (λi=>⟨[(1,.row (.i .i64) f),(2,.row sF x),(3,.ptr 0 0 20),(6,.ptr 1 0 3),(35,.row sF x),(36,.si .i64 x.length),(37,.si .i64 i)],[.cells p.ss 27 20 false,.cells [.bl false,.sc (.slice none 0 0),.sc (.slice none 0 0)] 177 3 false]⟩)
   (λs=>iS s 37) (λi=>0<=i/\i<=x.length/\posB (x.take i.toNat)=true) (λi=>(x.length - i).toNat) λ_ _=> .look
 |17=> .inv Int (λi=>⟨[(1,.row (.i .i64) f),(2,.row sF x),(3,.ptr 0 0 20),(6,.ptr 1 0 3),(11,.ptr 2 0 3),(12,.ow 3 f.length 3),(57,.si .i64 f.length),(58,.si .i64 i)],Fh p (κ (gC p f)) (eX (ig p f (vL x) 0 0) i.toNat (false,([],[])))⟩)
   (λs=>iS s 58) (λi=>0<=i/\i<=f.length) (λi=>(f.length - i).toNat) λ_ _=> .look
 |22=> .inv Int (λr=>⟨[(1,.row (.i .i64) f),(3,.ptr 0 0 20),(6,.ptr 1 0 3),(11,.ptr 2 0 3),(12,.ow 3 f.length 3),(72,.row sF x),(73,.si .i64 x.length),(74,.si .i64 r)],Fh p (kT p f (vL x) r.toNat) (ig p f (vL x) r.toNat 0)⟩)
   (λs=>iS s 74) (λr=>0<=r/\r<=x.length) (λr=>(x.length - r).toNat) λr k=>match k with
   |27=> .inv Int (λk=>⟨[(1,.row (.i .i64) f),(3,.ptr 0 0 20),(6,.ptr 1 0 3),(11,.ptr 2 0 3),(12,.ow 3 f.length 3),(15,.ptr 4 0 3),(17,.si .i64 (mV p f r k.toNat)),(72,.row sF x),(73,.si .i64 x.length),(74,.si .i64 r),(88,.row (.i .i64) (iC p r p.offers.length)),(89,.si .i64 f.length),(90,.si .i64 k)],
      Fh p (kT p f (vL x) r.toNat) (ig p f (vL x) r.toNat k.toNat)++[.cells [.sb (bj x r.toNat sF.dflt).1,.row (.i .u32) (bj x r.toNat sF.dflt).2.1,.row (.i .u32) (bj x r.toNat sF.dflt).2.2] 177 3 false]⟩)
     (λs=>iS s 90) (λk=>0<=k/\k<=f.length) (λk=>(f.length - k).toNat) λ_ _=> .look
   |_=> .look
 |38=> .inv Int (λi=>⟨[(6,.ptr 1 0 3),(11,.ptr 2 0 3),(12,.ow 3 f.length 3),(133,.row (.i .i64) f),(134,.si .i64 f.length),(135,.si .i64 i)],Fh p (jl p f (vL x) i.toNat) (ig p f (vL x) (mF p) 0)⟩)
   (λs=>iS s 135) (λi=>0<=i/\i<=f.length) (λi=>(f.length - i).toNat) λ_ _=> .look
 |_=> .look
theorem h494:Holds Tryz.prog LG:=by
 refine con (L:=[EO,yv,uD,sX,oz,Et,AS,AQ,wi]) (W:=gP [LD]) LG (λa=>af4 a.1 a.2.1 a.2.2) (kY (by simpa using h396o)) (by simpa using⟨h393,h335,h407,h99,h94,h336,h410,h95,h129⟩) ?_;rintro⟨p,f,x⟩ ⟨⟨hc,hl,hr⟩,y,hx,hyl,hy⟩;simp only at hc hl hr hx hyl hy;refine bQ (let a:=Ω;let c:=γd .i64;let d:=(0:Int);let e:=bq.cells;let g:=bq.row;let h:=(-9223372036854775808:Int);let j:=(9223372036854775807:Int);let k:=cu .i64;let l:=γA;let m:=(1:Int);let n:=γB .i64;let o:=sF.dflt;let q:=SV.bI;let r:=γQ;let s:=δh false;let t:=γR;let v:=bp.i .i64;let am:=t [s,a v [],a v []];let an:=bu (jl p f (vL x) f.length);let w:=bp.i .u32;let ad:=q [t [l (if posB x=true then an.fst else false),a w (if posB x=true then an.snd.fst else[]),a w (if posB x=true then an.snd.snd else[])],c (if posB x=true then d else(4:Int))];let T:=(↑x.length:Int);let aK:=if bz p=d then dh p else d;let E:=r 0 0 20;let z:=r 1 0 3;let F:=(↑x.length:Int);let G:=c F;let U:=n 0;let A:=e [c p.supply.a0,c p.supply.a1,c p.supply.a2,c p.supply.a3,c p.supply.a4,c p.supply.a5,c p.opn.a0,c p.opn.a1,c p.opn.a2,c p.opn.a3,c p.opn.a4,c p.opn.a5,c p.cls.a0,c p.cls.a1,c p.cls.a2,c p.cls.a3,c p.cls.a4,c p.cls.a5,a v p.classes,a bp.off p.offers] 27 20 false;let aL:=SV.sc (Value.slice none 0 0);let B:=e [s,aL,aL] 177 3 false;let aM:=p.offers.length;let I:=(↑f.length:Int);let C:=r 2 0 3;let D:=γZ 3 f.length 3;let y:=(↑f.length:Int);let H:=c y;let V:=bu (κ (gC p f));let ae:=e [l V.fst,a w V.snd.fst,a w V.snd.snd] 177 3 false;let af:=(false,[],[]);let ag:=ig p f (vL x) 0 0;let ao:=bu (kT p f (vL x) 0);let W:=r 4 0 3;let bg:=bu (jl p f (vL x) 0);let ap:=ig p f (vL x) (mF p) 0;let aa:=g sF ap 177 true;let O:=ap.length;let aN:=λ(u u_1:Int) (u_2:SV) ↦decide (u≠u_1)=true->(q [am,u_2]).same ad;f.length<=1000000000000/\aN (jf p f) d (c (jf p f))/\(decide (jf p f≠d)=false->True/\aN T aK (n 3)/\(decide (T≠aK)=false->((((a v f).same (a v f)/\(a sF x).same (a sF x)/\E.same E/\z.same z/\(a sF x).same (a sF x)/\(c T).same G/\U.same (c 0)/\True)/\A.same A/\B.same B/\True)/\d<=d/\d<=F/\posB []=true)/\∀(x_1:Int),let Q:=bj x x_1.toNat o;let aq:=(Q.fst,Q.snd.fst,Q.snd.snd);let X:=x_1+m;let aO:=c X;let aP:=λ(u:Bool) ↦decide (jL (bV aq)<d)=u;let aQ:=λ(u:Bool) ↦(!okF aq)=u;d<=x_1/\x_1<=F/\posB (Δ x_1.toNat x)=true->(decide (x_1<F)=true->d<=x_1/\x_1<T/\x_1.toNat<x.length/\((bA Q.snd.fst/\bA Q.snd.snd)/\γc Q.snd.fst<=10000000/\γc Q.snd.snd<=10000000)/\(aQ true->(q [am,n 2]).same ad)/\(aQ false->cE aq/\(aP true->(q [am,n 4]).same ad)/\(aP false->k X/\(((a v f).same (a v f)/\(a sF x).same (a sF x)/\E.same E/\z.same z/\(a sF x).same (a sF x)/\G.same G/\aO.same aO/\True)/\A.same A/\B.same B/\True)/\(d<=X/\X<=F/\posB (Δ X.toNat x)=true)/\(F - X).toNat<(F - x_1).toNat)))/\(decide (x_1<F)=false->(bz p=d/\f.length=aM)/\d<=I/\I<=I/\I*(56:Int)<=(140737488355328:Int)/\I<=(1000000000000:Int)/\((((a v f).same (a v f)/\(a sF x).same (a sF x)/\E.same E/\z.same z/\C.same C/\(γZ 3 I.toNat 3).same D/\(c (↑I.toNat:Int)).same H/\U.same (c 0)/\True)/\A.same A/\B.same B/\(e [l V.fst,a w V.snd.fst,a w V.snd.snd] 177 3 false).same ae/\(g (bp.b.pair (w.bB.pair w.bB)) (δ I.toNat af) 177 true).same (g sF (eX ag 0 af) 177 true)/\True)/\d<=d/\d<=y)/\∀(x_2:Int),let ar:=(bj p.offers x_2.toNat bp.off.dflt).value;let Y:=eX ag x_2.toNat af;let Z:=x_2+m;let aR:=c Z;let au:=bu (κ ar);d<=x_2/\x_2<=y->(decide (x_2<y)=true->d<=x_2/\x_2<(↑p.offers.length:Int)/\x_2.toNat<p.offers.length/\(h<=ar/\ar<=j)/\f.length=Y.length/\d<=x_2/\x_2<(↑Y.length:Int)/\f.length=Y.length/\x_2.toNat<Y.length/\k Z/\(((a v f).same (a v f)/\(a sF x).same (a sF x)/\E.same E/\z.same z/\C.same C/\D.same D/\H.same H/\aR.same aR/\True)/\A.same A/\B.same B/\ae.same ae/\(g sF (Y.set x_2.toNat (au.fst,au.snd.fst,au.snd.snd)) 177 true).same (g sF (eX ag Z.toNat af) 177 true)/\True)/\(d<=Z/\Z<=y)/\(y - Z).toNat<(y - x_2).toNat)/\(decide (x_2<y)=false->((((a v f).same (a v f)/\E.same E/\z.same z/\C.same C/\D.same D/\(a sF x).same (a sF x)/\(c T).same G/\U.same (c 0)/\True)/\A.same A/\B.same B/\ae.same (e [l ao.fst,a w ao.snd.fst,a w ao.snd.snd] 177 3 false)/\(g sF Y 177 true).same (g sF ag 177 true)/\True)/\d<=d/\d<=F)/\∀(x_3:Int),let a6:=bu (kT p f (vL x) x_3.toNat);let R:=e [l a6.fst,a w a6.snd.fst,a w a6.snd.snd] 177 3 false;let av:=g sF (ig p f (vL x) x_3.toNat 0) 177 true;let a7:=bj x x_3.toNat o;let aS:=(a7.fst,a7.snd.fst,a7.snd.snd);let J:=x_3+m;let ah:=c J;let ai:=bu (kT p f (vL x) J.toNat);let aT:=g sF (ig p f (vL x) J.toNat 0) 177 true;let M:=iC p x_3 aM;let a8:=bj x x_3.toNat o;let ab:=e [l a8.fst,a w a8.snd.fst,a w a8.snd.snd] 177 3 false;let ac:=(a8.fst,a8.snd.fst,a8.snd.snd);let aU:=(a6.fst,a6.snd.fst,a6.snd.snd);let aV:=λ(u:bL) (u_1:bq) ↦R.same (e [l u.fst,a w u.snd.fst,a w u.snd.snd] 177 3 false)/\av.same u_1/\True;let aW:=λ(u:Bool) ↦decide (jL (bV aS)=d)=u;d<=x_3/\x_3<=F->(decide (x_3<F)=true->d<=x_3/\x_3<T/\x_3.toNat<x.length/\cE aS/\(aW true->k J/\(((a v f).same (a v f)/\E.same E/\z.same z/\C.same C/\D.same D/\(a sF x).same (a sF x)/\G.same G/\ah.same ah/\True)/\A.same A/\B.same B/\aV ai aT)/\(d<=J/\J<=F)/\(F - J).toNat<(F - x_3).toNat)/\(aW false->(bz p=d/\d<=x_3/\x_3<dh p)/\((((a v f).same (a v f)/\E.same E/\z.same z/\C.same C/\D.same D/\W.same W/\(c (dm p x_3)).same (c (mV p f x_3 0))/\(a sF x).same (a sF x)/\G.same G/\(c x_3).same (c x_3)/\(a v M).same (a v M)/\(c (↑M.length:Int)).same H/\U.same (c 0)/\True)/\A.same A/\B.same B/\R.same R/\av.same av/\(e [l a7.fst,a w a7.snd.fst,a w a7.snd.snd] 177 3 false).same ab/\True)/\d<=d/\d<=y)/\∀(ey:Int),let K:=ey+m;let P:=mV p f x_3 ey.toNat;let aX:=c (mV p f x_3 K.toNat);let aj:=c x_3;let ak:=c K;let L:=ig p f (vL x) x_3.toNat ey.toNat;let aw:=g sF L 177 true;let aY:=g sF (ig p f (vL x) x_3.toNat K.toNat) 177 true;let S:=bj M ey.toNat d;let aZ:=decide (S=d);let b0:=bj f ey.toNat d;let b1:=decide (b0=m);let b2:=decide (b0=d);let ax:=bu (κ S);let b3:=(ax.fst,ax.snd.fst,ax.snd.snd);let ay:=bj L ey.toNat o;let b4:=(ay.fst,ay.snd.fst,ay.snd.snd);let az:=bu (bV ac*bV b3);let aA:=bu (bV b4 - bV (az.fst,az.snd.fst,az.snd.snd));let aB:=bu (κ P);let b5:=(aB.fst,aB.snd.fst,aB.snd.snd);let aC:=bu (bV ac*bV b5);let aD:=bu (bV aU+bV (aC.fst,aC.snd.fst,aC.snd.snd));let b6:=k K/\(((a v f).same (a v f)/\E.same E/\z.same z/\C.same C/\D.same D/\W.same W/\(c P).same aX/\(a sF x).same (a sF x)/\G.same G/\aj.same aj/\(a v M).same (a v M)/\H.same H/\ak.same ak/\True)/\A.same A/\B.same B/\R.same R/\aw.same aY/\ab.same ab/\True)/\(d<=K/\K<=y)/\(y - K).toNat<(y - ey).toNat;let b7:=λ(u:Int) (u_1:bq) ↦k K/\(((a v f).same (a v f)/\E.same E/\z.same z/\C.same C/\D.same D/\W.same W/\(c u).same aX/\(a sF x).same (a sF x)/\G.same G/\aj.same aj/\(a v M).same (a v M)/\H.same H/\ak.same ak/\True)/\A.same A/\B.same B/\R.same R/\u_1.same aY/\ab.same ab/\True)/\(d<=K/\K<=y)/\(y - K).toNat<(y - ey).toNat;let b8:=λ(u:Bool×List Int×List Int) (u_1:Int) ↦let aE:=bu (κ u_1);let aF:=bu (bV ac*bV (aE.fst,aE.snd.fst,aE.snd.snd));cE u/\cE (aF.fst,aF.snd.fst,aF.snd.snd);d<=ey/\ey<=y->(decide (ey<y)=true->d<=ey/\ey<(↑M.length:Int)/\ey.toNat<M.length/\(aZ=true->b6)/\(aZ=false->d<=ey/\ey<I/\ey.toNat<f.length/\(b1=true->k (P - S)/\b7 (P - S) aw)/\(b1=false->d<=ey/\ey<I/\ey.toNat<f.length/\(b2=true->f.length=L.length/\d<=ey/\ey<(↑L.length:Int)/\f.length=L.length/\ey.toNat<L.length/\(h<=S/\S<=j)/\(cE ac/\cE b3)/\b8 b4 S/\f.length=L.length/\d<=ey/\ey<(↑L.length:Int)/\f.length=L.length/\ey.toNat<L.length/\b7 P (g sF (L.set ey.toNat (aA.fst,aA.snd.fst,aA.snd.snd)) 177 true))/\(b2=false->b6))))/\(decide (ey<y)=false->(h<=P/\P<=j)/\(cE ac/\cE b5)/\b8 aU P/\k J/\(((a v f).same (a v f)/\E.same E/\z.same z/\C.same C/\D.same D/\(a sF x).same (a sF x)/\G.same G/\ah.same ah/\True)/\A.same A/\B.same B/\(e [l aD.fst,a w aD.snd.fst,a w aD.snd.snd] 177 3 false).same (e [l ai.fst,a w ai.snd.fst,a w ai.snd.snd] 177 3 false)/\aw.same aT/\True)/\(d<=J/\J<=F)/\(F - J).toNat<(F - x_3).toNat)))/\(decide (x_3<F)=false->(((z.same z/\C.same C/\D.same D/\(a v f).same (a v f)/\(c I).same H/\U.same (c 0)/\True)/\A.same A/\B.same B/\aV bg aa)/\d<=d/\d<=y)/\∀(ey:Int),let N:=ey+m;let al:=c N;let a9:=bu (jl p f (vL x) ey.toNat);let b9:=[l a9.fst,a w a9.snd.fst,a w a9.snd.snd];let aG:=bu (jl p f (vL x) N.toNat);let ba:=e [l aG.fst,a w aG.snd.fst,a w aG.snd.snd] 177 3 false;let aH:=bj ap ey.toNat o;let aI:=(aH.fst,aH.snd.fst,aH.snd.snd);let bb:=decide (bj f ey.toNat d=d);let bc:=(a9.fst,a9.snd.fst,a9.snd.snd);let aJ:=bu (bV bc+bV aI);let bd:=k N/\((z.same z/\C.same C/\D.same D/\(a v f).same (a v f)/\H.same H/\al.same al/\True)/\A.same A/\B.same B/\(e b9 177 3 false).same ba/\aa.same aa/\True)/\(d<=N/\N<=y)/\(y - N).toNat<(y - ey).toNat;let be:=cE aI;let bf:=λ(u:Bool) ↦decide (d<jL (bV aI))=u;d<=ey/\ey<=y->(decide (ey<y)=true->d<=ey/\ey<I/\ey.toNat<f.length/\(bb=true->f.length=O/\d<=ey/\ey<(↑O:Int)/\f.length=O/\ey.toNat<O/\be/\(bf true->f.length=O/\d<=ey/\ey<(↑O:Int)/\f.length=O/\ey.toNat<O/\(cE bc/\be)/\k N/\((z.same z/\C.same C/\D.same D/\(a v f).same (a v f)/\H.same H/\al.same al/\True)/\A.same A/\B.same B/\(e [l aJ.fst,a w aJ.snd.fst,a w aJ.snd.snd] 177 3 false).same ba/\aa.same aa/\True)/\(d<=N/\N<=y)/\(y - N).toNat<(y - ey).toNat)/\(bf false->bd))/\(bb=false->bd))/\(decide (ey<y)=false->(q [t b9,U]).same ad))))))) (by kernel_rfl) ?_;simp only[vcs];have hgo:=dQ hc;have h160:=hgo.2.1;have hfe:jf p f=0:=by simp[jf,hc,hl,hr]
 have hnr:dh p=mF p:=by unfold dh mF;omega
 have hxl:x.length=mF p:=by rw[hx,fF,hyl]
 have hvl:vL x=y:=by rw[hx,kM]
 have aiS:mF p<=20:=by have:=hgo.1;unfold mF;omega
 have hxn:∀r:Int,0<=r->r<mF p->bj x r.toNat sF.dflt=bu (bj y r.toNat 0):=λr h0 h1=>by rw[hx];exact jw (by rw[hyl];omega)
 have wL:∀{q q':Rat},q=q'->(bq.cells [.sb (bu q).1,.row (.i .u32) (bu q).2.1,.row (.i .u32) (bu q).2.2] 177 3 false).same (bq.cells [.sb (bu q').1,.row (.i .u32) (bu q').2.1,.row (.i .u32) (bu q').2.2] 177 3 false):=by rintro _ _ rfl;rfl
 have rX:∀{a b:List bL},a=b->(bq.row sF a 177 true).same (bq.row sF b 177 true):=by rintro _ _ rfl;rfl
 have yT:∀{a b:Nat},a=b->(γZ 3 a 3).same (γZ 3 b 3):=by rintro _ _ rfl;rfl
 have hval:∀i:Int,(bj p.offers i.toNat bp.off.dflt).value=(oI p i).value:=λi=>rfl;have hel:∀r k,(ig p f y r k).length=f.length:=λr k=>by rw[y7,hl]
 rw[if_pos hc,hnr,hvl];simp only[jM,eD,hval,γn];refine⟨by omega,λh=>absurd hfe h,λ_=>⟨λh=>absurd (by rw[hxl]) h,λ_=>⟨⟨by omega,by omega,rfl⟩,?_⟩⟩⟩;rintro i ⟨i0,i1,hall⟩;have et:=λh=>jq (d:=sF.dflt) (l:=x) i0 h;refine⟨λhi=>?_,λhge=>?_⟩
 ·have hys:=Va hy (k:=i.toNat) (by omega);have hm:=dn (d:=sF.dflt) (show i.toNat<x.length by omega);have et:=et hi;have hok:=E3 (bj y i.toNat 0);obtain⟨s1,⟨u1,u2,u3⟩,⟨u4,u5,u6⟩⟩:=l9 (bj y i.toNat 0);obtain⟨m1,m2⟩:=pq hys;rw[hxn i i0 (by omega)] at hm et ⊢;refine⟨i0,hi,by omega,⟨⟨u1,u4⟩,by omega,by omega⟩,(λh=>by rw[hok] at h;cases h),λ_=>⟨dN hys (by omega),λh=>?_,λh=>⟨by omega,⟨by omega,by omega,?_⟩,by omega⟩⟩⟩
  ·have hn:bj y i.toNat 0<0:=A1.1 (by rwa [eD] at h);have hp:posB x=false:=by
    rw[δI];intro ha;have:=τ.1 ha _ hm;have e:(bu (bj y i.toNat 0)).1=true:=decide_eq_true hn;rw[e] at this;cases this
   simp only[hp,ψ,if_false];first|exact rfl|exact⟨rfl,rfl⟩|exact⟨rfl,trivial⟩|(unfold SV.same;exact⟨rfl,rfl⟩)
  ·have hn:¬bj y i.toNat 0<0:=λhh=>h (by rw[eD];exact A1.2 hh);have e:(bu (bj y i.toNat 0)).1=false:=decide_eq_false hn;unfold posB at hall ⊢;rw[et,List.all_append,hall];simp[e]
 have hpos:posB x=true:=by rwa [show i.toNat=x.length by omega,φ] at hall
 simp only[hpos,if_true];refine⟨⟨hc,hl⟩,by omega,by omega,by omega,by omega,⟨⟨⟨yT rfl,trivial⟩,rX ?_⟩,by omega,by omega⟩,?_⟩;·rw[yF,hel]
 rintro i ⟨i0,i1⟩;have oZ:=@yE (ig p f y 0 0) i.toNat (false,([],[])) (by rw[hel];omega);rw[hel] at oZ;refine⟨λhi=>?_,λhi=>?_⟩
 ·have ho:=kr hc (i:=i) ⟨i0,by omega⟩;have hE:bj (ig p f y 0 0) i.toNat (false,([],[]))=bu (κ (oI p i).value):=by
   rw[y8 (by omega),show((i.toNat:Nat):Int)=i by omega,afP i0]
  exact⟨i0,by omega,by omega,by omega,by omega,by omega,by omega,by omega,by omega,by omega,rX (by rw[yH (by rw[hel];omega) hE.symm,show(i+1).toNat=i.toNat+1 by omega]),by omega,by omega⟩
 rw[show i.toNat=(ig p f y 0 0).length by rw[hel];omega,yG];refine⟨⟨⟨wL afJ.symm,rX rfl⟩,by omega,by omega⟩,?_⟩;rintro r ⟨r0,r1⟩;refine⟨λhr1=>?_,λhr1=>?_⟩
 ·have hys:=Va hy (k:=r.toNat) (by omega);have hx1:=hxn r r0 (by omega);have gy:cE (bu (bj y r.toNat 0)):=dN hys (by omega);have hrr:((r.toNat:Nat):Int)=r:=by omega
  have hrt:(r+1).toNat=r.toNat+1:=by omega
  simp only[hx1,eD];refine⟨r0,hr1,by omega,gy,λh0=>?_,λh0=>⟨⟨hc,r0,by omega⟩,⟨⟨afL.symm,by rw[U3];omega⟩,by omega,by omega⟩,?_⟩⟩
  ·have h0:=Jq.1 h0;exact⟨by omega,⟨wL (by rw[hrt,afU h0]),rX (by rw[hrt,afR h0])⟩,by omega,by omega⟩
  rintro k ⟨k0,k1⟩;have hbd:=@U5 p f r k.toNat hc hl;have hrl:=@U3 p r;refine⟨λhk=>?_,λhk=>?_⟩
  ·have ho:=kr hc (i:=k) ⟨k0,by omega⟩;have hcb:=@pR p r _ ho.2.2.1;have hrn:=@afK p r k ⟨k0,by omega⟩;have hbs:=@afM p f r k k0 (by omega);rw[hrn];refine⟨k0,by omega,by omega,λh1=>?_,λh1=>⟨k0,by omega,by omega,λh2=>?_,λh2=>⟨k0,by omega,by omega,λh3=>?_,λh3=>?_⟩⟩⟩
   ·have hb2:mV p f r k.toNat=mV p f r (k+1).toNat:=by rw[hbs,h1];split<;>omega
    exact⟨by omega,⟨hb2,rX (LA k0 (.inr (.inl (by rw[hrr];exact h1))))⟩,by omega,by omega⟩
   ·rw[if_pos h2] at hbs;exact⟨by omega,by omega,⟨by omega,rX (LA k0 (.inl (by omega)))⟩,by omega,by omega⟩
   ·rw[if_neg h2] at hbs;have hen:=@y8 p f y r.toNat k.toNat k.toNat (by omega) sF.dflt;rw[show((k.toNat:Nat):Int)=k by omega,afT k0 h3] at hen;have gx:cE (bu (jk p y r.toNat k)):=dN (Vh hc hy (by omega) ⟨k0,by omega⟩) (by omega);have gc:cE (bu (κ (dY p r (oI p k)))):=dN (rV (W:=dY p r (oI p k)) (by omega) (by omega)) (by omega);have gm:cE (bu (bj y r.toNat 0*κ (dY p r (oI p k)))):=dN (uE hys (rV (W:=dY p r (oI p k)) (by omega) (by omega))) (by omega);have hset:=@afS p f y r.toNat k k0 (by omega) h3;rw[Lx,hrr] at hset;have af5:(ig p f y r.toNat k.toNat).set k.toNat (bu (jk p y r.toNat k - bj y r.toNat 0*κ (dY p r (oI p k))))=ig p f y r.toNat (k+1).toNat:=hset;rw[hen];simp only[eD];rw[af5,hel];refine⟨rfl,k0,?_,rfl,?_,?_,⟨gy,gc⟩,⟨gx,gm⟩,rfl,k0,?_,rfl,?_,?_,⟨?_,rX rfl⟩,?_,?_⟩<;>omega
   ·rw[if_neg h2] at hbs;refine⟨?_,⟨?_,rX (LA k0 (.inl h3))⟩,?_,?_⟩<;>omega
  ·have hk2:k.toNat=f.length:=by omega
   rw[hk2,U4] at hbd ⊢;have gb:cE (bu (κ (dm p r - cZ p ((bE f 1).map (oI p)) r))):=dN (rV (W:=dm p r - cZ p ((bE f 1).map (oI p)) r) (by omega) (by omega)) (by omega);have gs:cE (bu (kT p f y r.toNat)):=dN (afY hc hl hy (by omega)) (by omega);have gm:cE (bu (bj y r.toNat 0*κ (dm p r - cZ p ((bE f 1).map (oI p)) r))):=dN (uE hys (rV (W:=dm p r - cZ p ((bE f 1).map (oI p)) r) (by omega) (by omega))) (by omega);refine⟨by omega,⟨gy,gb⟩,⟨gs,gm⟩,by omega,⟨wL ?_,rX ?_⟩,by omega,by omega⟩;·rw[hrt,U2,hrr]
   ·rw[hrt,hl];exact afQ
 ·have hr2:r.toNat=mF p:=by omega
  rw[hr2];refine⟨⟨⟨wL U6.symm,rX rfl⟩,by omega,by omega⟩,?_⟩;rintro i ⟨i0,i1⟩;refine⟨λhi=>?_,λhi=>?_⟩
  ·have hs:=@U7 p f y i i0;refine⟨i0,hi,by omega,λh0=>?_,λh0=>?_⟩
   ·have hen:=@y8 p f y (mF p) 0 i.toNat (by omega) sF.dflt;have he0:oM p f y (mF p) 0 i=jk p y (mF p) i:=by
     unfold oM;rw[if_pos h0,if_neg (show ¬i<((0:Nat):Int) by omega)]
    rw[show((i.toNat:Nat):Int)=i by omega,he0] at hen;have gx:cE (bu (jk p y (mF p) i)):=dN (Vh hc hy (π _) ⟨i0,by omega⟩) (by omega);have gs:cE (bu (jl p f y i.toNat)):=dN (Vj hc hl hy (by omega)) (by omega);rw[hen,hel];simp only[eD];refine⟨trivial,i0,by omega,trivial,by omega,gx,λh1=>⟨trivial,i0,by omega,trivial,by omega,⟨gs,gx⟩,by omega,wL ?_,by omega,by omega⟩,λh1=>⟨by omega,wL ?_,by omega,by omega⟩⟩;·rw[hs,if_pos ⟨h0,uH.1 h1⟩]
    ·rw[hs,if_neg (λh=>h1 (uH.2 h.2))];exact(ζQ _).symm
   ·refine⟨by omega,wL ?_,by omega,by omega⟩;rw[hs,if_neg (λh=>h0 h.1)];exact(ζQ _).symm
  ·rw[show i.toNat=f.length by omega];first|exact rfl|exact⟨rfl,rfl⟩|exact⟨rfl,trivial⟩
def LH:bM:=⟨208,dj×bn×Int×List Int,.cons (ei bF) (.cons dO (.cons (eU .i64) (.one (dG (.i .i64))))),λa=>wK a.2.1 a.2.2.2 a.1.2.2.2.2/\ -9223372036854775808<=a.2.2.1/\a.2.2.1<=9223372036854775807,
 λa=> .sb (posB a.1.2.2.2.2&&decide (jl a.2.1 a.2.2.2 (vL a.1.2.2.2.2) a.2.2.2.length<κ a.2.2.1+1))⟩
theorem h492:Holds Tryz.prog LH:=by
 refine cH (L:=[LG,oz,wi,yk]) LH lk (by grind[h494,h94,h129,h97]) ?_;rintro⟨⟨k,o,a,b,x⟩,p,v,f⟩ ⟨c,i,g⟩;simp only at c i g;have d:=c;obtain⟨⟨H,J,M⟩,y,K,I,G⟩:=d;have C:=Vj H J G (π f.length);have q:vL x=y:=by rw[K,kM]
 rw[<-q] at C;have F:(κ 1:Rat)=1:=rfl;have s:Sz 2 (κ v:Rat):=rV i g;have t:Sz 2 (1:Rat):=rV (W:=1) (by omega) (by omega);refine bQ (let a:=(-9223372036854775808:Int);let b:=(9223372036854775807:Int);let c:=(1:Int);let d:=(0:Int);let j:=jl p f (vL x) f.length;let n:=bu (κ v);let D:=(n.fst,n.snd.fst,n.snd.snd);let r:=bu (κ c);let A:=(r.fst,r.snd.fst,r.snd.snd);let z:=(if posB x=true then(bu j).fst else false,if posB x=true then(bu j).snd.fst else[],if posB x=true then(bu j).snd.snd else[]);let l:=bu (bV D+bV A);let E:=(l.fst,l.snd.fst,l.snd.snd);let B:=λ(u:SV) ↦u.same (γA (posB x&&decide (j<κ v+(1:Rat))));let w:=λ(u:Bool) ↦decide ((if posB x=true then d else(4:Int))=d)=u;wK p f x/\(a<=v/\v<=b)/\(a<=c/\c<=b)/\(cE D/\cE A)/\(w true->(cE z/\cE E)/\B (γA (decide (iR (bV z) (bV E)<d))))/\(w false->B (δh false))) (by kernel_rfl) ?_;simp only[jM,eD,F];by_cases m:posB x=true
 ·simp only[m,if_true,Bool.true_and,jM,eD];refine⟨c,⟨i,g⟩,by omega,⟨dN s (by omega),dN t (by omega)⟩,λ_=>⟨⟨dN C (by omega),dN (AK s t) (by omega)⟩,?_⟩,λh=>by cases h⟩;have e:decide (iR (jl p f (vL x) f.length) (κ v+1)<0)=decide (jl p f (vL x) f.length<κ v+1):=decide_eq_decide.2 tg;rw[e];rfl
 ·have m:posB x=false:=by simp_all
  simp only[m,ψ,if_false,Bool.false_and];exact⟨c,⟨i,g⟩,by omega,⟨dN s (by omega),dN t (by omega)⟩,(λh=>by cases h),λ_=>rfl⟩
def LI:bM:=⟨214,dj×bn×Int×List Int,.cons (ei bF) (.cons dO (.cons (eU .i64) (.one (dG (.i .i64))))),λa=>0<=a.1.2.1,λa=> .sb (decide (a.1.2.1<a.2.2.2.length)&&decide (bj a.2.2.2 a.1.2.1.toNat 0=0))⟩
theorem h498:Holds Tryz.prog LI:=by
 refine cH (L:=[]) LI lk (by simp) ?_;rintro⟨⟨k,o,a,b,x⟩,p,v,f⟩ (e:0<=o);refine bQ (let a:=(0:Int);let c:=decide (o<(↑f.length:Int));let d:=λ(u:SV) ↦u.same (γA (decide (o<(↑f.length:Int))&&decide (bj f o.toNat a=a)));(c=true->a<=o/\o<(↑f.length:Int)/\o.toNat<f.length/\d (γA (decide (bj f o.toNat a=a))))/\(c=false->d (δh false))) (by kernel_rfl) ?_;simp_all[decide_eq_false]
def LJ:bM:=⟨218,dj×bn×Int×List Int,.cons (ei bF) (.cons dO (.cons (eU .i64) (.one (dG (.i .i64))))),λa=>a.2.2.2.length<=1000000,λa=> .sb (decide (cO a.2.1 (bE a.2.2.2 1)≠0))⟩
def af6 (n:dj) (p:bn) (f:List Int):Nat->cG
 |3=> .inv Int (λi=>⟨[(5,.ptr 1 0 20),(9,.ow 2 (bE (f.take i.toNat) 1).length 1),(12,.row (.i .i64) f),(13,.si .i64 f.length),(14,.si .i64 i)],[.cells (encS bF n) 206 5 false,.cells p.ss 27 20 false,.row (.i .i64) (bE (f.take i.toNat) 1) 3 true]⟩)
   (λs=>iS s 14) (λi=>0<=i/\i<=f.length) (λi=>(f.length - i).toNat) λ_ _=> .look
 |_=> .look
theorem h502:Holds Tryz.prog LJ:=by
 refine cH (L:=[xW]) LJ (λa=>af6 a.1 a.2.1 a.2.2.2) (by simpa using h100) ?_;rintro⟨⟨k,o,a,b,x⟩,p,v,f⟩ (hl:f.length<=1000000);refine bQ (let c:=γd .i64;let d:=(0:Int);let e:=(1:Int);let g:=bq.row;let h:=Ω;let j:=γZ;let r:=γQ 1 0 20;let m:=bp.i .i64;let n:=(↑f.length:Int);let v:=c n;let s:=bq.cells [c k,c o,c a,c b,h sF x] 206 5 false;let t:=bq.cells [c p.supply.a0,c p.supply.a1,c p.supply.a2,c p.supply.a3,c p.supply.a4,c p.supply.a5,c p.opn.a0,c p.opn.a1,c p.opn.a2,c p.opn.a3,c p.opn.a4,c p.opn.a5,c p.cls.a0,c p.cls.a1,c p.cls.a2,c p.cls.a3,c p.cls.a4,c p.cls.a5,h m p.classes,h bp.off p.offers] 27 20 false;(((r.same r/\(j 2 0 1).same (j 2 (bE [] e).length 1)/\(h m f).same (h m f)/\(c (↑f.length:Int)).same v/\(γB .i64 0).same (c 0)/\True)/\s.same s/\t.same t/\(g m [] 3 true).same (g m (bE [] e) 3 true)/\True)/\d<=d/\d<=n)/\∀(x_1:Int),let q:=x_1+e;let w:=bE (Δ q.toNat f) e;let y:=c q;let z:=decide (bj f x_1.toNat d=e);let l:=bE (Δ x_1.toNat f) e;let A:=l.length+1;let B:=λ(u:Nat) (u_1:bq) ↦cu .i64 q/\((r.same r/\(j 2 u 1).same (j 2 w.length 1)/\(h m f).same (h m f)/\v.same v/\y.same y/\True)/\s.same s/\t.same t/\u_1.same (g m w 3 true)/\True)/\(d<=q/\q<=n)/\(n - q).toNat<(n - x_1).toNat;d<=x_1/\x_1<=n->(decide (x_1<n)=true->d<=x_1/\x_1<(↑f.length:Int)/\x_1.toNat<f.length/\(z=true->l.length=l.length/\A*8<=140737488355328/\A<=1000000000000/\B (l++[x_1]).length (g m (l++[x_1]) 3 true))/\(z=false->B l.length (g m l 3 true)))/\(decide (x_1<n)=false->l.length=l.length/\l.length<=9223372036854775807/\(γA (decide (cO p l≠d))).same (γA (decide (cO p (bE f e)≠d))))) (by kernel_rfl) ?_;simp only[vcs];have how:∀{x y:Nat},x=y->(γZ 2 x 1).same (γZ 2 y 1):=by rintro _ _ rfl;rfl
 have hrow:∀{x y:List Int},x=y->(bq.row (.i .i64) x 3 true).same (bq.row (.i .i64) y 3 true):=by rintro _ _ rfl;rfl
 refine⟨⟨⟨how rfl,hrow rfl⟩,by omega,by omega⟩,?_⟩;rintro i ⟨i0,i1⟩;have hd:=@uO (f.take i.toNat) 1;rw[γy] at hd;refine⟨λhi=>?_,λhi=>?_⟩
 ·have hs:=Bn (d:=1) i0 hi;refine⟨i0,hi,by omega,λh1=>?_,λh1=>?_⟩
  ·rw[if_pos h1] at hs;rw[hs];refine⟨?_,?_,?_,⟨how rfl,hrow rfl⟩,?_,?_⟩<;>omega
  ·rw[if_neg h1,γ1] at hs;rw[hs];refine⟨?_,⟨how rfl,hrow rfl⟩,?_,?_⟩<;>omega
 ·rw[show f.take i.toNat=f by rw[show i.toNat=f.length by omega,φ]] at hd ⊢;exact⟨by omega,rfl⟩
def LK:bM:=⟨222,Unit×bn×Int×List Int,.cons Lj (.cons dO (.cons (eU .i64) (.one (dG (.i .i64))))),λ_=>True,λ_=> .sb false⟩
theorem h506:Holds Tryz.prog LK:=by
 refine cH (L:=[]) LK lk (by simp) ?_;rintro⟨_,p,v,f⟩ _;refine bQ ((δh false).same (γA false)) (by kernel_rfl) ?_;rfl
@[reducible] def rY:bp:=.pair (.i .i64) .b
def eW (t:List dj):Nat->List (Int×Bool)
 |0=>δ t.length (0,false)
 |i+1=>if(bj t i bF.dflt).1=2 then((eW t i).set (bj t i bF.dflt).2.2.1.toNat ((i:Int),false)).set (bj t i bF.dflt).2.2.2.1.toNat ((i:Int),true) else eW t i
def oN (t:List dj) (u:List (Int×Bool)) (k:Int) (f:List Int):List Int:=
 if(bj t (bj u k.toNat (0,false)).1.toNat bF.dflt).2.1<f.length then f.set (bj t (bj u k.toNat (0,false)).1.toNat bF.dflt).2.1.toNat (if(bj u k.toNat (0,false)).2 then 1 else -1) else f
def iF (t:List dj) (u:List (Int×Bool)):Nat->Int->List Int->List Int
 |0,_,f=>f
 |m+1,k,f=>if 0<k then iF t u m (bj u k.toNat (0,false)).1 (oN t u k f) else f
def i6 (p:bn) (t:List dj) (i:Nat):List Int:=iF t (eW t i) i i (δ p.offers.length 0)
def rZ (p:bn) (v:Int) (f:List Int) (n:dj):Bool:=
 if n.1=1 then posB n.2.2.2.2&&decide (jl p f (vL n.2.2.2.2) f.length<κ v+1) else if n.1=2 then decide (n.2.1<f.length)&&decide (bj f n.2.1.toNat 0=0) else if n.1=3 then decide (cO p (bE f 1)≠0) else false
def sa (p:bn) (v:Int) (t:List dj):Bool:=(ω t.length).all λi=>rZ p v (i6 p t i) (bj t i bF.dflt)
def LL (t:List dj) (u:List (Int×Bool)):Prop:=u.length=t.length/\∀k,k<t.length->0<=(bj u k (0,false)).1/\(0<k->(bj u k (0,false)).1<k)
def LM (p:bn) (v:Int) (t:List dj):Prop:=(bz p=0/\dV t=true)/\(-9223372036854775808<=v/\v<=9223372036854775807)/\∀i,i<t.length->(bj t i bF.dflt).1=1->wK p (i6 p t i) (bj t i bF.dflt).2.2.2.2
theorem Vk {t:List dj} {u:List (Int×Bool)} {k:Int} {f:List Int}:(oN t u k f).length=f.length:=by
 grind[oN]
theorem Vl {t:List dj} {u:List (Int×Bool)}:∀{m:Nat} {k:Int} {f:List Int},(iF t u m k f).length=f.length
 |0,_,_=>rfl
 |m+1,k,f=>by
  unfold iF;split;·rw[Vl,Vk]
  ·rfl
theorem LN {t:List dj} {u:List (Int×Bool)} (a:LL t u):∀{m:Nat} {k:Int} {f:List Int},0<=k->k<t.length->k<=m->iF t u m k f=iF t u k.toNat k f
 |0,k,f,g,d,e=>by grind;|m+1,k,f,g,d,e=>by
  by_cases c:0<k
  ·have b:=a.2 k.toNat (by omega);have h:=b.2 (by omega);rw[show k.toNat=(k.toNat - 1)+1 by omega];unfold iF;rw[if_pos c,if_pos c,LN a b.1 (by omega) (by omega)];exact(LN a b.1 (by omega) (by omega)).symm
  ·rw[show k=0 by omega];rfl
theorem Vm {t:List dj} {u:List (Int×Bool)} (b:LL t u) {k:Int} {f:List Int} (a:0<k) (e:k<t.length):iF t u k.toNat k f=iF t u (bj u k.toNat (0,false)).1.toNat (bj u k.toNat (0,false)).1 (oN t u k f):=by
 have c:=b.2 k.toNat (by omega);have d:=c.2 (by omega);rw[show iF t u k.toNat k f=iF t u ((k.toNat - 1)+1) k f by grind];conv=>lhs;unfold iF
 rw[if_pos a];grind[LN]
theorem tq {t:List dj}:∀{i:Nat},(eW t i).length=t.length
 |0=>by simp[eW];|i+1=>by
  unfold eW;split;·rw[Ψ,Ψ,tq]
  ·exact tq
theorem LO {t:List dj} (h:dV t=true) {i:Nat} (c:i<t.length):0<=(bj t i bF.dflt).2.1/\((bj t i bF.dflt).1=2->((i:Int)<(bj t i bF.dflt).2.2.1/\(bj t i bF.dflt).2.2.1<t.length)/\((i:Int)<(bj t i bF.dflt).2.2.2.1/\(bj t i bF.dflt).2.2.2.1<t.length)):=by
 unfold dV at h;simp only[θ,τ,γC] at h;have b:=h.2.1 i c;unfold kS at b;simp only[θ] at b;obtain⟨a,d⟩:=b;refine⟨?_,λe=>?_⟩
 ·unfold tn at a;split at a;·simp_all[wf1,rU]
  ·split at a;all_goals simp_all[wf2,oL,uR,rU]
 simp_all[jB,uS]
theorem LP {t:List dj} (h:dV t=true):∀{i:Nat},i<=t.length->LL t (eW t i)
 |0,_=>⟨tq,λk a=>by
   grind[eW,cT]⟩
 |i+1,g=>⟨tq,λk a=>by
   have b:=(LP h (i:=i) (by omega)).2 k a;unfold eW;split
   ·rename_i c;obtain⟨⟨j,f⟩,d,e⟩:=(LO h (i:=i) (by omega)).2 c;grind[tq,iU]
   ·exact b⟩
def LQ:bM:=⟨62,bn×Int×List dj,.cons dO (.cons (eU .i64) (.one (dG bF))),λa=>LM a.1 a.2.1 a.2.2,λa=> .si .i64 (if sa a.1 a.2.1 a.2.2 then 0 else 13)⟩
noncomputable def af7 (p:bn) (v:Int) (t:List dj):Nat->cG
 |3=> .inv Int (λi=>⟨[(1,.si .i64 v),(2,.row bF t),(3,.ptr 0 0 20),(7,.ow 1 t.length 2),(16,.row bF t),(17,.si .i64 t.length),(18,.si .i64 i)],[.cells p.ss 27 20 false,.row rY (eW t i.toNat) 159 true]⟩)
   (λs=>iS s 18) (λi=>0<=i/\i<=t.length/\∀j:Nat,j<i->rZ p v (i6 p t j) (bj t j bF.dflt)=true) (λi=>(t.length - i).toNat) λi k=>match k with
   |7=> .inv (Int×List Int) (λx=>⟨[(1,.si .i64 v),(2,.row bF t),(3,.ptr 0 0 20),(7,.ow 1 t.length 2),(8,.si .i64 i),(9,.ptr 2 0 5),(10,.ow 3 p.offers.length 1),(11,.si .i64 x.1),(16,.row bF t),(17,.si .i64 t.length),(18,.si .i64 i)],
      [.cells p.ss 27 20 false,.row rY (eW t i.toNat) 159 true,.cells (encS bF (bj t i.toNat bF.dflt)) 108 5 false,.row (.i .i64) x.2 3 true]⟩)
     (λs=>(iS s 11,oS (.i .i64) s 3)) (λx=>(0<=x.1/\x.1<=i)/\x.2.length=p.offers.length/\iF t (eW t i.toNat) x.1.toNat x.1 x.2=i6 p t i.toNat) (λx=>x.1.toNat) λ_ _=> .look
   |_=> .look
 |_=> .look
theorem h481:Holds Tryz.prog LQ:=by
 refine cH (L:=[Fb,LH,LI,LJ,LK]) LQ (λa=>af7 a.1 a.2.1 a.2.2) (by simpa using⟨h485,h492,h498,h502,h506⟩) ?_;rintro⟨p,v,t⟩ ⟨⟨hc,ht⟩,⟨v0,v1⟩,hb⟩;simp only at hc ht v0 v1 hb;refine bQ (let a:=γd .i64;let c:=(0:Int);let d:=Ω;let e:=bq.row;let f:=γB .i64;let g:=(140737488355328:Int);let h:=(1000000000000:Int);let k:=(1:Int);let l:=γZ;let o:=(↑t.length:Int);let w:=γQ 0 0 20;let C:=l 1 t.length 2;let y:=(↑t.length:Int);let D:=a y;let a9:=f 0;let K:=bp.i .i64;let q:=bq.cells [a p.supply.a0,a p.supply.a1,a p.supply.a2,a p.supply.a3,a p.supply.a4,a p.supply.a5,a p.opn.a0,a p.opn.a1,a p.opn.a2,a p.opn.a3,a p.opn.a4,a p.opn.a5,a p.cls.a0,a p.cls.a1,a p.cls.a2,a p.cls.a3,a p.cls.a4,a p.cls.a5,d K p.classes,d bp.off p.offers] 27 20 false;let E:=(↑p.offers.length:Int);let S:=γQ 2 0 5;let n:=p.offers.length;let Z:=l 3 n 1;let a6:=δ E.toNat c;let aa:=e K a6 3 true;let L:=a (if sa p v t=true then c else(13:Int));c<=o/\o<=o/\o*(16:Int)<=g/\o<=h/\((((a v).same (a v)/\(d bF t).same (d bF t)/\w.same w/\(l 1 o.toNat 2).same C/\(d bF t).same (d bF t)/\(a o).same D/\a9.same (a 0)/\True)/\q.same q/\(e (K.pair bp.b) (δ o.toNat (c,false)) 159 true).same (e rY (eW t 0) 159 true)/\True)/\c<=c/\c<=y/\∀(j:Nat),(↑j:Int)<c->rZ p v (i6 p t j) (bj t j bF.dflt)=true)/\∀(x:Int),let z:=eW t x.toNat;let F:=e rY z 159 true;let s:=bj t x.toNat bF.dflt;let T:=s.snd.fst;let M:=s.snd.snd.fst;let N:=s.snd.snd.snd.fst;let U:=s.snd.snd.snd.snd;let H:=bq.cells [a s.fst,a T,a M,a N,d sF U] 108 5 false;let V:=i6 p t x.toNat;let m:=z.length;let O:=(↑m:Int);let ab:=decide (s.fst=k);let ac:=decide (s.fst=(2:Int));let P:=z.set (ζu M) (x,false);let G:=x+k;let ad:=a G;let ar:=e rY (eW t G.toNat) 159 true;let ae:=decide (s.fst=(2:Int));let af:=decide (s.fst=(3:Int));(c<=x/\x<=y/\∀(j:Nat),(↑j:Int)<x->rZ p v (i6 p t j) (bj t j bF.dflt)=true)->(decide (x<y)=true->c<=x/\x<o/\x.toNat<t.length/\c<=E/\E<=E/\E*(8:Int)<=g/\E<=h/\((((a v).same (a v)/\(d bF t).same (d bF t)/\w.same w/\C.same C/\(a x).same (a x)/\S.same S/\(l 3 E.toNat 1).same Z/\(a x).same (a x)/\(d bF t).same (d bF t)/\D.same D/\(a x).same (a x)/\True)/\q.same q/\F.same F/\H.same H/\aa.same aa/\True)/\(c<=x/\x<=x)/\a6.length=n/\iF t z x.toNat x a6=V)/\∀(x_1:Int×List Int),let W:=a x;let A:=x_1.fst.toNat;let a7:=bj z A rY.dflt;let r:=a7.fst;let ag:=a r;let I:=ζu r;let J:=(bj t I bF.dflt).snd.fst;let X:=ζu J;let Q:=x_1.snd.length;let ah:=decide (c<x_1.fst);let B:=x_1.snd.length;let R:=x_1.snd.set X (-1:Int);let ai:=e K x_1.snd 3 true;let Y:=let aj:=λ(u:bq) ↦cu .i64 G/\(((a v).same (a v)/\(d bF t).same (d bF t)/\w.same w/\C.same C/\(d bF t).same (d bF t)/\D.same D/\ad.same ad/\True)/\q.same q/\u.same ar/\True)/\(c<=G/\G<=y/\∀(j:Nat),(↑j:Int)<G->rZ p v (i6 p t j) (bj t j bF.dflt)=true)/\(y - G).toNat<(y - x).toNat;(ac=true->t.length=m/\c<=M/\M<O/\t.length=m/\ζu M<m/\t.length=P.length/\c<=N/\N<(↑P.length:Int)/\t.length=P.length/\ζu N<P.length/\aj (e rY (P.set (ζu N) (x,true)) 159 true))/\(ac=false->aj F);let ak:=(a v).same (a v)/\(d bF t).same (d bF t)/\w.same w/\C.same C/\W.same W/\S.same S/\Z.same Z/\ag.same ag/\(d bF t).same (d bF t)/\D.same D/\W.same W/\True;let al:=λ(u:List Int) (u_1:Int) ↦let a8:=u.set X u_1;let am:=e K a8 3 true;t.length=m/\c<=x_1.fst/\x_1.fst<O/\t.length=m/\A<m/\(ak/\q.same q/\F.same F/\H.same H/\am.same am/\True)/\((c<=r/\r<=x)/\a8.length=n/\iF t z I r a8=V)/\I<A;let an:=λ(u:Bool) ↦(!(posB U&&decide (jl p x_1.snd (vL U) Q<κ v+(1:Rat))))=u;let ao:=λ(u:Bool) ↦(!(decide (T<(↑Q:Int))&&decide (bj x_1.snd (ζu T) 0=c)))=u;let ap:=λ(u:Bool) ↦(!decide (cO p (bE x_1.snd k)≠c))=u;let aq:=λ(u:Bool) ↦decide (J<(↑n:Int))=u;(c<=x_1.fst/\x_1.fst<=x)/\Q=n/\iF t z A x_1.fst x_1.snd=V->(ah=true->t.length=m/\c<=x_1.fst/\x_1.fst<O/\t.length=m/\A<m/\c<=r/\r<o/\I<t.length/\(aq true->n=B/\c<=J/\J<(↑B:Int)/\n=B/\X<B/\t.length=m/\c<=x_1.fst/\x_1.fst<O/\t.length=m/\A<m/\(a7.snd=true->n=R.length/\c<=J/\J<(↑R.length:Int)/\n=R.length/\X<R.length/\al R k)/\(a7.snd=false->al x_1.snd (-1:Int)))/\(aq false->t.length=m/\c<=x_1.fst/\x_1.fst<O/\t.length=m/\A<m/\(ak/\q.same q/\F.same F/\H.same H/\ai.same ai/\True)/\((c<=r/\r<=x)/\Q=n/\iF t z I r x_1.snd=V)/\I<A))/\(ah=false->True/\(ab=true->n=B/\(wK p x_1.snd U/\(-9223372036854775808:Int)<=v/\v<=(9223372036854775807:Int))/\(an true->(f 13).same L)/\(an false->Y))/\(ab=false->(ae=true->n=B/\c<=T/\(ao true->(f 13).same L)/\(ao false->Y))/\(ae=false->(af=true->n=B/\Q<=1000000/\(ap true->(f 13).same L)/\(ap false->Y))/\(af=false->n=B/\True/\(true=true->(f 13).same L)/\(true=false->Y))))))/\(decide (x<y)=false->a9.same L)) (by kernel_rfl) ?_;simp only[vcs];have h160:=(dQ hc).2.1;have htn:1<=t.length/\t.length<=65536:=by
  unfold dV at ht;simp only[θ,decide_eq_true_eq] at ht;exact ht.1
 have hw:∀i,t.length=(eW t i).length:=λi=>tq.symm;have how:∀{x y:Nat},x=y->(γZ 1 x 2).same (γZ 1 y 2):=by rintro _ _ rfl;rfl
 have hof:∀{x y:Nat},x=y->(γZ 3 x 1).same (γZ 3 y 1):=by rintro _ _ rfl;rfl
 have hrow:∀{x y:List (Int×Bool)},x=y->(bq.row rY x 159 true).same (bq.row rY y 159 true):=by rintro _ _ rfl;rfl
 have hd:(rY.dflt:Int×Bool)=(0,false):=rfl;simp only[γn,hd];refine⟨by omega,by omega,by omega,by omega,⟨⟨how rfl,hrow rfl⟩,by omega,by omega,λj hj=>by omega⟩,?_⟩;rintro i ⟨i0,i1,hall⟩;refine⟨λhi=>?_,λhi=>?_⟩
 ·have hu:=LP ht (i:=i.toNat) (by omega);have hlu:=@tq t i.toNat;have hno:=LO ht (i:=i.toNat) (by omega);refine⟨i0,hi,by omega,by omega,by omega,by omega,by omega,⟨hof rfl,⟨i0,Int.le_refl _⟩,γE,?_⟩,?_⟩
  ·unfold i6;rw[show((i.toNat:Nat):Int)=i by omega]
  rintro⟨k,f⟩ ⟨⟨k0,k1⟩,hfl,hfx⟩;simp only at k0 k1 hfl hfx ⊢;refine⟨λhk=>?_,λhk=>?_⟩
  ·have q:=hu.2 k.toNat (by omega);have q1:=q.2 (by omega);have ho:=(LO ht (i:=(bj (eW t i.toNat) k.toNat (0,false)).1.toNat) (by omega)).1;have hs:=@Vm t (eW t i.toNat) hu k f hk (by omega);rw[hfx] at hs;unfold oN at hs;rw[hfl] at hs;have qq:=q.1;clear q;generalize bj (eW t i.toNat) k.toNat (0,false)=s at qq q1 ho hs ⊢;generalize (bj t s.1.toNat bF.dflt).2.1=o at ho hs ⊢;refine⟨hw _,k0,by omega,hw _,by omega,qq,by omega,by omega,λh=>?_,λh=>?_⟩
   ·rw[if_pos h] at hs;have l1:(f.set o.toNat (-1)).length=p.offers.length:=by rw[Ψ,hfl]
    refine⟨by omega,ho,by omega,by omega,by omega,hw _,k0,by omega,hw _,by omega,λh2=>?_,λh2=>?_⟩
    ·rw[if_pos h2] at hs;exact⟨by omega,ho,by omega,by omega,by omega,hw _,k0,by omega,hw _,by omega,⟨⟨qq,by omega⟩,by rw[Ψ];exact l1,by rw[List.set_set];exact hs.symm⟩,by omega⟩
    ·rw[if_neg (by rw[h2];exact Bool.false_ne_true)] at hs;refine⟨hw _,k0,?_,hw _,?_,⟨⟨qq,?_⟩,l1,hs.symm⟩,?_⟩<;>omega
   ·rw[if_neg h] at hs;refine⟨hw _,k0,?_,hw _,?_,⟨⟨qq,?_⟩,hfl,hs.symm⟩,?_⟩<;>omega
  ·have hk0:k=0:=by omega
   have hf:f=i6 p t i.toNat:=by rw[<-hfx,hk0];rfl
   have hbi:=hb i.toNat (by omega);rw[<-hf] at hbi;have no:rZ p v f (bj t i.toNat bF.dflt)=false->(13:Int)=if sa p v t=true then 0 else 13:=λh=>by
    have:sa p v t=false:=by
     unfold sa;rw[δI];intro ha;have:=τ.1 ha i.toNat (γC.2 (by omega));rw[<-hf,h] at this;cases this
    rw[this];rfl
   have next:rZ p v f (bj t i.toNat bF.dflt)=true->∀j:Nat,(j:Int)<i+1->rZ p v (i6 p t j) (bj t j bF.dflt)=true:=λh j hj=>by
    by_cases h2:(j:Int)<i;·exact hall j h2
    ·rw[show j=i.toNat by omega,<-hf];exact h
   have hup:eW t (i+1).toNat=if(bj t i.toNat bF.dflt).1=2 then((eW t i.toNat).set (bj t i.toNat bF.dflt).2.2.1.toNat (i,false)).set (bj t i.toNat bF.dflt).2.2.2.1.toNat (i,true) else eW t i.toNat:=by
    rw[show(i+1).toNat=i.toNat+1 by omega];conv=>lhs;unfold eW
    rw[show((i.toNat:Nat):Int)=i by omega]
   rw[hup];unfold rZ at no next;have hsl:∀(j:Nat) (z:Int×Bool),((eW t i.toNat).set j z).length=t.length:=λj z=>by rw[Ψ,hlu]
   generalize bj t i.toNat bF.dflt=n at no next hno hbi ⊢;refine⟨λh1=>⟨hfl.symm,⟨hbi h1,v0,v1⟩,λh=>no (by rw[if_pos h1];exact h),λh=>?_⟩,λh1=>⟨λh3=>⟨hfl.symm,hno.1,λh=>no (by rw[if_neg h1,if_pos h3];exact h),λh=>?_⟩,λh3=>⟨λh4=>⟨hfl.symm,by omega,λh=>no (by rw[if_neg h1,if_neg h3,if_pos h4];exact decide_eq_false h),λh=>?_⟩,λh4=>?_⟩⟩⟩;·exact⟨λh2=>by
      obtain⟨⟨a1,a2⟩,b1,b2⟩:=hno.2 h2;have s1:=hsl n.2.2.1.toNat (i,false);exact⟨hw _,by omega,by omega,hw _,by omega,s1.symm,by omega,by omega,s1.symm,by omega,by omega,hrow (if_pos h2).symm,⟨by omega,by omega,next (by rw[if_pos h1,h.1,decide_eq_true h.2];rfl)⟩,by omega⟩,λh2=>⟨by omega,hrow (if_neg h2).symm,⟨by omega,by omega,next (by rw[if_pos h1,h.1,decide_eq_true h.2];rfl)⟩,by omega⟩⟩
   ·exact⟨λh2=>by
      obtain⟨⟨a1,a2⟩,b1,b2⟩:=hno.2 h2;have s1:=hsl n.2.2.1.toNat (i,false);exact⟨hw _,by omega,by omega,hw _,by omega,s1.symm,by omega,by omega,s1.symm,by omega,by omega,hrow (if_pos h2).symm,⟨by omega,by omega,next (by rw[if_neg h1,if_pos h3,decide_eq_true h.1,decide_eq_true h.2];rfl)⟩,by omega⟩,λh2=>⟨by omega,hrow (if_neg h2).symm,⟨by omega,by omega,next (by rw[if_neg h1,if_pos h3,decide_eq_true h.1,decide_eq_true h.2];rfl)⟩,by omega⟩⟩
   ·exact⟨λh2=>by
      obtain⟨⟨a1,a2⟩,b1,b2⟩:=hno.2 h2;have s1:=hsl n.2.2.1.toNat (i,false);exact⟨hw _,by omega,by omega,hw _,by omega,s1.symm,by omega,by omega,s1.symm,by omega,by omega,hrow (if_pos h2).symm,⟨by omega,by omega,next (by rw[if_neg h1,if_neg h3,if_pos h4];exact decide_eq_true h)⟩,by omega⟩,λh2=>⟨by omega,hrow (if_neg h2).symm,⟨by omega,by omega,next (by rw[if_neg h1,if_neg h3,if_pos h4];exact decide_eq_true h)⟩,by omega⟩⟩
   ·have:=no (by rw[if_neg h1,if_neg h3,if_neg h4]);exact⟨hfl.symm,λ_=>this,λh=>by cases h⟩
 ·have:sa p v t=true:=τ.2 λj hj=>hall j (by have:=γC.1 hj;omega);rw[this];rfl
def mr (p:bn) (n:dj):Bool:=!(decide (n.1=1)&&decide ((n.2.2.2.2.length:Int)≠dh p))
def uT (p:bn) (v:Int) (t:List dj):Int:=
 if bz p≠0 then bz p else if t.length=0 then 1 else if 65536<t.length then 3 else if dV t=false then 2 else if t.all (mr p)=false then 2 else if sa p v t=true then 0 else 13
def wM (p:bn) (v:Int) (t:List dj):Prop:=(∀n∈t,∀x∈n.2.2.2.2,iZ x)/\t.length<=1000000000000/\(bz p=0->dV t=true->t.all (mr p)=true->LM p v t)
def LR:bM:=⟨39,bn×Int×List dj,.cons dO (.cons (eU .i64) (.one (dG bF))),λa=>wM a.1 a.2.1 a.2.2,λa=> .si .i64 (uT a.1 a.2.1 a.2.2)⟩
def af9 (p:bn) (v:Int) (t:List dj):Nat->cG
 |12=> .inv Int (λi=>⟨[(1,.si .i64 v),(2,.row bF t),(3,.ptr 0 0 20),(8,.si .i64 (dh p)),(30,.row bF t),(31,.si .i64 t.length),(32,.si .i64 i)],[.cells p.ss 27 20 false]⟩)
   (λs=>iS s 32) (λi=>0<=i/\i<=t.length/\∀j:Nat,j<i->mr p (bj t j bF.dflt)=true) (λi=>(t.length - i).toNat) λ_ _=> .look
 |_=> .look
theorem h473:Holds Tryz.prog LR:=by
 refine cH (L:=[pe,Lr,yv,LQ]) LR (λa=>af9 a.1 a.2.1 a.2.2) (by grind[h79,h480,h335,h481]) ?_;rintro⟨p,v,t⟩ ⟨hdg,htl,hok⟩;simp only at hdg htl hok;refine bQ (let a:=γd .i64;let b:=(0:Int);let c:=γB .i64;let d:=Ω;let o:=decide (bz p≠b);let f:=a (uT p v t);let h:=(↑t.length:Int);let q:=decide (h=b);let r:=decide ((65536:Int)<h);let i:=γQ 0 0 20;let l:=a (dh p);let e:=(↑t.length:Int);let m:=a e;let k:=bq.cells (bn.ss p) 27 20 false;True/\(o=true->(a (bz p)).same f)/\(o=false->(q=true->(c 1).same f)/\(q=false->(r=true->(c 3).same f)/\(r=false->(∀(n:dj),n∈t->∀(x:bL),x∈n.snd.snd.snd.snd->iZ x)/\((!dV t)=true->(c 2).same f)/\((!dV t)=false->True/\((((a v).same (a v)/\(d bF t).same (d bF t)/\i.same i/\(a (if bz p=b then dh p else b)).same l/\(d bF t).same (d bF t)/\(a h).same m/\(c 0).same (a 0)/\True)/\k.same k/\True)/\b<=b/\b<=e/\∀(j:Nat),(↑j:Int)<b->mr p (bj t j bF.dflt)=true)/\∀(x:Int),let g:=x+(1:Int);let s:=a g;let w:=bj t x.toNat bF.dflt;let y:=cu .i64 g/\(((a v).same (a v)/\(d bF t).same (d bF t)/\i.same i/\l.same l/\(d bF t).same (d bF t)/\m.same m/\s.same s/\True)/\k.same k/\True)/\(b<=g/\g<=e/\∀(j:Nat),(↑j:Int)<g->mr p (bj t j bF.dflt)=true)/\(e - g).toNat<(e - x).toNat;let z:=λ(u:Bool) ↦decide ((↑(γc w.snd.snd.snd.snd):Int)≠dh p)=u;let A:=λ(u:Bool) ↦decide (w.fst=(1:Int))=u;(b<=x/\x<=e/\∀(j:Nat),(↑j:Int)<x->mr p (bj t j bF.dflt)=true)->(decide (x<e)=true->b<=x/\x<h/\x.toNat<t.length/\(A true->(z true->(c 2).same f)/\(z false->y))/\(A false->y))/\(decide (x<e)=false->LM p v t/\(a (if sa p v t=true then b else(13:Int))).same f)))))) (by kernel_rfl) ?_;simp only[vcs];unfold uT;refine⟨λh=>by rw[if_pos h],λh=>?_⟩;rw[if_neg h];have hc:bz p=0:=γf.1 h;refine⟨λh1=>by omega,λh1=>?_⟩;rw[if_neg (show ¬t.length=0 by omega)];refine⟨λh2=>by omega,λh2=>?_⟩;rw[if_neg (show ¬65536<t.length by omega)];refine⟨hdg,λh3=>by rw[if_pos h3],λh3=>?_⟩;have hnt:¬dV t=false:=by simp_all
 rw[if_neg hnt,if_pos hc];refine⟨⟨rfl,by omega,by omega,λj hj=>by omega⟩,?_⟩;rintro i ⟨i0,i1,hall⟩;refine⟨λhi=>?_,λhi=>?_⟩
 ·have hm:=dn (d:=bF.dflt) (show i.toNat<t.length by omega);have next:mr p (bj t i.toNat bF.dflt)=true->∀j:Nat,(j:Int)<i+1->mr p (bj t j bF.dflt)=true:=λhr j hj=>by
   grind
  have no:mr p (bj t i.toNat bF.dflt)=false->t.all (mr p)=false:=λhr=>by
   grind
  refine⟨i0,hi,by omega,λh4=>⟨λh5=>?_,λh5=>⟨by omega,⟨by omega,by omega,next ?_⟩,by omega⟩⟩,λh4=>⟨by omega,⟨by omega,by omega,next ?_⟩,by omega⟩⟩;·simp_all[mr]
  all_goals grind[mr]
 ·have ha:t.all (mr p)=true:=τ.2 λn hn=>by
   obtain⟨j,hj,rfl⟩:=γH hn;grind[cT]
  simp_all
@[reducible] def sRs:bp:=.pair (.bB (.i .i64)) (.pair (.i .i64) (.bB bF))
def uU (p:bn) (r:List Int×Int×List dj):Int:=if cO p r.1≠0 then cO p r.1 else if ek p r.1≠r.2.1 then 13 else uT p r.2.1 r.2.2
def LS:bM:=⟨22,bn×List Int×Int×List dj,.cons dO (.one (ei sRs)),λa=>a.2.1.length<=1000000000000/\(cO a.1 a.2.1=0->ek a.1 a.2.1=a.2.2.1->wM a.1 a.2.2.1 a.2.2.2),λa=> .si .i64 (uU a.1 a.2)⟩
theorem h474:Holds Tryz.prog LS:=by
 refine cH (L:=[xW,E2,LR]) LS lk (by grind[h100,h437,h473]) ?_;rintro⟨p,c,w,t⟩ ⟨g,a⟩;simp only at g a;refine bQ (let a:=γd .i64;let d:=decide (cO p c≠(0:Int));let b:=a (uU p (c,w,t));let e:=decide (ek p c≠w);c.length<=9223372036854775807/\(d=true->(a (cO p c)).same b)/\(d=false->(bz p=(0:Int)/\c.length<=9223372036854775807)/\(e=true->(γB .i64 13).same b)/\(e=false->wM p w t/\(a (uT p w t)).same b))) (by kernel_rfl) ?_;simp only[vcs];unfold uU;refine⟨by omega,λh=>by rw[if_pos h],λh=>?_⟩;rw[if_neg h];have f:cO p c=0:=γf.1 h;have i:bz p=0:=by
  unfold cO at f;omega
 grind
theorem agb {p:bn} {f:List Int} (h:j3 p f=true):eZ p f:=by
 unfold j3 at h;rw[θ,decide_eq_true_eq] at h;obtain⟨a,b⟩:=h;unfold jf at a;split at a;·omega
 ·rename_i d;split at a;·cases a
  ·rename_i c;exact⟨γf.1 d,γf.1 c,b⟩
theorem Vn {p:bn} {f:List Int} (h:j3 p f=true):Sz 1000002 (jg p f):=by
 have a:=agb h;have c:=@Bo p a.1 f f.length a.2.1;rw[φ] at c;have d:Sz 1 ((gC p f:Int):Rat):=by
  unfold Sz;rw[Rat.num_intCast,Rat.den_intCast];omega
 have b:Sz 1000000 (dx p f).value:=((EG a).wu (oH a).1).2.2.2;exact(AK d b).mono (by omega)
theorem agc {n:Nat} (hD:ef Tryz.prog (E5 n)):ef Tryz.prog (wJ (n+1)):=by
 refine aaf (L:=[oz,yk,KT,K0]) (W:=[KY,KZ,Br,E5 n]) (wJ (n+1)) (fG 72) lk (by simpa using⟨h390w,h446,h439,hD⟩) (by simpa using⟨h94,h97,h445,h447⟩) ?_;rintro⟨⟨p,ch,val,found,en,k1,k2,most,err,prf,fx⟩,a⟩ ⟨hok,ha,hn⟩;simp only at hok ha hn;have e1:k1=prf.length:=hok.k1;have e2:k2=fx.length:=hok.k2;subst e1;subst e2;have hf:eL p fx:=hok.f;have h160:=(dQ hf.c).2.1;have hfl:fx.length=p.offers.length:=hf.l;have hfe:=hf.e;have hfo:=hf.j3;have hv0:0<=val:=hok.v0;have hv1:val<=9223372036854775806:=hok.v1;have hm0:1<=most:=hok.m0;have hm1:most<=65536:=hok.m1;have hpl:prf.length<=65536:=hok.l;rcases en with _|m
 ·refine bQ (let b:=γd .i64;let c:=(0:Int);let d:=(1:Int);let e:=bq.cells;let f:=SV.bI;let g:=bq.row;let h:=cu .i64;let j:=(-9223372036854775808:Int);let k:=(-1:Int);let l:=(9223372036854775807:Int);let m:=(2:Int);let o:=Ω;let q:=γA;let r:=γZ;let v:=vL (kx p fx);let x:=b p.supply.a0;let y:=b p.supply.a1;let z:=b p.supply.a2;let A:=b p.supply.a3;let B:=b p.supply.a4;let C:=b p.supply.a5;let D:=b p.opn.a0;let E:=b p.opn.a1;let F:=b p.opn.a2;let G:=b p.opn.a3;let H:=b p.opn.a4;let I:=b p.opn.a5;let J:=b p.cls.a0;let K:=b p.cls.a1;let L:=b p.cls.a2;let M:=b p.cls.a3;let N:=b p.cls.a4;let O:=b p.cls.a5;let U:=bp.i .i64;let P:=o U p.classes;let Q:=o bp.off p.offers;let ag:=o U ch;let ah:=b val;let R:=SV.fn (Fn.func 70) [] [];let ai:=r 1 prf.length 5;let V:=r 2 fx.length 1;let W:=b most;let aw:=[V,W,γB .i64 12];let ax:=dc.mk ch val found prf err;let a7:=dF p (cz none) most (nF fx) ax a fx;let X:=e [x,y,z,A,B,C,D,E,F,G,H,I,J,K,L,M,N,O,P,Q,o U a7.ch,b a7.val,q a7.found,R,r 1 a7.prf.length 5,V,W,b a7.err] 126 28 false;let an:=g bF prf 108 true;let Y:=g bF a7.prf 108 true;let t:=g U fx 3 true;let Z:=(↑prf.length:Int);let ay:=decide (most<Z+m);let az:=prf.length+2;let a8:=Z+d;let ao:=(c,c,c,[]);let aj:=[(c,ao),(c,ao)];let z53:Nat:=(prf++aj).length;let w:=(jP v).getD c;let ap:=(prf++aj).set a.toNat (m,w,Z,a8,[]);let a9:=w.toNat;let ac:=fx.set a9 d;let S:=dF p (cz none) most (nF ac) (dc.mk ch val found ap err) a8 ac;let ad:=fx.set a9 k;let aa:=dF p (cz none) most (nF ad) S Z ad;let ak:=((ku p fx).fst,(ku p fx).snd.fst,(ku p fx).snd.snd);let al:=val+d;let aq:=bu (κ al);let aA:=(aq.fst,aq.snd.fst,aq.snd.snd);let aB:=iR (bV ak) (bV aA);let aC:=decide (aB<c);let aD:=(d,c,c,c,qT p fx);let s:=dX (cz none) ax (Alloc.mk (eI v) (cM (List.map (oI p) (eI v))));let z69:Nat:=(s.prf++aj).length;let ae:=s.prf.length;let am:=s.val+d;let ar:=bu (κ am);let ab:=(↑ae:Int);let aE:=decide (err≠c);let aF:=decide (jf p fx≠c);let a6:=s.prf.length;let af:=ab+d;let au:=(s.prf++aj).set a.toNat (m,w,ab,af,[]);let T:=dF p (cz none) most (nF ac) (dc.mk s.ch s.val s.found au s.err) af ac;let aG:=dF p (cz none) most (nF ad) T ab ad;let aT:=let aH:=(f []).same (f [])/\(e (x::y::z::A::B::C::D::E::F::G::H::I::J::K::L::M::N::O::P::Q::ag::ah::q found::R::ai::aw) 126 28 false).same X/\an.same Y/\t.same t/\True;pA (kx p fx)/\((!(jP v).isSome)=true->aH)/\((!(jP v).isSome)=false->h (Z+m)/\(ay=true->aH)/\(ay=false->2=2/\prf.length=prf.length/\az*56<=140737488355328/\az<=1000000000000/\h a8/\z53=z53/\c<=a/\a<(↑z53:Int)/\z53=z53/\a.toNat<z53/\h a8/\(ft (dJ.mk p ch val found none z53 fx.length most err ap fx)/\(c<=a8/\a8<(↑ap.length:Int))/\(c<=w/\w<(↑fx.length:Int))/\bj fx a9 c=c/\(d=d\/d=k)/\nF ac<n)/\(ft (dJ.mk p S.ch S.val S.found none S.prf.length fx.length most S.err S.prf fx)/\(c<=Z/\Z<(↑S.prf.length:Int))/\(c<=w/\w<(↑fx.length:Int))/\bj fx a9 c=c/\(k=d\/k=k)/\nF ad<n)/\(f []).same (f [])/\(e [x,y,z,A,B,C,D,E,F,G,H,I,J,K,L,M,N,O,P,Q,o U aa.ch,b aa.val,q aa.found,R,r 1 aa.prf.length 5,V,W,b aa.err] 126 28 false).same X/\(g bF aa.prf 108 true).same Y/\t.same t/\True));let aI:=(cE ak/\cE aA)/\(aC=true->prf.length=prf.length/\c<=a/\a<(↑prf.length:Int)/\prf.length=prf.length/\a.toNat<prf.length/\(f []).same (f [])/\(e [x,y,z,A,B,C,D,E,F,G,H,I,J,K,L,M,N,O,P,Q,ag,ah,q found,R,ai,V,W,b err] 126 28 false).same X/\(g bF (prf.set a.toNat aD) 108 true).same Y/\t.same t/\True)/\(aC=false->aT);let aJ:=z69=z69;let aK:=(f []).same (f [])/\(e (x::y::z::A::B::C::D::E::F::G::H::I::J::K::L::M::N::O::P::Q::o U s.ch::b s.val::q s.found::R::r 1 ae 5::aw) 126 28 false).same X/\(g bF s.prf 108 true).same Y/\t.same t/\True;let aL:=(f []).same (f [])/\(e [x,y,z,A,B,C,D,E,F,G,H,I,J,K,L,M,N,O,P,Q,ag,ah,q found,R,ai,V,W,b err] 126 28 false).same X/\an.same Y/\t.same t/\True;let aM:=λ(u:dc) (u_1:bq) ↦(f []).same (f [])/\(e [x,y,z,A,B,C,D,E,F,G,H,I,J,K,L,M,N,O,P,Q,o U u.ch,b u.val,q u.found,R,r 1 u.prf.length 5,V,W,b u.err] 126 28 false).same X/\u_1.same Y/\t.same t/\True;let aN:=λ(u:dJ) (u_1:Int) (u_2:Nat) (u_3:Int) ↦ft u/\(c<=u_1/\u_1<(↑u_2:Int))/\(c<=w/\w<(↑fx.length:Int))/\bj fx a9 c=c/\(u_3=d\/u_3=k)/\nF (fx.set a9 u_3)<n;let aO:=λ(u:Int) (u_1:bq) ↦(f []).same (f [])/\(e [x,y,z,A,B,C,D,E,F,G,H,I,J,K,L,M,N,O,P,Q,ag,ah,q found,R,ai,V,W,b u] 126 28 false).same X/\u_1.same Y/\t.same t/\True;let aP:=λ(u:Bool) ↦decide (iR (bV ak) (bV (ar.fst,ar.snd.fst,ar.snd.snd))<c)=u;let aQ:=λ(u:Bool) ↦decide (c<=aB)=u;let aR:=λ(u:Int) ↦let av:=bu (κ (u+d));cE ak/\cE (av.fst,av.snd.fst,av.snd.snd);let aS:=λ(u:Bool) ↦decide (most<ab+m)=u;(aE=true->aL)/\(aE=false->(found=true->aL)/\(found=false->(fx.length=fx.length/\fx.length<=1000000000000)/\(aF=true->aO (jf p fx) an)/\(aF=false->((!j3 p fx)=true->prf.length=prf.length/\c<=a/\a<(↑prf.length:Int)/\prf.length=prf.length/\a.toNat<prf.length/\aO err (g bF (prf.set a.toNat ((3:Int),ao)) 108 true))/\((!j3 p fx)=false->h al/\(j<=al/\al<=l)/\aR val/\(aQ true->pA (kx p fx)/\(mT v=true->(ft (dJ.mk p ch val found none prf.length fx.length most err prf fx)/\pA (kx p fx)/\(kx p fx).length=p.offers.length)/\prf.length=prf.length/\h am/\(j<=am/\am<=l)/\aR s.val/\(aP true->ae=a6/\c<=a/\a<(↑a6:Int)/\ae=a6/\a.toNat<a6/\aM s (g bF (s.prf.set a.toNat aD) 108 true))/\(aP false->pA (kx p fx)/\((!(jP v).isSome)=true->aK)/\((!(jP v).isSome)=false->h (ab+m)/\(aS true->aK)/\(aS false->2=2/\ae=a6/\(a6+2)*56<=140737488355328/\a6+2<=1000000000000/\h af/\aJ/\c<=a/\a<(↑z69:Int)/\aJ/\a.toNat<z69/\h af/\aN (dJ.mk p s.ch s.val s.found none z69 fx.length most s.err au fx) af au.length d/\aN (dJ.mk p T.ch T.val T.found none T.prf.length fx.length most T.err T.prf fx) ab T.prf.length k/\aM aG (g bF aG.prf 108 true)))))/\(mT v=false->aI))/\(aQ false->aI)))))) (by kernel_rfl) ?_;simp only[vcs];refine⟨λh=>by rw[By hf (.inl h)];exact⟨rfl,rfl⟩,λh0=>⟨λh=>by rw[By hf (.inr h)];exact⟨rfl,rfl⟩,λh1=>⟨by omega,λh=>absurd hfe h,λ_=>⟨λh=>?_,λhb=>?_⟩⟩⟩⟩
  ·have hs:¬((⟨ch,val,found,prf,err⟩:dc).err≠0\/(⟨ch,val,found,prf,err⟩:dc).found=true):=by
    rintro(h|h);·exact h0 h
    ·rw[show found=true from h] at h1;cases h1
   rw[UP hf hs (by rw[<-hfo];exact h)];refine⟨ha.1,ha.2,by omega,?_,rfl⟩;simp only[Ψ];rfl
  ·have hs:¬((⟨ch,val,found,prf,err⟩:dc).err≠0\/(⟨ch,val,found,prf,err⟩:dc).found=true):=by
    rintro(h|h);·exact h0 h
    ·rw[show found=true from h] at h1;cases h1
   have hbf:hJ p fx=true:=by rw[<-hfo];exact hb
   have hfix:=hf.ok hbf;have eB:ku p fx=bu (jg p fx):=by unfold ku;rw[if_pos hb]
   have eS:kx p fx=fL (dD p fx):=by unfold kx dD;rw[if_pos hb]
   have eP:qT p fx=fL (iD p fx):=by unfold qT;rw[if_pos hb]
   have hsl:(dD p fx).length=fx.length:=rP;have oS:pA (fL (dD p fx)):=⟨dD p fx,rfl,by rw[fF];omega,λq hq=>by
    obtain⟨i,hi,rfl⟩:=γH hq;have:=(ET hfix hf.r (i:=i) (by omega)).2.2;rwa [cT hi] at this⟩;have fB:cE (bu (jg p fx)):=dN (Vn hb) (by omega);have fI:∀v:Int,0<=v->v<=9223372036854775807->cE (bu (κ v)):=λv h0 h1=>dN (rV (by omega) h1) (by omega);have hcv:∀v:Int,iR (jg p fx) (κ v)<0↔jg p fx<((v:Int):Rat):=λv=>tg;simp only[eB,eS,eP,kM,jM,eD];have hcm:eI (dD p fx)=(pz p fx).chosen:=rfl;refine⟨by omega,by omega,⟨fB,fI _ (by omega) (by omega)⟩,λhge=>⟨oS,λhi=>?_,λhi=>?_⟩,λhlt=>?_⟩
   ·have hO:dq p (cz none) ⟨ch,val,found,prf,err⟩ fx=dX (cz none) ⟨ch,val,found,prf,err⟩ ⟨eI (dD p fx),cM ((eI (dD p fx)).map (oI p))⟩:=by
     unfold dq;rw[if_pos ⟨εY.1 λh=>absurd ((hcv (val+1)).2 h) (Int.not_lt.2 hge),hi⟩];rfl
    have hok':ft (dJ.upd ⟨p,ch,val,found,none,prf.length,fx.length,most,err,prf,fx⟩ (dq p (cz none) ⟨ch,val,found,prf,err⟩ fx)):=hok.UQ;rw[hO] at hok';obtain⟨e1,e2,_⟩:=@EX (cz none) ⟨ch,val,found,prf,err⟩ ⟨eI (dD p fx),cM ((eI (dD p fx)).map (oI p))⟩;generalize dX (cz none) ⟨ch,val,found,prf,err⟩ ⟨eI (dD p fx),cM ((eI (dD p fx)).map (oI p))⟩=O at*;obtain⟨ch',val',found',prf',tt⟩:=O;have e1:prf=prf':=Eq.symm e1;have e2:err=tt:=Eq.symm e2;subst e1;subst e2;have w0:0<=val':=hok'.v0;have w1:val'<=9223372036854775806:=hok'.v1;dsimp only;refine⟨⟨hok,oS,by rw[fF];omega⟩,by omega,by omega,⟨fB,fI _ (by omega) (by omega)⟩,?_⟩;refine⟨λh=>?_,λh=>⟨oS,λhk=>?_,λhk=>⟨by omega,λhm=>?_,λhm=>?_⟩⟩⟩
    ·rw[yU hf hs hbf hO ((hcv _).1 h)];refine⟨ha.1,ha.2,by omega,?_,rfl⟩;simp only[Ψ];rfl
    ·rw[pZ hf hs hbf hO (λh'=>h ((hcv _).2 h')) (.inl (γ8.1 hk |>γP.1))];exact⟨rfl,rfl⟩
    ·rw[pZ hf hs hbf hO (λh'=>h ((hcv _).2 h')) (.inr hm)];exact⟨rfl,rfl⟩
    ·obtain⟨k,hk'⟩:=γp.1 hk;rw[yV hf hs hbf hO (λh'=>h ((hcv _).2 h')) hk' hm];simp only[hk',γ3];obtain⟨hk1,hk2,hk3⟩:=td hk';rw[hsl] at hk1;have hk0:bj fx k.toNat 0=0:=tc hfix hf.r (by omega) hk2 hk3;have n1:=mq hk1 hk0 (d:=1) (by omega);have n2:=mq hk1 hk0 (d:= -1) (by omega);have hl2:((prf++[zN,zN]).set a.toNat (j4 k prf.length)).length=prf.length+2:=by rw[Ψ,γh];rfl
     have hl1:(prf++[zN,zN]).length=prf.length+2:=by rw[γh];rfl
     have o1:=ft.spl (x:=⟨p,ch',val',found',none,prf.length,fx.length,most,tt,prf,fx⟩) hok' (k:=(prf++[zN,zN]).length) (l:=(prf++[zN,zN]).set a.toNat (j4 k prf.length)) hm (by rw[hl1,hl2]) hl2;have o2:=o1.vis (f:=fx.set k.toNat 1) (hf.set (by omega)) (n:=nF (fx.set k.toNat 1)) (a:=(prf.length:Int)+1);have o3:=(@rQ p (cz none) most (nF (fx.set k.toNat 1)) (gG ⟨ch',val',found',prf,tt⟩ a k) ((prf.length:Int)+1) (fx.set k.toNat 1) (hf.set (by omega))).1;have o4:prf.length+2<=(dF p (cz none) most (nF (fx.set k.toNat 1)) (gG ⟨ch',val',found',prf,tt⟩ a k) ((prf.length:Int)+1) (fx.set k.toNat 1)).prf.length:=by rw[<-hl2];exact o3
     have q1:a<((prf++[zN,zN]).length:Int):=by omega
     have q3:(prf.length:Int)+1<(((prf++[zN,zN]).set a.toNat (j4 k prf.length)).length:Int):=by rw[hl2];omega
     have q2:a.toNat<(prf++[zN,zN]).length:=by omega
     exact⟨by omega,by omega,by omega,ha.1,q1,q2,by omega,⟨o1,⟨by omega,q3⟩,hk1,hk0,.inl trivial,by omega⟩,⟨o2,⟨by omega,εS.2 (γj (by omega) o4)⟩,hk1,hk0,.inr trivial,by omega⟩,rfl,rfl⟩
   ·have hO:dq p (cz none) ⟨ch,val,found,prf,err⟩ fx=⟨ch,val,found,prf,err⟩:=by
     unfold dq;rw[if_neg (λh=>by rw[h.2] at hi;cases hi)]
    refine⟨⟨fB,fI _ (by omega) (by omega)⟩,?_⟩;refine⟨λh=>?_,λh=>⟨oS,λhk=>?_,λhk=>⟨by omega,λhm=>?_,λhm=>?_⟩⟩⟩
    ·rw[yU hf hs hbf hO ((hcv _).1 h)];refine⟨ha.1,ha.2,by omega,?_,rfl⟩;simp only[Ψ];rfl
    ·rw[pZ hf hs hbf hO (λh'=>h ((hcv _).2 h')) (.inl (γ8.1 hk |>γP.1))];exact⟨rfl,rfl⟩
    ·rw[pZ hf hs hbf hO (λh'=>h ((hcv _).2 h')) (.inr hm)];exact⟨rfl,rfl⟩
    ·obtain⟨k,hk'⟩:=γp.1 hk;rw[yV hf hs hbf hO (λh'=>h ((hcv _).2 h')) hk' hm];simp only[hk',γ3];obtain⟨hk1,hk2,hk3⟩:=td hk';rw[hsl] at hk1;have hk0:bj fx k.toNat 0=0:=tc hfix hf.r (by omega) hk2 hk3;have n1:=mq hk1 hk0 (d:=1) (by omega);have n2:=mq hk1 hk0 (d:= -1) (by omega);have hl2:((prf++[zN,zN]).set a.toNat (j4 k prf.length)).length=prf.length+2:=by rw[Ψ,γh];rfl
     have hl1:(prf++[zN,zN]).length=prf.length+2:=by rw[γh];rfl
     have o1:=ft.spl hok (k:=(prf++[zN,zN]).length) (l:=(prf++[zN,zN]).set a.toNat (j4 k prf.length)) hm (by rw[hl1,hl2]) hl2;have o2:=o1.vis (f:=fx.set k.toNat 1) (hf.set (by omega)) (n:=nF (fx.set k.toNat 1)) (a:=(prf.length:Int)+1);have o3:=(@rQ p (cz none) most (nF (fx.set k.toNat 1)) (gG ⟨ch,val,found,prf,err⟩ a k) ((prf.length:Int)+1) (fx.set k.toNat 1) (hf.set (by omega))).1;have o4:prf.length+2<=(dF p (cz none) most (nF (fx.set k.toNat 1)) (gG ⟨ch,val,found,prf,err⟩ a k) ((prf.length:Int)+1) (fx.set k.toNat 1)).prf.length:=by rw[<-hl2];exact o3
     have q1:a<((prf++[zN,zN]).length:Int):=by omega
     have q3:(prf.length:Int)+1<(((prf++[zN,zN]).set a.toNat (j4 k prf.length)).length:Int):=by rw[hl2];omega
     have q2:a.toNat<(prf++[zN,zN]).length:=by omega
     exact⟨by omega,by omega,by omega,ha.1,q1,q2,by omega,⟨o1,⟨by omega,q3⟩,hk1,hk0,.inl trivial,by omega⟩,⟨o2,⟨by omega,εS.2 (γj (by omega) o4)⟩,hk1,hk0,.inr trivial,by omega⟩,rfl,rfl⟩
   ·have hO:dq p (cz none) ⟨ch,val,found,prf,err⟩ fx=⟨ch,val,found,prf,err⟩:=by
     unfold dq;rw[if_neg (λh=>εY.2 h.1 ((hcv (val+1)).1 (Int.not_le.1 hlt)))]
    refine⟨⟨fB,fI _ (by omega) (by omega)⟩,?_⟩;refine⟨λh=>?_,λh=>⟨oS,λhk=>?_,λhk=>⟨by omega,λhm=>?_,λhm=>?_⟩⟩⟩
    ·rw[yU hf hs hbf hO ((hcv _).1 h)];refine⟨ha.1,ha.2,by omega,?_,rfl⟩;simp only[Ψ];rfl
    ·rw[pZ hf hs hbf hO (λh'=>h ((hcv _).2 h')) (.inl (γ8.1 hk |>γP.1))];exact⟨rfl,rfl⟩
    ·rw[pZ hf hs hbf hO (λh'=>h ((hcv _).2 h')) (.inr hm)];exact⟨rfl,rfl⟩
    ·obtain⟨k,hk'⟩:=γp.1 hk;rw[yV hf hs hbf hO (λh'=>h ((hcv _).2 h')) hk' hm];simp only[hk',γ3];obtain⟨hk1,hk2,hk3⟩:=td hk';rw[hsl] at hk1;have hk0:bj fx k.toNat 0=0:=tc hfix hf.r (by omega) hk2 hk3;have n1:=mq hk1 hk0 (d:=1) (by omega);have n2:=mq hk1 hk0 (d:= -1) (by omega);have hl2:((prf++[zN,zN]).set a.toNat (j4 k prf.length)).length=prf.length+2:=by rw[Ψ,γh];rfl
     have hl1:(prf++[zN,zN]).length=prf.length+2:=by rw[γh];rfl
     have o1:=ft.spl hok (k:=(prf++[zN,zN]).length) (l:=(prf++[zN,zN]).set a.toNat (j4 k prf.length)) hm (by rw[hl1,hl2]) hl2;have o2:=o1.vis (f:=fx.set k.toNat 1) (hf.set (by omega)) (n:=nF (fx.set k.toNat 1)) (a:=(prf.length:Int)+1);have o3:=(@rQ p (cz none) most (nF (fx.set k.toNat 1)) (gG ⟨ch,val,found,prf,err⟩ a k) ((prf.length:Int)+1) (fx.set k.toNat 1) (hf.set (by omega))).1;have o4:prf.length+2<=(dF p (cz none) most (nF (fx.set k.toNat 1)) (gG ⟨ch,val,found,prf,err⟩ a k) ((prf.length:Int)+1) (fx.set k.toNat 1)).prf.length:=by rw[<-hl2];exact o3
     have q1:a<((prf++[zN,zN]).length:Int):=by omega
     have q3:(prf.length:Int)+1<(((prf++[zN,zN]).set a.toNat (j4 k prf.length)).length:Int):=by rw[hl2];omega
     have q2:a.toNat<(prf++[zN,zN]).length:=by omega
     exact⟨by omega,by omega,by omega,ha.1,q1,q2,by omega,⟨o1,⟨by omega,q3⟩,hk1,hk0,.inl trivial,by omega⟩,⟨o2,⟨by omega,εS.2 (γj (by omega) o4)⟩,hk1,hk0,.inr trivial,by omega⟩,rfl,rfl⟩
 ·refine bQ (let b:=γd .i64;let c:=(0:Int);let d:=bq.cells;let e:=(1:Int);let f:=SV.bI;let g:=bq.row;let h:=cu .i64;let j:=(-9223372036854775808:Int);let k:=(-1:Int);let l:=(9223372036854775807:Int);let o:=(2:Int);let q:=Ω;let r:=γA;let s:=γZ;let ai:=((ku p fx).fst,(ku p fx).snd.fst,(ku p fx).snd.snd);let aj:=val+e;let ap:=bu (κ aj);let ay:=(ap.fst,ap.snd.fst,ap.snd.snd);let az:=iR (bV ai) (bV ay);let aA:=decide (az<c);let z:=b p.supply.a0;let A:=b p.supply.a1;let B:=b p.supply.a2;let C:=b p.supply.a3;let D:=b p.supply.a4;let E:=b p.supply.a5;let F:=b p.opn.a0;let G:=b p.opn.a1;let H:=b p.opn.a2;let I:=b p.opn.a3;let J:=b p.opn.a4;let K:=b p.opn.a5;let L:=b p.cls.a0;let M:=b p.cls.a1;let N:=b p.cls.a2;let O:=b p.cls.a3;let P:=b p.cls.a4;let Q:=b p.cls.a5;let W:=bp.i .i64;let R:=q W p.classes;let S:=q bp.off p.offers;let ak:=q W ch;let al:=b val;let T:=SV.fn (Fn.func 116) [] [γQ 1 0 1];let am:=s 2 prf.length 5;let X:=s 3 fx.length 1;let Y:=b most;let aB:=dc.mk ch val found prf err;let a9:=dF p (cz (some m)) most (nF fx) aB a fx;let Z:=d [z,A,B,C,D,E,F,G,H,I,J,K,L,M,N,O,P,Q,R,S,q W a9.ch,b a9.val,r a9.found,T,s 2 a9.prf.length 5,X,Y,b a9.err] 126 28 false;let v:=d [b m] 2 1 false;let aC:=(e,c,c,c,qT p fx);let a6:=g bF a9.prf 108 true;let w:=g W fx 3 true;let x:=vL (kx p fx);let aD:=[X,Y,γB .i64 12];let aq:=g bF prf 108 true;let a7:=(↑prf.length:Int);let aE:=decide (most<a7+o);let aF:=prf.length+2;let aa:=a7+e;let ar:=(c,c,c,[]);let an:=[(c,ar),(c,ar)];let z61:Nat:=(prf++an).length;let y:=(jP x).getD c;let au:=(prf++an).set a.toNat (o,y,a7,aa,[]);let ab:=y.toNat;let ae:=fx.set ab e;let U:=dF p (cz (some m)) most (nF ae) (dc.mk ch val found au err) aa ae;let af:=fx.set ab k;let ac:=dF p (cz (some m)) most (nF af) U a7 af;let t:=dX (cz (some m)) aB (Alloc.mk (eI x) (cM (List.map (oI p) (eI x))));let ag:=t.prf.length;let z71:Nat:=(t.prf++an).length;let ao:=t.val+e;let av:=bu (κ ao);let ad:=(↑ag:Int);let aG:=decide (err≠c);let aH:=decide (jf p fx≠c);let a8:=t.prf.length;let ah:=ad+e;let aw:=(t.prf++an).set a.toNat (o,y,ad,ah,[]);let V:=dF p (cz (some m)) most (nF ae) (dc.mk t.ch t.val t.found aw t.err) ah ae;let aI:=dF p (cz (some m)) most (nF af) V ad af;let aV:=let aJ:=(f []).same (f [])/\(d (z::A::B::C::D::E::F::G::H::I::J::K::L::M::N::O::P::Q::R::S::ak::al::r found::T::am::aD) 126 28 false).same Z/\v.same v/\aq.same a6/\w.same w/\True;(aA=true->prf.length=prf.length/\c<=a/\a<(↑prf.length:Int)/\prf.length=prf.length/\a.toNat<prf.length/\(f []).same (f [])/\(d [z,A,B,C,D,E,F,G,H,I,J,K,L,M,N,O,P,Q,R,S,ak,al,r found,T,am,X,Y,b err] 126 28 false).same Z/\v.same v/\(g bF (prf.set a.toNat aC) 108 true).same a6/\w.same w/\True)/\(aA=false->pA (kx p fx)/\((!(jP x).isSome)=true->aJ)/\((!(jP x).isSome)=false->h (a7+o)/\(aE=true->aJ)/\(aE=false->2=2/\prf.length=prf.length/\aF*56<=140737488355328/\aF<=1000000000000/\h aa/\z61=z61/\c<=a/\a<(↑z61:Int)/\z61=z61/\a.toNat<z61/\h aa/\(ft (dJ.mk p ch val found (some m) z61 fx.length most err au fx)/\(c<=aa/\aa<(↑au.length:Int))/\(c<=y/\y<(↑fx.length:Int))/\bj fx ab c=c/\(e=e\/e=k)/\nF ae<n)/\(ft (dJ.mk p U.ch U.val U.found (some m) U.prf.length fx.length most U.err U.prf fx)/\(c<=a7/\a7<(↑U.prf.length:Int))/\(c<=y/\y<(↑fx.length:Int))/\bj fx ab c=c/\(k=e\/k=k)/\nF af<n)/\(f []).same (f [])/\(d [z,A,B,C,D,E,F,G,H,I,J,K,L,M,N,O,P,Q,R,S,q W ac.ch,b ac.val,r ac.found,T,s 2 ac.prf.length 5,X,Y,b ac.err] 126 28 false).same Z/\v.same v/\(g bF ac.prf 108 true).same a6/\w.same w/\True)));let aK:=(f []).same (f [])/\(d (z::A::B::C::D::E::F::G::H::I::J::K::L::M::N::O::P::Q::R::S::q W t.ch::b t.val::r t.found::T::s 2 ag 5::aD) 126 28 false).same Z/\v.same v/\(g bF t.prf 108 true).same a6/\w.same w/\True;let aL:=z71=z71;let aM:=(f []).same (f [])/\(d [z,A,B,C,D,E,F,G,H,I,J,K,L,M,N,O,P,Q,R,S,ak,al,r found,T,am,X,Y,b err] 126 28 false).same Z/\v.same v/\aq.same a6/\w.same w/\True;let aN:=(cE ai/\cE ay)/\aV;let aO:=λ(u:dc) (u_1:bq) ↦(f []).same (f [])/\(d [z,A,B,C,D,E,F,G,H,I,J,K,L,M,N,O,P,Q,R,S,q W u.ch,b u.val,r u.found,T,s 2 u.prf.length 5,X,Y,b u.err] 126 28 false).same Z/\v.same v/\u_1.same a6/\w.same w/\True;let aP:=λ(u:dJ) (u_1:Int) (u_2:Nat) (u_3:Int) ↦ft u/\(c<=u_1/\u_1<(↑u_2:Int))/\(c<=y/\y<(↑fx.length:Int))/\bj fx ab c=c/\(u_3=e\/u_3=k)/\nF (fx.set ab u_3)<n;let aQ:=λ(u:Int) (u_1:bq) ↦(f []).same (f [])/\(d [z,A,B,C,D,E,F,G,H,I,J,K,L,M,N,O,P,Q,R,S,ak,al,r found,T,am,X,Y,b u] 126 28 false).same Z/\v.same v/\u_1.same a6/\w.same w/\True;let aR:=λ(u:Bool) ↦decide (iR (bV ai) (bV (av.fst,av.snd.fst,av.snd.snd))<c)=u;let aS:=λ(u:Bool) ↦decide (c<=az)=u;let aT:=λ(u:Int) ↦let ax:=bu (κ (u+e));cE ai/\cE (ax.fst,ax.snd.fst,ax.snd.snd);let aU:=λ(u:Bool) ↦decide (most<ad+o)=u;(aG=true->aM)/\(aG=false->(found=true->aM)/\(found=false->(fx.length=fx.length/\fx.length<=1000000000000)/\(aH=true->aQ (jf p fx) aq)/\(aH=false->((!j3 p fx)=true->prf.length=prf.length/\c<=a/\a<(↑prf.length:Int)/\prf.length=prf.length/\a.toNat<prf.length/\aQ err (g bF (prf.set a.toNat ((3:Int),ar)) 108 true))/\((!j3 p fx)=false->h aj/\(j<=aj/\aj<=l)/\aT val/\(aS true->pA (kx p fx)/\(mT x=true->(ft (dJ.mk p ch val found (some m) prf.length fx.length most err prf fx)/\pA (kx p fx)/\(kx p fx).length=p.offers.length)/\prf.length=prf.length/\h ao/\(j<=ao/\ao<=l)/\aT t.val/\(aR true->ag=a8/\c<=a/\a<(↑a8:Int)/\ag=a8/\a.toNat<a8/\aO t (g bF (t.prf.set a.toNat aC) 108 true))/\(aR false->pA (kx p fx)/\((!(jP x).isSome)=true->aK)/\((!(jP x).isSome)=false->h (ad+o)/\(aU true->aK)/\(aU false->2=2/\ag=a8/\(a8+2)*56<=140737488355328/\a8+2<=1000000000000/\h ah/\aL/\c<=a/\a<(↑z71:Int)/\aL/\a.toNat<z71/\h ah/\aP (dJ.mk p t.ch t.val t.found (some m) z71 fx.length most t.err aw fx) ah aw.length e/\aP (dJ.mk p V.ch V.val V.found (some m) V.prf.length fx.length most V.err V.prf fx) ad V.prf.length k/\aO aI (g bF aI.prf 108 true)))))/\(mT x=false->aN))/\(aS false->aN)))))) (by kernel_rfl) ?_;simp only[vcs];refine⟨λh=>by rw[By hf (.inl h)];exact⟨rfl,rfl⟩,λh0=>⟨λh=>by rw[By hf (.inr h)];exact⟨rfl,rfl⟩,λh1=>⟨by omega,λh=>absurd hfe h,λ_=>⟨λh=>?_,λhb=>?_⟩⟩⟩⟩
  ·have hs:¬((⟨ch,val,found,prf,err⟩:dc).err≠0\/(⟨ch,val,found,prf,err⟩:dc).found=true):=by
    rintro(h|h);·exact h0 h
    ·rw[show found=true from h] at h1;cases h1
   rw[UP hf hs (by rw[<-hfo];exact h)];refine⟨ha.1,ha.2,by omega,?_,rfl⟩;simp only[Ψ];rfl
  ·have hs:¬((⟨ch,val,found,prf,err⟩:dc).err≠0\/(⟨ch,val,found,prf,err⟩:dc).found=true):=by
    rintro(h|h);·exact h0 h
    ·rw[show found=true from h] at h1;cases h1
   have hbf:hJ p fx=true:=by rw[<-hfo];exact hb
   have hfix:=hf.ok hbf;have eB:ku p fx=bu (jg p fx):=by unfold ku;rw[if_pos hb]
   have eS:kx p fx=fL (dD p fx):=by unfold kx dD;rw[if_pos hb]
   have eP:qT p fx=fL (iD p fx):=by unfold qT;rw[if_pos hb]
   have hsl:(dD p fx).length=fx.length:=rP;have oS:pA (fL (dD p fx)):=⟨dD p fx,rfl,by rw[fF];omega,λq hq=>by
    obtain⟨i,hi,rfl⟩:=γH hq;have:=(ET hfix hf.r (i:=i) (by omega)).2.2;rwa [cT hi] at this⟩;have fB:cE (bu (jg p fx)):=dN (Vn hb) (by omega);have fI:∀v:Int,0<=v->v<=9223372036854775807->cE (bu (κ v)):=λv h0 h1=>dN (rV (by omega) h1) (by omega);have hcv:∀v:Int,iR (jg p fx) (κ v)<0↔jg p fx<((v:Int):Rat):=λv=>tg;simp only[eB,eS,eP,kM,jM,eD];have hcm:eI (dD p fx)=(pz p fx).chosen:=rfl;refine⟨by omega,by omega,⟨fB,fI _ (by omega) (by omega)⟩,λhge=>⟨oS,λhi=>?_,λhi=>?_⟩,λhlt=>?_⟩
   ·have hO:dq p (cz (some m)) ⟨ch,val,found,prf,err⟩ fx=dX (cz (some m)) ⟨ch,val,found,prf,err⟩ ⟨eI (dD p fx),cM ((eI (dD p fx)).map (oI p))⟩:=by
     unfold dq;rw[if_pos ⟨εY.1 λh=>absurd ((hcv (val+1)).2 h) (Int.not_lt.2 hge),hi⟩];rfl
    have hok':ft (dJ.upd ⟨p,ch,val,found,(some m),prf.length,fx.length,most,err,prf,fx⟩ (dq p (cz (some m)) ⟨ch,val,found,prf,err⟩ fx)):=hok.UQ;rw[hO] at hok';obtain⟨e1,e2,_⟩:=@EX (cz (some m)) ⟨ch,val,found,prf,err⟩ ⟨eI (dD p fx),cM ((eI (dD p fx)).map (oI p))⟩;generalize dX (cz (some m)) ⟨ch,val,found,prf,err⟩ ⟨eI (dD p fx),cM ((eI (dD p fx)).map (oI p))⟩=O at*;obtain⟨ch',val',found',prf',tt⟩:=O;have e1:prf=prf':=Eq.symm e1;have e2:err=tt:=Eq.symm e2;subst e1;subst e2;have w0:0<=val':=hok'.v0;have w1:val'<=9223372036854775806:=hok'.v1;dsimp only;refine⟨⟨hok,oS,by rw[fF];omega⟩,by omega,by omega,⟨fB,fI _ (by omega) (by omega)⟩,?_⟩;refine⟨λh=>?_,λh=>⟨oS,λhk=>?_,λhk=>⟨by omega,λhm=>?_,λhm=>?_⟩⟩⟩
    ·rw[yU hf hs hbf hO ((hcv _).1 h)];refine⟨ha.1,ha.2,by omega,?_,rfl⟩;simp only[Ψ];rfl
    ·rw[pZ hf hs hbf hO (λh'=>h ((hcv _).2 h')) (.inl (γ8.1 hk |>γP.1))];exact⟨rfl,rfl⟩
    ·rw[pZ hf hs hbf hO (λh'=>h ((hcv _).2 h')) (.inr hm)];exact⟨rfl,rfl⟩
    ·obtain⟨k,hk'⟩:=γp.1 hk;rw[yV hf hs hbf hO (λh'=>h ((hcv _).2 h')) hk' hm];simp only[hk',γ3];obtain⟨hk1,hk2,hk3⟩:=td hk';rw[hsl] at hk1;have hk0:bj fx k.toNat 0=0:=tc hfix hf.r (by omega) hk2 hk3;have n1:=mq hk1 hk0 (d:=1) (by omega);have n2:=mq hk1 hk0 (d:= -1) (by omega);have hl2:((prf++[zN,zN]).set a.toNat (j4 k prf.length)).length=prf.length+2:=by rw[Ψ,γh];rfl
     have hl1:(prf++[zN,zN]).length=prf.length+2:=by rw[γh];rfl
     have o1:=ft.spl (x:=⟨p,ch',val',found',(some m),prf.length,fx.length,most,tt,prf,fx⟩) hok' (k:=(prf++[zN,zN]).length) (l:=(prf++[zN,zN]).set a.toNat (j4 k prf.length)) hm (by rw[hl1,hl2]) hl2;have o2:=o1.vis (f:=fx.set k.toNat 1) (hf.set (by omega)) (n:=nF (fx.set k.toNat 1)) (a:=(prf.length:Int)+1);have o3:=(@rQ p (cz (some m)) most (nF (fx.set k.toNat 1)) (gG ⟨ch',val',found',prf,tt⟩ a k) ((prf.length:Int)+1) (fx.set k.toNat 1) (hf.set (by omega))).1;have o4:prf.length+2<=(dF p (cz (some m)) most (nF (fx.set k.toNat 1)) (gG ⟨ch',val',found',prf,tt⟩ a k) ((prf.length:Int)+1) (fx.set k.toNat 1)).prf.length:=by rw[<-hl2];exact o3
     have q1:a<((prf++[zN,zN]).length:Int):=by omega
     have q3:(prf.length:Int)+1<(((prf++[zN,zN]).set a.toNat (j4 k prf.length)).length:Int):=by rw[hl2];omega
     have q2:a.toNat<(prf++[zN,zN]).length:=by omega
     exact⟨by omega,by omega,by omega,ha.1,q1,q2,by omega,⟨o1,⟨by omega,q3⟩,hk1,hk0,.inl trivial,by omega⟩,⟨o2,⟨by omega,εS.2 (γj (by omega) o4)⟩,hk1,hk0,.inr trivial,by omega⟩,rfl,rfl⟩
   ·have hO:dq p (cz (some m)) ⟨ch,val,found,prf,err⟩ fx=⟨ch,val,found,prf,err⟩:=by
     unfold dq;rw[if_neg (λh=>by rw[h.2] at hi;cases hi)]
    refine⟨⟨fB,fI _ (by omega) (by omega)⟩,?_⟩;refine⟨λh=>?_,λh=>⟨oS,λhk=>?_,λhk=>⟨by omega,λhm=>?_,λhm=>?_⟩⟩⟩
    ·rw[yU hf hs hbf hO ((hcv _).1 h)];refine⟨ha.1,ha.2,by omega,?_,rfl⟩;simp only[Ψ];rfl
    ·rw[pZ hf hs hbf hO (λh'=>h ((hcv _).2 h')) (.inl (γ8.1 hk |>γP.1))];exact⟨rfl,rfl⟩
    ·rw[pZ hf hs hbf hO (λh'=>h ((hcv _).2 h')) (.inr hm)];exact⟨rfl,rfl⟩
    ·obtain⟨k,hk'⟩:=γp.1 hk;rw[yV hf hs hbf hO (λh'=>h ((hcv _).2 h')) hk' hm];simp only[hk',γ3];obtain⟨hk1,hk2,hk3⟩:=td hk';rw[hsl] at hk1;have hk0:bj fx k.toNat 0=0:=tc hfix hf.r (by omega) hk2 hk3;have n1:=mq hk1 hk0 (d:=1) (by omega);have n2:=mq hk1 hk0 (d:= -1) (by omega);have hl2:((prf++[zN,zN]).set a.toNat (j4 k prf.length)).length=prf.length+2:=by rw[Ψ,γh];rfl
     have hl1:(prf++[zN,zN]).length=prf.length+2:=by rw[γh];rfl
     have o1:=ft.spl hok (k:=(prf++[zN,zN]).length) (l:=(prf++[zN,zN]).set a.toNat (j4 k prf.length)) hm (by rw[hl1,hl2]) hl2;have o2:=o1.vis (f:=fx.set k.toNat 1) (hf.set (by omega)) (n:=nF (fx.set k.toNat 1)) (a:=(prf.length:Int)+1);have o3:=(@rQ p (cz (some m)) most (nF (fx.set k.toNat 1)) (gG ⟨ch,val,found,prf,err⟩ a k) ((prf.length:Int)+1) (fx.set k.toNat 1) (hf.set (by omega))).1;have o4:prf.length+2<=(dF p (cz (some m)) most (nF (fx.set k.toNat 1)) (gG ⟨ch,val,found,prf,err⟩ a k) ((prf.length:Int)+1) (fx.set k.toNat 1)).prf.length:=by rw[<-hl2];exact o3
     have q1:a<((prf++[zN,zN]).length:Int):=by omega
     have q3:(prf.length:Int)+1<(((prf++[zN,zN]).set a.toNat (j4 k prf.length)).length:Int):=by rw[hl2];omega
     have q2:a.toNat<(prf++[zN,zN]).length:=by omega
     exact⟨by omega,by omega,by omega,ha.1,q1,q2,by omega,⟨o1,⟨by omega,q3⟩,hk1,hk0,.inl trivial,by omega⟩,⟨o2,⟨by omega,εS.2 (γj (by omega) o4)⟩,hk1,hk0,.inr trivial,by omega⟩,rfl,rfl⟩
   ·have hO:dq p (cz (some m)) ⟨ch,val,found,prf,err⟩ fx=⟨ch,val,found,prf,err⟩:=by
     unfold dq;rw[if_neg (λh=>εY.2 h.1 ((hcv (val+1)).1 (Int.not_le.1 hlt)))]
    refine⟨⟨fB,fI _ (by omega) (by omega)⟩,?_⟩;refine⟨λh=>?_,λh=>⟨oS,λhk=>?_,λhk=>⟨by omega,λhm=>?_,λhm=>?_⟩⟩⟩
    ·rw[yU hf hs hbf hO ((hcv _).1 h)];refine⟨ha.1,ha.2,by omega,?_,rfl⟩;simp only[Ψ];rfl
    ·rw[pZ hf hs hbf hO (λh'=>h ((hcv _).2 h')) (.inl (γ8.1 hk |>γP.1))];exact⟨rfl,rfl⟩
    ·rw[pZ hf hs hbf hO (λh'=>h ((hcv _).2 h')) (.inr hm)];exact⟨rfl,rfl⟩
    ·obtain⟨k,hk'⟩:=γp.1 hk;rw[yV hf hs hbf hO (λh'=>h ((hcv _).2 h')) hk' hm];simp only[hk',γ3];obtain⟨hk1,hk2,hk3⟩:=td hk';rw[hsl] at hk1;have hk0:bj fx k.toNat 0=0:=tc hfix hf.r (by omega) hk2 hk3;have n1:=mq hk1 hk0 (d:=1) (by omega);have n2:=mq hk1 hk0 (d:= -1) (by omega);have hl2:((prf++[zN,zN]).set a.toNat (j4 k prf.length)).length=prf.length+2:=by rw[Ψ,γh];rfl
     have hl1:(prf++[zN,zN]).length=prf.length+2:=by rw[γh];rfl
     have o1:=ft.spl hok (k:=(prf++[zN,zN]).length) (l:=(prf++[zN,zN]).set a.toNat (j4 k prf.length)) hm (by rw[hl1,hl2]) hl2;have o2:=o1.vis (f:=fx.set k.toNat 1) (hf.set (by omega)) (n:=nF (fx.set k.toNat 1)) (a:=(prf.length:Int)+1);have o3:=(@rQ p (cz (some m)) most (nF (fx.set k.toNat 1)) (gG ⟨ch,val,found,prf,err⟩ a k) ((prf.length:Int)+1) (fx.set k.toNat 1) (hf.set (by omega))).1;have o4:prf.length+2<=(dF p (cz (some m)) most (nF (fx.set k.toNat 1)) (gG ⟨ch,val,found,prf,err⟩ a k) ((prf.length:Int)+1) (fx.set k.toNat 1)).prf.length:=by rw[<-hl2];exact o3
     have q1:a<((prf++[zN,zN]).length:Int):=by omega
     have q3:(prf.length:Int)+1<(((prf++[zN,zN]).set a.toNat (j4 k prf.length)).length:Int):=by rw[hl2];omega
     have q2:a.toNat<(prf++[zN,zN]).length:=by omega
     exact⟨by omega,by omega,by omega,ha.1,q1,q2,by omega,⟨o1,⟨by omega,q3⟩,hk1,hk0,.inl trivial,by omega⟩,⟨o2,⟨by omega,εS.2 (γj (by omega) o4)⟩,hk1,hk0,.inr trivial,by omega⟩,rfl,rfl⟩
theorem LU:∀n,ef Tryz.prog (wJ n)
 |0=>λa b=>absurd b.2.2 (by omega)
 |n+1=>agc (afu (LU n))
theorem uV {p:bn} (a:bz p=0) {c:List Int} (f:cO p c=0):0<=ek p c/\ek p c<=160000000/\c.length<=160:=by
 obtain⟨_,b⟩:=uK f;have d:=(dQ a).2.1;have j:c.length<=p.offers.length:=qR b;have h:=sQ (dQ a) (l:=c.map (oI p)) λx g=>by
  obtain⟨i,e,rfl⟩:=Θ.1 g;have:=b.2 i e;exact dn (by omega)
 grind[yM]
theorem LV {p:bn} (a:bz p=0):(jY p).length<=160:=(uV a (Tq a)).2.2
theorem agd {p:bn} {c:List Int} {a:Int} {k:Nat} (e:bz p=0) (h:cO p c=0) (l:1<=a) (m:a<=65536) (i:k=p.offers.length):ft ⟨p,(kQ p c).ch,(kQ p c).val,(kQ p c).found,none,(kQ p c).prf.length,k,a,(kQ p c).err,(kQ p c).prf,iE p⟩:=by
 have b:=JY e h;have d:=yS e;have f:cO p (kQ p c).ch=0/\ek p (kQ p c).ch=(kQ p c).val:=
  yR (G:=λc w _=>cO p c=0/\ek p c=w) (λ_ _ _ _ _ _ b d _=>⟨b,d⟩) (yR (G:=λc w _=>cO p c=0/\ek p c=w) (λ_ _ _ _ _ _ b d _=>⟨b,d⟩) (s:=⟨c,ek p c,false,[zN],0⟩) ⟨h,rfl⟩ b.2.1 b.2.2.1) d.1 d.2;obtain⟨g,j,n⟩:=uV e f.1;obtain⟨o,_,_⟩:=@KN p c;rw[f.2] at g j;exact⟨oJ e,rfl,by rw[i];exact(γE).symm,g,by grind,l,m,by simp_all,by grind⟩
theorem agf {p:bn} {m a:Int} {k:Nat} (b:bz p=0) (q:0<m/\m<=9223372036854775807) (h:1<=a) (i:a<=65536) (g:k=p.offers.length):ft ⟨p,(kR p m).ch,(kR p m).val,(kR p m).found,some m,(kR p m).prf.length,k,a,(kR p m).err,(kR p m).prf,iE p⟩:=by
 have d:=yS b;have e:(0<=(kR p m).val/\(kR p m).val<=9223372036854775806)/\(kR p m).ch.length<=160:=
  yR (G:=λc w _=>(0<=w/\w<=9223372036854775806)/\c.length<=160) (λ_ _ _ t l _ f d _=>by
   obtain⟨j,n,o⟩:=uV b f;omega) (s:=⟨[],m - 1,false,[zN],0⟩) ⟨⟨by grind,by grind⟩,by simp_all⟩ d.1 d.2;obtain⟨r,_⟩:=@KP p m;exact⟨oJ b,rfl,by rw[g];exact(γE).symm,e.1.1,e.1.2,h,i,by simp_all,by grind⟩
noncomputable def LW:bM:=⟨53,bn×Alloc×Int,.cons dO (.cons nA (.one (eU .i64))),λa=>a.1.offers.length<=20/\a.2.1.chosen.length<=9223372036854775807,
 λa=> .bI [.agg [.row (.i .i64) (if ky a.1 a.2.1.chosen a.2.2=0 then(iL a.1 a.2.1.chosen a.2.2).ch else[]),.si .i64 (if ky a.1 a.2.1.chosen a.2.2=0 then(iL a.1 a.2.1.chosen a.2.2).val else 0)],.row bF (if ky a.1 a.2.1.chosen a.2.2=0 then(iL a.1 a.2.1.chosen a.2.2).prf else[]),.si .i64 (ky a.1 a.2.1.chosen a.2.2)]⟩
theorem h429:Holds Tryz.prog LW:=by
 refine con (L:=[xW,E2,Bh,Bg]) (W:=gP [Br,wJ 161]) LW lk (kY (by grind[h439,LU])) (by grind[h100,h437,h315,h312]) ?_;rintro⟨p,⟨c,v⟩,a⟩ ⟨o,f⟩;simp only at o f;refine bQ (let e:=(0:Int);let f:=γd .i64;let h:=(140737488355328:Int);let k:=(1000000000000:Int);let o:=(1:Int);let v:=Ω;let w:=γR;let z:=SV.bI;let D:=bp.i .i64;let s:=v D [];let t:=γB .i64 0;let A:=iL p c a;let E:=z [w [v D (if ky p c a=e then A.ch else[]),f (if ky p c a=e then A.val else e)],v bF (if ky p c a=e then A.prf else[]),f (ky p c a)];let g:=(↑p.offers.length:Int);let r:=δ g.toNat e;let j:=dX (cz none) (dc.mk c (ek p c) false [(e,e,e,e,[])] e) (gB p c);let b:=dX (cz none) j (gB p (jY p));let d:=dF p (cz none) a (nF r) b e r;let m:=decide (cO p c≠e);let n:=decide (a<o);let q:=decide ((65536:Int)<a);let l:=0+c.length;let G:=(z [w [s,t],s,γB .i64 4]).same E;let x:=λ(u:List Int) (y B C:SV) ↦(z [w [v D u,y],B,C]).same E;let F:=λ(u:Bool) ↦decide (d.err≠e)=u;c.length<=9223372036854775807/\(m=true->x [] t s (f (cO p c)))/\(m=false->(n=true->G)/\(n=false->(q=true->G)/\(q=false->0=0/\l*8<=140737488355328/\l<=1000000000000/\(bz p=e/\c.length<=9223372036854775807)/\e<=o/\o<=o/\(56:Int)<=h/\o<=k/\e<=g/\g<=g/\g*(8:Int)<=h/\g<=k/\c.length=c.length/\c.length=c.length/\c.length<=9223372036854775807/\1=1/\p.offers.length<=20/\(jY p).length<=9223372036854775807/\j.prf.length=j.prf.length/\(ft (dJ.mk p b.ch b.val b.found none b.prf.length g.toNat a b.err b.prf r)/\(e<=e/\e<(↑b.prf.length:Int))/\nF r<161)/\(F true->x [] t s (f d.err))/\(F false->d.prf.length=d.prf.length/\x d.ch (f d.val) (v bF d.prf) t))))) (by kernel_rfl) ?_;simp only[vcs];have M:(δ ((p.offers.length:Int)).toNat 0:List Int)=iE p:=by grind[iE]
 have P:dX (cz none) (dX (cz none) ⟨c,ek p c,false,[(0,(0,(0,(0,[]))))],0⟩ (gB p c)) (gB p (jY p))=kQ p c:=rfl;have J:nF (iE p)=p.offers.length:=yQ;simp only[M,P,J];refine⟨f,λh=>?_,λh=>⟨λH=>?_,λH=>⟨λN=>?_,λN=>?_⟩⟩⟩
 ·have e:ky p c a=cO p c:=by simp_all[ky]
  rw[e,if_neg h,if_neg h,if_neg h];exact⟨rfl,rfl,rfl⟩
 ·have e:ky p c a=4:=by simp_all[ky]
  rw[e];exact⟨rfl,rfl,rfl⟩
 ·have e:ky p c a=4:=by simp_all[ky]
  rw[e];exact⟨rfl,rfl,rfl⟩
 ·have z:cO p c=0:=γf.1 h;have w:bz p=0:=(uK z).1;obtain⟨Q,T,U⟩:=uV w z;obtain⟨I,R,S⟩:=@KN p c;have e:ky p c a=(iL p c a).err:=by simp_all[ky,if_neg]
  have O:dF p (cz none) a p.offers.length (kQ p c) 0 (iE p)=iL p c a:=rfl;have K:=LV w;rw[O,e];refine⟨by omega,by omega,⟨w,f⟩,by omega,by omega,by omega,by omega,by omega,by omega,by omega,by omega,f,o,by omega,⟨agd w z (by omega) (by omega) (by omega),⟨by omega,by rw[I];decide⟩,by omega⟩,λk=>?_,λk=>?_⟩
  ·rw[if_neg k,if_neg k,if_neg k];exact⟨rfl,rfl,rfl⟩
  ·rw[γf] at k;rw[k];exact⟨rfl,rfl,rfl⟩
noncomputable def LX:bM:=⟨80,bn×Int×Int,.cons dO (.cons (eU .i64) (.one (eU .i64))),λa=>a.1.offers.length<=20/\ -9223372036854775808<=a.2.1/\a.2.1<=9223372036854775807,
 λa=> .bI [.agg [.row (.i .i64) (oK a.1 a.2.1 a.2.2).chosen,.si .i64 (oK a.1 a.2.1 a.2.2).value],.sb (j5 a.1 a.2.1 a.2.2),.si .i64 (ji a.1 a.2.1 a.2.2)]⟩
theorem h434:Holds Tryz.prog LX:=by
 refine con (L:=[pe,Bh,Bg]) (W:=gP [Br,wJ 161]) LX lk (kY (by grind[h439,LU])) (by grind[h79,h315,h312]) ?_;rintro⟨p,m,b⟩ ⟨x,H,G⟩;simp only at x H G;refine bQ (let a:=(0:Int);let c:=γd .i64;let e:=(1:Int);let f:=(140737488355328:Int);let h:=SV.bI;let l:=(1000000000000:Int);let v:=γB .i64;let x:=Ω;let y:=γR;let w:=bp.i .i64;let t:=[v 0];let k:=h [y [x w (oK p m b).chosen,c (oK p m b).value],γA (j5 p m b),c (ji p m b)];let n:=y (x w []::t);let s:=δh false;let g:=dX (cz (some m)) (dc.mk [] (m - e) false [(a,a,a,a,[])] a) (gB p (jY p));let A:=decide (bz p≠a);let C:=decide (b<e);let r:=decide ((65536:Int)<b);let q:=decide (m<=a);let d:=(↑p.offers.length:Int);let j:=δ d.toNat a;let z:=λ(u:dc) ↦let o:=decide (u.err≠a);(u.found=true->(h (y [x w u.ch,c u.val]::δh true::t)).same k)/\(u.found=false->(o=true->(h [n,s,c u.err]).same k)/\(o=false->(h (n::s::t)).same k));let B:=λ(u:Bool) ↦(!g.found)=u;True/\(A=true->(h [n,s,c (bz p)]).same k)/\(A=false->(C=true->(h [n,s,v 4]).same k)/\(C=false->(r=true->(h [n,s,v 4]).same k)/\(r=false->(q=true->(h (n::δh true::t)).same k)/\(q=false->cu .i64 (m - e)/\a<=e/\e<=e/\(56:Int)<=f/\e<=l/\a<=d/\d<=d/\d*(8:Int)<=f/\d<=l/\0=0/\p.offers.length<=20/\(jY p).length<=9223372036854775807/\1=1/\(B true->(ft (dJ.mk p g.ch g.val g.found (some m) g.prf.length d.toNat b g.err g.prf j)/\(a<=a/\a<(↑g.prf.length:Int))/\nF j<161)/\z (dF p (cz (some m)) b (nF j) g a j))/\(B false->z g)))))) (by kernel_rfl) ?_;simp only[vcs];have P:(δ ((p.offers.length:Int)).toNat 0:List Int)=iE p:=by grind[iE]
 have O:dX (cz (some m)) ⟨[],m - 1,false,[(0,(0,(0,(0,[]))))],0⟩ (gB p (jY p))=kR p m:=rfl;have K:nF (iE p)=p.offers.length:=yQ;simp only[P,O,K];have I:∀e:Int,ji p m b=e->j5 p m b=(decide (e=0)&&(decide (m<=0)||(gd p m b).found)):=λe h=>by grind[j5]
 have c:j5 p m b=false\/m<=0->oK p m b=⟨[],0⟩:=λh=>by
  unfold oK;grind
 refine⟨λh=>?_,λh=>⟨λM=>?_,λM=>⟨λN=>?_,λN=>⟨λE=>?_,λE=>?_⟩⟩⟩⟩
 ·have e:ji p m b=bz p:=by simp_all[ji]
  have f:j5 p m b=false:=by simp_all
  rw[e,f,c (.inl f)];exact⟨rfl,rfl,rfl⟩
 ·have e:ji p m b=4:=by simp_all[ji]
  have f:j5 p m b=false:=by simp_all
  rw[e,f,c (.inl f)];exact⟨rfl,rfl,rfl⟩
 ·have e:ji p m b=4:=by simp_all[ji]
  have f:j5 p m b=false:=by simp_all
  rw[e,f,c (.inl f)];exact⟨rfl,rfl,rfl⟩
 ·have e:ji p m b=0:=by simp_all[ji]
  have f:j5 p m b=true:=by simp_all
  rw[e,f,c (.inr E)];exact⟨rfl,rfl,rfl⟩
 ·have J:bz p=0:=γf.1 h;obtain⟨R,Q⟩:=@KP p m;have S:dF p (cz (some m)) b p.offers.length (kR p m) 0 (iE p)=gd p m b:=rfl;have F:=LV J;have l:ji p m b=if(gd p m b).found=true then 0 else(gd p m b).err:=by simp_all[ji,if_neg]
  have y:((gd p m b).found=true->(γR [Ω (bp.i .i64) (gd p m b).ch,γd .i64 (gd p m b).val]).same (γR [Ω (bp.i .i64) (oK p m b).chosen,γd .i64 (oK p m b).value])/\true=j5 p m b/\0=ji p m b)/\
    ((gd p m b).found=false->((gd p m b).err≠0->(γR [Ω (bp.i .i64) [],γB .i64 0]).same (γR [Ω (bp.i .i64) (oK p m b).chosen,γd .i64 (oK p m b).value])/\false=j5 p m b/\(gd p m b).err=ji p m b)/\
     (¬(gd p m b).err≠0->(γR [Ω (bp.i .i64) [],γB .i64 0]).same (γR [Ω (bp.i .i64) (oK p m b).chosen,γd .i64 (oK p m b).value])/\false=j5 p m b/\0=ji p m b)):=by
   refine⟨λv=>?_,λv=>⟨λD=>?_,λD=>?_⟩⟩
   ·rw[if_pos v] at l;have f:j5 p m b=true:=by simp_all
    have a:oK p m b=⟨(gd p m b).ch,(gd p m b).val⟩:=by simp_all[oK]
    rw[l,f,a];exact⟨rfl,rfl,rfl⟩
   ·rw[if_neg (by rw[v];simp)] at l;have f:j5 p m b=false:=by simp_all
    rw[l,f,c (.inl f)];exact⟨rfl,rfl,rfl⟩
   ·rw[if_neg (by rw[v];simp),γf.1 D] at l;have f:j5 p m b=false:=by simp_all
    rw[l,f,c (.inl f)];exact⟨rfl,rfl,rfl⟩
  grind[agf,By,oJ]
end Go.Vi
