/-
  Contracts: natural numbers of any size: DivMod.
  Conditions: none.
-/
import Derived.Test.YtgejbpobaicgfaaGreatBX06
import Derived.Test.YtgejbpobaicgfaaGreatBX07
import Derived.Test.YtgejbpobaicgfaaGreatBX09
import Derived.Test.YtgejbpobaicgfaaGreatBX08
set_option maxRecDepth 100000
set_option maxHeartbeats 4000000
set_option linter.all false
open And renaming intro->γe
open Bool renaming eq_iff_iff->ε1
open Go.Vi.SV renaming row->Ξ,si->γa,ow->γQ,il->γu,bl->δe,agg->γL,sb->γv
open Int renaming emod_nonneg->γ8,emod_lt_of_pos->γO,ediv_eq_zero_of_lt->δQ,emod_eq_of_lt->δm,pow_pos->γU,mul_nonneg->γh,le_of_lt->φ,mul_zero->δL,pow_succ->γx,mul_assoc->γI,add_zero->εk,mul_pos->εl,pow_zero->εj,ediv_nonneg->γ9,ediv_le_self->εW,pow_add->δg,lt_of_le_of_lt->εb,mul_le_mul_of_nonneg_left->ν,mul_lt_mul_of_pos_right->γP,mul_neg_of_neg_of_pos->εv,tdiv_eq_ediv_of_nonneg->γS,tmod_eq_emod_of_nonneg->γT,mul_comm->δr,ediv_ediv_of_nonneg->δo,mul_ediv_add_emod->δa,ediv_lt_of_lt_mul->δy,mul_one->δ8
open IntCast renaming intCast->ξ
open List renaming forall_mem_cons->δH,not_mem_nil->δp,replicate->δ,drop->γ1,take->ω,eq_nil_of_length_eq_zero->π,take_length->τ,length_take->γd,length->γb,take_of_length_le->Ω
open List.cons renaming injEq->Δ
open Nat renaming min_eq_left->δO,gcd_le_right->ζw,exists_eq_add_of_le->δJ
open Rat renaming num_eq_zero->ε2
namespace Go.Vi
open Go.Proofs.YtgejbpobaicgfaaGreat.Ir
open Go.Proofs
def QD:List fN:=[adH,ahO,ajp,apD,ah6,aqb]
theorem hQD:∀c∈QD,Holds Tryz.prog c:=by
 simp only[QD,δH,δp,false_implies,implies_true,and_true]
 grind[h152,h132,h154,h167,h128,h168p]
def WD:List og:=[aqc,apK]
theorem hWD:∀c∈WD,sd Tryz.prog c:=by
 simp_all[WD,h168,h169]
def amo:fN:=⟨141,List Int×List Int,.cons (mA (.i .u32)) (.one (mA (.i .u32))),λa=>(cQ a.1/\cQ a.2)/\(a.1.length<=10000000000/\a.2.length<=10000000000)/\0<bD a.2,
 λa=> .eW [.row (.i .u32) (ey (bD a.1 / bD a.2)),.row (.i .u32) (ey (bD a.1 % bD a.2)),.si .i64 0]⟩
def dvS (a:List Int×List Int) (s:Int):Prop:=(0<=s/\s<=31)/\bC (eZ a.2) ((eZ a.2).length - 1) 0*2^s.toNat<4294967296/\2147483648<=bC (eZ a.2) ((eZ a.2).length - 1) 0*2^s.toNat
def aEZ (a:List Int×List Int):Nat->jY
 |10=> .inv Int (λs=>⟨[(0,.row (.i .u32) (eZ a.1)),(1,.row (.i .u32) (eZ a.2)),(9,.si .u64 s)],[]⟩) (λs=>iS s 9)
  (λs=>(0<=s/\s<=31)/\bC (eZ a.2) ((eZ a.2).length - 1) 0*2^s.toNat<4294967296) (λs=>(32 - s).toNat) λ_ _=> .look
 |17=> .inv (Int×Int×List Int×List Int) (λx=>⟨[(4,.ow 1 x.2.2.2.length 1),(9,.si .u64 x.2.1),(10,.ow 0 x.2.2.1.length 1),(11,.row (.i .u32) (eZ (shl (eZ a.2) x.2.1.toNat))),(12,.si .i64 (eZ (shl (eZ a.2) x.2.1.toNat)).length),
   (13,.si .i64 ((eZ a.1).length - (eZ a.2).length)),(74,.si .i64 ((eZ a.1).length - (eZ a.2).length+1)),(75,.si .i64 x.1)],[.row (.i .u32) x.2.2.1 161 false,.row (.i .u32) x.2.2.2 161 true]⟩)
  (λs=>(iS s 75,iS s 9,oS (.i .u32) s 0,oS (.i .u32) s 1))
  (λx=>(0<=x.1/\x.1<=(eZ a.1).length - (eZ a.2).length+1)/\dvS a x.2.1/\(cQ x.2.2.1/\x.2.2.1.length=(eZ a.1).length+1)/\(cQ x.2.2.2/\x.2.2.2.length=(eZ a.1).length - (eZ a.2).length+1)/\
   (∀j:Nat,(j:Int)<(eZ a.1).length - (eZ a.2).length+1 - x.1->bC x.2.2.2 j 0=0)/\
   bD x.2.2.1+bD (eZ (shl (eZ a.2) x.2.1.toNat))*bD x.2.2.2=bD (eZ a.1)*2^x.2.1.toNat/\
   bD (x.2.2.1.drop (((eZ a.1).length - (eZ a.2).length+1 - x.1:Int).toNat))<bD (eZ (shl (eZ a.2) x.2.1.toNat)))
  (λx=>((eZ a.1).length - (eZ a.2).length+1 - x.1:Int).toNat) λ_ _=> .look
 |24=> .inv (Int×Int×List Int×List Int×List Int) (λx=>⟨[(4,.ow 1 x.2.2.2.1.length 1),(5,.ow 2 x.2.2.2.2.length 1),(9,.si .u64 x.2.1),(10,.ow 0 x.2.2.1.length 1),(100,.si .i64 (eZ (shl (eZ a.2) x.2.1.toNat)).length),(101,.si .i64 x.1)],
   [.row (.i .u32) x.2.2.1 161 false,.row (.i .u32) x.2.2.2.1 161 true,.row (.i .u32) x.2.2.2.2 161 true]⟩)
  (λs=>(iS s 101,iS s 9,oS (.i .u32) s 0,oS (.i .u32) s 1,oS (.i .u32) s 2))
  (λx=>(0<=x.1/\x.1<=(eZ (shl (eZ a.2) x.2.1.toNat)).length)/\dvS a x.2.1/\(cQ x.2.2.1/\x.2.2.1.length=(eZ a.1).length+1)/\(cQ x.2.2.2.1/\x.2.2.2.1.length=(eZ a.1).length - (eZ a.2).length+1)/\
   bD x.2.2.1+bD (eZ (shl (eZ a.2) x.2.1.toNat))*bD x.2.2.2.1=bD (eZ a.1)*2^x.2.1.toNat/\bD x.2.2.1<bD (eZ (shl (eZ a.2) x.2.1.toNat))/\
   (cQ x.2.2.2.2/\x.2.2.2.2.length=(eZ (shl (eZ a.2) x.2.1.toNat)).length)/\(∀j,x.1.toNat<=j->bC x.2.2.2.2 j 0=0)/\
   2^x.2.1.toNat*bD x.2.2.2.2=bD (x.2.2.1.take x.1.toNat) - bC x.2.2.1 0 0 % 2^x.2.1.toNat+4294967296^x.1.toNat*(bC x.2.2.1 x.1.toNat 0 % 2^x.2.1.toNat))
  (λx=>((eZ (shl (eZ a.2) x.2.1.toNat)).length - x.1).toNat) λ_ _=> .look
 |_=> .look
theorem h166g:Holds Tryz.prog amo:=by
 refine con (L:=QD) (W:=CN WD) amo aEZ (XX hWD) hQD ?_
 rintro⟨a,b⟩ ⟨⟨ha,hb⟩,⟨hla,hlb⟩,b0⟩
 simp only at ha hb hla hlb b0
 refine gp (let c:=(0:Int);let d:=(4294967296:Int);let e:=(18446744073709551616:Int);let f:=Ξ;let g:=γa .i64;let h:=ie .i64;let k:=cJ.row;let l:=(1:Int);let m:=γQ;let n:=(32:Int);let o:=(140737488355328:Int);let p:=(1000000000000:Int);let q:=(2:Int);let r:=SV.eW;let s:=(31:Int);let z0:Nat:=(eZ b).length;let N:=(↑z0:Int);let av:=decide (N=c);let ag:=f (cn.i .i64) [];let t:=cn.i .u32;let ah:=g 0;let aa:=r [f t (ey (bD a / bD b)),f t (ey (bD a % bD b)),ah];let z7:Nat:=(eZ a).length;let z8:Nat:=(eZ b).length;let F:=bD (eZ a);let aw:=decide (Ig F (bD (eZ b))<c);let a1:=γu .i64 0;let ax:=decide (N=l);let ab:=bC (eZ b) 0 c;let ai:=F % ab % e;let aj:=bC (eZ b) (z8 - 1) c;let a2:=N - l;let ak:=(↑(eZ a).length:Int) - N;let B:=ak+l;let O:=δ B.toNat c;let al:=(↑z7:Int) - (↑z8:Int);let am:=g al;let y:=al+l;let an:=g y;let ay:=k t O 161 true;let P:=z7+1;let Q:=z7 - z8+1;a.length<=1000000000000/\b.length<=1000000000000/\(av=true->(r [ag,ag,γu .i64 8]).same aa)/\(av=false->((cQ (eZ a)/\cQ (eZ b))/\z7<=1000000000000/\z8<=1000000000000)/\(aw=true->((cQ (eZ a)/\cQ [])/\z7<=100000000000/\0<=100000000000)/\(r [ag,f t (ey (F+bD [])),a1]).same aa)/\(aw=false->(ax=true->c<=c/\c<N/\0<z0/\(cQ (eZ a)/\z7<=100000000000/\c<ab/\ab<d)/\(c<=ai/\ai<e)/\(r [f t (ey (F / ab)),f t (ey ai),a1]).same aa)/\(ax=false->((((f t (eZ a)).same (f t (eZ a))/\(f t (eZ b)).same (f t (eZ b))/\(γu .u64 0).same (γa .u64 0)/\True)/\True)/\(c<=c/\c<=s)/\aj*l<d)/\∀(x:Int),let ao:=q^x.toNat;let a3:=(x+l) % e;let az:=γa .u64 a3;let aA:=shl (eZ b) x.toNat;let R:=shl (eZ a) x.toNat;let aB:=m 0 R.length 1;let S:=eZ aA;let aC:=k t R 161 false;let aD:=λ(u:Bool) ↦decide (bC (eZ b) a2.toNat c*ao % d<(2147483648:Int))=u;(c<=x/\x<=s)/\aj*ao<d->h a2/\c<=a2/\a2<N/\a2.toNat<z0/\c<=x/\x<=n/\(aD true->(((f t (eZ a)).same (f t (eZ a))/\(f t (eZ b)).same (f t (eZ b))/\az.same az/\True)/\True)/\((c<=a3/\a3<=s)/\aj*q^a3.toNat<d)/\(n - a3).toNat<(n - x).toNat)/\(aD false->shD (eZ a,x)/\shD (eZ b,x)/\aA.length<=1000000000000/\h ak/\h B/\c<=B/\B<=B/\B*(4:Int)<=o/\B<=p/\h B/\((((m 1 B.toNat 1).same (m 1 O.length 1)/\(γa .u64 x).same (γa .u64 x)/\aB.same aB/\(f t S).same (f t S)/\(g (↑S.length:Int)).same (g (↑S.length:Int))/\(g ak).same am/\(g B).same an/\a1.same ah/\True)/\aC.same aC/\ay.same ay/\True)/\(c<=c/\c<=y)/\dvS (a,b) x/\(cQ R/\R.length=P)/\(cQ O/\O.length=Q)/\(∀(j:Nat),(↑j:Int)<y - c->bC O j c=c)/\bD R+bD S*bD O=F*ao/\bD (γ1 (y - c).toNat R)<bD S)/\∀(x:Int×Int×List Int×List Int),let C:=x.snd.snd.fst;let T:=eZ (shl (eZ b) x.snd.fst.toNat);let U:=bD T;let w:=x.snd.snd.snd;let ac:=q^x.snd.fst.toNat;let V:=C.length;let aE:=decide (x.fst<y);let G:=al - x.fst;let z:=(↑T.length:Int);let a4:=G+z+l;let a5:=G.toNat;let a6:=a4.toNat;let H:=DgA.mk C a5 (a6 - a5) V T;let K:=x.fst+l;let ap:=m 1 w.length 1;let W:=w.set a5 (H.x / U);let ad:=γa .u64 x.snd.fst;let aq:=m 0 V 1;let ae:=g z;let aF:=g K;let aG:=k t H.row 161 false;let aH:=k t W 161 true;let X:=δ z.toNat c;let aI:=k t C 161 false;let aJ:=k t w 161 true;let aK:=k t X 161 true;let aL:=bC C 0 c % ac;let aM:=bD C+U*bD w=F*ac;(c<=x.fst/\x.fst<=y)/\dvS (a,b) x.snd.fst/\(cQ C/\V=P)/\(cQ w/\w.length=Q)/\(∀(j:Nat),(↑j:Int)<y - x.fst->bC w j c=c)/\aM/\bD (γ1 (y - x.fst).toNat C)<U->(aE=true->h G/\h (G+z)/\h a4/\h (G+z)/\h a4/\V=C.length/\c<=G/\c<=a4/\c<=a4/\a5<=a6/\a6<=a6/\a6<=V/\H.ok/\w.length=w.length/\c<=G/\G<(↑w.length:Int)/\w.length=w.length/\a5<w.length/\h K/\((ap.same (m 1 W.length 1)/\ad.same ad/\aq.same (m 0 H.row.length 1)/\(f t T).same (f t T)/\ae.same ae/\am.same am/\an.same an/\aF.same aF/\True)/\aG.same aG/\aH.same aH/\True)/\((c<=K/\K<=y)/\dvS (a,b) x.snd.fst/\(cQ H.row/\H.row.length=P)/\(cQ W/\W.length=Q)/\(∀(j:Nat),(↑j:Int)<y - K->bC W j c=c)/\bD H.row+U*bD W=F*ac/\bD (γ1 (y - K).toNat H.row)<U)/\(y - K).toNat<(y - x.fst).toNat)/\(aE=false->c<=z/\z<=z/\z*(4:Int)<=o/\z<=p/\(((ap.same ap/\(m 2 z.toNat 1).same (m 2 X.length 1)/\ad.same ad/\aq.same aq/\ae.same ae/\a1.same ah/\True)/\aI.same aI/\aJ.same aJ/\aK.same aK/\True)/\(c<=c/\c<=z)/\dvS (a,b) x.snd.fst/\(cQ C/\V=P)/\(cQ w/\w.length=Q)/\aM/\bD C<U/\(cQ X/\X.length=T.length)/\(∀(j:Nat),0<=j->bC X j c=c)/\ac*bD X=bD [] - aL+l*aL)/\∀(x:Int×Int×List Int×List Int×List Int),let aN:=γa .u64 x.snd.fst;let v:=x.snd.snd.fst;let aO:=m 0 v.length 1;let Y:=eZ (shl (eZ b) x.snd.fst.toNat);let Z:=(↑Y.length:Int);let aP:=g Z;let E:=x.fst+l;let aQ:=g E;let A:=x.snd.snd.snd.snd;let L:=A.length;let D:=x.fst.toNat;let ar:=bC v D c;let I:=q^x.snd.fst.toNat;let a7:=A.set D (ar / I);let M:=x.snd.snd.snd.fst;let a8:=M.length;let aR:=m 1 a8 1;let aS:=k t v 161 false;let aT:=k t M 161 true;let a9:=E.toNat;let aU:=bC v 0 c % I;let aV:=bC v a9 c;let aW:=decide (x.fst<Z);let J:=v.length;let aX:=decide (c<x.snd.fst);let au:=(n - x.snd.fst) % e;let b3:=aN.same aN/\aO.same aO/\aP.same aP/\aQ.same aQ/\True;let af:=L=a7.length;let aY:=x.fst<(↑a7.length:Int);let aZ:=D<a7.length;let b0:=bD v+bD Y*bD M=F*I;let b4:=(Z - E).toNat<(Z - x.fst).toNat;let b5:=aR.same aR;let b6:=c<=E/\E<=Z;let b1:=λ(u:List Int) (u_1:Int) ↦let a0:=u.set D u_1;let b2:=k t a0 161 true;h E/\((b5/\(m 2 L 1).same (m 2 a0.length 1)/\b3)/\aS.same aS/\aT.same aT/\b2.same b2/\True)/\(b6/\dvS (a,b) x.snd.fst/\(cQ v/\v.length=P)/\(cQ M/\a8=Q)/\b0/\bD v<bD Y/\(cQ a0/\a0.length=Y.length)/\(∀(j:Nat),a9<=j->bC a0 j c=c)/\I*bD a0=bD (ω a9 v) - aU+d^a9*(aV % I))/\b4;(c<=x.fst/\x.fst<=Z)/\dvS (a,b) x.snd.fst/\(cQ v/\v.length=P)/\(cQ M/\a8=Q)/\b0/\bD v<bD Y/\(cQ A/\L=Y.length)/\(∀(j:Nat),D<=j->bC A j c=c)/\I*bD A=bD (ω D v) - aU+d^D*(ar % I)->(aW=true->v.length=J/\c<=x.fst/\x.fst<(↑J:Int)/\v.length=J/\D<J/\c<=x.snd.fst/\x.snd.fst<=n/\L=A.length/\c<=x.fst/\x.fst<(↑A.length:Int)/\L=A.length/\D<A.length/\(aX=true->af/\c<=x.fst/\aY/\af/\aZ/\h E/\v.length=J/\c<=E/\E<(↑J:Int)/\v.length=J/\a9<J/\c<=au/\au<=n/\af/\c<=x.fst/\aY/\af/\aZ/\b1 a7 (J9.orI .u32 (bC a7 D c) (aV*q^au.toNat % d)))/\(aX=false->b1 A (ar / I)))/\(aW=false->a8=M.length/\L=A.length/\a8<=1000000000000/\L<=1000000000000/\(r [f t (eZ M),f t (eZ A),a1]).same aa))))))) (by kernel_rfl) ?_
 simp only[vcs]
 obtain⟨va,na⟩:=@adJ a
 obtain⟨vb,nb⟩:=@adJ b
 have da:=aej ha
 have db:=aej hb
 have la:=@ae6 a
 have lb:=@ae6 b
 have p0:=rf da
 have d0:cQ []:=by simp[cQ]
 simp only[dvS];rw[<-va,<-vb];rw[<-vb] at b0
 generalize eZ a=S at*
 generalize eZ b=T at*
 have hm:=γ8 (bD S) (show bD T≠0 by omega)
 have hl:=γO (bD S) b0
 have hT1:T.length≠0:=by
  intro h;rw[π h] at b0
  exact absurd b0 (by decide)
 refine⟨by omega,by omega,λh0=>by omega,λh0=>⟨⟨⟨da,db⟩,by omega,by omega⟩,λhlt=>⟨⟨⟨da,d0⟩,by omega,by omega⟩,?_⟩,λhge=>⟨λh1=>?_,λh1=>⟨?_,?_⟩⟩⟩⟩
 ·have hab:bD S<bD T:=by unfold Ig at hlt;split at hlt<;>(try split at hlt)<;>omega
  have hdv:bD S / bD T=0:=δQ p0 hab
  have hmv:bD S % bD T=bD S:=δm p0 hab
  refine⟨ap8 (by rw[hdv];rfl),?_⟩
  rw[hmv]
  simp[bD]
 ·obtain⟨d,rfl⟩:∃d,T=[d]:=List.length_eq_one_iff.1 (by omega)
  have hd:=(Kt.1 db).1
  have aE0:bC [d] 0 0=d:=rfl
  have hv:bD [d]=d:=by simp[bD]
  rw[hv] at b0 hm hl ⊢;rw[aE0]
  have hmm:bD S % d % 18446744073709551616=bD S % d:=by omega
  rw[hmm]
  repeat' refine γe ?_ ?_
  all_goals first|omega|exact da|rfl|(simp;done)
 ·have:=qb db (T.length - 1)
  repeat' refine γe ?_ ?_
  all_goals omega
 have awv:bD T<=bD S:=by unfold Ig at hge;split at hge<;>(try split at hge)<;>omega
 have hlen:T.length<=S.length:=by
  by_cases h:S.length<T.length
  ·have:=ahN da db nb h
   omega
  ·omega
 have hTn:2<=T.length:=by omega
 clear hge h0 h1 hT1 va vb d0
 rintro s ⟨⟨s0,s1⟩,hs⟩
 have t1:((T.length:Int) - 1).toNat=T.length - 1:=by omega
 have hxt:=qb db (T.length - 1)
 have hps:(0:Int)<2^s.toNat:=γU (by decide)
 have hnn:0<=bC T (T.length - 1) 0*2^s.toNat:=γh hxt.1 (φ hps)
 have hmod:bC T (T.length - 1) 0*2^s.toNat % 4294967296=bC T (T.length - 1) 0*2^s.toNat:=by omega
 rw[t1,hmod]
 repeat refine γe (by omega) ?_
 refine⟨λhc=>?_,λhc=>?_⟩
 ·have htop:1<=bC T (T.length - 1) 0:=by
   by_cases h:1<=bC T (T.length - 1) 0
   ·exact h
   ·exfalso
    have h4:=amd db nb (by rintro rfl;simp at hTn)
    have h5:bD T=bD (T.take (T.length - 1))+4294967296^(T.length - 1)*bC T (T.length - 1) 0:=by
     have:=@KE T (T.length - 1)
     rwa [show T.length - 1+1=T.length by omega,τ] at this
    have h6:=Ku (SU db (T.length - 1))
    rw[γd,δO (by omega)] at h6
    rw[show bC T (T.length - 1) 0=0 by omega,δL] at h5
    omega
  have h31:s<=30:=by
   by_cases h:s<=30
   ·exact h
   ·have aE2:s.toNat=31:=by omega
    rw[aE2,show(2:Int)^31=2147483648 from rfl] at hc;omega
  have e:((s+1) % 18446744073709551616)=s+1:=by omega
  have e2:(s+1).toNat=s.toNat+1:=by omega
  rw[e,e2,γx,<-γI]
  repeat' refine γe ?_ ?_
  all_goals omega
 ·obtain⟨dw,lw,vw,tw,ajP⟩:=aqd db (by omega) (show s.toNat<=31 by omega) hs (by omega)
  obtain⟨ds,ls,vs,hst⟩:=awD da db (show s.toNat<=31 by omega) hlen (by omega) ajP
  have hds:∀z,shD (z,s)↔(cQ z/\z.length<=100000000000):=λz=>⟨λh=>⟨h.1,h.2.1⟩,λh=>⟨h.1,h.2,s0,s1⟩⟩
  have fK:(shl T s.toNat).length=T.length+1:=ajq
  have bits:(0<=s/\s<=31)/\bC T (T.length - 1) 0*2^s.toNat<4294967296/\2147483648<=bC T (T.length - 1) 0*2^s.toNat:=⟨⟨s0,s1⟩,hs,by omega⟩
  rw[hds,hds,fK,ls]
  refine⟨⟨da,by omega⟩,⟨db,by omega⟩,?_⟩
  repeat refine γe (by omega) ?_
  refine⟨?_,?_⟩
  ·repeat' refine γe ?_ ?_
   all_goals first|omega|exact Yo (by simp)|exact Yo (by omega)|exact ds|exact ah0|exact λj _=>aww|(simp;omega)|(rw[agt,δL,εk];exact vs)|(rw[vw,show((S.length:Int) - T.length+1 - 0).toNat=S.length - T.length+1 by omega];exact hst)
  clear hst vs ls ds bits hds hmod hnn hps hxt ajP tw vw lw dw fK t1 hc hs s0 s1
  clear s
  rintro⟨i,s,U,q⟩ ⟨⟨i0,i1⟩,⟨⟨s0,s1⟩,hs,hs2⟩,⟨hU,hUl⟩,⟨hq,hql⟩,hz,he,hlt⟩
  simp only at i0 i1 s0 s1 hs hs2 hU hUl hq hql hz he hlt ⊢
  obtain⟨dw,lw,vw,tw,ajP⟩:=aqd db (by omega) (show s.toNat<=31 by omega) hs (by omega)
  generalize hw:eZ (shl T s.toNat)=w at*
  have hw0:0<bD w:=by
   rw[vw]
   exact εl b0 (γU (by decide))
  refine⟨λilt=>?_,λige=>?_⟩
  ·obtain⟨j,hj⟩:∃j:Nat,(S.length:Int) - T.length - i=j:=⟨((S.length:Int) - T.length - i).toNat,by omega⟩
   have e1:((j:Int)+w.length+1).toNat - j=w.length+1:=by omega
   have e2:((S.length:Int) - T.length+1 - i).toNat=j+1:=by omega
   rw[e2] at hlt
   obtain⟨k1,⟨k2,k3⟩,⟨k4,k5⟩,k6,k7⟩:=aEk (j:=j) (m:=S.length - T.length) hU dw hq (by omega) (by omega) (by omega) (by omega) hw0 (hz j (by omega)) he hlt
   have e3:((S.length:Int) - T.length+1 - (i+1)).toNat=j:=by omega
   simp only[hj,e1,e3,Int.toNat_natCast,DgA.row,DgA.x,DgA.ok]
   repeat' refine γe ?_ ?_
   all_goals first|omega|exact Yo (by simp)|exact Yo k3.symm|exact trivial|exact hU|exact dw|exact k1|exact k2|exact k6|exact k7|exact aa2 hq k4 k5|(simp;omega)|(rw[lw];exact tw)|exact λp hp=>by rw[acB (by omega)];exact hz p (by omega)
  ·have e2:((S.length:Int) - T.length+1 - i).toNat=0:=by omega
   rw[e2,List.drop_zero] at hlt
   repeat refine γe (by omega) ?_
   refine⟨?_,?_⟩
   ·have h1:=@KE U 0
    simp only[List.take_zero,bD,εj,Int.one_mul]
    repeat' refine γe ?_ ?_
    all_goals first|omega|exact Yo (by simp)|exact hU|exact hq|exact he|exact hlt|exact ah0|exact λj _=>aww|(simp;done)|(rw[agt];omega)
   clear hlt hz e2 ige i0 i1 tw ajP hw0 hs hs2 s0 s1 he hU hUl hq hql
   clear hw dw lw vw
   clear w s i U q
   rintro⟨i,s,U,q,r⟩ ⟨⟨i0,i1⟩,⟨⟨s0,s1⟩,hs,hs2⟩,⟨hU,hUl⟩,⟨hq,hql⟩,he,hlt,⟨hr,hrl⟩,hz,hv⟩
   simp only at i0 i1 s0 s1 hs hs2 hU hUl hq hql he hlt hr hrl hz hv ⊢
   obtain⟨dw,lw,vw,tw,ajP⟩:=aqd db (by omega) (show s.toNat<=31 by omega) hs (by omega)
   generalize hw:eZ (shl T s.toNat)=w at*
   refine⟨λilt=>?_,λige=>?_⟩
   ·have x0:=qb hU i.toNat
    have x1:=qb hU (i.toNat+1)
    have e1:(i+1).toNat=i.toNat+1:=by omega
    have x2:=qb hr i.toNat
    have hps:(0:Int)<2^s.toNat:=γU (by decide)
    have y0:0<=bC U i.toNat 0 / 2^s.toNat:=γ9 x0.1 (φ hps)
    have y1:bC U i.toNat 0 / 2^s.toNat<=bC U i.toNat 0:=εW _ x0.1
    have e2:((32 - s) % 18446744073709551616).toNat=32 - s.toNat:=by omega
    have e3:(r.set i.toNat (bC U i.toNat 0 / 2^s.toNat)).set i.toNat=r.set i.toNat:=by funext z;rw[List.set_set]
    simp only[e1,e2,e3,ael (show i.toNat<r.length by omega),List.length_set]
    repeat refine γe (by omega) ?_
    refine⟨λhs0=>?_,λhs0=>?_⟩
    ·obtain⟨d,hd1,hd2,hd3⟩:=aEl (s:=s.toNat) x0.1 x0.2 x1.1 x1.2 (by omega) (by omega)
     obtain⟨k1,k2,k3,k4⟩:=awE hU hr (show i.toNat<r.length by omega) hz hd2 hd3 hv
     rw[hd1]
     repeat' refine γe ?_ ?_
     all_goals first|omega|exact Yo (by simp)|exact hU|exact hq|exact k1|exact k3|exact k4|exact he|exact hlt|trivial
    ·have aE3:s.toNat=0:=by omega
     obtain⟨k1,k2,k3,k4⟩:=awE (s:=s.toNat) (d:=bC U i.toNat 0 / 2^s.toNat) hU hr (show i.toNat<r.length by omega) hz ⟨y0,by omega⟩ (by rw[aE3];simp) hv
     repeat' refine γe ?_ ?_
     all_goals first|omega|exact Yo (by simp)|exact hU|exact hq|exact k1|exact k3|exact k4|exact he|exact hlt|trivial
   ·have hi:i.toNat=w.length:=by omega
    rw[hi] at hv
    obtain⟨w1,w2⟩:=aEm hU hr dw rfl hlt vw b0 he (show s.toNat<=31 by omega) (by omega) hv
    rw[acZ hq,acZ hr,w1,w2]
    repeat' refine γe ?_ ?_
    all_goals first|omega|rfl|trivial
theorem agw {a b:List Int} (d:cQ a) (c:cQ b) (f:qH a) (h:bD a<=bD b):a.length<=b.length:=by
 by_cases e:a.length<=b.length
 ·exact e
 ·have:=ahN c d f (by omega)
  omega
def ams:fN:=⟨140,List Int×List Int,.cons (mA (.i .u32)) (.one (mA (.i .u32))),λa=>(cQ a.1/\cQ a.2)/\(a.1.length<=1000000000/\a.2.length<=1000000000),
 λa=> .row (.i .u32) (ey (q9 (bD a.1) (bD a.2)))⟩
def aE4 (a:List Int×List Int):Nat->jY
 |2=> .inv (List Int×List Int) (λx=>⟨[(0,.row (.i .u32) x.1),(1,.row (.i .u32) x.2)],[]⟩) (λs=>(rS (.i .u32) s 0,rS (.i .u32) s 1))
  (λx=>(cQ x.1/\cQ x.2)/\(qH x.1/\qH x.2)/\(x.1.length<=1000000000/\x.2.length<=1000000000)/\q9 (bD x.1) (bD x.2)=q9 (bD a.1) (bD a.2)) (λx=>(bD x.2).toNat) λ_ _=> .look
 |_=> .look
theorem h165g:Holds Tryz.prog ams:=by
 refine kh (L:=[ajp,amo]) ams aE4 (by grind[h154,h166g]) ?_
 rintro⟨a,b⟩ ⟨⟨l,k⟩,⟨n,m⟩⟩
 simp only at l k n m
 refine gp (let h:=Ξ;let c:=cn.i .u32;let f:=ey (bD a+bD []);let e:=ey (bD b+bD []);let g:=q9 (bD a) (bD b);((cQ a/\cQ [])/\a.length<=100000000000/\0<=100000000000)/\((cQ b/\cQ [])/\b.length<=100000000000/\0<=100000000000)/\((((h c f).same (h c f)/\(h c e).same (h c e)/\True)/\True)/\(cQ f/\cQ e)/\(qH f/\qH e)/\(f.length<=1000000000/\e.length<=1000000000)/\q9 (bD f) (bD e)=g)/\∀(x:List Int×List Int),let v:=decide ((0:Int)<(↑x.snd.length:Int));let d:=ey (bD x.fst % bD x.snd);(cQ x.fst/\cQ x.snd)/\(qH x.fst/\qH x.snd)/\(x.fst.length<=1000000000/\x.snd.length<=1000000000)/\q9 (bD x.fst) (bD x.snd)=g->(v=true->((cQ x.fst/\cQ x.snd)/\(x.fst.length<=10000000000/\x.snd.length<=10000000000)/\(0:Int)<bD x.snd)/\(false=true->(h c x.fst).same (h c (ey g)))/\(false=false->(((h c x.snd).same (h c x.snd)/\(h c d).same (h c d)/\True)/\True)/\((cQ x.snd/\cQ d)/\(qH x.snd/\qH d)/\(x.snd.length<=1000000000/\d.length<=1000000000)/\q9 (bD x.snd) (bD d)=g)/\(bD d).toNat<(bD x.snd).toNat))/\(v=false->(h c x.fst).same (h c (ey g)))) (by kernel_rfl) ?_
 simp only[vcs]
 have r:cQ []:=by simp[cQ]
 have N:=rf l
 have E:=rf k
 have z:bD []=0:=rfl
 rw[z,εk,εk]
 obtain⟨Q,y,D⟩:=ri N
 obtain⟨o,w,H⟩:=ri E
 have p:(ey (bD a)).length<=1000000000:=by
  rw[<-acZ l]
  grind[ae6]
 have j:(ey (bD b)).length<=1000000000:=by
  rw[<-acZ k]
  grind[ae6]
 refine⟨⟨⟨l,r⟩,by omega,by omega⟩,⟨⟨k,r⟩,by omega,by omega⟩,⟨⟨y,w⟩,⟨D,H⟩,⟨p,j⟩,by rw[Q,o]⟩,?_⟩
 rintro⟨s,t⟩ ⟨⟨u,q⟩,⟨J,C⟩,⟨O,G⟩,F⟩
 simp only at u q J C G O F ⊢
 have T:=rf u
 have U:=rf q
 refine⟨λB=>?_,λB=>?_⟩
 ·have h:0<bD t:=by
   grind[val_zero]
  have K:=γ8 (bD s) (show bD t≠0 by omega)
  have A:=γO (bD s) h
  obtain⟨I,M,S⟩:=ri K
  have P:=agw M q S (by rw[I];omega)
  grind[awr]
 ·have R:t=[]:=π (by omega)
  grind[aws,aek]
def XA (q:Rat):SV:=.agg (encS sF (cC q))
def lT (x:fi):Prop:=∃q k,x=cC q/\Sz k q/\k<=100000000
def sY (s:Bool) (n d:Int):Rat:=mkRat (if s then -n else n) d.toNat
def amt:fN:=⟨61,Int,.one (sx .i64),λn=> -9223372036854775808<=(show Int from n)/\(show Int from n)<=9223372036854775807,λn=> .row (.i .u32) (ey ((show Int from n).natAbs:Int))⟩
theorem h127:Holds Tryz.prog amt:=by
 refine kh (L:=[ah6]) amt lk (by grind[h128]) ?_
 intro(n:Int) h
 obtain⟨e,f⟩: -9223372036854775808<=n/\n<=9223372036854775807:=h
 refine gp (let e:=(18446744073709551616:Int);let f:=(1:Int);let g:=(0:Int);let h:=Ξ;let d:=decide (n<g);let a:=(-(n+f)+f) % e;let b:=cn.i .u32;let c:=h b (ey (↑n.natAbs:Int));(d=true->ie .i64 (n+f)/\ie .i64 (-(n+f))/\ie .u64 (-(n+f))/\(g<=a/\a<e)/\(h b (ey a)).same c)/\(d=false->ie .u64 n/\(g<=n/\n<e)/\(h b (ey n)).same c)) (by kernel_rfl) ?_
 simp only[vcs]
 grind[u64_in]
def ajQ:fN:=⟨95,Bool×(List Int×List Int),.cons aoU (.cons (mA (.i .u32)) (.one (mA (.i .u32)))),λa=>(cQ a.2.1/\cQ a.2.2)/\(a.2.1.length<=1000000000/\a.2.2.length<=1000000000)/\0<bD a.2.2,
 λa=> .eW [XA (sY a.1 (bD a.2.1) (bD a.2.2)),.si .i64 0]⟩
theorem h151:Holds Tryz.prog ajQ:=by
 refine kh (L:=[ams,amo]) ajQ lk (by grind[h165g,h166g]) ?_
 rintro⟨s,n,d⟩ ⟨⟨c,f⟩,⟨t,p⟩,j⟩
 simp only at c f t p j
 refine gp (let b:=δe false;let c:=γu .i64;let e:=Ξ;let f:=(0:Int);let g:=γL;let h:=SV.eW;let k:=e (cn.i .i64) [];let w:=cC (sY s (bD n) (bD d));let l:=cn.i .u32;let y:=h [g [γv w.fst,e l w.snd.fst,e l w.snd.snd],γa .i64 0];let a:=ey (q9 (bD n) (bD d));let C:=ey (bD n / bD a);let B:=decide ((↑d.length:Int)=f);let F:=false=true->(h [g [b,k,k],c 8]).same y;let E:=λ(u:Bool) (v:SV) ↦s=u->(h [g [v,e l C,e l (ey (bD d / bD a))],c 0]).same y;(B=true->(h [g [b,k,k],c 8]).same y)/\(B=false->((cQ n/\cQ d)/\n.length<=1000000000/\d.length<=1000000000)/\((cQ n/\cQ a)/\(n.length<=10000000000/\a.length<=10000000000)/\f<bD a)/\((cQ d/\cQ a)/\(d.length<=10000000000/\a.length<=10000000000)/\f<bD a)/\F/\(false=false->F/\(false=false->E true (γv (decide (f<(↑C.length:Int))))/\E false (b))))) (by kernel_rfl) ?_
 simp only[vcs]
 have D:=rf c
 have b:0<q9 (bD n) (bD d):=by
  simp_all[q9]
 have K:q9 (bD n) (bD d)<=bD d:=by
  unfold q9
  have:=ζw (bD n).toNat (show 0<(bD d).toNat by omega)
  omega
 have o:q9 (bD n) (bD d)∣bD n:=by
  unfold q9
  have:=Nat.gcd_dvd_left (bD n).toNat (bD d).toNat
  have S:=Int.natCast_dvd_natCast.2 this
  grind
 obtain⟨R,q,Q⟩:=ri (φ b)
 have I:=agw q (aej f) Q (by grind[adJ])
 have P:=@ae6 d
 have A:0<=bD n / q9 (bD n) (bD d):=γ9 D (φ b)
 obtain⟨N,H,M⟩:=ri A
 have G:(0<((ey (bD n / q9 (bD n) (bD d))).length:Int))↔0<bD n:=by
  obtain⟨m,e⟩:=o
  have r:bD n / q9 (bD n) (bD d)=m:=by
   conv=>lhs;arg 1;rw[e]
   rw[Int.mul_ediv_cancel_left _ (by omega)]
  rw[r] at N H M ⊢
  have z:0<bD n↔0<m:=by
   generalize q9 (bD n) (bD d)=g at*
   rw[e]
   constructor
   ·grind
   ·intro h;exact εl b h
  rw[z]
  constructor
  ·intro h
   by_cases e:m=0
   ·rw[e] at h;exact absurd h (by decide)
   ·omega
  ·intro h
   by_cases T:(ey m).length=0<;>grind[ey,bD]
 have O:d.length≠0:=by
  intro h;rw[π h] at j
  exact absurd j (by decide)
 unfold sY;rw[aqe D j,R]
 simp only
 refine⟨λh=>absurd h (by omega),λ_=>⟨⟨⟨c,f⟩,by omega,by omega⟩,⟨⟨c,q⟩,by omega,b⟩,⟨⟨f,q⟩,by omega,b⟩,?_⟩⟩
 have J:decide (0<((ey (bD n / q9 (bD n) (bD d))).length:Int))=decide (0<bD n):=by
  simp_all
 refine⟨λh=>absurd h (by decide),λ_=>⟨λh=>absurd h (by decide),λ_=>⟨λx=>?_,λx=>?_⟩⟩⟩
 ·rw[x,J]
  rfl
 ·rw[x]
  rfl
def ah7:fN:=⟨60,Bool×(List Int×List Int),.cons aoU (.cons (mA (.i .u32)) (.one (mA (.i .u32)))),λa=>(cQ a.2.1/\cQ a.2.2)/\(a.2.1.length<=1000000000/\a.2.2.length<=1000000000)/\0<bD a.2.2,
 λa=>XA (sY a.1 (bD a.2.1) (bD a.2.2))⟩
theorem h126:Holds Tryz.prog ah7:=by
 refine kh (L:=[ajQ]) ah7 lk (by grind[h151]) ?_
 rintro⟨s,n,d⟩ ⟨⟨h,g⟩,⟨a,c⟩,f⟩
 simp only at h g a c f
 refine gp (let b:=cC (sY s (bD n) (bD d));let e:=γL [γv b.fst,Ξ (cn.i .u32) b.snd.fst,Ξ (cn.i .u32) b.snd.snd];((cQ n/\cQ d)/\(n.length<=1000000000/\d.length<=1000000000)/\(0:Int)<bD d)/\e.same e) (by kernel_rfl) ?_
 simp_all[vcs]
def r94:fN:=⟨34,Int,.one (sx .i64),λn=> -9223372036854775808<=(show Int from n)/\(show Int from n)<=9223372036854775807,λn=>XA ((show Int from n):Rat)⟩
theorem h94:Holds Tryz.prog r94:=by
 refine kh (L:=[amt,ah6,ah7]) r94 lk (by grind[h127,h128,h126]) ?_
 intro(n:Int) h
 obtain⟨o,p⟩: -9223372036854775808<=n/\n<=9223372036854775807:=h
 refine gp (let e:=Ξ;let g:=(1:Int);let h:=(0:Int);let c:=ey (↑n.natAbs:Int);let b:=ey g;let f:=cC (sY (decide (n<h)) (bD c) (bD b));let a:=cn.i .u32;let d:=cC (ξ n);((-9223372036854775808:Int)<=n/\n<=(9223372036854775807:Int))/\(h<=g/\g<(18446744073709551616:Int))/\((cQ c/\cQ b)/\(c.length<=1000000000/\b.length<=1000000000)/\h<bD b)/\(γL [γv f.fst,e a f.snd.fst,e a f.snd.snd]).same (γL [γv d.fst,e a d.snd.fst,e a d.snd.snd])) (by kernel_rfl) ?_
 conv=>zeta
 obtain⟨j,g,t⟩:=ri (show(0:Int)<=(n.natAbs:Int) by omega)
 obtain⟨l,m,s⟩:=ri (show(0:Int)<=1 by omega)
 have u:=Lq (k:=2) (show(0:Int)<=(n.natAbs:Int) by omega) (by omega)
 have q:=Lq (k:=1) (show(0:Int)<=1 by omega) (by decide)
 refine⟨⟨o,p⟩,⟨by omega,by omega⟩,⟨⟨g,m⟩,⟨by omega,by omega⟩,by omega⟩,?_⟩
 have e:sY (decide (n<0)) (bD (ey (n.natAbs:Int))) (bD (ey 1))=ξ n:=by
  rw[j,l];unfold sY
  have r:(if decide (n<0)=true then -(n.natAbs:Int) else(n.natAbs:Int))=n:=by
   grind
  grind[Rat.mkRat_one]
 rw[e];rfl
def HW (q:Rat):Int:=if q<0 then -1 else if 0<q then 1 else 0
def r99:fN:=⟨126,fi,.one (Ac sF),lT,λx=> .si .i64 (HW (fa x))⟩
theorem h99:Holds Tryz.prog r99:=by
 refine kh (L:=[]) r99 lk (by simp) ?_
 intro(x:fi) h
 obtain⟨q,k,rfl,m,f⟩:lT x:=h
 refine gp (let c:=γu .i64;let b:=decide ((↑(γb (cC q).snd.fst):Int)=(0:Int));let a:=γa .i64 (HW (fa (cC q)));(b=true->(c 0).same a)/\(b=false->((cC q).fst=true->(c (-1:Int)).same a)/\((cC q).fst=false->(c 1).same a))) (by kernel_rfl) ?_
 simp only[vcs];rw[sy]
 have e:((cC q).2.1.length:Int)=0↔q.num=0:=by
  unfold cC
  simp only
  obtain⟨d,j,i⟩:=ri (show(0:Int)<=(q.num.natAbs:Int) by omega)
  constructor
  ·intro h
   rw[π (by omega:(ey (q.num.natAbs:Int)).length=0)] at d
   grind[bD]
  ·intro h
   rw[h];rfl
 have c:(cC q).1=decide (q<0):=rfl
 have n:=@Rat.num_nonneg q
 have l:q<0↔q.num<0:=by
  grind
 have g:0<q↔0<q.num:=by
  grind[ε2]
 rw[e,c];simp only[decide_eq_true_eq,decide_eq_false_iff_not];unfold HW
 grind
def agx (x:fi):Prop:=(cQ x.2.1/\cQ x.2.2)/\x.2.1.length<=100000000/\x.2.2.length<=100000000
def amu:fN:=⟨68,fi×fi,.cons (Ac sF) (.one (Ac sF)),λa=>agx a.1/\agx a.2,λa=> .eW [.row (.i .u32) (ey (bD a.1.2.1*bD a.2.2.2)),.row (.i .u32) (ey (bD a.2.2.1*bD a.1.2.2))]⟩
theorem h131:Holds Tryz.prog amu:=by
 refine kh (L:=[ah1]) amu lk (by grind[h153]) ?_
 rintro⟨⟨s,n,d⟩,⟨o,b,a⟩⟩ ⟨⟨⟨e,j⟩,g,f⟩,⟨⟨k,h⟩,l,m⟩⟩
 simp only at e j g f k h l m
 refine gp (let c:=SV.eW [Ξ (cn.i .u32) (ey (bD n*bD a)),Ξ (cn.i .u32) (ey (bD b*bD d))];((cQ n/\cQ a)/\n.length<=100000000000/\a.length<=100000000000)/\((cQ b/\cQ d)/\b.length<=100000000000/\d.length<=100000000000)/\c.same c) (by kernel_rfl) ?_
 simp only[vcs]
 grind
theorem afo {p q:Rat} (h:p=q):(γL [.sb (cC p).1,.row (.i .u32) (cC p).2.1,.row (.i .u32) (cC p).2.2]).same (.agg [.sb (cC q).1,.row (.i .u32) (cC q).2.1,.row (.i .u32) (cC q).2.2]):=by subst h;rfl
theorem agy (q:Rat):q.num=if decide (q<0) then -(q.num.natAbs:Int) else(q.num.natAbs:Int):=by
 have a:=@Rat.num_nonneg q
 grind
theorem QY (q:Rat):(cC q).1=decide (q<0)/\(cQ (cC q).2.1/\qH (cC q).2.1/\bD (cC q).2.1=(q.num.natAbs:Int))/\(cQ (cC q).2.2/\qH (cC q).2.2/\bD (cC q).2.2=(q.den:Int)):=by
 obtain⟨f,e,d⟩:=ri (show(0:Int)<=(q.num.natAbs:Int) by omega)
 obtain⟨b,c,a⟩:=ri (show(0:Int)<=(q.den:Int) by omega)
 exact⟨rfl,⟨e,d,f⟩,⟨c,a,b⟩⟩
theorem aaD {q:Rat} {k:Nat} (h:Sz k q):(cC q).2.1.length<=k/\(cC q).2.2.length<=k:=
 ⟨Lq (by omega) h.1,Lq (by omega) h.2⟩
theorem aE5 (q:Rat):sY (!decide (q<0)) (q.num.natAbs:Int) (q.den:Int)= -q:=by
 unfold sY
 have h:=agy q
 have e:(if(!decide (q<0))=true then -(q.num.natAbs:Int) else(q.num.natAbs:Int))= -q.num:=by
  grind
 grind[Rat.mkRat_self,Rat.neg_mkRat]
def ah8:fN:=⟨129,fi,.one (Ac sF),lT,λx=>XA (-(fa x))⟩
theorem h130:Holds Tryz.prog ah8:=by
 refine kh (L:=[ah7]) ah8 lk (by grind[h126]) ?_
 intro(x:fi) h
 obtain⟨q,k,rfl,f,g⟩:lT x:=h
 refine gp (let f:=Ξ;let c:=(cC q).snd.fst;let a:=(cC q).snd.snd;let d:=cC (sY (!(cC q).fst) (bD c) (bD a));let b:=cn.i .u32;let e:=(cC (-fa (cC q))).snd;((cQ c/\cQ a)/\(γb c<=1000000000/\γb a<=1000000000)/\(0:Int)<bD a)/\(γL [γv d.fst,f b d.snd.fst,f b d.snd.snd]).same (γL [γv (cC (-fa (cC q))).fst,f b e.fst,f b e.snd])) (by kernel_rfl) ?_
 conv=>zeta
 obtain⟨s,⟨r,p,u⟩,⟨o,l,n⟩⟩:=QY q
 obtain⟨j,m⟩:=aaD f
 have t:=q.den_pos
 grind[afo,sy,aE5]
theorem aa8 {a b:Int} {i j:Nat} (e:0<=a) (c:a<4294967296^i) (d:b<4294967296^j):a*b<4294967296^(i+j):=by
 rw[δg]
 exact εb (ν (φ d) e) (γP c (pow_pos _))
theorem aqw {p q:Rat} {i j:Nat} (c:Sz i p) (b:Sz j q):∃X Y D:Int,bD (cC p).2.1*bD (cC q).2.2=X/\bD (cC q).2.1*bD (cC p).2.2=Y/\bD (cC p).2.2*bD (cC q).2.2=D/\0<=X/\0<=Y/\0<D/\
  (ey X).length<=i+j/\(ey Y).length<=i+j/\(ey (X+Y)).length<=i+j+1/\(ey (X - Y)).length<=i+j/\(ey (Y - X)).length<=i+j/\(ey D).length<=i+j/\p.num*q.den=(if decide (p<0) then -X else X)/\q.num*p.den=(if decide (q<0) then -Y else Y)/\((p.den*q.den:Nat):Int)=D:=by
 obtain⟨_,⟨_,_,l⟩,⟨_,_,r⟩⟩:=QY p
 obtain⟨_,⟨_,_,n⟩,⟨_,_,m⟩⟩:=QY q
 rw[l,r,n,m]
 have s:=p.den_pos
 have t:=q.den_pos
 have k:=aa8 (a:=(p.num.natAbs:Int)) (by omega) c.1 b.2
 have d:=aa8 (a:=(q.num.natAbs:Int)) (by omega) b.1 c.2
 rw[Nat.add_comm j i] at d
 have o:=aa8 (a:=(p.den:Int)) (by omega) c.2 b.2
 have f:0<=(p.num.natAbs:Int)*q.den:=γh (by omega) (by omega)
 have e:0<=(q.num.natAbs:Int)*p.den:=γh (by omega) (by omega)
 have g:0<(p.den:Int)*q.den:=εl (by omega) (by omega)
 have v:=agy p
 have u:=agy q
 refine⟨_,_,_,rfl,rfl,rfl,f,e,g,Lq f k,Lq e d,Lq (by omega) ?_,?_,?_,Lq (by omega) o,?_,?_,by push_cast;rfl⟩
 ·omega
 ·by_cases h:(p.num.natAbs:Int)*q.den - (q.num.natAbs:Int)*p.den<=0
  ·grind[amc]
  ·exact Lq (by omega) (by omega)
 ·by_cases h:(q.num.natAbs:Int)*p.den - (p.num.natAbs:Int)*q.den<=0
  ·grind[amc]
  ·exact Lq (by omega) (by omega)
 all_goals grind
theorem awZ {p q:Rat} {s:Bool} {n D:Int} (a:((p.den*q.den:Nat):Int)=D) (h:p.num*q.den+q.num*p.den=if s then -n else n):sY s n D=p+q:=by
 rw[awH]
 grind[sY]
theorem amv {p:Rat} {k:Nat} (h:Sz k p) (c:k<=100000000):agx (cC p):=by
 obtain⟨_,⟨a,_,_⟩,⟨b,_,_⟩⟩:=QY p
 have:=aaD h
 exact⟨⟨a,b⟩,by omega,by omega⟩
def Kr (p q:Rat):Int:=if p<q then -1 else if q<p then 1 else 0
def r97:fN:=⟨37,fi×fi,.cons (Ac sF) (.one (Ac sF)),λa=>lT a.1/\lT a.2,λa=> .si .i64 (Kr (fa a.1) (fa a.2))⟩
theorem h97:Holds Tryz.prog r97:=by
 refine kh (L:=[amu,ahO]) r97 lk (by grind[h131,h132]) ?_
 rintro⟨x,y⟩ ⟨⟨p,i,t,w,S⟩,⟨q,j,r,o,T⟩⟩
 simp only at t r
 subst t r
 refine gp (let a:=(cC p).fst;let g:=γa .i64 (Kr (fa (cC p)) (fa (cC q)));let s:=λ(u:Bool) (c b:Rat) ↦let k:=ey (bD (cC c).snd.fst*bD (cC b).snd.snd);let l:=ey (bD (cC b).snd.fst*bD (cC c).snd.snd);a=u->((cQ k/\cQ l)/\k.length<=1000000000000/\l.length<=1000000000000)/\(γa .i64 (Ig (bD k) (bD l))).same g;((!a==(cC q).fst)=true->(a=true->(γu .i64 (-1:Int)).same g)/\(a=false->(γu .i64 1).same g))/\((!a==(cC q).fst)=false->(agx (a,(cC p).snd.fst,(cC p).snd.snd)/\agx ((cC q).fst,(cC q).snd.fst,(cC q).snd.snd))/\s true q p/\s false p q)) (by kernel_rfl) ?_
 conv=>zeta
 obtain⟨C,_,_⟩:=QY p
 obtain⟨P,_,_⟩:=QY q
 obtain⟨X,Y,D,E,M,hD,G,N,U,l1,l2,l3,l4,Z,V,B,A,W⟩:=aqw w o
 obtain⟨J,v,c3⟩:=ri G
 obtain⟨K,n,c6⟩:=ri N
 simp only[sy,E,M,J,K,C,P];simp only[vcs]
 have hl:p<q↔p.num*q.den<q.num*p.den:=Rat.lt_iff p q
 have R:q<p↔q.num*p.den<p.num*q.den:=Rat.lt_iff q p
 have O:=@Rat.num_nonneg p
 have H:=@Rat.num_nonneg q
 have m:∀{z:Int},(z=if p.num*q.den<q.num*p.den then -1 else if q.num*p.den<p.num*q.den then 1 else 0)->z=Kr p q:=λh=>by
  grind[Kr]
 have Q:p<0->0<X:=λh=>by
  rw[if_pos (by simpa using h)] at B
  have f:p.num<0:=by grind
  have:=εv f (show(0:Int)<q.den by grind)
  omega
 have F:q<0->0<Y:=λh=>by
  rw[if_pos (by simpa using h)] at A
  have f:q.num<0:=by grind
  have:=εv f (show(0:Int)<p.den by grind)
  omega
 rw[B,A] at m
 refine⟨λI=>⟨λd=>?_,λd=>?_⟩,λhe=>⟨⟨amv w S,amv o T⟩,λd=>⟨⟨⟨n,v⟩,by omega,by omega⟩,?_⟩,λd=>⟨⟨⟨v,n⟩,by omega,by omega⟩,?_⟩⟩⟩
 ·grind
 ·grind
 ·apply m
  have e:q<0:=by
   grind
  simp only[decide_eq_true_eq,d,e,if_true,if_false];simp only[Int.neg_lt_neg_iff];rfl
 ·apply m
  have e:¬q<0:=λe=>by grind
  simp only[decide_eq_true_eq,d,e,if_true,if_false];rfl
def ajS:fN:=⟨66,fi×fi,.cons (Ac sF) (.one (Ac sF)),λa=>lT a.1/\lT a.2,λa=>XA (fa a.1+fa a.2)⟩
theorem h129:Holds Tryz.prog ajS:=by
 refine kh (L:=[amu,ah1,ajp,ap9,ah7]) ajS lk (by grind[h131,h153,h154,h155,h126]) ?_
 rintro⟨x,y⟩ ⟨⟨p,i,J,w,S⟩,⟨q,j,E,B,hj⟩⟩
 simp only at J E
 subst J E
 refine gp (let h:=Ξ;let j:=γL;let m:=(cC q).snd.snd;let f:=ey (bD (cC p).snd.fst*bD m);let t:=(cC p).snd.snd;let k:=ey (bD (cC q).snd.fst*bD t);let a:=ey (bD t*bD m);let g:=cn.i .u32;let z:=cC (fa (cC p)+fa (cC q));let o:=j [γv z.fst,h g z.snd.fst,h g z.snd.snd];let v:=(cC p).fst==(cC q).fst;let c:=ey (bD f+bD k);let d:=cC (sY (cC p).fst (bD c) (bD a));let I:=(cQ f/\cQ k)/\f.length<=100000000000/\k.length<=100000000000;let K:=λ(u r:Rat) ↦let e:=ey (bD (ey (bD (cC u).snd.fst*bD (cC r).snd.snd)) - bD (ey (bD (cC r).snd.fst*bD (cC u).snd.snd)));let b:=cC (sY (cC u).fst (bD e) (bD a));((cQ e/\cQ a)/\(e.length<=1000000000/\a.length<=1000000000)/\(0:Int)<bD a)/\(j [γv b.fst,h g b.snd.fst,h g b.snd.snd]).same o;let F:=λ(u:Bool) ↦decide (bD k<=bD f)=u;(agx ((cC p).fst,(cC p).snd.fst,t)/\agx ((cC q).fst,(cC q).snd.fst,m))/\((cQ t/\cQ m)/\γb t<=100000000000/\γb m<=100000000000)/\(v=true->I/\((cQ c/\cQ a)/\(c.length<=1000000000/\a.length<=1000000000)/\(0:Int)<bD a)/\(j [γv d.fst,h g d.snd.fst,h g d.snd.snd]).same o)/\(v=false->I/\(F true->K p q)/\(F false->((cQ k/\cQ f)/\k.length<=100000000000/\f.length<=100000000000)/\K q p))) (by kernel_rfl) ?_
 conv=>zeta
 obtain⟨O,⟨u1,_,_⟩,⟨u2,_,_⟩⟩:=QY p
 obtain⟨W,⟨u3,_,_⟩,⟨P,_,_⟩⟩:=QY q
 obtain⟨m1,m2⟩:=aaD w
 obtain⟨m3,m4⟩:=aaD B
 obtain⟨X,Y,D,T,Q,hD,U,R,C,l1,l2,l3,l4,l5,l6,n1,n2,n3⟩:=aqw w B
 obtain⟨N,H,c3⟩:=ri U
 obtain⟨c4,G,c6⟩:=ri R
 obtain⟨c7,V,c9⟩:=ri (φ C)
 obtain⟨s1,M,s3⟩:=ri (show 0<=X+Y by omega)
 simp only[sy,T,Q,hD,N,c4,c7,s1,O,W];simp only[vcs]
 have l:∀{s:Bool} {n:Int},(p.num*q.den+q.num*p.den=if s then -n else n)->(γL [.sb (cC (sY s n D)).1,.row (.i .u32) (cC (sY s n D)).2.1,.row (.i .u32) (cC (sY s n D)).2.2]).same (.agg [.sb (cC (p+q)).1,.row (.i .u32) (cC (p+q)).2.1,.row (.i .u32) (cC (p+q)).2.2]):=
  λh=>afo (awZ n3 h)
 rw[n1,n2] at l
 refine⟨⟨amv w S,amv B hj⟩,⟨⟨u2,P⟩,by omega,by omega⟩,λZ=>⟨⟨⟨H,G⟩,by omega,by omega⟩,⟨⟨M,V⟩,⟨by omega,by omega⟩,C⟩,l ?_⟩,λZ=>⟨⟨⟨H,G⟩,by omega,by omega⟩,λA=>?_,λA=>?_⟩⟩
 all_goals grind[ri]
def r95:fN:=⟨128,fi×fi,.cons (Ac sF) (.one (Ac sF)),λa=>lT a.1/\lT a.2,λa=>XA (fa a.1 - fa a.2)⟩
theorem h95:Holds Tryz.prog r95:=by
 refine kh (L:=[ah8,ajS]) r95 lk (by grind[h130,h129]) ?_
 rintro⟨x,y⟩ ⟨⟨p,i,k,m,n⟩,⟨q,j,g,l,o⟩⟩
 simp only at k g
 subst k g
 refine gp (let g:=Ξ;let b:=((cC q).fst,(cC q).snd.fst,(cC q).snd.snd);let e:=((cC p).fst,(cC p).snd.fst,(cC p).snd.snd);let h:=(cC (-fa b)).snd;let f:=((cC (-fa b)).fst,h.fst,h.snd);let d:=cC (fa e+fa f);let a:=cn.i .u32;let c:=cC (fa (cC p) - fa (cC q));lT b/\(lT e/\lT f)/\(γL [γv d.fst,g a d.snd.fst,g a d.snd.snd]).same (γL [γv c.fst,g a c.snd.fst,g a c.snd.snd])) (by kernel_rfl) ?_
 grind[lT,afl,afo,sy]
theorem ah9 (a:List Int):bD a=bC a 0 0+4294967296*bD a.tail:=by
 cases a<;>grind[bD,bC]
theorem aes (a:List Int) (j:Nat):bC a (j+1) 0=bC a.tail j 0:=by
 grind[bC]
theorem aqx {a:List Int} (h:cQ a):cQ a.tail:=λd b=>h d (List.mem_of_mem_tail b)
theorem aqy:∀(n:Nat) {a b:List Int},a.length<=n->b.length<=n->(∀j,bC a j 0=bC b j 0)->bD a=bD b
 |0,a,b,c,d,_=>by simp_all
 |n+1,a,b,c,d,h=>by
  rw[ah9 a,ah9 b,h 0]
  have:=aqy n (a:=a.tail) (b:=b.tail) (by simp_all) (by simp_all) (λj=>by rw[<-aes,<-aes];exact h (j+1))
  rw[this]
theorem aqz:∀{k:Nat} {a b:List Int},cQ a->cQ b->(∀j,k<j->bC a j 0=bC b j 0)->bC a k 0<bC b k 0->bD a<bD b
 |0,a,b,e,c,h,d=>by
  have:=aqy (max a.length b.length) (a:=a.tail) (b:=b.tail) (by grind) (by grind) (λj=>by rw[<-aes,<-aes];simp_all)
  grind[ah9]
 |k+1,a,b,e,c,h,d=>by
  rw[aes,aes] at d
  have:=aqz (k:=k) (aqx e) (aqx c) (λj g=>by rw[<-aes,<-aes];simp_all) d
  have i:=qb e 0
  have f:=qb c 0
  grind[ah9]
def trL (a:List Int):SV:=.row (.i .u32) (ey (bD a))
def afp:fN:=⟨174,List Int,.one (mA (.i .u32)),λa=>cQ a/\a.length<=100000000000,λa=>trL a⟩
def aE6 (a:List Int):Nat->jY
 |1=> .inv (List Int) (λl=>⟨[(0,.row (.i .u32) l)],[]⟩) (λs=>rS (.i .u32) s 0) (λl=>cQ l/\bD l=bD a/\l.length<=a.length) (λl=>l.length) λ_ _=> .look
 |_=> .look
theorem aw1 {l:List Int} (h:l.length≠0) (a:bC l (l.length - 1) 0=0):bD (l.take (l.length - 1))=bD l:=by
 grind[KE]
theorem amx {l:List Int} (h:l.length=0\/bC l (l.length - 1) 0≠0):qH l:=by
 rcases h with h|h
 ·rw[π h];trivial
 ·by_cases b:l.length=0
  ·rw[π b];trivial
  ·have c:=alX (a:=l) (n:=l.length - 1) (by omega)
   grind[apx]
theorem h140:Holds Tryz.prog afp:=by
 refine kh (L:=[]) afp aE6 (by simp) ?_
 intro(a:List Int) h
 obtain⟨p,u⟩:cQ a/\a.length<=100000000000:=h
 refine gp (let h:=(0:Int);let l:=Ξ;let d:=cn.i .u32;let n:=l d (ey (bD a));((((l d a).same (l d a)/\True)/\True)/\cQ a/\bD a=bD a/\a.length<=a.length)/\∀(x:List Int),let g:=0+x.length;let f:=(↑x.length:Int);let m:=decide (h<f);let c:=f - (1:Int);let e:=c.toNat;let j:=decide (bC x e h=h);let b:=ω (e - 0) x;let k:=0=0/\g*4<=140737488355328/\g<=1000000000000/\x.length=x.length/\(l d x).same n;cQ x/\bD x=bD a/\x.length<=a.length->(m=true->ie .i64 c/\h<=c/\c<f/\e<x.length/\(j=true->ie .i64 c/\h<=c/\0<=e/\e<=x.length/\(((l d b).same (l d b)/\True)/\True)/\(cQ b/\bD b=bD a/\b.length<=a.length)/\b.length<x.length)/\(j=false->k))/\(m=false->k)) (by kernel_rfl) ?_
 simp only[vcs]
 refine⟨⟨p,by omega⟩,?_⟩
 rintro l ⟨v,t,s⟩
 have o:((l.length:Int) - 1).toNat - 0=l.length - 1:=by omega
 have q:((l.length:Int) - 1).toNat=l.length - 1:=by omega
 rw[o,q]
 have r:(l.length=0\/bC l (l.length - 1) 0≠0)->(Ξ (.i .u32) l).same (Ξ (.i .u32) (ey (bD a))):=λh=>aEd (by grind[aek,amx])
 grind[aw1,SU,aek,amx]
def afq:fN:=⟨173,List Int×Int,.cons (mA (.i .u32)) (.one (sx .i64)),λa=>cQ a.1/\0<=a.2,λa=> .si .u64 (bC a.1 a.2.toNat 0)⟩
theorem h139:Holds Tryz.prog afq:=by
 refine kh (L:=[]) afq lk (by simp) ?_
 rintro⟨a,i⟩ ⟨c,f⟩
 simp only at c f
 refine gp (let d:=decide (i<(↑a.length:Int));let b:=bC a i.toNat (0:Int);let e:=γa .u64 b;(d=true->(0:Int)<=i/\i<(↑a.length:Int)/\i.toNat<a.length/\(γa .u64 (b % (18446744073709551616:Int))).same e)/\(d=false->(γu .u64 0).same e)) (by kernel_rfl) ?_
 simp only[vcs]
 have g:=qb c i.toNat
 grind[ahM]
def amy:fN:=⟨175,List Int×List Int,.cons (mA (.i .u32)) (.one (mA (.i .u32))),λa=>(cQ a.1/\cQ a.2)/\a.1.length<=1000000000000/\a.2.length<=1000000000000,λa=> .si .i64 (Ig (bD a.1) (bD a.2))⟩
def aE7 (a:List Int×List Int):Nat->jY
 |2=> .inv Int (λi=>⟨[(0,.row (.i .u32) a.1),(1,.row (.i .u32) a.2),(5,.si .i64 i)],[]⟩) (λs=>iS s 5)
  (λi=> -1<=i/\i<max (a.1.length:Int) a.2.length/\∀j:Nat,i<j->bC a.1 j 0=bC a.2 j 0) (λi=>(i+1).toNat) λ_ _=> .look
 |_=> .look
theorem h141:Holds Tryz.prog amy:=by
 refine kh (L:=[afq]) amy aE7 (by grind[h139]) ?_
 rintro⟨a,b⟩ ⟨⟨f,g⟩,r,t⟩
 simp only at f g r t
 refine gp (let f:=(0:Int);let g:=(-1:Int);let h:=γa .i64;let k:=γu .i64;let q:=(1:Int);let e:=max (↑a.length:Int) (↑b.length:Int) - q;let m:=Ξ (cn.i .u32) a;let l:=Ξ (cn.i .u32) b;let y:=h e;let u:=max (↑a.length:Int) (↑b.length:Int);let p:=h (Ig (bD a) (bD b));ie .i64 e/\(((m.same m/\l.same l/\y.same y/\True)/\True)/\g<=e/\e<u/\∀(j:Nat),e<(↑j:Int)->bC a j f=bC b j f)/\∀(x:Int),let v:=decide (f<=x);let n:=bC a x.toNat f;let o:=bC b x.toNat f;let c:=x - q;let d:=h c;(g<=x/\x<u/\∀(j:Nat),x<(↑j:Int)->bC a j f=bC b j f)->(v=true->(cQ a/\f<=x)/\(cQ b/\f<=x)/\(decide (n<o)=true->(k g).same p)/\(decide (n<o)=false->(cQ a/\f<=x)/\(cQ b/\f<=x)/\(decide (o<n)=true->(k 1).same p)/\(decide (o<n)=false->ie .i64 c/\((m.same m/\l.same l/\d.same d/\True)/\True)/\(g<=c/\c<u/\∀(j:Nat),c<(↑j:Int)->bC a j f=bC b j f)/\(c+q).toNat<(x+q).toNat)))/\(v=false->(k 0).same p)) (by kernel_rfl) ?_
 simp only[vcs]
 refine⟨by omega,⟨by omega,by omega,λj s=>by grind[ahM]⟩,?_⟩
 rintro i ⟨z,A,q⟩
 refine⟨λk=>⟨⟨f,k⟩,⟨g,k⟩,λh=>?_,λh=>⟨⟨f,k⟩,⟨g,k⟩,λw=>?_,λw=>⟨by omega,⟨by omega,by omega,λj s=>?_⟩,by omega⟩⟩⟩,λk=>?_⟩
 ·have:=aqz f g (λj s=>q j (by omega)) h
  simp_all[Ig]
 ·have:=aqz g f (λj s=>(q j (by omega)).symm) w
  unfold Ig;omega
 ·grind
 ·have:=aqy (max a.length b.length) (a:=a) (b:=b) (by omega) (by omega) (λj=>q j (by omega))
  simp_all[Ig]
def ajT:fN:=⟨150,List Int×List Int,.cons (mA (.i .u32)) (.one (mA (.i .u32))),λa=>(cQ a.1/\cQ a.2)/\a.1.length<=10000000000/\a.2.length<=10000000000,λa=> .row (.i .u32) (ey (bD a.1+bD a.2))⟩
def aE8 (a:List Int×List Int):Nat->jY
 |4=> .inv (Int×Int×List Int) (λx=>⟨[(0,.row (.i .u32) a.1),(1,.row (.i .u32) a.2),(5,.ow 0 x.2.2.length 1),(6,.si .u64 x.2.1),(7,.si .i64 x.1)],[.row (.i .u32) x.2.2 161 true]⟩)
  (λs=>(iS s 7,iS s 6,oS (.i .u32) s 0))
  (λx=>(0<=x.1/\x.1<=max (a.1.length:Int) a.2.length+1)/\(0<=x.2.1/\x.2.1<=1)/\(cQ x.2.2/\(x.2.2.length:Int)=x.1)/\bD x.2.2+4294967296^x.1.toNat*x.2.1=bD (a.1.take x.1.toNat)+bD (a.2.take x.1.toNat))
  (λx=>(max (a.1.length:Int) a.2.length+1 - x.1).toNat) λ_ _=> .look
 |_=> .look
theorem h106:Holds Tryz.prog ajT:=by
 refine kh (L:=[afq,afp]) ajT aE8 (by grind[h139,h140]) ?_
 rintro⟨a,b⟩ ⟨⟨t,r⟩,D,z⟩
 simp only at t r D z
 refine gp (let c:=(0:Int);let e:=(4294967296:Int);let h:=(18446744073709551616:Int);let o:=Ξ;let r:=(1:Int);let g:=cn.i .u32;let H:=γQ 0 0 1;let G:=cJ.row g [] 161 true;let n:=max (↑a.length:Int) (↑b.length:Int)+r;((((o g a).same (o g a)/\(o g b).same (o g b)/\H.same H/\(γu .u64 0).same (γa .u64 0)/\(γu .i64 0).same (γa .i64 0)/\True)/\G.same G/\True)/\(c<=c/\c<=n)/\(c<=c/\c<=r)/\(cQ []/\c=c)/\c=c)/\∀(x:Int×Int×List Int),let q:=x.snd.snd.length;let l:=x.fst.toNat;let E:=decide (x.fst<=max (↑a.length:Int) (↑b.length:Int));let I:=x.snd.snd.length+1;let F:=((bC a l c+bC b l c) % h+x.snd.fst) % h;let k:=F.tdiv e;let d:=x.fst+r;let f:=x.snd.snd++[F.tmod e % e];let m:=γa .u64 k;let j:=γa .i64 d;let p:=cJ.row g f 161 true;(c<=x.fst/\x.fst<=n)/\(c<=x.snd.fst/\x.snd.fst<=r)/\(cQ x.snd.snd/\(↑q:Int)=x.fst)/\bD x.snd.snd+e^l*x.snd.fst=bD (ω l a)+bD (ω l b)->(E=true->(cQ a/\c<=x.fst)/\(cQ b/\c<=x.fst)/\e≠c/\q=x.snd.snd.length/\I*4<=140737488355328/\I<=1000000000000/\e≠c/\ie .u64 k/\ie .i64 d/\(((o g a).same (o g a)/\(o g b).same (o g b)/\(γQ 0 f.length 1).same (γQ 0 f.length 1)/\m.same m/\j.same j/\True)/\p.same p/\True)/\((c<=d/\d<=n)/\(c<=k/\k<=r)/\(cQ f/\(↑f.length:Int)=d)/\bD f+e^d.toNat*k=bD (ω d.toNat a)+bD (ω d.toNat b))/\(n - d).toNat<(n - x.fst).toNat)/\(E=false->q=x.snd.snd.length/\(cQ x.snd.snd/\q<=100000000000)/\(o g (ey (bD x.snd.snd))).same (o g (ey (bD a+bD b))))) (by kernel_rfl) ?_
 simp only[vcs]
 refine⟨⟨by omega,by omega,by simp[cQ]⟩,?_⟩
 rintro⟨i,c,h⟩ ⟨⟨P,Q⟩,⟨N,M⟩,⟨C,A⟩,w⟩
 simp only at P Q N M C A w ⊢
 refine⟨λK=>?_,λK=>?_⟩
 ·have x:=qb t i.toNat
  have y:=qb r i.toNat
  have J:((bC a i.toNat 0+bC b i.toNat 0) % 18446744073709551616+c) % 18446744073709551616=bC a i.toNat 0+bC b i.toNat 0+c:=by omega
  have O:(i+1).toNat=i.toNat+1:=by omega
  rw[J,O,γS (by omega),γT (by omega)]
  have o:bD (h++[(bC a i.toNat 0+bC b i.toNat 0+c) % 4294967296 % 4294967296])+4294967296^(i.toNat+1)*((bC a i.toNat 0+bC b i.toNat 0+c) / 4294967296)=bD (a.take (i.toNat+1))+bD (b.take (i.toNat+1)):=by
   rw[adI,KE,KE,show h.length=i.toNat by omega,γx]
   generalize (4294967296:Int)^i.toNat=B at*
   generalize S:bC a i.toNat 0+bC b i.toNat 0+c=s at*
   have e:B*4294967296*(s / 4294967296)=B*(bC a i.toNat 0+bC b i.toNat 0+c - s % 4294967296 % 4294967296):=by rw[γI];congr 1;omega
   grind
  have v:cQ (h++[(bC a i.toNat 0+bC b i.toNat 0+c) % 4294967296 % 4294967296]):=agm C (ajr (by omega) (by omega))
  repeat' refine γe ?_ ?_
  all_goals first|omega|exact t|exact r|exact u64_in (by omega) (by omega)|exact o|exact v|(simp;omega)
 ·have u:i.toNat=max a.length b.length+1:=by omega
  rw[Ω (by omega),Ω (by omega)] at w
  have R:=Ku t
  have T:=Ku r
  have X:=afk (show a.length<=max a.length b.length by omega)
  have U:=afk (show b.length<=max a.length b.length by omega)
  have V:=rf C
  rw[u,γx] at w
  have Y:=pow_pos (max a.length b.length)
  have W:c=0:=by
   grind
  grind
def amz:fN:=⟨151,List Int×List Int,.cons (mA (.i .u32)) (.one (mA (.i .u32))),λa=>(cQ a.1/\cQ a.2)/\a.1.length<=10000000000/\a.2.length<=10000000000,λa=>sbO (bD a.1) (bD a.2)⟩
def aE9 (a:List Int×List Int):Nat->jY
 |6=> .inv (Int×Int×List Int) (λx=>⟨[(0,.row (.i .u32) a.1),(1,.row (.i .u32) a.2),(6,.ow 0 x.2.2.length 1),(7,.si .u64 x.2.1),(8,.si .i64 x.1)],[.row (.i .u32) x.2.2 161 true]⟩)
  (λs=>(iS s 8,iS s 7,oS (.i .u32) s 0))
  (λx=>(0<=x.1/\x.1<=a.1.length)/\(0<=x.2.1/\x.2.1<=1)/\(cQ x.2.2/\(x.2.2.length:Int)=x.1)/\bD x.2.2 - 4294967296^x.1.toNat*x.2.1=bD (a.1.take x.1.toNat) - bD (a.2.take x.1.toNat))
  (λx=>(a.1.length - x.1).toNat) λ_ _=> .look
 |_=> .look
theorem h107:Holds Tryz.prog amz:=by
 refine kh (L:=[afq,afp,amy]) amz aE9 (by grind[h139,h140,h141]) ?_
 rintro⟨a,b⟩ ⟨⟨n,m⟩,E,I⟩
 simp only at n m E I
 refine gp (let c:=(0:Int);let e:=(4294967296:Int);let h:=(18446744073709551616:Int);let j:=Ξ;let l:=(1:Int);let m:=SV.eW;let P:=decide (Ig (bD a) (bD b)<c);let g:=cn.i .u32;let N:=m [j g (ey (bD a - bD b)),γv (decide (bD b<=bD a))];let M:=γQ 0 0 1;let O:=cJ.row g [] 161 true;let r:=(↑a.length:Int);((cQ a/\cQ b)/\a.length<=1000000000000/\b.length<=1000000000000)/\(P=true->(m [j (cn.i .i64) [],δe false]).same N)/\(P=false->((((j g a).same (j g a)/\(j g b).same (j g b)/\M.same M/\(γu .u64 0).same (γa .u64 0)/\(γu .i64 0).same (γa .i64 0)/\True)/\O.same O/\True)/\(c<=c/\c<=r)/\(c<=c/\c<=l)/\(cQ []/\c=c)/\c=c)/\∀(x:Int×Int×List Int),let z:=x.snd.snd.length;let t:=x.fst.toNat;let J:=decide (x.fst<(↑a.length:Int));let R:=x.snd.snd.length+1;let o:=(((e+bC a t c) % h - bC b t c) % h - x.snd.fst) % h;let u:=o.tdiv e;let d:=x.fst+l;let f:=x.snd.snd++[o.tmod e % e];let k:=(l - u) % h;let w:=γa .u64 k;let q:=γa .i64 d;let v:=cJ.row g f 161 true;(c<=x.fst/\x.fst<=r)/\(c<=x.snd.fst/\x.snd.fst<=l)/\(cQ x.snd.snd/\(↑z:Int)=x.fst)/\bD x.snd.snd - e^t*x.snd.fst=bD (ω t a) - bD (ω t b)->(J=true->(cQ a/\c<=x.fst)/\(cQ b/\c<=x.fst)/\e≠c/\z=x.snd.snd.length/\R*4<=140737488355328/\R<=1000000000000/\e≠c/\ie .u64 u/\ie .i64 d/\(((j g a).same (j g a)/\(j g b).same (j g b)/\(γQ 0 f.length 1).same (γQ 0 f.length 1)/\w.same w/\q.same q/\True)/\v.same v/\True)/\((c<=d/\d<=r)/\(c<=k/\k<=l)/\(cQ f/\(↑f.length:Int)=d)/\bD f - e^d.toNat*k=bD (ω d.toNat a) - bD (ω d.toNat b))/\(r - d).toNat<(r - x.fst).toNat)/\(J=false->z=x.snd.snd.length/\(cQ x.snd.snd/\z<=100000000000)/\(m [j g (ey (bD x.snd.snd)),δe true]).same N))) (by kernel_rfl) ?_
 simp only[vcs]
 have pa:=rf n
 have pb:=rf m
 refine⟨⟨⟨n,m⟩,by omega,by omega⟩,λa0=>?_,λW=>?_⟩
 ·have Q:bD a<bD b:=by grind[Ig]
  refine⟨ap8 (amc (by omega)),?_⟩
  simp_all
 have K:bD b<=bD a:=by grind[Ig]
 refine⟨⟨by omega,by omega,by simp[cQ]⟩,?_⟩
 rintro⟨i,c,l⟩ ⟨⟨i0,S⟩,⟨X,Y⟩,⟨G,C⟩,D⟩
 simp only at i0 S X Y G C D ⊢
 refine⟨λZ=>?_,λZ=>?_⟩
 ·have x:=qb n i.toNat
  have y:=qb m i.toNat
  have e1:(((4294967296+bC a i.toNat 0) % 18446744073709551616 - bC b i.toNat 0) % 18446744073709551616 - c) % 18446744073709551616=4294967296+bC a i.toNat 0 - bC b i.toNat 0 - c:=by omega
  have V:(i+1).toNat=i.toNat+1:=by omega
  rw[e1,V,γS (by omega),γT (by omega)]
  have e3:(1 - (4294967296+bC a i.toNat 0 - bC b i.toNat 0 - c) / 4294967296) % 18446744073709551616=1 - (4294967296+bC a i.toNat 0 - bC b i.toNat 0 - c) / 4294967296:=by omega
  rw[e3]
  have p:bD (l++[(4294967296+bC a i.toNat 0 - bC b i.toNat 0 - c) % 4294967296 % 4294967296]) - 4294967296^(i.toNat+1)*(1 - (4294967296+bC a i.toNat 0 - bC b i.toNat 0 - c) / 4294967296)=bD (a.take (i.toNat+1)) - bD (b.take (i.toNat+1)):=by
   rw[adI,KE,KE,show l.length=i.toNat by omega,γx]
   generalize (4294967296:Int)^i.toNat=B at*
   generalize hs:4294967296+bC a i.toNat 0 - bC b i.toNat 0 - c=s at*
   have e:B*4294967296*(1 - s / 4294967296)=B*(s % 4294967296 % 4294967296 - (bC a i.toNat 0 - bC b i.toNat 0 - c)):=by rw[γI];congr 1;omega
   grind
  have H:cQ (l++[(4294967296+bC a i.toNat 0 - bC b i.toNat 0 - c) % 4294967296 % 4294967296]):=agm G (ajr (by omega) (by omega))
  repeat' refine γe ?_ ?_
  all_goals first|omega|exact n|exact m|exact u64_in (by omega) (by omega)|exact p|exact H|(simp;omega)
 ·have A:i.toNat=a.length:=by omega
  rw[A,τ] at D
  have b1:=Ku n
  have F:bD (b.take a.length)=bD b:=by
   by_cases h:b.length<=a.length
   ·rw[Ω h]
   ·have h1:=afj (U:=b) (j:=a.length) (by omega)
    have h2:=rf (SU m a.length)
    have h3:=rf (ahP m a.length)
    by_cases hz:bD (b.drop a.length)=0
    ·simp_all
    ·have:=ν (show(1:Int)<=bD (b.drop a.length) by omega) (φ (pow_pos a.length))
     omega
  rw[F] at D
  have T:=Ku G
  rw[show l.length=a.length by omega] at T
  have hc:c=0:=by
   grind
  grind
def amA:fN:=⟨154,Int,.one (sx .u64),λx=>0<=(show Int from x)/\(show Int from x)<18446744073709551616,λx=> .row (.i .u32) (ey x)⟩
theorem h159:Holds Tryz.prog amA:=by
 refine kh (L:=[afp]) amA lk (by grind[h140]) ?_
 intro(x:Int) h
 obtain⟨d,c⟩:0<=x/\x<18446744073709551616:=h
 refine gp (let c:=(4294967296:Int);let b:=x.tdiv c;let a:=[x.tmod c % c,b % c];c≠(0:Int)/\c≠(0:Int)/\ie .u64 b/\(cQ a/\2<=100000000000)/\(Ξ (cn.i .u32) (ey (bD a))).same (Ξ (cn.i .u32) (ey x))) (by kernel_rfl) ?_
 simp only[vcs]
 grind[cQ,ajr,bD,u64_in]
theorem aqA {a b:List Int} {k:Nat} (d:cQ a) (c:cQ b) (f:a.length<=k) (e:b.length<=k):(ey (bD a+bD b)).length<=k+1:=by
 have i:=rf d
 have g:=rf c
 have j:=awF d f
 have h:=awF c e
 refine Lq (by omega) ?_
 omega
theorem aqB {x y:Int} {i j:Nat} (a:0<=x) (b:0<=y) (d:x<4294967296^i) (c:y<4294967296^j):(ey (x*y)).length<=i+j:=Lq (γh a b) (aa8 a d c)
theorem aFa {n:Nat} {a:List Int}:bD (δ n 0++a)=bD a*4294967296^n:=by
 grind[al1,agt]
def aqC:og where
 f:=174
 α:=Nat×List Int
 put a:=[.ow 0 a.1 1]
 st a:=[.row (.i .u32) a.2 161 true]
 dec v o:=match v,o with
  |[.ow 0 n 1],[.row t l 161 true]=>match AW t (.i .u32) l with
   |some l=>some (n,l)
   |_=>none
  |_,_=>none
 ok v o a h:=by
  grind[KA]
 inj a b d c:=by
  obtain⟨n,U⟩:=a
  obtain⟨m,k⟩:=b
  simp only[gL,Δ,and_true,SV.g,AV.os.injEq,true_and] at d;simp only[gO,List.map_cons,List.map_nil,cJ.g,Δ,ig.cells.injEq,and_true] at c
  have e:U=k:=by
   have j:=congrArg γb c
   rw[x7,x7] at j
   exact XV (.i .u32) (by grind[cn.sz]) c
  rw[d.1,e]
 dom a:=a.1=a.2.length/\cQ a.2/\a.2.length<=100000000000
 res a:=trL a.2
 out a:=[.row (.i .u32) a.2 161 true]
def aFb (a:Nat×List Int):Nat->jY
 |1=> .inv Int (λn=>⟨[(0,.os 0 0 n.toNat a.1 1)],[.row (.i .u32) a.2 161 true]⟩) (λs=>match MR s.env 0 with| .os _ _ n _ _=>n| .ow _ n _=>n|_=>0) (λn=>0<=n/\n<=a.2.length/\bD (a.2.take n.toNat)=bD a.2) (λn=>n.toNat) λ_ _=> .look
 |_=> .look
def aqD:fN:=⟨171,List Int×Int,.cons (mA (.i .u32)) (.one (sx .i64)),λa=>cQ a.1/\a.1.length<=10000000000/\0<=a.2/\a.2<=10000000000,λa=> .row (.i .u32) (ey (bD a.1*4294967296^a.2.toNat))⟩
def aFc (a:List Int×Int):Nat->jY
 |3=> .inv Int (λi=>⟨[(0,.row (.i .u32) a.1),(1,.si .i64 a.2),(5,.ow 0 i.toNat 1),(6,.si .i64 i)],[.row (.i .u32) (δ i.toNat 0) 161 true]⟩) (λs=>iS s 6) (λi=>0<=i/\i<=a.2) (λi=>(a.2 - i).toNat) λ_ _=> .look
 |_=> .look
theorem h140o:sd Tryz.prog aqC:=by
 refine Sj (L:=[]) (W:=[]) aqC aFb (by simp) (by simp) ?_
 rintro⟨n,a⟩ ⟨v,y,E⟩
 simp only at v y E
 subst v
 refine gp (let d:=(0:Int);let f:=(↑a.length:Int);let r:=cn.i .u32;let g:=cJ.row r a 161 true;let H:=Ξ r (ey (bD a));((((γQ 0 a.length 1).same (SV.os 0 0 f.toNat a.length 1)/\True)/\g.same g/\True)/\d<=f/\f<=f/\bD (ω f.toNat a)=bD a)/\∀(x:Int),let k:=ω x.toNat a;let t:=0+k.length;let q:=(↑x.toNat:Int);let c:=q - (1:Int);let p:=0+c.toNat;let m:=decide (d<q);let j:=c.toNat - 0;let b:=(↑j:Int);let w:=a.length=a.length/\0+x.toNat<=a.length/\0=0/\t*4<=140737488355328/\t<=1000000000000/\k.length=k.length/\(Ξ r k).same H/\g.same g/\True;let z:=λ(u:Bool) ↦decide (bC a p d=d)=u;d<=x/\x<=f/\bD k=bD a->(m=true->ie .i64 c/\a.length=a.length/\d<=c/\c<q/\0+x.toNat<=a.length/\a.length=a.length/\p<a.length/\(z true->ie .i64 c/\a.length=a.length/\d<=c/\0<=c.toNat/\c.toNat<=x.toNat/\(((SV.os 0 0 j a.length 1).same (SV.os 0 0 b.toNat a.length 1)/\True)/\g.same g/\True)/\(d<=b/\b<=f/\bD (ω b.toNat a)=bD a)/\b.toNat<x.toNat)/\(z false->w))/\(m=false->w)) (by kernel_rfl) ?_
 simp only[vcs]
 refine⟨⟨rfl,⟨by omega,by omega,by simp_all⟩⟩,?_⟩
 rintro n ⟨M,K,F⟩
 have o:(a.take n.toNat).length=n.toNat:=by simp;omega
 have I:0+((n.toNat:Int) - 1).toNat=n.toNat - 1:=by omega
 have s:bC a (n.toNat - 1) 0=bC (a.take n.toNat) (n.toNat - 1) 0\/n.toNat=0:=by
  by_cases h:n.toNat=0
  ·exact .inr h
  ·left
   unfold bC
   grind
 have J:=SU y n.toNat
 have B:(n.toNat=0\/bC a (n.toNat - 1) 0≠0)->a.take n.toNat=ey (bD a):=λh=>by
  grind[aek,amx]
 rw[I,o]
 refine⟨λA=>⟨by omega,by omega,by omega,by omega,by omega,λC=>?_,λC=>?_⟩,λA=>?_⟩
 ·have G:bC (a.take n.toNat) (n.toNat - 1) 0=0:=by
   omega
  have d:=aw1 (l:=a.take n.toNat) (by omega) (by simp_all)
  rw[o,List.take_take,δO (by omega),F] at d
  have e:(n.toNat:Int).toNat - 1=n.toNat - 1:=by omega
  have D:((n.toNat:Int) - 1).toNat - 0=n.toNat - 1:=by omega
  repeat' refine γe ?_ ?_
  all_goals first|omega|rfl|(rw[D];rfl)|simp_all|skip
 all_goals grind
theorem h136:Holds Tryz.prog aqD:=by
 refine con (L:=[]) (W:=CN [aqC]) aqD aFc (XX (by grind[h140o])) (by simp) ?_
 rintro⟨a,n⟩ ⟨q,g,r,p⟩
 simp only at q g r p
 refine gp (let e:=(0:Int);let g:=γa .i64;let m:=Ξ;let o:=cJ.row;let c:=cn.i .u32;let l:=γQ 0 0 1;let f:=o c [] 161 true;((((m c a).same (m c a)/\(g n).same (g n)/\l.same l/\(γu .i64 0).same (g 0)/\True)/\f.same f/\True)/\e<=e/\e<=n)/\∀(x:Int),let b:=δ x.toNat e;let j:=b.length+1;let d:=x+(1:Int);let k:=g d;let h:=b.length+a.length;e<=x/\x<=n->(decide (x<n)=true->x.toNat=b.length/\j*4<=140737488355328/\j<=1000000000000/\ie .i64 d/\(((m c a).same (m c a)/\(g n).same (g n)/\(γQ 0 (b++[e]).length 1).same (γQ 0 d.toNat 1)/\k.same k/\True)/\(o c (b++[e]) 161 true).same (o c (δ d.toNat e) 161 true)/\True)/\(e<=d/\d<=n)/\(n - d).toNat<(n - x).toNat)/\(decide (x<n)=false->x.toNat=b.length/\h*4<=140737488355328/\h<=1000000000000/\((b++a).length=(b++a).length/\cQ (b++a)/\(b++a).length<=100000000000)/\(m c (ey (bD (b++a)))).same (m c (ey (bD a*(4294967296:Int)^n.toNat))))) (by kernel_rfl) ?_
 simp only[vcs]
 refine⟨⟨by omega,by omega⟩,?_⟩
 rintro i ⟨t,v⟩
 have u:(δ i.toNat (0:Int)).length=i.toNat:=by simp
 have e:δ i.toNat (0:Int)++[0]=δ (i+1).toNat 0:=by rw[show(i+1).toNat=i.toNat+1 by omega,List.replicate_succ']
 have m:(δ i.toNat (0:Int)++a).length=i.toNat+a.length:=by simp
 have o:@List.length (cn.T (.i .u32)) a<=10000000000:=g
 rw[e]
 refine⟨λs=>?_,λs=>?_⟩
 ·repeat' refine γe ?_ ?_
  all_goals first|omega|exact Yo (by simp)|rfl
 grind[aFa,agm,ah0]
def aqE:fN:=⟨172,List Int×Int,.cons (mA (.i .u32)) (.one (sx .u64)),λa=>cQ a.1/\a.1.length<=10000000000/\0<=a.2/\a.2<4294967296,λa=> .row (.i .u32) (ey (bD a.1*a.2))⟩
def aFd (a:List Int×Int):Nat->jY
 |4=> .inv (Int×Int×List Int) (λx=>⟨[(0,.row (.i .u32) a.1),(1,.si .u64 a.2),(5,.ow 0 x.2.2.length 1),(6,.si .u64 x.2.1),(7,.si .i64 x.1)],[.row (.i .u32) x.2.2 161 true]⟩)
  (λs=>(iS s 7,iS s 6,oS (.i .u32) s 0))
  (λx=>(0<=x.1/\x.1<=(a.1.length:Int)+1)/\(0<=x.2.1/\x.2.1<4294967296)/\(cQ x.2.2/\(x.2.2.length:Int)=x.1)/\bD x.2.2+4294967296^x.1.toNat*x.2.1=bD (a.1.take x.1.toNat)*a.2)
  (λx=>((a.1.length:Int)+1 - x.1).toNat) λ_ _=> .look
 |_=> .look
theorem h137:Holds Tryz.prog aqE:=by
 refine kh (L:=[afq,afp]) aqE aFd (by grind[h139,h140]) ?_
 rintro⟨a,d⟩ ⟨o,z,t,H⟩
 simp only at o z t H
 refine gp (let c:=(4294967296:Int);let e:=(0:Int);let h:=(18446744073709551616:Int);let j:=Ξ;let g:=cn.i .u32;let D:=γQ 0 0 1;let C:=cJ.row g [] 161 true;let l:=(↑a.length:Int)+(1:Int);((((j g a).same (j g a)/\(γa .u64 d).same (γa .u64 d)/\D.same D/\(γu .u64 0).same (γa .u64 0)/\(γu .i64 0).same (γa .i64 0)/\True)/\C.same C/\True)/\(e<=e/\e<=l)/\(e<=e/\e<c)/\(cQ []/\e=e)/\e=bD []*d)/\∀(x:Int×Int×List Int),let r:=x.snd.snd.length;let E:=decide (x.fst<=(↑a.length:Int));let F:=x.snd.snd.length+1;let A:=(bC a x.fst.toNat e*d % h+x.snd.fst) % h;let m:=A.tdiv c;let f:=x.fst+(1:Int);let b:=x.snd.snd++[A.tmod c % c];let p:=γa .u64 m;let n:=γa .i64 f;let k:=cJ.row g b 161 true;(e<=x.fst/\x.fst<=l)/\(e<=x.snd.fst/\x.snd.fst<c)/\(cQ x.snd.snd/\(↑r:Int)=x.fst)/\bD x.snd.snd+c^x.fst.toNat*x.snd.fst=bD (ω x.fst.toNat a)*d->(E=true->(cQ a/\e<=x.fst)/\c≠e/\r=x.snd.snd.length/\F*4<=140737488355328/\F<=1000000000000/\c≠e/\ie .u64 m/\ie .i64 f/\(((j g a).same (j g a)/\(γa .u64 d).same (γa .u64 d)/\(γQ 0 b.length 1).same (γQ 0 b.length 1)/\p.same p/\n.same n/\True)/\k.same k/\True)/\((e<=f/\f<=l)/\(e<=m/\m<c)/\(cQ b/\(↑b.length:Int)=f)/\bD b+c^f.toNat*m=bD (ω f.toNat a)*d)/\(l - f).toNat<(l - x.fst).toNat)/\(E=false->r=x.snd.snd.length/\(cQ x.snd.snd/\r<=100000000000)/\(j g (ey (bD x.snd.snd))).same (j g (ey (bD a*d))))) (by kernel_rfl) ?_
 simp only[vcs]
 refine⟨⟨by omega,by omega,by simp[cQ],by simp[bD]⟩,?_⟩
 rintro⟨i,c,j⟩ ⟨⟨Q,I⟩,⟨N,M⟩,⟨y,u⟩,G⟩
 simp only at Q I N M y u G ⊢
 refine⟨λP=>?_,λP=>?_⟩
 ·have x:=qb o i.toNat
  have T:0<=bC a i.toNat 0*d:=γh x.1 t
  have R:bC a i.toNat 0*d<=4294967295*4294967295:=Int.mul_le_mul (by omega) (by omega) t (by omega)
  have O:(bC a i.toNat 0*d % 18446744073709551616+c) % 18446744073709551616=bC a i.toNat 0*d+c:=by omega
  have K:(i+1).toNat=i.toNat+1:=by omega
  rw[O,K,γS (by omega),γT (by omega)]
  have q:bD (j++[(bC a i.toNat 0*d+c) % 4294967296 % 4294967296])+4294967296^(i.toNat+1)*((bC a i.toNat 0*d+c) / 4294967296)=bD (a.take (i.toNat+1))*d:=by
   rw[adI,KE,show j.length=i.toNat by omega,γx,Int.add_mul,γI (4294967296^i.toNat) (bC a i.toNat 0) d]
   generalize (4294967296:Int)^i.toNat=B at*
   generalize S:bC a i.toNat 0*d=s at*
   have e:B*4294967296*((s+c) / 4294967296)=B*(s+c - (s+c) % 4294967296 % 4294967296):=by rw[γI];congr 1;omega
   grind
  have v:cQ (j++[(bC a i.toNat 0*d+c) % 4294967296 % 4294967296]):=agm y (ajr (by omega) (by omega))
  repeat' refine γe ?_ ?_
  all_goals first|omega|exact o|exact u64_in (by omega) (by omega)|exact q|exact v|(simp;omega)
 ·have w:i.toNat=a.length+1:=by omega
  rw[w,Ω (by omega)] at G
  have U:=rf y
  have J:=Ku o
  have V:c=0:=by
   by_cases h:c=0
   ·exact h
   ·have X:=ν (show(1:Int)<=c by omega) (φ (pow_pos (a.length+1)))
    have W:bD a*d<4294967296^a.length*4294967296:=εb (ν (φ H) (rf o)) (γP J (by decide))
    omega
  grind
def amB:fN:=⟨149,List Int×List Int,.cons (mA (.i .u32)) (.one (mA (.i .u32))),λa=>(cQ a.1/\cQ a.2)/\a.1.length<=1000000000/\a.2.length<=1000000000,λa=> .row (.i .u32) (ey (bD a.1*bD a.2))⟩
def aFe (a:List Int×List Int):Nat->jY
 |3=> .inv (Int×List Int) (λx=>⟨[(0,.row (.i .u32) a.1),(1,.row (.i .u32) a.2),(5,.row (.i .u32) x.2),(6,.si .i64 x.1)],[.dead]⟩)
  (λs=>(iS s 6,rS (.i .u32) s 5))
  (λx=>(0<=x.1/\x.1<=(a.2.length:Int))/\x.2=ey (bD a.1*bD (a.2.take x.1.toNat))) (λx=>((a.2.length:Int) - x.1).toNat) λ_ _=> .look
 |_=> .look
theorem h104:Holds Tryz.prog amB:=by
 refine kh (L:=[ajT,aqD,aqE]) amB aFe (by grind[h106,h136,h137]) ?_
 rintro⟨a,b⟩ ⟨⟨t,l⟩,q,s⟩
 simp only at t l q s
 refine gp (let d:=Ξ;let g:=(0:Int);let h:=(4294967296:Int);let c:=cn.i .u32;let f:=(↑b.length:Int);0=0/\((((d c a).same (d c a)/\(d c b).same (d c b)/\(d c []).same (d c [])/\(γu .i64 0).same (γa .i64 0)/\True)/\cJ.dead.same cJ.dead/\True)/\(g<=g/\g<=f)/\[]=ey (bD a*bD []))/\∀(x:Int×List Int),let k:=x.fst.toNat;let u:=decide (x.fst<(↑b.length:Int));let w:=bC b k g % (18446744073709551616:Int);let r:=ey (bD a*w);let p:=ey (bD r*h^k);let e:=x.fst+(1:Int);let n:=ey (bD x.snd+bD p);let z:=γa .i64 e;(g<=x.fst/\x.fst<=f)/\x.snd=ey (bD a*bD (ω k b))->(u=true->g<=x.fst/\x.fst<(↑b.length:Int)/\k<b.length/\(cQ a/\a.length<=10000000000/\g<=w/\w<h)/\(cQ r/\r.length<=10000000000/\g<=x.fst/\x.fst<=(10000000000:Int))/\((cQ x.snd/\cQ p)/\x.snd.length<=10000000000/\p.length<=10000000000)/\ie .i64 e/\(((d c a).same (d c a)/\(d c b).same (d c b)/\(d c n).same (d c n)/\z.same z/\True)/\cJ.dead.same cJ.dead/\True)/\((g<=e/\e<=f)/\n=ey (bD a*bD (ω e.toNat b)))/\(f - e).toNat<(f - x.fst).toNat)/\(u=false->(d c x.snd).same (d c (ey (bD a*bD b))))) (by kernel_rfl) ?_
 simp only[vcs]
 have h:=rf t
 refine⟨⟨⟨by omega,by omega⟩,by simp[bD,ey,ae7]⟩,?_⟩
 rintro⟨i,o⟩ ⟨⟨E,F⟩,B⟩
 simp only at E F B ⊢
 subst B
 have y:=rf (SU l i.toNat)
 have g:=Ku (SU l i.toNat)
 rw[γd,δO (by omega)] at g
 have d:=Ku t
 have m:=γh h y
 obtain⟨R,I,N⟩:=ri m
 have K:=aqB h y d g
 refine⟨λD=>?_,λD=>?_⟩
 ·have x:=qb l i.toNat
  have H:bC b i.toNat 0 % 18446744073709551616=bC b i.toNat 0:=by omega
  have Q:(i+1).toNat=i.toNat+1:=by omega
  have v:=γh h x.1
  obtain⟨M,J,G⟩:=ri v
  have O:=aqB (j:=1) h x.1 d (by omega)
  have C:0<=bD a*bC b i.toNat 0*4294967296^i.toNat:=γh v (φ (pow_pos _))
  obtain⟨f,k,u⟩:=ri C
  have P:=aqB (j:=i.toNat+1) v (φ (pow_pos i.toNat)) (show bD a*bC b i.toNat 0<4294967296^(a.length+1) from aa8 h d (by omega)) (by
   omega)
  have A:bD a*bD (b.take i.toNat)+bD a*bC b i.toNat 0*4294967296^i.toNat=bD a*bD (b.take (i.toNat+1)):=by
   grind[KE]
  grind
 ·rw[show i.toNat=b.length by omega,τ]
theorem amC:∀{j:Nat} {a:List Int},cQ a->bD a / 4294967296^j % 4294967296=bC a j 0
 |0,a,h=>by
  have:=qb h 0
  grind[ah9]
 |j+1,a,h=>by
  have c:=qb h 0
  have b:=@amC j a.tail (aqx h)
  have e:bD a / 4294967296=bD a.tail:=by grind[ah9]
  rw[γx,δr (4294967296^j),<-δo (by decide),e,b,aes]
theorem aeu {q r:Nat}:(2:Int)^(32*q+r)=4294967296^q*2^r:=by
 rw[δg,Int.pow_mul];rfl
theorem aqF {x:Int} {r m:Nat} (h:r<=m):x % 2^m / 2^r=x / 2^r % 2^(m - r):=by
 obtain⟨k,rfl⟩:=δJ h
 have c:(0:Int)<2^r:=γU (by decide)
 have f:(0:Int)<2^k:=γU (by decide)
 rw[Nat.add_sub_cancel_left,δg]
 have j:=δa x (2^r)
 have n:=δa (x / 2^r) (2^k)
 have i:=γ8 x (show(2:Int)^r≠0 by omega)
 have e:=γO x c
 have g:=γ8 (x / 2^r) (show(2:Int)^k≠0 by omega)
 have l:=γO (x / 2^r) f
 generalize x / 2^r % 2^k=s at*
 generalize x / 2^r / 2^k=t at*
 generalize x / 2^r=y at*
 generalize x % 2^r=u at*
 have d:x=(2^r*s+u)+(2^r*2^k)*t:=by
  grind
 have b:2^r*s+u<2^r*2^k:=by
  have:=ν (show s+1<=2^k by omega) (φ c)
  grind
 have a:0<=2^r*s+u:=by
  have:=γh (φ c) g
  omega
 rw[d,Int.add_mul_emod_self_left,δm a b,Int.add_comm,Int.add_mul_ediv_left _ _ (by omega),δQ i e,Int.zero_add]
theorem aw2 {x:Int} {j k:Nat} (h:j<=k):x % 2^k % 2^j=x % 2^j:=by
 obtain⟨m,rfl⟩:=δJ h
 rw[δg]
 simp_all
def abE (v:Int) (i:Nat):Int:=v / 2^i % 2
theorem aFf {a:List Int} {i:Nat} (h:cQ a):bC a (i / 32) 0 / 2^(i % 32) % 2=abE (bD a) i:=by
 unfold abE
 have e:(2:Int)^i=4294967296^(i / 32)*2^(i % 32):=by
  rw[<-aeu];congr 1;omega
 have b:(0:Int)<4294967296^(i / 32):=pow_pos _
 rw[e,<-δo (φ b),<-amC h]
 have:=aqF (x:=bD a / 4294967296^(i / 32)) (r:=i % 32) (m:=32) (by omega)
 rw[show(2:Int)^32=4294967296 from rfl] at this;rw[this]
 have c:=aw2 (x:=bD a / 4294967296^(i / 32) / 2^(i % 32)) (j:=1) (k:=32 - i % 32) (by omega)
 omega
theorem aFg {a:List Int} {i r:Nat} (h:cQ a) (d:r<32):(bC a i 0+bC a (i+1) 0*4294967296) / 2^r % 4294967296=bD a / 2^(32*i+r) % 4294967296:=by
 have b:(0:Int)<4294967296^i:=pow_pos _
 rw[aeu,<-δo (φ b),<-amC h,<-amC h,γx,<-δo (φ b)]
 generalize bD a / 4294967296^i=y
 have e:y % 4294967296+y / 4294967296 % 4294967296*4294967296=y % 18446744073709551616:=by omega
 rw[e]
 have:=aqF (x:=y) (r:=r) (m:=64) (by omega)
 rw[show(2:Int)^64=18446744073709551616 from rfl] at this;rw[this]
 have c:=aw2 (x:=y / 2^r) (j:=32) (k:=64 - r) (by omega)
 omega
def Kw (v:Int):Int:=if v=0 then 0 else(v.toNat.log2+1:Nat)
theorem agz {a b:Nat} (h:a<=b):(2:Int)^a<=2^b:=by
 obtain⟨m,rfl⟩:=δJ h
 rw[δg]
 have c:(0:Int)<2^a:=γU (by decide)
 have d:(0:Int)<2^m:=γU (by decide)
 have:=ν (show(1:Int)<=2^m by omega) (φ c)
 omega
theorem amD {v:Int} (h:0<=v):0<=Kw v/\v<2^(Kw v).toNat/\(Kw v=0\/2^((Kw v).toNat - 1)<=v):=by
 unfold Kw;split
 ·simp_all
 ·rename_i c
  have a:=@Nat.lt_log2_self v.toNat
  have b:=Nat.log2_self_le (show v.toNat≠0 by omega)
  grind
theorem aw3 {v:Int} {n:Nat} (d:0<=v) (f:v<2^n) (b:n=0\/2^(n - 1)<=v):(n:Int)=Kw v:=by
 obtain⟨g,h,a⟩:=amD d
 by_cases e:n<(Kw v).toNat
 ·rcases a with a|a
  ·omega
  ·have:=agz (show n<=(Kw v).toNat - 1 by omega)
   omega
 ·by_cases c:(Kw v).toNat<n
  ·rcases b with b|b
   ·omega
   ·have:=agz (show(Kw v).toNat<=n - 1 by omega)
    omega
  ·omega
def amE:fN:=⟨178,List Int×Int,.cons (mA (.i .u32)) (.one (sx .i64)),λa=>cQ a.1/\0<=a.2/\a.2<=1000000000000,λa=> .si .u64 (abE (bD a.1) a.2.toNat)⟩
theorem h162:Holds Tryz.prog amE:=by
 refine kh (L:=[afq]) amE lk (by grind[h139]) ?_
 rintro⟨a,i⟩ ⟨g,e,d⟩
 simp only at g e d
 refine gp (let d:=(0:Int);let e:=(32:Int);let f:=(2:Int);let b:=i.tdiv e;let c:=i.tmod e;let k:=(1:Int)*f^c.toNat % (18446744073709551616:Int);let j:=(bC a b.toNat d).tdiv k;e≠d/\ie .i64 b/\(cQ a/\d<=b)/\e≠d/\d<=c/\c<=(64:Int)/\k≠d/\ie .u64 j/\f≠d/\(γa .u64 (j.tmod f)).same (γa .u64 (abE (bD a) i.toNat))) (by kernel_rfl) ?_
 simp only[vcs];rw[γS e,γT e]
 have n:(i / 32).toNat=i.toNat / 32:=by omega
 have o:(i % 32).toNat=i.toNat % 32:=by omega
 have l:(0:Int)<2^(i.toNat % 32):=γU (by decide)
 have f:=agz (show i.toNat % 32<=32 by omega)
 rw[show(2:Int)^32=4294967296 from rfl] at f
 have q:1*2^(i.toNat % 32) % 18446744073709551616=(2:Int)^(i.toNat % 32):=by omega
 have h:=qb g (i.toNat / 32)
 have p:0<=bC a (i.toNat / 32) 0 / 2^(i.toNat % 32):=γ9 h.1 (φ l)
 have m:bC a (i.toNat / 32) 0 / 2^(i.toNat % 32)<=bC a (i.toNat / 32) 0:=εW _ h.1
 grind[aFf,u64_in]
def aqG:fN:=⟨176,List Int,.one (mA (.i .u32)),λa=>cQ a/\a.length<=10000000000,λa=> .si .i64 (Kw (bD a))⟩
def aFh (a:List Int):Nat->jY
 |2=> .inv Int (λn=>⟨[(0,.row (.i .u32) a),(3,.si .i64 n)],[]⟩) (λs=>iS s 3) (λn=>0<=n/\n<=32*(a.length:Int)/\bD a<2^n.toNat) (λn=>n.toNat) λ_ _=> .look
 |_=> .look
theorem h160:Holds Tryz.prog aqG:=by
 refine kh (L:=[amE]) aqG aFh (by grind[h162]) ?_
 intro(a:List Int) h
 obtain⟨f,w⟩:cQ a/\a.length<=10000000000:=h
 refine gp (let e:=γa .i64;let f:=(0:Int);let g:=ie .i64;let h:=(2:Int);let c:=(32:Int)*(↑a.length:Int);let d:=Ξ (cn.i .u32) a;let o:=e c;let j:=(32:Int)*(↑a.length:Int);let t:=e (Kw (bD a));g c/\(((d.same d/\o.same o/\True)/\True)/\f<=c/\c<=j/\bD a<h^c.toNat)/\∀(x:Int),let q:=decide (f<x);let b:=x - (1:Int);let p:=decide (abE (bD a) b.toNat=f);let r:=e b;f<=x/\x<=j/\bD a<h^x.toNat->(q=true->g b/\(cQ a/\f<=b/\b<=(1000000000000:Int))/\(p=true->g b/\((d.same d/\r.same r/\True)/\True)/\(f<=b/\b<=j/\bD a<h^b.toNat)/\b.toNat<x.toNat)/\(p=false->(e x).same t))/\(q=false->(e x).same t)) (by kernel_rfl) ?_
 simp only[vcs]
 have l:=rf f
 refine⟨by omega,⟨by omega,by omega,?_⟩,?_⟩
 ·have:=Ku f
  have e:(32*(a.length:Int)).toNat=32*a.length+0:=by omega
  rw[e,aeu];omega
 rintro n ⟨z,C,s⟩
 refine⟨λu=>⟨by omega,⟨f,by omega,by omega⟩,λk=>⟨by omega,⟨by omega,by omega,?_⟩,by omega⟩,λk=>?_⟩,λu=>?_⟩
 ·have e:n.toNat=(n - 1).toNat+1:=by omega
  rw[e,γx] at s;unfold abE at k
  generalize (n - 1).toNat=m at*
  have g:(0:Int)<2^m:=γU (by decide)
  have v:bD a / 2^m<2:=δy g (by omega)
  have A:0<=bD a / 2^m:=γ9 l (φ g)
  have D:bD a / 2^m=0:=by omega
  have B:=δa (bD a) (2^m)
  have y:=γO (bD a) g
  simp_all
 ·have:=aw3 l s (.inr ?_)
  ·omega
  ·by_cases h:2^(n.toNat - 1)<=bD a
   ·exact h
   ·exfalso
    apply k
    unfold abE
    rw[show(n - 1).toNat=n.toNat - 1 by omega,δQ l (by omega)]
    rfl
 grind[aw3]
def aqH:fN:=⟨177,List Int×Int,.cons (mA (.i .u32)) (.one (sx .i64)),λa=>(cQ a.1/\a.1.length<=10000000000)/\0<=a.2/\a.2<=1000000000000,λa=> .row (.i .u32) (ey (bD a.1 / 2^a.2.toNat))⟩
def aFi (a:List Int×Int):Nat->jY
 |3=> .inv (Int×List Int) (λx=>⟨[(0,.row (.i .u32) a.1),(1,.si .i64 a.2),(5,.ow 0 x.2.length 1),(6,.si .i64 x.1)],[.row (.i .u32) x.2 161 true]⟩) (λs=>(iS s 6,oS (.i .u32) s 0))
  (λx=>(a.2 / 32<=x.1/\x.1<=max (a.2 / 32) a.1.length)/\cQ x.2/\(x.2.length:Int)=x.1 - a.2 / 32/\bD x.2=bD a.1 / 2^a.2.toNat % 4294967296^x.2.length) (λx=>(max (a.2 / 32) a.1.length - x.1).toNat) λ_ _=> .look
 |_=> .look
theorem h161:Holds Tryz.prog aqH:=by
 refine kh (L:=[afq,afp]) aqH aFi (by grind[h139,h140]) ?_
 rintro⟨a,k⟩ ⟨⟨l,C⟩,z,k1⟩
 simp only at l C z k1
 refine gp (let b:=(4294967296:Int);let g:=(18446744073709551616:Int);let h:=(0:Int);let l:=γa .i64;let m:=(32:Int);let r:=Ξ;let w:=ie .i64;let y:=(1:Int);let q:=k.tdiv m;let f:=cn.i .u32;let K:=γQ 0 0 1;let F:=l q;let N:=cJ.row f [] 161 true;let j:=k / m;let n:=max j (↑a.length:Int);let v:=bD a / (2:Int)^k.toNat;let A:=k.tmod m;let G:=y*(2:Int)^A.toNat % g;m≠h/\w q/\((((r f a).same (r f a)/\(l k).same (l k)/\K.same K/\F.same F/\True)/\N.same N/\True)/\(j<=q/\q<=n)/\cQ []/\h=q - j/\bD []=v % y)/\∀(x:Int×List Int),let e:=x.snd.length;let p:=decide (x.fst<(↑a.length:Int));let c:=x.fst+y;let t:=((bC a x.fst.toNat h+bC a c.toNat h*b % g) % g).tdiv G;let s:=x.snd.length+1;let d:=x.snd++[t.tmod b % b];let o:=l c;let u:=cJ.row f d 161 true;(j<=x.fst/\x.fst<=n)/\cQ x.snd/\(↑e:Int)=x.fst - j/\bD x.snd=v % b^e->(p=true->(cQ a/\h<=x.fst)/\w c/\(cQ a/\h<=c)/\m≠h/\h<=A/\A<=(64:Int)/\G≠h/\ie .u64 t/\b≠h/\e=x.snd.length/\s*4<=140737488355328/\s<=1000000000000/\w c/\(((r f a).same (r f a)/\(l k).same (l k)/\(γQ 0 d.length 1).same (γQ 0 d.length 1)/\o.same o/\True)/\u.same u/\True)/\((j<=c/\c<=n)/\cQ d/\(↑d.length:Int)=c - j/\bD d=v % b^d.length)/\(n - c).toNat<(n - x.fst).toNat)/\(p=false->e=x.snd.length/\(cQ x.snd/\e<=100000000000)/\(r f (ey (bD x.snd))).same (r f (ey v)))) (by kernel_rfl) ?_
 simp only[vcs];rw[γS z,γT z]
 have V:=rf l
 have Y:(k % 32).toNat=k.toNat % 32:=by omega
 have W:(0:Int)<2^(k.toNat % 32):=γU (by decide)
 have E:=agz (show k.toNat % 32<=32 by omega)
 rw[show(2:Int)^32=4294967296 from rfl] at E
 have Q:1*2^(k.toNat % 32) % 18446744073709551616=(2:Int)^(k.toNat % 32):=by omega
 have g:(0:Int)<2^k.toNat:=γU (by decide)
 have pX:0<=bD a / 2^k.toNat:=γ9 V (φ g)
 refine⟨by omega,by omega,⟨⟨by omega,by omega⟩,by simp[cQ],by omega,by rw[Int.emod_one];rfl⟩,?_⟩
 rintro⟨i,b⟩ ⟨⟨i0,O⟩,ho,B,D⟩
 simp only at i0 O ho B D ⊢
 rw[Y,Q]
 refine⟨λhi=>?_,λhi=>?_⟩
 ·have x:=qb l i.toNat
  have y:=qb l (i.toNat+1)
  have R:(i+1).toNat=i.toNat+1:=by omega
  have Z:(bC a i.toNat 0+bC a (i.toNat+1) 0*4294967296 % 18446744073709551616) % 18446744073709551616=bC a i.toNat 0+bC a (i.toNat+1) 0*4294967296:=by omega
  have h:0<=bC a i.toNat 0+bC a (i.toNat+1) 0*4294967296:=by omega
  have H:0<=(bC a i.toNat 0+bC a (i.toNat+1) 0*4294967296) / 2^(k.toNat % 32):=γ9 h (φ W)
  have P:(bC a i.toNat 0+bC a (i.toNat+1) 0*4294967296) / 2^(k.toNat % 32)<=bC a i.toNat 0+bC a (i.toNat+1) 0*4294967296:=εW _ h
  have w:=aFg (i:=i.toNat) (r:=k.toNat % 32) l (by omega)
  have a0:ie .u64 ((bC a i.toNat 0+bC a (i.toNat+1) 0*4294967296) / 2^(k.toNat % 32)):=u64_in H (by omega)
  rw[R,Z,γS h,γT H,w]
  have T:bD a / 2^(32*i.toNat+k.toNat % 32) % 4294967296 % 4294967296=bD a / 2^k.toNat / 4294967296^b.length % 4294967296:=by
   rw[Int.emod_emod_of_dvd _ (Int.dvd_refl _)]
   have e3:(2:Int)^(32*i.toNat+k.toNat % 32)=2^k.toNat*4294967296^b.length:=by
    rw[aeu]
    have:(2:Int)^k.toNat=4294967296^(k.toNat / 32)*2^(k.toNat % 32):=by rw[<-aeu];congr 1;omega
    rw[this,show i.toNat=k.toNat / 32+b.length by omega,δg,γI,δr (4294967296^b.length),<-γI]
   rw[e3,<-δo (φ g)]
  rw[T]
  have S:=γ8 (bD a / 2^k.toNat / 4294967296^b.length) (show(4294967296:Int)≠0 by decide)
  have X:=γO (bD a / 2^k.toNat / 4294967296^b.length) (show(0:Int)<4294967296 by decide)
  have M:bD (b++[bD a / 2^k.toNat / 4294967296^b.length % 4294967296])=bD a / 2^k.toNat % 4294967296^(b.length+1):=by
   rw[adI,D]
   have:=aqF (x:=bD a / 2^k.toNat) (r:=32*b.length+0) (m:=32*(b.length+1)+0) (by omega)
   rw[aeu,aeu,εj,δ8,δ8,show 32*(b.length+1)+0 - (32*b.length+0)=32 by omega,show(2:Int)^32=4294967296 from rfl] at this
   rw[<-this]
   have U:=δa (bD a / 2^k.toNat % 4294967296^(b.length+1)) (4294967296^b.length)
   have I:bD a / 2^k.toNat % 4294967296^(b.length+1) % 4294967296^b.length=bD a / 2^k.toNat % 4294967296^b.length:=by
    rw[γx]
    simp_all
   omega
  have J:(b++[bD a / 2^k.toNat / 4294967296^b.length % 4294967296]).length=b.length+1:=by simp
  grind[agm,ajr]
 ·have hX:bD a / 2^k.toNat<4294967296^b.length:=by
   refine δy g ?_
   have U:=Ku l
   have I:=afk (show a.length<=k.toNat / 32+b.length by omega)
   rw[δg] at I
   have h3:(4294967296:Int)^(k.toNat / 32)<=2^k.toNat:=by
    have:=agz (show 32*(k.toNat / 32)+0<=k.toNat by omega)
    rwa [aeu,εj,δ8] at this
   have h4:=Int.mul_le_mul_of_nonneg_right h3 (φ (pow_pos b.length))
   grind
  rw[δm pX hX] at D
  grind
theorem aw4 {a:List Int} (h:cQ a):Kw (bD a)<=32*(a.length:Int):=by
 obtain⟨g,f,b⟩:=amD (rf h)
 by_cases d:Kw (bD a)<=32*(a.length:Int)
 ·exact d
 ·rcases b with b|b
  ·omega
  ·have e:=Ku h
   have c:=agz (show 32*a.length+0<=(Kw (bD a)).toNat - 1 by omega)
   rw[aeu,εj,δ8] at c;omega
def LR:List fN:=[aqG,aqH,amE,ajT,amz,amy,amA]
theorem hLR:∀c∈LR,Holds Tryz.prog c:=by
 simp only[LR,δH,δp,false_implies,implies_true,and_true]
 grind[h160,h161,h162,h106,h107,h141,h159]
def amF:fN:=⟨153,List Int×List Int,.cons (mA (.i .u32)) (.one (mA (.i .u32))),λa=>(cQ a.1/\cQ a.2)/\(a.1.length<=1000000000/\a.2.length<=1000000000)/\0<bD a.2,
 λa=> .eW [.row (.i .u32) (ey (bD a.1 / bD a.2)),.row (.i .u32) (ey (bD a.1 % bD a.2)),.si .i64 0]⟩
def aFk (a:List Int×List Int):Nat->jY
 |7=> .inv (Int×List Int×List Int) (λx=>⟨[(0,.row (.i .u32) a.1),(1,.row (.i .u32) a.2),(8,.row (.i .u32) x.2.1),(9,.row (.i .u32) x.2.2),(10,.si .i64 x.1)],[.dead]⟩) (λs=>(iS s 10,rS (.i .u32) s 8,rS (.i .u32) s 9))
  (λx=>(-1<=x.1/\x.1<=100000000000)/\(cQ x.2.1/\qH x.2.1)/\(cQ x.2.2/\qH x.2.2)/\bD x.2.1*bD a.2+bD x.2.2=bD a.1 / 2^(x.1+1).toNat/\bD x.2.2<bD a.2) (λx=>(x.1+1).toNat) λ_ _=> .look
 |_=> .look
theorem h138:Holds Tryz.prog amF:=by
 refine kh (L:=LR) amF aFk hLR ?_
 rintro⟨a,b⟩ ⟨⟨t,O⟩,⟨a0,a1⟩,M⟩
 simp only at t O a0 a1 M
 refine gp (let h:=Ξ;let k:=(1:Int);let n:=(100000000000:Int);let q:=(18446744073709551616:Int);let r:=(0:Int);let t:=(1000000000000:Int);let v:=ie .i64;let w:=γa .i64;let y:=(2:Int);let z:=(-1:Int);let C:=SV.eW;let K:=decide ((↑b.length:Int)=r);let Z:=h (cn.i .i64) [];let c:=cn.i .u32;let T:=C [h c (ey (bD a / bD b)),h c (ey (bD a % bD b)),w 0];let Y:=Kw (bD a) - max k (Kw (bD b));let N:=max r (Y+k);let H:=N - k;let s:=ey (bD a / y^N.toNat);let L:=w H;let G:=ey k;(K=true->(C [Z,Z,γu .i64 8]).same T)/\(K=false->(cQ a/\a.length<=10000000000)/\(cQ b/\b.length<=10000000000)/\v Y/\v (Y+k)/\0=0/\((cQ a/\a.length<=10000000000)/\r<=N/\N<=t)/\v H/\((((h c a).same (h c a)/\(h c b).same (h c b)/\(h c []).same (h c [])/\(h c s).same (h c s)/\L.same L/\True)/\cJ.dead.same cJ.dead/\True)/\(z<=H/\H<=n)/\(cQ []/\qH [])/\(cQ s/\qH s)/\bD []*bD b+bD s=bD a / y^(H+k).toNat/\bD s<bD b)/\∀(x:Int×List Int×List Int),let j:=x.fst - k;let I:=w j;let B:=(j+k).toNat;let E:=(x.fst+k).toNat;let l:=bD x.snd.snd;let p:=ey (l+l);let e:=abE (bD a) x.fst.toNat;let f:=bD p+bD (ey e);let o:=bD x.snd.fst;let J:=decide (r<=x.fst);let m:=ey (o+o);let F:=λ(u R:List Int) (d:Int) ↦let g:=ey (bD u+bD R);v j/\(((h c a).same (h c a)/\(h c b).same (h c b)/\(h c g).same (h c g)/\(h c (ey d)).same (h c (ey d))/\I.same I/\True)/\cJ.dead.same cJ.dead/\True)/\((z<=j/\j<=n)/\(cQ g/\qH g)/\(cQ (ey d)/\qH (ey d))/\bD g*bD b+bD (ey d)=bD a / y^B/\bD (ey d)<bD b)/\B<E;let A:=λ(u:Nat) ↦(cQ (ey f)/\cQ b)/\(ey f).length<=u/\b.length<=u;let D:=λ(u:Bool) ↦decide (r<=Ig (bD (ey f)) (bD b))=u;(z<=x.fst/\x.fst<=n)/\(cQ x.snd.fst/\qH x.snd.fst)/\(cQ x.snd.snd/\qH x.snd.snd)/\o*bD b+l=bD a / y^E/\l<bD b->(J=true->((cQ x.snd.fst/\cQ x.snd.fst)/\x.snd.fst.length<=10000000000/\x.snd.fst.length<=10000000000)/\((cQ x.snd.snd/\cQ x.snd.snd)/\x.snd.snd.length<=10000000000/\x.snd.snd.length<=10000000000)/\(cQ a/\r<=x.fst/\x.fst<=t)/\(r<=e/\e<q)/\((cQ p/\cQ (ey e))/\p.length<=10000000000/\(ey e).length<=10000000000)/\A 1000000000000/\(D true->A 10000000000/\(r<=k/\k<q)/\((cQ m/\cQ G)/\m.length<=10000000000/\G.length<=10000000000)/\F m G (bD (ey f) - bD b))/\(D false->F x.snd.fst x.snd.fst f))/\(J=false->(C [h c x.snd.fst,h c x.snd.snd,γu .i64 0]).same T))) (by kernel_rfl) ?_
 simp only[vcs]
 have W:=rf t
 have a5:b.length≠0:=by
  intro h;rw[π h] at M
  exact absurd M (by decide)
 obtain⟨A0,A1,A2⟩:=amD W
 obtain⟨B0,B1,B2⟩:=amD (φ M)
 have Ab:=aw4 t
 have Bb:=aw4 O
 have a7:1<=Kw (bD b):=by
  grind
 have hm:max 1 (Kw (bD b))=Kw (bD b):=by omega
 rw[hm]
 obtain⟨K,hK⟩:∃K,K=max 0 (Kw (bD a) - Kw (bD b)+1):=⟨_,rfl⟩
 rw[<-hK]
 have a4:0<=K:=by omega
 have S:(0:Int)<2^K.toNat:=γU (by decide)
 have U:bD a / 2^K.toNat<bD b:=by
  refine δy S ?_
  have h1:=agz (show(Kw (bD a)).toNat<=K.toNat+((Kw (bD b)).toNat - 1) by omega)
  rw[δg] at h1
  have h2:(2:Int)^((Kw (bD b)).toNat - 1)<=bD b:=by omega
  have h3:=ν h2 (φ S)
  grind
 have pq:0<=bD a / 2^K.toNat:=γ9 W (φ S)
 obtain⟨q1,q2,q3⟩:=ri pq
 have eK:(K - 1+1).toNat=K.toNat:=by omega
 rw[eK,q1]
 clear A1 A2 B1 B2 hm
 refine⟨λh=>absurd h (by omega),λ_=>⟨⟨t,by omega⟩,⟨O,by omega⟩,by omega,by omega,⟨⟨t,by omega⟩,by omega,by omega⟩,by omega,⟨⟨by omega,by omega⟩,⟨by simp[cQ],trivial⟩,⟨q2,q3⟩,by simp[bD],U⟩,?_⟩⟩
 rintro⟨i,q,r⟩ ⟨⟨i0,i1⟩,⟨C,nq⟩,⟨w,nr⟩,Q,z⟩
 simp only at i0 i1 C nq w nr Q z ⊢
 have a2:=rf C
 have a3:=rf w
 have G:=agw w O nr (φ z)
 have a8:(0:Int)<2^(i+1).toNat:=γU (by decide)
 have a6:bD a / 2^(i+1).toNat<=bD a:=εW _ W
 have v:q.length<=a.length:=by
  refine agw C t nq ?_
  have:=ν (show(1:Int)<=bD b by omega) a2
  omega
 refine⟨λhi=>?_,λhi=>?_⟩
 ·have e1:(i+1).toNat=i.toNat+1:=by omega
  have e2:(i - 1+1).toNat=i.toNat:=by omega
  have y:0<=abE (bD a) i.toNat/\abE (bD a) i.toNat<=1:=by grind[abE]
  have n:bD a / 2^i.toNat=2*(bD a / 2^(i+1).toNat)+abE (bD a) i.toNat:=by
   have P:(0:Int)<2^i.toNat:=γU (by decide)
   rw[e1,γx,<-δo (φ P)]
   grind[abE]
  rw[<-Q] at n
  obtain⟨u1,u2,u3⟩:=ri (show 0<=bD r+bD r by omega)
  obtain⟨w1,w2,w3⟩:=ri y.1
  obtain⟨x1,x2,x3⟩:=ri (show 0<=bD r+bD r+abE (bD a) i.toNat by omega)
  obtain⟨y1,y2,y3⟩:=ri (show 0<=bD q+bD q by omega)
  obtain⟨Z,c,T⟩:=ri (show(0:Int)<=1 by omega)
  obtain⟨s1,s2,s3⟩:=ri (show 0<=bD q+bD q+1 by omega)
  have ul:=aqA w w G G
  have wl:=Lq (k:=1) y.1 (by omega)
  have xl:=aqA (k:=b.length+2) u2 w2 (by omega) (by omega)
  have yl:=aqA C C v v
  have zl:=Lq (k:=1) (show(0:Int)<=1 by omega) (by decide)
  grind[Ig,ri]
 ·have e0:(i+1).toNat=0:=by omega
  rw[e0,εj,Int.ediv_one] at Q
  obtain⟨w1,w2⟩:=afc (X:=bD a) (V:=bD b) (q:=bD q) (by omega) (by grind)
  grind[aek]
def amG:fN:=⟨152,List Int×List Int,.cons (mA (.i .u32)) (.one (mA (.i .u32))),λa=>(cQ a.1/\cQ a.2)/\(a.1.length<=100000000/\a.2.length<=100000000)/\qH a.2,
 λa=> .row (.i .u32) (ey (q9 (bD a.1) (bD a.2)))⟩
def aFl (a:List Int×List Int):Nat->jY
 |1=> .inv (List Int×List Int) (λx=>⟨[(0,.row (.i .u32) x.1),(1,.row (.i .u32) x.2)],[]⟩) (λs=>(rS (.i .u32) s 0,rS (.i .u32) s 1))
  (λx=>(cQ x.1/\cQ x.2)/\qH x.2/\(x.1.length<=100000000/\x.2.length<=100000000)/\q9 (bD x.1) (bD x.2)=q9 (bD a.1) (bD a.2)) (λx=>(bD x.2).toNat) λ_ _=> .look
 |_=> .look
theorem h125:Holds Tryz.prog amG:=by
 refine kh (L:=[amF,afp]) amG aFl (by grind[h138,h140]) ?_
 rintro⟨a,b⟩ ⟨⟨p,l⟩,⟨g,h⟩,m⟩
 simp only at p l g h m
 refine gp (let e:=Ξ;let c:=cn.i .u32;let f:=q9 (bD a) (bD b);((((e c a).same (e c a)/\(e c b).same (e c b)/\True)/\True)/\(cQ a/\cQ b)/\qH b/\(a.length<=100000000/\b.length<=100000000)/\f=f)/\∀(x:List Int×List Int),let j:=x.fst.length;let n:=decide ((0:Int)<(↑x.snd.length:Int));let d:=ey (bD x.fst % bD x.snd);(cQ x.fst/\cQ x.snd)/\qH x.snd/\(j<=100000000/\x.snd.length<=100000000)/\q9 (bD x.fst) (bD x.snd)=f->(n=true->((cQ x.fst/\cQ x.snd)/\(j<=1000000000/\x.snd.length<=1000000000)/\(0:Int)<bD x.snd)/\(((e c x.snd).same (e c x.snd)/\(e c d).same (e c d)/\True)/\True)/\((cQ x.snd/\cQ d)/\qH d/\(x.snd.length<=100000000/\d.length<=100000000)/\q9 (bD x.snd) (bD d)=f)/\(bD d).toNat<(bD x.snd).toNat)/\(n=false->(cQ x.fst/\j<=100000000000)/\(e c (ey (bD x.fst))).same (e c (ey f)))) (by kernel_rfl) ?_
 simp only[vcs]
 refine⟨⟨⟨p,l⟩,m,⟨g,h⟩⟩,?_⟩
 rintro⟨s,t⟩ ⟨⟨o,k⟩,B,⟨q,C⟩,u⟩
 simp only at o k B C q u ⊢
 have G:=rf o
 have F:=rf k
 refine⟨λy=>?_,λy=>?_⟩
 ·have e:0<bD t:=by
   grind[val_zero]
  have r:=γ8 (bD s) (show bD t≠0 by omega)
  have v:=γO (bD s) e
  obtain⟨A,z,E⟩:=ri r
  have w:=agw z k E (by rw[A];omega)
  grind[awr]
 ·have D:t=[]:=π (by omega)
  grind[bD,aws]
def ZX (a:List Int):Bool:=decide (a.length=0)||decide (bC a (a.length - 1) 0≠0)
theorem abG {a:List Int}:ZX a=true↔qH a:=by
 unfold ZX;rw[Bool.or_eq_true,decide_eq_true_eq,decide_eq_true_eq]
 constructor
 ·exact amx
 ·intro h
  by_cases e:a.length=0
  ·exact .inl e
  ·right
   have b:=alX (a:=a) (n:=a.length - 1) (by omega)
   rw[show a.length - 1+1=a.length by omega,τ] at b
   have:∀{l:List Int} {x:Int},qH (l++[x])->x≠0:=by
    intro l x
    induction l with
    |nil=>intro h;exact h.1 rfl
    |cons d l c=>intro h;exact c h.2
   grind
def aqI:fN:=⟨163,List Int,.one (mA (.i .u32)),λa=>a.length<=1000000000,λa=> .sb (ZX a)⟩
theorem h124:Holds Tryz.prog aqI:=by
 refine kh (L:=[]) aqI lk (by simp) ?_
 intro(a:List Int) h
 have h:a.length<=1000000000:=h
 refine gp (let e:=(0:Int);let c:=(↑a.length:Int);let d:=decide (c=e);let b:=c - (1:Int);(d=true->(δe true).same (γv (ZX a)))/\(d=false->ie .i64 b/\e<=b/\b<c/\b.toNat<a.length/\(γv (decide (bC a b.toNat e≠e))).same (γv (ZX a)))) (by kernel_rfl) ?_
 simp only[vcs]
 grind[ZX]
def aqJ:fN:=⟨114,Int,.one (sx .i64),λn=> -9223372036854775808<=(show Int from n)/\(show Int from n)<=9223372036854775807,λn=> .row (.i .u32) (ey ((show Int from n).natAbs:Int))⟩
theorem h135:Holds Tryz.prog aqJ:=by
 refine kh (L:=[amA]) aqJ lk (by grind[h159]) ?_
 intro(n:Int) h
 obtain⟨e,f⟩: -9223372036854775808<=n/\n<=9223372036854775807:=h
 refine gp (let e:=(18446744073709551616:Int);let f:=(1:Int);let g:=(0:Int);let h:=Ξ;let d:=decide (n<g);let a:=(-(n+f)+f) % e;let b:=cn.i .u32;let c:=h b (ey (↑n.natAbs:Int));(d=true->ie .i64 (n+f)/\ie .i64 (-(n+f))/\ie .u64 (-(n+f))/\(g<=a/\a<e)/\(h b (ey a)).same c)/\(d=false->ie .u64 n/\(g<=n/\n<e)/\(h b (ey n)).same c)) (by kernel_rfl) ?_
 simp only[vcs]
 grind[u64_in]
def ajU:fN:=⟨113,Bool×(List Int×List Int),.cons aoU (.cons (mA (.i .u32)) (.one (mA (.i .u32)))),λa=>(cQ a.2.1/\cQ a.2.2)/\(a.2.1.length<=100000000/\a.2.2.length<=100000000)/\(qH a.2.1/\qH a.2.2)/\0<bD a.2.2,
 λa=> .eW [XA (sY a.1 (bD a.2.1) (bD a.2.2)),.si .i64 0]⟩
theorem h105:Holds Tryz.prog ajU:=by
 refine kh (L:=[amG,amF]) ajU lk (by grind[h125,h138]) ?_
 rintro⟨s,n,d⟩ ⟨⟨e,f⟩,⟨k,j⟩,⟨B,r⟩,b⟩
 simp only at e f k j b B r
 refine gp (let b:=Ξ;let e:=(0:Int);let f:=δe false;let g:=γL;let h:=SV.eW;let c:=cn.i .u32;let a:=ey (q9 (bD n) (bD d));let p:=cC (sY s (bD n) (bD d));let x:=h [g [γv p.fst,b c p.snd.fst,b c p.snd.snd],γa .i64 0];let w:=decide ((↑d.length:Int)=e);let q:=b (cn.i .i64) [];let t:=λ(u:Bool) (m:SV) ↦s=u->(h [g [m,b c (ey (bD n / bD a)),b c (ey (bD d / bD a))],γu .i64 0]).same x;(w=true->(h [g [f,q,q],γu .i64 8]).same x)/\(w=false->((cQ n/\cQ d)/\(n.length<=100000000/\d.length<=100000000)/\qH d)/\((cQ n/\cQ a)/\(n.length<=1000000000/\a.length<=1000000000)/\e<bD a)/\((cQ d/\cQ a)/\(d.length<=1000000000/\a.length<=1000000000)/\e<bD a)/\t true (γv (decide (e<(↑n.length:Int))))/\t false (f))) (by kernel_rfl) ?_
 simp only[vcs]
 have C:=rf e
 have l:0<q9 (bD n) (bD d):=by
  simp_all[q9]
 have A:q9 (bD n) (bD d)<=bD d:=by
  unfold q9
  have:=ζw (bD n).toNat (show 0<(bD d).toNat by omega)
  omega
 obtain⟨F,o,z⟩:=ri (φ l)
 have D:=agw o f z (by omega)
 have v:(0<(n.length:Int))↔0<bD n:=by
  constructor
  ·grind[val_zero]
  ·intro h
   by_cases E:n.length=0
   ·rw[π E] at h
    exact absurd h (by decide)
   ·omega
 have y:decide (0<(n.length:Int))=decide (0<bD n):=by simp_all
 have G:d.length≠0:=by
  intro h;rw[π h] at b
  exact absurd b (by decide)
 unfold sY;rw[aqe C b,F]
 simp only
 refine⟨λh=>absurd h (by omega),λ_=>⟨⟨⟨e,f⟩,⟨by omega,by omega⟩,r⟩,⟨⟨e,o⟩,⟨by omega,by omega⟩,l⟩,⟨⟨f,o⟩,⟨by omega,by omega⟩,l⟩,λg=>?_,λg=>?_⟩⟩
 ·rw[g,y]
  rfl
 ·rw[g]
  rfl
def aqK:fN:=⟨73,Int×Int,.cons (sx .i64) (.one (sx .i64)),λa=>(-9223372036854775808<=a.1/\a.1<=9223372036854775807)/\0<a.2/\a.2<=9223372036854775807,λa=> .eW [XA (sY (decide (a.1<0)) (a.1.natAbs:Int) a.2),.si .i64 0]⟩
theorem h103:Holds Tryz.prog aqK:=by
 refine kh (L:=[aqJ,ajU]) aqK lk (by grind[h135,h105]) ?_
 rintro⟨n,d⟩ ⟨⟨u,w⟩,q,t⟩
 simp only at u w q t
 refine gp (let e:=(-9223372036854775808:Int);let h:=(9223372036854775807:Int);let j:=(0:Int);let k:=Ξ;let c:=ey (↑n.natAbs:Int);let a:=ey (↑d.natAbs:Int);let g:=cC (sY (!decide (n<j)==decide (d<j)) (bD c) (bD a));let b:=cn.i .u32;let l:=[γa .i64 0];let f:=cC (sY (decide (n<j)) (↑n.natAbs:Int) d);(e<=n/\n<=h)/\(e<=d/\d<=h)/\((cQ c/\cQ a)/\(c.length<=100000000/\a.length<=100000000)/\(qH c/\qH a)/\j<bD a)/\(SV.eW (γL [γv g.fst,k b g.snd.fst,k b g.snd.snd]::l)).same (SV.eW (γL [γv f.fst,k b f.snd.fst,k b f.snd.snd]::l))) (by kernel_rfl) ?_
 simp only[vcs]
 obtain⟨v,s,m⟩:=ri (show(0:Int)<=(n.natAbs:Int) by omega)
 obtain⟨o,j,h⟩:=ri (show(0:Int)<=(d.natAbs:Int) by omega)
 have x:=Lq (k:=2) (show(0:Int)<=(n.natAbs:Int) by omega) (by omega)
 have p:=Lq (k:=2) (show(0:Int)<=(d.natAbs:Int) by omega) (by omega)
 have e:(d.natAbs:Int)=d:=by omega
 have r:(!(decide (n<0)==decide (d<0)))=decide (n<0):=by
  grind
 rw[r,v,o,e];rw[e] at j h p
 repeat' refine γe ?_ ?_
 all_goals first|omega|exact s|exact j|exact m|exact h|rfl
def r51:fN:=⟨41,Int,.one (sx .i64),λn=> -9223372036854775808<=(show Int from n)/\(show Int from n)<=9223372036854775807,λn=>XA ((show Int from n):Rat)⟩
theorem aFm (n:Int):sY (decide (n<0)) (n.natAbs:Int) 1=(n:Rat):=by
 unfold sY
 have a:(if decide (n<0)=true then -(n.natAbs:Int) else(n.natAbs:Int))=n:=by
  grind
 grind[Rat.mkRat_one]
theorem h51:Holds Tryz.prog r51:=by
 refine kh (L:=[aqK]) r51 lk (by grind[h103]) ?_
 intro(n:Int) h
 obtain⟨e,d⟩: -9223372036854775808<=n/\n<=9223372036854775807:=h
 refine gp (let d:=(9223372036854775807:Int);let e:=Ξ;let f:=(1:Int);let c:=cC (sY (decide (n<(0:Int))) (↑n.natAbs:Int) f);let a:=cn.i .u32;let b:=cC (ξ n);(((-9223372036854775808:Int)<=n/\n<=d)/\(0:Int)<f/\f<=d)/\(γL [γv c.fst,e a c.snd.fst,e a c.snd.snd]).same (γL [γv b.fst,e a b.snd.fst,e a b.snd.snd])) (by kernel_rfl) ?_
 grind[afo,aFm]
def xN (x:fi):Prop:=∃q k,x=cC q/\Sz k q/\k<=10000000
theorem aFo (q:Rat):cC (-q)=(!(cC q).1&&decide (0<((cC q).2.1.length:Int)),(cC q).2):=by
 have d:0<((cC q).2.1.length:Int)↔q.num≠0:=by
  obtain⟨_,⟨g,e,f⟩,_⟩:=QY q
  constructor
  ·grind[val_zero]
  ·intro h
   by_cases c:(cC q).2.1.length=0<;>grind[cC,bD]
 unfold cC
 refine Prod.ext ?_ (Prod.ext ?_ ?_)
 ·simp only
  rw[ε1];simp only[decide_eq_true_eq,Bool.and_eq_true,Bool.not_eq_true',decide_eq_false_iff_not]
  have c:=@Rat.num_nonneg q
  have a:=@Rat.num_nonneg (-q)
  rw[Rat.neg_num] at a
  have b:(0:Int)<(ey (q.num.natAbs:Int)).length↔q.num≠0:=d
  grind
 all_goals simp_all
def aqL:fN:=⟨112,fi,.one (Ac sF),lT,λx=>XA (-(fa x))⟩
theorem h142:Holds Tryz.prog aqL:=by
 refine kh (L:=[]) aqL lk (by simp) ?_
 intro(x:fi) h
 obtain⟨q,k,rfl,g,f⟩:lT x:=h
 refine gp (let e:=Ξ;let a:=cn.i .u32;let c:=(cC (-fa (cC q))).snd;let d:=λ(u:Bool) (b:SV) ↦(!(cC q).fst)=u->(γL [b,e a (cC q).snd.fst,e a (cC q).snd.snd]).same (γL [γv (cC (-fa (cC q))).fst,e a c.fst,e a c.snd]);d true (γv (decide ((0:Int)<(↑(γb (cC q).snd.fst):Int))))/\d false (δe false)) (by kernel_rfl) ?_
 conv=>zeta
 have e:=aFo q
 rw[sy]
 refine⟨λh=>?_,λh=>?_⟩
 ·rw[e,h]
  rfl
 ·rw[e,h]
  rfl
def r52:fN:=⟨111,fi×fi,.cons (Ac sF) (.one (Ac sF)),λa=>xN a.1/\xN a.2,λa=>XA (fa a.1+fa a.2)⟩
theorem h52:Holds Tryz.prog r52:=by
 refine kh (L:=[amB,ajT,amz,ajU]) r52 lk (by grind[h104,h106,h107,h105]) ?_
 rintro⟨x,y⟩ ⟨⟨p,i,E,B,hi⟩,⟨q,j,N,F,hj⟩⟩
 simp only at E N
 subst E N
 refine gp (let h:=Ξ;let j:=γL;let v:=(cC p).snd.fst;let l:=(cC q).snd.snd;let e:=ey (bD v*bD l);let w:=(cC q).snd.fst;let m:=(cC p).snd.snd;let d:=ey (bD w*bD m);let b:=ey (bD m*bD l);let a:=cn.i .u32;let k:=cC (fa (cC p)+fa (cC q));let r:=j [γv k.fst,h a k.snd.fst,h a k.snd.snd];let o:=(cC p).fst==(cC q).fst;let c:=ey (bD d - bD e);let g:=cC (sY (cC q).fst (bD c) (bD b));let C:=(cQ e/\cQ d)/\e.length<=10000000000/\d.length<=10000000000;let M:=λ(u:Int) ↦let f:=cC (sY (cC p).fst (bD (ey u)) (bD b));((cQ (ey u)/\cQ b)/\((ey u).length<=100000000/\b.length<=100000000)/\(qH (ey u)/\qH b)/\(0:Int)<bD b)/\(j [γv f.fst,h a f.snd.fst,h a f.snd.snd]).same r;let H:=λ(u:Bool) ↦decide (bD d<=bD e)=u;((cQ v/\cQ l)/\γb v<=1000000000/\γb l<=1000000000)/\((cQ w/\cQ m)/\γb w<=1000000000/\γb m<=1000000000)/\((cQ m/\cQ l)/\γb m<=1000000000/\γb l<=1000000000)/\(o=true->C/\M (bD e+bD d))/\(o=false->C/\(H true->M (bD e - bD d))/\(H false->((cQ d/\cQ e)/\d.length<=10000000000/\e.length<=10000000000)/\((cQ c/\cQ b)/\(c.length<=100000000/\b.length<=100000000)/\(qH c/\qH b)/\(0:Int)<bD b)/\(j [γv g.fst,h a g.snd.fst,h a g.snd.snd]).same r))) (by kernel_rfl) ?_
 conv=>zeta
 obtain⟨e1,⟨u1,_,_⟩,⟨K,_,_⟩⟩:=QY p
 obtain⟨W,⟨u3,_,_⟩,⟨G,_,_⟩⟩:=QY q
 obtain⟨m1,m2⟩:=aaD B
 obtain⟨m3,m4⟩:=aaD F
 obtain⟨X,Y,D,T,Q,hD,V,S,A,l1,l2,l3,l4,l5,l6,n1,n2,n3⟩:=aqw B F
 obtain⟨R,J,c3⟩:=ri V
 obtain⟨c4,I,c6⟩:=ri S
 obtain⟨c7,U,Z⟩:=ri (φ A)
 obtain⟨s1,O,s3⟩:=ri (show 0<=X+Y by omega)
 simp only[sy,T,Q,hD,R,c4,c7,s1,e1,W];simp only[vcs]
 have t:∀{s:Bool} {n:Int},(p.num*q.den+q.num*p.den=if s then -n else n)->(γL [.sb (cC (sY s n D)).1,.row (.i .u32) (cC (sY s n D)).2.1,.row (.i .u32) (cC (sY s n D)).2.2]).same (.agg [.sb (cC (p+q)).1,.row (.i .u32) (cC (p+q)).2.1,.row (.i .u32) (cC (p+q)).2.2]):=
  λh=>afo (awZ n3 h)
 rw[n1,n2] at t
 refine⟨⟨⟨u1,G⟩,by omega,by omega⟩,⟨⟨u3,K⟩,by omega,by omega⟩,⟨⟨K,G⟩,by omega,by omega⟩,λP=>⟨⟨⟨J,I⟩,by omega,by omega⟩,⟨⟨O,U⟩,⟨by omega,by omega⟩,⟨s3,Z⟩,A⟩,t ?_⟩,λP=>⟨⟨⟨J,I⟩,by omega,by omega⟩,λz=>?_,λz=>?_⟩⟩
 all_goals grind[ri]
def amJ:fN:=⟨72,fi×fi,.cons (Ac sF) (.one (Ac sF)),λa=>xN a.1/\xN a.2,λa=>XA (fa a.1 - fa a.2)⟩
theorem h108:Holds Tryz.prog amJ:=by
 refine kh (L:=[aqL,r52]) amJ lk (by grind[h142,h52]) ?_
 rintro⟨x,y⟩ ⟨⟨p,i,h,m,n⟩,⟨q,j,g,k,o⟩⟩
 simp only at h g
 subst h g
 refine gp (let g:=Ξ;let b:=((cC q).fst,(cC q).snd.fst,(cC q).snd.snd);let e:=((cC p).fst,(cC p).snd.fst,(cC p).snd.snd);let l:=(cC (-fa b)).snd;let f:=((cC (-fa b)).fst,l.fst,l.snd);let d:=cC (fa e+fa f);let a:=cn.i .u32;let c:=cC (fa (cC p) - fa (cC q));lT b/\(xN e/\xN f)/\(γL [γv d.fst,g a d.snd.fst,g a d.snd.snd]).same (γL [γv c.fst,g a c.snd.fst,g a c.snd.snd])) (by kernel_rfl) ?_
 conv=>zeta
 have r:xN (cC (-q)):=⟨-q,j,rfl,afl k,o⟩
 refine⟨⟨q,j,rfl,k,by omega⟩,⟨⟨p,i,rfl,m,n⟩,?_⟩,afo ?_⟩
 all_goals grind[sy]
def r48:fN:=⟨71,fi,.one (Ac sF),lT,λx=> .si .i64 (HW (fa x))⟩
theorem h48:Holds Tryz.prog r48:=by
 refine kh (L:=[]) r48 lk (by simp) ?_
 intro(x:fi) h
 obtain⟨q,k,rfl,m,f⟩:lT x:=h
 refine gp (let c:=γu .i64;let a:=γa .i64 (HW (fa (cC q)));let b:=decide ((↑(γb (cC q).snd.fst):Int)=(0:Int));((cC q).fst=true->(c (-1:Int)).same a)/\((cC q).fst=false->(b=true->(c 0).same a)/\(b=false->(c 1).same a))) (by kernel_rfl) ?_
 simp only[vcs];rw[sy]
 obtain⟨c,⟨j,i,d⟩,_⟩:=QY q
 have e:((cC q).2.1.length:Int)=0↔q.num=0:=by
  constructor
  ·intro h
   rw[π (by omega:(cC q).2.1.length=0)] at d
   grind[bD]
  grind[val_zero]
 have n:=@Rat.num_nonneg q
 have l:q<0↔q.num<0:=by
  grind
 have g:0<q↔0<q.num:=by
  grind[ε2]
 rw[e,c];simp only[decide_eq_true_eq,decide_eq_false_iff_not];unfold HW
 grind
def r53:fN:=⟨40,fi×fi,.cons (Ac sF) (.one (Ac sF)),λa=>xN a.1/\xN a.2,λa=> .si .i64 (Kr (fa a.1) (fa a.2))⟩
theorem aFp (p q:Rat):HW (p - q)=Kr p q:=by
 grind[HW,Kr]
theorem h53:Holds Tryz.prog r53:=by
 refine kh (L:=[amJ,r48]) r53 lk (by grind[h108,h48]) ?_
 rintro⟨x,y⟩ ⟨⟨p,i,h,g,m⟩,⟨q,j,c,d,l⟩⟩
 simp only at h c
 subst h c
 refine gp (let e:=((cC p).fst,(cC p).snd.fst,(cC p).snd.snd);let b:=((cC q).fst,(cC q).snd.fst,(cC q).snd.snd);let a:=cC (fa e - fa b);let f:=(a.fst,a.snd.fst,a.snd.snd);(xN e/\xN b)/\lT f/\(γa .i64 (HW (fa f))).same (γa .i64 (Kr (fa (cC p)) (fa (cC q))))) (by kernel_rfl) ?_
 conv=>zeta
 have k:fa (cC p) - fa (cC q)=p - q:=by grind[sy]
 refine⟨⟨⟨p,i,rfl,g,m⟩,⟨q,j,rfl,d,l⟩⟩,?_,?_⟩
 ·show lT (cC (fa (cC p) - fa (cC q)))
  rw[k,Rat.sub_eq_add_neg]
  exact⟨_,_,rfl,ah2 g (afl d),by omega⟩
 ·show(γa IntKind.i64 (HW (fa (cC (fa (cC p) - fa (cC q)))))).same _
  simp_all[sy,aFp]
theorem aw5 {g:Int} (h:0<=g):ey g=[1]↔g=1:=by
 constructor
 ·grind[ri,bD]
 ·rintro rfl
  rfl
theorem amL {a:List Int} (h:cQ a) (c:qH a) (b:a≠[]):0<bD a:=by
 have:=rf h
 grind[val_zero]
def okF (x:fi):Bool:=decide (cC (fa x)=x)
theorem aqN {n d:Int} (h:0<d):0<q9 n d:=by
 simp_all[q9]
theorem aw6 {s:Bool} {n d:List Int} (h:okF (s,(n,d))=true):qH n/\qH d/\d≠[]:=by
 have h:=of_decide_eq_true h
 have b:=ri (show(0:Int)<=((fa (s,(n,d))).num.natAbs:Int) by omega)
 have a:=ri (show(0:Int)<=((fa (s,(n,d))).den:Int) by omega)
 have e:ey ((fa (s,(n,d))).num.natAbs:Int)=n:=congrArg (λx=>x.2.1) h
 have c:ey ((fa (s,(n,d))).den:Int)=d:=congrArg (λx=>x.2.2) h
 rw[e] at b;rw[c] at a
 refine⟨b.2.2,a.2.2,λf=>?_⟩
 have g:=a.1
 rw[f] at g
 have:=(fa (s,(n,d))).den_pos
 grind[bD]
theorem okF_eq {s:Bool} {n d:List Int} (e:cQ n) (m:cQ d) (l:qH n) (p:qH d) (b:d≠[]):
  okF (s,(n,d))=if n=[] then !s&&decide (d=[1]) else decide (q9 (bD n) (bD d)=1):=by
 have c:=amL m p b
 have r:=rf e
 have j:fa (s,(n,d))=mkRat (if s then -bD n else bD n) (bD d).toNat:=rfl
 have o:=@aqe s (bD n) (bD d) r c
 have u:=@aqN (bD n) (bD d) c
 unfold okF;rw[j,o]
 by_cases a:n=[]
 ·rw[if_pos a,a]
  have i:q9 (bD []) (bD d)=bD d:=by unfold q9;simp[bD];omega
  have k:ey (bD d / q9 (bD []) (bD d))=[1]:=by rw[i,Int.ediv_self (by omega)];rfl
  have f:ey (bD [] / q9 (bD []) (bD d))=[]:=by
   have:bD []=0:=rfl
   rw[this,Int.zero_ediv];rfl
  rw[k,f]
  have v:decide (0<bD [])=false:=rfl
  grind
 ·rw[if_neg a]
  have q:=amL e l a
  rw[decide_eq_true (show 0<bD n from q),Bool.and_true];rw[ε1,decide_eq_true_eq,decide_eq_true_eq]
  constructor
  ·intro h
   injection h with h1 h2;injection h2 with h2 h3
   have g:=(ri (show 0<=bD d / q9 (bD n) (bD d) from γ9 (by omega) (by omega))).1
   rw[h3] at g
   by_cases t:q9 (bD n) (bD d)=1
   ·exact t
   ·have:=Int.ediv_lt_self_of_pos_of_ne_one c (by omega:q9 (bD n) (bD d)≠1)
    omega
  grind[aek]
def r93:fN:=⟨133,fi,.one (Ac sF),λx=>(cQ x.2.1/\cQ x.2.2)/\x.2.1.length<=1000000/\x.2.2.length<=1000000,λx=> .sb (okF x)⟩
theorem h93:Holds Tryz.prog r93:=by
 refine kh (L:=[aqI,amG]) r93 lk (by grind[h124,h125]) ?_
 rintro⟨s,n,d⟩ ⟨⟨m,k⟩,i,j⟩
 refine gp (let a:=δe false;let b:=(0:Int);let g:=γv (okF (s,n,d));let v:=decide ((↑d.length:Int)=b);let y:=decide ((↑n.length:Int)=b);let p:=λ(u:List Int) ↦let w:=decide ((↑u.length:Int)=(1:Int));(w=true->b<=b/\b<(↑u.length:Int)/\0<u.length/\(γv (decide (bC u 0 b=(1:Int)))).same g)/\(w=false->(a).same g);n.length<=1000000000/\((!ZX n)=true->(a).same g)/\((!ZX n)=false->d.length<=1000000000/\((!ZX d)=true->(a).same g)/\((!ZX d)=false->(v=true->(a).same g)/\(v=false->(y=true->((!s)=true->p d)/\((!s)=false->(a).same g))/\(y=false->((cQ n/\cQ d)/\(n.length<=100000000/\d.length<=100000000)/\qH d)/\p (ey (q9 (bD n) (bD d)))))))) (by kernel_rfl) ?_
 simp only[vcs]
 have m:cQ n:=m
 have k:cQ d:=k
 have i:n.length<=1000000:=i
 have j:d.length<=1000000:=j
 have c:¬(qH n/\qH d/\d≠[])->false=okF (s,n,d):=λh=>by
  grind[aw6]
 have e:∀{a:List Int},((a.length:Nat):Int)=0->a=[]:=λh=>π (by omega)
 have b:∀{a:List Int},¬((a.length:Nat):Int)=0->a≠[]:=λh f=>h (by rw[f];rfl)
 refine⟨by omega,λt=>c λh=>?_,λt=>⟨by omega,λf=>c λh=>?_,λf=>⟨λl=>c λh=>h.2.2 (e l),λl=>?_⟩⟩⟩
 ·grind[abG]
 ·grind[abG]
 have z:=okF_eq (s:=s) m k (abG.1 t) (abG.1 f) (b l)
 have A:=@aqN (bD n) (bD d) (amL k (abG.1 f) (b l))
 obtain⟨F,E,C⟩:=ri (show 0<=q9 (bD n) (bD d) by omega)
 rw[z]
 have o:∀{a:List Int},((a.length:Nat):Int)=1->a=[bC a 0 0]:=λ{a} h=>by
  match a,h with
  |[x],_=>rfl
  |[],h=>simp at h
  |_::_::_,h=>grind
 refine⟨λq=>?_,λq=>?_⟩
 ·grind
 ·rw[if_neg (b q)]
  refine⟨⟨⟨m,k⟩,⟨by omega,by omega⟩,abG.1 f⟩,λr=>⟨by omega,by omega,by omega,?_⟩,λr=>?_⟩
  ·have B:=o r
   have D:=@aw5 (q9 (bD n) (bD d)) (by omega)
   grind
  grind[aw5]
end Go.Vi
