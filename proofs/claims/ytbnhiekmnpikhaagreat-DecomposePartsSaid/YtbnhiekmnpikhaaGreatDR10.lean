import Derived.Test.YtbnhiekmnpikhaaGreatDR09
set_option maxRecDepth 100000
set_option maxHeartbeats 4000000
set_option linter.all false
open And renaming intro->γk
open Classical renaming choose->δS
open Go.Vi.SV renaming row->Ψ,si->γf,ow->γW,il->γv,agg->γJ,sb->γy,ptr->γK
open Int renaming emod_nonneg->δN,emod_lt_of_pos->δq,pow_pos->δO,mul_nonneg->γu,le_of_lt->γg,mul_zero->δJ,add_zero->εj,mul_pos->εB,toNat_natCast->γm,ediv_nonneg->δZ,mul_neg_of_neg_of_pos->εt,natAbs_mul->εr,toNat_of_nonneg->εC
open IntCast renaming intCast->κ
open List renaming replicate->δ,drop->γ3,take->Γ,eq_nil_of_length_eq_zero->τ,take_length->ψ,length_take->γx,length->γb,range->ω,length_append->γh,map_map->γ5,map_congr_left->γ0,length_map->Θ,map_cons->π,map_nil->γr,nodup_append->γs,length_replicate->γD
open List.cons renaming injEq->Δ
open Nat renaming gcd_le_right->ζ2,mul_le_mul->ζk
open Option renaming isNone_iff_eq_none->γQ
open Option.some renaming injEq->γ
open Rat renaming num_eq_zero->ζI,mkRat_self->δW,mkRat_eq_div->δE,intCast_natCast->ε7,mul_nonneg->δy
namespace Go.Vi
open Go.Proofs.YtbnhiekmnpikhaaGreat.Ir
open Go.Proofs
def QD:List M9:=[pG,vM,xR,Fz,vY,EI]
theorem Qb:∀c∈QD,Holds Tryz.prog c:=by
 simp only[QD,List.forall_mem_cons,List.not_mem_nil,false_implies,implies_true,and_true];grind[k_,qV,ub,IG,qX,y5]
def WD:List cU:=[EH,F0]
theorem Qa:∀c∈WD,dA Tryz.prog c:=by
 simp_all[WD,IF,IE]
def zc:M9:=⟨182,List Int×List Int,.cons (cL (.i .u32)) (.one (cL (.i .u32))),λa=>(ou a.1/\ou a.2)/\(a.1.length<=10000000000/\a.2.length<=10000000000)/\0<bX a.2,
 λa=> .Gz [.row (.i .u32) (bU (bX a.1 / bX a.2)),.row (.i .u32) (bU (bX a.1 % bX a.2)),.si .i64 0]⟩
def qf (a:List Int×List Int) (s:Int):Prop:=(0<=s/\s<=31)/\bN (IL a.2) ((IL a.2).length - 1) 0*2^s.toNat<4294967296/\2147483648<=bN (IL a.2) ((IL a.2).length - 1) 0*2^s.toNat
def UJ (a:List Int×List Int):Nat->bG
 |10=> .inv Int (λs=>⟨[(0,.row (.i .u32) (IL a.1)),(1,.row (.i .u32) (IL a.2)),(9,.si .u64 s)],[]⟩) (λs=>iS s 9)
  (λs=>(0<=s/\s<=31)/\bN (IL a.2) ((IL a.2).length - 1) 0*2^s.toNat<4294967296) (λs=>(32 - s).toNat) λ_ _=> .look
 |17=> .inv (Int×Int×List Int×List Int) (λx=>⟨[(4,.ow 1 x.2.2.2.length 1),(9,.si .u64 x.2.1),(10,.ow 0 x.2.2.1.length 1),(11,.row (.i .u32) (IL (shl (IL a.2) x.2.1.toNat))),(12,.si .i64 (IL (shl (IL a.2) x.2.1.toNat)).length),
   (13,.si .i64 ((IL a.1).length - (IL a.2).length)),(74,.si .i64 ((IL a.1).length - (IL a.2).length+1)),(75,.si .i64 x.1)],[.row (.i .u32) x.2.2.1 172 false,.row (.i .u32) x.2.2.2 172 true]⟩)
  (λs=>(iS s 75,iS s 9,oS (.i .u32) s 0,oS (.i .u32) s 1))
  (λx=>(0<=x.1/\x.1<=(IL a.1).length - (IL a.2).length+1)/\qf a x.2.1/\(ou x.2.2.1/\x.2.2.1.length=(IL a.1).length+1)/\(ou x.2.2.2/\x.2.2.2.length=(IL a.1).length - (IL a.2).length+1)/\
   (∀j:Nat,(j:Int)<(IL a.1).length - (IL a.2).length+1 - x.1->bN x.2.2.2 j 0=0)/\
   bX x.2.2.1+bX (IL (shl (IL a.2) x.2.1.toNat))*bX x.2.2.2=bX (IL a.1)*2^x.2.1.toNat/\
   bX (x.2.2.1.drop (((IL a.1).length - (IL a.2).length+1 - x.1:Int).toNat))<bX (IL (shl (IL a.2) x.2.1.toNat)))
  (λx=>((IL a.1).length - (IL a.2).length+1 - x.1:Int).toNat) λ_ _=> .look
 |24=> .inv (Int×Int×List Int×List Int×List Int) (λx=>⟨[(4,.ow 1 x.2.2.2.1.length 1),(5,.ow 2 x.2.2.2.2.length 1),(9,.si .u64 x.2.1),(10,.ow 0 x.2.2.1.length 1),(100,.si .i64 (IL (shl (IL a.2) x.2.1.toNat)).length),(101,.si .i64 x.1)],
   [.row (.i .u32) x.2.2.1 172 false,.row (.i .u32) x.2.2.2.1 172 true,.row (.i .u32) x.2.2.2.2 172 true]⟩)
  (λs=>(iS s 101,iS s 9,oS (.i .u32) s 0,oS (.i .u32) s 1,oS (.i .u32) s 2))
  (λx=>(0<=x.1/\x.1<=(IL (shl (IL a.2) x.2.1.toNat)).length)/\qf a x.2.1/\(ou x.2.2.1/\x.2.2.1.length=(IL a.1).length+1)/\(ou x.2.2.2.1/\x.2.2.2.1.length=(IL a.1).length - (IL a.2).length+1)/\
   bX x.2.2.1+bX (IL (shl (IL a.2) x.2.1.toNat))*bX x.2.2.2.1=bX (IL a.1)*2^x.2.1.toNat/\bX x.2.2.1<bX (IL (shl (IL a.2) x.2.1.toNat))/\
   (ou x.2.2.2.2/\x.2.2.2.2.length=(IL (shl (IL a.2) x.2.1.toNat)).length)/\(∀j,x.1.toNat<=j->bN x.2.2.2.2 j 0=0)/\
   2^x.2.1.toNat*bX x.2.2.2.2=bX (x.2.2.1.take x.1.toNat) - bN x.2.2.1 0 0 % 2^x.2.1.toNat+4294967296^x.1.toNat*(bN x.2.2.1 x.1.toNat 0 % 2^x.2.1.toNat))
  (λx=>((IL (shl (IL a.2) x.2.1.toNat)).length - x.1).toNat) λ_ _=> .look
 |_=> .look
theorem sr:Holds Tryz.prog zc:=by
 refine j9 (L:=QD) (W:=fT WD) zc UJ (kf Qa) Qb ?_;rintro⟨a,b⟩ ⟨⟨ha,hb⟩,⟨hla,hlb⟩,b0⟩;simp only at ha hb hla hlb b0;refine NH (let c:=(0:Int);let d:=(4294967296:Int);let e:=(18446744073709551616:Int);let f:=Ψ;let g:=γf .i64;let h:=VI .i64;let k:=iZ.row;let l:=(1:Int);let m:=γW;let n:=(32:Int);let o:=(140737488355328:Int);let p:=(1000000000000:Int);let q:=(2:Int);let r:=SV.Gz;let s:=(31:Int);let z0:Nat:=(IL b).length;let N:=(↑z0:Int);let av:=decide (N=c);let ag:=f (ew.i .i64) [];let t:=ew.i .u32;let ah:=g 0;let aa:=r [f t (bU (bX a / bX b)),f t (bU (bX a % bX b)),ah];let z7:Nat:=(IL a).length;let z8:Nat:=(IL b).length;let F:=bX (IL a);let aw:=decide (kX F (bX (IL b))<c);let a1:=γv .i64 0;let ax:=decide (N=l);let ab:=bN (IL b) 0 c;let ai:=F % ab % e;let aj:=bN (IL b) (z8 - 1) c;let a2:=N - l;let ak:=(↑(IL a).length:Int) - N;let B:=ak+l;let O:=δ B.toNat c;let al:=(↑z7:Int) - (↑z8:Int);let am:=g al;let y:=al+l;let an:=g y;let ay:=k t O 172 true;let P:=z7+1;let Q:=z7 - z8+1;a.length<=1000000000000/\b.length<=1000000000000/\(av=true->(r [ag,ag,γv .i64 8]).bi aa)/\(av=false->((ou (IL a)/\ou (IL b))/\z7<=1000000000000/\z8<=1000000000000)/\(aw=true->((ou (IL a)/\ou [])/\z7<=100000000000/\0<=100000000000)/\(r [ag,f t (bU (F+bX [])),a1]).bi aa)/\(aw=false->(ax=true->c<=c/\c<N/\0<z0/\(ou (IL a)/\z7<=100000000000/\c<ab/\ab<d)/\(c<=ai/\ai<e)/\(r [f t (bU (F / ab)),f t (bU ai),a1]).bi aa)/\(ax=false->((((f t (IL a)).bi (f t (IL a))/\(f t (IL b)).bi (f t (IL b))/\(γv .u64 0).bi (γf .u64 0)/\True)/\True)/\(c<=c/\c<=s)/\aj*l<d)/\∀(x:Int),let ao:=q^x.toNat;let a3:=(x+l) % e;let az:=γf .u64 a3;let aA:=shl (IL b) x.toNat;let R:=shl (IL a) x.toNat;let aB:=m 0 R.length 1;let S:=IL aA;let aC:=k t R 172 false;let aD:=λ(u:Bool) ↦decide (bN (IL b) a2.toNat c*ao % d<(2147483648:Int))=u;(c<=x/\x<=s)/\aj*ao<d->h a2/\c<=a2/\a2<N/\a2.toNat<z0/\c<=x/\x<=n/\(aD true->(((f t (IL a)).bi (f t (IL a))/\(f t (IL b)).bi (f t (IL b))/\az.bi az/\True)/\True)/\((c<=a3/\a3<=s)/\aj*q^a3.toNat<d)/\(n - a3).toNat<(n - x).toNat)/\(aD false->wB (IL a,x)/\wB (IL b,x)/\aA.length<=1000000000000/\h ak/\h B/\c<=B/\B<=B/\B*(4:Int)<=o/\B<=p/\h B/\((((m 1 B.toNat 1).bi (m 1 O.length 1)/\(γf .u64 x).bi (γf .u64 x)/\aB.bi aB/\(f t S).bi (f t S)/\(g (↑S.length:Int)).bi (g (↑S.length:Int))/\(g ak).bi am/\(g B).bi an/\a1.bi ah/\True)/\aC.bi aC/\ay.bi ay/\True)/\(c<=c/\c<=y)/\qf (a,b) x/\(ou R/\R.length=P)/\(ou O/\O.length=Q)/\(∀(j:Nat),(↑j:Int)<y - c->bN O j c=c)/\bX R+bX S*bX O=F*ao/\bX (γ3 (y - c).toNat R)<bX S)/\∀(x:Int×Int×List Int×List Int),let C:=x.2.2.1;let T:=IL (shl (IL b) x.2.1.toNat);let U:=bX T;let w:=x.2.2.2;let ac:=q^x.2.1.toNat;let V:=C.length;let aE:=decide (x.1<y);let G:=al - x.1;let z:=(↑T.length:Int);let a4:=G+z+l;let a5:=G.toNat;let a6:=a4.toNat;let H:=mf.mk C a5 (a6 - a5) V T;let K:=x.1+l;let ap:=m 1 w.length 1;let W:=w.set a5 (H.x / U);let ad:=γf .u64 x.2.1;let aq:=m 0 V 1;let ae:=g z;let aF:=g K;let aG:=k t H.row 172 false;let aH:=k t W 172 true;let X:=δ z.toNat c;let aI:=k t C 172 false;let aJ:=k t w 172 true;let aK:=k t X 172 true;let aL:=bN C 0 c % ac;let aM:=bX C+U*bX w=F*ac;(c<=x.1/\x.1<=y)/\qf (a,b) x.2.1/\(ou C/\V=P)/\(ou w/\w.length=Q)/\(∀(j:Nat),(↑j:Int)<y - x.1->bN w j c=c)/\aM/\bX (γ3 (y - x.1).toNat C)<U->(aE=true->h G/\h (G+z)/\h a4/\h (G+z)/\h a4/\V=C.length/\c<=G/\c<=a4/\c<=a4/\a5<=a6/\a6<=a6/\a6<=V/\H.ok/\w.length=w.length/\c<=G/\G<(↑w.length:Int)/\w.length=w.length/\a5<w.length/\h K/\((ap.bi (m 1 W.length 1)/\ad.bi ad/\aq.bi (m 0 H.row.length 1)/\(f t T).bi (f t T)/\ae.bi ae/\am.bi am/\an.bi an/\aF.bi aF/\True)/\aG.bi aG/\aH.bi aH/\True)/\((c<=K/\K<=y)/\qf (a,b) x.2.1/\(ou H.row/\H.row.length=P)/\(ou W/\W.length=Q)/\(∀(j:Nat),(↑j:Int)<y - K->bN W j c=c)/\bX H.row+U*bX W=F*ac/\bX (γ3 (y - K).toNat H.row)<U)/\(y - K).toNat<(y - x.1).toNat)/\(aE=false->c<=z/\z<=z/\z*(4:Int)<=o/\z<=p/\(((ap.bi ap/\(m 2 z.toNat 1).bi (m 2 X.length 1)/\ad.bi ad/\aq.bi aq/\ae.bi ae/\a1.bi ah/\True)/\aI.bi aI/\aJ.bi aJ/\aK.bi aK/\True)/\(c<=c/\c<=z)/\qf (a,b) x.2.1/\(ou C/\V=P)/\(ou w/\w.length=Q)/\aM/\bX C<U/\(ou X/\X.length=T.length)/\(∀(j:Nat),0<=j->bN X j c=c)/\ac*bX X=bX [] - aL+l*aL)/\∀(x:Int×Int×List Int×List Int×List Int),let aN:=γf .u64 x.2.1;let v:=x.2.2.1;let aO:=m 0 v.length 1;let Y:=IL (shl (IL b) x.2.1.toNat);let Z:=(↑Y.length:Int);let aP:=g Z;let E:=x.1+l;let aQ:=g E;let A:=x.2.2.2.2;let L:=A.length;let D:=x.1.toNat;let ar:=bN v D c;let I:=q^x.2.1.toNat;let a7:=A.set D (ar / I);let M:=x.2.2.2.1;let a8:=M.length;let aR:=m 1 a8 1;let aS:=k t v 172 false;let aT:=k t M 172 true;let a9:=E.toNat;let aU:=bN v 0 c % I;let aV:=bN v a9 c;let aW:=decide (x.1<Z);let J:=v.length;let aX:=decide (c<x.2.1);let au:=(n - x.2.1) % e;let b3:=aN.bi aN/\aO.bi aO/\aP.bi aP/\aQ.bi aQ/\True;let af:=L=a7.length;let aY:=x.1<(↑a7.length:Int);let aZ:=D<a7.length;let b0:=bX v+bX Y*bX M=F*I;let b4:=(Z - E).toNat<(Z - x.1).toNat;let b5:=aR.bi aR;let b6:=c<=E/\E<=Z;let b1:=λ(u:List Int) (u_1:Int) ↦let a0:=u.set D u_1;let b2:=k t a0 172 true;h E/\((b5/\(m 2 L 1).bi (m 2 a0.length 1)/\b3)/\aS.bi aS/\aT.bi aT/\b2.bi b2/\True)/\(b6/\qf (a,b) x.2.1/\(ou v/\v.length=P)/\(ou M/\a8=Q)/\b0/\bX v<bX Y/\(ou a0/\a0.length=Y.length)/\(∀(j:Nat),a9<=j->bN a0 j c=c)/\I*bX a0=bX (Γ a9 v) - aU+d^a9*(aV % I))/\b4;(c<=x.1/\x.1<=Z)/\qf (a,b) x.2.1/\(ou v/\v.length=P)/\(ou M/\a8=Q)/\b0/\bX v<bX Y/\(ou A/\L=Y.length)/\(∀(j:Nat),D<=j->bN A j c=c)/\I*bX A=bX (Γ D v) - aU+d^D*(ar % I)->(aW=true->v.length=J/\c<=x.1/\x.1<(↑J:Int)/\v.length=J/\D<J/\c<=x.2.1/\x.2.1<=n/\L=A.length/\c<=x.1/\x.1<(↑A.length:Int)/\L=A.length/\D<A.length/\(aX=true->af/\c<=x.1/\aY/\af/\aZ/\h E/\v.length=J/\c<=E/\E<(↑J:Int)/\v.length=J/\a9<J/\c<=au/\au<=n/\af/\c<=x.1/\aY/\af/\aZ/\b1 a7 (gd.orI .u32 (bN a7 D c) (aV*q^au.toNat % d)))/\(aX=false->b1 A (ar / I)))/\(aW=false->a8=M.length/\L=A.length/\a8<=1000000000000/\L<=1000000000000/\(r [f t (IL M),f t (IL A),a1]).bi aa))))))) (by kernel_rfl) ?_;simp only[vcs];obtain⟨va,na⟩:=@pF a;obtain⟨vb,nb⟩:=@pF b;have da:=qo ha;have db:=qo hb;have la:=@rD a;have lb:=@rD b;have p0:=el da;have d0:ou []:=by simp[ou]
 simp only[qf];rw[<-va,<-vb];rw[<-vb] at b0;generalize IL a=S at*;generalize IL b=T at*;have hm:=δN (bX S) (show bX T≠0 by omega);have hl:=δq (bX S) b0;have hT1:T.length≠0:=by
  intro h;rw[τ h] at b0;exact absurd b0 (by decide)
 refine⟨by omega,by omega,λh0=>by omega,λh0=>⟨⟨⟨da,db⟩,by omega,by omega⟩,λhlt=>⟨⟨⟨da,d0⟩,by omega,by omega⟩,?_⟩,λhge=>⟨λh1=>?_,λh1=>⟨?_,?_⟩⟩⟩⟩
 ·have hab:bX S<bX T:=by unfold kX at hlt;split at hlt<;>(try split at hlt)<;>omega
  have hdv:bX S / bX T=0:=Int.ediv_eq_zero_of_lt p0 hab;have hmv:bX S % bX T=bX S:=Int.emod_eq_of_lt p0 hab;refine⟨KW (by rw[hdv];rfl),?_⟩;rw[hmv];simp[bX]
 ·obtain⟨d,rfl⟩:∃d,T=[d]:=List.length_eq_one_iff.1 (by omega);have hd:=(iG.1 db).1;have aTI:bN [d] 0 0=d:=rfl;have hv:bX [d]=d:=by simp[bX]
  rw[hv] at b0 hm hl ⊢;rw[aTI];have hmm:bX S % d % 18446744073709551616=bX S % d:=by omega
  rw[hmm];repeat' refine γk ?_ ?_
  all_goals first|omega|exact da|rfl|(simp;done)
 ·have:=dB db (T.length - 1);repeat' refine γk ?_ ?_
  all_goals omega
 have ayY:bX T<=bX S:=by unfold kX at hge;split at hge<;>(try split at hge)<;>omega
 have hlen:T.length<=S.length:=by
  by_cases h:S.length<T.length
  ·have:=vN da db nb h;omega
  ·omega
 have hTn:2<=T.length:=by omega
 clear hge h0 h1 hT1 va vb d0;rintro s ⟨⟨s0,s1⟩,hs⟩;have t1:((T.length:Int) - 1).toNat=T.length - 1:=by omega
 have hxt:=dB db (T.length - 1);have hps:(0:Int)<2^s.toNat:=δO (by decide);have hnn:0<=bN T (T.length - 1) 0*2^s.toNat:=γu hxt.1 (γg hps);have hmod:bN T (T.length - 1) 0*2^s.toNat % 4294967296=bN T (T.length - 1) 0*2^s.toNat:=by omega
 rw[t1,hmod];repeat refine γk (by omega) ?_
 refine⟨λhc=>?_,λhc=>?_⟩
 ·have htop:1<=bN T (T.length - 1) 0:=by
   by_cases h:1<=bN T (T.length - 1) 0;·exact h
   ·exfalso;have h4:=ze db nb (by rintro rfl;simp at hTn);have h5:bX T=bX (T.take (T.length - 1))+4294967296^(T.length - 1)*bN T (T.length - 1) 0:=by
     have:=@kW T (T.length - 1);rwa [show T.length - 1+1=T.length by omega,ψ] at this
    have h6:=mN (lL db (T.length - 1));rw[γx,Nat.min_eq_left (by omega)] at h6;rw[show bN T (T.length - 1) 0=0 by omega,δJ] at h5;omega
  have h31:s<=30:=by
   by_cases h:s<=30;·exact h
   ·have aTK:s.toNat=31:=by omega
    rw[aTK,show(2:Int)^31=2147483648 from rfl] at hc;omega
  have e:((s+1) % 18446744073709551616)=s+1:=by omega
  have e2:(s+1).toNat=s.toNat+1:=by omega
  rw[e,e2,Int.pow_succ,<-Int.mul_assoc];repeat' refine γk ?_ ?_
  all_goals omega
 ·obtain⟨dw,lw,vw,tw,au4⟩:=EG db (by omega) (show s.toNat<=31 by omega) hs (by omega);obtain⟨ds,ls,vs,hst⟩:=LF da db (show s.toNat<=31 by omega) hlen (by omega) au4;have hds:∀z,wB (z,s)↔(ou z/\z.length<=100000000000):=λz=>⟨λh=>⟨h.1,h.2.1⟩,λh=>⟨h.1,h.2,s0,s1⟩⟩;have qE:(shl T s.toNat).length=T.length+1:=xQ;have bits:(0<=s/\s<=31)/\bN T (T.length - 1) 0*2^s.toNat<4294967296/\2147483648<=bN T (T.length - 1) 0*2^s.toNat:=⟨⟨s0,s1⟩,hs,by omega⟩;rw[hds,hds,qE,ls];refine⟨⟨da,by omega⟩,⟨db,by omega⟩,?_⟩;repeat refine γk (by omega) ?_
  refine⟨?_,?_⟩
  ·repeat' refine γk ?_ ?_
   all_goals first|omega|exact kQ (by simp)|exact kQ (by omega)|exact ds|exact wW|exact λj _=>KU|(simp;omega)|(rw[v7,δJ,εj];exact vs)|(rw[vw,show((S.length:Int) - T.length+1 - 0).toNat=S.length - T.length+1 by omega];exact hst)
  clear hst vs ls ds bits hds hmod hnn hps hxt au4 tw vw lw dw qE t1 hc hs s0 s1;clear s;rintro⟨i,s,U,q⟩ ⟨⟨i0,i1⟩,⟨⟨s0,s1⟩,hs,hs2⟩,⟨hU,hUl⟩,⟨hq,hql⟩,hz,he,hlt⟩;simp only at i0 i1 s0 s1 hs hs2 hU hUl hq hql hz he hlt ⊢;obtain⟨dw,lw,vw,tw,au4⟩:=EG db (by omega) (show s.toNat<=31 by omega) hs (by omega);generalize hw:IL (shl T s.toNat)=w at*;have hw0:0<bX w:=by
   rw[vw];exact εB b0 (δO (by decide))
  refine⟨λilt=>?_,λige=>?_⟩
  ·obtain⟨j,hj⟩:∃j:Nat,(S.length:Int) - T.length - i=j:=⟨((S.length:Int) - T.length - i).toNat,by omega⟩;have e1:((j:Int)+w.length+1).toNat - j=w.length+1:=by omega
   have e2:((S.length:Int) - T.length+1 - i).toNat=j+1:=by omega
   rw[e2] at hlt;obtain⟨k1,⟨k2,k3⟩,⟨k4,k5⟩,k6,k7⟩:=Ub (j:=j) (m:=S.length - T.length) hU dw hq (by omega) (by omega) (by omega) (by omega) hw0 (hz j (by omega)) he hlt;have e3:((S.length:Int) - T.length+1 - (i+1)).toNat=j:=by omega
   simp only[hj,e1,e3,γm,mf.row,mf.x,mf.ok];repeat' refine γk ?_ ?_
   all_goals first|omega|exact kQ (by simp)|exact kQ k3.symm|exact trivial|exact hU|exact dw|exact k1|exact k2|exact k6|exact k7|exact lK hq k4 k5|(simp;omega)|(rw[lw];exact tw)|exact λp hp=>by rw[nK (by omega)];exact hz p (by omega)
  ·have e2:((S.length:Int) - T.length+1 - i).toNat=0:=by omega
   rw[e2,List.drop_zero] at hlt;repeat refine γk (by omega) ?_
   refine⟨?_,?_⟩
   ·have h1:=@kW U 0;simp only[List.take_zero,bX,Int.pow_zero,Int.one_mul];repeat' refine γk ?_ ?_
    all_goals first|omega|exact kQ (by simp)|exact hU|exact hq|exact he|exact hlt|exact wW|exact λj _=>KU|(simp;done)|(rw[v7];omega)
   clear hlt hz e2 ige i0 i1 tw au4 hw0 hs hs2 s0 s1 he hU hUl hq hql;clear hw dw lw vw;clear w s i U q;rintro⟨i,s,U,q,r⟩ ⟨⟨i0,i1⟩,⟨⟨s0,s1⟩,hs,hs2⟩,⟨hU,hUl⟩,⟨hq,hql⟩,he,hlt,⟨hr,hrl⟩,hz,hv⟩;simp only at i0 i1 s0 s1 hs hs2 hU hUl hq hql he hlt hr hrl hz hv ⊢;obtain⟨dw,lw,vw,tw,au4⟩:=EG db (by omega) (show s.toNat<=31 by omega) hs (by omega);generalize hw:IL (shl T s.toNat)=w at*;refine⟨λilt=>?_,λige=>?_⟩
   ·have x0:=dB hU i.toNat;have x1:=dB hU (i.toNat+1);have e1:(i+1).toNat=i.toNat+1:=by omega
    have x2:=dB hr i.toNat;have hps:(0:Int)<2^s.toNat:=δO (by decide);have y0:0<=bN U i.toNat 0 / 2^s.toNat:=δZ x0.1 (γg hps);have y1:bN U i.toNat 0 / 2^s.toNat<=bN U i.toNat 0:=Int.ediv_le_self _ x0.1;have e2:((32 - s) % 18446744073709551616).toNat=32 - s.toNat:=by omega
    have e3:(r.set i.toNat (bN U i.toNat 0 / 2^s.toNat)).set i.toNat=r.set i.toNat:=by funext z;rw[List.set_set]
    simp only[e1,e2,e3,qm (show i.toNat<r.length by omega),List.length_set];repeat refine γk (by omega) ?_
    refine⟨λhs0=>?_,λhs0=>?_⟩
    ·obtain⟨d,hd1,hd2,hd3⟩:=Ua (s:=s.toNat) x0.1 x0.2 x1.1 x1.2 (by omega) (by omega);obtain⟨k1,k2,k3,k4⟩:=LD hU hr (show i.toNat<r.length by omega) hz hd2 hd3 hv;rw[hd1];repeat' refine γk ?_ ?_
     all_goals first|omega|exact kQ (by simp)|exact hU|exact hq|exact k1|exact k3|exact k4|exact he|exact hlt|trivial
    ·have aTL:s.toNat=0:=by omega
     obtain⟨k1,k2,k3,k4⟩:=LD (s:=s.toNat) (d:=bN U i.toNat 0 / 2^s.toNat) hU hr (show i.toNat<r.length by omega) hz ⟨y0,by omega⟩ (by rw[aTL];simp) hv;repeat' refine γk ?_ ?_
     all_goals first|omega|exact kQ (by simp)|exact hU|exact hq|exact k1|exact k3|exact k4|exact he|exact hlt|trivial
   ·have hi:i.toNat=w.length:=by omega
    rw[hi] at hv;obtain⟨w1,w2⟩:=UO hU hr dw rfl hlt vw b0 he (show s.toNat<=31 by omega) (by omega) hv;rw[oo hq,oo hr,w1,w2];repeat' refine γk ?_ ?_
    all_goals first|omega|rfl|trivial
theorem EE {a b:List Int} (d:ou a) (c:ou b) (f:ff a) (h:bX a<=bX b):a.length<=b.length:=by
 by_cases e:a.length<=b.length;·exact e
 ·have:=vN c d f (by omega);omega
def zZ:M9:=⟨171,List Int×List Int,.cons (cL (.i .u32)) (.one (cL (.i .u32))),λa=>(ou a.1/\ou a.2)/\(a.1.length<=1000000000/\a.2.length<=1000000000),
 λa=> .row (.i .u32) (bU (dI (bX a.1) (bX a.2)))⟩
def UI (a:List Int×List Int):Nat->bG
 |2=> .inv (List Int×List Int) (λx=>⟨[(0,.row (.i .u32) x.1),(1,.row (.i .u32) x.2)],[]⟩) (λs=>(rS (.i .u32) s 0,rS (.i .u32) s 1))
  (λx=>(ou x.1/\ou x.2)/\(ff x.1/\ff x.2)/\(x.1.length<=1000000000/\x.2.length<=1000000000)/\dI (bX x.1) (bX x.2)=dI (bX a.1) (bX a.2)) (λx=>(bX x.2).toNat) λ_ _=> .look
 |_=> .look
theorem su:Holds Tryz.prog zZ:=by
 refine bI (L:=[xR,zc]) zZ UI (by grind[ub,sr]) ?_;rintro⟨a,b⟩ ⟨⟨l,k⟩,⟨n,m⟩⟩;simp only at l k n m;refine NH (let h:=Ψ;let c:=ew.i .u32;let f:=bU (bX a+bX []);let e:=bU (bX b+bX []);let g:=dI (bX a) (bX b);((ou a/\ou [])/\a.length<=100000000000/\0<=100000000000)/\((ou b/\ou [])/\b.length<=100000000000/\0<=100000000000)/\((((h c f).bi (h c f)/\(h c e).bi (h c e)/\True)/\True)/\(ou f/\ou e)/\(ff f/\ff e)/\(f.length<=1000000000/\e.length<=1000000000)/\dI (bX f) (bX e)=g)/\∀(x:List Int×List Int),let v:=decide ((0:Int)<(↑x.2.length:Int));let d:=bU (bX x.1 % bX x.2);(ou x.1/\ou x.2)/\(ff x.1/\ff x.2)/\(x.1.length<=1000000000/\x.2.length<=1000000000)/\dI (bX x.1) (bX x.2)=g->(v=true->((ou x.1/\ou x.2)/\(x.1.length<=10000000000/\x.2.length<=10000000000)/\(0:Int)<bX x.2)/\(false=true->(h c x.1).bi (h c (bU g)))/\(false=false->(((h c x.2).bi (h c x.2)/\(h c d).bi (h c d)/\True)/\True)/\((ou x.2/\ou d)/\(ff x.2/\ff d)/\(x.2.length<=1000000000/\d.length<=1000000000)/\dI (bX x.2) (bX d)=g)/\(bX d).toNat<(bX x.2).toNat))/\(v=false->(h c x.1).bi (h c (bU g)))) (by kernel_rfl) ?_;simp only[vcs];have r:ou []:=by simp[ou]
 have N:=el l;have E:=el k;have z:bX []=0:=rfl;rw[z,εj,εj];obtain⟨Q,y,D⟩:=ft N;obtain⟨o,w,H⟩:=ft E;have p:(bU (bX a)).length<=1000000000:=by
  rw[<-oo l];grind[rD]
 have j:(bU (bX b)).length<=1000000000:=by
  rw[<-oo k];grind[rD]
 refine⟨⟨⟨l,r⟩,by omega,by omega⟩,⟨⟨k,r⟩,by omega,by omega⟩,⟨⟨y,w⟩,⟨D,H⟩,⟨p,j⟩,by rw[Q,o]⟩,?_⟩;rintro⟨s,t⟩ ⟨⟨u,q⟩,⟨J,C⟩,⟨O,G⟩,F⟩;simp only at u q J C G O F ⊢;have T:=el u;have U:=el q;refine⟨λB=>?_,λB=>?_⟩
 ·have h:0<bX t:=by
   grind[val_zero]
  have K:=δN (bX s) (show bX t≠0 by omega);have A:=δq (bX s) h;obtain⟨I,M,S⟩:=ft K;have P:=EE M q S (by rw[I];omega);grind[Uj]
 ·have R:t=[]:=τ (by omega);grind[Ui,xS]
def nI (q:Rat):SV:=.agg (cJ sF (nf q))
def bL (x:NG):Prop:=∃q k,x=nf q/\Sz k q/\k<=100000000
def eM (s:Bool) (n d:Int):Rat:=mkRat (if s then -n else n) d.toNat
def zY:M9:=⟨137,Int,.one (dX .i64),λn=> -9223372036854775808<=(show Int from n)/\(show Int from n)<=9223372036854775807,λn=> .row (.i .u32) (bU ((show Int from n).natAbs:Int))⟩
theorem yV:Holds Tryz.prog zY:=by
 refine bI (L:=[vY]) zY lk (by grind[qX]) ?_;intro(n:Int) h;obtain⟨e,f⟩: -9223372036854775808<=n/\n<=9223372036854775807:=h;refine NH (let e:=(18446744073709551616:Int);let f:=(1:Int);let g:=(0:Int);let h:=Ψ;let d:=decide (n<g);let a:=(-(n+f)+f) % e;let b:=ew.i .u32;let c:=h b (bU (↑n.natAbs:Int));(d=true->VI .i64 (n+f)/\VI .i64 (-(n+f))/\VI .u64 (-(n+f))/\(g<=a/\a<e)/\(h b (bU a)).bi c)/\(d=false->VI .u64 n/\(g<=n/\n<e)/\(h b (bU n)).bi c)) (by kernel_rfl) ?_;simp only[vcs];grind[u64_in]
def wS:M9:=⟨167,Bool×(List Int×List Int),.cons Na (.cons (cL (.i .u32)) (.one (cL (.i .u32)))),λa=>(ou a.2.1/\ou a.2.2)/\(a.2.1.length<=1000000000/\a.2.2.length<=1000000000)/\0<bX a.2.2,
 λa=> .Gz [nI (eM a.1 (bX a.2.1) (bX a.2.2)),.si .i64 0]⟩
theorem uc:Holds Tryz.prog wS:=by
 refine bI (L:=[zZ,zc]) wS lk (by grind[su,sr]) ?_;rintro⟨s,n,d⟩ ⟨⟨c,f⟩,⟨t,p⟩,j⟩;simp only at c f t p j;refine NH (let b:=SV.bl false;let c:=γv .i64;let e:=Ψ;let f:=(0:Int);let g:=γJ;let h:=SV.Gz;let k:=e (ew.i .i64) [];let w:=nf (eM s (bX n) (bX d));let l:=ew.i .u32;let y:=h [g [γy w.1,e l w.2.1,e l w.2.2],γf .i64 0];let a:=bU (dI (bX n) (bX d));let C:=bU (bX n / bX a);let B:=decide ((↑d.length:Int)=f);let F:=false=true->(h [g [b,k,k],c 8]).bi y;let E:=λ(u:Bool) (v:SV) ↦s=u->(h [g [v,e l C,e l (bU (bX d / bX a))],c 0]).bi y;(B=true->(h [g [b,k,k],c 8]).bi y)/\(B=false->((ou n/\ou d)/\n.length<=1000000000/\d.length<=1000000000)/\((ou n/\ou a)/\(n.length<=10000000000/\a.length<=10000000000)/\f<bX a)/\((ou d/\ou a)/\(d.length<=10000000000/\a.length<=10000000000)/\f<bX a)/\F/\(false=false->F/\(false=false->E true (γy (decide (f<(↑C.length:Int))))/\E false (b))))) (by kernel_rfl) ?_;simp only[vcs];have D:=el c;have b:0<dI (bX n) (bX d):=by
  simp_all[dI]
 have K:dI (bX n) (bX d)<=bX d:=by
  unfold dI;have:=ζ2 (bX n).toNat (show 0<(bX d).toNat by omega);omega
 have o:dI (bX n) (bX d)∣bX n:=by
  unfold dI;have:=Nat.gcd_dvd_left (bX n).toNat (bX d).toNat;have S:=Int.natCast_dvd_natCast.2 this;grind
 obtain⟨R,q,Q⟩:=ft (γg b);have I:=EE q (qo f) Q (by grind[pF]);have P:=@rD d;have A:0<=bX n / dI (bX n) (bX d):=δZ D (γg b);obtain⟨N,H,M⟩:=ft A;have G:(0<((bU (bX n / dI (bX n) (bX d))).length:Int))↔0<bX n:=by
  obtain⟨m,e⟩:=o;have r:bX n / dI (bX n) (bX d)=m:=by
   conv=>lhs;arg 1;rw[e]
   rw[Int.mul_ediv_cancel_left _ (by omega)]
  rw[r] at N H M ⊢;have z:0<bX n↔0<m:=by
   generalize dI (bX n) (bX d)=g at*;rw[e];constructor;·grind
   ·intro h;exact εB b h
  rw[z];constructor
  ·intro h;by_cases e:m=0;·rw[e] at h;exact absurd h (by decide)
   ·omega
  ·intro h;by_cases T:(bU m).length=0<;>grind[bU,bX]
 have O:d.length≠0:=by
  intro h;rw[τ h] at j;exact absurd j (by decide)
 unfold eM;rw[LB D j,R];simp only;refine⟨λh=>absurd h (by omega),λ_=>⟨⟨⟨c,f⟩,by omega,by omega⟩,⟨⟨c,q⟩,by omega,b⟩,⟨⟨f,q⟩,by omega,b⟩,?_⟩⟩;have J:decide (0<((bU (bX n / dI (bX n) (bX d))).length:Int))=decide (0<bX n):=by
  simp_all
 refine⟨λh=>absurd h (by decide),λ_=>⟨λh=>absurd h (by decide),λ_=>⟨λx=>?_,λx=>?_⟩⟩⟩
 ·rw[x,J];rfl
 ·rw[x];rfl
def vX:M9:=⟨136,Bool×(List Int×List Int),.cons Na (.cons (cL (.i .u32)) (.one (cL (.i .u32)))),λa=>(ou a.2.1/\ou a.2.2)/\(a.2.1.length<=1000000000/\a.2.2.length<=1000000000)/\0<bX a.2.2,
 λa=>nI (eM a.1 (bX a.2.1) (bX a.2.2))⟩
theorem qY:Holds Tryz.prog vX:=by
 refine bI (L:=[wS]) vX lk (by grind[uc]) ?_;rintro⟨s,n,d⟩ ⟨⟨h,g⟩,⟨a,c⟩,f⟩;simp only at h g a c f;refine NH (let b:=nf (eM s (bX n) (bX d));let e:=γJ [γy b.1,Ψ (ew.i .u32) b.2.1,Ψ (ew.i .u32) b.2.2];((ou n/\ou d)/\(n.length<=1000000000/\d.length<=1000000000)/\(0:Int)<bX d)/\e.bi e) (by kernel_rfl) ?_;simp_all[vcs]
def mj:M9:=⟨101,Int,.one (dX .i64),λn=> -9223372036854775808<=(show Int from n)/\(show Int from n)<=9223372036854775807,λn=>nI ((show Int from n):Rat)⟩
theorem nH:Holds Tryz.prog mj:=by
 refine bI (L:=[zY,vY,vX]) mj lk (by grind[yV,qX,qY]) ?_;intro(n:Int) h;obtain⟨o,p⟩: -9223372036854775808<=n/\n<=9223372036854775807:=h;refine NH (let e:=Ψ;let g:=(1:Int);let h:=(0:Int);let c:=bU (↑n.natAbs:Int);let b:=bU g;let f:=nf (eM (decide (n<h)) (bX c) (bX b));let a:=ew.i .u32;let d:=nf (κ n);((-9223372036854775808:Int)<=n/\n<=(9223372036854775807:Int))/\(h<=g/\g<(18446744073709551616:Int))/\((ou c/\ou b)/\(c.length<=1000000000/\b.length<=1000000000)/\h<bX b)/\(γJ [γy f.1,e a f.2.1,e a f.2.2]).bi (γJ [γy d.1,e a d.2.1,e a d.2.2])) (by kernel_rfl) ?_;conv=>zeta
 obtain⟨j,g,t⟩:=ft (show(0:Int)<=(n.natAbs:Int) by omega);obtain⟨l,m,s⟩:=ft (show(0:Int)<=1 by omega);have u:=lu (k:=2) (show(0:Int)<=(n.natAbs:Int) by omega) (by omega);have q:=lu (k:=1) (show(0:Int)<=1 by omega) (by decide);refine⟨⟨o,p⟩,⟨by omega,by omega⟩,⟨⟨g,m⟩,⟨by omega,by omega⟩,by omega⟩,?_⟩;have e:eM (decide (n<0)) (bX (bU (n.natAbs:Int))) (bX (bU 1))=κ n:=by
  rw[j,l];unfold eM;have r:(if decide (n<0)=true then -(n.natAbs:Int) else(n.natAbs:Int))=n:=by
   grind
  grind[Rat.mkRat_one]
 rw[e];rfl
def iY (q:Rat):Int:=if q<0 then -1 else if 0<q then 1 else 0
def qb:M9:=⟨142,NG,.one (dy sF),bL,λx=> .si .i64 (iY (TL x))⟩
theorem sA:Holds Tryz.prog qb:=by
 refine bI (L:=[]) qb lk (by simp) ?_;intro(x:NG) h;obtain⟨q,k,rfl,m,f⟩:bL x:=h;refine NH (let c:=γv .i64;let b:=decide ((↑(γb (nf q).2.1):Int)=(0:Int));let a:=γf .i64 (iY (TL (nf q)));(b=true->(c 0).bi a)/\(b=false->((nf q).1=true->(c (-1:Int)).bi a)/\((nf q).1=false->(c 1).bi a))) (by kernel_rfl) ?_;simp only[vcs];rw[dH];have e:((nf q).2.1.length:Int)=0↔q.num=0:=by
  unfold nf;simp only;obtain⟨d,j,i⟩:=ft (show(0:Int)<=(q.num.natAbs:Int) by omega);constructor
  ·intro h;rw[τ (by omega:(bU (q.num.natAbs:Int)).length=0)] at d;grind[bX]
  ·intro h;rw[h];rfl
 have c:(nf q).1=decide (q<0):=rfl;have n:=@Rat.num_nonneg q;have l:q<0↔q.num<0:=by
  grind
 have g:0<q↔0<q.num:=by
  grind[ζI]
 rw[e,c];simp only[decide_eq_true_eq,decide_eq_false_iff_not];unfold iY;grind
def sH (x:NG):Prop:=(ou x.2.1/\ou x.2.2)/\x.2.1.length<=100000000/\x.2.2.length<=100000000
def zW:M9:=⟨139,NG×NG,.cons (dy sF) (.one (dy sF)),λa=>sH a.1/\sH a.2,λa=> .Gz [.row (.i .u32) (bU (bX a.1.2.1*bX a.2.2.2)),.row (.i .u32) (bU (bX a.2.2.1*bX a.1.2.2))]⟩
theorem yU:Holds Tryz.prog zW:=by
 refine bI (L:=[vZ]) zW lk (by grind[qU]) ?_;rintro⟨⟨s,n,d⟩,⟨o,b,a⟩⟩ ⟨⟨⟨e,j⟩,g,f⟩,⟨⟨k,h⟩,l,m⟩⟩;simp only at e j g f k h l m;refine NH (let c:=SV.Gz [Ψ (ew.i .u32) (bU (bX n*bX a)),Ψ (ew.i .u32) (bU (bX b*bX d))];((ou n/\ou a)/\n.length<=100000000000/\a.length<=100000000000)/\((ou b/\ou d)/\b.length<=100000000000/\d.length<=100000000000)/\c.bi c) (by kernel_rfl) ?_;simp only[vcs];grind
theorem zV {p q:Rat} (h:p=q):(γJ [.sb (nf p).1,.row (.i .u32) (nf p).2.1,.row (.i .u32) (nf p).2.2]).bi (.agg [.sb (nf q).1,.row (.i .u32) (nf q).2.1,.row (.i .u32) (nf q).2.2]):=by subst h;rfl
theorem sG (q:Rat):q.num=if decide (q<0) then -(q.num.natAbs:Int) else(q.num.natAbs:Int):=by
 have a:=@Rat.num_nonneg q;grind
theorem kP (q:Rat):(nf q).1=decide (q<0)/\(ou (nf q).2.1/\ff (nf q).2.1/\bX (nf q).2.1=(q.num.natAbs:Int))/\(ou (nf q).2.2/\ff (nf q).2.2/\bX (nf q).2.2=(q.den:Int)):=by
 obtain⟨f,e,d⟩:=ft (show(0:Int)<=(q.num.natAbs:Int) by omega);obtain⟨b,c,a⟩:=ft (show(0:Int)<=(q.den:Int) by omega);exact⟨rfl,⟨e,d,f⟩,⟨c,a,b⟩⟩
theorem ny {q:Rat} {k:Nat} (h:Sz k q):(nf q).2.1.length<=k/\(nf q).2.2.length<=k:=
 ⟨lu (by omega) h.1,lu (by omega) h.2⟩
theorem UH (q:Rat):eM (!decide (q<0)) (q.num.natAbs:Int) (q.den:Int)= -q:=by
 unfold eM;have h:=sG q;have e:(if(!decide (q<0))=true then -(q.num.natAbs:Int) else(q.num.natAbs:Int))= -q.num:=by
  grind
 grind[δW,Rat.neg_mkRat]
def vW:M9:=⟨145,NG,.one (dy sF),bL,λx=>nI (-(TL x))⟩
theorem qW:Holds Tryz.prog vW:=by
 refine bI (L:=[vX]) vW lk (by grind[qY]) ?_;intro(x:NG) h;obtain⟨q,k,rfl,f,g⟩:bL x:=h;refine NH (let f:=Ψ;let c:=(nf q).2.1;let a:=(nf q).2.2;let d:=nf (eM (!(nf q).1) (bX c) (bX a));let b:=ew.i .u32;let e:=(nf (-TL (nf q))).2;((ou c/\ou a)/\(γb c<=1000000000/\γb a<=1000000000)/\(0:Int)<bX a)/\(γJ [γy d.1,f b d.2.1,f b d.2.2]).bi (γJ [γy (nf (-TL (nf q))).1,f b e.1,f b e.2])) (by kernel_rfl) ?_;conv=>zeta
 obtain⟨s,⟨r,p,u⟩,⟨o,l,n⟩⟩:=kP q;obtain⟨j,m⟩:=ny f;have t:=q.den_pos;grind[zV,dH,UH]
theorem oY {a b:Int} {i j:Nat} (e:0<=a) (c:a<4294967296^i) (d:b<4294967296^j):a*b<4294967296^(i+j):=by
 rw[Int.pow_add];exact Int.lt_of_le_of_lt (Int.mul_le_mul_of_nonneg_left (γg d) e) (Int.mul_lt_mul_of_pos_right c (pow_pos _))
theorem Lw {p q:Rat} {i j:Nat} (c:Sz i p) (b:Sz j q):∃X Y D:Int,bX (nf p).2.1*bX (nf q).2.2=X/\bX (nf q).2.1*bX (nf p).2.2=Y/\bX (nf p).2.2*bX (nf q).2.2=D/\0<=X/\0<=Y/\0<D/\
  (bU X).length<=i+j/\(bU Y).length<=i+j/\(bU (X+Y)).length<=i+j+1/\(bU (X - Y)).length<=i+j/\(bU (Y - X)).length<=i+j/\(bU D).length<=i+j/\p.num*q.den=(if decide (p<0) then -X else X)/\q.num*p.den=(if decide (q<0) then -Y else Y)/\((p.den*q.den:Nat):Int)=D:=by
 obtain⟨_,⟨_,_,l⟩,⟨_,_,r⟩⟩:=kP p;obtain⟨_,⟨_,_,n⟩,⟨_,_,m⟩⟩:=kP q;rw[l,r,n,m];have s:=p.den_pos;have t:=q.den_pos;have k:=oY (a:=(p.num.natAbs:Int)) (by omega) c.1 b.2;have d:=oY (a:=(q.num.natAbs:Int)) (by omega) b.1 c.2;rw[Nat.add_comm j i] at d;have o:=oY (a:=(p.den:Int)) (by omega) c.2 b.2;have f:0<=(p.num.natAbs:Int)*q.den:=γu (by omega) (by omega);have e:0<=(q.num.natAbs:Int)*p.den:=γu (by omega) (by omega);have g:0<(p.den:Int)*q.den:=εB (by omega) (by omega);have v:=sG p;have u:=sG q;refine⟨_,_,_,rfl,rfl,rfl,f,e,g,lu f k,lu e d,lu (by omega) ?_,?_,?_,lu (by omega) o,?_,?_,by push_cast;rfl⟩;·omega
 ·by_cases h:(p.num.natAbs:Int)*q.den - (q.num.natAbs:Int)*p.den<=0;·grind[EL]
  ·exact lu (by omega) (by omega)
 ·by_cases h:(q.num.natAbs:Int)*p.den - (p.num.natAbs:Int)*q.den<=0;·grind[EL]
  ·exact lu (by omega) (by omega)
 all_goals grind
theorem UG {p q:Rat} {s:Bool} {n D:Int} (a:((p.den*q.den:Nat):Int)=D) (h:p.num*q.den+q.num*p.den=if s then -n else n):eM s n D=p+q:=by
 rw[LA];grind[eM]
theorem zU {p:Rat} {k:Nat} (h:Sz k p) (c:k<=100000000):sH (nf p):=by
 obtain⟨_,⟨a,_,_⟩,⟨b,_,_⟩⟩:=kP p;have:=ny h;exact⟨⟨a,b⟩,by omega,by omega⟩
def gN (p q:Rat):Int:=if p<q then -1 else if q<p then 1 else 0
def uj:M9:=⟨102,NG×NG,.cons (dy sF) (.one (dy sF)),λa=>bL a.1/\bL a.2,λa=> .si .i64 (gN (TL a.1) (TL a.2))⟩
theorem y9:Holds Tryz.prog uj:=by
 refine bI (L:=[zW,vM]) uj lk (by grind[yU,qV]) ?_;rintro⟨x,y⟩ ⟨⟨p,i,t,w,S⟩,⟨q,j,r,o,T⟩⟩;simp only at t r;subst t r;refine NH (let a:=(nf p).1;let g:=γf .i64 (gN (TL (nf p)) (TL (nf q)));let s:=λ(u:Bool) (c b:Rat) ↦let k:=bU (bX (nf c).2.1*bX (nf b).2.2);let l:=bU (bX (nf b).2.1*bX (nf c).2.2);a=u->((ou k/\ou l)/\k.length<=1000000000000/\l.length<=1000000000000)/\(γf .i64 (kX (bX k) (bX l))).bi g;((!a==(nf q).1)=true->(a=true->(γv .i64 (-1:Int)).bi g)/\(a=false->(γv .i64 1).bi g))/\((!a==(nf q).1)=false->(sH (a,(nf p).2.1,(nf p).2.2)/\sH ((nf q).1,(nf q).2.1,(nf q).2.2))/\s true q p/\s false p q)) (by kernel_rfl) ?_;conv=>zeta
 obtain⟨C,_,_⟩:=kP p;obtain⟨P,_,_⟩:=kP q;obtain⟨X,Y,D,E,M,hD,G,N,U,l1,l2,l3,l4,Z,V,B,A,W⟩:=Lw w o;obtain⟨J,v,c3⟩:=ft G;obtain⟨K,n,c6⟩:=ft N;simp only[dH,E,M,J,K,C,P];simp only[vcs];have hl:p<q↔p.num*q.den<q.num*p.den:=Rat.lt_iff p q;have R:q<p↔q.num*p.den<p.num*q.den:=Rat.lt_iff q p;have O:=@Rat.num_nonneg p;have H:=@Rat.num_nonneg q;have m:∀{z:Int},(z=if p.num*q.den<q.num*p.den then -1 else if q.num*p.den<p.num*q.den then 1 else 0)->z=gN p q:=λh=>by
  grind[gN]
 have Q:p<0->0<X:=λh=>by
  rw[if_pos (by simpa using h)] at B;have f:p.num<0:=by grind
  have:=εt f (show(0:Int)<q.den by grind);omega
 have F:q<0->0<Y:=λh=>by
  rw[if_pos (by simpa using h)] at A;have f:q.num<0:=by grind
  have:=εt f (show(0:Int)<p.den by grind);omega
 rw[B,A] at m;refine⟨λI=>⟨λd=>?_,λd=>?_⟩,λhe=>⟨⟨zU w S,zU o T⟩,λd=>⟨⟨⟨n,v⟩,by omega,by omega⟩,?_⟩,λd=>⟨⟨⟨v,n⟩,by omega,by omega⟩,?_⟩⟩⟩;·grind
 ·grind
 ·apply m;have e:q<0:=by
   grind
  simp only[decide_eq_true_eq,d,e,if_true,if_false];simp only[Int.neg_lt_neg_iff];rfl
 ·apply m;have e:¬q<0:=λe=>by grind
  simp only[decide_eq_true_eq,d,e,if_true,if_false];rfl
def sE:M9:=⟨134,NG×NG,.cons (dy sF) (.one (dy sF)),λa=>bL a.1/\bL a.2,λa=>nI (TL a.1+TL a.2)⟩
theorem o8:Holds Tryz.prog sE:=by
 refine bI (L:=[zW,vZ,xR,EK,vX]) sE lk (by grind[yU,qU,ub,II,qY]) ?_;rintro⟨x,y⟩ ⟨⟨p,i,J,w,S⟩,⟨q,j,E,B,hj⟩⟩;simp only at J E;subst J E;refine NH (let h:=Ψ;let j:=γJ;let m:=(nf q).2.2;let f:=bU (bX (nf p).2.1*bX m);let t:=(nf p).2.2;let k:=bU (bX (nf q).2.1*bX t);let a:=bU (bX t*bX m);let g:=ew.i .u32;let z:=nf (TL (nf p)+TL (nf q));let o:=j [γy z.1,h g z.2.1,h g z.2.2];let v:=(nf p).1==(nf q).1;let c:=bU (bX f+bX k);let d:=nf (eM (nf p).1 (bX c) (bX a));let I:=(ou f/\ou k)/\f.length<=100000000000/\k.length<=100000000000;let K:=λ(u r:Rat) ↦let e:=bU (bX (bU (bX (nf u).2.1*bX (nf r).2.2)) - bX (bU (bX (nf r).2.1*bX (nf u).2.2)));let b:=nf (eM (nf u).1 (bX e) (bX a));((ou e/\ou a)/\(e.length<=1000000000/\a.length<=1000000000)/\(0:Int)<bX a)/\(j [γy b.1,h g b.2.1,h g b.2.2]).bi o;let F:=λ(u:Bool) ↦decide (bX k<=bX f)=u;(sH ((nf p).1,(nf p).2.1,t)/\sH ((nf q).1,(nf q).2.1,m))/\((ou t/\ou m)/\γb t<=100000000000/\γb m<=100000000000)/\(v=true->I/\((ou c/\ou a)/\(c.length<=1000000000/\a.length<=1000000000)/\(0:Int)<bX a)/\(j [γy d.1,h g d.2.1,h g d.2.2]).bi o)/\(v=false->I/\(F true->K p q)/\(F false->((ou k/\ou f)/\k.length<=100000000000/\f.length<=100000000000)/\K q p))) (by kernel_rfl) ?_;conv=>zeta
 obtain⟨O,⟨u1,_,_⟩,⟨u2,_,_⟩⟩:=kP p;obtain⟨W,⟨u3,_,_⟩,⟨P,_,_⟩⟩:=kP q;obtain⟨m1,m2⟩:=ny w;obtain⟨m3,m4⟩:=ny B;obtain⟨X,Y,D,T,Q,hD,U,R,C,l1,l2,l3,l4,l5,l6,n1,n2,n3⟩:=Lw w B;obtain⟨N,H,c3⟩:=ft U;obtain⟨c4,G,c6⟩:=ft R;obtain⟨c7,V,c9⟩:=ft (γg C);obtain⟨s1,M,s3⟩:=ft (show 0<=X+Y by omega);simp only[dH,T,Q,hD,N,c4,c7,s1,O,W];simp only[vcs];have l:∀{s:Bool} {n:Int},(p.num*q.den+q.num*p.den=if s then -n else n)->(γJ [.sb (nf (eM s n D)).1,.row (.i .u32) (nf (eM s n D)).2.1,.row (.i .u32) (nf (eM s n D)).2.2]).bi (.agg [.sb (nf (p+q)).1,.row (.i .u32) (nf (p+q)).2.1,.row (.i .u32) (nf (p+q)).2.2]):=
  λh=>zV (UG n3 h);rw[n1,n2] at l;refine⟨⟨zU w S,zU B hj⟩,⟨⟨u2,P⟩,by omega,by omega⟩,λZ=>⟨⟨⟨H,G⟩,by omega,by omega⟩,⟨⟨M,V⟩,⟨by omega,by omega⟩,C⟩,l ?_⟩,λZ=>⟨⟨⟨H,G⟩,by omega,by omega⟩,λA=>?_,λA=>?_⟩⟩;all_goals grind[ft]
def wC:M9:=⟨144,NG×NG,.cons (dy sF) (.one (dy sF)),λa=>bL a.1/\bL a.2,λa=>nI (TL a.1 - TL a.2)⟩
theorem Ci:Holds Tryz.prog wC:=by
 refine bI (L:=[vW,sE]) wC lk (by grind[qW,o8]) ?_;rintro⟨x,y⟩ ⟨⟨p,i,k,m,n⟩,⟨q,j,g,l,o⟩⟩;simp only at k g;subst k g;refine NH (let g:=Ψ;let b:=((nf q).1,(nf q).2.1,(nf q).2.2);let e:=((nf p).1,(nf p).2.1,(nf p).2.2);let h:=(nf (-TL b)).2;let f:=((nf (-TL b)).1,h.1,h.2);let d:=nf (TL e+TL f);let a:=ew.i .u32;let c:=nf (TL (nf p) - TL (nf q));bL b/\(bL e/\bL f)/\(γJ [γy d.1,g a d.2.1,g a d.2.2]).bi (γJ [γy c.1,g a c.2.1,g a c.2.2])) (by kernel_rfl) ?_;grind[bL,wT,zV,dH]
theorem ED {a:List Int} (h:ou a) (c:ff a) (b:a≠[]):0<bX a:=by
 have:=el h;grind[val_zero]
def okF (x:NG):Bool:=decide (nf (TL x)=x)
theorem Lv {n d:Int} (h:0<d):0<dI n d:=by
 simp_all[dI]
theorem UF {s:Bool} {n d:List Int} (h:okF (s,(n,d))=true):ff n/\ff d/\d≠[]:=by
 have h:=of_decide_eq_true h;have b:=ft (show(0:Int)<=((TL (s,(n,d))).num.natAbs:Int) by omega);have a:=ft (show(0:Int)<=((TL (s,(n,d))).den:Int) by omega);have e:bU ((TL (s,(n,d))).num.natAbs:Int)=n:=congrArg (λx=>x.2.1) h;have c:bU ((TL (s,(n,d))).den:Int)=d:=congrArg (λx=>x.2.2) h;rw[e] at b;rw[c] at a;refine⟨b.2.2,a.2.2,λf=>?_⟩;have g:=a.1;rw[f] at g;have:=(TL (s,(n,d))).den_pos;grind[bX]
theorem okF_eq {s:Bool} {n d:List Int} (e:ou n) (m:ou d) (l:ff n) (p:ff d) (b:d≠[]):
  okF (s,(n,d))=if n=[] then !s&&decide (d=[1]) else decide (dI (bX n) (bX d)=1):=by
 have c:=ED m p b;have r:=el e;have j:TL (s,(n,d))=mkRat (if s then -bX n else bX n) (bX d).toNat:=rfl;have o:=@LB s (bX n) (bX d) r c;have u:=@Lv (bX n) (bX d) c;unfold okF;rw[j,o];by_cases a:n=[]
 ·rw[if_pos a,a];have i:dI (bX []) (bX d)=bX d:=by unfold dI;simp[bX];omega
  have k:bU (bX d / dI (bX []) (bX d))=[1]:=by rw[i,Int.ediv_self (by omega)];rfl
  have f:bU (bX [] / dI (bX []) (bX d))=[]:=by
   have:bX []=0:=rfl;rw[this,Int.zero_ediv];rfl
  rw[k,f];have v:decide (0<bX [])=false:=rfl;grind
 ·rw[if_neg a];have q:=ED e l a;rw[decide_eq_true (show 0<bX n from q),Bool.and_true];rw[Bool.eq_iff_iff,decide_eq_true_eq,decide_eq_true_eq];constructor
  ·intro h;injection h with h1 h2;injection h2 with h2 h3;have g:=(ft (show 0<=bX d / dI (bX n) (bX d) from δZ (by omega) (by omega))).1;rw[h3] at g;by_cases t:dI (bX n) (bX d)=1;·exact t
   ·have:=Int.ediv_lt_self_of_pos_of_ne_one c (by omega:dI (bX n) (bX d)≠1);omega
  grind[xS]
theorem UE {l:List Int} (h:l.length=0\/bN l (l.length - 1) 0≠0):ff l:=by
 rcases h with h|h;·rw[τ h];trivial
 ·by_cases b:l.length=0;·rw[τ b];trivial
  ·have c:=zA (a:=l) (n:=l.length - 1) (by omega);grind[FF]
def qL (a:List Int):Bool:=decide (a.length=0)||decide (bN a (a.length - 1) 0≠0)
theorem sg {a:List Int}:qL a=true↔ff a:=by
 unfold qL;rw[Bool.or_eq_true,decide_eq_true_eq,decide_eq_true_eq];constructor;·exact UE
 ·intro h;by_cases e:a.length=0;·exact .inl e
  ·right;have b:=zA (a:=a) (n:=a.length - 1) (by omega);rw[show a.length - 1+1=a.length by omega,ψ] at b;have:∀{l:List Int} {x:Int},ff (l++[x])->x≠0:=by
    intro l x;induction l with
    |nil=>intro h;exact h.1 rfl;|cons d l c=>intro h;exact c h.2
   grind
theorem Lu (p q:Rat):(if(!(decide (p<0)==decide (q<0)))=true then -((p.num.natAbs:Int)*(q.num.natAbs:Int)) else(p.num.natAbs:Int)*(q.num.natAbs:Int))=p.num*q.num:=by
 have a:=sG p;have b:=sG q;grind
theorem Lt (p q:Rat):eM (!(decide (p<0)==decide (q<0))) ((p.num.natAbs:Int)*(q.num.natAbs:Int)) ((p.den:Int)*(q.den:Int))=p*q:=by
 unfold eM;rw[Lu,show((p.den:Int)*(q.den:Int)).toNat=p.den*q.den by omega,δE];have a:(p.num:Rat) / (p.den:Rat)=p:=by rw[<-δE,δW]
 have b:(q.num:Rat) / (q.den:Rat)=q:=by rw[<-δE,δW]
 grind
theorem Ls {p q:Rat} (a:q≠0):eM (!(decide (p<0)==decide (q<0))) ((p.num.natAbs:Int)*(q.den:Int)) ((p.den:Int)*(q.num.natAbs:Int))=p / q:=by
 unfold eM;rw[show((p.den:Int)*(q.num.natAbs:Int)).toNat=p.den*q.num.natAbs by omega,δE];have k:(p.num:Rat) / (p.den:Rat)=p:=by rw[<-δE,δW]
 have d:(q.num:Rat) / (q.den:Rat)=q:=by rw[<-δE,δW]
 have m:(p.den:Rat)≠0:=by have:=p.den_nz;simp_all
 have o:(q.den:Rat)≠0:=by grind
 have e:=sG p;have g:=sG q;have n:(q.num:Rat)≠0:=λh=>a (by grind);rw[Rat.natCast_mul];conv=>rhs;rw[<-k,<-d]
 have f:((p.num.natAbs:Int):Rat)=(p.num.natAbs:Rat):=ε7 _;have c:((q.num.natAbs:Int):Rat)=(q.num.natAbs:Rat):=ε7 _;have i:((q.den:Int):Rat)=(q.den:Rat):=ε7 _;have j:(p.num:Rat)=if decide (p<0)=true then -(p.num.natAbs:Rat) else(p.num.natAbs:Rat):=by
  rw[<-f];conv=>lhs;rw[e]
  split<;>grind
 have b:(q.num:Rat)=if decide (q<0)=true then -(q.num.natAbs:Rat) else(q.num.natAbs:Rat):=by
  rw[<-c];conv=>lhs;rw[g]
  split<;>grind
 have l:((if(!(decide (p<0)==decide (q<0)))=true then -((p.num.natAbs:Int)*(q.den:Int)) else(p.num.natAbs:Int)*(q.den:Int):Int):Rat)=if(!(decide (p<0)==decide (q<0)))=true then -((p.num.natAbs:Rat)*(q.den:Rat)) else(p.num.natAbs:Rat)*(q.den:Rat):=by
  split<;>grind
 grind
def wR:M9:=⟨178,NG×NG,.cons (dy sF) (.one (dy sF)),λa=>bL a.1/\bL a.2,λa=>nI (TL a.1*TL a.2)⟩
theorem tZ:Holds Tryz.prog wR:=by
 refine bI (L:=[vZ,vX]) wR lk (by grind[qU,qY]) ?_;rintro⟨x,y⟩ ⟨⟨p,i,n,f,M⟩,⟨q,j,o,l,G⟩⟩;simp only at n o;subst n o;refine NH (let f:=Ψ;let c:=(nf p).2.1;let k:=(nf q).2.1;let g:=(nf p).2.2;let h:=(nf q).2.2;let m:=bU (bX c*bX k);let b:=bU (bX g*bX h);let d:=nf (eM (!(nf p).1==(nf q).1) (bX m) (bX b));let a:=ew.i .u32;let e:=nf (TL (nf p)*TL (nf q));((ou c/\ou k)/\γb c<=100000000000/\γb k<=100000000000)/\((ou g/\ou h)/\γb g<=100000000000/\γb h<=100000000000)/\((ou m/\ou b)/\(m.length<=1000000000/\b.length<=1000000000)/\(0:Int)<bX b)/\(γJ [γy d.1,f a d.2.1,f a d.2.2]).bi (γJ [γy e.1,f a e.2.1,f a e.2.2])) (by kernel_rfl) ?_;conv=>zeta
 obtain⟨t,⟨P,_,s⟩,⟨E,_,v⟩⟩:=kP p;obtain⟨u,⟨J,_,z⟩,⟨I,_,A⟩⟩:=kP q;obtain⟨D,F⟩:=ny f;obtain⟨O,N⟩:=ny l;have C:=p.den_pos;have K:=q.den_pos;rw[s,v,z,A,t,u,dH,dH];have r:0<=(p.num.natAbs:Int)*(q.num.natAbs:Int):=γu (by omega) (by omega);have w:0<(p.den:Int)*(q.den:Int):=εB (by omega) (by omega);have H:=lu r (oY (by omega) f.1 l.1);have B:=lu (γg w) (oY (by omega) f.2 l.2);grind[ft,zV,Lt]
def zT:M9:=⟨184,NG×NG,.cons (dy sF) (.one (dy sF)),λa=>(bL a.1/\bL a.2)/\TL a.2≠0,λa=> .Gz [nI (TL a.1 / TL a.2),.si .i64 0]⟩
theorem yJ:Holds Tryz.prog zT:=by
 refine bI (L:=[vZ,wS]) zT lk (by grind[qU,uc]) ?_;rintro⟨x,y⟩ ⟨⟨⟨p,i,v,f,X⟩,⟨q,j,u,m,Q⟩⟩,a⟩;simp only at v u a;subst v u;refine NH (let a:=Ψ;let g:=(nf p).2.1;let d:=(nf q).2.2;let r:=(nf p).2.2;let e:=(nf q).2.1;let k:=bU (bX g*bX d);let c:=bU (bX r*bX e);let l:=nf (eM (!(nf p).1==(nf q).1) (bX k) (bX c));let b:=ew.i .u32;let t:=[γf .i64 0];let o:=nf (TL (nf p) / TL (nf q));((ou g/\ou d)/\γb g<=100000000000/\γb d<=100000000000)/\((ou r/\ou e)/\γb r<=100000000000/\γb e<=100000000000)/\((ou k/\ou c)/\(k.length<=1000000000/\c.length<=1000000000)/\(0:Int)<bX c)/\(SV.Gz (γJ [γy l.1,a b l.2.1,a b l.2.2]::t)).bi (SV.Gz (γJ [γy o.1,a b o.2.1,a b o.2.2]::t))) (by kernel_rfl) ?_;conv=>zeta
 rw[dH] at a;obtain⟨E,⟨C,_,M⟩,⟨K,_,I⟩⟩:=kP p;obtain⟨B,⟨z,_,J⟩,⟨F,_,A⟩⟩:=kP q;obtain⟨V,O⟩:=ny f;obtain⟨S,W⟩:=ny m;have T:=p.den_pos;have Z:=q.den_pos;have R:q.num≠0:=λh=>a (ζI.1 h);rw[M,I,J,A,E,B,dH,dH];have s:0<=(p.num.natAbs:Int)*(q.den:Int):=γu (by omega) (by omega);have n:0<(p.den:Int)*(q.num.natAbs:Int):=εB (by omega) (by omega);have Y:=lu s (oY (by omega) f.1 m.2);have N:=lu (γg n) (oY (by omega) f.2 m.1);obtain⟨G,H,P⟩:=ft s;obtain⟨w,D,U⟩:=ft (γg n);rw[G,w,Ls a];refine⟨⟨⟨C,F⟩,?_,?_⟩,⟨⟨K,z⟩,?_,?_⟩,⟨⟨H,D⟩,⟨?_,?_⟩,n⟩,rfl⟩<;>omega
def EC:M9:=⟨169,List Int,.one (cL (.i .u32)),λa=>ou (show List Int from a)/\(show List Int from a).length<=1000000000,λa=> .sb (qL a)⟩
theorem Ia:Holds Tryz.prog EC:=by
 refine bI (L:=[pG]) EC lk (by grind[k_]) ?_;rintro(a:List Int) h;refine NH (a.length<=1000000000000/\(γy (decide ((↑(IL a).length:Int)=(↑a.length:Int)))).bi (γy (qL a))) (by kernel_rfl) ?_;simp only[vcs];obtain⟨f,d⟩:ou a/\a.length<=1000000000:=h;refine⟨by omega,?_⟩;cases c:qL a with
 |true=>
  grind[oo,xS,sg];|false=>
  refine decide_eq_false λb=>?_;have e:IL a=a:=by
   unfold IL at b ⊢;rw[γx] at b;exact List.take_of_length_le (by omega)
  grind[pF,sg]
def EB:M9:=⟨170,NG,.one (dy sF),λx=>x.2.1.length<=1000000000,λx=> .agg [.sb x.1,.sb (decide (x.2.1=[]))]⟩
theorem H_:Holds Tryz.prog EB:=by
 refine bI (L:=[]) EB lk (by simp) ?_;rintro⟨s,n,d⟩ h;refine NH (let a:=γy;(γJ [a s,a (decide ((↑n.length:Int)=(0:Int)))]).bi (γJ [a s,a (decide (n=[]))])) (by kernel_rfl) ?_;have e:decide ((n.length:Int)=0)=decide (n=[]):=by
  simp_all
 rw[e];rfl
def sf:M9:=⟨141,NG,.one (dy sF),λx=>(ou x.2.1/\ou x.2.2)/\x.2.1.length<=10000000/\x.2.2.length<=10000000,λx=> .sb (okF x)⟩
theorem nE:Holds Tryz.prog sf:=by
 refine bI (L:=[EC,EB,zZ,vY,vM]) sf lk (by grind[Ia,H_,su,qX,qV]) ?_;rintro⟨s,n,d⟩ ⟨⟨m,f⟩,j,k⟩;refine NH (let a:=SV.bl false;let b:=(0:Int);let c:=(1:Int);let l:=γy (okF (s,n,d));let w:=decide ((↑d.length:Int)=b);let x:=s==true&&(decide (n=[])==true&&true);let p:=bU (dI (bX n) (bX d));let t:=bU c;(ou n/\n.length<=1000000000)/\((!qL n)=true->(a).bi l)/\((!qL n)=false->(ou d/\d.length<=1000000000)/\((!qL d)=true->(a).bi l)/\((!qL d)=false->(w=true->(a).bi l)/\(w=false->n.length<=1000000000/\(x=true->(a).bi l)/\(x=false->((ou n/\ou d)/\n.length<=1000000000/\d.length<=1000000000)/\(b<=c/\c<(18446744073709551616:Int))/\((ou p/\ou t)/\p.length<=1000000000000/\t.length<=1000000000000)/\(γy (decide (kX (bX p) (bX t)=b))).bi l))))) (by kernel_rfl) ?_;simp only[vcs];have m:ou n:=m;have f:ou d:=f;have j:n.length<=10000000:=j;have k:d.length<=10000000:=k;have c:¬(ff n/\ff d/\d≠[])->false=okF (s,n,d):=λh=>by
  grind[UF]
 have e:∀{a:List Int},((a.length:Nat):Int)=0->a=[]:=λh=>τ (by omega);have b:∀{a:List Int},¬((a.length:Nat):Int)=0->a≠[]:=λh i=>h (by rw[i];rfl);refine⟨⟨m,by omega⟩,λu=>c λh=>?_,λu=>⟨⟨f,by omega⟩,λi=>c λh=>?_,λi=>⟨λo=>c λh=>h.2.2 (e o),λo=>⟨by omega,λC=>?_,λC=>?_⟩⟩⟩⟩;·grind[sg]
 ·grind[sg]
 all_goals
  have E:=okF_eq (s:=s) m f (sg.1 u) (sg.1 i) (b o);have D:=ED f (sg.1 i) (b o);have J:=@Lv (bX n) (bX d) D;obtain⟨H,v,A⟩:=ft (show 0<=dI (bX n) (bX d) by omega);obtain⟨B,G,I⟩:=ft (show(0:Int)<=1 by omega);have y:dI (bX n) (bX d)<=bX d:=by
   unfold dI;have:=ζ2 (bX n).toNat (show 0<(bX d).toNat by omega);omega
  rw[E]
 ·simp_all
 ·have F:=EE v f A (by omega);refine⟨⟨⟨m,f⟩,by omega,by omega⟩,by omega,⟨⟨v,G⟩,by omega,by decide⟩,?_⟩;rw[H,B];have r:(kX (dI (bX n) (bX d)) 1=0)=(dI (bX n) (bX d)=1):=by
   grind[kX]
  simp only[r];by_cases g:n=[]
  ·rw[if_pos g];have z:s=false:=by
    simp_all
   have q:dI (bX n) (bX d)=bX d:=by
    rw[g];unfold dI;simp[bX];omega
   rw[q,z,Bool.not_false,Bool.true_and,decide_eq_decide];constructor
   ·intro h;rw[<-xS f (sg.1 i),h];rfl
   ·intro h;rw[h];rfl
  ·rw[if_neg g]
theorem sd {p q:Rat} {i j:Nat} (b:Sz i p) (a:Sz j q):Sz (i+j) (p*q):=by
 rw[<-Lt];unfold eM;rw[Lu];have c:=p.den_pos;have d:=q.den_pos;have e:0<(p.den:Int)*(q.den:Int):=εB (by omega) (by omega);refine wV (by omega) ?_ ?_
 ·rw[εr,Int.natCast_mul];exact oY (by omega) b.1 a.1
 ·rw[εC (by omega)];exact oY (by omega) b.2 a.2
theorem EA {p q:Rat} {i j:Nat} (c:Sz i p) (b:Sz j q) (d:q≠0):Sz (i+j) (p / q):=by
 rw[<-Ls d];unfold eM;have e:=p.den_pos;have f:=q.den_pos;have l:q.num≠0:=λh=>d (ζI.1 h);have k:0<(p.den:Int)*(q.num.natAbs:Int):=εB (by omega) (by omega);have g:=oY (a:=(p.num.natAbs:Int)) (by omega) c.1 b.2;refine wV (by omega) ?_ ?_;·grind
 ·rw[εC (by omega)];exact oY (by omega) c.2 b.1
theorem UD {p q:Rat}:0<gN p q↔q<p:=by
 grind[gN]
theorem UC {p q:Rat}:gN p q=0↔p=q:=by
 grind[gN]
def dG (t:Tb):Nat->Int
 |0=> -1
 |k+1=>if 0<t.cs k/\(dG t k<0\/t.fv k<t.fv (dG t k).toNat) then(k:Int) else dG t k
def dj (t:Tb) (c:Nat):Nat->Int
 |0=> -1
 |k+1=>if t.cf k c<=0 then dj t c k
  else if 0<=dj t c k/\(t.bd (dj t c k).toNat / t.cf (dj t c k).toNat c<t.bd k / t.cf k c\/(t.bd k / t.cf k c=t.bd (dj t c k).toNat / t.cf (dj t c k).toNat c/\t.bv (dj t c k).toNat<t.bv k)) then dj t c k
  else(k:Int)
section
variable {n m:Nat} {t t0:Tb} {r c:Nat}
theorem r_:∀{k:Nat},(dG t k= -1/\∀j,j<k->¬0<t.cs j)\/(∃b:Nat,dG t k=b/\b<k/\0<t.cs b/\∀j,j<k->0<t.cs j->t.fv b<=t.fv j)
 |0=> .inl ⟨rfl,λj h=>by omega⟩
 |k+1=>by
  unfold dG;rcases @r_ k with⟨a,c⟩|⟨b,a,c,d,e⟩;·grind
  ·have f:(dG t k).toNat=b:=by omega
   grind
theorem sD {c:Nat}:∀{k:Nat},(dj t c k= -1/\∀j,j<k->t.cf j c<=0)\/(∃b:Nat,dj t c k=b/\b<k/\0<t.cf b c/\∀j,j<k->0<t.cf j c->t.bd b / t.cf b c<t.bd j / t.cf j c\/(t.bd b / t.cf b c=t.bd j / t.cf j c/\t.bv b<=t.bv j))
 |0=> .inl ⟨rfl,λj h=>by omega⟩
 |k+1=>by
  unfold dj;by_cases e:t.cf k c<=0
  ·rw[if_pos e];rcases @sD c k with⟨f,a⟩|⟨b,f,a,o,n⟩<;>grind
  ·rw[if_neg e];have g:0<t.cf k c:=Rat.not_le.1 e;rcases @sD c k with⟨f,a⟩|⟨b,f,a,o,n⟩;·grind
   ·have i:(dj t c k).toNat=b:=by omega
    rw[i];by_cases d:0<=dj t c k/\(t.bd b / t.cf b c<t.bd k / t.cf k c\/(t.bd k / t.cf k c=t.bd b / t.cf b c/\t.bv b<t.bv k));·grind
    ·rw[if_neg d];have l:¬t.bd b / t.cf b c<t.bd k / t.cf k c:=λh=>d ⟨by omega,.inl h⟩;have m:t.bd k / t.cf k c=t.bd b / t.cf b c->¬t.bv b<t.bv k:=λh a=>d ⟨by omega,.inr ⟨h,a⟩⟩;refine .inr ⟨k,rfl,by omega,g,λj p q=>?_⟩;grind
end
def stepT (n m:Nat) (t:Tb):Option Tb:=
 if dG t n<0 then none
 else if dj t (dG t n).toNat m<0 then none
 else some (eX t (dj t (dG t n).toNat m).toNat (dG t n).toNat)
def ek (n m:Nat):Nat->Tb->Bool
 |0,t=>(stepT n m t).isNone
 |k+1,t=>match stepT n m t with
  |none=>true
  |some a=>ek n m k a
def runT (n m:Nat):Nat->Tb->Tb
 |0,t=>t
 |k+1,t=>match stepT n m t with
  |none=>t
  |some a=>runT n m k a
def vV (n m N:Nat) (t:Tb):Nat:=((ω N).filter λk=>!ek n m k t).length
section
variable {n m:Nat} {t t0 t':Tb}
theorem Lr (h:stepT n m t=some t'):∃r c,o6 n m t r c/\t'=eX t r c/\dG t n=(c:Int)/\dj t c m=(r:Int):=by
 unfold stepT at h;split at h;·cases h
 ·rename_i p;split at h;·cases h
  ·rename_i o;injection h with h;rcases @r_ t n with⟨b,_⟩|⟨c,b,d,e,k⟩;·omega
   ·have f:(dG t n).toNat=c:=by omega
    rw[f] at h o;rcases @sD t c m with⟨a,_⟩|⟨r,a,i,j,l⟩;·omega
    ·have g:(dj t c m).toNat=r:=by omega
     rw[g] at h;exact⟨r,c,⟨i,d,e,k,j,l⟩,h.symm,b,a⟩
theorem Ez (b:dm n m t0 t) (d:jt m t) (h:stepT n m t=some t'):dm n m t0 t'/\jt m t':=by
 obtain⟨r,c,a,rfl,_⟩:=Lr h;exact⟨b.P9 a.hr a.hc (by have:=a.pos;grind),a.vy b.wf d⟩
theorem E8:∀{k:Nat} {t:Tb},ek n m k t=true->ek n m (k+1) t=true
 |0,t,h=>by
  grind[ek];|k+1,t,h=>by
  unfold ek at h ⊢;split;·rfl
  ·rename_i b a;rw[a] at h;exact E8 h
theorem nG {N:Nat} (b:ek n m N t=true) (h:stepT n m t=some t'):vV n m N t'<vV n m N t:=by
 unfold vV;have e:∀k,ek n m k t'=ek n m (k+1) t:=λk=>by grind[ek]
 have c:ek n m 0 t=false:=by simp[ek,h]
 simp only[e];cases N with
 |zero=>simp_all;|succ N=>
  have a:∀f:Nat->Bool,((ω (N+1)).filter f).length=(if f 0 then 1 else 0)+((ω N).filter λk=>f (k+1)).length:=λf=>by
   rw[List.range_succ_eq_map,List.filter_cons,List.filter_map,];grind[Function.comp_def]
  rw[a (λk=>!ek n m k t),c];rw[List.range_succ,List.filter_append,γh];simp[b]
theorem Lq {N:Nat} (a:ek n m N t=true) (h:stepT n m t=some t'):ek n m N t'=true:=by
 cases N<;>grind[ek,E8]
theorem E7 (D:dm n m t0 t) (o:jt m t):∃N,ek n m N t=true:=by
 apply Classical.byContradiction;intro u;have e:∀N,ek n m N t=false:=λN=>by
  simp_all
 let T:Nat->Tb:=λk=>Nat.rec t (λ_ s=>(stepT n m s).getD s) k;have d:∀k,T (k+1)=(stepT n m (T k)).getD (T k):=λk=>rfl;have A:∀k N,ek n m N (T k)=false:=by
  intro k;induction k with
  |zero=>exact e;|succ k l=>
   intro N;rw[d];cases z:stepT n m (T k) with
   |none=>simp_all;|some q=>
    have:=l (N+1);grind[ek]
 have w:∀k,stepT n m (T k)=some (T (k+1)):=λk=>by
  rw[d];cases z:stepT n m (T k) with
  |none=>have:=A k 0;grind[ek];|some q=>rfl
 have a:∀k,dm n m t0 (T k)/\jt m (T k):=by
  intro k;induction k with
  |zero=>exact⟨D,o⟩;|succ k l=>grind[Ez]
 have b:∀k,∃p:Nat×Nat,o6 n m (T k) p.1 p.2/\T (k+1)=eX (T k) p.1 p.2:=λk=>by
  obtain⟨r,c,f,E,_⟩:=Lr (w k);exact⟨(r,c),f,E⟩
 let p:Nat->Nat×Nat:=λk=>δS (b k);have h:∀k,o6 n m (T k) (p k).1 (p k).2/\T (k+1)=eX (T k) (p k).1 (p k).2:=λk=>Classical.choose_spec (b k);obtain⟨i,j,g,B⟩:=EN (wY (t0.basic++t0.free) (m+n)) (λk=>(T k).basic++(T k).free) λk=>by
  have f:=@KZ (t0.basic++t0.free) ((T k).basic++(T k).free) λv C=>(a k).1.perm.mem_iff.1 C;rwa [γh,(a k).1.wf.basic,(a k).1.wf.free] at f
 obtain⟨y,x⟩:=List.append_inj B (by rw[(a i).1.wf.basic,(a j).1.wf.basic]);exact Uk (λk=>(a k).1) (λk=>(a k).2) (λk=>(h k).1) (λk=>(h k).2) g y x
end
def fL (l:List Rat):List NG:=l.map nf
def fM (l:List (List Rat)):List (List NG):=l.map fL
def vL (l:List NG):List Rat:=l.map TL
theorem jR (l:List Rat):vL (fL l)=l:=by
 unfold vL fL;rw[γ5];conv=>rhs;rw[<-List.map_id l]
 exact γ0 λq _=>dH q
theorem iX (x:NG):(x.1,x.2.1,x.2.2)=x:=rfl
theorem eA {l:List Rat}:(fL l).length=l.length:=Θ _
theorem E6 {l:List (List Rat)}:(fM l).length=l.length:=Θ _
theorem iD {l:List Rat} {i:Nat} (h:i<l.length) {d:NG}:bN (fL l) i d=nf (bN l i 0):=by
 grind[b_,fL]
theorem E5 {l:List (List Rat)} {i:Nat} (h:i<l.length) {d:List NG}:bN (fM l) i d=fL (bN l i []):=by
 grind[b_,fM]
structure l9 where
 n:Int
 m:Int
 k0:Nat
 k1:Nat
 k3:Nat
 k4:Nat
 VJ:List (List NG)
 bound:List NG
 cost:List NG
 v:NG
 basic:List Int
 free:List Int
def l9.fO (x:l9):TN:=
 [.cells [.si .i64 x.n,.si .i64 x.m,.ow 1 x.k0 1,.ow 2 x.k1 3,.row sF x.cost,.sb x.v.1,.row (.i .u32) x.v.2.1,.row (.i .u32) x.v.2.2,.ow 3 x.k3 1,.ow 4 x.k4 1] 261 10 false,
  .row (.qE sF) x.VJ 106 false,.row sF x.bound 177 false,.row (.i .i64) x.basic 3 false,.row (.i .i64) x.free 3 false]
def zS:TN->Option l9
 |[.cells [a,b,.ow 1 k0 1,.ow 2 k1 3,c,v0,v1,v2,.ow 3 k3 1,.ow 4 k4 1] 261 10 false,.row s1 l1 106 false,.row s2 l2 177 false,.row s3 l3 3 false,.row s4 l4 3 false]=>
  match a.int .i64,b.int .i64,iJ sF c,jm sF [v0,v1,v2] with
  |some a,some b,some c,some v=>match gG s1 (.qE sF) l1,gG s2 sF l2,gG s3 (.i .i64) l3,gG s4 (.i .i64) l4 with
   |some l1,some l2,some l3,some l4=>some ⟨a,b,k0,k1,k3,k4,l1,l2,c,v,l3,l4⟩
   |_,_,_,_=>none
  |_,_,_,_=>none
 |_=>none
theorem UB {o:TN} {x:l9} (h:zS o=some x):gO o=gO x.fO:=by
 unfold zS at h;split at h
 ·split at h
  ·rename_i p l c e;split at h
   ·rename_i n j k m;simp only[γ] at h;subst h;obtain⟨rfl,f⟩:=lF n;obtain⟨rfl,b⟩:=lF j;obtain⟨rfl,d⟩:=lF k;obtain⟨rfl,i⟩:=lF m;cases f;cases b;cases d;cases i;have a:=mJ e;simp only[π,γr,de,cI,Δ,and_true,List.nil_append,List.cons_append] at a;simp only[l9.fO,gO,π,γr,iZ.g,gL,gS p,gS l,ng c,SV.g];simp only[a];rfl
   ·cases h
  ·cases h
 ·cases h
theorem nx {s:ew} {a b:List s.T} (h:bO s a=bO s b):a=b:=by
 by_cases d:s.sz=0;·exact absurd d (by
   have:∀s:ew,0<s.sz:=λs=>by
    induction s<;>simp only[ew.sz]<;>omega
   grind)
 ·have c:=congrArg γb h;rw[ec,ec] at c;exact ku s (Nat.eq_of_mul_eq_mul_right (by omega) c) h
theorem UA {x y:l9} (h:gO x.fO=gO y.fO):x=y:=by
 obtain⟨n,m,B,M,G,J,c,b,g,⟨I,K,F⟩,D,C⟩:=x;obtain⟨H,L,a,p,r,l,N,E,A,⟨k,w,q⟩,j,u⟩:=y;simp only[l9.fO,gO,π,γr,iZ.g,gL,SV.g,Δ,OL.cells.injEq,and_true,true_and,AV.sc.injEq,Value.int.injEq,Value.bool.injEq,AV.os.injEq,AV.sl.injEq] at h;obtain⟨⟨rfl,rfl,⟨rfl,_⟩,⟨rfl,_⟩,⟨_,d⟩,rfl,⟨_,v⟩,⟨_,e⟩,⟨rfl,_⟩,⟨rfl,_⟩⟩,f,t,o,z⟩:=h;rw[nx (s:=sF) d,nx (s:=.i .u32) v,nx (s:=.i .u32) e,nx (s:=.qE sF) f,nx (s:=sF) t,nx (s:=.i .i64) o,nx (s:=.i .i64) z]
abbrev FV (n m:Int) (t:Tb):l9:=⟨n,m,t.VJ.length,t.bound.length,t.basic.length,t.free.length,fM t.VJ,fL t.bound,fL t.cost,nf t.value,t.basic,t.free⟩
def l9.t (x:l9):Tb:=⟨x.VJ.map vL,vL x.bound,vL x.cost,TL x.v,x.basic,x.free⟩
theorem qK {n m:Int} {t:Tb}:(FV n m t).t=t:=by
 have e:(fM t.VJ).map vL=t.VJ:=by
  unfold fM;rw[γ5];conv=>rhs;rw[<-List.map_id t.VJ]
  exact γ0 λq _=>jR q
 simp_all[l9.t,jR,dH]
theorem Uz (x:l9):(⟨x.n,x.m,x.k0,x.k1,x.k3,x.k4,x.VJ,x.bound,x.cost,(x.v.1,x.v.2.1,x.v.2.2),x.basic,x.free⟩:l9)=x:=rfl
theorem Lo {n m:Int} {t:Tb}:(FV n m t).n=n:=rfl
theorem Ln {n m:Int} {t:Tb}:(FV n m t).m=m:=rfl
def sw (k:Nat) (t:Tb):Prop:=(∀l∈t.VJ,∀q∈l,Sz k q)/\(∀q∈t.bound,Sz k q)/\(∀q∈t.cost,Sz k q)/\Sz k t.value
def jK (n m:Int) (t:Tb):Prop:=((0<=n/\n<=1000)/\(0<=m/\m<=1000))/\t.WF n.toNat m.toNat/\sw 1000000 t
def rZ (f:FuncId) (c:Type) (A:ox c) (i:Int->Int->Tb->c->Prop) (e:Int->Int->Tb->c->SV) (out:Int->Int->Tb->c->Tb):cU where
 f:=f;α:=l9×c;put a:=.ptr 0 0 10::A.put a.2;st a:=a.1.fO;dec v o:=match v with
  | .ptr 0 0 10::r=>match zS o,A.dec r with
   |some s,some b=>some (s,b)
   |_,_=>none
  |_=>none;ok v o a h:=by
  split at h
  ·split at h
   ·rename_i d g;simp only[γ] at h;subst h;exact⟨by simp only[gL,A.ok _ _ g],UB d⟩
   ·cases h
  ·cases h
 inj a b d g:=by
  simp only[gL,Δ,true_and] at d;exact Prod.ext (UA g) (A.inj _ _ d)
 dom a:=∃n m t,a.1=FV n m t/\jK n m t/\i n m t a.2;res a:=e a.1.n a.1.m a.1.t a.2;out a:=(FV a.1.n a.1.m (out a.1.n a.1.m a.1.t a.2)).fO
theorem c_ {q:Rat} {k:Nat} (h:Sz k q) (a:k<=100000000):bL (nf q):=⟨q,k,rfl,h,a⟩
section
variable {n m:Int} {t:Tb}
theorem jK.cf (h:jK n m t) {i j:Nat} (a:i<m.toNat) (c:j<n.toNat):Sz 1000000 (t.cf i j):=by
 have b:=cE (l:=t.VJ) (d:=[]) (show i<t.VJ.length by rw[h.2.1.VJ];exact a);exact h.2.2.1 _ b _ (cE (by rw[h.2.1.row i a];exact c))
theorem jK.bd (h:jK n m t) {i:Nat} (a:i<m.toNat):Sz 1000000 (t.bd i):=h.2.2.2.1 _ (cE (by rw[h.2.1.bound];exact a))
theorem jK.cs (h:jK n m t) {j:Nat} (a:j<n.toNat):Sz 1000000 (t.cs j):=h.2.2.2.2.1 _ (cE (by rw[h.2.1.cost];exact a))
end
theorem rl {q:Rat}:0<iY q↔0<q:=by
 grind[iY]
theorem E4 {q:Rat}:iY q=0↔q=0:=by
 grind[iY]
theorem wQ {q:Rat}:iY q<0↔q<0:=by
 grind[iY]
def E3:cU:=rZ 179 Unit .nil (λ_ _ _ _=>True) (λn _ t _=> .si .i64 (dG t n.toNat)) (λ_ _ t _=>t)
def Uy (n m:Int) (t:Tb):Nat->bG
 |3=> .inv Int (λj=>⟨[(0,.ptr 0 0 10),(3,.si .i64 (dG t j.toNat)),(9,.ow 4 t.free.length 1),(10,.si .i64 t.free.length),(11,.si .i64 j)],(FV n m t).fO⟩)
   (λs=>iS s 11) (λj=>0<=j/\j<=n) (λj=>(n - j).toNat) λ_ _=> .look
 |_=> .look
theorem Ic:dA Tryz.prog E3:=by
 refine kq (L:=[qb]) (W:=[]) E3 (λa=>Uy a.1.n a.1.m a.1.t) (by simp) (by simpa using sA) ?_;rintro⟨x,u⟩ ⟨n,m,t,hx,hok, -⟩;simp only at hx;subst hx;refine NH (let a:=γf .i64;let b:=(0:Int);let c:=iZ.row;let d:=γW;let e:=Ψ;let r:=γK 0 0 10;let s:=(FV n m t).t;let F:=d 4 (FV n m t).k4 1;let y:=s.free.length;let z:=d 4 y 1;let A:=a (↑y:Int);let g:=(FV n m t).n;let B:=ew.i .u32;let f:=FV g (FV n m t).m s;let k:=iZ.cells [a f.n,a f.m,d 1 f.k0 1,d 2 f.k1 3,e sF f.cost,γy f.v.1,e B f.v.2.1,e B f.v.2.2,d 3 f.k3 1,d 4 f.k4 1] 261 10 false;let l:=c sF.qE f.VJ 106 false;let o:=c sF f.bound 177 false;let C:=ew.i .i64;let p:=c C f.basic 3 false;let q:=c C f.free 3 false;let j:=f.free.length;(((r.bi r/\(γv .i64 (-1:Int)).bi (a (dG s 0))/\F.bi z/\(a (↑(FV n m t).k4:Int)).bi A/\(γv .i64 0).bi (a 0)/\True)/\(iZ.cells [a g,a (FV n m t).m,d 1 (FV n m t).k0 1,d 2 (FV n m t).k1 3,e sF (FV n m t).cost,γy (FV n m t).v.1,e B (FV n m t).v.2.1,e B (FV n m t).v.2.2,d 3 (FV n m t).k3 1,F] 261 10 false).bi k/\(c sF.qE (FV n m t).VJ 106 false).bi l/\(c sF (FV n m t).bound 177 false).bi o/\(c C (FV n m t).basic 3 false).bi p/\(c C (FV n m t).free 3 false).bi q/\True)/\b<=b/\b<=g)/\∀(x:Int),let h:=x+(1:Int);let w:=dG s x.toNat;let G:=a w;let H:=a (dG s h.toNat);let D:=a h;let E:=bN f.cost x.toNat sF.bw;let I:=(E.1,E.2.1,E.2.2);let J:=decide (x<(↑y:Int));let K:=decide (w<b);let L:=decide (bN f.free x.toNat b<bN f.free w.toNat b);let M:=VI .i64 h/\((r.bi r/\G.bi H/\z.bi z/\A.bi A/\D.bi D/\True)/\k.bi k/\l.bi l/\o.bi o/\p.bi p/\q.bi q/\True)/\(b<=h/\h<=g)/\(g - h).toNat<(g - x).toNat;let N:=VI .i64 h/\((r.bi r/\(a x).bi H/\z.bi z/\A.bi A/\D.bi D/\True)/\k.bi k/\l.bi l/\o.bi o/\p.bi p/\q.bi q/\True)/\(b<=h/\h<=g)/\(g - h).toNat<(g - x).toNat;let O:=λ(u:Bool) ↦decide (b<iY (TL I))=u;b<=x/\x<=g->(J=true->y=j/\b<=x/\x<(↑j:Int)/\y=j/\x.toNat<j/\b<=x/\x<(↑f.cost.length:Int)/\x.toNat<f.cost.length/\bL I/\(O true->(K=true->N)/\(K=false->f.k4=j/\b<=w/\w<(↑j:Int)/\f.k4=j/\w.toNat<j/\(L=true->N)/\(L=false->M)))/\(O false->M))/\(J=false->G.bi (a (dG s g.toNat))/\k.bi k/\l.bi l/\o.bi o/\p.bi p/\q.bi q/\True)) (by kernel_rfl) ?_;simp only[qK];try simp only[FV]
 simp only[vcs];obtain⟨⟨⟨n0,n1⟩,m0,m1⟩,hw,hz⟩:=id hok;have hfl:=hw.free;have hcl:=hw.cost;have hfc:=@eA t.cost;refine⟨⟨rfl,by omega,by omega⟩,?_⟩;rintro j ⟨j0,j1⟩;have hs:dG t (j+1).toNat=if 0<t.cs j.toNat/\(dG t j.toNat<0\/t.fv j.toNat<t.fv (dG t j.toNat).toNat) then(j.toNat:Int) else dG t j.toNat:=by
  rw[show(j+1).toNat=j.toNat+1 by omega];rfl
 have hb:dG t j.toNat<j.toNat:=by
  rcases @r_ t j.toNat with⟨h,_⟩|⟨b,h,hlt,_⟩<;>omega
 refine⟨λhj=>?_,λhj=>by rw[show j.toNat=n.toNat by omega]⟩;have hc:bN (fL t.cost) j.toNat sF.bw=nf (t.cs j.toNat):=iD (by omega);simp only[hc,iX,dH,decide_eq_true_eq,decide_eq_false_iff_not,rl];have hfv:∀k:Nat,bN t.free k 0=t.fv k:=λk=>rfl;rw[hfv,hfv,hs];refine⟨j0,hj,by omega,j0,by omega,by omega,c_ (hok.cs (by omega)) (by omega),λhp=>⟨λhn=>?_,λhn=>⟨by omega,by omega,by omega,λhl=>?_,λhl=>?_⟩⟩,λhp=>?_⟩
 ·rw[if_pos ⟨hp,.inl hn⟩];omega
 ·rw[if_pos ⟨hp,.inr hl⟩];omega
 ·rw[if_neg λh=>h.2.elim hn hl];omega
 ·rw[if_neg λh=>hp h.1];omega
def l8 (t:Tb) (c k:Nat):NG:=if dj t c k<0 then(false,([],[])) else nf (t.bd (dj t c k).toNat / t.cf (dj t c k).toNat c)
def E2:cU:=rZ 180 Int (.one (dX .i64)) (λn _ _ c=>0<=c/\c<n) (λ_ m t c=> .si .i64 (dj t c.toNat m.toNat)) (λ_ _ t _=>t)
def Ux (n m:Int) (t:Tb) (c:Int):Nat->bG
 |4=> .inv Int (λi=>⟨[(0,.ptr 0 0 10),(1,.si .i64 c),(5,.si .i64 (dj t c.toNat i.toNat)),(6,.ptr 5 0 3),(15,.ow 1 t.VJ.length 1),(16,.si .i64 t.VJ.length),(17,.si .i64 i)],(FV n m t).fO++[.cells [.sb (l8 t c.toNat i.toNat).1,.row (.i .u32) (l8 t c.toNat i.toNat).2.1,.row (.i .u32) (l8 t c.toNat i.toNat).2.2] 177 3 false,.dead,.dead]⟩)
   (λs=>iS s 17) (λi=>0<=i/\i<=m) (λi=>(m - i).toNat) λ_ _=> .look
 |_=> .look
theorem Ib:dA Tryz.prog E2:=by
 refine kq (L:=[qb,uj,zT]) (W:=[]) E2 (λa=>Ux a.1.n a.1.m a.1.t a.2) (by simp) (by simpa using⟨sA,y9,yJ⟩) ?_;rintro⟨x,c⟩ ⟨n,m,t,hx,hok,hd⟩;simp only at hx hd;subst hx;refine NH (let a:=γf .i64;let b:=(0:Int);let d:=Ψ;let e:=iZ.cells;let f:=iZ.row;let g:=γW;let h:=γy;let A:=γK 0 0 10;let p:=(FV n m t).t;let B:=γK 5 0 3;let U:=g 1 (FV n m t).k0 1;let H:=p.VJ.length;let I:=g 1 H 1;let J:=a (↑H:Int);let l:=(FV n m t).m;let k:=ew.i .u32;let j:=FV (FV n m t).n l p;let r:=e [a j.n,a j.m,g 1 j.k0 1,g 2 j.k1 3,d sF j.cost,h j.v.1,d k j.v.2.1,d k j.v.2.2,g 3 j.k3 1,g 4 j.k4 1] 261 10 false;let C:=j.VJ;let s:=f sF.qE C 106 false;let D:=j.bound;let w:=f sF D 177 false;let L:=ew.i .i64;let y:=f L j.basic 3 false;let z:=f L j.free 3 false;let O:=l8 p c.toNat 0;let a9:=sF.qE.bw;let q:=j.basic.length;0=0/\0=0/\(((A.bi A/\(a c).bi (a c)/\(γv .i64 (-1:Int)).bi (a (dj p c.toNat 0))/\B.bi B/\U.bi I/\(a (↑(FV n m t).k0:Int)).bi J/\(γv .i64 0).bi (a 0)/\True)/\(e [a (FV n m t).n,a l,U,g 2 (FV n m t).k1 3,d sF (FV n m t).cost,h (FV n m t).v.1,d k (FV n m t).v.2.1,d k (FV n m t).v.2.2,g 3 (FV n m t).k3 1,g 4 (FV n m t).k4 1] 261 10 false).bi r/\(f sF.qE (FV n m t).VJ 106 false).bi s/\(f sF (FV n m t).bound 177 false).bi w/\(f L (FV n m t).basic 3 false).bi y/\(f L (FV n m t).free 3 false).bi z/\(e [SV.bl false,d k [],d k []] 177 3 false).bi (e [h O.1,d k O.2.1,d k O.2.2] 177 3 false)/\iZ.dead.bi iZ.dead/\iZ.dead.bi iZ.dead/\True)/\b<=b/\b<=l)/\∀(x:Int),let o:=x+(1:Int);let V:=a (dj p c.toNat o.toNat);let M:=a o;let P:=bN D x.toNat sF.bw;let W:=(P.1,P.2.1,P.2.2);let K:=bN C x.toNat a9;let Q:=bN K c.toNat sF.bw;let N:=(Q.1,Q.2.1,Q.2.2);let E:=nf (TL W / TL N);let R:=l8 p c.toNat o.toNat;let X:=e [h R.1,d k R.2.1,d k R.2.2] 177 3 false;let F:=dj p c.toNat x.toNat;let Y:=a F;let G:=l8 p c.toNat x.toNat;let Z:=(E.1,E.2.1,E.2.2);let a0:=(G.1,G.2.1,G.2.2);let a1:=gN (TL Z) (TL a0);let a2:=decide (x<(↑H:Int));let a3:=decide (b<=F);let a4:=decide (bN j.basic F.toNat b<bN j.basic x.toNat b);let S:=VI .i64 o/\((A.bi A/\(a c).bi (a c)/\(a x).bi V/\B.bi B/\I.bi I/\J.bi J/\M.bi M/\True)/\r.bi r/\s.bi s/\w.bi w/\y.bi y/\z.bi z/\(e [h E.1,d k E.2.1,d k E.2.2] 177 3 false).bi X/\iZ.dead.bi iZ.dead/\iZ.dead.bi iZ.dead/\True)/\(b<=o/\o<=l)/\(l - o).toNat<(l - x).toNat;let T:=VI .i64 o/\((A.bi A/\(a c).bi (a c)/\Y.bi V/\B.bi B/\I.bi I/\J.bi J/\M.bi M/\True)/\r.bi r/\s.bi s/\w.bi w/\y.bi y/\z.bi z/\(e [h G.1,d k G.2.1,d k G.2.2] 177 3 false).bi X/\iZ.dead.bi iZ.dead/\iZ.dead.bi iZ.dead/\True)/\(b<=o/\o<=l)/\(l - o).toNat<(l - x).toNat;let a5:=bL N;let a6:=λ(u:Bool) ↦decide (b<a1)=u;let a7:=λ(u:Bool) ↦decide (a1=b)=u;let a8:=λ(u:Bool) ↦decide (iY (TL N)<=b)=u;b<=x/\x<=l->(a2=true->H=C.length/\b<=x/\x<(↑C.length:Int)/\H=C.length/\x.toNat<C.length/\b<=c/\c<(↑K.length:Int)/\c.toNat<K.length/\a5/\(a8 true->T)/\(a8 false->j.k1=D.length/\b<=x/\x<(↑D.length:Int)/\j.k1=D.length/\x.toNat<D.length/\b<=c/\c<(↑K.length:Int)/\c.toNat<K.length/\((bL W/\a5)/\TL N≠(0:Rat))/\(a3=true->(bL Z/\bL a0)/\(a6 true->T)/\(a6 false->(a7 true->j.k3=q/\b<=x/\x<(↑q:Int)/\j.k3=q/\x.toNat<q/\j.k3=q/\b<=F/\F<(↑q:Int)/\j.k3=q/\F.toNat<q/\(a4=true->T)/\(a4=false->S))/\(a7 false->S)))/\(a3=false->S)))/\(a2=false->Y.bi (a (dj p c.toNat l.toNat))/\r.bi r/\s.bi s/\w.bi w/\y.bi y/\z.bi z/\True)) (by kernel_rfl) ?_;simp only[qK];try simp only[FV]
 simp only[vcs];obtain⟨⟨⟨n0,n1⟩,m0,m1⟩,hw,hz⟩:=id hok;have hkl:=hw.VJ;have hbl:=hw.bound;have hbb:=hw.basic;have hfm:=@E6 t.VJ;have hfb:=@eA t.bound;have hcell:∀{x y:NG},x=y->(iZ.cells [γy x.1,Ψ (ew.i IntKind.u32) x.2.1,Ψ (ew.i IntKind.u32) x.2.2] 177 3 false).bi (iZ.cells [γy y.1,Ψ (ew.i IntKind.u32) y.2.1,Ψ (ew.i IntKind.u32) y.2.2] 177 3 false):=by rintro _ _ rfl;rfl
 have hl0:l8 t c.toNat 0=(false,([],[])):=rfl;refine⟨⟨⟨rfl,by rw[hl0];rfl⟩,by omega,by omega⟩,?_⟩;rintro i ⟨i0,i1⟩;refine⟨λhi=>?_,λhi=>by rw[show i.toNat=m.toNat by omega]⟩;have him:i.toNat<m.toNat:=by omega
 have hrow:bN (fM t.VJ) i.toNat sF.qE.bw=fL (bN t.VJ i.toNat []):=E5 (by omega);have hrl:=hw.row i.toNat him;have hfr:=@eA (bN t.VJ i.toNat []);have hA:bN (fL (bN t.VJ i.toNat [])) c.toNat sF.bw=nf (t.cf i.toNat c.toNat):=iD (by omega);have hB:bN (fL t.bound) i.toNat sF.bw=nf (t.bd i.toNat):=iD (by omega);have hbv:∀k:Nat,bN t.basic k 0=t.bv k:=λk=>rfl;have hsA:=hok.cf (i:=i.toNat) (j:=c.toNat) him (by omega);have hsB:=hok.bd (i:=i.toNat) him;have hs:dj t c.toNat (i+1).toNat=if t.cf i.toNat c.toNat<=0 then dj t c.toNat i.toNat
  else if 0<=dj t c.toNat i.toNat/\(t.bd (dj t c.toNat i.toNat).toNat / t.cf (dj t c.toNat i.toNat).toNat c.toNat<t.bd i.toNat / t.cf i.toNat c.toNat\/(t.bd i.toNat / t.cf i.toNat c.toNat=t.bd (dj t c.toNat i.toNat).toNat / t.cf (dj t c.toNat i.toNat).toNat c.toNat/\t.bv (dj t c.toNat i.toNat).toNat<t.bv i.toNat)) then dj t c.toNat i.toNat
  else(i.toNat:Int):=by
  rw[show(i+1).toNat=i.toNat+1 by omega];rfl
 have hlb:dj t c.toNat i.toNat<i.toNat:=by
  rcases @sD t c.toNat i.toNat with⟨h,_⟩|⟨b,h,hlt,_⟩<;>omega
 have hlp:0<=dj t c.toNat i.toNat->0<t.cf (dj t c.toNat i.toNat).toNat c.toNat:=λh=>by
  rcases @sD t c.toNat i.toNat with⟨h2,_⟩|⟨b,h2,hlt,hp,_⟩;·omega
  ·rw[h2,γm];exact hp
 have aTY:∀q:Rat,iY q<=0↔q<=0:=λq=>by
  have:=@rl q;constructor;·intro h;exact Rat.not_lt.1 λh2=>by have:=this.2 h2;omega
  ·intro h;exact Int.not_lt.1 λh2=>Rat.not_lt.2 h (this.1 h2)
 simp only[hrow,hA,hB,iX,dH,hbv,aTY,UD,UC];have aTZ:0<=dj t c.toNat i.toNat->l8 t c.toNat i.toNat=nf (t.bd (dj t c.toNat i.toNat).toNat / t.cf (dj t c.toNat i.toNat).toNat c.toNat):=λh=>by
  unfold l8;rw[if_neg (by omega)]
 have tail:(0<=i+1/\i+1<=m)/\(m - (i+1)).toNat<(m - i).toNat:=by omega
 have keep:dj t c.toNat (i+1).toNat=dj t c.toNat i.toNat->l8 t c.toNat i.toNat=l8 t c.toNat (i+1).toNat:=λh=>by
  unfold l8;rw[h]
 have new:dj t c.toNat (i+1).toNat=(i.toNat:Int)->nf (t.bd i.toNat / t.cf i.toNat c.toNat)=l8 t c.toNat (i+1).toNat:=λh=>by
  unfold l8;rw[h,if_neg (by omega),γm]
 have hnz:0<t.cf i.toNat c.toNat->t.cf i.toNat c.toNat≠0:=λh=>by grind
 refine⟨by omega,i0,by omega,by omega,by omega,hd.1,by omega,by omega,c_ hsA (by omega),λhle=>?_,λhgt=>?_⟩
 ·have e:dj t c.toNat (i+1).toNat=dj t c.toNat i.toNat:=by rw[hs,if_pos hle]
  exact⟨by omega,⟨e.symm,hcell (keep e)⟩,tail⟩
 ·have hp:0<t.cf i.toNat c.toNat:=Rat.not_le.1 hgt;rw[if_neg hgt] at hs;have aT0:=EA hsB hsA (hnz hp);refine⟨by omega,i0,by omega,by omega,by omega,hd.1,by omega,by omega,⟨⟨c_ hsB (by omega),c_ hsA (by omega)⟩,hnz hp⟩,λh0=>?_,λh0=>?_⟩
  ·have hl:=aTZ h0;have hsl:=EA (hok.bd (i:=(dj t c.toNat i.toNat).toNat) (by omega)) (hok.cf (i:=(dj t c.toNat i.toNat).toNat) (j:=c.toNat) (by omega) (by omega)) (by have:=hlp h0;grind);have hvl:TL (l8 t c.toNat i.toNat)=t.bd (dj t c.toNat i.toNat).toNat / t.cf (dj t c.toNat i.toNat).toNat c.toNat:=by rw[hl,dH]
   simp only[hvl];refine⟨⟨c_ aT0 (by omega),by rw[hl];exact c_ hsl (by omega)⟩,λhlt=>?_,λhlt=>⟨λheq=>⟨i0,by omega,by omega,h0,by omega,by omega,λhbl=>?_,λhbl=>?_⟩,λheq=>?_⟩⟩
   ·rw[if_pos ⟨h0,.inl hlt⟩] at hs;exact⟨by omega,⟨hs.symm,hcell (keep hs)⟩,tail⟩
   ·rw[if_pos ⟨h0,.inr ⟨heq,hbl⟩⟩] at hs;exact⟨by omega,⟨hs.symm,hcell (keep hs)⟩,tail⟩
   ·rw[if_neg λh=>h.2.elim hlt λh2=>hbl h2.2] at hs;exact⟨by omega,⟨by omega,hcell (new hs)⟩,tail⟩
   ·rw[if_neg λh=>h.2.elim hlt λh2=>heq h2.1] at hs;exact⟨by omega,⟨by omega,hcell (new hs)⟩,tail⟩
  ·rw[if_neg λh=>h0 h.1] at hs;exact⟨by omega,⟨by omega,hcell (new hs)⟩,tail⟩
def dD (a:Tb) (v:Int):Rat:=if v∈a.free then a.cs (a.free.idxOf v) else 0
section
variable {n m:Nat} {t t0:Tb}
theorem dm.goal (h:dm n m t0 t) {x:Int->Rat} {z:Rat} (d:t.holds n m x z):z=t0.value+(Oq m (λk=>dD t0 (t.bv k)*x (t.bv k))+Oq n (λj=>dD t0 (t.fv j)*x (t.fv j))):=by
 have a:∀t:Tb,t.WF n m->kR (λv=>dD t0 v*x v) (t.basic++t.free)=Oq m (λk=>dD t0 (t.bv k)*x (t.bv k))+Oq n (λj=>dD t0 (t.fv j)*x (t.fv j)):=λt c=>by
  rw[w8,oZ,oZ,c.basic,c.free];rfl
 rw[<-a t h.wf,EP h.perm,a t0 h.wf0];rw[cW (n:=m) (g:=λ_=>0) λk e=>by
  unfold dD;rw[if_neg (EO h.wf0 h.nd e)];grind,gP];rw[cW (n:=n) (g:=λj=>t0.cs j*x (t0.fv j)) λj b=>by
  have i:j<t0.free.length:=by rw[h.wf0.free];exact b
  unfold dD;rw[if_pos (sK h.wf0 b),show t0.free.idxOf (t0.fv j)=j from nz (γs.1 h.nd).2.1 i]];have f:=(((h.sol _ _).1 d).2);rw[f];grind
theorem dm.val (h:dm n m t0 t):t.value=t0.value+Oq m λk=>dD t0 (t.bv k)*t.bd k:=by
 have a:=h.goal (asg_holds h.wf h.fo (y:=λ_=>0));rw[cW (n:=n) (f:=λj=>t.cs j*(λ_=>(0:Rat)) j) (g:=λ_=>0) λj _=>by grind,gP] at a;rw[cW (n:=n) (f:=λj=>dD t0 (t.fv j)*iB n t (λ_=>0) (t.fv j)) (g:=λ_=>0) λj c=>by rw[lz h.wf h.fo c];grind,gP] at a;rw[cW (n:=m) (g:=λk=>dD t0 (t.bv k)*t.bd k) λk b=>by
  rw[l_ h.wf h.fo b,cW (g:=λ_=>0) λj _=>by grind,gP];grind] at a;grind
theorem rk {n c:Nat} {q:Rat} (d:c<n):Oq n (λj=>if j=c then q else 0)=q:=by
 induction n with
 |zero=>omega;|succ n b=>
  unfold Oq;by_cases h:c=n
  ·subst h;rw[if_pos rfl,cW (g:=λ_=>0) λj a=>by grind,gP];grind
  grind
theorem E1 {f g:Nat->Rat}:∀{n:Nat},Oq n (λj=>f j - g j)=Oq n f - Oq n g
 |0=>by grind[Oq];|n+1=>by simp only[Oq,@E1 f g n];grind
theorem dm.UX (h:dm n m t0 t) {c:Nat} (b:c<n):t.cs c=dD t0 (t.fv c) - Oq m λk=>dD t0 (t.bv k)*t.cf k c:=by
 have a:=h.goal (asg_holds h.wf h.fo (y:=λj=>if j=c then 1 else 0));rw[cW (n:=n) (f:=λj=>t.cs j*(if j=c then(1:Rat) else 0)) (g:=λj=>if j=c then t.cs c else 0) λj _=>by
  grind,rk b] at a;rw[cW (n:=n) (f:=λj=>dD t0 (t.fv j)*iB n t (λj=>if j=c then 1 else 0) (t.fv j)) (g:=λj=>if j=c then dD t0 (t.fv c) else 0) λj e=>by
  rw[lz h.wf h.fo e];grind,rk b] at a;rw[cW (n:=m) (g:=λk=>dD t0 (t.bv k)*t.bd k - dD t0 (t.bv k)*t.cf k c) λk d=>by
  rw[l_ h.wf h.fo d,cW (g:=λj=>if j=c then t.cf k c else 0) λj _=>by
   grind,rk b];grind,E1,h.val] at a;grind
end
theorem E0 {M K:Nat} {p q:Rat} (e:dY M p) (f:dY K q):dY (M*K) (p*q):=by
 obtain⟨a,rfl,d⟩:=e;obtain⟨b,rfl,c⟩:=f;exact⟨a*b,by simp_all,by rw[εr];exact ζk d c⟩
theorem Lm {M K:Nat} {p q:Rat} (d:dY M p) (c:dY K q):dY (M+K) (p+q):=by
 obtain⟨a,rfl,f⟩:=d;obtain⟨b,rfl,e⟩:=c;exact⟨a+b,by simp_all,by omega⟩
theorem UW {M:Nat} {p:Rat} (b:dY M p):dY M (-p):=by
 obtain⟨a,rfl,c⟩:=b;exact⟨-a,by simp_all,by omega⟩
theorem Ll {M:Nat}:dY M 0:=⟨0,rfl,by simp⟩
theorem dY.le {M K:Nat} {p:Rat} (b:dY M p) (h:M<=K):dY K p:=by
 obtain⟨a,rfl,c⟩:=b;exact⟨a,rfl,by omega⟩
theorem DE {M:Nat} {f:Nat->Rat}:∀{n:Nat},(∀k,k<n->dY M (f k))->dY (n*M) (Oq n f)
 |0,_=>by grind[Oq,Ll];|n+1,h=>by
  have a:=Lm (@DE M f n λk b=>h k (by omega)) (h n (by omega));grind[Oq]
theorem DD {f:Nat->Rat} {d:Rat}:∀{n:Nat},Oq n f*d=Oq n λk=>f k*d
 |0=>by grind[Oq];|n+1=>by
  have:=@DD f d n;grind[Oq]
theorem UV {X k:Nat} {q D:Rat} (f:dY X (q*D)) (c:dY X D) (g:D≠0) (o:X<4294967296^k):Sz k q:=by
 obtain⟨a,p,l⟩:=f;obtain⟨d,rfl,m⟩:=c;have b:d≠0:=λh=>g (by subst h;rfl);have n:((4294967296^k:Nat):Int)=(4294967296:Int)^k:=by
  simp_all
 have i:(X:Int)<4294967296^k:=by
  omega
 have e:q=mkRat (a*d.sign) d.natAbs:=by
  have f:mkRat (a*d.sign) d.natAbs=((a*d.sign:Int):Rat) / ((d.natAbs:Int):Rat):=by
   rw[δE];rfl
  have c:((d.natAbs:Int):Rat)=(d:Rat)*(d.sign:Rat):=by
   rw[<-Rat.intCast_mul];simp_all
  have j:(d.sign:Rat)*(d.sign:Rat)=1:=by
   rw[<-Rat.intCast_mul];rcases Int.lt_or_lt_of_ne b with h|h;·rw[Int.sign_eq_neg_one_of_neg h];rfl
   grind
  grind
 rw[e];refine wV (by omega) ?_ (by omega);grind
structure Small (n m M G:Nat) (t0:Tb):Prop where
 wf:t0.WF n m
 nd:(t0.basic++t0.free).Nodup
 cf:∀i j,i<m->j<n->dY M (t0.cf i j)
 bd:∀i,i<m->dY M (t0.bd i)
 cs:∀j,j<n->dY G (t0.cs j)
 v:t0.value=0
 M1:1<=M
 G1:M<=G
 X:(m+2)*(G*ma M m)<4294967296^1000
theorem UU {a b c:Nat} (h:1<=a) (d:1<=b):c<=a*(b*c):=by
 have e:1*(1*c)<=a*(b*c):=ζk h (ζk d (Nat.le_refl _));omega
theorem Small.goal {n m M G:Nat} {t0:Tb} (h:Small n m M G t0) {v:Int}:dY G (dD t0 v):=by
 unfold dD;split
 ·rename_i a;exact h.cs _ (by rw[<-h.wf.free];grind)
 ·exact Ll
theorem Small.IS {n m M G:Nat} {t0 t:Tb} (h:Small n m M G t0) (a:dm n m t0 t):(∀i,i<m->Sz 1000 (t.bd i))/\(∀j,j<n->Sz 1000 (t.cs j))/\Sz 1000 t.value/\∀i j,i<m->j<n->Sz 1000 (t.cf i j):=by
 have y:=a.Uo h.M1 h.cf;have A:=h.X;have B:1<=G:=Nat.le_trans h.M1 h.G1;have u:ma M m<=(m+2)*(G*ma M m):=UU (by omega) B;have l:∀{q:Rat},dY ((m+2)*(G*ma M m)) (q*iE m t0 t)->Sz 1000 q:=λz=>UV z (y.le u) a.dt A;have d:∀r c,r<m->c<n->dY (ma M m) (t.cf r c*iE m t0 t):=λr c o d=>a.Qh h.M1 h.cf o d;have x:∀r,r<m->dY (ma M m) (t.bd r*iE m t0 t):=λr o=>a.Qi h.M1 h.cf h.bd o;refine⟨λi w=>l ((x i w).le u),λj b=>l ?_,l ?_,λi j w b=>l ((d i j w b).le u)⟩
 ·have e:=a.UX b;have p:t.cs j*iE m t0 t=dD t0 (t.fv j)*iE m t0 t+ -(Oq m λk=>dD t0 (t.bv k)*(t.cf k j*iE m t0 t)):=by
   rw[e,cW (f:=λk=>dD t0 (t.bv k)*(t.cf k j*iE m t0 t)) (g:=λk=>(dD t0 (t.bv k)*t.cf k j)*iE m t0 t) λk _=>by grind,<-DD];grind
  rw[p];refine(Lm (E0 h.goal y) (UW (DE λk s=>E0 h.goal (d k j s b)))).le ?_;grind
 ·have p:t.value*iE m t0 t=Oq m λk=>dD t0 (t.bv k)*(t.bd k*iE m t0 t):=by
   rw[a.val,h.v,cW (f:=λk=>dD t0 (t.bv k)*(t.bd k*iE m t0 t)) (g:=λk=>(dD t0 (t.bv k)*t.bd k)*iE m t0 t) λk _=>by grind,<-DD];grind
  rw[p];refine(DE λk s=>E0 h.goal (x k s)).le ?_;grind
theorem Small.sw {n m M G:Nat} {t0 t:Tb} (h:Small n m M G t0) (b:dm n m t0 t):sw 1000000 t:=by
 obtain⟨g,r,k,o⟩:=h.IS b;have e:∀{f:Type} {l:List f} {P:f->Prop} {d:f},(∀i,i<l.length->P (bN l i d))->∀q∈l,P q:=λh q p=>by
  obtain⟨i,a,rfl⟩:=List.getElem_of_mem p;grind[b_]
 refine⟨e (d:=[]) λi a=>?_,e (d:=0) λi a=>?_,e (d:=0) λj c=>?_,k.mono (by omega)⟩
 ·rw[b.wf.VJ] at a;refine e (d:=0) λj c=>?_;rw[b.wf.row i a] at c;exact(o i j a c).mono (by omega)
 ·rw[b.wf.bound] at a;exact(g i a).mono (by omega)
 ·rw[b.wf.cost] at c;exact(r j c).mono (by omega)
theorem Lk {n m:Int} {M G:Nat} {t0 t:Tb} (h:Small n.toNat m.toNat M G t0) (a:dm n.toNat m.toNat t0 t) (c:0<=n/\n<=1000) (b:0<=m/\m<=1000):jK n m t:=⟨⟨c,b⟩,a.wf,h.sw a⟩
section
variable {n m:Nat} {t t0:Tb}
theorem Lj:∀{N:Nat} {t:Tb},dm n m t0 t->jt m t->dm n m t0 (runT n m N t)/\jt m (runT n m N t)
 |0,t,b,a=>⟨b,a⟩
 |N+1,t,b,a=>by
  unfold runT;split;·simp_all
  ·rename_i d c;have:=Ez b a c;exact Lj this.1 this.2
theorem mT:∀{N:Nat} {t:Tb},ek n m N t=true->stepT n m (runT n m N t)=none
 |0,t,h=>γQ.1 h
 |N+1,t,h=>by
  unfold ek at h;unfold runT;split;·assumption
  ·rename_i b a;rw[a] at h;exact mT h
theorem Li:∀{N K:Nat} {t:Tb},ek n m N t=true->N<=K->runT n m K t=runT n m N t
 |0,K,t,h,b=>by
  have d:=γQ.1 h;cases K<;>grind[runT];|N+1,K,t,h,b=>by
  obtain⟨K,rfl⟩:∃k,K=k+1:=⟨K - 1,by omega⟩;unfold ek at h;unfold runT;split;·rfl
  ·rename_i c a;rw[a] at h;exact Li h (by omega)
theorem Lh {f:Nat->Rat}:∀{n:Nat},(∀k,k<n->f k<=0)->Oq n f<=0
 |0,_=>by grind[Oq];|n+1,h=>by
  have a:=@Lh f n λk b=>h k (by omega);grind[Oq]
theorem Lg {a b:Rat} (d:a<=0) (c:0<=b):a*b<=0:=by
 have:=δy (a:= -a) (b:=b) (by grind) c;grind
theorem dm.IQ (h:dm n m t0 t) (d:dG t n<0) {x:Int->Rat} {z:Rat} (a:t0.holds n m x z) (b:∀j,j<n->0<=x (t.fv j)):z<=t.value:=by
 have c:=(((h.sol _ _).2 a).2);grind[r_,Lh,Lg]
theorem dm.dZ (h:dm n m t0 t) (q:jt m t) {B:Rat} (F:∀x z,t0.holds n m x z->(∀v∈t0.basic++t0.free,0<=x v)->z<=B) {c:Nat} (I:dG t n=(c:Int)) (H:dj t c m<0):False:=by
 rcases @r_ t n with⟨C,d⟩|⟨a,C,d,f,G⟩;·omega
 ·have A:a=c:=by omega
  subst A;rcases @sD t a m with⟨D,w⟩|⟨r,D,_⟩;·
   have k:∀s:Rat,0<=s->t.value+s*t.cs a<=B:=λs o=>by
    have p:=asg_holds h.wf h.fo (y:=λj=>if j=a then s else 0);have e:Oq n (λj=>t.cs j*(λj=>if j=a then s else 0) j)=s*t.cs a:=by
     rw[cW (g:=λj=>if j=a then s*t.cs a else 0) λj _=>by
      grind,rk d]
    rw[e] at p;refine F _ _ ((h.sol _ _).1 p) λv b=>?_;rw[<-h.perm.mem_iff,List.mem_append] at b;rcases b with b|b
    ·obtain⟨i,l,rfl⟩:=v8 h.wf b;rw[l_ h.wf h.fo l];have f:Oq n (λj=>t.cf i j*(if j=a then s else 0))=t.cf i a*s:=by
      rw[cW (g:=λj=>if j=a then t.cf i a*s else 0) λj _=>by
       grind,rk d]
     rw[f];have:=Lg (w i l) o;have:=q i l;grind
    ·obtain⟨j,E,rfl⟩:=sJ h.wf b;rw[lz h.wf h.fo E];grind
   have u:=k 0 (by grind);have o:0<=(B - t.value+1) / t.cs a:=K0 (by grind) f;grind[div_mul]
  ·omega
end
open Classical in
noncomputable def rj (n m:Nat) (t:Tb):Nat:=if h:∃N,ek n m N t=true then δS h else 0
noncomputable def cu (n m:Nat) (t:Tb):Tb:=runT n m (rj n m t) t
section
variable {n m:Nat} {t t0 t':Tb}
theorem zR {N:Nat} (h:ek n m N t=true):cu n m t=runT n m N t:=by
 have a:∃N,ek n m N t=true:=⟨N,h⟩;have b:ek n m (rj n m t) t=true:=by
  unfold rj;grind
 grind[cu,Li]
theorem Lf (h:stepT n m t=none):cu n m t=t:=by
 have a:ek n m 0 t=true:=by simp[ek,h]
 rw[zR a];rfl
theorem UT (a:∃N,ek n m N t=true) (h:stepT n m t=some t'):cu n m t'=cu n m t:=by
 obtain⟨N,a⟩:=a;have b:=Lq a h;rw[zR b,zR (E8 a)];grind[runT]
theorem DC (b:dm n m t0 t) (c:jt m t):dm n m t0 (cu n m t)/\jt m (cu n m t)/\stepT n m (cu n m t)=none:=by
 obtain⟨N,a⟩:=E7 b c;rw[zR a];grind[Lj,mT]
theorem LP (i:dm n m t0 t) (e:jt m t) {B:Rat} (h:∀x z,t0.holds n m x z->(∀v∈t0.basic++t0.free,0<=x v)->z<=B):dG (cu n m t) n<0:=by
 obtain⟨j,g,a⟩:=DC i e;rcases @r_ (cu n m t) n with⟨b,d⟩|⟨c,b,d,l,k⟩;·omega
 ·exfalso;unfold stepT at a;rw[if_neg (by omega),show(dG (cu n m t) n).toNat=c by omega] at a;split at a
  ·rename_i f;exact j.dZ g h b f
  ·cases a
end
def Ao (f:List Int) (d:Int):List Int:=(bP f.length).filter λi=>decide (bN f i.toNat 0=d)
theorem jQ {f:List Int} {d x:Int}:x∈Ao f d↔(0<=x/\x<f.length)/\bN f x.toNat 0=d:=by
 simp_all[Ao,iF]
theorem ri {f:List Int} {d:Int}:(Ao f d).Pairwise (·<·):=pD.sublist List.filter_sublist
theorem rh {f:List Int} {d:Int}:(Ao f d).length<=f.length:=by
 have:=List.length_filter_le (λi:Int=>decide (bN f i.toNat 0=d)) (bP f.length);rw[eY] at this;exact this
theorem DB {a b:Type} {g:a->b} {l:List a} {i:Nat} {d:b} {e:a} (h:i<l.length):bN (l.map g) i d=g (bN l i e):=by
 grind[b_]
theorem DA {n j:Nat} {d:Int} (h:j<n):bN (bP n) j d=j:=by
 grind[bP,o5]
def bQ (p:cj) (f:List Int):Tb where
 VJ:=(ω (p.bk.length+12)).map λr:Nat=>(Ao f 0).map λi=>((dv p r (oI p i):Int):Rat);bound:=(ω (p.bk.length+12)).map λr:Nat=>((cB p r - bZ p ((Ao f 1).map (oI p)) r:Int):Rat);cost:=(Ao f 0).map λi=>(((oI p i).value:Int):Rat);value:=0;basic:=(ω (p.bk.length+12)).map λi:Nat=>(((Ao f 0).length+i:Nat):Int);free:=bP (Ao f 0).length
def dV (p:cj) (f:List Int):Prop:=nW p=0/\f.length=p.bj.length/\fj p ((Ao f 1).map (oI p))=true
abbrev nF (f:List Int):Nat:=(Ao f 0).length
abbrev mF (p:cj):Nat:=p.bk.length+12
section
variable {p:cj} {f:List Int}
theorem ko:(bQ p f).WF (nF f) (mF p) where
 VJ:=by simp[bQ]
 row i a:=by
  grind[bQ,o5]
 bound:=by simp[bQ]
 cost:=by simp[bQ]
 basic:=by simp[bQ]
 free:=by simp[bQ,eY]
theorem vU {i j:Nat} (b:i<mF p) (a:j<nF f):(bQ p f).cf i j=((dv p i (oI p (bN (Ao f 0) j 0)):Int):Rat):=by
 grind[Tb.cf,bQ,o5,DB]
theorem uO {i:Nat} (a:i<mF p):(bQ p f).bd i=((cB p i - bZ p ((Ao f 1).map (oI p)) i:Int):Rat):=by
 grind[Tb.bd,bQ,o5]
theorem wP {j:Nat} (a:j<nF f):(bQ p f).cs j=(((oI p (bN (Ao f 0) j 0)).value:Int):Rat):=by
 grind[Tb.cs,bQ,DB]
theorem zQ {i:Nat} (a:i<mF p):(bQ p f).bv i=(((nF f)+i:Nat):Int):=by
 grind[Tb.bv,bQ,o5]
theorem sC {j:Nat} (a:j<nF f):(bQ p f).fv j=j:=by
 grind[Tb.fv,bQ,DA]
theorem oX:((bQ p f).basic++(bQ p f).free).Nodup:=by
 rw[γs];refine⟨?_,pD.imp λh=>by omega,?_⟩
 ·simp only[bQ];refine List.Pairwise.map _ (λa b h=>?_) List.nodup_range;omega
 grind[bQ,iF]
theorem uN (h:dV p f) {j:Nat} (a:j<nF f):(0<=bN (Ao f 0) j 0/\bN (Ao f 0) j 0<p.bj.length)/\bN f (bN (Ao f 0) j 0).toNat 0=0:=by
 have:=jQ.1 (cE (d:=0) a);rw[h.2.1] at this;exact this
theorem jP (a:nW p=0) {i:Int} (h:0<=i/\i<p.bj.length):0<=(oI p i).OA/\(oI p i).OA<p.bk.length/\(oI p i).bx.ok=true/\1<=(oI p i).value/\(oI p i).value<=1000000:=(cT a).2.2.2.2 _ (cE (show i.toNat<p.bj.length by omega))
theorem zP (h:dV p f) {d:Int}:∀x∈(Ao f d).map (oI p),0<=x.OA/\x.OA<p.bk.length/\x.bx.ok=true/\1<=x.value/\x.value<=1000000:=λx a=>by
 obtain⟨i,b,rfl⟩:=List.mem_map.1 a;have:=(jQ.1 b).1;rw[h.2.1] at this;exact jP h.1 this
theorem Dz {z:Int} {M:Nat} (h:z.natAbs<=M):dY M (z:Rat):=⟨z,rfl,h⟩
theorem LO (h:dV p f) {i:Nat} (b:i<mF p):0<=cB p i - bZ p ((Ao f 1).map (oI p)) i/\cB p i - bZ p ((Ao f 1).map (oI p)) i<=4:=by
 have c:i<p.bk.length+12:=b;have d:=m_.1 h.2.2 i (by grind[cr]);have g:=@yc p h.1 i;have e:=@qt p i ((Ao f 1).map (oI p)) λx a=>(zP h x a).2.2.1;omega
theorem US:∀m:Nat,m<=20->(m+2)*(1000000*ma 4 m)<4294967296^1000:=by
 have h:((ω 21).all λm=>Nat.blt ((m+2)*(1000000*ma 4 m)) (4294967296^1000))=true:=by decide+kernel
 intro m a;have:=List.all_eq_true.1 h m (List.mem_range.2 (by omega));rw[Nat.blt_eq] at this;exact this
theorem zO (h:dV p f):Small (nF f) (mF p) 4 1000000 (bQ p f) where
 wf:=ko;nd:=oX;cf i j b a:=by
  rw[vU b a];have:=(jP h.1 (uN h a).1).2.2.1;grind[nL,Dz]
 bd i b:=by
  rw[uO b];have:=LO h b;exact Dz (by omega)
 cs j a:=by
  rw[wP a];have:=jP h.1 (uN h a).1;grind[Dz]
 v:=rfl;M1:=by omega
 G1:=by omega
 X:=US _ (by have:=(cT h.1).1;grind)
theorem zM {z:Int} (h:0<=z):(0:Rat)<=(z:Rat):=by exact_mod_cast h
theorem Dy (h:dV p f):jt (mF p) (bQ p f):=λi a=>by
 rw[uO a];exact zM (LO h a).1
theorem LN {g:Nat->Rat}:∀{n:Nat},(∀k,k<n->0<=g k)->0<=Oq n g
 |0,_=>by grind[Oq];|n+1,h=>by
  have a:=@LN g n λk b=>h k (by omega);grind[Oq]
theorem LM {g k:Nat->Rat}:∀{n:Nat},(∀i,i<n->g i<=k i)->Oq n g<=Oq n k
 |0,_=>by grind[Oq];|n+1,h=>by
  have a:=@LM g k n λk b=>h k (by omega);grind[Oq]
theorem UR {g:Nat->Rat} {n j:Nat} (h:∀k,k<n->0<=g k) (a:j<n):g j<=Oq n g:=by
 rw[zk a];grind[LN]
theorem LL (h:dV p f) {x:Int->Rat} {z:Rat} (d:(bQ p f).holds (nF f) (mF p) x z) (e:∀v∈(bQ p f).basic++(bQ p f).free,0<=x v) {j:Nat} (b:j<nF f):x ((bQ p f).fv j)<=1:=by
 obtain⟨l,_⟩:=uN h b;have r:=jP h.1 l;have a:(oI p (bN (Ao f 0) j 0)).OA.toNat<mF p:=by grind
 have s:=d.1 _ a;have n:=e _ (List.mem_append_left _ (wX ko a));have i:(bQ p f).cf (oI p (bN (Ao f 0) j 0)).OA.toNat j=1:=by
  rw[vU a b];unfold dv;rw[if_pos (by omega),if_pos (by omega)];rfl
 have m:=@UR (λk=>(bQ p f).cf (oI p (bN (Ao f 0) j 0)).OA.toNat k*x ((bQ p f).fv k)) (nF f) j (λk c=>by
  refine δy ?_ (e _ (List.mem_append_right _ (sK ko c)));rw[vU a c];exact zM (nL (jP h.1 (uN h c).1).2.2.1).1) b;simp only[i] at m;have t:(bQ p f).bd (oI p (bN (Ao f 0) j 0)).OA.toNat<=1:=by
  rw[uO a];have o:cB p (oI p (bN (Ao f 0) j 0)).OA.toNat=1:=by
   unfold cB;omega
  have q:=@qt p (oI p (bN (Ao f 0) j 0)).OA.toNat ((Ao f 1).map (oI p)) λx d=>(zP h x d).2.2.1;have g:cB p (oI p (bN (Ao f 0) j 0)).OA.toNat - bZ p ((Ao f 1).map (oI p)) (oI p (bN (Ao f 0) j 0)).OA.toNat<=1:=by omega
  exact_mod_cast g
 grind
theorem LK (h:dV p f) {x:Int->Rat} {z:Rat} (c:(bQ p f).holds (nF f) (mF p) x z) (e:∀v∈(bQ p f).basic++(bQ p f).free,0<=x v):z<=Oq (nF f) (bQ p f).cs:=by
 have g:=c.2;have k:(bQ p f).value=0:=rfl;have:=@LM (λj=>(bQ p f).cs j*x ((bQ p f).fv j)) (bQ p f).cs (nF f) λj a=>by
  have i:=LL h c e a;have d:0<=(bQ p f).cs j:=by
   rw[wP a];exact zM (by have:=jP h.1 (uN h a).1;omega)
  have:=δy d (b:=1 - x ((bQ p f).fv j)) (by grind);grind
 grind
noncomputable def cG (p:cj) (f:List Int):Tb:=cu (nF f) (mF p) (bQ p f)
theorem mA (h:dV p f):dm (nF f) (mF p) (bQ p f) (cG p f)/\jt (mF p) (cG p f)/\dG (cG p f) (nF f)<0:=by
 have a:=dm.refl (n:=nF f) (m:=mF p) (t0:=bQ p f) ko oX;have:=DC a (Dy h);exact⟨this.1,this.2.1,LP a (Dy h) λx z c b=>LK h c b⟩
end
def dT (d:List NG) (j:Nat) (z:NG):List NG:=d.take j++δ (d.length - j) z
theorem uM {d:List NG} {j:Nat} {z:NG} (h:j<=d.length):(dT d j z).length=d.length:=by
 grind[dT]
theorem uL {d:List NG} {z:NG}:dT d 0 z=δ d.length z:=by simp[dT]
theorem uK {d:List NG} {z:NG}:dT d d.length z=d:=by simp[dT]
theorem uJ {d:List NG} {j:Nat} {z x:NG} (h:j<d.length) (b:x=bN d j z):(dT d j z).set j x=dT d (j+1) z:=by
 unfold dT;have a:d.length - j=(d.length - (j+1))+1:=by omega
 rw[a,List.replicate_succ,List.set_append_right _ _ (by grind),γx,show j - min j d.length=0 by omega,List.set_cons_zero,List.take_succ_eq_append_getElem h,List.append_assoc,b,b_ h];rfl
theorem uI {l:List Rat} {i:Nat} {q:Rat}:(fL l).set i (nf q)=fL (l.set i q):=by
 simp_all[fL]
theorem elim_none {l p:List Rat} {c:Nat} (h:bN l c 0=0) (d:c<l.length):ju l c p=l:=by
 refine List.ext_getElem zj λi b a=>?_;have e:=@zh c l p i a;grind[b_]
def r413:cU where
 f:=181;α:=Int;put a:=[.si .i64 a];st _:=[];dec v o:=match v,o with
  |[v],[]=>v.int .i64
  |_,_=>none;ok v o a h:=by
  split at h;·exact⟨by simp only[gL,gS h];rfl,rfl⟩
  ·cases h
 inj a b h _:=by simpa[gL,SV.g] using h
 dom n:=0<=n/\n<=1000;res n:=.ow 0 n.toNat 3;out n:=[.row sF (fL (δ n.toNat 0)) 177 false]
def UQ (n:Int):Nat->bG
 |3=> .inv Int (λj=>⟨[(3,.ow 0 n.toNat 3),(8,.si .i64 n.toNat),(9,.si .i64 j)],[.row sF (dT (fL (δ n.toNat 0)) j.toNat (false,([],[]))) 177 true]⟩)
   (λs=>iS s 9) (λj=>0<=j/\j<=n) (λj=>(n - j).toNat) λ_ _=> .look
 |_=> .look
theorem yK:dA Tryz.prog r413:=by
 refine Fl (L:=[mj]) (W:=[]) r413 (λ_=>none) UQ (by simp) (by simpa using nH) ?_;rintro(n:Int) ⟨n0,n1⟩;refine NH (let a:=(0:Int);let c:=iZ.row;let d:=γf .i64;let e:=γW 0 n.toNat 3;let h:=d (↑n.toNat:Int);let m:=(ew.i .u32).qE;let j:=(false,[],[]);let k:=fL (δ n.toNat (0:Rat));let l:=nf (κ a);a<=n/\n<=n/\n*(56:Int)<=(140737488355328:Int)/\n<=(1000000000000:Int)/\(((e.bi e/\h.bi h/\(γv .i64 0).bi (d 0)/\True)/\(c (ew.b.pair (m.pair m)) (δ n.toNat j) 177 true).bi (c sF (dT k 0 j) 177 true)/\True)/\a<=a/\a<=n)/\∀(x:Int),let o:=decide (x<(↑n.toNat:Int));let f:=dT k x.toNat j;let g:=x+(1:Int);let p:=d g;a<=x/\x<=n->(o=true->((-9223372036854775808:Int)<=a/\a<=(9223372036854775807:Int))/\n.toNat=f.length/\a<=x/\x<(↑f.length:Int)/\n.toNat=f.length/\x.toNat<f.length/\VI .i64 g/\((e.bi e/\h.bi h/\p.bi p/\True)/\(c sF (f.set x.toNat (l.1,l.2.1,l.2.2)) 177 true).bi (c sF (dT k g.toNat j) 177 true)/\True)/\(a<=g/\g<=n)/\(n - g).toNat<(n - x).toNat)/\(o=false->e.bi e/\(c sF f 177 false).bi (c sF k 177 false)/\True)) (by kernel_rfl) ?_;conv=>zeta
 try simp only[vcs]
 have hcast:∀k:Nat,((k:Nat):Int).toNat=k:=λk=>γm k;have hl:(fL (δ n.toNat 0)).length=n.toNat:=by rw[eA,γD]
 have hrow:∀{x y:List NG},x=y->(iZ.row sF x 177 true).bi (iZ.row sF y 177 true):=by rintro _ _ rfl;rfl
 refine⟨n0,by omega,by omega,by omega,⟨hrow (by rw[uL,hl]),by omega,by omega⟩,?_⟩;rintro j ⟨j0,j1⟩;have hru:=@uM (fL (δ n.toNat 0)) j.toNat (false,([],[])) (by omega);refine⟨λhj=>?_,λhj=>?_⟩
 ·have hE:bN (fL (δ n.toNat 0)) j.toNat (false,([],[]))=nf 0:=by
   rw[iD (by rw[γD];omega),b_ (by rw[γD];omega),List.getElem_replicate]
  have h0:(κ 0:Rat)=0:=rfl;simp only[h0,iX];exact⟨by omega,by omega,j0,by omega,by omega,by omega,by omega,hrow (by rw[uJ (by omega) hE.symm,show(j+1).toNat=j.toNat+1 by omega]),by omega,by omega⟩
 ·rw[show j.toNat=(fL (δ n.toNat 0)).length by omega,uK];rfl
def r417:M9:=⟨185,List NG×NG×Int×List NG×NG,.cons (cL sF) (.cons (dy sF) (.cons (dX .i64) (.cons (cL sF) (.one (dy sF))))),
 λa=>∃l b p c,(a.1=fL l/\a.2.1=nf b/\a.2.2.2.1=fL p/\a.2.2.2.2=nf c)/\(l.length=p.length/\l.length<=1000)/\(0<=a.2.2.1/\a.2.2.1<l.length)/\(∀q∈l,Sz 10000000 q)/\(∀q∈p,Sz 10000000 q)/\Sz 10000000 b/\Sz 10000000 c,
 λa=> .Gz [.row sF (fL (ju (vL a.1) a.2.2.1.toNat (vL a.2.2.2.1))),nI (TL a.2.1 - bN (vL a.1) a.2.2.1.toNat 0*TL a.2.2.2.2)]⟩
def UP (l:List Rat) (b:Rat) (c:Int) (p:List Rat) (pb:Rat):Nat->bG
 |6=> .inv Int (λj=>⟨[(2,.si .i64 c),(3,.row sF (fL p)),(6,.ptr 0 0 3),(9,.ptr 1 0 3),(11,.ptr 2 0 3),(12,.ptr 3 0 3),(13,.ow 4 l.length 3),(28,.row sF (fL l)),(29,.si .i64 l.length),(30,.si .i64 j)],
   [.cells [.sb (nf b).1,.row (.i .u32) (nf b).2.1,.row (.i .u32) (nf b).2.2] 177 3 false,.cells [.sb (nf pb).1,.row (.i .u32) (nf pb).2.1,.row (.i .u32) (nf pb).2.2] 177 3 false,
    .cells [.bl false,.sc (.slice none 0 0),.sc (.slice none 0 0)] 177 3 false,.cells [.sb (nf (bN l c.toNat 0)).1,.row (.i .u32) (nf (bN l c.toNat 0)).2.1,.row (.i .u32) (nf (bN l c.toNat 0)).2.2] 177 3 false,
    .row sF (dT (fL (ju l c.toNat p)) j.toNat (false,([],[]))) 177 true]⟩)
   (λs=>iS s 30) (λj=>0<=j/\j<=l.length) (λj=>(l.length - j).toNat) λ_ _=> .look
 |_=> .look
theorem H9:Holds Tryz.prog r417:=by
 refine bI (L:=[qb,wR,vW,wC]) r417 (λa=>UP (vL a.1) (TL a.2.1) a.2.2.1 (vL a.2.2.2.1) (TL a.2.2.2.2)) (by simpa using⟨sA,tZ,qW,Ci⟩) ?_;rintro⟨l',b',c,p',pb'⟩ ⟨l,b,p,pb,⟨e1,e2,e3,e4⟩,⟨g1,g2⟩,⟨c0,c1⟩,hl,hp,hb,hpb⟩;simp only at e1 e2 e3 e4 c0 c1;subst e1 e2 e3 e4;refine NH (let a:=Ψ;let d:=(0:Int);let e:=γf .i64;let f:=iZ.cells;let g:=iZ.row;let h:=γy;let j:=sF.bw;let k:=γK;let m:=γJ;let n:=SV.Gz;let F:=bN (fL l) c.toNat j;let a2:=(F.1,F.2.1,F.2.2);let o:=ew.i .u32;let t:=(↑(fL l).length:Int);let L:=fL (ju (vL (fL l)) c.toNat (vL (fL p)));let v:=TL (nf b);let w:=bN (vL (fL l)) c.toNat (0:Rat);let y:=TL (nf pb);let a3:=(nf (v - w*y)).2;let a4:=n [a sF L,m [h (nf (v - w*y)).1,a o a3.1,a o a3.2]];let z:=fL (vL (fL p));let G:=a sF z;let A:=k 0 0 3;let B:=k 1 0 3;let C:=k 2 0 3;let D:=k 3 0 3;let z18:Nat:=(vL (fL l)).length;let H:=γW 4 z18 3;let I:=fL (vL (fL l));let J:=a sF I;let r:=(↑z18:Int);let K:=e r;let a5:=SV.sc (Value.slice none 0 0);let E:=f [SV.bl false,a5,a5] 177 3 false;let M:=(false,[],[]);let N:=((nf w).1,(nf w).2.1,(nf w).2.2);let O:=f [h (nf v).1,a o (nf v).2.1,a o (nf v).2.2] 177 3 false;let P:=f [h (nf y).1,a o (nf y).2.1,a o (nf y).2.2] 177 3 false;let Q:=f [h (nf w).1,a o (nf w).2.1,a o (nf w).2.2] 177 3 false;let a6:=((nf y).1,(nf y).2.1,(nf y).2.2);let a7:=((nf v).1,(nf v).2.1,(nf v).2.2);let S:=nf (TL N*TL a6);let a8:=(S.1,S.2.1,S.2.2);let U:=nf (TL a7 - TL a8);let a9:=λ(u:Bool) ↦decide (iY (TL a2)=d)=u;let V:=λ(u:ew.b.T) (u_1:(o.qE.pair o.qE).T) (u_2:Rat) ↦(f [h u,a o u_1.1,a o u_1.2] 177 3 false).bi (f [h (nf u_2).1,a o (nf u_2).2.1,a o (nf u_2).2.2] 177 3 false);d<=c/\c<t/\c.toNat<(fL l).length/\bL a2/\(a9 true->(n [a sF (fL l),m [h (nf b).1,a o (nf b).2.1,a o (nf b).2.2]]).bi a4)/\(a9 false->d<=t/\t<=t/\t*(56:Int)<=(140737488355328:Int)/\t<=(1000000000000:Int)/\((((e c).bi (e c)/\(a sF (fL p)).bi G/\A.bi A/\B.bi B/\C.bi C/\D.bi D/\(γW 4 t.toNat 3).bi H/\(a sF (fL l)).bi J/\(e t).bi K/\(γv .i64 0).bi (e 0)/\True)/\V (nf b).1 (nf b).2 v/\V (nf pb).1 (nf pb).2 y/\E.bi E/\V F.1 F.2 w/\(g (ew.b.pair (o.qE.pair o.qE)) (δ t.toNat M) 177 true).bi (g sF (dT L 0 M) 177 true)/\True)/\d<=d/\d<=r)/\∀(x:Int),let W:=bN z x.toNat j;let X:=(W.1,W.2.1,W.2.2);let Y:=nf (TL N*TL X);let Z:=(Y.1,Y.2.1,Y.2.2);let q:=dT L x.toNat M;let s:=x+(1:Int);let R:=e s;let aa:=g sF (dT L s.toNat M) 177 true;let a0:=bN I x.toNat j;let ab:=(a0.1,a0.2.1,a0.2.2);let ac:=bL Z;let ad:=bL N/\bL X;let ae:=λ(u:Rat) ↦z18=q.length/\d<=x/\x<(↑q.length:Int)/\z18=q.length/\x.toNat<q.length/\VI .i64 s/\(((e c).bi (e c)/\G.bi G/\A.bi A/\B.bi B/\C.bi C/\D.bi D/\H.bi H/\J.bi J/\K.bi K/\R.bi R/\True)/\O.bi O/\P.bi P/\E.bi E/\Q.bi Q/\(g sF (q.set x.toNat ((nf u).1,(nf u).2.1,(nf u).2.2)) 177 true).bi aa/\True)/\(d<=s/\s<=r)/\(r - s).toNat<(r - x).toNat;let af:=λ(u:Bool) ↦decide (iY (TL X)=d)=u;let ag:=λ(u:List NG) ↦let a1:=bN u x.toNat j;bL (a1.1,a1.2.1,a1.2.2);d<=x/\x<=r->(decide (x<r)=true->d<=x/\x<(↑I.length:Int)/\x.toNat<I.length/\(decide (x=c)=true->d<=x/\x<(↑z.length:Int)/\x.toNat<z.length/\ad/\ac/\ae (-TL Z))/\(decide (x=c)=false->d<=x/\x<(↑z.length:Int)/\x.toNat<z.length/\ag z/\(af true->z18=q.length/\d<=x/\x<(↑q.length:Int)/\z18=q.length/\x.toNat<q.length/\VI .i64 s/\(((e c).bi (e c)/\G.bi G/\A.bi A/\B.bi B/\C.bi C/\D.bi D/\H.bi H/\J.bi J/\K.bi K/\R.bi R/\True)/\O.bi O/\P.bi P/\E.bi E/\Q.bi Q/\(g sF (q.set x.toNat ab) 177 true).bi aa/\True)/\(d<=s/\s<=r)/\(r - s).toNat<(r - x).toNat)/\(af false->d<=x/\x<(↑z.length:Int)/\x.toNat<z.length/\ad/\(ag I/\ac)/\ae (TL ab - TL Z))))/\(decide (x<r)=false->(bL N/\bL a6)/\(bL a7/\bL a8)/\z18=q.length/\(n [a sF q,m [h U.1,a o U.2.1,a o U.2.2]]).bi a4))) (by kernel_rfl) ?_;simp only[jR,dH];try simp only[vcs]
 have hfl:=@eA l;have hfp:=@eA p;have hel:(ju l c.toNat p).length=l.length:=zj;have hfe:=@eA (ju l c.toNat p);have hA:bN (fL l) c.toNat sF.bw=nf (bN l c.toNat 0):=iD (by omega);have hzc:=hl _ (cE (d:=0) (show c.toNat<l.length by omega));have hcast:∀k:Nat,((k:Nat):Int).toNat=k:=λk=>γm k;have hag:∀{x y:Rat},x=y->(γJ [γy (nf x).1,Ψ (ew.i IntKind.u32) (nf x).2.1,Ψ (ew.i IntKind.u32) (nf x).2.2]).bi (γJ [γy (nf y).1,Ψ (ew.i IntKind.u32) (nf y).2.1,Ψ (ew.i IntKind.u32) (nf y).2.2]):=by rintro _ _ rfl;rfl
 have hrow:∀{x y:List NG},x=y->(iZ.row sF x 177 true).bi (iZ.row sF y 177 true):=by rintro _ _ rfl;rfl
 simp only[hA,iX,dH,E4,hcast];refine⟨c0,by omega,by omega,c_ hzc (by omega),λhz=>⟨by rw[elim_none hz (by omega)],hag (by rw[hz];grind)⟩,λhz=>⟨by omega,by omega,by omega,by omega,⟨⟨⟨by rw[hfl];rfl,by omega⟩,rfl,hrow (by rw[uL,hfe,hel,hfl])⟩,by omega,by omega⟩,?_⟩⟩;rintro j ⟨j0,j1⟩;have hru:=@uM (fL (ju l c.toNat p)) j.toNat (false,([],[])) (by omega);refine⟨λhj=>?_,λhj=>?_⟩
 ·have hP:bN (fL p) j.toNat sF.bw=nf (bN p j.toNat 0):=iD (by omega);have hL:bN (fL l) j.toNat sF.bw=nf (bN l j.toNat 0):=iD (by omega);have hzp:=hp _ (cE (d:=0) (show j.toNat<p.length by omega));have hzl:=hl _ (cE (d:=0) (show j.toNat<l.length by omega));have hE:bN (fL (ju l c.toNat p)) j.toNat (false,([],[]))=nf (if j.toNat=c.toNat then -(bN l c.toNat 0*bN p j.toNat 0) else bN l j.toNat 0 - bN l c.toNat 0*bN p j.toNat 0):=by
   rw[iD (by omega),zh (by omega)]
  have hm:=sd hzc hzp;have tail:(0<=j+1/\j+1<=(l.length:Int))/\((l.length:Int) - (j+1)).toNat<((l.length:Int) - j).toNat:=by omega
  have step:∀{x:NG},x=bN (fL (ju l c.toNat p)) j.toNat (false,([],[]))->(iZ.row sF ((dT (fL (ju l c.toNat p)) j.toNat (false,([],[]))).set j.toNat x) 177 true).bi (iZ.row sF (dT (fL (ju l c.toNat p)) (j+1).toNat (false,([],[]))) 177 true):=λh=>hrow (by
   rw[uJ (by omega) h,show(j+1).toNat=j.toNat+1 by omega]);simp only[hP,hL,iX,dH,E4];refine⟨j0,by omega,by omega,λhjc=>⟨j0,by omega,by omega,⟨c_ hzc (by omega),c_ hzp (by omega)⟩,c_ hm (by omega),by omega,j0,by omega,by omega,by omega,by omega,step ?_,tail⟩,λhjc=>⟨j0,by omega,by omega,c_ hzp (by omega),λhpz=>⟨by omega,j0,by omega,by omega,by omega,by omega,step ?_,tail⟩,λhpz=>⟨j0,by omega,by omega,⟨c_ hzc (by omega),c_ hzp (by omega)⟩,⟨c_ hzl (by omega),c_ hm (by omega)⟩,by omega,j0,by omega,by omega,by omega,by omega,step ?_,tail⟩⟩⟩;·rw[hE,if_pos (by omega)]
  ·rw[hE,if_neg (by omega),hpz];congr 1;grind
  ·rw[hE,if_neg (by omega)]
 ·rw[show j.toNat=(fL (ju l c.toNat p)).length by omega,uK];exact⟨⟨c_ hzc (by omega),c_ hpb (by omega)⟩,⟨c_ hb (by omega),c_ (sd hzc hpb) (by omega)⟩,by omega,rfl,rfl⟩
end Go.Vi
