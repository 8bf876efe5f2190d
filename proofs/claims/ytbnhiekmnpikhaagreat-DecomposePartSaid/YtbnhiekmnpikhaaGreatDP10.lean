/-
  Contracts: natural numbers of any size: DivMod.
  Conditions: none.
-/
import Derived.Test.YtbnhiekmnpikhaaGreatDP06
import Derived.Test.YtbnhiekmnpikhaaGreatDP07
import Derived.Test.YtbnhiekmnpikhaaGreatDP09
import Derived.Test.YtbnhiekmnpikhaaGreatDP08
set_option maxRecDepth 100000
set_option maxHeartbeats 4000000
set_option linter.all false
open And renaming intro->γj
open Classical renaming choose->δP
open Go.Vi.SV renaming row->Ψ,si->γh,ow->γZ,il->γx,agg->γM,sb->γv,ptr->γO
open Int renaming emod_nonneg->δK,emod_lt_of_pos->δn,pow_pos->δL,mul_nonneg->γt,le_of_lt->γe,mul_zero->δF,add_zero->εg,mul_pos->εy,toNat_natCast->γl,ediv_nonneg->δY,mul_neg_of_neg_of_pos->εq,natAbs_mul->εo,toNat_of_nonneg->εz
open IntCast renaming intCast->κ
open List renaming replicate->δ,drop->γ2,take->Δ,eq_nil_of_length_eq_zero->τ,take_length->ψ,length_take->γu,length->γc,range->ω,length_append->γf,map_map->γ4,map_congr_left->γY,length_map->Θ,map_cons->π,map_nil->γq,nodup_append->γr,length_replicate->γC
open List.cons renaming injEq->Γ
open Nat renaming gcd_le_right->ζ2,mul_le_mul->ζi
open Option renaming isNone_iff_eq_none->γN
open Option.some renaming injEq->γ
open Rat renaming num_eq_zero->ζG,mkRat_self->δU,mkRat_eq_div->δB,intCast_natCast->ε4,mul_nonneg->δt
namespace Go.Vi
open Go.Proofs.YtbnhiekmnpikhaaGreat.Ir
open Go.Proofs
def QD:List bM:=[rA,xR,Af,Iu,ym,Jw]
theorem hQD:∀c∈QD,Holds Tryz.prog c:=by
 simp only[QD,List.forall_mem_cons,List.not_mem_nil,false_implies,implies_true,and_true];grind[h152,h132,h154,h167,h128,h168p]
def WD:List dH:=[Jx,IG]
theorem hWD:∀c∈WD,ec Tryz.prog c:=by
 simp_all[WD,h168,h169]
def D9:bM:=⟨182,List Int×List Int,.cons (dF (.i .u32)) (.one (dF (.i .u32))),λa=>(bA a.1/\bA a.2)/\(a.1.length<=10000000000/\a.2.length<=10000000000)/\0<bk a.2,
 λa=> .bI [.row (.i .u32) (cK (bk a.1 / bk a.2)),.row (.i .u32) (cK (bk a.1 % bk a.2)),.si .i64 0]⟩
def sS (a:List Int×List Int) (s:Int):Prop:=(0<=s/\s<=31)/\bj (bJ a.2) ((bJ a.2).length - 1) 0*2^s.toNat<4294967296/\2147483648<=bj (bJ a.2) ((bJ a.2).length - 1) 0*2^s.toNat
def acW (a:List Int×List Int):Nat->cE
 |10=> .inv Int (λs=>⟨[(0,.row (.i .u32) (bJ a.1)),(1,.row (.i .u32) (bJ a.2)),(9,.si .u64 s)],[]⟩) (λs=>iS s 9)
  (λs=>(0<=s/\s<=31)/\bj (bJ a.2) ((bJ a.2).length - 1) 0*2^s.toNat<4294967296) (λs=>(32 - s).toNat) λ_ _=> .look
 |17=> .inv (Int×Int×List Int×List Int) (λx=>⟨[(4,.ow 1 x.2.2.2.length 1),(9,.si .u64 x.2.1),(10,.ow 0 x.2.2.1.length 1),(11,.row (.i .u32) (bJ (shl (bJ a.2) x.2.1.toNat))),(12,.si .i64 (bJ (shl (bJ a.2) x.2.1.toNat)).length),
   (13,.si .i64 ((bJ a.1).length - (bJ a.2).length)),(74,.si .i64 ((bJ a.1).length - (bJ a.2).length+1)),(75,.si .i64 x.1)],[.row (.i .u32) x.2.2.1 172 false,.row (.i .u32) x.2.2.2 172 true]⟩)
  (λs=>(iS s 75,iS s 9,oS (.i .u32) s 0,oS (.i .u32) s 1))
  (λx=>(0<=x.1/\x.1<=(bJ a.1).length - (bJ a.2).length+1)/\sS a x.2.1/\(bA x.2.2.1/\x.2.2.1.length=(bJ a.1).length+1)/\(bA x.2.2.2/\x.2.2.2.length=(bJ a.1).length - (bJ a.2).length+1)/\
   (∀j:Nat,(j:Int)<(bJ a.1).length - (bJ a.2).length+1 - x.1->bj x.2.2.2 j 0=0)/\
   bk x.2.2.1+bk (bJ (shl (bJ a.2) x.2.1.toNat))*bk x.2.2.2=bk (bJ a.1)*2^x.2.1.toNat/\
   bk (x.2.2.1.drop (((bJ a.1).length - (bJ a.2).length+1 - x.1:Int).toNat))<bk (bJ (shl (bJ a.2) x.2.1.toNat)))
  (λx=>((bJ a.1).length - (bJ a.2).length+1 - x.1:Int).toNat) λ_ _=> .look
 |24=> .inv (Int×Int×List Int×List Int×List Int) (λx=>⟨[(4,.ow 1 x.2.2.2.1.length 1),(5,.ow 2 x.2.2.2.2.length 1),(9,.si .u64 x.2.1),(10,.ow 0 x.2.2.1.length 1),(100,.si .i64 (bJ (shl (bJ a.2) x.2.1.toNat)).length),(101,.si .i64 x.1)],
   [.row (.i .u32) x.2.2.1 172 false,.row (.i .u32) x.2.2.2.1 172 true,.row (.i .u32) x.2.2.2.2 172 true]⟩)
  (λs=>(iS s 101,iS s 9,oS (.i .u32) s 0,oS (.i .u32) s 1,oS (.i .u32) s 2))
  (λx=>(0<=x.1/\x.1<=(bJ (shl (bJ a.2) x.2.1.toNat)).length)/\sS a x.2.1/\(bA x.2.2.1/\x.2.2.1.length=(bJ a.1).length+1)/\(bA x.2.2.2.1/\x.2.2.2.1.length=(bJ a.1).length - (bJ a.2).length+1)/\
   bk x.2.2.1+bk (bJ (shl (bJ a.2) x.2.1.toNat))*bk x.2.2.2.1=bk (bJ a.1)*2^x.2.1.toNat/\bk x.2.2.1<bk (bJ (shl (bJ a.2) x.2.1.toNat))/\
   (bA x.2.2.2.2/\x.2.2.2.2.length=(bJ (shl (bJ a.2) x.2.1.toNat)).length)/\(∀j,x.1.toNat<=j->bj x.2.2.2.2 j 0=0)/\
   2^x.2.1.toNat*bk x.2.2.2.2=bk (x.2.2.1.take x.1.toNat) - bj x.2.2.1 0 0 % 2^x.2.1.toNat+4294967296^x.1.toNat*(bj x.2.2.1 x.1.toNat 0 % 2^x.2.1.toNat))
  (λx=>((bJ (shl (bJ a.2) x.2.1.toNat)).length - x.1).toNat) λ_ _=> .look
 |_=> .look
theorem h166g:Holds Tryz.prog D9:=by
 refine con (L:=QD) (W:=gK WD) D9 acW (kZ hWD) hQD ?_;rintro⟨a,b⟩ ⟨⟨ha,hb⟩,⟨hla,hlb⟩,b0⟩;simp only at ha hb hla hlb b0;refine bO (let c:=(0:Int);let d:=(4294967296:Int);let e:=(18446744073709551616:Int);let f:=Ψ;let g:=γh .i64;let h:=cq .i64;let k:=bq.row;let l:=(1:Int);let m:=γZ;let n:=(32:Int);let o:=(140737488355328:Int);let p:=(1000000000000:Int);let q:=(2:Int);let r:=SV.bI;let s:=(31:Int);let z0:Nat:=(bJ b).length;let N:=(↑z0:Int);let av:=decide (N=c);let ag:=f (bp.i .i64) [];let t:=bp.i .u32;let ah:=g 0;let aa:=r [f t (cK (bk a / bk b)),f t (cK (bk a % bk b)),ah];let z7:Nat:=(bJ a).length;let z8:Nat:=(bJ b).length;let F:=bk (bJ a);let aw:=decide (lV F (bk (bJ b))<c);let a1:=γx .i64 0;let ax:=decide (N=l);let ab:=bj (bJ b) 0 c;let ai:=F % ab % e;let aj:=bj (bJ b) (z8 - 1) c;let a2:=N - l;let ak:=(↑(bJ a).length:Int) - N;let B:=ak+l;let O:=δ B.toNat c;let al:=(↑z7:Int) - (↑z8:Int);let am:=g al;let y:=al+l;let an:=g y;let ay:=k t O 172 true;let P:=z7+1;let Q:=z7 - z8+1;a.length<=1000000000000/\b.length<=1000000000000/\(av=true->(r [ag,ag,γx .i64 8]).same aa)/\(av=false->((bA (bJ a)/\bA (bJ b))/\z7<=1000000000000/\z8<=1000000000000)/\(aw=true->((bA (bJ a)/\bA [])/\z7<=100000000000/\0<=100000000000)/\(r [ag,f t (cK (F+bk [])),a1]).same aa)/\(aw=false->(ax=true->c<=c/\c<N/\0<z0/\(bA (bJ a)/\z7<=100000000000/\c<ab/\ab<d)/\(c<=ai/\ai<e)/\(r [f t (cK (F / ab)),f t (cK ai),a1]).same aa)/\(ax=false->((((f t (bJ a)).same (f t (bJ a))/\(f t (bJ b)).same (f t (bJ b))/\(γx .u64 0).same (γh .u64 0)/\True)/\True)/\(c<=c/\c<=s)/\aj*l<d)/\∀(x:Int),let ao:=q^x.toNat;let a3:=(x+l) % e;let az:=γh .u64 a3;let aA:=shl (bJ b) x.toNat;let R:=shl (bJ a) x.toNat;let aB:=m 0 R.length 1;let S:=bJ aA;let aC:=k t R 172 false;let aD:=λ(u:Bool) ↦decide (bj (bJ b) a2.toNat c*ao % d<(2147483648:Int))=u;(c<=x/\x<=s)/\aj*ao<d->h a2/\c<=a2/\a2<N/\a2.toNat<z0/\c<=x/\x<=n/\(aD true->(((f t (bJ a)).same (f t (bJ a))/\(f t (bJ b)).same (f t (bJ b))/\az.same az/\True)/\True)/\((c<=a3/\a3<=s)/\aj*q^a3.toNat<d)/\(n - a3).toNat<(n - x).toNat)/\(aD false->AY (bJ a,x)/\AY (bJ b,x)/\aA.length<=1000000000000/\h ak/\h B/\c<=B/\B<=B/\B*(4:Int)<=o/\B<=p/\h B/\((((m 1 B.toNat 1).same (m 1 O.length 1)/\(γh .u64 x).same (γh .u64 x)/\aB.same aB/\(f t S).same (f t S)/\(g (↑S.length:Int)).same (g (↑S.length:Int))/\(g ak).same am/\(g B).same an/\a1.same ah/\True)/\aC.same aC/\ay.same ay/\True)/\(c<=c/\c<=y)/\sS (a,b) x/\(bA R/\R.length=P)/\(bA O/\O.length=Q)/\(∀(j:Nat),(↑j:Int)<y - c->bj O j c=c)/\bk R+bk S*bk O=F*ao/\bk (γ2 (y - c).toNat R)<bk S)/\∀(x:Int×Int×List Int×List Int),let C:=x.snd.snd.fst;let T:=bJ (shl (bJ b) x.snd.fst.toNat);let U:=bk T;let w:=x.snd.snd.snd;let ac:=q^x.snd.fst.toNat;let V:=C.length;let aE:=decide (x.fst<y);let G:=al - x.fst;let z:=(↑T.length:Int);let a4:=G+z+l;let a5:=G.toNat;let a6:=a4.toNat;let H:=nC.mk C a5 (a6 - a5) V T;let K:=x.fst+l;let ap:=m 1 w.length 1;let W:=w.set a5 (H.x / U);let ad:=γh .u64 x.snd.fst;let aq:=m 0 V 1;let ae:=g z;let aF:=g K;let aG:=k t H.row 172 false;let aH:=k t W 172 true;let X:=δ z.toNat c;let aI:=k t C 172 false;let aJ:=k t w 172 true;let aK:=k t X 172 true;let aL:=bj C 0 c % ac;let aM:=bk C+U*bk w=F*ac;(c<=x.fst/\x.fst<=y)/\sS (a,b) x.snd.fst/\(bA C/\V=P)/\(bA w/\w.length=Q)/\(∀(j:Nat),(↑j:Int)<y - x.fst->bj w j c=c)/\aM/\bk (γ2 (y - x.fst).toNat C)<U->(aE=true->h G/\h (G+z)/\h a4/\h (G+z)/\h a4/\V=C.length/\c<=G/\c<=a4/\c<=a4/\a5<=a6/\a6<=a6/\a6<=V/\H.ok/\w.length=w.length/\c<=G/\G<(↑w.length:Int)/\w.length=w.length/\a5<w.length/\h K/\((ap.same (m 1 W.length 1)/\ad.same ad/\aq.same (m 0 H.row.length 1)/\(f t T).same (f t T)/\ae.same ae/\am.same am/\an.same an/\aF.same aF/\True)/\aG.same aG/\aH.same aH/\True)/\((c<=K/\K<=y)/\sS (a,b) x.snd.fst/\(bA H.row/\H.row.length=P)/\(bA W/\W.length=Q)/\(∀(j:Nat),(↑j:Int)<y - K->bj W j c=c)/\bk H.row+U*bk W=F*ac/\bk (γ2 (y - K).toNat H.row)<U)/\(y - K).toNat<(y - x.fst).toNat)/\(aE=false->c<=z/\z<=z/\z*(4:Int)<=o/\z<=p/\(((ap.same ap/\(m 2 z.toNat 1).same (m 2 X.length 1)/\ad.same ad/\aq.same aq/\ae.same ae/\a1.same ah/\True)/\aI.same aI/\aJ.same aJ/\aK.same aK/\True)/\(c<=c/\c<=z)/\sS (a,b) x.snd.fst/\(bA C/\V=P)/\(bA w/\w.length=Q)/\aM/\bk C<U/\(bA X/\X.length=T.length)/\(∀(j:Nat),0<=j->bj X j c=c)/\ac*bk X=bk [] - aL+l*aL)/\∀(x:Int×Int×List Int×List Int×List Int),let aN:=γh .u64 x.snd.fst;let v:=x.snd.snd.fst;let aO:=m 0 v.length 1;let Y:=bJ (shl (bJ b) x.snd.fst.toNat);let Z:=(↑Y.length:Int);let aP:=g Z;let E:=x.fst+l;let aQ:=g E;let A:=x.snd.snd.snd.snd;let L:=A.length;let D:=x.fst.toNat;let ar:=bj v D c;let I:=q^x.snd.fst.toNat;let a7:=A.set D (ar / I);let M:=x.snd.snd.snd.fst;let a8:=M.length;let aR:=m 1 a8 1;let aS:=k t v 172 false;let aT:=k t M 172 true;let a9:=E.toNat;let aU:=bj v 0 c % I;let aV:=bj v a9 c;let aW:=decide (x.fst<Z);let J:=v.length;let aX:=decide (c<x.snd.fst);let au:=(n - x.snd.fst) % e;let b3:=aN.same aN/\aO.same aO/\aP.same aP/\aQ.same aQ/\True;let af:=L=a7.length;let aY:=x.fst<(↑a7.length:Int);let aZ:=D<a7.length;let b0:=bk v+bk Y*bk M=F*I;let b4:=(Z - E).toNat<(Z - x.fst).toNat;let b5:=aR.same aR;let b6:=c<=E/\E<=Z;let b1:=λ(u:List Int) (u_1:Int) ↦let a0:=u.set D u_1;let b2:=k t a0 172 true;h E/\((b5/\(m 2 L 1).same (m 2 a0.length 1)/\b3)/\aS.same aS/\aT.same aT/\b2.same b2/\True)/\(b6/\sS (a,b) x.snd.fst/\(bA v/\v.length=P)/\(bA M/\a8=Q)/\b0/\bk v<bk Y/\(bA a0/\a0.length=Y.length)/\(∀(j:Nat),a9<=j->bj a0 j c=c)/\I*bk a0=bk (Δ a9 v) - aU+d^a9*(aV % I))/\b4;(c<=x.fst/\x.fst<=Z)/\sS (a,b) x.snd.fst/\(bA v/\v.length=P)/\(bA M/\a8=Q)/\b0/\bk v<bk Y/\(bA A/\L=Y.length)/\(∀(j:Nat),D<=j->bj A j c=c)/\I*bk A=bk (Δ D v) - aU+d^D*(ar % I)->(aW=true->v.length=J/\c<=x.fst/\x.fst<(↑J:Int)/\v.length=J/\D<J/\c<=x.snd.fst/\x.snd.fst<=n/\L=A.length/\c<=x.fst/\x.fst<(↑A.length:Int)/\L=A.length/\D<A.length/\(aX=true->af/\c<=x.fst/\aY/\af/\aZ/\h E/\v.length=J/\c<=E/\E<(↑J:Int)/\v.length=J/\a9<J/\c<=au/\au<=n/\af/\c<=x.fst/\aY/\af/\aZ/\b1 a7 (gX.nW .u32 (bj a7 D c) (aV*q^au.toNat % d)))/\(aX=false->b1 A (ar / I)))/\(aW=false->a8=M.length/\L=A.length/\a8<=1000000000000/\L<=1000000000000/\(r [f t (bJ M),f t (bJ A),a1]).same aa))))))) (by kernel_rfl) ?_;simp only[vcs];obtain⟨va,na⟩:=@rB a;obtain⟨vb,nb⟩:=@rB b;have da:=sL ha;have db:=sL hb;have la:=@uh a;have lb:=@uh b;have p0:=fi da;have d0:bA []:=by simp[bA]
 simp only[sS];rw[<-va,<-vb];rw[<-vb] at b0;generalize bJ a=S at*;generalize bJ b=T at*;have hm:=δK (bk S) (show bk T≠0 by omega);have hl:=δn (bk S) b0;have hT1:T.length≠0:=by
  intro h;rw[τ h] at b0;exact absurd b0 (by decide)
 refine⟨by omega,by omega,λh0=>by omega,λh0=>⟨⟨⟨da,db⟩,by omega,by omega⟩,λhlt=>⟨⟨⟨da,d0⟩,by omega,by omega⟩,?_⟩,λhge=>⟨λh1=>?_,λh1=>⟨?_,?_⟩⟩⟩⟩
 ·have hab:bk S<bk T:=by unfold lV at hlt;split at hlt<;>(try split at hlt)<;>omega
  have hdv:bk S / bk T=0:=Int.ediv_eq_zero_of_lt p0 hab;have hmv:bk S % bk T=bk S:=Int.emod_eq_of_lt p0 hab;refine⟨SE (by rw[hdv];rfl),?_⟩;rw[hmv];simp[bk]
 ·obtain⟨d,rfl⟩:∃d,T=[d]:=List.length_eq_one_iff.1 (by omega);have hd:=(jq.1 db).1;have acX:bj [d] 0 0=d:=rfl;have hv:bk [d]=d:=by simp[bk]
  rw[hv] at b0 hm hl ⊢;rw[acX];have hmm:bk S % d % 18446744073709551616=bk S % d:=by omega
  rw[hmm];repeat' refine γj ?_ ?_
  all_goals first|omega|exact da|rfl|(simp;done)
 ·have:=ek db (T.length - 1);repeat' refine γj ?_ ?_
  all_goals omega
 have Dp:bk T<=bk S:=by unfold lV at hge;split at hge<;>(try split at hge)<;>omega
 have hlen:T.length<=S.length:=by
  by_cases h:S.length<T.length
  ·have:=xQ da db nb h;omega
  ·omega
 have hTn:2<=T.length:=by omega
 clear hge h0 h1 hT1 va vb d0;rintro s ⟨⟨s0,s1⟩,hs⟩;have t1:((T.length:Int) - 1).toNat=T.length - 1:=by omega
 have hxt:=ek db (T.length - 1);have hps:(0:Int)<2^s.toNat:=δL (by decide);have hnn:0<=bj T (T.length - 1) 0*2^s.toNat:=γt hxt.1 (γe hps);have hmod:bj T (T.length - 1) 0*2^s.toNat % 4294967296=bj T (T.length - 1) 0*2^s.toNat:=by omega
 rw[t1,hmod];repeat refine γj (by omega) ?_
 refine⟨λhc=>?_,λhc=>?_⟩
 ·have htop:1<=bj T (T.length - 1) 0:=by
   by_cases h:1<=bj T (T.length - 1) 0;·exact h
   ·exfalso;have h4:=D7 db nb (by rintro rfl;simp at hTn);have h5:bk T=bk (T.take (T.length - 1))+4294967296^(T.length - 1)*bj T (T.length - 1) 0:=by
     have:=@lX T (T.length - 1);rwa [show T.length - 1+1=T.length by omega,ψ] at this
    have h6:=ot (nz db (T.length - 1));rw[γu,Nat.min_eq_left (by omega)] at h6;rw[show bj T (T.length - 1) 0=0 by omega,δF] at h5;omega
  have h31:s<=30:=by
   by_cases h:s<=30;·exact h
   ·have acZ:s.toNat=31:=by omega
    rw[acZ,show(2:Int)^31=2147483648 from rfl] at hc;omega
  have e:((s+1) % 18446744073709551616)=s+1:=by omega
  have e2:(s+1).toNat=s.toNat+1:=by omega
  rw[e,e2,Int.pow_succ,<-Int.mul_assoc];repeat' refine γj ?_ ?_
  all_goals omega
 ·obtain⟨dw,lw,vw,tw,yn⟩:=Jy db (by omega) (show s.toNat<=31 by omega) hs (by omega);obtain⟨ds,ls,vs,hst⟩:=SN da db (show s.toNat<=31 by omega) hlen (by omega) yn;have hds:∀z,AY (z,s)↔(bA z/\z.length<=100000000000):=λz=>⟨λh=>⟨h.1,h.2.1⟩,λh=>⟨h.1,h.2,s0,s1⟩⟩;have bF:(shl T s.toNat).length=T.length+1:=Ag;have bits:(0<=s/\s<=31)/\bj T (T.length - 1) 0*2^s.toNat<4294967296/\2147483648<=bj T (T.length - 1) 0*2^s.toNat:=⟨⟨s0,s1⟩,hs,by omega⟩;rw[hds,hds,bF,ls];refine⟨⟨da,by omega⟩,⟨db,by omega⟩,?_⟩;repeat refine γj (by omega) ?_
  refine⟨?_,?_⟩
  ·repeat' refine γj ?_ ?_
   all_goals first|omega|exact mh (by simp)|exact mh (by omega)|exact ds|exact AX|exact λj _=>SH|(simp;omega)|(rw[yk,δF,εg];exact vs)|(rw[vw,show((S.length:Int) - T.length+1 - 0).toNat=S.length - T.length+1 by omega];exact hst)
  clear hst vs ls ds bits hds hmod hnn hps hxt yn tw vw lw dw bF t1 hc hs s0 s1;clear s;rintro⟨i,s,U,q⟩ ⟨⟨i0,i1⟩,⟨⟨s0,s1⟩,hs,hs2⟩,⟨hU,Ea⟩,⟨hq,A2⟩,hz,he,hlt⟩;simp only at i0 i1 s0 s1 hs hs2 hU Ea hq A2 hz he hlt ⊢;obtain⟨dw,lw,vw,tw,yn⟩:=Jy db (by omega) (show s.toNat<=31 by omega) hs (by omega);generalize hw:bJ (shl T s.toNat)=w at*;have hw0:0<bk w:=by
   rw[vw];exact εy b0 (δL (by decide))
  refine⟨λlY=>?_,λnA=>?_⟩
  ·obtain⟨j,hj⟩:∃j:Nat,(S.length:Int) - T.length - i=j:=⟨((S.length:Int) - T.length - i).toNat,by omega⟩;have e1:((j:Int)+w.length+1).toNat - j=w.length+1:=by omega
   have e2:((S.length:Int) - T.length+1 - i).toNat=j+1:=by omega
   rw[e2] at hlt;obtain⟨k1,⟨k2,k3⟩,⟨k4,k5⟩,k6,k7⟩:=acN (j:=j) (m:=S.length - T.length) hU dw hq (by omega) (by omega) (by omega) (by omega) hw0 (hz j (by omega)) he hlt;have e3:((S.length:Int) - T.length+1 - (i+1)).toNat=j:=by omega
   simp only[hj,e1,e3,γl,nC.row,nC.x,nC.ok];repeat' refine γj ?_ ?_
   all_goals first|omega|exact mh (by simp)|exact mh k3.symm|exact trivial|exact hU|exact dw|exact k1|exact k2|exact k6|exact k7|exact nB hq k4 k5|(simp;omega)|(rw[lw];exact tw)|exact λp hp=>by rw[pO (by omega)];exact hz p (by omega)
  ·have e2:((S.length:Int) - T.length+1 - i).toNat=0:=by omega
   rw[e2,List.drop_zero] at hlt;repeat refine γj (by omega) ?_
   refine⟨?_,?_⟩
   ·have h1:=@lX U 0;simp only[List.take_zero,bk,Int.pow_zero,Int.one_mul];repeat' refine γj ?_ ?_
    all_goals first|omega|exact mh (by simp)|exact hU|exact hq|exact he|exact hlt|exact AX|exact λj _=>SH|(simp;done)|(rw[yk];omega)
   clear hlt hz e2 nA i0 i1 tw yn hw0 hs hs2 s0 s1 he hU Ea hq A2;clear hw dw lw vw;clear w s i U q;rintro⟨i,s,U,q,r⟩ ⟨⟨i0,i1⟩,⟨⟨s0,s1⟩,hs,hs2⟩,⟨hU,Ea⟩,⟨hq,A2⟩,he,hlt,⟨hr,hrl⟩,hz,hv⟩;simp only at i0 i1 s0 s1 hs hs2 hU Ea hq A2 he hlt hr hrl hz hv ⊢;obtain⟨dw,lw,vw,tw,yn⟩:=Jy db (by omega) (show s.toNat<=31 by omega) hs (by omega);generalize hw:bJ (shl T s.toNat)=w at*;refine⟨λlY=>?_,λnA=>?_⟩
   ·have x0:=ek hU i.toNat;have x1:=ek hU (i.toNat+1);have e1:(i+1).toNat=i.toNat+1:=by omega
    have x2:=ek hr i.toNat;have hps:(0:Int)<2^s.toNat:=δL (by decide);have y0:0<=bj U i.toNat 0 / 2^s.toNat:=δY x0.1 (γe hps);have y1:bj U i.toNat 0 / 2^s.toNat<=bj U i.toNat 0:=Int.ediv_le_self _ x0.1;have e2:((32 - s) % 18446744073709551616).toNat=32 - s.toNat:=by omega
    have e3:(r.set i.toNat (bj U i.toNat 0 / 2^s.toNat)).set i.toNat=r.set i.toNat:=by funext z;rw[List.set_set]
    simp only[e1,e2,e3,sN (show i.toNat<r.length by omega),List.length_set];repeat refine γj (by omega) ?_
    refine⟨λhs0=>?_,λhs0=>?_⟩
    ·obtain⟨d,hd1,hd2,hd3⟩:=acO (s:=s.toNat) x0.1 x0.2 x1.1 x1.2 (by omega) (by omega);obtain⟨k1,k2,k3,k4⟩:=SO hU hr (show i.toNat<r.length by omega) hz hd2 hd3 hv;rw[hd1];repeat' refine γj ?_ ?_
     all_goals first|omega|exact mh (by simp)|exact hU|exact hq|exact k1|exact k3|exact k4|exact he|exact hlt|trivial
    ·have ac0:s.toNat=0:=by omega
     obtain⟨k1,k2,k3,k4⟩:=SO (s:=s.toNat) (d:=bj U i.toNat 0 / 2^s.toNat) hU hr (show i.toNat<r.length by omega) hz ⟨y0,by omega⟩ (by rw[ac0];simp) hv;repeat' refine γj ?_ ?_
     all_goals first|omega|exact mh (by simp)|exact hU|exact hq|exact k1|exact k3|exact k4|exact he|exact hlt|trivial
   ·have hi:i.toNat=w.length:=by omega
    rw[hi] at hv;obtain⟨w1,w2⟩:=acP hU hr dw rfl hlt vw b0 he (show s.toNat<=31 by omega) (by omega) hv;rw[qy hq,qy hr,w1,w2];repeat' refine γj ?_ ?_
    all_goals first|omega|rfl|trivial
theorem JA {a b:List Int} (d:bA a) (c:bA b) (f:fS a) (h:bk a<=bk b):a.length<=b.length:=by
 by_cases e:a.length<=b.length;·exact e
 ·have:=xQ c d f (by omega);omega
def Eb:bM:=⟨171,List Int×List Int,.cons (dF (.i .u32)) (.one (dF (.i .u32))),λa=>(bA a.1/\bA a.2)/\(a.1.length<=1000000000/\a.2.length<=1000000000),
 λa=> .row (.i .u32) (cK (eA (bk a.1) (bk a.2)))⟩
def ac1 (a:List Int×List Int):Nat->cE
 |2=> .inv (List Int×List Int) (λx=>⟨[(0,.row (.i .u32) x.1),(1,.row (.i .u32) x.2)],[]⟩) (λs=>(rS (.i .u32) s 0,rS (.i .u32) s 1))
  (λx=>(bA x.1/\bA x.2)/\(fS x.1/\fS x.2)/\(x.1.length<=1000000000/\x.2.length<=1000000000)/\eA (bk x.1) (bk x.2)=eA (bk a.1) (bk a.2)) (λx=>(bk x.2).toNat) λ_ _=> .look
 |_=> .look
theorem h165g:Holds Tryz.prog Eb:=by
 refine cF (L:=[Af,D9]) Eb ac1 (by grind[h154,h166g]) ?_;rintro⟨a,b⟩ ⟨⟨l,k⟩,⟨n,m⟩⟩;simp only at l k n m;refine bO (let h:=Ψ;let c:=bp.i .u32;let f:=cK (bk a+bk []);let e:=cK (bk b+bk []);let g:=eA (bk a) (bk b);((bA a/\bA [])/\a.length<=100000000000/\0<=100000000000)/\((bA b/\bA [])/\b.length<=100000000000/\0<=100000000000)/\((((h c f).same (h c f)/\(h c e).same (h c e)/\True)/\True)/\(bA f/\bA e)/\(fS f/\fS e)/\(f.length<=1000000000/\e.length<=1000000000)/\eA (bk f) (bk e)=g)/\∀(x:List Int×List Int),let v:=decide ((0:Int)<(↑x.snd.length:Int));let d:=cK (bk x.fst % bk x.snd);(bA x.fst/\bA x.snd)/\(fS x.fst/\fS x.snd)/\(x.fst.length<=1000000000/\x.snd.length<=1000000000)/\eA (bk x.fst) (bk x.snd)=g->(v=true->((bA x.fst/\bA x.snd)/\(x.fst.length<=10000000000/\x.snd.length<=10000000000)/\(0:Int)<bk x.snd)/\(false=true->(h c x.fst).same (h c (cK g)))/\(false=false->(((h c x.snd).same (h c x.snd)/\(h c d).same (h c d)/\True)/\True)/\((bA x.snd/\bA d)/\(fS x.snd/\fS d)/\(x.snd.length<=1000000000/\d.length<=1000000000)/\eA (bk x.snd) (bk d)=g)/\(bk d).toNat<(bk x.snd).toNat))/\(v=false->(h c x.fst).same (h c (cK g)))) (by kernel_rfl) ?_;simp only[vcs];have r:bA []:=by simp[bA]
 have N:=fi l;have E:=fi k;have z:bk []=0:=rfl;rw[z,εg,εg];obtain⟨Q,y,D⟩:=gl N;obtain⟨o,w,H⟩:=gl E;have p:(cK (bk a)).length<=1000000000:=by
  rw[<-qy l];grind[uh]
 have j:(cK (bk b)).length<=1000000000:=by
  rw[<-qy k];grind[uh]
 refine⟨⟨⟨l,r⟩,by omega,by omega⟩,⟨⟨k,r⟩,by omega,by omega⟩,⟨⟨y,w⟩,⟨D,H⟩,⟨p,j⟩,by rw[Q,o]⟩,?_⟩;rintro⟨s,t⟩ ⟨⟨u,q⟩,⟨J,C⟩,⟨O,G⟩,F⟩;simp only at u q J C G O F ⊢;have T:=fi u;have U:=fi q;refine⟨λB=>?_,λB=>?_⟩
 ·have h:0<bk t:=by
   grind[val_zero]
  have K:=δK (bk s) (show bk t≠0 by omega);have A:=δn (bk s) h;obtain⟨I,M,S⟩:=gl K;have P:=JA M q S (by rw[I];omega);grind[acE]
 ·have R:t=[]:=τ (by omega);grind[acF,Ae]
def pS (q:Rat):SV:=.agg (encS sF (bu q))
def cC (x:bL):Prop:=∃q k,x=bu q/\Sz k q/\k<=100000000
def fW (s:Bool) (n d:Int):Rat:=mkRat (if s then -n else n) d.toNat
def Ec:bM:=⟨137,Int,.one (eZ .i64),λn=> -9223372036854775808<=(show Int from n)/\(show Int from n)<=9223372036854775807,λn=> .row (.i .u32) (cK ((show Int from n).natAbs:Int))⟩
theorem h127:Holds Tryz.prog Ec:=by
 refine cF (L:=[ym]) Ec lk (by grind[h128]) ?_;intro(n:Int) h;obtain⟨e,f⟩: -9223372036854775808<=n/\n<=9223372036854775807:=h;refine bO (let e:=(18446744073709551616:Int);let f:=(1:Int);let g:=(0:Int);let h:=Ψ;let d:=decide (n<g);let a:=(-(n+f)+f) % e;let b:=bp.i .u32;let c:=h b (cK (↑n.natAbs:Int));(d=true->cq .i64 (n+f)/\cq .i64 (-(n+f))/\cq .u64 (-(n+f))/\(g<=a/\a<e)/\(h b (cK a)).same c)/\(d=false->cq .u64 n/\(g<=n/\n<e)/\(h b (cK n)).same c)) (by kernel_rfl) ?_;simp only[vcs];grind[u64_in]
def A4:bM:=⟨167,Bool×(List Int×List Int),.cons PI (.cons (dF (.i .u32)) (.one (dF (.i .u32)))),λa=>(bA a.2.1/\bA a.2.2)/\(a.2.1.length<=1000000000/\a.2.2.length<=1000000000)/\0<bk a.2.2,
 λa=> .bI [pS (fW a.1 (bk a.2.1) (bk a.2.2)),.si .i64 0]⟩
theorem h151:Holds Tryz.prog A4:=by
 refine cF (L:=[Eb,D9]) A4 lk (by grind[h165g,h166g]) ?_;rintro⟨s,n,d⟩ ⟨⟨c,f⟩,⟨t,p⟩,j⟩;simp only at c f t p j;refine bO (let b:=SV.bl false;let c:=γx .i64;let e:=Ψ;let f:=(0:Int);let g:=γM;let h:=SV.bI;let k:=e (bp.i .i64) [];let w:=bu (fW s (bk n) (bk d));let l:=bp.i .u32;let y:=h [g [γv w.fst,e l w.snd.fst,e l w.snd.snd],γh .i64 0];let a:=cK (eA (bk n) (bk d));let C:=cK (bk n / bk a);let B:=decide ((↑d.length:Int)=f);let F:=false=true->(h [g [b,k,k],c 8]).same y;let E:=λ(u:Bool) (v:SV) ↦s=u->(h [g [v,e l C,e l (cK (bk d / bk a))],c 0]).same y;(B=true->(h [g [b,k,k],c 8]).same y)/\(B=false->((bA n/\bA d)/\n.length<=1000000000/\d.length<=1000000000)/\((bA n/\bA a)/\(n.length<=10000000000/\a.length<=10000000000)/\f<bk a)/\((bA d/\bA a)/\(d.length<=10000000000/\a.length<=10000000000)/\f<bk a)/\F/\(false=false->F/\(false=false->E true (γv (decide (f<(↑C.length:Int))))/\E false (b))))) (by kernel_rfl) ?_;simp only[vcs];have D:=fi c;have b:0<eA (bk n) (bk d):=by
  simp_all[eA]
 have K:eA (bk n) (bk d)<=bk d:=by
  unfold eA;have:=ζ2 (bk n).toNat (show 0<(bk d).toNat by omega);omega
 have o:eA (bk n) (bk d)∣bk n:=by
  unfold eA;have:=Nat.gcd_dvd_left (bk n).toNat (bk d).toNat;have S:=Int.natCast_dvd_natCast.2 this;grind
 obtain⟨R,q,Q⟩:=gl (γe b);have I:=JA q (sL f) Q (by grind[rB]);have P:=@uh d;have A:0<=bk n / eA (bk n) (bk d):=δY D (γe b);obtain⟨N,H,M⟩:=gl A;have G:(0<((cK (bk n / eA (bk n) (bk d))).length:Int))↔0<bk n:=by
  obtain⟨m,e⟩:=o;have r:bk n / eA (bk n) (bk d)=m:=by
   conv=>lhs;arg 1;rw[e]
   rw[Int.mul_ediv_cancel_left _ (by omega)]
  rw[r] at N H M ⊢;have z:0<bk n↔0<m:=by
   generalize eA (bk n) (bk d)=g at*;rw[e];constructor;·grind
   ·intro h;exact εy b h
  rw[z];constructor
  ·intro h;by_cases e:m=0;·rw[e] at h;exact absurd h (by decide)
   ·omega
  ·intro h;by_cases T:(cK m).length=0<;>grind[cK,bk]
 have O:d.length≠0:=by
  intro h;rw[τ h] at j;exact absurd j (by decide)
 unfold fW;rw[SR D j,R];simp only;refine⟨λh=>absurd h (by omega),λ_=>⟨⟨⟨c,f⟩,by omega,by omega⟩,⟨⟨c,q⟩,by omega,b⟩,⟨⟨f,q⟩,by omega,b⟩,?_⟩⟩;have J:decide (0<((cK (bk n / eA (bk n) (bk d))).length:Int))=decide (0<bk n):=by
  simp_all
 refine⟨λh=>absurd h (by decide),λ_=>⟨λh=>absurd h (by decide),λ_=>⟨λx=>?_,λx=>?_⟩⟩⟩
 ·rw[x,J];rfl
 ·rw[x];rfl
def yo:bM:=⟨136,Bool×(List Int×List Int),.cons PI (.cons (dF (.i .u32)) (.one (dF (.i .u32)))),λa=>(bA a.2.1/\bA a.2.2)/\(a.2.1.length<=1000000000/\a.2.2.length<=1000000000)/\0<bk a.2.2,
 λa=>pS (fW a.1 (bk a.2.1) (bk a.2.2))⟩
theorem h126:Holds Tryz.prog yo:=by
 refine cF (L:=[A4]) yo lk (by grind[h151]) ?_;rintro⟨s,n,d⟩ ⟨⟨h,g⟩,⟨a,c⟩,f⟩;simp only at h g a c f;refine bO (let b:=bu (fW s (bk n) (bk d));let e:=γM [γv b.fst,Ψ (bp.i .u32) b.snd.fst,Ψ (bp.i .u32) b.snd.snd];((bA n/\bA d)/\(n.length<=1000000000/\d.length<=1000000000)/\(0:Int)<bk d)/\e.same e) (by kernel_rfl) ?_;simp_all[vcs]
def oC:bM:=⟨101,Int,.one (eZ .i64),λn=> -9223372036854775808<=(show Int from n)/\(show Int from n)<=9223372036854775807,λn=>pS ((show Int from n):Rat)⟩
theorem h94:Holds Tryz.prog oC:=by
 refine cF (L:=[Ec,ym,yo]) oC lk (by grind[h127,h128,h126]) ?_;intro(n:Int) h;obtain⟨o,p⟩: -9223372036854775808<=n/\n<=9223372036854775807:=h;refine bO (let e:=Ψ;let g:=(1:Int);let h:=(0:Int);let c:=cK (↑n.natAbs:Int);let b:=cK g;let f:=bu (fW (decide (n<h)) (bk c) (bk b));let a:=bp.i .u32;let d:=bu (κ n);((-9223372036854775808:Int)<=n/\n<=(9223372036854775807:Int))/\(h<=g/\g<(18446744073709551616:Int))/\((bA c/\bA b)/\(c.length<=1000000000/\b.length<=1000000000)/\h<bk b)/\(γM [γv f.fst,e a f.snd.fst,e a f.snd.snd]).same (γM [γv d.fst,e a d.snd.fst,e a d.snd.snd])) (by kernel_rfl) ?_;conv=>zeta
 obtain⟨j,g,t⟩:=gl (show(0:Int)<=(n.natAbs:Int) by omega);obtain⟨l,m,s⟩:=gl (show(0:Int)<=1 by omega);have u:=mO (k:=2) (show(0:Int)<=(n.natAbs:Int) by omega) (by omega);have q:=mO (k:=1) (show(0:Int)<=1 by omega) (by decide);refine⟨⟨o,p⟩,⟨by omega,by omega⟩,⟨⟨g,m⟩,⟨by omega,by omega⟩,by omega⟩,?_⟩;have e:fW (decide (n<0)) (bk (cK (n.natAbs:Int))) (bk (cK 1))=κ n:=by
  rw[j,l];unfold fW;have r:(if decide (n<0)=true then -(n.natAbs:Int) else(n.natAbs:Int))=n:=by
   grind
  grind[Rat.mkRat_one]
 rw[e];rfl
def jL (q:Rat):Int:=if q<0 then -1 else if 0<q then 1 else 0
def sT:bM:=⟨142,bL,.one (eh sF),cC,λx=> .si .i64 (jL (bV x))⟩
theorem h99:Holds Tryz.prog sT:=by
 refine cF (L:=[]) sT lk (by simp) ?_;intro(x:bL) h;obtain⟨q,k,rfl,m,f⟩:cC x:=h;refine bO (let c:=γx .i64;let b:=decide ((↑(γc (bu q).snd.fst):Int)=(0:Int));let a:=γh .i64 (jL (bV (bu q)));(b=true->(c 0).same a)/\(b=false->((bu q).fst=true->(c (-1:Int)).same a)/\((bu q).fst=false->(c 1).same a))) (by kernel_rfl) ?_;simp only[vcs];rw[eC];have e:((bu q).2.1.length:Int)=0↔q.num=0:=by
  unfold bu;simp only;obtain⟨d,j,i⟩:=gl (show(0:Int)<=(q.num.natAbs:Int) by omega);constructor
  ·intro h;rw[τ (by omega:(cK (q.num.natAbs:Int)).length=0)] at d;grind[bk]
  ·intro h;rw[h];rfl
 have c:(bu q).1=decide (q<0):=rfl;have n:=@Rat.num_nonneg q;have l:q<0↔q.num<0:=by
  grind
 have g:0<q↔0<q.num:=by
  grind[ζG]
 rw[e,c];simp only[decide_eq_true_eq,decide_eq_false_iff_not];unfold jL;grind
def wm (x:bL):Prop:=(bA x.2.1/\bA x.2.2)/\x.2.1.length<=100000000/\x.2.2.length<=100000000
def Ed:bM:=⟨139,bL×bL,.cons (eh sF) (.one (eh sF)),λa=>wm a.1/\wm a.2,λa=> .bI [.row (.i .u32) (cK (bk a.1.2.1*bk a.2.2.2)),.row (.i .u32) (cK (bk a.2.2.1*bk a.1.2.2))]⟩
theorem h131:Holds Tryz.prog Ed:=by
 refine cF (L:=[yl]) Ed lk (by grind[h153]) ?_;rintro⟨⟨s,n,d⟩,⟨o,b,a⟩⟩ ⟨⟨⟨e,j⟩,g,f⟩,⟨⟨k,h⟩,l,m⟩⟩;simp only at e j g f k h l m;refine bO (let c:=SV.bI [Ψ (bp.i .u32) (cK (bk n*bk a)),Ψ (bp.i .u32) (cK (bk b*bk d))];((bA n/\bA a)/\n.length<=100000000000/\a.length<=100000000000)/\((bA b/\bA d)/\b.length<=100000000000/\d.length<=100000000000)/\c.same c) (by kernel_rfl) ?_;simp only[vcs];grind
theorem Ee {p q:Rat} (h:p=q):(γM [.sb (bu p).1,.row (.i .u32) (bu p).2.1,.row (.i .u32) (bu p).2.2]).same (.agg [.sb (bu q).1,.row (.i .u32) (bu q).2.1,.row (.i .u32) (bu q).2.2]):=by subst h;rfl
theorem wo (q:Rat):q.num=if decide (q<0) then -(q.num.natAbs:Int) else(q.num.natAbs:Int):=by
 have a:=@Rat.num_nonneg q;grind
theorem mj (q:Rat):(bu q).1=decide (q<0)/\(bA (bu q).2.1/\fS (bu q).2.1/\bk (bu q).2.1=(q.num.natAbs:Int))/\(bA (bu q).2.2/\fS (bu q).2.2/\bk (bu q).2.2=(q.den:Int)):=by
 obtain⟨f,e,d⟩:=gl (show(0:Int)<=(q.num.natAbs:Int) by omega);obtain⟨b,c,a⟩:=gl (show(0:Int)<=(q.den:Int) by omega);exact⟨rfl,⟨e,d,f⟩,⟨c,a,b⟩⟩
theorem pn {q:Rat} {k:Nat} (h:Sz k q):(bu q).2.1.length<=k/\(bu q).2.2.length<=k:=
 ⟨mO (by omega) h.1,mO (by omega) h.2⟩
theorem ac2 (q:Rat):fW (!decide (q<0)) (q.num.natAbs:Int) (q.den:Int)= -q:=by
 unfold fW;have h:=wo q;have e:(if(!decide (q<0))=true then -(q.num.natAbs:Int) else(q.num.natAbs:Int))= -q.num:=by
  grind
 grind[δU,Rat.neg_mkRat]
def yp:bM:=⟨145,bL,.one (eh sF),cC,λx=>pS (-(bV x))⟩
theorem h130:Holds Tryz.prog yp:=by
 refine cF (L:=[yo]) yp lk (by grind[h126]) ?_;intro(x:bL) h;obtain⟨q,k,rfl,f,g⟩:cC x:=h;refine bO (let f:=Ψ;let c:=(bu q).snd.fst;let a:=(bu q).snd.snd;let d:=bu (fW (!(bu q).fst) (bk c) (bk a));let b:=bp.i .u32;let e:=(bu (-bV (bu q))).snd;((bA c/\bA a)/\(γc c<=1000000000/\γc a<=1000000000)/\(0:Int)<bk a)/\(γM [γv d.fst,f b d.snd.fst,f b d.snd.snd]).same (γM [γv (bu (-bV (bu q))).fst,f b e.fst,f b e.snd])) (by kernel_rfl) ?_;conv=>zeta
 obtain⟨s,⟨r,p,u⟩,⟨o,l,n⟩⟩:=mj q;obtain⟨j,m⟩:=pn f;have t:=q.den_pos;grind[Ee,eC,ac2]
theorem qI {a b:Int} {i j:Nat} (e:0<=a) (c:a<4294967296^i) (d:b<4294967296^j):a*b<4294967296^(i+j):=by
 rw[Int.pow_add];exact Int.lt_of_le_of_lt (Int.mul_le_mul_of_nonneg_left (γe d) e) (Int.mul_lt_mul_of_pos_right c (pow_pos _))
theorem SZ {p q:Rat} {i j:Nat} (c:Sz i p) (b:Sz j q):∃X Y D:Int,bk (bu p).2.1*bk (bu q).2.2=X/\bk (bu q).2.1*bk (bu p).2.2=Y/\bk (bu p).2.2*bk (bu q).2.2=D/\0<=X/\0<=Y/\0<D/\
  (cK X).length<=i+j/\(cK Y).length<=i+j/\(cK (X+Y)).length<=i+j+1/\(cK (X - Y)).length<=i+j/\(cK (Y - X)).length<=i+j/\(cK D).length<=i+j/\p.num*q.den=(if decide (p<0) then -X else X)/\q.num*p.den=(if decide (q<0) then -Y else Y)/\((p.den*q.den:Nat):Int)=D:=by
 obtain⟨_,⟨_,_,l⟩,⟨_,_,r⟩⟩:=mj p;obtain⟨_,⟨_,_,n⟩,⟨_,_,m⟩⟩:=mj q;rw[l,r,n,m];have s:=p.den_pos;have t:=q.den_pos;have k:=qI (a:=(p.num.natAbs:Int)) (by omega) c.1 b.2;have d:=qI (a:=(q.num.natAbs:Int)) (by omega) b.1 c.2;rw[Nat.add_comm j i] at d;have o:=qI (a:=(p.den:Int)) (by omega) c.2 b.2;have f:0<=(p.num.natAbs:Int)*q.den:=γt (by omega) (by omega);have e:0<=(q.num.natAbs:Int)*p.den:=γt (by omega) (by omega);have g:0<(p.den:Int)*q.den:=εy (by omega) (by omega);have v:=wo p;have u:=wo q;refine⟨_,_,_,rfl,rfl,rfl,f,e,g,mO f k,mO e d,mO (by omega) ?_,?_,?_,mO (by omega) o,?_,?_,by push_cast;rfl⟩;·omega
 ·by_cases h:(p.num.natAbs:Int)*q.den - (q.num.natAbs:Int)*p.den<=0;·grind[Jt]
  ·exact mO (by omega) (by omega)
 ·by_cases h:(q.num.natAbs:Int)*p.den - (p.num.natAbs:Int)*q.den<=0;·grind[Jt]
  ·exact mO (by omega) (by omega)
 all_goals grind
theorem ac3 {p q:Rat} {s:Bool} {n D:Int} (a:((p.den*q.den:Nat):Int)=D) (h:p.num*q.den+q.num*p.den=if s then -n else n):fW s n D=p+q:=by
 rw[SS];grind[fW]
theorem Ef {p:Rat} {k:Nat} (h:Sz k p) (c:k<=100000000):wm (bu p):=by
 obtain⟨_,⟨a,_,_⟩,⟨b,_,_⟩⟩:=mj p;have:=pn h;exact⟨⟨a,b⟩,by omega,by omega⟩
def iU (p q:Rat):Int:=if p<q then -1 else if q<p then 1 else 0
def yq:bM:=⟨102,bL×bL,.cons (eh sF) (.one (eh sF)),λa=>cC a.1/\cC a.2,λa=> .si .i64 (iU (bV a.1) (bV a.2))⟩
theorem h97:Holds Tryz.prog yq:=by
 refine cF (L:=[Ed,xR]) yq lk (by grind[h131,h132]) ?_;rintro⟨x,y⟩ ⟨⟨p,i,t,w,S⟩,⟨q,j,r,o,T⟩⟩;simp only at t r;subst t r;refine bO (let a:=(bu p).fst;let g:=γh .i64 (iU (bV (bu p)) (bV (bu q)));let s:=λ(u:Bool) (c b:Rat) ↦let k:=cK (bk (bu c).snd.fst*bk (bu b).snd.snd);let l:=cK (bk (bu b).snd.fst*bk (bu c).snd.snd);a=u->((bA k/\bA l)/\k.length<=1000000000000/\l.length<=1000000000000)/\(γh .i64 (lV (bk k) (bk l))).same g;((!a==(bu q).fst)=true->(a=true->(γx .i64 (-1:Int)).same g)/\(a=false->(γx .i64 1).same g))/\((!a==(bu q).fst)=false->(wm (a,(bu p).snd.fst,(bu p).snd.snd)/\wm ((bu q).fst,(bu q).snd.fst,(bu q).snd.snd))/\s true q p/\s false p q)) (by kernel_rfl) ?_;conv=>zeta
 obtain⟨C,_,_⟩:=mj p;obtain⟨P,_,_⟩:=mj q;obtain⟨X,Y,D,E,M,hD,G,N,U,l1,l2,l3,l4,Z,V,B,A,W⟩:=SZ w o;obtain⟨J,v,c3⟩:=gl G;obtain⟨K,n,c6⟩:=gl N;simp only[eC,E,M,J,K,C,P];simp only[vcs];have hl:p<q↔p.num*q.den<q.num*p.den:=Rat.lt_iff p q;have R:q<p↔q.num*p.den<p.num*q.den:=Rat.lt_iff q p;have O:=@Rat.num_nonneg p;have H:=@Rat.num_nonneg q;have m:∀{z:Int},(z=if p.num*q.den<q.num*p.den then -1 else if q.num*p.den<p.num*q.den then 1 else 0)->z=iU p q:=λh=>by
  grind[iU]
 have Q:p<0->0<X:=λh=>by
  rw[if_pos (by simpa using h)] at B;have f:p.num<0:=by grind
  have:=εq f (show(0:Int)<q.den by grind);omega
 have F:q<0->0<Y:=λh=>by
  rw[if_pos (by simpa using h)] at A;have f:q.num<0:=by grind
  have:=εq f (show(0:Int)<p.den by grind);omega
 rw[B,A] at m;refine⟨λI=>⟨λd=>?_,λd=>?_⟩,λhe=>⟨⟨Ef w S,Ef o T⟩,λd=>⟨⟨⟨n,v⟩,by omega,by omega⟩,?_⟩,λd=>⟨⟨⟨v,n⟩,by omega,by omega⟩,?_⟩⟩⟩;·grind
 ·grind
 ·apply m;have e:q<0:=by
   grind
  simp only[decide_eq_true_eq,d,e,if_true,if_false];simp only[Int.neg_lt_neg_iff];rfl
 ·apply m;have e:¬q<0:=λe=>by grind
  simp only[decide_eq_true_eq,d,e,if_true,if_false];rfl
def wq:bM:=⟨134,bL×bL,.cons (eh sF) (.one (eh sF)),λa=>cC a.1/\cC a.2,λa=>pS (bV a.1+bV a.2)⟩
theorem h129:Holds Tryz.prog wq:=by
 refine cF (L:=[Ed,yl,Af,Ju,yo]) wq lk (by grind[h131,h153,h154,h155,h126]) ?_;rintro⟨x,y⟩ ⟨⟨p,i,J,w,S⟩,⟨q,j,E,B,hj⟩⟩;simp only at J E;subst J E;refine bO (let h:=Ψ;let j:=γM;let m:=(bu q).snd.snd;let f:=cK (bk (bu p).snd.fst*bk m);let t:=(bu p).snd.snd;let k:=cK (bk (bu q).snd.fst*bk t);let a:=cK (bk t*bk m);let g:=bp.i .u32;let z:=bu (bV (bu p)+bV (bu q));let o:=j [γv z.fst,h g z.snd.fst,h g z.snd.snd];let v:=(bu p).fst==(bu q).fst;let c:=cK (bk f+bk k);let d:=bu (fW (bu p).fst (bk c) (bk a));let I:=(bA f/\bA k)/\f.length<=100000000000/\k.length<=100000000000;let K:=λ(u r:Rat) ↦let e:=cK (bk (cK (bk (bu u).snd.fst*bk (bu r).snd.snd)) - bk (cK (bk (bu r).snd.fst*bk (bu u).snd.snd)));let b:=bu (fW (bu u).fst (bk e) (bk a));((bA e/\bA a)/\(e.length<=1000000000/\a.length<=1000000000)/\(0:Int)<bk a)/\(j [γv b.fst,h g b.snd.fst,h g b.snd.snd]).same o;let F:=λ(u:Bool) ↦decide (bk k<=bk f)=u;(wm ((bu p).fst,(bu p).snd.fst,t)/\wm ((bu q).fst,(bu q).snd.fst,m))/\((bA t/\bA m)/\γc t<=100000000000/\γc m<=100000000000)/\(v=true->I/\((bA c/\bA a)/\(c.length<=1000000000/\a.length<=1000000000)/\(0:Int)<bk a)/\(j [γv d.fst,h g d.snd.fst,h g d.snd.snd]).same o)/\(v=false->I/\(F true->K p q)/\(F false->((bA k/\bA f)/\k.length<=100000000000/\f.length<=100000000000)/\K q p))) (by kernel_rfl) ?_;conv=>zeta
 obtain⟨O,⟨u1,_,_⟩,⟨u2,_,_⟩⟩:=mj p;obtain⟨W,⟨u3,_,_⟩,⟨P,_,_⟩⟩:=mj q;obtain⟨m1,m2⟩:=pn w;obtain⟨m3,m4⟩:=pn B;obtain⟨X,Y,D,T,Q,hD,U,R,C,l1,l2,l3,l4,l5,l6,n1,n2,n3⟩:=SZ w B;obtain⟨N,H,c3⟩:=gl U;obtain⟨c4,G,c6⟩:=gl R;obtain⟨c7,V,c9⟩:=gl (γe C);obtain⟨s1,M,s3⟩:=gl (show 0<=X+Y by omega);simp only[eC,T,Q,hD,N,c4,c7,s1,O,W];simp only[vcs];have l:∀{s:Bool} {n:Int},(p.num*q.den+q.num*p.den=if s then -n else n)->(γM [.sb (bu (fW s n D)).1,.row (.i .u32) (bu (fW s n D)).2.1,.row (.i .u32) (bu (fW s n D)).2.2]).same (.agg [.sb (bu (p+q)).1,.row (.i .u32) (bu (p+q)).2.1,.row (.i .u32) (bu (p+q)).2.2]):=
  λh=>Ee (ac3 n3 h);rw[n1,n2] at l;refine⟨⟨Ef w S,Ef B hj⟩,⟨⟨u2,P⟩,by omega,by omega⟩,λZ=>⟨⟨⟨H,G⟩,by omega,by omega⟩,⟨⟨M,V⟩,⟨by omega,by omega⟩,C⟩,l ?_⟩,λZ=>⟨⟨⟨H,G⟩,by omega,by omega⟩,λA=>?_,λA=>?_⟩⟩;all_goals grind[gl]
def A5:bM:=⟨144,bL×bL,.cons (eh sF) (.one (eh sF)),λa=>cC a.1/\cC a.2,λa=>pS (bV a.1 - bV a.2)⟩
theorem h95:Holds Tryz.prog A5:=by
 refine cF (L:=[yp,wq]) A5 lk (by grind[h130,h129]) ?_;rintro⟨x,y⟩ ⟨⟨p,i,k,m,n⟩,⟨q,j,g,l,o⟩⟩;simp only at k g;subst k g;refine bO (let g:=Ψ;let b:=((bu q).fst,(bu q).snd.fst,(bu q).snd.snd);let e:=((bu p).fst,(bu p).snd.fst,(bu p).snd.snd);let h:=(bu (-bV b)).snd;let f:=((bu (-bV b)).fst,h.fst,h.snd);let d:=bu (bV e+bV f);let a:=bp.i .u32;let c:=bu (bV (bu p) - bV (bu q));cC b/\(cC e/\cC f)/\(γM [γv d.fst,g a d.snd.fst,g a d.snd.snd]).same (γM [γv c.fst,g a c.snd.fst,g a c.snd.snd])) (by kernel_rfl) ?_;grind[cC,A1,Ee,eC]
theorem JB {a:List Int} (h:bA a) (c:fS a) (b:a≠[]):0<bk a:=by
 have:=fi h;grind[val_zero]
def okF (x:bL):Bool:=decide (bu (bV x)=x)
theorem S0 {n d:Int} (h:0<d):0<eA n d:=by
 simp_all[eA]
theorem ac4 {s:Bool} {n d:List Int} (h:okF (s,(n,d))=true):fS n/\fS d/\d≠[]:=by
 have h:=of_decide_eq_true h;have b:=gl (show(0:Int)<=((bV (s,(n,d))).num.natAbs:Int) by omega);have a:=gl (show(0:Int)<=((bV (s,(n,d))).den:Int) by omega);have e:cK ((bV (s,(n,d))).num.natAbs:Int)=n:=congrArg (λx=>x.2.1) h;have c:cK ((bV (s,(n,d))).den:Int)=d:=congrArg (λx=>x.2.2) h;rw[e] at b;rw[c] at a;refine⟨b.2.2,a.2.2,λf=>?_⟩;have g:=a.1;rw[f] at g;have:=(bV (s,(n,d))).den_pos;grind[bk]
theorem okF_eq {s:Bool} {n d:List Int} (e:bA n) (m:bA d) (l:fS n) (p:fS d) (b:d≠[]):
  okF (s,(n,d))=if n=[] then !s&&decide (d=[1]) else decide (eA (bk n) (bk d)=1):=by
 have c:=JB m p b;have r:=fi e;have j:bV (s,(n,d))=mkRat (if s then -bk n else bk n) (bk d).toNat:=rfl;have o:=@SR s (bk n) (bk d) r c;have u:=@S0 (bk n) (bk d) c;unfold okF;rw[j,o];by_cases a:n=[]
 ·rw[if_pos a,a];have i:eA (bk []) (bk d)=bk d:=by unfold eA;simp[bk];omega
  have k:cK (bk d / eA (bk []) (bk d))=[1]:=by rw[i,Int.ediv_self (by omega)];rfl
  have f:cK (bk [] / eA (bk []) (bk d))=[]:=by
   have:bk []=0:=rfl;rw[this,Int.zero_ediv];rfl
  rw[k,f];have v:decide (0<bk [])=false:=rfl;grind
 ·rw[if_neg a];have q:=JB e l a;rw[decide_eq_true (show 0<bk n from q),Bool.and_true];rw[Bool.eq_iff_iff,decide_eq_true_eq,decide_eq_true_eq];constructor
  ·intro h;injection h with h1 h2;injection h2 with h2 h3;have g:=(gl (show 0<=bk d / eA (bk n) (bk d) from δY (by omega) (by omega))).1;rw[h3] at g;by_cases t:eA (bk n) (bk d)=1;·exact t
   ·have:=Int.ediv_lt_self_of_pos_of_ne_one c (by omega:eA (bk n) (bk d)≠1);omega
  grind[Ae]
theorem ac5 {l:List Int} (h:l.length=0\/bj l (l.length - 1) 0≠0):fS l:=by
 rcases h with h|h;·rw[τ h];trivial
 ·by_cases b:l.length=0;·rw[τ b];trivial
  ·have c:=DF (a:=l) (n:=l.length - 1) (by omega);grind[Il]
def sU (a:List Int):Bool:=decide (a.length=0)||decide (bj a (a.length - 1) 0≠0)
theorem uy {a:List Int}:sU a=true↔fS a:=by
 unfold sU;rw[Bool.or_eq_true,decide_eq_true_eq,decide_eq_true_eq];constructor;·exact ac5
 ·intro h;by_cases e:a.length=0;·exact .inl e
  ·right;have b:=DF (a:=a) (n:=a.length - 1) (by omega);rw[show a.length - 1+1=a.length by omega,ψ] at b;have:∀{l:List Int} {x:Int},fS (l++[x])->x≠0:=by
    intro l x;induction l with
    |nil=>intro h;exact h.1 rfl;|cons d l c=>intro h;exact c h.2
   grind
theorem S1 (p q:Rat):(if(!(decide (p<0)==decide (q<0)))=true then -((p.num.natAbs:Int)*(q.num.natAbs:Int)) else(p.num.natAbs:Int)*(q.num.natAbs:Int))=p.num*q.num:=by
 have a:=wo p;have b:=wo q;grind
theorem S3 (p q:Rat):fW (!(decide (p<0)==decide (q<0))) ((p.num.natAbs:Int)*(q.num.natAbs:Int)) ((p.den:Int)*(q.den:Int))=p*q:=by
 unfold fW;rw[S1,show((p.den:Int)*(q.den:Int)).toNat=p.den*q.den by omega,δB];have a:(p.num:Rat) / (p.den:Rat)=p:=by rw[<-δB,δU]
 have b:(q.num:Rat) / (q.den:Rat)=q:=by rw[<-δB,δU]
 grind
theorem S4 {p q:Rat} (a:q≠0):fW (!(decide (p<0)==decide (q<0))) ((p.num.natAbs:Int)*(q.den:Int)) ((p.den:Int)*(q.num.natAbs:Int))=p / q:=by
 unfold fW;rw[show((p.den:Int)*(q.num.natAbs:Int)).toNat=p.den*q.num.natAbs by omega,δB];have k:(p.num:Rat) / (p.den:Rat)=p:=by rw[<-δB,δU]
 have d:(q.num:Rat) / (q.den:Rat)=q:=by rw[<-δB,δU]
 have m:(p.den:Rat)≠0:=by have:=p.den_nz;simp_all
 have o:(q.den:Rat)≠0:=by grind
 have e:=wo p;have g:=wo q;have n:(q.num:Rat)≠0:=λh=>a (by grind);rw[Rat.natCast_mul];conv=>rhs;rw[<-k,<-d]
 have f:((p.num.natAbs:Int):Rat)=(p.num.natAbs:Rat):=ε4 _;have c:((q.num.natAbs:Int):Rat)=(q.num.natAbs:Rat):=ε4 _;have i:((q.den:Int):Rat)=(q.den:Rat):=ε4 _;have j:(p.num:Rat)=if decide (p<0)=true then -(p.num.natAbs:Rat) else(p.num.natAbs:Rat):=by
  rw[<-f];conv=>lhs;rw[e]
  split<;>grind
 have b:(q.num:Rat)=if decide (q<0)=true then -(q.num.natAbs:Rat) else(q.num.natAbs:Rat):=by
  rw[<-c];conv=>lhs;rw[g]
  split<;>grind
 have l:((if(!(decide (p<0)==decide (q<0)))=true then -((p.num.natAbs:Int)*(q.den:Int)) else(p.num.natAbs:Int)*(q.den:Int):Int):Rat)=if(!(decide (p<0)==decide (q<0)))=true then -((p.num.natAbs:Rat)*(q.den:Rat)) else(p.num.natAbs:Rat)*(q.den:Rat):=by
  split<;>grind
 grind
def A6:bM:=⟨178,bL×bL,.cons (eh sF) (.one (eh sF)),λa=>cC a.1/\cC a.2,λa=>pS (bV a.1*bV a.2)⟩
theorem h410:Holds Tryz.prog A6:=by
 refine cF (L:=[yl,yo]) A6 lk (by grind[h153,h126]) ?_;rintro⟨x,y⟩ ⟨⟨p,i,n,f,M⟩,⟨q,j,o,l,G⟩⟩;simp only at n o;subst n o;refine bO (let f:=Ψ;let c:=(bu p).snd.fst;let k:=(bu q).snd.fst;let g:=(bu p).snd.snd;let h:=(bu q).snd.snd;let m:=cK (bk c*bk k);let b:=cK (bk g*bk h);let d:=bu (fW (!(bu p).fst==(bu q).fst) (bk m) (bk b));let a:=bp.i .u32;let e:=bu (bV (bu p)*bV (bu q));((bA c/\bA k)/\γc c<=100000000000/\γc k<=100000000000)/\((bA g/\bA h)/\γc g<=100000000000/\γc h<=100000000000)/\((bA m/\bA b)/\(m.length<=1000000000/\b.length<=1000000000)/\(0:Int)<bk b)/\(γM [γv d.fst,f a d.snd.fst,f a d.snd.snd]).same (γM [γv e.fst,f a e.snd.fst,f a e.snd.snd])) (by kernel_rfl) ?_;conv=>zeta
 obtain⟨t,⟨P,_,s⟩,⟨E,_,v⟩⟩:=mj p;obtain⟨u,⟨J,_,z⟩,⟨I,_,A⟩⟩:=mj q;obtain⟨D,F⟩:=pn f;obtain⟨O,N⟩:=pn l;have C:=p.den_pos;have K:=q.den_pos;rw[s,v,z,A,t,u,eC,eC];have r:0<=(p.num.natAbs:Int)*(q.num.natAbs:Int):=γt (by omega) (by omega);have w:0<(p.den:Int)*(q.den:Int):=εy (by omega) (by omega);have H:=mO r (qI (by omega) f.1 l.1);have B:=mO (γe w) (qI (by omega) f.2 l.2);grind[gl,Ee,S3]
def Eg:bM:=⟨184,bL×bL,.cons (eh sF) (.one (eh sF)),λa=>(cC a.1/\cC a.2)/\bV a.2≠0,λa=> .bI [pS (bV a.1 / bV a.2),.si .i64 0]⟩
theorem h416:Holds Tryz.prog Eg:=by
 refine cF (L:=[yl,A4]) Eg lk (by grind[h153,h151]) ?_;rintro⟨x,y⟩ ⟨⟨⟨p,i,v,f,X⟩,⟨q,j,u,m,Q⟩⟩,a⟩;simp only at v u a;subst v u;refine bO (let a:=Ψ;let g:=(bu p).snd.fst;let d:=(bu q).snd.snd;let r:=(bu p).snd.snd;let e:=(bu q).snd.fst;let k:=cK (bk g*bk d);let c:=cK (bk r*bk e);let l:=bu (fW (!(bu p).fst==(bu q).fst) (bk k) (bk c));let b:=bp.i .u32;let t:=[γh .i64 0];let o:=bu (bV (bu p) / bV (bu q));((bA g/\bA d)/\γc g<=100000000000/\γc d<=100000000000)/\((bA r/\bA e)/\γc r<=100000000000/\γc e<=100000000000)/\((bA k/\bA c)/\(k.length<=1000000000/\c.length<=1000000000)/\(0:Int)<bk c)/\(SV.bI (γM [γv l.fst,a b l.snd.fst,a b l.snd.snd]::t)).same (SV.bI (γM [γv o.fst,a b o.snd.fst,a b o.snd.snd]::t))) (by kernel_rfl) ?_;conv=>zeta
 rw[eC] at a;obtain⟨E,⟨C,_,M⟩,⟨K,_,I⟩⟩:=mj p;obtain⟨B,⟨z,_,J⟩,⟨F,_,A⟩⟩:=mj q;obtain⟨V,O⟩:=pn f;obtain⟨S,W⟩:=pn m;have T:=p.den_pos;have Z:=q.den_pos;have R:q.num≠0:=λh=>a (ζG.1 h);rw[M,I,J,A,E,B,eC,eC];have s:0<=(p.num.natAbs:Int)*(q.den:Int):=γt (by omega) (by omega);have n:0<(p.den:Int)*(q.num.natAbs:Int):=εy (by omega) (by omega);have Y:=mO s (qI (by omega) f.1 m.2);have N:=mO (γe n) (qI (by omega) f.2 m.1);obtain⟨G,H,P⟩:=gl s;obtain⟨w,D,U⟩:=gl (γe n);rw[G,w,S4 a];refine⟨⟨⟨C,F⟩,?_,?_⟩,⟨⟨K,z⟩,?_,?_⟩,⟨⟨H,D⟩,⟨?_,?_⟩,n⟩,rfl⟩<;>omega
def JC:bM:=⟨169,List Int,.one (dF (.i .u32)),λa=>bA (show List Int from a)/\(show List Int from a).length<=1000000000,λa=> .sb (sU a)⟩
theorem h414:Holds Tryz.prog JC:=by
 refine cF (L:=[rA]) JC lk (by grind[h152]) ?_;rintro(a:List Int) h;refine bO (a.length<=1000000000000/\(γv (decide ((↑(bJ a).length:Int)=(↑a.length:Int)))).same (γv (sU a))) (by kernel_rfl) ?_;simp only[vcs];obtain⟨f,d⟩:bA a/\a.length<=1000000000:=h;refine⟨by omega,?_⟩;cases c:sU a with
 |true=>
  grind[qy,Ae,uy];|false=>
  refine decide_eq_false λb=>?_;have e:bJ a=a:=by
   unfold bJ at b ⊢;rw[γu] at b;exact List.take_of_length_le (by omega)
  grind[rB,uy]
def JD:bM:=⟨170,bL,.one (eh sF),λx=>x.2.1.length<=1000000000,λx=> .agg [.sb x.1,.sb (decide (x.2.1=[]))]⟩
theorem h415:Holds Tryz.prog JD:=by
 refine cF (L:=[]) JD lk (by simp) ?_;rintro⟨s,n,d⟩ h;refine bO (let a:=γv;(γM [a s,a (decide ((↑n.length:Int)=(0:Int)))]).same (γM [a s,a (decide (n=[]))])) (by kernel_rfl) ?_;have e:decide ((n.length:Int)=0)=decide (n=[]):=by
  simp_all
 rw[e];rfl
def uz:bM:=⟨141,bL,.one (eh sF),λx=>(bA x.2.1/\bA x.2.2)/\x.2.1.length<=10000000/\x.2.2.length<=10000000,λx=> .sb (okF x)⟩
theorem h407:Holds Tryz.prog uz:=by
 refine cF (L:=[JC,JD,Eb,ym,xR]) uz lk (by grind[h414,h415,h165g,h128,h132]) ?_;rintro⟨s,n,d⟩ ⟨⟨m,f⟩,j,k⟩;refine bO (let a:=SV.bl false;let b:=(0:Int);let c:=(1:Int);let l:=γv (okF (s,n,d));let w:=decide ((↑d.length:Int)=b);let x:=s==true&&(decide (n=[])==true&&true);let p:=cK (eA (bk n) (bk d));let t:=cK c;(bA n/\n.length<=1000000000)/\((!sU n)=true->(a).same l)/\((!sU n)=false->(bA d/\d.length<=1000000000)/\((!sU d)=true->(a).same l)/\((!sU d)=false->(w=true->(a).same l)/\(w=false->n.length<=1000000000/\(x=true->(a).same l)/\(x=false->((bA n/\bA d)/\n.length<=1000000000/\d.length<=1000000000)/\(b<=c/\c<(18446744073709551616:Int))/\((bA p/\bA t)/\p.length<=1000000000000/\t.length<=1000000000000)/\(γv (decide (lV (bk p) (bk t)=b))).same l))))) (by kernel_rfl) ?_;simp only[vcs];have m:bA n:=m;have f:bA d:=f;have j:n.length<=10000000:=j;have k:d.length<=10000000:=k;have c:¬(fS n/\fS d/\d≠[])->false=okF (s,n,d):=λh=>by
  grind[ac4]
 have e:∀{a:List Int},((a.length:Nat):Int)=0->a=[]:=λh=>τ (by omega);have b:∀{a:List Int},¬((a.length:Nat):Int)=0->a≠[]:=λh i=>h (by rw[i];rfl);refine⟨⟨m,by omega⟩,λu=>c λh=>?_,λu=>⟨⟨f,by omega⟩,λi=>c λh=>?_,λi=>⟨λo=>c λh=>h.2.2 (e o),λo=>⟨by omega,λC=>?_,λC=>?_⟩⟩⟩⟩;·grind[uy]
 ·grind[uy]
 all_goals
  have E:=okF_eq (s:=s) m f (uy.1 u) (uy.1 i) (b o);have D:=JB f (uy.1 i) (b o);have J:=@S0 (bk n) (bk d) D;obtain⟨H,v,A⟩:=gl (show 0<=eA (bk n) (bk d) by omega);obtain⟨B,G,I⟩:=gl (show(0:Int)<=1 by omega);have y:eA (bk n) (bk d)<=bk d:=by
   unfold eA;have:=ζ2 (bk n).toNat (show 0<(bk d).toNat by omega);omega
  rw[E]
 ·simp_all
 ·have F:=JA v f A (by omega);refine⟨⟨⟨m,f⟩,by omega,by omega⟩,by omega,⟨⟨v,G⟩,by omega,by decide⟩,?_⟩;rw[H,B];have r:(lV (eA (bk n) (bk d)) 1=0)=(eA (bk n) (bk d)=1):=by
   grind[lV]
  simp only[r];by_cases g:n=[]
  ·rw[if_pos g];have z:s=false:=by
    simp_all
   have q:eA (bk n) (bk d)=bk d:=by
    rw[g];unfold eA;simp[bk];omega
   rw[q,z,Bool.not_false,Bool.true_and,decide_eq_decide];constructor
   ·intro h;rw[<-Ae f (uy.1 i),h];rfl
   ·intro h;rw[h];rfl
  ·rw[if_neg g]
theorem uA {p q:Rat} {i j:Nat} (b:Sz i p) (a:Sz j q):Sz (i+j) (p*q):=by
 rw[<-S3];unfold fW;rw[S1];have c:=p.den_pos;have d:=q.den_pos;have e:0<(p.den:Int)*(q.den:Int):=εy (by omega) (by omega);refine AZ (by omega) ?_ ?_
 ·rw[εo,Int.natCast_mul];exact qI (by omega) b.1 a.1
 ·rw[εz (by omega)];exact qI (by omega) b.2 a.2
theorem JE {p q:Rat} {i j:Nat} (c:Sz i p) (b:Sz j q) (d:q≠0):Sz (i+j) (p / q):=by
 rw[<-S4 d];unfold fW;have e:=p.den_pos;have f:=q.den_pos;have l:q.num≠0:=λh=>d (ζG.1 h);have k:0<(p.den:Int)*(q.num.natAbs:Int):=εy (by omega) (by omega);have g:=qI (a:=(p.num.natAbs:Int)) (by omega) c.1 b.2;refine AZ (by omega) ?_ ?_;·grind
 ·rw[εz (by omega)];exact qI (by omega) c.2 b.1
theorem ac6 {p q:Rat}:0<iU p q↔q<p:=by
 grind[iU]
theorem ac7 {p q:Rat}:iU p q=0↔p=q:=by
 grind[iU]
def eD (t:Tb):Nat->Int
 |0=> -1
 |k+1=>if 0<t.cs k/\(eD t k<0\/t.fv k<t.fv (eD t k).toNat) then(k:Int) else eD t k
def dS (t:Tb) (c:Nat):Nat->Int
 |0=> -1
 |k+1=>if t.cf k c<=0 then dS t c k
  else if 0<=dS t c k/\(t.bd (dS t c k).toNat / t.cf (dS t c k).toNat c<t.bd k / t.cf k c\/(t.bd k / t.cf k c=t.bd (dS t c k).toNat / t.cf (dS t c k).toNat c/\t.bv (dS t c k).toNat<t.bv k)) then dS t c k
  else(k:Int)
section
variable {n m:Nat} {t t0:Tb} {r c:Nat}
theorem uB:∀{k:Nat},(eD t k= -1/\∀j,j<k->¬0<t.cs j)\/(∃b:Nat,eD t k=b/\b<k/\0<t.cs b/\∀j,j<k->0<t.cs j->t.fv b<=t.fv j)
 |0=> .inl ⟨rfl,λj h=>by omega⟩
 |k+1=>by
  unfold eD;rcases @uB k with⟨a,c⟩|⟨b,a,c,d,e⟩;·grind
  ·have f:(eD t k).toNat=b:=by omega
   grind
theorem wt {c:Nat}:∀{k:Nat},(dS t c k= -1/\∀j,j<k->t.cf j c<=0)\/(∃b:Nat,dS t c k=b/\b<k/\0<t.cf b c/\∀j,j<k->0<t.cf j c->t.bd b / t.cf b c<t.bd j / t.cf j c\/(t.bd b / t.cf b c=t.bd j / t.cf j c/\t.bv b<=t.bv j))
 |0=> .inl ⟨rfl,λj h=>by omega⟩
 |k+1=>by
  unfold dS;by_cases e:t.cf k c<=0
  ·rw[if_pos e];rcases @wt c k with⟨f,a⟩|⟨b,f,a,o,n⟩<;>grind
  ·rw[if_neg e];have g:0<t.cf k c:=Rat.not_le.1 e;rcases @wt c k with⟨f,a⟩|⟨b,f,a,o,n⟩;·grind
   ·have i:(dS t c k).toNat=b:=by omega
    rw[i];by_cases d:0<=dS t c k/\(t.bd b / t.cf b c<t.bd k / t.cf k c\/(t.bd k / t.cf k c=t.bd b / t.cf b c/\t.bv b<t.bv k));·grind
    ·rw[if_neg d];have l:¬t.bd b / t.cf b c<t.bd k / t.cf k c:=λh=>d ⟨by omega,.inl h⟩;have m:t.bd k / t.cf k c=t.bd b / t.cf b c->¬t.bv b<t.bv k:=λh a=>d ⟨by omega,.inr ⟨h,a⟩⟩;refine .inr ⟨k,rfl,by omega,g,λj p q=>?_⟩;grind
end
def stepT (n m:Nat) (t:Tb):Option Tb:=
 if eD t n<0 then none
 else if dS t (eD t n).toNat m<0 then none
 else some (fU t (dS t (eD t n).toNat m).toNat (eD t n).toNat)
def fj (n m:Nat):Nat->Tb->Bool
 |0,t=>(stepT n m t).isNone
 |k+1,t=>match stepT n m t with
  |none=>true
  |some a=>fj n m k a
def runT (n m:Nat):Nat->Tb->Tb
 |0,t=>t
 |k+1,t=>match stepT n m t with
  |none=>t
  |some a=>runT n m k a
def yr (n m N:Nat) (t:Tb):Nat:=((ω N).filter λk=>!fj n m k t).length
section
variable {n m:Nat} {t t0 t':Tb}
theorem S5 (h:stepT n m t=some t'):∃r c,qH n m t r c/\t'=fU t r c/\eD t n=(c:Int)/\dS t c m=(r:Int):=by
 unfold stepT at h;split at h;·cases h
 ·rename_i p;split at h;·cases h
  ·rename_i o;injection h with h;rcases @uB t n with⟨b,_⟩|⟨c,b,d,e,k⟩;·omega
   ·have f:(eD t n).toNat=c:=by omega
    rw[f] at h o;rcases @wt t c m with⟨a,_⟩|⟨r,a,i,j,l⟩;·omega
    ·have g:(dS t c m).toNat=r:=by omega
     rw[g] at h;exact⟨r,c,⟨i,d,e,k,j,l⟩,h.symm,b,a⟩
theorem JF (b:Run n m t0 t) (d:kq m t) (h:stepT n m t=some t'):Run n m t0 t'/\kq m t':=by
 obtain⟨r,c,a,rfl,_⟩:=S5 h;exact⟨b.piv a.hr a.hc (by have:=a.pos;grind),a.yi b.wf d⟩
theorem JG:∀{k:Nat} {t:Tb},fj n m k t=true->fj n m (k+1) t=true
 |0,t,h=>by
  grind[fj];|k+1,t,h=>by
  unfold fj at h ⊢;split;·rfl
  ·rename_i b a;rw[a] at h;exact JG h
theorem left_step {N:Nat} (b:fj n m N t=true) (h:stepT n m t=some t'):yr n m N t'<yr n m N t:=by
 unfold yr;have e:∀k,fj n m k t'=fj n m (k+1) t:=λk=>by grind[fj]
 have c:fj n m 0 t=false:=by simp[fj,h]
 simp only[e];cases N with
 |zero=>simp_all;|succ N=>
  have a:∀f:Nat->Bool,((ω (N+1)).filter f).length=(if f 0 then 1 else 0)+((ω N).filter λk=>f (k+1)).length:=λf=>by
   rw[List.range_succ_eq_map,List.filter_cons,List.filter_map,];grind[Function.comp_def]
  rw[a (λk=>!fj n m k t),c];rw[List.range_succ,List.filter_append,γf];simp[b]
theorem S7 {N:Nat} (a:fj n m N t=true) (h:stepT n m t=some t'):fj n m N t'=true:=by
 cases N<;>grind[fj,JG]
theorem JH (D:Run n m t0 t) (o:kq m t):∃N,fj n m N t=true:=by
 apply Classical.byContradiction;intro u;have e:∀N,fj n m N t=false:=λN=>by
  simp_all
 let T:Nat->Tb:=λk=>Nat.rec t (λ_ s=>(stepT n m s).getD s) k;have d:∀k,T (k+1)=(stepT n m (T k)).getD (T k):=λk=>rfl;have A:∀k N,fj n m N (T k)=false:=by
  intro k;induction k with
  |zero=>exact e;|succ k l=>
   intro N;rw[d];cases z:stepT n m (T k) with
   |none=>simp_all;|some q=>
    have:=l (N+1);grind[fj]
 have w:∀k,stepT n m (T k)=some (T (k+1)):=λk=>by
  rw[d];cases z:stepT n m (T k) with
  |none=>have:=A k 0;grind[fj];|some q=>rfl
 have a:∀k,Run n m t0 (T k)/\kq m (T k):=by
  intro k;induction k with
  |zero=>exact⟨D,o⟩;|succ k l=>grind[JF]
 have b:∀k,∃p:Nat×Nat,qH n m (T k) p.1 p.2/\T (k+1)=fU (T k) p.1 p.2:=λk=>by
  obtain⟨r,c,f,E,_⟩:=S5 (w k);exact⟨(r,c),f,E⟩
 let p:Nat->Nat×Nat:=λk=>δP (b k);have h:∀k,qH n m (T k) (p k).1 (p k).2/\T (k+1)=fU (T k) (p k).1 (p k).2:=λk=>Classical.choose_spec (b k);obtain⟨i,j,g,B⟩:=Jr (AS (t0.basic++t0.free) (m+n)) (λk=>(T k).basic++(T k).free) λk=>by
  have f:=@SB (t0.basic++t0.free) ((T k).basic++(T k).free) λv C=>(a k).1.perm.mem_iff.1 C;rwa [γf,(a k).1.wf.basic,(a k).1.wf.free] at f
 obtain⟨y,x⟩:=List.append_inj B (by rw[(a i).1.wf.basic,(a j).1.wf.basic]);exact acD (λk=>(a k).1) (λk=>(a k).2) (λk=>(h k).1) (λk=>(h k).2) g y x
end
def fL (l:List Rat):List bL:=l.map bu
def fM (l:List (List Rat)):List (List bL):=l.map fL
def vL (l:List bL):List Rat:=l.map bV
theorem kN (l:List Rat):vL (fL l)=l:=by
 unfold vL fL;rw[γ4];conv=>rhs;rw[<-List.map_id l]
 exact γY λq _=>eC q
theorem jM (x:bL):(x.1,x.2.1,x.2.2)=x:=rfl
theorem fE {l:List Rat}:(fL l).length=l.length:=Θ _
theorem JI {l:List (List Rat)}:(fM l).length=l.length:=Θ _
theorem jv {l:List Rat} {i:Nat} (h:i<l.length) {d:bL}:bj (fL l) i d=bu (bj l i 0):=by
 grind[cY,fL]
theorem JJ {l:List (List Rat)} {i:Nat} (h:i<l.length) {d:List bL}:bj (fM l) i d=fL (bj l i []):=by
 grind[cY,fM]
structure nJ where
 n:Int
 m:Int
 k0:Nat
 k1:Nat
 k3:Nat
 k4:Nat
 cj:List (List bL)
 bound:List bL
 cost:List bL
 v:bL
 basic:List Int
 free:List Int
def nJ.gQ (x:nJ):bZ:=
 [.cells [.si .i64 x.n,.si .i64 x.m,.ow 1 x.k0 1,.ow 2 x.k1 3,.row sF x.cost,.sb x.v.1,.row (.i .u32) x.v.2.1,.row (.i .u32) x.v.2.2,.ow 3 x.k3 1,.ow 4 x.k4 1] 261 10 false,
  .row (.bF sF) x.cj 106 false,.row sF x.bound 177 false,.row (.i .i64) x.basic 3 false,.row (.i .i64) x.free 3 false]
def Eh:bZ->Option nJ
 |[.cells [a,b,.ow 1 k0 1,.ow 2 k1 3,c,v0,v1,v2,.ow 3 k3 1,.ow 4 k4 1] 261 10 false,.row s1 l1 106 false,.row s2 l2 177 false,.row s3 l3 3 false,.row s4 l4 3 false]=>
  match a.int .i64,b.int .i64,jG sF c,jT sF [v0,v1,v2] with
  |some a,some b,some c,some v=>match iG s1 (.bF sF) l1,iG s2 sF l2,iG s3 (.i .i64) l3,iG s4 (.i .i64) l4 with
   |some l1,some l2,some l3,some l4=>some ⟨a,b,k0,k1,k3,k4,l1,l2,c,v,l3,l4⟩
   |_,_,_,_=>none
  |_,_,_,_=>none
 |_=>none
theorem ac8 {o:bZ} {x:nJ} (h:Eh o=some x):gO o=gO x.gQ:=by
 unfold Eh at h;split at h
 ·split at h
  ·rename_i p l c e;split at h
   ·rename_i n j k m;simp only[γ] at h;subst h;obtain⟨rfl,f⟩:=mG n;obtain⟨rfl,b⟩:=mG j;obtain⟨rfl,d⟩:=mG k;obtain⟨rfl,i⟩:=mG m;cases f;cases b;cases d;cases i;have a:=nU e;simp only[π,γq,dO,dx,Γ,and_true,List.nil_append,List.cons_append] at a;simp only[nJ.gQ,gO,π,γq,bq.g,gL,iN p,iN l,oZ c,SV.g];simp only[a];rfl
   ·cases h
  ·cases h
 ·cases h
theorem po {s:bp} {a b:List s.T} (h:cB s a=cB s b):a=b:=by
 by_cases d:s.sz=0;·exact absurd d (by
   have:∀s:bp,0<s.sz:=λs=>by
    induction s<;>simp only[bp.sz]<;>omega
   grind)
 ·have c:=congrArg γc h;rw[eY,eY] at c;exact lz s (Nat.eq_of_mul_eq_mul_right (by omega) c) h
theorem ac9 {x y:nJ} (h:gO x.gQ=gO y.gQ):x=y:=by
 obtain⟨n,m,B,M,G,J,c,b,g,⟨I,K,F⟩,D,C⟩:=x;obtain⟨H,L,a,p,r,l,N,E,A,⟨k,w,q⟩,j,u⟩:=y;simp only[nJ.gQ,gO,π,γq,bq.g,gL,SV.g,Γ,bR.cells.injEq,and_true,true_and,AV.sc.injEq,Value.int.injEq,Value.bool.injEq,AV.os.injEq,AV.sl.injEq] at h;obtain⟨⟨rfl,rfl,⟨rfl,_⟩,⟨rfl,_⟩,⟨_,d⟩,rfl,⟨_,v⟩,⟨_,e⟩,⟨rfl,_⟩,⟨rfl,_⟩⟩,f,t,o,z⟩:=h;rw[po (s:=sF) d,po (s:=.i .u32) v,po (s:=.i .u32) e,po (s:=.bF sF) f,po (s:=sF) t,po (s:=.i .i64) o,po (s:=.i .i64) z]
abbrev bH (n m:Int) (t:Tb):nJ:=⟨n,m,t.cj.length,t.bound.length,t.basic.length,t.free.length,fM t.cj,fL t.bound,fL t.cost,bu t.value,t.basic,t.free⟩
def nJ.t (x:nJ):Tb:=⟨x.cj.map vL,vL x.bound,vL x.cost,bV x.v,x.basic,x.free⟩
theorem sV {n m:Int} {t:Tb}:(bH n m t).t=t:=by
 have e:(fM t.cj).map vL=t.cj:=by
  unfold fM;rw[γ4];conv=>rhs;rw[<-List.map_id t.cj]
  exact γY λq _=>kN q
 simp_all[nJ.t,kN,eC]
theorem ada (x:nJ):(⟨x.n,x.m,x.k0,x.k1,x.k3,x.k4,x.cj,x.bound,x.cost,(x.v.1,x.v.2.1,x.v.2.2),x.basic,x.free⟩:nJ)=x:=rfl
theorem S8 {n m:Int} {t:Tb}:(bH n m t).n=n:=rfl
theorem S9 {n m:Int} {t:Tb}:(bH n m t).m=m:=rfl
def wu (k:Nat) (t:Tb):Prop:=(∀l∈t.cj,∀q∈l,Sz k q)/\(∀q∈t.bound,Sz k q)/\(∀q∈t.cost,Sz k q)/\Sz k t.value
def kO (n m:Int) (t:Tb):Prop:=((0<=n/\n<=1000)/\(0<=m/\m<=1000))/\t.WF n.toNat m.toNat/\wu 1000000 t
def uC (f:FuncId) (c:Type) (A:qt c) (i:Int->Int->Tb->c->Prop) (e:Int->Int->Tb->c->SV) (out:Int->Int->Tb->c->Tb):dH where
 f:=f;α:=nJ×c;put a:=.ptr 0 0 10::A.put a.2;st a:=a.1.gQ;dec v o:=match v with
  | .ptr 0 0 10::r=>match Eh o,A.dec r with
   |some s,some b=>some (s,b)
   |_,_=>none
  |_=>none;ok v o a h:=by
  split at h
  ·split at h
   ·rename_i d g;simp only[γ] at h;subst h;exact⟨by simp only[gL,A.ok _ _ g],ac8 d⟩
   ·cases h
  ·cases h
 inj a b d g:=by
  simp only[gL,Γ,true_and] at d;exact Prod.ext (ac9 g) (A.inj _ _ d)
 dom a:=∃n m t,a.1=bH n m t/\kO n m t/\i n m t a.2;res a:=e a.1.n a.1.m a.1.t a.2;out a:=(bH a.1.n a.1.m (out a.1.n a.1.m a.1.t a.2)).gQ
theorem dP {q:Rat} {k:Nat} (h:Sz k q) (a:k<=100000000):cC (bu q):=⟨q,k,rfl,h,a⟩
section
variable {n m:Int} {t:Tb}
theorem kO.cf (h:kO n m t) {i j:Nat} (a:i<m.toNat) (c:j<n.toNat):Sz 1000000 (t.cf i j):=by
 have b:=dr (l:=t.cj) (d:=[]) (show i<t.cj.length by rw[h.2.1.cj];exact a);exact h.2.2.1 _ b _ (dr (by rw[h.2.1.row i a];exact c))
theorem kO.bd (h:kO n m t) {i:Nat} (a:i<m.toNat):Sz 1000000 (t.bd i):=h.2.2.2.1 _ (dr (by rw[h.2.1.bound];exact a))
theorem kO.cs (h:kO n m t) {j:Nat} (a:j<n.toNat):Sz 1000000 (t.cs j):=h.2.2.2.2.1 _ (dr (by rw[h.2.1.cost];exact a))
end
theorem uD {q:Rat}:0<jL q↔0<q:=by
 grind[jL]
theorem JK {q:Rat}:jL q=0↔q=0:=by
 grind[jL]
theorem A7 {q:Rat}:jL q<0↔q<0:=by
 grind[jL]
def JL:dH:=uC 179 Unit .nil (λ_ _ _ _=>True) (λn _ t _=> .si .i64 (eD t n.toNat)) (λ_ _ t _=>t)
def adb (n m:Int) (t:Tb):Nat->cE
 |3=> .inv Int (λj=>⟨[(0,.ptr 0 0 10),(3,.si .i64 (eD t j.toNat)),(9,.ow 4 t.free.length 1),(10,.si .i64 t.free.length),(11,.si .i64 j)],(bH n m t).gQ⟩)
   (λs=>iS s 11) (λj=>0<=j/\j<=n) (λj=>(n - j).toNat) λ_ _=> .look
 |_=> .look
theorem h411:ec Tryz.prog JL:=by
 refine lA (L:=[sT]) (W:=[]) JL (λa=>adb a.1.n a.1.m a.1.t) (by simp) (by simpa using h99) ?_;rintro⟨x,u⟩ ⟨n,m,t,hx,hok, -⟩;simp only at hx;subst hx;refine bO (let a:=γh .i64;let b:=(0:Int);let c:=bq.row;let d:=γZ;let e:=Ψ;let r:=γO 0 0 10;let s:=(bH n m t).t;let F:=d 4 (bH n m t).k4 1;let y:=s.free.length;let z:=d 4 y 1;let A:=a (↑y:Int);let g:=(bH n m t).n;let B:=bp.i .u32;let f:=bH g (bH n m t).m s;let k:=bq.cells [a f.n,a f.m,d 1 f.k0 1,d 2 f.k1 3,e sF f.cost,γv f.v.fst,e B f.v.snd.fst,e B f.v.snd.snd,d 3 f.k3 1,d 4 f.k4 1] 261 10 false;let l:=c sF.bF f.cj 106 false;let o:=c sF f.bound 177 false;let C:=bp.i .i64;let p:=c C f.basic 3 false;let q:=c C f.free 3 false;let j:=f.free.length;(((r.same r/\(γx .i64 (-1:Int)).same (a (eD s 0))/\F.same z/\(a (↑(bH n m t).k4:Int)).same A/\(γx .i64 0).same (a 0)/\True)/\(bq.cells [a g,a (bH n m t).m,d 1 (bH n m t).k0 1,d 2 (bH n m t).k1 3,e sF (bH n m t).cost,γv (bH n m t).v.fst,e B (bH n m t).v.snd.fst,e B (bH n m t).v.snd.snd,d 3 (bH n m t).k3 1,F] 261 10 false).same k/\(c sF.bF (bH n m t).cj 106 false).same l/\(c sF (bH n m t).bound 177 false).same o/\(c C (bH n m t).basic 3 false).same p/\(c C (bH n m t).free 3 false).same q/\True)/\b<=b/\b<=g)/\∀(x:Int),let h:=x+(1:Int);let w:=eD s x.toNat;let G:=a w;let H:=a (eD s h.toNat);let D:=a h;let E:=bj f.cost x.toNat sF.dflt;let I:=(E.fst,E.snd.fst,E.snd.snd);let J:=decide (x<(↑y:Int));let K:=decide (w<b);let L:=decide (bj f.free x.toNat b<bj f.free w.toNat b);let M:=cq .i64 h/\((r.same r/\G.same H/\z.same z/\A.same A/\D.same D/\True)/\k.same k/\l.same l/\o.same o/\p.same p/\q.same q/\True)/\(b<=h/\h<=g)/\(g - h).toNat<(g - x).toNat;let N:=cq .i64 h/\((r.same r/\(a x).same H/\z.same z/\A.same A/\D.same D/\True)/\k.same k/\l.same l/\o.same o/\p.same p/\q.same q/\True)/\(b<=h/\h<=g)/\(g - h).toNat<(g - x).toNat;let O:=λ(u:Bool) ↦decide (b<jL (bV I))=u;b<=x/\x<=g->(J=true->y=j/\b<=x/\x<(↑j:Int)/\y=j/\x.toNat<j/\b<=x/\x<(↑f.cost.length:Int)/\x.toNat<f.cost.length/\cC I/\(O true->(K=true->N)/\(K=false->f.k4=j/\b<=w/\w<(↑j:Int)/\f.k4=j/\w.toNat<j/\(L=true->N)/\(L=false->M)))/\(O false->M))/\(J=false->G.same (a (eD s g.toNat))/\k.same k/\l.same l/\o.same o/\p.same p/\q.same q/\True)) (by kernel_rfl) ?_;simp only[sV];try simp only[bH]
 simp only[vcs];obtain⟨⟨⟨n0,n1⟩,m0,m1⟩,hw,hz⟩:=id hok;have hfl:=hw.free;have hcl:=hw.cost;have hfc:=@fE t.cost;refine⟨⟨rfl,by omega,by omega⟩,?_⟩;rintro j ⟨j0,j1⟩;have hs:eD t (j+1).toNat=if 0<t.cs j.toNat/\(eD t j.toNat<0\/t.fv j.toNat<t.fv (eD t j.toNat).toNat) then(j.toNat:Int) else eD t j.toNat:=by
  rw[show(j+1).toNat=j.toNat+1 by omega];rfl
 have hb:eD t j.toNat<j.toNat:=by
  rcases @uB t j.toNat with⟨h,_⟩|⟨b,h,hlt,_⟩<;>omega
 refine⟨λhj=>?_,λhj=>by rw[show j.toNat=n.toNat by omega]⟩;have hc:bj (fL t.cost) j.toNat sF.dflt=bu (t.cs j.toNat):=jv (by omega);simp only[hc,jM,eC,decide_eq_true_eq,decide_eq_false_iff_not,uD];have Ei:∀k:Nat,bj t.free k 0=t.fv k:=λk=>rfl;rw[Ei,Ei,hs];refine⟨j0,hj,by omega,j0,by omega,by omega,dP (hok.cs (by omega)) (by omega),λhp=>⟨λhn=>?_,λhn=>⟨by omega,by omega,by omega,λhl=>?_,λhl=>?_⟩⟩,λhp=>?_⟩
 ·rw[if_pos ⟨hp,.inl hn⟩];omega
 ·rw[if_pos ⟨hp,.inr hl⟩];omega
 ·rw[if_neg λh=>h.2.elim hn hl];omega
 ·rw[if_neg λh=>hp h.1];omega
def nK (t:Tb) (c k:Nat):bL:=if dS t c k<0 then(false,([],[])) else bu (t.bd (dS t c k).toNat / t.cf (dS t c k).toNat c)
def JM:dH:=uC 180 Int (.one (eZ .i64)) (λn _ _ c=>0<=c/\c<n) (λ_ m t c=> .si .i64 (dS t c.toNat m.toNat)) (λ_ _ t _=>t)
def ade (n m:Int) (t:Tb) (c:Int):Nat->cE
 |4=> .inv Int (λi=>⟨[(0,.ptr 0 0 10),(1,.si .i64 c),(5,.si .i64 (dS t c.toNat i.toNat)),(6,.ptr 5 0 3),(15,.ow 1 t.cj.length 1),(16,.si .i64 t.cj.length),(17,.si .i64 i)],(bH n m t).gQ++[.cells [.sb (nK t c.toNat i.toNat).1,.row (.i .u32) (nK t c.toNat i.toNat).2.1,.row (.i .u32) (nK t c.toNat i.toNat).2.2] 177 3 false,.dead,.dead]⟩)
   (λs=>iS s 17) (λi=>0<=i/\i<=m) (λi=>(m - i).toNat) λ_ _=> .look
 |_=> .look
theorem h412:ec Tryz.prog JM:=by
 refine lA (L:=[sT,yq,Eg]) (W:=[]) JM (λa=>ade a.1.n a.1.m a.1.t a.2) (by simp) (by simpa using⟨h99,h97,h416⟩) ?_;rintro⟨x,c⟩ ⟨n,m,t,hx,hok,hd⟩;simp only at hx hd;subst hx;refine bO (let a:=γh .i64;let b:=(0:Int);let d:=Ψ;let e:=bq.cells;let f:=bq.row;let g:=γZ;let h:=γv;let A:=γO 0 0 10;let p:=(bH n m t).t;let B:=γO 5 0 3;let U:=g 1 (bH n m t).k0 1;let H:=p.cj.length;let I:=g 1 H 1;let J:=a (↑H:Int);let l:=(bH n m t).m;let k:=bp.i .u32;let j:=bH (bH n m t).n l p;let r:=e [a j.n,a j.m,g 1 j.k0 1,g 2 j.k1 3,d sF j.cost,h j.v.fst,d k j.v.snd.fst,d k j.v.snd.snd,g 3 j.k3 1,g 4 j.k4 1] 261 10 false;let C:=j.cj;let s:=f sF.bF C 106 false;let D:=j.bound;let w:=f sF D 177 false;let L:=bp.i .i64;let y:=f L j.basic 3 false;let z:=f L j.free 3 false;let O:=nK p c.toNat 0;let a9:=sF.bF.dflt;let q:=j.basic.length;0=0/\0=0/\(((A.same A/\(a c).same (a c)/\(γx .i64 (-1:Int)).same (a (dS p c.toNat 0))/\B.same B/\U.same I/\(a (↑(bH n m t).k0:Int)).same J/\(γx .i64 0).same (a 0)/\True)/\(e [a (bH n m t).n,a l,U,g 2 (bH n m t).k1 3,d sF (bH n m t).cost,h (bH n m t).v.fst,d k (bH n m t).v.snd.fst,d k (bH n m t).v.snd.snd,g 3 (bH n m t).k3 1,g 4 (bH n m t).k4 1] 261 10 false).same r/\(f sF.bF (bH n m t).cj 106 false).same s/\(f sF (bH n m t).bound 177 false).same w/\(f L (bH n m t).basic 3 false).same y/\(f L (bH n m t).free 3 false).same z/\(e [SV.bl false,d k [],d k []] 177 3 false).same (e [h O.fst,d k O.snd.fst,d k O.snd.snd] 177 3 false)/\bq.dead.same bq.dead/\bq.dead.same bq.dead/\True)/\b<=b/\b<=l)/\∀(x:Int),let o:=x+(1:Int);let V:=a (dS p c.toNat o.toNat);let M:=a o;let P:=bj D x.toNat sF.dflt;let W:=(P.fst,P.snd.fst,P.snd.snd);let K:=bj C x.toNat a9;let Q:=bj K c.toNat sF.dflt;let N:=(Q.fst,Q.snd.fst,Q.snd.snd);let E:=bu (bV W / bV N);let R:=nK p c.toNat o.toNat;let X:=e [h R.fst,d k R.snd.fst,d k R.snd.snd] 177 3 false;let F:=dS p c.toNat x.toNat;let Y:=a F;let G:=nK p c.toNat x.toNat;let Z:=(E.fst,E.snd.fst,E.snd.snd);let a0:=(G.fst,G.snd.fst,G.snd.snd);let a1:=iU (bV Z) (bV a0);let a2:=decide (x<(↑H:Int));let a3:=decide (b<=F);let a4:=decide (bj j.basic F.toNat b<bj j.basic x.toNat b);let S:=cq .i64 o/\((A.same A/\(a c).same (a c)/\(a x).same V/\B.same B/\I.same I/\J.same J/\M.same M/\True)/\r.same r/\s.same s/\w.same w/\y.same y/\z.same z/\(e [h E.fst,d k E.snd.fst,d k E.snd.snd] 177 3 false).same X/\bq.dead.same bq.dead/\bq.dead.same bq.dead/\True)/\(b<=o/\o<=l)/\(l - o).toNat<(l - x).toNat;let T:=cq .i64 o/\((A.same A/\(a c).same (a c)/\Y.same V/\B.same B/\I.same I/\J.same J/\M.same M/\True)/\r.same r/\s.same s/\w.same w/\y.same y/\z.same z/\(e [h G.fst,d k G.snd.fst,d k G.snd.snd] 177 3 false).same X/\bq.dead.same bq.dead/\bq.dead.same bq.dead/\True)/\(b<=o/\o<=l)/\(l - o).toNat<(l - x).toNat;let a5:=cC N;let a6:=λ(u:Bool) ↦decide (b<a1)=u;let a7:=λ(u:Bool) ↦decide (a1=b)=u;let a8:=λ(u:Bool) ↦decide (jL (bV N)<=b)=u;b<=x/\x<=l->(a2=true->H=C.length/\b<=x/\x<(↑C.length:Int)/\H=C.length/\x.toNat<C.length/\b<=c/\c<(↑K.length:Int)/\c.toNat<K.length/\a5/\(a8 true->T)/\(a8 false->j.k1=D.length/\b<=x/\x<(↑D.length:Int)/\j.k1=D.length/\x.toNat<D.length/\b<=c/\c<(↑K.length:Int)/\c.toNat<K.length/\((cC W/\a5)/\bV N≠(0:Rat))/\(a3=true->(cC Z/\cC a0)/\(a6 true->T)/\(a6 false->(a7 true->j.k3=q/\b<=x/\x<(↑q:Int)/\j.k3=q/\x.toNat<q/\j.k3=q/\b<=F/\F<(↑q:Int)/\j.k3=q/\F.toNat<q/\(a4=true->T)/\(a4=false->S))/\(a7 false->S)))/\(a3=false->S)))/\(a2=false->Y.same (a (dS p c.toNat l.toNat))/\r.same r/\s.same s/\w.same w/\y.same y/\z.same z/\True)) (by kernel_rfl) ?_;simp only[sV];try simp only[bH]
 simp only[vcs];obtain⟨⟨⟨n0,n1⟩,m0,m1⟩,hw,hz⟩:=id hok;have hkl:=hw.cj;have hbl:=hw.bound;have hbb:=hw.basic;have hfm:=@JI t.cj;have JO:=@fE t.bound;have hcell:∀{x y:bL},x=y->(bq.cells [γv x.1,Ψ (bp.i IntKind.u32) x.2.1,Ψ (bp.i IntKind.u32) x.2.2] 177 3 false).same (bq.cells [γv y.1,Ψ (bp.i IntKind.u32) y.2.1,Ψ (bp.i IntKind.u32) y.2.2] 177 3 false):=by rintro _ _ rfl;rfl
 have hl0:nK t c.toNat 0=(false,([],[])):=rfl;refine⟨⟨⟨rfl,by rw[hl0];rfl⟩,by omega,by omega⟩,?_⟩;rintro i ⟨i0,i1⟩;refine⟨λhi=>?_,λhi=>by rw[show i.toNat=m.toNat by omega]⟩;have him:i.toNat<m.toNat:=by omega
 have hrow:bj (fM t.cj) i.toNat sF.bF.dflt=fL (bj t.cj i.toNat []):=JJ (by omega);have hrl:=hw.row i.toNat him;have hfr:=@fE (bj t.cj i.toNat []);have hA:bj (fL (bj t.cj i.toNat [])) c.toNat sF.dflt=bu (t.cf i.toNat c.toNat):=jv (by omega);have hB:bj (fL t.bound) i.toNat sF.dflt=bu (t.bd i.toNat):=jv (by omega);have hbv:∀k:Nat,bj t.basic k 0=t.bv k:=λk=>rfl;have hsA:=hok.cf (i:=i.toNat) (j:=c.toNat) him (by omega);have hsB:=hok.bd (i:=i.toNat) him;have hs:dS t c.toNat (i+1).toNat=if t.cf i.toNat c.toNat<=0 then dS t c.toNat i.toNat
  else if 0<=dS t c.toNat i.toNat/\(t.bd (dS t c.toNat i.toNat).toNat / t.cf (dS t c.toNat i.toNat).toNat c.toNat<t.bd i.toNat / t.cf i.toNat c.toNat\/(t.bd i.toNat / t.cf i.toNat c.toNat=t.bd (dS t c.toNat i.toNat).toNat / t.cf (dS t c.toNat i.toNat).toNat c.toNat/\t.bv (dS t c.toNat i.toNat).toNat<t.bv i.toNat)) then dS t c.toNat i.toNat
  else(i.toNat:Int):=by
  rw[show(i+1).toNat=i.toNat+1 by omega];rfl
 have hlb:dS t c.toNat i.toNat<i.toNat:=by
  rcases @wt t c.toNat i.toNat with⟨h,_⟩|⟨b,h,hlt,_⟩<;>omega
 have hlp:0<=dS t c.toNat i.toNat->0<t.cf (dS t c.toNat i.toNat).toNat c.toNat:=λh=>by
  rcases @wt t c.toNat i.toNat with⟨h2,_⟩|⟨b,h2,hlt,hp,_⟩;·omega
  ·rw[h2,γl];exact hp
 have adf:∀q:Rat,jL q<=0↔q<=0:=λq=>by
  have:=@uD q;constructor;·intro h;exact Rat.not_lt.1 λh2=>by have:=this.2 h2;omega
  ·intro h;exact Int.not_lt.1 λh2=>Rat.not_lt.2 h (this.1 h2)
 simp only[hrow,hA,hB,jM,eC,hbv,adf,ac6,ac7];have adg:0<=dS t c.toNat i.toNat->nK t c.toNat i.toNat=bu (t.bd (dS t c.toNat i.toNat).toNat / t.cf (dS t c.toNat i.toNat).toNat c.toNat):=λh=>by
  unfold nK;rw[if_neg (by omega)]
 have tail:(0<=i+1/\i+1<=m)/\(m - (i+1)).toNat<(m - i).toNat:=by omega
 have keep:dS t c.toNat (i+1).toNat=dS t c.toNat i.toNat->nK t c.toNat i.toNat=nK t c.toNat (i+1).toNat:=λh=>by
  unfold nK;rw[h]
 have new:dS t c.toNat (i+1).toNat=(i.toNat:Int)->bu (t.bd i.toNat / t.cf i.toNat c.toNat)=nK t c.toNat (i+1).toNat:=λh=>by
  unfold nK;rw[h,if_neg (by omega),γl]
 have hnz:0<t.cf i.toNat c.toNat->t.cf i.toNat c.toNat≠0:=λh=>by grind
 refine⟨by omega,i0,by omega,by omega,by omega,hd.1,by omega,by omega,dP hsA (by omega),λhle=>?_,λhgt=>?_⟩
 ·have e:dS t c.toNat (i+1).toNat=dS t c.toNat i.toNat:=by rw[hs,if_pos hle]
  exact⟨by omega,⟨e.symm,hcell (keep e)⟩,tail⟩
 ·have hp:0<t.cf i.toNat c.toNat:=Rat.not_le.1 hgt;rw[if_neg hgt] at hs;have adh:=JE hsB hsA (hnz hp);refine⟨by omega,i0,by omega,by omega,by omega,hd.1,by omega,by omega,⟨⟨dP hsB (by omega),dP hsA (by omega)⟩,hnz hp⟩,λh0=>?_,λh0=>?_⟩
  ·have hl:=adg h0;have hsl:=JE (hok.bd (i:=(dS t c.toNat i.toNat).toNat) (by omega)) (hok.cf (i:=(dS t c.toNat i.toNat).toNat) (j:=c.toNat) (by omega) (by omega)) (by have:=hlp h0;grind);have hvl:bV (nK t c.toNat i.toNat)=t.bd (dS t c.toNat i.toNat).toNat / t.cf (dS t c.toNat i.toNat).toNat c.toNat:=by rw[hl,eC]
   simp only[hvl];refine⟨⟨dP adh (by omega),by rw[hl];exact dP hsl (by omega)⟩,λhlt=>?_,λhlt=>⟨λheq=>⟨i0,by omega,by omega,h0,by omega,by omega,λhbl=>?_,λhbl=>?_⟩,λheq=>?_⟩⟩
   ·rw[if_pos ⟨h0,.inl hlt⟩] at hs;exact⟨by omega,⟨hs.symm,hcell (keep hs)⟩,tail⟩
   ·rw[if_pos ⟨h0,.inr ⟨heq,hbl⟩⟩] at hs;exact⟨by omega,⟨hs.symm,hcell (keep hs)⟩,tail⟩
   ·rw[if_neg λh=>h.2.elim hlt λh2=>hbl h2.2] at hs;exact⟨by omega,⟨by omega,hcell (new hs)⟩,tail⟩
   ·rw[if_neg λh=>h.2.elim hlt λh2=>heq h2.1] at hs;exact⟨by omega,⟨by omega,hcell (new hs)⟩,tail⟩
  ·rw[if_neg λh=>h0 h.1] at hs;exact⟨by omega,⟨by omega,hcell (new hs)⟩,tail⟩
def eu (a:Tb) (v:Int):Rat:=if v∈a.free then a.cs (a.free.idxOf v) else 0
section
variable {n m:Nat} {t t0:Tb}
theorem Run.goal (h:Run n m t0 t) {x:Int->Rat} {z:Rat} (d:t.holds n m x z):z=t0.value+(bP m (λk=>eu t0 (t.bv k)*x (t.bv k))+bP n (λj=>eu t0 (t.fv j)*x (t.fv j))):=by
 have a:∀t:Tb,t.WF n m->mg (λv=>eu t0 v*x v) (t.basic++t.free)=bP m (λk=>eu t0 (t.bv k)*x (t.bv k))+bP n (λj=>eu t0 (t.fv j)*x (t.fv j)):=λt c=>by
  rw[AP,qG,qG,c.basic,c.free];rfl
 rw[<-a t h.wf,Jp h.perm,a t0 h.oz];rw[dL (n:=m) (g:=λ_=>0) λk e=>by
  unfold eu;rw[if_neg (Jq h.oz h.nd e)];grind,iR];rw[dL (n:=n) (g:=λj=>t0.cs j*x (t0.fv j)) λj b=>by
  have i:j<t0.free.length:=by rw[h.oz.free];exact b
  unfold eu;rw[if_pos (wh h.oz b),show t0.free.idxOf (t0.fv j)=j from pg (γr.1 h.nd).2.1 i]];have f:=(((h.mN _ _).1 d).2);rw[f];grind
theorem Run.val (h:Run n m t0 t):t.value=t0.value+bP m λk=>eu t0 (t.bv k)*t.bd k:=by
 have a:=h.goal (asg_holds h.wf h.gn (y:=λ_=>0));rw[dL (n:=n) (f:=λj=>t.cs j*(λ_=>(0:Rat)) j) (g:=λ_=>0) λj _=>by grind,iR] at a;rw[dL (n:=n) (f:=λj=>eu t0 (t.fv j)*js n t (λ_=>0) (t.fv j)) (g:=λ_=>0) λj c=>by rw[mM h.wf h.gn c];grind,iR] at a;rw[dL (n:=m) (g:=λk=>eu t0 (t.bv k)*t.bd k) λk b=>by
  rw[nI h.wf h.gn b,dL (g:=λ_=>0) λj _=>by grind,iR];grind] at a;grind
theorem uE {n c:Nat} {q:Rat} (d:c<n):bP n (λj=>if j=c then q else 0)=q:=by
 induction n with
 |zero=>omega;|succ n b=>
  unfold bP;by_cases h:c=n
  ·subst h;rw[if_pos rfl,dL (g:=λ_=>0) λj a=>by grind,iR];grind
  grind
theorem JP {f g:Nat->Rat}:∀{n:Nat},bP n (λj=>f j - g j)=bP n f - bP n g
 |0=>by grind[bP];|n+1=>by simp only[bP,@JP f g n];grind
theorem Run.adi (h:Run n m t0 t) {c:Nat} (b:c<n):t.cs c=eu t0 (t.fv c) - bP m λk=>eu t0 (t.bv k)*t.cf k c:=by
 have a:=h.goal (asg_holds h.wf h.gn (y:=λj=>if j=c then 1 else 0));rw[dL (n:=n) (f:=λj=>t.cs j*(if j=c then(1:Rat) else 0)) (g:=λj=>if j=c then t.cs c else 0) λj _=>by
  grind,uE b] at a;rw[dL (n:=n) (f:=λj=>eu t0 (t.fv j)*js n t (λj=>if j=c then 1 else 0) (t.fv j)) (g:=λj=>if j=c then eu t0 (t.fv c) else 0) λj e=>by
  rw[mM h.wf h.gn e];grind,uE b] at a;rw[dL (n:=m) (g:=λk=>eu t0 (t.bv k)*t.bd k - eu t0 (t.bv k)*t.cf k c) λk d=>by
  rw[nI h.wf h.gn d,dL (g:=λj=>if j=c then t.cf k c else 0) λj _=>by
   grind,uE b];grind,JP,h.val] at a;grind
end
theorem JQ {M K:Nat} {p q:Rat} (e:fc M p) (f:fc K q):fc (M*K) (p*q):=by
 obtain⟨a,rfl,d⟩:=e;obtain⟨b,rfl,c⟩:=f;exact⟨a*b,by simp_all,by rw[εo];exact ζi d c⟩
theorem Ta {M K:Nat} {p q:Rat} (d:fc M p) (c:fc K q):fc (M+K) (p+q):=by
 obtain⟨a,rfl,f⟩:=d;obtain⟨b,rfl,e⟩:=c;exact⟨a+b,by simp_all,by omega⟩
theorem adj {M:Nat} {p:Rat} (b:fc M p):fc M (-p):=by
 obtain⟨a,rfl,c⟩:=b;exact⟨-a,by simp_all,by omega⟩
theorem Tc {M:Nat}:fc M 0:=⟨0,rfl,by simp⟩
theorem fc.le {M K:Nat} {p:Rat} (b:fc M p) (h:M<=K):fc K p:=by
 obtain⟨a,rfl,c⟩:=b;exact⟨a,rfl,by omega⟩
theorem JR {M:Nat} {f:Nat->Rat}:∀{n:Nat},(∀k,k<n->fc M (f k))->fc (n*M) (bP n f)
 |0,_=>by grind[bP,Tc];|n+1,h=>by
  have a:=Ta (@JR M f n λk b=>h k (by omega)) (h n (by omega));grind[bP]
theorem JS {f:Nat->Rat} {d:Rat}:∀{n:Nat},bP n f*d=bP n λk=>f k*d
 |0=>by grind[bP];|n+1=>by
  have:=@JS f d n;grind[bP]
theorem adk {X k:Nat} {q D:Rat} (f:fc X (q*D)) (c:fc X D) (g:D≠0) (o:X<4294967296^k):Sz k q:=by
 obtain⟨a,p,l⟩:=f;obtain⟨d,rfl,m⟩:=c;have b:d≠0:=λh=>g (by subst h;rfl);have n:((4294967296^k:Nat):Int)=(4294967296:Int)^k:=by
  simp_all
 have i:(X:Int)<4294967296^k:=by
  omega
 have e:q=mkRat (a*d.sign) d.natAbs:=by
  have f:mkRat (a*d.sign) d.natAbs=((a*d.sign:Int):Rat) / ((d.natAbs:Int):Rat):=by
   rw[δB];rfl
  have c:((d.natAbs:Int):Rat)=(d:Rat)*(d.sign:Rat):=by
   rw[<-Rat.intCast_mul];simp_all
  have j:(d.sign:Rat)*(d.sign:Rat)=1:=by
   rw[<-Rat.intCast_mul];rcases Int.lt_or_lt_of_ne b with h|h;·rw[Int.sign_eq_neg_one_of_neg h];rfl
   grind
  grind
 rw[e];refine AZ (by omega) ?_ (by omega);grind
structure Small (n m M G:Nat) (t0:Tb):Prop where
 wf:t0.WF n m
 nd:(t0.basic++t0.free).Nodup
 cf:∀i j,i<m->j<n->fc M (t0.cf i j)
 bd:∀i,i<m->fc M (t0.bd i)
 cs:∀j,j<n->fc G (t0.cs j)
 v:t0.value=0
 M1:1<=M
 G1:M<=G
 X:(m+2)*(G*nH M m)<4294967296^1000
theorem adl {a b c:Nat} (h:1<=a) (d:1<=b):c<=a*(b*c):=by
 have e:1*(1*c)<=a*(b*c):=ζi h (ζi d (Nat.le_refl _));omega
theorem Small.goal {n m M G:Nat} {t0:Tb} (h:Small n m M G t0) {v:Int}:fc G (eu t0 v):=by
 unfold eu;split
 ·rename_i a;exact h.cs _ (by rw[<-h.wf.free];grind)
 ·exact Tc
theorem Small.Td {n m M G:Nat} {t0 t:Tb} (h:Small n m M G t0) (a:Run n m t0 t):(∀i,i<m->Sz 1000 (t.bd i))/\(∀j,j<n->Sz 1000 (t.cs j))/\Sz 1000 t.value/\∀i j,i<m->j<n->Sz 1000 (t.cf i j):=by
 have y:=a.acw h.M1 h.cf;have A:=h.X;have B:1<=G:=Nat.le_trans h.M1 h.G1;have u:nH M m<=(m+2)*(G*nH M m):=adl (by omega) B;have l:∀{q:Rat},fc ((m+2)*(G*nH M m)) (q*ju m t0 t)->Sz 1000 q:=λz=>adk z (y.le u) a.dt A;have d:∀r c,r<m->c<n->fc (nH M m) (t.cf r c*ju m t0 t):=λr c o d=>a.cfZ h.M1 h.cf o d;have x:∀r,r<m->fc (nH M m) (t.bd r*ju m t0 t):=λr o=>a.bdZ h.M1 h.cf h.bd o;refine⟨λi w=>l ((x i w).le u),λj b=>l ?_,l ?_,λi j w b=>l ((d i j w b).le u)⟩
 ·have e:=a.adi b;have p:t.cs j*ju m t0 t=eu t0 (t.fv j)*ju m t0 t+ -(bP m λk=>eu t0 (t.bv k)*(t.cf k j*ju m t0 t)):=by
   rw[e,dL (f:=λk=>eu t0 (t.bv k)*(t.cf k j*ju m t0 t)) (g:=λk=>(eu t0 (t.bv k)*t.cf k j)*ju m t0 t) λk _=>by grind,<-JS];grind
  rw[p];refine(Ta (JQ h.goal y) (adj (JR λk s=>JQ h.goal (d k j s b)))).le ?_;grind
 ·have p:t.value*ju m t0 t=bP m λk=>eu t0 (t.bv k)*(t.bd k*ju m t0 t):=by
   rw[a.val,h.v,dL (f:=λk=>eu t0 (t.bv k)*(t.bd k*ju m t0 t)) (g:=λk=>(eu t0 (t.bv k)*t.bd k)*ju m t0 t) λk _=>by grind,<-JS];grind
  rw[p];refine(JR λk s=>JQ h.goal (x k s)).le ?_;grind
theorem Small.wu {n m M G:Nat} {t0 t:Tb} (h:Small n m M G t0) (b:Run n m t0 t):wu 1000000 t:=by
 obtain⟨g,r,k,o⟩:=h.Td b;have e:∀{f:Type} {l:List f} {P:f->Prop} {d:f},(∀i,i<l.length->P (bj l i d))->∀q∈l,P q:=λh q p=>by
  obtain⟨i,a,rfl⟩:=List.getElem_of_mem p;grind[cY]
 refine⟨e (d:=[]) λi a=>?_,e (d:=0) λi a=>?_,e (d:=0) λj c=>?_,k.mono (by omega)⟩
 ·rw[b.wf.cj] at a;refine e (d:=0) λj c=>?_;rw[b.wf.row i a] at c;exact(o i j a c).mono (by omega)
 ·rw[b.wf.bound] at a;exact(g i a).mono (by omega)
 ·rw[b.wf.cost] at c;exact(r j c).mono (by omega)
theorem Tf {n m:Int} {M G:Nat} {t0 t:Tb} (h:Small n.toNat m.toNat M G t0) (a:Run n.toNat m.toNat t0 t) (c:0<=n/\n<=1000) (b:0<=m/\m<=1000):kO n m t:=⟨⟨c,b⟩,a.wf,h.wu a⟩
section
variable {n m:Nat} {t t0:Tb}
theorem Ti:∀{N:Nat} {t:Tb},Run n m t0 t->kq m t->Run n m t0 (runT n m N t)/\kq m (runT n m N t)
 |0,t,b,a=>⟨b,a⟩
 |N+1,t,b,a=>by
  unfold runT;split;·simp_all
  ·rename_i d c;have:=JF b a c;exact Ti this.1 this.2
theorem run_end:∀{N:Nat} {t:Tb},fj n m N t=true->stepT n m (runT n m N t)=none
 |0,t,h=>γN.1 h
 |N+1,t,h=>by
  unfold fj at h;unfold runT;split;·assumption
  ·rename_i b a;rw[a] at h;exact run_end h
theorem Tj:∀{N K:Nat} {t:Tb},fj n m N t=true->N<=K->runT n m K t=runT n m N t
 |0,K,t,h,b=>by
  have d:=γN.1 h;cases K<;>grind[runT];|N+1,K,t,h,b=>by
  obtain⟨K,rfl⟩:∃k,K=k+1:=⟨K - 1,by omega⟩;unfold fj at h;unfold runT;split;·rfl
  ·rename_i c a;rw[a] at h;exact Tj h (by omega)
theorem Tm {f:Nat->Rat}:∀{n:Nat},(∀k,k<n->f k<=0)->bP n f<=0
 |0,_=>by grind[bP];|n+1,h=>by
  have a:=@Tm f n λk b=>h k (by omega);grind[bP]
theorem Tn {a b:Rat} (d:a<=0) (c:0<=b):a*b<=0:=by
 have:=δt (a:= -a) (b:=b) (by grind) c;grind
theorem Run.best (h:Run n m t0 t) (d:eD t n<0) {x:Int->Rat} {z:Rat} (a:t0.holds n m x z) (b:∀j,j<n->0<=x (t.fv j)):z<=t.value:=by
 have c:=(((h.mN _ _).2 a).2);grind[uB,Tm,Tn]
theorem Run.bnd (h:Run n m t0 t) (q:kq m t) {B:Rat} (F:∀x z,t0.holds n m x z->(∀v∈t0.basic++t0.free,0<=x v)->z<=B) {c:Nat} (I:eD t n=(c:Int)) (H:dS t c m<0):False:=by
 rcases @uB t n with⟨C,d⟩|⟨a,C,d,f,G⟩;·omega
 ·have A:a=c:=by omega
  subst A;rcases @wt t a m with⟨D,w⟩|⟨r,D,_⟩;·
   have k:∀s:Rat,0<=s->t.value+s*t.cs a<=B:=λs o=>by
    have p:=asg_holds h.wf h.gn (y:=λj=>if j=a then s else 0);have e:bP n (λj=>t.cs j*(λj=>if j=a then s else 0) j)=s*t.cs a:=by
     rw[dL (g:=λj=>if j=a then s*t.cs a else 0) λj _=>by
      grind,uE d]
    rw[e] at p;refine F _ _ ((h.mN _ _).1 p) λv b=>?_;rw[<-h.perm.mem_iff,List.mem_append] at b;rcases b with b|b
    ·obtain⟨i,l,rfl⟩:=yj h.wf b;rw[nI h.wf h.gn l];have f:bP n (λj=>t.cf i j*(if j=a then s else 0))=t.cf i a*s:=by
      rw[dL (g:=λj=>if j=a then t.cf i a*s else 0) λj _=>by
       grind,uE d]
     rw[f];have:=Tn (w i l) o;have:=q i l;grind
    ·obtain⟨j,E,rfl⟩:=wi h.wf b;rw[mM h.wf h.gn E];grind
   have u:=k 0 (by grind);have o:0<=(B - t.value+1) / t.cs a:=SA (by grind) f;grind[div_mul]
  ·omega
end
open Classical in
noncomputable def uF (n m:Nat) (t:Tb):Nat:=if h:∃N,fj n m N t=true then δP h else 0
noncomputable def lastT (n m:Nat) (t:Tb):Tb:=runT n m (uF n m t) t
section
variable {n m:Nat} {t t0 t':Tb}
theorem Ej {N:Nat} (h:fj n m N t=true):lastT n m t=runT n m N t:=by
 have a:∃N,fj n m N t=true:=⟨N,h⟩;have b:fj n m (uF n m t) t=true:=by
  unfold uF;grind
 grind[lastT,Tj]
theorem Tq (h:stepT n m t=none):lastT n m t=t:=by
 have a:fj n m 0 t=true:=by simp[fj,h]
 rw[Ej a];rfl
theorem adn (a:∃N,fj n m N t=true) (h:stepT n m t=some t'):lastT n m t'=lastT n m t:=by
 obtain⟨N,a⟩:=a;have b:=S7 a h;rw[Ej b,Ej (JG a)];grind[runT]
theorem JU (b:Run n m t0 t) (c:kq m t):Run n m t0 (lastT n m t)/\kq m (lastT n m t)/\stepT n m (lastT n m t)=none:=by
 obtain⟨N,a⟩:=JH b c;rw[Ej a];grind[Ti,run_end]
theorem Tt (i:Run n m t0 t) (e:kq m t) {B:Rat} (h:∀x z,t0.holds n m x z->(∀v∈t0.basic++t0.free,0<=x v)->z<=B):eD (lastT n m t) n<0:=by
 obtain⟨j,g,a⟩:=JU i e;rcases @uB (lastT n m t) n with⟨b,d⟩|⟨c,b,d,l,k⟩;·omega
 ·exfalso;unfold stepT at a;rw[if_neg (by omega),show(eD (lastT n m t) n).toNat=c by omega] at a;split at a
  ·rename_i f;exact j.bnd g h b f
  ·cases a
end
def bD (f:List Int) (d:Int):List Int:=(dm f.length).filter λi=>decide (bj f i.toNat 0=d)
theorem kP {f:List Int} {d x:Int}:x∈bD f d↔(0<=x/\x<f.length)/\bj f x.toNat 0=d:=by
 simp_all[bD,kK]
theorem uG {f:List Int} {d:Int}:(bD f d).Pairwise (·<·):=rD.sublist List.filter_sublist
theorem uH {f:List Int} {d:Int}:(bD f d).length<=f.length:=by
 have:=List.length_filter_le (λi:Int=>decide (bj f i.toNat 0=d)) (dm f.length);rw[iP] at this;exact this
theorem JV {a b:Type} {g:a->b} {l:List a} {i:Nat} {d:b} {e:a} (h:i<l.length):bj (l.map g) i d=g (bj l i e):=by
 grind[cY]
theorem JW {n j:Nat} {d:Int} (h:j<n):bj (dm n) j d=j:=by
 grind[dm,qF]
def cH (p:bn) (f:List Int):Tb where
 cj:=(ω (p.classes.length+12)).map λr:Nat=>(bD f 0).map λi=>((dW p r (oI p i):Int):Rat);bound:=(ω (p.classes.length+12)).map λr:Nat=>((dj p r - cT p ((bD f 1).map (oI p)) r:Int):Rat);cost:=(bD f 0).map λi=>(((oI p i).value:Int):Rat);value:=0;basic:=(ω (p.classes.length+12)).map λi:Nat=>(((bD f 0).length+i:Nat):Int);free:=dm (bD f 0).length
def eV (p:bn) (f:List Int):Prop:=bz p=0/\f.length=p.offers.length/\gk p ((bD f 1).map (oI p))=true
abbrev nF (f:List Int):Nat:=(bD f 0).length
abbrev mF (p:bn):Nat:=p.classes.length+12
section
variable {p:bn} {f:List Int}
theorem lH:(cH p f).WF (nF f) (mF p) where
 cj:=by simp[cH]
 row i a:=by
  grind[cH,qF]
 bound:=by simp[cH]
 cost:=by simp[cH]
 basic:=by simp[cH]
 free:=by simp[cH,iP]
theorem yt {i j:Nat} (b:i<mF p) (a:j<nF f):(cH p f).cf i j=((dW p i (oI p (bj (bD f 0) j 0)):Int):Rat):=by
 grind[Tb.cf,cH,qF,JV]
theorem yu {i:Nat} (a:i<mF p):(cH p f).bd i=((dj p i - cT p ((bD f 1).map (oI p)) i:Int):Rat):=by
 grind[Tb.bd,cH,qF]
theorem A8 {j:Nat} (a:j<nF f):(cH p f).cs j=(((oI p (bj (bD f 0) j 0)).value:Int):Rat):=by
 grind[Tb.cs,cH,JV]
theorem Ek {i:Nat} (a:i<mF p):(cH p f).bv i=(((nF f)+i:Nat):Int):=by
 grind[Tb.bv,cH,qF]
theorem wv {j:Nat} (a:j<nF f):(cH p f).fv j=j:=by
 grind[Tb.fv,cH,JW]
theorem qJ:((cH p f).basic++(cH p f).free).Nodup:=by
 rw[γr];refine⟨?_,rD.imp λh=>by omega,?_⟩
 ·simp only[cH];refine List.Pairwise.map _ (λa b h=>?_) List.nodup_range;omega
 grind[cH,kK]
theorem yv (h:eV p f) {j:Nat} (a:j<nF f):(0<=bj (bD f 0) j 0/\bj (bD f 0) j 0<p.offers.length)/\bj f (bj (bD f 0) j 0).toNat 0=0:=by
 have:=kP.1 (dr (d:=0) a);rw[h.2.1] at this;exact this
theorem kQ (a:bz p=0) {i:Int} (h:0<=i/\i<p.offers.length):0<=(oI p i).bX/\(oI p i).bX<p.classes.length/\(oI p i).want.ok=true/\1<=(oI p i).value/\(oI p i).value<=1000000:=(dQ a).2.2.2.2 _ (dr (show i.toNat<p.offers.length by omega))
theorem Em (h:eV p f) {d:Int}:∀x∈(bD f d).map (oI p),0<=x.bX/\x.bX<p.classes.length/\x.want.ok=true/\1<=x.value/\x.value<=1000000:=λx a=>by
 obtain⟨i,b,rfl⟩:=List.mem_map.1 a;have:=(kP.1 b).1;rw[h.2.1] at this;exact kQ h.1 this
theorem JX {z:Int} {M:Nat} (h:z.natAbs<=M):fc M (z:Rat):=⟨z,rfl,h⟩
theorem Tv (h:eV p f) {i:Nat} (b:i<mF p):0<=dj p i - cT p ((bD f 1).map (oI p)) i/\dj p i - cT p ((bD f 1).map (oI p)) i<=4:=by
 have c:i<p.classes.length+12:=b;have d:=o6.1 h.2.2 i (by grind[de]);have g:=@AG p h.1 i;have e:=@sG p i ((bD f 1).map (oI p)) λx a=>(Em h x a).2.2.1;omega
theorem ado:∀m:Nat,m<=20->(m+2)*(1000000*nH 4 m)<4294967296^1000:=by
 have h:((ω 21).all λm=>Nat.blt ((m+2)*(1000000*nH 4 m)) (4294967296^1000))=true:=by decide+kernel
 intro m a;have:=List.all_eq_true.1 h m (List.mem_range.2 (by omega));rw[Nat.blt_eq] at this;exact this
theorem En (h:eV p f):Small (nF f) (mF p) 4 1000000 (cH p f) where
 wf:=lH;nd:=qJ;cf i j b a:=by
  rw[yt b a];have:=(kQ h.1 (yv h a).1).2.2.1;grind[pM,JX]
 bd i b:=by
  rw[yu b];have:=Tv h b;exact JX (by omega)
 cs j a:=by
  rw[A8 a];have:=kQ h.1 (yv h a).1;grind[JX]
 v:=rfl;M1:=by omega
 G1:=by omega
 X:=ado _ (by have:=(dQ h.1).1;grind)
theorem Eo {z:Int} (h:0<=z):(0:Rat)<=(z:Rat):=by exact_mod_cast h
theorem JY (h:eV p f):kq (mF p) (cH p f):=λi a=>by
 rw[yu a];exact Eo (Tv h a).1
theorem Tz {g:Nat->Rat}:∀{n:Nat},(∀k,k<n->0<=g k)->0<=bP n g
 |0,_=>by grind[bP];|n+1,h=>by
  have a:=@Tz g n λk b=>h k (by omega);grind[bP]
theorem TA {g k:Nat->Rat}:∀{n:Nat},(∀i,i<n->g i<=k i)->bP n g<=bP n k
 |0,_=>by grind[bP];|n+1,h=>by
  have a:=@TA g k n λk b=>h k (by omega);grind[bP]
theorem adp {g:Nat->Rat} {n j:Nat} (h:∀k,k<n->0<=g k) (a:j<n):g j<=bP n g:=by
 rw[D2 a];grind[Tz]
theorem TB (h:eV p f) {x:Int->Rat} {z:Rat} (d:(cH p f).holds (nF f) (mF p) x z) (e:∀v∈(cH p f).basic++(cH p f).free,0<=x v) {j:Nat} (b:j<nF f):x ((cH p f).fv j)<=1:=by
 obtain⟨l,_⟩:=yv h b;have r:=kQ h.1 l;have a:(oI p (bj (bD f 0) j 0)).bX.toNat<mF p:=by grind
 have s:=d.1 _ a;have n:=e _ (List.mem_append_left _ (AW lH a));have i:(cH p f).cf (oI p (bj (bD f 0) j 0)).bX.toNat j=1:=by
  rw[yt a b];unfold dW;rw[if_pos (by omega),if_pos (by omega)];rfl
 have m:=@adp (λk=>(cH p f).cf (oI p (bj (bD f 0) j 0)).bX.toNat k*x ((cH p f).fv k)) (nF f) j (λk c=>by
  refine δt ?_ (e _ (List.mem_append_right _ (wh lH c)));rw[yt a c];exact Eo (pM (kQ h.1 (yv h c).1).2.2.1).1) b;simp only[i] at m;have t:(cH p f).bd (oI p (bj (bD f 0) j 0)).bX.toNat<=1:=by
  rw[yu a];have o:dj p (oI p (bj (bD f 0) j 0)).bX.toNat=1:=by
   unfold dj;omega
  have q:=@sG p (oI p (bj (bD f 0) j 0)).bX.toNat ((bD f 1).map (oI p)) λx d=>(Em h x d).2.2.1;have g:dj p (oI p (bj (bD f 0) j 0)).bX.toNat - cT p ((bD f 1).map (oI p)) (oI p (bj (bD f 0) j 0)).bX.toNat<=1:=by omega
  exact_mod_cast g
 grind
theorem TC (h:eV p f) {x:Int->Rat} {z:Rat} (c:(cH p f).holds (nF f) (mF p) x z) (e:∀v∈(cH p f).basic++(cH p f).free,0<=x v):z<=bP (nF f) (cH p f).cs:=by
 have g:=c.2;have k:(cH p f).value=0:=rfl;have:=@TA (λj=>(cH p f).cs j*x ((cH p f).fv j)) (cH p f).cs (nF f) λj a=>by
  have i:=TB h c e a;have d:0<=(cH p f).cs j:=by
   rw[A8 a];exact Eo (by have:=kQ h.1 (yv h a).1;omega)
  have:=δt d (b:=1 - x ((cH p f).fv j)) (by grind);grind
 grind
noncomputable def dy (p:bn) (f:List Int):Tb:=lastT (nF f) (mF p) (cH p f)
theorem oD (h:eV p f):Run (nF f) (mF p) (cH p f) (dy p f)/\kq (mF p) (dy p f)/\eD (dy p f) (nF f)<0:=by
 have a:=Run.refl (n:=nF f) (m:=mF p) (t0:=cH p f) lH qJ;have:=JU a (JY h);exact⟨this.1,this.2.1,Tt a (JY h) λx z c b=>TC h c b⟩
end
def eU (d:List bL) (j:Nat) (z:bL):List bL:=d.take j++δ (d.length - j) z
theorem yw {d:List bL} {j:Nat} {z:bL} (h:j<=d.length):(eU d j z).length=d.length:=by
 grind[eU]
theorem yx {d:List bL} {z:bL}:eU d 0 z=δ d.length z:=by simp[eU]
theorem yz {d:List bL} {z:bL}:eU d d.length z=d:=by simp[eU]
theorem yA {d:List bL} {j:Nat} {z x:bL} (h:j<d.length) (b:x=bj d j z):(eU d j z).set j x=eU d (j+1) z:=by
 unfold eU;have a:d.length - j=(d.length - (j+1))+1:=by omega
 rw[a,List.replicate_succ,List.set_append_right _ _ (by grind),γu,show j - min j d.length=0 by omega,List.set_cons_zero,List.take_succ_eq_append_getElem h,List.append_assoc,b,cY h];rfl
theorem yB {l:List Rat} {i:Nat} {q:Rat}:(fL l).set i (bu q)=fL (l.set i q):=by
 simp_all[fL]
theorem elim_none {l p:List Rat} {c:Nat} (h:bj l c 0=0) (d:c<l.length):kp l c p=l:=by
 refine List.ext_getElem D3 λi b a=>?_;have e:=@D4 c l p i a;grind[cY]
def r413:dH where
 f:=181;α:=Int;put a:=[.si .i64 a];st _:=[];dec v o:=match v,o with
  |[v],[]=>v.int .i64
  |_,_=>none;ok v o a h:=by
  split at h;·exact⟨by simp only[gL,iN h];rfl,rfl⟩
  ·cases h
 inj a b h _:=by simpa[gL,SV.g] using h
 dom n:=0<=n/\n<=1000;res n:=.ow 0 n.toNat 3;out n:=[.row sF (fL (δ n.toNat 0)) 177 false]
def adq (n:Int):Nat->cE
 |3=> .inv Int (λj=>⟨[(3,.ow 0 n.toNat 3),(8,.si .i64 n.toNat),(9,.si .i64 j)],[.row sF (eU (fL (δ n.toNat 0)) j.toNat (false,([],[]))) 177 true]⟩)
   (λs=>iS s 9) (λj=>0<=j/\j<=n) (λj=>(n - j).toNat) λ_ _=> .look
 |_=> .look
theorem h413:ec Tryz.prog r413:=by
 refine HE (L:=[oC]) (W:=[]) r413 (λ_=>none) adq (by simp) (by simpa using h94) ?_;rintro(n:Int) ⟨n0,n1⟩;refine bO (let a:=(0:Int);let c:=bq.row;let d:=γh .i64;let e:=γZ 0 n.toNat 3;let h:=d (↑n.toNat:Int);let m:=(bp.i .u32).bF;let j:=(false,[],[]);let k:=fL (δ n.toNat (0:Rat));let l:=bu (κ a);a<=n/\n<=n/\n*(56:Int)<=(140737488355328:Int)/\n<=(1000000000000:Int)/\(((e.same e/\h.same h/\(γx .i64 0).same (d 0)/\True)/\(c (bp.b.pair (m.pair m)) (δ n.toNat j) 177 true).same (c sF (eU k 0 j) 177 true)/\True)/\a<=a/\a<=n)/\∀(x:Int),let o:=decide (x<(↑n.toNat:Int));let f:=eU k x.toNat j;let g:=x+(1:Int);let p:=d g;a<=x/\x<=n->(o=true->((-9223372036854775808:Int)<=a/\a<=(9223372036854775807:Int))/\n.toNat=f.length/\a<=x/\x<(↑f.length:Int)/\n.toNat=f.length/\x.toNat<f.length/\cq .i64 g/\((e.same e/\h.same h/\p.same p/\True)/\(c sF (f.set x.toNat (l.fst,l.snd.fst,l.snd.snd)) 177 true).same (c sF (eU k g.toNat j) 177 true)/\True)/\(a<=g/\g<=n)/\(n - g).toNat<(n - x).toNat)/\(o=false->e.same e/\(c sF f 177 false).same (c sF k 177 false)/\True)) (by kernel_rfl) ?_;conv=>zeta
 try simp only[vcs]
 have hcast:∀k:Nat,((k:Nat):Int).toNat=k:=λk=>γl k;have hl:(fL (δ n.toNat 0)).length=n.toNat:=by rw[fE,γC]
 have hrow:∀{x y:List bL},x=y->(bq.row sF x 177 true).same (bq.row sF y 177 true):=by rintro _ _ rfl;rfl
 refine⟨n0,by omega,by omega,by omega,⟨hrow (by rw[yx,hl]),by omega,by omega⟩,?_⟩;rintro j ⟨j0,j1⟩;have oV:=@yw (fL (δ n.toNat 0)) j.toNat (false,([],[])) (by omega);refine⟨λhj=>?_,λhj=>?_⟩
 ·have hE:bj (fL (δ n.toNat 0)) j.toNat (false,([],[]))=bu 0:=by
   rw[jv (by rw[γC];omega),cY (by rw[γC];omega),List.getElem_replicate]
  have h0:(κ 0:Rat)=0:=rfl;simp only[h0,jM];exact⟨by omega,by omega,j0,by omega,by omega,by omega,by omega,hrow (by rw[yA (by omega) hE.symm,show(j+1).toNat=j.toNat+1 by omega]),by omega,by omega⟩
 ·rw[show j.toNat=(fL (δ n.toNat 0)).length by omega,yz];rfl
def r417:bM:=⟨185,List bL×bL×Int×List bL×bL,.cons (dF sF) (.cons (eh sF) (.cons (eZ .i64) (.cons (dF sF) (.one (eh sF))))),
 λa=>∃l b p c,(a.1=fL l/\a.2.1=bu b/\a.2.2.2.1=fL p/\a.2.2.2.2=bu c)/\(l.length=p.length/\l.length<=1000)/\(0<=a.2.2.1/\a.2.2.1<l.length)/\(∀q∈l,Sz 10000000 q)/\(∀q∈p,Sz 10000000 q)/\Sz 10000000 b/\Sz 10000000 c,
 λa=> .bI [.row sF (fL (kp (vL a.1) a.2.2.1.toNat (vL a.2.2.2.1))),pS (bV a.2.1 - bj (vL a.1) a.2.2.1.toNat 0*bV a.2.2.2.2)]⟩
def adr (l:List Rat) (b:Rat) (c:Int) (p:List Rat) (pb:Rat):Nat->cE
 |6=> .inv Int (λj=>⟨[(2,.si .i64 c),(3,.row sF (fL p)),(6,.ptr 0 0 3),(9,.ptr 1 0 3),(11,.ptr 2 0 3),(12,.ptr 3 0 3),(13,.ow 4 l.length 3),(28,.row sF (fL l)),(29,.si .i64 l.length),(30,.si .i64 j)],
   [.cells [.sb (bu b).1,.row (.i .u32) (bu b).2.1,.row (.i .u32) (bu b).2.2] 177 3 false,.cells [.sb (bu pb).1,.row (.i .u32) (bu pb).2.1,.row (.i .u32) (bu pb).2.2] 177 3 false,
    .cells [.bl false,.sc (.slice none 0 0),.sc (.slice none 0 0)] 177 3 false,.cells [.sb (bu (bj l c.toNat 0)).1,.row (.i .u32) (bu (bj l c.toNat 0)).2.1,.row (.i .u32) (bu (bj l c.toNat 0)).2.2] 177 3 false,
    .row sF (eU (fL (kp l c.toNat p)) j.toNat (false,([],[]))) 177 true]⟩)
   (λs=>iS s 30) (λj=>0<=j/\j<=l.length) (λj=>(l.length - j).toNat) λ_ _=> .look
 |_=> .look
theorem h417:Holds Tryz.prog r417:=by
 refine cF (L:=[sT,A6,yp,A5]) r417 (λa=>adr (vL a.1) (bV a.2.1) a.2.2.1 (vL a.2.2.2.1) (bV a.2.2.2.2)) (by simpa using⟨h99,h410,h130,h95⟩) ?_;rintro⟨l',b',c,p',pb'⟩ ⟨l,b,p,pb,⟨e1,e2,e3,e4⟩,⟨g1,g2⟩,⟨c0,c1⟩,hl,hp,hb,hpb⟩;simp only at e1 e2 e3 e4 c0 c1;subst e1 e2 e3 e4;refine bO (let a:=Ψ;let d:=(0:Int);let e:=γh .i64;let f:=bq.cells;let g:=bq.row;let h:=γv;let j:=sF.dflt;let k:=γO;let m:=γM;let n:=SV.bI;let F:=bj (fL l) c.toNat j;let a2:=(F.fst,F.snd.fst,F.snd.snd);let o:=bp.i .u32;let t:=(↑(fL l).length:Int);let L:=fL (kp (vL (fL l)) c.toNat (vL (fL p)));let v:=bV (bu b);let w:=bj (vL (fL l)) c.toNat (0:Rat);let y:=bV (bu pb);let a3:=(bu (v - w*y)).snd;let a4:=n [a sF L,m [h (bu (v - w*y)).fst,a o a3.fst,a o a3.snd]];let z:=fL (vL (fL p));let G:=a sF z;let A:=k 0 0 3;let B:=k 1 0 3;let C:=k 2 0 3;let D:=k 3 0 3;let wy:Nat:=(vL (fL l)).length;let H:=γZ 4 wy 3;let I:=fL (vL (fL l));let J:=a sF I;let r:=(↑wy:Int);let K:=e r;let a5:=SV.sc (Value.slice none 0 0);let E:=f [SV.bl false,a5,a5] 177 3 false;let M:=(false,[],[]);let N:=((bu w).fst,(bu w).snd.fst,(bu w).snd.snd);let O:=f [h (bu v).fst,a o (bu v).snd.fst,a o (bu v).snd.snd] 177 3 false;let P:=f [h (bu y).fst,a o (bu y).snd.fst,a o (bu y).snd.snd] 177 3 false;let Q:=f [h (bu w).fst,a o (bu w).snd.fst,a o (bu w).snd.snd] 177 3 false;let a6:=((bu y).fst,(bu y).snd.fst,(bu y).snd.snd);let a7:=((bu v).fst,(bu v).snd.fst,(bu v).snd.snd);let S:=bu (bV N*bV a6);let a8:=(S.fst,S.snd.fst,S.snd.snd);let U:=bu (bV a7 - bV a8);let a9:=λ(u:Bool) ↦decide (jL (bV a2)=d)=u;let V:=λ(u:bp.b.T) (u_1:(o.bF.pair o.bF).T) (u_2:Rat) ↦(f [h u,a o u_1.fst,a o u_1.snd] 177 3 false).same (f [h (bu u_2).fst,a o (bu u_2).snd.fst,a o (bu u_2).snd.snd] 177 3 false);d<=c/\c<t/\c.toNat<(fL l).length/\cC a2/\(a9 true->(n [a sF (fL l),m [h (bu b).fst,a o (bu b).snd.fst,a o (bu b).snd.snd]]).same a4)/\(a9 false->d<=t/\t<=t/\t*(56:Int)<=(140737488355328:Int)/\t<=(1000000000000:Int)/\((((e c).same (e c)/\(a sF (fL p)).same G/\A.same A/\B.same B/\C.same C/\D.same D/\(γZ 4 t.toNat 3).same H/\(a sF (fL l)).same J/\(e t).same K/\(γx .i64 0).same (e 0)/\True)/\V (bu b).fst (bu b).snd v/\V (bu pb).fst (bu pb).snd y/\E.same E/\V F.fst F.snd w/\(g (bp.b.pair (o.bF.pair o.bF)) (δ t.toNat M) 177 true).same (g sF (eU L 0 M) 177 true)/\True)/\d<=d/\d<=r)/\∀(x:Int),let W:=bj z x.toNat j;let X:=(W.fst,W.snd.fst,W.snd.snd);let Y:=bu (bV N*bV X);let Z:=(Y.fst,Y.snd.fst,Y.snd.snd);let q:=eU L x.toNat M;let s:=x+(1:Int);let R:=e s;let aa:=g sF (eU L s.toNat M) 177 true;let a0:=bj I x.toNat j;let ab:=(a0.fst,a0.snd.fst,a0.snd.snd);let ac:=cC Z;let ad:=cC N/\cC X;let ae:=λ(u:Rat) ↦wy=q.length/\d<=x/\x<(↑q.length:Int)/\wy=q.length/\x.toNat<q.length/\cq .i64 s/\(((e c).same (e c)/\G.same G/\A.same A/\B.same B/\C.same C/\D.same D/\H.same H/\J.same J/\K.same K/\R.same R/\True)/\O.same O/\P.same P/\E.same E/\Q.same Q/\(g sF (q.set x.toNat ((bu u).fst,(bu u).snd.fst,(bu u).snd.snd)) 177 true).same aa/\True)/\(d<=s/\s<=r)/\(r - s).toNat<(r - x).toNat;let af:=λ(u:Bool) ↦decide (jL (bV X)=d)=u;let ag:=λ(u:List bL) ↦let a1:=bj u x.toNat j;cC (a1.fst,a1.snd.fst,a1.snd.snd);d<=x/\x<=r->(decide (x<r)=true->d<=x/\x<(↑I.length:Int)/\x.toNat<I.length/\(decide (x=c)=true->d<=x/\x<(↑z.length:Int)/\x.toNat<z.length/\ad/\ac/\ae (-bV Z))/\(decide (x=c)=false->d<=x/\x<(↑z.length:Int)/\x.toNat<z.length/\ag z/\(af true->wy=q.length/\d<=x/\x<(↑q.length:Int)/\wy=q.length/\x.toNat<q.length/\cq .i64 s/\(((e c).same (e c)/\G.same G/\A.same A/\B.same B/\C.same C/\D.same D/\H.same H/\J.same J/\K.same K/\R.same R/\True)/\O.same O/\P.same P/\E.same E/\Q.same Q/\(g sF (q.set x.toNat ab) 177 true).same aa/\True)/\(d<=s/\s<=r)/\(r - s).toNat<(r - x).toNat)/\(af false->d<=x/\x<(↑z.length:Int)/\x.toNat<z.length/\ad/\(ag I/\ac)/\ae (bV ab - bV Z))))/\(decide (x<r)=false->(cC N/\cC a6)/\(cC a7/\cC a8)/\wy=q.length/\(n [a sF q,m [h U.fst,a o U.snd.fst,a o U.snd.snd]]).same a4))) (by kernel_rfl) ?_;simp only[kN,eC];try simp only[vcs]
 have hfl:=@fE l;have hfp:=@fE p;have hel:(kp l c.toNat p).length=l.length:=D3;have hfe:=@fE (kp l c.toNat p);have hA:bj (fL l) c.toNat sF.dflt=bu (bj l c.toNat 0):=jv (by omega);have hzc:=hl _ (dr (d:=0) (show c.toNat<l.length by omega));have hcast:∀k:Nat,((k:Nat):Int).toNat=k:=λk=>γl k;have hag:∀{x y:Rat},x=y->(γM [γv (bu x).1,Ψ (bp.i IntKind.u32) (bu x).2.1,Ψ (bp.i IntKind.u32) (bu x).2.2]).same (γM [γv (bu y).1,Ψ (bp.i IntKind.u32) (bu y).2.1,Ψ (bp.i IntKind.u32) (bu y).2.2]):=by rintro _ _ rfl;rfl
 have hrow:∀{x y:List bL},x=y->(bq.row sF x 177 true).same (bq.row sF y 177 true):=by rintro _ _ rfl;rfl
 simp only[hA,jM,eC,JK,hcast];refine⟨c0,by omega,by omega,dP hzc (by omega),λhz=>⟨by rw[elim_none hz (by omega)],hag (by rw[hz];grind)⟩,λhz=>⟨by omega,by omega,by omega,by omega,⟨⟨⟨by rw[hfl];rfl,by omega⟩,rfl,hrow (by rw[yx,hfe,hel,hfl])⟩,by omega,by omega⟩,?_⟩⟩;rintro j ⟨j0,j1⟩;have oV:=@yw (fL (kp l c.toNat p)) j.toNat (false,([],[])) (by omega);refine⟨λhj=>?_,λhj=>?_⟩
 ·have hP:bj (fL p) j.toNat sF.dflt=bu (bj p j.toNat 0):=jv (by omega);have hL:bj (fL l) j.toNat sF.dflt=bu (bj l j.toNat 0):=jv (by omega);have Ep:=hp _ (dr (d:=0) (show j.toNat<p.length by omega));have hzl:=hl _ (dr (d:=0) (show j.toNat<l.length by omega));have hE:bj (fL (kp l c.toNat p)) j.toNat (false,([],[]))=bu (if j.toNat=c.toNat then -(bj l c.toNat 0*bj p j.toNat 0) else bj l j.toNat 0 - bj l c.toNat 0*bj p j.toNat 0):=by
   rw[jv (by omega),D4 (by omega)]
  have hm:=uA hzc Ep;have tail:(0<=j+1/\j+1<=(l.length:Int))/\((l.length:Int) - (j+1)).toNat<((l.length:Int) - j).toNat:=by omega
  have step:∀{x:bL},x=bj (fL (kp l c.toNat p)) j.toNat (false,([],[]))->(bq.row sF ((eU (fL (kp l c.toNat p)) j.toNat (false,([],[]))).set j.toNat x) 177 true).same (bq.row sF (eU (fL (kp l c.toNat p)) (j+1).toNat (false,([],[]))) 177 true):=λh=>hrow (by
   rw[yA (by omega) h,show(j+1).toNat=j.toNat+1 by omega]);simp only[hP,hL,jM,eC,JK];refine⟨j0,by omega,by omega,λhjc=>⟨j0,by omega,by omega,⟨dP hzc (by omega),dP Ep (by omega)⟩,dP hm (by omega),by omega,j0,by omega,by omega,by omega,by omega,step ?_,tail⟩,λhjc=>⟨j0,by omega,by omega,dP Ep (by omega),λhpz=>⟨by omega,j0,by omega,by omega,by omega,by omega,step ?_,tail⟩,λhpz=>⟨j0,by omega,by omega,⟨dP hzc (by omega),dP Ep (by omega)⟩,⟨dP hzl (by omega),dP hm (by omega)⟩,by omega,j0,by omega,by omega,by omega,by omega,step ?_,tail⟩⟩⟩;·rw[hE,if_pos (by omega)]
  ·rw[hE,if_neg (by omega),hpz];congr 1;grind
  ·rw[hE,if_neg (by omega)]
 ·rw[show j.toNat=(fL (kp l c.toNat p)).length by omega,yz];exact⟨⟨dP hzc (by omega),dP hpb (by omega)⟩,⟨dP hb (by omega),dP (uA hzc hpb) (by omega)⟩,by omega,rfl,rfl⟩
end Go.Vi
