/-
  Contracts: natural numbers of any size: DivMod.
  Conditions: none.
-/
import Derived.Test.YtlphnffeeefcdaaGreatWD06
import Derived.Test.YtlphnffeeefcdaaGreatWD07
import Derived.Test.YtlphnffeeefcdaaGreatWD08
import Derived.Test.YtlphnffeeefcdaaGreatWD04
import Derived.Test.YtlphnffeeefcdaaGreatProg
import Derived.Shelf.Sort.AssemblyIn
import Derived.Shelf.SlicesE.Clone
import Derived.Shelf.SlicesE.Delete
import Derived.KernelRfl
set_option maxRecDepth 100000
set_option maxHeartbeats 4000000
set_option linter.all false
open And renaming intro->γi
open Bool renaming and_true->γ8
open Classical renaming byContradiction->δU
open Go.Vi.SV renaming row->Θ,si->γe,il->γx,agg->γQ,sb->γw
open Int renaming emod_nonneg->δj,emod_lt_of_pos->γZ,pow_pos->δL,mul_nonneg->γv,le_of_lt->γj,mul_zero->δJ,add_zero->εh,mul_pos->εs,toNat_natCast->Ψ,ediv_nonneg->δY,mul_neg_of_neg_of_pos->εo,natAbs_mul->εn,toNat_of_nonneg->εu
open IntCast renaming intCast->ι
open List renaming replicate->δ,drop->γ4,take->ω,eq_nil_of_length_eq_zero->Φ,take_length->π,length_take->γq,length->γf,foldr_cons->εS,foldr->ζT,length_cons->γB,map_cons->ξ,set_eq_take_append_cons_drop->εB,getElem_cons_drop->ζq,range->ψ,cons_append->γy,nodup_append->γu,length_map->Ω,mem_map->γa,getElem_of_mem->γF,mem_append->γh,length_append->γg,map_map->δg,map_congr_left->γV,map_nil->γs
open List.cons renaming injEq->Δ
open Nat renaming gcd_le_right->ζP
open Option.some renaming injEq->γ
open Rat renaming num_eq_zero->ζu,mkRat_self->δT,mkRat_eq_div->δA,intCast_natCast->εR,not_le->ζJ,mul_nonneg->δw
namespace Go.Vi
open Go.Proofs.YtlphnffeeefcdaaGreat.Ir
open Go.Proofs
def QD:List bL:=[rj,xM,zM,Ih,xX,I0]
theorem hQD:∀c∈QD,Holds Tryz.prog c:=by
 simp only[QD,List.forall_mem_cons,List.not_mem_nil,false_implies,implies_true,and_true];grind[h152,h132,h154,h167,h128,h168p]
def WD:List dF:=[I1,Is]
theorem hWD:∀c∈WD,dZ Tryz.prog c:=by
 simp_all[WD,h168,h169]
def DF:bL:=⟨176,List Int×List Int,.cons (dM (.i .u32)) (.one (dM (.i .u32))),λa=>(bz a.1/\bz a.2)/\(a.1.length<=10000000000/\a.2.length<=10000000000)/\0<bk a.2,
 λa=> .bJ [.row (.i .u32) (cM (bk a.1 / bk a.2)),.row (.i .u32) (cM (bk a.1 % bk a.2)),.si .i64 0]⟩
def rm (a:List Int×List Int) (s:Int):Prop:=(0<=s/\s<=31)/\bj (bI a.2) ((bI a.2).length - 1) 0*2^s.toNat<4294967296/\2147483648<=bj (bI a.2) ((bI a.2).length - 1) 0*2^s.toNat
def abk (a:List Int×List Int):Nat->cC
 |10=> .inv Int (λs=>⟨[(0,.row (.i .u32) (bI a.1)),(1,.row (.i .u32) (bI a.2)),(9,.si .u64 s)],[]⟩) (λs=>iS s 9)
  (λs=>(0<=s/\s<=31)/\bj (bI a.2) ((bI a.2).length - 1) 0*2^s.toNat<4294967296) (λs=>(32 - s).toNat) λ_ _=> .look
 |17=> .inv (Int×Int×List Int×List Int) (λx=>⟨[(4,.ow 1 x.2.2.2.length 1),(9,.si .u64 x.2.1),(10,.ow 0 x.2.2.1.length 1),(11,.row (.i .u32) (bI (shl (bI a.2) x.2.1.toNat))),(12,.si .i64 (bI (shl (bI a.2) x.2.1.toNat)).length),
   (13,.si .i64 ((bI a.1).length - (bI a.2).length)),(74,.si .i64 ((bI a.1).length - (bI a.2).length+1)),(75,.si .i64 x.1)],[.row (.i .u32) x.2.2.1 187 false,.row (.i .u32) x.2.2.2 187 true]⟩)
  (λs=>(iS s 75,iS s 9,oS (.i .u32) s 0,oS (.i .u32) s 1))
  (λx=>(0<=x.1/\x.1<=(bI a.1).length - (bI a.2).length+1)/\rm a x.2.1/\(bz x.2.2.1/\x.2.2.1.length=(bI a.1).length+1)/\(bz x.2.2.2/\x.2.2.2.length=(bI a.1).length - (bI a.2).length+1)/\
   (∀j:Nat,(j:Int)<(bI a.1).length - (bI a.2).length+1 - x.1->bj x.2.2.2 j 0=0)/\
   bk x.2.2.1+bk (bI (shl (bI a.2) x.2.1.toNat))*bk x.2.2.2=bk (bI a.1)*2^x.2.1.toNat/\
   bk (x.2.2.1.drop (((bI a.1).length - (bI a.2).length+1 - x.1:Int).toNat))<bk (bI (shl (bI a.2) x.2.1.toNat)))
  (λx=>((bI a.1).length - (bI a.2).length+1 - x.1:Int).toNat) λ_ _=> .look
 |24=> .inv (Int×Int×List Int×List Int×List Int) (λx=>⟨[(4,.ow 1 x.2.2.2.1.length 1),(5,.ow 2 x.2.2.2.2.length 1),(9,.si .u64 x.2.1),(10,.ow 0 x.2.2.1.length 1),(100,.si .i64 (bI (shl (bI a.2) x.2.1.toNat)).length),(101,.si .i64 x.1)],
   [.row (.i .u32) x.2.2.1 187 false,.row (.i .u32) x.2.2.2.1 187 true,.row (.i .u32) x.2.2.2.2 187 true]⟩)
  (λs=>(iS s 101,iS s 9,oS (.i .u32) s 0,oS (.i .u32) s 1,oS (.i .u32) s 2))
  (λx=>(0<=x.1/\x.1<=(bI (shl (bI a.2) x.2.1.toNat)).length)/\rm a x.2.1/\(bz x.2.2.1/\x.2.2.1.length=(bI a.1).length+1)/\(bz x.2.2.2.1/\x.2.2.2.1.length=(bI a.1).length - (bI a.2).length+1)/\
   bk x.2.2.1+bk (bI (shl (bI a.2) x.2.1.toNat))*bk x.2.2.2.1=bk (bI a.1)*2^x.2.1.toNat/\bk x.2.2.1<bk (bI (shl (bI a.2) x.2.1.toNat))/\
   (bz x.2.2.2.2/\x.2.2.2.2.length=(bI (shl (bI a.2) x.2.1.toNat)).length)/\(∀j,x.1.toNat<=j->bj x.2.2.2.2 j 0=0)/\
   2^x.2.1.toNat*bk x.2.2.2.2=bk (x.2.2.1.take x.1.toNat) - bj x.2.2.1 0 0 % 2^x.2.1.toNat+4294967296^x.1.toNat*(bj x.2.2.1 x.1.toNat 0 % 2^x.2.1.toNat))
  (λx=>((bI (shl (bI a.2) x.2.1.toNat)).length - x.1).toNat) λ_ _=> .look
 |_=> .look
theorem h166g:Holds Tryz.prog DF:=by
 refine con (L:=QD) (W:=gB WD) DF abk (ln hWD) hQD ?_;rintro⟨a,b⟩ ⟨⟨ha,hb⟩,⟨hla,hlb⟩,b0⟩;simp only at ha hb hla hlb b0;refine bO (let c:=(0:Int);let d:=(4294967296:Int);let e:=(18446744073709551616:Int);let f:=Θ;let g:=γe .i64;let h:=cn .i64;let k:=bq.row;let l:=(1:Int);let m:=SV.ow;let n:=(32:Int);let o:=(140737488355328:Int);let p:=(1000000000000:Int);let q:=(2:Int);let r:=SV.bJ;let s:=(31:Int);let z0:Nat:=(bI b).length;let Q:=(↑z0:Int);let ay:=decide (Q=c);let aj:=f (bp.i .i64) [];let t:=bp.i .u32;let ak:=g 0;let aa:=r [f t (cM (bk a / bk b)),f t (cM (bk a % bk b)),ak];let z7:Nat:=(bI a).length;let z8:Nat:=(bI b).length;let G:=bk (bI a);let az:=decide (lS G (bk (bI b))<c);let a3:=γx .i64 0;let aA:=decide (Q=l);let ab:=bj (bI b) 0 c;let al:=G % ab % e;let am:=bj (bI b) (z8 - 1) c;let a4:=Q - l;let an:=(↑(bI a).length:Int) - Q;let C:=an+l;let R:=δ C.toNat c;let ao:=(↑z7:Int) - (↑z8:Int);let ap:=g ao;let y:=ao+l;let aq:=g y;let aB:=k t R 187 true;let M:=z7+1;let N:=z7 - z8+1;a.length<=1000000000000/\b.length<=1000000000000/\(ay=true->(r [aj,aj,γx .i64 8]).same aa)/\(ay=false->((bz (bI a)/\bz (bI b))/\z7<=1000000000000/\z8<=1000000000000)/\(az=true->((bz (bI a)/\bz [])/\z7<=100000000000/\0<=100000000000)/\(r [aj,f t (cM (G+bk [])),a3]).same aa)/\(az=false->(aA=true->c<=c/\c<Q/\0<z0/\(bz (bI a)/\z7<=100000000000/\c<ab/\ab<d)/\(c<=al/\al<e)/\(r [f t (cM (G / ab)),f t (cM al),a3]).same aa)/\(aA=false->((((f t (bI a)).same (f t (bI a))/\(f t (bI b)).same (f t (bI b))/\(γx .u64 0).same (γe .u64 0)/\True)/\True)/\(c<=c/\c<=s)/\am*l<d)/\∀(x:Int),let ar:=q^x.toNat;let a5:=(x+l) % e;let aC:=γe .u64 a5;let aD:=shl (bI b) x.toNat;let S:=shl (bI a) x.toNat;let aE:=m 0 S.length 1;let T:=bI aD;let aF:=k t S 187 false;let aG:=λ(u:Bool) ↦decide (bj (bI b) a4.toNat c*ar % d<(2147483648:Int))=u;(c<=x/\x<=s)/\am*ar<d->h a4/\c<=a4/\a4<Q/\a4.toNat<z0/\c<=x/\x<=n/\(aG true->(((f t (bI a)).same (f t (bI a))/\(f t (bI b)).same (f t (bI b))/\aC.same aC/\True)/\True)/\((c<=a5/\a5<=s)/\am*q^a5.toNat<d)/\(n - a5).toNat<(n - x).toNat)/\(aG false->Ai (bI a,x)/\Ai (bI b,x)/\aD.length<=1000000000000/\h an/\h C/\c<=C/\C<=C/\C*(4:Int)<=o/\C<=p/\h C/\((((m 1 C.toNat 1).same (m 1 R.length 1)/\(γe .u64 x).same (γe .u64 x)/\aE.same aE/\(f t T).same (f t T)/\(g (↑T.length:Int)).same (g (↑T.length:Int))/\(g an).same ap/\(g C).same aq/\a3.same ak/\True)/\aF.same aF/\aB.same aB/\True)/\(c<=c/\c<=y)/\rm (a,b) x/\(bz S/\S.length=M)/\(bz R/\R.length=N)/\(∀(j:Nat),(↑j:Int)<y - c->bj R j c=c)/\bk S+bk T*bk R=G*ar/\bk (γ4 (y - c).toNat S)<bk T)/\∀(x:Int×Int×List Int×List Int),let D:=x.snd.snd.fst;let U:=bI (shl (bI b) x.snd.fst.toNat);let V:=bk U;let w:=x.snd.snd.snd;let ac:=q^x.snd.fst.toNat;let W:=D.length;let aH:=decide (x.fst<y);let H:=ao - x.fst;let z:=(↑U.length:Int);let a6:=H+z+l;let a7:=H.toNat;let a8:=a6.toNat;let I:=nj.mk D a7 (a8 - a7) W U;let O:=x.fst+l;let au:=m 1 w.length 1;let X:=w.set a7 (I.x / V);let ad:=γe .u64 x.snd.fst;let av:=m 0 W 1;let ae:=g z;let aI:=g O;let aJ:=k t I.row 187 false;let aK:=k t X 187 true;let Y:=δ z.toNat c;let aL:=k t D 187 false;let aM:=k t w 187 true;let aN:=k t Y 187 true;let aO:=bj D 0 c % ac;let aP:=bk D+V*bk w=G*ac;(c<=x.fst/\x.fst<=y)/\rm (a,b) x.snd.fst/\(bz D/\W=M)/\(bz w/\w.length=N)/\(∀(j:Nat),(↑j:Int)<y - x.fst->bj w j c=c)/\aP/\bk (γ4 (y - x.fst).toNat D)<V->(aH=true->h H/\h (H+z)/\h a6/\h (H+z)/\h a6/\W=D.length/\c<=H/\c<=a6/\c<=a6/\a7<=a8/\a8<=a8/\a8<=W/\I.ok/\w.length=w.length/\c<=H/\H<(↑w.length:Int)/\w.length=w.length/\a7<w.length/\h O/\((au.same (m 1 X.length 1)/\ad.same ad/\av.same (m 0 I.row.length 1)/\(f t U).same (f t U)/\ae.same ae/\ap.same ap/\aq.same aq/\aI.same aI/\True)/\aJ.same aJ/\aK.same aK/\True)/\((c<=O/\O<=y)/\rm (a,b) x.snd.fst/\(bz I.row/\I.row.length=M)/\(bz X/\X.length=N)/\(∀(j:Nat),(↑j:Int)<y - O->bj X j c=c)/\bk I.row+V*bk X=G*ac/\bk (γ4 (y - O).toNat I.row)<V)/\(y - O).toNat<(y - x.fst).toNat)/\(aH=false->c<=z/\z<=z/\z*(4:Int)<=o/\z<=p/\(((au.same au/\(m 2 z.toNat 1).same (m 2 Y.length 1)/\ad.same ad/\av.same av/\ae.same ae/\a3.same ak/\True)/\aL.same aL/\aM.same aM/\aN.same aN/\True)/\(c<=c/\c<=z)/\rm (a,b) x.snd.fst/\(bz D/\W=M)/\(bz w/\w.length=N)/\aP/\bk D<V/\(bz Y/\Y.length=U.length)/\(∀(j:Nat),0<=j->bj Y j c=c)/\ac*bk Y=bk [] - aO+l*aO)/\∀(x:Int×Int×List Int×List Int×List Int),let aQ:=γe .u64 x.snd.fst;let v:=x.snd.snd.fst;let aR:=m 0 v.length 1;let a9:=bI (shl (bI b) x.snd.fst.toNat);let af:=a9.length;let Z:=(↑af:Int);let aS:=g Z;let E:=x.fst+l;let aT:=g E;let A:=x.snd.snd.snd.snd;let P:=A.length;let F:=x.fst.toNat;let aU:=bj v F c;let J:=q^x.snd.fst.toNat;let B:=A.set F (aU / J);let K:=x.snd.snd.snd.fst;let a0:=K.length;let aV:=m 1 a0 1;let aW:=bj v 0 c % J;let aX:=decide (x.fst<Z);let L:=v.length;let aY:=decide (c<x.snd.fst);let a1:=E.toNat;let aw:=(n - x.snd.fst) % e;let aZ:=m 2 P 1;let b0:=bj v a1 c;let a2:=B.set F (gY.nK .u32 (bj B F c) (b0*q^aw.toNat % d));let ag:=k t v 187 false;let ah:=k t K 187 true;let b1:=k t a2 187 true;let b2:=bk (ω a1 v) - aW+d^a1*(b0 % J);let b3:=k t B 187 true;let b4:=aQ.same aQ/\aR.same aR/\aS.same aS/\aT.same aT/\True;let ai:=P=B.length;let b5:=x.fst<(↑B.length:Int);let b6:=F<B.length;let ax:=bk v+bk a9*bk K=G*J;let b7:=(Z - E).toNat<(Z - x.fst).toNat;let b8:=aV.same aV;let b9:=c<=E/\E<=Z;(c<=x.fst/\x.fst<=Z)/\rm (a,b) x.snd.fst/\(bz v/\v.length=M)/\(bz K/\a0=N)/\ax/\bk v<bk a9/\(bz A/\P=af)/\(∀(j:Nat),F<=j->bj A j c=c)/\J*bk A=bk (ω F v) - aW+d^F*(aU % J)->(aX=true->v.length=L/\c<=x.fst/\x.fst<(↑L:Int)/\v.length=L/\F<L/\c<=x.snd.fst/\x.snd.fst<=n/\P=A.length/\c<=x.fst/\x.fst<(↑A.length:Int)/\P=A.length/\F<A.length/\(aY=true->ai/\c<=x.fst/\b5/\ai/\b6/\h E/\v.length=L/\c<=E/\E<(↑L:Int)/\v.length=L/\a1<L/\c<=aw/\aw<=n/\ai/\c<=x.fst/\b5/\ai/\b6/\h E/\((b8/\aZ.same (m 2 a2.length 1)/\b4)/\ag.same ag/\ah.same ah/\b1.same b1/\True)/\(b9/\rm (a,b) x.snd.fst/\(bz v/\v.length=M)/\(bz K/\a0=N)/\ax/\bk v<bk a9/\(bz a2/\a2.length=af)/\(∀(j:Nat),a1<=j->bj a2 j c=c)/\J*bk a2=b2)/\b7)/\(aY=false->h E/\((b8/\aZ.same (m 2 B.length 1)/\b4)/\ag.same ag/\ah.same ah/\b3.same b3/\True)/\(b9/\rm (a,b) x.snd.fst/\(bz v/\v.length=M)/\(bz K/\a0=N)/\ax/\bk v<bk a9/\(bz B/\B.length=af)/\(∀(j:Nat),a1<=j->bj B j c=c)/\J*bk B=b2)/\b7))/\(aX=false->a0=K.length/\P=A.length/\a0<=1000000000000/\P<=1000000000000/\(r [f t (bI K),f t (bI A),a3]).same aa))))))) (by kernel_rfl) ?_;simp only[vcs];obtain⟨va,na⟩:=@rk a;obtain⟨vb,nb⟩:=@rk b;have da:=sj ha;have db:=sj hb;have la:=@tV a;have lb:=@tV b;have p0:=fb da;have d0:bz []:=by simp[bz]
 simp only[rm];rw[<-va,<-vb];rw[<-vb] at b0;generalize bI a=S at*;generalize bI b=T at*;have hm:=δj (bk S) (show bk T≠0 by omega);have hl:=γZ (bk S) b0;have hT1:T.length≠0:=by
  intro h;rw[Φ h] at b0;exact absurd b0 (by decide)
 refine⟨by omega,by omega,λh0=>by omega,λh0=>⟨⟨⟨da,db⟩,by omega,by omega⟩,λhlt=>⟨⟨⟨da,d0⟩,by omega,by omega⟩,?_⟩,λhge=>⟨λh1=>?_,λh1=>⟨?_,?_⟩⟩⟩⟩
 ·have hab:bk S<bk T:=by unfold lS at hlt;split at hlt<;>(try split at hlt)<;>omega
  have hdv:bk S / bk T=0:=Int.ediv_eq_zero_of_lt p0 hab;have hmv:bk S % bk T=bk S:=Int.emod_eq_of_lt p0 hab;refine⟨Q6 (by rw[hdv];rfl),?_⟩;rw[hmv];simp[bk]
 ·obtain⟨d,rfl⟩:∃d,T=[d]:=List.length_eq_one_iff.1 (by omega);have hd:=(jh.1 db).1;have abl:bj [d] 0 0=d:=rfl;have hv:bk [d]=d:=by simp[bk]
  rw[hv] at b0 hm hl ⊢;rw[abl];have hmm:bk S % d % 18446744073709551616=bk S % d:=by omega
  rw[hmm];repeat' refine γi ?_ ?_
  all_goals first|omega|exact da|rfl|(simp;done)
 ·have:=ec db (T.length - 1);repeat' refine γi ?_ ?_
  all_goals omega
 have C9:bk T<=bk S:=by unfold lS at hge;split at hge<;>(try split at hge)<;>omega
 have hlen:T.length<=S.length:=by
  by_cases h:S.length<T.length
  ·have:=xK da db nb h;omega
  ·omega
 have hTn:2<=T.length:=by omega
 clear hge h0 h1 hT1 va vb d0;rintro s ⟨⟨s0,s1⟩,hs⟩;have t1:((T.length:Int) - 1).toNat=T.length - 1:=by omega
 have hxt:=ec db (T.length - 1);have hps:(0:Int)<2^s.toNat:=δL (by decide);have hnn:0<=bj T (T.length - 1) 0*2^s.toNat:=γv hxt.1 (γj hps);have hmod:bj T (T.length - 1) 0*2^s.toNat % 4294967296=bj T (T.length - 1) 0*2^s.toNat:=by omega
 rw[t1,hmod];repeat refine γi (by omega) ?_
 refine⟨λhc=>?_,λhc=>?_⟩
 ·have htop:1<=bj T (T.length - 1) 0:=by
   by_cases h:1<=bj T (T.length - 1) 0;·exact h
   ·exfalso;have h4:=DD db nb (by rintro rfl;simp at hTn);have h5:bk T=bk (T.take (T.length - 1))+4294967296^(T.length - 1)*bj T (T.length - 1) 0:=by
     have:=@lQ T (T.length - 1);rwa [show T.length - 1+1=T.length by omega,π] at this
    have h6:=ng (nf db (T.length - 1));rw[γq,Nat.min_eq_left (by omega)] at h6;rw[show bj T (T.length - 1) 0=0 by omega,δJ] at h5;omega
  have h31:s<=30:=by
   by_cases h:s<=30;·exact h
   ·have abn:s.toNat=31:=by omega
    rw[abn,show(2:Int)^31=2147483648 from rfl] at hc;omega
  have e:((s+1) % 18446744073709551616)=s+1:=by omega
  have e2:(s+1).toNat=s.toNat+1:=by omega
  rw[e,e2,Int.pow_succ,<-Int.mul_assoc];repeat' refine γi ?_ ?_
  all_goals omega
 ·obtain⟨dw,lw,vw,tw,xY⟩:=I2 db (by omega) (show s.toNat<=31 by omega) hs (by omega);obtain⟨ds,ls,vs,hst⟩:=Rh da db (show s.toNat<=31 by omega) hlen (by omega) xY;have hds:∀z,Ai (z,s)↔(bz z/\z.length<=100000000000):=λz=>⟨λh=>⟨h.1,h.2.1⟩,λh=>⟨h.1,h.2,s0,s1⟩⟩;have bH:(shl T s.toNat).length=T.length+1:=zO;have bits:(0<=s/\s<=31)/\bj T (T.length - 1) 0*2^s.toNat<4294967296/\2147483648<=bj T (T.length - 1) 0*2^s.toNat:=⟨⟨s0,s1⟩,hs,by omega⟩;rw[hds,hds,bH,ls];refine⟨⟨da,by omega⟩,⟨db,by omega⟩,?_⟩;repeat refine γi (by omega) ?_
  refine⟨?_,?_⟩
  ·repeat' refine γi ?_ ?_
   all_goals first|omega|exact lV (by simp)|exact lV (by omega)|exact ds|exact Ah|exact λj _=>Q8|(simp;omega)|(rw[xU,δJ,εh];exact vs)|(rw[vw,show((S.length:Int) - T.length+1 - 0).toNat=S.length - T.length+1 by omega];exact hst)
  clear hst vs ls ds bits hds hmod hnn hps hxt xY tw vw lw dw bH t1 hc hs s0 s1;clear s;rintro⟨i,s,U,q⟩ ⟨⟨i0,i1⟩,⟨⟨s0,s1⟩,hs,hs2⟩,⟨hU,DG⟩,⟨hq,Ao⟩,hz,he,hlt⟩;simp only at i0 i1 s0 s1 hs hs2 hU DG hq Ao hz he hlt ⊢;obtain⟨dw,lw,vw,tw,xY⟩:=I2 db (by omega) (show s.toNat<=31 by omega) hs (by omega);generalize hw:bI (shl T s.toNat)=w at*;have hw0:0<bk w:=by
   rw[vw];exact εs b0 (δL (by decide))
  refine⟨λlR=>?_,λnh=>?_⟩
  ·obtain⟨j,hj⟩:∃j:Nat,(S.length:Int) - T.length - i=j:=⟨((S.length:Int) - T.length - i).toNat,by omega⟩;have e1:((j:Int)+w.length+1).toNat - j=w.length+1:=by omega
   have e2:((S.length:Int) - T.length+1 - i).toNat=j+1:=by omega
   rw[e2] at hlt;obtain⟨k1,⟨k2,k3⟩,⟨k4,k5⟩,k6,k7⟩:=abd (j:=j) (m:=S.length - T.length) hU dw hq (by omega) (by omega) (by omega) (by omega) hw0 (hz j (by omega)) he hlt;have e3:((S.length:Int) - T.length+1 - (i+1)).toNat=j:=by omega
   simp only[hj,e1,e3,Ψ,nj.row,nj.x,nj.ok];repeat' refine γi ?_ ?_
   all_goals first|omega|exact lV (by simp)|exact lV k3.symm|exact trivial|exact hU|exact dw|exact k1|exact k2|exact k6|exact k7|exact ni hq k4 k5|(simp;omega)|(rw[lw];exact tw)|exact λp hp=>by rw[pE (by omega)];exact hz p (by omega)
  ·have e2:((S.length:Int) - T.length+1 - i).toNat=0:=by omega
   rw[e2,List.drop_zero] at hlt;repeat refine γi (by omega) ?_
   refine⟨?_,?_⟩
   ·have h1:=@lQ U 0;simp only[List.take_zero,bk,Int.pow_zero,Int.one_mul];repeat' refine γi ?_ ?_
    all_goals first|omega|exact lV (by simp)|exact hU|exact hq|exact he|exact hlt|exact Ah|exact λj _=>Q8|(simp;done)|(rw[xU];omega)
   clear hlt hz e2 nh i0 i1 tw xY hw0 hs hs2 s0 s1 he hU DG hq Ao;clear hw dw lw vw;clear w s i U q;rintro⟨i,s,U,q,r⟩ ⟨⟨i0,i1⟩,⟨⟨s0,s1⟩,hs,hs2⟩,⟨hU,DG⟩,⟨hq,Ao⟩,he,hlt,⟨hr,hrl⟩,hz,hv⟩;simp only at i0 i1 s0 s1 hs hs2 hU DG hq Ao he hlt hr hrl hz hv ⊢;obtain⟨dw,lw,vw,tw,xY⟩:=I2 db (by omega) (show s.toNat<=31 by omega) hs (by omega);generalize hw:bI (shl T s.toNat)=w at*;refine⟨λlR=>?_,λnh=>?_⟩
   ·have x0:=ec hU i.toNat;have x1:=ec hU (i.toNat+1);have e1:(i+1).toNat=i.toNat+1:=by omega
    have x2:=ec hr i.toNat;have hps:(0:Int)<2^s.toNat:=δL (by decide);have y0:0<=bj U i.toNat 0 / 2^s.toNat:=δY x0.1 (γj hps);have y1:bj U i.toNat 0 / 2^s.toNat<=bj U i.toNat 0:=Int.ediv_le_self _ x0.1;have e2:((32 - s) % 18446744073709551616).toNat=32 - s.toNat:=by omega
    have e3:(r.set i.toNat (bj U i.toNat 0 / 2^s.toNat)).set i.toNat=r.set i.toNat:=by funext z;rw[List.set_set]
    simp only[e1,e2,e3,su (show i.toNat<r.length by omega),List.length_set];repeat refine γi (by omega) ?_
    refine⟨λhs0=>?_,λhs0=>?_⟩
    ·obtain⟨d,hd1,hd2,hd3⟩:=abe (s:=s.toNat) x0.1 x0.2 x1.1 x1.2 (by omega) (by omega);obtain⟨k1,k2,k3,k4⟩:=Ri hU hr (show i.toNat<r.length by omega) hz hd2 hd3 hv;rw[hd1];repeat' refine γi ?_ ?_
     all_goals first|omega|exact lV (by simp)|exact hU|exact hq|exact k1|exact k3|exact k4|exact he|exact hlt|trivial
    ·have abo:s.toNat=0:=by omega
     obtain⟨k1,k2,k3,k4⟩:=Ri (s:=s.toNat) (d:=bj U i.toNat 0 / 2^s.toNat) hU hr (show i.toNat<r.length by omega) hz ⟨y0,by omega⟩ (by rw[abo];simp) hv;repeat' refine γi ?_ ?_
     all_goals first|omega|exact lV (by simp)|exact hU|exact hq|exact k1|exact k3|exact k4|exact he|exact hlt|trivial
   ·have hi:i.toNat=w.length:=by omega
    rw[hi] at hv;obtain⟨w1,w2⟩:=abf hU hr dw rfl hlt vw b0 he (show s.toNat<=31 by omega) (by omega) hv;rw[qA hq,qA hr,w1,w2];repeat' refine γi ?_ ?_
    all_goals first|omega|rfl|trivial
theorem I3 {a b:List Int} (d:bz a) (c:bz b) (f:fE a) (h:bk a<=bk b):a.length<=b.length:=by
 by_cases e:a.length<=b.length;·exact e
 ·have:=xK c d f (by omega);omega
def DI:bL:=⟨151,List Int×List Int,.cons (dM (.i .u32)) (.one (dM (.i .u32))),λa=>(bz a.1/\bz a.2)/\(a.1.length<=1000000000/\a.2.length<=1000000000),
 λa=> .row (.i .u32) (cM (ew (bk a.1) (bk a.2)))⟩
def abp (a:List Int×List Int):Nat->cC
 |2=> .inv (List Int×List Int) (λx=>⟨[(0,.row (.i .u32) x.1),(1,.row (.i .u32) x.2)],[]⟩) (λs=>(rS (.i .u32) s 0,rS (.i .u32) s 1))
  (λx=>(bz x.1/\bz x.2)/\(fE x.1/\fE x.2)/\(x.1.length<=1000000000/\x.2.length<=1000000000)/\ew (bk x.1) (bk x.2)=ew (bk a.1) (bk a.2)) (λx=>(bk x.2).toNat) λ_ _=> .look
 |_=> .look
theorem h165g:Holds Tryz.prog DI:=by
 refine cF (L:=[zM,DF]) DI abp (by grind[h154,h166g]) ?_;rintro⟨a,b⟩ ⟨⟨l,k⟩,⟨n,m⟩⟩;simp only at l k n m;refine bO (let h:=Θ;let c:=bp.i .u32;let f:=cM (bk a+bk []);let e:=cM (bk b+bk []);let g:=ew (bk a) (bk b);((bz a/\bz [])/\a.length<=100000000000/\0<=100000000000)/\((bz b/\bz [])/\b.length<=100000000000/\0<=100000000000)/\((((h c f).same (h c f)/\(h c e).same (h c e)/\True)/\True)/\(bz f/\bz e)/\(fE f/\fE e)/\(f.length<=1000000000/\e.length<=1000000000)/\ew (bk f) (bk e)=g)/\∀(x:List Int×List Int),let v:=decide ((0:Int)<(↑x.snd.length:Int));let d:=cM (bk x.fst % bk x.snd);(bz x.fst/\bz x.snd)/\(fE x.fst/\fE x.snd)/\(x.fst.length<=1000000000/\x.snd.length<=1000000000)/\ew (bk x.fst) (bk x.snd)=g->(v=true->((bz x.fst/\bz x.snd)/\(x.fst.length<=10000000000/\x.snd.length<=10000000000)/\(0:Int)<bk x.snd)/\(false=true->(h c x.fst).same (h c (cM g)))/\(false=false->(((h c x.snd).same (h c x.snd)/\(h c d).same (h c d)/\True)/\True)/\((bz x.snd/\bz d)/\(fE x.snd/\fE d)/\(x.snd.length<=1000000000/\d.length<=1000000000)/\ew (bk x.snd) (bk d)=g)/\(bk d).toNat<(bk x.snd).toNat))/\(v=false->(h c x.fst).same (h c (cM g)))) (by kernel_rfl) ?_;simp only[vcs];have r:bz []:=by simp[bz]
 have N:=fb l;have E:=fb k;have z:bk []=0:=rfl;rw[z,εh,εh];obtain⟨Q,y,D⟩:=fW N;obtain⟨o,w,H⟩:=fW E;have p:(cM (bk a)).length<=1000000000:=by
  rw[<-qA l];grind[tV]
 have j:(cM (bk b)).length<=1000000000:=by
  rw[<-qA k];grind[tV]
 refine⟨⟨⟨l,r⟩,by omega,by omega⟩,⟨⟨k,r⟩,by omega,by omega⟩,⟨⟨y,w⟩,⟨D,H⟩,⟨p,j⟩,by rw[Q,o]⟩,?_⟩;rintro⟨s,t⟩ ⟨⟨u,q⟩,⟨J,C⟩,⟨O,G⟩,F⟩;simp only at u q J C G O F ⊢;have T:=fb u;have U:=fb q;refine⟨λB=>?_,λB=>?_⟩
 ·have h:0<bk t:=by
   grind[val_zero]
  have K:=δj (bk s) (show bk t≠0 by omega);have A:=γZ (bk s) h;obtain⟨I,M,S⟩:=fW K;have P:=I3 M q S (by rw[I];omega);grind[aa2]
 ·have R:t=[]:=Φ (by omega);grind[aa3,zL]
def pG (q:Rat):SV:=.agg (encS sF (bu q))
def cB (x:bM):Prop:=∃q k,x=bu q/\Sz k q/\k<=100000000
def fF (s:Bool) (n d:Int):Rat:=mkRat (if s then -n else n) d.toNat
def DJ:bL:=⟨110,Int,.one (eK .i64),λn=> -9223372036854775808<=(show Int from n)/\(show Int from n)<=9223372036854775807,λn=> .row (.i .u32) (cM ((show Int from n).natAbs:Int))⟩
theorem h127:Holds Tryz.prog DJ:=by
 refine cF (L:=[xX]) DJ lk (by grind[h128]) ?_;intro(n:Int) h;obtain⟨e,f⟩: -9223372036854775808<=n/\n<=9223372036854775807:=h;refine bO (let e:=(18446744073709551616:Int);let f:=(1:Int);let g:=(0:Int);let h:=Θ;let d:=decide (n<g);let a:=(-(n+f)+f) % e;let b:=bp.i .u32;let c:=h b (cM (↑n.natAbs:Int));(d=true->cn .i64 (n+f)/\cn .i64 (-(n+f))/\cn .u64 (-(n+f))/\(g<=a/\a<e)/\(h b (cM a)).same c)/\(d=false->cn .u64 n/\(g<=n/\n<e)/\(h b (cM n)).same c)) (by kernel_rfl) ?_;simp only[vcs];grind[u64_in]
def Ap:bL:=⟨147,Bool×(List Int×List Int),.cons O2 (.cons (dM (.i .u32)) (.one (dM (.i .u32)))),λa=>(bz a.2.1/\bz a.2.2)/\(a.2.1.length<=1000000000/\a.2.2.length<=1000000000)/\0<bk a.2.2,
 λa=> .bJ [pG (fF a.1 (bk a.2.1) (bk a.2.2)),.si .i64 0]⟩
theorem h151:Holds Tryz.prog Ap:=by
 refine cF (L:=[DI,DF]) Ap lk (by grind[h165g,h166g]) ?_;rintro⟨s,n,d⟩ ⟨⟨c,f⟩,⟨t,p⟩,j⟩;simp only at c f t p j;refine bO (let b:=SV.bl false;let c:=γx .i64;let e:=Θ;let f:=(0:Int);let g:=γQ;let h:=SV.bJ;let k:=e (bp.i .i64) [];let w:=bu (fF s (bk n) (bk d));let l:=bp.i .u32;let y:=h [g [γw w.fst,e l w.snd.fst,e l w.snd.snd],γe .i64 0];let a:=cM (ew (bk n) (bk d));let C:=cM (bk n / bk a);let B:=decide ((↑d.length:Int)=f);let F:=false=true->(h [g [b,k,k],c 8]).same y;let E:=λ(u:Bool) (v:SV) ↦s=u->(h [g [v,e l C,e l (cM (bk d / bk a))],c 0]).same y;(B=true->(h [g [b,k,k],c 8]).same y)/\(B=false->((bz n/\bz d)/\n.length<=1000000000/\d.length<=1000000000)/\((bz n/\bz a)/\(n.length<=10000000000/\a.length<=10000000000)/\f<bk a)/\((bz d/\bz a)/\(d.length<=10000000000/\a.length<=10000000000)/\f<bk a)/\F/\(false=false->F/\(false=false->E true (γw (decide (f<(↑C.length:Int))))/\E false (b))))) (by kernel_rfl) ?_;simp only[vcs];have D:=fb c;have b:0<ew (bk n) (bk d):=by
  simp_all[ew]
 have K:ew (bk n) (bk d)<=bk d:=by
  unfold ew;have:=ζP (bk n).toNat (show 0<(bk d).toNat by omega);omega
 have o:ew (bk n) (bk d)∣bk n:=by
  unfold ew;have:=Nat.gcd_dvd_left (bk n).toNat (bk d).toNat;have S:=Int.natCast_dvd_natCast.2 this;grind
 obtain⟨R,q,Q⟩:=fW (γj b);have I:=I3 q (sj f) Q (by grind[rk]);have P:=@tV d;have A:0<=bk n / ew (bk n) (bk d):=δY D (γj b);obtain⟨N,H,M⟩:=fW A;have G:(0<((cM (bk n / ew (bk n) (bk d))).length:Int))↔0<bk n:=by
  obtain⟨m,e⟩:=o;have r:bk n / ew (bk n) (bk d)=m:=by
   conv=>lhs;arg 1;rw[e]
   rw[Int.mul_ediv_cancel_left _ (by omega)]
  rw[r] at N H M ⊢;have z:0<bk n↔0<m:=by
   generalize ew (bk n) (bk d)=g at*;rw[e];constructor;·grind
   ·intro h;exact εs b h
  rw[z];constructor
  ·intro h;by_cases e:m=0;·rw[e] at h;exact absurd h (by decide)
   ·omega
  ·intro h;by_cases T:(cM m).length=0<;>grind[cM,bk]
 have O:d.length≠0:=by
  intro h;rw[Φ h] at j;exact absurd j (by decide)
 unfold fF;rw[Rl D j,R];simp only;refine⟨λh=>absurd h (by omega),λ_=>⟨⟨⟨c,f⟩,by omega,by omega⟩,⟨⟨c,q⟩,by omega,b⟩,⟨⟨f,q⟩,by omega,b⟩,?_⟩⟩;have J:decide (0<((cM (bk n / ew (bk n) (bk d))).length:Int))=decide (0<bk n):=by
  simp_all
 refine⟨λh=>absurd h (by decide),λ_=>⟨λh=>absurd h (by decide),λ_=>⟨λx=>?_,λx=>?_⟩⟩⟩
 ·rw[x,J];rfl
 ·rw[x];rfl
def xZ:bL:=⟨109,Bool×(List Int×List Int),.cons O2 (.cons (dM (.i .u32)) (.one (dM (.i .u32)))),λa=>(bz a.2.1/\bz a.2.2)/\(a.2.1.length<=1000000000/\a.2.2.length<=1000000000)/\0<bk a.2.2,
 λa=>pG (fF a.1 (bk a.2.1) (bk a.2.2))⟩
theorem h126:Holds Tryz.prog xZ:=by
 refine cF (L:=[Ap]) xZ lk (by grind[h151]) ?_;rintro⟨s,n,d⟩ ⟨⟨h,g⟩,⟨a,c⟩,f⟩;simp only at h g a c f;refine bO (let b:=bu (fF s (bk n) (bk d));let e:=γQ [γw b.fst,Θ (bp.i .u32) b.snd.fst,Θ (bp.i .u32) b.snd.snd];((bz n/\bz d)/\(n.length<=1000000000/\d.length<=1000000000)/\(0:Int)<bk d)/\e.same e) (by kernel_rfl) ?_;simp_all[vcs]
def nY:bL:=⟨73,Int,.one (eK .i64),λn=> -9223372036854775808<=(show Int from n)/\(show Int from n)<=9223372036854775807,λn=>pG ((show Int from n):Rat)⟩
theorem h94:Holds Tryz.prog nY:=by
 refine cF (L:=[DJ,xX,xZ]) nY lk (by grind[h127,h128,h126]) ?_;intro(n:Int) h;obtain⟨o,p⟩: -9223372036854775808<=n/\n<=9223372036854775807:=h;refine bO (let e:=Θ;let g:=(1:Int);let h:=(0:Int);let c:=cM (↑n.natAbs:Int);let b:=cM g;let f:=bu (fF (decide (n<h)) (bk c) (bk b));let a:=bp.i .u32;let d:=bu (ι n);((-9223372036854775808:Int)<=n/\n<=(9223372036854775807:Int))/\(h<=g/\g<(18446744073709551616:Int))/\((bz c/\bz b)/\(c.length<=1000000000/\b.length<=1000000000)/\h<bk b)/\(γQ [γw f.fst,e a f.snd.fst,e a f.snd.snd]).same (γQ [γw d.fst,e a d.snd.fst,e a d.snd.snd])) (by kernel_rfl) ?_;conv=>zeta
 obtain⟨j,g,t⟩:=fW (show(0:Int)<=(n.natAbs:Int) by omega);obtain⟨l,m,s⟩:=fW (show(0:Int)<=1 by omega);have u:=mA (k:=2) (show(0:Int)<=(n.natAbs:Int) by omega) (by omega);have q:=mA (k:=1) (show(0:Int)<=1 by omega) (by decide);refine⟨⟨o,p⟩,⟨by omega,by omega⟩,⟨⟨g,m⟩,⟨by omega,by omega⟩,by omega⟩,?_⟩;have e:fF (decide (n<0)) (bk (cM (n.natAbs:Int))) (bk (cM 1))=ι n:=by
  rw[j,l];unfold fF;have r:(if decide (n<0)=true then -(n.natAbs:Int) else(n.natAbs:Int))=n:=by
   grind
  grind[Rat.mkRat_one]
 rw[e];rfl
def jA (q:Rat):Int:=if q<0 then -1 else if 0<q then 1 else 0
def sx:bL:=⟨115,bM,.one (eG sF),cB,λx=> .si .i64 (jA (bQ x))⟩
theorem h99:Holds Tryz.prog sx:=by
 refine cF (L:=[]) sx lk (by simp) ?_;intro(x:bM) h;obtain⟨q,k,rfl,m,f⟩:cB x:=h;refine bO (let c:=γx .i64;let b:=decide ((↑(γf (bu q).snd.fst):Int)=(0:Int));let a:=γe .i64 (jA (bQ (bu q)));(b=true->(c 0).same a)/\(b=false->((bu q).fst=true->(c (-1:Int)).same a)/\((bu q).fst=false->(c 1).same a))) (by kernel_rfl) ?_;simp only[vcs];rw[ez];have e:((bu q).2.1.length:Int)=0↔q.num=0:=by
  unfold bu;simp only;obtain⟨d,j,i⟩:=fW (show(0:Int)<=(q.num.natAbs:Int) by omega);constructor
  ·intro h;rw[Φ (by omega:(cM (q.num.natAbs:Int)).length=0)] at d;grind[bk]
  ·intro h;rw[h];rfl
 have c:(bu q).1=decide (q<0):=rfl;have n:=@Rat.num_nonneg q;have l:q<0↔q.num<0:=by
  grind
 have g:0<q↔0<q.num:=by
  grind[ζu]
 rw[e,c];simp only[decide_eq_true_eq,decide_eq_false_iff_not];unfold jA;grind
def vN (x:bM):Prop:=(bz x.2.1/\bz x.2.2)/\x.2.1.length<=100000000/\x.2.2.length<=100000000
def DK:bL:=⟨112,bM×bM,.cons (eG sF) (.one (eG sF)),λa=>vN a.1/\vN a.2,λa=> .bJ [.row (.i .u32) (cM (bk a.1.2.1*bk a.2.2.2)),.row (.i .u32) (cM (bk a.2.2.1*bk a.1.2.2))]⟩
theorem h131:Holds Tryz.prog DK:=by
 refine cF (L:=[xW]) DK lk (by grind[h153]) ?_;rintro⟨⟨s,n,d⟩,⟨o,b,a⟩⟩ ⟨⟨⟨e,j⟩,g,f⟩,⟨⟨k,h⟩,l,m⟩⟩;simp only at e j g f k h l m;refine bO (let c:=SV.bJ [Θ (bp.i .u32) (cM (bk n*bk a)),Θ (bp.i .u32) (cM (bk b*bk d))];((bz n/\bz a)/\n.length<=100000000000/\a.length<=100000000000)/\((bz b/\bz d)/\b.length<=100000000000/\d.length<=100000000000)/\c.same c) (by kernel_rfl) ?_;simp only[vcs];grind
theorem DL {p q:Rat} (h:p=q):(γQ [.sb (bu p).1,.row (.i .u32) (bu p).2.1,.row (.i .u32) (bu p).2.2]).same (.agg [.sb (bu q).1,.row (.i .u32) (bu q).2.1,.row (.i .u32) (bu q).2.2]):=by subst h;rfl
theorem vO (q:Rat):q.num=if decide (q<0) then -(q.num.natAbs:Int) else(q.num.natAbs:Int):=by
 have a:=@Rat.num_nonneg q;grind
theorem lu (q:Rat):(bu q).1=decide (q<0)/\(bz (bu q).2.1/\fE (bu q).2.1/\bk (bu q).2.1=(q.num.natAbs:Int))/\(bz (bu q).2.2/\fE (bu q).2.2/\bk (bu q).2.2=(q.den:Int)):=by
 obtain⟨f,e,d⟩:=fW (show(0:Int)<=(q.num.natAbs:Int) by omega);obtain⟨b,c,a⟩:=fW (show(0:Int)<=(q.den:Int) by omega);exact⟨rfl,⟨e,d,f⟩,⟨c,a,b⟩⟩
theorem oQ {q:Rat} {k:Nat} (h:Sz k q):(bu q).2.1.length<=k/\(bu q).2.2.length<=k:=
 ⟨mA (by omega) h.1,mA (by omega) h.2⟩
theorem abq (q:Rat):fF (!decide (q<0)) (q.num.natAbs:Int) (q.den:Int)= -q:=by
 unfold fF;have h:=vO q;have e:(if(!decide (q<0))=true then -(q.num.natAbs:Int) else(q.num.natAbs:Int))= -q.num:=by
  grind
 grind[δT,Rat.neg_mkRat]
def x5:bL:=⟨118,bM,.one (eG sF),cB,λx=>pG (-(bQ x))⟩
theorem h130:Holds Tryz.prog x5:=by
 refine cF (L:=[xZ]) x5 lk (by grind[h126]) ?_;intro(x:bM) h;obtain⟨q,k,rfl,f,g⟩:cB x:=h;refine bO (let f:=Θ;let c:=(bu q).snd.fst;let a:=(bu q).snd.snd;let d:=bu (fF (!(bu q).fst) (bk c) (bk a));let b:=bp.i .u32;let e:=(bu (-bQ (bu q))).snd;((bz c/\bz a)/\(γf c<=1000000000/\γf a<=1000000000)/\(0:Int)<bk a)/\(γQ [γw d.fst,f b d.snd.fst,f b d.snd.snd]).same (γQ [γw (bu (-bQ (bu q))).fst,f b e.fst,f b e.snd])) (by kernel_rfl) ?_;conv=>zeta
 obtain⟨s,⟨r,p,u⟩,⟨o,l,n⟩⟩:=lu q;obtain⟨j,m⟩:=oQ f;have t:=q.den_pos;grind[DL,ez,abq]
theorem qG {a b:Int} {i j:Nat} (e:0<=a) (c:a<4294967296^i) (d:b<4294967296^j):a*b<4294967296^(i+j):=by
 rw[Int.pow_add];exact Int.lt_of_le_of_lt (Int.mul_le_mul_of_nonneg_left (γj d) e) (Int.mul_lt_mul_of_pos_right c (pow_pos _))
theorem Rn {p q:Rat} {i j:Nat} (c:Sz i p) (b:Sz j q):∃X Y D:Int,bk (bu p).2.1*bk (bu q).2.2=X/\bk (bu q).2.1*bk (bu p).2.2=Y/\bk (bu p).2.2*bk (bu q).2.2=D/\0<=X/\0<=Y/\0<D/\
  (cM X).length<=i+j/\(cM Y).length<=i+j/\(cM (X+Y)).length<=i+j+1/\(cM (X - Y)).length<=i+j/\(cM (Y - X)).length<=i+j/\(cM D).length<=i+j/\p.num*q.den=(if decide (p<0) then -X else X)/\q.num*p.den=(if decide (q<0) then -Y else Y)/\((p.den*q.den:Nat):Int)=D:=by
 obtain⟨_,⟨_,_,l⟩,⟨_,_,r⟩⟩:=lu p;obtain⟨_,⟨_,_,n⟩,⟨_,_,m⟩⟩:=lu q;rw[l,r,n,m];have s:=p.den_pos;have t:=q.den_pos;have k:=qG (a:=(p.num.natAbs:Int)) (by omega) c.1 b.2;have d:=qG (a:=(q.num.natAbs:Int)) (by omega) b.1 c.2;rw[Nat.add_comm j i] at d;have o:=qG (a:=(p.den:Int)) (by omega) c.2 b.2;have f:0<=(p.num.natAbs:Int)*q.den:=γv (by omega) (by omega);have e:0<=(q.num.natAbs:Int)*p.den:=γv (by omega) (by omega);have g:0<(p.den:Int)*q.den:=εs (by omega) (by omega);have v:=vO p;have u:=vO q;refine⟨_,_,_,rfl,rfl,rfl,f,e,g,mA f k,mA e d,mA (by omega) ?_,?_,?_,mA (by omega) o,?_,?_,by push_cast;rfl⟩;·omega
 ·by_cases h:(p.num.natAbs:Int)*q.den - (q.num.natAbs:Int)*p.den<=0;·grind[IX]
  ·exact mA (by omega) (by omega)
 ·by_cases h:(q.num.natAbs:Int)*p.den - (p.num.natAbs:Int)*q.den<=0;·grind[IX]
  ·exact mA (by omega) (by omega)
 all_goals grind
theorem abr {p q:Rat} {s:Bool} {n D:Int} (a:((p.den*q.den:Nat):Int)=D) (h:p.num*q.den+q.num*p.den=if s then -n else n):fF s n D=p+q:=by
 rw[Rm];grind[fF]
theorem DN {p:Rat} {k:Nat} (h:Sz k p) (c:k<=100000000):vN (bu p):=by
 obtain⟨_,⟨a,_,_⟩,⟨b,_,_⟩⟩:=lu p;have:=oQ h;exact⟨⟨a,b⟩,by omega,by omega⟩
def iM (p q:Rat):Int:=if p<q then -1 else if q<p then 1 else 0
def x6:bL:=⟨74,bM×bM,.cons (eG sF) (.one (eG sF)),λa=>cB a.1/\cB a.2,λa=> .si .i64 (iM (bQ a.1) (bQ a.2))⟩
theorem h97:Holds Tryz.prog x6:=by
 refine cF (L:=[DK,xM]) x6 lk (by grind[h131,h132]) ?_;rintro⟨x,y⟩ ⟨⟨p,i,t,w,S⟩,⟨q,j,r,o,T⟩⟩;simp only at t r;subst t r;refine bO (let a:=(bu p).fst;let g:=γe .i64 (iM (bQ (bu p)) (bQ (bu q)));let s:=λ(u:Bool) (c b:Rat) ↦let k:=cM (bk (bu c).snd.fst*bk (bu b).snd.snd);let l:=cM (bk (bu b).snd.fst*bk (bu c).snd.snd);a=u->((bz k/\bz l)/\k.length<=1000000000000/\l.length<=1000000000000)/\(γe .i64 (lS (bk k) (bk l))).same g;((!a==(bu q).fst)=true->(a=true->(γx .i64 (-1:Int)).same g)/\(a=false->(γx .i64 1).same g))/\((!a==(bu q).fst)=false->(vN (a,(bu p).snd.fst,(bu p).snd.snd)/\vN ((bu q).fst,(bu q).snd.fst,(bu q).snd.snd))/\s true q p/\s false p q)) (by kernel_rfl) ?_;conv=>zeta
 obtain⟨C,_,_⟩:=lu p;obtain⟨P,_,_⟩:=lu q;obtain⟨X,Y,D,E,M,hD,G,N,U,l1,l2,l3,l4,Z,V,B,A,W⟩:=Rn w o;obtain⟨J,v,c3⟩:=fW G;obtain⟨K,n,c6⟩:=fW N;simp only[ez,E,M,J,K,C,P];simp only[vcs];have hl:p<q↔p.num*q.den<q.num*p.den:=Rat.lt_iff p q;have R:q<p↔q.num*p.den<p.num*q.den:=Rat.lt_iff q p;have O:=@Rat.num_nonneg p;have H:=@Rat.num_nonneg q;have m:∀{z:Int},(z=if p.num*q.den<q.num*p.den then -1 else if q.num*p.den<p.num*q.den then 1 else 0)->z=iM p q:=λh=>by
  grind[iM]
 have Q:p<0->0<X:=λh=>by
  rw[if_pos (by simpa using h)] at B;have f:p.num<0:=by grind
  have:=εo f (show(0:Int)<q.den by grind);omega
 have F:q<0->0<Y:=λh=>by
  rw[if_pos (by simpa using h)] at A;have f:q.num<0:=by grind
  have:=εo f (show(0:Int)<p.den by grind);omega
 rw[B,A] at m;refine⟨λI=>⟨λd=>?_,λd=>?_⟩,λhe=>⟨⟨DN w S,DN o T⟩,λd=>⟨⟨⟨n,v⟩,by omega,by omega⟩,?_⟩,λd=>⟨⟨⟨v,n⟩,by omega,by omega⟩,?_⟩⟩⟩;·grind
 ·grind
 ·apply m;have e:q<0:=by
   grind
  simp only[decide_eq_true_eq,d,e,if_true,if_false];simp only[Int.neg_lt_neg_iff];rfl
 ·apply m;have e:¬q<0:=λe=>by grind
  simp only[decide_eq_true_eq,d,e,if_true,if_false];rfl
def vP:bL:=⟨107,bM×bM,.cons (eG sF) (.one (eG sF)),λa=>cB a.1/\cB a.2,λa=>pG (bQ a.1+bQ a.2)⟩
theorem h129:Holds Tryz.prog vP:=by
 refine cF (L:=[DK,xW,zM,IY,xZ]) vP lk (by grind[h131,h153,h154,h155,h126]) ?_;rintro⟨x,y⟩ ⟨⟨p,i,J,w,S⟩,⟨q,j,E,B,hj⟩⟩;simp only at J E;subst J E;refine bO (let h:=Θ;let j:=γQ;let m:=(bu q).snd.snd;let f:=cM (bk (bu p).snd.fst*bk m);let t:=(bu p).snd.snd;let k:=cM (bk (bu q).snd.fst*bk t);let a:=cM (bk t*bk m);let g:=bp.i .u32;let z:=bu (bQ (bu p)+bQ (bu q));let o:=j [γw z.fst,h g z.snd.fst,h g z.snd.snd];let v:=(bu p).fst==(bu q).fst;let c:=cM (bk f+bk k);let d:=bu (fF (bu p).fst (bk c) (bk a));let I:=(bz f/\bz k)/\f.length<=100000000000/\k.length<=100000000000;let K:=λ(u r:Rat) ↦let e:=cM (bk (cM (bk (bu u).snd.fst*bk (bu r).snd.snd)) - bk (cM (bk (bu r).snd.fst*bk (bu u).snd.snd)));let b:=bu (fF (bu u).fst (bk e) (bk a));((bz e/\bz a)/\(e.length<=1000000000/\a.length<=1000000000)/\(0:Int)<bk a)/\(j [γw b.fst,h g b.snd.fst,h g b.snd.snd]).same o;let F:=λ(u:Bool) ↦decide (bk k<=bk f)=u;(vN ((bu p).fst,(bu p).snd.fst,t)/\vN ((bu q).fst,(bu q).snd.fst,m))/\((bz t/\bz m)/\γf t<=100000000000/\γf m<=100000000000)/\(v=true->I/\((bz c/\bz a)/\(c.length<=1000000000/\a.length<=1000000000)/\(0:Int)<bk a)/\(j [γw d.fst,h g d.snd.fst,h g d.snd.snd]).same o)/\(v=false->I/\(F true->K p q)/\(F false->((bz k/\bz f)/\k.length<=100000000000/\f.length<=100000000000)/\K q p))) (by kernel_rfl) ?_;conv=>zeta
 obtain⟨O,⟨u1,_,_⟩,⟨u2,_,_⟩⟩:=lu p;obtain⟨W,⟨u3,_,_⟩,⟨P,_,_⟩⟩:=lu q;obtain⟨m1,m2⟩:=oQ w;obtain⟨m3,m4⟩:=oQ B;obtain⟨X,Y,D,T,Q,hD,U,R,C,l1,l2,l3,l4,l5,l6,n1,n2,n3⟩:=Rn w B;obtain⟨N,H,c3⟩:=fW U;obtain⟨c4,G,c6⟩:=fW R;obtain⟨c7,V,c9⟩:=fW (γj C);obtain⟨s1,M,s3⟩:=fW (show 0<=X+Y by omega);simp only[ez,T,Q,hD,N,c4,c7,s1,O,W];simp only[vcs];have l:∀{s:Bool} {n:Int},(p.num*q.den+q.num*p.den=if s then -n else n)->(γQ [.sb (bu (fF s n D)).1,.row (.i .u32) (bu (fF s n D)).2.1,.row (.i .u32) (bu (fF s n D)).2.2]).same (.agg [.sb (bu (p+q)).1,.row (.i .u32) (bu (p+q)).2.1,.row (.i .u32) (bu (p+q)).2.2]):=
  λh=>DL (abr n3 h);rw[n1,n2] at l;refine⟨⟨DN w S,DN B hj⟩,⟨⟨u2,P⟩,by omega,by omega⟩,λZ=>⟨⟨⟨H,G⟩,by omega,by omega⟩,⟨⟨M,V⟩,⟨by omega,by omega⟩,C⟩,l ?_⟩,λZ=>⟨⟨⟨H,G⟩,by omega,by omega⟩,λA=>?_,λA=>?_⟩⟩;all_goals grind[fW]
def Aq:bL:=⟨117,bM×bM,.cons (eG sF) (.one (eG sF)),λa=>cB a.1/\cB a.2,λa=>pG (bQ a.1 - bQ a.2)⟩
theorem h95:Holds Tryz.prog Aq:=by
 refine cF (L:=[x5,vP]) Aq lk (by grind[h130,h129]) ?_;rintro⟨x,y⟩ ⟨⟨p,i,k,m,n⟩,⟨q,j,g,l,o⟩⟩;simp only at k g;subst k g;refine bO (let g:=Θ;let b:=((bu q).fst,(bu q).snd.fst,(bu q).snd.snd);let e:=((bu p).fst,(bu p).snd.fst,(bu p).snd.snd);let h:=(bu (-bQ b)).snd;let f:=((bu (-bQ b)).fst,h.fst,h.snd);let d:=bu (bQ e+bQ f);let a:=bp.i .u32;let c:=bu (bQ (bu p) - bQ (bu q));cB b/\(cB e/\cB f)/\(γQ [γw d.fst,g a d.snd.fst,g a d.snd.snd]).same (γQ [γw c.fst,g a c.snd.fst,g a c.snd.snd])) (by kernel_rfl) ?_;grind[cB,An,DL,ez]
theorem abt {l:List Int} (h:l.length=0\/bj l (l.length - 1) 0≠0):fE l:=by
 rcases h with h|h;·rw[Φ h];trivial
 ·by_cases b:l.length=0;·rw[Φ b];trivial
  ·have c:=zK (a:=l) (n:=l.length - 1) (by omega);grind[Ia]
def sy (a:List Int):Bool:=decide (a.length=0)||decide (bj a (a.length - 1) 0≠0)
theorem t8 {a:List Int}:sy a=true↔fE a:=by
 unfold sy;rw[Bool.or_eq_true,decide_eq_true_eq,decide_eq_true_eq];constructor;·exact abt
 ·intro h;by_cases e:a.length=0;·exact .inl e
  ·right;have b:=zK (a:=a) (n:=a.length - 1) (by omega);rw[show a.length - 1+1=a.length by omega,π] at b;have:∀{l:List Int} {x:Int},fE (l++[x])->x≠0:=by
    intro l x;induction l with
    |nil=>intro h;exact h.1 rfl;|cons d l c=>intro h;exact c h.2
   grind
theorem I4 {a:List Int} (h:bz a) (c:fE a) (b:a≠[]):0<bk a:=by
 have:=fb h;grind[val_zero]
def okF (x:bM):Bool:=decide (bu (bQ x)=x)
theorem Ro {n d:Int} (h:0<d):0<ew n d:=by
 simp_all[ew]
theorem abu {s:Bool} {n d:List Int} (h:okF (s,(n,d))=true):fE n/\fE d/\d≠[]:=by
 have h:=of_decide_eq_true h;have b:=fW (show(0:Int)<=((bQ (s,(n,d))).num.natAbs:Int) by omega);have a:=fW (show(0:Int)<=((bQ (s,(n,d))).den:Int) by omega);have e:cM ((bQ (s,(n,d))).num.natAbs:Int)=n:=congrArg (λx=>x.2.1) h;have c:cM ((bQ (s,(n,d))).den:Int)=d:=congrArg (λx=>x.2.2) h;rw[e] at b;rw[c] at a;refine⟨b.2.2,a.2.2,λf=>?_⟩;have g:=a.1;rw[f] at g;have:=(bQ (s,(n,d))).den_pos;grind[bk]
theorem okF_eq {s:Bool} {n d:List Int} (e:bz n) (m:bz d) (l:fE n) (p:fE d) (b:d≠[]):
  okF (s,(n,d))=if n=[] then !s&&decide (d=[1]) else decide (ew (bk n) (bk d)=1):=by
 have c:=I4 m p b;have r:=fb e;have j:bQ (s,(n,d))=mkRat (if s then -bk n else bk n) (bk d).toNat:=rfl;have o:=@Rl s (bk n) (bk d) r c;have u:=@Ro (bk n) (bk d) c;unfold okF;rw[j,o];by_cases a:n=[]
 ·rw[if_pos a,a];have i:ew (bk []) (bk d)=bk d:=by unfold ew;simp[bk];omega
  have k:cM (bk d / ew (bk []) (bk d))=[1]:=by rw[i,Int.ediv_self (by omega)];rfl
  have f:cM (bk [] / ew (bk []) (bk d))=[]:=by
   have:bk []=0:=rfl;rw[this,Int.zero_ediv];rfl
  rw[k,f];have v:decide (0<bk [])=false:=rfl;grind
 ·rw[if_neg a];have q:=I4 e l a;rw[decide_eq_true (show 0<bk n from q),γ8];rw[Bool.eq_iff_iff,decide_eq_true_eq,decide_eq_true_eq];constructor
  ·intro h;injection h with h1 h2;injection h2 with h2 h3;have g:=(fW (show 0<=bk d / ew (bk n) (bk d) from δY (by omega) (by omega))).1;rw[h3] at g;by_cases t:ew (bk n) (bk d)=1;·exact t
   ·have:=Int.ediv_lt_self_of_pos_of_ne_one c (by omega:ew (bk n) (bk d)≠1);omega
  grind[zL]
theorem Rq (p q:Rat):(if(!(decide (p<0)==decide (q<0)))=true then -((p.num.natAbs:Int)*(q.num.natAbs:Int)) else(p.num.natAbs:Int)*(q.num.natAbs:Int))=p.num*q.num:=by
 have a:=vO p;have b:=vO q;grind
theorem Rr (p q:Rat):fF (!(decide (p<0)==decide (q<0))) ((p.num.natAbs:Int)*(q.num.natAbs:Int)) ((p.den:Int)*(q.den:Int))=p*q:=by
 unfold fF;rw[Rq,show((p.den:Int)*(q.den:Int)).toNat=p.den*q.den by omega,δA];have a:(p.num:Rat) / (p.den:Rat)=p:=by rw[<-δA,δT]
 have b:(q.num:Rat) / (q.den:Rat)=q:=by rw[<-δA,δT]
 grind
theorem Rt {p q:Rat} (a:q≠0):fF (!(decide (p<0)==decide (q<0))) ((p.num.natAbs:Int)*(q.den:Int)) ((p.den:Int)*(q.num.natAbs:Int))=p / q:=by
 unfold fF;rw[show((p.den:Int)*(q.num.natAbs:Int)).toNat=p.den*q.num.natAbs by omega,δA];have k:(p.num:Rat) / (p.den:Rat)=p:=by rw[<-δA,δT]
 have d:(q.num:Rat) / (q.den:Rat)=q:=by rw[<-δA,δT]
 have m:(p.den:Rat)≠0:=by have:=p.den_nz;simp_all
 have o:(q.den:Rat)≠0:=by grind
 have e:=vO p;have g:=vO q;have n:(q.num:Rat)≠0:=λh=>a (by grind);rw[Rat.natCast_mul];conv=>rhs;rw[<-k,<-d]
 have f:((p.num.natAbs:Int):Rat)=(p.num.natAbs:Rat):=εR _;have c:((q.num.natAbs:Int):Rat)=(q.num.natAbs:Rat):=εR _;have i:((q.den:Int):Rat)=(q.den:Rat):=εR _;have j:(p.num:Rat)=if decide (p<0)=true then -(p.num.natAbs:Rat) else(p.num.natAbs:Rat):=by
  rw[<-f];conv=>lhs;rw[e]
  split<;>grind
 have b:(q.num:Rat)=if decide (q<0)=true then -(q.num.natAbs:Rat) else(q.num.natAbs:Rat):=by
  rw[<-c];conv=>lhs;rw[g]
  split<;>grind
 have l:((if(!(decide (p<0)==decide (q<0)))=true then -((p.num.natAbs:Int)*(q.den:Int)) else(p.num.natAbs:Int)*(q.den:Int):Int):Rat)=if(!(decide (p<0)==decide (q<0)))=true then -((p.num.natAbs:Rat)*(q.den:Rat)) else(p.num.natAbs:Rat)*(q.den:Rat):=by
  split<;>grind
 grind
def Ar:bL:=⟨172,bM×bM,.cons (eG sF) (.one (eG sF)),λa=>cB a.1/\cB a.2,λa=>pG (bQ a.1*bQ a.2)⟩
theorem h410:Holds Tryz.prog Ar:=by
 refine cF (L:=[xW,xZ]) Ar lk (by grind[h153,h126]) ?_;rintro⟨x,y⟩ ⟨⟨p,i,n,f,M⟩,⟨q,j,o,l,G⟩⟩;simp only at n o;subst n o;refine bO (let f:=Θ;let c:=(bu p).snd.fst;let k:=(bu q).snd.fst;let g:=(bu p).snd.snd;let h:=(bu q).snd.snd;let m:=cM (bk c*bk k);let b:=cM (bk g*bk h);let d:=bu (fF (!(bu p).fst==(bu q).fst) (bk m) (bk b));let a:=bp.i .u32;let e:=bu (bQ (bu p)*bQ (bu q));((bz c/\bz k)/\γf c<=100000000000/\γf k<=100000000000)/\((bz g/\bz h)/\γf g<=100000000000/\γf h<=100000000000)/\((bz m/\bz b)/\(m.length<=1000000000/\b.length<=1000000000)/\(0:Int)<bk b)/\(γQ [γw d.fst,f a d.snd.fst,f a d.snd.snd]).same (γQ [γw e.fst,f a e.snd.fst,f a e.snd.snd])) (by kernel_rfl) ?_;conv=>zeta
 obtain⟨t,⟨P,_,s⟩,⟨E,_,v⟩⟩:=lu p;obtain⟨u,⟨J,_,z⟩,⟨I,_,A⟩⟩:=lu q;obtain⟨D,F⟩:=oQ f;obtain⟨O,N⟩:=oQ l;have C:=p.den_pos;have K:=q.den_pos;rw[s,v,z,A,t,u,ez,ez];have r:0<=(p.num.natAbs:Int)*(q.num.natAbs:Int):=γv (by omega) (by omega);have w:0<(p.den:Int)*(q.den:Int):=εs (by omega) (by omega);have H:=mA r (qG (by omega) f.1 l.1);have B:=mA (γj w) (qG (by omega) f.2 l.2);grind[fW,DL,Rr]
def DO:bL:=⟨184,bM×bM,.cons (eG sF) (.one (eG sF)),λa=>(cB a.1/\cB a.2)/\bQ a.2≠0,λa=> .bJ [pG (bQ a.1 / bQ a.2),.si .i64 0]⟩
theorem h416:Holds Tryz.prog DO:=by
 refine cF (L:=[xW,Ap]) DO lk (by grind[h153,h151]) ?_;rintro⟨x,y⟩ ⟨⟨⟨p,i,v,f,X⟩,⟨q,j,u,m,Q⟩⟩,a⟩;simp only at v u a;subst v u;refine bO (let a:=Θ;let g:=(bu p).snd.fst;let d:=(bu q).snd.snd;let r:=(bu p).snd.snd;let e:=(bu q).snd.fst;let k:=cM (bk g*bk d);let c:=cM (bk r*bk e);let l:=bu (fF (!(bu p).fst==(bu q).fst) (bk k) (bk c));let b:=bp.i .u32;let t:=[γe .i64 0];let o:=bu (bQ (bu p) / bQ (bu q));((bz g/\bz d)/\γf g<=100000000000/\γf d<=100000000000)/\((bz r/\bz e)/\γf r<=100000000000/\γf e<=100000000000)/\((bz k/\bz c)/\(k.length<=1000000000/\c.length<=1000000000)/\(0:Int)<bk c)/\(SV.bJ (γQ [γw l.fst,a b l.snd.fst,a b l.snd.snd]::t)).same (SV.bJ (γQ [γw o.fst,a b o.snd.fst,a b o.snd.snd]::t))) (by kernel_rfl) ?_;conv=>zeta
 rw[ez] at a;obtain⟨E,⟨C,_,M⟩,⟨K,_,I⟩⟩:=lu p;obtain⟨B,⟨z,_,J⟩,⟨F,_,A⟩⟩:=lu q;obtain⟨V,O⟩:=oQ f;obtain⟨S,W⟩:=oQ m;have T:=p.den_pos;have Z:=q.den_pos;have R:q.num≠0:=λh=>a (ζu.1 h);rw[M,I,J,A,E,B,ez,ez];have s:0<=(p.num.natAbs:Int)*(q.den:Int):=γv (by omega) (by omega);have n:0<(p.den:Int)*(q.num.natAbs:Int):=εs (by omega) (by omega);have Y:=mA s (qG (by omega) f.1 m.2);have N:=mA (γj n) (qG (by omega) f.2 m.1);obtain⟨G,H,P⟩:=fW s;obtain⟨w,D,U⟩:=fW (γj n);rw[G,w,Rt a];refine⟨⟨⟨C,F⟩,?_,?_⟩,⟨⟨K,z⟩,?_,?_⟩,⟨⟨H,D⟩,⟨?_,?_⟩,n⟩,rfl⟩<;>omega
def I5:bL:=⟨149,List Int,.one (dM (.i .u32)),λa=>bz (show List Int from a)/\(show List Int from a).length<=1000000000,λa=> .sb (sy a)⟩
theorem h414:Holds Tryz.prog I5:=by
 refine cF (L:=[rj]) I5 lk (by grind[h152]) ?_;rintro(a:List Int) h;refine bO (a.length<=1000000000000/\(γw (decide ((↑(bI a).length:Int)=(↑a.length:Int)))).same (γw (sy a))) (by kernel_rfl) ?_;simp only[vcs];obtain⟨f,d⟩:bz a/\a.length<=1000000000:=h;refine⟨by omega,?_⟩;cases c:sy a with
 |true=>
  grind[qA,zL,t8];|false=>
  refine decide_eq_false λb=>?_;have e:bI a=a:=by
   unfold bI at b ⊢;rw[γq] at b;exact List.take_of_length_le (by omega)
  grind[rk,t8]
def I6:bL:=⟨150,bM,.one (eG sF),λx=>x.2.1.length<=1000000000,λx=> .agg [.sb x.1,.sb (decide (x.2.1=[]))]⟩
theorem h415:Holds Tryz.prog I6:=by
 refine cF (L:=[]) I6 lk (by simp) ?_;rintro⟨s,n,d⟩ h;refine bO (let a:=γw;(γQ [a s,a (decide ((↑n.length:Int)=(0:Int)))]).same (γQ [a s,a (decide (n=[]))])) (by kernel_rfl) ?_;have e:decide ((n.length:Int)=0)=decide (n=[]):=by
  simp_all
 rw[e];rfl
def ua:bL:=⟨114,bM,.one (eG sF),λx=>(bz x.2.1/\bz x.2.2)/\x.2.1.length<=10000000/\x.2.2.length<=10000000,λx=> .sb (okF x)⟩
theorem h407:Holds Tryz.prog ua:=by
 refine cF (L:=[I5,I6,DI,xX,xM]) ua lk (by simpa using⟨h414,h415,h165g,h128,h132⟩) ?_;rintro⟨s,n,d⟩ ⟨⟨hn,hd⟩,hl1,hl2⟩;refine bO (let a:=SV.bl false;let b:=(0:Int);let c:=(1:Int);let e:=γw (okF (s,n,d));let h:=decide ((↑d.length:Int)=b);let i:=s==true&&(decide (n=[])==true&&true);let f:=cM (ew (bk n) (bk d));let g:=cM c;(bz n/\n.length<=1000000000)/\((!sy n)=true->(a).same e)/\((!sy n)=false->(bz d/\d.length<=1000000000)/\((!sy d)=true->(a).same e)/\((!sy d)=false->(h=true->(a).same e)/\(h=false->n.length<=1000000000/\(i=true->(a).same e)/\(i=false->((bz n/\bz d)/\n.length<=1000000000/\d.length<=1000000000)/\(b<=c/\c<(18446744073709551616:Int))/\((bz f/\bz g)/\f.length<=1000000000000/\g.length<=1000000000000)/\(γw (decide (lS (bk f) (bk g)=b))).same e))))) (by kernel_rfl) ?_;simp only[vcs];have hn:bz n:=hn;have hd:bz d:=hd;have hl1:n.length<=10000000:=hl1;have hl2:d.length<=10000000:=hl2;have I7:¬(fE n/\fE d/\d≠[])->false=okF (s,n,d):=λh=>by
  cases hb:okF (s,n,d) with
  |false=>rfl;|true=>exact absurd (abu hb) h
 have abv:∀{a:List Int},((a.length:Nat):Int)=0->a=[]:=λh=>Φ (by omega);have ne_of:∀{a:List Int},¬((a.length:Nat):Int)=0->a≠[]:=λh h2=>h (by rw[h2];rfl);refine⟨⟨hn,by omega⟩,λh1=>I7 λh=>?_,λh1=>⟨⟨hd,by omega⟩,λh2=>I7 λh=>?_,λh2=>⟨λh3=>I7 λh=>h.2.2 (abv h3),λh3=>⟨by omega,λh4=>?_,λh4=>?_⟩⟩⟩⟩
 ·have:=t8.2 h.1;rw[h1] at this;cases this
 ·have:=t8.2 h.2.1;rw[h2] at this;cases this
 all_goals
  have he:=okF_eq (s:=s) hn hd (t8.1 h1) (t8.1 h2) (ne_of h3);have dp:=I4 hd (t8.1 h2) (ne_of h3);have hg:=@Ro (bk n) (bk d) dp;obtain⟨g1,g2,g3⟩:=fW (show 0<=ew (bk n) (bk d) by omega);obtain⟨o1,o2,o3⟩:=fW (show(0:Int)<=1 by omega);have gle:ew (bk n) (bk d)<=bk d:=by
   unfold ew;have:=ζP (bk n).toNat (show 0<(bk d).toNat by omega);omega
  rw[he]
 ·simp only[beq_iff_eq,γ8,Bool.and_eq_true,decide_eq_true_eq] at h4;rw[if_pos h4.2,h4.1];rfl
 ·have hgl:=I3 g2 hd g3 (by rw[g1];exact gle);refine⟨⟨⟨hn,hd⟩,by omega,by omega⟩,by omega,⟨⟨g2,o2⟩,by omega,by decide⟩,?_⟩;rw[g1,o1];have hcm:(lS (ew (bk n) (bk d)) 1=0)=(ew (bk n) (bk d)=1):=by
   unfold lS;apply propext;constructor
   ·intro h;split at h;·omega
    ·split at h<;>omega
   ·intro h;rw[h];rfl
  simp only[hcm];by_cases hn0:n=[]
  ·rw[if_pos hn0];have hs:s=false:=by
    cases s with
    |false=>rfl;|true=>exact absurd h4 (by simp[hn0])
   have hgd:ew (bk n) (bk d)=bk d:=by
    rw[hn0];unfold ew;simp[bk];omega
   rw[hgd,hs,Bool.not_false,Bool.true_and,decide_eq_decide];constructor
   ·intro h;rw[<-zL hd (t8.1 h2),h];rfl
   ·intro h;rw[h];rfl
  ·rw[if_neg hn0]
theorem ub {p q:Rat} {i j:Nat} (b:Sz i p) (a:Sz j q):Sz (i+j) (p*q):=by
 rw[<-Rr];unfold fF;rw[Rq];have c:=p.den_pos;have d:=q.den_pos;have e:0<(p.den:Int)*(q.den:Int):=εs (by omega) (by omega);refine Ak (by omega) ?_ ?_
 ·rw[εn,Int.natCast_mul];exact qG (by omega) b.1 a.1
 ·rw[εu (by omega)];exact qG (by omega) b.2 a.2
theorem I8 {p q:Rat} {i j:Nat} (c:Sz i p) (b:Sz j q) (d:q≠0):Sz (i+j) (p / q):=by
 rw[<-Rt d];unfold fF;have e:=p.den_pos;have f:=q.den_pos;have l:q.num≠0:=λh=>d (ζu.1 h);have k:0<(p.den:Int)*(q.num.natAbs:Int):=εs (by omega) (by omega);have g:=qG (a:=(p.num.natAbs:Int)) (by omega) c.1 b.2;refine Ak (by omega) ?_ ?_;·grind
 ·rw[εu (by omega)];exact qG (by omega) c.2 b.1
theorem abx {p q:Rat}:0<iM p q↔q<p:=by
 grind[iM]
theorem aby {p q:Rat}:iM p q=0↔p=q:=by
 grind[iM]
def wed (c:Nat->Rat):(List Nat->Rat)->List Nat->Rat
 |_,[]=>0
 |f,i::R=>c i*f R - wed c (λl=>f (i::l)) R
theorem I9 {c:Nat->Rat}:∀{R:List Nat},wed c (λ_=>0) R=0
 |[]=>rfl
 |i::R=>by simp only[wed,I9];grind
theorem Ja {c:Nat->Rat} {p q:Rat}:∀{R:List Nat} {f g:List Nat->Rat},wed c (λl=>p*f l+q*g l) R=p*wed c f R+q*wed c g R
 |[],_,_=>by grind[wed];|i::R,f,g=>by
  simp only[wed,@Ja c p q R];grind
theorem Ru {c d:Nat->Rat} {p q:Rat}:∀{R:List Nat} {f:List Nat->Rat},wed (λi=>p*c i+q*d i) f R=p*wed c f R+q*wed d f R
 |[],_=>by grind[wed];|i::R,f=>by
  simp only[wed,@Ru c d p q R];grind
theorem Rw {c:Nat->Rat} {p:Rat} {R:List Nat} {f g:List Nat->Rat}:wed c (λl=>p*f l - g l) R=p*wed c f R - wed c g R:=by
 have:=@Ja c p (-1) R f g;grind
theorem Jb {a b:Nat->Rat}:∀{R:List Nat} {f:List Nat->Rat},wed a (wed b f) R= - wed b (wed a f) R
 |[],_=>by grind[wed];|i::R,f=>by
  have d:wed a (λl=>wed b f (i::l)) R=b i*wed a f R - wed a (wed b λl=>f (i::l)) R:=Rw;have c:wed b (λl=>wed a f (i::l)) R=a i*wed b f R - wed b (wed a λl=>f (i::l)) R:=Rw;have h:=@Jb a b R λl=>f (i::l);grind[wed]
theorem abz {a:Nat->Rat} {f:List Nat->Rat}:wed a (wed a f)=λ_=>0:=by
 grind[Jb]
def x7 (R:List Nat):Rat:=if R=[] then 1 else 0
def jN (cs:List (Nat->Rat)):List Nat->Rat:=cs.foldr wed x7
theorem Rx {c:Nat->Rat} {cs:List (Nat->Rat)}:jN (c::cs)=wed c (jN cs):=rfl
theorem Ry {a:Nat->Rat}:∀{cs:List (Nat->Rat)} {f:List Nat->Rat},wed a (cs.foldr wed (wed a f))=λ_=>0
 |[],f=>abz
 |c::cs,f=>by
  funext R;simp only[εS];rw[Jb,@Ry a cs f,I9];rfl
theorem fold_zero:∀{cs:List (Nat->Rat)},cs.foldr wed (λ_=>0)=λ_=>0
 |[]=>rfl
 |c::cs=>by
  rw[εS,fold_zero];grind[I9]
theorem Rz {a:Nat->Rat} {p m q:List (Nat->Rat)}:jN (p++a::(m++a::q))=λ_=>0:=by
 grind[jN,Ry,fold_zero]
theorem RA {p q:Rat}:∀{cs:List (Nat->Rat)} {f g:List Nat->Rat} {R:List Nat},cs.foldr wed (λl=>p*f l+q*g l) R=p*cs.foldr wed f R+q*cs.foldr wed g R
 |[],_,_,_=>rfl
 |c::cs,f,g,R=>by
  simp only[εS];rw[<-Ja];congr 1;funext l;exact RA
theorem RB {c d:Nat->Rat} {p q:Rat} {a b:List (Nat->Rat)} {R:List Nat}:jN (a++(λi=>p*c i+q*d i)::b) R=p*jN (a++c::b) R+q*jN (a++d::b) R:=by
 unfold jN;simp only[List.foldr_append,εS];rw[<-RA];have e:wed (λi=>p*c i+q*d i) (ζT wed x7 b)=λl=>p*wed c (ζT wed x7 b) l+q*wed d (ζT wed x7 b) l:=by
  grind[Ru]
 rw[e]
def eW (M:Nat) (q:Rat):Prop:=∃z:Int,q=(z:Rat)/\z.natAbs<=M
theorem RD {c:Nat->Rat} {M K:Nat}:∀{R:List Nat} {f:List Nat->Rat},(∀i∈R,eW M (c i))->(∀l,l.length+1=R.length->(∀i∈l,i∈R)->eW K (f l))->eW (R.length*(M*K)) (wed c f R)
 |[],_,_,_=>⟨0,by simp[wed],by simp⟩
 |i::R,f,e,g=>by
  simp only[wed,γB];obtain⟨y,q,h⟩:=@RD c M K R (λl=>f (i::l)) (λj a=>e j (by simp[a])) λl n p=>g _ (by simp_all) λj a=>by
   grind
  obtain⟨u,o,b⟩:=e i (by simp);obtain⟨v,k,d⟩:=g R (by simp) λj a=>by simp[a]
  refine⟨u*v - y,?_,?_⟩;·simp_all
  ·have m:(u*v).natAbs<=M*K:=by
    rw[εn];exact Nat.mul_le_mul b d
   grind
def nn (M:Nat):Nat->Nat
 |0=>1
 |n+1=>(n+1)*(M*nn M n)
theorem DR {M:Nat}:∀{cs:List (Nat->Rat)} {R:List Nat},cs.length=R.length->(∀c∈cs,∀i∈R,eW M (c i))->eW (nn M R.length) (jN cs R)
 |[],R,b,_=>by
  have:R=[]:=Φ (by simp_all);subst this;exact⟨1,by simp[jN,x7],by simp[nn]⟩;|c::cs,R,b,e=>by
  rw[Rx];cases R with
  |nil=>simp at b;|cons i R=>
   simp only[γB,nn];refine RD (e c (by simp)) λl a g=>?_;simp only[γB] at b a;rw[show R.length=l.length by omega];exact DR (by omega) λd f j h=>e d (by simp[f]) j (g j h)
def x8 (k:Nat):Nat->Rat:=λi=>if i=k then 1 else 0
theorem RE {c:Nat->Rat}:∀{R:List Nat} {f:List Nat->Rat},(∀i∈R,c i=0)->wed c f R=0
 |[],_,_=>rfl
 |i::R,f,h=>by
  simp only[wed];rw[h i (by simp),RE λj a=>h j (by simp[a])];grind
theorem RF:∀{R:List Nat},R.Nodup->jN (R.map x8) R=1
 |[],_=>by simp[jN,x7];|i::R,h=>by
  rw[List.nodup_cons] at h;rw[ξ,Rx];simp only[wed];rw[RE (c:=x8 i) (R:=R) λj a=>by
   unfold x8;grind];rw[RF h.2];unfold x8;grind
def bN (n:Nat) (f:Nat->Rat):Rat:=match n with
 |0=>0
 |n+1=>bN n f+f n
theorem dn:∀{n:Nat} {f g:Nat->Rat},(∀i,i<n->f i=g i)->bN n f=bN n g
 |0,_,_,_=>rfl
 |n+1,f,g,h=>by simp only[bN];rw[dn λi a=>h i (by omega),h n (by omega)]
theorem sA:∀{n:Nat} {f g:Nat->Rat},bN n (λi=>f i+g i)=bN n f+bN n g
 |0,_,_=>by grind[bN];|n+1,f,g=>by simp only[bN];rw[sA];grind
theorem uf {c:Rat}:∀{n:Nat} {f:Nat->Rat},bN n (λi=>c*f i)=c*bN n f
 |0,_=>by grind[bN];|n+1,f=>by simp only[bN];rw[uf];grind
theorem hZ:∀{n:Nat},bN n (λ_=>0)=0
 |0=>rfl
 |n+1=>by simp only[bN];rw[hZ];grind
theorem vQ {k:Nat} {x:Rat}:∀{n:Nat},bN n (λi=>if i=k then x else 0)=if k<n then x else 0
 |0=>by simp[bN];|n+1=>by
  simp only[bN];rw[vQ];grind
theorem DT {n k:Nat} {f:Nat->Rat} (h:k<n):bN n f=f k+bN n λi=>if i=k then 0 else f i:=by
 have a:=@vQ k (f k) n;rw[if_pos h] at a;rw[<-a,<-sA];grind[dn]
theorem RG {a b:List (Nat->Rat)} {R:List Nat} {y:Nat->Rat} {T:Nat->Nat->Rat}:∀{n:Nat},jN (a++(λi=>bN n λk=>y k*T k i)::b) R=bN n λk=>y k*jN (a++T k::b) R
 |0=>by
  have e:(λi:Nat=>bN 0 λk=>y k*T k i)=λi=>(0:Rat)*(λ_=>0) i+0*(λ_=>0) i:=by grind[bN]
  rw[e,RB];grind[bN];|n+1=>by
  have e:(λi:Nat=>bN (n+1) λk=>y k*T k i)=λi=>(1:Rat)*(λi=>bN n λk=>y k*T k i) i+y n*T n i:=by
   grind[bN]
  rw[e,RB,RG];grind[bN]
theorem abA {C:List (Nat->Rat)} {R:List Nat} {y:Nat->Rat} {r:Nat} (f:r<C.length):jN (C.set r (λi=>bN C.length λk=>y k*(C.getD k (λ_=>0)) i)) R=y r*jN C R:=by
 have a:∀c:Nat->Rat,C.set r c=C.take r++c::C.drop (r+1):=λc=>by rw[εB,if_pos f]
 rw[a,RG,DT f];have m:∀k,k<C.length->(if k=r then(0:Rat) else y k*jN (C.take r++C.getD k (λ_=>0)::C.drop (r+1)) R)=0:=by
  intro k g;split;·rfl
  ·rename_i e;have o:jN (C.take r++C.getD k (λ_=>0)::C.drop (r+1)) R=0:=by
    have n:C.getD k (λ_=>0)=C[k]:=by simp_all
    rw[n];rcases Nat.lt_or_gt_of_ne e with h|h
    ·have j:C.take r=C.take k++C[k]::(C.drop (k+1)).take (r - (k+1)):=by
      have b:C[k]::C.drop (k+1)=C.drop k:=ζq g;obtain⟨d,rfl⟩:∃d,r=k+(d+1):=⟨r - (k+1),by omega⟩;rw[List.take_add,<-b,List.take_succ_cons,show k+(d+1) - (k+1)=d by omega]
     grind[Rz]
    ·have j:C.drop (r+1)=(C.drop (r+1)).take (k - (r+1))++C[k]::C.drop (k+1):=by
      have b:C[k]::C.drop (k+1)=C.drop k:=ζq g;rw[b];have l:=List.take_append_drop (k - (r+1)) (C.drop (r+1));rw[List.drop_drop,show r+1+(k - (r+1))=k by omega] at l;exact l.symm
     rw[j,Rz]
   simp_all
 rw[dn m,hZ];have b:C.take r++C.getD r (λ_=>0)::C.drop (r+1)=C:=by
  simp_all
 rw[b];grind
structure Tb where
 ck:List (List Rat)
 bound:List Rat
 cost:List Rat
 value:Rat
 basic:List Int
 free:List Int
namespace Tb
def cf (t:Tb) (i j:Nat):Rat:=bj (bj t.ck i []) j 0
def bd (t:Tb) (i:Nat):Rat:=bj t.bound i 0
def cs (t:Tb) (j:Nat):Rat:=bj t.cost j 0
def bv (t:Tb) (i:Nat):Int:=bj t.basic i 0
def fv (t:Tb) (j:Nat):Int:=bj t.free j 0
structure WF (n m:Nat) (t:Tb):Prop where
 ck:t.ck.length=m
 row:∀i,i<m->(bj t.ck i []).length=n
 bound:t.bound.length=m
 cost:t.cost.length=n
 basic:t.basic.length=m
 free:t.free.length=n
def holds (n m:Nat) (t:Tb) (x:Int->Rat) (z:Rat):Prop:=
 (∀i,i<m->x (t.bv i)+bN n (λj=>t.cf i j*x (t.fv j))=t.bd i)/\z=t.value+bN n λj=>t.cs j*x (t.fv j)
end Tb
def j8 (l:List Rat) (c:Nat) (p:List Rat):List Rat:=(ψ l.length).map λj=>if j=c then -(bj l c 0*bj p j 0) else bj l j 0 - bj l c 0*bj p j 0
def kH (l:List Rat) (c:Nat):List Rat:=(ψ l.length).map λj=>if j=c then 1 / bj l c 0 else bj l j 0*(1 / bj l c 0)
def fH (t:Tb) (r c:Nat):Tb where
 ck:=(ψ t.ck.length).map λi=>if i=r then kH (bj t.ck r []) c else j8 (bj t.ck i []) c (kH (bj t.ck r []) c);bound:=(ψ t.bound.length).map λi=>if i=r then t.bd r*(1 / t.cf r c) else t.bd i - t.cf i c*(t.bd r*(1 / t.cf r c));cost:=j8 t.cost c (kH (bj t.ck r []) c);value:=t.value+t.cs c*(t.bd r*(1 / t.cf r c));basic:=t.basic.set r (t.fv c);free:=t.free.set c (t.bv r)
theorem qH {a:Type} {f:Nat->a} {n i:Nat} {d:a} (h:i<n):bj ((ψ n).map f) i d=f i:=by
 grind[cV]
theorem iN {a:Type} {l:List a} {r i:Nat} {x d:a} (h:r<l.length):bj (l.set r x) i d=if i=r then x else bj l i d:=by
 unfold bj;grind
section
variable {n m:Nat} {t:Tb} {r c:Nat}
theorem RI {l:List Rat}:(kH l c).length=l.length:=by simp[kH]
theorem DU {l p:List Rat}:(j8 l c p).length=l.length:=by simp[j8]
theorem Jc {l:List Rat} {j:Nat} (h:j<l.length):bj (kH l c) j 0=if j=c then 1 / bj l c 0 else bj l j 0*(1 / bj l c 0):=qH h
theorem DV {l p:List Rat} {j:Nat} (h:j<l.length):bj (j8 l c p) j 0=if j=c then -(bj l c 0*bj p j 0) else bj l j 0 - bj l c 0*bj p j 0:=qH h
theorem RJ (h:t.WF n m):(fH t r c).WF n m where
 ck:=by simp[fH,h.ck]
 row i a:=by
  simp only[fH];rw[qH (by rw[h.ck];exact a)];split;·rename_i e;subst e;rw[RI,h.row _ a]
  ·rw[DU,h.row _ a]
 bound:=by simp[fH,h.bound]
 cost:=by simp only[fH];rw[DU,h.cost]
 basic:=by simp[fH,h.basic]
 free:=by simp[fH,h.free]
theorem As (h:t.WF n m) (b:r<m) (e:c<n) {i j:Nat} (d:i<m) (a:j<n):(fH t r c).cf i j=
  if i=r then(if j=c then 1 / t.cf r c else t.cf r j*(1 / t.cf r c)) else if j=c then -(t.cf i c*(1 / t.cf r c)) else t.cf i j - t.cf i c*(t.cf r j*(1 / t.cf r c)):=by
 unfold Tb.cf;simp only[fH];rw[qH (by rw[h.ck];exact d)];split;·rw[Jc (by rw[h.row _ b];exact a)]
 ·rw[DV (by rw[h.row _ d];exact a)];rw[Jc (by rw[h.row _ b];exact a)];simp_all
theorem DW (h:t.WF n m) {i:Nat} (a:i<m):(fH t r c).bd i=if i=r then t.bd r*(1 / t.cf r c) else t.bd i - t.cf i c*(t.bd r*(1 / t.cf r c)):=by
 show bj _ i 0=_;simp only[fH];rw[qH (by rw[h.bound];exact a)]
theorem RL (h:t.WF n m) (b:r<m) {j:Nat} (a:j<n):(fH t r c).cs j=if j=c then -(t.cs c*(1 / t.cf r c)) else t.cs j - t.cs c*(t.cf r j*(1 / t.cf r c)):=by
 show bj _ j 0=_;simp only[fH];rw[DV (by rw[h.cost];exact a),Jc (by rw[h.row _ b];exact a)];split;·rfl
 ·rfl
theorem Jd (h:t.WF n m) (a:r<m) {i:Nat}:(fH t r c).bv i=if i=r then t.fv c else t.bv i:=iN (by rw[h.basic];exact a)
theorem Je (h:t.WF n m) (a:c<n) {j:Nat}:(fH t r c).fv j=if j=c then t.bv r else t.fv j:=iN (by rw[h.free];exact a)
theorem piv_holds (h:t.WF n m) (b:r<m) (k:c<n) (K:t.cf r c≠0) {x:Int->Rat} {z:Rat}:(fH t r c).holds n m x z↔t.holds n m x z:=by
 have d:∀f:Nat->Rat,bN n (λj=>f j*x (t.fv j))=f c*x (t.fv c)+bN n (λj=>if j=c then 0 else f j*x (t.fv j)):=λf=>DT k;have e:∀f:Nat->Rat,bN n (λj=>f j*x ((fH t r c).fv j))=f c*x (t.bv r)+bN n (λj=>if j=c then 0 else f j*x (t.fv j)):=λf=>by
  rw[DT k,Je h k,if_pos rfl];congr 1;refine dn λj _=>?_;split;·rfl
  ·rename_i p;rw[Je h k,if_neg p]
 have I:bN n (λj=>if j=c then 0 else(fH t r c).cf r j*x (t.fv j))=(1 / t.cf r c)*bN n (λj=>if j=c then 0 else t.cf r j*x (t.fv j)):=by
  rw[<-uf];refine dn λj p=>?_;split;·grind
  ·rename_i l;rw[As h b k b p,if_pos rfl,if_neg l];grind
 have E:∀f g:Nat->Rat,∀q:Rat,(∀j,j<n->j≠c->g j=f j - q*(t.cf r j*(1 / t.cf r c)))->bN n (λj=>if j=c then 0 else g j*x (t.fv j))=bN n (λj=>if j=c then 0 else f j*x (t.fv j))+(-(q*(1 / t.cf r c)))*bN n (λj=>if j=c then 0 else t.cf r j*x (t.fv j)):=λf g q L=>by
  rw[<-uf,<-sA];refine dn λj p=>?_;grind
 have J:∀j,j<n->j≠c->(fH t r c).cs j=t.cs j - t.cs c*(t.cf r j*(1 / t.cf r c)):=λj p l=>by rw[RL h b p,if_neg l]
 have B:∀i,i<m->i≠r->∀j,j<n->j≠c->(fH t r c).cf i j=t.cf i j - t.cf i c*(t.cf r j*(1 / t.cf r c)):=λi o a j p l=>by rw[As h b k o p,if_neg a,if_neg l]
 have G:=E t.cs _ _ J;have v:=RL (c:=c) h b k;rw[if_pos rfl] at v;have s:=As h b k b k;rw[if_pos rfl,if_pos rfl] at s;have w:=DW (r:=r) (c:=c) h b;rw[if_pos rfl] at w;have u:=Jd (c:=c) (i:=r) h b;rw[if_pos rfl] at u;have H:(fH t r c).value=t.value+t.cs c*(t.bd r*(1 / t.cf r c)):=rfl;unfold Tb.holds;constructor
 ·rintro⟨A,F⟩;have C:=A r b;rw[e,I,s,u,w] at C;refine⟨λi o=>?_,?_⟩
  ·by_cases a:i=r
   ·subst a;rw[d];grind
   ·have D:=A i o;have y:=As h b k o k;rw[if_neg a,if_pos rfl] at y;rw[e,E _ _ _ (B i o a),Jd h b,if_neg a,DW h o,if_neg a,y] at D;rw[d];grind
  ·rw[e,G,v,H] at F;rw[d];grind
 ·rintro⟨A,F⟩;have C:=A r b;rw[d] at C;refine⟨λi o=>?_,?_⟩
  ·by_cases a:i=r
   ·subst a;rw[e,I,s,u,w];grind
   ·have D:=A i o;have y:=As h b k o k;rw[if_neg a,if_pos rfl] at y;rw[e,E _ _ _ (B i o a),Jd h b,if_neg a,DW h o,if_neg a,y];rw[d] at D;grind
  ·rw[e,G,v,H];rw[d] at F;grind
end
def lW (f:Int->Rat):List Int->Rat
 |[]=>0
 |x::l=>f x+lW f l
theorem Au {f:Int->Rat}:∀{l k:List Int},lW f (l++k)=lW f l+lW f k
 |[],k=>by grind[lW];|x::l,k=>by simp only[γy,lW,@Au f l k];grind
theorem Jf {f:Int->Rat} {l k:List Int} (h:l.Perm k):lW f l=lW f k:=by
 induction h<;>grind[lW,swap,trans]
theorem RN:∀{n:Nat} {f:Nat->Rat},bN (n+1) f=f 0+bN n λi=>f (i+1)
 |0,f=>by grind[bN];|n+1,f=>by
  rw[bN,RN];grind[bN]
theorem pH {f:Int->Rat}:∀{l:List Int},lW f l=bN l.length λk=>f (bj l k 0)
 |[]=>rfl
 |x::l=>by
  rw[γB,RN,lW,pH];rfl
def jj (n:Nat) (t:Tb) (y:Nat->Rat) (v:Int):Rat:=if v∈t.free then y (t.free.idxOf v) else t.bd (t.basic.idxOf v) - bN n λj=>t.cf (t.basic.idxOf v) j*y j
section
variable {n m:Nat} {t t0:Tb} {r c:Nat}
theorem oR {l:List Int} {i:Nat} (h:l.Nodup) (a:i<l.length):l.idxOf (bj l i 0)=i:=by
 grind[cV]
theorem mB (h:t.WF n m) (c:(t.basic++t.free).Nodup) {y:Nat->Rat} {j:Nat} (a:j<n):jj n t y (t.fv j)=y j:=by
 have b:j<t.free.length:=by rw[h.free];exact a
 unfold jj Tb.fv;rw[if_pos (by grind[cV]),oR (γu.1 c).2.1 b]
theorem Jg (h:t.WF n m) (b:(t.basic++t.free).Nodup) {i:Nat} (a:i<m):t.bv i∉t.free:=λc=>by
 have d:i<t.basic.length:=by rw[h.basic];exact a
 grind[Tb.bv,cV]
theorem np (h:t.WF n m) (a:(t.basic++t.free).Nodup) {y:Nat->Rat} {i:Nat} (c:i<m):jj n t y (t.bv i)=t.bd i - bN n λj=>t.cf i j*y j:=by
 have b:i<t.basic.length:=by rw[h.basic];exact c
 have e:t.basic.idxOf (t.bv i)=i:=oR (γu.1 a).1 b;unfold jj;grind
theorem asg_holds (h:t.WF n m) (a:(t.basic++t.free).Nodup) {y:Nat->Rat}:t.holds n m (jj n t y) (t.value+bN n λj=>t.cs j*y j):=by
 have e:∀f:Nat->Rat,bN n (λj=>f j*jj n t y (t.fv j))=bN n λj=>f j*y j:=λf=>dn λj c=>by grind[mB]
 refine⟨λi b=>?_,?_⟩
 ·rw[np h a b,e];grind
 ·rw[e]
def fJ (m:Nat) (t0:Tb) (v:Int) (i:Nat):Rat:=if i<m then(if v∈t0.free then t0.cf i (t0.free.idxOf v) else if t0.basic.idxOf v=i then 1 else 0) else 0
def x9 (m:Nat) (t0:Tb) (i:Nat):Rat:=if i<m then t0.bd i else 0
def jk (m:Nat) (t0 t:Tb):Rat:=jN (t.basic.map (fJ m t0)) (ψ m)
structure Run (n m:Nat) (t0 t:Tb):Prop where
 nZ:t0.WF n m
 wf:t.WF n m
 nd:(t0.basic++t0.free).Nodup
 perm:(t.basic++t.free).Perm (t0.basic++t0.free)
 mC:∀x z,t.holds n m x z↔t0.holds n m x z
 dt:jk m t0 t≠0
theorem Run.fY (h:Run n m t0 t):(t.basic++t.free).Nodup:=h.perm.symm.nodup h.nd
theorem Run.refl (h:t0.WF n m) (a:(t0.basic++t0.free).Nodup):Run n m t0 t0:=by
 refine⟨h,h,a,List.Perm.refl _,λ_ _=>Iff.rfl,?_⟩;have e:t0.basic.map (fJ m t0)=(ψ m).map x8:=by
  refine List.ext_getElem (by simp[h.basic]) λi g d=>?_;simp only[List.getElem_map,List.getElem_range];have f:i<m:=by simp_all
  have b:t0.basic[i]'(by simp_all)=t0.bv i:=by grind[Tb.bv,cV]
  rw[b];funext k;have c:t0.basic.idxOf (t0.bv i)=i:=oR (γu.1 a).1 (by grind);unfold fJ x8;grind
 grind[jk,RF]
theorem Run.rows (h:Run n m t0 t) {x:Int->Rat} {z:Rat} (l:t.holds n m x z) {i:Nat}:bN m (λk=>fJ m t0 (t.bv k) i*x (t.bv k))+bN n (λj=>fJ m t0 (t.fv j) i*x (t.fv j))=x9 m t0 i:=by
 have b:∀t:Tb,t.WF n m->lW (λv=>fJ m t0 v i*x v) (t.basic++t.free)=bN m (λk=>fJ m t0 (t.bv k) i*x (t.bv k))+bN n (λj=>fJ m t0 (t.fv j) i*x (t.fv j)):=λt f=>by
  rw[Au,pH,pH,f.basic,f.free];rfl
 rw[<-b t h.wf,Jf h.perm,b t0 h.nZ];have p:=(h.mC x z).1 l;unfold x9;by_cases a:i<m
 ·rw[if_pos a,<-p.1 i a];congr 1
  ·have e:bN m (λk=>fJ m t0 (t0.bv k) i*x (t0.bv k))=bN m λk=>if k=i then x (t0.bv i) else 0:=dn λk d=>by
    have c:t0.basic.idxOf (t0.bv k)=k:=oR (γu.1 h.nd).1 (by rw[h.nZ.basic];exact d);unfold fJ;rw[if_pos a,if_neg (Jg h.nZ h.nd d),c];grind
   rw[e,vQ,if_pos a]
  ·refine dn λj g=>?_;have o:j<t0.free.length:=by rw[h.nZ.free];exact g
   unfold fJ;rw[if_pos a,if_pos (by grind[Tb.fv,cV])];have c:t0.free.idxOf (t0.fv j)=j:=oR (γu.1 h.nd).2.1 o;rw[c]
 ·rw[if_neg a];have e:∀v,fJ m t0 v i=0:=λv=>by simp_all[fJ,if_neg]
  simp only[e];grind[hZ]
theorem Run.RO (h:Run n m t0 t):x9 m t0=λi=>bN m λk=>t.bd k*fJ m t0 (t.bv k) i:=by
 funext i;have a:=h.rows (i:=i) (asg_holds h.wf h.fY (y:=λ_=>0));rw[<-a,dn (n:=n) (g:=λ_=>0) λj c=>by rw[mB h.wf h.fY c];grind,hZ,dn (n:=m) (g:=λk=>t.bd k*fJ m t0 (t.bv k) i) λk b=>by
  rw[np h.wf h.fY b,dn (g:=λ_=>0) λj _=>by grind,hZ];grind];grind
theorem Run.abB (h:Run n m t0 t) {c:Nat} (a:c<n):fJ m t0 (t.fv c)=λi=>bN m λk=>t.cf k c*fJ m t0 (t.bv k) i:=by
 funext i;have f:=congrFun h.RO i;have b:=h.rows (i:=i) (asg_holds h.wf h.fY (y:=λj=>if j=c then 1 else 0));rw[dn (n:=n) (g:=λj=>if j=c then fJ m t0 (t.fv c) i else 0) λj e=>by
  rw[mB h.wf h.fY e];grind,vQ,if_pos a,dn (n:=m) (g:=λk=>t.bd k*fJ m t0 (t.bv k) i+(-1)*(t.cf k c*fJ m t0 (t.bv k) i)) λk d=>by
   rw[np h.wf h.fY d,dn (g:=λj=>if j=c then t.cf k c else 0) λj _=>by
    grind,vQ,if_pos a];grind,sA,uf] at b;grind
theorem getD_map {l:List Int} {f:Int->Nat->Rat} {k:Nat} (h:k<l.length):(l.map f).getD k (λ_=>0)=f (bj l k 0):=by
 grind[cV]
theorem Run.RP (h:Run n m t0 t) {y:Nat->Rat} {r:Nat} (d:r<m):jN ((t.basic.map (fJ m t0)).set r λi=>bN m λk=>y k*fJ m t0 (t.bv k) i) (ψ m)=y r*jk m t0 t:=by
 have b:(t.basic.map (fJ m t0)).length=m:=by rw[Ω,h.wf.basic]
 have a:=@abA (t.basic.map (fJ m t0)) (ψ m) y r (by omega);unfold jk;rw[<-a,b];congr 2;funext i;refine dn λk c=>?_;rw[getD_map (by simp_all)];rfl
theorem Run.RR (h:Run n m t0 t) {r c:Nat} (a:r<m) (b:c<n):jN ((t.basic.map (fJ m t0)).set r (fJ m t0 (t.fv c))) (ψ m)=t.cf r c*jk m t0 t:=by
 rw[h.abB b];exact h.RP (y:=λk=>t.cf k c) a
theorem Run.abC (h:Run n m t0 t) {r:Nat} (a:r<m):jN ((t.basic.map (fJ m t0)).set r (x9 m t0)) (ψ m)=t.bd r*jk m t0 t:=by
 rw[h.RO];exact h.RP (y:=t.bd) a
theorem set_perm {l:List Int} {r:Nat} {x:Int} (a:r<l.length):(l.set r x).Perm (x::(l.take r++l.drop (r+1))):=by
 rw[εB,if_pos a];simp_all
theorem abD {l:List Int} {r:Nat} (a:r<l.length):(l[r]::(l.take r++l.drop (r+1))).Perm l:=by
 have h:=@set_perm l r l[r] a;grind
theorem swap_perm {l k:List Int} {r c:Nat} (a:r<l.length) (b:c<k.length):(l.set r (bj k c 0)++k.set c (bj l r 0)).Perm (l++k):=by
 grind[cV]
theorem Run.piv (h:Run n m t0 t) {r c:Nat} (a:r<m) (b:c<n) (d:t.cf r c≠0):Run n m t0 (fH t r c) where
 nZ:=h.nZ;wf:=RJ h.wf;nd:=h.nd;perm:=(swap_perm (by rw[h.wf.basic];exact a) (by rw[h.wf.free];exact b)).trans h.perm;mC x z:=(piv_holds h.wf a b d).trans (h.mC x z);dt:=by
  have e:jk m t0 (fH t r c)=t.cf r c*jk m t0 t:=by
   rw[<-h.RR a b];unfold jk;congr 1;show(t.basic.set r (t.fv c)).map (fJ m t0)=_;simp_all
  rw[e];have:=h.dt;grind
theorem DX {M:Nat} (d:1<=M) (c:∀i j,i<m->j<n->eW M (t0.cf i j)) (a:t0.WF n m) {v:Int} {i:Nat}:eW M (fJ m t0 v i):=by
 unfold fJ;split
 ·split
  ·rename_i b e;exact c _ _ b (by rw[<-a.free];grind)
  ·split;·exact⟨1,by simp,by omega⟩
   ·exact⟨0,by simp,by simp⟩
 ·exact⟨0,by simp,by simp⟩
theorem mem_set {C:List (Nat->Rat)} {r:Nat} {c d:Nat->Rat} (h:d∈C.set r c):d∈C\/d=c:=List.mem_or_eq_of_mem_set h
theorem Run.abE (h:Run n m t0 t) {M:Nat} (a:1<=M) (c:∀i j,i<m->j<n->eW M (t0.cf i j)):eW (nn M m) (jk m t0 t):=by
 have:=@DR M (t.basic.map (fJ m t0)) (ψ m) (by simp[h.wf.basic]) λd b i _=>by
  obtain⟨v,_,rfl⟩:=γa.1 b;exact DX a c h.nZ
 rwa [List.length_range] at this
theorem Run.cfZ (h:Run n m t0 t) {M:Nat} (e:1<=M) (b:∀i j,i<m->j<n->eW M (t0.cf i j)) {r c:Nat} (f:r<m) (g:c<n):eW (nn M m) (t.cf r c*jk m t0 t):=by
 rw[<-h.RR f g];have:=@DR M ((t.basic.map (fJ m t0)).set r (fJ m t0 (t.fv c))) (ψ m) (by simp[h.wf.basic]) λd a i _=>by
  rcases mem_set a with a|rfl
  ·obtain⟨v,_,rfl⟩:=γa.1 a;exact DX e b h.nZ
  ·exact DX e b h.nZ
 simp_all
theorem Run.bdZ (h:Run n m t0 t) {M:Nat} (b:1<=M) (c:∀i j,i<m->j<n->eW M (t0.cf i j)) (f:∀i,i<m->eW M (t0.bd i)) {r:Nat} (e:r<m):eW (nn M m) (t.bd r*jk m t0 t):=by
 rw[<-h.abC e];have:=@DR M ((t.basic.map (fJ m t0)).set r (x9 m t0)) (ψ m) (by simp[h.wf.basic]) λd a i g=>by
  rcases mem_set a with a|rfl
  ·obtain⟨v,_,rfl⟩:=γa.1 a;exact DX b c h.nZ
  simp_all[x9]
 simp_all
end
structure qI (n m:Nat) (t:Tb) (r c:Nat):Prop where
 hr:r<m
 hc:c<n
 cost:0<t.cs c
 least:∀j,j<n->0<t.cs j->t.fv c<=t.fv j
 pos:0<t.cf r c
 ratio:∀i,i<m->0<t.cf i c->t.bd r / t.cf r c<t.bd i / t.cf i c\/(t.bd r / t.cf r c=t.bd i / t.cf i c/\t.bv r<=t.bv i)
def j9 (m:Nat) (t:Tb):Prop:=∀i,i<m->0<=t.bd i
section
variable {n m:Nat} {t t0:Tb} {r c:Nat}
theorem Av (a b:Rat):a<=b\/b<a:=(Classical.em (a<=b)).imp id ζJ.1
theorem div_mul {a b:Rat} (h:0<b):a / b*b=a:=by
 grind
theorem inv_pos {b:Rat} (h:0<b):0<1 / b:=by
 have c:(1 / b)*b=1:=div_mul h;rcases Av (1 / b) 0 with a|a
 ·exfalso;have d:0<=(-(1 / b))*b:=δw (by grind) (by grind);grind
 ·exact a
theorem RS {a b:Rat} (c:0<=a) (h:0<b):0<=a / b:=by
 grind[δw,inv_pos]
theorem qI.ge (h:qI n m t r c) (a:j9 m t):0<=t.bd r / t.cf r c:=RS (a r h.hr) h.pos
theorem qI.ya (h:qI n m t r c) (k:t.WF n m) (d:j9 m t):j9 m (fH t r c):=by
 intro i a;have f:=h.ge d;have e:t.bd r*(1 / t.cf r c)=t.bd r / t.cf r c:=by grind
 rw[DW k a,e];split;·exact f
 ·rcases Av (t.cf i c) 0 with b|b
  ·have j:0<=(-(t.cf i c))*(t.bd r / t.cf r c):=δw (by grind) f;have:=d i a;grind
  ·have j:t.bd r / t.cf r c<=t.bd i / t.cf i c:=by
    rcases h.ratio i a b with g|g<;>grind
   have g:0<=t.cf i c*(t.bd i / t.cf i c - t.bd r / t.cf r c):=δw (by grind) (by grind);grind[div_mul]
theorem qI.value:(fH t r c).value=t.value+t.cs c*(t.bd r / t.cf r c):=by
 show t.value+t.cs c*(t.bd r*(1 / t.cf r c))=_;grind
theorem Jh {b:Type}:∀(L:List b) (f:Nat->b),(∀k,f k∈L)->∃i j,i<j/\f i=f j
 |[],f,h=>by simp_all;|a::L,f,h=>by
  by_cases c:∃i,f i=a
  ·obtain⟨i,g⟩:=c;by_cases e:∃j,i<j/\f j=a;·grind
   ·obtain⟨x,y,d,l⟩:=Jh L (λk=>f (k+i+1)) λk=>by
     grind
    grind
  ·exact Jh L f λk=>by
    simp_all
def Aw (V:List Int):Nat->List (List Int)
 |0=>[[]]
 |k+1=>(Aw V k).flatMap λl=>V.map λv=>v::l
theorem RU {V:List Int}:∀{l:List Int},(∀v∈l,v∈V)->l∈Aw V l.length
 |[],_=>by simp[Aw];|x::l,h=>by
  simp only[γB,Aw,List.mem_flatMap,γa];exact⟨l,RU λv a=>h v (by simp[a]),x,h x (by simp),rfl⟩
theorem abI {l:List Int} {r:Nat} {x v:Int} (a:r<l.length) (b:l.Nodup):v∈l.set r x↔v=x\/(v∈l/\v≠bj l r 0):=by
 grind[set_perm,cV,abD]
theorem RV {f:Nat->Int} {i:Nat}:∀{d:Nat},∃k,(i<=k/\k<=i+d)/\∀x,i<=x->x<=i+d->f x<=f k
 |0=>⟨i,by omega,λx a b=>by grind⟩
 |d+1=>by
  obtain⟨k,a,b⟩:=@RV f i d;by_cases h:f k<=f (i+(d+1))
  ·refine⟨i+(d+1),by omega,λx c e=>?_⟩;grind
  ·refine⟨k,by omega,λx c e=>?_⟩;grind
theorem RX:∀{n:Nat} {f:Nat->Rat},0<bN n f->∃j,j<n/\0<f j
 |0,f,h=>by grind[bN];|n+1,f,h=>by
  rcases Av (f n) 0 with a|a
  ·obtain⟨j,c,b⟩:=@RX n f (by grind[bN]);grind
  grind
theorem vR (h:t.WF n m) {j:Nat} (a:j<n):t.fv j∈t.free:=by
 have b:j<t.free.length:=by rw[h.free];exact a
 grind[Tb.fv,cV]
theorem Ax (h:t.WF n m) {j:Nat} (a:j<m):t.bv j∈t.basic:=by
 have b:j<t.basic.length:=by rw[h.basic];exact a
 grind[Tb.bv,cV]
theorem vS (h:t.WF n m) {v:Int} (b:v∈t.free):∃j,j<n/\t.fv j=v:=by
 obtain⟨j,a,rfl⟩:=γF b;exact⟨j,by rw[<-h.free];exact a,by grind[Tb.fv,cV]⟩
theorem yb (h:t.WF n m) {v:Int} (b:v∈t.basic):∃j,j<m/\t.bv j=v:=by
 obtain⟨j,a,rfl⟩:=γF b;exact⟨j,by rw[<-h.basic];exact a,by grind[Tb.bv,cV]⟩
theorem Ji (c:(t.basic++t.free).Nodup) {v:Int} (a:v∈t.basic) (b:v∈t.free):False:=(γu.1 c).2.2 _ a _ b rfl
theorem abJ (h:t.WF n m) (c:(t.basic++t.free).Nodup) {i j:Nat} (f:i<m) (d:j<m) (e:t.bv i=t.bv j):i=j:=by
 have a:=oR (γu.1 c).1 (show i<t.basic.length by rw[h.basic];exact f);have b:=oR (γu.1 c).1 (show j<t.basic.length by rw[h.basic];exact d);grind[Tb.bv]
theorem abK (h:t.WF n m) (c:(t.basic++t.free).Nodup) {i j:Nat} (f:i<n) (d:j<n) (e:t.fv i=t.fv j):i=j:=by
 have a:=oR (γu.1 c).2.1 (show i<t.free.length by rw[h.free];exact f);have b:=oR (γu.1 c).2.1 (show j<t.free.length by rw[h.free];exact d);grind[Tb.fv]
theorem abL {T:Nat->Tb} {r c:Nat->Nat} (p:∀k,Run n m t0 (T k)) (hF:∀k,j9 m (T k)) (B:∀k,qI n m (T k) (r k) (c k)) (hT:∀k,T (k+1)=fH (T k) (r k) (c k)) {i j:Nat} (b8:i<j) (hb:(T i).basic=(T j).basic) (hf:(T i).free=(T j).free):False:=by
 have b7:(T i).value=(T j).value:=by
  have t:=((p j).mC _ _).2 (((p i).mC _ _).1 (asg_holds (p i).wf (p i).fY (y:=λ_=>0)));have e1:bN n (λk=>(T i).cs k*(λ_=>(0:Rat)) k)=0:=by grind[hZ]
  have e2:bN n (λk=>(T j).cs k*jj n (T i) (λ_=>0) ((T j).fv k))=0:=by
   rw[dn (g:=λ_=>0) λk hk=>by
    have:(T j).fv k=(T i).fv k:=by grind[Tb.fv]
    rw[this,mB (p i).wf (p i).fY hk];grind,hZ]
  have K:=t.2;grind
 have L:∀k,(T k).value<=(T (k+1)).value:=λk=>by
  rw[hT k,qI.value];have:=δw (a:=(T k).cs (c k)) (by have:=(B k).cost;grind) ((B k).ge (hF k));grind
 have S:∀d a,(T a).value<=(T (a+d)).value:=λd=>by
  induction d<;>grind
 have H:∀k,i<=k->k<j->(T k).bd (r k)=0:=λk t K=>by
  have a1:=S (k - i) i;have a2:=S (j - (k+1)) (k+1);rw[show i+(k - i)=k by omega] at a1;rw[show k+1+(j - (k+1))=j by omega] at a2;have a3:=L k;rw[hT k] at a2 a3;rw[qI.value] at a2 a3;have h3:=(B k).ge (hF k);have hc:=(B k).cost;have h4:=@div_mul ((T k).bd (r k)) _ (B k).pos;grind[Rat.mul_eq_zero]
 have b6:∀k,i<=k->k<j->∀v,v∈(T k).basic++(T k).free->jj n (T (k+1)) (λ_=>0) v=jj n (T k) (λ_=>0) v:=λk t K v O=>by
  have hw:=(p k).wf;have G:=(p (k+1)).wf;have hx:=((p (k+1)).mC _ _).2 (((p k).mC _ _).1 (asg_holds hw (p k).fY (y:=λ_=>0)));have hz:∀q,q<n->jj n (T k) (λ_=>0) ((T (k+1)).fv q)=0:=λq s=>by
   rw[hT k,Je hw (B k).hc];split
   ·rw[np hw (p k).fY (B k).hr,H k t K,dn (g:=λ_=>0) λj _=>by grind,hZ];grind
   ·rw[mB hw (p k).fY s]
  have A:v∈(T (k+1)).basic++(T (k+1)).free:=((p (k+1)).perm.trans (p k).perm.symm).mem_iff.2 O;rcases γh.1 A with A|A
  ·obtain⟨q,s,rfl⟩:=yb G A;have:=hx.1 q s;rw[dn (g:=λ_=>0) λj hj=>by simp_all,hZ] at this;rw[np G (p (k+1)).fY s,dn (g:=λ_=>0) λj _=>by grind,hZ];grind
  ·obtain⟨q,s,rfl⟩:=vS G A;rw[hz q s,mB G (p (k+1)).fY s]
 have w:∀a b v,v∈(T a).basic++(T a).free->v∈(T b).basic++(T b).free:=λa b v O=>((p b).perm.trans (p a).perm.symm).mem_iff.2 O;have W:∀d a,i<=a->a+d<=j->∀v,v∈(T a).basic++(T a).free->jj n (T (a+d)) (λ_=>0) v=jj n (T a) (λ_=>0) v:=λd=>by
  induction d<;>grind
 have hA:∀a b,i<=a->a<=j->i<=b->b<=j->∀v,v∈(T a).basic++(T a).free->jj n (T a) (λ_=>0) v=jj n (T b) (λ_=>0) v:=λa b t K h3 h4 v O=>by
  have e1:=W (a - i) i (by omega) (by omega) v (w _ _ v O);have e2:=W (b - i) i (by omega) (by omega) v (w _ _ v O);simp_all
 have P:∀k v,v∈(T (k+1)).basic↔v=(T k).fv (c k)\/(v∈(T k).basic/\v≠(T k).bv (r k)):=λk v=>by
  rw[hT k];exact abI (by rw[(p k).wf.basic];exact(B k).hr) (γu.1 (p k).fY).1
 have U:∀v a b,i<=a->a<=j->i<=b->b<=j->v∈(T a).basic->v∉(T b).basic->∃k,i<=k/\k<j/\(T k).fv (c k)=v:=λv a b a1 a2 b1 b2 ha a9=>by
  apply δU;intro Y;have I:∀d x,i<=x->x+d<=j->v∈(T (x+d)).basic->v∈(T x).basic:=λd=>by
   induction d<;>grind
  have t:=I (a - i) i (by omega) (by omega) (by simp_all);rw[hb] at t;exact a9 (I (j - b) b (by omega) (by omega) (by simp_all))
 obtain⟨l,⟨a6,b9⟩,a0⟩:=@RV (λk=>(T k).fv (c k)) i (j - 1 - i);have J:∀x,i<=x->x<j->(T x).fv (c x)<=(T l).fv (c l):=λx t K=>a0 x t (by omega);have c2:l<j:=by omega
 have a7:(T l).fv (c l)∈(T l).free:=vR (p l).wf (B l).hc;have c0:(T l).fv (c l)∉(T l).basic:=λh=>Ji (p l).fY h a7;obtain⟨o,F,Q,hl⟩:∃o,i<=o/\o<j/\(T o).bv (r o)=(T l).fv (c l):=by
  apply δU;intro Y;have up:∀d x,i<=x->x+d<=j->(T l).fv (c l)∈(T x).basic->(T l).fv (c l)∈(T (x+d)).basic:=λd=>by
   induction d with
   |zero=>intro x _ _ h;exact h;|succ d ih=>
    intro x t K h;exact(P (x+d) _).2 (.inr ⟨ih x t (by omega) h,λe=>Y ⟨x+d,by omega,by omega,e.symm⟩⟩)
  have t:=up (j - (l+1)) (l+1) (by omega) (by omega) ((P l _).2 (.inl rfl));rw[show l+1+(j - (l+1))=j by omega,<-hb] at t;have K:=up (l - i) i (by omega) (by omega) t;simp_all
 have w1:=(p l).wf;have C:=(p o).wf;have n1:=(p l).fY;have E:=(p o).fY;have p1:=B l;have N:=B o;have x1:=(((p l).mC _ _).2 (((p o).mC _ _).1 (asg_holds C E (y:=λq=>if q=c o then 1 else 0)))).2;have x0:=(((p l).mC _ _).2 (((p o).mC _ _).1 (asg_holds C E (y:=λ_=>0)))).2;rw[dn (f:=λq=>(T o).cs q*(λq=>if q=c o then(1:Rat) else 0) q) (g:=λq=>if q=c o then(T o).cs (c o) else 0) λq _=>by
  by_cases s:q=c o<;>grind,vQ,if_pos N.hc] at x1;rw[dn (f:=λq=>(T o).cs q*(λ_=>(0:Rat)) q) (g:=λ_=>0) λq _=>by grind,hZ] at x0;have hd:0<bN n λq=>(T l).cs q*(jj n (T o) (λq=>if q=c o then 1 else 0) ((T l).fv q) - jj n (T o) (λ_=>0) ((T l).fv q)):=by
  rw[dn (g:=λq=>(T l).cs q*jj n (T o) (λq=>if q=c o then 1 else 0) ((T l).fv q)+(-1)*((T l).cs q*jj n (T o) (λ_=>0) ((T l).fv q))) λq _=>by grind,sA,uf];have:=N.cost;grind
 obtain⟨q,s,u⟩:=RX hd;have a5:(T l).fv q∈(T l).free:=vR w1 s;have Z:=w l o _ (List.mem_append_right _ a5);rcases γh.1 Z with a4|X
 ·obtain⟨D,z,e⟩:=yb C a4;rw[<-e,np C E z,np C E z,dn (f:=λj=>(T o).cf D j*(λq=>if q=c o then(1:Rat) else 0) j) (g:=λj=>if j=c o then(T o).cf D (c o) else 0) (λj _=>by
   by_cases hj:j=c o<;>grind),vQ,if_pos N.hc,dn (f:=λj=>(T o).cf D j*(λ_=>(0:Rat)) j) (g:=λ_=>0) (λj _=>by grind),hZ] at u;have M:0<(T l).cs q*(-(T o).cf D (c o)):=by grind
  obtain⟨k3,b3,b5,h3⟩:=U _ o l F (by omega) a6 (by omega) a4 (λh=>Ji n1 h a5);have b0:(T l).fv q<=(T l).fv (c l):=by grind
  rcases Av ((T l).cs q) 0 with hs|hs
  ·have a8:0<(T o).cf D (c o):=by
    rcases Av ((T o).cf D (c o)) 0 with h4|h4
    ·exfalso;have:=δw (a:= -(T l).cs q) (b:= -(T o).cf D (c o)) (by grind) (by grind);grind
    ·exact h4
   have b4:(T o).bd D=0:=by
    have V:=hA o l F (by omega) a6 (by omega) ((T l).fv q) Z;rw[mB w1 n1 s,<-e,np C E z,dn (g:=λ_=>0) λj _=>by grind,hZ] at V;grind
   have c1:=H o F Q;have hz:∀b:Rat,(0:Rat) / b=0:=λb=>by grind
   rcases N.ratio D z a8 with h6|h6;·simp_all
   ·have h7:(T l).fv (c l)<=(T l).fv q:=by omega
    have h8:=abK w1 n1 s p1.hc (by omega);rw[h8] at hs;have:=p1.cost;grind
  ·have h7:=p1.least q s hs;have h8:D=r o:=abJ C E z N.hr (by omega);rw[h8] at M;have:=δw (a:=(T l).cs q) (b:=(T o).cf (r o) (c o)) (by grind) (by have:=N.pos;grind);grind
 ·obtain⟨q2,R,e⟩:=vS C X;rw[<-e,mB C E R,mB C E R] at u;by_cases V:q2=c o
  ·rw[if_pos V] at u;have h6:=p1.least q s (by grind);have h7:=J o F Q;rw[V] at e;have h8:(T l).fv (c l)=(T o).fv (c o):=by omega
   exact Ji E (Ax C N.hr) (by grind)
  ·rw[if_neg V] at u;grind
end
def eA (t:Tb):Nat->Int
 |0=> -1
 |k+1=>if 0<t.cs k/\(eA t k<0\/t.fv k<t.fv (eA t k).toNat) then(k:Int) else eA t k
def dV (t:Tb) (c:Nat):Nat->Int
 |0=> -1
 |k+1=>if t.cf k c<=0 then dV t c k
  else if 0<=dV t c k/\(t.bd (dV t c k).toNat / t.cf (dV t c k).toNat c<t.bd k / t.cf k c\/(t.bd k / t.cf k c=t.bd (dV t c k).toNat / t.cf (dV t c k).toNat c/\t.bv (dV t c k).toNat<t.bv k)) then dV t c k
  else(k:Int)
section
variable {n m:Nat} {t t0:Tb} {r c:Nat}
theorem ug:∀{k:Nat},(eA t k= -1/\∀j,j<k->¬0<t.cs j)\/(∃b:Nat,eA t k=b/\b<k/\0<t.cs b/\∀j,j<k->0<t.cs j->t.fv b<=t.fv j)
 |0=> .inl ⟨rfl,λj h=>by omega⟩
 |k+1=>by
  unfold eA;rcases @ug k with⟨a,c⟩|⟨b,a,c,d,e⟩;·grind
  ·have f:(eA t k).toNat=b:=by omega
   grind
theorem vT {c:Nat}:∀{k:Nat},(dV t c k= -1/\∀j,j<k->t.cf j c<=0)\/(∃b:Nat,dV t c k=b/\b<k/\0<t.cf b c/\∀j,j<k->0<t.cf j c->t.bd b / t.cf b c<t.bd j / t.cf j c\/(t.bd b / t.cf b c=t.bd j / t.cf j c/\t.bv b<=t.bv j))
 |0=> .inl ⟨rfl,λj h=>by omega⟩
 |k+1=>by
  unfold dV;by_cases e:t.cf k c<=0
  ·rw[if_pos e];rcases @vT c k with⟨f,a⟩|⟨b,f,a,o,n⟩<;>grind
  ·rw[if_neg e];have g:0<t.cf k c:=ζJ.1 e;rcases @vT c k with⟨f,a⟩|⟨b,f,a,o,n⟩;·grind
   ·have i:(dV t c k).toNat=b:=by omega
    rw[i];by_cases d:0<=dV t c k/\(t.bd b / t.cf b c<t.bd k / t.cf k c\/(t.bd k / t.cf k c=t.bd b / t.cf b c/\t.bv b<t.bv k));·grind
    ·rw[if_neg d];have l:¬t.bd b / t.cf b c<t.bd k / t.cf k c:=λh=>d ⟨by omega,.inl h⟩;have m:t.bd k / t.cf k c=t.bd b / t.cf b c->¬t.bv b<t.bv k:=λh a=>d ⟨by omega,.inr ⟨h,a⟩⟩;refine .inr ⟨k,rfl,by omega,g,λj p q=>?_⟩;grind
end
def stepT (n m:Nat) (t:Tb):Option Tb:=
 if eA t n<0 then none
 else if dV t (eA t n).toNat m<0 then none
 else some (fH t (dV t (eA t n).toNat m).toNat (eA t n).toNat)
def fc (n m:Nat):Nat->Tb->Bool
 |0,t=>(stepT n m t).isNone
 |k+1,t=>match stepT n m t with
  |none=>true
  |some a=>fc n m k a
def runT (n m:Nat):Nat->Tb->Tb
 |0,t=>t
 |k+1,t=>match stepT n m t with
  |none=>t
  |some a=>runT n m k a
def yc (n m N:Nat) (t:Tb):Nat:=((ψ N).filter λk=>!fc n m k t).length
section
variable {n m:Nat} {t t0 t':Tb}
theorem RY (h:stepT n m t=some t'):∃r c,qI n m t r c/\t'=fH t r c/\eA t n=(c:Int)/\dV t c m=(r:Int):=by
 unfold stepT at h;split at h;·cases h
 ·rename_i p;split at h;·cases h
  ·rename_i o;injection h with h;rcases @ug t n with⟨b,_⟩|⟨c,b,d,e,k⟩;·omega
   ·have f:(eA t n).toNat=c:=by omega
    rw[f] at h o;rcases @vT t c m with⟨a,_⟩|⟨r,a,i,j,l⟩;·omega
    ·have g:(dV t c m).toNat=r:=by omega
     rw[g] at h;exact⟨r,c,⟨i,d,e,k,j,l⟩,h.symm,b,a⟩
theorem Jj (b:Run n m t0 t) (d:j9 m t) (h:stepT n m t=some t'):Run n m t0 t'/\j9 m t':=by
 obtain⟨r,c,a,rfl,_⟩:=RY h;exact⟨b.piv a.hr a.hc (by have:=a.pos;grind),a.ya b.wf d⟩
theorem Jk:∀{k:Nat} {t:Tb},fc n m k t=true->fc n m (k+1) t=true
 |0,t,h=>by
  grind[fc];|k+1,t,h=>by
  unfold fc at h ⊢;split;·rfl
  ·rename_i b a;rw[a] at h;exact Jk h
theorem left_step {N:Nat} (b:fc n m N t=true) (h:stepT n m t=some t'):yc n m N t'<yc n m N t:=by
 unfold yc;have e:∀k,fc n m k t'=fc n m (k+1) t:=λk=>by grind[fc]
 have c:fc n m 0 t=false:=by simp[fc,h]
 simp only[e];cases N with
 |zero=>simp_all;|succ N=>
  have a:∀f:Nat->Bool,((ψ (N+1)).filter f).length=(if f 0 then 1 else 0)+((ψ N).filter λk=>f (k+1)).length:=λf=>by
   rw[List.range_succ_eq_map,List.filter_cons,List.filter_map,];grind[Function.comp_def]
  rw[a (λk=>!fc n m k t),c];rw[List.range_succ,List.filter_append,γg];simp[b]
theorem RZ {N:Nat} (a:fc n m N t=true) (h:stepT n m t=some t'):fc n m N t'=true:=by
 cases N<;>grind[fc,Jk]
theorem Jl (D:Run n m t0 t) (o:j9 m t):∃N,fc n m N t=true:=by
 apply δU;intro u;have e:∀N,fc n m N t=false:=λN=>by
  simp_all
 let T:Nat->Tb:=λk=>Nat.rec t (λ_ s=>(stepT n m s).getD s) k;have d:∀k,T (k+1)=(stepT n m (T k)).getD (T k):=λk=>rfl;have A:∀k N,fc n m N (T k)=false:=by
  intro k;induction k with
  |zero=>exact e;|succ k l=>
   intro N;rw[d];cases z:stepT n m (T k) with
   |none=>simp_all;|some q=>
    have:=l (N+1);grind[fc]
 have w:∀k,stepT n m (T k)=some (T (k+1)):=λk=>by
  rw[d];cases z:stepT n m (T k) with
  |none=>have:=A k 0;grind[fc];|some q=>rfl
 have a:∀k,Run n m t0 (T k)/\j9 m (T k):=by
  intro k;induction k with
  |zero=>exact⟨D,o⟩;|succ k l=>grind[Jj]
 have b:∀k,∃p:Nat×Nat,qI n m (T k) p.1 p.2/\T (k+1)=fH (T k) p.1 p.2:=λk=>by
  obtain⟨r,c,f,E,_⟩:=RY (w k);exact⟨(r,c),f,E⟩
 let p:Nat->Nat×Nat:=λk=>Classical.choose (b k);have h:∀k,qI n m (T k) (p k).1 (p k).2/\T (k+1)=fH (T k) (p k).1 (p k).2:=λk=>Classical.choose_spec (b k);obtain⟨i,j,g,B⟩:=Jh (Aw (t0.basic++t0.free) (m+n)) (λk=>(T k).basic++(T k).free) λk=>by
  have f:=@RU (t0.basic++t0.free) ((T k).basic++(T k).free) λv C=>(a k).1.perm.mem_iff.1 C;rwa [γg,(a k).1.wf.basic,(a k).1.wf.free] at f
 obtain⟨y,x⟩:=List.append_inj B (by rw[(a i).1.wf.basic,(a j).1.wf.basic]);exact abL (λk=>(a k).1) (λk=>(a k).2) (λk=>(h k).1) (λk=>(h k).2) g y x
end
open Go.Proofs.YtlphnffeeefcdaaGreat.Ir
open Go.Proofs
def fL (l:List Rat):List bM:=l.map bu
def fM (l:List (List Rat)):List (List bM):=l.map fL
def vL (l:List bM):List Rat:=l.map bQ
theorem kJ (l:List Rat):vL (fL l)=l:=by
 unfold vL fL;rw[δg];conv=>rhs;rw[<-List.map_id l]
 exact γV λq _=>ez q
theorem jB (x:bM):(x.1,x.2.1,x.2.2)=x:=rfl
theorem ft {l:List Rat}:(fL l).length=l.length:=Ω _
theorem Jm {l:List (List Rat)}:(fM l).length=l.length:=Ω _
theorem jl {l:List Rat} {i:Nat} (h:i<l.length) {d:bM}:bj (fL l) i d=bu (bj l i 0):=by
 grind[cV,fL]
theorem Jn {l:List (List Rat)} {i:Nat} (h:i<l.length) {d:List bM}:bj (fM l) i d=fL (bj l i []):=by
 grind[cV,fM]
structure nq where
 n:Int
 m:Int
 k0:Nat
 k1:Nat
 k3:Nat
 k4:Nat
 ck:List (List bM)
 bound:List bM
 cost:List bM
 v:bM
 basic:List Int
 free:List Int
def nq.gI (x:nq):bZ:=
 [.cells [.si .i64 x.n,.si .i64 x.m,.ow 1 x.k0 1,.ow 2 x.k1 3,.row sF x.cost,.sb x.v.1,.row (.i .u32) x.v.2.1,.row (.i .u32) x.v.2.2,.ow 3 x.k3 1,.ow 4 x.k4 1] 219 10 false,
  .row (.bH sF) x.ck 66 false,.row sF x.bound 126 false,.row (.i .i64) x.basic 3 false,.row (.i .i64) x.free 3 false]
def DY:bZ->Option nq
 |[.cells [a,b,.ow 1 k0 1,.ow 2 k1 3,c,v0,v1,v2,.ow 3 k3 1,.ow 4 k4 1] 219 10 false,.row s1 l1 66 false,.row s2 l2 126 false,.row s3 l3 3 false,.row s4 l4 3 false]=>
  match a.int .i64,b.int .i64,jf sF c,jK sF [v0,v1,v2] with
  |some a,some b,some c,some v=>match iJ s1 (.bH sF) l1,iJ s2 sF l2,iJ s3 (.i .i64) l3,iJ s4 (.i .i64) l4 with
   |some l1,some l2,some l3,some l4=>some ⟨a,b,k0,k1,k3,k4,l1,l2,c,v,l3,l4⟩
   |_,_,_,_=>none
  |_,_,_,_=>none
 |_=>none
theorem abM {o:bZ} {x:nq} (h:DY o=some x):gO o=gO x.gI:=by
 unfold DY at h;split at h
 ·split at h
  ·rename_i p l c e;split at h
   ·rename_i n j k m;simp only[γ] at h;subst h;obtain⟨rfl,f⟩:=mR n;obtain⟨rfl,b⟩:=mR j;obtain⟨rfl,d⟩:=mR k;obtain⟨rfl,i⟩:=mR m;cases f;cases b;cases d;cases i;have a:=nJ e;simp only[ξ,γs,dB,dJ,Δ,and_true,List.nil_append,γy] at a;simp only[nq.gI,gO,ξ,γs,bq.g,gL,iK p,iK l,oL c,SV.g];simp only[a];rfl
   ·cases h
  ·cases h
 ·cases h
theorem oU {s:bp} {a b:List s.T} (h:cE s a=cE s b):a=b:=by
 by_cases d:s.sz=0;·exact absurd d (by
   have:∀s:bp,0<s.sz:=λs=>by
    induction s<;>simp only[bp.sz]<;>omega
   grind)
 ·have c:=congrArg γf h;rw[fi,fi] at c;exact lM s (Nat.eq_of_mul_eq_mul_right (by omega) c) h
theorem abN {x y:nq} (h:gO x.gI=gO y.gI):x=y:=by
 obtain⟨n,m,B,M,G,J,c,b,g,⟨I,K,F⟩,D,C⟩:=x;obtain⟨H,L,a,p,r,l,N,E,A,⟨k,w,q⟩,j,u⟩:=y;simp only[nq.gI,gO,ξ,γs,bq.g,gL,SV.g,Δ,bR.cells.injEq,and_true,true_and,AV.sc.injEq,Value.int.injEq,Value.bool.injEq,AV.os.injEq,AV.sl.injEq] at h;obtain⟨⟨rfl,rfl,⟨rfl,_⟩,⟨rfl,_⟩,⟨_,d⟩,rfl,⟨_,v⟩,⟨_,e⟩,⟨rfl,_⟩,⟨rfl,_⟩⟩,f,t,o,z⟩:=h;rw[oU (s:=sF) d,oU (s:=.i .u32) v,oU (s:=.i .u32) e,oU (s:=.bH sF) f,oU (s:=sF) t,oU (s:=.i .i64) o,oU (s:=.i .i64) z]
abbrev bG (n m:Int) (t:Tb):nq:=⟨n,m,t.ck.length,t.bound.length,t.basic.length,t.free.length,fM t.ck,fL t.bound,fL t.cost,bu t.value,t.basic,t.free⟩
def nq.t (x:nq):Tb:=⟨x.ck.map vL,vL x.bound,vL x.cost,bQ x.v,x.basic,x.free⟩
theorem sB {n m:Int} {t:Tb}:(bG n m t).t=t:=by
 have e:(fM t.ck).map vL=t.ck:=by
  unfold fM;rw[δg];conv=>rhs;rw[<-List.map_id t.ck]
  exact γV λq _=>kJ q
 simp_all[nq.t,kJ,ez]
theorem abO (x:nq):(⟨x.n,x.m,x.k0,x.k1,x.k3,x.k4,x.ck,x.bound,x.cost,(x.v.1,x.v.2.1,x.v.2.2),x.basic,x.free⟩:nq)=x:=rfl
theorem R1 {n m:Int} {t:Tb}:(bG n m t).n=n:=rfl
theorem R7 {n m:Int} {t:Tb}:(bG n m t).m=m:=rfl
def vU (k:Nat) (t:Tb):Prop:=(∀l∈t.ck,∀q∈l,Sz k q)/\(∀q∈t.bound,Sz k q)/\(∀q∈t.cost,Sz k q)/\Sz k t.value
def kK (n m:Int) (t:Tb):Prop:=((0<=n/\n<=1000)/\(0<=m/\m<=1000))/\t.WF n.toNat m.toNat/\vU 1000000 t
def uh (f:FuncId) (c:Type) (A:qo c) (i:Int->Int->Tb->c->Prop) (e:Int->Int->Tb->c->SV) (out:Int->Int->Tb->c->Tb):dF where
 f:=f;α:=nq×c;put a:=.ptr 0 0 10::A.put a.2;st a:=a.1.gI;dec v o:=match v with
  | .ptr 0 0 10::r=>match DY o,A.dec r with
   |some s,some b=>some (s,b)
   |_,_=>none
  |_=>none;ok v o a h:=by
  split at h
  ·split at h
   ·rename_i d g;simp only[γ] at h;subst h;exact⟨by simp only[gL,A.ok _ _ g],abM d⟩
   ·cases h
  ·cases h
 inj a b d g:=by
  simp only[gL,Δ,true_and] at d;exact Prod.ext (abN g) (A.inj _ _ d)
 dom a:=∃n m t,a.1=bG n m t/\kK n m t/\i n m t a.2;res a:=e a.1.n a.1.m a.1.t a.2;out a:=(bG a.1.n a.1.m (out a.1.n a.1.m a.1.t a.2)).gI
theorem dP {q:Rat} {k:Nat} (h:Sz k q) (a:k<=100000000):cB (bu q):=⟨q,k,rfl,h,a⟩
section
variable {n m:Int} {t:Tb}
theorem kK.cf (h:kK n m t) {i j:Nat} (a:i<m.toNat) (c:j<n.toNat):Sz 1000000 (t.cf i j):=by
 have b:=dj (l:=t.ck) (d:=[]) (show i<t.ck.length by rw[h.2.1.ck];exact a);exact h.2.2.1 _ b _ (dj (by rw[h.2.1.row i a];exact c))
theorem kK.bd (h:kK n m t) {i:Nat} (a:i<m.toNat):Sz 1000000 (t.bd i):=h.2.2.2.1 _ (dj (by rw[h.2.1.bound];exact a))
theorem kK.cs (h:kK n m t) {j:Nat} (a:j<n.toNat):Sz 1000000 (t.cs j):=h.2.2.2.2.1 _ (dj (by rw[h.2.1.cost];exact a))
end
theorem ui {q:Rat}:0<jA q↔0<q:=by
 grind[jA]
theorem Jo {q:Rat}:jA q=0↔q=0:=by
 grind[jA]
theorem Az {q:Rat}:jA q<0↔q<0:=by
 grind[jA]
def Jp:dF:=uh 173 Unit .nil (λ_ _ _ _=>True) (λn _ t _=> .si .i64 (eA t n.toNat)) (λ_ _ t _=>t)
def abP (n m:Int) (t:Tb):Nat->cC
 |3=> .inv Int (λj=>⟨[(0,.ptr 0 0 10),(3,.si .i64 (eA t j.toNat)),(9,.ow 4 t.free.length 1),(10,.si .i64 t.free.length),(11,.si .i64 j)],(bG n m t).gI⟩)
   (λs=>iS s 11) (λj=>0<=j/\j<=n) (λj=>(n - j).toNat) λ_ _=> .look
 |_=> .look
theorem h411:dZ Tryz.prog Jp:=by
 refine lp (L:=[sx]) (W:=[]) Jp (λa=>abP a.1.n a.1.m a.1.t) (by simp) (by simpa using h99) ?_;rintro⟨x,u⟩ ⟨n,m,t,hx,hok, -⟩;simp only at hx;subst hx;refine bO (let a:=γe .i64;let b:=(0:Int);let c:=bq.row;let d:=SV.ow;let e:=Θ;let r:=SV.ptr 0 0 10;let s:=(bG n m t).t;let F:=d 4 (bG n m t).k4 1;let y:=s.free.length;let z:=d 4 y 1;let A:=a (↑y:Int);let g:=(bG n m t).n;let B:=bp.i .u32;let f:=bG g (bG n m t).m s;let k:=bq.cells [a f.n,a f.m,d 1 f.k0 1,d 2 f.k1 3,e sF f.cost,γw f.v.fst,e B f.v.snd.fst,e B f.v.snd.snd,d 3 f.k3 1,d 4 f.k4 1] 219 10 false;let l:=c sF.bH f.ck 66 false;let o:=c sF f.bound 126 false;let C:=bp.i .i64;let p:=c C f.basic 3 false;let q:=c C f.free 3 false;let j:=f.free.length;(((r.same r/\(γx .i64 (-1:Int)).same (a (eA s 0))/\F.same z/\(a (↑(bG n m t).k4:Int)).same A/\(γx .i64 0).same (a 0)/\True)/\(bq.cells [a g,a (bG n m t).m,d 1 (bG n m t).k0 1,d 2 (bG n m t).k1 3,e sF (bG n m t).cost,γw (bG n m t).v.fst,e B (bG n m t).v.snd.fst,e B (bG n m t).v.snd.snd,d 3 (bG n m t).k3 1,F] 219 10 false).same k/\(c sF.bH (bG n m t).ck 66 false).same l/\(c sF (bG n m t).bound 126 false).same o/\(c C (bG n m t).basic 3 false).same p/\(c C (bG n m t).free 3 false).same q/\True)/\b<=b/\b<=g)/\∀(x:Int),let h:=x+(1:Int);let w:=eA s x.toNat;let G:=a w;let H:=a (eA s h.toNat);let D:=a h;let E:=bj f.cost x.toNat sF.dflt;let I:=(E.fst,E.snd.fst,E.snd.snd);let J:=decide (x<(↑y:Int));let K:=decide (w<b);let L:=decide (bj f.free x.toNat b<bj f.free w.toNat b);let M:=cn .i64 h/\((r.same r/\G.same H/\z.same z/\A.same A/\D.same D/\True)/\k.same k/\l.same l/\o.same o/\p.same p/\q.same q/\True)/\(b<=h/\h<=g)/\(g - h).toNat<(g - x).toNat;let N:=cn .i64 h/\((r.same r/\(a x).same H/\z.same z/\A.same A/\D.same D/\True)/\k.same k/\l.same l/\o.same o/\p.same p/\q.same q/\True)/\(b<=h/\h<=g)/\(g - h).toNat<(g - x).toNat;let O:=λ(u:Bool) ↦decide (b<jA (bQ I))=u;b<=x/\x<=g->(J=true->y=j/\b<=x/\x<(↑j:Int)/\y=j/\x.toNat<j/\b<=x/\x<(↑f.cost.length:Int)/\x.toNat<f.cost.length/\cB I/\(O true->(K=true->N)/\(K=false->f.k4=j/\b<=w/\w<(↑j:Int)/\f.k4=j/\w.toNat<j/\(L=true->N)/\(L=false->M)))/\(O false->M))/\(J=false->G.same (a (eA s g.toNat))/\k.same k/\l.same l/\o.same o/\p.same p/\q.same q/\True)) (by kernel_rfl) ?_;simp only[sB];try simp only[bG]
 simp only[vcs];obtain⟨⟨⟨n0,n1⟩,m0,m1⟩,hw,hz⟩:=id hok;have hfl:=hw.free;have hcl:=hw.cost;have hfc:=@ft t.cost;refine⟨⟨rfl,by omega,by omega⟩,?_⟩;rintro j ⟨j0,j1⟩;have hs:eA t (j+1).toNat=if 0<t.cs j.toNat/\(eA t j.toNat<0\/t.fv j.toNat<t.fv (eA t j.toNat).toNat) then(j.toNat:Int) else eA t j.toNat:=by
  rw[show(j+1).toNat=j.toNat+1 by omega];rfl
 have hb:eA t j.toNat<j.toNat:=by
  rcases @ug t j.toNat with⟨h,_⟩|⟨b,h,hlt,_⟩<;>omega
 refine⟨λhj=>?_,λhj=>by rw[show j.toNat=n.toNat by omega]⟩;have hc:bj (fL t.cost) j.toNat sF.dflt=bu (t.cs j.toNat):=jl (by omega);simp only[hc,jB,ez,decide_eq_true_eq,decide_eq_false_iff_not,ui];have DZ:∀k:Nat,bj t.free k 0=t.fv k:=λk=>rfl;rw[DZ,DZ,hs];refine⟨j0,hj,by omega,j0,by omega,by omega,dP (hok.cs (by omega)) (by omega),λhp=>⟨λhn=>?_,λhn=>⟨by omega,by omega,by omega,λhl=>?_,λhl=>?_⟩⟩,λhp=>?_⟩
 ·rw[if_pos ⟨hp,.inl hn⟩];omega
 ·rw[if_pos ⟨hp,.inr hl⟩];omega
 ·rw[if_neg λh=>h.2.elim hn hl];omega
 ·rw[if_neg λh=>hp h.1];omega
def nu (t:Tb) (c k:Nat):bM:=if dV t c k<0 then(false,([],[])) else bu (t.bd (dV t c k).toNat / t.cf (dV t c k).toNat c)
def Jq:dF:=uh 174 Int (.one (eK .i64)) (λn _ _ c=>0<=c/\c<n) (λ_ m t c=> .si .i64 (dV t c.toNat m.toNat)) (λ_ _ t _=>t)
def abQ (n m:Int) (t:Tb) (c:Int):Nat->cC
 |4=> .inv Int (λi=>⟨[(0,.ptr 0 0 10),(1,.si .i64 c),(5,.si .i64 (dV t c.toNat i.toNat)),(6,.ptr 5 0 3),(15,.ow 1 t.ck.length 1),(16,.si .i64 t.ck.length),(17,.si .i64 i)],(bG n m t).gI++[.cells [.sb (nu t c.toNat i.toNat).1,.row (.i .u32) (nu t c.toNat i.toNat).2.1,.row (.i .u32) (nu t c.toNat i.toNat).2.2] 126 3 false,.dead,.dead]⟩)
   (λs=>iS s 17) (λi=>0<=i/\i<=m) (λi=>(m - i).toNat) λ_ _=> .look
 |_=> .look
theorem h412:dZ Tryz.prog Jq:=by
 refine lp (L:=[sx,x6,DO]) (W:=[]) Jq (λa=>abQ a.1.n a.1.m a.1.t a.2) (by simp) (by simpa using⟨h99,h97,h416⟩) ?_;rintro⟨x,c⟩ ⟨n,m,t,hx,hok,hd⟩;simp only at hx hd;subst hx;refine bO (let a:=γe .i64;let b:=(0:Int);let d:=Θ;let e:=bq.cells;let f:=bq.row;let g:=SV.ow;let h:=γw;let A:=SV.ptr 0 0 10;let p:=(bG n m t).t;let B:=SV.ptr 5 0 3;let U:=g 1 (bG n m t).k0 1;let H:=p.ck.length;let I:=g 1 H 1;let J:=a (↑H:Int);let l:=(bG n m t).m;let k:=bp.i .u32;let j:=bG (bG n m t).n l p;let r:=e [a j.n,a j.m,g 1 j.k0 1,g 2 j.k1 3,d sF j.cost,h j.v.fst,d k j.v.snd.fst,d k j.v.snd.snd,g 3 j.k3 1,g 4 j.k4 1] 219 10 false;let C:=j.ck;let s:=f sF.bH C 66 false;let D:=j.bound;let w:=f sF D 126 false;let L:=bp.i .i64;let y:=f L j.basic 3 false;let z:=f L j.free 3 false;let O:=nu p c.toNat 0;let a9:=sF.bH.dflt;let q:=j.basic.length;0=0/\0=0/\(((A.same A/\(a c).same (a c)/\(γx .i64 (-1:Int)).same (a (dV p c.toNat 0))/\B.same B/\U.same I/\(a (↑(bG n m t).k0:Int)).same J/\(γx .i64 0).same (a 0)/\True)/\(e [a (bG n m t).n,a l,U,g 2 (bG n m t).k1 3,d sF (bG n m t).cost,h (bG n m t).v.fst,d k (bG n m t).v.snd.fst,d k (bG n m t).v.snd.snd,g 3 (bG n m t).k3 1,g 4 (bG n m t).k4 1] 219 10 false).same r/\(f sF.bH (bG n m t).ck 66 false).same s/\(f sF (bG n m t).bound 126 false).same w/\(f L (bG n m t).basic 3 false).same y/\(f L (bG n m t).free 3 false).same z/\(e [SV.bl false,d k [],d k []] 126 3 false).same (e [h O.fst,d k O.snd.fst,d k O.snd.snd] 126 3 false)/\bq.dead.same bq.dead/\bq.dead.same bq.dead/\True)/\b<=b/\b<=l)/\∀(x:Int),let o:=x+(1:Int);let V:=a (dV p c.toNat o.toNat);let M:=a o;let P:=bj D x.toNat sF.dflt;let W:=(P.fst,P.snd.fst,P.snd.snd);let K:=bj C x.toNat a9;let Q:=bj K c.toNat sF.dflt;let N:=(Q.fst,Q.snd.fst,Q.snd.snd);let E:=bu (bQ W / bQ N);let R:=nu p c.toNat o.toNat;let X:=e [h R.fst,d k R.snd.fst,d k R.snd.snd] 126 3 false;let F:=dV p c.toNat x.toNat;let Y:=a F;let G:=nu p c.toNat x.toNat;let Z:=(E.fst,E.snd.fst,E.snd.snd);let a0:=(G.fst,G.snd.fst,G.snd.snd);let a1:=iM (bQ Z) (bQ a0);let a2:=decide (x<(↑H:Int));let a3:=decide (b<=F);let a4:=decide (bj j.basic F.toNat b<bj j.basic x.toNat b);let S:=cn .i64 o/\((A.same A/\(a c).same (a c)/\(a x).same V/\B.same B/\I.same I/\J.same J/\M.same M/\True)/\r.same r/\s.same s/\w.same w/\y.same y/\z.same z/\(e [h E.fst,d k E.snd.fst,d k E.snd.snd] 126 3 false).same X/\bq.dead.same bq.dead/\bq.dead.same bq.dead/\True)/\(b<=o/\o<=l)/\(l - o).toNat<(l - x).toNat;let T:=cn .i64 o/\((A.same A/\(a c).same (a c)/\Y.same V/\B.same B/\I.same I/\J.same J/\M.same M/\True)/\r.same r/\s.same s/\w.same w/\y.same y/\z.same z/\(e [h G.fst,d k G.snd.fst,d k G.snd.snd] 126 3 false).same X/\bq.dead.same bq.dead/\bq.dead.same bq.dead/\True)/\(b<=o/\o<=l)/\(l - o).toNat<(l - x).toNat;let a5:=cB N;let a6:=λ(u:Bool) ↦decide (b<a1)=u;let a7:=λ(u:Bool) ↦decide (a1=b)=u;let a8:=λ(u:Bool) ↦decide (jA (bQ N)<=b)=u;b<=x/\x<=l->(a2=true->H=C.length/\b<=x/\x<(↑C.length:Int)/\H=C.length/\x.toNat<C.length/\b<=c/\c<(↑K.length:Int)/\c.toNat<K.length/\a5/\(a8 true->T)/\(a8 false->j.k1=D.length/\b<=x/\x<(↑D.length:Int)/\j.k1=D.length/\x.toNat<D.length/\b<=c/\c<(↑K.length:Int)/\c.toNat<K.length/\((cB W/\a5)/\bQ N≠(0:Rat))/\(a3=true->(cB Z/\cB a0)/\(a6 true->T)/\(a6 false->(a7 true->j.k3=q/\b<=x/\x<(↑q:Int)/\j.k3=q/\x.toNat<q/\j.k3=q/\b<=F/\F<(↑q:Int)/\j.k3=q/\F.toNat<q/\(a4=true->T)/\(a4=false->S))/\(a7 false->S)))/\(a3=false->S)))/\(a2=false->Y.same (a (dV p c.toNat l.toNat))/\r.same r/\s.same s/\w.same w/\y.same y/\z.same z/\True)) (by kernel_rfl) ?_;simp only[sB];try simp only[bG]
 simp only[vcs];obtain⟨⟨⟨n0,n1⟩,m0,m1⟩,hw,hz⟩:=id hok;have hkl:=hw.ck;have hbl:=hw.bound;have hbb:=hw.basic;have hfm:=@Jm t.ck;have Jr:=@ft t.bound;have hcell:∀{x y:bM},x=y->(bq.cells [γw x.1,Θ (bp.i IntKind.u32) x.2.1,Θ (bp.i IntKind.u32) x.2.2] 126 3 false).same (bq.cells [γw y.1,Θ (bp.i IntKind.u32) y.2.1,Θ (bp.i IntKind.u32) y.2.2] 126 3 false):=by rintro _ _ rfl;rfl
 have hl0:nu t c.toNat 0=(false,([],[])):=rfl;refine⟨⟨⟨rfl,by rw[hl0];rfl⟩,by omega,by omega⟩,?_⟩;rintro i ⟨i0,i1⟩;refine⟨λhi=>?_,λhi=>by rw[show i.toNat=m.toNat by omega]⟩;have him:i.toNat<m.toNat:=by omega
 have hrow:bj (fM t.ck) i.toNat sF.bH.dflt=fL (bj t.ck i.toNat []):=Jn (by omega);have hrl:=hw.row i.toNat him;have hfr:=@ft (bj t.ck i.toNat []);have hA:bj (fL (bj t.ck i.toNat [])) c.toNat sF.dflt=bu (t.cf i.toNat c.toNat):=jl (by omega);have hB:bj (fL t.bound) i.toNat sF.dflt=bu (t.bd i.toNat):=jl (by omega);have hbv:∀k:Nat,bj t.basic k 0=t.bv k:=λk=>rfl;have hsA:=hok.cf (i:=i.toNat) (j:=c.toNat) him (by omega);have hsB:=hok.bd (i:=i.toNat) him;have hs:dV t c.toNat (i+1).toNat=if t.cf i.toNat c.toNat<=0 then dV t c.toNat i.toNat
  else if 0<=dV t c.toNat i.toNat/\(t.bd (dV t c.toNat i.toNat).toNat / t.cf (dV t c.toNat i.toNat).toNat c.toNat<t.bd i.toNat / t.cf i.toNat c.toNat\/(t.bd i.toNat / t.cf i.toNat c.toNat=t.bd (dV t c.toNat i.toNat).toNat / t.cf (dV t c.toNat i.toNat).toNat c.toNat/\t.bv (dV t c.toNat i.toNat).toNat<t.bv i.toNat)) then dV t c.toNat i.toNat
  else(i.toNat:Int):=by
  rw[show(i+1).toNat=i.toNat+1 by omega];rfl
 have hlb:dV t c.toNat i.toNat<i.toNat:=by
  rcases @vT t c.toNat i.toNat with⟨h,_⟩|⟨b,h,hlt,_⟩<;>omega
 have hlp:0<=dV t c.toNat i.toNat->0<t.cf (dV t c.toNat i.toNat).toNat c.toNat:=λh=>by
  rcases @vT t c.toNat i.toNat with⟨h2,_⟩|⟨b,h2,hlt,hp,_⟩;·omega
  ·rw[h2,Ψ];exact hp
 have abR:∀q:Rat,jA q<=0↔q<=0:=λq=>by
  have:=@ui q;constructor;·intro h;exact Rat.not_lt.1 λh2=>by have:=this.2 h2;omega
  ·intro h;exact Int.not_lt.1 λh2=>Rat.not_lt.2 h (this.1 h2)
 simp only[hrow,hA,hB,jB,ez,hbv,abR,abx,aby];have abS:0<=dV t c.toNat i.toNat->nu t c.toNat i.toNat=bu (t.bd (dV t c.toNat i.toNat).toNat / t.cf (dV t c.toNat i.toNat).toNat c.toNat):=λh=>by
  unfold nu;rw[if_neg (by omega)]
 have tail:(0<=i+1/\i+1<=m)/\(m - (i+1)).toNat<(m - i).toNat:=by omega
 have keep:dV t c.toNat (i+1).toNat=dV t c.toNat i.toNat->nu t c.toNat i.toNat=nu t c.toNat (i+1).toNat:=λh=>by
  unfold nu;rw[h]
 have new:dV t c.toNat (i+1).toNat=(i.toNat:Int)->bu (t.bd i.toNat / t.cf i.toNat c.toNat)=nu t c.toNat (i+1).toNat:=λh=>by
  unfold nu;rw[h,if_neg (by omega),Ψ]
 have hnz:0<t.cf i.toNat c.toNat->t.cf i.toNat c.toNat≠0:=λh=>by grind
 refine⟨by omega,i0,by omega,by omega,by omega,hd.1,by omega,by omega,dP hsA (by omega),λhle=>?_,λhgt=>?_⟩
 ·have e:dV t c.toNat (i+1).toNat=dV t c.toNat i.toNat:=by rw[hs,if_pos hle]
  exact⟨by omega,⟨e.symm,hcell (keep e)⟩,tail⟩
 ·have hp:0<t.cf i.toNat c.toNat:=ζJ.1 hgt;rw[if_neg hgt] at hs;have abT:=I8 hsB hsA (hnz hp);refine⟨by omega,i0,by omega,by omega,by omega,hd.1,by omega,by omega,⟨⟨dP hsB (by omega),dP hsA (by omega)⟩,hnz hp⟩,λh0=>?_,λh0=>?_⟩
  ·have hl:=abS h0;have hsl:=I8 (hok.bd (i:=(dV t c.toNat i.toNat).toNat) (by omega)) (hok.cf (i:=(dV t c.toNat i.toNat).toNat) (j:=c.toNat) (by omega) (by omega)) (by have:=hlp h0;grind);have hvl:bQ (nu t c.toNat i.toNat)=t.bd (dV t c.toNat i.toNat).toNat / t.cf (dV t c.toNat i.toNat).toNat c.toNat:=by rw[hl,ez]
   simp only[hvl];refine⟨⟨dP abT (by omega),by rw[hl];exact dP hsl (by omega)⟩,λhlt=>?_,λhlt=>⟨λheq=>⟨i0,by omega,by omega,h0,by omega,by omega,λhbl=>?_,λhbl=>?_⟩,λheq=>?_⟩⟩
   ·rw[if_pos ⟨h0,.inl hlt⟩] at hs;exact⟨by omega,⟨hs.symm,hcell (keep hs)⟩,tail⟩
   ·rw[if_pos ⟨h0,.inr ⟨heq,hbl⟩⟩] at hs;exact⟨by omega,⟨hs.symm,hcell (keep hs)⟩,tail⟩
   ·rw[if_neg λh=>h.2.elim hlt λh2=>hbl h2.2] at hs;exact⟨by omega,⟨by omega,hcell (new hs)⟩,tail⟩
   ·rw[if_neg λh=>h.2.elim hlt λh2=>heq h2.1] at hs;exact⟨by omega,⟨by omega,hcell (new hs)⟩,tail⟩
  ·rw[if_neg λh=>h0 h.1] at hs;exact⟨by omega,⟨by omega,hcell (new hs)⟩,tail⟩
end Go.Vi
namespace Go.Proofs
open Go.Shelf
def Tryz.layS_ren:Ren:=
 ⟨λ
  |189=>87
  |125=>125
  |257=>124
  |128=>163
  |129=>164
  |294=>154
  |295=>155
  |296=>156
  |297=>157
  |298=>158
  |299=>159
  |216=>160
  |300=>161
  |301=>162
  |328=>178
  |329=>179
  |330=>180
  |331=>181
  |332=>182
  |215=>183
  |343=>190
  |n=>n,
 λ
  |28=>24
  |3=>3
  |46=>197
  |0=>0
  |51=>187
  |53=>183
  |4=>4
  |183=>227
  |182=>226
  |131=>140
  |5=>5
  |9=>9
  |218=>237
  |222=>241
  |228=>250
  |229=>119
  |n=>n,
 λn=>n⟩
def Tryz.layC_ren:Ren:=
 ⟨λ
  |41=>49
  |n=>n,
 λ
  |22=>24
  |23=>3
  |4=>4
  |n=>n,
 λn=>n⟩
def Tryz.layD_ren:Ren:=
 ⟨λ
  |45=>120
  |n=>n,
 λ
  |22=>24
  |23=>3
  |3=>3
  |4=>4
  |0=>0
  |n=>n,
 λn=>n⟩
theorem Tryz.layS:Lays.n189 Tryz.prog Tryz.layS_ren:={mixed:=by kernel_rfl,f125:=Tryz.func125.trans (by kernel_rfl),f128:=Tryz.func163.trans (by kernel_rfl),f129:=Tryz.func164.trans (by kernel_rfl),f189:=Tryz.func87.trans (by kernel_rfl),f215:=Tryz.func183.trans (by kernel_rfl),f216:=Tryz.func160.trans (by kernel_rfl),f257:=Tryz.func124.trans (by kernel_rfl),f294:=Tryz.func154.trans (by kernel_rfl),f295:=Tryz.func155.trans (by kernel_rfl),f296:=Tryz.func156.trans (by kernel_rfl),f297:=Tryz.func157.trans (by kernel_rfl),f298:=Tryz.func158.trans (by kernel_rfl),f299:=Tryz.func159.trans (by kernel_rfl),f300:=Tryz.func161.trans (by kernel_rfl),f301:=Tryz.func162.trans (by kernel_rfl),f328:=Tryz.func178.trans (by kernel_rfl),f329:=Tryz.func179.trans (by kernel_rfl),f330:=Tryz.func180.trans (by kernel_rfl),f331:=Tryz.func181.trans (by kernel_rfl),f332:=Tryz.func182.trans (by kernel_rfl),f343:=Tryz.func190.trans (by kernel_rfl),t0:=Tryz.underlying0,a0:=Tryz.isAgg0,z0:=Tryz.sizeOf0,v0:=Tryz.zeroValue0,t3:=Tryz.underlying3,a3:=Tryz.isAgg3,z3:=Tryz.sizeOf3,v3:=Tryz.zeroValue3,t4:=Tryz.underlying4,a4:=Tryz.isAgg4,z4:=Tryz.sizeOf4,v4:=Tryz.zeroValue4,t5:=Tryz.underlying5,a5:=Tryz.isAgg5,z5:=Tryz.sizeOf5,v5:=Tryz.zeroValue5,t9:=Tryz.underlying9,a9:=Tryz.isAgg9,z9:=Tryz.sizeOf9,v9:=Tryz.zeroValue9,t28:=Tryz.underlying24,a28:=Tryz.isAgg24,z28:=Tryz.sizeOf24,v28:=Tryz.zeroValue24,t46:=Tryz.underlying197,a46:=Tryz.isAgg197,z46:=Tryz.sizeOf197,v46:=Tryz.zeroValue197,t51:=Tryz.underlying187,a51:=Tryz.isAgg187,z51:=Tryz.sizeOf187,v51:=Tryz.zeroValue187,t53:=Tryz.underlying183,a53:=Tryz.isAgg183,z53:=Tryz.sizeOf183,v53:=Tryz.zeroValue183,t131:=Tryz.underlying140,a131:=Tryz.isAgg140,z131:=Tryz.sizeOf140,v131:=Tryz.zeroValue140,t182:=Tryz.underlying226,a182:=Tryz.isAgg226,z182:=Tryz.sizeOf226,v182:=Tryz.zeroValue226,t183:=Tryz.underlying227,a183:=Tryz.isAgg227,z183:=Tryz.sizeOf227,v183:=Tryz.zeroValue227,t218:=Tryz.underlying237,a218:=Tryz.isAgg237,z218:=Tryz.sizeOf237,v218:=Tryz.zeroValue237,t222:=Tryz.underlying241,a222:=Tryz.isAgg241,z222:=Tryz.sizeOf241,v222:=Tryz.zeroValue241,t228:=Tryz.underlying250,a228:=Tryz.isAgg250,z228:=Tryz.sizeOf250,v228:=Tryz.zeroValue250,t229:=Tryz.underlying119,a229:=Tryz.isAgg119,z229:=Tryz.sizeOf119,v229:=Tryz.zeroValue119}
theorem Tryz.layC:SlLaysE0.n41 Tryz.prog Tryz.layC_ren:={mixed:=by kernel_rfl,f41:=⟨Tryz.f49.name,by decide,Tryz.func49.trans (by kernel_rfl)⟩,t4:=Tryz.underlying4,a4:=Tryz.isAgg4,z4:=Tryz.sizeOf4,v4:=Tryz.zeroValue4,t22:=Tryz.underlying24,a22:=Tryz.isAgg24,z22:=Tryz.sizeOf24,v22:=Tryz.zeroValue24}
theorem Tryz.layD:SlLaysE.n45 Tryz.prog Tryz.layD_ren:={mixed:=by kernel_rfl,f45:=⟨Tryz.f120.name,by decide,Tryz.func120.trans (by kernel_rfl)⟩,t0:=Tryz.underlying0,a0:=Tryz.isAgg0,z0:=Tryz.sizeOf0,v0:=Tryz.zeroValue0,t3:=Tryz.underlying3,a3:=Tryz.isAgg3,z3:=Tryz.sizeOf3,v3:=Tryz.zeroValue3,t4:=Tryz.underlying4,a4:=Tryz.isAgg4,z4:=Tryz.sizeOf4,v4:=Tryz.zeroValue4,t22:=Tryz.underlying24,a22:=Tryz.isAgg24,z22:=Tryz.sizeOf24,v22:=Tryz.zeroValue24,a23:=Tryz.isAgg3,z23:=Tryz.sizeOf3}
end Go.Proofs
