/-
  Contracts: the reference's problem.
  Conditions: none.
-/
import Derived.Test.YtbnhiekmnpikhaaGreatDP06
import Derived.KernelRfl
set_option maxRecDepth 100000
set_option maxHeartbeats 4000000
set_option linter.all false
open BitVec renaming ofInt->γn
open Go.Vi.SV renaming bl->δc,si->γh,il->γx,row->Ψ,ptr->γO,ow->γZ
open Int renaming toNat_natCast->γl,le_trans->ζd,pow_succ->γQ,mul_add->εv,add_comm->ζF,emod_nonneg->δK,emod_lt_of_pos->δn,ediv_eq_zero_of_lt->εJ,emod_eq_of_lt->δI,eq_ofNat_of_zero_le->δD,mul_nonneg->γt,mul_le_mul->δE,mul_le_mul_of_nonneg_left->Ξ,le_of_lt->γe,mul_le_mul_of_nonneg_right->γR
open List renaming take->Δ,mem_of_mem_take->γm,take_length->ψ,drop->γ2,mem_singleton->δw,mem_map->Ω,map_append->γa,map_cons->π,map_nil->γq,drop_length->δz,cons_append->γG,length_cons->γE,range->ω,mem_filter->γs,foldl_cons->δ9,mem_cons->γz,mem_append->γk,nodup_cons->γW,pairwise_cons->γA,all_eq_true->φ,mem_range->γy,filter_sublist->γP,getElem?_cons_succ->γK,map_map->γ4,drop_of_length_le->δ6,replicate->δ,range_succ->εd,take_of_length_le->γo,replicate_zero->ε1,mem_of_mem_drop->γS
open List.Nodup renaming sublist->ζT
open Nat renaming le_refl->ξ
open Option renaming map->ζp,isSome_iff_exists->γp
namespace Go.Vi
open Go.Proofs.YtbnhiekmnpikhaaGreat.Ir
open Go.Proofs
def HZ:bM:=⟨40,bB,.one (eh .ff),λ_=>True,λb=> .sb b.ok⟩
theorem h68:Holds Tryz.prog HZ:=by
 refine cF (L:=[]) HZ (λ_ _=> .qo 7) (by simp) ?_;intro b _;refine bO (let h:=δc false;let o:=SV.sb;let p:=(0:Int);let q:=(4:Int);let i:=decide (b.a0<p);let d:=decide (q<b.a0);let k:=decide (b.a1<p);let e:=decide (q<b.a1);let l:=decide (b.a2<p);let f:=decide (q<b.a2);let j:=decide (b.a3<p);let m:=decide (q<b.a3);let n:=decide (b.a4<p);let g:=decide (q<b.a4);let a:=decide (b.a5<p);let c:=decide (q<b.a5);(i=true->(h).same (o (bB.ok b)))/\(i=false->(d=true->(h).same (o (bB.ok b)))/\(d=false->(k=true->(h).same (o (bB.ok b)))/\(k=false->(e=true->(h).same (o (bB.ok b)))/\(e=false->(l=true->(h).same (o (bB.ok b)))/\(l=false->(f=true->(h).same (o (bB.ok b)))/\(f=false->(j=true->(h).same (o (bB.ok b)))/\(j=false->(m=true->(h).same (o (bB.ok b)))/\(m=false->(n=true->(h).same (o (bB.ok b)))/\(n=false->(g=true->(h).same (o (bB.ok b)))/\(g=false->(a=true->(h).same (o (bB.ok b)))/\(a=false->(c=true->(h).same (o (bB.ok b)))/\(c=false->(δc true).same (o (bB.ok b))))))))))))))) (by kernel_rfl) ?_;conv=>zeta
 have o:=@bB.ja b;by_cases h:b.ok=true<;>simp_all
def qx (p:bn) (r:Int) (o:Off):Int:=
 if r - p.classes.length<0 then(if o.bX=r then 1 else 0)
 else if r - p.classes.length<6 then bj [o.want.a0,o.want.a1,o.want.a2,o.want.a3,o.want.a4,o.want.a5] (r - p.classes.length).toNat 0
 else if bj [p.cls.a0,p.cls.a1,p.cls.a2,p.cls.a3,p.cls.a4,p.cls.a5] (r - p.classes.length - 6).toNat 0=0\/p.classes.length<=o.bX\/bj [p.cls.a0,p.cls.a1,p.cls.a2,p.cls.a3,p.cls.a4,p.cls.a5] (r - p.classes.length - 6).toNat 0=bj p.classes o.bX.toNat 0 then 0
 else bj [o.want.a0,o.want.a1,o.want.a2,o.want.a3,o.want.a4,o.want.a5] (r - p.classes.length - 6).toNat 0
theorem aas {p:bn} {r:Int} {o:Off} (h:o.bX<p.classes.length):qx p r o=dW p r o:=by
 unfold qx dW;omega
def H3:bM:=⟨63,bn×Int×Off,.cons dK (.cons (eZ .i64) (.one (eh .off))),λa=>a.1.classes.length<=8/\0<=a.2.1/\a.2.1<de a.1/\0<=a.2.2.bX,
 λa=> .bI [.si .i64 (qx a.1 a.2.1 a.2.2),.si .i64 (dj a.1 a.2.1)]⟩
theorem h110:Holds Tryz.prog H3:=by
 refine cF (L:=[]) H3 (λ_ _=> .qo 7) (by simp) ?_;rintro⟨p,r,x⟩ ⟨D,z,B,A⟩;simp only[de] at D z B A;refine bO (let h:=(0:Int);let j:=(6:Int);let v:=γh .i64;let w:=cq .i64;let y:=SV.bI;let b:=(↑p.classes.length:Int);let a:=r - b - j;let o:=γx .i64 0;let k:=y [v (qx p r x),v (dj p r)];let q:=bj [p.cls.a0,p.cls.a1,p.cls.a2,p.cls.a3,p.cls.a4,p.cls.a5] a.toNat h;let t:=decide (x.bX=r);let e:=γx .i64 1;let g:=decide (r<b+j);let i:=decide (x.bX<b);let l:=h<=a/\a<j/\a.toNat<6/\(y [o,v (bj [p.opn.a0,p.opn.a1,p.opn.a2,p.opn.a3,p.opn.a4,p.opn.a5] a.toNat h)]).same k;let n:=λ(u f:Int) (c:bB) ↦let d:=(u - f).toNat;h<=u - f/\u - f<j/\d<6/\(y [v (bj [x.want.a0,x.want.a1,x.want.a2,x.want.a3,x.want.a4,x.want.a5] d h),v (bj [c.a0,c.a1,c.a2,c.a3,c.a4,c.a5] d h)]).same k;let m:=λ(u:Bool) ↦decide (q≠bj p.classes x.bX.toNat h)=u;let s:=λ(u:Bool) ↦decide (q≠h)=u;(decide (r<b)=true->(t=true->(y [e,e]).same k)/\(t=false->(y [o,e]).same k))/\(decide (r<b)=false->w (b+j)/\(g=true->w (r - b)/\h<=r - b/\r - b<j/\(r - b).toNat<6/\w (r - b)/\n r b p.supply)/\(g=false->w (r - b)/\w a/\h<=a/\a<j/\a.toNat<6/\(s true->(i=true->h<=a/\a<j/\a.toNat<6/\h<=x.bX/\x.bX<b/\x.bX.toNat<p.classes.length/\(m true->h<=a/\a<j/\a.toNat<6/\n (r - b) j p.opn)/\(m false->l))/\(i=false->l))/\(s false->l)))) (by kernel_rfl) ?_;simp only[vcs];have G:r - p.classes.length<0->dj p r=1:=λh=>by simp_all[dj]
 have E:¬r - p.classes.length<0->r - p.classes.length<6->dj p r=bj [p.supply.a0,p.supply.a1,p.supply.a2,p.supply.a3,p.supply.a4,p.supply.a5] (r - p.classes.length).toNat 0:=λh j=>by simp_all[dj,if_neg]
 have v:¬r - p.classes.length<0->¬r - p.classes.length<6->dj p r=bj [p.opn.a0,p.opn.a1,p.opn.a2,p.opn.a3,p.opn.a4,p.opn.a5] (r - p.classes.length - 6).toNat 0:=λh j=>by simp_all[dj,if_neg]
 have F:r - p.classes.length<0->qx p r x=if x.bX=r then 1 else 0:=λh=>by simp_all[qx]
 have H:¬r - p.classes.length<0->r - p.classes.length<6->qx p r x=bj [x.want.a0,x.want.a1,x.want.a2,x.want.a3,x.want.a4,x.want.a5] (r - p.classes.length).toNat 0:=λh j=>by simp_all[qx,if_neg]
 have y:=λ(h:¬r - p.classes.length<0) (j:¬r - p.classes.length<6)=>(show qx p r x=_ by unfold qx;rw[if_neg h,if_neg j]);refine⟨λw=>?_,λw=>⟨by omega,λC=>?_,λC=>?_⟩⟩;·grind
 ·grind
 ·rw[v (by omega) (by omega),y (by omega) (by omega)];omega
def M1:List bM:=[H3,HZ]
theorem hM1:∀c∈M1,Holds Tryz.prog c:=by
 simp_all[M1,h110,h68]
def Dm:bM:=⟨41,bn×List Off,.cons dK (.one (dF .off)),λa=>a.1.classes.length<=8/\a.2.length<=1000/\(∀x∈a.2,0<=x.bX/\x.bX<a.1.classes.length/\x.want.ok=true),λa=> .sb (gk a.1 a.2)⟩
def aat (a:bn×List Off):Nat->cE
 |2=> .inv Int (λi=>⟨[(1,.row .off a.2),(2,.ptr 0 0 20),(5,.si .i64 i)],[.cells a.1.ss 27 20 false]⟩) (λs=>iS s 5)
  (λi=>0<=i/\i<=de a.1/\∀r:Nat,r<i->cT a.1 a.2 r<=dj a.1 r) (λi=>(de a.1 - i).toNat)
  λi=>λ
   |6=> .inv (Int×Int) (λx=>⟨[(1,.row .off a.2),(2,.ptr 0 0 20),(5,.si .i64 i),(6,.si .i64 x.2),(7,.si .i64 x.1)],[.cells a.1.ss 27 20 false]⟩)
    (λs=>(iS s 7,iS s 6))
    (λx=>0<=x.1/\x.1<=a.2.length/\x.2=cT a.1 (a.2.take x.1.toNat) i) (λx=>(a.2.length - x.1).toNat) λ_ _=> .look
   |_=> .look
 |_=> .look
theorem h69:Holds Tryz.prog Dm:=by
 refine cF (L:=M1) Dm aat hM1 ?_;rintro⟨p,l⟩ ⟨A,G,q⟩;simp only at A G q;refine bO (let d:=(0:Int);let i:=γh .i64;let j:=Ψ;let o:=γx .i64 0;let q:=cq .i64;let s:=γx .i64;let b:=γO 0 0 20;let c:=bq.cells (bn.ss p) 27 20 false;let v:=(↑p.classes.length:Int)+(12:Int);let k:=(↑l.length:Int);((((j bp.off l).same (j bp.off l)/\b.same b/\(o).same (i 0)/\True)/\c.same c/\True)/\d<=d/\d<=de p/\∀(r:Nat),(↑r:Int)<d->cT p l (↑r:Int)<=dj p (↑r:Int))/\∀(x:Int),let f:=x+(1:Int);let E:=i f;(d<=x/\x<=de p/\∀(r:Nat),(↑r:Int)<x->cT p l (↑r:Int)<=dj p (↑r:Int))->q v/\(decide (x<v)=true->((((j bp.off l).same (j bp.off l)/\b.same b/\(i x).same (i x)/\(o).same (i 0)/\(o).same (i 0)/\True)/\c.same c/\True)/\d<=d/\d<=k/\d=cT p [] x)/\∀(a:Int×Int),let D:=decide (a.fst<(↑l.length:Int));let C:=bj l a.fst.toNat bp.off.dflt;let w:=a.snd+qx p x C;let e:=a.fst+(1:Int);let n:=i x;let h:=i w;let m:=i e;let g:=decide (dj p x<a.snd);d<=a.fst/\a.fst<=k/\a.snd=cT p (Δ a.fst.toNat l) x->(D=true->d<=a.fst/\a.fst<(↑l.length:Int)/\a.fst.toNat<l.length/\(p.classes.length<=8/\d<=x/\x<de p/\d<=C.bX)/\q w/\q e/\(((j bp.off l).same (j bp.off l)/\b.same b/\n.same n/\h.same h/\m.same m/\True)/\c.same c/\True)/\(d<=e/\e<=k/\w=cT p (Δ e.toNat l) x)/\(k - e).toNat<(k - a.fst).toNat)/\(D=false->(p.classes.length<=8/\d<=x/\x<de p/\d<=d)/\(g=true->(δc false).same (SV.sb (gk p l)))/\(g=false->q f/\(((j bp.off l).same (j bp.off l)/\b.same b/\E.same E/\True)/\c.same c/\True)/\(d<=f/\f<=de p/\∀(r:Nat),(↑r:Int)<f->cT p l (↑r:Int)<=dj p (↑r:Int))/\(de p - f).toNat<(de p - x).toNat)))/\(decide (x<v)=false->(δc true).same (SV.sb (gk p l)))) (by kernel_rfl) ?_;simp only[vcs];have T:de p=p.classes.length+12:=rfl;have P:∀x∈l,x.want.ok=true:=λx y=>(q x y).2.2;refine⟨⟨by omega,by omega,λr J=>by omega⟩,?_⟩;rintro i ⟨H,F,S⟩;refine⟨by omega,λN=>⟨⟨by omega,by omega,by simp[cT]⟩,?_⟩,?_⟩
 ·rintro⟨j,s⟩ ⟨u,o,B⟩;simp only at u o B ⊢;have Q:=@sG p i (l.take j.toNat) λx y=>P x (γm y);have z:(l.take j.toNat).length<=l.length:=by simp;omega
  refine⟨λt=>?_,λt=>?_⟩
  ·have O:=q _ (dr (d:=bp.off.dflt) (show j.toNat<l.length by omega));have R:=@pM p i _ O.2.2;grind[HJ,aas]
  ·have:j.toNat=l.length:=by omega
   rw[this,ψ] at B;refine⟨⟨A,by omega,by omega,by omega⟩,λK=>?_,λM=>⟨by omega,⟨by omega,by omega,λr J=>?_⟩,by omega⟩⟩
   ·symm;rw[Bool.eq_false_iff];intro I;have:=o6.1 I i.toNat (by omega);grind
   grind
 grind[o6]
def Dn:bM:=⟨23,bn,.one dK,λp=>True,λp=> .si .i64 (bz p)⟩
def aau (p:bn):Nat->cE
 |11=> .inv Int (λk=>⟨[(1,.ptr 0 0 20),(4,.si .i64 k)],[.cells p.ss 27 20 false]⟩) (λs=>iS s 4) (λk=>0<=k/\k<=p.classes.length/\∀c∈p.classes.take k.toNat,0<=c/\c<=4) (λk=>(p.classes.length - k).toNat) λ_ _=> .look
 |16=> .inv Int (λi=>⟨[(1,.ptr 0 0 20),(5,.si .i64 i)],[.cells p.ss 27 20 false]⟩) (λs=>iS s 5)
  (λi=>0<=i/\i<=p.offers.length/\jb p [] p.offers=jb p ((p.offers.take i.toNat).map Off.key) (p.offers.drop i.toNat)) (λi=>(p.offers.length - i).toNat)
  λi=>λ
   |26=> .inv Int (λk=>⟨[(1,.ptr 0 0 20),(5,.si .i64 i),(6,.ptr 1 0 8),(7,.si .i64 k)],[.cells p.ss 27 20 false,.cells (encS .off (bj p.offers i.toNat bp.off.dflt)) 65 8 false]⟩) (λs=>iS s 7)
    (λk=>0<=k/\k<=i/\∀j:Nat,j<k->(bj p.offers j bp.off.dflt).key≠(bj p.offers i.toNat bp.off.dflt).key) (λk=>(i - k).toNat) λ_ _=> .look
   |_=> .look
 |4=> .inv Int (λk=>⟨[(1,.ptr 0 0 20),(3,.si .i64 k)],[.cells p.ss 27 20 false]⟩) (λs=>iS s 3) (λk=>0<=k/\k<=6/\∀j:Nat,j<k->iH p j) (λk=>(6 - k).toNat) λ_ _=> .look
 |_=> .look
theorem aav {b:bB}:(decide (b.a0=0)&&(decide (b.a1=0)&&(decide (b.a2=0)&&(decide (b.a3=0)&&(decide (b.a4=0)&&(decide (b.a5=0)&&true))))))=decide (b=bB.zero):=by
 simp_all[Da,bB.zero]
theorem aaw {b c:bB}:(decide (b.a0=c.a0)&&(decide (b.a1=c.a1)&&(decide (b.a2=c.a2)&&(decide (b.a3=c.a3)&&(decide (b.a4=c.a4)&&(decide (b.a5=c.a5)&&true))))))=decide (b=c):=by
 grind[Da]
theorem aax {a:Type} {l:List a} {i:Int} {d x:a} (b:i<=l.length) (h:x∈l.take i.toNat):∃j:Nat,(j:Int)<i/\bj l j d=x:=by
 obtain⟨j,c,rfl⟩:=List.mem_iff_getElem.1 h;grind[cY]
theorem h24:Holds Tryz.prog Dn:=by
 refine cF (L:=Dm::M1) Dn aau (by simp only[List.forall_mem_cons];exact⟨h69,hM1⟩) ?_;intro p _;refine bO (let a:=(0:Int);let b:=γh .i64;let d:=γx .i64;let e:=(6:Int);let f:=(1:Int);let g:=(4:Int);let h:=cq .i64;let k:=b (bz p);let l:=γO 0 0 20;let z:=d 0;let m:=bq.cells (bn.ss p) 27 20 false;let af:=[p.cls.a0,p.cls.a1,p.cls.a2,p.cls.a3,p.cls.a4,p.cls.a5];let ag:=[p.opn.a0,p.opn.a1,p.opn.a2,p.opn.a3,p.opn.a4,p.opn.a5];let ah:=[p.supply.a0,p.supply.a1,p.supply.a2,p.supply.a3,p.supply.a4,p.supply.a5];let J:=p.classes.length;let o:=(↑J:Int);let L:=decide ((8:Int)<o);let E:=p.offers.length;let r:=(↑E:Int);let M:=decide ((160:Int)<r);let s:=(↑p.classes.length:Int);let A:=(↑p.offers.length:Int);let F:=jb p [] p.offers;let B:=bp.off.dflt;let G:=γO 1 0 8;True/\((!p.supply.ok)=true->(d 4).same k)/\((!p.supply.ok)=false->(((l.same l/\z.same (b 0)/\True)/\m.same m/\True)/\a<=a/\a<=e/\∀(j:Nat),(↑j:Int)<a->iH p j)/\∀(x:Int),let t:=x+f;let N:=b t;let O:=decide (x<e);let K:=bj af x.toNat a;let P:=decide (K<a);let Q:=decide (g<K);let C:=bj ag x.toNat a;let R:=decide (C<a);let H:=bj ah x.toNat a;let S:=decide (K=a);let T:=h t/\((l.same l/\N.same N/\True)/\m.same m/\True)/\(a<=t/\t<=e/\∀(j:Nat),(↑j:Int)<t->iH p j)/\(e - t).toNat<(e - x).toNat;(a<=x/\x<=e/\∀(j:Nat),(↑j:Int)<x->iH p j)->(O=true->a<=x/\x<e/\x.toNat<6/\(P=true->(d 4).same k)/\(P=false->a<=x/\x<e/\x.toNat<6/\(Q=true->(d 4).same k)/\(Q=false->a<=x/\x<e/\x.toNat<6/\(R=true->(d 4).same k)/\(R=false->a<=x/\x<e/\x.toNat<6/\a<=x/\x<e/\x.toNat<6/\(decide (H<C)=true->(d 4).same k)/\(decide (H<C)=false->a<=x/\x<e/\x.toNat<6/\(S=true->a<=x/\x<e/\x.toNat<6/\a<=x/\x<e/\x.toNat<6/\(decide (C≠H)=true->(d 4).same k)/\(decide (C≠H)=false->T))/\(S=false->T))))))/\(O=false->(L=true->(d 3).same k)/\(L=false->(M=true->(d 3).same k)/\(M=false->(((l.same l/\z.same (b 0)/\True)/\m.same m/\True)/\a<=a/\a<=s/\∀(c:Int),c∈[]->a<=c/\c<=g)/\∀(x:Int),let U:=bj p.classes x.toNat a;let V:=decide (U<a);let W:=decide (g<U);let v:=x+f;let X:=b v;(a<=x/\x<=s/\∀(c:Int),c∈Δ x.toNat p.classes->a<=c/\c<=g)->(decide (x<o)=true->a<=x/\x<o/\x.toNat<J/\(V=true->(d 4).same k)/\(V=false->a<=x/\x<o/\x.toNat<J/\(W=true->(d 4).same k)/\(W=false->h v/\((l.same l/\X.same X/\True)/\m.same m/\True)/\(a<=v/\v<=s/\∀(c:Int),c∈Δ v.toNat p.classes->a<=c/\c<=g)/\(s - v).toNat<(s - x).toNat)))/\(decide (x<o)=false->(((l.same l/\z.same (b 0)/\True)/\m.same m/\True)/\a<=a/\a<=A/\F=F)/\∀(x:Int),let n:=bj p.offers x.toNat B;let i:=n.want;let D:=n.bX;let Y:=decide (D<a);let Z:=decide (n.value<f);let a6:=decide ((1000000:Int)<n.value);let I:=bq.cells [b D,b i.a0,b i.a1,b i.a2,b i.a3,b i.a4,b i.a5,b n.value] 65 8 false;let q:=x+f;let a7:=b q;let a8:=λ(u:Bool) ↦(decide (i.a0=a)&&(decide (i.a1=a)&&(decide (i.a2=a)&&(decide (i.a3=a)&&(decide (i.a4=a)&&(decide (i.a5=a)&&true))))))=u;a<=x/\x<=A/\F=jb p (List.map Off.key (Δ x.toNat p.offers)) (γ2 x.toNat p.offers)->(decide (x<r)=true->a<=x/\x<r/\x.toNat<E/\(Y=true->(d 6).same k)/\(Y=false->(decide (o<=D)=true->(d 6).same k)/\(decide (o<=D)=false->(Z=true->(d 4).same k)/\(Z=false->(a6=true->(d 4).same k)/\(a6=false->True/\((!i.ok)=true->(d 4).same k)/\((!i.ok)=false->(a8 true->(d 4).same k)/\(a8 false->(p.classes.length<=8/\1<=1000/\∀(x:Off),x∈[n]->a<=x.bX/\x.bX<s/\x.want.ok=true)/\((!gk p [n])=true->(d 14).same k)/\((!gk p [n])=false->(((l.same l/\(b x).same (b x)/\G.same G/\z.same (b 0)/\True)/\m.same m/\I.same I/\True)/\a<=a/\a<=x/\∀(j:Nat),(↑j:Int)<a->(bj p.offers j B).key≠n.key)/\∀(x_1:Int),let w:=x_1+f;let a9:=b x;let aa:=b w;let ab:=bj p.offers x_1.toNat B;let y:=ab.want;let ac:=decide (ab.bX=D);let ad:=h w/\((l.same l/\a9.same a9/\G.same G/\aa.same aa/\True)/\m.same m/\I.same I/\True)/\(a<=w/\w<=x/\∀(j:Nat),(↑j:Int)<w->(bj p.offers j B).key≠n.key)/\(x - w).toNat<(x - x_1).toNat;let ae:=λ(u:Bool) ↦(decide (y.a0=i.a0)&&(decide (y.a1=i.a1)&&(decide (y.a2=i.a2)&&(decide (y.a3=i.a3)&&(decide (y.a4=i.a4)&&(decide (y.a5=i.a5)&&true))))))=u;(a<=x_1/\x_1<=x/\∀(j:Nat),(↑j:Int)<x_1->(bj p.offers j B).key≠n.key)->(decide (x_1<x)=true->a<=x_1/\x_1<r/\x_1.toNat<E/\(ac=true->a<=x_1/\x_1<r/\x_1.toNat<E/\(ae true->(d 7).same k)/\(ae false->ad))/\(ac=false->ad))/\(decide (x_1<x)=false->h q/\((l.same l/\a7.same a7/\True)/\m.same m/\True)/\(a<=q/\q<=A/\F=jb p (List.map Off.key (Δ q.toNat p.offers)) (γ2 q.toNat p.offers))/\(A - q).toNat<(A - x).toNat)))))))))/\(decide (x<r)=false->z.same k))))))) (by kernel_rfl) ?_;simp only[aav,aaw];simp only[vcs];have e4:iO p=4->(4:Int)=bz p:=λh=>by simp[bz,h]
 have e3:iO p=3->(3:Int)=bz p:=λh=>by simp[bz,h]
 refine⟨λhs=>e4 (P6 hs),λhs=>⟨⟨by omega,by omega,λj hj=>by omega⟩,?_⟩⟩;rintro k ⟨hk0,hk1,hk⟩;refine⟨λhlt=>?_,λhge=>?_⟩
 ·have bad:¬iH p k.toNat->(4:Int)=bz p:=λh=>e4 (P7 hs (by omega) h);have HM:iH p k.toNat->∀(j:Nat),(j:Int)<k+1->iH p j:=λh j hj=>by
   by_cases hj2:(j:Int)<k;·exact hk j hj2
   ·rw[show j=k.toNat from by omega];exact h
  repeat' (first|refine And.intro ?_ ?_|intro _)
  all_goals first
   |omega;|exact bad λhh=>by have h2:=om.1 hh;omega;|exact HM (om.2 (by omega)) _ (by assumption)
 ·have hall:∀j:Nat,j<6->iH p j:=λj hj=>hk j (by omega);refine⟨λh=>e3 (Df hs hall (.inl (by omega))),λh8=>⟨λh=>e3 (Df hs hall (.inr (by omega))),λh160=>⟨⟨by omega,by omega,by simp⟩,?_⟩⟩⟩;rintro i ⟨hi0,hi1,hi⟩;refine⟨λhlt=>?_,λhge=>?_⟩
  ·have hm:=dr (d:=0) (show i.toNat<p.classes.length by omega);refine⟨by omega,by omega,by omega,λh=>e4 (Dh hs hall (by omega) hm (by omega)),λh1=>⟨by omega,by omega,by omega,λh=>e4 (Dh hs hall (by omega) hm (by omega)),λh2=>⟨by omega,⟨by omega,by omega,?_⟩,by omega⟩⟩⟩;exact P8 hi0 hlt hi (by omega)
  ·rw[show i.toNat=p.classes.length from by omega,ψ] at hi;have hz:iO p=0:=HL hs hall (by omega) hi;have ce:bz p=jb p [] p.offers:=by simp[bz,hz]
   refine⟨⟨by omega,by omega⟩,?_⟩;rintro i ⟨hi0,hi1,hi⟩;refine⟨λhlt=>?_,λhge=>?_⟩
   ·rw[sH (d:=bp.off.dflt) hi0 hlt] at hi;generalize hx:bj p.offers i.toNat bp.off.dflt=x at hi ⊢;have oe:∀c:Int,c≠0->ki p x=c->c=bz p:=λc hc h=>by
     rw[ce,hi];simp only[jb,h];rw[if_pos hc]
    have se:∀c:Int,c≠0->kH p.classes.length x=c->c=bz p:=λc hc h=>oe c hc (by
     unfold ki;rw[if_pos (by omega),h]);refine⟨by omega,by omega,by omega,λh1=>?_,λh1=>⟨λh2=>?_,λh2=>⟨λh3=>?_,λh3=>⟨λh4=>?_,λh4=>⟨λh5=>?_,λh5=>⟨λh6=>?_,λh6=>?_⟩⟩⟩⟩⟩⟩;·exact se 6 (by decide) (by unfold kH;rw[if_pos (by omega)])
    ·exact se 6 (by decide) (by unfold kH;rw[if_pos (by omega)])
    ·exact se 4 (by decide) (by unfold kH;rw[if_neg (by omega),if_pos (by omega)])
    ·exact se 4 (by decide) (by unfold kH;rw[if_neg (by omega),if_pos (by omega)])
    ·exact se 4 (by decide) (by unfold kH;rw[if_neg (by omega),if_neg (by omega),h5];rfl)
    ·have hs0:kH p.classes.length x=0:=by unfold kH;rw[if_neg (by omega),if_neg (by omega),h5];rfl
     exact oe 4 (by decide) (by simp[ki,hs0,h6])
    ·have hs0:kH p.classes.length x=0:=by unfold kH;rw[if_neg (by omega),if_neg (by omega),h5];rfl
     refine⟨⟨by omega,by omega,λy hy=>?_⟩,λh7=>?_,λh7=>⟨⟨by omega,by omega,λj hj=>by omega⟩,?_⟩⟩
     ·rw[δw.1 hy];exact⟨by omega,by omega,h5⟩
     ·exact oe 14 (by decide) (by simp[ki,hs0,h6,h7])
     ·have ho0:ki p x=0:=by simp[ki,hs0,h6,h7]
      rintro k ⟨hk0,hk1,hk⟩;have hnx:(bj p.offers k.toNat bp.off.dflt).key≠x.key->∀j:Nat,(j:Int)<k+1->(bj p.offers j bp.off.dflt).key≠x.key:=λh j hj=>by
       by_cases hj2:(j:Int)<k;·exact hk j hj2
       ·rw[show j=k.toNat from by omega];exact h
      refine⟨λhlt2=>⟨by omega,by omega,by omega,λh8=>⟨by omega,by omega,by omega,λh9=>?_,λh9=>⟨by omega,⟨by omega,by omega,?_⟩,by omega⟩⟩,λh8=>⟨by omega,⟨by omega,by omega,?_⟩,by omega⟩⟩,λDp=>⟨by omega,⟨by omega,by omega,?_⟩,by omega⟩⟩
      ·have hk9:(bj p.offers k.toNat bp.off.dflt).key=x.key:=by
        show nT.mk _ _=nT.mk _ _;rw[h8,h9]
       have hmem:x.key∈(p.offers.take i.toNat).map Off.key:=by
        rw[<-hk9];refine Ω.2 ⟨_,?_,rfl⟩;rw[cY (by omega)];exact List.mem_take_iff_getElem.2 ⟨k.toNat,by omega,rfl⟩
       rw[ce,hi];simp only[jb,ho0,ne_eq,not_true,if_false,if_pos hmem]
      ·refine hnx λe=>h9 ?_;injection e
      ·refine hnx λe=>h8 ?_;injection e
      ·have hnm:x.key∉(p.offers.take i.toNat).map Off.key:=by
        intro hmem;obtain⟨o,ho,he⟩:=Ω.1 hmem;obtain⟨j,hj,rfl⟩:=aax (d:=bp.off.dflt) hi1 ho;exact hk j (by omega) he
       rw[hi,jX (d:=bp.off.dflt) hi0 hlt,hx];simp only[jb,ho0,ne_eq,not_true,if_false,if_neg hnm,γa,π,γq]
   ·rw[show i.toNat=p.offers.length from by omega,δz] at hi;rw[ce,hi];rfl
def M2:List bM:=Dn::Dm::M1
theorem hM2:∀c∈M2,Holds Tryz.prog c:=by
 grind[M2,h24,h69,hM1]
def H4:bM:=⟨32,bn×List Int,.cons dK (.one (dF (.i .i64))),λa=>a.2.length<=9223372036854775807/\a.1.offers.length<=1000,λa=> .bI [.row .off (dX a.1 a.2),.sb (fR a.1 a.2)]⟩
def km (c:List Int) (i:Int):Int:=if i=0 then -1 else bj c (i - 1).toNat 0
def aaz (a:bn×List Int):Nat->cE
 |3=> .inv (Int×List Off) (λx=>⟨[(1,.row (.i .i64) a.2),(2,.ptr 0 0 20),(6,.ow 1 x.2.length 8),(7,.si .i64 x.1)],
   [.cells a.1.ss 27 20 false,.row .off x.2 65 true]⟩) (λs=>(iS s 7,oS .off s 1))
  (λx=>0<=x.1/\x.1<=a.2.length/\(x.2.length<=km a.2 x.1+1/\km a.2 x.1<1000)/\ -1<=km a.2 x.1/\ef a.1.offers (-1) a.2=(ef a.1.offers (km a.2 x.1) (a.2.drop x.1.toNat)).map (x.2++·)) (λx=>(a.2.length - x.1).toNat) λ_ _=> .look
 |_=> .look
theorem h109:Holds Tryz.prog H4:=by
 refine cF (L:=M2) H4 aaz hM2 ?_;rintro⟨p,c⟩ ⟨hc,hof⟩;have hc:c.length<=9223372036854775807:=hc;have hof:p.offers.length<=1000:=hof;refine bO (let a:=γh .i64;let b:=(0:Int);let d:=Ψ;let e:=(1:Int);let f:=δc false;let g:=(-1:Int);let h:=(1000:Int);let j:=SV.bI;let k:=bp.i .i64;let s:=γO 0 0 20;let B:=γZ 1 0 8;let t:=bq.cells [a p.supply.a0,a p.supply.a1,a p.supply.a2,a p.supply.a3,a p.supply.a4,a p.supply.a5,a p.opn.a0,a p.opn.a1,a p.opn.a2,a p.opn.a3,a p.opn.a4,a p.opn.a5,a p.cls.a0,a p.cls.a1,a p.cls.a2,a p.cls.a3,a p.cls.a4,a p.cls.a5,d k p.classes,d bp.off p.offers] 27 20 false;let C:=bq.row bp.off [] 65 true;let o:=(↑c.length:Int);let u:=km c b;let z:=ef p.offers g c;let n:=(↑c.length:Int);let v:=j [d bp.off (dX p c),SV.sb (fR p c)];let D:=p.offers.length;let A:=(↑D:Int);let L:=bp.off.dflt;((((d k c).same (d k c)/\s.same s/\B.same B/\(γx .i64 0).same (a 0)/\True)/\t.same t/\C.same C/\True)/\b<=b/\b<=o/\(b<=u+e/\u<h)/\g<=u/\z=ζp (λx ↦(b,[]).snd++x) (ef p.offers u c))/\∀(x:Int×List Off),let l:=bj c x.fst.toNat b;let E:=x.snd.length+1;let m:=x.fst+e;let q:=x.snd++[bj p.offers l.toNat L];let F:=a m;let G:=bq.row bp.off q 65 true;let w:=km c m;let y:=km c x.fst;let H:=decide (l<b);let I:=decide (b<x.fst);let r:=x.fst - e;let J:=decide (l<=bj c r.toNat b);let K:=b<=x.fst/\x.fst<n/\x.fst.toNat<c.length/\b<=l/\l<A/\l.toNat<D/\x.snd.length=x.snd.length/\E*64<=140737488355328/\E<=1000000000000/\cq .i64 m/\(((d k c).same (d k c)/\s.same s/\(γZ 1 q.length 8).same (γZ 1 q.length 8)/\F.same F/\True)/\t.same t/\G.same G/\True)/\(b<=m/\m<=o/\((↑q.length:Int)<=w+e/\w<h)/\g<=w/\z=ζp (λx ↦(m,q).snd++x) (ef p.offers w (γ2 m.toNat c)))/\(o - m).toNat<(o - x.fst).toNat;b<=x.fst/\x.fst<=o/\((↑x.snd.length:Int)<=y+e/\y<h)/\g<=y/\z=ζp (λx_1 ↦x.snd++x_1) (ef p.offers y (γ2 x.fst.toNat c))->(decide (x.fst<n)=true->b<=x.fst/\x.fst<n/\x.fst.toNat<c.length/\(H=true->(j [d k [],f]).same v)/\(H=false->b<=x.fst/\x.fst<n/\x.fst.toNat<c.length/\(decide (A<=l)=true->(j [d k [],f]).same v)/\(decide (A<=l)=false->(I=true->b<=x.fst/\x.fst<n/\x.fst.toNat<c.length/\cq .i64 r/\b<=r/\r<n/\r.toNat<c.length/\(J=true->(j [d k [],f]).same v)/\(J=false->K))/\(I=false->K))))/\(decide (x.fst<n)=false->x.snd.length=x.snd.length/\(j [d bp.off x.snd,δc true]).same v)) (by kernel_rfl) ?_;simp only[vcs];have hbad:ef p.offers (-1) c=none->(Ψ (.i .i64) []).same (Ψ .off (dX p c))/\false=fR p c:=λh=>⟨P5.2 (by simp[dX,h]),by simp[fR,h]⟩;refine⟨⟨by omega,by omega,by simp[km],by simp[km]⟩,?_⟩;rintro⟨i,out⟩ ⟨hi0,hi1,hlen,hla,hi⟩;simp only at hi0 hi1 hlen hla hi ⊢;refine⟨λhlt=>?_,λhge=>?_⟩
 ·rw[sH (d:=0) hi0 hlt] at hi;have hl1:km c (i+1)=bj c i.toNat 0:=by unfold km;rw[if_neg (by omega),show i+1 - 1=i by omega]
  have hl2:i≠0->km c i=bj c (i - 1).toNat 0:=λh=>by unfold km;rw[if_neg h]
  have hl3:i=0->km c i= -1:=λh=>by unfold km;rw[if_pos h]
  generalize hx:bj c i.toNat 0=x at hi hl1 ⊢;simp only[ef] at hi;have hgood:¬(x<=km c i\/p.offers.length<=x)->ef p.offers (-1) c=(ef p.offers (km c (i+1)) (c.drop (i+1).toNat)).map λr=>(out++[bj p.offers x.toNat bp.off.dflt])++r:=λh=>by
   rw[if_neg h] at hi;rw[hi,hl1,Option.map_map];congr 1;funext r;simp
  have bad:(x<=km c i\/p.offers.length<=x)->(Ψ (.i .i64) []).same (Ψ .off (dX p c))/\false=fR p c:=λh=>hbad (by rw[hi,if_pos h];rfl);have Qe:¬(x<=km c i\/p.offers.length<=x)->((out++[bj p.offers x.toNat bp.off.dflt]).length:Int)<=km c (i+1)+1/\km c (i+1)<1000:=λh=>by
   rw[hl1];simp only[List.length_append,List.length_singleton];omega
  refine⟨by omega,by omega,by omega,λh1=>bad (.inl (by omega)),λh1=>⟨by omega,by omega,by omega,λh2=>bad (.inr (by omega)),λh2=>⟨λh3=>⟨by omega,by omega,by omega,by omega,by omega,by omega,by omega,λh4=>bad (.inl (by rw[hl2 (by omega)];omega)),λh4=>?_⟩,λh3=>?_⟩⟩⟩
  ·have:=hl2 (by omega);refine⟨by omega,by omega,by omega,by omega,by omega,by omega,by omega,by omega,by omega,⟨by omega,by omega,Qe (by omega),by omega,hgood (by omega)⟩,by omega⟩
  ·have:=hl3 (by omega);refine⟨by omega,by omega,by omega,by omega,by omega,by omega,by omega,by omega,by omega,⟨by omega,by omega,Qe (by omega),by omega,hgood (by omega)⟩,by omega⟩
 ·rw[show i.toNat=c.length from by omega,δz] at hi;simp only[ef,Option.map_some,List.append_nil] at hi;exact⟨by simp[dX,hi],by simp[fR,hi]⟩
def cJ:List Off->Int
 |[]=>0
 |x::l=>x.value+cJ l
def ei (p:bn) (c:List Int):Int:=if bz p=0 then cJ (dX p c) else 0
theorem pN:∀{l m:List Off},cJ (l++m)=cJ l+cJ m
 |[],m=>by simp[cJ];|x::l,m=>by simp only[γG,cJ,@pN l m];omega
theorem aaA {l:List Off} {i:Int} (a:0<=i) (h:i<l.length):cJ (l.take (i+1).toNat)=cJ (l.take i.toNat)+(bj l i.toNat bp.off.dflt).value:=by
 rw[jX (d:=bp.off.dflt) a h,pN];simp[cJ]
theorem aaB {p:bn} {c:List Int} (h:bz p=0):(dX p c).length<=160/\∀x∈dX p c,x∈p.offers:=by
 have d:=dQ h;unfold dX;cases a:ef p.offers (-1) c with
 |none=>simp;|some r=>
  refine⟨?_,λx b=>HT (by omega) a x b⟩;have e:=Dk (by omega) a;have f:=d.2.1;grind
theorem sJ {p:bn} (a:Good p):∀{l:List Off},(∀x∈l,x∈p.offers)->0<=cJ l/\cJ l<=1000000*l.length
 |[],_=>by simp[cJ];|x::l,h=>by
  have c:=a.2.2.2.2 x (h x (by simp));have d:=@sJ p a l λy b=>h y (by simp[b]);grind[cJ]
def cmpL:List Int->List Int->Int
 |[],[]=>0
 |[],_::_=> -1
 |_::_,[]=>1
 |a::l,b::m=>if a<b then -1 else if b<a then 1 else cmpL l m
def r32:bM:=⟨14,List Int×List Int,.cons (dF (.i .i64)) (.one (dF (.i .i64))),λa=>a.1.length<=1000000000000/\a.2.length<=1000000000000,λa=> .si .i64 (cmpL a.1 a.2)⟩
def aaC (a:List Int×List Int):Nat->cE
 |2=> .inv Int (λi=>⟨[(0,.row (.i .i64) a.1),(1,.row (.i .i64) a.2),(5,.si .i64 i)],[]⟩) (λs=>iS s 5)
  (λi=>0<=i/\i<=a.1.length/\i<=a.2.length/\cmpL a.1 a.2=cmpL (a.1.drop i.toNat) (a.2.drop i.toNat)) (λi=>(a.1.length - i).toNat) λ_ _=> .look
 |_=> .look
theorem h32:Holds Tryz.prog r32:=by
 refine cF (L:=[]) r32 aaC (by simp) ?_;rintro⟨a,b⟩ ⟨w,u⟩;refine bO (let d:=(0:Int);let h:=γx .i64;let j:=γh .i64;let k:=(-1:Int);let q:=Ψ (bp.i .i64) a;let n:=Ψ (bp.i .i64) b;let t:=h 0;let m:=(↑a.length:Int);let r:=(↑b.length:Int);let e:=(↑a.length:Int);let f:=(↑b.length:Int);let g:=j (cmpL a b);(((q.same q/\n.same n/\t.same (j 0)/\True)/\True)/\d<=d/\d<=m/\d<=r/\cmpL a b=cmpL a b)/\∀(x:Int),let o:=bj a x.toNat d;let p:=bj b x.toNat d;let c:=x+(1:Int);let l:=j c;d<=x/\x<=m/\x<=r/\cmpL a b=cmpL (γ2 x.toNat a) (γ2 x.toNat b)->(decide (x<e)=true->(decide (x<f)=true->d<=x/\x<e/\x.toNat<a.length/\d<=x/\x<f/\x.toNat<b.length/\(decide (o<p)=true->(h k).same g)/\(decide (o<p)=false->d<=x/\x<e/\x.toNat<a.length/\d<=x/\x<f/\x.toNat<b.length/\(decide (p<o)=true->(h 1).same g)/\(decide (p<o)=false->cq .i64 c/\((q.same q/\n.same n/\l.same l/\True)/\True)/\(d<=c/\c<=m/\c<=r/\cmpL a b=cmpL (γ2 c.toNat a) (γ2 c.toNat b))/\(m - c).toNat<(m - x).toNat)))/\(decide (x<f)=false->(decide (e<f)=true->(h k).same g)/\(decide (e<f)=false->(decide (f<e)=true->(h 1).same g)/\(decide (f<e)=false->t.same g))))/\(decide (x<e)=false->(decide (e<f)=true->(h k).same g)/\(decide (e<f)=false->(decide (f<e)=true->(h 1).same g)/\(decide (f<e)=false->t.same g)))) (by kernel_rfl) ?_;conv=>zeta
 simp only at w u;simp only[vcs];refine⟨⟨by omega,by omega,by omega⟩,?_⟩;rintro i ⟨j,v,z,h⟩;refine⟨λs=>⟨λk=>?_,λk=>?_⟩,λs=>?_⟩
 ·rw[sH (d:=0) j s,sH (d:=0) j k] at h;simp only[cmpL] at h;omega
 ·rw[sH (d:=0) j s,show i.toNat=b.length from by omega,δz] at h;grind[cmpL]
 ·rw[show i.toNat=a.length from by omega,δz] at h;refine⟨λk=>?_,λk=>⟨λy=>by omega,λy=>?_⟩⟩
  ·rw[<-γl a.length,sH (d:=0) (by omega) k] at h;exact h.symm
  ·rw[show a.length=b.length from by omega,δz] at h;exact h.symm
def dU (l:List bB):bB:=⟨(l.map bB.a0).sum,(l.map bB.a1).sum,(l.map bB.a2).sum,(l.map bB.a3).sum,(l.map bB.a4).sum,(l.map bB.a5).sum⟩
def cV (p:bn) (l:List Int):List Off:=l.map λi=>bj p.offers i.toNat bp.off.dflt
def jo (p:bn) (L:List Off):Prop:=(L.map Off.bX).Nodup/\(dU (L.map Off.want)).le p.supply=true/\(dU (L.map (fh p))).le p.opn=true
instance (p:bn) (L:List Off):Decidable (jo p L):=by unfold jo;infer_instance
def lB (p:bn) (l:List Int):Bool:=decide (jo p (cV p l))
def iI (a b:bB) (k:Int):bB:=⟨if 0<k then b.a0 else a.a0,if 1<k then b.a1 else a.a1,if 2<k then b.a2 else a.a2,if 3<k then b.a3 else a.a3,if 4<k then b.a4 else a.a4,if 5<k then b.a5 else a.a5⟩
def bB.add (a b:bB):bB:=⟨a.a0+b.a0,a.a1+b.a1,a.a2+b.a2,a.a3+b.a3,a.a4+b.a4,a.a5+b.a5⟩
theorem Ab {l m:List bB}:dU (l++m)=(dU l).add (dU m):=by simp[dU,bB.add]
theorem Ac {b:bB} {l:List bB}:dU (b::l)=b.add (dU l):=by simp[dU,bB.add]
def bB.bd (b:bB) (n:Int):Prop:=(0<=b.a0/\b.a0<=n)/\(0<=b.a1/\b.a1<=n)/\(0<=b.a2/\b.a2<=n)/\(0<=b.a3/\b.a3<=n)/\(0<=b.a4/\b.a4<=n)/\(0<=b.a5/\b.a5<=n)
theorem H5:∀{l:List bB},(∀b∈l,b.ok=true)->(dU l).bd (4*l.length)
 |[],_=>by simp[dU,bB.bd];|b::l,h=>by
  have e:=bB.ja.1 (h b (by simp));have d:=@H5 l λc a=>h c (by simp[a]);rw[Ac];simp only[bB.bd,bB.add,γE] at d ⊢;omega
theorem aaD {p:bn} {x:Off} (h:x.want.ok=true):(fh p x).ok=true:=by
 have a:=bB.ja.1 h;rw[bB.ja];simp only[fh,HV,oc];omega
theorem H6 {p:bn} (b:Good p) {l:List Int} (h:∀i∈l,0<=i/\i<p.offers.length):∀x∈cV p l,x∈p.offers:=by
 intro x a;obtain⟨i,c,rfl⟩:=Ω.1 a;grind[dr]
def lC (p:bn) (i:Int):Int:=(bj p.offers i.toNat bp.off.dflt).value
def better (a b:Alloc):Alloc:=if b.value<a.value\/a.value=b.value/\cmpL a.chosen b.chosen<0 then a else b
def lD (p:bn):Nat->Int->Alloc->Alloc->Alloc
 |0,_,_,b=>b
 |k+1,i,a,b=>lD p k (i+1) a (if lB p (a.chosen++[i]) then lD p k (i+1) ⟨a.chosen++[i],a.value+lC p i⟩ (better ⟨a.chosen++[i],a.value+lC p i⟩ b) else b)
def Qf (p:bn) (i:Int):Nat:=(p.offers.length - i).toNat
def Qg (p:bn) (a:Alloc) (f:Int) (b:Alloc):Alloc:=lD p (Qf p f) f a (better a b)
def cz (p:bn):Alloc:=Qg p ⟨[],0⟩ 0 ⟨[],0⟩
def hasB (m b:Int):Bool:=decide (gX.vy .i64 (m / 2^b.toNat) 1=1)
def Dq (p:bn) (w:Int) (n:Nat):Int:=((ω n).map λi:Nat=>if(i:Int)≠w then(2:Int)^i else 0).sum
def o9 (p:bn) (m:Int):bn:={p with offers:=p.offers.filter λx=>hasB m x.bX}
theorem H7 {p:bn} (h:Good p) (m:Int):Good (o9 p m):=by
 refine⟨h.1,?_,h.2.2.1,h.2.2.2.1,λx a=>h.2.2.2.2 x (γs.1 a).1⟩;have:=List.length_filter_le (λx:Off=>hasB m x.bX) p.offers;have:=h.2.1;grind[o9]
def vQ (p:bn) (m:Int):Int:=(cz (o9 p m)).value
theorem H8 {p:bn} {c:List Int} (e:dh p c=0):bz p=0/\fR p c=true/\Good p/\c.length<=160/\∀i∈c,0<=i/\i<p.offers.length:=by
 have b:bz p=0:=by
  unfold dh at e;omega
 have d:fR p c=true:=by
  unfold dh at e;grind
 have f:=dQ b;obtain⟨r,g⟩:=γp.1 d;obtain⟨h,a⟩:=Qd (by omega) g;refine⟨b,d,f,?_,a⟩;have k:=Dk (by omega) g;have j:=f.2.1;grind
def H9 (p:bn):Int:=Dq p (-1) p.classes.length
structure Qh (p:bn) (fs:List Int) (l o:bB) (L:List Off):Prop where
 nd:(L.map Off.bX).Nodup
 mem:∀x∈L,x∈p.offers/\x.bX∈fs
 w:(dU (L.map Off.want)).le l=true
 o:(dU (L.map (fh p))).le o=true
theorem Qi {p:bn} {fs:List Int} {l o:bB}:∀{xs:List Off} {v:Int},v<=xs.foldl (o8 p fs l o) v/\∀x∈xs,x.want.le l=true->(fh p x).le o=true->x.value+kj p fs (l.sub x.want) (o.sub (fh p x))<=xs.foldl (o8 p fs l o) v
 |[],v=>by simp;|y::xs,v=>by
  obtain⟨b,e⟩:=@Qi p fs l o xs (o8 p fs l o v y);have d:v<=o8 p fs l o v y:=by
   grind[o8]
  refine⟨by grind,λx a c f=>?_⟩;simp only[δ9];rcases γz.1 a with rfl|a
  ·have:x.value+kj p fs (l.sub x.want) (o.sub (fh p x))<=o8 p fs l o v x:=by
    unfold o8;grind
   omega
  simp_all
theorem fold_at {p:bn} {fs:List Int} {l o:bB}:∀{xs:List Off} {v:Int},xs.foldl (o8 p fs l o) v=v\/∃x∈xs,x.want.le l=true/\(fh p x).le o=true/\xs.foldl (o8 p fs l o) v=x.value+kj p fs (l.sub x.want) (o.sub (fh p x))
 |[],v=>by simp;|y::xs,v=>by
  simp only[δ9];rcases @fold_at p fs l o xs (o8 p fs l o v y) with h|⟨x,d,a,c,b⟩
  ·rw[h];unfold o8;split<;>grind
  grind
theorem aaE {x:bB} {s t:List bB}:dU (s++x::t)=x.add (dU (s++t)):=by
 grind[Ab,Ac,bB.add]
theorem aaF {x:Off} {s t:List Off}:cJ (s++x::t)=x.value+cJ (s++t):=by
 rw[pN,pN];grind[cJ]
theorem Qj {p:bn} (c:Good p) {L:List Off} (h:∀x∈L,x∈p.offers):(dU (L.map Off.want)).bd (4*L.length)/\(dU (L.map (fh p))).bd (4*L.length):=by
 have e:∀x∈L,x.want.ok=true:=λx d=>(c.2.2.2.2 x (h x d)).2.2.1;have a:=@H5 (L.map Off.want) (λb f=>by grind);grind[H5,aaD]
theorem Dt {p:bn} (e:Good p):∀{fs:List Int} {l o:bB} {L:List Off},Qh p fs l o L->cJ L<=kj p fs l o
 |[],l,o,L,h=>by
  have:L=[]:=by
   cases L with
   |nil=>rfl;|cons x L=>exact absurd (h.mem x (by simp)).2 (by simp)
  grind[cJ,kj];|f::fs,l,o,L,h=>by
  obtain⟨D,B⟩:=@Qi p fs l o (zY p f) (kj p fs l o);have b:kj p (f::fs) l o=(zY p f).foldl (o8 p fs l o) (kj p fs l o):=rfl;rw[b];by_cases d:∃x∈L,x.bX=f
  ·obtain⟨x,d,m⟩:=d;obtain⟨s,t,rfl⟩:=List.append_of_mem d;obtain⟨u,c,w,j⟩:=h;have i:=c x d;have g:∀y∈s++t,y∈p.offers:=λy a=>(c y (by grind)).1;obtain⟨z,v⟩:=Qj e g;rw[γa,π,aaE,bB.le_iff,<-γa] at w j;simp only[bB.add,bB.bd] at w j z v;have q:x.want.le l=true:=by rw[bB.le_iff];omega
   have r:(fh p x).le o=true:=by rw[bB.le_iff];omega
   have A:=B x (γs.2 ⟨i.1,by simp[m]⟩) q r;rw[γa,π,List.nodup_append] at u;have n:∀y∈s++t,y.bX≠f:=λy a=>by
    rw[<-m];rcases γk.1 a with a|a;·simp_all
    simp_all
   have k:cJ (s++t)<=kj p fs (l.sub x.want) (o.sub (fh p x)):=Dt e
    {nd:=by
      grind
     mem:=λy a=>by
      grind
     w:=by grind[bB.le_iff,bB.sub]
     o:=by grind[bB.le_iff,bB.sub]};rw[aaF];omega
  ·have:=Dt e (fs:=fs) (l:=l) (o:=o) (L:=L) ⟨h.nd,λy a=>by
    have C:=h.mem y a;simp_all,h.w,h.o⟩;omega
theorem Du {p:bn} (k:Good p):∀{fs:List Int} {l o:bB},fs.Nodup->bB.zero.le l=true->bB.zero.le o=true->∃L,Qh p fs l o L/\cJ L=kj p fs l o
 |[],l,o,_,g,e=>⟨[],⟨by simp,by simp,g,e⟩,rfl⟩
 |f::fs,l,o,r,g,e=>by
  have c:=γW.1 r;have d:kj p (f::fs) l o=(zY p f).foldl (o8 p fs l o) (kj p fs l o):=rfl;rw[d];rcases @fold_at p fs l o (zY p f) (kj p fs l o) with h|⟨x,q,m,u,n⟩
  ·rw[h];obtain⟨L,a,j⟩:=Du k (l:=l) (o:=o) c.2 g e;exact⟨L,⟨a.nd,λy b=>⟨(a.mem y b).1,by simp[(a.mem y b).2]⟩,a.w,a.o⟩,j⟩
  ·rw[n];have z:=bB.le_iff.1 m;have A:=bB.le_iff.1 u;obtain⟨L,a,j⟩:=Du k (l:=l.sub x.want) (o:=o.sub (fh p x)) c.2 (by grind[bB.le_iff,bB.zero,bB.sub]) (by grind[bB.le_iff,bB.zero,bB.sub]);have s:=γs.1 q;have i:x.bX=f:=by simp_all
   refine⟨x::L,⟨?_,?_,?_,?_⟩,by grind[cJ]⟩
   ·rw[π,γW];refine⟨λt=>?_,a.nd⟩;obtain⟨y,b,v⟩:=Ω.1 t;exact c.1 (by rw[<-i,<-v];exact(a.mem y b).2)
   ·intro y b;rcases γz.1 b with rfl|b;·simp_all
    ·exact⟨(a.mem y b).1,by simp[(a.mem y b).2]⟩
   ·have:=bB.le_iff.1 a.w;grind[Ac,bB.le_iff,bB.add,bB.sub]
   ·have:=bB.le_iff.1 a.o;grind[Ac,bB.le_iff,bB.add,bB.sub]
theorem ug {p:bn} {l m:List Int}:cV p (l++m)=cV p l++cV p m:=by simp[cV]
theorem sK {p:bn} {i:Int} {l:List Int}:cV p (i::l)=bj p.offers i.toNat bp.off.dflt::cV p l:=rfl
def Dv (p:bn) (l:List Int):Prop:=∀i∈l,0<=i/\i<p.offers.length
theorem Ia {p:bn} (f:Good p) {L M:List Off} (c:∀x∈M,x∈p.offers) (h:jo p (L++M)):jo p L:=by
 obtain⟨e,d⟩:=Qj f c;obtain⟨g,a,b⟩:=h;rw[γa,Ab,bB.le_iff] at a b;simp only[bB.add,bB.bd] at a b e d;refine⟨?_,?_,?_⟩<;>grind[bB.le_iff]
theorem Qk {p:bn} (a:Good p) {l m:List Int} (b:Dv p m) (h:lB p (l++m)=true):lB p l=true:=by
 unfold lB at h ⊢;have h:=of_decide_eq_true h;rw[ug] at h;exact decide_eq_true (Ia a (H6 a b) h)
def ny (i:Int) (k:Nat) (t:List Int):Prop:=t.Pairwise (·<·)/\∀j∈t,i<=j/\j<i+k
theorem Ql {a b:Alloc}:a.value<=(better a b).value/\b.value<=(better a b).value:=by
 grind[better]
theorem Qm {a b:Alloc}:better a b=a\/better a b=b:=by
 grind[better]
theorem Ad {p:bn}:∀{k:Nat} {i:Int} {a b:Alloc},b.value<=(lD p k i a b).value
 |0,_,_,b=>by simp[lD];|k+1,i,a,b=>by
  simp only[lD];refine ζd ?_ Ad;split;·exact ζd Ql.2 Ad
  ·omega
theorem Ib {p:bn} (h:Good p):∀{k:Nat} {i:Int} {a b:Alloc} {t:List Int},0<=i->i+k<=p.offers.length->t≠[]->ny i k t->lB p (a.chosen++t)=true->a.value+cJ (cV p t)<=(lD p k i a b).value
 |0,i,a,b,t,_,_,u,c,_=>by
  cases t with
  |nil=>simp_all;|cons j t=>
   have:=c.2 j (by simp);omega
 |k+1,i,a,b,t,w,x,u,c,s=>by
  cases t with
  |nil=>simp_all;|cons j t=>
   have v:=c.2 j (by simp);have q:=γA.1 c.1;simp only[lD];by_cases l:j=i
   ·subst l;have d:Dv p t:=λm e=>by
     have:=c.2 m (by simp[e]);omega
    have f:lB p (a.chosen++[j]++t)=true:=by simp_all
    have g:lB p (a.chosen++[j])=true:=Qk h d f;rw[if_pos g];refine ζd ?_ Ad;rw[sK];simp only[cJ];cases t with
    |nil=>
     refine ζd ?_ Ad;refine ζd ?_ Ql.1;simp[cJ,cV,lC];|cons o n=>
     have:=Ib h (k:=k) (i:=j+1) (a:=⟨a.chosen++[j],a.value+lC p j⟩) (b:=better ⟨a.chosen++[j],a.value+lC p j⟩ b) (t:=o::n) (by omega) (by omega) (by simp) ⟨q.2,λm e=>by
      have r:=c.2 m (List.mem_cons_of_mem _ e);grind⟩ f;grind[lC]
   ·exact Ib h (by omega) (by omega) (by simp) ⟨c.1,λm e=>by
     have r:=c.2 m e;grind⟩ s
theorem Ic {p:bn} (g:Good p):∀{k:Nat} {i:Int} {a b:Alloc},lD p k i a b=b\/∃t,t≠[]/\ny i k t/\lB p (a.chosen++t)=true/\lD p k i a b=⟨a.chosen++t,a.value+cJ (cV p t)⟩
 |0,i,a,b=> .inl rfl
 |k+1,i,a,b=>by
  have l:∀{t:List Int},ny (i+1) k t->ny i (k+1) t:=λh=>⟨h.1,λj c=>by have:=h.2 j c;omega⟩;simp only[lD];rcases @Ic p g k (i+1) a (if lB p (a.chosen++[i]) then lD p k (i+1) ⟨a.chosen++[i],a.value+lC p i⟩ (better ⟨a.chosen++[i],a.value+lC p i⟩ b) else b) with h|⟨t,m,d,n,o⟩
  ·rw[h];split
   ·rename_i q;have e:(⟨a.chosen++[i],a.value+lC p i⟩:Alloc)=⟨a.chosen++[i],a.value+cJ (cV p [i])⟩:=by simp[cJ,cV,lC]
    have f:ny i (k+1) [i]:=⟨by simp,λj c=>by grind⟩;rcases @Ic p g k (i+1) ⟨a.chosen++[i],a.value+lC p i⟩ (better ⟨a.chosen++[i],a.value+lC p i⟩ b) with h|⟨t,m,d,n,o⟩;·grind[Qm]
    ·refine .inr ⟨i::t,by simp,⟨γA.2 ⟨λj c=>by have:=d.2 j c;omega,d.1⟩,λj c=>?_⟩,by simp_all,?_⟩
     ·rcases γz.1 c with rfl|c;·omega
      ·have:=d.2 j c;omega
     grind[sK,cJ,lC]
   simp_all
  grind
theorem Dw {p:bn}:∀{c:List Int} {s:Int},c.foldl (HY p) s=s+cJ (cV p c)
 |[],s=>by simp[cV,cJ];|i::c,s=>by
  rw[δ9,Dw,sK];grind[cJ,HY]
theorem Dx {p:bn}:∀{c:List Int} {a:Int} {r:List Off},ef p.offers a c=some r->r=cV p c
 |[],a,r,h=>by simp[ef] at h;subst h;rfl;|i::c,a,r,h=>by
  simp only[ef] at h;split at h;·cases h
  ·obtain⟨d,b,rfl⟩:=Option.map_eq_some_iff.1 h;rw[Dx b,sK]
theorem aaG {p:bn} {c:List Int} (b:dh p c=0):ei p c=Aa p c:=by
 obtain⟨a,d,g,f,e⟩:=H8 b;obtain⟨r,h⟩:=γp.1 d;unfold ei Aa;rw[if_pos a,Dw];grind[dX,Dx]
theorem Qn {p:bn} {x:Off} (b:0<=x.bX) (a:x.bX<p.classes.length):dW p x.bX x=1:=by
 unfold dW;omega
theorem sum_cons {p:bn} {x:Off} {L:List Off} {r:Int}:cT p (x::L) r=dW p r x+cT p L r:=by simp[cT]
theorem Qo {p:bn} {r:Int}:∀{L:List Off},(∀x∈L,x.want.ok=true)->(∃x∈L,x.bX=r/\0<=r/\r<p.classes.length)->1<=cT p L r
 |[],_,h=>by simp_all;|y::L,a,⟨x,c,e,f,d⟩=>by
  have g:=@pM p r y (a y (by simp));have i:=@sG p r L λz b=>a z (by simp[b]);rw[sum_cons];rcases γz.1 c with rfl|c;·grind[Qn]
  ·have:=@Qo p r L (λz b=>a z (by simp[b])) ⟨x,c,e,f,d⟩;omega
theorem Qp {p:bn}:∀{L:List Off},(∀x∈L,x.want.ok=true/\0<=x.bX/\x.bX<p.classes.length)->(∀r:Int,0<=r->r<p.classes.length->cT p L r<=1)->(L.map Off.bX).Nodup
 |[],_,_=>by simp;|x::L,e,f=>by
  have a:=e x (by simp);rw[π,γW];have d:∀r:Int,0<=r->r<p.classes.length->cT p L r<=1:=λr j b=>by
   have:=f r j b;have:=@pM p r x a.1;grind[sum_cons]
  refine⟨λg=>?_,Qp (λy c=>e y (by simp[c])) d⟩;obtain⟨y,c,h⟩:=Ω.1 g;have b:=f x.bX a.2.1 a.2.2;have k:=@Qo p x.bX L (λz i=>(e z (by simp[i])).1) ⟨y,c,h,a.2.1,a.2.2⟩;rw[sum_cons,Qn a.2.1 a.2.2] at b;omega
theorem aaH {p:bn} {c:List Int} (e:dh p c=0):((cV p c).map Off.bX).Nodup:=by
 obtain⟨j,f,a,m,h⟩:=H8 e;obtain⟨r,l⟩:=γp.1 f;have n:dX p c=cV p c:=by grind[dX,Dx]
 have d:gk p (cV p c)=true:=by
  simp_all[dh]
 refine Qp (p:=p) (λx g=>?_) λr o i=>?_
 ·have:=a.2.2.2.2 x (H6 a h x g);simp_all
 ·have b:=o6.1 d r.toNat (by grind[de]);rw[show((r.toNat:Nat):Int)=r by omega] at b;have k:dj p r=1:=by unfold dj;omega
  omega
theorem Ie {p:bn}:cz p=lD p p.offers.length 0 ⟨[],0⟩ ⟨[],0⟩:=by
 grind[Qf,cz,Qg,Qm]
theorem If {p:bn} (f:Good p) {t:List Int} (e:ny 0 p.offers.length t) (d:lB p t=true):cJ (cV p t)<=(cz p).value:=by
 rw[Ie];by_cases c:t=[]
 ·subst c;exact Ad
 ·have:=Ib f (k:=p.offers.length) (i:=0) (a:=⟨[],0⟩) (b:=⟨[],0⟩) (t:=t) (by omega) (by omega) c e d;simp_all
theorem Qq {p:bn} (a:Good p):lB p []=true:=by
 have b:=bB.ja.1 a.2.2.1;have c:=bB.ja.1 a.2.2.2.1;unfold lB;refine decide_eq_true ⟨by simp[cV],?_,?_⟩;all_goals simp_all[bB.le_iff,cV,dU]
theorem Ig {p:bn} (a:Good p):∃t,ny 0 p.offers.length t/\lB p t=true/\cz p=⟨t,cJ (cV p t)⟩:=by
 rw[Ie];rcases @Ic p a p.offers.length 0 ⟨[],0⟩ ⟨[],0⟩ with h|⟨t,b,e,c,d⟩;·exact⟨[],⟨by simp,by simp⟩,Qq a,by rw[h];rfl⟩
 grind
def Qr:Bool:=(ω 256).all λm=>[0,1,2,3,4,5,6,7].all λb:Int=>hasB m b==decide (b∈rq m)
theorem aaI:Qr=true:=by kernel_rfl
theorem Ih {m b:Int} (e:0<=m) (a:m<256) (c:0<=b) (d:b<8):hasB m b=decide (b∈rq m):=by
 have h:=aaI;simp only[Qr,φ,γy] at h;have h:=h m.toNat (by omega) b (by
  have:b=0\/b=1\/b=2\/b=3\/b=4\/b=5\/b=6\/b=7:=by omega
  simp_all);grind
theorem aaJ {p:bn} {t:List Int} (h:ny 0 p.offers.length t):Dv p t:=λj a=>by
 have:=h.2 j a;omega
theorem aaK {p:bn} (b:Good p) {m:Int} (j:0<=m) (e:m<256):vQ p m<=kj p (rq m) p.supply p.opn:=by
 obtain⟨t,i,f,g⟩:=Ig (H7 b m);unfold vQ;rw[g];have d:=of_decide_eq_true f;refine Dt b ⟨d.1,λx h=>?_,d.2.1,d.2.2⟩;have c:=H6 (H7 b m) (aaJ i) x h;have a:=γs.1 c;have k:=b.2.2.2.2 x a.1;have l:=b.1;refine⟨a.1,?_⟩;have:=Ih j e k.1 (by omega);simp_all
theorem Qs {L M:List Off} (h:L.Perm M):cJ L=cJ M:=by
 induction h<;>grind[cJ,swap,trans]
theorem aaL {L M:List bB} (h:L.Perm M):dU L=dU M:=by
 induction h<;>grind[Ac,swap,bB.add,bB.mk.injEq,trans]
theorem Ii {p:bn} {L M:List Off} (h:L.Perm M) (b:jo p L):jo p M:=by
 obtain⟨a,c,d⟩:=b;refine⟨((h.map _).nodup_iff).1 a,?_,?_⟩<;>grind[aaL]
theorem Ij (q:Off->Bool):∀(O a:List Off),∃t:List Int,t.Pairwise (·<·)/\(∀j∈t,(a.length:Int)<=j/\j<a.length+O.length)/\(t.map λj=>bj (a++O) j.toNat bp.off.dflt)=O.filter q
 |[],a=>⟨[],by simp,by simp,by simp⟩
 |x::O,a=>by
  obtain⟨t,c,g,d⟩:=Ij q O (a++[x]);have e:a++[x]++O=a++x::O:=by simp
  rw[e] at d;have h:((a++[x]).length:Int)=a.length+1:=by simp
  have f:∀j∈t,(a.length:Int)+1<=j/\j<a.length+1+O.length:=λj b=>by
   simp_all
  by_cases i:q x=true
  ·refine⟨(a.length:Int)::t,γA.2 ⟨λj b=>by grind,c⟩,λj b=>?_,?_⟩;·grind
   simp_all[cY]
  grind
theorem Dy {p:bn}:∀{l:List Off} {a:List nT},jb p a l=0->(l.map Off.key).Nodup/\∀x∈l,x.key∉a
 |[],_,_=>by simp;|o::r,a,h=>by
  simp only[jb] at h;split at h;·omega
  ·split at h;·cases h
   ·rename_i d b;obtain⟨c,e⟩:=Dy h;simp_all
theorem Dz {a b:Type} (f:a->b):∀{l:List a},(l.map f).Nodup->l.Nodup
 |[],_=>by simp;|x::l,h=>by
  rw[π,γW] at h;exact γW.2 ⟨λc=>h.1 (List.mem_map_of_mem c),Dz f h.2⟩
theorem Qu {p:bn} (h:bz p=0):p.offers.Nodup:=by
 unfold bz at h;split at h;·omega
 ·exact Dz _ (Dy h).1
theorem Qv (m:Int):(rq m).Nodup:=by
 unfold rq;exact ζT γP (by decide)
theorem aaM {p:bn} (f:bz p=0) {m:Int} (D:0<=m) (u:m<256):kj p (rq m) p.supply p.opn<=vQ p m:=by
 have b:=dQ f;have A:=bB.ja.1 b.2.2.1;have y:=bB.ja.1 b.2.2.2.1;obtain⟨L,c,h⟩:=Du b (Qv m) (l:=p.supply) (o:=p.opn) (by grind[bB.le_iff,bB.zero]) (by grind[bB.le_iff,bB.zero]);obtain⟨t,n,B,g⟩:=Ij (λx=>decide (x∈L)) (o9 p m).offers [];have i:cV (o9 p m) t=(o9 p m).offers.filter λx=>decide (x∈L):=g;have q:∀x∈L,x∈(o9 p m).offers:=λx s=>by
  have d:=c.mem x s;have C:=b.2.2.2.2 x d.1;have v:=b.1;refine γs.2 ⟨d.1,?_⟩;grind[Ih]
 have e:((o9 p m).offers.filter λx=>decide (x∈L)).Nodup:=ζT (List.Sublist.trans γP γP) (Qu f);have a:L.Perm (cV (o9 p m) t):=by
  rw[i];refine(List.perm_ext_iff_of_nodup (Dz _ c.nd) e).2 λx=>?_;simp_all
 have k:jo (o9 p m) L:=⟨c.nd,c.w,c.o⟩;have r:lB (o9 p m) t=true:=decide_eq_true (Ii a k);have:=If (H7 b m) ⟨n,λj z=>by simp_all⟩ r;rw[<-Qs a,h] at this;exact this
theorem aaN {p:bn} (d:bz p=0) {m:Int} (e:0<=m) (c:m<256):vQ p m=kj p (rq m) p.supply p.opn:=by
 have a:=aaK (dQ d) e c;have b:=aaM d e c;omega
theorem aaO {p:bn} (a:bz p=0) {m:Int} (c:0<=m) (d:m<2^p.classes.length):ry p m=vQ p m:=by
 have b:Dl p m=0:=by
  simp_all[Dl]
 have e:=zZ (dQ a).1;unfold ry;rw[if_pos b,aaN a c (by omega)];rfl
def Qw:Bool:=(ω 9).all λn=>decide (Dq bn.zero (-1) n=2^n - 1)&&(ω n).all λb=>decide (Dq bn.zero b n=aaq (2^n - 1) b)
theorem aaP:Qw=true:=by kernel_rfl
theorem Qx {p:bn} (h:p.classes.length<=8):Dq p (-1) p.classes.length=allM p:=by
 have a:=aaP;simp only[Qw,φ,γy,Bool.and_eq_true,decide_eq_true_eq] at a;exact(a p.classes.length (by omega)).1
theorem aaQ {p:bn} (b:bz p=0):ry p (allM p)=vQ p (H9 p):=by
 have a:=dQ b;have c:=zZ a.1;unfold H9;rw[Qx a.1];grind[aaO,allM]
def bB.at (b:bB) (k:Nat):Int:=bj [b.a0,b.a1,b.a2,b.a3,b.a4,b.a5] k 0
theorem Ik {a b:bB} (h:a.le b=true) (k:Nat):a.at k<=b.at k:=by
 grind[bB.le_iff,bB.at,bj]
theorem oo (k:Nat):∀(l:List bB),(dU l).at k=(l.map λb=>b.at k).sum:=by
 intro l;unfold bB.at dU;match k with
 |0|1|2|3|4|5=>simp only[bj,List.getElem?_cons_zero,γK,Option.getD_some];|k+6=>
  simp only[bj,γK,List.getElem?_nil,Option.getD_none];induction l<;>grind
theorem Qy {p:bn} {x:Off} {k:Nat} (a:k<6):dW p (p.classes.length+k) x=x.want.at k:=by
 unfold dW;rw[if_neg (by omega),if_pos (by omega),show((p.classes.length:Int)+k - p.classes.length).toNat=k by omega];rfl
theorem Qz {p:bn} {x:Off} {k:Nat} (a:k<6):dW p (p.classes.length+6+k) x=(fh p x).at k:=by
 unfold dW;rw[if_neg (by omega),if_neg (by omega),show((p.classes.length:Int)+6+k - p.classes.length - 6).toNat=k by omega];have:k=0\/k=1\/k=2\/k=3\/k=4\/k=5:=by omega
 rcases this with rfl|rfl|rfl|rfl|rfl|rfl<;>simp[fh,HV,oc,lU,bB.at,bj]
theorem QA {p:bn} {k:Nat} (a:k<6):dj p (p.classes.length+k)=p.supply.at k:=by
 unfold dj;rw[if_neg (by omega),if_pos (by omega),show((p.classes.length:Int)+k - p.classes.length).toNat=k by omega];rfl
theorem QB {p:bn} {k:Nat} (a:k<6):dj p (p.classes.length+6+k)=p.opn.at k:=by
 unfold dj;rw[if_neg (by omega),if_neg (by omega),show((p.classes.length:Int)+6+k - p.classes.length - 6).toNat=k by omega];rfl
theorem QC {p:bn} {r:Int} (a:0<=r) (b:r<p.classes.length):∀{L:List Off},(L.map Off.bX).Nodup->cT p L r<=1/\(r∉L.map Off.bX->cT p L r=0)
 |[],_=>by simp[cT];|x::L,h=>by
  rw[π,γW] at h;obtain⟨d,e⟩:=QC a b h.2;have c:dW p r x=if x.bX=r then 1 else 0:=by unfold dW;omega
  rw[sum_cons,c];grind
theorem QE {p:bn} {L:List Off} (h:jo p L):gk p L=true:=by
 obtain⟨j,i,f⟩:=h;refine o6.2 λr g=>?_;unfold de at g;by_cases l:r<p.classes.length
 ·have:=(QC (p:=p) (r:=r) (by omega) (by omega) j).1;have d:dj p r=1:=by unfold dj;omega
  omega
 by_cases d:r<p.classes.length+6
 ·obtain⟨k,rfl⟩:∃k:Nat,r=p.classes.length+k:=⟨r - p.classes.length,by omega⟩;have c:k<6:=by omega
  have e:(((p.classes.length+k:Nat)):Int)=p.classes.length+k:=by omega
  rw[e,QA c];have a:=Ik i k;rw[oo,γ4] at a;have:cT p L (p.classes.length+k)=(L.map ((λb=>bB.at b k)∘Off.want)).sum:=by
   unfold cT;congr 1;simp_all[Qy]
  omega
 ·obtain⟨k,rfl⟩:∃k:Nat,r=p.classes.length+6+k:=⟨r - p.classes.length - 6,by omega⟩;have c:k<6:=by omega
  have e:(((p.classes.length+6+k:Nat)):Int)=p.classes.length+6+k:=by omega
  rw[e,QB c];have a:=Ik f k;rw[oo,γ4] at a;have:cT p L (p.classes.length+6+k)=(L.map ((λb=>bB.at b k)∘fh p)).sum:=by
   unfold cT;congr 1;simp_all[Qz]
  omega
theorem QF {l:List Off}:∀{t:List Int} {a:Int},t.Pairwise (·<·)->(∀j∈t,a<j/\j<l.length)->ef l a t=some (t.map λi=>bj l i.toNat bp.off.dflt)
 |[],_,_,_=>rfl
 |i::t,a,h,d=>by
  have e:=d i (by simp);have c:=γA.1 h;unfold ef;rw[if_neg (by omega),QF c.2 λj b=>⟨c.1 j b,(d j (by simp[b])).2⟩];rfl
theorem QG {p:bn} (e:bz p=0) {t:List Int} (a:ny 0 p.offers.length t) (c:jo p (cV p t)):dh p t=0:=by
 have d:ef p.offers (-1) t=some (cV p t):=QF a.1 λj b=>by have:=a.2 j b;omega
 simp_all[dh,fR,dX,QE]
def QH:Bool:=(ω 9).all λn=>(ω n).all λb=>hasB (2^n - 1) b
theorem aaR:QH=true:=by kernel_rfl
theorem QI {p:bn} (a:Good p) {b:Int} (d:0<=b) (c:b<p.classes.length):hasB (allM p) b=true:=by
 have h:=aaR;simp only[QH,φ,γy] at h;have:=h p.classes.length (by have:=a.1;omega) b.toNat (by omega);rwa [show((b.toNat:Nat):Int)=b by omega] at this
theorem aaS {p:bn} (a:Good p):o9 p (allM p)=p:=by
 unfold o9;rw[List.filter_eq_self.2 λx b=>QI a (a.2.2.2.2 x b).1 (a.2.2.2.2 x b).2.1]
theorem DC {p:bn} (b:bz p=0):ry p (allM p)=(cz p).value:=by
 have a:=dQ b;rw[aaQ b];unfold H9 vQ;rw[Qx a.1,aaS a]
theorem QJ {p:bn} (a:bz p=0):Qc p (cz p).chosen=0/\jo p (cV p (cz p).chosen)/\ny 0 p.offers.length (cz p).chosen/\(cz p).value=cJ (cV p (cz p).chosen):=by
 have d:=dQ a;obtain⟨t,b,e,h⟩:=Ig d;have c:jo p (cV p t):=of_decide_eq_true e;have g:=QG a b c;have f:=DC a;simp_all[Qc,Aa,Dw]
theorem aaT {p:bn} (d:Good p) {x:Int} (a:0<=x) (c:x<p.classes.length):x∈rq (allM p):=by
 have e:=d.1;have f:=zZ e;have:=Ih (m:=allM p) (b:=x) (by grind[allM]) (by grind[allM]) a (by omega);simp_all[QI]
theorem QK {p:bn} (b:bz p=0) {m:Int} (c:0<=m) (a:m<2^p.classes.length):ry p m=kj p (rq m) p.supply p.opn:=by
 unfold ry;rw[if_pos];·rfl
 simp_all[Dl]
theorem QL:∀l:List Int,cmpL l l=0
 |[]=>rfl
 |a::l=>by
  simp only[cmpL,if_neg (Int.lt_irrefl a)];exact QL l
theorem QM:∀{a b:List Int},cmpL a b=0->a=b
 |[],[],_=>rfl
 |[],_::_,h=>by grind[cmpL];|_::_,[],h=>by grind[cmpL];|x::a,y::b,h=>by
  simp only[cmpL] at h;split at h;·simp at h
  ·split at h;·simp at h
   ·rw[QM h,show x=y by omega]
theorem QN:∀{a b:List Int},cmpL a b<0↔0<cmpL b a
 |[],[]=>by simp[cmpL];|[],_::_=>by simp[cmpL];|_::_,[]=>by simp[cmpL];|x::a,y::b=>by
  simp only[cmpL];by_cases c:x<y;·omega
  ·by_cases d:y<x;·omega
   ·rw[if_neg c,if_neg d,if_neg d,if_neg c];exact QN
theorem QO:∀{a b c:List Int},cmpL a b<0->cmpL b c<0->cmpL a c<0
 |[],[],_,h,_=>by omega;|_::_,[],_,h,_=>by grind[cmpL];|[],_::_,[],_,h=>by grind[cmpL];|[],_::_,_::_,_,_=>by simp[cmpL];|_::_,_::_,[],_,h=>by grind[cmpL];|x::a,y::b,z::c,h,k=>by
  simp only[cmpL] at h k ⊢;by_cases g:x<y;·omega
  ·rw[if_neg g] at h;by_cases e:y<x;·omega
   ·rw[if_neg e] at h;by_cases f:y<z;·omega
    ·rw[if_neg f] at k;by_cases d:z<y;·omega
     ·rw[if_neg d] at k;rw[if_neg (by omega),if_neg (by omega)];exact QO h k
def mI (a b:Alloc):Prop:=b.value<a.value\/a.value=b.value/\cmpL a.chosen b.chosen<0
theorem QP {a b c:Alloc} (h:mI a b) (k:mI b c):mI a c:=by
 rcases h with h|⟨g,e⟩
 ·rcases k with k|⟨f,_⟩;·left;omega
  ·left;omega
 ·rcases k with k|⟨f,d⟩;·left;omega
  ·exact .inr ⟨by omega,QO e d⟩
theorem DD {a:Alloc}:¬mI a a:=by
 rintro(h|⟨_,h⟩)<;>grind[QL]
theorem aaU {a b:Alloc} (h:¬mI a b) (k:¬mI b a):a=b:=by
 obtain⟨l,v⟩:=a;obtain⟨m,w⟩:=b;simp only[mI,not_or,not_and] at h k;have d:v=w:=by omega
 subst d;have e:=h.2 rfl;have c:=k.2 rfl;have:=mt QN.2 c;grind[QM]
def oq (a:List Int):Nat->Nat
 |0=>0
 |n+1=>if bj a n 0=0 then oq a n else n+1
def bJ (a:List Int):List Int:=a.take (oq a a.length)
def rA:bM:=⟨168,List Int,.one (dF (.i .u32)),λa=>a.length<=1000000000000,λa=> .row (.i .u32) (bJ a)⟩
def aaV (a:List Int):Nat->cE
 |2=> .inv Int (λn=>⟨[(0,.row (.i .u32) a),(3,.si .i64 n)],[]⟩) (λs=>iS s 3) (λn=>0<=n/\n<=a.length/\oq a n.toNat=oq a a.length) (λn=>n.toNat) λ_ _=> .look
 |_=> .look
theorem h152:Holds Tryz.prog rA:=by
 refine cF (L:=[]) rA aaV (by simp) ?_;intro(a:List Int) (h:a.length<=1000000000000);refine bO (let e:=(0:Int);let f:=Ψ;let c:=bp.i .u32;let d:=(↑a.length:Int);let l:=γh .i64 d;let g:=(↑a.length:Int);let j:=oq a a.length;((((f c a).same (f c a)/\l.same l/\True)/\True)/\e<=d/\d<=g/\oq a d.toNat=j)/\∀(x:Int),let r:=decide (e<x);let b:=x - (1:Int);let o:=decide (bj a b.toNat e=e);let k:=γh .i64 b;e<=x/\x<=g/\oq a x.toNat=j->(r=true->cq .i64 b/\e<=b/\b<d/\b.toNat<a.length/\(o=true->cq .i64 b/\(((f c a).same (f c a)/\k.same k/\True)/\True)/\(e<=b/\b<=g/\oq a b.toNat=j)/\b.toNat<x.toNat)/\(o=false->e<=x/\e<=x/\0<=x.toNat/\x.toNat<=x.toNat/\x.toNat<=a.length/\(f c (Δ (x.toNat - 0) a)).same (f c (bJ a))))/\(r=false->e<=x/\e<=x/\0<=x.toNat/\x.toNat<=x.toNat/\x.toNat<=a.length/\(f c (Δ (x.toNat - 0) a)).same (f c (bJ a)))) (by kernel_rfl) ?_;simp only[vcs];refine⟨⟨by omega,by omega,by simp⟩,?_⟩;rintro n ⟨f,t,q⟩;have e:(n.toNat=0\/0<n.toNat/\¬bj a (n.toNat - 1) 0=0)->Δ (n.toNat - 0) a=bJ a:=λh=>by
  unfold bJ;rw[<-q];congr 1;rcases h with h|h;·rw[h];rfl
  ·obtain⟨v,h⟩:=h;obtain⟨m,u⟩:∃m,n.toNat=m+1:=⟨n.toNat - 1,by omega⟩;simp_all[oq]
 refine⟨λs=>⟨by omega,by omega,by omega,by omega,λp=>⟨by omega,⟨by omega,by omega,?_⟩,by omega⟩,λp=>⟨f,f,by omega,by omega,by omega,?_⟩⟩,λs=>⟨f,f,by omega,by omega,by omega,e (.inl (by omega))⟩⟩
 ·rw[<-q,show n.toNat=(n - 1).toNat+1 by omega];rw[oq,if_pos p]
 simp_all
def bk:List Int->Int
 |[]=>0
 |d::l=>d+4294967296*bk l
def bA (a:List Int):Prop:=∀d∈a,0<=d/\d<4294967296
def fS:List Int->Prop
 |[]=>True
 |d::l=>(l=[]->d≠0)/\fS l
theorem jq {d:Int} {l:List Int}:bA (d::l)↔(0<=d/\d<4294967296)/\bA l:=by simp[bA]
theorem nz {a:List Int} (h:bA a) (n:Nat):bA (a.take n):=λd b=>h d (γm b)
theorem fi:∀{a:List Int},bA a->0<=bk a
 |[],_=>Int.le_refl _
 |d::l,h=>by
  obtain⟨c,b⟩:=jq.1 h;have:=fi b;grind[bk]
theorem val_zero:∀{a:List Int},bA a->fS a->bk a=0->a=[]
 |[],_,_,_=>rfl
 |d::l,h,b,f=>by
  obtain⟨g,c⟩:=jq.1 h;have:=fi c;simp only[bk] at f;have e:=val_zero c b.2 (by omega);have:=b.1 e;omega
theorem val_inj:∀{a b:List Int},bA a->bA b->fS a->fS b->bk a=bk b->a=b
 |[],b,_,i,_,c,h=>(val_zero i c h.symm).symm
 |d::l,[],f,_,g,_,h=>val_zero f g h
 |d::l,e::m,f,i,g,c,h=>by
  obtain⟨p,j⟩:=jq.1 f;obtain⟨s,k⟩:=jq.1 i;have r:=fi j;have q:=fi k;simp only[bk] at h;have n:d=e:=by omega
  have o:bk l=bk m:=by omega
  rw[n,val_inj j k g.2 c.2 o]
theorem xO:∀{a:List Int} {x:Int},bk (a++[x])=bk a+4294967296^a.length*x
 |[],x=>by simp[bk];|d::l,x=>by
  simp only[γG,bk,xO,γE,γQ,εv];grind
theorem Il:∀{a:List Int} {x:Int},x≠0->fS (a++[x])
 |[],x,h=>⟨λ_=>h,trivial⟩
 |d::l,x,h=>⟨λb=>by simp at b,Il h⟩
theorem DF {a:List Int} {n:Nat} (h:n<a.length):a.take (n+1)=a.take n++[bj a n 0]:=by
 simp_all[cY]
theorem QQ {a:List Int}:∀{n:Nat},n<=a.length->bk (a.take (oq a n))=bk (a.take n)/\fS (a.take (oq a n))
 |0,_=>by simp[oq,fS];|n+1,h=>by
  obtain⟨d,b⟩:=@QQ a n (by omega);have c:=DF (show n<a.length by omega);unfold oq;grind[xO,Il]
theorem rB {a:List Int}:bk (bJ a)=bk a/\fS (bJ a):=by
 have:=@QQ a a.length (ξ _);rw[ψ] at this;exact this
theorem sL {a:List Int} (h:bA a):bA (bJ a):=nz h _
theorem uh {a:List Int}:(bJ a).length<=a.length:=by grind[bJ]
def vR:Nat->Int->List Int
 |0,_=>[]
 |k+1,n=>if n<=0 then[] else(n % 4294967296)::vR k (n / 4294967296)
def cK (n:Int):List Int:=vR n.toNat n
theorem QR:∀{k:Nat} {n:Int},0<=n->n.toNat<=k->bk (vR k n)=n/\bA (vR k n)/\fS (vR k n)
 |0,n,b,h=>by
  have:n=0:=by omega
  subst this;exact⟨rfl,by simp[vR,bA],trivial⟩;|k+1,n,b,h=>by
  unfold vR;split
  ·have:n=0:=by omega
   subst this;exact⟨rfl,by simp[bA],trivial⟩
  ·obtain⟨d,a,c⟩:=@QR k (n / 4294967296) (by omega) (by omega);refine⟨by grind[bk],jq.2 ⟨by omega,a⟩,λe f=>?_,c⟩;grind[bk]
theorem gl {n:Int} (h:0<=n):bk (cK n)=n/\bA (cK n)/\fS (cK n):=QR h (ξ _)
theorem Ae {a:List Int} (h:bA a) (b:fS a):cK (bk a)=a:=by
 grind[gl,fi,val_inj]
theorem qy {a:List Int} (h:bA a):bJ a=cK (bk a):=by
 grind[rB,Ae,sL]
theorem ot:∀{a:List Int},bA a->bk a<4294967296^a.length
 |[],_=>by simp[bk];|d::l,h=>by
  obtain⟨c,b⟩:=jq.1 h;have:=ot b;grind[bk]
theorem xQ:∀{a b:List Int},bA a->bA b->fS b->a.length<b.length->bk a<bk b
 |[],b,_,c,f,h=>by
  have n:=fi c;grind[bk,val_zero];|d::l,[],_,_,_,h=>by simp at h;|d::l,e::m,g,c,f,h=>by
  obtain⟨k,j⟩:=jq.1 g;obtain⟨o,i⟩:=jq.1 c;simp only[γE] at h;have:=xQ j i f.2 (by omega);grind[bk]
theorem Im:∀{k:Nat} {a b:List Int},bA a->bA b->k<a.length->k<b.length->a.drop (k+1)=b.drop (k+1)->bj a k 0<bj b k 0->bk a<bk b
 |_,[],_,_,_,h,_,_,_=>by simp at h;|_,_::_,[],_,_,_,h,_,_=>by simp at h;|0,d::l,e::m,f,g,_,_,h,c=>by
  grind[bj,bk];|k+1,d::l,e::m,f,g,n,q,h,c=>by
  obtain⟨p,j⟩:=jq.1 f;obtain⟨o,i⟩:=jq.1 g;simp only[List.drop_succ_cons] at h;simp only[bj,γK] at c;have:=Im (k:=k) j i (by simp_all) (by simp_all) h c;grind[bk]
theorem DG {a:List Int} {k:Nat} (h:k<a.length):a.drop k=bj a k 0::a.drop (k+1):=by simp_all[cY]
def lV (x y:Int):Int:=if x<y then -1 else if y<x then 1 else 0
def xR:bM:=⟨140,List Int×List Int,.cons (dF (.i .u32)) (.one (dF (.i .u32))),λa=>(bA a.1/\bA a.2)/\a.1.length<=1000000000000/\a.2.length<=1000000000000,λa=> .si .i64 (lV (bk a.1) (bk a.2))⟩
def aaW (a:List Int×List Int):Nat->cE
 |7=> .inv Int (λi=>⟨[(0,.row (.i .u32) (bJ a.1)),(1,.row (.i .u32) (bJ a.2)),(22,.si .i64 (bJ a.1).length),(23,.si .i64 i)],[]⟩) (λs=>iS s 23)
  (λi=>0<=i/\i<=(bJ a.1).length/\(bJ a.1).drop ((bJ a.1).length - i.toNat)=(bJ a.2).drop ((bJ a.1).length - i.toNat)) (λi=>((bJ a.1).length - i).toNat) λ_ _=> .look
 |_=> .look
theorem h132:Holds Tryz.prog xR:=by
 refine cF (L:=[rA]) xR aaW (by grind[h152]) ?_;rintro⟨a,b⟩ ⟨⟨H,J⟩,r,q⟩;simp only at H J r q;refine bO (let h:=(0:Int);let m:=γh .i64;let q:=γx .i64;let r:=cq .i64;let E:Nat:=(bJ a).length;let j:=(↑E:Int);let B:Nat:=(bJ b).length;let n:=(↑B:Int);let u:=m (lV (bk a) (bk b));let y:=Ψ (bp.i .u32) (bJ a);let v:=Ψ (bp.i .u32) (bJ b);let l:Nat:=(bJ a).length;let k:=(↑l:Int);let C:=m k;let o:=q 0;let c:=j - (1:Int);a.length<=1000000000000/\b.length<=1000000000000/\(decide (j≠n)=true->(decide (j<n)=true->(q (-1:Int)).same u)/\(decide (j<n)=false->(q 1).same u))/\(decide (j≠n)=false->(((y.same y/\v.same v/\(m j).same C/\o.same (m 0)/\True)/\True)/\h<=h/\h<=k/\γ2 (l - 0) (bJ a)=γ2 (l - 0) (bJ b))/\∀(x:Int),let e:=(c - x).toNat;let f:=bj (bJ a) e h;let g:=bj (bJ b) e h;let d:=x+(1:Int);let p:=m d;h<=x/\x<=k/\γ2 (l - x.toNat) (bJ a)=γ2 (l - x.toNat) (bJ b)->(decide (x<k)=true->r c/\r (c - x)/\h<=c - x/\c - x<j/\e<E/\h<=c - x/\c - x<n/\e<B/\(decide (f<g)=true->(q (-1:Int)).same u)/\(decide (f<g)=false->h<=c - x/\c - x<j/\e<E/\h<=c - x/\c - x<n/\e<B/\(decide (g<f)=true->(q 1).same u)/\(decide (g<f)=false->r d/\((y.same y/\v.same v/\C.same C/\p.same p/\True)/\True)/\(h<=d/\d<=k/\γ2 (l - d.toNat) (bJ a)=γ2 (l - d.toNat) (bJ b))/\(k - d).toNat<(k - x).toNat)))/\(decide (x<k)=false->o.same u))) (by kernel_rfl) ?_;simp only[vcs];obtain⟨R,S⟩:=@rB a;obtain⟨O,N⟩:=@rB b;have z:=sL H;have w:=sL J;have W:=@uh a;rw[<-R,<-O];generalize bJ a=s at*;generalize bJ b=t at*;have G:bk s<bk t-> -1=lV (bk s) (bk t):=λh=>by simp_all[lV]
 have F:bk t<bk s->1=lV (bk s) (bk t):=λh=>by unfold lV;omega
 refine⟨r,q,λP=>⟨λh=>G (xQ z w N (by omega)),λh=>F (xQ w z S (by omega))⟩,λT=>⟨⟨by omega,by omega,?_⟩,?_⟩⟩;·rw[δ6 (by omega),δ6 (by omega)]
 rintro i ⟨U,X,A⟩;refine⟨λM=>?_,λQ=>?_⟩
 ·have K:((s.length:Int) - 1 - i).toNat=s.length - 1 - i.toNat:=by omega
  have D:s.length - i.toNat=s.length - 1 - i.toNat+1:=by omega
  rw[K];rw[D] at A;generalize V:s.length - 1 - i.toNat=m at*;refine⟨by omega,by omega,by omega,by omega,by omega,by omega,by omega,by omega,λh=>G (Im z w (by omega) (by omega) A h),λh=>⟨by omega,by omega,by omega,by omega,by omega,by omega,λI=>F (Im w z (by omega) (by omega) A.symm I),λI=>⟨by omega,⟨by omega,by omega,?_⟩,by omega⟩⟩⟩;rw[show s.length - (i+1).toNat=m by omega,DG (show m<s.length by omega),DG (show m<t.length by omega),A,show bj s m 0=bj t m 0 by omega]
 simp_all[lV]
def jc (s t:List Int):Nat->Int
 |0=>0
 |i+1=>(bj s i 0+jc s t i+bj t i 0) / 4294967296
def sM (s t:List Int) (i:Nat):Int:=(bj s i 0+jc s t i+bj t i 0) % 4294967296
def pd (s t:List Int) (i:Nat):List Int:=(ω i).map (sM s t)++δ (s.length+1 - i) 0
def big (a:List Int×List Int):List Int:=if a.1.length<a.2.length then a.2 else a.1
def lW (a:List Int×List Int):List Int:=if a.1.length<a.2.length then a.1 else a.2
def Af:bM:=⟨165,List Int×List Int,.cons (dF (.i .u32)) (.one (dF (.i .u32))),λa=>(bA a.1/\bA a.2)/\a.1.length<=100000000000/\a.2.length<=100000000000,λa=> .row (.i .u32) (cK (bk a.1+bk a.2))⟩
def aaX (a:List Int×List Int):Nat->cE
 |6=> .inv Int (λi=>⟨[(0,.row (.i .u32) (big a)),(1,.row (.i .u32) (lW a)),(5,.ow 0 (pd (big a) (lW a) i.toNat).length 1),(6,.si .u64 (jc (big a) (lW a) i.toNat)),(21,.si .i64 (big a).length),(22,.si .i64 i)],[.row (.i .u32) (pd (big a) (lW a) i.toNat) 172 true]⟩) (λs=>iS s 22)
  (λi=>0<=i/\i<=(big a).length) (λi=>((big a).length - i).toNat) λ_ _=> .look
 |_=> .look
theorem ek {a:List Int} (h:bA a) (i:Nat):0<=bj a i 0/\bj a i 0<4294967296:=by
 by_cases b:i<a.length;·rw[cY b];exact h _ (List.getElem_mem b)
 grind[bj]
theorem DI {a:List Int} {i:Nat} (h:a.length<=i):bj a i 0=0:=by grind[bj]
theorem Io {s t:List Int} (b:bA s) (a:bA t):∀i,0<=jc s t i/\jc s t i<=1
 |0=>by simp[jc];|i+1=>by
  have h:=Io b a i;have c:=ek b i;have d:=ek a i;grind[jc]
theorem xT {s t:List Int} {i:Nat} (h:i<=s.length):(pd s t i).length=s.length+1:=by grind[pd]
theorem Ip {s t:List Int} {i:Nat} {v:Int} (h:i<=s.length):(pd s t i).set i v=(ω i).map (sM s t)++v::δ (s.length - i) 0:=by
 unfold pd;have a:s.length+1 - i=(s.length - i)+1:=by omega
 rw[a,List.replicate_succ];simp_all
theorem QS {s t:List Int} {i:Nat} (h:i<s.length):pd s t (i+1)=(pd s t i).set i (sM s t i):=by
 rw[Ip (by omega)];unfold pd;rw[εd,γa,List.append_assoc];simp_all
theorem lX {a:List Int} {i:Nat}:bk (a.take (i+1))=bk (a.take i)+4294967296^i*bj a i 0:=by
 by_cases h:i<a.length;·grind[DF,xO]
 ·rw[DI (by omega),γo (by omega),γo (by omega)];simp
theorem Iq {s t:List Int}:∀i,bk ((ω i).map (sM s t))+4294967296^i*jc s t i=bk (s.take i)+bk (t.take i)
 |0=>by simp[jc,bk];|i+1=>by
  have a:=@Iq s t i;rw[εd,γa,π,γq,xO,lX,lX,γQ];grind[sM,jc]
theorem h154:Holds Tryz.prog Af:=by
 refine cF (L:=[rA]) Af aaX (by simpa using h152) ?_;rintro⟨a,b⟩ ⟨⟨ha,hb⟩,hla,hlb⟩;simp only at ha hb hla hlb;refine bO (let c:=(18446744073709551616:Int);let d:=(0:Int);let e:=(4294967296:Int);let f:=γh .i64;let g:=Ψ;let h:=bq.row;let j:=γZ;let m:=(↑(big (a,b)).length:Int);let q:=(↑(big (a,b)).length:Int);let r:=(↑(lW (a,b)).length:Int);let k:=bp.i .u32;let s:=g k (big (a,b));let t:=g k (lW (a,b));let v:=f m;let z:=pd (big (a,b)) (lW (a,b)) 0;let G:=∀(x:Int),let l:=pd (big (a,b)) (lW (a,b)) x.toNat;let n:=l.length;let o:=x+(1:Int);let A:=pd (big (a,b)) (lW (a,b)) o.toNat;let B:=f o;let C:=bj (big (a,b)) x.toNat d;let w:=jc (big (a,b)) (lW (a,b)) x.toNat;let y:=l.set q.toNat (w % e);let D:=λ(u u_1:Int) ↦let E:=(u % c+u_1) % c;d<=(32:Int)/\(32:Int)<=(64:Int)/\l.length=n/\d<=x/\x<(↑n:Int)/\l.length=n/\x.toNat<n/\cq .i64 o/\((s.same s/\t.same t/\(j 0 l.length 1).same (j 0 A.length 1)/\(γh .u64 (E / e)).same (γh .u64 (jc (big (a,b)) (lW (a,b)) o.toNat))/\v.same v/\B.same B/\True)/\(h k (l.set x.toNat (E % e)) 172 true).same (h k A 172 true)/\True)/\(d<=o/\o<=m)/\(m - o).toNat<(m - x).toNat;d<=x/\x<=m->(decide (x<m)=true->d<=x/\x<q/\x.toNat<(big (a,b)).length/\(decide (x<r)=true->d<=x/\x<r/\x.toNat<(lW (a,b)).length/\D (C % c+w) (bj (lW (a,b)) x.toNat d % c))/\(decide (x<r)=false->D C w))/\(decide (x<m)=false->l.length=n/\d<=q/\q<(↑n:Int)/\l.length=n/\q.toNat<n/\l.length=y.length/\y.length<=1000000000000/\(g k (bJ y)).same (g k (cK (bk a+bk b))));let F:=λ(u:Bool) (u_1 u_2:List Int) ↦let p:=(↑u_1.length:Int)+(1:Int);decide ((↑a.length:Int)<(↑b.length:Int))=u->cq .i64 p/\d<=p/\p<=p/\p*(4:Int)<=(140737488355328:Int)/\p<=(1000000000000:Int)/\((((g k u_1).same s/\(g k u_2).same t/\(j 0 p.toNat 1).same (j 0 z.length 1)/\(γx .u64 0).same (γh .u64 (jc (big (a,b)) (lW (a,b)) 0))/\(f (↑u_1.length:Int)).same v/\(γx .i64 0).same (f 0)/\True)/\(h k (d::δ u_1.length d) 172 true).same (h k z 172 true)/\True)/\d<=d/\d<=m)/\G;F true b a/\F false a b) (by kernel_rfl) ?_;simp only[vcs];have hbs:(a.length<b.length/\big (a,b)=b/\lW (a,b)=a)\/(¬a.length<b.length/\big (a,b)=a/\lW (a,b)=b):=by
  by_cases h:a.length<b.length;·exact .inl ⟨h,if_pos h,if_pos h⟩
  ·exact .inr ⟨h,if_neg h,if_neg h⟩
 generalize big (a,b)=s at*;generalize lW (a,b)=t at*;have hrow:∀{u v:List Int},u=v->(bq.row (.i .u32) u 172 true).same (bq.row (.i .u32) v 172 true):=by rintro _ _ rfl;rfl
 have how:∀{u v:Nat},u=v->(γZ 0 u 1).same (γZ 0 v 1):=by rintro _ _ rfl;rfl
 have r0:∀u v:List Int,pd u v 0=0::δ u.length 0:=λu v=>rfl;refine⟨λh=>?_,λh=>?_⟩
 ·obtain⟨h1,e1,e2⟩:a.length<b.length/\s=b/\t=a:=by
   rcases hbs with h2|h2;·exact h2
   ·exact absurd (by omega) h2.1
  subst e1 e2;have hS:bA s:=by assumption
  have hT:bA t:=by assumption
  have hts:t.length<=s.length:=by omega
  have bd:=Io hS hT;refine⟨⟨by omega,by omega⟩,by omega,by omega,by omega,by omega,⟨⟨⟨rfl,rfl,how (by rw[xT (by omega)];omega),rfl,rfl⟩,hrow (r0 s t).symm⟩,by omega,by omega⟩,?_⟩;rintro i ⟨i0,i1⟩;have l1:=@xT s t i.toNat (by omega);have b1:=bd i.toNat;have d1:=ek hS i.toNat;have d2:=ek hT i.toNat;refine⟨λlY=>?_,λnA=>?_⟩
  ·have l2:=@xT s t (i.toNat+1) (by omega);have e:(i+1).toNat=i.toNat+1:=by omega
   have hst:=QS (s:=s) (t:=t) (show i.toNat<s.length by omega);refine⟨i0,lY,by omega,λht=>?_,λht=>?_⟩
   ·have hv:(((bj s i.toNat 0 % 18446744073709551616+jc s t i.toNat) % 18446744073709551616+bj t i.toNat 0 % 18446744073709551616) % 18446744073709551616)=bj s i.toNat 0+jc s t i.toNat+bj t i.toNat 0:=by omega
    rw[hv,e];exact⟨i0,ht,by omega,by omega,by omega,i0,by omega,by omega,by omega,⟨⟨how (by omega),rfl⟩,hrow hst.symm⟩,by omega,by omega⟩
   ·have hz:=DI (a:=t) (i:=i.toNat) (by omega);have hv:((bj s i.toNat 0 % 18446744073709551616+jc s t i.toNat) % 18446744073709551616)=bj s i.toNat 0+jc s t i.toNat+bj t i.toNat 0:=by omega
    rw[hv,e];exact⟨by omega,by omega,i0,by omega,by omega,by omega,⟨⟨how (by omega),rfl⟩,hrow hst.symm⟩,by omega,by omega⟩
  ·have hi:i.toNat=s.length:=by omega
   have hc:jc s t i.toNat % 4294967296=jc s t i.toNat:=by omega
   rw[hc,γl,hi];rw[hi] at l1 b1;refine⟨by omega,by omega,by omega,by simp,by simp;omega,?_⟩;rw[Ip (ξ _),Nat.sub_self,ε1,qy ?_]
   ·rw[xO];have hv:=@Iq s t s.length;rw[ψ,γo hts] at hv;have hl:((ω s.length).map (sM s t)).length=s.length:=by simp
    rw[hl,hv];try rw[ζF]
   ·intro d hd;rcases γk.1 hd with hd|hd
    ·obtain⟨j,_,rfl⟩:=Ω.1 hd;unfold sM;omega
    ·rw[δw] at hd;omega
 ·obtain⟨h1,e1,e2⟩:¬a.length<b.length/\s=a/\t=b:=by
   rcases hbs with h2|h2;·exact absurd h2.1 (by omega)
   ·exact h2
  subst e1 e2;have hS:bA s:=by assumption
  have hT:bA t:=by assumption
  have hts:t.length<=s.length:=by omega
  have bd:=Io hS hT;refine⟨⟨by omega,by omega⟩,by omega,by omega,by omega,by omega,⟨⟨⟨rfl,rfl,how (by rw[xT (by omega)];omega),rfl,rfl⟩,hrow (r0 s t).symm⟩,by omega,by omega⟩,?_⟩;rintro i ⟨i0,i1⟩;have l1:=@xT s t i.toNat (by omega);have b1:=bd i.toNat;have d1:=ek hS i.toNat;have d2:=ek hT i.toNat;refine⟨λlY=>?_,λnA=>?_⟩
  ·have l2:=@xT s t (i.toNat+1) (by omega);have e:(i+1).toNat=i.toNat+1:=by omega
   have hst:=QS (s:=s) (t:=t) (show i.toNat<s.length by omega);refine⟨i0,lY,by omega,λht=>?_,λht=>?_⟩
   ·have hv:(((bj s i.toNat 0 % 18446744073709551616+jc s t i.toNat) % 18446744073709551616+bj t i.toNat 0 % 18446744073709551616) % 18446744073709551616)=bj s i.toNat 0+jc s t i.toNat+bj t i.toNat 0:=by omega
    rw[hv,e];exact⟨i0,ht,by omega,by omega,by omega,i0,by omega,by omega,by omega,⟨⟨how (by omega),rfl⟩,hrow hst.symm⟩,by omega,by omega⟩
   ·have hz:=DI (a:=t) (i:=i.toNat) (by omega);have hv:((bj s i.toNat 0 % 18446744073709551616+jc s t i.toNat) % 18446744073709551616)=bj s i.toNat 0+jc s t i.toNat+bj t i.toNat 0:=by omega
    rw[hv,e];exact⟨by omega,by omega,i0,by omega,by omega,by omega,⟨⟨how (by omega),rfl⟩,hrow hst.symm⟩,by omega,by omega⟩
  ·have hi:i.toNat=s.length:=by omega
   have hc:jc s t i.toNat % 4294967296=jc s t i.toNat:=by omega
   rw[hc,γl,hi];rw[hi] at l1 b1;refine⟨by omega,by omega,by omega,by simp,by simp;omega,?_⟩;rw[Ip (ξ _),Nat.sub_self,ε1,qy ?_]
   ·rw[xO];have hv:=@Iq s t s.length;rw[ψ,γo hts] at hv;have hl:((ω s.length).map (sM s t)).length=s.length:=by simp
    rw[hl,hv];try rw[ζF]
   ·intro d hd;rcases γk.1 hd with hd|hd
    ·obtain⟨j,_,rfl⟩:=Ω.1 hd;unfold sM;omega
    ·rw[δw] at hd;omega
def gY (d:Int):List Int->List Int×Int
 |[]=>([],0)
 |x::l=>(((gY d l).2*4294967296+x) / d::(gY d l).1,((gY d l).2*4294967296+x) % d)
theorem QT {d:Int}:∀{a:List Int},(gY d a).1.length=a.length
 |[]=>rfl
 |x::l=>by simp[gY,QT]
theorem DJ {d:Int} (e:0<d) (k:d<4294967296):∀{a:List Int},bA a->bA (gY d a).1/\(0<=(gY d a).2/\(gY d a).2<d)/\bk (gY d a).1*d+(gY d a).2=bk a
 |[],_=>by grind[gY,bk];|x::l,h=>by
  obtain⟨n,g⟩:=jq.1 h;obtain⟨j,⟨p,s⟩,o⟩:=DJ e k g;simp only[gY];generalize (gY d l).1=q at*;generalize (gY d l).2=r at*;have f:=δK (r*4294967296+x) (show d≠0 by omega);have i:=δn (r*4294967296+x) e;have c:0<=(r*4294967296+x) / d:=Int.ediv_nonneg (by omega) (by omega);have b:(r*4294967296+x) / d<4294967296:=by
   refine Int.ediv_lt_of_lt_mul e ?_;omega
  refine⟨jq.2 ⟨⟨c,b⟩,j⟩,⟨f,i⟩,?_⟩;simp only[bk];have m:=Int.mul_ediv_add_emod (r*4294967296+x) d;grind
theorem aaY {d:Int} (i:0<d) (h:d<4294967296) {a:List Int} (g:bA a):bJ (gY d a).1=cK (bk a / d)/\(gY d a).2=bk a % d:=by
 obtain⟨e,⟨c,b⟩,f⟩:=DJ i h g;rw[qy e];have j:=fi e;have k:bk a / d=bk (gY d a).1:=by
  rw[<-f,ζF,Int.add_mul_ediv_right _ _ (by omega),εJ c b,Int.zero_add]
 have l:bk a % d=(gY d a).2:=by
  rw[<-f,ζF,Int.add_mul_emod_self_right,δI c b]
 simp_all
theorem Is {r x:Int} (d:0<=r) (g:r<4294967296) (a:0<=x) (e:x<4294967296):gX.nW .u64 (r*4294967296) x=r*4294967296+x:=by
 obtain⟨m,rfl⟩:=δD d;obtain⟨k,rfl⟩:=δD a;have b:(γn 64 ((m:Int)*4294967296)).toNat=2^32*m:=by
  grind[BitVec.toNat_ofInt]
 have c:(γn 64 (k:Int)).toNat=k:=by
  grind
 have f:(γn 64 ((m:Int)*4294967296) |||γn 64 (k:Int)).toNat=2^32*m+k:=by
  rw[BitVec.toNat_or,b,c,Nat.two_pow_add_eq_or_of_lt (by omega)]
 show eX .u64 ((γn 64 ((m:Int)*4294967296) |||γn 64 (k:Int)).toNat:Nat)=_;grind[tJ,IntKind.wrap,IntKind.bits,IntKind.signed]
def Iu:bM:=⟨186,List Int×Int,.cons (dF (.i .u32)) (.one (eZ .u32)),λa=>bA a.1/\a.1.length<=100000000000/\0<a.2/\a.2<4294967296,λa=> .bI [.row (.i .u32) (cK (bk a.1 / a.2)),.si .u32 (bk a.1 % a.2)]⟩
def lZ (a:List Int) (d:Int) (i:Nat):List Int:=δ (a.length - i) 0++(gY d (a.drop (a.length - i))).1
def lF (a:List Int) (d:Int) (i:Nat):Int:=(gY d (a.drop (a.length - i))).2
def aaZ (a:List Int×Int):Nat->cE
 |4=> .inv Int (λi=>⟨[(0,.row (.i .u32) a.1),(1,.si .u32 a.2),(6,.ow 0 (lZ a.1 a.2 i.toNat).length 1),(7,.si .u64 (lF a.1 a.2 i.toNat)),(15,.si .i64 a.1.length),(16,.si .i64 i)],[.row (.i .u32) (lZ a.1 a.2 i.toNat) 172 true]⟩) (λs=>iS s 16)
  (λi=>0<=i/\i<=a.1.length) (λi=>(a.1.length - i).toNat) λ_ _=> .look
 |_=> .look
theorem Iw {a:List Int} {d:Int} {i:Nat} (h:i<=a.length):(lZ a d i).length=a.length:=by
 grind[lZ,QT]
theorem drop_cons {a:List Int} {k:Nat} (h:k<a.length):a.drop k=bj a k 0::a.drop (k+1):=DG h
theorem QU {q:List Int} {y:Int}:∀k,(δ (k+1) 0++q).set k y=δ k 0++y::q
 |0=>by simp;|k+1=>by
  have:=@QU q y k;grind
theorem u64_in {n:Int} (b:0<=n) (a:n<18446744073709551616):cq .u64 n:=by
 show IntKind.u64.wrap n=n;grind[IntKind.wrap,IntKind.bits,IntKind.signed]
theorem h167:Holds Tryz.prog Iu:=by
 refine cF (L:=[rA]) Iu aaZ (by simpa using h152) ?_;rintro⟨a,d⟩ ⟨ha,hla,d0,d1⟩;simp only at ha hla d0 d1;refine bO (let b:=(0:Int);let c:=(18446744073709551616:Int);let e:=(4294967296:Int);let f:=γh .i64;let g:=Ψ;let h:=bq.row;let j:=cq .i64;let k:=(1:Int);let l:=γZ;let n:=(↑a.length:Int);let o:=bp.i .u32;let q:=(↑a.length:Int);let t:=f q;let s:=d % c;b<=n/\n<=n/\n*(4:Int)<=(140737488355328:Int)/\n<=(1000000000000:Int)/\((((g o a).same (g o a)/\(γh .u32 d).same (γh .u32 d)/\(l 0 n.toNat 1).same (l 0 (lZ a d 0).length 1)/\(γx .u64 0).same (γh .u64 (lF a d 0))/\(f n).same t/\(γx .i64 0).same (f 0)/\True)/\(h o (δ n.toNat b) 172 true).same (h o (lZ a d 0) 172 true)/\True)/\b<=b/\b<=q)/\∀(x:Int),let p:=n - k - x;let u:=gX.nW .u64 (lF a d x.toNat*e % c) (bj a p.toNat b % c);let m:=lZ a d x.toNat;let r:=x+k;let v:=f r;b<=x/\x<=q->(decide (x<q)=true->j (n - k)/\j p/\b<=(32:Int)/\(32:Int)<=(64:Int)/\b<=p/\p<n/\p.toNat<a.length/\s≠b/\cq .u64 (u.tdiv s)/\s≠b/\m.length=m.length/\b<=p/\p<(↑m.length:Int)/\m.length=m.length/\p.toNat<m.length/\j r/\(((g o a).same (g o a)/\(γh .u32 d).same (γh .u32 d)/\(l 0 m.length 1).same (l 0 (lZ a d r.toNat).length 1)/\(γh .u64 (u.tmod s)).same (γh .u64 (lF a d r.toNat))/\t.same t/\v.same v/\True)/\(h o (m.set p.toNat (u.tdiv s % e)) 172 true).same (h o (lZ a d r.toNat) 172 true)/\True)/\(b<=r/\r<=q)/\(q - r).toNat<(q - x).toNat)/\(decide (x<q)=false->m.length=m.length/\m.length<=1000000000000/\(SV.bI [g o (bJ m),γh .u32 (lF a d x.toNat % e)]).same (SV.bI [g o (cK (bk a / d)),γh .u32 (bk a % d)]))) (by kernel_rfl) ?_;simp only[vcs];have hrow:∀{u v:List Int},u=v->(bq.row (.i .u32) u 172 true).same (bq.row (.i .u32) v 172 true):=by rintro _ _ rfl;rfl
 have how:∀{u v:Nat},u=v->(γZ 0 u 1).same (γZ 0 v 1):=by rintro _ _ rfl;rfl
 have z1:lZ a d 0=δ a.length 0:=by simp[lZ,gY]
 have z2:lF a d 0=0:=by simp[lF,gY]
 refine⟨by omega,by omega,by omega,by omega,⟨⟨⟨how (by rw[Iw (by omega)];omega),z2.symm⟩,hrow (by rw[z1,γl])⟩,by omega,by omega⟩,?_⟩;rintro i ⟨i0,i1⟩;have l1:=@Iw a d i.toNat (by omega);have l2:=λh=>@Iw a d (i+1).toNat h;have dd:d % 18446744073709551616=d:=by omega
 refine⟨λlY=>?_,λnA=>?_⟩
 ·have hx:((a.length:Int) - 1 - i).toNat=a.length - 1 - i.toNat:=by omega
  have hk1:a.length - i.toNat=a.length - 1 - i.toNat+1:=by omega
  have hk2:a.length - (i+1).toNat=a.length - 1 - i.toNat:=by omega
  have hR:lZ a d i.toNat=δ (a.length - 1 - i.toNat+1) 0++(gY d (a.drop (a.length - 1 - i.toNat+1))).1:=by unfold lZ;rw[hk1]
  have hC:lF a d i.toNat=(gY d (a.drop (a.length - 1 - i.toNat+1))).2:=by unfold lF;rw[hk1]
  have hR2:lZ a d (i+1).toNat=δ (a.length - 1 - i.toNat) 0++(gY d (a.drop (a.length - 1 - i.toNat))).1:=by unfold lZ;rw[hk2]
  have hC2:lF a d (i+1).toNat=(gY d (a.drop (a.length - 1 - i.toNat))).2:=by unfold lF;rw[hk2]
  have hlt:a.length - 1 - i.toNat<a.length:=by omega
  rw[hx];have l3:=l2 (by omega);generalize a.length - 1 - i.toNat=k at*;have hdr:=drop_cons hlt;have hdig:bA (a.drop k):=λz hz=>ha z (γS hz);obtain⟨q1,q2,q3⟩:=DJ d0 d1 (a:=a.drop (k+1)) (λz hz=>ha z (γS hz));obtain⟨p1,p2,p3⟩:=DJ d0 d1 hdig;rw[hdr] at hR2 hC2 p1 p2;simp only[gY] at hR2 hC2 p1 p2;have hxd:=ek ha k;rw[<-hC] at hR2 hC2 p1 p2 q2;have e1:lF a d i.toNat*4294967296 % 18446744073709551616=lF a d i.toNat*4294967296:=by omega
  have e2:bj a k 0 % 18446744073709551616=bj a k 0:=by omega
  rw[e1,e2,dd,Is (by omega) (by omega) hxd.1 hxd.2];have hv0:0<=lF a d i.toNat*4294967296+bj a k 0:=by omega
  rw[Int.tdiv_eq_ediv_of_nonneg hv0,Int.tmod_eq_emod_of_nonneg hv0];have hq:=(jq.1 p1).1;have hqm:(lF a d i.toNat*4294967296+bj a k 0) / d % 4294967296=(lF a d i.toNat*4294967296+bj a k 0) / d:=δI hq.1 hq.2;rw[hqm];refine⟨by omega,by omega,by omega,by omega,by omega,by omega,by omega,by omega,u64_in hq.1 (by omega),by omega,by omega,by omega,by omega,by omega,⟨⟨how (by omega),hC2.symm⟩,hrow ?_⟩,by omega,by omega⟩;rw[hR2,hR,QU]
 ·have hi:a.length - i.toNat=0:=by omega
  have hR:lZ a d i.toNat=(gY d a).1:=by unfold lZ;rw[hi];simp
  have hC:lF a d i.toNat=(gY d a).2:=by unfold lF;rw[hi];simp
  obtain⟨k1,k2⟩:=aaY d0 d1 ha;have hm:=δK (bk a) (show d≠0 by omega);have hl:=δn (bk a) d0;refine⟨by omega,by rw[hR,k1],?_⟩;rw[hC,k2];omega
def ix:Nat->Int->List Int
 |0,_=>[]
 |k+1,x=>x % 4294967296::ix k (x / 4294967296)
theorem Ag:∀{k:Nat} {x:Int},(ix k x).length=k
 |0,_=>rfl
 |k+1,x=>by simp[ix,Ag]
theorem Ix:∀{k:Nat} {x:Int},bA (ix k x)
 |0,_=>by simp[ix,bA];|k+1,x=>jq.2 ⟨by omega,Ix⟩
theorem QV:∀{l:List Int},bA l->ix l.length (bk l)=l
 |[],_=>rfl
 |d::l,h=>by
  obtain⟨e,b⟩:=jq.1 h;simp only[γE,ix,bk];have c:(d+4294967296*bk l) % 4294967296=d:=by omega
  have a:(d+4294967296*bk l) / 4294967296=bk l:=by omega
  rw[c,a,QV b]
theorem Iy {l:List Int} {k:Nat} {x:Int} (h:bA l) (b:l.length=k) (a:bk l=x):l=ix k x:=by
 grind[QV]
theorem pow_pos (k:Nat):(0:Int)<4294967296^k:=Int.pow_pos (by decide)
theorem Iz:∀{k:Nat} {x:Int},0<=x->x<4294967296^k->bk (ix k x)=x
 |0,x,b,a=>by grind[ix,bk];|k+1,x,b,a=>by
  rw[γQ] at a;simp only[ix,bk];rw[Iz (k:=k) (x:=x / 4294967296) (by omega) (by omega)];omega
theorem IA:∀{a b:List Int},bk (a++b)=bk a+4294967296^a.length*bk b
 |[],b=>by simp[bk];|d::l,b=>by
  simp only[γG,bk,IA,γE,γQ,εv];grind
theorem ui:∀{l:List Int} {j:Nat} {v:Int},j<l.length->bk (l.set j v)=bk l+4294967296^j*(v - bj l j 0)
 |[],_,_,h=>by simp at h;|d::l,0,v,_=>by grind[bk,bj];|d::l,j+1,v,h=>by
  have a:=@ui l j v (by simpa using h);grind[bj,bk]
theorem nB {l:List Int} {j:Nat} {v:Int} (h:bA l) (c:0<=v) (b:v<4294967296):bA (l.set j v):=by
 intro d a;rcases List.mem_or_eq_of_mem_set a with a|rfl;·exact h d a
 omega
theorem Ah {a:List Int} (h:bA a) (n:Nat):bA (a.drop n):=λd b=>h d (γS b)
theorem QW {a b:List Int} (e:bA a) (c:bA b):bA (a++b):=λd f=>by
 rcases γk.1 f with h|h;·exact e d h
 ·exact c d h
theorem sN {l:List Int} {j:Nat} {v:Int} (h:j<l.length):bj (l.set j v) j 0=v:=by
 grind[bj]
theorem pO {l:List Int} {i j:Nat} {v:Int} (h:i≠j):bj (l.set i v) j 0=bj l j 0:=by
 grind[bj]
theorem Ai:∀{l:List Int} {i j:Nat},bA l->bk l<4294967296^i->i<=j->bj l j 0=0
 |[],_,_,_,_,_=>by simp[bj];|d::l,0,j,h,a,c=>by
  obtain⟨e,b⟩:=jq.1 h;have:=fi b;simp only[bk,Int.pow_zero] at a;have f:d=0:=by omega
  have g:bk l=0:=by omega
  cases j with
  |zero=>simp[bj,f];|succ j=>
   have:=Ai (l:=l) (i:=0) (j:=j) b (by simp;omega) (by omega);grind[bj]
 |d::l,i+1,j,h,a,c=>by
  obtain⟨e,b⟩:=jq.1 h;cases j with
  |zero=>omega;|succ j=>
   rw[γQ] at a;simp only[bk] at a;have:=Ai (l:=l) (i:=i) (j:=j) b (by omega) (by omega);grind[bj]
def iy (o b:List Int) (x:Int) (i:Nat):Nat->List Int×Int
 |0=>(o,0)
 |k+1=>((iy o b x i k).1.set (i+k) ((x*bj b k 0+bj (iy o b x i k).1 (i+k) 0+(iy o b x i k).2) % 4294967296),(x*bj b k 0+bj (iy o b x i k).1 (i+k) 0+(iy o b x i k).2) / 4294967296)
theorem QX {o b:List Int} {x:Int} {i:Nat} (d:bA o) (g:bA b) (f:0<=x) (m:x<4294967296):∀{k:Nat},i+k<=o.length->
  bA (iy o b x i k).1/\(iy o b x i k).1.length=o.length/\(0<=(iy o b x i k).2/\(iy o b x i k).2<4294967296)/\(∀j,i+k<=j->bj (iy o b x i k).1 j 0=bj o j 0)/\
  bk (iy o b x i k).1+4294967296^(i+k)*(iy o b x i k).2=bk o+4294967296^i*(x*bk (b.take k))
 |0,h=>by simp[iy,d,bk];|k+1,h=>by
  obtain⟨l,t,⟨v,s⟩,u,r⟩:=@QX o b x i d g f m k (by omega);simp only[iy];generalize (iy o b x i k).1=p at*;generalize (iy o b x i k).2=c at*;have a:=ek g k;have q:=ek l (i+k);have n:0<=x*bj b k 0:=γt f a.1;have e:x*bj b k 0<=4294967295*4294967295:=δE (by omega) (by omega) a.1 (by omega);grind[nB,ui,lX,bj]
def prt (U:List Int) (j k:Nat):List Int:=(U.drop j).take k
theorem QY {U:List Int} {j k:Nat}:bj (U.drop j) k 0=bj U (j+k) 0:=by
 grind[bj]
theorem l8 {U:List Int} {j k:Nat}:bk (prt U j (k+1))=bk (prt U j k)+4294967296^k*bj U (j+k) 0:=by
 grind[prt,lX,QY]
theorem uj {U:List Int} {j k i:Nat} {d:Int} (h:k<=i):prt (U.set (j+i) d) j k=prt U j k:=by
 unfold prt;apply List.ext_getElem?;grind
theorem uk {U:List Int} (h:bA U) {j k:Nat}:bA (prt U j k):=nz (Ah h j) k
theorem aa0 {U:List Int} {j k:Nat} (h:j+k<=U.length):(prt U j k).length=k:=by
 grind[prt]
theorem vS {U:List Int} (h:bA U) {j k:Nat}:bk (prt U j k)<4294967296^k:=by
 have g:=ot (uk h (j:=j) (k:=k));have e:(prt U j k).length<=k:=by grind[prt]
 have i:(4294967296:Int)^(prt U j k).length<=4294967296^k:=by
  have d:∀{a b:Nat},a<=b->(4294967296:Int)^a<=4294967296^b:=λ{a b} c=>by
   obtain⟨m,rfl⟩:=Nat.exists_eq_add_of_le c;rw[Int.pow_add];have f:=pow_pos a;have l:=pow_pos m;have:=Ξ (show(1:Int)<=4294967296^m by omega) (γe f);omega
  exact d e
 omega
def jr (U:List Int) (j:Nat) (l:List Int):List Int:=U.take j++(l++U.drop (j+l.length))
theorem aa1 {a b:List Int} (c:a.length=b.length) (h:∀m,bj a m 0=bj b m 0):a=b:=by
 apply List.ext_getElem c;intro m d e;have:=h m;grind[cY]
theorem QZ {U l:List Int} {j:Nat} (h:j+l.length<=U.length):(jr U j l).length=U.length:=by
 grind[jr]
theorem aa2 {U l:List Int} {j m:Nat} (h:j+l.length<=U.length):bj (jr U j l) m 0=if m<j then bj U m 0 else if m<j+l.length then bj l (m - j) 0 else bj U m 0:=by
 unfold jr bj;grind
theorem xU {U W:List Int} {j k:Nat} {x:Int} (d:bA W) (f:W.length=U.length) (g:j+k<=U.length) (e:∀m,(m<j\/j+k<=m)->bj W m 0=bj U m 0) (a:bk (prt W j k)=x):W=jr U j (ix k x):=by
 have b:prt W j k=ix k x:=Iy (uk d) (aa0 (by omega)) a;have c:=@Ag k x;apply aa1;·grind[QZ]
 ·intro m;rw[aa2 (by omega),c];split;·simp_all
  ·split
   ·rw[<-b];unfold prt;have:bj ((W.drop j).take k) (m - j) 0=bj (W.drop j) (m - j) 0:=by
     unfold bj;grind
    grind[QY]
   simp_all
section
variable {P V X v1 v2 u2 top rv ru g r:Int}
theorem aa3 (e:0<P) (n:V=rv+P*(v2+4294967296*v1)) (l:X=ru+P*(u2+4294967296*top)) (a:0<=rv) (f:ru<P) (d:X<4294967296*V) (b:0<=V)
  (c:0<=g) (j:g*v1+r=top) (h:4294967296<=g\/r*4294967296+u2<g*v2):X<g*V:=by
 rcases h with h|h;·exact Int.lt_of_lt_of_le d (γR h b)
 ·have k:g*V=g*rv+P*(g*v2+4294967296*(top - r)):=by
   grind
  have i:P*(u2+1+4294967296*top)<=P*(g*v2+4294967296*(top - r)):=Ξ (by omega) (γe e);have m:0<=g*rv:=γt c a;grind
theorem Q0 (c:0<P) (k:V=rv+P*(v2+4294967296*v1)) (n:X=ru+P*(u2+4294967296*top)) (a:0<=rv) (b:rv<P) (f:0<=ru) (e:2147483648<=v1) (j:0<=v2)
  (i:0<=g) (d:g<4294967296) (o:g*v1+r=top) (h:g*v2<=r*4294967296+u2):g*V<X+V:=by
 have m:g*V=g*rv+P*(g*v2+4294967296*(top - r)):=by
  grind
 have q:P*(g*v2+4294967296*(top - r))<=P*(u2+4294967296*top):=Ξ (by omega) (γe c);have p:g*rv<=4294967295*rv:=γR (by omega) a;have l:P*4294967296<=P*(v2+4294967296*v1):=Ξ (by omega) (γe c);omega
theorem aa4 (c:0<P) (p:V=rv+P*(v2+4294967296*v1)) (k:X=ru+P*(u2+4294967296*top)) (b:0<=rv) (e:ru<P) (a:0<=v2) (f:u2<4294967296)
  (d:0<=g) (o:g*v1+r=top) (l:r<v1):X<(g+1)*V:=by
 have n:(g+1)*V=(g+1)*rv+((g+1)*(P*v2)+P*(4294967296*((g+1)*v1))):=by
  grind
 have j:0<=(g+1)*rv:=γt (by omega) b;have h:0<=(g+1)*(P*v2):=γt (by omega) (γt (γe c) a);have i:top+1<=(g+1)*v1:=by grind
 have m:P*(u2+1+4294967296*top)<=P*(4294967296*((g+1)*v1)):=Ξ (by omega) (γe c);grind
theorem aa5 {b a:Int} (c:0<P) (l:V=rv+P*(v2+4294967296*v1)) (k:X=ru+P*(u2+4294967296*(b+4294967296*a))) (d:rv<P) (f:0<=ru) (e:0<=u2) (i:0<=b) (j:v2<4294967296)
  (g:X<4294967296*V):a<=v1:=by
 by_cases h:a<=v1;·exact h
 ·exfalso;have m:P*(4294967296*(4294967296*(v1+1)))<=P*(u2+4294967296*(b+4294967296*a)):=Ξ (by omega) (γe c);have n:P*(v2+4294967296*v1)<=P*(4294967296*(v1+1) - 1):=Ξ (by omega) (γe c);grind
theorem vT {X V q:Int} (e:q*V<=X) (c:X<(q+1)*V):X / V=q/\X % V=X - q*V:=by
 rw[Int.add_mul,Int.one_mul] at c;have d:0<V:=by omega
 have b:X=(X - q*V)+V*q:=by grind
 have a:X / V=q:=by
  conv=>lhs;rw[b]
  rw[Int.add_mul_ediv_left _ _ (by omega),εJ (by omega) (by omega),Int.zero_add]
 refine⟨a,?_⟩;rw[Int.emod_def,a,Int.mul_comm]
end
theorem IB {p:Int} (a:0<=p) (e:p<18446744073709551616):gX.vy .u64 p 4294967295=p % 4294967296:=by
 obtain⟨m,rfl⟩:=δD a;have b:(γn 64 ((m:Nat):Int)).toNat=m:=by grind
 have c:(γn 64 4294967295).toNat=4294967295:=by simp_all
 have d:(γn 64 ((m:Nat):Int) &&&γn 64 4294967295).toNat=m % 4294967296:=by
  rw[BitVec.toNat_and,b,c];exact Nat.and_two_pow_sub_one_eq_mod m 32
 show eX .u64 ((γn 64 ((m:Nat):Int) &&&γn 64 4294967295).toNat:Nat)=_;grind[tJ,IntKind.wrap,IntKind.bits]
theorem IC {U W v:List Int} {j i:Nat} {g c b d e:Int} (n:bA W) (f:W.length=U.length) (o:bA v) (h:0<=g) (r:g<4294967296) (y:0<=c) (t:c<4294967296) (s:0<=b) (q:b<=1) (u:j+i<U.length)
  (l:∀m,(m<j\/j+i<=m)->bj W m 0=bj U m 0)
  (k:bk (prt W j i)=bk (prt U j i) - g*bk (v.take i)+4294967296^i*(c+b))
  (a:0<=d/\d<4294967296) (w:d - 4294967296*e=bj W (j+i) 0 - (g*bj v i 0+c) % 4294967296 - b):
  bA (W.set (j+i) d)/\(W.set (j+i) d).length=U.length/\(0<=(g*bj v i 0+c) / 4294967296/\(g*bj v i 0+c) / 4294967296<4294967296)/\
  (∀m,(m<j\/j+(i+1)<=m)->bj (W.set (j+i) d) m 0=bj U m 0)/\
  bk (prt (W.set (j+i) d) j (i+1))=bk (prt U j (i+1)) - g*bk (v.take (i+1))+4294967296^(i+1)*((g*bj v i 0+c) / 4294967296+e):=by
 have x:=ek o i;have z:0<=g*bj v i 0:=γt h x.1;have p:g*bj v i 0<=4294967295*4294967295:=δE (by omega) (by omega) x.1 (by omega);refine⟨nB n a.1 a.2,by simp[f],by omega,λm A=>by grind[pO],?_⟩;have B:=l (j+i) (.inr (ξ _));rw[l8,l8,uj (ξ _),sN (by omega),k,lX,γQ];grind
theorem IE {U W v:List Int} {j i:Nat} {c s:Int} (a:bA W) (d:W.length=U.length) (b:bA v) (n:0<=c) (l:c<=1) (h:j+i<U.length) (g:bA U)
  (e:∀m,(m<j\/j+i<=m)->bj W m 0=bj U m 0)
  (k:bk (prt W j i)+4294967296^i*c=bk (prt U j i)+bk (v.take i)) (o:s=bj W (j+i) 0+bj v i 0+c):
  bA (W.set (j+i) (s % 4294967296))/\(W.set (j+i) (s % 4294967296)).length=U.length/\(0<=s / 4294967296/\s / 4294967296<=1)/\
  (∀m,(m<j\/j+(i+1)<=m)->bj (W.set (j+i) (s % 4294967296)) m 0=bj U m 0)/\
  bk (prt (W.set (j+i) (s % 4294967296)) j (i+1))+4294967296^(i+1)*(s / 4294967296)=bk (prt U j (i+1))+bk (v.take (i+1)):=by
 have x:=ek b i;have y:=ek a (j+i);refine⟨nB a (by omega) (by omega),by simp[d],by omega,λm p=>by grind[pO],?_⟩;have f:=e (j+i) (.inr (ξ _));rw[l8,l8,uj (ξ _),sN (by omega),lX,γQ];grind
theorem aa6 {v:List Int} {n:Nat} (a:2<=n) (b:v.length=n):bk v=bk (v.take (n - 2))+4294967296^(n - 2)*(bj v (n - 2) 0+4294967296*bj v (n - 1) 0):=by
 obtain⟨m,rfl⟩:∃m,n=m+2:=⟨n - 2,by omega⟩;grind[lX]
theorem aa7 {U:List Int} {j n:Nat} (a:2<=n):bk (prt U j (n+1))=bk (prt U j (n - 2))+4294967296^(n - 2)*(bj U (j+(n - 2)) 0+4294967296*(bj U (j+(n - 1)) 0+4294967296*bj U (j+n) 0)):=by
 obtain⟨m,rfl⟩:∃m,n=m+2:=⟨n - 2,by omega⟩;grind[l8]
end Go.Vi
