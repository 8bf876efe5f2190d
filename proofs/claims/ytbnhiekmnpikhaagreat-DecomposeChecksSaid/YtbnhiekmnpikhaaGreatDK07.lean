/-
  Contracts: the reference's problem.
  Conditions: none.
-/
import Derived.Test.YtbnhiekmnpikhaaGreatDK06
import Derived.KernelRfl
set_option maxRecDepth 100000
set_option maxHeartbeats 4000000
set_option linter.all false
open BitVec renaming ofInt->γn
open Go.Vi.SV renaming si->γi,il->γy,row->Ω,ow->γ1
open Int renaming toNat_natCast->γl,le_trans->ζe,pow_succ->γP,mul_add->εx,add_comm->ζG,emod_nonneg->δx,emod_lt_of_pos->δh,ediv_eq_zero_of_lt->εL,emod_eq_of_lt->δJ,eq_ofNat_of_zero_le->δE,mul_nonneg->γu,mul_le_mul->δF,mul_le_mul_of_nonneg_left->Ξ,le_of_lt->γe,mul_le_mul_of_nonneg_right->γQ
open List renaming take->ω,mem_of_mem_take->γm,take_length->ψ,drop->γU,mem_singleton->δy,mem_map->Ψ,map_append->γa,map_cons->π,map_nil->γr,drop_length->δR,cons_append->γG,length_cons->γE,range->Γ,mem_filter->γt,foldl_cons->εb,mem_cons->γz,mem_append->γk,nodup_cons->γX,pairwise_cons->γA,all_eq_true->φ,mem_range->γx,filter_sublist->γO,getElem?_cons_succ->γK,map_map->γ3,replicate->δ,range_succ->εf,take_of_length_le->γo,replicate_zero->ε2,drop_of_length_le->δ9,mem_of_mem_drop->γR
open List.Nodup renaming sublist->ζU
open Nat renaming le_refl->ξ
open Option renaming isSome_iff_exists->γp
namespace Go.Vi
open Go.Proofs.YtbnhiekmnpikhaaGreat.Ir
open Go.Proofs
def H3:bM:=⟨40,bC,.one (eh .fi),λ_=>True,λb=> .sb b.ok⟩
theorem h68:Holds Tryz.prog H3:=by
 refine cH (L:=[]) H3 (λ_ _=> .qu 7) (by simp) ?_;intro b _;refine bR (let h:=SV.bl false;let o:=SV.sb;let p:=(0:Int);let q:=(4:Int);let i:=decide (b.a0<p);let d:=decide (q<b.a0);let k:=decide (b.a1<p);let e:=decide (q<b.a1);let l:=decide (b.a2<p);let f:=decide (q<b.a2);let j:=decide (b.a3<p);let m:=decide (q<b.a3);let n:=decide (b.a4<p);let g:=decide (q<b.a4);let a:=decide (b.a5<p);let c:=decide (q<b.a5);(i=true->(h).same (o (bC.ok b)))/\(i=false->(d=true->(h).same (o (bC.ok b)))/\(d=false->(k=true->(h).same (o (bC.ok b)))/\(k=false->(e=true->(h).same (o (bC.ok b)))/\(e=false->(l=true->(h).same (o (bC.ok b)))/\(l=false->(f=true->(h).same (o (bC.ok b)))/\(f=false->(j=true->(h).same (o (bC.ok b)))/\(j=false->(m=true->(h).same (o (bC.ok b)))/\(m=false->(n=true->(h).same (o (bC.ok b)))/\(n=false->(g=true->(h).same (o (bC.ok b)))/\(g=false->(a=true->(h).same (o (bC.ok b)))/\(a=false->(c=true->(h).same (o (bC.ok b)))/\(c=false->(SV.bl true).same (o (bC.ok b))))))))))))))) (by kernel_rfl) ?_;conv=>zeta
 have o:=@bC.ja b;by_cases h:b.ok=true<;>simp_all
def qC (p:bn) (r:Int) (o:Off):Int:=
 if r - p.classes.length<0 then(if o.bX=r then 1 else 0)
 else if r - p.classes.length<6 then bj [o.want.a0,o.want.a1,o.want.a2,o.want.a3,o.want.a4,o.want.a5] (r - p.classes.length).toNat 0
 else if bj [p.cls.a0,p.cls.a1,p.cls.a2,p.cls.a3,p.cls.a4,p.cls.a5] (r - p.classes.length - 6).toNat 0=0\/p.classes.length<=o.bX\/bj [p.cls.a0,p.cls.a1,p.cls.a2,p.cls.a3,p.cls.a4,p.cls.a5] (r - p.classes.length - 6).toNat 0=bj p.classes o.bX.toNat 0 then 0
 else bj [o.want.a0,o.want.a1,o.want.a2,o.want.a3,o.want.a4,o.want.a5] (r - p.classes.length - 6).toNat 0
theorem aau {p:bn} {r:Int} {o:Off} (h:o.bX<p.classes.length):qC p r o=dX p r o:=by
 unfold qC dX;omega
def H4:bM:=⟨63,bn×Int×Off,.cons dQ (.cons (eA .i64) (.one (eh .off))),λa=>a.1.classes.length<=8/\0<=a.2.1/\a.2.1<df a.1/\0<=a.2.2.bX,
 λa=> .bI [.si .i64 (qC a.1 a.2.1 a.2.2),.si .i64 (dn a.1 a.2.1)]⟩
theorem h110:Holds Tryz.prog H4:=by
 refine cH (L:=[]) H4 (λ_ _=> .qu 7) (by simp) ?_;rintro⟨p,r,x⟩ ⟨D,z,B,A⟩;simp only[df] at D z B A;refine bR (let h:=(0:Int);let j:=(6:Int);let v:=γi .i64;let w:=cu .i64;let y:=SV.bI;let b:=(↑p.classes.length:Int);let a:=r - b - j;let o:=γy .i64 0;let k:=y [v (qC p r x),v (dn p r)];let q:=bj [p.cls.a0,p.cls.a1,p.cls.a2,p.cls.a3,p.cls.a4,p.cls.a5] a.toNat h;let t:=decide (x.bX=r);let e:=γy .i64 1;let g:=decide (r<b+j);let i:=decide (x.bX<b);let l:=h<=a/\a<j/\a.toNat<6/\(y [o,v (bj [p.opn.a0,p.opn.a1,p.opn.a2,p.opn.a3,p.opn.a4,p.opn.a5] a.toNat h)]).same k;let n:=λ(u f:Int) (c:bC) ↦let d:=(u - f).toNat;h<=u - f/\u - f<j/\d<6/\(y [v (bj [x.want.a0,x.want.a1,x.want.a2,x.want.a3,x.want.a4,x.want.a5] d h),v (bj [c.a0,c.a1,c.a2,c.a3,c.a4,c.a5] d h)]).same k;let m:=λ(u:Bool) ↦decide (q≠bj p.classes x.bX.toNat h)=u;let s:=λ(u:Bool) ↦decide (q≠h)=u;(decide (r<b)=true->(t=true->(y [e,e]).same k)/\(t=false->(y [o,e]).same k))/\(decide (r<b)=false->w (b+j)/\(g=true->w (r - b)/\h<=r - b/\r - b<j/\(r - b).toNat<6/\w (r - b)/\n r b p.supply)/\(g=false->w (r - b)/\w a/\h<=a/\a<j/\a.toNat<6/\(s true->(i=true->h<=a/\a<j/\a.toNat<6/\h<=x.bX/\x.bX<b/\x.bX.toNat<p.classes.length/\(m true->h<=a/\a<j/\a.toNat<6/\n (r - b) j p.opn)/\(m false->l))/\(i=false->l))/\(s false->l)))) (by kernel_rfl) ?_;simp only[vcs];have G:r - p.classes.length<0->dn p r=1:=λh=>by simp_all[dn]
 have E:¬r - p.classes.length<0->r - p.classes.length<6->dn p r=bj [p.supply.a0,p.supply.a1,p.supply.a2,p.supply.a3,p.supply.a4,p.supply.a5] (r - p.classes.length).toNat 0:=λh j=>by simp_all[dn,if_neg]
 have v:¬r - p.classes.length<0->¬r - p.classes.length<6->dn p r=bj [p.opn.a0,p.opn.a1,p.opn.a2,p.opn.a3,p.opn.a4,p.opn.a5] (r - p.classes.length - 6).toNat 0:=λh j=>by simp_all[dn,if_neg]
 have F:r - p.classes.length<0->qC p r x=if x.bX=r then 1 else 0:=λh=>by simp_all[qC]
 have H:¬r - p.classes.length<0->r - p.classes.length<6->qC p r x=bj [x.want.a0,x.want.a1,x.want.a2,x.want.a3,x.want.a4,x.want.a5] (r - p.classes.length).toNat 0:=λh j=>by simp_all[qC,if_neg]
 have y:=λ(h:¬r - p.classes.length<0) (j:¬r - p.classes.length<6)=>(show qC p r x=_ by unfold qC;rw[if_neg h,if_neg j]);refine⟨λw=>?_,λw=>⟨by omega,λC=>?_,λC=>?_⟩⟩;·grind
 ·grind
 ·rw[v (by omega) (by omega),y (by omega) (by omega)];omega
def M1:List bM:=[H4,H3]
theorem hM1:∀c∈M1,Holds Tryz.prog c:=by
 simp_all[M1,h110,h68]
def H5:bM:=⟨41,bn×List Off,.cons dQ (.one (dM .off)),λa=>a.1.classes.length<=8/\a.2.length<=1000/\(∀x∈a.2,0<=x.bX/\x.bX<a.1.classes.length/\x.want.ok=true),λa=> .sb (gk a.1 a.2)⟩
def aav (a:bn×List Off):Nat->cF
 |2=> .inv Int (λi=>⟨[(1,.row .off a.2),(2,.ptr 0 0 20),(5,.si .i64 i)],[.cells a.1.ss 27 20 false]⟩) (λs=>iS s 5)
  (λi=>0<=i/\i<=df a.1/\∀r:Nat,r<i->cV a.1 a.2 r<=dn a.1 r) (λi=>(df a.1 - i).toNat)
  λi=>λ
   |6=> .inv (Int×Int) (λx=>⟨[(1,.row .off a.2),(2,.ptr 0 0 20),(5,.si .i64 i),(6,.si .i64 x.2),(7,.si .i64 x.1)],[.cells a.1.ss 27 20 false]⟩)
    (λs=>(iS s 7,iS s 6))
    (λx=>0<=x.1/\x.1<=a.2.length/\x.2=cV a.1 (a.2.take x.1.toNat) i) (λx=>(a.2.length - x.1).toNat) λ_ _=> .look
   |_=> .look
 |_=> .look
theorem h69:Holds Tryz.prog H5:=by
 refine cH (L:=M1) H5 aav hM1 ?_;rintro⟨p,l⟩ ⟨A,G,q⟩;simp only at A G q;refine bR (let d:=(0:Int);let i:=γi .i64;let j:=Ω;let o:=γy .i64 0;let q:=cu .i64;let s:=γy .i64;let b:=SV.ptr 0 0 20;let c:=bq.cells (bn.ss p) 27 20 false;let v:=(↑p.classes.length:Int)+(12:Int);let k:=(↑l.length:Int);((((j bp.off l).same (j bp.off l)/\b.same b/\(o).same (i 0)/\True)/\c.same c/\True)/\d<=d/\d<=df p/\∀(r:Nat),(↑r:Int)<d->cV p l (↑r:Int)<=dn p (↑r:Int))/\∀(x:Int),let f:=x+(1:Int);let E:=i f;(d<=x/\x<=df p/\∀(r:Nat),(↑r:Int)<x->cV p l (↑r:Int)<=dn p (↑r:Int))->q v/\(decide (x<v)=true->((((j bp.off l).same (j bp.off l)/\b.same b/\(i x).same (i x)/\(o).same (i 0)/\(o).same (i 0)/\True)/\c.same c/\True)/\d<=d/\d<=k/\d=cV p [] x)/\∀(a:Int×Int),let D:=decide (a.fst<(↑l.length:Int));let C:=bj l a.fst.toNat bp.off.dflt;let w:=a.snd+qC p x C;let e:=a.fst+(1:Int);let n:=i x;let h:=i w;let m:=i e;let g:=decide (dn p x<a.snd);d<=a.fst/\a.fst<=k/\a.snd=cV p (ω a.fst.toNat l) x->(D=true->d<=a.fst/\a.fst<(↑l.length:Int)/\a.fst.toNat<l.length/\(p.classes.length<=8/\d<=x/\x<df p/\d<=C.bX)/\q w/\q e/\(((j bp.off l).same (j bp.off l)/\b.same b/\n.same n/\h.same h/\m.same m/\True)/\c.same c/\True)/\(d<=e/\e<=k/\w=cV p (ω e.toNat l) x)/\(k - e).toNat<(k - a.fst).toNat)/\(D=false->(p.classes.length<=8/\d<=x/\x<df p/\d<=d)/\(g=true->(SV.bl false).same (SV.sb (gk p l)))/\(g=false->q f/\(((j bp.off l).same (j bp.off l)/\b.same b/\E.same E/\True)/\c.same c/\True)/\(d<=f/\f<=df p/\∀(r:Nat),(↑r:Int)<f->cV p l (↑r:Int)<=dn p (↑r:Int))/\(df p - f).toNat<(df p - x).toNat)))/\(decide (x<v)=false->(SV.bl true).same (SV.sb (gk p l)))) (by kernel_rfl) ?_;simp only[vcs];have T:df p=p.classes.length+12:=rfl;have P:∀x∈l,x.want.ok=true:=λx y=>(q x y).2.2;refine⟨⟨by omega,by omega,λr J=>by omega⟩,?_⟩;rintro i ⟨H,F,S⟩;refine⟨by omega,λN=>⟨⟨by omega,by omega,by simp[cV]⟩,?_⟩,?_⟩
 ·rintro⟨j,s⟩ ⟨u,o,B⟩;simp only at u o B ⊢;have Q:=@sM p i (l.take j.toNat) λx y=>P x (γm y);have z:(l.take j.toNat).length<=l.length:=by simp;omega
  refine⟨λt=>?_,λt=>?_⟩
  ·have O:=q _ (dr (d:=bp.off.dflt) (show j.toNat<l.length by omega));have R:=@pO p i _ O.2.2;grind[HL,aau]
  ·have:j.toNat=l.length:=by omega
   rw[this,ψ] at B;refine⟨⟨A,by omega,by omega,by omega⟩,λK=>?_,λM=>⟨by omega,⟨by omega,by omega,λr J=>?_⟩,by omega⟩⟩
   ·symm;rw[Bool.eq_false_iff];intro I;have:=o8.1 I i.toNat (by omega);grind
   grind
 grind[o8]
def H6:bM:=⟨23,bn,.one dQ,λp=>True,λp=> .si .i64 (bz p)⟩
def aaw (p:bn):Nat->cF
 |11=> .inv Int (λk=>⟨[(1,.ptr 0 0 20),(4,.si .i64 k)],[.cells p.ss 27 20 false]⟩) (λs=>iS s 4) (λk=>0<=k/\k<=p.classes.length/\∀c∈p.classes.take k.toNat,0<=c/\c<=4) (λk=>(p.classes.length - k).toNat) λ_ _=> .look
 |16=> .inv Int (λi=>⟨[(1,.ptr 0 0 20),(5,.si .i64 i)],[.cells p.ss 27 20 false]⟩) (λs=>iS s 5)
  (λi=>0<=i/\i<=p.offers.length/\jb p [] p.offers=jb p ((p.offers.take i.toNat).map Off.key) (p.offers.drop i.toNat)) (λi=>(p.offers.length - i).toNat)
  λi=>λ
   |26=> .inv Int (λk=>⟨[(1,.ptr 0 0 20),(5,.si .i64 i),(6,.ptr 1 0 8),(7,.si .i64 k)],[.cells p.ss 27 20 false,.cells (encS .off (bj p.offers i.toNat bp.off.dflt)) 65 8 false]⟩) (λs=>iS s 7)
    (λk=>0<=k/\k<=i/\∀j:Nat,j<k->(bj p.offers j bp.off.dflt).key≠(bj p.offers i.toNat bp.off.dflt).key) (λk=>(i - k).toNat) λ_ _=> .look
   |_=> .look
 |4=> .inv Int (λk=>⟨[(1,.ptr 0 0 20),(3,.si .i64 k)],[.cells p.ss 27 20 false]⟩) (λs=>iS s 3) (λk=>0<=k/\k<=6/\∀j:Nat,j<k->iH p j) (λk=>(6 - k).toNat) λ_ _=> .look
 |_=> .look
theorem aax {b:bC}:(decide (b.a0=0)&&(decide (b.a1=0)&&(decide (b.a2=0)&&(decide (b.a3=0)&&(decide (b.a4=0)&&(decide (b.a5=0)&&true))))))=decide (b=bC.zero):=by
 simp_all[Dj,bC.zero]
theorem aay {b c:bC}:(decide (b.a0=c.a0)&&(decide (b.a1=c.a1)&&(decide (b.a2=c.a2)&&(decide (b.a3=c.a3)&&(decide (b.a4=c.a4)&&(decide (b.a5=c.a5)&&true))))))=decide (b=c):=by
 grind[Dj]
theorem aaz {a:Type} {l:List a} {i:Int} {d x:a} (b:i<=l.length) (h:x∈l.take i.toNat):∃j:Nat,(j:Int)<i/\bj l j d=x:=by
 obtain⟨j,c,rfl⟩:=List.mem_iff_getElem.1 h;grind[cQ]
theorem h24:Holds Tryz.prog H6:=by
 refine cH (L:=H5::M1) H6 aaw (by simp only[List.forall_mem_cons];exact⟨h69,hM1⟩) ?_;intro p _;refine bR (let a:=(0:Int);let b:=γi .i64;let d:=γy .i64;let e:=(6:Int);let f:=(1:Int);let g:=(4:Int);let h:=cu .i64;let k:=b (bz p);let l:=SV.ptr 0 0 20;let z:=d 0;let m:=bq.cells (bn.ss p) 27 20 false;let af:=[p.cls.a0,p.cls.a1,p.cls.a2,p.cls.a3,p.cls.a4,p.cls.a5];let ag:=[p.opn.a0,p.opn.a1,p.opn.a2,p.opn.a3,p.opn.a4,p.opn.a5];let ah:=[p.supply.a0,p.supply.a1,p.supply.a2,p.supply.a3,p.supply.a4,p.supply.a5];let J:=p.classes.length;let o:=(↑J:Int);let L:=decide ((8:Int)<o);let E:=p.offers.length;let r:=(↑E:Int);let M:=decide ((160:Int)<r);let s:=(↑p.classes.length:Int);let A:=(↑p.offers.length:Int);let F:=jb p [] p.offers;let B:=bp.off.dflt;let G:=SV.ptr 1 0 8;True/\((!p.supply.ok)=true->(d 4).same k)/\((!p.supply.ok)=false->(((l.same l/\z.same (b 0)/\True)/\m.same m/\True)/\a<=a/\a<=e/\∀(j:Nat),(↑j:Int)<a->iH p j)/\∀(x:Int),let t:=x+f;let N:=b t;let O:=decide (x<e);let K:=bj af x.toNat a;let P:=decide (K<a);let Q:=decide (g<K);let C:=bj ag x.toNat a;let R:=decide (C<a);let H:=bj ah x.toNat a;let S:=decide (K=a);let T:=h t/\((l.same l/\N.same N/\True)/\m.same m/\True)/\(a<=t/\t<=e/\∀(j:Nat),(↑j:Int)<t->iH p j)/\(e - t).toNat<(e - x).toNat;(a<=x/\x<=e/\∀(j:Nat),(↑j:Int)<x->iH p j)->(O=true->a<=x/\x<e/\x.toNat<6/\(P=true->(d 4).same k)/\(P=false->a<=x/\x<e/\x.toNat<6/\(Q=true->(d 4).same k)/\(Q=false->a<=x/\x<e/\x.toNat<6/\(R=true->(d 4).same k)/\(R=false->a<=x/\x<e/\x.toNat<6/\a<=x/\x<e/\x.toNat<6/\(decide (H<C)=true->(d 4).same k)/\(decide (H<C)=false->a<=x/\x<e/\x.toNat<6/\(S=true->a<=x/\x<e/\x.toNat<6/\a<=x/\x<e/\x.toNat<6/\(decide (C≠H)=true->(d 4).same k)/\(decide (C≠H)=false->T))/\(S=false->T))))))/\(O=false->(L=true->(d 3).same k)/\(L=false->(M=true->(d 3).same k)/\(M=false->(((l.same l/\z.same (b 0)/\True)/\m.same m/\True)/\a<=a/\a<=s/\∀(c:Int),c∈[]->a<=c/\c<=g)/\∀(x:Int),let U:=bj p.classes x.toNat a;let V:=decide (U<a);let W:=decide (g<U);let v:=x+f;let X:=b v;(a<=x/\x<=s/\∀(c:Int),c∈ω x.toNat p.classes->a<=c/\c<=g)->(decide (x<o)=true->a<=x/\x<o/\x.toNat<J/\(V=true->(d 4).same k)/\(V=false->a<=x/\x<o/\x.toNat<J/\(W=true->(d 4).same k)/\(W=false->h v/\((l.same l/\X.same X/\True)/\m.same m/\True)/\(a<=v/\v<=s/\∀(c:Int),c∈ω v.toNat p.classes->a<=c/\c<=g)/\(s - v).toNat<(s - x).toNat)))/\(decide (x<o)=false->(((l.same l/\z.same (b 0)/\True)/\m.same m/\True)/\a<=a/\a<=A/\F=F)/\∀(x:Int),let n:=bj p.offers x.toNat B;let i:=n.want;let D:=n.bX;let Y:=decide (D<a);let Z:=decide (n.value<f);let a6:=decide ((1000000:Int)<n.value);let I:=bq.cells [b D,b i.a0,b i.a1,b i.a2,b i.a3,b i.a4,b i.a5,b n.value] 65 8 false;let q:=x+f;let a7:=b q;let a8:=λ(u:Bool) ↦(decide (i.a0=a)&&(decide (i.a1=a)&&(decide (i.a2=a)&&(decide (i.a3=a)&&(decide (i.a4=a)&&(decide (i.a5=a)&&true))))))=u;a<=x/\x<=A/\F=jb p (List.map Off.key (ω x.toNat p.offers)) (γU x.toNat p.offers)->(decide (x<r)=true->a<=x/\x<r/\x.toNat<E/\(Y=true->(d 6).same k)/\(Y=false->(decide (o<=D)=true->(d 6).same k)/\(decide (o<=D)=false->(Z=true->(d 4).same k)/\(Z=false->(a6=true->(d 4).same k)/\(a6=false->True/\((!i.ok)=true->(d 4).same k)/\((!i.ok)=false->(a8 true->(d 4).same k)/\(a8 false->(p.classes.length<=8/\1<=1000/\∀(x:Off),x∈[n]->a<=x.bX/\x.bX<s/\x.want.ok=true)/\((!gk p [n])=true->(d 14).same k)/\((!gk p [n])=false->(((l.same l/\(b x).same (b x)/\G.same G/\z.same (b 0)/\True)/\m.same m/\I.same I/\True)/\a<=a/\a<=x/\∀(j:Nat),(↑j:Int)<a->(bj p.offers j B).key≠n.key)/\∀(x_1:Int),let w:=x_1+f;let a9:=b x;let aa:=b w;let ab:=bj p.offers x_1.toNat B;let y:=ab.want;let ac:=decide (ab.bX=D);let ad:=h w/\((l.same l/\a9.same a9/\G.same G/\aa.same aa/\True)/\m.same m/\I.same I/\True)/\(a<=w/\w<=x/\∀(j:Nat),(↑j:Int)<w->(bj p.offers j B).key≠n.key)/\(x - w).toNat<(x - x_1).toNat;let ae:=λ(u:Bool) ↦(decide (y.a0=i.a0)&&(decide (y.a1=i.a1)&&(decide (y.a2=i.a2)&&(decide (y.a3=i.a3)&&(decide (y.a4=i.a4)&&(decide (y.a5=i.a5)&&true))))))=u;(a<=x_1/\x_1<=x/\∀(j:Nat),(↑j:Int)<x_1->(bj p.offers j B).key≠n.key)->(decide (x_1<x)=true->a<=x_1/\x_1<r/\x_1.toNat<E/\(ac=true->a<=x_1/\x_1<r/\x_1.toNat<E/\(ae true->(d 7).same k)/\(ae false->ad))/\(ac=false->ad))/\(decide (x_1<x)=false->h q/\((l.same l/\a7.same a7/\True)/\m.same m/\True)/\(a<=q/\q<=A/\F=jb p (List.map Off.key (ω q.toNat p.offers)) (γU q.toNat p.offers))/\(A - q).toNat<(A - x).toNat)))))))))/\(decide (x<r)=false->z.same k))))))) (by kernel_rfl) ?_;simp only[aax,aay];simp only[vcs];have e4:iO p=4->(4:Int)=bz p:=λh=>by simp[bz,h]
 have e3:iO p=3->(3:Int)=bz p:=λh=>by simp[bz,h]
 refine⟨λhs=>e4 (P6 hs),λhs=>⟨⟨by omega,by omega,λj hj=>by omega⟩,?_⟩⟩;rintro k ⟨hk0,hk1,hk⟩;refine⟨λhlt=>?_,λhge=>?_⟩
 ·have bad:¬iH p k.toNat->(4:Int)=bz p:=λh=>e4 (P7 hs (by omega) h);have HO:iH p k.toNat->∀(j:Nat),(j:Int)<k+1->iH p j:=λh j hj=>by
   by_cases hj2:(j:Int)<k;·exact hk j hj2
   ·rw[show j=k.toNat from by omega];exact h
  repeat' (first|refine And.intro ?_ ?_|intro _)
  all_goals first
   |omega;|exact bad λhh=>by have h2:=om.1 hh;omega;|exact HO (om.2 (by omega)) _ (by assumption)
 ·have hall:∀j:Nat,j<6->iH p j:=λj hj=>hk j (by omega);refine⟨λh=>e3 (Dm hs hall (.inl (by omega))),λh8=>⟨λh=>e3 (Dm hs hall (.inr (by omega))),λh160=>⟨⟨by omega,by omega,by simp⟩,?_⟩⟩⟩;rintro i ⟨hi0,hi1,hi⟩;refine⟨λhlt=>?_,λhge=>?_⟩
  ·have hm:=dr (d:=0) (show i.toNat<p.classes.length by omega);refine⟨by omega,by omega,by omega,λh=>e4 (Dn hs hall (by omega) hm (by omega)),λh1=>⟨by omega,by omega,by omega,λh=>e4 (Dn hs hall (by omega) hm (by omega)),λh2=>⟨by omega,⟨by omega,by omega,?_⟩,by omega⟩⟩⟩;exact P8 hi0 hlt hi (by omega)
  ·rw[show i.toNat=p.classes.length from by omega,ψ] at hi;have hz:iO p=0:=HN hs hall (by omega) hi;have ce:bz p=jb p [] p.offers:=by simp[bz,hz]
   refine⟨⟨by omega,by omega⟩,?_⟩;rintro i ⟨hi0,hi1,hi⟩;refine⟨λhlt=>?_,λhge=>?_⟩
   ·rw[uk (d:=bp.off.dflt) hi0 hlt] at hi;generalize hx:bj p.offers i.toNat bp.off.dflt=x at hi ⊢;have oe:∀c:Int,c≠0->kh p x=c->c=bz p:=λc hc h=>by
     rw[ce,hi];simp only[jb,h];rw[if_pos hc]
    have se:∀c:Int,c≠0->kF p.classes.length x=c->c=bz p:=λc hc h=>oe c hc (by
     unfold kh;rw[if_pos (by omega),h]);refine⟨by omega,by omega,by omega,λh1=>?_,λh1=>⟨λh2=>?_,λh2=>⟨λh3=>?_,λh3=>⟨λh4=>?_,λh4=>⟨λh5=>?_,λh5=>⟨λh6=>?_,λh6=>?_⟩⟩⟩⟩⟩⟩;·exact se 6 (by decide) (by unfold kF;rw[if_pos (by omega)])
    ·exact se 6 (by decide) (by unfold kF;rw[if_pos (by omega)])
    ·exact se 4 (by decide) (by unfold kF;rw[if_neg (by omega),if_pos (by omega)])
    ·exact se 4 (by decide) (by unfold kF;rw[if_neg (by omega),if_pos (by omega)])
    ·exact se 4 (by decide) (by unfold kF;rw[if_neg (by omega),if_neg (by omega),h5];rfl)
    ·have hs0:kF p.classes.length x=0:=by unfold kF;rw[if_neg (by omega),if_neg (by omega),h5];rfl
     exact oe 4 (by decide) (by simp[kh,hs0,h6])
    ·have hs0:kF p.classes.length x=0:=by unfold kF;rw[if_neg (by omega),if_neg (by omega),h5];rfl
     refine⟨⟨by omega,by omega,λy hy=>?_⟩,λh7=>?_,λh7=>⟨⟨by omega,by omega,λj hj=>by omega⟩,?_⟩⟩
     ·rw[δy.1 hy];exact⟨by omega,by omega,h5⟩
     ·exact oe 14 (by decide) (by simp[kh,hs0,h6,h7])
     ·have ho0:kh p x=0:=by simp[kh,hs0,h6,h7]
      rintro k ⟨hk0,hk1,hk⟩;have hnx:(bj p.offers k.toNat bp.off.dflt).key≠x.key->∀j:Nat,(j:Int)<k+1->(bj p.offers j bp.off.dflt).key≠x.key:=λh j hj=>by
       by_cases hj2:(j:Int)<k;·exact hk j hj2
       ·rw[show j=k.toNat from by omega];exact h
      refine⟨λhlt2=>⟨by omega,by omega,by omega,λh8=>⟨by omega,by omega,by omega,λh9=>?_,λh9=>⟨by omega,⟨by omega,by omega,?_⟩,by omega⟩⟩,λh8=>⟨by omega,⟨by omega,by omega,?_⟩,by omega⟩⟩,λDv=>⟨by omega,⟨by omega,by omega,?_⟩,by omega⟩⟩
      ·have hk9:(bj p.offers k.toNat bp.off.dflt).key=x.key:=by
        show nU.mk _ _=nU.mk _ _;rw[h8,h9]
       have hmem:x.key∈(p.offers.take i.toNat).map Off.key:=by
        rw[<-hk9];refine Ψ.2 ⟨_,?_,rfl⟩;rw[cQ (by omega)];exact List.mem_take_iff_getElem.2 ⟨k.toNat,by omega,rfl⟩
       rw[ce,hi];simp only[jb,ho0,ne_eq,not_true,if_false,if_pos hmem]
      ·refine hnx λe=>h9 ?_;injection e
      ·refine hnx λe=>h8 ?_;injection e
      ·have hnm:x.key∉(p.offers.take i.toNat).map Off.key:=by
        intro hmem;obtain⟨o,ho,he⟩:=Ψ.1 hmem;obtain⟨j,hj,rfl⟩:=aaz (d:=bp.off.dflt) hi1 ho;exact hk j (by omega) he
       rw[hi,jX (d:=bp.off.dflt) hi0 hlt,hx];simp only[jb,ho0,ne_eq,not_true,if_false,if_neg hnm,γa,π,γr]
   ·rw[show i.toNat=p.offers.length from by omega,δR] at hi;rw[ce,hi];rfl
def cK:List Off->Int
 |[]=>0
 |x::l=>x.value+cK l
def ef (p:bn) (c:List Int):Int:=if bz p=0 then cK (eK p c) else 0
theorem pP:∀{l m:List Off},cK (l++m)=cK l+cK m
 |[],m=>by simp[cK];|x::l,m=>by simp only[γG,cK,@pP l m];omega
theorem aaB {l:List Off} {i:Int} (a:0<=i) (h:i<l.length):cK (l.take (i+1).toNat)=cK (l.take i.toNat)+(bj l i.toNat bp.off.dflt).value:=by
 rw[jX (d:=bp.off.dflt) a h,pP];simp[cK]
theorem aaC {p:bn} {c:List Int} (h:bz p=0):(eK p c).length<=160/\∀x∈eK p c,x∈p.offers:=by
 have d:=dR h;unfold eK;cases a:eW p.offers (-1) c with
 |none=>simp;|some r=>
  refine⟨?_,λx b=>HV (by omega) a x b⟩;have e:=Dt (by omega) a;have f:=d.2.1;grind
theorem sN {p:bn} (a:Good p):∀{l:List Off},(∀x∈l,x∈p.offers)->0<=cK l/\cK l<=1000000*l.length
 |[],_=>by simp[cK];|x::l,h=>by
  have c:=a.2.2.2.2 x (h x (by simp));have d:=@sN p a l λy b=>h y (by simp[b]);grind[cK]
def cmpL:List Int->List Int->Int
 |[],[]=>0
 |[],_::_=> -1
 |_::_,[]=>1
 |a::l,b::m=>if a<b then -1 else if b<a then 1 else cmpL l m
def r32:bM:=⟨14,List Int×List Int,.cons (dM (.i .i64)) (.one (dM (.i .i64))),λa=>a.1.length<=1000000000000/\a.2.length<=1000000000000,λa=> .si .i64 (cmpL a.1 a.2)⟩
def aaD (a:List Int×List Int):Nat->cF
 |2=> .inv Int (λi=>⟨[(0,.row (.i .i64) a.1),(1,.row (.i .i64) a.2),(5,.si .i64 i)],[]⟩) (λs=>iS s 5)
  (λi=>0<=i/\i<=a.1.length/\i<=a.2.length/\cmpL a.1 a.2=cmpL (a.1.drop i.toNat) (a.2.drop i.toNat)) (λi=>(a.1.length - i).toNat) λ_ _=> .look
 |_=> .look
theorem h32:Holds Tryz.prog r32:=by
 refine cH (L:=[]) r32 aaD (by simp) ?_;rintro⟨a,b⟩ ⟨w,u⟩;refine bR (let d:=(0:Int);let h:=γy .i64;let j:=γi .i64;let k:=(-1:Int);let q:=Ω (bp.i .i64) a;let n:=Ω (bp.i .i64) b;let t:=h 0;let m:=(↑a.length:Int);let r:=(↑b.length:Int);let e:=(↑a.length:Int);let f:=(↑b.length:Int);let g:=j (cmpL a b);(((q.same q/\n.same n/\t.same (j 0)/\True)/\True)/\d<=d/\d<=m/\d<=r/\cmpL a b=cmpL a b)/\∀(x:Int),let o:=bj a x.toNat d;let p:=bj b x.toNat d;let c:=x+(1:Int);let l:=j c;d<=x/\x<=m/\x<=r/\cmpL a b=cmpL (γU x.toNat a) (γU x.toNat b)->(decide (x<e)=true->(decide (x<f)=true->d<=x/\x<e/\x.toNat<a.length/\d<=x/\x<f/\x.toNat<b.length/\(decide (o<p)=true->(h k).same g)/\(decide (o<p)=false->d<=x/\x<e/\x.toNat<a.length/\d<=x/\x<f/\x.toNat<b.length/\(decide (p<o)=true->(h 1).same g)/\(decide (p<o)=false->cu .i64 c/\((q.same q/\n.same n/\l.same l/\True)/\True)/\(d<=c/\c<=m/\c<=r/\cmpL a b=cmpL (γU c.toNat a) (γU c.toNat b))/\(m - c).toNat<(m - x).toNat)))/\(decide (x<f)=false->(decide (e<f)=true->(h k).same g)/\(decide (e<f)=false->(decide (f<e)=true->(h 1).same g)/\(decide (f<e)=false->t.same g))))/\(decide (x<e)=false->(decide (e<f)=true->(h k).same g)/\(decide (e<f)=false->(decide (f<e)=true->(h 1).same g)/\(decide (f<e)=false->t.same g)))) (by kernel_rfl) ?_;conv=>zeta
 simp only at w u;simp only[vcs];refine⟨⟨by omega,by omega,by omega⟩,?_⟩;rintro i ⟨j,v,z,h⟩;refine⟨λs=>⟨λk=>?_,λk=>?_⟩,λs=>?_⟩
 ·rw[uk (d:=0) j s,uk (d:=0) j k] at h;simp only[cmpL] at h;omega
 ·rw[uk (d:=0) j s,show i.toNat=b.length from by omega,δR] at h;grind[cmpL]
 ·rw[show i.toNat=a.length from by omega,δR] at h;refine⟨λk=>?_,λk=>⟨λy=>by omega,λy=>?_⟩⟩
  ·rw[<-γl a.length,uk (d:=0) (by omega) k] at h;exact h.symm
  ·rw[show a.length=b.length from by omega,δR] at h;exact h.symm
def dV (l:List bC):bC:=⟨(l.map bC.a0).sum,(l.map bC.a1).sum,(l.map bC.a2).sum,(l.map bC.a3).sum,(l.map bC.a4).sum,(l.map bC.a5).sum⟩
def cY (p:bn) (l:List Int):List Off:=l.map λi=>bj p.offers i.toNat bp.off.dflt
def jq (p:bn) (L:List Off):Prop:=(L.map Off.bX).Nodup/\(dV (L.map Off.want)).le p.supply=true/\(dV (L.map (fj p))).le p.opn=true
instance (p:bn) (L:List Off):Decidable (jq p L):=by unfold jq;infer_instance
def lA (p:bn) (l:List Int):Bool:=decide (jq p (cY p l))
def iI (a b:bC) (k:Int):bC:=⟨if 0<k then b.a0 else a.a0,if 1<k then b.a1 else a.a1,if 2<k then b.a2 else a.a2,if 3<k then b.a3 else a.a3,if 4<k then b.a4 else a.a4,if 5<k then b.a5 else a.a5⟩
def bC.add (a b:bC):bC:=⟨a.a0+b.a0,a.a1+b.a1,a.a2+b.a2,a.a3+b.a3,a.a4+b.a4,a.a5+b.a5⟩
theorem Af {l m:List bC}:dV (l++m)=(dV l).add (dV m):=by simp[dV,bC.add]
theorem Ag {b:bC} {l:List bC}:dV (b::l)=b.add (dV l):=by simp[dV,bC.add]
def bC.bd (b:bC) (n:Int):Prop:=(0<=b.a0/\b.a0<=n)/\(0<=b.a1/\b.a1<=n)/\(0<=b.a2/\b.a2<=n)/\(0<=b.a3/\b.a3<=n)/\(0<=b.a4/\b.a4<=n)/\(0<=b.a5/\b.a5<=n)
theorem H7:∀{l:List bC},(∀b∈l,b.ok=true)->(dV l).bd (4*l.length)
 |[],_=>by simp[dV,bC.bd];|b::l,h=>by
  have e:=bC.ja.1 (h b (by simp));have d:=@H7 l λc a=>h c (by simp[a]);rw[Ag];simp only[bC.bd,bC.add,γE] at d ⊢;omega
theorem aaE {p:bn} {x:Off} (h:x.want.ok=true):(fj p x).ok=true:=by
 have a:=bC.ja.1 h;rw[bC.ja];simp only[fj,HY,oc];omega
theorem H8 {p:bn} (b:Good p) {l:List Int} (h:∀i∈l,0<=i/\i<p.offers.length):∀x∈cY p l,x∈p.offers:=by
 intro x a;obtain⟨i,c,rfl⟩:=Ψ.1 a;grind[dr]
def lB (p:bn) (i:Int):Int:=(bj p.offers i.toNat bp.off.dflt).value
def better (a b:Alloc):Alloc:=if b.value<a.value\/a.value=b.value/\cmpL a.chosen b.chosen<0 then a else b
def lC (p:bn):Nat->Int->Alloc->Alloc->Alloc
 |0,_,_,b=>b
 |k+1,i,a,b=>lC p k (i+1) a (if lA p (a.chosen++[i]) then lC p k (i+1) ⟨a.chosen++[i],a.value+lB p i⟩ (better ⟨a.chosen++[i],a.value+lB p i⟩ b) else b)
def Qg (p:bn) (i:Int):Nat:=(p.offers.length - i).toNat
def Qh (p:bn) (a:Alloc) (f:Int) (b:Alloc):Alloc:=lC p (Qg p f) f a (better a b)
def cB (p:bn):Alloc:=Qh p ⟨[],0⟩ 0 ⟨[],0⟩
def hasB (m b:Int):Bool:=decide (gX.vB .i64 (m / 2^b.toNat) 1=1)
def Dw (p:bn) (w:Int) (n:Nat):Int:=((Γ n).map λi:Nat=>if(i:Int)≠w then(2:Int)^i else 0).sum
def pe (p:bn) (m:Int):bn:={p with offers:=p.offers.filter λx=>hasB m x.bX}
theorem H9 {p:bn} (h:Good p) (m:Int):Good (pe p m):=by
 refine⟨h.1,?_,h.2.2.1,h.2.2.2.1,λx a=>h.2.2.2.2 x (γt.1 a).1⟩;have:=List.length_filter_le (λx:Off=>hasB m x.bX) p.offers;have:=h.2.1;grind[pe]
def vT (p:bn) (m:Int):Int:=(cB (pe p m)).value
theorem Ia {p:bn} {c:List Int} (e:di p c=0):bz p=0/\jc p c=true/\Good p/\c.length<=160/\∀i∈c,0<=i/\i<p.offers.length:=by
 have b:bz p=0:=by
  unfold di at e;omega
 have d:jc p c=true:=by
  unfold di at e;grind
 have f:=dR b;obtain⟨r,g⟩:=γp.1 d;obtain⟨h,a⟩:=Qf (by omega) g;refine⟨b,d,f,?_,a⟩;have k:=Dt (by omega) g;have j:=f.2.1;grind
def Ib (p:bn):Int:=Dw p (-1) p.classes.length
structure Qi (p:bn) (fs:List Int) (l o:bC) (L:List Off):Prop where
 nd:(L.map Off.bX).Nodup
 mem:∀x∈L,x∈p.offers/\x.bX∈fs
 w:(dV (L.map Off.want)).le l=true
 o:(dV (L.map (fj p))).le o=true
theorem Qj {p:bn} {fs:List Int} {l o:bC}:∀{xs:List Off} {v:Int},v<=xs.foldl (pd p fs l o) v/\∀x∈xs,x.want.le l=true->(fj p x).le o=true->x.value+ki p fs (l.sub x.want) (o.sub (fj p x))<=xs.foldl (pd p fs l o) v
 |[],v=>by simp;|y::xs,v=>by
  obtain⟨b,e⟩:=@Qj p fs l o xs (pd p fs l o v y);have d:v<=pd p fs l o v y:=by
   grind[pd]
  refine⟨by grind,λx a c f=>?_⟩;simp only[εb];rcases γz.1 a with rfl|a
  ·have:x.value+ki p fs (l.sub x.want) (o.sub (fj p x))<=pd p fs l o v x:=by
    unfold pd;grind
   omega
  simp_all
theorem fold_at {p:bn} {fs:List Int} {l o:bC}:∀{xs:List Off} {v:Int},xs.foldl (pd p fs l o) v=v\/∃x∈xs,x.want.le l=true/\(fj p x).le o=true/\xs.foldl (pd p fs l o) v=x.value+ki p fs (l.sub x.want) (o.sub (fj p x))
 |[],v=>by simp;|y::xs,v=>by
  simp only[εb];rcases @fold_at p fs l o xs (pd p fs l o v y) with h|⟨x,d,a,c,b⟩
  ·rw[h];unfold pd;split<;>grind
  grind
theorem aaF {x:bC} {s t:List bC}:dV (s++x::t)=x.add (dV (s++t)):=by
 grind[Af,Ag,bC.add]
theorem aaG {x:Off} {s t:List Off}:cK (s++x::t)=x.value+cK (s++t):=by
 rw[pP,pP];grind[cK]
theorem Qk {p:bn} (c:Good p) {L:List Off} (h:∀x∈L,x∈p.offers):(dV (L.map Off.want)).bd (4*L.length)/\(dV (L.map (fj p))).bd (4*L.length):=by
 have e:∀x∈L,x.want.ok=true:=λx d=>(c.2.2.2.2 x (h x d)).2.2.1;have a:=@H7 (L.map Off.want) (λb f=>by grind);grind[H7,aaE]
theorem Dx {p:bn} (e:Good p):∀{fs:List Int} {l o:bC} {L:List Off},Qi p fs l o L->cK L<=ki p fs l o
 |[],l,o,L,h=>by
  have:L=[]:=by
   cases L with
   |nil=>rfl;|cons x L=>exact absurd (h.mem x (by simp)).2 (by simp)
  grind[cK,ki];|f::fs,l,o,L,h=>by
  obtain⟨D,B⟩:=@Qj p fs l o (Ac p f) (ki p fs l o);have b:ki p (f::fs) l o=(Ac p f).foldl (pd p fs l o) (ki p fs l o):=rfl;rw[b];by_cases d:∃x∈L,x.bX=f
  ·obtain⟨x,d,m⟩:=d;obtain⟨s,t,rfl⟩:=List.append_of_mem d;obtain⟨u,c,w,j⟩:=h;have i:=c x d;have g:∀y∈s++t,y∈p.offers:=λy a=>(c y (by grind)).1;obtain⟨z,v⟩:=Qk e g;rw[γa,π,aaF,bC.le_iff,<-γa] at w j;simp only[bC.add,bC.bd] at w j z v;have q:x.want.le l=true:=by rw[bC.le_iff];omega
   have r:(fj p x).le o=true:=by rw[bC.le_iff];omega
   have A:=B x (γt.2 ⟨i.1,by simp[m]⟩) q r;rw[γa,π,List.nodup_append] at u;have n:∀y∈s++t,y.bX≠f:=λy a=>by
    rw[<-m];rcases γk.1 a with a|a;·simp_all
    simp_all
   have k:cK (s++t)<=ki p fs (l.sub x.want) (o.sub (fj p x)):=Dx e
    {nd:=by
      grind
     mem:=λy a=>by
      grind
     w:=by grind[bC.le_iff,bC.sub]
     o:=by grind[bC.le_iff,bC.sub]};rw[aaG];omega
  ·have:=Dx e (fs:=fs) (l:=l) (o:=o) (L:=L) ⟨h.nd,λy a=>by
    have C:=h.mem y a;simp_all,h.w,h.o⟩;omega
theorem Dy {p:bn} (k:Good p):∀{fs:List Int} {l o:bC},fs.Nodup->bC.zero.le l=true->bC.zero.le o=true->∃L,Qi p fs l o L/\cK L=ki p fs l o
 |[],l,o,_,g,e=>⟨[],⟨by simp,by simp,g,e⟩,rfl⟩
 |f::fs,l,o,r,g,e=>by
  have c:=γX.1 r;have d:ki p (f::fs) l o=(Ac p f).foldl (pd p fs l o) (ki p fs l o):=rfl;rw[d];rcases @fold_at p fs l o (Ac p f) (ki p fs l o) with h|⟨x,q,m,u,n⟩
  ·rw[h];obtain⟨L,a,j⟩:=Dy k (l:=l) (o:=o) c.2 g e;exact⟨L,⟨a.nd,λy b=>⟨(a.mem y b).1,by simp[(a.mem y b).2]⟩,a.w,a.o⟩,j⟩
  ·rw[n];have z:=bC.le_iff.1 m;have A:=bC.le_iff.1 u;obtain⟨L,a,j⟩:=Dy k (l:=l.sub x.want) (o:=o.sub (fj p x)) c.2 (by grind[bC.le_iff,bC.zero,bC.sub]) (by grind[bC.le_iff,bC.zero,bC.sub]);have s:=γt.1 q;have i:x.bX=f:=by simp_all
   refine⟨x::L,⟨?_,?_,?_,?_⟩,by grind[cK]⟩
   ·rw[π,γX];refine⟨λt=>?_,a.nd⟩;obtain⟨y,b,v⟩:=Ψ.1 t;exact c.1 (by rw[<-i,<-v];exact(a.mem y b).2)
   ·intro y b;rcases γz.1 b with rfl|b;·simp_all
    ·exact⟨(a.mem y b).1,by simp[(a.mem y b).2]⟩
   ·have:=bC.le_iff.1 a.w;grind[Ag,bC.le_iff,bC.add,bC.sub]
   ·have:=bC.le_iff.1 a.o;grind[Ag,bC.le_iff,bC.add,bC.sub]
theorem um {p:bn} {l m:List Int}:cY p (l++m)=cY p l++cY p m:=by simp[cY]
theorem sO {p:bn} {i:Int} {l:List Int}:cY p (i::l)=bj p.offers i.toNat bp.off.dflt::cY p l:=rfl
def Dz (p:bn) (l:List Int):Prop:=∀i∈l,0<=i/\i<p.offers.length
theorem Ic {p:bn} (f:Good p) {L M:List Off} (c:∀x∈M,x∈p.offers) (h:jq p (L++M)):jq p L:=by
 obtain⟨e,d⟩:=Qk f c;obtain⟨g,a,b⟩:=h;rw[γa,Af,bC.le_iff] at a b;simp only[bC.add,bC.bd] at a b e d;refine⟨?_,?_,?_⟩<;>grind[bC.le_iff]
theorem Ql {p:bn} (a:Good p) {l m:List Int} (b:Dz p m) (h:lA p (l++m)=true):lA p l=true:=by
 unfold lA at h ⊢;have h:=of_decide_eq_true h;rw[um] at h;exact decide_eq_true (Ic a (H8 a b) h)
def ny (i:Int) (k:Nat) (t:List Int):Prop:=t.Pairwise (·<·)/\∀j∈t,i<=j/\j<i+k
theorem Qm {a b:Alloc}:a.value<=(better a b).value/\b.value<=(better a b).value:=by
 grind[better]
theorem Qn {a b:Alloc}:better a b=a\/better a b=b:=by
 grind[better]
theorem Ah {p:bn}:∀{k:Nat} {i:Int} {a b:Alloc},b.value<=(lC p k i a b).value
 |0,_,_,b=>by simp[lC];|k+1,i,a,b=>by
  simp only[lC];refine ζe ?_ Ah;split;·exact ζe Qm.2 Ah
  ·omega
theorem Ie {p:bn} (h:Good p):∀{k:Nat} {i:Int} {a b:Alloc} {t:List Int},0<=i->i+k<=p.offers.length->t≠[]->ny i k t->lA p (a.chosen++t)=true->a.value+cK (cY p t)<=(lC p k i a b).value
 |0,i,a,b,t,_,_,u,c,_=>by
  cases t with
  |nil=>simp_all;|cons j t=>
   have:=c.2 j (by simp);omega
 |k+1,i,a,b,t,w,x,u,c,s=>by
  cases t with
  |nil=>simp_all;|cons j t=>
   have v:=c.2 j (by simp);have q:=γA.1 c.1;simp only[lC];by_cases l:j=i
   ·subst l;have d:Dz p t:=λm e=>by
     have:=c.2 m (by simp[e]);omega
    have f:lA p (a.chosen++[j]++t)=true:=by simp_all
    have g:lA p (a.chosen++[j])=true:=Ql h d f;rw[if_pos g];refine ζe ?_ Ah;rw[sO];simp only[cK];cases t with
    |nil=>
     refine ζe ?_ Ah;refine ζe ?_ Qm.1;simp[cK,cY,lB];|cons o n=>
     have:=Ie h (k:=k) (i:=j+1) (a:=⟨a.chosen++[j],a.value+lB p j⟩) (b:=better ⟨a.chosen++[j],a.value+lB p j⟩ b) (t:=o::n) (by omega) (by omega) (by simp) ⟨q.2,λm e=>by
      have r:=c.2 m (List.mem_cons_of_mem _ e);grind⟩ f;grind[lB]
   ·exact Ie h (by omega) (by omega) (by simp) ⟨c.1,λm e=>by
     have r:=c.2 m e;grind⟩ s
theorem If {p:bn} (g:Good p):∀{k:Nat} {i:Int} {a b:Alloc},lC p k i a b=b\/∃t,t≠[]/\ny i k t/\lA p (a.chosen++t)=true/\lC p k i a b=⟨a.chosen++t,a.value+cK (cY p t)⟩
 |0,i,a,b=> .inl rfl
 |k+1,i,a,b=>by
  have l:∀{t:List Int},ny (i+1) k t->ny i (k+1) t:=λh=>⟨h.1,λj c=>by have:=h.2 j c;omega⟩;simp only[lC];rcases @If p g k (i+1) a (if lA p (a.chosen++[i]) then lC p k (i+1) ⟨a.chosen++[i],a.value+lB p i⟩ (better ⟨a.chosen++[i],a.value+lB p i⟩ b) else b) with h|⟨t,m,d,n,o⟩
  ·rw[h];split
   ·rename_i q;have e:(⟨a.chosen++[i],a.value+lB p i⟩:Alloc)=⟨a.chosen++[i],a.value+cK (cY p [i])⟩:=by simp[cK,cY,lB]
    have f:ny i (k+1) [i]:=⟨by simp,λj c=>by grind⟩;rcases @If p g k (i+1) ⟨a.chosen++[i],a.value+lB p i⟩ (better ⟨a.chosen++[i],a.value+lB p i⟩ b) with h|⟨t,m,d,n,o⟩;·grind[Qn]
    ·refine .inr ⟨i::t,by simp,⟨γA.2 ⟨λj c=>by have:=d.2 j c;omega,d.1⟩,λj c=>?_⟩,by simp_all,?_⟩
     ·rcases γz.1 c with rfl|c;·omega
      ·have:=d.2 j c;omega
     grind[sO,cK,lB]
   simp_all
  grind
theorem Ig {p:bn}:cB p=lC p p.offers.length 0 ⟨[],0⟩ ⟨[],0⟩:=by
 grind[Qg,cB,Qh,Qn]
theorem Ih {p:bn} (f:Good p) {t:List Int} (e:ny 0 p.offers.length t) (d:lA p t=true):cK (cY p t)<=(cB p).value:=by
 rw[Ig];by_cases c:t=[]
 ·subst c;exact Ah
 ·have:=Ie f (k:=p.offers.length) (i:=0) (a:=⟨[],0⟩) (b:=⟨[],0⟩) (t:=t) (by omega) (by omega) c e d;simp_all
theorem Qo {p:bn} (a:Good p):lA p []=true:=by
 have b:=bC.ja.1 a.2.2.1;have c:=bC.ja.1 a.2.2.2.1;unfold lA;refine decide_eq_true ⟨by simp[cY],?_,?_⟩;all_goals simp_all[bC.le_iff,cY,dV]
theorem Ii {p:bn} (a:Good p):∃t,ny 0 p.offers.length t/\lA p t=true/\cB p=⟨t,cK (cY p t)⟩:=by
 rw[Ig];rcases @If p a p.offers.length 0 ⟨[],0⟩ ⟨[],0⟩ with h|⟨t,b,e,c,d⟩;·exact⟨[],⟨by simp,by simp⟩,Qo a,by rw[h];rfl⟩
 grind
def Qp:Bool:=(Γ 256).all λm=>[0,1,2,3,4,5,6,7].all λb:Int=>hasB m b==decide (b∈rD m)
theorem aaH:Qp=true:=by kernel_rfl
theorem Ij {m b:Int} (e:0<=m) (a:m<256) (c:0<=b) (d:b<8):hasB m b=decide (b∈rD m):=by
 have h:=aaH;simp only[Qp,φ,γx] at h;have h:=h m.toNat (by omega) b (by
  have:b=0\/b=1\/b=2\/b=3\/b=4\/b=5\/b=6\/b=7:=by omega
  simp_all);grind
theorem aaI {p:bn} {t:List Int} (h:ny 0 p.offers.length t):Dz p t:=λj a=>by
 have:=h.2 j a;omega
theorem aaJ {p:bn} (b:Good p) {m:Int} (j:0<=m) (e:m<256):vT p m<=ki p (rD m) p.supply p.opn:=by
 obtain⟨t,i,f,g⟩:=Ii (H9 b m);unfold vT;rw[g];have d:=of_decide_eq_true f;refine Dx b ⟨d.1,λx h=>?_,d.2.1,d.2.2⟩;have c:=H8 (H9 b m) (aaI i) x h;have a:=γt.1 c;have k:=b.2.2.2.2 x a.1;have l:=b.1;refine⟨a.1,?_⟩;have:=Ij j e k.1 (by omega);simp_all
theorem Qq {L M:List Off} (h:L.Perm M):cK L=cK M:=by
 induction h<;>grind[cK,swap,trans]
theorem aaK {L M:List bC} (h:L.Perm M):dV L=dV M:=by
 induction h<;>grind[Ag,swap,bC.add,bC.mk.injEq,trans]
theorem Ik {p:bn} {L M:List Off} (h:L.Perm M) (b:jq p L):jq p M:=by
 obtain⟨a,c,d⟩:=b;refine⟨((h.map _).nodup_iff).1 a,?_,?_⟩<;>grind[aaK]
theorem Il (q:Off->Bool):∀(O a:List Off),∃t:List Int,t.Pairwise (·<·)/\(∀j∈t,(a.length:Int)<=j/\j<a.length+O.length)/\(t.map λj=>bj (a++O) j.toNat bp.off.dflt)=O.filter q
 |[],a=>⟨[],by simp,by simp,by simp⟩
 |x::O,a=>by
  obtain⟨t,c,g,d⟩:=Il q O (a++[x]);have e:a++[x]++O=a++x::O:=by simp
  rw[e] at d;have h:((a++[x]).length:Int)=a.length+1:=by simp
  have f:∀j∈t,(a.length:Int)+1<=j/\j<a.length+1+O.length:=λj b=>by
   simp_all
  by_cases i:q x=true
  ·refine⟨(a.length:Int)::t,γA.2 ⟨λj b=>by grind,c⟩,λj b=>?_,?_⟩;·grind
   simp_all[cQ]
  grind
theorem DC {p:bn}:∀{l:List Off} {a:List nU},jb p a l=0->(l.map Off.key).Nodup/\∀x∈l,x.key∉a
 |[],_,_=>by simp;|o::r,a,h=>by
  simp only[jb] at h;split at h;·omega
  ·split at h;·cases h
   ·rename_i d b;obtain⟨c,e⟩:=DC h;simp_all
theorem DD {a b:Type} (f:a->b):∀{l:List a},(l.map f).Nodup->l.Nodup
 |[],_=>by simp;|x::l,h=>by
  rw[π,γX] at h;exact γX.2 ⟨λc=>h.1 (List.mem_map_of_mem c),DD f h.2⟩
theorem Qr {p:bn} (h:bz p=0):p.offers.Nodup:=by
 unfold bz at h;split at h;·omega
 ·exact DD _ (DC h).1
theorem Qs (m:Int):(rD m).Nodup:=by
 unfold rD;exact ζU γO (by decide)
theorem aaL {p:bn} (f:bz p=0) {m:Int} (D:0<=m) (u:m<256):ki p (rD m) p.supply p.opn<=vT p m:=by
 have b:=dR f;have A:=bC.ja.1 b.2.2.1;have y:=bC.ja.1 b.2.2.2.1;obtain⟨L,c,h⟩:=Dy b (Qs m) (l:=p.supply) (o:=p.opn) (by grind[bC.le_iff,bC.zero]) (by grind[bC.le_iff,bC.zero]);obtain⟨t,n,B,g⟩:=Il (λx=>decide (x∈L)) (pe p m).offers [];have i:cY (pe p m) t=(pe p m).offers.filter λx=>decide (x∈L):=g;have q:∀x∈L,x∈(pe p m).offers:=λx s=>by
  have d:=c.mem x s;have C:=b.2.2.2.2 x d.1;have v:=b.1;refine γt.2 ⟨d.1,?_⟩;grind[Ij]
 have e:((pe p m).offers.filter λx=>decide (x∈L)).Nodup:=ζU (List.Sublist.trans γO γO) (Qr f);have a:L.Perm (cY (pe p m) t):=by
  rw[i];refine(List.perm_ext_iff_of_nodup (DD _ c.nd) e).2 λx=>?_;simp_all
 have k:jq (pe p m) L:=⟨c.nd,c.w,c.o⟩;have r:lA (pe p m) t=true:=decide_eq_true (Ik a k);have:=Ih (H9 b m) ⟨n,λj z=>by simp_all⟩ r;rw[<-Qq a,h] at this;exact this
theorem aaM {p:bn} (d:bz p=0) {m:Int} (e:0<=m) (c:m<256):vT p m=ki p (rD m) p.supply p.opn:=by
 have a:=aaJ (dR d) e c;have b:=aaL d e c;omega
theorem aaN {p:bn} (a:bz p=0) {m:Int} (c:0<=m) (d:m<2^p.classes.length):rE p m=vT p m:=by
 have b:Du p m=0:=by
  simp_all[Du]
 have e:=Ad (dR a).1;unfold rE;rw[if_pos b,aaM a c (by omega)];rfl
def Qu:Bool:=(Γ 9).all λn=>decide (Dw bn.zero (-1) n=2^n - 1)&&(Γ n).all λb=>decide (Dw bn.zero b n=aas (2^n - 1) b)
theorem aaO:Qu=true:=by kernel_rfl
theorem Qv {p:bn} (h:p.classes.length<=8):Dw p (-1) p.classes.length=allM p:=by
 have a:=aaO;simp only[Qu,φ,γx,Bool.and_eq_true,decide_eq_true_eq] at a;exact(a p.classes.length (by omega)).1
theorem aaP {p:bn} (b:bz p=0):rE p (allM p)=vT p (Ib p):=by
 have a:=dR b;have c:=Ad a.1;unfold Ib;rw[Qv a.1];grind[aaN,allM]
theorem DF {p:bn}:∀{c:List Int} {s:Int},c.foldl (HZ p) s=s+cK (cY p c)
 |[],s=>by simp[cY,cK];|i::c,s=>by
  rw[εb,DF,sO];grind[cK,HZ]
theorem DG {p:bn}:∀{c:List Int} {a:Int} {r:List Off},eW p.offers a c=some r->r=cY p c
 |[],a,r,h=>by simp[eW] at h;subst h;rfl;|i::c,a,r,h=>by
  simp only[eW] at h;split at h;·cases h
  ·obtain⟨d,b,rfl⟩:=Option.map_eq_some_iff.1 h;rw[DG b,sO]
theorem aaQ {p:bn} {c:List Int} (b:di p c=0):ef p c=Ae p c:=by
 obtain⟨a,d,g,f,e⟩:=Ia b;obtain⟨r,h⟩:=γp.1 d;unfold ef Ae;rw[if_pos a,DF];grind[eK,DG]
theorem Qw {p:bn} {x:Off} (b:0<=x.bX) (a:x.bX<p.classes.length):dX p x.bX x=1:=by
 unfold dX;omega
theorem sum_cons {p:bn} {x:Off} {L:List Off} {r:Int}:cV p (x::L) r=dX p r x+cV p L r:=by simp[cV]
theorem Qx {p:bn} {r:Int}:∀{L:List Off},(∀x∈L,x.want.ok=true)->(∃x∈L,x.bX=r/\0<=r/\r<p.classes.length)->1<=cV p L r
 |[],_,h=>by simp_all;|y::L,a,⟨x,c,e,f,d⟩=>by
  have g:=@pO p r y (a y (by simp));have i:=@sM p r L λz b=>a z (by simp[b]);rw[sum_cons];rcases γz.1 c with rfl|c;·grind[Qw]
  ·have:=@Qx p r L (λz b=>a z (by simp[b])) ⟨x,c,e,f,d⟩;omega
theorem Qy {p:bn}:∀{L:List Off},(∀x∈L,x.want.ok=true/\0<=x.bX/\x.bX<p.classes.length)->(∀r:Int,0<=r->r<p.classes.length->cV p L r<=1)->(L.map Off.bX).Nodup
 |[],_,_=>by simp;|x::L,e,f=>by
  have a:=e x (by simp);rw[π,γX];have d:∀r:Int,0<=r->r<p.classes.length->cV p L r<=1:=λr j b=>by
   have:=f r j b;have:=@pO p r x a.1;grind[sum_cons]
  refine⟨λg=>?_,Qy (λy c=>e y (by simp[c])) d⟩;obtain⟨y,c,h⟩:=Ψ.1 g;have b:=f x.bX a.2.1 a.2.2;have k:=@Qx p x.bX L (λz i=>(e z (by simp[i])).1) ⟨y,c,h,a.2.1,a.2.2⟩;rw[sum_cons,Qw a.2.1 a.2.2] at b;omega
theorem aaR {p:bn} {c:List Int} (e:di p c=0):((cY p c).map Off.bX).Nodup:=by
 obtain⟨j,f,a,m,h⟩:=Ia e;obtain⟨r,l⟩:=γp.1 f;have n:eK p c=cY p c:=by grind[eK,DG]
 have d:gk p (cY p c)=true:=by
  simp_all[di]
 refine Qy (p:=p) (λx g=>?_) λr o i=>?_
 ·have:=a.2.2.2.2 x (H8 a h x g);simp_all
 ·have b:=o8.1 d r.toNat (by grind[df]);rw[show((r.toNat:Nat):Int)=r by omega] at b;have k:dn p r=1:=by unfold dn;omega
  omega
def bC.at (b:bC) (k:Nat):Int:=bj [b.a0,b.a1,b.a2,b.a3,b.a4,b.a5] k 0
theorem Im {a b:bC} (h:a.le b=true) (k:Nat):a.at k<=b.at k:=by
 grind[bC.le_iff,bC.at,bj]
theorem oo (k:Nat):∀(l:List bC),(dV l).at k=(l.map λb=>b.at k).sum:=by
 intro l;unfold bC.at dV;match k with
 |0|1|2|3|4|5=>simp only[bj,List.getElem?_cons_zero,γK,Option.getD_some];|k+6=>
  simp only[bj,γK,List.getElem?_nil,Option.getD_none];induction l<;>grind
theorem Qz {p:bn} {x:Off} {k:Nat} (a:k<6):dX p (p.classes.length+k) x=x.want.at k:=by
 unfold dX;rw[if_neg (by omega),if_pos (by omega),show((p.classes.length:Int)+k - p.classes.length).toNat=k by omega];rfl
theorem QA {p:bn} {x:Off} {k:Nat} (a:k<6):dX p (p.classes.length+6+k) x=(fj p x).at k:=by
 unfold dX;rw[if_neg (by omega),if_neg (by omega),show((p.classes.length:Int)+6+k - p.classes.length - 6).toNat=k by omega];have:k=0\/k=1\/k=2\/k=3\/k=4\/k=5:=by omega
 rcases this with rfl|rfl|rfl|rfl|rfl|rfl<;>simp[fj,HY,oc,lT,bC.at,bj]
theorem QB {p:bn} {k:Nat} (a:k<6):dn p (p.classes.length+k)=p.supply.at k:=by
 unfold dn;rw[if_neg (by omega),if_pos (by omega),show((p.classes.length:Int)+k - p.classes.length).toNat=k by omega];rfl
theorem QC {p:bn} {k:Nat} (a:k<6):dn p (p.classes.length+6+k)=p.opn.at k:=by
 unfold dn;rw[if_neg (by omega),if_neg (by omega),show((p.classes.length:Int)+6+k - p.classes.length - 6).toNat=k by omega];rfl
theorem QE {p:bn} {r:Int} (a:0<=r) (b:r<p.classes.length):∀{L:List Off},(L.map Off.bX).Nodup->cV p L r<=1/\(r∉L.map Off.bX->cV p L r=0)
 |[],_=>by simp[cV];|x::L,h=>by
  rw[π,γX] at h;obtain⟨d,e⟩:=QE a b h.2;have c:dX p r x=if x.bX=r then 1 else 0:=by unfold dX;omega
  rw[sum_cons,c];grind
theorem QF {p:bn} {L:List Off} (h:jq p L):gk p L=true:=by
 obtain⟨j,i,f⟩:=h;refine o8.2 λr g=>?_;unfold df at g;by_cases l:r<p.classes.length
 ·have:=(QE (p:=p) (r:=r) (by omega) (by omega) j).1;have d:dn p r=1:=by unfold dn;omega
  omega
 by_cases d:r<p.classes.length+6
 ·obtain⟨k,rfl⟩:∃k:Nat,r=p.classes.length+k:=⟨r - p.classes.length,by omega⟩;have c:k<6:=by omega
  have e:(((p.classes.length+k:Nat)):Int)=p.classes.length+k:=by omega
  rw[e,QB c];have a:=Im i k;rw[oo,γ3] at a;have:cV p L (p.classes.length+k)=(L.map ((λb=>bC.at b k)∘Off.want)).sum:=by
   unfold cV;congr 1;simp_all[Qz]
  omega
 ·obtain⟨k,rfl⟩:∃k:Nat,r=p.classes.length+6+k:=⟨r - p.classes.length - 6,by omega⟩;have c:k<6:=by omega
  have e:(((p.classes.length+6+k:Nat)):Int)=p.classes.length+6+k:=by omega
  rw[e,QC c];have a:=Im f k;rw[oo,γ3] at a;have:cV p L (p.classes.length+6+k)=(L.map ((λb=>bC.at b k)∘fj p)).sum:=by
   unfold cV;congr 1;simp_all[QA]
  omega
theorem QG {l:List Off}:∀{t:List Int} {a:Int},t.Pairwise (·<·)->(∀j∈t,a<j/\j<l.length)->eW l a t=some (t.map λi=>bj l i.toNat bp.off.dflt)
 |[],_,_,_=>rfl
 |i::t,a,h,d=>by
  have e:=d i (by simp);have c:=γA.1 h;unfold eW;rw[if_neg (by omega),QG c.2 λj b=>⟨c.1 j b,(d j (by simp[b])).2⟩];rfl
theorem QH {p:bn} (e:bz p=0) {t:List Int} (a:ny 0 p.offers.length t) (c:jq p (cY p t)):di p t=0:=by
 have d:eW p.offers (-1) t=some (cY p t):=QG a.1 λj b=>by have:=a.2 j b;omega
 simp_all[di,jc,eK,QF]
def QI:Bool:=(Γ 9).all λn=>(Γ n).all λb=>hasB (2^n - 1) b
theorem aaS:QI=true:=by kernel_rfl
theorem QJ {p:bn} (a:Good p) {b:Int} (d:0<=b) (c:b<p.classes.length):hasB (allM p) b=true:=by
 have h:=aaS;simp only[QI,φ,γx] at h;have:=h p.classes.length (by have:=a.1;omega) b.toNat (by omega);rwa [show((b.toNat:Nat):Int)=b by omega] at this
theorem aaT {p:bn} (a:Good p):pe p (allM p)=p:=by
 unfold pe;rw[List.filter_eq_self.2 λx b=>QJ a (a.2.2.2.2 x b).1 (a.2.2.2.2 x b).2.1]
theorem DI {p:bn} (b:bz p=0):rE p (allM p)=(cB p).value:=by
 have a:=dR b;rw[aaP b];unfold Ib vT;rw[Qv a.1,aaT a]
theorem QK {p:bn} (a:bz p=0):Qe p (cB p).chosen=0/\jq p (cY p (cB p).chosen)/\ny 0 p.offers.length (cB p).chosen/\(cB p).value=cK (cY p (cB p).chosen):=by
 have d:=dR a;obtain⟨t,b,e,h⟩:=Ii d;have c:jq p (cY p t):=of_decide_eq_true e;have g:=QH a b c;have f:=DI a;simp_all[Qe,Ae,DF]
theorem aaU {p:bn} (d:Good p) {x:Int} (a:0<=x) (c:x<p.classes.length):x∈rD (allM p):=by
 have e:=d.1;have f:=Ad e;have:=Ij (m:=allM p) (b:=x) (by grind[allM]) (by grind[allM]) a (by omega);simp_all[QJ]
theorem QL {p:bn} (b:bz p=0) {m:Int} (c:0<=m) (a:m<2^p.classes.length):rE p m=ki p (rD m) p.supply p.opn:=by
 unfold rE;rw[if_pos];·rfl
 simp_all[Du]
def oq (a:List Int):Nat->Nat
 |0=>0
 |n+1=>if bj a n 0=0 then oq a n else n+1
def bJ (a:List Int):List Int:=a.take (oq a a.length)
def rF:bM:=⟨168,List Int,.one (dM (.i .u32)),λa=>a.length<=1000000000000,λa=> .row (.i .u32) (bJ a)⟩
def aaV (a:List Int):Nat->cF
 |2=> .inv Int (λn=>⟨[(0,.row (.i .u32) a),(3,.si .i64 n)],[]⟩) (λs=>iS s 3) (λn=>0<=n/\n<=a.length/\oq a n.toNat=oq a a.length) (λn=>n.toNat) λ_ _=> .look
 |_=> .look
theorem h152:Holds Tryz.prog rF:=by
 refine cH (L:=[]) rF aaV (by simp) ?_;intro(a:List Int) (h:a.length<=1000000000000);refine bR (let e:=(0:Int);let f:=Ω;let c:=bp.i .u32;let d:=(↑a.length:Int);let l:=γi .i64 d;let g:=(↑a.length:Int);let j:=oq a a.length;((((f c a).same (f c a)/\l.same l/\True)/\True)/\e<=d/\d<=g/\oq a d.toNat=j)/\∀(x:Int),let r:=decide (e<x);let b:=x - (1:Int);let o:=decide (bj a b.toNat e=e);let k:=γi .i64 b;e<=x/\x<=g/\oq a x.toNat=j->(r=true->cu .i64 b/\e<=b/\b<d/\b.toNat<a.length/\(o=true->cu .i64 b/\(((f c a).same (f c a)/\k.same k/\True)/\True)/\(e<=b/\b<=g/\oq a b.toNat=j)/\b.toNat<x.toNat)/\(o=false->e<=x/\e<=x/\0<=x.toNat/\x.toNat<=x.toNat/\x.toNat<=a.length/\(f c (ω (x.toNat - 0) a)).same (f c (bJ a))))/\(r=false->e<=x/\e<=x/\0<=x.toNat/\x.toNat<=x.toNat/\x.toNat<=a.length/\(f c (ω (x.toNat - 0) a)).same (f c (bJ a)))) (by kernel_rfl) ?_;simp only[vcs];refine⟨⟨by omega,by omega,by simp⟩,?_⟩;rintro n ⟨f,t,q⟩;have e:(n.toNat=0\/0<n.toNat/\¬bj a (n.toNat - 1) 0=0)->ω (n.toNat - 0) a=bJ a:=λh=>by
  unfold bJ;rw[<-q];congr 1;rcases h with h|h;·rw[h];rfl
  ·obtain⟨v,h⟩:=h;obtain⟨m,u⟩:∃m,n.toNat=m+1:=⟨n.toNat - 1,by omega⟩;simp_all[oq]
 refine⟨λs=>⟨by omega,by omega,by omega,by omega,λp=>⟨by omega,⟨by omega,by omega,?_⟩,by omega⟩,λp=>⟨f,f,by omega,by omega,by omega,?_⟩⟩,λs=>⟨f,f,by omega,by omega,by omega,e (.inl (by omega))⟩⟩
 ·rw[<-q,show n.toNat=(n - 1).toNat+1 by omega];rw[oq,if_pos p]
 simp_all
def bk:List Int->Int
 |[]=>0
 |d::l=>d+4294967296*bk l
def bA (a:List Int):Prop:=∀d∈a,0<=d/\d<4294967296
def fS:List Int->Prop
 |[]=>True
 |d::l=>(l=[]->d≠0)/\fS l
theorem jr {d:Int} {l:List Int}:bA (d::l)↔(0<=d/\d<4294967296)/\bA l:=by simp[bA]
theorem nz {a:List Int} (h:bA a) (n:Nat):bA (a.take n):=λd b=>h d (γm b)
theorem fp:∀{a:List Int},bA a->0<=bk a
 |[],_=>Int.le_refl _
 |d::l,h=>by
  obtain⟨c,b⟩:=jr.1 h;have:=fp b;grind[bk]
theorem val_zero:∀{a:List Int},bA a->fS a->bk a=0->a=[]
 |[],_,_,_=>rfl
 |d::l,h,b,f=>by
  obtain⟨g,c⟩:=jr.1 h;have:=fp c;simp only[bk] at f;have e:=val_zero c b.2 (by omega);have:=b.1 e;omega
theorem val_inj:∀{a b:List Int},bA a->bA b->fS a->fS b->bk a=bk b->a=b
 |[],b,_,i,_,c,h=>(val_zero i c h.symm).symm
 |d::l,[],f,_,g,_,h=>val_zero f g h
 |d::l,e::m,f,i,g,c,h=>by
  obtain⟨p,j⟩:=jr.1 f;obtain⟨s,k⟩:=jr.1 i;have r:=fp j;have q:=fp k;simp only[bk] at h;have n:d=e:=by omega
  have o:bk l=bk m:=by omega
  rw[n,val_inj j k g.2 c.2 o]
theorem xU:∀{a:List Int} {x:Int},bk (a++[x])=bk a+4294967296^a.length*x
 |[],x=>by simp[bk];|d::l,x=>by
  simp only[γG,bk,xU,γE,γP,εx];grind
theorem Io:∀{a:List Int} {x:Int},x≠0->fS (a++[x])
 |[],x,h=>⟨λ_=>h,trivial⟩
 |d::l,x,h=>⟨λb=>by simp at b,Io h⟩
theorem DJ {a:List Int} {n:Nat} (h:n<a.length):a.take (n+1)=a.take n++[bj a n 0]:=by
 simp_all[cQ]
theorem QM {a:List Int}:∀{n:Nat},n<=a.length->bk (a.take (oq a n))=bk (a.take n)/\fS (a.take (oq a n))
 |0,_=>by simp[oq,fS];|n+1,h=>by
  obtain⟨d,b⟩:=@QM a n (by omega);have c:=DJ (show n<a.length by omega);unfold oq;grind[xU,Io]
theorem rG {a:List Int}:bk (bJ a)=bk a/\fS (bJ a):=by
 have:=@QM a a.length (ξ _);rw[ψ] at this;exact this
theorem sP {a:List Int} (h:bA a):bA (bJ a):=nz h _
theorem uo {a:List Int}:(bJ a).length<=a.length:=by grind[bJ]
def vU:Nat->Int->List Int
 |0,_=>[]
 |k+1,n=>if n<=0 then[] else(n % 4294967296)::vU k (n / 4294967296)
def cM (n:Int):List Int:=vU n.toNat n
theorem QN:∀{k:Nat} {n:Int},0<=n->n.toNat<=k->bk (vU k n)=n/\bA (vU k n)/\fS (vU k n)
 |0,n,b,h=>by
  have:n=0:=by omega
  subst this;exact⟨rfl,by simp[vU,bA],trivial⟩;|k+1,n,b,h=>by
  unfold vU;split
  ·have:n=0:=by omega
   subst this;exact⟨rfl,by simp[bA],trivial⟩
  ·obtain⟨d,a,c⟩:=@QN k (n / 4294967296) (by omega) (by omega);refine⟨by grind[bk],jr.2 ⟨by omega,a⟩,λe f=>?_,c⟩;grind[bk]
theorem gl {n:Int} (h:0<=n):bk (cM n)=n/\bA (cM n)/\fS (cM n):=QN h (ξ _)
theorem Ai {a:List Int} (h:bA a) (b:fS a):cM (bk a)=a:=by
 grind[gl,fp,val_inj]
theorem qD {a:List Int} (h:bA a):bJ a=cM (bk a):=by
 grind[rG,Ai,sP]
theorem ot:∀{a:List Int},bA a->bk a<4294967296^a.length
 |[],_=>by simp[bk];|d::l,h=>by
  obtain⟨c,b⟩:=jr.1 h;have:=ot b;grind[bk]
def jd (s t:List Int):Nat->Int
 |0=>0
 |i+1=>(bj s i 0+jd s t i+bj t i 0) / 4294967296
def sQ (s t:List Int) (i:Nat):Int:=(bj s i 0+jd s t i+bj t i 0) % 4294967296
def pg (s t:List Int) (i:Nat):List Int:=(Γ i).map (sQ s t)++δ (s.length+1 - i) 0
def big (a:List Int×List Int):List Int:=if a.1.length<a.2.length then a.2 else a.1
def lU (a:List Int×List Int):List Int:=if a.1.length<a.2.length then a.1 else a.2
def Aj:bM:=⟨165,List Int×List Int,.cons (dM (.i .u32)) (.one (dM (.i .u32))),λa=>(bA a.1/\bA a.2)/\a.1.length<=100000000000/\a.2.length<=100000000000,λa=> .row (.i .u32) (cM (bk a.1+bk a.2))⟩
def aaW (a:List Int×List Int):Nat->cF
 |6=> .inv Int (λi=>⟨[(0,.row (.i .u32) (big a)),(1,.row (.i .u32) (lU a)),(5,.ow 0 (pg (big a) (lU a) i.toNat).length 1),(6,.si .u64 (jd (big a) (lU a) i.toNat)),(21,.si .i64 (big a).length),(22,.si .i64 i)],[.row (.i .u32) (pg (big a) (lU a) i.toNat) 172 true]⟩) (λs=>iS s 22)
  (λi=>0<=i/\i<=(big a).length) (λi=>((big a).length - i).toNat) λ_ _=> .look
 |_=> .look
theorem ei {a:List Int} (h:bA a) (i:Nat):0<=bj a i 0/\bj a i 0<4294967296:=by
 by_cases b:i<a.length;·rw[cQ b];exact h _ (List.getElem_mem b)
 grind[bj]
theorem DK {a:List Int} {i:Nat} (h:a.length<=i):bj a i 0=0:=by grind[bj]
theorem Ip {s t:List Int} (b:bA s) (a:bA t):∀i,0<=jd s t i/\jd s t i<=1
 |0=>by simp[jd];|i+1=>by
  have h:=Ip b a i;have c:=ei b i;have d:=ei a i;grind[jd]
theorem xW {s t:List Int} {i:Nat} (h:i<=s.length):(pg s t i).length=s.length+1:=by grind[pg]
theorem Iq {s t:List Int} {i:Nat} {v:Int} (h:i<=s.length):(pg s t i).set i v=(Γ i).map (sQ s t)++v::δ (s.length - i) 0:=by
 unfold pg;have a:s.length+1 - i=(s.length - i)+1:=by omega
 rw[a,List.replicate_succ];simp_all
theorem QO {s t:List Int} {i:Nat} (h:i<s.length):pg s t (i+1)=(pg s t i).set i (sQ s t i):=by
 rw[Iq (by omega)];unfold pg;rw[εf,γa,List.append_assoc];simp_all
theorem lV {a:List Int} {i:Nat}:bk (a.take (i+1))=bk (a.take i)+4294967296^i*bj a i 0:=by
 by_cases h:i<a.length;·grind[DJ,xU]
 ·rw[DK (by omega),γo (by omega),γo (by omega)];simp
theorem Is {s t:List Int}:∀i,bk ((Γ i).map (sQ s t))+4294967296^i*jd s t i=bk (s.take i)+bk (t.take i)
 |0=>by simp[jd,bk];|i+1=>by
  have a:=@Is s t i;rw[εf,γa,π,γr,xU,lV,lV,γP];grind[sQ,jd]
theorem h154:Holds Tryz.prog Aj:=by
 refine cH (L:=[rF]) Aj aaW (by simpa using h152) ?_;rintro⟨a,b⟩ ⟨⟨ha,hb⟩,hla,hlb⟩;simp only at ha hb hla hlb;refine bR (let c:=(18446744073709551616:Int);let d:=(0:Int);let e:=(4294967296:Int);let f:=γi .i64;let g:=Ω;let h:=bq.row;let j:=γ1;let m:=(↑(big (a,b)).length:Int);let q:=(↑(big (a,b)).length:Int);let r:=(↑(lU (a,b)).length:Int);let k:=bp.i .u32;let s:=g k (big (a,b));let t:=g k (lU (a,b));let v:=f m;let z:=pg (big (a,b)) (lU (a,b)) 0;let G:=∀(x:Int),let l:=pg (big (a,b)) (lU (a,b)) x.toNat;let n:=l.length;let o:=x+(1:Int);let A:=pg (big (a,b)) (lU (a,b)) o.toNat;let B:=f o;let C:=bj (big (a,b)) x.toNat d;let w:=jd (big (a,b)) (lU (a,b)) x.toNat;let y:=l.set q.toNat (w % e);let D:=λ(u u_1:Int) ↦let E:=(u % c+u_1) % c;d<=(32:Int)/\(32:Int)<=(64:Int)/\l.length=n/\d<=x/\x<(↑n:Int)/\l.length=n/\x.toNat<n/\cu .i64 o/\((s.same s/\t.same t/\(j 0 l.length 1).same (j 0 A.length 1)/\(γi .u64 (E / e)).same (γi .u64 (jd (big (a,b)) (lU (a,b)) o.toNat))/\v.same v/\B.same B/\True)/\(h k (l.set x.toNat (E % e)) 172 true).same (h k A 172 true)/\True)/\(d<=o/\o<=m)/\(m - o).toNat<(m - x).toNat;d<=x/\x<=m->(decide (x<m)=true->d<=x/\x<q/\x.toNat<(big (a,b)).length/\(decide (x<r)=true->d<=x/\x<r/\x.toNat<(lU (a,b)).length/\D (C % c+w) (bj (lU (a,b)) x.toNat d % c))/\(decide (x<r)=false->D C w))/\(decide (x<m)=false->l.length=n/\d<=q/\q<(↑n:Int)/\l.length=n/\q.toNat<n/\l.length=y.length/\y.length<=1000000000000/\(g k (bJ y)).same (g k (cM (bk a+bk b))));let F:=λ(u:Bool) (u_1 u_2:List Int) ↦let p:=(↑u_1.length:Int)+(1:Int);decide ((↑a.length:Int)<(↑b.length:Int))=u->cu .i64 p/\d<=p/\p<=p/\p*(4:Int)<=(140737488355328:Int)/\p<=(1000000000000:Int)/\((((g k u_1).same s/\(g k u_2).same t/\(j 0 p.toNat 1).same (j 0 z.length 1)/\(γy .u64 0).same (γi .u64 (jd (big (a,b)) (lU (a,b)) 0))/\(f (↑u_1.length:Int)).same v/\(γy .i64 0).same (f 0)/\True)/\(h k (d::δ u_1.length d) 172 true).same (h k z 172 true)/\True)/\d<=d/\d<=m)/\G;F true b a/\F false a b) (by kernel_rfl) ?_;simp only[vcs];have hbs:(a.length<b.length/\big (a,b)=b/\lU (a,b)=a)\/(¬a.length<b.length/\big (a,b)=a/\lU (a,b)=b):=by
  by_cases h:a.length<b.length;·exact .inl ⟨h,if_pos h,if_pos h⟩
  ·exact .inr ⟨h,if_neg h,if_neg h⟩
 generalize big (a,b)=s at*;generalize lU (a,b)=t at*;have hrow:∀{u v:List Int},u=v->(bq.row (.i .u32) u 172 true).same (bq.row (.i .u32) v 172 true):=by rintro _ _ rfl;rfl
 have how:∀{u v:Nat},u=v->(γ1 0 u 1).same (γ1 0 v 1):=by rintro _ _ rfl;rfl
 have r0:∀u v:List Int,pg u v 0=0::δ u.length 0:=λu v=>rfl;refine⟨λh=>?_,λh=>?_⟩
 ·obtain⟨h1,e1,e2⟩:a.length<b.length/\s=b/\t=a:=by
   rcases hbs with h2|h2;·exact h2
   ·exact absurd (by omega) h2.1
  subst e1 e2;have hS:bA s:=by assumption
  have hT:bA t:=by assumption
  have hts:t.length<=s.length:=by omega
  have bd:=Ip hS hT;refine⟨⟨by omega,by omega⟩,by omega,by omega,by omega,by omega,⟨⟨⟨rfl,rfl,how (by rw[xW (by omega)];omega),rfl,rfl⟩,hrow (r0 s t).symm⟩,by omega,by omega⟩,?_⟩;rintro i ⟨i0,i1⟩;have l1:=@xW s t i.toNat (by omega);have b1:=bd i.toNat;have d1:=ei hS i.toNat;have d2:=ei hT i.toNat;refine⟨λlW=>?_,λnA=>?_⟩
  ·have l2:=@xW s t (i.toNat+1) (by omega);have e:(i+1).toNat=i.toNat+1:=by omega
   have hst:=QO (s:=s) (t:=t) (show i.toNat<s.length by omega);refine⟨i0,lW,by omega,λht=>?_,λht=>?_⟩
   ·have hv:(((bj s i.toNat 0 % 18446744073709551616+jd s t i.toNat) % 18446744073709551616+bj t i.toNat 0 % 18446744073709551616) % 18446744073709551616)=bj s i.toNat 0+jd s t i.toNat+bj t i.toNat 0:=by omega
    rw[hv,e];exact⟨i0,ht,by omega,by omega,by omega,i0,by omega,by omega,by omega,⟨⟨how (by omega),rfl⟩,hrow hst.symm⟩,by omega,by omega⟩
   ·have hz:=DK (a:=t) (i:=i.toNat) (by omega);have hv:((bj s i.toNat 0 % 18446744073709551616+jd s t i.toNat) % 18446744073709551616)=bj s i.toNat 0+jd s t i.toNat+bj t i.toNat 0:=by omega
    rw[hv,e];exact⟨by omega,by omega,i0,by omega,by omega,by omega,⟨⟨how (by omega),rfl⟩,hrow hst.symm⟩,by omega,by omega⟩
  ·have hi:i.toNat=s.length:=by omega
   have hc:jd s t i.toNat % 4294967296=jd s t i.toNat:=by omega
   rw[hc,γl,hi];rw[hi] at l1 b1;refine⟨by omega,by omega,by omega,by simp,by simp;omega,?_⟩;rw[Iq (ξ _),Nat.sub_self,ε2,qD ?_]
   ·rw[xU];have hv:=@Is s t s.length;rw[ψ,γo hts] at hv;have hl:((Γ s.length).map (sQ s t)).length=s.length:=by simp
    rw[hl,hv];try rw[ζG]
   ·intro d hd;rcases γk.1 hd with hd|hd
    ·obtain⟨j,_,rfl⟩:=Ψ.1 hd;unfold sQ;omega
    ·rw[δy] at hd;omega
 ·obtain⟨h1,e1,e2⟩:¬a.length<b.length/\s=a/\t=b:=by
   rcases hbs with h2|h2;·exact absurd h2.1 (by omega)
   ·exact h2
  subst e1 e2;have hS:bA s:=by assumption
  have hT:bA t:=by assumption
  have hts:t.length<=s.length:=by omega
  have bd:=Ip hS hT;refine⟨⟨by omega,by omega⟩,by omega,by omega,by omega,by omega,⟨⟨⟨rfl,rfl,how (by rw[xW (by omega)];omega),rfl,rfl⟩,hrow (r0 s t).symm⟩,by omega,by omega⟩,?_⟩;rintro i ⟨i0,i1⟩;have l1:=@xW s t i.toNat (by omega);have b1:=bd i.toNat;have d1:=ei hS i.toNat;have d2:=ei hT i.toNat;refine⟨λlW=>?_,λnA=>?_⟩
  ·have l2:=@xW s t (i.toNat+1) (by omega);have e:(i+1).toNat=i.toNat+1:=by omega
   have hst:=QO (s:=s) (t:=t) (show i.toNat<s.length by omega);refine⟨i0,lW,by omega,λht=>?_,λht=>?_⟩
   ·have hv:(((bj s i.toNat 0 % 18446744073709551616+jd s t i.toNat) % 18446744073709551616+bj t i.toNat 0 % 18446744073709551616) % 18446744073709551616)=bj s i.toNat 0+jd s t i.toNat+bj t i.toNat 0:=by omega
    rw[hv,e];exact⟨i0,ht,by omega,by omega,by omega,i0,by omega,by omega,by omega,⟨⟨how (by omega),rfl⟩,hrow hst.symm⟩,by omega,by omega⟩
   ·have hz:=DK (a:=t) (i:=i.toNat) (by omega);have hv:((bj s i.toNat 0 % 18446744073709551616+jd s t i.toNat) % 18446744073709551616)=bj s i.toNat 0+jd s t i.toNat+bj t i.toNat 0:=by omega
    rw[hv,e];exact⟨by omega,by omega,i0,by omega,by omega,by omega,⟨⟨how (by omega),rfl⟩,hrow hst.symm⟩,by omega,by omega⟩
  ·have hi:i.toNat=s.length:=by omega
   have hc:jd s t i.toNat % 4294967296=jd s t i.toNat:=by omega
   rw[hc,γl,hi];rw[hi] at l1 b1;refine⟨by omega,by omega,by omega,by simp,by simp;omega,?_⟩;rw[Iq (ξ _),Nat.sub_self,ε2,qD ?_]
   ·rw[xU];have hv:=@Is s t s.length;rw[ψ,γo hts] at hv;have hl:((Γ s.length).map (sQ s t)).length=s.length:=by simp
    rw[hl,hv];try rw[ζG]
   ·intro d hd;rcases γk.1 hd with hd|hd
    ·obtain⟨j,_,rfl⟩:=Ψ.1 hd;unfold sQ;omega
    ·rw[δy] at hd;omega
theorem xX:∀{a b:List Int},bA a->bA b->fS b->a.length<b.length->bk a<bk b
 |[],b,_,c,f,h=>by
  have n:=fp c;grind[bk,val_zero];|d::l,[],_,_,_,h=>by simp at h;|d::l,e::m,g,c,f,h=>by
  obtain⟨k,j⟩:=jr.1 g;obtain⟨o,i⟩:=jr.1 c;simp only[γE] at h;have:=xX j i f.2 (by omega);grind[bk]
theorem Iu:∀{k:Nat} {a b:List Int},bA a->bA b->k<a.length->k<b.length->a.drop (k+1)=b.drop (k+1)->bj a k 0<bj b k 0->bk a<bk b
 |_,[],_,_,_,h,_,_,_=>by simp at h;|_,_::_,[],_,_,_,h,_,_=>by simp at h;|0,d::l,e::m,f,g,_,_,h,c=>by
  grind[bj,bk];|k+1,d::l,e::m,f,g,n,q,h,c=>by
  obtain⟨p,j⟩:=jr.1 f;obtain⟨o,i⟩:=jr.1 g;simp only[List.drop_succ_cons] at h;simp only[bj,γK] at c;have:=Iu (k:=k) j i (by simp_all) (by simp_all) h c;grind[bk]
theorem DL {a:List Int} {k:Nat} (h:k<a.length):a.drop k=bj a k 0::a.drop (k+1):=by simp_all[cQ]
def lX (x y:Int):Int:=if x<y then -1 else if y<x then 1 else 0
def xY:bM:=⟨140,List Int×List Int,.cons (dM (.i .u32)) (.one (dM (.i .u32))),λa=>(bA a.1/\bA a.2)/\a.1.length<=1000000000000/\a.2.length<=1000000000000,λa=> .si .i64 (lX (bk a.1) (bk a.2))⟩
def aaX (a:List Int×List Int):Nat->cF
 |7=> .inv Int (λi=>⟨[(0,.row (.i .u32) (bJ a.1)),(1,.row (.i .u32) (bJ a.2)),(22,.si .i64 (bJ a.1).length),(23,.si .i64 i)],[]⟩) (λs=>iS s 23)
  (λi=>0<=i/\i<=(bJ a.1).length/\(bJ a.1).drop ((bJ a.1).length - i.toNat)=(bJ a.2).drop ((bJ a.1).length - i.toNat)) (λi=>((bJ a.1).length - i).toNat) λ_ _=> .look
 |_=> .look
theorem h132:Holds Tryz.prog xY:=by
 refine cH (L:=[rF]) xY aaX (by grind[h152]) ?_;rintro⟨a,b⟩ ⟨⟨H,J⟩,r,q⟩;simp only at H J r q;refine bR (let h:=(0:Int);let m:=γi .i64;let q:=γy .i64;let r:=cu .i64;let E:Nat:=(bJ a).length;let j:=(↑E:Int);let B:Nat:=(bJ b).length;let n:=(↑B:Int);let u:=m (lX (bk a) (bk b));let y:=Ω (bp.i .u32) (bJ a);let v:=Ω (bp.i .u32) (bJ b);let l:Nat:=(bJ a).length;let k:=(↑l:Int);let C:=m k;let o:=q 0;let c:=j - (1:Int);a.length<=1000000000000/\b.length<=1000000000000/\(decide (j≠n)=true->(decide (j<n)=true->(q (-1:Int)).same u)/\(decide (j<n)=false->(q 1).same u))/\(decide (j≠n)=false->(((y.same y/\v.same v/\(m j).same C/\o.same (m 0)/\True)/\True)/\h<=h/\h<=k/\γU (l - 0) (bJ a)=γU (l - 0) (bJ b))/\∀(x:Int),let e:=(c - x).toNat;let f:=bj (bJ a) e h;let g:=bj (bJ b) e h;let d:=x+(1:Int);let p:=m d;h<=x/\x<=k/\γU (l - x.toNat) (bJ a)=γU (l - x.toNat) (bJ b)->(decide (x<k)=true->r c/\r (c - x)/\h<=c - x/\c - x<j/\e<E/\h<=c - x/\c - x<n/\e<B/\(decide (f<g)=true->(q (-1:Int)).same u)/\(decide (f<g)=false->h<=c - x/\c - x<j/\e<E/\h<=c - x/\c - x<n/\e<B/\(decide (g<f)=true->(q 1).same u)/\(decide (g<f)=false->r d/\((y.same y/\v.same v/\C.same C/\p.same p/\True)/\True)/\(h<=d/\d<=k/\γU (l - d.toNat) (bJ a)=γU (l - d.toNat) (bJ b))/\(k - d).toNat<(k - x).toNat)))/\(decide (x<k)=false->o.same u))) (by kernel_rfl) ?_;simp only[vcs];obtain⟨R,S⟩:=@rG a;obtain⟨O,N⟩:=@rG b;have z:=sP H;have w:=sP J;have W:=@uo a;rw[<-R,<-O];generalize bJ a=s at*;generalize bJ b=t at*;have G:bk s<bk t-> -1=lX (bk s) (bk t):=λh=>by simp_all[lX]
 have F:bk t<bk s->1=lX (bk s) (bk t):=λh=>by unfold lX;omega
 refine⟨r,q,λP=>⟨λh=>G (xX z w N (by omega)),λh=>F (xX w z S (by omega))⟩,λT=>⟨⟨by omega,by omega,?_⟩,?_⟩⟩;·rw[δ9 (by omega),δ9 (by omega)]
 rintro i ⟨U,X,A⟩;refine⟨λM=>?_,λQ=>?_⟩
 ·have K:((s.length:Int) - 1 - i).toNat=s.length - 1 - i.toNat:=by omega
  have D:s.length - i.toNat=s.length - 1 - i.toNat+1:=by omega
  rw[K];rw[D] at A;generalize V:s.length - 1 - i.toNat=m at*;refine⟨by omega,by omega,by omega,by omega,by omega,by omega,by omega,by omega,λh=>G (Iu z w (by omega) (by omega) A h),λh=>⟨by omega,by omega,by omega,by omega,by omega,by omega,λI=>F (Iu w z (by omega) (by omega) A.symm I),λI=>⟨by omega,⟨by omega,by omega,?_⟩,by omega⟩⟩⟩;rw[show s.length - (i+1).toNat=m by omega,DL (show m<s.length by omega),DL (show m<t.length by omega),A,show bj s m 0=bj t m 0 by omega]
 simp_all[lX]
def gY (d:Int):List Int->List Int×Int
 |[]=>([],0)
 |x::l=>(((gY d l).2*4294967296+x) / d::(gY d l).1,((gY d l).2*4294967296+x) % d)
theorem QP {d:Int}:∀{a:List Int},(gY d a).1.length=a.length
 |[]=>rfl
 |x::l=>by simp[gY,QP]
theorem DN {d:Int} (e:0<d) (k:d<4294967296):∀{a:List Int},bA a->bA (gY d a).1/\(0<=(gY d a).2/\(gY d a).2<d)/\bk (gY d a).1*d+(gY d a).2=bk a
 |[],_=>by grind[gY,bk];|x::l,h=>by
  obtain⟨n,g⟩:=jr.1 h;obtain⟨j,⟨p,s⟩,o⟩:=DN e k g;simp only[gY];generalize (gY d l).1=q at*;generalize (gY d l).2=r at*;have f:=δx (r*4294967296+x) (show d≠0 by omega);have i:=δh (r*4294967296+x) e;have c:0<=(r*4294967296+x) / d:=Int.ediv_nonneg (by omega) (by omega);have b:(r*4294967296+x) / d<4294967296:=by
   refine Int.ediv_lt_of_lt_mul e ?_;omega
  refine⟨jr.2 ⟨⟨c,b⟩,j⟩,⟨f,i⟩,?_⟩;simp only[bk];have m:=Int.mul_ediv_add_emod (r*4294967296+x) d;grind
theorem aaY {d:Int} (i:0<d) (h:d<4294967296) {a:List Int} (g:bA a):bJ (gY d a).1=cM (bk a / d)/\(gY d a).2=bk a % d:=by
 obtain⟨e,⟨c,b⟩,f⟩:=DN i h g;rw[qD e];have j:=fp e;have k:bk a / d=bk (gY d a).1:=by
  rw[<-f,ζG,Int.add_mul_ediv_right _ _ (by omega),εL c b,Int.zero_add]
 have l:bk a % d=(gY d a).2:=by
  rw[<-f,ζG,Int.add_mul_emod_self_right,δJ c b]
 simp_all
theorem Iw {r x:Int} (d:0<=r) (g:r<4294967296) (a:0<=x) (e:x<4294967296):gX.nW .u64 (r*4294967296) x=r*4294967296+x:=by
 obtain⟨m,rfl⟩:=δE d;obtain⟨k,rfl⟩:=δE a;have b:(γn 64 ((m:Int)*4294967296)).toNat=2^32*m:=by
  grind[BitVec.toNat_ofInt]
 have c:(γn 64 (k:Int)).toNat=k:=by
  grind
 have f:(γn 64 ((m:Int)*4294967296) |||γn 64 (k:Int)).toNat=2^32*m+k:=by
  rw[BitVec.toNat_or,b,c,Nat.two_pow_add_eq_or_of_lt (by omega)]
 show fc .u64 ((γn 64 ((m:Int)*4294967296) |||γn 64 (k:Int)).toNat:Nat)=_;grind[tN,IntKind.wrap,IntKind.bits,IntKind.signed]
def Ix:bM:=⟨186,List Int×Int,.cons (dM (.i .u32)) (.one (eA .u32)),λa=>bA a.1/\a.1.length<=100000000000/\0<a.2/\a.2<4294967296,λa=> .bI [.row (.i .u32) (cM (bk a.1 / a.2)),.si .u32 (bk a.1 % a.2)]⟩
def lY (a:List Int) (d:Int) (i:Nat):List Int:=δ (a.length - i) 0++(gY d (a.drop (a.length - i))).1
def lD (a:List Int) (d:Int) (i:Nat):Int:=(gY d (a.drop (a.length - i))).2
def aaZ (a:List Int×Int):Nat->cF
 |4=> .inv Int (λi=>⟨[(0,.row (.i .u32) a.1),(1,.si .u32 a.2),(6,.ow 0 (lY a.1 a.2 i.toNat).length 1),(7,.si .u64 (lD a.1 a.2 i.toNat)),(15,.si .i64 a.1.length),(16,.si .i64 i)],[.row (.i .u32) (lY a.1 a.2 i.toNat) 172 true]⟩) (λs=>iS s 16)
  (λi=>0<=i/\i<=a.1.length) (λi=>(a.1.length - i).toNat) λ_ _=> .look
 |_=> .look
theorem Iy {a:List Int} {d:Int} {i:Nat} (h:i<=a.length):(lY a d i).length=a.length:=by
 grind[lY,QP]
theorem drop_cons {a:List Int} {k:Nat} (h:k<a.length):a.drop k=bj a k 0::a.drop (k+1):=DL h
theorem QQ {q:List Int} {y:Int}:∀k,(δ (k+1) 0++q).set k y=δ k 0++y::q
 |0=>by simp;|k+1=>by
  have:=@QQ q y k;grind
theorem u64_in {n:Int} (b:0<=n) (a:n<18446744073709551616):cu .u64 n:=by
 show IntKind.u64.wrap n=n;grind[IntKind.wrap,IntKind.bits,IntKind.signed]
theorem h167:Holds Tryz.prog Ix:=by
 refine cH (L:=[rF]) Ix aaZ (by simpa using h152) ?_;rintro⟨a,d⟩ ⟨ha,hla,d0,d1⟩;simp only at ha hla d0 d1;refine bR (let b:=(0:Int);let c:=(18446744073709551616:Int);let e:=(4294967296:Int);let f:=γi .i64;let g:=Ω;let h:=bq.row;let j:=cu .i64;let k:=(1:Int);let l:=γ1;let n:=(↑a.length:Int);let o:=bp.i .u32;let q:=(↑a.length:Int);let t:=f q;let s:=d % c;b<=n/\n<=n/\n*(4:Int)<=(140737488355328:Int)/\n<=(1000000000000:Int)/\((((g o a).same (g o a)/\(γi .u32 d).same (γi .u32 d)/\(l 0 n.toNat 1).same (l 0 (lY a d 0).length 1)/\(γy .u64 0).same (γi .u64 (lD a d 0))/\(f n).same t/\(γy .i64 0).same (f 0)/\True)/\(h o (δ n.toNat b) 172 true).same (h o (lY a d 0) 172 true)/\True)/\b<=b/\b<=q)/\∀(x:Int),let p:=n - k - x;let u:=gX.nW .u64 (lD a d x.toNat*e % c) (bj a p.toNat b % c);let m:=lY a d x.toNat;let r:=x+k;let v:=f r;b<=x/\x<=q->(decide (x<q)=true->j (n - k)/\j p/\b<=(32:Int)/\(32:Int)<=(64:Int)/\b<=p/\p<n/\p.toNat<a.length/\s≠b/\cu .u64 (u.tdiv s)/\s≠b/\m.length=m.length/\b<=p/\p<(↑m.length:Int)/\m.length=m.length/\p.toNat<m.length/\j r/\(((g o a).same (g o a)/\(γi .u32 d).same (γi .u32 d)/\(l 0 m.length 1).same (l 0 (lY a d r.toNat).length 1)/\(γi .u64 (u.tmod s)).same (γi .u64 (lD a d r.toNat))/\t.same t/\v.same v/\True)/\(h o (m.set p.toNat (u.tdiv s % e)) 172 true).same (h o (lY a d r.toNat) 172 true)/\True)/\(b<=r/\r<=q)/\(q - r).toNat<(q - x).toNat)/\(decide (x<q)=false->m.length=m.length/\m.length<=1000000000000/\(SV.bI [g o (bJ m),γi .u32 (lD a d x.toNat % e)]).same (SV.bI [g o (cM (bk a / d)),γi .u32 (bk a % d)]))) (by kernel_rfl) ?_;simp only[vcs];have hrow:∀{u v:List Int},u=v->(bq.row (.i .u32) u 172 true).same (bq.row (.i .u32) v 172 true):=by rintro _ _ rfl;rfl
 have how:∀{u v:Nat},u=v->(γ1 0 u 1).same (γ1 0 v 1):=by rintro _ _ rfl;rfl
 have z1:lY a d 0=δ a.length 0:=by simp[lY,gY]
 have z2:lD a d 0=0:=by simp[lD,gY]
 refine⟨by omega,by omega,by omega,by omega,⟨⟨⟨how (by rw[Iy (by omega)];omega),z2.symm⟩,hrow (by rw[z1,γl])⟩,by omega,by omega⟩,?_⟩;rintro i ⟨i0,i1⟩;have l1:=@Iy a d i.toNat (by omega);have l2:=λh=>@Iy a d (i+1).toNat h;have dd:d % 18446744073709551616=d:=by omega
 refine⟨λlW=>?_,λnA=>?_⟩
 ·have hx:((a.length:Int) - 1 - i).toNat=a.length - 1 - i.toNat:=by omega
  have hk1:a.length - i.toNat=a.length - 1 - i.toNat+1:=by omega
  have hk2:a.length - (i+1).toNat=a.length - 1 - i.toNat:=by omega
  have hR:lY a d i.toNat=δ (a.length - 1 - i.toNat+1) 0++(gY d (a.drop (a.length - 1 - i.toNat+1))).1:=by unfold lY;rw[hk1]
  have hC:lD a d i.toNat=(gY d (a.drop (a.length - 1 - i.toNat+1))).2:=by unfold lD;rw[hk1]
  have hR2:lY a d (i+1).toNat=δ (a.length - 1 - i.toNat) 0++(gY d (a.drop (a.length - 1 - i.toNat))).1:=by unfold lY;rw[hk2]
  have hC2:lD a d (i+1).toNat=(gY d (a.drop (a.length - 1 - i.toNat))).2:=by unfold lD;rw[hk2]
  have hlt:a.length - 1 - i.toNat<a.length:=by omega
  rw[hx];have l3:=l2 (by omega);generalize a.length - 1 - i.toNat=k at*;have hdr:=drop_cons hlt;have hdig:bA (a.drop k):=λz hz=>ha z (γR hz);obtain⟨q1,q2,q3⟩:=DN d0 d1 (a:=a.drop (k+1)) (λz hz=>ha z (γR hz));obtain⟨p1,p2,p3⟩:=DN d0 d1 hdig;rw[hdr] at hR2 hC2 p1 p2;simp only[gY] at hR2 hC2 p1 p2;have hxd:=ei ha k;rw[<-hC] at hR2 hC2 p1 p2 q2;have e1:lD a d i.toNat*4294967296 % 18446744073709551616=lD a d i.toNat*4294967296:=by omega
  have e2:bj a k 0 % 18446744073709551616=bj a k 0:=by omega
  rw[e1,e2,dd,Iw (by omega) (by omega) hxd.1 hxd.2];have hv0:0<=lD a d i.toNat*4294967296+bj a k 0:=by omega
  rw[Int.tdiv_eq_ediv_of_nonneg hv0,Int.tmod_eq_emod_of_nonneg hv0];have hq:=(jr.1 p1).1;have hqm:(lD a d i.toNat*4294967296+bj a k 0) / d % 4294967296=(lD a d i.toNat*4294967296+bj a k 0) / d:=δJ hq.1 hq.2;rw[hqm];refine⟨by omega,by omega,by omega,by omega,by omega,by omega,by omega,by omega,u64_in hq.1 (by omega),by omega,by omega,by omega,by omega,by omega,⟨⟨how (by omega),hC2.symm⟩,hrow ?_⟩,by omega,by omega⟩;rw[hR2,hR,QQ]
 ·have hi:a.length - i.toNat=0:=by omega
  have hR:lY a d i.toNat=(gY d a).1:=by unfold lY;rw[hi];simp
  have hC:lD a d i.toNat=(gY d a).2:=by unfold lD;rw[hi];simp
  obtain⟨k1,k2⟩:=aaY d0 d1 ha;have hm:=δx (bk a) (show d≠0 by omega);have hl:=δh (bk a) d0;refine⟨by omega,by rw[hR,k1],?_⟩;rw[hC,k2];omega
def ix:Nat->Int->List Int
 |0,_=>[]
 |k+1,x=>x % 4294967296::ix k (x / 4294967296)
theorem Ak:∀{k:Nat} {x:Int},(ix k x).length=k
 |0,_=>rfl
 |k+1,x=>by simp[ix,Ak]
theorem Iz:∀{k:Nat} {x:Int},bA (ix k x)
 |0,_=>by simp[ix,bA];|k+1,x=>jr.2 ⟨by omega,Iz⟩
theorem QR:∀{l:List Int},bA l->ix l.length (bk l)=l
 |[],_=>rfl
 |d::l,h=>by
  obtain⟨e,b⟩:=jr.1 h;simp only[γE,ix,bk];have c:(d+4294967296*bk l) % 4294967296=d:=by omega
  have a:(d+4294967296*bk l) / 4294967296=bk l:=by omega
  rw[c,a,QR b]
theorem IA {l:List Int} {k:Nat} {x:Int} (h:bA l) (b:l.length=k) (a:bk l=x):l=ix k x:=by
 grind[QR]
theorem pow_pos (k:Nat):(0:Int)<4294967296^k:=Int.pow_pos (by decide)
theorem IB:∀{k:Nat} {x:Int},0<=x->x<4294967296^k->bk (ix k x)=x
 |0,x,b,a=>by grind[ix,bk];|k+1,x,b,a=>by
  rw[γP] at a;simp only[ix,bk];rw[IB (k:=k) (x:=x / 4294967296) (by omega) (by omega)];omega
theorem IC:∀{a b:List Int},bk (a++b)=bk a+4294967296^a.length*bk b
 |[],b=>by simp[bk];|d::l,b=>by
  simp only[γG,bk,IC,γE,γP,εx];grind
theorem uq:∀{l:List Int} {j:Nat} {v:Int},j<l.length->bk (l.set j v)=bk l+4294967296^j*(v - bj l j 0)
 |[],_,_,h=>by simp at h;|d::l,0,v,_=>by grind[bk,bj];|d::l,j+1,v,h=>by
  have a:=@uq l j v (by simpa using h);grind[bj,bk]
theorem nB {l:List Int} {j:Nat} {v:Int} (h:bA l) (c:0<=v) (b:v<4294967296):bA (l.set j v):=by
 intro d a;rcases List.mem_or_eq_of_mem_set a with a|rfl;·exact h d a
 omega
theorem Am {a:List Int} (h:bA a) (n:Nat):bA (a.drop n):=λd b=>h d (γR b)
theorem QS {a b:List Int} (e:bA a) (c:bA b):bA (a++b):=λd f=>by
 rcases γk.1 f with h|h;·exact e d h
 ·exact c d h
theorem sS {l:List Int} {j:Nat} {v:Int} (h:j<l.length):bj (l.set j v) j 0=v:=by
 grind[bj]
theorem pQ {l:List Int} {i j:Nat} {v:Int} (h:i≠j):bj (l.set i v) j 0=bj l j 0:=by
 grind[bj]
theorem An:∀{l:List Int} {i j:Nat},bA l->bk l<4294967296^i->i<=j->bj l j 0=0
 |[],_,_,_,_,_=>by simp[bj];|d::l,0,j,h,a,c=>by
  obtain⟨e,b⟩:=jr.1 h;have:=fp b;simp only[bk,Int.pow_zero] at a;have f:d=0:=by omega
  have g:bk l=0:=by omega
  cases j with
  |zero=>simp[bj,f];|succ j=>
   have:=An (l:=l) (i:=0) (j:=j) b (by simp;omega) (by omega);grind[bj]
 |d::l,i+1,j,h,a,c=>by
  obtain⟨e,b⟩:=jr.1 h;cases j with
  |zero=>omega;|succ j=>
   rw[γP] at a;simp only[bk] at a;have:=An (l:=l) (i:=i) (j:=j) b (by omega) (by omega);grind[bj]
def iy (o b:List Int) (x:Int) (i:Nat):Nat->List Int×Int
 |0=>(o,0)
 |k+1=>((iy o b x i k).1.set (i+k) ((x*bj b k 0+bj (iy o b x i k).1 (i+k) 0+(iy o b x i k).2) % 4294967296),(x*bj b k 0+bj (iy o b x i k).1 (i+k) 0+(iy o b x i k).2) / 4294967296)
theorem QT {o b:List Int} {x:Int} {i:Nat} (d:bA o) (g:bA b) (f:0<=x) (m:x<4294967296):∀{k:Nat},i+k<=o.length->
  bA (iy o b x i k).1/\(iy o b x i k).1.length=o.length/\(0<=(iy o b x i k).2/\(iy o b x i k).2<4294967296)/\(∀j,i+k<=j->bj (iy o b x i k).1 j 0=bj o j 0)/\
  bk (iy o b x i k).1+4294967296^(i+k)*(iy o b x i k).2=bk o+4294967296^i*(x*bk (b.take k))
 |0,h=>by simp[iy,d,bk];|k+1,h=>by
  obtain⟨l,t,⟨v,s⟩,u,r⟩:=@QT o b x i d g f m k (by omega);simp only[iy];generalize (iy o b x i k).1=p at*;generalize (iy o b x i k).2=c at*;have a:=ei g k;have q:=ei l (i+k);have n:0<=x*bj b k 0:=γu f a.1;have e:x*bj b k 0<=4294967295*4294967295:=δF (by omega) (by omega) a.1 (by omega);grind[nB,uq,lV,bj]
def prt (U:List Int) (j k:Nat):List Int:=(U.drop j).take k
theorem QU {U:List Int} {j k:Nat}:bj (U.drop j) k 0=bj U (j+k) 0:=by
 grind[bj]
theorem lZ {U:List Int} {j k:Nat}:bk (prt U j (k+1))=bk (prt U j k)+4294967296^k*bj U (j+k) 0:=by
 grind[prt,lV,QU]
theorem uu {U:List Int} {j k i:Nat} {d:Int} (h:k<=i):prt (U.set (j+i) d) j k=prt U j k:=by
 unfold prt;apply List.ext_getElem?;grind
theorem uv {U:List Int} (h:bA U) {j k:Nat}:bA (prt U j k):=nz (Am h j) k
theorem aa0 {U:List Int} {j k:Nat} (h:j+k<=U.length):(prt U j k).length=k:=by
 grind[prt]
theorem vV {U:List Int} (h:bA U) {j k:Nat}:bk (prt U j k)<4294967296^k:=by
 have g:=ot (uv h (j:=j) (k:=k));have e:(prt U j k).length<=k:=by grind[prt]
 have i:(4294967296:Int)^(prt U j k).length<=4294967296^k:=by
  have d:∀{a b:Nat},a<=b->(4294967296:Int)^a<=4294967296^b:=λ{a b} c=>by
   obtain⟨m,rfl⟩:=Nat.exists_eq_add_of_le c;rw[Int.pow_add];have f:=pow_pos a;have l:=pow_pos m;have:=Ξ (show(1:Int)<=4294967296^m by omega) (γe f);omega
  exact d e
 omega
def js (U:List Int) (j:Nat) (l:List Int):List Int:=U.take j++(l++U.drop (j+l.length))
theorem aa1 {a b:List Int} (c:a.length=b.length) (h:∀m,bj a m 0=bj b m 0):a=b:=by
 apply List.ext_getElem c;intro m d e;have:=h m;grind[cQ]
theorem QV {U l:List Int} {j:Nat} (h:j+l.length<=U.length):(js U j l).length=U.length:=by
 grind[js]
theorem aa2 {U l:List Int} {j m:Nat} (h:j+l.length<=U.length):bj (js U j l) m 0=if m<j then bj U m 0 else if m<j+l.length then bj l (m - j) 0 else bj U m 0:=by
 unfold js bj;grind
theorem xZ {U W:List Int} {j k:Nat} {x:Int} (d:bA W) (f:W.length=U.length) (g:j+k<=U.length) (e:∀m,(m<j\/j+k<=m)->bj W m 0=bj U m 0) (a:bk (prt W j k)=x):W=js U j (ix k x):=by
 have b:prt W j k=ix k x:=IA (uv d) (aa0 (by omega)) a;have c:=@Ak k x;apply aa1;·grind[QV]
 ·intro m;rw[aa2 (by omega),c];split;·simp_all
  ·split
   ·rw[<-b];unfold prt;have:bj ((W.drop j).take k) (m - j) 0=bj (W.drop j) (m - j) 0:=by
     unfold bj;grind
    grind[QU]
   simp_all
section
variable {P V X v1 v2 u2 top rv ru g r:Int}
theorem aa3 (e:0<P) (n:V=rv+P*(v2+4294967296*v1)) (l:X=ru+P*(u2+4294967296*top)) (a:0<=rv) (f:ru<P) (d:X<4294967296*V) (b:0<=V)
  (c:0<=g) (j:g*v1+r=top) (h:4294967296<=g\/r*4294967296+u2<g*v2):X<g*V:=by
 rcases h with h|h;·exact Int.lt_of_lt_of_le d (γQ h b)
 ·have k:g*V=g*rv+P*(g*v2+4294967296*(top - r)):=by
   grind
  have i:P*(u2+1+4294967296*top)<=P*(g*v2+4294967296*(top - r)):=Ξ (by omega) (γe e);have m:0<=g*rv:=γu c a;grind
theorem QW (c:0<P) (k:V=rv+P*(v2+4294967296*v1)) (n:X=ru+P*(u2+4294967296*top)) (a:0<=rv) (b:rv<P) (f:0<=ru) (e:2147483648<=v1) (j:0<=v2)
  (i:0<=g) (d:g<4294967296) (o:g*v1+r=top) (h:g*v2<=r*4294967296+u2):g*V<X+V:=by
 have m:g*V=g*rv+P*(g*v2+4294967296*(top - r)):=by
  grind
 have q:P*(g*v2+4294967296*(top - r))<=P*(u2+4294967296*top):=Ξ (by omega) (γe c);have p:g*rv<=4294967295*rv:=γQ (by omega) a;have l:P*4294967296<=P*(v2+4294967296*v1):=Ξ (by omega) (γe c);omega
theorem aa4 (c:0<P) (p:V=rv+P*(v2+4294967296*v1)) (k:X=ru+P*(u2+4294967296*top)) (b:0<=rv) (e:ru<P) (a:0<=v2) (f:u2<4294967296)
  (d:0<=g) (o:g*v1+r=top) (l:r<v1):X<(g+1)*V:=by
 have n:(g+1)*V=(g+1)*rv+((g+1)*(P*v2)+P*(4294967296*((g+1)*v1))):=by
  grind
 have j:0<=(g+1)*rv:=γu (by omega) b;have h:0<=(g+1)*(P*v2):=γu (by omega) (γu (γe c) a);have i:top+1<=(g+1)*v1:=by grind
 have m:P*(u2+1+4294967296*top)<=P*(4294967296*((g+1)*v1)):=Ξ (by omega) (γe c);grind
theorem aa5 {b a:Int} (c:0<P) (l:V=rv+P*(v2+4294967296*v1)) (k:X=ru+P*(u2+4294967296*(b+4294967296*a))) (d:rv<P) (f:0<=ru) (e:0<=u2) (i:0<=b) (j:v2<4294967296)
  (g:X<4294967296*V):a<=v1:=by
 by_cases h:a<=v1;·exact h
 ·exfalso;have m:P*(4294967296*(4294967296*(v1+1)))<=P*(u2+4294967296*(b+4294967296*a)):=Ξ (by omega) (γe c);have n:P*(v2+4294967296*v1)<=P*(4294967296*(v1+1) - 1):=Ξ (by omega) (γe c);grind
theorem vW {X V q:Int} (e:q*V<=X) (c:X<(q+1)*V):X / V=q/\X % V=X - q*V:=by
 rw[Int.add_mul,Int.one_mul] at c;have d:0<V:=by omega
 have b:X=(X - q*V)+V*q:=by grind
 have a:X / V=q:=by
  conv=>lhs;rw[b]
  rw[Int.add_mul_ediv_left _ _ (by omega),εL (by omega) (by omega),Int.zero_add]
 refine⟨a,?_⟩;rw[Int.emod_def,a,Int.mul_comm]
end
theorem IE {p:Int} (a:0<=p) (e:p<18446744073709551616):gX.vB .u64 p 4294967295=p % 4294967296:=by
 obtain⟨m,rfl⟩:=δE a;have b:(γn 64 ((m:Nat):Int)).toNat=m:=by grind
 have c:(γn 64 4294967295).toNat=4294967295:=by simp_all
 have d:(γn 64 ((m:Nat):Int) &&&γn 64 4294967295).toNat=m % 4294967296:=by
  rw[BitVec.toNat_and,b,c];exact Nat.and_two_pow_sub_one_eq_mod m 32
 show fc .u64 ((γn 64 ((m:Nat):Int) &&&γn 64 4294967295).toNat:Nat)=_;grind[tN,IntKind.wrap,IntKind.bits]
theorem IG {U W v:List Int} {j i:Nat} {g c b d e:Int} (n:bA W) (f:W.length=U.length) (o:bA v) (h:0<=g) (r:g<4294967296) (y:0<=c) (t:c<4294967296) (s:0<=b) (q:b<=1) (u:j+i<U.length)
  (l:∀m,(m<j\/j+i<=m)->bj W m 0=bj U m 0)
  (k:bk (prt W j i)=bk (prt U j i) - g*bk (v.take i)+4294967296^i*(c+b))
  (a:0<=d/\d<4294967296) (w:d - 4294967296*e=bj W (j+i) 0 - (g*bj v i 0+c) % 4294967296 - b):
  bA (W.set (j+i) d)/\(W.set (j+i) d).length=U.length/\(0<=(g*bj v i 0+c) / 4294967296/\(g*bj v i 0+c) / 4294967296<4294967296)/\
  (∀m,(m<j\/j+(i+1)<=m)->bj (W.set (j+i) d) m 0=bj U m 0)/\
  bk (prt (W.set (j+i) d) j (i+1))=bk (prt U j (i+1)) - g*bk (v.take (i+1))+4294967296^(i+1)*((g*bj v i 0+c) / 4294967296+e):=by
 have x:=ei o i;have z:0<=g*bj v i 0:=γu h x.1;have p:g*bj v i 0<=4294967295*4294967295:=δF (by omega) (by omega) x.1 (by omega);refine⟨nB n a.1 a.2,by simp[f],by omega,λm A=>by grind[pQ],?_⟩;have B:=l (j+i) (.inr (ξ _));rw[lZ,lZ,uu (ξ _),sS (by omega),k,lV,γP];grind
theorem II {U W v:List Int} {j i:Nat} {c s:Int} (a:bA W) (d:W.length=U.length) (b:bA v) (n:0<=c) (l:c<=1) (h:j+i<U.length) (g:bA U)
  (e:∀m,(m<j\/j+i<=m)->bj W m 0=bj U m 0)
  (k:bk (prt W j i)+4294967296^i*c=bk (prt U j i)+bk (v.take i)) (o:s=bj W (j+i) 0+bj v i 0+c):
  bA (W.set (j+i) (s % 4294967296))/\(W.set (j+i) (s % 4294967296)).length=U.length/\(0<=s / 4294967296/\s / 4294967296<=1)/\
  (∀m,(m<j\/j+(i+1)<=m)->bj (W.set (j+i) (s % 4294967296)) m 0=bj U m 0)/\
  bk (prt (W.set (j+i) (s % 4294967296)) j (i+1))+4294967296^(i+1)*(s / 4294967296)=bk (prt U j (i+1))+bk (v.take (i+1)):=by
 have x:=ei b i;have y:=ei a (j+i);refine⟨nB a (by omega) (by omega),by simp[d],by omega,λm p=>by grind[pQ],?_⟩;have f:=e (j+i) (.inr (ξ _));rw[lZ,lZ,uu (ξ _),sS (by omega),lV,γP];grind
theorem aa6 {v:List Int} {n:Nat} (a:2<=n) (b:v.length=n):bk v=bk (v.take (n - 2))+4294967296^(n - 2)*(bj v (n - 2) 0+4294967296*bj v (n - 1) 0):=by
 obtain⟨m,rfl⟩:∃m,n=m+2:=⟨n - 2,by omega⟩;grind[lV]
theorem aa7 {U:List Int} {j n:Nat} (a:2<=n):bk (prt U j (n+1))=bk (prt U j (n - 2))+4294967296^(n - 2)*(bj U (j+(n - 2)) 0+4294967296*(bj U (j+(n - 1)) 0+4294967296*bj U (j+n) 0)):=by
 obtain⟨m,rfl⟩:∃m,n=m+2:=⟨n - 2,by omega⟩;grind[lZ]
end Go.Vi
