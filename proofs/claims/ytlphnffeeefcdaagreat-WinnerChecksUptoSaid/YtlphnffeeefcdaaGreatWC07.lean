/-
  Contracts: the reference's problem.
  Conditions: none.
-/
import Derived.Test.YtlphnffeeefcdaaGreatWC06
import Derived.KernelRfl
set_option maxRecDepth 100000
set_option maxHeartbeats 4000000
set_option linter.all false
open And renaming intro->γe
open BitVec renaming ofInt->γl
open Classical renaming not_not->γa
open Go.Vi.SV renaming bl->γ0,si->Ω,il->γo,row->Δ,ptr->γU,ow->γz
open Int renaming toNat_natCast->γb,le_trans->ε4,pow_succ->γs,mul_add->εx,add_comm->ζt,emod_nonneg->γ9,emod_lt_of_pos->γM,emod_eq_of_lt->δp,eq_ofNat_of_zero_le->δI,mul_nonneg->γh,mul_le_mul->δy,sub_zero->ε5,mul_assoc->γO
open List renaming take->τ,mem_of_mem_take->γi,take_length->χ,drop->γ3,mem_singleton->δ9,mem_map->γf,map_append->γg,map_cons->φ,map_nil->γv,drop_length->δV,cons_append->γC,length_cons->γy,range->Θ,mem_filter->γJ,foldl_cons->δN,mem_cons->γD,mem_append->γu,nodup_cons->γ1,pairwise_cons->γx,all_eq_true->ξ,mem_range->γp,filter_sublist->δx,getElem?_cons_succ->γw,map_map->δn,drop_of_length_le->δ7,replicate->δ,replicate_succ->δk,range_succ->εe,take_of_length_le->γc,replicate_zero->εU,mem_of_mem_drop->γW,getElem?_replicate->εC,eq_of_mem_replicate->εB
open List.Nodup renaming sublist->ζI
open Nat renaming le_refl->ψ
open Option renaming map->ζf,isSome_iff_exists->γk,getD_some->γ2,map_eq_some_iff->ε
namespace Go.Vi
open Go.Proofs.YtlphnffeeefcdaaGreat.Ir
open Go.Proofs
def H6:bL:=⟨36,bG,.one (dZ .eL),λ_=>True,λb=> .sb b.ok⟩
theorem h68:Holds Tryz.prog H6:=by
 refine cq (L:=[]) H6 (λ_ _=> .ry 7) (by simp) ?_;intro b _;refine bQ (let h:=γ0 false;let o:=SV.sb;let p:=(0:Int);let q:=(4:Int);let i:=decide (b.a0<p);let d:=decide (q<b.a0);let k:=decide (b.a1<p);let e:=decide (q<b.a1);let l:=decide (b.a2<p);let f:=decide (q<b.a2);let j:=decide (b.a3<p);let m:=decide (q<b.a3);let n:=decide (b.a4<p);let g:=decide (q<b.a4);let a:=decide (b.a5<p);let c:=decide (q<b.a5);(i=true->(h).same (o (bG.ok b)))/\(i=false->(d=true->(h).same (o (bG.ok b)))/\(d=false->(k=true->(h).same (o (bG.ok b)))/\(k=false->(e=true->(h).same (o (bG.ok b)))/\(e=false->(l=true->(h).same (o (bG.ok b)))/\(l=false->(f=true->(h).same (o (bG.ok b)))/\(f=false->(j=true->(h).same (o (bG.ok b)))/\(j=false->(m=true->(h).same (o (bG.ok b)))/\(m=false->(n=true->(h).same (o (bG.ok b)))/\(n=false->(g=true->(h).same (o (bG.ok b)))/\(g=false->(a=true->(h).same (o (bG.ok b)))/\(a=false->(c=true->(h).same (o (bG.ok b)))/\(c=false->(γ0 true).same (o (bG.ok b))))))))))))))) (by kernel_rfl) ?_;conv=>zeta
 have o:=@bG.jM b;by_cases h:b.ok=true<;>simp_all
def o9 (p:bz) (r:Int) (o:Off):Int:=
 if r - p.classes.length<0 then(if o.ck=r then 1 else 0)
 else if r - p.classes.length<6 then bp [o.want.a0,o.want.a1,o.want.a2,o.want.a3,o.want.a4,o.want.a5] (r - p.classes.length).toNat 0
 else if bp [p.cls.a0,p.cls.a1,p.cls.a2,p.cls.a3,p.cls.a4,p.cls.a5] (r - p.classes.length - 6).toNat 0=0\/p.classes.length<=o.ck\/bp [p.cls.a0,p.cls.a1,p.cls.a2,p.cls.a3,p.cls.a4,p.cls.a5] (r - p.classes.length - 6).toNat 0=bp p.classes o.ck.toNat 0 then 0
 else bp [o.want.a0,o.want.a1,o.want.a2,o.want.a3,o.want.a4,o.want.a5] (r - p.classes.length - 6).toNat 0
theorem Qo {p:bz} {r:Int} {o:Off} (h:o.ck<p.classes.length):o9 p r o=dW p r o:=by
 unfold o9 dW;omega
def Dt:bL:=⟨62,bz×Int×Off,.cons dO (.cons (ef .i64) (.one (dZ .off))),λa=>a.1.classes.length<=8/\0<=a.2.1/\a.2.1<cE a.1/\0<=a.2.2.ck,
 λa=> .bN [.si .i64 (o9 a.1 a.2.1 a.2.2),.si .i64 (di a.1 a.2.1)]⟩
theorem h110:Holds Tryz.prog Dt:=by
 refine cq (L:=[]) Dt (λ_ _=> .ry 7) (by simp) ?_;rintro⟨p,r,x⟩ ⟨D,z,B,A⟩;simp only[cE] at D z B A;refine bQ (let h:=(0:Int);let j:=(6:Int);let v:=Ω .i64;let w:=bU .i64;let y:=SV.bN;let b:=(↑p.classes.length:Int);let a:=r - b - j;let o:=γo .i64 0;let k:=y [v (o9 p r x),v (di p r)];let q:=bp [p.cls.a0,p.cls.a1,p.cls.a2,p.cls.a3,p.cls.a4,p.cls.a5] a.toNat h;let t:=decide (x.ck=r);let e:=γo .i64 1;let g:=decide (r<b+j);let i:=decide (x.ck<b);let l:=h<=a/\a<j/\a.toNat<6/\(y [o,v (bp [p.opn.a0,p.opn.a1,p.opn.a2,p.opn.a3,p.opn.a4,p.opn.a5] a.toNat h)]).same k;let n:=λ(u f:Int) (c:bG) ↦let d:=(u - f).toNat;h<=u - f/\u - f<j/\d<6/\(y [v (bp [x.want.a0,x.want.a1,x.want.a2,x.want.a3,x.want.a4,x.want.a5] d h),v (bp [c.a0,c.a1,c.a2,c.a3,c.a4,c.a5] d h)]).same k;let m:=λ(u:Bool) ↦decide (q≠bp p.classes x.ck.toNat h)=u;let s:=λ(u:Bool) ↦decide (q≠h)=u;(decide (r<b)=true->(t=true->(y [e,e]).same k)/\(t=false->(y [o,e]).same k))/\(decide (r<b)=false->w (b+j)/\(g=true->w (r - b)/\h<=r - b/\r - b<j/\(r - b).toNat<6/\w (r - b)/\n r b p.supply)/\(g=false->w (r - b)/\w a/\h<=a/\a<j/\a.toNat<6/\(s true->(i=true->h<=a/\a<j/\a.toNat<6/\h<=x.ck/\x.ck<b/\x.ck.toNat<p.classes.length/\(m true->h<=a/\a<j/\a.toNat<6/\n (r - b) j p.opn)/\(m false->l))/\(i=false->l))/\(s false->l)))) (by kernel_rfl) ?_;simp only[vcs];have G:r - p.classes.length<0->di p r=1:=λh=>by simp_all[di]
 have E:¬r - p.classes.length<0->r - p.classes.length<6->di p r=bp [p.supply.a0,p.supply.a1,p.supply.a2,p.supply.a3,p.supply.a4,p.supply.a5] (r - p.classes.length).toNat 0:=λh j=>by simp_all[di,if_neg]
 have v:¬r - p.classes.length<0->¬r - p.classes.length<6->di p r=bp [p.opn.a0,p.opn.a1,p.opn.a2,p.opn.a3,p.opn.a4,p.opn.a5] (r - p.classes.length - 6).toNat 0:=λh j=>by simp_all[di,if_neg]
 have F:r - p.classes.length<0->o9 p r x=if x.ck=r then 1 else 0:=λh=>by simp_all[o9]
 have H:¬r - p.classes.length<0->r - p.classes.length<6->o9 p r x=bp [x.want.a0,x.want.a1,x.want.a2,x.want.a3,x.want.a4,x.want.a5] (r - p.classes.length).toNat 0:=λh j=>by simp_all[o9,if_neg]
 have y:=λ(h:¬r - p.classes.length<0) (j:¬r - p.classes.length<6)=>(show o9 p r x=_ by unfold o9;rw[if_neg h,if_neg j]);refine⟨λw=>?_,λw=>⟨by omega,λC=>?_,λC=>?_⟩⟩;·grind
 ·grind
 ·rw[v (by omega) (by omega),y (by omega) (by omega)];omega
def M1:List bL:=[Dt,H6]
theorem hM1:∀c∈M1,Holds Tryz.prog c:=by
 simp_all[M1,h110,h68]
def Du:bL:=⟨37,bz×List Off,.cons dO (.one (cV .off)),λa=>a.1.classes.length<=8/\a.2.length<=1000/\(∀x∈a.2,0<=x.ck/\x.ck<a.1.classes.length/\x.want.ok=true),λa=> .sb (gd a.1 a.2)⟩
def aae (a:bz×List Off):Nat->cC
 |2=> .inv Int (λi=>⟨[(1,.row .off a.2),(2,.ptr 0 0 20),(5,.si .i64 i)],[.cells a.1.ss 27 20 false]⟩) (λs=>iS s 5)
  (λi=>0<=i/\i<=cE a.1/\∀r:Nat,r<i->cT a.1 a.2 r<=di a.1 r) (λi=>(cE a.1 - i).toNat)
  λi=>λ
   |6=> .inv (Int×Int) (λx=>⟨[(1,.row .off a.2),(2,.ptr 0 0 20),(5,.si .i64 i),(6,.si .i64 x.2),(7,.si .i64 x.1)],[.cells a.1.ss 27 20 false]⟩)
    (λs=>(iS s 7,iS s 6))
    (λx=>0<=x.1/\x.1<=a.2.length/\x.2=cT a.1 (a.2.take x.1.toNat) i) (λx=>(a.2.length - x.1).toNat) λ_ _=> .look
   |_=> .look
 |_=> .look
theorem h69:Holds Tryz.prog Du:=by
 refine cq (L:=M1) Du aae hM1 ?_;rintro⟨p,l⟩ ⟨A,G,q⟩;simp only at A G q;refine bQ (let d:=(0:Int);let i:=Ω .i64;let j:=Δ;let o:=γo .i64 0;let q:=bU .i64;let s:=γo .i64;let b:=γU 0 0 20;let c:=bA.cells (bz.ss p) 27 20 false;let v:=(↑p.classes.length:Int)+(12:Int);let k:=(↑l.length:Int);((((j bw.off l).same (j bw.off l)/\b.same b/\(o).same (i 0)/\True)/\c.same c/\True)/\d<=d/\d<=cE p/\∀(r:Nat),(↑r:Int)<d->cT p l (↑r:Int)<=di p (↑r:Int))/\∀(x:Int),let f:=x+(1:Int);let E:=i f;(d<=x/\x<=cE p/\∀(r:Nat),(↑r:Int)<x->cT p l (↑r:Int)<=di p (↑r:Int))->q v/\(decide (x<v)=true->((((j bw.off l).same (j bw.off l)/\b.same b/\(i x).same (i x)/\(o).same (i 0)/\(o).same (i 0)/\True)/\c.same c/\True)/\d<=d/\d<=k/\d=cT p [] x)/\∀(a:Int×Int),let D:=decide (a.fst<(↑l.length:Int));let C:=bp l a.fst.toNat bw.off.dflt;let w:=a.snd+o9 p x C;let e:=a.fst+(1:Int);let n:=i x;let h:=i w;let m:=i e;let g:=decide (di p x<a.snd);d<=a.fst/\a.fst<=k/\a.snd=cT p (τ a.fst.toNat l) x->(D=true->d<=a.fst/\a.fst<(↑l.length:Int)/\a.fst.toNat<l.length/\(p.classes.length<=8/\d<=x/\x<cE p/\d<=C.ck)/\q w/\q e/\(((j bw.off l).same (j bw.off l)/\b.same b/\n.same n/\h.same h/\m.same m/\True)/\c.same c/\True)/\(d<=e/\e<=k/\w=cT p (τ e.toNat l) x)/\(k - e).toNat<(k - a.fst).toNat)/\(D=false->(p.classes.length<=8/\d<=x/\x<cE p/\d<=d)/\(g=true->(γ0 false).same (SV.sb (gd p l)))/\(g=false->q f/\(((j bw.off l).same (j bw.off l)/\b.same b/\E.same E/\True)/\c.same c/\True)/\(d<=f/\f<=cE p/\∀(r:Nat),(↑r:Int)<f->cT p l (↑r:Int)<=di p (↑r:Int))/\(cE p - f).toNat<(cE p - x).toNat)))/\(decide (x<v)=false->(γ0 true).same (SV.sb (gd p l)))) (by kernel_rfl) ?_;simp only[vcs];have T:cE p=p.classes.length+12:=rfl;have P:∀x∈l,x.want.ok=true:=λx y=>(q x y).2.2;refine⟨⟨by omega,by omega,λr J=>by omega⟩,?_⟩;rintro i ⟨H,F,S⟩;refine⟨by omega,λN=>⟨⟨by omega,by omega,by simp[cT]⟩,?_⟩,?_⟩
 ·rintro⟨j,s⟩ ⟨u,o,B⟩;simp only at u o B ⊢;have Q:=@sL p i (l.take j.toNat) λx y=>P x (γi y);have z:(l.take j.toNat).length<=l.length:=by simp;omega
  refine⟨λt=>?_,λt=>?_⟩
  ·have O:=q _ (dn (d:=bw.off.dflt) (show j.toNat<l.length by omega));have R:=@o6 p i _ O.2.2;grind[HU,Qo]
  ·have:j.toNat=l.length:=by omega
   rw[this,χ] at B;refine⟨⟨A,by omega,by omega,by omega⟩,λK=>?_,λM=>⟨by omega,⟨by omega,by omega,λr J=>?_⟩,by omega⟩⟩
   ·symm;rw[Bool.eq_false_iff];intro I;have:=o7.1 I i.toNat (by omega);grind
   grind
 grind[o7]
def xT:bL:=⟨17,bz,.one dO,λp=>True,λp=> .si .i64 (bH p)⟩
def aaf (p:bz):Nat->cC
 |11=> .inv Int (λk=>⟨[(1,.ptr 0 0 20),(4,.si .i64 k)],[.cells p.ss 27 20 false]⟩) (λs=>iS s 4) (λk=>0<=k/\k<=p.classes.length/\∀c∈p.classes.take k.toNat,0<=c/\c<=4) (λk=>(p.classes.length - k).toNat) λ_ _=> .look
 |16=> .inv Int (λi=>⟨[(1,.ptr 0 0 20),(5,.si .i64 i)],[.cells p.ss 27 20 false]⟩) (λs=>iS s 5)
  (λi=>0<=i/\i<=p.offers.length/\jc p [] p.offers=jc p ((p.offers.take i.toNat).map Off.key) (p.offers.drop i.toNat)) (λi=>(p.offers.length - i).toNat)
  λi=>λ
   |26=> .inv Int (λk=>⟨[(1,.ptr 0 0 20),(5,.si .i64 i),(6,.ptr 1 0 8),(7,.si .i64 k)],[.cells p.ss 27 20 false,.cells (encS .off (bp p.offers i.toNat bw.off.dflt)) 55 8 false]⟩) (λs=>iS s 7)
    (λk=>0<=k/\k<=i/\∀j:Nat,j<k->(bp p.offers j bw.off.dflt).key≠(bp p.offers i.toNat bw.off.dflt).key) (λk=>(i - k).toNat) λ_ _=> .look
   |_=> .look
 |4=> .inv Int (λk=>⟨[(1,.ptr 0 0 20),(3,.si .i64 k)],[.cells p.ss 27 20 false]⟩) (λs=>iS s 3) (λk=>0<=k/\k<=6/\∀j:Nat,j<k->iG p j) (λk=>(6 - k).toNat) λ_ _=> .look
 |_=> .look
theorem aag {b:bG}:(decide (b.a0=0)&&(decide (b.a1=0)&&(decide (b.a2=0)&&(decide (b.a3=0)&&(decide (b.a4=0)&&(decide (b.a5=0)&&true))))))=decide (b=bG.zero):=by
 simp_all[Db,bG.zero]
theorem aah {b c:bG}:(decide (b.a0=c.a0)&&(decide (b.a1=c.a1)&&(decide (b.a2=c.a2)&&(decide (b.a3=c.a3)&&(decide (b.a4=c.a4)&&(decide (b.a5=c.a5)&&true))))))=decide (b=c):=by
 grind[Db]
theorem aai {a:Type} {l:List a} {i:Int} {d x:a} (b:i<=l.length) (h:x∈l.take i.toNat):∃j:Nat,(j:Int)<i/\bp l j d=x:=by
 obtain⟨j,c,rfl⟩:=List.mem_iff_getElem.1 h;grind[dj]
theorem h24:Holds Tryz.prog xT:=by
 refine cq (L:=Du::M1) xT aaf (by grind[h69,hM1]) ?_;intro p _;refine bQ (let d:=(0:Int);let e:=Ω .i64;let h:=γo .i64;let i:=(6:Int);let k:=(1:Int);let l:=(4:Int);let o:=bU .i64;let g:=e (bH p);let n:=γU 0 0 20;let U:=h 0;let m:=bA.cells (bz.ss p) 27 20 false;let C:=[p.cls.a0,p.cls.a1,p.cls.a2,p.cls.a3,p.cls.a4,p.cls.a5];let G:=[p.opn.a0,p.opn.a1,p.opn.a2,p.opn.a3,p.opn.a4,p.opn.a5];let I:=[p.supply.a0,p.supply.a1,p.supply.a2,p.supply.a3,p.supply.a4,p.supply.a5];let y:=p.classes.length;let Q:=(↑y:Int);let A:=decide ((8:Int)<Q);let H:=p.offers.length;let s:=(↑H:Int);let b1:=decide ((160:Int)<s);let t:=(↑p.classes.length:Int);let F:=(↑p.offers.length:Int);let N:=jc p [] p.offers;let B:=bw.off.dflt;let K:=γU 1 0 8;True/\((!p.supply.ok)=true->(h 4).same g)/\((!p.supply.ok)=false->(((n.same n/\U.same (e 0)/\True)/\m.same m/\True)/\d<=d/\d<=i/\∀(j:Nat),(↑j:Int)<d->iG p j)/\∀(x:Int),let v:=x+k;let W:=e v;let b3:=decide (x<i);let S:=bp C x.toNat d;let a7:=decide (S<d);let b9:=decide (l<S);let E:=bp G x.toNat d;let c7:=decide (E<d);let M:=bp I x.toNat d;let c0:=decide (S=d);let Y:=o v/\((n.same n/\W.same W/\True)/\m.same m/\True)/\(d<=v/\v<=i/\∀(j:Nat),(↑j:Int)<v->iG p j)/\(i - v).toNat<(i - x).toNat;(d<=x/\x<=i/\∀(j:Nat),(↑j:Int)<x->iG p j)->(b3=true->d<=x/\x<i/\x.toNat<6/\(a7=true->(h 4).same g)/\(a7=false->d<=x/\x<i/\x.toNat<6/\(b9=true->(h 4).same g)/\(b9=false->d<=x/\x<i/\x.toNat<6/\(c7=true->(h 4).same g)/\(c7=false->d<=x/\x<i/\x.toNat<6/\d<=x/\x<i/\x.toNat<6/\(decide (M<E)=true->(h 4).same g)/\(decide (M<E)=false->d<=x/\x<i/\x.toNat<6/\(c0=true->d<=x/\x<i/\x.toNat<6/\d<=x/\x<i/\x.toNat<6/\(decide (E≠M)=true->(h 4).same g)/\(decide (E≠M)=false->Y))/\(c0=false->Y))))))/\(b3=false->(A=true->(h 3).same g)/\(A=false->(b1=true->(h 3).same g)/\(b1=false->(((n.same n/\U.same (e 0)/\True)/\m.same m/\True)/\d<=d/\d<=t/\∀(c:Int),c∈[]->d<=c/\c<=l)/\∀(x:Int),let b7:=bp p.classes x.toNat d;let c2:=decide (b7<d);let c5:=decide (l<b7);let r:=x+k;let X:=e r;(d<=x/\x<=t/\∀(c:Int),c∈τ x.toNat p.classes->d<=c/\c<=l)->(decide (x<Q)=true->d<=x/\x<Q/\x.toNat<y/\(c2=true->(h 4).same g)/\(c2=false->d<=x/\x<Q/\x.toNat<y/\(c5=true->(h 4).same g)/\(c5=false->o r/\((n.same n/\X.same X/\True)/\m.same m/\True)/\(d<=r/\r<=t/\∀(c:Int),c∈τ r.toNat p.classes->d<=c/\c<=l)/\(t - r).toNat<(t - x).toNat)))/\(decide (x<Q)=false->(((n.same n/\U.same (e 0)/\True)/\m.same m/\True)/\d<=d/\d<=F/\N=N)/\∀(x:Int),let f:=bp p.offers x.toNat B;let a:=f.want;let D:=f.ck;let b4:=decide (D<d);let c6:=decide (f.value<k);let V:=decide ((1000000:Int)<f.value);let J:=bA.cells [e D,e a.a0,e a.a1,e a.a2,e a.a3,e a.a4,e a.a5,e f.value] 55 8 false;let q:=x+k;let b8:=e q;let a6:=λ(u:Bool) ↦(decide (a.a0=d)&&(decide (a.a1=d)&&(decide (a.a2=d)&&(decide (a.a3=d)&&(decide (a.a4=d)&&(decide (a.a5=d)&&true))))))=u;d<=x/\x<=F/\N=jc p (List.map Off.key (τ x.toNat p.offers)) (γ3 x.toNat p.offers)->(decide (x<s)=true->d<=x/\x<s/\x.toNat<H/\(b4=true->(h 6).same g)/\(b4=false->(decide (Q<=D)=true->(h 6).same g)/\(decide (Q<=D)=false->(c6=true->(h 4).same g)/\(c6=false->(V=true->(h 4).same g)/\(V=false->True/\((!a.ok)=true->(h 4).same g)/\((!a.ok)=false->(a6 true->(h 4).same g)/\(a6 false->(p.classes.length<=8/\1<=1000/\∀(x:Off),x∈[f]->d<=x.ck/\x.ck<t/\x.want.ok=true)/\((!gd p [f])=true->(h 14).same g)/\((!gd p [f])=false->(((n.same n/\(e x).same (e x)/\K.same K/\U.same (e 0)/\True)/\m.same m/\J.same J/\True)/\d<=d/\d<=x/\∀(j:Nat),(↑j:Int)<d->(bp p.offers j B).key≠f.key)/\∀(b:Int),let w:=b+k;let b0:=e x;let c1:=e w;let b5:=bp p.offers b.toNat B;let z:=b5.want;let c3:=decide (b5.ck=D);let Z:=o w/\((n.same n/\b0.same b0/\K.same K/\c1.same c1/\True)/\m.same m/\J.same J/\True)/\(d<=w/\w<=x/\∀(j:Nat),(↑j:Int)<w->(bp p.offers j B).key≠f.key)/\(x - w).toNat<(x - b).toNat;let b2:=λ(u:Bool) ↦(decide (z.a0=a.a0)&&(decide (z.a1=a.a1)&&(decide (z.a2=a.a2)&&(decide (z.a3=a.a3)&&(decide (z.a4=a.a4)&&(decide (z.a5=a.a5)&&true))))))=u;(d<=b/\b<=x/\∀(j:Nat),(↑j:Int)<b->(bp p.offers j B).key≠f.key)->(decide (b<x)=true->d<=b/\b<s/\b.toNat<H/\(c3=true->d<=b/\b<s/\b.toNat<H/\(b2 true->(h 7).same g)/\(b2 false->Z))/\(c3=false->Z))/\(decide (b<x)=false->o q/\((n.same n/\b8.same b8/\True)/\m.same m/\True)/\(d<=q/\q<=F/\N=jc p (List.map Off.key (τ q.toNat p.offers)) (γ3 q.toNat p.offers))/\(F - q).toNat<(F - x).toNat)))))))))/\(decide (x<s)=false->U.same g))))))) (by kernel_rfl) ?_;simp only[aag,aah];simp only[vcs];have e4:iR p=4->(4:Int)=bH p:=λh=>by simp[bH,h]
 have e3:iR p=3->(3:Int)=bH p:=λh=>by simp[bH,h]
 refine⟨λP=>e4 (Qc P),λP=>⟨⟨by omega,by omega,λj hj=>by omega⟩,?_⟩⟩;rintro k ⟨d2,c8,hk⟩;refine⟨λC=>?_,λa8=>?_⟩
 ·have d0:¬iG p k.toNat->(4:Int)=bH p:=λh=>e4 (Qd P (by omega) h);have c9:iG p k.toNat->∀(j:Nat),(j:Int)<k+1->iG p j:=λh j hj=>by
   by_cases R:(j:Int)<k;·exact hk j R
   ·rw[show j=k.toNat from by omega];exact h
  repeat' (first|refine γe ?_ ?_|intro _)
  all_goals first
   |omega;|exact d0 λhh=>by have h2:=pR.1 hh;omega;|exact c9 (pR.2 (by omega)) _ (by assumption)
 ·have l:∀j:Nat,j<6->iG p j:=λj hj=>hk j (by omega);refine⟨λh=>e3 (Dh P l (.inl (by omega))),λh8=>⟨λh=>e3 (Dh P l (.inr (by omega))),λd4=>⟨⟨by omega,by omega,by simp⟩,?_⟩⟩⟩;rintro i ⟨I,a9,G⟩;refine⟨λC=>?_,λa8=>?_⟩
  ·have hm:=dn (d:=0) (show i.toNat<p.classes.length by omega);refine⟨by omega,by omega,by omega,λh=>e4 (Di P l (by omega) hm (by omega)),λh1=>⟨by omega,by omega,by omega,λh=>e4 (Di P l (by omega) hm (by omega)),λh2=>⟨by omega,⟨by omega,by omega,?_⟩,by omega⟩⟩⟩;exact Qf I C G (by omega)
  ·rw[show i.toNat=p.classes.length from by omega,χ] at G;have hz:iR p=0:=Qe P l (by omega) G;have ce:bH p=jc p [] p.offers:=by simp[bH,hz]
   refine⟨⟨by omega,by omega⟩,?_⟩;rintro i ⟨I,a9,G⟩;refine⟨λC=>?_,λa8=>?_⟩
   ·rw[ua (d:=bw.off.dflt) I C] at G;generalize hx:bp p.offers i.toNat bw.off.dflt=x at G ⊢;have oe:∀c:Int,c≠0->kr p x=c->c=bH p:=λc hc h=>by
     rw[ce,G];simp only[jc,h];rw[if_pos hc]
    have se:∀c:Int,c≠0->kQ p.classes.length x=c->c=bH p:=λc hc h=>oe c hc (by
     unfold kr;rw[if_pos (by omega),h]);refine⟨by omega,by omega,by omega,λh1=>?_,λh1=>⟨λh2=>?_,λh2=>⟨λh3=>?_,λh3=>⟨λh4=>?_,λh4=>⟨λT=>?_,λT=>⟨λh6=>?_,λh6=>?_⟩⟩⟩⟩⟩⟩;·exact se 6 (by decide) (by unfold kQ;rw[if_pos (by omega)])
    ·exact se 6 (by decide) (by unfold kQ;rw[if_pos (by omega)])
    ·exact se 4 (by decide) (by unfold kQ;rw[if_neg (by omega),if_pos (by omega)])
    ·exact se 4 (by decide) (by unfold kQ;rw[if_neg (by omega),if_pos (by omega)])
    ·exact se 4 (by decide) (by unfold kQ;rw[if_neg (by omega),if_neg (by omega),T];rfl)
    ·have O:kQ p.classes.length x=0:=by unfold kQ;rw[if_neg (by omega),if_neg (by omega),T];rfl
     exact oe 4 (by decide) (by simp[kr,O,h6])
    ·have O:kQ p.classes.length x=0:=by unfold kQ;rw[if_neg (by omega),if_neg (by omega),T];rfl
     refine⟨⟨by omega,by omega,λy hy=>?_⟩,λh7=>?_,λh7=>⟨⟨by omega,by omega,λj hj=>by omega⟩,?_⟩⟩
     ·rw[δ9.1 hy];exact⟨by omega,by omega,T⟩
     ·exact oe 14 (by decide) (by simp[kr,O,h6,h7])
     ·have b6:kr p x=0:=by simp[kr,O,h6,h7]
      rintro k ⟨d2,c8,hk⟩;have c4:(bp p.offers k.toNat bw.off.dflt).key≠x.key->∀j:Nat,(j:Int)<k+1->(bp p.offers j bw.off.dflt).key≠x.key:=λh j hj=>by
       by_cases R:(j:Int)<k;·exact hk j R
       ·rw[show j=k.toNat from by omega];exact h
      refine⟨λd6=>⟨by omega,by omega,by omega,λh8=>⟨by omega,by omega,by omega,λh9=>?_,λh9=>⟨by omega,⟨by omega,by omega,?_⟩,by omega⟩⟩,λh8=>⟨by omega,⟨by omega,by omega,?_⟩,by omega⟩⟩,λd5=>⟨by omega,⟨by omega,by omega,?_⟩,by omega⟩⟩
      ·have d1:(bp p.offers k.toNat bw.off.dflt).key=x.key:=by
        show nT.mk _ _=nT.mk _ _;rw[h8,h9]
       have A:x.key∈(p.offers.take i.toNat).map Off.key:=by
        rw[<-d1];refine γf.2 ⟨_,?_,rfl⟩;rw[dj (by omega)];exact List.mem_take_iff_getElem.2 ⟨k.toNat,by omega,rfl⟩
       rw[ce,G];simp only[jc,b6,ne_eq,not_true,if_false,if_pos A]
      ·refine c4 λe=>h9 ?_;injection e
      ·refine c4 λe=>h8 ?_;injection e
      ·have d3:x.key∉(p.offers.take i.toNat).map Off.key:=by
        intro A;obtain⟨o,ho,he⟩:=γf.1 A;obtain⟨j,hj,rfl⟩:=aai (d:=bw.off.dflt) a9 ho;exact hk j (by omega) he
       rw[G,jN (d:=bw.off.dflt) I C,hx];simp only[jc,b6,ne_eq,not_true,if_false,if_neg d3,γg,φ,γv]
   ·rw[show i.toNat=p.offers.length from by omega,δV] at G;rw[ce,G];rfl
def M2:List bL:=xT::Du::M1
theorem hM2:∀c∈M2,Holds Tryz.prog c:=by
 grind[M2,h24,h69,hM1]
def H7:bL:=⟨38,bz×List Int,.cons dO (.one (cV (.i .i64))),λa=>a.2.length<=9223372036854775807/\a.1.offers.length<=1000,λa=> .bN [.row .off (dy a.1 a.2),.sb (gp a.1 a.2)]⟩
def kx (c:List Int) (i:Int):Int:=if i=0 then -1 else bp c (i - 1).toNat 0
def aaj (a:bz×List Int):Nat->cC
 |3=> .inv (Int×List Off) (λx=>⟨[(1,.row (.i .i64) a.2),(2,.ptr 0 0 20),(6,.ow 1 x.2.length 8),(7,.si .i64 x.1)],
   [.cells a.1.ss 27 20 false,.row .off x.2 55 true]⟩) (λs=>(iS s 7,oS .off s 1))
  (λx=>0<=x.1/\x.1<=a.2.length/\(x.2.length<=kx a.2 x.1+1/\kx a.2 x.1<1000)/\ -1<=kx a.2 x.1/\eF a.1.offers (-1) a.2=(eF a.1.offers (kx a.2 x.1) (a.2.drop x.1.toNat)).map (x.2++·)) (λx=>(a.2.length - x.1).toNat) λ_ _=> .look
 |_=> .look
theorem h109:Holds Tryz.prog H7:=by
 refine cq (L:=M2) H7 aaj hM2 ?_;rintro⟨p,c⟩ ⟨Y,F⟩;have Y:c.length<=9223372036854775807:=Y;have F:p.offers.length<=1000:=F;refine bQ (let d:=Ω .i64;let f:=(0:Int);let h:=Δ;let j:=(1:Int);let n:=γ0 false;let q:=(-1:Int);let r:=(1000:Int);let u:=SV.bN;let m:=bw.i .i64;let J:=γU 0 0 20;let X:=γz 1 0 8;let K:=bA.cells [d p.supply.a0,d p.supply.a1,d p.supply.a2,d p.supply.a3,d p.supply.a4,d p.supply.a5,d p.opn.a0,d p.opn.a1,d p.opn.a2,d p.opn.a3,d p.opn.a4,d p.opn.a5,d p.cls.a0,d p.cls.a1,d p.cls.a2,d p.cls.a3,d p.cls.a4,d p.cls.a5,h m p.classes,h bw.off p.offers] 27 20 false;let W:=bA.row bw.off [] 55 true;let y:=(↑c.length:Int);let M:=kx c f;let T:=eF p.offers q c;let o:=(↑c.length:Int);let N:=u [h bw.off (dy p c),SV.sb (gp p c)];let t:=p.offers.length;let s:=(↑t:Int);let V:=bw.off.dflt;((((h m c).same (h m c)/\J.same J/\X.same X/\(γo .i64 0).same (d 0)/\True)/\K.same K/\W.same W/\True)/\f<=f/\f<=y/\(f<=M+j/\M<r)/\q<=M/\T=ζf (λx ↦(f,[]).snd++x) (eF p.offers M c))/\∀(x:Int×List Off),let a:=bp c x.fst.toNat f;let I:=x.snd.length+1;let b:=x.fst+j;let g:=x.snd++[bp p.offers a.toNat V];let D:=d b;let v:=bA.row bw.off g 55 true;let l:=kx c b;let k:=kx c x.fst;let H:=decide (a<f);let E:=decide (f<x.fst);let e:=x.fst - j;let B:=decide (a<=bp c e.toNat f);let A:=f<=x.fst/\x.fst<o/\x.fst.toNat<c.length/\f<=a/\a<s/\a.toNat<t/\x.snd.length=x.snd.length/\I*64<=140737488355328/\I<=1000000000000/\bU .i64 b/\(((h m c).same (h m c)/\J.same J/\(γz 1 g.length 8).same (γz 1 g.length 8)/\D.same D/\True)/\K.same K/\v.same v/\True)/\(f<=b/\b<=y/\((↑g.length:Int)<=l+j/\l<r)/\q<=l/\T=ζf (λx ↦(b,g).snd++x) (eF p.offers l (γ3 b.toNat c)))/\(y - b).toNat<(y - x.fst).toNat;f<=x.fst/\x.fst<=y/\((↑x.snd.length:Int)<=k+j/\k<r)/\q<=k/\T=ζf (λO ↦x.snd++O) (eF p.offers k (γ3 x.fst.toNat c))->(decide (x.fst<o)=true->f<=x.fst/\x.fst<o/\x.fst.toNat<c.length/\(H=true->(u [h m [],n]).same N)/\(H=false->f<=x.fst/\x.fst<o/\x.fst.toNat<c.length/\(decide (s<=a)=true->(u [h m [],n]).same N)/\(decide (s<=a)=false->(E=true->f<=x.fst/\x.fst<o/\x.fst.toNat<c.length/\bU .i64 e/\f<=e/\e<o/\e.toNat<c.length/\(B=true->(u [h m [],n]).same N)/\(B=false->A))/\(E=false->A))))/\(decide (x.fst<o)=false->x.snd.length=x.snd.length/\(u [h bw.off x.snd,γ0 true]).same N)) (by kernel_rfl) ?_;simp only[vcs];have C:eF p.offers (-1) c=none->(Δ (.i .i64) []).same (Δ .off (dy p c))/\false=gp p c:=λh=>⟨Qb.2 (by simp[dy,h]),by simp[gp,h]⟩;refine⟨⟨by omega,by omega,by simp[kx],by simp[kx]⟩,?_⟩;rintro⟨i,u⟩ ⟨z,P,G,R,q⟩;simp only at z P G R q ⊢;refine⟨λS=>?_,λa6=>?_⟩
 ·rw[ua (d:=0) z S] at q;have w:kx c (i+1)=bp c i.toNat 0:=by unfold kx;grind
  have U:i≠0->kx c i=bp c (i - 1).toNat 0:=λh=>by simp_all[kx]
  have Q:i=0->kx c i= -1:=λh=>by simp_all[kx]
  generalize hx:bp c i.toNat 0=x at q w ⊢;simp only[eF] at q;have j:¬(x<=kx c i\/p.offers.length<=x)->eF p.offers (-1) c=(eF p.offers (kx c (i+1)) (c.drop (i+1).toNat)).map λr=>(u++[bp p.offers x.toNat bw.off.dflt])++r:=λh=>by
   rw[if_neg h] at q;rw[q,w,Option.map_map];congr 1;grind
  have n:(x<=kx c i\/p.offers.length<=x)->(Δ (.i .i64) []).same (Δ .off (dy p c))/\false=gp p c:=λh=>C (by simp_all);have f:¬(x<=kx c i\/p.offers.length<=x)->((u++[bp p.offers x.toNat bw.off.dflt]).length:Int)<=kx c (i+1)+1/\kx c (i+1)<1000:=λh=>by
   grind
  refine⟨by omega,by omega,by omega,λZ=>n (.inl (by omega)),λZ=>⟨by omega,by omega,by omega,λh2=>n (.inr (by omega)),λh2=>⟨λh3=>⟨by omega,by omega,by omega,by omega,by omega,by omega,by omega,λh4=>n (.inl (by omega)),λh4=>?_⟩,λh3=>?_⟩⟩⟩
  ·have:=U (by omega);refine⟨by omega,by omega,by omega,by omega,by omega,by omega,by omega,by omega,by omega,⟨by omega,by omega,f (by omega),by omega,j (by omega)⟩,by omega⟩
  ·have:=Q (by omega);refine⟨by omega,by omega,by omega,by omega,by omega,by omega,by omega,by omega,by omega,⟨by omega,by omega,f (by omega),by omega,j (by omega)⟩,by omega⟩
 ·rw[show i.toNat=c.length from by omega,δV] at q;grind[eF,dy,gp]
def M3:List bL:=H7::M2
theorem GI:∀c∈M3,Holds Tryz.prog c:=by
 grind[M3,h109,hM2]
def Dv:bL:=⟨18,bz×List Int,.cons dO (.one (cV (.i .i64))),λa=>a.2.length<=9223372036854775807,λa=> .si .i64 (cH a.1 a.2)⟩
theorem h55:Holds Tryz.prog Dv:=by
 refine cq (L:=M3) Dv (λp=>λ_=> .look) GI ?_;rintro⟨p,c⟩ (n:c.length<=9223372036854775807);refine bQ (let a:=γo .i64;let e:=decide (bH p≠(0:Int));let d:=Ω .i64 (cH p c);let f:=!gd p (dy p c);True/\(e=true->(Ω .i64 (bH p)).same d)/\(e=false->(c.length<=9223372036854775807/\p.offers.length<=1000)/\((!gp p c)=true->(a 4).same d)/\((!gp p c)=false->(p.classes.length<=8/\(dy p c).length<=1000/\∀(x:Off),x∈dy p c->(0:Int)<=x.ck/\x.ck<(↑p.classes.length:Int)/\x.want.ok=true)/\(f=true->(a 14).same d)/\(f=false->(a 0).same d)))) (by kernel_rfl) ?_;simp only[vcs];refine⟨λh=>by simp[cH,h],λh=>?_⟩;have g:bH p=0:=γa.1 h;obtain⟨m,j⟩:=vI g;obtain⟨s,o,l,q,t⟩:=vH m;refine⟨⟨n,by omega⟩,λa=>by grind[cH],λa=>⟨⟨l,?_,?_⟩,λk=>by grind[cH],λk=>by grind[cH]⟩⟩
 ·unfold gp at a;obtain⟨r,b⟩:=γk.1 a;have:=zU (by omega) b;grind[dy]
 ·unfold gp at a;obtain⟨r,b⟩:=γk.1 a;simp only[dy,b,γ2];intro x i;have u:=Dj (Dm (j x (Dn (by omega) b x i))).1;simp_all
def cK:List Off->Int
 |[]=>0
 |x::l=>x.value+cK l
def dJ (p:bz) (c:List Int):Int:=if bH p=0 then cK (dy p c) else 0
theorem pS:∀{l m:List Off},cK (l++m)=cK l+cK m
 |[],m=>by simp[cK];|x::l,m=>by simp only[γC,cK,@pS l m];omega
theorem Qp {l:List Off} {i:Int} (a:0<=i) (h:i<l.length):cK (l.take (i+1).toNat)=cK (l.take i.toNat)+(bp l i.toNat bw.off.dflt).value:=by
 rw[jN (d:=bw.off.dflt) a h,pS];simp[cK]
def H8:bL:=⟨19,bz×List Int,.cons dO (.one (cV (.i .i64))),λa=>a.2.length<=9223372036854775807,λa=> .si .i64 (dJ a.1 a.2)⟩
def aak (a:bz×List Int):Nat->cC
 |6=> .inv Int (λi=>⟨[(5,.row .off (dy a.1 a.2)),(7,.si .i64 (cK ((dy a.1 a.2).take i.toNat))),(8,.si .i64 i)],[.cells a.1.ss 27 20 false]⟩) (λs=>iS s 8)
  (λi=>0<=i/\i<=(dy a.1 a.2).length) (λi=>((dy a.1 a.2).length - i).toNat) λ_ _=> .look
 |_=> .look
theorem Qq {p:bz} {c:List Int} (h:bH p=0):(dy p c).length<=160/\∀x∈dy p c,x∈p.offers:=by
 have d:=dR h;unfold dy;cases a:eF p.offers (-1) c with
 |none=>simp;|some r=>
  refine⟨?_,λx b=>Dn (by omega) a x b⟩;have e:=zU (by omega) a;have f:=d.2.1;grind
theorem qG {p:bz} (a:Good p):∀{l:List Off},(∀x∈l,x∈p.offers)->0<=cK l/\cK l<=1000000*l.length
 |[],_=>by simp[cK];|x::l,h=>by
  have c:=a.2.2.2.2 x (h x (by simp));have d:=@qG p a l λy b=>h y (by simp[b]);grind[cK]
theorem h58:Holds Tryz.prog H8:=by
 refine cq (L:=M3) H8 aak GI ?_;rintro⟨p,c⟩ (A:c.length<=9223372036854775807);refine bQ (let g:=Ω .i64;let h:=(0:Int);let t:=decide (bH p≠h);let k:=γo .i64 0;let v:=g (dJ p c);let e:=Δ bw.off (dy p c);let f:=bA.cells (bz.ss p) 27 20 false;let d:=(↑(dy p c).length:Int);let n:=(↑(dy p c).length:Int);True/\(t=true->k.same v)/\(t=false->(c.length<=9223372036854775807/\p.offers.length<=1000)/\(((e.same e/\k.same (g (cK []))/\k.same (g 0)/\True)/\f.same f/\True)/\h<=h/\h<=d)/\∀(x:Int),let r:=cK (τ x.toNat (dy p c));let s:=r+(bp (dy p c) x.toNat bw.off.dflt).value;let a:=x+(1:Int);let b:=g a;h<=x/\x<=d->(decide (x<n)=true->h<=x/\x<n/\x.toNat<(dy p c).length/\bU .i64 s/\bU .i64 a/\((e.same e/\(g s).same (g (cK (τ a.toNat (dy p c))))/\b.same b/\True)/\f.same f/\True)/\(h<=a/\a<=d)/\(d - a).toNat<(d - x).toNat)/\(decide (x<n)=false->(g r).same v))) (by kernel_rfl) ?_;simp only[vcs];refine⟨λh=>by simp[dJ,h],λh=>⟨⟨A,by have:=(dR (γa.1 h)).2.1;omega⟩,⟨by simp[cK],by omega⟩,?_⟩⟩;have o:bH p=0:=γa.1 h;have u:=dR o;obtain⟨C,q⟩:=Qq (c:=c) o;rintro i ⟨j,y⟩;refine⟨λm=>?_,λw=>?_⟩
 ·have B:=Qp j m;have D:=qG u (l:=(dy p c).take i.toNat) λx g=>q x (γi g);have z:=qG u (l:=(dy p c).take (i+1).toNat) λx g=>q x (γi g);grind
 ·rw[show i.toNat=(dy p c).length from by omega,χ];grind[dJ]
def cmpL:List Int->List Int->Int
 |[],[]=>0
 |[],_::_=> -1
 |_::_,[]=>1
 |a::l,b::m=>if a<b then -1 else if b<a then 1 else cmpL l m
def r32:bL:=⟨14,List Int×List Int,.cons (cV (.i .i64)) (.one (cV (.i .i64))),λa=>a.1.length<=1000000000000/\a.2.length<=1000000000000,λa=> .si .i64 (cmpL a.1 a.2)⟩
def aal (a:List Int×List Int):Nat->cC
 |2=> .inv Int (λi=>⟨[(0,.row (.i .i64) a.1),(1,.row (.i .i64) a.2),(5,.si .i64 i)],[]⟩) (λs=>iS s 5)
  (λi=>0<=i/\i<=a.1.length/\i<=a.2.length/\cmpL a.1 a.2=cmpL (a.1.drop i.toNat) (a.2.drop i.toNat)) (λi=>(a.1.length - i).toNat) λ_ _=> .look
 |_=> .look
theorem h32:Holds Tryz.prog r32:=by
 refine cq (L:=[]) r32 aal (by simp) ?_;rintro⟨a,b⟩ ⟨w,u⟩;refine bQ (let d:=(0:Int);let h:=γo .i64;let j:=Ω .i64;let k:=(-1:Int);let q:=Δ (bw.i .i64) a;let n:=Δ (bw.i .i64) b;let t:=h 0;let m:=(↑a.length:Int);let r:=(↑b.length:Int);let e:=(↑a.length:Int);let f:=(↑b.length:Int);let g:=j (cmpL a b);(((q.same q/\n.same n/\t.same (j 0)/\True)/\True)/\d<=d/\d<=m/\d<=r/\cmpL a b=cmpL a b)/\∀(x:Int),let o:=bp a x.toNat d;let p:=bp b x.toNat d;let c:=x+(1:Int);let l:=j c;d<=x/\x<=m/\x<=r/\cmpL a b=cmpL (γ3 x.toNat a) (γ3 x.toNat b)->(decide (x<e)=true->(decide (x<f)=true->d<=x/\x<e/\x.toNat<a.length/\d<=x/\x<f/\x.toNat<b.length/\(decide (o<p)=true->(h k).same g)/\(decide (o<p)=false->d<=x/\x<e/\x.toNat<a.length/\d<=x/\x<f/\x.toNat<b.length/\(decide (p<o)=true->(h 1).same g)/\(decide (p<o)=false->bU .i64 c/\((q.same q/\n.same n/\l.same l/\True)/\True)/\(d<=c/\c<=m/\c<=r/\cmpL a b=cmpL (γ3 c.toNat a) (γ3 c.toNat b))/\(m - c).toNat<(m - x).toNat)))/\(decide (x<f)=false->(decide (e<f)=true->(h k).same g)/\(decide (e<f)=false->(decide (f<e)=true->(h 1).same g)/\(decide (f<e)=false->t.same g))))/\(decide (x<e)=false->(decide (e<f)=true->(h k).same g)/\(decide (e<f)=false->(decide (f<e)=true->(h 1).same g)/\(decide (f<e)=false->t.same g)))) (by kernel_rfl) ?_;conv=>zeta
 simp only at w u;simp only[vcs];refine⟨⟨by omega,by omega,by omega⟩,?_⟩;rintro i ⟨j,v,z,h⟩;refine⟨λs=>⟨λk=>?_,λk=>?_⟩,λs=>?_⟩
 ·rw[ua (d:=0) j s,ua (d:=0) j k] at h;simp only[cmpL] at h;omega
 ·rw[ua (d:=0) j s,show i.toNat=b.length from by omega,δV] at h;grind[cmpL]
 ·rw[show i.toNat=a.length from by omega,δV] at h;refine⟨λk=>?_,λk=>⟨λy=>by omega,λy=>?_⟩⟩
  ·rw[<-γb a.length,ua (d:=0) (by omega) k] at h;exact h.symm
  ·rw[show a.length=b.length from by omega,δV] at h;exact h.symm
def eh (l:List bG):bG:=⟨(l.map bG.a0).sum,(l.map bG.a1).sum,(l.map bG.a2).sum,(l.map bG.a3).sum,(l.map bG.a4).sum,(l.map bG.a5).sum⟩
def dd (p:bz) (l:List Int):List Off:=l.map λi=>bp p.offers i.toNat bw.off.dflt
def jr (p:bz) (L:List Off):Prop:=(L.map Off.ck).Nodup/\(eh (L.map Off.want)).le p.supply=true/\(eh (L.map (ft p))).le p.opn=true
instance (p:bz) (L:List Off):Decidable (jr p L):=by unfold jr;infer_instance
def lH (p:bz) (l:List Int):Bool:=decide (jr p (dd p l))
def iH (a b:bG) (k:Int):bG:=⟨if 0<k then b.a0 else a.a0,if 1<k then b.a1 else a.a1,if 2<k then b.a2 else a.a2,if 3<k then b.a3 else a.a3,if 4<k then b.a4 else a.a4,if 5<k then b.a5 else a.a5⟩
def bG.add (a b:bG):bG:=⟨a.a0+b.a0,a.a1+b.a1,a.a2+b.a2,a.a3+b.a3,a.a4+b.a4,a.a5+b.a5⟩
theorem zZ {l m:List bG}:eh (l++m)=(eh l).add (eh m):=by simp[eh,bG.add]
theorem Aa {b:bG} {l:List bG}:eh (b::l)=b.add (eh l):=by simp[eh,bG.add]
def bG.bd (b:bG) (n:Int):Prop:=(0<=b.a0/\b.a0<=n)/\(0<=b.a1/\b.a1<=n)/\(0<=b.a2/\b.a2<=n)/\(0<=b.a3/\b.a3<=n)/\(0<=b.a4/\b.a4<=n)/\(0<=b.a5/\b.a5<=n)
theorem H9:∀{l:List bG},(∀b∈l,b.ok=true)->(eh l).bd (4*l.length)
 |[],_=>by simp[eh,bG.bd];|b::l,h=>by
  have e:=bG.jM.1 (h b (by simp));have d:=@H9 l λc a=>h c (by simp[a]);rw[Aa];simp only[bG.bd,bG.add,γy] at d ⊢;omega
theorem aam {p:bz} {x:Off} (h:x.want.ok=true):(ft p x).ok=true:=by
 have a:=bG.jM.1 h;rw[bG.jM];simp only[ft,HZ,oc];omega
theorem Ia {p:bz} (b:Good p) {l:List Int} (h:∀i∈l,0<=i/\i<p.offers.length):∀x∈dd p l,x∈p.offers:=by
 intro x a;obtain⟨i,c,rfl⟩:=γf.1 a;grind[dn]
def lI (p:bz) (i:Int):Int:=(bp p.offers i.toNat bw.off.dflt).value
def better (a b:Alloc):Alloc:=if b.value<a.value\/a.value=b.value/\cmpL a.chosen b.chosen<0 then a else b
def lJ (p:bz):Nat->Int->Alloc->Alloc->Alloc
 |0,_,_,b=>b
 |k+1,i,a,b=>lJ p k (i+1) a (if lH p (a.chosen++[i]) then lJ p k (i+1) ⟨a.chosen++[i],a.value+lI p i⟩ (better ⟨a.chosen++[i],a.value+lI p i⟩ b) else b)
def Qr (p:bz) (i:Int):Nat:=(p.offers.length - i).toNat
def Qs (p:bz) (a:Alloc) (f:Int) (b:Alloc):Alloc:=lJ p (Qr p f) f a (better a b)
def cY (p:bz):Alloc:=Qs p ⟨[],0⟩ 0 ⟨[],0⟩
def hasB (m b:Int):Bool:=decide (ie.vp .i64 (m / 2^b.toNat) 1=1)
def Dw (p:bz) (w:Int) (n:Nat):Int:=((Θ n).map λi:Nat=>if(i:Int)≠w then(2:Int)^i else 0).sum
def pd (p:bz) (m:Int):bz:={p with offers:=p.offers.filter λx=>hasB m x.ck}
theorem Ib {p:bz} (h:Good p) (m:Int):Good (pd p m):=by
 refine⟨h.1,?_,h.2.2.1,h.2.2.2.1,λx a=>h.2.2.2.2 x (γJ.1 a).1⟩;have:=List.length_filter_le (λx:Off=>hasB m x.ck) p.offers;have:=h.2.1;grind[pd]
def vJ (p:bz) (m:Int):Int:=(cY (pd p m)).value
theorem Dx {p:bz} {c:List Int} (e:cH p c=0):bH p=0/\gp p c=true/\Good p/\c.length<=160/\∀i∈c,0<=i/\i<p.offers.length:=by
 have b:bH p=0:=by
  unfold cH at e;omega
 have d:gp p c=true:=by
  unfold cH at e;grind
 have f:=dR b;obtain⟨r,g⟩:=γk.1 d;obtain⟨h,a⟩:=Qm (by omega) g;refine⟨b,d,f,?_,a⟩;have k:=zU (by omega) g;have j:=f.2.1;grind
def Ic (p:bz):Int:=Dw p (-1) p.classes.length
structure Qu (p:bz) (fs:List Int) (l o:bG) (L:List Off):Prop where
 nd:(L.map Off.ck).Nodup
 mem:∀x∈L,x∈p.offers/\x.ck∈fs
 w:(eh (L.map Off.want)).le l=true
 o:(eh (L.map (ft p))).le o=true
theorem Qv {p:bz} {fs:List Int} {l o:bG}:∀{xs:List Off} {v:Int},v<=xs.foldl (o8 p fs l o) v/\∀x∈xs,x.want.le l=true->(ft p x).le o=true->x.value+ku p fs (l.sub x.want) (o.sub (ft p x))<=xs.foldl (o8 p fs l o) v
 |[],v=>by simp;|y::xs,v=>by
  obtain⟨b,e⟩:=@Qv p fs l o xs (o8 p fs l o v y);have d:v<=o8 p fs l o v y:=by
   grind[o8]
  refine⟨by grind,λx a c f=>?_⟩;simp only[δN];rcases γD.1 a with rfl|a
  ·have:x.value+ku p fs (l.sub x.want) (o.sub (ft p x))<=o8 p fs l o v x:=by
    unfold o8;grind
   omega
  simp_all
theorem fold_at {p:bz} {fs:List Int} {l o:bG}:∀{xs:List Off} {v:Int},xs.foldl (o8 p fs l o) v=v\/∃x∈xs,x.want.le l=true/\(ft p x).le o=true/\xs.foldl (o8 p fs l o) v=x.value+ku p fs (l.sub x.want) (o.sub (ft p x))
 |[],v=>by simp;|y::xs,v=>by
  simp only[δN];rcases @fold_at p fs l o xs (o8 p fs l o v y) with h|⟨x,d,a,c,b⟩
  ·rw[h];unfold o8;split<;>grind
  grind
theorem aan {x:bG} {s t:List bG}:eh (s++x::t)=x.add (eh (s++t)):=by
 grind[zZ,Aa,bG.add]
theorem aao {x:Off} {s t:List Off}:cK (s++x::t)=x.value+cK (s++t):=by
 rw[pS,pS];grind[cK]
theorem Qw {p:bz} (c:Good p) {L:List Off} (h:∀x∈L,x∈p.offers):(eh (L.map Off.want)).bd (4*L.length)/\(eh (L.map (ft p))).bd (4*L.length):=by
 have e:∀x∈L,x.want.ok=true:=λx d=>(c.2.2.2.2 x (h x d)).2.2.1;have a:=@H9 (L.map Off.want) (λb f=>by grind);grind[H9,aam]
theorem Dy {p:bz} (e:Good p):∀{fs:List Int} {l o:bG} {L:List Off},Qu p fs l o L->cK L<=ku p fs l o
 |[],l,o,L,h=>by
  have:L=[]:=by
   cases L with
   |nil=>rfl;|cons x L=>exact absurd (h.mem x (by simp)).2 (by simp)
  grind[cK,ku];|f::fs,l,o,L,h=>by
  obtain⟨D,B⟩:=@Qv p fs l o (zV p f) (ku p fs l o);have b:ku p (f::fs) l o=(zV p f).foldl (o8 p fs l o) (ku p fs l o):=rfl;rw[b];by_cases d:∃x∈L,x.ck=f
  ·obtain⟨x,d,m⟩:=d;obtain⟨s,t,rfl⟩:=List.append_of_mem d;obtain⟨u,c,w,j⟩:=h;have i:=c x d;have g:∀y∈s++t,y∈p.offers:=λy a=>(c y (by grind)).1;obtain⟨z,v⟩:=Qw e g;rw[γg,φ,aan,bG.le_iff,<-γg] at w j;simp only[bG.add,bG.bd] at w j z v;have q:x.want.le l=true:=by rw[bG.le_iff];omega
   have r:(ft p x).le o=true:=by rw[bG.le_iff];omega
   have A:=B x (γJ.2 ⟨i.1,by simp[m]⟩) q r;rw[γg,φ,List.nodup_append] at u;have n:∀y∈s++t,y.ck≠f:=λy a=>by
    rw[<-m];rcases γu.1 a with a|a;·simp_all
    simp_all
   have k:cK (s++t)<=ku p fs (l.sub x.want) (o.sub (ft p x)):=Dy e
    {nd:=by
      grind
     mem:=λy a=>by
      grind
     w:=by grind[bG.le_iff,bG.sub]
     o:=by grind[bG.le_iff,bG.sub]};rw[aao];omega
  ·have:=Dy e (fs:=fs) (l:=l) (o:=o) (L:=L) ⟨h.nd,λy a=>by
    have C:=h.mem y a;simp_all,h.w,h.o⟩;omega
theorem Dz {p:bz} (k:Good p):∀{fs:List Int} {l o:bG},fs.Nodup->bG.zero.le l=true->bG.zero.le o=true->∃L,Qu p fs l o L/\cK L=ku p fs l o
 |[],l,o,_,g,e=>⟨[],⟨by simp,by simp,g,e⟩,rfl⟩
 |f::fs,l,o,r,g,e=>by
  have c:=γ1.1 r;have d:ku p (f::fs) l o=(zV p f).foldl (o8 p fs l o) (ku p fs l o):=rfl;rw[d];rcases @fold_at p fs l o (zV p f) (ku p fs l o) with h|⟨x,q,m,u,n⟩
  ·rw[h];obtain⟨L,a,j⟩:=Dz k (l:=l) (o:=o) c.2 g e;exact⟨L,⟨a.nd,λy b=>⟨(a.mem y b).1,by simp[(a.mem y b).2]⟩,a.w,a.o⟩,j⟩
  ·rw[n];have z:=bG.le_iff.1 m;have A:=bG.le_iff.1 u;obtain⟨L,a,j⟩:=Dz k (l:=l.sub x.want) (o:=o.sub (ft p x)) c.2 (by grind[bG.le_iff,bG.zero,bG.sub]) (by grind[bG.le_iff,bG.zero,bG.sub]);have s:=γJ.1 q;have i:x.ck=f:=by simp_all
   refine⟨x::L,⟨?_,?_,?_,?_⟩,by grind[cK]⟩
   ·rw[φ,γ1];refine⟨λt=>?_,a.nd⟩;obtain⟨y,b,v⟩:=γf.1 t;exact c.1 (by rw[<-i,<-v];exact(a.mem y b).2)
   ·intro y b;rcases γD.1 b with rfl|b;·simp_all
    ·exact⟨(a.mem y b).1,by simp[(a.mem y b).2]⟩
   ·have:=bG.le_iff.1 a.w;grind[Aa,bG.le_iff,bG.add,bG.sub]
   ·have:=bG.le_iff.1 a.o;grind[Aa,bG.le_iff,bG.add,bG.sub]
theorem uf {p:bz} {l m:List Int}:dd p (l++m)=dd p l++dd p m:=by simp[dd]
theorem sM {p:bz} {i:Int} {l:List Int}:dd p (i::l)=bp p.offers i.toNat bw.off.dflt::dd p l:=rfl
def DC (p:bz) (l:List Int):Prop:=∀i∈l,0<=i/\i<p.offers.length
theorem Ie {p:bz} (f:Good p) {L M:List Off} (c:∀x∈M,x∈p.offers) (h:jr p (L++M)):jr p L:=by
 obtain⟨e,d⟩:=Qw f c;obtain⟨g,a,b⟩:=h;rw[γg,zZ,bG.le_iff] at a b;simp only[bG.add,bG.bd] at a b e d;refine⟨?_,?_,?_⟩<;>grind[bG.le_iff]
theorem Qx {p:bz} (a:Good p) {l m:List Int} (b:DC p m) (h:lH p (l++m)=true):lH p l=true:=by
 unfold lH at h ⊢;have h:=of_decide_eq_true h;rw[uf] at h;exact decide_eq_true (Ie a (Ia a b) h)
def pe (i:Int) (k:Nat) (t:List Int):Prop:=t.Pairwise (·<·)/\∀j∈t,i<=j/\j<i+k
theorem Qy {a b:Alloc}:a.value<=(better a b).value/\b.value<=(better a b).value:=by
 grind[better]
theorem Qz {a b:Alloc}:better a b=a\/better a b=b:=by
 grind[better]
theorem Ac {p:bz}:∀{k:Nat} {i:Int} {a b:Alloc},b.value<=(lJ p k i a b).value
 |0,_,_,b=>by simp[lJ];|k+1,i,a,b=>by
  simp only[lJ];refine ε4 ?_ Ac;split;·exact ε4 Qy.2 Ac
  ·omega
theorem If {p:bz} (h:Good p):∀{k:Nat} {i:Int} {a b:Alloc} {t:List Int},0<=i->i+k<=p.offers.length->t≠[]->pe i k t->lH p (a.chosen++t)=true->a.value+cK (dd p t)<=(lJ p k i a b).value
 |0,i,a,b,t,_,_,u,c,_=>by
  cases t with
  |nil=>simp_all;|cons j t=>
   have:=c.2 j (by simp);omega
 |k+1,i,a,b,t,w,x,u,c,s=>by
  cases t with
  |nil=>simp_all;|cons j t=>
   have v:=c.2 j (by simp);have q:=γx.1 c.1;simp only[lJ];by_cases l:j=i
   ·subst l;have d:DC p t:=λm e=>by
     have:=c.2 m (by simp[e]);omega
    have f:lH p (a.chosen++[j]++t)=true:=by simp_all
    have g:lH p (a.chosen++[j])=true:=Qx h d f;rw[if_pos g];refine ε4 ?_ Ac;rw[sM];simp only[cK];cases t with
    |nil=>
     refine ε4 ?_ Ac;refine ε4 ?_ Qy.1;simp[cK,dd,lI];|cons o n=>
     have:=If h (k:=k) (i:=j+1) (a:=⟨a.chosen++[j],a.value+lI p j⟩) (b:=better ⟨a.chosen++[j],a.value+lI p j⟩ b) (t:=o::n) (by omega) (by omega) (by simp) ⟨q.2,λm e=>by
      have r:=c.2 m (List.mem_cons_of_mem _ e);grind⟩ f;grind[lI]
   ·exact If h (by omega) (by omega) (by simp) ⟨c.1,λm e=>by
     have r:=c.2 m e;grind⟩ s
theorem Ig {p:bz} (g:Good p):∀{k:Nat} {i:Int} {a b:Alloc},lJ p k i a b=b\/∃t,t≠[]/\pe i k t/\lH p (a.chosen++t)=true/\lJ p k i a b=⟨a.chosen++t,a.value+cK (dd p t)⟩
 |0,i,a,b=> .inl rfl
 |k+1,i,a,b=>by
  have l:∀{t:List Int},pe (i+1) k t->pe i (k+1) t:=λh=>⟨h.1,λj c=>by have:=h.2 j c;omega⟩;simp only[lJ];rcases @Ig p g k (i+1) a (if lH p (a.chosen++[i]) then lJ p k (i+1) ⟨a.chosen++[i],a.value+lI p i⟩ (better ⟨a.chosen++[i],a.value+lI p i⟩ b) else b) with h|⟨t,m,d,n,o⟩
  ·rw[h];split
   ·rename_i q;have e:(⟨a.chosen++[i],a.value+lI p i⟩:Alloc)=⟨a.chosen++[i],a.value+cK (dd p [i])⟩:=by simp[cK,dd,lI]
    have f:pe i (k+1) [i]:=⟨by simp,λj c=>by grind⟩;rcases @Ig p g k (i+1) ⟨a.chosen++[i],a.value+lI p i⟩ (better ⟨a.chosen++[i],a.value+lI p i⟩ b) with h|⟨t,m,d,n,o⟩;·grind[Qz]
    ·refine .inr ⟨i::t,by simp,⟨γx.2 ⟨λj c=>by have:=d.2 j c;omega,d.1⟩,λj c=>?_⟩,by simp_all,?_⟩
     ·rcases γD.1 c with rfl|c;·omega
      ·have:=d.2 j c;omega
     grind[sM,cK,lI]
   simp_all
  grind
theorem Ih {p:bz}:cY p=lJ p p.offers.length 0 ⟨[],0⟩ ⟨[],0⟩:=by
 grind[Qr,cY,Qs,Qz]
theorem Ii {p:bz} (f:Good p) {t:List Int} (e:pe 0 p.offers.length t) (d:lH p t=true):cK (dd p t)<=(cY p).value:=by
 rw[Ih];by_cases c:t=[]
 ·subst c;exact Ac
 ·have:=If f (k:=p.offers.length) (i:=0) (a:=⟨[],0⟩) (b:=⟨[],0⟩) (t:=t) (by omega) (by omega) c e d;simp_all
theorem QA {p:bz} (a:Good p):lH p []=true:=by
 have b:=bG.jM.1 a.2.2.1;have c:=bG.jM.1 a.2.2.2.1;unfold lH;refine decide_eq_true ⟨by simp[dd],?_,?_⟩;all_goals simp_all[bG.le_iff,dd,eh]
theorem Ij {p:bz} (a:Good p):∃t,pe 0 p.offers.length t/\lH p t=true/\cY p=⟨t,cK (dd p t)⟩:=by
 rw[Ih];rcases @Ig p a p.offers.length 0 ⟨[],0⟩ ⟨[],0⟩ with h|⟨t,b,e,c,d⟩;·exact⟨[],⟨by simp,by simp⟩,QA a,by rw[h];rfl⟩
 grind
def QB:Bool:=(Θ 256).all λm=>[0,1,2,3,4,5,6,7].all λb:Int=>hasB m b==decide (b∈rC m)
theorem aap:QB=true:=by kernel_rfl
theorem Ik {m b:Int} (e:0<=m) (a:m<256) (c:0<=b) (d:b<8):hasB m b=decide (b∈rC m):=by
 have h:=aap;simp only[QB,ξ,γp] at h;have h:=h m.toNat (by omega) b (by
  have:b=0\/b=1\/b=2\/b=3\/b=4\/b=5\/b=6\/b=7:=by omega
  simp_all);grind
theorem aaq {p:bz} {t:List Int} (h:pe 0 p.offers.length t):DC p t:=λj a=>by
 have:=h.2 j a;omega
theorem aar {p:bz} (b:Good p) {m:Int} (j:0<=m) (e:m<256):vJ p m<=ku p (rC m) p.supply p.opn:=by
 obtain⟨t,i,f,g⟩:=Ij (Ib b m);unfold vJ;rw[g];have d:=of_decide_eq_true f;refine Dy b ⟨d.1,λx h=>?_,d.2.1,d.2.2⟩;have c:=Ia (Ib b m) (aaq i) x h;have a:=γJ.1 c;have k:=b.2.2.2.2 x a.1;have l:=b.1;refine⟨a.1,?_⟩;have:=Ik j e k.1 (by omega);simp_all
theorem QC {L M:List Off} (h:L.Perm M):cK L=cK M:=by
 induction h<;>grind[cK,swap,trans]
theorem aas {L M:List bG} (h:L.Perm M):eh L=eh M:=by
 induction h<;>grind[Aa,swap,bG.add,bG.mk.injEq,trans]
theorem Il {p:bz} {L M:List Off} (h:L.Perm M) (b:jr p L):jr p M:=by
 obtain⟨a,c,d⟩:=b;refine⟨((h.map _).nodup_iff).1 a,?_,?_⟩<;>grind[aas]
theorem Im (q:Off->Bool):∀(O a:List Off),∃t:List Int,t.Pairwise (·<·)/\(∀j∈t,(a.length:Int)<=j/\j<a.length+O.length)/\(t.map λj=>bp (a++O) j.toNat bw.off.dflt)=O.filter q
 |[],a=>⟨[],by simp,by simp,by simp⟩
 |x::O,a=>by
  obtain⟨t,c,g,d⟩:=Im q O (a++[x]);have e:a++[x]++O=a++x::O:=by simp
  rw[e] at d;have h:((a++[x]).length:Int)=a.length+1:=by simp
  have f:∀j∈t,(a.length:Int)+1<=j/\j<a.length+1+O.length:=λj b=>by
   simp_all
  by_cases i:q x=true
  ·refine⟨(a.length:Int)::t,γx.2 ⟨λj b=>by grind,c⟩,λj b=>?_,?_⟩;·grind
   simp_all[dj]
  grind
theorem Io {p:bz}:∀{l:List Off} {a:List nT},jc p a l=0->(l.map Off.key).Nodup/\∀x∈l,x.key∉a
 |[],_,_=>by simp;|o::r,a,h=>by
  simp only[jc] at h;split at h;·omega
  ·split at h;·cases h
   ·rename_i d b;obtain⟨c,e⟩:=Io h;simp_all
theorem DD {a b:Type} (f:a->b):∀{l:List a},(l.map f).Nodup->l.Nodup
 |[],_=>by simp;|x::l,h=>by
  rw[φ,γ1] at h;exact γ1.2 ⟨λc=>h.1 (List.mem_map_of_mem c),DD f h.2⟩
theorem QE {p:bz} (h:bH p=0):p.offers.Nodup:=by
 unfold bH at h;split at h;·omega
 ·exact DD _ (Io h).1
theorem QF (m:Int):(rC m).Nodup:=by
 unfold rC;exact ζI δx (by decide)
theorem aat {p:bz} (f:bH p=0) {m:Int} (D:0<=m) (u:m<256):ku p (rC m) p.supply p.opn<=vJ p m:=by
 have b:=dR f;have A:=bG.jM.1 b.2.2.1;have y:=bG.jM.1 b.2.2.2.1;obtain⟨L,c,h⟩:=Dz b (QF m) (l:=p.supply) (o:=p.opn) (by grind[bG.le_iff,bG.zero]) (by grind[bG.le_iff,bG.zero]);obtain⟨t,n,B,g⟩:=Im (λx=>decide (x∈L)) (pd p m).offers [];have i:dd (pd p m) t=(pd p m).offers.filter λx=>decide (x∈L):=g;have q:∀x∈L,x∈(pd p m).offers:=λx s=>by
  have d:=c.mem x s;have C:=b.2.2.2.2 x d.1;have v:=b.1;refine γJ.2 ⟨d.1,?_⟩;grind[Ik]
 have e:((pd p m).offers.filter λx=>decide (x∈L)).Nodup:=ζI (List.Sublist.trans δx δx) (QE f);have a:L.Perm (dd (pd p m) t):=by
  rw[i];refine(List.perm_ext_iff_of_nodup (DD _ c.nd) e).2 λx=>?_;simp_all
 have k:jr (pd p m) L:=⟨c.nd,c.w,c.o⟩;have r:lH (pd p m) t=true:=decide_eq_true (Il a k);have:=Ii (Ib b m) ⟨n,λj z=>by simp_all⟩ r;rw[<-QC a,h] at this;exact this
theorem aau {p:bz} (d:bH p=0) {m:Int} (e:0<=m) (c:m<256):vJ p m=ku p (rC m) p.supply p.opn:=by
 have a:=aar (dR d) e c;have b:=aat d e c;omega
theorem aav {p:bz} (a:bH p=0) {m:Int} (c:0<=m) (d:m<2^p.classes.length):rD p m=vJ p m:=by
 have b:Dp p m=0:=by
  simp_all[Dp]
 have e:=zW (dR a).1;unfold rD;rw[if_pos b,aau a c (by omega)];rfl
def QG:Bool:=(Θ 9).all λn=>decide (Dw bz.zero (-1) n=2^n - 1)&&(Θ n).all λb=>decide (Dw bz.zero b n=Z9 (2^n - 1) b)
theorem aaw:QG=true:=by kernel_rfl
theorem QH {p:bz} (h:p.classes.length<=8):Dw p (-1) p.classes.length=allM p:=by
 have a:=aaw;simp only[QG,ξ,γp,Bool.and_eq_true,decide_eq_true_eq] at a;exact(a p.classes.length (by omega)).1
theorem aax {p:bz} (b:bH p=0):rD p (allM p)=vJ p (Ic p):=by
 have a:=dR b;have c:=zW a.1;unfold Ic;rw[QH a.1];grind[aav,allM]
theorem DF {p:bz}:∀{c:List Int} {s:Int},c.foldl (H5 p) s=s+cK (dd p c)
 |[],s=>by simp[dd,cK];|i::c,s=>by
  rw[δN,DF,sM];grind[cK,H5]
theorem DG {p:bz}:∀{c:List Int} {a:Int} {r:List Off},eF p.offers a c=some r->r=dd p c
 |[],a,r,h=>by simp[eF] at h;subst h;rfl;|i::c,a,r,h=>by
  simp only[eF] at h;split at h;·cases h
  ·obtain⟨d,b,rfl⟩:=ε.1 h;rw[DG b,sM]
theorem aay {p:bz} {c:List Int} (b:cH p c=0):dJ p c=zY p c:=by
 obtain⟨a,d,g,f,e⟩:=Dx b;obtain⟨r,h⟩:=γk.1 d;unfold dJ zY;rw[if_pos a,DF];grind[dy,DG]
theorem QI {p:bz} {x:Off} (b:0<=x.ck) (a:x.ck<p.classes.length):dW p x.ck x=1:=by
 unfold dW;omega
theorem sum_cons {p:bz} {x:Off} {L:List Off} {r:Int}:cT p (x::L) r=dW p r x+cT p L r:=by simp[cT]
theorem QJ {p:bz} {r:Int}:∀{L:List Off},(∀x∈L,x.want.ok=true)->(∃x∈L,x.ck=r/\0<=r/\r<p.classes.length)->1<=cT p L r
 |[],_,h=>by simp_all;|y::L,a,⟨x,c,e,f,d⟩=>by
  have g:=@o6 p r y (a y (by simp));have i:=@sL p r L λz b=>a z (by simp[b]);rw[sum_cons];rcases γD.1 c with rfl|c;·grind[QI]
  ·have:=@QJ p r L (λz b=>a z (by simp[b])) ⟨x,c,e,f,d⟩;omega
theorem QK {p:bz}:∀{L:List Off},(∀x∈L,x.want.ok=true/\0<=x.ck/\x.ck<p.classes.length)->(∀r:Int,0<=r->r<p.classes.length->cT p L r<=1)->(L.map Off.ck).Nodup
 |[],_,_=>by simp;|x::L,e,f=>by
  have a:=e x (by simp);rw[φ,γ1];have d:∀r:Int,0<=r->r<p.classes.length->cT p L r<=1:=λr j b=>by
   have:=f r j b;have:=@o6 p r x a.1;grind[sum_cons]
  refine⟨λg=>?_,QK (λy c=>e y (by simp[c])) d⟩;obtain⟨y,c,h⟩:=γf.1 g;have b:=f x.ck a.2.1 a.2.2;have k:=@QJ p x.ck L (λz i=>(e z (by simp[i])).1) ⟨y,c,h,a.2.1,a.2.2⟩;rw[sum_cons,QI a.2.1 a.2.2] at b;omega
theorem aaz {p:bz} {c:List Int} (e:cH p c=0):((dd p c).map Off.ck).Nodup:=by
 obtain⟨j,f,a,m,h⟩:=Dx e;obtain⟨r,l⟩:=γk.1 f;have n:dy p c=dd p c:=by grind[dy,DG]
 have d:gd p (dd p c)=true:=by
  simp_all[cH]
 refine QK (p:=p) (λx g=>?_) λr o i=>?_
 ·have:=a.2.2.2.2 x (Ia a h x g);simp_all
 ·have b:=o7.1 d r.toNat (by grind[cE]);rw[show((r.toNat:Nat):Int)=r by omega] at b;have k:di p r=1:=by unfold di;omega
  omega
def bG.at (b:bG) (k:Nat):Int:=bp [b.a0,b.a1,b.a2,b.a3,b.a4,b.a5] k 0
theorem Ip {a b:bG} (h:a.le b=true) (k:Nat):a.at k<=b.at k:=by
 grind[bG.le_iff,bG.at,bp]
theorem og (k:Nat):∀(l:List bG),(eh l).at k=(l.map λb=>b.at k).sum:=by
 intro l;unfold bG.at eh;match k with
 |0|1|2|3|4|5=>simp only[bp,List.getElem?_cons_zero,γw,γ2];|k+6=>
  simp only[bp,γw,List.getElem?_nil,Option.getD_none];induction l<;>grind
theorem QL {p:bz} {x:Off} {k:Nat} (a:k<6):dW p (p.classes.length+k) x=x.want.at k:=by
 unfold dW;rw[if_neg (by omega),if_pos (by omega),show((p.classes.length:Int)+k - p.classes.length).toNat=k by omega];rfl
theorem QM {p:bz} {x:Off} {k:Nat} (a:k<6):dW p (p.classes.length+6+k) x=(ft p x).at k:=by
 unfold dW;rw[if_neg (by omega),if_neg (by omega),show((p.classes.length:Int)+6+k - p.classes.length - 6).toNat=k by omega];have:k=0\/k=1\/k=2\/k=3\/k=4\/k=5:=by omega
 rcases this with rfl|rfl|rfl|rfl|rfl|rfl<;>simp[ft,HZ,oc,mg,bG.at,bp]
theorem QN {p:bz} {k:Nat} (a:k<6):di p (p.classes.length+k)=p.supply.at k:=by
 unfold di;rw[if_neg (by omega),if_pos (by omega),show((p.classes.length:Int)+k - p.classes.length).toNat=k by omega];rfl
theorem QO {p:bz} {k:Nat} (a:k<6):di p (p.classes.length+6+k)=p.opn.at k:=by
 unfold di;rw[if_neg (by omega),if_neg (by omega),show((p.classes.length:Int)+6+k - p.classes.length - 6).toNat=k by omega];rfl
theorem QP {p:bz} {r:Int} (a:0<=r) (b:r<p.classes.length):∀{L:List Off},(L.map Off.ck).Nodup->cT p L r<=1/\(r∉L.map Off.ck->cT p L r=0)
 |[],_=>by simp[cT];|x::L,h=>by
  rw[φ,γ1] at h;obtain⟨d,e⟩:=QP a b h.2;have c:dW p r x=if x.ck=r then 1 else 0:=by unfold dW;omega
  rw[sum_cons,c];grind
theorem QQ {p:bz} {L:List Off} (h:jr p L):gd p L=true:=by
 obtain⟨j,i,f⟩:=h;refine o7.2 λr g=>?_;unfold cE at g;by_cases l:r<p.classes.length
 ·have:=(QP (p:=p) (r:=r) (by omega) (by omega) j).1;have d:di p r=1:=by unfold di;omega
  omega
 by_cases d:r<p.classes.length+6
 ·obtain⟨k,rfl⟩:∃k:Nat,r=p.classes.length+k:=⟨r - p.classes.length,by omega⟩;have c:k<6:=by omega
  have e:(((p.classes.length+k:Nat)):Int)=p.classes.length+k:=by omega
  rw[e,QN c];have a:=Ip i k;rw[og,δn] at a;have:cT p L (p.classes.length+k)=(L.map ((λb=>bG.at b k)∘Off.want)).sum:=by
   unfold cT;congr 1;simp_all[QL]
  omega
 ·obtain⟨k,rfl⟩:∃k:Nat,r=p.classes.length+6+k:=⟨r - p.classes.length - 6,by omega⟩;have c:k<6:=by omega
  have e:(((p.classes.length+6+k:Nat)):Int)=p.classes.length+6+k:=by omega
  rw[e,QO c];have a:=Ip f k;rw[og,δn] at a;have:cT p L (p.classes.length+6+k)=(L.map ((λb=>bG.at b k)∘ft p)).sum:=by
   unfold cT;congr 1;simp_all[QM]
  omega
theorem QR {l:List Off}:∀{t:List Int} {a:Int},t.Pairwise (·<·)->(∀j∈t,a<j/\j<l.length)->eF l a t=some (t.map λi=>bp l i.toNat bw.off.dflt)
 |[],_,_,_=>rfl
 |i::t,a,h,d=>by
  have e:=d i (by simp);have c:=γx.1 h;unfold eF;rw[if_neg (by omega),QR c.2 λj b=>⟨c.1 j b,(d j (by simp[b])).2⟩];rfl
theorem QS {p:bz} (e:bH p=0) {t:List Int} (a:pe 0 p.offers.length t) (c:jr p (dd p t)):cH p t=0:=by
 have d:eF p.offers (-1) t=some (dd p t):=QR a.1 λj b=>by have:=a.2 j b;omega
 simp_all[cH,gp,dy,QQ]
def QT:Bool:=(Θ 9).all λn=>(Θ n).all λb=>hasB (2^n - 1) b
theorem aaA:QT=true:=by kernel_rfl
theorem QU {p:bz} (a:Good p) {b:Int} (d:0<=b) (c:b<p.classes.length):hasB (allM p) b=true:=by
 have h:=aaA;simp only[QT,ξ,γp] at h;have:=h p.classes.length (by have:=a.1;omega) b.toNat (by omega);rwa [show((b.toNat:Nat):Int)=b by omega] at this
theorem aaB {p:bz} (a:Good p):pd p (allM p)=p:=by
 unfold pd;rw[List.filter_eq_self.2 λx b=>QU a (a.2.2.2.2 x b).1 (a.2.2.2.2 x b).2.1]
theorem DI {p:bz} (b:bH p=0):rD p (allM p)=(cY p).value:=by
 have a:=dR b;rw[aax b];unfold Ic vJ;rw[QH a.1,aaB a]
theorem QV {p:bz} (a:bH p=0):Ql p (cY p).chosen=0/\jr p (dd p (cY p).chosen)/\pe 0 p.offers.length (cY p).chosen/\(cY p).value=cK (dd p (cY p).chosen):=by
 have d:=dR a;obtain⟨t,b,e,h⟩:=Ij d;have c:jr p (dd p t):=of_decide_eq_true e;have g:=QS a b c;have f:=DI a;simp_all[Ql,zY,DF]
theorem aaC {p:bz} (d:Good p) {x:Int} (a:0<=x) (c:x<p.classes.length):x∈rC (allM p):=by
 have e:=d.1;have f:=zW e;have:=Ik (m:=allM p) (b:=x) (by grind[allM]) (by grind[allM]) a (by omega);simp_all[QU]
theorem QW {p:bz} (b:bH p=0) {m:Int} (c:0<=m) (a:m<2^p.classes.length):rD p m=ku p (rC m) p.supply p.opn:=by
 unfold rD;rw[if_pos];·rfl
 simp_all[Dp]
theorem Iq {a b:bG} (h:∀k,k<6->a.at k<=b.at k):a.le b=true:=by
 have i:=h 0 (by omega);have c:=h 1 (by omega);have d:=h 2 (by omega);have f:=h 3 (by omega);have g:=h 4 (by omega);have e:=h 5 (by omega);simp_all[bG.at,bp,bG.le_iff]
theorem aaD {p:bz} {L:List Off} (d:(L.map Off.ck).Nodup) (c:gd p L=true):jr p L:=by
 refine⟨d,Iq λk a=>?_,Iq λk a=>?_⟩
 ·have h:=o7.1 c (p.classes.length+k) (by grind[cE]);rw[show(((p.classes.length+k:Nat)):Int)=p.classes.length+k by omega,QN a] at h;rw[og,δn];have:cT p L (p.classes.length+k)=(L.map ((λb=>bG.at b k)∘Off.want)).sum:=by
   unfold cT;congr 1;simp_all[QL]
  omega
 ·have h:=o7.1 c (p.classes.length+6+k) (by grind[cE]);rw[show(((p.classes.length+6+k:Nat)):Int)=p.classes.length+6+k by omega,QO a] at h;rw[og,δn];have:cT p L (p.classes.length+6+k)=(L.map ((λb=>bG.at b k)∘ft p)).sum:=by
   unfold cT;congr 1;simp_all[QM]
  omega
theorem QX {l:List Off}:∀{t:List Int} {a:Int} {r:List Off}, -1<=a->eF l a t=some r->t.Pairwise (·<·)/\∀j∈t,a<j/\j<l.length
 |[],_,_,_,_=>by simp;|i::t,a,r,g,h=>by
  simp only[eF] at h;split at h;·cases h
  ·rename_i k;obtain⟨f,d,rfl⟩:=ε.1 h;obtain⟨e,c⟩:=QX (by omega) d;refine⟨γx.2 ⟨λj b=>(c j b).1,e⟩,λj b=>?_⟩;grind
def rE (p:bz) (t:List Int):Prop:=pe 0 p.offers.length t/\jr p (dd p t)
theorem xU {p:bz} (c:bH p=0) {t:List Int}:cH p t=0↔rE p t:=by
 refine⟨λh=>?_,λh=>QS c h.1 h.2⟩;have e:=aaz h;obtain⟨i,a,l,m,o⟩:=Dx h;obtain⟨r,d⟩:=γk.1 a;obtain⟨f,g⟩:=QX (by omega) d;have n:dy p t=dd p t:=by grind[dy,DG]
 have b:gd p (dd p t)=true:=by
  simp_all[cH]
 exact⟨⟨f,λj k=>by simp_all⟩,aaD e b⟩
theorem aaE {p:bz} (a:Good p):rE p []:=⟨⟨by simp,by simp⟩,of_decide_eq_true (QA a)⟩
theorem Is {p:bz} (a:bH p=0) {t:List Int} (h:rE p t):dJ p t=cK (dd p t):=by
 grind[xU,aay,zY,DF]
theorem aaF {p:bz} (c:bH p=0) {L:List Off} (b:jr p L) (d:∀x∈L,x∈p.offers):cK L<=rD p (allM p):=by
 have a:=dR c;have f:=zW a.1;rw[QW c (m:=allM p) (by grind[allM]) (by grind[allM])];refine Dy a ⟨b.1,λx e=>?_,b.2.1,b.2.2⟩;have:=a.2.2.2.2 x (d x e);grind[aaC]
theorem aaG {p:bz} (c:bH p=0):∃L,jr p L/\(∀x∈L,x∈p.offers)/\cK L=rD p (allM p):=by
 have a:=dR c;have f:=zW a.1;rw[QW c (m:=allM p) (by grind[allM]) (by grind[allM])];have h:=bG.jM.1 a.2.2.1;have g:=bG.jM.1 a.2.2.2.1;obtain⟨L,b,e⟩:=Dz a (QF (allM p)) (l:=p.supply) (o:=p.opn) (by grind[bG.le_iff,bG.zero]) (by grind[bG.le_iff,bG.zero]);exact⟨L,⟨b.nd,b.w,b.o⟩,λx d=>(b.mem x d).1,e⟩
def aaH (p:bz):Int:=rD p (allM p)
theorem QY:∀l:List Int,cmpL l l=0
 |[]=>rfl
 |a::l=>by
  simp only[cmpL,if_neg (Int.lt_irrefl a)];exact QY l
theorem QZ:∀{a b:List Int},cmpL a b=0->a=b
 |[],[],_=>rfl
 |[],_::_,h=>by grind[cmpL];|_::_,[],h=>by grind[cmpL];|x::a,y::b,h=>by
  simp only[cmpL] at h;split at h;·simp at h
  ·split at h;·simp at h
   ·rw[QZ h,show x=y by omega]
theorem Q0:∀{a b:List Int},cmpL a b<0↔0<cmpL b a
 |[],[]=>by simp[cmpL];|[],_::_=>by simp[cmpL];|_::_,[]=>by simp[cmpL];|x::a,y::b=>by
  simp only[cmpL];by_cases c:x<y;·omega
  ·by_cases d:y<x;·omega
   ·rw[if_neg c,if_neg d,if_neg d,if_neg c];exact Q0
theorem Q5:∀{a b c:List Int},cmpL a b<0->cmpL b c<0->cmpL a c<0
 |[],[],_,h,_=>by omega;|_::_,[],_,h,_=>by grind[cmpL];|[],_::_,[],_,h=>by grind[cmpL];|[],_::_,_::_,_,_=>by simp[cmpL];|_::_,_::_,[],_,h=>by grind[cmpL];|x::a,y::b,z::c,h,k=>by
  simp only[cmpL] at h k ⊢;by_cases g:x<y;·omega
  ·rw[if_neg g] at h;by_cases e:y<x;·omega
   ·rw[if_neg e] at h;by_cases f:y<z;·omega
    ·rw[if_neg f] at k;by_cases d:z<y;·omega
     ·rw[if_neg d] at k;rw[if_neg (by omega),if_neg (by omega)];exact Q5 h k
def mP (a b:Alloc):Prop:=b.value<a.value\/a.value=b.value/\cmpL a.chosen b.chosen<0
theorem Q6 {a b c:Alloc} (h:mP a b) (k:mP b c):mP a c:=by
 rcases h with h|⟨g,e⟩
 ·rcases k with k|⟨f,_⟩;·left;omega
  ·left;omega
 ·rcases k with k|⟨f,d⟩;·left;omega
  ·exact .inr ⟨by omega,Q5 e d⟩
theorem DJ {a:Alloc}:¬mP a a:=by
 rintro(h|⟨_,h⟩)<;>grind[QY]
theorem aaI {a b:Alloc} (h:¬mP a b) (k:¬mP b a):a=b:=by
 obtain⟨l,v⟩:=a;obtain⟨m,w⟩:=b;simp only[mP,not_or,not_and] at h k;have d:v=w:=by omega
 subst d;have e:=h.2 rfl;have c:=k.2 rfl;have:=mt Q0.2 c;grind[QZ]
def oh (a:List Int):Nat->Nat
 |0=>0
 |n+1=>if bp a n 0=0 then oh a n else n+1
def bR (a:List Int):List Int:=a.take (oh a a.length)
def rF:bL:=⟨148,List Int,.one (cV (.i .u32)),λa=>a.length<=1000000000000,λa=> .row (.i .u32) (bR a)⟩
def aaJ (a:List Int):Nat->cC
 |2=> .inv Int (λn=>⟨[(0,.row (.i .u32) a),(3,.si .i64 n)],[]⟩) (λs=>iS s 3) (λn=>0<=n/\n<=a.length/\oh a n.toNat=oh a a.length) (λn=>n.toNat) λ_ _=> .look
 |_=> .look
theorem h152:Holds Tryz.prog rF:=by
 refine cq (L:=[]) rF aaJ (by simp) ?_;intro(a:List Int) (h:a.length<=1000000000000);refine bQ (let e:=(0:Int);let f:=Δ;let c:=bw.i .u32;let d:=(↑a.length:Int);let l:=Ω .i64 d;let g:=(↑a.length:Int);let j:=oh a a.length;((((f c a).same (f c a)/\l.same l/\True)/\True)/\e<=d/\d<=g/\oh a d.toNat=j)/\∀(x:Int),let r:=decide (e<x);let b:=x - (1:Int);let o:=decide (bp a b.toNat e=e);let k:=Ω .i64 b;e<=x/\x<=g/\oh a x.toNat=j->(r=true->bU .i64 b/\e<=b/\b<d/\b.toNat<a.length/\(o=true->bU .i64 b/\(((f c a).same (f c a)/\k.same k/\True)/\True)/\(e<=b/\b<=g/\oh a b.toNat=j)/\b.toNat<x.toNat)/\(o=false->e<=x/\e<=x/\0<=x.toNat/\x.toNat<=x.toNat/\x.toNat<=a.length/\(f c (τ (x.toNat - 0) a)).same (f c (bR a))))/\(r=false->e<=x/\e<=x/\0<=x.toNat/\x.toNat<=x.toNat/\x.toNat<=a.length/\(f c (τ (x.toNat - 0) a)).same (f c (bR a)))) (by kernel_rfl) ?_;simp only[vcs];refine⟨⟨by omega,by omega,by simp⟩,?_⟩;rintro n ⟨f,t,q⟩;have e:(n.toNat=0\/0<n.toNat/\¬bp a (n.toNat - 1) 0=0)->τ (n.toNat - 0) a=bR a:=λh=>by
  unfold bR;rw[<-q];congr 1;rcases h with h|h;·rw[h];rfl
  ·obtain⟨v,h⟩:=h;obtain⟨m,u⟩:∃m,n.toNat=m+1:=⟨n.toNat - 1,by omega⟩;simp_all[oh]
 refine⟨λs=>⟨by omega,by omega,by omega,by omega,λp=>⟨by omega,⟨by omega,by omega,?_⟩,by omega⟩,λp=>⟨f,f,by omega,by omega,by omega,?_⟩⟩,λs=>⟨f,f,by omega,by omega,by omega,e (.inl (by omega))⟩⟩
 ·rw[<-q,show n.toNat=(n - 1).toNat+1 by omega];rw[oh,if_pos p]
 simp_all
def bq:List Int->Int
 |[]=>0
 |d::l=>d+4294967296*bq l
def bB (a:List Int):Prop:=∀d∈a,0<=d/\d<4294967296
def dS:List Int->Prop
 |[]=>True
 |d::l=>(l=[]->d≠0)/\dS l
theorem jd {d:Int} {l:List Int}:bB (d::l)↔(0<=d/\d<4294967296)/\bB l:=by simp[bB]
theorem kR {a:List Int} (h:bB a) (n:Nat):bB (a.take n):=λd b=>h d (γi b)
theorem dX:∀{a:List Int},bB a->0<=bq a
 |[],_=>Int.le_refl _
 |d::l,h=>by
  obtain⟨c,b⟩:=jd.1 h;have:=dX b;grind[bq]
theorem val_zero:∀{a:List Int},bB a->dS a->bq a=0->a=[]
 |[],_,_,_=>rfl
 |d::l,h,b,f=>by
  obtain⟨g,c⟩:=jd.1 h;have:=dX c;simp only[bq] at f;have e:=val_zero c b.2 (by omega);have:=b.1 e;omega
theorem val_inj:∀{a b:List Int},bB a->bB b->dS a->dS b->bq a=bq b->a=b
 |[],b,_,i,_,c,h=>(val_zero i c h.symm).symm
 |d::l,[],f,_,g,_,h=>val_zero f g h
 |d::l,e::m,f,i,g,c,h=>by
  obtain⟨p,j⟩:=jd.1 f;obtain⟨s,k⟩:=jd.1 i;have r:=dX j;have q:=dX k;simp only[bq] at h;have n:d=e:=by omega
  have o:bq l=bq m:=by omega
  rw[n,val_inj j k g.2 c.2 o]
theorem rG:∀{a:List Int} {x:Int},bq (a++[x])=bq a+4294967296^a.length*x
 |[],x=>by simp[bq];|d::l,x=>by
  simp only[γC,bq,rG,γy,γs,εx];grind
theorem Iu:∀{a:List Int} {x:Int},x≠0->dS (a++[x])
 |[],x,h=>⟨λ_=>h,trivial⟩
 |d::l,x,h=>⟨λb=>by simp at b,Iu h⟩
theorem Ad {a:List Int} {n:Nat} (h:n<a.length):a.take (n+1)=a.take n++[bp a n 0]:=by
 simp_all[dj]
theorem Q7 {a:List Int}:∀{n:Nat},n<=a.length->bq (a.take (oh a n))=bq (a.take n)/\dS (a.take (oh a n))
 |0,_=>by simp[oh,dS];|n+1,h=>by
  obtain⟨d,b⟩:=@Q7 a n (by omega);have c:=Ad (show n<a.length by omega);unfold oh;grind[rG,Iu]
theorem rH {a:List Int}:bq (bR a)=bq a/\dS (bR a):=by
 have:=@Q7 a a.length (ψ _);rw[χ] at this;exact this
theorem sN {a:List Int} (h:bB a):bB (bR a):=kR h _
theorem ug {a:List Int}:(bR a).length<=a.length:=by grind[bR]
def uh:Nat->Int->List Int
 |0,_=>[]
 |k+1,n=>if n<=0 then[] else(n % 4294967296)::uh k (n / 4294967296)
def bO (n:Int):List Int:=uh n.toNat n
theorem Q8:∀{k:Nat} {n:Int},0<=n->n.toNat<=k->bq (uh k n)=n/\bB (uh k n)/\dS (uh k n)
 |0,n,b,h=>by
  have:n=0:=by omega
  subst this;exact⟨rfl,by simp[uh,bB],trivial⟩;|k+1,n,b,h=>by
  unfold uh;split
  ·have:n=0:=by omega
   subst this;exact⟨rfl,by simp[bB],trivial⟩
  ·obtain⟨d,a,c⟩:=@Q8 k (n / 4294967296) (by omega) (by omega);refine⟨by grind[bq],jd.2 ⟨by omega,a⟩,λe f=>?_,c⟩;grind[bq]
theorem ec {n:Int} (h:0<=n):bq (bO n)=n/\bB (bO n)/\dS (bO n):=Q8 h (ψ _)
theorem sO {a:List Int} (h:bB a) (b:dS a):bO (bq a)=a:=by
 grind[ec,dX,val_inj]
theorem qH {a:List Int} (h:bB a):bR a=bO (bq a):=by
 grind[rH,sO,sN]
theorem je:∀{a:List Int},bB a->bq a<4294967296^a.length
 |[],_=>by simp[bq];|d::l,h=>by
  obtain⟨c,b⟩:=jd.1 h;have:=je b;grind[bq]
theorem xW:∀{a b:List Int},bB a->bB b->dS b->a.length<b.length->bq a<bq b
 |[],b,_,c,f,h=>by
  have n:=dX c;grind[bq,val_zero];|d::l,[],_,_,_,h=>by simp at h;|d::l,e::m,g,c,f,h=>by
  obtain⟨k,j⟩:=jd.1 g;obtain⟨o,i⟩:=jd.1 c;simp only[γy] at h;have:=xW j i f.2 (by omega);grind[bq]
theorem Iw:∀{k:Nat} {a b:List Int},bB a->bB b->k<a.length->k<b.length->a.drop (k+1)=b.drop (k+1)->bp a k 0<bp b k 0->bq a<bq b
 |_,[],_,_,_,h,_,_,_=>by simp at h;|_,_::_,[],_,_,_,h,_,_=>by simp at h;|0,d::l,e::m,f,g,_,_,h,c=>by
  grind[bp,bq];|k+1,d::l,e::m,f,g,n,q,h,c=>by
  obtain⟨p,j⟩:=jd.1 f;obtain⟨o,i⟩:=jd.1 g;simp only[List.drop_succ_cons] at h;simp only[bp,γw] at c;have:=Iw (k:=k) j i (by simp_all) (by simp_all) h c;grind[bq]
theorem DK {a:List Int} {k:Nat} (h:k<a.length):a.drop k=bp a k 0::a.drop (k+1):=by simp_all[dj]
def iI (x y:Int):Int:=if x<y then -1 else if y<x then 1 else 0
def xX:bL:=⟨113,List Int×List Int,.cons (cV (.i .u32)) (.one (cV (.i .u32))),λa=>(bB a.1/\bB a.2)/\a.1.length<=1000000000000/\a.2.length<=1000000000000,λa=> .si .i64 (iI (bq a.1) (bq a.2))⟩
def aaK (a:List Int×List Int):Nat->cC
 |7=> .inv Int (λi=>⟨[(0,.row (.i .u32) (bR a.1)),(1,.row (.i .u32) (bR a.2)),(22,.si .i64 (bR a.1).length),(23,.si .i64 i)],[]⟩) (λs=>iS s 23)
  (λi=>0<=i/\i<=(bR a.1).length/\(bR a.1).drop ((bR a.1).length - i.toNat)=(bR a.2).drop ((bR a.1).length - i.toNat)) (λi=>((bR a.1).length - i).toNat) λ_ _=> .look
 |_=> .look
theorem h132:Holds Tryz.prog xX:=by
 refine cq (L:=[rF]) xX aaK (by grind[h152]) ?_;rintro⟨a,b⟩ ⟨⟨H,J⟩,r,q⟩;simp only at H J r q;refine bQ (let h:=(0:Int);let m:=Ω .i64;let q:=γo .i64;let r:=bU .i64;let E:Nat:=(bR a).length;let j:=(↑E:Int);let B:Nat:=(bR b).length;let n:=(↑B:Int);let u:=m (iI (bq a) (bq b));let y:=Δ (bw.i .u32) (bR a);let v:=Δ (bw.i .u32) (bR b);let l:Nat:=(bR a).length;let k:=(↑l:Int);let C:=m k;let o:=q 0;let c:=j - (1:Int);a.length<=1000000000000/\b.length<=1000000000000/\(decide (j≠n)=true->(decide (j<n)=true->(q (-1:Int)).same u)/\(decide (j<n)=false->(q 1).same u))/\(decide (j≠n)=false->(((y.same y/\v.same v/\(m j).same C/\o.same (m 0)/\True)/\True)/\h<=h/\h<=k/\γ3 (l - 0) (bR a)=γ3 (l - 0) (bR b))/\∀(x:Int),let e:=(c - x).toNat;let f:=bp (bR a) e h;let g:=bp (bR b) e h;let d:=x+(1:Int);let p:=m d;h<=x/\x<=k/\γ3 (l - x.toNat) (bR a)=γ3 (l - x.toNat) (bR b)->(decide (x<k)=true->r c/\r (c - x)/\h<=c - x/\c - x<j/\e<E/\h<=c - x/\c - x<n/\e<B/\(decide (f<g)=true->(q (-1:Int)).same u)/\(decide (f<g)=false->h<=c - x/\c - x<j/\e<E/\h<=c - x/\c - x<n/\e<B/\(decide (g<f)=true->(q 1).same u)/\(decide (g<f)=false->r d/\((y.same y/\v.same v/\C.same C/\p.same p/\True)/\True)/\(h<=d/\d<=k/\γ3 (l - d.toNat) (bR a)=γ3 (l - d.toNat) (bR b))/\(k - d).toNat<(k - x).toNat)))/\(decide (x<k)=false->o.same u))) (by kernel_rfl) ?_;simp only[vcs];obtain⟨R,S⟩:=@rH a;obtain⟨O,N⟩:=@rH b;have z:=sN H;have w:=sN J;have W:=@ug a;rw[<-R,<-O];generalize bR a=s at*;generalize bR b=t at*;have G:bq s<bq t-> -1=iI (bq s) (bq t):=λh=>by simp_all[iI]
 have F:bq t<bq s->1=iI (bq s) (bq t):=λh=>by unfold iI;omega
 refine⟨r,q,λP=>⟨λh=>G (xW z w N (by omega)),λh=>F (xW w z S (by omega))⟩,λT=>⟨⟨by omega,by omega,?_⟩,?_⟩⟩;·rw[δ7 (by omega),δ7 (by omega)]
 rintro i ⟨U,X,A⟩;refine⟨λM=>?_,λQ=>?_⟩
 ·have K:((s.length:Int) - 1 - i).toNat=s.length - 1 - i.toNat:=by omega
  have D:s.length - i.toNat=s.length - 1 - i.toNat+1:=by omega
  rw[K];rw[D] at A;generalize V:s.length - 1 - i.toNat=m at*;refine⟨by omega,by omega,by omega,by omega,by omega,by omega,by omega,by omega,λh=>G (Iw z w (by omega) (by omega) A h),λh=>⟨by omega,by omega,by omega,by omega,by omega,by omega,λI=>F (Iw w z (by omega) (by omega) A.symm I),λI=>⟨by omega,⟨by omega,by omega,?_⟩,by omega⟩⟩⟩;rw[show s.length - (i+1).toNat=m by omega,DK (show m<s.length by omega),DK (show m<t.length by omega),A,show bp s m 0=bp t m 0 by omega]
 simp_all[iI]
def xY:bL:=⟨111,Int,.one (ef .u64),λx=>0<=(show Int from x)/\(show Int from x)<18446744073709551616,λx=> .row (.i .u32) (bO x)⟩
theorem h128:Holds Tryz.prog xY:=by
 refine cq (L:=[rF]) xY lk (by grind[h152]) ?_;intro(x:Int) h;obtain⟨b,a⟩:0<=x/\x<18446744073709551616:=h;refine bQ (let a:=(4294967296:Int);(0:Int)<=(32:Int)/\(32:Int)<=(64:Int)/\2<=1000000000000/\(Δ (bw.i .u32) (bR [x % a,x / a % a])).same (Δ (bw.i .u32) (bO x))) (by kernel_rfl) ?_;simp only[vcs];grind[bB,qH,bq]
def jf (s t:List Int):Nat->Int
 |0=>0
 |i+1=>(bp s i 0+jf s t i+bp t i 0) / 4294967296
def ui (s t:List Int) (i:Nat):Int:=(bp s i 0+jf s t i+bp t i 0) % 4294967296
def pg (s t:List Int) (i:Nat):List Int:=(Θ i).map (ui s t)++δ (s.length+1 - i) 0
def big (a:List Int×List Int):List Int:=if a.1.length<a.2.length then a.2 else a.1
def mh (a:List Int×List Int):List Int:=if a.1.length<a.2.length then a.1 else a.2
def Ae:bL:=⟨145,List Int×List Int,.cons (cV (.i .u32)) (.one (cV (.i .u32))),λa=>(bB a.1/\bB a.2)/\a.1.length<=100000000000/\a.2.length<=100000000000,λa=> .row (.i .u32) (bO (bq a.1+bq a.2))⟩
def aaL (a:List Int×List Int):Nat->cC
 |6=> .inv Int (λi=>⟨[(0,.row (.i .u32) (big a)),(1,.row (.i .u32) (mh a)),(5,.ow 0 (pg (big a) (mh a) i.toNat).length 1),(6,.si .u64 (jf (big a) (mh a) i.toNat)),(21,.si .i64 (big a).length),(22,.si .i64 i)],[.row (.i .u32) (pg (big a) (mh a) i.toNat) 187 true]⟩) (λs=>iS s 22)
  (λi=>0<=i/\i<=(big a).length) (λi=>((big a).length - i).toNat) λ_ _=> .look
 |_=> .look
theorem dK {a:List Int} (h:bB a) (i:Nat):0<=bp a i 0/\bp a i 0<4294967296:=by
 by_cases b:i<a.length;·rw[dj b];exact h _ (List.getElem_mem b)
 grind[bp]
theorem xZ {a:List Int} {i:Nat} (h:a.length<=i):bp a i 0=0:=by grind[bp]
theorem Ix {s t:List Int} (b:bB s) (a:bB t):∀i,0<=jf s t i/\jf s t i<=1
 |0=>by simp[jf];|i+1=>by
  have h:=Ix b a i;have c:=dK b i;have d:=dK a i;grind[jf]
theorem Af {s t:List Int} {i:Nat} (h:i<=s.length):(pg s t i).length=s.length+1:=by grind[pg]
theorem Iy {s t:List Int} {i:Nat} {v:Int} (h:i<=s.length):(pg s t i).set i v=(Θ i).map (ui s t)++v::δ (s.length - i) 0:=by
 unfold pg;have a:s.length+1 - i=(s.length - i)+1:=by omega
 rw[a,δk];simp_all
theorem Q9 {s t:List Int} {i:Nat} (h:i<s.length):pg s t (i+1)=(pg s t i).set i (ui s t i):=by
 rw[Iy (by omega)];unfold pg;rw[εe,γg,List.append_assoc];simp_all
theorem js {a:List Int} {i:Nat}:bq (a.take (i+1))=bq (a.take i)+4294967296^i*bp a i 0:=by
 by_cases h:i<a.length;·grind[Ad,rG]
 ·rw[xZ (by omega),γc (by omega),γc (by omega)];simp
theorem Iz {s t:List Int}:∀i,bq ((Θ i).map (ui s t))+4294967296^i*jf s t i=bq (s.take i)+bq (t.take i)
 |0=>by simp[jf,bq];|i+1=>by
  have a:=@Iz s t i;rw[εe,γg,φ,γv,rG,js,js,γs];grind[ui,jf]
theorem h154:Holds Tryz.prog Ae:=by
 refine cq (L:=[rF]) Ae aaL (by grind[h152]) ?_;rintro⟨a,b⟩ ⟨⟨ha,hb⟩,Y,S⟩;simp only at ha hb Y S;refine bQ (let c:=(18446744073709551616:Int);let d:=(0:Int);let e:=(4294967296:Int);let h:=Ω .i64;let j:=Δ;let n:=bA.row;let o:=γz;let w:=(↑(big (a,b)).length:Int);let H:=(↑(big (a,b)).length:Int);let p:=(↑(mh (a,b)).length:Int);let q:=bw.i .u32;let r:=j q (big (a,b));let s:=j q (mh (a,b));let Z:=h w;let t:=pg (big (a,b)) (mh (a,b)) 0;let z:=∀(x:Int),let f:=pg (big (a,b)) (mh (a,b)) x.toNat;let g:=f.length;let k:=x+(1:Int);let E:=pg (big (a,b)) (mh (a,b)) k.toNat;let N:=h k;let J:=bp (big (a,b)) x.toNat d;let y:=jf (big (a,b)) (mh (a,b)) x.toNat;let B:=f.set H.toNat (y % e);let G:=λ(u m:Int) ↦let M:=(u % c+m) % c;d<=(32:Int)/\(32:Int)<=(64:Int)/\f.length=g/\d<=x/\x<(↑g:Int)/\f.length=g/\x.toNat<g/\bU .i64 k/\((r.same r/\s.same s/\(o 0 f.length 1).same (o 0 E.length 1)/\(Ω .u64 (M / e)).same (Ω .u64 (jf (big (a,b)) (mh (a,b)) k.toNat))/\Z.same Z/\N.same N/\True)/\(n q (f.set x.toNat (M % e)) 187 true).same (n q E 187 true)/\True)/\(d<=k/\k<=w)/\(w - k).toNat<(w - x).toNat;d<=x/\x<=w->(decide (x<w)=true->d<=x/\x<H/\x.toNat<(big (a,b)).length/\(decide (x<p)=true->d<=x/\x<p/\x.toNat<(mh (a,b)).length/\G (J % c+y) (bp (mh (a,b)) x.toNat d % c))/\(decide (x<p)=false->G J y))/\(decide (x<w)=false->f.length=g/\d<=H/\H<(↑g:Int)/\f.length=g/\H.toNat<g/\f.length=B.length/\B.length<=1000000000000/\(j q (bR B)).same (j q (bO (bq a+bq b))));let v:=λ(u:Bool) (m O:List Int) ↦let l:=(↑m.length:Int)+(1:Int);decide ((↑a.length:Int)<(↑b.length:Int))=u->bU .i64 l/\d<=l/\l<=l/\l*(4:Int)<=(140737488355328:Int)/\l<=(1000000000000:Int)/\((((j q m).same r/\(j q O).same s/\(o 0 l.toNat 1).same (o 0 t.length 1)/\(γo .u64 0).same (Ω .u64 (jf (big (a,b)) (mh (a,b)) 0))/\(h (↑m.length:Int)).same Z/\(γo .i64 0).same (h 0)/\True)/\(n q (d::δ m.length d) 187 true).same (n q t 187 true)/\True)/\d<=d/\d<=w)/\z;v true b a/\v false a b) (by kernel_rfl) ?_;simp only[vcs];have V:(a.length<b.length/\big (a,b)=b/\mh (a,b)=a)\/(¬a.length<b.length/\big (a,b)=a/\mh (a,b)=b):=by
  by_cases h:a.length<b.length;·exact .inl ⟨h,if_pos h,if_pos h⟩
  ·exact .inr ⟨h,if_neg h,if_neg h⟩
 generalize big (a,b)=s at*;generalize mh (a,b)=t at*;have c:∀{u v:List Int},u=v->(bA.row (.i .u32) u 187 true).same (bA.row (.i .u32) v 187 true):=by rintro _ _ rfl;rfl
 have n:∀{u v:Nat},u=v->(γz 0 u 1).same (γz 0 v 1):=by rintro _ _ rfl;rfl
 have r0:∀u v:List Int,pg u v 0=0::δ u.length 0:=λu v=>rfl;refine⟨λh=>?_,λh=>?_⟩
 ·obtain⟨h1,P,T⟩:a.length<b.length/\s=b/\t=a:=by
   grind
  subst P T;have K:bB s:=by assumption
  have F:bB t:=by assumption
  have z:t.length<=s.length:=by omega
  have Q:=Ix K F;refine⟨⟨by omega,by omega⟩,by omega,by omega,by omega,by omega,⟨⟨⟨rfl,rfl,n (by simp_all),rfl,rfl⟩,c (r0 s t).symm⟩,by omega,by omega⟩,?_⟩;rintro i ⟨r,i1⟩;have l1:=@Af s t i.toNat (by omega);have R:=Q i.toNat;have d1:=dK K i.toNat;have d2:=dK F i.toNat;refine⟨λA=>?_,λX=>?_⟩
  ·have l2:=@Af s t (i.toNat+1) (by omega);have e:(i+1).toNat=i.toNat+1:=by omega
   have p:=Q9 (s:=s) (t:=t) (show i.toNat<s.length by omega);refine⟨r,A,by omega,λI=>?_,λI=>?_⟩
   ·have o:(((bp s i.toNat 0 % 18446744073709551616+jf s t i.toNat) % 18446744073709551616+bp t i.toNat 0 % 18446744073709551616) % 18446744073709551616)=bp s i.toNat 0+jf s t i.toNat+bp t i.toNat 0:=by omega
    rw[o,e];exact⟨r,I,by omega,by omega,by omega,r,by omega,by omega,by omega,⟨⟨n (by omega),rfl⟩,c p.symm⟩,by omega,by omega⟩
   ·have hz:=xZ (a:=t) (i:=i.toNat) (by omega);have o:((bp s i.toNat 0 % 18446744073709551616+jf s t i.toNat) % 18446744073709551616)=bp s i.toNat 0+jf s t i.toNat+bp t i.toNat 0:=by omega
    rw[o,e];exact⟨by omega,by omega,r,by omega,by omega,by omega,⟨⟨n (by omega),rfl⟩,c p.symm⟩,by omega,by omega⟩
  ·have D:i.toNat=s.length:=by omega
   have U:jf s t i.toNat % 4294967296=jf s t i.toNat:=by omega
   rw[U,γb,D];rw[D] at l1 R;refine⟨by omega,by omega,by omega,by simp,by simp;omega,?_⟩;rw[Iy (ψ _),Nat.sub_self,εU,qH ?_]
   ·rw[rG];have o:=@Iz s t s.length;rw[χ,γc z] at o;grind
   ·intro d C;grind[ui]
 ·obtain⟨h1,P,T⟩:¬a.length<b.length/\s=a/\t=b:=by
   rcases V with W|W;·exact absurd W.1 (by omega)
   ·exact W
  subst P T;have K:bB s:=by assumption
  have F:bB t:=by assumption
  have z:t.length<=s.length:=by omega
  have Q:=Ix K F;refine⟨⟨by omega,by omega⟩,by omega,by omega,by omega,by omega,⟨⟨⟨rfl,rfl,n (by rw[Af (by omega)];omega),rfl,rfl⟩,c (r0 s t).symm⟩,by omega,by omega⟩,?_⟩;rintro i ⟨r,i1⟩;have l1:=@Af s t i.toNat (by omega);have R:=Q i.toNat;have d1:=dK K i.toNat;have d2:=dK F i.toNat;refine⟨λA=>?_,λX=>?_⟩
  ·have l2:=@Af s t (i.toNat+1) (by omega);have e:(i+1).toNat=i.toNat+1:=by omega
   have p:=Q9 (s:=s) (t:=t) (show i.toNat<s.length by omega);refine⟨r,A,by omega,λI=>?_,λI=>?_⟩
   ·have o:(((bp s i.toNat 0 % 18446744073709551616+jf s t i.toNat) % 18446744073709551616+bp t i.toNat 0 % 18446744073709551616) % 18446744073709551616)=bp s i.toNat 0+jf s t i.toNat+bp t i.toNat 0:=by omega
    rw[o,e];exact⟨r,I,by omega,by omega,by omega,r,by omega,by omega,by omega,⟨⟨n (by omega),rfl⟩,c p.symm⟩,by omega,by omega⟩
   ·have hz:=xZ (a:=t) (i:=i.toNat) (by omega);have o:((bp s i.toNat 0 % 18446744073709551616+jf s t i.toNat) % 18446744073709551616)=bp s i.toNat 0+jf s t i.toNat+bp t i.toNat 0:=by omega
    rw[o,e];exact⟨by omega,by omega,r,by omega,by omega,by omega,⟨⟨n (by omega),rfl⟩,c p.symm⟩,by omega,by omega⟩
  ·have D:i.toNat=s.length:=by omega
   have U:jf s t i.toNat % 4294967296=jf s t i.toNat:=by omega
   rw[U,γb,D];rw[D] at l1 R;refine⟨by omega,by omega,by omega,by simp,by simp;omega,?_⟩;rw[Iy (ψ _),Nat.sub_self,εU,qH ?_]
   ·rw[rG];have o:=@Iz s t s.length;rw[χ,γc z] at o;have hl:((Θ s.length).map (ui s t)).length=s.length:=by simp
    rw[hl,o];try rw[ζt]
   ·intro d C;rcases γu.1 C with C|C
    ·obtain⟨j,_,rfl⟩:=γf.1 C;unfold ui;omega
    ·rw[δ9] at C;omega
def ig (d:Int):List Int->List Int×Int
 |[]=>([],0)
 |x::l=>(((ig d l).2*4294967296+x) / d::(ig d l).1,((ig d l).2*4294967296+x) % d)
theorem Rb {d:Int}:∀{a:List Int},(ig d a).1.length=a.length
 |[]=>rfl
 |x::l=>by simp[ig,Rb]
theorem DL {d:Int} (e:0<d) (k:d<4294967296):∀{a:List Int},bB a->bB (ig d a).1/\(0<=(ig d a).2/\(ig d a).2<d)/\bq (ig d a).1*d+(ig d a).2=bq a
 |[],_=>by grind[ig,bq];|x::l,h=>by
  obtain⟨n,g⟩:=jd.1 h;obtain⟨j,⟨p,s⟩,o⟩:=DL e k g;simp only[ig];generalize (ig d l).1=q at*;generalize (ig d l).2=r at*;have f:=γ9 (r*4294967296+x) (show d≠0 by omega);have i:=γM (r*4294967296+x) e;have c:0<=(r*4294967296+x) / d:=Int.ediv_nonneg (by omega) (by omega);have b:(r*4294967296+x) / d<4294967296:=by
   refine Int.ediv_lt_of_lt_mul e ?_;omega
  refine⟨jd.2 ⟨⟨c,b⟩,j⟩,⟨f,i⟩,?_⟩;simp only[bq];have m:=Int.mul_ediv_add_emod (r*4294967296+x) d;grind
theorem aaM {d:Int} (i:0<d) (h:d<4294967296) {a:List Int} (g:bB a):bR (ig d a).1=bO (bq a / d)/\(ig d a).2=bq a % d:=by
 obtain⟨e,⟨c,b⟩,f⟩:=DL i h g;rw[qH e];have j:=dX e;have k:bq a / d=bq (ig d a).1:=by
  rw[<-f,ζt,Int.add_mul_ediv_right _ _ (by omega),Int.ediv_eq_zero_of_lt c b,Int.zero_add]
 have l:bq a % d=(ig d a).2:=by
  rw[<-f,ζt,Int.add_mul_emod_self_right,δp c b]
 simp_all
theorem IA {r x:Int} (d:0<=r) (g:r<4294967296) (a:0<=x) (e:x<4294967296):ie.nV .u64 (r*4294967296) x=r*4294967296+x:=by
 obtain⟨m,rfl⟩:=δI d;obtain⟨k,rfl⟩:=δI a;have b:(γl 64 ((m:Int)*4294967296)).toNat=2^32*m:=by
  grind[BitVec.toNat_ofInt]
 have c:(γl 64 (k:Int)).toNat=k:=by
  grind
 have f:(γl 64 ((m:Int)*4294967296) |||γl 64 (k:Int)).toNat=2^32*m+k:=by
  rw[BitVec.toNat_or,b,c,Nat.two_pow_add_eq_or_of_lt (by omega)]
 show fe .u64 ((γl 64 ((m:Int)*4294967296) |||γl 64 (k:Int)).toNat:Nat)=_;grind[tC,IntKind.wrap,IntKind.bits,IntKind.signed]
def IB:bL:=⟨186,List Int×Int,.cons (cV (.i .u32)) (.one (ef .u32)),λa=>bB a.1/\a.1.length<=100000000000/\0<a.2/\a.2<4294967296,λa=> .bN [.row (.i .u32) (bO (bq a.1 / a.2)),.si .u32 (bq a.1 % a.2)]⟩
def mj (a:List Int) (d:Int) (i:Nat):List Int:=δ (a.length - i) 0++(ig d (a.drop (a.length - i))).1
def lK (a:List Int) (d:Int) (i:Nat):Int:=(ig d (a.drop (a.length - i))).2
def aaN (a:List Int×Int):Nat->cC
 |4=> .inv Int (λi=>⟨[(0,.row (.i .u32) a.1),(1,.si .u32 a.2),(6,.ow 0 (mj a.1 a.2 i.toNat).length 1),(7,.si .u64 (lK a.1 a.2 i.toNat)),(15,.si .i64 a.1.length),(16,.si .i64 i)],[.row (.i .u32) (mj a.1 a.2 i.toNat) 187 true]⟩) (λs=>iS s 16)
  (λi=>0<=i/\i<=a.1.length) (λi=>(a.1.length - i).toNat) λ_ _=> .look
 |_=> .look
theorem Re {a:List Int} {d:Int} {i:Nat} (h:i<=a.length):(mj a d i).length=a.length:=by
 grind[mj,Rb]
theorem drop_cons {a:List Int} {k:Nat} (h:k<a.length):a.drop k=bp a k 0::a.drop (k+1):=DK h
theorem Rf {q:List Int} {y:Int}:∀k,(δ (k+1) 0++q).set k y=δ k 0++y::q
 |0=>by simp;|k+1=>by
  have:=@Rf q y k;grind
theorem u64_in {n:Int} (b:0<=n) (a:n<18446744073709551616):bU .u64 n:=by
 show IntKind.u64.wrap n=n;grind[IntKind.wrap,IntKind.bits,IntKind.signed]
theorem h167:Holds Tryz.prog IB:=by
 refine cq (L:=[rF]) IB aaN (by grind[h152]) ?_;rintro⟨a,d⟩ ⟨o,H,n,w⟩;simp only at o H n w;refine bQ (let h:=(0:Int);let k:=(18446744073709551616:Int);let l:=(4294967296:Int);let m:=Ω .i64;let n:=Δ;let o:=bA.row;let p:=bU .i64;let q:=(1:Int);let s:=γz;let c:=(↑a.length:Int);let e:=bw.i .u32;let f:=(↑a.length:Int);let A:=m f;let r:=d % k;h<=c/\c<=c/\c*(4:Int)<=(140737488355328:Int)/\c<=(1000000000000:Int)/\((((n e a).same (n e a)/\(Ω .u32 d).same (Ω .u32 d)/\(s 0 c.toNat 1).same (s 0 (mj a d 0).length 1)/\(γo .u64 0).same (Ω .u64 (lK a d 0))/\(m c).same A/\(γo .i64 0).same (m 0)/\True)/\(o e (δ c.toNat h) 187 true).same (o e (mj a d 0) 187 true)/\True)/\h<=h/\h<=f)/\∀(x:Int),let g:=c - q - x;let C:=ie.nV .u64 (lK a d x.toNat*l % k) (bp a g.toNat h % k);let b:=mj a d x.toNat;let j:=x+q;let K:=m j;h<=x/\x<=f->(decide (x<f)=true->p (c - q)/\p g/\h<=(32:Int)/\(32:Int)<=(64:Int)/\h<=g/\g<c/\g.toNat<a.length/\r≠h/\bU .u64 (C.tdiv r)/\r≠h/\b.length=b.length/\h<=g/\g<(↑b.length:Int)/\b.length=b.length/\g.toNat<b.length/\p j/\(((n e a).same (n e a)/\(Ω .u32 d).same (Ω .u32 d)/\(s 0 b.length 1).same (s 0 (mj a d j.toNat).length 1)/\(Ω .u64 (C.tmod r)).same (Ω .u64 (lK a d j.toNat))/\A.same A/\K.same K/\True)/\(o e (b.set g.toNat (C.tdiv r % l)) 187 true).same (o e (mj a d j.toNat) 187 true)/\True)/\(h<=j/\j<=f)/\(f - j).toNat<(f - x).toNat)/\(decide (x<f)=false->b.length=b.length/\b.length<=1000000000000/\(SV.bN [n e (bR b),Ω .u32 (lK a d x.toNat % l)]).same (SV.bN [n e (bO (bq a / d)),Ω .u32 (bq a % d)]))) (by kernel_rfl) ?_;simp only[vcs];have p:∀{u v:List Int},u=v->(bA.row (.i .u32) u 187 true).same (bA.row (.i .u32) v 187 true):=by rintro _ _ rfl;rfl
 have G:∀{u v:Nat},u=v->(γz 0 u 1).same (γz 0 v 1):=by rintro _ _ rfl;rfl
 have e:mj a d 0=δ a.length 0:=by simp[mj,ig]
 have f:lK a d 0=0:=by simp[lK,ig]
 refine⟨by omega,by omega,by omega,by omega,⟨⟨⟨G (by simp_all),f.symm⟩,p (by simp_all)⟩,by omega,by omega⟩,?_⟩;rintro i ⟨i0,Z⟩;have l1:=@Re a d i.toNat (by omega);have M:=λh=>@Re a d (i+1).toNat h;have P:d % 18446744073709551616=d:=by omega
 refine⟨λN=>?_,λQ=>?_⟩
 ·have U:((a.length:Int) - 1 - i).toNat=a.length - 1 - i.toNat:=by omega
  have R:a.length - i.toNat=a.length - 1 - i.toNat+1:=by omega
  have W:a.length - (i+1).toNat=a.length - 1 - i.toNat:=by omega
  have X:mj a d i.toNat=δ (a.length - 1 - i.toNat+1) 0++(ig d (a.drop (a.length - 1 - i.toNat+1))).1:=by grind[mj]
  have I:lK a d i.toNat=(ig d (a.drop (a.length - 1 - i.toNat+1))).2:=by grind[lK]
  have l:mj a d (i+1).toNat=δ (a.length - 1 - i.toNat) 0++(ig d (a.drop (a.length - 1 - i.toNat))).1:=by grind[mj]
  have m:lK a d (i+1).toNat=(ig d (a.drop (a.length - 1 - i.toNat))).2:=by grind[lK]
  have E:a.length - 1 - i.toNat<a.length:=by omega
  rw[U];have l3:=M (by omega);generalize a.length - 1 - i.toNat=k at*;have D:=drop_cons E;have t:bB (a.drop k):=λz F=>o z (γW F);obtain⟨q1,O,q3⟩:=DL n w (a:=a.drop (k+1)) (λz F=>o z (γW F));obtain⟨y,B,p3⟩:=DL n w t;rw[D] at l m y B;simp only[ig] at l m y B;have q:=dK o k;rw[<-I] at l m y B O;have S:lK a d i.toNat*4294967296 % 18446744073709551616=lK a d i.toNat*4294967296:=by omega
  have V:bp a k 0 % 18446744073709551616=bp a k 0:=by omega
  rw[S,V,P,IA (by omega) (by omega) q.1 q.2];have s:0<=lK a d i.toNat*4294967296+bp a k 0:=by omega
  rw[Int.tdiv_eq_ediv_of_nonneg s,Int.tmod_eq_emod_of_nonneg s];have J:=(jd.1 y).1;have T:(lK a d i.toNat*4294967296+bp a k 0) / d % 4294967296=(lK a d i.toNat*4294967296+bp a k 0) / d:=δp J.1 J.2;grind[u64_in,Rf]
 ·have hi:a.length - i.toNat=0:=by omega
  have X:mj a d i.toNat=(ig d a).1:=by grind[mj]
  have I:lK a d i.toNat=(ig d a).2:=by grind[lK]
  obtain⟨k1,k2⟩:=aaM n w o;have Y:=γ9 (bq a) (show d≠0 by omega);have hl:=γM (bq a) n;grind
def dV (x y:Int):Int:=(Nat.gcd x.toNat y.toNat:Nat)
theorem Rh {x y:Int} (h0:0<=x) (h1:0<y):dV y (x % y)=dV x y:=by
 unfold dV;congr 1;rw[Nat.gcd_comm x.toNat,Nat.gcd_rec y.toNat x.toNat,Nat.gcd_comm,Int.toNat_emod h0 (by omega)]
theorem Ri {x:Int} (h0:0<=x):dV x 0=x:=by unfold dV;simp;omega
def iC:Nat->Int->List Int
 |0,_=>[]
 |k+1,x=>x % 4294967296::iC k (x / 4294967296)
theorem Ag:∀{k:Nat} {x:Int},(iC k x).length=k
 |0,_=>rfl
 |k+1,x=>by simp[iC,Ag]
theorem IC:∀{k:Nat} {x:Int},bB (iC k x)
 |0,_=>by simp[iC,bB];|k+1,x=>jd.2 ⟨by omega,IC⟩
theorem Rj:∀{l:List Int},bB l->iC l.length (bq l)=l
 |[],_=>rfl
 |d::l,h=>by
  obtain⟨e,b⟩:=jd.1 h;simp only[γy,iC,bq];have c:(d+4294967296*bq l) % 4294967296=d:=by omega
  have a:(d+4294967296*bq l) / 4294967296=bq l:=by omega
  rw[c,a,Rj b]
theorem IE {l:List Int} {k:Nat} {x:Int} (h:bB l) (b:l.length=k) (a:bq l=x):l=iC k x:=by
 grind[Rj]
theorem pow_pos (k:Nat):(0:Int)<4294967296^k:=Int.pow_pos (by decide)
theorem IG:∀{k:Nat} {x:Int},0<=x->x<4294967296^k->bq (iC k x)=x
 |0,x,b,a=>by grind[iC,bq];|k+1,x,b,a=>by
  rw[γs] at a;simp only[iC,bq];rw[IG (k:=k) (x:=x / 4294967296) (by omega) (by omega)];omega
theorem DN:∀{a b:List Int},bq (a++b)=bq a+4294967296^a.length*bq b
 |[],b=>by simp[bq];|d::l,b=>by
  simp only[γC,bq,DN,γy,γs,εx];grind
theorem uj:∀{l:List Int} {j:Nat} {v:Int},j<l.length->bq (l.set j v)=bq l+4294967296^j*(v - bp l j 0)
 |[],_,_,h=>by simp at h;|d::l,0,v,_=>by grind[bq,bp];|d::l,j+1,v,h=>by
  have a:=@uj l j v (by simpa using h);grind[bp,bq]
theorem nz {l:List Int} {j:Nat} {v:Int} (h:bB l) (c:0<=v) (b:v<4294967296):bB (l.set j v):=by
 intro d a;rcases List.mem_or_eq_of_mem_set a with a|rfl;·exact h d a
 omega
theorem x5 {a:List Int} (h:bB a) (n:Nat):bB (a.drop n):=λd b=>h d (γW b)
theorem vK {a b:List Int} (e:bB a) (c:bB b):bB (a++b):=λd f=>by
 rcases γu.1 f with h|h;·exact e d h
 ·exact c d h
theorem Ah {x:Int} (b:0<=x) (a:x<4294967296):bB [x]:=jd.2 ⟨⟨b,a⟩,by simp[bB]⟩
theorem sP {l:List Int} {j:Nat} {v:Int} (h:j<l.length):bp (l.set j v) j 0=v:=by
 grind[bp]
theorem pT {l:List Int} {i j:Nat} {v:Int} (h:i≠j):bp (l.set i v) j 0=bp l j 0:=by
 grind[bp]
theorem Ai:∀{l:List Int} {i j:Nat},bB l->bq l<4294967296^i->i<=j->bp l j 0=0
 |[],_,_,_,_,_=>by simp[bp];|d::l,0,j,h,a,c=>by
  obtain⟨e,b⟩:=jd.1 h;have:=dX b;simp only[bq,Int.pow_zero] at a;have f:d=0:=by omega
  have g:bq l=0:=by omega
  cases j with
  |zero=>simp[bp,f];|succ j=>
   have:=Ai (l:=l) (i:=0) (j:=j) b (by simp;omega) (by omega);grind[bp]
 |d::l,i+1,j,h,a,c=>by
  obtain⟨e,b⟩:=jd.1 h;cases j with
  |zero=>omega;|succ j=>
   rw[γs] at a;simp only[bq] at a;have:=Ai (l:=l) (i:=i) (j:=j) b (by omega) (by omega);grind[bp]
def iD (o b:List Int) (x:Int) (i:Nat):Nat->List Int×Int
 |0=>(o,0)
 |k+1=>((iD o b x i k).1.set (i+k) ((x*bp b k 0+bp (iD o b x i k).1 (i+k) 0+(iD o b x i k).2) % 4294967296),(x*bp b k 0+bp (iD o b x i k).1 (i+k) 0+(iD o b x i k).2) / 4294967296)
theorem Rk {o b:List Int} {x:Int} {i:Nat} (d:bB o) (g:bB b) (f:0<=x) (m:x<4294967296):∀{k:Nat},i+k<=o.length->
  bB (iD o b x i k).1/\(iD o b x i k).1.length=o.length/\(0<=(iD o b x i k).2/\(iD o b x i k).2<4294967296)/\(∀j,i+k<=j->bp (iD o b x i k).1 j 0=bp o j 0)/\
  bq (iD o b x i k).1+4294967296^(i+k)*(iD o b x i k).2=bq o+4294967296^i*(x*bq (b.take k))
 |0,h=>by simp[iD,d,bq];|k+1,h=>by
  obtain⟨l,t,⟨v,s⟩,u,r⟩:=@Rk o b x i d g f m k (by omega);simp only[iD];generalize (iD o b x i k).1=p at*;generalize (iD o b x i k).2=c at*;have a:=dK g k;have q:=dK l (i+k);have n:0<=x*bp b k 0:=γh f a.1;have e:x*bp b k 0<=4294967295*4294967295:=δy (by omega) (by omega) a.1 (by omega);grind[nz,uj,js,bp]
theorem lL {i u v:Nat} (h:u=v):(γz i u 1).same (γz i v 1):=by subst h;rfl
theorem aaO {u v:List Int} (h:u=v):(Δ (.i .u32) u).same (Δ (.i .u32) v):=by subst h;rfl
theorem II {l:List Int} (h:l=[]):(Δ (.i .i64) []).same (Δ (.i .u32) l):=by subst h;rfl
def Rl (x y:Int):SV:=.bN [.row (.i .u32) (bO (x - y)),.sb (decide (y<=x))]
theorem DO {n:Int} (h:n<=0):bO n=[]:=by
 unfold bO;rw[show n.toNat=0 by omega];rfl
def IJ:bL:=⟨146,List Int×List Int,.cons (cV (.i .u32)) (.one (cV (.i .u32))),λa=>(bB a.1/\bB a.2)/\a.1.length<=100000000000/\a.2.length<=100000000000,
 λa=>Rl (bq a.1) (bq a.2)⟩
def aaP (a:List Int×List Int):Nat->cC
 |7=> .inv (Int×Int×List Int) (λx=>⟨[(0,.row (.i .u32) (bR a.1)),(1,.row (.i .u32) (bR a.2)),(6,.ow 0 x.2.2.length 1),(7,.si .u64 x.2.1),(22,.si .i64 (bR a.1).length),(23,.si .i64 x.1)],[.row (.i .u32) x.2.2 187 true]⟩)
  (λs=>(iS s 23,iS s 7,oS (.i .u32) s 0))
  (λx=>(0<=x.1/\x.1<=(bR a.1).length)/\(0<=x.2.1/\x.2.1<=1)/\bB x.2.2/\x.2.2.length=(bR a.1).length/\(∀j,x.1.toNat<=j->bp x.2.2 j 0=0)/\
   bq x.2.2 - 4294967296^x.1.toNat*x.2.1=bq ((bR a.1).take x.1.toNat) - bq ((bR a.2).take x.1.toNat)) (λx=>((bR a.1).length - x.1).toNat) λ_ _=> .look
 |_=> .look
theorem Rm {s t row:List Int} {i:Nat} {br d v c:Int} (hs:bB s) (ht:bB t) (hr:bB row) (hl:row.length=s.length) (hz:∀j,i<=j->bp row j 0=0)
  (hv:bq row - 4294967296^i*br=bq (s.take i) - bq (t.take i)) (hi:i<s.length) (hd:d=bp s i 0 - br - bp t i 0) (h0:0<=v/\v<4294967296) (hc:v - 4294967296*c=d):
  bB (row.set i v)/\(row.set i v).length=s.length/\(∀j,i+1<=j->bp (row.set i v) j 0=0)/\bq (row.set i v) - 4294967296^(i+1)*c=bq (s.take (i+1)) - bq (t.take (i+1)):=by
 refine⟨nz hr h0.1 h0.2,by simp[hl],λj hj=>by rw[pT (by omega)];exact hz j (by omega),?_⟩;rw[uj (by omega),js,js,hz i (ψ _),γs,ε5];have h1:(4294967296:Int)^i*(v - 4294967296*c)=4294967296^i*(bp s i 0 - br - bp t i 0):=by rw[hc,hd]
 simp only[Int.mul_sub] at h1;rw[<-γO] at h1;omega
theorem h155:Holds Tryz.prog IJ:=by
 refine cq (L:=[rF,xX]) IJ aaP (by simpa using⟨h152,h132⟩) ?_;rintro⟨a,b⟩ ⟨⟨ha,hb⟩,hla,hlb⟩;simp only at ha hb hla hlb;refine bQ (let c:=(0:Int);let d:=(18446744073709551616:Int);let e:=Δ;let f:=(4294967296:Int);let g:=Ω .i64;let h:=(1:Int);let k:=γz;let l:=SV.bN;let z0:Nat:=(bR a).length;let B:=decide (iI (bq (bR a)) (bq (bR b))<c);let m:=bw.i .u32;let C:=l [e m (bO (bq a - bq b)),SV.sb (decide (bq b<=bq a))];let o:=(↑(bR a).length:Int);let q:=δ o.toNat c;let p:=(↑z0:Int);let z:=g p;let D:=bA.row m q 187 true;let A:=(↑(bR b).length:Int);a.length<=1000000000000/\b.length<=1000000000000/\((bB (bR a)/\bB (bR b))/\z0<=1000000000000/\(bR b).length<=1000000000000)/\(B=true->(l [e (bw.i .i64) [],γ0 false]).same C)/\(B=false->c<=o/\o<=o/\o*(4:Int)<=(140737488355328:Int)/\o<=(1000000000000:Int)/\((((e m (bR a)).same (e m (bR a))/\(e m (bR b)).same (e m (bR b))/\(k 0 o.toNat 1).same (k 0 q.length 1)/\(γo .u64 0).same (Ω .u64 0)/\(g o).same z/\(γo .i64 0).same (g 0)/\True)/\D.same D/\True)/\(c<=c/\c<=p)/\(c<=c/\c<=h)/\bB q/\q.length=z0/\(∀(j:Nat),0<=j->bp q j c=c)/\bq q - c=c)/\∀(x:Int×Int×List Int),let r:=x.snd.snd.length;let v:=x.snd.snd.length;let n:=x.fst.toNat;let s:=x.fst+h;let E:=g s;let w:=s.toNat;let F:=bp (bR a) n c;let G:=λ(u u_1:Int) ↦let H:=(u % d - u_1) % d;let t:=x.snd.snd.set n (H % f);let y:=H / (9223372036854775808:Int);let I:=Ω .u64 y;let J:=bA.row m t 187 true;c<=(63:Int)/\(63:Int)<=(64:Int)/\r=v/\c<=x.fst/\x.fst<(↑v:Int)/\r=v/\n<v/\bU .i64 s/\(((e m (bR a)).same (e m (bR a))/\(e m (bR b)).same (e m (bR b))/\(k 0 r 1).same (k 0 t.length 1)/\I.same I/\z.same z/\E.same E/\True)/\J.same J/\True)/\((c<=s/\s<=p)/\(c<=y/\y<=h)/\bB t/\t.length=z0/\(∀(j:Nat),w<=j->bp t j c=c)/\bq t - f^w*y=bq (τ w (bR a)) - bq (τ w (bR b)))/\(p - s).toNat<(p - x.fst).toNat;(c<=x.fst/\x.fst<=p)/\(c<=x.snd.fst/\x.snd.fst<=h)/\bB x.snd.snd/\r=z0/\(∀(j:Nat),n<=j->bp x.snd.snd j c=c)/\bq x.snd.snd - f^n*x.snd.fst=bq (τ n (bR a)) - bq (τ n (bR b))->(decide (x.fst<p)=true->c<=x.fst/\x.fst<o/\n<(bR a).length/\(decide (x.fst<A)=true->c<=x.fst/\x.fst<A/\n<(bR b).length/\G (F % d - x.snd.fst) (bp (bR b) n c % d))/\(decide (x.fst<A)=false->G F x.snd.fst))/\(decide (x.fst<p)=false->r=v/\r<=1000000000000/\(l [e m (bR x.snd.snd),γ0 true]).same C))) (by kernel_rfl) ?_;simp only[vcs];obtain⟨va,na⟩:=@rH a;obtain⟨vb,nb⟩:=@rH b;have da:=sN ha;have db:=sN hb;have la:=@ug a;have lb:=@ug b;have pa:=dX da;have pb:=dX db;rw[<-va,<-vb];generalize bR a=s at*;generalize bR b=t at*;have hr0:∀n j,bp (δ n (0:Int)) j 0=0:=λn j=>by
  unfold bp;rw[εC];split<;>rfl
 have hd0:∀n,bB (δ n 0):=λn d hd=>by
  have:=εB hd;omega
 have hv0:∀n,bq (δ n 0)=0:=λn=>by
  induction n with
  |zero=>rfl;|succ n ih=>simp only[δk,bq,ih];omega
 refine⟨by omega,by omega,⟨⟨da,db⟩,by omega,by omega⟩,λhlt=>?_,λhge=>⟨by omega,by omega,by omega,by omega,?_,?_⟩⟩
 ·have hlt2:bq s<bq t:=by unfold iI at hlt;split at hlt<;>(try split at hlt)<;>omega
  refine⟨II (DO (by omega)),?_⟩;rw[eq_comm,decide_eq_false_iff_not];omega
 ·repeat' refine γe ?_ ?_
  all_goals first|omega|exact lL (by simp)|exact hd0 _|exact λj _=>hr0 _ j|(simp;done)|(rw[hv0];rfl)
 have Rn:bq t<=bq s:=by unfold iI at hge;split at hge<;>(try split at hge)<;>omega
 rintro⟨i,br,row⟩ ⟨⟨i0,i1⟩,⟨b0,b1⟩,hr,hl,hz,hv⟩;simp only at i0 i1 b0 b1 hr hl hz hv ⊢;refine⟨λpU=>?_,λpV=>?_⟩
 ·have d1:=dK da i.toNat;have d2:=dK db i.toNat;have e:(i+1).toNat=i.toNat+1:=by omega
  refine⟨i0,pU,by omega,λht=>?_,λht=>?_⟩
  ·generalize hq:((bp s i.toNat 0 % 18446744073709551616 - br) % 18446744073709551616 - bp t i.toNat 0 % 18446744073709551616) % 18446744073709551616=q;obtain⟨k1,k2,k3,k4⟩:=Rm (v:=q % 4294967296) (c:=q / 9223372036854775808) da db hr hl hz hv (by omega) rfl (by omega) (by omega);rw[e];repeat' refine γe ?_ ?_
   all_goals first|omega|exact lL (by simp)|exact k1|exact k2|exact k3|exact k4
  ·have hz2:=xZ (a:=t) (i:=i.toNat) (by omega);generalize hq:(bp s i.toNat 0 % 18446744073709551616 - br) % 18446744073709551616=q;obtain⟨k1,k2,k3,k4⟩:=Rm (v:=q % 4294967296) (c:=q / 9223372036854775808) da db hr hl hz hv (by omega) rfl (by omega) (by omega);rw[e];repeat' refine γe ?_ ?_
   all_goals first|omega|exact lL (by simp)|exact k1|exact k2|exact k3|exact k4
 ·have hi:i.toNat=s.length:=by omega
  have hlen:t.length<=s.length:=by
   by_cases h:s.length<t.length
   ·have:=xW da db nb h;omega
   ·omega
  rw[hi,χ,γc hlen] at hv;have hbd:=je hr;have hp:=pow_pos s.length;rw[hl] at hbd;have hb0:br=0:=by
   by_cases h:br=0;·exact h
   ·have:br=1:=by omega
    subst this;omega
  rw[hb0,Int.mul_zero,ε5] at hv;refine⟨by omega,?_,?_⟩;·rw[qH hr,hv]
  ·rw[eq_comm,decide_eq_true_eq];exact Rn
theorem Ro {n j:Nat}:bp (δ n (0:Int)) j 0=0:=by
 unfold bp;rw[εC];split<;>rfl
theorem x6 {n:Nat}:bB (δ n 0):=λd hd=>by
 have:=εB hd;omega
theorem vM:∀{n:Nat},bq (δ n 0)=0
 |0=>rfl
 |n+1=>by simp only[δk,bq,@vM n];omega
theorem aaQ {o b:List Int} {x:Int} {i k:Nat}:iD o b x i (k+1)=((iD o b x i k).1.set (i+k) ((x*bp b k 0+bp (iD o b x i k).1 (i+k) 0+(iD o b x i k).2) % 4294967296),(x*bp b k 0+bp (iD o b x i k).1 (i+k) 0+(iD o b x i k).2) / 4294967296):=rfl
def x7:bL:=⟨144,List Int×List Int,.cons (cV (.i .u32)) (.one (cV (.i .u32))),λa=>(bB a.1/\bB a.2)/\a.1.length<=100000000000/\a.2.length<=100000000000,
 λa=> .row (.i .u32) (bO (bq a.1*bq a.2))⟩
def stM (a:List Int×List Int) (row:List Int):cu:=[.row (.i .u32) row 187 true]
def aaR (a:List Int×List Int):Nat->cC
 |3=> .inv (Int×List Int) (λx=>⟨[(0,.row (.i .u32) a.1),(1,.row (.i .u32) a.2),(5,.ow 0 x.2.length 1),(17,.si .i64 a.1.length),(18,.si .i64 x.1)],stM a x.2⟩)
  (λs=>(iS s 18,oS (.i .u32) s 0))
  (λx=>(0<=x.1/\x.1<=a.1.length)/\bB x.2/\x.2.length=a.1.length+a.2.length/\bq x.2=bq (a.1.take x.1.toNat)*bq a.2) (λx=>(a.1.length - x.1).toNat)
  λx=>λ
   |7=> .inv (Int×Int×List Int) (λy=>⟨[(0,.row (.i .u32) a.1),(1,.row (.i .u32) a.2),(5,.ow 0 y.2.2.length 1),(6,.si .i64 x.1),(7,.si .u64 y.2.1),(17,.si .i64 a.1.length),(18,.si .i64 x.1),(22,.si .i64 a.2.length),(23,.si .i64 y.1)],stM a y.2.2⟩)
    (λs=>(iS s 23,iS s 7,oS (.i .u32) s 0))
    (λy=>(0<=y.1/\y.1<=a.2.length)/\y.2.2=(iD x.2 a.2 (bp a.1 x.1.toNat 0) x.1.toNat y.1.toNat).1/\y.2.1=(iD x.2 a.2 (bp a.1 x.1.toNat 0) x.1.toNat y.1.toNat).2) (λy=>(a.2.length - y.1).toNat) λ_ _=> .look
   |_=> .look
 |_=> .look
theorem h153:Holds Tryz.prog x7:=by
 refine cq (L:=[rF]) x7 aaR (by simpa using h152) ?_;rintro⟨a,b⟩ ⟨⟨ha,hb⟩,hla,hlb⟩;simp only at ha hb hla hlb;refine bQ (let c:=(18446744073709551616:Int);let d:=(0:Int);let e:=Δ;let f:=Ω .i64;let g:=(4294967296:Int);let h:=bU .i64;let j:=γz;let k:=γo .i64 0;let l:=bA.row;let F:=(↑a.length:Int);let z:=(↑b.length:Int);let p:=F+z;let m:=bw.i .u32;let A:=δ p.toNat d;let q:=(↑a.length:Int);let t:=f q;let J:=l m A 187 true;let G:=a.length+b.length;let r:=(↑b.length:Int);let H:=f r;h p/\d<=p/\p<=p/\p*(4:Int)<=(140737488355328:Int)/\p<=(1000000000000:Int)/\((((e m a).same (e m a)/\(e m b).same (e m b)/\(j 0 p.toNat 1).same (j 0 A.length 1)/\(f F).same t/\(k).same (f 0)/\True)/\J.same J/\True)/\(d<=d/\d<=q)/\bB A/\A.length=G/\bq A=bq []*bq b)/\∀(x:Int×List Int),let C:=x.snd.length;let v:=x.fst.toNat;let K:=j 0 C 1;let s:=f x.fst;let L:=l m x.snd 187 true;let D:=bp a v d;let M:=iD x.snd b D v 0;let w:=x.fst+(1:Int);let N:=f w;(d<=x.fst/\x.fst<=q)/\bB x.snd/\C=G/\bq x.snd=bq (τ v a)*bq b->(decide (x.fst<q)=true->((((e m a).same (e m a)/\(e m b).same (e m b)/\K.same K/\s.same s/\(γo .u64 0).same (Ω .u64 0)/\t.same t/\s.same s/\(f z).same H/\(k).same (f 0)/\True)/\L.same L/\True)/\(d<=d/\d<=r)/\x.snd=M.fst/\d=M.snd)/\∀(x_1:Int×Int×List Int),let O:=iD x.snd b D v x_1.fst.toNat;let o:=x.fst+x_1.fst;let n:=x_1.snd.snd.length;let y:=x_1.fst+(1:Int);let P:=j 0 x_1.snd.snd.length 1;let I:=((D % c*(bp b x_1.fst.toNat d % c) % c+bp x_1.snd.snd o.toNat d % c) % c+x_1.snd.fst) % c;let Q:=x_1.snd.snd.set o.toNat (I % g);let R:=I / g;let S:=Ω .u64 R;let T:=f y;let U:=iD x.snd b D v y.toNat;let B:=x.fst+z;let E:=x_1.snd.snd.set B.toNat (x_1.snd.fst % g);let V:=λ(u u_1:Int) ↦let W:=l m (x_1.snd.snd.set (x.fst+u).toNat (u_1 % g)) 187 true;W.same W/\True;(d<=x_1.fst/\x_1.fst<=r)/\x_1.snd.snd=O.fst/\x_1.snd.fst=O.snd->(decide (x_1.fst<r)=true->d<=x.fst/\x.fst<F/\v<a.length/\d<=x_1.fst/\x_1.fst<z/\x_1.fst.toNat<b.length/\h o/\x_1.snd.snd.length=n/\d<=o/\o<(↑n:Int)/\x_1.snd.snd.length=n/\o.toNat<n/\h o/\d<=(32:Int)/\(32:Int)<=(64:Int)/\x_1.snd.snd.length=n/\d<=o/\o<(↑n:Int)/\x_1.snd.snd.length=n/\o.toNat<n/\h y/\(((e m a).same (e m a)/\(e m b).same (e m b)/\P.same (j 0 Q.length 1)/\s.same s/\S.same S/\t.same t/\s.same s/\H.same H/\T.same T/\True)/\V x_1.fst I)/\((d<=y/\y<=r)/\Q=U.fst/\R=U.snd)/\(r - y).toNat<(r - x_1.fst).toNat)/\(decide (x_1.fst<r)=false->h B/\x_1.snd.snd.length=n/\d<=B/\B<(↑n:Int)/\x_1.snd.snd.length=n/\B.toNat<n/\h w/\(((e m a).same (e m a)/\(e m b).same (e m b)/\P.same (j 0 E.length 1)/\t.same t/\N.same N/\True)/\V z x_1.snd.fst)/\((d<=w/\w<=q)/\bB E/\E.length=G/\bq E=bq (τ w.toNat a)*bq b)/\(q - w).toNat<(q - x.fst).toNat))/\(decide (x.fst<q)=false->C=x.snd.length/\C<=1000000000000/\(e m (bR x.snd)).same (e m (bO (bq a*bq b))))) (by kernel_rfl) ?_;simp only[vcs];refine⟨by omega,by omega,by omega,by omega,by omega,?_,?_⟩
 ·repeat' refine γe ?_ ?_
  all_goals first|omega|exact lL (by simp)|exact x6|(simp;omega)|(rw[vM];simp[bq])
 rintro⟨i,row⟩ ⟨⟨i0,i1⟩,hr,hl,hv⟩;simp only at i0 i1 hr hl hv ⊢;refine⟨λpU=>⟨⟨⟨by omega,by omega⟩,rfl,rfl⟩,?_⟩,λpV=>?_⟩
 ·rintro⟨k,c,ro⟩ ⟨⟨k0,k1⟩,e1,e2⟩;simp only at k0 k1 e1 e2 ⊢;have x1:=dK ha i.toNat;obtain⟨m1,m2,⟨m3,m4⟩,m5,m6⟩:=@Rk row b (bp a i.toNat 0) i.toNat hr hb x1.1 x1.2 k.toNat (by omega);have hp:=@aaQ row b (bp a i.toNat 0) i.toNat k.toNat;generalize iD row b (bp a i.toNat 0) i.toNat k.toNat=M at*;obtain⟨p,q⟩:=M;simp only at e1 e2 m1 m2 m3 m4 m5 m6 hp;subst e1 e2;have hik:(i+k).toNat=i.toNat+k.toNat:=by omega
  have hk1:(k+1).toNat=k.toNat+1:=by omega
  have hi1:(i+1).toNat=i.toNat+1:=by omega
  refine⟨λklt=>?_,λkge=>?_⟩
  ·have x2:=dK hb k.toNat;have x3:=dK m1 (i.toNat+k.toNat);have hxb:0<=bp a i.toNat 0*bp b k.toNat 0:=γh x1.1 x2.1;have agG:bp a i.toNat 0*bp b k.toNat 0<=4294967295*4294967295:=δy (by omega) (by omega) x2.1 (by omega);rw[hik,hk1,hp];have hq:(((bp a i.toNat 0 % 18446744073709551616*(bp b k.toNat 0 % 18446744073709551616) % 18446744073709551616+bp ro (i.toNat+k.toNat) 0 % 18446744073709551616) % 18446744073709551616+c) % 18446744073709551616)=bp a i.toNat 0*bp b k.toNat 0+bp ro (i.toNat+k.toNat) 0+c:=by
    rw[δp (a:=bp a i.toNat 0) (by omega) (by omega),δp (a:=bp b k.toNat 0) (by omega) (by omega)];omega
   rw[hq];repeat' refine γe ?_ ?_
   all_goals first|omega|exact lL (by simp)|rfl
  ·have hkl:k.toNat=b.length:=by omega
   rw[show(i+(b.length:Int)).toNat=i.toNat+b.length by omega];rw[hkl,χ] at m6;rw[hkl] at m5;have hz:bp ro (i.toNat+b.length) 0=0:=by
    rw[m5 _ (ψ _)];refine Ai hr (i:=i.toNat+b.length) ?_ (ψ _);rw[hv,Int.pow_add];have t1:=je (kR ha i.toNat);rw[List.length_take,Nat.min_eq_left (by omega)] at t1;have t2:=je hb;have t3:=dX (kR ha i.toNat);have t4:=dX hb;exact Int.lt_of_le_of_lt (Int.mul_le_mul_of_nonneg_left (Int.le_of_lt t2) t3) (Int.mul_lt_mul_of_pos_right t1 (pow_pos _))
   have hc:c % 4294967296=c:=by omega
   rw[hc,hi1];have hfin:bq (ro.set (i.toNat+b.length) c)=bq (a.take (i.toNat+1))*bq b:=by
    rw[uj (by omega),hz,ε5,m6,hv,js,Int.add_mul,γO]
   repeat' refine γe ?_ ?_
   all_goals first|omega|exact lL (by simp)|exact nz m1 m3 m4|exact hfin|(rw[List.length_set];omega)
 ·have hi:i.toNat=a.length:=by omega
  rw[hi,χ] at hv;refine⟨by omega,?_⟩;rw[qH hr,hv]
end Go.Vi
