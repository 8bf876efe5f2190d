import Derived.Test.YtbnhiekmnpikhaaGreatDR06
set_option maxRecDepth 100000
set_option maxHeartbeats 4000000
set_option linter.all false
open BitVec renaming ofInt->γo
open Classical renaming not_not->γc
open Go.Vi.SV renaming bl->δd,si->γf,il->γv,row->Ψ,ptr->γK,ow->γW
open Int renaming toNat_natCast->γm,le_trans->εe,pow_succ->γT,mul_add->εy,add_comm->ζH,emod_nonneg->δN,emod_lt_of_pos->δq,ediv_eq_zero_of_lt->εL,emod_eq_of_lt->δL,eq_ofNat_of_zero_le->δH,mul_nonneg->γu,mul_le_mul->δI,mul_le_mul_of_nonneg_left->Ξ,le_of_lt->γg,mul_le_mul_of_nonneg_right->γU
open List renaming take->Γ,mem_of_mem_take->γl,take_length->ψ,drop->γ3,mem_singleton->δc,mem_map->Ω,map_append->γa,map_cons->π,map_nil->γr,drop_length->δC,cons_append->γI,length_cons->γG,range->ω,mem_filter->γt,foldl_cons->εa,mem_cons->γw,mem_append->γi,nodup_cons->γY,pairwise_cons->γB,all_eq_true->χ,mem_range->γq,filter_sublist->γS,getElem?_cons_succ->γO,map_map->γ5,drop_of_length_le->δ8,replicate->δ,range_succ->εg,take_of_length_le->γp,replicate_zero->ε4,mem_of_mem_drop->γV
open List.Nodup renaming sublist->ζU
open Nat renaming le_refl->ξ
open Option renaming map->ζr,isSome_iff_exists->γn,getD_some->γ2
namespace Go.Vi
open Go.Proofs.YtbnhiekmnpikhaaGreat.Ir
open Go.Proofs
def B_:M9:=⟨40,zi,.one (dy .bun),λ_=>True,λb=> .sb b.ok⟩
theorem Qd:Holds Tryz.prog B_:=by
 refine bI (L:=[]) B_ (λ_ _=> .apq 7) (by simp) ?_;intro b _;refine NH (let h:=δd false;let o:=SV.sb;let p:=(0:Int);let q:=(4:Int);let i:=decide (b.a0<p);let d:=decide (q<b.a0);let k:=decide (b.a1<p);let e:=decide (q<b.a1);let l:=decide (b.a2<p);let f:=decide (q<b.a2);let j:=decide (b.a3<p);let m:=decide (q<b.a3);let n:=decide (b.a4<p);let g:=decide (q<b.a4);let a:=decide (b.a5<p);let c:=decide (q<b.a5);(i=true->(h).bi (o (zi.ok b)))/\(i=false->(d=true->(h).bi (o (zi.ok b)))/\(d=false->(k=true->(h).bi (o (zi.ok b)))/\(k=false->(e=true->(h).bi (o (zi.ok b)))/\(e=false->(l=true->(h).bi (o (zi.ok b)))/\(l=false->(f=true->(h).bi (o (zi.ok b)))/\(f=false->(j=true->(h).bi (o (zi.ok b)))/\(j=false->(m=true->(h).bi (o (zi.ok b)))/\(m=false->(n=true->(h).bi (o (zi.ok b)))/\(n=false->(g=true->(h).bi (o (zi.ok b)))/\(g=false->(a=true->(h).bi (o (zi.ok b)))/\(a=false->(c=true->(h).bi (o (zi.ok b)))/\(c=false->(δd true).bi (o (zi.ok b))))))))))))))) (by kernel_rfl) ?_;conv=>zeta
 have o:=@zi.hJ b;by_cases h:b.ok=true<;>simp_all
def ot (p:cj) (r:Int) (o:bC):Int:=
 if r - p.bk.length<0 then(if o.OA=r then 1 else 0)
 else if r - p.bk.length<6 then bN [o.bx.a0,o.bx.a1,o.bx.a2,o.bx.a3,o.bx.a4,o.bx.a5] (r - p.bk.length).toNat 0
 else if bN [p.bt.a0,p.bt.a1,p.bt.a2,p.bt.a3,p.bt.a4,p.bt.a5] (r - p.bk.length - 6).toNat 0=0\/p.bk.length<=o.OA\/bN [p.bt.a0,p.bt.a1,p.bt.a2,p.bt.a3,p.bt.a4,p.bt.a5] (r - p.bk.length - 6).toNat 0=bN p.bk o.OA.toNat 0 then 0
 else bN [o.bx.a0,o.bx.a1,o.bx.a2,o.bx.a3,o.bx.a4,o.bx.a5] (r - p.bk.length - 6).toNat 0
theorem V3 {p:cj} {r:Int} {o:bC} (h:o.OA<p.bk.length):ot p r o=dv p r o:=by
 unfold ot dv;omega
def E9:M9:=⟨63,cj×Int×bC,.cons cO (.cons (dX .i64) (.one (dy .bu))),λa=>a.1.bk.length<=8/\0<=a.2.1/\a.2.1<cr a.1/\0<=a.2.2.OA,
 λa=> .Gz [.si .i64 (ot a.1 a.2.1 a.2.2),.si .i64 (cB a.1 a.2.1)]⟩
theorem IP:Holds Tryz.prog E9:=by
 refine bI (L:=[]) E9 (λ_ _=> .apq 7) (by simp) ?_;rintro⟨p,r,x⟩ ⟨D,z,B,A⟩;simp only[cr] at D z B A;refine NH (let h:=(0:Int);let j:=(6:Int);let v:=γf .i64;let w:=VI .i64;let y:=SV.Gz;let b:=(↑p.bk.length:Int);let a:=r - b - j;let o:=γv .i64 0;let k:=y [v (ot p r x),v (cB p r)];let q:=bN [p.bt.a0,p.bt.a1,p.bt.a2,p.bt.a3,p.bt.a4,p.bt.a5] a.toNat h;let t:=decide (x.OA=r);let e:=γv .i64 1;let g:=decide (r<b+j);let i:=decide (x.OA<b);let l:=h<=a/\a<j/\a.toNat<6/\(y [o,v (bN [p.bs.a0,p.bs.a1,p.bs.a2,p.bs.a3,p.bs.a4,p.bs.a5] a.toNat h)]).bi k;let n:=λ(u f:Int) (c:zi) ↦let d:=(u - f).toNat;h<=u - f/\u - f<j/\d<6/\(y [v (bN [x.bx.a0,x.bx.a1,x.bx.a2,x.bx.a3,x.bx.a4,x.bx.a5] d h),v (bN [c.a0,c.a1,c.a2,c.a3,c.a4,c.a5] d h)]).bi k;let m:=λ(u:Bool) ↦decide (q≠bN p.bk x.OA.toNat h)=u;let s:=λ(u:Bool) ↦decide (q≠h)=u;(decide (r<b)=true->(t=true->(y [e,e]).bi k)/\(t=false->(y [o,e]).bi k))/\(decide (r<b)=false->w (b+j)/\(g=true->w (r - b)/\h<=r - b/\r - b<j/\(r - b).toNat<6/\w (r - b)/\n r b p.bm)/\(g=false->w (r - b)/\w a/\h<=a/\a<j/\a.toNat<6/\(s true->(i=true->h<=a/\a<j/\a.toNat<6/\h<=x.OA/\x.OA<b/\x.OA.toNat<p.bk.length/\(m true->h<=a/\a<j/\a.toNat<6/\n (r - b) j p.bs)/\(m false->l))/\(i=false->l))/\(s false->l)))) (by kernel_rfl) ?_;simp only[vcs];have G:r - p.bk.length<0->cB p r=1:=λh=>by simp_all[cB]
 have E:¬r - p.bk.length<0->r - p.bk.length<6->cB p r=bN [p.bm.a0,p.bm.a1,p.bm.a2,p.bm.a3,p.bm.a4,p.bm.a5] (r - p.bk.length).toNat 0:=λh j=>by simp_all[cB,if_neg]
 have v:¬r - p.bk.length<0->¬r - p.bk.length<6->cB p r=bN [p.bs.a0,p.bs.a1,p.bs.a2,p.bs.a3,p.bs.a4,p.bs.a5] (r - p.bk.length - 6).toNat 0:=λh j=>by simp_all[cB,if_neg]
 have F:r - p.bk.length<0->ot p r x=if x.OA=r then 1 else 0:=λh=>by simp_all[ot]
 have H:¬r - p.bk.length<0->r - p.bk.length<6->ot p r x=bN [x.bx.a0,x.bx.a1,x.bx.a2,x.bx.a3,x.bx.a4,x.bx.a5] (r - p.bk.length).toNat 0:=λh j=>by simp_all[ot,if_neg]
 have y:=λ(h:¬r - p.bk.length<0) (j:¬r - p.bk.length<6)=>(show ot p r x=_ by unfold ot;rw[if_neg h,if_neg j]);refine⟨λw=>?_,λw=>⟨by omega,λC=>?_,λC=>?_⟩⟩;·grind
 ·grind
 ·rw[v (by omega) (by omega),y (by omega) (by omega)];omega
def M1:List M9:=[E9,B_]
theorem wE:∀c∈M1,Holds Tryz.prog c:=by
 simp_all[M1,IP,Qd]
def y7:M9:=⟨41,cj×List bC,.cons cO (.one (cL .bu)),λa=>a.1.bk.length<=8/\a.2.length<=1000/\(∀x∈a.2,0<=x.OA/\x.OA<a.1.bk.length/\x.bx.ok=true),λa=> .sb (fj a.1 a.2)⟩
def V2 (a:cj×List bC):Nat->bG
 |2=> .inv Int (λi=>⟨[(1,.row .bu a.2),(2,.ptr 0 0 20),(5,.si .i64 i)],[.cells a.1.ss 27 20 false]⟩) (λs=>iS s 5)
  (λi=>0<=i/\i<=cr a.1/\∀r:Nat,r<i->bZ a.1 a.2 r<=cB a.1 r) (λi=>(cr a.1 - i).toNat)
  λi=>λ
   |6=> .inv (Int×Int) (λx=>⟨[(1,.row .bu a.2),(2,.ptr 0 0 20),(5,.si .i64 i),(6,.si .i64 x.2),(7,.si .i64 x.1)],[.cells a.1.ss 27 20 false]⟩)
    (λs=>(iS s 7,iS s 6))
    (λx=>0<=x.1/\x.1<=a.2.length/\x.2=bZ a.1 (a.2.take x.1.toNat) i) (λx=>(a.2.length - x.1).toNat) λ_ _=> .look
   |_=> .look
 |_=> .look
theorem IY:Holds Tryz.prog y7:=by
 refine bI (L:=M1) y7 V2 wE ?_;rintro⟨p,l⟩ ⟨A,G,q⟩;simp only at A G q;refine NH (let d:=(0:Int);let i:=γf .i64;let j:=Ψ;let o:=γv .i64 0;let q:=VI .i64;let s:=γv .i64;let b:=γK 0 0 20;let c:=iZ.cells (cj.ss p) 27 20 false;let v:=(↑p.bk.length:Int)+(12:Int);let k:=(↑l.length:Int);((((j ew.bu l).bi (j ew.bu l)/\b.bi b/\(o).bi (i 0)/\True)/\c.bi c/\True)/\d<=d/\d<=cr p/\∀(r:Nat),(↑r:Int)<d->bZ p l (↑r:Int)<=cB p (↑r:Int))/\∀(x:Int),let f:=x+(1:Int);let E:=i f;(d<=x/\x<=cr p/\∀(r:Nat),(↑r:Int)<x->bZ p l (↑r:Int)<=cB p (↑r:Int))->q v/\(decide (x<v)=true->((((j ew.bu l).bi (j ew.bu l)/\b.bi b/\(i x).bi (i x)/\(o).bi (i 0)/\(o).bi (i 0)/\True)/\c.bi c/\True)/\d<=d/\d<=k/\d=bZ p [] x)/\∀(a:Int×Int),let D:=decide (a.1<(↑l.length:Int));let C:=bN l a.1.toNat ew.bu.bw;let w:=a.2+ot p x C;let e:=a.1+(1:Int);let n:=i x;let h:=i w;let m:=i e;let g:=decide (cB p x<a.2);d<=a.1/\a.1<=k/\a.2=bZ p (Γ a.1.toNat l) x->(D=true->d<=a.1/\a.1<(↑l.length:Int)/\a.1.toNat<l.length/\(p.bk.length<=8/\d<=x/\x<cr p/\d<=C.OA)/\q w/\q e/\(((j ew.bu l).bi (j ew.bu l)/\b.bi b/\n.bi n/\h.bi h/\m.bi m/\True)/\c.bi c/\True)/\(d<=e/\e<=k/\w=bZ p (Γ e.toNat l) x)/\(k - e).toNat<(k - a.1).toNat)/\(D=false->(p.bk.length<=8/\d<=x/\x<cr p/\d<=d)/\(g=true->(δd false).bi (SV.sb (fj p l)))/\(g=false->q f/\(((j ew.bu l).bi (j ew.bu l)/\b.bi b/\E.bi E/\True)/\c.bi c/\True)/\(d<=f/\f<=cr p/\∀(r:Nat),(↑r:Int)<f->bZ p l (↑r:Int)<=cB p (↑r:Int))/\(cr p - f).toNat<(cr p - x).toNat)))/\(decide (x<v)=false->(δd true).bi (SV.sb (fj p l)))) (by kernel_rfl) ?_;simp only[vcs];have T:cr p=p.bk.length+12:=rfl;have P:∀x∈l,x.bx.ok=true:=λx y=>(q x y).2.2;refine⟨⟨by omega,by omega,λr J=>by omega⟩,?_⟩;rintro i ⟨H,F,S⟩;refine⟨by omega,λN=>⟨⟨by omega,by omega,by simp[bZ]⟩,?_⟩,?_⟩
 ·rintro⟨j,s⟩ ⟨u,o,B⟩;simp only at u o B ⊢;have Q:=@qt p i (l.take j.toNat) λx y=>P x (γl y);have z:(l.take j.toNat).length<=l.length:=by simp;omega
  refine⟨λt=>?_,λt=>?_⟩
  ·have O:=q _ (cE (d:=ew.bu.bw) (show j.toNat<l.length by omega));have R:=@nL p i _ O.2.2;grind[Fh,V3]
  ·have:j.toNat=l.length:=by omega
   rw[this,ψ] at B;refine⟨⟨A,by omega,by omega,by omega⟩,λK=>?_,λM=>⟨by omega,⟨by omega,by omega,λr J=>?_⟩,by omega⟩⟩
   ·symm;rw[Bool.eq_false_iff];intro I;have:=m_.1 I i.toNat (by omega);grind
   grind
 grind[m_]
def uk:M9:=⟨23,cj,.one cO,λp=>True,λp=> .si .i64 (nW p)⟩
def V1 (p:cj):Nat->bG
 |11=> .inv Int (λk=>⟨[(1,.ptr 0 0 20),(4,.si .i64 k)],[.cells p.ss 27 20 false]⟩) (λs=>iS s 4) (λk=>0<=k/\k<=p.bk.length/\∀c∈p.bk.take k.toNat,0<=c/\c<=4) (λk=>(p.bk.length - k).toNat) λ_ _=> .look
 |16=> .inv Int (λi=>⟨[(1,.ptr 0 0 20),(5,.si .i64 i)],[.cells p.ss 27 20 false]⟩) (λs=>iS s 5)
  (λi=>0<=i/\i<=p.bj.length/\g_ p [] p.bj=g_ p ((p.bj.take i.toNat).map bC.key) (p.bj.drop i.toNat)) (λi=>(p.bj.length - i).toNat)
  λi=>λ
   |26=> .inv Int (λk=>⟨[(1,.ptr 0 0 20),(5,.si .i64 i),(6,.ptr 1 0 8),(7,.si .i64 k)],[.cells p.ss 27 20 false,.cells (cJ .bu (bN p.bj i.toNat ew.bu.bw)) 65 8 false]⟩) (λs=>iS s 7)
    (λk=>0<=k/\k<=i/\∀j:Nat,j<k->(bN p.bj j ew.bu.bw).key≠(bN p.bj i.toNat ew.bu.bw).key) (λk=>(i - k).toNat) λ_ _=> .look
   |_=> .look
 |4=> .inv Int (λk=>⟨[(1,.ptr 0 0 20),(3,.si .i64 k)],[.cells p.ss 27 20 false]⟩) (λs=>iS s 3) (λk=>0<=k/\k<=6/\∀j:Nat,j<k->gF p j) (λk=>(6 - k).toNat) λ_ _=> .look
 |_=> .look
theorem V0 {b:zi}:(decide (b.a0=0)&&(decide (b.a1=0)&&(decide (b.a2=0)&&(decide (b.a3=0)&&(decide (b.a4=0)&&(decide (b.a5=0)&&true))))))=decide (b=zi.zero):=by
 simp_all[AS,zi.zero]
theorem VZ {b c:zi}:(decide (b.a0=c.a0)&&(decide (b.a1=c.a1)&&(decide (b.a2=c.a2)&&(decide (b.a3=c.a3)&&(decide (b.a4=c.a4)&&(decide (b.a5=c.a5)&&true))))))=decide (b=c):=by
 grind[AS]
theorem VY {a:Type} {l:List a} {i:Int} {d x:a} (b:i<=l.length) (h:x∈l.take i.toNat):∃j:Nat,(j:Int)<i/\bN l j d=x:=by
 obtain⟨j,c,rfl⟩:=List.mem_iff_getElem.1 h;grind[b_]
theorem y_:Holds Tryz.prog uk:=by
 refine bI (L:=y7::M1) uk V1 (by simp only[List.forall_mem_cons];exact⟨IY,wE⟩) ?_;intro p _;refine NH (let a:=(0:Int);let b:=γf .i64;let d:=γv .i64;let e:=(6:Int);let f:=(1:Int);let g:=(4:Int);let h:=VI .i64;let k:=b (nW p);let l:=γK 0 0 20;let z:=d 0;let m:=iZ.cells (cj.ss p) 27 20 false;let af:=[p.bt.a0,p.bt.a1,p.bt.a2,p.bt.a3,p.bt.a4,p.bt.a5];let ag:=[p.bs.a0,p.bs.a1,p.bs.a2,p.bs.a3,p.bs.a4,p.bs.a5];let ah:=[p.bm.a0,p.bm.a1,p.bm.a2,p.bm.a3,p.bm.a4,p.bm.a5];let J:=p.bk.length;let o:=(↑J:Int);let L:=decide ((8:Int)<o);let E:=p.bj.length;let r:=(↑E:Int);let M:=decide ((160:Int)<r);let s:=(↑p.bk.length:Int);let A:=(↑p.bj.length:Int);let F:=g_ p [] p.bj;let B:=ew.bu.bw;let G:=γK 1 0 8;True/\((!p.bm.ok)=true->(d 4).bi k)/\((!p.bm.ok)=false->(((l.bi l/\z.bi (b 0)/\True)/\m.bi m/\True)/\a<=a/\a<=e/\∀(j:Nat),(↑j:Int)<a->gF p j)/\∀(x:Int),let t:=x+f;let N:=b t;let O:=decide (x<e);let K:=bN af x.toNat a;let P:=decide (K<a);let Q:=decide (g<K);let C:=bN ag x.toNat a;let R:=decide (C<a);let H:=bN ah x.toNat a;let S:=decide (K=a);let T:=h t/\((l.bi l/\N.bi N/\True)/\m.bi m/\True)/\(a<=t/\t<=e/\∀(j:Nat),(↑j:Int)<t->gF p j)/\(e - t).toNat<(e - x).toNat;(a<=x/\x<=e/\∀(j:Nat),(↑j:Int)<x->gF p j)->(O=true->a<=x/\x<e/\x.toNat<6/\(P=true->(d 4).bi k)/\(P=false->a<=x/\x<e/\x.toNat<6/\(Q=true->(d 4).bi k)/\(Q=false->a<=x/\x<e/\x.toNat<6/\(R=true->(d 4).bi k)/\(R=false->a<=x/\x<e/\x.toNat<6/\a<=x/\x<e/\x.toNat<6/\(decide (H<C)=true->(d 4).bi k)/\(decide (H<C)=false->a<=x/\x<e/\x.toNat<6/\(S=true->a<=x/\x<e/\x.toNat<6/\a<=x/\x<e/\x.toNat<6/\(decide (C≠H)=true->(d 4).bi k)/\(decide (C≠H)=false->T))/\(S=false->T))))))/\(O=false->(L=true->(d 3).bi k)/\(L=false->(M=true->(d 3).bi k)/\(M=false->(((l.bi l/\z.bi (b 0)/\True)/\m.bi m/\True)/\a<=a/\a<=s/\∀(c:Int),c∈[]->a<=c/\c<=g)/\∀(x:Int),let U:=bN p.bk x.toNat a;let V:=decide (U<a);let W:=decide (g<U);let v:=x+f;let X:=b v;(a<=x/\x<=s/\∀(c:Int),c∈Γ x.toNat p.bk->a<=c/\c<=g)->(decide (x<o)=true->a<=x/\x<o/\x.toNat<J/\(V=true->(d 4).bi k)/\(V=false->a<=x/\x<o/\x.toNat<J/\(W=true->(d 4).bi k)/\(W=false->h v/\((l.bi l/\X.bi X/\True)/\m.bi m/\True)/\(a<=v/\v<=s/\∀(c:Int),c∈Γ v.toNat p.bk->a<=c/\c<=g)/\(s - v).toNat<(s - x).toNat)))/\(decide (x<o)=false->(((l.bi l/\z.bi (b 0)/\True)/\m.bi m/\True)/\a<=a/\a<=A/\F=F)/\∀(x:Int),let n:=bN p.bj x.toNat B;let i:=n.bx;let D:=n.OA;let Y:=decide (D<a);let Z:=decide (n.value<f);let a6:=decide ((1000000:Int)<n.value);let I:=iZ.cells [b D,b i.a0,b i.a1,b i.a2,b i.a3,b i.a4,b i.a5,b n.value] 65 8 false;let q:=x+f;let a7:=b q;let a8:=λ(u:Bool) ↦(decide (i.a0=a)&&(decide (i.a1=a)&&(decide (i.a2=a)&&(decide (i.a3=a)&&(decide (i.a4=a)&&(decide (i.a5=a)&&true))))))=u;a<=x/\x<=A/\F=g_ p (List.map bC.key (Γ x.toNat p.bj)) (γ3 x.toNat p.bj)->(decide (x<r)=true->a<=x/\x<r/\x.toNat<E/\(Y=true->(d 6).bi k)/\(Y=false->(decide (o<=D)=true->(d 6).bi k)/\(decide (o<=D)=false->(Z=true->(d 4).bi k)/\(Z=false->(a6=true->(d 4).bi k)/\(a6=false->True/\((!i.ok)=true->(d 4).bi k)/\((!i.ok)=false->(a8 true->(d 4).bi k)/\(a8 false->(p.bk.length<=8/\1<=1000/\∀(x:bC),x∈[n]->a<=x.OA/\x.OA<s/\x.bx.ok=true)/\((!fj p [n])=true->(d 14).bi k)/\((!fj p [n])=false->(((l.bi l/\(b x).bi (b x)/\G.bi G/\z.bi (b 0)/\True)/\m.bi m/\I.bi I/\True)/\a<=a/\a<=x/\∀(j:Nat),(↑j:Int)<a->(bN p.bj j B).key≠n.key)/\∀(x_1:Int),let w:=x_1+f;let a9:=b x;let aa:=b w;let ab:=bN p.bj x_1.toNat B;let y:=ab.bx;let ac:=decide (ab.OA=D);let ad:=h w/\((l.bi l/\a9.bi a9/\G.bi G/\aa.bi aa/\True)/\m.bi m/\I.bi I/\True)/\(a<=w/\w<=x/\∀(j:Nat),(↑j:Int)<w->(bN p.bj j B).key≠n.key)/\(x - w).toNat<(x - x_1).toNat;let ae:=λ(u:Bool) ↦(decide (y.a0=i.a0)&&(decide (y.a1=i.a1)&&(decide (y.a2=i.a2)&&(decide (y.a3=i.a3)&&(decide (y.a4=i.a4)&&(decide (y.a5=i.a5)&&true))))))=u;(a<=x_1/\x_1<=x/\∀(j:Nat),(↑j:Int)<x_1->(bN p.bj j B).key≠n.key)->(decide (x_1<x)=true->a<=x_1/\x_1<r/\x_1.toNat<E/\(ac=true->a<=x_1/\x_1<r/\x_1.toNat<E/\(ae true->(d 7).bi k)/\(ae false->ad))/\(ac=false->ad))/\(decide (x_1<x)=false->h q/\((l.bi l/\a7.bi a7/\True)/\m.bi m/\True)/\(a<=q/\q<=A/\F=g_ p (List.map bC.key (Γ q.toNat p.bj)) (γ3 q.toNat p.bj))/\(A - q).toNat<(A - x).toNat)))))))))/\(decide (x<r)=false->z.bi k))))))) (by kernel_rfl) ?_;simp only[V0,VZ];simp only[vcs];have e4:gR p=4->(4:Int)=nW p:=λh=>by simp[nW,h]
 have e3:gR p=3->(3:Int)=nW p:=λh=>by simp[nW,h]
 refine⟨λhs=>e4 (NJ hs),λhs=>⟨⟨by omega,by omega,λj hj=>by omega⟩,?_⟩⟩;rintro k ⟨hk0,hk1,hk⟩;refine⟨λhlt=>?_,λhge=>?_⟩
 ·have bad:¬gF p k.toNat->(4:Int)=nW p:=λh=>e4 (NF hs (by omega) h);have nxt:gF p k.toNat->∀(j:Nat),(j:Int)<k+1->gF p j:=λh j hj=>by
   by_cases hj2:(j:Int)<k;·exact hk j hj2
   ·rw[show j=k.toNat from by omega];exact h
  repeat' (first|refine And.intro ?_ ?_|intro _)
  all_goals first
   |omega;|exact bad λhh=>by have h2:=mQ.1 hh;omega;|exact nxt (mQ.2 (by omega)) _ (by assumption)
 ·have hall:∀j:Nat,j<6->gF p j:=λj hj=>hk j (by omega);refine⟨λh=>e3 (AP hs hall (.inl (by omega))),λh8=>⟨λh=>e3 (AP hs hall (.inr (by omega))),λh160=>⟨⟨by omega,by omega,by simp⟩,?_⟩⟩⟩;rintro i ⟨hi0,hi1,hi⟩;refine⟨λhlt=>?_,λhge=>?_⟩
  ·have hm:=cE (d:=0) (show i.toNat<p.bk.length by omega);refine⟨by omega,by omega,by omega,λh=>e4 (AO hs hall (by omega) hm (by omega)),λh1=>⟨by omega,by omega,by omega,λh=>e4 (AO hs hall (by omega) hm (by omega)),λh2=>⟨by omega,⟨by omega,by omega,?_⟩,by omega⟩⟩⟩;exact ND hi0 hlt hi (by omega)
  ·rw[show i.toNat=p.bk.length from by omega,ψ] at hi;have hz:gR p=0:=Ff hs hall (by omega) hi;have ce:nW p=g_ p [] p.bj:=by simp[nW,hz]
   refine⟨⟨by omega,by omega⟩,?_⟩;rintro i ⟨hi0,hi1,hi⟩;refine⟨λhlt=>?_,λhge=>?_⟩
   ·rw[qs (d:=ew.bu.bw) hi0 hlt] at hi;generalize hx:bN p.bj i.toNat ew.bu.bw=x at hi ⊢;have oe:∀c:Int,c≠0->jz p x=c->c=nW p:=λc hc h=>by
     rw[ce,hi];simp only[g_,h];rw[if_pos hc]
    have se:∀c:Int,c≠0->jX p.bk.length x=c->c=nW p:=λc hc h=>oe c hc (by
     unfold jz;rw[if_pos (by omega),h]);refine⟨by omega,by omega,by omega,λh1=>?_,λh1=>⟨λh2=>?_,λh2=>⟨λh3=>?_,λh3=>⟨λh4=>?_,λh4=>⟨λh5=>?_,λh5=>⟨λh6=>?_,λh6=>?_⟩⟩⟩⟩⟩⟩;·exact se 6 (by decide) (by unfold jX;rw[if_pos (by omega)])
    ·exact se 6 (by decide) (by unfold jX;rw[if_pos (by omega)])
    ·exact se 4 (by decide) (by unfold jX;rw[if_neg (by omega),if_pos (by omega)])
    ·exact se 4 (by decide) (by unfold jX;rw[if_neg (by omega),if_pos (by omega)])
    ·exact se 4 (by decide) (by unfold jX;rw[if_neg (by omega),if_neg (by omega),h5];rfl)
    ·have hs0:jX p.bk.length x=0:=by unfold jX;rw[if_neg (by omega),if_neg (by omega),h5];rfl
     exact oe 4 (by decide) (by simp[jz,hs0,h6])
    ·have hs0:jX p.bk.length x=0:=by unfold jX;rw[if_neg (by omega),if_neg (by omega),h5];rfl
     refine⟨⟨by omega,by omega,λy hy=>?_⟩,λh7=>?_,λh7=>⟨⟨by omega,by omega,λj hj=>by omega⟩,?_⟩⟩
     ·rw[δc.1 hy];exact⟨by omega,by omega,h5⟩
     ·exact oe 14 (by decide) (by simp[jz,hs0,h6,h7])
     ·have ho0:jz p x=0:=by simp[jz,hs0,h6,h7]
      rintro k ⟨hk0,hk1,hk⟩;have hnx:(bN p.bj k.toNat ew.bu.bw).key≠x.key->∀j:Nat,(j:Int)<k+1->(bN p.bj j ew.bu.bw).key≠x.key:=λh j hj=>by
       by_cases hj2:(j:Int)<k;·exact hk j hj2
       ·rw[show j=k.toNat from by omega];exact h
      refine⟨λhlt2=>⟨by omega,by omega,by omega,λh8=>⟨by omega,by omega,by omega,λh9=>?_,λh9=>⟨by omega,⟨by omega,by omega,?_⟩,by omega⟩⟩,λh8=>⟨by omega,⟨by omega,by omega,?_⟩,by omega⟩⟩,λayY=>⟨by omega,⟨by omega,by omega,?_⟩,by omega⟩⟩
      ·have hk9:(bN p.bj k.toNat ew.bu.bw).key=x.key:=by
        show mK.mk _ _=mK.mk _ _;rw[h8,h9]
       have hmem:x.key∈(p.bj.take i.toNat).map bC.key:=by
        rw[<-hk9];refine Ω.2 ⟨_,?_,rfl⟩;rw[b_ (by omega)];exact List.mem_take_iff_getElem.2 ⟨k.toNat,by omega,rfl⟩
       rw[ce,hi];simp only[g_,ho0,ne_eq,not_true,if_false,if_pos hmem]
      ·refine hnx λe=>h9 ?_;injection e
      ·refine hnx λe=>h8 ?_;injection e
      ·have hnm:x.key∉(p.bj.take i.toNat).map bC.key:=by
        intro hmem;obtain⟨o,ho,he⟩:=Ω.1 hmem;obtain⟨j,hj,rfl⟩:=VY (d:=ew.bu.bw) hi1 ho;exact hk j (by omega) he
       rw[hi,jj (d:=ew.bu.bw) hi0 hlt,hx];simp only[g_,ho0,ne_eq,not_true,if_false,if_neg hnm,γa,π,γr]
   ·rw[show i.toNat=p.bj.length from by omega,δC] at hi;rw[ce,hi];rfl
def M2:List M9:=uk::y7::M1
theorem IV:∀c∈M2,Holds Tryz.prog c:=by
 grind[M2,y_,IY,wE]
def AH:M9:=⟨32,cj×List Int,.cons cO (.one (cL (.i .i64))),λa=>a.2.length<=9223372036854775807/\a.1.bj.length<=1000,λa=> .Gz [.row .bu (cF a.1 a.2),.sb (dW a.1 a.2)]⟩
def jx (c:List Int) (i:Int):Int:=if i=0 then -1 else bN c (i - 1).toNat 0
def VX (a:cj×List Int):Nat->bG
 |3=> .inv (Int×List bC) (λx=>⟨[(1,.row (.i .i64) a.2),(2,.ptr 0 0 20),(6,.ow 1 x.2.length 8),(7,.si .i64 x.1)],
   [.cells a.1.ss 27 20 false,.row .bu x.2 65 true]⟩) (λs=>(iS s 7,oS .bu s 1))
  (λx=>0<=x.1/\x.1<=a.2.length/\(x.2.length<=jx a.2 x.1+1/\jx a.2 x.1<1000)/\ -1<=jx a.2 x.1/\dz a.1.bj (-1) a.2=(dz a.1.bj (jx a.2 x.1) (a.2.drop x.1.toNat)).map (x.2++·)) (λx=>(a.2.length - x.1).toNat) λ_ _=> .look
 |_=> .look
theorem yW:Holds Tryz.prog AH:=by
 refine bI (L:=M2) AH VX IV ?_;rintro⟨p,c⟩ ⟨hc,hof⟩;have hc:c.length<=9223372036854775807:=hc;have hof:p.bj.length<=1000:=hof;refine NH (let a:=γf .i64;let b:=(0:Int);let d:=Ψ;let e:=(1:Int);let f:=δd false;let g:=(-1:Int);let h:=(1000:Int);let j:=SV.Gz;let k:=ew.i .i64;let s:=γK 0 0 20;let B:=γW 1 0 8;let t:=iZ.cells [a p.bm.a0,a p.bm.a1,a p.bm.a2,a p.bm.a3,a p.bm.a4,a p.bm.a5,a p.bs.a0,a p.bs.a1,a p.bs.a2,a p.bs.a3,a p.bs.a4,a p.bs.a5,a p.bt.a0,a p.bt.a1,a p.bt.a2,a p.bt.a3,a p.bt.a4,a p.bt.a5,d k p.bk,d ew.bu p.bj] 27 20 false;let C:=iZ.row ew.bu [] 65 true;let o:=(↑c.length:Int);let u:=jx c b;let z:=dz p.bj g c;let n:=(↑c.length:Int);let v:=j [d ew.bu (cF p c),SV.sb (dW p c)];let D:=p.bj.length;let A:=(↑D:Int);let L:=ew.bu.bw;((((d k c).bi (d k c)/\s.bi s/\B.bi B/\(γv .i64 0).bi (a 0)/\True)/\t.bi t/\C.bi C/\True)/\b<=b/\b<=o/\(b<=u+e/\u<h)/\g<=u/\z=ζr (λx ↦(b,[]).2++x) (dz p.bj u c))/\∀(x:Int×List bC),let l:=bN c x.1.toNat b;let E:=x.2.length+1;let m:=x.1+e;let q:=x.2++[bN p.bj l.toNat L];let F:=a m;let G:=iZ.row ew.bu q 65 true;let w:=jx c m;let y:=jx c x.1;let H:=decide (l<b);let I:=decide (b<x.1);let r:=x.1 - e;let J:=decide (l<=bN c r.toNat b);let K:=b<=x.1/\x.1<n/\x.1.toNat<c.length/\b<=l/\l<A/\l.toNat<D/\x.2.length=x.2.length/\E*64<=140737488355328/\E<=1000000000000/\VI .i64 m/\(((d k c).bi (d k c)/\s.bi s/\(γW 1 q.length 8).bi (γW 1 q.length 8)/\F.bi F/\True)/\t.bi t/\G.bi G/\True)/\(b<=m/\m<=o/\((↑q.length:Int)<=w+e/\w<h)/\g<=w/\z=ζr (λx ↦(m,q).2++x) (dz p.bj w (γ3 m.toNat c)))/\(o - m).toNat<(o - x.1).toNat;b<=x.1/\x.1<=o/\((↑x.2.length:Int)<=y+e/\y<h)/\g<=y/\z=ζr (λx_1 ↦x.2++x_1) (dz p.bj y (γ3 x.1.toNat c))->(decide (x.1<n)=true->b<=x.1/\x.1<n/\x.1.toNat<c.length/\(H=true->(j [d k [],f]).bi v)/\(H=false->b<=x.1/\x.1<n/\x.1.toNat<c.length/\(decide (A<=l)=true->(j [d k [],f]).bi v)/\(decide (A<=l)=false->(I=true->b<=x.1/\x.1<n/\x.1.toNat<c.length/\VI .i64 r/\b<=r/\r<n/\r.toNat<c.length/\(J=true->(j [d k [],f]).bi v)/\(J=false->K))/\(I=false->K))))/\(decide (x.1<n)=false->x.2.length=x.2.length/\(j [d ew.bu x.2,δd true]).bi v)) (by kernel_rfl) ?_;simp only[vcs];have hbad:dz p.bj (-1) c=none->(Ψ (.i .i64) []).bi (Ψ .bu (cF p c))/\false=dW p c:=λh=>⟨NK.2 (by simp[cF,h]),by simp[dW,h]⟩;refine⟨⟨by omega,by omega,by simp[jx],by simp[jx]⟩,?_⟩;rintro⟨i,out⟩ ⟨hi0,hi1,hlen,hla,hi⟩;simp only at hi0 hi1 hlen hla hi ⊢;refine⟨λhlt=>?_,λhge=>?_⟩
 ·rw[qs (d:=0) hi0 hlt] at hi;have hl1:jx c (i+1)=bN c i.toNat 0:=by unfold jx;rw[if_neg (by omega),show i+1 - 1=i by omega]
  have hl2:i≠0->jx c i=bN c (i - 1).toNat 0:=λh=>by unfold jx;rw[if_neg h]
  have hl3:i=0->jx c i= -1:=λh=>by unfold jx;rw[if_pos h]
  generalize hx:bN c i.toNat 0=x at hi hl1 ⊢;simp only[dz] at hi;have hgood:¬(x<=jx c i\/p.bj.length<=x)->dz p.bj (-1) c=(dz p.bj (jx c (i+1)) (c.drop (i+1).toNat)).map λr=>(out++[bN p.bj x.toNat ew.bu.bw])++r:=λh=>by
   rw[if_neg h] at hi;rw[hi,hl1,Option.map_map];congr 1;funext r;simp
  have bad:(x<=jx c i\/p.bj.length<=x)->(Ψ (.i .i64) []).bi (Ψ .bu (cF p c))/\false=dW p c:=λh=>hbad (by rw[hi,if_pos h];rfl);have aIN:¬(x<=jx c i\/p.bj.length<=x)->((out++[bN p.bj x.toNat ew.bu.bw]).length:Int)<=jx c (i+1)+1/\jx c (i+1)<1000:=λh=>by
   rw[hl1];simp only[List.length_append,List.length_singleton];omega
  refine⟨by omega,by omega,by omega,λh1=>bad (.inl (by omega)),λh1=>⟨by omega,by omega,by omega,λh2=>bad (.inr (by omega)),λh2=>⟨λh3=>⟨by omega,by omega,by omega,by omega,by omega,by omega,by omega,λh4=>bad (.inl (by rw[hl2 (by omega)];omega)),λh4=>?_⟩,λh3=>?_⟩⟩⟩
  ·have:=hl2 (by omega);refine⟨by omega,by omega,by omega,by omega,by omega,by omega,by omega,by omega,by omega,⟨by omega,by omega,aIN (by omega),by omega,hgood (by omega)⟩,by omega⟩
  ·have:=hl3 (by omega);refine⟨by omega,by omega,by omega,by omega,by omega,by omega,by omega,by omega,by omega,⟨by omega,by omega,aIN (by omega),by omega,hgood (by omega)⟩,by omega⟩
 ·rw[show i.toNat=c.length from by omega,δC] at hi;simp only[dz,Option.map_some,List.append_nil] at hi;exact⟨by simp[cF,hi],by simp[dW,hi]⟩
def M3:List M9:=AH::M2
theorem Cf:∀c∈M3,Holds Tryz.prog c:=by
 grind[M3,yW,IV]
def Cb:M9:=⟨24,cj×List Int,.cons cO (.one (cL (.i .i64))),λa=>a.2.length<=9223372036854775807,λa=> .si .i64 (bR a.1 a.2)⟩
theorem Qf:Holds Tryz.prog Cb:=by
 refine bI (L:=M3) Cb (λp=>λ_=> .look) Cf ?_;rintro⟨p,c⟩ (n:c.length<=9223372036854775807);refine NH (let a:=γv .i64;let e:=decide (nW p≠(0:Int));let d:=γf .i64 (bR p c);let f:=!fj p (cF p c);True/\(e=true->(γf .i64 (nW p)).bi d)/\(e=false->(c.length<=9223372036854775807/\p.bj.length<=1000)/\((!dW p c)=true->(a 4).bi d)/\((!dW p c)=false->(p.bk.length<=8/\(cF p c).length<=1000/\∀(x:bC),x∈cF p c->(0:Int)<=x.OA/\x.OA<(↑p.bk.length:Int)/\x.bx.ok=true)/\(f=true->(a 14).bi d)/\(f=false->(a 0).bi d)))) (by kernel_rfl) ?_;simp only[vcs];refine⟨λh=>by simp[bR,h],λh=>?_⟩;have g:nW p=0:=γc.1 h;obtain⟨m,j⟩:=rF g;obtain⟨s,o,l,q,t⟩:=rG m;refine⟨⟨n,by omega⟩,λa=>by grind[bR],λa=>⟨⟨l,?_,?_⟩,λk=>by grind[bR],λk=>by grind[bR]⟩⟩
 ·unfold dW at a;obtain⟨r,b⟩:=γn.1 a;have:=xY (by omega) b;grind[cF]
 ·unfold dW at a;obtain⟨r,b⟩:=γn.1 a;simp only[cF,b,γ2];intro x i;have u:=AN (AK (j x (AJ (by omega) b x i))).1;simp_all
def bJ:List bC->Int
 |[]=>0
 |x::l=>x.value+bJ l
def cA (p:cj) (c:List Int):Int:=if nW p=0 then bJ (cF p c) else 0
theorem mY:∀{l m:List bC},bJ (l++m)=bJ l+bJ m
 |[],m=>by simp[bJ];|x::l,m=>by simp only[γI,bJ,@mY l m];omega
theorem Ny {l:List bC} {i:Int} (a:0<=i) (h:i<l.length):bJ (l.take (i+1).toNat)=bJ (l.take i.toNat)+(bN l i.toNat ew.bu.bw).value:=by
 rw[jj (d:=ew.bu.bw) a h,mY];simp[bJ]
def Ca:M9:=⟨26,cj×List Int,.cons cO (.one (cL (.i .i64))),λa=>a.2.length<=9223372036854775807,λa=> .si .i64 (cA a.1 a.2)⟩
def VV (a:cj×List Int):Nat->bG
 |6=> .inv Int (λi=>⟨[(5,.row .bu (cF a.1 a.2)),(7,.si .i64 (bJ ((cF a.1 a.2).take i.toNat))),(8,.si .i64 i)],[.cells a.1.ss 27 20 false]⟩) (λs=>iS s 8)
  (λi=>0<=i/\i<=(cF a.1 a.2).length) (λi=>((cF a.1 a.2).length - i).toNat) λ_ _=> .look
 |_=> .look
theorem Nx {p:cj} {c:List Int} (h:nW p=0):(cF p c).length<=160/\∀x∈cF p c,x∈p.bj:=by
 have d:=cT h;unfold cF;cases a:dz p.bj (-1) c with
 |none=>simp;|some r=>
  refine⟨?_,λx b=>AJ (by omega) a x b⟩;have e:=xY (by omega) a;have f:=d.2.1;grind
theorem oq {p:cj} (a:Good p):∀{l:List bC},(∀x∈l,x∈p.bj)->0<=bJ l/\bJ l<=1000000*l.length
 |[],_=>by simp[bJ];|x::l,h=>by
  have c:=a.2.2.2.2 x (h x (by simp));have d:=@oq p a l λy b=>h y (by simp[b]);grind[bJ]
theorem Qe:Holds Tryz.prog Ca:=by
 refine bI (L:=M3) Ca VV Cf ?_;rintro⟨p,c⟩ (A:c.length<=9223372036854775807);refine NH (let g:=γf .i64;let h:=(0:Int);let t:=decide (nW p≠h);let k:=γv .i64 0;let v:=g (cA p c);let e:=Ψ ew.bu (cF p c);let f:=iZ.cells (cj.ss p) 27 20 false;let d:=(↑(cF p c).length:Int);let n:=(↑(cF p c).length:Int);True/\(t=true->k.bi v)/\(t=false->(c.length<=9223372036854775807/\p.bj.length<=1000)/\(((e.bi e/\k.bi (g (bJ []))/\k.bi (g 0)/\True)/\f.bi f/\True)/\h<=h/\h<=d)/\∀(x:Int),let r:=bJ (Γ x.toNat (cF p c));let s:=r+(bN (cF p c) x.toNat ew.bu.bw).value;let a:=x+(1:Int);let b:=g a;h<=x/\x<=d->(decide (x<n)=true->h<=x/\x<n/\x.toNat<(cF p c).length/\VI .i64 s/\VI .i64 a/\((e.bi e/\(g s).bi (g (bJ (Γ a.toNat (cF p c))))/\b.bi b/\True)/\f.bi f/\True)/\(h<=a/\a<=d)/\(d - a).toNat<(d - x).toNat)/\(decide (x<n)=false->(g r).bi v))) (by kernel_rfl) ?_;simp only[vcs];refine⟨λh=>by simp[cA,h],λh=>⟨⟨A,by have:=(cT (γc.1 h)).2.1;omega⟩,⟨by simp[bJ],by omega⟩,?_⟩⟩;have o:nW p=0:=γc.1 h;have u:=cT o;obtain⟨C,q⟩:=Nx (c:=c) o;rintro i ⟨j,y⟩;refine⟨λm=>?_,λw=>?_⟩
 ·have B:=Ny j m;have D:=oq u (l:=(cF p c).take i.toNat) λx g=>q x (γl g);have z:=oq u (l:=(cF p c).take (i+1).toNat) λx g=>q x (γl g);grind
 ·rw[show i.toNat=(cF p c).length from by omega,ψ];grind[cA]
def bD:List Int->List Int->Int
 |[],[]=>0
 |[],_::_=> -1
 |_::_,[]=>1
 |a::l,b::m=>if a<b then -1 else if b<a then 1 else bD l m
def y8:M9:=⟨14,List Int×List Int,.cons (cL (.i .i64)) (.one (cL (.i .i64))),λa=>a.1.length<=1000000000000/\a.2.length<=1000000000000,λa=> .si .i64 (bD a.1 a.2)⟩
def WM (a:List Int×List Int):Nat->bG
 |2=> .inv Int (λi=>⟨[(0,.row (.i .i64) a.1),(1,.row (.i .i64) a.2),(5,.si .i64 i)],[]⟩) (λs=>iS s 5)
  (λi=>0<=i/\i<=a.1.length/\i<=a.2.length/\bD a.1 a.2=bD (a.1.drop i.toNat) (a.2.drop i.toNat)) (λi=>(a.1.length - i).toNat) λ_ _=> .look
 |_=> .look
theorem IZ:Holds Tryz.prog y8:=by
 refine bI (L:=[]) y8 WM (by simp) ?_;rintro⟨a,b⟩ ⟨w,u⟩;refine NH (let d:=(0:Int);let h:=γv .i64;let j:=γf .i64;let k:=(-1:Int);let q:=Ψ (ew.i .i64) a;let n:=Ψ (ew.i .i64) b;let t:=h 0;let m:=(↑a.length:Int);let r:=(↑b.length:Int);let e:=(↑a.length:Int);let f:=(↑b.length:Int);let g:=j (bD a b);(((q.bi q/\n.bi n/\t.bi (j 0)/\True)/\True)/\d<=d/\d<=m/\d<=r/\bD a b=bD a b)/\∀(x:Int),let o:=bN a x.toNat d;let p:=bN b x.toNat d;let c:=x+(1:Int);let l:=j c;d<=x/\x<=m/\x<=r/\bD a b=bD (γ3 x.toNat a) (γ3 x.toNat b)->(decide (x<e)=true->(decide (x<f)=true->d<=x/\x<e/\x.toNat<a.length/\d<=x/\x<f/\x.toNat<b.length/\(decide (o<p)=true->(h k).bi g)/\(decide (o<p)=false->d<=x/\x<e/\x.toNat<a.length/\d<=x/\x<f/\x.toNat<b.length/\(decide (p<o)=true->(h 1).bi g)/\(decide (p<o)=false->VI .i64 c/\((q.bi q/\n.bi n/\l.bi l/\True)/\True)/\(d<=c/\c<=m/\c<=r/\bD a b=bD (γ3 c.toNat a) (γ3 c.toNat b))/\(m - c).toNat<(m - x).toNat)))/\(decide (x<f)=false->(decide (e<f)=true->(h k).bi g)/\(decide (e<f)=false->(decide (f<e)=true->(h 1).bi g)/\(decide (f<e)=false->t.bi g))))/\(decide (x<e)=false->(decide (e<f)=true->(h k).bi g)/\(decide (e<f)=false->(decide (f<e)=true->(h 1).bi g)/\(decide (f<e)=false->t.bi g)))) (by kernel_rfl) ?_;conv=>zeta
 simp only at w u;simp only[vcs];refine⟨⟨by omega,by omega,by omega⟩,?_⟩;rintro i ⟨j,v,z,h⟩;refine⟨λs=>⟨λk=>?_,λk=>?_⟩,λs=>?_⟩
 ·rw[qs (d:=0) j s,qs (d:=0) j k] at h;simp only[bD] at h;omega
 ·rw[qs (d:=0) j s,show i.toNat=b.length from by omega,δC] at h;grind[bD]
 ·rw[show i.toNat=a.length from by omega,δC] at h;refine⟨λk=>?_,λk=>⟨λy=>by omega,λy=>?_⟩⟩
  ·rw[<-γm a.length,qs (d:=0) (by omega) k] at h;exact h.symm
  ·rw[show a.length=b.length from by omega,δC] at h;exact h.symm
def dq (l:List zi):zi:=⟨(l.map zi.a0).sum,(l.map zi.a1).sum,(l.map zi.a2).sum,(l.map zi.a3).sum,(l.map zi.a4).sum,(l.map zi.a5).sum⟩
def bW (p:cj) (l:List Int):List bC:=l.map λi=>bN p.bj i.toNat ew.bu.bw
def iH (p:cj) (L:List bC):Prop:=(L.map bC.OA).Nodup/\(dq (L.map bC.bx)).le p.bm=true/\(dq (L.map (eu p))).le p.bs=true
instance (p:cj) (L:List bC):Decidable (iH p L):=by unfold iH;infer_instance
def jW (p:cj) (l:List Int):Bool:=decide (iH p (bW p l))
def gD (a b:zi) (k:Int):zi:=⟨if 0<k then b.a0 else a.a0,if 1<k then b.a1 else a.a1,if 2<k then b.a2 else a.a2,if 3<k then b.a3 else a.a3,if 4<k then b.a4 else a.a4,if 5<k then b.a5 else a.a5⟩
def zi.add (a b:zi):zi:=⟨a.a0+b.a0,a.a1+b.a1,a.a2+b.a2,a.a3+b.a3,a.a4+b.a4,a.a5+b.a5⟩
theorem xV {l m:List zi}:dq (l++m)=(dq l).add (dq m):=by simp[dq,zi.add]
theorem xU {b:zi} {l:List zi}:dq (b::l)=b.add (dq l):=by simp[dq,zi.add]
def zi.bd (b:zi) (n:Int):Prop:=(0<=b.a0/\b.a0<=n)/\(0<=b.a1/\b.a1<=n)/\(0<=b.a2/\b.a2<=n)/\(0<=b.a3/\b.a3<=n)/\(0<=b.a4/\b.a4<=n)/\(0<=b.a5/\b.a5<=n)
theorem FY:∀{l:List zi},(∀b∈l,b.ok=true)->(dq l).bd (4*l.length)
 |[],_=>by simp[dq,zi.bd];|b::l,h=>by
  have e:=zi.hJ.1 (h b (by simp));have d:=@FY l λc a=>h c (by simp[a]);rw[xU];simp only[zi.bd,zi.add,γG] at d ⊢;omega
theorem WL {p:cj} {x:bC} (h:x.bx.ok=true):(eu p x).ok=true:=by
 have a:=zi.hJ.1 h;rw[zi.hJ];simp only[eu,Fa,oc];omega
theorem FX {p:cj} (b:Good p) {l:List Int} (h:∀i∈l,0<=i/\i<p.bj.length):∀x∈bW p l,x∈p.bj:=by
 intro x a;obtain⟨i,c,rfl⟩:=Ω.1 a;grind[cE]
def jU (p:cj) (i:Int):Int:=(bN p.bj i.toNat ew.bu.bw).value
def cw (a b:bB):bB:=if b.value<a.value\/a.value=b.value/\bD a.bn b.bn<0 then a else b
def jw (p:cj):Nat->Int->bB->bB->bB
 |0,_,_,b=>b
 |k+1,i,a,b=>jw p k (i+1) a (if jW p (a.bn++[i]) then jw p k (i+1) ⟨a.bn++[i],a.value+jU p i⟩ (cw ⟨a.bn++[i],a.value+jU p i⟩ b) else b)
def df (p:cj) (i:Int):Nat:=(p.bj.length - i).toNat
def FW (p:cj) (a:bB) (f:Int) (b:bB):bB:=jw p (df p f) f a (cw a b)
def aS (s:VK) (id:Nat):bB:=match s.o[id]? with
 |some (.cells [r,v] _ _ _)=>⟨(iJ (.i .i64) r).getD [],(v.int .i64).getD 0⟩
 |_=>⟨[],0⟩
theorem Nw {L:List M9} {W:ky} (c:M9) (F:ey) (Λ:Nat->bG) (hW:mB Tryz.prog W) (hL:∀c∈L,Holds Tryz.prog c)
  (hF:fQ c.f=some F) (a:c.α) (hlen:(c.A.put a).length=F.params) (hfr:∀d,lD c.f L=some d->∀b,gL (c.A.put a)=gL (d.A.put b)->¬d.dom b)
  (h:Vc (oj (kx L W mi ml fQ) Λ F (c.A.put a) λv=>v.pW (c.res a))):fU Tryz.prog c.f=true/\jB Tryz.prog c.f (gL (c.A.put a)) [] (c.res a).G []:=by
 refine AY (p:=kx L W mi ml fQ) (Λ:=Λ) (rJ hW hL pJ) (rI hW) (λ_ _ h=>h) hF ?_ hlen (λ_ h=>vc h) h.out;simp only[nN,pL,Bool.false_eq_true,if_false];split
 ·rename_i d hd;have:tR (λa=>gL (d.A.put a)) d.dom (λa=>(d.res a).G) (gL (c.A.put a))=none:=by
   unfold tR;rw[dif_neg];rintro⟨b,h1,h2⟩;exact hfr d hd b h1 h2
  rw[this];rfl
 ·rfl
def VL (p:cj):bB:=FW p ⟨[],0⟩ 0 ⟨[],0⟩
def hasB (m b:Int):Bool:=decide (gd.asY .i64 (m / 2^b.toNat) 1=1)
def Be (p:cj) (w:Int) (n:Nat):Int:=((ω n).map λi:Nat=>if(i:Int)≠w then(2:Int)^i else 0).sum
def nC (p:cj) (m:Int):cj:={p with bj:=p.bj.filter λx=>hasB m x.OA}
theorem FU {p:cj} (h:Good p) (m:Int):Good (nC p m):=by
 refine⟨h.1,?_,h.2.2.1,h.2.2.2.1,λx a=>h.2.2.2.2 x (γt.1 a).1⟩;have:=List.length_filter_le (λx:bC=>hasB m x.OA) p.bj;have:=h.2.1;grind[nC]
def sX (p:cj) (m:Int):Int:=(VL (nC p m)).value
theorem FT {p:cj} {c:List Int} (e:bR p c=0):nW p=0/\dW p c=true/\Good p/\c.length<=160/\∀i∈c,0<=i/\i<p.bj.length:=by
 have b:nW p=0:=by
  unfold bR at e;omega
 have d:dW p c=true:=by
  unfold bR at e;grind
 have f:=cT b;obtain⟨r,g⟩:=γn.1 d;obtain⟨h,a⟩:=Nz (by omega) g;refine⟨b,d,f,?_,a⟩;have k:=xY (by omega) g;have j:=f.2.1;grind
def FS (p:cj):Int:=Be p (-1) p.bk.length
structure Nv (p:cj) (fs:List Int) (l o:zi) (L:List bC):Prop where
 nd:(L.map bC.OA).Nodup
 mem:∀x∈L,x∈p.bj/\x.OA∈fs
 w:(dq (L.map bC.bx)).le l=true
 o:(dq (L.map (eu p))).le o=true
theorem Nu {p:cj} {fs:List Int} {l o:zi}:∀{xs:List bC} {v:Int},v<=xs.foldl (mZ p fs l o) v/\∀x∈xs,x.bx.le l=true->(eu p x).le o=true->x.value+jy p fs (l.sub x.bx) (o.sub (eu p x))<=xs.foldl (mZ p fs l o) v
 |[],v=>by simp;|y::xs,v=>by
  obtain⟨b,e⟩:=@Nu p fs l o xs (mZ p fs l o v y);have d:v<=mZ p fs l o v y:=by
   grind[mZ]
  refine⟨by grind,λx a c f=>?_⟩;simp only[εa];rcases γw.1 a with rfl|a
  ·have:x.value+jy p fs (l.sub x.bx) (o.sub (eu p x))<=mZ p fs l o v x:=by
    unfold mZ;grind
   omega
  simp_all
theorem mU {p:cj} {fs:List Int} {l o:zi}:∀{xs:List bC} {v:Int},xs.foldl (mZ p fs l o) v=v\/∃x∈xs,x.bx.le l=true/\(eu p x).le o=true/\xs.foldl (mZ p fs l o) v=x.value+jy p fs (l.sub x.bx) (o.sub (eu p x))
 |[],v=>by simp;|y::xs,v=>by
  simp only[εa];rcases @mU p fs l o xs (mZ p fs l o v y) with h|⟨x,d,a,c,b⟩
  ·rw[h];unfold mZ;split<;>grind
  grind
theorem WK {x:zi} {s t:List zi}:dq (s++x::t)=x.add (dq (s++t)):=by
 grind[xV,xU,zi.add]
theorem WJ {x:bC} {s t:List bC}:bJ (s++x::t)=x.value+bJ (s++t):=by
 rw[mY,mY];grind[bJ]
theorem Nt {p:cj} (c:Good p) {L:List bC} (h:∀x∈L,x∈p.bj):(dq (L.map bC.bx)).bd (4*L.length)/\(dq (L.map (eu p))).bd (4*L.length):=by
 have e:∀x∈L,x.bx.ok=true:=λx d=>(c.2.2.2.2 x (h x d)).2.2.1;have a:=@FY (L.map bC.bx) (λb f=>by grind);grind[FY,WL]
theorem Bd {p:cj} (e:Good p):∀{fs:List Int} {l o:zi} {L:List bC},Nv p fs l o L->bJ L<=jy p fs l o
 |[],l,o,L,h=>by
  have:L=[]:=by
   cases L with
   |nil=>rfl;|cons x L=>exact absurd (h.mem x (by simp)).2 (by simp)
  grind[bJ,jy];|f::fs,l,o,L,h=>by
  obtain⟨D,B⟩:=@Nu p fs l o (wF p f) (jy p fs l o);have b:jy p (f::fs) l o=(wF p f).foldl (mZ p fs l o) (jy p fs l o):=rfl;rw[b];by_cases d:∃x∈L,x.OA=f
  ·obtain⟨x,d,m⟩:=d;obtain⟨s,t,rfl⟩:=List.append_of_mem d;obtain⟨u,c,w,j⟩:=h;have i:=c x d;have g:∀y∈s++t,y∈p.bj:=λy a=>(c y (by grind)).1;obtain⟨z,v⟩:=Nt e g;rw[γa,π,WK,zi.le_iff,<-γa] at w j;simp only[zi.add,zi.bd] at w j z v;have q:x.bx.le l=true:=by rw[zi.le_iff];omega
   have r:(eu p x).le o=true:=by rw[zi.le_iff];omega
   have A:=B x (γt.2 ⟨i.1,by simp[m]⟩) q r;rw[γa,π,List.nodup_append] at u;have n:∀y∈s++t,y.OA≠f:=λy a=>by
    rw[<-m];rcases γi.1 a with a|a;·simp_all
    simp_all
   have k:bJ (s++t)<=jy p fs (l.sub x.bx) (o.sub (eu p x)):=Bd e
    {nd:=by
      grind
     mem:=λy a=>by
      grind
     w:=by grind[zi.le_iff,zi.sub]
     o:=by grind[zi.le_iff,zi.sub]};rw[WJ];omega
  ·have:=Bd e (fs:=fs) (l:=l) (o:=o) (L:=L) ⟨h.nd,λy a=>by
    have C:=h.mem y a;simp_all,h.w,h.o⟩;omega
theorem Bc {p:cj} (k:Good p):∀{fs:List Int} {l o:zi},fs.Nodup->zi.zero.le l=true->zi.zero.le o=true->∃L,Nv p fs l o L/\bJ L=jy p fs l o
 |[],l,o,_,g,e=>⟨[],⟨by simp,by simp,g,e⟩,rfl⟩
 |f::fs,l,o,r,g,e=>by
  have c:=γY.1 r;have d:jy p (f::fs) l o=(wF p f).foldl (mZ p fs l o) (jy p fs l o):=rfl;rw[d];rcases @mU p fs l o (wF p f) (jy p fs l o) with h|⟨x,q,m,u,n⟩
  ·rw[h];obtain⟨L,a,j⟩:=Bc k (l:=l) (o:=o) c.2 g e;exact⟨L,⟨a.nd,λy b=>⟨(a.mem y b).1,by simp[(a.mem y b).2]⟩,a.w,a.o⟩,j⟩
  ·rw[n];have z:=zi.le_iff.1 m;have A:=zi.le_iff.1 u;obtain⟨L,a,j⟩:=Bc k (l:=l.sub x.bx) (o:=o.sub (eu p x)) c.2 (by grind[zi.le_iff,zi.zero,zi.sub]) (by grind[zi.le_iff,zi.zero,zi.sub]);have s:=γt.1 q;have i:x.OA=f:=by simp_all
   refine⟨x::L,⟨?_,?_,?_,?_⟩,by grind[bJ]⟩
   ·rw[π,γY];refine⟨λt=>?_,a.nd⟩;obtain⟨y,b,v⟩:=Ω.1 t;exact c.1 (by rw[<-i,<-v];exact(a.mem y b).2)
   ·intro y b;rcases γw.1 b with rfl|b;·simp_all
    ·exact⟨(a.mem y b).1,by simp[(a.mem y b).2]⟩
   ·have:=zi.le_iff.1 a.w;grind[xU,zi.le_iff,zi.add,zi.sub]
   ·have:=zi.le_iff.1 a.o;grind[xU,zi.le_iff,zi.add,zi.sub]
theorem rE {p:cj} {l m:List Int}:bW p (l++m)=bW p l++bW p m:=by simp[bW]
theorem qp {p:cj} {i:Int} {l:List Int}:bW p (i::l)=bN p.bj i.toNat ew.bu.bw::bW p l:=rfl
def Bb (p:cj) (l:List Int):Prop:=∀i∈l,0<=i/\i<p.bj.length
theorem FQ {p:cj} (f:Good p) {L M:List bC} (c:∀x∈M,x∈p.bj) (h:iH p (L++M)):iH p L:=by
 obtain⟨e,d⟩:=Nt f c;obtain⟨g,a,b⟩:=h;rw[γa,xV,zi.le_iff] at a b;simp only[zi.add,zi.bd] at a b e d;refine⟨?_,?_,?_⟩<;>grind[zi.le_iff]
theorem Ns {p:cj} (a:Good p) {l m:List Int} (b:Bb p m) (h:jW p (l++m)=true):jW p l=true:=by
 unfold jW at h ⊢;have h:=of_decide_eq_true h;rw[rE] at h;exact decide_eq_true (FQ a (FX a b) h)
def kY (i:Int) (k:Nat) (t:List Int):Prop:=t.Pairwise (·<·)/\∀j∈t,i<=j/\j<i+k
theorem Nr {a b:bB}:a.value<=(cw a b).value/\b.value<=(cw a b).value:=by
 grind[cw]
theorem Nq {a b:bB}:cw a b=a\/cw a b=b:=by
 grind[cw]
theorem xT {p:cj}:∀{k:Nat} {i:Int} {a b:bB},b.value<=(jw p k i a b).value
 |0,_,_,b=>by simp[jw];|k+1,i,a,b=>by
  simp only[jw];refine εe ?_ xT;split;·exact εe Nr.2 xT
  ·omega
theorem FP {p:cj} (h:Good p):∀{k:Nat} {i:Int} {a b:bB} {t:List Int},0<=i->i+k<=p.bj.length->t≠[]->kY i k t->jW p (a.bn++t)=true->a.value+bJ (bW p t)<=(jw p k i a b).value
 |0,i,a,b,t,_,_,u,c,_=>by
  cases t with
  |nil=>simp_all;|cons j t=>
   have:=c.2 j (by simp);omega
 |k+1,i,a,b,t,w,x,u,c,s=>by
  cases t with
  |nil=>simp_all;|cons j t=>
   have v:=c.2 j (by simp);have q:=γB.1 c.1;simp only[jw];by_cases l:j=i
   ·subst l;have d:Bb p t:=λm e=>by
     have:=c.2 m (by simp[e]);omega
    have f:jW p (a.bn++[j]++t)=true:=by simp_all
    have g:jW p (a.bn++[j])=true:=Ns h d f;rw[if_pos g];refine εe ?_ xT;rw[qp];simp only[bJ];cases t with
    |nil=>
     refine εe ?_ xT;refine εe ?_ Nr.1;simp[bJ,bW,jU];|cons o n=>
     have:=FP h (k:=k) (i:=j+1) (a:=⟨a.bn++[j],a.value+jU p j⟩) (b:=cw ⟨a.bn++[j],a.value+jU p j⟩ b) (t:=o::n) (by omega) (by omega) (by simp) ⟨q.2,λm e=>by
      have r:=c.2 m (List.mem_cons_of_mem _ e);grind⟩ f;grind[jU]
   ·exact FP h (by omega) (by omega) (by simp) ⟨c.1,λm e=>by
     have r:=c.2 m e;grind⟩ s
theorem FO {p:cj} (g:Good p):∀{k:Nat} {i:Int} {a b:bB},jw p k i a b=b\/∃t,t≠[]/\kY i k t/\jW p (a.bn++t)=true/\jw p k i a b=⟨a.bn++t,a.value+bJ (bW p t)⟩
 |0,i,a,b=> .inl rfl
 |k+1,i,a,b=>by
  have l:∀{t:List Int},kY (i+1) k t->kY i (k+1) t:=λh=>⟨h.1,λj c=>by have:=h.2 j c;omega⟩;simp only[jw];rcases @FO p g k (i+1) a (if jW p (a.bn++[i]) then jw p k (i+1) ⟨a.bn++[i],a.value+jU p i⟩ (cw ⟨a.bn++[i],a.value+jU p i⟩ b) else b) with h|⟨t,m,d,n,o⟩
  ·rw[h];split
   ·rename_i q;have e:(⟨a.bn++[i],a.value+jU p i⟩:bB)=⟨a.bn++[i],a.value+bJ (bW p [i])⟩:=by simp[bJ,bW,jU]
    have f:kY i (k+1) [i]:=⟨by simp,λj c=>by grind⟩;rcases @FO p g k (i+1) ⟨a.bn++[i],a.value+jU p i⟩ (cw ⟨a.bn++[i],a.value+jU p i⟩ b) with h|⟨t,m,d,n,o⟩;·grind[Nq]
    ·refine .inr ⟨i::t,by simp,⟨γB.2 ⟨λj c=>by have:=d.2 j c;omega,d.1⟩,λj c=>?_⟩,by simp_all,?_⟩
     ·rcases γw.1 c with rfl|c;·omega
      ·have:=d.2 j c;omega
     grind[qp,bJ,jU]
   simp_all
  grind
theorem Ba {p:cj}:∀{c:List Int} {s:Int},c.foldl (E_ p) s=s+bJ (bW p c)
 |[],s=>by simp[bW,bJ];|i::c,s=>by
  rw[εa,Ba,qp];grind[bJ,E_]
theorem A_ {p:cj}:∀{c:List Int} {a:Int} {r:List bC},dz p.bj a c=some r->r=bW p c
 |[],a,r,h=>by simp[dz] at h;subst h;rfl;|i::c,a,r,h=>by
  simp only[dz] at h;split at h;·cases h
  ·obtain⟨d,b,rfl⟩:=Option.map_eq_some_iff.1 h;rw[A_ b,qp]
theorem WI {p:cj} {c:List Int} (b:bR p c=0):cA p c=xW p c:=by
 obtain⟨a,d,g,f,e⟩:=FT b;obtain⟨r,h⟩:=γn.1 d;unfold cA xW;rw[if_pos a,Ba];grind[cF,A_]
theorem Np {p:cj} {x:bC} (b:0<=x.OA) (a:x.OA<p.bk.length):dv p x.OA x=1:=by
 unfold dv;omega
theorem sum_cons {p:cj} {x:bC} {L:List bC} {r:Int}:bZ p (x::L) r=dv p r x+bZ p L r:=by simp[bZ]
theorem No {p:cj} {r:Int}:∀{L:List bC},(∀x∈L,x.bx.ok=true)->(∃x∈L,x.OA=r/\0<=r/\r<p.bk.length)->1<=bZ p L r
 |[],_,h=>by simp_all;|y::L,a,⟨x,c,e,f,d⟩=>by
  have g:=@nL p r y (a y (by simp));have i:=@qt p r L λz b=>a z (by simp[b]);rw[sum_cons];rcases γw.1 c with rfl|c;·grind[Np]
  ·have:=@No p r L (λz b=>a z (by simp[b])) ⟨x,c,e,f,d⟩;omega
theorem Nn {p:cj}:∀{L:List bC},(∀x∈L,x.bx.ok=true/\0<=x.OA/\x.OA<p.bk.length)->(∀r:Int,0<=r->r<p.bk.length->bZ p L r<=1)->(L.map bC.OA).Nodup
 |[],_,_=>by simp;|x::L,e,f=>by
  have a:=e x (by simp);rw[π,γY];have d:∀r:Int,0<=r->r<p.bk.length->bZ p L r<=1:=λr j b=>by
   have:=f r j b;have:=@nL p r x a.1;grind[sum_cons]
  refine⟨λg=>?_,Nn (λy c=>e y (by simp[c])) d⟩;obtain⟨y,c,h⟩:=Ω.1 g;have b:=f x.OA a.2.1 a.2.2;have k:=@No p x.OA L (λz i=>(e z (by simp[i])).1) ⟨y,c,h,a.2.1,a.2.2⟩;rw[sum_cons,Np a.2.1 a.2.2] at b;omega
theorem WH {p:cj} {c:List Int} (e:bR p c=0):((bW p c).map bC.OA).Nodup:=by
 obtain⟨j,f,a,m,h⟩:=FT e;obtain⟨r,l⟩:=γn.1 f;have n:cF p c=bW p c:=by grind[cF,A_]
 have d:fj p (bW p c)=true:=by
  simp_all[bR]
 refine Nn (p:=p) (λx g=>?_) λr o i=>?_
 ·have:=a.2.2.2.2 x (FX a h x g);simp_all
 ·have b:=m_.1 d r.toNat (by grind[cr]);rw[show((r.toNat:Nat):Int)=r by omega] at b;have k:cB p r=1:=by unfold cB;omega
  omega
theorem FN {p:cj}:VL p=jw p p.bj.length 0 ⟨[],0⟩ ⟨[],0⟩:=by
 grind[df,VL,FW,Nq]
theorem FM {p:cj} (f:Good p) {t:List Int} (e:kY 0 p.bj.length t) (d:jW p t=true):bJ (bW p t)<=(VL p).value:=by
 rw[FN];by_cases c:t=[]
 ·subst c;exact xT
 ·have:=FP f (k:=p.bj.length) (i:=0) (a:=⟨[],0⟩) (b:=⟨[],0⟩) (t:=t) (by omega) (by omega) c e d;simp_all
theorem NY {p:cj} (a:Good p):jW p []=true:=by
 have b:=zi.hJ.1 a.2.2.1;have c:=zi.hJ.1 a.2.2.2.1;unfold jW;refine decide_eq_true ⟨by simp[bW],?_,?_⟩;all_goals simp_all[zi.le_iff,bW,dq]
theorem FL {p:cj} (a:Good p):∃t,kY 0 p.bj.length t/\jW p t=true/\VL p=⟨t,bJ (bW p t)⟩:=by
 rw[FN];rcases @FO p a p.bj.length 0 ⟨[],0⟩ ⟨[],0⟩ with h|⟨t,b,e,c,d⟩;·exact⟨[],⟨by simp,by simp⟩,NY a,by rw[h];rfl⟩
 grind
def NX:Bool:=(ω 256).all λm=>[0,1,2,3,4,5,6,7].all λb:Int=>hasB m b==decide (b∈pI m)
theorem WG:NX=true:=by kernel_rfl
theorem FK {m b:Int} (e:0<=m) (a:m<256) (c:0<=b) (d:b<8):hasB m b=decide (b∈pI m):=by
 have h:=WG;simp only[NX,χ,γq] at h;have h:=h m.toNat (by omega) b (by
  have:b=0\/b=1\/b=2\/b=3\/b=4\/b=5\/b=6\/b=7:=by omega
  simp_all);grind
theorem WE {p:cj} {t:List Int} (h:kY 0 p.bj.length t):Bb p t:=λj a=>by
 have:=h.2 j a;omega
theorem WC {p:cj} (b:Good p) {m:Int} (j:0<=m) (e:m<256):sX p m<=jy p (pI m) p.bm p.bs:=by
 obtain⟨t,i,f,g⟩:=FL (FU b m);unfold sX;rw[g];have d:=of_decide_eq_true f;refine Bd b ⟨d.1,λx h=>?_,d.2.1,d.2.2⟩;have c:=FX (FU b m) (WE i) x h;have a:=γt.1 c;have k:=b.2.2.2.2 x a.1;have l:=b.1;refine⟨a.1,?_⟩;have:=FK j e k.1 (by omega);simp_all
theorem NW {L M:List bC} (h:L.Perm M):bJ L=bJ M:=by
 induction h<;>grind[bJ,swap,trans]
theorem WA {L M:List zi} (h:L.Perm M):dq L=dq M:=by
 induction h<;>grind[xU,swap,zi.add,zi.mk.injEq,trans]
theorem FJ {p:cj} {L M:List bC} (h:L.Perm M) (b:iH p L):iH p M:=by
 obtain⟨a,c,d⟩:=b;refine⟨((h.map _).nodup_iff).1 a,?_,?_⟩<;>grind[WA]
theorem FI (q:bC->Bool):∀(O a:List bC),∃t:List Int,t.Pairwise (·<·)/\(∀j∈t,(a.length:Int)<=j/\j<a.length+O.length)/\(t.map λj=>bN (a++O) j.toNat ew.bu.bw)=O.filter q
 |[],a=>⟨[],by simp,by simp,by simp⟩
 |x::O,a=>by
  obtain⟨t,c,g,d⟩:=FI q O (a++[x]);have e:a++[x]++O=a++x::O:=by simp
  rw[e] at d;have h:((a++[x]).length:Int)=a.length+1:=by simp
  have f:∀j∈t,(a.length:Int)+1<=j/\j<a.length+1+O.length:=λj b=>by
   simp_all
  by_cases i:q x=true
  ·refine⟨(a.length:Int)::t,γB.2 ⟨λj b=>by grind,c⟩,λj b=>?_,?_⟩;·grind
   simp_all[b_]
  grind
theorem A9 {p:cj}:∀{l:List bC} {a:List mK},g_ p a l=0->(l.map bC.key).Nodup/\∀x∈l,x.key∉a
 |[],_,_=>by simp;|o::r,a,h=>by
  simp only[g_] at h;split at h;·omega
  ·split at h;·cases h
   ·rename_i d b;obtain⟨c,e⟩:=A9 h;simp_all
theorem A8 {a b:Type} (f:a->b):∀{l:List a},(l.map f).Nodup->l.Nodup
 |[],_=>by simp;|x::l,h=>by
  rw[π,γY] at h;exact γY.2 ⟨λc=>h.1 (List.mem_map_of_mem c),A8 f h.2⟩
theorem NV {p:cj} (h:nW p=0):p.bj.Nodup:=by
 unfold nW at h;split at h;·omega
 ·exact A8 _ (A9 h).1
theorem NU (m:Int):(pI m).Nodup:=by
 unfold pI;exact ζU γS (by decide)
theorem Wz {p:cj} (f:nW p=0) {m:Int} (D:0<=m) (u:m<256):jy p (pI m) p.bm p.bs<=sX p m:=by
 have b:=cT f;have A:=zi.hJ.1 b.2.2.1;have y:=zi.hJ.1 b.2.2.2.1;obtain⟨L,c,h⟩:=Bc b (NU m) (l:=p.bm) (o:=p.bs) (by grind[zi.le_iff,zi.zero]) (by grind[zi.le_iff,zi.zero]);obtain⟨t,n,B,g⟩:=FI (λx=>decide (x∈L)) (nC p m).bj [];have i:bW (nC p m) t=(nC p m).bj.filter λx=>decide (x∈L):=g;have q:∀x∈L,x∈(nC p m).bj:=λx s=>by
  have d:=c.mem x s;have C:=b.2.2.2.2 x d.1;have v:=b.1;refine γt.2 ⟨d.1,?_⟩;grind[FK]
 have e:((nC p m).bj.filter λx=>decide (x∈L)).Nodup:=ζU (List.Sublist.trans γS γS) (NV f);have a:L.Perm (bW (nC p m) t):=by
  rw[i];refine(List.perm_ext_iff_of_nodup (A8 _ c.nd) e).2 λx=>?_;simp_all
 have k:iH (nC p m) L:=⟨c.nd,c.w,c.o⟩;have r:jW (nC p m) t=true:=decide_eq_true (FJ a k);have:=FM (FU b m) ⟨n,λj z=>by simp_all⟩ r;rw[<-NW a,h] at this;exact this
theorem Wy {p:cj} (d:nW p=0) {m:Int} (e:0<=m) (c:m<256):sX p m=jy p (pI m) p.bm p.bs:=by
 have a:=WC (cT d) e c;have b:=Wz d e c;omega
theorem Wx {p:cj} (a:nW p=0) {m:Int} (c:0<=m) (d:m<2^p.bk.length):pH p m=sX p m:=by
 have b:AI p m=0:=by
  simp_all[AI]
 have e:=xX (cT a).1;unfold pH;rw[if_pos b,Wy a c (by omega)];rfl
def NT:Bool:=(ω 9).all λn=>decide (Be cj.zero (-1) n=2^n - 1)&&(ω n).all λb=>decide (Be cj.zero b n=V5 (2^n - 1) b)
theorem Ww:NT=true:=by kernel_rfl
theorem NS {p:cj} (h:p.bk.length<=8):Be p (-1) p.bk.length=allM p:=by
 have a:=Ww;simp only[NT,χ,γq,Bool.and_eq_true,decide_eq_true_eq] at a;exact(a p.bk.length (by omega)).1
theorem Wv {p:cj} (b:nW p=0):pH p (allM p)=sX p (FS p):=by
 have a:=cT b;have c:=xX a.1;unfold FS;rw[NS a.1];grind[Wx,allM]
def zi.at (b:zi) (k:Nat):Int:=bN [b.a0,b.a1,b.a2,b.a3,b.a4,b.a5] k 0
theorem FH {a b:zi} (h:a.le b=true) (k:Nat):a.at k<=b.at k:=by
 grind[zi.le_iff,zi.at,bN]
theorem mP (k:Nat):∀(l:List zi),(dq l).at k=(l.map λb=>b.at k).sum:=by
 intro l;unfold zi.at dq;match k with
 |0|1|2|3|4|5=>simp only[bN,List.getElem?_cons_zero,γO,γ2];|k+6=>
  simp only[bN,γO,List.getElem?_nil,Option.getD_none];induction l<;>grind
theorem NR {p:cj} {x:bC} {k:Nat} (a:k<6):dv p (p.bk.length+k) x=x.bx.at k:=by
 unfold dv;rw[if_neg (by omega),if_pos (by omega),show((p.bk.length:Int)+k - p.bk.length).toNat=k by omega];rfl
theorem NQ {p:cj} {x:bC} {k:Nat} (a:k<6):dv p (p.bk.length+6+k) x=(eu p x).at k:=by
 unfold dv;rw[if_neg (by omega),if_neg (by omega),show((p.bk.length:Int)+6+k - p.bk.length - 6).toNat=k by omega];have:k=0\/k=1\/k=2\/k=3\/k=4\/k=5:=by omega
 rcases this with rfl|rfl|rfl|rfl|rfl|rfl<;>simp[eu,Fa,oc,kZ,zi.at,bN]
theorem NP {p:cj} {k:Nat} (a:k<6):cB p (p.bk.length+k)=p.bm.at k:=by
 unfold cB;rw[if_neg (by omega),if_pos (by omega),show((p.bk.length:Int)+k - p.bk.length).toNat=k by omega];rfl
theorem Ml {p:cj} {k:Nat} (a:k<6):cB p (p.bk.length+6+k)=p.bs.at k:=by
 unfold cB;rw[if_neg (by omega),if_neg (by omega),show((p.bk.length:Int)+6+k - p.bk.length - 6).toNat=k by omega];rfl
theorem Mk {p:cj} {r:Int} (a:0<=r) (b:r<p.bk.length):∀{L:List bC},(L.map bC.OA).Nodup->bZ p L r<=1/\(r∉L.map bC.OA->bZ p L r=0)
 |[],_=>by simp[bZ];|x::L,h=>by
  rw[π,γY] at h;obtain⟨d,e⟩:=Mk a b h.2;have c:dv p r x=if x.OA=r then 1 else 0:=by unfold dv;omega
  rw[sum_cons,c];grind
theorem Mj {p:cj} {L:List bC} (h:iH p L):fj p L=true:=by
 obtain⟨j,i,f⟩:=h;refine m_.2 λr g=>?_;unfold cr at g;by_cases l:r<p.bk.length
 ·have:=(Mk (p:=p) (r:=r) (by omega) (by omega) j).1;have d:cB p r=1:=by unfold cB;omega
  omega
 by_cases d:r<p.bk.length+6
 ·obtain⟨k,rfl⟩:∃k:Nat,r=p.bk.length+k:=⟨r - p.bk.length,by omega⟩;have c:k<6:=by omega
  have e:(((p.bk.length+k:Nat)):Int)=p.bk.length+k:=by omega
  rw[e,NP c];have a:=FH i k;rw[mP,γ5] at a;have:bZ p L (p.bk.length+k)=(L.map ((λb=>zi.at b k)∘bC.bx)).sum:=by
   unfold bZ;congr 1;simp_all[NR]
  omega
 ·obtain⟨k,rfl⟩:∃k:Nat,r=p.bk.length+6+k:=⟨r - p.bk.length - 6,by omega⟩;have c:k<6:=by omega
  have e:(((p.bk.length+6+k:Nat)):Int)=p.bk.length+6+k:=by omega
  rw[e,Ml c];have a:=FH f k;rw[mP,γ5] at a;have:bZ p L (p.bk.length+6+k)=(L.map ((λb=>zi.at b k)∘eu p)).sum:=by
   unfold bZ;congr 1;simp_all[NQ]
  omega
theorem Mi {l:List bC}:∀{t:List Int} {a:Int},t.Pairwise (·<·)->(∀j∈t,a<j/\j<l.length)->dz l a t=some (t.map λi=>bN l i.toNat ew.bu.bw)
 |[],_,_,_=>rfl
 |i::t,a,h,d=>by
  have e:=d i (by simp);have c:=γB.1 h;unfold dz;rw[if_neg (by omega),Mi c.2 λj b=>⟨c.1 j b,(d j (by simp[b])).2⟩];rfl
theorem Mh {p:cj} (e:nW p=0) {t:List Int} (a:kY 0 p.bj.length t) (c:iH p (bW p t)):bR p t=0:=by
 have d:dz p.bj (-1) t=some (bW p t):=Mi a.1 λj b=>by have:=a.2 j b;omega
 simp_all[bR,dW,cF,Mj]
def Mg:Bool:=(ω 9).all λn=>(ω n).all λb=>hasB (2^n - 1) b
theorem Wu:Mg=true:=by kernel_rfl
theorem Mf {p:cj} (a:Good p) {b:Int} (d:0<=b) (c:b<p.bk.length):hasB (allM p) b=true:=by
 have h:=Wu;simp only[Mg,χ,γq] at h;have:=h p.bk.length (by have:=a.1;omega) b.toNat (by omega);rwa [show((b.toNat:Nat):Int)=b by omega] at this
theorem Wt {p:cj} (a:Good p):nC p (allM p)=p:=by
 unfold nC;rw[List.filter_eq_self.2 λx b=>Mf a (a.2.2.2.2 x b).1 (a.2.2.2.2 x b).2.1]
theorem A7 {p:cj} (b:nW p=0):pH p (allM p)=(VL p).value:=by
 have a:=cT b;rw[Wv b];unfold FS sX;rw[NS a.1,Wt a]
theorem Me {p:cj} (a:nW p=0):NA p (VL p).bn=0/\iH p (bW p (VL p).bn)/\kY 0 p.bj.length (VL p).bn/\(VL p).value=bJ (bW p (VL p).bn):=by
 have d:=cT a;obtain⟨t,b,e,h⟩:=FL d;have c:iH p (bW p t):=of_decide_eq_true e;have g:=Mh a b c;have f:=A7 a;simp_all[NA,xW,Ba]
theorem Ws {p:cj} (d:Good p) {x:Int} (a:0<=x) (c:x<p.bk.length):x∈pI (allM p):=by
 have e:=d.1;have f:=xX e;have:=FK (m:=allM p) (b:=x) (by grind[allM]) (by grind[allM]) a (by omega);simp_all[Mf]
theorem Mc {p:cj} (b:nW p=0) {m:Int} (c:0<=m) (a:m<2^p.bk.length):pH p m=jy p (pI m) p.bm p.bs:=by
 unfold pH;rw[if_pos];·rfl
 simp_all[AI]
theorem FG:∀l:List Int,bD l l=0
 |[]=>rfl
 |a::l=>by
  simp only[bD,if_neg (Int.lt_irrefl a)];exact FG l
theorem Mb:∀{a b:List Int},bD a b=0->a=b
 |[],[],_=>rfl
 |[],_::_,h=>by grind[bD];|_::_,[],h=>by grind[bD];|x::a,y::b,h=>by
  simp only[bD] at h;split at h;·simp at h
  ·split at h;·simp at h
   ·rw[Mb h,show x=y by omega]
theorem Ma:∀{a b:List Int},bD a b<0↔0<bD b a
 |[],[]=>by simp[bD];|[],_::_=>by simp[bD];|_::_,[]=>by simp[bD];|x::a,y::b=>by
  simp only[bD];by_cases c:x<y;·omega
  ·by_cases d:y<x;·omega
   ·rw[if_neg c,if_neg d,if_neg d,if_neg c];exact Ma
theorem L_:∀{a b c:List Int},bD a b<0->bD b c<0->bD a c<0
 |[],[],_,h,_=>by omega;|_::_,[],_,h,_=>by grind[bD];|[],_::_,[],_,h=>by grind[bD];|[],_::_,_::_,_,_=>by simp[bD];|_::_,_::_,[],_,h=>by grind[bD];|x::a,y::b,z::c,h,k=>by
  simp only[bD] at h k ⊢;by_cases g:x<y;·omega
  ·rw[if_neg g] at h;by_cases e:y<x;·omega
   ·rw[if_neg e] at h;by_cases f:y<z;·omega
    ·rw[if_neg f] at k;by_cases d:z<y;·omega
     ·rw[if_neg d] at k;rw[if_neg (by omega),if_neg (by omega)];exact L_ h k
def lC (a b:bB):Prop:=b.value<a.value\/a.value=b.value/\bD a.bn b.bn<0
theorem L9 {a b c:bB} (h:lC a b) (k:lC b c):lC a c:=by
 rcases h with h|⟨g,e⟩
 ·rcases k with k|⟨f,_⟩;·left;omega
  ·left;omega
 ·rcases k with k|⟨f,d⟩;·left;omega
  ·exact .inr ⟨by omega,L_ e d⟩
theorem A6 {a:bB}:¬lC a a:=by
 rintro(h|⟨_,h⟩)<;>grind[FG]
theorem Wr {a b:bB} (h:¬lC a b) (k:¬lC b a):a=b:=by
 obtain⟨l,v⟩:=a;obtain⟨m,w⟩:=b;simp only[lC,not_or,not_and] at h k;have d:v=w:=by omega
 subst d;have e:=h.2 rfl;have c:=k.2 rfl;have:=mt Ma.2 c;grind[Mb]
def mO (a:List Int):Nat->Nat
 |0=>0
 |n+1=>if bN a n 0=0 then mO a n else n+1
def IL (a:List Int):List Int:=a.take (mO a a.length)
def pG:M9:=⟨168,List Int,.one (cL (.i .u32)),λa=>a.length<=1000000000000,λa=> .row (.i .u32) (IL a)⟩
def Wq (a:List Int):Nat->bG
 |2=> .inv Int (λn=>⟨[(0,.row (.i .u32) a),(3,.si .i64 n)],[]⟩) (λs=>iS s 3) (λn=>0<=n/\n<=a.length/\mO a n.toNat=mO a a.length) (λn=>n.toNat) λ_ _=> .look
 |_=> .look
theorem k_:Holds Tryz.prog pG:=by
 refine bI (L:=[]) pG Wq (by simp) ?_;intro(a:List Int) (h:a.length<=1000000000000);refine NH (let e:=(0:Int);let f:=Ψ;let c:=ew.i .u32;let d:=(↑a.length:Int);let l:=γf .i64 d;let g:=(↑a.length:Int);let j:=mO a a.length;((((f c a).bi (f c a)/\l.bi l/\True)/\True)/\e<=d/\d<=g/\mO a d.toNat=j)/\∀(x:Int),let r:=decide (e<x);let b:=x - (1:Int);let o:=decide (bN a b.toNat e=e);let k:=γf .i64 b;e<=x/\x<=g/\mO a x.toNat=j->(r=true->VI .i64 b/\e<=b/\b<d/\b.toNat<a.length/\(o=true->VI .i64 b/\(((f c a).bi (f c a)/\k.bi k/\True)/\True)/\(e<=b/\b<=g/\mO a b.toNat=j)/\b.toNat<x.toNat)/\(o=false->e<=x/\e<=x/\0<=x.toNat/\x.toNat<=x.toNat/\x.toNat<=a.length/\(f c (Γ (x.toNat - 0) a)).bi (f c (IL a))))/\(r=false->e<=x/\e<=x/\0<=x.toNat/\x.toNat<=x.toNat/\x.toNat<=a.length/\(f c (Γ (x.toNat - 0) a)).bi (f c (IL a)))) (by kernel_rfl) ?_;simp only[vcs];refine⟨⟨by omega,by omega,by simp⟩,?_⟩;rintro n ⟨f,t,q⟩;have e:(n.toNat=0\/0<n.toNat/\¬bN a (n.toNat - 1) 0=0)->Γ (n.toNat - 0) a=IL a:=λh=>by
  unfold IL;rw[<-q];congr 1;rcases h with h|h;·rw[h];rfl
  ·obtain⟨v,h⟩:=h;obtain⟨m,u⟩:∃m,n.toNat=m+1:=⟨n.toNat - 1,by omega⟩;simp_all[mO]
 refine⟨λs=>⟨by omega,by omega,by omega,by omega,λp=>⟨by omega,⟨by omega,by omega,?_⟩,by omega⟩,λp=>⟨f,f,by omega,by omega,by omega,?_⟩⟩,λs=>⟨f,f,by omega,by omega,by omega,e (.inl (by omega))⟩⟩
 ·rw[<-q,show n.toNat=(n - 1).toNat+1 by omega];rw[mO,if_pos p]
 simp_all
def bX:List Int->Int
 |[]=>0
 |d::l=>d+4294967296*bX l
def ou (a:List Int):Prop:=∀d∈a,0<=d/\d<4294967296
def ff:List Int->Prop
 |[]=>True
 |d::l=>(l=[]->d≠0)/\ff l
theorem iG {d:Int} {l:List Int}:ou (d::l)↔(0<=d/\d<4294967296)/\ou l:=by simp[ou]
theorem lL {a:List Int} (h:ou a) (n:Nat):ou (a.take n):=λd b=>h d (γl b)
theorem el:∀{a:List Int},ou a->0<=bX a
 |[],_=>Int.le_refl _
 |d::l,h=>by
  obtain⟨c,b⟩:=iG.1 h;have:=el b;grind[bX]
theorem val_zero:∀{a:List Int},ou a->ff a->bX a=0->a=[]
 |[],_,_,_=>rfl
 |d::l,h,b,f=>by
  obtain⟨g,c⟩:=iG.1 h;have:=el c;simp only[bX] at f;have e:=val_zero c b.2 (by omega);have:=b.1 e;omega
theorem val_inj:∀{a b:List Int},ou a->ou b->ff a->ff b->bX a=bX b->a=b
 |[],b,_,i,_,c,h=>(val_zero i c h.symm).symm
 |d::l,[],f,_,g,_,h=>val_zero f g h
 |d::l,e::m,f,i,g,c,h=>by
  obtain⟨p,j⟩:=iG.1 f;obtain⟨s,k⟩:=iG.1 i;have r:=el j;have q:=el k;simp only[bX] at h;have n:d=e:=by omega
  have o:bX l=bX m:=by omega
  rw[n,val_inj j k g.2 c.2 o]
theorem vO:∀{a:List Int} {x:Int},bX (a++[x])=bX a+4294967296^a.length*x
 |[],x=>by simp[bX];|d::l,x=>by
  simp only[γI,bX,vO,γG,γT,εy];grind
theorem FF:∀{a:List Int} {x:Int},x≠0->ff (a++[x])
 |[],x,h=>⟨λ_=>h,trivial⟩
 |d::l,x,h=>⟨λb=>by simp at b,FF h⟩
theorem zA {a:List Int} {n:Nat} (h:n<a.length):a.take (n+1)=a.take n++[bN a n 0]:=by
 simp_all[b_]
theorem L1 {a:List Int}:∀{n:Nat},n<=a.length->bX (a.take (mO a n))=bX (a.take n)/\ff (a.take (mO a n))
 |0,_=>by simp[mO,ff];|n+1,h=>by
  obtain⟨d,b⟩:=@L1 a n (by omega);have c:=zA (show n<a.length by omega);unfold mO;grind[vO,FF]
theorem pF {a:List Int}:bX (IL a)=bX a/\ff (IL a):=by
 have:=@L1 a a.length (ξ _);rw[ψ] at this;exact this
theorem qo {a:List Int} (h:ou a):ou (IL a):=lL h _
theorem rD {a:List Int}:(IL a).length<=a.length:=by grind[IL]
def sW:Nat->Int->List Int
 |0,_=>[]
 |k+1,n=>if n<=0 then[] else(n % 4294967296)::sW k (n / 4294967296)
def bU (n:Int):List Int:=sW n.toNat n
theorem L0:∀{k:Nat} {n:Int},0<=n->n.toNat<=k->bX (sW k n)=n/\ou (sW k n)/\ff (sW k n)
 |0,n,b,h=>by
  have:n=0:=by omega
  subst this;exact⟨rfl,by simp[sW,ou],trivial⟩;|k+1,n,b,h=>by
  unfold sW;split
  ·have:n=0:=by omega
   subst this;exact⟨rfl,by simp[ou],trivial⟩
  ·obtain⟨d,a,c⟩:=@L0 k (n / 4294967296) (by omega) (by omega);refine⟨by grind[bX],iG.2 ⟨by omega,a⟩,λe f=>?_,c⟩;grind[bX]
theorem ft {n:Int} (h:0<=n):bX (bU n)=n/\ou (bU n)/\ff (bU n):=L0 h (ξ _)
theorem xS {a:List Int} (h:ou a) (b:ff a):bU (bX a)=a:=by
 grind[ft,el,val_inj]
theorem oo {a:List Int} (h:ou a):IL a=bU (bX a):=by
 grind[pF,xS,qo]
theorem mN:∀{a:List Int},ou a->bX a<4294967296^a.length
 |[],_=>by simp[bX];|d::l,h=>by
  obtain⟨c,b⟩:=iG.1 h;have:=mN b;grind[bX]
theorem vN:∀{a b:List Int},ou a->ou b->ff b->a.length<b.length->bX a<bX b
 |[],b,_,c,f,h=>by
  have n:=el c;grind[bX,val_zero];|d::l,[],_,_,_,h=>by simp at h;|d::l,e::m,g,c,f,h=>by
  obtain⟨k,j⟩:=iG.1 g;obtain⟨o,i⟩:=iG.1 c;simp only[γG] at h;have:=vN j i f.2 (by omega);grind[bX]
theorem FE:∀{k:Nat} {a b:List Int},ou a->ou b->k<a.length->k<b.length->a.drop (k+1)=b.drop (k+1)->bN a k 0<bN b k 0->bX a<bX b
 |_,[],_,_,_,h,_,_,_=>by simp at h;|_,_::_,[],_,_,_,h,_,_=>by simp at h;|0,d::l,e::m,f,g,_,_,h,c=>by
  grind[bN,bX];|k+1,d::l,e::m,f,g,n,q,h,c=>by
  obtain⟨p,j⟩:=iG.1 f;obtain⟨o,i⟩:=iG.1 g;simp only[List.drop_succ_cons] at h;simp only[bN,γO] at c;have:=FE (k:=k) j i (by simp_all) (by simp_all) h c;grind[bX]
theorem zz {a:List Int} {k:Nat} (h:k<a.length):a.drop k=bN a k 0::a.drop (k+1):=by simp_all[b_]
def kX (x y:Int):Int:=if x<y then -1 else if y<x then 1 else 0
def vM:M9:=⟨140,List Int×List Int,.cons (cL (.i .u32)) (.one (cL (.i .u32))),λa=>(ou a.1/\ou a.2)/\a.1.length<=1000000000000/\a.2.length<=1000000000000,λa=> .si .i64 (kX (bX a.1) (bX a.2))⟩
def Wp (a:List Int×List Int):Nat->bG
 |7=> .inv Int (λi=>⟨[(0,.row (.i .u32) (IL a.1)),(1,.row (.i .u32) (IL a.2)),(22,.si .i64 (IL a.1).length),(23,.si .i64 i)],[]⟩) (λs=>iS s 23)
  (λi=>0<=i/\i<=(IL a.1).length/\(IL a.1).drop ((IL a.1).length - i.toNat)=(IL a.2).drop ((IL a.1).length - i.toNat)) (λi=>((IL a.1).length - i).toNat) λ_ _=> .look
 |_=> .look
theorem qV:Holds Tryz.prog vM:=by
 refine bI (L:=[pG]) vM Wp (by grind[k_]) ?_;rintro⟨a,b⟩ ⟨⟨H,J⟩,r,q⟩;simp only at H J r q;refine NH (let h:=(0:Int);let m:=γf .i64;let q:=γv .i64;let r:=VI .i64;let E:Nat:=(IL a).length;let j:=(↑E:Int);let B:Nat:=(IL b).length;let n:=(↑B:Int);let u:=m (kX (bX a) (bX b));let y:=Ψ (ew.i .u32) (IL a);let v:=Ψ (ew.i .u32) (IL b);let l:Nat:=(IL a).length;let k:=(↑l:Int);let C:=m k;let o:=q 0;let c:=j - (1:Int);a.length<=1000000000000/\b.length<=1000000000000/\(decide (j≠n)=true->(decide (j<n)=true->(q (-1:Int)).bi u)/\(decide (j<n)=false->(q 1).bi u))/\(decide (j≠n)=false->(((y.bi y/\v.bi v/\(m j).bi C/\o.bi (m 0)/\True)/\True)/\h<=h/\h<=k/\γ3 (l - 0) (IL a)=γ3 (l - 0) (IL b))/\∀(x:Int),let e:=(c - x).toNat;let f:=bN (IL a) e h;let g:=bN (IL b) e h;let d:=x+(1:Int);let p:=m d;h<=x/\x<=k/\γ3 (l - x.toNat) (IL a)=γ3 (l - x.toNat) (IL b)->(decide (x<k)=true->r c/\r (c - x)/\h<=c - x/\c - x<j/\e<E/\h<=c - x/\c - x<n/\e<B/\(decide (f<g)=true->(q (-1:Int)).bi u)/\(decide (f<g)=false->h<=c - x/\c - x<j/\e<E/\h<=c - x/\c - x<n/\e<B/\(decide (g<f)=true->(q 1).bi u)/\(decide (g<f)=false->r d/\((y.bi y/\v.bi v/\C.bi C/\p.bi p/\True)/\True)/\(h<=d/\d<=k/\γ3 (l - d.toNat) (IL a)=γ3 (l - d.toNat) (IL b))/\(k - d).toNat<(k - x).toNat)))/\(decide (x<k)=false->o.bi u))) (by kernel_rfl) ?_;simp only[vcs];obtain⟨R,S⟩:=@pF a;obtain⟨O,N⟩:=@pF b;have z:=qo H;have w:=qo J;have W:=@rD a;rw[<-R,<-O];generalize IL a=s at*;generalize IL b=t at*;have G:bX s<bX t-> -1=kX (bX s) (bX t):=λh=>by simp_all[kX]
 have F:bX t<bX s->1=kX (bX s) (bX t):=λh=>by unfold kX;omega
 refine⟨r,q,λP=>⟨λh=>G (vN z w N (by omega)),λh=>F (vN w z S (by omega))⟩,λT=>⟨⟨by omega,by omega,?_⟩,?_⟩⟩;·rw[δ8 (by omega),δ8 (by omega)]
 rintro i ⟨U,X,A⟩;refine⟨λM=>?_,λQ=>?_⟩
 ·have K:((s.length:Int) - 1 - i).toNat=s.length - 1 - i.toNat:=by omega
  have D:s.length - i.toNat=s.length - 1 - i.toNat+1:=by omega
  rw[K];rw[D] at A;generalize V:s.length - 1 - i.toNat=m at*;refine⟨by omega,by omega,by omega,by omega,by omega,by omega,by omega,by omega,λh=>G (FE z w (by omega) (by omega) A h),λh=>⟨by omega,by omega,by omega,by omega,by omega,by omega,λI=>F (FE w z (by omega) (by omega) A.symm I),λI=>⟨by omega,⟨by omega,by omega,?_⟩,by omega⟩⟩⟩;rw[show s.length - (i+1).toNat=m by omega,zz (show m<s.length by omega),zz (show m<t.length by omega),A,show bN s m 0=bN t m 0 by omega]
 simp_all[kX]
def ir (s t:List Int):Nat->Int
 |0=>0
 |i+1=>(bN s i 0+ir s t i+bN t i 0) / 4294967296
def qN (s t:List Int) (i:Nat):Int:=(bN s i 0+ir s t i+bN t i 0) % 4294967296
def nD (s t:List Int) (i:Nat):List Int:=(ω i).map (qN s t)++δ (s.length+1 - i) 0
def iA (a:List Int×List Int):List Int:=if a.1.length<a.2.length then a.2 else a.1
def kD (a:List Int×List Int):List Int:=if a.1.length<a.2.length then a.1 else a.2
def xR:M9:=⟨165,List Int×List Int,.cons (cL (.i .u32)) (.one (cL (.i .u32))),λa=>(ou a.1/\ou a.2)/\a.1.length<=100000000000/\a.2.length<=100000000000,λa=> .row (.i .u32) (bU (bX a.1+bX a.2))⟩
def Wo (a:List Int×List Int):Nat->bG
 |6=> .inv Int (λi=>⟨[(0,.row (.i .u32) (iA a)),(1,.row (.i .u32) (kD a)),(5,.ow 0 (nD (iA a) (kD a) i.toNat).length 1),(6,.si .u64 (ir (iA a) (kD a) i.toNat)),(21,.si .i64 (iA a).length),(22,.si .i64 i)],[.row (.i .u32) (nD (iA a) (kD a) i.toNat) 172 true]⟩) (λs=>iS s 22)
  (λi=>0<=i/\i<=(iA a).length) (λi=>((iA a).length - i).toNat) λ_ _=> .look
 |_=> .look
theorem dB {a:List Int} (h:ou a) (i:Nat):0<=bN a i 0/\bN a i 0<4294967296:=by
 by_cases b:i<a.length;·rw[b_ b];exact h _ (List.getElem_mem b)
 grind[bN]
theorem zy {a:List Int} {i:Nat} (h:a.length<=i):bN a i 0=0:=by grind[bN]
theorem FD {s t:List Int} (b:ou s) (a:ou t):∀i,0<=ir s t i/\ir s t i<=1
 |0=>by simp[ir];|i+1=>by
  have h:=FD b a i;have c:=dB b i;have d:=dB a i;grind[ir]
theorem vK {s t:List Int} {i:Nat} (h:i<=s.length):(nD s t i).length=s.length+1:=by grind[nD]
theorem FC {s t:List Int} {i:Nat} {v:Int} (h:i<=s.length):(nD s t i).set i v=(ω i).map (qN s t)++v::δ (s.length - i) 0:=by
 unfold nD;have a:s.length+1 - i=(s.length - i)+1:=by omega
 rw[a,List.replicate_succ];simp_all
theorem LZ {s t:List Int} {i:Nat} (h:i<s.length):nD s t (i+1)=(nD s t i).set i (qN s t i):=by
 rw[FC (by omega)];unfold nD;rw[εg,γa,List.append_assoc];simp_all
theorem kW {a:List Int} {i:Nat}:bX (a.take (i+1))=bX (a.take i)+4294967296^i*bN a i 0:=by
 by_cases h:i<a.length;·grind[zA,vO]
 ·rw[zy (by omega),γp (by omega),γp (by omega)];simp
theorem FB {s t:List Int}:∀i,bX ((ω i).map (qN s t))+4294967296^i*ir s t i=bX (s.take i)+bX (t.take i)
 |0=>by simp[ir,bX];|i+1=>by
  have a:=@FB s t i;rw[εg,γa,π,γr,vO,kW,kW,γT];grind[qN,ir]
theorem ub:Holds Tryz.prog xR:=by
 refine bI (L:=[pG]) xR Wo (by simpa using k_) ?_;rintro⟨a,b⟩ ⟨⟨ha,hb⟩,hla,hlb⟩;simp only at ha hb hla hlb;refine NH (let c:=(18446744073709551616:Int);let d:=(0:Int);let e:=(4294967296:Int);let f:=γf .i64;let g:=Ψ;let h:=iZ.row;let j:=γW;let m:=(↑(iA (a,b)).length:Int);let q:=(↑(iA (a,b)).length:Int);let r:=(↑(kD (a,b)).length:Int);let k:=ew.i .u32;let s:=g k (iA (a,b));let t:=g k (kD (a,b));let v:=f m;let z:=nD (iA (a,b)) (kD (a,b)) 0;let G:=∀(x:Int),let l:=nD (iA (a,b)) (kD (a,b)) x.toNat;let n:=l.length;let o:=x+(1:Int);let A:=nD (iA (a,b)) (kD (a,b)) o.toNat;let B:=f o;let C:=bN (iA (a,b)) x.toNat d;let w:=ir (iA (a,b)) (kD (a,b)) x.toNat;let y:=l.set q.toNat (w % e);let D:=λ(u u_1:Int) ↦let E:=(u % c+u_1) % c;d<=(32:Int)/\(32:Int)<=(64:Int)/\l.length=n/\d<=x/\x<(↑n:Int)/\l.length=n/\x.toNat<n/\VI .i64 o/\((s.bi s/\t.bi t/\(j 0 l.length 1).bi (j 0 A.length 1)/\(γf .u64 (E / e)).bi (γf .u64 (ir (iA (a,b)) (kD (a,b)) o.toNat))/\v.bi v/\B.bi B/\True)/\(h k (l.set x.toNat (E % e)) 172 true).bi (h k A 172 true)/\True)/\(d<=o/\o<=m)/\(m - o).toNat<(m - x).toNat;d<=x/\x<=m->(decide (x<m)=true->d<=x/\x<q/\x.toNat<(iA (a,b)).length/\(decide (x<r)=true->d<=x/\x<r/\x.toNat<(kD (a,b)).length/\D (C % c+w) (bN (kD (a,b)) x.toNat d % c))/\(decide (x<r)=false->D C w))/\(decide (x<m)=false->l.length=n/\d<=q/\q<(↑n:Int)/\l.length=n/\q.toNat<n/\l.length=y.length/\y.length<=1000000000000/\(g k (IL y)).bi (g k (bU (bX a+bX b))));let F:=λ(u:Bool) (u_1 u_2:List Int) ↦let p:=(↑u_1.length:Int)+(1:Int);decide ((↑a.length:Int)<(↑b.length:Int))=u->VI .i64 p/\d<=p/\p<=p/\p*(4:Int)<=(140737488355328:Int)/\p<=(1000000000000:Int)/\((((g k u_1).bi s/\(g k u_2).bi t/\(j 0 p.toNat 1).bi (j 0 z.length 1)/\(γv .u64 0).bi (γf .u64 (ir (iA (a,b)) (kD (a,b)) 0))/\(f (↑u_1.length:Int)).bi v/\(γv .i64 0).bi (f 0)/\True)/\(h k (d::δ u_1.length d) 172 true).bi (h k z 172 true)/\True)/\d<=d/\d<=m)/\G;F true b a/\F false a b) (by kernel_rfl) ?_;simp only[vcs];have hbs:(a.length<b.length/\iA (a,b)=b/\kD (a,b)=a)\/(¬a.length<b.length/\iA (a,b)=a/\kD (a,b)=b):=by
  by_cases h:a.length<b.length;·exact .inl ⟨h,if_pos h,if_pos h⟩
  ·exact .inr ⟨h,if_neg h,if_neg h⟩
 generalize iA (a,b)=s at*;generalize kD (a,b)=t at*;have hrow:∀{u v:List Int},u=v->(iZ.row (.i .u32) u 172 true).bi (iZ.row (.i .u32) v 172 true):=by rintro _ _ rfl;rfl
 have how:∀{u v:Nat},u=v->(γW 0 u 1).bi (γW 0 v 1):=by rintro _ _ rfl;rfl
 have r0:∀u v:List Int,nD u v 0=0::δ u.length 0:=λu v=>rfl;refine⟨λh=>?_,λh=>?_⟩
 ·obtain⟨h1,e1,e2⟩:a.length<b.length/\s=b/\t=a:=by
   rcases hbs with h2|h2;·exact h2
   ·exact absurd (by omega) h2.1
  subst e1 e2;have hS:ou s:=by assumption
  have hT:ou t:=by assumption
  have hts:t.length<=s.length:=by omega
  have bd:=FD hS hT;refine⟨⟨by omega,by omega⟩,by omega,by omega,by omega,by omega,⟨⟨⟨rfl,rfl,how (by rw[vK (by omega)];omega),rfl,rfl⟩,hrow (r0 s t).symm⟩,by omega,by omega⟩,?_⟩;rintro i ⟨i0,i1⟩;have l1:=@vK s t i.toNat (by omega);have b1:=bd i.toNat;have d1:=dB hS i.toNat;have d2:=dB hT i.toNat;refine⟨λilt=>?_,λige=>?_⟩
  ·have l2:=@vK s t (i.toNat+1) (by omega);have e:(i+1).toNat=i.toNat+1:=by omega
   have hst:=LZ (s:=s) (t:=t) (show i.toNat<s.length by omega);refine⟨i0,ilt,by omega,λht=>?_,λht=>?_⟩
   ·have hv:(((bN s i.toNat 0 % 18446744073709551616+ir s t i.toNat) % 18446744073709551616+bN t i.toNat 0 % 18446744073709551616) % 18446744073709551616)=bN s i.toNat 0+ir s t i.toNat+bN t i.toNat 0:=by omega
    rw[hv,e];exact⟨i0,ht,by omega,by omega,by omega,i0,by omega,by omega,by omega,⟨⟨how (by omega),rfl⟩,hrow hst.symm⟩,by omega,by omega⟩
   ·have hz:=zy (a:=t) (i:=i.toNat) (by omega);have hv:((bN s i.toNat 0 % 18446744073709551616+ir s t i.toNat) % 18446744073709551616)=bN s i.toNat 0+ir s t i.toNat+bN t i.toNat 0:=by omega
    rw[hv,e];exact⟨by omega,by omega,i0,by omega,by omega,by omega,⟨⟨how (by omega),rfl⟩,hrow hst.symm⟩,by omega,by omega⟩
  ·have hi:i.toNat=s.length:=by omega
   have hc:ir s t i.toNat % 4294967296=ir s t i.toNat:=by omega
   rw[hc,γm,hi];rw[hi] at l1 b1;refine⟨by omega,by omega,by omega,by simp,by simp;omega,?_⟩;rw[FC (ξ _),Nat.sub_self,ε4,oo ?_]
   ·rw[vO];have hv:=@FB s t s.length;rw[ψ,γp hts] at hv;have hl:((ω s.length).map (qN s t)).length=s.length:=by simp
    rw[hl,hv];try rw[ζH]
   ·intro d hd;rcases γi.1 hd with hd|hd
    ·obtain⟨j,_,rfl⟩:=Ω.1 hd;unfold qN;omega
    ·rw[δc] at hd;omega
 ·obtain⟨h1,e1,e2⟩:¬a.length<b.length/\s=a/\t=b:=by
   rcases hbs with h2|h2;·exact absurd h2.1 (by omega)
   ·exact h2
  subst e1 e2;have hS:ou s:=by assumption
  have hT:ou t:=by assumption
  have hts:t.length<=s.length:=by omega
  have bd:=FD hS hT;refine⟨⟨by omega,by omega⟩,by omega,by omega,by omega,by omega,⟨⟨⟨rfl,rfl,how (by rw[vK (by omega)];omega),rfl,rfl⟩,hrow (r0 s t).symm⟩,by omega,by omega⟩,?_⟩;rintro i ⟨i0,i1⟩;have l1:=@vK s t i.toNat (by omega);have b1:=bd i.toNat;have d1:=dB hS i.toNat;have d2:=dB hT i.toNat;refine⟨λilt=>?_,λige=>?_⟩
  ·have l2:=@vK s t (i.toNat+1) (by omega);have e:(i+1).toNat=i.toNat+1:=by omega
   have hst:=LZ (s:=s) (t:=t) (show i.toNat<s.length by omega);refine⟨i0,ilt,by omega,λht=>?_,λht=>?_⟩
   ·have hv:(((bN s i.toNat 0 % 18446744073709551616+ir s t i.toNat) % 18446744073709551616+bN t i.toNat 0 % 18446744073709551616) % 18446744073709551616)=bN s i.toNat 0+ir s t i.toNat+bN t i.toNat 0:=by omega
    rw[hv,e];exact⟨i0,ht,by omega,by omega,by omega,i0,by omega,by omega,by omega,⟨⟨how (by omega),rfl⟩,hrow hst.symm⟩,by omega,by omega⟩
   ·have hz:=zy (a:=t) (i:=i.toNat) (by omega);have hv:((bN s i.toNat 0 % 18446744073709551616+ir s t i.toNat) % 18446744073709551616)=bN s i.toNat 0+ir s t i.toNat+bN t i.toNat 0:=by omega
    rw[hv,e];exact⟨by omega,by omega,i0,by omega,by omega,by omega,⟨⟨how (by omega),rfl⟩,hrow hst.symm⟩,by omega,by omega⟩
  ·have hi:i.toNat=s.length:=by omega
   have hc:ir s t i.toNat % 4294967296=ir s t i.toNat:=by omega
   rw[hc,γm,hi];rw[hi] at l1 b1;refine⟨by omega,by omega,by omega,by simp,by simp;omega,?_⟩;rw[FC (ξ _),Nat.sub_self,ε4,oo ?_]
   ·rw[vO];have hv:=@FB s t s.length;rw[ψ,γp hts] at hv;have hl:((ω s.length).map (qN s t)).length=s.length:=by simp
    rw[hl,hv];try rw[ζH]
   ·intro d hd;rcases γi.1 hd with hd|hd
    ·obtain⟨j,_,rfl⟩:=Ω.1 hd;unfold qN;omega
    ·rw[δc] at hd;omega
def fW (d:Int):List Int->List Int×Int
 |[]=>([],0)
 |x::l=>(((fW d l).2*4294967296+x) / d::(fW d l).1,((fW d l).2*4294967296+x) % d)
theorem LY {d:Int}:∀{a:List Int},(fW d a).1.length=a.length
 |[]=>rfl
 |x::l=>by simp[fW,LY]
theorem zx {d:Int} (e:0<d) (k:d<4294967296):∀{a:List Int},ou a->ou (fW d a).1/\(0<=(fW d a).2/\(fW d a).2<d)/\bX (fW d a).1*d+(fW d a).2=bX a
 |[],_=>by grind[fW,bX];|x::l,h=>by
  obtain⟨n,g⟩:=iG.1 h;obtain⟨j,⟨p,s⟩,o⟩:=zx e k g;simp only[fW];generalize (fW d l).1=q at*;generalize (fW d l).2=r at*;have f:=δN (r*4294967296+x) (show d≠0 by omega);have i:=δq (r*4294967296+x) e;have c:0<=(r*4294967296+x) / d:=Int.ediv_nonneg (by omega) (by omega);have b:(r*4294967296+x) / d<4294967296:=by
   refine Int.ediv_lt_of_lt_mul e ?_;omega
  refine⟨iG.2 ⟨⟨c,b⟩,j⟩,⟨f,i⟩,?_⟩;simp only[bX];have m:=Int.mul_ediv_add_emod (r*4294967296+x) d;grind
theorem Wn {d:Int} (i:0<d) (h:d<4294967296) {a:List Int} (g:ou a):IL (fW d a).1=bU (bX a / d)/\(fW d a).2=bX a % d:=by
 obtain⟨e,⟨c,b⟩,f⟩:=zx i h g;rw[oo e];have j:=el e;have k:bX a / d=bX (fW d a).1:=by
  rw[<-f,ζH,Int.add_mul_ediv_right _ _ (by omega),εL c b,Int.zero_add]
 have l:bX a % d=(fW d a).2:=by
  rw[<-f,ζH,Int.add_mul_emod_self_right,δL c b]
 simp_all
theorem FA {r x:Int} (d:0<=r) (g:r<4294967296) (a:0<=x) (e:x<4294967296):gd.orI .u64 (r*4294967296) x=r*4294967296+x:=by
 obtain⟨m,rfl⟩:=δH d;obtain⟨k,rfl⟩:=δH a;have b:(γo 64 ((m:Int)*4294967296)).toNat=2^32*m:=by
  grind[BitVec.toNat_ofInt]
 have c:(γo 64 (k:Int)).toNat=k:=by
  grind
 have f:(γo 64 ((m:Int)*4294967296) |||γo 64 (k:Int)).toNat=2^32*m+k:=by
  rw[BitVec.toNat_or,b,c,Nat.two_pow_add_eq_or_of_lt (by omega)]
 show ed .u64 ((γo 64 ((m:Int)*4294967296) |||γo 64 (k:Int)).toNat:Nat)=_;grind[rm,IntKind.wrap,IntKind.bits,IntKind.signed]
def Fz:M9:=⟨186,List Int×Int,.cons (cL (.i .u32)) (.one (dX .u32)),λa=>ou a.1/\a.1.length<=100000000000/\0<a.2/\a.2<4294967296,λa=> .Gz [.row (.i .u32) (bU (bX a.1 / a.2)),.si .u32 (bX a.1 % a.2)]⟩
def kE (a:List Int) (d:Int) (i:Nat):List Int:=δ (a.length - i) 0++(fW d (a.drop (a.length - i))).1
def kj (a:List Int) (d:Int) (i:Nat):Int:=(fW d (a.drop (a.length - i))).2
def Wm (a:List Int×Int):Nat->bG
 |4=> .inv Int (λi=>⟨[(0,.row (.i .u32) a.1),(1,.si .u32 a.2),(6,.ow 0 (kE a.1 a.2 i.toNat).length 1),(7,.si .u64 (kj a.1 a.2 i.toNat)),(15,.si .i64 a.1.length),(16,.si .i64 i)],[.row (.i .u32) (kE a.1 a.2 i.toNat) 172 true]⟩) (λs=>iS s 16)
  (λi=>0<=i/\i<=a.1.length) (λi=>(a.1.length - i).toNat) λ_ _=> .look
 |_=> .look
theorem Fy {a:List Int} {d:Int} {i:Nat} (h:i<=a.length):(kE a d i).length=a.length:=by
 grind[kE,LY]
theorem drop_cons {a:List Int} {k:Nat} (h:k<a.length):a.drop k=bN a k 0::a.drop (k+1):=zz h
theorem LX {q:List Int} {y:Int}:∀k,(δ (k+1) 0++q).set k y=δ k 0++y::q
 |0=>by simp;|k+1=>by
  have:=@LX q y k;grind
theorem u64_in {n:Int} (b:0<=n) (a:n<18446744073709551616):VI .u64 n:=by
 show IntKind.u64.wrap n=n;grind[IntKind.wrap,IntKind.bits,IntKind.signed]
theorem IG:Holds Tryz.prog Fz:=by
 refine bI (L:=[pG]) Fz Wm (by simpa using k_) ?_;rintro⟨a,d⟩ ⟨ha,hla,d0,d1⟩;simp only at ha hla d0 d1;refine NH (let b:=(0:Int);let c:=(18446744073709551616:Int);let e:=(4294967296:Int);let f:=γf .i64;let g:=Ψ;let h:=iZ.row;let j:=VI .i64;let k:=(1:Int);let l:=γW;let n:=(↑a.length:Int);let o:=ew.i .u32;let q:=(↑a.length:Int);let t:=f q;let s:=d % c;b<=n/\n<=n/\n*(4:Int)<=(140737488355328:Int)/\n<=(1000000000000:Int)/\((((g o a).bi (g o a)/\(γf .u32 d).bi (γf .u32 d)/\(l 0 n.toNat 1).bi (l 0 (kE a d 0).length 1)/\(γv .u64 0).bi (γf .u64 (kj a d 0))/\(f n).bi t/\(γv .i64 0).bi (f 0)/\True)/\(h o (δ n.toNat b) 172 true).bi (h o (kE a d 0) 172 true)/\True)/\b<=b/\b<=q)/\∀(x:Int),let p:=n - k - x;let u:=gd.orI .u64 (kj a d x.toNat*e % c) (bN a p.toNat b % c);let m:=kE a d x.toNat;let r:=x+k;let v:=f r;b<=x/\x<=q->(decide (x<q)=true->j (n - k)/\j p/\b<=(32:Int)/\(32:Int)<=(64:Int)/\b<=p/\p<n/\p.toNat<a.length/\s≠b/\VI .u64 (u.tdiv s)/\s≠b/\m.length=m.length/\b<=p/\p<(↑m.length:Int)/\m.length=m.length/\p.toNat<m.length/\j r/\(((g o a).bi (g o a)/\(γf .u32 d).bi (γf .u32 d)/\(l 0 m.length 1).bi (l 0 (kE a d r.toNat).length 1)/\(γf .u64 (u.tmod s)).bi (γf .u64 (kj a d r.toNat))/\t.bi t/\v.bi v/\True)/\(h o (m.set p.toNat (u.tdiv s % e)) 172 true).bi (h o (kE a d r.toNat) 172 true)/\True)/\(b<=r/\r<=q)/\(q - r).toNat<(q - x).toNat)/\(decide (x<q)=false->m.length=m.length/\m.length<=1000000000000/\(SV.Gz [g o (IL m),γf .u32 (kj a d x.toNat % e)]).bi (SV.Gz [g o (bU (bX a / d)),γf .u32 (bX a % d)]))) (by kernel_rfl) ?_;simp only[vcs];have hrow:∀{u v:List Int},u=v->(iZ.row (.i .u32) u 172 true).bi (iZ.row (.i .u32) v 172 true):=by rintro _ _ rfl;rfl
 have how:∀{u v:Nat},u=v->(γW 0 u 1).bi (γW 0 v 1):=by rintro _ _ rfl;rfl
 have z1:kE a d 0=δ a.length 0:=by simp[kE,fW]
 have z2:kj a d 0=0:=by simp[kj,fW]
 refine⟨by omega,by omega,by omega,by omega,⟨⟨⟨how (by rw[Fy (by omega)];omega),z2.symm⟩,hrow (by rw[z1,γm])⟩,by omega,by omega⟩,?_⟩;rintro i ⟨i0,i1⟩;have l1:=@Fy a d i.toNat (by omega);have l2:=λh=>@Fy a d (i+1).toNat h;have dd:d % 18446744073709551616=d:=by omega
 refine⟨λilt=>?_,λige=>?_⟩
 ·have hx:((a.length:Int) - 1 - i).toNat=a.length - 1 - i.toNat:=by omega
  have hk1:a.length - i.toNat=a.length - 1 - i.toNat+1:=by omega
  have hk2:a.length - (i+1).toNat=a.length - 1 - i.toNat:=by omega
  have hR:kE a d i.toNat=δ (a.length - 1 - i.toNat+1) 0++(fW d (a.drop (a.length - 1 - i.toNat+1))).1:=by unfold kE;rw[hk1]
  have hC:kj a d i.toNat=(fW d (a.drop (a.length - 1 - i.toNat+1))).2:=by unfold kj;rw[hk1]
  have hR2:kE a d (i+1).toNat=δ (a.length - 1 - i.toNat) 0++(fW d (a.drop (a.length - 1 - i.toNat))).1:=by unfold kE;rw[hk2]
  have hC2:kj a d (i+1).toNat=(fW d (a.drop (a.length - 1 - i.toNat))).2:=by unfold kj;rw[hk2]
  have hlt:a.length - 1 - i.toNat<a.length:=by omega
  rw[hx];have l3:=l2 (by omega);generalize a.length - 1 - i.toNat=k at*;have hdr:=drop_cons hlt;have hdig:ou (a.drop k):=λz hz=>ha z (γV hz);obtain⟨q1,q2,q3⟩:=zx d0 d1 (a:=a.drop (k+1)) (λz hz=>ha z (γV hz));obtain⟨p1,p2,p3⟩:=zx d0 d1 hdig;rw[hdr] at hR2 hC2 p1 p2;simp only[fW] at hR2 hC2 p1 p2;have hxd:=dB ha k;rw[<-hC] at hR2 hC2 p1 p2 q2;have e1:kj a d i.toNat*4294967296 % 18446744073709551616=kj a d i.toNat*4294967296:=by omega
  have e2:bN a k 0 % 18446744073709551616=bN a k 0:=by omega
  rw[e1,e2,dd,FA (by omega) (by omega) hxd.1 hxd.2];have hv0:0<=kj a d i.toNat*4294967296+bN a k 0:=by omega
  rw[Int.tdiv_eq_ediv_of_nonneg hv0,Int.tmod_eq_emod_of_nonneg hv0];have hq:=(iG.1 p1).1;have hqm:(kj a d i.toNat*4294967296+bN a k 0) / d % 4294967296=(kj a d i.toNat*4294967296+bN a k 0) / d:=δL hq.1 hq.2;rw[hqm];refine⟨by omega,by omega,by omega,by omega,by omega,by omega,by omega,by omega,u64_in hq.1 (by omega),by omega,by omega,by omega,by omega,by omega,⟨⟨how (by omega),hC2.symm⟩,hrow ?_⟩,by omega,by omega⟩;rw[hR2,hR,LX]
 ·have hi:a.length - i.toNat=0:=by omega
  have hR:kE a d i.toNat=(fW d a).1:=by unfold kE;rw[hi];simp
  have hC:kj a d i.toNat=(fW d a).2:=by unfold kj;rw[hi];simp
  obtain⟨k1,k2⟩:=Wn d0 d1 ha;have hm:=δN (bX a) (show d≠0 by omega);have hl:=δq (bX a) d0;refine⟨by omega,by rw[hR,k1],?_⟩;rw[hC,k2];omega
def gk:Nat->Int->List Int
 |0,_=>[]
 |k+1,x=>x % 4294967296::gk k (x / 4294967296)
theorem xQ:∀{k:Nat} {x:Int},(gk k x).length=k
 |0,_=>rfl
 |k+1,x=>by simp[gk,xQ]
theorem F7:∀{k:Nat} {x:Int},ou (gk k x)
 |0,_=>by simp[gk,ou];|k+1,x=>iG.2 ⟨by omega,F7⟩
theorem LW:∀{l:List Int},ou l->gk l.length (bX l)=l
 |[],_=>rfl
 |d::l,h=>by
  obtain⟨e,b⟩:=iG.1 h;simp only[γG,gk,bX];have c:(d+4294967296*bX l) % 4294967296=d:=by omega
  have a:(d+4294967296*bX l) / 4294967296=bX l:=by omega
  rw[c,a,LW b]
theorem F6 {l:List Int} {k:Nat} {x:Int} (h:ou l) (b:l.length=k) (a:bX l=x):l=gk k x:=by
 grind[LW]
theorem pow_pos (k:Nat):(0:Int)<4294967296^k:=Int.pow_pos (by decide)
theorem F5:∀{k:Nat} {x:Int},0<=x->x<4294967296^k->bX (gk k x)=x
 |0,x,b,a=>by grind[gk,bX];|k+1,x,b,a=>by
  rw[γT] at a;simp only[gk,bX];rw[F5 (k:=k) (x:=x / 4294967296) (by omega) (by omega)];omega
theorem F4:∀{a b:List Int},bX (a++b)=bX a+4294967296^a.length*bX b
 |[],b=>by simp[bX];|d::l,b=>by
  simp only[γI,bX,F4,γG,γT,εy];grind
theorem rC:∀{l:List Int} {j:Nat} {v:Int},j<l.length->bX (l.set j v)=bX l+4294967296^j*(v - bN l j 0)
 |[],_,_,h=>by simp at h;|d::l,0,v,_=>by grind[bX,bN];|d::l,j+1,v,h=>by
  have a:=@rC l j v (by simpa using h);grind[bN,bX]
theorem lK {l:List Int} {j:Nat} {v:Int} (h:ou l) (c:0<=v) (b:v<4294967296):ou (l.set j v):=by
 intro d a;rcases List.mem_or_eq_of_mem_set a with a|rfl;·exact h d a
 omega
theorem xO {a:List Int} (h:ou a) (n:Nat):ou (a.drop n):=λd b=>h d (γV b)
theorem LV {a b:List Int} (e:ou a) (c:ou b):ou (a++b):=λd f=>by
 rcases γi.1 f with h|h;·exact e d h
 ·exact c d h
theorem qm {l:List Int} {j:Nat} {v:Int} (h:j<l.length):bN (l.set j v) j 0=v:=by
 grind[bN]
theorem nK {l:List Int} {i j:Nat} {v:Int} (h:i≠j):bN (l.set i v) j 0=bN l j 0:=by
 grind[bN]
theorem xN:∀{l:List Int} {i j:Nat},ou l->bX l<4294967296^i->i<=j->bN l j 0=0
 |[],_,_,_,_,_=>by simp[bN];|d::l,0,j,h,a,c=>by
  obtain⟨e,b⟩:=iG.1 h;have:=el b;simp only[bX,Int.pow_zero] at a;have f:d=0:=by omega
  have g:bX l=0:=by omega
  cases j with
  |zero=>simp[bN,f];|succ j=>
   have:=xN (l:=l) (i:=0) (j:=j) b (by simp;omega) (by omega);grind[bN]
 |d::l,i+1,j,h,a,c=>by
  obtain⟨e,b⟩:=iG.1 h;cases j with
  |zero=>omega;|succ j=>
   rw[γT] at a;simp only[bX] at a;have:=xN (l:=l) (i:=i) (j:=j) b (by omega) (by omega);grind[bN]
def gw (o b:List Int) (x:Int) (i:Nat):Nat->List Int×Int
 |0=>(o,0)
 |k+1=>((gw o b x i k).1.set (i+k) ((x*bN b k 0+bN (gw o b x i k).1 (i+k) 0+(gw o b x i k).2) % 4294967296),(x*bN b k 0+bN (gw o b x i k).1 (i+k) 0+(gw o b x i k).2) / 4294967296)
theorem LU {o b:List Int} {x:Int} {i:Nat} (d:ou o) (g:ou b) (f:0<=x) (m:x<4294967296):∀{k:Nat},i+k<=o.length->
  ou (gw o b x i k).1/\(gw o b x i k).1.length=o.length/\(0<=(gw o b x i k).2/\(gw o b x i k).2<4294967296)/\(∀j,i+k<=j->bN (gw o b x i k).1 j 0=bN o j 0)/\
  bX (gw o b x i k).1+4294967296^(i+k)*(gw o b x i k).2=bX o+4294967296^i*(x*bX (b.take k))
 |0,h=>by simp[gw,d,bX];|k+1,h=>by
  obtain⟨l,t,⟨v,s⟩,u,r⟩:=@LU o b x i d g f m k (by omega);simp only[gw];generalize (gw o b x i k).1=p at*;generalize (gw o b x i k).2=c at*;have a:=dB g k;have q:=dB l (i+k);have n:0<=x*bN b k 0:=γu f a.1;have e:x*bN b k 0<=4294967295*4294967295:=δI (by omega) (by omega) a.1 (by omega);grind[lK,rC,kW,bN]
def bM (U:List Int) (j k:Nat):List Int:=(U.drop j).take k
theorem LS {U:List Int} {j k:Nat}:bN (U.drop j) k 0=bN U (j+k) 0:=by
 grind[bN]
theorem kV {U:List Int} {j k:Nat}:bX (bM U j (k+1))=bX (bM U j k)+4294967296^k*bN U (j+k) 0:=by
 grind[bM,kW,LS]
theorem rB {U:List Int} {j k i:Nat} {d:Int} (h:k<=i):bM (U.set (j+i) d) j k=bM U j k:=by
 unfold bM;apply List.ext_getElem?;grind
theorem rA {U:List Int} (h:ou U) {j k:Nat}:ou (bM U j k):=lL (xO h j) k
theorem Wl {U:List Int} {j k:Nat} (h:j+k<=U.length):(bM U j k).length=k:=by
 grind[bM]
theorem sV {U:List Int} (h:ou U) {j k:Nat}:bX (bM U j k)<4294967296^k:=by
 have g:=mN (rA h (j:=j) (k:=k));have e:(bM U j k).length<=k:=by grind[bM]
 have i:(4294967296:Int)^(bM U j k).length<=4294967296^k:=by
  have d:∀{a b:Nat},a<=b->(4294967296:Int)^a<=4294967296^b:=λ{a b} c=>by
   obtain⟨m,rfl⟩:=Nat.exists_eq_add_of_le c;rw[Int.pow_add];have f:=pow_pos a;have l:=pow_pos m;have:=Ξ (show(1:Int)<=4294967296^m by omega) (γg f);omega
  exact d e
 omega
def iu (U:List Int) (j:Nat) (l:List Int):List Int:=U.take j++(l++U.drop (j+l.length))
theorem Wk {a b:List Int} (c:a.length=b.length) (h:∀m,bN a m 0=bN b m 0):a=b:=by
 apply List.ext_getElem c;intro m d e;have:=h m;grind[b_]
theorem LR {U l:List Int} {j:Nat} (h:j+l.length<=U.length):(iu U j l).length=U.length:=by
 grind[iu]
theorem WU {U l:List Int} {j m:Nat} (h:j+l.length<=U.length):bN (iu U j l) m 0=if m<j then bN U m 0 else if m<j+l.length then bN l (m - j) 0 else bN U m 0:=by
 unfold iu bN;grind
theorem vJ {U W:List Int} {j k:Nat} {x:Int} (d:ou W) (f:W.length=U.length) (g:j+k<=U.length) (e:∀m,(m<j\/j+k<=m)->bN W m 0=bN U m 0) (a:bX (bM W j k)=x):W=iu U j (gk k x):=by
 have b:bM W j k=gk k x:=F6 (rA d) (Wl (by omega)) a;have c:=@xQ k x;apply Wk;·grind[LR]
 ·intro m;rw[WU (by omega),c];split;·simp_all
  ·split
   ·rw[<-b];unfold bM;have:bN ((W.drop j).take k) (m - j) 0=bN (W.drop j) (m - j) 0:=by
     unfold bN;grind
    grind[LS]
   simp_all
section
variable {P V X v1 v2 u2 top rv ru g r:Int}
theorem WT (e:0<P) (n:V=rv+P*(v2+4294967296*v1)) (l:X=ru+P*(u2+4294967296*top)) (a:0<=rv) (f:ru<P) (d:X<4294967296*V) (b:0<=V)
  (c:0<=g) (j:g*v1+r=top) (h:4294967296<=g\/r*4294967296+u2<g*v2):X<g*V:=by
 rcases h with h|h;·exact Int.lt_of_lt_of_le d (γU h b)
 ·have k:g*V=g*rv+P*(g*v2+4294967296*(top - r)):=by
   grind
  have i:P*(u2+1+4294967296*top)<=P*(g*v2+4294967296*(top - r)):=Ξ (by omega) (γg e);have m:0<=g*rv:=γu c a;grind
theorem LQ (c:0<P) (k:V=rv+P*(v2+4294967296*v1)) (n:X=ru+P*(u2+4294967296*top)) (a:0<=rv) (b:rv<P) (f:0<=ru) (e:2147483648<=v1) (j:0<=v2)
  (i:0<=g) (d:g<4294967296) (o:g*v1+r=top) (h:g*v2<=r*4294967296+u2):g*V<X+V:=by
 have m:g*V=g*rv+P*(g*v2+4294967296*(top - r)):=by
  grind
 have q:P*(g*v2+4294967296*(top - r))<=P*(u2+4294967296*top):=Ξ (by omega) (γg c);have p:g*rv<=4294967295*rv:=γU (by omega) a;have l:P*4294967296<=P*(v2+4294967296*v1):=Ξ (by omega) (γg c);omega
theorem WS (c:0<P) (p:V=rv+P*(v2+4294967296*v1)) (k:X=ru+P*(u2+4294967296*top)) (b:0<=rv) (e:ru<P) (a:0<=v2) (f:u2<4294967296)
  (d:0<=g) (o:g*v1+r=top) (l:r<v1):X<(g+1)*V:=by
 have n:(g+1)*V=(g+1)*rv+((g+1)*(P*v2)+P*(4294967296*((g+1)*v1))):=by
  grind
 have j:0<=(g+1)*rv:=γu (by omega) b;have h:0<=(g+1)*(P*v2):=γu (by omega) (γu (γg c) a);have i:top+1<=(g+1)*v1:=by grind
 have m:P*(u2+1+4294967296*top)<=P*(4294967296*((g+1)*v1)):=Ξ (by omega) (γg c);grind
theorem WR {b a:Int} (c:0<P) (l:V=rv+P*(v2+4294967296*v1)) (k:X=ru+P*(u2+4294967296*(b+4294967296*a))) (d:rv<P) (f:0<=ru) (e:0<=u2) (i:0<=b) (j:v2<4294967296)
  (g:X<4294967296*V):a<=v1:=by
 by_cases h:a<=v1;·exact h
 ·exfalso;have m:P*(4294967296*(4294967296*(v1+1)))<=P*(u2+4294967296*(b+4294967296*a)):=Ξ (by omega) (γg c);have n:P*(v2+4294967296*v1)<=P*(4294967296*(v1+1) - 1):=Ξ (by omega) (γg c);grind
theorem sU {X V q:Int} (e:q*V<=X) (c:X<(q+1)*V):X / V=q/\X % V=X - q*V:=by
 rw[Int.add_mul,Int.one_mul] at c;have d:0<V:=by omega
 have b:X=(X - q*V)+V*q:=by grind
 have a:X / V=q:=by
  conv=>lhs;rw[b]
  rw[Int.add_mul_ediv_left _ _ (by omega),εL (by omega) (by omega),Int.zero_add]
 refine⟨a,?_⟩;rw[Int.emod_def,a,Int.mul_comm]
end
theorem F3 {p:Int} (a:0<=p) (e:p<18446744073709551616):gd.asY .u64 p 4294967295=p % 4294967296:=by
 obtain⟨m,rfl⟩:=δH a;have b:(γo 64 ((m:Nat):Int)).toNat=m:=by grind
 have c:(γo 64 4294967295).toNat=4294967295:=by simp_all
 have d:(γo 64 ((m:Nat):Int) &&&γo 64 4294967295).toNat=m % 4294967296:=by
  rw[BitVec.toNat_and,b,c];exact Nat.and_two_pow_sub_one_eq_mod m 32
 show ed .u64 ((γo 64 ((m:Nat):Int) &&&γo 64 4294967295).toNat:Nat)=_;grind[rm,IntKind.wrap,IntKind.bits]
theorem F2 {U W v:List Int} {j i:Nat} {g c b d e:Int} (n:ou W) (f:W.length=U.length) (o:ou v) (h:0<=g) (r:g<4294967296) (y:0<=c) (t:c<4294967296) (s:0<=b) (q:b<=1) (u:j+i<U.length)
  (l:∀m,(m<j\/j+i<=m)->bN W m 0=bN U m 0)
  (k:bX (bM W j i)=bX (bM U j i) - g*bX (v.take i)+4294967296^i*(c+b))
  (a:0<=d/\d<4294967296) (w:d - 4294967296*e=bN W (j+i) 0 - (g*bN v i 0+c) % 4294967296 - b):
  ou (W.set (j+i) d)/\(W.set (j+i) d).length=U.length/\(0<=(g*bN v i 0+c) / 4294967296/\(g*bN v i 0+c) / 4294967296<4294967296)/\
  (∀m,(m<j\/j+(i+1)<=m)->bN (W.set (j+i) d) m 0=bN U m 0)/\
  bX (bM (W.set (j+i) d) j (i+1))=bX (bM U j (i+1)) - g*bX (v.take (i+1))+4294967296^(i+1)*((g*bN v i 0+c) / 4294967296+e):=by
 have x:=dB o i;have z:0<=g*bN v i 0:=γu h x.1;have p:g*bN v i 0<=4294967295*4294967295:=δI (by omega) (by omega) x.1 (by omega);refine⟨lK n a.1 a.2,by simp[f],by omega,λm A=>by grind[nK],?_⟩;have B:=l (j+i) (.inr (ξ _));rw[kV,kV,rB (ξ _),qm (by omega),k,kW,γT];grind
theorem F1 {U W v:List Int} {j i:Nat} {c s:Int} (a:ou W) (d:W.length=U.length) (b:ou v) (n:0<=c) (l:c<=1) (h:j+i<U.length) (g:ou U)
  (e:∀m,(m<j\/j+i<=m)->bN W m 0=bN U m 0)
  (k:bX (bM W j i)+4294967296^i*c=bX (bM U j i)+bX (v.take i)) (o:s=bN W (j+i) 0+bN v i 0+c):
  ou (W.set (j+i) (s % 4294967296))/\(W.set (j+i) (s % 4294967296)).length=U.length/\(0<=s / 4294967296/\s / 4294967296<=1)/\
  (∀m,(m<j\/j+(i+1)<=m)->bN (W.set (j+i) (s % 4294967296)) m 0=bN U m 0)/\
  bX (bM (W.set (j+i) (s % 4294967296)) j (i+1))+4294967296^(i+1)*(s / 4294967296)=bX (bM U j (i+1))+bX (v.take (i+1)):=by
 have x:=dB b i;have y:=dB a (j+i);refine⟨lK a (by omega) (by omega),by simp[d],by omega,λm p=>by grind[nK],?_⟩;have f:=e (j+i) (.inr (ξ _));rw[kV,kV,rB (ξ _),qm (by omega),kW,γT];grind
theorem WQ {v:List Int} {n:Nat} (a:2<=n) (b:v.length=n):bX v=bX (v.take (n - 2))+4294967296^(n - 2)*(bN v (n - 2) 0+4294967296*bN v (n - 1) 0):=by
 obtain⟨m,rfl⟩:∃m,n=m+2:=⟨n - 2,by omega⟩;grind[kW]
theorem WO {U:List Int} {j n:Nat} (a:2<=n):bX (bM U j (n+1))=bX (bM U j (n - 2))+4294967296^(n - 2)*(bN U (j+(n - 2)) 0+4294967296*(bN U (j+(n - 1)) 0+4294967296*bN U (j+n) 0)):=by
 obtain⟨m,rfl⟩:∃m,n=m+2:=⟨n - 2,by omega⟩;grind[kV]
end Go.Vi
