import Derived.Test.YtbnhiekmnpikhaaGreatDW06
set_option maxRecDepth 100000
set_option maxHeartbeats 4000000
set_option linter.all false
open Bool renaming false_ne_true->ζs,and_eq_true->ζ,not_eq_true'->δf,eq_false_iff->δO,false_eq_true->ω
open Classical renaming not_not->γa
open Go.Vi.SV renaming si->γc,row->Ω,ptr->γM,il->γu,ow->γZ,sc->ζY,bl->δb,agg->γG,sb->γA,ia->θE
open Int renaming toNat_natCast->γg,toNat_of_nonneg->εJ,toNat->ζF
open IntCast renaming intCast->κ
open List renaming map_cons->ν,map_nil->γv,take->Ξ,take_length->φ,map->γd,length_take->γx,length_map->Φ,all_eq_true->τ,append_nil->γ1,map_append->γb,mem_map->Δ,replicate->δ,length_set->γm,set_set->ζr,filter_append->δV,length_filter_le->γT,mem_filter->Θ,length->γf,mem_cons_of_mem->γe,mem_cons_self->γs,nodup_append->γy,pairwise_append->δ1,mem_append->γo,length_drop->εE,pairwise_cons->γp,append_assoc->γV,cons_append->γL,filter_eq_nil_iff->δt,filter_eq_self->εb,all_append->ζ1,range->Γ,ext_getElem->γ7,count_pos_iff->δW,mem_range->γt,length_replicate->γD,getElem_of_mem->γJ,length_append->γF
open List.Perm renaming append_left->ζ2
open List.cons renaming injEq->χ
open Nat renaming le_refl->π,pow_le_pow_right->δs
open Option.some renaming injEq->γ
open Rat renaming sub_eq_add_neg->θg,add_zero->ζ3
namespace Go.Vi
open Go.Proofs.YtbnhiekmnpikhaaGreat.Ir
open Go.Proofs
def DH (f:FuncId) (j:ew->List Int->Prop) (e:ew->List Int->SV):cC where
 f:=f;α:=ew×Nat×List Int;put a:=[cI.put a.1,.ow 0 a.2.1 1];st a:=[.row (.i .i64) a.2.2 3 true];dec v o:=match v,o with
  |[p,.ow 0 n 1],[.row s l 3 true]=>match cI.dec p,gX s (.i .i64) l with
   |some p,some l=>some (p,n,l)
   |_,_=>none
  |_,_=>none;ok v o a h:=by
  split at h
  ·split at h
   next c d=>simp only[γ] at h;subst h;obtain⟨rfl,k⟩:=lU d;cases k;exact⟨by simp only[gL,cI.ok _ _ c],rfl⟩
   ·cases h
  ·cases h
 inj a b c d:=by obtain⟨p,n,l⟩:=a;obtain⟨m,q,r⟩:=b;simp only[gL,χ,and_true,SV.g,AV.os.injEq,true_and] at c;simp only[gO,ν,γv,iZ.g,χ,OL.cells.injEq,and_true] at d;rw[cI.inj p m c.1,nJ (s:=.i .i64) d,c.2.1]
 dom a:=a.2.1=a.2.2.length/\j a.1 a.2.2;res a:=e a.1 a.2.2;out a:=[.row (.i .i64) a.2.2 3 true]
theorem xC {L:List NG} {W:List cC} (c:cC) (Λ:c.α->Nat->bH) (i:∀c∈W,g' c) (e:∀c∈L,d' c)
  
  (h:∀a,c.dom a->Vc (BJ (mB L (fH W) oQ oR ix) (Λ a) (fG c.f) (c.put a) (c.st a) λv s=>v.bi (c.res a)/\jG s (c.out a))) (j:(ix c.f).isSome=true:=by kernel_rfl) (b:∀a,(c.put a).length=(fG c.f).params:=by intro _;kernel_rfl) (d:lS c.f W=none:=by kernel_rfl):g' c:=
 λa g=>UW c pX i e (yz j) b a d (h a g).out
noncomputable def DG:cC:=DH 135 (λp f=>nW p=0/\f.length=p.bj.length) λp f=>oa (κ (fX p f))
def UH (p:ew) (f:List Int):Nat->bH
 |3=> .inv Int (λi=>⟨[(2,.ptr 1 0 20),(4,.ptr 2 0 3),(5,.si .i64 (fX p (f.take i.toNat))),(8,.ow 0 f.length 1),(9,.si .i64 f.length),(10,.si .i64 i)],[.row (.i .i64) f 3 true,.cells p.ss 27 20 false,.cells [.bl false,.sc (.slice none 0 0),.sc (.slice none 0 0)] 177 3 false]⟩)
   (λs=>iS s 10) (λi=>0<=i/\i<=f.length) (λi=>(f.length - i).toNat) λ_ _=> .look
 |_=> .look
theorem zr:g' DG:=by
 refine xC (L:=[mR]) (W:=[]) DG (λa=>UH a.1 a.2.2) (by simp) (by simpa using n_) ?_;rintro⟨p,n,f⟩ ⟨C,⟨hc,D⟩⟩;simp only at C;subst C;simp only at hc D;refine NI (let a:=γc .i64;let b:=(0:Int);let c:=Ω;let j:=γM 1 0 20;let k:=γM 2 0 3;let t:=γu .i64 0;let l:=γZ 0 f.length 1;let d:=(↑f.length:Int);let m:=a d;let e:=iZ.row (cj.i .i64) f 3 true;let n:=iZ.cells (ew.ss p) 27 20 false;let v:=ζY (Value.slice none 0 0);let o:=iZ.cells [δb false,v,v] 177 3 false;let q:=cj.i .u32;let r:=nf (κ (fX p f));(((j.bi j/\k.bi k/\t.bi (a (fX p []))/\l.bi l/\m.bi m/\t.bi (a 0)/\True)/\e.bi e/\n.bi n/\o.bi o/\True)/\b<=b/\b<=d)/\∀(x:Int),let g:=x+(1:Int);let w:=a g;let y:=decide (bN f x.toNat b=(1:Int));let h:=fX p (Ξ x.toNat f);let z:=h+(bN p.bj x.toNat cj.bu.bw).value;let s:=nf (κ h);let A:=λ(u:Int) ↦TP .i64 g/\((j.bi j/\k.bi k/\(a u).bi (a (fX p (Ξ g.toNat f)))/\l.bi l/\m.bi m/\w.bi w/\True)/\e.bi e/\n.bi n/\o.bi o/\True)/\(b<=g/\g<=d)/\(d - g).toNat<(d - x).toNat;b<=x/\x<=d->(decide (x<d)=true->f.length=f.length/\b<=x/\x<(↑f.length:Int)/\f.length=f.length/\x.toNat<f.length/\(y=true->b<=x/\x<(↑p.bj.length:Int)/\x.toNat<p.bj.length/\TP .i64 z/\A z)/\(y=false->A h))/\(decide (x<d)=false->((-9223372036854775808:Int)<=h/\h<=(9223372036854775807:Int))/\(γG [γA s.1,c q s.2.1,c q s.2.2]).bi (γG [γA r.1,c q r.2.1,c q r.2.2])/\e.bi e/\True)) (by kernel_rfl) ?_;simp only[vcs];have E:=(cT hc).2.1;refine⟨⟨by simp[fX,Ao,bL,bE],by omega⟩,?_⟩;rintro i ⟨i0,i1⟩;have H:=@xH p hc f i.toNat D;refine⟨λhi=>?_,λhi=>?_⟩
 ·have B:=@La p f i i0 hi;have I:=jP hc (i:=i) ⟨i0,by omega⟩;have F:(bN p.bj i.toNat cj.bu.bw).value=(oI p i).value:=rfl;rw[F];refine⟨i0,hi,by omega,λh1=>?_,λh1=>?_⟩
  ·rw[if_pos h1] at B;refine⟨i0,?_,?_,?_,?_,?_,?_,?_⟩<;>omega
  ·rw[if_neg h1] at B;refine⟨?_,?_,?_,?_⟩<;>omega
 ·rw[show f.take i.toNat=f by rw[show i.toNat=f.length by omega,φ]] at H ⊢;exact⟨by omega,rfl⟩
noncomputable def DF:cC:=DH 132 (λp f=>(nW p=0/\f.length=p.bj.length)/\jg f=true) λp f=> .IL [.agg [.row sF (lL p f).1,.row sR (lL p f).2.1],.row (.i .i64) (lL p f).2.2,.si .i64 (if gF p f=true then 0 else 14)]
def Ls (p:ew) (f:List Int) (l:List Int) (m:List bA):VI:=[.row (.i .i64) f 3 true,.cells p.ss 27 20 false,.cells [.sc (.slice none 0 0),.sc (.slice none 0 0)] 217 2 false,.row (.i .i64) l 3 true,.row .bu m 65 true]
def Cp (p:ew) (f:List Int) (l:List Int) (m:List bA) (k0 k1:Nat) (a:List (List NH×NH)) (g:List NH):VI:=Ls p f l m++[.cells p.ss 87 20 false,.cells [.ow 8 k0 3,.ow 7 k1 4] 217 2 false,.row sR a 249 false,.row sF g 177 false]
def UG (p:ew) (f:List Int):Nat->bH
 |9=> .inv Int (λi=>⟨[(2,.ptr 1 0 20),(4,.ptr 2 0 2),(8,.ow 3 (Ao (f.take i.toNat) 0).length 1),(9,.ow 4 (Ao (f.take i.toNat) 1).length 8),(36,.ow 0 f.length 1),(37,.si .i64 f.length),(38,.si .i64 i)],Ls p f (Ao (f.take i.toNat) 0) ((Ao (f.take i.toNat) 1).map (oI p))⟩)
   (λs=>iS s 38) (λi=>0<=i/\i<=f.length) (λi=>(f.length - i).toNat) λ_ _=> .look
 |24=> .inv Int (λj=>⟨[(2,.ptr 1 0 20),(4,.ptr 2 0 2),(8,.ow 3 (Ao f 0).length 1),(9,.ow 4 (Ao f 1).length 8),(12,.ptr 5 0 20),(13,.ptr 6 0 2),(71,.ow 3 (Ao f 0).length 1),(72,.si .i64 (Ao f 0).length),(73,.si .i64 j)],Cp p f (Ao f 0) ((Ao f 1).map (oI p)) j.toNat 0 [] (lA p f j.toNat)⟩)
   (λs=>iS s 73) (λj=>0<=j/\j<=(Ao f 0).length) (λj=>((Ao f 0).length - j).toNat) λ_ _=> .look
 |29=> .inv Int (λr=>⟨[(2,.ptr 1 0 20),(4,.ptr 2 0 2),(8,.ow 3 (Ao f 0).length 1),(9,.ow 4 (Ao f 1).length 8),(12,.ptr 5 0 20),(13,.ptr 6 0 2),(91,.si .i64 (cr p)),(92,.si .i64 r)],Cp p f (Ao f 0) ((Ao f 1).map (oI p)) (Ao f 0).length r.toNat (mM p f r.toNat) (lA p f (Ao f 0).length)⟩)
   (λs=>iS s 92) (λr=>0<=r/\r<=cr p) (λr=>(cr p - r).toNat) λr k=>match k with
   |33=> .inv Int (λj=>⟨[(2,.ptr 1 0 20),(4,.ptr 2 0 2),(8,.ow 3 (Ao f 0).length 1),(9,.ow 4 (Ao f 1).length 8),(12,.ptr 5 0 20),(13,.ptr 6 0 2),(16,.si .i64 r),(17,.si .i64 (cB p r - bZ p (((Ao f 1).map (oI p)).take j.toNat) r)),(91,.si .i64 (cr p)),(92,.si .i64 r),(98,.ow 4 (Ao f 1).length 8),(99,.si .i64 (Ao f 1).length),(100,.si .i64 j)],Cp p f (Ao f 0) ((Ao f 1).map (oI p)) (Ao f 0).length r.toNat (mM p f r.toNat) (lA p f (Ao f 0).length)⟩)
     (λs=>iS s 100) (λj=>0<=j/\j<=(Ao f 1).length) (λj=>((Ao f 1).length - j).toNat) λ_ _=> .look
   |39=> .inv Int (λj=>⟨[(2,.ptr 1 0 20),(4,.ptr 2 0 2),(8,.ow 3 (Ao f 0).length 1),(9,.ow 4 (Ao f 1).length 8),(12,.ptr 5 0 20),(13,.ptr 6 0 2),(16,.si .i64 r),(20,.ptr 9 0 4),(91,.si .i64 (cr p)),(92,.si .i64 r),(114,.ow 3 (Ao f 0).length 1),(115,.si .i64 (Ao f 0).length),(116,.si .i64 j)],Cp p f (Ao f 0) ((Ao f 1).map (oI p)) (Ao f 0).length r.toNat (mM p f r.toNat) (lA p f (Ao f 0).length)++[.cells [.ow 10 j.toNat 3,.sb (nf ((cB p r - bZ p ((Ao f 1).map (oI p)) r:Int):Rat)).1,.row (.i .u32) (nf ((cB p r - bZ p ((Ao f 1).map (oI p)) r:Int):Rat)).2.1,.row (.i .u32) (nf ((cB p r - bZ p ((Ao f 1).map (oI p)) r:Int):Rat)).2.2] 249 4 false,.row sF (mh p f r j.toNat) 177 false]⟩)
     (λs=>iS s 116) (λj=>0<=j/\j<=(Ao f 0).length) (λj=>((Ao f 0).length - j).toNat) λ_ _=> .look
   |_=> .look
 |_=> .look
theorem zu:g' DF:=by
 refine xC (L:=[nz,mR,By,wt,wv,wu]) (W:=[]) DF (λa=>UG a.1 a.2.2) (by simp) (by simpa using⟨oT,n_,zn,ry,rr,rq⟩) ?_;rintro⟨p,n,f⟩ ⟨hn,⟨⟨hc,hl⟩,hr⟩⟩;simp only at hn;subst hn;simp only at hc hl hr;refine NI (let a:=γc .i64;let c:=(0:Int);let d:=iZ.row;let e:=iZ.cells;let g:=γZ;let h:=(-9223372036854775808:Int);let j:=Ω;let k:=(1:Int);let l:=(9223372036854775807:Int);let m:=TP .i64;let n:=γu .i64;let o:=γM;let q:=γG;let r:=SV.IL;let R:=ζY (Value.slice none 0 0);let L:=cj.i .i64;let ah:=r [q [j sF (lL p f).1,j sR (lL p f).2.1],j L (lL p f).2.2,a (if gF p f=true then c else(14:Int))];let s:=d L f 3 true;let I:=(↑f.length:Int);let ai:=p.bj.length;let ae:=(↑ai:Int);let t:=o 1 0 20;let v:=o 2 0 2;let Z:=g 0 f.length 1;let a6:=a I;let a7:=n 0;let aM:=[a p.bm.a0,a p.bm.a1,a p.bm.a2,a p.bm.a3,a p.bm.a4,a p.bm.a5,a p.bs.a0,a p.bs.a1,a p.bs.a2,a p.bs.a3,a p.bs.a4,a p.bs.a5,a p.bt.a0,a p.bt.a1,a p.bt.a2,a p.bt.a3,a p.bt.a4,a p.bt.a5,j L p.bk,j cj.bu p.bj];let w:=e aM 27 20 false;let y:=e [R,R] 217 2 false;let aN:=d cj.bu [] 65 true;let aj:=cj.bu.bw;let ay:=(↑p.bk.length:Int);let a8:=cj.i .u32;let a9:=cj.b.pair (a8.zi.pair a8.zi);let az:=a9.zi.pair a9;let H:=Ao f c;let N:=H.length;let z:=g 3 N 1;let z25:Nat:=(Ao f k).length;let A:=g 4 z25 8;let B:=o 5 0 20;let C:=o 6 0 2;let E:=(↑N:Int);let V:=a E;let F:=d L H 3 true;let P:=γd (oI p) (Ao f k);let G:=d cj.bu P 65 true;let D:=e aM 87 20 false;let af:=[g 7 0 4];let aO:=e (g 8 0 3::af) 217 2 false;let ak:=d sR [] 249 false;let aP:=d a9 [] 177 false;let J:=a (cr p);let al:=g 8 N 3;let aA:=lA p f N;let M:=d sF aA 177 false;let S:=(↑z25:Int);let am:=a S;let an:=o 9 0 4;let aQ:=g 10 0 3;let aR:=λ(u u_1:Int) (u_2:SV) ↦decide (u≠u_1)=true->(r [q [R,R],R,u_2]).bi ah/\s.bi s/\True;True/\aR (nW p) c (a (nW p))/\(decide (nW p≠c)=false->aR I ae (n 3)/\(decide (I≠ae)=false->(((t.bi t/\v.bi v/\(g 3 0 1).bi (g 3 (Ao [] c).length 1)/\(g 4 0 8).bi (g 4 (Ao [] k).length 8)/\Z.bi Z/\a6.bi a6/\a7.bi (a 0)/\True)/\s.bi s/\w.bi w/\y.bi y/\(d L [] 3 true).bi (d L (Ao [] c) 3 true)/\aN.bi aN/\True)/\c<=c/\c<=I)/\∀(x:Int),let ao:=Ao (Ξ x.toNat f) k;let aS:=g 4 ao.length 8;let O:=x+k;let ap:=Ξ O.toNat f;let aT:=g 4 (Ao ap k).length 8;let aq:=a O;let aU:=g 3 (Ao ap c).length 1;let aV:=d L (Ao ap c) 3 true;let Q:=γd (oI p) ao;let aW:=d cj.bu Q 65 true;let aX:=d cj.bu (γd (oI p) (Ao ap k)) 65 true;let aB:=bN f x.toNat c;let aY:=decide (aB=(-1:Int));let aa:=Ao (Ξ x.toNat f) c;let ar:=aa.length;let aC:=d L aa 3 true;let aZ:=decide (aB=c);let b0:=aa.length+1;let b1:=decide (aB=k);let b2:=Q.length+1;let aD:=g 3 ar 1;let b3:=Q++[bN p.bj x.toNat aj];let bh:=aS.bi aT/\Z.bi Z/\a6.bi a6/\aq.bi aq/\True;let b4:=λ(u:Nat) (u_1:iZ) ↦m O/\((t.bi t/\v.bi v/\(g 3 u 1).bi aU/\bh)/\s.bi s/\w.bi w/\y.bi y/\u_1.bi aV/\aW.bi aX/\True)/\(c<=O/\O<=I)/\(I - O).toNat<(I - x).toNat;c<=x/\x<=I->(decide (x<I)=true->f.length=f.length/\c<=x/\x<(↑f.length:Int)/\f.length=f.length/\x.toNat<f.length/\(aY=true->b4 ar aC)/\(aY=false->(aZ=true->ar=aa.length/\b0*8<=140737488355328/\b0<=1000000000000/\b4 (aa++[x]).length (d L (aa++[x]) 3 true))/\(aZ=false->(b1=true->c<=x/\x<ae/\x.toNat<ai/\ao.length=Q.length/\b2*64<=140737488355328/\b2<=1000000000000/\m O/\((t.bi t/\v.bi v/\aD.bi aU/\(g 4 b3.length 8).bi aT/\Z.bi Z/\a6.bi a6/\aq.bi aq/\True)/\s.bi s/\w.bi w/\y.bi y/\aC.bi aV/\(d cj.bu b3 65 true).bi aX/\True)/\(c<=O/\O<=I)/\(I - O).toNat<(I - x).toNat)/\(b1=false->(r [q [R,R],R,n 4]).bi ah/\s.bi s/\True))))/\(decide (x<I)=false->ao.length=Q.length/\(p.bk.length<=8/\Q.length<=1000/\∀(x:bA),x∈Q->c<=x.Gz/\x.Gz<ay/\x.bx.ok=true)/\((!fz p Q)=true->0=0/\0=0/\0=0/\(r [q [j a9 [],j az []],j L [],n 14]).bi ah/\s.bi s/\True)/\((!fz p Q)=false->(((t.bi t/\v.bi v/\aD.bi z/\aS.bi A/\B.bi B/\C.bi C/\aD.bi z/\(a (↑ar:Int)).bi V/\a7.bi (a 0)/\True)/\s.bi s/\w.bi w/\y.bi y/\aC.bi F/\aW.bi G/\D.bi D/\aO.bi aO/\(d az [] 249 false).bi ak/\aP.bi (d sF (lA p f 0) 177 false)/\True)/\c<=c/\c<=E)/\∀(x:Int),let au:=bN H x.toNat c;let aE:=(bN p.bj au.toNat aj).value;let av:=lA p f x.toNat;let b5:=av.length+1;let W:=x+k;let b6:=a W;let aF:=nf (κ aE);let b7:=av++[(aF.1,aF.2.1,aF.2.2)];c<=x/\x<=E->(decide (x<E)=true->N=H.length/\c<=x/\x<(↑H.length:Int)/\N=H.length/\x.toNat<H.length/\c<=au/\au<ae/\au.toNat<ai/\(h<=aE/\aE<=l)/\1=1/\x.toNat=av.length/\b5*56<=140737488355328/\b5<=1000000000000/\m W/\((t.bi t/\v.bi v/\z.bi z/\A.bi A/\B.bi B/\C.bi C/\z.bi z/\V.bi V/\b6.bi b6/\True)/\s.bi s/\w.bi w/\y.bi y/\F.bi F/\G.bi G/\D.bi D/\(e (g 8 b7.length 3::af) 217 2 false).bi (e (g 8 W.toNat 3::af) 217 2 false)/\ak.bi ak/\(d a9 b7 177 false).bi (d sF (lA p f W.toNat) 177 false)/\True)/\(c<=W/\W<=E)/\(E - W).toNat<(E - x).toNat)/\(decide (x<E)=false->p.bk.length<=8/\(((t.bi t/\v.bi v/\z.bi z/\A.bi A/\B.bi B/\C.bi C/\J.bi J/\a7.bi (a 0)/\True)/\s.bi s/\w.bi w/\y.bi y/\F.bi F/\G.bi G/\D.bi D/\(e (g 8 x.toNat 3::af) 217 2 false).bi (e (al::af) 217 2 false)/\ak.bi (d sR (mM p f 0) 249 false)/\(d sF av 177 false).bi M/\True)/\c<=c/\c<=cr p)/\∀(x:Int),let b8:=decide (x<cr p);let T:=e [al,g 7 x.toNat 4] 217 2 false;let ab:=mM p f x.toNat;let U:=d sR ab 249 false;let ac:=nf (κ (cB p x - bZ p P x));let aG:=[γA ac.1,j a8 ac.2.1,j a8 ac.2.2];let b9:=ab.length+1;let X:=x+k;let ba:=a X;c<=x/\x<=cr p->(b8=true->(p.bk.length<=8/\c<=x/\x<cr p)/\(((t.bi t/\v.bi v/\z.bi z/\A.bi A/\B.bi B/\C.bi C/\(a x).bi (a x)/\(a (cB p x)).bi (a (cB p x - bZ p [] x))/\J.bi J/\(a x).bi (a x)/\A.bi A/\am.bi am/\a7.bi (a 0)/\True)/\s.bi s/\w.bi w/\y.bi y/\F.bi F/\G.bi G/\D.bi D/\T.bi T/\U.bi U/\M.bi M/\True)/\c<=c/\c<=S)/\∀(x_1:Int),let aH:=bN P x_1.toNat aj;let aw:=cB p x - bZ p (Ξ x_1.toNat P) x;let bb:=aw - dE p x aH;let ad:=x_1+k;let K:=a x;let bc:=a ad;let aI:=nf (κ aw);c<=x_1/\x_1<=S->(decide (x_1<S)=true->z25=P.length/\c<=x_1/\x_1<(↑P.length:Int)/\z25=P.length/\x_1.toNat<P.length/\(p.bk.length<=8/\c<=x/\x<cr p/\c<=aH.Gz/\aH.Gz<ay)/\m bb/\m ad/\((t.bi t/\v.bi v/\z.bi z/\A.bi A/\B.bi B/\C.bi C/\K.bi K/\(a bb).bi (a (cB p x - bZ p (Ξ ad.toNat P) x))/\J.bi J/\K.bi K/\A.bi A/\am.bi am/\bc.bi bc/\True)/\s.bi s/\w.bi w/\y.bi y/\F.bi F/\G.bi G/\D.bi D/\T.bi T/\U.bi U/\M.bi M/\True)/\(c<=ad/\ad<=S)/\(S - ad).toNat<(S - x_1).toNat)/\(decide (x_1<S)=false->(h<=aw/\aw<=l)/\(((t.bi t/\v.bi v/\z.bi z/\A.bi A/\B.bi B/\C.bi C/\K.bi K/\an.bi an/\J.bi J/\K.bi K/\z.bi z/\V.bi V/\a7.bi (a 0)/\True)/\s.bi s/\w.bi w/\y.bi y/\F.bi F/\G.bi G/\D.bi D/\T.bi T/\U.bi U/\M.bi M/\(e [aQ,γA aI.1,j a8 aI.2.1,j a8 aI.2.2] 249 4 false).bi (e (aQ::aG) 249 4 false)/\aP.bi (d sF (mh p f x 0) 177 false)/\True)/\c<=c/\c<=E)/\∀(x_2:Int),let ax:=bN H x_2.toNat c;let aJ:=bN p.bj ax.toNat aj;let aK:=dE p x aJ;let ag:=mh p f x x_2.toNat;let bd:=ag.length+1;let Y:=x_2+k;let be:=a Y;let aL:=nf (κ aK);let bf:=ag++[(aL.1,aL.2.1,aL.2.2)];let bg:=ab++[(ag,ac.1,ac.2.1,ac.2.2)];c<=x_2/\x_2<=E->(decide (x_2<E)=true->N=H.length/\c<=x_2/\x_2<(↑H.length:Int)/\N=H.length/\x_2.toNat<H.length/\c<=ax/\ax<ae/\ax.toNat<ai/\(p.bk.length<=8/\c<=x/\x<cr p/\c<=aJ.Gz/\aJ.Gz<ay)/\(h<=aK/\aK<=l)/\1=1/\x_2.toNat=ag.length/\bd*56<=140737488355328/\bd<=1000000000000/\m Y/\((t.bi t/\v.bi v/\z.bi z/\A.bi A/\B.bi B/\C.bi C/\K.bi K/\an.bi an/\J.bi J/\K.bi K/\z.bi z/\V.bi V/\be.bi be/\True)/\s.bi s/\w.bi w/\y.bi y/\F.bi F/\G.bi G/\D.bi D/\T.bi T/\U.bi U/\M.bi M/\(e (g 10 bf.length 3::aG) 249 4 false).bi (e (g 10 Y.toNat 3::aG) 249 4 false)/\(d a9 bf 177 false).bi (d sF (mh p f x Y.toNat) 177 false)/\True)/\(c<=Y/\Y<=E)/\(E - Y).toNat<(E - x_2).toNat)/\(decide (x_2<E)=false->x_2.toNat=ag.length/\1=1/\x.toNat=ab.length/\b9*80<=140737488355328/\b9<=1000000000000/\m X/\((t.bi t/\v.bi v/\z.bi z/\A.bi A/\B.bi B/\C.bi C/\J.bi J/\ba.bi ba/\True)/\s.bi s/\w.bi w/\y.bi y/\F.bi F/\G.bi G/\D.bi D/\(e [al,g 7 bg.length 4] 217 2 false).bi (e [al,g 7 X.toNat 4] 217 2 false)/\(d az bg 249 false).bi (d sR (mM p f X.toNat) 249 false)/\M.bi M/\True)/\(c<=X/\X<=cr p)/\(cr p - X).toNat<(cr p - x).toNat)))/\(b8=false->N=aA.length/\x.toNat=ab.length/\N=H.length/\(r [q [j sF aA,j sR ab],j L H,a7]).bi ah/\s.bi s/\True))))))) (by kernel_rfl) ?_;simp only[vcs];obtain⟨g1,g2,g3,g4,g5⟩:=cT hc;have hoi:∀k:Nat,∀o:Int,o=k->(bN p.bj k cj.bu.bw)=oI p o:=λk o h=>by subst h;rfl
 have hw2:∀{a b:Nat},a=b->(γZ 3 a 1).bi (γZ 3 b 1):=by rintro _ _ rfl;rfl
 have hw3:∀{a b:Nat},a=b->(γZ 4 a 8).bi (γZ 4 b 8):=by rintro _ _ rfl;rfl
 have hrI:∀{x y:List Int},x=y->(iZ.row (.i .i64) x 3 true).bi (iZ.row (.i .i64) y 3 true):=by rintro _ _ rfl;rfl
 have hrO:∀{x y:List bA},x=y->(iZ.row .bu x 65 true).bi (iZ.row .bu y 65 true):=by rintro _ _ rfl;rfl
 refine⟨λh=>absurd hc h,λ_=>⟨λh=>absurd (by rw[hl]) h,λ_=>⟨⟨⟨⟨hw2 rfl,hw3 rfl⟩,hrI rfl⟩,by omega⟩,?_⟩⟩⟩;rintro i ⟨i0,i1⟩;have htl:(f.take i.toNat).length<=160:=by rw[γx];omega
 have hd0:=@rI (f.take i.toNat) 0;have hd1:=@rI (f.take i.toNat) 1;have hm1:(γd (oI p) (Ao (f.take i.toNat) 1)).length=(Ao (f.take i.toNat) 1).length:=Φ _;refine⟨λhi=>?_,λhi=>?_⟩
 ·have hs0:=@xI f 0 i i0 hi;have hs1:=@xI f 1 i i0 hi;have baK: -1<=bN f i.toNat 0/\bN f i.toNat 0<=1:=by have:=τ.1 hr _ (cy (d:=0) (show i.toNat<f.length by omega));simpa using this
  refine⟨i0,hi,by omega,λh1=>?_,λh1=>⟨λh2=>?_,λh2=>⟨λh3=>?_,λh3=>by omega⟩⟩⟩
  ·rw[if_neg (by omega),γ1] at hs0 hs1;rw[hs0,hs1];refine⟨?_,⟨⟨hw2 rfl,hw3 rfl⟩,hrI rfl,hrO rfl⟩,?_,?_⟩<;>omega
  ·rw[if_pos (by omega)] at hs0;rw[if_neg (by omega),γ1] at hs1;rw[hs0,hs1];refine⟨?_,?_,?_,⟨⟨hw2 rfl,hw3 rfl⟩,hrI rfl,hrO rfl⟩,?_,?_⟩<;>omega
  ·rw[if_neg (by omega),γ1] at hs0;rw[if_pos (by omega)] at hs1;rw[hs0,hs1,hoi i.toNat i (by omega),hm1];have e:γd (oI p) (Ao (f.take i.toNat) 1)++[oI p i]=γd (oI p) (Ao (f.take i.toNat) 1++[i]):=by rw[γb];rfl
   rw[e,Φ];refine⟨i0,?_,?_,rfl,?_,?_,?_,⟨⟨hw2 rfl,hw3 rfl⟩,hrI rfl,hrO rfl⟩,?_,?_⟩<;>omega
 ·have htk:f.take i.toNat=f:=by rw[show i.toNat=f.length by omega,φ]
  rw[htk] at hd0 hd1 hm1 ⊢;have hdl:∀d,(Ao f d).length<=160:=λd=>by have:=@rI f d;omega
  refine⟨hm1.symm,⟨g1,by omega,λx hx=>?_⟩,λhb=>?_,λhb=>?_⟩
  ·obtain⟨k,hk,rfl⟩:=Δ.1 hx;have h1:=(kf.1 hk).1;have:=jP hc (i:=k) (by omega);exact⟨this.1,this.2.1,this.2.2.1⟩
  ·have hb2:gF p f=false:=hb;unfold lL;simp only[hb2];exact⟨rfl,rfl,rfl⟩
  ·have hb2:gF p f=true:=hb;have hG:lL p f=((gT (je p f)).1,((gT (je p f)).2,Ao f 0)):=by unfold lL;rw[if_pos hb2]
   simp only[hb2,if_true,hG];have hfx:ec p f:=⟨hc,hl,hb⟩;have hrS:∀{x y:List NH},x=y->(iZ.row sF x 177 false).bi (iZ.row sF y 177 false):=by rintro _ _ rfl;rfl
   have hrR:∀{x y:List (List NH×NH)},x=y->(iZ.row sR x 249 false).bi (iZ.row sR y 249 false):=by rintro _ _ rfl;rfl
   have hc5:∀{a b c d:Nat},a=b->c=d->(iZ.cells [.ow 8 a 3,.ow 7 c 4] 217 2 false).bi (iZ.cells [.ow 8 b 3,.ow 7 d 4] 217 2 false):=by rintro _ _ _ _ rfl rfl;rfl
   have hc8:∀{a b:Nat} {q q':Rat},a=b->q=q'->(iZ.cells [.ow 10 a 3,.sb (nf q).1,.row (.i .u32) (nf q).2.1,.row (.i .u32) (nf q).2.2] 249 4 false).bi (iZ.cells [.ow 10 b 3,.sb (nf q').1,.row (.i .u32) (nf q').2.1,.row (.i .u32) (nf q').2.2] 249 4 false):=by rintro _ _ _ _ rfl rfl;rfl
   have hn0:=hdl 0;have hn1:=hdl 1;have hfree:∀j:Int,0<=j->j<(Ao f 0).length->(0<=bN (Ao f 0) j.toNat 0/\bN (Ao f 0) j.toNat 0<p.bj.length):=λj h0 h1=>by have:=(kf.1 (cy (d:=0) (show j.toNat<(Ao f 0).length by omega))).1;omega
   refine⟨⟨⟨⟨hw2 rfl,hw3 rfl,hw2 rfl,trivial⟩,hrI rfl,hrO rfl,hrS rfl⟩,by omega⟩,?_⟩;rintro j ⟨j0,j1⟩;have hgl:=@Fv p f j.toNat (by omega);refine⟨λhj=>?_,λhj=>?_⟩
   ·have hk:=hfree j j0 hj;have ho:=jP hc hk;have hs:=@VO p f j j0 hj;have aWV:=@Fv p f (j+1).toNat (by omega);rw[hoi _ (bN (Ao f 0) j.toNat 0) (by omega)];simp only[jt];have e:lA p f j.toNat++[nf (κ (oI p (bN (Ao f 0) j.toNat 0)).value)]=lA p f (j+1).toNat:=hs.symm;rw[e];refine⟨j0,hj,?_,hk.1,hk.2,?_,?_,?_,?_,?_,?_,⟨hc5 aWV rfl,hrS rfl⟩,?_,?_⟩<;>omega
   ·rw[show j.toNat=(Ao f 0).length by omega];have hnr:cr p=p.bk.length+12:=rfl;refine⟨g1,⟨⟨hc5 rfl rfl,hrR rfl,hrS rfl⟩,by omega⟩,?_⟩;rintro r ⟨r0,r1⟩;have hrl:=@K7 p f r.toNat;refine⟨λhr2=>⟨⟨g1,r0,hr2⟩,⟨by simp[bZ],by omega⟩,?_⟩,λhr2=>?_⟩
    ·rintro k ⟨k0,k1⟩;have hok:∀x∈(γd (oI p) (Ao f 1)).take k.toNat,x.bx.ok=true:=λx hx=>(AC hfx x (List.mem_of_mem_take hx)).2.2.1;have hsb:=@qO p r ((γd (oI p) (Ao f 1)).take k.toNat) hok;have aWW:((γd (oI p) (Ao f 1)).take k.toNat).length<=160:=by rw[γx];omega
     have hbb:=@xl p hc r;refine⟨λhk=>?_,λhk=>?_⟩
     ·have hx:=AC hfx _ (cy (d:=cj.bu.bw) (show k.toNat<(γd (oI p) (Ao f 1)).length by omega));have hst:=@GY p r (γd (oI p) (Ao f 1)) k cj.bu.bw k0 (by omega);have hcb:=@oF p r _ hx.2.2.1;refine⟨?_,k0,?_,?_,?_,⟨g1,r0,hr2,hx.1,hx.2.1⟩,?_,?_,?_,?_,?_⟩<;>omega
     ·have e:(γd (oI p) (Ao f 1)).take k.toNat=γd (oI p) (Ao f 1):=List.take_of_length_le (by omega);rw[e] at hsb aWW ⊢;refine⟨by omega,⟨⟨hc8 rfl rfl,hrS rfl⟩,by omega⟩,?_⟩;rintro l ⟨l0,l1⟩;have hcl:=@K8 p f r l.toNat (by omega);refine⟨λhl2=>?_,λhl2=>?_⟩
      ·have hk:=hfree l l0 hl2;have ho:=jP hc hk;have hs:=@VN p f r l l0 hl2;have aWX:=@K8 p f r (l+1).toNat (by omega);have hcb:=@oF p r _ ho.2.2.1;rw[hoi _ (bN (Ao f 0) l.toNat 0) (by omega)];simp only[jt];have e:mh p f r l.toNat++[nf (κ (dE p r (oI p (bN (Ao f 0) l.toNat 0))))]=mh p f r (l+1).toNat:=hs.symm;rw[e];refine⟨l0,hl2,?_,hk.1,hk.2,?_,⟨g1,r0,hr2,ho.1,ho.2.1⟩,?_,?_,?_,?_,?_,⟨hc8 aWX rfl,hrS rfl⟩,?_,?_⟩<;>omega
      ·rw[show l.toNat=(Ao f 0).length by omega] at hcl ⊢;have hs:=@UE p f r r0;have hrl2:=@K7 p f (r+1).toNat;simp only[jt];have e:mM p f r.toNat++[(mh p f r (Ao f 0).length,nf (κ (cB p r - bZ p (γd (oI p) (Ao f 1)) r)))]=mM p f (r+1).toNat:=hs.symm;rw[e];refine⟨hcl.symm,hrl.symm,?_,?_,?_,⟨hc5 rfl hrl2,hrR rfl⟩,?_,?_⟩<;>omega
    ·have e:r.toNat=mF p:=by show r.toNat=p.bk.length+12;omega
     rw[e] at hrl ⊢;rw[K_,K9];refine⟨?_,hrl.symm.trans (by rw[K9]),rfl,trivial,trivial⟩;rw[<-K_];exact(Fv (π _)).symm
noncomputable def DE:cC:=DH 100 (λp f=>f.length<=1000000000000) λp f=> .IL [Uy p f,.si .i64 (iD p f)]
noncomputable def Lr (p:ew) (f:List Int) (x:List NH):VI:=
 [.row (.i .i64) f 3 true,.cells p.ss 27 20 false,.cells [.bl false,.bl false,.sc (.slice none 0 0),.sc (.slice none 0 0),.sc (.slice none 0 0),.sc (.slice none 0 0)] 179 6 false,.cells [.row sF (lL p f).1,.row sR (lL p f).2.1] 217 2 false,
  .cells [.si .i64 1,.sb (nf (cE p f).value).1,.row (.i .u32) (nf (cE p f).value).2.1,.row (.i .u32) (nf (cE p f).value).2.2,.row sF (fL (fE (cE p f) (nF f) (mF p))),.row sF (fL (gS p f)),.row sF []] 221 7 false,.row sF x 177 true]
noncomputable def UF (p:ew) (f:List Int):Nat->bH
 |12=> .inv Int (λi=>⟨[(1,.ow 0 f.length 1),(2,.ptr 1 0 20),(4,.ptr 2 0 6),(8,.row (.i .i64) (Ao f 0)),(10,.ptr 4 0 7),(11,.ow 5 f.length 3),(45,.ow 0 f.length 1),(46,.si .i64 f.length),(47,.si .i64 i)],Lr p f (dZ (fL (js p f 0)) i.toNat (false,([],[])))⟩)
   (λs=>iS s 47) (λi=>0<=i/\i<=f.length) (λi=>(f.length - i).toNat) λ_ _=> .look
 |19=> .inv Int (λk=>⟨[(1,.ow 0 f.length 1),(2,.ptr 1 0 20),(4,.ptr 2 0 6),(10,.ptr 4 0 7),(11,.ow 5 f.length 3),(63,.row (.i .i64) (Ao f 0)),(64,.si .i64 (Ao f 0).length),(65,.si .i64 k)],Lr p f (fL (js p f k.toNat))⟩)
   (λs=>iS s 65) (λk=>0<=k/\k<=(Ao f 0).length) (λk=>((Ao f 0).length - k).toNat) λ_ _=> .look
 |_=> .look
theorem zw:g' DE:=by
 refine xC (L:=[BX,Fw,mR,tJ]) (W:=[DF,DG]) DE (λa=>UF a.1 a.2.2) (by simpa using⟨zu,zr⟩) (by simpa using⟨zf,Jd,n_,pI⟩) ?_;rintro⟨p,n,f⟩ ⟨hn,hl:f.length<=1000000000000⟩;simp only at hn;subst hn;refine NI (let c:=γc .i64;let d:=(0:Int);let e:=Ω;let g:=iZ.row;let h:=(-9223372036854775808:Int);let j:=(9223372036854775807:Int);let k:=iZ.cells;let l:=(1:Int);let m:=γA;let n:=SV.IL;let o:=γM;let q:=γG;let Q:=δb false;let v:=cj.i .u32;let a6:=cj.b.pair (v.zi.pair v.zi);let ah:=q [Q,Q,e v [],e v [],e a6 [],e a6 []];let ai:=[c (iD p f)];let a7:=n (q [m (jn p f),m (kq p f).1,e v (kq p f).2.1,e v (kq p f).2.2,e sF (qL p f),e sF (kp p f)]::ai);let R:=cj.i .i64;let t:=g R f 3 true;let aj:=decide (iD p f≠d);let ak:=decide ((if gF p f=true then d else(14:Int))≠d);let S:=γu .i64 0;let T:=(lL p f).1;let a8:=(lL p f).2.1;let a9:=c 0;let s:=(↑f.length:Int);let w:=γZ 0 f.length 1;let y:=o 1 0 20;let z:=o 2 0 6;let J:=Ao f d;let G:=e R J;let A:=o 4 0 7;let H:=γZ 5 f.length 3;let U:=c s;let B:=k [c p.bm.a0,c p.bm.a1,c p.bm.a2,c p.bm.a3,c p.bm.a4,c p.bm.a5,c p.bs.a0,c p.bs.a1,c p.bs.a2,c p.bs.a3,c p.bs.a4,c p.bs.a5,c p.bt.a0,c p.bt.a1,c p.bt.a2,c p.bt.a3,c p.bt.a4,c p.bt.a5,e R p.bk,e cj.bu p.bj] 27 20 false;let V:=ζY (Value.slice none 0 0);let C:=k [Q,Q,V,V,V,V] 179 6 false;let D:=k [e sF T,e sR a8] 217 2 false;let al:=c 1;let aa:=γd (λ(r:List NH×NH) ↦(vL r.1,TM r.2)) a8;let P:=l9 (vL T,aa);let z31:Nat:=(vL T).length;let K:=nf (cE p f).value;let W:=fL (fE (cE p f) (nF f) (mF p));let am:=e sF (fL (gS p f));let I:=k [al,m K.1,e v K.2.1,e v K.2.2,e sF W,am,e sF []] 221 7 false;let X:=(false,[],[]);let Y:=fL (js p f 0);let ab:=nf (κ d);let ac:=nf (κ l);let E:=(↑J.length:Int);let ad:=c E;let ae:=nf (κ (fX p f));let an:=(ae.1,ae.2.1,ae.2.2);let ao:=(K.1,K.2.1,K.2.2);let af:=nf (TM an+TM ao);let ap:=λ(u:Bool) (u_1:SV) ↦u=true->0=0/\0=0/\0=0/\0=0/\(n [ah,u_1]).bi a7/\t.bi t/\True;f.length=f.length/\f.length<=1000000000000/\(aj=true->0=0/\0=0/\0=0/\0=0/\(n (ah::ai)).bi a7/\t.bi t/\True)/\(aj=false->(f.length=f.length/\(nW p=d/\f.length=p.bj.length)/\jg f=true)/\ap ak S/\(ak=false->(∃(a:Lp),(T,a8)=gT a/\xJ a)/\ap false a9/\(false=false->d<=s/\s<=s/\s*(56:Int)<=(140737488355328:Int)/\s<=(1000000000000:Int)/\(((w.bi w/\y.bi y/\z.bi z/\(e R (lL p f).2.2).bi G/\A.bi A/\(γZ 5 s.toNat 3).bi H/\w.bi w/\U.bi U/\S.bi a9/\True)/\t.bi t/\B.bi B/\C.bi C/\D.bi D/\(k [al,m (nf P.value).1,e v (nf P.value).2.1,e v (nf P.value).2.2,e sF (fL (fE P z31 aa.length)),e sF (fL (iL P z31 aa.length z31)),e sF []] 221 7 false).bi I/\(g a6 (δ s.toNat X) 177 true).bi (g sF (dZ Y 0 X) 177 true)/\True)/\d<=d/\d<=s)/\∀(x:Int),let L:=x+l;let aq:=c L;let M:=dZ Y x.toNat X;let ar:=decide (bN f x.toNat d=l);let N:=M.set x.toNat (ab.1,ab.2.1,ab.2.2);let au:=λ(u:List (Bool×List Int×List Int)) ↦TP .i64 L/\((w.bi w/\y.bi y/\z.bi z/\G.bi G/\A.bi A/\H.bi H/\w.bi w/\U.bi U/\aq.bi aq/\True)/\t.bi t/\B.bi B/\C.bi C/\D.bi D/\I.bi I/\(g sF u 177 true).bi (g sF (dZ Y L.toNat X) 177 true)/\True)/\(d<=L/\L<=s)/\(s - L).toNat<(s - x).toNat;d<=x/\x<=s->(decide (x<s)=true->f.length=f.length/\d<=x/\x<(↑f.length:Int)/\f.length=f.length/\x.toNat<f.length/\(h<=d/\d<=j)/\f.length=M.length/\d<=x/\x<(↑M.length:Int)/\f.length=M.length/\x.toNat<M.length/\(ar=true->(h<=l/\l<=j)/\f.length=N.length/\d<=x/\x<(↑N.length:Int)/\f.length=N.length/\x.toNat<N.length/\au (N.set x.toNat (ac.1,ac.2.1,ac.2.2)))/\(ar=false->au N))/\(decide (x<s)=false->(((w.bi w/\y.bi y/\z.bi z/\A.bi A/\H.bi H/\G.bi G/\(c (↑J.length:Int)).bi ad/\S.bi a9/\True)/\t.bi t/\B.bi B/\C.bi C/\D.bi D/\I.bi I/\(g sF M 177 true).bi (g sF Y 177 true)/\True)/\d<=d/\d<=E)/\∀(x:Int),let F:=fL (js p f x.toNat);let Z:=bN J x.toNat d;let O:=x+l;let av:=c O;let ag:=bN W x.toNat sF.bw;d<=x/\x<=E->(decide (x<E)=true->d<=x/\x<(↑J.length:Int)/\x.toNat<J.length/\d<=x/\x<(↑W.length:Int)/\x.toNat<W.length/\f.length=F.length/\d<=Z/\Z<(↑F.length:Int)/\f.length=F.length/\Z.toNat<F.length/\TP .i64 O/\((w.bi w/\y.bi y/\z.bi z/\A.bi A/\H.bi H/\G.bi G/\ad.bi ad/\av.bi av/\True)/\t.bi t/\B.bi B/\C.bi C/\D.bi D/\I.bi I/\(g sF (F.set Z.toNat (ag.1,ag.2.1,ag.2.2)) 177 true).bi (g sF (fL (js p f O.toNat)) 177 true)/\True)/\(d<=O/\O<=E)/\(E - O).toNat<(E - x).toNat)/\(decide (x<E)=false->(f.length=f.length/\nW p=d/\f.length=p.bj.length)/\(bP an/\bP ao)/\f.length=F.length/\f.length=F.length/\(n [q [δb true,m af.1,e v af.2.1,e v af.2.2,am,e sF F],S]).bi a7/\t.bi t/\True)))))) (by kernel_rfl) ?_;simp only[vcs];have hz:jn p f=false->(γG [δb false,δb false,Ω (cj.i IntKind.i64) [],Ω (cj.i IntKind.i64) [],Ω (cj.i IntKind.i64) [],Ω (cj.i IntKind.i64) []]).bi
   (γG [γA (jn p f),γA (kq p f).1,Ω (cj.i IntKind.u32) (kq p f).2.1,Ω (cj.i IntKind.u32) (kq p f).2.2,Ω sF (qL p f),Ω sF (kp p f)]):=λh=>by unfold kq qL kp;simp only[h];rfl
 refine⟨hl,λh=>hz (by unfold jn;rw[decide_eq_false h];rfl),λh=>?_⟩;have hx0:iD p f=0:=γa.1 h;have hcl:nW p=0/\f.length=p.bj.length/\jg f=true:=by
  unfold iD at hx0;split at hx0;·rename_i h1;exact absurd hx0 h1
  ·rename_i h1;split at hx0;·cases hx0
   ·rename_i h2;split at hx0;·rename_i h3;exact⟨γa.1 h1,γa.1 h2,h3⟩
    ·cases hx0
 obtain⟨hc,hln,hr⟩:=hcl;refine⟨⟨⟨hc,hln⟩,hr⟩,λh1=>⟨hz ?_,hx0.symm⟩,λh1=>?_⟩
 ·have hb:gF p f=false:=by
   cases hb:gF p f with
   |false=>rfl;|true=>rw[hb] at h1;exact absurd rfl h1
  unfold jn;rw[hb,Bool.and_false]
 ·have hb:gF p f=true:=by
   cases hb:gF p f with
   |true=>rfl;|false=>rw[hb] at h1;exact absurd (by simp) h1
  have hfx:ec p f:=⟨hc,hln,hb⟩;have hG:lL p f=((gT (je p f)).1,((gT (je p f)).2,Ao f 0)):=by unfold lL;rw[if_pos hb]
  have hok:jn p f=true:=by unfold jn;rw[hb,decide_eq_true hx0];rfl
  have h0:(κ 0:Rat)=0:=rfl;have h1':(κ 1:Rat)=1:=rfl;simp only[hG,Ld,Lc,h0,h1',jt];have e1:(je p f).1.length=nF f:=by show((Ao f 0).map _).length=_;rw[Φ]
  have e2:(je p f).2.length=mF p:=by show((bL (mF p)).map _).length=_;rw[Φ,fj]
  have aE1:((je p f).1,(je p f).2)=je p f:=rfl;simp only[aE1,UC,e1,e2];have hrT:∀{x y:List NH},x=y->(iZ.row sF x 177 true).bi (iZ.row sF y 177 true):=by rintro _ _ rfl;rfl
  have hs0:=@vG p f 0;have hf0:=@ff (js p f 0);have hpt:=@B1 (cE p f) (nF f) (mF p);have hfp:=@ff (fE (cE p f) (nF f) (mF p));have hcast:∀k:Nat,((k:Nat):Int).toNat=k:=λk=>γg k;have hnf:nF f=(Ao f 0).length:=rfl;have hdl0:=@rI f 0;refine⟨⟨je p f,rfl,UD hfx⟩,λh=>(by cases h),λ_=>⟨by omega,by omega,by omega,by omega,⟨⟨⟨trivial,by rw[hcast];rfl⟩,rfl,hrT (by rw[vM,hf0,hs0,hcast])⟩,by omega⟩,?_⟩⟩;rintro i ⟨i0,i1⟩;have hru:=@uR (fL (js p f 0)) i.toNat (false,([],[])) (by omega);refine⟨λhi=>?_,λhi=>?_⟩
  ·have hv:bN (fL (js p f 0)) i.toNat (false,([],[]))=nf (if bN f i.toNat 0=1 then 1 else 0):=by rw[iR (by omega),Uz (by omega)]
   have hset:∀x:NH,x=nf (if bN f i.toNat 0=1 then 1 else 0)->(dZ (fL (js p f 0)) i.toNat (false,([],[]))).set i.toNat x=dZ (fL (js p f 0)) (i+1).toNat (false,([],[])):=λx hx=>by have:=vJ (d:=fL (js p f 0)) (j:=i.toNat) (z:=(false,([],[]))) (x:=x) (by omega) (hx.trans hv.symm);rw[show(i+1).toNat=i.toNat+1 by omega];exact this
   rw[γm];refine⟨i0,hi,by omega,by omega,by omega,i0,by omega,by omega,by omega,λh1=>⟨by omega,by omega,i0,by omega,by omega,by omega,by omega,hrT ?_,by omega⟩,λh1=>⟨by omega,hrT ?_,by omega⟩⟩
   ·rw[ζr];exact hset _ (by rw[if_pos h1])
   ·exact hset _ (by rw[if_neg h1])
  ·have hi2:i.toNat=(fL (js p f 0)).length:=by omega
   rw[hi2,vK];refine⟨⟨hrT rfl,by omega⟩,?_⟩;rintro k ⟨k0,k1⟩;have hsk:=@vG p f k.toNat;have hfk:=@ff (js p f k.toNat);refine⟨λhk=>?_,λhk=>?_⟩
   ·have hm:=(kf.1 (cy (d:=0) (show k.toNat<(Ao f 0).length by omega))).1;have hv:bN (fL (fE (cE p f) (nF f) (mF p))) k.toNat sF.bw=nf (bN (fE (cE p f) (nF f) (mF p)) k.toNat 0):=iR (by omega);have hst:=@UA p f k.toNat (by omega);rw[hv];refine⟨k0,hk,by omega,k0,by omega,by omega,by omega,hm.1,by omega,by omega,by omega,by omega,hrT ?_,by omega⟩;rw[vI,show(k+1).toNat=k.toNat+1 by omega,hst]
   ·have hk2:k.toNat=nF f:=by omega
    rw[hk2] at hsk hfk ⊢;have hab:=@xH p hc f f.length hln;rw[φ] at hab;have hsa:Sz 1 ((fX p f:Int):Rat):=by unfold Sz;rw[Rat.num_intCast,Rat.den_intCast];omega
    have hsv:Sz 1000000 (cE p f).value:=by have:=(B3 hfx).sW (m_ hfx).1;exact this.2.2.2
    refine⟨⟨hc,hln⟩,⟨df hsa (by omega),df hsv (by omega)⟩,by omega,by omega,?_,hx0.symm⟩;unfold kq qL kp;simp only[hok,if_true,dR];rfl
def DD:cC:=BI 104 (List NH) (.one (cP sF)) (λx a=>fQ x/\n9 a/\a.length=x.p.bj.length) (λx a=>mA.put ⟨eA (vL a),bE ((eA (vL a)).map (oI x.p))⟩) λx _=>x
def jL (x:List Rat) (k:Nat):List Int:=(bL k).filter λi=>decide (0<bN x i.toNat 0)
def kQ (p:ew) (l:List Int):Int:=bE (l.map (oI p))
def U5 (x:cV) (a:List NH):Nat->bH
 |3=>match x.en with
  |none=> .inv Int (λi=>⟨[(0,.ptr 0 0 28),(4,.ptr 3 0 2),(5,.ptr 5 0 2),(10,.row sF a),(11,.si .i64 a.length),(12,.si .i64 i)],
    x.vD++[.cells [.sc (.slice none 0 0),.si .i64 0] 40 2 false,.row (.i .i64) (jL (vL a) i.toNat) 3 true,.cells [.ow 4 (jL (vL a) i.toNat).length 1,.si .i64 (kQ x.p (jL (vL a) i.toNat))] 40 2 false]⟩)
    (λs=>iS s 12) (λi=>0<=i/\i<=a.length) (λi=>(a.length - i).toNat) λ_ _=> .look
  |some m=> .inv Int (λi=>⟨[(0,.ptr 0 0 28),(4,.ptr 4 0 2),(5,.ptr 6 0 2),(10,.row sF a),(11,.si .i64 a.length),(12,.si .i64 i)],
    x.vC m++[.cells [.sc (.slice none 0 0),.si .i64 0] 40 2 false,.row (.i .i64) (jL (vL a) i.toNat) 3 true,.cells [.ow 5 (jL (vL a) i.toNat).length 1,.si .i64 (kQ x.p (jL (vL a) i.toNat))] 40 2 false]⟩)
    (λs=>iS s 12) (λi=>0<=i/\i<=a.length) (λi=>(a.length - i).toNat) λ_ _=> .look
 |_=> .look
theorem Lq {x:List Rat} {i:Int} (i0:0<=i):jL x (i+1).toNat=if 0<bN x i.toNat 0 then jL x i.toNat++[i] else jL x i.toNat:=by unfold jL;rw[show(i+1).toNat=i.toNat+1 by omega,oo,δV,εJ i0];grind
theorem Lo {p:ew} {x:List Rat} {k:Nat} (a:nW p=0) (g:k<=p.bj.length):(jL x k).length<=160/\0<=kQ p (jL x k)/\kQ p (jL x k)<=160000000:=by
 have e:(jL x k).length<=k:=by have:=γT (λi:Int=>decide (0<bN x i.toNat 0)) (bL k);rw[fj] at this;exact this
 have c:=pg (cT a) (l:=(jL x k).map (oI p)) λy b=>by obtain⟨i,d,rfl⟩:=Δ.1 b;have:=ik.1 (Θ.1 d).1;exact cy (by omega)
 rw[Φ] at c;have f:=(cT a).2.1;grind[kQ]
theorem Ln {p:ew} {l:List Int} {i:Int}:kQ p (l++[i])=kQ p l+(oI p i).value:=by simp_all[kQ,nO,bE]
theorem IQ:g' DD:=by
 refine xC (L:=[qx]) (W:=[]) DD (λa=>U5 a.1 a.2) (by simp) (by simpa using sZ) ?_;rintro⟨⟨p,ch,val,bp,en,k1,k2,bz,i',bq,fx⟩,a⟩ ⟨T,⟨l,hx,hla,hz⟩,X⟩;simp only at T hx hla X;subst hx;have hc:nW p=0:=T.f.c;have h160:=(cT hc).2.1;have hll:=@ff l;have X:(fL l).length=p.bj.length:=X;cases en with
 |none=>
  refine NI (let a:=γc .i64;let b:=iZ.cells;let c:=iZ.row;let d:=(0:Int);let e:=Ω;let f:=γZ;let g:=γM;let r:=g 0 0 28;let s:=g 3 0 2;let t:=g 5 0 2;let C:=(↑(fL l).length:Int);let k:=(↑(fL l).length:Int);let v:=a k;let w:=γu .i64 0;let D:=a 0;let j:=cj.i .i64;let m:=b [a p.bm.a0,a p.bm.a1,a p.bm.a2,a p.bm.a3,a p.bm.a4,a p.bm.a5,a p.bs.a0,a p.bs.a1,a p.bs.a2,a p.bs.a3,a p.bs.a4,a p.bs.a5,a p.bt.a0,a p.bt.a1,a p.bt.a2,a p.bt.a3,a p.bt.a4,a p.bt.a5,e j p.bk,e cj.bu p.bj,e j ch,a val,γA bp,SV.fn (Fn.func 70) [] [],f 1 k1 5,f 2 k2 1,a bz,a i'] 126 28 false;let n:=c Ap bq 108 true;let o:=c j fx 3 true;let E:=ζY (Value.slice none 0 0);let y:=b [E,D] 40 2 false;let z:=jL (vL (fL l)) 0;(((r.bi r/\s.bi s/\t.bi t/\(e sF (fL l)).bi (e sF (fL l))/\(a C).bi v/\w.bi D/\True)/\m.bi m/\n.bi n/\o.bi o/\(b [E,w] 40 2 false).bi y/\(c j [] 3 true).bi (c j z 3 true)/\(b [f 4 0 1,w] 40 2 false).bi (b [f 4 z.length 1,a (kQ p z)] 40 2 false)/\True)/\d<=d/\d<=k)/\∀(x:Int),let q:=x+(1:Int);let F:=a q;let A:=jL (vL (fL l)) q.toNat;let B:=bN (fL l) x.toNat sF.bw;let G:=(B.1,B.2.1,B.2.2);let h:=jL (vL (fL l)) x.toNat;let H:=h.length+1;let I:=kQ p h+(bN p.bj x.toNat cj.bu.bw).value;let J:=λ(u:iZ) (S:Nat) (R:Int) ↦TP .i64 q/\((r.bi r/\s.bi s/\t.bi t/\(e sF (fL l)).bi (e sF (fL l))/\v.bi v/\F.bi F/\True)/\m.bi m/\n.bi n/\o.bi o/\y.bi y/\u.bi (c j A 3 true)/\(b [f 4 S 1,a R] 40 2 false).bi (b [f 4 A.length 1,a (kQ p A)] 40 2 false)/\True)/\(d<=q/\q<=k)/\(k - q).toNat<(k - x).toNat;let K:=λ(u:Bool) ↦decide (d<jh (TM G))=u;d<=x/\x<=k->(decide (x<k)=true->d<=x/\x<C/\x.toNat<(fL l).length/\bP G/\(K true->1=1/\h.length=h.length/\H*8<=140737488355328/\H<=1000000000000/\d<=x/\x<(↑p.bj.length:Int)/\x.toNat<p.bj.length/\TP .i64 I/\J (c j (h++[x]) 3 true) (h++[x]).length I)/\(K false->J (c j h 3 true) h.length (kQ p h)))/\(decide (x<k)=false->h.length=h.length/\h.length=h.length/\h.length=h.length/\(γG [e j h,a (kQ p h)]).bi (γG [e j (eA (vL (fL l))),a (bE (γd (oI p) (eA (vL (fL l)))))])/\m.bi m/\n.bi n/\o.bi o/\True)) (by kernel_rfl) ?_;simp only[vcs];have N:∀{x y:List Int},x=y->(iZ.row (.i .i64) x 3 true).bi (iZ.row (.i .i64) y 3 true):=by rintro _ _ rfl;rfl
  have P:∀{x y:List Int} {v w:Int},x=y->v=w->(iZ.cells [.ow 4 x.length 1,.si .i64 v] 40 2 false).bi (iZ.cells [.ow 4 y.length 1,.si .i64 w] 40 2 false):=by rintro _ _ _ _ rfl rfl;rfl
  refine⟨⟨⟨rfl,N rfl,rfl⟩,by omega⟩,?_⟩;rintro i ⟨i0,i1⟩;have hb:=@Lo p (vL (fL l)) i.toNat hc (by omega);refine⟨λhi=>?_,λhi=>?_⟩
  ·have U:bN (fL l) i.toNat sF.bw=nf (bN l i.toNat 0):=iR (by omega);have V:=hz _ (cy (d:=0) (show i.toNat<l.length by omega));have ho:=(jP hc (i:=i) (by omega)).2.2.2;have Q:(bN p.bj i.toNat cj.bu.bw).value=(oI p i).value:=rfl;have O:=@Lq (vL (fL l)) i i0;rw[U,Q];rw[ku] at O hb ⊢;simp only[jt,dR,rM];refine⟨i0,hi,by omega,df V (by omega),λh=>?_,λh=>?_⟩
   ·rw[if_pos h] at O;rw[O,Ln];refine⟨?_,?_,i0,?_,?_,?_,?_,⟨N rfl,P rfl rfl⟩,?_,?_⟩<;>omega
   ·rw[if_neg h] at O;rw[O];refine⟨?_,⟨N rfl,P rfl rfl⟩,?_,?_⟩<;>omega
  ·rw[show i.toNat=(vL (fL l)).length by rw[ku];omega];rfl;|some m=>
  refine NI (let a:=γc .i64;let b:=iZ.cells;let c:=iZ.row;let d:=(0:Int);let e:=Ω;let f:=γZ;let g:=γM;let t:=g 0 0 28;let v:=g 4 0 2;let w:=g 6 0 2;let E:=(↑(fL l).length:Int);let k:=(↑(fL l).length:Int);let y:=a k;let z:=γu .i64 0;let F:=a 0;let j:=cj.i .i64;let n:=b [a p.bm.a0,a p.bm.a1,a p.bm.a2,a p.bm.a3,a p.bm.a4,a p.bm.a5,a p.bs.a0,a p.bs.a1,a p.bs.a2,a p.bs.a3,a p.bs.a4,a p.bs.a5,a p.bt.a0,a p.bt.a1,a p.bt.a2,a p.bt.a3,a p.bt.a4,a p.bt.a5,e j p.bk,e cj.bu p.bj,e j ch,a val,γA bp,SV.fn (Fn.func 116) [] [g 1 0 1],f 2 k1 5,f 3 k2 1,a bz,a i'] 126 28 false;let o:=b [a m] 2 1 false;let q:=c Ap bq 108 true;let r:=c j fx 3 true;let G:=ζY (Value.slice none 0 0);let A:=b [G,F] 40 2 false;let B:=jL (vL (fL l)) 0;(((t.bi t/\v.bi v/\w.bi w/\(e sF (fL l)).bi (e sF (fL l))/\(a E).bi y/\z.bi F/\True)/\n.bi n/\o.bi o/\q.bi q/\r.bi r/\(b [G,z] 40 2 false).bi A/\(c j [] 3 true).bi (c j B 3 true)/\(b [f 5 0 1,z] 40 2 false).bi (b [f 5 B.length 1,a (kQ p B)] 40 2 false)/\True)/\d<=d/\d<=k)/\∀(x:Int),let s:=x+(1:Int);let H:=a s;let C:=jL (vL (fL l)) s.toNat;let D:=bN (fL l) x.toNat sF.bw;let I:=(D.1,D.2.1,D.2.2);let h:=jL (vL (fL l)) x.toNat;let J:=h.length+1;let K:=kQ p h+(bN p.bj x.toNat cj.bu.bw).value;let L:=λ(u:iZ) (S:Nat) (R:Int) ↦TP .i64 s/\((t.bi t/\v.bi v/\w.bi w/\(e sF (fL l)).bi (e sF (fL l))/\y.bi y/\H.bi H/\True)/\n.bi n/\o.bi o/\q.bi q/\r.bi r/\A.bi A/\u.bi (c j C 3 true)/\(b [f 5 S 1,a R] 40 2 false).bi (b [f 5 C.length 1,a (kQ p C)] 40 2 false)/\True)/\(d<=s/\s<=k)/\(k - s).toNat<(k - x).toNat;let M:=λ(u:Bool) ↦decide (d<jh (TM I))=u;d<=x/\x<=k->(decide (x<k)=true->d<=x/\x<E/\x.toNat<(fL l).length/\bP I/\(M true->1=1/\h.length=h.length/\J*8<=140737488355328/\J<=1000000000000/\d<=x/\x<(↑p.bj.length:Int)/\x.toNat<p.bj.length/\TP .i64 K/\L (c j (h++[x]) 3 true) (h++[x]).length K)/\(M false->L (c j h 3 true) h.length (kQ p h)))/\(decide (x<k)=false->h.length=h.length/\h.length=h.length/\h.length=h.length/\(γG [e j h,a (kQ p h)]).bi (γG [e j (eA (vL (fL l))),a (bE (γd (oI p) (eA (vL (fL l)))))])/\n.bi n/\o.bi o/\q.bi q/\r.bi r/\True)) (by kernel_rfl) ?_;simp only[vcs];have N:∀{x y:List Int},x=y->(iZ.row (.i .i64) x 3 true).bi (iZ.row (.i .i64) y 3 true):=by rintro _ _ rfl;rfl
  have P:∀{x y:List Int} {v w:Int},x=y->v=w->(iZ.cells [.ow 5 x.length 1,.si .i64 v] 40 2 false).bi (iZ.cells [.ow 5 y.length 1,.si .i64 w] 40 2 false):=by rintro _ _ _ _ rfl rfl;rfl
  refine⟨⟨⟨rfl,N rfl,rfl⟩,by omega⟩,?_⟩;rintro i ⟨i0,i1⟩;have hb:=@Lo p (vL (fL l)) i.toNat hc (by omega);refine⟨λhi=>?_,λhi=>?_⟩
  ·have U:bN (fL l) i.toNat sF.bw=nf (bN l i.toNat 0):=iR (by omega);have V:=hz _ (cy (d:=0) (show i.toNat<l.length by omega));have ho:=(jP hc (i:=i) (by omega)).2.2.2;have Q:(bN p.bj i.toNat cj.bu.bw).value=(oI p i).value:=rfl;have O:=@Lq (vL (fL l)) i i0;rw[U,Q];rw[ku] at O hb ⊢;simp only[jt,dR,rM];refine⟨i0,hi,by omega,df V (by omega),λh=>?_,λh=>?_⟩
   ·rw[if_pos h] at O;rw[O,Ln];refine⟨?_,?_,i0,?_,?_,?_,?_,⟨N rfl,P rfl rfl⟩,?_,?_⟩<;>omega
   ·rw[if_neg h] at O;rw[O];refine⟨?_,⟨N rfl,P rfl rfl⟩,?_,?_⟩<;>omega
  ·rw[show i.toNat=(vL (fL l)).length by rw[ku];omega];rfl
def DC:NG:=⟨105,List NH,.one (cP sF),n9,λx=> .IL [.si .i64 ((jb (vL x)).getD 0),.sb (jb (vL x)).isSome]⟩
def jB:Option (Int×Rat)->NH
 |none=>(false,([],[]))
 |some (_,q)=>nf q
def s7:Option (Int×Rat)->Int
 |none=>0
 |some (i,_)=>i
def U4 (x:List NH):Nat->bH
 |6=> .inv Int (λi=>⟨[(4,.ptr 0 0 3),(6,.ptr 1 0 3),(7,.ptr 2 0 2),(8,.ptr 3 0 3),(17,.row sF x),(18,.si .i64 x.length),(19,.si .i64 i)],
   [.cells [.sb (nf (fe false 1 2)).1,.row (.i .u32) (nf (fe false 1 2)).2.1,.row (.i .u32) (nf (fe false 1 2)).2.2] 177 3 false,
    .cells [.sb (nf ((1:Int):Rat)).1,.row (.i .u32) (nf ((1:Int):Rat)).2.1,.row (.i .u32) (nf ((1:Int):Rat)).2.2] 177 3 false,
    .cells [.sb (iO (vL x) i.toNat).isSome,.si .i64 (s7 (iO (vL x) i.toNat))] 237 2 false,
    .cells [.sb (jB (iO (vL x) i.toNat)).1,.row (.i .u32) (jB (iO (vL x) i.toNat)).2.1,.row (.i .u32) (jB (iO (vL x) i.toNat)).2.2] 177 3 false,.dead,.dead]⟩)
   (λs=>iS s 19) (λi=>0<=i/\i<=x.length) (λi=>(x.length - i).toNat) λ_ _=> .look
 |_=> .look
theorem U3 {q:Rat} {k:Nat} (h:Sz k q):Sz k (lJ q):=by grind[lJ,xQ]
theorem Lm:mkRat 1 2=(1 / 2:Rat):=by grind[Rat.mkRat_eq_div]
theorem Ll:Sz 1 (1 / 2:Rat):=by grind[Lm,xS]
theorem DB {q:Rat} (h:Sz 1000 q):Sz 1002 (q - 1 / 2):=by rw[θg];exact xR h (j:=1) (xQ Ll)
theorem IP:d' DC:=by
 refine bI (L:=[DJ,mR,rQ,qx,uO,w_,uW]) DC U4 (by simpa using⟨IM,n_,n4,sZ,zB,CN,rB⟩) ?_;rintro(x:List NH) ⟨l,hx,hl,hz⟩;refine NI (let a:=iZ.cells;let b:=Ω;let c:=(0:Int);let d:=γc .i64;let e:=(9223372036854775807:Int);let f:=γA;let g:=(-9223372036854775808:Int);let h:=(1:Int);let j:=TP .i64;let k:=γM;let l:=δb false;let m:=(2:Int);let n:=cj.i .u32;let r:=k 0 0 3;let s:=k 1 0 3;let t:=k 2 0 2;let v:=k 3 0 3;let o:=(↑x.length:Int);let w:=d o;let R:=γu .i64 0;let y:=fe false h m;let z:=κ h;let F:=iO (vL x) 0;let B:=a [f (nf y).1,b n (nf y).2.1,b n (nf y).2.2] 177 3 false;let C:=a [f (nf z).1,b n (nf z).2.1,b n (nf z).2.2] 177 3 false;let S:=((nf z).1,(nf z).2.1,(nf z).2.2);let T:=((nf y).1,(nf y).2.1,(nf y).2.2);let U:=λ(u:Rat) ↦(a [f (nf u).1,b n (nf u).2.1,b n (nf u).2.2] 177 3 false).bi (a [f (nf u).1,b n (nf u).2.1,b n (nf u).2.2] 177 3 false);((g<=h/\h<=e)/\c<m/\m<=e)/\(g<=h/\h<=e)/\0=0/\0=0/\(((r.bi r/\s.bi s/\t.bi t/\v.bi v/\(b sF x).bi (b sF x)/\(d (↑x.length:Int)).bi w/\R.bi (d 0)/\True)/\U y/\U z/\(a [l,R] 237 2 false).bi (a [f F.isSome,d (s7 F)] 237 2 false)/\(a [l,b n [],b n []] 177 3 false).bi (a [f (jB F).1,b n (jB F).2.1,b n (jB F).2.2] 177 3 false)/\iZ.dead.bi iZ.dead/\iZ.dead.bi iZ.dead/\True)/\c<=c/\c<=o)/\∀(x_1:Int),let p:=x_1+h;let D:=d p;let G:=iO (vL x) p.toNat;let N:=a [f G.isSome,d (s7 G)] 237 2 false;let A:=bN x x_1.toNat sF.bw;let H:=(A.1,A.2.1,A.2.2);let E:=nf (TM H - TM T);let I:=(E.1,E.2.1,E.2.2);let V:=(nf (-TM I)).1;let K:=(nf (-TM I)).2;let O:=a [f (jB G).1,b n (jB G).2.1,b n (jB G).2.2] 177 3 false;let q:=iO (vL x) x_1.toNat;let W:=d (s7 q);let X:=(V,K.1,K.2);let L:=((jB q).1,(jB q).2.1,(jB q).2.2);let M:=q.isSome==false&&(decide (s7 q=c)&&true);let Y:=j p/\((r.bi r/\s.bi s/\t.bi t/\v.bi v/\(b sF x).bi (b sF x)/\w.bi w/\D.bi D/\True)/\B.bi B/\C.bi C/\(a [δb true,d x_1] 237 2 false).bi N/\(a [f V,b n K.1,b n K.2] 177 3 false).bi O/\iZ.dead.bi iZ.dead/\iZ.dead.bi iZ.dead/\True)/\(c<=p/\p<=o)/\(o - p).toNat<(o - x_1).toNat;let Z:=j p/\((r.bi r/\s.bi s/\t.bi t/\v.bi v/\(b sF x).bi (b sF x)/\w.bi w/\D.bi D/\True)/\B.bi B/\C.bi C/\(a [δb true,d x_1] 237 2 false).bi N/\(a [f E.1,b n E.2.1,b n E.2.2] 177 3 false).bi O/\iZ.dead.bi iZ.dead/\iZ.dead.bi iZ.dead/\True)/\(c<=p/\p<=o)/\(o - p).toNat<(o - x_1).toNat;let J:=j p/\((r.bi r/\s.bi s/\t.bi t/\v.bi v/\(b sF x).bi (b sF x)/\w.bi w/\D.bi D/\True)/\B.bi B/\C.bi C/\(a [f q.isSome,W] 237 2 false).bi N/\(a [f (jB q).1,b n (jB q).2.1,b n (jB q).2.2] 177 3 false).bi O/\iZ.dead.bi iZ.dead/\iZ.dead.bi iZ.dead/\True)/\(c<=p/\p<=o)/\(o - p).toNat<(o - x_1).toNat;let P:=bP I;let Q:=bP H;let a0:=λ(u:Bool) ↦decide (iE (TM X) (TM L)<c)=u;let a1:=λ(u:Bool) ↦decide (iE (TM I) (TM L)<c)=u;let a2:=λ(u:Bool) ↦decide (jh (TM I)<c)=u;let a3:=λ(u:Bool) ↦decide (c<=iE (TM H) (TM S))=u;let a4:=λ(u:Bool) ↦decide (jh (TM H)<=c)=u;let a5:=λ(u:Bool) ↦(!okF H)=u;c<=x_1/\x_1<=o->(decide (x_1<o)=true->c<=x_1/\x_1<(↑x.length:Int)/\x_1.toNat<x.length/\((ou A.2.1/\ou A.2.2)/\γf A.2.1<=10000000/\γf A.2.2<=10000000)/\(a5 true->J)/\(a5 false->Q/\(a4 true->J)/\(a4 false->(Q/\bP S)/\(a3 true->J)/\(a3 false->(Q/\bP T)/\P/\(a2 true->P/\(M=true->Y)/\(M=false->(bP X/\bP L)/\(a0 true->Y)/\(a0 false->J)))/\(a2 false->(M=true->Z)/\(M=false->(P/\bP L)/\(a1 true->Z)/\(a1 false->J)))))))/\(decide (x_1<o)=false->(SV.IL [W,f q.isSome]).bi (SV.IL [d ((jb (vL x)).getD c),f (jb (vL x)).isSome]))) (by kernel_rfl) ?_;simp only[vcs];subst hx;rw[ff] at hl;have hh:fe false 1 2=1 / 2:=Lm;simp only[ku,ff,hh];have hbr:∀{b c:Option (Int×Rat)},b=c->(iZ.cells [.sb b.isSome,.si .i64 (s7 b)] 237 2 false).bi (iZ.cells [.sb c.isSome,.si .i64 (s7 c)] 237 2 false):=by rintro _ _ rfl;rfl
 have hbd:∀{b c:Option (Int×Rat)},b=c->(iZ.cells [.sb (jB b).1,.row (.i .u32) (jB b).2.1,.row (.i .u32) (jB b).2.2] 177 3 false).bi (iZ.cells [.sb (jB c).1,.row (.i .u32) (jB c).2.1,.row (.i .u32) (jB c).2.2] 177 3 false):=by rintro _ _ rfl;rfl
 have f1:bP (nf (κ 1)):=df (k:=1) (by unfold Sz;decide) (by omega);have f2:bP (nf (1 / 2)):=df Ll (by omega);refine⟨⟨(by omega),by omega⟩,(by omega),⟨⟨rfl,rfl⟩,by omega⟩,?_⟩;rintro i ⟨i0,i1⟩;refine⟨λhi=>?_,λhi=>?_⟩
 ·have hv:bN (fL l) i.toNat sF.bw=nf (bN l i.toNat 0):=iR (by omega);have hq:=hz _ (cy (d:=0) (show i.toNat<l.length by omega));have hs:iO l (i+1).toNat=if 0<bN l i.toNat 0/\bN l i.toNat 0<1 then(match iO l i.toNat with
   |none=>some (i,lJ (bN l i.toNat 0 - 1 / 2))
   |some (j,d)=>if lJ (bN l i.toNat 0 - 1 / 2)<d then some (i,lJ (bN l i.toNat 0 - 1 / 2)) else some (j,d)) else iO l i.toNat:=by
   rw[show(i+1).toNat=i.toNat+1 by omega];conv=>lhs;unfold iO
   rw[εJ i0];cases iO l i.toNat<;>rfl
  have hbs:∀j d,iO l i.toNat=some (j,d)->bP (nf d):=λj d h=>by obtain⟨h1,h2,h3⟩:=DV h;rw[h3];exact df (U3 (DB (hz _ (cy (by omega))))) (by omega)
  rw[hv,hs];generalize bN l i.toNat 0=q at*;generalize iO l i.toNat=B at*;simp only[jt,dR];obtain⟨_,⟨u1,u2,u3⟩,⟨u4,u5,u6⟩⟩:=kW q;obtain⟨m1,m2⟩:=nK hq;have hok:=Cq q;have fq:bP (nf q):=df hq (by omega);have fd:bP (nf (q - 1 / 2)):=df (DB hq) (by omega);have fn:bP (nf (-(q - 1 / 2))):=df (xQ (DB hq)) (by omega);refine⟨i0,hi,by omega,⟨⟨u1,u4⟩,by omega⟩,λh=>absurd hok (by rw[show okF (nf q)=false from h];simp),λ_=>⟨fq,λh1=>?_,λh1=>⟨⟨fq,f1⟩,λh2=>?_,λh2=>?_⟩⟩⟩
  ·rw[if_neg (λh=>by have:=rM.2 h.1;omega)];exact⟨by omega,⟨hbr rfl,hbd rfl⟩,by omega⟩
  ·rw[if_neg (λh=>by have:=sd.2 h.2;have e:iE q (κ 1)=iE q 1:=rfl;omega)];exact⟨by omega,⟨hbr rfl,hbd rfl⟩,by omega⟩
  ·have hp:0<q/\q<1:=⟨rM.1 (by omega),sd.1 (by have e:iE q (κ 1)=iE q 1:=rfl;omega)⟩;rw[if_pos hp];refine⟨⟨fq,f2⟩,fd,λh3=>?_,λh3=>?_⟩
   ·have ha:lJ (q - 1 / 2)= -(q - 1 / 2):=by unfold lJ;rw[if_pos (xM.1 h3)]
    rw[ha];cases B with
    |none=>exact⟨fd,λ_=>⟨by omega,⟨rfl,rfl⟩,by omega⟩,λh=>absurd h (by decide)⟩;|some b=>
     obtain⟨j,d⟩:=b;dsimp only;refine⟨fd,λh=>absurd h.1 ζs,λ_=>⟨⟨fn,hbs j d rfl⟩,λh5=>?_,λh5=>?_⟩⟩
     ·rw[if_pos (sd.1 (by rw[<-dR d];exact h5))];exact⟨by omega,⟨rfl,rfl⟩,by omega⟩
     ·rw[if_neg (λh=>h5 (by rw[<-dR d] at h;exact sd.2 h))];exact⟨by omega,⟨hbr rfl,hbd rfl⟩,by omega⟩
   ·have ha:lJ (q - 1 / 2)=q - 1 / 2:=by unfold lJ;rw[if_neg (λh=>h3 (xM.2 h))]
    rw[ha];cases B with
    |none=>exact⟨λ_=>⟨by omega,⟨rfl,rfl⟩,by omega⟩,λh=>absurd h (by decide)⟩;|some b=>
     obtain⟨j,d⟩:=b;dsimp only;refine⟨λh=>absurd h.1 ζs,λ_=>⟨⟨fd,hbs j d rfl⟩,λh5=>?_,λh5=>?_⟩⟩
     ·rw[if_pos (sd.1 (by rw[<-dR d];exact h5))];exact⟨by omega,⟨rfl,rfl⟩,by omega⟩
     ·rw[if_neg (λh=>h5 (by rw[<-dR d] at h;exact sd.2 h))];exact⟨by omega,⟨hbr rfl,hbd rfl⟩,by omega⟩
 ·rw[show i.toNat=l.length by omega];unfold jb;cases iO l l.length<;>exact⟨rfl,rfl⟩
noncomputable def tC (n:Nat):cC:=BI 72 Int (.one (dY .i64)) (λx a=>fQ x/\(0<=a/\a<x.bq.length)/\nF x.fx<n) (λ_ _=> .IL []) λx a=>x.kj (dc x.p (bW x.en) x.bz (nF x.fx) x.s a x.fx)
noncomputable def Co (n:Nat):cC:=BI 106 (Int×Int×Int) (.cons (dY .i64) (.cons (dY .i64) (.one (dY .i64)))) (λx a=>fQ x/\(0<=a.1/\a.1<x.bq.length)/\(0<=a.2.1/\a.2.1<x.fx.length)/\bN x.fx a.2.1.toNat 0=0/\(a.2.2=1\/a.2.2= -1)/\nF (x.fx.set a.2.1.toNat a.2.2)<n) (λ_ _=> .IL []) λx a=>x.kj (dc x.p (bW x.en) x.bz (nF (x.fx.set a.2.1.toNat a.2.2)) x.s a.1 (x.fx.set a.2.1.toNat a.2.2))
theorem U2 {L:List NG} {W:List cC} (c:cC) (F:eL) (Λ:c.α->Nat->bH) (i:∀c∈W,g' c) (e:∀c∈L,d' c)
  
  (h:∀a,c.dom a->Vc (BL (mB L (fH W) oQ oR ix) (Λ a) F (c.put a) (c.st a) λv s=>v.bi (c.res a)/\jG s (c.out a))) (j:ix c.f=some F:=by kernel_rfl) (b:∀a,(c.put a).length=F.params:=by intro _;kernel_rfl) (d:lS c.f W=none:=by kernel_rfl):g' c:=
 λa g=>Ui c pX i e j b a d (h a g).out
theorem fQ.set {x:cV} (h:fQ x) {k:Nat} {d:Int} (a:d=1\/d= -1):fQ ⟨x.p,x.ch,x.val,x.bp,x.en,x.k1,x.k2,x.bz,x.i',x.bq,x.fx.set k d⟩:=
 ⟨⟨h.f.c,by rw[γm];exact h.f.l,LF h.f.r (by omega)⟩,h.k1,by rw[γm];exact h.k2,h.v0,h.v1,h.m0,h.m1,h.l,h.c⟩
theorem U1 {f:List Int} {k:Nat} {d:Int} (b:k<f.length) (a:bN f k 0=0):(f.set k d).set k 0=f:=by rw[bR b] at a;rw[ζr,<-a,List.set_getElem_self]
theorem U0 {n:Nat} (C:g' (tC n)):g' (Co n):=by
 refine U2 (L:=[]) (W:=[tC n]) (Co n) (fG 106) lk (by simpa using C) (by simp) ?_;rintro⟨⟨p,ch,val,bp,en,k1,k2,bz,i',bq,fx⟩,a,k,d⟩ ⟨r,w,hk,B,v,u⟩;simp only at r w hk B v u;have s:k2=fx.length:=r.k2;have z:=U1 (d:=d) (show k.toNat<fx.length by omega) B;have hr:∀{x y:List Int},x=y->(iZ.row (.i .i64) x 3 true).bi (iZ.row (.i .i64) y 3 true):=by rintro _ _ rfl;rfl
 cases en with
 |none=>
  have t:=r.set (k:=k.toNat) v;refine NI (let b:=γc .i64;let c:=(0:Int);let e:=iZ.row;let f:=Ω;let g:=fx.set k.toNat d;let j:=cj.i .i64;let h:=dc p (bW none) bz (nF g) (cu.mk ch val bp bq i') a g;let l:=iZ.cells [b p.bm.a0,b p.bm.a1,b p.bm.a2,b p.bm.a3,b p.bm.a4,b p.bm.a5,b p.bs.a0,b p.bs.a1,b p.bs.a2,b p.bs.a3,b p.bs.a4,b p.bs.a5,b p.bt.a0,b p.bt.a1,b p.bt.a2,b p.bt.a3,b p.bt.a4,b p.bt.a5,f j p.bk,f cj.bu p.bj,f j h.ch,b h.val,γA h.bp,SV.fn (Fn.func 70) [] [],γZ 1 h.bq.length 5,γZ 2 k2 1,b bz,b h.i'] 126 28 false;let m:=e Ap h.bq 108 true;k2=fx.length/\c<=k/\k<(↑fx.length:Int)/\k2=fx.length/\k.toNat<fx.length/\(fQ (cV.mk p ch val bp none k1 k2 bz i' bq g)/\(c<=a/\a<(↑bq.length:Int))/\nF g<n)/\k2=g.length/\c<=k/\k<(↑g.length:Int)/\k2=g.length/\k.toNat<g.length/\(SV.IL []).bi (SV.IL [])/\l.bi l/\m.bi m/\(e j (g.set k.toNat c) 3 true).bi (e j fx 3 true)/\True) (by kernel_rfl) ?_;conv=>zeta
  rw[γm];exact⟨s,hk.1,hk.2,s,by omega,⟨t,w,u⟩,s,hk.1,hk.2,s,by omega,rfl,rfl,rfl,hr z,trivial⟩;|some m=>
  have t:=r.set (k:=k.toNat) v;refine NI (let b:=γc .i64;let c:=(0:Int);let e:=iZ.row;let f:=Ω;let g:=fx.set k.toNat d;let j:=cj.i .i64;let h:=dc p (bW (some m)) bz (nF g) (cu.mk ch val bp bq i') a g;let l:=iZ.cells [b p.bm.a0,b p.bm.a1,b p.bm.a2,b p.bm.a3,b p.bm.a4,b p.bm.a5,b p.bs.a0,b p.bs.a1,b p.bs.a2,b p.bs.a3,b p.bs.a4,b p.bs.a5,b p.bt.a0,b p.bt.a1,b p.bt.a2,b p.bt.a3,b p.bt.a4,b p.bt.a5,f j p.bk,f cj.bu p.bj,f j h.ch,b h.val,γA h.bp,SV.fn (Fn.func 116) [] [γM 1 0 1],γZ 2 h.bq.length 5,γZ 3 k2 1,b bz,b h.i'] 126 28 false;let o:=iZ.cells [b m] 2 1 false;let q:=e Ap h.bq 108 true;k2=fx.length/\c<=k/\k<(↑fx.length:Int)/\k2=fx.length/\k.toNat<fx.length/\(fQ (cV.mk p ch val bp (some m) k1 k2 bz i' bq g)/\(c<=a/\a<(↑bq.length:Int))/\nF g<n)/\k2=g.length/\c<=k/\k<(↑g.length:Int)/\k2=g.length/\k.toNat<g.length/\(SV.IL []).bi (SV.IL [])/\l.bi l/\o.bi o/\q.bi q/\(e j (g.set k.toNat c) 3 true).bi (e j fx 3 true)/\True) (by kernel_rfl) ?_;conv=>zeta
  rw[γm];exact⟨s,hk.1,hk.2,s,by omega,⟨t,w,u⟩,s,hk.1,hk.2,s,by omega,rfl,rfl,rfl,rfl,hr z,trivial⟩
theorem LW {p:ew} {en:Int->Bool} {bz:Int} {f:List Int} (j:dT p f) {c b:cu->Int->List Int->cu} {s:cu} {a:Int}
  (h:∀k d:Int,(0<=k/\k<f.length)->bN f k.toNat 0=0->(d=1\/d= -1)->∀s a,c s a (f.set k.toNat d)=b s a (f.set k.toNat d)):eE p en bz c s a f=eE p en bz b s a f:=by
 unfold eE;split;·rfl
 split;·rfl
 rename_i o;have l:gF p f=true:=by simp_all
 split;·rfl
 split;·rfl
 rename_i k n;split;·rfl
 obtain⟨e,i,g⟩:=BP n;rw[qK] at e;have m:bN f k.toNat 0=0:=BS (j.ok l) j.r (by omega) i g;simp_all
theorem xB {p:ew} {en:Int->Bool} {bz:Int} {f:List Int} (e:dT p f) {s:cu} {a:Int}:dc p en bz (nF f) s a f=eE p en bz (λs a g=>dc p en bz (nF g) s a g) s a f:=by
 have j:∀k d:Int,(0<=k/\k<f.length)->bN f k.toNat 0=0->(d=1\/d= -1)->nF f=nF (f.set k.toNat d)+1:=λk d c b i=>tD c b (by omega);cases h:nF f with
 |zero=>exact LW e λk d c b i=>by grind;|succ n=>
  refine LW e λk d c b i s a=>?_;grind
section
variable {p:ew} {en:Int->Bool} {bz:Int} {f:List Int} {s O:cu} {a k:Int}
theorem DA (b:dT p f) (h:s.i'≠0\/s.bp=true):dc p en bz (nF f) s a f=s:=by simp_all[xB,eE]
theorem UZ (c:dT p f) (h:¬(s.i'≠0\/s.bp=true)) (b:gF p f=false):dc p en bz (nF f) s a f={s with bq:=s.bq.set a.toNat zC}:=by simp_all[xB,eE]
theorem UY (c:dT p f) (h:¬(s.i'≠0\/s.bp=true)) (b:gF p f=true) (d:cO p en s f=O) (e:jO p f<((O.val+1:Int):Rat)):dc p en bz (nF f) s a f={O with bq:=O.bq.set a.toNat (o9 p f)}:=by simp_all[xB,eE]
theorem LV (b:dT p f) (h:¬(s.i'≠0\/s.bp=true)) (d:gF p f=true) (c:cO p en s f=O) (g:¬jO p f<((O.val+1:Int):Rat)) (e:jb (dz p f)=none\/bz<(O.bq.length:Int)+2):dc p en bz (nF f) s a f={O with i':=12}:=by subst c;rw[xB b];unfold eE;grind
theorem UX (d:dT p f) (h:¬(s.i'≠0\/s.bp=true)) (b:gF p f=true) (g:cO p en s f=O) (i:¬jO p f<((O.val+1:Int):Rat)) (c:jb (dz p f)=some k) (e:¬bz<(O.bq.length:Int)+2):
  dc p en bz (nF f) s a f=dc p en bz (nF (f.set k.toNat (-1))) (dc p en bz (nF (f.set k.toNat 1)) (jN O a k) (O.bq.length+1) (f.set k.toNat 1)) O.bq.length (f.set k.toNat (-1)):=by simp_all[xB,eE,if_neg]
end
theorem fQ.Ro {x:cV} (h:fQ x):fQ (x.kj (cO x.p (bW x.en) x.s x.fx)):=by
 obtain⟨d,i,b,a,g⟩:=@BO x.p (bW x.en) x.s x.fx;obtain⟨m,j,k⟩:=LD h.f;have b:x.val<=(cO x.p (bW x.en) x.s x.fx).val:=b;have a:(cO x.p (bW x.en) x.s x.fx).val=x.val\/(cO x.p (bW x.en) x.s x.fx).val=(oh x.p x.fx).value:=a;have n:=h.v0;have o:=h.v1;refine⟨h.f,rfl,h.k2,?_,?_,h.m0,h.m1,?_,?_⟩
 ·show 0<=(cO x.p (bW x.en) x.s x.fx).val;omega
 ·show(cO x.p (bW x.en) x.s x.fx).val<=_;omega
 ·show(cO x.p (bW x.en) x.s x.fx).bq.length<=_;rw[d];exact h.l
 ·show(cO x.p (bW x.en) x.s x.fx).ch.length<=_;rcases g with e|e;·rw[e];exact h.c
  ·rw[e];omega
theorem fQ.Q7 {x:cV} (h:fQ x) {f:List Int} (i:dT x.p f) {n:Nat} {a:Int}:fQ (x.kj (dc x.p (bW x.en) x.bz n x.s a f)):=by
 obtain⟨m,g,b,d,k,q⟩:=@xE x.p (bW x.en) x.bz n x.s a f i;have b:x.val<=(dc x.p (bW x.en) x.bz n x.s a f).val:=b;have d:(dc x.p (bW x.en) x.bz n x.s a f).val=x.val\/(dc x.p (bW x.en) x.bz n x.s a f).val<=160000000:=d;have r:=h.v0;have t:=h.v1;have o:=h.m1;have j:=h.l;refine⟨h.f,rfl,h.k2,?_,?_,h.m0,h.m1,?_,?_⟩
 ·show 0<=(dc x.p (bW x.en) x.bz n x.s a f).val;omega
 ·show(dc x.p (bW x.en) x.bz n x.s a f).val<=_;omega
 ·show(dc x.p (bW x.en) x.bz n x.s a f).bq.length<=_;rcases g with e|e;·omega
  ·rw[e];exact j
 ·show(dc x.p (bW x.en) x.bz n x.s a f).ch.length<=_;rcases k with e|e;·rw[e];exact h.c
  ·omega
theorem fQ.Rh {x:cV} (h:fQ x) (b:¬x.bz<(x.bq.length:Int)+2) {k:Nat} {l:List cA} (a:k=l.length) (d:l.length=x.bq.length+2):fQ ⟨x.p,x.ch,x.val,x.bp,x.en,k,x.k2,x.bz,x.i',l,x.fx⟩:=
 ⟨h.f,a,h.k2,h.v0,h.v1,h.m0,h.m1,by have:=h.m1;grind,h.c⟩
structure iY where
 left:oz
 bs:oz
 bn:List Int
 value:Int
 won:List Bool
def nd (c w a:Int):Int:=if c=0\/c≠a then w else 0
def vx (p:ew) (x:bA):oz:=⟨nd p.bt.a0 x.bx.a0 (j4 p x),nd p.bt.a1 x.bx.a1 (j4 p x),nd p.bt.a2 x.bx.a2 (j4 p x),nd p.bt.a3 x.bx.a3 (j4 p x),nd p.bt.a4 x.bx.a4 (j4 p x),nd p.bt.a5 x.bx.a5 (j4 p x)⟩
def oz.pos (b:oz):Bool:=decide (0<=b.a0)&&decide (0<=b.a1)&&decide (0<=b.a2)&&decide (0<=b.a3)&&decide (0<=b.a4)&&decide (0<=b.a5)
def fW (p:ew) (u:iY) (x:bA):oz:=(u.bs.sub (vx p x)).meet (u.left.sub x.bx)
def iA (p:ew) (u:iY) (x:bA):Bool:=!(bN u.won x.Gz.toNat false)&&((u.left.sub x.bx).pos&&(fW p u x).pos)
def ek (p:ew) (u:iY) (i:Int):iY:=⟨u.left.sub (oI p i).bx,fW p u (oI p i),u.bn++[i],u.value+(oI p i).value,u.won.set (oI p i).Gz.toNat true⟩
def gi (p:ew) (u:iY) (k:Nat):ew:=⟨u.left,u.bs,p.bt,p.bk,(p.bj.drop k).filter (iA p u)⟩
theorem CA {x:oz}:dB [x]=x:=by simp[dB]
theorem sX {P:Nat->Prop} (f:P 0) (a:P 1) (b:P 2) (d:P 3) (e:P 4) (c:P 5):∀k,k<6->P k:=by grind
theorem xA {a b:oz}:∀k,k<6->(a.sub b).at k=a.at k - b.at k:=sX rfl rfl rfl rfl rfl rfl
theorem Ej {a b:oz}:∀k,k<6->(a.add b).at k=a.at k+b.at k:=sX rfl rfl rfl rfl rfl rfl
theorem LU {a b:oz}:∀k,k<6->(a.meet b).at k=min (a.at k) (b.at k):=sX rfl rfl rfl rfl rfl rfl
theorem Ei {p:ew} {x:bA}:∀k,k<6->(vx p x).at k=nd (p.bt.at k) (x.bx.at k) (j4 p x):=sX rfl rfl rfl rfl rfl rfl
theorem Cm {p:ew} {x:bA}:∀k,k<6->(dD p x).at k=if p.bt.at k=0\/p.bt.at k=j4 p x then 0 else x.bx.at k:=by refine sX ?_ ?_ ?_ ?_ ?_ ?_<;>(show oc _ _ _ _ _=_;unfold oc;simp only[show((0:Int)<6)=True by simp,show((1:Int)<6)=True by simp,show((2:Int)<6)=True by simp,show((3:Int)<6)=True by simp,show((4:Int)<6)=True by simp,show((5:Int)<6)=True by simp,true_and];rfl)
theorem LS {b:oz}:b.pos=true↔∀k,k<6->0<=b.at k:=by
 unfold oz.pos;simp only[ζ,decide_eq_true_eq];constructor
 ·rintro⟨⟨⟨⟨⟨g,a⟩,c⟩,e⟩,f⟩,d⟩;exact sX g a c e f d
 ·intro h;exact⟨⟨⟨⟨⟨h 0 (by omega),h 1 (by omega)⟩,h 2 (by omega)⟩,h 3 (by omega)⟩,h 4 (by omega)⟩,h 5 (by omega)⟩
theorem vu {b:oz}:b.ok=true↔∀k,k<6->0<=b.at k/\b.at k<=4:=by
 rw[oz.fA];constructor
 ·rintro⟨g,a,c,e,f,d⟩;exact sX g a c e f d
 ·intro h;exact⟨h 0 (by omega),h 1 (by omega),h 2 (by omega),h 3 (by omega),h 4 (by omega),h 5 (by omega)⟩
theorem Eh {p:ew} {k:Nat} (a:k<6):∀L:List bA,(dB (L.map (vx p))).at k=if p.bt.at k=0 then(dB (L.map bA.bx)).at k else(dB (L.map (dD p))).at k:=by
 intro L;rw[mw,mw,mw];induction L with
 |nil=>simp;|cons x L b=>
  simp only[ν,List.sum_cons];rw[b,Ei k a,Cm k a];unfold nd;omega
theorem Cl {p:ew} (c:Good p) {k:Nat} (d:k<6):∀{L:List bA},(∀x∈L,x∈p.bj)->0<=(dB (L.map bA.bx)).at k/\(dB (L.map (dD p))).at k<=(dB (L.map bA.bx)).at k/\0<=(dB (L.map (dD p))).at k:=by
 intro L;rw[mw,mw];induction L with
 |nil=>intro _;simp;|cons x L b=>
  intro h;have e:=b λy a=>h y (γe _ a);have f:=(vu.1 (c.2.2.2.2 x (h x (γs ..))).2.2.1 k d);grind[Cm]
theorem qJ {p:ew} (c:nW p=0) {k:Nat} (b:k<6):0<=p.bt.at k/\p.bt.at k<=4/\0<=p.bs.at k/\p.bs.at k<=p.bm.at k/\(p.bt.at k=0->p.bs.at k=p.bm.at k):=by have h:=ni.1 ((rj (rh c).1).2.1 k b);exact⟨h.1,h.2.1,h.2.2.1,h.2.2.2.1,λd=>by rcases h.2.2.2.2 with a|a;exact absurd d a;exact a⟩
theorem Eg {a b:oz}:a.le b=true↔∀k,k<6->a.at k<=b.at k:=⟨λh k _=>zH h k,BH⟩
structure qt (p:ew) (u:iY):Prop where
 f:og p u.bn
 v:u.value=bE (VK p u.bn)
 l:∀k,k<6->u.left.at k=p.bm.at k - (dB ((VK p u.bn).map bA.bx)).at k
 o:∀k,k<6->u.bs.at k=min (p.bs.at k - (dB ((VK p u.bn).map (vx p))).at k) (u.left.at k)
 wl:u.won.length=8
 w:∀b:Int,0<=b->b<8->bN u.won b.toNat false=decide (b∈(VK p u.bn).map bA.Gz)
theorem Ef {p:ew} {t:List Int} (h:my 0 p.bj.length t):∀x∈VK p t,x∈p.bj:=λx a=>by obtain⟨i,b,rfl⟩:=Δ.1 a;have:=h.2 i b;grind[cy]
section
variable {p:ew} {u:iY}
theorem Ee {L M:List bA}:fS p (L++M)↔((L.map bA.Gz++M.map bA.Gz).Nodup/\(∀k,k<6->(dB (L.map bA.bx)).at k+(dB (M.map bA.bx)).at k<=p.bm.at k)/\∀k,k<6->(dB (L.map (dD p))).at k+(dB (M.map (dD p))).at k<=p.bs.at k):=by simp_all[fS,yY,Eg,Ej]
theorem Ck (h:nW p=0) (c:qt p u) {x:bA} (m:x∈p.bj):iA p u x=true↔fS p (VK p u.bn++[x]):=by
 have b:=cT h;have g:=b.2.2.2.2 x m;have r:=b.1;have q:=Ef c.f.1;rw[Ee];unfold iA;rw[ζ,ζ,LS,LS,δf,c.w _ g.1 (by omega),decide_eq_false_iff_not];simp only[ν,γv,CA];have d:∀k,k<6->((0<=(u.left.sub x.bx).at k/\0<=(fW p u x).at k)↔((dB ((VK p u.bn).map bA.bx)).at k+x.bx.at k<=p.bm.at k/\(dB ((VK p u.bn).map (dD p))).at k+(dD p x).at k<=p.bs.at k)):=λk a=>by have A:=c.l k a;have t:=c.o k a;have v:=Eh (p:=p) a (VK p u.bn);have s:=@Ei p x k a;have n:=@Cm p x k a;have B:=qJ h a;have y:=vu.1 g.2.2.1 k a;have j:=Cl b a q;unfold fW;rw[LU k a,xA k a,xA k a,s,n];unfold nd;grind
 constructor
 ·rintro⟨z,e,i⟩;refine⟨?_,λk a=>((d k a).1 ⟨e k a,i k a⟩).1,λk a=>((d k a).1 ⟨e k a,i k a⟩).2⟩;rw[γy];refine⟨c.f.2.1,by simp,?_⟩;simp_all
 grind
theorem qt.next (n:nW p=0) (c:qt p u) {i:Int} (D:∀j∈u.bn,j<i) (C:0<=i/\i<p.bj.length) (s:iA p u (oI p i)=true):qt p (ek p u i):=by
 have m:oI p i∈p.bj:=cy (by omega);have B:=(Ck n c m).1 s;have g:=cT n;have q:=g.2.2.2.2 _ m;have z:=g.1;have e:VK p (u.bn++[i])=VK p u.bn++[oI p i]:=by unfold VK;rw[γb];rfl
 refine⟨⟨⟨?_,?_⟩,?_⟩,?_,?_,?_,?_,?_⟩
 ·show(u.bn++[i]).Pairwise _;rw[δ1];exact⟨c.f.1.1,List.pairwise_singleton _ _,λa A b q=>by simp_all⟩
 ·intro j t;rcases γo.1 t with h|h;·exact c.f.1.2 j h
  simp_all
 ·show fS p (VK p (u.bn++[i]));simp_all
 ·show u.value+_=bE (VK p (u.bn++[i]));rw[e,nO,c.v];simp[bE]
 ·intro k d;show(u.left.sub _).at k=_ - (dB ((VK p (u.bn++[i])).map bA.bx)).at k;rw[e,γb,yY,Ej k d,xA k d,c.l k d];grind[CA]
 ·intro k d;show(fW p u (oI p i)).at k=min (_ - (dB ((VK p (u.bn++[i])).map (vx p))).at k) ((u.left.sub (oI p i).bx).at k);unfold fW;rw[e,γb,yY,Ej k d,LU k d,xA k d,xA k d,c.o k d];grind[CA,Ei,vu,nd]
 ·show(u.won.set _ true).length=8;rw[γm];exact c.wl
 ·intro b y x;show bN (u.won.set (oI p i).Gz.toNat true) b.toNat false=decide (b∈(VK p (u.bn++[i])).map bA.Gz);have r:=c.wl;rw[e,γb,gU (by omega)];simp only[ν,γv];by_cases h:b=(oI p i).Gz;·simp_all
  ·rw[if_neg (by omega),c.w b y x];simp_all
theorem Ed (s:nW p=0) (g:qt p u) {k:Nat} {M:List bA} (r:∀x∈M,x∈p.bj) (y:∀x∈M,iA p u x=true):fS (gi p u k) M↔fS p (VK p u.bn++M):=by
 have d:=cT s;have C:=d.1;have A:=Ef g.f.1;rw[Ee];unfold fS;rw[Eg,Eg];have D:∀x:bA,dD (gi p u k) x=dD p x:=λx=>rfl;have n:M.map (dD (gi p u k))=M.map (dD p):=rfl;rw[n];have h:∀j,j<6->(((dB (M.map bA.bx)).at j<=(gi p u k).bm.at j/\(dB (M.map (dD p))).at j<=(gi p u k).bs.at j)↔((dB ((VK p u.bn).map bA.bx)).at j+(dB (M.map bA.bx)).at j<=p.bm.at j/\(dB ((VK p u.bn).map (dD p))).at j+(dB (M.map (dD p))).at j<=p.bs.at j)):=λj c=>by have H:=g.l j c;have F:=g.o j c;have G:=Eh (p:=p) c (VK p u.bn);have J:=qJ s c;have I:=Cl d c A;have K:=Cl d c r;have L:(gi p u k).bm.at j=u.left.at j:=rfl;have E:(gi p u k).bs.at j=u.bs.at j:=rfl;omega
 constructor
 ·rintro⟨z,v,q⟩;refine⟨?_,λj c=>((h j c).1 ⟨v j c,q j c⟩).1,λj c=>((h j c).1 ⟨v j c,q j c⟩).2⟩;rw[γy];refine⟨g.f.2.1,z,?_⟩;intro a B b i e;subst e;obtain⟨x,t,rfl⟩:=Δ.1 i;have m:=y x t;have i:=d.2.2.2.2 x (r x t);unfold iA at m;rw[ζ,δf,g.w _ i.1 (by omega),decide_eq_false_iff_not] at m;exact m.1 B
 grind
theorem LR {q:ew} (d:im q=0) (h:∀x∈q.bj,jD q x=0) (b:(q.bj.map bA.key).Nodup):nW q=0:=by
 have a:∀(l:List bA) (s:List nu),(∀x∈l,jD q x=0)->(l.map bA.key).Nodup->(∀x∈l,x.key∉s)->iF q s l=0:=by
  intro l;induction l with
  |nil=>intro s _ _ _;rfl;|cons x l c=>
   simp_all[iF]
 simp_all[nW]
theorem Cj (e:nW p=0) (g:qt p u) {k:Nat}:nW (gi p u k)=0:=by
 have v:=cT e;have C:=Ef g.f.1;have r:=(Ee (p:=p) (L:=VK p u.bn) (M:=[])).1 (by rw[γ1];exact g.f.2);obtain⟨d,q⟩:=rh e;obtain⟨J,H,P,R,N⟩:=rj d;have s:∀x∈(gi p u k).bj,x∈p.bj/\iA p u x=true:=λx n=>by obtain⟨c,w⟩:=Θ.1 n;grind
 have F:(dB (([]:List bA).map bA.bx))=oz.zero:=rfl;have h:∀j,j<6->0<=u.left.at j/\u.left.at j<=4:=λj a=>by
  have B:=g.l j a;have O:=Cl v a C;have w:=r.2.1 j a;have t:(dB (([]:List bA).map bA.bx)).at j=0:=by rw[mw];rfl
  grind[vu]
 have i:∀j,j<6->0<=u.bs.at j/\u.bs.at j<=u.left.at j/\(p.bt.at j=0->u.bs.at j=u.left.at j):=λj a=>by
  have B:=g.l j a;have I:=g.o j a;have D:=Eh (p:=p) a (VK p u.bn);have m:=qJ e a;have w:=r.2.1 j a;have E:=r.2.2 j a;have t:(dB (([]:List bA).map bA.bx)).at j=0:=by rw[mw];rfl
  grind
 refine LR ?_ (λx n=>?_) ?_
 ·have Q:(gi p u k).bm.ok=true:=vu.2 h;have G:Bx (gi p u k)=true:=yx.2 λj a=>ni.2 (by
   have m:=qJ e a;have b:=i j a;refine⟨m.1,m.2.1,b.1,b.2.1,?_⟩;by_cases z:p.bt.at j=0;·exact .inr (b.2.2 z)
   ·exact .inl z);have K:(gi p u k).bj.length<=p.bj.length:=by have c:=γT (iA p u) (p.bj.drop k);rw[εE] at c;show((p.bj.drop k).filter (iA p u)).length<=_;omega
  have y:(gi p u k).bk=p.bk:=rfl;unfold im;grind
 ·obtain⟨c,w⟩:=s x n;have b:=q x c;unfold jD at b ⊢;have y:(gi p u k).bk=p.bk:=rfl;rw[y];split at b;·omega
  ·rename_i t;rw[if_neg t];split at b;·cases b
   next A=>rw[if_neg A];grind[Ed,Ck,Nq]
 ·have c:=(zJ (by have:=e;unfold nW at this;rw[if_neg (by rw[d];simp)] at this;exact this)).1;exact((List.filter_sublist.trans (List.drop_sublist k _)).map bA.key).nodup c
end
theorem Ci {a b c:bC} (h:¬lQ a b) (k:¬lQ b c):¬lQ a c:=λd=>by grind[Nh,Xa]
theorem LQ {a b:bC}:¬lQ a (cW a b)/\¬lQ b (cW a b):=by
 unfold cW;split
 next h=>have h:lQ a b:=h;grind[zF,Nh]
 next h=>exact⟨h,zF⟩
theorem xz {p:ew}:∀{k:Nat} {i:Int} {a b:bC},¬lQ b (kG p k i a b)
 |0,_,_,b=>by grind[kG,zF];|k+1,i,a,b=>by
  simp only[kG];refine Ci ?_ xz;split;·exact Ci LQ.2 xz
  ·exact zF
theorem Ec {p:ew} (o:Good p):∀{k:Nat} {i:Int} {a b:bC} {t:List Int},0<=i->i+k<=p.bj.length->t≠[]->my i k t->kI p (a.bn++t)=true->¬lQ ⟨a.bn++t,a.value+bE (VK p t)⟩ (kG p k i a b)
 |0,i,a,b,t,_,_,r,c,_=>by
  cases t with
  |nil=>simp_all;|cons j t=>
   have:=c.2 j (by simp);omega
 |k+1,i,a,b,t,y,x,r,c,s=>by
  cases t with
  |nil=>simp_all;|cons j t=>
   have w:=c.2 j (by simp);have u:=γp.1 c.1;simp only[kG];by_cases n:j=i
   ·subst n;have g:zP p t:=λm l=>by have:=c.2 m (by simp[l]);omega
    have d:kI p (a.bn++[j]++t)=true:=by simp_all
    have q:kI p (a.bn++[j])=true:=OB o g d;rw[if_pos q];refine Ci ?_ xz;rw[re];simp only[bE];cases t with
    |nil=>
     grind[Ci,xz,LQ,bE,VK,kH];|cons h f=>
     have:=Ec o (k:=k) (i:=j+1) (a:=⟨a.bn++[j],a.value+kH p j⟩) (b:=cW ⟨a.bn++[j],a.value+kH p j⟩ b) (t:=h::f) (by omega) (by omega) (by simp) ⟨u.2,λm l=>by have v:=c.2 m (γe _ l);grind⟩ d;have e:(⟨a.bn++j::h::f,a.value+((bN p.bj j.toNat cj.bu.bw).value+bE (VK p (h::f)))⟩:bC)=⟨a.bn++[j]++h::f,a.value+kH p j+bE (VK p (h::f))⟩:=by simp only[bC.mk.injEq,γV,γL,List.nil_append,kH,true_and];omega
     simp_all
   ·exact Ec o (by omega) (by omega) (by simp) ⟨c.1,λm l=>by have v:=c.2 m l;grind⟩ s
theorem Eb {p:ew} (e:Good p) {t:List Int} (d:og p t):¬lQ ⟨t,bE (VK p t)⟩ (Oq p):=by
 rw[FH];by_cases c:t=[]
 ·subst c;exact xz
 ·have:=Ec e (k:=p.bj.length) (i:=0) (a:=⟨[],0⟩) (b:=⟨[],0⟩) (t:=t) (by omega) (by omega) c d.1 (by simpa[kI] using d.2);simp_all
theorem Ea:∀{c a b:List Int},bG (c++a) (c++b)=bG a b
 |[],_,_=>rfl
 |x::c,a,b=>by simp only[γL,bG,Int.lt_irrefl,if_false];exact Ea
noncomputable def o8 (p:ew) (a:Int) (u:iY) (i:Int):iY:=
 if u.value=a then u else if iA p u (oI p i)=true then(if jr (gi p (ek p u i) (i+1).toNat) (a - (ek p u i).value) 65536=true then ek p u i else u) else u
noncomputable def jq (p:ew) (a:Int):Nat->iY
 |0=>⟨p.bm,p.bs,[],0,δ 8 false⟩
 |n+1=>o8 p a (jq p a n) n
theorem mQ {p:ew} (d:nW p=0):qt p ⟨p.bm,p.bs,[],0,δ 8 false⟩:=by
 have a:=cT d;refine⟨UR a,rfl,λk c=>?_,λk c=>?_,rfl,λb f e=>?_⟩
 ·show _=_ - (dB (([]:List bA).map bA.bx)).at k;grind[mw]
 ·show _=min (_ - (dB (([]:List bA).map (vx p))).at k) _;simp_all[mw,qJ,min]
 ·show _=decide (b∈([]:List Int));grind[bR]
theorem D_ {i:Int}:∀{L:List Int},L.Pairwise (·<·)->L=L.filter (λj=>decide (j<i))++L.filter (λj=>!decide (j<i))
 |[],_=>rfl
 |x::L,h=>by
  have a:=γp.1 h;have c:=D_ (i:=i) a.2;by_cases d:x<i;·grind
  ·have e:L.filter (λj=>decide (j<i))=[]:=δt.2 λj b=>by grind
   grind
theorem TF {i:Int} {L:List Int} (h:i∉L):L.filter (λj=>decide (j<i+1))=L.filter (λj=>decide (j<i)):=by refine List.filter_congr λj a=>?_;grind
theorem TE {i:Int} {L:List Int} (b:L.Pairwise (·<·)) (h:i∈L):L.filter (λj=>decide (j<i+1))=L.filter (λj=>decide (j<i))++[i]/\L=L.filter (λj=>decide (j<i))++i::L.filter (λj=>decide (i<j)):=by
 induction L with
 |nil=>cases h;|cons x L f=>
  have g:=γp.1 b;by_cases c:x=i
  ·subst c;have e:L.filter (λj=>decide (j<x))=[]:=δt.2 λj a=>by grind
   have k:L.filter (λj=>decide (j<x+1))=[]:=δt.2 λj a=>by grind
   have d:L.filter (λj=>decide (x<j))=L:=εb.2 λj a=>by simp_all
   grind
  grind
theorem LP {p:ew} (a:Good p):∀{L:List bA},(∀x∈L,x∈p.bj)->L≠[]->0<bE L
 |[],_,h=>absurd rfl h
 |x::L,h,_=>by have c:=(a.2.2.2.2 x (h x (γs ..))).2.2.2.1;have d:=(pg a (l:=L) λy b=>h y (γe _ b)).1;grind[bE]
theorem TD {p:ew} (i:nW p=0) {k:Nat} (d:k<=p.bj.length) {M:List bA} (g:∀x∈M,x∈p.bj.drop k) (c:M.Nodup):∃t:List Int,t.Pairwise (·<·)/\(∀j∈t,(k:Int)<=j/\j<p.bj.length)/\(VK p t).Perm M:=by
 obtain⟨t,b,h,a⟩:=FE (λx=>decide (x∈M)) (p.bj.drop k) (p.bj.take k);have e:(p.bj.take k).length=k:=by simp_all
 refine⟨t,b,λj f=>?_,?_⟩;·grind
 ·rw[List.take_append_drop] at a;unfold VK;rw[a];refine(List.perm_ext_iff_of_nodup ?_ c).2 λx=>?_;·grind[O1]
  simp_all
theorem pF {p:ew} (d:nW p=0):og p (Oq p).bn/\(Oq p).value=bE (VK p (Oq p).bn):=by obtain⟨_,a,b,c⟩:=Nl d;exact⟨⟨b,a⟩,c⟩
theorem D9 {p:ew} (m:nW p=0) (W:p.bj.length<=15):∀n:Nat,n<=p.bj.length->qt p (jq p (Oq p).value n)/\(jq p (Oq p).value n).bn=(Oq p).bn.filter λ(j:Int)=>decide (j<(n:Int))
 |0,_=>⟨mQ m,by have h:=(pF m).1.1.2;exact(δt.2 λj g=>by simp_all).symm⟩
 |n+1,hn=>by
  obtain⟨G,P⟩:=D9 m W n (by omega);have o:=cT m;obtain⟨⟨⟨hs,hr⟩,hF⟩,hv⟩:=pF m;have a7:og p (Oq p).bn:=⟨⟨hs,hr⟩,hF⟩;have I:∀j∈(jq p (Oq p).value n).bn,j<(n:Int):=λj g=>by simp_all
  have N:((n:Nat):Int)+1=((n+1:Nat):Int):=by omega
  have J:(0:Int)<=n/\(n:Int)<p.bj.length:=by omega
  have q:oI p n∈p.bj:=cy (by omega);have a4:=D_ (i:=(n:Int)) hs;show qt p (o8 p (Oq p).value (jq p (Oq p).value n) n)/\(o8 p (Oq p).value (jq p (Oq p).value n) n).bn=_;generalize jq p (Oq p).value n=u at*;have C:∀{t:List Int},(∀j∈t,j∈(Oq p).bn)->∀x∈VK p t,x∈p.bj:=λht x q=>by obtain⟨j,g,rfl⟩:=Δ.1 q;have:=hr j (ht j g);exact cy (by omega)
  by_cases e:u.value=(Oq p).value
  ·unfold o8;rw[if_pos e];refine⟨G,?_⟩;have R:(Oq p).bn.filter (λj=>!decide (j<(n:Int)))=[]:=by refine Classical.byContradiction λU=>?_;have S:=LP o (L:=VK p ((Oq p).bn.filter (λj=>!decide (j<(n:Int))))) (C λj g=>(Θ.1 g).1) (by unfold VK;simpa using U);rw[G.v,P,hv] at e;grind[sJ,nO]
   have a1:∀j∈(Oq p).bn,j<(n:Int):=λj g=>by grind
   rw[P,εb.2 λj g=>by grind];exact(εb.2 λj g=>by grind).symm
  ·by_cases K:(n:Int)∈(Oq p).bn
   ·obtain⟨f1,f2⟩:=TE hs K;rw[<-P] at f1 f2;have A:fS p (VK p u.bn++[oI p n]++VK p ((Oq p).bn.filter λj=>decide ((n:Int)<j))):=by
     have:VK p u.bn++[oI p n]++VK p ((Oq p).bn.filter λj=>decide ((n:Int)<j))=VK p (Oq p).bn:=by
      conv=>rhs;rw[f2]
      rw[sJ,re,γV];rfl
     grind
    have B:=C (t:=(Oq p).bn.filter λj=>decide ((n:Int)<j)) λj g=>(Θ.1 g).1;have Q:iA p u (oI p n)=true:=(Ck m G q).2 (zO o B A);have c:=G.next m I J Q;have z:=Cj (k:=((n:Int)+1).toNat) m c;have r:VK p (ek p u n).bn=VK p u.bn++[oI p n]:=by show VK p (u.bn++[(n:Int)])=_;rw[sJ];rfl
    have O:∀x∈VK p ((Oq p).bn.filter λj=>decide ((n:Int)<j)),iA p (ek p u n) x=true:=λx w=>by
     refine(Ck m c (B x w)).2 ?_;rw[r];obtain⟨s,t,a0⟩:=List.append_of_mem w;have F:(VK p u.bn++[oI p n]++VK p ((Oq p).bn.filter λj=>decide ((n:Int)<j))).Perm (VK p u.bn++[oI p n]++[x]++(s++t)):=by rw[a0,γV (VK p u.bn++[oI p n])];refine ζ2 _ ?_;exact List.perm_middle
     refine zO o (M:=s++t) (λy hy=>B y ?_) (zK F A);grind
    have Y:=(Ed (k:=((n:Int)+1).toNat) m c B O).2 (by grind);have Z:∀x∈VK p ((Oq p).bn.filter λj=>decide ((n:Int)<j)),x∈(gi p (ek p u n) ((n:Int)+1).toNat).bj:=λx w=>by
     refine Θ.2 ⟨?_,O x w⟩;obtain⟨j,g,rfl⟩:=Δ.1 w;obtain⟨V,a8⟩:=Θ.1 g;have h3:=hr j V;have h4:(n:Int)<j:=by grind
     rw[bR (by omega)];rw[List.mem_iff_getElem];exact⟨j.toNat - ((n:Int)+1).toNat,by grind,by rw[List.getElem_drop];congr 1;omega⟩
    have H:=UQ z Y Z;rw[zG z] at H;have a2:(Oq p).value=(ek p u n).value+bE (VK p ((Oq p).bn.filter λj=>decide ((n:Int)<j))):=by
     rw[c.v,r,hv];conv=>lhs;rw[f2,sJ,re,nO]
     rw[nO];grind[bE,oI]
    have T:(gi p (ek p u n) ((n:Int)+1).toNat).bj.length<=15:=by have S:=γT (iA p (ek p u n)) (p.bj.drop ((n:Int)+1).toNat);rw[εE] at S;show((p.bj.drop _).filter _).length<=15;omega
    have l:iB (gi p (ek p u n) ((n:Int)+1).toNat) ((Oq p).value - (ek p u n).value) 65536=0:=DK z (by omega) (by have:2^((gi p (ek p u n) ((n:Int)+1).toNat).bj.length+1)<=2^16:=δs (by omega) (by omega);omega);have E:jr (gi p (ek p u n) ((n:Int)+1).toNat) ((Oq p).value - (ek p u n).value) 65536=true:=(Lt z l).2 (by omega);unfold o8;rw[if_neg e,if_pos Q,if_pos E];refine⟨c,?_⟩;rw[<-N,f1];rfl
   ·rw[<-N,TF K,<-P];unfold o8;rw[if_neg e];split
    ·rename_i Q;split
     ·rename_i E;exfalso;have c:=G.next m I J Q;have z:=Cj (k:=((n:Int)+1).toNat) m c;have r:VK p (ek p u n).bn=VK p u.bn++[oI p n]:=by show VK p (u.bn++[(n:Int)])=_;rw[sJ];rfl
      have T:(gi p (ek p u n) ((n:Int)+1).toNat).bj.length<=15:=by have S:=γT (iA p (ek p u n)) (p.bj.drop ((n:Int)+1).toNat);rw[εE] at S;show((p.bj.drop _).filter _).length<=15;omega
      have l:iB (gi p (ek p u n) ((n:Int)+1).toNat) ((Oq p).value - (ek p u n).value) 65536=0:=DK z (by omega) (by
       have:2^((gi p (ek p u n) ((n:Int)+1).toNat).bj.length+1)<=2^16:=δs (by omega) (by omega);omega);have a6:=(Lt z l).1 E;obtain⟨M,m1,m2,m3⟩:=UP z;rw[zG z] at m3;have D:∀x∈M,x∈p.bj.drop ((n:Int)+1).toNat/\iA p (ek p u n) x=true:=λx q=>Θ.1 (m2 x q);have A:=(Ed m c (λx q=>List.mem_of_mem_drop (D x q).1) λx q=>(D x q).2).1 m1;obtain⟨t,t1,t2,t3⟩:=TD m (k:=((n:Int)+1).toNat) (by omega) (λx q=>(D x q).1) (zI bA.Gz m1.1);have hT:og p (u.bn++(n:Int)::t):=by
       refine⟨⟨?_,?_⟩,?_⟩
       ·rw[δ1];refine⟨G.f.1.1,γp.2 ⟨λj g=>by grind,t1⟩,λa ha b hb=>?_⟩;grind
       ·intro j g;rcases γo.1 g with h|h;·grind
        ·rcases List.mem_cons.1 h with rfl|h<;>grind
       ·rw[sJ,re];refine zK ?_ A;rw[r,γV];exact ζ2 _ (List.Perm.cons _ t3.symm)
      have a3:bE (VK p (u.bn++(n:Int)::t))=(ek p u n).value+bE M:=by rw[c.v,r,sJ,re,nO,nO,<-O2 t3];grind[bE,oI]
      have H:=yV o hT.1 (decide_eq_true hT.2);refine Eb o hT (.inr ⟨(show bE (VK p (u.bn++(n:Int)::t))=(Oq p).value by omega),?_⟩);show bG (u.bn++(n:Int)::t) (Oq p).bn<0;have R:(Oq p).bn=u.bn++(Oq p).bn.filter (λj=>!decide (j<(n:Int))):=by grind
      have a5:(Oq p).bn.filter (λj=>!decide (j<(n:Int)))≠[]:=λh=>by rw[h,γ1] at R;refine e ?_;rw[G.v,<-R,hv]
      have X:∀j∈(Oq p).bn.filter (λj=>!decide (j<(n:Int))),(n:Int)<j:=λj g=>by grind
      rw[R];generalize (Oq p).bn.filter (λj=>!decide (j<(n:Int)))=d at*;cases d with
      |nil=>grind;|cons j d=>
       rw[Ea];have:=X j (by simp);simp only[bG];omega
     grind
    grind
theorem LO {p:ew} (b:nW p=0) (a:p.bj.length<=15):(jq p (Oq p).value p.bj.length).bn=(Oq p).bn:=by rw[(D9 b a p.bj.length (π _)).2];have h:=(pF b).1.1.2;simp_all
def TC (p:ew):Int:=lh p (allM p)
theorem LN {p:ew} (a:nW p=0):og p (Oq p).bn/\dA p (Oq p).bn=(Oq p).value/\(Oq p).value=TC p:=by obtain⟨_,d,b,e⟩:=Nl a;have c:og p (Oq p).bn:=⟨b,d⟩;exact⟨c,by grind[DP],(zG a).symm⟩
def Rn (n:cA):SV:=.ite (decide (n.1=1)) (.ia 204 (cd Ap n)) (.ite (decide (n.1=2)) (.ia 205 (cd Ap n)) (.ite (decide (n.1=3)) (.ia 206 (cd Ap n)) (.ia 208 [])))
def Ch:NG:=⟨86,cA,.one (dg Ap),λ_=>True,Rn⟩
theorem za:d' Ch:=by
 refine bI (L:=[]) Ch lk (by simp) ?_;rintro⟨k,o,a,b,y⟩ _;refine NI (let c:=γc .i64;let d:=(1:Int);let e:=(2:Int);let f:=(3:Int);let i:=decide (k=d);let g:=[c k,c o,c a,c b,Ω sF y];let n:=θE 204 g;let j:=decide (k=e);let p:=θE 205 g;let l:=decide (k=f);let q:=θE 206 g;let h:=θE 208 [];let m:=λ(u:Int) (r:Nat) ↦decide (k=u)=true->(i=true->(θE r g).bi n)/\(i=false->(j=true->(θE r g).bi p)/\(j=false->(l=true->(θE r g).bi q)/\(l=false->(θE r g).bi h)));m d 204/\(decide (k=d)=false->m e 205/\(decide (k=e)=false->m f 206/\(decide (k=f)=false->(i=true->h.bi n)/\(i=false->(j=true->h.bi p)/\(j=false->(l=true->h.bi q)/\(l=false->h.bi h))))))) (by kernel_rfl) ?_;simp only[vcs];repeat' (first|refine And.intro ?_ ?_|intro _)
 all_goals first|trivial|omega
def qs (n:cA):Bool:=decide (n.2.1=0)&&decide (n.2.2.1=0)&&decide (n.2.2.2.1=0)
def Cg:NG:=⟨211,cA,.one (dg Ap),λ_=>True,λn=> .sb (qs n)⟩
theorem y_:d' Cg:=by refine bI (L:=[]) Cg lk (by simp) ?_;rintro⟨k,o,a,b,y⟩ _;refine NI (let f:=δb false;let g:=(0:Int);let e:=decide (o=g);let d:=decide (a=g);let c:=γA (qs (k,o,a,b,y));(e=true->(d=true->(γA (decide (b=g))).bi c)/\(d=false->(f).bi c))/\(e=false->(f).bi c)) (by kernel_rfl) ?_;simp_all[qs]
def ny (n:cA):Bool:=qs n&&decide (n.2.2.2.2.length<=40)&&n.2.2.2.2.all okF
def D8:NG:=⟨209,cA,.one (dg Ap),λn=>∀x∈n.2.2.2.2,hJ x,λn=> .sb (ny n)⟩
def TB (n:cA):Nat->bH
 |4=> .inv Int (λi=>⟨[(18,.row sF n.2.2.2.2),(19,.si .i64 n.2.2.2.2.length),(20,.si .i64 i)],[.cells (cd Ap n) 204 5 false]⟩) (λs=>iS s 20)
  (λi=>0<=i/\i<=n.2.2.2.2.length/\(n.2.2.2.2.take i.toNat).all okF=true) (λi=>(n.2.2.2.2.length - i).toNat) λ_ _=> .look
 |_=> .look
theorem IE:d' D8:=by
 refine bI (L:=[Cg,rQ]) D8 TB (by simpa using⟨y_,n4⟩) ?_;rintro⟨k,o,a,b,y⟩ v;have v:∀x∈y,hJ x:=v;refine NI (let c:=γc .i64;let d:=(0:Int);let e:=δb false;let f:=Ω;let p:=!qs (k,o,a,b,y);let j:=γA (ny (k,o,a,b,y));let m:=(↑y.length:Int);let q:=decide ((40:Int)<m);let g:=(↑y.length:Int);let n:=c g;let l:=iZ.cells [c k,c o,c a,c b,f sF y] 204 5 false;True/\(p=true->(e).bi j)/\(p=false->(q=true->(e).bi j)/\(q=false->((((f sF y).bi (f sF y)/\(c m).bi n/\(γu .i64 0).bi (c 0)/\True)/\l.bi l/\True)/\d<=d/\d<=g/\true=true)/\∀(x:Int),let h:=bN y x.toNat sF.bw;let i:=x+(1:Int);let r:=c i;let s:=λ(u:Bool) ↦(!okF (h.1,h.2.1,h.2.2))=u;d<=x/\x<=g/\(Ξ x.toNat y).all okF=true->(decide (x<g)=true->d<=x/\x<m/\x.toNat<y.length/\((ou h.2.1/\ou h.2.2)/\γf h.2.1<=10000000/\γf h.2.2<=10000000)/\(s true->(e).bi j)/\(s false->TP .i64 i/\(((f sF y).bi (f sF y)/\n.bi n/\r.bi r/\True)/\l.bi l/\True)/\(d<=i/\i<=g/\(Ξ i.toNat y).all okF=true)/\(g - i).toNat<(g - x).toNat))/\(decide (x<g)=false->(δb true).bi j)))) (by kernel_rfl) ?_;simp only[vcs];refine⟨λh=>by simp[ny,h],λz=>⟨λw=>?_,λw=>⟨(by omega),?_⟩⟩⟩
 ·have:¬y.length<=40:=by omega
  simp[ny,this]
 rintro i ⟨i0,i1,hi⟩;refine⟨λt=>?_,λD=>?_⟩
 ·have hm:=cy (d:=sF.bw) (show i.toNat<y.length by omega);have C:=iG (d:=sF.bw) i0 t;refine⟨i0,t,by omega,v _ hm,λh=>?_,λh=>⟨(by omega),⟨by omega,by omega,?_⟩,by omega⟩⟩
  ·have h:okF (bN y i.toNat sF.bw)=false:=h;have:y.all okF=false:=by rw[δO];intro B;have:=τ.1 B _ hm;rw[h] at this;cases this
   simp[ny,this]
  ·have h:okF (bN y i.toNat sF.bw)=true:=h;rw[C,ζ1,hi];simp[h]
 ·rw[show i.toNat=y.length by omega,φ] at hi;have:y.length<=40:=by omega
  simp[ny,z,hi,this]
def mX (k:Int):Bool:=decide (0<=k)&&decide (k<=65536)
def pO (n:cA):Bool:=mX n.2.1&&mX n.2.2.1&&mX n.2.2.2.1&&decide (n.2.2.2.2=[])
def D7:NG:=⟨215,cA,.one (dg Ap),λ_=>True,λn=> .sb (pO n)⟩
theorem IA:d' D7:=by refine bI (L:=[]) D7 (λ_ _=> .aob 4) (by simp) ?_;rintro⟨k,o,a,b,y⟩ _;refine NI (let r:=(0:Int);let s:=δb false;let t:=(65536:Int);let u:=(3:Int);let v:=γA;let j:=bN [o,a,b] 0 r;let g:=decide (j<r);let c:=v (pO (k,o,a,b,y));let m:=decide (t<j);let n:=bN [o,a,b] 1 r;let q:=decide (n<r);let i:=decide (t<n);let p:=bN [o,a,b] 2 r;let l:=decide (p<r);let h:=decide (t<p);let f:=bN [o,a,b] 3 r;let d:=decide (f<r);let e:=decide (t<f);(true=true->r<=r/\r<u/\0<3/\(g=true->(s).bi c)/\(g=false->(m=true->(s).bi c)/\(m=false->(true=true->r<=(1:Int)/\(1:Int)<u/\1<3/\(q=true->(s).bi c)/\(q=false->(i=true->(s).bi c)/\(i=false->(true=true->r<=(2:Int)/\(2:Int)<u/\2<3/\(l=true->(s).bi c)/\(l=false->(h=true->(s).bi c)/\(h=false->(false=true->r<=u/\u<u/\3<3/\(d=true->(s).bi c)/\(d=false->(e=true->(s).bi c)/\(e=false->False)))/\(false=false->(v (decide ((↑y.length:Int)=r))).bi c))))/\(true=false->(v (decide ((↑y.length:Int)=r))).bi c))))/\(true=false->(v (decide ((↑y.length:Int)=r))).bi c))))/\(true=false->(v (decide ((↑y.length:Int)=r))).bi c)) (by kernel_rfl) ?_;simp_all[bN,mX,decide_eq_false,pO]
def rF (n:cA):Bool:=qs n&&decide (n.2.2.2.2=[])
def D6:NG:=⟨219,cA,.one (dg Ap),λ_=>True,λn=> .sb (rF n)⟩
theorem Ix:d' D6:=by refine bI (L:=[Cg]) D6 lk (by grind[y_]) ?_;rintro⟨k,o,a,b,y⟩ _;refine NI (let d:=qs (k,o,a,b,y);let c:=γA (rF (k,o,a,b,y));True/\(d=true->(γA (decide ((↑y.length:Int)=(0:Int)))).bi c)/\(d=false->(δb false).bi c)) (by kernel_rfl) ?_;simp_all[rF]
def D5:pH Unit where
 put _:=.agg [];dec
  | .agg []=>some ()
  |_=>none;ok v a h:=by grind
 inj a b h:=rfl
def D4:NG:=⟨223,Unit,.one D5,λ_=>True,λ_=> .sb false⟩
theorem Iu:d' D4:=by refine bI (L:=[]) D4 lk (by simp) ?_;rintro _ _;refine NI ((δb false).bi (γA false)) (by kernel_rfl) ?_;rfl
def D3:NG:=⟨207,cA,.one (dg Ap),λ_=>True,λ_=> .row (.i .i64) []⟩
theorem IG:d' D3:=by refine bI (L:=[]) D3 lk (by simp) ?_;rintro⟨k,o,a,b,y⟩ _;refine NI (let c:=Ω (cj.i .i64) [];c.bi c) (by kernel_rfl) ?_;simp_all
def D2:NG:=⟨213,cA,.one (dg Ap),λ_=>True,λn=> .row (.i .i64) [n.2.2.1,n.2.2.2.1]⟩
theorem IC:d' D2:=by refine bI (L:=[]) D2 lk (by simp) ?_;rintro⟨k,o,a,b,y⟩ _;refine NI (let c:=Ω (cj.i .i64) [a,b];c.bi c) (by kernel_rfl) ?_;simp_all
def D1:NG:=⟨217,cA,.one (dg Ap),λ_=>True,λ_=> .row (.i .i64) []⟩
theorem Iz:d' D1:=by refine bI (L:=[]) D1 lk (by simp) ?_;rintro⟨k,o,a,b,y⟩ _;refine NI (let c:=Ω (cj.i .i64) [];c.bi c) (by kernel_rfl) ?_;simp_all
def E':NG:=⟨221,Unit,.one D5,λ_=>True,λ_=> .row (.i .i64) []⟩
theorem Iw:d' E':=by refine bI (L:=[]) E' lk (by simp) ?_;rintro _ _;refine NI (let a:=Ω (cj.i .i64) [];a.bi a) (by kernel_rfl) ?_;simp_all
def iX (n:cA):List Int:=if n.1=2 then[n.2.2.1,n.2.2.2.1] else[]
def qu (n:cA):Bool:=if n.1=1 then ny n else if n.1=2 then pO n else if n.1=3 then rF n else false
def gA (t:List cA) (i:Nat):List Int:=(t.take i).flatMap iX
def km (n:Nat) (c:List Int):List Int:=(bL n).map λk=>(c.count k:Int)
def r_ (n:Nat) (i:Int) (c:List Int):List Int->Bool
 |[]=>true
 |x::r=>decide (i<x/\x<n)&&decide (x∉c)&&r_ n i (c++[x]) r
def kc (t:List cA) (i:Nat):Bool:=qu (bN t i Ap.bw)&&r_ t.length i (gA t i) (iX (bN t i Ap.bw))
def dy (t:List cA):Bool:=decide (1<=t.length/\t.length<=65536)&&((Γ t.length).all (kc t)&&(Γ (t.length - 1)).all λk=>decide (((k:Int)+1)∈gA t t.length))
theorem vt {n:Nat} {c:List Int}:(km n c).length=n:=by simp[km,fj]
theorem vr {n j:Nat} {c:List Int} (h:j<n):bN (km n c) j 0=(c.count (j:Int):Nat):=by grind[km,bR,bL]
theorem LM {n:Nat} {c:List Int} {x:Int} (l:0<=x) (g:x<n):(km n c).set x.toNat (bN (km n c) x.toNat 0+1)=km n (c++[x]):=by
 refine γ7 (by grind[vt]) λj h i=>?_;have a:j<n:=by grind[vt]
 have e:x.toNat<n:=by omega
 have b:=@vr n j (c++[x]) a;rw[bR (by omega)] at b;rw[b,List.getElem_set];have k:=@vr n x.toNat c e;by_cases f:x.toNat=j;·grind
 ·rw[if_neg f];have d:=@vr n j c a;rw[bR (by simp_all)] at d;grind
theorem TA {n:Nat}:km n []=δ n 0:=by refine γ7 (by grind[vt]) λj b a=>?_;simp[km]
theorem Kt {t:List cA} {i:Int} (b:0<=i) (a:i<t.length):gA t (i+1).toNat=gA t i.toNat++iX (bN t i.toNat Ap.bw):=by grind[gA,iG]
theorem Tz {t:List cA} {i:Nat} (h:i<t.length) (a:kc t i=false):dy t=false:=by grind[dy]
theorem Ty {t:List cA} {k:Nat} (h:k<t.length - 1) (a:((k:Int)+1)∉gA t t.length):dy t=false:=by unfold dy;grind
def D0:NG:=⟨60,List cA,.one (cP Ap),λt=>∀n∈(show List cA from t),∀x∈n.2.2.2.2,hJ x,λt=> .sb (dy t)⟩
def Tx (t:List cA):Nat->bH
 |5=> .inv Int (λi=>⟨[(0,.row Ap t),(3,.ow 0 t.length 1),(22,.row Ap t),(23,.si .i64 t.length),(24,.si .i64 i)],[.row (.i .i64) (km t.length (gA t i.toNat)) 3 true]⟩) (λs=>iS s 24)
  (λi=>0<=i/\i<=t.length/\∀j:Nat,j<i->kc t j=true) (λi=>(t.length - i).toNat) λ_=>λ
   |11=> .aob 3
   |_=> .look
 |19=> .inv Int (λi=>⟨[(66,.os 0 1 (t.length - 1) t.length 1),(67,.si .i64 (t.length - 1:Nat)),(68,.si .i64 i)],[.row (.i .i64) (km t.length (gA t t.length)) 3 true]⟩) (λs=>iS s 68)
  (λi=>0<=i/\i<=(t.length - 1:Nat)/\∀j:Nat,j<i->((j:Int)+1)∈gA t t.length) (λi=>((t.length - 1:Nat) - i).toNat) λ_ _=> .look
 |_=> .look
theorem II:d' D0:=by
 refine bI (L:=[Ch,D8,D7,D6,D4,D3,D2,D1,E']) D0 Tx (by simpa using⟨za,IE,IA,Ix,Iu,IG,IC,Iz,Iw⟩) ?_;intro(t:List cA) ht;refine NI (let a:=(0:Int);let b:=δb false;let c:=(1:Int);let d:=Ω;let e:=γA;let f:=TP .i64;let g:=γc .i64;let h:=iZ.row;let k:=(2:Int);let l:=γu .i64 0;let p:=(↑t.length:Int);let a9:=decide (p<c);let aa:=decide ((65536:Int)<p);let s:=γZ 0 t.length 1;let o:=(↑t.length:Int);let v:=g o;let C:=cj.i .i64;let E:=decide (p<=a);let R:=t.length - 1;let P:=SV.os 0 1 R t.length 1;let z:=(↑R:Int);let Q:=g z;let M:=km t.length (gA t t.length);let S:=h C M 3 true;(a9=true->(b).bi (e (dy t)))/\(a9=false->(aa=true->(b).bi (e (dy t)))/\(aa=false->a<=p/\p<=p/\p*(8:Int)<=(140737488355328:Int)/\p<=(1000000000000:Int)/\((((d Ap t).bi (d Ap t)/\(γZ 0 p.toNat 1).bi s/\(d Ap t).bi (d Ap t)/\(g p).bi v/\(l).bi (g 0)/\True)/\(h C (δ p.toNat a) 3 true).bi (h C (km t.length (gA t 0)) 3 true)/\True)/\a<=a/\a<=o/\∀(j:Nat),(↑j:Int)<a->kc t j=true)/\∀(x:Int),let F:=decide (a<=x);let G:=km t.length (gA t x.toNat);let n:=G.length;let T:=bN G 0 a;let ab:=decide (a<T);let q:=G.set 0 (T+c);let U:=bN q 0 a;let ac:=decide (a<U);let r:=q.set 0 (U+c);let ad:=bN r 0 a;let ae:=decide (a<ad);let m:=x+c;let y:=g m;let N:=h C (km t.length (gA t m.toNat)) 3 true;let V:=h C G 3 true;let w:=bN t x.toNat Ap.bw;let W:=[w.2.2.1,w.2.2.2.1];let D:=bN W 2 a;let A:=bN W 0 a;let X:=bN G A.toNat a;let H:=G.set A.toNat (X+c);let B:=bN W 1 a;let Y:=bN H B.toNat a;let O:=H.set B.toNat (Y+c);let af:=decide (w.1=c);let I:=(w.1,w.2.1,w.2.2.1,w.2.2.2.1,w.2.2.2.2);let ag:=decide (w.1=k);let ah:=decide (a<X);let ai:=decide (a<Y);let aj:=bN O D.toNat a;let ak:=decide (a<aj);let al:=decide (w.1=(3:Int));let Z:=let am:=λ(u:List Int) ↦false=false->f m/\(((d Ap t).bi (d Ap t)/\s.bi s/\(d Ap t).bi (d Ap t)/\v.bi v/\y.bi y/\True)/\(h C u 3 true).bi N/\True)/\(a<=m/\m<=o/\∀(j:Nat),(↑j:Int)<m->kc t j=true)/\(o - m).toNat<(o - x).toNat;True/\(false=true->a<=a/\a<a/\0<0/\(F=true->(b).bi (e (dy t)))/\(F=false->(E=true->(b).bi (e (dy t)))/\(E=false->t.length=n/\a<=a/\a<(↑n:Int)/\t.length=n/\0<n/\(ab=true->(b).bi (e (dy t)))/\(ab=false->t.length=n/\a<=a/\a<(↑n:Int)/\t.length=n/\0<n/\f (T+c)/\t.length=n/\a<=a/\a<(↑n:Int)/\t.length=n/\0<n/\(false=true->a<=c/\c<a/\1<0/\(F=true->(b).bi (e (dy t)))/\(F=false->(E=true->(b).bi (e (dy t)))/\(E=false->t.length=q.length/\a<=a/\a<(↑q.length:Int)/\t.length=q.length/\0<q.length/\(ac=true->(b).bi (e (dy t)))/\(ac=false->t.length=q.length/\a<=a/\a<(↑q.length:Int)/\t.length=q.length/\0<q.length/\f (U+c)/\t.length=q.length/\a<=a/\a<(↑q.length:Int)/\t.length=q.length/\0<q.length/\(false=true->a<=k/\k<a/\2<0/\(F=true->(b).bi (e (dy t)))/\(F=false->(E=true->(b).bi (e (dy t)))/\(E=false->t.length=r.length/\a<=a/\a<(↑r.length:Int)/\t.length=r.length/\0<r.length/\(ae=true->(b).bi (e (dy t)))/\(ae=false->t.length=r.length/\a<=a/\a<(↑r.length:Int)/\t.length=r.length/\0<r.length/\f (ad+c)/\t.length=r.length/\a<=a/\a<(↑r.length:Int)/\t.length=r.length/\0<r.length/\False))))/\am r))))/\am q))))/\(false=false->f m/\(((d Ap t).bi (d Ap t)/\s.bi s/\(d Ap t).bi (d Ap t)/\v.bi v/\y.bi y/\True)/\V.bi N/\True)/\(a<=m/\m<=o/\∀(j:Nat),(↑j:Int)<m->kc t j=true)/\(o - m).toNat<(o - x).toNat);let a0:=D<(↑O.length:Int);let a1:=D.toNat<O.length;let J:=t.length=O.length;let a2:=B<(↑H.length:Int);let a3:=B.toNat<H.length;let K:=t.length=H.length;let a4:=A<(↑n:Int);let a5:=A.toNat<n;let a6:=a<=D;let a7:=a<=A;let a8:=a<=B;(a<=x/\x<=o/\∀(j:Nat),(↑j:Int)<x->kc t j=true)->(decide (x<o)=true->a<=x/\x<p/\x.toNat<t.length/\True/\(af=true->(∀(x:NH),x∈w.2.2.2.2->hJ x)/\((!ny I)=true->(b).bi (e (dy t)))/\((!ny I)=false->Z))/\(af=false->(ag=true->True/\((!pO I)=true->(b).bi (e (dy t)))/\((!pO I)=false->True/\(true=true->a<=a/\a<k/\0<2/\(decide (A<=x)=true->(b).bi (e (dy t)))/\(decide (A<=x)=false->(decide (p<=A)=true->(b).bi (e (dy t)))/\(decide (p<=A)=false->t.length=n/\a7/\a4/\t.length=n/\a5/\(ah=true->(b).bi (e (dy t)))/\(ah=false->t.length=n/\a7/\a4/\t.length=n/\a5/\f (X+c)/\t.length=n/\a7/\a4/\t.length=n/\a5/\(true=true->a<=c/\c<k/\1<2/\(decide (B<=x)=true->(b).bi (e (dy t)))/\(decide (B<=x)=false->(decide (p<=B)=true->(b).bi (e (dy t)))/\(decide (p<=B)=false->K/\a8/\a2/\K/\a3/\(ai=true->(b).bi (e (dy t)))/\(ai=false->K/\a8/\a2/\K/\a3/\f (Y+c)/\K/\a8/\a2/\K/\a3/\(false=true->a<=k/\k<k/\2<2/\(decide (D<=x)=true->(b).bi (e (dy t)))/\(decide (D<=x)=false->(decide (p<=D)=true->(b).bi (e (dy t)))/\(decide (p<=D)=false->J/\a6/\a0/\J/\a1/\(ak=true->(b).bi (e (dy t)))/\(ak=false->J/\a6/\a0/\J/\a1/\f (aj+c)/\J/\a6/\a0/\J/\a1/\False))))/\(false=false->f m/\(((d Ap t).bi (d Ap t)/\s.bi s/\(d Ap t).bi (d Ap t)/\v.bi v/\y.bi y/\True)/\(h C O 3 true).bi N/\True)/\(a<=m/\m<=o/\∀(j:Nat),(↑j:Int)<m->kc t j=true)/\(o - m).toNat<(o - x).toNat)))))/\(true=false->f m/\(((d Ap t).bi (d Ap t)/\s.bi s/\(d Ap t).bi (d Ap t)/\v.bi v/\y.bi y/\True)/\(h C H 3 true).bi N/\True)/\(a<=m/\m<=o/\∀(j:Nat),(↑j:Int)<m->kc t j=true)/\(o - m).toNat<(o - x).toNat)))))/\(true=false->f m/\(((d Ap t).bi (d Ap t)/\s.bi s/\(d Ap t).bi (d Ap t)/\v.bi v/\y.bi y/\True)/\V.bi N/\True)/\(a<=m/\m<=o/\∀(j:Nat),(↑j:Int)<m->kc t j=true)/\(o - m).toNat<(o - x).toNat)))/\(ag=false->(al=true->True/\((!rF I)=true->(b).bi (e (dy t)))/\((!rF I)=false->Z))/\(al=false->True/\(true=true->(b).bi (e (dy t)))/\(true=false->Z)))))/\(decide (x<o)=false->t.length=n/\1<=t.length/\t.length<=t.length/\(((P.bi P/\Q.bi Q/\(l).bi (g 0)/\True)/\V.bi S/\True)/\a<=a/\a<=z/\∀(j:Nat),(↑j:Int)<a->(↑j:Int)+c∈gA t t.length)/\∀(x:Int),let an:=decide (bN M (1+x.toNat) 0=a);let L:=x+c;let ao:=g L;(a<=x/\x<=z/\∀(j:Nat),(↑j:Int)<x->(↑j:Int)+c∈gA t t.length)->(decide (x<z)=true->t.length=M.length/\a<=x/\x<z/\1+R<=t.length/\t.length=M.length/\1+x.toNat<M.length/\(an=true->(b).bi (e (dy t)))/\(an=false->f L/\((P.bi P/\Q.bi Q/\ao.bi ao/\True)/\S.bi S/\True)/\(a<=L/\L<=z/\∀(j:Nat),(↑j:Int)<L->(↑j:Int)+c∈gA t t.length)/\(z - L).toNat<(z - x).toNat))/\(decide (x<z)=false->(δb true).bi (e (dy t))))))) (by kernel_rfl) ?_;simp only[vcs];refine⟨λh=>?_,λh1=>⟨λh=>?_,λh2=>?_⟩⟩
 ·have:¬(1<=t.length/\t.length<=65536):=by omega
  simp[dy,this]
 ·have:¬(1<=t.length/\t.length<=65536):=by omega
  simp[dy,this]
 have hrow:∀{x y:List Int},x=y->(iZ.row (.i .i64) x 3 true).bi (iZ.row (.i .i64) y 3 true):=by rintro _ _ rfl;rfl
 have how:∀{x y:Nat},x=y->(γZ 0 x 1).bi (γZ 0 y 1):=by rintro _ _ rfl;rfl
 refine⟨by omega,by omega,by omega,by omega,⟨⟨how (by omega),hrow ?_⟩,by omega,by omega,λj hj=>by omega⟩,?_⟩;·rw[show gA t 0=[] from rfl,TA];simp
 rintro i ⟨i0,i1,hi⟩;refine⟨λhlt=>?_,λhge=>?_⟩
 ·have hil:i.toNat<t.length:=by omega
  have hm:=ht _ (cy (d:=Ap.bw) hil);have hs:=Kt i0 hlt;have hg:kc t i.toNat=(qu (bN t i.toNat Ap.bw)&&r_ t.length i (gA t i.toNat) (iX (bN t i.toNat Ap.bw))):=by unfold kc;rw[show((i.toNat:Nat):Int)=i by omega]
  generalize bN t i.toNat Ap.bw=N at*;obtain⟨k,o,a,b,y⟩:=N;generalize hc:gA t i.toNat=c at*;have no:kc t i.toNat=false->false=dy t:=λh=>(Tz hil h).symm;have fin:kc t i.toNat=true->(∀j:Nat,(j:Int)<i+1->kc t j=true):=λh j hj=>by
   by_cases h2:(j:Int)<i;·exact hi j h2
   ·rw[show j=i.toNat by omega];exact h
  have hl:=@vt t.length c;have w1:k=1->qu (k,o,a,b,y)=ny (k,o,a,b,y):=λh=>if_pos h;have w2:¬k=1->k=2->qu (k,o,a,b,y)=pO (k,o,a,b,y):=λh h'=>(if_neg h).trans (if_pos h');have w3:¬k=1->¬k=2->k=3->qu (k,o,a,b,y)=rF (k,o,a,b,y):=λh h' h''=>(if_neg h).trans ((if_neg h').trans (if_pos h''));have w4:¬k=1->¬k=2->¬k=3->qu (k,o,a,b,y)=false:=λh h' h''=>(if_neg h).trans ((if_neg h').trans (if_neg h''));have kd1:¬k=2->iX (k,o,a,b,y)=[]:=λh=>if_neg h;have kd2:k=2->iX (k,o,a,b,y)=[a,b]:=λh=>if_pos h;have ea:bN [a,b] 0 0=a:=rfl;have eb:bN [a,b] 1 0=b:=rfl;dsimp only;simp only[ea,eb];refine⟨i0,hlt,hil,λh1=>⟨hm,λhw=>no ?_,λhw=>⟨λh=>(by cases h),λ_=>⟨(by omega),hrow ?_,⟨by omega,by omega,fin ?_⟩,by omega⟩⟩⟩,λh1=>⟨λh2=>?_,λh2=>⟨λh3=>⟨λhw=>no ?_,λhw=>⟨λh=>(by cases h),λ_=>⟨(by omega),hrow ?_,⟨by omega,by omega,fin ?_⟩,by omega⟩⟩⟩,λh3=>⟨λ_=>no ?_,λh=>(by cases h)⟩⟩⟩⟩;·rw[hg,w1 h1,hw];rfl
  ·rw[hs,kd1 (by omega),γ1]
  ·rw[hg,w1 h1,kd1 (by omega),hw];rfl
  ·have hg2:kc t i.toNat=(pO (k,o,a,b,y)&&(decide (i<a/\a<t.length)&&decide (a∉c)&&(decide (i<b/\b<t.length)&&decide (b∉c++[a])&&true))):=by rw[hg,w2 h1 h2,kd2 h2];rfl
   rw[kd2 h2] at hs;refine⟨λhw=>no ?_,λhw=>⟨λ_=>⟨by omega,by omega,by omega,λha=>no ?_,λha=>⟨λhb=>no ?_,λhb=>?_⟩⟩,λh=>(by cases h)⟩⟩;·rw[hg2,hw];rfl
   ·rw[hg2,decide_eq_false (p:=i<a/\a<t.length) (by omega)];simp
   ·rw[hg2,decide_eq_false (p:=i<a/\a<t.length) (by omega)];simp
   have hat:a.toNat<t.length:=by omega
   have ca:=@vr t.length a.toNat c hat;rw[show((a.toNat:Nat):Int)=a by omega] at ca;have pa:=@LM t.length c a (by omega) (by omega);have la:0<=a/\a<(km t.length c).length:=by rw[hl];omega
   have la2:a.toNat<(km t.length c).length:=by rw[hl];exact hat
   refine⟨hl.symm,la.1,la.2,hl.symm,la2,λhc1=>no ?_,λhc1=>⟨hl.symm,la.1,la.2,hl.symm,la2,(by omega),hl.symm,la.1,la.2,hl.symm,la2,λ_=>?_,λh=>(by cases h)⟩⟩
   ·have:a∈c:=δW.1 (by omega);rw[hg2,decide_eq_false (p:=a∉c) (by simpa using this)];simp
   have hac:a∉c:=λh=>by have:=δW.2 h;omega
   simp only[pa];have hl2:=@vt t.length (c++[a]);refine⟨by omega,by omega,by omega,λhb1=>no ?_,λhb1=>⟨λhb2=>no ?_,λhb2=>?_⟩⟩;·rw[hg2,decide_eq_false (p:=i<b/\b<t.length) (by omega)];simp
   ·rw[hg2,decide_eq_false (p:=i<b/\b<t.length) (by omega)];simp
   have hbt:b.toNat<t.length:=by omega
   have cb:=@vr t.length b.toNat (c++[a]) hbt;rw[show((b.toNat:Nat):Int)=b by omega] at cb;have pb:=@LM t.length (c++[a]) b (by omega) (by omega);have lb:0<=b/\b<(km t.length (c++[a])).length:=by rw[hl2];omega
   have lb2:b.toNat<(km t.length (c++[a])).length:=by rw[hl2];exact hbt
   refine⟨hl2.symm,lb.1,lb.2,hl2.symm,lb2,λhc2=>no ?_,λhc2=>⟨hl2.symm,lb.1,lb.2,hl2.symm,lb2,(by omega),hl2.symm,lb.1,lb.2,hl2.symm,lb2,λh=>(by cases h),λ_=>⟨(by omega),hrow ?_,⟨by omega,by omega,fin ?_⟩,by omega⟩⟩⟩
   ·have:b∈c++[a]:=δW.1 (by omega);rw[hg2,decide_eq_false (p:=b∉c++[a]) λh=>h this];simp
   ·rw[pb,hs,γV];rfl
   ·have hbc:b∉c++[a]:=λh=>by have:=δW.2 h;omega
    rw[hg2,hw,decide_eq_true (p:=i<a/\a<t.length) (by omega),decide_eq_true (p:=i<b/\b<t.length) (by omega),decide_eq_true hac,decide_eq_true hbc];rfl
  ·rw[hg,w3 h1 h2 h3,hw];rfl
  ·rw[hs,kd1 h2,γ1]
  ·rw[hg,w3 h1 h2 h3,kd1 h2,hw];rfl
  ·rw[hg,w4 h1 h2 h3];rfl
 ·rw[show i.toNat=t.length by omega];have hl:=@vt t.length (gA t t.length);refine⟨hl.symm,by omega,by omega,⟨hrow rfl,by omega,by omega,λj hj=>by omega⟩,?_⟩;rintro x ⟨x0,x1,hx⟩;refine⟨λhlt=>?_,λazl=>?_⟩
  ·have cx:=@vr t.length (1+x.toNat) (gA t t.length) (by omega);rw[show(((1+x.toNat:Nat)):Int)=(x.toNat:Int)+1 by omega] at cx;refine⟨hl.symm,x0,hlt,by omega,hl.symm,by rw[hl];omega,λh=>?_,λh=>⟨(by omega),⟨by omega,by omega,λj hj=>?_⟩,by omega⟩⟩;·exact(Ty (k:=x.toNat) (by omega) λhm=>by have:=δW.2 hm;omega).symm
   ·by_cases hj2:(j:Int)<x;·exact hx j hj2
    ·rw[show j=x.toNat by omega];exact δW.1 (by omega)
  ·symm;unfold dy;rw[decide_eq_true (by omega),τ.2 λk hk=>hi k (by have:=γt.1 hk;omega),τ.2 λk hk=>decide_eq_true (hx k (by have:=γt.1 hk;omega))];rfl
theorem qv {W:Int} (a: -9223372036854775808<=W) (b:W<=9223372036854775807):Sz 2 (W:Rat):=by unfold Sz;simp;omega
def iy (p:ew) (y:List Rat) (r:Nat) (i:Int):Rat:=((oI p i).value:Rat) - OA r λk=>bN y k 0*((dE p k (oI p i):Int):Rat)
def jU (p:ew) (f:List Int) (y:List Rat) (r:Nat):Rat:=((fX p f:Int):Rat)+OA r λk=>bN y k 0*((cB p k - bZ p ((Ao f 1).map (oI p)) k:Int):Rat)
def lH (p:ew) (f:List Int) (r:Int) (k:Nat):Int:=cB p r - bZ p ((Ao (f.take k) 1).map (oI p)) r
theorem Tw {a:Type} {n j:Nat} (g:Int->a) (d:a) (h:j<n):bN ((bL n).map g) j d=g j:=by grind[bR,bL]
theorem DZ {c:Type} {a b:List c} (d:c) (e:a.length=b.length) (h:∀j,j<a.length->bN a j d=bN b j d):a=b:=by refine γ7 e λj f g=>?_;grind[bR]
theorem Tv {p:ew} {f:List Int} {y:List Rat}:jU p f y 0=((fX p f:Int):Rat):=by grind[jU,OA]
theorem Ks {p:ew} {f:List Int} {y:List Rat} {r:Nat}:jU p f y (r+1)=jU p f y r+bN y r 0*((cB p r - bZ p ((Ao f 1).map (oI p)) r:Int):Rat):=by grind[jU,OA]
theorem DY {p:ew} {y:List Rat} {r:Nat} {i:Int}:iy p y (r+1) i=iy p y r i - bN y r 0*((dE p r (oI p i):Int):Rat):=by grind[iy,OA]
theorem Kr {p:ew} {r:Int}:(gG p r p.bj.length).length=p.bj.length:=by grind[gG]
theorem Tu {p:ew} {r i:Int} (h:0<=i/\i<p.bj.length):bN (gG p r p.bj.length) i.toNat 0=dE p r (oI p i):=by grind[gG,bR,oI]
theorem Tt {p:ew} {f:List Int} {r:Int}:lH p f r 0=cB p r:=by simp_all[lH,Ao,bL,bZ]
theorem Ts {p:ew} {f:List Int} {r k:Int} (a:0<=k) (h:k<f.length):lH p f r (k+1).toNat=lH p f r k.toNat - if bN f k.toNat 0=1 then dE p r (oI p k) else 0:=by grind[lH,xI,bZ]
theorem Kq {p:ew} {f:List Int} {r:Int}:lH p f r f.length=cB p r - bZ p ((Ao f 1).map (oI p)) r:=by grind[lH]
theorem Kp {p:ew} {f:List Int} {r:Int} {k:Nat} (a:nW p=0) (j:f.length=p.bj.length): -640<=lH p f r k/\lH p f r k<=4:=by
 have g:=@xl p a r;have b:=@qO p r ((Ao (f.take k) 1).map (oI p)) λx d=>by obtain⟨i,e,rfl⟩:=Δ.1 d;have:=(kf.1 e).1;rw[γx] at this;exact(jP a (i:=i) (by omega)).2.2.1
 have c:=@rI (f.take k) 1;rw[Φ] at b;rw[γx] at c;have h:=(cT a).2.1;grind[lH]
section
variable {p:ew} {f:List Int}
theorem Tq (h:ec p f) {i:Int} (c:0<=i/\i<f.length) (d:bN f i.toNat 0=0):iy p (gS p f) (mF p) i<=0:=by
 have a:i∈Ao f 0:=kf.2 ⟨c,d⟩;have b:(Ao f 0).idxOf i<nF f:=List.idxOf_lt_length_of_mem a;have g:=Up h b;have e:bN (Ao f 0) ((Ao f 0).idxOf i) 0=i:=by grind[bR]
 grind[xL,cU,uU,iy]
theorem Tp (h:ec p f):jU p f (gS p f) (mF p)=jO p f:=by grind[jU,jO,LH,cU,uT]
end
def mU (p:ew) (f:List Int) (y:List Rat) (r k:Nat) (i:Int):Rat:=if bN f i.toNat 0=0 then iy p y (if i<(k:Int) then r+1 else r) i else(((oI p i).value:Int):Rat)
def gq (p:ew) (f:List Int) (y:List Rat) (r k:Nat):List NH:=(bL p.bj.length).map λ(i:Int)=>nf (mU p f y r k i)
def iw (p:ew) (f:List Int) (y:List Rat) (i:Nat):Rat:=jU p f y (mF p)+OA i λk=>if bN f k 0=0/\0<iy p y (mF p) k then iy p y (mF p) k else 0
def qp (n:Nat) (K:Nat->Nat):Nat:=match n with
 |0=>0
 |n+1=>qp n K+K n
def uN (p:ew) (y:List Rat):Prop:=∃K:Nat->Nat,(∀k,k<mF p->Sz (K k) (bN y k 0))/\qp (mF p) K<=9000000
def sY (p:ew) (f:List Int) (x:List NH):Prop:=(nW p=0/\f.length=p.bj.length/\jg f=true)/\∃y,x=fL y/\y.length=mF p/\uN p y
def di (x:List NH):Bool:=x.all λe=>!e.1
theorem vq {p:ew} {f:List Int} {y:List Rat} {r k:Nat}:(gq p f y r k).length=p.bj.length:=by grind[gq,fj]
theorem vp {p:ew} {f:List Int} {y:List Rat} {r k j:Nat} (h:j<p.bj.length) {d:NH}:bN (gq p f y r k) j d=nf (mU p f y r k j):=Tw _ _ h
theorem Eu {p:ew} {f:List Int} {y:List Rat} {r k a b:Nat} (h:∀j:Nat,j<p.bj.length->mU p f y r k j=mU p f y a b j):gq p f y r k=gq p f y a b:=by refine DZ (false,([],[])) (by grind[vq]) λj c=>?_;grind[vq,vp]
theorem To {p:ew} {f:List Int} {y:List Rat} {i:Int} (a:0<=i):mU p f y 0 0 i=(((oI p i).value:Int):Rat):=by unfold mU;rw[if_neg (show ¬i<((0:Nat):Int) by omega)];grind[iy,OA]
theorem Tn {p:ew} {f:List Int} {y:List Rat} {r:Nat}:gq p f y r p.bj.length=gq p f y (r+1) 0:=Eu λj a=>by simp_all[mU,if_neg]
theorem Et {p:ew} {f:List Int} {y:List Rat} {r:Nat} {k:Int} (c:0<=k) (h:bN f k.toNat 0≠0\/dE p r (oI p k)=0\/bN y r 0=0):gq p f y r k.toNat=gq p f y r (k+1).toNat:=Eu λj a=>by
 unfold mU;by_cases a:(j:Int)=k
 ·rw[if_neg (show ¬(j:Int)<((k.toNat:Nat):Int) by omega),if_pos (show(j:Int)<(((k+1).toNat:Nat):Int) by omega),a];split
  ·rename_i b;rw[DY];rcases h with h|h|h;·omega
   ·rw[h];grind
   ·rw[h];grind
  ·rfl
 grind
theorem Tm {p:ew} {f:List Int} {y:List Rat} {r:Nat} (h:bN y r 0=0):gq p f y r 0=gq p f y (r+1) 0:=Eu λj a=>by unfold mU;rw[if_neg (show ¬(j:Int)<((0:Nat):Int) by omega),if_neg (show ¬(j:Int)<((0:Nat):Int) by omega),DY,h];split<;>grind
theorem Tl {p:ew} {f:List Int} {y:List Rat} {r:Nat} {k:Int} (c:0<=k) (h:k<p.bj.length) (b:bN f k.toNat 0=0):(gq p f y r k.toNat).set k.toNat (nf (iy p y (r+1) k))=gq p f y r (k+1).toNat:=by refine DZ (false,([],[])) (by grind[vq]) λj a=>?_;rw[γm,vq] at a;rw[gU (by grind[vq]),vp a,vp a];unfold mU;grind
theorem Tk {p:ew} {f:List Int} {y:List Rat} {r:Nat} {k:Int} (b:0<=k) (a:bN f k.toNat 0=0):mU p f y r k.toNat k=iy p y r k:=by unfold mU;grind
theorem Tj {p:ew} {f:List Int} {y:List Rat} {r:Nat} (h:bN y r 0=0):jU p f y r=jU p f y (r+1):=by grind[Ks]
theorem Ko {p:ew} {f:List Int} {y:List Rat}:iw p f y 0=jU p f y (mF p):=by grind[iw,OA]
theorem Kn {p:ew} {f:List Int} {y:List Rat} {i:Int} (a:0<=i):iw p f y (i+1).toNat=iw p f y i.toNat+if bN f i.toNat 0=0/\0<iy p y (mF p) i then iy p y (mF p) i else 0:=by rw[show(i+1).toNat=i.toNat+1 by omega];grind[iw,OA]
section
variable {p:ew} {f:List Int} {y:List Rat}
theorem Km {K:Nat->Nat}:∀{n k:Nat},k<n->K k<=qp n K
 |0,_,h=>by omega;|n+1,k,h=>by
  simp only[qp];by_cases e:k=n;·rw[e];omega
  ·have:=@Km K n k (by omega);omega
theorem Kl {g:Nat->Rat} {K:Nat->Nat} {c:Nat}:∀{n:Nat},(∀k,k<n->Sz (K k+c) (g k))->Sz (qp n K+n*(c+1)+1) (OA n g)
 |0,_=>by simp only[OA];exact(show Sz 1 0 by simp_all[Sz]).mono (by omega);|n+1,h=>by simp only[OA,qp];have a:Sz (qp n K+n*(c+1)+1) (OA n g):=Kl λk b=>h k (by omega);exact(xR a (h n (by omega))).mono (by grind)
theorem Kk (h:uN p y) {k:Nat} (a:k<mF p):Sz 9000000 (bN y k 0):=by obtain⟨K,b,c⟩:=h;exact(b k a).mono (by have:=@Km K _ _ a;omega)
def oP (y:List Rat) (m:Nat) (C:Int) (q:Rat):Prop:=∃(c:Int) (z:Nat->Int),(-C<=c/\c<=C)/\(∀r,r<m-> -C<=z r/\z r<=C)/\q=(c:Rat)+OA m λr=>bN y r 0*((z r:Int):Rat)
theorem Ti {m:Nat} {C D:Int} {q b:Rat} (h:oP y m C q) (j:oP y m D b):oP y m (C+D) (q+b):=by
 obtain⟨c,z,l,o,n⟩:=h;obtain⟨f,a,g,d,i⟩:=j;refine⟨c+f,λr=>z r+a r,by omega,λr k=>?_,?_⟩;·grind
 ·have e:(OA m λr=>bN y r 0*(((z r+a r:Int)):Rat))=(OA m λr=>bN y r 0*((z r:Int):Rat))+OA m λr=>bN y r 0*((a r:Int):Rat):=by simp_all[ve,Rat.mul_add]
  grind
theorem Th {m:Nat} {C D:Int} {q:Rat} (h:oP y m C q) (f:C<=D):oP y m D q:=by obtain⟨c,z,b,e,a⟩:=h;exact⟨c,z,by omega,λr d=>by grind,a⟩
theorem Tg {m:Nat} {C:Int} (a:0<=C):oP y m C 0:=⟨0,λ_=>0,by omega,λ_ _=>⟨by simp_all,a⟩,by simp_all[ic,ζ3]⟩
theorem Es {C:Int} {q:Rat} (h:oP y (mF p) C q) (g:C<=9223372036854775807) (b:uN p y) (j:mF p<=20):Sz 9000100 q:=by
 obtain⟨c,z,k,f,rfl⟩:=h;obtain⟨K,i,d⟩:=b;have a:Sz (qp (mF p) K+mF p*3+1) (OA (mF p) λr=>bN y r 0*((z r:Int):Rat)):=Kl (c:=2) λr e=>by grind[rP,qv]
 refine(xR (qv (W:=c) (by omega) (by omega)) a).mono ?_;omega
theorem Kj {g:Nat->Rat} {r:Nat}:∀{m:Nat},r<=m->(OA m λk=>if k<r then g k else 0)=OA r g
 |0,h=>by rw[show r=0 by omega];rfl;|m+1,h=>by
  by_cases e:r=m+1;·simp_all[cU]
  ·simp only[OA];rw[if_neg (by omega),ζ3];exact Kj (by omega)
theorem Ki {r m:Nat} (a:r<=m) {C c:Int} {z:Nat->Int} (b: -C<=c/\c<=C) (e:∀k,k<r-> -C<=z k/\z k<=C):oP y m C ((c:Rat)+OA r λk=>bN y k 0*((z k:Int):Rat)):=by
 refine⟨c,λk=>if k<r then z k else 0,b,λk d=>?_,?_⟩;·grind
 ·rw[<-Kj a];congr 1;refine cU λk _=>?_;show _=bN y k 0*(((if k<r then z k else 0:Int)):Rat);split<;>simp_all
theorem Kh (d:nW p=0) {r:Nat} (a:r<=mF p) {i:Int} (c:0<=i/\i<p.bj.length):oP y (mF p) 1000000 (iy p y r i):=by
 have b:=jP d c;have h:=@Ki y r (mF p) a 1000000 (oI p i).value (λk=> -dE p k (oI p i)) (by omega) λk _=>by have:=@oF p k _ b.2.2.1;omega
 have e:iy p y r i=(((oI p i).value:Int):Rat)+OA r λk=>bN y k 0*(((-dE p k (oI p i):Int)):Rat):=by unfold iy;rw[θg];congr 1;rw[show(-(OA r λk=>bN y k 0*((dE p k (oI p i):Int):Rat)))=(-1)*(OA r λk=>bN y k 0*((dE p k (oI p i):Int):Rat)) by grind,<-tQ];grind
 simp_all
theorem Kg (b:nW p=0) (a:f.length=p.bj.length) {r:Nat} (d:r<=mF p):oP y (mF p) 1000000000 (jU p f y r):=by have c:=@xH p b f f.length a;rw[φ] at c;unfold jU;refine Ki d (by omega) λk _=>?_;have e:=@Kp p f k f.length b a;grind[Kq]
theorem Kf (e:nW p=0) (c:f.length=p.bj.length):∀{i:Nat},i<=f.length->oP y (mF p) (1000000000+1000000*i) (iw p f y i)
 |0,_=>by grind[Ko,Kg];|i+1,h=>by
  have a:=@Kn p f y i (by omega);rw[show((i:Int)+1).toNat=i+1 by omega,γg] at a;rw[a];have b:=Kf e c (i:=i) (by omega);have d:oP y (mF p) 1000000 (if bN f i 0=0/\0<iy p y (mF p) i then iy p y (mF p) i else 0):=by grind[Kh,Tg]
  exact Th (Ti b d) (by omega)
theorem Cf (a:nW p=0):mF p<=20:=by have:=(cT a).1;grind
theorem Ke (a:nW p=0) (d:uN p y) {r:Nat} (b:r<=mF p) {i:Int} (c:0<=i/\i<p.bj.length):Sz 9000100 (iy p y r i):=Es (Kh a b c) (by omega) d (Cf a)
theorem T5 (a:nW p=0) (c:f.length=p.bj.length) (d:uN p y) {r:Nat} (b:r<=mF p):Sz 9000100 (jU p f y r):=Es (Kg a c b) (by omega) d (Cf a)
theorem Kd (a:nW p=0) (c:f.length=p.bj.length) (b:uN p y) {i:Nat} (d:i<=f.length):Sz 9000100 (iw p f y i):=Es (Kf a c d) (by have:=(cT a).2.1;omega) b (Cf a)
end
def T4 (f:FuncId) {c:Type} (A:oJ c) (e:c->Prop) (d:c->SV):cC where
 f:=f;α:=c;put:=A.put;st _:=[];dec v o:=match o with
  |[]=>A.dec v
  |_=>none;ok v o a h:=by
  split at h;·exact⟨A.ok _ _ h,rfl⟩
  ·cases h
 inj a b h _:=A.inj _ _ h;dom:=e;res:=d;out _:=[]
def Er:cC:=T4 135 (.cons cI (.one (cP (.i .i64)))) (λ(a:ew×List Int)=>nW a.1=0/\a.2.length=a.1.bj.length) λa=>oa (κ (fX a.1 a.2))
def T3 (p:ew) (f:List Int):Nat->bH
 |3=> .inv Int (λi=>⟨[(2,.ptr 0 0 20),(4,.ptr 1 0 3),(5,.si .i64 (fX p (f.take i.toNat))),(8,.row (.i .i64) f),(9,.si .i64 f.length),(10,.si .i64 i)],[.cells p.ss 27 20 false,.cells [.bl false,.sc (.slice none 0 0),.sc (.slice none 0 0)] 177 3 false]⟩)
   (λs=>iS s 10) (λi=>0<=i/\i<=f.length) (λi=>(f.length - i).toNat) λ_ _=> .look
 |_=> .look
theorem zt:g' Er:=by
 refine xC (L:=[mR]) (W:=[]) Er (λa=>T3 a.1 a.2) (by simp) (by simpa using n_) ?_;rintro⟨p,f⟩ ⟨hc,C⟩;simp only at hc C;refine NI (let a:=γc .i64;let b:=(0:Int);let c:=Ω;let h:=γM 0 0 20;let j:=γM 1 0 3;let s:=γu .i64 0;let k:=c (cj.i .i64) f;let d:=(↑f.length:Int);let o:=a d;let l:=iZ.cells (ew.ss p) 27 20 false;let t:=ζY (Value.slice none 0 0);let m:=iZ.cells [δb false,t,t] 177 3 false;let n:=cj.i .u32;let q:=nf (κ (fX p f));(((h.bi h/\j.bi j/\s.bi (a (fX p []))/\k.bi k/\(a (↑f.length:Int)).bi o/\s.bi (a 0)/\True)/\l.bi l/\m.bi m/\True)/\b<=b/\b<=d)/\∀(x:Int),let e:=x+(1:Int);let v:=a e;let w:=decide (bN f x.toNat b=(1:Int));let g:=fX p (Ξ x.toNat f);let y:=g+(bN p.bj x.toNat cj.bu.bw).value;let r:=nf (κ g);let z:=λ(u:Int) ↦TP .i64 e/\((h.bi h/\j.bi j/\(a u).bi (a (fX p (Ξ e.toNat f)))/\k.bi k/\o.bi o/\v.bi v/\True)/\l.bi l/\m.bi m/\True)/\(b<=e/\e<=d)/\(d - e).toNat<(d - x).toNat;b<=x/\x<=d->(decide (x<d)=true->b<=x/\x<(↑f.length:Int)/\x.toNat<f.length/\(w=true->b<=x/\x<(↑p.bj.length:Int)/\x.toNat<p.bj.length/\TP .i64 y/\z y)/\(w=false->z g))/\(decide (x<d)=false->((-9223372036854775808:Int)<=g/\g<=(9223372036854775807:Int))/\(γG [γA r.1,c n r.2.1,c n r.2.2]).bi (γG [γA q.1,c n q.2.1,c n q.2.2])/\True)) (by kernel_rfl) ?_;simp only[vcs];have D:=(cT hc).2.1;refine⟨⟨by simp[fX,Ao,bL,bE],by omega⟩,?_⟩;rintro i ⟨i0,i1⟩;have F:=@xH p hc f i.toNat C;refine⟨λhi=>?_,λhi=>?_⟩
 ·have B:=@La p f i i0 hi;have H:=jP hc (i:=i) ⟨i0,by omega⟩;have E:(bN p.bj i.toNat cj.bu.bw).value=(oI p i).value:=rfl;rw[E];refine⟨i0,hi,by omega,λh1=>?_,λh1=>?_⟩
  ·rw[if_pos h1] at B;refine⟨i0,?_,?_,?_,?_,?_,?_,?_⟩<;>omega
  ·rw[if_neg h1] at B;refine⟨?_,?_,?_,?_⟩<;>omega
 ·rw[show f.take i.toNat=f by rw[show i.toNat=f.length by omega,φ]] at F ⊢;exact⟨by omega,rfl⟩
def Rx (p:ew) (f:List Int) (x:List NH):SV:=.agg [.sb (if di x=true then(nf (iw p f (vL x) f.length)).1 else false),.row (.i .u32) (if di x=true then(nf (iw p f (vL x) f.length)).2.1 else[]),.row (.i .u32) (if di x=true then(nf (iw p f (vL x) f.length)).2.2 else[])]
def Ep:NG:=⟨210,ew×List Int×List NH,.cons cI (.cons (cP (.i .i64)) (.one (cP sF))),λa=>sY a.1 a.2.1 a.2.2,λa=> .IL [Rx a.1 a.2.1 a.2.2,.si .i64 (if di a.2.2=true then 0 else 4)]⟩
def Ce (p:ew) (q:Rat) (ex:List NH):VI:=[.cells p.ss 27 20 false,.cells [.bl false,.sc (.slice none 0 0),.sc (.slice none 0 0)] 177 3 false,.cells [.sb (nf q).1,.row (.i .u32) (nf q).2.1,.row (.i .u32) (nf q).2.2] 177 3 false,.row sF ex 177 true]
noncomputable def T2 (p:ew) (f:List Int) (x:List NH):Nat->bH
 |7=> .inv Int (λi=>⟨[(1,.row (.i .i64) f),(2,.row sF x),(3,.ptr 0 0 20),(6,.ptr 1 0 3),(35,.row sF x),(36,.si .i64 x.length),(37,.si .i64 i)],[.cells p.ss 27 20 false,.cells [.bl false,.sc (.slice none 0 0),.sc (.slice none 0 0)] 177 3 false]⟩)
   (λs=>iS s 37) (λi=>0<=i/\i<=x.length/\di (x.take i.toNat)=true) (λi=>(x.length - i).toNat) λ_ _=> .look
 |17=> .inv Int (λi=>⟨[(1,.row (.i .i64) f),(2,.row sF x),(3,.ptr 0 0 20),(6,.ptr 1 0 3),(11,.ptr 2 0 3),(12,.ow 3 f.length 3),(57,.si .i64 f.length),(58,.si .i64 i)],Ce p (κ (fX p f)) (dZ (gq p f (vL x) 0 0) i.toNat (false,([],[])))⟩)
   (λs=>iS s 58) (λi=>0<=i/\i<=f.length) (λi=>(f.length - i).toNat) λ_ _=> .look
 |22=> .inv Int (λr=>⟨[(1,.row (.i .i64) f),(3,.ptr 0 0 20),(6,.ptr 1 0 3),(11,.ptr 2 0 3),(12,.ow 3 f.length 3),(72,.row sF x),(73,.si .i64 x.length),(74,.si .i64 r)],Ce p (jU p f (vL x) r.toNat) (gq p f (vL x) r.toNat 0)⟩)
   (λs=>iS s 74) (λr=>0<=r/\r<=x.length) (λr=>(x.length - r).toNat) λr k=>match k with
   |27=> .inv Int (λk=>⟨[(1,.row (.i .i64) f),(3,.ptr 0 0 20),(6,.ptr 1 0 3),(11,.ptr 2 0 3),(12,.ow 3 f.length 3),(15,.ptr 4 0 3),(17,.si .i64 (lH p f r k.toNat)),(72,.row sF x),(73,.si .i64 x.length),(74,.si .i64 r),(88,.row (.i .i64) (gG p r p.bj.length)),(89,.si .i64 f.length),(90,.si .i64 k)],
      Ce p (jU p f (vL x) r.toNat) (gq p f (vL x) r.toNat k.toNat)++[.cells [.sb (bN x r.toNat sF.bw).1,.row (.i .u32) (bN x r.toNat sF.bw).2.1,.row (.i .u32) (bN x r.toNat sF.bw).2.2] 177 3 false]⟩)
     (λs=>iS s 90) (λk=>0<=k/\k<=f.length) (λk=>(f.length - k).toNat) λ_ _=> .look
   |_=> .look
 |38=> .inv Int (λi=>⟨[(6,.ptr 1 0 3),(11,.ptr 2 0 3),(12,.ow 3 f.length 3),(133,.row (.i .i64) f),(134,.si .i64 f.length),(135,.si .i64 i)],Ce p (iw p f (vL x) i.toNat) (gq p f (vL x) (mF p) 0)⟩)
   (λs=>iS s 135) (λi=>0<=i/\i<=f.length) (λi=>(f.length - i).toNat) λ_ _=> .look
 |_=> .look
theorem ID:d' Ep:=by
 refine jY (L:=[BX,vk,rQ,qx,mR,Ay,xN,w_,tJ]) (W:=fH [Er]) Ep (λa=>T2 a.1 a.2.1 a.2.2) (j6 (by simpa using zt)) (by simpa using⟨zf,rm,n4,sZ,n_,zh,uF,CN,pI⟩) ?_;rintro⟨p,f,x⟩ ⟨⟨hc,hl,hr⟩,y,hx,hyl,hy⟩;simp only at hc hl hr hx hyl hy;refine NI (let a:=Ω;let c:=γc .i64;let d:=(0:Int);let e:=iZ.cells;let g:=iZ.row;let h:=(-9223372036854775808:Int);let j:=(9223372036854775807:Int);let k:=TP .i64;let l:=γA;let m:=(1:Int);let n:=γu .i64;let o:=sF.bw;let q:=SV.IL;let r:=γM;let s:=δb false;let t:=γG;let v:=cj.i .i64;let am:=t [s,a v [],a v []];let an:=nf (iw p f (vL x) f.length);let w:=cj.i .u32;let ad:=q [t [l (if di x=true then an.1 else false),a w (if di x=true then an.2.1 else[]),a w (if di x=true then an.2.2 else[])],c (if di x=true then d else(4:Int))];let T:=(↑x.length:Int);let aK:=if nW p=d then cr p else d;let E:=r 0 0 20;let z:=r 1 0 3;let F:=(↑x.length:Int);let G:=c F;let U:=n 0;let A:=e [c p.bm.a0,c p.bm.a1,c p.bm.a2,c p.bm.a3,c p.bm.a4,c p.bm.a5,c p.bs.a0,c p.bs.a1,c p.bs.a2,c p.bs.a3,c p.bs.a4,c p.bs.a5,c p.bt.a0,c p.bt.a1,c p.bt.a2,c p.bt.a3,c p.bt.a4,c p.bt.a5,a v p.bk,a cj.bu p.bj] 27 20 false;let aL:=ζY (Value.slice none 0 0);let B:=e [s,aL,aL] 177 3 false;let aM:=p.bj.length;let I:=(↑f.length:Int);let C:=r 2 0 3;let D:=γZ 3 f.length 3;let y:=(↑f.length:Int);let H:=c y;let V:=nf (κ (fX p f));let ae:=e [l V.1,a w V.2.1,a w V.2.2] 177 3 false;let af:=(false,[],[]);let ag:=gq p f (vL x) 0 0;let ao:=nf (jU p f (vL x) 0);let W:=r 4 0 3;let bg:=nf (iw p f (vL x) 0);let ap:=gq p f (vL x) (mF p) 0;let aa:=g sF ap 177 true;let O:=ap.length;let aN:=λ(u u_1:Int) (u_2:SV) ↦decide (u≠u_1)=true->(q [am,u_2]).bi ad;f.length<=1000000000000/\aN (iD p f) d (c (iD p f))/\(decide (iD p f≠d)=false->True/\aN T aK (n 3)/\(decide (T≠aK)=false->((((a v f).bi (a v f)/\(a sF x).bi (a sF x)/\E.bi E/\z.bi z/\(a sF x).bi (a sF x)/\(c T).bi G/\U.bi (c 0)/\True)/\A.bi A/\B.bi B/\True)/\d<=d/\d<=F/\di []=true)/\∀(x_1:Int),let Q:=bN x x_1.toNat o;let aq:=(Q.1,Q.2.1,Q.2.2);let X:=x_1+m;let aO:=c X;let aP:=λ(u:Bool) ↦decide (jh (TM aq)<d)=u;let aQ:=λ(u:Bool) ↦(!okF aq)=u;d<=x_1/\x_1<=F/\di (Ξ x_1.toNat x)=true->(decide (x_1<F)=true->d<=x_1/\x_1<T/\x_1.toNat<x.length/\((ou Q.2.1/\ou Q.2.2)/\γf Q.2.1<=10000000/\γf Q.2.2<=10000000)/\(aQ true->(q [am,n 2]).bi ad)/\(aQ false->bP aq/\(aP true->(q [am,n 4]).bi ad)/\(aP false->k X/\(((a v f).bi (a v f)/\(a sF x).bi (a sF x)/\E.bi E/\z.bi z/\(a sF x).bi (a sF x)/\G.bi G/\aO.bi aO/\True)/\A.bi A/\B.bi B/\True)/\(d<=X/\X<=F/\di (Ξ X.toNat x)=true)/\(F - X).toNat<(F - x_1).toNat)))/\(decide (x_1<F)=false->(nW p=d/\f.length=aM)/\d<=I/\I<=I/\I*(56:Int)<=(140737488355328:Int)/\I<=(1000000000000:Int)/\((((a v f).bi (a v f)/\(a sF x).bi (a sF x)/\E.bi E/\z.bi z/\C.bi C/\(γZ 3 I.toNat 3).bi D/\(c (↑I.toNat:Int)).bi H/\U.bi (c 0)/\True)/\A.bi A/\B.bi B/\(e [l V.1,a w V.2.1,a w V.2.2] 177 3 false).bi ae/\(g (cj.b.pair (w.zi.pair w.zi)) (δ I.toNat af) 177 true).bi (g sF (dZ ag 0 af) 177 true)/\True)/\d<=d/\d<=y)/\∀(x_2:Int),let ar:=(bN p.bj x_2.toNat cj.bu.bw).value;let Y:=dZ ag x_2.toNat af;let Z:=x_2+m;let aR:=c Z;let au:=nf (κ ar);d<=x_2/\x_2<=y->(decide (x_2<y)=true->d<=x_2/\x_2<(↑p.bj.length:Int)/\x_2.toNat<p.bj.length/\(h<=ar/\ar<=j)/\f.length=Y.length/\d<=x_2/\x_2<(↑Y.length:Int)/\f.length=Y.length/\x_2.toNat<Y.length/\k Z/\(((a v f).bi (a v f)/\(a sF x).bi (a sF x)/\E.bi E/\z.bi z/\C.bi C/\D.bi D/\H.bi H/\aR.bi aR/\True)/\A.bi A/\B.bi B/\ae.bi ae/\(g sF (Y.set x_2.toNat (au.1,au.2.1,au.2.2)) 177 true).bi (g sF (dZ ag Z.toNat af) 177 true)/\True)/\(d<=Z/\Z<=y)/\(y - Z).toNat<(y - x_2).toNat)/\(decide (x_2<y)=false->((((a v f).bi (a v f)/\E.bi E/\z.bi z/\C.bi C/\D.bi D/\(a sF x).bi (a sF x)/\(c T).bi G/\U.bi (c 0)/\True)/\A.bi A/\B.bi B/\ae.bi (e [l ao.1,a w ao.2.1,a w ao.2.2] 177 3 false)/\(g sF Y 177 true).bi (g sF ag 177 true)/\True)/\d<=d/\d<=F)/\∀(x_3:Int),let a6:=nf (jU p f (vL x) x_3.toNat);let R:=e [l a6.1,a w a6.2.1,a w a6.2.2] 177 3 false;let av:=g sF (gq p f (vL x) x_3.toNat 0) 177 true;let a7:=bN x x_3.toNat o;let aS:=(a7.1,a7.2.1,a7.2.2);let J:=x_3+m;let ah:=c J;let ai:=nf (jU p f (vL x) J.toNat);let aT:=g sF (gq p f (vL x) J.toNat 0) 177 true;let M:=gG p x_3 aM;let a8:=bN x x_3.toNat o;let ab:=e [l a8.1,a w a8.2.1,a w a8.2.2] 177 3 false;let ac:=(a8.1,a8.2.1,a8.2.2);let aU:=(a6.1,a6.2.1,a6.2.2);let aV:=λ(u:NH) (u_1:iZ) ↦R.bi (e [l u.1,a w u.2.1,a w u.2.2] 177 3 false)/\av.bi u_1/\True;let aW:=λ(u:Bool) ↦decide (jh (TM aS)=d)=u;d<=x_3/\x_3<=F->(decide (x_3<F)=true->d<=x_3/\x_3<T/\x_3.toNat<x.length/\bP aS/\(aW true->k J/\(((a v f).bi (a v f)/\E.bi E/\z.bi z/\C.bi C/\D.bi D/\(a sF x).bi (a sF x)/\G.bi G/\ah.bi ah/\True)/\A.bi A/\B.bi B/\aV ai aT)/\(d<=J/\J<=F)/\(F - J).toNat<(F - x_3).toNat)/\(aW false->(nW p=d/\d<=x_3/\x_3<cr p)/\((((a v f).bi (a v f)/\E.bi E/\z.bi z/\C.bi C/\D.bi D/\W.bi W/\(c (cB p x_3)).bi (c (lH p f x_3 0))/\(a sF x).bi (a sF x)/\G.bi G/\(c x_3).bi (c x_3)/\(a v M).bi (a v M)/\(c (↑M.length:Int)).bi H/\U.bi (c 0)/\True)/\A.bi A/\B.bi B/\R.bi R/\av.bi av/\(e [l a7.1,a w a7.2.1,a w a7.2.2] 177 3 false).bi ab/\True)/\d<=d/\d<=y)/\∀(x_4:Int),let K:=x_4+m;let P:=lH p f x_3 x_4.toNat;let aX:=c (lH p f x_3 K.toNat);let aj:=c x_3;let ak:=c K;let L:=gq p f (vL x) x_3.toNat x_4.toNat;let aw:=g sF L 177 true;let aY:=g sF (gq p f (vL x) x_3.toNat K.toNat) 177 true;let S:=bN M x_4.toNat d;let aZ:=decide (S=d);let b0:=bN f x_4.toNat d;let b1:=decide (b0=m);let b2:=decide (b0=d);let ax:=nf (κ S);let b3:=(ax.1,ax.2.1,ax.2.2);let ay:=bN L x_4.toNat o;let b4:=(ay.1,ay.2.1,ay.2.2);let az:=nf (TM ac*TM b3);let aA:=nf (TM b4 - TM (az.1,az.2.1,az.2.2));let aB:=nf (κ P);let b5:=(aB.1,aB.2.1,aB.2.2);let aC:=nf (TM ac*TM b5);let aD:=nf (TM aU+TM (aC.1,aC.2.1,aC.2.2));let b6:=k K/\(((a v f).bi (a v f)/\E.bi E/\z.bi z/\C.bi C/\D.bi D/\W.bi W/\(c P).bi aX/\(a sF x).bi (a sF x)/\G.bi G/\aj.bi aj/\(a v M).bi (a v M)/\H.bi H/\ak.bi ak/\True)/\A.bi A/\B.bi B/\R.bi R/\aw.bi aY/\ab.bi ab/\True)/\(d<=K/\K<=y)/\(y - K).toNat<(y - x_4).toNat;let b7:=λ(u:Int) (u_1:iZ) ↦k K/\(((a v f).bi (a v f)/\E.bi E/\z.bi z/\C.bi C/\D.bi D/\W.bi W/\(c u).bi aX/\(a sF x).bi (a sF x)/\G.bi G/\aj.bi aj/\(a v M).bi (a v M)/\H.bi H/\ak.bi ak/\True)/\A.bi A/\B.bi B/\R.bi R/\u_1.bi aY/\ab.bi ab/\True)/\(d<=K/\K<=y)/\(y - K).toNat<(y - x_4).toNat;let b8:=λ(u:Bool×List Int×List Int) (u_1:Int) ↦let aE:=nf (κ u_1);let aF:=nf (TM ac*TM (aE.1,aE.2.1,aE.2.2));bP u/\bP (aF.1,aF.2.1,aF.2.2);d<=x_4/\x_4<=y->(decide (x_4<y)=true->d<=x_4/\x_4<(↑M.length:Int)/\x_4.toNat<M.length/\(aZ=true->b6)/\(aZ=false->d<=x_4/\x_4<I/\x_4.toNat<f.length/\(b1=true->k (P - S)/\b7 (P - S) aw)/\(b1=false->d<=x_4/\x_4<I/\x_4.toNat<f.length/\(b2=true->f.length=L.length/\d<=x_4/\x_4<(↑L.length:Int)/\f.length=L.length/\x_4.toNat<L.length/\(h<=S/\S<=j)/\(bP ac/\bP b3)/\b8 b4 S/\f.length=L.length/\d<=x_4/\x_4<(↑L.length:Int)/\f.length=L.length/\x_4.toNat<L.length/\b7 P (g sF (L.set x_4.toNat (aA.1,aA.2.1,aA.2.2)) 177 true))/\(b2=false->b6))))/\(decide (x_4<y)=false->(h<=P/\P<=j)/\(bP ac/\bP b5)/\b8 aU P/\k J/\(((a v f).bi (a v f)/\E.bi E/\z.bi z/\C.bi C/\D.bi D/\(a sF x).bi (a sF x)/\G.bi G/\ah.bi ah/\True)/\A.bi A/\B.bi B/\(e [l aD.1,a w aD.2.1,a w aD.2.2] 177 3 false).bi (e [l ai.1,a w ai.2.1,a w ai.2.2] 177 3 false)/\aw.bi aT/\True)/\(d<=J/\J<=F)/\(F - J).toNat<(F - x_3).toNat)))/\(decide (x_3<F)=false->(((z.bi z/\C.bi C/\D.bi D/\(a v f).bi (a v f)/\(c I).bi H/\U.bi (c 0)/\True)/\A.bi A/\B.bi B/\aV bg aa)/\d<=d/\d<=y)/\∀(x_4:Int),let N:=x_4+m;let al:=c N;let a9:=nf (iw p f (vL x) x_4.toNat);let b9:=[l a9.1,a w a9.2.1,a w a9.2.2];let aG:=nf (iw p f (vL x) N.toNat);let ba:=e [l aG.1,a w aG.2.1,a w aG.2.2] 177 3 false;let aH:=bN ap x_4.toNat o;let aI:=(aH.1,aH.2.1,aH.2.2);let bb:=decide (bN f x_4.toNat d=d);let bc:=(a9.1,a9.2.1,a9.2.2);let aJ:=nf (TM bc+TM aI);let bd:=k N/\((z.bi z/\C.bi C/\D.bi D/\(a v f).bi (a v f)/\H.bi H/\al.bi al/\True)/\A.bi A/\B.bi B/\(e b9 177 3 false).bi ba/\aa.bi aa/\True)/\(d<=N/\N<=y)/\(y - N).toNat<(y - x_4).toNat;let be:=bP aI;let bf:=λ(u:Bool) ↦decide (d<jh (TM aI))=u;d<=x_4/\x_4<=y->(decide (x_4<y)=true->d<=x_4/\x_4<I/\x_4.toNat<f.length/\(bb=true->f.length=O/\d<=x_4/\x_4<(↑O:Int)/\f.length=O/\x_4.toNat<O/\be/\(bf true->f.length=O/\d<=x_4/\x_4<(↑O:Int)/\f.length=O/\x_4.toNat<O/\(bP bc/\be)/\k N/\((z.bi z/\C.bi C/\D.bi D/\(a v f).bi (a v f)/\H.bi H/\al.bi al/\True)/\A.bi A/\B.bi B/\(e [l aJ.1,a w aJ.2.1,a w aJ.2.2] 177 3 false).bi ba/\aa.bi aa/\True)/\(d<=N/\N<=y)/\(y - N).toNat<(y - x_4).toNat)/\(bf false->bd))/\(bb=false->bd))/\(decide (x_4<y)=false->(q [t b9,U]).bi ad))))))) (by kernel_rfl) ?_;simp only[vcs];have hgo:=cT hc;have h160:=hgo.2.1;have hfe:iD p f=0:=by simp[iD,hc,hl,hr]
 have hnr:cr p=mF p:=by unfold cr mF;omega
 have hxl:x.length=mF p:=by rw[hx,ff,hyl]
 have hvl:vL x=y:=by rw[hx,ku]
 have baM:mF p<=20:=by have:=hgo.1;unfold mF;omega
 have hxn:∀r:Int,0<=r->r<mF p->bN x r.toNat sF.bw=nf (bN y r.toNat 0):=λr h0 h1=>by rw[hx];exact iR (by rw[hyl];omega)
 have hrC:∀{q q':Rat},q=q'->(iZ.cells [.sb (nf q).1,.row (.i .u32) (nf q).2.1,.row (.i .u32) (nf q).2.2] 177 3 false).bi (iZ.cells [.sb (nf q').1,.row (.i .u32) (nf q').2.1,.row (.i .u32) (nf q').2.2] 177 3 false):=by rintro _ _ rfl;rfl
 have hrL:∀{a b:List NH},a=b->(iZ.row sF a 177 true).bi (iZ.row sF b 177 true):=by rintro _ _ rfl;rfl
 have hrO:∀{a b:Nat},a=b->(γZ 3 a 3).bi (γZ 3 b 3):=by rintro _ _ rfl;rfl
 have hval:∀i:Int,(bN p.bj i.toNat cj.bu.bw).value=(oI p i).value:=λi=>rfl;have hel:∀r k,(gq p f y r k).length=f.length:=λr k=>by rw[vq,hl]
 rw[if_pos hc,hnr,hvl];simp only[jt,dR,hval,γg];refine⟨by omega,λh=>absurd hfe h,λ_=>⟨λh=>absurd (by rw[hxl]) h,λ_=>⟨⟨by omega,by omega,rfl⟩,?_⟩⟩⟩;rintro i ⟨i0,i1,hall⟩;have et:=λh=>iG (d:=sF.bw) (l:=x) i0 h;refine⟨λhi=>?_,λhge=>?_⟩
 ·have hys:=Kk hy (k:=i.toNat) (by omega);have hm:=cy (d:=sF.bw) (show i.toNat<x.length by omega);have et:=et hi;have hok:=Cq (bN y i.toNat 0);obtain⟨s1,⟨u1,u2,u3⟩,⟨u4,u5,u6⟩⟩:=kW (bN y i.toNat 0);obtain⟨m1,m2⟩:=nK hys;rw[hxn i i0 (by omega)] at hm et ⊢;refine⟨i0,hi,by omega,⟨⟨u1,u4⟩,by omega⟩,(λh=>by rw[hok] at h;cases h),λ_=>⟨df hys (by omega),λh=>?_,λh=>⟨by omega,⟨by omega,by omega,?_⟩,by omega⟩⟩⟩
  ·have hn:bN y i.toNat 0<0:=xM.1 (by rwa [dR] at h);have hp:di x=false:=by rw[δO];intro ha;have:=τ.1 ha _ hm;have e:(nf (bN y i.toNat 0)).1=true:=decide_eq_true hn;rw[e] at this;cases this
   simp only[hp,ω,if_false];first|exact rfl|exact⟨rfl,rfl⟩|exact⟨rfl,trivial⟩|(unfold SV.bi;exact⟨rfl,rfl⟩)
  ·have hn:¬bN y i.toNat 0<0:=λhh=>h (by rw[dR];exact xM.2 hh);have e:(nf (bN y i.toNat 0)).1=false:=decide_eq_false hn;unfold di at hall ⊢;rw[et,ζ1,hall];simp[e]
 have hpos:di x=true:=by rwa [show i.toNat=x.length by omega,φ] at hall
 simp only[hpos,if_true];refine⟨⟨hc,hl⟩,by omega,by omega,by omega,by omega,⟨⟨⟨hrO rfl,trivial⟩,hrL ?_⟩,by omega⟩,?_⟩;·rw[vM,hel]
 rintro i ⟨i0,i1⟩;have hru:=@uR (gq p f y 0 0) i.toNat (false,([],[])) (by rw[hel];omega);rw[hel] at hru;refine⟨λhi=>?_,λhi=>?_⟩
 ·have ho:=jP hc (i:=i) ⟨i0,by omega⟩;have hE:bN (gq p f y 0 0) i.toNat (false,([],[]))=nf (κ (oI p i).value):=by rw[vp (by omega),show((i.toNat:Nat):Int)=i by omega,To i0]
  exact⟨i0,by omega,by omega,by omega,by omega,by omega,by omega,by omega,by omega,by omega,hrL (by rw[vJ (by rw[hel];omega) hE.symm,show(i+1).toNat=i.toNat+1 by omega]),by omega⟩
 rw[show i.toNat=(gq p f y 0 0).length by rw[hel];omega,vK];refine⟨⟨⟨hrC Tv.symm,hrL rfl⟩,by omega⟩,?_⟩;rintro r ⟨r0,r1⟩;refine⟨λhr1=>?_,λhr1=>?_⟩
 ·have hys:=Kk hy (k:=r.toNat) (by omega);have hx1:=hxn r r0 (by omega);have gy:bP (nf (bN y r.toNat 0)):=df hys (by omega);have hrr:((r.toNat:Nat):Int)=r:=by omega
  have hrt:(r+1).toNat=r.toNat+1:=by omega
  simp only[hx1,dR];refine⟨r0,hr1,by omega,gy,λh0=>?_,λh0=>⟨⟨hc,r0,by omega⟩,⟨⟨Tt.symm,by rw[Kr];omega⟩,by omega⟩,?_⟩⟩
  ·have h0:=Fc.1 h0;exact⟨by omega,⟨hrC (by rw[hrt,Tj h0]),hrL (by rw[hrt,Tm h0])⟩,by omega⟩
  rintro k ⟨k0,k1⟩;have hbd:=@Kp p f r k.toNat hc hl;have hrl:=@Kr p r;refine⟨λhk=>?_,λhk=>?_⟩
  ·have ho:=jP hc (i:=k) ⟨k0,by omega⟩;have hcb:=@oF p r _ ho.2.2.1;have hrn:=@Tu p r k ⟨k0,by omega⟩;have hbs:=@Ts p f r k k0 (by omega);rw[hrn];refine⟨k0,by omega,by omega,λh1=>?_,λh1=>⟨k0,by omega,by omega,λh2=>?_,λh2=>⟨k0,by omega,by omega,λh3=>?_,λh3=>?_⟩⟩⟩
   ·have hb2:lH p f r k.toNat=lH p f r (k+1).toNat:=by rw[hbs,h1];split<;>omega
    exact⟨by omega,⟨hb2,hrL (Et k0 (.inr (.inl (by rw[hrr];exact h1))))⟩,by omega⟩
   ·rw[if_pos h2] at hbs;exact⟨by omega,by omega,⟨by omega,hrL (Et k0 (.inl (by omega)))⟩,by omega⟩
   ·rw[if_neg h2] at hbs;have hen:=@vp p f y r.toNat k.toNat k.toNat (by omega) sF.bw;rw[show((k.toNat:Nat):Int)=k by omega,Tk k0 h3] at hen;have gx:bP (nf (iy p y r.toNat k)):=df (Ke hc hy (by omega) ⟨k0,by omega⟩) (by omega);have gc:bP (nf (κ (dE p r (oI p k)))):=df (qv (W:=dE p r (oI p k)) (by omega) (by omega)) (by omega);have gm:bP (nf (bN y r.toNat 0*κ (dE p r (oI p k)))):=df (rP hys (qv (W:=dE p r (oI p k)) (by omega) (by omega))) (by omega);have hset:=@Tl p f y r.toNat k k0 (by omega) h3;rw[DY,hrr] at hset;have aXF:(gq p f y r.toNat k.toNat).set k.toNat (nf (iy p y r.toNat k - bN y r.toNat 0*κ (dE p r (oI p k))))=gq p f y r.toNat (k+1).toNat:=hset;rw[hen];simp only[dR];rw[aXF,hel];refine⟨rfl,k0,?_,rfl,?_,?_,⟨gy,gc⟩,⟨gx,gm⟩,rfl,k0,?_,rfl,?_,?_,⟨?_,hrL rfl⟩,?_,?_⟩<;>omega
   ·rw[if_neg h2] at hbs;refine⟨?_,⟨?_,hrL (Et k0 (.inl h3))⟩,?_,?_⟩<;>omega
  ·have hk2:k.toNat=f.length:=by omega
   rw[hk2,Kq] at hbd ⊢;have gb:bP (nf (κ (cB p r - bZ p ((Ao f 1).map (oI p)) r))):=df (qv (W:=cB p r - bZ p ((Ao f 1).map (oI p)) r) (by omega) (by omega)) (by omega);have gs:bP (nf (jU p f y r.toNat)):=df (T5 hc hl hy (by omega)) (by omega);have gm:bP (nf (bN y r.toNat 0*κ (cB p r - bZ p ((Ao f 1).map (oI p)) r))):=df (rP hys (qv (W:=cB p r - bZ p ((Ao f 1).map (oI p)) r) (by omega) (by omega))) (by omega);refine⟨by omega,⟨gy,gb⟩,⟨gs,gm⟩,by omega,⟨hrC ?_,hrL ?_⟩,by omega⟩;·rw[hrt,Ks,hrr]
   ·rw[hrt,hl];exact Tn
 ·have hr2:r.toNat=mF p:=by omega
  rw[hr2];refine⟨⟨⟨hrC Ko.symm,hrL rfl⟩,by omega⟩,?_⟩;rintro i ⟨i0,i1⟩;refine⟨λhi=>?_,λhi=>?_⟩
  ·have hs:=@Kn p f y i i0;refine⟨i0,hi,by omega,λh0=>?_,λh0=>?_⟩
   ·have hen:=@vp p f y (mF p) 0 i.toNat (by omega) sF.bw;have he0:mU p f y (mF p) 0 i=iy p y (mF p) i:=by unfold mU;rw[if_pos h0,if_neg (show ¬i<((0:Nat):Int) by omega)]
    rw[show((i.toNat:Nat):Int)=i by omega,he0] at hen;have gx:bP (nf (iy p y (mF p) i)):=df (Ke hc hy (π _) ⟨i0,by omega⟩) (by omega);have gs:bP (nf (iw p f y i.toNat)):=df (Kd hc hl hy (by omega)) (by omega);rw[hen,hel];simp only[dR];refine⟨trivial,i0,by omega,trivial,by omega,gx,λh1=>⟨trivial,i0,by omega,trivial,by omega,⟨gs,gx⟩,by omega,hrC ?_,by omega⟩,λh1=>⟨by omega,hrC ?_,by omega⟩⟩;·rw[hs,if_pos ⟨h0,rM.1 h1⟩]
    ·rw[hs,if_neg (λh=>h1 (rM.2 h.2))];exact(ζ3 _).symm
   ·refine⟨by omega,hrC ?_,by omega⟩;rw[hs,if_neg (λh=>h0 h.1)];exact(ζ3 _).symm
  ·rw[show i.toNat=f.length by omega];first|exact rfl|exact⟨rfl,rfl⟩|exact⟨rfl,trivial⟩
def Eo:NG:=⟨208,cA×ew×Int×List Int,.cons (dg Ap) (.cons cI (.cons (dY .i64) (.one (cP (.i .i64))))),λa=>sY a.2.1 a.2.2.2 a.1.2.2.2.2/\ -9223372036854775808<=a.2.2.1/\a.2.2.1<=9223372036854775807,
 λa=> .sb (di a.1.2.2.2.2&&decide (iw a.2.1 a.2.2.2 (vL a.1.2.2.2.2) a.2.2.2.length<κ a.2.2.1+1))⟩
theorem IF:d' Eo:=by
 refine bI (L:=[Ep,mR,tJ,uO]) Eo lk (by grind[ID,n_,pI,zB]) ?_;rintro⟨⟨k,o,a,b,x⟩,p,v,f⟩ ⟨c,i,g⟩;simp only at c i g;have d:=c;obtain⟨⟨H,J,M⟩,y,K,I,G⟩:=d;have C:=Kd H J G (π f.length);have q:vL x=y:=by rw[K,ku]
 rw[<-q] at C;have F:(κ 1:Rat)=1:=rfl;have s:Sz 2 (κ v:Rat):=qv i g;have t:Sz 2 (1:Rat):=qv (W:=1) (by omega) (by omega);refine NI (let a:=(-9223372036854775808:Int);let b:=(9223372036854775807:Int);let c:=(1:Int);let d:=(0:Int);let j:=iw p f (vL x) f.length;let n:=nf (κ v);let D:=(n.1,n.2.1,n.2.2);let r:=nf (κ c);let A:=(r.1,r.2.1,r.2.2);let z:=(if di x=true then(nf j).1 else false,if di x=true then(nf j).2.1 else[],if di x=true then(nf j).2.2 else[]);let l:=nf (TM D+TM A);let E:=(l.1,l.2.1,l.2.2);let B:=λ(u:SV) ↦u.bi (γA (di x&&decide (j<κ v+(1:Rat))));let w:=λ(u:Bool) ↦decide ((if di x=true then d else(4:Int))=d)=u;sY p f x/\(a<=v/\v<=b)/\(a<=c/\c<=b)/\(bP D/\bP A)/\(w true->(bP z/\bP E)/\B (γA (decide (iE (TM z) (TM E)<d))))/\(w false->B (δb false))) (by kernel_rfl) ?_;simp only[jt,dR,F];by_cases m:di x=true
 ·simp only[m,if_true,Bool.true_and,jt,dR];refine⟨c,⟨i,g⟩,by omega,⟨df s (by omega),df t (by omega)⟩,λ_=>⟨⟨df C (by omega),df (xR s t) (by omega)⟩,?_⟩,λh=>by cases h⟩;have e:decide (iE (iw p f (vL x) f.length) (κ v+1)<0)=decide (iw p f (vL x) f.length<κ v+1):=decide_eq_decide.2 sd;rw[e];rfl
 ·have m:di x=false:=by simp_all
  simp only[m,ω,if_false,Bool.false_and];exact⟨c,⟨i,g⟩,by omega,⟨df s (by omega),df t (by omega)⟩,(λh=>by cases h),λ_=>rfl⟩
def En:NG:=⟨214,cA×ew×Int×List Int,.cons (dg Ap) (.cons cI (.cons (dY .i64) (.one (cP (.i .i64))))),λa=>0<=a.1.2.1,λa=> .sb (decide (a.1.2.1<a.2.2.2.length)&&decide (bN a.2.2.2 a.1.2.1.toNat 0=0))⟩
theorem IB:d' En:=by refine bI (L:=[]) En lk (by simp) ?_;rintro⟨⟨k,o,a,b,x⟩,p,v,f⟩ (e:0<=o);refine NI (let a:=(0:Int);let c:=decide (o<(↑f.length:Int));let d:=λ(u:SV) ↦u.bi (γA (decide (o<(↑f.length:Int))&&decide (bN f o.toNat a=a)));(c=true->a<=o/\o<(↑f.length:Int)/\o.toNat<f.length/\d (γA (decide (bN f o.toNat a=a))))/\(c=false->d (δb false))) (by kernel_rfl) ?_;simp_all[decide_eq_false]
def Em:NG:=⟨218,cA×ew×Int×List Int,.cons (dg Ap) (.cons cI (.cons (dY .i64) (.one (cP (.i .i64))))),λa=>a.2.2.2.length<=1000000,λa=> .sb (decide (cq a.2.1 (Ao a.2.2.2 1)≠0))⟩
def T1 (n:cA) (p:ew) (f:List Int):Nat->bH
 |3=> .inv Int (λi=>⟨[(5,.ptr 1 0 20),(9,.ow 2 (Ao (f.take i.toNat) 1).length 1),(12,.row (.i .i64) f),(13,.si .i64 f.length),(14,.si .i64 i)],[.cells (cd Ap n) 206 5 false,.cells p.ss 27 20 false,.row (.i .i64) (Ao (f.take i.toNat) 1) 3 true]⟩)
   (λs=>iS s 14) (λi=>0<=i/\i<=f.length) (λi=>(f.length - i).toNat) λ_ _=> .look
 |_=> .look
theorem Iy:d' Em:=by
 refine bI (L:=[td]) Em (λa=>T1 a.1 a.2.1 a.2.2.2) (by simpa using pJ) ?_;rintro⟨⟨k,o,a,b,x⟩,p,v,f⟩ (I:f.length<=1000000);refine NI (let c:=γc .i64;let d:=(0:Int);let e:=(1:Int);let g:=iZ.row;let h:=Ω;let j:=γZ;let r:=γM 1 0 20;let m:=cj.i .i64;let n:=(↑f.length:Int);let v:=c n;let s:=iZ.cells [c k,c o,c a,c b,h sF x] 206 5 false;let t:=iZ.cells [c p.bm.a0,c p.bm.a1,c p.bm.a2,c p.bm.a3,c p.bm.a4,c p.bm.a5,c p.bs.a0,c p.bs.a1,c p.bs.a2,c p.bs.a3,c p.bs.a4,c p.bs.a5,c p.bt.a0,c p.bt.a1,c p.bt.a2,c p.bt.a3,c p.bt.a4,c p.bt.a5,h m p.bk,h cj.bu p.bj] 27 20 false;(((r.bi r/\(j 2 0 1).bi (j 2 (Ao [] e).length 1)/\(h m f).bi (h m f)/\(c (↑f.length:Int)).bi v/\(γu .i64 0).bi (c 0)/\True)/\s.bi s/\t.bi t/\(g m [] 3 true).bi (g m (Ao [] e) 3 true)/\True)/\d<=d/\d<=n)/\∀(C:Int),let q:=C+e;let w:=Ao (Ξ q.toNat f) e;let y:=c q;let z:=decide (bN f C.toNat d=e);let l:=Ao (Ξ C.toNat f) e;let A:=l.length+1;let B:=λ(u:Nat) (G:iZ) ↦TP .i64 q/\((r.bi r/\(j 2 u 1).bi (j 2 w.length 1)/\(h m f).bi (h m f)/\v.bi v/\y.bi y/\True)/\s.bi s/\t.bi t/\G.bi (g m w 3 true)/\True)/\(d<=q/\q<=n)/\(n - q).toNat<(n - C).toNat;d<=C/\C<=n->(decide (C<n)=true->d<=C/\C<(↑f.length:Int)/\C.toNat<f.length/\(z=true->l.length=l.length/\A*8<=140737488355328/\A<=1000000000000/\B (l++[C]).length (g m (l++[C]) 3 true))/\(z=false->B l.length (g m l 3 true)))/\(decide (C<n)=false->l.length=l.length/\l.length<=9223372036854775807/\(γA (decide (cq p l≠d))).bi (γA (decide (cq p (Ao f e)≠d))))) (by kernel_rfl) ?_;simp only[vcs];have E:∀{x y:Nat},x=y->(γZ 2 x 1).bi (γZ 2 y 1):=by rintro _ _ rfl;rfl
 have D:∀{x y:List Int},x=y->(iZ.row (.i .i64) x 3 true).bi (iZ.row (.i .i64) y 3 true):=by rintro _ _ rfl;rfl
 refine⟨⟨⟨E rfl,D rfl⟩,by omega⟩,?_⟩;rintro i ⟨i0,i1⟩;have H:=@rI (f.take i.toNat) 1;rw[γx] at H;refine⟨λhi=>?_,λhi=>?_⟩
 ·have F:=xI (d:=1) i0 hi;refine⟨i0,hi,by omega,λh1=>?_,λh1=>?_⟩
  ·rw[if_pos h1] at F;rw[F];refine⟨?_,?_,?_,⟨E rfl,D rfl⟩,?_,?_⟩<;>omega
  ·rw[if_neg h1,γ1] at F;rw[F];refine⟨?_,⟨E rfl,D rfl⟩,?_,?_⟩<;>omega
 ·rw[show f.take i.toNat=f by rw[show i.toNat=f.length by omega,φ]] at H ⊢;exact⟨by omega,rfl⟩
def El:NG:=⟨222,Unit×ew×Int×List Int,.cons D5 (.cons cI (.cons (dY .i64) (.one (cP (.i .i64))))),λ_=>True,λ_=> .sb false⟩
theorem Iv:d' El:=by refine bI (L:=[]) El lk (by simp) ?_;rintro⟨_,p,v,f⟩ _;refine NI ((δb false).bi (γA false)) (by kernel_rfl) ?_;rfl
@[reducible] def qo:cj:=.pair (.i .i64) .b
def dW (t:List cA):Nat->List (Int×Bool)
 |0=>δ t.length (0,false)
 |i+1=>if(bN t i Ap.bw).1=2 then((dW t i).set (bN t i Ap.bw).2.2.1.toNat ((i:Int),false)).set (bN t i Ap.bw).2.2.2.1.toNat ((i:Int),true) else dW t i
def mT (t:List cA) (u:List (Int×Bool)) (k:Int) (f:List Int):List Int:=
 if(bN t (bN u k.toNat (0,false)).1.toNat Ap.bw).2.1<f.length then f.set (bN t (bN u k.toNat (0,false)).1.toNat Ap.bw).2.1.toNat (if(bN u k.toNat (0,false)).2 then 1 else -1) else f
def gC (t:List cA) (u:List (Int×Bool)):Nat->Int->List Int->List Int
 |0,_,f=>f
 |m+1,k,f=>if 0<k then gC t u m (bN u k.toNat (0,false)).1 (mT t u k f) else f
def g_ (p:ew) (t:List cA) (i:Nat):List Int:=gC t (dW t i) i i (δ p.bj.length 0)
def qm (p:ew) (v:Int) (f:List Int) (n:cA):Bool:=
 if n.1=1 then di n.2.2.2.2&&decide (iw p f (vL n.2.2.2.2) f.length<κ v+1) else if n.1=2 then decide (n.2.1<f.length)&&decide (bN f n.2.1.toNat 0=0) else if n.1=3 then decide (cq p (Ao f 1)≠0) else false
def ql (p:ew) (v:Int) (t:List cA):Bool:=(Γ t.length).all λi=>qm p v (g_ p t i) (bN t i Ap.bw)
def Ek (t:List cA) (u:List (Int×Bool)):Prop:=u.length=t.length/\∀k,k<t.length->0<=(bN u k (0,false)).1/\(0<k->(bN u k (0,false)).1<k)
def De (p:ew) (v:Int) (t:List cA):Prop:=(nW p=0/\dy t=true)/\(-9223372036854775808<=v/\v<=9223372036854775807)/\∀i,i<t.length->(bN t i Ap.bw).1=1->sY p (g_ p t i) (bN t i Ap.bw).2.2.2.2
theorem Kc {t:List cA} {u:List (Int×Bool)} {k:Int} {f:List Int}:(mT t u k f).length=f.length:=by grind[mT]
theorem Kb {t:List cA} {u:List (Int×Bool)}:∀{m:Nat} {k:Int} {f:List Int},(gC t u m k f).length=f.length
 |0,_,_=>rfl
 |m+1,k,f=>by
  unfold gC;split;·rw[Kb,Kc]
  ·rfl
theorem Dd {t:List cA} {u:List (Int×Bool)} (a:Ek t u):∀{m:Nat} {k:Int} {f:List Int},0<=k->k<t.length->k<=m->gC t u m k f=gC t u k.toNat k f
 |0,k,f,g,d,e=>by grind;|m+1,k,f,g,d,e=>by
  by_cases c:0<k
  ·have b:=a.2 k.toNat (by omega);have h:=b.2 (by omega);rw[show k.toNat=(k.toNat - 1)+1 by omega];unfold gC;rw[if_pos c,if_pos c,Dd a b.1 (by omega) (by omega)];exact(Dd a b.1 (by omega) (by omega)).symm
  ·rw[show k=0 by omega];rfl
theorem Ka {t:List cA} {u:List (Int×Bool)} (b:Ek t u) {k:Int} {f:List Int} (a:0<k) (e:k<t.length):gC t u k.toNat k f=gC t u (bN u k.toNat (0,false)).1.toNat (bN u k.toNat (0,false)).1 (mT t u k f):=by
 have c:=b.2 k.toNat (by omega);have d:=c.2 (by omega);rw[show gC t u k.toNat k f=gC t u ((k.toNat - 1)+1) k f by grind];conv=>lhs;unfold gC
 rw[if_pos a];grind[Dd]
theorem qI {t:List cA}:∀{i:Nat},(dW t i).length=t.length
 |0=>by simp[dW];|i+1=>by
  unfold dW;split;·rw[γm,γm,qI]
  ·exact qI
theorem Dc {t:List cA} (h:dy t=true) {i:Nat} (c:i<t.length):0<=(bN t i Ap.bw).2.1/\((bN t i Ap.bw).1=2->((i:Int)<(bN t i Ap.bw).2.2.1/\(bN t i Ap.bw).2.2.1<t.length)/\((i:Int)<(bN t i Ap.bw).2.2.2.1/\(bN t i Ap.bw).2.2.2.1<t.length)):=by
 unfold dy at h;simp only[ζ,τ,γt] at h;have b:=h.2.1 i c;unfold kc at b;simp only[ζ] at b;obtain⟨a,d⟩:=b;refine⟨?_,λe=>?_⟩
 ·unfold qu at a;split at a;·simp_all[ny,qs]
  ·split at a;all_goals simp_all[pO,mX,rF,qs]
 simp_all[iX,r_]
theorem Db {t:List cA} (h:dy t=true):∀{i:Nat},i<=t.length->Ek t (dW t i)
 |0,_=>⟨qI,λk a=>by grind[dW,bR]⟩
 |i+1,g=>⟨qI,λk a=>by
   have b:=(Db h (i:=i) (by omega)).2 k a;unfold dW;split
   next c=>obtain⟨⟨j,f⟩,d,e⟩:=(Dc h (i:=i) (by omega)).2 c;grind[qI,gU]
   ·exact b⟩
def Da:NG:=⟨62,ew×Int×List cA,.cons cI (.cons (dY .i64) (.one (cP Ap))),λa=>De a.1 a.2.1 a.2.2,λa=> .si .i64 (if ql a.1 a.2.1 a.2.2 then 0 else 13)⟩
noncomputable def T0 (p:ew) (v:Int) (t:List cA):Nat->bH
 |3=> .inv Int (λi=>⟨[(1,.si .i64 v),(2,.row Ap t),(3,.ptr 0 0 20),(7,.ow 1 t.length 2),(16,.row Ap t),(17,.si .i64 t.length),(18,.si .i64 i)],[.cells p.ss 27 20 false,.row qo (dW t i.toNat) 159 true]⟩)
   (λs=>iS s 18) (λi=>0<=i/\i<=t.length/\∀j:Nat,j<i->qm p v (g_ p t j) (bN t j Ap.bw)=true) (λi=>(t.length - i).toNat) λi k=>match k with
   |7=> .inv (Int×List Int) (λx=>⟨[(1,.si .i64 v),(2,.row Ap t),(3,.ptr 0 0 20),(7,.ow 1 t.length 2),(8,.si .i64 i),(9,.ptr 2 0 5),(10,.ow 3 p.bj.length 1),(11,.si .i64 x.1),(16,.row Ap t),(17,.si .i64 t.length),(18,.si .i64 i)],
      [.cells p.ss 27 20 false,.row qo (dW t i.toNat) 159 true,.cells (cd Ap (bN t i.toNat Ap.bw)) 108 5 false,.row (.i .i64) x.2 3 true]⟩)
     (λs=>(iS s 11,oS (.i .i64) s 3)) (λx=>(0<=x.1/\x.1<=i)/\x.2.length=p.bj.length/\gC t (dW t i.toNat) x.1.toNat x.1 x.2=g_ p t i.toNat) (λx=>x.1.toNat) λ_ _=> .look
   |_=> .look
 |_=> .look
theorem IH:d' Da:=by
 refine bI (L:=[Ch,Eo,En,Em,El]) Da (λa=>T0 a.1 a.2.1 a.2.2) (by simpa using⟨za,IF,IB,Iy,Iv⟩) ?_;rintro⟨p,v,t⟩ ⟨⟨hc,ht⟩,⟨v0,v1⟩,hb⟩;simp only at hc ht v0 v1 hb;refine NI (let a:=γc .i64;let c:=(0:Int);let d:=Ω;let e:=iZ.row;let f:=γu .i64;let g:=(140737488355328:Int);let h:=(1000000000000:Int);let k:=(1:Int);let l:=γZ;let o:=(↑t.length:Int);let w:=γM 0 0 20;let C:=l 1 t.length 2;let y:=(↑t.length:Int);let D:=a y;let a9:=f 0;let K:=cj.i .i64;let q:=iZ.cells [a p.bm.a0,a p.bm.a1,a p.bm.a2,a p.bm.a3,a p.bm.a4,a p.bm.a5,a p.bs.a0,a p.bs.a1,a p.bs.a2,a p.bs.a3,a p.bs.a4,a p.bs.a5,a p.bt.a0,a p.bt.a1,a p.bt.a2,a p.bt.a3,a p.bt.a4,a p.bt.a5,d K p.bk,d cj.bu p.bj] 27 20 false;let E:=(↑p.bj.length:Int);let S:=γM 2 0 5;let n:=p.bj.length;let Z:=l 3 n 1;let a6:=δ E.toNat c;let aa:=e K a6 3 true;let L:=a (if ql p v t=true then c else(13:Int));c<=o/\o<=o/\o*(16:Int)<=g/\o<=h/\((((a v).bi (a v)/\(d Ap t).bi (d Ap t)/\w.bi w/\(l 1 o.toNat 2).bi C/\(d Ap t).bi (d Ap t)/\(a o).bi D/\a9.bi (a 0)/\True)/\q.bi q/\(e (K.pair cj.b) (δ o.toNat (c,false)) 159 true).bi (e qo (dW t 0) 159 true)/\True)/\c<=c/\c<=y/\∀(j:Nat),(↑j:Int)<c->qm p v (g_ p t j) (bN t j Ap.bw)=true)/\∀(x:Int),let z:=dW t x.toNat;let F:=e qo z 159 true;let s:=bN t x.toNat Ap.bw;let T:=s.2.1;let M:=s.2.2.1;let N:=s.2.2.2.1;let U:=s.2.2.2.2;let H:=iZ.cells [a s.1,a T,a M,a N,d sF U] 108 5 false;let V:=g_ p t x.toNat;let m:=z.length;let O:=(↑m:Int);let ab:=decide (s.1=k);let ac:=decide (s.1=(2:Int));let P:=z.set (ζF M) (x,false);let G:=x+k;let ad:=a G;let ar:=e qo (dW t G.toNat) 159 true;let ae:=decide (s.1=(2:Int));let af:=decide (s.1=(3:Int));(c<=x/\x<=y/\∀(j:Nat),(↑j:Int)<x->qm p v (g_ p t j) (bN t j Ap.bw)=true)->(decide (x<y)=true->c<=x/\x<o/\x.toNat<t.length/\c<=E/\E<=E/\E*(8:Int)<=g/\E<=h/\((((a v).bi (a v)/\(d Ap t).bi (d Ap t)/\w.bi w/\C.bi C/\(a x).bi (a x)/\S.bi S/\(l 3 E.toNat 1).bi Z/\(a x).bi (a x)/\(d Ap t).bi (d Ap t)/\D.bi D/\(a x).bi (a x)/\True)/\q.bi q/\F.bi F/\H.bi H/\aa.bi aa/\True)/\(c<=x/\x<=x)/\a6.length=n/\gC t z x.toNat x a6=V)/\∀(x_1:Int×List Int),let W:=a x;let A:=x_1.1.toNat;let a7:=bN z A qo.bw;let r:=a7.1;let ag:=a r;let I:=ζF r;let J:=(bN t I Ap.bw).2.1;let X:=ζF J;let Q:=x_1.2.length;let ah:=decide (c<x_1.1);let B:=x_1.2.length;let R:=x_1.2.set X (-1:Int);let ai:=e K x_1.2 3 true;let Y:=let aj:=λ(u:iZ) ↦TP .i64 G/\(((a v).bi (a v)/\(d Ap t).bi (d Ap t)/\w.bi w/\C.bi C/\(d Ap t).bi (d Ap t)/\D.bi D/\ad.bi ad/\True)/\q.bi q/\u.bi ar/\True)/\(c<=G/\G<=y/\∀(j:Nat),(↑j:Int)<G->qm p v (g_ p t j) (bN t j Ap.bw)=true)/\(y - G).toNat<(y - x).toNat;(ac=true->t.length=m/\c<=M/\M<O/\t.length=m/\ζF M<m/\t.length=P.length/\c<=N/\N<(↑P.length:Int)/\t.length=P.length/\ζF N<P.length/\aj (e qo (P.set (ζF N) (x,true)) 159 true))/\(ac=false->aj F);let ak:=(a v).bi (a v)/\(d Ap t).bi (d Ap t)/\w.bi w/\C.bi C/\W.bi W/\S.bi S/\Z.bi Z/\ag.bi ag/\(d Ap t).bi (d Ap t)/\D.bi D/\W.bi W/\True;let al:=λ(u:List Int) (u_1:Int) ↦let a8:=u.set X u_1;let am:=e K a8 3 true;t.length=m/\c<=x_1.1/\x_1.1<O/\t.length=m/\A<m/\(ak/\q.bi q/\F.bi F/\H.bi H/\am.bi am/\True)/\((c<=r/\r<=x)/\a8.length=n/\gC t z I r a8=V)/\I<A;let an:=λ(u:Bool) ↦(!(di U&&decide (iw p x_1.2 (vL U) Q<κ v+(1:Rat))))=u;let ao:=λ(u:Bool) ↦(!(decide (T<(↑Q:Int))&&decide (bN x_1.2 (ζF T) 0=c)))=u;let ap:=λ(u:Bool) ↦(!decide (cq p (Ao x_1.2 k)≠c))=u;let aq:=λ(u:Bool) ↦decide (J<(↑n:Int))=u;(c<=x_1.1/\x_1.1<=x)/\Q=n/\gC t z A x_1.1 x_1.2=V->(ah=true->t.length=m/\c<=x_1.1/\x_1.1<O/\t.length=m/\A<m/\c<=r/\r<o/\I<t.length/\(aq true->n=B/\c<=J/\J<(↑B:Int)/\n=B/\X<B/\t.length=m/\c<=x_1.1/\x_1.1<O/\t.length=m/\A<m/\(a7.2=true->n=R.length/\c<=J/\J<(↑R.length:Int)/\n=R.length/\X<R.length/\al R k)/\(a7.2=false->al x_1.2 (-1:Int)))/\(aq false->t.length=m/\c<=x_1.1/\x_1.1<O/\t.length=m/\A<m/\(ak/\q.bi q/\F.bi F/\H.bi H/\ai.bi ai/\True)/\((c<=r/\r<=x)/\Q=n/\gC t z I r x_1.2=V)/\I<A))/\(ah=false->True/\(ab=true->n=B/\(sY p x_1.2 U/\(-9223372036854775808:Int)<=v/\v<=(9223372036854775807:Int))/\(an true->(f 13).bi L)/\(an false->Y))/\(ab=false->(ae=true->n=B/\c<=T/\(ao true->(f 13).bi L)/\(ao false->Y))/\(ae=false->(af=true->n=B/\Q<=1000000/\(ap true->(f 13).bi L)/\(ap false->Y))/\(af=false->n=B/\True/\(true=true->(f 13).bi L)/\(true=false->Y))))))/\(decide (x<y)=false->a9.bi L)) (by kernel_rfl) ?_;simp only[vcs];have h160:=(cT hc).2.1;have htn:1<=t.length/\t.length<=65536:=by unfold dy at ht;simp only[ζ,decide_eq_true_eq] at ht;exact ht.1
 have hw:∀i,t.length=(dW t i).length:=λi=>qI.symm;have how:∀{x y:Nat},x=y->(γZ 1 x 2).bi (γZ 1 y 2):=by rintro _ _ rfl;rfl
 have hof:∀{x y:Nat},x=y->(γZ 3 x 1).bi (γZ 3 y 1):=by rintro _ _ rfl;rfl
 have hrow:∀{x y:List (Int×Bool)},x=y->(iZ.row qo x 159 true).bi (iZ.row qo y 159 true):=by rintro _ _ rfl;rfl
 have hd:(qo.bw:Int×Bool)=(0,false):=rfl;simp only[γg,hd];refine⟨by omega,by omega,by omega,by omega,⟨⟨how rfl,hrow rfl⟩,by omega,by omega,λj hj=>by omega⟩,?_⟩;rintro i ⟨i0,i1,hall⟩;refine⟨λhi=>?_,λhi=>?_⟩
 ·have hu:=Db ht (i:=i.toNat) (by omega);have hlu:=@qI t i.toNat;have hno:=Dc ht (i:=i.toNat) (by omega);refine⟨i0,hi,by omega,by omega,by omega,by omega,by omega,⟨hof rfl,⟨i0,Int.le_refl _⟩,γD,?_⟩,?_⟩
  ·unfold g_;rw[show((i.toNat:Nat):Int)=i by omega]
  rintro⟨k,f⟩ ⟨⟨k0,k1⟩,hfl,hfx⟩;simp only at k0 k1 hfl hfx ⊢;refine⟨λhk=>?_,λhk=>?_⟩
  ·have q:=hu.2 k.toNat (by omega);have q1:=q.2 (by omega);have ho:=(Dc ht (i:=(bN (dW t i.toNat) k.toNat (0,false)).1.toNat) (by omega)).1;have hs:=@Ka t (dW t i.toNat) hu k f hk (by omega);rw[hfx] at hs;unfold mT at hs;rw[hfl] at hs;have qq:=q.1;clear q;generalize bN (dW t i.toNat) k.toNat (0,false)=s at qq q1 ho hs ⊢;generalize (bN t s.1.toNat Ap.bw).2.1=o at ho hs ⊢;refine⟨hw _,k0,by omega,hw _,by omega,qq,by omega,by omega,λh=>?_,λh=>?_⟩
   ·rw[if_pos h] at hs;have l1:(f.set o.toNat (-1)).length=p.bj.length:=by rw[γm,hfl]
    refine⟨by omega,ho,by omega,by omega,by omega,hw _,k0,by omega,hw _,by omega,λh2=>?_,λh2=>?_⟩
    ·rw[if_pos h2] at hs;exact⟨by omega,ho,by omega,by omega,by omega,hw _,k0,by omega,hw _,by omega,⟨⟨qq,by omega⟩,by rw[γm];exact l1,by rw[ζr];exact hs.symm⟩,by omega⟩
    ·rw[if_neg (by rw[h2];exact ζs)] at hs;refine⟨hw _,k0,?_,hw _,?_,⟨⟨qq,?_⟩,l1,hs.symm⟩,?_⟩<;>omega
   ·rw[if_neg h] at hs;refine⟨hw _,k0,?_,hw _,?_,⟨⟨qq,?_⟩,hfl,hs.symm⟩,?_⟩<;>omega
  ·have hk0:k=0:=by omega
   have hf:f=g_ p t i.toNat:=by rw[<-hfx,hk0];rfl
   have hbi:=hb i.toNat (by omega);rw[<-hf] at hbi;have no:qm p v f (bN t i.toNat Ap.bw)=false->(13:Int)=if ql p v t=true then 0 else 13:=λh=>by
    have:ql p v t=false:=by unfold ql;rw[δO];intro ha;have:=τ.1 ha i.toNat (γt.2 (by omega));rw[<-hf,h] at this;cases this
    rw[this];rfl
   have next:qm p v f (bN t i.toNat Ap.bw)=true->∀j:Nat,(j:Int)<i+1->qm p v (g_ p t j) (bN t j Ap.bw)=true:=λh j hj=>by
    by_cases h2:(j:Int)<i;·exact hall j h2
    ·rw[show j=i.toNat by omega,<-hf];exact h
   have hup:dW t (i+1).toNat=if(bN t i.toNat Ap.bw).1=2 then((dW t i.toNat).set (bN t i.toNat Ap.bw).2.2.1.toNat (i,false)).set (bN t i.toNat Ap.bw).2.2.2.1.toNat (i,true) else dW t i.toNat:=by
    rw[show(i+1).toNat=i.toNat+1 by omega];conv=>lhs;unfold dW
    rw[show((i.toNat:Nat):Int)=i by omega]
   rw[hup];unfold qm at no next;have hsl:∀(j:Nat) (z:Int×Bool),((dW t i.toNat).set j z).length=t.length:=λj z=>by rw[γm,hlu]
   generalize bN t i.toNat Ap.bw=n at no next hno hbi ⊢;refine⟨λh1=>⟨hfl.symm,⟨hbi h1,v0,v1⟩,λh=>no (by rw[if_pos h1];exact h),λh=>?_⟩,λh1=>⟨λh3=>⟨hfl.symm,hno.1,λh=>no (by rw[if_neg h1,if_pos h3];exact h),λh=>?_⟩,λh3=>⟨λh4=>⟨hfl.symm,by omega,λh=>no (by rw[if_neg h1,if_neg h3,if_pos h4];exact decide_eq_false h),λh=>?_⟩,λh4=>?_⟩⟩⟩;·exact⟨λh2=>by obtain⟨⟨a1,a2⟩,b1,b2⟩:=hno.2 h2;have s1:=hsl n.2.2.1.toNat (i,false);exact⟨hw _,by omega,by omega,hw _,by omega,s1.symm,by omega,by omega,s1.symm,by omega,by omega,hrow (if_pos h2).symm,⟨by omega,by omega,next (by rw[if_pos h1,h.1,decide_eq_true h.2];rfl)⟩,by omega⟩,λh2=>⟨by omega,hrow (if_neg h2).symm,⟨by omega,by omega,next (by rw[if_pos h1,h.1,decide_eq_true h.2];rfl)⟩,by omega⟩⟩
   ·exact⟨λh2=>by obtain⟨⟨a1,a2⟩,b1,b2⟩:=hno.2 h2;have s1:=hsl n.2.2.1.toNat (i,false);exact⟨hw _,by omega,by omega,hw _,by omega,s1.symm,by omega,by omega,s1.symm,by omega,by omega,hrow (if_pos h2).symm,⟨by omega,by omega,next (by rw[if_neg h1,if_pos h3,decide_eq_true h.1,decide_eq_true h.2];rfl)⟩,by omega⟩,λh2=>⟨by omega,hrow (if_neg h2).symm,⟨by omega,by omega,next (by rw[if_neg h1,if_pos h3,decide_eq_true h.1,decide_eq_true h.2];rfl)⟩,by omega⟩⟩
   ·exact⟨λh2=>by obtain⟨⟨a1,a2⟩,b1,b2⟩:=hno.2 h2;have s1:=hsl n.2.2.1.toNat (i,false);exact⟨hw _,by omega,by omega,hw _,by omega,s1.symm,by omega,by omega,s1.symm,by omega,by omega,hrow (if_pos h2).symm,⟨by omega,by omega,next (by rw[if_neg h1,if_neg h3,if_pos h4];exact decide_eq_true h)⟩,by omega⟩,λh2=>⟨by omega,hrow (if_neg h2).symm,⟨by omega,by omega,next (by rw[if_neg h1,if_neg h3,if_pos h4];exact decide_eq_true h)⟩,by omega⟩⟩
   ·have:=no (by rw[if_neg h1,if_neg h3,if_neg h4]);exact⟨hfl.symm,λ_=>this,λh=>by cases h⟩
 ·have:ql p v t=true:=τ.2 λj hj=>hall j (by have:=γt.1 hj;omega);rw[this];rfl
def lz (p:ew) (n:cA):Bool:=!(decide (n.1=1)&&decide ((n.2.2.2.2.length:Int)≠cr p))
def rZ (p:ew) (v:Int) (t:List cA):Int:=
 if nW p≠0 then nW p else if t.length=0 then 1 else if 65536<t.length then 3 else if dy t=false then 2 else if t.all (lz p)=false then 2 else if ql p v t=true then 0 else 13
def tB (p:ew) (v:Int) (t:List cA):Prop:=(∀n∈t,∀x∈n.2.2.2.2,hJ x)/\t.length<=1000000000000/\(nW p=0->dy t=true->t.all (lz p)=true->De p v t)
def C_:NG:=⟨39,ew×Int×List cA,.cons cI (.cons (dY .i64) (.one (cP Ap))),λa=>tB a.1 a.2.1 a.2.2,λa=> .si .i64 (rZ a.1 a.2.1 a.2.2)⟩
def TZ (p:ew) (v:Int) (t:List cA):Nat->bH
 |12=> .inv Int (λi=>⟨[(1,.si .i64 v),(2,.row Ap t),(3,.ptr 0 0 20),(8,.si .i64 (cr p)),(30,.row Ap t),(31,.si .i64 t.length),(32,.si .i64 i)],[.cells p.ss 27 20 false]⟩)
   (λs=>iS s 32) (λi=>0<=i/\i<=t.length/\∀j:Nat,j<i->lz p (bN t j Ap.bw)=true) (λi=>(t.length - i).toNat) λ_ _=> .look
 |_=> .look
theorem IK:d' C_:=by
 refine bI (L:=[nz,D0,vk,Da]) C_ (λa=>TZ a.1 a.2.1 a.2.2) (by grind[oT,II,rm,IH]) ?_;rintro⟨p,v,t⟩ ⟨B,C,D⟩;simp only at B C D;refine NI (let a:=γc .i64;let b:=(0:Int);let c:=γu .i64;let d:=Ω;let o:=decide (nW p≠b);let f:=a (rZ p v t);let h:=(↑t.length:Int);let q:=decide (h=b);let r:=decide ((65536:Int)<h);let i:=γM 0 0 20;let l:=a (cr p);let e:=(↑t.length:Int);let m:=a e;let k:=iZ.cells (ew.ss p) 27 20 false;True/\(o=true->(a (nW p)).bi f)/\(o=false->(q=true->(c 1).bi f)/\(q=false->(r=true->(c 3).bi f)/\(r=false->(∀(n:cA),n∈t->∀(x:NH),x∈n.2.2.2.2->hJ x)/\((!dy t)=true->(c 2).bi f)/\((!dy t)=false->True/\((((a v).bi (a v)/\(d Ap t).bi (d Ap t)/\i.bi i/\(a (if nW p=b then cr p else b)).bi l/\(d Ap t).bi (d Ap t)/\(a h).bi m/\(c 0).bi (a 0)/\True)/\k.bi k/\True)/\b<=b/\b<=e/\∀(j:Nat),(↑j:Int)<b->lz p (bN t j Ap.bw)=true)/\∀(x:Int),let g:=x+(1:Int);let s:=a g;let w:=bN t x.toNat Ap.bw;let y:=TP .i64 g/\(((a v).bi (a v)/\(d Ap t).bi (d Ap t)/\i.bi i/\l.bi l/\(d Ap t).bi (d Ap t)/\m.bi m/\s.bi s/\True)/\k.bi k/\True)/\(b<=g/\g<=e/\∀(j:Nat),(↑j:Int)<g->lz p (bN t j Ap.bw)=true)/\(e - g).toNat<(e - x).toNat;let z:=λ(u:Bool) ↦decide ((↑(γf w.2.2.2.2):Int)≠cr p)=u;let A:=λ(u:Bool) ↦decide (w.1=(1:Int))=u;(b<=x/\x<=e/\∀(j:Nat),(↑j:Int)<x->lz p (bN t j Ap.bw)=true)->(decide (x<e)=true->b<=x/\x<h/\x.toNat<t.length/\(A true->(z true->(c 2).bi f)/\(z false->y))/\(A false->y))/\(decide (x<e)=false->De p v t/\(a (if ql p v t=true then b else(13:Int))).bi f)))))) (by kernel_rfl) ?_;simp only[vcs];unfold rZ;refine⟨λh=>by rw[if_pos h],λh=>?_⟩;rw[if_neg h];have hc:nW p=0:=γa.1 h;refine⟨λh1=>by omega,λh1=>?_⟩;rw[if_neg (show ¬t.length=0 by omega)];refine⟨λO=>by omega,λO=>?_⟩;rw[if_neg (show ¬65536<t.length by omega)];refine⟨B,λG=>by rw[if_pos G],λG=>?_⟩;have E:¬dy t=false:=by simp_all
 rw[if_neg E,if_pos hc];refine⟨⟨rfl,by omega,by omega,λj F=>by omega⟩,?_⟩;rintro i ⟨i0,i1,H⟩;refine⟨λhi=>?_,λhi=>?_⟩
 ·have hm:=cy (d:=Ap.bw) (show i.toNat<t.length by omega);have next:lz p (bN t i.toNat Ap.bw)=true->∀j:Nat,(j:Int)<i+1->lz p (bN t j Ap.bw)=true:=λhr j F=>by grind
  have no:lz p (bN t i.toNat Ap.bw)=false->t.all (lz p)=false:=λhr=>by grind
  refine⟨i0,hi,by omega,λN=>⟨λK=>?_,λK=>⟨by omega,⟨by omega,by omega,next ?_⟩,by omega⟩⟩,λN=>⟨by omega,⟨by omega,by omega,next ?_⟩,by omega⟩⟩;·simp_all[lz]
  all_goals grind[lz]
 ·have P:t.all (lz p)=true:=τ.2 λn I=>by obtain⟨j,F,rfl⟩:=γJ I;grind[bR]
  simp_all
@[reducible] def Rj:cj:=.pair (.zi (.i .i64)) (.pair (.i .i64) (.zi Ap))
def rY (p:ew) (r:List Int×Int×List cA):Int:=if cq p r.1≠0 then cq p r.1 else if dA p r.1≠r.2.1 then 13 else rZ p r.2.1 r.2.2
def C9:NG:=⟨22,ew×List Int×Int×List cA,.cons cI (.one (dg Rj)),λa=>a.2.1.length<=1000000000000/\(cq a.1 a.2.1=0->dA a.1 a.2.1=a.2.2.1->tB a.1 a.2.2.1 a.2.2.2),λa=> .si .i64 (rY a.1 a.2)⟩
theorem IJ:d' C9:=by
 refine bI (L:=[td,Cr,C_]) C9 lk (by grind[pJ,zc,IK]) ?_;rintro⟨p,c,w,t⟩ ⟨g,a⟩;simp only at g a;refine NI (let a:=γc .i64;let d:=decide (cq p c≠(0:Int));let b:=a (rY p (c,w,t));let e:=decide (dA p c≠w);c.length<=9223372036854775807/\(d=true->(a (cq p c)).bi b)/\(d=false->(nW p=(0:Int)/\c.length<=9223372036854775807)/\(e=true->(γu .i64 13).bi b)/\(e=false->tB p w t/\(a (rZ p w t)).bi b))) (by kernel_rfl) ?_;simp only[vcs];unfold rY;refine⟨by omega,λh=>by rw[if_pos h],λh=>?_⟩;rw[if_neg h];have f:cq p c=0:=γa.1 h;have i:nW p=0:=by unfold cq at f;omega
 grind
theorem TY {p:ew} {f:List Int} {d:Int} (h:f.length=p.bj.length):dm p.bj.length (Ao f d):=⟨rJ,λi a=>by grind[kf]⟩
theorem vo {a:Type} {l:List a} {i:Nat} {x d:a} (h:l[i]?=some x):bN l i d=x/\i<l.length:=by grind[bN]
theorem iC.top {p:ew} {v:Int} {t:List cA} {a lo b:Nat} {f:List Int} (h:iC p v t a f lo b):a<t.length/\(lo<b->b<=t.length):=by
 induction h with
 |ef c _ _=>grind;|jY c _=>grind;|@bra a f lo d b k c _ _ _ g e i j=>
  omega
theorem TX {p:ew} {f:List Int} (h:jn p f=true):ec p f:=by
 unfold jn at h;rw[ζ,decide_eq_true_eq] at h;obtain⟨a,b⟩:=h;unfold iD at a;split at a;·omega
 ·rename_i d;split at a;·cases a
  next c=>exact⟨γa.1 d,γa.1 c,b⟩
theorem TW {p:ew} {f:List Int} (h:jn p f=true):Sz 1000002 (jO p f):=by
 have a:=TX h;have c:=@xH p a.1 f f.length a.2.1;rw[φ] at c;have d:Sz 1 ((fX p f:Int):Rat):=by unfold Sz;rw[Rat.num_intCast,Rat.den_intCast];omega
 have b:Sz 1000000 (cE p f).value:=((B3 a).sW (m_ a).1).2.2.2;exact(xR d b).mono (by omega)
theorem TV {n:Nat} (hD:g' (Co n)):g' (tC (n+1)):=by
 refine ZC (L:=[mR,uO,DI,DC]) (W:=[DE,DD,xD,Co n]) (tC (n+1)) (fG 72) lk (by simpa using⟨zw,IQ,uE,hD⟩) (by simpa using⟨n_,zB,IS,IP⟩) ?_;rintro⟨⟨p,ch,val,bp,en,k1,k2,bz,i',bq,fx⟩,a⟩ ⟨hok,ha,hn⟩;simp only at hok ha hn;have e1:k1=bq.length:=hok.k1;have e2:k2=fx.length:=hok.k2;subst e1;subst e2;have hf:dT p fx:=hok.f;have h160:=(cT hf.c).2.1;have hfl:fx.length=p.bj.length:=hf.l;have hfe:=hf.e;have hfo:=hf.jn;have hv0:0<=val:=hok.v0;have hv1:val<=9223372036854775806:=hok.v1;have hm0:1<=bz:=hok.m0;have hm1:bz<=65536:=hok.m1;have hpl:bq.length<=65536:=hok.l;obtain⟨E,hE⟩:∃E,E=en:=⟨_,rfl⟩;have hkE:fQ ⟨p,ch,val,bp,E,bq.length,fx.length,bz,i',bq,fx⟩:=by rw[hE];exact hok
 clear hok;rcases en with _|m;refine NI (let b:=γc .i64;let c:=(0:Int);let d:=(1:Int);let e:=iZ.cells;let f:=SV.IL;let g:=iZ.row;let h:=TP .i64;let j:=(-9223372036854775808:Int);let k:=(-1:Int);let l:=(9223372036854775807:Int);let m:=(2:Int);let o:=Ω;let q:=γA;let r:=γZ;let v:=vL (kp p fx);let x:=b p.bm.a0;let y:=b p.bm.a1;let z:=b p.bm.a2;let A:=b p.bm.a3;let B:=b p.bm.a4;let C:=b p.bm.a5;let D:=b p.bs.a0;let E:=b p.bs.a1;let F:=b p.bs.a2;let G:=b p.bs.a3;let H:=b p.bs.a4;let I:=b p.bs.a5;let J:=b p.bt.a0;let K:=b p.bt.a1;let L:=b p.bt.a2;let M:=b p.bt.a3;let N:=b p.bt.a4;let O:=b p.bt.a5;let U:=cj.i .i64;let P:=o U p.bk;let Q:=o cj.bu p.bj;let ag:=o U ch;let ah:=b val;let R:=SV.fn (Fn.func 70) [] [];let ai:=r 1 bq.length 5;let V:=r 2 fx.length 1;let W:=b bz;let aw:=[V,W,γu .i64 12];let ax:=cu.mk ch val bp bq i';let a7:=dc p (bW none) bz (nF fx) ax a fx;let X:=e [x,y,z,A,B,C,D,E,F,G,H,I,J,K,L,M,N,O,P,Q,o U a7.ch,b a7.val,q a7.bp,R,r 1 a7.bq.length 5,V,W,b a7.i'] 126 28 false;let an:=g Ap bq 108 true;let Y:=g Ap a7.bq 108 true;let t:=g U fx 3 true;let Z:=(↑bq.length:Int);let ay:=decide (bz<Z+m);let az:=bq.length+2;let a8:=Z+d;let ao:=(c,c,c,[]);let aj:=[(c,ao),(c,ao)];let z53:Nat:=(bq++aj).length;let w:=(jb v).getD c;let ap:=(bq++aj).set a.toNat (m,w,Z,a8,[]);let a9:=w.toNat;let ac:=fx.set a9 d;let S:=dc p (bW none) bz (nF ac) (cu.mk ch val bp ap i') a8 ac;let ad:=fx.set a9 k;let aa:=dc p (bW none) bz (nF ad) S Z ad;let ak:=((kq p fx).1,(kq p fx).2.1,(kq p fx).2.2);let al:=val+d;let aq:=nf (κ al);let aA:=(aq.1,aq.2.1,aq.2.2);let aB:=iE (TM ak) (TM aA);let aC:=decide (aB<c);let aD:=(d,c,c,c,qL p fx);let s:=dF (bW none) ax (bC.mk (eA v) (bE (γd (oI p) (eA v))));let z69:Nat:=(s.bq++aj).length;let ae:=s.bq.length;let am:=s.val+d;let ar:=nf (κ am);let ab:=(↑ae:Int);let aE:=decide (i'≠c);let aF:=decide (iD p fx≠c);let a6:=s.bq.length;let af:=ab+d;let au:=(s.bq++aj).set a.toNat (m,w,ab,af,[]);let T:=dc p (bW none) bz (nF ac) (cu.mk s.ch s.val s.bp au s.i') af ac;let aG:=dc p (bW none) bz (nF ad) T ab ad;let aT:=let aH:=(f []).bi (f [])/\(e (x::y::z::A::B::C::D::E::F::G::H::I::J::K::L::M::N::O::P::Q::ag::ah::q bp::R::ai::aw) 126 28 false).bi X/\an.bi Y/\t.bi t/\True;n9 (kp p fx)/\((!(jb v).isSome)=true->aH)/\((!(jb v).isSome)=false->h (Z+m)/\(ay=true->aH)/\(ay=false->2=2/\bq.length=bq.length/\az*56<=140737488355328/\az<=1000000000000/\h a8/\z53=z53/\c<=a/\a<(↑z53:Int)/\z53=z53/\a.toNat<z53/\h a8/\(fQ (cV.mk p ch val bp none z53 fx.length bz i' ap fx)/\(c<=a8/\a8<(↑ap.length:Int))/\(c<=w/\w<(↑fx.length:Int))/\bN fx a9 c=c/\(d=d\/d=k)/\nF ac<n)/\(fQ (cV.mk p S.ch S.val S.bp none S.bq.length fx.length bz S.i' S.bq fx)/\(c<=Z/\Z<(↑S.bq.length:Int))/\(c<=w/\w<(↑fx.length:Int))/\bN fx a9 c=c/\(k=d\/k=k)/\nF ad<n)/\(f []).bi (f [])/\(e [x,y,z,A,B,C,D,E,F,G,H,I,J,K,L,M,N,O,P,Q,o U aa.ch,b aa.val,q aa.bp,R,r 1 aa.bq.length 5,V,W,b aa.i'] 126 28 false).bi X/\(g Ap aa.bq 108 true).bi Y/\t.bi t/\True));let aI:=(bP ak/\bP aA)/\(aC=true->bq.length=bq.length/\c<=a/\a<(↑bq.length:Int)/\bq.length=bq.length/\a.toNat<bq.length/\(f []).bi (f [])/\(e [x,y,z,A,B,C,D,E,F,G,H,I,J,K,L,M,N,O,P,Q,ag,ah,q bp,R,ai,V,W,b i'] 126 28 false).bi X/\(g Ap (bq.set a.toNat aD) 108 true).bi Y/\t.bi t/\True)/\(aC=false->aT);let aJ:=z69=z69;let aK:=(f []).bi (f [])/\(e (x::y::z::A::B::C::D::E::F::G::H::I::J::K::L::M::N::O::P::Q::o U s.ch::b s.val::q s.bp::R::r 1 ae 5::aw) 126 28 false).bi X/\(g Ap s.bq 108 true).bi Y/\t.bi t/\True;let aL:=(f []).bi (f [])/\(e [x,y,z,A,B,C,D,E,F,G,H,I,J,K,L,M,N,O,P,Q,ag,ah,q bp,R,ai,V,W,b i'] 126 28 false).bi X/\an.bi Y/\t.bi t/\True;let aM:=λ(u:cu) (u_1:iZ) ↦(f []).bi (f [])/\(e [x,y,z,A,B,C,D,E,F,G,H,I,J,K,L,M,N,O,P,Q,o U u.ch,b u.val,q u.bp,R,r 1 u.bq.length 5,V,W,b u.i'] 126 28 false).bi X/\u_1.bi Y/\t.bi t/\True;let aN:=λ(u:cV) (u_1:Int) (u_2:Nat) (u_3:Int) ↦fQ u/\(c<=u_1/\u_1<(↑u_2:Int))/\(c<=w/\w<(↑fx.length:Int))/\bN fx a9 c=c/\(u_3=d\/u_3=k)/\nF (fx.set a9 u_3)<n;let aO:=λ(u:Int) (u_1:iZ) ↦(f []).bi (f [])/\(e [x,y,z,A,B,C,D,E,F,G,H,I,J,K,L,M,N,O,P,Q,ag,ah,q bp,R,ai,V,W,b u] 126 28 false).bi X/\u_1.bi Y/\t.bi t/\True;let aP:=λ(u:Bool) ↦decide (iE (TM ak) (TM (ar.1,ar.2.1,ar.2.2))<c)=u;let aQ:=λ(u:Bool) ↦decide (c<=aB)=u;let aR:=λ(u:Int) ↦let av:=nf (κ (u+d));bP ak/\bP (av.1,av.2.1,av.2.2);let aS:=λ(u:Bool) ↦decide (bz<ab+m)=u;(aE=true->aL)/\(aE=false->(bp=true->aL)/\(bp=false->(fx.length=fx.length/\fx.length<=1000000000000)/\(aF=true->aO (iD p fx) an)/\(aF=false->((!jn p fx)=true->bq.length=bq.length/\c<=a/\a<(↑bq.length:Int)/\bq.length=bq.length/\a.toNat<bq.length/\aO i' (g Ap (bq.set a.toNat ((3:Int),ao)) 108 true))/\((!jn p fx)=false->h al/\(j<=al/\al<=l)/\aR val/\(aQ true->n9 (kp p fx)/\(lK v=true->(fQ (cV.mk p ch val bp none bq.length fx.length bz i' bq fx)/\n9 (kp p fx)/\(kp p fx).length=p.bj.length)/\bq.length=bq.length/\h am/\(j<=am/\am<=l)/\aR s.val/\(aP true->ae=a6/\c<=a/\a<(↑a6:Int)/\ae=a6/\a.toNat<a6/\aM s (g Ap (s.bq.set a.toNat aD) 108 true))/\(aP false->n9 (kp p fx)/\((!(jb v).isSome)=true->aK)/\((!(jb v).isSome)=false->h (ab+m)/\(aS true->aK)/\(aS false->2=2/\ae=a6/\(a6+2)*56<=140737488355328/\a6+2<=1000000000000/\h af/\aJ/\c<=a/\a<(↑z69:Int)/\aJ/\a.toNat<z69/\h af/\aN (cV.mk p s.ch s.val s.bp none z69 fx.length bz s.i' au fx) af au.length d/\aN (cV.mk p T.ch T.val T.bp none T.bq.length fx.length bz T.i' T.bq fx) ab T.bq.length k/\aM aG (g Ap aG.bq 108 true)))))/\(lK v=false->aI))/\(aQ false->aI)))))) (by kernel_rfl) ?_;conv=>zeta
 rotate_left;refine NI (let b:=γc .i64;let c:=(0:Int);let d:=iZ.cells;let e:=(1:Int);let f:=SV.IL;let g:=iZ.row;let h:=TP .i64;let j:=(-9223372036854775808:Int);let k:=(-1:Int);let l:=(9223372036854775807:Int);let o:=(2:Int);let q:=Ω;let r:=γA;let s:=γZ;let ai:=((kq p fx).1,(kq p fx).2.1,(kq p fx).2.2);let aj:=val+e;let ap:=nf (κ aj);let ay:=(ap.1,ap.2.1,ap.2.2);let az:=iE (TM ai) (TM ay);let aA:=decide (az<c);let z:=b p.bm.a0;let A:=b p.bm.a1;let B:=b p.bm.a2;let C:=b p.bm.a3;let D:=b p.bm.a4;let E:=b p.bm.a5;let F:=b p.bs.a0;let G:=b p.bs.a1;let H:=b p.bs.a2;let I:=b p.bs.a3;let J:=b p.bs.a4;let K:=b p.bs.a5;let L:=b p.bt.a0;let M:=b p.bt.a1;let N:=b p.bt.a2;let O:=b p.bt.a3;let P:=b p.bt.a4;let Q:=b p.bt.a5;let W:=cj.i .i64;let R:=q W p.bk;let S:=q cj.bu p.bj;let ak:=q W ch;let al:=b val;let T:=SV.fn (Fn.func 116) [] [γM 1 0 1];let am:=s 2 bq.length 5;let X:=s 3 fx.length 1;let Y:=b bz;let aB:=cu.mk ch val bp bq i';let a9:=dc p (bW (some m)) bz (nF fx) aB a fx;let Z:=d [z,A,B,C,D,E,F,G,H,I,J,K,L,M,N,O,P,Q,R,S,q W a9.ch,b a9.val,r a9.bp,T,s 2 a9.bq.length 5,X,Y,b a9.i'] 126 28 false;let v:=d [b m] 2 1 false;let aC:=(e,c,c,c,qL p fx);let a6:=g Ap a9.bq 108 true;let w:=g W fx 3 true;let x:=vL (kp p fx);let aD:=[X,Y,γu .i64 12];let aq:=g Ap bq 108 true;let a7:=(↑bq.length:Int);let aE:=decide (bz<a7+o);let aF:=bq.length+2;let aa:=a7+e;let ar:=(c,c,c,[]);let an:=[(c,ar),(c,ar)];let z61:Nat:=(bq++an).length;let y:=(jb x).getD c;let au:=(bq++an).set a.toNat (o,y,a7,aa,[]);let ab:=y.toNat;let ae:=fx.set ab e;let U:=dc p (bW (some m)) bz (nF ae) (cu.mk ch val bp au i') aa ae;let af:=fx.set ab k;let ac:=dc p (bW (some m)) bz (nF af) U a7 af;let t:=dF (bW (some m)) aB (bC.mk (eA x) (bE (γd (oI p) (eA x))));let ag:=t.bq.length;let z71:Nat:=(t.bq++an).length;let ao:=t.val+e;let av:=nf (κ ao);let ad:=(↑ag:Int);let aG:=decide (i'≠c);let aH:=decide (iD p fx≠c);let a8:=t.bq.length;let ah:=ad+e;let aw:=(t.bq++an).set a.toNat (o,y,ad,ah,[]);let V:=dc p (bW (some m)) bz (nF ae) (cu.mk t.ch t.val t.bp aw t.i') ah ae;let aI:=dc p (bW (some m)) bz (nF af) V ad af;let aV:=let aJ:=(f []).bi (f [])/\(d (z::A::B::C::D::E::F::G::H::I::J::K::L::M::N::O::P::Q::R::S::ak::al::r bp::T::am::aD) 126 28 false).bi Z/\v.bi v/\aq.bi a6/\w.bi w/\True;(aA=true->bq.length=bq.length/\c<=a/\a<(↑bq.length:Int)/\bq.length=bq.length/\a.toNat<bq.length/\(f []).bi (f [])/\(d [z,A,B,C,D,E,F,G,H,I,J,K,L,M,N,O,P,Q,R,S,ak,al,r bp,T,am,X,Y,b i'] 126 28 false).bi Z/\v.bi v/\(g Ap (bq.set a.toNat aC) 108 true).bi a6/\w.bi w/\True)/\(aA=false->n9 (kp p fx)/\((!(jb x).isSome)=true->aJ)/\((!(jb x).isSome)=false->h (a7+o)/\(aE=true->aJ)/\(aE=false->2=2/\bq.length=bq.length/\aF*56<=140737488355328/\aF<=1000000000000/\h aa/\z61=z61/\c<=a/\a<(↑z61:Int)/\z61=z61/\a.toNat<z61/\h aa/\(fQ (cV.mk p ch val bp (some m) z61 fx.length bz i' au fx)/\(c<=aa/\aa<(↑au.length:Int))/\(c<=y/\y<(↑fx.length:Int))/\bN fx ab c=c/\(e=e\/e=k)/\nF ae<n)/\(fQ (cV.mk p U.ch U.val U.bp (some m) U.bq.length fx.length bz U.i' U.bq fx)/\(c<=a7/\a7<(↑U.bq.length:Int))/\(c<=y/\y<(↑fx.length:Int))/\bN fx ab c=c/\(k=e\/k=k)/\nF af<n)/\(f []).bi (f [])/\(d [z,A,B,C,D,E,F,G,H,I,J,K,L,M,N,O,P,Q,R,S,q W ac.ch,b ac.val,r ac.bp,T,s 2 ac.bq.length 5,X,Y,b ac.i'] 126 28 false).bi Z/\v.bi v/\(g Ap ac.bq 108 true).bi a6/\w.bi w/\True)));let aK:=(f []).bi (f [])/\(d (z::A::B::C::D::E::F::G::H::I::J::K::L::M::N::O::P::Q::R::S::q W t.ch::b t.val::r t.bp::T::s 2 ag 5::aD) 126 28 false).bi Z/\v.bi v/\(g Ap t.bq 108 true).bi a6/\w.bi w/\True;let aL:=z71=z71;let aM:=(f []).bi (f [])/\(d [z,A,B,C,D,E,F,G,H,I,J,K,L,M,N,O,P,Q,R,S,ak,al,r bp,T,am,X,Y,b i'] 126 28 false).bi Z/\v.bi v/\aq.bi a6/\w.bi w/\True;let aN:=(bP ai/\bP ay)/\aV;let aO:=λ(u:cu) (u_1:iZ) ↦(f []).bi (f [])/\(d [z,A,B,C,D,E,F,G,H,I,J,K,L,M,N,O,P,Q,R,S,q W u.ch,b u.val,r u.bp,T,s 2 u.bq.length 5,X,Y,b u.i'] 126 28 false).bi Z/\v.bi v/\u_1.bi a6/\w.bi w/\True;let aP:=λ(u:cV) (u_1:Int) (u_2:Nat) (u_3:Int) ↦fQ u/\(c<=u_1/\u_1<(↑u_2:Int))/\(c<=y/\y<(↑fx.length:Int))/\bN fx ab c=c/\(u_3=e\/u_3=k)/\nF (fx.set ab u_3)<n;let aQ:=λ(u:Int) (u_1:iZ) ↦(f []).bi (f [])/\(d [z,A,B,C,D,E,F,G,H,I,J,K,L,M,N,O,P,Q,R,S,ak,al,r bp,T,am,X,Y,b u] 126 28 false).bi Z/\v.bi v/\u_1.bi a6/\w.bi w/\True;let aR:=λ(u:Bool) ↦decide (iE (TM ai) (TM (av.1,av.2.1,av.2.2))<c)=u;let aS:=λ(u:Bool) ↦decide (c<=az)=u;let aT:=λ(u:Int) ↦let ax:=nf (κ (u+e));bP ai/\bP (ax.1,ax.2.1,ax.2.2);let aU:=λ(u:Bool) ↦decide (bz<ad+o)=u;(aG=true->aM)/\(aG=false->(bp=true->aM)/\(bp=false->(fx.length=fx.length/\fx.length<=1000000000000)/\(aH=true->aQ (iD p fx) aq)/\(aH=false->((!jn p fx)=true->bq.length=bq.length/\c<=a/\a<(↑bq.length:Int)/\bq.length=bq.length/\a.toNat<bq.length/\aQ i' (g Ap (bq.set a.toNat ((3:Int),ar)) 108 true))/\((!jn p fx)=false->h aj/\(j<=aj/\aj<=l)/\aT val/\(aS true->n9 (kp p fx)/\(lK x=true->(fQ (cV.mk p ch val bp (some m) bq.length fx.length bz i' bq fx)/\n9 (kp p fx)/\(kp p fx).length=p.bj.length)/\bq.length=bq.length/\h ao/\(j<=ao/\ao<=l)/\aT t.val/\(aR true->ag=a8/\c<=a/\a<(↑a8:Int)/\ag=a8/\a.toNat<a8/\aO t (g Ap (t.bq.set a.toNat aC) 108 true))/\(aR false->n9 (kp p fx)/\((!(jb x).isSome)=true->aK)/\((!(jb x).isSome)=false->h (ad+o)/\(aU true->aK)/\(aU false->2=2/\ag=a8/\(a8+2)*56<=140737488355328/\a8+2<=1000000000000/\h ah/\aL/\c<=a/\a<(↑z71:Int)/\aL/\a.toNat<z71/\h ah/\aP (cV.mk p t.ch t.val t.bp (some m) z71 fx.length bz t.i' aw fx) ah aw.length e/\aP (cV.mk p V.ch V.val V.bp (some m) V.bq.length fx.length bz V.i' V.bq fx) ad V.bq.length k/\aO aI (g Ap aI.bq 108 true)))))/\(lK x=false->aN))/\(aS false->aN)))))) (by kernel_rfl) ?_;conv=>zeta
 all_goals simp only[vcs]
 all_goals rw[<-hE]
 all_goals refine⟨λh=>by rw[DA hf (.inl h)];exact⟨rfl,rfl⟩,λh0=>⟨λh=>by rw[DA hf (.inr h)];exact⟨rfl,rfl⟩,λh1=>⟨by omega,λh=>absurd hfe h,λ_=>⟨λh=>?_,λhb=>?_⟩⟩⟩⟩
 all_goals
  have hs:¬((⟨ch,val,bp,bq,i'⟩:cu).i'≠0\/(⟨ch,val,bp,bq,i'⟩:cu).bp=true):=by
   rintro(h|h);·exact h0 h
   ·rw[show bp=true from h] at h1;cases h1
 all_goals try
  rw[UZ hf hs (by rw[<-hfo];exact h)];exact⟨ha.1,ha.2,by omega,by simp only[γm];rfl,rfl⟩
 all_goals
  have hbf:gF p fx=true:=by rw[<-hfo];exact hb
  have hfix:=hf.ok hbf;have eB:kq p fx=nf (jO p fx):=by unfold kq;rw[if_pos hb]
  have eS:kp p fx=fL (dz p fx):=by unfold kp dz;rw[if_pos hb]
  have eP:qL p fx=fL (gS p fx):=by unfold qL;rw[if_pos hb]
  have hsl:(dz p fx).length=fx.length:=qK;have oS:n9 (fL (dz p fx)):=⟨dz p fx,rfl,by rw[ff];omega,λq hq=>by obtain⟨i,hi,rfl⟩:=γJ hq;have:=(DX hfix hf.r (i:=i) (by omega)).2.2;rwa [bR hi] at this⟩;have fB:bP (nf (jO p fx)):=df (TW hb) (by omega);have fI:∀v:Int,0<=v->v<=9223372036854775807->bP (nf (κ v)):=λv h0 h1=>df (qv (by omega) h1) (by omega);have hcv:∀v:Int,iE (jO p fx) (κ v)<0↔jO p fx<((v:Int):Rat):=λv=>sd;simp only[eB,eS,eP,ku,jt,dR];have hcm:eA (dz p fx)=(oh p fx).bn:=rfl;have hok0:=hkE;refine⟨by omega,by omega,⟨fB,fI _ (by omega) (by omega)⟩,λhge=>⟨oS,λhi=>?_,λhi=>?_⟩,λhlt=>?_⟩
 all_goals first
  |(have hO:cO p (bW E) ⟨ch,val,bp,bq,i'⟩ fx=dF (bW E) ⟨ch,val,bp,bq,i'⟩ ⟨eA (dz p fx),bE ((eA (dz p fx)).map (oI p))⟩:=by unfold cO;rw[if_pos ⟨Rat.not_lt.1 λh=>absurd ((hcv (val+1)).2 h) (Int.not_lt.2 hge),hi⟩];rfl
    have hok':fQ (cV.kj ⟨p,ch,val,bp,E,bq.length,fx.length,bz,i',bq,fx⟩ (cO p (bW E) ⟨ch,val,bp,bq,i'⟩ fx)):=hkE.Ro;rw[hO] at hok';obtain⟨e1,e2,_⟩:=@DU (bW E) ⟨ch,val,bp,bq,i'⟩ ⟨eA (dz p fx),bE ((eA (dz p fx)).map (oI p))⟩;generalize dF (bW E) ⟨ch,val,bp,bq,i'⟩ ⟨eA (dz p fx),bE ((eA (dz p fx)).map (oI p))⟩=O at*;obtain⟨ch,val,bp,prf',aNv⟩:=O;have e1:bq=prf':=Eq.symm e1;have e2:i'=aNv:=Eq.symm e2;subst e1;subst e2;generalize aNv=i' at*;have w0:0<=val:=hok'.v0;have w1:val<=9223372036854775806:=hok'.v1;have hkE:=hok';dsimp only;refine⟨⟨hok0,oS,by rw[ff];omega⟩,by omega,by omega,?_⟩)
  |(have hO:cO p (bW E) ⟨ch,val,bp,bq,i'⟩ fx=⟨ch,val,bp,bq,i'⟩:=by unfold cO;rw[if_neg (λh=>by rw[h.2] at hi;cases hi)])
  |(have hO:cO p (bW E) ⟨ch,val,bp,bq,i'⟩ fx=⟨ch,val,bp,bq,i'⟩:=by unfold cO;rw[if_neg (λh=>Rat.not_lt.2 h.1 ((hcv (val+1)).1 (Int.not_le.1 hlt)))])
 all_goals refine⟨⟨fB,fI _ (by omega) (by omega)⟩,λh=>?_,λh=>⟨oS,λhk=>?_,λhk=>⟨by omega,λhm=>?_,λhm=>?_⟩⟩⟩
 all_goals first
  |(rw[LV hf hs hbf hO (λh'=>h ((hcv _).2 h')) (.inr hm)];exact⟨rfl,rfl⟩)
  |(obtain⟨k,hk'⟩:=Option.isSome_iff_exists.1 hk;rw[UX hf hs hbf hO (λh'=>h ((hcv _).2 h')) hk' hm];simp only[hk',Option.getD_some];obtain⟨hk1,hk2,hk3⟩:=BP hk';rw[hsl] at hk1;have hk0:bN fx k.toNat 0=0:=BS hfix hf.r (by omega) hk2 hk3;have n1:=tD hk1 hk0 (d:=1) (by omega);have n2:=tD hk1 hk0 (d:= -1) (by omega);have hl2:((bq++[zN,zN]).set a.toNat (tE k bq.length)).length=bq.length+2:=by rw[γm,γF];rfl
    have hl1:(bq++[zN,zN]).length=bq.length+2:=by rw[γF];rfl
    have o1:=fQ.Rh (x:=⟨p,ch,val,bp,E,bq.length,fx.length,bz,i',bq,fx⟩) hkE (k:=(bq++[zN,zN]).length) (l:=(bq++[zN,zN]).set a.toNat (tE k bq.length)) hm (by rw[hl1,hl2]) hl2;have o2:=o1.Q7 (f:=fx.set k.toNat 1) (hf.set (by omega)) (n:=nF (fx.set k.toNat 1)) (a:=(bq.length:Int)+1);have o3:=(@xE p (bW E) bz (nF (fx.set k.toNat 1)) (jN ⟨ch,val,bp,bq,i'⟩ a k) ((bq.length:Int)+1) (fx.set k.toNat 1) (hf.set (by omega))).1;have o4:bq.length+2<=(dc p (bW E) bz (nF (fx.set k.toNat 1)) (jN ⟨ch,val,bp,bq,i'⟩ a k) ((bq.length:Int)+1) (fx.set k.toNat 1)).bq.length:=by rw[<-hl2];exact o3
    have q1:a<((bq++[zN,zN]).length:Int):=by omega
    have q3:(bq.length:Int)+1<(((bq++[zN,zN]).set a.toNat (tE k bq.length)).length:Int):=by rw[hl2];omega
    have q2:a.toNat<(bq++[zN,zN]).length:=by omega
    exact⟨by omega,by omega,by omega,ha.1,q1,q2,by omega,⟨o1,⟨by omega,q3⟩,hk1,hk0,.inl trivial,by omega⟩,⟨o2,⟨by omega,Int.ofNat_lt.2 (Nat.lt_of_lt_of_le (by omega) o4)⟩,hk1,hk0,.inr trivial,by omega⟩,rfl,rfl⟩)
  |(rw[LV hf hs hbf hO (λh'=>h ((hcv _).2 h')) (.inl (Option.isSome_eq_false_iff.1 hk |>Option.isNone_iff_eq_none.1))];exact⟨rfl,rfl⟩)
  |(rw[UY hf hs hbf hO ((hcv _).1 h)];refine⟨ha.1,ha.2,by omega,?_,rfl⟩;simp only[γm];rfl)
theorem C8:∀n,g' (tC n)
 |0=>λa b=>absurd b.2.2 (by omega)
 |n+1=>TV (U0 (C8 n))
theorem rX {p:ew} (a:nW p=0) {c:List Int} (f:cq p c=0):0<=dA p c/\dA p c<=160000000/\c.length<=160:=by
 obtain⟨_,b⟩:=rT f;have d:=(cT a).2.1;have j:c.length<=p.bj.length:=rU b;have h:=pg (cT a) (l:=c.map (oI p)) λx g=>by obtain⟨i,e,rfl⟩:=Δ.1 g;have:=b.2 i e;exact cy (by omega)
 grind[vE]
theorem C7 {p:ew} (a:nW p=0):(ju p).length<=160:=(rX a (MH a)).2.2
theorem TU {p:ew} {c:List Int} {a:Int} {k:Nat} (e:nW p=0) (h:cq p c=0) (l:1<=a) (m:a<=65536) (i:k=p.bj.length):fQ ⟨p,(ke p c).ch,(ke p c).val,(ke p c).bp,none,(ke p c).bq.length,k,a,(ke p c).i',(ke p c).bq,gB p⟩:=by
 have b:=Ey e h;have d:=vy e;have f:cq p (ke p c).ch=0/\dA p (ke p c).ch=(ke p c).val:=
  vz (G:=λc w _=>cq p c=0/\dA p c=w) (λ_ _ _ _ _ _ b d _=>⟨b,d⟩) (vz (G:=λc w _=>cq p c=0/\dA p c=w) (λ_ _ _ _ _ _ b d _=>⟨b,d⟩) (s:=⟨c,dA p c,false,[zN],0⟩) ⟨h,rfl⟩ b.2.1 b.2.2.1) d.1 d.2;obtain⟨g,j,n⟩:=rX e f.1;obtain⟨o,_,_⟩:=@DN p c;rw[f.2] at g j;exact⟨mZ e,rfl,by rw[i];exact(γD).symm,g,by grind,l,m,by simp_all,by grind⟩
theorem TT {p:ew} {m a:Int} {k:Nat} (b:nW p=0) (q:0<m/\m<=9223372036854775807) (h:1<=a) (i:a<=65536) (g:k=p.bj.length):fQ ⟨p,(kd p m).ch,(kd p m).val,(kd p m).bp,some m,(kd p m).bq.length,k,a,(kd p m).i',(kd p m).bq,gB p⟩:=by
 have d:=vy b;have e:(0<=(kd p m).val/\(kd p m).val<=9223372036854775806)/\(kd p m).ch.length<=160:=
  vz (G:=λc w _=>(0<=w/\w<=9223372036854775806)/\c.length<=160) (λ_ _ _ t l _ f d _=>by obtain⟨j,n,o⟩:=rX b f;omega) (s:=⟨[],m - 1,false,[zN],0⟩) ⟨⟨by grind,by grind⟩,by simp_all⟩ d.1 d.2;obtain⟨r,_⟩:=@DL p m;exact⟨mZ b,rfl,by rw[g];exact(γD).symm,e.1.1,e.1.2,h,i,by simp_all,by grind⟩
noncomputable def C6:NG:=⟨53,ew×bC×Int,.cons cI (.cons mA (.one (dY .i64))),λa=>a.1.bj.length<=20/\a.2.1.bn.length<=9223372036854775807,
 λa=> .IL [.agg [.row (.i .i64) (if jM a.1 a.2.1.bn a.2.2=0 then(gR a.1 a.2.1.bn a.2.2).ch else[]),.si .i64 (if jM a.1 a.2.1.bn a.2.2=0 then(gR a.1 a.2.1.bn a.2.2).val else 0)],.row Ap (if jM a.1 a.2.1.bn a.2.2=0 then(gR a.1 a.2.1.bn a.2.2).bq else[]),.si .i64 (jM a.1 a.2.1.bn a.2.2)]⟩
theorem IY:d' C6:=by
 refine jY (L:=[td,Cr,xj,xk]) (W:=fH [xD,tC 161]) C6 lk (j6 (by grind[uE,C8])) (by grind[pJ,zc,uG,uH]) ?_;rintro⟨p,⟨c,v⟩,a⟩ ⟨o,f⟩;simp only at o f;refine NI (let e:=(0:Int);let f:=γc .i64;let h:=(140737488355328:Int);let k:=(1000000000000:Int);let o:=(1:Int);let v:=Ω;let w:=γG;let z:=SV.IL;let D:=cj.i .i64;let s:=v D [];let t:=γu .i64 0;let A:=gR p c a;let E:=z [w [v D (if jM p c a=e then A.ch else[]),f (if jM p c a=e then A.val else e)],v Ap (if jM p c a=e then A.bq else[]),f (jM p c a)];let g:=(↑p.bj.length:Int);let r:=δ g.toNat e;let j:=dF (bW none) (cu.mk c (dA p c) false [(e,e,e,e,[])] e) (fY p c);let b:=dF (bW none) j (fY p (ju p));let d:=dc p (bW none) a (nF r) b e r;let m:=decide (cq p c≠e);let n:=decide (a<o);let q:=decide ((65536:Int)<a);let l:=0+c.length;let G:=(z [w [s,t],s,γu .i64 4]).bi E;let x:=λ(u:List Int) (y B C:SV) ↦(z [w [v D u,y],B,C]).bi E;let F:=λ(u:Bool) ↦decide (d.i'≠e)=u;c.length<=9223372036854775807/\(m=true->x [] t s (f (cq p c)))/\(m=false->(n=true->G)/\(n=false->(q=true->G)/\(q=false->0=0/\l*8<=140737488355328/\l<=1000000000000/\(nW p=e/\c.length<=9223372036854775807)/\e<=o/\o<=o/\(56:Int)<=h/\o<=k/\e<=g/\g<=g/\g*(8:Int)<=h/\g<=k/\c.length=c.length/\c.length=c.length/\c.length<=9223372036854775807/\1=1/\p.bj.length<=20/\(ju p).length<=9223372036854775807/\j.bq.length=j.bq.length/\(fQ (cV.mk p b.ch b.val b.bp none b.bq.length g.toNat a b.i' b.bq r)/\(e<=e/\e<(↑b.bq.length:Int))/\nF r<161)/\(F true->x [] t s (f d.i'))/\(F false->d.bq.length=d.bq.length/\x d.ch (f d.val) (v Ap d.bq) t))))) (by kernel_rfl) ?_;simp only[vcs];have M:(δ ((p.bj.length:Int)).toNat 0:List Int)=gB p:=by grind[gB]
 have P:dF (bW none) (dF (bW none) ⟨c,dA p c,false,[(0,(0,(0,(0,[]))))],0⟩ (fY p c)) (fY p (ju p))=ke p c:=rfl;have J:nF (gB p)=p.bj.length:=vA;simp only[M,P,J];refine⟨f,λh=>?_,λh=>⟨λH=>?_,λH=>⟨λN=>?_,λN=>?_⟩⟩⟩
 ·have e:jM p c a=cq p c:=by simp_all[jM]
  rw[e,if_neg h,if_neg h,if_neg h];exact⟨rfl,rfl,rfl⟩
 ·have e:jM p c a=4:=by simp_all[jM]
  rw[e];exact⟨rfl,rfl,rfl⟩
 ·have e:jM p c a=4:=by simp_all[jM]
  rw[e];exact⟨rfl,rfl,rfl⟩
 ·have z:cq p c=0:=γa.1 h;have w:nW p=0:=(rT z).1;obtain⟨Q,T,U⟩:=rX w z;obtain⟨I,R,S⟩:=@DN p c;have e:jM p c a=(gR p c a).i':=by simp_all[jM,if_neg]
  have O:dc p (bW none) a p.bj.length (ke p c) 0 (gB p)=gR p c a:=rfl;have K:=C7 w;rw[O,e];refine⟨by omega,by omega,⟨w,f⟩,by omega,by omega,by omega,by omega,by omega,by omega,by omega,by omega,f,o,by omega,⟨TU w z (by omega) (by omega) (by omega),⟨by omega,by rw[I];decide⟩,by omega⟩,λk=>?_,λk=>?_⟩
  ·rw[if_neg k,if_neg k,if_neg k];exact⟨rfl,rfl,rfl⟩
  ·rw[γa] at k;rw[k];exact⟨rfl,rfl,rfl⟩
noncomputable def C5:NG:=⟨80,ew×Int×Int,.cons cI (.cons (dY .i64) (.one (dY .i64))),λa=>a.1.bj.length<=20/\ -9223372036854775808<=a.2.1/\a.2.1<=9223372036854775807,
 λa=> .IL [.agg [.row (.i .i64) (mY a.1 a.2.1 a.2.2).bn,.si .i64 (mY a.1 a.2.1 a.2.2).value],.sb (jr a.1 a.2.1 a.2.2),.si .i64 (iB a.1 a.2.1 a.2.2)]⟩
theorem IX:d' C5:=by
 refine jY (L:=[nz,xj,xk]) (W:=fH [xD,tC 161]) C5 lk (j6 (by grind[uE,C8])) (by grind[oT,uG,uH]) ?_;rintro⟨p,m,b⟩ ⟨x,H,G⟩;simp only at x H G;refine NI (let a:=(0:Int);let c:=γc .i64;let e:=(1:Int);let f:=(140737488355328:Int);let h:=SV.IL;let l:=(1000000000000:Int);let v:=γu .i64;let x:=Ω;let y:=γG;let w:=cj.i .i64;let t:=[v 0];let k:=h [y [x w (mY p m b).bn,c (mY p m b).value],γA (jr p m b),c (iB p m b)];let n:=y (x w []::t);let s:=δb false;let g:=dF (bW (some m)) (cu.mk [] (m - e) false [(a,a,a,a,[])] a) (fY p (ju p));let A:=decide (nW p≠a);let C:=decide (b<e);let r:=decide ((65536:Int)<b);let q:=decide (m<=a);let d:=(↑p.bj.length:Int);let j:=δ d.toNat a;let z:=λ(u:cu) ↦let o:=decide (u.i'≠a);(u.bp=true->(h (y [x w u.ch,c u.val]::δb true::t)).bi k)/\(u.bp=false->(o=true->(h [n,s,c u.i']).bi k)/\(o=false->(h (n::s::t)).bi k));let B:=λ(u:Bool) ↦(!g.bp)=u;True/\(A=true->(h [n,s,c (nW p)]).bi k)/\(A=false->(C=true->(h [n,s,v 4]).bi k)/\(C=false->(r=true->(h [n,s,v 4]).bi k)/\(r=false->(q=true->(h (n::δb true::t)).bi k)/\(q=false->TP .i64 (m - e)/\a<=e/\e<=e/\(56:Int)<=f/\e<=l/\a<=d/\d<=d/\d*(8:Int)<=f/\d<=l/\0=0/\p.bj.length<=20/\(ju p).length<=9223372036854775807/\1=1/\(B true->(fQ (cV.mk p g.ch g.val g.bp (some m) g.bq.length d.toNat b g.i' g.bq j)/\(a<=a/\a<(↑g.bq.length:Int))/\nF j<161)/\z (dc p (bW (some m)) b (nF j) g a j))/\(B false->z g)))))) (by kernel_rfl) ?_;simp only[vcs];have P:(δ ((p.bj.length:Int)).toNat 0:List Int)=gB p:=by grind[gB]
 have O:dF (bW (some m)) ⟨[],m - 1,false,[(0,(0,(0,(0,[]))))],0⟩ (fY p (ju p))=kd p m:=rfl;have K:nF (gB p)=p.bj.length:=vA;simp only[P,O,K];have I:∀e:Int,iB p m b=e->jr p m b=(decide (e=0)&&(decide (m<=0)||(fy p m b).bp)):=λe h=>by grind[jr]
 have c:jr p m b=false\/m<=0->mY p m b=⟨[],0⟩:=λh=>by unfold mY;grind
 refine⟨λh=>?_,λh=>⟨λM=>?_,λM=>⟨λN=>?_,λN=>⟨λE=>?_,λE=>?_⟩⟩⟩⟩
 ·have e:iB p m b=nW p:=by simp_all[iB]
  have f:jr p m b=false:=by simp_all
  rw[e,f,c (.inl f)];exact⟨rfl,rfl,rfl⟩
 ·have e:iB p m b=4:=by simp_all[iB]
  have f:jr p m b=false:=by simp_all
  rw[e,f,c (.inl f)];exact⟨rfl,rfl,rfl⟩
 ·have e:iB p m b=4:=by simp_all[iB]
  have f:jr p m b=false:=by simp_all
  rw[e,f,c (.inl f)];exact⟨rfl,rfl,rfl⟩
 ·have e:iB p m b=0:=by simp_all[iB]
  have f:jr p m b=true:=by simp_all
  rw[e,f,c (.inr E)];exact⟨rfl,rfl,rfl⟩
 ·have J:nW p=0:=γa.1 h;obtain⟨R,Q⟩:=@DL p m;have S:dc p (bW (some m)) b p.bj.length (kd p m) 0 (gB p)=fy p m b:=rfl;have F:=C7 J;have l:iB p m b=if(fy p m b).bp=true then 0 else(fy p m b).i':=by simp_all[iB,if_neg]
  have y:((fy p m b).bp=true->(γG [Ω (cj.i .i64) (fy p m b).ch,γc .i64 (fy p m b).val]).bi (γG [Ω (cj.i .i64) (mY p m b).bn,γc .i64 (mY p m b).value])/\true=jr p m b/\0=iB p m b)/\
    ((fy p m b).bp=false->((fy p m b).i'≠0->(γG [Ω (cj.i .i64) [],γu .i64 0]).bi (γG [Ω (cj.i .i64) (mY p m b).bn,γc .i64 (mY p m b).value])/\false=jr p m b/\(fy p m b).i'=iB p m b)/\
     (¬(fy p m b).i'≠0->(γG [Ω (cj.i .i64) [],γu .i64 0]).bi (γG [Ω (cj.i .i64) (mY p m b).bn,γc .i64 (mY p m b).value])/\false=jr p m b/\0=iB p m b)):=by
   refine⟨λv=>?_,λv=>⟨λD=>?_,λD=>?_⟩⟩
   ·rw[if_pos v] at l;have f:jr p m b=true:=by simp_all
    have a:mY p m b=⟨(fy p m b).ch,(fy p m b).val⟩:=by simp_all[mY]
    rw[l,f,a];exact⟨rfl,rfl,rfl⟩
   ·rw[if_neg (by rw[v];simp)] at l;have f:jr p m b=false:=by simp_all
    rw[l,f,c (.inl f)];exact⟨rfl,rfl,rfl⟩
   ·rw[if_neg (by rw[v];simp),γa.1 D] at l;have f:jr p m b=false:=by simp_all
    rw[l,f,c (.inl f)];exact⟨rfl,rfl,rfl⟩
  grind[TT,DA,mZ]
abbrev wY:=oz×(oz×(List Int×(Int×(Bool×(Bool×(Bool×(Bool×(Bool×(Bool×(Bool×Bool))))))))))
@[reducible] def qk:cj:=.pair .bun (.pair .bun (.pair (.zi (.i .i64)) (.pair (.i .i64) (.pair .b (.pair .b (.pair .b (.pair .b (.pair .b (.pair .b (.pair .b .b))))))))))
def xP (d:wY):iY:=⟨d.1,d.2.1,d.2.2.1,d.2.2.2.1,[d.2.2.2.2.1,d.2.2.2.2.2.1,d.2.2.2.2.2.2.1,d.2.2.2.2.2.2.2.1,d.2.2.2.2.2.2.2.2.1,d.2.2.2.2.2.2.2.2.2.1,d.2.2.2.2.2.2.2.2.2.2.1,d.2.2.2.2.2.2.2.2.2.2.2]⟩
def fP (u:iY):wY:=(u.left,(u.bs,(u.bn,(u.value,(bN u.won 0 false,(bN u.won 1 false,(bN u.won 2 false,(bN u.won 3 false,(bN u.won 4 false,(bN u.won 5 false,(bN u.won 6 false,bN u.won 7 false)))))))))))
theorem J_ {u:iY} (h:u.won.length=8):xP (fP u)=u:=by
 obtain⟨l,o,c,v,w⟩:=u;simp only at h;match w,h with
 |[a,b,c,d,e,f,g,i],_=>rfl
def zX:iY:=⟨oz.zero,oz.zero,[],0,δ 8 false⟩
def pk (k j:Int) (a b:Int):Bool:=decide (k<=j)||(decide (0<=a)&&decide (0<=b))
def jd (a b:oz) (k:Int):Bool:=pk k 0 a.a0 b.a0&&(pk k 1 a.a1 b.a1&&(pk k 2 a.a2 b.a2&&(pk k 3 a.a3 b.a3&&(pk k 4 a.a4 b.a4&&pk k 5 a.a5 b.a5))))
def C4:cC where
 f:=115;α:=wY×ew×bA;put a:=[.ptr 0 0 22,cI.put a.2.1,(dg .bu).put a.2.2];st a:=[.cells (cd qk a.1) 142 22 false];dec v o:=match v,o with
  |[.ptr 0 0 22,p,x],[.cells cs 142 22 false]=>match jx qk cs,cI.dec p,(dg .bu).dec x with
   |some d,some p,some x=>some (d,p,x)
   |_,_,_=>none
  |_,_=>none;ok v o a h:=by
  split at h
  ·split at h
   next h1 c i=>simp only[γ] at h;subst h;refine⟨by simp only[gL,cI.ok _ _ c,(dg .bu).ok _ _ i],?_⟩;simp only[gO,ν,γv,iZ.g,fJ,ns h1,so]
   ·cases h
  ·cases h
 inj a b h1 c:=by obtain⟨d,p,x⟩:=a;obtain⟨j,e,x'⟩:=b;simp only[gL,χ,and_true,true_and] at h1;simp only[gO,ν,γv,iZ.g,χ,OL.cells.injEq,and_true,fJ,so] at c;rw[wC qk d j c,cI.inj p e h1.1,(dg .bu).inj x x' h1.2]
 dom a:=((∀k,k<6->(-1000<=a.1.1.at k/\a.1.1.at k<=1000)/\(-1000<=a.1.2.1.at k/\a.1.2.1.at k<=1000))/\a.2.2.bx.ok=true)/\0<=a.2.2.Gz/\a.2.2.Gz<a.2.1.bk.length;res a:=.sb ((a.1.1.sub a.2.2.bx).pos&&(fW a.2.1 (xP a.1) a.2.2).pos);out a:=[.cells (cd qk (a.1.1.sub a.2.2.bx,(fW a.2.1 (xP a.1) a.2.2,a.1.2.2))) 142 22 false]
def TS (d:wY) (p:ew) (x:bA):Nat->bH
 |3=> .inv Int (λk=>⟨[(0,.ptr 0 0 22),(4,.ptr 1 0 20),(5,.ptr 2 0 8),(7,.sb (jd (d.1.sub x.bx) (fW p (xP d) x) k)),(11,.agg (cd .bun x.bx)),(12,.si .i64 k)],
   [.cells (cd qk (gV d.1 (d.1.sub x.bx) k,(gV d.2.1 (fW p (xP d) x) k,d.2.2))) 142 22 false,.cells p.ss 27 20 false,.cells (cd .bu x) 65 8 false]⟩)
   (λs=>iS s 12) (λk=>0<=k/\k<=6) (λk=>(6 - k).toNat) λ_ _=> .look
 |_=> .look
theorem IN:g' C4:=by
 refine jE (L:=[]) (W:=[]) C4 (λa=>TS a.1 a.2.1 a.2.2) (by simp) (by simp) ?_;rintro⟨d,p,x⟩ ⟨⟨hb,hw⟩,hx0,hx1⟩;simp only at hb hw hx0 hx1;refine NI (let a:=γc .i64;let b:=(0:Int);let c:=(6:Int);let e:=iZ.cells;let f:=γA;let g:=TP .i64;let h:=Ω;let j:=δb false;let k:=γM;let r:=k 0 0 22;let s:=k 1 0 20;let t:=k 2 0 8;let o:=d.1.sub x.bx;let q:=fW p (xP d) x;let a9:=a x.bx.a0;let aa:=a x.bx.a1;let ab:=a x.bx.a2;let ac:=a x.bx.a3;let ad:=a x.bx.a4;let ae:=a x.bx.a5;let v:=γG [a9,aa,ab,ac,ad,ae];let N:=cj.i .i64;let D:=d.2.2.2.2.2;let af:=D.2.2.2.2.2;let E:=gV d.1 o b;let F:=gV d.2.1 q b;let G:=d.2.2.2.2.2;let ag:=G.2.2.2.2.2;let A:=[h N d.2.2.1,a d.2.2.2.1,f d.2.2.2.2.1,f G.1,f G.2.1,f G.2.2.1,f G.2.2.2.1,f G.2.2.2.2.1,f ag.1,f ag.2];let w:=e [a p.bm.a0,a p.bm.a1,a p.bm.a2,a p.bm.a3,a p.bm.a4,a p.bm.a5,a p.bs.a0,a p.bs.a1,a p.bs.a2,a p.bs.a3,a p.bs.a4,a p.bs.a5,a p.bt.a0,a p.bt.a1,a p.bt.a2,a p.bt.a3,a p.bt.a4,a p.bt.a5,h N p.bk,h cj.bu p.bj] 27 20 false;let y:=e [a x.Gz,a9,aa,ab,ac,ad,ae,a x.value] 65 8 false;let aM:=[x.bx.a0,x.bx.a1,x.bx.a2,x.bx.a3,x.bx.a4,x.bx.a5];let aN:=[p.bt.a0,p.bt.a1,p.bt.a2,p.bt.a3,p.bt.a4,p.bt.a5];(((r.bi r/\s.bi s/\t.bi t/\(δb true).bi (f (jd o q b))/\v.bi v/\(γu .i64 0).bi (a 0)/\True)/\(e [a d.1.a0,a d.1.a1,a d.1.a2,a d.1.a3,a d.1.a4,a d.1.a5,a d.2.1.a0,a d.2.1.a1,a d.2.1.a2,a d.2.1.a3,a d.2.1.a4,a d.2.1.a5,h N d.2.2.1,a d.2.2.2.1,f d.2.2.2.2.1,f D.1,f D.2.1,f D.2.2.1,f D.2.2.2.1,f D.2.2.2.2.1,f af.1,f af.2] 142 22 false).bi (e (a E.a0::a E.a1::a E.a2::a E.a3::a E.a4::a E.a5::a F.a0::a F.a1::a F.a2::a F.a3::a F.a4::a F.a5::A) 142 22 false)/\w.bi w/\y.bi y/\True)/\b<=b/\b<=c)/\∀(x_1:Int),let L:=jd o q x_1;let n:=gV d.1 o x_1;let ah:=bN aM x_1.toNat b;let B:=bN [n.a0,n.a1,n.a2,n.a3,n.a4,n.a5] x_1.toNat b - ah;let ai:=if x_1.toNat=0 then B else n.a0;let aj:=if x_1.toNat=1 then B else n.a1;let ak:=if x_1.toNat=2 then B else n.a2;let al:=if x_1.toNat=3 then B else n.a3;let am:=if x_1.toNat=4 then B else n.a4;let an:=if x_1.toNat=5 then B else n.a5;let O:=bN [ai,aj,ak,al,am,an] x_1.toNat b;let P:=decide (b<=O);let m:=x_1+(1:Int);let l:=gV d.2.1 q x_1;let ao:=bN [l.a0,l.a1,l.a2,l.a3,l.a4,l.a5] x_1.toNat b;let C:=ao - ah;let ap:=if x_1.toNat=0 then C else l.a0;let aq:=if x_1.toNat=1 then C else l.a1;let ar:=if x_1.toNat=2 then C else l.a2;let au:=if x_1.toNat=3 then C else l.a3;let av:=if x_1.toNat=4 then C else l.a4;let aw:=if x_1.toNat=5 then C else l.a5;let H:=min (bN [ap,aq,ar,au,av,aw] x_1.toNat b) O;let Q:=if x_1.toNat=0 then H else ap;let R:=if x_1.toNat=1 then H else aq;let S:=if x_1.toNat=2 then H else ar;let T:=if x_1.toNat=3 then H else au;let U:=if x_1.toNat=4 then H else av;let V:=if x_1.toNat=5 then H else aw;let M:=f (jd o q m);let z:=a m;let W:=a ai;let X:=a aj;let Y:=a ak;let Z:=a al;let a6:=a am;let a7:=a an;let I:=gV d.1 o m;let J:=gV d.2.1 q m;let a8:=e (a I.a0::a I.a1::a I.a2::a I.a3::a I.a4::a I.a5::a J.a0::a J.a1::a J.a2::a J.a3::a J.a4::a J.a5::A) 142 22 false;let K:=min ao O;let ax:=if x_1.toNat=0 then K else l.a0;let ay:=if x_1.toNat=1 then K else l.a1;let az:=if x_1.toNat=2 then K else l.a2;let aA:=if x_1.toNat=3 then K else l.a3;let aB:=if x_1.toNat=4 then K else l.a4;let aC:=if x_1.toNat=5 then K else l.a5;let aD:=decide (x_1<c);let aE:=bN aN x_1.toNat b;let aF:=decide (aE=b);let aG:=decide (aE≠bN p.bk x.Gz.toNat b);let aO:=let aH:=g m/\((r.bi r/\s.bi s/\t.bi t/\(j).bi M/\v.bi v/\z.bi z/\True)/\(e (W::X::Y::Z::a6::a7::a Q::a R::a S::a T::a U::a V::A) 142 22 false).bi a8/\w.bi w/\y.bi y/\True)/\(b<=m/\m<=c)/\(c - m).toNat<(c - x_1).toNat;x_1.toNat<6/\b<=x_1/\x_1<c/\x_1.toNat<6/\b<=x_1/\x_1<c/\x_1.toNat<6/\(L=true->b<=x_1/\x_1<c/\x_1.toNat<6/\(P=true->b<=x_1/\x_1<c/\x_1.toNat<6/\g m/\((r.bi r/\s.bi s/\t.bi t/\(f (decide (b<=bN [Q,R,S,T,U,V] x_1.toNat b))).bi M/\v.bi v/\z.bi z/\True)/\(e (W::X::Y::Z::a6::a7::a Q::a R::a S::a T::a U::a V::A) 142 22 false).bi a8/\w.bi w/\y.bi y/\True)/\(b<=m/\m<=c)/\(c - m).toNat<(c - x_1).toNat)/\(P=false->aH))/\(L=false->aH);let aI:=(e (W::X::Y::Z::a6::a7::a ax::a ay::a az::a aA::a aB::a aC::A) 142 22 false).bi a8;let aJ:=b<=x_1/\x_1<c/\x_1.toNat<6/\g C/\b<=x_1/\x_1<c/\x_1.toNat<6/\b<=x_1/\x_1<c/\aO;let aK:=g m/\((r.bi r/\s.bi s/\t.bi t/\(j).bi M/\v.bi v/\z.bi z/\True)/\aI/\w.bi w/\y.bi y/\True)/\(b<=m/\m<=c)/\(c - m).toNat<(c - x_1).toNat;let aL:=λ(u:Bool) ↦P=u;b<=x_1/\x_1<=c->(aD=true->b<=x_1/\x_1<c/\b<=x_1/\x_1<c/\x_1.toNat<6/\g B/\b<=x_1/\x_1<c/\x_1.toNat<6/\b<=x_1/\x_1<c/\x_1.toNat<6/\(aF=true->aJ)/\(aF=false->b<=x_1/\x_1<c/\x_1.toNat<6/\b<=x.Gz/\x.Gz<(↑p.bk.length:Int)/\x.Gz.toNat<p.bk.length/\(aG=true->aJ)/\(aG=false->b<=x_1/\x_1<c/\x_1.toNat<6/\b<=x_1/\x_1<c/\x_1.toNat<6/\b<=x_1/\x_1<c/\x_1.toNat<6/\(L=true->b<=x_1/\x_1<c/\x_1.toNat<6/\(aL true->b<=x_1/\x_1<c/\x_1.toNat<6/\g m/\((r.bi r/\s.bi s/\t.bi t/\(f (decide (b<=bN [ax,ay,az,aA,aB,aC] x_1.toNat b))).bi M/\v.bi v/\z.bi z/\True)/\aI/\w.bi w/\y.bi y/\True)/\(b<=m/\m<=c)/\(c - m).toNat<(c - x_1).toNat)/\(aL false->aK))/\(L=false->aK))))/\(aD=false->(f L).bi (f (o.pos&&q.pos))/\(e (a n.a0::a n.a1::a n.a2::a n.a3::a n.a4::a n.a5::a l.a0::a l.a1::a l.a2::a l.a3::a l.a4::a l.a5::A) 142 22 false).bi (e (a o.a0::a o.a1::a o.a2::a o.a3::a o.a4::a o.a5::a q.a0::a q.a1::a q.a2::a q.a3::a q.a4::a q.a5::A) 142 22 false)/\True)) (by kernel_rfl) ?_;simp only[vcs];refine⟨⟨⟨rfl,rfl⟩,by omega⟩,?_⟩;rintro k ⟨k0,k6⟩;simp only[show bN p.bk x.Gz.toNat 0=j4 p x from rfl];generalize hcl:j4 p x=cl at*;constructor
 ·intro hk;rcases(show k=0\/k=1\/k=2\/k=3\/k=4\/k=5 by omega) with rfl|rfl|rfl|rfl|rfl|rfl
  ·have hb0:=hb 0 (by omega);have hw0:0<=x.bx.a0/\x.bx.a0<=4:=by have:=oz.fA.1 hw;omega
   have b1: -1000<=d.1.a0/\d.1.a0<=1000:=hb0.1;have b2: -1000<=d.2.1.a0/\d.2.1.a0<=1000:=hb0.2;have eo:(fW p (xP d) x).a0=min (d.2.1.a0 - nd p.bt.a0 x.bx.a0 cl) (d.1.a0 - x.bx.a0):=by rw[<-hcl];rfl
   generalize fW p (xP d) x=O at*;by_cases h1:p.bt.a0=0;·simp[gV,bN,oz.sub,jd,pk,eo,nd,h1,kA];grind
   ·by_cases h2:p.bt.a0=cl
    ·subst h2;simp[gV,bN,oz.sub,jd,pk,eo,nd,h1,kA];grind
    ·simp[gV,bN,oz.sub,jd,pk,eo,nd,h1,h2,kA];grind
  ·have hb0:=hb 1 (by omega);have hw0:0<=x.bx.a1/\x.bx.a1<=4:=by have:=oz.fA.1 hw;omega
   have b1: -1000<=d.1.a1/\d.1.a1<=1000:=hb0.1;have b2: -1000<=d.2.1.a1/\d.2.1.a1<=1000:=hb0.2;have eo:(fW p (xP d) x).a1=min (d.2.1.a1 - nd p.bt.a1 x.bx.a1 cl) (d.1.a1 - x.bx.a1):=by rw[<-hcl];rfl
   generalize fW p (xP d) x=O at*;by_cases h1:p.bt.a1=0;·simp[gV,bN,oz.sub,jd,pk,eo,nd,h1,kA];grind
   ·by_cases h2:p.bt.a1=cl
    ·subst h2;simp[gV,bN,oz.sub,jd,pk,eo,nd,h1,kA];grind
    ·simp[gV,bN,oz.sub,jd,pk,eo,nd,h1,h2,kA];grind
  ·have hb0:=hb 2 (by omega);have hw0:0<=x.bx.a2/\x.bx.a2<=4:=by have:=oz.fA.1 hw;omega
   have b1: -1000<=d.1.a2/\d.1.a2<=1000:=hb0.1;have b2: -1000<=d.2.1.a2/\d.2.1.a2<=1000:=hb0.2;have eo:(fW p (xP d) x).a2=min (d.2.1.a2 - nd p.bt.a2 x.bx.a2 cl) (d.1.a2 - x.bx.a2):=by rw[<-hcl];rfl
   generalize fW p (xP d) x=O at*;by_cases h1:p.bt.a2=0;·simp[gV,bN,oz.sub,jd,pk,eo,nd,h1,kA];grind
   ·by_cases h2:p.bt.a2=cl
    ·subst h2;simp[gV,bN,oz.sub,jd,pk,eo,nd,h1,kA];grind
    ·simp[gV,bN,oz.sub,jd,pk,eo,nd,h1,h2,kA];grind
  ·have hb0:=hb 3 (by omega);have hw0:0<=x.bx.a3/\x.bx.a3<=4:=by have:=oz.fA.1 hw;omega
   have b1: -1000<=d.1.a3/\d.1.a3<=1000:=hb0.1;have b2: -1000<=d.2.1.a3/\d.2.1.a3<=1000:=hb0.2;have eo:(fW p (xP d) x).a3=min (d.2.1.a3 - nd p.bt.a3 x.bx.a3 cl) (d.1.a3 - x.bx.a3):=by rw[<-hcl];rfl
   generalize fW p (xP d) x=O at*;by_cases h1:p.bt.a3=0;·simp[gV,bN,oz.sub,jd,pk,eo,nd,h1,kA];grind
   ·by_cases h2:p.bt.a3=cl
    ·subst h2;simp[gV,bN,oz.sub,jd,pk,eo,nd,h1,kA];grind
    ·simp[gV,bN,oz.sub,jd,pk,eo,nd,h1,h2,kA];grind
  ·have hb0:=hb 4 (by omega);have hw0:0<=x.bx.a4/\x.bx.a4<=4:=by have:=oz.fA.1 hw;omega
   have b1: -1000<=d.1.a4/\d.1.a4<=1000:=hb0.1;have b2: -1000<=d.2.1.a4/\d.2.1.a4<=1000:=hb0.2;have eo:(fW p (xP d) x).a4=min (d.2.1.a4 - nd p.bt.a4 x.bx.a4 cl) (d.1.a4 - x.bx.a4):=by rw[<-hcl];rfl
   generalize fW p (xP d) x=O at*;by_cases h1:p.bt.a4=0;·simp[gV,bN,oz.sub,jd,pk,eo,nd,h1,kA];grind
   ·by_cases h2:p.bt.a4=cl
    ·subst h2;simp[gV,bN,oz.sub,jd,pk,eo,nd,h1,kA];grind
    ·simp[gV,bN,oz.sub,jd,pk,eo,nd,h1,h2,kA];grind
  ·have hb0:=hb 5 (by omega);have hw0:0<=x.bx.a5/\x.bx.a5<=4:=by have:=oz.fA.1 hw;omega
   have b1: -1000<=d.1.a5/\d.1.a5<=1000:=hb0.1;have b2: -1000<=d.2.1.a5/\d.2.1.a5<=1000:=hb0.2;have eo:(fW p (xP d) x).a5=min (d.2.1.a5 - nd p.bt.a5 x.bx.a5 cl) (d.1.a5 - x.bx.a5):=by rw[<-hcl];rfl
   generalize fW p (xP d) x=O at*;by_cases h1:p.bt.a5=0;·simp[gV,bN,oz.sub,jd,pk,eo,nd,h1,kA];grind
   ·by_cases h2:p.bt.a5=cl
    ·subst h2;simp[gV,bN,oz.sub,jd,pk,eo,nd,h1,kA];grind
    ·simp[gV,bN,oz.sub,jd,pk,eo,nd,h1,h2,kA];grind
 ·intro hk;have:k=6:=by omega
  subst this;simp[gV,oz.sub,jd,pk,oz.pos,Bool.and_assoc];exact⟨by ac_rfl,rfl⟩
noncomputable def J9 (L:List NG) (W:mC) (a:Nat->Option (Nat×Nat×Nat)):iI:=⟨⟨th L,W.C⟩,oQ,oR,a,ix,λ_=>false⟩
theorem TR {L:List NG} {W:mC} (e:Nat->Option (Nat×Nat×Nat)) (c:NG) (F:eL) (g:c.α->Nat->bH) (i:pn Tryz.prog W) (k:∀c∈L,d' c)
  
  (h:∀a,c.dom a->Vc (rH (J9 L W e) (g a) F (c.A.put a) λv=>v.qS (c.res a))) (l:ix c.f=some F:=by kernel_rfl) (d:oH c.f L=none:=by kernel_rfl) (b:∀a,(c.A.put a).length=F.params:=by intro _;kernel_rfl):d' c:=
 λa j=>Gn (p:=J9 L W e) (Λ:=g a) (tg i k pX) (tf i) (λ_ _ h=>h) l (Hb d) (b a) (λ_ h=>yC h) (h a j).out
def od (p:ew) (u:iY) (i:Int):iY:=if iA p u (oI p i)=true then ek p u i else zX
def xy (u:iY):Prop:=(∀k,k<6->(-1000<=u.left.at k/\u.left.at k<=1000)/\(-1000<=u.bs.at k/\u.bs.at k<=1000))/\(0<=u.value/\u.value<=160000000)/\u.bn.length<=1000
def Cd:NG:=⟨79,wY×ew×Int,.cons (dg qk) (.cons cI (.one (dY .i64))),λa=>nW a.2.1=0/\xy (xP a.1)/\0<=a.2.2/\a.2.2<a.2.1.bj.length,
 λa=> .IL [.agg (cd qk (fP (od a.2.1 (xP a.1) a.2.2))),.sb (iA a.2.1 (xP a.1) (oI a.2.1 a.2.2))]⟩
def TQ (n:Nat):Option (Nat×Nat×Nat):=if n=2 then some (3,0,8) else none
theorem zb:d' Cd:=by
 refine TR (L:=[]) (W:=fH [C4]) TQ Cd (fG 79) lk (j6 (by simpa using IN)) (by simp) ?_;rintro⟨⟨l,o,c,v,w0,w1,w2,w3,w4,w5,w6,w7⟩,p,i⟩ ⟨hc,hd,i0,i1⟩;simp only at hc hd i0 i1;refine NI (let a:=γc .i64;let b:=γA;let d:=(-1000:Int);let e:=(1000:Int);let f:=γG;let g:=SV.IL;let h:=(0:Int);let j:=δb true;let m:=TP .i64;let n:=(1:Int);let q:=(2:Int);let r:=(3:Int);let s:=(4:Int);let t:=(5:Int);let u:=(6:Int);let w:=(7:Int);let x:=Ω;let L:=γu .i64 0;let ac:=cj.i .i64;let P:=x ac [];let Q:=δb false;let M:=xP (l,o,c,v,w0,w1,w2,w3,w4,w5,w6,w7);let aa:=(fP (od p M i)).1;let N:=(fP (od p M i)).2;let ab:=N.2.2.2.2.2;let y:=g [f [a aa.a0,a aa.a1,a aa.a2,a aa.a3,a aa.a4,a aa.a5,a N.1.a0,a N.1.a1,a N.1.a2,a N.1.a3,a N.1.a4,a N.1.a5,x ac N.2.1,a N.2.2.1,b N.2.2.2.1,b N.2.2.2.2.1,b ab.1,b ab.2.1,b ab.2.2.1,b ab.2.2.2.1,b ab.2.2.2.2.1,b ab.2.2.2.2.2],b (iA p M (oI p i))];let ad:=bN p.bj i.toNat cj.bu.bw;let O:=ad.Gz;let G:=ad.bx;let R:=(↑p.bk.length:Int);let a9:=l.sub G;let I:=a9.pos;let H:=ad.value;let S:=fW p M (bA.mk h G H);let A:=a a9.a0;let B:=a a9.a1;let C:=a a9.a2;let D:=a a9.a3;let E:=a a9.a4;let F:=a a9.a5;let ae:=a S.a0;let af:=a S.a1;let ag:=a S.a2;let ah:=a S.a3;let ai:=a S.a4;let aj:=a S.a5;let T:=a (v+H);let ak:=[b w6,b w7];let al:=b w4::b w5::ak;let bc:=b w2::b w3::al;let am:=T::j::b w1::bc;let z:=[j];let U:=x ac [i];let J:=c.length+1;let V:=x ac (c++[i]);let W:=fW p M (bA.mk n G H);let an:=a W.a0;let ao:=a W.a1;let ap:=a W.a2;let aq:=a W.a3;let ar:=a W.a4;let au:=a W.a5;let av:=T::b w0::j::bc;let X:=fW p M (bA.mk q G H);let aw:=a X.a0;let ax:=a X.a1;let ay:=a X.a2;let az:=a X.a3;let aA:=a X.a4;let aB:=a X.a5;let aC:=T::b w0::b w1::j::b w3::al;let Y:=fW p M (bA.mk r G H);let aD:=a Y.a0;let aE:=a Y.a1;let aF:=a Y.a2;let aG:=a Y.a3;let aH:=a Y.a4;let aI:=a Y.a5;let aJ:=T::b w0::b w1::b w2::j::al;let Z:=fW p M (bA.mk s G H);let aK:=a Z.a0;let aL:=a Z.a1;let aM:=a Z.a2;let aN:=a Z.a3;let aO:=a Z.a4;let aP:=a Z.a5;let aQ:=T::b w0::b w1::b w2::b w3::j::b w5::ak;let a6:=fW p M (bA.mk t G H);let aR:=a a6.a0;let aS:=a a6.a1;let aT:=a a6.a2;let aU:=a a6.a3;let aV:=a a6.a4;let aW:=a a6.a5;let aX:=T::b w0::b w1::b w2::b w3::b w4::j::ak;let a7:=fW p M (bA.mk u G H);let aY:=a a7.a0;let aZ:=a a7.a1;let b0:=a a7.a2;let b1:=a a7.a3;let b2:=a a7.a4;let b3:=a a7.a5;let b4:=[T,b w0,b w1,b w2,b w3,b w4,b w5,j,b w7];let a8:=fW p M (bA.mk w G H);let b5:=a a8.a0;let b6:=a a8.a1;let b7:=a a8.a2;let b8:=a a8.a3;let b9:=a a8.a4;let ba:=a a8.a5;let bb:=T::b w0::b w1::b w2::b w3::b w4::b w5::b w6::z;let K:=(g [f [L,L,L,L,L,L,L,L,L,L,L,L,P,L,Q,Q,Q,Q,Q,Q,Q,Q],Q]).bi y;h<=i/\i<(↑p.bj.length:Int)/\i.toNat<p.bj.length/\(O=h->(w0=true->K)/\(w0=false->(((∀(k:Nat),k<6->(d<=l.at k/\l.at k<=e)/\d<=o.at k/\o.at k<=e)/\G.ok=true)/\h<=h/\h<R)/\((!(I&&S.pos))=true->K)/\((!(I&&S.pos))=false->m (v+H)/\(c.length=0->(1=0->(g (f (A::B::C::D::E::F::ae::af::ag::ah::ai::aj::P::am)::z)).bi y)/\(1≠0->8<=140737488355328/\1<=1000000000000/\1=1/\(g (f (A::B::C::D::E::F::ae::af::ag::ah::ai::aj::U::am)::z)).bi y))/\(c.length≠0->c.length*8<=140737488355328/\c.length<=1000000000000/\c.length=c.length/\J*8<=140737488355328/\J<=1000000000000/\(c++[i]).length=(c++[i]).length/\(g (f (A::B::C::D::E::F::ae::af::ag::ah::ai::aj::V::am)::z)).bi y))))/\(O=n->(w1=true->K)/\(w1=false->(((∀(k:Nat),k<6->(d<=l.at k/\l.at k<=e)/\d<=o.at k/\o.at k<=e)/\G.ok=true)/\h<=n/\n<R)/\((!(I&&W.pos))=true->K)/\((!(I&&W.pos))=false->m (v+H)/\(c.length=0->(1=0->(g (f (A::B::C::D::E::F::an::ao::ap::aq::ar::au::P::av)::z)).bi y)/\(1≠0->8<=140737488355328/\1<=1000000000000/\1=1/\(g (f (A::B::C::D::E::F::an::ao::ap::aq::ar::au::U::av)::z)).bi y))/\(c.length≠0->c.length*8<=140737488355328/\c.length<=1000000000000/\c.length=c.length/\J*8<=140737488355328/\J<=1000000000000/\(c++[i]).length=(c++[i]).length/\(g (f (A::B::C::D::E::F::an::ao::ap::aq::ar::au::V::av)::z)).bi y))))/\(O=q->(w2=true->K)/\(w2=false->(((∀(k:Nat),k<6->(d<=l.at k/\l.at k<=e)/\d<=o.at k/\o.at k<=e)/\G.ok=true)/\h<=q/\q<R)/\((!(I&&X.pos))=true->K)/\((!(I&&X.pos))=false->m (v+H)/\(c.length=0->(1=0->(g (f (A::B::C::D::E::F::aw::ax::ay::az::aA::aB::P::aC)::z)).bi y)/\(1≠0->8<=140737488355328/\1<=1000000000000/\1=1/\(g (f (A::B::C::D::E::F::aw::ax::ay::az::aA::aB::U::aC)::z)).bi y))/\(c.length≠0->c.length*8<=140737488355328/\c.length<=1000000000000/\c.length=c.length/\J*8<=140737488355328/\J<=1000000000000/\(c++[i]).length=(c++[i]).length/\(g (f (A::B::C::D::E::F::aw::ax::ay::az::aA::aB::V::aC)::z)).bi y))))/\(O=r->(w3=true->K)/\(w3=false->(((∀(k:Nat),k<6->(d<=l.at k/\l.at k<=e)/\d<=o.at k/\o.at k<=e)/\G.ok=true)/\h<=r/\r<R)/\((!(I&&Y.pos))=true->K)/\((!(I&&Y.pos))=false->m (v+H)/\(c.length=0->(1=0->(g (f (A::B::C::D::E::F::aD::aE::aF::aG::aH::aI::P::aJ)::z)).bi y)/\(1≠0->8<=140737488355328/\1<=1000000000000/\1=1/\(g (f (A::B::C::D::E::F::aD::aE::aF::aG::aH::aI::U::aJ)::z)).bi y))/\(c.length≠0->c.length*8<=140737488355328/\c.length<=1000000000000/\c.length=c.length/\J*8<=140737488355328/\J<=1000000000000/\(c++[i]).length=(c++[i]).length/\(g (f (A::B::C::D::E::F::aD::aE::aF::aG::aH::aI::V::aJ)::z)).bi y))))/\(O=s->(w4=true->K)/\(w4=false->(((∀(k:Nat),k<6->(d<=l.at k/\l.at k<=e)/\d<=o.at k/\o.at k<=e)/\G.ok=true)/\h<=s/\s<R)/\((!(I&&Z.pos))=true->K)/\((!(I&&Z.pos))=false->m (v+H)/\(c.length=0->(1=0->(g (f (A::B::C::D::E::F::aK::aL::aM::aN::aO::aP::P::aQ)::z)).bi y)/\(1≠0->8<=140737488355328/\1<=1000000000000/\1=1/\(g (f (A::B::C::D::E::F::aK::aL::aM::aN::aO::aP::U::aQ)::z)).bi y))/\(c.length≠0->c.length*8<=140737488355328/\c.length<=1000000000000/\c.length=c.length/\J*8<=140737488355328/\J<=1000000000000/\(c++[i]).length=(c++[i]).length/\(g (f (A::B::C::D::E::F::aK::aL::aM::aN::aO::aP::V::aQ)::z)).bi y))))/\(O=t->(w5=true->K)/\(w5=false->(((∀(k:Nat),k<6->(d<=l.at k/\l.at k<=e)/\d<=o.at k/\o.at k<=e)/\G.ok=true)/\h<=t/\t<R)/\((!(I&&a6.pos))=true->K)/\((!(I&&a6.pos))=false->m (v+H)/\(c.length=0->(1=0->(g (f (A::B::C::D::E::F::aR::aS::aT::aU::aV::aW::P::aX)::z)).bi y)/\(1≠0->8<=140737488355328/\1<=1000000000000/\1=1/\(g (f (A::B::C::D::E::F::aR::aS::aT::aU::aV::aW::U::aX)::z)).bi y))/\(c.length≠0->c.length*8<=140737488355328/\c.length<=1000000000000/\c.length=c.length/\J*8<=140737488355328/\J<=1000000000000/\(c++[i]).length=(c++[i]).length/\(g (f (A::B::C::D::E::F::aR::aS::aT::aU::aV::aW::V::aX)::z)).bi y))))/\(O=u->(w6=true->K)/\(w6=false->(((∀(k:Nat),k<6->(d<=l.at k/\l.at k<=e)/\d<=o.at k/\o.at k<=e)/\G.ok=true)/\h<=u/\u<R)/\((!(I&&a7.pos))=true->K)/\((!(I&&a7.pos))=false->m (v+H)/\(c.length=0->(1=0->(g (f (A::B::C::D::E::F::aY::aZ::b0::b1::b2::b3::P::b4)::z)).bi y)/\(1≠0->8<=140737488355328/\1<=1000000000000/\1=1/\(g (f (A::B::C::D::E::F::aY::aZ::b0::b1::b2::b3::U::b4)::z)).bi y))/\(c.length≠0->c.length*8<=140737488355328/\c.length<=1000000000000/\c.length=c.length/\J*8<=140737488355328/\J<=1000000000000/\(c++[i]).length=(c++[i]).length/\(g (f (A::B::C::D::E::F::aY::aZ::b0::b1::b2::b3::V::b4)::z)).bi y))))/\(O=w->(w7=true->K)/\(w7=false->(((∀(k:Nat),k<6->(d<=l.at k/\l.at k<=e)/\d<=o.at k/\o.at k<=e)/\G.ok=true)/\h<=w/\w<R)/\((!(I&&a8.pos))=true->K)/\((!(I&&a8.pos))=false->m (v+H)/\(c.length=0->(1=0->(g (f (A::B::C::D::E::F::b5::b6::b7::b8::b9::ba::P::bb)::z)).bi y)/\(1≠0->8<=140737488355328/\1<=1000000000000/\1=1/\(g (f (A::B::C::D::E::F::b5::b6::b7::b8::b9::ba::U::bb)::z)).bi y))/\(c.length≠0->c.length*8<=140737488355328/\c.length<=1000000000000/\c.length=c.length/\J*8<=140737488355328/\J<=1000000000000/\(c++[i]).length=(c++[i]).length/\(g (f (A::B::C::D::E::F::b5::b6::b7::b8::b9::ba::V::bb)::z)).bi y))))/\h<=O/\O<(8:Int)) (by kernel_rfl) ?_;simp only[vcs];have hg:=(cT hc).2.2.2.2 (oI p i) (cy (by omega));have hc8:=(cT hc).1;obtain⟨h1,h2,h3⟩:=hd;have h1':∀k,k<6->(-1000<=l.at k/\l.at k<=1000)/\(-1000<=o.at k/\o.at k<=1000):=h1;have h2':0<=v/\v<=160000000:=h2;have h3':c.length<=1000:=h3;refine⟨i0,i1,by omega,?_⟩;have eo:bN p.bj i.toNat cj.bu.bw=oI p i:=rfl;simp only[eo];generalize hr:fP (od p (xP (l,o,c,v,w0,w1,w2,w3,w4,w5,w6,w7)) i)=r;simp only[od,ek] at hr;generalize hW:iA p (xP (l,o,c,v,w0,w1,w2,w3,w4,w5,w6,w7)) (oI p i)=W at*;simp only[iA] at hW;generalize oI p i=x at*;obtain⟨b,w,y⟩:=x;simp only at hg hW hr ⊢;refine⟨?_,?_,?_,?_,?_,?_,?_,?_,?_⟩;case refine_9=>
  exact⟨hg.1,by omega⟩
 all_goals
  rintro rfl;refine⟨λhw=>?_,λhw=>⟨⟨⟨h1',hg.2.2.1⟩,by omega⟩,λhq=>?_,λhq=>⟨by omega,λhl=>⟨λh=>absurd h (by decide),λ_=>⟨by omega,by omega,?_⟩⟩,λhl=>⟨by omega,by omega,by omega,by omega,?_⟩⟩⟩⟩;all_goals subst hw
  ·have e:W=false:=hW.symm;subst e;subst hr;exact⟨rfl,rfl⟩
  ·have e:W=false:=hW.symm.trans hq;subst e;subst hr;exact⟨rfl,rfl⟩
  ·have e:W=true:=hW.symm.trans (by simp only[ζ];exact⟨rfl,hq⟩);subst e;subst hr;have:=List.eq_nil_of_length_eq_zero hl;subst this;exact⟨rfl,rfl⟩
  ·have e:W=true:=hW.symm.trans (by simp only[ζ];exact⟨rfl,hq⟩);subst e;subst hr;exact⟨rfl,rfl⟩
def C3:NG:=⟨81,wY×ew×Int,.cons (dg qk) (.cons cI (.one (dY .i64))),λa=>nW a.2.1=0/\xy (xP a.1)/\0<=a.2.2/\a.2.2<=a.2.1.bj.length,
 λa=> .agg (gi a.2.1 (xP a.1) a.2.2.toNat).ss⟩
def nH (p:ew) (u:iY) (i k:Nat):List bA:=((p.bj.take k).drop i).filter (iA p u)
theorem TO {p:ew} {u:iY} {i:Nat}:nH p u i i=[]:=by grind[nH]
theorem TK {p:ew} {u:iY} {i k:Nat} (b:i<=k) (a:k<p.bj.length):nH p u i (k+1)=nH p u i k++if iA p u (oI p k)=true then[oI p k] else[]:=by unfold nH;have e:oI p k=p.bj[k]:=bR (by omega);rw[List.take_succ_eq_append_getElem a,List.drop_append_of_le_length (by grind),δV,e];grind
theorem TJ {p:ew} {u:iY} {i k:Nat}:(nH p u i k).length<=p.bj.length:=by grind[nH]
def TI (l o:oz) (c:List Int) (v:Int) (j h g f e d b a:Bool) (p:ew) (i:Int):Nat->bH
 |3=> .inv Int (λk=>⟨[(3,.ptr 0 0 22),(4,.ptr 1 0 20),(6,.ptr 2 0 20),(7,.ptr 3 0 20),(8,.si .i64 k)],
   [.cells (cd qk (l,o,c,v,j,h,g,f,e,d,b,a)) 142 22 false,.cells p.ss 27 20 false,
    .cells [.il .i64 0,.il .i64 0,.il .i64 0,.il .i64 0,.il .i64 0,.il .i64 0,.il .i64 0,.il .i64 0,.il .i64 0,.il .i64 0,.il .i64 0,.il .i64 0,.il .i64 0,.il .i64 0,.il .i64 0,.il .i64 0,.il .i64 0,.il .i64 0,.sc (.slice none 0 0),.sc (.slice none 0 0)] 27 20 false,
    .cells [.si .i64 l.a0,.si .i64 l.a1,.si .i64 l.a2,.si .i64 l.a3,.si .i64 l.a4,.si .i64 l.a5,.si .i64 o.a0,.si .i64 o.a1,.si .i64 o.a2,.si .i64 o.a3,.si .i64 o.a4,.si .i64 o.a5,
     .si .i64 p.bt.a0,.si .i64 p.bt.a1,.si .i64 p.bt.a2,.si .i64 p.bt.a3,.si .i64 p.bt.a4,.si .i64 p.bt.a5,.row (.i .i64) p.bk,.ow 4 (nH p (xP (l,o,c,v,j,h,g,f,e,d,b,a)) i.toNat k.toNat).length 8] 27 20 false,
    .row .bu (nH p (xP (l,o,c,v,j,h,g,f,e,d,b,a)) i.toNat k.toNat) 65 true]⟩)
   (λs=>iS s 8) (λk=>i<=k/\k<=p.bj.length) (λk=>(p.bj.length - k).toNat) λ_ _=> .look
 |_=> .look
theorem IT:d' C3:=by
 refine bI (L:=[Cd]) C3 (λa=>TI a.1.1 a.1.2.1 a.1.2.2.1 a.1.2.2.2.1 a.1.2.2.2.2.1 a.1.2.2.2.2.2.1 a.1.2.2.2.2.2.2.1 a.1.2.2.2.2.2.2.2.1 a.1.2.2.2.2.2.2.2.2.1 a.1.2.2.2.2.2.2.2.2.2.1 a.1.2.2.2.2.2.2.2.2.2.2.1 a.1.2.2.2.2.2.2.2.2.2.2.2 a.2.1 a.2.2) (by simpa using zb) ?_;rintro⟨⟨l,o,c,v,w0,w1,w2,w3,w4,w5,w6,w7⟩,p,i⟩ ⟨hc,hd,i0,i1⟩;simp only at hc hd i0 i1;refine NI (let a:=γc .i64;let b:=iZ.cells;let d:=iZ.row;let e:=γA;let f:=Ω;let g:=γM;let h:=(0:Int);let j:=γZ;let y:=a p.bt.a0;let z:=a p.bt.a1;let A:=a p.bt.a2;let B:=a p.bt.a3;let C:=a p.bt.a4;let D:=a p.bt.a5;let Z:=cj.i .i64;let E:=f Z p.bk;let G:=g 0 0 22;let H:=g 1 0 20;let I:=g 2 0 20;let J:=g 3 0 20;let K:=a l.a0;let L:=a l.a1;let M:=a l.a2;let N:=a l.a3;let O:=a l.a4;let P:=a l.a5;let Q:=a o.a0;let R:=a o.a1;let S:=a o.a2;let T:=a o.a3;let U:=a o.a4;let V:=a o.a5;let W:=b [K,L,M,N,O,P,Q,R,S,T,U,V,f Z c,a v,e w0,e w1,e w2,e w3,e w4,e w5,e w6,e w7] 142 22 false;let X:=f cj.bu p.bj;let k:=γu .i64 0;let a8:=ζY (Value.slice none 0 0);let Y:=b [k,k,k,k,k,k,k,k,k,k,k,k,k,k,k,k,k,k,a8,a8] 27 20 false;let n:=xP (l,o,c,v,w0,w1,w2,w3,w4,w5,w6,w7);let a9:=nH p n i.toNat i.toNat;let q:=(↑p.bj.length:Int);let a6:=(↑p.bj.length:Int);let F:=gi p n i.toNat;let r:=F.bm;let s:=F.bs;let t:=F.bt;let a7:=λ(u u_1:oz) (u_2 u_3:SV) ↦let aa:=a u.a0;let ab:=a u.a1;let ac:=a u.a2;let ad:=a u.a3;let ae:=a u.a4;let af:=a u.a5;let ag:=a u_1.a0;let ah:=a u_1.a1;let ai:=a u_1.a2;let aj:=a u_1.a3;let ak:=a u_1.a4;let al:=a u_1.a5;(b [aa,ab,ac,ad,ae,af,ag,ah,ai,aj,ak,al,y,z,A,B,C,D,E,u_2] 27 20 false).bi (b [aa,ab,ac,ad,ae,af,ag,ah,ai,aj,ak,al,y,z,A,B,C,D,E,u_3] 27 20 false);(((G.bi G/\H.bi H/\I.bi I/\J.bi J/\(a i).bi (a i)/\True)/\W.bi W/\a7 p.bm p.bs X X/\Y.bi Y/\a7 l o (j 4 0 8) (j 4 a9.length 8)/\(d cj.bu [] 65 true).bi (d cj.bu a9 65 true)/\True)/\i<=i/\i<=q)/\∀(x:Int),let w:=x+(1:Int);let am:=a w;let an:=nH p n i.toNat w.toNat;let ao:=iA p n (oI p x);let m:=nH p n i.toNat x.toNat;let ap:=m.length+1;let aq:=m++[bN p.bj x.toNat cj.bu.bw];let ar:=λ(u:Nat) (u_1:iZ) ↦TP .i64 w/\((G.bi G/\H.bi H/\I.bi I/\J.bi J/\am.bi am/\True)/\W.bi W/\a7 p.bm p.bs X X/\Y.bi Y/\(b [K,L,M,N,O,P,Q,R,S,T,U,V,y,z,A,B,C,D,E,j 4 u 8] 27 20 false).bi (b [K,L,M,N,O,P,Q,R,S,T,U,V,y,z,A,B,C,D,E,j 4 an.length 8] 27 20 false)/\u_1.bi (d cj.bu an 65 true)/\True)/\(i<=w/\w<=q)/\(q - w).toNat<(q - x).toNat;i<=x/\x<=q->(decide (x<a6)=true->(nW p=h/\xy n/\h<=x/\x<q)/\(ao=true->h<=x/\x<a6/\x.toNat<p.bj.length/\1=1/\m.length=m.length/\ap*64<=140737488355328/\ap<=1000000000000/\ar aq.length (d cj.bu aq 65 true))/\(ao=false->ar m.length (d cj.bu m 65 true)))/\(decide (x<a6)=false->m.length=m.length/\(γG [K,L,M,N,O,P,Q,R,S,T,U,V,y,z,A,B,C,D,E,f cj.bu m]).bi (γG [a r.a0,a r.a1,a r.a2,a r.a3,a r.a4,a r.a5,a s.a0,a s.a1,a s.a2,a s.a3,a s.a4,a s.a5,a t.a0,a t.a1,a t.a2,a t.a3,a t.a4,a t.a5,f Z F.bk,f cj.bu F.bj]))) (by kernel_rfl) ?_;simp only[vcs];have hl:p.bj.length<=160:=(cT hc).2.1;generalize hu:xP (l,o,c,v,w0,w1,w2,w3,w4,w5,w6,w7)=u at*;have e0:=@TO p u i.toNat;refine⟨⟨⟨by rw[e0];rfl,by rw[e0];rfl⟩,by omega⟩,?_⟩;rintro k ⟨k0,k1⟩;have hlen:=@TJ p u i.toNat k.toNat;refine⟨λhk=>?_,λhk=>?_⟩
 ·have eS:=@TK p u i.toNat k.toNat (by omega) (by omega);rw[show((k.toNat:Nat):Int)=k by omega] at eS;have eo:bN p.bj k.toNat cj.bu.bw=oI p k:=rfl;rw[show(k+1).toNat=k.toNat+1 by omega,eS,eo];refine⟨⟨hc,hd,by omega⟩,λhw=>?_,λhw=>?_⟩
  ·rw[if_pos hw];refine⟨?_,?_,?_,?_,?_,?_,⟨rfl,rfl⟩,?_,?_⟩<;>omega
  ·rw[if_neg (by rw[hw];simp),γ1];refine⟨?_,⟨rfl,rfl⟩,?_,?_⟩<;>omega
 ·rw[show k.toNat=p.bj.length by omega];subst hu;unfold nH;rw[φ];rfl
noncomputable def C2:NG:=⟨56,ew×Int,.cons cI (.one (dY .i64)),λa=>(nW a.1=0/\a.1.bj.length<=15)/\a.2=(Oq a.1).value,
 λa=> .IL [.row (.i .i64) (Oq a.1).bn,.si .i64 0]⟩
noncomputable def TH (p:ew) (m:Int):Nat->bH
 |3=> .inv Int (λk=>⟨[(1,.si .i64 m),(2,.ptr 0 0 20),(6,.ptr 1 0 22),(21,.si .i64 p.bj.length),(22,.si .i64 k)],
   [.cells p.ss 27 20 false,.cells (cd qk (fP (jq p m k.toNat))) 142 22 false,.dead]⟩)
   (λs=>iS s 22) (λk=>0<=k/\k<=p.bj.length) (λk=>(p.bj.length - k).toNat) λ_ _=> .look
 |_=> .look
theorem TG {b a:Type} (x:b×a):(x.1,x.2)=x:=rfl
theorem J8 {p:ew} {m:Int} {k:Nat} (h:(jq p m k).value=m):∀n,jq p m (k+n)=jq p m k
 |0=>rfl
 |n+1=>by have a:=J8 h n;simp_all[o8,jq]
theorem Ue {p:ew} {u:iY} {i:Int} (h:u.won.length=8):(od p u i).won.length=8:=by
 unfold od;split
 ·show(u.won.set _ true).length=8;simp_all
 ·rfl
theorem J7 {p:ew} {u:iY} (e:nW p=0) (d:qt p u):xy u:=by
 have g:=Cj e d (k:=0);have j:=vu.1 (rj (rh g).1).1;have i:∀k,k<6->0<=u.bs.at k/\u.bs.at k<=u.left.at k:=λk c=>⟨(qJ g c).2.2.1,(qJ g c).2.2.2.1⟩;have h:=(vB e).2 d.f;obtain⟨m,q,n⟩:=rX e h;have o:u.value=dA p u.bn:=by rw[d.v,DP e d.f]
 refine⟨λk c=>?_,by omega⟩;have a:=j k c;have b:=i k c;have l:0<=u.left.at k/\u.left.at k<=4:=a;omega
theorem IW:d' C2:=by
 refine bI (L:=[Cd,C3,C5]) C2 (λa=>TH a.1 a.2) (by simpa using⟨zb,IT,IX⟩) ?_;rintro⟨p,m⟩ ⟨⟨hc,h15⟩,hm⟩;simp only at hc h15 hm;refine NI (let a:=γc .i64;let b:=γA;let c:=(0:Int);let d:=iZ.cells;let e:=Ω;let f:=TP .i64;let g:=(65536:Int);let h:=SV.IL;let A:=γM 0 0 20;let B:=γM 1 0 22;let k:=(↑p.bj.length:Int);let M:=a k;let Q:=γu .i64 0;let U:=a 0;let V:=a p.bm.a0;let W:=a p.bm.a1;let X:=a p.bm.a2;let Y:=a p.bm.a3;let Z:=a p.bm.a4;let a6:=a p.bm.a5;let a7:=a p.bs.a0;let a8:=a p.bs.a1;let a9:=a p.bs.a2;let aa:=a p.bs.a3;let ab:=a p.bs.a4;let ac:=a p.bs.a5;let o:=cj.i .i64;let C:=d [V,W,X,Y,Z,a6,a7,a8,a9,aa,ab,ac,a p.bt.a0,a p.bt.a1,a p.bt.a2,a p.bt.a3,a p.bt.a4,a p.bt.a5,e o p.bk,e cj.bu p.bj] 27 20 false;let q:=δb false;let D:=fP (jq p m 0);let E:=D.1;let F:=D.2.1;let G:=D.2.2.2.2.2;let ad:=G.2.2.2.2.2;let ae:=h [e o (Oq p).bn,U];0=0/\((((a m).bi (a m)/\A.bi A/\B.bi B/\(a (↑p.bj.length:Int)).bi M/\Q.bi U/\True)/\C.bi C/\(d [V,W,X,Y,Z,a6,a7,a8,a9,aa,ab,ac,e o [],Q,q,q,q,q,q,q,q,q] 142 22 false).bi (d [a E.a0,a E.a1,a E.a2,a E.a3,a E.a4,a E.a5,a F.a0,a F.a1,a F.a2,a F.a3,a F.a4,a F.a5,e o D.2.2.1,a D.2.2.2.1,b D.2.2.2.2.1,b G.1,b G.2.1,b G.2.2.1,b G.2.2.2.1,b G.2.2.2.2.1,b ad.1,b ad.2] 142 22 false)/\iZ.dead.bi iZ.dead/\True)/\c<=c/\c<=k)/\∀(x:Int),let j:=x+(1:Int);let N:=a j;let s:=fP (jq p m x.toNat);let t:=s.1;let v:=s.2.1;let af:=e o s.2.2.1;let R:=s.2.2.2.1;let ag:=s.2.2.2.2.1;let l:=s.2.2.2.2.2;let ah:=l.2.2.2.2.1;let O:=l.2.2.2.2.2;let H:=fP (jq p m j.toNat);let I:=H.1;let J:=H.2.1;let K:=H.2.2.2.2.2;let ai:=K.2.2.2.2.2;let aj:=d [a I.a0,a I.a1,a I.a2,a I.a3,a I.a4,a I.a5,a J.a0,a J.a1,a J.a2,a J.a3,a J.a4,a J.a5,e o H.2.2.1,a H.2.2.2.1,b H.2.2.2.2.1,b K.1,b K.2.1,b K.2.2.1,b K.2.2.2.1,b K.2.2.2.2.1,b ai.1,b ai.2] 142 22 false;let P:=xP (t,v,s.2.2.1,R,ag,l.1,l.2.1,l.2.2.1,l.2.2.2.1,ah,O.1,O.2);let w:=(fP (od p P x)).1;let r:=(fP (od p P x)).2;let y:=r.1;let z:=r.2.2.1;let ak:=r.2.2.2.2.1;let n:=r.2.2.2.2.2;let al:=n.2.2.2.2.1;let am:=n.2.2.2.2.2;let S:=gi p (xP (w,y,r.2.1,z,r.2.2.2.1,ak,n.1,n.2.1,n.2.2.1,n.2.2.2.1,al,am)) j.toNat;let an:=iB S (m - z) g;let ao:=f j/\(((a m).bi (a m)/\A.bi A/\B.bi B/\M.bi M/\N.bi N/\True)/\C.bi C/\(d [a t.a0,a t.a1,a t.a2,a t.a3,a t.a4,a t.a5,a v.a0,a v.a1,a v.a2,a v.a3,a v.a4,a v.a5,af,a R,b ag,b l.1,b l.2.1,b l.2.2.1,b l.2.2.2.1,b ah,b O.1,b O.2] 142 22 false).bi aj/\iZ.dead.bi iZ.dead/\True)/\(c<=j/\j<=k)/\(k - j).toNat<(k - x).toNat;let ap:=(h [af,Q]).bi ae;let aq:=λ(u:Bool) ↦jr S (m - z) g=u;let ar:=λ(u:Bool) ↦decide (an≠c)=u;let au:=λ(u:iY) ↦let L:=(fP u).2.2.2.2;let T:=L.2.2.2.2.2;xy (xP ((fP u).1,(fP u).2.1,(fP u).2.2.1,(fP u).2.2.2.1,L.1,L.2.1,L.2.2.1,L.2.2.2.1,L.2.2.2.2.1,T.1,T.2.1,T.2.2));let av:=λ(u:Bool) ↦(!iA p P (oI p x))=u;let aw:=λ(u:Bool) ↦decide (R=m)=u;c<=x/\x<=k->(decide (x<k)=true->(aw true->ap)/\(aw false->(nW p=c/\au (jq p m x.toNat)/\c<=x/\x<k)/\(av true->ao)/\(av false->f j/\(nW p=c/\au (od p P x)/\c<=j/\j<=k)/\f (m - z)/\(S.bj.length<=20/\(-9223372036854775808:Int)<=m - z/\m - z<=(9223372036854775807:Int))/\(ar true->(h [e o [],a an]).bi ae)/\(ar false->(aq true->f j/\(((a m).bi (a m)/\A.bi A/\B.bi B/\M.bi M/\N.bi N/\True)/\C.bi C/\(d [a w.a0,a w.a1,a w.a2,a w.a3,a w.a4,a w.a5,a y.a0,a y.a1,a y.a2,a y.a3,a y.a4,a y.a5,e o r.2.1,a z,b r.2.2.2.1,b ak,b n.1,b n.2.1,b n.2.2.1,b n.2.2.2.1,b al,b am] 142 22 false).bi aj/\iZ.dead.bi iZ.dead/\True)/\(c<=j/\j<=k)/\(k - j).toNat<(k - x).toNat)/\(aq false->ao)))))/\(decide (x<k)=false->ap)) (by kernel_rfl) ?_;simp only[vcs];simp only[TG];refine⟨⟨rfl,by omega⟩,?_⟩;rintro k ⟨k0,k1⟩;obtain⟨hG,hC⟩:=D9 hc h15 k.toNat (by omega);rw[<-hm] at hG hC;generalize hu:jq p m k.toNat=u at*;have hW:=@Ue p u k hG.wl;simp only[J_ hG.wl,J_ hW];have hrun:jq p m (k+1).toNat=o8 p m u k:=by rw[show(k+1).toNat=k.toNat+1 by omega];show o8 p m (jq p m k.toNat) _=_;rw[hu,show((k.toNat:Nat):Int)=k by omega]
 have hD:=J7 hc hG;refine⟨λhk=>⟨λhv=>?_,λhv0=>⟨⟨hc,hD,by omega⟩,λhw=>?_,λhw=>?_⟩⟩,λhk=>?_⟩
 ·have h1:=@J8 p m k.toNat (by rw[hu];exact hv) (p.bj.length - k.toNat);rw[show k.toNat+(p.bj.length - k.toNat)=p.bj.length by omega,hu] at h1;show u.bn=_;rw[<-h1,hm,LO hc h15]
 ·have hv:¬u.value=m:=hv0;have e:jq p m (k+1).toNat=u:=by rw[hrun];unfold o8;rw[if_neg hv,if_neg (by rw[hw];simp)]
  rw[e];refine⟨?_,rfl,?_,?_⟩<;>omega
 ·have hv:¬u.value=m:=hv0;have hy:od p u k=ek p u k:=by unfold od;rw[if_pos hw]
  rw[hy];have hlt:∀j∈u.bn,j<k:=λj hj=>by rw[hC] at hj;have:=of_decide_eq_true (Θ.1 hj).2;omega
  have hG2:=hG.next hc hlt (by omega) hw;have hD2:=J7 hc hG2;have hq:=Cj hc hG2 (k:=(k+1).toNat);have hql:(gi p (ek p u k) (k+1).toNat).bj.length<=15:=by have h1:=γT (iA p (ek p u k)) (p.bj.drop (k+1).toNat);rw[εE] at h1;show((p.bj.drop _).filter _).length<=15;omega
  have hroom:iB (gi p (ek p u k) (k+1).toNat) (m - (ek p u k).value) 65536=0:=DK hq (by omega) (by have:2^((gi p (ek p u k) (k+1).toNat).bj.length+1)<=2^16:=δs (by omega) (by omega);have h16:(2:Nat)^16=65536:=rfl;omega);have hmb:0<=m/\m<=160000000:=by obtain⟨f1,f2⟩:=pF hc;have:=rX hc ((vB hc).2 f1);rw[DP hc f1] at this;omega
  have hv2:0<=(ek p u k).value/\(ek p u k).value<=160000000:=hD2.2.1;have ev:(fP (ek p u k)).2.2.2.1=(ek p u k).value:=rfl;rw[ev,hroom];have er:jq p m (k+1).toNat=if jr (gi p (ek p u k) (k+1).toNat) (m - (ek p u k).value) 65536=true then ek p u k else u:=by rw[hrun];unfold o8;rw[if_neg hv,if_pos hw]
  refine⟨by omega,⟨hc,hD2,by omega⟩,by omega,(by omega),λh=>absurd rfl h,λ_=>⟨λhb=>?_,λhb=>?_⟩⟩
  ·rw[er,if_pos hb];refine⟨?_,rfl,?_,?_⟩<;>omega
  ·rw[er,if_neg (by rw[hb];simp)];refine⟨?_,rfl,?_,?_⟩<;>omega
 ·show u.bn=_;rw[<-hu,hm,show k.toNat=p.bj.length by omega,LO hc h15]
noncomputable def pE (p:ew):List cA:=(gR p (fY p (ju p)).bn 65536).bq
noncomputable def C1:NG:=⟨33,ew,.one cI,λp=>nW p≠0\/p.bj.length<=15,
 λp=> .IL [.agg [.row (.i .i64) (if nW p=0 then(Oq p).bn else[]),.si .i64 (if nW p=0 then(Oq p).value else 0),.row Ap (if nW p=0 then pE p else[])],.si .i64 (nW p)]⟩
theorem IZ:d' C1:=by
 refine bI (L:=[nz,xk,xj,C6,C2]) C1 lk (by grind[oT,uH,uG,IY,IW]) ?_;rintro(p:ew) (y:nW p≠0\/p.bj.length<=15);refine NI (let a:=(0:Int);let b:=γc .i64;let d:=Ω;let h:=(65536:Int);let l:=SV.IL;let o:=γG;let k:=cj.i .i64;let w:=[b (nW p)];let m:=l (o [d k (if nW p=a then(Oq p).bn else[]),b (if nW p=a then(Oq p).value else a),d Ap (if nW p=a then pE p else[])]::w);let t:=γu .i64 0;let v:=o [d k [],t,d k []];let x:=decide (nW p≠a);let q:=(fY p (ju p)).bn;let j:=jM p q h;let f:=decide (j≠a);let g:=gR p q h;let e:=if j=a then g.val else a;let B:=λ(u c:Bool) (n:List SV) ↦u=c->(l n).bi m;let r:=λ(u:Bool) (c:Int) ↦u=true->(l [v,b c]).bi m;True/\(x=true->(l (v::w)).bi m)/\(x=false->p.bj.length<=20/\(ju p).length<=9223372036854775807/\(p.bj.length<=20/\q.length<=9223372036854775807)/\r f j/\(f=false->((nW p=a/\p.bj.length<=15)/\e=(Oq p).value)/\r false a/\B false false [o [d k (Oq p).bn,b e,d Ap (if j=a then g.bq else[])],t]))) (by kernel_rfl) ?_;simp only[vcs];by_cases a:nW p=0
 ·have l:p.bj.length<=15:=y.resolve_left λh=>h a;obtain⟨o,_⟩:=vy a;have D:=C7 a;have A:=(rX a o).2.2;have b:((1+2^(p.bj.length+1):Nat):Int)<=65536+2:=by have:2^(p.bj.length+1)<=2^16:=δs (by omega) (by omega);omega
  have d:jM p (fY p (ju p)).bn 65536=0:=UL a o (by omega) b;obtain⟨_,C,z⟩:=DM a o (bz:=65536) (by omega);have s:=(C (z b)).2.1;simp only[d,a,if_true];refine⟨λh=>absurd rfl h,λ_=>⟨by omega,by omega,(by omega),λh=>absurd rfl h,λ_=>⟨⟨⟨trivial,l⟩,s⟩,λh=>(by cases h),λ_=>⟨?_,trivial⟩⟩⟩⟩;rw[s];rfl
 ·refine⟨λ_=>?_,λh=>absurd a h⟩;rw[if_neg a,if_neg a,if_neg a];rfl
end Go.Vi
