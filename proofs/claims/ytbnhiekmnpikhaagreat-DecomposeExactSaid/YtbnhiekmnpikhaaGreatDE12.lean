import Derived.Test.YtbnhiekmnpikhaaGreatDE11
set_option maxRecDepth 100000
set_option maxHeartbeats 4000000
set_option linter.all false
open Bool renaming eq_false_iff->δN,false_ne_true->ζk,and_eq_true->θ,not_eq_true'->δh
open Classical renaming not_not->γe
open Go.Vi.SV renaming si->γj,il->γC,row->γa,agg->γN,sb->γB,bl->δj,ptr->γV,ow->γ1,ia->θj
open Int renaming toNat_natCast->γk,toNat_of_nonneg->εC
open IntCast renaming intCast->κ
open List renaming take->Δ,mem_of_mem_take->γn,take_length->φ,length->γd,all_eq_true->ψ,all_append->ζR,map_cons->ξ,map_nil->γw,map->γc,length_take->γz,length_map->Ξ,append_nil->γ0,map_append->γb,mem_map->Γ,replicate->δ,length_set->Ω,length_filter_le->δf,mem_filter->Ψ,mem_cons_of_mem->γp,mem_cons_self->γv,nodup_append->γx,pairwise_append->δI,pairwise_singleton->ζH,mem_append->γi,length_drop->εw,pairwise_cons->γr,append_assoc->γG,cons_append->γM,filter_eq_nil_iff->δS,filter_eq_self->δ8,mem_singleton->δd
open List.Pairwise renaming nil->δv
open List.Perm renaming append_left->ζS
open List.cons renaming injEq->Θ
open Nat renaming le_refl->π,pow_le_pow_right->δt
open Option.some renaming injEq->γ
namespace Go.Vi
open Go.Proofs.YtbnhiekmnpikhaaGreat.Ir
open Go.Proofs
def BX:NG:=⟨38,cj×List Int,.cons cV (.one (cO (.i .i64))),λa=>nW a.1=0/\a.2.length<=9223372036854775807,λa=> .si .i64 (cB a.1 a.2)⟩
def Tn (p:cj) (c:List Int):Nat->bJ
 |6=> .inv Int (λi=>⟨[(7,.si .i64 (bF ((cK p c).take i.toNat))),(23,.row .bu (cK p c)),(24,.si .i64 (cK p c).length),(25,.si .i64 i)],[.cells p.ss 27 20 false]⟩)
   (λs=>iS s 25) (λi=>0<=i/\i<=(cK p c).length) (λi=>((cK p c).length - i).toNat) λ_ _=> .look
 |_=> .look
theorem yL:Holds Tryz.prog BX:=by
 refine bM (L:=[AN,mV]) BX (λa=>Tn a.1 a.2) (by grind[yW,oi]) ?_;rintro⟨p,c⟩ ⟨f,A⟩;simp only at f A;refine NI (let a:=γj .i64;let f:=(0:Int);let k:=γC .i64 0;let m:=a (cB p c);let z:=decide (nW p≠f);let j:=γa ew.bu (cK p c);let B:=(↑(cK p c).length:Int);let d:=(↑(cK p c).length:Int);let r:=a d;let g:=iZ.cells (cj.ss p) 27 20 false;(c.length<=9223372036854775807/\p.bj.length<=1000)/\((!eG p c)=true->k.bi m)/\((!eG p c)=false->True/\(z=true->k.bi m)/\(z=false->(((k.bi (a (bF []))/\j.bi j/\(a B).bi r/\k.bi (a 0)/\True)/\g.bi g/\True)/\f<=f/\f<=d)/\∀(x:Int),let w:=bF (Δ x.toNat (cK p c));let y:=w+(bN (cK p c) x.toNat ew.bu.bw).value;let b:=x+(1:Int);let e:=a b;f<=x/\x<=d->(decide (x<d)=true->f<=x/\x<B/\x.toNat<(cK p c).length/\VL .i64 y/\VL .i64 b/\(((a y).bi (a (bF (Δ b.toNat (cK p c))))/\j.bi j/\r.bi r/\e.bi e/\True)/\g.bi g/\True)/\(f<=b/\b<=d)/\(d - b).toNat<(d - x).toNat)/\(decide (x<d)=false->(a w).bi m)))) (by kernel_rfl) ?_;simp only[vcs];have t:=cL f;obtain⟨G,v⟩:=NM (c:=c) f;have u:=t.2.1;have q:eG p c=false->0=cB p c:=λh=>by
  unfold cB;rw[if_pos f];unfold cK;unfold eG at h;rw[Option.isSome_eq_false_iff,Option.isNone_iff_eq_none] at h;rw[h];rfl
 refine⟨⟨A,by omega⟩,q,λ_=>⟨λh=>absurd f h,λ_=>⟨⟨by simp[bF],by omega,by omega⟩,?_⟩⟩⟩;rintro i ⟨n,D⟩;refine⟨λo=>?_,λE=>?_⟩
 ·have H:=NN n o;have F:=ot t (l:=(cK p c).take i.toNat) λx s=>v x (γn s);have C:=ot t (l:=(cK p c).take (i+1).toNat) λx s=>v x (γn s);grind
 ·rw[show i.toNat=(cK p c).length from by omega,φ];grind[cB]
def DZ:NG:=⟨143,Int×Int,.cons (dX .i64) (.one (dX .i64)),λa=>(-9223372036854775808<=a.1/\a.1<=9223372036854775807)/\0<a.2/\a.2<=9223372036854775807,λa=> .Gz [nH (eM (decide (a.1<0)) (a.1.natAbs:Int) a.2),.si .i64 0]⟩
theorem HX:Holds Tryz.prog DZ:=by
 refine bM (L:=[zZ,wW]) DZ lk (by grind[yY,uc]) ?_;rintro⟨n,d⟩ ⟨⟨u,w⟩,q,r⟩;simp only at u w q r;refine NI (let e:=(-9223372036854775808:Int);let h:=(9223372036854775807:Int);let k:=(0:Int);let l:=γa;let g:=bU (↑n.natAbs:Int);let b:=bU (↑d.natAbs:Int);let f:=nf (eM (!decide (n<k)==decide (d<k)) (bX g) (bX b));let a:=ew.i .u32;let j:=[γj .i64 0];let c:=nf (eM (decide (n<k)) (↑n.natAbs:Int) d);(e<=n/\n<=h)/\(e<=d/\d<=h)/\((ou g/\ou b)/\(g.length<=1000000000/\b.length<=1000000000)/\k<bX b)/\(SV.Gz (γN [γB f.1,l a f.2.1,l a f.2.2]::j)).bi (SV.Gz (γN [γB c.1,l a c.2.1,l a c.2.2]::j))) (by kernel_rfl) ?_;simp only[vcs];obtain⟨v,s,t⟩:=fo (show(0:Int)<=(n.natAbs:Int) by omega);obtain⟨o,l,h⟩:=fo (show(0:Int)<=(d.natAbs:Int) by omega);have x:=lB (k:=2) (show(0:Int)<=(n.natAbs:Int) by omega) (by omega);have p:=lB (k:=2) (show(0:Int)<=(d.natAbs:Int) by omega) (by omega);have e:(d.natAbs:Int)=d:=by omega
 have m:(!(decide (n<0)==decide (d<0)))=decide (n<0):=by
  grind
 rw[m,v,o,e];rw[e] at l h p;repeat' refine And.intro ?_ ?_
 all_goals first|omega|exact s|exact l|exact t|exact h|rfl
def mW (x:List NH):Prop:=∃l,x=fL l/\x.length<=1000000/\∀q∈l,Sz 1000 q
theorem Tm (q:Rat):q.den=1↔(nf q).2.2=[1]:=by
 have c:bU 1=[1]:=by decide
 constructor
 ·intro h;show bU (q.den:Int)=[1];simp_all
 ·intro h;have a:=(fo (show(0:Int)<=(q.den:Int) by omega)).1;have b:bU (q.den:Int)=[1]:=h;grind[bX]
theorem BW (q:Rat):okF (nf q)=true:=decide_eq_true (by rw[dJ])
def DY:NG:=⟨103,List NH,.one (cO sF),mW,λx=> .sb (lz (vL x))⟩
def Tl (x:List NH):Nat->bJ
 |2=> .inv Int (λi=>⟨[(5,.row sF x),(6,.si .i64 x.length),(7,.si .i64 i)],[]⟩)
   (λs=>iS s 7) (λi=>(0<=i/\i<=x.length)/\lz ((vL x).take i.toNat)=true) (λi=>(x.length - i).toNat) λ_ _=> .look
 |_=> .look
theorem H1:Holds Tryz.prog DY:=by
 refine bM (L:=[sh]) DY Tl (by grind[nD]) ?_;rintro(x:List NH) ⟨l,v,G,H⟩;refine NI (let c:=(0:Int);let d:=γj .i64;let f:=δj false;let h:=γa;let i:=(1:Int);let b:=(↑x.length:Int);let w:=d b;((((h sF x).bi (h sF x)/\(d (↑x.length:Int)).bi w/\(γC .i64 0).bi (d 0)/\True)/\True)/\(c<=c/\c<=b)/\lz []=true)/\∀(a:Int),let p:=bN x a.toNat sF.bw;let e:=p.2.2;let C:=(↑(γd e):Int);let r:=γB (lz (vL x));let g:=a+i;let o:=d g;let A:=λ(u:Bool) ↦decide (bN e 0 c≠i)=u;let D:=λ(u:Bool) ↦decide (C≠i)=u;let E:=λ(u:Bool) ↦(!okF (p.1,p.2.1,e))=u;(c<=a/\a<=b)/\lz (Δ a.toNat (vL x))=true->(decide (a<b)=true->c<=a/\a<(↑x.length:Int)/\a.toNat<x.length/\((ou p.2.1/\ou e)/\γd p.2.1<=10000000/\γd e<=10000000)/\(E true->(f).bi r)/\(E false->(D true->(f).bi r)/\(D false->c<=c/\c<C/\0<γd e/\(A true->(f).bi r)/\(A false->VL .i64 g/\(((h sF x).bi (h sF x)/\w.bi w/\o.bi o/\True)/\True)/\((c<=g/\g<=b)/\lz (Δ g.toNat (vL x))=true)/\(b - g).toNat<(b - a).toNat))))/\(decide (a<b)=false->(δj true).bi r)) (by kernel_rfl) ?_;simp only[vcs];subst v;rw[ez] at G ⊢;rw[jP];have s:∀k:Nat,((k:Nat):Int).toNat=k:=λk=>γk k;refine⟨⟨⟨by omega,by omega⟩,rfl⟩,?_⟩;rintro i ⟨⟨z,T⟩,c⟩;refine⟨λy=>?_,λy=>?_⟩
 ·have J:bN (fL l) i.toNat sF.bw=nf (bN l i.toNat 0):=iD (by omega);have B:=cA (d:=0) (show i.toNat<l.length by omega);have N:=H _ B;have K:=ji (d:=0) z y;rw[J];generalize bN l i.toNat 0=q at*;obtain⟨_,⟨I,U,V⟩,⟨M,P,W⟩⟩:=kN q;obtain⟨R,S⟩:=mZ N;have m:=Tm q;have j:q.den≠1->false=lz l:=λQ=>by
   refine(δN.2 λf=>?_).symm;have:=ψ.1 f _ B;simp_all
  have t:=BW q;refine⟨z,y,by omega,⟨⟨I,M⟩,by omega,by omega⟩,λh=>absurd t (by simp_all),λ_=>⟨λh=>j λf=>h ?_,λh=>⟨by omega,by omega,by omega,λf=>j λO=>f ?_,λf=>⟨by omega,⟨by omega,?_⟩,by omega⟩⟩⟩⟩;·simp_all
  ·rw[(m.1 O)];rfl
  ·rw[K];unfold lz at c ⊢;rw[ζR,c];have:q.den=1:=m.2 (by
    have n:(nf q).2.2.length=1:=by omega
    have F:bN (nf q).2.2 0 0=1:=γe.1 f;match v:(nf q).2.2,n with
    |[x],_=>
     rw[v] at F;have:x=1:=F;rw[this]);simp[this]
 grind
def DX (f:FuncId) (j:cj->List Int->Prop) (e:cj->List Int->SV):cU where
 f:=f;α:=cj×Nat×List Int;put a:=[cV.put a.1,.ow 0 a.2.1 1];st a:=[.row (.i .i64) a.2.2 3 true];dec v o:=match v,o with
  |[p,.ow 0 n 1],[.row s l 3 true]=>match cV.dec p,gF s (.i .i64) l with
   |some p,some l=>some (p,n,l)
   |_,_=>none
  |_,_=>none;ok v o a h:=by
  split at h
  ·split at h
   ·rename_i c d;simp only[γ] at h;subst h;obtain⟨rfl,k⟩:=ln d;cases k;exact⟨by simp only[gL,cV.ok _ _ c],rfl⟩
   ·cases h
  ·cases h
 inj a b c d:=by
  obtain⟨p,n,l⟩:=a;obtain⟨m,q,r⟩:=b;simp only[gL,Θ,and_true,SV.g,AV.os.injEq,true_and] at c;simp only[gO,ξ,γw,iZ.g,Θ,OL.cells.injEq,and_true] at d;rw[cV.inj p m c.1,mY (s:=.i .i64) d,c.2.1]
 dom a:=a.2.1=a.2.2.length/\j a.1 a.2.2;res a:=e a.1 a.2.2;out a:=[.row (.i .i64) a.2.2 3 true]
theorem wL {L:List NG} {W:List cU} (c:cU) (Λ:c.α->Nat->bJ) (i:∀c∈W,dB Tryz.prog c) (e:∀c∈L,Holds Tryz.prog c)
  
  (h:∀a,c.dom a->Vc (B0 (kr L (fT W) mi ml fQ) (Λ a) (fG c.f) (c.put a) (c.st a) λv s=>v.bi (c.res a)/\jW s (c.out a))) (j:(fQ c.f).isSome=true:=by kernel_rfl) (b:∀a,(c.put a).length=(fG c.f).params:=by intro _;kernel_rfl) (d:my c.f W=none:=by kernel_rfl):dB Tryz.prog c:=
 λa g=>SN c pU i e (xm j) b a d (h a g).out
noncomputable def DW:cU:=DX 135 (λp f=>nW p=0/\f.length=p.bj.length) λp f=>nH (κ (fN p f))
def Tk (p:cj) (f:List Int):Nat->bJ
 |3=> .inv Int (λi=>⟨[(2,.ptr 1 0 20),(4,.ptr 2 0 3),(5,.si .i64 (fN p (f.take i.toNat))),(8,.ow 0 f.length 1),(9,.si .i64 f.length),(10,.si .i64 i)],[.row (.i .i64) f 3 true,.cells p.ss 27 20 false,.cells [.bl false,.sc (.slice none 0 0),.sc (.slice none 0 0)] 177 3 false]⟩)
   (λs=>iS s 10) (λi=>0<=i/\i<=f.length) (λi=>(f.length - i).toNat) λ_ _=> .look
 |_=> .look
theorem yZ:dB Tryz.prog DW:=by
 refine wL (L:=[mj]) (W:=[]) DW (λa=>Tk a.1 a.2.2) (by simp) (by simpa using nG) ?_;rintro⟨p,n,f⟩ ⟨hn,⟨hc,hl⟩⟩;simp only at hn;subst hn;simp only at hc hl;refine NI (let a:=γj .i64;let b:=(0:Int);let c:=γa;let j:=γV 1 0 20;let k:=γV 2 0 3;let t:=γC .i64 0;let l:=γ1 0 f.length 1;let d:=(↑f.length:Int);let m:=a d;let e:=iZ.row (ew.i .i64) f 3 true;let n:=iZ.cells (cj.ss p) 27 20 false;let v:=SV.sc (Value.slice none 0 0);let o:=iZ.cells [δj false,v,v] 177 3 false;let q:=ew.i .u32;let r:=nf (κ (fN p f));(((j.bi j/\k.bi k/\t.bi (a (fN p []))/\l.bi l/\m.bi m/\t.bi (a 0)/\True)/\e.bi e/\n.bi n/\o.bi o/\True)/\b<=b/\b<=d)/\∀(x:Int),let g:=x+(1:Int);let w:=a g;let y:=decide (bN f x.toNat b=(1:Int));let h:=fN p (Δ x.toNat f);let z:=h+(bN p.bj x.toNat ew.bu.bw).value;let s:=nf (κ h);let A:=λ(u:Int) ↦VL .i64 g/\((j.bi j/\k.bi k/\(a u).bi (a (fN p (Δ g.toNat f)))/\l.bi l/\m.bi m/\w.bi w/\True)/\e.bi e/\n.bi n/\o.bi o/\True)/\(b<=g/\g<=d)/\(d - g).toNat<(d - x).toNat;b<=x/\x<=d->(decide (x<d)=true->f.length=f.length/\b<=x/\x<(↑f.length:Int)/\f.length=f.length/\x.toNat<f.length/\(y=true->b<=x/\x<(↑p.bj.length:Int)/\x.toNat<p.bj.length/\VL .i64 z/\A z)/\(y=false->A h))/\(decide (x<d)=false->((-9223372036854775808:Int)<=h/\h<=(9223372036854775807:Int))/\(γN [γB s.1,c q s.2.1,c q s.2.2]).bi (γN [γB r.1,c q r.2.1,c q r.2.2])/\e.bi e/\True)) (by kernel_rfl) ?_;simp only[vcs];have h160:=(cL hc).2.1;refine⟨⟨by simp[fN,zi,cz,bF],by omega,by omega⟩,?_⟩;rintro i ⟨i0,i1⟩;have hb:=@wP p hc f i.toNat hl;refine⟨λhi=>?_,λhi=>?_⟩
 ·have hs:=@Kp p f i i0 hi;have ho:=js hc (i:=i) ⟨i0,by omega⟩;have hv:(bN p.bj i.toNat ew.bu.bw).value=(oI p i).value:=rfl;rw[hv];refine⟨i0,hi,by omega,λh1=>?_,λh1=>?_⟩
  ·rw[if_pos h1] at hs;refine⟨i0,?_,?_,?_,?_,?_,?_,?_⟩<;>omega
  ·rw[if_neg h1] at hs;refine⟨?_,?_,?_,?_⟩<;>omega
 ·rw[show f.take i.toNat=f by rw[show i.toNat=f.length by omega,φ]] at hb ⊢;exact⟨by omega,rfl⟩
noncomputable def DV:cU:=DX 132 (λp f=>(nW p=0/\f.length=p.bj.length)/\iN f=true) λp f=> .Gz [.agg [.row sF (lA p f).1,.row sR (lA p f).2.1],.row (.i .i64) (lA p f).2.2,.si .i64 (if fZ p f=true then 0 else 14)]
def KF (p:cj) (f:List Int) (l:List Int) (m:List bC):TP:=[.row (.i .i64) f 3 true,.cells p.ss 27 20 false,.cells [.sc (.slice none 0 0),.sc (.slice none 0 0)] 217 2 false,.row (.i .i64) l 3 true,.row .bu m 65 true]
def BV (p:cj) (f:List Int) (l:List Int) (m:List bC) (k0 k1:Nat) (rs:List (List NH×NH)) (g:List NH):TP:=KF p f l m++[.cells p.ss 87 20 false,.cells [.ow 8 k0 3,.ow 7 k1 4] 217 2 false,.row sR rs 249 false,.row sF g 177 false]
def Tj (p:cj) (f:List Int):Nat->bJ
 |9=> .inv Int (λi=>⟨[(2,.ptr 1 0 20),(4,.ptr 2 0 2),(8,.ow 3 (zi (f.take i.toNat) 0).length 1),(9,.ow 4 (zi (f.take i.toNat) 1).length 8),(36,.ow 0 f.length 1),(37,.si .i64 f.length),(38,.si .i64 i)],KF p f (zi (f.take i.toNat) 0) ((zi (f.take i.toNat) 1).map (oI p))⟩)
   (λs=>iS s 38) (λi=>0<=i/\i<=f.length) (λi=>(f.length - i).toNat) λ_ _=> .look
 |24=> .inv Int (λj=>⟨[(2,.ptr 1 0 20),(4,.ptr 2 0 2),(8,.ow 3 (zi f 0).length 1),(9,.ow 4 (zi f 1).length 8),(12,.ptr 5 0 20),(13,.ptr 6 0 2),(71,.ow 3 (zi f 0).length 1),(72,.si .i64 (zi f 0).length),(73,.si .i64 j)],BV p f (zi f 0) ((zi f 1).map (oI p)) j.toNat 0 [] (kM p f j.toNat)⟩)
   (λs=>iS s 73) (λj=>0<=j/\j<=(zi f 0).length) (λj=>((zi f 0).length - j).toNat) λ_ _=> .look
 |29=> .inv Int (λr=>⟨[(2,.ptr 1 0 20),(4,.ptr 2 0 2),(8,.ow 3 (zi f 0).length 1),(9,.ow 4 (zi f 1).length 8),(12,.ptr 5 0 20),(13,.ptr 6 0 2),(91,.si .i64 (cq p)),(92,.si .i64 r)],BV p f (zi f 0) ((zi f 1).map (oI p)) (zi f 0).length r.toNat (lZ p f r.toNat) (kM p f (zi f 0).length)⟩)
   (λs=>iS s 92) (λr=>0<=r/\r<=cq p) (λr=>(cq p - r).toNat) λr k=>match k with
   |33=> .inv Int (λj=>⟨[(2,.ptr 1 0 20),(4,.ptr 2 0 2),(8,.ow 3 (zi f 0).length 1),(9,.ow 4 (zi f 1).length 8),(12,.ptr 5 0 20),(13,.ptr 6 0 2),(16,.si .i64 r),(17,.si .i64 (cC p r - bZ p (((zi f 1).map (oI p)).take j.toNat) r)),(91,.si .i64 (cq p)),(92,.si .i64 r),(98,.ow 4 (zi f 1).length 8),(99,.si .i64 (zi f 1).length),(100,.si .i64 j)],BV p f (zi f 0) ((zi f 1).map (oI p)) (zi f 0).length r.toNat (lZ p f r.toNat) (kM p f (zi f 0).length)⟩)
     (λs=>iS s 100) (λj=>0<=j/\j<=(zi f 1).length) (λj=>((zi f 1).length - j).toNat) λ_ _=> .look
   |39=> .inv Int (λj=>⟨[(2,.ptr 1 0 20),(4,.ptr 2 0 2),(8,.ow 3 (zi f 0).length 1),(9,.ow 4 (zi f 1).length 8),(12,.ptr 5 0 20),(13,.ptr 6 0 2),(16,.si .i64 r),(20,.ptr 9 0 4),(91,.si .i64 (cq p)),(92,.si .i64 r),(114,.ow 3 (zi f 0).length 1),(115,.si .i64 (zi f 0).length),(116,.si .i64 j)],BV p f (zi f 0) ((zi f 1).map (oI p)) (zi f 0).length r.toNat (lZ p f r.toNat) (kM p f (zi f 0).length)++[.cells [.ow 10 j.toNat 3,.sb (nf ((cC p r - bZ p ((zi f 1).map (oI p)) r:Int):Rat)).1,.row (.i .u32) (nf ((cC p r - bZ p ((zi f 1).map (oI p)) r:Int):Rat)).2.1,.row (.i .u32) (nf ((cC p r - bZ p ((zi f 1).map (oI p)) r:Int):Rat)).2.2] 249 4 false,.row sF (l8 p f r j.toNat) 177 false]⟩)
     (λs=>iS s 116) (λj=>0<=j/\j<=(zi f 0).length) (λj=>((zi f 0).length - j).toNat) λ_ _=> .look
   |_=> .look
 |_=> .look
theorem y4:dB Tryz.prog DV:=by
 refine wL (L:=[mV,mj,AT,uV,uX,uW]) (W:=[]) DV (λa=>Tj a.1 a.2.2) (by simp) (by simpa using⟨oi,nG,yV,qT,qS,qR⟩) ?_;rintro⟨p,n,f⟩ ⟨hn,⟨⟨hc,hl⟩,hr⟩⟩;simp only at hn;subst hn;simp only at hc hl hr;refine NI (let a:=γj .i64;let c:=(0:Int);let d:=iZ.row;let e:=iZ.cells;let g:=γ1;let h:=(-9223372036854775808:Int);let j:=γa;let k:=(1:Int);let l:=(9223372036854775807:Int);let m:=VL .i64;let n:=γC .i64;let o:=γV;let q:=γN;let r:=SV.Gz;let R:=SV.sc (Value.slice none 0 0);let L:=ew.i .i64;let ah:=r [q [j sF (lA p f).1,j sR (lA p f).2.1],j L (lA p f).2.2,a (if fZ p f=true then c else(14:Int))];let s:=d L f 3 true;let I:=(↑f.length:Int);let ai:=p.bj.length;let ae:=(↑ai:Int);let t:=o 1 0 20;let v:=o 2 0 2;let Z:=g 0 f.length 1;let a6:=a I;let a7:=n 0;let aM:=[a p.bm.a0,a p.bm.a1,a p.bm.a2,a p.bm.a3,a p.bm.a4,a p.bm.a5,a p.bs.a0,a p.bs.a1,a p.bs.a2,a p.bs.a3,a p.bs.a4,a p.bs.a5,a p.bt.a0,a p.bt.a1,a p.bt.a2,a p.bt.a3,a p.bt.a4,a p.bt.a5,j L p.bk,j ew.bu p.bj];let w:=e aM 27 20 false;let y:=e [R,R] 217 2 false;let aN:=d ew.bu [] 65 true;let aj:=ew.bu.bw;let ay:=(↑p.bk.length:Int);let a8:=ew.i .u32;let a9:=ew.b.pair (a8.Ap.pair a8.Ap);let az:=a9.Ap.pair a9;let H:=zi f c;let N:=H.length;let z:=g 3 N 1;let z25:Nat:=(zi f k).length;let A:=g 4 z25 8;let B:=o 5 0 20;let C:=o 6 0 2;let E:=(↑N:Int);let V:=a E;let F:=d L H 3 true;let P:=γc (oI p) (zi f k);let G:=d ew.bu P 65 true;let D:=e aM 87 20 false;let af:=[g 7 0 4];let aO:=e (g 8 0 3::af) 217 2 false;let ak:=d sR [] 249 false;let aP:=d a9 [] 177 false;let J:=a (cq p);let al:=g 8 N 3;let aA:=kM p f N;let M:=d sF aA 177 false;let S:=(↑z25:Int);let am:=a S;let an:=o 9 0 4;let aQ:=g 10 0 3;let aR:=λ(u u_1:Int) (u_2:SV) ↦decide (u≠u_1)=true->(r [q [R,R],R,u_2]).bi ah/\s.bi s/\True;True/\aR (nW p) c (a (nW p))/\(decide (nW p≠c)=false->aR I ae (n 3)/\(decide (I≠ae)=false->(((t.bi t/\v.bi v/\(g 3 0 1).bi (g 3 (zi [] c).length 1)/\(g 4 0 8).bi (g 4 (zi [] k).length 8)/\Z.bi Z/\a6.bi a6/\a7.bi (a 0)/\True)/\s.bi s/\w.bi w/\y.bi y/\(d L [] 3 true).bi (d L (zi [] c) 3 true)/\aN.bi aN/\True)/\c<=c/\c<=I)/\∀(x:Int),let ao:=zi (Δ x.toNat f) k;let aS:=g 4 ao.length 8;let O:=x+k;let ap:=Δ O.toNat f;let aT:=g 4 (zi ap k).length 8;let aq:=a O;let aU:=g 3 (zi ap c).length 1;let aV:=d L (zi ap c) 3 true;let Q:=γc (oI p) ao;let aW:=d ew.bu Q 65 true;let aX:=d ew.bu (γc (oI p) (zi ap k)) 65 true;let aB:=bN f x.toNat c;let aY:=decide (aB=(-1:Int));let aa:=zi (Δ x.toNat f) c;let ar:=aa.length;let aC:=d L aa 3 true;let aZ:=decide (aB=c);let b0:=aa.length+1;let b1:=decide (aB=k);let b2:=Q.length+1;let aD:=g 3 ar 1;let b3:=Q++[bN p.bj x.toNat aj];let bh:=aS.bi aT/\Z.bi Z/\a6.bi a6/\aq.bi aq/\True;let b4:=λ(u:Nat) (u_1:iZ) ↦m O/\((t.bi t/\v.bi v/\(g 3 u 1).bi aU/\bh)/\s.bi s/\w.bi w/\y.bi y/\u_1.bi aV/\aW.bi aX/\True)/\(c<=O/\O<=I)/\(I - O).toNat<(I - x).toNat;c<=x/\x<=I->(decide (x<I)=true->f.length=f.length/\c<=x/\x<(↑f.length:Int)/\f.length=f.length/\x.toNat<f.length/\(aY=true->b4 ar aC)/\(aY=false->(aZ=true->ar=aa.length/\b0*8<=140737488355328/\b0<=1000000000000/\b4 (aa++[x]).length (d L (aa++[x]) 3 true))/\(aZ=false->(b1=true->c<=x/\x<ae/\x.toNat<ai/\ao.length=Q.length/\b2*64<=140737488355328/\b2<=1000000000000/\m O/\((t.bi t/\v.bi v/\aD.bi aU/\(g 4 b3.length 8).bi aT/\Z.bi Z/\a6.bi a6/\aq.bi aq/\True)/\s.bi s/\w.bi w/\y.bi y/\aC.bi aV/\(d ew.bu b3 65 true).bi aX/\True)/\(c<=O/\O<=I)/\(I - O).toNat<(I - x).toNat)/\(b1=false->(r [q [R,R],R,n 4]).bi ah/\s.bi s/\True))))/\(decide (x<I)=false->ao.length=Q.length/\(p.bk.length<=8/\Q.length<=1000/\∀(x:bC),x∈Q->c<=x.TM/\x.TM<ay/\x.bx.ok=true)/\((!fi p Q)=true->0=0/\0=0/\0=0/\(r [q [j a9 [],j az []],j L [],n 14]).bi ah/\s.bi s/\True)/\((!fi p Q)=false->(((t.bi t/\v.bi v/\aD.bi z/\aS.bi A/\B.bi B/\C.bi C/\aD.bi z/\(a (↑ar:Int)).bi V/\a7.bi (a 0)/\True)/\s.bi s/\w.bi w/\y.bi y/\aC.bi F/\aW.bi G/\D.bi D/\aO.bi aO/\(d az [] 249 false).bi ak/\aP.bi (d sF (kM p f 0) 177 false)/\True)/\c<=c/\c<=E)/\∀(x:Int),let au:=bN H x.toNat c;let aE:=(bN p.bj au.toNat aj).value;let av:=kM p f x.toNat;let b5:=av.length+1;let W:=x+k;let b6:=a W;let aF:=nf (κ aE);let b7:=av++[(aF.1,aF.2.1,aF.2.2)];c<=x/\x<=E->(decide (x<E)=true->N=H.length/\c<=x/\x<(↑H.length:Int)/\N=H.length/\x.toNat<H.length/\c<=au/\au<ae/\au.toNat<ai/\(h<=aE/\aE<=l)/\1=1/\x.toNat=av.length/\b5*56<=140737488355328/\b5<=1000000000000/\m W/\((t.bi t/\v.bi v/\z.bi z/\A.bi A/\B.bi B/\C.bi C/\z.bi z/\V.bi V/\b6.bi b6/\True)/\s.bi s/\w.bi w/\y.bi y/\F.bi F/\G.bi G/\D.bi D/\(e (g 8 b7.length 3::af) 217 2 false).bi (e (g 8 W.toNat 3::af) 217 2 false)/\ak.bi ak/\(d a9 b7 177 false).bi (d sF (kM p f W.toNat) 177 false)/\True)/\(c<=W/\W<=E)/\(E - W).toNat<(E - x).toNat)/\(decide (x<E)=false->p.bk.length<=8/\(((t.bi t/\v.bi v/\z.bi z/\A.bi A/\B.bi B/\C.bi C/\J.bi J/\a7.bi (a 0)/\True)/\s.bi s/\w.bi w/\y.bi y/\F.bi F/\G.bi G/\D.bi D/\(e (g 8 x.toNat 3::af) 217 2 false).bi (e (al::af) 217 2 false)/\ak.bi (d sR (lZ p f 0) 249 false)/\(d sF av 177 false).bi M/\True)/\c<=c/\c<=cq p)/\∀(x:Int),let b8:=decide (x<cq p);let T:=e [al,g 7 x.toNat 4] 217 2 false;let ab:=lZ p f x.toNat;let U:=d sR ab 249 false;let ac:=nf (κ (cC p x - bZ p P x));let aG:=[γB ac.1,j a8 ac.2.1,j a8 ac.2.2];let b9:=ab.length+1;let X:=x+k;let ba:=a X;c<=x/\x<=cq p->(b8=true->(p.bk.length<=8/\c<=x/\x<cq p)/\(((t.bi t/\v.bi v/\z.bi z/\A.bi A/\B.bi B/\C.bi C/\(a x).bi (a x)/\(a (cC p x)).bi (a (cC p x - bZ p [] x))/\J.bi J/\(a x).bi (a x)/\A.bi A/\am.bi am/\a7.bi (a 0)/\True)/\s.bi s/\w.bi w/\y.bi y/\F.bi F/\G.bi G/\D.bi D/\T.bi T/\U.bi U/\M.bi M/\True)/\c<=c/\c<=S)/\∀(x_1:Int),let aH:=bN P x_1.toNat aj;let aw:=cC p x - bZ p (Δ x_1.toNat P) x;let bb:=aw - dz p x aH;let ad:=x_1+k;let K:=a x;let bc:=a ad;let aI:=nf (κ aw);c<=x_1/\x_1<=S->(decide (x_1<S)=true->z25=P.length/\c<=x_1/\x_1<(↑P.length:Int)/\z25=P.length/\x_1.toNat<P.length/\(p.bk.length<=8/\c<=x/\x<cq p/\c<=aH.TM/\aH.TM<ay)/\m bb/\m ad/\((t.bi t/\v.bi v/\z.bi z/\A.bi A/\B.bi B/\C.bi C/\K.bi K/\(a bb).bi (a (cC p x - bZ p (Δ ad.toNat P) x))/\J.bi J/\K.bi K/\A.bi A/\am.bi am/\bc.bi bc/\True)/\s.bi s/\w.bi w/\y.bi y/\F.bi F/\G.bi G/\D.bi D/\T.bi T/\U.bi U/\M.bi M/\True)/\(c<=ad/\ad<=S)/\(S - ad).toNat<(S - x_1).toNat)/\(decide (x_1<S)=false->(h<=aw/\aw<=l)/\(((t.bi t/\v.bi v/\z.bi z/\A.bi A/\B.bi B/\C.bi C/\K.bi K/\an.bi an/\J.bi J/\K.bi K/\z.bi z/\V.bi V/\a7.bi (a 0)/\True)/\s.bi s/\w.bi w/\y.bi y/\F.bi F/\G.bi G/\D.bi D/\T.bi T/\U.bi U/\M.bi M/\(e [aQ,γB aI.1,j a8 aI.2.1,j a8 aI.2.2] 249 4 false).bi (e (aQ::aG) 249 4 false)/\aP.bi (d sF (l8 p f x 0) 177 false)/\True)/\c<=c/\c<=E)/\∀(x_2:Int),let ax:=bN H x_2.toNat c;let aJ:=bN p.bj ax.toNat aj;let aK:=dz p x aJ;let ag:=l8 p f x x_2.toNat;let bd:=ag.length+1;let Y:=x_2+k;let be:=a Y;let aL:=nf (κ aK);let bf:=ag++[(aL.1,aL.2.1,aL.2.2)];let bg:=ab++[(ag,ac.1,ac.2.1,ac.2.2)];c<=x_2/\x_2<=E->(decide (x_2<E)=true->N=H.length/\c<=x_2/\x_2<(↑H.length:Int)/\N=H.length/\x_2.toNat<H.length/\c<=ax/\ax<ae/\ax.toNat<ai/\(p.bk.length<=8/\c<=x/\x<cq p/\c<=aJ.TM/\aJ.TM<ay)/\(h<=aK/\aK<=l)/\1=1/\x_2.toNat=ag.length/\bd*56<=140737488355328/\bd<=1000000000000/\m Y/\((t.bi t/\v.bi v/\z.bi z/\A.bi A/\B.bi B/\C.bi C/\K.bi K/\an.bi an/\J.bi J/\K.bi K/\z.bi z/\V.bi V/\be.bi be/\True)/\s.bi s/\w.bi w/\y.bi y/\F.bi F/\G.bi G/\D.bi D/\T.bi T/\U.bi U/\M.bi M/\(e (g 10 bf.length 3::aG) 249 4 false).bi (e (g 10 Y.toNat 3::aG) 249 4 false)/\(d a9 bf 177 false).bi (d sF (l8 p f x Y.toNat) 177 false)/\True)/\(c<=Y/\Y<=E)/\(E - Y).toNat<(E - x_2).toNat)/\(decide (x_2<E)=false->x_2.toNat=ag.length/\1=1/\x.toNat=ab.length/\b9*80<=140737488355328/\b9<=1000000000000/\m X/\((t.bi t/\v.bi v/\z.bi z/\A.bi A/\B.bi B/\C.bi C/\J.bi J/\ba.bi ba/\True)/\s.bi s/\w.bi w/\y.bi y/\F.bi F/\G.bi G/\D.bi D/\(e [al,g 7 bg.length 4] 217 2 false).bi (e [al,g 7 X.toNat 4] 217 2 false)/\(d az bg 249 false).bi (d sR (lZ p f X.toNat) 249 false)/\M.bi M/\True)/\(c<=X/\X<=cq p)/\(cq p - X).toNat<(cq p - x).toNat)))/\(b8=false->N=aA.length/\x.toNat=ab.length/\N=H.length/\(r [q [j sF aA,j sR ab],j L H,a7]).bi ah/\s.bi s/\True))))))) (by kernel_rfl) ?_;simp only[vcs];obtain⟨g1,g2,g3,g4,g5⟩:=cL hc;have hoi:∀k:Nat,∀o:Int,o=k->(bN p.bj k ew.bu.bw)=oI p o:=λk o h=>by subst h;rfl
 have hw2:∀{a b:Nat},a=b->(γ1 3 a 1).bi (γ1 3 b 1):=by rintro _ _ rfl;rfl
 have hw3:∀{a b:Nat},a=b->(γ1 4 a 8).bi (γ1 4 b 8):=by rintro _ _ rfl;rfl
 have hrI:∀{x y:List Int},x=y->(iZ.row (.i .i64) x 3 true).bi (iZ.row (.i .i64) y 3 true):=by rintro _ _ rfl;rfl
 have hrO:∀{x y:List bC},x=y->(iZ.row .bu x 65 true).bi (iZ.row .bu y 65 true):=by rintro _ _ rfl;rfl
 refine⟨λh=>absurd hc h,λ_=>⟨λh=>absurd (by rw[hl]) h,λ_=>⟨⟨⟨⟨hw2 rfl,hw3 rfl⟩,hrI rfl⟩,by omega,by omega⟩,?_⟩⟩⟩;rintro i ⟨i0,i1⟩;have htl:(f.take i.toNat).length<=160:=by rw[γz];omega
 have hd0:=@ri (f.take i.toNat) 0;have hd1:=@ri (f.take i.toNat) 1;have hm1:(γc (oI p) (zi (f.take i.toNat) 1)).length=(zi (f.take i.toNat) 1).length:=Ξ _;refine⟨λhi=>?_,λhi=>?_⟩
 ·have hs0:=@wQ f 0 i i0 hi;have hs1:=@wQ f 1 i i0 hi;have aZb: -1<=bN f i.toNat 0/\bN f i.toNat 0<=1:=by
   have:=ψ.1 hr _ (cA (d:=0) (show i.toNat<f.length by omega));simpa using this
  refine⟨i0,hi,by omega,λh1=>?_,λh1=>⟨λh2=>?_,λh2=>⟨λh3=>?_,λh3=>by omega⟩⟩⟩
  ·rw[if_neg (by omega),γ0] at hs0 hs1;rw[hs0,hs1];refine⟨?_,⟨⟨hw2 rfl,hw3 rfl⟩,hrI rfl,hrO rfl⟩,?_,?_⟩<;>omega
  ·rw[if_pos (by omega)] at hs0;rw[if_neg (by omega),γ0] at hs1;rw[hs0,hs1];refine⟨?_,?_,?_,⟨⟨hw2 rfl,hw3 rfl⟩,hrI rfl,hrO rfl⟩,?_,?_⟩<;>omega
  ·rw[if_neg (by omega),γ0] at hs0;rw[if_pos (by omega)] at hs1;rw[hs0,hs1,hoi i.toNat i (by omega),hm1];have e:γc (oI p) (zi (f.take i.toNat) 1)++[oI p i]=γc (oI p) (zi (f.take i.toNat) 1++[i]):=by rw[γb];rfl
   rw[e,Ξ];refine⟨i0,?_,?_,rfl,?_,?_,?_,⟨⟨hw2 rfl,hw3 rfl⟩,hrI rfl,hrO rfl⟩,?_,?_⟩<;>omega
 ·have htk:f.take i.toNat=f:=by rw[show i.toNat=f.length by omega,φ]
  rw[htk] at hd0 hd1 hm1 ⊢;have hdl:∀d,(zi f d).length<=160:=λd=>by have:=@ri f d;omega
  refine⟨hm1.symm,⟨g1,by omega,λx hx=>?_⟩,λhb=>?_,λhb=>?_⟩
  ·obtain⟨k,hk,rfl⟩:=Γ.1 hx;have h1:=(jO.1 hk).1;have:=js hc (i:=k) (by omega);exact⟨this.1,this.2.1,this.2.2.1⟩
  ·have hb2:fZ p f=false:=hb;unfold lA;simp only[hb2];exact⟨rfl,rfl,rfl⟩
  ·have hb2:fZ p f=true:=hb;have hG:lA p f=((gB (iW p f)).1,((gB (iW p f)).2,zi f 0)):=by unfold lA;rw[if_pos hb2]
   simp only[hb2,if_true,hG];have hfx:dW p f:=⟨hc,hl,hb⟩;have hrS:∀{x y:List NH},x=y->(iZ.row sF x 177 false).bi (iZ.row sF y 177 false):=by rintro _ _ rfl;rfl
   have hrR:∀{x y:List (List NH×NH)},x=y->(iZ.row sR x 249 false).bi (iZ.row sR y 249 false):=by rintro _ _ rfl;rfl
   have hc5:∀{a b c d:Nat},a=b->c=d->(iZ.cells [.ow 8 a 3,.ow 7 c 4] 217 2 false).bi (iZ.cells [.ow 8 b 3,.ow 7 d 4] 217 2 false):=by rintro _ _ _ _ rfl rfl;rfl
   have hc8:∀{a b:Nat} {q q':Rat},a=b->q=q'->(iZ.cells [.ow 10 a 3,.sb (nf q).1,.row (.i .u32) (nf q).2.1,.row (.i .u32) (nf q).2.2] 249 4 false).bi (iZ.cells [.ow 10 b 3,.sb (nf q').1,.row (.i .u32) (nf q').2.1,.row (.i .u32) (nf q').2.2] 249 4 false):=by rintro _ _ _ _ rfl rfl;rfl
   have hn0:=hdl 0;have hn1:=hdl 1;have hfree:∀j:Int,0<=j->j<(zi f 0).length->(0<=bN (zi f 0) j.toNat 0/\bN (zi f 0) j.toNat 0<p.bj.length):=λj h0 h1=>by
    have:=(jO.1 (cA (d:=0) (show j.toNat<(zi f 0).length by omega))).1;omega
   refine⟨⟨⟨⟨hw2 rfl,hw3 rfl,hw2 rfl,trivial⟩,hrI rfl,hrO rfl,hrS rfl⟩,by omega,by omega⟩,?_⟩;rintro j ⟨j0,j1⟩;have hgl:=@Dv p f j.toNat (by omega);refine⟨λhj=>?_,λhj=>?_⟩
   ·have hk:=hfree j j0 hj;have ho:=js hc hk;have hs:=@TZ p f j j0 hj;have aVK:=@Dv p f (j+1).toNat (by omega);rw[hoi _ (bN (zi f 0) j.toNat 0) (by omega)];simp only[iO];have e:kM p f j.toNat++[nf (κ (oI p (bN (zi f 0) j.toNat 0)).value)]=kM p f (j+1).toNat:=hs.symm;rw[e];refine⟨j0,hj,?_,hk.1,hk.2,?_,?_,?_,?_,?_,?_,⟨hc5 aVK rfl,hrS rfl⟩,?_,?_⟩<;>omega
   ·rw[show j.toNat=(zi f 0).length by omega];have hnr:cq p=p.bk.length+12:=rfl;refine⟨g1,⟨⟨hc5 rfl rfl,hrR rfl,hrS rfl⟩,by omega,by omega⟩,?_⟩;rintro r ⟨r0,r1⟩;have hrl:=@Kl p f r.toNat;refine⟨λhr2=>⟨⟨g1,r0,hr2⟩,⟨by simp[bZ],by omega,by omega⟩,?_⟩,λhr2=>?_⟩
    ·rintro k ⟨k0,k1⟩;have hok:∀x∈(γc (oI p) (zi f 1)).take k.toNat,x.bx.ok=true:=λx hx=>(zQ hfx x (γn hx)).2.2.1;have hsb:=@qv p r ((γc (oI p) (zi f 1)).take k.toNat) hok;have aVL:((γc (oI p) (zi f 1)).take k.toNat).length<=160:=by rw[γz];omega
     have hbb:=@yd p hc r;refine⟨λhk=>?_,λhk=>?_⟩
     ·have hx:=zQ hfx _ (cA (d:=ew.bu.bw) (show k.toNat<(γc (oI p) (zi f 1)).length by omega));have hst:=@Fo p r (γc (oI p) (zi f 1)) k ew.bu.bw k0 (by omega);have hcb:=@nO p r _ hx.2.2.1;refine⟨?_,k0,?_,?_,?_,⟨g1,r0,hr2,hx.1,hx.2.1⟩,?_,?_,?_,?_,?_⟩<;>omega
     ·have e:(γc (oI p) (zi f 1)).take k.toNat=γc (oI p) (zi f 1):=List.take_of_length_le (by omega);rw[e] at hsb aVL ⊢;refine⟨by omega,⟨⟨hc8 rfl rfl,hrS rfl⟩,by omega,by omega⟩,?_⟩;rintro l ⟨l0,l1⟩;have hcl:=@Km p f r l.toNat (by omega);refine⟨λhl2=>?_,λhl2=>?_⟩
      ·have hk:=hfree l l0 hl2;have ho:=js hc hk;have hs:=@TY p f r l l0 hl2;have aVM:=@Km p f r (l+1).toNat (by omega);have hcb:=@nO p r _ ho.2.2.1;rw[hoi _ (bN (zi f 0) l.toNat 0) (by omega)];simp only[iO];have e:l8 p f r l.toNat++[nf (κ (dz p r (oI p (bN (zi f 0) l.toNat 0))))]=l8 p f r (l+1).toNat:=hs.symm;rw[e];refine⟨l0,hl2,?_,hk.1,hk.2,?_,⟨g1,r0,hr2,ho.1,ho.2.1⟩,?_,?_,?_,?_,?_,⟨hc8 aVM rfl,hrS rfl⟩,?_,?_⟩<;>omega
      ·rw[show l.toNat=(zi f 0).length by omega] at hcl ⊢;have hs:=@Uu p f r r0;have hrl2:=@Kl p f (r+1).toNat;simp only[iO];have e:lZ p f r.toNat++[(l8 p f r (zi f 0).length,nf (κ (cC p r - bZ p (γc (oI p) (zi f 1)) r)))]=lZ p f (r+1).toNat:=hs.symm;rw[e];refine⟨hcl.symm,hrl.symm,?_,?_,?_,⟨hc5 rfl hrl2,hrR rfl⟩,?_,?_⟩<;>omega
    ·have e:r.toNat=mF p:=by
      show r.toNat=p.bk.length+12;omega
     rw[e] at hrl ⊢;rw[Ko,Kn];refine⟨?_,hrl.symm.trans (by rw[Kn]),rfl,trivial,trivial⟩;rw[<-Ko];exact(Dv (π _)).symm
noncomputable def DU:cU:=DX 100 (λp f=>f.length<=1000000000000) λp f=> .Gz [Uo p f,.si .i64 (hJ p f)]
noncomputable def KE (p:cj) (f:List Int) (x:List NH):TP:=
 [.row (.i .i64) f 3 true,.cells p.ss 27 20 false,.cells [.bl false,.bl false,.sc (.slice none 0 0),.sc (.slice none 0 0),.sc (.slice none 0 0),.sc (.slice none 0 0)] 179 6 false,.cells [.row sF (lA p f).1,.row sR (lA p f).2.1] 217 2 false,
  .cells [.si .i64 1,.sb (nf (cE p f).value).1,.row (.i .u32) (nf (cE p f).value).2.1,.row (.i .u32) (nf (cE p f).value).2.2,.row sF (fL (fk (cE p f) (nF f) (mF p))),.row sF (fL (gv p f)),.row sF []] 221 7 false,.row sF x 177 true]
noncomputable def Ti (p:cj) (f:List Int):Nat->bJ
 |12=> .inv Int (λi=>⟨[(1,.ow 0 f.length 1),(2,.ptr 1 0 20),(4,.ptr 2 0 6),(8,.row (.i .i64) (zi f 0)),(10,.ptr 4 0 7),(11,.ow 5 f.length 3),(45,.ow 0 f.length 1),(46,.si .i64 f.length),(47,.si .i64 i)],KE p f (dU (fL (jf p f 0)) i.toNat (false,([],[])))⟩)
   (λs=>iS s 47) (λi=>0<=i/\i<=f.length) (λi=>(f.length - i).toNat) λ_ _=> .look
 |19=> .inv Int (λk=>⟨[(1,.ow 0 f.length 1),(2,.ptr 1 0 20),(4,.ptr 2 0 6),(10,.ptr 4 0 7),(11,.ow 5 f.length 3),(63,.row (.i .i64) (zi f 0)),(64,.si .i64 (zi f 0).length),(65,.si .i64 k)],KE p f (fL (jf p f k.toNat))⟩)
   (λs=>iS s 65) (λk=>0<=k/\k<=(zi f 0).length) (λk=>((zi f 0).length - k).toNat) λ_ _=> .look
 |_=> .look
theorem y5:dB Tryz.prog DU:=by
 refine wL (L:=[zI,Dw,mj,sH]) (W:=[DV,DW]) DU (λa=>Ti a.1 a.2.2) (by simpa using⟨y4,yZ⟩) (by simpa using⟨yO,Ip,nG,o9⟩) ?_;rintro⟨p,n,f⟩ ⟨hn,hl:f.length<=1000000000000⟩;simp only at hn;subst hn;refine NI (let c:=γj .i64;let d:=(0:Int);let e:=γa;let g:=iZ.row;let h:=(-9223372036854775808:Int);let j:=(9223372036854775807:Int);let k:=iZ.cells;let l:=(1:Int);let m:=γB;let n:=SV.Gz;let o:=γV;let q:=γN;let Q:=δj false;let v:=ew.i .u32;let a6:=ew.b.pair (v.Ap.pair v.Ap);let ah:=q [Q,Q,e v [],e v [],e a6 [],e a6 []];let ai:=[c (hJ p f)];let a7:=n (q [m (i_ p f),m (jr p f).1,e v (jr p f).2.1,e v (jr p f).2.2,e sF (oW p f),e sF (jq p f)]::ai);let R:=ew.i .i64;let t:=g R f 3 true;let aj:=decide (hJ p f≠d);let ak:=decide ((if fZ p f=true then d else(14:Int))≠d);let S:=γC .i64 0;let T:=(lA p f).1;let a8:=(lA p f).2.1;let a9:=c 0;let s:=(↑f.length:Int);let w:=γ1 0 f.length 1;let y:=o 1 0 20;let z:=o 2 0 6;let J:=zi f d;let G:=e R J;let A:=o 4 0 7;let H:=γ1 5 f.length 3;let U:=c s;let B:=k [c p.bm.a0,c p.bm.a1,c p.bm.a2,c p.bm.a3,c p.bm.a4,c p.bm.a5,c p.bs.a0,c p.bs.a1,c p.bs.a2,c p.bs.a3,c p.bs.a4,c p.bs.a5,c p.bt.a0,c p.bt.a1,c p.bt.a2,c p.bt.a3,c p.bt.a4,c p.bt.a5,e R p.bk,e ew.bu p.bj] 27 20 false;let V:=SV.sc (Value.slice none 0 0);let C:=k [Q,Q,V,V,V,V] 179 6 false;let D:=k [e sF T,e sR a8] 217 2 false;let al:=c 1;let aa:=γc (λ(r:List NH×NH) ↦(vL r.1,TL r.2)) a8;let P:=lG (vL T,aa);let z31:Nat:=(vL T).length;let K:=nf (cE p f).value;let W:=fL (fk (cE p f) (nF f) (mF p));let am:=e sF (fL (gv p f));let I:=k [al,m K.1,e v K.2.1,e v K.2.2,e sF W,am,e sF []] 221 7 false;let X:=(false,[],[]);let Y:=fL (jf p f 0);let ab:=nf (κ d);let ac:=nf (κ l);let E:=(↑J.length:Int);let ad:=c E;let ae:=nf (κ (fN p f));let an:=(ae.1,ae.2.1,ae.2.2);let ao:=(K.1,K.2.1,K.2.2);let af:=nf (TL an+TL ao);let ap:=λ(u:Bool) (u_1:SV) ↦u=true->0=0/\0=0/\0=0/\0=0/\(n [ah,u_1]).bi a7/\t.bi t/\True;f.length=f.length/\f.length<=1000000000000/\(aj=true->0=0/\0=0/\0=0/\0=0/\(n (ah::ai)).bi a7/\t.bi t/\True)/\(aj=false->(f.length=f.length/\(nW p=d/\f.length=p.bj.length)/\iN f=true)/\ap ak S/\(ak=false->(∃(a:Lp),(T,a8)=gB a/\wR a)/\ap false a9/\(false=false->d<=s/\s<=s/\s*(56:Int)<=(140737488355328:Int)/\s<=(1000000000000:Int)/\(((w.bi w/\y.bi y/\z.bi z/\(e R (lA p f).2.2).bi G/\A.bi A/\(γ1 5 s.toNat 3).bi H/\w.bi w/\U.bi U/\S.bi a9/\True)/\t.bi t/\B.bi B/\C.bi C/\D.bi D/\(k [al,m (nf P.value).1,e v (nf P.value).2.1,e v (nf P.value).2.2,e sF (fL (fk P z31 aa.length)),e sF (fL (ix P z31 aa.length z31)),e sF []] 221 7 false).bi I/\(g a6 (δ s.toNat X) 177 true).bi (g sF (dU Y 0 X) 177 true)/\True)/\d<=d/\d<=s)/\∀(x:Int),let L:=x+l;let aq:=c L;let M:=dU Y x.toNat X;let ar:=decide (bN f x.toNat d=l);let N:=M.set x.toNat (ab.1,ab.2.1,ab.2.2);let au:=λ(u:List (Bool×List Int×List Int)) ↦VL .i64 L/\((w.bi w/\y.bi y/\z.bi z/\G.bi G/\A.bi A/\H.bi H/\w.bi w/\U.bi U/\aq.bi aq/\True)/\t.bi t/\B.bi B/\C.bi C/\D.bi D/\I.bi I/\(g sF u 177 true).bi (g sF (dU Y L.toNat X) 177 true)/\True)/\(d<=L/\L<=s)/\(s - L).toNat<(s - x).toNat;d<=x/\x<=s->(decide (x<s)=true->f.length=f.length/\d<=x/\x<(↑f.length:Int)/\f.length=f.length/\x.toNat<f.length/\(h<=d/\d<=j)/\f.length=M.length/\d<=x/\x<(↑M.length:Int)/\f.length=M.length/\x.toNat<M.length/\(ar=true->(h<=l/\l<=j)/\f.length=N.length/\d<=x/\x<(↑N.length:Int)/\f.length=N.length/\x.toNat<N.length/\au (N.set x.toNat (ac.1,ac.2.1,ac.2.2)))/\(ar=false->au N))/\(decide (x<s)=false->(((w.bi w/\y.bi y/\z.bi z/\A.bi A/\H.bi H/\G.bi G/\(c (↑J.length:Int)).bi ad/\S.bi a9/\True)/\t.bi t/\B.bi B/\C.bi C/\D.bi D/\I.bi I/\(g sF M 177 true).bi (g sF Y 177 true)/\True)/\d<=d/\d<=E)/\∀(x:Int),let F:=fL (jf p f x.toNat);let Z:=bN J x.toNat d;let O:=x+l;let av:=c O;let ag:=bN W x.toNat sF.bw;d<=x/\x<=E->(decide (x<E)=true->d<=x/\x<(↑J.length:Int)/\x.toNat<J.length/\d<=x/\x<(↑W.length:Int)/\x.toNat<W.length/\f.length=F.length/\d<=Z/\Z<(↑F.length:Int)/\f.length=F.length/\Z.toNat<F.length/\VL .i64 O/\((w.bi w/\y.bi y/\z.bi z/\A.bi A/\H.bi H/\G.bi G/\ad.bi ad/\av.bi av/\True)/\t.bi t/\B.bi B/\C.bi C/\D.bi D/\I.bi I/\(g sF (F.set Z.toNat (ag.1,ag.2.1,ag.2.2)) 177 true).bi (g sF (fL (jf p f O.toNat)) 177 true)/\True)/\(d<=O/\O<=E)/\(E - O).toNat<(E - x).toNat)/\(decide (x<E)=false->(f.length=f.length/\nW p=d/\f.length=p.bj.length)/\(bL an/\bL ao)/\f.length=F.length/\f.length=F.length/\(n [q [δj true,m af.1,e v af.2.1,e v af.2.2,am,e sF F],S]).bi a7/\t.bi t/\True)))))) (by kernel_rfl) ?_;simp only[vcs];have hz:i_ p f=false->(γN [δj false,δj false,γa (ew.i IntKind.i64) [],γa (ew.i IntKind.i64) [],γa (ew.i IntKind.i64) [],γa (ew.i IntKind.i64) []]).bi
   (γN [γB (i_ p f),γB (jr p f).1,γa (ew.i IntKind.u32) (jr p f).2.1,γa (ew.i IntKind.u32) (jr p f).2.2,γa sF (oW p f),γa sF (jq p f)]):=λh=>by
  unfold jr oW jq;simp only[h];rfl
 refine⟨hl,λh=>hz (by unfold i_;rw[decide_eq_false h];rfl),λh=>?_⟩;have hx0:hJ p f=0:=γe.1 h;have hcl:nW p=0/\f.length=p.bj.length/\iN f=true:=by
  unfold hJ at hx0;split at hx0;·rename_i h1;exact absurd hx0 h1
  ·rename_i h1;split at hx0;·cases hx0
   ·rename_i h2;split at hx0;·rename_i h3;exact⟨γe.1 h1,γe.1 h2,h3⟩
    ·cases hx0
 obtain⟨hc,hln,hr⟩:=hcl;refine⟨⟨⟨hc,hln⟩,hr⟩,λh1=>⟨hz ?_,hx0.symm⟩,λh1=>?_⟩
 ·have hb:fZ p f=false:=by
   cases hb:fZ p f with
   |false=>rfl;|true=>rw[hb] at h1;exact absurd rfl h1
  unfold i_;rw[hb,Bool.and_false]
 ·have hb:fZ p f=true:=by
   cases hb:fZ p f with
   |true=>rfl;|false=>rw[hb] at h1;exact absurd (by simp) h1
  have hfx:dW p f:=⟨hc,hln,hb⟩;have hG:lA p f=((gB (iW p f)).1,((gB (iW p f)).2,zi f 0)):=by unfold lA;rw[if_pos hb]
  have hok:i_ p f=true:=by unfold i_;rw[hb,decide_eq_true hx0];rfl
  have h0:(κ 0:Rat)=0:=rfl;have h1':(κ 1:Rat)=1:=rfl;simp only[hG,Ks,Kr,h0,h1',iO];have e1:(iW p f).1.length=nF f:=by
   show((zi f 0).map _).length=_;rw[Ξ]
  have e2:(iW p f).2.length=mF p:=by
   show((cz (mF p)).map _).length=_;rw[Ξ,gQ]
  have aEm:((iW p f).1,(iW p f).2)=iW p f:=rfl;simp only[aEm,Us,e1,e2];have hrT:∀{x y:List NH},x=y->(iZ.row sF x 177 true).bi (iZ.row sF y 177 true):=by rintro _ _ rfl;rfl
  have hs0:=@uJ p f 0;have hf0:=@ez (jf p f 0);have hpt:=@zM (cE p f) (nF f) (mF p);have hfp:=@ez (fk (cE p f) (nF f) (mF p));have hcast:∀k:Nat,((k:Nat):Int).toNat=k:=λk=>γk k;have hnf:nF f=(zi f 0).length:=rfl;have hdl0:=@ri f 0;refine⟨⟨iW p f,rfl,Ut hfx⟩,λh=>(by cases h),λ_=>⟨by omega,by omega,by omega,by omega,⟨⟨⟨trivial,by rw[hcast];rfl⟩,rfl,hrT (by rw[vS,hf0,hs0,hcast])⟩,by omega,by omega⟩,?_⟩⟩;rintro i ⟨i0,i1⟩;have hru:=@vT (fL (jf p f 0)) i.toNat (false,([],[])) (by omega);refine⟨λhi=>?_,λhi=>?_⟩
  ·have hv:bN (fL (jf p f 0)) i.toNat (false,([],[]))=nf (if bN f i.toNat 0=1 then 1 else 0):=by rw[iD (by omega),Up (by omega)]
   have hset:∀x:NH,x=nf (if bN f i.toNat 0=1 then 1 else 0)->(dU (fL (jf p f 0)) i.toNat (false,([],[]))).set i.toNat x=dU (fL (jf p f 0)) (i+1).toNat (false,([],[])):=λx hx=>by
    have:=uM (d:=fL (jf p f 0)) (j:=i.toNat) (z:=(false,([],[]))) (x:=x) (by omega) (hx.trans hv.symm);rw[show(i+1).toNat=i.toNat+1 by omega];exact this
   rw[Ω];refine⟨i0,hi,by omega,by omega,by omega,i0,by omega,by omega,by omega,λh1=>⟨by omega,by omega,i0,by omega,by omega,by omega,by omega,hrT ?_,by omega,by omega⟩,λh1=>⟨by omega,hrT ?_,by omega,by omega⟩⟩
   ·rw[List.set_set];exact hset _ (by rw[if_pos h1])
   ·exact hset _ (by rw[if_neg h1])
  ·have hi2:i.toNat=(fL (jf p f 0)).length:=by omega
   rw[hi2,vR];refine⟨⟨hrT rfl,by omega,by omega⟩,?_⟩;rintro k ⟨k0,k1⟩;have hsk:=@uJ p f k.toNat;have hfk:=@ez (jf p f k.toNat);refine⟨λhk=>?_,λhk=>?_⟩
   ·have hm:=(jO.1 (cA (d:=0) (show k.toNat<(zi f 0).length by omega))).1;have hv:bN (fL (fk (cE p f) (nF f) (mF p))) k.toNat sF.bw=nf (bN (fk (cE p f) (nF f) (mF p)) k.toNat 0):=iD (by omega);have hst:=@Uq p f k.toNat (by omega);rw[hv];refine⟨k0,hk,by omega,k0,by omega,by omega,by omega,hm.1,by omega,by omega,by omega,by omega,hrT ?_,by omega,by omega⟩;rw[uL,show(k+1).toNat=k.toNat+1 by omega,hst]
   ·have hk2:k.toNat=nF f:=by omega
    rw[hk2] at hsk hfk ⊢;have hab:=@wP p hc f f.length hln;rw[φ] at hab;have hsa:Sz 1 ((fN p f:Int):Rat):=by
     unfold Sz;rw[Rat.num_intCast,Rat.den_intCast];omega
    have hsv:Sz 1000000 (cE p f).value:=by
     have:=(zP hfx).sw (mO hfx).1;exact this.2.2.2
    refine⟨⟨hc,hln⟩,⟨dc hsa (by omega),dc hsv (by omega)⟩,by omega,by omega,?_,hx0.symm⟩;unfold jr oW jq;simp only[hok,if_true,dJ];rfl
def DT:cU:=BZ 104 (List NH) (.one (cO sF)) (λx a=>eh x/\mW a/\a.length=x.p.bj.length) (λx a=>kp.put ⟨dN (vL a),bF ((dN (vL a)).map (oI x.p))⟩) λx _=>x
def jG (x:List Rat) (k:Nat):List Int:=(cz k).filter λi=>decide (0<bN x i.toNat 0)
def ki (p:cj) (l:List Int):Int:=bF (l.map (oI p))
def Th (x:cW) (a:List NH):Nat->bJ
 |3=>match x.en with
  |none=> .inv Int (λi=>⟨[(0,.ptr 0 0 28),(4,.ptr 3 0 2),(5,.ptr 5 0 2),(10,.row sF a),(11,.si .i64 a.length),(12,.si .i64 i)],
    x.uG++[.cells [.sc (.slice none 0 0),.si .i64 0] 40 2 false,.row (.i .i64) (jG (vL a) i.toNat) 3 true,.cells [.ow 4 (jG (vL a) i.toNat).length 1,.si .i64 (ki x.p (jG (vL a) i.toNat))] 40 2 false]⟩)
    (λs=>iS s 12) (λi=>0<=i/\i<=a.length) (λi=>(a.length - i).toNat) λ_ _=> .look
  |some m=> .inv Int (λi=>⟨[(0,.ptr 0 0 28),(4,.ptr 4 0 2),(5,.ptr 6 0 2),(10,.row sF a),(11,.si .i64 a.length),(12,.si .i64 i)],
    x.uF m++[.cells [.sc (.slice none 0 0),.si .i64 0] 40 2 false,.row (.i .i64) (jG (vL a) i.toNat) 3 true,.cells [.ow 5 (jG (vL a) i.toNat).length 1,.si .i64 (ki x.p (jG (vL a) i.toNat))] 40 2 false]⟩)
    (λs=>iS s 12) (λi=>0<=i/\i<=a.length) (λi=>(a.length - i).toNat) λ_ _=> .look
 |_=> .look
theorem KD {x:List Rat} {i:Int} (i0:0<=i):jG x (i+1).toNat=if 0<bN x i.toNat 0 then jG x i.toNat++[i] else jG x i.toNat:=by
 unfold jG;rw[show(i+1).toNat=i.toNat+1 by omega,qm,List.filter_append,εC i0];grind
theorem KC {p:cj} {x:List Rat} {k:Nat} (a:nW p=0) (g:k<=p.bj.length):(jG x k).length<=160/\0<=ki p (jG x k)/\ki p (jG x k)<=160000000:=by
 have e:(jG x k).length<=k:=by
  have:=δf (λi:Int=>decide (0<bN x i.toNat 0)) (cz k);rw[gQ] at this;exact this
 have c:=ot (cL a) (l:=(jG x k).map (oI p)) λy b=>by
  obtain⟨i,d,rfl⟩:=Γ.1 b;have:=jh.1 (Ψ.1 d).1;exact cA (by omega)
 rw[Ξ] at c;have f:=(cL a).2.1;grind[ki]
theorem K9 {p:cj} {l:List Int} {i:Int}:ki p (l++[i])=ki p l+(oI p i).value:=by
 simp_all[ki,mv,bF]
theorem H0:dB Tryz.prog DT:=by
 refine wL (L:=[p_]) (W:=[]) DT (λa=>Th a.1 a.2) (by simp) (by simpa using sA) ?_;rintro⟨⟨p,ch,val,bp,en,k1,k2,bz,err,bq,fx⟩,a⟩ ⟨hok,⟨l,hx,hla,hz⟩,hl⟩;simp only at hok hx hla hl;subst hx;have hc:nW p=0:=hok.f.c;have h160:=(cL hc).2.1;have hll:=@ez l;have hl:(fL l).length=p.bj.length:=hl;cases en with
 |none=>
  refine NI (let a:=γj .i64;let b:=iZ.cells;let c:=iZ.row;let d:=(0:Int);let e:=γa;let f:=γ1;let g:=γV;let r:=g 0 0 28;let s:=g 3 0 2;let t:=g 5 0 2;let C:=(↑(fL l).length:Int);let k:=(↑(fL l).length:Int);let v:=a k;let w:=γC .i64 0;let D:=a 0;let j:=ew.i .i64;let m:=b [a p.bm.a0,a p.bm.a1,a p.bm.a2,a p.bm.a3,a p.bm.a4,a p.bm.a5,a p.bs.a0,a p.bs.a1,a p.bs.a2,a p.bs.a3,a p.bs.a4,a p.bs.a5,a p.bt.a0,a p.bt.a1,a p.bt.a2,a p.bt.a3,a p.bt.a4,a p.bt.a5,e j p.bk,e ew.bu p.bj,e j ch,a val,γB bp,SV.fn (Fn.func 70) [] [],f 1 k1 5,f 2 k2 1,a bz,a err] 126 28 false;let n:=c Ao bq 108 true;let o:=c j fx 3 true;let E:=SV.sc (Value.slice none 0 0);let y:=b [E,D] 40 2 false;let z:=jG (vL (fL l)) 0;(((r.bi r/\s.bi s/\t.bi t/\(e sF (fL l)).bi (e sF (fL l))/\(a C).bi v/\w.bi D/\True)/\m.bi m/\n.bi n/\o.bi o/\(b [E,w] 40 2 false).bi y/\(c j [] 3 true).bi (c j z 3 true)/\(b [f 4 0 1,w] 40 2 false).bi (b [f 4 z.length 1,a (ki p z)] 40 2 false)/\True)/\d<=d/\d<=k)/\∀(x:Int),let q:=x+(1:Int);let F:=a q;let A:=jG (vL (fL l)) q.toNat;let B:=bN (fL l) x.toNat sF.bw;let G:=(B.1,B.2.1,B.2.2);let h:=jG (vL (fL l)) x.toNat;let H:=h.length+1;let I:=ki p h+(bN p.bj x.toNat ew.bu.bw).value;let J:=λ(u:iZ) (u_1:Nat) (u_2:Int) ↦VL .i64 q/\((r.bi r/\s.bi s/\t.bi t/\(e sF (fL l)).bi (e sF (fL l))/\v.bi v/\F.bi F/\True)/\m.bi m/\n.bi n/\o.bi o/\y.bi y/\u.bi (c j A 3 true)/\(b [f 4 u_1 1,a u_2] 40 2 false).bi (b [f 4 A.length 1,a (ki p A)] 40 2 false)/\True)/\(d<=q/\q<=k)/\(k - q).toNat<(k - x).toNat;let K:=λ(u:Bool) ↦decide (d<iP (TL G))=u;d<=x/\x<=k->(decide (x<k)=true->d<=x/\x<C/\x.toNat<(fL l).length/\bL G/\(K true->1=1/\h.length=h.length/\H*8<=140737488355328/\H<=1000000000000/\d<=x/\x<(↑p.bj.length:Int)/\x.toNat<p.bj.length/\VL .i64 I/\J (c j (h++[x]) 3 true) (h++[x]).length I)/\(K false->J (c j h 3 true) h.length (ki p h)))/\(decide (x<k)=false->h.length=h.length/\h.length=h.length/\h.length=h.length/\(γN [e j h,a (ki p h)]).bi (γN [e j (dN (vL (fL l))),a (bF (γc (oI p) (dN (vL (fL l)))))])/\m.bi m/\n.bi n/\o.bi o/\True)) (by kernel_rfl) ?_;simp only[vcs];have hrI:∀{x y:List Int},x=y->(iZ.row (.i .i64) x 3 true).bi (iZ.row (.i .i64) y 3 true):=by rintro _ _ rfl;rfl
  have hcI:∀{x y:List Int} {v w:Int},x=y->v=w->(iZ.cells [.ow 4 x.length 1,.si .i64 v] 40 2 false).bi (iZ.cells [.ow 4 y.length 1,.si .i64 w] 40 2 false):=by rintro _ _ _ _ rfl rfl;rfl
  refine⟨⟨⟨rfl,hrI rfl,rfl⟩,by omega,by omega⟩,?_⟩;rintro i ⟨i0,i1⟩;have hb:=@KC p (vL (fL l)) i.toNat hc (by omega);refine⟨λhi=>?_,λhi=>?_⟩
  ·have hv:bN (fL l) i.toNat sF.bw=nf (bN l i.toNat 0):=iD (by omega);have hq:=hz _ (cA (d:=0) (show i.toNat<l.length by omega));have ho:=(js hc (i:=i) (by omega)).2.2.2;have hval:(bN p.bj i.toNat ew.bu.bw).value=(oI p i).value:=rfl;have hs:=@KD (vL (fL l)) i i0;rw[hv,hval];rw[jP] at hs hb ⊢;simp only[iO,dJ,sa];refine⟨i0,hi,by omega,dc hq (by omega),λh=>?_,λh=>?_⟩
   ·rw[if_pos h] at hs;rw[hs,K9];refine⟨?_,?_,i0,?_,?_,?_,?_,⟨hrI rfl,hcI rfl rfl⟩,?_,?_⟩<;>omega
   ·rw[if_neg h] at hs;rw[hs];refine⟨?_,⟨hrI rfl,hcI rfl rfl⟩,?_,?_⟩<;>omega
  ·rw[show i.toNat=(vL (fL l)).length by rw[jP];omega];rfl;|some m=>
  refine NI (let a:=γj .i64;let b:=iZ.cells;let c:=iZ.row;let d:=(0:Int);let e:=γa;let f:=γ1;let g:=γV;let t:=g 0 0 28;let v:=g 4 0 2;let w:=g 6 0 2;let E:=(↑(fL l).length:Int);let k:=(↑(fL l).length:Int);let y:=a k;let z:=γC .i64 0;let F:=a 0;let j:=ew.i .i64;let n:=b [a p.bm.a0,a p.bm.a1,a p.bm.a2,a p.bm.a3,a p.bm.a4,a p.bm.a5,a p.bs.a0,a p.bs.a1,a p.bs.a2,a p.bs.a3,a p.bs.a4,a p.bs.a5,a p.bt.a0,a p.bt.a1,a p.bt.a2,a p.bt.a3,a p.bt.a4,a p.bt.a5,e j p.bk,e ew.bu p.bj,e j ch,a val,γB bp,SV.fn (Fn.func 116) [] [g 1 0 1],f 2 k1 5,f 3 k2 1,a bz,a err] 126 28 false;let o:=b [a m] 2 1 false;let q:=c Ao bq 108 true;let r:=c j fx 3 true;let G:=SV.sc (Value.slice none 0 0);let A:=b [G,F] 40 2 false;let B:=jG (vL (fL l)) 0;(((t.bi t/\v.bi v/\w.bi w/\(e sF (fL l)).bi (e sF (fL l))/\(a E).bi y/\z.bi F/\True)/\n.bi n/\o.bi o/\q.bi q/\r.bi r/\(b [G,z] 40 2 false).bi A/\(c j [] 3 true).bi (c j B 3 true)/\(b [f 5 0 1,z] 40 2 false).bi (b [f 5 B.length 1,a (ki p B)] 40 2 false)/\True)/\d<=d/\d<=k)/\∀(x:Int),let s:=x+(1:Int);let H:=a s;let C:=jG (vL (fL l)) s.toNat;let D:=bN (fL l) x.toNat sF.bw;let I:=(D.1,D.2.1,D.2.2);let h:=jG (vL (fL l)) x.toNat;let J:=h.length+1;let K:=ki p h+(bN p.bj x.toNat ew.bu.bw).value;let L:=λ(u:iZ) (u_1:Nat) (u_2:Int) ↦VL .i64 s/\((t.bi t/\v.bi v/\w.bi w/\(e sF (fL l)).bi (e sF (fL l))/\y.bi y/\H.bi H/\True)/\n.bi n/\o.bi o/\q.bi q/\r.bi r/\A.bi A/\u.bi (c j C 3 true)/\(b [f 5 u_1 1,a u_2] 40 2 false).bi (b [f 5 C.length 1,a (ki p C)] 40 2 false)/\True)/\(d<=s/\s<=k)/\(k - s).toNat<(k - x).toNat;let M:=λ(u:Bool) ↦decide (d<iP (TL I))=u;d<=x/\x<=k->(decide (x<k)=true->d<=x/\x<E/\x.toNat<(fL l).length/\bL I/\(M true->1=1/\h.length=h.length/\J*8<=140737488355328/\J<=1000000000000/\d<=x/\x<(↑p.bj.length:Int)/\x.toNat<p.bj.length/\VL .i64 K/\L (c j (h++[x]) 3 true) (h++[x]).length K)/\(M false->L (c j h 3 true) h.length (ki p h)))/\(decide (x<k)=false->h.length=h.length/\h.length=h.length/\h.length=h.length/\(γN [e j h,a (ki p h)]).bi (γN [e j (dN (vL (fL l))),a (bF (γc (oI p) (dN (vL (fL l)))))])/\n.bi n/\o.bi o/\q.bi q/\r.bi r/\True)) (by kernel_rfl) ?_;simp only[vcs];have hrI:∀{x y:List Int},x=y->(iZ.row (.i .i64) x 3 true).bi (iZ.row (.i .i64) y 3 true):=by rintro _ _ rfl;rfl
  have hcI:∀{x y:List Int} {v w:Int},x=y->v=w->(iZ.cells [.ow 5 x.length 1,.si .i64 v] 40 2 false).bi (iZ.cells [.ow 5 y.length 1,.si .i64 w] 40 2 false):=by rintro _ _ _ _ rfl rfl;rfl
  refine⟨⟨⟨rfl,hrI rfl,rfl⟩,by omega,by omega⟩,?_⟩;rintro i ⟨i0,i1⟩;have hb:=@KC p (vL (fL l)) i.toNat hc (by omega);refine⟨λhi=>?_,λhi=>?_⟩
  ·have hv:bN (fL l) i.toNat sF.bw=nf (bN l i.toNat 0):=iD (by omega);have hq:=hz _ (cA (d:=0) (show i.toNat<l.length by omega));have ho:=(js hc (i:=i) (by omega)).2.2.2;have hval:(bN p.bj i.toNat ew.bu.bw).value=(oI p i).value:=rfl;have hs:=@KD (vL (fL l)) i i0;rw[hv,hval];rw[jP] at hs hb ⊢;simp only[iO,dJ,sa];refine⟨i0,hi,by omega,dc hq (by omega),λh=>?_,λh=>?_⟩
   ·rw[if_pos h] at hs;rw[hs,K9];refine⟨?_,?_,i0,?_,?_,?_,?_,⟨hrI rfl,hcI rfl rfl⟩,?_,?_⟩<;>omega
   ·rw[if_neg h] at hs;rw[hs];refine⟨?_,⟨hrI rfl,hcI rfl rfl⟩,?_,?_⟩<;>omega
  ·rw[show i.toNat=(vL (fL l)).length by rw[jP];omega];rfl
def DS:NG:=⟨105,List NH,.one (cO sF),mW,λx=> .Gz [.si .i64 ((iL (vL x)).getD 0),.sb (iL (vL x)).isSome]⟩
def jo:Option (Int×Rat)->NH
 |none=>(false,([],[]))
 |some (_,q)=>nf q
def sB:Option (Int×Rat)->Int
 |none=>0
 |some (i,_)=>i
def Tg (x:List NH):Nat->bJ
 |6=> .inv Int (λi=>⟨[(4,.ptr 0 0 3),(6,.ptr 1 0 3),(7,.ptr 2 0 2),(8,.ptr 3 0 3),(17,.row sF x),(18,.si .i64 x.length),(19,.si .i64 i)],
   [.cells [.sb (nf (eM false 1 2)).1,.row (.i .u32) (nf (eM false 1 2)).2.1,.row (.i .u32) (nf (eM false 1 2)).2.2] 177 3 false,
    .cells [.sb (nf ((1:Int):Rat)).1,.row (.i .u32) (nf ((1:Int):Rat)).2.1,.row (.i .u32) (nf ((1:Int):Rat)).2.2] 177 3 false,
    .cells [.sb (iz (vL x) i.toNat).isSome,.si .i64 (sB (iz (vL x) i.toNat))] 237 2 false,
    .cells [.sb (jo (iz (vL x) i.toNat)).1,.row (.i .u32) (jo (iz (vL x) i.toNat)).2.1,.row (.i .u32) (jo (iz (vL x) i.toNat)).2.2] 177 3 false,.dead,.dead]⟩)
   (λs=>iS s 19) (λi=>0<=i/\i<=x.length) (λi=>(x.length - i).toNat) λ_ _=> .look
 |_=> .look
theorem Tf {q:Rat} {k:Nat} (h:Sz k q):Sz k (lv q):=by
 grind[lv,wX]
theorem K8:mkRat 1 2=(1 / 2:Rat):=by
 grind[Rat.mkRat_eq_div]
theorem K7:Sz 1 (1 / 2:Rat):=by
 grind[K8,wZ]
theorem DR {q:Rat} (h:Sz 1000 q):Sz 1002 (q - 1 / 2):=by
 rw[Rat.sub_eq_add_neg];exact wY h (j:=1) (wX K7)
theorem HZ:Holds Tryz.prog DS:=by
 refine bM (L:=[DZ,mj,sh,p_,uj,wE,vY]) DS Tg (by simpa using⟨HX,nG,nD,sA,zb,Cj,qW⟩) ?_;rintro(x:List NH) ⟨l,hx,hl,hz⟩;refine NI (let a:=iZ.cells;let b:=γa;let c:=(0:Int);let d:=γj .i64;let e:=(9223372036854775807:Int);let f:=γB;let g:=(-9223372036854775808:Int);let h:=(1:Int);let j:=VL .i64;let k:=γV;let l:=δj false;let m:=(2:Int);let n:=ew.i .u32;let r:=k 0 0 3;let s:=k 1 0 3;let t:=k 2 0 2;let v:=k 3 0 3;let o:=(↑x.length:Int);let w:=d o;let R:=γC .i64 0;let y:=eM false h m;let z:=κ h;let F:=iz (vL x) 0;let B:=a [f (nf y).1,b n (nf y).2.1,b n (nf y).2.2] 177 3 false;let C:=a [f (nf z).1,b n (nf z).2.1,b n (nf z).2.2] 177 3 false;let S:=((nf z).1,(nf z).2.1,(nf z).2.2);let T:=((nf y).1,(nf y).2.1,(nf y).2.2);let U:=λ(u:Rat) ↦(a [f (nf u).1,b n (nf u).2.1,b n (nf u).2.2] 177 3 false).bi (a [f (nf u).1,b n (nf u).2.1,b n (nf u).2.2] 177 3 false);((g<=h/\h<=e)/\c<m/\m<=e)/\(g<=h/\h<=e)/\0=0/\0=0/\(((r.bi r/\s.bi s/\t.bi t/\v.bi v/\(b sF x).bi (b sF x)/\(d (↑x.length:Int)).bi w/\R.bi (d 0)/\True)/\U y/\U z/\(a [l,R] 237 2 false).bi (a [f F.isSome,d (sB F)] 237 2 false)/\(a [l,b n [],b n []] 177 3 false).bi (a [f (jo F).1,b n (jo F).2.1,b n (jo F).2.2] 177 3 false)/\iZ.dead.bi iZ.dead/\iZ.dead.bi iZ.dead/\True)/\c<=c/\c<=o)/\∀(x_1:Int),let p:=x_1+h;let D:=d p;let G:=iz (vL x) p.toNat;let N:=a [f G.isSome,d (sB G)] 237 2 false;let A:=bN x x_1.toNat sF.bw;let H:=(A.1,A.2.1,A.2.2);let E:=nf (TL H - TL T);let I:=(E.1,E.2.1,E.2.2);let V:=(nf (-TL I)).1;let K:=(nf (-TL I)).2;let O:=a [f (jo G).1,b n (jo G).2.1,b n (jo G).2.2] 177 3 false;let q:=iz (vL x) x_1.toNat;let W:=d (sB q);let X:=(V,K.1,K.2);let L:=((jo q).1,(jo q).2.1,(jo q).2.2);let M:=q.isSome==false&&(decide (sB q=c)&&true);let Y:=j p/\((r.bi r/\s.bi s/\t.bi t/\v.bi v/\(b sF x).bi (b sF x)/\w.bi w/\D.bi D/\True)/\B.bi B/\C.bi C/\(a [δj true,d x_1] 237 2 false).bi N/\(a [f V,b n K.1,b n K.2] 177 3 false).bi O/\iZ.dead.bi iZ.dead/\iZ.dead.bi iZ.dead/\True)/\(c<=p/\p<=o)/\(o - p).toNat<(o - x_1).toNat;let Z:=j p/\((r.bi r/\s.bi s/\t.bi t/\v.bi v/\(b sF x).bi (b sF x)/\w.bi w/\D.bi D/\True)/\B.bi B/\C.bi C/\(a [δj true,d x_1] 237 2 false).bi N/\(a [f E.1,b n E.2.1,b n E.2.2] 177 3 false).bi O/\iZ.dead.bi iZ.dead/\iZ.dead.bi iZ.dead/\True)/\(c<=p/\p<=o)/\(o - p).toNat<(o - x_1).toNat;let J:=j p/\((r.bi r/\s.bi s/\t.bi t/\v.bi v/\(b sF x).bi (b sF x)/\w.bi w/\D.bi D/\True)/\B.bi B/\C.bi C/\(a [f q.isSome,W] 237 2 false).bi N/\(a [f (jo q).1,b n (jo q).2.1,b n (jo q).2.2] 177 3 false).bi O/\iZ.dead.bi iZ.dead/\iZ.dead.bi iZ.dead/\True)/\(c<=p/\p<=o)/\(o - p).toNat<(o - x_1).toNat;let P:=bL I;let Q:=bL H;let a0:=λ(u:Bool) ↦decide (gK (TL X) (TL L)<c)=u;let a1:=λ(u:Bool) ↦decide (gK (TL I) (TL L)<c)=u;let a2:=λ(u:Bool) ↦decide (iP (TL I)<c)=u;let a3:=λ(u:Bool) ↦decide (c<=gK (TL H) (TL S))=u;let a4:=λ(u:Bool) ↦decide (iP (TL H)<=c)=u;let a5:=λ(u:Bool) ↦(!okF H)=u;c<=x_1/\x_1<=o->(decide (x_1<o)=true->c<=x_1/\x_1<(↑x.length:Int)/\x_1.toNat<x.length/\((ou A.2.1/\ou A.2.2)/\γd A.2.1<=10000000/\γd A.2.2<=10000000)/\(a5 true->J)/\(a5 false->Q/\(a4 true->J)/\(a4 false->(Q/\bL S)/\(a3 true->J)/\(a3 false->(Q/\bL T)/\P/\(a2 true->P/\(M=true->Y)/\(M=false->(bL X/\bL L)/\(a0 true->Y)/\(a0 false->J)))/\(a2 false->(M=true->Z)/\(M=false->(P/\bL L)/\(a1 true->Z)/\(a1 false->J)))))))/\(decide (x_1<o)=false->(SV.Gz [W,f q.isSome]).bi (SV.Gz [d ((iL (vL x)).getD c),f (iL (vL x)).isSome]))) (by kernel_rfl) ?_;simp only[vcs];subst hx;rw[ez] at hl;have hh:eM false 1 2=1 / 2:=K8;simp only[jP,ez,hh];have hbr:∀{b c:Option (Int×Rat)},b=c->(iZ.cells [.sb b.isSome,.si .i64 (sB b)] 237 2 false).bi (iZ.cells [.sb c.isSome,.si .i64 (sB c)] 237 2 false):=by rintro _ _ rfl;rfl
 have hbd:∀{b c:Option (Int×Rat)},b=c->(iZ.cells [.sb (jo b).1,.row (.i .u32) (jo b).2.1,.row (.i .u32) (jo b).2.2] 177 3 false).bi (iZ.cells [.sb (jo c).1,.row (.i .u32) (jo c).2.1,.row (.i .u32) (jo c).2.2] 177 3 false):=by rintro _ _ rfl;rfl
 have f1:bL (nf (κ 1)):=dc (k:=1) (by unfold Sz;decide) (by omega);have f2:bL (nf (1 / 2)):=dc K7 (by omega);refine⟨⟨⟨by omega,by omega⟩,by omega,by omega⟩,⟨by omega,by omega⟩,⟨⟨rfl,rfl⟩,by omega,by omega⟩,?_⟩;rintro i ⟨i0,i1⟩;refine⟨λhi=>?_,λhi=>?_⟩
 ·have hv:bN (fL l) i.toNat sF.bw=nf (bN l i.toNat 0):=iD (by omega);have hq:=hz _ (cA (d:=0) (show i.toNat<l.length by omega));have hs:iz l (i+1).toNat=if 0<bN l i.toNat 0/\bN l i.toNat 0<1 then(match iz l i.toNat with
   |none=>some (i,lv (bN l i.toNat 0 - 1 / 2))
   |some (j,d)=>if lv (bN l i.toNat 0 - 1 / 2)<d then some (i,lv (bN l i.toNat 0 - 1 / 2)) else some (j,d)) else iz l i.toNat:=by
   rw[show(i+1).toNat=i.toNat+1 by omega];conv=>lhs;unfold iz
   rw[εC i0];cases iz l i.toNat<;>rfl
  have hbs:∀j d,iz l i.toNat=some (j,d)->bL (nf d):=λj d h=>by
   obtain⟨h1,h2,h3⟩:=Dm h;rw[h3];exact dc (Tf (DR (hz _ (cA (by omega))))) (by omega)
  rw[hv,hs];generalize bN l i.toNat 0=q at*;generalize iz l i.toNat=B at*;simp only[iO,dJ];obtain⟨_,⟨u1,u2,u3⟩,⟨u4,u5,u6⟩⟩:=kN q;obtain⟨m1,m2⟩:=mZ hq;have hok:=BW q;have fq:bL (nf q):=dc hq (by omega);have fd:bL (nf (q - 1 / 2)):=dc (DR hq) (by omega);have fn:bL (nf (-(q - 1 / 2))):=dc (wX (DR hq)) (by omega);refine⟨i0,hi,by omega,⟨⟨u1,u4⟩,by omega,by omega⟩,λh=>absurd hok (by rw[show okF (nf q)=false from h];simp),λ_=>⟨fq,λh1=>?_,λh1=>⟨⟨fq,f1⟩,λh2=>?_,λh2=>?_⟩⟩⟩
  ·rw[if_neg (λh=>by have:=sa.2 h.1;omega)];exact⟨by omega,⟨hbr rfl,hbd rfl⟩,by omega⟩
  ·rw[if_neg (λh=>by have:=qK.2 h.2;have e:gK q (κ 1)=gK q 1:=rfl;omega)];exact⟨by omega,⟨hbr rfl,hbd rfl⟩,by omega⟩
  ·have hp:0<q/\q<1:=⟨sa.1 (by omega),qK.1 (by have e:gK q (κ 1)=gK q 1:=rfl;omega)⟩;rw[if_pos hp];refine⟨⟨fq,f2⟩,fd,λh3=>?_,λh3=>?_⟩
   ·have ha:lv (q - 1 / 2)= -(q - 1 / 2):=by unfold lv;rw[if_pos (wU.1 h3)]
    rw[ha];cases B with
    |none=>exact⟨fd,λ_=>⟨by omega,⟨rfl,rfl⟩,by omega⟩,λh=>absurd h (by decide)⟩;|some b=>
     obtain⟨j,d⟩:=b;dsimp only;refine⟨fd,λh=>absurd h.1 ζk,λ_=>⟨⟨fn,hbs j d rfl⟩,λh5=>?_,λh5=>?_⟩⟩
     ·rw[if_pos (qK.1 (by rw[<-dJ d];exact h5))];exact⟨by omega,⟨rfl,rfl⟩,by omega⟩
     ·rw[if_neg (λh=>h5 (by rw[<-dJ d] at h;exact qK.2 h))];exact⟨by omega,⟨hbr rfl,hbd rfl⟩,by omega⟩
   ·have ha:lv (q - 1 / 2)=q - 1 / 2:=by unfold lv;rw[if_neg (λh=>h3 (wU.2 h))]
    rw[ha];cases B with
    |none=>exact⟨λ_=>⟨by omega,⟨rfl,rfl⟩,by omega⟩,λh=>absurd h (by decide)⟩;|some b=>
     obtain⟨j,d⟩:=b;dsimp only;refine⟨λh=>absurd h.1 ζk,λ_=>⟨⟨fd,hbs j d rfl⟩,λh5=>?_,λh5=>?_⟩⟩
     ·rw[if_pos (qK.1 (by rw[<-dJ d];exact h5))];exact⟨by omega,⟨rfl,rfl⟩,by omega⟩
     ·rw[if_neg (λh=>h5 (by rw[<-dJ d] at h;exact qK.2 h))];exact⟨by omega,⟨hbr rfl,hbd rfl⟩,by omega⟩
 ·rw[show i.toNat=l.length by omega];unfold iL;cases iz l l.length<;>exact⟨rfl,rfl⟩
noncomputable def s8 (n:Nat):cU:=BZ 72 Int (.one (dX .i64)) (λx a=>eh x/\(0<=a/\a<x.bq.length)/\nF x.fx<n) (λ_ _=> .Gz []) λx a=>x.iw (cP x.p (bH x.en) x.bz (nF x.fx) x.s a x.fx)
noncomputable def BU (n:Nat):cU:=BZ 106 (Int×Int×Int) (.cons (dX .i64) (.cons (dX .i64) (.one (dX .i64)))) (λx a=>eh x/\(0<=a.1/\a.1<x.bq.length)/\(0<=a.2.1/\a.2.1<x.fx.length)/\bN x.fx a.2.1.toNat 0=0/\(a.2.2=1\/a.2.2= -1)/\nF (x.fx.set a.2.1.toNat a.2.2)<n) (λ_ _=> .Gz []) λx a=>x.iw (cP x.p (bH x.en) x.bz (nF (x.fx.set a.2.1.toNat a.2.2)) x.s a.1 (x.fx.set a.2.1.toNat a.2.2))
theorem Te {L:List NG} {W:List cU} (c:cU) (F:el) (Λ:c.α->Nat->bJ) (i:∀c∈W,dB Tryz.prog c) (e:∀c∈L,Holds Tryz.prog c)
  
  (h:∀a,c.dom a->Vc (Ab (kr L (fT W) mi ml fQ) (Λ a) F (c.put a) (c.st a) λv s=>v.bi (c.res a)/\jW s (c.out a))) (j:fQ c.f=some F:=by kernel_rfl) (b:∀a,(c.put a).length=F.params:=by intro _;kernel_rfl) (d:my c.f W=none:=by kernel_rfl):dB Tryz.prog c:=
 λa g=>SR c pU i e j b a d (h a g).out
theorem eh.set {x:cW} (h:eh x) {k:Nat} {d:Int} (a:d=1\/d= -1):eh ⟨x.p,x.ch,x.val,x.bp,x.en,x.k1,x.k2,x.bz,x.err,x.bq,x.fx.set k d⟩:=
 ⟨⟨h.f.c,by rw[Ω];exact h.f.l,KS h.f.r (by omega)⟩,h.k1,by rw[Ω];exact h.k2,h.v0,h.v1,h.m0,h.m1,h.l,h.c⟩
theorem Td {f:List Int} {k:Nat} {d:Int} (b:k<f.length) (a:bN f k 0=0):(f.set k d).set k 0=f:=by
 rw[bV b] at a;rw[List.set_set,<-a,List.set_getElem_self]
theorem Tc {n:Nat} (hV:dB Tryz.prog (s8 n)):dB Tryz.prog (BU n):=by
 refine Te (L:=[]) (W:=[s8 n]) (BU n) (fG 106) lk (by simpa using hV) (by simp) ?_;rintro⟨⟨p,ch,val,bp,en,k1,k2,bz,err,bq,fx⟩,a,k,d⟩ ⟨hok,ha,hk,h0,hd,hn⟩;simp only at hok ha hk h0 hd hn;have e2:k2=fx.length:=hok.k2;have hb:=Td (d:=d) (show k.toNat<fx.length by omega) h0;have hr:∀{x y:List Int},x=y->(iZ.row (.i .i64) x 3 true).bi (iZ.row (.i .i64) y 3 true):=by rintro _ _ rfl;rfl
 cases en with
 |none=>
  have hs:=hok.set (k:=k.toNat) hd;refine NI (let b:=γj .i64;let c:=(0:Int);let e:=iZ.row;let f:=γa;let g:=fx.set k.toNat d;let j:=ew.i .i64;let h:=cP p (bH none) bz (nF g) (cd.mk ch val bp bq err) a g;let l:=iZ.cells [b p.bm.a0,b p.bm.a1,b p.bm.a2,b p.bm.a3,b p.bm.a4,b p.bm.a5,b p.bs.a0,b p.bs.a1,b p.bs.a2,b p.bs.a3,b p.bs.a4,b p.bs.a5,b p.bt.a0,b p.bt.a1,b p.bt.a2,b p.bt.a3,b p.bt.a4,b p.bt.a5,f j p.bk,f ew.bu p.bj,f j h.ch,b h.val,γB h.bp,SV.fn (Fn.func 70) [] [],γ1 1 h.bq.length 5,γ1 2 k2 1,b bz,b h.err] 126 28 false;let m:=e Ao h.bq 108 true;k2=fx.length/\c<=k/\k<(↑fx.length:Int)/\k2=fx.length/\k.toNat<fx.length/\(eh (cW.mk p ch val bp none k1 k2 bz err bq g)/\(c<=a/\a<(↑bq.length:Int))/\nF g<n)/\k2=g.length/\c<=k/\k<(↑g.length:Int)/\k2=g.length/\k.toNat<g.length/\(SV.Gz []).bi (SV.Gz [])/\l.bi l/\m.bi m/\(e j (g.set k.toNat c) 3 true).bi (e j fx 3 true)/\True) (by kernel_rfl) ?_;conv=>zeta
  rw[Ω];exact⟨e2,hk.1,hk.2,e2,by omega,⟨hs,ha,hn⟩,e2,hk.1,hk.2,e2,by omega,rfl,rfl,rfl,hr hb,trivial⟩;|some m=>
  have hs:=hok.set (k:=k.toNat) hd;refine NI (let b:=γj .i64;let c:=(0:Int);let e:=iZ.row;let f:=γa;let g:=fx.set k.toNat d;let j:=ew.i .i64;let h:=cP p (bH (some m)) bz (nF g) (cd.mk ch val bp bq err) a g;let l:=iZ.cells [b p.bm.a0,b p.bm.a1,b p.bm.a2,b p.bm.a3,b p.bm.a4,b p.bm.a5,b p.bs.a0,b p.bs.a1,b p.bs.a2,b p.bs.a3,b p.bs.a4,b p.bs.a5,b p.bt.a0,b p.bt.a1,b p.bt.a2,b p.bt.a3,b p.bt.a4,b p.bt.a5,f j p.bk,f ew.bu p.bj,f j h.ch,b h.val,γB h.bp,SV.fn (Fn.func 116) [] [γV 1 0 1],γ1 2 h.bq.length 5,γ1 3 k2 1,b bz,b h.err] 126 28 false;let o:=iZ.cells [b m] 2 1 false;let q:=e Ao h.bq 108 true;k2=fx.length/\c<=k/\k<(↑fx.length:Int)/\k2=fx.length/\k.toNat<fx.length/\(eh (cW.mk p ch val bp (some m) k1 k2 bz err bq g)/\(c<=a/\a<(↑bq.length:Int))/\nF g<n)/\k2=g.length/\c<=k/\k<(↑g.length:Int)/\k2=g.length/\k.toNat<g.length/\(SV.Gz []).bi (SV.Gz [])/\l.bi l/\o.bi o/\q.bi q/\(e j (g.set k.toNat c) 3 true).bi (e j fx 3 true)/\True) (by kernel_rfl) ?_;conv=>zeta
  rw[Ω];exact⟨e2,hk.1,hk.2,e2,by omega,⟨hs,ha,hn⟩,e2,hk.1,hk.2,e2,by omega,rfl,rfl,rfl,rfl,hr hb,trivial⟩
theorem K6 {p:cj} {en:Int->Bool} {bz:Int} {f:List Int} (j:dP p f) {c b:cd->Int->List Int->cd} {s:cd} {a:Int}
  (h:∀k d:Int,(0<=k/\k<f.length)->bN f k.toNat 0=0->(d=1\/d= -1)->∀s a,c s a (f.set k.toNat d)=b s a (f.set k.toNat d)):eu p en bz c s a f=eu p en bz b s a f:=by
 unfold eu;split;·rfl
 split;·rfl
 rename_i o;have l:fZ p f=true:=by simp_all
 split;·rfl
 split;·rfl
 rename_i k n;split;·rfl
 obtain⟨e,i,g⟩:=qL n;rw[pB] at e;have m:bN f k.toNat 0=0:=qM (j.ok l) j.r (by omega) i g;simp_all
theorem wK {p:cj} {en:Int->Bool} {bz:Int} {f:List Int} (e:dP p f) {s:cd} {a:Int}:cP p en bz (nF f) s a f=eu p en bz (λs a g=>cP p en bz (nF g) s a g) s a f:=by
 have j:∀k d:Int,(0<=k/\k<f.length)->bN f k.toNat 0=0->(d=1\/d= -1)->nF f=nF (f.set k.toNat d)+1:=λk d c b i=>kL c b (by omega);cases h:nF f with
 |zero=>exact K6 e λk d c b i=>by grind;|succ n=>
  refine K6 e λk d c b i s a=>?_;grind
section
variable {p:cj} {en:Int->Bool} {bz:Int} {f:List Int} {s O:cd} {a k:Int}
theorem wJ (b:dP p f) (h:s.err≠0\/s.bp=true):cP p en bz (nF f) s a f=s:=by
 simp_all[wK,eu]
theorem K5 (c:dP p f) (h:¬(s.err≠0\/s.bp=true)) (b:fZ p f=false):cP p en bz (nF f) s a f={s with bq:=s.bq.set a.toNat zc}:=by
 simp_all[wK,eu]
theorem uA (c:dP p f) (h:¬(s.err≠0\/s.bp=true)) (b:fZ p f=true) (d:cD p en s f=O) (e:g_ p f<((O.val+1:Int):Rat)):cP p en bz (nF f) s a f={O with bq:=O.bq.set a.toNat (oV p f)}:=by
 simp_all[wK,eu]
theorem od (b:dP p f) (h:¬(s.err≠0\/s.bp=true)) (d:fZ p f=true) (c:cD p en s f=O) (g:¬g_ p f<((O.val+1:Int):Rat)) (e:iL (cN p f)=none\/bz<(O.bq.length:Int)+2):cP p en bz (nF f) s a f={O with err:=12}:=by
 subst c;rw[wK b];unfold eu;grind
theorem uz (d:dP p f) (h:¬(s.err≠0\/s.bp=true)) (b:fZ p f=true) (g:cD p en s f=O) (i:¬g_ p f<((O.val+1:Int):Rat)) (c:iL (cN p f)=some k) (e:¬bz<(O.bq.length:Int)+2):
  cP p en bz (nF f) s a f=cP p en bz (nF (f.set k.toNat (-1))) (cP p en bz (nF (f.set k.toNat 1)) (fK O a k) (O.bq.length+1) (f.set k.toNat 1)) O.bq.length (f.set k.toNat (-1)):=by
 simp_all[wK,eu,if_neg]
end
theorem eh.IW {x:cW} (h:eh x):eh (x.iw (cD x.p (bH x.en) x.s x.fx)):=by
 obtain⟨d,i,b,a,g⟩:=@Ae x.p (bH x.en) x.s x.fx;obtain⟨m,j,k⟩:=KR h.f;have b:x.val<=(cD x.p (bH x.en) x.s x.fx).val:=b;have a:(cD x.p (bH x.en) x.s x.fx).val=x.val\/(cD x.p (bH x.en) x.s x.fx).val=(nB x.p x.fx).value:=a;have n:=h.v0;have o:=h.v1;refine⟨h.f,rfl,h.k2,?_,?_,h.m0,h.m1,?_,?_⟩
 ·show 0<=(cD x.p (bH x.en) x.s x.fx).val;omega
 ·show(cD x.p (bH x.en) x.s x.fx).val<=_;omega
 ·show(cD x.p (bH x.en) x.s x.fx).bq.length<=_;rw[d];exact h.l
 ·show(cD x.p (bH x.en) x.s x.fx).ch.length<=_;rcases g with e|e;·rw[e];exact h.c
  ·rw[e];omega
theorem eh.ug {x:cW} (h:eh x) {f:List Int} (i:dP x.p f) {n:Nat} {a:Int}:eh (x.iw (cP x.p (bH x.en) x.bz n x.s a f)):=by
 obtain⟨m,g,b,d,k,q⟩:=@pA x.p (bH x.en) x.bz n x.s a f i;have b:x.val<=(cP x.p (bH x.en) x.bz n x.s a f).val:=b;have d:(cP x.p (bH x.en) x.bz n x.s a f).val=x.val\/(cP x.p (bH x.en) x.bz n x.s a f).val<=160000000:=d;have r:=h.v0;have t:=h.v1;have o:=h.m1;have j:=h.l;refine⟨h.f,rfl,h.k2,?_,?_,h.m0,h.m1,?_,?_⟩
 ·show 0<=(cP x.p (bH x.en) x.bz n x.s a f).val;omega
 ·show(cP x.p (bH x.en) x.bz n x.s a f).val<=_;omega
 ·show(cP x.p (bH x.en) x.bz n x.s a f).bq.length<=_;rcases g with e|e;·omega
  ·rw[e];exact j
 ·show(cP x.p (bH x.en) x.bz n x.s a f).ch.length<=_;rcases k with e|e;·rw[e];exact h.c
  ·omega
theorem eh.ui {x:cW} (h:eh x) (b:¬x.bz<(x.bq.length:Int)+2) {k:Nat} {l:List cy} (a:k=l.length) (d:l.length=x.bq.length+2):eh ⟨x.p,x.ch,x.val,x.bp,x.en,k,x.k2,x.bz,x.err,l,x.fx⟩:=
 ⟨h.f,a,h.k2,h.v0,h.v1,h.m0,h.m1,by have:=h.m1;grind,h.c⟩
structure iI where
 left:oz
 bs:oz
 bn:List Int
 value:Int
 won:List Bool
def nd (c w a:Int):Int:=if c=0\/c≠a then w else 0
def uy (p:cj) (x:bC):oz:=⟨nd p.bt.a0 x.bx.a0 (kn p x),nd p.bt.a1 x.bx.a1 (kn p x),nd p.bt.a2 x.bx.a2 (kn p x),nd p.bt.a3 x.bx.a3 (kn p x),nd p.bt.a4 x.bx.a4 (kn p x),nd p.bt.a5 x.bx.a5 (kn p x)⟩
def oz.pos (b:oz):Bool:=decide (0<=b.a0)&&decide (0<=b.a1)&&decide (0<=b.a2)&&decide (0<=b.a3)&&decide (0<=b.a4)&&decide (0<=b.a5)
def fJ (p:cj) (u:iI) (x:bC):oz:=(u.bs.sub (uy p x)).meet (u.left.sub x.bx)
def im (p:cj) (u:iI) (x:bC):Bool:=!(bN u.won x.TM.toNat false)&&((u.left.sub x.bx).pos&&(fJ p u x).pos)
def d_ (p:cj) (u:iI) (i:Int):iI:=⟨u.left.sub (oI p i).bx,fJ p u (oI p i),u.bn++[i],u.value+(oI p i).value,u.won.set (oI p i).TM.toNat true⟩
def fR (p:cj) (u:iI) (k:Nat):cj:=⟨u.left,u.bs,p.bt,p.bk,(p.bj.drop k).filter (im p u)⟩
theorem B_ {x:oz}:dx [x]=x:=by simp[dx]
theorem sx {P:Nat->Prop} (f:P 0) (a:P 1) (b:P 2) (d:P 3) (e:P 4) (c:P 5):∀k,k<6->P k:=by
 grind
theorem wI {a b:oz}:∀k,k<6->(a.sub b).at k=a.at k - b.at k:=sx rfl rfl rfl rfl rfl rfl
theorem DQ {a b:oz}:∀k,k<6->(a.add b).at k=a.at k+b.at k:=sx rfl rfl rfl rfl rfl rfl
theorem K4 {a b:oz}:∀k,k<6->(a.meet b).at k=min (a.at k) (b.at k):=sx rfl rfl rfl rfl rfl rfl
theorem DP {p:cj} {x:bC}:∀k,k<6->(uy p x).at k=nd (p.bt.at k) (x.bx.at k) (kn p x):=sx rfl rfl rfl rfl rfl rfl
theorem BT {p:cj} {x:bC}:∀k,k<6->(dT p x).at k=if p.bt.at k=0\/p.bt.at k=kn p x then 0 else x.bx.at k:=by
 refine sx ?_ ?_ ?_ ?_ ?_ ?_<;>(show oc _ _ _ _ _=_;unfold oc;simp only[show((0:Int)<6)=True by simp,show((1:Int)<6)=True by simp,show((2:Int)<6)=True by simp,show((3:Int)<6)=True by simp,show((4:Int)<6)=True by simp,show((5:Int)<6)=True by simp,true_and];rfl)
theorem K3 {b:oz}:b.pos=true↔∀k,k<6->0<=b.at k:=by
 unfold oz.pos;simp only[θ,decide_eq_true_eq];constructor
 ·rintro⟨⟨⟨⟨⟨g,a⟩,c⟩,e⟩,f⟩,d⟩;exact sx g a c e f d
 ·intro h;exact⟨⟨⟨⟨⟨h 0 (by omega),h 1 (by omega)⟩,h 2 (by omega)⟩,h 3 (by omega)⟩,h 4 (by omega)⟩,h 5 (by omega)⟩
theorem ux {b:oz}:b.ok=true↔∀k,k<6->0<=b.at k/\b.at k<=4:=by
 rw[oz.gS];constructor
 ·rintro⟨g,a,c,e,f,d⟩;exact sx g a c e f d
 ·intro h;exact⟨h 0 (by omega),h 1 (by omega),h 2 (by omega),h 3 (by omega),h 4 (by omega),h 5 (by omega)⟩
theorem DO {p:cj} {k:Nat} (a:k<6):∀L:List bC,(dx (L.map (uy p))).at k=if p.bt.at k=0 then(dx (L.map bC.bx)).at k else(dx (L.map (dT p))).at k:=by
 intro L;rw[lN,lN,lN];induction L with
 |nil=>simp;|cons x L b=>
  simp only[ξ,List.sum_cons];rw[b,DP k a,BT k a];unfold nd;omega
theorem aZc {p:cj} {k:Nat} (c:k<6) (a:p.bt.at k=0):∀L:List bC,(dx (L.map (dT p))).at k=0:=by
 intro L;rw[lN];induction L with
 |nil=>simp;|cons x L b=>
  simp_all[BT]
theorem BS {p:cj} (c:Good p) {k:Nat} (d:k<6):∀{L:List bC},(∀x∈L,x∈p.bj)->0<=(dx (L.map bC.bx)).at k/\(dx (L.map (dT p))).at k<=(dx (L.map bC.bx)).at k/\0<=(dx (L.map (dT p))).at k:=by
 intro L;rw[lN,lN];induction L with
 |nil=>intro _;simp;|cons x L b=>
  intro h;have e:=b λy a=>h y (γp _ a);have f:=(ux.1 (c.2.2.2.2 x (h x (γv ..))).2.2.1 k d);grind[BT]
theorem qJ {p:cj} (c:nW p=0) {k:Nat} (b:k<6):0<=p.bt.at k/\p.bt.at k<=4/\0<=p.bs.at k/\p.bs.at k<=p.bm.at k/\(p.bt.at k=0->p.bs.at k=p.bm.at k):=by
 have h:=mw.1 ((rJ (rI c).1).2.1 k b);exact⟨h.1,h.2.1,h.2.2.1,h.2.2.2.1,λd=>by rcases h.2.2.2.2 with a|a;exact absurd d a;exact a⟩
theorem DN {a b:oz}:a.le b=true↔∀k,k<6->a.at k<=b.at k:=⟨λh k _=>A7 h k,BY⟩
structure pz (p:cj) (u:iI):Prop where
 f:og p u.bn
 v:u.value=bF (VJ p u.bn)
 l:∀k,k<6->u.left.at k=p.bm.at k - (dx ((VJ p u.bn).map bC.bx)).at k
 o:∀k,k<6->u.bs.at k=min (p.bs.at k - (dx ((VJ p u.bn).map (uy p))).at k) (u.left.at k)
 wl:u.won.length=8
 w:∀b:Int,0<=b->b<8->bN u.won b.toNat false=decide (b∈(VJ p u.bn).map bC.TM)
theorem DM {p:cj} {t:List Int} (h:kW 0 p.bj.length t):∀x∈VJ p t,x∈p.bj:=λx a=>by
 obtain⟨i,b,rfl⟩:=Γ.1 a;have:=h.2 i b;grind[cA]
section
variable {p:cj} {u:iI}
theorem DL {L M:List bC}:fp p (L++M)↔((L.map bC.TM++M.map bC.TM).Nodup/\(∀k,k<6->(dx (L.map bC.bx)).at k+(dx (M.map bC.bx)).at k<=p.bm.at k)/\∀k,k<6->(dx (L.map (dT p))).at k+(dx (M.map (dT p))).at k<=p.bs.at k):=by
 simp_all[fp,xV,DN,DQ]
theorem BR (h:nW p=0) (c:pz p u) {x:bC} (m:x∈p.bj):im p u x=true↔fp p (VJ p u.bn++[x]):=by
 have b:=cL h;have g:=b.2.2.2.2 x m;have r:=b.1;have q:=DM c.f.1;rw[DL];unfold im;rw[θ,θ,K3,K3,δh,c.w _ g.1 (by omega),decide_eq_false_iff_not];simp only[ξ,γw,B_];have d:∀k,k<6->((0<=(u.left.sub x.bx).at k/\0<=(fJ p u x).at k)↔((dx ((VJ p u.bn).map bC.bx)).at k+x.bx.at k<=p.bm.at k/\(dx ((VJ p u.bn).map (dT p))).at k+(dT p x).at k<=p.bs.at k)):=λk a=>by
  have A:=c.l k a;have t:=c.o k a;have v:=DO (p:=p) a (VJ p u.bn);have s:=@DP p x k a;have n:=@BT p x k a;have B:=qJ h a;have y:=ux.1 g.2.2.1 k a;have j:=BS b a q;unfold fJ;rw[K4 k a,wI k a,wI k a,s,n];unfold nd;grind
 constructor
 ·rintro⟨z,e,i⟩;refine⟨?_,λk a=>((d k a).1 ⟨e k a,i k a⟩).1,λk a=>((d k a).1 ⟨e k a,i k a⟩).2⟩;rw[γx];refine⟨c.f.2.1,by simp,?_⟩;simp_all
 grind
theorem pz.next (n:nW p=0) (c:pz p u) {i:Int} (D:∀j∈u.bn,j<i) (C:0<=i/\i<p.bj.length) (s:im p u (oI p i)=true):pz p (d_ p u i):=by
 have m:oI p i∈p.bj:=cA (by omega);have B:=(BR n c m).1 s;have g:=cL n;have q:=g.2.2.2.2 _ m;have z:=g.1;have e:VJ p (u.bn++[i])=VJ p u.bn++[oI p i]:=by unfold VJ;rw[γb];rfl
 refine⟨⟨⟨?_,?_⟩,?_⟩,?_,?_,?_,?_,?_⟩
 ·show(u.bn++[i]).Pairwise _;rw[δI];exact⟨c.f.1.1,ζH _ _,λa A b q=>by simp_all⟩
 ·intro j t;rcases γi.1 t with h|h;·exact c.f.1.2 j h
  simp_all
 ·show fp p (VJ p (u.bn++[i]));simp_all
 ·show u.value+_=bF (VJ p (u.bn++[i]));rw[e,mv,c.v];simp[bF]
 ·intro k d;show(u.left.sub _).at k=_ - (dx ((VJ p (u.bn++[i])).map bC.bx)).at k;rw[e,γb,xV,DQ k d,wI k d,c.l k d];grind[B_]
 ·intro k d;show(fJ p u (oI p i)).at k=min (_ - (dx ((VJ p (u.bn++[i])).map (uy p))).at k) ((u.left.sub (oI p i).bx).at k);unfold fJ;rw[e,γb,xV,DQ k d,K4 k d,wI k d,wI k d,c.o k d];grind[B_,DP,ux,nd]
 ·show(u.won.set _ true).length=8;rw[Ω];exact c.wl
 ·intro b y x;show bN (u.won.set (oI p i).TM.toNat true) b.toNat false=decide (b∈(VJ p (u.bn++[i])).map bC.TM);have r:=c.wl;rw[e,γb,gM (by omega)];simp only[ξ,γw];by_cases h:b=(oI p i).TM;·simp_all
  ·rw[if_neg (by omega),c.w b y x];simp_all
theorem DK (s:nW p=0) (g:pz p u) {k:Nat} {M:List bC} (r:∀x∈M,x∈p.bj) (y:∀x∈M,im p u x=true):fp (fR p u k) M↔fp p (VJ p u.bn++M):=by
 have d:=cL s;have C:=d.1;have A:=DM g.f.1;rw[DL];unfold fp;rw[DN,DN];have D:∀x:bC,dT (fR p u k) x=dT p x:=λx=>rfl;have n:M.map (dT (fR p u k))=M.map (dT p):=rfl;rw[n];have h:∀j,j<6->(((dx (M.map bC.bx)).at j<=(fR p u k).bm.at j/\(dx (M.map (dT p))).at j<=(fR p u k).bs.at j)↔((dx ((VJ p u.bn).map bC.bx)).at j+(dx (M.map bC.bx)).at j<=p.bm.at j/\(dx ((VJ p u.bn).map (dT p))).at j+(dx (M.map (dT p))).at j<=p.bs.at j)):=λj c=>by
  have H:=g.l j c;have F:=g.o j c;have G:=DO (p:=p) c (VJ p u.bn);have J:=qJ s c;have I:=BS d c A;have K:=BS d c r;have L:(fR p u k).bm.at j=u.left.at j:=rfl;have E:(fR p u k).bs.at j=u.bs.at j:=rfl;omega
 constructor
 ·rintro⟨z,v,q⟩;refine⟨?_,λj c=>((h j c).1 ⟨v j c,q j c⟩).1,λj c=>((h j c).1 ⟨v j c,q j c⟩).2⟩;rw[γx];refine⟨g.f.2.1,z,?_⟩;intro a B b i e;subst e;obtain⟨x,t,rfl⟩:=Γ.1 i;have m:=y x t;have i:=d.2.2.2.2 x (r x t);unfold im at m;rw[θ,δh,g.w _ i.1 (by omega),decide_eq_false_iff_not] at m;exact m.1 B
 grind
theorem K2 {q:cj} (d:gR q=0) (h:∀x∈q.bj,jz q x=0) (b:(q.bj.map bC.key).Nodup):nW q=0:=by
 have a:∀(l:List bC) (s:List mI),(∀x∈l,jz q x=0)->(l.map bC.key).Nodup->(∀x∈l,x.key∉s)->h_ q s l=0:=by
  intro l;induction l with
  |nil=>intro s _ _ _;rfl;|cons x l c=>
   simp_all[h_]
 simp_all[nW]
theorem BQ (e:nW p=0) (g:pz p u) {k:Nat}:nW (fR p u k)=0:=by
 have v:=cL e;have C:=DM g.f.1;have r:=(DL (p:=p) (L:=VJ p u.bn) (M:=[])).1 (by rw[γ0];exact g.f.2);obtain⟨d,q⟩:=rI e;obtain⟨J,H,P,R,N⟩:=rJ d;have s:∀x∈(fR p u k).bj,x∈p.bj/\im p u x=true:=λx n=>by
  obtain⟨c,w⟩:=Ψ.1 n;grind
 have F:(dx (([]:List bC).map bC.bx))=oz.zero:=rfl;have h:∀j,j<6->0<=u.left.at j/\u.left.at j<=4:=λj a=>by
  have B:=g.l j a;have O:=BS v a C;have w:=r.2.1 j a;have t:(dx (([]:List bC).map bC.bx)).at j=0:=by rw[lN];rfl
  grind[ux]
 have i:∀j,j<6->0<=u.bs.at j/\u.bs.at j<=u.left.at j/\(p.bt.at j=0->u.bs.at j=u.left.at j):=λj a=>by
  have B:=g.l j a;have I:=g.o j a;have D:=DO (p:=p) a (VJ p u.bn);have m:=qJ e a;have w:=r.2.1 j a;have E:=r.2.2 j a;have t:(dx (([]:List bC).map bC.bx)).at j=0:=by rw[lN];rfl
  grind
 refine K2 ?_ (λx n=>?_) ?_
 ·have Q:(fR p u k).bm.ok=true:=ux.2 h;have G:AS (fR p u k)=true:=xl.2 λj a=>mw.2 (by
   have m:=qJ e a;have b:=i j a;refine⟨m.1,m.2.1,b.1,b.2.1,?_⟩;by_cases z:p.bt.at j=0;·exact .inr (b.2.2 z)
   ·exact .inl z);have K:(fR p u k).bj.length<=p.bj.length:=by
   have c:=δf (im p u) (p.bj.drop k);rw[εw] at c;show((p.bj.drop k).filter (im p u)).length<=_;omega
  have y:(fR p u k).bk=p.bk:=rfl;unfold gR;grind
 ·obtain⟨c,w⟩:=s x n;have b:=q x c;unfold jz at b ⊢;have y:(fR p u k).bk=p.bk:=rfl;rw[y];split at b;·omega
  ·rename_i t;rw[if_neg t];split at b;·cases b
   ·rename_i A;rw[if_neg A];grind[DK,BR,Mw]
 ·have c:=(A9 (by
   have:=e;unfold nW at this;rw[if_neg (by rw[d];simp)] at this;exact this)).1;exact((List.filter_sublist.trans (List.drop_sublist k _)).map bC.key).nodup c
end
theorem BP {a b c:bB} (h:¬lh a b) (k:¬lh b c):¬lh a c:=λd=>by
 grind[Mo,Xa]
theorem K1 {a b:bB}:¬lh a (cu a b)/\¬lh b (cu a b):=by
 unfold cu;split
 ·rename_i h;have h:lh a b:=h;grind[zC,Mo]
 ·rename_i h;exact⟨h,zC⟩
theorem xj {p:cj}:∀{k:Nat} {i:Int} {a b:bB},¬lh b (jw p k i a b)
 |0,_,_,b=>by grind[jw,zC];|k+1,i,a,b=>by
  simp only[jw];refine BP ?_ xj;split;·exact BP K1.2 xj
  ·exact zC
theorem DJ {p:cj} (o:Good p):∀{k:Nat} {i:Int} {a b:bB} {t:List Int},0<=i->i+k<=p.bj.length->t≠[]->kW i k t->jT p (a.bn++t)=true->¬lh ⟨a.bn++t,a.value+bF (VJ p t)⟩ (jw p k i a b)
 |0,i,a,b,t,_,_,r,c,_=>by
  cases t with
  |nil=>simp_all;|cons j t=>
   have:=c.2 j (by simp);omega
 |k+1,i,a,b,t,y,x,r,c,s=>by
  cases t with
  |nil=>simp_all;|cons j t=>
   have w:=c.2 j (by simp);have u:=γr.1 c.1;simp only[jw];by_cases n:j=i
   ·subst n;have g:Bd p t:=λm l=>by
     have:=c.2 m (by simp[l]);omega
    have d:jT p (a.bn++[j]++t)=true:=by simp_all
    have q:jT p (a.bn++[j])=true:=Oe o g d;rw[if_pos q];refine BP ?_ xj;rw[qt];simp only[bF];cases t with
    |nil=>
     grind[BP,xj,K1,bF,VJ,jS];|cons h f=>
     have:=DJ o (k:=k) (i:=j+1) (a:=⟨a.bn++[j],a.value+jS p j⟩) (b:=cu ⟨a.bn++[j],a.value+jS p j⟩ b) (t:=h::f) (by omega) (by omega) (by simp) ⟨u.2,λm l=>by
      have v:=c.2 m (γp _ l);grind⟩ d;have e:(⟨a.bn++j::h::f,a.value+((bN p.bj j.toNat ew.bu.bw).value+bF (VJ p (h::f)))⟩:bB)=⟨a.bn++[j]++h::f,a.value+jS p j+bF (VJ p (h::f))⟩:=by
      simp only[bB.mk.injEq,γG,γM,List.nil_append,jS,true_and];omega
     simp_all
   ·exact DJ o (by omega) (by omega) (by simp) ⟨c.1,λm l=>by
     have v:=c.2 m l;grind⟩ s
theorem DI {p:cj} (e:Good p) {t:List Int} (d:og p t):¬lh ⟨t,bF (VJ p t)⟩ (M9 p):=by
 rw[FU];by_cases c:t=[]
 ·subst c;exact xj
 ·have:=DJ e (k:=p.bj.length) (i:=0) (a:=⟨[],0⟩) (b:=⟨[],0⟩) (t:=t) (by omega) (by omega) c d.1 (by simpa[jT] using d.2);simp_all
theorem uw:∀{c a b:List Int},bD (c++a) (c++b)=bD a b
 |[],_,_=>rfl
 |x::c,a,b=>by
  simp only[γM,bD,Int.lt_irrefl,if_false];exact uw
noncomputable def oT (p:cj) (a:Int) (u:iI) (i:Int):iI:=
 if u.value=a then u else if im p u (oI p i)=true then(if jd (fR p (d_ p u i) (i+1).toNat) (a - (d_ p u i).value) 65536=true then d_ p u i else u) else u
noncomputable def jc (p:cj) (a:Int):Nat->iI
 |0=>⟨p.bm,p.bs,[],0,δ 8 false⟩
 |n+1=>oT p a (jc p a n) n
theorem mh {p:cj} (d:nW p=0):pz p ⟨p.bm,p.bs,[],0,δ 8 false⟩:=by
 have a:=cL d;refine⟨KL a,rfl,λk c=>?_,λk c=>?_,rfl,λb f e=>?_⟩
 ·show _=_ - (dx (([]:List bC).map bC.bx)).at k;grind[lN]
 ·show _=min (_ - (dx (([]:List bC).map (uy p))).at k) _;simp_all[lN,qJ,min]
 ·show _=decide (b∈([]:List Int));grind[bV]
theorem Ee {i:Int}:∀{L:List Int},L.Pairwise (·<·)->L=L.filter (λj=>decide (j<i))++L.filter (λj=>!decide (j<i))
 |[],_=>rfl
 |x::L,h=>by
  have a:=γr.1 h;have c:=Ee (i:=i) a.2;by_cases d:x<i;·grind
  ·have e:L.filter (λj=>decide (j<i))=[]:=δS.2 λj b=>by grind
   grind
theorem Ta {i:Int} {L:List Int} (h:i∉L):L.filter (λj=>decide (j<i+1))=L.filter (λj=>decide (j<i)):=by
 refine List.filter_congr λj a=>?_;grind
theorem S_ {i:Int} {L:List Int} (b:L.Pairwise (·<·)) (h:i∈L):L.filter (λj=>decide (j<i+1))=L.filter (λj=>decide (j<i))++[i]/\L=L.filter (λj=>decide (j<i))++i::L.filter (λj=>decide (i<j)):=by
 induction L with
 |nil=>cases h;|cons x L f=>
  have g:=γr.1 b;by_cases c:x=i
  ·subst c;have e:L.filter (λj=>decide (j<x))=[]:=δS.2 λj a=>by grind
   have k:L.filter (λj=>decide (j<x+1))=[]:=δS.2 λj a=>by grind
   have d:L.filter (λj=>decide (x<j))=L:=δ8.2 λj a=>by simp_all
   grind
  grind
theorem JJ {p:cj} (a:Good p):∀{L:List bC},(∀x∈L,x∈p.bj)->L≠[]->0<bF L
 |[],_,h=>absurd rfl h
 |x::L,h,_=>by
  have c:=(a.2.2.2.2 x (h x (γv ..))).2.2.2.1;have d:=(ot a (l:=L) λy b=>h y (γp _ b)).1;grind[bF]
theorem S9 {p:cj} (i:nW p=0) {k:Nat} (d:k<=p.bj.length) {M:List bC} (g:∀x∈M,x∈p.bj.drop k) (c:M.Nodup):∃t:List Int,t.Pairwise (·<·)/\(∀j∈t,(k:Int)<=j/\j<p.bj.length)/\(VJ p t).Perm M:=by
 obtain⟨t,b,h,a⟩:=FQ (λx=>decide (x∈M)) (p.bj.drop k) (p.bj.take k);have e:(p.bj.take k).length=k:=by simp_all
 refine⟨t,b,λj f=>?_,?_⟩;·grind
 ·rw[List.take_append_drop] at a;unfold VJ;rw[a];refine(List.perm_ext_iff_of_nodup ?_ c).2 λx=>?_;·grind[MF]
  simp_all
theorem oR {p:cj} (d:nW p=0):og p (M9 p).bn/\(M9 p).value=bF (VJ p (M9 p).bn):=by
 obtain⟨_,a,b,c⟩:=Mr d;exact⟨⟨b,a⟩,c⟩
theorem Ed {p:cj} (m:nW p=0) (W:p.bj.length<=15):∀n:Nat,n<=p.bj.length->pz p (jc p (M9 p).value n)/\(jc p (M9 p).value n).bn=(M9 p).bn.filter λ(j:Int)=>decide (j<(n:Int))
 |0,_=>⟨mh m,by
   have h:=(oR m).1.1.2;exact(δS.2 λj g=>by simp_all).symm⟩
 |n+1,hn=>by
  obtain⟨G,P⟩:=Ed m W n (by omega);have o:=cL m;obtain⟨⟨⟨hs,hr⟩,hF⟩,hv⟩:=oR m;have a7:og p (M9 p).bn:=⟨⟨hs,hr⟩,hF⟩;have I:∀j∈(jc p (M9 p).value n).bn,j<(n:Int):=λj g=>by
   simp_all
  have N:((n:Nat):Int)+1=((n+1:Nat):Int):=by omega
  have J:(0:Int)<=n/\(n:Int)<p.bj.length:=by omega
  have q:oI p n∈p.bj:=cA (by omega);have a4:=Ee (i:=(n:Int)) hs;show pz p (oT p (M9 p).value (jc p (M9 p).value n) n)/\(oT p (M9 p).value (jc p (M9 p).value n) n).bn=_;generalize jc p (M9 p).value n=u at*;have C:∀{t:List Int},(∀j∈t,j∈(M9 p).bn)->∀x∈VJ p t,x∈p.bj:=λht x q=>by
   obtain⟨j,g,rfl⟩:=Γ.1 q;have:=hr j (ht j g);exact cA (by omega)
  by_cases e:u.value=(M9 p).value
  ·unfold oT;rw[if_pos e];refine⟨G,?_⟩;have R:(M9 p).bn.filter (λj=>!decide (j<(n:Int)))=[]:=by
    refine Classical.byContradiction λU=>?_;have S:=JJ o (L:=VJ p ((M9 p).bn.filter (λj=>!decide (j<(n:Int))))) (C λj g=>(Ψ.1 g).1) (by unfold VJ;simpa using U);rw[G.v,P,hv] at e;grind[rH,mv]
   have a1:∀j∈(M9 p).bn,j<(n:Int):=λj g=>by
    grind
   rw[P,δ8.2 λj g=>by grind];exact(δ8.2 λj g=>by grind).symm
  ·by_cases K:(n:Int)∈(M9 p).bn
   ·obtain⟨f1,f2⟩:=S_ hs K;rw[<-P] at f1 f2;have A:fp p (VJ p u.bn++[oI p n]++VJ p ((M9 p).bn.filter λj=>decide ((n:Int)<j))):=by
     have:VJ p u.bn++[oI p n]++VJ p ((M9 p).bn.filter λj=>decide ((n:Int)<j))=VJ p (M9 p).bn:=by
      conv=>rhs;rw[f2]
      rw[rH,qt,γG];rfl
     grind
    have B:=C (t:=(M9 p).bn.filter λj=>decide ((n:Int)<j)) λj g=>(Ψ.1 g).1;have Q:im p u (oI p n)=true:=(BR m G q).2 (Bc o B A);have c:=G.next m I J Q;have z:=BQ (k:=((n:Int)+1).toNat) m c;have r:VJ p (d_ p u n).bn=VJ p u.bn++[oI p n]:=by
     show VJ p (u.bn++[(n:Int)])=_;rw[rH];rfl
    have O:∀x∈VJ p ((M9 p).bn.filter λj=>decide ((n:Int)<j)),im p (d_ p u n) x=true:=λx w=>by
     refine(BR m c (B x w)).2 ?_;rw[r];obtain⟨s,t,a0⟩:=List.append_of_mem w;have F:(VJ p u.bn++[oI p n]++VJ p ((M9 p).bn.filter λj=>decide ((n:Int)<j))).Perm (VJ p u.bn++[oI p n]++[x]++(s++t)):=by
      rw[a0,γG (VJ p u.bn++[oI p n])];refine ζS _ ?_;exact List.perm_middle
     refine Bc o (M:=s++t) (λy hy=>B y ?_) (A_ F A);grind
    have Y:=(DK (k:=((n:Int)+1).toNat) m c B O).2 (by grind);have Z:∀x∈VJ p ((M9 p).bn.filter λj=>decide ((n:Int)<j)),x∈(fR p (d_ p u n) ((n:Int)+1).toNat).bj:=λx w=>by
     refine Ψ.2 ⟨?_,O x w⟩;obtain⟨j,g,rfl⟩:=Γ.1 w;obtain⟨V,a8⟩:=Ψ.1 g;have h3:=hr j V;have h4:(n:Int)<j:=by grind
     rw[bV (by omega)];rw[List.mem_iff_getElem];exact⟨j.toNat - ((n:Int)+1).toNat,by grind,by rw[List.getElem_drop];congr 1;omega⟩
    have H:=SI z Y Z;rw[zD z] at H;have a2:(M9 p).value=(d_ p u n).value+bF (VJ p ((M9 p).bn.filter λj=>decide ((n:Int)<j))):=by
     rw[c.v,r,hv];conv=>lhs;rw[f2,rH,qt,mv]
     rw[mv];grind[bF,oI]
    have T:(fR p (d_ p u n) ((n:Int)+1).toNat).bj.length<=15:=by
     have S:=δf (im p (d_ p u n)) (p.bj.drop ((n:Int)+1).toNat);rw[εw] at S;show((p.bj.drop _).filter _).length<=15;omega
    have l:iq (fR p (d_ p u n) ((n:Int)+1).toNat) ((M9 p).value - (d_ p u n).value) 65536=0:=D0 z (by omega) (by
     have:2^((fR p (d_ p u n) ((n:Int)+1).toNat).bj.length+1)<=2^16:=δt (by omega) (by omega);omega);have E:jd (fR p (d_ p u n) ((n:Int)+1).toNat) ((M9 p).value - (d_ p u n).value) 65536=true:=(KG z l).2 (by omega);unfold oT;rw[if_neg e,if_pos Q,if_pos E];refine⟨c,?_⟩;rw[<-N,f1];rfl
   ·rw[<-N,Ta K,<-P];unfold oT;rw[if_neg e];split
    ·rename_i Q;split
     ·rename_i E;exfalso;have c:=G.next m I J Q;have z:=BQ (k:=((n:Int)+1).toNat) m c;have r:VJ p (d_ p u n).bn=VJ p u.bn++[oI p n]:=by
       show VJ p (u.bn++[(n:Int)])=_;rw[rH];rfl
      have T:(fR p (d_ p u n) ((n:Int)+1).toNat).bj.length<=15:=by
       have S:=δf (im p (d_ p u n)) (p.bj.drop ((n:Int)+1).toNat);rw[εw] at S;show((p.bj.drop _).filter _).length<=15;omega
      have l:iq (fR p (d_ p u n) ((n:Int)+1).toNat) ((M9 p).value - (d_ p u n).value) 65536=0:=D0 z (by omega) (by
       have:2^((fR p (d_ p u n) ((n:Int)+1).toNat).bj.length+1)<=2^16:=δt (by omega) (by omega);omega);have a6:=(KG z l).1 E;obtain⟨M,m1,m2,m3⟩:=Tt z;rw[zD z] at m3;have D:∀x∈M,x∈p.bj.drop ((n:Int)+1).toNat/\im p (d_ p u n) x=true:=λx q=>Ψ.1 (m2 x q);have A:=(DK m c (λx q=>List.mem_of_mem_drop (D x q).1) λx q=>(D x q).2).1 m1;obtain⟨t,t1,t2,t3⟩:=S9 m (k:=((n:Int)+1).toNat) (by omega) (λx q=>(D x q).1) (A8 bC.TM m1.1);have hT:og p (u.bn++(n:Int)::t):=by
       refine⟨⟨?_,?_⟩,?_⟩
       ·rw[δI];refine⟨G.f.1.1,γr.2 ⟨λj g=>by grind,t1⟩,λa ha b hb=>?_⟩;grind
       ·intro j g;rcases γi.1 g with h|h;·grind
        ·rcases List.mem_cons.1 h with rfl|h<;>grind
       ·rw[rH,qt];refine A_ ?_ A;rw[r,γG];exact ζS _ (List.Perm.cons _ t3.symm)
      have a3:bF (VJ p (u.bn++(n:Int)::t))=(d_ p u n).value+bF M:=by
       rw[c.v,r,rH,qt,mv,mv,<-MG t3];grind[bF,oI]
      have H:=xS o hT.1 (decide_eq_true hT.2);refine DI o hT (.inr ⟨(show bF (VJ p (u.bn++(n:Int)::t))=(M9 p).value by omega),?_⟩);show bD (u.bn++(n:Int)::t) (M9 p).bn<0;have R:(M9 p).bn=u.bn++(M9 p).bn.filter (λj=>!decide (j<(n:Int))):=by grind
      have a5:(M9 p).bn.filter (λj=>!decide (j<(n:Int)))≠[]:=λh=>by
       rw[h,γ0] at R;refine e ?_;rw[G.v,<-R,hv]
      have X:∀j∈(M9 p).bn.filter (λj=>!decide (j<(n:Int))),(n:Int)<j:=λj g=>by
       grind
      rw[R];generalize (M9 p).bn.filter (λj=>!decide (j<(n:Int)))=d at*;cases d with
      |nil=>grind;|cons j d=>
       rw[uw];have:=X j (by simp);simp only[bD];omega
     grind
    grind
theorem JI {p:cj} (b:nW p=0) (a:p.bj.length<=15):(jc p (M9 p).value p.bj.length).bn=(M9 p).bn:=by
 rw[(Ed b a p.bj.length (π _)).2];have h:=(oR b).1.1.2;simp_all
def ob (p:cj) (c:List Int) (b:bB):bB:=if b.value<cB p c then⟨c,cB p c⟩ else b
noncomputable def ik (p:cj):Nat->Int->List Int->bB->bB
 |0,_,_,b=>b
 |k+1,i,c,b=>ik p k (i+1) c (if bT p (c++[i])=0 then ik p k (i+1) (c++[i]) (ob p (c++[i]) b) else b)
noncomputable def jF (p:cj) (c:List Int) (i:Int) (b:bB):bB:=ik p (dg p i) i c (ob p c b)
theorem S8 {c t:List Int}:¬bD (c++t) c<0:=by
 have h:=@uw c t [];rw[γ0] at h;rw[h];cases t<;>simp[bD]
theorem Ec {p:cj} {Q:List Int->Prop}:∀{k:Nat} {i:Int} {c:List Int} {b:bB},(∀s,Q (c++s))->Q b.bn->Q (ik p k i c b).bn
 |0,_,_,_,_,h=>h
 |k+1,i,c,b,hs,h=>by
  simp only[ik];refine Ec hs ?_;split
  ·refine Ec (λs=>by rw[γG];exact hs _) ?_;unfold ob;split;·exact hs [i]
   ·exact h
  ·exact h
theorem Eb {p:cj} (hc:nW p=0):∀{k:Nat} {i:Int} {c:List Int} {b:bB},0<=i->i+k=p.bj.length->kW 0 i.toNat c->bT p c=0->(∀j t,i<=j->¬bD (c++j::t) b.bn<0)->jw p k i ⟨c,cB p c⟩ b=ik p k i c b
 |0,_,_,_,_,_,_,_,_=>rfl
 |k+1,i,c,b,h0,h1,hi,hf,hb=>by
  simp only[jw,ik];have hin:kW 0 p.bj.length (c++[i]):=by
   refine⟨δI.2 ⟨hi.1,ζH _ _,λa ha b hb=>?_⟩,λj hj=>?_⟩
   ·rw[δd.1 hb];have:=hi.2 a ha;omega
   ·rcases γi.1 hj with hj|hj
    ·have:=hi.2 j hj;omega
    ·rw[δd.1 hj];omega
  have hcond:jT p (c++[i])=true↔bT p (c++[i])=0:=by
   rw[oU hc];unfold jT;rw[decide_eq_true_eq];exact⟨λh=>⟨hin,h⟩,λh=>h.2⟩
  have aMc:∀{b':bB},(∀j t,i+1<=j->¬bD (c++j::t) b'.bn<0)->jw p k (i+1) ⟨c,cB p c⟩ b'=ik p k (i+1) c b':=λh=>
   Eb hc (by omega) (by omega) ⟨hi.1,λj hj=>by have:=hi.2 j hj;omega⟩ hf h;by_cases h:bT p (c++[i])=0
  ·rw[if_pos (hcond.2 h),if_pos h];have hv:cB p c+jS p i=cB p (c++[i]):=by
    rw[uE hc ((oU hc).1 hf),uE hc ((oU hc).1 h)];unfold VJ;rw[γb,mv];simp[bF,jS,oI]
   have hu:cu ⟨c++[i],cB p (c++[i])⟩ b=ob p (c++[i]) b:=by
    unfold cu ob;have:=hb i [] (by omega);by_cases hw:b.value<cB p (c++[i]);·rw[if_pos (.inl hw),if_pos hw]
    ·rw[if_neg (λh=>h.elim hw λh=>this h.2),if_neg hw]
   rw[hv,hu];have hQ:∀j t,i+1<=j->¬bD (c++[i]++j::t) (ob p (c++[i]) b).bn<0:=λj t hj=>by
    unfold ob;split;·exact S8
    ·rw[γG];exact hb i (j::t) (by omega)
   rw[Eb hc (by omega) (by omega) ⟨hin.1,λj hj=>by
    rcases γi.1 hj with hj|hj
    ·have:=hi.2 j hj;omega
    ·rw[δd.1 hj];omega⟩ h hQ];refine aMc (Ec (Q:=λl=>∀j t,i+1<=j->¬bD (c++j::t) l<0) (λs j t hj=>?_) λj t hj=>?_)
   ·rw[γG,uw];show ¬bD (j::t) (i::s)<0;simp only[bD];rw[if_neg (by omega),if_pos (by omega)];decide
   ·unfold ob;split
    ·rw[uw];show ¬bD (j::t) [i]<0;simp only[bD];rw[if_neg (by omega),if_pos (by omega)];decide
    ·exact hb j t (by omega)
  ·rw[if_neg (λq=>h (hcond.1 q)),if_neg h];exact aMc λj t hj=>hb j t (by omega)
theorem S7 {p:cj} (hc:nW p=0):jF p [] 0 ⟨[],0⟩=M9 p:=by
 have hn:bT p []=0:=(oU hc).2 (KL (cL hc));have hv:cB p []=0:=by rw[uE hc ((oU hc).1 hn)];rfl
 have h:=Eb hc (k:=dg p 0) (i:=0) (c:=[]) (b:=⟨[],0⟩) (by omega) (by unfold dg;omega) ⟨δv,λj hj=>by cases hj⟩ hn (λj t _=>by simp[bD]);have hu:ob p [] ⟨[],0⟩=⟨[],0⟩:=by unfold ob;rw[hv];rfl
 have hb:cu ⟨[],0⟩ ⟨[],0⟩=⟨[],0⟩:=by unfold cu;simp[bD]
 unfold jF M9 F1;rw[hu,hb,<-h,hv]
def uv (p:cj) (c:List Int) (i:Int) (b:bB):Prop:=nW p=0/\(0<=i/\i<=p.bj.length)/\c.length<=i/\b.bn.length<=160
noncomputable def mL (n:Nat):NG:=⟨35,cj×List Int×Int×bB,.cons cV (.cons (cO (.i .i64)) (.cons (dX .i64) (.one kp))),λa=>uv a.1 a.2.1 a.2.2.1 a.2.2.2/\dg a.1 a.2.2.1<n,
 λa=>kp.put (jF a.1 a.2.1 a.2.2.1 a.2.2.2)⟩
noncomputable def M6 (n:Nat):List NG:=[mL n,Cb,Cc]
noncomputable def BO (p:cj) (c:List Int) (f:Int) (b:bB) (dd:TP):Nat->bJ
 |5=> .inv (Int×bB) (λx=>⟨[(1,.row (.i .i64) c),(4,.ptr 0 0 20),(7,.ptr 1 0 2),(8,.ptr 2 0 2),(10,.si .i64 x.1)],
   [.cells p.ss 27 20 false,.cells [.row (.i .i64) x.2.bn,.si .i64 x.2.value] 40 2 false,.cells [.sc (.slice none 0 0),.il .i64 0] 40 2 false]++dd⟩)
   (λs=>(iS s 10,aS s 1)) (λx=>f<=x.1/\x.1<=p.bj.length/\x.2.bn.length<=160/\jF p c f b=ik p (dg p x.1) x.1 c x.2) (λx=>dg p x.1) λ_ _=> .look
 |_=> .look
theorem Ea {p:cj} (hN:p.bj.length<=160):∀{k:Nat} {i:Int} {c:List Int} {b:bB},c.length<=i->i+k<=p.bj.length->b.bn.length<=160->(ik p k i c b).bn.length<=160
 |0,_,_,_,_,_,h=>h
 |k+1,i,c,b,h1,h2,h3=>by
  simp only[ik];refine Ea hN (by omega) (by omega) ?_;split
  ·refine Ea hN (by simp;omega) (by omega) ?_;unfold ob;split;·simp;omega
   ·exact h3
  ·exact h3
theorem JH {p:cj} (hN:p.bj.length<=160) {c:List Int} {i:Int} {b:bB} (h0:0<=i) (h1:i<=p.bj.length) (h2:c.length<=i) (h3:b.bn.length<=160):(jF p c i b).bn.length<=160:=by
 unfold jF;refine Ea hN h2 (by unfold dg;omega) ?_;unfold ob;split;·simp only;omega
 ·exact h3
theorem I4 {env:_} {x0:iZ} {c:List Int} {v:Int} {n m:_} {b:Bool} {r:TP}:aS ⟨env,x0:: .cells [.row (.i .i64) c,.si .i64 v] n m b::r⟩ 1=⟨c,v⟩:=rfl
theorem TC (n:Nat) (p:cj) (c:List Int) (f:Int) (b:bB) (h:uv p c f b) (hn:dg p f<n+1) (hv:b.value<cB p c):
  Vc (oj (kr (M6 n) ku.none mi ml fQ) (BO p c f b [.dead,.dead]) (fG 35) ((mL (n+1)).A.put (p,c,f,b)) λv=>v.bi ((mL (n+1)).res (p,c,f,b))):=by
 obtain⟨d,w⟩:=b;refine NI (let a:=γj .i64;let b:=γa;let e:=iZ.cells;let g:=γV;let z:=(↑p.bj.length:Int);let s:=jF p c f (bB.mk d w);let t:=0+c.length;let D:=c.length+1;let h:=ew.i .i64;let m:=g 0 0 20;let o:=g 1 0 2;let q:=g 2 0 2;let r:=e [a p.bm.a0,a p.bm.a1,a p.bm.a2,a p.bm.a3,a p.bm.a4,a p.bm.a5,a p.bs.a0,a p.bs.a1,a p.bs.a2,a p.bs.a3,a p.bs.a4,a p.bs.a5,a p.bt.a0,a p.bt.a1,a p.bt.a2,a p.bt.a3,a p.bt.a4,a p.bt.a5,b h p.bk,b ew.bu p.bj] 27 20 false;let A:=(1,b h c);let k:=e [SV.sc (Value.slice none 0 0),γC .i64 0] 40 2 false;let B:=[iZ.dead,iZ.dead];let v:=a f;let E:=decide (w<cB p c);let F:=∀(x:Int×bB),let j:=x.1+(1:Int);let C:=a j;let G:=decide (x.1<(↑p.bj.length:Int));let l:=c++[x.1];let H:=decide (bT p l=(0:Int));let I:=λ(u:bB) ↦let J:=e [b h u.bn,a u.value] 40 2 false;let y:=aS (bE.mk [A,(4,m),(7,o),(8,q),(10,C)] (r::J::k::B)) 1;VL .i64 j/\(((b h c).bi (b h c)/\m.bi m/\o.bi o/\q.bi q/\C.bi C/\True)/\r.bi r/\J.bi (e [b h y.bn,a y.value] 40 2 false)/\k.bi k/\iZ.dead.bi iZ.dead/\iZ.dead.bi iZ.dead/\True)/\(f<=j/\j<=z/\y.bn.length<=160/\s=ik p (dg p j) j c y)/\dg p j<dg p x.1;f<=x.1/\x.1<=z/\x.2.bn.length<=160/\s=ik p (dg p x.1) x.1 c x.2->(G=true->0=0/\t*8<=140737488355328/\t<=1000000000000/\c.length=c.length/\D*8<=140737488355328/\D<=1000000000000/\l.length=l.length/\l.length<=9223372036854775807/\(H=true->l.length=l.length/\VL .i64 j/\(uv p l j x.2/\dg p j<n)/\I (jF p l j x.2))/\(H=false->I x.2))/\(G=false->(γN [b h x.2.bn,a x.2.value]).bi (γN [b h s.bn,a s.value]));let K:=r.bi r;let L:=(b h c).bi (b h c)/\m.bi m/\o.bi o/\q.bi q/\v.bi v/\True;let M:=λ(u:List Int) (u_1:Int) (u_2:List iZ) ↦let N:=e [b h u,a u_1] 40 2 false;let O:=aS (bE.mk [A,(4,m),(7,o),(8,q),(10,v)] (r::N::k::u_2)) 1;N.bi (e [b h O.bn,a O.value] 40 2 false);let P:=λ(u:List Int) (u_1:Int) (u_2:List iZ) ↦let Q:=aS (bE.mk [A,(4,m),(7,o),(8,q),(10,v)] (r::e [b h u,a u_1] 40 2 false::k::u_2)) 1;f<=f/\f<=z/\Q.bn.length<=160/\s=ik p (dg p f) f c Q;c.length<=9223372036854775807/\(E=true->0=0/\t*8<=140737488355328/\t<=1000000000000/\c.length=c.length/\((L/\K/\M c (cB p c) B/\k.bi k/\iZ.dead.bi iZ.dead/\iZ.dead.bi iZ.dead/\True)/\P c (cB p c) B)/\F)/\(E=false->((L/\K/\M d w []/\k.bi k/\False)/\P d w [])/\F)) (by kernel_rfl) ?_;conv=>zeta
 obtain⟨hc,hf,hcl,hdl⟩:=h;simp only at hcl hdl hv;simp only[vcs,I4];have hN:p.bj.length<=160:=(cL hc).2.1;have iw:jF p c f ⟨d,w⟩=ik p (dg p f) f c (if w<cB p c then⟨c,cB p c⟩ else⟨d,w⟩):=rfl;have round:∀x:Int×bB,f<=x.1/\x.1<=p.bj.length/\x.2.bn.length<=160/\jF p c f ⟨d,w⟩=ik p (dg p x.1) x.1 c x.2->x.1<p.bj.length->
   dg p x.1=dg p (x.1+1)+1/\dg p (x.1+1)<n/\dg p (x.1+1)<dg p x.1/\(c++[x.1]).length=c.length+1/\
   jF p c f ⟨d,w⟩=ik p (dg p (x.1+1)) (x.1+1) c (if bT p (c++[x.1])=0 then jF p (c++[x.1]) (x.1+1) x.2 else x.2):=λx hx hlt=>by
  obtain⟨h1,h2,h3,h4⟩:=hx;have hl:dg p x.1=dg p (x.1+1)+1:=by unfold dg;omega
  have hlf:dg p x.1<=dg p f:=by unfold dg;omega
  refine⟨hl,by omega,by omega,by simp,?_⟩;rw[h4,hl];rfl
 have len:∀{c':List Int} {i:Int} {b:bB},0<=i->i<=p.bj.length->c'.length<=i->b.bn.length<=160->(jF p c' i b).bn.length<=160:=λh0 h1 h2 h3=>JH hN h0 h1 h2 h3;refine⟨by omega,λh1=>⟨by omega,by omega,⟨by omega,by omega,by omega,?_⟩,?_⟩,λh1=>absurd hv h1⟩;·rw[iw,if_pos h1]
 ·rintro⟨i,⟨e,u⟩⟩ hx;obtain⟨hi0,hi1,hs,hi⟩:=id hx;simp only at hi0 hi1 hs hi;refine⟨λhlt=>?_,λhge=>?_⟩
  ·obtain⟨r1,r2,r3,r4,r5⟩:=round ⟨i,⟨e,u⟩⟩ hx hlt;simp only at r1 r2 r3 r5;have r4:(c++[i]).length=c.length+1:=r4;refine⟨by omega,by omega,by omega,by omega,by omega,λhr=>?_,λhr=>?_⟩
   ·rw[if_pos hr] at r5;exact⟨by omega,⟨⟨hc,by omega,by omega,hs⟩,r2⟩,by omega,⟨by omega,by omega,len (by omega) (by omega) (by omega) hs,r5⟩,r3⟩
   ·rw[if_neg hr] at r5;refine⟨?_,⟨?_,?_,hs,r5⟩,r3⟩<;>omega
  ·have hl:dg p i=0:=by unfold dg;omega
   rw[hl] at hi;simp only[ik] at hi;rw[hi];exact rfl
theorem TB (n:Nat) (p:cj) (c:List Int) (f:Int) (b:bB) (h:uv p c f b) (hn:dg p f<n+1) (hv:¬b.value<cB p c):
  Vc (oj (kr (M6 n) ku.none mi ml fQ) (BO p c f b []) (fG 35) ((mL (n+1)).A.put (p,c,f,b)) λv=>v.bi ((mL (n+1)).res (p,c,f,b))):=by
 obtain⟨d,w⟩:=b;refine NI (let a:=γj .i64;let b:=γa;let e:=iZ.cells;let g:=γV;let z:=(↑p.bj.length:Int);let s:=jF p c f (bB.mk d w);let t:=0+c.length;let C:=c.length+1;let h:=ew.i .i64;let m:=g 0 0 20;let o:=g 1 0 2;let q:=g 2 0 2;let r:=e [a p.bm.a0,a p.bm.a1,a p.bm.a2,a p.bm.a3,a p.bm.a4,a p.bm.a5,a p.bs.a0,a p.bs.a1,a p.bs.a2,a p.bs.a3,a p.bs.a4,a p.bs.a5,a p.bt.a0,a p.bt.a1,a p.bt.a2,a p.bt.a3,a p.bt.a4,a p.bt.a5,b h p.bk,b ew.bu p.bj] 27 20 false;let A:=(1,b h c);let k:=e [SV.sc (Value.slice none 0 0),γC .i64 0] 40 2 false;let v:=a f;let D:=decide (w<cB p c);let E:=[iZ.dead,iZ.dead];let F:=∀(x:Int×bB),let j:=x.1+(1:Int);let B:=a j;let G:=decide (x.1<(↑p.bj.length:Int));let l:=c++[x.1];let H:=decide (bT p l=(0:Int));let I:=λ(u:bB) ↦let J:=e [b h u.bn,a u.value] 40 2 false;let y:=aS (bE.mk [A,(4,m),(7,o),(8,q),(10,B)] [r,J,k]) 1;VL .i64 j/\(((b h c).bi (b h c)/\m.bi m/\o.bi o/\q.bi q/\B.bi B/\True)/\r.bi r/\J.bi (e [b h y.bn,a y.value] 40 2 false)/\k.bi k/\True)/\(f<=j/\j<=z/\y.bn.length<=160/\s=ik p (dg p j) j c y)/\dg p j<dg p x.1;f<=x.1/\x.1<=z/\x.2.bn.length<=160/\s=ik p (dg p x.1) x.1 c x.2->(G=true->0=0/\t*8<=140737488355328/\t<=1000000000000/\c.length=c.length/\C*8<=140737488355328/\C<=1000000000000/\l.length=l.length/\l.length<=9223372036854775807/\(H=true->l.length=l.length/\VL .i64 j/\(uv p l j x.2/\dg p j<n)/\I (jF p l j x.2))/\(H=false->I x.2))/\(G=false->(γN [b h x.2.bn,a x.2.value]).bi (γN [b h s.bn,a s.value]));let K:=r.bi r;let L:=(b h c).bi (b h c)/\m.bi m/\o.bi o/\q.bi q/\v.bi v/\True;let M:=λ(u:List Int) (u_1:Int) (u_2:List iZ) ↦let N:=e [b h u,a u_1] 40 2 false;let O:=aS (bE.mk [A,(4,m),(7,o),(8,q),(10,v)] (r::N::k::u_2)) 1;N.bi (e [b h O.bn,a O.value] 40 2 false);let P:=λ(u:List Int) (u_1:Int) (u_2:List iZ) ↦let Q:=aS (bE.mk [A,(4,m),(7,o),(8,q),(10,v)] (r::e [b h u,a u_1] 40 2 false::k::u_2)) 1;f<=f/\f<=z/\Q.bn.length<=160/\s=ik p (dg p f) f c Q;c.length<=9223372036854775807/\(D=true->0=0/\t*8<=140737488355328/\t<=1000000000000/\c.length=c.length/\((L/\K/\M c (cB p c) E/\k.bi k/\False)/\P c (cB p c) E)/\F)/\(D=false->((L/\K/\M d w []/\k.bi k/\True)/\P d w [])/\F)) (by kernel_rfl) ?_;conv=>zeta
 obtain⟨hc,hf,hcl,hdl⟩:=h;simp only at hcl hdl hv;simp only[vcs,I4];have hN:p.bj.length<=160:=(cL hc).2.1;have iw:jF p c f ⟨d,w⟩=ik p (dg p f) f c (if w<cB p c then⟨c,cB p c⟩ else⟨d,w⟩):=rfl;have round:∀x:Int×bB,f<=x.1/\x.1<=p.bj.length/\x.2.bn.length<=160/\jF p c f ⟨d,w⟩=ik p (dg p x.1) x.1 c x.2->x.1<p.bj.length->
   dg p x.1=dg p (x.1+1)+1/\dg p (x.1+1)<n/\dg p (x.1+1)<dg p x.1/\(c++[x.1]).length=c.length+1/\
   jF p c f ⟨d,w⟩=ik p (dg p (x.1+1)) (x.1+1) c (if bT p (c++[x.1])=0 then jF p (c++[x.1]) (x.1+1) x.2 else x.2):=λx hx hlt=>by
  obtain⟨h1,h2,h3,h4⟩:=hx;have hl:dg p x.1=dg p (x.1+1)+1:=by unfold dg;omega
  have hlf:dg p x.1<=dg p f:=by unfold dg;omega
  refine⟨hl,by omega,by omega,by simp,?_⟩;rw[h4,hl];rfl
 have len:∀{c':List Int} {i:Int} {b:bB},0<=i->i<=p.bj.length->c'.length<=i->b.bn.length<=160->(jF p c' i b).bn.length<=160:=λh0 h1 h2 h3=>JH hN h0 h1 h2 h3;refine⟨by omega,λh1=>absurd h1 hv,λh1=>⟨⟨by omega,by omega,by omega,?_⟩,?_⟩⟩;·rw[iw,if_neg h1]
 ·rintro⟨i,⟨e,u⟩⟩ hx;obtain⟨hi0,hi1,hs,hi⟩:=id hx;simp only at hi0 hi1 hs hi;refine⟨λhlt=>?_,λhge=>?_⟩
  ·obtain⟨r1,r2,r3,r4,r5⟩:=round ⟨i,⟨e,u⟩⟩ hx hlt;simp only at r1 r2 r3 r5;have r4:(c++[i]).length=c.length+1:=r4;refine⟨by omega,by omega,by omega,by omega,by omega,λhr=>?_,λhr=>?_⟩
   ·rw[if_pos hr] at r5;exact⟨by omega,⟨⟨hc,by omega,by omega,hs⟩,r2⟩,by omega,⟨by omega,by omega,len (by omega) (by omega) (by omega) hs,r5⟩,r3⟩
   ·rw[if_neg hr] at r5;refine⟨?_,⟨?_,?_,hs,r5⟩,r3⟩<;>omega
  ·have hl:dg p i=0:=by unfold dg;omega
   rw[hl] at hi;simp only[ik] at hi;rw[hi];exact rfl
theorem D_:∀n,Holds Tryz.prog (mL n)
 |0=>by
  rintro⟨p,c,f,b⟩ ⟨_,h⟩;exact absurd h (Nat.not_lt_zero _);|n+1=>by
  rintro⟨p,c,f,b⟩ ⟨h1,h2⟩;by_cases hc:dg p f<n;·exact D_ n (p,c,f,b) ⟨h1,hc⟩
  ·have hL:∀c∈M6 n,Holds Tryz.prog c:=by
    simp only[M6,List.forall_mem_cons,List.not_mem_nil,false_implies,implies_true,and_true];exact⟨D_ n,Qp,Qq⟩
   have hfr:∀d,lj (mL (n+1)).f (M6 n)=some d->∀b2,gL ((mL (n+1)).A.put (p,c,f,b))=gL (d.A.put b2)->¬d.dom b2:=by
    intro d hd b2 hb1 hb3;have hd2:d=mL n:=by
     have:lj 35 (M6 n)=some (mL n):=rfl;have hd3:lj 35 (M6 n)=some d:=hd;rw[this] at hd3;injection hd3 with hd3;exact hd3.symm
    subst hd2;have:=(mL n).A.inj _ _ hb1;rw[<-this] at hb3;exact hc hb3.2
   by_cases hv:b.value<cB p c;·exact NL (L:=M6 n) (mL (n+1)) (fG 35) (BO p c f b [.dead,.dead]) (mz.none _) hL (show fQ 35=some (fG 35) by kernel_rfl) (p,c,f,b) rfl hfr (TC n p c f b h1 h2 hv)
   ·exact NL (L:=M6 n) (mL (n+1)) (fG 35) (BO p c f b []) (mz.none _) hL (show fQ 35=some (fG 35) by kernel_rfl) (p,c,f,b) rfl hfr (TB n p c f b h1 h2 hv)
noncomputable def D9:NG:=⟨20,cj,.one cV,λp=>nW p=0,λp=>kp.put (M9 p)⟩
theorem H9:Holds Tryz.prog D9:=by
 refine bM (L:=[mL 161]) D9 lk (by simpa using D_ 161) ?_;rintro(p:cj) (hc:nW p=0);refine NI (let a:=(0:Int);let b:=bB.mk [] a;let c:=jF p [] a b;(uv p [] a b/\dg p a<161)/\(γN [γa (ew.i .i64) c.bn,γj .i64 c.value]).bi (γN [γa (ew.i .i64) (M9 p).bn,γj .i64 (M9 p).value])) (by kernel_rfl) ?_;conv=>zeta
 have hN:=(cL hc).2.1;refine⟨⟨⟨hc,⟨by omega,by omega⟩,by simp,by simp⟩,by unfold dg;omega⟩,?_⟩;rw[S7 hc];exact rfl
def TA (p:cj):Int:=pI p (allM p)
theorem Tz {p:cj} (a:nW p=0):og p (M9 p).bn/\cB p (M9 p).bn=(M9 p).value/\(M9 p).value=TA p:=by
 obtain⟨_,d,b,e⟩:=Mr a;have c:og p (M9 p).bn:=⟨b,d⟩;exact⟨c,by grind[uE],(zD a).symm⟩
def Qk (n:cy):SV:=.ite (decide (n.1=1)) (.ia 204 (cR Ao n)) (.ite (decide (n.1=2)) (.ia 205 (cR Ao n)) (.ite (decide (n.1=3)) (.ia 206 (cR Ao n)) (.ia 208 [])))
def BN:NG:=⟨86,cy,.one (dD Ao),λ_=>True,Qk⟩
theorem yJ:Holds Tryz.prog BN:=by
 refine bM (L:=[]) BN lk (by simp) ?_;rintro⟨k,o,a,b,y⟩ _;refine NI (let c:=γj .i64;let d:=(1:Int);let e:=(2:Int);let f:=(3:Int);let i:=decide (k=d);let g:=[c k,c o,c a,c b,γa sF y];let n:=θj 204 g;let j:=decide (k=e);let p:=θj 205 g;let l:=decide (k=f);let q:=θj 206 g;let h:=θj 208 [];let m:=λ(u:Int) (u_1:Nat) ↦decide (k=u)=true->(i=true->(θj u_1 g).bi n)/\(i=false->(j=true->(θj u_1 g).bi p)/\(j=false->(l=true->(θj u_1 g).bi q)/\(l=false->(θj u_1 g).bi h)));m d 204/\(decide (k=d)=false->m e 205/\(decide (k=e)=false->m f 206/\(decide (k=f)=false->(i=true->h.bi n)/\(i=false->(j=true->h.bi p)/\(j=false->(l=true->h.bi q)/\(l=false->h.bi h))))))) (by kernel_rfl) ?_;simp only[vcs];repeat' (first|refine And.intro ?_ ?_|intro _)
 all_goals first|trivial|omega
def py (n:cy):Bool:=decide (n.2.1=0)&&decide (n.2.2.1=0)&&decide (n.2.2.2.1=0)
def BM:NG:=⟨211,cy,.one (dD Ao),λ_=>True,λn=> .sb (py n)⟩
theorem yI:Holds Tryz.prog BM:=by
 refine bM (L:=[]) BM lk (by simp) ?_;rintro⟨k,o,a,b,y⟩ _;refine NI (let f:=δj false;let g:=(0:Int);let e:=decide (o=g);let d:=decide (a=g);let c:=γB (py (k,o,a,b,y));(e=true->(d=true->(γB (decide (b=g))).bi c)/\(d=false->(f).bi c))/\(e=false->(f).bi c)) (by kernel_rfl) ?_;simp_all[py]
def mU (n:cy):Bool:=py n&&decide (n.2.2.2.2.length<=40)&&n.2.2.2.2.all okF
def D8:NG:=⟨209,cy,.one (dD Ao),λn=>∀x∈n.2.2.2.2,gI x,λn=> .sb (mU n)⟩
def Ty (n:cy):Nat->bJ
 |4=> .inv Int (λi=>⟨[(18,.row sF n.2.2.2.2),(19,.si .i64 n.2.2.2.2.length),(20,.si .i64 i)],[.cells (cR Ao n) 204 5 false]⟩) (λs=>iS s 20)
  (λi=>0<=i/\i<=n.2.2.2.2.length/\(n.2.2.2.2.take i.toNat).all okF=true) (λi=>(n.2.2.2.2.length - i).toNat) λ_ _=> .look
 |_=> .look
theorem HQ:Holds Tryz.prog D8:=by
 refine bM (L:=[BM,sh]) D8 Ty (by simpa using⟨yI,nD⟩) ?_;rintro⟨k,o,a,b,y⟩ hy;have hy:∀x∈y,gI x:=hy;refine NI (let c:=γj .i64;let d:=(0:Int);let e:=δj false;let f:=γa;let p:=!py (k,o,a,b,y);let j:=γB (mU (k,o,a,b,y));let m:=(↑y.length:Int);let q:=decide ((40:Int)<m);let g:=(↑y.length:Int);let n:=c g;let l:=iZ.cells [c k,c o,c a,c b,f sF y] 204 5 false;True/\(p=true->(e).bi j)/\(p=false->(q=true->(e).bi j)/\(q=false->((((f sF y).bi (f sF y)/\(c m).bi n/\(γC .i64 0).bi (c 0)/\True)/\l.bi l/\True)/\d<=d/\d<=g/\true=true)/\∀(x:Int),let h:=bN y x.toNat sF.bw;let i:=x+(1:Int);let r:=c i;let s:=λ(u:Bool) ↦(!okF (h.1,h.2.1,h.2.2))=u;d<=x/\x<=g/\(Δ x.toNat y).all okF=true->(decide (x<g)=true->d<=x/\x<m/\x.toNat<y.length/\((ou h.2.1/\ou h.2.2)/\γd h.2.1<=10000000/\γd h.2.2<=10000000)/\(s true->(e).bi j)/\(s false->VL .i64 i/\(((f sF y).bi (f sF y)/\n.bi n/\r.bi r/\True)/\l.bi l/\True)/\(d<=i/\i<=g/\(Δ i.toNat y).all okF=true)/\(g - i).toNat<(g - x).toNat))/\(decide (x<g)=false->(δj true).bi j)))) (by kernel_rfl) ?_;simp only[vcs];refine⟨λh=>by simp[mU,h],λhp=>⟨λh40=>?_,λh40=>⟨⟨by omega,by omega⟩,?_⟩⟩⟩
 ·have:¬y.length<=40:=by omega
  simp[mU,this]
 rintro i ⟨i0,i1,hi⟩;refine⟨λhlt=>?_,λhge=>?_⟩
 ·have hm:=cA (d:=sF.bw) (show i.toNat<y.length by omega);have et:=ji (d:=sF.bw) i0 hlt;refine⟨i0,hlt,by omega,hy _ hm,λh=>?_,λh=>⟨⟨by omega,by omega⟩,⟨by omega,by omega,?_⟩,by omega⟩⟩
  ·have h:okF (bN y i.toNat sF.bw)=false:=h;have:y.all okF=false:=by
    rw[δN];intro ha;have:=ψ.1 ha _ hm;rw[h] at this;cases this
   simp[mU,this]
  ·have h:okF (bN y i.toNat sF.bw)=true:=h;rw[et,ζR,hi];simp[h]
 ·rw[show i.toNat=y.length by omega,φ] at hi;have:y.length<=40:=by omega
  simp[mU,hp,hi,this]
def mK (k:Int):Bool:=decide (0<=k)&&decide (k<=65536)
def pf (n:cy):Bool:=mK n.2.1&&mK n.2.2.1&&mK n.2.2.2.1&&decide (n.2.2.2.2=[])
def D7:NG:=⟨215,cy,.one (dD Ao),λ_=>True,λn=> .sb (pf n)⟩
theorem HM:Holds Tryz.prog D7:=by
 refine bM (L:=[]) D7 (λ_ _=> .apl 4) (by simp) ?_;rintro⟨k,o,a,b,y⟩ _;refine NI (let r:=(0:Int);let s:=δj false;let t:=(65536:Int);let u:=(3:Int);let v:=γB;let j:=bN [o,a,b] 0 r;let g:=decide (j<r);let c:=v (pf (k,o,a,b,y));let m:=decide (t<j);let n:=bN [o,a,b] 1 r;let q:=decide (n<r);let i:=decide (t<n);let p:=bN [o,a,b] 2 r;let l:=decide (p<r);let h:=decide (t<p);let f:=bN [o,a,b] 3 r;let d:=decide (f<r);let e:=decide (t<f);(true=true->r<=r/\r<u/\0<3/\(g=true->(s).bi c)/\(g=false->(m=true->(s).bi c)/\(m=false->(true=true->r<=(1:Int)/\(1:Int)<u/\1<3/\(q=true->(s).bi c)/\(q=false->(i=true->(s).bi c)/\(i=false->(true=true->r<=(2:Int)/\(2:Int)<u/\2<3/\(l=true->(s).bi c)/\(l=false->(h=true->(s).bi c)/\(h=false->(false=true->r<=u/\u<u/\3<3/\(d=true->(s).bi c)/\(d=false->(e=true->(s).bi c)/\(e=false->False)))/\(false=false->(v (decide ((↑y.length:Int)=r))).bi c))))/\(true=false->(v (decide ((↑y.length:Int)=r))).bi c))))/\(true=false->(v (decide ((↑y.length:Int)=r))).bi c))))/\(true=false->(v (decide ((↑y.length:Int)=r))).bi c)) (by kernel_rfl) ?_;simp_all[bN,mK,decide_eq_false,pf]
def q9 (n:cy):Bool:=py n&&decide (n.2.2.2.2=[])
def D6:NG:=⟨219,cy,.one (dD Ao),λ_=>True,λn=> .sb (q9 n)⟩
theorem HJ:Holds Tryz.prog D6:=by
 refine bM (L:=[BM]) D6 lk (by grind[yI]) ?_;rintro⟨k,o,a,b,y⟩ _;refine NI (let d:=py (k,o,a,b,y);let c:=γB (q9 (k,o,a,b,y));True/\(d=true->(γB (decide ((↑y.length:Int)=(0:Int)))).bi c)/\(d=false->(δj false).bi c)) (by kernel_rfl) ?_;simp_all[q9]
def CR:o8 Unit where
 put _:=.agg [];dec
  | .agg []=>some ()
  |_=>none;ok v a h:=by
  grind
 inj a b h:=rfl
def CQ:NG:=⟨223,Unit,.one CR,λ_=>True,λ_=> .sb false⟩
theorem HG:Holds Tryz.prog CQ:=by
 refine bM (L:=[]) CQ lk (by simp) ?_;rintro _ _;refine NI ((δj false).bi (γB false)) (by kernel_rfl) ?_;rfl
def CP:NG:=⟨207,cy,.one (dD Ao),λ_=>True,λ_=> .row (.i .i64) []⟩
theorem HS:Holds Tryz.prog CP:=by
 refine bM (L:=[]) CP lk (by simp) ?_;rintro⟨k,o,a,b,y⟩ _;refine NI (let c:=γa (ew.i .i64) [];c.bi c) (by kernel_rfl) ?_;simp_all
def CO:NG:=⟨213,cy,.one (dD Ao),λ_=>True,λn=> .row (.i .i64) [n.2.2.1,n.2.2.2.1]⟩
theorem HO:Holds Tryz.prog CO:=by
 refine bM (L:=[]) CO lk (by simp) ?_;rintro⟨k,o,a,b,y⟩ _;refine NI (let c:=γa (ew.i .i64) [a,b];c.bi c) (by kernel_rfl) ?_;simp_all
def CN:NG:=⟨217,cy,.one (dD Ao),λ_=>True,λ_=> .row (.i .i64) []⟩
theorem HL:Holds Tryz.prog CN:=by
 refine bM (L:=[]) CN lk (by simp) ?_;rintro⟨k,o,a,b,y⟩ _;refine NI (let c:=γa (ew.i .i64) [];c.bi c) (by kernel_rfl) ?_;simp_all
def r505:NG:=⟨221,Unit,.one CR,λ_=>True,λ_=> .row (.i .i64) []⟩
theorem HI:Holds Tryz.prog r505:=by
 refine bM (L:=[]) r505 lk (by simp) ?_;rintro _ _;refine NI (let a:=γa (ew.i .i64) [];a.bi a) (by kernel_rfl) ?_;simp_all
end Go.Vi
