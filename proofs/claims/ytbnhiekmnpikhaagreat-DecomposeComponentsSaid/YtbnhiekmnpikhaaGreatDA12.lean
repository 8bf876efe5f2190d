/-
  Contracts: the search's small functions.
  Conditions: none.
-/
import Derived.Test.YtbnhiekmnpikhaaGreatDA06
import Derived.Test.YtbnhiekmnpikhaaGreatDA07
import Derived.Test.YtbnhiekmnpikhaaGreatDA09
import Derived.Test.YtbnhiekmnpikhaaGreatDA10
import Derived.Test.YtbnhiekmnpikhaaGreatDA11
import Derived.Test.YtbnhiekmnpikhaaGreatDA08
set_option maxRecDepth 100000
set_option maxHeartbeats 4000000
set_option linter.all false
open Bool renaming eq_false_iff->δI,false_ne_true->ζl,and_eq_true->θ,not_eq_true'->δh
open Classical renaming not_not->γf
open Go.Vi.SV renaming si->γg,il->γA,row->Ω,agg->γQ,sb->γx,bl->δf,ptr->γP,ow->γZ,ia->θh
open Int renaming toNat_natCast->γl,toNat_of_nonneg->εE
open IntCast renaming intCast->κ
open List renaming take->Δ,mem_of_mem_take->γm,take_length->ψ,length->γc,all_eq_true->φ,all_append->ζM,map_cons->π,map_nil->γr,map->γb,length_take->γw,length_map->Ξ,append_nil->γ1,map_append->γa,mem_map->Ψ,replicate->δ,length_set->Φ,length_filter_le->δe,mem_filter->γt,mem_cons_of_mem->γy,mem_cons_self->γX,nodup_append->γs,pairwise_append->δY,mem_append->γk,length_drop->εx,pairwise_cons->γB,append_assoc->γO,cons_append->γH,filter_eq_nil_iff->δN,filter_eq_self->εz,range->ω,ext_getElem->γ8,count_pos_iff->δU,mem_range->γp
open List.Perm renaming append_left->ζN
open List.cons renaming injEq->Γ
open Nat renaming le_refl->ν,pow_le_pow_right->δr
open Option.some renaming injEq->γ
namespace Go.Vi
open Go.Proofs.YtbnhiekmnpikhaaGreat.Ir
open Go.Proofs
def E0:bM:=⟨38,bn×List Int,.cons dO (.one (dL (.i .i64))),λa=>bz a.1=0/\a.2.length<=9223372036854775807,λa=> .si .i64 (ef a.1 a.2)⟩
def ae3 (p:bn) (c:List Int):Nat->cC
 |6=> .inv Int (λi=>⟨[(7,.si .i64 (cM ((eI p c).take i.toNat))),(23,.row .off (eI p c)),(24,.si .i64 (eI p c).length),(25,.si .i64 i)],[.cells p.ss 27 20 false]⟩)
   (λs=>iS s 25) (λi=>0<=i/\i<=(eI p c).length) (λi=>((eI p c).length - i).toNat) λ_ _=> .look
 |_=> .look
theorem h437:Holds Tryz.prog E0:=by
 refine cH (L:=[Dy,po]) E0 (λa=>ae3 a.1 a.2) (by grind[h133,h79]) ?_;rintro⟨p,c⟩ ⟨f,A⟩;simp only at f A;refine bQ (let a:=γg .i64;let f:=(0:Int);let k:=γA .i64 0;let m:=a (ef p c);let z:=decide (bz p≠f);let j:=Ω bp.off (eI p c);let B:=(↑(eI p c).length:Int);let d:=(↑(eI p c).length:Int);let r:=a d;let g:=bq.cells (bn.ss p) 27 20 false;(c.length<=9223372036854775807/\p.offers.length<=1000)/\((!jd p c)=true->k.same m)/\((!jd p c)=false->True/\(z=true->k.same m)/\(z=false->(((k.same (a (cM []))/\j.same j/\(a B).same r/\k.same (a 0)/\True)/\g.same g/\True)/\f<=f/\f<=d)/\∀(x:Int),let w:=cM (Δ x.toNat (eI p c));let y:=w+(bj (eI p c) x.toNat bp.off.dflt).value;let b:=x+(1:Int);let e:=a b;f<=x/\x<=d->(decide (x<d)=true->f<=x/\x<B/\x.toNat<(eI p c).length/\cq .i64 y/\cq .i64 b/\(((a y).same (a (cM (Δ b.toNat (eI p c))))/\j.same j/\r.same r/\e.same e/\True)/\g.same g/\True)/\(f<=b/\b<=d)/\(d - b).toNat<(d - x).toNat)/\(decide (x<d)=false->(a w).same m)))) (by kernel_rfl) ?_;simp only[vcs];have t:=dQ f;obtain⟨G,v⟩:=aaQ (c:=c) f;have u:=t.2.1;have q:jd p c=false->0=ef p c:=λh=>by
  unfold ef;rw[if_pos f];unfold eI;unfold jd at h;rw[Option.isSome_eq_false_iff,Option.isNone_iff_eq_none] at h;rw[h];rfl
 refine⟨⟨A,by omega⟩,q,λ_=>⟨λh=>absurd f h,λ_=>⟨⟨by simp[cM],by omega,by omega⟩,?_⟩⟩⟩;rintro i ⟨n,D⟩;refine⟨λo=>?_,λE=>?_⟩
 ·have H:=aaP n o;have F:=sT t (l:=(eI p c).take i.toNat) λx s=>v x (γm s);have C:=sT t (l:=(eI p c).take (i+1).toNat) λx s=>v x (γm s);grind
 ·rw[show i.toNat=(eI p c).length from by omega,ψ];grind[ef]
def KU:bM:=⟨143,Int×Int,.cons (eZ .i64) (.one (eZ .i64)),λa=>(-9223372036854775808<=a.1/\a.1<=9223372036854775807)/\0<a.2/\a.2<=9223372036854775807,λa=> .bI [qa (fY (decide (a.1<0)) (a.1.natAbs:Int) a.2),.si .i64 0]⟩
theorem h451:Holds Tryz.prog KU:=by
 refine cH (L:=[En,Bj]) KU lk (by grind[h127,h151]) ?_;rintro⟨n,d⟩ ⟨⟨u,w⟩,q,r⟩;simp only at u w q r;refine bQ (let e:=(-9223372036854775808:Int);let h:=(9223372036854775807:Int);let k:=(0:Int);let l:=Ω;let g:=cO (↑n.natAbs:Int);let b:=cO (↑d.natAbs:Int);let f:=bu (fY (!decide (n<k)==decide (d<k)) (bk g) (bk b));let a:=bp.i .u32;let j:=[γg .i64 0];let c:=bu (fY (decide (n<k)) (↑n.natAbs:Int) d);(e<=n/\n<=h)/\(e<=d/\d<=h)/\((bA g/\bA b)/\(g.length<=1000000000/\b.length<=1000000000)/\k<bk b)/\(SV.bI (γQ [γx f.fst,l a f.snd.fst,l a f.snd.snd]::j)).same (SV.bI (γQ [γx c.fst,l a c.snd.fst,l a c.snd.snd]::j))) (by kernel_rfl) ?_;simp only[vcs];obtain⟨v,s,t⟩:=gn (show(0:Int)<=(n.natAbs:Int) by omega);obtain⟨o,l,h⟩:=gn (show(0:Int)<=(d.natAbs:Int) by omega);have x:=mR (k:=2) (show(0:Int)<=(n.natAbs:Int) by omega) (by omega);have p:=mR (k:=2) (show(0:Int)<=(d.natAbs:Int) by omega) (by omega);have e:(d.natAbs:Int)=d:=by omega
 have m:(!(decide (n<0)==decide (d<0)))=decide (n<0):=by
  grind
 rw[m,v,o,e];rw[e] at l h p;repeat' refine And.intro ?_ ?_
 all_goals first|omega|exact s|exact l|exact t|exact h|rfl
def pD (x:List bL):Prop:=∃l,x=fL l/\x.length<=1000000/\∀q∈l,Sz 1000 q
theorem ae4 (q:Rat):q.den=1↔(bu q).2.2=[1]:=by
 have c:cO 1=[1]:=by decide
 constructor
 ·intro h;show cO (q.den:Int)=[1];simp_all
 ·intro h;have a:=(gn (show(0:Int)<=(q.den:Int) by omega)).1;have b:cO (q.den:Int)=[1]:=h;grind[bk]
theorem E1 (q:Rat):okF (bu q)=true:=decide_eq_true (by rw[ez])
def KV:bM:=⟨103,List bL,.one (dL sF),pD,λx=> .sb (mU (vL x))⟩
def ae5 (x:List bL):Nat->cC
 |2=> .inv Int (λi=>⟨[(5,.row sF x),(6,.si .i64 x.length),(7,.si .i64 i)],[]⟩)
   (λs=>iS s 7) (λi=>(0<=i/\i<=x.length)/\mU ((vL x).take i.toNat)=true) (λi=>(x.length - i).toNat) λ_ _=> .look
 |_=> .look
theorem h445:Holds Tryz.prog KV:=by
 refine cH (L:=[uI]) KV ae5 (by grind[h407]) ?_;rintro(x:List bL) ⟨l,v,G,H⟩;refine bQ (let c:=(0:Int);let d:=γg .i64;let f:=δf false;let h:=Ω;let i:=(1:Int);let b:=(↑x.length:Int);let w:=d b;((((h sF x).same (h sF x)/\(d (↑x.length:Int)).same w/\(γA .i64 0).same (d 0)/\True)/\True)/\(c<=c/\c<=b)/\mU []=true)/\∀(a:Int),let p:=bj x a.toNat sF.dflt;let e:=p.snd.snd;let C:=(↑(γc e):Int);let r:=γx (mU (vL x));let g:=a+i;let o:=d g;let A:=λ(u:Bool) ↦decide (bj e 0 c≠i)=u;let D:=λ(u:Bool) ↦decide (C≠i)=u;let E:=λ(u:Bool) ↦(!okF (p.fst,p.snd.fst,e))=u;(c<=a/\a<=b)/\mU (Δ a.toNat (vL x))=true->(decide (a<b)=true->c<=a/\a<(↑x.length:Int)/\a.toNat<x.length/\((bA p.snd.fst/\bA e)/\γc p.snd.fst<=10000000/\γc e<=10000000)/\(E true->(f).same r)/\(E false->(D true->(f).same r)/\(D false->c<=c/\c<C/\0<γc e/\(A true->(f).same r)/\(A false->cq .i64 g/\(((h sF x).same (h sF x)/\w.same w/\o.same o/\True)/\True)/\((c<=g/\g<=b)/\mU (Δ g.toNat (vL x))=true)/\(b - g).toNat<(b - a).toNat))))/\(decide (a<b)=false->(δf true).same r)) (by kernel_rfl) ?_;simp only[vcs];subst v;rw[fF] at G ⊢;rw[kO];have s:∀k:Nat,((k:Nat):Int).toNat=k:=λk=>γl k;refine⟨⟨⟨by omega,by omega⟩,rfl⟩,?_⟩;rintro i ⟨⟨z,T⟩,c⟩;refine⟨λy=>?_,λy=>?_⟩
 ·have J:bj (fL l) i.toNat sF.dflt=bu (bj l i.toNat 0):=jz (by omega);have B:=dq (d:=0) (show i.toNat<l.length by omega);have N:=H _ B;have K:=jZ (d:=0) z y;rw[J];generalize bj l i.toNat 0=q at*;obtain⟨_,⟨I,U,V⟩,⟨M,P,W⟩⟩:=mq q;obtain⟨R,S⟩:=pz N;have m:=ae4 q;have j:q.den≠1->false=mU l:=λQ=>by
   refine(δI.2 λf=>?_).symm;have:=φ.1 f _ B;simp_all
  have t:=E1 q;refine⟨z,y,by omega,⟨⟨I,M⟩,by omega,by omega⟩,λh=>absurd t (by simp_all),λ_=>⟨λh=>j λf=>h ?_,λh=>⟨by omega,by omega,by omega,λf=>j λO=>f ?_,λf=>⟨by omega,⟨by omega,?_⟩,by omega⟩⟩⟩⟩;·simp_all
  ·rw[(m.1 O)];rfl
  ·rw[K];unfold mU at c ⊢;rw[ζM,c];have:q.den=1:=m.2 (by
    have n:(bu q).2.2.length=1:=by omega
    have F:bj (bu q).2.2 0 0=1:=γf.1 f;match v:(bu q).2.2,n with
    |[x],_=>
     rw[v] at F;have:x=1:=F;rw[this]);simp[this]
 grind
def KW (f:FuncId) (j:bn->List Int->Prop) (e:bn->List Int->SV):dG where
 f:=f;α:=bn×Nat×List Int;put a:=[dO.put a.1,.ow 0 a.2.1 1];st a:=[.row (.i .i64) a.2.2 3 true];dec v o:=match v,o with
  |[p,.ow 0 n 1],[.row s l 3 true]=>match dO.dec p,iH s (.i .i64) l with
   |some p,some l=>some (p,n,l)
   |_,_=>none
  |_,_=>none;ok v o a h:=by
  split at h
  ·split at h
   ·rename_i c d;simp only[γ] at h;subst h;obtain⟨rfl,k⟩:=mJ d;cases k;exact⟨by simp only[gL,dO.ok _ _ c],rfl⟩
   ·cases h
  ·cases h
 inj a b c d:=by
  obtain⟨p,n,l⟩:=a;obtain⟨m,q,r⟩:=b;simp only[gL,Γ,and_true,SV.g,AV.os.injEq,true_and] at c;simp only[gO,π,γr,bq.g,Γ,bR.cells.injEq,and_true] at d;rw[dO.inj p m c.1,pA (s:=.i .i64) d,c.2.1]
 dom a:=a.2.1=a.2.2.length/\j a.1 a.2.2;res a:=e a.1 a.2.2;out a:=[.row (.i .i64) a.2.2 3 true]
theorem Bz {L:List bM} {W:List dG} (c:dG) (Λ:c.α->Nat->cC) (i:∀c∈W,ec Tryz.prog c) (e:∀c∈L,Holds Tryz.prog c)
  
  (h:∀a,c.dom a->Vc (EY (oo L (gP W) rE rF jM) (Λ a) (fG c.f) (c.put a) (c.st a) λv s=>v.same (c.res a)/\kH s (c.out a))) (j:(jM c.f).isSome=true:=by kernel_rfl) (b:∀a,(c.put a).length=(fG c.f).params:=by intro _;kernel_rfl) (d:oq c.f W=none:=by kernel_rfl):ec Tryz.prog c:=
 λa g=>aeN c sQ i e (Ak j) b a d (h a g).out
noncomputable def KX:dG:=KW 135 (λp f=>bz p=0/\f.length=p.offers.length) λp f=>qa (κ (gC p f))
def ae6 (p:bn) (f:List Int):Nat->cC
 |3=> .inv Int (λi=>⟨[(2,.ptr 1 0 20),(4,.ptr 2 0 3),(5,.si .i64 (gC p (f.take i.toNat))),(8,.ow 0 f.length 1),(9,.si .i64 f.length),(10,.si .i64 i)],[.row (.i .i64) f 3 true,.cells p.ss 27 20 false,.cells [.bl false,.sc (.slice none 0 0),.sc (.slice none 0 0)] 177 3 false]⟩)
   (λs=>iS s 10) (λi=>0<=i/\i<=f.length) (λi=>(f.length - i).toNat) λ_ _=> .look
 |_=> .look
theorem h396w:ec Tryz.prog KX:=by
 refine Bz (L:=[oH]) (W:=[]) KX (λa=>ae6 a.1 a.2.2) (by simp) (by simpa using h94) ?_;rintro⟨p,n,f⟩ ⟨hn,⟨hc,hl⟩⟩;simp only at hn;subst hn;simp only at hc hl;refine bQ (let a:=γg .i64;let b:=(0:Int);let c:=Ω;let j:=γP 1 0 20;let k:=γP 2 0 3;let t:=γA .i64 0;let l:=γZ 0 f.length 1;let d:=(↑f.length:Int);let m:=a d;let e:=bq.row (bp.i .i64) f 3 true;let n:=bq.cells (bn.ss p) 27 20 false;let v:=SV.sc (Value.slice none 0 0);let o:=bq.cells [δf false,v,v] 177 3 false;let q:=bp.i .u32;let r:=bu (κ (gC p f));(((j.same j/\k.same k/\t.same (a (gC p []))/\l.same l/\m.same m/\t.same (a 0)/\True)/\e.same e/\n.same n/\o.same o/\True)/\b<=b/\b<=d)/\∀(x:Int),let g:=x+(1:Int);let w:=a g;let y:=decide (bj f x.toNat b=(1:Int));let h:=gC p (Δ x.toNat f);let z:=h+(bj p.offers x.toNat bp.off.dflt).value;let s:=bu (κ h);let A:=λ(u:Int) ↦cq .i64 g/\((j.same j/\k.same k/\(a u).same (a (gC p (Δ g.toNat f)))/\l.same l/\m.same m/\w.same w/\True)/\e.same e/\n.same n/\o.same o/\True)/\(b<=g/\g<=d)/\(d - g).toNat<(d - x).toNat;b<=x/\x<=d->(decide (x<d)=true->f.length=f.length/\b<=x/\x<(↑f.length:Int)/\f.length=f.length/\x.toNat<f.length/\(y=true->b<=x/\x<(↑p.offers.length:Int)/\x.toNat<p.offers.length/\cq .i64 z/\A z)/\(y=false->A h))/\(decide (x<d)=false->((-9223372036854775808:Int)<=h/\h<=(9223372036854775807:Int))/\(γQ [γx s.fst,c q s.snd.fst,c q s.snd.snd]).same (γQ [γx r.fst,c q r.snd.fst,c q r.snd.snd])/\e.same e/\True)) (by kernel_rfl) ?_;simp only[vcs];have h160:=(dQ hc).2.1;refine⟨⟨by simp[gC,bE,cG,cM],by omega,by omega⟩,?_⟩;rintro i ⟨i0,i1⟩;have hb:=@Bv p hc f i.toNat hl;refine⟨λhi=>?_,λhi=>?_⟩
 ·have hs:=@Uf p f i i0 hi;have ho:=kR hc (i:=i) ⟨i0,by omega⟩;have hv:(bj p.offers i.toNat bp.off.dflt).value=(oI p i).value:=rfl;rw[hv];refine⟨i0,hi,by omega,λh1=>?_,λh1=>?_⟩
  ·rw[if_pos h1] at hs;refine⟨i0,?_,?_,?_,?_,?_,?_,?_⟩<;>omega
  ·rw[if_neg h1] at hs;refine⟨?_,?_,?_,?_⟩<;>omega
 ·rw[show f.take i.toNat=f by rw[show i.toNat=f.length by omega,ψ]] at hb ⊢;exact⟨by omega,rfl⟩
noncomputable def KY:dG:=KW 132 (λp f=>(bz p=0/\f.length=p.offers.length)/\jP f=true) λp f=> .bI [.agg [.row sF (mT p f).1,.row sR (mT p f).2.1],.row (.i .i64) (mT p f).2.2,.si .i64 (if ic p f=true then 0 else 14)]
def UK (p:bn) (f:List Int) (l:List Int) (m:List Off):bZ:=[.row (.i .i64) f 3 true,.cells p.ss 27 20 false,.cells [.sc (.slice none 0 0),.sc (.slice none 0 0)] 217 2 false,.row (.i .i64) l 3 true,.row .off m 65 true]
def E2 (p:bn) (f:List Int) (l:List Int) (m:List Off) (k0 k1:Nat) (rs:List (List bL×bL)) (g:List bL):bZ:=UK p f l m++[.cells p.ss 87 20 false,.cells [.ow 8 k0 3,.ow 7 k1 4] 217 2 false,.row sR rs 249 false,.row sF g 177 false]
def ae7 (p:bn) (f:List Int):Nat->cC
 |9=> .inv Int (λi=>⟨[(2,.ptr 1 0 20),(4,.ptr 2 0 2),(8,.ow 3 (bE (f.take i.toNat) 0).length 1),(9,.ow 4 (bE (f.take i.toNat) 1).length 8),(36,.ow 0 f.length 1),(37,.si .i64 f.length),(38,.si .i64 i)],UK p f (bE (f.take i.toNat) 0) ((bE (f.take i.toNat) 1).map (oI p))⟩)
   (λs=>iS s 38) (λi=>0<=i/\i<=f.length) (λi=>(f.length - i).toNat) λ_ _=> .look
 |24=> .inv Int (λj=>⟨[(2,.ptr 1 0 20),(4,.ptr 2 0 2),(8,.ow 3 (bE f 0).length 1),(9,.ow 4 (bE f 1).length 8),(12,.ptr 5 0 20),(13,.ptr 6 0 2),(71,.ow 3 (bE f 0).length 1),(72,.si .i64 (bE f 0).length),(73,.si .i64 j)],E2 p f (bE f 0) ((bE f 1).map (oI p)) j.toNat 0 [] (mr p f j.toNat)⟩)
   (λs=>iS s 73) (λj=>0<=j/\j<=(bE f 0).length) (λj=>((bE f 0).length - j).toNat) λ_ _=> .look
 |29=> .inv Int (λr=>⟨[(2,.ptr 1 0 20),(4,.ptr 2 0 2),(8,.ow 3 (bE f 0).length 1),(9,.ow 4 (bE f 1).length 8),(12,.ptr 5 0 20),(13,.ptr 6 0 2),(91,.si .i64 (df p)),(92,.si .i64 r)],E2 p f (bE f 0) ((bE f 1).map (oI p)) (bE f 0).length r.toNat (nQ p f r.toNat) (mr p f (bE f 0).length)⟩)
   (λs=>iS s 92) (λr=>0<=r/\r<=df p) (λr=>(df p - r).toNat) λr k=>match k with
   |33=> .inv Int (λj=>⟨[(2,.ptr 1 0 20),(4,.ptr 2 0 2),(8,.ow 3 (bE f 0).length 1),(9,.ow 4 (bE f 1).length 8),(12,.ptr 5 0 20),(13,.ptr 6 0 2),(16,.si .i64 r),(17,.si .i64 (dm p r - cY p (((bE f 1).map (oI p)).take j.toNat) r)),(91,.si .i64 (df p)),(92,.si .i64 r),(98,.ow 4 (bE f 1).length 8),(99,.si .i64 (bE f 1).length),(100,.si .i64 j)],E2 p f (bE f 0) ((bE f 1).map (oI p)) (bE f 0).length r.toNat (nQ p f r.toNat) (mr p f (bE f 0).length)⟩)
     (λs=>iS s 100) (λj=>0<=j/\j<=(bE f 1).length) (λj=>((bE f 1).length - j).toNat) λ_ _=> .look
   |39=> .inv Int (λj=>⟨[(2,.ptr 1 0 20),(4,.ptr 2 0 2),(8,.ow 3 (bE f 0).length 1),(9,.ow 4 (bE f 1).length 8),(12,.ptr 5 0 20),(13,.ptr 6 0 2),(16,.si .i64 r),(20,.ptr 9 0 4),(91,.si .i64 (df p)),(92,.si .i64 r),(114,.ow 3 (bE f 0).length 1),(115,.si .i64 (bE f 0).length),(116,.si .i64 j)],E2 p f (bE f 0) ((bE f 1).map (oI p)) (bE f 0).length r.toNat (nQ p f r.toNat) (mr p f (bE f 0).length)++[.cells [.ow 10 j.toNat 3,.sb (bu ((dm p r - cY p ((bE f 1).map (oI p)) r:Int):Rat)).1,.row (.i .u32) (bu ((dm p r - cY p ((bE f 1).map (oI p)) r:Int):Rat)).2.1,.row (.i .u32) (bu ((dm p r - cY p ((bE f 1).map (oI p)) r:Int):Rat)).2.2] 249 4 false,.row sF (nP p f r j.toNat) 177 false]⟩)
     (λs=>iS s 116) (λj=>0<=j/\j<=(bE f 0).length) (λj=>((bE f 0).length - j).toNat) λ_ _=> .look
   |_=> .look
 |_=> .look
theorem h394w:ec Tryz.prog KY:=by
 refine Bz (L:=[po,oH,Dt,xZ,xX,xY]) (W:=[]) KY (λa=>ae7 a.1 a.2.2) (by simp) (by simpa using⟨h79,h94,h134,h156,h157,h158⟩) ?_;rintro⟨p,n,f⟩ ⟨hn,⟨⟨hc,hl⟩,hr⟩⟩;simp only at hn;subst hn;simp only at hc hl hr;refine bQ (let a:=γg .i64;let c:=(0:Int);let d:=bq.row;let e:=bq.cells;let g:=γZ;let h:=(-9223372036854775808:Int);let j:=Ω;let k:=(1:Int);let l:=(9223372036854775807:Int);let m:=cq .i64;let n:=γA .i64;let o:=γP;let q:=γQ;let r:=SV.bI;let R:=SV.sc (Value.slice none 0 0);let L:=bp.i .i64;let ah:=r [q [j sF (mT p f).fst,j sR (mT p f).snd.fst],j L (mT p f).snd.snd,a (if ic p f=true then c else(14:Int))];let s:=d L f 3 true;let I:=(↑f.length:Int);let ai:=p.offers.length;let ae:=(↑ai:Int);let t:=o 1 0 20;let v:=o 2 0 2;let Z:=g 0 f.length 1;let a6:=a I;let a7:=n 0;let aM:=[a p.supply.a0,a p.supply.a1,a p.supply.a2,a p.supply.a3,a p.supply.a4,a p.supply.a5,a p.opn.a0,a p.opn.a1,a p.opn.a2,a p.opn.a3,a p.opn.a4,a p.opn.a5,a p.cls.a0,a p.cls.a1,a p.cls.a2,a p.cls.a3,a p.cls.a4,a p.cls.a5,j L p.classes,j bp.off p.offers];let w:=e aM 27 20 false;let y:=e [R,R] 217 2 false;let aN:=d bp.off [] 65 true;let aj:=bp.off.dflt;let ay:=(↑p.classes.length:Int);let a8:=bp.i .u32;let a9:=bp.b.pair (a8.bD.pair a8.bD);let az:=a9.bD.pair a9;let H:=bE f c;let N:=H.length;let z:=g 3 N 1;let z25:Nat:=(bE f k).length;let A:=g 4 z25 8;let B:=o 5 0 20;let C:=o 6 0 2;let E:=(↑N:Int);let V:=a E;let F:=d L H 3 true;let P:=γb (oI p) (bE f k);let G:=d bp.off P 65 true;let D:=e aM 87 20 false;let af:=[g 7 0 4];let aO:=e (g 8 0 3::af) 217 2 false;let ak:=d sR [] 249 false;let aP:=d a9 [] 177 false;let J:=a (df p);let al:=g 8 N 3;let aA:=mr p f N;let M:=d sF aA 177 false;let S:=(↑z25:Int);let am:=a S;let an:=o 9 0 4;let aQ:=g 10 0 3;let aR:=λ(u u_1:Int) (u_2:SV) ↦decide (u≠u_1)=true->(r [q [R,R],R,u_2]).same ah/\s.same s/\True;True/\aR (bz p) c (a (bz p))/\(decide (bz p≠c)=false->aR I ae (n 3)/\(decide (I≠ae)=false->(((t.same t/\v.same v/\(g 3 0 1).same (g 3 (bE [] c).length 1)/\(g 4 0 8).same (g 4 (bE [] k).length 8)/\Z.same Z/\a6.same a6/\a7.same (a 0)/\True)/\s.same s/\w.same w/\y.same y/\(d L [] 3 true).same (d L (bE [] c) 3 true)/\aN.same aN/\True)/\c<=c/\c<=I)/\∀(x:Int),let ao:=bE (Δ x.toNat f) k;let aS:=g 4 ao.length 8;let O:=x+k;let ap:=Δ O.toNat f;let aT:=g 4 (bE ap k).length 8;let aq:=a O;let aU:=g 3 (bE ap c).length 1;let aV:=d L (bE ap c) 3 true;let Q:=γb (oI p) ao;let aW:=d bp.off Q 65 true;let aX:=d bp.off (γb (oI p) (bE ap k)) 65 true;let aB:=bj f x.toNat c;let aY:=decide (aB=(-1:Int));let aa:=bE (Δ x.toNat f) c;let ar:=aa.length;let aC:=d L aa 3 true;let aZ:=decide (aB=c);let b0:=aa.length+1;let b1:=decide (aB=k);let b2:=Q.length+1;let aD:=g 3 ar 1;let b3:=Q++[bj p.offers x.toNat aj];let bh:=aS.same aT/\Z.same Z/\a6.same a6/\aq.same aq/\True;let b4:=λ(u:Nat) (u_1:bq) ↦m O/\((t.same t/\v.same v/\(g 3 u 1).same aU/\bh)/\s.same s/\w.same w/\y.same y/\u_1.same aV/\aW.same aX/\True)/\(c<=O/\O<=I)/\(I - O).toNat<(I - x).toNat;c<=x/\x<=I->(decide (x<I)=true->f.length=f.length/\c<=x/\x<(↑f.length:Int)/\f.length=f.length/\x.toNat<f.length/\(aY=true->b4 ar aC)/\(aY=false->(aZ=true->ar=aa.length/\b0*8<=140737488355328/\b0<=1000000000000/\b4 (aa++[x]).length (d L (aa++[x]) 3 true))/\(aZ=false->(b1=true->c<=x/\x<ae/\x.toNat<ai/\ao.length=Q.length/\b2*64<=140737488355328/\b2<=1000000000000/\m O/\((t.same t/\v.same v/\aD.same aU/\(g 4 b3.length 8).same aT/\Z.same Z/\a6.same a6/\aq.same aq/\True)/\s.same s/\w.same w/\y.same y/\aC.same aV/\(d bp.off b3 65 true).same aX/\True)/\(c<=O/\O<=I)/\(I - O).toNat<(I - x).toNat)/\(b1=false->(r [q [R,R],R,n 4]).same ah/\s.same s/\True))))/\(decide (x<I)=false->ao.length=Q.length/\(p.classes.length<=8/\Q.length<=1000/\∀(x:Off),x∈Q->c<=x.bT/\x.bT<ay/\x.want.ok=true)/\((!gl p Q)=true->0=0/\0=0/\0=0/\(r [q [j a9 [],j az []],j L [],n 14]).same ah/\s.same s/\True)/\((!gl p Q)=false->(((t.same t/\v.same v/\aD.same z/\aS.same A/\B.same B/\C.same C/\aD.same z/\(a (↑ar:Int)).same V/\a7.same (a 0)/\True)/\s.same s/\w.same w/\y.same y/\aC.same F/\aW.same G/\D.same D/\aO.same aO/\(d az [] 249 false).same ak/\aP.same (d sF (mr p f 0) 177 false)/\True)/\c<=c/\c<=E)/\∀(x:Int),let au:=bj H x.toNat c;let aE:=(bj p.offers au.toNat aj).value;let av:=mr p f x.toNat;let b5:=av.length+1;let W:=x+k;let b6:=a W;let aF:=bu (κ aE);let b7:=av++[(aF.fst,aF.snd.fst,aF.snd.snd)];c<=x/\x<=E->(decide (x<E)=true->N=H.length/\c<=x/\x<(↑H.length:Int)/\N=H.length/\x.toNat<H.length/\c<=au/\au<ae/\au.toNat<ai/\(h<=aE/\aE<=l)/\1=1/\x.toNat=av.length/\b5*56<=140737488355328/\b5<=1000000000000/\m W/\((t.same t/\v.same v/\z.same z/\A.same A/\B.same B/\C.same C/\z.same z/\V.same V/\b6.same b6/\True)/\s.same s/\w.same w/\y.same y/\F.same F/\G.same G/\D.same D/\(e (g 8 b7.length 3::af) 217 2 false).same (e (g 8 W.toNat 3::af) 217 2 false)/\ak.same ak/\(d a9 b7 177 false).same (d sF (mr p f W.toNat) 177 false)/\True)/\(c<=W/\W<=E)/\(E - W).toNat<(E - x).toNat)/\(decide (x<E)=false->p.classes.length<=8/\(((t.same t/\v.same v/\z.same z/\A.same A/\B.same B/\C.same C/\J.same J/\a7.same (a 0)/\True)/\s.same s/\w.same w/\y.same y/\F.same F/\G.same G/\D.same D/\(e (g 8 x.toNat 3::af) 217 2 false).same (e (al::af) 217 2 false)/\ak.same (d sR (nQ p f 0) 249 false)/\(d sF av 177 false).same M/\True)/\c<=c/\c<=df p)/\∀(x:Int),let b8:=decide (x<df p);let T:=e [al,g 7 x.toNat 4] 217 2 false;let ab:=nQ p f x.toNat;let U:=d sR ab 249 false;let ac:=bu (κ (dm p x - cY p P x));let aG:=[γx ac.fst,j a8 ac.snd.fst,j a8 ac.snd.snd];let b9:=ab.length+1;let X:=x+k;let ba:=a X;c<=x/\x<=df p->(b8=true->(p.classes.length<=8/\c<=x/\x<df p)/\(((t.same t/\v.same v/\z.same z/\A.same A/\B.same B/\C.same C/\(a x).same (a x)/\(a (dm p x)).same (a (dm p x - cY p [] x))/\J.same J/\(a x).same (a x)/\A.same A/\am.same am/\a7.same (a 0)/\True)/\s.same s/\w.same w/\y.same y/\F.same F/\G.same G/\D.same D/\T.same T/\U.same U/\M.same M/\True)/\c<=c/\c<=S)/\∀(x_1:Int),let aH:=bj P x_1.toNat aj;let aw:=dm p x - cY p (Δ x_1.toNat P) x;let bb:=aw - dW p x aH;let ad:=x_1+k;let K:=a x;let bc:=a ad;let aI:=bu (κ aw);c<=x_1/\x_1<=S->(decide (x_1<S)=true->z25=P.length/\c<=x_1/\x_1<(↑P.length:Int)/\z25=P.length/\x_1.toNat<P.length/\(p.classes.length<=8/\c<=x/\x<df p/\c<=aH.bT/\aH.bT<ay)/\m bb/\m ad/\((t.same t/\v.same v/\z.same z/\A.same A/\B.same B/\C.same C/\K.same K/\(a bb).same (a (dm p x - cY p (Δ ad.toNat P) x))/\J.same J/\K.same K/\A.same A/\am.same am/\bc.same bc/\True)/\s.same s/\w.same w/\y.same y/\F.same F/\G.same G/\D.same D/\T.same T/\U.same U/\M.same M/\True)/\(c<=ad/\ad<=S)/\(S - ad).toNat<(S - x_1).toNat)/\(decide (x_1<S)=false->(h<=aw/\aw<=l)/\(((t.same t/\v.same v/\z.same z/\A.same A/\B.same B/\C.same C/\K.same K/\an.same an/\J.same J/\K.same K/\z.same z/\V.same V/\a7.same (a 0)/\True)/\s.same s/\w.same w/\y.same y/\F.same F/\G.same G/\D.same D/\T.same T/\U.same U/\M.same M/\(e [aQ,γx aI.fst,j a8 aI.snd.fst,j a8 aI.snd.snd] 249 4 false).same (e (aQ::aG) 249 4 false)/\aP.same (d sF (nP p f x 0) 177 false)/\True)/\c<=c/\c<=E)/\∀(x_2:Int),let ax:=bj H x_2.toNat c;let aJ:=bj p.offers ax.toNat aj;let aK:=dW p x aJ;let ag:=nP p f x x_2.toNat;let bd:=ag.length+1;let Y:=x_2+k;let be:=a Y;let aL:=bu (κ aK);let bf:=ag++[(aL.fst,aL.snd.fst,aL.snd.snd)];let bg:=ab++[(ag,ac.fst,ac.snd.fst,ac.snd.snd)];c<=x_2/\x_2<=E->(decide (x_2<E)=true->N=H.length/\c<=x_2/\x_2<(↑H.length:Int)/\N=H.length/\x_2.toNat<H.length/\c<=ax/\ax<ae/\ax.toNat<ai/\(p.classes.length<=8/\c<=x/\x<df p/\c<=aJ.bT/\aJ.bT<ay)/\(h<=aK/\aK<=l)/\1=1/\x_2.toNat=ag.length/\bd*56<=140737488355328/\bd<=1000000000000/\m Y/\((t.same t/\v.same v/\z.same z/\A.same A/\B.same B/\C.same C/\K.same K/\an.same an/\J.same J/\K.same K/\z.same z/\V.same V/\be.same be/\True)/\s.same s/\w.same w/\y.same y/\F.same F/\G.same G/\D.same D/\T.same T/\U.same U/\M.same M/\(e (g 10 bf.length 3::aG) 249 4 false).same (e (g 10 Y.toNat 3::aG) 249 4 false)/\(d a9 bf 177 false).same (d sF (nP p f x Y.toNat) 177 false)/\True)/\(c<=Y/\Y<=E)/\(E - Y).toNat<(E - x_2).toNat)/\(decide (x_2<E)=false->x_2.toNat=ag.length/\1=1/\x.toNat=ab.length/\b9*80<=140737488355328/\b9<=1000000000000/\m X/\((t.same t/\v.same v/\z.same z/\A.same A/\B.same B/\C.same C/\J.same J/\ba.same ba/\True)/\s.same s/\w.same w/\y.same y/\F.same F/\G.same G/\D.same D/\(e [al,g 7 bg.length 4] 217 2 false).same (e [al,g 7 X.toNat 4] 217 2 false)/\(d az bg 249 false).same (d sR (nQ p f X.toNat) 249 false)/\M.same M/\True)/\(c<=X/\X<=df p)/\(df p - X).toNat<(df p - x).toNat)))/\(b8=false->N=aA.length/\x.toNat=ab.length/\N=H.length/\(r [q [j sF aA,j sR ab],j L H,a7]).same ah/\s.same s/\True))))))) (by kernel_rfl) ?_;simp only[vcs];obtain⟨g1,g2,g3,g4,g5⟩:=dQ hc;have hoi:∀k:Nat,∀o:Int,o=k->(bj p.offers k bp.off.dflt)=oI p o:=λk o h=>by subst h;rfl
 have hw2:∀{a b:Nat},a=b->(γZ 3 a 1).same (γZ 3 b 1):=by rintro _ _ rfl;rfl
 have hw3:∀{a b:Nat},a=b->(γZ 4 a 8).same (γZ 4 b 8):=by rintro _ _ rfl;rfl
 have lJ:∀{x y:List Int},x=y->(bq.row (.i .i64) x 3 true).same (bq.row (.i .i64) y 3 true):=by rintro _ _ rfl;rfl
 have yW:∀{x y:List Off},x=y->(bq.row .off x 65 true).same (bq.row .off y 65 true):=by rintro _ _ rfl;rfl
 refine⟨λh=>absurd hc h,λ_=>⟨λh=>absurd (by rw[hl]) h,λ_=>⟨⟨⟨⟨hw2 rfl,hw3 rfl⟩,lJ rfl⟩,by omega,by omega⟩,?_⟩⟩⟩;rintro i ⟨i0,i1⟩;have htl:(f.take i.toNat).length<=160:=by rw[γw];omega
 have hd0:=@uQ (f.take i.toNat) 0;have hd1:=@uQ (f.take i.toNat) 1;have hm1:(γb (oI p) (bE (f.take i.toNat) 1)).length=(bE (f.take i.toNat) 1).length:=Ξ _;refine⟨λhi=>?_,λhi=>?_⟩
 ·have hs0:=@Bt f 0 i i0 hi;have hs1:=@Bt f 1 i i0 hi;have aiE: -1<=bj f i.toNat 0/\bj f i.toNat 0<=1:=by
   have:=φ.1 hr _ (dq (d:=0) (show i.toNat<f.length by omega));simpa using this
  refine⟨i0,hi,by omega,λh1=>?_,λh1=>⟨λh2=>?_,λh2=>⟨λh3=>?_,λh3=>by omega⟩⟩⟩
  ·rw[if_neg (by omega),γ1] at hs0 hs1;rw[hs0,hs1];refine⟨?_,⟨⟨hw2 rfl,hw3 rfl⟩,lJ rfl,yW rfl⟩,?_,?_⟩<;>omega
  ·rw[if_pos (by omega)] at hs0;rw[if_neg (by omega),γ1] at hs1;rw[hs0,hs1];refine⟨?_,?_,?_,⟨⟨hw2 rfl,hw3 rfl⟩,lJ rfl,yW rfl⟩,?_,?_⟩<;>omega
  ·rw[if_neg (by omega),γ1] at hs0;rw[if_pos (by omega)] at hs1;rw[hs0,hs1,hoi i.toNat i (by omega),hm1];have e:γb (oI p) (bE (f.take i.toNat) 1)++[oI p i]=γb (oI p) (bE (f.take i.toNat) 1++[i]):=by rw[γa];rfl
   rw[e,Ξ];refine⟨i0,?_,?_,rfl,?_,?_,?_,⟨⟨hw2 rfl,hw3 rfl⟩,lJ rfl,yW rfl⟩,?_,?_⟩<;>omega
 ·have htk:f.take i.toNat=f:=by rw[show i.toNat=f.length by omega,ψ]
  rw[htk] at hd0 hd1 hm1 ⊢;have hdl:∀d,(bE f d).length<=160:=λd=>by have:=@uQ f d;omega
  refine⟨hm1.symm,⟨g1,by omega,λx hx=>?_⟩,λhb=>?_,λhb=>?_⟩
  ·obtain⟨k,hk,rfl⟩:=Ψ.1 hx;have h1:=(kQ.1 hk).1;have:=kR hc (i:=k) (by omega);exact⟨this.1,this.2.1,this.2.2.1⟩
  ·have hb2:ic p f=false:=hb;unfold mT;simp only[hb2];exact⟨rfl,rfl,rfl⟩
  ·have hb2:ic p f=true:=hb;have hG:mT p f=((iL (jQ p f)).1,((iL (jQ p f)).2,bE f 0)):=by unfold mT;rw[if_pos hb2]
   simp only[hb2,if_true,hG];have hfx:eV p f:=⟨hc,hl,hb⟩;have BA:∀{x y:List bL},x=y->(bq.row sF x 177 false).same (bq.row sF y 177 false):=by rintro _ _ rfl;rfl
   have UL:∀{x y:List (List bL×bL)},x=y->(bq.row sR x 249 false).same (bq.row sR y 249 false):=by rintro _ _ rfl;rfl
   have KZ:∀{a b c d:Nat},a=b->c=d->(bq.cells [.ow 8 a 3,.ow 7 c 4] 217 2 false).same (bq.cells [.ow 8 b 3,.ow 7 d 4] 217 2 false):=by rintro _ _ _ _ rfl rfl;rfl
   have hc8:∀{a b:Nat} {q q':Rat},a=b->q=q'->(bq.cells [.ow 10 a 3,.sb (bu q).1,.row (.i .u32) (bu q).2.1,.row (.i .u32) (bu q).2.2] 249 4 false).same (bq.cells [.ow 10 b 3,.sb (bu q').1,.row (.i .u32) (bu q').2.1,.row (.i .u32) (bu q').2.2] 249 4 false):=by rintro _ _ _ _ rfl rfl;rfl
   have hn0:=hdl 0;have hn1:=hdl 1;have hfree:∀j:Int,0<=j->j<(bE f 0).length->(0<=bj (bE f 0) j.toNat 0/\bj (bE f 0) j.toNat 0<p.offers.length):=λj h0 h1=>by
    have:=(kQ.1 (dq (d:=0) (show j.toNat<(bE f 0).length by omega))).1;omega
   refine⟨⟨⟨⟨hw2 rfl,hw3 rfl,hw2 rfl,trivial⟩,lJ rfl,yW rfl,BA rfl⟩,by omega,by omega⟩,?_⟩;rintro j ⟨j0,j1⟩;have hgl:=@Kv p f j.toNat (by omega);refine⟨λhj=>?_,λhj=>?_⟩
   ·have hk:=hfree j j0 hj;have ho:=kR hc hk;have hs:=@aej p f j j0 hj;have ae8:=@Kv p f (j+1).toNat (by omega);rw[hoi _ (bj (bE f 0) j.toNat 0) (by omega)];simp only[jO];have e:mr p f j.toNat++[bu (κ (oI p (bj (bE f 0) j.toNat 0)).value)]=mr p f (j+1).toNat:=hs.symm;rw[e];refine⟨j0,hj,?_,hk.1,hk.2,?_,?_,?_,?_,?_,?_,⟨KZ ae8 rfl,BA rfl⟩,?_,?_⟩<;>omega
   ·rw[show j.toNat=(bE f 0).length by omega];have hnr:df p=p.classes.length+12:=rfl;refine⟨g1,⟨⟨KZ rfl rfl,UL rfl,BA rfl⟩,by omega,by omega⟩,?_⟩;rintro r ⟨r0,r1⟩;have hrl:=@Uj p f r.toNat;refine⟨λhr2=>⟨⟨g1,r0,hr2⟩,⟨by simp[cY],by omega,by omega⟩,?_⟩,λhr2=>?_⟩
    ·rintro k ⟨k0,k1⟩;have hok:∀x∈(γb (oI p) (bE f 1)).take k.toNat,x.want.ok=true:=λx hx=>(EA hfx x (γm hx)).2.2.1;have hsb:=@sS p r ((γb (oI p) (bE f 1)).take k.toNat) hok;have ae9:((γb (oI p) (bE f 1)).take k.toNat).length<=160:=by rw[γw];omega
     have hbb:=@A1 p hc r;refine⟨λhk=>?_,λhk=>?_⟩
     ·have hx:=EA hfx _ (dq (d:=bp.off.dflt) (show k.toNat<(γb (oI p) (bE f 1)).length by omega));have hst:=@HU p r (γb (oI p) (bE f 1)) k bp.off.dflt k0 (by omega);have hcb:=@pT p r _ hx.2.2.1;refine⟨?_,k0,?_,?_,?_,⟨g1,r0,hr2,hx.1,hx.2.1⟩,?_,?_,?_,?_,?_⟩<;>omega
     ·have e:(γb (oI p) (bE f 1)).take k.toNat=γb (oI p) (bE f 1):=List.take_of_length_le (by omega);rw[e] at hsb ae9 ⊢;refine⟨by omega,⟨⟨hc8 rfl rfl,BA rfl⟩,by omega,by omega⟩,?_⟩;rintro l ⟨l0,l1⟩;have hcl:=@Ui p f r l.toNat (by omega);refine⟨λhl2=>?_,λhl2=>?_⟩
      ·have hk:=hfree l l0 hl2;have ho:=kR hc hk;have hs:=@aek p f r l l0 hl2;have afa:=@Ui p f r (l+1).toNat (by omega);have hcb:=@pT p r _ ho.2.2.1;rw[hoi _ (bj (bE f 0) l.toNat 0) (by omega)];simp only[jO];have e:nP p f r l.toNat++[bu (κ (dW p r (oI p (bj (bE f 0) l.toNat 0))))]=nP p f r (l+1).toNat:=hs.symm;rw[e];refine⟨l0,hl2,?_,hk.1,hk.2,?_,⟨g1,r0,hr2,ho.1,ho.2.1⟩,?_,?_,?_,?_,?_,⟨hc8 afa rfl,BA rfl⟩,?_,?_⟩<;>omega
      ·rw[show l.toNat=(bE f 0).length by omega] at hcl ⊢;have hs:=@ael p f r r0;have hrl2:=@Uj p f (r+1).toNat;simp only[jO];have e:nQ p f r.toNat++[(nP p f r (bE f 0).length,bu (κ (dm p r - cY p (γb (oI p) (bE f 1)) r)))]=nQ p f (r+1).toNat:=hs.symm;rw[e];refine⟨hcl.symm,hrl.symm,?_,?_,?_,⟨KZ rfl hrl2,UL rfl⟩,?_,?_⟩<;>omega
    ·have e:r.toNat=mF p:=by
      show r.toNat=p.classes.length+12;omega
     rw[e] at hrl ⊢;rw[Ug,Uh];refine⟨?_,hrl.symm.trans (by rw[Uh]),rfl,trivial,trivial⟩;rw[<-Ug];exact(Kv (ν _)).symm
noncomputable def K0:dG:=KW 100 (λp f=>f.length<=1000000000000) λp f=> .bI [aes p f,.si .i64 (jg p f)]
noncomputable def UM (p:bn) (f:List Int) (x:List bL):bZ:=
 [.row (.i .i64) f 3 true,.cells p.ss 27 20 false,.cells [.bl false,.bl false,.sc (.slice none 0 0),.sc (.slice none 0 0),.sc (.slice none 0 0),.sc (.slice none 0 0)] 179 6 false,.cells [.row sF (mT p f).1,.row sR (mT p f).2.1] 217 2 false,
  .cells [.si .i64 1,.sb (bu (dx p f).value).1,.row (.i .u32) (bu (dx p f).value).2.1,.row (.i .u32) (bu (dx p f).value).2.2,.row sF (fL (gq (dx p f) (nF f) (mF p))),.row sF (fL (iD p f)),.row sF []] 221 7 false,.row sF x 177 true]
noncomputable def afb (p:bn) (f:List Int):Nat->cC
 |12=> .inv Int (λi=>⟨[(1,.ow 0 f.length 1),(2,.ptr 1 0 20),(4,.ptr 2 0 6),(8,.row (.i .i64) (bE f 0)),(10,.ptr 4 0 7),(11,.ow 5 f.length 3),(45,.ow 0 f.length 1),(46,.si .i64 f.length),(47,.si .i64 i)],UM p f (eT (fL (j5 p f 0)) i.toNat (false,([],[])))⟩)
   (λs=>iS s 47) (λi=>0<=i/\i<=f.length) (λi=>(f.length - i).toNat) λ_ _=> .look
 |19=> .inv Int (λk=>⟨[(1,.ow 0 f.length 1),(2,.ptr 1 0 20),(4,.ptr 2 0 6),(10,.ptr 4 0 7),(11,.ow 5 f.length 3),(63,.row (.i .i64) (bE f 0)),(64,.si .i64 (bE f 0).length),(65,.si .i64 k)],UM p f (fL (j5 p f k.toNat))⟩)
   (λs=>iS s 65) (λk=>0<=k/\k<=(bE f 0).length) (λk=>((bE f 0).length - k).toNat) λ_ _=> .look
 |_=> .look
theorem h390w:ec Tryz.prog K0:=by
 refine Bz (L:=[EJ,Kt,oH,wE]) (W:=[KY,KX]) K0 (λa=>afb a.1 a.2.2) (by simpa using⟨h394w,h396w⟩) (by simpa using⟨h393,h395,h94,h129⟩) ?_;rintro⟨p,n,f⟩ ⟨hn,hl:f.length<=1000000000000⟩;simp only at hn;subst hn;refine bQ (let c:=γg .i64;let d:=(0:Int);let e:=Ω;let g:=bq.row;let h:=(-9223372036854775808:Int);let j:=(9223372036854775807:Int);let k:=bq.cells;let l:=(1:Int);let m:=γx;let n:=SV.bI;let o:=γP;let q:=γQ;let Q:=δf false;let v:=bp.i .u32;let a6:=bp.b.pair (v.bD.pair v.bD);let ah:=q [Q,Q,e v [],e v [],e a6 [],e a6 []];let ai:=[c (jg p f)];let a7:=n (q [m (j6 p f),m (kr p f).fst,e v (kr p f).snd.fst,e v (kr p f).snd.snd,e sF (qR p f),e sF (ku p f)]::ai);let R:=bp.i .i64;let t:=g R f 3 true;let aj:=decide (jg p f≠d);let ak:=decide ((if ic p f=true then d else(14:Int))≠d);let S:=γA .i64 0;let T:=(mT p f).fst;let a8:=(mT p f).snd.fst;let a9:=c 0;let s:=(↑f.length:Int);let w:=γZ 0 f.length 1;let y:=o 1 0 20;let z:=o 2 0 6;let J:=bE f d;let G:=e R J;let A:=o 4 0 7;let H:=γZ 5 f.length 3;let U:=c s;let B:=k [c p.supply.a0,c p.supply.a1,c p.supply.a2,c p.supply.a3,c p.supply.a4,c p.supply.a5,c p.opn.a0,c p.opn.a1,c p.opn.a2,c p.opn.a3,c p.opn.a4,c p.opn.a5,c p.cls.a0,c p.cls.a1,c p.cls.a2,c p.cls.a3,c p.cls.a4,c p.cls.a5,e R p.classes,e bp.off p.offers] 27 20 false;let V:=SV.sc (Value.slice none 0 0);let C:=k [Q,Q,V,V,V,V] 179 6 false;let D:=k [e sF T,e sR a8] 217 2 false;let al:=c 1;let aa:=γb (λ(r:List bL×bL) ↦(vL r.fst,bW r.snd)) a8;let P:=nO (vL T,aa);let z31:Nat:=(vL T).length;let K:=bu (dx p f).value;let W:=fL (gq (dx p f) (nF f) (mF p));let am:=e sF (fL (iD p f));let I:=k [al,m K.fst,e v K.snd.fst,e v K.snd.snd,e sF W,am,e sF []] 221 7 false;let X:=(false,[],[]);let Y:=fL (j5 p f 0);let ab:=bu (κ d);let ac:=bu (κ l);let E:=(↑J.length:Int);let ad:=c E;let ae:=bu (κ (gC p f));let an:=(ae.fst,ae.snd.fst,ae.snd.snd);let ao:=(K.fst,K.snd.fst,K.snd.snd);let af:=bu (bW an+bW ao);let ap:=λ(u:Bool) (u_1:SV) ↦u=true->0=0/\0=0/\0=0/\0=0/\(n [ah,u_1]).same a7/\t.same t/\True;f.length=f.length/\f.length<=1000000000000/\(aj=true->0=0/\0=0/\0=0/\0=0/\(n (ah::ai)).same a7/\t.same t/\True)/\(aj=false->(f.length=f.length/\(bz p=d/\f.length=p.offers.length)/\jP f=true)/\ap ak S/\(ak=false->(∃(a:Lp),(T,a8)=iL a/\Br a)/\ap false a9/\(false=false->d<=s/\s<=s/\s*(56:Int)<=(140737488355328:Int)/\s<=(1000000000000:Int)/\(((w.same w/\y.same y/\z.same z/\(e R (mT p f).snd.snd).same G/\A.same A/\(γZ 5 s.toNat 3).same H/\w.same w/\U.same U/\S.same a9/\True)/\t.same t/\B.same B/\C.same C/\D.same D/\(k [al,m (bu P.value).fst,e v (bu P.value).snd.fst,e v (bu P.value).snd.snd,e sF (fL (gq P z31 aa.length)),e sF (fL (jA P z31 aa.length z31)),e sF []] 221 7 false).same I/\(g a6 (δ s.toNat X) 177 true).same (g sF (eT Y 0 X) 177 true)/\True)/\d<=d/\d<=s)/\∀(x:Int),let L:=x+l;let aq:=c L;let M:=eT Y x.toNat X;let ar:=decide (bj f x.toNat d=l);let N:=M.set x.toNat (ab.fst,ab.snd.fst,ab.snd.snd);let au:=λ(u:List (Bool×List Int×List Int)) ↦cq .i64 L/\((w.same w/\y.same y/\z.same z/\G.same G/\A.same A/\H.same H/\w.same w/\U.same U/\aq.same aq/\True)/\t.same t/\B.same B/\C.same C/\D.same D/\I.same I/\(g sF u 177 true).same (g sF (eT Y L.toNat X) 177 true)/\True)/\(d<=L/\L<=s)/\(s - L).toNat<(s - x).toNat;d<=x/\x<=s->(decide (x<s)=true->f.length=f.length/\d<=x/\x<(↑f.length:Int)/\f.length=f.length/\x.toNat<f.length/\(h<=d/\d<=j)/\f.length=M.length/\d<=x/\x<(↑M.length:Int)/\f.length=M.length/\x.toNat<M.length/\(ar=true->(h<=l/\l<=j)/\f.length=N.length/\d<=x/\x<(↑N.length:Int)/\f.length=N.length/\x.toNat<N.length/\au (N.set x.toNat (ac.fst,ac.snd.fst,ac.snd.snd)))/\(ar=false->au N))/\(decide (x<s)=false->(((w.same w/\y.same y/\z.same z/\A.same A/\H.same H/\G.same G/\(c (↑J.length:Int)).same ad/\S.same a9/\True)/\t.same t/\B.same B/\C.same C/\D.same D/\I.same I/\(g sF M 177 true).same (g sF Y 177 true)/\True)/\d<=d/\d<=E)/\∀(x:Int),let F:=fL (j5 p f x.toNat);let Z:=bj J x.toNat d;let O:=x+l;let av:=c O;let ag:=bj W x.toNat sF.dflt;d<=x/\x<=E->(decide (x<E)=true->d<=x/\x<(↑J.length:Int)/\x.toNat<J.length/\d<=x/\x<(↑W.length:Int)/\x.toNat<W.length/\f.length=F.length/\d<=Z/\Z<(↑F.length:Int)/\f.length=F.length/\Z.toNat<F.length/\cq .i64 O/\((w.same w/\y.same y/\z.same z/\A.same A/\H.same H/\G.same G/\ad.same ad/\av.same av/\True)/\t.same t/\B.same B/\C.same C/\D.same D/\I.same I/\(g sF (F.set Z.toNat (ag.fst,ag.snd.fst,ag.snd.snd)) 177 true).same (g sF (fL (j5 p f O.toNat)) 177 true)/\True)/\(d<=O/\O<=E)/\(E - O).toNat<(E - x).toNat)/\(decide (x<E)=false->(f.length=f.length/\bz p=d/\f.length=p.offers.length)/\(cE an/\cE ao)/\f.length=F.length/\f.length=F.length/\(n [q [δf true,m af.fst,e v af.snd.fst,e v af.snd.snd,am,e sF F],S]).same a7/\t.same t/\True)))))) (by kernel_rfl) ?_;simp only[vcs];have hz:j6 p f=false->(γQ [δf false,δf false,Ω (bp.i IntKind.i64) [],Ω (bp.i IntKind.i64) [],Ω (bp.i IntKind.i64) [],Ω (bp.i IntKind.i64) []]).same
   (γQ [γx (j6 p f),γx (kr p f).fst,Ω (bp.i IntKind.u32) (kr p f).snd.fst,Ω (bp.i IntKind.u32) (kr p f).snd.snd,Ω sF (qR p f),Ω sF (ku p f)]):=λh=>by
  unfold kr qR ku;simp only[h];rfl
 refine⟨hl,λh=>hz (by unfold j6;rw[decide_eq_false h];rfl),λh=>?_⟩;have hx0:jg p f=0:=γf.1 h;have hcl:bz p=0/\f.length=p.offers.length/\jP f=true:=by
  unfold jg at hx0;split at hx0;·rename_i h1;exact absurd hx0 h1
  ·rename_i h1;split at hx0;·cases hx0
   ·rename_i h2;split at hx0;·rename_i h3;exact⟨γf.1 h1,γf.1 h2,h3⟩
    ·cases hx0
 obtain⟨hc,hln,hr⟩:=hcl;refine⟨⟨⟨hc,hln⟩,hr⟩,λh1=>⟨hz ?_,hx0.symm⟩,λh1=>?_⟩
 ·have hb:ic p f=false:=by
   cases hb:ic p f with
   |false=>rfl;|true=>rw[hb] at h1;exact absurd rfl h1
  unfold j6;rw[hb,Bool.and_false]
 ·have hb:ic p f=true:=by
   cases hb:ic p f with
   |true=>rfl;|false=>rw[hb] at h1;exact absurd (by simp) h1
  have hfx:eV p f:=⟨hc,hln,hb⟩;have hG:mT p f=((iL (jQ p f)).1,((iL (jQ p f)).2,bE f 0)):=by unfold mT;rw[if_pos hb]
  have hok:j6 p f=true:=by unfold j6;rw[hb,decide_eq_true hx0];rfl
  have h0:(κ 0:Rat)=0:=rfl;have h1':(κ 1:Rat)=1:=rfl;simp only[hG,Uc,Ud,h0,h1',jO];have e1:(jQ p f).1.length=nF f:=by
   show((bE f 0).map _).length=_;rw[Ξ]
  have e2:(jQ p f).2.length=mF p:=by
   show((cG (mF p)).map _).length=_;rw[Ξ,fU]
  have Ku:((jQ p f).1,(jQ p f).2)=jQ p f:=rfl;simp only[Ku,aen,e1,e2];have uR:∀{x y:List bL},x=y->(bq.row sF x 177 true).same (bq.row sF y 177 true):=by rintro _ _ rfl;rfl
  have hs0:=@yN p f 0;have hf0:=@fF (j5 p f 0);have hpt:=@EF (dx p f) (nF f) (mF p);have hfp:=@fF (gq (dx p f) (nF f) (mF p));have hcast:∀k:Nat,((k:Nat):Int).toNat=k:=λk=>γl k;have hnf:nF f=(bE f 0).length:=rfl;have hdl0:=@uQ f 0;refine⟨⟨jQ p f,rfl,aem hfx⟩,λh=>(by cases h),λ_=>⟨by omega,by omega,by omega,by omega,⟨⟨⟨trivial,by rw[hcast];rfl⟩,rfl,uR (by rw[yI,hf0,hs0,hcast])⟩,by omega,by omega⟩,?_⟩⟩;rintro i ⟨i0,i1⟩;have o7:=@yH (fL (j5 p f 0)) i.toNat (false,([],[])) (by omega);refine⟨λhi=>?_,λhi=>?_⟩
  ·have hv:bj (fL (j5 p f 0)) i.toNat (false,([],[]))=bu (if bj f i.toNat 0=1 then 1 else 0):=by rw[jz (by omega),aer (by omega)]
   have hset:∀x:bL,x=bu (if bj f i.toNat 0=1 then 1 else 0)->(eT (fL (j5 p f 0)) i.toNat (false,([],[]))).set i.toNat x=eT (fL (j5 p f 0)) (i+1).toNat (false,([],[])):=λx hx=>by
    have:=yK (d:=fL (j5 p f 0)) (j:=i.toNat) (z:=(false,([],[]))) (x:=x) (by omega) (hx.trans hv.symm);rw[show(i+1).toNat=i.toNat+1 by omega];exact this
   rw[Φ];refine⟨i0,hi,by omega,by omega,by omega,i0,by omega,by omega,by omega,λh1=>⟨by omega,by omega,i0,by omega,by omega,by omega,by omega,uR ?_,by omega,by omega⟩,λh1=>⟨by omega,uR ?_,by omega,by omega⟩⟩
   ·rw[List.set_set];exact hset _ (by rw[if_pos h1])
   ·exact hset _ (by rw[if_neg h1])
  ·have hi2:i.toNat=(fL (j5 p f 0)).length:=by omega
   rw[hi2,yJ];refine⟨⟨uR rfl,by omega,by omega⟩,?_⟩;rintro k ⟨k0,k1⟩;have hsk:=@yN p f k.toNat;have hfk:=@fF (j5 p f k.toNat);refine⟨λhk=>?_,λhk=>?_⟩
   ·have hm:=(kQ.1 (dq (d:=0) (show k.toNat<(bE f 0).length by omega))).1;have hv:bj (fL (gq (dx p f) (nF f) (mF p))) k.toNat sF.dflt=bu (bj (gq (dx p f) (nF f) (mF p)) k.toNat 0):=jz (by omega);have hst:=@aep p f k.toNat (by omega);rw[hv];refine⟨k0,hk,by omega,k0,by omega,by omega,by omega,hm.1,by omega,by omega,by omega,by omega,uR ?_,by omega,by omega⟩;rw[yL,show(k+1).toNat=k.toNat+1 by omega,hst]
   ·have hk2:k.toNat=nF f:=by omega
    rw[hk2] at hsk hfk ⊢;have hab:=@Bv p hc f f.length hln;rw[ψ] at hab;have hsa:Sz 1 ((gC p f:Int):Rat):=by
     unfold Sz;rw[Rat.num_intCast,Rat.den_intCast];omega
    have hsv:Sz 1000000 (dx p f).value:=by
     have:=(EB hfx).wG (oJ hfx).1;exact this.2.2.2
    refine⟨⟨hc,hln⟩,⟨dN hsa (by omega),dN hsv (by omega)⟩,by omega,by omega,?_,hx0.symm⟩;unfold kr qR ku;simp only[hok,if_true,ez];rfl
def K1:dG:=EZ 104 (List bL) (.one (dL sF)) (λx a=>fp x/\pD a/\a.length=x.p.offers.length) (λx a=>nA.put ⟨eE (vL a),cM ((eE (vL a)).map (oI x.p))⟩) λx _=>x
def ky (x:List Rat) (k:Nat):List Int:=(cG k).filter λi=>decide (0<bj x i.toNat 0)
def lK (p:bn) (l:List Int):Int:=cM (l.map (oI p))
def afd (x:dI) (a:List bL):Nat->cC
 |3=>match x.en with
  |none=> .inv Int (λi=>⟨[(0,.ptr 0 0 28),(4,.ptr 3 0 2),(5,.ptr 5 0 2),(10,.row sF a),(11,.si .i64 a.length),(12,.si .i64 i)],
    x.yQ++[.cells [.sc (.slice none 0 0),.si .i64 0] 40 2 false,.row (.i .i64) (ky (vL a) i.toNat) 3 true,.cells [.ow 4 (ky (vL a) i.toNat).length 1,.si .i64 (lK x.p (ky (vL a) i.toNat))] 40 2 false]⟩)
    (λs=>iS s 12) (λi=>0<=i/\i<=a.length) (λi=>(a.length - i).toNat) λ_ _=> .look
  |some m=> .inv Int (λi=>⟨[(0,.ptr 0 0 28),(4,.ptr 4 0 2),(5,.ptr 6 0 2),(10,.row sF a),(11,.si .i64 a.length),(12,.si .i64 i)],
    x.yR m++[.cells [.sc (.slice none 0 0),.si .i64 0] 40 2 false,.row (.i .i64) (ky (vL a) i.toNat) 3 true,.cells [.ow 5 (ky (vL a) i.toNat).length 1,.si .i64 (lK x.p (ky (vL a) i.toNat))] 40 2 false]⟩)
    (λs=>iS s 12) (λi=>0<=i/\i<=a.length) (λi=>(a.length - i).toNat) λ_ _=> .look
 |_=> .look
theorem UN {x:List Rat} {i:Int} (i0:0<=i):ky x (i+1).toNat=if 0<bj x i.toNat 0 then ky x i.toNat++[i] else ky x i.toNat:=by
 unfold ky;rw[show(i+1).toNat=i.toNat+1 by omega,pX,List.filter_append,εE i0];grind
theorem UO {p:bn} {x:List Rat} {k:Nat} (a:bz p=0) (g:k<=p.offers.length):(ky x k).length<=160/\0<=lK p (ky x k)/\lK p (ky x k)<=160000000:=by
 have e:(ky x k).length<=k:=by
  have:=δe (λi:Int=>decide (0<bj x i.toNat 0)) (cG k);rw[fU] at this;exact this
 have c:=sT (dQ a) (l:=(ky x k).map (oI p)) λy b=>by
  obtain⟨i,d,rfl⟩:=Ψ.1 b;have:=jv.1 (γt.1 d).1;exact dq (by omega)
 rw[Ξ] at c;have f:=(dQ a).2.1;grind[lK]
theorem UP {p:bn} {l:List Int} {i:Int}:lK p (l++[i])=lK p l+(oI p i).value:=by
 simp_all[lK,pU,cM]
theorem h446:ec Tryz.prog K1:=by
 refine Bz (L:=[s9]) (W:=[]) K1 (λa=>afd a.1 a.2) (by simp) (by simpa using h99) ?_;rintro⟨⟨p,ch,val,found,en,k1,k2,most,err,prf,fx⟩,a⟩ ⟨hok,⟨l,hx,hla,hz⟩,hl⟩;simp only at hok hx hla hl;subst hx;have hc:bz p=0:=hok.f.c;have h160:=(dQ hc).2.1;have hll:=@fF l;have hl:(fL l).length=p.offers.length:=hl;cases en with
 |none=>
  refine bQ (let a:=γg .i64;let b:=bq.cells;let c:=bq.row;let d:=(0:Int);let e:=Ω;let f:=γZ;let g:=γP;let r:=g 0 0 28;let s:=g 3 0 2;let t:=g 5 0 2;let C:=(↑(fL l).length:Int);let k:=(↑(fL l).length:Int);let v:=a k;let w:=γA .i64 0;let D:=a 0;let j:=bp.i .i64;let m:=b [a p.supply.a0,a p.supply.a1,a p.supply.a2,a p.supply.a3,a p.supply.a4,a p.supply.a5,a p.opn.a0,a p.opn.a1,a p.opn.a2,a p.opn.a3,a p.opn.a4,a p.opn.a5,a p.cls.a0,a p.cls.a1,a p.cls.a2,a p.cls.a3,a p.cls.a4,a p.cls.a5,e j p.classes,e bp.off p.offers,e j ch,a val,γx found,SV.fn (Fn.func 70) [] [],f 1 k1 5,f 2 k2 1,a most,a err] 126 28 false;let n:=c bF prf 108 true;let o:=c j fx 3 true;let E:=SV.sc (Value.slice none 0 0);let y:=b [E,D] 40 2 false;let z:=ky (vL (fL l)) 0;(((r.same r/\s.same s/\t.same t/\(e sF (fL l)).same (e sF (fL l))/\(a C).same v/\w.same D/\True)/\m.same m/\n.same n/\o.same o/\(b [E,w] 40 2 false).same y/\(c j [] 3 true).same (c j z 3 true)/\(b [f 4 0 1,w] 40 2 false).same (b [f 4 z.length 1,a (lK p z)] 40 2 false)/\True)/\d<=d/\d<=k)/\∀(x:Int),let q:=x+(1:Int);let F:=a q;let A:=ky (vL (fL l)) q.toNat;let B:=bj (fL l) x.toNat sF.dflt;let G:=(B.fst,B.snd.fst,B.snd.snd);let h:=ky (vL (fL l)) x.toNat;let H:=h.length+1;let I:=lK p h+(bj p.offers x.toNat bp.off.dflt).value;let J:=λ(u:bq) (u_1:Nat) (u_2:Int) ↦cq .i64 q/\((r.same r/\s.same s/\t.same t/\(e sF (fL l)).same (e sF (fL l))/\v.same v/\F.same F/\True)/\m.same m/\n.same n/\o.same o/\y.same y/\u.same (c j A 3 true)/\(b [f 4 u_1 1,a u_2] 40 2 false).same (b [f 4 A.length 1,a (lK p A)] 40 2 false)/\True)/\(d<=q/\q<=k)/\(k - q).toNat<(k - x).toNat;let K:=λ(u:Bool) ↦decide (d<jN (bW G))=u;d<=x/\x<=k->(decide (x<k)=true->d<=x/\x<C/\x.toNat<(fL l).length/\cE G/\(K true->1=1/\h.length=h.length/\H*8<=140737488355328/\H<=1000000000000/\d<=x/\x<(↑p.offers.length:Int)/\x.toNat<p.offers.length/\cq .i64 I/\J (c j (h++[x]) 3 true) (h++[x]).length I)/\(K false->J (c j h 3 true) h.length (lK p h)))/\(decide (x<k)=false->h.length=h.length/\h.length=h.length/\h.length=h.length/\(γQ [e j h,a (lK p h)]).same (γQ [e j (eE (vL (fL l))),a (cM (γb (oI p) (eE (vL (fL l)))))])/\m.same m/\n.same n/\o.same o/\True)) (by kernel_rfl) ?_;simp only[vcs];have lJ:∀{x y:List Int},x=y->(bq.row (.i .i64) x 3 true).same (bq.row (.i .i64) y 3 true):=by rintro _ _ rfl;rfl
  have hcI:∀{x y:List Int} {v w:Int},x=y->v=w->(bq.cells [.ow 4 x.length 1,.si .i64 v] 40 2 false).same (bq.cells [.ow 4 y.length 1,.si .i64 w] 40 2 false):=by rintro _ _ _ _ rfl rfl;rfl
  refine⟨⟨⟨rfl,lJ rfl,rfl⟩,by omega,by omega⟩,?_⟩;rintro i ⟨i0,i1⟩;have hb:=@UO p (vL (fL l)) i.toNat hc (by omega);refine⟨λhi=>?_,λhi=>?_⟩
  ·have hv:bj (fL l) i.toNat sF.dflt=bu (bj l i.toNat 0):=jz (by omega);have hq:=hz _ (dq (d:=0) (show i.toNat<l.length by omega));have ho:=(kR hc (i:=i) (by omega)).2.2.2;have hval:(bj p.offers i.toNat bp.off.dflt).value=(oI p i).value:=rfl;have hs:=@UN (vL (fL l)) i i0;rw[hv,hval];rw[kO] at hs hb ⊢;simp only[jO,ez,uM];refine⟨i0,hi,by omega,dN hq (by omega),λh=>?_,λh=>?_⟩
   ·rw[if_pos h] at hs;rw[hs,UP];refine⟨?_,?_,i0,?_,?_,?_,?_,⟨lJ rfl,hcI rfl rfl⟩,?_,?_⟩<;>omega
   ·rw[if_neg h] at hs;rw[hs];refine⟨?_,⟨lJ rfl,hcI rfl rfl⟩,?_,?_⟩<;>omega
  ·rw[show i.toNat=(vL (fL l)).length by rw[kO];omega];rfl;|some m=>
  refine bQ (let a:=γg .i64;let b:=bq.cells;let c:=bq.row;let d:=(0:Int);let e:=Ω;let f:=γZ;let g:=γP;let t:=g 0 0 28;let v:=g 4 0 2;let w:=g 6 0 2;let E:=(↑(fL l).length:Int);let k:=(↑(fL l).length:Int);let y:=a k;let z:=γA .i64 0;let F:=a 0;let j:=bp.i .i64;let n:=b [a p.supply.a0,a p.supply.a1,a p.supply.a2,a p.supply.a3,a p.supply.a4,a p.supply.a5,a p.opn.a0,a p.opn.a1,a p.opn.a2,a p.opn.a3,a p.opn.a4,a p.opn.a5,a p.cls.a0,a p.cls.a1,a p.cls.a2,a p.cls.a3,a p.cls.a4,a p.cls.a5,e j p.classes,e bp.off p.offers,e j ch,a val,γx found,SV.fn (Fn.func 116) [] [g 1 0 1],f 2 k1 5,f 3 k2 1,a most,a err] 126 28 false;let o:=b [a m] 2 1 false;let q:=c bF prf 108 true;let r:=c j fx 3 true;let G:=SV.sc (Value.slice none 0 0);let A:=b [G,F] 40 2 false;let B:=ky (vL (fL l)) 0;(((t.same t/\v.same v/\w.same w/\(e sF (fL l)).same (e sF (fL l))/\(a E).same y/\z.same F/\True)/\n.same n/\o.same o/\q.same q/\r.same r/\(b [G,z] 40 2 false).same A/\(c j [] 3 true).same (c j B 3 true)/\(b [f 5 0 1,z] 40 2 false).same (b [f 5 B.length 1,a (lK p B)] 40 2 false)/\True)/\d<=d/\d<=k)/\∀(x:Int),let s:=x+(1:Int);let H:=a s;let C:=ky (vL (fL l)) s.toNat;let D:=bj (fL l) x.toNat sF.dflt;let I:=(D.fst,D.snd.fst,D.snd.snd);let h:=ky (vL (fL l)) x.toNat;let J:=h.length+1;let K:=lK p h+(bj p.offers x.toNat bp.off.dflt).value;let L:=λ(u:bq) (u_1:Nat) (u_2:Int) ↦cq .i64 s/\((t.same t/\v.same v/\w.same w/\(e sF (fL l)).same (e sF (fL l))/\y.same y/\H.same H/\True)/\n.same n/\o.same o/\q.same q/\r.same r/\A.same A/\u.same (c j C 3 true)/\(b [f 5 u_1 1,a u_2] 40 2 false).same (b [f 5 C.length 1,a (lK p C)] 40 2 false)/\True)/\(d<=s/\s<=k)/\(k - s).toNat<(k - x).toNat;let M:=λ(u:Bool) ↦decide (d<jN (bW I))=u;d<=x/\x<=k->(decide (x<k)=true->d<=x/\x<E/\x.toNat<(fL l).length/\cE I/\(M true->1=1/\h.length=h.length/\J*8<=140737488355328/\J<=1000000000000/\d<=x/\x<(↑p.offers.length:Int)/\x.toNat<p.offers.length/\cq .i64 K/\L (c j (h++[x]) 3 true) (h++[x]).length K)/\(M false->L (c j h 3 true) h.length (lK p h)))/\(decide (x<k)=false->h.length=h.length/\h.length=h.length/\h.length=h.length/\(γQ [e j h,a (lK p h)]).same (γQ [e j (eE (vL (fL l))),a (cM (γb (oI p) (eE (vL (fL l)))))])/\n.same n/\o.same o/\q.same q/\r.same r/\True)) (by kernel_rfl) ?_;simp only[vcs];have lJ:∀{x y:List Int},x=y->(bq.row (.i .i64) x 3 true).same (bq.row (.i .i64) y 3 true):=by rintro _ _ rfl;rfl
  have hcI:∀{x y:List Int} {v w:Int},x=y->v=w->(bq.cells [.ow 5 x.length 1,.si .i64 v] 40 2 false).same (bq.cells [.ow 5 y.length 1,.si .i64 w] 40 2 false):=by rintro _ _ _ _ rfl rfl;rfl
  refine⟨⟨⟨rfl,lJ rfl,rfl⟩,by omega,by omega⟩,?_⟩;rintro i ⟨i0,i1⟩;have hb:=@UO p (vL (fL l)) i.toNat hc (by omega);refine⟨λhi=>?_,λhi=>?_⟩
  ·have hv:bj (fL l) i.toNat sF.dflt=bu (bj l i.toNat 0):=jz (by omega);have hq:=hz _ (dq (d:=0) (show i.toNat<l.length by omega));have ho:=(kR hc (i:=i) (by omega)).2.2.2;have hval:(bj p.offers i.toNat bp.off.dflt).value=(oI p i).value:=rfl;have hs:=@UN (vL (fL l)) i i0;rw[hv,hval];rw[kO] at hs hb ⊢;simp only[jO,ez,uM];refine⟨i0,hi,by omega,dN hq (by omega),λh=>?_,λh=>?_⟩
   ·rw[if_pos h] at hs;rw[hs,UP];refine⟨?_,?_,i0,?_,?_,?_,?_,⟨lJ rfl,hcI rfl rfl⟩,?_,?_⟩<;>omega
   ·rw[if_neg h] at hs;rw[hs];refine⟨?_,⟨lJ rfl,hcI rfl rfl⟩,?_,?_⟩<;>omega
  ·rw[show i.toNat=(vL (fL l)).length by rw[kO];omega];rfl
def K2:bM:=⟨105,List bL,.one (dL sF),pD,λx=> .bI [.si .i64 ((jR (vL x)).getD 0),.sb (jR (vL x)).isSome]⟩
def kz:Option (Int×Rat)->bL
 |none=>(false,([],[]))
 |some (_,q)=>bu q
def wL:Option (Int×Rat)->Int
 |none=>0
 |some (i,_)=>i
def afe (x:List bL):Nat->cC
 |6=> .inv Int (λi=>⟨[(4,.ptr 0 0 3),(6,.ptr 1 0 3),(7,.ptr 2 0 2),(8,.ptr 3 0 3),(17,.row sF x),(18,.si .i64 x.length),(19,.si .i64 i)],
   [.cells [.sb (bu (fY false 1 2)).1,.row (.i .u32) (bu (fY false 1 2)).2.1,.row (.i .u32) (bu (fY false 1 2)).2.2] 177 3 false,
    .cells [.sb (bu ((1:Int):Rat)).1,.row (.i .u32) (bu ((1:Int):Rat)).2.1,.row (.i .u32) (bu ((1:Int):Rat)).2.2] 177 3 false,
    .cells [.sb (jB (vL x) i.toNat).isSome,.si .i64 (wL (jB (vL x) i.toNat))] 237 2 false,
    .cells [.sb (kz (jB (vL x) i.toNat)).1,.row (.i .u32) (kz (jB (vL x) i.toNat)).2.1,.row (.i .u32) (kz (jB (vL x) i.toNat)).2.2] 177 3 false,.dead,.dead]⟩)
   (λs=>iS s 19) (λi=>0<=i/\i<=x.length) (λi=>(x.length - i).toNat) λ_ _=> .look
 |_=> .look
theorem aff {q:Rat} {k:Nat} (h:Sz k q):Sz k (mV q):=by
 grind[mV,Bh]
theorem UQ:mkRat 1 2=(1 / 2:Rat):=by
 grind[Rat.mkRat_eq_div]
theorem UR:Sz 1 (1 / 2:Rat):=by
 grind[UQ,Bf]
theorem K3 {q:Rat} (h:Sz 1000 q):Sz 1002 (q - 1 / 2):=by
 rw[Rat.sub_eq_add_neg];exact Bg h (j:=1) (Bh UR)
theorem h447:Holds Tryz.prog K2:=by
 refine cH (L:=[KU,oH,uI,s9,yC,Bl,yB]) K2 afe (by simpa using⟨h451,h94,h407,h99,h97,h95,h130⟩) ?_;rintro(x:List bL) ⟨l,hx,hl,hz⟩;refine bQ (let a:=bq.cells;let b:=Ω;let c:=(0:Int);let d:=γg .i64;let e:=(9223372036854775807:Int);let f:=γx;let g:=(-9223372036854775808:Int);let h:=(1:Int);let j:=cq .i64;let k:=γP;let l:=δf false;let m:=(2:Int);let n:=bp.i .u32;let r:=k 0 0 3;let s:=k 1 0 3;let t:=k 2 0 2;let v:=k 3 0 3;let o:=(↑x.length:Int);let w:=d o;let R:=γA .i64 0;let y:=fY false h m;let z:=κ h;let F:=jB (vL x) 0;let B:=a [f (bu y).fst,b n (bu y).snd.fst,b n (bu y).snd.snd] 177 3 false;let C:=a [f (bu z).fst,b n (bu z).snd.fst,b n (bu z).snd.snd] 177 3 false;let S:=((bu z).fst,(bu z).snd.fst,(bu z).snd.snd);let T:=((bu y).fst,(bu y).snd.fst,(bu y).snd.snd);let U:=λ(u:Rat) ↦(a [f (bu u).fst,b n (bu u).snd.fst,b n (bu u).snd.snd] 177 3 false).same (a [f (bu u).fst,b n (bu u).snd.fst,b n (bu u).snd.snd] 177 3 false);((g<=h/\h<=e)/\c<m/\m<=e)/\(g<=h/\h<=e)/\0=0/\0=0/\(((r.same r/\s.same s/\t.same t/\v.same v/\(b sF x).same (b sF x)/\(d (↑x.length:Int)).same w/\R.same (d 0)/\True)/\U y/\U z/\(a [l,R] 237 2 false).same (a [f F.isSome,d (wL F)] 237 2 false)/\(a [l,b n [],b n []] 177 3 false).same (a [f (kz F).fst,b n (kz F).snd.fst,b n (kz F).snd.snd] 177 3 false)/\bq.dead.same bq.dead/\bq.dead.same bq.dead/\True)/\c<=c/\c<=o)/\∀(x_1:Int),let p:=x_1+h;let D:=d p;let G:=jB (vL x) p.toNat;let N:=a [f G.isSome,d (wL G)] 237 2 false;let A:=bj x x_1.toNat sF.dflt;let H:=(A.fst,A.snd.fst,A.snd.snd);let E:=bu (bW H - bW T);let I:=(E.fst,E.snd.fst,E.snd.snd);let V:=(bu (-bW I)).fst;let K:=(bu (-bW I)).snd;let O:=a [f (kz G).fst,b n (kz G).snd.fst,b n (kz G).snd.snd] 177 3 false;let q:=jB (vL x) x_1.toNat;let W:=d (wL q);let X:=(V,K.fst,K.snd);let L:=((kz q).fst,(kz q).snd.fst,(kz q).snd.snd);let M:=q.isSome==false&&(decide (wL q=c)&&true);let Y:=j p/\((r.same r/\s.same s/\t.same t/\v.same v/\(b sF x).same (b sF x)/\w.same w/\D.same D/\True)/\B.same B/\C.same C/\(a [δf true,d x_1] 237 2 false).same N/\(a [f V,b n K.fst,b n K.snd] 177 3 false).same O/\bq.dead.same bq.dead/\bq.dead.same bq.dead/\True)/\(c<=p/\p<=o)/\(o - p).toNat<(o - x_1).toNat;let Z:=j p/\((r.same r/\s.same s/\t.same t/\v.same v/\(b sF x).same (b sF x)/\w.same w/\D.same D/\True)/\B.same B/\C.same C/\(a [δf true,d x_1] 237 2 false).same N/\(a [f E.fst,b n E.snd.fst,b n E.snd.snd] 177 3 false).same O/\bq.dead.same bq.dead/\bq.dead.same bq.dead/\True)/\(c<=p/\p<=o)/\(o - p).toNat<(o - x_1).toNat;let J:=j p/\((r.same r/\s.same s/\t.same t/\v.same v/\(b sF x).same (b sF x)/\w.same w/\D.same D/\True)/\B.same B/\C.same C/\(a [f q.isSome,W] 237 2 false).same N/\(a [f (kz q).fst,b n (kz q).snd.fst,b n (kz q).snd.snd] 177 3 false).same O/\bq.dead.same bq.dead/\bq.dead.same bq.dead/\True)/\(c<=p/\p<=o)/\(o - p).toNat<(o - x_1).toNat;let P:=cE I;let Q:=cE H;let a0:=λ(u:Bool) ↦decide (iU (bW X) (bW L)<c)=u;let a1:=λ(u:Bool) ↦decide (iU (bW I) (bW L)<c)=u;let a2:=λ(u:Bool) ↦decide (jN (bW I)<c)=u;let a3:=λ(u:Bool) ↦decide (c<=iU (bW H) (bW S))=u;let a4:=λ(u:Bool) ↦decide (jN (bW H)<=c)=u;let a5:=λ(u:Bool) ↦(!okF H)=u;c<=x_1/\x_1<=o->(decide (x_1<o)=true->c<=x_1/\x_1<(↑x.length:Int)/\x_1.toNat<x.length/\((bA A.snd.fst/\bA A.snd.snd)/\γc A.snd.fst<=10000000/\γc A.snd.snd<=10000000)/\(a5 true->J)/\(a5 false->Q/\(a4 true->J)/\(a4 false->(Q/\cE S)/\(a3 true->J)/\(a3 false->(Q/\cE T)/\P/\(a2 true->P/\(M=true->Y)/\(M=false->(cE X/\cE L)/\(a0 true->Y)/\(a0 false->J)))/\(a2 false->(M=true->Z)/\(M=false->(P/\cE L)/\(a1 true->Z)/\(a1 false->J)))))))/\(decide (x_1<o)=false->(SV.bI [W,f q.isSome]).same (SV.bI [d ((jR (vL x)).getD c),f (jR (vL x)).isSome]))) (by kernel_rfl) ?_;simp only[vcs];subst hx;rw[fF] at hl;have hh:fY false 1 2=1 / 2:=UQ;simp only[kO,fF,hh];have hbr:∀{b c:Option (Int×Rat)},b=c->(bq.cells [.sb b.isSome,.si .i64 (wL b)] 237 2 false).same (bq.cells [.sb c.isSome,.si .i64 (wL c)] 237 2 false):=by rintro _ _ rfl;rfl
 have hbd:∀{b c:Option (Int×Rat)},b=c->(bq.cells [.sb (kz b).1,.row (.i .u32) (kz b).2.1,.row (.i .u32) (kz b).2.2] 177 3 false).same (bq.cells [.sb (kz c).1,.row (.i .u32) (kz c).2.1,.row (.i .u32) (kz c).2.2] 177 3 false):=by rintro _ _ rfl;rfl
 have f1:cE (bu (κ 1)):=dN (k:=1) (by unfold Sz;decide) (by omega);have f2:cE (bu (1 / 2)):=dN UR (by omega);refine⟨⟨⟨by omega,by omega⟩,by omega,by omega⟩,⟨by omega,by omega⟩,⟨⟨rfl,rfl⟩,by omega,by omega⟩,?_⟩;rintro i ⟨i0,i1⟩;refine⟨λhi=>?_,λhi=>?_⟩
 ·have hv:bj (fL l) i.toNat sF.dflt=bu (bj l i.toNat 0):=jz (by omega);have hq:=hz _ (dq (d:=0) (show i.toNat<l.length by omega));have hs:jB l (i+1).toNat=if 0<bj l i.toNat 0/\bj l i.toNat 0<1 then(match jB l i.toNat with
   |none=>some (i,mV (bj l i.toNat 0 - 1 / 2))
   |some (j,d)=>if mV (bj l i.toNat 0 - 1 / 2)<d then some (i,mV (bj l i.toNat 0 - 1 / 2)) else some (j,d)) else jB l i.toNat:=by
   rw[show(i+1).toNat=i.toNat+1 by omega];conv=>lhs;unfold jB
   rw[εE i0];cases jB l i.toNat<;>rfl
  have hbs:∀j d,jB l i.toNat=some (j,d)->cE (bu d):=λj d h=>by
   obtain⟨h1,h2,h3⟩:=KF h;rw[h3];exact dN (aff (K3 (hz _ (dq (by omega))))) (by omega)
  rw[hv,hs];generalize bj l i.toNat 0=q at*;generalize jB l i.toNat=B at*;simp only[jO,ez];obtain⟨_,⟨u1,u2,u3⟩,⟨u4,u5,u6⟩⟩:=mq q;obtain⟨m1,m2⟩:=pz hq;have hok:=E1 q;have fq:cE (bu q):=dN hq (by omega);have fd:cE (bu (q - 1 / 2)):=dN (K3 hq) (by omega);have fn:cE (bu (-(q - 1 / 2))):=dN (Bh (K3 hq)) (by omega);refine⟨i0,hi,by omega,⟨⟨u1,u4⟩,by omega,by omega⟩,λh=>absurd hok (by rw[show okF (bu q)=false from h];simp),λ_=>⟨fq,λh1=>?_,λh1=>⟨⟨fq,f1⟩,λh2=>?_,λh2=>?_⟩⟩⟩
  ·rw[if_neg (λh=>by have:=uM.2 h.1;omega)];exact⟨by omega,⟨hbr rfl,hbd rfl⟩,by omega⟩
  ·rw[if_neg (λh=>by have:=tq.2 h.2;have e:iU q (κ 1)=iU q 1:=rfl;omega)];exact⟨by omega,⟨hbr rfl,hbd rfl⟩,by omega⟩
  ·have hp:0<q/\q<1:=⟨uM.1 (by omega),tq.1 (by have e:iU q (κ 1)=iU q 1:=rfl;omega)⟩;rw[if_pos hp];refine⟨⟨fq,f2⟩,fd,λh3=>?_,λh3=>?_⟩
   ·have ha:mV (q - 1 / 2)= -(q - 1 / 2):=by unfold mV;rw[if_pos (Bn.1 h3)]
    rw[ha];cases B with
    |none=>exact⟨fd,λ_=>⟨by omega,⟨rfl,rfl⟩,by omega⟩,λh=>absurd h (by decide)⟩;|some b=>
     obtain⟨j,d⟩:=b;dsimp only;refine⟨fd,λh=>absurd h.1 ζl,λ_=>⟨⟨fn,hbs j d rfl⟩,λh5=>?_,λh5=>?_⟩⟩
     ·rw[if_pos (tq.1 (by rw[<-ez d];exact h5))];exact⟨by omega,⟨rfl,rfl⟩,by omega⟩
     ·rw[if_neg (λh=>h5 (by rw[<-ez d] at h;exact tq.2 h))];exact⟨by omega,⟨hbr rfl,hbd rfl⟩,by omega⟩
   ·have ha:mV (q - 1 / 2)=q - 1 / 2:=by unfold mV;rw[if_neg (λh=>h3 (Bn.2 h))]
    rw[ha];cases B with
    |none=>exact⟨λ_=>⟨by omega,⟨rfl,rfl⟩,by omega⟩,λh=>absurd h (by decide)⟩;|some b=>
     obtain⟨j,d⟩:=b;dsimp only;refine⟨λh=>absurd h.1 ζl,λ_=>⟨⟨fd,hbs j d rfl⟩,λh5=>?_,λh5=>?_⟩⟩
     ·rw[if_pos (tq.1 (by rw[<-ez d];exact h5))];exact⟨by omega,⟨rfl,rfl⟩,by omega⟩
     ·rw[if_neg (λh=>h5 (by rw[<-ez d] at h;exact tq.2 h))];exact⟨by omega,⟨hbr rfl,hbd rfl⟩,by omega⟩
 ·rw[show i.toNat=l.length by omega];unfold jR;cases jB l l.length<;>exact⟨rfl,rfl⟩
noncomputable def wM (n:Nat):dG:=EZ 72 Int (.one (eZ .i64)) (λx a=>fp x/\(0<=a/\a<x.prf.length)/\nF x.fx<n) (λ_ _=> .bI []) λx a=>x.upd (dF x.p (cy x.en) x.most (nF x.fx) x.s a x.fx)
noncomputable def E3 (n:Nat):dG:=EZ 106 (Int×Int×Int) (.cons (eZ .i64) (.cons (eZ .i64) (.one (eZ .i64)))) (λx a=>fp x/\(0<=a.1/\a.1<x.prf.length)/\(0<=a.2.1/\a.2.1<x.fx.length)/\bj x.fx a.2.1.toNat 0=0/\(a.2.2=1\/a.2.2= -1)/\nF (x.fx.set a.2.1.toNat a.2.2)<n) (λ_ _=> .bI []) λx a=>x.upd (dF x.p (cy x.en) x.most (nF (x.fx.set a.2.1.toNat a.2.2)) x.s a.1 (x.fx.set a.2.1.toNat a.2.2))
theorem afg {L:List bM} {W:List dG} (c:dG) (F:fz) (Λ:c.α->Nat->cC) (i:∀c∈W,ec Tryz.prog c) (e:∀c∈L,Holds Tryz.prog c)
  
  (h:∀a,c.dom a->Vc (EW (oo L (gP W) rE rF jM) (Λ a) F (c.put a) (c.st a) λv s=>v.same (c.res a)/\kH s (c.out a))) (j:jM c.f=some F:=by kernel_rfl) (b:∀a,(c.put a).length=F.params:=by intro _;kernel_rfl) (d:oq c.f W=none:=by kernel_rfl):ec Tryz.prog c:=
 λa g=>aeJ c sQ i e j b a d (h a g).out
theorem fp.set {x:dI} (h:fp x) {k:Nat} {d:Int} (a:d=1\/d= -1):fp ⟨x.p,x.ch,x.val,x.found,x.en,x.k1,x.k2,x.most,x.err,x.prf,x.fx.set k d⟩:=
 ⟨⟨h.f.c,by rw[Φ];exact h.f.l,Uy h.f.r (by omega)⟩,h.k1,by rw[Φ];exact h.k2,h.v0,h.v1,h.m0,h.m1,h.l,h.c⟩
theorem afh {f:List Int} {k:Nat} {d:Int} (b:k<f.length) (a:bj f k 0=0):(f.set k d).set k 0=f:=by
 rw[cV b] at a;rw[List.set_set,<-a,List.set_getElem_self]
theorem afi {n:Nat} (hV:ec Tryz.prog (wM n)):ec Tryz.prog (E3 n):=by
 refine afg (L:=[]) (W:=[wM n]) (E3 n) (fG 106) lk (by simpa using hV) (by simp) ?_;rintro⟨⟨p,ch,val,found,en,k1,k2,most,err,prf,fx⟩,a,k,d⟩ ⟨hok,ha,hk,h0,hd,hn⟩;simp only at hok ha hk h0 hd hn;have e2:k2=fx.length:=hok.k2;have hb:=afh (d:=d) (show k.toNat<fx.length by omega) h0;have hr:∀{x y:List Int},x=y->(bq.row (.i .i64) x 3 true).same (bq.row (.i .i64) y 3 true):=by rintro _ _ rfl;rfl
 cases en with
 |none=>
  have hs:=hok.set (k:=k.toNat) hd;refine bQ (let b:=γg .i64;let c:=(0:Int);let e:=bq.row;let f:=Ω;let g:=fx.set k.toNat d;let j:=bp.i .i64;let h:=dF p (cy none) most (nF g) (dc.mk ch val found prf err) a g;let l:=bq.cells [b p.supply.a0,b p.supply.a1,b p.supply.a2,b p.supply.a3,b p.supply.a4,b p.supply.a5,b p.opn.a0,b p.opn.a1,b p.opn.a2,b p.opn.a3,b p.opn.a4,b p.opn.a5,b p.cls.a0,b p.cls.a1,b p.cls.a2,b p.cls.a3,b p.cls.a4,b p.cls.a5,f j p.classes,f bp.off p.offers,f j h.ch,b h.val,γx h.found,SV.fn (Fn.func 70) [] [],γZ 1 h.prf.length 5,γZ 2 k2 1,b most,b h.err] 126 28 false;let m:=e bF h.prf 108 true;k2=fx.length/\c<=k/\k<(↑fx.length:Int)/\k2=fx.length/\k.toNat<fx.length/\(fp (dI.mk p ch val found none k1 k2 most err prf g)/\(c<=a/\a<(↑prf.length:Int))/\nF g<n)/\k2=g.length/\c<=k/\k<(↑g.length:Int)/\k2=g.length/\k.toNat<g.length/\(SV.bI []).same (SV.bI [])/\l.same l/\m.same m/\(e j (g.set k.toNat c) 3 true).same (e j fx 3 true)/\True) (by kernel_rfl) ?_;conv=>zeta
  rw[Φ];exact⟨e2,hk.1,hk.2,e2,by omega,⟨hs,ha,hn⟩,e2,hk.1,hk.2,e2,by omega,rfl,rfl,rfl,hr hb,trivial⟩;|some m=>
  have hs:=hok.set (k:=k.toNat) hd;refine bQ (let b:=γg .i64;let c:=(0:Int);let e:=bq.row;let f:=Ω;let g:=fx.set k.toNat d;let j:=bp.i .i64;let h:=dF p (cy (some m)) most (nF g) (dc.mk ch val found prf err) a g;let l:=bq.cells [b p.supply.a0,b p.supply.a1,b p.supply.a2,b p.supply.a3,b p.supply.a4,b p.supply.a5,b p.opn.a0,b p.opn.a1,b p.opn.a2,b p.opn.a3,b p.opn.a4,b p.opn.a5,b p.cls.a0,b p.cls.a1,b p.cls.a2,b p.cls.a3,b p.cls.a4,b p.cls.a5,f j p.classes,f bp.off p.offers,f j h.ch,b h.val,γx h.found,SV.fn (Fn.func 116) [] [γP 1 0 1],γZ 2 h.prf.length 5,γZ 3 k2 1,b most,b h.err] 126 28 false;let o:=bq.cells [b m] 2 1 false;let q:=e bF h.prf 108 true;k2=fx.length/\c<=k/\k<(↑fx.length:Int)/\k2=fx.length/\k.toNat<fx.length/\(fp (dI.mk p ch val found (some m) k1 k2 most err prf g)/\(c<=a/\a<(↑prf.length:Int))/\nF g<n)/\k2=g.length/\c<=k/\k<(↑g.length:Int)/\k2=g.length/\k.toNat<g.length/\(SV.bI []).same (SV.bI [])/\l.same l/\o.same o/\q.same q/\(e j (g.set k.toNat c) 3 true).same (e j fx 3 true)/\True) (by kernel_rfl) ?_;conv=>zeta
  rw[Φ];exact⟨e2,hk.1,hk.2,e2,by omega,⟨hs,ha,hn⟩,e2,hk.1,hk.2,e2,by omega,rfl,rfl,rfl,rfl,hr hb,trivial⟩
theorem US {p:bn} {en:Int->Bool} {most:Int} {f:List Int} (j:eJ p f) {c b:dc->Int->List Int->dc} {s:dc} {a:Int}
  (h:∀k d:Int,(0<=k/\k<f.length)->bj f k.toNat 0=0->(d=1\/d= -1)->∀s a,c s a (f.set k.toNat d)=b s a (f.set k.toNat d)):fH p en most c s a f=fH p en most b s a f:=by
 unfold fH;split;·rfl
 split;·rfl
 rename_i o;have l:ic p f=true:=by simp_all
 split;·rfl
 split;·rfl
 rename_i k n;split;·rfl
 obtain⟨e,i,g⟩:=tj n;rw[rR] at e;have m:bj f k.toNat 0=0:=tg (j.ok l) j.r (by omega) i g;simp_all
theorem BD {p:bn} {en:Int->Bool} {most:Int} {f:List Int} (e:eJ p f) {s:dc} {a:Int}:dF p en most (nF f) s a f=fH p en most (λs a g=>dF p en most (nF g) s a g) s a f:=by
 have j:∀k d:Int,(0<=k/\k<f.length)->bj f k.toNat 0=0->(d=1\/d= -1)->nF f=nF (f.set k.toNat d)+1:=λk d c b i=>my c b (by omega);cases h:nF f with
 |zero=>exact US e λk d c b i=>by grind;|succ n=>
  refine US e λk d c b i s a=>?_;grind
section
variable {p:bn} {en:Int->Bool} {most:Int} {f:List Int} {s O:dc} {a k:Int}
theorem BE (b:eJ p f) (h:s.err≠0\/s.found=true):dF p en most (nF f) s a f=s:=by
 simp_all[BD,fH]
theorem UT (c:eJ p f) (h:¬(s.err≠0\/s.found=true)) (b:ic p f=false):dF p en most (nF f) s a f={s with prf:=s.prf.set a.toNat ER}:=by
 simp_all[BD,fH]
theorem yX (c:eJ p f) (h:¬(s.err≠0\/s.found=true)) (b:ic p f=true) (d:dp p en s f=O) (e:jh p f<((O.val+1:Int):Rat)):dF p en most (nF f) s a f={O with prf:=O.prf.set a.toNat (qS p f)}:=by
 simp_all[BD,fH]
theorem qc (b:eJ p f) (h:¬(s.err≠0\/s.found=true)) (d:ic p f=true) (c:dp p en s f=O) (g:¬jh p f<((O.val+1:Int):Rat)) (e:jR (dD p f)=none\/most<(O.prf.length:Int)+2):dF p en most (nF f) s a f={O with err:=12}:=by
 subst c;rw[BD b];unfold fH;grind
theorem yY (d:eJ p f) (h:¬(s.err≠0\/s.found=true)) (b:ic p f=true) (g:dp p en s f=O) (i:¬jh p f<((O.val+1:Int):Rat)) (c:jR (dD p f)=some k) (e:¬most<(O.prf.length:Int)+2):
  dF p en most (nF f) s a f=dF p en most (nF (f.set k.toNat (-1))) (dF p en most (nF (f.set k.toNat 1)) (gG O a k) (O.prf.length+1) (f.set k.toNat 1)) O.prf.length (f.set k.toNat (-1)):=by
 simp_all[BD,fH,if_neg]
end
theorem fp.UU {x:dI} (h:fp x):fp (x.upd (dp x.p (cy x.en) x.s x.fx)):=by
 obtain⟨d,i,b,a,g⟩:=@ET x.p (cy x.en) x.s x.fx;obtain⟨m,j,k⟩:=Uz h.f;have b:x.val<=(dp x.p (cy x.en) x.s x.fx).val:=b;have a:(dp x.p (cy x.en) x.s x.fx).val=x.val\/(dp x.p (cy x.en) x.s x.fx).val=(pC x.p x.fx).value:=a;have n:=h.v0;have o:=h.v1;refine⟨h.f,rfl,h.k2,?_,?_,h.m0,h.m1,?_,?_⟩
 ·show 0<=(dp x.p (cy x.en) x.s x.fx).val;omega
 ·show(dp x.p (cy x.en) x.s x.fx).val<=_;omega
 ·show(dp x.p (cy x.en) x.s x.fx).prf.length<=_;rw[d];exact h.l
 ·show(dp x.p (cy x.en) x.s x.fx).ch.length<=_;rcases g with e|e;·rw[e];exact h.c
  ·rw[e];omega
theorem fp.vis {x:dI} (h:fp x) {f:List Int} (i:eJ x.p f) {n:Nat} {a:Int}:fp (x.upd (dF x.p (cy x.en) x.most n x.s a f)):=by
 obtain⟨m,g,b,d,k,q⟩:=@rT x.p (cy x.en) x.most n x.s a f i;have b:x.val<=(dF x.p (cy x.en) x.most n x.s a f).val:=b;have d:(dF x.p (cy x.en) x.most n x.s a f).val=x.val\/(dF x.p (cy x.en) x.most n x.s a f).val<=160000000:=d;have r:=h.v0;have t:=h.v1;have o:=h.m1;have j:=h.l;refine⟨h.f,rfl,h.k2,?_,?_,h.m0,h.m1,?_,?_⟩
 ·show 0<=(dF x.p (cy x.en) x.most n x.s a f).val;omega
 ·show(dF x.p (cy x.en) x.most n x.s a f).val<=_;omega
 ·show(dF x.p (cy x.en) x.most n x.s a f).prf.length<=_;rcases g with e|e;·omega
  ·rw[e];exact j
 ·show(dF x.p (cy x.en) x.most n x.s a f).ch.length<=_;rcases k with e|e;·rw[e];exact h.c
  ·omega
theorem fp.spl {x:dI} (h:fp x) (b:¬x.most<(x.prf.length:Int)+2) {k:Nat} {l:List dj} (a:k=l.length) (d:l.length=x.prf.length+2):fp ⟨x.p,x.ch,x.val,x.found,x.en,k,x.k2,x.most,x.err,l,x.fx⟩:=
 ⟨h.f,a,h.k2,h.v0,h.v1,h.m0,h.m1,by have:=h.m1;grind,h.c⟩
structure jD where
 left:bC
 opn:bC
 chosen:List Int
 value:Int
 won:List Bool
def nd (c w a:Int):Int:=if c=0\/c≠a then w else 0
def yZ (p:bn) (x:Off):bC:=⟨nd p.cls.a0 x.want.a0 (lV p x),nd p.cls.a1 x.want.a1 (lV p x),nd p.cls.a2 x.want.a2 (lV p x),nd p.cls.a3 x.want.a3 (lV p x),nd p.cls.a4 x.want.a4 (lV p x),nd p.cls.a5 x.want.a5 (lV p x)⟩
def bC.pos (b:bC):Bool:=decide (0<=b.a0)&&decide (0<=b.a1)&&decide (0<=b.a2)&&decide (0<=b.a3)&&decide (0<=b.a4)&&decide (0<=b.a5)
def gI (p:bn) (u:jD) (x:Off):bC:=(u.opn.sub (yZ p x)).meet (u.left.sub x.want)
def jk (p:bn) (u:jD) (x:Off):Bool:=!(bj u.won x.bT.toNat false)&&((u.left.sub x.want).pos&&(gI p u x).pos)
def fe (p:bn) (u:jD) (i:Int):jD:=⟨u.left.sub (oI p i).want,gI p u (oI p i),u.chosen++[i],u.value+(oI p i).value,u.won.set (oI p i).bT.toNat true⟩
def gU (p:bn) (u:jD) (k:Nat):bn:=⟨u.left,u.opn,p.cls,p.classes,(p.offers.drop k).filter (jk p u)⟩
theorem K4 {x:bC}:dU [x]=x:=by simp[dU]
theorem six {P:Nat->Prop} (f:P 0) (a:P 1) (b:P 2) (d:P 3) (e:P 4) (c:P 5):∀k,k<6->P k:=by
 grind
theorem BF {a b:bC}:∀k,k<6->(a.sub b).at k=a.at k - b.at k:=six rfl rfl rfl rfl rfl rfl
theorem K5 {a b:bC}:∀k,k<6->(a.add b).at k=a.at k+b.at k:=six rfl rfl rfl rfl rfl rfl
theorem UW {a b:bC}:∀k,k<6->(a.meet b).at k=min (a.at k) (b.at k):=six rfl rfl rfl rfl rfl rfl
theorem K6 {p:bn} {x:Off}:∀k,k<6->(yZ p x).at k=nd (p.cls.at k) (x.want.at k) (lV p x):=six rfl rfl rfl rfl rfl rfl
theorem E4 {p:bn} {x:Off}:∀k,k<6->(fh p x).at k=if p.cls.at k=0\/p.cls.at k=lV p x then 0 else x.want.at k:=by
 refine six ?_ ?_ ?_ ?_ ?_ ?_<;>(show oc _ _ _ _ _=_;unfold oc;simp only[show((0:Int)<6)=True by simp,show((1:Int)<6)=True by simp,show((2:Int)<6)=True by simp,show((3:Int)<6)=True by simp,show((4:Int)<6)=True by simp,show((5:Int)<6)=True by simp,true_and];rfl)
theorem UX {b:bC}:b.pos=true↔∀k,k<6->0<=b.at k:=by
 unfold bC.pos;simp only[θ,decide_eq_true_eq];constructor
 ·rintro⟨⟨⟨⟨⟨g,a⟩,c⟩,e⟩,f⟩,d⟩;exact six g a c e f d
 ·intro h;exact⟨⟨⟨⟨⟨h 0 (by omega),h 1 (by omega)⟩,h 2 (by omega)⟩,h 3 (by omega)⟩,h 4 (by omega)⟩,h 5 (by omega)⟩
theorem y5 {b:bC}:b.ok=true↔∀k,k<6->0<=b.at k/\b.at k<=4:=by
 rw[bC.jb];constructor
 ·rintro⟨g,a,c,e,f,d⟩;exact six g a c e f d
 ·intro h;exact⟨h 0 (by omega),h 1 (by omega),h 2 (by omega),h 3 (by omega),h 4 (by omega),h 5 (by omega)⟩
theorem K7 {p:bn} {k:Nat} (a:k<6):∀L:List Off,(dU (L.map (yZ p))).at k=if p.cls.at k=0 then(dU (L.map Off.want)).at k else(dU (L.map (fh p))).at k:=by
 intro L;rw[ou,ou,ou];induction L with
 |nil=>simp;|cons x L b=>
  simp only[π,List.sum_cons];rw[b,K6 k a,E4 k a];unfold nd;omega
theorem aiF {p:bn} {k:Nat} (c:k<6) (a:p.cls.at k=0):∀L:List Off,(dU (L.map (fh p))).at k=0:=by
 intro L;rw[ou];induction L with
 |nil=>simp;|cons x L b=>
  simp_all[E4]
theorem E5 {p:bn} (c:Good p) {k:Nat} (d:k<6):∀{L:List Off},(∀x∈L,x∈p.offers)->0<=(dU (L.map Off.want)).at k/\(dU (L.map (fh p))).at k<=(dU (L.map Off.want)).at k/\0<=(dU (L.map (fh p))).at k:=by
 intro L;rw[ou,ou];induction L with
 |nil=>intro _;simp;|cons x L b=>
  intro h;have e:=b λy a=>h y (γy _ a);have f:=(y5.1 (c.2.2.2.2 x (h x (γX ..))).2.2.1 k d);grind[E4]
theorem wO {p:bn} (c:bz p=0) {k:Nat} (b:k<6):0<=p.cls.at k/\p.cls.at k<=4/\0<=p.opn.at k/\p.opn.at k<=p.supply.at k/\(p.cls.at k=0->p.opn.at k=p.supply.at k):=by
 have h:=ot.1 ((vX (vY c).1).2.1 k b);exact⟨h.1,h.2.1,h.2.2.1,h.2.2.2.1,λd=>by rcases h.2.2.2.2 with a|a;exact absurd d a;exact a⟩
theorem K8 {a b:bC}:a.le b=true↔∀k,k<6->a.at k<=b.at k:=⟨λh k _=>Ix h k,KL⟩
structure rV (p:bn) (u:jD):Prop where
 f:rU p u.chosen
 v:u.value=cM (cZ p u.chosen)
 l:∀k,k<6->u.left.at k=p.supply.at k - (dU ((cZ p u.chosen).map Off.want)).at k
 o:∀k,k<6->u.opn.at k=min (p.opn.at k - (dU ((cZ p u.chosen).map (yZ p))).at k) (u.left.at k)
 wl:u.won.length=8
 w:∀b:Int,0<=b->b<8->bj u.won b.toNat false=decide (b∈(cZ p u.chosen).map Off.bT)
theorem K9 {p:bn} {t:List Int} (h:nB 0 p.offers.length t):∀x∈cZ p t,x∈p.offers:=λx a=>by
 obtain⟨i,b,rfl⟩:=Ψ.1 a;have:=h.2 i b;grind[dq]
section
variable {p:bn} {u:jD}
theorem La {L M:List Off}:jr p (L++M)↔((L.map Off.bT++M.map Off.bT).Nodup/\(∀k,k<6->(dU (L.map Off.want)).at k+(dU (M.map Off.want)).at k<=p.supply.at k)/\∀k,k<6->(dU (L.map (fh p))).at k+(dU (M.map (fh p))).at k<=p.opn.at k):=by
 simp_all[jr,Aq,K8,K5]
theorem E6 (h:bz p=0) (c:rV p u) {x:Off} (m:x∈p.offers):jk p u x=true↔jr p (cZ p u.chosen++[x]):=by
 have b:=dQ h;have g:=b.2.2.2.2 x m;have r:=b.1;have q:=K9 c.f.1;rw[La];unfold jk;rw[θ,θ,UX,UX,δh,c.w _ g.1 (by omega),decide_eq_false_iff_not];simp only[π,γr,K4];have d:∀k,k<6->((0<=(u.left.sub x.want).at k/\0<=(gI p u x).at k)↔((dU ((cZ p u.chosen).map Off.want)).at k+x.want.at k<=p.supply.at k/\(dU ((cZ p u.chosen).map (fh p))).at k+(fh p x).at k<=p.opn.at k)):=λk a=>by
  have A:=c.l k a;have t:=c.o k a;have v:=K7 (p:=p) a (cZ p u.chosen);have s:=@K6 p x k a;have n:=@E4 p x k a;have B:=wO h a;have y:=y5.1 g.2.2.1 k a;have j:=E5 b a q;unfold gI;rw[UW k a,BF k a,BF k a,s,n];unfold nd;grind
 constructor
 ·rintro⟨z,e,i⟩;refine⟨?_,λk a=>((d k a).1 ⟨e k a,i k a⟩).1,λk a=>((d k a).1 ⟨e k a,i k a⟩).2⟩;rw[γs];refine⟨c.f.2.1,by simp,?_⟩;simp_all
 grind
theorem rV.next (n:bz p=0) (c:rV p u) {i:Int} (D:∀j∈u.chosen,j<i) (C:0<=i/\i<p.offers.length) (s:jk p u (oI p i)=true):rV p (fe p u i):=by
 have m:oI p i∈p.offers:=dq (by omega);have B:=(E6 n c m).1 s;have g:=dQ n;have q:=g.2.2.2.2 _ m;have z:=g.1;have e:cZ p (u.chosen++[i])=cZ p u.chosen++[oI p i]:=by unfold cZ;rw[γa];rfl
 refine⟨⟨⟨?_,?_⟩,?_⟩,?_,?_,?_,?_,?_⟩
 ·show(u.chosen++[i]).Pairwise _;rw[δY];exact⟨c.f.1.1,List.pairwise_singleton _ _,λa A b q=>by simp_all⟩
 ·intro j t;rcases γk.1 t with h|h;·exact c.f.1.2 j h
  simp_all
 ·show jr p (cZ p (u.chosen++[i]));simp_all
 ·show u.value+_=cM (cZ p (u.chosen++[i]));rw[e,pU,c.v];simp[cM]
 ·intro k d;show(u.left.sub _).at k=_ - (dU ((cZ p (u.chosen++[i])).map Off.want)).at k;rw[e,γa,Aq,K5 k d,BF k d,c.l k d];grind[K4]
 ·intro k d;show(gI p u (oI p i)).at k=min (_ - (dU ((cZ p (u.chosen++[i])).map (yZ p))).at k) ((u.left.sub (oI p i).want).at k);unfold gI;rw[e,γa,Aq,K5 k d,UW k d,BF k d,BF k d,c.o k d];grind[K4,K6,y5,nd]
 ·show(u.won.set _ true).length=8;rw[Φ];exact c.wl
 ·intro b y x;show bj (u.won.set (oI p i).bT.toNat true) b.toNat false=decide (b∈(cZ p (u.chosen++[i])).map Off.bT);have r:=c.wl;rw[e,γa,iK (by omega)];simp only[π,γr];by_cases h:b=(oI p i).bT;·simp_all
  ·rw[if_neg (by omega),c.w b y x];simp_all
theorem Lc (s:bz p=0) (g:rV p u) {k:Nat} {M:List Off} (r:∀x∈M,x∈p.offers) (y:∀x∈M,jk p u x=true):jr (gU p u k) M↔jr p (cZ p u.chosen++M):=by
 have d:=dQ s;have C:=d.1;have A:=K9 g.f.1;rw[La];unfold jr;rw[K8,K8];have D:∀x:Off,fh (gU p u k) x=fh p x:=λx=>rfl;have n:M.map (fh (gU p u k))=M.map (fh p):=rfl;rw[n];have h:∀j,j<6->(((dU (M.map Off.want)).at j<=(gU p u k).supply.at j/\(dU (M.map (fh p))).at j<=(gU p u k).opn.at j)↔((dU ((cZ p u.chosen).map Off.want)).at j+(dU (M.map Off.want)).at j<=p.supply.at j/\(dU ((cZ p u.chosen).map (fh p))).at j+(dU (M.map (fh p))).at j<=p.opn.at j)):=λj c=>by
  have H:=g.l j c;have F:=g.o j c;have G:=K7 (p:=p) c (cZ p u.chosen);have J:=wO s c;have I:=E5 d c A;have K:=E5 d c r;have L:(gU p u k).supply.at j=u.left.at j:=rfl;have E:(gU p u k).opn.at j=u.opn.at j:=rfl;omega
 constructor
 ·rintro⟨z,v,q⟩;refine⟨?_,λj c=>((h j c).1 ⟨v j c,q j c⟩).1,λj c=>((h j c).1 ⟨v j c,q j c⟩).2⟩;rw[γs];refine⟨g.f.2.1,z,?_⟩;intro a B b i e;subst e;obtain⟨x,t,rfl⟩:=Ψ.1 i;have m:=y x t;have i:=d.2.2.2.2 x (r x t);unfold jk at m;rw[θ,δh,g.w _ i.1 (by omega),decide_eq_false_iff_not] at m;exact m.1 B
 grind
theorem UY {q:bn} (d:iQ q=0) (h:∀x∈q.offers,kj q x=0) (b:(q.offers.map Off.key).Nodup):bz q=0:=by
 have a:∀(l:List Off) (s:List nX),(∀x∈l,kj q x=0)->(l.map Off.key).Nodup->(∀x∈l,x.key∉s)->jc q s l=0:=by
  intro l;induction l with
  |nil=>intro s _ _ _;rfl;|cons x l c=>
   simp_all[jc]
 simp_all[bz]
theorem E7 (e:bz p=0) (g:rV p u) {k:Nat}:bz (gU p u k)=0:=by
 have v:=dQ e;have C:=K9 g.f.1;have r:=(La (p:=p) (L:=cZ p u.chosen) (M:=[])).1 (by rw[γ1];exact g.f.2);obtain⟨d,q⟩:=vY e;obtain⟨J,H,P,R,N⟩:=vX d;have s:∀x∈(gU p u k).offers,x∈p.offers/\jk p u x=true:=λx n=>by
  obtain⟨c,w⟩:=γt.1 n;grind
 have F:(dU (([]:List Off).map Off.want))=bC.zero:=rfl;have h:∀j,j<6->0<=u.left.at j/\u.left.at j<=4:=λj a=>by
  have B:=g.l j a;have O:=E5 v a C;have w:=r.2.1 j a;have t:(dU (([]:List Off).map Off.want)).at j=0:=by rw[ou];rfl
  grind[y5]
 have i:∀j,j<6->0<=u.opn.at j/\u.opn.at j<=u.left.at j/\(p.cls.at j=0->u.opn.at j=u.left.at j):=λj a=>by
  have B:=g.l j a;have I:=g.o j a;have D:=K7 (p:=p) a (cZ p u.chosen);have m:=wO e a;have w:=r.2.1 j a;have E:=r.2.2 j a;have t:(dU (([]:List Off).map Off.want)).at j=0:=by rw[ou];rfl
  grind
 refine UY ?_ (λx n=>?_) ?_
 ·have Q:(gU p u k).supply.ok=true:=y5.2 h;have G:Du (gU p u k)=true:=Am.2 λj a=>ot.2 (by
   have m:=wO e a;have b:=i j a;refine⟨m.1,m.2.1,b.1,b.2.1,?_⟩;by_cases z:p.cls.at j=0;·exact .inr (b.2.2 z)
   ·exact .inl z);have K:(gU p u k).offers.length<=p.offers.length:=by
   have c:=δe (jk p u) (p.offers.drop k);rw[εx] at c;show((p.offers.drop k).filter (jk p u)).length<=_;omega
  have y:(gU p u k).classes=p.classes:=rfl;unfold iQ;grind
 ·obtain⟨c,w⟩:=s x n;have b:=q x c;unfold kj at b ⊢;have y:(gU p u k).classes=p.classes:=rfl;rw[y];split at b;·omega
  ·rename_i t;rw[if_neg t];split at b;·cases b
   ·rename_i A;rw[if_neg A];grind[Lc,E6,QS]
 ·have c:=(DN (by
   have:=e;unfold bz at this;rw[if_neg (by rw[d];simp)] at this;exact this)).1;exact((List.filter_sublist.trans (List.drop_sublist k _)).map Off.key).nodup c
end
theorem E8 {a b c:Alloc} (h:¬mL a b) (k:¬mL b c):¬mL a c:=λd=>by
 grind[Q6,aa9]
theorem UZ {a b:Alloc}:¬mL a (better a b)/\¬mL b (better a b):=by
 unfold better;split
 ·rename_i h;have h:mL a b:=h;grind[DT,Q6]
 ·rename_i h;exact⟨h,DT⟩
theorem BG {p:bn}:∀{k:Nat} {i:Int} {a b:Alloc},¬mL b (lF p k i a b)
 |0,_,_,b=>by grind[lF,DT];|k+1,i,a,b=>by
  simp only[lF];refine E8 ?_ BG;split;·exact E8 UZ.2 BG
  ·exact DT
theorem Ld {p:bn} (o:Good p):∀{k:Nat} {i:Int} {a b:Alloc} {t:List Int},0<=i->i+k<=p.offers.length->t≠[]->nB i k t->lC p (a.chosen++t)=true->¬mL ⟨a.chosen++t,a.value+cM (cZ p t)⟩ (lF p k i a b)
 |0,i,a,b,t,_,_,r,c,_=>by
  cases t with
  |nil=>simp_all;|cons j t=>
   have:=c.2 j (by simp);omega
 |k+1,i,a,b,t,y,x,r,c,s=>by
  cases t with
  |nil=>simp_all;|cons j t=>
   have w:=c.2 j (by simp);have u:=γB.1 c.1;simp only[lF];by_cases n:j=i
   ·subst n;have g:DJ p t:=λm l=>by
     have:=c.2 m (by simp[l]);omega
    have d:lC p (a.chosen++[j]++t)=true:=by simp_all
    have q:lC p (a.chosen++[j])=true:=Qz o g d;rw[if_pos q];refine E8 ?_ BG;rw[sU];simp only[cM];cases t with
    |nil=>
     grind[E8,BG,UZ,cM,cZ,lD];|cons h f=>
     have:=Ld o (k:=k) (i:=j+1) (a:=⟨a.chosen++[j],a.value+lD p j⟩) (b:=better ⟨a.chosen++[j],a.value+lD p j⟩ b) (t:=h::f) (by omega) (by omega) (by simp) ⟨u.2,λm l=>by
      have v:=c.2 m (γy _ l);grind⟩ d;have e:(⟨a.chosen++j::h::f,a.value+((bj p.offers j.toNat bp.off.dflt).value+cM (cZ p (h::f)))⟩:Alloc)=⟨a.chosen++[j]++h::f,a.value+lD p j+cM (cZ p (h::f))⟩:=by
      simp only[Alloc.mk.injEq,γO,γH,List.nil_append,lD,true_and];omega
     simp_all
   ·exact Ld o (by omega) (by omega) (by simp) ⟨c.1,λm l=>by
     have v:=c.2 m l;grind⟩ s
theorem afj {p:bn} (e:Good p) {t:List Int} (d:rU p t):¬mL ⟨t,cM (cZ p t)⟩ (cB p):=by
 rw[Io];by_cases c:t=[]
 ·subst c;exact BG
 ·have:=Ld e (k:=p.offers.length) (i:=0) (a:=⟨[],0⟩) (b:=⟨[],0⟩) (t:=t) (by omega) (by omega) c d.1 (by simpa[lC] using d.2);simp_all
theorem U0:∀{c a b:List Int},cmpL (c++a) (c++b)=cmpL a b
 |[],_,_=>rfl
 |x::c,a,b=>by
  simp only[γH,cmpL,Int.lt_irrefl,if_false];exact U0
noncomputable def qT (p:bn) (a:Int) (u:jD) (i:Int):jD:=
 if u.value=a then u else if jk p u (oI p i)=true then(if j8 (gU p (fe p u i) (i+1).toNat) (a - (fe p u i).value) 65536=true then fe p u i else u) else u
noncomputable def j9 (p:bn) (a:Int):Nat->jD
 |0=>⟨p.supply,p.opn,[],0,δ 8 false⟩
 |n+1=>qT p a (j9 p a n) n
theorem good_start {p:bn} (d:bz p=0):rV p ⟨p.supply,p.opn,[],0,δ 8 false⟩:=by
 have a:=dQ d;refine⟨aeW a,rfl,λk c=>?_,λk c=>?_,rfl,λb f e=>?_⟩
 ·show _=_ - (dU (([]:List Off).map Off.want)).at k;grind[ou]
 ·show _=min (_ - (dU (([]:List Off).map (yZ p))).at k) _;simp_all[ou,wO,min]
 ·show _=decide (b∈([]:List Int));grind[cV]
theorem U1 {i:Int}:∀{L:List Int},L.Pairwise (·<·)->L=L.filter (λj=>decide (j<i))++L.filter (λj=>!decide (j<i))
 |[],_=>rfl
 |x::L,h=>by
  have a:=γB.1 h;have c:=U1 (i:=i) a.2;by_cases d:x<i;·grind
  ·have e:L.filter (λj=>decide (j<i))=[]:=δN.2 λj b=>by grind
   grind
theorem afk {i:Int} {L:List Int} (h:i∉L):L.filter (λj=>decide (j<i+1))=L.filter (λj=>decide (j<i)):=by
 refine List.filter_congr λj a=>?_;grind
theorem afl {i:Int} {L:List Int} (b:L.Pairwise (·<·)) (h:i∈L):L.filter (λj=>decide (j<i+1))=L.filter (λj=>decide (j<i))++[i]/\L=L.filter (λj=>decide (j<i))++i::L.filter (λj=>decide (i<j)):=by
 induction L with
 |nil=>cases h;|cons x L f=>
  have g:=γB.1 b;by_cases c:x=i
  ·subst c;have e:L.filter (λj=>decide (j<x))=[]:=δN.2 λj a=>by grind
   have k:L.filter (λj=>decide (j<x+1))=[]:=δN.2 λj a=>by grind
   have d:L.filter (λj=>decide (x<j))=L:=εz.2 λj a=>by simp_all
   grind
  grind
theorem afm {p:bn} (a:Good p):∀{L:List Off},(∀x∈L,x∈p.offers)->L≠[]->0<cM L
 |[],_,h=>absurd rfl h
 |x::L,h,_=>by
  have c:=(a.2.2.2.2 x (h x (γX ..))).2.2.2.1;have d:=(sT a (l:=L) λy b=>h y (γy _ b)).1;grind[cM]
theorem afn {p:bn} (i:bz p=0) {k:Nat} (d:k<=p.offers.length) {M:List Off} (g:∀x∈M,x∈p.offers.drop k) (c:M.Nodup):∃t:List Int,t.Pairwise (·<·)/\(∀j∈t,(k:Int)<=j/\j<p.offers.length)/\(cZ p t).Perm M:=by
 obtain⟨t,b,h,a⟩:=Iw (λx=>decide (x∈M)) (p.offers.drop k) (p.offers.take k);have e:(p.offers.take k).length=k:=by simp_all
 refine⟨t,b,λj f=>?_,?_⟩;·grind
 ·rw[List.take_append_drop] at a;unfold cZ;rw[a];refine(List.perm_ext_iff_of_nodup ?_ c).2 λx=>?_;·grind[QJ]
  simp_all
theorem BH {p:bn} (d:bz p=0):rU p (cB p).chosen/\(cB p).value=cM (cZ p (cB p).chosen):=by
 obtain⟨_,a,b,c⟩:=QX d;exact⟨⟨b,a⟩,c⟩
theorem Le {p:bn} (m:bz p=0) (W:p.offers.length<=15):∀n:Nat,n<=p.offers.length->rV p (j9 p (cB p).value n)/\(j9 p (cB p).value n).chosen=(cB p).chosen.filter λ(j:Int)=>decide (j<(n:Int))
 |0,_=>⟨good_start m,by
   have h:=(BH m).1.1.2;exact(δN.2 λj g=>by simp_all).symm⟩
 |n+1,hn=>by
  obtain⟨G,P⟩:=Le m W n (by omega);have o:=dQ m;obtain⟨⟨⟨hs,hr⟩,hF⟩,hv⟩:=BH m;have a7:rU p (cB p).chosen:=⟨⟨hs,hr⟩,hF⟩;have I:∀j∈(j9 p (cB p).value n).chosen,j<(n:Int):=λj g=>by
   simp_all
  have N:((n:Nat):Int)+1=((n+1:Nat):Int):=by omega
  have J:(0:Int)<=n/\(n:Int)<p.offers.length:=by omega
  have q:oI p n∈p.offers:=dq (by omega);have a4:=U1 (i:=(n:Int)) hs;show rV p (qT p (cB p).value (j9 p (cB p).value n) n)/\(qT p (cB p).value (j9 p (cB p).value n) n).chosen=_;generalize j9 p (cB p).value n=u at*;have C:∀{t:List Int},(∀j∈t,j∈(cB p).chosen)->∀x∈cZ p t,x∈p.offers:=λht x q=>by
   obtain⟨j,g,rfl⟩:=Ψ.1 q;have:=hr j (ht j g);exact dq (by omega)
  by_cases e:u.value=(cB p).value
  ·unfold qT;rw[if_pos e];refine⟨G,?_⟩;have R:(cB p).chosen.filter (λj=>!decide (j<(n:Int)))=[]:=by
    refine Classical.byContradiction λU=>?_;have S:=afm o (L:=cZ p ((cB p).chosen.filter (λj=>!decide (j<(n:Int))))) (C λj g=>(γt.1 g).1) (by unfold cZ;simpa using U);rw[G.v,P,hv] at e;grind[uw,pU]
   have a1:∀j∈(cB p).chosen,j<(n:Int):=λj g=>by
    grind
   rw[P,εz.2 λj g=>by grind];exact(εz.2 λj g=>by grind).symm
  ·by_cases K:(n:Int)∈(cB p).chosen
   ·obtain⟨f1,f2⟩:=afl hs K;rw[<-P] at f1 f2;have A:jr p (cZ p u.chosen++[oI p n]++cZ p ((cB p).chosen.filter λj=>decide ((n:Int)<j))):=by
     have:cZ p u.chosen++[oI p n]++cZ p ((cB p).chosen.filter λj=>decide ((n:Int)<j))=cZ p (cB p).chosen:=by
      conv=>rhs;rw[f2]
      rw[uw,sU,γO];rfl
     grind
    have B:=C (t:=(cB p).chosen.filter λj=>decide ((n:Int)<j)) λj g=>(γt.1 g).1;have Q:jk p u (oI p n)=true:=(E6 m G q).2 (Ik o B A);have c:=G.next m I J Q;have z:=E7 (k:=((n:Int)+1).toNat) m c;have r:cZ p (fe p u n).chosen=cZ p u.chosen++[oI p n]:=by
     show cZ p (u.chosen++[(n:Int)])=_;rw[uw];rfl
    have O:∀x∈cZ p ((cB p).chosen.filter λj=>decide ((n:Int)<j)),jk p (fe p u n) x=true:=λx w=>by
     refine(E6 m c (B x w)).2 ?_;rw[r];obtain⟨s,t,a0⟩:=List.append_of_mem w;have F:(cZ p u.chosen++[oI p n]++cZ p ((cB p).chosen.filter λj=>decide ((n:Int)<j))).Perm (cZ p u.chosen++[oI p n]++[x]++(s++t)):=by
      rw[a0,γO (cZ p u.chosen++[oI p n])];refine ζN _ ?_;exact List.perm_middle
     refine Ik o (M:=s++t) (λy hy=>B y ?_) (Iu F A);grind
    have Y:=(Lc (k:=((n:Int)+1).toNat) m c B O).2 (by grind);have Z:∀x∈cZ p ((cB p).chosen.filter λj=>decide ((n:Int)<j)),x∈(gU p (fe p u n) ((n:Int)+1).toNat).offers:=λx w=>by
     refine γt.2 ⟨?_,O x w⟩;obtain⟨j,g,rfl⟩:=Ψ.1 w;obtain⟨V,a8⟩:=γt.1 g;have h3:=hr j V;have h4:(n:Int)<j:=by grind
     rw[cV (by omega)];rw[List.mem_iff_getElem];exact⟨j.toNat - ((n:Int)+1).toNat,by grind,by rw[List.getElem_drop];congr 1;omega⟩
    have H:=aeX z Y Z;rw[DR z] at H;have a2:(cB p).value=(fe p u n).value+cM (cZ p ((cB p).chosen.filter λj=>decide ((n:Int)<j))):=by
     rw[c.v,r,hv];conv=>lhs;rw[f2,uw,sU,pU]
     rw[pU];grind[cM,oI]
    have T:(gU p (fe p u n) ((n:Int)+1).toNat).offers.length<=15:=by
     have S:=δe (jk p (fe p u n)) (p.offers.drop ((n:Int)+1).toNat);rw[εx] at S;show((p.offers.drop _).filter _).length<=15;omega
    have l:jj (gU p (fe p u n) ((n:Int)+1).toNat) ((cB p).value - (fe p u n).value) 65536=0:=KT z (by omega) (by
     have:2^((gU p (fe p u n) ((n:Int)+1).toNat).offers.length+1)<=2^16:=δr (by omega) (by omega);omega);have E:j8 (gU p (fe p u n) ((n:Int)+1).toNat) ((cB p).value - (fe p u n).value) 65536=true:=(UJ z l).2 (by omega);unfold qT;rw[if_neg e,if_pos Q,if_pos E];refine⟨c,?_⟩;rw[<-N,f1];rfl
   ·rw[<-N,afk K,<-P];unfold qT;rw[if_neg e];split
    ·rename_i Q;split
     ·rename_i E;exfalso;have c:=G.next m I J Q;have z:=E7 (k:=((n:Int)+1).toNat) m c;have r:cZ p (fe p u n).chosen=cZ p u.chosen++[oI p n]:=by
       show cZ p (u.chosen++[(n:Int)])=_;rw[uw];rfl
      have T:(gU p (fe p u n) ((n:Int)+1).toNat).offers.length<=15:=by
       have S:=δe (jk p (fe p u n)) (p.offers.drop ((n:Int)+1).toNat);rw[εx] at S;show((p.offers.drop _).filter _).length<=15;omega
      have l:jj (gU p (fe p u n) ((n:Int)+1).toNat) ((cB p).value - (fe p u n).value) 65536=0:=KT z (by omega) (by
       have:2^((gU p (fe p u n) ((n:Int)+1).toNat).offers.length+1)<=2^16:=δr (by omega) (by omega);omega);have a6:=(UJ z l).1 E;obtain⟨M,m1,m2,m3⟩:=aeY z;rw[DR z] at m3;have D:∀x∈M,x∈p.offers.drop ((n:Int)+1).toNat/\jk p (fe p u n) x=true:=λx q=>γt.1 (m2 x q);have A:=(Lc m c (λx q=>List.mem_of_mem_drop (D x q).1) λx q=>(D x q).2).1 m1;obtain⟨t,t1,t2,t3⟩:=afn m (k:=((n:Int)+1).toNat) (by omega) (λx q=>(D x q).1) (DO Off.bT m1.1);have hT:rU p (u.chosen++(n:Int)::t):=by
       refine⟨⟨?_,?_⟩,?_⟩
       ·rw[δY];refine⟨G.f.1.1,γB.2 ⟨λj g=>by grind,t1⟩,λa ha b hb=>?_⟩;grind
       ·intro j g;rcases γk.1 g with h|h;·grind
        ·rcases List.mem_cons.1 h with rfl|h<;>grind
       ·rw[uw,sU];refine Iu ?_ A;rw[r,γO];exact ζN _ (List.Perm.cons _ t3.symm)
      have a3:cM (cZ p (u.chosen++(n:Int)::t))=(fe p u n).value+cM M:=by
       rw[c.v,r,uw,sU,pU,pU,<-QI t3];grind[cM,oI]
      have H:=Ip o hT.1 (decide_eq_true hT.2);refine afj o hT (.inr ⟨(show cM (cZ p (u.chosen++(n:Int)::t))=(cB p).value by omega),?_⟩);show cmpL (u.chosen++(n:Int)::t) (cB p).chosen<0;have R:(cB p).chosen=u.chosen++(cB p).chosen.filter (λj=>!decide (j<(n:Int))):=by grind
      have a5:(cB p).chosen.filter (λj=>!decide (j<(n:Int)))≠[]:=λh=>by
       rw[h,γ1] at R;refine e ?_;rw[G.v,<-R,hv]
      have X:∀j∈(cB p).chosen.filter (λj=>!decide (j<(n:Int))),(n:Int)<j:=λj g=>by
       grind
      rw[R];generalize (cB p).chosen.filter (λj=>!decide (j<(n:Int)))=d at*;cases d with
      |nil=>grind;|cons j d=>
       rw[U0];have:=X j (by simp);simp only[cmpL];omega
     grind
    grind
theorem U2 {p:bn} (b:bz p=0) (a:p.offers.length<=15):(j9 p (cB p).value p.offers.length).chosen=(cB p).chosen:=by
 rw[(Le b a p.offers.length (ν _)).2];have h:=(BH b).1.1.2;simp_all
def afo (p:bn):Int:=rI p (allM p)
theorem afp {p:bn} (a:bz p=0):rU p (cB p).chosen/\ef p (cB p).chosen=(cB p).value/\(cB p).value=afo p:=by
 obtain⟨_,d,b,e⟩:=QX a;have c:rU p (cB p).chosen:=⟨b,d⟩;exact⟨c,by grind[KN],(DR a).symm⟩
def ofV (n:dj):SV:=.ite (decide (n.1=1)) (.ia 204 (encS bF n)) (.ite (decide (n.1=2)) (.ia 205 (encS bF n)) (.ite (decide (n.1=3)) (.ia 206 (encS bF n)) (.ia 208 [])))
def E9:bM:=⟨86,dj,.one (dY bF),λ_=>True,ofV⟩
theorem h485:Holds Tryz.prog E9:=by
 refine cH (L:=[]) E9 lk (by simp) ?_;rintro⟨k,o,a,b,y⟩ _;refine bQ (let c:=γg .i64;let d:=(1:Int);let e:=(2:Int);let f:=(3:Int);let i:=decide (k=d);let g:=[c k,c o,c a,c b,Ω sF y];let n:=θh 204 g;let j:=decide (k=e);let p:=θh 205 g;let l:=decide (k=f);let q:=θh 206 g;let h:=θh 208 [];let m:=λ(u:Int) (u_1:Nat) ↦decide (k=u)=true->(i=true->(θh u_1 g).same n)/\(i=false->(j=true->(θh u_1 g).same p)/\(j=false->(l=true->(θh u_1 g).same q)/\(l=false->(θh u_1 g).same h)));m d 204/\(decide (k=d)=false->m e 205/\(decide (k=e)=false->m f 206/\(decide (k=f)=false->(i=true->h.same n)/\(i=false->(j=true->h.same p)/\(j=false->(l=true->h.same q)/\(l=false->h.same h))))))) (by kernel_rfl) ?_;simp only[vcs];repeat' (first|refine And.intro ?_ ?_|intro _)
 all_goals first|trivial|omega
def rW (n:dj):Bool:=decide (n.2.1=0)&&decide (n.2.2.1=0)&&decide (n.2.2.2.1=0)
def Fa:bM:=⟨211,dj,.one (dY bF),λ_=>True,λn=> .sb (rW n)⟩
theorem h495:Holds Tryz.prog Fa:=by
 refine cH (L:=[]) Fa lk (by simp) ?_;rintro⟨k,o,a,b,y⟩ _;refine bQ (let f:=δf false;let g:=(0:Int);let e:=decide (o=g);let d:=decide (a=g);let c:=γx (rW (k,o,a,b,y));(e=true->(d=true->(γx (decide (b=g))).same c)/\(d=false->(f).same c))/\(e=false->(f).same c)) (by kernel_rfl) ?_;simp_all[rW]
def wf1 (n:dj):Bool:=rW n&&decide (n.2.2.2.2.length<=40)&&n.2.2.2.2.all okF
def Lh:bM:=⟨209,dj,.one (dY bF),λn=>∀x∈n.2.2.2.2,iW x,λn=> .sb (wf1 n)⟩
def afr (n:dj):Nat->cC
 |4=> .inv Int (λi=>⟨[(18,.row sF n.2.2.2.2),(19,.si .i64 n.2.2.2.2.length),(20,.si .i64 i)],[.cells (encS bF n) 204 5 false]⟩) (λs=>iS s 20)
  (λi=>0<=i/\i<=n.2.2.2.2.length/\(n.2.2.2.2.take i.toNat).all okF=true) (λi=>(n.2.2.2.2.length - i).toNat) λ_ _=> .look
 |_=> .look
theorem h493:Holds Tryz.prog Lh:=by
 refine cH (L:=[Fa,uI]) Lh afr (by simpa using⟨h495,h407⟩) ?_;rintro⟨k,o,a,b,y⟩ hy;have hy:∀x∈y,iW x:=hy;refine bQ (let c:=γg .i64;let d:=(0:Int);let e:=δf false;let f:=Ω;let p:=!rW (k,o,a,b,y);let j:=γx (wf1 (k,o,a,b,y));let m:=(↑y.length:Int);let q:=decide ((40:Int)<m);let g:=(↑y.length:Int);let n:=c g;let l:=bq.cells [c k,c o,c a,c b,f sF y] 204 5 false;True/\(p=true->(e).same j)/\(p=false->(q=true->(e).same j)/\(q=false->((((f sF y).same (f sF y)/\(c m).same n/\(γA .i64 0).same (c 0)/\True)/\l.same l/\True)/\d<=d/\d<=g/\true=true)/\∀(x:Int),let h:=bj y x.toNat sF.dflt;let i:=x+(1:Int);let r:=c i;let s:=λ(u:Bool) ↦(!okF (h.fst,h.snd.fst,h.snd.snd))=u;d<=x/\x<=g/\(Δ x.toNat y).all okF=true->(decide (x<g)=true->d<=x/\x<m/\x.toNat<y.length/\((bA h.snd.fst/\bA h.snd.snd)/\γc h.snd.fst<=10000000/\γc h.snd.snd<=10000000)/\(s true->(e).same j)/\(s false->cq .i64 i/\(((f sF y).same (f sF y)/\n.same n/\r.same r/\True)/\l.same l/\True)/\(d<=i/\i<=g/\(Δ i.toNat y).all okF=true)/\(g - i).toNat<(g - x).toNat))/\(decide (x<g)=false->(δf true).same j)))) (by kernel_rfl) ?_;simp only[vcs];refine⟨λh=>by simp[wf1,h],λhp=>⟨λh40=>?_,λh40=>⟨⟨by omega,by omega⟩,?_⟩⟩⟩
 ·have:¬y.length<=40:=by omega
  simp[wf1,this]
 rintro i ⟨i0,i1,hi⟩;refine⟨λhlt=>?_,λhge=>?_⟩
 ·have hm:=dq (d:=sF.dflt) (show i.toNat<y.length by omega);have et:=jZ (d:=sF.dflt) i0 hlt;refine⟨i0,hlt,by omega,hy _ hm,λh=>?_,λh=>⟨⟨by omega,by omega⟩,⟨by omega,by omega,?_⟩,by omega⟩⟩
  ·have h:okF (bj y i.toNat sF.dflt)=false:=h;have:y.all okF=false:=by
    rw[δI];intro ha;have:=φ.1 ha _ hm;rw[h] at this;cases this
   simp[wf1,this]
  ·have h:okF (bj y i.toNat sF.dflt)=true:=h;rw[et,ζM,hi];simp[h]
 ·rw[show i.toNat=y.length by omega,ψ] at hi;have:y.length<=40:=by omega
  simp[wf1,hp,hi,this]
def oM (k:Int):Bool:=decide (0<=k)&&decide (k<=65536)
def wf2 (n:dj):Bool:=oM n.2.1&&oM n.2.2.1&&oM n.2.2.2.1&&decide (n.2.2.2.2=[])
def Lj:bM:=⟨215,dj,.one (dY bF),λ_=>True,λn=> .sb (wf2 n)⟩
theorem h499:Holds Tryz.prog Lj:=by
 refine cH (L:=[]) Lj (λ_ _=> .qy 4) (by simp) ?_;rintro⟨k,o,a,b,y⟩ _;refine bQ (let r:=(0:Int);let s:=δf false;let t:=(65536:Int);let u:=(3:Int);let v:=γx;let j:=bj [o,a,b] 0 r;let g:=decide (j<r);let c:=v (wf2 (k,o,a,b,y));let m:=decide (t<j);let n:=bj [o,a,b] 1 r;let q:=decide (n<r);let i:=decide (t<n);let p:=bj [o,a,b] 2 r;let l:=decide (p<r);let h:=decide (t<p);let f:=bj [o,a,b] 3 r;let d:=decide (f<r);let e:=decide (t<f);(true=true->r<=r/\r<u/\0<3/\(g=true->(s).same c)/\(g=false->(m=true->(s).same c)/\(m=false->(true=true->r<=(1:Int)/\(1:Int)<u/\1<3/\(q=true->(s).same c)/\(q=false->(i=true->(s).same c)/\(i=false->(true=true->r<=(2:Int)/\(2:Int)<u/\2<3/\(l=true->(s).same c)/\(l=false->(h=true->(s).same c)/\(h=false->(false=true->r<=u/\u<u/\3<3/\(d=true->(s).same c)/\(d=false->(e=true->(s).same c)/\(e=false->False)))/\(false=false->(v (decide ((↑y.length:Int)=r))).same c))))/\(true=false->(v (decide ((↑y.length:Int)=r))).same c))))/\(true=false->(v (decide ((↑y.length:Int)=r))).same c))))/\(true=false->(v (decide ((↑y.length:Int)=r))).same c)) (by kernel_rfl) ?_;simp_all[bj,oM,decide_eq_false,wf2]
def uS (n:dj):Bool:=rW n&&decide (n.2.2.2.2=[])
def Ll:bM:=⟨219,dj,.one (dY bF),λ_=>True,λn=> .sb (uS n)⟩
theorem h503:Holds Tryz.prog Ll:=by
 refine cH (L:=[Fa]) Ll lk (by grind[h495]) ?_;rintro⟨k,o,a,b,y⟩ _;refine bQ (let d:=rW (k,o,a,b,y);let c:=γx (uS (k,o,a,b,y));True/\(d=true->(γx (decide ((↑y.length:Int)=(0:Int)))).same c)/\(d=false->(δf false).same c)) (by kernel_rfl) ?_;simp_all[uS]
def Lm:qB Unit where
 put _:=.agg [];dec
  | .agg []=>some ()
  |_=>none;ok v a h:=by
  grind
 inj a b h:=rfl
def Ln:bM:=⟨223,Unit,.one Lm,λ_=>True,λ_=> .sb false⟩
theorem h507:Holds Tryz.prog Ln:=by
 refine cH (L:=[]) Ln lk (by simp) ?_;rintro _ _;refine bQ ((δf false).same (γx false)) (by kernel_rfl) ?_;rfl
def Lq:bM:=⟨207,dj,.one (dY bF),λ_=>True,λ_=> .row (.i .i64) []⟩
theorem h491:Holds Tryz.prog Lq:=by
 refine cH (L:=[]) Lq lk (by simp) ?_;rintro⟨k,o,a,b,y⟩ _;refine bQ (let c:=Ω (bp.i .i64) [];c.same c) (by kernel_rfl) ?_;simp_all
def Lr:bM:=⟨213,dj,.one (dY bF),λ_=>True,λn=> .row (.i .i64) [n.2.2.1,n.2.2.2.1]⟩
theorem h497:Holds Tryz.prog Lr:=by
 refine cH (L:=[]) Lr lk (by simp) ?_;rintro⟨k,o,a,b,y⟩ _;refine bQ (let c:=Ω (bp.i .i64) [a,b];c.same c) (by kernel_rfl) ?_;simp_all
def Ls:bM:=⟨217,dj,.one (dY bF),λ_=>True,λ_=> .row (.i .i64) []⟩
theorem h501:Holds Tryz.prog Ls:=by
 refine cH (L:=[]) Ls lk (by simp) ?_;rintro⟨k,o,a,b,y⟩ _;refine bQ (let c:=Ω (bp.i .i64) [];c.same c) (by kernel_rfl) ?_;simp_all
def r505:bM:=⟨221,Unit,.one Lm,λ_=>True,λ_=> .row (.i .i64) []⟩
theorem h505:Holds Tryz.prog r505:=by
 refine cH (L:=[]) r505 lk (by simp) ?_;rintro _ _;refine bQ (let a:=Ω (bp.i .i64) [];a.same a) (by kernel_rfl) ?_;simp_all
def jE (n:dj):List Int:=if n.1=2 then[n.2.2.1,n.2.2.2.1] else[]
def tt (n:dj):Bool:=if n.1=1 then wf1 n else if n.1=2 then wf2 n else if n.1=3 then uS n else false
def ig (t:List dj) (i:Nat):List Int:=(t.take i).flatMap jE
def lr (n:Nat) (c:List Int):List Int:=(cG n).map λk=>(c.count k:Int)
def uT (n:Nat) (i:Int) (c:List Int):List Int->Bool
 |[]=>true
 |x::r=>decide (i<x/\x<n)&&decide (x∉c)&&uT n i (c++[x]) r
def kU (t:List dj) (i:Nat):Bool:=tt (bj t i bF.dflt)&&uT t.length i (ig t i) (jE (bj t i bF.dflt))
def dT (t:List dj):Bool:=decide (1<=t.length/\t.length<=65536)&&((ω t.length).all (kU t)&&(ω (t.length - 1)).all λk=>decide (((k:Int)+1)∈ig t t.length))
theorem y7 {n:Nat} {c:List Int}:(lr n c).length=n:=by simp[lr,fU]
theorem y8 {n j:Nat} {c:List Int} (h:j<n):bj (lr n c) j 0=(c.count (j:Int):Nat):=by
 grind[lr,cV,cG]
theorem U3 {n:Nat} {c:List Int} {x:Int} (l:0<=x) (g:x<n):(lr n c).set x.toNat (bj (lr n c) x.toNat 0+1)=lr n (c++[x]):=by
 refine γ8 (by grind[y7]) λj h i=>?_;have a:j<n:=by grind[y7]
 have e:x.toNat<n:=by omega
 have b:=@y8 n j (c++[x]) a;rw[cV (by omega)] at b;rw[b,List.getElem_set];have k:=@y8 n x.toNat c e;by_cases f:x.toNat=j;·grind
 ·rw[if_neg f];have d:=@y8 n j c a;rw[cV (by simp_all)] at d;grind
theorem afs {n:Nat}:lr n []=δ n 0:=by
 refine γ8 (by grind[y7]) λj b a=>?_;simp[lr]
theorem U4 {t:List dj} {i:Int} (b:0<=i) (a:i<t.length):ig t (i+1).toNat=ig t i.toNat++jE (bj t i.toNat bF.dflt):=by
 grind[ig,jZ]
theorem aft {t:List dj} {i:Nat} (h:i<t.length) (a:kU t i=false):dT t=false:=by
 grind[dT]
theorem afu {t:List dj} {k:Nat} (h:k<t.length - 1) (a:((k:Int)+1)∉ig t t.length):dT t=false:=by
 unfold dT;grind
def Lt:bM:=⟨60,List dj,.one (dL bF),λt=>∀n∈(show List dj from t),∀x∈n.2.2.2.2,iW x,λt=> .sb (dT t)⟩
def afv (t:List dj):Nat->cC
 |5=> .inv Int (λi=>⟨[(0,.row bF t),(3,.ow 0 t.length 1),(22,.row bF t),(23,.si .i64 t.length),(24,.si .i64 i)],[.row (.i .i64) (lr t.length (ig t i.toNat)) 3 true]⟩) (λs=>iS s 24)
  (λi=>0<=i/\i<=t.length/\∀j:Nat,j<i->kU t j=true) (λi=>(t.length - i).toNat) λ_=>λ
   |11=> .qy 3
   |_=> .look
 |19=> .inv Int (λi=>⟨[(66,.os 0 1 (t.length - 1) t.length 1),(67,.si .i64 (t.length - 1:Nat)),(68,.si .i64 i)],[.row (.i .i64) (lr t.length (ig t t.length)) 3 true]⟩) (λs=>iS s 68)
  (λi=>0<=i/\i<=(t.length - 1:Nat)/\∀j:Nat,j<i->((j:Int)+1)∈ig t t.length) (λi=>((t.length - 1:Nat) - i).toNat) λ_ _=> .look
 |_=> .look
theorem h480:Holds Tryz.prog Lt:=by
 refine cH (L:=[E9,Lh,Lj,Ll,Ln,Lq,Lr,Ls,r505]) Lt afv (by simpa using⟨h485,h493,h499,h503,h507,h491,h497,h501,h505⟩) ?_;intro(t:List dj) ht;refine bQ (let a:=(0:Int);let b:=δf false;let c:=(1:Int);let d:=Ω;let e:=γx;let f:=cq .i64;let g:=γg .i64;let h:=bq.row;let k:=(2:Int);let l:=γA .i64 0;let p:=(↑t.length:Int);let a9:=decide (p<c);let aa:=decide ((65536:Int)<p);let s:=γZ 0 t.length 1;let o:=(↑t.length:Int);let v:=g o;let C:=bp.i .i64;let E:=decide (p<=a);let R:=t.length - 1;let P:=SV.os 0 1 R t.length 1;let z:=(↑R:Int);let Q:=g z;let M:=lr t.length (ig t t.length);let S:=h C M 3 true;(a9=true->(b).same (e (dT t)))/\(a9=false->(aa=true->(b).same (e (dT t)))/\(aa=false->a<=p/\p<=p/\p*(8:Int)<=(140737488355328:Int)/\p<=(1000000000000:Int)/\((((d bF t).same (d bF t)/\(γZ 0 p.toNat 1).same s/\(d bF t).same (d bF t)/\(g p).same v/\(l).same (g 0)/\True)/\(h C (δ p.toNat a) 3 true).same (h C (lr t.length (ig t 0)) 3 true)/\True)/\a<=a/\a<=o/\∀(j:Nat),(↑j:Int)<a->kU t j=true)/\∀(x:Int),let F:=decide (a<=x);let G:=lr t.length (ig t x.toNat);let n:=G.length;let T:=bj G 0 a;let ab:=decide (a<T);let q:=G.set 0 (T+c);let U:=bj q 0 a;let ac:=decide (a<U);let r:=q.set 0 (U+c);let ad:=bj r 0 a;let ae:=decide (a<ad);let m:=x+c;let y:=g m;let N:=h C (lr t.length (ig t m.toNat)) 3 true;let V:=h C G 3 true;let w:=bj t x.toNat bF.dflt;let W:=[w.snd.snd.fst,w.snd.snd.snd.fst];let D:=bj W 2 a;let A:=bj W 0 a;let X:=bj G A.toNat a;let H:=G.set A.toNat (X+c);let B:=bj W 1 a;let Y:=bj H B.toNat a;let O:=H.set B.toNat (Y+c);let af:=decide (w.fst=c);let I:=(w.fst,w.snd.fst,w.snd.snd.fst,w.snd.snd.snd.fst,w.snd.snd.snd.snd);let ag:=decide (w.fst=k);let ah:=decide (a<X);let ai:=decide (a<Y);let aj:=bj O D.toNat a;let ak:=decide (a<aj);let al:=decide (w.fst=(3:Int));let Z:=let am:=λ(u:List Int) ↦false=false->f m/\(((d bF t).same (d bF t)/\s.same s/\(d bF t).same (d bF t)/\v.same v/\y.same y/\True)/\(h C u 3 true).same N/\True)/\(a<=m/\m<=o/\∀(j:Nat),(↑j:Int)<m->kU t j=true)/\(o - m).toNat<(o - x).toNat;True/\(false=true->a<=a/\a<a/\0<0/\(F=true->(b).same (e (dT t)))/\(F=false->(E=true->(b).same (e (dT t)))/\(E=false->t.length=n/\a<=a/\a<(↑n:Int)/\t.length=n/\0<n/\(ab=true->(b).same (e (dT t)))/\(ab=false->t.length=n/\a<=a/\a<(↑n:Int)/\t.length=n/\0<n/\f (T+c)/\t.length=n/\a<=a/\a<(↑n:Int)/\t.length=n/\0<n/\(false=true->a<=c/\c<a/\1<0/\(F=true->(b).same (e (dT t)))/\(F=false->(E=true->(b).same (e (dT t)))/\(E=false->t.length=q.length/\a<=a/\a<(↑q.length:Int)/\t.length=q.length/\0<q.length/\(ac=true->(b).same (e (dT t)))/\(ac=false->t.length=q.length/\a<=a/\a<(↑q.length:Int)/\t.length=q.length/\0<q.length/\f (U+c)/\t.length=q.length/\a<=a/\a<(↑q.length:Int)/\t.length=q.length/\0<q.length/\(false=true->a<=k/\k<a/\2<0/\(F=true->(b).same (e (dT t)))/\(F=false->(E=true->(b).same (e (dT t)))/\(E=false->t.length=r.length/\a<=a/\a<(↑r.length:Int)/\t.length=r.length/\0<r.length/\(ae=true->(b).same (e (dT t)))/\(ae=false->t.length=r.length/\a<=a/\a<(↑r.length:Int)/\t.length=r.length/\0<r.length/\f (ad+c)/\t.length=r.length/\a<=a/\a<(↑r.length:Int)/\t.length=r.length/\0<r.length/\False))))/\am r))))/\am q))))/\(false=false->f m/\(((d bF t).same (d bF t)/\s.same s/\(d bF t).same (d bF t)/\v.same v/\y.same y/\True)/\V.same N/\True)/\(a<=m/\m<=o/\∀(j:Nat),(↑j:Int)<m->kU t j=true)/\(o - m).toNat<(o - x).toNat);let a0:=D<(↑O.length:Int);let a1:=D.toNat<O.length;let J:=t.length=O.length;let a2:=B<(↑H.length:Int);let a3:=B.toNat<H.length;let K:=t.length=H.length;let a4:=A<(↑n:Int);let a5:=A.toNat<n;let a6:=a<=D;let a7:=a<=A;let a8:=a<=B;(a<=x/\x<=o/\∀(j:Nat),(↑j:Int)<x->kU t j=true)->(decide (x<o)=true->a<=x/\x<p/\x.toNat<t.length/\True/\(af=true->(∀(x:bL),x∈w.snd.snd.snd.snd->iW x)/\((!wf1 I)=true->(b).same (e (dT t)))/\((!wf1 I)=false->Z))/\(af=false->(ag=true->True/\((!wf2 I)=true->(b).same (e (dT t)))/\((!wf2 I)=false->True/\(true=true->a<=a/\a<k/\0<2/\(decide (A<=x)=true->(b).same (e (dT t)))/\(decide (A<=x)=false->(decide (p<=A)=true->(b).same (e (dT t)))/\(decide (p<=A)=false->t.length=n/\a7/\a4/\t.length=n/\a5/\(ah=true->(b).same (e (dT t)))/\(ah=false->t.length=n/\a7/\a4/\t.length=n/\a5/\f (X+c)/\t.length=n/\a7/\a4/\t.length=n/\a5/\(true=true->a<=c/\c<k/\1<2/\(decide (B<=x)=true->(b).same (e (dT t)))/\(decide (B<=x)=false->(decide (p<=B)=true->(b).same (e (dT t)))/\(decide (p<=B)=false->K/\a8/\a2/\K/\a3/\(ai=true->(b).same (e (dT t)))/\(ai=false->K/\a8/\a2/\K/\a3/\f (Y+c)/\K/\a8/\a2/\K/\a3/\(false=true->a<=k/\k<k/\2<2/\(decide (D<=x)=true->(b).same (e (dT t)))/\(decide (D<=x)=false->(decide (p<=D)=true->(b).same (e (dT t)))/\(decide (p<=D)=false->J/\a6/\a0/\J/\a1/\(ak=true->(b).same (e (dT t)))/\(ak=false->J/\a6/\a0/\J/\a1/\f (aj+c)/\J/\a6/\a0/\J/\a1/\False))))/\(false=false->f m/\(((d bF t).same (d bF t)/\s.same s/\(d bF t).same (d bF t)/\v.same v/\y.same y/\True)/\(h C O 3 true).same N/\True)/\(a<=m/\m<=o/\∀(j:Nat),(↑j:Int)<m->kU t j=true)/\(o - m).toNat<(o - x).toNat)))))/\(true=false->f m/\(((d bF t).same (d bF t)/\s.same s/\(d bF t).same (d bF t)/\v.same v/\y.same y/\True)/\(h C H 3 true).same N/\True)/\(a<=m/\m<=o/\∀(j:Nat),(↑j:Int)<m->kU t j=true)/\(o - m).toNat<(o - x).toNat)))))/\(true=false->f m/\(((d bF t).same (d bF t)/\s.same s/\(d bF t).same (d bF t)/\v.same v/\y.same y/\True)/\V.same N/\True)/\(a<=m/\m<=o/\∀(j:Nat),(↑j:Int)<m->kU t j=true)/\(o - m).toNat<(o - x).toNat)))/\(ag=false->(al=true->True/\((!uS I)=true->(b).same (e (dT t)))/\((!uS I)=false->Z))/\(al=false->True/\(true=true->(b).same (e (dT t)))/\(true=false->Z)))))/\(decide (x<o)=false->t.length=n/\1<=t.length/\t.length<=t.length/\(((P.same P/\Q.same Q/\(l).same (g 0)/\True)/\V.same S/\True)/\a<=a/\a<=z/\∀(j:Nat),(↑j:Int)<a->(↑j:Int)+c∈ig t t.length)/\∀(x:Int),let an:=decide (bj M (1+x.toNat) 0=a);let L:=x+c;let ao:=g L;(a<=x/\x<=z/\∀(j:Nat),(↑j:Int)<x->(↑j:Int)+c∈ig t t.length)->(decide (x<z)=true->t.length=M.length/\a<=x/\x<z/\1+R<=t.length/\t.length=M.length/\1+x.toNat<M.length/\(an=true->(b).same (e (dT t)))/\(an=false->f L/\((P.same P/\Q.same Q/\ao.same ao/\True)/\S.same S/\True)/\(a<=L/\L<=z/\∀(j:Nat),(↑j:Int)<L->(↑j:Int)+c∈ig t t.length)/\(z - L).toNat<(z - x).toNat))/\(decide (x<z)=false->(δf true).same (e (dT t))))))) (by kernel_rfl) ?_;simp only[vcs];refine⟨λh=>?_,λh1=>⟨λh=>?_,λh2=>?_⟩⟩
 ·have:¬(1<=t.length/\t.length<=65536):=by omega
  simp[dT,this]
 ·have:¬(1<=t.length/\t.length<=65536):=by omega
  simp[dT,this]
 have hrow:∀{x y:List Int},x=y->(bq.row (.i .i64) x 3 true).same (bq.row (.i .i64) y 3 true):=by rintro _ _ rfl;rfl
 have how:∀{x y:Nat},x=y->(γZ 0 x 1).same (γZ 0 y 1):=by rintro _ _ rfl;rfl
 refine⟨by omega,by omega,by omega,by omega,⟨⟨how (by omega),hrow ?_⟩,by omega,by omega,λj hj=>by omega⟩,?_⟩;·rw[show ig t 0=[] from rfl,afs];simp
 rintro i ⟨i0,i1,hi⟩;refine⟨λhlt=>?_,λhge=>?_⟩
 ·have hil:i.toNat<t.length:=by omega
  have hm:=ht _ (dq (d:=bF.dflt) hil);have hs:=U4 i0 hlt;have hg:kU t i.toNat=(tt (bj t i.toNat bF.dflt)&&uT t.length i (ig t i.toNat) (jE (bj t i.toNat bF.dflt))):=by
   unfold kU;rw[show((i.toNat:Nat):Int)=i by omega]
  generalize bj t i.toNat bF.dflt=N at*;obtain⟨k,o,a,b,y⟩:=N;generalize hc:ig t i.toNat=c at*;have no:kU t i.toNat=false->false=dT t:=λh=>(aft hil h).symm;have fin:kU t i.toNat=true->(∀j:Nat,(j:Int)<i+1->kU t j=true):=λh j hj=>by
   by_cases h2:(j:Int)<i;·exact hi j h2
   ·rw[show j=i.toNat by omega];exact h
  have hl:=@y7 t.length c;have w1:k=1->tt (k,o,a,b,y)=wf1 (k,o,a,b,y):=λh=>if_pos h;have w2:¬k=1->k=2->tt (k,o,a,b,y)=wf2 (k,o,a,b,y):=λh h'=>(if_neg h).trans (if_pos h');have w3:¬k=1->¬k=2->k=3->tt (k,o,a,b,y)=uS (k,o,a,b,y):=λh h' h''=>(if_neg h).trans ((if_neg h').trans (if_pos h''));have w4:¬k=1->¬k=2->¬k=3->tt (k,o,a,b,y)=false:=λh h' h''=>(if_neg h).trans ((if_neg h').trans (if_neg h''));have Fb:¬k=2->jE (k,o,a,b,y)=[]:=λh=>if_neg h;have U5:k=2->jE (k,o,a,b,y)=[a,b]:=λh=>if_pos h;have ea:bj [a,b] 0 0=a:=rfl;have eb:bj [a,b] 1 0=b:=rfl;dsimp only;simp only[ea,eb];refine⟨i0,hlt,hil,λh1=>⟨hm,λhw=>no ?_,λhw=>⟨λh=>(by cases h),λ_=>⟨⟨by omega,by omega⟩,hrow ?_,⟨by omega,by omega,fin ?_⟩,by omega⟩⟩⟩,λh1=>⟨λh2=>?_,λh2=>⟨λh3=>⟨λhw=>no ?_,λhw=>⟨λh=>(by cases h),λ_=>⟨⟨by omega,by omega⟩,hrow ?_,⟨by omega,by omega,fin ?_⟩,by omega⟩⟩⟩,λh3=>⟨λ_=>no ?_,λh=>(by cases h)⟩⟩⟩⟩;·rw[hg,w1 h1,hw];rfl
  ·rw[hs,Fb (by omega),γ1]
  ·rw[hg,w1 h1,Fb (by omega),hw];rfl
  ·have hg2:kU t i.toNat=(wf2 (k,o,a,b,y)&&(decide (i<a/\a<t.length)&&decide (a∉c)&&(decide (i<b/\b<t.length)&&decide (b∉c++[a])&&true))):=by rw[hg,w2 h1 h2,U5 h2];rfl
   rw[U5 h2] at hs;refine⟨λhw=>no ?_,λhw=>⟨λ_=>⟨by omega,by omega,by omega,λha=>no ?_,λha=>⟨λhb=>no ?_,λhb=>?_⟩⟩,λh=>(by cases h)⟩⟩;·rw[hg2,hw];rfl
   ·rw[hg2,decide_eq_false (p:=i<a/\a<t.length) (by omega)];simp
   ·rw[hg2,decide_eq_false (p:=i<a/\a<t.length) (by omega)];simp
   have hat:a.toNat<t.length:=by omega
   have ca:=@y8 t.length a.toNat c hat;rw[show((a.toNat:Nat):Int)=a by omega] at ca;have pa:=@U3 t.length c a (by omega) (by omega);have la:0<=a/\a<(lr t.length c).length:=by rw[hl];omega
   have Lu:a.toNat<(lr t.length c).length:=by rw[hl];exact hat
   refine⟨hl.symm,la.1,la.2,hl.symm,Lu,λhc1=>no ?_,λhc1=>⟨hl.symm,la.1,la.2,hl.symm,Lu,⟨by omega,by omega⟩,hl.symm,la.1,la.2,hl.symm,Lu,λ_=>?_,λh=>(by cases h)⟩⟩
   ·have:a∈c:=δU.1 (by omega);rw[hg2,decide_eq_false (p:=a∉c) (by simpa using this)];simp
   have hac:a∉c:=λh=>by have:=δU.2 h;omega
   simp only[pa];have hl2:=@y7 t.length (c++[a]);refine⟨by omega,by omega,by omega,λhb1=>no ?_,λhb1=>⟨λhb2=>no ?_,λhb2=>?_⟩⟩;·rw[hg2,decide_eq_false (p:=i<b/\b<t.length) (by omega)];simp
   ·rw[hg2,decide_eq_false (p:=i<b/\b<t.length) (by omega)];simp
   have hbt:b.toNat<t.length:=by omega
   have cb:=@y8 t.length b.toNat (c++[a]) hbt;rw[show((b.toNat:Nat):Int)=b by omega] at cb;have pb:=@U3 t.length (c++[a]) b (by omega) (by omega);have lb:0<=b/\b<(lr t.length (c++[a])).length:=by rw[hl2];omega
   have Lx:b.toNat<(lr t.length (c++[a])).length:=by rw[hl2];exact hbt
   refine⟨hl2.symm,lb.1,lb.2,hl2.symm,Lx,λhc2=>no ?_,λhc2=>⟨hl2.symm,lb.1,lb.2,hl2.symm,Lx,⟨by omega,by omega⟩,hl2.symm,lb.1,lb.2,hl2.symm,Lx,λh=>(by cases h),λ_=>⟨⟨by omega,by omega⟩,hrow ?_,⟨by omega,by omega,fin ?_⟩,by omega⟩⟩⟩
   ·have:b∈c++[a]:=δU.1 (by omega);rw[hg2,decide_eq_false (p:=b∉c++[a]) λh=>h this];simp
   ·rw[pb,hs,γO];rfl
   ·have hbc:b∉c++[a]:=λh=>by have:=δU.2 h;omega
    rw[hg2,hw,decide_eq_true (p:=i<a/\a<t.length) (by omega),decide_eq_true (p:=i<b/\b<t.length) (by omega),decide_eq_true hac,decide_eq_true hbc];rfl
  ·rw[hg,w3 h1 h2 h3,hw];rfl
  ·rw[hs,Fb h2,γ1]
  ·rw[hg,w3 h1 h2 h3,Fb h2,hw];rfl
  ·rw[hg,w4 h1 h2 h3];rfl
 ·rw[show i.toNat=t.length by omega];have hl:=@y7 t.length (ig t t.length);refine⟨hl.symm,by omega,by omega,⟨hrow rfl,by omega,by omega,λj hj=>by omega⟩,?_⟩;rintro x ⟨x0,x1,hx⟩;refine⟨λhlt=>?_,λDD=>?_⟩
  ·have cx:=@y8 t.length (1+x.toNat) (ig t t.length) (by omega);rw[show(((1+x.toNat:Nat)):Int)=(x.toNat:Int)+1 by omega] at cx;refine⟨hl.symm,x0,hlt,by omega,hl.symm,by rw[hl];omega,λh=>?_,λh=>⟨⟨by omega,by omega⟩,⟨by omega,by omega,λj hj=>?_⟩,by omega⟩⟩;·exact(afu (k:=x.toNat) (by omega) λhm=>by have:=δU.2 hm;omega).symm
   ·by_cases hj2:(j:Int)<x;·exact hx j hj2
    ·rw[show j=x.toNat by omega];exact δU.1 (by omega)
  ·symm;unfold dT;rw[decide_eq_true (by omega),φ.2 λk hk=>hi k (by have:=γp.1 hk;omega),φ.2 λk hk=>decide_eq_true (hx k (by have:=γp.1 hk;omega))];rfl
theorem rX {W:Int} (a: -9223372036854775808<=W) (b:W<=9223372036854775807):Sz 2 (W:Rat):=by
 unfold Sz;simp;omega
end Go.Vi
