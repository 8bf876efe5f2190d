/-
  Contracts: the optimum of the relaxation, where the fixed offers lie in a row of the caller's own.
  Conditions: none.
-/
import Derived.Test.YtjcmncmajmoiiaaGreatVY13
import Derived.Test.YtjcmncmajmoiiaaGreatVY06
import Derived.Test.YtjcmncmajmoiiaaGreatVY07
import Derived.Test.YtjcmncmajmoiiaaGreatVY09
import Derived.Test.YtjcmncmajmoiiaaGreatVY10
import Derived.Test.YtjcmncmajmoiiaaGreatVY11
import Derived.Test.YtjcmncmajmoiiaaGreatVY12
import Derived.Test.YtjcmncmajmoiiaaGreatVY08
set_option maxRecDepth 100000
set_option maxHeartbeats 4000000
set_option linter.all false
open Bool renaming false_ne_true->ζK
open Classical renaming not_not->ω
open Go.Vi.SV renaming si->Θ,row->Φ,ptr->γS,il->γp,ow->γ6,bl->δo,agg->γC,sb->γD
open Int renaming toNat_natCast->γk,toNat_of_nonneg->εv,ofNat_lt->εV
open IntCast renaming intCast->Ω
open List renaming take->γa,take_length->ψ,map->γf,length_take->Ψ,length_map->γA,all_eq_true->Ξ,append_nil->γZ,mem_map->γg,replicate->ε,length_set->γb,length->γn,length_replicate->γR,getElem_of_mem->δb,length_append->κ
open List.cons renaming injEq->ξ
open Nat renaming lt_of_lt_of_le->γr
open Option renaming isSome_eq_false_iff->γ2,isNone_iff_eq_none->γQ,isSome_iff_exists->γo,getD_some->γ4
open Option.some renaming injEq->γ
open Rat renaming not_lt->ζi
namespace Go.Vi
open Go.Proofs.YtjcmncmajmoiiaaGreat.Ir
open Go.Proofs
def Me (f:FuncId) (j:bp->List Int->Prop) (e:bp->List Int->SV):cZ where
 f:=f;α:=bp×Nat×List Int;put a:=[cY.put a.1,.ow 0 a.2.1 1];st a:=[.row (.i .i64) a.2.2 3 true];dec v o:=match v,o with
  |[p,.ow 0 n 1],[.row s l 3 true]=>match cY.dec p,iI s (.i .i64) l with
   |some p,some l=>some (p,n,l)
   |_,_=>none
  |_,_=>none;ok v o a h:=by
  split at h
  ·split at h
   ·rename_i c d;simp only[γ] at h;subst h;obtain⟨rfl,k⟩:=nu d;cases k;exact⟨by simp only[gL,cY.ok _ _ c],rfl⟩
   ·cases h
  ·cases h
 inj a b c d:=by
  obtain⟨p,n,l⟩:=a;obtain⟨m,q,r⟩:=b;simp only[gL,ξ,and_true,SV.g,AV.os.injEq,true_and] at c;simp only[gO,List.map_cons,List.map_nil,bq.g,ξ,bP.cells.injEq,and_true] at d;rw[cY.inj p m c.1,pr (s:=.i .i64) d,c.2.1]
 dom a:=a.2.1=a.2.2.length/\j a.1 a.2.2;res a:=e a.1 a.2.2;out a:=[.row (.i .i64) a.2.2 3 true]
theorem FM {L:List bL} {W:List cZ} (c:cZ) (Λ:c.α->Nat->cB) (i:∀c∈W,dK Tryz.prog c) (e:∀c∈L,Holds Tryz.prog c)
  
  (h:∀a,c.dom a->Vc (FI (lZ L (fU W) oY oZ gB) (Λ a) (fG c.f) (c.put a) (c.st a) λv s=>v.same (c.res a)/\jk s (c.out a))) (j:(gB c.f).isSome=true:=by kernel_rfl) (b:∀a,(c.put a).length=(fG c.f).params:=by intro _;kernel_rfl) (d:k9 c.f W=none:=by kernel_rfl):dK Tryz.prog c:=
 λa g=>afC c pT i e (vJ j) b a d (h a g).out
noncomputable def MA:cZ:=Me 154 (λp f=>bC p=0/\f.length=p.offers.length) λp f=>qU (Ω (kW p f))
def afN (p:bp) (f:List Int):Nat->cB
 |3=> .inv Int (λi=>⟨[(2,.ptr 1 0 20),(4,.ptr 2 0 3),(5,.si .i64 (kW p (f.take i.toNat))),(8,.ow 0 f.length 1),(9,.si .i64 f.length),(10,.si .i64 i)],[.row (.i .i64) f 3 true,.cells p.ss 27 20 false,.cells [.bl false,.sc (.slice none 0 0),.sc (.slice none 0 0)] 157 3 false]⟩)
   (λs=>iS s 10) (λi=>0<=i/\i<=f.length) (λi=>(f.length - i).toNat) λ_ _=> .look
 |_=> .look
theorem h396w:dK Tryz.prog MA:=by
 refine FM (L:=[qV]) (W:=[]) MA (λa=>afN a.1 a.2.2) (by simp) (by simpa using h94) ?_;rintro⟨p,n,f⟩ ⟨hn,⟨hc,hl⟩⟩;simp only at hn;subst hn;simp only at hc hl;refine bN (let a:=Θ .i64;let b:=(0:Int);let c:=Φ;let j:=γS 1 0 20;let k:=γS 2 0 3;let t:=γp .i64 0;let l:=γ6 0 f.length 1;let d:=(↑f.length:Int);let m:=a d;let e:=bq.row (bk.i .i64) f 3 true;let n:=bq.cells (bp.ss p) 27 20 false;let v:=SV.sc (Value.slice none 0 0);let o:=bq.cells [δo false,v,v] 157 3 false;let q:=bk.i .u32;let r:=bu (Ω (kW p f));(((j.same j/\k.same k/\t.same (a (kW p []))/\l.same l/\m.same m/\t.same (a 0)/\True)/\e.same e/\n.same n/\o.same o/\True)/\b<=b/\b<=d)/\∀(x:Int),let g:=x+(1:Int);let w:=a g;let y:=decide (bj f x.toNat b=(1:Int));let h:=kW p (γa x.toNat f);let z:=h+(bj p.offers x.toNat bk.off.dflt).value;let s:=bu (Ω h);let A:=λ(u:Int) ↦bV .i64 g/\((j.same j/\k.same k/\(a u).same (a (kW p (γa g.toNat f)))/\l.same l/\m.same m/\w.same w/\True)/\e.same e/\n.same n/\o.same o/\True)/\(b<=g/\g<=d)/\(d - g).toNat<(d - x).toNat;b<=x/\x<=d->(decide (x<d)=true->f.length=f.length/\b<=x/\x<(↑f.length:Int)/\f.length=f.length/\x.toNat<f.length/\(y=true->b<=x/\x<(↑p.offers.length:Int)/\x.toNat<p.offers.length/\bV .i64 z/\A z)/\(y=false->A h))/\(decide (x<d)=false->((-9223372036854775808:Int)<=h/\h<=(9223372036854775807:Int))/\(γC [γD s.fst,c q s.snd.fst,c q s.snd.snd]).same (γC [γD r.fst,c q r.snd.fst,c q r.snd.snd])/\e.same e/\True)) (by kernel_rfl) ?_;simp only[vcs];have h160:=(dm hc).2.1;refine⟨⟨by simp[kW,bF,dT,bZ],by omega,by omega⟩,?_⟩;rintro i ⟨i0,i1⟩;have hb:=@LM p hc f i.toNat hl;refine⟨λhi=>?_,λhi=>?_⟩
 ·have hs:=@afb p f i i0 hi;have ho:=py hc (i:=i) ⟨i0,by omega⟩;have hv:(bj p.offers i.toNat bk.off.dflt).value=(oI p i).value:=rfl;rw[hv];refine⟨i0,hi,by omega,λh1=>?_,λh1=>?_⟩
  ·rw[if_pos h1] at hs;refine⟨i0,?_,?_,?_,?_,?_,?_,?_⟩<;>omega
  ·rw[if_neg h1] at hs;refine⟨?_,?_,?_,?_⟩<;>omega
 ·rw[show f.take i.toNat=f by rw[show i.toNat=f.length by omega,ψ]] at hb ⊢;exact⟨by omega,rfl⟩
noncomputable def MB:cZ:=Me 151 (λp f=>(bC p=0/\f.length=p.offers.length)/\jQ f=true) λp f=> .bH [.agg [.row sF (nf p f).1,.row sR (nf p f).2.1],.row (.i .i64) (nf p f).2.2,.si .i64 (if iD p f=true then 0 else 14)]
def Vz (p:bp) (f:List Int) (l:List Int) (m:List Off):bW:=[.row (.i .i64) f 3 true,.cells p.ss 27 20 false,.cells [.sc (.slice none 0 0),.sc (.slice none 0 0)] 220 2 false,.row (.i .i64) l 3 true,.row .off m 39 true]
def FN (p:bp) (f:List Int) (l:List Int) (m:List Off) (k0 k1:Nat) (rs:List (List bO×bO)) (g:List bO):bW:=Vz p f l m++[.cells p.ss 110 20 false,.cells [.ow 8 k0 3,.ow 7 k1 4] 220 2 false,.row sR rs 255 false,.row sF g 157 false]
def afO (p:bp) (f:List Int):Nat->cB
 |9=> .inv Int (λi=>⟨[(2,.ptr 1 0 20),(4,.ptr 2 0 2),(8,.ow 3 (bF (f.take i.toNat) 0).length 1),(9,.ow 4 (bF (f.take i.toNat) 1).length 8),(36,.ow 0 f.length 1),(37,.si .i64 f.length),(38,.si .i64 i)],Vz p f (bF (f.take i.toNat) 0) ((bF (f.take i.toNat) 1).map (oI p))⟩)
   (λs=>iS s 38) (λi=>0<=i/\i<=f.length) (λi=>(f.length - i).toNat) λ_ _=> .look
 |24=> .inv Int (λj=>⟨[(2,.ptr 1 0 20),(4,.ptr 2 0 2),(8,.ow 3 (bF f 0).length 1),(9,.ow 4 (bF f 1).length 8),(12,.ptr 5 0 20),(13,.ptr 6 0 2),(71,.ow 3 (bF f 0).length 1),(72,.si .i64 (bF f 0).length),(73,.si .i64 j)],FN p f (bF f 0) ((bF f 1).map (oI p)) j.toNat 0 [] (mH p f j.toNat)⟩)
   (λs=>iS s 73) (λj=>0<=j/\j<=(bF f 0).length) (λj=>((bF f 0).length - j).toNat) λ_ _=> .look
 |29=> .inv Int (λr=>⟨[(2,.ptr 1 0 20),(4,.ptr 2 0 2),(8,.ow 3 (bF f 0).length 1),(9,.ow 4 (bF f 1).length 8),(12,.ptr 5 0 20),(13,.ptr 6 0 2),(91,.si .i64 (dn p)),(92,.si .i64 r)],FN p f (bF f 0) ((bF f 1).map (oI p)) (bF f 0).length r.toNat (nU p f r.toNat) (mH p f (bF f 0).length)⟩)
   (λs=>iS s 92) (λr=>0<=r/\r<=dn p) (λr=>(dn p - r).toNat) λr k=>match k with
   |33=> .inv Int (λj=>⟨[(2,.ptr 1 0 20),(4,.ptr 2 0 2),(8,.ow 3 (bF f 0).length 1),(9,.ow 4 (bF f 1).length 8),(12,.ptr 5 0 20),(13,.ptr 6 0 2),(16,.si .i64 r),(17,.si .i64 (dC p r - cT p (((bF f 1).map (oI p)).take j.toNat) r)),(91,.si .i64 (dn p)),(92,.si .i64 r),(98,.ow 4 (bF f 1).length 8),(99,.si .i64 (bF f 1).length),(100,.si .i64 j)],FN p f (bF f 0) ((bF f 1).map (oI p)) (bF f 0).length r.toNat (nU p f r.toNat) (mH p f (bF f 0).length)⟩)
     (λs=>iS s 100) (λj=>0<=j/\j<=(bF f 1).length) (λj=>((bF f 1).length - j).toNat) λ_ _=> .look
   |39=> .inv Int (λj=>⟨[(2,.ptr 1 0 20),(4,.ptr 2 0 2),(8,.ow 3 (bF f 0).length 1),(9,.ow 4 (bF f 1).length 8),(12,.ptr 5 0 20),(13,.ptr 6 0 2),(16,.si .i64 r),(20,.ptr 9 0 4),(91,.si .i64 (dn p)),(92,.si .i64 r),(114,.ow 3 (bF f 0).length 1),(115,.si .i64 (bF f 0).length),(116,.si .i64 j)],FN p f (bF f 0) ((bF f 1).map (oI p)) (bF f 0).length r.toNat (nU p f r.toNat) (mH p f (bF f 0).length)++[.cells [.ow 10 j.toNat 3,.sb (bu ((dC p r - cT p ((bF f 1).map (oI p)) r:Int):Rat)).1,.row (.i .u32) (bu ((dC p r - cT p ((bF f 1).map (oI p)) r:Int):Rat)).2.1,.row (.i .u32) (bu ((dC p r - cT p ((bF f 1).map (oI p)) r:Int):Rat)).2.2] 255 4 false,.row sF (nT p f r j.toNat) 157 false]⟩)
     (λs=>iS s 116) (λj=>0<=j/\j<=(bF f 0).length) (λj=>((bF f 0).length - j).toNat) λ_ _=> .look
   |_=> .look
 |_=> .look
theorem h394w:dK Tryz.prog MB:=by
 refine FM (L:=[pU,qV,Dh,xH,xF,xG]) (W:=[]) MB (λa=>afO a.1 a.2.2) (by simp) (by simpa using⟨h79,h94,h134,h156,h157,h158⟩) ?_;rintro⟨p,n,f⟩ ⟨hn,⟨⟨hc,hl⟩,hr⟩⟩;simp only at hn;subst hn;simp only at hc hl hr;refine bN (let a:=Θ .i64;let c:=(0:Int);let d:=bq.row;let e:=bq.cells;let g:=γ6;let h:=(-9223372036854775808:Int);let j:=Φ;let k:=(1:Int);let l:=(9223372036854775807:Int);let m:=bV .i64;let n:=γp .i64;let o:=γS;let q:=γC;let r:=SV.bH;let R:=SV.sc (Value.slice none 0 0);let L:=bk.i .i64;let ah:=r [q [j sF (nf p f).fst,j sR (nf p f).snd.fst],j L (nf p f).snd.snd,a (if iD p f=true then c else(14:Int))];let s:=d L f 3 true;let I:=(↑f.length:Int);let ai:=p.offers.length;let ae:=(↑ai:Int);let t:=o 1 0 20;let v:=o 2 0 2;let Z:=g 0 f.length 1;let a6:=a I;let a7:=n 0;let aM:=[a p.supply.a0,a p.supply.a1,a p.supply.a2,a p.supply.a3,a p.supply.a4,a p.supply.a5,a p.opn.a0,a p.opn.a1,a p.opn.a2,a p.opn.a3,a p.opn.a4,a p.opn.a5,a p.cls.a0,a p.cls.a1,a p.cls.a2,a p.cls.a3,a p.cls.a4,a p.cls.a5,j L p.classes,j bk.off p.offers];let w:=e aM 27 20 false;let y:=e [R,R] 220 2 false;let aN:=d bk.off [] 39 true;let aj:=bk.off.dflt;let ay:=(↑p.classes.length:Int);let a8:=bk.i .u32;let a9:=bk.b.pair (a8.bJ.pair a8.bJ);let az:=a9.bJ.pair a9;let H:=bF f c;let N:=H.length;let z:=g 3 N 1;let z25:Nat:=(bF f k).length;let A:=g 4 z25 8;let B:=o 5 0 20;let C:=o 6 0 2;let E:=(↑N:Int);let V:=a E;let F:=d L H 3 true;let P:=γf (oI p) (bF f k);let G:=d bk.off P 39 true;let D:=e aM 110 20 false;let af:=[g 7 0 4];let aO:=e (g 8 0 3::af) 220 2 false;let ak:=d sR [] 255 false;let aP:=d a9 [] 157 false;let J:=a (dn p);let al:=g 8 N 3;let aA:=mH p f N;let M:=d sF aA 157 false;let S:=(↑z25:Int);let am:=a S;let an:=o 9 0 4;let aQ:=g 10 0 3;let aR:=λ(u u_1:Int) (u_2:SV) ↦decide (u≠u_1)=true->(r [q [R,R],R,u_2]).same ah/\s.same s/\True;True/\aR (bC p) c (a (bC p))/\(decide (bC p≠c)=false->aR I ae (n 3)/\(decide (I≠ae)=false->(((t.same t/\v.same v/\(g 3 0 1).same (g 3 (bF [] c).length 1)/\(g 4 0 8).same (g 4 (bF [] k).length 8)/\Z.same Z/\a6.same a6/\a7.same (a 0)/\True)/\s.same s/\w.same w/\y.same y/\(d L [] 3 true).same (d L (bF [] c) 3 true)/\aN.same aN/\True)/\c<=c/\c<=I)/\∀(x:Int),let ao:=bF (γa x.toNat f) k;let aS:=g 4 ao.length 8;let O:=x+k;let ap:=γa O.toNat f;let aT:=g 4 (bF ap k).length 8;let aq:=a O;let aU:=g 3 (bF ap c).length 1;let aV:=d L (bF ap c) 3 true;let Q:=γf (oI p) ao;let aW:=d bk.off Q 39 true;let aX:=d bk.off (γf (oI p) (bF ap k)) 39 true;let aB:=bj f x.toNat c;let aY:=decide (aB=(-1:Int));let aa:=bF (γa x.toNat f) c;let ar:=aa.length;let aC:=d L aa 3 true;let aZ:=decide (aB=c);let b0:=aa.length+1;let b1:=decide (aB=k);let b2:=Q.length+1;let aD:=g 3 ar 1;let b3:=Q++[bj p.offers x.toNat aj];let bh:=aS.same aT/\Z.same Z/\a6.same a6/\aq.same aq/\True;let b4:=λ(u:Nat) (u_1:bq) ↦m O/\((t.same t/\v.same v/\(g 3 u 1).same aU/\bh)/\s.same s/\w.same w/\y.same y/\u_1.same aV/\aW.same aX/\True)/\(c<=O/\O<=I)/\(I - O).toNat<(I - x).toNat;c<=x/\x<=I->(decide (x<I)=true->f.length=f.length/\c<=x/\x<(↑f.length:Int)/\f.length=f.length/\x.toNat<f.length/\(aY=true->b4 ar aC)/\(aY=false->(aZ=true->ar=aa.length/\b0*8<=140737488355328/\b0<=1000000000000/\b4 (aa++[x]).length (d L (aa++[x]) 3 true))/\(aZ=false->(b1=true->c<=x/\x<ae/\x.toNat<ai/\ao.length=Q.length/\b2*64<=140737488355328/\b2<=1000000000000/\m O/\((t.same t/\v.same v/\aD.same aU/\(g 4 b3.length 8).same aT/\Z.same Z/\a6.same a6/\aq.same aq/\True)/\s.same s/\w.same w/\y.same y/\aC.same aV/\(d bk.off b3 39 true).same aX/\True)/\(c<=O/\O<=I)/\(I - O).toNat<(I - x).toNat)/\(b1=false->(r [q [R,R],R,n 4]).same ah/\s.same s/\True))))/\(decide (x<I)=false->ao.length=Q.length/\(p.classes.length<=8/\Q.length<=1000/\∀(x:Off),x∈Q->c<=x.bD/\x.bD<ay/\x.want.ok=true)/\((!fV p Q)=true->0=0/\0=0/\0=0/\(r [q [j a9 [],j az []],j L [],n 14]).same ah/\s.same s/\True)/\((!fV p Q)=false->(((t.same t/\v.same v/\aD.same z/\aS.same A/\B.same B/\C.same C/\aD.same z/\(a (↑ar:Int)).same V/\a7.same (a 0)/\True)/\s.same s/\w.same w/\y.same y/\aC.same F/\aW.same G/\D.same D/\aO.same aO/\(d az [] 255 false).same ak/\aP.same (d sF (mH p f 0) 157 false)/\True)/\c<=c/\c<=E)/\∀(x:Int),let au:=bj H x.toNat c;let aE:=(bj p.offers au.toNat aj).value;let av:=mH p f x.toNat;let b5:=av.length+1;let W:=x+k;let b6:=a W;let aF:=bu (Ω aE);let b7:=av++[(aF.fst,aF.snd.fst,aF.snd.snd)];c<=x/\x<=E->(decide (x<E)=true->N=H.length/\c<=x/\x<(↑H.length:Int)/\N=H.length/\x.toNat<H.length/\c<=au/\au<ae/\au.toNat<ai/\(h<=aE/\aE<=l)/\1=1/\x.toNat=av.length/\b5*56<=140737488355328/\b5<=1000000000000/\m W/\((t.same t/\v.same v/\z.same z/\A.same A/\B.same B/\C.same C/\z.same z/\V.same V/\b6.same b6/\True)/\s.same s/\w.same w/\y.same y/\F.same F/\G.same G/\D.same D/\(e (g 8 b7.length 3::af) 220 2 false).same (e (g 8 W.toNat 3::af) 220 2 false)/\ak.same ak/\(d a9 b7 157 false).same (d sF (mH p f W.toNat) 157 false)/\True)/\(c<=W/\W<=E)/\(E - W).toNat<(E - x).toNat)/\(decide (x<E)=false->p.classes.length<=8/\(((t.same t/\v.same v/\z.same z/\A.same A/\B.same B/\C.same C/\J.same J/\a7.same (a 0)/\True)/\s.same s/\w.same w/\y.same y/\F.same F/\G.same G/\D.same D/\(e (g 8 x.toNat 3::af) 220 2 false).same (e (al::af) 220 2 false)/\ak.same (d sR (nU p f 0) 255 false)/\(d sF av 157 false).same M/\True)/\c<=c/\c<=dn p)/\∀(x:Int),let b8:=decide (x<dn p);let T:=e [al,g 7 x.toNat 4] 220 2 false;let ab:=nU p f x.toNat;let U:=d sR ab 255 false;let ac:=bu (Ω (dC p x - cT p P x));let aG:=[γD ac.fst,j a8 ac.snd.fst,j a8 ac.snd.snd];let b9:=ab.length+1;let X:=x+k;let ba:=a X;c<=x/\x<=dn p->(b8=true->(p.classes.length<=8/\c<=x/\x<dn p)/\(((t.same t/\v.same v/\z.same z/\A.same A/\B.same B/\C.same C/\(a x).same (a x)/\(a (dC p x)).same (a (dC p x - cT p [] x))/\J.same J/\(a x).same (a x)/\A.same A/\am.same am/\a7.same (a 0)/\True)/\s.same s/\w.same w/\y.same y/\F.same F/\G.same G/\D.same D/\T.same T/\U.same U/\M.same M/\True)/\c<=c/\c<=S)/\∀(x_1:Int),let aH:=bj P x_1.toNat aj;let aw:=dC p x - cT p (γa x_1.toNat P) x;let bb:=aw - eT p x aH;let ad:=x_1+k;let K:=a x;let bc:=a ad;let aI:=bu (Ω aw);c<=x_1/\x_1<=S->(decide (x_1<S)=true->z25=P.length/\c<=x_1/\x_1<(↑P.length:Int)/\z25=P.length/\x_1.toNat<P.length/\(p.classes.length<=8/\c<=x/\x<dn p/\c<=aH.bD/\aH.bD<ay)/\m bb/\m ad/\((t.same t/\v.same v/\z.same z/\A.same A/\B.same B/\C.same C/\K.same K/\(a bb).same (a (dC p x - cT p (γa ad.toNat P) x))/\J.same J/\K.same K/\A.same A/\am.same am/\bc.same bc/\True)/\s.same s/\w.same w/\y.same y/\F.same F/\G.same G/\D.same D/\T.same T/\U.same U/\M.same M/\True)/\(c<=ad/\ad<=S)/\(S - ad).toNat<(S - x_1).toNat)/\(decide (x_1<S)=false->(h<=aw/\aw<=l)/\(((t.same t/\v.same v/\z.same z/\A.same A/\B.same B/\C.same C/\K.same K/\an.same an/\J.same J/\K.same K/\z.same z/\V.same V/\a7.same (a 0)/\True)/\s.same s/\w.same w/\y.same y/\F.same F/\G.same G/\D.same D/\T.same T/\U.same U/\M.same M/\(e [aQ,γD aI.fst,j a8 aI.snd.fst,j a8 aI.snd.snd] 255 4 false).same (e (aQ::aG) 255 4 false)/\aP.same (d sF (nT p f x 0) 157 false)/\True)/\c<=c/\c<=E)/\∀(x_2:Int),let ax:=bj H x_2.toNat c;let aJ:=bj p.offers ax.toNat aj;let aK:=eT p x aJ;let ag:=nT p f x x_2.toNat;let bd:=ag.length+1;let Y:=x_2+k;let be:=a Y;let aL:=bu (Ω aK);let bf:=ag++[(aL.fst,aL.snd.fst,aL.snd.snd)];let bg:=ab++[(ag,ac.fst,ac.snd.fst,ac.snd.snd)];c<=x_2/\x_2<=E->(decide (x_2<E)=true->N=H.length/\c<=x_2/\x_2<(↑H.length:Int)/\N=H.length/\x_2.toNat<H.length/\c<=ax/\ax<ae/\ax.toNat<ai/\(p.classes.length<=8/\c<=x/\x<dn p/\c<=aJ.bD/\aJ.bD<ay)/\(h<=aK/\aK<=l)/\1=1/\x_2.toNat=ag.length/\bd*56<=140737488355328/\bd<=1000000000000/\m Y/\((t.same t/\v.same v/\z.same z/\A.same A/\B.same B/\C.same C/\K.same K/\an.same an/\J.same J/\K.same K/\z.same z/\V.same V/\be.same be/\True)/\s.same s/\w.same w/\y.same y/\F.same F/\G.same G/\D.same D/\T.same T/\U.same U/\M.same M/\(e (g 10 bf.length 3::aG) 255 4 false).same (e (g 10 Y.toNat 3::aG) 255 4 false)/\(d a9 bf 157 false).same (d sF (nT p f x Y.toNat) 157 false)/\True)/\(c<=Y/\Y<=E)/\(E - Y).toNat<(E - x_2).toNat)/\(decide (x_2<E)=false->x_2.toNat=ag.length/\1=1/\x.toNat=ab.length/\b9*80<=140737488355328/\b9<=1000000000000/\m X/\((t.same t/\v.same v/\z.same z/\A.same A/\B.same B/\C.same C/\J.same J/\ba.same ba/\True)/\s.same s/\w.same w/\y.same y/\F.same F/\G.same G/\D.same D/\(e [al,g 7 bg.length 4] 220 2 false).same (e [al,g 7 X.toNat 4] 220 2 false)/\(d az bg 255 false).same (d sR (nU p f X.toNat) 255 false)/\M.same M/\True)/\(c<=X/\X<=dn p)/\(dn p - X).toNat<(dn p - x).toNat)))/\(b8=false->N=aA.length/\x.toNat=ab.length/\N=H.length/\(r [q [j sF aA,j sR ab],j L H,a7]).same ah/\s.same s/\True))))))) (by kernel_rfl) ?_;simp only[vcs];obtain⟨g1,g2,g3,g4,g5⟩:=dm hc;have hoi:∀k:Nat,∀o:Int,o=k->(bj p.offers k bk.off.dflt)=oI p o:=λk o h=>by subst h;rfl
 have hw2:∀{a b:Nat},a=b->(γ6 3 a 1).same (γ6 3 b 1):=by rintro _ _ rfl;rfl
 have hw3:∀{a b:Nat},a=b->(γ6 4 a 8).same (γ6 4 b 8):=by rintro _ _ rfl;rfl
 have lM:∀{x y:List Int},x=y->(bq.row (.i .i64) x 3 true).same (bq.row (.i .i64) y 3 true):=by rintro _ _ rfl;rfl
 have FO:∀{x y:List Off},x=y->(bq.row .off x 39 true).same (bq.row .off y 39 true):=by rintro _ _ rfl;rfl
 refine⟨λh=>absurd hc h,λ_=>⟨λh=>absurd (by rw[hl]) h,λ_=>⟨⟨⟨⟨hw2 rfl,hw3 rfl⟩,lM rfl⟩,by omega,by omega⟩,?_⟩⟩⟩;rintro i ⟨i0,i1⟩;have htl:(f.take i.toNat).length<=160:=by rw[Ψ];omega
 have hd0:=@yI (f.take i.toNat) 0;have hd1:=@yI (f.take i.toNat) 1;have hm1:(γf (oI p) (bF (f.take i.toNat) 1)).length=(bF (f.take i.toNat) 1).length:=γA _;refine⟨λhi=>?_,λhi=>?_⟩
 ·have hs0:=@LK f 0 i i0 hi;have hs1:=@LK f 1 i i0 hi;have ahh: -1<=bj f i.toNat 0/\bj f i.toNat 0<=1:=by
   have:=Ξ.1 hr _ (cK (d:=0) (show i.toNat<f.length by omega));simpa using this
  refine⟨i0,hi,by omega,λh1=>?_,λh1=>⟨λh2=>?_,λh2=>⟨λh3=>?_,λh3=>by omega⟩⟩⟩
  ·rw[if_neg (by omega),γZ] at hs0 hs1;rw[hs0,hs1];refine⟨?_,⟨⟨hw2 rfl,hw3 rfl⟩,lM rfl,FO rfl⟩,?_,?_⟩<;>omega
  ·rw[if_pos (by omega)] at hs0;rw[if_neg (by omega),γZ] at hs1;rw[hs0,hs1];refine⟨?_,?_,?_,⟨⟨hw2 rfl,hw3 rfl⟩,lM rfl,FO rfl⟩,?_,?_⟩<;>omega
  ·rw[if_neg (by omega),γZ] at hs0;rw[if_pos (by omega)] at hs1;rw[hs0,hs1,hoi i.toNat i (by omega),hm1];have e:γf (oI p) (bF (f.take i.toNat) 1)++[oI p i]=γf (oI p) (bF (f.take i.toNat) 1++[i]):=by rw[List.map_append];rfl
   rw[e,γA];refine⟨i0,?_,?_,rfl,?_,?_,?_,⟨⟨hw2 rfl,hw3 rfl⟩,lM rfl,FO rfl⟩,?_,?_⟩<;>omega
 ·have htk:f.take i.toNat=f:=by rw[show i.toNat=f.length by omega,ψ]
  rw[htk] at hd0 hd1 hm1 ⊢;have hdl:∀d,(bF f d).length<=160:=λd=>by have:=@yI f d;omega
  refine⟨hm1.symm,⟨g1,by omega,λx hx=>?_⟩,λhb=>?_,λhb=>?_⟩
  ·obtain⟨k,hk,rfl⟩:=γg.1 hx;have h1:=(mG.1 hk).1;have:=py hc (i:=k) (by omega);exact⟨this.1,this.2.1,this.2.2.1⟩
  ·have hb2:iD p f=false:=hb;unfold nf;simp only[hb2];exact⟨rfl,rfl,rfl⟩
  ·have hb2:iD p f=true:=hb;have hG:nf p f=((iC (jB p f)).1,((iC (jB p f)).2,bF f 0)):=by unfold nf;rw[if_pos hb2]
   simp only[hb2,if_true,hG];have hfx:iw p f:=⟨hc,hl,hb⟩;have Br:∀{x y:List bO},x=y->(bq.row sF x 157 false).same (bq.row sF y 157 false):=by rintro _ _ rfl;rfl
   have VA:∀{x y:List (List bO×bO)},x=y->(bq.row sR x 255 false).same (bq.row sR y 255 false):=by rintro _ _ rfl;rfl
   have MC:∀{a b c d:Nat},a=b->c=d->(bq.cells [.ow 8 a 3,.ow 7 c 4] 220 2 false).same (bq.cells [.ow 8 b 3,.ow 7 d 4] 220 2 false):=by rintro _ _ _ _ rfl rfl;rfl
   have hc8:∀{a b:Nat} {q q':Rat},a=b->q=q'->(bq.cells [.ow 10 a 3,.sb (bu q).1,.row (.i .u32) (bu q).2.1,.row (.i .u32) (bu q).2.2] 255 4 false).same (bq.cells [.ow 10 b 3,.sb (bu q').1,.row (.i .u32) (bu q').2.1,.row (.i .u32) (bu q').2.2] 255 4 false):=by rintro _ _ _ _ rfl rfl;rfl
   have hn0:=hdl 0;have hn1:=hdl 1;have hfree:∀j:Int,0<=j->j<(bF f 0).length->(0<=bj (bF f 0) j.toNat 0/\bj (bF f 0) j.toNat 0<p.offers.length):=λj h0 h1=>by
    have:=(mG.1 (cK (d:=0) (show j.toNat<(bF f 0).length by omega))).1;omega
   refine⟨⟨⟨⟨hw2 rfl,hw3 rfl,hw2 rfl,trivial⟩,lM rfl,FO rfl,Br rfl⟩,by omega,by omega⟩,?_⟩;rintro j ⟨j0,j1⟩;have hgl:=@LN p f j.toNat (by omega);refine⟨λhj=>?_,λhj=>?_⟩
   ·have hk:=hfree j j0 hj;have ho:=py hc hk;have hs:=@afc p f j j0 hj;have afP:=@LN p f (j+1).toNat (by omega);rw[hoi _ (bj (bF f 0) j.toNat 0) (by omega)];simp only[kQ];have e:mH p f j.toNat++[bu (Ω (oI p (bj (bF f 0) j.toNat 0)).value)]=mH p f (j+1).toNat:=hs.symm;rw[e];refine⟨j0,hj,?_,hk.1,hk.2,?_,?_,?_,?_,?_,?_,⟨MC afP rfl,Br rfl⟩,?_,?_⟩<;>omega
   ·rw[show j.toNat=(bF f 0).length by omega];have hnr:dn p=p.classes.length+12:=rfl;refine⟨g1,⟨⟨MC rfl rfl,VA rfl,Br rfl⟩,by omega,by omega⟩,?_⟩;rintro r ⟨r0,r1⟩;have hrl:=@Vh p f r.toNat;refine⟨λhr2=>⟨⟨g1,r0,hr2⟩,⟨by simp[cT],by omega,by omega⟩,?_⟩,λhr2=>?_⟩
    ·rintro k ⟨k0,k1⟩;have hok:∀x∈(γf (oI p) (bF f 1)).take k.toNat,x.want.ok=true:=λx hx=>(Fb hfx x (List.mem_of_mem_take hx)).2.2.1;have hsb:=@ug p r ((γf (oI p) (bF f 1)).take k.toNat) hok;have afQ:((γf (oI p) (bF f 1)).take k.toNat).length<=160:=by rw[Ψ];omega
     have hbb:=@E2 p hc r;refine⟨λhk=>?_,λhk=>?_⟩
     ·have hx:=Fb hfx _ (cK (d:=bk.off.dflt) (show k.toNat<(γf (oI p) (bF f 1)).length by omega));have hst:=@H4 p r (γf (oI p) (bF f 1)) k bk.off.dflt k0 (by omega);have hcb:=@rL p r _ hx.2.2.1;refine⟨?_,k0,?_,?_,?_,⟨g1,r0,hr2,hx.1,hx.2.1⟩,?_,?_,?_,?_,?_⟩<;>omega
     ·have e:(γf (oI p) (bF f 1)).take k.toNat=γf (oI p) (bF f 1):=List.take_of_length_le (by omega);rw[e] at hsb afQ ⊢;refine⟨by omega,⟨⟨hc8 rfl rfl,Br rfl⟩,by omega,by omega⟩,?_⟩;rintro l ⟨l0,l1⟩;have hcl:=@Vg p f r l.toNat (by omega);refine⟨λhl2=>?_,λhl2=>?_⟩
      ·have hk:=hfree l l0 hl2;have ho:=py hc hk;have hs:=@afd p f r l l0 hl2;have afR:=@Vg p f r (l+1).toNat (by omega);have hcb:=@rL p r _ ho.2.2.1;rw[hoi _ (bj (bF f 0) l.toNat 0) (by omega)];simp only[kQ];have e:nT p f r l.toNat++[bu (Ω (eT p r (oI p (bj (bF f 0) l.toNat 0))))]=nT p f r (l+1).toNat:=hs.symm;rw[e];refine⟨l0,hl2,?_,hk.1,hk.2,?_,⟨g1,r0,hr2,ho.1,ho.2.1⟩,?_,?_,?_,?_,?_,⟨hc8 afR rfl,Br rfl⟩,?_,?_⟩<;>omega
      ·rw[show l.toNat=(bF f 0).length by omega] at hcl ⊢;have hs:=@afe p f r r0;have hrl2:=@Vh p f (r+1).toNat;simp only[kQ];have e:nU p f r.toNat++[(nT p f r (bF f 0).length,bu (Ω (dC p r - cT p (γf (oI p) (bF f 1)) r)))]=nU p f (r+1).toNat:=hs.symm;rw[e];refine⟨hcl.symm,hrl.symm,?_,?_,?_,⟨MC rfl hrl2,VA rfl⟩,?_,?_⟩<;>omega
    ·have e:r.toNat=mF p:=by
      show r.toNat=p.classes.length+12;omega
     rw[e] at hrl ⊢;rw[Ve,Vf];refine⟨?_,hrl.symm.trans (by rw[Vf]),rfl,trivial,trivial⟩;rw[<-Ve];exact(LN (Nat.le_refl _)).symm
noncomputable def MD:cZ:=Me 115 (λp f=>f.length<=1000000000000) λp f=> .bH [afk p f,.si .i64 (kV p f)]
noncomputable def VB (p:bp) (f:List Int) (x:List bO):bW:=
 [.row (.i .i64) f 3 true,.cells p.ss 27 20 false,.cells [.bl false,.bl false,.sc (.slice none 0 0),.sc (.slice none 0 0),.sc (.slice none 0 0),.sc (.slice none 0 0)] 176 6 false,.cells [.row sF (nf p f).1,.row sR (nf p f).2.1] 220 2 false,
  .cells [.si .i64 1,.sb (bu (fe p f).value).1,.row (.i .u32) (bu (fe p f).value).2.1,.row (.i .u32) (bu (fe p f).value).2.2,.row sF (fL (gn (fe p f) (nF f) (mF p))),.row sF (fL (yM p f)),.row sF []] 224 7 false,.row sF x 157 true]
noncomputable def afS (p:bp) (f:List Int):Nat->cB
 |12=> .inv Int (λi=>⟨[(1,.ow 0 f.length 1),(2,.ptr 1 0 20),(4,.ptr 2 0 6),(8,.row (.i .i64) (bF f 0)),(10,.ptr 4 0 7),(11,.ow 5 f.length 3),(45,.ow 0 f.length 1),(46,.si .i64 f.length),(47,.si .i64 i)],VB p f (fw (fL (jR p f 0)) i.toNat (false,([],[])))⟩)
   (λs=>iS s 47) (λi=>0<=i/\i<=f.length) (λi=>(f.length - i).toNat) λ_ _=> .look
 |19=> .inv Int (λk=>⟨[(1,.ow 0 f.length 1),(2,.ptr 1 0 20),(4,.ptr 2 0 6),(10,.ptr 4 0 7),(11,.ow 5 f.length 3),(63,.row (.i .i64) (bF f 0)),(64,.si .i64 (bF f 0).length),(65,.si .i64 k)],VB p f (fL (jR p f k.toNat))⟩)
   (λs=>iS s 65) (λk=>0<=k/\k<=(bF f 0).length) (λk=>((bF f 0).length - k).toNat) λ_ _=> .look
 |_=> .look
theorem h390w:dK Tryz.prog MD:=by
 refine FM (L:=[LL,LH,qV,AB]) (W:=[MB,MA]) MD (λa=>afS a.1 a.2.2) (by simpa using⟨h394w,h396w⟩) (by simpa using⟨h393,h395,h94,h129⟩) ?_;rintro⟨p,n,f⟩ ⟨hn,hl:f.length<=1000000000000⟩;simp only at hn;subst hn;refine bN (let c:=Θ .i64;let d:=(0:Int);let e:=Φ;let g:=bq.row;let h:=(-9223372036854775808:Int);let j:=(9223372036854775807:Int);let k:=bq.cells;let l:=(1:Int);let m:=γD;let n:=SV.bH;let o:=γS;let q:=γC;let Q:=δo false;let v:=bk.i .u32;let a6:=bk.b.pair (v.bJ.pair v.bJ);let ah:=q [Q,Q,e v [],e v [],e a6 [],e a6 []];let ai:=[c (kV p f)];let a7:=n (q [m (jT p f),m (ko p f).fst,e v (ko p f).snd.fst,e v (ko p f).snd.snd,e sF (q9 p f),e sF (kp p f)]::ai);let R:=bk.i .i64;let t:=g R f 3 true;let aj:=decide (kV p f≠d);let ak:=decide ((if iD p f=true then d else(14:Int))≠d);let S:=γp .i64 0;let T:=(nf p f).fst;let a8:=(nf p f).snd.fst;let a9:=c 0;let s:=(↑f.length:Int);let w:=γ6 0 f.length 1;let y:=o 1 0 20;let z:=o 2 0 6;let J:=bF f d;let G:=e R J;let A:=o 4 0 7;let H:=γ6 5 f.length 3;let U:=c s;let B:=k [c p.supply.a0,c p.supply.a1,c p.supply.a2,c p.supply.a3,c p.supply.a4,c p.supply.a5,c p.opn.a0,c p.opn.a1,c p.opn.a2,c p.opn.a3,c p.opn.a4,c p.opn.a5,c p.cls.a0,c p.cls.a1,c p.cls.a2,c p.cls.a3,c p.cls.a4,c p.cls.a5,e R p.classes,e bk.off p.offers] 27 20 false;let V:=SV.sc (Value.slice none 0 0);let C:=k [Q,Q,V,V,V,V] 176 6 false;let D:=k [e sF T,e sR a8] 220 2 false;let al:=c 1;let aa:=γf (λ(r:List bO×bO) ↦(vL r.fst,ck r.snd)) a8;let P:=nS (vL T,aa);let z31:Nat:=(vL T).length;let K:=bu (fe p f).value;let W:=fL (gn (fe p f) (nF f) (mF p));let am:=e sF (fL (yM p f));let I:=k [al,m K.fst,e v K.snd.fst,e v K.snd.snd,e sF W,am,e sF []] 224 7 false;let X:=(false,[],[]);let Y:=fL (jR p f 0);let ab:=bu (Ω d);let ac:=bu (Ω l);let E:=(↑J.length:Int);let ad:=c E;let ae:=bu (Ω (kW p f));let an:=(ae.fst,ae.snd.fst,ae.snd.snd);let ao:=(K.fst,K.snd.fst,K.snd.snd);let af:=bu (ck an+ck ao);let ap:=λ(u:Bool) (u_1:SV) ↦u=true->0=0/\0=0/\0=0/\0=0/\(n [ah,u_1]).same a7/\t.same t/\True;f.length=f.length/\f.length<=1000000000000/\(aj=true->0=0/\0=0/\0=0/\0=0/\(n (ah::ai)).same a7/\t.same t/\True)/\(aj=false->(f.length=f.length/\(bC p=d/\f.length=p.offers.length)/\jQ f=true)/\ap ak S/\(ak=false->(∃(a:Lp),(T,a8)=iC a/\Bl a)/\ap false a9/\(false=false->d<=s/\s<=s/\s*(56:Int)<=(140737488355328:Int)/\s<=(1000000000000:Int)/\(((w.same w/\y.same y/\z.same z/\(e R (nf p f).snd.snd).same G/\A.same A/\(γ6 5 s.toNat 3).same H/\w.same w/\U.same U/\S.same a9/\True)/\t.same t/\B.same B/\C.same C/\D.same D/\(k [al,m (bu P.value).fst,e v (bu P.value).snd.fst,e v (bu P.value).snd.snd,e sF (fL (gn P z31 aa.length)),e sF (fL (kU P z31 aa.length z31)),e sF []] 224 7 false).same I/\(g a6 (ε s.toNat X) 157 true).same (g sF (fw Y 0 X) 157 true)/\True)/\d<=d/\d<=s)/\∀(x:Int),let L:=x+l;let aq:=c L;let M:=fw Y x.toNat X;let ar:=decide (bj f x.toNat d=l);let N:=M.set x.toNat (ab.fst,ab.snd.fst,ab.snd.snd);let au:=λ(u:List (Bool×List Int×List Int)) ↦bV .i64 L/\((w.same w/\y.same y/\z.same z/\G.same G/\A.same A/\H.same H/\w.same w/\U.same U/\aq.same aq/\True)/\t.same t/\B.same B/\C.same C/\D.same D/\I.same I/\(g sF u 157 true).same (g sF (fw Y L.toNat X) 157 true)/\True)/\(d<=L/\L<=s)/\(s - L).toNat<(s - x).toNat;d<=x/\x<=s->(decide (x<s)=true->f.length=f.length/\d<=x/\x<(↑f.length:Int)/\f.length=f.length/\x.toNat<f.length/\(h<=d/\d<=j)/\f.length=M.length/\d<=x/\x<(↑M.length:Int)/\f.length=M.length/\x.toNat<M.length/\(ar=true->(h<=l/\l<=j)/\f.length=N.length/\d<=x/\x<(↑N.length:Int)/\f.length=N.length/\x.toNat<N.length/\au (N.set x.toNat (ac.fst,ac.snd.fst,ac.snd.snd)))/\(ar=false->au N))/\(decide (x<s)=false->(((w.same w/\y.same y/\z.same z/\A.same A/\H.same H/\G.same G/\(c (↑J.length:Int)).same ad/\S.same a9/\True)/\t.same t/\B.same B/\C.same C/\D.same D/\I.same I/\(g sF M 157 true).same (g sF Y 157 true)/\True)/\d<=d/\d<=E)/\∀(x:Int),let F:=fL (jR p f x.toNat);let Z:=bj J x.toNat d;let O:=x+l;let av:=c O;let ag:=bj W x.toNat sF.dflt;d<=x/\x<=E->(decide (x<E)=true->d<=x/\x<(↑J.length:Int)/\x.toNat<J.length/\d<=x/\x<(↑W.length:Int)/\x.toNat<W.length/\f.length=F.length/\d<=Z/\Z<(↑F.length:Int)/\f.length=F.length/\Z.toNat<F.length/\bV .i64 O/\((w.same w/\y.same y/\z.same z/\A.same A/\H.same H/\G.same G/\ad.same ad/\av.same av/\True)/\t.same t/\B.same B/\C.same C/\D.same D/\I.same I/\(g sF (F.set Z.toNat (ag.fst,ag.snd.fst,ag.snd.snd)) 157 true).same (g sF (fL (jR p f O.toNat)) 157 true)/\True)/\(d<=O/\O<=E)/\(E - O).toNat<(E - x).toNat)/\(decide (x<E)=false->(f.length=f.length/\bC p=d/\f.length=p.offers.length)/\(de an/\de ao)/\f.length=F.length/\f.length=F.length/\(n [q [δo true,m af.fst,e v af.snd.fst,e v af.snd.snd,am,e sF F],S]).same a7/\t.same t/\True)))))) (by kernel_rfl) ?_;simp only[vcs];have hz:jT p f=false->(γC [δo false,δo false,Φ (bk.i IntKind.i64) [],Φ (bk.i IntKind.i64) [],Φ (bk.i IntKind.i64) [],Φ (bk.i IntKind.i64) []]).same
   (γC [γD (jT p f),γD (ko p f).fst,Φ (bk.i IntKind.u32) (ko p f).snd.fst,Φ (bk.i IntKind.u32) (ko p f).snd.snd,Φ sF (q9 p f),Φ sF (kp p f)]):=λh=>by
  unfold ko q9 kp;simp only[h];rfl
 refine⟨hl,λh=>hz (by unfold jT;rw[decide_eq_false h];rfl),λh=>?_⟩;have hx0:kV p f=0:=ω.1 h;have hcl:bC p=0/\f.length=p.offers.length/\jQ f=true:=by
  unfold kV at hx0;split at hx0;·rename_i h1;exact absurd hx0 h1
  ·rename_i h1;split at hx0;·cases hx0
   ·rename_i h2;split at hx0;·rename_i h3;exact⟨ω.1 h1,ω.1 h2,h3⟩
    ·cases hx0
 obtain⟨hc,hln,hr⟩:=hcl;refine⟨⟨⟨hc,hln⟩,hr⟩,λh1=>⟨hz ?_,hx0.symm⟩,λh1=>?_⟩
 ·have hb:iD p f=false:=by
   cases hb:iD p f with
   |false=>rfl;|true=>rw[hb] at h1;exact absurd rfl h1
  unfold jT;rw[hb,Bool.and_false]
 ·have hb:iD p f=true:=by
   cases hb:iD p f with
   |true=>rfl;|false=>rw[hb] at h1;exact absurd (by simp) h1
  have hfx:iw p f:=⟨hc,hln,hb⟩;have hG:nf p f=((iC (jB p f)).1,((iC (jB p f)).2,bF f 0)):=by unfold nf;rw[if_pos hb]
  have hok:jT p f=true:=by unfold jT;rw[hb,decide_eq_true hx0];rfl
  have h0:(Ω 0:Rat)=0:=rfl;have h1':(Ω 1:Rat)=1:=rfl;simp only[hG,Va,Vb,h0,h1',kQ];have e1:(jB p f).1.length=nF f:=by
   show((bF f 0).map _).length=_;rw[γA]
  have e2:(jB p f).2.length=mF p:=by
   show((dT (mF p)).map _).length=_;rw[γA,jA]
  have LI:((jB p f).1,(jB p f).2)=jB p f:=rfl;simp only[LI,afg,e1,e2];have uN:∀{x y:List bO},x=y->(bq.row sF x 157 true).same (bq.row sF y 157 true):=by rintro _ _ rfl;rfl
  have hs0:=@yN p f 0;have hf0:=@fQ (jR p f 0);have hpt:=@Fj (fe p f) (nF f) (mF p);have hfp:=@fQ (gn (fe p f) (nF f) (mF p));have hcast:∀k:Nat,((k:Nat):Int).toNat=k:=λk=>γk k;have hnf:nF f=(bF f 0).length:=rfl;have hdl0:=@yI f 0;refine⟨⟨jB p f,rfl,aff hfx⟩,λh=>(by cases h),λ_=>⟨by omega,by omega,by omega,by omega,⟨⟨⟨trivial,by rw[hcast];rfl⟩,rfl,uN (by rw[Bg,hf0,hs0,hcast])⟩,by omega,by omega⟩,?_⟩⟩;rintro i ⟨i0,i1⟩;have qC:=@Bf (fL (jR p f 0)) i.toNat (false,([],[])) (by omega);refine⟨λhi=>?_,λhi=>?_⟩
  ·have hv:bj (fL (jR p f 0)) i.toNat (false,([],[]))=bu (if bj f i.toNat 0=1 then 1 else 0):=by rw[jv (by omega),afj (by omega)]
   have hset:∀x:bO,x=bu (if bj f i.toNat 0=1 then 1 else 0)->(fw (fL (jR p f 0)) i.toNat (false,([],[]))).set i.toNat x=fw (fL (jR p f 0)) (i+1).toNat (false,([],[])):=λx hx=>by
    have:=Bi (d:=fL (jR p f 0)) (j:=i.toNat) (z:=(false,([],[]))) (x:=x) (by omega) (hx.trans hv.symm);rw[show(i+1).toNat=i.toNat+1 by omega];exact this
   rw[γb];refine⟨i0,hi,by omega,by omega,by omega,i0,by omega,by omega,by omega,λh1=>⟨by omega,by omega,i0,by omega,by omega,by omega,by omega,uN ?_,by omega,by omega⟩,λh1=>⟨by omega,uN ?_,by omega,by omega⟩⟩
   ·rw[List.set_set];exact hset _ (by rw[if_pos h1])
   ·exact hset _ (by rw[if_neg h1])
  ·have hi2:i.toNat=(fL (jR p f 0)).length:=by omega
   rw[hi2,Bh];refine⟨⟨uN rfl,by omega,by omega⟩,?_⟩;rintro k ⟨k0,k1⟩;have hsk:=@yN p f k.toNat;have hfk:=@fQ (jR p f k.toNat);refine⟨λhk=>?_,λhk=>?_⟩
   ·have hm:=(mG.1 (cK (d:=0) (show k.toNat<(bF f 0).length by omega))).1;have hv:bj (fL (gn (fe p f) (nF f) (mF p))) k.toNat sF.dflt=bu (bj (gn (fe p f) (nF f) (mF p)) k.toNat 0):=jv (by omega);have hst:=@afi p f k.toNat (by omega);rw[hv];refine⟨k0,hk,by omega,k0,by omega,by omega,by omega,hm.1,by omega,by omega,by omega,by omega,uN ?_,by omega,by omega⟩;rw[yK,show(k+1).toNat=k.toNat+1 by omega,hst]
   ·have hk2:k.toNat=nF f:=by omega
    rw[hk2] at hsk hfk ⊢;have hab:=@LM p hc f f.length hln;rw[ψ] at hab;have hsa:Sz 1 ((kW p f:Int):Rat):=by
     unfold Sz;rw[Rat.num_intCast,Rat.den_intCast];omega
    have hsv:Sz 1000000 (fe p f).value:=by
     have:=(Fe hfx).wa (rY hfx).1;exact this.2.2.2
    refine⟨⟨hc,hln⟩,⟨ei hsa (by omega),ei hsv (by omega)⟩,by omega,by omega,?_,hx0.symm⟩;unfold ko q9 kp;simp only[hok,if_true,fb];rfl
def ME:cZ:=FK 119 (List bO) (.one (dW sF)) (λx a=>ff x/\pB a/\a.length=x.p.offers.length) (λx a=>lC.put ⟨eA (vL a),bZ ((eA (vL a)).map (oI x.p))⟩) λx _=>x
def kr (x:List Rat) (k:Nat):List Int:=(dT k).filter λi=>decide (0<bj x i.toNat 0)
def lN (p:bp) (l:List Int):Int:=bZ (l.map (oI p))
def afU (x:dG) (a:List bO):Nat->cB
 |3=>match x.en with
  |none=> .inv Int (λi=>⟨[(0,.ptr 0 0 28),(4,.ptr 3 0 2),(5,.ptr 5 0 2),(10,.row sF a),(11,.si .i64 a.length),(12,.si .i64 i)],
    x.yQ++[.cells [.sc (.slice none 0 0),.si .i64 0] 41 2 false,.row (.i .i64) (kr (vL a) i.toNat) 3 true,.cells [.ow 4 (kr (vL a) i.toNat).length 1,.si .i64 (lN x.p (kr (vL a) i.toNat))] 41 2 false]⟩)
    (λs=>iS s 12) (λi=>0<=i/\i<=a.length) (λi=>(a.length - i).toNat) λ_ _=> .look
  |some m=> .inv Int (λi=>⟨[(0,.ptr 0 0 28),(4,.ptr 4 0 2),(5,.ptr 6 0 2),(10,.row sF a),(11,.si .i64 a.length),(12,.si .i64 i)],
    x.yR m++[.cells [.sc (.slice none 0 0),.si .i64 0] 41 2 false,.row (.i .i64) (kr (vL a) i.toNat) 3 true,.cells [.ow 5 (kr (vL a) i.toNat).length 1,.si .i64 (lN x.p (kr (vL a) i.toNat))] 41 2 false]⟩)
    (λs=>iS s 12) (λi=>0<=i/\i<=a.length) (λi=>(a.length - i).toNat) λ_ _=> .look
 |_=> .look
theorem VC {x:List Rat} {i:Int} (i0:0<=i):kr x (i+1).toNat=if 0<bj x i.toNat 0 then kr x i.toNat++[i] else kr x i.toNat:=by
 unfold kr;rw[show(i+1).toNat=i.toNat+1 by omega,yD,List.filter_append,εv i0];grind
theorem VD {p:bp} {x:List Rat} {k:Nat} (a:bC p=0) (g:k<=p.offers.length):(kr x k).length<=160/\0<=lN p (kr x k)/\lN p (kr x k)<=160000000:=by
 have e:(kr x k).length<=k:=by
  have:=List.length_filter_le (λi:Int=>decide (0<bj x i.toNat 0)) (dT k);rw[jA] at this;exact this
 have c:=sO (dm a) (l:=(kr x k).map (oI p)) λy b=>by
  obtain⟨i,d,rfl⟩:=γg.1 b;have:=rV.1 (List.mem_filter.1 d).1;exact cK (by omega)
 rw[γA] at c;have f:=(dm a).2.1;grind[lN]
theorem VE {p:bp} {l:List Int} {i:Int}:lN p (l++[i])=lN p l+(oI p i).value:=by
 simp_all[lN,o8,bZ]
theorem h446:dK Tryz.prog ME:=by
 refine FM (L:=[uE]) (W:=[]) ME (λa=>afU a.1 a.2) (by simp) (by simpa using h99) ?_;rintro⟨⟨p,ch,val,found,en,k1,k2,most,err,prf,fx⟩,a⟩ ⟨hok,⟨l,hx,hla,hz⟩,hl⟩;simp only at hok hx hla hl;subst hx;have hc:bC p=0:=hok.f.c;have h160:=(dm hc).2.1;have hll:=@fQ l;have hl:(fL l).length=p.offers.length:=hl;cases en with
 |none=>
  refine bN (let a:=Θ .i64;let b:=bq.cells;let c:=bq.row;let d:=(0:Int);let e:=Φ;let f:=γ6;let g:=γS;let r:=g 0 0 28;let s:=g 3 0 2;let t:=g 5 0 2;let C:=(↑(fL l).length:Int);let k:=(↑(fL l).length:Int);let v:=a k;let w:=γp .i64 0;let D:=a 0;let j:=bk.i .i64;let m:=b [a p.supply.a0,a p.supply.a1,a p.supply.a2,a p.supply.a3,a p.supply.a4,a p.supply.a5,a p.opn.a0,a p.opn.a1,a p.opn.a2,a p.opn.a3,a p.opn.a4,a p.opn.a5,a p.cls.a0,a p.cls.a1,a p.cls.a2,a p.cls.a3,a p.cls.a4,a p.cls.a5,e j p.classes,e bk.off p.offers,e j ch,a val,γD found,SV.fn (Fn.func 82) [] [],f 1 k1 5,f 2 k2 1,a most,a err] 119 28 false;let n:=c ek prf 93 true;let o:=c j fx 3 true;let E:=SV.sc (Value.slice none 0 0);let y:=b [E,D] 41 2 false;let z:=kr (vL (fL l)) 0;(((r.same r/\s.same s/\t.same t/\(e sF (fL l)).same (e sF (fL l))/\(a C).same v/\w.same D/\True)/\m.same m/\n.same n/\o.same o/\(b [E,w] 41 2 false).same y/\(c j [] 3 true).same (c j z 3 true)/\(b [f 4 0 1,w] 41 2 false).same (b [f 4 z.length 1,a (lN p z)] 41 2 false)/\True)/\d<=d/\d<=k)/\∀(x:Int),let q:=x+(1:Int);let F:=a q;let A:=kr (vL (fL l)) q.toNat;let B:=bj (fL l) x.toNat sF.dflt;let G:=(B.fst,B.snd.fst,B.snd.snd);let h:=kr (vL (fL l)) x.toNat;let H:=h.length+1;let I:=lN p h+(bj p.offers x.toNat bk.off.dflt).value;let J:=λ(u:bq) (u_1:Nat) (u_2:Int) ↦bV .i64 q/\((r.same r/\s.same s/\t.same t/\(e sF (fL l)).same (e sF (fL l))/\v.same v/\F.same F/\True)/\m.same m/\n.same n/\o.same o/\y.same y/\u.same (c j A 3 true)/\(b [f 4 u_1 1,a u_2] 41 2 false).same (b [f 4 A.length 1,a (lN p A)] 41 2 false)/\True)/\(d<=q/\q<=k)/\(k - q).toNat<(k - x).toNat;let K:=λ(u:Bool) ↦decide (d<kN (ck G))=u;d<=x/\x<=k->(decide (x<k)=true->d<=x/\x<C/\x.toNat<(fL l).length/\de G/\(K true->1=1/\h.length=h.length/\H*8<=140737488355328/\H<=1000000000000/\d<=x/\x<(↑p.offers.length:Int)/\x.toNat<p.offers.length/\bV .i64 I/\J (c j (h++[x]) 3 true) (h++[x]).length I)/\(K false->J (c j h 3 true) h.length (lN p h)))/\(decide (x<k)=false->h.length=h.length/\h.length=h.length/\h.length=h.length/\(γC [e j h,a (lN p h)]).same (γC [e j (eA (vL (fL l))),a (bZ (γf (oI p) (eA (vL (fL l)))))])/\m.same m/\n.same n/\o.same o/\True)) (by kernel_rfl) ?_;simp only[vcs];have lM:∀{x y:List Int},x=y->(bq.row (.i .i64) x 3 true).same (bq.row (.i .i64) y 3 true):=by rintro _ _ rfl;rfl
  have hcI:∀{x y:List Int} {v w:Int},x=y->v=w->(bq.cells [.ow 4 x.length 1,.si .i64 v] 41 2 false).same (bq.cells [.ow 4 y.length 1,.si .i64 w] 41 2 false):=by rintro _ _ _ _ rfl rfl;rfl
  refine⟨⟨⟨rfl,lM rfl,rfl⟩,by omega,by omega⟩,?_⟩;rintro i ⟨i0,i1⟩;have hb:=@VD p (vL (fL l)) i.toNat hc (by omega);refine⟨λhi=>?_,λhi=>?_⟩
  ·have hv:bj (fL l) i.toNat sF.dflt=bu (bj l i.toNat 0):=jv (by omega);have hq:=hz _ (cK (d:=0) (show i.toNat<l.length by omega));have ho:=(py hc (i:=i) (by omega)).2.2.2;have hval:(bj p.offers i.toNat bk.off.dflt).value=(oI p i).value:=rfl;have hs:=@VC (vL (fL l)) i i0;rw[hv,hval];rw[mA] at hs hb ⊢;simp only[kQ,fb,yv];refine⟨i0,hi,by omega,ei hq (by omega),λh=>?_,λh=>?_⟩
   ·rw[if_pos h] at hs;rw[hs,VE];refine⟨?_,?_,i0,?_,?_,?_,?_,⟨lM rfl,hcI rfl rfl⟩,?_,?_⟩<;>omega
   ·rw[if_neg h] at hs;rw[hs];refine⟨?_,⟨lM rfl,hcI rfl rfl⟩,?_,?_⟩<;>omega
  ·rw[show i.toNat=(vL (fL l)).length by rw[mA];omega];rfl;|some m=>
  refine bN (let a:=Θ .i64;let b:=bq.cells;let c:=bq.row;let d:=(0:Int);let e:=Φ;let f:=γ6;let g:=γS;let t:=g 0 0 28;let v:=g 4 0 2;let w:=g 6 0 2;let E:=(↑(fL l).length:Int);let k:=(↑(fL l).length:Int);let y:=a k;let z:=γp .i64 0;let F:=a 0;let j:=bk.i .i64;let n:=b [a p.supply.a0,a p.supply.a1,a p.supply.a2,a p.supply.a3,a p.supply.a4,a p.supply.a5,a p.opn.a0,a p.opn.a1,a p.opn.a2,a p.opn.a3,a p.opn.a4,a p.opn.a5,a p.cls.a0,a p.cls.a1,a p.cls.a2,a p.cls.a3,a p.cls.a4,a p.cls.a5,e j p.classes,e bk.off p.offers,e j ch,a val,γD found,SV.fn (Fn.func 132) [] [g 1 0 1],f 2 k1 5,f 3 k2 1,a most,a err] 119 28 false;let o:=b [a m] 2 1 false;let q:=c ek prf 93 true;let r:=c j fx 3 true;let G:=SV.sc (Value.slice none 0 0);let A:=b [G,F] 41 2 false;let B:=kr (vL (fL l)) 0;(((t.same t/\v.same v/\w.same w/\(e sF (fL l)).same (e sF (fL l))/\(a E).same y/\z.same F/\True)/\n.same n/\o.same o/\q.same q/\r.same r/\(b [G,z] 41 2 false).same A/\(c j [] 3 true).same (c j B 3 true)/\(b [f 5 0 1,z] 41 2 false).same (b [f 5 B.length 1,a (lN p B)] 41 2 false)/\True)/\d<=d/\d<=k)/\∀(x:Int),let s:=x+(1:Int);let H:=a s;let C:=kr (vL (fL l)) s.toNat;let D:=bj (fL l) x.toNat sF.dflt;let I:=(D.fst,D.snd.fst,D.snd.snd);let h:=kr (vL (fL l)) x.toNat;let J:=h.length+1;let K:=lN p h+(bj p.offers x.toNat bk.off.dflt).value;let L:=λ(u:bq) (u_1:Nat) (u_2:Int) ↦bV .i64 s/\((t.same t/\v.same v/\w.same w/\(e sF (fL l)).same (e sF (fL l))/\y.same y/\H.same H/\True)/\n.same n/\o.same o/\q.same q/\r.same r/\A.same A/\u.same (c j C 3 true)/\(b [f 5 u_1 1,a u_2] 41 2 false).same (b [f 5 C.length 1,a (lN p C)] 41 2 false)/\True)/\(d<=s/\s<=k)/\(k - s).toNat<(k - x).toNat;let M:=λ(u:Bool) ↦decide (d<kN (ck I))=u;d<=x/\x<=k->(decide (x<k)=true->d<=x/\x<E/\x.toNat<(fL l).length/\de I/\(M true->1=1/\h.length=h.length/\J*8<=140737488355328/\J<=1000000000000/\d<=x/\x<(↑p.offers.length:Int)/\x.toNat<p.offers.length/\bV .i64 K/\L (c j (h++[x]) 3 true) (h++[x]).length K)/\(M false->L (c j h 3 true) h.length (lN p h)))/\(decide (x<k)=false->h.length=h.length/\h.length=h.length/\h.length=h.length/\(γC [e j h,a (lN p h)]).same (γC [e j (eA (vL (fL l))),a (bZ (γf (oI p) (eA (vL (fL l)))))])/\n.same n/\o.same o/\q.same q/\r.same r/\True)) (by kernel_rfl) ?_;simp only[vcs];have lM:∀{x y:List Int},x=y->(bq.row (.i .i64) x 3 true).same (bq.row (.i .i64) y 3 true):=by rintro _ _ rfl;rfl
  have hcI:∀{x y:List Int} {v w:Int},x=y->v=w->(bq.cells [.ow 5 x.length 1,.si .i64 v] 41 2 false).same (bq.cells [.ow 5 y.length 1,.si .i64 w] 41 2 false):=by rintro _ _ _ _ rfl rfl;rfl
  refine⟨⟨⟨rfl,lM rfl,rfl⟩,by omega,by omega⟩,?_⟩;rintro i ⟨i0,i1⟩;have hb:=@VD p (vL (fL l)) i.toNat hc (by omega);refine⟨λhi=>?_,λhi=>?_⟩
  ·have hv:bj (fL l) i.toNat sF.dflt=bu (bj l i.toNat 0):=jv (by omega);have hq:=hz _ (cK (d:=0) (show i.toNat<l.length by omega));have ho:=(py hc (i:=i) (by omega)).2.2.2;have hval:(bj p.offers i.toNat bk.off.dflt).value=(oI p i).value:=rfl;have hs:=@VC (vL (fL l)) i i0;rw[hv,hval];rw[mA] at hs hb ⊢;simp only[kQ,fb,yv];refine⟨i0,hi,by omega,ei hq (by omega),λh=>?_,λh=>?_⟩
   ·rw[if_pos h] at hs;rw[hs,VE];refine⟨?_,?_,i0,?_,?_,?_,?_,⟨lM rfl,hcI rfl rfl⟩,?_,?_⟩<;>omega
   ·rw[if_neg h] at hs;rw[hs];refine⟨?_,⟨lM rfl,hcI rfl rfl⟩,?_,?_⟩<;>omega
  ·rw[show i.toNat=(vL (fL l)).length by rw[mA];omega];rfl
def MF:bL:=⟨120,List bO,.one (dW sF),pB,λx=> .bH [.si .i64 ((jC (vL x)).getD 0),.sb (jC (vL x)).isSome]⟩
def ku:Option (Int×Rat)->bO
 |none=>(false,([],[]))
 |some (_,q)=>bu q
def wz:Option (Int×Rat)->Int
 |none=>0
 |some (i,_)=>i
def afV (x:List bO):Nat->cB
 |6=> .inv Int (λi=>⟨[(4,.ptr 0 0 3),(6,.ptr 1 0 3),(7,.ptr 2 0 2),(8,.ptr 3 0 3),(17,.row sF x),(18,.si .i64 x.length),(19,.si .i64 i)],
   [.cells [.sb (bu (fK false 1 2)).1,.row (.i .u32) (bu (fK false 1 2)).2.1,.row (.i .u32) (bu (fK false 1 2)).2.2] 157 3 false,
    .cells [.sb (bu ((1:Int):Rat)).1,.row (.i .u32) (bu ((1:Int):Rat)).2.1,.row (.i .u32) (bu ((1:Int):Rat)).2.2] 157 3 false,
    .cells [.sb (je (vL x) i.toNat).isSome,.si .i64 (wz (je (vL x) i.toNat))] 237 2 false,
    .cells [.sb (ku (je (vL x) i.toNat)).1,.row (.i .u32) (ku (je (vL x) i.toNat)).2.1,.row (.i .u32) (ku (je (vL x) i.toNat)).2.2] 157 3 false,.dead,.dead]⟩)
   (λs=>iS s 19) (λi=>0<=i/\i<=x.length) (λi=>(x.length - i).toNat) λ_ _=> .look
 |_=> .look
theorem afW {q:Rat} {k:Nat} (h:Sz k q):Sz k (nh q):=by
 grind[nh,Ek]
theorem VF:mkRat 1 2=(1 / 2:Rat):=by
 grind[Rat.mkRat_eq_div]
theorem VG:Sz 1 (1 / 2:Rat):=by
 grind[VF,Aw]
theorem MG {q:Rat} (h:Sz 1000 q):Sz 1002 (q - 1 / 2):=by
 rw[Rat.sub_eq_add_neg];exact SR h (j:=1) (Ek VG)
theorem h447:Holds Tryz.prog MF:=by
 refine cF (L:=[L9,qV,yl,uE,AA,Ey,yk]) MF afV (by simpa using⟨h451,h94,h407,h99,h97,h95,h130⟩) ?_;rintro(x:List bO) ⟨l,hx,hl,hz⟩;refine bN (let a:=bq.cells;let b:=Φ;let c:=(0:Int);let d:=Θ .i64;let e:=(9223372036854775807:Int);let f:=γD;let g:=(-9223372036854775808:Int);let h:=(1:Int);let j:=bV .i64;let k:=γS;let l:=δo false;let m:=(2:Int);let n:=bk.i .u32;let r:=k 0 0 3;let s:=k 1 0 3;let t:=k 2 0 2;let v:=k 3 0 3;let o:=(↑x.length:Int);let w:=d o;let R:=γp .i64 0;let y:=fK false h m;let z:=Ω h;let F:=je (vL x) 0;let B:=a [f (bu y).fst,b n (bu y).snd.fst,b n (bu y).snd.snd] 157 3 false;let C:=a [f (bu z).fst,b n (bu z).snd.fst,b n (bu z).snd.snd] 157 3 false;let S:=((bu z).fst,(bu z).snd.fst,(bu z).snd.snd);let T:=((bu y).fst,(bu y).snd.fst,(bu y).snd.snd);let U:=λ(u:Rat) ↦(a [f (bu u).fst,b n (bu u).snd.fst,b n (bu u).snd.snd] 157 3 false).same (a [f (bu u).fst,b n (bu u).snd.fst,b n (bu u).snd.snd] 157 3 false);((g<=h/\h<=e)/\c<m/\m<=e)/\(g<=h/\h<=e)/\0=0/\0=0/\(((r.same r/\s.same s/\t.same t/\v.same v/\(b sF x).same (b sF x)/\(d (↑x.length:Int)).same w/\R.same (d 0)/\True)/\U y/\U z/\(a [l,R] 237 2 false).same (a [f F.isSome,d (wz F)] 237 2 false)/\(a [l,b n [],b n []] 157 3 false).same (a [f (ku F).fst,b n (ku F).snd.fst,b n (ku F).snd.snd] 157 3 false)/\bq.dead.same bq.dead/\bq.dead.same bq.dead/\True)/\c<=c/\c<=o)/\∀(x_1:Int),let p:=x_1+h;let D:=d p;let G:=je (vL x) p.toNat;let N:=a [f G.isSome,d (wz G)] 237 2 false;let A:=bj x x_1.toNat sF.dflt;let H:=(A.fst,A.snd.fst,A.snd.snd);let E:=bu (ck H - ck T);let I:=(E.fst,E.snd.fst,E.snd.snd);let V:=(bu (-ck I)).fst;let K:=(bu (-ck I)).snd;let O:=a [f (ku G).fst,b n (ku G).snd.fst,b n (ku G).snd.snd] 157 3 false;let q:=je (vL x) x_1.toNat;let W:=d (wz q);let X:=(V,K.fst,K.snd);let L:=((ku q).fst,(ku q).snd.fst,(ku q).snd.snd);let M:=q.isSome==false&&(decide (wz q=c)&&true);let Y:=j p/\((r.same r/\s.same s/\t.same t/\v.same v/\(b sF x).same (b sF x)/\w.same w/\D.same D/\True)/\B.same B/\C.same C/\(a [δo true,d x_1] 237 2 false).same N/\(a [f V,b n K.fst,b n K.snd] 157 3 false).same O/\bq.dead.same bq.dead/\bq.dead.same bq.dead/\True)/\(c<=p/\p<=o)/\(o - p).toNat<(o - x_1).toNat;let Z:=j p/\((r.same r/\s.same s/\t.same t/\v.same v/\(b sF x).same (b sF x)/\w.same w/\D.same D/\True)/\B.same B/\C.same C/\(a [δo true,d x_1] 237 2 false).same N/\(a [f E.fst,b n E.snd.fst,b n E.snd.snd] 157 3 false).same O/\bq.dead.same bq.dead/\bq.dead.same bq.dead/\True)/\(c<=p/\p<=o)/\(o - p).toNat<(o - x_1).toNat;let J:=j p/\((r.same r/\s.same s/\t.same t/\v.same v/\(b sF x).same (b sF x)/\w.same w/\D.same D/\True)/\B.same B/\C.same C/\(a [f q.isSome,W] 237 2 false).same N/\(a [f (ku q).fst,b n (ku q).snd.fst,b n (ku q).snd.snd] 157 3 false).same O/\bq.dead.same bq.dead/\bq.dead.same bq.dead/\True)/\(c<=p/\p<=o)/\(o - p).toNat<(o - x_1).toNat;let P:=de I;let Q:=de H;let a0:=λ(u:Bool) ↦decide (jc (ck X) (ck L)<c)=u;let a1:=λ(u:Bool) ↦decide (jc (ck I) (ck L)<c)=u;let a2:=λ(u:Bool) ↦decide (kN (ck I)<c)=u;let a3:=λ(u:Bool) ↦decide (c<=jc (ck H) (ck S))=u;let a4:=λ(u:Bool) ↦decide (kN (ck H)<=c)=u;let a5:=λ(u:Bool) ↦(!okF H)=u;c<=x_1/\x_1<=o->(decide (x_1<o)=true->c<=x_1/\x_1<(↑x.length:Int)/\x_1.toNat<x.length/\((bA A.snd.fst/\bA A.snd.snd)/\γn A.snd.fst<=1000000/\γn A.snd.snd<=1000000)/\(a5 true->J)/\(a5 false->Q/\(a4 true->J)/\(a4 false->(Q/\de S)/\(a3 true->J)/\(a3 false->(Q/\de T)/\P/\(a2 true->P/\(M=true->Y)/\(M=false->(de X/\de L)/\(a0 true->Y)/\(a0 false->J)))/\(a2 false->(M=true->Z)/\(M=false->(P/\de L)/\(a1 true->Z)/\(a1 false->J)))))))/\(decide (x_1<o)=false->(SV.bH [W,f q.isSome]).same (SV.bH [d ((jC (vL x)).getD c),f (jC (vL x)).isSome]))) (by kernel_rfl) ?_;simp only[vcs];subst hx;rw[fQ] at hl;have hh:fK false 1 2=1 / 2:=VF;simp only[mA,fQ,hh];have hbr:∀{b c:Option (Int×Rat)},b=c->(bq.cells [.sb b.isSome,.si .i64 (wz b)] 237 2 false).same (bq.cells [.sb c.isSome,.si .i64 (wz c)] 237 2 false):=by rintro _ _ rfl;rfl
 have hbd:∀{b c:Option (Int×Rat)},b=c->(bq.cells [.sb (ku b).1,.row (.i .u32) (ku b).2.1,.row (.i .u32) (ku b).2.2] 157 3 false).same (bq.cells [.sb (ku c).1,.row (.i .u32) (ku c).2.1,.row (.i .u32) (ku c).2.2] 157 3 false):=by rintro _ _ rfl;rfl
 have f1:de (bu (Ω 1)):=ei (k:=1) (by unfold Sz;decide) (by omega);have f2:de (bu (1 / 2)):=ei VG (by omega);refine⟨⟨⟨by omega,by omega⟩,by omega,by omega⟩,⟨by omega,by omega⟩,⟨⟨rfl,rfl⟩,by omega,by omega⟩,?_⟩;rintro i ⟨i0,i1⟩;refine⟨λhi=>?_,λhi=>?_⟩
 ·have hv:bj (fL l) i.toNat sF.dflt=bu (bj l i.toNat 0):=jv (by omega);have hq:=hz _ (cK (d:=0) (show i.toNat<l.length by omega));have hs:je l (i+1).toNat=if 0<bj l i.toNat 0/\bj l i.toNat 0<1 then(match je l i.toNat with
   |none=>some (i,nh (bj l i.toNat 0 - 1 / 2))
   |some (j,d)=>if nh (bj l i.toNat 0 - 1 / 2)<d then some (i,nh (bj l i.toNat 0 - 1 / 2)) else some (j,d)) else je l i.toNat:=by
   rw[show(i+1).toNat=i.toNat+1 by omega];conv=>lhs;unfold je
   rw[εv i0];cases je l i.toNat<;>rfl
  have hbs:∀j d,je l i.toNat=some (j,d)->de (bu d):=λj d h=>by
   obtain⟨h1,h2,h3⟩:=LX h;rw[h3];exact ei (afW (MG (hz _ (cK (by omega))))) (by omega)
  rw[hv,hs];generalize bj l i.toNat 0=q at*;generalize je l i.toNat=B at*;simp only[kQ,fb];obtain⟨_,⟨u1,u2,u3⟩,⟨u4,u5,u6⟩⟩:=nJ q;obtain⟨m1,m2⟩:=qW hq;have hok:=Vy q;have fq:de (bu q):=ei hq (by omega);have fd:de (bu (q - 1 / 2)):=ei (MG hq) (by omega);have fn:de (bu (-(q - 1 / 2))):=ei (Ek (MG hq)) (by omega);refine⟨i0,hi,by omega,⟨⟨u1,u4⟩,by omega,by omega⟩,λh=>absurd hok (by rw[show okF (bu q)=false from h];simp),λ_=>⟨fq,λh1=>?_,λh1=>⟨⟨fq,f1⟩,λh2=>?_,λh2=>?_⟩⟩⟩
  ·rw[if_neg (λh=>by have:=yv.2 h.1;omega)];exact⟨by omega,⟨hbr rfl,hbd rfl⟩,by omega⟩
  ·rw[if_neg (λh=>by have:=uO.2 h.2;have e:jc q (Ω 1)=jc q 1:=rfl;omega)];exact⟨by omega,⟨hbr rfl,hbd rfl⟩,by omega⟩
  ·have hp:0<q/\q<1:=⟨yv.1 (by omega),uO.1 (by have e:jc q (Ω 1)=jc q 1:=rfl;omega)⟩;rw[if_pos hp];refine⟨⟨fq,f2⟩,fd,λh3=>?_,λh3=>?_⟩
   ·have ha:nh (q - 1 / 2)= -(q - 1 / 2):=by unfold nh;rw[if_pos (Ku.1 h3)]
    rw[ha];cases B with
    |none=>exact⟨fd,λ_=>⟨by omega,⟨rfl,rfl⟩,by omega⟩,λh=>absurd h (by decide)⟩;|some b=>
     obtain⟨j,d⟩:=b;dsimp only;refine⟨fd,λh=>absurd h.1 ζK,λ_=>⟨⟨fn,hbs j d rfl⟩,λh5=>?_,λh5=>?_⟩⟩
     ·rw[if_pos (uO.1 (by rw[<-fb d];exact h5))];exact⟨by omega,⟨rfl,rfl⟩,by omega⟩
     ·rw[if_neg (λh=>h5 (by rw[<-fb d] at h;exact uO.2 h))];exact⟨by omega,⟨hbr rfl,hbd rfl⟩,by omega⟩
   ·have ha:nh (q - 1 / 2)=q - 1 / 2:=by unfold nh;rw[if_neg (λh=>h3 (Ku.2 h))]
    rw[ha];cases B with
    |none=>exact⟨λ_=>⟨by omega,⟨rfl,rfl⟩,by omega⟩,λh=>absurd h (by decide)⟩;|some b=>
     obtain⟨j,d⟩:=b;dsimp only;refine⟨λh=>absurd h.1 ζK,λ_=>⟨⟨fd,hbs j d rfl⟩,λh5=>?_,λh5=>?_⟩⟩
     ·rw[if_pos (uO.1 (by rw[<-fb d];exact h5))];exact⟨by omega,⟨rfl,rfl⟩,by omega⟩
     ·rw[if_neg (λh=>h5 (by rw[<-fb d] at h;exact uO.2 h))];exact⟨by omega,⟨hbr rfl,hbd rfl⟩,by omega⟩
 ·rw[show i.toNat=l.length by omega];unfold jC;cases je l l.length<;>exact⟨rfl,rfl⟩
noncomputable def wA (n:Nat):cZ:=FK 84 Int (.one (dV .i64)) (λx a=>ff x/\(0<=a/\a<x.prf.length)/\nF x.fx<n) (λ_ _=> .bH []) λx a=>x.upd (dD x.p (cu x.en) x.most (nF x.fx) x.s a x.fx)
noncomputable def FP (n:Nat):cZ:=FK 121 (Int×Int×Int) (.cons (dV .i64) (.cons (dV .i64) (.one (dV .i64)))) (λx a=>ff x/\(0<=a.1/\a.1<x.prf.length)/\(0<=a.2.1/\a.2.1<x.fx.length)/\bj x.fx a.2.1.toNat 0=0/\(a.2.2=1\/a.2.2= -1)/\nF (x.fx.set a.2.1.toNat a.2.2)<n) (λ_ _=> .bH []) λx a=>x.upd (dD x.p (cu x.en) x.most (nF (x.fx.set a.2.1.toNat a.2.2)) x.s a.1 (x.fx.set a.2.1.toNat a.2.2))
theorem ahi {L:List bL} {W:List cZ} (c:cZ) (Λ:c.α->Nat->cB) (i:∀c∈W,dK Tryz.prog c) (e:∀c∈L,Holds Tryz.prog c)
  
  (h:∀a,c.dom a->Vc (Bo (lZ L (fU W) oY oZ gB) (Λ a) (fG c.f) (c.put a) (c.st a) λv s=>v.same (c.res a)/\jk s (c.out a))) (j:(gB c.f).isSome=true:=by kernel_rfl) (b:∀a,(c.put a).length=(fG c.f).params:=by intro _;kernel_rfl) (d:k9 c.f W=none:=by kernel_rfl):dK Tryz.prog c:=
 λa g=>Vx c pT i e (vJ j) b a d (h a g).out
theorem afX {L:List bL} {W:List cZ} (c:cZ) (F:fj) (Λ:c.α->Nat->cB) (i:∀c∈W,dK Tryz.prog c) (e:∀c∈L,Holds Tryz.prog c)
  
  (h:∀a,c.dom a->Vc (Bo (lZ L (fU W) oY oZ gB) (Λ a) F (c.put a) (c.st a) λv s=>v.same (c.res a)/\jk s (c.out a))) (j:gB c.f=some F:=by kernel_rfl) (b:∀a,(c.put a).length=F.params:=by intro _;kernel_rfl) (d:k9 c.f W=none:=by kernel_rfl):dK Tryz.prog c:=
 λa g=>Vx c pT i e j b a d (h a g).out
theorem ff.set {x:dG} (h:ff x) {k:Nat} {d:Int} (a:d=1\/d= -1):ff ⟨x.p,x.ch,x.val,x.found,x.en,x.k1,x.k2,x.most,x.err,x.prf,x.fx.set k d⟩:=
 ⟨⟨h.f.c,by rw[γb];exact h.f.l,Vq h.f.r (by omega)⟩,h.k1,by rw[γb];exact h.k2,h.v0,h.v1,h.m0,h.m1,h.l,h.c⟩
theorem afY {f:List Int} {k:Nat} {d:Int} (b:k<f.length) (a:bj f k 0=0):(f.set k d).set k 0=f:=by
 rw[cM b] at a;rw[List.set_set,<-a,List.set_getElem_self]
theorem afZ {n:Nat} (hV:dK Tryz.prog (wA n)):dK Tryz.prog (FP n):=by
 refine afX (L:=[]) (W:=[wA n]) (FP n) (fG 121) lk (by simpa using hV) (by simp) ?_;rintro⟨⟨p,ch,val,found,en,k1,k2,most,err,prf,fx⟩,a,k,d⟩ ⟨hok,ha,hk,h0,hd,hn⟩;simp only at hok ha hk h0 hd hn;have e2:k2=fx.length:=hok.k2;have hb:=afY (d:=d) (show k.toNat<fx.length by omega) h0;have hr:∀{x y:List Int},x=y->(bq.row (.i .i64) x 3 true).same (bq.row (.i .i64) y 3 true):=by rintro _ _ rfl;rfl
 cases en with
 |none=>
  have hs:=hok.set (k:=k.toNat) hd;refine bN (let b:=Θ .i64;let c:=(0:Int);let e:=bq.row;let f:=Φ;let g:=fx.set k.toNat d;let j:=bk.i .i64;let h:=dD p (cu none) most (nF g) (cO.mk ch val found prf err) a g;let l:=bq.cells [b p.supply.a0,b p.supply.a1,b p.supply.a2,b p.supply.a3,b p.supply.a4,b p.supply.a5,b p.opn.a0,b p.opn.a1,b p.opn.a2,b p.opn.a3,b p.opn.a4,b p.opn.a5,b p.cls.a0,b p.cls.a1,b p.cls.a2,b p.cls.a3,b p.cls.a4,b p.cls.a5,f j p.classes,f bk.off p.offers,f j h.ch,b h.val,γD h.found,SV.fn (Fn.func 82) [] [],γ6 1 h.prf.length 5,γ6 2 k2 1,b most,b h.err] 119 28 false;let m:=e ek h.prf 93 true;k2=fx.length/\c<=k/\k<(↑fx.length:Int)/\k2=fx.length/\k.toNat<fx.length/\(ff (dG.mk p ch val found none k1 k2 most err prf g)/\(c<=a/\a<(↑prf.length:Int))/\nF g<n)/\k2=g.length/\c<=k/\k<(↑g.length:Int)/\k2=g.length/\k.toNat<g.length/\(SV.bH []).same (SV.bH [])/\l.same l/\m.same m/\(e j (g.set k.toNat c) 3 true).same (e j fx 3 true)/\True) (by kernel_rfl) ?_;conv=>zeta
  rw[γb];exact⟨e2,hk.1,hk.2,e2,by omega,⟨hs,ha,hn⟩,e2,hk.1,hk.2,e2,by omega,rfl,rfl,rfl,hr hb,trivial⟩;|some m=>
  have hs:=hok.set (k:=k.toNat) hd;refine bN (let b:=Θ .i64;let c:=(0:Int);let e:=bq.row;let f:=Φ;let g:=fx.set k.toNat d;let j:=bk.i .i64;let h:=dD p (cu (some m)) most (nF g) (cO.mk ch val found prf err) a g;let l:=bq.cells [b p.supply.a0,b p.supply.a1,b p.supply.a2,b p.supply.a3,b p.supply.a4,b p.supply.a5,b p.opn.a0,b p.opn.a1,b p.opn.a2,b p.opn.a3,b p.opn.a4,b p.opn.a5,b p.cls.a0,b p.cls.a1,b p.cls.a2,b p.cls.a3,b p.cls.a4,b p.cls.a5,f j p.classes,f bk.off p.offers,f j h.ch,b h.val,γD h.found,SV.fn (Fn.func 132) [] [γS 1 0 1],γ6 2 h.prf.length 5,γ6 3 k2 1,b most,b h.err] 119 28 false;let o:=bq.cells [b m] 2 1 false;let q:=e ek h.prf 93 true;k2=fx.length/\c<=k/\k<(↑fx.length:Int)/\k2=fx.length/\k.toNat<fx.length/\(ff (dG.mk p ch val found (some m) k1 k2 most err prf g)/\(c<=a/\a<(↑prf.length:Int))/\nF g<n)/\k2=g.length/\c<=k/\k<(↑g.length:Int)/\k2=g.length/\k.toNat<g.length/\(SV.bH []).same (SV.bH [])/\l.same l/\o.same o/\q.same q/\(e j (g.set k.toNat c) 3 true).same (e j fx 3 true)/\True) (by kernel_rfl) ?_;conv=>zeta
  rw[γb];exact⟨e2,hk.1,hk.2,e2,by omega,⟨hs,ha,hn⟩,e2,hk.1,hk.2,e2,by omega,rfl,rfl,rfl,rfl,hr hb,trivial⟩
theorem VH {p:bp} {en:Int->Bool} {most:Int} {f:List Int} (j:eX p f) {c b:cO->Int->List Int->cO} {s:cO} {a:Int}
  (h:∀k d:Int,(0<=k/\k<f.length)->bj f k.toNat 0=0->(d=1\/d= -1)->∀s a,c s a (f.set k.toNat d)=b s a (f.set k.toNat d)):fy p en most c s a f=fy p en most b s a f:=by
 unfold fy;split;·rfl
 split;·rfl
 rename_i o;have l:iD p f=true:=by simp_all
 split;·rfl
 split;·rfl
 rename_i k n;split;·rfl
 obtain⟨e,i,g⟩:=tg n;rw[r7] at e;have m:bj f k.toNat 0=0:=tf (j.ok l) j.r (by omega) i g;simp_all
theorem Bt {p:bp} {en:Int->Bool} {most:Int} {f:List Int} (e:eX p f) {s:cO} {a:Int}:dD p en most (nF f) s a f=fy p en most (λs a g=>dD p en most (nF g) s a g) s a f:=by
 have j:∀k d:Int,(0<=k/\k<f.length)->bj f k.toNat 0=0->(d=1\/d= -1)->nF f=nF (f.set k.toNat d)+1:=λk d c b i=>mI c b (by omega);cases h:nF f with
 |zero=>exact VH e λk d c b i=>by grind;|succ n=>
  refine VH e λk d c b i s a=>?_;grind
section
variable {p:bp} {en:Int->Bool} {most:Int} {f:List Int} {s O:cO} {a k:Int}
theorem Bv (b:eX p f) (h:s.err≠0\/s.found=true):dD p en most (nF f) s a f=s:=by
 simp_all[Bt,fy]
theorem VI (c:eX p f) (h:¬(s.err≠0\/s.found=true)) (b:iD p f=false):dD p en most (nF f) s a f={s with prf:=s.prf.set a.toNat FA}:=by
 simp_all[Bt,fy]
theorem yS (c:eX p f) (h:¬(s.err≠0\/s.found=true)) (b:iD p f=true) (d:dj p en s f=O) (e:jS p f<((O.val+1:Int):Rat)):dD p en most (nF f) s a f={O with prf:=O.prf.set a.toNat (LW p f)}:=by
 simp_all[Bt,fy]
theorem qh (b:eX p f) (h:¬(s.err≠0\/s.found=true)) (d:iD p f=true) (c:dj p en s f=O) (g:¬jS p f<((O.val+1:Int):Rat)) (e:jC (dy p f)=none\/most<(O.prf.length:Int)+2):dD p en most (nF f) s a f={O with err:=12}:=by
 subst c;rw[Bt b];unfold fy;grind
theorem yT (d:eX p f) (h:¬(s.err≠0\/s.found=true)) (b:iD p f=true) (g:dj p en s f=O) (i:¬jS p f<((O.val+1:Int):Rat)) (c:jC (dy p f)=some k) (e:¬most<(O.prf.length:Int)+2):
  dD p en most (nF f) s a f=dD p en most (nF (f.set k.toNat (-1))) (dD p en most (nF (f.set k.toNat 1)) (gy O a k) (O.prf.length+1) (f.set k.toNat 1)) O.prf.length (f.set k.toNat (-1)):=by
 simp_all[Bt,fy,if_neg]
end
theorem ff.VJ {x:dG} (h:ff x):ff (x.upd (dj x.p (cu x.en) x.s x.fx)):=by
 obtain⟨d,i,b,a,g⟩:=@FC x.p (cu x.en) x.s x.fx;obtain⟨m,j,k⟩:=Vr h.f;have b:x.val<=(dj x.p (cu x.en) x.s x.fx).val:=b;have a:(dj x.p (cu x.en) x.s x.fx).val=x.val\/(dj x.p (cu x.en) x.s x.fx).val=(pA x.p x.fx).value:=a;have n:=h.v0;have o:=h.v1;refine⟨h.f,rfl,h.k2,?_,?_,h.m0,h.m1,?_,?_⟩
 ·show 0<=(dj x.p (cu x.en) x.s x.fx).val;omega
 ·show(dj x.p (cu x.en) x.s x.fx).val<=_;omega
 ·show(dj x.p (cu x.en) x.s x.fx).prf.length<=_;rw[d];exact h.l
 ·show(dj x.p (cu x.en) x.s x.fx).ch.length<=_;rcases g with e|e;·rw[e];exact h.c
  ·rw[e];omega
theorem ff.vis {x:dG} (h:ff x) {f:List Int} (i:eX x.p f) {n:Nat} {a:Int}:ff (x.upd (dD x.p (cu x.en) x.most n x.s a f)):=by
 obtain⟨m,g,b,d,k,q⟩:=@sa x.p (cu x.en) x.most n x.s a f i;have b:x.val<=(dD x.p (cu x.en) x.most n x.s a f).val:=b;have d:(dD x.p (cu x.en) x.most n x.s a f).val=x.val\/(dD x.p (cu x.en) x.most n x.s a f).val<=160000000:=d;have r:=h.v0;have t:=h.v1;have o:=h.m1;have j:=h.l;refine⟨h.f,rfl,h.k2,?_,?_,h.m0,h.m1,?_,?_⟩
 ·show 0<=(dD x.p (cu x.en) x.most n x.s a f).val;omega
 ·show(dD x.p (cu x.en) x.most n x.s a f).val<=_;omega
 ·show(dD x.p (cu x.en) x.most n x.s a f).prf.length<=_;rcases g with e|e;·omega
  ·rw[e];exact j
 ·show(dD x.p (cu x.en) x.most n x.s a f).ch.length<=_;rcases k with e|e;·rw[e];exact h.c
  ·omega
theorem ff.spl {x:dG} (h:ff x) (b:¬x.most<(x.prf.length:Int)+2) {k:Nat} {l:List ra} (a:k=l.length) (d:l.length=x.prf.length+2):ff ⟨x.p,x.ch,x.val,x.found,x.en,k,x.k2,x.most,x.err,l,x.fx⟩:=
 ⟨h.f,a,h.k2,h.v0,h.v1,h.m0,h.m1,by have:=h.m1;grind,h.c⟩
def iE (p:bp):List Int:=ε p.offers.length 0
theorem yU {n:Nat}:nF (ε n 0)=n:=by
 have e:bF (ε n 0) 0=dT n:=by
  simp_all[bF,rV,cM]
 grind[jA]
theorem qj {p:bp} (a:bC p=0):eX p (iE p) where
 c:=a;l:=γR;r:=by
  unfold jQ;rw[Ξ];intro x b;rw[List.eq_of_mem_replicate b];decide
def jD (p:bp) (c:List Int):cO:=dU (cu none) (dU (cu none) ⟨c,dH p c,false,[zN],0⟩ (gx p c)) (gx p (jP p))
noncomputable def iF (p:bp) (c:List Int) (most:Int):cO:=dD p (cu none) most p.offers.length (jD p c) 0 (iE p)
noncomputable def kx (p:bp) (c:List Int) (most:Int):Int:=if dc p c≠0 then dc p c else if most<1\/65536<most then 4 else(iF p c most).err
def jE (p:bp) (m:Int):cO:=dU (cu (some m)) ⟨[],m - 1,false,[zN],0⟩ (gx p (jP p))
noncomputable def fR (p:bp) (m most:Int):cO:=dD p (cu (some m)) most p.offers.length (jE p m) 0 (iE p)
noncomputable def iT (p:bp) (m most:Int):Int:=if bC p≠0 then bC p else if most<1\/65536<most then 4 else if m<=0 then 0 else if(fR p m most).found=true then 0 else(fR p m most).err
noncomputable def jU (p:bp) (m most:Int):Bool:=decide (iT p m most=0)&&(decide (m<=0)||(fR p m most).found)
noncomputable def oG (p:bp) (m most:Int):Alloc:=if jU p m most=true/\0<m then⟨(fR p m most).ch,(fR p m most).val⟩ else⟨[],0⟩
theorem VK {p:bp} (a:bC p=0) {t:List Int} (h:dc p t=0):dH p t<=(cz p).value:=by
 have b:=(uo a).1 h;obtain⟨_,d⟩:=uL h;have c:=IV (dm a) b.1 (decide_eq_true b.2);rw[yP a d];exact c
theorem VL {p:bp} (a:bC p=0):∃t,dc p t=0/\dH p t=(cz p).value:=by
 obtain⟨t,c,f,e⟩:=IW (dm a);have b:dc p t=0:=(uo a).2 ⟨c,of_decide_eq_true f⟩;obtain⟨_,d⟩:=uL b;refine⟨t,b,?_⟩;rw[yP a d,e];rfl
theorem af0 {p:bp} {l:List Int} (h:fu p.offers.length l):FD (iE p) l:=by
 have b:∀i:Int,0<=i/\i<p.offers.length->bj (iE p) i.toNat 0=0:=λi a=>by
  grind[iE,cM]
 refine⟨λi a=>by rw[b i (h.2 i a)];omega,λi a=>?_⟩;grind[mG,iE]
theorem VM {p:bp} {v:Int} {t:List ra} {a lo f:Nat} (b:bC p=0) (h:mJ p v t a (iE p) lo f):(cz p).value<=v:=by
 obtain⟨l,d,e⟩:=VL b;obtain⟨_,c⟩:=uL d;rw[<-e,yP b c];exact h.sound (qj b) c ((Vs b c).1 d) (af0 c)
theorem yV {en:Int->Bool} {G:List Int->Int->Bool->Prop} {p:bp} (h:∀c w b d w',G c w b->dc p d=0->dH p d=w'->w<w'->G d w' (b||en w')) {s:cO} {a:Alloc} (e:G s.ch s.val s.found) (f:dc p a.chosen=0) (g:dH p a.chosen=a.value):G (dU en s a).ch (dU en s a).val (dU en s a).found:=by
 grind[dU]
theorem Bw {p:bp} (a:bC p=0):dc p (gx p (jP p)).chosen=0/\dH p (gx p (jP p)).chosen=(gx p (jP p)).value:=by
 simp_all[Le,UF]
theorem MH {p:bp} (d:bC p=0) {c:List Int} (h:dc p c=0) {most:Int} {G:List Int->Int->Bool->Prop} (a:∀c w b e w',G c w b->dc p e=0->dH p e=w'->w<w'->G e w' (b||cu none w')) (i:G c (dH p c) false):G (iF p c most).ch (iF p c most).val (iF p c most).found:=by
 have f:=Le d h;have g:=Bw d;exact Vv a (qj d) (yV a (yV a i f.2.1 f.2.2.1) g.1 g.2)
theorem MI {p:bp} {c:List Int}:(jD p c).prf=[zN]/\(jD p c).err=0/\dH p c<=(jD p c).val:=by
 grind[jD,dU]
theorem VN {p:bp} (d:bC p=0) {c:List Int} (i:dc p c=0) {most:Int} (C:1<=most):
  ((iF p c most).err=0\/(iF p c most).err=12)/\((iF p c most).err=0->(dc p (iF p c most).ch=0/\dH p (iF p c most).ch=(iF p c most).val)/\(iF p c most).val=(cz p).value/\(iF p c most).prf.length<=most/\mJ p (cz p).value (iF p c most).prf 0 (iE p) 1 (iF p c most).prf.length/\(dH p c=(cz p).value->(iF p c most).ch=c))/\
   (((1+2^(p.offers.length+1):Nat):Int)<=most+2->(iF p c most).err=0):=by
 obtain⟨y,l,A⟩:=@MI p c;have t:(jD p c).prf.length=1:=by rw[y];rfl
 have q:=@sa p (cu none) most p.offers.length (jD p c) 0 (iE p) (qj d);have j:(iF p c most).found=false:=by
  refine(MH d i (most:=most) (G:=λ_ _ b=>b=false) (λc w b g o h _ _ _=>?_) rfl);rw[h];rfl
 refine⟨?_,λx=>?_,λB=>?_⟩
 ·have:=q.2.2.2.2.2;rw[l] at this;exact this
 ·have v:=MH d i (most:=most) (G:=λc w _=>dc p c=0/\dH p c=w) (λc w b g o _ k m _=>⟨k,m⟩) ⟨i,rfl⟩;have u:=MH d i (most:=most) (G:=λg w _=>dH p c<=w/\(w=dH p c->g=c)) (λD w b g o h _ _ r=>⟨by omega,λe=>by omega⟩) ⟨Int.le_refl _,λ_=>rfl⟩;have z:=Vu (p:=p) (en:=cu none) (most:=most) (n:=p.offers.length) (s:=jD p c) (a:=0) (qj d) (by show nF (ε _ 0)<=_;grind[yU]) (by rw[t];omega) x j;have k:=VM d z.1;have m:=VK d v.1;grind[iF]
 ·refine(Vw (p:=p) (en:=cu none) (most:=most) (n:=p.offers.length) (s:=jD p c) (a:=0) (f:=iE p) (qj d) ?_ l ?_).1;all_goals simp_all[yU,iE]
theorem af2 {p:bp} (i:bC p=0) {m most:Int}:((fR p m most).found=false->(fR p m most).ch=[]/\(fR p m most).val=m - 1)/\((fR p m most).found=true->dc p (fR p m most).ch=0/\dH p (fR p m most).ch=(fR p m most).val/\m<=(fR p m most).val):=by
 have j:=Bw i;have g:∀(c:List Int) (w:Int) (b:Bool) (e:List Int) (d:Int),((m - 1<=w)/\(b=false->c=[]/\w=m - 1)/\(b=true->dc p c=0/\dH p c=w/\m<=w))->dc p e=0->dH p e=d->w<d->((m - 1<=d)/\((b||cu (some m) d)=false->e=[]/\d=m - 1)/\((b||cu (some m) d)=true->dc p e=0/\dH p e=d/\m<=d)):=by
  intro c w b e d h l q k;have o:cu (some m) d=true:=by
   show decide (m<=d)=true;grind
  grind
 have:=Vv (p:=p) (en:=cu (some m)) (most:=most) g (n:=p.offers.length) (s:=jE p m) (a:=0) (f:=iE p) (qj i) (yV g (s:=⟨[],m - 1,false,[zN],0⟩) ⟨Int.le_refl _,λ_=>⟨rfl,rfl⟩,(λh=>by cases h)⟩ j.1 j.2);exact this.2
theorem MJ {p:bp} {m:Int}:(jE p m).prf=[zN]/\(jE p m).err=0:=by
 grind[jE,FB]
theorem VO {p:bp} (b:bC p=0) {m most:Int}:
  ((fR p m most).err=0\/(fR p m most).err=12)/\((fR p m most).found=true->m<=(cz p).value)/\((fR p m most).found=false->(fR p m most).err=0->(cz p).value<m)/\
   (((1+2^(p.offers.length+1):Nat):Int)<=most+2->(fR p m most).err=0):=by
 obtain⟨i,d⟩:=@MJ p m;have h:(jE p m).prf.length=1:=by rw[i];rfl
 have g:=@sa p (cu (some m)) most p.offers.length (jE p m) 0 (iE p) (qj b);obtain⟨r,l⟩:=@af2 p b m most;refine⟨?_,λc=>?_,λc k=>?_,λo=>?_⟩
 ·have:=g.2.2.2.2.2;rw[d] at this;exact this
 ·obtain⟨e,q,t⟩:=l c;have:=VK b e;omega
 ·have j:=Vu (p:=p) (en:=cu (some m)) (most:=most) (n:=p.offers.length) (s:=jE p m) (a:=0) (qj b) (by show nF (ε _ 0)<=_;grind[yU]) (by rw[h];omega) k c;have e:(cz p).value<=(fR p m most).val:=VM b j.1;grind
 ·refine(Vw (p:=p) (en:=cu (some m)) (most:=most) (n:=p.offers.length) (s:=jE p m) (a:=0) (f:=iE p) (qj b) ?_ d ?_).1;all_goals simp_all[yU,iE]
theorem af4 {p:bp} {c:List Int} {m:Int} (b:dc p c=0) (a:1<=m/\m<=65536):kx p c m=(iF p c m).err:=by
 simp_all[kx,if_neg]
theorem af5 {p:bp} (d:bC p=0) {c:List Int} {m:Int} (b:dc p c=0) (e:m<=65536) (f:((1+2^(p.offers.length+1):Nat):Int)<=m+2):kx p c m=0:=by
 have a:=Nat.one_le_two_pow (n:=p.offers.length+1);grind[af4,VN]
theorem MK {p:bp} (a:bC p=0) {m k:Int} (d:k<=65536) (b:((1+2^(p.offers.length+1):Nat):Int)<=k+2):iT p m k=0:=by
 have c:2<=2^(p.offers.length+1):=by grind
 unfold iT;rw[if_neg (by simp[a]),if_neg (by omega)];grind[VO]
theorem VP {p:bp} (a:bC p=0) {m k:Int} (b:iT p m k=0):jU p m k=true↔m<=(cz p).value:=by
 have j:0<=(cz p).value:=by
  obtain⟨t,d,e⟩:=VL a;obtain⟨_,c⟩:=uL d;rw[<-e,yP a c];exact(sO (dm a) (l:=t.map (oI p)) λx g=>by
   obtain⟨i,f,rfl⟩:=γg.1 g;have:=c.2 i f;exact cK (by omega)).1
 have h:=@VO p a m k;unfold jU;rw[b,decide_eq_true rfl,Bool.true_and,Bool.or_eq_true,decide_eq_true_eq];unfold iT at b;grind
theorem VQ {W:Int} (a: -9223372036854775808<=W) (b:W<=9223372036854775807):Sz 2 (W:Rat):=by
 unfold Sz;simp;omega
theorem af6 {p:bp} {f:List Int} (h:jT p f=true):iw p f:=by
 unfold jT at h;rw[Bool.and_eq_true,decide_eq_true_eq] at h;obtain⟨a,b⟩:=h;unfold kV at a;split at a;·omega
 ·rename_i d;split at a;·cases a
  ·rename_i c;exact⟨ω.1 d,ω.1 c,b⟩
theorem VR {p:bp} {f:List Int} (h:jT p f=true):Sz 1000002 (jS p f):=by
 have a:=af6 h;have c:=@LM p a.1 f f.length a.2.1;rw[ψ] at c;have d:Sz 1 ((kW p f:Int):Rat):=by
  unfold Sz;rw[Rat.num_intCast,Rat.den_intCast];omega
 have b:Sz 1000000 (fe p f).value:=((Fe a).wa (rY a).1).2.2.2;exact(SR d b).mono (by omega)
theorem af7 {n:Nat} (hD:dK Tryz.prog (FP n)):dK Tryz.prog (wA (n+1)):=by
 refine ZV (L:=[qV,AA,Mc,MF]) (W:=[MD,ME,Bq,FP n]) (wA (n+1)) (fG 84) lk (by simpa using⟨h390w,h446,h439,hD⟩) (by simpa using⟨h94,h97,h445,h447⟩) ?_;rintro⟨⟨p,ch,val,found,en,k1,k2,most,err,prf,fx⟩,a⟩ ⟨hok,ha,hn⟩;simp only at hok ha hn;have e1:k1=prf.length:=hok.k1;have e2:k2=fx.length:=hok.k2;subst e1;subst e2;have hf:eX p fx:=hok.f;have h160:=(dm hf.c).2.1;have hfl:fx.length=p.offers.length:=hf.l;have hfe:=hf.e;have hfo:=hf.jT;have hv0:0<=val:=hok.v0;have hv1:val<=9223372036854775806:=hok.v1;have hm0:1<=most:=hok.m0;have hm1:most<=65536:=hok.m1;have hpl:prf.length<=65536:=hok.l;rcases en with _|m
 ·refine bN (let b:=Θ .i64;let c:=(0:Int);let d:=(1:Int);let e:=bq.cells;let f:=SV.bH;let g:=bq.row;let h:=bV .i64;let j:=(-9223372036854775808:Int);let k:=(-1:Int);let l:=(9223372036854775807:Int);let m:=(2:Int);let o:=Φ;let q:=γD;let r:=γ6;let v:=vL (kp p fx);let x:=b p.supply.a0;let y:=b p.supply.a1;let z:=b p.supply.a2;let A:=b p.supply.a3;let B:=b p.supply.a4;let C:=b p.supply.a5;let D:=b p.opn.a0;let E:=b p.opn.a1;let F:=b p.opn.a2;let G:=b p.opn.a3;let H:=b p.opn.a4;let I:=b p.opn.a5;let J:=b p.cls.a0;let K:=b p.cls.a1;let L:=b p.cls.a2;let M:=b p.cls.a3;let N:=b p.cls.a4;let O:=b p.cls.a5;let U:=bk.i .i64;let P:=o U p.classes;let Q:=o bk.off p.offers;let ag:=o U ch;let ah:=b val;let R:=SV.fn (Fn.func 82) [] [];let ai:=r 1 prf.length 5;let V:=r 2 fx.length 1;let W:=b most;let aw:=[V,W,γp .i64 12];let ax:=cO.mk ch val found prf err;let a7:=dD p (cu none) most (nF fx) ax a fx;let X:=e [x,y,z,A,B,C,D,E,F,G,H,I,J,K,L,M,N,O,P,Q,o U a7.ch,b a7.val,q a7.found,R,r 1 a7.prf.length 5,V,W,b a7.err] 119 28 false;let an:=g ek prf 93 true;let Y:=g ek a7.prf 93 true;let t:=g U fx 3 true;let Z:=(↑prf.length:Int);let ay:=decide (most<Z+m);let az:=prf.length+2;let a8:=Z+d;let ao:=(c,c,c,[]);let aj:=[(c,ao),(c,ao)];let z53:Nat:=(prf++aj).length;let w:=(jC v).getD c;let ap:=(prf++aj).set a.toNat (m,w,Z,a8,[]);let a9:=w.toNat;let ac:=fx.set a9 d;let S:=dD p (cu none) most (nF ac) (cO.mk ch val found ap err) a8 ac;let ad:=fx.set a9 k;let aa:=dD p (cu none) most (nF ad) S Z ad;let ak:=((ko p fx).fst,(ko p fx).snd.fst,(ko p fx).snd.snd);let al:=val+d;let aq:=bu (Ω al);let aA:=(aq.fst,aq.snd.fst,aq.snd.snd);let aB:=jc (ck ak) (ck aA);let aC:=decide (aB<c);let aD:=(d,c,c,c,q9 p fx);let s:=dU (cu none) ax (Alloc.mk (eA v) (bZ (γf (oI p) (eA v))));let z69:Nat:=(s.prf++aj).length;let ae:=s.prf.length;let am:=s.val+d;let ar:=bu (Ω am);let ab:=(↑ae:Int);let aE:=decide (err≠c);let aF:=decide (kV p fx≠c);let a6:=s.prf.length;let af:=ab+d;let au:=(s.prf++aj).set a.toNat (m,w,ab,af,[]);let T:=dD p (cu none) most (nF ac) (cO.mk s.ch s.val s.found au s.err) af ac;let aG:=dD p (cu none) most (nF ad) T ab ad;let aT:=let aH:=(f []).same (f [])/\(e (x::y::z::A::B::C::D::E::F::G::H::I::J::K::L::M::N::O::P::Q::ag::ah::q found::R::ai::aw) 119 28 false).same X/\an.same Y/\t.same t/\True;pB (kp p fx)/\((!(jC v).isSome)=true->aH)/\((!(jC v).isSome)=false->h (Z+m)/\(ay=true->aH)/\(ay=false->2=2/\prf.length=prf.length/\az*56<=140737488355328/\az<=1000000000000/\h a8/\z53=z53/\c<=a/\a<(↑z53:Int)/\z53=z53/\a.toNat<z53/\h a8/\(ff (dG.mk p ch val found none z53 fx.length most err ap fx)/\(c<=a8/\a8<(↑ap.length:Int))/\(c<=w/\w<(↑fx.length:Int))/\bj fx a9 c=c/\(d=d\/d=k)/\nF ac<n)/\(ff (dG.mk p S.ch S.val S.found none S.prf.length fx.length most S.err S.prf fx)/\(c<=Z/\Z<(↑S.prf.length:Int))/\(c<=w/\w<(↑fx.length:Int))/\bj fx a9 c=c/\(k=d\/k=k)/\nF ad<n)/\(f []).same (f [])/\(e [x,y,z,A,B,C,D,E,F,G,H,I,J,K,L,M,N,O,P,Q,o U aa.ch,b aa.val,q aa.found,R,r 1 aa.prf.length 5,V,W,b aa.err] 119 28 false).same X/\(g ek aa.prf 93 true).same Y/\t.same t/\True));let aI:=(de ak/\de aA)/\(aC=true->prf.length=prf.length/\c<=a/\a<(↑prf.length:Int)/\prf.length=prf.length/\a.toNat<prf.length/\(f []).same (f [])/\(e [x,y,z,A,B,C,D,E,F,G,H,I,J,K,L,M,N,O,P,Q,ag,ah,q found,R,ai,V,W,b err] 119 28 false).same X/\(g ek (prf.set a.toNat aD) 93 true).same Y/\t.same t/\True)/\(aC=false->aT);let aJ:=z69=z69;let aK:=(f []).same (f [])/\(e (x::y::z::A::B::C::D::E::F::G::H::I::J::K::L::M::N::O::P::Q::o U s.ch::b s.val::q s.found::R::r 1 ae 5::aw) 119 28 false).same X/\(g ek s.prf 93 true).same Y/\t.same t/\True;let aL:=(f []).same (f [])/\(e [x,y,z,A,B,C,D,E,F,G,H,I,J,K,L,M,N,O,P,Q,ag,ah,q found,R,ai,V,W,b err] 119 28 false).same X/\an.same Y/\t.same t/\True;let aM:=λ(u:cO) (u_1:bq) ↦(f []).same (f [])/\(e [x,y,z,A,B,C,D,E,F,G,H,I,J,K,L,M,N,O,P,Q,o U u.ch,b u.val,q u.found,R,r 1 u.prf.length 5,V,W,b u.err] 119 28 false).same X/\u_1.same Y/\t.same t/\True;let aN:=λ(u:dG) (u_1:Int) (u_2:Nat) (u_3:Int) ↦ff u/\(c<=u_1/\u_1<(↑u_2:Int))/\(c<=w/\w<(↑fx.length:Int))/\bj fx a9 c=c/\(u_3=d\/u_3=k)/\nF (fx.set a9 u_3)<n;let aO:=λ(u:Int) (u_1:bq) ↦(f []).same (f [])/\(e [x,y,z,A,B,C,D,E,F,G,H,I,J,K,L,M,N,O,P,Q,ag,ah,q found,R,ai,V,W,b u] 119 28 false).same X/\u_1.same Y/\t.same t/\True;let aP:=λ(u:Bool) ↦decide (jc (ck ak) (ck (ar.fst,ar.snd.fst,ar.snd.snd))<c)=u;let aQ:=λ(u:Bool) ↦decide (c<=aB)=u;let aR:=λ(u:Int) ↦let av:=bu (Ω (u+d));de ak/\de (av.fst,av.snd.fst,av.snd.snd);let aS:=λ(u:Bool) ↦decide (most<ab+m)=u;(aE=true->aL)/\(aE=false->(found=true->aL)/\(found=false->(fx.length=fx.length/\fx.length<=1000000000000)/\(aF=true->aO (kV p fx) an)/\(aF=false->((!jT p fx)=true->prf.length=prf.length/\c<=a/\a<(↑prf.length:Int)/\prf.length=prf.length/\a.toNat<prf.length/\aO err (g ek (prf.set a.toNat ((3:Int),ao)) 93 true))/\((!jT p fx)=false->h al/\(j<=al/\al<=l)/\aR val/\(aQ true->pB (kp p fx)/\(ng v=true->(ff (dG.mk p ch val found none prf.length fx.length most err prf fx)/\pB (kp p fx)/\(kp p fx).length=p.offers.length)/\prf.length=prf.length/\h am/\(j<=am/\am<=l)/\aR s.val/\(aP true->ae=a6/\c<=a/\a<(↑a6:Int)/\ae=a6/\a.toNat<a6/\aM s (g ek (s.prf.set a.toNat aD) 93 true))/\(aP false->pB (kp p fx)/\((!(jC v).isSome)=true->aK)/\((!(jC v).isSome)=false->h (ab+m)/\(aS true->aK)/\(aS false->2=2/\ae=a6/\(a6+2)*56<=140737488355328/\a6+2<=1000000000000/\h af/\aJ/\c<=a/\a<(↑z69:Int)/\aJ/\a.toNat<z69/\h af/\aN (dG.mk p s.ch s.val s.found none z69 fx.length most s.err au fx) af au.length d/\aN (dG.mk p T.ch T.val T.found none T.prf.length fx.length most T.err T.prf fx) ab T.prf.length k/\aM aG (g ek aG.prf 93 true)))))/\(ng v=false->aI))/\(aQ false->aI)))))) (by kernel_rfl) ?_;simp only[vcs];refine⟨λh=>by rw[Bv hf (.inl h)];exact⟨rfl,rfl⟩,λh0=>⟨λh=>by rw[Bv hf (.inr h)];exact⟨rfl,rfl⟩,λh1=>⟨by omega,λh=>absurd hfe h,λ_=>⟨λh=>?_,λhb=>?_⟩⟩⟩⟩
  ·have hs:¬((⟨ch,val,found,prf,err⟩:cO).err≠0\/(⟨ch,val,found,prf,err⟩:cO).found=true):=by
    rintro(h|h);·exact h0 h
    ·rw[show found=true from h] at h1;cases h1
   rw[VI hf hs (by rw[<-hfo];exact h)];refine⟨ha.1,ha.2,by omega,?_,rfl⟩;simp only[γb];rfl
  ·have hs:¬((⟨ch,val,found,prf,err⟩:cO).err≠0\/(⟨ch,val,found,prf,err⟩:cO).found=true):=by
    rintro(h|h);·exact h0 h
    ·rw[show found=true from h] at h1;cases h1
   have hbf:iD p fx=true:=by rw[<-hfo];exact hb
   have hfix:=hf.ok hbf;have eB:ko p fx=bu (jS p fx):=by unfold ko;rw[if_pos hb]
   have eS:kp p fx=fL (dy p fx):=by unfold kp dy;rw[if_pos hb]
   have eP:q9 p fx=fL (yM p fx):=by unfold q9;rw[if_pos hb]
   have hsl:(dy p fx).length=fx.length:=r7;have oS:pB (fL (dy p fx)):=⟨dy p fx,rfl,by rw[fQ];omega,λq hq=>by
    obtain⟨i,hi,rfl⟩:=δb hq;have:=(Fz hfix hf.r (i:=i) (by omega)).2.2;rwa [cM hi] at this⟩;have fB:de (bu (jS p fx)):=ei (VR hb) (by omega);have fI:∀v:Int,0<=v->v<=9223372036854775807->de (bu (Ω v)):=λv h0 h1=>ei (VQ (by omega) h1) (by omega);have hcv:∀v:Int,jc (jS p fx) (Ω v)<0↔jS p fx<((v:Int):Rat):=λv=>uO;simp only[eB,eS,eP,mA,kQ,fb];have hcm:eA (dy p fx)=(pA p fx).chosen:=rfl;refine⟨by omega,by omega,⟨fB,fI _ (by omega) (by omega)⟩,λhge=>⟨oS,λhi=>?_,λhi=>?_⟩,λhlt=>?_⟩
   ·have hO:dj p (cu none) ⟨ch,val,found,prf,err⟩ fx=dU (cu none) ⟨ch,val,found,prf,err⟩ ⟨eA (dy p fx),bZ ((eA (dy p fx)).map (oI p))⟩:=by
     unfold dj;rw[if_pos ⟨ζi.1 λh=>absurd ((hcv (val+1)).2 h) (Int.not_lt.2 hge),hi⟩];rfl
    have hok':ff (dG.upd ⟨p,ch,val,found,none,prf.length,fx.length,most,err,prf,fx⟩ (dj p (cu none) ⟨ch,val,found,prf,err⟩ fx)):=hok.VJ;rw[hO] at hok';obtain⟨e1,e2,_⟩:=@FB (cu none) ⟨ch,val,found,prf,err⟩ ⟨eA (dy p fx),bZ ((eA (dy p fx)).map (oI p))⟩;generalize dU (cu none) ⟨ch,val,found,prf,err⟩ ⟨eA (dy p fx),bZ ((eA (dy p fx)).map (oI p))⟩=O at*;obtain⟨ch',val',found',prf',tj⟩:=O;have e1:prf=prf':=Eq.symm e1;have e2:err=tj:=Eq.symm e2;subst e1;subst e2;have w0:0<=val':=hok'.v0;have w1:val'<=9223372036854775806:=hok'.v1;dsimp only;refine⟨⟨hok,oS,by rw[fQ];omega⟩,by omega,by omega,⟨fB,fI _ (by omega) (by omega)⟩,?_⟩;refine⟨λh=>?_,λh=>⟨oS,λhk=>?_,λhk=>⟨by omega,λhm=>?_,λhm=>?_⟩⟩⟩
    ·rw[yS hf hs hbf hO ((hcv _).1 h)];refine⟨ha.1,ha.2,by omega,?_,rfl⟩;simp only[γb];rfl
    ·rw[qh hf hs hbf hO (λh'=>h ((hcv _).2 h')) (.inl (γ2.1 hk |>γQ.1))];exact⟨rfl,rfl⟩
    ·rw[qh hf hs hbf hO (λh'=>h ((hcv _).2 h')) (.inr hm)];exact⟨rfl,rfl⟩
    ·obtain⟨k,hk'⟩:=γo.1 hk;rw[yT hf hs hbf hO (λh'=>h ((hcv _).2 h')) hk' hm];simp only[hk',γ4];obtain⟨hk1,hk2,hk3⟩:=tg hk';rw[hsl] at hk1;have hk0:bj fx k.toNat 0=0:=tf hfix hf.r (by omega) hk2 hk3;have n1:=mI hk1 hk0 (d:=1) (by omega);have n2:=mI hk1 hk0 (d:= -1) (by omega);have hl2:((prf++[zN,zN]).set a.toNat (kq k prf.length)).length=prf.length+2:=by rw[γb,κ];rfl
     have hl1:(prf++[zN,zN]).length=prf.length+2:=by rw[κ];rfl
     have o1:=ff.spl (x:=⟨p,ch',val',found',none,prf.length,fx.length,most,tj,prf,fx⟩) hok' (k:=(prf++[zN,zN]).length) (l:=(prf++[zN,zN]).set a.toNat (kq k prf.length)) hm (by rw[hl1,hl2]) hl2;have o2:=o1.vis (f:=fx.set k.toNat 1) (hf.set (by omega)) (n:=nF (fx.set k.toNat 1)) (a:=(prf.length:Int)+1);have o3:=(@sa p (cu none) most (nF (fx.set k.toNat 1)) (gy ⟨ch',val',found',prf,tj⟩ a k) ((prf.length:Int)+1) (fx.set k.toNat 1) (hf.set (by omega))).1;have o4:prf.length+2<=(dD p (cu none) most (nF (fx.set k.toNat 1)) (gy ⟨ch',val',found',prf,tj⟩ a k) ((prf.length:Int)+1) (fx.set k.toNat 1)).prf.length:=by rw[<-hl2];exact o3
     have q1:a<((prf++[zN,zN]).length:Int):=by omega
     have q3:(prf.length:Int)+1<(((prf++[zN,zN]).set a.toNat (kq k prf.length)).length:Int):=by rw[hl2];omega
     have q2:a.toNat<(prf++[zN,zN]).length:=by omega
     exact⟨by omega,by omega,by omega,ha.1,q1,q2,by omega,⟨o1,⟨by omega,q3⟩,hk1,hk0,.inl trivial,by omega⟩,⟨o2,⟨by omega,εV.2 (γr (by omega) o4)⟩,hk1,hk0,.inr trivial,by omega⟩,rfl,rfl⟩
   ·have hO:dj p (cu none) ⟨ch,val,found,prf,err⟩ fx=⟨ch,val,found,prf,err⟩:=by
     unfold dj;rw[if_neg (λh=>by rw[h.2] at hi;cases hi)]
    refine⟨⟨fB,fI _ (by omega) (by omega)⟩,?_⟩;refine⟨λh=>?_,λh=>⟨oS,λhk=>?_,λhk=>⟨by omega,λhm=>?_,λhm=>?_⟩⟩⟩
    ·rw[yS hf hs hbf hO ((hcv _).1 h)];refine⟨ha.1,ha.2,by omega,?_,rfl⟩;simp only[γb];rfl
    ·rw[qh hf hs hbf hO (λh'=>h ((hcv _).2 h')) (.inl (γ2.1 hk |>γQ.1))];exact⟨rfl,rfl⟩
    ·rw[qh hf hs hbf hO (λh'=>h ((hcv _).2 h')) (.inr hm)];exact⟨rfl,rfl⟩
    ·obtain⟨k,hk'⟩:=γo.1 hk;rw[yT hf hs hbf hO (λh'=>h ((hcv _).2 h')) hk' hm];simp only[hk',γ4];obtain⟨hk1,hk2,hk3⟩:=tg hk';rw[hsl] at hk1;have hk0:bj fx k.toNat 0=0:=tf hfix hf.r (by omega) hk2 hk3;have n1:=mI hk1 hk0 (d:=1) (by omega);have n2:=mI hk1 hk0 (d:= -1) (by omega);have hl2:((prf++[zN,zN]).set a.toNat (kq k prf.length)).length=prf.length+2:=by rw[γb,κ];rfl
     have hl1:(prf++[zN,zN]).length=prf.length+2:=by rw[κ];rfl
     have o1:=ff.spl hok (k:=(prf++[zN,zN]).length) (l:=(prf++[zN,zN]).set a.toNat (kq k prf.length)) hm (by rw[hl1,hl2]) hl2;have o2:=o1.vis (f:=fx.set k.toNat 1) (hf.set (by omega)) (n:=nF (fx.set k.toNat 1)) (a:=(prf.length:Int)+1);have o3:=(@sa p (cu none) most (nF (fx.set k.toNat 1)) (gy ⟨ch,val,found,prf,err⟩ a k) ((prf.length:Int)+1) (fx.set k.toNat 1) (hf.set (by omega))).1;have o4:prf.length+2<=(dD p (cu none) most (nF (fx.set k.toNat 1)) (gy ⟨ch,val,found,prf,err⟩ a k) ((prf.length:Int)+1) (fx.set k.toNat 1)).prf.length:=by rw[<-hl2];exact o3
     have q1:a<((prf++[zN,zN]).length:Int):=by omega
     have q3:(prf.length:Int)+1<(((prf++[zN,zN]).set a.toNat (kq k prf.length)).length:Int):=by rw[hl2];omega
     have q2:a.toNat<(prf++[zN,zN]).length:=by omega
     exact⟨by omega,by omega,by omega,ha.1,q1,q2,by omega,⟨o1,⟨by omega,q3⟩,hk1,hk0,.inl trivial,by omega⟩,⟨o2,⟨by omega,εV.2 (γr (by omega) o4)⟩,hk1,hk0,.inr trivial,by omega⟩,rfl,rfl⟩
   ·have hO:dj p (cu none) ⟨ch,val,found,prf,err⟩ fx=⟨ch,val,found,prf,err⟩:=by
     unfold dj;rw[if_neg (λh=>ζi.2 h.1 ((hcv (val+1)).1 (Int.not_le.1 hlt)))]
    refine⟨⟨fB,fI _ (by omega) (by omega)⟩,?_⟩;refine⟨λh=>?_,λh=>⟨oS,λhk=>?_,λhk=>⟨by omega,λhm=>?_,λhm=>?_⟩⟩⟩
    ·rw[yS hf hs hbf hO ((hcv _).1 h)];refine⟨ha.1,ha.2,by omega,?_,rfl⟩;simp only[γb];rfl
    ·rw[qh hf hs hbf hO (λh'=>h ((hcv _).2 h')) (.inl (γ2.1 hk |>γQ.1))];exact⟨rfl,rfl⟩
    ·rw[qh hf hs hbf hO (λh'=>h ((hcv _).2 h')) (.inr hm)];exact⟨rfl,rfl⟩
    ·obtain⟨k,hk'⟩:=γo.1 hk;rw[yT hf hs hbf hO (λh'=>h ((hcv _).2 h')) hk' hm];simp only[hk',γ4];obtain⟨hk1,hk2,hk3⟩:=tg hk';rw[hsl] at hk1;have hk0:bj fx k.toNat 0=0:=tf hfix hf.r (by omega) hk2 hk3;have n1:=mI hk1 hk0 (d:=1) (by omega);have n2:=mI hk1 hk0 (d:= -1) (by omega);have hl2:((prf++[zN,zN]).set a.toNat (kq k prf.length)).length=prf.length+2:=by rw[γb,κ];rfl
     have hl1:(prf++[zN,zN]).length=prf.length+2:=by rw[κ];rfl
     have o1:=ff.spl hok (k:=(prf++[zN,zN]).length) (l:=(prf++[zN,zN]).set a.toNat (kq k prf.length)) hm (by rw[hl1,hl2]) hl2;have o2:=o1.vis (f:=fx.set k.toNat 1) (hf.set (by omega)) (n:=nF (fx.set k.toNat 1)) (a:=(prf.length:Int)+1);have o3:=(@sa p (cu none) most (nF (fx.set k.toNat 1)) (gy ⟨ch,val,found,prf,err⟩ a k) ((prf.length:Int)+1) (fx.set k.toNat 1) (hf.set (by omega))).1;have o4:prf.length+2<=(dD p (cu none) most (nF (fx.set k.toNat 1)) (gy ⟨ch,val,found,prf,err⟩ a k) ((prf.length:Int)+1) (fx.set k.toNat 1)).prf.length:=by rw[<-hl2];exact o3
     have q1:a<((prf++[zN,zN]).length:Int):=by omega
     have q3:(prf.length:Int)+1<(((prf++[zN,zN]).set a.toNat (kq k prf.length)).length:Int):=by rw[hl2];omega
     have q2:a.toNat<(prf++[zN,zN]).length:=by omega
     exact⟨by omega,by omega,by omega,ha.1,q1,q2,by omega,⟨o1,⟨by omega,q3⟩,hk1,hk0,.inl trivial,by omega⟩,⟨o2,⟨by omega,εV.2 (γr (by omega) o4)⟩,hk1,hk0,.inr trivial,by omega⟩,rfl,rfl⟩
 ·refine bN (let b:=Θ .i64;let c:=(0:Int);let d:=bq.cells;let e:=(1:Int);let f:=SV.bH;let g:=bq.row;let h:=bV .i64;let j:=(-9223372036854775808:Int);let k:=(-1:Int);let l:=(9223372036854775807:Int);let o:=(2:Int);let q:=Φ;let r:=γD;let s:=γ6;let ai:=((ko p fx).fst,(ko p fx).snd.fst,(ko p fx).snd.snd);let aj:=val+e;let ap:=bu (Ω aj);let ay:=(ap.fst,ap.snd.fst,ap.snd.snd);let az:=jc (ck ai) (ck ay);let aA:=decide (az<c);let z:=b p.supply.a0;let A:=b p.supply.a1;let B:=b p.supply.a2;let C:=b p.supply.a3;let D:=b p.supply.a4;let E:=b p.supply.a5;let F:=b p.opn.a0;let G:=b p.opn.a1;let H:=b p.opn.a2;let I:=b p.opn.a3;let J:=b p.opn.a4;let K:=b p.opn.a5;let L:=b p.cls.a0;let M:=b p.cls.a1;let N:=b p.cls.a2;let O:=b p.cls.a3;let P:=b p.cls.a4;let Q:=b p.cls.a5;let W:=bk.i .i64;let R:=q W p.classes;let S:=q bk.off p.offers;let ak:=q W ch;let al:=b val;let T:=SV.fn (Fn.func 132) [] [γS 1 0 1];let am:=s 2 prf.length 5;let X:=s 3 fx.length 1;let Y:=b most;let aB:=cO.mk ch val found prf err;let a9:=dD p (cu (some m)) most (nF fx) aB a fx;let Z:=d [z,A,B,C,D,E,F,G,H,I,J,K,L,M,N,O,P,Q,R,S,q W a9.ch,b a9.val,r a9.found,T,s 2 a9.prf.length 5,X,Y,b a9.err] 119 28 false;let v:=d [b m] 2 1 false;let aC:=(e,c,c,c,q9 p fx);let a6:=g ek a9.prf 93 true;let w:=g W fx 3 true;let x:=vL (kp p fx);let aD:=[X,Y,γp .i64 12];let aq:=g ek prf 93 true;let a7:=(↑prf.length:Int);let aE:=decide (most<a7+o);let aF:=prf.length+2;let aa:=a7+e;let ar:=(c,c,c,[]);let an:=[(c,ar),(c,ar)];let z61:Nat:=(prf++an).length;let y:=(jC x).getD c;let au:=(prf++an).set a.toNat (o,y,a7,aa,[]);let ab:=y.toNat;let ae:=fx.set ab e;let U:=dD p (cu (some m)) most (nF ae) (cO.mk ch val found au err) aa ae;let af:=fx.set ab k;let ac:=dD p (cu (some m)) most (nF af) U a7 af;let t:=dU (cu (some m)) aB (Alloc.mk (eA x) (bZ (γf (oI p) (eA x))));let ag:=t.prf.length;let z71:Nat:=(t.prf++an).length;let ao:=t.val+e;let av:=bu (Ω ao);let ad:=(↑ag:Int);let aG:=decide (err≠c);let aH:=decide (kV p fx≠c);let a8:=t.prf.length;let ah:=ad+e;let aw:=(t.prf++an).set a.toNat (o,y,ad,ah,[]);let V:=dD p (cu (some m)) most (nF ae) (cO.mk t.ch t.val t.found aw t.err) ah ae;let aI:=dD p (cu (some m)) most (nF af) V ad af;let aV:=let aJ:=(f []).same (f [])/\(d (z::A::B::C::D::E::F::G::H::I::J::K::L::M::N::O::P::Q::R::S::ak::al::r found::T::am::aD) 119 28 false).same Z/\v.same v/\aq.same a6/\w.same w/\True;(aA=true->prf.length=prf.length/\c<=a/\a<(↑prf.length:Int)/\prf.length=prf.length/\a.toNat<prf.length/\(f []).same (f [])/\(d [z,A,B,C,D,E,F,G,H,I,J,K,L,M,N,O,P,Q,R,S,ak,al,r found,T,am,X,Y,b err] 119 28 false).same Z/\v.same v/\(g ek (prf.set a.toNat aC) 93 true).same a6/\w.same w/\True)/\(aA=false->pB (kp p fx)/\((!(jC x).isSome)=true->aJ)/\((!(jC x).isSome)=false->h (a7+o)/\(aE=true->aJ)/\(aE=false->2=2/\prf.length=prf.length/\aF*56<=140737488355328/\aF<=1000000000000/\h aa/\z61=z61/\c<=a/\a<(↑z61:Int)/\z61=z61/\a.toNat<z61/\h aa/\(ff (dG.mk p ch val found (some m) z61 fx.length most err au fx)/\(c<=aa/\aa<(↑au.length:Int))/\(c<=y/\y<(↑fx.length:Int))/\bj fx ab c=c/\(e=e\/e=k)/\nF ae<n)/\(ff (dG.mk p U.ch U.val U.found (some m) U.prf.length fx.length most U.err U.prf fx)/\(c<=a7/\a7<(↑U.prf.length:Int))/\(c<=y/\y<(↑fx.length:Int))/\bj fx ab c=c/\(k=e\/k=k)/\nF af<n)/\(f []).same (f [])/\(d [z,A,B,C,D,E,F,G,H,I,J,K,L,M,N,O,P,Q,R,S,q W ac.ch,b ac.val,r ac.found,T,s 2 ac.prf.length 5,X,Y,b ac.err] 119 28 false).same Z/\v.same v/\(g ek ac.prf 93 true).same a6/\w.same w/\True)));let aK:=(f []).same (f [])/\(d (z::A::B::C::D::E::F::G::H::I::J::K::L::M::N::O::P::Q::R::S::q W t.ch::b t.val::r t.found::T::s 2 ag 5::aD) 119 28 false).same Z/\v.same v/\(g ek t.prf 93 true).same a6/\w.same w/\True;let aL:=z71=z71;let aM:=(f []).same (f [])/\(d [z,A,B,C,D,E,F,G,H,I,J,K,L,M,N,O,P,Q,R,S,ak,al,r found,T,am,X,Y,b err] 119 28 false).same Z/\v.same v/\aq.same a6/\w.same w/\True;let aN:=(de ai/\de ay)/\aV;let aO:=λ(u:cO) (u_1:bq) ↦(f []).same (f [])/\(d [z,A,B,C,D,E,F,G,H,I,J,K,L,M,N,O,P,Q,R,S,q W u.ch,b u.val,r u.found,T,s 2 u.prf.length 5,X,Y,b u.err] 119 28 false).same Z/\v.same v/\u_1.same a6/\w.same w/\True;let aP:=λ(u:dG) (u_1:Int) (u_2:Nat) (u_3:Int) ↦ff u/\(c<=u_1/\u_1<(↑u_2:Int))/\(c<=y/\y<(↑fx.length:Int))/\bj fx ab c=c/\(u_3=e\/u_3=k)/\nF (fx.set ab u_3)<n;let aQ:=λ(u:Int) (u_1:bq) ↦(f []).same (f [])/\(d [z,A,B,C,D,E,F,G,H,I,J,K,L,M,N,O,P,Q,R,S,ak,al,r found,T,am,X,Y,b u] 119 28 false).same Z/\v.same v/\u_1.same a6/\w.same w/\True;let aR:=λ(u:Bool) ↦decide (jc (ck ai) (ck (av.fst,av.snd.fst,av.snd.snd))<c)=u;let aS:=λ(u:Bool) ↦decide (c<=az)=u;let aT:=λ(u:Int) ↦let ax:=bu (Ω (u+e));de ai/\de (ax.fst,ax.snd.fst,ax.snd.snd);let aU:=λ(u:Bool) ↦decide (most<ad+o)=u;(aG=true->aM)/\(aG=false->(found=true->aM)/\(found=false->(fx.length=fx.length/\fx.length<=1000000000000)/\(aH=true->aQ (kV p fx) aq)/\(aH=false->((!jT p fx)=true->prf.length=prf.length/\c<=a/\a<(↑prf.length:Int)/\prf.length=prf.length/\a.toNat<prf.length/\aQ err (g ek (prf.set a.toNat ((3:Int),ar)) 93 true))/\((!jT p fx)=false->h aj/\(j<=aj/\aj<=l)/\aT val/\(aS true->pB (kp p fx)/\(ng x=true->(ff (dG.mk p ch val found (some m) prf.length fx.length most err prf fx)/\pB (kp p fx)/\(kp p fx).length=p.offers.length)/\prf.length=prf.length/\h ao/\(j<=ao/\ao<=l)/\aT t.val/\(aR true->ag=a8/\c<=a/\a<(↑a8:Int)/\ag=a8/\a.toNat<a8/\aO t (g ek (t.prf.set a.toNat aC) 93 true))/\(aR false->pB (kp p fx)/\((!(jC x).isSome)=true->aK)/\((!(jC x).isSome)=false->h (ad+o)/\(aU true->aK)/\(aU false->2=2/\ag=a8/\(a8+2)*56<=140737488355328/\a8+2<=1000000000000/\h ah/\aL/\c<=a/\a<(↑z71:Int)/\aL/\a.toNat<z71/\h ah/\aP (dG.mk p t.ch t.val t.found (some m) z71 fx.length most t.err aw fx) ah aw.length e/\aP (dG.mk p V.ch V.val V.found (some m) V.prf.length fx.length most V.err V.prf fx) ad V.prf.length k/\aO aI (g ek aI.prf 93 true)))))/\(ng x=false->aN))/\(aS false->aN)))))) (by kernel_rfl) ?_;simp only[vcs];refine⟨λh=>by rw[Bv hf (.inl h)];exact⟨rfl,rfl⟩,λh0=>⟨λh=>by rw[Bv hf (.inr h)];exact⟨rfl,rfl⟩,λh1=>⟨by omega,λh=>absurd hfe h,λ_=>⟨λh=>?_,λhb=>?_⟩⟩⟩⟩
  ·have hs:¬((⟨ch,val,found,prf,err⟩:cO).err≠0\/(⟨ch,val,found,prf,err⟩:cO).found=true):=by
    rintro(h|h);·exact h0 h
    ·rw[show found=true from h] at h1;cases h1
   rw[VI hf hs (by rw[<-hfo];exact h)];refine⟨ha.1,ha.2,by omega,?_,rfl⟩;simp only[γb];rfl
  ·have hs:¬((⟨ch,val,found,prf,err⟩:cO).err≠0\/(⟨ch,val,found,prf,err⟩:cO).found=true):=by
    rintro(h|h);·exact h0 h
    ·rw[show found=true from h] at h1;cases h1
   have hbf:iD p fx=true:=by rw[<-hfo];exact hb
   have hfix:=hf.ok hbf;have eB:ko p fx=bu (jS p fx):=by unfold ko;rw[if_pos hb]
   have eS:kp p fx=fL (dy p fx):=by unfold kp dy;rw[if_pos hb]
   have eP:q9 p fx=fL (yM p fx):=by unfold q9;rw[if_pos hb]
   have hsl:(dy p fx).length=fx.length:=r7;have oS:pB (fL (dy p fx)):=⟨dy p fx,rfl,by rw[fQ];omega,λq hq=>by
    obtain⟨i,hi,rfl⟩:=δb hq;have:=(Fz hfix hf.r (i:=i) (by omega)).2.2;rwa [cM hi] at this⟩;have fB:de (bu (jS p fx)):=ei (VR hb) (by omega);have fI:∀v:Int,0<=v->v<=9223372036854775807->de (bu (Ω v)):=λv h0 h1=>ei (VQ (by omega) h1) (by omega);have hcv:∀v:Int,jc (jS p fx) (Ω v)<0↔jS p fx<((v:Int):Rat):=λv=>uO;simp only[eB,eS,eP,mA,kQ,fb];have hcm:eA (dy p fx)=(pA p fx).chosen:=rfl;refine⟨by omega,by omega,⟨fB,fI _ (by omega) (by omega)⟩,λhge=>⟨oS,λhi=>?_,λhi=>?_⟩,λhlt=>?_⟩
   ·have hO:dj p (cu (some m)) ⟨ch,val,found,prf,err⟩ fx=dU (cu (some m)) ⟨ch,val,found,prf,err⟩ ⟨eA (dy p fx),bZ ((eA (dy p fx)).map (oI p))⟩:=by
     unfold dj;rw[if_pos ⟨ζi.1 λh=>absurd ((hcv (val+1)).2 h) (Int.not_lt.2 hge),hi⟩];rfl
    have hok':ff (dG.upd ⟨p,ch,val,found,(some m),prf.length,fx.length,most,err,prf,fx⟩ (dj p (cu (some m)) ⟨ch,val,found,prf,err⟩ fx)):=hok.VJ;rw[hO] at hok';obtain⟨e1,e2,_⟩:=@FB (cu (some m)) ⟨ch,val,found,prf,err⟩ ⟨eA (dy p fx),bZ ((eA (dy p fx)).map (oI p))⟩;generalize dU (cu (some m)) ⟨ch,val,found,prf,err⟩ ⟨eA (dy p fx),bZ ((eA (dy p fx)).map (oI p))⟩=O at*;obtain⟨ch',val',found',prf',tj⟩:=O;have e1:prf=prf':=Eq.symm e1;have e2:err=tj:=Eq.symm e2;subst e1;subst e2;have w0:0<=val':=hok'.v0;have w1:val'<=9223372036854775806:=hok'.v1;dsimp only;refine⟨⟨hok,oS,by rw[fQ];omega⟩,by omega,by omega,⟨fB,fI _ (by omega) (by omega)⟩,?_⟩;refine⟨λh=>?_,λh=>⟨oS,λhk=>?_,λhk=>⟨by omega,λhm=>?_,λhm=>?_⟩⟩⟩
    ·rw[yS hf hs hbf hO ((hcv _).1 h)];refine⟨ha.1,ha.2,by omega,?_,rfl⟩;simp only[γb];rfl
    ·rw[qh hf hs hbf hO (λh'=>h ((hcv _).2 h')) (.inl (γ2.1 hk |>γQ.1))];exact⟨rfl,rfl⟩
    ·rw[qh hf hs hbf hO (λh'=>h ((hcv _).2 h')) (.inr hm)];exact⟨rfl,rfl⟩
    ·obtain⟨k,hk'⟩:=γo.1 hk;rw[yT hf hs hbf hO (λh'=>h ((hcv _).2 h')) hk' hm];simp only[hk',γ4];obtain⟨hk1,hk2,hk3⟩:=tg hk';rw[hsl] at hk1;have hk0:bj fx k.toNat 0=0:=tf hfix hf.r (by omega) hk2 hk3;have n1:=mI hk1 hk0 (d:=1) (by omega);have n2:=mI hk1 hk0 (d:= -1) (by omega);have hl2:((prf++[zN,zN]).set a.toNat (kq k prf.length)).length=prf.length+2:=by rw[γb,κ];rfl
     have hl1:(prf++[zN,zN]).length=prf.length+2:=by rw[κ];rfl
     have o1:=ff.spl (x:=⟨p,ch',val',found',(some m),prf.length,fx.length,most,tj,prf,fx⟩) hok' (k:=(prf++[zN,zN]).length) (l:=(prf++[zN,zN]).set a.toNat (kq k prf.length)) hm (by rw[hl1,hl2]) hl2;have o2:=o1.vis (f:=fx.set k.toNat 1) (hf.set (by omega)) (n:=nF (fx.set k.toNat 1)) (a:=(prf.length:Int)+1);have o3:=(@sa p (cu (some m)) most (nF (fx.set k.toNat 1)) (gy ⟨ch',val',found',prf,tj⟩ a k) ((prf.length:Int)+1) (fx.set k.toNat 1) (hf.set (by omega))).1;have o4:prf.length+2<=(dD p (cu (some m)) most (nF (fx.set k.toNat 1)) (gy ⟨ch',val',found',prf,tj⟩ a k) ((prf.length:Int)+1) (fx.set k.toNat 1)).prf.length:=by rw[<-hl2];exact o3
     have q1:a<((prf++[zN,zN]).length:Int):=by omega
     have q3:(prf.length:Int)+1<(((prf++[zN,zN]).set a.toNat (kq k prf.length)).length:Int):=by rw[hl2];omega
     have q2:a.toNat<(prf++[zN,zN]).length:=by omega
     exact⟨by omega,by omega,by omega,ha.1,q1,q2,by omega,⟨o1,⟨by omega,q3⟩,hk1,hk0,.inl trivial,by omega⟩,⟨o2,⟨by omega,εV.2 (γr (by omega) o4)⟩,hk1,hk0,.inr trivial,by omega⟩,rfl,rfl⟩
   ·have hO:dj p (cu (some m)) ⟨ch,val,found,prf,err⟩ fx=⟨ch,val,found,prf,err⟩:=by
     unfold dj;rw[if_neg (λh=>by rw[h.2] at hi;cases hi)]
    refine⟨⟨fB,fI _ (by omega) (by omega)⟩,?_⟩;refine⟨λh=>?_,λh=>⟨oS,λhk=>?_,λhk=>⟨by omega,λhm=>?_,λhm=>?_⟩⟩⟩
    ·rw[yS hf hs hbf hO ((hcv _).1 h)];refine⟨ha.1,ha.2,by omega,?_,rfl⟩;simp only[γb];rfl
    ·rw[qh hf hs hbf hO (λh'=>h ((hcv _).2 h')) (.inl (γ2.1 hk |>γQ.1))];exact⟨rfl,rfl⟩
    ·rw[qh hf hs hbf hO (λh'=>h ((hcv _).2 h')) (.inr hm)];exact⟨rfl,rfl⟩
    ·obtain⟨k,hk'⟩:=γo.1 hk;rw[yT hf hs hbf hO (λh'=>h ((hcv _).2 h')) hk' hm];simp only[hk',γ4];obtain⟨hk1,hk2,hk3⟩:=tg hk';rw[hsl] at hk1;have hk0:bj fx k.toNat 0=0:=tf hfix hf.r (by omega) hk2 hk3;have n1:=mI hk1 hk0 (d:=1) (by omega);have n2:=mI hk1 hk0 (d:= -1) (by omega);have hl2:((prf++[zN,zN]).set a.toNat (kq k prf.length)).length=prf.length+2:=by rw[γb,κ];rfl
     have hl1:(prf++[zN,zN]).length=prf.length+2:=by rw[κ];rfl
     have o1:=ff.spl hok (k:=(prf++[zN,zN]).length) (l:=(prf++[zN,zN]).set a.toNat (kq k prf.length)) hm (by rw[hl1,hl2]) hl2;have o2:=o1.vis (f:=fx.set k.toNat 1) (hf.set (by omega)) (n:=nF (fx.set k.toNat 1)) (a:=(prf.length:Int)+1);have o3:=(@sa p (cu (some m)) most (nF (fx.set k.toNat 1)) (gy ⟨ch,val,found,prf,err⟩ a k) ((prf.length:Int)+1) (fx.set k.toNat 1) (hf.set (by omega))).1;have o4:prf.length+2<=(dD p (cu (some m)) most (nF (fx.set k.toNat 1)) (gy ⟨ch,val,found,prf,err⟩ a k) ((prf.length:Int)+1) (fx.set k.toNat 1)).prf.length:=by rw[<-hl2];exact o3
     have q1:a<((prf++[zN,zN]).length:Int):=by omega
     have q3:(prf.length:Int)+1<(((prf++[zN,zN]).set a.toNat (kq k prf.length)).length:Int):=by rw[hl2];omega
     have q2:a.toNat<(prf++[zN,zN]).length:=by omega
     exact⟨by omega,by omega,by omega,ha.1,q1,q2,by omega,⟨o1,⟨by omega,q3⟩,hk1,hk0,.inl trivial,by omega⟩,⟨o2,⟨by omega,εV.2 (γr (by omega) o4)⟩,hk1,hk0,.inr trivial,by omega⟩,rfl,rfl⟩
   ·have hO:dj p (cu (some m)) ⟨ch,val,found,prf,err⟩ fx=⟨ch,val,found,prf,err⟩:=by
     unfold dj;rw[if_neg (λh=>ζi.2 h.1 ((hcv (val+1)).1 (Int.not_le.1 hlt)))]
    refine⟨⟨fB,fI _ (by omega) (by omega)⟩,?_⟩;refine⟨λh=>?_,λh=>⟨oS,λhk=>?_,λhk=>⟨by omega,λhm=>?_,λhm=>?_⟩⟩⟩
    ·rw[yS hf hs hbf hO ((hcv _).1 h)];refine⟨ha.1,ha.2,by omega,?_,rfl⟩;simp only[γb];rfl
    ·rw[qh hf hs hbf hO (λh'=>h ((hcv _).2 h')) (.inl (γ2.1 hk |>γQ.1))];exact⟨rfl,rfl⟩
    ·rw[qh hf hs hbf hO (λh'=>h ((hcv _).2 h')) (.inr hm)];exact⟨rfl,rfl⟩
    ·obtain⟨k,hk'⟩:=γo.1 hk;rw[yT hf hs hbf hO (λh'=>h ((hcv _).2 h')) hk' hm];simp only[hk',γ4];obtain⟨hk1,hk2,hk3⟩:=tg hk';rw[hsl] at hk1;have hk0:bj fx k.toNat 0=0:=tf hfix hf.r (by omega) hk2 hk3;have n1:=mI hk1 hk0 (d:=1) (by omega);have n2:=mI hk1 hk0 (d:= -1) (by omega);have hl2:((prf++[zN,zN]).set a.toNat (kq k prf.length)).length=prf.length+2:=by rw[γb,κ];rfl
     have hl1:(prf++[zN,zN]).length=prf.length+2:=by rw[κ];rfl
     have o1:=ff.spl hok (k:=(prf++[zN,zN]).length) (l:=(prf++[zN,zN]).set a.toNat (kq k prf.length)) hm (by rw[hl1,hl2]) hl2;have o2:=o1.vis (f:=fx.set k.toNat 1) (hf.set (by omega)) (n:=nF (fx.set k.toNat 1)) (a:=(prf.length:Int)+1);have o3:=(@sa p (cu (some m)) most (nF (fx.set k.toNat 1)) (gy ⟨ch,val,found,prf,err⟩ a k) ((prf.length:Int)+1) (fx.set k.toNat 1) (hf.set (by omega))).1;have o4:prf.length+2<=(dD p (cu (some m)) most (nF (fx.set k.toNat 1)) (gy ⟨ch,val,found,prf,err⟩ a k) ((prf.length:Int)+1) (fx.set k.toNat 1)).prf.length:=by rw[<-hl2];exact o3
     have q1:a<((prf++[zN,zN]).length:Int):=by omega
     have q3:(prf.length:Int)+1<(((prf++[zN,zN]).set a.toNat (kq k prf.length)).length:Int):=by rw[hl2];omega
     have q2:a.toNat<(prf++[zN,zN]).length:=by omega
     exact⟨by omega,by omega,by omega,ha.1,q1,q2,by omega,⟨o1,⟨by omega,q3⟩,hk1,hk0,.inl trivial,by omega⟩,⟨o2,⟨by omega,εV.2 (γr (by omega) o4)⟩,hk1,hk0,.inr trivial,by omega⟩,rfl,rfl⟩
theorem ML:∀n,dK Tryz.prog (wA n)
 |0=>λa ha=>absurd ha.2.2 (by omega)
 |n+1=>af7 (afZ (ML n))
theorem wB {p:bp} (hc:bC p=0) {c:List Int} (hf:dc p c=0):0<=dH p c/\dH p c<=160000000/\c.length<=160:=by
 obtain⟨_,ha⟩:=uL hf;have h160:=(dm hc).2.1;have hl:c.length<=p.offers.length:=yG ha;have h1:=sO (dm hc) (l:=c.map (oI p)) λx hx=>by
  obtain⟨i,hi,rfl⟩:=γg.1 hx;have:=ha.2 i hi;exact cK (by omega)
 rw[γA] at h1;rw[yP hc ha];have e:bZ (c.map (oI p))=bZ (cj p c):=rfl;omega
theorem MM {p:bp} (hc:bC p=0):(jP p).length<=160:=(wB hc (UF hc)).2.2
theorem af8 {p:bp} {c:List Int} {most:Int} {k:Nat} (hc:bC p=0) (hf:dc p c=0) (m0:1<=most) (m1:most<=65536) (hk:k=p.offers.length):ff ⟨p,(jD p c).ch,(jD p c).val,(jD p c).found,none,(jD p c).prf.length,k,most,(jD p c).err,(jD p c).prf,iE p⟩:=by
 have h1:=Le hc hf;have h2:=Bw hc;have hG:dc p (jD p c).ch=0/\dH p (jD p c).ch=(jD p c).val:=
  yV (G:=λc w _=>dc p c=0/\dH p c=w) (λ_ _ _ _ _ _ h1 h2 _=>⟨h1,h2⟩) (yV (G:=λc w _=>dc p c=0/\dH p c=w) (λ_ _ _ _ _ _ h1 h2 _=>⟨h1,h2⟩) (s:=⟨c,dH p c,false,[zN],0⟩) ⟨hf,rfl⟩ h1.2.1 h1.2.2.1) h2.1 h2.2;obtain⟨b0,b1,b2⟩:=wB hc hG.1;obtain⟨e1,_,_⟩:=@MI p c;rw[hG.2] at b0 b1;exact⟨qj hc,rfl,by rw[hk];exact(γR).symm,b0,by show(jD p c).val<=_;omega,m0,m1,by show(jD p c).prf.length<=_;rw[e1];decide,by show(jD p c).ch.length<=_;omega⟩
theorem af9 {p:bp} {m most:Int} {k:Nat} (hc:bC p=0) (hm:0<m/\m<=9223372036854775807) (m0:1<=most) (m1:most<=65536) (hk:k=p.offers.length):ff ⟨p,(jE p m).ch,(jE p m).val,(jE p m).found,some m,(jE p m).prf.length,k,most,(jE p m).err,(jE p m).prf,iE p⟩:=by
 have h2:=Bw hc;have hG:(0<=(jE p m).val/\(jE p m).val<=9223372036854775806)/\(jE p m).ch.length<=160:=
  yV (G:=λc w _=>(0<=w/\w<=9223372036854775806)/\c.length<=160) (λ_ _ _ c' w' _ h1 h2 _=>by
   obtain⟨b0,b1,b2⟩:=wB hc h1;omega) (s:=⟨[],m - 1,false,[zN],0⟩) ⟨⟨by show 0<=m - 1;omega,by show m - 1<=_;omega⟩,by show([]:List Int).length<=160;decide⟩ h2.1 h2.2;obtain⟨e1,_⟩:=@MJ p m;exact⟨qj hc,rfl,by rw[hk];exact(γR).symm,hG.1.1,hG.1.2,m0,m1,by show(jE p m).prf.length<=_;rw[e1];decide,by show(jE p m).ch.length<=_;omega⟩
noncomputable def MN:bL:=⟨52,bp×Alloc×Int,.cons cY (.cons lC (.one (dV .i64))),λa=>a.1.offers.length<=40/\a.2.1.chosen.length<=9223372036854775807,
 λa=> .bH [.agg [.row (.i .i64) (if kx a.1 a.2.1.chosen a.2.2=0 then(iF a.1 a.2.1.chosen a.2.2).ch else[]),.si .i64 (if kx a.1 a.2.1.chosen a.2.2=0 then(iF a.1 a.2.1.chosen a.2.2).val else 0)],.row ek (if kx a.1 a.2.1.chosen a.2.2=0 then(iF a.1 a.2.1.chosen a.2.2).prf else[]),.si .i64 (kx a.1 a.2.1.chosen a.2.2)]⟩
theorem h429:Holds Tryz.prog MN:=by
 refine con (L:=[zQ,L1,A8,A7]) (W:=fU [Bq,wA 161]) MN lk (lg (by simpa using⟨h439,ML 161⟩)) (by simpa using⟨h100,h437,h315,h312⟩) ?_;rintro⟨p,⟨c,v⟩,most⟩ ⟨h40,hcl⟩;simp only at h40 hcl;refine bN (let a:=(0:Int);let b:=Θ .i64;let d:=(140737488355328:Int);let e:=(1000000000000:Int);let f:=(1:Int);let g:=Φ;let h:=γC;let j:=SV.bH;let r:=bk.i .i64;let n:=g r [];let o:=γp .i64 0;let s:=iF p c most;let w:=j [h [g r (if kx p c most=a then s.ch else[]),b (if kx p c most=a then s.val else a)],g ek (if kx p c most=a then s.prf else[]),b (kx p c most)];let l:=(↑p.offers.length:Int);let q:=ε l.toNat a;let t:=dU (cu none) (cO.mk c (dH p c) false [(a,a,a,a,[])] a) (gx p c);let k:=dU (cu none) t (gx p (jP p));let m:=dD p (cu none) most (nF q) k a q;let x:=decide (dc p c≠a);let y:=decide (most<f);let z:=decide ((65536:Int)<most);let A:=0+c.length;let B:=(j [h [n,o],n,γp .i64 4]).same w;let v:=λ(u:List Int) (u_1 u_2 u_3:SV) ↦(j [h [g r u,u_1],u_2,u_3]).same w;let C:=λ(u:Bool) ↦decide (m.err≠a)=u;c.length<=9223372036854775807/\(x=true->v [] o n (b (dc p c)))/\(x=false->(y=true->B)/\(y=false->(z=true->B)/\(z=false->0=0/\A*8<=140737488355328/\A<=1000000000000/\(bC p=a/\c.length<=9223372036854775807)/\a<=f/\f<=f/\(56:Int)<=d/\f<=e/\a<=l/\l<=l/\l*(8:Int)<=d/\l<=e/\c.length=c.length/\c.length=c.length/\c.length<=9223372036854775807/\1=1/\p.offers.length<=40/\(jP p).length<=9223372036854775807/\t.prf.length=t.prf.length/\(ff (dG.mk p k.ch k.val k.found none k.prf.length l.toNat most k.err k.prf q)/\(a<=a/\a<(↑k.prf.length:Int))/\nF q<161)/\(C true->v [] o n (b m.err))/\(C false->m.prf.length=m.prf.length/\v m.ch (b m.val) (g ek m.prf) o))))) (by kernel_rfl) ?_;simp only[vcs];have hz:(ε ((p.offers.length:Int)).toNat 0:List Int)=iE p:=by unfold iE;rw[γk]
 have e0:dU (cu none) (dU (cu none) ⟨c,dH p c,false,[(0,(0,(0,(0,[]))))],0⟩ (gx p c)) (gx p (jP p))=jD p c:=rfl;have en:nF (iE p)=p.offers.length:=yU;simp only[hz,e0,en];refine⟨hcl,λh=>?_,λh=>⟨λh1=>?_,λh1=>⟨λh2=>?_,λh2=>?_⟩⟩⟩
 ·have e:kx p c most=dc p c:=by unfold kx;rw[if_pos h]
  rw[e,if_neg h,if_neg h,if_neg h];exact⟨rfl,rfl,rfl⟩
 ·have e:kx p c most=4:=by unfold kx;rw[if_neg h,if_pos (.inl h1)]
  rw[e];exact⟨rfl,rfl,rfl⟩
 ·have e:kx p c most=4:=by unfold kx;rw[if_neg h,if_pos (.inr h2)]
  rw[e];exact⟨rfl,rfl,rfl⟩
 ·have hf:dc p c=0:=ω.1 h;have hc:bC p=0:=(uL hf).1;obtain⟨b0,b1,b2⟩:=wB hc hf;obtain⟨e1,e2,e3⟩:=@MI p c;have e:kx p c most=(iF p c most).err:=by unfold kx;rw[if_neg h,if_neg (by omega)]
  have hv:dD p (cu none) most p.offers.length (jD p c) 0 (iE p)=iF p c most:=rfl;have hst:=MM hc;rw[hv,e];refine⟨by omega,by omega,⟨hc,hcl⟩,by omega,by omega,by omega,by omega,by omega,by omega,by omega,by omega,hcl,h40,by omega,⟨af8 hc hf (by omega) (by omega) (by omega),⟨by omega,by rw[e1];decide⟩,by omega⟩,λh3=>?_,λh3=>?_⟩
  ·rw[if_neg h3,if_neg h3,if_neg h3];exact⟨rfl,rfl,rfl⟩
  ·rw[ω] at h3;rw[h3];exact⟨rfl,rfl,rfl⟩
noncomputable def MO:bL:=⟨93,bp×Int×Int,.cons cY (.cons (dV .i64) (.one (dV .i64))),λa=>a.1.offers.length<=40/\ -9223372036854775808<=a.2.1/\a.2.1<=9223372036854775807,
 λa=> .bH [.agg [.row (.i .i64) (oG a.1 a.2.1 a.2.2).chosen,.si .i64 (oG a.1 a.2.1 a.2.2).value],.sb (jU a.1 a.2.1 a.2.2),.si .i64 (iT a.1 a.2.1 a.2.2)]⟩
theorem h434:Holds Tryz.prog MO:=by
 refine con (L:=[pU,A8,A7]) (W:=fU [Bq,wA 161]) MO lk (lg (by simpa using⟨h439,ML 161⟩)) (by simpa using⟨h79,h315,h312⟩) ?_;rintro⟨p,m,most⟩ ⟨h40,m0,m1⟩;simp only at h40 m0 m1;refine bN (let a:=(0:Int);let b:=Θ .i64;let c:=(1:Int);let d:=(140737488355328:Int);let e:=SV.bH;let f:=(1000000000000:Int);let g:=γp .i64;let h:=Φ;let j:=γC;let t:=bk.i .i64;let r:=[g 0];let l:=e [j [h t (oG p m most).chosen,b (oG p m most).value],γD (jU p m most),b (iT p m most)];let o:=j (h t []::r);let q:=δo false;let k:=dU (cu (some m)) (cO.mk [] (m - c) false [(a,a,a,a,[])] a) (gx p (jP p));let v:=decide (bC p≠a);let w:=decide (most<c);let x:=decide ((65536:Int)<most);let y:=decide (m<=a);let n:=(↑p.offers.length:Int);let s:=ε n.toNat a;let z:=λ(u:cO) ↦let A:=decide (u.err≠a);(u.found=true->(e (j [h t u.ch,b u.val]::δo true::r)).same l)/\(u.found=false->(A=true->(e [o,q,b u.err]).same l)/\(A=false->(e (o::q::r)).same l));let B:=λ(u:Bool) ↦(!k.found)=u;True/\(v=true->(e [o,q,b (bC p)]).same l)/\(v=false->(w=true->(e [o,q,g 4]).same l)/\(w=false->(x=true->(e [o,q,g 4]).same l)/\(x=false->(y=true->(e (o::δo true::r)).same l)/\(y=false->bV .i64 (m - c)/\a<=c/\c<=c/\(56:Int)<=d/\c<=f/\a<=n/\n<=n/\n*(8:Int)<=d/\n<=f/\0=0/\p.offers.length<=40/\(jP p).length<=9223372036854775807/\1=1/\(B true->(ff (dG.mk p k.ch k.val k.found (some m) k.prf.length n.toNat most k.err k.prf s)/\(a<=a/\a<(↑k.prf.length:Int))/\nF s<161)/\z (dD p (cu (some m)) most (nF s) k a s))/\(B false->z k)))))) (by kernel_rfl) ?_;simp only[vcs];have hz:(ε ((p.offers.length:Int)).toNat 0:List Int)=iE p:=by unfold iE;rw[γk]
 have e0:dU (cu (some m)) ⟨[],m - 1,false,[(0,(0,(0,(0,[]))))],0⟩ (gx p (jP p))=jE p m:=rfl;have en:nF (iE p)=p.offers.length:=yU;simp only[hz,e0,en];have key:∀e:Int,iT p m most=e->jU p m most=(decide (e=0)&&(decide (m<=0)||(fR p m most).found)):=λe h=>by unfold jU;rw[h]
 have ly:jU p m most=false\/m<=0->oG p m most=⟨[],0⟩:=λh=>by
  unfold oG;rw[if_neg];rintro⟨h1,h2⟩;rcases h with h|h;·rw[h] at h1;cases h1
  ·omega
 refine⟨λh=>?_,λh=>⟨λh1=>?_,λh1=>⟨λh2=>?_,λh2=>⟨λh3=>?_,λh3=>?_⟩⟩⟩⟩
 ·have e:iT p m most=bC p:=by unfold iT;rw[if_pos h]
  have f:jU p m most=false:=by rw[key _ e,decide_eq_false h];rfl
  rw[e,f,ly (.inl f)];exact⟨rfl,rfl,rfl⟩
 ·have e:iT p m most=4:=by unfold iT;rw[if_neg h,if_pos (.inl h1)]
  have f:jU p m most=false:=by rw[key _ e];rfl
  rw[e,f,ly (.inl f)];exact⟨rfl,rfl,rfl⟩
 ·have e:iT p m most=4:=by unfold iT;rw[if_neg h,if_pos (.inr h2)]
  have f:jU p m most=false:=by rw[key _ e];rfl
  rw[e,f,ly (.inl f)];exact⟨rfl,rfl,rfl⟩
 ·have e:iT p m most=0:=by unfold iT;rw[if_neg h,if_neg (by omega),if_pos h3]
  have f:jU p m most=true:=by rw[key _ e,decide_eq_true h3];rfl
  rw[e,f,ly (.inr h3)];exact⟨rfl,rfl,rfl⟩
 ·have hc:bC p=0:=ω.1 h;obtain⟨e1,e2⟩:=@MJ p m;have hv:dD p (cu (some m)) most p.offers.length (jE p m) 0 (iE p)=fR p m most:=rfl;have hst:=MM hc;have hE:iT p m most=if(fR p m most).found=true then 0 else(fR p m most).err:=by unfold iT;rw[if_neg h,if_neg (by omega),if_neg h3]
  have tail:((fR p m most).found=true->(γC [Φ (bk.i .i64) (fR p m most).ch,Θ .i64 (fR p m most).val]).same (γC [Φ (bk.i .i64) (oG p m most).chosen,Θ .i64 (oG p m most).value])/\true=jU p m most/\0=iT p m most)/\
    ((fR p m most).found=false->((fR p m most).err≠0->(γC [Φ (bk.i .i64) [],γp .i64 0]).same (γC [Φ (bk.i .i64) (oG p m most).chosen,Θ .i64 (oG p m most).value])/\false=jU p m most/\(fR p m most).err=iT p m most)/\
     (¬(fR p m most).err≠0->(γC [Φ (bk.i .i64) [],γp .i64 0]).same (γC [Φ (bk.i .i64) (oG p m most).chosen,Θ .i64 (oG p m most).value])/\false=jU p m most/\0=iT p m most)):=by
   refine⟨λhf=>?_,λhf=>⟨λhe=>?_,λhe=>?_⟩⟩
   ·rw[if_pos hf] at hE;have f:jU p m most=true:=by rw[key _ hE,hf,Bool.or_true];rfl
    have a:oG p m most=⟨(fR p m most).ch,(fR p m most).val⟩:=by unfold oG;rw[if_pos ⟨f,by omega⟩]
    rw[hE,f,a];exact⟨rfl,rfl,rfl⟩
   ·rw[if_neg (by rw[hf];simp)] at hE;have f:jU p m most=false:=by rw[key _ hE,decide_eq_false he];rfl
    rw[hE,f,ly (.inl f)];exact⟨rfl,rfl,rfl⟩
   ·rw[if_neg (by rw[hf];simp),ω.1 he] at hE;have f:jU p m most=false:=by rw[key _ hE,hf,decide_eq_false h3];rfl
    rw[hE,f,ly (.inl f)];exact⟨rfl,rfl,rfl⟩
  rw[hv];refine⟨by omega,by omega,by omega,by omega,by omega,by omega,by omega,by omega,by omega,h40,by omega,λh4=>⟨⟨af9 hc (by omega) (by omega) (by omega) (by omega),⟨by omega,by rw[e1];decide⟩,by omega⟩,tail⟩,λh4=>?_⟩;have hb:fR p m most=jE p m:=by
   have:=Bv (f:=iE p) (en:=cu (some m)) (most:=most) (a:=0) (qj hc) (.inr h4);rw[en] at this;exact this
  rw[hb] at tail;exact tail
end Go.Vi
