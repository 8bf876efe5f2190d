/-
  The solver's recursion.
  Conditions: none.
-/
import Derived.Test.YtjcmncmajmoiiaaGreatTX06
import Derived.KernelRfl
set_option maxRecDepth 100000
set_option maxHeartbeats 4000000
set_option linter.all false
open Bool renaming and_eq_true->θ,or_eq_true->δq
open Classical renaming not_not->Γ
open Go.Vi.AV.agg renaming injEq->εE
open Go.Vi.AV.sc renaming injEq->γZ
open Go.Vi.SV renaming si->γe,row->Φ,il->γq,ptr->γW,ow->γ8,agg->γK,bl->δs,sb->γI
open Int renaming one_mul->δ3,le_trans->ζg
open List renaming range->τ,all_eq_true->Θ,mem_range->γM,foldl_cons->γw,mem_filter->γi,length_cons->γv,length_filter_le->γC,mem_cons->γp,take_length->χ,foldl_append->δP,mem_of_mem_take->γm,forall_mem_cons->γG,not_mem_nil->δk,filter_append->δt,length_take->Ξ,replicate->ε,length_nil->ε4,take->γd,range_succ->δR,map_append->γa,map_cons->ι,map_nil->γs,drop->δi,mem_map->γf,drop_length->ε0,mem_append->ω,nodup_append->γu,mem_map_of_mem->γ3,nodup_cons->γD,pairwise_cons->γE,filter_cons->εx,filter_sublist->δn
open List.Nodup renaming sublist->ζQ
open List.cons renaming injEq->π
open Option renaming map_eq_some_iff->δ,isSome_iff_exists->γk,map->ζs,getD_some->γX
open Option.some renaming injEq->γ
namespace Go.Vi
open Go.Proofs.YtjcmncmajmoiiaaGreat.Ir
open Go.Proofs
def oN (m f:Int):Int:=fh.tG .i64 (m / 2^f.toNat) 1
def iK (m f:Int):Int:=fh.ra .i64 m (2^f.toNat)
def fu (m:Int):List Int:=[0,1,2,3,4,5,6,7].filter λf=>decide (oN m f≠0)
def cnt (m:Int):Nat:=(fu m).length
def PS:Bool:=(τ 256).all λm=>decide (0<=oN m 0)&&[0,1,2,3,4,5,6,7].all λf=>(decide (oN m f=0)||decide (oN m f=1))&&(decide (oN m f=0)||(decide (0<=iK m f)&&decide (iK m f<256)&&decide (fu (iK m f)=(fu m).filter λg=>decide (g≠f))))
theorem ZU:PS=true:=by kernel_rfl
theorem HK {m f:Int} (h0:0<=m) (h1:m<256) (g0:0<=f) (g1:f<8):(oN m f=0\/oN m f=1)/\(oN m f≠0->0<=iK m f/\iK m f<256/\fu (iK m f)=(fu m).filter λg=>decide (g≠f)):=by
 have h:=ZU
 simp only[PS,Θ,γM] at h
 have h2:=h m.toNat (by omega)
 simp only[θ,Θ] at h2
 have h3:=h2.2 f (by have:f=0\/f=1\/f=2\/f=3\/f=4\/f=5\/f=6\/f=7:=by omega
                     rcases this with rfl|rfl|rfl|rfl|rfl|rfl|rfl|rfl<;>simp)
 rw[show((m.toNat:Nat):Int)=m from by omega] at h3
 simp only[θ,δq,decide_eq_true_eq] at h3
 refine⟨h3.1,λhb=>?_⟩
 rcases h3.2 with h4|h4
 ·exact absurd h4 hb
 ·exact⟨h4.1.1,h4.1.2,h4.2⟩
def dI (m:Int):Int:=(fu m).headD 0
def PT:Bool:=(τ 256).all λm=>decide (m=0)||(decide (0<=dI m)&&decide (dI m<8)&&decide (oN m (dI m)≠0)&&decide (fu m=dI m::fu (iK m (dI m)))&&
 [0,1,2,3,4,5,6,7].all λg=>decide (dI m<=g)||decide (oN m g=0))
theorem ZV:PT=true:=by kernel_rfl
theorem C5 {m:Int} (h0:0<=m) (h1:m<256) (h:m≠0):0<=dI m/\dI m<8/\oN m (dI m)≠0/\fu m=dI m::fu (iK m (dI m))/\∀g,0<=g->g<dI m->oN m g=0:=by
 have hh:=ZV
 simp only[PT,Θ,γM] at hh
 have h2:=hh m.toNat (by omega)
 rw[show((m.toNat:Nat):Int)=m from by omega] at h2
 simp only[δq,θ,decide_eq_true_eq,Θ] at h2
 rcases h2 with h2|h2
 ·omega
 ·obtain⟨⟨⟨⟨a1,a2⟩,a3⟩,a4⟩,a5⟩:=h2
  refine⟨a1,a2,a3,a4,λg g0 g1=>?_⟩
  have:=a5 g (by have:g=0\/g=1\/g=2\/g=3\/g=4\/g=5\/g=6\/g=7:=by omega
                 rcases this with rfl|rfl|rfl|rfl|rfl|rfl|rfl|rfl<;>simp)
  rcases this with h|h
  ·omega
  ·exact h
abbrev nf:=List (Sit×Int)
def kx (s:L8) (f:Int):List Off:=bj [s.l0,s.l1,s.l2,s.l3,s.l4,s.l5,s.l6,s.l7] f.toNat []
def iV (a:Sit):Sit:=⟨iK a.members (dI a.members),a.left,a.opn⟩
def gw (p:bp):Nat->nf->Sit->Int×nf
 |0,es,_=>(0,es)
 |n+1,es,a=>
  if a.members=0 then(0,es) else
  match jV .sit (.i .i64) a es with
  |some v=>(v,es)
  |none=>
   let r:=(kx (L8.of p) (dI a.members)).foldl (λr x=>if fitsAt p a x=true then(max r.1 (x.value+(gw p n r.2 (lp p a x)).1),(gw p n r.2 (lp p a x)).2) else r) (gw p n es (iV a))
   (r.1,mY .sit (.i .i64) a r.1 r.2)
def stepM (p:bp) (n:Nat) (a:Sit) (r:Int×nf) (x:Off):Int×nf:=
 if fitsAt p a x=true then(max r.1 (x.value+(gw p n r.2 (lp p a x)).1),(gw p n r.2 (lp p a x)).2) else r
def Good (p:bp):Prop:=p.classes.length<=8/\p.offers.length<=160/\p.supply.ok=true/\p.opn.ok=true/\∀x∈p.offers,0<=x.bF/\x.bF<p.classes.length/\x.want.ok=true/\1<=x.value/\x.value<=1000000
def oO (a:Sit):Prop:=0<=a.members/\a.members<256/\a.b
def gx (p:bp):List Int->bz->bz->Int
 |[],_,_=>0
 |f::fs,l,o=>(iU p f).foldl (λv x=>if x.want.le l&&(dR p x).le o then max v (x.value+gx p fs (l.sub x.want) (o.sub (dR p x))) else v) (gx p fs l o)
def ky (p:bp) (fs:List Int) (l o:bz) (v:Int) (x:Off):Int:=if x.want.le l&&(dR p x).le o then max v (x.value+gx p fs (l.sub x.want) (o.sub (dR p x))) else v
def pE (p:bp) (a:Sit):Int:=gx p (fu a.members) a.left a.opn
def mC (p:bp) (es:nf):Prop:=∀e∈es,e.2=pE p e.1
theorem HL {p:bp} {fs:List Int} {l o:bz} (hg:Good p) (B:Int) (hB:∀l o,0<=gx p fs l o/\gx p fs l o<=B):∀{xs:List Off} {v:Int},(∀x∈xs,x∈p.offers)->0<=v/\v<=B+1000000->0<=xs.foldl (ky p fs l o) v/\xs.foldl (ky p fs l o) v<=B+1000000
 |[],v,_,hv=>hv
 |x::xs,v,hx,hv=>by
  simp only[γw]
  refine HL hg B hB (λy hy=>hx y (by simp[hy])) ?_
  unfold ky
  have h1:=hB (l.sub x.want) (o.sub (dR p x))
  have h2:=hg.2.2.2.2 x (hx x (by simp))
  split<;>omega
theorem HM {p:bp} (hg:Good p):∀(fs:List Int) (l o:bz),0<=gx p fs l o/\gx p fs l o<=1000000*fs.length
 |[],_,_=>by simp[gx]
 |f::fs,l,o=>by
  have ih:=HM hg fs
  have h:=HL (l:=l) (o:=o) hg (1000000*fs.length) ih (xs:=iU p f) (v:=gx p fs l o) (λx hx=>(γi.1 hx).1) (by have:=ih l o;omega)
  have e:gx p (f::fs) l o=(iU p f).foldl (ky p fs l o) (gx p fs l o):=rfl
  rw[e];simp only[γv];omega
theorem HN {m:Int}:(fu m).length<=8:=γC _ _
theorem HO {p:bp} (hg:Good p) (a:Sit):0<=pE p a/\pE p a<=8000000:=by
 have h:=HM hg (fu a.members) a.left a.opn
 have:=@HN a.members
 unfold pE;omega
theorem ZW {a:Sit} {es:nf} {v:Int} (h:jV .sit (.i .i64) a es=some v):∃e∈es,e.1=a/\e.2=v:=by
 unfold jV at h
 obtain⟨e,h1,rfl⟩:=δ.1 h
 have h2:=List.find?_some h1
 exact⟨e,List.mem_of_find?_eq_some h1,by simpa using h2,rfl⟩
theorem PU {p:bp} {a:Sit} {v:Int} (hv:v=pE p a):∀{es:nf},mC p es->mC p (mY .sit (.i .i64) a v es)
 |[],_=>by intro e he;simp[mY] at he;subst he;exact hv
 |q::es,h=>by
  unfold mY;split
  ·intro e he
   rcases γp.1 he with rfl|he
   ·exact hv
   ·exact h e (by simp[he])
  ·intro e he
   rcases γp.1 he with rfl|he
   ·exact h e (by simp)
   ·exact PU hv (λe he=>h e (by simp[he])) e he
theorem PV {a b:bz} (ha:a.ok=true) (hb:b.ok=true) (h:b.le a=true):(a.sub b).ok=true:=by
 have ha:=bz.fA.1 ha
 have hb:=bz.fA.1 hb
 have h:=bz.le_iff.1 h
 refine bz.fA.2 ?_
 simp only[bz.sub];omega
theorem PW {p:bp} {f:Int} (h0:0<=f) (h1:f<8):kx (L8.of p) f=iU p f:=by
 have:f=0\/f=1\/f=2\/f=3\/f=4\/f=5\/f=6\/f=7:=by omega
 rcases this with rfl|rfl|rfl|rfl|rfl|rfl|rfl|rfl<;>rfl
theorem PX {p:bp} (hg:Good p) {a:Sit} (ha:oO a) (h0:a.members≠0) {x:Off} (hx:x∈iU p (dI a.members)) (hf:fitsAt p a x=true):
  oO (lp p a x)/\fu a.members=dI a.members::fu (lp p a x).members/\(lp p a x).members=iK a.members (dI a.members):=by
 obtain⟨hxo,hxb⟩:=γi.1 hx
 have hxb:x.bF=dI a.members:=by simpa using hxb
 have hv:=hg.2.2.2.2 x hxo
 obtain⟨f0,f1,f2,f3,f4⟩:=C5 ha.1 ha.2.1 h0
 have hd:=(HK ha.1 ha.2.1 f0 f1).2 f2
 have hm:(lp p a x).members=iK a.members (dI a.members):=by simp only[lp,hxb,iK]
 simp only[fitsAt,θ] at hf
 refine⟨⟨by rw[hm];exact hd.1,by rw[hm];exact hd.2.1,PV ha.2.2.1 hv.2.2.1 hf.1,PV ha.2.2.2 (PL hv.2.2.1) hf.2⟩,by rw[hm];exact f3,hm⟩
theorem PY {a:Sit} (ha:oO a) (h0:a.members≠0):oO (iV a)/\fu a.members=dI a.members::fu (iV a).members:=by
 obtain⟨f0,f1,f2,f3,f4⟩:=C5 ha.1 ha.2.1 h0
 have hd:=(HK ha.1 ha.2.1 f0 f1).2 f2
 exact⟨⟨hd.1,hd.2.1,ha.2.2⟩,f3⟩
theorem HQ {p:bp} (hg:Good p) {n:Nat} {a:Sit} (ha:oO a) (h0:a.members≠0)
  (ih:∀(es:nf) (b:Sit),oO b->mC p es->cnt b.members<n->(gw p n es b).1=pE p b/\mC p (gw p n es b).2) (hn:cnt a.members<n+1):
  ∀{xs:List Off} {r:Int×nf},(∀x∈xs,x∈iU p (dI a.members))->mC p r.2->
   (xs.foldl (stepM p n a) r).1=xs.foldl (ky p (fu (iV a).members) a.left a.opn) r.1/\mC p (xs.foldl (stepM p n a) r).2
 |[],r,_,hr=>⟨rfl,hr⟩
 |x::xs,r,hx,hr=>by
  simp only[γw]
  have hxm:=hx x (by simp)
  have h1:(stepM p n a r x).1=ky p (fu (iV a).members) a.left a.opn r.1 x/\mC p (stepM p n a r x).2:=by
   unfold stepM ky
   by_cases hf:fitsAt p a x=true
   ·have hf2:(x.want.le a.left&&(dR p x).le a.opn)=true:=hf
    rw[if_pos hf,if_pos hf2]
    obtain⟨k1,k2,k3⟩:=PX hg ha h0 hxm hf
    have hc:cnt (lp p a x).members<n:=by
     unfold cnt at hn ⊢;rw[k2] at hn
     simpa using hn
    obtain⟨e1,e2⟩:=ih r.2 _ k1 hr hc
    refine⟨?_,e2⟩
    simp only[e1,pE,k3];rfl
   ·have hf2:¬(x.want.le a.left&&(dR p x).le a.opn)=true:=hf
    rw[if_neg hf,if_neg hf2]
    exact⟨rfl,hr⟩
  obtain⟨h2,h3⟩:=HQ hg ha h0 ih hn (xs:=xs) (λy hy=>hx y (by simp[hy])) h1.2
  exact⟨by rw[h2,h1.1],h3⟩
theorem C6 {p:bp} (hg:Good p):∀(n:Nat) (es:nf) (a:Sit),oO a->mC p es->cnt a.members<n->(gw p n es a).1=pE p a/\mC p (gw p n es a).2
 |0,_,_,_,_,h=>absurd h (by omega)
 |n+1,es,a,ha,he,hn=>by
  unfold gw
  by_cases h0:a.members=0
  ·rw[if_pos h0]
   refine⟨?_,he⟩
   unfold pE;rw[h0];rfl
  ·rw[if_neg h0]
   split
   ·rename_i v hv
    obtain⟨e,h1,h2,h3⟩:=ZW hv
    refine⟨?_,he⟩
    rw[<-h3,he e h1,h2]
   ·rename_i hv
    obtain⟨s1,s2⟩:=PY ha h0
    obtain⟨f0,f1,_⟩:=C5 ha.1 ha.2.1 h0
    have hc:cnt (iV a).members<n:=by
     unfold cnt at hn ⊢;rw[s2] at hn
     simpa using hn
    obtain⟨e1,e2⟩:=C6 hg n es _ s1 he hc
    rw[PW f0 f1]
    obtain⟨k1,k2⟩:=HQ hg ha h0 (λes b hb h1 h2=>C6 hg n es b hb h1 h2) hn (xs:=iU p (dI a.members)) (r:=gw p n es (iV a)) (λ_ h=>h) e2
    have hval:((iU p (dI a.members)).foldl (stepM p n a) (gw p n es (iV a))).1=pE p a:=by
     rw[k1,e1];unfold pE;rw[s2];rfl
    exact⟨hval,PU hval k2⟩
def ql (n:Nat):cV:=C4 108 Sit (.one (eG .sit)) (λa=>(Good a.1.p/\a.1.ls=L8.of a.1.p/\oO a.2/\mC a.1.p a.1.es)/\cnt a.2.members<n)
 (λa=> .si .i64 (gw a.1.p (cnt a.2.members+1) a.1.es a.2).1) (λa=>⟨a.1.p,a.1.ls,(gw a.1.p (cnt a.2.members+1) a.1.es a.2).2⟩)
def W9 (n:Nat):List cV:=[ql n,HJ]
def gZ (s:ku) (a:Sit) (j:Int):Int×nf:=((kx s.ls (dI a.members)).take j.toNat).foldl (stepM s.p (cnt a.members) a) (gw s.p (cnt a.members) s.es (iV a))
def PZ (s:ku) (a:Sit):Nat->cB
 |7=> .inv Int (λf=>⟨[(0,.ptr 0 0 29),(3,.ptr 2 0 13),(7,.si .i64 f)],s.o++[.cells (encS .sit a) 167 13 false]⟩) (λt=>iS t 7) (λf=>0<=f/\f<=dI a.members) (λf=>(dI a.members - f).toNat) λ_ _=> .look
 |13=> .inv Int (λj=>⟨[(0,.ptr 0 0 29),(3,.ptr 2 0 13),(9,.si .i64 (gZ s a j).1),(51,.row .off (kx s.ls (dI a.members))),(52,.si .i64 (kx s.ls (dI a.members)).length),(53,.si .i64 j)],
   (ku.o ⟨s.p,s.ls,(gZ s a j).2⟩)++[.cells (encS .sit a) 167 13 false,.cells (encS .sit (iV a)) 167 13 false]⟩) (λt=>iS t 53)
  (λj=>0<=j/\j<=(kx s.ls (dI a.members)).length) (λj=>((kx s.ls (dI a.members)).length - j).toNat) λ_ _=> .look
 |_=> .look
theorem ZX {p:bp} {n:Nat} {es:nf} {a:Sit} (h:a.members=0):gw p (n+1) es a=(0,es):=by
 unfold gw;rw[if_pos h]
theorem ZY {p:bp} {n:Nat} {es:nf} {a:Sit} {v:Int} (h:a.members≠0) (hv:jV .sit (.i .i64) a es=some v):gw p (n+1) es a=(v,es):=by
 unfold gw;rw[if_neg h,hv]
theorem ZZ {s:ku} {a:Sit} (hl:s.ls=L8.of s.p) (h:a.members≠0) (hv:jV .sit (.i .i64) a s.es=none) {j:Int} (hj:j=(kx s.ls (dI a.members)).length):
  gw s.p (cnt a.members+1) s.es a=((gZ s a j).1,mY .sit (.i .i64) a (gZ s a j).1 (gZ s a j).2):=by
 unfold gw gZ
 rw[if_neg h,hv,show j.toNat=(kx s.ls (dI a.members)).length from by omega,χ,hl]
 rfl
theorem Z1 {s:ku} {a:Sit} {j:Int} (h0:0<=j) (h1:j<(kx s.ls (dI a.members)).length):gZ s a (j+1)=stepM s.p (cnt a.members) a (gZ s a j) (bj (kx s.ls (dI a.members)) j.toNat bn.off.dflt):=by
 unfold gZ;rw[jl (d:=bn.off.dflt) h0 h1,δP];rfl
theorem Z2 {es es':nf} {kt:List Nat×Bool} (h:es=es'):(bq.map bn.sit (bn.i IntKind.i64) true es kt true).same (bq.map bn.sit (bn.i IntKind.i64) true es' kt true):=by rw[h];rfl
theorem Z3 (n:Nat) (s:ku) (a:Sit) (hg:Good s.p) (hl:s.ls=L8.of s.p) (ha:oO a) (hm:mC s.p s.es) (hn:cnt a.members<n+1):
  Vc (ve (lJ xq (fY (W9 n)) oJ oK gv) (PZ s a) (fG 108) ((ql (n+1)).put (s,a)) ((ql (n+1)).st (s,a)) λv t=>v.same ((ql (n+1)).res (s,a))/\ji t ((ql (n+1)).out (s,a))):=by
 refine bR (let c:=γe .i64;let d:=(0:Int);let e:=Φ;let f:=bq.cells;let g:=bX .i64;let h:=(1:Int);let k:=bn.i .i64;let j:=f [c s.p.supply.a0,c s.p.supply.a1,c s.p.supply.a2,c s.p.supply.a3,c s.p.supply.a4,c s.p.supply.a5,c s.p.opn.a0,c s.p.opn.a1,c s.p.opn.a2,c s.p.opn.a3,c s.p.opn.a4,c s.p.opn.a5,c s.p.cls.a0,c s.p.cls.a1,c s.p.cls.a2,c s.p.cls.a3,c s.p.cls.a4,c s.p.cls.a5,e k s.p.classes,e bn.off s.p.offers,e bn.off s.ls.l0,e bn.off s.ls.l1,e bn.off s.ls.l2,e bn.off s.ls.l3,e bn.off s.ls.l4,e bn.off s.ls.l5,e bn.off s.ls.l6,e bn.off s.ls.l7,SV.mp 1] 214 29 false;let t:=([0,0,0,0,0,0,0,0,0,0,0,0,0],true);let A:=bq.map bn.sit k true s.es t true;let O:=gw s.p (cnt a.members+1) s.es a;let P:=bq.map bn.sit k true O.snd t true;let Q:=decide (a.members=d);let G:=γq .i64 0;let H:=c O.fst;let I:=jV bn.sit k a s.es;let l:=γW 0 0 29;let m:=γW 2 0 13;let R:=[c a.left.a0,c a.left.a1,c a.left.a2,c a.left.a3,c a.left.a4,c a.left.a5,c a.opn.a0,c a.opn.a1,c a.opn.a2,c a.opn.a3,c a.opn.a4,c a.opn.a5];let o:=f (c a.members::R) 167 13 false;let w:=dI a.members;let B:=kx s.ls w;let J:=e bn.off B;let q:=(↑B.length:Int);let K:=c q;let y:=(iV a).left;let z:=(iV a).opn;let L:=f [c (iV a).members,c y.a0,c y.a1,c y.a2,c y.a3,c y.a4,c y.a5,c z.a0,c z.a1,c z.a2,c z.a3,c z.a4,c z.a5] 167 13 false;let S:=j.same j/\A.same P/\True;(Q=true->G.same H/\S)/\(Q=false->(I.isSome=true->(c (I.getD d)).same H/\S)/\(I.isSome=false->(((l.same l/\m.same m/\G.same (c 0)/\True)/\j.same j/\A.same A/\o.same o/\True)/\d<=d/\d<=w)/\∀(x:Int),let T:=decide (fh.tG .i64 (a.members / (2:Int)^x.toNat) h=d);let C:=x+h;let U:=c C;let V:=h*(2:Int)^x.toNat;let D:=fh.ra .i64 a.members V;let W:=Sit.mk D a.left a.opn;let X:=gw s.p (cnt D+1) s.es W;let Y:=bj [s.ls.l0,s.ls.l1,s.ls.l2,s.ls.l3,s.ls.l4,s.ls.l5,s.ls.l6,s.ls.l7] x.toNat [];d<=x/\x<=w->d<=x/\x<=(64:Int)/\(T=true->g C/\((l.same l/\m.same m/\U.same U/\True)/\j.same j/\A.same A/\o.same o/\True)/\(d<=C/\C<=w)/\(w - C).toNat<(w - x).toNat)/\(T=false->d<=x/\x<=(64:Int)/\g V/\((Good s.p/\s.ls=L8.of s.p/\oO W/\mC s.p s.es)/\cnt D<n)/\d<=x/\x<(8:Int)/\x.toNat<8/\(((l.same l/\m.same m/\(c X.fst).same (c (gZ s a d).fst)/\(e bn.off Y).same J/\(c (↑Y.length:Int)).same K/\G.same (c 0)/\True)/\j.same j/\(bq.map bn.sit k true X.snd t true).same (bq.map bn.sit k true (gZ s a d).snd t true)/\o.same o/\(f (c D::R) 167 13 false).same L/\True)/\d<=d/\d<=q)/\∀(x:Int),let v:=x+h;let Z:=c v;let r:=bj B x.toNat bn.off.dflt;let E:=su s.p a r;let M:=(gZ s a x).snd;let N:=gw s.p (cnt E.members+1) M E;let F:=(gZ s a x).fst;let a6:=λ(u:Int) (u_1:Int×nf) ↦g v/\((l.same l/\m.same m/\(c u).same (c (gZ s a v).fst)/\J.same J/\K.same K/\Z.same Z/\True)/\j.same j/\(bq.map bn.sit k true u_1.snd t true).same (bq.map bn.sit k true (gZ s a v).snd t true)/\o.same o/\L.same L/\True)/\(d<=v/\v<=q)/\(q - v).toNat<(q - x).toNat;d<=x/\x<=q->(decide (x<q)=true->d<=x/\x<(↑B.length:Int)/\x.toNat<B.length/\(s.p.classes.length<=8/\d<=r.bF/\r.bF<(↑s.p.classes.length:Int)/\a.b/\r.want.ok=true)/\(fitsAt s.p a r=true->((Good s.p/\s.ls=L8.of s.p/\oO E/\mC s.p M)/\cnt E.members<n)/\g (r.value+N.fst)/\a6 (max F (r.value+N.fst)) N)/\(fitsAt s.p a r=false->a6 F (gZ s a x)))/\(decide (x<q)=false->(c F).same H/\j.same j/\(bq.map bn.sit k true (mY bn.sit k a F M) t true).same P/\True))))) (by kernel_rfl) ?_
 simp only[vcs]
 refine⟨λh0=>?_,λh0=>⟨λhf=>?_,λhf=>?_⟩⟩
 ·rw[ZX h0]
  exact⟨rfl,rfl⟩
 ·obtain⟨v,hv⟩:=γk.1 hf
  rw[ZY h0 hv,hv]
  exact⟨rfl,rfl⟩
 ·have hnone:jV .sit (.i .i64) a s.es=none:=by simpa using hf
  obtain⟨f0,f1,f2,f3,f4⟩:=C5 ha.1 ha.2.1 h0
  obtain⟨s1,s2⟩:=PY ha h0
  have hcs:cnt (iV a).members+1=cnt a.members:=by unfold cnt;rw[s2];simp
  have hle:kx s.ls (dI a.members)=iU s.p (dI a.members):=by rw[hl];exact PW f0 f1
  have hll:(kx s.ls (dI a.members)).length<=160:=by rw[hle];exact Nat.le_trans (γC _ _) hg.2.1
  have HS:=C6 hg (cnt a.members)
  obtain⟨q1,q2⟩:=HS s.es _ s1 hm (by omega)
  have hrun:∀j:Int,0<=(gZ s a j).1/\(gZ s a j).1<=9000000/\mC s.p (gZ s a j).2:=by
   intro j
   have hmem:∀x∈(kx s.ls (dI a.members)).take j.toNat,x∈iU s.p (dI a.members):=λx hx=>by rw[hle] at hx;exact γm hx
   obtain⟨k1,k2⟩:=HQ hg ha h0 (n:=cnt a.members) (λes b hb h1 h2=>HS es b hb h1 h2) (by omega) (xs:=(kx s.ls (dI a.members)).take j.toNat) (r:=gw s.p (cnt a.members) s.es (iV a)) hmem q2
   have hB:=HL (l:=a.left) (o:=a.opn) (fs:=fu (iV a).members) hg 8000000 (λl o=>by
    have:=HM hg (fu (iV a).members) l o
    have:=@HN (iV a).members
    omega) (xs:=(kx s.ls (dI a.members)).take j.toNat) (v:=(gw s.p (cnt a.members) s.es (iV a)).1) (λx hx=>(γi.1 (hmem x hx)).1) (by
     rw[q1]
     have:=HO hg (iV a)
     omega)
   unfold gZ;rw[k1]
   exact⟨hB.1,hB.2,k2⟩
  refine⟨⟨by omega,f0⟩,?_⟩
  rintro f ⟨g0,g1⟩
  refine⟨g0,by omega,λhb=>⟨by omega,⟨by omega,?_⟩,?_⟩,λhb=>?_⟩
  ·have:f≠dI a.members:=λe=>f2 (by rw[<-e];exact hb)
   omega
  ·have:f≠dI a.members:=λe=>f2 (by rw[<-e];exact hb)
   omega
  ·have hfe:f=dI a.members:=by
    by_cases hlt:f<dI a.members
    ·exact absurd (f4 f g0 hlt) hb
    ·omega
   subst hfe;simp only[δ3]
   have hp:(2:Int)^(dI a.members).toNat<=256/\0<(2:Int)^(dI a.members).toNat:=by
    have:(dI a.members).toNat=0\/(dI a.members).toNat=1\/(dI a.members).toNat=2\/(dI a.members).toNat=3\/(dI a.members).toNat=4\/(dI a.members).toNat=5\/(dI a.members).toNat=6\/(dI a.members).toNat=7:=by omega
    rcases this with h|h|h|h|h|h|h|h<;>rw[h]<;>decide
   have hsk:fh.ra .i64 a.members (2^(dI a.members).toNat)=(iV a).members:=rfl
   simp only[hsk]
   have hse:(⟨(iV a).members,a.left,a.opn⟩:Sit)=iV a:=rfl
   simp only[hse,hcs]
   have hr0:gZ s a 0=gw s.p (cnt a.members) s.es (iV a):=rfl
   refine⟨g0,by omega,⟨by omega,by omega⟩,⟨⟨hg,hl,s1,hm⟩,by omega⟩,g0,f1,by omega,⟨⟨⟨?_,rfl,rfl⟩,Z2 (by rw[hr0]),rfl⟩,by omega,by omega⟩,?_⟩
   ·rw[hr0]
   rintro j ⟨j0,j1⟩
   obtain⟨b1,b2,b3⟩:=hrun j
   refine⟨λC7=>?_,λZ4=>?_⟩
   ·have hsucc:=Z1 (s:=s) (a:=a) j0 C7
    have hxm:=de (d:=bn.off.dflt) (show j.toNat<(kx s.ls (dI a.members)).length by omega)
    generalize bj (kx s.ls (dI a.members)) j.toNat bn.off.dflt=x at hsucc hxm ⊢
    rw[hle] at hxm
    have hxo:=(γi.1 hxm).1
    have hxv:=hg.2.2.2.2 x hxo
    refine⟨j0,C7,by omega,⟨hg.1,hxv.1,hxv.2.1,ha.2.2,hxv.2.2.1⟩,λhfit=>?_,λhfit=>?_⟩
    ·obtain⟨k1,k2,k3⟩:=PX hg ha h0 hxm hfit
     have hcn:cnt (lp s.p a x).members+1=cnt a.members:=by unfold cnt;rw[k2];simp
     have Z5:su s.p a x=lp s.p a x:=by unfold su;rw[if_pos hfit]
     simp only[Z5,hcn]
     obtain⟨e1,e2⟩:=HS (gZ s a j).2 _ k1 b3 (by omega)
     have hbd:=HO hg (lp s.p a x)
     have hst:gZ s a (j+1)=(max (gZ s a j).1 (x.value+(gw s.p (cnt a.members) (gZ s a j).2 (lp s.p a x)).1),(gw s.p (cnt a.members) (gZ s a j).2 (lp s.p a x)).2):=by
      rw[hsucc];unfold stepM;rw[if_pos hfit]
     rw[hst]
     refine⟨⟨⟨hg,hl,k1,b3⟩,by omega⟩,by rw[e1];omega,by omega,⟨rfl,rfl⟩,by omega,by omega⟩
    ·have hst:gZ s a (j+1)=gZ s a j:=by
      rw[hsucc];unfold stepM;rw[if_neg (by simp[hfit])]
     rw[hst]
     refine⟨?_,⟨rfl,rfl⟩,?_,?_⟩<;>omega
   ·have hj:j=(kx s.ls (dI a.members)).length:=by omega
    rw[ZZ hl h0 hnone hj]
    exact⟨rfl,rfl⟩
theorem HT:∀n,dK Tryz.prog (ql n)
 |0=>by
  rintro⟨s,a⟩ ⟨_,h⟩
  exact absurd h (Nat.not_lt_zero _)
 |n+1=>by
  rintro⟨s,a⟩ ⟨h1,h2⟩
  by_cases hc:cnt a.members<n
  ·exact HT n (s,a) ⟨h1,hc⟩
  ·refine CH (ql (n+1)) (W:=W9 n) (Λ:=λx=>PZ x.1 x.2) pD (by simp only[W9,γG,δk,false_implies,implies_true,and_true];exact⟨HT n,h116⟩) C2
    (show gv 108=some (fG 108) by kernel_rfl) (λ_=>rfl) (s,a) ?_ (Z3 n s a h1.1 h1.2.1 h1.2.2.1 h1.2.2.2 h2).out
   intro d hd b hb1 hb2 hb3
   have hd2:d=ql n:=by
    have:kR 108 (W9 n)=some (ql n):=rfl
    have hd3:kR 108 (W9 n)=some d:=hd
    rw[this] at hd3;injection hd3 with hd3;exact hd3.symm
   subst hd2
   have hb:(s,a)=b:=(ql n).inj (s,a) b hb1 hb2
   subst hb
   exact hc hb3.2
def HU:cV where
 f:=107
 α:=bp
 put p:=[dG.put p]
 st _:=[]
 dec v o:=match v,o with
  |[v],[]=>dG.dec v
  |_,_=>none
 ok v o a h:=by
  split at h
  ·exact⟨by simp only[gL,dG.ok _ _ h],rfl⟩
  ·cases h
 inj a b h _:=by
  simp only[gL,π,and_true] at h
  exact dG.inj _ _ h
 dom p:=Good p
 res _:=.ptr 0 0 29
 out p:=ku.o ⟨p,L8.of p,[]⟩
def Z6:Nat->Option (Nat×Nat×Nat)
 |5=>some (11,0,8)
 |_=>none
def dn (p:bp) (i:Int) (j:Int):List Off:=(p.offers.take i.toNat).filter λx=>decide (x.bF=j)
def Z7 (p:bp):Nat->cB
 |3=> .inv Int (λi=>⟨[(3,.ptr 2 0 29),(11,.row .off p.offers),(12,.si .i64 p.offers.length),(13,.si .i64 i)],
  [.cells p.ss 27 20 false,.map .sit (.i .i64) true [] ([0,0,0,0,0,0,0,0,0,0,0,0,0],true) true,
   .cells [.si .i64 p.supply.a0,.si .i64 p.supply.a1,.si .i64 p.supply.a2,.si .i64 p.supply.a3,.si .i64 p.supply.a4,.si .i64 p.supply.a5,
    .si .i64 p.opn.a0,.si .i64 p.opn.a1,.si .i64 p.opn.a2,.si .i64 p.opn.a3,.si .i64 p.opn.a4,.si .i64 p.opn.a5,
    .si .i64 p.cls.a0,.si .i64 p.cls.a1,.si .i64 p.cls.a2,.si .i64 p.cls.a3,.si .i64 p.cls.a4,.si .i64 p.cls.a5,
    .row (.i .i64) p.classes,.row .off p.offers,.ow 3 (dn p i 0).length 8,.ow 4 (dn p i 1).length 8,.ow 5 (dn p i 2).length 8,.ow 6 (dn p i 3).length 8,.ow 7 (dn p i 4).length 8,.ow 8 (dn p i 5).length 8,.ow 9 (dn p i 6).length 8,.ow 10 (dn p i 7).length 8,.mp 1] 214 29 false,
   .row .off (dn p i 0) 39 true,.row .off (dn p i 1) 39 true,.row .off (dn p i 2) 39 true,.row .off (dn p i 3) 39 true,.row .off (dn p i 4) 39 true,.row .off (dn p i 5) 39 true,.row .off (dn p i 6) 39 true,.row .off (dn p i 7) 39 true]⟩)
  (λs=>iS s 13) (λi=>0<=i/\i<=p.offers.length) (λi=>(p.offers.length - i).toNat) λ_ _=> .look
 |_=> .look
theorem tW {p:bp} {i:Int} {j:Int} (h0:0<=i) (h1:i<p.offers.length) (h:(bj p.offers i.toNat bn.off.dflt).bF=j):dn p (i+1) j=dn p i j++[bj p.offers i.toNat bn.off.dflt]:=by
 unfold dn;rw[jl (d:=bn.off.dflt) h0 h1,δt]
 simp[h]
theorem dO {p:bp} {i:Int} {j:Int} (h0:0<=i) (h1:i<p.offers.length) (h:(bj p.offers i.toNat bn.off.dflt).bF≠j):dn p (i+1) j=dn p i j:=by
 unfold dn;rw[jl (d:=bn.off.dflt) h0 h1,δt]
 simp[h]
theorem h113:dK Tryz.prog HU:=by
 refine CN (L:=[]) (W:=[]) HU Z6 Z7 (by simp) (by simp) ?_
 intro(p:bp) (hp:Good p)
 refine bR (let a:=bq.row;let b:=γe .i64;let c:=γ8;let d:=(0:Int);let e:=Φ;let f:=bq.cells;let g:=(1:Int);let h:=(2:Int);let j:=(3:Int);let k:=(4:Int);let l:=(5:Int);let m:=(6:Int);let n:=(7:Int);let o:=bX .i64;let w:=b p.supply.a0;let y:=b p.supply.a1;let z:=b p.supply.a2;let A:=b p.supply.a3;let B:=b p.supply.a4;let C:=b p.supply.a5;let D:=b p.opn.a0;let E:=b p.opn.a1;let F:=b p.opn.a2;let G:=b p.opn.a3;let H:=b p.opn.a4;let I:=b p.opn.a5;let J:=b p.cls.a0;let K:=b p.cls.a1;let L:=b p.cls.a2;let M:=b p.cls.a3;let N:=b p.cls.a4;let O:=b p.cls.a5;let P:=e (bn.i .i64) p.classes;let r:=e bn.off p.offers;let v:=γW 2 0 29;let aC:=(↑p.offers.length:Int);let s:=(↑p.offers.length:Int);let Q:=b s;let t:=bq.map bn.sit (bn.i .i64) true [] ([0,0,0,0,0,0,0,0,0,0,0,0,0],true) true;let W:=[SV.mp 1];let aD:=dn p d d;let aE:=dn p d g;let aF:=dn p d h;let aG:=dn p d j;let aH:=dn p d k;let aI:=dn p d l;let aJ:=dn p d m;let aK:=dn p d n;let R:=a bn.off [] 39 true;let aL:=γW 0 0 29;let ab:=λ(u:List SV) (u_1 u_2:Nat) (u_3:List SV) ↦(f (w::y::z::A::B::C::D::E::F::G::H::I::J::K::L::M::N::O::P::r::u) u_1 u_2 false).same (f (w::y::z::A::B::C::D::E::F::G::H::I::J::K::L::M::N::O::P::r::u_3) u_1 u_2 false);(((v.same v/\r.same r/\(b aC).same Q/\(γq .i64 0).same (b 0)/\True)/\ab [] 27 20 []/\t.same t/\ab (c 3 0 8::c 4 0 8::c 5 0 8::c 6 0 8::c 7 0 8::c 8 0 8::c 9 0 8::c 10 0 8::W) 214 29 (c 3 aD.length 8::c 4 aE.length 8::c 5 aF.length 8::c 6 aG.length 8::c 7 aH.length 8::c 8 aI.length 8::c 9 aJ.length 8::c 10 aK.length 8::W)/\R.same (a bn.off aD 39 true)/\R.same (a bn.off aE 39 true)/\R.same (a bn.off aF 39 true)/\R.same (a bn.off aG 39 true)/\R.same (a bn.off aH 39 true)/\R.same (a bn.off aI 39 true)/\R.same (a bn.off aJ 39 true)/\R.same (a bn.off aK 39 true)/\True)/\d<=d/\d<=s)/\∀(x:Int),let X:=dn p x h;let ac:=a bn.off X 39 true;let q:=x+g;let ad:=a bn.off (dn p q h) 39 true;let Y:=dn p x j;let ae:=a bn.off Y 39 true;let af:=a bn.off (dn p q j) 39 true;let Z:=dn p x k;let ag:=a bn.off Z 39 true;let ah:=a bn.off (dn p q k) 39 true;let a6:=dn p x l;let ai:=a bn.off a6 39 true;let aj:=a bn.off (dn p q l) 39 true;let a7:=dn p x m;let ak:=a bn.off a7 39 true;let al:=a bn.off (dn p q m) 39 true;let a8:=dn p x n;let am:=a bn.off a8 39 true;let an:=a bn.off (dn p q n) 39 true;let S:=bj p.offers x.toNat bn.off.dflt;let T:=b q;let a9:=dn p x d;let av:=c 3 a9.length 8;let aa:=dn p x g;let aw:=c 4 aa.length 8;let ax:=c 5 X.length 8;let ay:=c 6 Y.length 8;let az:=c 7 Z.length 8;let aA:=c 8 a6.length 8;let ao:=f (w::y::z::A::B::C::D::E::F::G::H::I::J::K::L::M::N::O::P::r::c 3 (dn p q d).length 8::c 4 (dn p q g).length 8::c 5 (dn p q h).length 8::c 6 (dn p q j).length 8::c 7 (dn p q k).length 8::c 8 (dn p q l).length 8::c 9 (dn p q m).length 8::c 10 (dn p q n).length 8::W) 214 29 false;let ap:=a bn.off a9 39 true;let aq:=a bn.off (dn p q d) 39 true;let ar:=a bn.off aa 39 true;let au:=a bn.off (dn p q g) 39 true;let aB:=c 9 a7.length 8::c 10 a8.length 8::W;let U:=S.want;let V:=S.value;let aM:=a9++[Off.mk d U V];let aN:=aa++[Off.mk g U V];let aO:=X++[Off.mk h U V];let aP:=Y++[Off.mk j U V];let aQ:=Z++[Off.mk k U V];let aR:=a6++[Off.mk l U V];let aS:=a7++[Off.mk m U V];let aT:=a8++[Off.mk n U V];let aY:=ac.same ad/\ae.same af/\ag.same ah/\ai.same aj/\ak.same al/\am.same an/\True;let aZ:=ag.same ah/\ai.same aj/\ak.same al/\am.same an/\True;let b0:=ak.same al/\am.same an/\True;let aU:=λ(u:Int) (u_1 u_2:Nat) (u_3 u_4:bq) ↦let z89:Nat:=(dn p x u).length;S.bF=u->1=1/\(dn p x u).length=z89/\(z89+1)*64<=140737488355328/\z89+1<=1000000000000/\o q/\((v.same v/\r.same r/\Q.same Q/\T.same T/\True)/\ab [] 27 20 []/\t.same t/\(f (w::y::z::A::B::C::D::E::F::G::H::I::J::K::L::M::N::O::P::r::av::aw::ax::ay::az::aA::c 9 u_1 8::c 10 u_2 8::W) 214 29 false).same ao/\ap.same aq/\ar.same au/\ac.same ad/\ae.same af/\ag.same ah/\ai.same aj/\u_3.same al/\u_4.same an/\True)/\(d<=q/\q<=s)/\(s - q).toNat<(s - x).toNat;let aV:=λ(u:Int) (u_1 u_2:Nat) (u_3 u_4:bq) ↦let HV:Nat:=(dn p x u).length;S.bF=u->1=1/\(dn p x u).length=HV/\(HV+1)*64<=140737488355328/\HV+1<=1000000000000/\o q/\((v.same v/\r.same r/\Q.same Q/\T.same T/\True)/\ab [] 27 20 []/\t.same t/\(f (w::y::z::A::B::C::D::E::F::G::H::I::J::K::L::M::N::O::P::r::av::aw::ax::ay::c 7 u_1 8::c 8 u_2 8::aB) 214 29 false).same ao/\ap.same aq/\ar.same au/\ac.same ad/\ae.same af/\u_3.same ah/\u_4.same aj/\b0)/\(d<=q/\q<=s)/\(s - q).toNat<(s - x).toNat;let aW:=λ(u:Int) (u_1 u_2:Nat) (u_3 u_4:bq) ↦let z91:Nat:=(dn p x u).length;S.bF=u->1=1/\(dn p x u).length=z91/\(z91+1)*64<=140737488355328/\z91+1<=1000000000000/\o q/\((v.same v/\r.same r/\Q.same Q/\T.same T/\True)/\ab [] 27 20 []/\t.same t/\(f (w::y::z::A::B::C::D::E::F::G::H::I::J::K::L::M::N::O::P::r::av::aw::c 5 u_1 8::c 6 u_2 8::az::aA::aB) 214 29 false).same ao/\ap.same aq/\ar.same au/\u_3.same ad/\u_4.same af/\aZ)/\(d<=q/\q<=s)/\(s - q).toNat<(s - x).toNat;let aX:=λ(u:Int) (u_1 u_2:Nat) (u_3 u_4:bq) ↦let HW:Nat:=(dn p x u).length;S.bF=u->1=1/\(dn p x u).length=HW/\(HW+1)*64<=140737488355328/\HW+1<=1000000000000/\o q/\((v.same v/\r.same r/\Q.same Q/\T.same T/\True)/\ab [] 27 20 []/\t.same t/\(f (w::y::z::A::B::C::D::E::F::G::H::I::J::K::L::M::N::O::P::r::c 3 u_1 8::c 4 u_2 8::ax::ay::az::aA::aB) 214 29 false).same ao/\u_3.same aq/\u_4.same au/\aY)/\(d<=q/\q<=s)/\(s - q).toNat<(s - x).toNat;d<=x/\x<=s->(decide (x<s)=true->d<=x/\x<aC/\x.toNat<p.offers.length/\aX d aM.length aa.length (a bn.off aM 39 true) ar/\aX g a9.length aN.length ap (a bn.off aN 39 true)/\aW h aO.length Y.length (a bn.off aO 39 true) ae/\aW j X.length aP.length ac (a bn.off aP 39 true)/\aV k aQ.length a6.length (a bn.off aQ 39 true) ai/\aV l Z.length aR.length ag (a bn.off aR 39 true)/\aU m aS.length a8.length (a bn.off aS 39 true) am/\aU n a7.length aT.length ak (a bn.off aT 39 true)/\d<=S.bF/\S.bF<(8:Int))/\(decide (x<s)=false->a9.length=a9.length/\aa.length=aa.length/\X.length=X.length/\Y.length=Y.length/\Z.length=Z.length/\a6.length=a6.length/\a7.length=a7.length/\a8.length=a8.length/\aL.same aL/\(f (w::y::z::A::B::C::D::E::F::G::H::I::J::K::L::M::N::O::P::r::e bn.off a9::e bn.off aa::e bn.off X::e bn.off Y::e bn.off Z::e bn.off a6::e bn.off a7::e bn.off a8::W) 214 29 false).same (f (w::y::z::A::B::C::D::E::F::G::H::I::J::K::L::M::N::O::P::r::e bn.off (L8.of p).l0::e bn.off (L8.of p).l1::e bn.off (L8.of p).l2::e bn.off (L8.of p).l3::e bn.off (L8.of p).l4::e bn.off (L8.of p).l5::e bn.off (L8.of p).l6::e bn.off (L8.of p).l7::W) 214 29 false)/\t.same t/\True)) (by kernel_rfl) ?_
 conv=>zeta
 try simp only[vcs]
 have hz:∀j,dn p 0 j=[]:=λj=>rfl
 have hlen:∀i j,(dn p i j).length<=160:=λi j=>by
  have h1:=γC (λx:Off=>decide (x.bF=j)) (p.offers.take i.toNat)
  have h2:=hp.2.1
  simp only[Ξ] at h1;unfold dn;omega
 have h160:=hp.2.1
 refine⟨⟨by simp only[hz];exact⟨rfl,rfl,rfl,rfl,rfl,rfl,rfl,rfl,rfl⟩,by omega,by omega⟩,?_⟩
 rintro i ⟨hi0,hi1⟩
 refine⟨λhlt=>⟨hi0,hlt,by omega,?c0,?c1,?c2,?c3,?c4,?c5,?c6,?c7,?cb⟩,λhge=>?ce⟩
 case c0=>
  intro hb
  have hx:(⟨0,(bj p.offers i.toNat bn.off.dflt).want,(bj p.offers i.toNat bn.off.dflt).value⟩:Off)=bj p.offers i.toNat bn.off.dflt:=by rw[<-hb]
  simp only[hx];rw[tW (j:=0) hi0 hlt hb]
  rw[dO (j:=1) hi0 hlt (by rw[hb];decide)]
  rw[dO (j:=2) hi0 hlt (by rw[hb];decide)]
  rw[dO (j:=3) hi0 hlt (by rw[hb];decide)]
  rw[dO (j:=4) hi0 hlt (by rw[hb];decide)]
  rw[dO (j:=5) hi0 hlt (by rw[hb];decide)]
  rw[dO (j:=6) hi0 hlt (by rw[hb];decide)]
  rw[dO (j:=7) hi0 hlt (by rw[hb];decide)]
  have hl:=hlen i 0
  refine⟨?_,?_,?_,⟨rfl,rfl,rfl,rfl,rfl,rfl,rfl,rfl,rfl⟩,?_,?_⟩<;>omega
 case c1=>
  intro hb
  have hx:(⟨1,(bj p.offers i.toNat bn.off.dflt).want,(bj p.offers i.toNat bn.off.dflt).value⟩:Off)=bj p.offers i.toNat bn.off.dflt:=by rw[<-hb]
  simp only[hx]
  rw[dO (j:=0) hi0 hlt (by rw[hb];decide)]
  rw[tW (j:=1) hi0 hlt hb]
  rw[dO (j:=2) hi0 hlt (by rw[hb];decide)]
  rw[dO (j:=3) hi0 hlt (by rw[hb];decide)]
  rw[dO (j:=4) hi0 hlt (by rw[hb];decide)]
  rw[dO (j:=5) hi0 hlt (by rw[hb];decide)]
  rw[dO (j:=6) hi0 hlt (by rw[hb];decide)]
  rw[dO (j:=7) hi0 hlt (by rw[hb];decide)]
  have hl:=hlen i 1
  refine⟨?_,?_,?_,⟨rfl,rfl,rfl,rfl,rfl,rfl,rfl,rfl,rfl⟩,?_,?_⟩<;>omega
 case c2=>
  intro hb
  have hx:(⟨2,(bj p.offers i.toNat bn.off.dflt).want,(bj p.offers i.toNat bn.off.dflt).value⟩:Off)=bj p.offers i.toNat bn.off.dflt:=by rw[<-hb]
  simp only[hx]
  rw[dO (j:=0) hi0 hlt (by rw[hb];decide)]
  rw[dO (j:=1) hi0 hlt (by rw[hb];decide)]
  rw[tW (j:=2) hi0 hlt hb]
  rw[dO (j:=3) hi0 hlt (by rw[hb];decide)]
  rw[dO (j:=4) hi0 hlt (by rw[hb];decide)]
  rw[dO (j:=5) hi0 hlt (by rw[hb];decide)]
  rw[dO (j:=6) hi0 hlt (by rw[hb];decide)]
  rw[dO (j:=7) hi0 hlt (by rw[hb];decide)]
  have hl:=hlen i 2
  refine⟨?_,?_,?_,⟨rfl,rfl,rfl,rfl,rfl,rfl,rfl,rfl,rfl⟩,?_,?_⟩<;>omega
 case c3=>
  intro hb
  have hx:(⟨3,(bj p.offers i.toNat bn.off.dflt).want,(bj p.offers i.toNat bn.off.dflt).value⟩:Off)=bj p.offers i.toNat bn.off.dflt:=by rw[<-hb]
  simp only[hx]
  rw[dO (j:=0) hi0 hlt (by rw[hb];decide)]
  rw[dO (j:=1) hi0 hlt (by rw[hb];decide)]
  rw[dO (j:=2) hi0 hlt (by rw[hb];decide)]
  rw[tW (j:=3) hi0 hlt hb]
  rw[dO (j:=4) hi0 hlt (by rw[hb];decide)]
  rw[dO (j:=5) hi0 hlt (by rw[hb];decide)]
  rw[dO (j:=6) hi0 hlt (by rw[hb];decide)]
  rw[dO (j:=7) hi0 hlt (by rw[hb];decide)]
  have hl:=hlen i 3
  refine⟨?_,?_,?_,⟨rfl,rfl,rfl,rfl,rfl,rfl,rfl,rfl,rfl⟩,?_,?_⟩<;>omega
 case c4=>
  intro hb
  have hx:(⟨4,(bj p.offers i.toNat bn.off.dflt).want,(bj p.offers i.toNat bn.off.dflt).value⟩:Off)=bj p.offers i.toNat bn.off.dflt:=by rw[<-hb]
  simp only[hx]
  rw[dO (j:=0) hi0 hlt (by rw[hb];decide)]
  rw[dO (j:=1) hi0 hlt (by rw[hb];decide)]
  rw[dO (j:=2) hi0 hlt (by rw[hb];decide)]
  rw[dO (j:=3) hi0 hlt (by rw[hb];decide)]
  rw[tW (j:=4) hi0 hlt hb]
  rw[dO (j:=5) hi0 hlt (by rw[hb];decide)]
  rw[dO (j:=6) hi0 hlt (by rw[hb];decide)]
  rw[dO (j:=7) hi0 hlt (by rw[hb];decide)]
  have hl:=hlen i 4
  refine⟨?_,?_,?_,⟨rfl,rfl,rfl,rfl,rfl,rfl,rfl,rfl,rfl⟩,?_,?_⟩<;>omega
 case c5=>
  intro hb
  have hx:(⟨5,(bj p.offers i.toNat bn.off.dflt).want,(bj p.offers i.toNat bn.off.dflt).value⟩:Off)=bj p.offers i.toNat bn.off.dflt:=by rw[<-hb]
  simp only[hx]
  rw[dO (j:=0) hi0 hlt (by rw[hb];decide)]
  rw[dO (j:=1) hi0 hlt (by rw[hb];decide)]
  rw[dO (j:=2) hi0 hlt (by rw[hb];decide)]
  rw[dO (j:=3) hi0 hlt (by rw[hb];decide)]
  rw[dO (j:=4) hi0 hlt (by rw[hb];decide)]
  rw[tW (j:=5) hi0 hlt hb]
  rw[dO (j:=6) hi0 hlt (by rw[hb];decide)]
  rw[dO (j:=7) hi0 hlt (by rw[hb];decide)]
  have hl:=hlen i 5
  refine⟨?_,?_,?_,⟨rfl,rfl,rfl,rfl,rfl,rfl,rfl,rfl,rfl⟩,?_,?_⟩<;>omega
 case c6=>
  intro hb
  have hx:(⟨6,(bj p.offers i.toNat bn.off.dflt).want,(bj p.offers i.toNat bn.off.dflt).value⟩:Off)=bj p.offers i.toNat bn.off.dflt:=by rw[<-hb]
  simp only[hx]
  rw[dO (j:=0) hi0 hlt (by rw[hb];decide)]
  rw[dO (j:=1) hi0 hlt (by rw[hb];decide)]
  rw[dO (j:=2) hi0 hlt (by rw[hb];decide)]
  rw[dO (j:=3) hi0 hlt (by rw[hb];decide)]
  rw[dO (j:=4) hi0 hlt (by rw[hb];decide)]
  rw[dO (j:=5) hi0 hlt (by rw[hb];decide)]
  rw[tW (j:=6) hi0 hlt hb]
  rw[dO (j:=7) hi0 hlt (by rw[hb];decide)]
  have hl:=hlen i 6
  refine⟨?_,?_,?_,⟨rfl,rfl,rfl,rfl,rfl,rfl,rfl,rfl,rfl⟩,?_,?_⟩<;>omega
 case c7=>
  intro hb
  have hx:(⟨7,(bj p.offers i.toNat bn.off.dflt).want,(bj p.offers i.toNat bn.off.dflt).value⟩:Off)=bj p.offers i.toNat bn.off.dflt:=by rw[<-hb]
  simp only[hx]
  rw[dO (j:=0) hi0 hlt (by rw[hb];decide)]
  rw[dO (j:=1) hi0 hlt (by rw[hb];decide)]
  rw[dO (j:=2) hi0 hlt (by rw[hb];decide)]
  rw[dO (j:=3) hi0 hlt (by rw[hb];decide)]
  rw[dO (j:=4) hi0 hlt (by rw[hb];decide)]
  rw[dO (j:=5) hi0 hlt (by rw[hb];decide)]
  rw[dO (j:=6) hi0 hlt (by rw[hb];decide)]
  rw[tW (j:=7) hi0 hlt hb]
  have hl:=hlen i 7
  refine⟨?_,?_,?_,⟨rfl,rfl,rfl,rfl,rfl,rfl,rfl,rfl,rfl⟩,?_,?_⟩<;>omega
 case cb=>
  have hv:=hp.2.2.2.2 _ (de (d:=bn.off.dflt) (show i.toNat<p.offers.length by omega))
  have:=hp.1
  exact⟨hv.1,by omega⟩
 case ce=>
  have hb:∀j,dn p i j=iU p j:=λj=>by unfold dn iU;rw[show i.toNat=p.offers.length from by omega,χ]
  simp only[hb];rfl
theorem dL {p:bp} (h:bC p=0):Good p:=by
 obtain⟨e,k⟩:=rj h
 obtain⟨b,a,m,g,q⟩:=sr e
 refine⟨m,g,b,?_,λx o=>?_⟩
 ·have d:=bz.fA.1 b
  have f:=nP.1 (a 0 (by omega))
  have c:=nP.1 (a 1 (by omega))
  have i:=nP.1 (a 2 (by omega))
  have l:=nP.1 (a 3 (by omega))
  have n:=nP.1 (a 4 (by omega))
  have j:=nP.1 (a 5 (by omega))
  simp[bj] at f c i l n j
  grind[bz.fA]
 ·have d:=xo (xp (k x o)).1
  simp_all
theorem sw {n:Nat} (h:n<=8):(2:Int)^n<=256/\0<(2:Int)^n:=by
 have:n=0\/n=1\/n=2\/n=3\/n=4\/n=5\/n=6\/n=7\/n=8:=by omega
 rcases this with h|h|h|h|h|h|h|h|h<;>rw[h]<;>decide
def iW (p:bp) (m:Int):Int:=if jW p m=0 then pE p ⟨m,p.supply,p.opn⟩ else 0
theorem P0 (p:bp) (m:Int):0<=iW p m/\iW p m<=8000000:=by
 unfold iW;split
 ·rename_i h
  have hc:bC p=0:=by
   unfold jW at h;split at h
   ·rename_i h1;exact absurd h h1
   ·rename_i h1;exact Γ.1 h1
  exact HO (dL hc) _
 ·omega
theorem Z8 {p:bp} {m:Int} (h:jW p m=0):bC p=0/\0<=m/\m<2^p.classes.length:=by
 unfold jW at h;split at h
 ·rename_i h1;exact absurd h h1
 ·rename_i h1
  split at h
  ·cases h
  ·rename_i h2
   exact⟨Γ.1 h1,by omega,by omega⟩
def HY:bM:=⟨73,bp×Int,.cons dG (.one (ez .i64)),λ_=>True,λa=> .bH [.si .i64 (iW a.1 a.2),.si .i64 (jW a.1 a.2)]⟩
def WB:List cV:=[HU,HH,ql 9]
theorem Z9:∀c∈WB,dK Tryz.prog c:=by
 simp only[WB,γG,δk,false_implies,implies_true,and_true]
 exact⟨h113,h114,HT 9⟩
theorem h80:Holds Tryz.prog HY:=by
 refine con (L:=xq) (W:=fY WB) HY lk (ln Z9) C2 ?_
 rintro⟨p,m⟩ _
 refine bR (let a:=γe .i64;let b:=SV.bH;let c:=decide (jW p m≠(0:Int));let d:=γq .i64 0;let e:=[a (jW p m)];let f:=b (a (iW p m)::e);let g:=Sit.mk m p.supply p.opn;True/\(c=true->(b (d::e)).same f)/\(c=false->Good p/\True/\((Good p/\L8.of p=L8.of p/\oO g/\mC p [])/\cnt m<9)/\(b [a (gw p (cnt m+1) [] g).fst,d]).same f)) (by kernel_rfl) ?_
 simp only[vcs]
 refine⟨λh=>by simp[iW,h],λh=>?_⟩
 have hz:jW p m=0:=Γ.1 h
 obtain⟨hc,h1,h2⟩:=Z8 hz
 have hg:=dL hc
 have hp:=sw hg.1
 have ha:oO ⟨m,p.supply,p.opn⟩:=⟨h1,by simp only;omega,hg.2.2.1,hg.2.2.2.1⟩
 have hm:mC p []:=λe he=>by simp at he
 have hn:cnt m<9:=by have:=@HN m;unfold cnt;omega
 have hb:=C6 hg (cnt m+1) [] ⟨m,p.supply,p.opn⟩ ha hm (by simp only;omega)
 refine⟨hg,⟨⟨hg,ha,hm⟩,hn⟩,?_,hz.symm⟩
 rw[hb.1]
 simp[iW,hz]
def LB:List bM:=HY::xq
theorem HZ:∀c∈LB,Holds Tryz.prog c:=by
 simp only[LB,γG]
 exact⟨h80,C2⟩
structure kz where
 p:bp
 values:List Int
 all:Int
 worth:Int
def nQ:pA kz where
 put d:=.agg [.si .i64 d.p.supply.a0,.si .i64 d.p.supply.a1,.si .i64 d.p.supply.a2,.si .i64 d.p.supply.a3,.si .i64 d.p.supply.a4,.si .i64 d.p.supply.a5,
  .si .i64 d.p.opn.a0,.si .i64 d.p.opn.a1,.si .i64 d.p.opn.a2,.si .i64 d.p.opn.a3,.si .i64 d.p.opn.a4,.si .i64 d.p.opn.a5,
  .si .i64 d.p.cls.a0,.si .i64 d.p.cls.a1,.si .i64 d.p.cls.a2,.si .i64 d.p.cls.a3,.si .i64 d.p.cls.a4,.si .i64 d.p.cls.a5,
  .row (.i .i64) d.p.classes,.row .off d.p.offers,.row (.i .i64) d.values,.si .i64 d.all,.si .i64 d.worth]
 dec
  | .agg [s0,s1,s2,s3,s4,s5,o0,o1,o2,o3,o4,o5,c0,c1,c2,c3,c4,c5,k,f,v,a,w]=>
   match sg [s0,s1,s2,s3,s4,s5,o0,o1,o2,o3,o4,o5,c0,c1,c2,c3,c4,c5,k,f],fW (.i .i64) v,a.int .i64,w.int .i64 with
   |some p,some v,some a,some w=>some ⟨p,v,a,w⟩
   |_,_,_,_=>none
  |_=>none
 ok v a h:=by
  split at h
  ·split at h
   ·rename_i h1 h2 h3 h4
    simp only[γ] at h;subst h
    have hp:=vn h1
    simp only[bp.ss,gL,π,and_true] at hp;simp only[SV.g,gL];simp only[hp,jE h2,gX h3,gX h4];rfl
   ·cases h
  ·cases h
 inj a b h:=by
  obtain⟨p,v,al,w⟩:=a
  obtain⟨q,v',al',w'⟩:=b
  simp only[SV.g,gL,εE,π,and_true,γZ,Value.int.injEq,true_and] at h
  have hp:p=q:=by
   apply dG.inj
   show(γK p.ss).g=(γK q.ss).g
   simp only[SV.g,bp.ss,gL,εE,π,and_true,γZ,Value.int.injEq,true_and];simp only[h,and_self]
  subst hp
  have hv:v=v':=(dN (.i .i64)).inj _ _ (by simp only[dN,SV.g];simp only[h])
  simp only[kz.mk.injEq,true_and]
  exact⟨hv,by simp only[h],by simp only[h]⟩
def allM (p:bp):Int:=2^p.classes.length - 1
def tX (p:bp) (v:List Int) (i:Int):List Int:=v.set (bj p.offers i.toNat bn.off.dflt).bF.toNat (bj p.offers i.toNat bn.off.dflt).value
def ng (p:bp) (c:List Int):List Int:=c.foldl (tX p) (ε p.classes.length 0)
def sx (p:bp) (s:Int) (i:Int):Int:=s+(bj p.offers i.toNat bn.off.dflt).value
def iY (p:bp) (c:List Int):Int:=c.foldl (sx p) 0
def gl (p:bp) (c:List Int):Int:=if cM p c≠0 then cM p c else if iY p c<iW p (allM p) then 13 else 0
def bp.zero:bp:=⟨bz.zero,bz.zero,bz.zero,[],[]⟩
def fZ (p:bp) (c:List Int):kz:=if gl p c=0 then⟨p,ng p c,allM p,iY p c⟩ else⟨bp.zero,[],0,0⟩
def H3:bM:=⟨68,bp×Alloc,.cons dG (.one lj),λa=>a.2.chosen.length<=1000000000000,λa=> .bH [nQ.put (fZ a.1 a.2.chosen),.si .i64 (gl a.1 a.2.chosen)]⟩
def aac (a:bp×Alloc):Nat->cB
 |7=> .inv Int (λi=>⟨[(2,.ptr 0 0 20),(4,.ptr 2 0 23),(7,.ptr 4 0 23),(8,.si .i64 (iY a.1 (a.2.chosen.take i.toNat))),(34,.row (.i .i64) a.2.chosen),(35,.si .i64 a.2.chosen.length),(36,.si .i64 i)],
  [.cells a.1.ss 27 20 false,.cells [.row (.i .i64) a.2.chosen,.si .i64 a.2.value] 41 2 false,
   .cells [.il .i64 0,.il .i64 0,.il .i64 0,.il .i64 0,.il .i64 0,.il .i64 0,.il .i64 0,.il .i64 0,.il .i64 0,.il .i64 0,.il .i64 0,.il .i64 0,.il .i64 0,.il .i64 0,.il .i64 0,.il .i64 0,.il .i64 0,.il .i64 0,.sc (.slice none 0 0),.sc (.slice none 0 0),.sc (.slice none 0 0),.il .i64 0,.il .i64 0] 99 23 false,
   .row (.i .i64) (ng a.1 (a.2.chosen.take i.toNat)) 2 true,
   .cells [.si .i64 a.1.supply.a0,.si .i64 a.1.supply.a1,.si .i64 a.1.supply.a2,.si .i64 a.1.supply.a3,.si .i64 a.1.supply.a4,.si .i64 a.1.supply.a5,
    .si .i64 a.1.opn.a0,.si .i64 a.1.opn.a1,.si .i64 a.1.opn.a2,.si .i64 a.1.opn.a3,.si .i64 a.1.opn.a4,.si .i64 a.1.opn.a5,
    .si .i64 a.1.cls.a0,.si .i64 a.1.cls.a1,.si .i64 a.1.cls.a2,.si .i64 a.1.cls.a3,.si .i64 a.1.cls.a4,.si .i64 a.1.cls.a5,
    .row (.i .i64) a.1.classes,.row .off a.1.offers,.ow 3 (a.1.classes.length:Int).toNat 1,.si .i64 (1*2^(a.1.classes.length:Int).toNat - 1),.il .i64 0] 99 23 false]⟩)
  (λs=>iS s 36) (λi=>0<=i/\i<=a.2.chosen.length) (λi=>(a.2.chosen.length - i).toNat) λ_ _=> .look
 |_=> .look
theorem C9 {l:List Off}:∀{c:List Int} {a:Int} {r:List Off}, -1<=a->eA l a c=some r->r.length=c.length/\∀i∈c,0<=i/\i<l.length
 |[],a,r,_,h=>by grind[eA]
 |i::c,a,r,e,h=>by
  simp only[eA] at h;split at h
  ·cases h
  ·rename_i d
   obtain⟨f,b,rfl⟩:=δ.1 h
   obtain⟨g,j⟩:=C9 (by omega) b
   grind
theorem P3 {p:bp}:∀{c:List Int} {v:List Int},(c.foldl (tX p) v).length=v.length
 |[],v=>rfl
 |i::c,v=>by simp only[γw];rw[P3];simp[tX]
theorem H4 {p:bp} {c:List Int}:(ng p c).length=p.classes.length:=by unfold ng;rw[P3];simp
theorem H5 {p:bp} (hg:Good p):∀{c:List Int} {s:Int},(∀i∈c,0<=i/\i<p.offers.length)->0<=s->0<=c.foldl (sx p) s/\c.foldl (sx p) s<=s+1000000*c.length
 |[],s,_,hs=>by simp;exact hs
 |i::c,s,hc,hs=>by
  simp only[γw]
  have hi:=hc i (by simp)
  have hv:=hg.2.2.2.2 _ (de (d:=bn.off.dflt) (show i.toNat<p.offers.length by omega))
  have h1:0<=sx p s i/\sx p s i<=s+1000000:=by unfold sx;omega
  have:=H5 hg (c:=c) (s:=sx p s i) (λj hj=>hc j (by simp[hj])) h1.1
  simp only[γv];omega
theorem P4 {d:kz} (h:d=⟨bp.zero,[],0,0⟩):(γK [γq .i64 0,γq .i64 0,γq .i64 0,γq .i64 0,γq .i64 0,γq .i64 0,γq .i64 0,γq .i64 0,γq .i64 0,γq .i64 0,γq .i64 0,γq .i64 0,γq .i64 0,γq .i64 0,γq .i64 0,γq .i64 0,γq .i64 0,γq .i64 0,Φ (.i .i64) [],Φ (.i .i64) [],Φ (.i .i64) [],γq .i64 0,γq .i64 0]).same (nQ.put d):=by
 subst h;simp only[SV.same,nQ,SV.g,gL,bp.zero,bz.zero,cC,List.flatMap_nil,ε4]
theorem h61:Holds Tryz.prog H3:=by
 refine cK (L:=LB) H3 aac HZ ?_
 rintro⟨p,⟨c,v⟩⟩ (hc:c.length<=1000000000000)
 refine bR (let a:=γe .i64;let b:=(0:Int);let d:=Φ;let e:=bq.cells;let f:=(1:Int);let g:=bq.row;let h:=bX .i64;let j:=SV.bH;let k:=γW;let l:=γK;let af:=decide (cM p c≠b);let m:=γq .i64 0;let o:=bn.i .i64;let a9:=d o [];let aa:=l [m,m,m,m,m,m,m,m,m,m,m,m,m,m,m,m,m,m,a9,a9,a9,m,m];let n:=(fZ p c).p;let u:=n.supply;let z:=j [l [a u.a0,a u.a1,a u.a2,a u.a3,a u.a4,a u.a5,a n.opn.a0,a n.opn.a1,a n.opn.a2,a n.opn.a3,a n.opn.a4,a n.opn.a5,a n.cls.a0,a n.cls.a1,a n.cls.a2,a n.cls.a3,a n.cls.a4,a n.cls.a5,d o n.classes,d bn.off n.offers,d o (fZ p c).values,a (fZ p c).all,a (fZ p c).worth],a (gl p c)];let q:=(↑p.classes.length:Int);let ab:=f*(2:Int)^q.toNat;let A:=k 0 0 20;let B:=k 2 0 23;let C:=k 4 0 23;let r:=(↑c.length:Int);let ac:=a r;let D:=a p.supply.a0;let E:=a p.supply.a1;let F:=a p.supply.a2;let G:=a p.supply.a3;let H:=a p.supply.a4;let I:=a p.supply.a5;let J:=a p.opn.a0;let K:=a p.opn.a1;let L:=a p.opn.a2;let M:=a p.opn.a3;let N:=a p.opn.a4;let O:=a p.opn.a5;let P:=a p.cls.a0;let Q:=a p.cls.a1;let R:=a p.cls.a2;let S:=a p.cls.a3;let T:=a p.cls.a4;let U:=a p.cls.a5;let V:=d o p.classes;let W:=d bn.off p.offers;let X:=e [D,E,F,G,H,I,J,K,L,M,N,O,P,Q,R,S,T,U,V,W] 27 20 false;let Y:=e [d o c,a v] 41 2 false;let ad:=SV.sc (Value.slice none 0 0);let Z:=e [m,m,m,m,m,m,m,m,m,m,m,m,m,m,m,m,m,m,ad,ad,ad,m,m] 99 23 false;let y:=(↑p.classes.length:Int).toNat;let a6:=f*(2:Int)^y - f;let ag:=a a6;let ae:=e [D,E,F,G,H,I,J,K,L,M,N,O,P,Q,R,S,T,U,V,W,γ8 3 y 1,ag,m] 99 23 false;let ah:=decide (jW p a6≠b);c.length<=9223372036854775807/\(af=true->(j [aa,a (cM p c)]).same z)/\(af=false->b<=q/\q<=q/\q*(8:Int)<=(140737488355328:Int)/\q<=(1000000000000:Int)/\b<=q/\q<=(64:Int)/\h ab/\h (ab - f)/\(((A.same A/\B.same B/\C.same C/\m.same (a (iY p []))/\(d o c).same (d o c)/\(a (↑c.length:Int)).same ac/\m.same (a 0)/\True)/\X.same X/\Y.same Y/\Z.same Z/\(g o (ε q.toNat b) 2 true).same (g o (ng p []) 2 true)/\(e [D,E,F,G,H,I,J,K,L,M,N,O,P,Q,R,S,T,U,V,W,γ8 3 q.toNat 1,a (ab - f),m] 99 23 false).same ae/\True)/\b<=b/\b<=r)/\∀(x:Int),let a7:=bj c x.toNat b;let s:=ng p (γd x.toNat c);let t:=bj p.offers a7.toNat bn.off.dflt;let a8:=iY p (γd x.toNat c);let w:=x+f;let ai:=γd w.toNat c;let aj:=a w;let ak:=decide (a8<iW p a6);b<=x/\x<=r->(decide (x<r)=true->b<=x/\x<(↑c.length:Int)/\x.toNat<c.length/\b<=a7/\a7<(↑p.offers.length:Int)/\a7.toNat<p.offers.length/\y=s.length/\b<=t.bF/\t.bF<(↑s.length:Int)/\y=s.length/\t.bF.toNat<s.length/\h (a8+t.value)/\h w/\((A.same A/\B.same B/\C.same C/\(a (a8+t.value)).same (a (iY p ai))/\(d o c).same (d o c)/\ac.same ac/\aj.same aj/\True)/\X.same X/\Y.same Y/\Z.same Z/\(g o (s.set t.bF.toNat t.value) 2 true).same (g o (ng p ai) 2 true)/\ae.same ae/\True)/\(b<=w/\w<=r)/\(r - w).toNat<(r - x).toNat)/\(decide (x<r)=false->True/\(ah=true->(j [aa,a (jW p a6)]).same z)/\(ah=false->(ak=true->(j [aa,γq .i64 13]).same z)/\(ak=false->y=s.length/\(j [l [D,E,F,G,H,I,J,K,L,M,N,O,P,Q,R,S,T,U,V,W,d o s,ag,a a8],m]).same z))))) (by kernel_rfl) ?_
 simp only[vcs]
 refine⟨by omega,λh=>⟨P4 (by simp[fZ,gl,h]),by simp[gl,h]⟩,λh=>?_⟩
 have hz:cM p c=0:=Γ.1 h
 have hck:bC p=0:=by
  unfold cM at hz;split at hz
  ·rename_i h1;exact absurd hz h1
  ·rename_i h1;exact Γ.1 h1
 have hpk:fO p c=true:=by
  unfold cM at hz
  rw[if_neg (by simp[hck])] at hz
  split at hz
  ·cases hz
  ·rename_i h1;simpa using h1
 have hg:=dL hck
 have hp:=sw hg.1
 obtain⟨r,hr⟩:=γk.1 hpk
 obtain⟨hr1,hidx⟩:=C9 (by omega) hr
 have hcl:c.length<=160:=by
  have h1:=vq (by omega) hr
  have h2:=hg.2.1
  rcases h1 with h1|rfl
  ·omega
  ·simp at hr1;omega
 have hn:(p.classes.length:Int).toNat=p.classes.length:=by simp
 have hall:(1:Int)*2^(p.classes.length:Int).toNat - 1=allM p:=by simp[allM]
 have hg1:=hg.1
 rw[hn] at*
 refine⟨by omega,by omega,by omega,by omega,by omega,by omega,⟨by omega,by omega⟩,⟨by omega,by omega⟩,?_⟩
 have hrow:∀{x y:List Int},x=y->(bq.row (.i .i64) x 2 true).same (bq.row (.i .i64) y 2 true):=by rintro _ _ rfl;rfl
 refine⟨⟨⟨rfl,hrow rfl⟩,by omega,by omega⟩,?_⟩
 rintro i ⟨hi0,hi1⟩
 have hvl:(ng p (c.take i.toNat)).length=p.classes.length:=H4
 refine⟨λhlt=>?_,λhge=>?_⟩
 ·have hci:=hidx _ (de (d:=0) (show i.toNat<c.length by omega))
  have htk:=jl (d:=0) hi0 hlt
  generalize bj c i.toNat 0=ci at hci htk ⊢
  have hv:=hg.2.2.2.2 _ (de (d:=bn.off.dflt) (show ci.toNat<p.offers.length by omega))
  have hsb:=H5 hg (c:=c.take i.toNat) (s:=0) (λj hj=>hidx j (γm hj)) (by omega)
  have htl:(c.take i.toNat).length<=160:=by simp only[Ξ];omega
  change 0<=iY p (c.take i.toNat)/\iY p (c.take i.toNat)<=_ at hsb
  have e1:iY p (c.take (i+1).toNat)=iY p (c.take i.toNat)+(bj p.offers ci.toNat bn.off.dflt).value:=by
   rw[htk];unfold iY;rw[δP];rfl
  have e2:ng p (c.take (i+1).toNat)=(ng p (c.take i.toNat)).set (bj p.offers ci.toNat bn.off.dflt).bF.toNat (bj p.offers ci.toNat bn.off.dflt).value:=by
   rw[htk];unfold ng;rw[δP];rfl
  refine⟨hi0,hlt,?_,hci.1,hci.2,?_,hvl.symm,hv.1,?_,hvl.symm,?_,?_,?_,⟨e1.symm,hrow e2.symm⟩,?_,?_⟩<;>omega
 ·rw[show i.toNat=c.length from by omega,χ] at hvl ⊢
  rw[hall]
  have hf:jW p (allM p)=0:=by
   unfold jW allM
   rw[if_neg (by simp[hck]),if_neg (by omega)]
  refine⟨λh1=>absurd hf h1,λ_=>⟨λh1=>?_,λh1=>⟨hvl.symm,?_⟩⟩⟩
  ·have ho:gl p c=13:=by simp[gl,hz,h1]
   exact⟨P4 (by simp[fZ,ho]),ho.symm⟩
  ·have ho:gl p c=0:=by simp[gl,hz,h1]
   have hd:fZ p c=⟨p,ng p c,allM p,iY p c⟩:=by simp[fZ,ho]
   rw[hd,ho]
   exact⟨rfl,rfl⟩
def pF (d:kz):Prop:=bC d.p=0/\d.values.length=d.p.classes.length/\d.all=allM d.p/\(∀v∈d.values,0<=v/\v<=1000000)/\0<=d.worth/\d.worth<=200000000
def kA (d:kz) (b:Int):Int:=if bj d.values b.toNat 0=0 then 0 else iW d.p (iK d.all b) - (d.worth - bj d.values b.toNat 0)
def zz (d:kz) (b:Int):Int:=bj d.values b.toNat 0 - kA d b
theorem P5 {d:kz} (h:pF d) {b:Int} (h0:0<=b) (h1:b<d.values.length): -300000000<=kA d b/\kA d b<=300000000:=by
 obtain⟨a1,a2,a3,a4,a5,a6⟩:=h
 have hv:=a4 _ (de (d:=0) (show b.toNat<d.values.length by omega))
 have hw:=P0 d.p (iK d.all b)
 unfold kA
 split<;>omega
def H6:bM:=⟨70,kz×Int,.cons nQ (.one (ez .i64)),λa=>pF a.1/\0<=a.2/\a.2<a.1.values.length,λa=> .si .i64 (kA a.1 a.2)⟩
theorem h63:Holds Tryz.prog H6:=by
 refine cK (L:=LB) H6 lk HZ ?_
 rintro⟨d,b⟩ ⟨hd,h0,h1⟩
 simp only at hd h0 h1
 refine bR (let a:=(0:Int);let c:=bX .i64;let e:=bj d.values b.toNat a;let f:=decide (e=a);let g:=γe .i64 (kA d b);let h:=(1:Int)*(2:Int)^b.toNat;let i:=iW d.p (fh.ra .i64 d.all h) - (d.worth - e);a<=b/\b<(↑d.values.length:Int)/\b.toNat<d.values.length/\(f=true->(γq .i64 0).same g)/\(f=false->a<=b/\b<=(64:Int)/\c h/\True/\a<=b/\b<(↑d.values.length:Int)/\b.toNat<d.values.length/\c (d.worth - e)/\c i/\(γe .i64 i).same g)) (by kernel_rfl) ?_
 simp only[vcs,δ3]
 obtain⟨a1,a2,a3,a4,a5,a6⟩:=hd
 have hg:=dL a1
 have hg1:=hg.1
 have hv:=a4 _ (de (d:=0) (show b.toNat<d.values.length by omega))
 have hp:=sw (show b.toNat<=8 by omega)
 have hw:=P0 d.p (fh.ra .i64 d.all (2^b.toNat))
 refine⟨h0,by omega,by omega,λh=>?_,λh=>?_⟩
 ·simp[kA,h]
 ·refine⟨h0,by omega,⟨by omega,by omega⟩,h0,by omega,by omega,⟨by omega,by omega⟩,⟨by omega,by omega⟩,?_⟩
  simp only[kA,if_neg h];rfl
def LC:List bM:=H6::H3::LB
theorem P6:∀c∈LC,Holds Tryz.prog c:=by
 simp only[LC,γG]
 exact⟨h63,h61,HZ⟩
def H7:bM:=⟨72,kz×Int,.cons nQ (.one (ez .i64)),λa=>pF a.1/\0<=a.2/\a.2<a.1.values.length,λa=> .si .i64 (zz a.1 a.2)⟩
theorem h66:Holds Tryz.prog H7:=by
 refine cK (L:=LC) H7 lk P6 ?_
 rintro⟨d,b⟩ ⟨hd,h0,h1⟩
 simp only at hd h0 h1
 refine bR (let a:=(0:Int);let c:=bj d.values b.toNat a - kA d b;a<=b/\b<(↑d.values.length:Int)/\b.toNat<d.values.length/\(pF d/\a<=b/\b<(↑d.values.length:Int))/\bX .i64 c/\(γe .i64 c).same (γe .i64 (zz d b))) (by kernel_rfl) ?_
 simp only[vcs]
 have hb:=P5 hd h0 h1
 obtain⟨a1,a2,a3,a4,a5,a6⟩:=id hd
 have hv:=a4 _ (de (d:=0) (show b.toNat<d.values.length by omega))
 refine⟨h0,?_,?_,⟨hd,h0,?_⟩,?_,rfl⟩<;>omega
def P7:pA (Bool×kz) where
 put a:=match a.1 with
  |true=> .fn (.func 72) [nQ.put a.2] []
  |false=> .fn (.func 70) [nQ.put a.2] []
 dec
  | .fn (.func f) [d] []=>if f=72 then(nQ.dec d).map λd=>(true,d) else if f=70 then(nQ.dec d).map λd=>(false,d) else none
  |_=>none
 ok v a h:=by
  split at h
  ·split at h
   ·rename_i hf
    obtain⟨d,h1,rfl⟩:=δ.1 h
    simp only[SV.g,gL,nQ.ok _ _ h1,hf]
   ·split at h
    ·rename_i hf
     obtain⟨d,h1,rfl⟩:=δ.1 h
     simp only[SV.g,gL,nQ.ok _ _ h1,hf]
    ·cases h
  ·cases h
 inj a b h:=by
  obtain⟨k,d⟩:=a
  obtain⟨k',d'⟩:=b
  cases k<;>cases k'<;>simp only[SV.g,gL,AV.fn.injEq,Fn.func.injEq,π,and_true,true_and,reduceCtorEq,Nat.reduceEqDiff,false_and] at h
  ·rw[nQ.inj _ _ h]
  ·rw[nQ.inj _ _ h]
def H8 (a:Bool×kz) (i:Int):Int:=match a.1 with
 |true=>zz a.2 i
 |false=>kA a.2 i
def jX (a:Bool×kz) (n:Nat):List Int:=(τ n).map λi:Nat=>H8 a i
def H9:bM:=⟨69,kz×(Bool×kz),.cons nQ (.one P7),λa=>pF a.2.2/\a.1.values.length=a.2.2.values.length,λa=> .row (.i .i64) (jX a.2 a.1.values.length)⟩
def LD:List bM:=H7::LC
theorem P8:∀c∈LD,Holds Tryz.prog c:=by
 simp only[LD,γG]
 exact⟨h66,P6⟩
def aad (a:kz×(Bool×kz)):Nat->cB
 |3=> .inv Int (λi=>⟨[(1,P7.put a.2),(5,.ow 1 (jX a.2 i.toNat).length 1),(9,.si .i64 a.1.values.length),(10,.si .i64 i)],[.cells [.si .i64 a.1.p.supply.a0,.si .i64 a.1.p.supply.a1,.si .i64 a.1.p.supply.a2,.si .i64 a.1.p.supply.a3,.si .i64 a.1.p.supply.a4,.si .i64 a.1.p.supply.a5,
    .si .i64 a.1.p.opn.a0,.si .i64 a.1.p.opn.a1,.si .i64 a.1.p.opn.a2,.si .i64 a.1.p.opn.a3,.si .i64 a.1.p.opn.a4,.si .i64 a.1.p.opn.a5,
    .si .i64 a.1.p.cls.a0,.si .i64 a.1.p.cls.a1,.si .i64 a.1.p.cls.a2,.si .i64 a.1.p.cls.a3,.si .i64 a.1.p.cls.a4,.si .i64 a.1.p.cls.a5,
    .row (.i .i64) a.1.p.classes,.row .off a.1.p.offers,.row (.i .i64) a.1.values,.si .i64 a.1.all,.si .i64 a.1.worth] 99 23 false,.row (.i .i64) (jX a.2 i.toNat) 2 true]⟩)
  (λs=>iS s 10) (λi=>0<=i/\i<=a.1.values.length) (λi=>(a.1.values.length - i).toNat) λ_ _=> .look
 |_=> .look
theorem Ia {a:Bool×kz} {n:Nat}:(jX a n).length=n:=by simp[jX]
theorem Da {a:Bool×kz} {i:Int} (h:0<=i):jX a (i+1).toNat=jX a i.toNat++[H8 a i]:=by
 unfold jX
 rw[show(i+1).toNat=i.toNat+1 from by omega,δR,γa]
 simp only[ι,γs,show((i.toNat:Nat):Int)=i from by omega]
theorem aae {d:kz} (h:pF d):d.values.length<=8:=by
 rw[h.2.1]
 exact(dL h.1).1
theorem h62:Holds Tryz.prog H9:=by
 refine cK (L:=LD) H9 aad P8 ?_
 have hrow:∀{x y:List Int},x=y->(bq.row (.i .i64) x 2 true).same (bq.row (.i .i64) y 2 true):=by rintro _ _ rfl;rfl
 have how:∀{x y:Nat},x=y->(γ8 1 x 1).same (γ8 1 y 1):=by rintro _ _ rfl;rfl
 rintro⟨d,k,e⟩ ⟨hd,hn⟩
 simp only at hd hn
 have h8:=aae hd
 cases k with
 |false=>
  refine bR (let a:=γe .i64;let b:=Φ;let c:=(0:Int);let f:=bq.row;let g:=γ8;let h:=bn.i .i64;let m:=SV.fn (Fn.func 70) [γK [a e.p.supply.a0,a e.p.supply.a1,a e.p.supply.a2,a e.p.supply.a3,a e.p.supply.a4,a e.p.supply.a5,a e.p.opn.a0,a e.p.opn.a1,a e.p.opn.a2,a e.p.opn.a3,a e.p.opn.a4,a e.p.opn.a5,a e.p.cls.a0,a e.p.cls.a1,a e.p.cls.a2,a e.p.cls.a3,a e.p.cls.a4,a e.p.cls.a5,b h e.p.classes,b bn.off e.p.offers,b h e.values,a e.all,a e.worth]] [];let q:=jX (false,e) 0;let j:=(↑d.values.length:Int);let o:=a j;let n:=bq.cells [a d.p.supply.a0,a d.p.supply.a1,a d.p.supply.a2,a d.p.supply.a3,a d.p.supply.a4,a d.p.supply.a5,a d.p.opn.a0,a d.p.opn.a1,a d.p.opn.a2,a d.p.opn.a3,a d.p.opn.a4,a d.p.opn.a5,a d.p.cls.a0,a d.p.cls.a1,a d.p.cls.a2,a d.p.cls.a3,a d.p.cls.a4,a d.p.cls.a5,b h d.p.classes,b bn.off d.p.offers,b h d.values,a d.all,a d.worth] 99 23 false;(((m.same m/\(g 1 0 1).same (g 1 q.length 1)/\(a (↑d.values.length:Int)).same o/\(γq .i64 0).same (a 0)/\True)/\n.same n/\(f h [] 2 true).same (f h q 2 true)/\True)/\c<=c/\c<=j)/\∀(x:Int),let k:=jX (false,e) x.toNat;let r:=k.length+1;let l:=x+(1:Int);let s:=jX (false,e) l.toNat;let t:=a l;c<=x/\x<=j->(decide (x<j)=true->(pF e/\c<=x/\x<(↑e.values.length:Int))/\k.length=k.length/\r*8<=140737488355328/\r<=1000000000000/\bX .i64 l/\((m.same m/\(g 1 (k++[kA e x]).length 1).same (g 1 s.length 1)/\o.same o/\t.same t/\True)/\n.same n/\(f h (k++[kA e x]) 2 true).same (f h s 2 true)/\True)/\(c<=l/\l<=j)/\(j - l).toNat<(j - x).toNat)/\(decide (x<j)=false->k.length=k.length/\(b h k).same (b h (jX (false,e) d.values.length)))) (by kernel_rfl) ?_
  simp only[vcs]
  refine⟨⟨⟨how rfl,hrow rfl⟩,by omega,by omega⟩,?_⟩
  rintro i ⟨hi0,hi1⟩
  have hL:=@Ia (false,e) i.toNat
  refine⟨λhlt=>⟨⟨hd,hi0,by omega⟩,by omega,by omega,by omega,⟨how (by rw[Da hi0];rfl),hrow (Da hi0).symm⟩,by omega,by omega⟩,λhge=>?_⟩
  rw[show i.toNat=d.values.length from by omega]
 |true=>
  refine bR (let a:=γe .i64;let b:=Φ;let c:=(0:Int);let f:=bq.row;let g:=γ8;let h:=bn.i .i64;let m:=SV.fn (Fn.func 72) [γK [a e.p.supply.a0,a e.p.supply.a1,a e.p.supply.a2,a e.p.supply.a3,a e.p.supply.a4,a e.p.supply.a5,a e.p.opn.a0,a e.p.opn.a1,a e.p.opn.a2,a e.p.opn.a3,a e.p.opn.a4,a e.p.opn.a5,a e.p.cls.a0,a e.p.cls.a1,a e.p.cls.a2,a e.p.cls.a3,a e.p.cls.a4,a e.p.cls.a5,b h e.p.classes,b bn.off e.p.offers,b h e.values,a e.all,a e.worth]] [];let q:=jX (true,e) 0;let j:=(↑d.values.length:Int);let o:=a j;let n:=bq.cells [a d.p.supply.a0,a d.p.supply.a1,a d.p.supply.a2,a d.p.supply.a3,a d.p.supply.a4,a d.p.supply.a5,a d.p.opn.a0,a d.p.opn.a1,a d.p.opn.a2,a d.p.opn.a3,a d.p.opn.a4,a d.p.opn.a5,a d.p.cls.a0,a d.p.cls.a1,a d.p.cls.a2,a d.p.cls.a3,a d.p.cls.a4,a d.p.cls.a5,b h d.p.classes,b bn.off d.p.offers,b h d.values,a d.all,a d.worth] 99 23 false;(((m.same m/\(g 1 0 1).same (g 1 q.length 1)/\(a (↑d.values.length:Int)).same o/\(γq .i64 0).same (a 0)/\True)/\n.same n/\(f h [] 2 true).same (f h q 2 true)/\True)/\c<=c/\c<=j)/\∀(x:Int),let k:=jX (true,e) x.toNat;let r:=k.length+1;let l:=x+(1:Int);let s:=jX (true,e) l.toNat;let t:=a l;c<=x/\x<=j->(decide (x<j)=true->(pF e/\c<=x/\x<(↑e.values.length:Int))/\k.length=k.length/\r*8<=140737488355328/\r<=1000000000000/\bX .i64 l/\((m.same m/\(g 1 (k++[zz e x]).length 1).same (g 1 s.length 1)/\o.same o/\t.same t/\True)/\n.same n/\(f h (k++[zz e x]) 2 true).same (f h s 2 true)/\True)/\(c<=l/\l<=j)/\(j - l).toNat<(j - x).toNat)/\(decide (x<j)=false->k.length=k.length/\(b h k).same (b h (jX (true,e) d.values.length)))) (by kernel_rfl) ?_
  simp only[vcs]
  refine⟨⟨⟨how rfl,hrow rfl⟩,by omega,by omega⟩,?_⟩
  rintro i ⟨hi0,hi1⟩
  have hL:=@Ia (true,e) i.toNat
  refine⟨λhlt=>⟨⟨hd,hi0,by omega⟩,by omega,by omega,by omega,⟨how (by rw[Da hi0];rfl),hrow (Da hi0).symm⟩,by omega,by omega⟩,λhge=>?_⟩
  rw[show i.toNat=d.values.length from by omega]
theorem P9 {p:bp} (hg:Good p):∀{c:List Int} {v:List Int},(∀i∈c,0<=i/\i<p.offers.length)->(∀x∈v,0<=x/\x<=1000000)->∀x∈c.foldl (tX p) v,0<=x/\x<=1000000
 |[],v,_,hv=>hv
 |i::c,v,hc,hv=>by
  simp only[γw]
  refine P9 hg (λj hj=>hc j (by simp[hj])) ?_
  intro x hx;unfold tX at hx
  rcases List.mem_or_eq_of_mem_set hx with h|h
  ·exact hv x h
  ·have hi:=hc i (by simp)
   have:=hg.2.2.2.2 _ (de (d:=bn.off.dflt) (show i.toNat<p.offers.length by omega))
   rw[h];omega
theorem zA {p:bp} {c:List Int} (h:gl p c=0):pF (fZ p c)/\fZ p c=⟨p,ng p c,allM p,iY p c⟩/\Good p:=by
 have hz:cM p c=0:=by
  unfold gl at h;split at h
  ·rename_i h1;exact absurd h h1
  ·rename_i h1;exact Γ.1 h1
 have hck:bC p=0:=by
  unfold cM at hz;split at hz
  ·rename_i h1;exact absurd hz h1
  ·rename_i h1;exact Γ.1 h1
 have hpk:fO p c=true:=by
  unfold cM at hz
  rw[if_neg (by simp[hck])] at hz
  split at hz
  ·cases hz
  ·rename_i h1;simpa using h1
 have hg:=dL hck
 obtain⟨r,hr⟩:=γk.1 hpk
 obtain⟨hr1,hidx⟩:=C9 (by omega) hr
 have hcl:c.length<=160:=by
  have h1:=vq (by omega) hr
  have h2:=hg.2.1
  rcases h1 with h1|rfl
  ·omega
  ·simp at hr1;omega
 have hd:fZ p c=⟨p,ng p c,allM p,iY p c⟩:=by simp[fZ,h]
 have hs:=H5 hg (c:=c) (s:=0) hidx (by omega)
 change 0<=iY p c/\iY p c<=_ at hs
 refine⟨?_,hd,hg⟩
 rw[hd]
 exact⟨hck,H4,rfl,P9 hg hidx (λx hx=>by have:=List.eq_of_mem_replicate hx;omega),by simp only;omega,by simp only;omega⟩
def LE:List bM:=H9::LD
theorem Db:∀c∈LE,Holds Tryz.prog c:=by
 simp only[LE,γG]
 exact⟨h62,P8⟩
def kU (p:bp) (c:List Int):List Int:=if gl p c=0 then jX (false,fZ p c) p.classes.length else[]
def vr (p:bp) (c:List Int):List Int:=if gl p c=0 then jX (true,fZ p c) p.classes.length else[]
def Dc:bM:=⟨36,bp×Alloc,.cons dG (.one lj),λa=>a.2.chosen.length<=1000000000000,λa=> .bH [.row (.i .i64) (kU a.1 a.2.chosen),.si .i64 (gl a.1 a.2.chosen)]⟩
theorem h17:Holds Tryz.prog Dc:=by
 refine cK (L:=LE) Dc lk Db ?_
 rintro⟨p,⟨c,v⟩⟩ (hc:c.length<=1000000000000)
 refine bR (let a:=Φ;let b:=SV.bH;let f:=decide (gl p c≠(0:Int));let d:=bn.i .i64;let g:=[γe .i64 (gl p c)];let h:=b (a d (kU p c)::g);let e:=(fZ p c).values.length;c.length<=1000000000000/\(f=true->(b (a d []::g)).same h)/\(f=false->(pF (fZ p c)/\e=e)/\(b [a d (jX (false,fZ p c) e),γq .i64 0]).same h)) (by kernel_rfl) ?_
 simp only[vcs]
 refine⟨hc,λh=>by simp[kU,h],λh=>?_⟩
 have hz:gl p c=0:=Γ.1 h
 obtain⟨h1,h2,h3⟩:=zA hz
 refine⟨h1,?_,hz.symm⟩
 rw[h1.2.1,h2]
 simp[kU,hz,h2]
def Ib:bM:=⟨38,bp×Alloc,.cons dG (.one lj),λa=>a.2.chosen.length<=1000000000000,λa=> .bH [.row (.i .i64) (vr a.1 a.2.chosen),.si .i64 (gl a.1 a.2.chosen)]⟩
theorem h19:Holds Tryz.prog Ib:=by
 refine cK (L:=LE) Ib lk Db ?_
 rintro⟨p,⟨c,v⟩⟩ (hc:c.length<=1000000000000)
 refine bR (let a:=Φ;let b:=SV.bH;let f:=decide (gl p c≠(0:Int));let d:=bn.i .i64;let g:=[γe .i64 (gl p c)];let h:=b (a d (vr p c)::g);let e:=(fZ p c).values.length;c.length<=1000000000000/\(f=true->(b (a d []::g)).same h)/\(f=false->(pF (fZ p c)/\e=e)/\(b [a d (jX (true,fZ p c) e),γq .i64 0]).same h)) (by kernel_rfl) ?_
 simp only[vcs]
 refine⟨hc,λh=>by simp[vr,h],λh=>?_⟩
 have hz:gl p c=0:=Γ.1 h
 obtain⟨h1,h2,h3⟩:=zA hz
 refine⟨h1,?_,hz.symm⟩
 rw[h1.2.1,h2]
 simp[vr,hz,h2]
def rk (p:bp) (c:List Int) (b:Int):Int:=if gl p c≠0 then gl p c else if b<0\/p.classes.length<=b then 6 else 0
def xu (p:bp) (c:List Int) (b:Int):Int:=if rk p c b=0 then kA (fZ p c) b else 0
def Ic:bM:=⟨41,bp×Alloc×Int,.cons dG (.cons lj (.one (ez .i64))),λa=>a.2.1.chosen.length<=1000000000000,λa=> .bH [.si .i64 (xu a.1 a.2.1.chosen a.2.2),.si .i64 (rk a.1 a.2.1.chosen a.2.2)]⟩
theorem h21:Holds Tryz.prog Ic:=by
 refine cK (L:=LE) Ic lk Db ?_
 rintro⟨p,⟨c,v⟩,b⟩ (hc:c.length<=1000000000000)
 refine bR (let a:=γe .i64;let d:=γq .i64;let e:=SV.bH;let f:=(0:Int);let i:=decide (gl p c≠f);let g:=d 0;let h:=e [a (xu p c b),a (rk p c b)];let j:=decide (b<f);let k:=decide ((↑(fZ p c).values.length:Int)<=b);c.length<=1000000000000/\(i=true->(e [g,a (gl p c)]).same h)/\(i=false->(j=true->(e [g,d 6]).same h)/\(j=false->(k=true->(e [g,d 6]).same h)/\(k=false->(pF (fZ p c)/\f<=b/\b<(↑(fZ p c).values.length:Int))/\(e [a (kA (fZ p c) b),g]).same h)))) (by kernel_rfl) ?_
 simp only[vcs]
 refine⟨hc,λh=>by simp[xu,rk,h],λh=>?_⟩
 have hz:gl p c=0:=Γ.1 h
 obtain⟨h1,h2,h3⟩:=zA hz
 have hl:(fZ p c).values.length=p.classes.length:=by rw[h1.2.1,h2]
 rw[hl]
 refine⟨λhb=>?_,λhb=>⟨λhb2=>?_,λhb2=>⟨⟨h1,by omega,by omega⟩,?_⟩⟩⟩
 ·have:rk p c b=6:=by simp[rk,hz,hb]
  exact⟨by simp[xu,this],this.symm⟩
 ·have:rk p c b=6:=by simp[rk,hz,hb2]
  exact⟨by simp[xu,this],this.symm⟩
 ·have:rk p c b=0:=by simp only[rk,hz,ne_eq,not_true,if_false,if_neg (show ¬(b<0\/(p.classes.length:Int)<=b) by omega)]
  exact⟨by simp[xu,this],this.symm⟩
def rm (a b:List Int):Bool:=decide (a=b)
def Ie:bM:=⟨42,List Int×List Int,.cons (dN (.i .i64)) (.one (dN (.i .i64))),λa=>a.1.length<=1000000000000,λa=> .sb (rm a.1 a.2)⟩
def aaf (a:List Int×List Int):Nat->cB
 |4=> .inv Int (λi=>⟨[(0,.row (.i .i64) a.1),(1,.row (.i .i64) a.2),(5,.si .i64 i)],[]⟩) (λs=>iS s 5) (λi=>0<=i/\i<=a.1.length/\∀k:Nat,k<i->bj a.1 k 0=bj a.2 k 0) (λi=>(a.1.length - i).toNat) λ_ _=> .look
 |_=> .look
theorem h23:Holds Tryz.prog Ie:=by
 refine cK (L:=LE) Ie aaf Db ?_
 rintro⟨a,b⟩ (h:a.length<=1000000000000)
 refine bR (let c:=(0:Int);let d:=δs false;let g:=(↑a.length:Int);let l:=decide (g≠(↑b.length:Int));let h:=Φ (bn.i .i64) a;let j:=Φ (bn.i .i64) b;let f:=(↑a.length:Int);(l=true->(d).same (γI (rm a b)))/\(l=false->(((h.same h/\j.same j/\(γq .i64 0).same (γe .i64 0)/\True)/\True)/\c<=c/\c<=f/\∀(k:Nat),(↑k:Int)<c->bj a k c=bj b k c)/\∀(x:Int),let m:=decide (bj a x.toNat c≠bj b x.toNat c);let e:=x+(1:Int);let n:=γe .i64 e;(c<=x/\x<=f/\∀(k:Nat),(↑k:Int)<x->bj a k c=bj b k c)->(decide (x<g)=true->c<=x/\x<g/\x.toNat<a.length/\c<=x/\x<(↑b.length:Int)/\x.toNat<b.length/\(m=true->(d).same (γI (rm a b)))/\(m=false->bX .i64 e/\((h.same h/\j.same j/\n.same n/\True)/\True)/\(c<=e/\e<=f/\∀(k:Nat),(↑k:Int)<e->bj a k c=bj b k c)/\(f - e).toNat<(f - x).toNat))/\(decide (x<g)=false->(δs true).same (γI (rm a b))))) (by kernel_rfl) ?_
 simp only[vcs]
 refine⟨λh1=>?_,λh1=>⟨⟨by omega,by omega,λk hk=>by omega⟩,?_⟩⟩
 ·have:a≠b:=λe=>h1 (by rw[e])
  simp[rm,this]
 rintro i ⟨hi0,hi1,hi⟩
 have hl:a.length=b.length:=by omega
 refine⟨λhlt=>⟨hi0,hlt,by omega,hi0,by omega,by omega,λhne=>?_,λheq=>⟨by omega,⟨by omega,by omega,?_⟩,by omega⟩⟩,λhge=>?_⟩
 ·have:a≠b:=λe=>hne (by rw[e])
  simp[rm,this]
 ·intro k hk
  by_cases hk2:(k:Int)<i
  ·exact hi k hk2
  ·rw[show k=i.toNat from by omega]
   exact Γ.1 heq
 ·have:a=b:=List.ext_getElem hl λk h1 h2=>by
   have:=hi k (by omega)
   rwa [cO h1,cO h2] at this
  simp[rm,this]
def sy (p:bp) (n:Int):Bool:=decide ((p.offers.length:Int)<=n)&&decide ((p.classes.length:Int)<=8)
def Df:bM:=⟨43,bp×Int,.cons dG (.one (ez .i64)),λ_=>True,λa=> .sb (sy a.1 a.2)⟩
theorem h59:Holds Tryz.prog Df:=by
 refine cK (L:=[]) Df lk (by simp) ?_
 rintro⟨p,n⟩ _
 refine bR (let a:=decide ((↑p.offers.length:Int)<=n);(a=true->(γI (decide ((↑p.classes.length:Int)<=(8:Int)))).same (γI (sy p n)))/\(a=false->(δs false).same (γI (sy p n)))) (by kernel_rfl) ?_
 simp only[vcs,sy]
 grind
def Dh:bM:=⟨16,bp,.one dG,λ_=>True,λa=> .sb (sy a 10)⟩
theorem h15:Holds Tryz.prog Dh:=by
 refine cK (L:=[Df]) Dh lk (by simpa using h59) ?_
 intro(p:bp) _
 refine bR (let a:=γI (sy p (10:Int));True/\a.same a) (by kernel_rfl) ?_
 simp only[vcs]
def three:bp:=⟨⟨1,1,0,0,0,0⟩,⟨1,1,0,0,0,0⟩,bz.zero,[0,0,0],[⟨0,⟨1,1,0,0,0,0⟩,10⟩,⟨1,⟨1,0,0,0,0,0⟩,6⟩,⟨2,⟨0,1,0,0,0,0⟩,6⟩]⟩
def If:bM:=⟨40,Unit,.nil,λ_=>True,λ_=>dG.put three⟩
theorem h60:Holds Tryz.prog If:=by
 refine cK (L:=[]) If lk (by simp) ?_
 intro _ _
 refine bR (let d:=γe .i64;let e:=(0:Int);let f:=(1:Int);let g:=Φ;let c:=γq .i64 1;let a:=γq .i64 0;let b:=three.supply;(γK [c,c,a,a,a,a,c,c,a,a,a,a,a,a,a,a,a,a,g (bn.i .i64) [e,e,e],g bn.off [Off.mk e (bz.mk f f e e e e) (10:Int),Off.mk f (bz.mk f e e e e e) (6:Int),Off.mk (2:Int) (bz.mk e f e e e e) (6:Int)]]).same (γK [d b.a0,d b.a1,d b.a2,d b.a3,d b.a4,d b.a5,d three.opn.a0,d three.opn.a1,d three.opn.a2,d three.opn.a3,d three.opn.a4,d three.opn.a5,d three.cls.a0,d three.cls.a1,d three.cls.a2,d three.cls.a3,d three.cls.a4,d three.cls.a5,g (bn.i .i64) three.classes,g bn.off three.offers])) (by kernel_rfl) ?_
 conv=>zeta
 rfl
def LF:List bM:=[Df,Dh,If,Dc,Ib,Ic,Ie]
theorem hLF:∀c∈LF,Holds Tryz.prog c:=by
 simp only[LF,γG,δk,false_implies,implies_true,and_true]
 exact⟨h59,h15,h60,h17,h19,h21,h23⟩
def r16:bM:=⟨14,Unit,.nil,λ_=>True,λ_=> .sb true⟩
theorem h16:Holds Tryz.prog r16:=by
 refine cK (L:=LF) r16 lk hLF ?_
 intro _ _
 refine bR (let a:=δs false;let b:=γI;let c:=(2:Int);let d:=[(1:Int),c];let e:=rm (kU three d) [(0:Int),(4:Int),(4:Int)];let f:=rm (vr three d) [(0:Int),c,c];True/\2<=1000000000000/\2<=1000000000000/\2<=1000000000000/\1<=1000000000000/\2<=1000000000000/\2<=1000000000000/\(true=true->(kU three d).length<=1000000000000/\(e=true->(true=true->(vr three d).length<=1000000000000/\(f=true->(true=true->(true=true->(true=true->(true=true->(b true).same (b true))/\(true=false->(a).same (b true)))/\(true=false->(a).same (b true)))/\(true=false->(a).same (b true)))/\(true=false->(a).same (b true)))/\(f=false->(a).same (b true)))/\(true=false->(a).same (b true)))/\(e=false->(a).same (b true)))/\(true=false->(a).same (b true))) (by kernel_rfl) ?_
 simp only[vcs]
 have e1:kU three [1,2]=[0,4,4]:=by kernel_rfl
 have e2:vr three [1,2]=[0,2,2]:=by kernel_rfl
 simp[e1,e2,rm]
def Ig:bM:=⟨44,bz,.one (eG .dX),λ_=>True,λb=> .sb b.ok⟩
theorem h68:Holds Tryz.prog Ig:=by
 refine cK (L:=[]) Ig (λ_ _=> .oG 7) (by simp) ?_
 intro b _
 refine bR (let h:=δs false;let o:=γI;let p:=(0:Int);let q:=(4:Int);let i:=decide (b.a0<p);let d:=decide (q<b.a0);let k:=decide (b.a1<p);let e:=decide (q<b.a1);let l:=decide (b.a2<p);let f:=decide (q<b.a2);let j:=decide (b.a3<p);let m:=decide (q<b.a3);let n:=decide (b.a4<p);let g:=decide (q<b.a4);let a:=decide (b.a5<p);let c:=decide (q<b.a5);(i=true->(h).same (o (bz.ok b)))/\(i=false->(d=true->(h).same (o (bz.ok b)))/\(d=false->(k=true->(h).same (o (bz.ok b)))/\(k=false->(e=true->(h).same (o (bz.ok b)))/\(e=false->(l=true->(h).same (o (bz.ok b)))/\(l=false->(f=true->(h).same (o (bz.ok b)))/\(f=false->(j=true->(h).same (o (bz.ok b)))/\(j=false->(m=true->(h).same (o (bz.ok b)))/\(m=false->(n=true->(h).same (o (bz.ok b)))/\(n=false->(g=true->(h).same (o (bz.ok b)))/\(g=false->(a=true->(h).same (o (bz.ok b)))/\(a=false->(c=true->(h).same (o (bz.ok b)))/\(c=false->(δs true).same (o (bz.ok b))))))))))))))) (by kernel_rfl) ?_
 conv=>zeta
 have o:=@bz.fA b
 by_cases h:b.ok=true<;>simp_all
def qm (p:bp) (r:Int) (o:Off):Int:=
 if r - p.classes.length<0 then(if o.bF=r then 1 else 0)
 else if r - p.classes.length<6 then bj [o.want.a0,o.want.a1,o.want.a2,o.want.a3,o.want.a4,o.want.a5] (r - p.classes.length).toNat 0
 else if bj [p.cls.a0,p.cls.a1,p.cls.a2,p.cls.a3,p.cls.a4,p.cls.a5] (r - p.classes.length - 6).toNat 0=0\/p.classes.length<=o.bF\/bj [p.cls.a0,p.cls.a1,p.cls.a2,p.cls.a3,p.cls.a4,p.cls.a5] (r - p.classes.length - 6).toNat 0=bj p.classes o.bF.toNat 0 then 0
 else bj [o.want.a0,o.want.a1,o.want.a2,o.want.a3,o.want.a4,o.want.a5] (r - p.classes.length - 6).toNat 0
theorem aah {p:bp} {r:Int} {o:Off} (h:o.bF<p.classes.length):qm p r o=eL p r o:=by
 unfold qm eL;omega
def Ih:bM:=⟨76,bp×Int×Off,.cons dG (.cons (ez .i64) (.one (eG .off))),λa=>a.1.classes.length<=8/\0<=a.2.1/\a.2.1<di a.1/\0<=a.2.2.bF,
 λa=> .bH [.si .i64 (qm a.1 a.2.1 a.2.2),.si .i64 (dA a.1 a.2.1)]⟩
theorem h110:Holds Tryz.prog Ih:=by
 refine cK (L:=[]) Ih (λ_ _=> .oG 7) (by simp) ?_
 rintro⟨p,r,x⟩ ⟨D,z,B,A⟩
 simp only[di] at D z B A
 refine bR (let h:=(0:Int);let j:=(6:Int);let v:=γe .i64;let w:=bX .i64;let y:=SV.bH;let b:=(↑p.classes.length:Int);let a:=r - b - j;let o:=γq .i64 0;let k:=y [v (qm p r x),v (dA p r)];let q:=bj [p.cls.a0,p.cls.a1,p.cls.a2,p.cls.a3,p.cls.a4,p.cls.a5] a.toNat h;let t:=decide (x.bF=r);let e:=γq .i64 1;let g:=decide (r<b+j);let i:=decide (x.bF<b);let l:=h<=a/\a<j/\a.toNat<6/\(y [o,v (bj [p.opn.a0,p.opn.a1,p.opn.a2,p.opn.a3,p.opn.a4,p.opn.a5] a.toNat h)]).same k;let n:=λ(u f:Int) (c:bz) ↦let d:=(u - f).toNat;h<=u - f/\u - f<j/\d<6/\(y [v (bj [x.want.a0,x.want.a1,x.want.a2,x.want.a3,x.want.a4,x.want.a5] d h),v (bj [c.a0,c.a1,c.a2,c.a3,c.a4,c.a5] d h)]).same k;let m:=λ(u:Bool) ↦decide (q≠bj p.classes x.bF.toNat h)=u;let s:=λ(u:Bool) ↦decide (q≠h)=u;(decide (r<b)=true->(t=true->(y [e,e]).same k)/\(t=false->(y [o,e]).same k))/\(decide (r<b)=false->w (b+j)/\(g=true->w (r - b)/\h<=r - b/\r - b<j/\(r - b).toNat<6/\w (r - b)/\n r b p.supply)/\(g=false->w (r - b)/\w a/\h<=a/\a<j/\a.toNat<6/\(s true->(i=true->h<=a/\a<j/\a.toNat<6/\h<=x.bF/\x.bF<b/\x.bF.toNat<p.classes.length/\(m true->h<=a/\a<j/\a.toNat<6/\n (r - b) j p.opn)/\(m false->l))/\(i=false->l))/\(s false->l)))) (by kernel_rfl) ?_
 simp only[vcs]
 have G:r - p.classes.length<0->dA p r=1:=λh=>by simp_all[dA]
 have E:¬r - p.classes.length<0->r - p.classes.length<6->dA p r=bj [p.supply.a0,p.supply.a1,p.supply.a2,p.supply.a3,p.supply.a4,p.supply.a5] (r - p.classes.length).toNat 0:=λh j=>by simp_all[dA,if_neg]
 have v:¬r - p.classes.length<0->¬r - p.classes.length<6->dA p r=bj [p.opn.a0,p.opn.a1,p.opn.a2,p.opn.a3,p.opn.a4,p.opn.a5] (r - p.classes.length - 6).toNat 0:=λh j=>by simp_all[dA,if_neg]
 have F:r - p.classes.length<0->qm p r x=if x.bF=r then 1 else 0:=λh=>by simp_all[qm]
 have H:¬r - p.classes.length<0->r - p.classes.length<6->qm p r x=bj [x.want.a0,x.want.a1,x.want.a2,x.want.a3,x.want.a4,x.want.a5] (r - p.classes.length).toNat 0:=λh j=>by simp_all[qm,if_neg]
 have y:=λ(h:¬r - p.classes.length<0) (j:¬r - p.classes.length<6)=>(show qm p r x=_ by unfold qm;rw[if_neg h,if_neg j])
 refine⟨λw=>?_,λw=>⟨by omega,λC=>?_,λC=>?_⟩⟩
 ·grind
 ·grind
 ·rw[v (by omega) (by omega),y (by omega) (by omega)]
  omega
def M1:List bM:=[Ih,Ig]
theorem hM1:∀c∈M1,Holds Tryz.prog c:=by
 simp_all[M1,h110,h68]
def Di:bM:=⟨45,bp×List Off,.cons dG (.one (dN .off)),λa=>a.1.classes.length<=8/\a.2.length<=1000/\(∀x∈a.2,0<=x.bF/\x.bF<a.1.classes.length/\x.want.ok=true),λa=> .sb (fN a.1 a.2)⟩
def aai (a:bp×List Off):Nat->cB
 |2=> .inv Int (λi=>⟨[(1,.row .off a.2),(2,.ptr 0 0 20),(5,.si .i64 i)],[.cells a.1.ss 27 20 false]⟩) (λs=>iS s 5)
  (λi=>0<=i/\i<=di a.1/\∀r:Nat,r<i->cQ a.1 a.2 r<=dA a.1 r) (λi=>(di a.1 - i).toNat)
  λi=>λ
   |6=> .inv (Int×Int) (λx=>⟨[(1,.row .off a.2),(2,.ptr 0 0 20),(5,.si .i64 i),(6,.si .i64 x.2),(7,.si .i64 x.1)],[.cells a.1.ss 27 20 false]⟩)
    (λs=>(iS s 7,iS s 6))
    (λx=>0<=x.1/\x.1<=a.2.length/\x.2=cQ a.1 (a.2.take x.1.toNat) i) (λx=>(a.2.length - x.1).toNat) λ_ _=> .look
   |_=> .look
 |_=> .look
theorem h69:Holds Tryz.prog Di:=by
 refine cK (L:=M1) Di aai hM1 ?_
 rintro⟨p,l⟩ ⟨A,G,q⟩
 simp only at A G q
 refine bR (let d:=(0:Int);let i:=γe .i64;let j:=Φ;let o:=γq .i64 0;let q:=bX .i64;let s:=γq .i64;let b:=γW 0 0 20;let c:=bq.cells (bp.ss p) 27 20 false;let v:=(↑p.classes.length:Int)+(12:Int);let k:=(↑l.length:Int);((((j bn.off l).same (j bn.off l)/\b.same b/\(o).same (i 0)/\True)/\c.same c/\True)/\d<=d/\d<=di p/\∀(r:Nat),(↑r:Int)<d->cQ p l (↑r:Int)<=dA p (↑r:Int))/\∀(x:Int),let f:=x+(1:Int);let E:=i f;(d<=x/\x<=di p/\∀(r:Nat),(↑r:Int)<x->cQ p l (↑r:Int)<=dA p (↑r:Int))->q v/\(decide (x<v)=true->((((j bn.off l).same (j bn.off l)/\b.same b/\(i x).same (i x)/\(o).same (i 0)/\(o).same (i 0)/\True)/\c.same c/\True)/\d<=d/\d<=k/\d=cQ p [] x)/\∀(a:Int×Int),let D:=decide (a.fst<(↑l.length:Int));let C:=bj l a.fst.toNat bn.off.dflt;let w:=a.snd+qm p x C;let e:=a.fst+(1:Int);let n:=i x;let h:=i w;let m:=i e;let g:=decide (dA p x<a.snd);d<=a.fst/\a.fst<=k/\a.snd=cQ p (γd a.fst.toNat l) x->(D=true->d<=a.fst/\a.fst<(↑l.length:Int)/\a.fst.toNat<l.length/\(p.classes.length<=8/\d<=x/\x<di p/\d<=C.bF)/\q w/\q e/\(((j bn.off l).same (j bn.off l)/\b.same b/\n.same n/\h.same h/\m.same m/\True)/\c.same c/\True)/\(d<=e/\e<=k/\w=cQ p (γd e.toNat l) x)/\(k - e).toNat<(k - a.fst).toNat)/\(D=false->(p.classes.length<=8/\d<=x/\x<di p/\d<=d)/\(g=true->(δs false).same (γI (fN p l)))/\(g=false->q f/\(((j bn.off l).same (j bn.off l)/\b.same b/\E.same E/\True)/\c.same c/\True)/\(d<=f/\f<=di p/\∀(r:Nat),(↑r:Int)<f->cQ p l (↑r:Int)<=dA p (↑r:Int))/\(di p - f).toNat<(di p - x).toNat)))/\(decide (x<v)=false->(δs true).same (γI (fN p l)))) (by kernel_rfl) ?_
 simp only[vcs]
 have T:di p=p.classes.length+12:=rfl
 have P:∀x∈l,x.want.ok=true:=λx y=>(q x y).2.2
 refine⟨⟨by omega,by omega,λr J=>by omega⟩,?_⟩
 rintro i ⟨H,F,S⟩
 refine⟨by omega,λN=>⟨⟨by omega,by omega,by simp[cQ]⟩,?_⟩,?_⟩
 ·rintro⟨j,s⟩ ⟨u,o,B⟩
  simp only at u o B ⊢
  have Q:=@tV p i (l.take j.toNat) λx y=>P x (γm y)
  have z:(l.take j.toNat).length<=l.length:=by simp;omega
  refine⟨λt=>?_,λt=>?_⟩
  ·have O:=q _ (de (d:=bn.off.dflt) (show j.toNat<l.length by omega))
   have R:=@rh p i _ O.2.2
   grind[Hw,aah]
  ·have:j.toNat=l.length:=by omega
   rw[this,χ] at B
   refine⟨⟨A,by omega,by omega,by omega⟩,λK=>?_,λM=>⟨by omega,⟨by omega,by omega,λr J=>?_⟩,by omega⟩⟩
   ·symm
    rw[Bool.eq_false_iff];intro I
    have:=oM.1 I i.toNat (by omega)
    grind
   grind
 grind[oM]
def Dj:bM:=⟨17,bp,.one dG,λp=>True,λp=> .si .i64 (bC p)⟩
def aaj (p:bp):Nat->cB
 |11=> .inv Int (λk=>⟨[(1,.ptr 0 0 20),(4,.si .i64 k)],[.cells p.ss 27 20 false]⟩) (λs=>iS s 4) (λk=>0<=k/\k<=p.classes.length/\∀c∈p.classes.take k.toNat,0<=c/\c<=4) (λk=>(p.classes.length - k).toNat) λ_ _=> .look
 |16=> .inv Int (λi=>⟨[(1,.ptr 0 0 20),(5,.si .i64 i)],[.cells p.ss 27 20 false]⟩) (λs=>iS s 5)
  (λi=>0<=i/\i<=p.offers.length/\gK p [] p.offers=gK p ((p.offers.take i.toNat).map Off.key) (p.offers.drop i.toNat)) (λi=>(p.offers.length - i).toNat)
  λi=>λ
   |26=> .inv Int (λk=>⟨[(1,.ptr 0 0 20),(5,.si .i64 i),(6,.ptr 1 0 8),(7,.si .i64 k)],[.cells p.ss 27 20 false,.cells (encS .off (bj p.offers i.toNat bn.off.dflt)) 39 8 false]⟩) (λs=>iS s 7)
    (λk=>0<=k/\k<=i/\∀j:Nat,j<k->(bj p.offers j bn.off.dflt).key≠(bj p.offers i.toNat bn.off.dflt).key) (λk=>(i - k).toNat) λ_ _=> .look
   |_=> .look
 |4=> .inv Int (λk=>⟨[(1,.ptr 0 0 20),(3,.si .i64 k)],[.cells p.ss 27 20 false]⟩) (λs=>iS s 3) (λk=>0<=k/\k<=6/\∀j:Nat,j<k->ig p j) (λk=>(6 - k).toNat) λ_ _=> .look
 |_=> .look
theorem aak {b:bz}:(decide (b.a0=0)&&(decide (b.a1=0)&&(decide (b.a2=0)&&(decide (b.a3=0)&&(decide (b.a4=0)&&(decide (b.a5=0)&&true))))))=decide (b=bz.zero):=by
 simp_all[CP,bz.zero]
theorem aal {b c:bz}:(decide (b.a0=c.a0)&&(decide (b.a1=c.a1)&&(decide (b.a2=c.a2)&&(decide (b.a3=c.a3)&&(decide (b.a4=c.a4)&&(decide (b.a5=c.a5)&&true))))))=decide (b=c):=by
 grind[CP]
theorem aam {a:Type} {l:List a} {i:Int} {d x:a} (b:i<=l.length) (h:x∈l.take i.toNat):∃j:Nat,(j:Int)<i/\bj l j d=x:=by
 obtain⟨j,c,rfl⟩:=List.mem_iff_getElem.1 h
 grind[cO]
theorem h24:Holds Tryz.prog Dj:=by
 refine cK (L:=Di::M1) Dj aaj (by simp only[γG];exact⟨h69,hM1⟩) ?_
 intro p _
 refine bR (let a:=(0:Int);let b:=γe .i64;let d:=γq .i64;let e:=(6:Int);let f:=(1:Int);let g:=(4:Int);let h:=bX .i64;let k:=b (bC p);let l:=γW 0 0 20;let z:=d 0;let m:=bq.cells (bp.ss p) 27 20 false;let af:=[p.cls.a0,p.cls.a1,p.cls.a2,p.cls.a3,p.cls.a4,p.cls.a5];let ag:=[p.opn.a0,p.opn.a1,p.opn.a2,p.opn.a3,p.opn.a4,p.opn.a5];let ah:=[p.supply.a0,p.supply.a1,p.supply.a2,p.supply.a3,p.supply.a4,p.supply.a5];let J:=p.classes.length;let o:=(↑J:Int);let L:=decide ((8:Int)<o);let E:=p.offers.length;let r:=(↑E:Int);let M:=decide ((160:Int)<r);let s:=(↑p.classes.length:Int);let A:=(↑p.offers.length:Int);let F:=gK p [] p.offers;let B:=bn.off.dflt;let G:=γW 1 0 8;True/\((!p.supply.ok)=true->(d 4).same k)/\((!p.supply.ok)=false->(((l.same l/\z.same (b 0)/\True)/\m.same m/\True)/\a<=a/\a<=e/\∀(j:Nat),(↑j:Int)<a->ig p j)/\∀(x:Int),let t:=x+f;let N:=b t;let O:=decide (x<e);let K:=bj af x.toNat a;let P:=decide (K<a);let Q:=decide (g<K);let C:=bj ag x.toNat a;let R:=decide (C<a);let H:=bj ah x.toNat a;let S:=decide (K=a);let T:=h t/\((l.same l/\N.same N/\True)/\m.same m/\True)/\(a<=t/\t<=e/\∀(j:Nat),(↑j:Int)<t->ig p j)/\(e - t).toNat<(e - x).toNat;(a<=x/\x<=e/\∀(j:Nat),(↑j:Int)<x->ig p j)->(O=true->a<=x/\x<e/\x.toNat<6/\(P=true->(d 4).same k)/\(P=false->a<=x/\x<e/\x.toNat<6/\(Q=true->(d 4).same k)/\(Q=false->a<=x/\x<e/\x.toNat<6/\(R=true->(d 4).same k)/\(R=false->a<=x/\x<e/\x.toNat<6/\a<=x/\x<e/\x.toNat<6/\(decide (H<C)=true->(d 4).same k)/\(decide (H<C)=false->a<=x/\x<e/\x.toNat<6/\(S=true->a<=x/\x<e/\x.toNat<6/\a<=x/\x<e/\x.toNat<6/\(decide (C≠H)=true->(d 4).same k)/\(decide (C≠H)=false->T))/\(S=false->T))))))/\(O=false->(L=true->(d 3).same k)/\(L=false->(M=true->(d 3).same k)/\(M=false->(((l.same l/\z.same (b 0)/\True)/\m.same m/\True)/\a<=a/\a<=s/\∀(c:Int),c∈[]->a<=c/\c<=g)/\∀(x:Int),let U:=bj p.classes x.toNat a;let V:=decide (U<a);let W:=decide (g<U);let v:=x+f;let X:=b v;(a<=x/\x<=s/\∀(c:Int),c∈γd x.toNat p.classes->a<=c/\c<=g)->(decide (x<o)=true->a<=x/\x<o/\x.toNat<J/\(V=true->(d 4).same k)/\(V=false->a<=x/\x<o/\x.toNat<J/\(W=true->(d 4).same k)/\(W=false->h v/\((l.same l/\X.same X/\True)/\m.same m/\True)/\(a<=v/\v<=s/\∀(c:Int),c∈γd v.toNat p.classes->a<=c/\c<=g)/\(s - v).toNat<(s - x).toNat)))/\(decide (x<o)=false->(((l.same l/\z.same (b 0)/\True)/\m.same m/\True)/\a<=a/\a<=A/\F=F)/\∀(x:Int),let n:=bj p.offers x.toNat B;let i:=n.want;let D:=n.bF;let Y:=decide (D<a);let Z:=decide (n.value<f);let a6:=decide ((1000000:Int)<n.value);let I:=bq.cells [b D,b i.a0,b i.a1,b i.a2,b i.a3,b i.a4,b i.a5,b n.value] 39 8 false;let q:=x+f;let a7:=b q;let a8:=λ(u:Bool) ↦(decide (i.a0=a)&&(decide (i.a1=a)&&(decide (i.a2=a)&&(decide (i.a3=a)&&(decide (i.a4=a)&&(decide (i.a5=a)&&true))))))=u;a<=x/\x<=A/\F=gK p (List.map Off.key (γd x.toNat p.offers)) (δi x.toNat p.offers)->(decide (x<r)=true->a<=x/\x<r/\x.toNat<E/\(Y=true->(d 6).same k)/\(Y=false->(decide (o<=D)=true->(d 6).same k)/\(decide (o<=D)=false->(Z=true->(d 4).same k)/\(Z=false->(a6=true->(d 4).same k)/\(a6=false->True/\((!i.ok)=true->(d 4).same k)/\((!i.ok)=false->(a8 true->(d 4).same k)/\(a8 false->(p.classes.length<=8/\1<=1000/\∀(x:Off),x∈[n]->a<=x.bF/\x.bF<s/\x.want.ok=true)/\((!fN p [n])=true->(d 14).same k)/\((!fN p [n])=false->(((l.same l/\(b x).same (b x)/\G.same G/\z.same (b 0)/\True)/\m.same m/\I.same I/\True)/\a<=a/\a<=x/\∀(j:Nat),(↑j:Int)<a->(bj p.offers j B).key≠n.key)/\∀(x_1:Int),let w:=x_1+f;let a9:=b x;let aa:=b w;let ab:=bj p.offers x_1.toNat B;let y:=ab.want;let ac:=decide (ab.bF=D);let ad:=h w/\((l.same l/\a9.same a9/\G.same G/\aa.same aa/\True)/\m.same m/\I.same I/\True)/\(a<=w/\w<=x/\∀(j:Nat),(↑j:Int)<w->(bj p.offers j B).key≠n.key)/\(x - w).toNat<(x - x_1).toNat;let ae:=λ(u:Bool) ↦(decide (y.a0=i.a0)&&(decide (y.a1=i.a1)&&(decide (y.a2=i.a2)&&(decide (y.a3=i.a3)&&(decide (y.a4=i.a4)&&(decide (y.a5=i.a5)&&true))))))=u;(a<=x_1/\x_1<=x/\∀(j:Nat),(↑j:Int)<x_1->(bj p.offers j B).key≠n.key)->(decide (x_1<x)=true->a<=x_1/\x_1<r/\x_1.toNat<E/\(ac=true->a<=x_1/\x_1<r/\x_1.toNat<E/\(ae true->(d 7).same k)/\(ae false->ad))/\(ac=false->ad))/\(decide (x_1<x)=false->h q/\((l.same l/\a7.same a7/\True)/\m.same m/\True)/\(a<=q/\q<=A/\F=gK p (List.map Off.key (γd q.toNat p.offers)) (δi q.toNat p.offers))/\(A - q).toNat<(A - x).toNat)))))))))/\(decide (x<r)=false->z.same k))))))) (by kernel_rfl) ?_
 simp only[aak,aal];simp only[vcs]
 have e4:gY p=4->(4:Int)=bC p:=λh=>by simp[bC,h]
 have e3:gY p=3->(3:Int)=bC p:=λh=>by simp[bC,h]
 refine⟨λhs=>e4 (PD hs),λhs=>⟨⟨by omega,by omega,λj hj=>by omega⟩,?_⟩⟩
 rintro k ⟨hk0,hk1,hk⟩
 refine⟨λhlt=>?_,λhge=>?_⟩
 ·have bad:¬ig p k.toNat->(4:Int)=bC p:=λh=>e4 (PE hs (by omega) h)
  have HA:ig p k.toNat->∀(j:Nat),(j:Int)<k+1->ig p j:=λh j hj=>by
   by_cases hj2:(j:Int)<k
   ·exact hk j hj2
   ·rw[show j=k.toNat from by omega];exact h
  repeat' (first|refine And.intro ?_ ?_|intro _)
  all_goals first
   |omega
   |exact bad λhh=>by have h2:=nP.1 hh;omega
   |exact HA (nP.2 (by omega)) _ (by assumption)
 ·have hall:∀j:Nat,j<6->ig p j:=λj hj=>hk j (by omega)
  refine⟨λh=>e3 (CU hs hall (.inl (by omega))),λh8=>⟨λh=>e3 (CU hs hall (.inr (by omega))),λh160=>⟨⟨by omega,by omega,by simp⟩,?_⟩⟩⟩
  rintro i ⟨hi0,hi1,hi⟩
  refine⟨λhlt=>?_,λhge=>?_⟩
  ·have hm:=de (d:=0) (show i.toNat<p.classes.length by omega)
   refine⟨by omega,by omega,by omega,λh=>e4 (CV hs hall (by omega) hm (by omega)),λh1=>⟨by omega,by omega,by omega,λh=>e4 (CV hs hall (by omega) hm (by omega)),λh2=>⟨by omega,⟨by omega,by omega,?_⟩,by omega⟩⟩⟩
   exact PG hi0 hlt hi (by omega)
  ·rw[show i.toNat=p.classes.length from by omega,χ] at hi
   have hz:gY p=0:=Hz hs hall (by omega) hi
   have ce:bC p=gK p [] p.offers:=by simp[bC,hz]
   refine⟨⟨by omega,by omega⟩,?_⟩
   rintro i ⟨hi0,hi1,hi⟩
   refine⟨λhlt=>?_,λhge=>?_⟩
   ·rw[CW (d:=bn.off.dflt) hi0 hlt] at hi
    generalize hx:bj p.offers i.toNat bn.off.dflt=x at hi ⊢
    have oe:∀c:Int,c≠0->jF p x=c->c=bC p:=λc hc h=>by
     rw[ce,hi];simp only[gK,h];rw[if_pos hc]
    have se:∀c:Int,c≠0->kr p.classes.length x=c->c=bC p:=λc hc h=>oe c hc (by
     unfold jF
     rw[if_pos (by omega),h])
    refine⟨by omega,by omega,by omega,λh1=>?_,λh1=>⟨λh2=>?_,λh2=>⟨λh3=>?_,λh3=>⟨λh4=>?_,λh4=>⟨λh5=>?_,λh5=>⟨λh6=>?_,λh6=>?_⟩⟩⟩⟩⟩⟩
    ·exact se 6 (by decide) (by unfold kr;rw[if_pos (by omega)])
    ·exact se 6 (by decide) (by unfold kr;rw[if_pos (by omega)])
    ·exact se 4 (by decide) (by unfold kr;rw[if_neg (by omega),if_pos (by omega)])
    ·exact se 4 (by decide) (by unfold kr;rw[if_neg (by omega),if_pos (by omega)])
    ·exact se 4 (by decide) (by unfold kr;rw[if_neg (by omega),if_neg (by omega),h5];rfl)
    ·have hs0:kr p.classes.length x=0:=by unfold kr;rw[if_neg (by omega),if_neg (by omega),h5];rfl
     exact oe 4 (by decide) (by simp[jF,hs0,h6])
    ·have hs0:kr p.classes.length x=0:=by unfold kr;rw[if_neg (by omega),if_neg (by omega),h5];rfl
     refine⟨⟨by omega,by omega,λy hy=>?_⟩,λh7=>?_,λh7=>⟨⟨by omega,by omega,λj hj=>by omega⟩,?_⟩⟩
     ·rw[List.mem_singleton.1 hy]
      exact⟨by omega,by omega,h5⟩
     ·exact oe 14 (by decide) (by simp[jF,hs0,h6,h7])
     ·have ho0:jF p x=0:=by simp[jF,hs0,h6,h7]
      rintro k ⟨hk0,hk1,hk⟩
      have hnx:(bj p.offers k.toNat bn.off.dflt).key≠x.key->∀j:Nat,(j:Int)<k+1->(bj p.offers j bn.off.dflt).key≠x.key:=λh j hj=>by
       by_cases hj2:(j:Int)<k
       ·exact hk j hj2
       ·rw[show j=k.toNat from by omega];exact h
      refine⟨λhlt2=>⟨by omega,by omega,by omega,λh8=>⟨by omega,by omega,by omega,λh9=>?_,λh9=>⟨by omega,⟨by omega,by omega,?_⟩,by omega⟩⟩,λh8=>⟨by omega,⟨by omega,by omega,?_⟩,by omega⟩⟩,λIi=>⟨by omega,⟨by omega,by omega,?_⟩,by omega⟩⟩
      ·have hk9:(bj p.offers k.toNat bn.off.dflt).key=x.key:=by
        show mV.mk _ _=mV.mk _ _
        rw[h8,h9]
       have hmem:x.key∈(p.offers.take i.toNat).map Off.key:=by
        rw[<-hk9]
        refine γf.2 ⟨_,?_,rfl⟩
        rw[cO (by omega)]
        exact List.mem_take_iff_getElem.2 ⟨k.toNat,by omega,rfl⟩
       rw[ce,hi];simp only[gK,ho0,ne_eq,not_true,if_false,if_pos hmem]
      ·refine hnx λe=>h9 ?_
       injection e
      ·refine hnx λe=>h8 ?_
       injection e
      ·have hnm:x.key∉(p.offers.take i.toNat).map Off.key:=by
        intro hmem
        obtain⟨o,ho,he⟩:=γf.1 hmem
        obtain⟨j,hj,rfl⟩:=aam (d:=bn.off.dflt) hi1 ho
        exact hk j (by omega) he
       rw[hi,jl (d:=bn.off.dflt) hi0 hlt,hx];simp only[gK,ho0,ne_eq,not_true,if_false,if_neg hnm,γa,ι,γs]
   ·rw[show i.toNat=p.offers.length from by omega,ε0] at hi
    rw[ce,hi];rfl
def M2:List bM:=Dj::Di::M1
theorem hM2:∀c∈M2,Holds Tryz.prog c:=by
 grind[M2,h24,h69,hM1]
def Ij:bM:=⟨63,bp×List Int,.cons dG (.one (dN (.i .i64))),λa=>a.2.length<=9223372036854775807/\a.1.offers.length<=1000,λa=> .bH [.row .off (dQ a.1 a.2),.sb (fO a.1 a.2)]⟩
def jY (c:List Int) (i:Int):Int:=if i=0 then -1 else bj c (i - 1).toNat 0
def aao (a:bp×List Int):Nat->cB
 |3=> .inv (Int×List Off) (λx=>⟨[(1,.row (.i .i64) a.2),(2,.ptr 0 0 20),(6,.ow 1 x.2.length 8),(7,.si .i64 x.1)],
   [.cells a.1.ss 27 20 false,.row .off x.2 39 true]⟩) (λs=>(iS s 7,oS .off s 1))
  (λx=>0<=x.1/\x.1<=a.2.length/\(x.2.length<=jY a.2 x.1+1/\jY a.2 x.1<1000)/\ -1<=jY a.2 x.1/\eA a.1.offers (-1) a.2=(eA a.1.offers (jY a.2 x.1) (a.2.drop x.1.toNat)).map (x.2++·)) (λx=>(a.2.length - x.1).toNat) λ_ _=> .look
 |_=> .look
theorem h109:Holds Tryz.prog Ij:=by
 refine cK (L:=M2) Ij aao hM2 ?_
 rintro⟨p,c⟩ ⟨hc,hof⟩
 have hc:c.length<=9223372036854775807:=hc
 have hof:p.offers.length<=1000:=hof
 refine bR (let a:=γe .i64;let b:=(0:Int);let d:=Φ;let e:=(1:Int);let f:=δs false;let g:=(-1:Int);let h:=(1000:Int);let j:=SV.bH;let k:=bn.i .i64;let s:=γW 0 0 20;let B:=γ8 1 0 8;let t:=bq.cells [a p.supply.a0,a p.supply.a1,a p.supply.a2,a p.supply.a3,a p.supply.a4,a p.supply.a5,a p.opn.a0,a p.opn.a1,a p.opn.a2,a p.opn.a3,a p.opn.a4,a p.opn.a5,a p.cls.a0,a p.cls.a1,a p.cls.a2,a p.cls.a3,a p.cls.a4,a p.cls.a5,d k p.classes,d bn.off p.offers] 27 20 false;let C:=bq.row bn.off [] 39 true;let o:=(↑c.length:Int);let u:=jY c b;let z:=eA p.offers g c;let n:=(↑c.length:Int);let v:=j [d bn.off (dQ p c),γI (fO p c)];let D:=p.offers.length;let A:=(↑D:Int);let L:=bn.off.dflt;((((d k c).same (d k c)/\s.same s/\B.same B/\(γq .i64 0).same (a 0)/\True)/\t.same t/\C.same C/\True)/\b<=b/\b<=o/\(b<=u+e/\u<h)/\g<=u/\z=ζs (λx ↦(b,[]).snd++x) (eA p.offers u c))/\∀(x:Int×List Off),let l:=bj c x.fst.toNat b;let E:=x.snd.length+1;let m:=x.fst+e;let q:=x.snd++[bj p.offers l.toNat L];let F:=a m;let G:=bq.row bn.off q 39 true;let w:=jY c m;let y:=jY c x.fst;let H:=decide (l<b);let I:=decide (b<x.fst);let r:=x.fst - e;let J:=decide (l<=bj c r.toNat b);let K:=b<=x.fst/\x.fst<n/\x.fst.toNat<c.length/\b<=l/\l<A/\l.toNat<D/\x.snd.length=x.snd.length/\E*64<=140737488355328/\E<=1000000000000/\bX .i64 m/\(((d k c).same (d k c)/\s.same s/\(γ8 1 q.length 8).same (γ8 1 q.length 8)/\F.same F/\True)/\t.same t/\G.same G/\True)/\(b<=m/\m<=o/\((↑q.length:Int)<=w+e/\w<h)/\g<=w/\z=ζs (λx ↦(m,q).snd++x) (eA p.offers w (δi m.toNat c)))/\(o - m).toNat<(o - x.fst).toNat;b<=x.fst/\x.fst<=o/\((↑x.snd.length:Int)<=y+e/\y<h)/\g<=y/\z=ζs (λx_1 ↦x.snd++x_1) (eA p.offers y (δi x.fst.toNat c))->(decide (x.fst<n)=true->b<=x.fst/\x.fst<n/\x.fst.toNat<c.length/\(H=true->(j [d k [],f]).same v)/\(H=false->b<=x.fst/\x.fst<n/\x.fst.toNat<c.length/\(decide (A<=l)=true->(j [d k [],f]).same v)/\(decide (A<=l)=false->(I=true->b<=x.fst/\x.fst<n/\x.fst.toNat<c.length/\bX .i64 r/\b<=r/\r<n/\r.toNat<c.length/\(J=true->(j [d k [],f]).same v)/\(J=false->K))/\(I=false->K))))/\(decide (x.fst<n)=false->x.snd.length=x.snd.length/\(j [d bn.off x.snd,δs true]).same v)) (by kernel_rfl) ?_
 simp only[vcs]
 have hbad:eA p.offers (-1) c=none->(Φ (.i .i64) []).same (Φ .off (dQ p c))/\false=fO p c:=λh=>⟨Pz.2 (by simp[dQ,h]),by simp[fO,h]⟩
 refine⟨⟨by omega,by omega,by simp[jY],by simp[jY]⟩,?_⟩
 rintro⟨i,out⟩ ⟨hi0,hi1,hlen,hla,hi⟩
 simp only at hi0 hi1 hlen hla hi ⊢
 refine⟨λhlt=>?_,λhge=>?_⟩
 ·rw[CW (d:=0) hi0 hlt] at hi
  have hl1:jY c (i+1)=bj c i.toNat 0:=by unfold jY;rw[if_neg (by omega),show i+1 - 1=i by omega]
  have hl2:i≠0->jY c i=bj c (i - 1).toNat 0:=λh=>by unfold jY;rw[if_neg h]
  have hl3:i=0->jY c i= -1:=λh=>by unfold jY;rw[if_pos h]
  generalize hx:bj c i.toNat 0=x at hi hl1 ⊢
  simp only[eA] at hi
  have hgood:¬(x<=jY c i\/p.offers.length<=x)->eA p.offers (-1) c=(eA p.offers (jY c (i+1)) (c.drop (i+1).toNat)).map λr=>(out++[bj p.offers x.toNat bn.off.dflt])++r:=λh=>by
   rw[if_neg h] at hi;rw[hi,hl1,Option.map_map]
   congr 1
   funext r
   simp
  have bad:(x<=jY c i\/p.offers.length<=x)->(Φ (.i .i64) []).same (Φ .off (dQ p c))/\false=fO p c:=λh=>hbad (by rw[hi,if_pos h];rfl)
  have Qa:¬(x<=jY c i\/p.offers.length<=x)->((out++[bj p.offers x.toNat bn.off.dflt]).length:Int)<=jY c (i+1)+1/\jY c (i+1)<1000:=λh=>by
   rw[hl1];simp only[List.length_append,List.length_singleton];omega
  refine⟨by omega,by omega,by omega,λh1=>bad (.inl (by omega)),λh1=>⟨by omega,by omega,by omega,λh2=>bad (.inr (by omega)),λh2=>⟨λh3=>⟨by omega,by omega,by omega,by omega,by omega,by omega,by omega,λh4=>bad (.inl (by rw[hl2 (by omega)];omega)),λh4=>?_⟩,λh3=>?_⟩⟩⟩
  ·have:=hl2 (by omega)
   refine⟨by omega,by omega,by omega,by omega,by omega,by omega,by omega,by omega,by omega,⟨by omega,by omega,Qa (by omega),by omega,hgood (by omega)⟩,by omega⟩
  ·have:=hl3 (by omega)
   refine⟨by omega,by omega,by omega,by omega,by omega,by omega,by omega,by omega,by omega,⟨by omega,by omega,Qa (by omega),by omega,hgood (by omega)⟩,by omega⟩
 ·rw[show i.toNat=c.length from by omega,ε0] at hi
  simp only[eA,Option.map_some,List.append_nil] at hi
  exact⟨by simp[dQ,hi],by simp[fO,hi]⟩
def M3:List bM:=Ij::M2
theorem N3:∀c∈M3,Holds Tryz.prog c:=by
 grind[M3,h109,hM2]
def Ik:bM:=⟨30,bp×List Int,.cons dG (.one (dN (.i .i64))),λa=>a.2.length<=9223372036854775807,λa=> .si .i64 (cM a.1 a.2)⟩
theorem h55:Holds Tryz.prog Ik:=by
 refine cK (L:=M3) Ik (λp=>λ_=> .look) N3 ?_
 rintro⟨p,c⟩ (n:c.length<=9223372036854775807)
 refine bR (let a:=γq .i64;let e:=decide (bC p≠(0:Int));let d:=γe .i64 (cM p c);let f:=!fN p (dQ p c);True/\(e=true->(γe .i64 (bC p)).same d)/\(e=false->(c.length<=9223372036854775807/\p.offers.length<=1000)/\((!fO p c)=true->(a 4).same d)/\((!fO p c)=false->(p.classes.length<=8/\(dQ p c).length<=1000/\∀(x:Off),x∈dQ p c->(0:Int)<=x.bF/\x.bF<(↑p.classes.length:Int)/\x.want.ok=true)/\(f=true->(a 14).same d)/\(f=false->(a 0).same d)))) (by kernel_rfl) ?_
 simp only[vcs]
 refine⟨λh=>by simp[cM,h],λh=>?_⟩
 have g:bC p=0:=Γ.1 h
 obtain⟨m,j⟩:=rj g
 obtain⟨s,o,l,q,t⟩:=sr m
 refine⟨⟨n,by omega⟩,λa=>by grind[cM],λa=>⟨⟨l,?_,?_⟩,λk=>by grind[cM],λk=>by grind[cM]⟩⟩
 ·unfold fO at a
  obtain⟨r,b⟩:=γk.1 a
  have:=vq (by omega) b
  grind[dQ]
 ·unfold fO at a
  obtain⟨r,b⟩:=γk.1 a
  simp only[dQ,b,γX];intro x i
  have u:=xo (xp (j x (CZ (by omega) b x i))).1
  simp_all
def ck:List Off->Int
 |[]=>0
 |x::l=>x.value+ck l
def eC (p:bp) (c:List Int):Int:=if bC p=0 then ck (dQ p c) else 0
theorem pG:∀{l m:List Off},ck (l++m)=ck l+ck m
 |[],m=>by simp[ck]
 |x::l,m=>by simp only[List.cons_append,ck,@pG l m];omega
theorem aap {l:List Off} {i:Int} (a:0<=i) (h:i<l.length):ck (l.take (i+1).toNat)=ck (l.take i.toNat)+(bj l i.toNat bn.off.dflt).value:=by
 rw[jl (d:=bn.off.dflt) a h,pG]
 simp[ck]
theorem aaq {p:bp} {c:List Int} (h:bC p=0):(dQ p c).length<=160/\∀x∈dQ p c,x∈p.offers:=by
 have d:=dL h
 unfold dQ
 cases a:eA p.offers (-1) c with
 |none=>simp
 |some r=>
  refine⟨?_,λx b=>CZ (by omega) a x b⟩
  have e:=vq (by omega) a
  have f:=d.2.1
  grind
theorem sA {p:bp} (a:Good p):∀{l:List Off},(∀x∈l,x∈p.offers)->0<=ck l/\ck l<=1000000*l.length
 |[],_=>by simp[ck]
 |x::l,h=>by
  have c:=a.2.2.2.2 x (h x (by simp))
  have d:=@sA p a l λy b=>h y (by simp[b])
  grind[ck]
def cmpL:List Int->List Int->Int
 |[],[]=>0
 |[],_::_=> -1
 |_::_,[]=>1
 |a::l,b::m=>if a<b then -1 else if b<a then 1 else cmpL l m
def dS (l:List bz):bz:=⟨(l.map bz.a0).sum,(l.map bz.a1).sum,(l.map bz.a2).sum,(l.map bz.a3).sum,(l.map bz.a4).sum,(l.map bz.a5).sum⟩
def cy (p:bp) (l:List Int):List Off:=l.map λi=>bj p.offers i.toNat bn.off.dflt
def gy (p:bp) (L:List Off):Prop:=(L.map Off.bF).Nodup/\(dS (L.map Off.want)).le p.supply=true/\(dS (L.map (dR p))).le p.opn=true
instance (p:bp) (L:List Off):Decidable (gy p L):=by unfold gy;infer_instance
def lq (p:bp) (l:List Int):Bool:=decide (gy p (cy p l))
def ik (a b:bz) (k:Int):bz:=⟨if 0<k then b.a0 else a.a0,if 1<k then b.a1 else a.a1,if 2<k then b.a2 else a.a2,if 3<k then b.a3 else a.a3,if 4<k then b.a4 else a.a4,if 5<k then b.a5 else a.a5⟩
def bz.add (a b:bz):bz:=⟨a.a0+b.a0,a.a1+b.a1,a.a2+b.a2,a.a3+b.a3,a.a4+b.a4,a.a5+b.a5⟩
theorem vt {l m:List bz}:dS (l++m)=(dS l).add (dS m):=by simp[dS,bz.add]
theorem vu {b:bz} {l:List bz}:dS (b::l)=b.add (dS l):=by simp[dS,bz.add]
def bz.bd (b:bz) (n:Int):Prop:=(0<=b.a0/\b.a0<=n)/\(0<=b.a1/\b.a1<=n)/\(0<=b.a2/\b.a2<=n)/\(0<=b.a3/\b.a3<=n)/\(0<=b.a4/\b.a4<=n)/\(0<=b.a5/\b.a5<=n)
theorem Il:∀{l:List bz},(∀b∈l,b.ok=true)->(dS l).bd (4*l.length)
 |[],_=>by simp[dS,bz.bd]
 |b::l,h=>by
  have e:=bz.fA.1 (h b (by simp))
  have d:=@Il l λc a=>h c (by simp[a])
  rw[vu];simp only[bz.bd,bz.add,γv] at d ⊢;omega
theorem aar {p:bp} {x:Off} (h:x.want.ok=true):(dR p x).ok=true:=by
 have a:=bz.fA.1 h
 rw[bz.fA];simp only[dR,eJ,oc];omega
theorem Dk {p:bp} (b:Good p) {l:List Int} (h:∀i∈l,0<=i/\i<p.offers.length):∀x∈cy p l,x∈p.offers:=by
 intro x a
 obtain⟨i,c,rfl⟩:=γf.1 a
 grind[de]
def jZ (p:bp) (i:Int):Int:=(bj p.offers i.toNat bn.off.dflt).value
def better (a b:Alloc):Alloc:=if b.value<a.value\/a.value=b.value/\cmpL a.chosen b.chosen<0 then a else b
def lr (p:bp):Nat->Int->Alloc->Alloc->Alloc
 |0,_,_,b=>b
 |k+1,i,a,b=>lr p k (i+1) a (if lq p (a.chosen++[i]) then lr p k (i+1) ⟨a.chosen++[i],a.value+jZ p i⟩ (better ⟨a.chosen++[i],a.value+jZ p i⟩ b) else b)
def Qb (p:bp) (i:Int):Nat:=(p.offers.length - i).toNat
def Qc (p:bp) (a:Alloc) (f:Int) (b:Alloc):Alloc:=lr p (Qb p f) f a (better a b)
def bZ (p:bp):Alloc:=Qc p ⟨[],0⟩ 0 ⟨[],0⟩
def hasB (m b:Int):Bool:=decide (fh.tG .i64 (m / 2^b.toNat) 1=1)
def qo (p:bp) (w:Int) (n:Nat):Int:=((τ n).map λi:Nat=>if(i:Int)≠w then(2:Int)^i else 0).sum
theorem aas (p:bp) (w:Int) (n:Nat):qo p w (n+1)=qo p w n+if(n:Int)≠w then(2:Int)^n else 0:=by
 unfold qo;rw[δR,γa]
 simp
theorem Qd (p:bp) (w:Int):∀n:Nat,0<=qo p w n/\qo p w n<2^n
 |0=>by simp[qo]
 |n+1=>by
  have h:=Qd p w n
  rw[aas,Int.pow_succ]
  split<;>omega
def oP (p:bp) (m:Int):bp:={p with offers:=p.offers.filter λx=>hasB m x.bF}
theorem Im {p:bp} (h:Good p) (m:Int):Good (oP p m):=by
 refine⟨h.1,?_,h.2.2.1,h.2.2.2.1,λx hx=>h.2.2.2.2 x (γi.1 hx).1⟩
 have:=γC (λx:Off=>hasB m x.bF) p.offers
 have:=h.2.1
 simp only[oP];omega
def tY (p:bp) (m:Int):Int:=(bZ (oP p m)).value
theorem zB {p:bp} {c:List Int} (e:cM p c=0):bC p=0/\fO p c=true/\Good p/\c.length<=160/\∀i∈c,0<=i/\i<p.offers.length:=by
 have b:bC p=0:=by
  unfold cM at e;omega
 have d:fO p c=true:=by
  unfold cM at e
  grind
 have f:=dL b
 obtain⟨r,g⟩:=γk.1 d
 obtain⟨h,a⟩:=C9 (by omega) g
 refine⟨b,d,f,?_,a⟩
 have k:=vq (by omega) g
 have j:=f.2.1
 grind
def Dl (p:bp) (b:Int) (s:Int×Int) (i:Int):Int×Int:=if(bj p.offers i.toNat bn.off.dflt).bF=b then((bj p.offers i.toNat bn.off.dflt).value,s.2) else(s.1,s.2+(bj p.offers i.toNat bn.off.dflt).value)
def zC (p:bp) (c:List Int) (b:Int):Int×Int:=c.foldl (Dl p b) (0,0)
def Dm (p:bp):Int:=qo p (-1) p.classes.length
def Dn (p:bp) (c:List Int):Int:=if cM p c≠0 then cM p c else if eC p c<tY p (Dm p) then 13 else 0
theorem aat {p:bp} {c:List Int} (h:Dn p c=0):cM p c=0:=by
 unfold Dn at h;split at h
 ·rename_i h1;exact absurd h h1
 ·rename_i h1;exact Γ.1 h1
structure Qe (p:bp) (fs:List Int) (l o:bz) (L:List Off):Prop where
 nd:(L.map Off.bF).Nodup
 mem:∀x∈L,x∈p.offers/\x.bF∈fs
 w:(dS (L.map Off.want)).le l=true
 o:(dS (L.map (dR p))).le o=true
theorem Qf {p:bp} {fs:List Int} {l o:bz}:∀{xs:List Off} {v:Int},v<=xs.foldl (ky p fs l o) v/\∀x∈xs,x.want.le l=true->(dR p x).le o=true->x.value+gx p fs (l.sub x.want) (o.sub (dR p x))<=xs.foldl (ky p fs l o) v
 |[],v=>by simp
 |y::xs,v=>by
  obtain⟨h1,h2⟩:=@Qf p fs l o xs (ky p fs l o v y)
  have hv:v<=ky p fs l o v y:=by
   unfold ky
   split<;>omega
  refine⟨by simp only[γw];omega,λx hx hw ho=>?_⟩
  simp only[γw]
  rcases γp.1 hx with rfl|hx
  ·have:x.value+gx p fs (l.sub x.want) (o.sub (dR p x))<=ky p fs l o v x:=by
    unfold ky
    rw[if_pos (by simp[hw,ho])]
    omega
   omega
  ·exact h2 x hx hw ho
theorem fold_at {p:bp} {fs:List Int} {l o:bz}:∀{xs:List Off} {v:Int},xs.foldl (ky p fs l o) v=v\/∃x∈xs,x.want.le l=true/\(dR p x).le o=true/\xs.foldl (ky p fs l o) v=x.value+gx p fs (l.sub x.want) (o.sub (dR p x))
 |[],v=>by simp
 |y::xs,v=>by
  simp only[γw]
  rcases @fold_at p fs l o xs (ky p fs l o v y) with h|⟨x,hx,h1,h2,h3⟩
  ·rw[h]
   unfold ky;split
   ·rename_i hc
    simp only[θ] at hc
    by_cases hm:v<=y.value+gx p fs (l.sub y.want) (o.sub (dR p y))
    ·exact .inr ⟨y,by simp,hc.1,hc.2,by omega⟩
    ·left;omega
   ·exact .inl rfl
  ·exact .inr ⟨x,by simp[hx],h1,h2,h3⟩
theorem aau {x:bz} {s t:List bz}:dS (s++x::t)=x.add (dS (s++t)):=by
 rw[vt,vt,vu];simp only[bz.add,bz.mk.injEq];omega
theorem aav {x:Off} {s t:List Off}:ck (s++x::t)=x.value+ck (s++t):=by
 rw[pG,pG];simp only[ck];omega
theorem Qg {p:bp} (c:Good p) {L:List Off} (h:∀x∈L,x∈p.offers):(dS (L.map Off.want)).bd (4*L.length)/\(dS (L.map (dR p))).bd (4*L.length):=by
 have e:∀x∈L,x.want.ok=true:=λx d=>(c.2.2.2.2 x (h x d)).2.2.1
 have a:=@Il (L.map Off.want) (λb f=>by grind)
 grind[Il,aar]
theorem zD {p:bp} (hg:Good p):∀{fs:List Int} {l o:bz} {L:List Off},Qe p fs l o L->ck L<=gx p fs l o
 |[],l,o,L,h=>by
  have:L=[]:=by
   cases L with
   |nil=>rfl
   |cons x L=>exact absurd (h.mem x (by simp)).2 (by simp)
  subst this
  simp[ck,gx]
 |f::fs,l,o,L,h=>by
  obtain⟨g1,g2⟩:=@Qf p fs l o (iU p f) (gx p fs l o)
  have hval:gx p (f::fs) l o=(iU p f).foldl (ky p fs l o) (gx p fs l o):=rfl
  rw[hval]
  by_cases hx:∃x∈L,x.bF=f
  ·obtain⟨x,hx,hf⟩:=hx
   obtain⟨s,t,rfl⟩:=List.append_of_mem hx
   obtain⟨nd,mem,w,o'⟩:=h
   have hmx:=mem x hx
   have hst:∀y∈s++t,y∈p.offers:=λy hy=>(mem y (by simp only[ω,γp] at hy ⊢;rcases hy with h|h<;>simp[h])).1
   obtain⟨b1,b2⟩:=Qg hg hst
   rw[γa,ι,aau,bz.le_iff,<-γa] at w o'
   simp only[bz.add,bz.bd] at w o' b1 b2
   have hw:x.want.le l=true:=by rw[bz.le_iff];omega
   have ho:(dR p x).le o=true:=by rw[bz.le_iff];omega
   have hg2:=g2 x (γi.2 ⟨hmx.1,by simp[hf]⟩) hw ho
   rw[γa,ι,γu] at nd
   have hne:∀y∈s++t,y.bF≠f:=λy hy=>by
    rw[<-hf]
    rcases ω.1 hy with hy|hy
    ·exact nd.2.2 _ (γ3 hy) _ (by simp)
    ·intro e
     have:=(γD.1 nd.2.1).1
     exact this (e▸γ3 hy)
   have hrec:ck (s++t)<=gx p fs (l.sub x.want) (o.sub (dR p x)):=zD hg
    {nd:=by
      rw[γa,γu]
      exact⟨nd.1,(γD.1 nd.2.1).2,λa ha b hb=>nd.2.2 a ha b (by simp[hb])⟩
     mem:=λy hy=>by
      have h1:=mem y (by simp only[ω,γp] at hy ⊢;rcases hy with h|h<;>simp[h])
      refine⟨h1.1,?_⟩
      rcases γp.1 h1.2 with h2|h2
      ·exact absurd h2 (hne y hy)
      ·exact h2
     w:=by rw[bz.le_iff];simp only[bz.sub];omega
     o:=by rw[bz.le_iff];simp only[bz.sub];omega}
   rw[aav];omega
  ·have:=zD hg (fs:=fs) (l:=l) (o:=o) (L:=L) ⟨h.nd,λy hy=>by
    have h1:=h.mem y hy
    refine⟨h1.1,?_⟩
    rcases γp.1 h1.2 with h2|h2
    ·exact absurd ⟨y,hy,h2⟩ hx
    ·exact h2,h.w,h.o⟩
   omega
theorem zE {p:bp} (hg:Good p):∀{fs:List Int} {l o:bz},fs.Nodup->bz.zero.le l=true->bz.zero.le o=true->∃L,Qe p fs l o L/\ck L=gx p fs l o
 |[],l,o,_,hl,ho=>⟨[],⟨by simp,by simp,hl,ho⟩,rfl⟩
 |f::fs,l,o,hn,hl,ho=>by
  have hn2:=γD.1 hn
  have hval:gx p (f::fs) l o=(iU p f).foldl (ky p fs l o) (gx p fs l o):=rfl
  rw[hval]
  rcases @fold_at p fs l o (iU p f) (gx p fs l o) with h|⟨x,hx,h1,h2,h3⟩
  ·rw[h]
   obtain⟨L,hL,hv⟩:=zE hg (l:=l) (o:=o) hn2.2 hl ho
   exact⟨L,⟨hL.nd,λy hy=>⟨(hL.mem y hy).1,by simp[(hL.mem y hy).2]⟩,hL.w,hL.o⟩,hv⟩
  ·rw[h3]
   have w1:=bz.le_iff.1 h1
   have w2:=bz.le_iff.1 h2
   obtain⟨L,hL,hv⟩:=zE hg (l:=l.sub x.want) (o:=o.sub (dR p x)) hn2.2 (by rw[bz.le_iff];simp only[bz.zero,bz.sub];omega) (by rw[bz.le_iff];simp only[bz.zero,bz.sub];omega)
   have hx2:=γi.1 hx
   have xw:x.bF=f:=by simpa using hx2.2
   refine⟨x::L,⟨?_,?_,?_,?_⟩,by simp only[ck,hv]⟩
   ·rw[ι,γD]
    refine⟨λhm=>?_,hL.nd⟩
    obtain⟨y,hy,he⟩:=γf.1 hm
    exact hn2.1 (by rw[<-xw,<-he];exact(hL.mem y hy).2)
   ·intro y hy
    rcases γp.1 hy with rfl|hy
    ·exact⟨hx2.1,by simp[xw]⟩
    ·exact⟨(hL.mem y hy).1,by simp[(hL.mem y hy).2]⟩
   ·have:=bz.le_iff.1 hL.w
    rw[ι,vu,bz.le_iff];simp only[bz.add,bz.sub] at this ⊢;omega
   ·have:=bz.le_iff.1 hL.o
    rw[ι,vu,bz.le_iff];simp only[bz.add,bz.sub] at this ⊢;omega
theorem tZ {p:bp} {l m:List Int}:cy p (l++m)=cy p l++cy p m:=by simp[cy]
theorem qp {p:bp} {i:Int} {l:List Int}:cy p (i::l)=bj p.offers i.toNat bn.off.dflt::cy p l:=rfl
def vx (p:bp) (l:List Int):Prop:=∀i∈l,0<=i/\i<p.offers.length
theorem Io {p:bp} (f:Good p) {L M:List Off} (c:∀x∈M,x∈p.offers) (h:gy p (L++M)):gy p L:=by
 obtain⟨e,d⟩:=Qg f c
 obtain⟨g,a,b⟩:=h
 rw[γa,vt,bz.le_iff] at a b;simp only[bz.add,bz.bd] at a b e d
 refine⟨?_,?_,?_⟩<;>grind[bz.le_iff]
theorem Qh {p:bp} (a:Good p) {l m:List Int} (b:vx p m) (h:lq p (l++m)=true):lq p l=true:=by
 unfold lq at h ⊢
 have h:=of_decide_eq_true h
 rw[tZ] at h
 exact decide_eq_true (Io a (Dk a b) h)
def oQ (i:Int) (k:Nat) (t:List Int):Prop:=t.Pairwise (·<·)/\∀j∈t,i<=j/\j<i+k
theorem Qi {a b:Alloc}:a.value<=(better a b).value/\b.value<=(better a b).value:=by
 grind[better]
theorem Qj {a b:Alloc}:better a b=a\/better a b=b:=by
 grind[better]
theorem zF {p:bp}:∀{k:Nat} {i:Int} {a b:Alloc},b.value<=(lr p k i a b).value
 |0,_,_,b=>by simp[lr]
 |k+1,i,a,b=>by
  simp only[lr]
  refine ζg ?_ zF
  split
  ·exact ζg Qi.2 zF
  ·omega
theorem Ip {p:bp} (h:Good p):∀{k:Nat} {i:Int} {a b:Alloc} {t:List Int},0<=i->i+k<=p.offers.length->t≠[]->oQ i k t->lq p (a.chosen++t)=true->a.value+ck (cy p t)<=(lr p k i a b).value
 |0,i,a,b,t,_,_,u,c,_=>by
  cases t with
  |nil=>simp_all
  |cons j t=>
   have:=c.2 j (by simp)
   omega
 |k+1,i,a,b,t,w,x,u,c,s=>by
  cases t with
  |nil=>simp_all
  |cons j t=>
   have v:=c.2 j (by simp)
   have q:=γE.1 c.1
   simp only[lr]
   by_cases l:j=i
   ·subst l
    have d:vx p t:=λm e=>by
     have:=c.2 m (by simp[e])
     omega
    have f:lq p (a.chosen++[j]++t)=true:=by simp_all
    have g:lq p (a.chosen++[j])=true:=Qh h d f
    rw[if_pos g]
    refine ζg ?_ zF
    rw[qp];simp only[ck]
    cases t with
    |nil=>
     refine ζg ?_ zF
     refine ζg ?_ Qi.1
     simp[ck,cy,jZ]
    |cons o n=>
     have:=Ip h (k:=k) (i:=j+1) (a:=⟨a.chosen++[j],a.value+jZ p j⟩) (b:=better ⟨a.chosen++[j],a.value+jZ p j⟩ b) (t:=o::n) (by omega) (by omega) (by simp) ⟨q.2,λm e=>by
      have r:=c.2 m (List.mem_cons_of_mem _ e)
      grind⟩ f
     grind[jZ]
   ·exact Ip h (by omega) (by omega) (by simp) ⟨c.1,λm e=>by
     have r:=c.2 m e
     grind⟩ s
theorem Iq {p:bp} (g:Good p):∀{k:Nat} {i:Int} {a b:Alloc},lr p k i a b=b\/∃t,t≠[]/\oQ i k t/\lq p (a.chosen++t)=true/\lr p k i a b=⟨a.chosen++t,a.value+ck (cy p t)⟩
 |0,i,a,b=> .inl rfl
 |k+1,i,a,b=>by
  have l:∀{t:List Int},oQ (i+1) k t->oQ i (k+1) t:=λh=>⟨h.1,λj c=>by have:=h.2 j c;omega⟩
  simp only[lr]
  rcases @Iq p g k (i+1) a (if lq p (a.chosen++[i]) then lr p k (i+1) ⟨a.chosen++[i],a.value+jZ p i⟩ (better ⟨a.chosen++[i],a.value+jZ p i⟩ b) else b) with h|⟨t,m,d,n,o⟩
  ·rw[h]
   split
   ·rename_i q
    have e:(⟨a.chosen++[i],a.value+jZ p i⟩:Alloc)=⟨a.chosen++[i],a.value+ck (cy p [i])⟩:=by simp[ck,cy,jZ]
    have f:oQ i (k+1) [i]:=⟨by simp,λj c=>by grind⟩
    rcases @Iq p g k (i+1) ⟨a.chosen++[i],a.value+jZ p i⟩ (better ⟨a.chosen++[i],a.value+jZ p i⟩ b) with h|⟨t,m,d,n,o⟩
    ·grind[Qj]
    ·refine .inr ⟨i::t,by simp,⟨γE.2 ⟨λj c=>by have:=d.2 j c;omega,d.1⟩,λj c=>?_⟩,by simp_all,?_⟩
     ·rcases γp.1 c with rfl|c
      ·omega
      ·have:=d.2 j c;omega
     grind[qp,ck,jZ]
   simp_all
  grind
theorem Is {p:bp}:bZ p=lr p p.offers.length 0 ⟨[],0⟩ ⟨[],0⟩:=by
 grind[Qb,bZ,Qc,Qj]
theorem Iu {p:bp} (f:Good p) {t:List Int} (e:oQ 0 p.offers.length t) (d:lq p t=true):ck (cy p t)<=(bZ p).value:=by
 rw[Is]
 by_cases c:t=[]
 ·subst c
  exact zF
 ·have:=Ip f (k:=p.offers.length) (i:=0) (a:=⟨[],0⟩) (b:=⟨[],0⟩) (t:=t) (by omega) (by omega) c e d
  simp_all
theorem Qk {p:bp} (a:Good p):lq p []=true:=by
 have b:=bz.fA.1 a.2.2.1
 have c:=bz.fA.1 a.2.2.2.1
 unfold lq
 refine decide_eq_true ⟨by simp[cy],?_,?_⟩
 all_goals simp_all[bz.le_iff,cy,dS]
theorem Iw {p:bp} (a:Good p):∃t,oQ 0 p.offers.length t/\lq p t=true/\bZ p=⟨t,ck (cy p t)⟩:=by
 rw[Is]
 rcases @Iq p a p.offers.length 0 ⟨[],0⟩ ⟨[],0⟩ with h|⟨t,b,e,c,d⟩
 ·exact⟨[],⟨by simp,by simp⟩,Qk a,by rw[h];rfl⟩
 grind
def Ql:Bool:=(τ 256).all λm=>[0,1,2,3,4,5,6,7].all λb:Int=>hasB m b==decide (b∈fu m)
theorem aaw:Ql=true:=by kernel_rfl
theorem Ix {m b:Int} (h0:0<=m) (h1:m<256) (h2:0<=b) (h3:b<8):hasB m b=decide (b∈fu m):=by
 have h:=aaw
 simp only[Ql,Θ,γM] at h
 have h:=h m.toNat (by omega) b (by
  have:b=0\/b=1\/b=2\/b=3\/b=4\/b=5\/b=6\/b=7:=by omega
  rcases this with rfl|rfl|rfl|rfl|rfl|rfl|rfl|rfl<;>simp)
 rw[show((m.toNat:Nat):Int)=m by omega] at h
 simpa using h
theorem Dp {p:bp} {t:List Int} (h:oQ 0 p.offers.length t):vx p t:=λj hj=>by
 have:=h.2 j hj
 omega
theorem aax {p:bp} (hg:Good p) {m:Int} (h0:0<=m) (h1:m<256):tY p m<=gx p (fu m) p.supply p.opn:=by
 obtain⟨t,ht,hr,he⟩:=Iw (Im hg m)
 unfold tY;rw[he]
 have hF:=of_decide_eq_true hr
 refine zD hg ⟨hF.1,λx hx=>?_,hF.2.1,hF.2.2⟩
 have hxm:=Dk (Im hg m) (Dp ht) x hx
 have xw:=γi.1 hxm
 have hb:=hg.2.2.2.2 x xw.1
 have h8:=hg.1
 refine⟨xw.1,?_⟩
 have:=Ix h0 h1 hb.1 (by omega)
 rw[xw.2] at this
 exact of_decide_eq_true this.symm
theorem Iy {L M:List Off} (h:L.Perm M):ck L=ck M:=by
 induction h with
 |nil=>rfl
 |cons x _ ih=>simp only[ck];omega
 |swap x y l=>simp only[ck];omega
 |trans _ _ a b=>omega
theorem Qm {L M:List bz} (h:L.Perm M):dS L=dS M:=by
 induction h with
 |nil=>rfl
 |cons x _ ih=>rw[vu,vu,ih]
 |swap x y l=>
  simp only[vu,bz.add,bz.mk.injEq];omega
 |trans _ _ a b=>rw[a,b]
theorem Dq {p:bp} {L M:List Off} (h:L.Perm M) (hF:gy p L):gy p M:=by
 obtain⟨h1,h2,h3⟩:=hF
 refine⟨((h.map _).nodup_iff).1 h1,?_,?_⟩
 ·rw[<-Qm (h.map _)];exact h2
 ·rw[<-Qm (h.map _)];exact h3
theorem Iz (q:Off->Bool):∀(O pre:List Off),∃t:List Int,t.Pairwise (·<·)/\(∀j∈t,(pre.length:Int)<=j/\j<pre.length+O.length)/\(t.map λj=>bj (pre++O) j.toNat bn.off.dflt)=O.filter q
 |[],pre=>⟨[],by simp,by simp,by simp⟩
 |x::O,pre=>by
  obtain⟨t,h1,h2,h3⟩:=Iz q O (pre++[x])
  have e:pre++[x]++O=pre++x::O:=by simp
  rw[e] at h3
  have hl:((pre++[x]).length:Int)=pre.length+1:=by simp
  have hr:∀j∈t,(pre.length:Int)+1<=j/\j<pre.length+1+O.length:=λj hj=>by
   have:=h2 j hj
   omega
  by_cases hq:q x=true
  ·refine⟨(pre.length:Int)::t,γE.2 ⟨λj hj=>by have:=hr j hj;omega,h1⟩,λj hj=>?_,?_⟩
   ·simp only[γv]
    rcases γp.1 hj with rfl|hj
    ·omega
    ·have:=hr j hj;omega
   ·rw[ι,h3,εx,if_pos hq]
    congr 1
    rw[cO (by simp)]
    simp
  ·refine⟨t,h1,λj hj=>?_,?_⟩
   ·have:=hr j hj
    simp only[γv];omega
   ·rw[h3,εx,if_neg hq]
theorem IA {p:bp}:∀{l:List Off} {seen:List mV},gK p seen l=0->(l.map Off.key).Nodup/\∀x∈l,x.key∉seen
 |[],_,_=>by simp
 |o::r,seen,h=>by
  simp only[gK] at h;split at h
  ·rename_i h1;exact absurd h h1
  ·split at h
   ·cases h
   ·rename_i h1 h2
    obtain⟨k1,k2⟩:=IA h
    refine⟨?_,λx hx=>?_⟩
    ·rw[ι,γD]
     refine⟨λhm=>?_,k1⟩
     obtain⟨y,hy,he⟩:=γf.1 hm
     exact k2 y hy (by simp[he])
    ·rcases γp.1 hx with rfl|hx
     ·exact h2
     ·exact λhm=>k2 x hx (by simp[hm])
theorem Dt {α β:Type} (f:α->β):∀{l:List α},(l.map f).Nodup->l.Nodup
 |[],_=>by simp
 |x::l,h=>by
  rw[ι,γD] at h
  exact γD.2 ⟨λhm=>h.1 (γ3 hm),Dt f h.2⟩
theorem Qn {p:bp} (h:bC p=0):p.offers.Nodup:=by
 unfold bC at h;split at h
 ·rename_i h1;exact absurd h h1
 ·exact Dt _ (IA h).1
theorem IB (m:Int):(fu m).Nodup:=by
 unfold fu
 exact ζQ δn (by decide)
theorem aay {p:bp} (hc:bC p=0) {m:Int} (h0:0<=m) (h1:m<256):gx p (fu m) p.supply p.opn<=tY p m:=by
 have hg:=dL hc
 have q1:=bz.fA.1 hg.2.2.1
 have q2:=bz.fA.1 hg.2.2.2.1
 obtain⟨L,hL,hv⟩:=zE hg (IB m) (l:=p.supply) (o:=p.opn) (by rw[bz.le_iff];simp only[bz.zero];omega) (by rw[bz.le_iff];simp only[bz.zero];omega)
 obtain⟨t,t1,t2,t3⟩:=Iz (λx=>decide (x∈L)) (oP p m).offers []
 have t4:cy (oP p m) t=(oP p m).offers.filter λx=>decide (x∈L):=t3
 have hLm:∀x∈L,x∈(oP p m).offers:=λx hx=>by
  have hx1:=hL.mem x hx
  have hb:=hg.2.2.2.2 x hx1.1
  have h8:=hg.1
  refine γi.2 ⟨hx1.1,?_⟩
  rw[Ix h0 h1 hb.1 (by omega)]
  exact decide_eq_true hx1.2
 have hnd:((oP p m).offers.filter λx=>decide (x∈L)).Nodup:=ζQ (List.Sublist.trans δn δn) (Qn hc)
 have hperm:L.Perm (cy (oP p m) t):=by
  rw[t4]
  refine(List.perm_ext_iff_of_nodup (Dt _ hL.nd) hnd).2 λx=>?_
  rw[γi,decide_eq_true_eq]
  exact⟨λhx=>⟨hLm x hx,hx⟩,λhx=>hx.2⟩
 have hF:gy (oP p m) L:=⟨hL.nd,hL.w,hL.o⟩
 have hr:lq (oP p m) t=true:=decide_eq_true (Dq hperm hF)
 have:=Iu (Im hg m) ⟨t1,λj hj=>by have:=t2 j hj;simp only[ε4] at this;omega⟩ hr
 rw[<-Iy hperm,hv] at this;exact this
theorem aaA {p:bp} (hc:bC p=0) {m:Int} (h0:0<=m) (h1:m<256):tY p m=gx p (fu m) p.supply p.opn:=by
 have a:=aax (dL hc) h0 h1
 have b:=aay hc h0 h1
 omega
theorem aaB {p:bp} (hc:bC p=0) {m:Int} (h0:0<=m) (h1:m<2^p.classes.length):iW p m=tY p m:=by
 have hf:jW p m=0:=by
  unfold jW
  rw[if_neg (by simp[hc]),if_neg (by omega)]
 have h2:=sw (dL hc).1
 unfold iW
 rw[if_pos hf,aaA hc h0 (by omega)]
 rfl
def IC:Bool:=(τ 9).all λn=>decide (qo bp.zero (-1) n=2^n - 1)&&(τ n).all λb=>decide (qo bp.zero b n=iK (2^n - 1) b)
theorem Qo:IC=true:=by kernel_rfl
theorem Qp {p:bp} (h:p.classes.length<=8):qo p (-1) p.classes.length=allM p:=by
 have hk:=Qo
 simp only[IC,Θ,γM,θ,decide_eq_true_eq] at hk
 exact(hk p.classes.length (by omega)).1
theorem aaC {p:bp} (h:p.classes.length<=8) {b:Int} (h0:0<=b) (h1:b<p.classes.length):qo p b p.classes.length=iK (allM p) b:=by
 have hk:=Qo
 simp only[IC,Θ,γM,θ,decide_eq_true_eq] at hk
 have:=(hk p.classes.length (by omega)).2 b.toNat (by omega)
 rw[show((b.toNat:Nat):Int)=b by omega] at this
 exact this
theorem Qq {p:bp} (hc:bC p=0):iW p (allM p)=tY p (Dm p):=by
 have hg:=dL hc
 have h2:=sw hg.1
 unfold Dm;rw[Qp hg.1]
 exact aaB hc (by unfold allM;omega) (by unfold allM;omega)
theorem zG {p:bp}:∀{c:List Int} {s:Int},c.foldl (sx p) s=s+ck (cy p c)
 |[],s=>by simp[cy,ck]
 |i::c,s=>by
  rw[γw,zG,qp];simp only[ck,sx];omega
theorem Du {p:bp}:∀{c:List Int} {a:Int} {r:List Off},eA p.offers a c=some r->r=cy p c
 |[],a,r,h=>by simp[eA] at h;subst h;rfl
 |i::c,a,r,h=>by
  simp only[eA] at h;split at h
  ·cases h
  ·obtain⟨d,b,rfl⟩:=δ.1 h
   rw[Du b,qp]
theorem Qr {p:bp} {c:List Int} (hz:cM p c=0):eC p c=iY p c:=by
 obtain⟨q1,q2,hg,q4,q5⟩:=zB hz
 obtain⟨r,hr⟩:=γk.1 q2
 unfold eC iY;rw[if_pos q1,zG];simp only[dQ,hr,γX,Du hr];omega
theorem aaD {p:bp} {c:List Int}:gl p c=Dn p c:=by
 unfold gl Dn
 by_cases hz:cM p c=0
 ·simp only[hz,ne_eq,not_true,if_false,Qr hz,Qq (zB hz).1]
 ·rw[if_pos hz,if_pos hz]
theorem Qs {p:bp} {x:Off} (b:0<=x.bF) (a:x.bF<p.classes.length):eL p x.bF x=1:=by
 unfold eL;omega
theorem sum_cons {p:bp} {x:Off} {L:List Off} {r:Int}:cQ p (x::L) r=eL p r x+cQ p L r:=by simp[cQ]
theorem Qu {p:bp} {r:Int}:∀{L:List Off},(∀x∈L,x.want.ok=true)->(∃x∈L,x.bF=r/\0<=r/\r<p.classes.length)->1<=cQ p L r
 |[],_,h=>by simp_all
 |y::L,a,⟨x,c,e,f,d⟩=>by
  have g:=@rh p r y (a y (by simp))
  have i:=@tV p r L λz b=>a z (by simp[b])
  rw[sum_cons]
  rcases γp.1 c with rfl|c
  ·grind[Qs]
  ·have:=@Qu p r L (λz b=>a z (by simp[b])) ⟨x,c,e,f,d⟩
   omega
theorem Qv {p:bp}:∀{L:List Off},(∀x∈L,x.want.ok=true/\0<=x.bF/\x.bF<p.classes.length)->(∀r:Int,0<=r->r<p.classes.length->cQ p L r<=1)->(L.map Off.bF).Nodup
 |[],_,_=>by simp
 |x::L,e,f=>by
  have a:=e x (by simp)
  rw[ι,γD]
  have d:∀r:Int,0<=r->r<p.classes.length->cQ p L r<=1:=λr j b=>by
   have:=f r j b
   have:=@rh p r x a.1
   grind[sum_cons]
  refine⟨λg=>?_,Qv (λy c=>e y (by simp[c])) d⟩
  obtain⟨y,c,h⟩:=γf.1 g
  have b:=f x.bF a.2.1 a.2.2
  have k:=@Qu p x.bF L (λz i=>(e z (by simp[i])).1) ⟨y,c,h,a.2.1,a.2.2⟩
  rw[sum_cons,Qs a.2.1 a.2.2] at b;omega
theorem aaE {p:bp} {c:List Int} (e:cM p c=0):((cy p c).map Off.bF).Nodup:=by
 obtain⟨j,f,a,m,h⟩:=zB e
 obtain⟨r,l⟩:=γk.1 f
 have n:dQ p c=cy p c:=by grind[dQ,Du]
 have d:fN p (cy p c)=true:=by
  simp_all[cM]
 refine Qv (p:=p) (λx g=>?_) λr o i=>?_
 ·have:=a.2.2.2.2 x (Dk a h x g)
  simp_all
 ·have b:=oM.1 d r.toNat (by grind[di])
  rw[show((r.toNat:Nat):Int)=r by omega] at b
  have k:dA p r=1:=by unfold dA;omega
  omega
end Go.Vi
