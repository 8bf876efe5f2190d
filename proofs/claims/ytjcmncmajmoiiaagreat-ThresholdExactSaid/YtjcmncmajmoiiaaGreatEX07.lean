/-
  The solver's recursion.
  Conditions: none.
-/
import Derived.Test.YtjcmncmajmoiiaaGreatEX06
import Derived.KernelRfl
set_option maxRecDepth 100000
set_option maxHeartbeats 4000000
set_option linter.all false
open And renaming intro->γj
open Bool renaming and_eq_true->ζ,or_eq_true->δu,eq_false_iff->εt
open Classical renaming not_not->Θ
open Go.Vi.SV renaming si->γb,row->γc,il->γy,ptr->γV,sb->γG,bl->δs,agg->γK
open Int renaming one_mul->δU,toNat_natCast->γq,le_trans->εF
open List renaming range->χ,all_eq_true->Φ,mem_range->γP,foldl_cons->δt,mem_filter->γi,length_cons->γz,length_filter_le->γB,mem_cons->γh,take_length->ψ,mem_of_mem_take->γn,forall_mem_cons->γF,not_mem_nil->γ6,filter_append->δw,length_take->Ω,take->γe,drop->γ8,mem_map->γf,map_append->γd,map_cons->θ,drop_length->εg,mem_append->π,nodup_append->γt,mem_map_of_mem->γL,nodup_cons->γx,pairwise_cons->γv,filter_cons->γ0,filter_sublist->δe,getElem?_cons_succ->γO,map_map->δr,eq_nil_of_length_eq_zero->Γ,append_nil->γ1
open List.Nodup renaming sublist->ζd
open Option renaming map_eq_some_iff->δ,isSome_iff_exists->γw,getD_some->γ7
namespace Go.Vi
open Go.Proofs.YtjcmncmajmoiiaaGreat.Ir
open Go.Proofs
def kg (m f:Int):Int:=eQ.ry .i64 (m / 2^f.toNat) 1
def ln (m f:Int):Int:=eQ.rA .i64 m (2^f.toNat)
def fb (m:Int):List Int:=[0,1,2,3,4,5,6,7].filter λf=>decide (kg m f≠0)
def cnt (m:Int):Nat:=(fb m).length
def Qa:Bool:=(χ 256).all λm=>decide (0<=kg m 0)&&[0,1,2,3,4,5,6,7].all λf=>(decide (kg m f=0)||decide (kg m f=1))&&(decide (kg m f=0)||(decide (0<=ln m f)&&decide (ln m f<256)&&decide (fb (ln m f)=(fb m).filter λg=>decide (g≠f))))
theorem aaq:Qa=true:=by kernel_rfl
theorem zO {m f:Int} (h0:0<=m) (h1:m<256) (g0:0<=f) (g1:f<8):(kg m f=0\/kg m f=1)/\(kg m f≠0->0<=ln m f/\ln m f<256/\fb (ln m f)=(fb m).filter λg=>decide (g≠f)):=by
 have h:=aaq;simp only[Qa,Φ,γP] at h;have h2:=h m.toNat (by omega);simp only[ζ,Φ] at h2
 have h3:=h2.2 f (by have:f=0\/f=1\/f=2\/f=3\/f=4\/f=5\/f=6\/f=7:=by omega
                     rcases this with rfl|rfl|rfl|rfl|rfl|rfl|rfl|rfl<;>simp);rw[show((m.toNat:Nat):Int)=m from by omega] at h3;simp only[ζ,δu,decide_eq_true_eq] at h3;refine⟨h3.1,λhb=>?_⟩;rcases h3.2 with h4|h4;·exact absurd h4 hb
 ·exact⟨h4.1.1,h4.1.2,h4.2⟩
def dN (m:Int):Int:=(fb m).headD 0
def Qb:Bool:=(χ 256).all λm=>decide (m=0)||(decide (0<=dN m)&&decide (dN m<8)&&decide (kg m (dN m)≠0)&&decide (fb m=dN m::fb (ln m (dN m)))&&
 [0,1,2,3,4,5,6,7].all λg=>decide (dN m<=g)||decide (kg m g=0))
theorem aar:Qb=true:=by kernel_rfl
theorem Dt {m:Int} (h0:0<=m) (h1:m<256) (h:m≠0):0<=dN m/\dN m<8/\kg m (dN m)≠0/\fb m=dN m::fb (ln m (dN m))/\∀g,0<=g->g<dN m->kg m g=0:=by
 have hh:=aar;simp only[Qb,Φ,γP] at hh;have h2:=hh m.toNat (by omega);rw[show((m.toNat:Nat):Int)=m from by omega] at h2;simp only[δu,ζ,decide_eq_true_eq,Φ] at h2;rcases h2 with h2|h2;·omega
 ·obtain⟨⟨⟨⟨a1,a2⟩,a3⟩,a4⟩,a5⟩:=h2;refine⟨a1,a2,a3,a4,λg g0 g1=>?_⟩
  have:=a5 g (by have:g=0\/g=1\/g=2\/g=3\/g=4\/g=5\/g=6\/g=7:=by omega
                 rcases this with rfl|rfl|rfl|rfl|rfl|rfl|rfl|rfl<;>simp);rcases this with h|h;·omega
  ·exact h
abbrev lD:=List (Sit×Int)
def kG (s:L8) (f:Int):List Off:=bj [s.l0,s.l1,s.l2,s.l3,s.l4,s.l5,s.l6,s.l7] f.toNat []
def jb (a:Sit):Sit:=⟨ln a.members (dN a.members),a.left,a.opn⟩
def gj (p:bp):Nat->lD->Sit->Int×lD
 |0,es,_=>(0,es)
 |n+1,es,a=>
  if a.members=0 then(0,es) else
  match j5 .sit (.i .i64) a es with
  |some v=>(v,es)
  |none=>
   let r:=(kG (L8.of p) (dN a.members)).foldl (λr x=>if fitsAt p a x=true then(max r.1 (x.value+(gj p n r.2 (eL p a x)).1),(gj p n r.2 (eL p a x)).2) else r) (gj p n es (jb a));(r.1,nB .sit (.i .i64) a r.1 r.2)
def stepM (p:bp) (n:Nat) (a:Sit) (r:Int×lD) (x:Off):Int×lD:=
 if fitsAt p a x=true then(max r.1 (x.value+(gj p n r.2 (eL p a x)).1),(gj p n r.2 (eL p a x)).2) else r
def Good (p:bp):Prop:=p.classes.length<=8/\p.offers.length<=160/\p.supply.ok=true/\p.opn.ok=true/\∀x∈p.offers,0<=x.bF/\x.bF<p.classes.length/\x.want.ok=true/\1<=x.value/\x.value<=1000000
def js (a:Sit):Prop:=0<=a.members/\a.members<256/\a.b
def gJ (p:bp):List Int->bz->bz->Int
 |[],_,_=>0
 |f::fs,l,o=>(ja p f).foldl (λv x=>if x.want.le l&&(dx p x).le o then max v (x.value+gJ p fs (l.sub x.want) (o.sub (dx p x))) else v) (gJ p fs l o)
def kH (p:bp) (fs:List Int) (l o:bz) (v:Int) (x:Off):Int:=if x.want.le l&&(dx p x).le o then max v (x.value+gJ p fs (l.sub x.want) (o.sub (dx p x))) else v
def gk (p:bp) (a:Sit):Int:=gJ p (fb a.members) a.left a.opn
def jc (p:bp) (es:lD):Prop:=∀e∈es,e.2=gk p e.1
theorem Ia {p:bp} {fs:List Int} {l o:bz} (hg:Good p) (B:Int) (hB:∀l o,0<=gJ p fs l o/\gJ p fs l o<=B):∀{xs:List Off} {v:Int},(∀x∈xs,x∈p.offers)->0<=v/\v<=B+1000000->0<=xs.foldl (kH p fs l o) v/\xs.foldl (kH p fs l o) v<=B+1000000
 |[],v,_,hv=>hv
 |x::xs,v,hx,hv=>by
  simp only[δt];refine Ia hg B hB (λy hy=>hx y (by simp[hy])) ?_;unfold kH;have h1:=hB (l.sub x.want) (o.sub (dx p x));have h2:=hg.2.2.2.2 x (hx x (by simp));split<;>omega
theorem Ib {p:bp} (hg:Good p):∀(fs:List Int) (l o:bz),0<=gJ p fs l o/\gJ p fs l o<=1000000*fs.length
 |[],_,_=>by simp[gJ];|f::fs,l,o=>by
  have ih:=Ib hg fs;have h:=Ia (l:=l) (o:=o) hg (1000000*fs.length) ih (xs:=ja p f) (v:=gJ p fs l o) (λx hx=>(γi.1 hx).1) (by have:=ih l o;omega);have e:gJ p (f::fs) l o=(ja p f).foldl (kH p fs l o) (gJ p fs l o):=rfl;rw[e];simp only[γz];omega
theorem Du {m:Int}:(fb m).length<=8:=γB _ _
theorem xI {p:bp} (hg:Good p) (a:Sit):0<=gk p a/\gk p a<=8000000:=by
 have h:=Ib hg (fb a.members) a.left a.opn;have:=@Du a.members;unfold gk;omega
theorem aas {a:Sit} {es:lD} {v:Int} (h:j5 .sit (.i .i64) a es=some v):∃e∈es,e.1=a/\e.2=v:=by
 unfold j5 at h;obtain⟨e,h1,rfl⟩:=δ.1 h;have h2:=List.find?_some h1;exact⟨e,List.mem_of_find?_eq_some h1,by simpa using h2,rfl⟩
theorem Qc {p:bp} {a:Sit} {v:Int} (hv:v=gk p a):∀{es:lD},jc p es->jc p (nB .sit (.i .i64) a v es)
 |[],_=>by intro e he;simp[nB] at he;subst he;exact hv;|q::es,h=>by
  unfold nB;split
  ·intro e he;rcases γh.1 he with rfl|he;·exact hv
   ·exact h e (by simp[he])
  ·intro e he;rcases γh.1 he with rfl|he;·exact h e (by simp)
   ·exact Qc hv (λe he=>h e (by simp[he])) e he
theorem Dv {a b:bz} (ha:a.ok=true) (hb:b.ok=true) (h:b.le a=true):(a.sub b).ok=true:=by
 have ha:=bz.eT.1 ha;have hb:=bz.eT.1 hb;have h:=bz.le_iff.1 h;refine bz.eT.2 ?_;simp only[bz.sub];omega
theorem Qd {p:bp} {f:Int} (h0:0<=f) (h1:f<8):kG (L8.of p) f=ja p f:=by
 have:f=0\/f=1\/f=2\/f=3\/f=4\/f=5\/f=6\/f=7:=by omega
 rcases this with rfl|rfl|rfl|rfl|rfl|rfl|rfl|rfl<;>rfl
theorem Qe {p:bp} (hg:Good p) {a:Sit} (ha:js a) (h0:a.members≠0) {x:Off} (hx:x∈ja p (dN a.members)) (hf:fitsAt p a x=true):
  js (eL p a x)/\fb a.members=dN a.members::fb (eL p a x).members/\(eL p a x).members=ln a.members (dN a.members):=by
 obtain⟨hxo,hxb⟩:=γi.1 hx;have hxb:x.bF=dN a.members:=by simpa using hxb
 have hv:=hg.2.2.2.2 x hxo;obtain⟨f0,f1,f2,f3,f4⟩:=Dt ha.1 ha.2.1 h0;have hd:=(zO ha.1 ha.2.1 f0 f1).2 f2;have hm:(eL p a x).members=ln a.members (dN a.members):=by simp only[eL,hxb,ln]
 simp only[fitsAt,ζ] at hf;refine⟨⟨by rw[hm];exact hd.1,by rw[hm];exact hd.2.1,Dv ha.2.2.1 hv.2.2.1 hf.1,Dv ha.2.2.2 (H9 hv.2.2.1) hf.2⟩,by rw[hm];exact f3,hm⟩
theorem Qf {a:Sit} (ha:js a) (h0:a.members≠0):js (jb a)/\fb a.members=dN a.members::fb (jb a).members:=by
 obtain⟨f0,f1,f2,f3,f4⟩:=Dt ha.1 ha.2.1 h0;have hd:=(zO ha.1 ha.2.1 f0 f1).2 f2;exact⟨⟨hd.1,hd.2.1,ha.2.2⟩,f3⟩
theorem Ic {p:bp} (hg:Good p) {n:Nat} {a:Sit} (ha:js a) (h0:a.members≠0)
  (ih:∀(es:lD) (b:Sit),js b->jc p es->cnt b.members<n->(gj p n es b).1=gk p b/\jc p (gj p n es b).2) (hn:cnt a.members<n+1):
  ∀{xs:List Off} {r:Int×lD},(∀x∈xs,x∈ja p (dN a.members))->jc p r.2->
   (xs.foldl (stepM p n a) r).1=xs.foldl (kH p (fb (jb a).members) a.left a.opn) r.1/\jc p (xs.foldl (stepM p n a) r).2
 |[],r,_,hr=>⟨rfl,hr⟩
 |x::xs,r,hx,hr=>by
  simp only[δt];have hxm:=hx x (by simp);have h1:(stepM p n a r x).1=kH p (fb (jb a).members) a.left a.opn r.1 x/\jc p (stepM p n a r x).2:=by
   unfold stepM kH;by_cases hf:fitsAt p a x=true
   ·have hf2:(x.want.le a.left&&(dx p x).le a.opn)=true:=hf;rw[if_pos hf,if_pos hf2];obtain⟨k1,k2,k3⟩:=Qe hg ha h0 hxm hf;have hc:cnt (eL p a x).members<n:=by
     unfold cnt at hn ⊢;rw[k2] at hn;simpa using hn
    obtain⟨e1,e2⟩:=ih r.2 _ k1 hr hc;refine⟨?_,e2⟩;simp only[e1,gk,k3];rfl
   ·have hf2:¬(x.want.le a.left&&(dx p x).le a.opn)=true:=hf;rw[if_neg hf,if_neg hf2];exact⟨rfl,hr⟩
  obtain⟨h2,h3⟩:=Ic hg ha h0 ih hn (xs:=xs) (λy hy=>hx y (by simp[hy])) h1.2;exact⟨by rw[h2,h1.1],h3⟩
theorem xJ {p:bp} (hg:Good p):∀(n:Nat) (es:lD) (a:Sit),js a->jc p es->cnt a.members<n->(gj p n es a).1=gk p a/\jc p (gj p n es a).2
 |0,_,_,_,_,h=>absurd h (by omega)
 |n+1,es,a,ha,he,hn=>by
  unfold gj;by_cases h0:a.members=0
  ·rw[if_pos h0];refine⟨?_,he⟩;unfold gk;rw[h0];rfl
  ·rw[if_neg h0];split
   ·rename_i v hv;obtain⟨e,h1,h2,h3⟩:=aas hv;refine⟨?_,he⟩;rw[<-h3,he e h1,h2]
   ·rename_i hv;obtain⟨s1,s2⟩:=Qf ha h0;obtain⟨f0,f1,_⟩:=Dt ha.1 ha.2.1 h0;have hc:cnt (jb a).members<n:=by
     unfold cnt at hn ⊢;rw[s2] at hn;simpa using hn
    obtain⟨e1,e2⟩:=xJ hg n es _ s1 he hc;rw[Qd f0 f1];obtain⟨k1,k2⟩:=Ic hg ha h0 (λes b hb h1 h2=>xJ hg n es b hb h1 h2) hn (xs:=ja p (dN a.members)) (r:=gj p n es (jb a)) (λ_ h=>h) e2;have hval:((ja p (dN a.members)).foldl (stepM p n a) (gj p n es (jb a))).1=gk p a:=by
     rw[k1,e1];unfold gk;rw[s2];rfl
    exact⟨hval,Qc hval k2⟩
def pS (n:Nat):cY:=Dn 108 Sit (.one (eG .sit)) (λa=>(Good a.1.p/\a.1.ls=L8.of a.1.p/\js a.2/\jc a.1.p a.1.es)/\cnt a.2.members<n)
 (λa=> .si .i64 (gj a.1.p (cnt a.2.members+1) a.1.es a.2).1) (λa=>⟨a.1.p,a.1.ls,(gj a.1.p (cnt a.2.members+1) a.1.es a.2).2⟩)
def W9 (n:Nat):List cY:=[pS n,Dq]
def ig (s:kF) (a:Sit) (j:Int):Int×lD:=((kG s.ls (dN a.members)).take j.toNat).foldl (stepM s.p (cnt a.members) a) (gj s.p (cnt a.members) s.es (jb a))
def Qg (s:kF) (a:Sit):Nat->cB
 |7=> .inv Int (λf=>⟨[(0,.ptr 0 0 29),(3,.ptr 2 0 13),(7,.si .i64 f)],s.o++[.cells (encS .sit a) 167 13 false]⟩) (λt=>iS t 7) (λf=>0<=f/\f<=dN a.members) (λf=>(dN a.members - f).toNat) λ_ _=> .look
 |13=> .inv Int (λj=>⟨[(0,.ptr 0 0 29),(3,.ptr 2 0 13),(9,.si .i64 (ig s a j).1),(51,.row .off (kG s.ls (dN a.members))),(52,.si .i64 (kG s.ls (dN a.members)).length),(53,.si .i64 j)],
   (kF.o ⟨s.p,s.ls,(ig s a j).2⟩)++[.cells (encS .sit a) 167 13 false,.cells (encS .sit (jb a)) 167 13 false]⟩) (λt=>iS t 53)
  (λj=>0<=j/\j<=(kG s.ls (dN a.members)).length) (λj=>((kG s.ls (dN a.members)).length - j).toNat) λ_ _=> .look
 |_=> .look
theorem aat {p:bp} {n:Nat} {es:lD} {a:Sit} (h:a.members=0):gj p (n+1) es a=(0,es):=by
 unfold gj;rw[if_pos h]
theorem aau {p:bp} {n:Nat} {es:lD} {a:Sit} {v:Int} (h:a.members≠0) (hv:j5 .sit (.i .i64) a es=some v):gj p (n+1) es a=(v,es):=by
 unfold gj;rw[if_neg h,hv]
theorem aav {s:kF} {a:Sit} (hl:s.ls=L8.of s.p) (h:a.members≠0) (hv:j5 .sit (.i .i64) a s.es=none) {j:Int} (hj:j=(kG s.ls (dN a.members)).length):
  gj s.p (cnt a.members+1) s.es a=((ig s a j).1,nB .sit (.i .i64) a (ig s a j).1 (ig s a j).2):=by
 unfold gj ig;rw[if_neg h,hv,show j.toNat=(kG s.ls (dN a.members)).length from by omega,ψ,hl];rfl
theorem aaw {s:kF} {a:Sit} {j:Int} (h0:0<=j) (h1:j<(kG s.ls (dN a.members)).length):ig s a (j+1)=stepM s.p (cnt a.members) a (ig s a j) (bj (kG s.ls (dN a.members)) j.toNat bn.off.dflt):=by
 unfold ig;rw[j8 (d:=bn.off.dflt) h0 h1,List.foldl_append];rfl
theorem aax {es es':lD} {kt:List Nat×Bool} (h:es=es'):(bq.map bn.sit (bn.i IntKind.i64) true es kt true).same (bq.map bn.sit (bn.i IntKind.i64) true es' kt true):=by rw[h];rfl
theorem aay (n:Nat) (s:kF) (a:Sit) (hg:Good s.p) (hl:s.ls=L8.of s.p) (ha:js a) (hm:jc s.p s.es) (hn:cnt a.members<n+1):
  Vc (vq (l8 zM (fV (W9 n)) oW oY gG) (Qg s a) (fG 108) ((pS (n+1)).put (s,a)) ((pS (n+1)).st (s,a)) λv t=>v.same ((pS (n+1)).res (s,a))/\jo t ((pS (n+1)).out (s,a))):=by
 refine bQ (let c:=γb .i64;let d:=(0:Int);let e:=γc;let f:=bq.cells;let g:=bY .i64;let h:=(1:Int);let k:=bn.i .i64;let j:=f [c s.p.supply.a0,c s.p.supply.a1,c s.p.supply.a2,c s.p.supply.a3,c s.p.supply.a4,c s.p.supply.a5,c s.p.opn.a0,c s.p.opn.a1,c s.p.opn.a2,c s.p.opn.a3,c s.p.opn.a4,c s.p.opn.a5,c s.p.cls.a0,c s.p.cls.a1,c s.p.cls.a2,c s.p.cls.a3,c s.p.cls.a4,c s.p.cls.a5,e k s.p.classes,e bn.off s.p.offers,e bn.off s.ls.l0,e bn.off s.ls.l1,e bn.off s.ls.l2,e bn.off s.ls.l3,e bn.off s.ls.l4,e bn.off s.ls.l5,e bn.off s.ls.l6,e bn.off s.ls.l7,SV.mp 1] 214 29 false;let t:=([0,0,0,0,0,0,0,0,0,0,0,0,0],true);let A:=bq.map bn.sit k true s.es t true;let O:=gj s.p (cnt a.members+1) s.es a;let P:=bq.map bn.sit k true O.snd t true;let Q:=decide (a.members=d);let G:=γy .i64 0;let H:=c O.fst;let I:=j5 bn.sit k a s.es;let l:=γV 0 0 29;let m:=γV 2 0 13;let R:=[c a.left.a0,c a.left.a1,c a.left.a2,c a.left.a3,c a.left.a4,c a.left.a5,c a.opn.a0,c a.opn.a1,c a.opn.a2,c a.opn.a3,c a.opn.a4,c a.opn.a5];let o:=f (c a.members::R) 167 13 false;let w:=dN a.members;let B:=kG s.ls w;let J:=e bn.off B;let q:=(↑B.length:Int);let K:=c q;let y:=(jb a).left;let z:=(jb a).opn;let L:=f [c (jb a).members,c y.a0,c y.a1,c y.a2,c y.a3,c y.a4,c y.a5,c z.a0,c z.a1,c z.a2,c z.a3,c z.a4,c z.a5] 167 13 false;let S:=j.same j/\A.same P/\True;(Q=true->G.same H/\S)/\(Q=false->(I.isSome=true->(c (I.getD d)).same H/\S)/\(I.isSome=false->(((l.same l/\m.same m/\G.same (c 0)/\True)/\j.same j/\A.same A/\o.same o/\True)/\d<=d/\d<=w)/\∀(x:Int),let T:=decide (eQ.ry .i64 (a.members / (2:Int)^x.toNat) h=d);let C:=x+h;let U:=c C;let V:=h*(2:Int)^x.toNat;let D:=eQ.rA .i64 a.members V;let W:=Sit.mk D a.left a.opn;let X:=gj s.p (cnt D+1) s.es W;let Y:=bj [s.ls.l0,s.ls.l1,s.ls.l2,s.ls.l3,s.ls.l4,s.ls.l5,s.ls.l6,s.ls.l7] x.toNat [];d<=x/\x<=w->d<=x/\x<=(64:Int)/\(T=true->g C/\((l.same l/\m.same m/\U.same U/\True)/\j.same j/\A.same A/\o.same o/\True)/\(d<=C/\C<=w)/\(w - C).toNat<(w - x).toNat)/\(T=false->d<=x/\x<=(64:Int)/\g V/\((Good s.p/\s.ls=L8.of s.p/\js W/\jc s.p s.es)/\cnt D<n)/\d<=x/\x<(8:Int)/\x.toNat<8/\(((l.same l/\m.same m/\(c X.fst).same (c (ig s a d).fst)/\(e bn.off Y).same J/\(c (↑Y.length:Int)).same K/\G.same (c 0)/\True)/\j.same j/\(bq.map bn.sit k true X.snd t true).same (bq.map bn.sit k true (ig s a d).snd t true)/\o.same o/\(f (c D::R) 167 13 false).same L/\True)/\d<=d/\d<=q)/\∀(x:Int),let v:=x+h;let Z:=c v;let r:=bj B x.toNat bn.off.dflt;let E:=pR s.p a r;let M:=(ig s a x).snd;let N:=gj s.p (cnt E.members+1) M E;let F:=(ig s a x).fst;let a6:=λ(u:Int) (u_1:Int×lD) ↦g v/\((l.same l/\m.same m/\(c u).same (c (ig s a v).fst)/\J.same J/\K.same K/\Z.same Z/\True)/\j.same j/\(bq.map bn.sit k true u_1.snd t true).same (bq.map bn.sit k true (ig s a v).snd t true)/\o.same o/\L.same L/\True)/\(d<=v/\v<=q)/\(q - v).toNat<(q - x).toNat;d<=x/\x<=q->(decide (x<q)=true->d<=x/\x<(↑B.length:Int)/\x.toNat<B.length/\(s.p.classes.length<=8/\d<=r.bF/\r.bF<(↑s.p.classes.length:Int)/\a.b/\r.want.ok=true)/\(fitsAt s.p a r=true->((Good s.p/\s.ls=L8.of s.p/\js E/\jc s.p M)/\cnt E.members<n)/\g (r.value+N.fst)/\a6 (max F (r.value+N.fst)) N)/\(fitsAt s.p a r=false->a6 F (ig s a x)))/\(decide (x<q)=false->(c F).same H/\j.same j/\(bq.map bn.sit k true (nB bn.sit k a F M) t true).same P/\True))))) (by kernel_rfl) ?_;simp only[vcs];refine⟨λh0=>?_,λh0=>⟨λhf=>?_,λhf=>?_⟩⟩
 ·rw[aat h0];exact⟨rfl,rfl⟩
 ·obtain⟨v,hv⟩:=γw.1 hf;rw[aau h0 hv,hv];exact⟨rfl,rfl⟩
 ·have hnone:j5 .sit (.i .i64) a s.es=none:=by simpa using hf
  obtain⟨f0,f1,f2,f3,f4⟩:=Dt ha.1 ha.2.1 h0;obtain⟨s1,s2⟩:=Qf ha h0;have hcs:cnt (jb a).members+1=cnt a.members:=by unfold cnt;rw[s2];simp
  have hle:kG s.ls (dN a.members)=ja s.p (dN a.members):=by rw[hl];exact Qd f0 f1
  have hll:(kG s.ls (dN a.members)).length<=160:=by rw[hle];exact Nat.le_trans (γB _ _) hg.2.1
  have Ie:=xJ hg (cnt a.members);obtain⟨q1,q2⟩:=Ie s.es _ s1 hm (by omega);have hrun:∀j:Int,0<=(ig s a j).1/\(ig s a j).1<=9000000/\jc s.p (ig s a j).2:=by
   intro j;have hmem:∀x∈(kG s.ls (dN a.members)).take j.toNat,x∈ja s.p (dN a.members):=λx hx=>by rw[hle] at hx;exact γn hx
   obtain⟨k1,k2⟩:=Ic hg ha h0 (n:=cnt a.members) (λes b hb h1 h2=>Ie es b hb h1 h2) (by omega) (xs:=(kG s.ls (dN a.members)).take j.toNat) (r:=gj s.p (cnt a.members) s.es (jb a)) hmem q2;have hB:=Ia (l:=a.left) (o:=a.opn) (fs:=fb (jb a).members) hg 8000000 (λl o=>by
    have:=Ib hg (fb (jb a).members) l o;have:=@Du (jb a).members;omega) (xs:=(kG s.ls (dN a.members)).take j.toNat) (v:=(gj s.p (cnt a.members) s.es (jb a)).1) (λx hx=>(γi.1 (hmem x hx)).1) (by
     rw[q1];have:=xI hg (jb a);omega);unfold ig;rw[k1];exact⟨hB.1,hB.2,k2⟩
  refine⟨⟨by omega,f0⟩,?_⟩;rintro f ⟨g0,g1⟩;refine⟨g0,by omega,λhb=>⟨by omega,⟨by omega,?_⟩,?_⟩,λhb=>?_⟩
  ·have:f≠dN a.members:=λe=>f2 (by rw[<-e];exact hb);omega
  ·have:f≠dN a.members:=λe=>f2 (by rw[<-e];exact hb);omega
  ·have hfe:f=dN a.members:=by
    by_cases hlt:f<dN a.members;·exact absurd (f4 f g0 hlt) hb
    ·omega
   subst hfe;simp only[δU];have hp:(2:Int)^(dN a.members).toNat<=256/\0<(2:Int)^(dN a.members).toNat:=by
    have:(dN a.members).toNat=0\/(dN a.members).toNat=1\/(dN a.members).toNat=2\/(dN a.members).toNat=3\/(dN a.members).toNat=4\/(dN a.members).toNat=5\/(dN a.members).toNat=6\/(dN a.members).toNat=7:=by omega
    rcases this with h|h|h|h|h|h|h|h<;>rw[h]<;>decide
   have hsk:eQ.rA .i64 a.members (2^(dN a.members).toNat)=(jb a).members:=rfl;simp only[hsk];have hse:(⟨(jb a).members,a.left,a.opn⟩:Sit)=jb a:=rfl;simp only[hse,hcs];have hr0:ig s a 0=gj s.p (cnt a.members) s.es (jb a):=rfl;refine⟨g0,by omega,⟨by omega,by omega⟩,⟨⟨hg,hl,s1,hm⟩,by omega⟩,g0,f1,by omega,⟨⟨⟨?_,rfl,rfl⟩,aax (by rw[hr0]),rfl⟩,by omega,by omega⟩,?_⟩;·rw[hr0]
   rintro j ⟨j0,j1⟩;obtain⟨b1,b2,b3⟩:=hrun j;refine⟨λDw=>?_,λjge=>?_⟩
   ·have hsucc:=aaw (s:=s) (a:=a) j0 Dw;have hxm:=cT (d:=bn.off.dflt) (show j.toNat<(kG s.ls (dN a.members)).length by omega);generalize bj (kG s.ls (dN a.members)) j.toNat bn.off.dflt=x at hsucc hxm ⊢;rw[hle] at hxm;have hxo:=(γi.1 hxm).1;have hxv:=hg.2.2.2.2 x hxo;refine⟨j0,Dw,by omega,⟨hg.1,hxv.1,hxv.2.1,ha.2.2,hxv.2.2.1⟩,λhfit=>?_,λhfit=>?_⟩
    ·obtain⟨k1,k2,k3⟩:=Qe hg ha h0 hxm hfit;have hcn:cnt (eL s.p a x).members+1=cnt a.members:=by unfold cnt;rw[k2];simp
     have xK:pR s.p a x=eL s.p a x:=by unfold pR;rw[if_pos hfit]
     simp only[xK,hcn];obtain⟨e1,e2⟩:=Ie (ig s a j).2 _ k1 b3 (by omega);have hbd:=xI hg (eL s.p a x);have hst:ig s a (j+1)=(max (ig s a j).1 (x.value+(gj s.p (cnt a.members) (ig s a j).2 (eL s.p a x)).1),(gj s.p (cnt a.members) (ig s a j).2 (eL s.p a x)).2):=by
      rw[hsucc];unfold stepM;rw[if_pos hfit]
     rw[hst];refine⟨⟨⟨hg,hl,k1,b3⟩,by omega⟩,by rw[e1];omega,by omega,⟨rfl,rfl⟩,by omega,by omega⟩
    ·have hst:ig s a (j+1)=ig s a j:=by
      rw[hsucc];unfold stepM;rw[if_neg (by simp[hfit])]
     rw[hst];refine⟨?_,⟨rfl,rfl⟩,?_,?_⟩<;>omega
   ·have hj:j=(kG s.ls (dN a.members)).length:=by omega
    rw[aav hl h0 hnone hj];exact⟨rfl,rfl⟩
theorem Dx:∀n,dL Tryz.prog (pS n)
 |0=>by
  rintro⟨s,a⟩ ⟨_,h⟩;exact absurd h (Nat.not_lt_zero _);|n+1=>by
  rintro⟨s,a⟩ ⟨h1,h2⟩;by_cases hc:cnt a.members<n;·exact Dx n (s,a) ⟨h1,hc⟩
  ·refine C5 (pS (n+1)) (W:=W9 n) (Λ:=λx=>Qg x.1 x.2) pN (by simp only[W9,γF,γ6,false_implies,implies_true,and_true];exact⟨Dx n,h116⟩) H7
    (show gG 108=some (fG 108) by kernel_rfl) (λ_=>rfl) (s,a) ?_ (aay n s a h1.1 h1.2.1 h1.2.2.1 h1.2.2.2 h2).out;intro d hd b hb1 hb2 hb3;have hd2:d=pS n:=by
    have:k9 108 (W9 n)=some (pS n):=rfl;have hd3:k9 108 (W9 n)=some d:=hd;rw[this] at hd3;injection hd3 with hd3;exact hd3.symm
   subst hd2;have hb:(s,a)=b:=(pS n).inj (s,a) b hb1 hb2;subst hb;exact hc hb3.2
def Dy:cY where
 f:=107;α:=bp;put p:=[cZ.put p];st _:=[];dec v o:=match v,o with
  |[v],[]=>cZ.dec v
  |_,_=>none;ok v o a h:=by
  split at h;·exact⟨by simp only[gL,cZ.ok _ _ h],rfl⟩
  ·cases h
 inj a b h _:=by
  simp only[gL,List.cons.injEq,and_true] at h;exact cZ.inj _ _ h
 dom p:=Good p;res _:=.ptr 0 0 29;out p:=kF.o ⟨p,L8.of p,[]⟩
def aaA:Nat->Option (Nat×Nat×Nat)
 |5=>some (11,0,8)
 |_=>none
def dq (p:bp) (i:Int) (j:Int):List Off:=(p.offers.take i.toNat).filter λx=>decide (x.bF=j)
def aaB (p:bp):Nat->cB
 |3=> .inv Int (λi=>⟨[(3,.ptr 2 0 29),(11,.row .off p.offers),(12,.si .i64 p.offers.length),(13,.si .i64 i)],
  [.cells p.ss 27 20 false,.map .sit (.i .i64) true [] ([0,0,0,0,0,0,0,0,0,0,0,0,0],true) true,
   .cells [.si .i64 p.supply.a0,.si .i64 p.supply.a1,.si .i64 p.supply.a2,.si .i64 p.supply.a3,.si .i64 p.supply.a4,.si .i64 p.supply.a5,
    .si .i64 p.opn.a0,.si .i64 p.opn.a1,.si .i64 p.opn.a2,.si .i64 p.opn.a3,.si .i64 p.opn.a4,.si .i64 p.opn.a5,
    .si .i64 p.cls.a0,.si .i64 p.cls.a1,.si .i64 p.cls.a2,.si .i64 p.cls.a3,.si .i64 p.cls.a4,.si .i64 p.cls.a5,
    .row (.i .i64) p.classes,.row .off p.offers,.ow 3 (dq p i 0).length 8,.ow 4 (dq p i 1).length 8,.ow 5 (dq p i 2).length 8,.ow 6 (dq p i 3).length 8,.ow 7 (dq p i 4).length 8,.ow 8 (dq p i 5).length 8,.ow 9 (dq p i 6).length 8,.ow 10 (dq p i 7).length 8,.mp 1] 214 29 false,
   .row .off (dq p i 0) 39 true,.row .off (dq p i 1) 39 true,.row .off (dq p i 2) 39 true,.row .off (dq p i 3) 39 true,.row .off (dq p i 4) 39 true,.row .off (dq p i 5) 39 true,.row .off (dq p i 6) 39 true,.row .off (dq p i 7) 39 true]⟩)
  (λs=>iS s 13) (λi=>0<=i/\i<=p.offers.length) (λi=>(p.offers.length - i).toNat) λ_ _=> .look
 |_=> .look
theorem ub {p:bp} {i:Int} {j:Int} (h0:0<=i) (h1:i<p.offers.length) (h:(bj p.offers i.toNat bn.off.dflt).bF=j):dq p (i+1) j=dq p i j++[bj p.offers i.toNat bn.off.dflt]:=by
 unfold dq;rw[j8 (d:=bn.off.dflt) h0 h1,δw];simp[h]
theorem dQ {p:bp} {i:Int} {j:Int} (h0:0<=i) (h1:i<p.offers.length) (h:(bj p.offers i.toNat bn.off.dflt).bF≠j):dq p (i+1) j=dq p i j:=by
 unfold dq;rw[j8 (d:=bn.off.dflt) h0 h1,δw];simp[h]
theorem h113:dL Tryz.prog Dy:=by
 refine zH (L:=[]) (W:=[]) Dy aaA aaB (by simp) (by simp) ?_;intro(p:bp) (hp:Good p);refine bQ (let a:=bq.row;let b:=γb .i64;let c:=SV.ow;let d:=(0:Int);let e:=γc;let f:=bq.cells;let g:=(1:Int);let h:=(2:Int);let j:=(3:Int);let k:=(4:Int);let l:=(5:Int);let m:=(6:Int);let n:=(7:Int);let o:=bY .i64;let w:=b p.supply.a0;let y:=b p.supply.a1;let z:=b p.supply.a2;let A:=b p.supply.a3;let B:=b p.supply.a4;let C:=b p.supply.a5;let D:=b p.opn.a0;let E:=b p.opn.a1;let F:=b p.opn.a2;let G:=b p.opn.a3;let H:=b p.opn.a4;let I:=b p.opn.a5;let J:=b p.cls.a0;let K:=b p.cls.a1;let L:=b p.cls.a2;let M:=b p.cls.a3;let N:=b p.cls.a4;let O:=b p.cls.a5;let P:=e (bn.i .i64) p.classes;let r:=e bn.off p.offers;let v:=γV 2 0 29;let aC:=(↑p.offers.length:Int);let s:=(↑p.offers.length:Int);let Q:=b s;let t:=bq.map bn.sit (bn.i .i64) true [] ([0,0,0,0,0,0,0,0,0,0,0,0,0],true) true;let W:=[SV.mp 1];let aD:=dq p d d;let aE:=dq p d g;let aF:=dq p d h;let aG:=dq p d j;let aH:=dq p d k;let aI:=dq p d l;let aJ:=dq p d m;let aK:=dq p d n;let R:=a bn.off [] 39 true;let aL:=γV 0 0 29;let ab:=λ(u:List SV) (u_1 u_2:Nat) (u_3:List SV) ↦(f (w::y::z::A::B::C::D::E::F::G::H::I::J::K::L::M::N::O::P::r::u) u_1 u_2 false).same (f (w::y::z::A::B::C::D::E::F::G::H::I::J::K::L::M::N::O::P::r::u_3) u_1 u_2 false);(((v.same v/\r.same r/\(b aC).same Q/\(γy .i64 0).same (b 0)/\True)/\ab [] 27 20 []/\t.same t/\ab (c 3 0 8::c 4 0 8::c 5 0 8::c 6 0 8::c 7 0 8::c 8 0 8::c 9 0 8::c 10 0 8::W) 214 29 (c 3 aD.length 8::c 4 aE.length 8::c 5 aF.length 8::c 6 aG.length 8::c 7 aH.length 8::c 8 aI.length 8::c 9 aJ.length 8::c 10 aK.length 8::W)/\R.same (a bn.off aD 39 true)/\R.same (a bn.off aE 39 true)/\R.same (a bn.off aF 39 true)/\R.same (a bn.off aG 39 true)/\R.same (a bn.off aH 39 true)/\R.same (a bn.off aI 39 true)/\R.same (a bn.off aJ 39 true)/\R.same (a bn.off aK 39 true)/\True)/\d<=d/\d<=s)/\∀(x:Int),let X:=dq p x h;let ac:=a bn.off X 39 true;let q:=x+g;let ad:=a bn.off (dq p q h) 39 true;let Y:=dq p x j;let ae:=a bn.off Y 39 true;let af:=a bn.off (dq p q j) 39 true;let Z:=dq p x k;let ag:=a bn.off Z 39 true;let ah:=a bn.off (dq p q k) 39 true;let a6:=dq p x l;let ai:=a bn.off a6 39 true;let aj:=a bn.off (dq p q l) 39 true;let a7:=dq p x m;let ak:=a bn.off a7 39 true;let al:=a bn.off (dq p q m) 39 true;let a8:=dq p x n;let am:=a bn.off a8 39 true;let an:=a bn.off (dq p q n) 39 true;let S:=bj p.offers x.toNat bn.off.dflt;let T:=b q;let a9:=dq p x d;let av:=c 3 a9.length 8;let aa:=dq p x g;let aw:=c 4 aa.length 8;let ax:=c 5 X.length 8;let ay:=c 6 Y.length 8;let az:=c 7 Z.length 8;let aA:=c 8 a6.length 8;let ao:=f (w::y::z::A::B::C::D::E::F::G::H::I::J::K::L::M::N::O::P::r::c 3 (dq p q d).length 8::c 4 (dq p q g).length 8::c 5 (dq p q h).length 8::c 6 (dq p q j).length 8::c 7 (dq p q k).length 8::c 8 (dq p q l).length 8::c 9 (dq p q m).length 8::c 10 (dq p q n).length 8::W) 214 29 false;let ap:=a bn.off a9 39 true;let aq:=a bn.off (dq p q d) 39 true;let ar:=a bn.off aa 39 true;let au:=a bn.off (dq p q g) 39 true;let aB:=c 9 a7.length 8::c 10 a8.length 8::W;let U:=S.want;let V:=S.value;let aM:=a9++[Off.mk d U V];let aN:=aa++[Off.mk g U V];let aO:=X++[Off.mk h U V];let aP:=Y++[Off.mk j U V];let aQ:=Z++[Off.mk k U V];let aR:=a6++[Off.mk l U V];let aS:=a7++[Off.mk m U V];let aT:=a8++[Off.mk n U V];let aY:=ac.same ad/\ae.same af/\ag.same ah/\ai.same aj/\ak.same al/\am.same an/\True;let aZ:=ag.same ah/\ai.same aj/\ak.same al/\am.same an/\True;let b0:=ak.same al/\am.same an/\True;let aU:=λ(u:Int) (u_1 u_2:Nat) (u_3 u_4:bq) ↦let z89:Nat:=(dq p x u).length;S.bF=u->1=1/\(dq p x u).length=z89/\(z89+1)*64<=140737488355328/\z89+1<=1000000000000/\o q/\((v.same v/\r.same r/\Q.same Q/\T.same T/\True)/\ab [] 27 20 []/\t.same t/\(f (w::y::z::A::B::C::D::E::F::G::H::I::J::K::L::M::N::O::P::r::av::aw::ax::ay::az::aA::c 9 u_1 8::c 10 u_2 8::W) 214 29 false).same ao/\ap.same aq/\ar.same au/\ac.same ad/\ae.same af/\ag.same ah/\ai.same aj/\u_3.same al/\u_4.same an/\True)/\(d<=q/\q<=s)/\(s - q).toNat<(s - x).toNat;let aV:=λ(u:Int) (u_1 u_2:Nat) (u_3 u_4:bq) ↦let If:Nat:=(dq p x u).length;S.bF=u->1=1/\(dq p x u).length=If/\(If+1)*64<=140737488355328/\If+1<=1000000000000/\o q/\((v.same v/\r.same r/\Q.same Q/\T.same T/\True)/\ab [] 27 20 []/\t.same t/\(f (w::y::z::A::B::C::D::E::F::G::H::I::J::K::L::M::N::O::P::r::av::aw::ax::ay::c 7 u_1 8::c 8 u_2 8::aB) 214 29 false).same ao/\ap.same aq/\ar.same au/\ac.same ad/\ae.same af/\u_3.same ah/\u_4.same aj/\b0)/\(d<=q/\q<=s)/\(s - q).toNat<(s - x).toNat;let aW:=λ(u:Int) (u_1 u_2:Nat) (u_3 u_4:bq) ↦let z91:Nat:=(dq p x u).length;S.bF=u->1=1/\(dq p x u).length=z91/\(z91+1)*64<=140737488355328/\z91+1<=1000000000000/\o q/\((v.same v/\r.same r/\Q.same Q/\T.same T/\True)/\ab [] 27 20 []/\t.same t/\(f (w::y::z::A::B::C::D::E::F::G::H::I::J::K::L::M::N::O::P::r::av::aw::c 5 u_1 8::c 6 u_2 8::az::aA::aB) 214 29 false).same ao/\ap.same aq/\ar.same au/\u_3.same ad/\u_4.same af/\aZ)/\(d<=q/\q<=s)/\(s - q).toNat<(s - x).toNat;let aX:=λ(u:Int) (u_1 u_2:Nat) (u_3 u_4:bq) ↦let Ig:Nat:=(dq p x u).length;S.bF=u->1=1/\(dq p x u).length=Ig/\(Ig+1)*64<=140737488355328/\Ig+1<=1000000000000/\o q/\((v.same v/\r.same r/\Q.same Q/\T.same T/\True)/\ab [] 27 20 []/\t.same t/\(f (w::y::z::A::B::C::D::E::F::G::H::I::J::K::L::M::N::O::P::r::c 3 u_1 8::c 4 u_2 8::ax::ay::az::aA::aB) 214 29 false).same ao/\u_3.same aq/\u_4.same au/\aY)/\(d<=q/\q<=s)/\(s - q).toNat<(s - x).toNat;d<=x/\x<=s->(decide (x<s)=true->d<=x/\x<aC/\x.toNat<p.offers.length/\aX d aM.length aa.length (a bn.off aM 39 true) ar/\aX g a9.length aN.length ap (a bn.off aN 39 true)/\aW h aO.length Y.length (a bn.off aO 39 true) ae/\aW j X.length aP.length ac (a bn.off aP 39 true)/\aV k aQ.length a6.length (a bn.off aQ 39 true) ai/\aV l Z.length aR.length ag (a bn.off aR 39 true)/\aU m aS.length a8.length (a bn.off aS 39 true) am/\aU n a7.length aT.length ak (a bn.off aT 39 true)/\d<=S.bF/\S.bF<(8:Int))/\(decide (x<s)=false->a9.length=a9.length/\aa.length=aa.length/\X.length=X.length/\Y.length=Y.length/\Z.length=Z.length/\a6.length=a6.length/\a7.length=a7.length/\a8.length=a8.length/\aL.same aL/\(f (w::y::z::A::B::C::D::E::F::G::H::I::J::K::L::M::N::O::P::r::e bn.off a9::e bn.off aa::e bn.off X::e bn.off Y::e bn.off Z::e bn.off a6::e bn.off a7::e bn.off a8::W) 214 29 false).same (f (w::y::z::A::B::C::D::E::F::G::H::I::J::K::L::M::N::O::P::r::e bn.off (L8.of p).l0::e bn.off (L8.of p).l1::e bn.off (L8.of p).l2::e bn.off (L8.of p).l3::e bn.off (L8.of p).l4::e bn.off (L8.of p).l5::e bn.off (L8.of p).l6::e bn.off (L8.of p).l7::W) 214 29 false)/\t.same t/\True)) (by kernel_rfl) ?_;conv=>zeta
 try simp only[vcs]
 have hz:∀j,dq p 0 j=[]:=λj=>rfl;have hlen:∀i j,(dq p i j).length<=160:=λi j=>by
  have h1:=γB (λx:Off=>decide (x.bF=j)) (p.offers.take i.toNat);have h2:=hp.2.1;simp only[Ω] at h1;unfold dq;omega
 have h160:=hp.2.1;refine⟨⟨by simp only[hz];exact⟨rfl,rfl,rfl,rfl,rfl,rfl,rfl,rfl,rfl⟩,by omega,by omega⟩,?_⟩;rintro i ⟨hi0,hi1⟩;refine⟨λhlt=>⟨hi0,hlt,by omega,?c0,?c1,?c2,?c3,?c4,?c5,?c6,?c7,?cb⟩,λhge=>?ce⟩;case c0=>
  intro hb;have hx:(⟨0,(bj p.offers i.toNat bn.off.dflt).want,(bj p.offers i.toNat bn.off.dflt).value⟩:Off)=bj p.offers i.toNat bn.off.dflt:=by rw[<-hb]
  simp only[hx];rw[ub (j:=0) hi0 hlt hb];rw[dQ (j:=1) hi0 hlt (by rw[hb];decide)];rw[dQ (j:=2) hi0 hlt (by rw[hb];decide)];rw[dQ (j:=3) hi0 hlt (by rw[hb];decide)];rw[dQ (j:=4) hi0 hlt (by rw[hb];decide)];rw[dQ (j:=5) hi0 hlt (by rw[hb];decide)];rw[dQ (j:=6) hi0 hlt (by rw[hb];decide)];rw[dQ (j:=7) hi0 hlt (by rw[hb];decide)];have hl:=hlen i 0;refine⟨?_,?_,?_,⟨rfl,rfl,rfl,rfl,rfl,rfl,rfl,rfl,rfl⟩,?_,?_⟩<;>omega
 case c1=>
  intro hb;have hx:(⟨1,(bj p.offers i.toNat bn.off.dflt).want,(bj p.offers i.toNat bn.off.dflt).value⟩:Off)=bj p.offers i.toNat bn.off.dflt:=by rw[<-hb]
  simp only[hx];rw[dQ (j:=0) hi0 hlt (by rw[hb];decide)];rw[ub (j:=1) hi0 hlt hb];rw[dQ (j:=2) hi0 hlt (by rw[hb];decide)];rw[dQ (j:=3) hi0 hlt (by rw[hb];decide)];rw[dQ (j:=4) hi0 hlt (by rw[hb];decide)];rw[dQ (j:=5) hi0 hlt (by rw[hb];decide)];rw[dQ (j:=6) hi0 hlt (by rw[hb];decide)];rw[dQ (j:=7) hi0 hlt (by rw[hb];decide)];have hl:=hlen i 1;refine⟨?_,?_,?_,⟨rfl,rfl,rfl,rfl,rfl,rfl,rfl,rfl,rfl⟩,?_,?_⟩<;>omega
 case c2=>
  intro hb;have hx:(⟨2,(bj p.offers i.toNat bn.off.dflt).want,(bj p.offers i.toNat bn.off.dflt).value⟩:Off)=bj p.offers i.toNat bn.off.dflt:=by rw[<-hb]
  simp only[hx];rw[dQ (j:=0) hi0 hlt (by rw[hb];decide)];rw[dQ (j:=1) hi0 hlt (by rw[hb];decide)];rw[ub (j:=2) hi0 hlt hb];rw[dQ (j:=3) hi0 hlt (by rw[hb];decide)];rw[dQ (j:=4) hi0 hlt (by rw[hb];decide)];rw[dQ (j:=5) hi0 hlt (by rw[hb];decide)];rw[dQ (j:=6) hi0 hlt (by rw[hb];decide)];rw[dQ (j:=7) hi0 hlt (by rw[hb];decide)];have hl:=hlen i 2;refine⟨?_,?_,?_,⟨rfl,rfl,rfl,rfl,rfl,rfl,rfl,rfl,rfl⟩,?_,?_⟩<;>omega
 case c3=>
  intro hb;have hx:(⟨3,(bj p.offers i.toNat bn.off.dflt).want,(bj p.offers i.toNat bn.off.dflt).value⟩:Off)=bj p.offers i.toNat bn.off.dflt:=by rw[<-hb]
  simp only[hx];rw[dQ (j:=0) hi0 hlt (by rw[hb];decide)];rw[dQ (j:=1) hi0 hlt (by rw[hb];decide)];rw[dQ (j:=2) hi0 hlt (by rw[hb];decide)];rw[ub (j:=3) hi0 hlt hb];rw[dQ (j:=4) hi0 hlt (by rw[hb];decide)];rw[dQ (j:=5) hi0 hlt (by rw[hb];decide)];rw[dQ (j:=6) hi0 hlt (by rw[hb];decide)];rw[dQ (j:=7) hi0 hlt (by rw[hb];decide)];have hl:=hlen i 3;refine⟨?_,?_,?_,⟨rfl,rfl,rfl,rfl,rfl,rfl,rfl,rfl,rfl⟩,?_,?_⟩<;>omega
 case c4=>
  intro hb;have hx:(⟨4,(bj p.offers i.toNat bn.off.dflt).want,(bj p.offers i.toNat bn.off.dflt).value⟩:Off)=bj p.offers i.toNat bn.off.dflt:=by rw[<-hb]
  simp only[hx];rw[dQ (j:=0) hi0 hlt (by rw[hb];decide)];rw[dQ (j:=1) hi0 hlt (by rw[hb];decide)];rw[dQ (j:=2) hi0 hlt (by rw[hb];decide)];rw[dQ (j:=3) hi0 hlt (by rw[hb];decide)];rw[ub (j:=4) hi0 hlt hb];rw[dQ (j:=5) hi0 hlt (by rw[hb];decide)];rw[dQ (j:=6) hi0 hlt (by rw[hb];decide)];rw[dQ (j:=7) hi0 hlt (by rw[hb];decide)];have hl:=hlen i 4;refine⟨?_,?_,?_,⟨rfl,rfl,rfl,rfl,rfl,rfl,rfl,rfl,rfl⟩,?_,?_⟩<;>omega
 case c5=>
  intro hb;have hx:(⟨5,(bj p.offers i.toNat bn.off.dflt).want,(bj p.offers i.toNat bn.off.dflt).value⟩:Off)=bj p.offers i.toNat bn.off.dflt:=by rw[<-hb]
  simp only[hx];rw[dQ (j:=0) hi0 hlt (by rw[hb];decide)];rw[dQ (j:=1) hi0 hlt (by rw[hb];decide)];rw[dQ (j:=2) hi0 hlt (by rw[hb];decide)];rw[dQ (j:=3) hi0 hlt (by rw[hb];decide)];rw[dQ (j:=4) hi0 hlt (by rw[hb];decide)];rw[ub (j:=5) hi0 hlt hb];rw[dQ (j:=6) hi0 hlt (by rw[hb];decide)];rw[dQ (j:=7) hi0 hlt (by rw[hb];decide)];have hl:=hlen i 5;refine⟨?_,?_,?_,⟨rfl,rfl,rfl,rfl,rfl,rfl,rfl,rfl,rfl⟩,?_,?_⟩<;>omega
 case c6=>
  intro hb;have hx:(⟨6,(bj p.offers i.toNat bn.off.dflt).want,(bj p.offers i.toNat bn.off.dflt).value⟩:Off)=bj p.offers i.toNat bn.off.dflt:=by rw[<-hb]
  simp only[hx];rw[dQ (j:=0) hi0 hlt (by rw[hb];decide)];rw[dQ (j:=1) hi0 hlt (by rw[hb];decide)];rw[dQ (j:=2) hi0 hlt (by rw[hb];decide)];rw[dQ (j:=3) hi0 hlt (by rw[hb];decide)];rw[dQ (j:=4) hi0 hlt (by rw[hb];decide)];rw[dQ (j:=5) hi0 hlt (by rw[hb];decide)];rw[ub (j:=6) hi0 hlt hb];rw[dQ (j:=7) hi0 hlt (by rw[hb];decide)];have hl:=hlen i 6;refine⟨?_,?_,?_,⟨rfl,rfl,rfl,rfl,rfl,rfl,rfl,rfl,rfl⟩,?_,?_⟩<;>omega
 case c7=>
  intro hb;have hx:(⟨7,(bj p.offers i.toNat bn.off.dflt).want,(bj p.offers i.toNat bn.off.dflt).value⟩:Off)=bj p.offers i.toNat bn.off.dflt:=by rw[<-hb]
  simp only[hx];rw[dQ (j:=0) hi0 hlt (by rw[hb];decide)];rw[dQ (j:=1) hi0 hlt (by rw[hb];decide)];rw[dQ (j:=2) hi0 hlt (by rw[hb];decide)];rw[dQ (j:=3) hi0 hlt (by rw[hb];decide)];rw[dQ (j:=4) hi0 hlt (by rw[hb];decide)];rw[dQ (j:=5) hi0 hlt (by rw[hb];decide)];rw[dQ (j:=6) hi0 hlt (by rw[hb];decide)];rw[ub (j:=7) hi0 hlt hb];have hl:=hlen i 7;refine⟨?_,?_,?_,⟨rfl,rfl,rfl,rfl,rfl,rfl,rfl,rfl,rfl⟩,?_,?_⟩<;>omega
 case cb=>
  have hv:=hp.2.2.2.2 _ (cT (d:=bn.off.dflt) (show i.toNat<p.offers.length by omega));have:=hp.1;exact⟨hv.1,by omega⟩
 case ce=>
  have hb:∀j,dq p i j=ja p j:=λj=>by unfold dq ja;rw[show i.toNat=p.offers.length from by omega,ψ]
  simp only[hb];rfl
theorem dF {p:bp} (h:bC p=0):Good p:=by
 obtain⟨e,k⟩:=pQ h;obtain⟨b,a,m,g,q⟩:=pO e;refine⟨m,g,b,?_,λx o=>?_⟩
 ·have d:=bz.eT.1 b;have f:=lj.1 (a 0 (by omega));have c:=lj.1 (a 1 (by omega));have i:=lj.1 (a 2 (by omega));have l:=lj.1 (a 3 (by omega));have n:=lj.1 (a 4 (by omega));have j:=lj.1 (a 5 (by omega));simp[bj] at f c i l n j;grind[bz.eT]
 ·have d:=zK (vE (k x o)).1;simp_all
theorem sE {n:Nat} (h:n<=8):(2:Int)^n<=256/\0<(2:Int)^n:=by
 have:n=0\/n=1\/n=2\/n=3\/n=4\/n=5\/n=6\/n=7\/n=8:=by omega
 rcases this with h|h|h|h|h|h|h|h|h<;>rw[h]<;>decide
def jM (p:bp) (m:Int):Int:=if gv p m=0 then gk p ⟨m,p.supply,p.opn⟩ else 0
theorem aaC (p:bp) (m:Int):0<=jM p m/\jM p m<=8000000:=by
 unfold jM;split
 ·rename_i h;have hc:bC p=0:=by
   unfold gv at h;split at h;·rename_i h1;exact absurd h h1
   ·rename_i h1;exact Θ.1 h1
  exact xI (dF hc) _
 ·omega
theorem Qh {p:bp} {m:Int} (h:gv p m=0):bC p=0/\0<=m/\m<2^p.classes.length:=by
 unfold gv at h;split at h;·rename_i h1;exact absurd h h1
 ·rename_i h1;split at h;·cases h
  ·rename_i h2;exact⟨Θ.1 h1,by omega,by omega⟩
def Dz:bM:=⟨73,bp×Int,.cons cZ (.one (dU .i64)),λ_=>True,λa=> .bH [.si .i64 (jM a.1 a.2),.si .i64 (gv a.1 a.2)]⟩
def WB:List cY:=[Dy,Dp,pS 9]
theorem hWB:∀c∈WB,dL Tryz.prog c:=by
 simp only[WB,γF,γ6,false_implies,implies_true,and_true];exact⟨h113,h114,Dx 9⟩
theorem h80:Holds Tryz.prog Dz:=by
 refine con (L:=zM) (W:=fV WB) Dz lk (lg hWB) H7 ?_;rintro⟨p,m⟩ _;refine bQ (let a:=γb .i64;let b:=SV.bH;let c:=decide (gv p m≠(0:Int));let d:=γy .i64 0;let e:=[a (gv p m)];let f:=b (a (jM p m)::e);let g:=Sit.mk m p.supply p.opn;True/\(c=true->(b (d::e)).same f)/\(c=false->Good p/\True/\((Good p/\L8.of p=L8.of p/\js g/\jc p [])/\cnt m<9)/\(b [a (gj p (cnt m+1) [] g).fst,d]).same f)) (by kernel_rfl) ?_;simp only[vcs];refine⟨λh=>by simp[jM,h],λh=>?_⟩;have hz:gv p m=0:=Θ.1 h;obtain⟨hc,h1,h2⟩:=Qh hz;have hg:=dF hc;have hp:=sE hg.1;have ha:js ⟨m,p.supply,p.opn⟩:=⟨h1,by simp only;omega,hg.2.2.1,hg.2.2.2.1⟩;have hm:jc p []:=λe he=>by simp at he
 have hn:cnt m<9:=by have:=@Du m;unfold cnt;omega
 have hb:=xJ hg (cnt m+1) [] ⟨m,p.supply,p.opn⟩ ha hm (by simp only;omega);refine⟨hg,⟨⟨hg,ha,hm⟩,hn⟩,?_,hz.symm⟩;rw[hb.1];simp[jM,hz]
def allM (p:bp):Int:=2^p.classes.length - 1
def Ih (p:bp) (s:Int) (i:Int):Int:=s+(bj p.offers i.toNat bn.off.dflt).value
def vF (p:bp) (c:List Int):Int:=c.foldl (Ih p) 0
def DC (p:bp) (c:List Int):Int:=if dp p c≠0 then dp p c else if vF p c<jM p (allM p) then 13 else 0
def bp.zero:bp:=⟨bz.zero,bz.zero,bz.zero,[],[]⟩
theorem Qi {l:List Off}:∀{c:List Int} {a:Int} {r:List Off}, -1<=a->fW l a c=some r->r.length=c.length/\∀i∈c,0<=i/\i<l.length
 |[],a,r,_,h=>by grind[fW];|i::c,a,r,e,h=>by
  simp only[fW] at h;split at h;·cases h
  ·rename_i d;obtain⟨f,b,rfl⟩:=δ.1 h;obtain⟨g,j⟩:=Qi (by omega) b;grind
def xM (p:bp) (n:Int):Bool:=decide ((p.offers.length:Int)<=n)&&decide ((p.classes.length:Int)<=8)
def Ii:bM:=⟨43,bp×Int,.cons cZ (.one (dU .i64)),λ_=>True,λa=> .sb (xM a.1 a.2)⟩
theorem h59:Holds Tryz.prog Ii:=by
 refine cJ (L:=[]) Ii lk (by simp) ?_;rintro⟨p,n⟩ _;refine bQ (let a:=decide ((↑p.offers.length:Int)<=n);(a=true->(γG (decide ((↑p.classes.length:Int)<=(8:Int)))).same (γG (xM p n)))/\(a=false->(δs false).same (γG (xM p n)))) (by kernel_rfl) ?_;simp only[vcs,xM];grind
def Qj:bM:=⟨16,bp,.one cZ,λ_=>True,λa=> .sb (xM a 10)⟩
theorem h15:Holds Tryz.prog Qj:=by
 refine cJ (L:=[Ii]) Qj lk (by simpa using h59) ?_;intro(p:bp) _;refine bQ (let a:=γG (xM p (10:Int));True/\a.same a) (by kernel_rfl) ?_;simp only[vcs]
def three:bp:=⟨⟨1,1,0,0,0,0⟩,⟨1,1,0,0,0,0⟩,bz.zero,[0,0,0],[⟨0,⟨1,1,0,0,0,0⟩,10⟩,⟨1,⟨1,0,0,0,0,0⟩,6⟩,⟨2,⟨0,1,0,0,0,0⟩,6⟩]⟩
def Ij:bM:=⟨44,bz,.one (eG .eD),λ_=>True,λb=> .sb b.ok⟩
theorem h68:Holds Tryz.prog Ij:=by
 refine cJ (L:=[]) Ij (λ_ _=> .pI 7) (by simp) ?_;intro b _;refine bQ (let h:=δs false;let o:=γG;let p:=(0:Int);let q:=(4:Int);let i:=decide (b.a0<p);let d:=decide (q<b.a0);let k:=decide (b.a1<p);let e:=decide (q<b.a1);let l:=decide (b.a2<p);let f:=decide (q<b.a2);let j:=decide (b.a3<p);let m:=decide (q<b.a3);let n:=decide (b.a4<p);let g:=decide (q<b.a4);let a:=decide (b.a5<p);let c:=decide (q<b.a5);(i=true->(h).same (o (bz.ok b)))/\(i=false->(d=true->(h).same (o (bz.ok b)))/\(d=false->(k=true->(h).same (o (bz.ok b)))/\(k=false->(e=true->(h).same (o (bz.ok b)))/\(e=false->(l=true->(h).same (o (bz.ok b)))/\(l=false->(f=true->(h).same (o (bz.ok b)))/\(f=false->(j=true->(h).same (o (bz.ok b)))/\(j=false->(m=true->(h).same (o (bz.ok b)))/\(m=false->(n=true->(h).same (o (bz.ok b)))/\(n=false->(g=true->(h).same (o (bz.ok b)))/\(g=false->(a=true->(h).same (o (bz.ok b)))/\(a=false->(c=true->(h).same (o (bz.ok b)))/\(c=false->(δs true).same (o (bz.ok b))))))))))))))) (by kernel_rfl) ?_;conv=>zeta
 have o:=@bz.eT b;by_cases h:b.ok=true<;>simp_all
def qD (p:bp) (r:Int) (o:Off):Int:=
 if r - p.classes.length<0 then(if o.bF=r then 1 else 0)
 else if r - p.classes.length<6 then bj [o.want.a0,o.want.a1,o.want.a2,o.want.a3,o.want.a4,o.want.a5] (r - p.classes.length).toNat 0
 else if bj [p.cls.a0,p.cls.a1,p.cls.a2,p.cls.a3,p.cls.a4,p.cls.a5] (r - p.classes.length - 6).toNat 0=0\/p.classes.length<=o.bF\/bj [p.cls.a0,p.cls.a1,p.cls.a2,p.cls.a3,p.cls.a4,p.cls.a5] (r - p.classes.length - 6).toNat 0=bj p.classes o.bF.toNat 0 then 0
 else bj [o.want.a0,o.want.a1,o.want.a2,o.want.a3,o.want.a4,o.want.a5] (r - p.classes.length - 6).toNat 0
theorem aaE {p:bp} {r:Int} {o:Off} (h:o.bF<p.classes.length):qD p r o=eU p r o:=by
 unfold qD eU;omega
def Ik:bM:=⟨76,bp×Int×Off,.cons cZ (.cons (dU .i64) (.one (eG .off))),λa=>a.1.classes.length<=8/\0<=a.2.1/\a.2.1<dj a.1/\0<=a.2.2.bF,
 λa=> .bH [.si .i64 (qD a.1 a.2.1 a.2.2),.si .i64 (dD a.1 a.2.1)]⟩
theorem h110:Holds Tryz.prog Ik:=by
 refine cJ (L:=[]) Ik (λ_ _=> .pI 7) (by simp) ?_;rintro⟨p,r,x⟩ ⟨D,z,B,A⟩;simp only[dj] at D z B A;refine bQ (let h:=(0:Int);let j:=(6:Int);let v:=γb .i64;let w:=bY .i64;let y:=SV.bH;let b:=(↑p.classes.length:Int);let a:=r - b - j;let o:=γy .i64 0;let k:=y [v (qD p r x),v (dD p r)];let q:=bj [p.cls.a0,p.cls.a1,p.cls.a2,p.cls.a3,p.cls.a4,p.cls.a5] a.toNat h;let t:=decide (x.bF=r);let e:=γy .i64 1;let g:=decide (r<b+j);let i:=decide (x.bF<b);let l:=h<=a/\a<j/\a.toNat<6/\(y [o,v (bj [p.opn.a0,p.opn.a1,p.opn.a2,p.opn.a3,p.opn.a4,p.opn.a5] a.toNat h)]).same k;let n:=λ(u f:Int) (c:bz) ↦let d:=(u - f).toNat;h<=u - f/\u - f<j/\d<6/\(y [v (bj [x.want.a0,x.want.a1,x.want.a2,x.want.a3,x.want.a4,x.want.a5] d h),v (bj [c.a0,c.a1,c.a2,c.a3,c.a4,c.a5] d h)]).same k;let m:=λ(u:Bool) ↦decide (q≠bj p.classes x.bF.toNat h)=u;let s:=λ(u:Bool) ↦decide (q≠h)=u;(decide (r<b)=true->(t=true->(y [e,e]).same k)/\(t=false->(y [o,e]).same k))/\(decide (r<b)=false->w (b+j)/\(g=true->w (r - b)/\h<=r - b/\r - b<j/\(r - b).toNat<6/\w (r - b)/\n r b p.supply)/\(g=false->w (r - b)/\w a/\h<=a/\a<j/\a.toNat<6/\(s true->(i=true->h<=a/\a<j/\a.toNat<6/\h<=x.bF/\x.bF<b/\x.bF.toNat<p.classes.length/\(m true->h<=a/\a<j/\a.toNat<6/\n (r - b) j p.opn)/\(m false->l))/\(i=false->l))/\(s false->l)))) (by kernel_rfl) ?_;simp only[vcs];have G:r - p.classes.length<0->dD p r=1:=λh=>by simp_all[dD]
 have E:¬r - p.classes.length<0->r - p.classes.length<6->dD p r=bj [p.supply.a0,p.supply.a1,p.supply.a2,p.supply.a3,p.supply.a4,p.supply.a5] (r - p.classes.length).toNat 0:=λh j=>by simp_all[dD,if_neg]
 have v:¬r - p.classes.length<0->¬r - p.classes.length<6->dD p r=bj [p.opn.a0,p.opn.a1,p.opn.a2,p.opn.a3,p.opn.a4,p.opn.a5] (r - p.classes.length - 6).toNat 0:=λh j=>by simp_all[dD,if_neg]
 have F:r - p.classes.length<0->qD p r x=if x.bF=r then 1 else 0:=λh=>by simp_all[qD]
 have H:¬r - p.classes.length<0->r - p.classes.length<6->qD p r x=bj [x.want.a0,x.want.a1,x.want.a2,x.want.a3,x.want.a4,x.want.a5] (r - p.classes.length).toNat 0:=λh j=>by simp_all[qD,if_neg]
 have y:=λ(h:¬r - p.classes.length<0) (j:¬r - p.classes.length<6)=>(show qD p r x=_ by unfold qD;rw[if_neg h,if_neg j]);refine⟨λw=>?_,λw=>⟨by omega,λC=>?_,λC=>?_⟩⟩;·grind
 ·grind
 ·rw[v (by omega) (by omega),y (by omega) (by omega)];omega
def M1:List bM:=[Ik,Ij]
theorem hM1:∀c∈M1,Holds Tryz.prog c:=by
 simp_all[M1,h110,h68]
def Il:bM:=⟨45,bp×List Off,.cons cZ (.one (dY .off)),λa=>a.1.classes.length<=8/\a.2.length<=1000/\(∀x∈a.2,0<=x.bF/\x.bF<a.1.classes.length/\x.want.ok=true),λa=> .sb (fF a.1 a.2)⟩
def aaF (a:bp×List Off):Nat->cB
 |2=> .inv Int (λi=>⟨[(1,.row .off a.2),(2,.ptr 0 0 20),(5,.si .i64 i)],[.cells a.1.ss 27 20 false]⟩) (λs=>iS s 5)
  (λi=>0<=i/\i<=dj a.1/\∀r:Nat,r<i->cQ a.1 a.2 r<=dD a.1 r) (λi=>(dj a.1 - i).toNat)
  λi=>λ
   |6=> .inv (Int×Int) (λx=>⟨[(1,.row .off a.2),(2,.ptr 0 0 20),(5,.si .i64 i),(6,.si .i64 x.2),(7,.si .i64 x.1)],[.cells a.1.ss 27 20 false]⟩)
    (λs=>(iS s 7,iS s 6))
    (λx=>0<=x.1/\x.1<=a.2.length/\x.2=cQ a.1 (a.2.take x.1.toNat) i) (λx=>(a.2.length - x.1).toNat) λ_ _=> .look
   |_=> .look
 |_=> .look
theorem h69:Holds Tryz.prog Il:=by
 refine cJ (L:=M1) Il aaF hM1 ?_;rintro⟨p,l⟩ ⟨A,G,q⟩;simp only at A G q;refine bQ (let d:=(0:Int);let i:=γb .i64;let j:=γc;let o:=γy .i64 0;let q:=bY .i64;let s:=γy .i64;let b:=γV 0 0 20;let c:=bq.cells (bp.ss p) 27 20 false;let v:=(↑p.classes.length:Int)+(12:Int);let k:=(↑l.length:Int);((((j bn.off l).same (j bn.off l)/\b.same b/\(o).same (i 0)/\True)/\c.same c/\True)/\d<=d/\d<=dj p/\∀(r:Nat),(↑r:Int)<d->cQ p l (↑r:Int)<=dD p (↑r:Int))/\∀(x:Int),let f:=x+(1:Int);let E:=i f;(d<=x/\x<=dj p/\∀(r:Nat),(↑r:Int)<x->cQ p l (↑r:Int)<=dD p (↑r:Int))->q v/\(decide (x<v)=true->((((j bn.off l).same (j bn.off l)/\b.same b/\(i x).same (i x)/\(o).same (i 0)/\(o).same (i 0)/\True)/\c.same c/\True)/\d<=d/\d<=k/\d=cQ p [] x)/\∀(a:Int×Int),let D:=decide (a.fst<(↑l.length:Int));let C:=bj l a.fst.toNat bn.off.dflt;let w:=a.snd+qD p x C;let e:=a.fst+(1:Int);let n:=i x;let h:=i w;let m:=i e;let g:=decide (dD p x<a.snd);d<=a.fst/\a.fst<=k/\a.snd=cQ p (γe a.fst.toNat l) x->(D=true->d<=a.fst/\a.fst<(↑l.length:Int)/\a.fst.toNat<l.length/\(p.classes.length<=8/\d<=x/\x<dj p/\d<=C.bF)/\q w/\q e/\(((j bn.off l).same (j bn.off l)/\b.same b/\n.same n/\h.same h/\m.same m/\True)/\c.same c/\True)/\(d<=e/\e<=k/\w=cQ p (γe e.toNat l) x)/\(k - e).toNat<(k - a.fst).toNat)/\(D=false->(p.classes.length<=8/\d<=x/\x<dj p/\d<=d)/\(g=true->(δs false).same (γG (fF p l)))/\(g=false->q f/\(((j bn.off l).same (j bn.off l)/\b.same b/\E.same E/\True)/\c.same c/\True)/\(d<=f/\f<=dj p/\∀(r:Nat),(↑r:Int)<f->cQ p l (↑r:Int)<=dD p (↑r:Int))/\(dj p - f).toNat<(dj p - x).toNat)))/\(decide (x<v)=false->(δs true).same (γG (fF p l)))) (by kernel_rfl) ?_;simp only[vcs];have T:dj p=p.classes.length+12:=rfl;have P:∀x∈l,x.want.ok=true:=λx y=>(q x y).2.2;refine⟨⟨by omega,by omega,λr J=>by omega⟩,?_⟩;rintro i ⟨H,F,S⟩;refine⟨by omega,λN=>⟨⟨by omega,by omega,by simp[cQ]⟩,?_⟩,?_⟩
 ·rintro⟨j,s⟩ ⟨u,o,B⟩;simp only at u o B ⊢;have Q:=@ua p i (l.take j.toNat) λx y=>P x (γn y);have z:(l.take j.toNat).length<=l.length:=by simp;omega
  refine⟨λt=>?_,λt=>?_⟩
  ·have O:=q _ (cT (d:=bn.off.dflt) (show j.toNat<l.length by omega));have R:=@rF p i _ O.2.2;grind[HU,aaE]
  ·have:j.toNat=l.length:=by omega
   rw[this,ψ] at B;refine⟨⟨A,by omega,by omega,by omega⟩,λK=>?_,λM=>⟨by omega,⟨by omega,by omega,λr J=>?_⟩,by omega⟩⟩
   ·symm;rw[εt];intro I;have:=o6.1 I i.toNat (by omega);grind
   grind
 grind[o6]
def Im:bM:=⟨17,bp,.one cZ,λp=>True,λp=> .si .i64 (bC p)⟩
def aaG (p:bp):Nat->cB
 |11=> .inv Int (λk=>⟨[(1,.ptr 0 0 20),(4,.si .i64 k)],[.cells p.ss 27 20 false]⟩) (λs=>iS s 4) (λk=>0<=k/\k<=p.classes.length/\∀c∈p.classes.take k.toNat,0<=c/\c<=4) (λk=>(p.classes.length - k).toNat) λ_ _=> .look
 |16=> .inv Int (λi=>⟨[(1,.ptr 0 0 20),(5,.si .i64 i)],[.cells p.ss 27 20 false]⟩) (λs=>iS s 5)
  (λi=>0<=i/\i<=p.offers.length/\eJ p [] p.offers=eJ p ((p.offers.take i.toNat).map Off.key) (p.offers.drop i.toNat)) (λi=>(p.offers.length - i).toNat)
  λi=>λ
   |26=> .inv Int (λk=>⟨[(1,.ptr 0 0 20),(5,.si .i64 i),(6,.ptr 1 0 8),(7,.si .i64 k)],[.cells p.ss 27 20 false,.cells (encS .off (bj p.offers i.toNat bn.off.dflt)) 39 8 false]⟩) (λs=>iS s 7)
    (λk=>0<=k/\k<=i/\∀j:Nat,j<k->(bj p.offers j bn.off.dflt).key≠(bj p.offers i.toNat bn.off.dflt).key) (λk=>(i - k).toNat) λ_ _=> .look
   |_=> .look
 |4=> .inv Int (λk=>⟨[(1,.ptr 0 0 20),(3,.si .i64 k)],[.cells p.ss 27 20 false]⟩) (λs=>iS s 3) (λk=>0<=k/\k<=6/\∀j:Nat,j<k->ix p j) (λk=>(6 - k).toNat) λ_ _=> .look
 |_=> .look
theorem aaH {b:bz}:(decide (b.a0=0)&&(decide (b.a1=0)&&(decide (b.a2=0)&&(decide (b.a3=0)&&(decide (b.a4=0)&&(decide (b.a5=0)&&true))))))=decide (b=bz.zero):=by
 simp_all[Da,bz.zero]
theorem aaI {b c:bz}:(decide (b.a0=c.a0)&&(decide (b.a1=c.a1)&&(decide (b.a2=c.a2)&&(decide (b.a3=c.a3)&&(decide (b.a4=c.a4)&&(decide (b.a5=c.a5)&&true))))))=decide (b=c):=by
 grind[Da]
theorem aaJ {a:Type} {l:List a} {i:Int} {d x:a} (b:i<=l.length) (h:x∈l.take i.toNat):∃j:Nat,(j:Int)<i/\bj l j d=x:=by
 obtain⟨j,c,rfl⟩:=List.mem_iff_getElem.1 h;grind[cO]
theorem h24:Holds Tryz.prog Im:=by
 refine cJ (L:=Il::M1) Im aaG (by simp only[γF];exact⟨h69,hM1⟩) ?_;intro p _;refine bQ (let a:=(0:Int);let b:=γb .i64;let d:=γy .i64;let e:=(6:Int);let f:=(1:Int);let g:=(4:Int);let h:=bY .i64;let k:=b (bC p);let l:=γV 0 0 20;let z:=d 0;let m:=bq.cells (bp.ss p) 27 20 false;let af:=[p.cls.a0,p.cls.a1,p.cls.a2,p.cls.a3,p.cls.a4,p.cls.a5];let ag:=[p.opn.a0,p.opn.a1,p.opn.a2,p.opn.a3,p.opn.a4,p.opn.a5];let ah:=[p.supply.a0,p.supply.a1,p.supply.a2,p.supply.a3,p.supply.a4,p.supply.a5];let J:=p.classes.length;let o:=(↑J:Int);let L:=decide ((8:Int)<o);let E:=p.offers.length;let r:=(↑E:Int);let M:=decide ((160:Int)<r);let s:=(↑p.classes.length:Int);let A:=(↑p.offers.length:Int);let F:=eJ p [] p.offers;let B:=bn.off.dflt;let G:=γV 1 0 8;True/\((!p.supply.ok)=true->(d 4).same k)/\((!p.supply.ok)=false->(((l.same l/\z.same (b 0)/\True)/\m.same m/\True)/\a<=a/\a<=e/\∀(j:Nat),(↑j:Int)<a->ix p j)/\∀(x:Int),let t:=x+f;let N:=b t;let O:=decide (x<e);let K:=bj af x.toNat a;let P:=decide (K<a);let Q:=decide (g<K);let C:=bj ag x.toNat a;let R:=decide (C<a);let H:=bj ah x.toNat a;let S:=decide (K=a);let T:=h t/\((l.same l/\N.same N/\True)/\m.same m/\True)/\(a<=t/\t<=e/\∀(j:Nat),(↑j:Int)<t->ix p j)/\(e - t).toNat<(e - x).toNat;(a<=x/\x<=e/\∀(j:Nat),(↑j:Int)<x->ix p j)->(O=true->a<=x/\x<e/\x.toNat<6/\(P=true->(d 4).same k)/\(P=false->a<=x/\x<e/\x.toNat<6/\(Q=true->(d 4).same k)/\(Q=false->a<=x/\x<e/\x.toNat<6/\(R=true->(d 4).same k)/\(R=false->a<=x/\x<e/\x.toNat<6/\a<=x/\x<e/\x.toNat<6/\(decide (H<C)=true->(d 4).same k)/\(decide (H<C)=false->a<=x/\x<e/\x.toNat<6/\(S=true->a<=x/\x<e/\x.toNat<6/\a<=x/\x<e/\x.toNat<6/\(decide (C≠H)=true->(d 4).same k)/\(decide (C≠H)=false->T))/\(S=false->T))))))/\(O=false->(L=true->(d 3).same k)/\(L=false->(M=true->(d 3).same k)/\(M=false->(((l.same l/\z.same (b 0)/\True)/\m.same m/\True)/\a<=a/\a<=s/\∀(c:Int),c∈[]->a<=c/\c<=g)/\∀(x:Int),let U:=bj p.classes x.toNat a;let V:=decide (U<a);let W:=decide (g<U);let v:=x+f;let X:=b v;(a<=x/\x<=s/\∀(c:Int),c∈γe x.toNat p.classes->a<=c/\c<=g)->(decide (x<o)=true->a<=x/\x<o/\x.toNat<J/\(V=true->(d 4).same k)/\(V=false->a<=x/\x<o/\x.toNat<J/\(W=true->(d 4).same k)/\(W=false->h v/\((l.same l/\X.same X/\True)/\m.same m/\True)/\(a<=v/\v<=s/\∀(c:Int),c∈γe v.toNat p.classes->a<=c/\c<=g)/\(s - v).toNat<(s - x).toNat)))/\(decide (x<o)=false->(((l.same l/\z.same (b 0)/\True)/\m.same m/\True)/\a<=a/\a<=A/\F=F)/\∀(x:Int),let n:=bj p.offers x.toNat B;let i:=n.want;let D:=n.bF;let Y:=decide (D<a);let Z:=decide (n.value<f);let a6:=decide ((1000000:Int)<n.value);let I:=bq.cells [b D,b i.a0,b i.a1,b i.a2,b i.a3,b i.a4,b i.a5,b n.value] 39 8 false;let q:=x+f;let a7:=b q;let a8:=λ(u:Bool) ↦(decide (i.a0=a)&&(decide (i.a1=a)&&(decide (i.a2=a)&&(decide (i.a3=a)&&(decide (i.a4=a)&&(decide (i.a5=a)&&true))))))=u;a<=x/\x<=A/\F=eJ p (List.map Off.key (γe x.toNat p.offers)) (γ8 x.toNat p.offers)->(decide (x<r)=true->a<=x/\x<r/\x.toNat<E/\(Y=true->(d 6).same k)/\(Y=false->(decide (o<=D)=true->(d 6).same k)/\(decide (o<=D)=false->(Z=true->(d 4).same k)/\(Z=false->(a6=true->(d 4).same k)/\(a6=false->True/\((!i.ok)=true->(d 4).same k)/\((!i.ok)=false->(a8 true->(d 4).same k)/\(a8 false->(p.classes.length<=8/\1<=1000/\∀(x:Off),x∈[n]->a<=x.bF/\x.bF<s/\x.want.ok=true)/\((!fF p [n])=true->(d 14).same k)/\((!fF p [n])=false->(((l.same l/\(b x).same (b x)/\G.same G/\z.same (b 0)/\True)/\m.same m/\I.same I/\True)/\a<=a/\a<=x/\∀(j:Nat),(↑j:Int)<a->(bj p.offers j B).key≠n.key)/\∀(x_1:Int),let w:=x_1+f;let a9:=b x;let aa:=b w;let ab:=bj p.offers x_1.toNat B;let y:=ab.want;let ac:=decide (ab.bF=D);let ad:=h w/\((l.same l/\a9.same a9/\G.same G/\aa.same aa/\True)/\m.same m/\I.same I/\True)/\(a<=w/\w<=x/\∀(j:Nat),(↑j:Int)<w->(bj p.offers j B).key≠n.key)/\(x - w).toNat<(x - x_1).toNat;let ae:=λ(u:Bool) ↦(decide (y.a0=i.a0)&&(decide (y.a1=i.a1)&&(decide (y.a2=i.a2)&&(decide (y.a3=i.a3)&&(decide (y.a4=i.a4)&&(decide (y.a5=i.a5)&&true))))))=u;(a<=x_1/\x_1<=x/\∀(j:Nat),(↑j:Int)<x_1->(bj p.offers j B).key≠n.key)->(decide (x_1<x)=true->a<=x_1/\x_1<r/\x_1.toNat<E/\(ac=true->a<=x_1/\x_1<r/\x_1.toNat<E/\(ae true->(d 7).same k)/\(ae false->ad))/\(ac=false->ad))/\(decide (x_1<x)=false->h q/\((l.same l/\a7.same a7/\True)/\m.same m/\True)/\(a<=q/\q<=A/\F=eJ p (List.map Off.key (γe q.toNat p.offers)) (γ8 q.toNat p.offers))/\(A - q).toNat<(A - x).toNat)))))))))/\(decide (x<r)=false->z.same k))))))) (by kernel_rfl) ?_;simp only[aaH,aaI];simp only[vcs];have e4:gI p=4->(4:Int)=bC p:=λh=>by simp[bC,h]
 have e3:gI p=3->(3:Int)=bC p:=λh=>by simp[bC,h]
 refine⟨λhs=>e4 (P3 hs),λhs=>⟨⟨by omega,by omega,λj hj=>by omega⟩,?_⟩⟩;rintro k ⟨hk0,hk1,hk⟩;refine⟨λhlt=>?_,λhge=>?_⟩
 ·have bad:¬ix p k.toNat->(4:Int)=bC p:=λh=>e4 (P4 hs (by omega) h);have HW:ix p k.toNat->∀(j:Nat),(j:Int)<k+1->ix p j:=λh j hj=>by
   by_cases hj2:(j:Int)<k;·exact hk j hj2
   ·rw[show j=k.toNat from by omega];exact h
  repeat' (first|refine γj ?_ ?_|intro _)
  all_goals first
   |omega;|exact bad λhh=>by have h2:=lj.1 hh;omega;|exact HW (lj.2 (by omega)) _ (by assumption)
 ·have hall:∀j:Nat,j<6->ix p j:=λj hj=>hk j (by omega);refine⟨λh=>e3 (Df hs hall (.inl (by omega))),λh8=>⟨λh=>e3 (Df hs hall (.inr (by omega))),λh160=>⟨⟨by omega,by omega,by simp⟩,?_⟩⟩⟩;rintro i ⟨hi0,hi1,hi⟩;refine⟨λhlt=>?_,λhge=>?_⟩
  ·have hm:=cT (d:=0) (show i.toNat<p.classes.length by omega);refine⟨by omega,by omega,by omega,λh=>e4 (Dh hs hall (by omega) hm (by omega)),λh1=>⟨by omega,by omega,by omega,λh=>e4 (Dh hs hall (by omega) hm (by omega)),λh2=>⟨by omega,⟨by omega,by omega,?_⟩,by omega⟩⟩⟩;exact P5 hi0 hlt hi (by omega)
  ·rw[show i.toNat=p.classes.length from by omega,ψ] at hi;have hz:gI p=0:=zJ hs hall (by omega) hi;have ce:bC p=eJ p [] p.offers:=by simp[bC,hz]
   refine⟨⟨by omega,by omega⟩,?_⟩;rintro i ⟨hi0,hi1,hi⟩;refine⟨λhlt=>?_,λhge=>?_⟩
   ·rw[sD (d:=bn.off.dflt) hi0 hlt] at hi;generalize hx:bj p.offers i.toNat bn.off.dflt=x at hi ⊢;have oe:∀c:Int,c≠0->gW p x=c->c=bC p:=λc hc h=>by
     rw[ce,hi];simp only[eJ,h];rw[if_pos hc]
    have se:∀c:Int,c≠0->i7 p.classes.length x=c->c=bC p:=λc hc h=>oe c hc (by
     unfold gW;rw[if_pos (by omega),h]);refine⟨by omega,by omega,by omega,λh1=>?_,λh1=>⟨λh2=>?_,λh2=>⟨λh3=>?_,λh3=>⟨λh4=>?_,λh4=>⟨λh5=>?_,λh5=>⟨λh6=>?_,λh6=>?_⟩⟩⟩⟩⟩⟩;·exact se 6 (by decide) (by unfold i7;rw[if_pos (by omega)])
    ·exact se 6 (by decide) (by unfold i7;rw[if_pos (by omega)])
    ·exact se 4 (by decide) (by unfold i7;rw[if_neg (by omega),if_pos (by omega)])
    ·exact se 4 (by decide) (by unfold i7;rw[if_neg (by omega),if_pos (by omega)])
    ·exact se 4 (by decide) (by unfold i7;rw[if_neg (by omega),if_neg (by omega),h5];rfl)
    ·have hs0:i7 p.classes.length x=0:=by unfold i7;rw[if_neg (by omega),if_neg (by omega),h5];rfl
     exact oe 4 (by decide) (by simp[gW,hs0,h6])
    ·have hs0:i7 p.classes.length x=0:=by unfold i7;rw[if_neg (by omega),if_neg (by omega),h5];rfl
     refine⟨⟨by omega,by omega,λy hy=>?_⟩,λh7=>?_,λh7=>⟨⟨by omega,by omega,λj hj=>by omega⟩,?_⟩⟩
     ·rw[List.mem_singleton.1 hy];exact⟨by omega,by omega,h5⟩
     ·exact oe 14 (by decide) (by simp[gW,hs0,h6,h7])
     ·have ho0:gW p x=0:=by simp[gW,hs0,h6,h7]
      rintro k ⟨hk0,hk1,hk⟩;have hnx:(bj p.offers k.toNat bn.off.dflt).key≠x.key->∀j:Nat,(j:Int)<k+1->(bj p.offers j bn.off.dflt).key≠x.key:=λh j hj=>by
       by_cases hj2:(j:Int)<k;·exact hk j hj2
       ·rw[show j=k.toNat from by omega];exact h
      refine⟨λhlt2=>⟨by omega,by omega,by omega,λh8=>⟨by omega,by omega,by omega,λh9=>?_,λh9=>⟨by omega,⟨by omega,by omega,?_⟩,by omega⟩⟩,λh8=>⟨by omega,⟨by omega,by omega,?_⟩,by omega⟩⟩,λIo=>⟨by omega,⟨by omega,by omega,?_⟩,by omega⟩⟩
      ·have hk9:(bj p.offers k.toNat bn.off.dflt).key=x.key:=by
        show lY.mk _ _=lY.mk _ _;rw[h8,h9]
       have hmem:x.key∈(p.offers.take i.toNat).map Off.key:=by
        rw[<-hk9];refine γf.2 ⟨_,?_,rfl⟩;rw[cO (by omega)];exact List.mem_take_iff_getElem.2 ⟨k.toNat,by omega,rfl⟩
       rw[ce,hi];simp only[eJ,ho0,ne_eq,not_true,if_false,if_pos hmem]
      ·refine hnx λe=>h9 ?_;injection e
      ·refine hnx λe=>h8 ?_;injection e
      ·have hnm:x.key∉(p.offers.take i.toNat).map Off.key:=by
        intro hmem;obtain⟨o,ho,he⟩:=γf.1 hmem;obtain⟨j,hj,rfl⟩:=aaJ (d:=bn.off.dflt) hi1 ho;exact hk j (by omega) he
       rw[hi,j8 (d:=bn.off.dflt) hi0 hlt,hx];simp only[eJ,ho0,ne_eq,not_true,if_false,if_neg hnm,γd,θ,List.map_nil]
   ·rw[show i.toNat=p.offers.length from by omega,εg] at hi;rw[ce,hi];rfl
def bV:List Off->Int
 |[]=>0
 |x::l=>x.value+bV l
def dI (p:bp) (c:List Int):Int:=if bC p=0 then bV (eE p c) else 0
theorem o7:∀{l m:List Off},bV (l++m)=bV l+bV m
 |[],m=>by simp[bV];|x::l,m=>by simp only[List.cons_append,bV,@o7 l m];omega
theorem aaL {l:List Off} {i:Int} (a:0<=i) (h:i<l.length):bV (l.take (i+1).toNat)=bV (l.take i.toNat)+(bj l i.toNat bn.off.dflt).value:=by
 rw[j8 (d:=bn.off.dflt) a h,o7];simp[bV]
theorem aaM {p:bp} {c:List Int} (h:bC p=0):(eE p c).length<=160/\∀x∈eE p c,x∈p.offers:=by
 have d:=dF h;unfold eE;cases a:fW p.offers (-1) c with
 |none=>simp;|some r=>
  refine⟨?_,λx b=>H3 (by omega) a x b⟩;have e:=Dk (by omega) a;have f:=d.2.1;grind
theorem sG {p:bp} (a:Good p):∀{l:List Off},(∀x∈l,x∈p.offers)->0<=bV l/\bV l<=1000000*l.length
 |[],_=>by simp[bV];|x::l,h=>by
  have c:=a.2.2.2.2 x (h x (by simp));have d:=@sG p a l λy b=>h y (by simp[b]);grind[bV]
def cmpL:List Int->List Int->Int
 |[],[]=>0
 |[],_::_=> -1
 |_::_,[]=>1
 |a::l,b::m=>if a<b then -1 else if b<a then 1 else cmpL l m
def r32:bM:=⟨27,List Int×List Int,.cons (dY (.i .i64)) (.one (dY (.i .i64))),λa=>a.1.length<=1000000000000/\a.2.length<=1000000000000,λa=> .si .i64 (cmpL a.1 a.2)⟩
def aaN (a:List Int×List Int):Nat->cB
 |2=> .inv Int (λi=>⟨[(0,.row (.i .i64) a.1),(1,.row (.i .i64) a.2),(5,.si .i64 i)],[]⟩) (λs=>iS s 5)
  (λi=>0<=i/\i<=a.1.length/\i<=a.2.length/\cmpL a.1 a.2=cmpL (a.1.drop i.toNat) (a.2.drop i.toNat)) (λi=>(a.1.length - i).toNat) λ_ _=> .look
 |_=> .look
theorem h32:Holds Tryz.prog r32:=by
 refine cJ (L:=[]) r32 aaN (by simp) ?_;rintro⟨a,b⟩ ⟨w,u⟩;refine bQ (let d:=(0:Int);let h:=γy .i64;let j:=γb .i64;let k:=(-1:Int);let q:=γc (bn.i .i64) a;let n:=γc (bn.i .i64) b;let t:=h 0;let m:=(↑a.length:Int);let r:=(↑b.length:Int);let e:=(↑a.length:Int);let f:=(↑b.length:Int);let g:=j (cmpL a b);(((q.same q/\n.same n/\t.same (j 0)/\True)/\True)/\d<=d/\d<=m/\d<=r/\cmpL a b=cmpL a b)/\∀(x:Int),let o:=bj a x.toNat d;let p:=bj b x.toNat d;let c:=x+(1:Int);let l:=j c;d<=x/\x<=m/\x<=r/\cmpL a b=cmpL (γ8 x.toNat a) (γ8 x.toNat b)->(decide (x<e)=true->(decide (x<f)=true->d<=x/\x<e/\x.toNat<a.length/\d<=x/\x<f/\x.toNat<b.length/\(decide (o<p)=true->(h k).same g)/\(decide (o<p)=false->d<=x/\x<e/\x.toNat<a.length/\d<=x/\x<f/\x.toNat<b.length/\(decide (p<o)=true->(h 1).same g)/\(decide (p<o)=false->bY .i64 c/\((q.same q/\n.same n/\l.same l/\True)/\True)/\(d<=c/\c<=m/\c<=r/\cmpL a b=cmpL (γ8 c.toNat a) (γ8 c.toNat b))/\(m - c).toNat<(m - x).toNat)))/\(decide (x<f)=false->(decide (e<f)=true->(h k).same g)/\(decide (e<f)=false->(decide (f<e)=true->(h 1).same g)/\(decide (f<e)=false->t.same g))))/\(decide (x<e)=false->(decide (e<f)=true->(h k).same g)/\(decide (e<f)=false->(decide (f<e)=true->(h 1).same g)/\(decide (f<e)=false->t.same g)))) (by kernel_rfl) ?_;conv=>zeta
 simp only at w u;simp only[vcs];refine⟨⟨by omega,by omega,by omega⟩,?_⟩;rintro i ⟨j,v,z,h⟩;refine⟨λs=>⟨λk=>?_,λk=>?_⟩,λs=>?_⟩
 ·rw[sD (d:=0) j s,sD (d:=0) j k] at h;simp only[cmpL] at h;omega
 ·rw[sD (d:=0) j s,show i.toNat=b.length from by omega,εg] at h;grind[cmpL]
 ·rw[show i.toNat=a.length from by omega,εg] at h;refine⟨λk=>?_,λk=>⟨λy=>by omega,λy=>?_⟩⟩
  ·rw[<-γq a.length,sD (d:=0) (by omega) k] at h;exact h.symm
  ·rw[show a.length=b.length from by omega,εg] at h;exact h.symm
def dR (l:List bz):bz:=⟨(l.map bz.a0).sum,(l.map bz.a1).sum,(l.map bz.a2).sum,(l.map bz.a3).sum,(l.map bz.a4).sum,(l.map bz.a5).sum⟩
def bZ (p:bp) (l:List Int):List Off:=l.map λi=>bj p.offers i.toNat bn.off.dflt
def gw (p:bp) (L:List Off):Prop:=(L.map Off.bF).Nodup/\(dR (L.map Off.want)).le p.supply=true/\(dR (L.map (dx p))).le p.opn=true
instance (p:bp) (L:List Off):Decidable (gw p L):=by unfold gw;infer_instance
def lF (p:bp) (l:List Int):Bool:=decide (gw p (bZ p l))
def iy (a b:bz) (k:Int):bz:=⟨if 0<k then b.a0 else a.a0,if 1<k then b.a1 else a.a1,if 2<k then b.a2 else a.a2,if 3<k then b.a3 else a.a3,if 4<k then b.a4 else a.a4,if 5<k then b.a5 else a.a5⟩
def bz.add (a b:bz):bz:=⟨a.a0+b.a0,a.a1+b.a1,a.a2+b.a2,a.a3+b.a3,a.a4+b.a4,a.a5+b.a5⟩
theorem vG {l m:List bz}:dR (l++m)=(dR l).add (dR m):=by simp[dR,bz.add]
theorem rG {b:bz} {l:List bz}:dR (b::l)=b.add (dR l):=by simp[dR,bz.add]
def bz.bd (b:bz) (n:Int):Prop:=(0<=b.a0/\b.a0<=n)/\(0<=b.a1/\b.a1<=n)/\(0<=b.a2/\b.a2<=n)/\(0<=b.a3/\b.a3<=n)/\(0<=b.a4/\b.a4<=n)/\(0<=b.a5/\b.a5<=n)
theorem Ip:∀{l:List bz},(∀b∈l,b.ok=true)->(dR l).bd (4*l.length)
 |[],_=>by simp[dR,bz.bd];|b::l,h=>by
  have e:=bz.eT.1 (h b (by simp));have d:=@Ip l λc a=>h c (by simp[a]);rw[rG];simp only[bz.bd,bz.add,γz] at d ⊢;omega
theorem aaO {p:bp} {x:Off} (h:x.want.ok=true):(dx p x).ok=true:=by
 have a:=bz.eT.1 h;rw[bz.eT];simp only[dx,eM,oc];omega
theorem vH {p:bp} (b:Good p) {l:List Int} (h:∀i∈l,0<=i/\i<p.offers.length):∀x∈bZ p l,x∈p.offers:=by
 intro x a;obtain⟨i,c,rfl⟩:=γf.1 a;grind[cT]
def kh (p:bp) (i:Int):Int:=(bj p.offers i.toNat bn.off.dflt).value
def better (a b:Alloc):Alloc:=if b.value<a.value\/a.value=b.value/\cmpL a.chosen b.chosen<0 then a else b
def lG (p:bp):Nat->Int->Alloc->Alloc->Alloc
 |0,_,_,b=>b
 |k+1,i,a,b=>lG p k (i+1) a (if lF p (a.chosen++[i]) then lG p k (i+1) ⟨a.chosen++[i],a.value+kh p i⟩ (better ⟨a.chosen++[i],a.value+kh p i⟩ b) else b)
def Qk (p:bp) (i:Int):Nat:=(p.offers.length - i).toNat
def Ql (p:bp) (a:Alloc) (f:Int) (b:Alloc):Alloc:=lG p (Qk p f) f a (better a b)
def cE (p:bp):Alloc:=Ql p ⟨[],0⟩ 0 ⟨[],0⟩
def hasB (m b:Int):Bool:=decide (eQ.ry .i64 (m / 2^b.toNat) 1=1)
def qE (p:bp) (w:Int) (n:Nat):Int:=((χ n).map λi:Nat=>if(i:Int)≠w then(2:Int)^i else 0).sum
theorem aaP (p:bp) (w:Int) (n:Nat):qE p w (n+1)=qE p w n+if(n:Int)≠w then(2:Int)^n else 0:=by
 unfold qE;rw[List.range_succ,γd];simp
theorem Qm (p:bp) (w:Int):∀n:Nat,0<=qE p w n/\qE p w n<2^n
 |0=>by simp[qE];|n+1=>by
  have h:=Qm p w n;rw[aaP,Int.pow_succ];split<;>omega
def o8 (p:bp) (m:Int):bp:={p with offers:=p.offers.filter λx=>hasB m x.bF}
theorem Iq {p:bp} (h:Good p) (m:Int):Good (o8 p m):=by
 refine⟨h.1,?_,h.2.2.1,h.2.2.2.1,λx hx=>h.2.2.2.2 x (γi.1 hx).1⟩;have:=γB (λx:Off=>hasB m x.bF) p.offers;have:=h.2.1;simp only[o8];omega
def uf (p:bp) (m:Int):Int:=(cE (o8 p m)).value
theorem xN {p:bp} {c:List Int} (e:dp p c=0):bC p=0/\j9 p c=true/\Good p/\c.length<=160/\∀i∈c,0<=i/\i<p.offers.length:=by
 have b:bC p=0:=by
  unfold dp at e;omega
 have d:j9 p c=true:=by
  unfold dp at e;grind
 have f:=dF b;obtain⟨r,g⟩:=γw.1 d;obtain⟨h,a⟩:=Qi (by omega) g;refine⟨b,d,f,?_,a⟩;have k:=Dk (by omega) g;have j:=f.2.1;grind
def DD (p:bp):Int:=qE p (-1) p.classes.length
def DF (p:bp) (c:List Int):Int:=if dp p c≠0 then dp p c else if dI p c<uf p (DD p) then 13 else 0
theorem aaQ {p:bp} {c:List Int} (h:DF p c=0):dp p c=0:=by
 unfold DF at h;split at h;·rename_i h1;exact absurd h h1
 ·rename_i h1;exact Θ.1 h1
structure Is (p:bp) (fs:List Int) (l o:bz) (L:List Off):Prop where
 nd:(L.map Off.bF).Nodup
 mem:∀x∈L,x∈p.offers/\x.bF∈fs
 w:(dR (L.map Off.want)).le l=true
 o:(dR (L.map (dx p))).le o=true
theorem Qn {p:bp} {fs:List Int} {l o:bz}:∀{xs:List Off} {v:Int},v<=xs.foldl (kH p fs l o) v/\∀x∈xs,x.want.le l=true->(dx p x).le o=true->x.value+gJ p fs (l.sub x.want) (o.sub (dx p x))<=xs.foldl (kH p fs l o) v
 |[],v=>by simp;|y::xs,v=>by
  obtain⟨h1,h2⟩:=@Qn p fs l o xs (kH p fs l o v y);have hv:v<=kH p fs l o v y:=by
   unfold kH;split<;>omega
  refine⟨by simp only[δt];omega,λx hx hw ho=>?_⟩;simp only[δt];rcases γh.1 hx with rfl|hx
  ·have:x.value+gJ p fs (l.sub x.want) (o.sub (dx p x))<=kH p fs l o v x:=by
    unfold kH;rw[if_pos (by simp[hw,ho])];omega
   omega
  ·exact h2 x hx hw ho
theorem fold_at {p:bp} {fs:List Int} {l o:bz}:∀{xs:List Off} {v:Int},xs.foldl (kH p fs l o) v=v\/∃x∈xs,x.want.le l=true/\(dx p x).le o=true/\xs.foldl (kH p fs l o) v=x.value+gJ p fs (l.sub x.want) (o.sub (dx p x))
 |[],v=>by simp;|y::xs,v=>by
  simp only[δt];rcases @fold_at p fs l o xs (kH p fs l o v y) with h|⟨x,hx,h1,h2,h3⟩
  ·rw[h];unfold kH;split
   ·rename_i hc;simp only[ζ] at hc;by_cases hm:v<=y.value+gJ p fs (l.sub y.want) (o.sub (dx p y));·exact .inr ⟨y,by simp,hc.1,hc.2,by omega⟩
    ·left;omega
   ·exact .inl rfl
  ·exact .inr ⟨x,by simp[hx],h1,h2,h3⟩
theorem aaR {x:bz} {s t:List bz}:dR (s++x::t)=x.add (dR (s++t)):=by
 rw[vG,vG,rG];simp only[bz.add,bz.mk.injEq];omega
theorem aaS {x:Off} {s t:List Off}:bV (s++x::t)=x.value+bV (s++t):=by
 rw[o7,o7];simp only[bV];omega
theorem Iu {p:bp} (c:Good p) {L:List Off} (h:∀x∈L,x∈p.offers):(dR (L.map Off.want)).bd (4*L.length)/\(dR (L.map (dx p))).bd (4*L.length):=by
 have e:∀x∈L,x.want.ok=true:=λx d=>(c.2.2.2.2 x (h x d)).2.2.1;have a:=@Ip (L.map Off.want) (λb f=>by grind);grind[Ip,aaO]
theorem zQ {p:bp} (hg:Good p):∀{fs:List Int} {l o:bz} {L:List Off},Is p fs l o L->bV L<=gJ p fs l o
 |[],l,o,L,h=>by
  have:L=[]:=by
   cases L with
   |nil=>rfl;|cons x L=>exact absurd (h.mem x (by simp)).2 (by simp)
  subst this;simp[bV,gJ];|f::fs,l,o,L,h=>by
  obtain⟨g1,g2⟩:=@Qn p fs l o (ja p f) (gJ p fs l o);have hval:gJ p (f::fs) l o=(ja p f).foldl (kH p fs l o) (gJ p fs l o):=rfl;rw[hval];by_cases hx:∃x∈L,x.bF=f
  ·obtain⟨x,hx,hf⟩:=hx;obtain⟨s,t,rfl⟩:=List.append_of_mem hx;obtain⟨nd,mem,w,o'⟩:=h;have hmx:=mem x hx;have hst:∀y∈s++t,y∈p.offers:=λy hy=>(mem y (by simp only[π,γh] at hy ⊢;rcases hy with h|h<;>simp[h])).1;obtain⟨b1,b2⟩:=Iu hg hst;rw[γd,θ,aaR,bz.le_iff,<-γd] at w o';simp only[bz.add,bz.bd] at w o' b1 b2;have hw:x.want.le l=true:=by rw[bz.le_iff];omega
   have ho:(dx p x).le o=true:=by rw[bz.le_iff];omega
   have hg2:=g2 x (γi.2 ⟨hmx.1,by simp[hf]⟩) hw ho;rw[γd,θ,γt] at nd;have hne:∀y∈s++t,y.bF≠f:=λy hy=>by
    rw[<-hf];rcases π.1 hy with hy|hy;·exact nd.2.2 _ (γL hy) _ (by simp)
    ·intro e;have:=(γx.1 nd.2.1).1;exact this (e▸γL hy)
   have hrec:bV (s++t)<=gJ p fs (l.sub x.want) (o.sub (dx p x)):=zQ hg
    {nd:=by
      rw[γd,γt];exact⟨nd.1,(γx.1 nd.2.1).2,λa ha b hb=>nd.2.2 a ha b (by simp[hb])⟩
     mem:=λy hy=>by
      have h1:=mem y (by simp only[π,γh] at hy ⊢;rcases hy with h|h<;>simp[h]);refine⟨h1.1,?_⟩;rcases γh.1 h1.2 with h2|h2;·exact absurd h2 (hne y hy)
      ·exact h2
     w:=by rw[bz.le_iff];simp only[bz.sub];omega
     o:=by rw[bz.le_iff];simp only[bz.sub];omega};rw[aaS];omega
  ·have:=zQ hg (fs:=fs) (l:=l) (o:=o) (L:=L) ⟨h.nd,λy hy=>by
    have h1:=h.mem y hy;refine⟨h1.1,?_⟩;rcases γh.1 h1.2 with h2|h2;·exact absurd ⟨y,hy,h2⟩ hx
    ·exact h2,h.w,h.o⟩;omega
theorem zR {p:bp} (hg:Good p):∀{fs:List Int} {l o:bz},fs.Nodup->bz.zero.le l=true->bz.zero.le o=true->∃L,Is p fs l o L/\bV L=gJ p fs l o
 |[],l,o,_,hl,ho=>⟨[],⟨by simp,by simp,hl,ho⟩,rfl⟩
 |f::fs,l,o,hn,hl,ho=>by
  have hn2:=γx.1 hn;have hval:gJ p (f::fs) l o=(ja p f).foldl (kH p fs l o) (gJ p fs l o):=rfl;rw[hval];rcases @fold_at p fs l o (ja p f) (gJ p fs l o) with h|⟨x,hx,h1,h2,h3⟩
  ·rw[h];obtain⟨L,hL,hv⟩:=zR hg (l:=l) (o:=o) hn2.2 hl ho;exact⟨L,⟨hL.nd,λy hy=>⟨(hL.mem y hy).1,by simp[(hL.mem y hy).2]⟩,hL.w,hL.o⟩,hv⟩
  ·rw[h3];have w1:=bz.le_iff.1 h1;have w2:=bz.le_iff.1 h2;obtain⟨L,hL,hv⟩:=zR hg (l:=l.sub x.want) (o:=o.sub (dx p x)) hn2.2 (by rw[bz.le_iff];simp only[bz.zero,bz.sub];omega) (by rw[bz.le_iff];simp only[bz.zero,bz.sub];omega);have hx2:=γi.1 hx;have xO:x.bF=f:=by simpa using hx2.2
   refine⟨x::L,⟨?_,?_,?_,?_⟩,by simp only[bV,hv]⟩
   ·rw[θ,γx];refine⟨λhm=>?_,hL.nd⟩;obtain⟨y,hy,he⟩:=γf.1 hm;exact hn2.1 (by rw[<-xO,<-he];exact(hL.mem y hy).2)
   ·intro y hy;rcases γh.1 hy with rfl|hy;·exact⟨hx2.1,by simp[xO]⟩
    ·exact⟨(hL.mem y hy).1,by simp[(hL.mem y hy).2]⟩
   ·have:=bz.le_iff.1 hL.w;rw[θ,rG,bz.le_iff];simp only[bz.add,bz.sub] at this ⊢;omega
   ·have:=bz.le_iff.1 hL.o;rw[θ,rG,bz.le_iff];simp only[bz.add,bz.sub] at this ⊢;omega
theorem rH {p:bp} {l m:List Int}:bZ p (l++m)=bZ p l++bZ p m:=by simp[bZ]
theorem qF {p:bp} {i:Int} {l:List Int}:bZ p (i::l)=bj p.offers i.toNat bn.off.dflt::bZ p l:=rfl
def zS (p:bp) (l:List Int):Prop:=∀i∈l,0<=i/\i<p.offers.length
theorem DG {p:bp} (f:Good p) {L M:List Off} (c:∀x∈M,x∈p.offers) (h:gw p (L++M)):gw p L:=by
 obtain⟨e,d⟩:=Iu f c;obtain⟨g,a,b⟩:=h;rw[γd,vG,bz.le_iff] at a b;simp only[bz.add,bz.bd] at a b e d;refine⟨?_,?_,?_⟩<;>grind[bz.le_iff]
theorem Qo {p:bp} (a:Good p) {l m:List Int} (b:zS p m) (h:lF p (l++m)=true):lF p l=true:=by
 unfold lF at h ⊢;have h:=of_decide_eq_true h;rw[rH] at h;exact decide_eq_true (DG a (vH a b) h)
def kJ (i:Int) (k:Nat) (t:List Int):Prop:=t.Pairwise (·<·)/\∀j∈t,i<=j/\j<i+k
theorem Qp {a b:Alloc}:a.value<=(better a b).value/\b.value<=(better a b).value:=by
 grind[better]
theorem Qq {a b:Alloc}:better a b=a\/better a b=b:=by
 grind[better]
theorem zT {p:bp}:∀{k:Nat} {i:Int} {a b:Alloc},b.value<=(lG p k i a b).value
 |0,_,_,b=>by simp[lG];|k+1,i,a,b=>by
  simp only[lG];refine εF ?_ zT;split;·exact εF Qp.2 zT
  ·omega
theorem Iw {p:bp} (h:Good p):∀{k:Nat} {i:Int} {a b:Alloc} {t:List Int},0<=i->i+k<=p.offers.length->t≠[]->kJ i k t->lF p (a.chosen++t)=true->a.value+bV (bZ p t)<=(lG p k i a b).value
 |0,i,a,b,t,_,_,u,c,_=>by
  cases t with
  |nil=>simp_all;|cons j t=>
   have:=c.2 j (by simp);omega
 |k+1,i,a,b,t,w,x,u,c,s=>by
  cases t with
  |nil=>simp_all;|cons j t=>
   have v:=c.2 j (by simp);have q:=γv.1 c.1;simp only[lG];by_cases l:j=i
   ·subst l;have d:zS p t:=λm e=>by
     have:=c.2 m (by simp[e]);omega
    have f:lF p (a.chosen++[j]++t)=true:=by simp_all
    have g:lF p (a.chosen++[j])=true:=Qo h d f;rw[if_pos g];refine εF ?_ zT;rw[qF];simp only[bV];cases t with
    |nil=>
     refine εF ?_ zT;refine εF ?_ Qp.1;simp[bV,bZ,kh];|cons o n=>
     have:=Iw h (k:=k) (i:=j+1) (a:=⟨a.chosen++[j],a.value+kh p j⟩) (b:=better ⟨a.chosen++[j],a.value+kh p j⟩ b) (t:=o::n) (by omega) (by omega) (by simp) ⟨q.2,λm e=>by
      have r:=c.2 m (List.mem_cons_of_mem _ e);grind⟩ f;grind[kh]
   ·exact Iw h (by omega) (by omega) (by simp) ⟨c.1,λm e=>by
     have r:=c.2 m e;grind⟩ s
theorem Ix {p:bp} (g:Good p):∀{k:Nat} {i:Int} {a b:Alloc},lG p k i a b=b\/∃t,t≠[]/\kJ i k t/\lF p (a.chosen++t)=true/\lG p k i a b=⟨a.chosen++t,a.value+bV (bZ p t)⟩
 |0,i,a,b=> .inl rfl
 |k+1,i,a,b=>by
  have l:∀{t:List Int},kJ (i+1) k t->kJ i (k+1) t:=λh=>⟨h.1,λj c=>by have:=h.2 j c;omega⟩;simp only[lG];rcases @Ix p g k (i+1) a (if lF p (a.chosen++[i]) then lG p k (i+1) ⟨a.chosen++[i],a.value+kh p i⟩ (better ⟨a.chosen++[i],a.value+kh p i⟩ b) else b) with h|⟨t,m,d,n,o⟩
  ·rw[h];split
   ·rename_i q;have e:(⟨a.chosen++[i],a.value+kh p i⟩:Alloc)=⟨a.chosen++[i],a.value+bV (bZ p [i])⟩:=by simp[bV,bZ,kh]
    have f:kJ i (k+1) [i]:=⟨by simp,λj c=>by grind⟩;rcases @Ix p g k (i+1) ⟨a.chosen++[i],a.value+kh p i⟩ (better ⟨a.chosen++[i],a.value+kh p i⟩ b) with h|⟨t,m,d,n,o⟩;·grind[Qq]
    ·refine .inr ⟨i::t,by simp,⟨γv.2 ⟨λj c=>by have:=d.2 j c;omega,d.1⟩,λj c=>?_⟩,by simp_all,?_⟩
     ·rcases γh.1 c with rfl|c;·omega
      ·have:=d.2 j c;omega
     grind[qF,bV,kh]
   simp_all
  grind
theorem Iy {p:bp}:cE p=lG p p.offers.length 0 ⟨[],0⟩ ⟨[],0⟩:=by
 grind[Qk,cE,Ql,Qq]
theorem Iz {p:bp} (f:Good p) {t:List Int} (e:kJ 0 p.offers.length t) (d:lF p t=true):bV (bZ p t)<=(cE p).value:=by
 rw[Iy];by_cases c:t=[]
 ·subst c;exact zT
 ·have:=Iw f (k:=p.offers.length) (i:=0) (a:=⟨[],0⟩) (b:=⟨[],0⟩) (t:=t) (by omega) (by omega) c e d;simp_all
theorem Qr {p:bp} (a:Good p):lF p []=true:=by
 have b:=bz.eT.1 a.2.2.1;have c:=bz.eT.1 a.2.2.2.1;unfold lF;refine decide_eq_true ⟨by simp[bZ],?_,?_⟩;all_goals simp_all[bz.le_iff,bZ,dR]
theorem IA {p:bp} (a:Good p):∃t,kJ 0 p.offers.length t/\lF p t=true/\cE p=⟨t,bV (bZ p t)⟩:=by
 rw[Iy];rcases @Ix p a p.offers.length 0 ⟨[],0⟩ ⟨[],0⟩ with h|⟨t,b,e,c,d⟩;·exact⟨[],⟨by simp,by simp⟩,Qr a,by rw[h];rfl⟩
 grind
def Qs:Bool:=(χ 256).all λm=>[0,1,2,3,4,5,6,7].all λb:Int=>hasB m b==decide (b∈fb m)
theorem aaT:Qs=true:=by kernel_rfl
theorem IB {m b:Int} (h0:0<=m) (h1:m<256) (h2:0<=b) (h3:b<8):hasB m b=decide (b∈fb m):=by
 have h:=aaT;simp only[Qs,Φ,γP] at h;have h:=h m.toNat (by omega) b (by
  have:b=0\/b=1\/b=2\/b=3\/b=4\/b=5\/b=6\/b=7:=by omega
  rcases this with rfl|rfl|rfl|rfl|rfl|rfl|rfl|rfl<;>simp);rw[show((m.toNat:Nat):Int)=m by omega] at h;simpa using h
theorem zU {p:bp} {t:List Int} (h:kJ 0 p.offers.length t):zS p t:=λj hj=>by
 have:=h.2 j hj;omega
theorem aaU {p:bp} (hg:Good p) {m:Int} (h0:0<=m) (h1:m<256):uf p m<=gJ p (fb m) p.supply p.opn:=by
 obtain⟨t,ht,hr,he⟩:=IA (Iq hg m);unfold uf;rw[he];have hF:=of_decide_eq_true hr;refine zQ hg ⟨hF.1,λx hx=>?_,hF.2.1,hF.2.2⟩;have hxm:=vH (Iq hg m) (zU ht) x hx;have xO:=γi.1 hxm;have hb:=hg.2.2.2.2 x xO.1;have h8:=hg.1;refine⟨xO.1,?_⟩;have:=IB h0 h1 hb.1 (by omega);rw[xO.2] at this;exact of_decide_eq_true this.symm
theorem xQ {L M:List Off} (h:L.Perm M):bV L=bV M:=by
 induction h with
 |nil=>rfl;|cons x _ ih=>simp only[bV];omega;|swap x y l=>simp only[bV];omega;|trans _ _ a b=>omega
theorem DI {L M:List bz} (h:L.Perm M):dR L=dR M:=by
 induction h with
 |nil=>rfl;|cons x _ ih=>rw[rG,rG,ih];|swap x y l=>
  simp only[rG,bz.add,bz.mk.injEq];omega;|trans _ _ a b=>rw[a,b]
theorem zV {p:bp} {L M:List Off} (h:L.Perm M) (hF:gw p L):gw p M:=by
 obtain⟨h1,h2,h3⟩:=hF;refine⟨((h.map _).nodup_iff).1 h1,?_,?_⟩;·rw[<-DI (h.map _)];exact h2
 ·rw[<-DI (h.map _)];exact h3
theorem DJ (q:Off->Bool):∀(O pre:List Off),∃t:List Int,t.Pairwise (·<·)/\(∀j∈t,(pre.length:Int)<=j/\j<pre.length+O.length)/\(t.map λj=>bj (pre++O) j.toNat bn.off.dflt)=O.filter q
 |[],pre=>⟨[],by simp,by simp,by simp⟩
 |x::O,pre=>by
  obtain⟨t,h1,h2,h3⟩:=DJ q O (pre++[x]);have e:pre++[x]++O=pre++x::O:=by simp
  rw[e] at h3;have hl:((pre++[x]).length:Int)=pre.length+1:=by simp
  have hr:∀j∈t,(pre.length:Int)+1<=j/\j<pre.length+1+O.length:=λj hj=>by
   have:=h2 j hj;omega
  by_cases hq:q x=true
  ·refine⟨(pre.length:Int)::t,γv.2 ⟨λj hj=>by have:=hr j hj;omega,h1⟩,λj hj=>?_,?_⟩
   ·simp only[γz];rcases γh.1 hj with rfl|hj;·omega
    ·have:=hr j hj;omega
   ·rw[θ,h3,γ0,if_pos hq];congr 1;rw[cO (by simp)];simp
  ·refine⟨t,h1,λj hj=>?_,?_⟩
   ·have:=hr j hj;simp only[γz];omega
   ·rw[h3,γ0,if_neg hq]
theorem IC {p:bp}:∀{l:List Off} {seen:List lY},eJ p seen l=0->(l.map Off.key).Nodup/\∀x∈l,x.key∉seen
 |[],_,_=>by simp;|o::r,seen,h=>by
  simp only[eJ] at h;split at h;·rename_i h1;exact absurd h h1
  ·split at h;·cases h
   ·rename_i h1 h2;obtain⟨k1,k2⟩:=IC h;refine⟨?_,λx hx=>?_⟩
    ·rw[θ,γx];refine⟨λhm=>?_,k1⟩;obtain⟨y,hy,he⟩:=γf.1 hm;exact k2 y hy (by simp[he])
    ·rcases γh.1 hx with rfl|hx;·exact h2
     ·exact λhm=>k2 x hx (by simp[hm])
theorem zW {α β:Type} (f:α->β):∀{l:List α},(l.map f).Nodup->l.Nodup
 |[],_=>by simp;|x::l,h=>by
  rw[θ,γx] at h;exact γx.2 ⟨λhm=>h.1 (γL hm),zW f h.2⟩
theorem xR {p:bp} (h:bC p=0):p.offers.Nodup:=by
 unfold bC at h;split at h;·rename_i h1;exact absurd h h1
 ·exact zW _ (IC h).1
theorem IE (m:Int):(fb m).Nodup:=by
 unfold fb;exact ζd δe (by decide)
theorem aaV {p:bp} (hc:bC p=0) {m:Int} (h0:0<=m) (h1:m<256):gJ p (fb m) p.supply p.opn<=uf p m:=by
 have hg:=dF hc;have q1:=bz.eT.1 hg.2.2.1;have q2:=bz.eT.1 hg.2.2.2.1;obtain⟨L,hL,hv⟩:=zR hg (IE m) (l:=p.supply) (o:=p.opn) (by rw[bz.le_iff];simp only[bz.zero];omega) (by rw[bz.le_iff];simp only[bz.zero];omega);obtain⟨t,t1,t2,t3⟩:=DJ (λx=>decide (x∈L)) (o8 p m).offers [];have t4:bZ (o8 p m) t=(o8 p m).offers.filter λx=>decide (x∈L):=t3;have hLm:∀x∈L,x∈(o8 p m).offers:=λx hx=>by
  have hx1:=hL.mem x hx;have hb:=hg.2.2.2.2 x hx1.1;have h8:=hg.1;refine γi.2 ⟨hx1.1,?_⟩;rw[IB h0 h1 hb.1 (by omega)];exact decide_eq_true hx1.2
 have hnd:((o8 p m).offers.filter λx=>decide (x∈L)).Nodup:=ζd (List.Sublist.trans δe δe) (xR hc);have hperm:L.Perm (bZ (o8 p m) t):=by
  rw[t4];refine(List.perm_ext_iff_of_nodup (zW _ hL.nd) hnd).2 λx=>?_;rw[γi,decide_eq_true_eq];exact⟨λhx=>⟨hLm x hx,hx⟩,λhx=>hx.2⟩
 have hF:gw (o8 p m) L:=⟨hL.nd,hL.w,hL.o⟩;have hr:lF (o8 p m) t=true:=decide_eq_true (zV hperm hF);have:=Iz (Iq hg m) ⟨t1,λj hj=>by have:=t2 j hj;simp only[List.length_nil] at this;omega⟩ hr;rw[<-xQ hperm,hv] at this;exact this
theorem aaX {p:bp} (hc:bC p=0) {m:Int} (h0:0<=m) (h1:m<256):uf p m=gJ p (fb m) p.supply p.opn:=by
 have a:=aaU (dF hc) h0 h1;have b:=aaV hc h0 h1;omega
theorem aaY {p:bp} (hc:bC p=0) {m:Int} (h0:0<=m) (h1:m<2^p.classes.length):jM p m=uf p m:=by
 have hf:gv p m=0:=by
  unfold gv;rw[if_neg (by simp[hc]),if_neg (by omega)]
 have h2:=sE (dF hc).1;unfold jM;rw[if_pos hf,aaX hc h0 (by omega)];rfl
def IG:Bool:=(χ 9).all λn=>decide (qE bp.zero (-1) n=2^n - 1)&&(χ n).all λb=>decide (qE bp.zero b n=ln (2^n - 1) b)
theorem Qu:IG=true:=by kernel_rfl
theorem Qv {p:bp} (h:p.classes.length<=8):qE p (-1) p.classes.length=allM p:=by
 have hk:=Qu;simp only[IG,Φ,γP,ζ,decide_eq_true_eq] at hk;exact(hk p.classes.length (by omega)).1
theorem aaZ {p:bp} (h:p.classes.length<=8) {b:Int} (h0:0<=b) (h1:b<p.classes.length):qE p b p.classes.length=ln (allM p) b:=by
 have hk:=Qu;simp only[IG,Φ,γP,ζ,decide_eq_true_eq] at hk;have:=(hk p.classes.length (by omega)).2 b.toNat (by omega);rw[show((b.toNat:Nat):Int)=b by omega] at this;exact this
theorem Qw {p:bp} (hc:bC p=0):jM p (allM p)=uf p (DD p):=by
 have hg:=dF hc;have h2:=sE hg.1;unfold DD;rw[Qv hg.1];exact aaY hc (by unfold allM;omega) (by unfold allM;omega)
theorem DK {p:bp}:∀{c:List Int} {s:Int},c.foldl (Ih p) s=s+bV (bZ p c)
 |[],s=>by simp[bZ,bV];|i::c,s=>by
  rw[δt,DK,qF];simp only[bV,Ih];omega
theorem DL {p:bp}:∀{c:List Int} {a:Int} {r:List Off},fW p.offers a c=some r->r=bZ p c
 |[],a,r,h=>by simp[fW] at h;subst h;rfl;|i::c,a,r,h=>by
  simp only[fW] at h;split at h;·cases h
  ·obtain⟨d,b,rfl⟩:=δ.1 h;rw[DL b,qF]
theorem Qx {p:bp} {c:List Int} (hz:dp p c=0):dI p c=vF p c:=by
 obtain⟨q1,q2,hg,q4,q5⟩:=xN hz;obtain⟨r,hr⟩:=γw.1 q2;unfold dI vF;rw[if_pos q1,DK];simp only[eE,hr,γ7,DL hr];omega
theorem aa0 {p:bp} {c:List Int}:DC p c=DF p c:=by
 unfold DC DF;by_cases hz:dp p c=0;·simp only[hz,ne_eq,not_true,if_false,Qx hz,Qw (xN hz).1]
 ·rw[if_pos hz,if_pos hz]
theorem Qy {p:bp} {x:Off} (b:0<=x.bF) (a:x.bF<p.classes.length):eU p x.bF x=1:=by
 unfold eU;omega
theorem sum_cons {p:bp} {x:Off} {L:List Off} {r:Int}:cQ p (x::L) r=eU p r x+cQ p L r:=by simp[cQ]
theorem Qz {p:bp} {r:Int}:∀{L:List Off},(∀x∈L,x.want.ok=true)->(∃x∈L,x.bF=r/\0<=r/\r<p.classes.length)->1<=cQ p L r
 |[],_,h=>by simp_all;|y::L,a,⟨x,c,e,f,d⟩=>by
  have g:=@rF p r y (a y (by simp));have i:=@ua p r L λz b=>a z (by simp[b]);rw[sum_cons];rcases γh.1 c with rfl|c;·grind[Qy]
  ·have:=@Qz p r L (λz b=>a z (by simp[b])) ⟨x,c,e,f,d⟩;omega
theorem QA {p:bp}:∀{L:List Off},(∀x∈L,x.want.ok=true/\0<=x.bF/\x.bF<p.classes.length)->(∀r:Int,0<=r->r<p.classes.length->cQ p L r<=1)->(L.map Off.bF).Nodup
 |[],_,_=>by simp;|x::L,e,f=>by
  have a:=e x (by simp);rw[θ,γx];have d:∀r:Int,0<=r->r<p.classes.length->cQ p L r<=1:=λr j b=>by
   have:=f r j b;have:=@rF p r x a.1;grind[sum_cons]
  refine⟨λg=>?_,QA (λy c=>e y (by simp[c])) d⟩;obtain⟨y,c,h⟩:=γf.1 g;have b:=f x.bF a.2.1 a.2.2;have k:=@Qz p x.bF L (λz i=>(e z (by simp[i])).1) ⟨y,c,h,a.2.1,a.2.2⟩;rw[sum_cons,Qy a.2.1 a.2.2] at b;omega
theorem aa1 {p:bp} {c:List Int} (e:dp p c=0):((bZ p c).map Off.bF).Nodup:=by
 obtain⟨j,f,a,m,h⟩:=xN e;obtain⟨r,l⟩:=γw.1 f;have n:eE p c=bZ p c:=by grind[eE,DL]
 have d:fF p (bZ p c)=true:=by
  simp_all[dp]
 refine QA (p:=p) (λx g=>?_) λr o i=>?_
 ·have:=a.2.2.2.2 x (vH a h x g);simp_all
 ·have b:=o6.1 d r.toNat (by grind[dj]);rw[show((r.toNat:Nat):Int)=r by omega] at b;have k:dD p r=1:=by unfold dD;omega
  omega
def bz.at (b:bz) (k:Nat):Int:=bj [b.a0,b.a1,b.a2,b.a3,b.a4,b.a5] k 0
theorem DN {a b:bz} (h:a.le b=true) (k:Nat):a.at k<=b.at k:=by
 grind[bz.le_iff,bz.at,bj]
theorem mU (k:Nat):∀(l:List bz),(dR l).at k=(l.map λb=>b.at k).sum:=by
 intro l;unfold bz.at dR;match k with
 |0|1|2|3|4|5=>simp only[bj,List.getElem?_cons_zero,γO,γ7];|k+6=>
  simp only[bj,γO,List.getElem?_nil,Option.getD_none];induction l<;>grind
theorem QB {p:bp} {x:Off} {k:Nat} (a:k<6):eU p (p.classes.length+k) x=x.want.at k:=by
 unfold eU;rw[if_neg (by omega),if_pos (by omega),show((p.classes.length:Int)+k - p.classes.length).toNat=k by omega];rfl
theorem QC {p:bp} {x:Off} {k:Nat} (a:k<6):eU p (p.classes.length+6+k) x=(dx p x).at k:=by
 unfold eU;rw[if_neg (by omega),if_neg (by omega),show((p.classes.length:Int)+6+k - p.classes.length - 6).toNat=k by omega];have:k=0\/k=1\/k=2\/k=3\/k=4\/k=5:=by omega
 rcases this with rfl|rfl|rfl|rfl|rfl|rfl<;>simp[dx,eM,oc,fy,bz.at,bj]
theorem QE {p:bp} {k:Nat} (a:k<6):dD p (p.classes.length+k)=p.supply.at k:=by
 unfold dD;rw[if_neg (by omega),if_pos (by omega),show((p.classes.length:Int)+k - p.classes.length).toNat=k by omega];rfl
theorem QF {p:bp} {k:Nat} (a:k<6):dD p (p.classes.length+6+k)=p.opn.at k:=by
 unfold dD;rw[if_neg (by omega),if_neg (by omega),show((p.classes.length:Int)+6+k - p.classes.length - 6).toNat=k by omega];rfl
theorem QG {p:bp} {r:Int} (a:0<=r) (b:r<p.classes.length):∀{L:List Off},(L.map Off.bF).Nodup->cQ p L r<=1/\(r∉L.map Off.bF->cQ p L r=0)
 |[],_=>by simp[cQ];|x::L,h=>by
  rw[θ,γx] at h;obtain⟨d,e⟩:=QG a b h.2;have c:eU p r x=if x.bF=r then 1 else 0:=by unfold eU;omega
  rw[sum_cons,c];grind
theorem II {p:bp} {L:List Off} (h:gw p L):fF p L=true:=by
 obtain⟨j,i,f⟩:=h;refine o6.2 λr g=>?_;unfold dj at g;by_cases l:r<p.classes.length
 ·have:=(QG (p:=p) (r:=r) (by omega) (by omega) j).1;have d:dD p r=1:=by unfold dD;omega
  omega
 by_cases d:r<p.classes.length+6
 ·obtain⟨k,rfl⟩:∃k:Nat,r=p.classes.length+k:=⟨r - p.classes.length,by omega⟩;have c:k<6:=by omega
  have e:(((p.classes.length+k:Nat)):Int)=p.classes.length+k:=by omega
  rw[e,QE c];have a:=DN i k;rw[mU,δr] at a;have:cQ p L (p.classes.length+k)=(L.map ((λb=>bz.at b k)∘Off.want)).sum:=by
   unfold cQ;congr 1;simp_all[QB]
  omega
 ·obtain⟨k,rfl⟩:∃k:Nat,r=p.classes.length+6+k:=⟨r - p.classes.length - 6,by omega⟩;have c:k<6:=by omega
  have e:(((p.classes.length+6+k:Nat)):Int)=p.classes.length+6+k:=by omega
  rw[e,QF c];have a:=DN f k;rw[mU,δr] at a;have:cQ p L (p.classes.length+6+k)=(L.map ((λb=>bz.at b k)∘dx p)).sum:=by
   unfold cQ;congr 1;simp_all[QC]
  omega
theorem QH {l:List Off}:∀{t:List Int} {a:Int},t.Pairwise (·<·)->(∀j∈t,a<j/\j<l.length)->fW l a t=some (t.map λi=>bj l i.toNat bn.off.dflt)
 |[],_,_,_=>rfl
 |i::t,a,h,d=>by
  have e:=d i (by simp);have c:=γv.1 h;unfold fW;rw[if_neg (by omega),QH c.2 λj b=>⟨c.1 j b,(d j (by simp[b])).2⟩];rfl
theorem QI {p:bp} (e:bC p=0) {t:List Int} (a:kJ 0 p.offers.length t) (c:gw p (bZ p t)):dp p t=0:=by
 have d:fW p.offers (-1) t=some (bZ p t):=QH a.1 λj b=>by have:=a.2 j b;omega
 simp_all[dp,j9,eE,II]
def QJ:Bool:=(χ 9).all λn=>(χ n).all λb=>hasB (2^n - 1) b
theorem aa2:QJ=true:=by kernel_rfl
theorem QK {p:bp} (hg:Good p) {b:Int} (h0:0<=b) (h1:b<p.classes.length):hasB (allM p) b=true:=by
 have h:=aa2;simp only[QJ,Φ,γP] at h;have:=h p.classes.length (by have:=hg.1;omega) b.toNat (by omega);rwa [show((b.toNat:Nat):Int)=b by omega] at this
theorem aa3 {p:bp} (hg:Good p):o8 p (allM p)=p:=by
 unfold o8;rw[List.filter_eq_self.2 λx hx=>QK hg (hg.2.2.2.2 x hx).1 (hg.2.2.2.2 x hx).2.1]
theorem DO {p:bp} (hc:bC p=0):jM p (allM p)=(cE p).value:=by
 have hg:=dF hc;rw[Qw hc];unfold DD uf;rw[Qv hg.1,aa3 hg]
theorem IJ {p:bp} (hc:bC p=0):DC p (cE p).chosen=0/\gw p (bZ p (cE p).chosen)/\kJ 0 p.offers.length (cE p).chosen/\(cE p).value=bV (bZ p (cE p).chosen):=by
 have hg:=dF hc;obtain⟨t,ht,hr,he⟩:=IA hg;have hF:gw p (bZ p t):=of_decide_eq_true hr;have hz:=QI hc ht hF;have h1:=DO hc;rw[he] at h1 ⊢;refine⟨?_,hF,ht,rfl⟩;unfold DC;have:vF p t=bV (bZ p t):=by unfold vF;rw[DK];omega
 rw[if_neg (by simp[hz]),if_neg (show ¬vF p t<jM p (allM p) by simp only at h1;omega)]
theorem QL {p:bp} (hg:Good p) {x:Int} (hx0:0<=x) (hx1:x<p.classes.length):x∈fb (allM p):=by
 have h8:=hg.1;have h2:=sE h8;have:=IB (m:=allM p) (b:=x) (by unfold allM;omega) (by unfold allM;omega) hx0 (by omega);rw[QK hg hx0 hx1] at this;exact of_decide_eq_true this.symm
theorem QM {p:bp} (hc:bC p=0) {m:Int} (h0:0<=m) (h1:m<2^p.classes.length):jM p m=gJ p (fb m) p.supply p.opn:=by
 unfold jM;rw[if_pos];·rfl
 ·unfold gv;rw[if_neg (by simp[hc]),if_neg (by omega)]
theorem aa4 {p:bp} (hg:Good p) {b:Int} (h0:0<=b) (h1:b<p.classes.length):0<=ln (allM p) b/\ln (allM p) b<2^p.classes.length:=by
 rw[<-aaZ hg.1 h0 h1];exact Qm p b p.classes.length
def zY:bM:=⟨74,bp,.one cZ,λp=>p.classes.length<=8,λp=> .si .i64 (allM p)⟩
theorem h76:Holds Tryz.prog zY:=by
 refine cJ (L:=[]) zY lk (by simp) ?_;intro(p:bp) (hp:p.classes.length<=8);refine bQ (let a:=(1:Int);let b:=(↑p.classes.length:Int);let c:=a*(2:Int)^b.toNat;(0:Int)<=b/\b<=(64:Int)/\bY .i64 c/\bY .i64 (c - a)/\(γb .i64 (c - a)).same (γb .i64 (allM p))) (by kernel_rfl) ?_;simp only[vcs];have:=sE hp;simp only[δU,γq,allM];repeat' (first|refine γj ?_ ?_|intro _)
 all_goals first|omega|trivial|rfl
def ez (p:bp) (k:Int):bp:={p with offers:=p.offers.take k.toNat++p.offers.drop (k+1).toNat}
def DR:bM:=⟨77,bp×Int,.cons cZ (.one (dU .i64)),λa=>a.1.offers.length<=160/\0<=a.2/\a.2<a.1.offers.length,λa=>cZ.put (ez a.1 a.2)⟩
theorem h74:Holds Tryz.prog DR:=by
 refine cJ (L:=[]) DR lk (by simp) ?_;rintro⟨p,k⟩ ⟨hp,h0,h1⟩;simp only at hp h0 h1;refine bQ (let a:=γb .i64;let b:=γc;let c:=(0:Int);let d:=γK;let r:=a p.supply.a0;let s:=a p.supply.a1;let t:=a p.supply.a2;let v:=a p.supply.a3;let w:=a p.supply.a4;let x:=a p.supply.a5;let y:=a p.opn.a0;let z:=a p.opn.a1;let A:=a p.opn.a2;let B:=a p.opn.a3;let C:=a p.opn.a4;let D:=a p.opn.a5;let E:=a p.cls.a0;let F:=a p.cls.a1;let G:=a p.cls.a2;let H:=a p.cls.a3;let I:=a p.cls.a4;let J:=a p.cls.a5;let o:=bn.i .i64;let K:=b o p.classes;let h:=(ez p k).supply;let j:=(ez p k).opn;let l:=(ez p k).cls;let L:=d [a h.a0,a h.a1,a h.a2,a h.a3,a h.a4,a h.a5,a j.a0,a j.a1,a j.a2,a j.a3,a j.a4,a j.a5,a l.a0,a l.a1,a l.a2,a l.a3,a l.a4,a l.a5,b o (ez p k).classes,b bn.off (ez p k).offers];let e:=p.offers.length;let q:=γe (k.toNat - 0) p.offers;let g:=q.length;let f:=k+(1:Int);let n:=γe (e - f.toNat) (γ8 f.toNat p.offers);let m:=n.length;let M:=λ(u u_1:Nat) (u_2:SV) ↦u*64<=140737488355328/\u<=1000000000000/\u_1=u_1/\(d [r,s,t,v,w,x,y,z,A,B,C,D,E,F,G,H,I,J,K,u_2]).same L;c<=k/\0<=k.toNat/\k.toNat<=e/\(g=0->bY .i64 f/\c<=f/\f.toNat<=e/\e<=e/\(m=0->(d [r,s,t,v,w,x,y,z,A,B,C,D,E,F,G,H,I,J,K,b o []]).same L)/\(m≠0->M m m (b bn.off n)))/\(g≠0->g*64<=140737488355328/\g<=1000000000000/\bY .i64 f/\c<=f/\f.toNat<=e/\e<=e/\g=g/\M (g+m) (q++n).length (b bn.off (q++n)))) (by kernel_rfl) ?_;simp only[vcs];have e1:γe (k.toNat - 0) p.offers=p.offers.take k.toNat:=rfl;have e2:γe (p.offers.length - (k+1).toNat) (γ8 (k+1).toNat p.offers)=p.offers.drop (k+1).toNat:=List.take_of_length_le (by simp);have l1:(p.offers.take k.toNat).length=k.toNat:=by simp;omega
 have l2:(p.offers.drop (k+1).toNat).length=p.offers.length - (k+1).toNat:=by simp
 rw[e1,e2];have hag:∀{l:List Off} {s:SV},s.g=(γc .off l).g->l=p.offers.take k.toNat++p.offers.drop (k+1).toNat->
   (γK [γb .i64 p.supply.a0,γb .i64 p.supply.a1,γb .i64 p.supply.a2,γb .i64 p.supply.a3,γb .i64 p.supply.a4,γb .i64 p.supply.a5,γb .i64 p.opn.a0,γb .i64 p.opn.a1,γb .i64 p.opn.a2,γb .i64 p.opn.a3,γb .i64 p.opn.a4,γb .i64 p.opn.a5,γb .i64 p.cls.a0,γb .i64 p.cls.a1,γb .i64 p.cls.a2,γb .i64 p.cls.a3,γb .i64 p.cls.a4,γb .i64 p.cls.a5,γc (.i .i64) p.classes,s]).same (γK (ez p k).ss):=by
  intro l s hs hl;subst hl;simp only[SV.same,SV.g,bp.ss,gL,ez,hs]
 refine⟨h0,by omega,by omega,λhz=>⟨⟨by omega,by omega⟩,by omega,by omega,by omega,λhz2=>?_,λhz2=>⟨by omega,by omega,?_⟩⟩,λhz=>⟨by omega,by omega,⟨by omega,by omega⟩,by omega,by omega,by omega,by omega,by omega,?_⟩⟩;·exact hag (l:=[]) (by simp[SV.g,cC]) (by rw[Γ hz,Γ hz2];rfl)
 ·exact hag rfl (by rw[Γ hz];rfl)
 ·exact hag rfl rfl
def o9 (p:bp) (b k:Int):Bool:=decide (p.cls.at k.toNat≠0/\p.cls.at k.toNat≠bj p.classes b.toNat 0)
def DT:bM:=⟨111,bp×Int×Int,.cons cZ (.cons (dU .i64) (.one (dU .i64))),λa=>0<=a.2.1/\a.2.1<a.1.classes.length/\0<=a.2.2/\a.2.2<6,λa=> .sb (o9 a.1 a.2.1 a.2.2)⟩
theorem h148:Holds Tryz.prog DT:=by
 refine cJ (L:=[]) DT lk (by simp) ?_;rintro⟨p,b,k⟩ ⟨h0,h1,h2,h3⟩;simp only at h0 h1 h2 h3;refine bQ (let a:=(0:Int);let c:=bj [p.cls.a0,p.cls.a1,p.cls.a2,p.cls.a3,p.cls.a4,p.cls.a5] k.toNat a;let d:=λ(u:Bool) ↦decide (c≠a)=u;a<=k/\k<(6:Int)/\k.toNat<6/\(d true->a<=k/\k<(6:Int)/\k.toNat<6/\a<=b/\b<(↑p.classes.length:Int)/\b.toNat<p.classes.length/\(γG (decide (c≠bj p.classes b.toNat a))).same (γG (o9 p b k)))/\(d false->(δs false).same (γG (o9 p b k)))) (by kernel_rfl) ?_;simp only[vcs];have e:bj [p.cls.a0,p.cls.a1,p.cls.a2,p.cls.a3,p.cls.a4,p.cls.a5] k.toNat 0=p.cls.at k.toNat:=rfl;rw[e];refine⟨h2,h3,by omega,λh=>⟨h2,h3,by omega,h0,h1,by omega,?_⟩,λh=>?_⟩;·simp[o9,h]
 ·have h:p.cls.at k.toNat=0:=Θ.1 h;simp[o9,h]
def qG (p:bp) (x:Off) (k:Nat):Prop:=x.want.at k<=p.supply.at k/\(o9 p x.bF k=true->x.want.at k<=p.opn.at k)
instance (p:bp) (x:Off) (k:Nat):Decidable (qG p x k):=by unfold qG;infer_instance
def lH (p:bp) (x:Off):Bool:=(χ 6).all λk=>decide (qG p x k)
theorem zZ {p:bp} {x:Off}:lH p x=true↔∀k,k<6->qG p x k:=by simp[lH]
def IK:bM:=⟨112,bp×Off,.cons cZ (.one (eG .off)),λa=>0<=a.2.bF/\a.2.bF<a.1.classes.length,λa=> .sb (lH a.1 a.2)⟩
def aa5 (a:bp×Off):Nat->cB
 |2=> .inv Int (λk=>⟨[(2,.ptr 0 0 20),(3,.ptr 1 0 8),(6,.si .i64 k)],[.cells a.1.ss 81 20 false,.cells (encS .off a.2) 39 8 false]⟩) (λs=>iS s 6) (λk=>0<=k/\k<=6/\∀j:Nat,j<k->qG a.1 a.2 j) (λk=>(6 - k).toNat) λ_ _=> .look
 |_=> .look
theorem h149:Holds Tryz.prog IK:=by
 refine cJ (L:=[DT]) IK aa5 (by simpa using h148) ?_;rintro⟨p,x⟩ ⟨h0,h1⟩;simp only at h0 h1;refine bQ (let a:=(0:Int);let b:=γb .i64;let c:=(6:Int);let d:=δs false;let f:=γV 0 0 20;let g:=γV 1 0 8;let h:=bq.cells (bp.ss p) 81 20 false;let i:=bq.cells [b x.bF,b x.want.a0,b x.want.a1,b x.want.a2,b x.want.a3,b x.want.a4,b x.want.a5,b x.value] 39 8 false;let r:=[x.want.a0,x.want.a1,x.want.a2,x.want.a3,x.want.a4,x.want.a5];(((f.same f/\g.same g/\(γy .i64 0).same (b 0)/\True)/\h.same h/\i.same i/\True)/\a<=a/\a<=c/\∀(j:Nat),(↑j:Int)<a->qG p x j)/\∀(x_1:Int),let e:=x_1+(1:Int);let k:=b e;let l:=bj r x_1.toNat a;let m:=decide (x_1<c);let n:=bY .i64 e/\((f.same f/\g.same g/\k.same k/\True)/\h.same h/\i.same i/\True)/\(a<=e/\e<=c/\∀(j:Nat),(↑j:Int)<e->qG p x j)/\(c - e).toNat<(c - x_1).toNat;let o:=λ(u:Bool) ↦decide (bj [p.supply.a0,p.supply.a1,p.supply.a2,p.supply.a3,p.supply.a4,p.supply.a5] x_1.toNat a<l)=u;let q:=λ(u:Bool) ↦decide (bj [p.opn.a0,p.opn.a1,p.opn.a2,p.opn.a3,p.opn.a4,p.opn.a5] x_1.toNat a<l)=u;(a<=x_1/\x_1<=c/\∀(j:Nat),(↑j:Int)<x_1->qG p x j)->(m=true->a<=x_1/\x_1<c/\x_1.toNat<6/\a<=x_1/\x_1<c/\x_1.toNat<6/\(o true->(d).same (γG (lH p x)))/\(o false->(a<=x.bF/\x.bF<(↑p.classes.length:Int)/\a<=x_1/\x_1<c)/\(o9 p x.bF x_1=true->a<=x_1/\x_1<c/\x_1.toNat<6/\a<=x_1/\x_1<c/\x_1.toNat<6/\(q true->(d).same (γG (lH p x)))/\(q false->n))/\(o9 p x.bF x_1=false->n)))/\(m=false->(δs true).same (γG (lH p x)))) (by kernel_rfl) ?_;simp only[vcs];refine⟨⟨by omega,by omega,λj hj=>by omega⟩,?_⟩;rintro k ⟨k0,k1,hk⟩;have ew:bj [x.want.a0,x.want.a1,x.want.a2,x.want.a3,x.want.a4,x.want.a5] k.toNat 0=x.want.at k.toNat:=rfl;have es:bj [p.supply.a0,p.supply.a1,p.supply.a2,p.supply.a3,p.supply.a4,p.supply.a5] k.toNat 0=p.supply.at k.toNat:=rfl;have eo:bj [p.opn.a0,p.opn.a1,p.opn.a2,p.opn.a3,p.opn.a4,p.opn.a5] k.toNat 0=p.opn.at k.toNat:=rfl;rw[ew,es,eo];have hkk:((k.toNat:Nat):Int)=k:=by omega
 have hbad:k<6->¬qG p x k.toNat->false=lH p x:=λh h2=>by
  symm;rw[εt];exact λhh=>h2 (zZ.1 hh _ (by omega))
 have hnext:qG p x k.toNat->∀j:Nat,(j:Int)<k+1->qG p x j:=λh j hj=>by
  by_cases h2:(j:Int)<k;·exact hk j h2
  ·rw[show j=k.toNat by omega];exact h
 refine⟨λhlt=>⟨by omega,by omega,by omega,by omega,by omega,by omega,λh=>?_,λh=>⟨⟨h0,h1,k0,hlt⟩,λho=>⟨by omega,by omega,by omega,by omega,by omega,by omega,λh3=>?_,λh3=>⟨⟨by omega,by omega⟩,⟨by omega,by omega,?_⟩,by omega⟩⟩,λho=>⟨⟨by omega,by omega⟩,⟨by omega,by omega,?_⟩,by omega⟩⟩⟩,λhge=>?_⟩;·exact hbad hlt λhh=>by have:=hh.1;omega
 ·exact hbad hlt λhh=>by have:=hh.2 (by rw[hkk];exact ho);omega
 ·exact hnext ⟨by omega,λ_=>by omega⟩
 ·exact hnext ⟨by omega,λhh=>by rw[hkk,ho] at hh;cases hh⟩
 ·symm;exact zZ.2 λj hj=>hk j (by omega)
def ug (s w j k:Int):Int:=if j<k then s - w else s
def uh (c cl s o w j k:Int):Int:=if j<k then min (if c=0\/c≠0/\c≠cl then o - w else o) (s - w) else o
def lp (p:bp) (x:Off) (k:Int):bz:=⟨ug p.supply.a0 x.want.a0 0 k,ug p.supply.a1 x.want.a1 1 k,ug p.supply.a2 x.want.a2 2 k,ug p.supply.a3 x.want.a3 3 k,ug p.supply.a4 x.want.a4 4 k,ug p.supply.a5 x.want.a5 5 k⟩
def ki (p:bp) (x:Off) (k:Int):bz:=⟨uh p.cls.a0 (fy p x) p.supply.a0 p.opn.a0 x.want.a0 0 k,uh p.cls.a1 (fy p x) p.supply.a1 p.opn.a1 x.want.a1 1 k,uh p.cls.a2 (fy p x) p.supply.a2 p.opn.a2 x.want.a2 2 k,
 uh p.cls.a3 (fy p x) p.supply.a3 p.opn.a3 x.want.a3 3 k,uh p.cls.a4 (fy p x) p.supply.a4 p.opn.a4 x.want.a4 4 k,uh p.cls.a5 (fy p x) p.supply.a5 p.opn.a5 x.want.a5 5 k⟩
def ju (p:bp) (x:Off):bp:=⟨lp p x 6,ki p x 6,p.cls,p.classes,[]⟩
def iP (p:bp) (x:Off) (n:Nat):List Off:=(p.offers.take n).filter λy=>decide (y.bF≠x.bF)&&lH (ju p x) y
def iJ (p:bp) (k:Int):bp:=let x:=bj p.offers k.toNat bn.off.dflt;{ju p x with offers:=iP p x p.offers.length}
def bss (a b c:bz):List SV:=[.si .i64 a.a0,.si .i64 a.a1,.si .i64 a.a2,.si .i64 a.a3,.si .i64 a.a4,.si .i64 a.a5,.si .i64 b.a0,.si .i64 b.a1,.si .i64 b.a2,.si .i64 b.a3,.si .i64 b.a4,.si .i64 b.a5,.si .i64 c.a0,.si .i64 c.a1,.si .i64 c.a2,.si .i64 c.a3,.si .i64 c.a4,.si .i64 c.a5]
def zss:List SV:=[.il .i64 0,.il .i64 0,.il .i64 0,.il .i64 0,.il .i64 0,.il .i64 0,.il .i64 0,.il .i64 0,.il .i64 0,.il .i64 0,.il .i64 0,.il .i64 0,.il .i64 0,.il .i64 0,.il .i64 0,.il .i64 0,.il .i64 0,.il .i64 0,.sc (.slice none 0 0),.sc (.slice none 0 0)]
def QN (p:bp) (x:Off) (k:Int) (l:List Off):bX:=[.cells p.ss 81 20 false,.cells zss 81 20 false,.cells (encS .off x) 39 8 false,.cells (bss (lp p x k) (ki p x k) p.cls++[.row (.i .i64) p.classes,.ow 4 l.length 8]) 81 20 false,.row .off l 39 true]
def IL:bM:=⟨79,bp×Int,.cons cZ (.one (dU .i64)),λa=>Good a.1/\0<=a.2/\a.2<a.1.offers.length,λa=>cZ.put (iJ a.1 a.2)⟩
def sH (a:bp×Int):Off:=bj a.1.offers a.2.toNat bn.off.dflt
def aa7 (a:bp×Int):Nat->cB
 |5=> .inv Int (λj=>⟨[(2,.ptr 0 0 20),(4,.ptr 1 0 20),(5,.ptr 2 0 8),(6,.ptr 3 0 20),(21,.si .i64 j)],QN a.1 (sH a) j []⟩) (λs=>iS s 21) (λj=>0<=j/\j<=6) (λj=>(6 - j).toNat) λ_ _=> .look
 |13=> .inv Int (λi=>⟨[(4,.ptr 1 0 20),(5,.ptr 2 0 8),(6,.ptr 3 0 20),(81,.row .off a.1.offers),(82,.si .i64 a.1.offers.length),(83,.si .i64 i)],QN a.1 (sH a) 6 (iP a.1 (sH a) i.toNat)⟩) (λs=>iS s 83)
  (λi=>0<=i/\i<=a.1.offers.length) (λi=>(a.1.offers.length - i).toNat) λ_ _=> .look
 |_=> .look
theorem IP {α:Type} {a:α} {l:List α} {d:α}:bj (a::l) 0 d=a:=rfl
theorem IQ {α:Type} {a:α} {l:List α} {n:Nat} {d:α}:bj (a::l) (n+1) d=bj l n d:=by simp[bj]
theorem h120:Holds Tryz.prog IL:=by
 refine cJ (L:=[DT,IK]) IL aa7 (by simpa using⟨h148,h149⟩) ?_;rintro⟨p,k⟩ ⟨hg,h0,h1⟩;simp only at hg h0 h1;refine bQ (let a:=γb .i64;let b:=(0:Int);let c:=(6:Int);let d:=bq.cells;let e:=bY .i64;let f:=bq.row;let g:=γc;let h:=SV.ow;let j:=γV;let D:=a p.cls.a0;let E:=a p.cls.a1;let F:=a p.cls.a2;let G:=a p.cls.a3;let H:=a p.cls.a4;let I:=a p.cls.a5;let J:=g (bn.i .i64) p.classes;let a7:=p.offers.length;let Q:=j 0 0 20;let r:=j 1 0 20;let s:=j 2 0 8;let t:=j 3 0 20;let m:=γy .i64 0;let v:=g bn.off p.offers;let ap:=SV.sc (Value.slice none 0 0);let w:=d [m,m,m,m,m,m,m,m,m,m,m,m,m,m,m,m,m,m,ap,ap] 81 20 false;let aq:=bn.off.dflt;let ao:=bj p.offers k.toNat aq;let R:=ao.want;let o:=sH (p,k);let S:=o.bF;let y:=o.want;let z:=d [a S,a y.a0,a y.a1,a y.a2,a y.a3,a y.a4,a y.a5,a o.value] 39 8 false;let ar:=h 4 0 8;let K:=f bn.off [] 39 true;let b3:=[y.a0,y.a1,y.a2,y.a3,y.a4,y.a5];let al:=[D,E,F,G,H,I,J,ar];let au:=(↑p.classes.length:Int);let A:=(↑p.offers.length:Int);let a8:=a A;let L:=lp p o c;let a9:=a L.a0;let aa:=a L.a1;let ab:=a L.a2;let ac:=a L.a3;let ad:=a L.a4;let ae:=a L.a5;let M:=ki p o c;let af:=a M.a0;let ag:=a M.a1;let ah:=a M.a2;let ai:=a M.a3;let aj:=a M.a4;let ak:=a M.a5;let av:=iP p o 0;let T:=(iJ p k).supply;let U:=(iJ p k).opn;let V:=(iJ p k).cls;let N:=λ(u:SV) (u_1 u_2:bz) ↦let aw:=[D,E,F,G,H,I,J,u];(d (a p.supply.a0::a p.supply.a1::a p.supply.a2::a p.supply.a3::a p.supply.a4::a p.supply.a5::a p.opn.a0::a p.opn.a1::a p.opn.a2::a p.opn.a3::a p.opn.a4::a p.opn.a5::aw) 81 20 false).same (d (a u_1.a0::a u_1.a1::a u_1.a2::a u_1.a3::a u_1.a4::a u_1.a5::a u_2.a0::a u_2.a1::a u_2.a2::a u_2.a3::a u_2.a4::a u_2.a5::aw) 81 20 false);b<=k/\k<(↑a7:Int)/\k.toNat<a7/\(((Q.same Q/\r.same r/\s.same s/\t.same t/\m.same (a 0)/\True)/\N v p.supply p.opn/\w.same w/\(d [a ao.bF,a R.a0,a R.a1,a R.a2,a R.a3,a R.a4,a R.a5,a ao.value] 39 8 false).same z/\N ar (lp p o b) (ki p o b)/\K.same K/\True)/\b<=b/\b<=c)/\∀(x:Int),let l:=ki p o x;let ax:=bj [l.a0,l.a1,l.a2,l.a3,l.a4,l.a5] x.toNat b;let ay:=bj b3 x.toNat b;let O:=ax - ay;let B:=x+(1:Int);let am:=a B;let n:=lp p o x;let P:=bj [n.a0,n.a1,n.a2,n.a3,n.a4,n.a5] x.toNat b - ay;let az:=if x.toNat=0 then P else n.a0;let aA:=a az;let aB:=if x.toNat=1 then P else n.a1;let aC:=a aB;let aD:=if x.toNat=2 then P else n.a2;let aE:=a aD;let aF:=if x.toNat=3 then P else n.a3;let aG:=a aF;let aH:=if x.toNat=4 then P else n.a4;let aI:=a aH;let aJ:=if x.toNat=5 then P else n.a5;let aK:=a aJ;let aL:=if x.toNat=0 then O else l.a0;let aM:=if x.toNat=1 then O else l.a1;let aN:=if x.toNat=2 then O else l.a2;let aO:=if x.toNat=3 then O else l.a3;let aP:=if x.toNat=4 then O else l.a4;let aQ:=if x.toNat=5 then O else l.a5;let aR:=bj [az,aB,aD,aF,aH,aJ] x.toNat b;let W:=min (bj [aL,aM,aN,aO,aP,aQ] x.toNat b) aR;let X:=lp p o B;let Y:=ki p o B;let aS:=d (a X.a0::a X.a1::a X.a2::a X.a3::a X.a4::a X.a5::a Y.a0::a Y.a1::a Y.a2::a Y.a3::a Y.a4::a Y.a5::al) 81 20 false;let aT:=decide (x<c);let Z:=min ax aR;let aU:=x<c/\x.toNat<6/\b<=x/\x<c/\x.toNat<6/\e O/\b<=x/\x<c/\x.toNat<6/\b<=x/\x<c/\x.toNat<6/\b<=x/\x<c/\x.toNat<6/\b<=x/\x<c/\x.toNat<6/\e B/\((Q.same Q/\r.same r/\s.same s/\t.same t/\am.same am/\True)/\N v p.supply p.opn/\w.same w/\z.same z/\(d (aA::aC::aE::aG::aI::aK::a (if x.toNat=0 then W else aL)::a (if x.toNat=1 then W else aM)::a (if x.toNat=2 then W else aN)::a (if x.toNat=3 then W else aO)::a (if x.toNat=4 then W else aP)::a (if x.toNat=5 then W else aQ)::al) 81 20 false).same aS/\K.same K/\True)/\(b<=B/\B<=c)/\(c - B).toNat<(c - x).toNat;let aV:=λ(u:Bool) ↦decide (bj [p.cls.a0,p.cls.a1,p.cls.a2,p.cls.a3,p.cls.a4,p.cls.a5] x.toNat b=b)=u;b<=x/\x<=c->(aT=true->b<=x/\x<c/\x.toNat<6/\b<=x/\x<c/\x.toNat<6/\e P/\b<=x/\x<c/\x.toNat<6/\b<=x/\x<c/\x.toNat<6/\(aV true->b<=x/\aU)/\(aV false->(b<=S/\S<au/\b<=x/\x<c)/\(o9 p S x=true->b<=x/\aU)/\(o9 p S x=false->b<=x/\x<c/\x.toNat<6/\b<=x/\x<c/\x.toNat<6/\b<=x/\x<c/\x.toNat<6/\e B/\((Q.same Q/\r.same r/\s.same s/\t.same t/\am.same am/\True)/\N v p.supply p.opn/\w.same w/\z.same z/\(d (aA::aC::aE::aG::aI::aK::a (if x.toNat=0 then Z else l.a0)::a (if x.toNat=1 then Z else l.a1)::a (if x.toNat=2 then Z else l.a2)::a (if x.toNat=3 then Z else l.a3)::a (if x.toNat=4 then Z else l.a4)::a (if x.toNat=5 then Z else l.a5)::al) 81 20 false).same aS/\K.same K/\True)/\(b<=B/\B<=c)/\(c - B).toNat<(c - x).toNat)))/\(aT=false->(((r.same r/\s.same s/\t.same t/\v.same v/\(a (↑a7:Int)).same a8/\m.same (a 0)/\True)/\N v p.supply p.opn/\w.same w/\z.same z/\(d (a n.a0::a n.a1::a n.a2::a n.a3::a n.a4::a n.a5::a l.a0::a l.a1::a l.a2::a l.a3::a l.a4::a l.a5::al) 81 20 false).same (d [a9,aa,ab,ac,ad,ae,af,ag,ah,ai,aj,ak,D,E,F,G,H,I,J,h 4 av.length 8] 81 20 false)/\K.same (f bn.off av 39 true)/\True)/\b<=b/\b<=A)/\∀(x:Int),let C:=x+(1:Int);let an:=a C;let q:=iP p o x.toNat;let aW:=iP p o C.toNat;let aX:=d [a9,aa,ab,ac,ad,ae,af,ag,ah,ai,aj,ak,D,E,F,G,H,I,J,h 4 aW.length 8] 81 20 false;let aY:=f bn.off aW 39 true;let a6:=bj p.offers x.toNat aq;let aZ:=decide (a6.bF≠S);let b0:=lH (bp.mk L M p.cls p.classes q) a6;let b1:=q.length+1;let b2:=e C/\((r.same r/\s.same s/\t.same t/\v.same v/\a8.same a8/\an.same an/\True)/\N v p.supply p.opn/\w.same w/\z.same z/\(d [a9,aa,ab,ac,ad,ae,af,ag,ah,ai,aj,ak,D,E,F,G,H,I,J,h 4 q.length 8] 81 20 false).same aX/\(f bn.off q 39 true).same aY/\True)/\(b<=C/\C<=A)/\(A - C).toNat<(A - x).toNat;b<=x/\x<=A->(decide (x<A)=true->b<=x/\x<(↑a7:Int)/\x.toNat<a7/\(aZ=true->q.length=q.length/\(b<=a6.bF/\a6.bF<au)/\(b0=true->1=1/\q.length=q.length/\b1*64<=140737488355328/\b1<=1000000000000/\e C/\((r.same r/\s.same s/\t.same t/\v.same v/\a8.same a8/\an.same an/\True)/\N v p.supply p.opn/\w.same w/\z.same z/\(d [a9,aa,ab,ac,ad,ae,af,ag,ah,ai,aj,ak,D,E,F,G,H,I,J,h 4 (q++[a6]).length 8] 81 20 false).same aX/\(f bn.off (q++[a6]) 39 true).same aY/\True)/\(b<=C/\C<=A)/\(A - C).toNat<(A - x).toNat)/\(b0=false->b2))/\(aZ=false->b2))/\(decide (x<A)=false->q.length=q.length/\(γK [a9,aa,ab,ac,ad,ae,af,ag,ah,ai,aj,ak,D,E,F,G,H,I,J,g bn.off q]).same (γK [a T.a0,a T.a1,a T.a2,a T.a3,a T.a4,a T.a5,a U.a0,a U.a1,a U.a2,a U.a3,a U.a4,a U.a5,a V.a0,a V.a1,a V.a2,a V.a3,a V.a4,a V.a5,g (bn.i .i64) (iJ p k).classes,g bn.off (iJ p k).offers])))) (by kernel_rfl) ?_;conv=>zeta
 try simp only[vcs]
 have hx:bj p.offers k.toNat bn.off.dflt=sH (p,k):=rfl;have hxm:sH (p,k)∈p.offers:=cT (show k.toNat<p.offers.length by omega);rw[hx];have hv:=hg.2.2.2.2 _ hxm;have xK:iJ p k={ju p (sH (p,k)) with offers:=iP p (sH (p,k)) p.offers.length}:=rfl;rw[xK];generalize sH (p,k)=y at*;have b1:=bz.eT.1 hg.2.2.1;have b2:=bz.eT.1 hg.2.2.2.1;have b3:=bz.eT.1 hv.2.2.1;have h160:=hg.2.1;have IU:∀{A B:List SV},A=B->(bq.cells A 81 20 false).same (bq.cells B 81 20 false):=by rintro _ _ rfl;rfl
 have hoff:∀{x y:List Off},x=y->(bq.row .off x 39 true).same (bq.row .off y 39 true):=by rintro _ _ rfl;rfl
 refine⟨h0,h1,by omega,⟨⟨rfl,IU ?_⟩,by omega,by omega⟩,?_⟩;·simp[lp,ki,ug,uh]
 rintro j ⟨j0,j6⟩;refine⟨λDw=>?_,λjge=>?_⟩
 ·have hj:j=0\/j=1\/j=2\/j=3\/j=4\/j=5:=by omega
  clear hx xK h0 h1 Dw j0 j6 hg;have hcl:bj p.classes y.bF.toNat 0=fy p y:=rfl;have e0:(0:Int).toNat=0:=rfl;have e1:(1:Int).toNat=1:=rfl;have e2:(2:Int).toNat=2:=rfl;have e3:(3:Int).toNat=3:=rfl;have e4:(4:Int).toNat=4:=rfl;have e5:(5:Int).toNat=5:=rfl;rcases hj with rfl|rfl|rfl|rfl|rfl|rfl;all_goals
   simp only[IP,IQ,hcl,e0,e1,e2,e3,e4,e5,lp,ki,ug,uh,o9,bz.at,Int.reduceLT,Int.reduceAdd,Nat.reduceEqDiff,if_true,if_false,reduceIte,decide_eq_true_eq,decide_eq_false_iff_not,Int.lt_irrefl,Nat.zero_ne_one,Nat.one_ne_zero];repeat' (first|refine γj ?_ ?_|intro _)
   all_goals first
    |omega;|exact trivial;|exact rfl;|(apply IU;rename_i hh;simp[hh];done);|(apply IU;rename_i h1 h2 hh;simp[h1,h2,hh];done);|(rename_i h1 h2;have h3:=not_or.2 ⟨h1,h2⟩;simp only[if_neg h3];rfl)
 ·obtain rfl:j=6:=by omega
  have hr0:iP p y 0=[]:=by simp[iP]
  have hrl:∀n,(iP p y n).length<=160:=λn=>by
   have h1:=γB (λz:Off=>decide (z.bF≠y.bF)&&lH (ju p y) z) (p.offers.take n);simp only[Ω] at h1;unfold iP;omega
  have DU:∀{a b:Nat} {A:List SV},a=b->(bq.cells (A++[.row (.i .i64) p.classes,.ow 4 a 8]) 81 20 false).same (bq.cells (A++[.row (.i .i64) p.classes,.ow 4 b 8]) 81 20 false):=by rintro _ _ _ rfl;rfl
  refine⟨⟨⟨DU (A:=bss (lp p y 6) (ki p y 6) p.cls) (by simp[hr0]),hoff hr0.symm⟩,by omega,by omega⟩,?_⟩;rintro i ⟨i0,i1⟩;refine⟨λkj=>?_,λmf=>?_⟩
  ·have hm:=hg.2.2.2.2 _ (cT (d:=bn.off.dflt) (show i.toNat<p.offers.length by omega));have hl:=hrl i.toNat;have hal:∀l z,lH ⟨lp p y 6,ki p y 6,p.cls,p.classes,l⟩ z=lH (ju p y) z:=λ_ _=>rfl;simp only[hal];have hs:iP p y (i+1).toNat=iP p y i.toNat++(if(bj p.offers i.toNat bn.off.dflt).bF≠y.bF/\lH (ju p y) (bj p.offers i.toNat bn.off.dflt)=true then[bj p.offers i.toNat bn.off.dflt] else[]):=by
    unfold iP;rw[j8 (d:=bn.off.dflt) i0 kj,δw];congr 1;by_cases h:(bj p.offers i.toNat bn.off.dflt).bF≠y.bF/\lH (ju p y) (bj p.offers i.toNat bn.off.dflt)=true;·rw[if_pos h,γ0,if_pos (by simp[h])];rfl
    ·rw[if_neg h,γ0,if_neg (by simpa using h)];rfl
   refine⟨i0,kj,by omega,λhb=>⟨⟨hm.1,hm.2.1⟩,λha=>?_,λha=>?_⟩,λhb=>?_⟩
   ·rw[if_pos ⟨hb,ha⟩] at hs;rw[hs];refine⟨?_,?_,?_,⟨DU (A:=bss (lp p y 6) (ki p y 6) p.cls) rfl,hoff rfl⟩,?_,?_⟩<;>omega
   ·rw[if_neg (λh=>by rw[ha] at h;exact absurd h.2 (by simp)),γ1] at hs;rw[hs];refine⟨?_,⟨DU (A:=bss (lp p y 6) (ki p y 6) p.cls) rfl,hoff rfl⟩,?_,?_⟩<;>omega
   ·rw[if_neg (λh=>hb h.1),γ1] at hs;rw[hs];refine⟨?_,⟨DU (A:=bss (lp p y 6) (ki p y 6) p.cls) rfl,hoff rfl⟩,?_,?_⟩<;>omega
  ·rw[show i.toNat=p.offers.length by omega];exact rfl
end Go.Vi
