/-
  The solver's recursion.
  Conditions: none.
-/
import Derived.Test.YtjcmncmajmoiiaaGreatDY06
import Derived.KernelRfl
set_option maxRecDepth 100000
set_option maxHeartbeats 4000000
set_option linter.all false
open Bool renaming and_eq_true->ζ,or_eq_true->δo
open Classical renaming not_not->ω
open Go.Vi.AV.agg renaming injEq->εE
open Go.Vi.AV.sc renaming injEq->γX
open Go.Vi.SV renaming si->Ξ,row->Ψ,il->γr,ptr->γV,ow->γ8,agg->γG,sb->γI
open Int renaming one_mul->δI,le_trans->ζb
open List renaming range->τ,all_eq_true->Φ,mem_range->γL,foldl_cons->γO,mem_filter->γh,length_cons->γy,length_filter_le->γF,mem_cons->γq,take_length->Δ,foldl_append->εO,mem_of_mem_take->γm,forall_mem_cons->γs,not_mem_nil->γ5,filter_append->δq,length_take->Ω,replicate->ε,length_nil->ε3,take->γd,range_succ->δr,map_append->γb,map_cons->ι,map_nil->γp,drop->γ7,mem_map->γg,drop_length->εe,mem_append->Γ,nodup_append->γz,mem_map_of_mem->γ3,nodup_cons->γC,pairwise_cons->γx,filter_cons->δy,filter_sublist->δl
open List.Nodup renaming sublist->ζJ
open List.cons renaming injEq->π
open Option renaming map_eq_some_iff->δ,isSome_iff_exists->γo
open Option.some renaming injEq->γ
namespace Go.Vi
open Go.Proofs.YtjcmncmajmoiiaaGreat.Ir
open Go.Proofs
def j5 (m f:Int):Int:=eI.rG .i64 (m / 2^f.toNat) 1
def iw (m f:Int):Int:=eI.pO .i64 m (2^f.toNat)
def eO (m:Int):List Int:=[0,1,2,3,4,5,6,7].filter λf=>decide (j5 m f≠0)
def cnt (m:Int):Nat:=(eO m).length
def Qf:Bool:=(τ 256).all λm=>decide (0<=j5 m 0)&&[0,1,2,3,4,5,6,7].all λf=>(decide (j5 m f=0)||decide (j5 m f=1))&&(decide (j5 m f=0)||(decide (0<=iw m f)&&decide (iw m f<256)&&decide (eO (iw m f)=(eO m).filter λg=>decide (g≠f))))
theorem aar:Qf=true:=by kernel_rfl
theorem zV {m f:Int} (h0:0<=m) (h1:m<256) (g0:0<=f) (g1:f<8):(j5 m f=0\/j5 m f=1)/\(j5 m f≠0->0<=iw m f/\iw m f<256/\eO (iw m f)=(eO m).filter λg=>decide (g≠f)):=by
 have h:=aar;simp only[Qf,Φ,γL] at h;have h2:=h m.toNat (by omega);simp only[ζ,Φ] at h2
 have h3:=h2.2 f (by have:f=0\/f=1\/f=2\/f=3\/f=4\/f=5\/f=6\/f=7:=by omega
                     rcases this with rfl|rfl|rfl|rfl|rfl|rfl|rfl|rfl<;>simp);rw[show((m.toNat:Nat):Int)=m from by omega] at h3;simp only[ζ,δo,decide_eq_true_eq] at h3;refine⟨h3.1,λhb=>?_⟩;rcases h3.2 with h4|h4;·exact absurd h4 hb
 ·exact⟨h4.1.1,h4.1.2,h4.2⟩
def dL (m:Int):Int:=(eO m).headD 0
def Qg:Bool:=(τ 256).all λm=>decide (m=0)||(decide (0<=dL m)&&decide (dL m<8)&&decide (j5 m (dL m)≠0)&&decide (eO m=dL m::eO (iw m (dL m)))&&
 [0,1,2,3,4,5,6,7].all λg=>decide (dL m<=g)||decide (j5 m g=0))
theorem aas:Qg=true:=by kernel_rfl
theorem Dv {m:Int} (h0:0<=m) (h1:m<256) (h:m≠0):0<=dL m/\dL m<8/\j5 m (dL m)≠0/\eO m=dL m::eO (iw m (dL m))/\∀g,0<=g->g<dL m->j5 m g=0:=by
 have hh:=aas;simp only[Qg,Φ,γL] at hh;have h2:=hh m.toNat (by omega);rw[show((m.toNat:Nat):Int)=m from by omega] at h2;simp only[δo,ζ,decide_eq_true_eq,Φ] at h2;rcases h2 with h2|h2;·omega
 ·obtain⟨⟨⟨⟨a1,a2⟩,a3⟩,a4⟩,a5⟩:=h2;refine⟨a1,a2,a3,a4,λg g0 g1=>?_⟩
  have:=a5 g (by have:g=0\/g=1\/g=2\/g=3\/g=4\/g=5\/g=6\/g=7:=by omega
                 rcases this with rfl|rfl|rfl|rfl|rfl|rfl|rfl|rfl<;>simp);rcases this with h|h;·omega
  ·exact h
abbrev ly:=List (Sit×Int)
def kB (s:L8) (f:Int):List Off:=bj [s.l0,s.l1,s.l2,s.l3,s.l4,s.l5,s.l6,s.l7] f.toNat []
def i6 (a:Sit):Sit:=⟨iw a.members (dL a.members),a.left,a.opn⟩
def gh (p:bp):Nat->ly->Sit->Int×ly
 |0,es,_=>(0,es)
 |n+1,es,a=>
  if a.members=0 then(0,es) else
  match jZ .sit (.i .i64) a es with
  |some v=>(v,es)
  |none=>
   let r:=(kB (L8.of p) (dL a.members)).foldl (λr x=>if fitsAt p a x=true then(max r.1 (x.value+(gh p n r.2 (eK p a x)).1),(gh p n r.2 (eK p a x)).2) else r) (gh p n es (i6 a));(r.1,nn .sit (.i .i64) a r.1 r.2)
def stepM (p:bp) (n:Nat) (a:Sit) (r:Int×ly) (x:Off):Int×ly:=
 if fitsAt p a x=true then(max r.1 (x.value+(gh p n r.2 (eK p a x)).1),(gh p n r.2 (eK p a x)).2) else r
def Good (p:bp):Prop:=p.classes.length<=8/\p.offers.length<=160/\p.supply.ok=true/\p.opn.ok=true/\∀x∈p.offers,0<=x.bE/\x.bE<p.classes.length/\x.want.ok=true/\1<=x.value/\x.value<=1000000
def jq (a:Sit):Prop:=0<=a.members/\a.members<256/\a.b
def gA (p:bp):List Int->bz->bz->Int
 |[],_,_=>0
 |f::fs,l,o=>(iZ p f).foldl (λv x=>if x.want.le l&&(dU p x).le o then max v (x.value+gA p fs (l.sub x.want) (o.sub (dU p x))) else v) (gA p fs l o)
def kC (p:bp) (fs:List Int) (l o:bz) (v:Int) (x:Off):Int:=if x.want.le l&&(dU p x).le o then max v (x.value+gA p fs (l.sub x.want) (o.sub (dU p x))) else v
def gi (p:bp) (a:Sit):Int:=gA p (eO a.members) a.left a.opn
def i7 (p:bp) (es:ly):Prop:=∀e∈es,e.2=gi p e.1
theorem H8 {p:bp} {fs:List Int} {l o:bz} (hg:Good p) (B:Int) (hB:∀l o,0<=gA p fs l o/\gA p fs l o<=B):∀{xs:List Off} {v:Int},(∀x∈xs,x∈p.offers)->0<=v/\v<=B+1000000->0<=xs.foldl (kC p fs l o) v/\xs.foldl (kC p fs l o) v<=B+1000000
 |[],v,_,hv=>hv
 |x::xs,v,hx,hv=>by
  simp only[γO];refine H8 hg B hB (λy hy=>hx y (by simp[hy])) ?_;unfold kC;have h1:=hB (l.sub x.want) (o.sub (dU p x));have h2:=hg.2.2.2.2 x (hx x (by simp));split<;>omega
theorem H9 {p:bp} (hg:Good p):∀(fs:List Int) (l o:bz),0<=gA p fs l o/\gA p fs l o<=1000000*fs.length
 |[],_,_=>by simp[gA];|f::fs,l,o=>by
  have ih:=H9 hg fs;have h:=H8 (l:=l) (o:=o) hg (1000000*fs.length) ih (xs:=iZ p f) (v:=gA p fs l o) (λx hx=>(γh.1 hx).1) (by have:=ih l o;omega);have e:gA p (f::fs) l o=(iZ p f).foldl (kC p fs l o) (gA p fs l o):=rfl;rw[e];simp only[γy];omega
theorem Dw {m:Int}:(eO m).length<=8:=γF _ _
theorem xT {p:bp} (hg:Good p) (a:Sit):0<=gi p a/\gi p a<=8000000:=by
 have h:=H9 hg (eO a.members) a.left a.opn;have:=@Dw a.members;unfold gi;omega
theorem aat {a:Sit} {es:ly} {v:Int} (h:jZ .sit (.i .i64) a es=some v):∃e∈es,e.1=a/\e.2=v:=by
 unfold jZ at h;obtain⟨e,h1,rfl⟩:=δ.1 h;have h2:=List.find?_some h1;exact⟨e,List.mem_of_find?_eq_some h1,by simpa using h2,rfl⟩
theorem Qh {p:bp} {a:Sit} {v:Int} (hv:v=gi p a):∀{es:ly},i7 p es->i7 p (nn .sit (.i .i64) a v es)
 |[],_=>by intro e he;simp[nn] at he;subst he;exact hv;|q::es,h=>by
  unfold nn;split
  ·intro e he;rcases γq.1 he with rfl|he;·exact hv
   ·exact h e (by simp[he])
  ·intro e he;rcases γq.1 he with rfl|he;·exact h e (by simp)
   ·exact Qh hv (λe he=>h e (by simp[he])) e he
theorem Dx {a b:bz} (ha:a.ok=true) (hb:b.ok=true) (h:b.le a=true):(a.sub b).ok=true:=by
 have ha:=bz.eL.1 ha;have hb:=bz.eL.1 hb;have h:=bz.le_iff.1 h;refine bz.eL.2 ?_;simp only[bz.sub];omega
theorem Qi {p:bp} {f:Int} (h0:0<=f) (h1:f<8):kB (L8.of p) f=iZ p f:=by
 have:f=0\/f=1\/f=2\/f=3\/f=4\/f=5\/f=6\/f=7:=by omega
 rcases this with rfl|rfl|rfl|rfl|rfl|rfl|rfl|rfl<;>rfl
theorem Qj {p:bp} (hg:Good p) {a:Sit} (ha:jq a) (h0:a.members≠0) {x:Off} (hx:x∈iZ p (dL a.members)) (hf:fitsAt p a x=true):
  jq (eK p a x)/\eO a.members=dL a.members::eO (eK p a x).members/\(eK p a x).members=iw a.members (dL a.members):=by
 obtain⟨hxo,hxb⟩:=γh.1 hx;have hxb:x.bE=dL a.members:=by simpa using hxb
 have hv:=hg.2.2.2.2 x hxo;obtain⟨f0,f1,f2,f3,f4⟩:=Dv ha.1 ha.2.1 h0;have hd:=(zV ha.1 ha.2.1 f0 f1).2 f2;have hm:(eK p a x).members=iw a.members (dL a.members):=by simp only[eK,hxb,iw]
 simp only[fitsAt,ζ] at hf;refine⟨⟨by rw[hm];exact hd.1,by rw[hm];exact hd.2.1,Dx ha.2.2.1 hv.2.2.1 hf.1,Dx ha.2.2.2 (H7 hv.2.2.1) hf.2⟩,by rw[hm];exact f3,hm⟩
theorem Qk {a:Sit} (ha:jq a) (h0:a.members≠0):jq (i6 a)/\eO a.members=dL a.members::eO (i6 a).members:=by
 obtain⟨f0,f1,f2,f3,f4⟩:=Dv ha.1 ha.2.1 h0;have hd:=(zV ha.1 ha.2.1 f0 f1).2 f2;exact⟨⟨hd.1,hd.2.1,ha.2.2⟩,f3⟩
theorem Ia {p:bp} (hg:Good p) {n:Nat} {a:Sit} (ha:jq a) (h0:a.members≠0)
  (ih:∀(es:ly) (b:Sit),jq b->i7 p es->cnt b.members<n->(gh p n es b).1=gi p b/\i7 p (gh p n es b).2) (hn:cnt a.members<n+1):
  ∀{xs:List Off} {r:Int×ly},(∀x∈xs,x∈iZ p (dL a.members))->i7 p r.2->
   (xs.foldl (stepM p n a) r).1=xs.foldl (kC p (eO (i6 a).members) a.left a.opn) r.1/\i7 p (xs.foldl (stepM p n a) r).2
 |[],r,_,hr=>⟨rfl,hr⟩
 |x::xs,r,hx,hr=>by
  simp only[γO];have hxm:=hx x (by simp);have h1:(stepM p n a r x).1=kC p (eO (i6 a).members) a.left a.opn r.1 x/\i7 p (stepM p n a r x).2:=by
   unfold stepM kC;by_cases hf:fitsAt p a x=true
   ·have hf2:(x.want.le a.left&&(dU p x).le a.opn)=true:=hf;rw[if_pos hf,if_pos hf2];obtain⟨k1,k2,k3⟩:=Qj hg ha h0 hxm hf;have hc:cnt (eK p a x).members<n:=by
     unfold cnt at hn ⊢;rw[k2] at hn;simpa using hn
    obtain⟨e1,e2⟩:=ih r.2 _ k1 hr hc;refine⟨?_,e2⟩;simp only[e1,gi,k3];rfl
   ·have hf2:¬(x.want.le a.left&&(dU p x).le a.opn)=true:=hf;rw[if_neg hf,if_neg hf2];exact⟨rfl,hr⟩
  obtain⟨h2,h3⟩:=Ia hg ha h0 ih hn (xs:=xs) (λy hy=>hx y (by simp[hy])) h1.2;exact⟨by rw[h2,h1.1],h3⟩
theorem xU {p:bp} (hg:Good p):∀(n:Nat) (es:ly) (a:Sit),jq a->i7 p es->cnt a.members<n->(gh p n es a).1=gi p a/\i7 p (gh p n es a).2
 |0,_,_,_,_,h=>absurd h (by omega)
 |n+1,es,a,ha,he,hn=>by
  unfold gh;by_cases h0:a.members=0
  ·rw[if_pos h0];refine⟨?_,he⟩;unfold gi;rw[h0];rfl
  ·rw[if_neg h0];split
   ·rename_i v hv;obtain⟨e,h1,h2,h3⟩:=aat hv;refine⟨?_,he⟩;rw[<-h3,he e h1,h2]
   ·rename_i hv;obtain⟨s1,s2⟩:=Qk ha h0;obtain⟨f0,f1,_⟩:=Dv ha.1 ha.2.1 h0;have hc:cnt (i6 a).members<n:=by
     unfold cnt at hn ⊢;rw[s2] at hn;simpa using hn
    obtain⟨e1,e2⟩:=xU hg n es _ s1 he hc;rw[Qi f0 f1];obtain⟨k1,k2⟩:=Ia hg ha h0 (λes b hb h1 h2=>xU hg n es b hb h1 h2) hn (xs:=iZ p (dL a.members)) (r:=gh p n es (i6 a)) (λ_ h=>h) e2;have hval:((iZ p (dL a.members)).foldl (stepM p n a) (gh p n es (i6 a))).1=gi p a:=by
     rw[k1,e1];unfold gi;rw[s2];rfl
    exact⟨hval,Qh hval k2⟩
def pX (n:Nat):cZ:=Dq 108 Sit (.one (eG .sit)) (λa=>(Good a.1.p/\a.1.ls=L8.of a.1.p/\jq a.2/\i7 a.1.p a.1.es)/\cnt a.2.members<n)
 (λa=> .si .i64 (gh a.1.p (cnt a.2.members+1) a.1.es a.2).1) (λa=>⟨a.1.p,a.1.ls,(gh a.1.p (cnt a.2.members+1) a.1.es a.2).2⟩)
def W9 (n:Nat):List cZ:=[pX n,Du]
def ic (s:kA) (a:Sit) (j:Int):Int×ly:=((kB s.ls (dL a.members)).take j.toNat).foldl (stepM s.p (cnt a.members) a) (gh s.p (cnt a.members) s.es (i6 a))
def Ql (s:kA) (a:Sit):Nat->cC
 |7=> .inv Int (λf=>⟨[(0,.ptr 0 0 29),(3,.ptr 2 0 13),(7,.si .i64 f)],s.o++[.cells (encS .sit a) 167 13 false]⟩) (λt=>iS t 7) (λf=>0<=f/\f<=dL a.members) (λf=>(dL a.members - f).toNat) λ_ _=> .look
 |13=> .inv Int (λj=>⟨[(0,.ptr 0 0 29),(3,.ptr 2 0 13),(9,.si .i64 (ic s a j).1),(51,.row .off (kB s.ls (dL a.members))),(52,.si .i64 (kB s.ls (dL a.members)).length),(53,.si .i64 j)],
   (kA.o ⟨s.p,s.ls,(ic s a j).2⟩)++[.cells (encS .sit a) 167 13 false,.cells (encS .sit (i6 a)) 167 13 false]⟩) (λt=>iS t 53)
  (λj=>0<=j/\j<=(kB s.ls (dL a.members)).length) (λj=>((kB s.ls (dL a.members)).length - j).toNat) λ_ _=> .look
 |_=> .look
theorem aau {p:bp} {n:Nat} {es:ly} {a:Sit} (h:a.members=0):gh p (n+1) es a=(0,es):=by
 unfold gh;rw[if_pos h]
theorem aav {p:bp} {n:Nat} {es:ly} {a:Sit} {v:Int} (h:a.members≠0) (hv:jZ .sit (.i .i64) a es=some v):gh p (n+1) es a=(v,es):=by
 unfold gh;rw[if_neg h,hv]
theorem aaw {s:kA} {a:Sit} (hl:s.ls=L8.of s.p) (h:a.members≠0) (hv:jZ .sit (.i .i64) a s.es=none) {j:Int} (hj:j=(kB s.ls (dL a.members)).length):
  gh s.p (cnt a.members+1) s.es a=((ic s a j).1,nn .sit (.i .i64) a (ic s a j).1 (ic s a j).2):=by
 unfold gh ic;rw[if_neg h,hv,show j.toNat=(kB s.ls (dL a.members)).length from by omega,Δ,hl];rfl
theorem aax {s:kA} {a:Sit} {j:Int} (h0:0<=j) (h1:j<(kB s.ls (dL a.members)).length):ic s a (j+1)=stepM s.p (cnt a.members) a (ic s a j) (bj (kB s.ls (dL a.members)) j.toNat bn.off.dflt):=by
 unfold ic;rw[j4 (d:=bn.off.dflt) h0 h1,εO];rfl
theorem aay {es es':ly} {kt:List Nat×Bool} (h:es=es'):(bq.map bn.sit (bn.i IntKind.i64) true es kt true).same (bq.map bn.sit (bn.i IntKind.i64) true es' kt true):=by rw[h];rfl
theorem aaz (n:Nat) (s:kA) (a:Sit) (hg:Good s.p) (hl:s.ls=L8.of s.p) (ha:jq a) (hm:i7 s.p s.es) (hn:cnt a.members<n+1):
  Vc (vy (lT xO (fQ (W9 n)) oY oZ gy) (Ql s a) (fG 108) ((pX (n+1)).put (s,a)) ((pX (n+1)).st (s,a)) λv t=>v.same ((pX (n+1)).res (s,a))/\jk t ((pX (n+1)).out (s,a))):=by
 refine bO (let c:=Ξ .i64;let d:=(0:Int);let e:=Ψ;let f:=bq.cells;let g:=bW .i64;let h:=(1:Int);let k:=bn.i .i64;let j:=f [c s.p.supply.a0,c s.p.supply.a1,c s.p.supply.a2,c s.p.supply.a3,c s.p.supply.a4,c s.p.supply.a5,c s.p.opn.a0,c s.p.opn.a1,c s.p.opn.a2,c s.p.opn.a3,c s.p.opn.a4,c s.p.opn.a5,c s.p.cls.a0,c s.p.cls.a1,c s.p.cls.a2,c s.p.cls.a3,c s.p.cls.a4,c s.p.cls.a5,e k s.p.classes,e bn.off s.p.offers,e bn.off s.ls.l0,e bn.off s.ls.l1,e bn.off s.ls.l2,e bn.off s.ls.l3,e bn.off s.ls.l4,e bn.off s.ls.l5,e bn.off s.ls.l6,e bn.off s.ls.l7,SV.mp 1] 214 29 false;let t:=([0,0,0,0,0,0,0,0,0,0,0,0,0],true);let A:=bq.map bn.sit k true s.es t true;let O:=gh s.p (cnt a.members+1) s.es a;let P:=bq.map bn.sit k true O.snd t true;let Q:=decide (a.members=d);let G:=γr .i64 0;let H:=c O.fst;let I:=jZ bn.sit k a s.es;let l:=γV 0 0 29;let m:=γV 2 0 13;let R:=[c a.left.a0,c a.left.a1,c a.left.a2,c a.left.a3,c a.left.a4,c a.left.a5,c a.opn.a0,c a.opn.a1,c a.opn.a2,c a.opn.a3,c a.opn.a4,c a.opn.a5];let o:=f (c a.members::R) 167 13 false;let w:=dL a.members;let B:=kB s.ls w;let J:=e bn.off B;let q:=(↑B.length:Int);let K:=c q;let y:=(i6 a).left;let z:=(i6 a).opn;let L:=f [c (i6 a).members,c y.a0,c y.a1,c y.a2,c y.a3,c y.a4,c y.a5,c z.a0,c z.a1,c z.a2,c z.a3,c z.a4,c z.a5] 167 13 false;let S:=j.same j/\A.same P/\True;(Q=true->G.same H/\S)/\(Q=false->(I.isSome=true->(c (I.getD d)).same H/\S)/\(I.isSome=false->(((l.same l/\m.same m/\G.same (c 0)/\True)/\j.same j/\A.same A/\o.same o/\True)/\d<=d/\d<=w)/\∀(x:Int),let T:=decide (eI.rG .i64 (a.members / (2:Int)^x.toNat) h=d);let C:=x+h;let U:=c C;let V:=h*(2:Int)^x.toNat;let D:=eI.pO .i64 a.members V;let W:=Sit.mk D a.left a.opn;let X:=gh s.p (cnt D+1) s.es W;let Y:=bj [s.ls.l0,s.ls.l1,s.ls.l2,s.ls.l3,s.ls.l4,s.ls.l5,s.ls.l6,s.ls.l7] x.toNat [];d<=x/\x<=w->d<=x/\x<=(64:Int)/\(T=true->g C/\((l.same l/\m.same m/\U.same U/\True)/\j.same j/\A.same A/\o.same o/\True)/\(d<=C/\C<=w)/\(w - C).toNat<(w - x).toNat)/\(T=false->d<=x/\x<=(64:Int)/\g V/\((Good s.p/\s.ls=L8.of s.p/\jq W/\i7 s.p s.es)/\cnt D<n)/\d<=x/\x<(8:Int)/\x.toNat<8/\(((l.same l/\m.same m/\(c X.fst).same (c (ic s a d).fst)/\(e bn.off Y).same J/\(c (↑Y.length:Int)).same K/\G.same (c 0)/\True)/\j.same j/\(bq.map bn.sit k true X.snd t true).same (bq.map bn.sit k true (ic s a d).snd t true)/\o.same o/\(f (c D::R) 167 13 false).same L/\True)/\d<=d/\d<=q)/\∀(x:Int),let v:=x+h;let Z:=c v;let r:=bj B x.toNat bn.off.dflt;let E:=pW s.p a r;let M:=(ic s a x).snd;let N:=gh s.p (cnt E.members+1) M E;let F:=(ic s a x).fst;let a6:=λ(u:Int) (u_1:Int×ly) ↦g v/\((l.same l/\m.same m/\(c u).same (c (ic s a v).fst)/\J.same J/\K.same K/\Z.same Z/\True)/\j.same j/\(bq.map bn.sit k true u_1.snd t true).same (bq.map bn.sit k true (ic s a v).snd t true)/\o.same o/\L.same L/\True)/\(d<=v/\v<=q)/\(q - v).toNat<(q - x).toNat;d<=x/\x<=q->(decide (x<q)=true->d<=x/\x<(↑B.length:Int)/\x.toNat<B.length/\(s.p.classes.length<=8/\d<=r.bE/\r.bE<(↑s.p.classes.length:Int)/\a.b/\r.want.ok=true)/\(fitsAt s.p a r=true->((Good s.p/\s.ls=L8.of s.p/\jq E/\i7 s.p M)/\cnt E.members<n)/\g (r.value+N.fst)/\a6 (max F (r.value+N.fst)) N)/\(fitsAt s.p a r=false->a6 F (ic s a x)))/\(decide (x<q)=false->(c F).same H/\j.same j/\(bq.map bn.sit k true (nn bn.sit k a F M) t true).same P/\True))))) (by kernel_rfl) ?_;simp only[vcs];refine⟨λh0=>?_,λh0=>⟨λhf=>?_,λhf=>?_⟩⟩
 ·rw[aau h0];exact⟨rfl,rfl⟩
 ·obtain⟨v,hv⟩:=γo.1 hf;rw[aav h0 hv,hv];exact⟨rfl,rfl⟩
 ·have hnone:jZ .sit (.i .i64) a s.es=none:=by simpa using hf
  obtain⟨f0,f1,f2,f3,f4⟩:=Dv ha.1 ha.2.1 h0;obtain⟨s1,s2⟩:=Qk ha h0;have hcs:cnt (i6 a).members+1=cnt a.members:=by unfold cnt;rw[s2];simp
  have hle:kB s.ls (dL a.members)=iZ s.p (dL a.members):=by rw[hl];exact Qi f0 f1
  have hll:(kB s.ls (dL a.members)).length<=160:=by rw[hle];exact Nat.le_trans (γF _ _) hg.2.1
  have Ib:=xU hg (cnt a.members);obtain⟨q1,q2⟩:=Ib s.es _ s1 hm (by omega);have hrun:∀j:Int,0<=(ic s a j).1/\(ic s a j).1<=9000000/\i7 s.p (ic s a j).2:=by
   intro j;have hmem:∀x∈(kB s.ls (dL a.members)).take j.toNat,x∈iZ s.p (dL a.members):=λx hx=>by rw[hle] at hx;exact γm hx
   obtain⟨k1,k2⟩:=Ia hg ha h0 (n:=cnt a.members) (λes b hb h1 h2=>Ib es b hb h1 h2) (by omega) (xs:=(kB s.ls (dL a.members)).take j.toNat) (r:=gh s.p (cnt a.members) s.es (i6 a)) hmem q2;have hB:=H8 (l:=a.left) (o:=a.opn) (fs:=eO (i6 a).members) hg 8000000 (λl o=>by
    have:=H9 hg (eO (i6 a).members) l o;have:=@Dw (i6 a).members;omega) (xs:=(kB s.ls (dL a.members)).take j.toNat) (v:=(gh s.p (cnt a.members) s.es (i6 a)).1) (λx hx=>(γh.1 (hmem x hx)).1) (by
     rw[q1];have:=xT hg (i6 a);omega);unfold ic;rw[k1];exact⟨hB.1,hB.2,k2⟩
  refine⟨⟨by omega,f0⟩,?_⟩;rintro f ⟨g0,g1⟩;refine⟨g0,by omega,λhb=>⟨by omega,⟨by omega,?_⟩,?_⟩,λhb=>?_⟩
  ·have:f≠dL a.members:=λe=>f2 (by rw[<-e];exact hb);omega
  ·have:f≠dL a.members:=λe=>f2 (by rw[<-e];exact hb);omega
  ·have hfe:f=dL a.members:=by
    by_cases hlt:f<dL a.members;·exact absurd (f4 f g0 hlt) hb
    ·omega
   subst hfe;simp only[δI];have hp:(2:Int)^(dL a.members).toNat<=256/\0<(2:Int)^(dL a.members).toNat:=by
    have:(dL a.members).toNat=0\/(dL a.members).toNat=1\/(dL a.members).toNat=2\/(dL a.members).toNat=3\/(dL a.members).toNat=4\/(dL a.members).toNat=5\/(dL a.members).toNat=6\/(dL a.members).toNat=7:=by omega
    rcases this with h|h|h|h|h|h|h|h<;>rw[h]<;>decide
   have hsk:eI.pO .i64 a.members (2^(dL a.members).toNat)=(i6 a).members:=rfl;simp only[hsk];have hse:(⟨(i6 a).members,a.left,a.opn⟩:Sit)=i6 a:=rfl;simp only[hse,hcs];have hr0:ic s a 0=gh s.p (cnt a.members) s.es (i6 a):=rfl;refine⟨g0,by omega,⟨by omega,by omega⟩,⟨⟨hg,hl,s1,hm⟩,by omega⟩,g0,f1,by omega,⟨⟨⟨?_,rfl,rfl⟩,aay (by rw[hr0]),rfl⟩,by omega,by omega⟩,?_⟩;·rw[hr0]
   rintro j ⟨j0,j1⟩;obtain⟨b1,b2,b3⟩:=hrun j;refine⟨λDy=>?_,λjge=>?_⟩
   ·have hsucc:=aax (s:=s) (a:=a) j0 Dy;have hxm:=cO (d:=bn.off.dflt) (show j.toNat<(kB s.ls (dL a.members)).length by omega);generalize bj (kB s.ls (dL a.members)) j.toNat bn.off.dflt=x at hsucc hxm ⊢;rw[hle] at hxm;have hxo:=(γh.1 hxm).1;have hxv:=hg.2.2.2.2 x hxo;refine⟨j0,Dy,by omega,⟨hg.1,hxv.1,hxv.2.1,ha.2.2,hxv.2.2.1⟩,λhfit=>?_,λhfit=>?_⟩
    ·obtain⟨k1,k2,k3⟩:=Qj hg ha h0 hxm hfit;have hcn:cnt (eK s.p a x).members+1=cnt a.members:=by unfold cnt;rw[k2];simp
     have xW:pW s.p a x=eK s.p a x:=by unfold pW;rw[if_pos hfit]
     simp only[xW,hcn];obtain⟨e1,e2⟩:=Ib (ic s a j).2 _ k1 b3 (by omega);have hbd:=xT hg (eK s.p a x);have hst:ic s a (j+1)=(max (ic s a j).1 (x.value+(gh s.p (cnt a.members) (ic s a j).2 (eK s.p a x)).1),(gh s.p (cnt a.members) (ic s a j).2 (eK s.p a x)).2):=by
      rw[hsucc];unfold stepM;rw[if_pos hfit]
     rw[hst];refine⟨⟨⟨hg,hl,k1,b3⟩,by omega⟩,by rw[e1];omega,by omega,⟨rfl,rfl⟩,by omega,by omega⟩
    ·have hst:ic s a (j+1)=ic s a j:=by
      rw[hsucc];unfold stepM;rw[if_neg (by simp[hfit])]
     rw[hst];refine⟨?_,⟨rfl,rfl⟩,?_,?_⟩<;>omega
   ·have hj:j=(kB s.ls (dL a.members)).length:=by omega
    rw[aaw hl h0 hnone hj];exact⟨rfl,rfl⟩
theorem Dz:∀n,dJ Tryz.prog (pX n)
 |0=>by
  rintro⟨s,a⟩ ⟨_,h⟩;exact absurd h (Nat.not_lt_zero _);|n+1=>by
  rintro⟨s,a⟩ ⟨h1,h2⟩;by_cases hc:cnt a.members<n;·exact Dz n (s,a) ⟨h1,hc⟩
  ·refine C7 (pX (n+1)) (W:=W9 n) (Λ:=λx=>Ql x.1 x.2) pU (by simp only[W9,γs,γ5,false_implies,implies_true,and_true];exact⟨Dz n,h116⟩) Dp
    (show gy 108=some (fG 108) by kernel_rfl) (λ_=>rfl) (s,a) ?_ (aaz n s a h1.1 h1.2.1 h1.2.2.1 h1.2.2.2 h2).out;intro d hd b hb1 hb2 hb3;have hd2:d=pX n:=by
    have:kY 108 (W9 n)=some (pX n):=rfl;have hd3:kY 108 (W9 n)=some d:=hd;rw[this] at hd3;injection hd3 with hd3;exact hd3.symm
   subst hd2;have hb:(s,a)=b:=(pX n).inj (s,a) b hb1 hb2;subst hb;exact hc hb3.2
def DC:cZ where
 f:=107;α:=bp;put p:=[cY.put p];st _:=[];dec v o:=match v,o with
  |[v],[]=>cY.dec v
  |_,_=>none;ok v o a h:=by
  split at h;·exact⟨by simp only[gL,cY.ok _ _ h],rfl⟩
  ·cases h
 inj a b h _:=by
  simp only[gL,π,and_true] at h;exact cY.inj _ _ h
 dom p:=Good p;res _:=.ptr 0 0 29;out p:=kA.o ⟨p,L8.of p,[]⟩
def aaB:Nat->Option (Nat×Nat×Nat)
 |5=>some (11,0,8)
 |_=>none
def dr (p:bp) (i:Int) (j:Int):List Off:=(p.offers.take i.toNat).filter λx=>decide (x.bE=j)
def aaC (p:bp):Nat->cC
 |3=> .inv Int (λi=>⟨[(3,.ptr 2 0 29),(11,.row .off p.offers),(12,.si .i64 p.offers.length),(13,.si .i64 i)],
  [.cells p.ss 27 20 false,.map .sit (.i .i64) true [] ([0,0,0,0,0,0,0,0,0,0,0,0,0],true) true,
   .cells [.si .i64 p.supply.a0,.si .i64 p.supply.a1,.si .i64 p.supply.a2,.si .i64 p.supply.a3,.si .i64 p.supply.a4,.si .i64 p.supply.a5,
    .si .i64 p.opn.a0,.si .i64 p.opn.a1,.si .i64 p.opn.a2,.si .i64 p.opn.a3,.si .i64 p.opn.a4,.si .i64 p.opn.a5,
    .si .i64 p.cls.a0,.si .i64 p.cls.a1,.si .i64 p.cls.a2,.si .i64 p.cls.a3,.si .i64 p.cls.a4,.si .i64 p.cls.a5,
    .row (.i .i64) p.classes,.row .off p.offers,.ow 3 (dr p i 0).length 8,.ow 4 (dr p i 1).length 8,.ow 5 (dr p i 2).length 8,.ow 6 (dr p i 3).length 8,.ow 7 (dr p i 4).length 8,.ow 8 (dr p i 5).length 8,.ow 9 (dr p i 6).length 8,.ow 10 (dr p i 7).length 8,.mp 1] 214 29 false,
   .row .off (dr p i 0) 39 true,.row .off (dr p i 1) 39 true,.row .off (dr p i 2) 39 true,.row .off (dr p i 3) 39 true,.row .off (dr p i 4) 39 true,.row .off (dr p i 5) 39 true,.row .off (dr p i 6) 39 true,.row .off (dr p i 7) 39 true]⟩)
  (λs=>iS s 13) (λi=>0<=i/\i<=p.offers.length) (λi=>(p.offers.length - i).toNat) λ_ _=> .look
 |_=> .look
theorem uk {p:bp} {i:Int} {j:Int} (h0:0<=i) (h1:i<p.offers.length) (h:(bj p.offers i.toNat bn.off.dflt).bE=j):dr p (i+1) j=dr p i j++[bj p.offers i.toNat bn.off.dflt]:=by
 unfold dr;rw[j4 (d:=bn.off.dflt) h0 h1,δq];simp[h]
theorem dO {p:bp} {i:Int} {j:Int} (h0:0<=i) (h1:i<p.offers.length) (h:(bj p.offers i.toNat bn.off.dflt).bE≠j):dr p (i+1) j=dr p i j:=by
 unfold dr;rw[j4 (d:=bn.off.dflt) h0 h1,δq];simp[h]
theorem h113:dJ Tryz.prog DC:=by
 refine zS (L:=[]) (W:=[]) DC aaB aaC (by simp) (by simp) ?_;intro(p:bp) (hp:Good p);refine bO (let a:=bq.row;let b:=Ξ .i64;let c:=γ8;let d:=(0:Int);let e:=Ψ;let f:=bq.cells;let g:=(1:Int);let h:=(2:Int);let j:=(3:Int);let k:=(4:Int);let l:=(5:Int);let m:=(6:Int);let n:=(7:Int);let o:=bW .i64;let w:=b p.supply.a0;let y:=b p.supply.a1;let z:=b p.supply.a2;let A:=b p.supply.a3;let B:=b p.supply.a4;let C:=b p.supply.a5;let D:=b p.opn.a0;let E:=b p.opn.a1;let F:=b p.opn.a2;let G:=b p.opn.a3;let H:=b p.opn.a4;let I:=b p.opn.a5;let J:=b p.cls.a0;let K:=b p.cls.a1;let L:=b p.cls.a2;let M:=b p.cls.a3;let N:=b p.cls.a4;let O:=b p.cls.a5;let P:=e (bn.i .i64) p.classes;let r:=e bn.off p.offers;let v:=γV 2 0 29;let aC:=(↑p.offers.length:Int);let s:=(↑p.offers.length:Int);let Q:=b s;let t:=bq.map bn.sit (bn.i .i64) true [] ([0,0,0,0,0,0,0,0,0,0,0,0,0],true) true;let W:=[SV.mp 1];let aD:=dr p d d;let aE:=dr p d g;let aF:=dr p d h;let aG:=dr p d j;let aH:=dr p d k;let aI:=dr p d l;let aJ:=dr p d m;let aK:=dr p d n;let R:=a bn.off [] 39 true;let aL:=γV 0 0 29;let ab:=λ(u:List SV) (u_1 u_2:Nat) (u_3:List SV) ↦(f (w::y::z::A::B::C::D::E::F::G::H::I::J::K::L::M::N::O::P::r::u) u_1 u_2 false).same (f (w::y::z::A::B::C::D::E::F::G::H::I::J::K::L::M::N::O::P::r::u_3) u_1 u_2 false);(((v.same v/\r.same r/\(b aC).same Q/\(γr .i64 0).same (b 0)/\True)/\ab [] 27 20 []/\t.same t/\ab (c 3 0 8::c 4 0 8::c 5 0 8::c 6 0 8::c 7 0 8::c 8 0 8::c 9 0 8::c 10 0 8::W) 214 29 (c 3 aD.length 8::c 4 aE.length 8::c 5 aF.length 8::c 6 aG.length 8::c 7 aH.length 8::c 8 aI.length 8::c 9 aJ.length 8::c 10 aK.length 8::W)/\R.same (a bn.off aD 39 true)/\R.same (a bn.off aE 39 true)/\R.same (a bn.off aF 39 true)/\R.same (a bn.off aG 39 true)/\R.same (a bn.off aH 39 true)/\R.same (a bn.off aI 39 true)/\R.same (a bn.off aJ 39 true)/\R.same (a bn.off aK 39 true)/\True)/\d<=d/\d<=s)/\∀(x:Int),let X:=dr p x h;let ac:=a bn.off X 39 true;let q:=x+g;let ad:=a bn.off (dr p q h) 39 true;let Y:=dr p x j;let ae:=a bn.off Y 39 true;let af:=a bn.off (dr p q j) 39 true;let Z:=dr p x k;let ag:=a bn.off Z 39 true;let ah:=a bn.off (dr p q k) 39 true;let a6:=dr p x l;let ai:=a bn.off a6 39 true;let aj:=a bn.off (dr p q l) 39 true;let a7:=dr p x m;let ak:=a bn.off a7 39 true;let al:=a bn.off (dr p q m) 39 true;let a8:=dr p x n;let am:=a bn.off a8 39 true;let an:=a bn.off (dr p q n) 39 true;let S:=bj p.offers x.toNat bn.off.dflt;let T:=b q;let a9:=dr p x d;let av:=c 3 a9.length 8;let aa:=dr p x g;let aw:=c 4 aa.length 8;let ax:=c 5 X.length 8;let ay:=c 6 Y.length 8;let az:=c 7 Z.length 8;let aA:=c 8 a6.length 8;let ao:=f (w::y::z::A::B::C::D::E::F::G::H::I::J::K::L::M::N::O::P::r::c 3 (dr p q d).length 8::c 4 (dr p q g).length 8::c 5 (dr p q h).length 8::c 6 (dr p q j).length 8::c 7 (dr p q k).length 8::c 8 (dr p q l).length 8::c 9 (dr p q m).length 8::c 10 (dr p q n).length 8::W) 214 29 false;let ap:=a bn.off a9 39 true;let aq:=a bn.off (dr p q d) 39 true;let ar:=a bn.off aa 39 true;let au:=a bn.off (dr p q g) 39 true;let aB:=c 9 a7.length 8::c 10 a8.length 8::W;let U:=S.want;let V:=S.value;let aM:=a9++[Off.mk d U V];let aN:=aa++[Off.mk g U V];let aO:=X++[Off.mk h U V];let aP:=Y++[Off.mk j U V];let aQ:=Z++[Off.mk k U V];let aR:=a6++[Off.mk l U V];let aS:=a7++[Off.mk m U V];let aT:=a8++[Off.mk n U V];let aY:=ac.same ad/\ae.same af/\ag.same ah/\ai.same aj/\ak.same al/\am.same an/\True;let aZ:=ag.same ah/\ai.same aj/\ak.same al/\am.same an/\True;let b0:=ak.same al/\am.same an/\True;let aU:=λ(u:Int) (u_1 u_2:Nat) (u_3 u_4:bq) ↦let z89:Nat:=(dr p x u).length;S.bE=u->1=1/\(dr p x u).length=z89/\(z89+1)*64<=140737488355328/\z89+1<=1000000000000/\o q/\((v.same v/\r.same r/\Q.same Q/\T.same T/\True)/\ab [] 27 20 []/\t.same t/\(f (w::y::z::A::B::C::D::E::F::G::H::I::J::K::L::M::N::O::P::r::av::aw::ax::ay::az::aA::c 9 u_1 8::c 10 u_2 8::W) 214 29 false).same ao/\ap.same aq/\ar.same au/\ac.same ad/\ae.same af/\ag.same ah/\ai.same aj/\u_3.same al/\u_4.same an/\True)/\(d<=q/\q<=s)/\(s - q).toNat<(s - x).toNat;let aV:=λ(u:Int) (u_1 u_2:Nat) (u_3 u_4:bq) ↦let Ic:Nat:=(dr p x u).length;S.bE=u->1=1/\(dr p x u).length=Ic/\(Ic+1)*64<=140737488355328/\Ic+1<=1000000000000/\o q/\((v.same v/\r.same r/\Q.same Q/\T.same T/\True)/\ab [] 27 20 []/\t.same t/\(f (w::y::z::A::B::C::D::E::F::G::H::I::J::K::L::M::N::O::P::r::av::aw::ax::ay::c 7 u_1 8::c 8 u_2 8::aB) 214 29 false).same ao/\ap.same aq/\ar.same au/\ac.same ad/\ae.same af/\u_3.same ah/\u_4.same aj/\b0)/\(d<=q/\q<=s)/\(s - q).toNat<(s - x).toNat;let aW:=λ(u:Int) (u_1 u_2:Nat) (u_3 u_4:bq) ↦let z91:Nat:=(dr p x u).length;S.bE=u->1=1/\(dr p x u).length=z91/\(z91+1)*64<=140737488355328/\z91+1<=1000000000000/\o q/\((v.same v/\r.same r/\Q.same Q/\T.same T/\True)/\ab [] 27 20 []/\t.same t/\(f (w::y::z::A::B::C::D::E::F::G::H::I::J::K::L::M::N::O::P::r::av::aw::c 5 u_1 8::c 6 u_2 8::az::aA::aB) 214 29 false).same ao/\ap.same aq/\ar.same au/\u_3.same ad/\u_4.same af/\aZ)/\(d<=q/\q<=s)/\(s - q).toNat<(s - x).toNat;let aX:=λ(u:Int) (u_1 u_2:Nat) (u_3 u_4:bq) ↦let Ie:Nat:=(dr p x u).length;S.bE=u->1=1/\(dr p x u).length=Ie/\(Ie+1)*64<=140737488355328/\Ie+1<=1000000000000/\o q/\((v.same v/\r.same r/\Q.same Q/\T.same T/\True)/\ab [] 27 20 []/\t.same t/\(f (w::y::z::A::B::C::D::E::F::G::H::I::J::K::L::M::N::O::P::r::c 3 u_1 8::c 4 u_2 8::ax::ay::az::aA::aB) 214 29 false).same ao/\u_3.same aq/\u_4.same au/\aY)/\(d<=q/\q<=s)/\(s - q).toNat<(s - x).toNat;d<=x/\x<=s->(decide (x<s)=true->d<=x/\x<aC/\x.toNat<p.offers.length/\aX d aM.length aa.length (a bn.off aM 39 true) ar/\aX g a9.length aN.length ap (a bn.off aN 39 true)/\aW h aO.length Y.length (a bn.off aO 39 true) ae/\aW j X.length aP.length ac (a bn.off aP 39 true)/\aV k aQ.length a6.length (a bn.off aQ 39 true) ai/\aV l Z.length aR.length ag (a bn.off aR 39 true)/\aU m aS.length a8.length (a bn.off aS 39 true) am/\aU n a7.length aT.length ak (a bn.off aT 39 true)/\d<=S.bE/\S.bE<(8:Int))/\(decide (x<s)=false->a9.length=a9.length/\aa.length=aa.length/\X.length=X.length/\Y.length=Y.length/\Z.length=Z.length/\a6.length=a6.length/\a7.length=a7.length/\a8.length=a8.length/\aL.same aL/\(f (w::y::z::A::B::C::D::E::F::G::H::I::J::K::L::M::N::O::P::r::e bn.off a9::e bn.off aa::e bn.off X::e bn.off Y::e bn.off Z::e bn.off a6::e bn.off a7::e bn.off a8::W) 214 29 false).same (f (w::y::z::A::B::C::D::E::F::G::H::I::J::K::L::M::N::O::P::r::e bn.off (L8.of p).l0::e bn.off (L8.of p).l1::e bn.off (L8.of p).l2::e bn.off (L8.of p).l3::e bn.off (L8.of p).l4::e bn.off (L8.of p).l5::e bn.off (L8.of p).l6::e bn.off (L8.of p).l7::W) 214 29 false)/\t.same t/\True)) (by kernel_rfl) ?_;conv=>zeta
 try simp only[vcs]
 have hz:∀j,dr p 0 j=[]:=λj=>rfl;have hlen:∀i j,(dr p i j).length<=160:=λi j=>by
  have h1:=γF (λx:Off=>decide (x.bE=j)) (p.offers.take i.toNat);have h2:=hp.2.1;simp only[Ω] at h1;unfold dr;omega
 have h160:=hp.2.1;refine⟨⟨by simp only[hz];exact⟨rfl,rfl,rfl,rfl,rfl,rfl,rfl,rfl,rfl⟩,by omega,by omega⟩,?_⟩;rintro i ⟨hi0,hi1⟩;refine⟨λhlt=>⟨hi0,hlt,by omega,?c0,?c1,?c2,?c3,?c4,?c5,?c6,?c7,?cb⟩,λhge=>?ce⟩;case c0=>
  intro hb;have hx:(⟨0,(bj p.offers i.toNat bn.off.dflt).want,(bj p.offers i.toNat bn.off.dflt).value⟩:Off)=bj p.offers i.toNat bn.off.dflt:=by rw[<-hb]
  simp only[hx];rw[uk (j:=0) hi0 hlt hb];rw[dO (j:=1) hi0 hlt (by rw[hb];decide)];rw[dO (j:=2) hi0 hlt (by rw[hb];decide)];rw[dO (j:=3) hi0 hlt (by rw[hb];decide)];rw[dO (j:=4) hi0 hlt (by rw[hb];decide)];rw[dO (j:=5) hi0 hlt (by rw[hb];decide)];rw[dO (j:=6) hi0 hlt (by rw[hb];decide)];rw[dO (j:=7) hi0 hlt (by rw[hb];decide)];have hl:=hlen i 0;refine⟨?_,?_,?_,⟨rfl,rfl,rfl,rfl,rfl,rfl,rfl,rfl,rfl⟩,?_,?_⟩<;>omega
 case c1=>
  intro hb;have hx:(⟨1,(bj p.offers i.toNat bn.off.dflt).want,(bj p.offers i.toNat bn.off.dflt).value⟩:Off)=bj p.offers i.toNat bn.off.dflt:=by rw[<-hb]
  simp only[hx];rw[dO (j:=0) hi0 hlt (by rw[hb];decide)];rw[uk (j:=1) hi0 hlt hb];rw[dO (j:=2) hi0 hlt (by rw[hb];decide)];rw[dO (j:=3) hi0 hlt (by rw[hb];decide)];rw[dO (j:=4) hi0 hlt (by rw[hb];decide)];rw[dO (j:=5) hi0 hlt (by rw[hb];decide)];rw[dO (j:=6) hi0 hlt (by rw[hb];decide)];rw[dO (j:=7) hi0 hlt (by rw[hb];decide)];have hl:=hlen i 1;refine⟨?_,?_,?_,⟨rfl,rfl,rfl,rfl,rfl,rfl,rfl,rfl,rfl⟩,?_,?_⟩<;>omega
 case c2=>
  intro hb;have hx:(⟨2,(bj p.offers i.toNat bn.off.dflt).want,(bj p.offers i.toNat bn.off.dflt).value⟩:Off)=bj p.offers i.toNat bn.off.dflt:=by rw[<-hb]
  simp only[hx];rw[dO (j:=0) hi0 hlt (by rw[hb];decide)];rw[dO (j:=1) hi0 hlt (by rw[hb];decide)];rw[uk (j:=2) hi0 hlt hb];rw[dO (j:=3) hi0 hlt (by rw[hb];decide)];rw[dO (j:=4) hi0 hlt (by rw[hb];decide)];rw[dO (j:=5) hi0 hlt (by rw[hb];decide)];rw[dO (j:=6) hi0 hlt (by rw[hb];decide)];rw[dO (j:=7) hi0 hlt (by rw[hb];decide)];have hl:=hlen i 2;refine⟨?_,?_,?_,⟨rfl,rfl,rfl,rfl,rfl,rfl,rfl,rfl,rfl⟩,?_,?_⟩<;>omega
 case c3=>
  intro hb;have hx:(⟨3,(bj p.offers i.toNat bn.off.dflt).want,(bj p.offers i.toNat bn.off.dflt).value⟩:Off)=bj p.offers i.toNat bn.off.dflt:=by rw[<-hb]
  simp only[hx];rw[dO (j:=0) hi0 hlt (by rw[hb];decide)];rw[dO (j:=1) hi0 hlt (by rw[hb];decide)];rw[dO (j:=2) hi0 hlt (by rw[hb];decide)];rw[uk (j:=3) hi0 hlt hb];rw[dO (j:=4) hi0 hlt (by rw[hb];decide)];rw[dO (j:=5) hi0 hlt (by rw[hb];decide)];rw[dO (j:=6) hi0 hlt (by rw[hb];decide)];rw[dO (j:=7) hi0 hlt (by rw[hb];decide)];have hl:=hlen i 3;refine⟨?_,?_,?_,⟨rfl,rfl,rfl,rfl,rfl,rfl,rfl,rfl,rfl⟩,?_,?_⟩<;>omega
 case c4=>
  intro hb;have hx:(⟨4,(bj p.offers i.toNat bn.off.dflt).want,(bj p.offers i.toNat bn.off.dflt).value⟩:Off)=bj p.offers i.toNat bn.off.dflt:=by rw[<-hb]
  simp only[hx];rw[dO (j:=0) hi0 hlt (by rw[hb];decide)];rw[dO (j:=1) hi0 hlt (by rw[hb];decide)];rw[dO (j:=2) hi0 hlt (by rw[hb];decide)];rw[dO (j:=3) hi0 hlt (by rw[hb];decide)];rw[uk (j:=4) hi0 hlt hb];rw[dO (j:=5) hi0 hlt (by rw[hb];decide)];rw[dO (j:=6) hi0 hlt (by rw[hb];decide)];rw[dO (j:=7) hi0 hlt (by rw[hb];decide)];have hl:=hlen i 4;refine⟨?_,?_,?_,⟨rfl,rfl,rfl,rfl,rfl,rfl,rfl,rfl,rfl⟩,?_,?_⟩<;>omega
 case c5=>
  intro hb;have hx:(⟨5,(bj p.offers i.toNat bn.off.dflt).want,(bj p.offers i.toNat bn.off.dflt).value⟩:Off)=bj p.offers i.toNat bn.off.dflt:=by rw[<-hb]
  simp only[hx];rw[dO (j:=0) hi0 hlt (by rw[hb];decide)];rw[dO (j:=1) hi0 hlt (by rw[hb];decide)];rw[dO (j:=2) hi0 hlt (by rw[hb];decide)];rw[dO (j:=3) hi0 hlt (by rw[hb];decide)];rw[dO (j:=4) hi0 hlt (by rw[hb];decide)];rw[uk (j:=5) hi0 hlt hb];rw[dO (j:=6) hi0 hlt (by rw[hb];decide)];rw[dO (j:=7) hi0 hlt (by rw[hb];decide)];have hl:=hlen i 5;refine⟨?_,?_,?_,⟨rfl,rfl,rfl,rfl,rfl,rfl,rfl,rfl,rfl⟩,?_,?_⟩<;>omega
 case c6=>
  intro hb;have hx:(⟨6,(bj p.offers i.toNat bn.off.dflt).want,(bj p.offers i.toNat bn.off.dflt).value⟩:Off)=bj p.offers i.toNat bn.off.dflt:=by rw[<-hb]
  simp only[hx];rw[dO (j:=0) hi0 hlt (by rw[hb];decide)];rw[dO (j:=1) hi0 hlt (by rw[hb];decide)];rw[dO (j:=2) hi0 hlt (by rw[hb];decide)];rw[dO (j:=3) hi0 hlt (by rw[hb];decide)];rw[dO (j:=4) hi0 hlt (by rw[hb];decide)];rw[dO (j:=5) hi0 hlt (by rw[hb];decide)];rw[uk (j:=6) hi0 hlt hb];rw[dO (j:=7) hi0 hlt (by rw[hb];decide)];have hl:=hlen i 6;refine⟨?_,?_,?_,⟨rfl,rfl,rfl,rfl,rfl,rfl,rfl,rfl,rfl⟩,?_,?_⟩<;>omega
 case c7=>
  intro hb;have hx:(⟨7,(bj p.offers i.toNat bn.off.dflt).want,(bj p.offers i.toNat bn.off.dflt).value⟩:Off)=bj p.offers i.toNat bn.off.dflt:=by rw[<-hb]
  simp only[hx];rw[dO (j:=0) hi0 hlt (by rw[hb];decide)];rw[dO (j:=1) hi0 hlt (by rw[hb];decide)];rw[dO (j:=2) hi0 hlt (by rw[hb];decide)];rw[dO (j:=3) hi0 hlt (by rw[hb];decide)];rw[dO (j:=4) hi0 hlt (by rw[hb];decide)];rw[dO (j:=5) hi0 hlt (by rw[hb];decide)];rw[dO (j:=6) hi0 hlt (by rw[hb];decide)];rw[uk (j:=7) hi0 hlt hb];have hl:=hlen i 7;refine⟨?_,?_,?_,⟨rfl,rfl,rfl,rfl,rfl,rfl,rfl,rfl,rfl⟩,?_,?_⟩<;>omega
 case cb=>
  have hv:=hp.2.2.2.2 _ (cO (d:=bn.off.dflt) (show i.toNat<p.offers.length by omega));have:=hp.1;exact⟨hv.1,by omega⟩
 case ce=>
  have hb:∀j,dr p i j=iZ p j:=λj=>by unfold dr iZ;rw[show i.toNat=p.offers.length from by omega,Δ]
  simp only[hb];rfl
theorem dn {p:bp} (h:bC p=0):Good p:=by
 obtain⟨e,k⟩:=vK h;obtain⟨b,a,m,g,q⟩:=ui e;refine⟨m,g,b,?_,λx o=>?_⟩
 ·have d:=bz.eL.1 b;have f:=od.1 (a 0 (by omega));have c:=od.1 (a 1 (by omega));have i:=od.1 (a 2 (by omega));have l:=od.1 (a 3 (by omega));have n:=od.1 (a 4 (by omega));have j:=od.1 (a 5 (by omega));simp[bj] at f c i l n j;grind[bz.eL]
 ·have d:=HW (HY (k x o)).1;simp_all
theorem pY {n:Nat} (h:n<=8):(2:Int)^n<=256/\0<(2:Int)^n:=by
 have:n=0\/n=1\/n=2\/n=3\/n=4\/n=5\/n=6\/n=7\/n=8:=by omega
 rcases this with h|h|h|h|h|h|h|h|h<;>rw[h]<;>decide
def gR (p:bp) (m:Int):Int:=if fz p m=0 then gi p ⟨m,p.supply,p.opn⟩ else 0
theorem If (p:bp) (m:Int):0<=gR p m/\gR p m<=8000000:=by
 unfold gR;split
 ·rename_i h;have hc:bC p=0:=by
   unfold fz at h;split at h;·rename_i h1;exact absurd h h1
   ·rename_i h1;exact ω.1 h1
  exact xT (dn hc) _
 ·omega
theorem Qm {p:bp} {m:Int} (h:fz p m=0):bC p=0/\0<=m/\m<2^p.classes.length:=by
 unfold fz at h;split at h;·rename_i h1;exact absurd h h1
 ·rename_i h1;split at h;·cases h
  ·rename_i h2;exact⟨ω.1 h1,by omega,by omega⟩
def zW:bL:=⟨73,bp×Int,.cons cY (.one (dX .i64)),λ_=>True,λa=> .bH [.si .i64 (gR a.1 a.2),.si .i64 (fz a.1 a.2)]⟩
def WB:List cZ:=[DC,Dt,pX 9]
theorem hWB:∀c∈WB,dJ Tryz.prog c:=by
 simp only[WB,γs,γ5,false_implies,implies_true,and_true];exact⟨h113,h114,Dz 9⟩
theorem h80:Holds Tryz.prog zW:=by
 refine con (L:=xO) (W:=fQ WB) zW lk (kZ hWB) Dp ?_;rintro⟨p,m⟩ _;refine bO (let a:=Ξ .i64;let b:=SV.bH;let c:=decide (fz p m≠(0:Int));let d:=γr .i64 0;let e:=[a (fz p m)];let f:=b (a (gR p m)::e);let g:=Sit.mk m p.supply p.opn;True/\(c=true->(b (d::e)).same f)/\(c=false->Good p/\True/\((Good p/\L8.of p=L8.of p/\jq g/\i7 p [])/\cnt m<9)/\(b [a (gh p (cnt m+1) [] g).fst,d]).same f)) (by kernel_rfl) ?_;simp only[vcs];refine⟨λh=>by simp[gR,h],λh=>?_⟩;have hz:fz p m=0:=ω.1 h;obtain⟨hc,h1,h2⟩:=Qm hz;have hg:=dn hc;have hp:=pY hg.1;have ha:jq ⟨m,p.supply,p.opn⟩:=⟨h1,by simp only;omega,hg.2.2.1,hg.2.2.2.1⟩;have hm:i7 p []:=λe he=>by simp at he
 have hn:cnt m<9:=by have:=@Dw m;unfold cnt;omega
 have hb:=xU hg (cnt m+1) [] ⟨m,p.supply,p.opn⟩ ha hm (by simp only;omega);refine⟨hg,⟨⟨hg,ha,hm⟩,hn⟩,?_,hz.symm⟩;rw[hb.1];simp[gR,hz]
def LB:List bL:=zW::xO
theorem Ig:∀c∈LB,Holds Tryz.prog c:=by
 simp only[LB,γs];exact⟨h80,Dp⟩
structure kD where
 p:bp
 values:List Int
 all:Int
 worth:Int
def og:oV kD where
 put d:=.agg [.si .i64 d.p.supply.a0,.si .i64 d.p.supply.a1,.si .i64 d.p.supply.a2,.si .i64 d.p.supply.a3,.si .i64 d.p.supply.a4,.si .i64 d.p.supply.a5,
  .si .i64 d.p.opn.a0,.si .i64 d.p.opn.a1,.si .i64 d.p.opn.a2,.si .i64 d.p.opn.a3,.si .i64 d.p.opn.a4,.si .i64 d.p.opn.a5,
  .si .i64 d.p.cls.a0,.si .i64 d.p.cls.a1,.si .i64 d.p.cls.a2,.si .i64 d.p.cls.a3,.si .i64 d.p.cls.a4,.si .i64 d.p.cls.a5,
  .row (.i .i64) d.p.classes,.row .off d.p.offers,.row (.i .i64) d.values,.si .i64 d.all,.si .i64 d.worth];dec
  | .agg [s0,s1,s2,s3,s4,s5,o0,o1,o2,o3,o4,o5,c0,c1,c2,c3,c4,c5,k,f,v,a,w]=>
   match sL [s0,s1,s2,s3,s4,s5,o0,o1,o2,o3,o4,o5,c0,c1,c2,c3,c4,c5,k,f],fZ (.i .i64) v,a.int .i64,w.int .i64 with
   |some p,some v,some a,some w=>some ⟨p,v,a,w⟩
   |_,_,_,_=>none
  |_=>none;ok v a h:=by
  split at h
  ·split at h
   ·rename_i h1 h2 h3 h4;simp only[γ] at h;subst h;have hp:=vH h1;simp only[bp.ss,gL,π,and_true] at hp;simp only[SV.g,gL];simp only[hp,jI h2,gP h3,gP h4];rfl
   ·cases h
  ·cases h
 inj a b h:=by
  obtain⟨p,v,al,w⟩:=a;obtain⟨q,v',al',w'⟩:=b;simp only[SV.g,gL,εE,π,and_true,γX,Value.int.injEq,true_and] at h;have hp:p=q:=by
   apply cY.inj;show(γG p.ss).g=(γG q.ss).g;simp only[SV.g,bp.ss,gL,εE,π,and_true,γX,Value.int.injEq,true_and];simp only[h,and_self]
  subst hp;have hv:v=v':=(dV (.i .i64)).inj _ _ (by simp only[dV,SV.g];simp only[h]);simp only[kD.mk.injEq,true_and];exact⟨hv,by simp only[h],by simp only[h]⟩
def allM (p:bp):Int:=2^p.classes.length - 1
def um (p:bp) (v:List Int) (i:Int):List Int:=v.set (bj p.offers i.toNat bn.off.dflt).bE.toNat (bj p.offers i.toNat bn.off.dflt).value
def ny (p:bp) (c:List Int):List Int:=c.foldl (um p) (ε p.classes.length 0)
def sN (p:bp) (s:Int) (i:Int):Int:=s+(bj p.offers i.toNat bn.off.dflt).value
def ix (p:bp) (c:List Int):Int:=c.foldl (sN p) 0
def jK (p:bp) (c:List Int):Int:=if dc p c≠0 then dc p c else if ix p c<gR p (allM p) then 13 else 0
def bp.zero:bp:=⟨bz.zero,bz.zero,bz.zero,[],[]⟩
def jr (p:bp) (c:List Int):kD:=if jK p c=0 then⟨p,ny p c,allM p,ix p c⟩ else⟨bp.zero,[],0,0⟩
def Ih:bL:=⟨68,bp×Alloc,.cons cY (.one lV),λa=>a.2.chosen.length<=1000000000000,λa=> .bH [og.put (jr a.1 a.2.chosen),.si .i64 (jK a.1 a.2.chosen)]⟩
def aaE (a:bp×Alloc):Nat->cC
 |7=> .inv Int (λi=>⟨[(2,.ptr 0 0 20),(4,.ptr 2 0 23),(7,.ptr 4 0 23),(8,.si .i64 (ix a.1 (a.2.chosen.take i.toNat))),(34,.row (.i .i64) a.2.chosen),(35,.si .i64 a.2.chosen.length),(36,.si .i64 i)],
  [.cells a.1.ss 27 20 false,.cells [.row (.i .i64) a.2.chosen,.si .i64 a.2.value] 41 2 false,
   .cells [.il .i64 0,.il .i64 0,.il .i64 0,.il .i64 0,.il .i64 0,.il .i64 0,.il .i64 0,.il .i64 0,.il .i64 0,.il .i64 0,.il .i64 0,.il .i64 0,.il .i64 0,.il .i64 0,.il .i64 0,.il .i64 0,.il .i64 0,.il .i64 0,.sc (.slice none 0 0),.sc (.slice none 0 0),.sc (.slice none 0 0),.il .i64 0,.il .i64 0] 99 23 false,
   .row (.i .i64) (ny a.1 (a.2.chosen.take i.toNat)) 2 true,
   .cells [.si .i64 a.1.supply.a0,.si .i64 a.1.supply.a1,.si .i64 a.1.supply.a2,.si .i64 a.1.supply.a3,.si .i64 a.1.supply.a4,.si .i64 a.1.supply.a5,
    .si .i64 a.1.opn.a0,.si .i64 a.1.opn.a1,.si .i64 a.1.opn.a2,.si .i64 a.1.opn.a3,.si .i64 a.1.opn.a4,.si .i64 a.1.opn.a5,
    .si .i64 a.1.cls.a0,.si .i64 a.1.cls.a1,.si .i64 a.1.cls.a2,.si .i64 a.1.cls.a3,.si .i64 a.1.cls.a4,.si .i64 a.1.cls.a5,
    .row (.i .i64) a.1.classes,.row .off a.1.offers,.ow 3 (a.1.classes.length:Int).toNat 1,.si .i64 (1*2^(a.1.classes.length:Int).toNat - 1),.il .i64 0] 99 23 false]⟩)
  (λs=>iS s 36) (λi=>0<=i/\i<=a.2.chosen.length) (λi=>(a.2.chosen.length - i).toNat) λ_ _=> .look
 |_=> .look
theorem DD {l:List Off}:∀{c:List Int} {a:Int} {r:List Off}, -1<=a->fR l a c=some r->r.length=c.length/\∀i∈c,0<=i/\i<l.length
 |[],a,r,_,h=>by grind[fR];|i::c,a,r,e,h=>by
  simp only[fR] at h;split at h;·cases h
  ·rename_i d;obtain⟨f,b,rfl⟩:=δ.1 h;obtain⟨g,j⟩:=DD (by omega) b;grind
theorem Qn {p:bp}:∀{c:List Int} {v:List Int},(c.foldl (um p) v).length=v.length
 |[],v=>rfl
 |i::c,v=>by simp only[γO];rw[Qn];simp[um]
theorem Qo {p:bp} {c:List Int}:(ny p c).length=p.classes.length:=by unfold ny;rw[Qn];simp
theorem Ii {p:bp} (hg:Good p):∀{c:List Int} {s:Int},(∀i∈c,0<=i/\i<p.offers.length)->0<=s->0<=c.foldl (sN p) s/\c.foldl (sN p) s<=s+1000000*c.length
 |[],s,_,hs=>by simp;exact hs;|i::c,s,hc,hs=>by
  simp only[γO];have hi:=hc i (by simp);have hv:=hg.2.2.2.2 _ (cO (d:=bn.off.dflt) (show i.toNat<p.offers.length by omega));have h1:0<=sN p s i/\sN p s i<=s+1000000:=by unfold sN;omega
  have:=Ii hg (c:=c) (s:=sN p s i) (λj hj=>hc j (by simp[hj])) h1.1;simp only[γy];omega
theorem Qp {d:kD} (h:d=⟨bp.zero,[],0,0⟩):(γG [γr .i64 0,γr .i64 0,γr .i64 0,γr .i64 0,γr .i64 0,γr .i64 0,γr .i64 0,γr .i64 0,γr .i64 0,γr .i64 0,γr .i64 0,γr .i64 0,γr .i64 0,γr .i64 0,γr .i64 0,γr .i64 0,γr .i64 0,γr .i64 0,Ψ (.i .i64) [],Ψ (.i .i64) [],Ψ (.i .i64) [],γr .i64 0,γr .i64 0]).same (og.put d):=by
 subst h;simp only[SV.same,og,SV.g,gL,bp.zero,bz.zero,cE,List.flatMap_nil,ε3]
theorem h61:Holds Tryz.prog Ih:=by
 refine cG (L:=LB) Ih aaE Ig ?_;rintro⟨p,⟨c,v⟩⟩ (hc:c.length<=1000000000000);refine bO (let a:=Ξ .i64;let b:=(0:Int);let d:=Ψ;let e:=bq.cells;let f:=(1:Int);let g:=bq.row;let h:=bW .i64;let j:=SV.bH;let k:=γV;let l:=γG;let af:=decide (dc p c≠b);let m:=γr .i64 0;let o:=bn.i .i64;let a9:=d o [];let aa:=l [m,m,m,m,m,m,m,m,m,m,m,m,m,m,m,m,m,m,a9,a9,a9,m,m];let n:=(jr p c).p;let u:=n.supply;let z:=j [l [a u.a0,a u.a1,a u.a2,a u.a3,a u.a4,a u.a5,a n.opn.a0,a n.opn.a1,a n.opn.a2,a n.opn.a3,a n.opn.a4,a n.opn.a5,a n.cls.a0,a n.cls.a1,a n.cls.a2,a n.cls.a3,a n.cls.a4,a n.cls.a5,d o n.classes,d bn.off n.offers,d o (jr p c).values,a (jr p c).all,a (jr p c).worth],a (jK p c)];let q:=(↑p.classes.length:Int);let ab:=f*(2:Int)^q.toNat;let A:=k 0 0 20;let B:=k 2 0 23;let C:=k 4 0 23;let r:=(↑c.length:Int);let ac:=a r;let D:=a p.supply.a0;let E:=a p.supply.a1;let F:=a p.supply.a2;let G:=a p.supply.a3;let H:=a p.supply.a4;let I:=a p.supply.a5;let J:=a p.opn.a0;let K:=a p.opn.a1;let L:=a p.opn.a2;let M:=a p.opn.a3;let N:=a p.opn.a4;let O:=a p.opn.a5;let P:=a p.cls.a0;let Q:=a p.cls.a1;let R:=a p.cls.a2;let S:=a p.cls.a3;let T:=a p.cls.a4;let U:=a p.cls.a5;let V:=d o p.classes;let W:=d bn.off p.offers;let X:=e [D,E,F,G,H,I,J,K,L,M,N,O,P,Q,R,S,T,U,V,W] 27 20 false;let Y:=e [d o c,a v] 41 2 false;let ad:=SV.sc (Value.slice none 0 0);let Z:=e [m,m,m,m,m,m,m,m,m,m,m,m,m,m,m,m,m,m,ad,ad,ad,m,m] 99 23 false;let y:=(↑p.classes.length:Int).toNat;let a6:=f*(2:Int)^y - f;let ag:=a a6;let ae:=e [D,E,F,G,H,I,J,K,L,M,N,O,P,Q,R,S,T,U,V,W,γ8 3 y 1,ag,m] 99 23 false;let ah:=decide (fz p a6≠b);c.length<=9223372036854775807/\(af=true->(j [aa,a (dc p c)]).same z)/\(af=false->b<=q/\q<=q/\q*(8:Int)<=(140737488355328:Int)/\q<=(1000000000000:Int)/\b<=q/\q<=(64:Int)/\h ab/\h (ab - f)/\(((A.same A/\B.same B/\C.same C/\m.same (a (ix p []))/\(d o c).same (d o c)/\(a (↑c.length:Int)).same ac/\m.same (a 0)/\True)/\X.same X/\Y.same Y/\Z.same Z/\(g o (ε q.toNat b) 2 true).same (g o (ny p []) 2 true)/\(e [D,E,F,G,H,I,J,K,L,M,N,O,P,Q,R,S,T,U,V,W,γ8 3 q.toNat 1,a (ab - f),m] 99 23 false).same ae/\True)/\b<=b/\b<=r)/\∀(x:Int),let a7:=bj c x.toNat b;let s:=ny p (γd x.toNat c);let t:=bj p.offers a7.toNat bn.off.dflt;let a8:=ix p (γd x.toNat c);let w:=x+f;let ai:=γd w.toNat c;let aj:=a w;let ak:=decide (a8<gR p a6);b<=x/\x<=r->(decide (x<r)=true->b<=x/\x<(↑c.length:Int)/\x.toNat<c.length/\b<=a7/\a7<(↑p.offers.length:Int)/\a7.toNat<p.offers.length/\y=s.length/\b<=t.bE/\t.bE<(↑s.length:Int)/\y=s.length/\t.bE.toNat<s.length/\h (a8+t.value)/\h w/\((A.same A/\B.same B/\C.same C/\(a (a8+t.value)).same (a (ix p ai))/\(d o c).same (d o c)/\ac.same ac/\aj.same aj/\True)/\X.same X/\Y.same Y/\Z.same Z/\(g o (s.set t.bE.toNat t.value) 2 true).same (g o (ny p ai) 2 true)/\ae.same ae/\True)/\(b<=w/\w<=r)/\(r - w).toNat<(r - x).toNat)/\(decide (x<r)=false->True/\(ah=true->(j [aa,a (fz p a6)]).same z)/\(ah=false->(ak=true->(j [aa,γr .i64 13]).same z)/\(ak=false->y=s.length/\(j [l [D,E,F,G,H,I,J,K,L,M,N,O,P,Q,R,S,T,U,V,W,d o s,ag,a a8],m]).same z))))) (by kernel_rfl) ?_;simp only[vcs];refine⟨by omega,λh=>⟨Qp (by simp[jr,jK,h]),by simp[jK,h]⟩,λh=>?_⟩;have hz:dc p c=0:=ω.1 h;have hck:bC p=0:=by
  unfold dc at hz;split at hz;·rename_i h1;exact absurd hz h1
  ·rename_i h1;exact ω.1 h1
 have hpk:jo p c=true:=by
  unfold dc at hz;rw[if_neg (by simp[hck])] at hz;split at hz;·cases hz
  ·rename_i h1;simpa using h1
 have hg:=dn hck;have hp:=pY hg.1;obtain⟨r,hr⟩:=γo.1 hpk;obtain⟨hr1,hidx⟩:=DD (by omega) hr;have hcl:c.length<=160:=by
  have h1:=xN (by omega) hr;have h2:=hg.2.1;rcases h1 with h1|rfl;·omega
  ·simp at hr1;omega
 have hn:(p.classes.length:Int).toNat=p.classes.length:=by simp
 have hall:(1:Int)*2^(p.classes.length:Int).toNat - 1=allM p:=by simp[allM]
 have hg1:=hg.1;rw[hn] at*;refine⟨by omega,by omega,by omega,by omega,by omega,by omega,⟨by omega,by omega⟩,⟨by omega,by omega⟩,?_⟩;have hrow:∀{x y:List Int},x=y->(bq.row (.i .i64) x 2 true).same (bq.row (.i .i64) y 2 true):=by rintro _ _ rfl;rfl
 refine⟨⟨⟨rfl,hrow rfl⟩,by omega,by omega⟩,?_⟩;rintro i ⟨hi0,hi1⟩;have hvl:(ny p (c.take i.toNat)).length=p.classes.length:=Qo;refine⟨λhlt=>?_,λhge=>?_⟩
 ·have hci:=hidx _ (cO (d:=0) (show i.toNat<c.length by omega));have htk:=j4 (d:=0) hi0 hlt;generalize bj c i.toNat 0=ci at hci htk ⊢;have hv:=hg.2.2.2.2 _ (cO (d:=bn.off.dflt) (show ci.toNat<p.offers.length by omega));have hsb:=Ii hg (c:=c.take i.toNat) (s:=0) (λj hj=>hidx j (γm hj)) (by omega);have htl:(c.take i.toNat).length<=160:=by simp only[Ω];omega
  change 0<=ix p (c.take i.toNat)/\ix p (c.take i.toNat)<=_ at hsb;have e1:ix p (c.take (i+1).toNat)=ix p (c.take i.toNat)+(bj p.offers ci.toNat bn.off.dflt).value:=by
   rw[htk];unfold ix;rw[εO];rfl
  have e2:ny p (c.take (i+1).toNat)=(ny p (c.take i.toNat)).set (bj p.offers ci.toNat bn.off.dflt).bE.toNat (bj p.offers ci.toNat bn.off.dflt).value:=by
   rw[htk];unfold ny;rw[εO];rfl
  refine⟨hi0,hlt,?_,hci.1,hci.2,?_,hvl.symm,hv.1,?_,hvl.symm,?_,?_,?_,⟨e1.symm,hrow e2.symm⟩,?_,?_⟩<;>omega
 ·rw[show i.toNat=c.length from by omega,Δ] at hvl ⊢;rw[hall];have hf:fz p (allM p)=0:=by
   unfold fz allM;rw[if_neg (by simp[hck]),if_neg (by omega)]
  refine⟨λh1=>absurd hf h1,λ_=>⟨λh1=>?_,λh1=>⟨hvl.symm,?_⟩⟩⟩
  ·have ho:jK p c=13:=by simp[jK,hz,h1]
   exact⟨Qp (by simp[jr,ho]),ho.symm⟩
  ·have ho:jK p c=0:=by simp[jK,hz,h1]
   have hd:jr p c=⟨p,ny p c,allM p,ix p c⟩:=by simp[jr,ho]
   rw[hd,ho];exact⟨rfl,rfl⟩
def rM (d:kD):Prop:=bC d.p=0/\d.values.length=d.p.classes.length/\d.all=allM d.p/\(∀v∈d.values,0<=v/\v<=1000000)/\0<=d.worth/\d.worth<=200000000
def nz (d:kD) (b:Int):Int:=if bj d.values b.toNat 0=0 then 0 else gR d.p (iw d.all b) - (d.worth - bj d.values b.toNat 0)
def sO (d:kD) (b:Int):Int:=bj d.values b.toNat 0 - nz d b
theorem aaF {d:kD} (h:rM d) {b:Int} (h0:0<=b) (h1:b<d.values.length): -300000000<=nz d b/\nz d b<=300000000:=by
 obtain⟨a1,a2,a3,a4,a5,a6⟩:=h;have hv:=a4 _ (cO (d:=0) (show b.toNat<d.values.length by omega));have hw:=If d.p (iw d.all b);unfold nz;split<;>omega
def Ij:bL:=⟨70,kD×Int,.cons og (.one (dX .i64)),λa=>rM a.1/\0<=a.2/\a.2<a.1.values.length,λa=> .si .i64 (nz a.1 a.2)⟩
theorem h63:Holds Tryz.prog Ij:=by
 refine cG (L:=LB) Ij lk Ig ?_;rintro⟨d,b⟩ ⟨hd,h0,h1⟩;simp only at hd h0 h1;refine bO (let a:=(0:Int);let c:=bW .i64;let e:=bj d.values b.toNat a;let f:=decide (e=a);let g:=Ξ .i64 (nz d b);let h:=(1:Int)*(2:Int)^b.toNat;let i:=gR d.p (eI.pO .i64 d.all h) - (d.worth - e);a<=b/\b<(↑d.values.length:Int)/\b.toNat<d.values.length/\(f=true->(γr .i64 0).same g)/\(f=false->a<=b/\b<=(64:Int)/\c h/\True/\a<=b/\b<(↑d.values.length:Int)/\b.toNat<d.values.length/\c (d.worth - e)/\c i/\(Ξ .i64 i).same g)) (by kernel_rfl) ?_;simp only[vcs,δI];obtain⟨a1,a2,a3,a4,a5,a6⟩:=hd;have hg:=dn a1;have hg1:=hg.1;have hv:=a4 _ (cO (d:=0) (show b.toNat<d.values.length by omega));have hp:=pY (show b.toNat<=8 by omega);have hw:=If d.p (eI.pO .i64 d.all (2^b.toNat));refine⟨h0,by omega,by omega,λh=>?_,λh=>?_⟩;·simp[nz,h]
 ·refine⟨h0,by omega,⟨by omega,by omega⟩,h0,by omega,by omega,⟨by omega,by omega⟩,⟨by omega,by omega⟩,?_⟩;simp only[nz,if_neg h];rfl
def LC:List bL:=Ij::Ih::LB
theorem Qq:∀c∈LC,Holds Tryz.prog c:=by
 simp only[LC,γs];exact⟨h63,h61,Ig⟩
def Ik:bL:=⟨72,kD×Int,.cons og (.one (dX .i64)),λa=>rM a.1/\0<=a.2/\a.2<a.1.values.length,λa=> .si .i64 (sO a.1 a.2)⟩
theorem h66:Holds Tryz.prog Ik:=by
 refine cG (L:=LC) Ik lk Qq ?_;rintro⟨d,b⟩ ⟨hd,h0,h1⟩;simp only at hd h0 h1;refine bO (let a:=(0:Int);let c:=bj d.values b.toNat a - nz d b;a<=b/\b<(↑d.values.length:Int)/\b.toNat<d.values.length/\(rM d/\a<=b/\b<(↑d.values.length:Int))/\bW .i64 c/\(Ξ .i64 c).same (Ξ .i64 (sO d b))) (by kernel_rfl) ?_;simp only[vcs];have hb:=aaF hd h0 h1;obtain⟨a1,a2,a3,a4,a5,a6⟩:=id hd;have hv:=a4 _ (cO (d:=0) (show b.toNat<d.values.length by omega));refine⟨h0,?_,?_,⟨hd,h0,?_⟩,?_,rfl⟩<;>omega
def Qr:oV (Bool×kD) where
 put a:=match a.1 with
  |true=> .fn (.func 72) [og.put a.2] []
  |false=> .fn (.func 70) [og.put a.2] [];dec
  | .fn (.func f) [d] []=>if f=72 then(og.dec d).map λd=>(true,d) else if f=70 then(og.dec d).map λd=>(false,d) else none
  |_=>none;ok v a h:=by
  split at h
  ·split at h
   ·rename_i hf;obtain⟨d,h1,rfl⟩:=δ.1 h;simp only[SV.g,gL,og.ok _ _ h1,hf]
   ·split at h
    ·rename_i hf;obtain⟨d,h1,rfl⟩:=δ.1 h;simp only[SV.g,gL,og.ok _ _ h1,hf]
    ·cases h
  ·cases h
 inj a b h:=by
  obtain⟨k,d⟩:=a;obtain⟨k',d'⟩:=b;cases k<;>cases k'<;>simp only[SV.g,gL,AV.fn.injEq,Fn.func.injEq,π,and_true,true_and,reduceCtorEq,Nat.reduceEqDiff,false_and] at h;·rw[og.inj _ _ h]
  ·rw[og.inj _ _ h]
def Il (a:Bool×kD) (i:Int):Int:=match a.1 with
 |true=>sO a.2 i
 |false=>nz a.2 i
def kE (a:Bool×kD) (n:Nat):List Int:=(τ n).map λi:Nat=>Il a i
def Im:bL:=⟨69,kD×(Bool×kD),.cons og (.one Qr),λa=>rM a.2.2/\a.1.values.length=a.2.2.values.length,λa=> .row (.i .i64) (kE a.2 a.1.values.length)⟩
def LD:List bL:=Ik::LC
theorem Qs:∀c∈LD,Holds Tryz.prog c:=by
 simp only[LD,γs];exact⟨h66,Qq⟩
def aaG (a:kD×(Bool×kD)):Nat->cC
 |3=> .inv Int (λi=>⟨[(1,Qr.put a.2),(5,.ow 1 (kE a.2 i.toNat).length 1),(9,.si .i64 a.1.values.length),(10,.si .i64 i)],[.cells [.si .i64 a.1.p.supply.a0,.si .i64 a.1.p.supply.a1,.si .i64 a.1.p.supply.a2,.si .i64 a.1.p.supply.a3,.si .i64 a.1.p.supply.a4,.si .i64 a.1.p.supply.a5,
    .si .i64 a.1.p.opn.a0,.si .i64 a.1.p.opn.a1,.si .i64 a.1.p.opn.a2,.si .i64 a.1.p.opn.a3,.si .i64 a.1.p.opn.a4,.si .i64 a.1.p.opn.a5,
    .si .i64 a.1.p.cls.a0,.si .i64 a.1.p.cls.a1,.si .i64 a.1.p.cls.a2,.si .i64 a.1.p.cls.a3,.si .i64 a.1.p.cls.a4,.si .i64 a.1.p.cls.a5,
    .row (.i .i64) a.1.p.classes,.row .off a.1.p.offers,.row (.i .i64) a.1.values,.si .i64 a.1.all,.si .i64 a.1.worth] 99 23 false,.row (.i .i64) (kE a.2 i.toNat) 2 true]⟩)
  (λs=>iS s 10) (λi=>0<=i/\i<=a.1.values.length) (λi=>(a.1.values.length - i).toNat) λ_ _=> .look
 |_=> .look
theorem Io {a:Bool×kD} {n:Nat}:(kE a n).length=n:=by simp[kE]
theorem DF {a:Bool×kD} {i:Int} (h:0<=i):kE a (i+1).toNat=kE a i.toNat++[Il a i]:=by
 unfold kE;rw[show(i+1).toNat=i.toNat+1 from by omega,δr,γb];simp only[ι,γp,show((i.toNat:Nat):Int)=i from by omega]
theorem aaH {d:kD} (h:rM d):d.values.length<=8:=by
 rw[h.2.1];exact(dn h.1).1
theorem h62:Holds Tryz.prog Im:=by
 refine cG (L:=LD) Im aaG Qs ?_;have hrow:∀{x y:List Int},x=y->(bq.row (.i .i64) x 2 true).same (bq.row (.i .i64) y 2 true):=by rintro _ _ rfl;rfl
 have how:∀{x y:Nat},x=y->(γ8 1 x 1).same (γ8 1 y 1):=by rintro _ _ rfl;rfl
 rintro⟨d,k,e⟩ ⟨hd,hn⟩;simp only at hd hn;have h8:=aaH hd;cases k with
 |false=>
  refine bO (let a:=Ξ .i64;let b:=Ψ;let c:=(0:Int);let f:=bq.row;let g:=γ8;let h:=bn.i .i64;let m:=SV.fn (Fn.func 70) [γG [a e.p.supply.a0,a e.p.supply.a1,a e.p.supply.a2,a e.p.supply.a3,a e.p.supply.a4,a e.p.supply.a5,a e.p.opn.a0,a e.p.opn.a1,a e.p.opn.a2,a e.p.opn.a3,a e.p.opn.a4,a e.p.opn.a5,a e.p.cls.a0,a e.p.cls.a1,a e.p.cls.a2,a e.p.cls.a3,a e.p.cls.a4,a e.p.cls.a5,b h e.p.classes,b bn.off e.p.offers,b h e.values,a e.all,a e.worth]] [];let q:=kE (false,e) 0;let j:=(↑d.values.length:Int);let o:=a j;let n:=bq.cells [a d.p.supply.a0,a d.p.supply.a1,a d.p.supply.a2,a d.p.supply.a3,a d.p.supply.a4,a d.p.supply.a5,a d.p.opn.a0,a d.p.opn.a1,a d.p.opn.a2,a d.p.opn.a3,a d.p.opn.a4,a d.p.opn.a5,a d.p.cls.a0,a d.p.cls.a1,a d.p.cls.a2,a d.p.cls.a3,a d.p.cls.a4,a d.p.cls.a5,b h d.p.classes,b bn.off d.p.offers,b h d.values,a d.all,a d.worth] 99 23 false;(((m.same m/\(g 1 0 1).same (g 1 q.length 1)/\(a (↑d.values.length:Int)).same o/\(γr .i64 0).same (a 0)/\True)/\n.same n/\(f h [] 2 true).same (f h q 2 true)/\True)/\c<=c/\c<=j)/\∀(x:Int),let k:=kE (false,e) x.toNat;let r:=k.length+1;let l:=x+(1:Int);let s:=kE (false,e) l.toNat;let t:=a l;c<=x/\x<=j->(decide (x<j)=true->(rM e/\c<=x/\x<(↑e.values.length:Int))/\k.length=k.length/\r*8<=140737488355328/\r<=1000000000000/\bW .i64 l/\((m.same m/\(g 1 (k++[nz e x]).length 1).same (g 1 s.length 1)/\o.same o/\t.same t/\True)/\n.same n/\(f h (k++[nz e x]) 2 true).same (f h s 2 true)/\True)/\(c<=l/\l<=j)/\(j - l).toNat<(j - x).toNat)/\(decide (x<j)=false->k.length=k.length/\(b h k).same (b h (kE (false,e) d.values.length)))) (by kernel_rfl) ?_;simp only[vcs];refine⟨⟨⟨how rfl,hrow rfl⟩,by omega,by omega⟩,?_⟩;rintro i ⟨hi0,hi1⟩;have hL:=@Io (false,e) i.toNat;refine⟨λhlt=>⟨⟨hd,hi0,by omega⟩,by omega,by omega,by omega,⟨how (by rw[DF hi0];rfl),hrow (DF hi0).symm⟩,by omega,by omega⟩,λhge=>?_⟩;rw[show i.toNat=d.values.length from by omega];|true=>
  refine bO (let a:=Ξ .i64;let b:=Ψ;let c:=(0:Int);let f:=bq.row;let g:=γ8;let h:=bn.i .i64;let m:=SV.fn (Fn.func 72) [γG [a e.p.supply.a0,a e.p.supply.a1,a e.p.supply.a2,a e.p.supply.a3,a e.p.supply.a4,a e.p.supply.a5,a e.p.opn.a0,a e.p.opn.a1,a e.p.opn.a2,a e.p.opn.a3,a e.p.opn.a4,a e.p.opn.a5,a e.p.cls.a0,a e.p.cls.a1,a e.p.cls.a2,a e.p.cls.a3,a e.p.cls.a4,a e.p.cls.a5,b h e.p.classes,b bn.off e.p.offers,b h e.values,a e.all,a e.worth]] [];let q:=kE (true,e) 0;let j:=(↑d.values.length:Int);let o:=a j;let n:=bq.cells [a d.p.supply.a0,a d.p.supply.a1,a d.p.supply.a2,a d.p.supply.a3,a d.p.supply.a4,a d.p.supply.a5,a d.p.opn.a0,a d.p.opn.a1,a d.p.opn.a2,a d.p.opn.a3,a d.p.opn.a4,a d.p.opn.a5,a d.p.cls.a0,a d.p.cls.a1,a d.p.cls.a2,a d.p.cls.a3,a d.p.cls.a4,a d.p.cls.a5,b h d.p.classes,b bn.off d.p.offers,b h d.values,a d.all,a d.worth] 99 23 false;(((m.same m/\(g 1 0 1).same (g 1 q.length 1)/\(a (↑d.values.length:Int)).same o/\(γr .i64 0).same (a 0)/\True)/\n.same n/\(f h [] 2 true).same (f h q 2 true)/\True)/\c<=c/\c<=j)/\∀(x:Int),let k:=kE (true,e) x.toNat;let r:=k.length+1;let l:=x+(1:Int);let s:=kE (true,e) l.toNat;let t:=a l;c<=x/\x<=j->(decide (x<j)=true->(rM e/\c<=x/\x<(↑e.values.length:Int))/\k.length=k.length/\r*8<=140737488355328/\r<=1000000000000/\bW .i64 l/\((m.same m/\(g 1 (k++[sO e x]).length 1).same (g 1 s.length 1)/\o.same o/\t.same t/\True)/\n.same n/\(f h (k++[sO e x]) 2 true).same (f h s 2 true)/\True)/\(c<=l/\l<=j)/\(j - l).toNat<(j - x).toNat)/\(decide (x<j)=false->k.length=k.length/\(b h k).same (b h (kE (true,e) d.values.length)))) (by kernel_rfl) ?_;simp only[vcs];refine⟨⟨⟨how rfl,hrow rfl⟩,by omega,by omega⟩,?_⟩;rintro i ⟨hi0,hi1⟩;have hL:=@Io (true,e) i.toNat;refine⟨λhlt=>⟨⟨hd,hi0,by omega⟩,by omega,by omega,by omega,⟨how (by rw[DF hi0];rfl),hrow (DF hi0).symm⟩,by omega,by omega⟩,λhge=>?_⟩;rw[show i.toNat=d.values.length from by omega]
theorem Qu {p:bp} (hg:Good p):∀{c:List Int} {v:List Int},(∀i∈c,0<=i/\i<p.offers.length)->(∀x∈v,0<=x/\x<=1000000)->∀x∈c.foldl (um p) v,0<=x/\x<=1000000
 |[],v,_,hv=>hv
 |i::c,v,hc,hv=>by
  simp only[γO];refine Qu hg (λj hj=>hc j (by simp[hj])) ?_;intro x hx;unfold um at hx;rcases List.mem_or_eq_of_mem_set hx with h|h;·exact hv x h
  ·have hi:=hc i (by simp);have:=hg.2.2.2.2 _ (cO (d:=bn.off.dflt) (show i.toNat<p.offers.length by omega));rw[h];omega
theorem Qv {p:bp} {c:List Int} (h:jK p c=0):rM (jr p c)/\jr p c=⟨p,ny p c,allM p,ix p c⟩/\Good p:=by
 have hz:dc p c=0:=by
  unfold jK at h;split at h;·rename_i h1;exact absurd h h1
  ·rename_i h1;exact ω.1 h1
 have hck:bC p=0:=by
  unfold dc at hz;split at hz;·rename_i h1;exact absurd hz h1
  ·rename_i h1;exact ω.1 h1
 have hpk:jo p c=true:=by
  unfold dc at hz;rw[if_neg (by simp[hck])] at hz;split at hz;·cases hz
  ·rename_i h1;simpa using h1
 have hg:=dn hck;obtain⟨r,hr⟩:=γo.1 hpk;obtain⟨hr1,hidx⟩:=DD (by omega) hr;have hcl:c.length<=160:=by
  have h1:=xN (by omega) hr;have h2:=hg.2.1;rcases h1 with h1|rfl;·omega
  ·simp at hr1;omega
 have hd:jr p c=⟨p,ny p c,allM p,ix p c⟩:=by simp[jr,h]
 have hs:=Ii hg (c:=c) (s:=0) hidx (by omega);change 0<=ix p c/\ix p c<=_ at hs;refine⟨?_,hd,hg⟩;rw[hd];exact⟨hck,Qo,rfl,Qu hg hidx (λx hx=>by have:=List.eq_of_mem_replicate hx;omega),by simp only;omega,by simp only;omega⟩
def LE:List bL:=Im::LD
theorem hLE:∀c∈LE,Holds Tryz.prog c:=by
 simp only[LE,γs];exact⟨h62,Qs⟩
def agR (p:bp) (c:List Int):List Int:=if jK p c=0 then kE (false,jr p c) p.classes.length else[]
def nA (p:bp) (c:List Int):List Int:=if jK p c=0 then kE (true,jr p c) p.classes.length else[]
def Ip:bL:=⟨38,bp×Alloc,.cons cY (.one lV),λa=>a.2.chosen.length<=1000000000000,λa=> .bH [.row (.i .i64) (nA a.1 a.2.chosen),.si .i64 (jK a.1 a.2.chosen)]⟩
theorem h19:Holds Tryz.prog Ip:=by
 refine cG (L:=LE) Ip lk hLE ?_;rintro⟨p,⟨c,v⟩⟩ (hc:c.length<=1000000000000);refine bO (let a:=Ψ;let b:=SV.bH;let f:=decide (jK p c≠(0:Int));let d:=bn.i .i64;let g:=[Ξ .i64 (jK p c)];let h:=b (a d (nA p c)::g);let e:=(jr p c).values.length;c.length<=1000000000000/\(f=true->(b (a d []::g)).same h)/\(f=false->(rM (jr p c)/\e=e)/\(b [a d (kE (true,jr p c) e),γr .i64 0]).same h)) (by kernel_rfl) ?_;simp only[vcs];refine⟨hc,λh=>by simp[nA,h],λh=>?_⟩;have hz:jK p c=0:=ω.1 h;obtain⟨h1,h2,h3⟩:=Qv hz;refine⟨h1,?_,hz.symm⟩;rw[h1.2.1,h2];simp[nA,hz,h2]
def xX (p:bp) (n:Int):Bool:=decide ((p.offers.length:Int)<=n)&&decide ((p.classes.length:Int)<=8)
def Iq:bL:=⟨43,bp×Int,.cons cY (.one (dX .i64)),λ_=>True,λa=> .sb (xX a.1 a.2)⟩
theorem h59:Holds Tryz.prog Iq:=by
 refine cG (L:=[]) Iq lk (by simp) ?_;rintro⟨p,n⟩ _;refine bO (let a:=decide ((↑p.offers.length:Int)<=n);(a=true->(γI (decide ((↑p.classes.length:Int)<=(8:Int)))).same (γI (xX p n)))/\(a=false->(SV.bl false).same (γI (xX p n)))) (by kernel_rfl) ?_;simp only[vcs,xX];grind
def Qw:bL:=⟨16,bp,.one cY,λ_=>True,λa=> .sb (xX a 10)⟩
theorem h15:Holds Tryz.prog Qw:=by
 refine cG (L:=[Iq]) Qw lk (by simpa using h59) ?_;intro(p:bp) _;refine bO (let a:=γI (xX p (10:Int));True/\a.same a) (by kernel_rfl) ?_;simp only[vcs]
def three:bp:=⟨⟨1,1,0,0,0,0⟩,⟨1,1,0,0,0,0⟩,bz.zero,[0,0,0],[⟨0,⟨1,1,0,0,0,0⟩,10⟩,⟨1,⟨1,0,0,0,0,0⟩,6⟩,⟨2,⟨0,1,0,0,0,0⟩,6⟩]⟩
def Is:bL:=⟨44,bz,.one (eG .eD),λ_=>True,λb=> .sb b.ok⟩
theorem h68:Holds Tryz.prog Is:=by
 refine cG (L:=[]) Is (λ_ _=> .pP 7) (by simp) ?_;intro b _;refine bO (let h:=SV.bl false;let o:=γI;let p:=(0:Int);let q:=(4:Int);let i:=decide (b.a0<p);let d:=decide (q<b.a0);let k:=decide (b.a1<p);let e:=decide (q<b.a1);let l:=decide (b.a2<p);let f:=decide (q<b.a2);let j:=decide (b.a3<p);let m:=decide (q<b.a3);let n:=decide (b.a4<p);let g:=decide (q<b.a4);let a:=decide (b.a5<p);let c:=decide (q<b.a5);(i=true->(h).same (o (bz.ok b)))/\(i=false->(d=true->(h).same (o (bz.ok b)))/\(d=false->(k=true->(h).same (o (bz.ok b)))/\(k=false->(e=true->(h).same (o (bz.ok b)))/\(e=false->(l=true->(h).same (o (bz.ok b)))/\(l=false->(f=true->(h).same (o (bz.ok b)))/\(f=false->(j=true->(h).same (o (bz.ok b)))/\(j=false->(m=true->(h).same (o (bz.ok b)))/\(m=false->(n=true->(h).same (o (bz.ok b)))/\(n=false->(g=true->(h).same (o (bz.ok b)))/\(g=false->(a=true->(h).same (o (bz.ok b)))/\(a=false->(c=true->(h).same (o (bz.ok b)))/\(c=false->(SV.bl true).same (o (bz.ok b))))))))))))))) (by kernel_rfl) ?_;conv=>zeta
 have o:=@bz.eL b;by_cases h:b.ok=true<;>simp_all
def qK (p:bp) (r:Int) (o:Off):Int:=
 if r - p.classes.length<0 then(if o.bE=r then 1 else 0)
 else if r - p.classes.length<6 then bj [o.want.a0,o.want.a1,o.want.a2,o.want.a3,o.want.a4,o.want.a5] (r - p.classes.length).toNat 0
 else if bj [p.cls.a0,p.cls.a1,p.cls.a2,p.cls.a3,p.cls.a4,p.cls.a5] (r - p.classes.length - 6).toNat 0=0\/p.classes.length<=o.bE\/bj [p.cls.a0,p.cls.a1,p.cls.a2,p.cls.a3,p.cls.a4,p.cls.a5] (r - p.classes.length - 6).toNat 0=bj p.classes o.bE.toNat 0 then 0
 else bj [o.want.a0,o.want.a1,o.want.a2,o.want.a3,o.want.a4,o.want.a5] (r - p.classes.length - 6).toNat 0
theorem aaJ {p:bp} {r:Int} {o:Off} (h:o.bE<p.classes.length):qK p r o=eT p r o:=by
 unfold qK eT;omega
def Iu:bL:=⟨76,bp×Int×Off,.cons cY (.cons (dX .i64) (.one (eG .off))),λa=>a.1.classes.length<=8/\0<=a.2.1/\a.2.1<dm a.1/\0<=a.2.2.bE,
 λa=> .bH [.si .i64 (qK a.1 a.2.1 a.2.2),.si .i64 (dD a.1 a.2.1)]⟩
theorem h110:Holds Tryz.prog Iu:=by
 refine cG (L:=[]) Iu (λ_ _=> .pP 7) (by simp) ?_;rintro⟨p,r,x⟩ ⟨D,z,B,A⟩;simp only[dm] at D z B A;refine bO (let h:=(0:Int);let j:=(6:Int);let v:=Ξ .i64;let w:=bW .i64;let y:=SV.bH;let b:=(↑p.classes.length:Int);let a:=r - b - j;let o:=γr .i64 0;let k:=y [v (qK p r x),v (dD p r)];let q:=bj [p.cls.a0,p.cls.a1,p.cls.a2,p.cls.a3,p.cls.a4,p.cls.a5] a.toNat h;let t:=decide (x.bE=r);let e:=γr .i64 1;let g:=decide (r<b+j);let i:=decide (x.bE<b);let l:=h<=a/\a<j/\a.toNat<6/\(y [o,v (bj [p.opn.a0,p.opn.a1,p.opn.a2,p.opn.a3,p.opn.a4,p.opn.a5] a.toNat h)]).same k;let n:=λ(u f:Int) (c:bz) ↦let d:=(u - f).toNat;h<=u - f/\u - f<j/\d<6/\(y [v (bj [x.want.a0,x.want.a1,x.want.a2,x.want.a3,x.want.a4,x.want.a5] d h),v (bj [c.a0,c.a1,c.a2,c.a3,c.a4,c.a5] d h)]).same k;let m:=λ(u:Bool) ↦decide (q≠bj p.classes x.bE.toNat h)=u;let s:=λ(u:Bool) ↦decide (q≠h)=u;(decide (r<b)=true->(t=true->(y [e,e]).same k)/\(t=false->(y [o,e]).same k))/\(decide (r<b)=false->w (b+j)/\(g=true->w (r - b)/\h<=r - b/\r - b<j/\(r - b).toNat<6/\w (r - b)/\n r b p.supply)/\(g=false->w (r - b)/\w a/\h<=a/\a<j/\a.toNat<6/\(s true->(i=true->h<=a/\a<j/\a.toNat<6/\h<=x.bE/\x.bE<b/\x.bE.toNat<p.classes.length/\(m true->h<=a/\a<j/\a.toNat<6/\n (r - b) j p.opn)/\(m false->l))/\(i=false->l))/\(s false->l)))) (by kernel_rfl) ?_;simp only[vcs];have G:r - p.classes.length<0->dD p r=1:=λh=>by simp_all[dD]
 have E:¬r - p.classes.length<0->r - p.classes.length<6->dD p r=bj [p.supply.a0,p.supply.a1,p.supply.a2,p.supply.a3,p.supply.a4,p.supply.a5] (r - p.classes.length).toNat 0:=λh j=>by simp_all[dD,if_neg]
 have v:¬r - p.classes.length<0->¬r - p.classes.length<6->dD p r=bj [p.opn.a0,p.opn.a1,p.opn.a2,p.opn.a3,p.opn.a4,p.opn.a5] (r - p.classes.length - 6).toNat 0:=λh j=>by simp_all[dD,if_neg]
 have F:r - p.classes.length<0->qK p r x=if x.bE=r then 1 else 0:=λh=>by simp_all[qK]
 have H:¬r - p.classes.length<0->r - p.classes.length<6->qK p r x=bj [x.want.a0,x.want.a1,x.want.a2,x.want.a3,x.want.a4,x.want.a5] (r - p.classes.length).toNat 0:=λh j=>by simp_all[qK,if_neg]
 have y:=λ(h:¬r - p.classes.length<0) (j:¬r - p.classes.length<6)=>(show qK p r x=_ by unfold qK;rw[if_neg h,if_neg j]);refine⟨λw=>?_,λw=>⟨by omega,λC=>?_,λC=>?_⟩⟩;·grind
 ·grind
 ·rw[v (by omega) (by omega),y (by omega) (by omega)];omega
def M1:List bL:=[Iu,Is]
theorem hM1:∀c∈M1,Holds Tryz.prog c:=by
 simp_all[M1,h110,h68]
def Iw:bL:=⟨45,bp×List Off,.cons cY (.one (dV .off)),λa=>a.1.classes.length<=8/\a.2.length<=1000/\(∀x∈a.2,0<=x.bE/\x.bE<a.1.classes.length/\x.want.ok=true),λa=> .sb (gd a.1 a.2)⟩
def aaK (a:bp×List Off):Nat->cC
 |2=> .inv Int (λi=>⟨[(1,.row .off a.2),(2,.ptr 0 0 20),(5,.si .i64 i)],[.cells a.1.ss 27 20 false]⟩) (λs=>iS s 5)
  (λi=>0<=i/\i<=dm a.1/\∀r:Nat,r<i->cT a.1 a.2 r<=dD a.1 r) (λi=>(dm a.1 - i).toNat)
  λi=>λ
   |6=> .inv (Int×Int) (λx=>⟨[(1,.row .off a.2),(2,.ptr 0 0 20),(5,.si .i64 i),(6,.si .i64 x.2),(7,.si .i64 x.1)],[.cells a.1.ss 27 20 false]⟩)
    (λs=>(iS s 7,iS s 6))
    (λx=>0<=x.1/\x.1<=a.2.length/\x.2=cT a.1 (a.2.take x.1.toNat) i) (λx=>(a.2.length - x.1).toNat) λ_ _=> .look
   |_=> .look
 |_=> .look
theorem h69:Holds Tryz.prog Iw:=by
 refine cG (L:=M1) Iw aaK hM1 ?_;rintro⟨p,l⟩ ⟨A,G,q⟩;simp only at A G q;refine bO (let d:=(0:Int);let i:=Ξ .i64;let j:=Ψ;let o:=γr .i64 0;let q:=bW .i64;let s:=γr .i64;let b:=γV 0 0 20;let c:=bq.cells (bp.ss p) 27 20 false;let v:=(↑p.classes.length:Int)+(12:Int);let k:=(↑l.length:Int);((((j bn.off l).same (j bn.off l)/\b.same b/\(o).same (i 0)/\True)/\c.same c/\True)/\d<=d/\d<=dm p/\∀(r:Nat),(↑r:Int)<d->cT p l (↑r:Int)<=dD p (↑r:Int))/\∀(x:Int),let f:=x+(1:Int);let E:=i f;(d<=x/\x<=dm p/\∀(r:Nat),(↑r:Int)<x->cT p l (↑r:Int)<=dD p (↑r:Int))->q v/\(decide (x<v)=true->((((j bn.off l).same (j bn.off l)/\b.same b/\(i x).same (i x)/\(o).same (i 0)/\(o).same (i 0)/\True)/\c.same c/\True)/\d<=d/\d<=k/\d=cT p [] x)/\∀(a:Int×Int),let D:=decide (a.fst<(↑l.length:Int));let C:=bj l a.fst.toNat bn.off.dflt;let w:=a.snd+qK p x C;let e:=a.fst+(1:Int);let n:=i x;let h:=i w;let m:=i e;let g:=decide (dD p x<a.snd);d<=a.fst/\a.fst<=k/\a.snd=cT p (γd a.fst.toNat l) x->(D=true->d<=a.fst/\a.fst<(↑l.length:Int)/\a.fst.toNat<l.length/\(p.classes.length<=8/\d<=x/\x<dm p/\d<=C.bE)/\q w/\q e/\(((j bn.off l).same (j bn.off l)/\b.same b/\n.same n/\h.same h/\m.same m/\True)/\c.same c/\True)/\(d<=e/\e<=k/\w=cT p (γd e.toNat l) x)/\(k - e).toNat<(k - a.fst).toNat)/\(D=false->(p.classes.length<=8/\d<=x/\x<dm p/\d<=d)/\(g=true->(SV.bl false).same (γI (gd p l)))/\(g=false->q f/\(((j bn.off l).same (j bn.off l)/\b.same b/\E.same E/\True)/\c.same c/\True)/\(d<=f/\f<=dm p/\∀(r:Nat),(↑r:Int)<f->cT p l (↑r:Int)<=dD p (↑r:Int))/\(dm p - f).toNat<(dm p - x).toNat)))/\(decide (x<v)=false->(SV.bl true).same (γI (gd p l)))) (by kernel_rfl) ?_;simp only[vcs];have T:dm p=p.classes.length+12:=rfl;have P:∀x∈l,x.want.ok=true:=λx y=>(q x y).2.2;refine⟨⟨by omega,by omega,λr J=>by omega⟩,?_⟩;rintro i ⟨H,F,S⟩;refine⟨by omega,λN=>⟨⟨by omega,by omega,by simp[cT]⟩,?_⟩,?_⟩
 ·rintro⟨j,s⟩ ⟨u,o,B⟩;simp only at u o B ⊢;have Q:=@uh p i (l.take j.toNat) λx y=>P x (γm y);have z:(l.take j.toNat).length<=l.length:=by simp;omega
  refine⟨λt=>?_,λt=>?_⟩
  ·have O:=q _ (cO (d:=bn.off.dflt) (show j.toNat<l.length by omega));have R:=@rL p i _ O.2.2;grind[HO,aaJ]
  ·have:j.toNat=l.length:=by omega
   rw[this,Δ] at B;refine⟨⟨A,by omega,by omega,by omega⟩,λK=>?_,λM=>⟨by omega,⟨by omega,by omega,λr J=>?_⟩,by omega⟩⟩
   ·symm;rw[Bool.eq_false_iff];intro I;have:=o7.1 I i.toNat (by omega);grind
   grind
 grind[o7]
def Ix:bL:=⟨17,bp,.one cY,λp=>True,λp=> .si .i64 (bC p)⟩
def aaL (p:bp):Nat->cC
 |11=> .inv Int (λk=>⟨[(1,.ptr 0 0 20),(4,.si .i64 k)],[.cells p.ss 27 20 false]⟩) (λs=>iS s 4) (λk=>0<=k/\k<=p.classes.length/\∀c∈p.classes.take k.toNat,0<=c/\c<=4) (λk=>(p.classes.length - k).toNat) λ_ _=> .look
 |16=> .inv Int (λi=>⟨[(1,.ptr 0 0 20),(5,.si .i64 i)],[.cells p.ss 27 20 false]⟩) (λs=>iS s 5)
  (λi=>0<=i/\i<=p.offers.length/\gQ p [] p.offers=gQ p ((p.offers.take i.toNat).map Off.key) (p.offers.drop i.toNat)) (λi=>(p.offers.length - i).toNat)
  λi=>λ
   |26=> .inv Int (λk=>⟨[(1,.ptr 0 0 20),(5,.si .i64 i),(6,.ptr 1 0 8),(7,.si .i64 k)],[.cells p.ss 27 20 false,.cells (encS .off (bj p.offers i.toNat bn.off.dflt)) 39 8 false]⟩) (λs=>iS s 7)
    (λk=>0<=k/\k<=i/\∀j:Nat,j<k->(bj p.offers j bn.off.dflt).key≠(bj p.offers i.toNat bn.off.dflt).key) (λk=>(i - k).toNat) λ_ _=> .look
   |_=> .look
 |4=> .inv Int (λk=>⟨[(1,.ptr 0 0 20),(3,.si .i64 k)],[.cells p.ss 27 20 false]⟩) (λs=>iS s 3) (λk=>0<=k/\k<=6/\∀j:Nat,j<k->iu p j) (λk=>(6 - k).toNat) λ_ _=> .look
 |_=> .look
theorem aaM {b:bz}:(decide (b.a0=0)&&(decide (b.a1=0)&&(decide (b.a2=0)&&(decide (b.a3=0)&&(decide (b.a4=0)&&(decide (b.a5=0)&&true))))))=decide (b=bz.zero):=by
 simp_all[Dc,bz.zero]
theorem aaN {b c:bz}:(decide (b.a0=c.a0)&&(decide (b.a1=c.a1)&&(decide (b.a2=c.a2)&&(decide (b.a3=c.a3)&&(decide (b.a4=c.a4)&&(decide (b.a5=c.a5)&&true))))))=decide (b=c):=by
 grind[Dc]
theorem aaO {a:Type} {l:List a} {i:Int} {d x:a} (b:i<=l.length) (h:x∈l.take i.toNat):∃j:Nat,(j:Int)<i/\bj l j d=x:=by
 obtain⟨j,c,rfl⟩:=List.mem_iff_getElem.1 h;grind[cQ]
theorem h24:Holds Tryz.prog Ix:=by
 refine cG (L:=Iw::M1) Ix aaL (by simp only[γs];exact⟨h69,hM1⟩) ?_;intro p _;refine bO (let a:=(0:Int);let b:=Ξ .i64;let d:=γr .i64;let e:=(6:Int);let f:=(1:Int);let g:=(4:Int);let h:=bW .i64;let k:=b (bC p);let l:=γV 0 0 20;let z:=d 0;let m:=bq.cells (bp.ss p) 27 20 false;let af:=[p.cls.a0,p.cls.a1,p.cls.a2,p.cls.a3,p.cls.a4,p.cls.a5];let ag:=[p.opn.a0,p.opn.a1,p.opn.a2,p.opn.a3,p.opn.a4,p.opn.a5];let ah:=[p.supply.a0,p.supply.a1,p.supply.a2,p.supply.a3,p.supply.a4,p.supply.a5];let J:=p.classes.length;let o:=(↑J:Int);let L:=decide ((8:Int)<o);let E:=p.offers.length;let r:=(↑E:Int);let M:=decide ((160:Int)<r);let s:=(↑p.classes.length:Int);let A:=(↑p.offers.length:Int);let F:=gQ p [] p.offers;let B:=bn.off.dflt;let G:=γV 1 0 8;True/\((!p.supply.ok)=true->(d 4).same k)/\((!p.supply.ok)=false->(((l.same l/\z.same (b 0)/\True)/\m.same m/\True)/\a<=a/\a<=e/\∀(j:Nat),(↑j:Int)<a->iu p j)/\∀(x:Int),let t:=x+f;let N:=b t;let O:=decide (x<e);let K:=bj af x.toNat a;let P:=decide (K<a);let Q:=decide (g<K);let C:=bj ag x.toNat a;let R:=decide (C<a);let H:=bj ah x.toNat a;let S:=decide (K=a);let T:=h t/\((l.same l/\N.same N/\True)/\m.same m/\True)/\(a<=t/\t<=e/\∀(j:Nat),(↑j:Int)<t->iu p j)/\(e - t).toNat<(e - x).toNat;(a<=x/\x<=e/\∀(j:Nat),(↑j:Int)<x->iu p j)->(O=true->a<=x/\x<e/\x.toNat<6/\(P=true->(d 4).same k)/\(P=false->a<=x/\x<e/\x.toNat<6/\(Q=true->(d 4).same k)/\(Q=false->a<=x/\x<e/\x.toNat<6/\(R=true->(d 4).same k)/\(R=false->a<=x/\x<e/\x.toNat<6/\a<=x/\x<e/\x.toNat<6/\(decide (H<C)=true->(d 4).same k)/\(decide (H<C)=false->a<=x/\x<e/\x.toNat<6/\(S=true->a<=x/\x<e/\x.toNat<6/\a<=x/\x<e/\x.toNat<6/\(decide (C≠H)=true->(d 4).same k)/\(decide (C≠H)=false->T))/\(S=false->T))))))/\(O=false->(L=true->(d 3).same k)/\(L=false->(M=true->(d 3).same k)/\(M=false->(((l.same l/\z.same (b 0)/\True)/\m.same m/\True)/\a<=a/\a<=s/\∀(c:Int),c∈[]->a<=c/\c<=g)/\∀(x:Int),let U:=bj p.classes x.toNat a;let V:=decide (U<a);let W:=decide (g<U);let v:=x+f;let X:=b v;(a<=x/\x<=s/\∀(c:Int),c∈γd x.toNat p.classes->a<=c/\c<=g)->(decide (x<o)=true->a<=x/\x<o/\x.toNat<J/\(V=true->(d 4).same k)/\(V=false->a<=x/\x<o/\x.toNat<J/\(W=true->(d 4).same k)/\(W=false->h v/\((l.same l/\X.same X/\True)/\m.same m/\True)/\(a<=v/\v<=s/\∀(c:Int),c∈γd v.toNat p.classes->a<=c/\c<=g)/\(s - v).toNat<(s - x).toNat)))/\(decide (x<o)=false->(((l.same l/\z.same (b 0)/\True)/\m.same m/\True)/\a<=a/\a<=A/\F=F)/\∀(x:Int),let n:=bj p.offers x.toNat B;let i:=n.want;let D:=n.bE;let Y:=decide (D<a);let Z:=decide (n.value<f);let a6:=decide ((1000000:Int)<n.value);let I:=bq.cells [b D,b i.a0,b i.a1,b i.a2,b i.a3,b i.a4,b i.a5,b n.value] 39 8 false;let q:=x+f;let a7:=b q;let a8:=λ(u:Bool) ↦(decide (i.a0=a)&&(decide (i.a1=a)&&(decide (i.a2=a)&&(decide (i.a3=a)&&(decide (i.a4=a)&&(decide (i.a5=a)&&true))))))=u;a<=x/\x<=A/\F=gQ p (List.map Off.key (γd x.toNat p.offers)) (γ7 x.toNat p.offers)->(decide (x<r)=true->a<=x/\x<r/\x.toNat<E/\(Y=true->(d 6).same k)/\(Y=false->(decide (o<=D)=true->(d 6).same k)/\(decide (o<=D)=false->(Z=true->(d 4).same k)/\(Z=false->(a6=true->(d 4).same k)/\(a6=false->True/\((!i.ok)=true->(d 4).same k)/\((!i.ok)=false->(a8 true->(d 4).same k)/\(a8 false->(p.classes.length<=8/\1<=1000/\∀(x:Off),x∈[n]->a<=x.bE/\x.bE<s/\x.want.ok=true)/\((!gd p [n])=true->(d 14).same k)/\((!gd p [n])=false->(((l.same l/\(b x).same (b x)/\G.same G/\z.same (b 0)/\True)/\m.same m/\I.same I/\True)/\a<=a/\a<=x/\∀(j:Nat),(↑j:Int)<a->(bj p.offers j B).key≠n.key)/\∀(x_1:Int),let w:=x_1+f;let a9:=b x;let aa:=b w;let ab:=bj p.offers x_1.toNat B;let y:=ab.want;let ac:=decide (ab.bE=D);let ad:=h w/\((l.same l/\a9.same a9/\G.same G/\aa.same aa/\True)/\m.same m/\I.same I/\True)/\(a<=w/\w<=x/\∀(j:Nat),(↑j:Int)<w->(bj p.offers j B).key≠n.key)/\(x - w).toNat<(x - x_1).toNat;let ae:=λ(u:Bool) ↦(decide (y.a0=i.a0)&&(decide (y.a1=i.a1)&&(decide (y.a2=i.a2)&&(decide (y.a3=i.a3)&&(decide (y.a4=i.a4)&&(decide (y.a5=i.a5)&&true))))))=u;(a<=x_1/\x_1<=x/\∀(j:Nat),(↑j:Int)<x_1->(bj p.offers j B).key≠n.key)->(decide (x_1<x)=true->a<=x_1/\x_1<r/\x_1.toNat<E/\(ac=true->a<=x_1/\x_1<r/\x_1.toNat<E/\(ae true->(d 7).same k)/\(ae false->ad))/\(ac=false->ad))/\(decide (x_1<x)=false->h q/\((l.same l/\a7.same a7/\True)/\m.same m/\True)/\(a<=q/\q<=A/\F=gQ p (List.map Off.key (γd q.toNat p.offers)) (γ7 q.toNat p.offers))/\(A - q).toNat<(A - x).toNat)))))))))/\(decide (x<r)=false->z.same k))))))) (by kernel_rfl) ?_;simp only[aaM,aaN];simp only[vcs];have e4:hJ p=4->(4:Int)=bC p:=λh=>by simp[bC,h]
 have e3:hJ p=3->(3:Int)=bC p:=λh=>by simp[bC,h]
 refine⟨λhs=>e4 (P8 hs),λhs=>⟨⟨by omega,by omega,λj hj=>by omega⟩,?_⟩⟩;rintro k ⟨hk0,hk1,hk⟩;refine⟨λhlt=>?_,λhge=>?_⟩
 ·have bad:¬iu p k.toNat->(4:Int)=bC p:=λh=>e4 (P9 hs (by omega) h);have HT:iu p k.toNat->∀(j:Nat),(j:Int)<k+1->iu p j:=λh j hj=>by
   by_cases hj2:(j:Int)<k;·exact hk j hj2
   ·rw[show j=k.toNat from by omega];exact h
  repeat' (first|refine And.intro ?_ ?_|intro _)
  all_goals first
   |omega;|exact bad λhh=>by have h2:=od.1 hh;omega;|exact HT (od.2 (by omega)) _ (by assumption)
 ·have hall:∀j:Nat,j<6->iu p j:=λj hj=>hk j (by omega);refine⟨λh=>e3 (Di hs hall (.inl (by omega))),λh8=>⟨λh=>e3 (Di hs hall (.inr (by omega))),λh160=>⟨⟨by omega,by omega,by simp⟩,?_⟩⟩⟩;rintro i ⟨hi0,hi1,hi⟩;refine⟨λhlt=>?_,λhge=>?_⟩
  ·have hm:=cO (d:=0) (show i.toNat<p.classes.length by omega);refine⟨by omega,by omega,by omega,λh=>e4 (Dj hs hall (by omega) hm (by omega)),λh1=>⟨by omega,by omega,by omega,λh=>e4 (Dj hs hall (by omega) hm (by omega)),λh2=>⟨by omega,⟨by omega,by omega,?_⟩,by omega⟩⟩⟩;exact Qa hi0 hlt hi (by omega)
  ·rw[show i.toNat=p.classes.length from by omega,Δ] at hi;have hz:hJ p=0:=HS hs hall (by omega) hi;have ce:bC p=gQ p [] p.offers:=by simp[bC,hz]
   refine⟨⟨by omega,by omega⟩,?_⟩;rintro i ⟨hi0,hi1,hi⟩;refine⟨λhlt=>?_,λhge=>?_⟩
   ·rw[uj (d:=bn.off.dflt) hi0 hlt] at hi;generalize hx:bj p.offers i.toNat bn.off.dflt=x at hi ⊢;have oe:∀c:Int,c≠0->jJ p x=c->c=bC p:=λc hc h=>by
     rw[ce,hi];simp only[gQ,h];rw[if_pos hc]
    have se:∀c:Int,c≠0->kz p.classes.length x=c->c=bC p:=λc hc h=>oe c hc (by
     unfold jJ;rw[if_pos (by omega),h]);refine⟨by omega,by omega,by omega,λh1=>?_,λh1=>⟨λh2=>?_,λh2=>⟨λh3=>?_,λh3=>⟨λh4=>?_,λh4=>⟨λh5=>?_,λh5=>⟨λh6=>?_,λh6=>?_⟩⟩⟩⟩⟩⟩;·exact se 6 (by decide) (by unfold kz;rw[if_pos (by omega)])
    ·exact se 6 (by decide) (by unfold kz;rw[if_pos (by omega)])
    ·exact se 4 (by decide) (by unfold kz;rw[if_neg (by omega),if_pos (by omega)])
    ·exact se 4 (by decide) (by unfold kz;rw[if_neg (by omega),if_pos (by omega)])
    ·exact se 4 (by decide) (by unfold kz;rw[if_neg (by omega),if_neg (by omega),h5];rfl)
    ·have hs0:kz p.classes.length x=0:=by unfold kz;rw[if_neg (by omega),if_neg (by omega),h5];rfl
     exact oe 4 (by decide) (by simp[jJ,hs0,h6])
    ·have hs0:kz p.classes.length x=0:=by unfold kz;rw[if_neg (by omega),if_neg (by omega),h5];rfl
     refine⟨⟨by omega,by omega,λy hy=>?_⟩,λh7=>?_,λh7=>⟨⟨by omega,by omega,λj hj=>by omega⟩,?_⟩⟩
     ·rw[List.mem_singleton.1 hy];exact⟨by omega,by omega,h5⟩
     ·exact oe 14 (by decide) (by simp[jJ,hs0,h6,h7])
     ·have ho0:jJ p x=0:=by simp[jJ,hs0,h6,h7]
      rintro k ⟨hk0,hk1,hk⟩;have hnx:(bj p.offers k.toNat bn.off.dflt).key≠x.key->∀j:Nat,(j:Int)<k+1->(bj p.offers j bn.off.dflt).key≠x.key:=λh j hj=>by
       by_cases hj2:(j:Int)<k;·exact hk j hj2
       ·rw[show j=k.toNat from by omega];exact h
      refine⟨λhlt2=>⟨by omega,by omega,by omega,λh8=>⟨by omega,by omega,by omega,λh9=>?_,λh9=>⟨by omega,⟨by omega,by omega,?_⟩,by omega⟩⟩,λh8=>⟨by omega,⟨by omega,by omega,?_⟩,by omega⟩⟩,λIy=>⟨by omega,⟨by omega,by omega,?_⟩,by omega⟩⟩
      ·have hk9:(bj p.offers k.toNat bn.off.dflt).key=x.key:=by
        show ni.mk _ _=ni.mk _ _;rw[h8,h9]
       have hmem:x.key∈(p.offers.take i.toNat).map Off.key:=by
        rw[<-hk9];refine γg.2 ⟨_,?_,rfl⟩;rw[cQ (by omega)];exact List.mem_take_iff_getElem.2 ⟨k.toNat,by omega,rfl⟩
       rw[ce,hi];simp only[gQ,ho0,ne_eq,not_true,if_false,if_pos hmem]
      ·refine hnx λe=>h9 ?_;injection e
      ·refine hnx λe=>h8 ?_;injection e
      ·have hnm:x.key∉(p.offers.take i.toNat).map Off.key:=by
        intro hmem;obtain⟨o,ho,he⟩:=γg.1 hmem;obtain⟨j,hj,rfl⟩:=aaO (d:=bn.off.dflt) hi1 ho;exact hk j (by omega) he
       rw[hi,j4 (d:=bn.off.dflt) hi0 hlt,hx];simp only[gQ,ho0,ne_eq,not_true,if_false,if_neg hnm,γb,ι,γp]
   ·rw[show i.toNat=p.offers.length from by omega,εe] at hi;rw[ce,hi];rfl
def bV:List Off->Int
 |[]=>0
 |x::l=>x.value+bV l
def ez (p:bp) (c:List Int):Int:=if bC p=0 then bV (eE p c) else 0
theorem o8:∀{l m:List Off},bV (l++m)=bV l+bV m
 |[],m=>by simp[bV];|x::l,m=>by simp only[List.cons_append,bV,@o8 l m];omega
theorem aaQ {l:List Off} {i:Int} (a:0<=i) (h:i<l.length):bV (l.take (i+1).toNat)=bV (l.take i.toNat)+(bj l i.toNat bn.off.dflt).value:=by
 rw[j4 (d:=bn.off.dflt) a h,o8];simp[bV]
theorem aaR {p:bp} {c:List Int} (h:bC p=0):(eE p c).length<=160/\∀x∈eE p c,x∈p.offers:=by
 have d:=dn h;unfold eE;cases a:fR p.offers (-1) c with
 |none=>simp;|some r=>
  refine⟨?_,λx b=>HZ (by omega) a x b⟩;have e:=xN (by omega) a;have f:=d.2.1;grind
theorem sP {p:bp} (a:Good p):∀{l:List Off},(∀x∈l,x∈p.offers)->0<=bV l/\bV l<=1000000*l.length
 |[],_=>by simp[bV];|x::l,h=>by
  have c:=a.2.2.2.2 x (h x (by simp));have d:=@sP p a l λy b=>h y (by simp[b]);grind[bV]
def cmpL:List Int->List Int->Int
 |[],[]=>0
 |[],_::_=> -1
 |_::_,[]=>1
 |a::l,b::m=>if a<b then -1 else if b<a then 1 else cmpL l m
def r32:bL:=⟨27,List Int×List Int,.cons (dV (.i .i64)) (.one (dV (.i .i64))),λa=>a.1.length<=1000000000000/\a.2.length<=1000000000000,λa=> .si .i64 (cmpL a.1 a.2)⟩
def aaS (a:List Int×List Int):Nat->cC
 |2=> .inv Int (λi=>⟨[(0,.row (.i .i64) a.1),(1,.row (.i .i64) a.2),(5,.si .i64 i)],[]⟩) (λs=>iS s 5)
  (λi=>0<=i/\i<=a.1.length/\i<=a.2.length/\cmpL a.1 a.2=cmpL (a.1.drop i.toNat) (a.2.drop i.toNat)) (λi=>(a.1.length - i).toNat) λ_ _=> .look
 |_=> .look
theorem h32:Holds Tryz.prog r32:=by
 refine cG (L:=[]) r32 aaS (by simp) ?_;rintro⟨a,b⟩ ⟨w,u⟩;refine bO (let d:=(0:Int);let h:=γr .i64;let j:=Ξ .i64;let k:=(-1:Int);let q:=Ψ (bn.i .i64) a;let n:=Ψ (bn.i .i64) b;let t:=h 0;let m:=(↑a.length:Int);let r:=(↑b.length:Int);let e:=(↑a.length:Int);let f:=(↑b.length:Int);let g:=j (cmpL a b);(((q.same q/\n.same n/\t.same (j 0)/\True)/\True)/\d<=d/\d<=m/\d<=r/\cmpL a b=cmpL a b)/\∀(x:Int),let o:=bj a x.toNat d;let p:=bj b x.toNat d;let c:=x+(1:Int);let l:=j c;d<=x/\x<=m/\x<=r/\cmpL a b=cmpL (γ7 x.toNat a) (γ7 x.toNat b)->(decide (x<e)=true->(decide (x<f)=true->d<=x/\x<e/\x.toNat<a.length/\d<=x/\x<f/\x.toNat<b.length/\(decide (o<p)=true->(h k).same g)/\(decide (o<p)=false->d<=x/\x<e/\x.toNat<a.length/\d<=x/\x<f/\x.toNat<b.length/\(decide (p<o)=true->(h 1).same g)/\(decide (p<o)=false->bW .i64 c/\((q.same q/\n.same n/\l.same l/\True)/\True)/\(d<=c/\c<=m/\c<=r/\cmpL a b=cmpL (γ7 c.toNat a) (γ7 c.toNat b))/\(m - c).toNat<(m - x).toNat)))/\(decide (x<f)=false->(decide (e<f)=true->(h k).same g)/\(decide (e<f)=false->(decide (f<e)=true->(h 1).same g)/\(decide (f<e)=false->t.same g))))/\(decide (x<e)=false->(decide (e<f)=true->(h k).same g)/\(decide (e<f)=false->(decide (f<e)=true->(h 1).same g)/\(decide (f<e)=false->t.same g)))) (by kernel_rfl) ?_;conv=>zeta
 simp only at w u;simp only[vcs];refine⟨⟨by omega,by omega,by omega⟩,?_⟩;rintro i ⟨j,v,z,h⟩;refine⟨λs=>⟨λk=>?_,λk=>?_⟩,λs=>?_⟩
 ·rw[uj (d:=0) j s,uj (d:=0) j k] at h;simp only[cmpL] at h;omega
 ·rw[uj (d:=0) j s,show i.toNat=b.length from by omega,εe] at h;grind[cmpL]
 ·rw[show i.toNat=a.length from by omega,εe] at h;refine⟨λk=>?_,λk=>⟨λy=>by omega,λy=>?_⟩⟩
  ·rw[<-Int.toNat_natCast a.length,uj (d:=0) (by omega) k] at h;exact h.symm
  ·rw[show a.length=b.length from by omega,εe] at h;exact h.symm
def dP (l:List bz):bz:=⟨(l.map bz.a0).sum,(l.map bz.a1).sum,(l.map bz.a2).sum,(l.map bz.a3).sum,(l.map bz.a4).sum,(l.map bz.a5).sum⟩
def ca (p:bp) (l:List Int):List Off:=l.map λi=>bj p.offers i.toNat bn.off.dflt
def iJ (p:bp) (L:List Off):Prop:=(L.map Off.bE).Nodup/\(dP (L.map Off.want)).le p.supply=true/\(dP (L.map (dU p))).le p.opn=true
instance (p:bp) (L:List Off):Decidable (iJ p L):=by unfold iJ;infer_instance
def lz (p:bp) (l:List Int):Bool:=decide (iJ p (ca p l))
def iy (a b:bz) (k:Int):bz:=⟨if 0<k then b.a0 else a.a0,if 1<k then b.a1 else a.a1,if 2<k then b.a2 else a.a2,if 3<k then b.a3 else a.a3,if 4<k then b.a4 else a.a4,if 5<k then b.a5 else a.a5⟩
def bz.add (a b:bz):bz:=⟨a.a0+b.a0,a.a1+b.a1,a.a2+b.a2,a.a3+b.a3,a.a4+b.a4,a.a5+b.a5⟩
theorem vM {l m:List bz}:dP (l++m)=(dP l).add (dP m):=by simp[dP,bz.add]
theorem rN {b:bz} {l:List bz}:dP (b::l)=b.add (dP l):=by simp[dP,bz.add]
def bz.bd (b:bz) (n:Int):Prop:=(0<=b.a0/\b.a0<=n)/\(0<=b.a1/\b.a1<=n)/\(0<=b.a2/\b.a2<=n)/\(0<=b.a3/\b.a3<=n)/\(0<=b.a4/\b.a4<=n)/\(0<=b.a5/\b.a5<=n)
theorem Iz:∀{l:List bz},(∀b∈l,b.ok=true)->(dP l).bd (4*l.length)
 |[],_=>by simp[dP,bz.bd];|b::l,h=>by
  have e:=bz.eL.1 (h b (by simp));have d:=@Iz l λc a=>h c (by simp[a]);rw[rN];simp only[bz.bd,bz.add,γy] at d ⊢;omega
theorem aaT {p:bp} {x:Off} (h:x.want.ok=true):(dU p x).ok=true:=by
 have a:=bz.eL.1 h;rw[bz.eL];simp only[dU,eM,oc];omega
theorem xY {p:bp} (b:Good p) {l:List Int} (h:∀i∈l,0<=i/\i<p.offers.length):∀x∈ca p l,x∈p.offers:=by
 intro x a;obtain⟨i,c,rfl⟩:=γg.1 a;grind[cO]
def j7 (p:bp) (i:Int):Int:=(bj p.offers i.toNat bn.off.dflt).value
def better (a b:Alloc):Alloc:=if b.value<a.value\/a.value=b.value/\cmpL a.chosen b.chosen<0 then a else b
def lA (p:bp):Nat->Int->Alloc->Alloc->Alloc
 |0,_,_,b=>b
 |k+1,i,a,b=>lA p k (i+1) a (if lz p (a.chosen++[i]) then lA p k (i+1) ⟨a.chosen++[i],a.value+j7 p i⟩ (better ⟨a.chosen++[i],a.value+j7 p i⟩ b) else b)
def Qx (p:bp) (i:Int):Nat:=(p.offers.length - i).toNat
def Qy (p:bp) (a:Alloc) (f:Int) (b:Alloc):Alloc:=lA p (Qx p f) f a (better a b)
def cu (p:bp):Alloc:=Qy p ⟨[],0⟩ 0 ⟨[],0⟩
def hasB (m b:Int):Bool:=decide (eI.rG .i64 (m / 2^b.toNat) 1=1)
def o9 (p:bp) (w:Int) (n:Nat):Int:=((τ n).map λi:Nat=>if(i:Int)≠w then(2:Int)^i else 0).sum
theorem aaU (p:bp) (w:Int) (n:Nat):o9 p w (n+1)=o9 p w n+if(n:Int)≠w then(2:Int)^n else 0:=by
 unfold o9;rw[δr,γb];simp
theorem IA (p:bp) (w:Int):∀n:Nat,0<=o9 p w n/\o9 p w n<2^n
 |0=>by simp[o9];|n+1=>by
  have h:=IA p w n;rw[aaU,Int.pow_succ];split<;>omega
def pd (p:bp) (m:Int):bp:={p with offers:=p.offers.filter λx=>hasB m x.bE}
theorem IB {p:bp} (h:Good p) (m:Int):Good (pd p m):=by
 refine⟨h.1,?_,h.2.2.1,h.2.2.2.1,λx hx=>h.2.2.2.2 x (γh.1 hx).1⟩;have:=γF (λx:Off=>hasB m x.bE) p.offers;have:=h.2.1;simp only[pd];omega
def rO (p:bp) (m:Int):Int:=(cu (pd p m)).value
theorem vN {p:bp} {c:List Int} (e:dc p c=0):bC p=0/\jo p c=true/\Good p/\c.length<=160/\∀i∈c,0<=i/\i<p.offers.length:=by
 have b:bC p=0:=by
  unfold dc at e;omega
 have d:jo p c=true:=by
  unfold dc at e;grind
 have f:=dn b;obtain⟨r,g⟩:=γo.1 d;obtain⟨h,a⟩:=DD (by omega) g;refine⟨b,d,f,?_,a⟩;have k:=xN (by omega) g;have j:=f.2.1;grind
def kF (p:bp) (b:Int) (s:Int×Int) (i:Int):Int×Int:=if(bj p.offers i.toNat bn.off.dflt).bE=b then((bj p.offers i.toNat bn.off.dflt).value,s.2) else(s.1,s.2+(bj p.offers i.toNat bn.off.dflt).value)
def pZ (p:bp) (c:List Int) (b:Int):Int×Int:=c.foldl (kF p b) (0,0)
theorem Qz {p:bp} (hg:Good p) (b:Int):∀{c:List Int} {s:Int×Int} {B:Int},(∀i∈c,0<=i/\i<p.offers.length)->(0<=s.1/\s.1<=1000000)->(0<=s.2/\s.2<=B)->(0<=(c.foldl (kF p b) s).1/\(c.foldl (kF p b) s).1<=1000000)/\0<=(c.foldl (kF p b) s).2/\(c.foldl (kF p b) s).2<=B+1000000*c.length
 |[],s,B,_,h1,h2=>by simp;omega;|i::c,s,B,hc,h1,h2=>by
  have hi:=hc i (by simp);have hv:=hg.2.2.2.2 _ (cO (d:=bn.off.dflt) (show i.toNat<p.offers.length by omega));have hs:(0<=(kF p b s i).1/\(kF p b s i).1<=1000000)/\0<=(kF p b s i).2/\(kF p b s i).2<=B+1000000:=by
   unfold kF;split<;>simp only<;>omega
  have:=Qz hg b (c:=c) (λj hj=>hc j (by simp[hj])) hs.1 hs.2;simp only[γO,γy] at this ⊢;omega
theorem aaV {p:bp} (hg:Good p) (b:Int) {c:List Int} (hc:∀i∈c,0<=i/\i<p.offers.length) (hl:c.length<=160):(0<=(pZ p c b).1/\(pZ p c b).1<=1000000)/\0<=(pZ p c b).2/\(pZ p c b).2<=160000000:=by
 have:=Qz hg b (c:=c) (s:=(0,0)) (B:=0) hc (by simp) (by simp);unfold pZ;omega
def DG (p:bp):Int:=o9 p (-1) p.classes.length
def DI (p:bp) (c:List Int):Int:=if dc p c≠0 then dc p c else if ez p c<rO p (DG p) then 13 else 0
theorem QA {p:bp} {c:List Int} (h:DI p c=0):dc p c=0:=by
 unfold DI at h;split at h;·rename_i h1;exact absurd h h1
 ·rename_i h1;exact ω.1 h1
structure IC (p:bp) (fs:List Int) (l o:bz) (L:List Off):Prop where
 nd:(L.map Off.bE).Nodup
 mem:∀x∈L,x∈p.offers/\x.bE∈fs
 w:(dP (L.map Off.want)).le l=true
 o:(dP (L.map (dU p))).le o=true
theorem QB {p:bp} {fs:List Int} {l o:bz}:∀{xs:List Off} {v:Int},v<=xs.foldl (kC p fs l o) v/\∀x∈xs,x.want.le l=true->(dU p x).le o=true->x.value+gA p fs (l.sub x.want) (o.sub (dU p x))<=xs.foldl (kC p fs l o) v
 |[],v=>by simp;|y::xs,v=>by
  obtain⟨h1,h2⟩:=@QB p fs l o xs (kC p fs l o v y);have hv:v<=kC p fs l o v y:=by
   unfold kC;split<;>omega
  refine⟨by simp only[γO];omega,λx hx hw ho=>?_⟩;simp only[γO];rcases γq.1 hx with rfl|hx
  ·have:x.value+gA p fs (l.sub x.want) (o.sub (dU p x))<=kC p fs l o v x:=by
    unfold kC;rw[if_pos (by simp[hw,ho])];omega
   omega
  ·exact h2 x hx hw ho
theorem fold_at {p:bp} {fs:List Int} {l o:bz}:∀{xs:List Off} {v:Int},xs.foldl (kC p fs l o) v=v\/∃x∈xs,x.want.le l=true/\(dU p x).le o=true/\xs.foldl (kC p fs l o) v=x.value+gA p fs (l.sub x.want) (o.sub (dU p x))
 |[],v=>by simp;|y::xs,v=>by
  simp only[γO];rcases @fold_at p fs l o xs (kC p fs l o v y) with h|⟨x,hx,h1,h2,h3⟩
  ·rw[h];unfold kC;split
   ·rename_i hc;simp only[ζ] at hc;by_cases hm:v<=y.value+gA p fs (l.sub y.want) (o.sub (dU p y));·exact .inr ⟨y,by simp,hc.1,hc.2,by omega⟩
    ·left;omega
   ·exact .inl rfl
  ·exact .inr ⟨x,by simp[hx],h1,h2,h3⟩
theorem aaW {x:bz} {s t:List bz}:dP (s++x::t)=x.add (dP (s++t)):=by
 rw[vM,vM,rN];simp only[bz.add,bz.mk.injEq];omega
theorem aaX {x:Off} {s t:List Off}:bV (s++x::t)=x.value+bV (s++t):=by
 rw[o8,o8];simp only[bV];omega
theorem IE {p:bp} (c:Good p) {L:List Off} (h:∀x∈L,x∈p.offers):(dP (L.map Off.want)).bd (4*L.length)/\(dP (L.map (dU p))).bd (4*L.length):=by
 have e:∀x∈L,x.want.ok=true:=λx d=>(c.2.2.2.2 x (h x d)).2.2.1;have a:=@Iz (L.map Off.want) (λb f=>by grind);grind[Iz,aaT]
theorem vO {p:bp} (hg:Good p):∀{fs:List Int} {l o:bz} {L:List Off},IC p fs l o L->bV L<=gA p fs l o
 |[],l,o,L,h=>by
  have:L=[]:=by
   cases L with
   |nil=>rfl;|cons x L=>exact absurd (h.mem x (by simp)).2 (by simp)
  subst this;simp[bV,gA];|f::fs,l,o,L,h=>by
  obtain⟨g1,g2⟩:=@QB p fs l o (iZ p f) (gA p fs l o);have hval:gA p (f::fs) l o=(iZ p f).foldl (kC p fs l o) (gA p fs l o):=rfl;rw[hval];by_cases hx:∃x∈L,x.bE=f
  ·obtain⟨x,hx,hf⟩:=hx;obtain⟨s,t,rfl⟩:=List.append_of_mem hx;obtain⟨nd,mem,w,o'⟩:=h;have hmx:=mem x hx;have hst:∀y∈s++t,y∈p.offers:=λy hy=>(mem y (by simp only[Γ,γq] at hy ⊢;rcases hy with h|h<;>simp[h])).1;obtain⟨b1,b2⟩:=IE hg hst;rw[γb,ι,aaW,bz.le_iff,<-γb] at w o';simp only[bz.add,bz.bd] at w o' b1 b2;have hw:x.want.le l=true:=by rw[bz.le_iff];omega
   have ho:(dU p x).le o=true:=by rw[bz.le_iff];omega
   have hg2:=g2 x (γh.2 ⟨hmx.1,by simp[hf]⟩) hw ho;rw[γb,ι,γz] at nd;have hne:∀y∈s++t,y.bE≠f:=λy hy=>by
    rw[<-hf];rcases Γ.1 hy with hy|hy;·exact nd.2.2 _ (γ3 hy) _ (by simp)
    ·intro e;have:=(γC.1 nd.2.1).1;exact this (e▸γ3 hy)
   have hrec:bV (s++t)<=gA p fs (l.sub x.want) (o.sub (dU p x)):=vO hg
    {nd:=by
      rw[γb,γz];exact⟨nd.1,(γC.1 nd.2.1).2,λa ha b hb=>nd.2.2 a ha b (by simp[hb])⟩
     mem:=λy hy=>by
      have h1:=mem y (by simp only[Γ,γq] at hy ⊢;rcases hy with h|h<;>simp[h]);refine⟨h1.1,?_⟩;rcases γq.1 h1.2 with h2|h2;·exact absurd h2 (hne y hy)
      ·exact h2
     w:=by rw[bz.le_iff];simp only[bz.sub];omega
     o:=by rw[bz.le_iff];simp only[bz.sub];omega};rw[aaX];omega
  ·have:=vO hg (fs:=fs) (l:=l) (o:=o) (L:=L) ⟨h.nd,λy hy=>by
    have h1:=h.mem y hy;refine⟨h1.1,?_⟩;rcases γq.1 h1.2 with h2|h2;·exact absurd ⟨y,hy,h2⟩ hx
    ·exact h2,h.w,h.o⟩;omega
theorem xZ {p:bp} (hg:Good p):∀{fs:List Int} {l o:bz},fs.Nodup->bz.zero.le l=true->bz.zero.le o=true->∃L,IC p fs l o L/\bV L=gA p fs l o
 |[],l,o,_,hl,ho=>⟨[],⟨by simp,by simp,hl,ho⟩,rfl⟩
 |f::fs,l,o,hn,hl,ho=>by
  have hn2:=γC.1 hn;have hval:gA p (f::fs) l o=(iZ p f).foldl (kC p fs l o) (gA p fs l o):=rfl;rw[hval];rcases @fold_at p fs l o (iZ p f) (gA p fs l o) with h|⟨x,hx,h1,h2,h3⟩
  ·rw[h];obtain⟨L,hL,hv⟩:=xZ hg (l:=l) (o:=o) hn2.2 hl ho;exact⟨L,⟨hL.nd,λy hy=>⟨(hL.mem y hy).1,by simp[(hL.mem y hy).2]⟩,hL.w,hL.o⟩,hv⟩
  ·rw[h3];have w1:=bz.le_iff.1 h1;have w2:=bz.le_iff.1 h2;obtain⟨L,hL,hv⟩:=xZ hg (l:=l.sub x.want) (o:=o.sub (dU p x)) hn2.2 (by rw[bz.le_iff];simp only[bz.zero,bz.sub];omega) (by rw[bz.le_iff];simp only[bz.zero,bz.sub];omega);have hx2:=γh.1 hx;have x4:x.bE=f:=by simpa using hx2.2
   refine⟨x::L,⟨?_,?_,?_,?_⟩,by simp only[bV,hv]⟩
   ·rw[ι,γC];refine⟨λhm=>?_,hL.nd⟩;obtain⟨y,hy,he⟩:=γg.1 hm;exact hn2.1 (by rw[<-x4,<-he];exact(hL.mem y hy).2)
   ·intro y hy;rcases γq.1 hy with rfl|hy;·exact⟨hx2.1,by simp[x4]⟩
    ·exact⟨(hL.mem y hy).1,by simp[(hL.mem y hy).2]⟩
   ·have:=bz.le_iff.1 hL.w;rw[ι,rN,bz.le_iff];simp only[bz.add,bz.sub] at this ⊢;omega
   ·have:=bz.le_iff.1 hL.o;rw[ι,rN,bz.le_iff];simp only[bz.add,bz.sub] at this ⊢;omega
theorem rP {p:bp} {l m:List Int}:ca p (l++m)=ca p l++ca p m:=by simp[ca]
theorem oh {p:bp} {i:Int} {l:List Int}:ca p (i::l)=bj p.offers i.toNat bn.off.dflt::ca p l:=rfl
def vP (p:bp) (l:List Int):Prop:=∀i∈l,0<=i/\i<p.offers.length
theorem zY {p:bp} (f:Good p) {L M:List Off} (c:∀x∈M,x∈p.offers) (h:iJ p (L++M)):iJ p L:=by
 obtain⟨e,d⟩:=IE f c;obtain⟨g,a,b⟩:=h;rw[γb,vM,bz.le_iff] at a b;simp only[bz.add,bz.bd] at a b e d;refine⟨?_,?_,?_⟩<;>grind[bz.le_iff]
theorem QC {p:bp} (a:Good p) {l m:List Int} (b:vP p m) (h:lz p (l++m)=true):lz p l=true:=by
 unfold lz at h ⊢;have h:=of_decide_eq_true h;rw[rP] at h;exact decide_eq_true (zY a (xY a b) h)
def kG (i:Int) (k:Nat) (t:List Int):Prop:=t.Pairwise (·<·)/\∀j∈t,i<=j/\j<i+k
theorem QE {a b:Alloc}:a.value<=(better a b).value/\b.value<=(better a b).value:=by
 grind[better]
theorem QF {a b:Alloc}:better a b=a\/better a b=b:=by
 grind[better]
theorem zZ {p:bp}:∀{k:Nat} {i:Int} {a b:Alloc},b.value<=(lA p k i a b).value
 |0,_,_,b=>by simp[lA];|k+1,i,a,b=>by
  simp only[lA];refine ζb ?_ zZ;split;·exact ζb QE.2 zZ
  ·omega
theorem IG {p:bp} (h:Good p):∀{k:Nat} {i:Int} {a b:Alloc} {t:List Int},0<=i->i+k<=p.offers.length->t≠[]->kG i k t->lz p (a.chosen++t)=true->a.value+bV (ca p t)<=(lA p k i a b).value
 |0,i,a,b,t,_,_,u,c,_=>by
  cases t with
  |nil=>simp_all;|cons j t=>
   have:=c.2 j (by simp);omega
 |k+1,i,a,b,t,w,x,u,c,s=>by
  cases t with
  |nil=>simp_all;|cons j t=>
   have v:=c.2 j (by simp);have q:=γx.1 c.1;simp only[lA];by_cases l:j=i
   ·subst l;have d:vP p t:=λm e=>by
     have:=c.2 m (by simp[e]);omega
    have f:lz p (a.chosen++[j]++t)=true:=by simp_all
    have g:lz p (a.chosen++[j])=true:=QC h d f;rw[if_pos g];refine ζb ?_ zZ;rw[oh];simp only[bV];cases t with
    |nil=>
     refine ζb ?_ zZ;refine ζb ?_ QE.1;simp[bV,ca,j7];|cons o n=>
     have:=IG h (k:=k) (i:=j+1) (a:=⟨a.chosen++[j],a.value+j7 p j⟩) (b:=better ⟨a.chosen++[j],a.value+j7 p j⟩ b) (t:=o::n) (by omega) (by omega) (by simp) ⟨q.2,λm e=>by
      have r:=c.2 m (List.mem_cons_of_mem _ e);grind⟩ f;grind[j7]
   ·exact IG h (by omega) (by omega) (by simp) ⟨c.1,λm e=>by
     have r:=c.2 m e;grind⟩ s
theorem II {p:bp} (g:Good p):∀{k:Nat} {i:Int} {a b:Alloc},lA p k i a b=b\/∃t,t≠[]/\kG i k t/\lz p (a.chosen++t)=true/\lA p k i a b=⟨a.chosen++t,a.value+bV (ca p t)⟩
 |0,i,a,b=> .inl rfl
 |k+1,i,a,b=>by
  have l:∀{t:List Int},kG (i+1) k t->kG i (k+1) t:=λh=>⟨h.1,λj c=>by have:=h.2 j c;omega⟩;simp only[lA];rcases @II p g k (i+1) a (if lz p (a.chosen++[i]) then lA p k (i+1) ⟨a.chosen++[i],a.value+j7 p i⟩ (better ⟨a.chosen++[i],a.value+j7 p i⟩ b) else b) with h|⟨t,m,d,n,o⟩
  ·rw[h];split
   ·rename_i q;have e:(⟨a.chosen++[i],a.value+j7 p i⟩:Alloc)=⟨a.chosen++[i],a.value+bV (ca p [i])⟩:=by simp[bV,ca,j7]
    have f:kG i (k+1) [i]:=⟨by simp,λj c=>by grind⟩;rcases @II p g k (i+1) ⟨a.chosen++[i],a.value+j7 p i⟩ (better ⟨a.chosen++[i],a.value+j7 p i⟩ b) with h|⟨t,m,d,n,o⟩;·grind[QF]
    ·refine .inr ⟨i::t,by simp,⟨γx.2 ⟨λj c=>by have:=d.2 j c;omega,d.1⟩,λj c=>?_⟩,by simp_all,?_⟩
     ·rcases γq.1 c with rfl|c;·omega
      ·have:=d.2 j c;omega
     grind[oh,bV,j7]
   simp_all
  grind
theorem IJ {p:bp}:cu p=lA p p.offers.length 0 ⟨[],0⟩ ⟨[],0⟩:=by
 grind[Qx,cu,Qy,QF]
theorem IK {p:bp} (f:Good p) {t:List Int} (e:kG 0 p.offers.length t) (d:lz p t=true):bV (ca p t)<=(cu p).value:=by
 rw[IJ];by_cases c:t=[]
 ·subst c;exact zZ
 ·have:=IG f (k:=p.offers.length) (i:=0) (a:=⟨[],0⟩) (b:=⟨[],0⟩) (t:=t) (by omega) (by omega) c e d;simp_all
theorem QG {p:bp} (a:Good p):lz p []=true:=by
 have b:=bz.eL.1 a.2.2.1;have c:=bz.eL.1 a.2.2.2.1;unfold lz;refine decide_eq_true ⟨by simp[ca],?_,?_⟩;all_goals simp_all[bz.le_iff,ca,dP]
theorem IL {p:bp} (a:Good p):∃t,kG 0 p.offers.length t/\lz p t=true/\cu p=⟨t,bV (ca p t)⟩:=by
 rw[IJ];rcases @II p a p.offers.length 0 ⟨[],0⟩ ⟨[],0⟩ with h|⟨t,b,e,c,d⟩;·exact⟨[],⟨by simp,by simp⟩,QG a,by rw[h];rfl⟩
 grind
def QH:Bool:=(τ 256).all λm=>[0,1,2,3,4,5,6,7].all λb:Int=>hasB m b==decide (b∈eO m)
theorem aaY:QH=true:=by kernel_rfl
theorem IP {m b:Int} (h0:0<=m) (h1:m<256) (h2:0<=b) (h3:b<8):hasB m b=decide (b∈eO m):=by
 have h:=aaY;simp only[QH,Φ,γL] at h;have h:=h m.toNat (by omega) b (by
  have:b=0\/b=1\/b=2\/b=3\/b=4\/b=5\/b=6\/b=7:=by omega
  rcases this with rfl|rfl|rfl|rfl|rfl|rfl|rfl|rfl<;>simp);rw[show((m.toNat:Nat):Int)=m by omega] at h;simpa using h
theorem DJ {p:bp} {t:List Int} (h:kG 0 p.offers.length t):vP p t:=λj hj=>by
 have:=h.2 j hj;omega
theorem aaZ {p:bp} (hg:Good p) {m:Int} (h0:0<=m) (h1:m<256):rO p m<=gA p (eO m) p.supply p.opn:=by
 obtain⟨t,ht,hr,he⟩:=IL (IB hg m);unfold rO;rw[he];have hF:=of_decide_eq_true hr;refine vO hg ⟨hF.1,λx hx=>?_,hF.2.1,hF.2.2⟩;have hxm:=xY (IB hg m) (DJ ht) x hx;have x4:=γh.1 hxm;have hb:=hg.2.2.2.2 x x4.1;have h8:=hg.1;refine⟨x4.1,?_⟩;have:=IP h0 h1 hb.1 (by omega);rw[x4.2] at this;exact of_decide_eq_true this.symm
theorem IQ {L M:List Off} (h:L.Perm M):bV L=bV M:=by
 induction h with
 |nil=>rfl;|cons x _ ih=>simp only[bV];omega;|swap x y l=>simp only[bV];omega;|trans _ _ a b=>omega
theorem DK {L M:List bz} (h:L.Perm M):dP L=dP M:=by
 induction h with
 |nil=>rfl;|cons x _ ih=>rw[rN,rN,ih];|swap x y l=>
  simp only[rN,bz.add,bz.mk.injEq];omega;|trans _ _ a b=>rw[a,b]
theorem DL {p:bp} {L M:List Off} (h:L.Perm M) (hF:iJ p L):iJ p M:=by
 obtain⟨h1,h2,h3⟩:=hF;refine⟨((h.map _).nodup_iff).1 h1,?_,?_⟩;·rw[<-DK (h.map _)];exact h2
 ·rw[<-DK (h.map _)];exact h3
theorem IU (q:Off->Bool):∀(O pre:List Off),∃t:List Int,t.Pairwise (·<·)/\(∀j∈t,(pre.length:Int)<=j/\j<pre.length+O.length)/\(t.map λj=>bj (pre++O) j.toNat bn.off.dflt)=O.filter q
 |[],pre=>⟨[],by simp,by simp,by simp⟩
 |x::O,pre=>by
  obtain⟨t,h1,h2,h3⟩:=IU q O (pre++[x]);have e:pre++[x]++O=pre++x::O:=by simp
  rw[e] at h3;have hl:((pre++[x]).length:Int)=pre.length+1:=by simp
  have hr:∀j∈t,(pre.length:Int)+1<=j/\j<pre.length+1+O.length:=λj hj=>by
   have:=h2 j hj;omega
  by_cases hq:q x=true
  ·refine⟨(pre.length:Int)::t,γx.2 ⟨λj hj=>by have:=hr j hj;omega,h1⟩,λj hj=>?_,?_⟩
   ·simp only[γy];rcases γq.1 hj with rfl|hj;·omega
    ·have:=hr j hj;omega
   ·rw[ι,h3,δy,if_pos hq];congr 1;rw[cQ (by simp)];simp
  ·refine⟨t,h1,λj hj=>?_,?_⟩
   ·have:=hr j hj;simp only[γy];omega
   ·rw[h3,δy,if_neg hq]
theorem IV {p:bp}:∀{l:List Off} {seen:List ni},gQ p seen l=0->(l.map Off.key).Nodup/\∀x∈l,x.key∉seen
 |[],_,_=>by simp;|o::r,seen,h=>by
  simp only[gQ] at h;split at h;·rename_i h1;exact absurd h h1
  ·split at h;·cases h
   ·rename_i h1 h2;obtain⟨k1,k2⟩:=IV h;refine⟨?_,λx hx=>?_⟩
    ·rw[ι,γC];refine⟨λhm=>?_,k1⟩;obtain⟨y,hy,he⟩:=γg.1 hm;exact k2 y hy (by simp[he])
    ·rcases γq.1 hx with rfl|hx;·exact h2
     ·exact λhm=>k2 x hx (by simp[hm])
theorem DN {α β:Type} (f:α->β):∀{l:List α},(l.map f).Nodup->l.Nodup
 |[],_=>by simp;|x::l,h=>by
  rw[ι,γC] at h;exact γC.2 ⟨λhm=>h.1 (γ3 hm),DN f h.2⟩
theorem IW {p:bp} (h:bC p=0):p.offers.Nodup:=by
 unfold bC at h;split at h;·rename_i h1;exact absurd h h1
 ·exact DN _ (IV h).1
theorem DO (m:Int):(eO m).Nodup:=by
 unfold eO;exact ζJ δl (by decide)
theorem aa0 {p:bp} (hc:bC p=0) {m:Int} (h0:0<=m) (h1:m<256):gA p (eO m) p.supply p.opn<=rO p m:=by
 have hg:=dn hc;have q1:=bz.eL.1 hg.2.2.1;have q2:=bz.eL.1 hg.2.2.2.1;obtain⟨L,hL,hv⟩:=xZ hg (DO m) (l:=p.supply) (o:=p.opn) (by rw[bz.le_iff];simp only[bz.zero];omega) (by rw[bz.le_iff];simp only[bz.zero];omega);obtain⟨t,t1,t2,t3⟩:=IU (λx=>decide (x∈L)) (pd p m).offers [];have t4:ca (pd p m) t=(pd p m).offers.filter λx=>decide (x∈L):=t3;have hLm:∀x∈L,x∈(pd p m).offers:=λx hx=>by
  have hx1:=hL.mem x hx;have hb:=hg.2.2.2.2 x hx1.1;have h8:=hg.1;refine γh.2 ⟨hx1.1,?_⟩;rw[IP h0 h1 hb.1 (by omega)];exact decide_eq_true hx1.2
 have hnd:((pd p m).offers.filter λx=>decide (x∈L)).Nodup:=ζJ (List.Sublist.trans δl δl) (IW hc);have hperm:L.Perm (ca (pd p m) t):=by
  rw[t4];refine(List.perm_ext_iff_of_nodup (DN _ hL.nd) hnd).2 λx=>?_;rw[γh,decide_eq_true_eq];exact⟨λhx=>⟨hLm x hx,hx⟩,λhx=>hx.2⟩
 have hF:iJ (pd p m) L:=⟨hL.nd,hL.w,hL.o⟩;have hr:lz (pd p m) t=true:=decide_eq_true (DL hperm hF);have:=IK (IB hg m) ⟨t1,λj hj=>by have:=t2 j hj;simp only[ε3] at this;omega⟩ hr;rw[<-IQ hperm,hv] at this;exact this
theorem aa2 {p:bp} (hc:bC p=0) {m:Int} (h0:0<=m) (h1:m<256):rO p m=gA p (eO m) p.supply p.opn:=by
 have a:=aaZ (dn hc) h0 h1;have b:=aa0 hc h0 h1;omega
theorem QI {p:bp} (hc:bC p=0) {m:Int} (h0:0<=m) (h1:m<2^p.classes.length):gR p m=rO p m:=by
 have hf:fz p m=0:=by
  unfold fz;rw[if_neg (by simp[hc]),if_neg (by omega)]
 have h2:=pY (dn hc).1;unfold gR;rw[if_pos hf,aa2 hc h0 (by omega)];rfl
def IX:Bool:=(τ 9).all λn=>decide (o9 bp.zero (-1) n=2^n - 1)&&(τ n).all λb=>decide (o9 bp.zero b n=iw (2^n - 1) b)
theorem QJ:IX=true:=by kernel_rfl
theorem QK {p:bp} (h:p.classes.length<=8):o9 p (-1) p.classes.length=allM p:=by
 have hk:=QJ;simp only[IX,Φ,γL,ζ,decide_eq_true_eq] at hk;exact(hk p.classes.length (by omega)).1
theorem QL {p:bp} (h:p.classes.length<=8) {b:Int} (h0:0<=b) (h1:b<p.classes.length):o9 p b p.classes.length=iw (allM p) b:=by
 have hk:=QJ;simp only[IX,Φ,γL,ζ,decide_eq_true_eq] at hk;have:=(hk p.classes.length (by omega)).2 b.toNat (by omega);rw[show((b.toNat:Nat):Int)=b by omega] at this;exact this
theorem QM {p:bp} (hc:bC p=0):gR p (allM p)=rO p (DG p):=by
 have hg:=dn hc;have h2:=pY hg.1;unfold DG;rw[QK hg.1];exact QI hc (by unfold allM;omega) (by unfold allM;omega)
theorem QN {p:bp} (hc:bC p=0) {b:Int} (h0:0<=b) (h1:b<p.classes.length):gR p (iw (allM p) b)=rO p (o9 p b p.classes.length):=by
 have hg:=dn hc;have h3:=IA p b p.classes.length;rw[<-QL hg.1 h0 h1];exact QI hc h3.1 h3.2
theorem x5 {p:bp}:∀{c:List Int} {s:Int},c.foldl (sN p) s=s+bV (ca p c)
 |[],s=>by simp[ca,bV];|i::c,s=>by
  rw[γO,x5,oh];simp only[bV,sN];omega
theorem DR {p:bp}:∀{c:List Int} {a:Int} {r:List Off},fR p.offers a c=some r->r=ca p c
 |[],a,r,h=>by simp[fR] at h;subst h;rfl;|i::c,a,r,h=>by
  simp only[fR] at h;split at h;·cases h
  ·obtain⟨d,b,rfl⟩:=δ.1 h;rw[DR b,oh]
theorem QO {p:bp} {c:List Int} (hz:dc p c=0):ez p c=ix p c:=by
 obtain⟨q1,q2,hg,q4,q5⟩:=vN hz;obtain⟨r,hr⟩:=γo.1 q2;unfold ez ix;rw[if_pos q1,x5];simp only[eE,hr,Option.getD_some,DR hr];omega
theorem QP {p:bp} {c:List Int}:jK p c=DI p c:=by
 unfold jK DI;by_cases hz:dc p c=0;·simp only[hz,ne_eq,not_true,if_false,QO hz,QM (vN hz).1]
 ·rw[if_pos hz,if_pos hz]
theorem QQ {p:bp} {x:Off} (b:0<=x.bE) (a:x.bE<p.classes.length):eT p x.bE x=1:=by
 unfold eT;omega
theorem sum_cons {p:bp} {x:Off} {L:List Off} {r:Int}:cT p (x::L) r=eT p r x+cT p L r:=by simp[cT]
theorem QR {p:bp} {r:Int}:∀{L:List Off},(∀x∈L,x.want.ok=true)->(∃x∈L,x.bE=r/\0<=r/\r<p.classes.length)->1<=cT p L r
 |[],_,h=>by simp_all;|y::L,a,⟨x,c,e,f,d⟩=>by
  have g:=@rL p r y (a y (by simp));have i:=@uh p r L λz b=>a z (by simp[b]);rw[sum_cons];rcases γq.1 c with rfl|c;·grind[QQ]
  ·have:=@QR p r L (λz b=>a z (by simp[b])) ⟨x,c,e,f,d⟩;omega
theorem QS {p:bp}:∀{L:List Off},(∀x∈L,x.want.ok=true/\0<=x.bE/\x.bE<p.classes.length)->(∀r:Int,0<=r->r<p.classes.length->cT p L r<=1)->(L.map Off.bE).Nodup
 |[],_,_=>by simp;|x::L,e,f=>by
  have a:=e x (by simp);rw[ι,γC];have d:∀r:Int,0<=r->r<p.classes.length->cT p L r<=1:=λr j b=>by
   have:=f r j b;have:=@rL p r x a.1;grind[sum_cons]
  refine⟨λg=>?_,QS (λy c=>e y (by simp[c])) d⟩;obtain⟨y,c,h⟩:=γg.1 g;have b:=f x.bE a.2.1 a.2.2;have k:=@QR p x.bE L (λz i=>(e z (by simp[i])).1) ⟨y,c,h,a.2.1,a.2.2⟩;rw[sum_cons,QQ a.2.1 a.2.2] at b;omega
theorem QT {p:bp} {c:List Int} (e:dc p c=0):((ca p c).map Off.bE).Nodup:=by
 obtain⟨j,f,a,m,h⟩:=vN e;obtain⟨r,l⟩:=γo.1 f;have n:eE p c=ca p c:=by grind[eE,DR]
 have d:gd p (ca p c)=true:=by
  simp_all[dc]
 refine QS (p:=p) (λx g=>?_) λr o i=>?_
 ·have:=a.2.2.2.2 x (xY a h x g);simp_all
 ·have b:=o7.1 d r.toNat (by grind[dm]);rw[show((r.toNat:Nat):Int)=r by omega] at b;have k:dD p r=1:=by unfold dD;omega
  omega
theorem QU {p:bp} {b:Int}:∀{c:List Int} {s:Int×Int},((ca p c).map Off.bE).Nodup->
  (c.foldl (kF p b) s).1+(c.foldl (kF p b) s).2=s.2+bV (ca p c)+(if b∈(ca p c).map Off.bE then 0 else s.1)
 |[],s,_=>by simp[ca,bV];omega;|i::c,s,h=>by
  rw[oh,ι,γC] at h;rw[γO,QU h.2,oh,ι];simp only[bV];generalize hx:bj p.offers i.toNat bn.off.dflt=x at h ⊢;by_cases hb:x.bE=b
  ·have hw:kF p b s i=(x.value,s.2):=by unfold kF;rw[hx,if_pos hb]
   rw[hw,if_neg (hb▸h.1),if_pos (by simp[hb])];simp only;omega
  ·have hw:kF p b s i=(s.1,s.2+x.value):=by unfold kF;rw[hx,if_neg hb]
   have hb2:¬b=x.bE:=λe=>hb e.symm;rw[hw];simp only[γq,hb2,false_or];split<;>omega
theorem aa3 {p:bp} {c:List Int} {b:Int} (hz:dc p c=0):(pZ p c b).2=ix p c - (pZ p c b).1:=by
 have h:=@QU p b c (0,0) (QT hz);have h2:ix p c=bV (ca p c):=by unfold ix;rw[x5];omega
 unfold pZ;rw[h2];split at h<;>simp only at h<;>omega
theorem QV {p:bp} (hg:Good p) {b:Int} (h0:0<=b) (h1:b<p.classes.length):∀{c v:List Int} {s:Int×Int},vP p c->v.length=p.classes.length->bj v b.toNat 0=s.1->bj (c.foldl (um p) v) b.toNat 0=(c.foldl (kF p b) s).1
 |[],v,s,_,_,h=>h
 |i::c,v,s,hc,hl,h=>by
  rw[γO,γO];have hi:=hc i (by simp);have hx:=hg.2.2.2.2 _ (cO (d:=bn.off.dflt) (show i.toNat<p.offers.length by omega));refine QV hg h0 h1 (λj hj=>hc j (by simp[hj])) (by simp[um,hl]) ?_;unfold um kF;rw[cQ (by simp;omega),List.getElem_set];by_cases hb:(bj p.offers i.toNat bn.off.dflt).bE=b;·rw[if_pos (by omega),if_pos hb]
  ·rw[if_neg (by omega),if_neg hb];rw[cQ (by omega)] at h;exact h
theorem aa4 {p:bp} {c:List Int} (hg:Good p) (hi:vP p c) {b:Int} (h0:0<=b) (h1:b<p.classes.length):bj (ny p c) b.toNat 0=(pZ p c b).1:=
 QV hg h0 h1 (s:=(0,0)) hi (by simp) (by rw[cQ (by simp;omega)];simp)
end Go.Vi
