/-
  The solver's recursion.
  Conditions: none.
-/
import Derived.Test.YtjcmncmajmoiiaaGreatVY06
import Derived.KernelRfl
set_option maxRecDepth 100000
set_option maxHeartbeats 4000000
set_option linter.all false
open Bool renaming and_eq_true->ζ,or_eq_true->δp
open Classical renaming not_not->ω
open Go.Vi.AV.agg renaming injEq->εy
open Go.Vi.AV.sc renaming injEq->γX
open Go.Vi.SV renaming si->Θ,row->Φ,il->γp,ptr->γS,ow->γ6,agg->γC,sb->γD
open Int renaming one_mul->δG,le_trans->εz
open List renaming range->π,all_eq_true->Ξ,mem_range->γH,foldl_cons->γM,mem_filter->γu,length_cons->γB,length_filter_le->γw,mem_cons->γE,take_length->ψ,foldl_append->εK,forall_mem_cons->γq,not_mem_nil->γ3,filter_append->δa,length_take->Ψ,replicate->ε,take->γa,mem_of_mem_take->γl,range_succ->δr,map_append->γd,map_cons->ι,map_nil->γt,drop->γ5,mem_map->γg,drop_length->δ8,nodup_cons->γN,pairwise_cons->γv,filter_sublist->δl,getElem?_cons_succ->γO,map_map->δn
open List.Nodup renaming sublist->ε6
open List.cons renaming injEq->ξ
open Option renaming map_eq_some_iff->δ,isSome_iff_exists->γo,getD_some->γ4
open Option.some renaming injEq->γ
namespace Go.Vi
open Go.Proofs.YtjcmncmajmoiiaaGreat.Ir
open Go.Proofs
def j7 (m f:Int):Int:=eJ.rG .i64 (m / 2^f.toNat) 1
def ie (m f:Int):Int:=eJ.pN .i64 m (2^f.toNat)
def eM (m:Int):List Int:=[0,1,2,3,4,5,6,7].filter λf=>decide (j7 m f≠0)
def cnt (m:Int):Nat:=(eM m).length
def Qn:Bool:=(π 256).all λm=>decide (0<=j7 m 0)&&[0,1,2,3,4,5,6,7].all λf=>(decide (j7 m f=0)||decide (j7 m f=1))&&(decide (j7 m f=0)||(decide (0<=ie m f)&&decide (ie m f<256)&&decide (eM (ie m f)=(eM m).filter λg=>decide (g≠f))))
theorem aaB:Qn=true:=by kernel_rfl
theorem xO {m f:Int} (d:0<=m) (a:m<256) (b:0<=f) (c:f<8):(j7 m f=0\/j7 m f=1)/\(j7 m f≠0->0<=ie m f/\ie m f<256/\eM (ie m f)=(eM m).filter λg=>decide (g≠f)):=by
 have h:=aaB;simp only[Qn,Ξ,γH] at h;have h2:=h m.toNat (by omega);simp only[ζ,Ξ] at h2
 have h3:=h2.2 f (by have:f=0\/f=1\/f=2\/f=3\/f=4\/f=5\/f=6\/f=7:=by omega
                     simp_all);rw[show((m.toNat:Nat):Int)=m from by omega] at h3;simp only[ζ,δp,decide_eq_true_eq] at h3;refine⟨h3.1,λe=>?_⟩;simp_all
def dM (m:Int):Int:=(eM m).headD 0
def Qo:Bool:=(π 256).all λm=>decide (m=0)||(decide (0<=dM m)&&decide (dM m<8)&&decide (j7 m (dM m)≠0)&&decide (eM m=dM m::eM (ie m (dM m)))&&
 [0,1,2,3,4,5,6,7].all λg=>decide (dM m<=g)||decide (j7 m g=0))
theorem aaC:Qo=true:=by kernel_rfl
theorem Dy {m:Int} (d:0<=m) (c:m<256) (h:m≠0):0<=dM m/\dM m<8/\j7 m (dM m)≠0/\eM m=dM m::eM (ie m (dM m))/\∀g,0<=g->g<dM m->j7 m g=0:=by
 have b:=aaC;simp only[Qo,Ξ,γH] at b;have a:=b m.toNat (by omega);rw[show((m.toNat:Nat):Int)=m from by omega] at a;simp only[δp,ζ,decide_eq_true_eq,Ξ] at a;rcases a with a|a<;>grind
abbrev lD:=List (Sit×Int)
def kE (s:L8) (f:Int):List Off:=bj [s.l0,s.l1,s.l2,s.l3,s.l4,s.l5,s.l6,s.l7] f.toNat []
def jr (a:Sit):Sit:=⟨ie a.members (dM a.members),a.left,a.opn⟩
def gk (p:bp):Nat->lD->Sit->Int×lD
 |0,es,_=>(0,es)
 |n+1,es,a=>
  if a.members=0 then(0,es) else
  match j4 .sit (.i .i64) a es with
  |some v=>(v,es)
  |none=>
   let r:=(kE (L8.of p) (dM a.members)).foldl (λr x=>if fitsAt p a x=true then(max r.1 (x.value+(gk p n r.2 (eU p a x)).1),(gk p n r.2 (eU p a x)).2) else r) (gk p n es (jr a));(r.1,nz .sit (.i .i64) a r.1 r.2)
def stepM (p:bp) (n:Nat) (a:Sit) (r:Int×lD) (x:Off):Int×lD:=
 if fitsAt p a x=true then(max r.1 (x.value+(gk p n r.2 (eU p a x)).1),(gk p n r.2 (eU p a x)).2) else r
def Good (p:bp):Prop:=p.classes.length<=8/\p.offers.length<=160/\p.supply.ok=true/\p.opn.ok=true/\∀x∈p.offers,0<=x.bD/\x.bD<p.classes.length/\x.want.ok=true/\1<=x.value/\x.value<=1000000
def js (a:Sit):Prop:=0<=a.members/\a.members<256/\a.b
def gW (p:bp):List Int->bz->bz->Int
 |[],_,_=>0
 |f::fs,l,o=>(iY p f).foldl (λv x=>if x.want.le l&&(dE p x).le o then max v (x.value+gW p fs (l.sub x.want) (o.sub (dE p x))) else v) (gW p fs l o)
def kF (p:bp) (fs:List Int) (l o:bz) (v:Int) (x:Off):Int:=if x.want.le l&&(dE p x).le o then max v (x.value+gW p fs (l.sub x.want) (o.sub (dE p x))) else v
def gl (p:bp) (a:Sit):Int:=gW p (eM a.members) a.left a.opn
def iZ (p:bp) (es:lD):Prop:=∀e∈es,e.2=gl p e.1
theorem Ig {p:bp} {fs:List Int} {l o:bz} (c:Good p) (B:Int) (a:∀l o,0<=gW p fs l o/\gW p fs l o<=B):∀{xs:List Off} {v:Int},(∀x∈xs,x∈p.offers)->0<=v/\v<=B+1000000->0<=xs.foldl (kF p fs l o) v/\xs.foldl (kF p fs l o) v<=B+1000000
 |[],v,_,b=>b
 |x::xs,v,d,b=>by
  simp only[γM];refine Ig c B a (λy e=>d y (by simp[e])) ?_;unfold kF;have f:=a (l.sub x.want) (o.sub (dE p x));have g:=c.2.2.2.2 x (d x (by simp));split<;>omega
theorem Ih {p:bp} (hg:Good p):∀(fs:List Int) (l o:bz),0<=gW p fs l o/\gW p fs l o<=1000000*fs.length
 |[],_,_=>by simp[gW];|f::fs,l,o=>by
  have ih:=Ih hg fs;have h:=Ig (l:=l) (o:=o) hg (1000000*fs.length) ih (xs:=iY p f) (v:=gW p fs l o) (λx hx=>(γu.1 hx).1) (by have:=ih l o;omega);have e:gW p (f::fs) l o=(iY p f).foldl (kF p fs l o) (gW p fs l o):=rfl;rw[e];simp only[γB];omega
theorem Dz {m:Int}:(eM m).length<=8:=γw _ _
theorem xQ {p:bp} (hg:Good p) (a:Sit):0<=gl p a/\gl p a<=8000000:=by
 have h:=Ih hg (eM a.members) a.left a.opn;have:=@Dz a.members;unfold gl;omega
theorem aaD {a:Sit} {es:lD} {v:Int} (h:j4 .sit (.i .i64) a es=some v):∃e∈es,e.1=a/\e.2=v:=by
 unfold j4 at h;obtain⟨e,h1,rfl⟩:=δ.1 h;have h2:=List.find?_some h1;exact⟨e,List.mem_of_find?_eq_some h1,by simpa using h2,rfl⟩
theorem Qp {p:bp} {a:Sit} {v:Int} (hv:v=gl p a):∀{es:lD},iZ p es->iZ p (nz .sit (.i .i64) a v es)
 |[],_=>by intro e he;simp[nz] at he;subst he;exact hv;|q::es,h=>by
  unfold nz;split
  ·intro e he;rcases γE.1 he with rfl|he;·exact hv
   ·exact h e (by simp[he])
  ·intro e he;rcases γE.1 he with rfl|he;·exact h e (by simp)
   ·exact Qp hv (λe he=>h e (by simp[he])) e he
theorem DC {a b:bz} (ha:a.ok=true) (hb:b.ok=true) (h:b.le a=true):(a.sub b).ok=true:=by
 have ha:=bz.eL.1 ha;have hb:=bz.eL.1 hb;have h:=bz.le_iff.1 h;refine bz.eL.2 ?_;simp only[bz.sub];omega
theorem Qq {p:bp} {f:Int} (h0:0<=f) (h1:f<8):kE (L8.of p) f=iY p f:=by
 have:f=0\/f=1\/f=2\/f=3\/f=4\/f=5\/f=6\/f=7:=by omega
 rcases this with rfl|rfl|rfl|rfl|rfl|rfl|rfl|rfl<;>rfl
theorem Qr {p:bp} (h:Good p) {a:Sit} (b:js a) (g:a.members≠0) {x:Off} (j:x∈iY p (dM a.members)) (c:fitsAt p a x=true):
  js (eU p a x)/\eM a.members=dM a.members::eM (eU p a x).members/\(eU p a x).members=ie a.members (dM a.members):=by
 obtain⟨d,e⟩:=γu.1 j;have e:x.bD=dM a.members:=by simp_all
 have f:=h.2.2.2.2 x d;obtain⟨k,l,i,q,o⟩:=Dy b.1 b.2.1 g;have n:=(xO b.1 b.2.1 k l).2 i;have m:(eU p a x).members=ie a.members (dM a.members):=by grind[eU,ie]
 simp only[fitsAt,ζ] at c;refine⟨⟨by omega,by omega,DC b.2.2.1 f.2.2.1 c.1,DC b.2.2.2 (If f.2.2.1) c.2⟩,by grind,m⟩
theorem Qs {a:Sit} (ha:js a) (h0:a.members≠0):js (jr a)/\eM a.members=dM a.members::eM (jr a).members:=by
 obtain⟨f0,f1,f2,f3,f4⟩:=Dy ha.1 ha.2.1 h0;have hd:=(xO ha.1 ha.2.1 f0 f1).2 f2;exact⟨⟨hd.1,hd.2.1,ha.2.2⟩,f3⟩
theorem Ii {p:bp} (g:Good p) {n:Nat} {a:Sit} (j:js a) (k:a.members≠0)
  (h:∀(es:lD) (b:Sit),js b->iZ p es->cnt b.members<n->(gk p n es b).1=gl p b/\iZ p (gk p n es b).2) (q:cnt a.members<n+1):
  ∀{xs:List Off} {r:Int×lD},(∀x∈xs,x∈iY p (dM a.members))->iZ p r.2->
   (xs.foldl (stepM p n a) r).1=xs.foldl (kF p (eM (jr a).members) a.left a.opn) r.1/\iZ p (xs.foldl (stepM p n a) r).2
 |[],r,_,f=>⟨rfl,f⟩
 |x::xs,r,i,f=>by
  simp only[γM];have e:=i x (by simp);have v:(stepM p n a r x).1=kF p (eM (jr a).members) a.left a.opn r.1 x/\iZ p (stepM p n a r x).2:=by
   unfold stepM kF;by_cases d:fitsAt p a x=true
   ·have c:(x.want.le a.left&&(dE p x).le a.opn)=true:=d;rw[if_pos d,if_pos c];obtain⟨u,w,t⟩:=Qr g j k e d;have o:cnt (eU p a x).members<n:=by
     grind[cnt]
    obtain⟨m,l⟩:=h r.2 _ u f o;refine⟨?_,l⟩;simp only[m,gl,t];rfl
   ·have c:¬(x.want.le a.left&&(dE p x).le a.opn)=true:=d;simp_all
  obtain⟨z,A⟩:=Ii g j k h q (xs:=xs) (λy s=>i y (by simp[s])) v.2;simp_all
theorem xR {p:bp} (i:Good p):∀(n:Nat) (es:lD) (a:Sit),js a->iZ p es->cnt a.members<n->(gk p n es a).1=gl p a/\iZ p (gk p n es a).2
 |0,_,_,_,_,h=>absurd h (by omega)
 |n+1,es,a,f,g,q=>by
  unfold gk;by_cases d:a.members=0
  ·rw[if_pos d];refine⟨?_,g⟩;unfold gl;rw[d];rfl
  ·rw[if_neg d];split
   ·rename_i v l;obtain⟨e,k,j,A⟩:=aaD l;refine⟨?_,g⟩;rw[<-A,g e k,j]
   ·rename_i l;obtain⟨o,y⟩:=Qs f d;obtain⟨w,x,_⟩:=Dy f.1 f.2.1 d;have u:cnt (jr a).members<n:=by
     grind[cnt]
    obtain⟨B,t⟩:=xR i n es _ o g u;rw[Qq w x];obtain⟨z,m⟩:=Ii i f d (λes b s k j=>xR i n es b s k j) q (xs:=iY p (dM a.members)) (r:=gk p n es (jr a)) (λ_ h=>h) t;have c:((iY p (dM a.members)).foldl (stepM p n a) (gk p n es (jr a))).1=gl p a:=by
     rw[z,B];unfold gl;rw[y];rfl
    exact⟨c,Qp c m⟩
def pW (n:Nat):cZ:=Dv 108 Sit (.one (eG .sit)) (λa=>(Good a.1.p/\a.1.ls=L8.of a.1.p/\js a.2/\iZ a.1.p a.1.es)/\cnt a.2.members<n)
 (λa=> .si .i64 (gk a.1.p (cnt a.2.members+1) a.1.es a.2).1) (λa=>⟨a.1.p,a.1.ls,(gk a.1.p (cnt a.2.members+1) a.1.es a.2).2⟩)
def W9 (n:Nat):List cZ:=[pW n,Dx]
def ig (s:kD) (a:Sit) (j:Int):Int×lD:=((kE s.ls (dM a.members)).take j.toNat).foldl (stepM s.p (cnt a.members) a) (gk s.p (cnt a.members) s.es (jr a))
def Qu (s:kD) (a:Sit):Nat->cB
 |7=> .inv Int (λf=>⟨[(0,.ptr 0 0 29),(3,.ptr 2 0 13),(7,.si .i64 f)],s.o++[.cells (encS .sit a) 167 13 false]⟩) (λt=>iS t 7) (λf=>0<=f/\f<=dM a.members) (λf=>(dM a.members - f).toNat) λ_ _=> .look
 |13=> .inv Int (λj=>⟨[(0,.ptr 0 0 29),(3,.ptr 2 0 13),(9,.si .i64 (ig s a j).1),(51,.row .off (kE s.ls (dM a.members))),(52,.si .i64 (kE s.ls (dM a.members)).length),(53,.si .i64 j)],
   (kD.o ⟨s.p,s.ls,(ig s a j).2⟩)++[.cells (encS .sit a) 167 13 false,.cells (encS .sit (jr a)) 167 13 false]⟩) (λt=>iS t 53)
  (λj=>0<=j/\j<=(kE s.ls (dM a.members)).length) (λj=>((kE s.ls (dM a.members)).length - j).toNat) λ_ _=> .look
 |_=> .look
theorem aaE {p:bp} {n:Nat} {es:lD} {a:Sit} (h:a.members=0):gk p (n+1) es a=(0,es):=by
 unfold gk;rw[if_pos h]
theorem aaF {p:bp} {n:Nat} {es:lD} {a:Sit} {v:Int} (h:a.members≠0) (hv:j4 .sit (.i .i64) a es=some v):gk p (n+1) es a=(v,es):=by
 unfold gk;rw[if_neg h,hv]
theorem aaG {s:kD} {a:Sit} (hl:s.ls=L8.of s.p) (h:a.members≠0) (hv:j4 .sit (.i .i64) a s.es=none) {j:Int} (hj:j=(kE s.ls (dM a.members)).length):
  gk s.p (cnt a.members+1) s.es a=((ig s a j).1,nz .sit (.i .i64) a (ig s a j).1 (ig s a j).2):=by
 unfold gk ig;rw[if_neg h,hv,show j.toNat=(kE s.ls (dM a.members)).length from by omega,ψ,hl];rfl
theorem aaH {s:kD} {a:Sit} {j:Int} (h0:0<=j) (h1:j<(kE s.ls (dM a.members)).length):ig s a (j+1)=stepM s.p (cnt a.members) a (ig s a j) (bj (kE s.ls (dM a.members)) j.toNat bk.off.dflt):=by
 unfold ig;rw[jo (d:=bk.off.dflt) h0 h1,εK];rfl
theorem aaI {es es':lD} {kt:List Nat×Bool} (h:es=es'):(bq.map bk.sit (bk.i IntKind.i64) true es kt true).same (bq.map bk.sit (bk.i IntKind.i64) true es' kt true):=by rw[h];rfl
theorem aaJ (n:Nat) (s:kD) (a:Sit) (A:Good s.p) (hl:s.ls=L8.of s.p) (Z:js a) (hm:iZ s.p s.es) (hn:cnt a.members<n+1):
  Vc (vx (lZ xK (fU (W9 n)) oY oZ gB) (Qu s a) (fG 108) ((pW (n+1)).put (s,a)) ((pW (n+1)).st (s,a)) λv t=>v.same ((pW (n+1)).res (s,a))/\jk t ((pW (n+1)).out (s,a))):=by
 refine bN (let d:=Θ .i64;let e:=(0:Int);let f:=Φ;let j:=bq.cells;let l:=bV .i64;let o:=(1:Int);let E:=bk.i .i64;let B:=j [d s.p.supply.a0,d s.p.supply.a1,d s.p.supply.a2,d s.p.supply.a3,d s.p.supply.a4,d s.p.supply.a5,d s.p.opn.a0,d s.p.opn.a1,d s.p.opn.a2,d s.p.opn.a3,d s.p.opn.a4,d s.p.opn.a5,d s.p.cls.a0,d s.p.cls.a1,d s.p.cls.a2,d s.p.cls.a3,d s.p.cls.a4,d s.p.cls.a5,f E s.p.classes,f bk.off s.p.offers,f bk.off s.ls.l0,f bk.off s.ls.l1,f bk.off s.ls.l2,f bk.off s.ls.l3,f bk.off s.ls.l4,f bk.off s.ls.l5,f bk.off s.ls.l6,f bk.off s.ls.l7,SV.mp 1] 214 29 false;let O:=([0,0,0,0,0,0,0,0,0,0,0,0,0],true);let r:=bq.map bk.sit E true s.es O true;let A:=gk s.p (cnt a.members+1) s.es a;let H:=bq.map bk.sit E true A.snd O true;let J:=decide (a.members=e);let t:=γp .i64 0;let v:=d A.fst;let T:=j4 bk.sit E a s.es;let g:=γS 0 0 29;let k:=γS 2 0 13;let b0:=[d a.left.a0,d a.left.a1,d a.left.a2,d a.left.a3,d a.left.a4,d a.left.a5,d a.opn.a0,d a.opn.a1,d a.opn.a2,d a.opn.a3,d a.opn.a4,d a.opn.a5];let m:=j (d a.members::b0) 167 13 false;let w:=dM a.members;let D:=kE s.ls w;let V:=f bk.off D;let c:=(↑D.length:Int);let N:=d c;let z:=(jr a).left;let y:=(jr a).opn;let X:=j [d (jr a).members,d z.a0,d z.a1,d z.a2,d z.a3,d z.a4,d z.a5,d y.a0,d y.a1,d y.a2,d y.a3,d y.a4,d y.a5] 167 13 false;let K:=B.same B/\r.same H/\True;(J=true->t.same v/\K)/\(J=false->(T.isSome=true->(d (T.getD e)).same v/\K)/\(T.isSome=false->(((g.same g/\k.same k/\t.same (d 0)/\True)/\B.same B/\r.same r/\m.same m/\True)/\e<=e/\e<=w)/\∀(x:Int),let c0:=decide (eJ.rG .i64 (a.members / (2:Int)^x.toNat) o=e);let C:=x+o;let b5:=d C;let c1:=o*(2:Int)^x.toNat;let G:=eJ.pN .i64 a.members c1;let b8:=Sit.mk G a.left a.opn;let a7:=gk s.p (cnt G+1) s.es b8;let b7:=bj [s.ls.l0,s.ls.l1,s.ls.l2,s.ls.l3,s.ls.l4,s.ls.l5,s.ls.l6,s.ls.l7] x.toNat [];e<=x/\x<=w->e<=x/\x<=(64:Int)/\(c0=true->l C/\((g.same g/\k.same k/\b5.same b5/\True)/\B.same B/\r.same r/\m.same m/\True)/\(e<=C/\C<=w)/\(w - C).toNat<(w - x).toNat)/\(c0=false->e<=x/\x<=(64:Int)/\l c1/\((Good s.p/\s.ls=L8.of s.p/\js b8/\iZ s.p s.es)/\cnt G<n)/\e<=x/\x<(8:Int)/\x.toNat<8/\(((g.same g/\k.same k/\(d a7.fst).same (d (ig s a e).fst)/\(f bk.off b7).same V/\(d (↑b7.length:Int)).same N/\t.same (d 0)/\True)/\B.same B/\(bq.map bk.sit E true a7.snd O true).same (bq.map bk.sit E true (ig s a e).snd O true)/\m.same m/\(j (d G::b0) 167 13 false).same X/\True)/\e<=e/\e<=c)/\∀(x:Int),let q:=x+o;let a8:=d q;let h:=bj D x.toNat bk.off.dflt;let F:=pV s.p a h;let W:=(ig s a x).snd;let U:=gk s.p (cnt F.members+1) W F;let I:=(ig s a x).fst;let b6:=λ(u:Int) (c4:Int×lD) ↦l q/\((g.same g/\k.same k/\(d u).same (d (ig s a q).fst)/\V.same V/\N.same N/\a8.same a8/\True)/\B.same B/\(bq.map bk.sit E true c4.snd O true).same (bq.map bk.sit E true (ig s a q).snd O true)/\m.same m/\X.same X/\True)/\(e<=q/\q<=c)/\(c - q).toNat<(c - x).toNat;e<=x/\x<=c->(decide (x<c)=true->e<=x/\x<(↑D.length:Int)/\x.toNat<D.length/\(s.p.classes.length<=8/\e<=h.bD/\h.bD<(↑s.p.classes.length:Int)/\a.b/\h.want.ok=true)/\(fitsAt s.p a h=true->((Good s.p/\s.ls=L8.of s.p/\js F/\iZ s.p W)/\cnt F.members<n)/\l (h.value+U.fst)/\b6 (max I (h.value+U.fst)) U)/\(fitsAt s.p a h=false->b6 I (ig s a x)))/\(decide (x<c)=false->(d I).same v/\B.same B/\(bq.map bk.sit E true (nz bk.sit E a I W) O true).same H/\True))))) (by kernel_rfl) ?_;simp only[vcs];refine⟨λJ=>?_,λJ=>⟨λhf=>?_,λhf=>?_⟩⟩
 ·rw[aaE J];exact⟨rfl,rfl⟩
 ·obtain⟨v,hv⟩:=γo.1 hf;rw[aaF J hv,hv];exact⟨rfl,rfl⟩
 ·have S:j4 .sit (.i .i64) a s.es=none:=by simp_all
  obtain⟨f0,f1,f2,f3,f4⟩:=Dy Z.1 Z.2.1 J;obtain⟨s1,s2⟩:=Qs Z J;have d0:cnt (jr a).members+1=cnt a.members:=by grind[cnt]
  have b4:kE s.ls (dM a.members)=iY s.p (dM a.members):=by grind[Qq]
  have d1:(kE s.ls (dM a.members)).length<=160:=by rw[b4];exact Nat.le_trans (γw _ _) A.2.1
  have P:=xR A (cnt a.members);obtain⟨q1,q2⟩:=P s.es _ s1 hm (by omega);have a6:∀j:Int,0<=(ig s a j).1/\(ig s a j).1<=9000000/\iZ s.p (ig s a j).2:=by
   intro j;have K:∀x∈(kE s.ls (dM a.members)).take j.toNat,x∈iY s.p (dM a.members):=λx hx=>by grind
   obtain⟨k1,k2⟩:=Ii A Z J (n:=cnt a.members) (λes b Y h1 h2=>P es b Y h1 h2) (by omega) (xs:=(kE s.ls (dM a.members)).take j.toNat) (r:=gk s.p (cnt a.members) s.es (jr a)) K q2;have hB:=Ig (l:=a.left) (o:=a.opn) (fs:=eM (jr a).members) A 8000000 (λl o=>by
    have:=Ih A (eM (jr a).members) l o;grind[Dz]) (xs:=(kE s.ls (dM a.members)).take j.toNat) (v:=(gk s.p (cnt a.members) s.es (jr a)).1) (λx hx=>(γu.1 (K x hx)).1) (by
     rw[q1];have:=xQ A (jr a);omega);grind[ig]
  refine⟨⟨by omega,f0⟩,?_⟩;rintro f ⟨g0,g1⟩;refine⟨g0,by omega,λY=>⟨by omega,⟨by omega,?_⟩,?_⟩,λY=>?_⟩
  ·have:f≠dM a.members:=λe=>f2 (by rw[<-e];exact Y);omega
  ·have:f≠dM a.members:=λe=>f2 (by rw[<-e];exact Y);omega
  ·have c8:f=dM a.members:=by
    by_cases c2:f<dM a.members;·exact absurd (f4 f g0 c2) Y
    ·omega
   subst c8;simp only[δG];have hp:(2:Int)^(dM a.members).toNat<=256/\0<(2:Int)^(dM a.members).toNat:=by
    have:(dM a.members).toNat=0\/(dM a.members).toNat=1\/(dM a.members).toNat=2\/(dM a.members).toNat=3\/(dM a.members).toNat=4\/(dM a.members).toNat=5\/(dM a.members).toNat=6\/(dM a.members).toNat=7:=by omega
    grind
   have c3:eJ.pN .i64 a.members (2^(dM a.members).toNat)=(jr a).members:=rfl;simp only[c3];have c6:(⟨(jr a).members,a.left,a.opn⟩:Sit)=jr a:=rfl;simp only[c6,d0];have b9:ig s a 0=gk s.p (cnt a.members) s.es (jr a):=rfl;refine⟨g0,by omega,⟨by omega,by omega⟩,⟨⟨A,hl,s1,hm⟩,by omega⟩,g0,f1,by omega,⟨⟨⟨?_,rfl,rfl⟩,aaI (by rw[b9]),rfl⟩,by omega,by omega⟩,?_⟩;·rw[b9]
   rintro j ⟨j0,j1⟩;obtain⟨b1,b2,b3⟩:=a6 j;refine⟨λa9=>?_,λd3=>?_⟩
   ·have R:=aaH (s:=s) (a:=a) j0 a9;have H:=cK (d:=bk.off.dflt) (show j.toNat<(kE s.ls (dM a.members)).length by omega);generalize bj (kE s.ls (dM a.members)) j.toNat bk.off.dflt=x at R H ⊢;rw[b4] at H;have c9:=(γu.1 H).1;have Q:=A.2.2.2.2 x c9;refine⟨j0,a9,by omega,⟨A.1,Q.1,Q.2.1,Z.2.2,Q.2.2.1⟩,λL=>?_,λL=>?_⟩
    ·obtain⟨k1,k2,k3⟩:=Qr A Z J H L;have c5:cnt (eU s.p a x).members+1=cnt a.members:=by grind[cnt]
     have c7:pV s.p a x=eU s.p a x:=by simp_all[pV]
     simp only[c7,c5];obtain⟨e1,e2⟩:=P (ig s a j).2 _ k1 b3 (by omega);have d2:=xQ A (eU s.p a x);have M:ig s a (j+1)=(max (ig s a j).1 (x.value+(gk s.p (cnt a.members) (ig s a j).2 (eU s.p a x)).1),(gk s.p (cnt a.members) (ig s a j).2 (eU s.p a x)).2):=by
      simp_all[stepM]
     rw[M];refine⟨⟨⟨A,hl,k1,b3⟩,by omega⟩,by rw[e1];omega,by omega,⟨rfl,rfl⟩,by omega,by omega⟩
    ·have M:ig s a (j+1)=ig s a j:=by
      simp_all[stepM]
     rw[M];refine⟨?_,⟨rfl,rfl⟩,?_,?_⟩<;>omega
   ·have hj:j=(kE s.ls (dM a.members)).length:=by omega
    rw[aaG hl J S hj];exact⟨rfl,rfl⟩
theorem DD:∀n,dK Tryz.prog (pW n)
 |0=>by
  rintro⟨s,a⟩ ⟨_,h⟩;omega;|n+1=>by
  rintro⟨s,a⟩ ⟨c,l⟩;by_cases j:cnt a.members<n;·exact DD n (s,a) ⟨c,j⟩
  ·refine C9 (pW (n+1)) (W:=W9 n) (Λ:=λx=>Qu x.1 x.2) pT (by simp only[W9,γq,γ3,false_implies,implies_true,and_true];exact⟨DD n,h116⟩) Du
    (show gB 108=some (fG 108) by kernel_rfl) (λ_=>rfl) (s,a) ?_ (aaJ n s a c.1 c.2.1 c.2.2.1 c.2.2.2 l).out;intro d k b g f i;have e:d=pW n:=by
    have:k9 108 (W9 n)=some (pW n):=rfl;have m:k9 108 (W9 n)=some d:=k;simp_all
   subst e;have o:(s,a)=b:=(pW n).inj (s,a) b g f;subst o;exact j i.2
def DF:cZ where
 f:=107;α:=bp;put p:=[cY.put p];st _:=[];dec v o:=match v,o with
  |[v],[]=>cY.dec v
  |_,_=>none;ok v o a h:=by
  split at h;·exact⟨by simp only[gL,cY.ok _ _ h],rfl⟩
  ·cases h
 inj a b h _:=by
  simp only[gL,ξ,and_true] at h;exact cY.inj _ _ h
 dom p:=Good p;res _:=.ptr 0 0 29;out p:=kD.o ⟨p,L8.of p,[]⟩
def aaK:Nat->Option (Nat×Nat×Nat)
 |5=>some (11,0,8)
 |_=>none
def dq (p:bp) (i:Int) (j:Int):List Off:=(p.offers.take i.toNat).filter λx=>decide (x.bD=j)
def aaL (p:bp):Nat->cB
 |3=> .inv Int (λi=>⟨[(3,.ptr 2 0 29),(11,.row .off p.offers),(12,.si .i64 p.offers.length),(13,.si .i64 i)],
  [.cells p.ss 27 20 false,.map .sit (.i .i64) true [] ([0,0,0,0,0,0,0,0,0,0,0,0,0],true) true,
   .cells [.si .i64 p.supply.a0,.si .i64 p.supply.a1,.si .i64 p.supply.a2,.si .i64 p.supply.a3,.si .i64 p.supply.a4,.si .i64 p.supply.a5,
    .si .i64 p.opn.a0,.si .i64 p.opn.a1,.si .i64 p.opn.a2,.si .i64 p.opn.a3,.si .i64 p.opn.a4,.si .i64 p.opn.a5,
    .si .i64 p.cls.a0,.si .i64 p.cls.a1,.si .i64 p.cls.a2,.si .i64 p.cls.a3,.si .i64 p.cls.a4,.si .i64 p.cls.a5,
    .row (.i .i64) p.classes,.row .off p.offers,.ow 3 (dq p i 0).length 8,.ow 4 (dq p i 1).length 8,.ow 5 (dq p i 2).length 8,.ow 6 (dq p i 3).length 8,.ow 7 (dq p i 4).length 8,.ow 8 (dq p i 5).length 8,.ow 9 (dq p i 6).length 8,.ow 10 (dq p i 7).length 8,.mp 1] 214 29 false,
   .row .off (dq p i 0) 39 true,.row .off (dq p i 1) 39 true,.row .off (dq p i 2) 39 true,.row .off (dq p i 3) 39 true,.row .off (dq p i 4) 39 true,.row .off (dq p i 5) 39 true,.row .off (dq p i 6) 39 true,.row .off (dq p i 7) 39 true]⟩)
  (λs=>iS s 13) (λi=>0<=i/\i<=p.offers.length) (λi=>(p.offers.length - i).toNat) λ_ _=> .look
 |_=> .look
theorem uh {p:bp} {i:Int} {j:Int} (h0:0<=i) (h1:i<p.offers.length) (h:(bj p.offers i.toNat bk.off.dflt).bD=j):dq p (i+1) j=dq p i j++[bj p.offers i.toNat bk.off.dflt]:=by
 unfold dq;rw[jo (d:=bk.off.dflt) h0 h1,δa];simp[h]
theorem dP {p:bp} {i:Int} {j:Int} (h0:0<=i) (h1:i<p.offers.length) (h:(bj p.offers i.toNat bk.off.dflt).bD≠j):dq p (i+1) j=dq p i j:=by
 unfold dq;rw[jo (d:=bk.off.dflt) h0 h1,δa];simp[h]
theorem h113:dK Tryz.prog DF:=by
 refine zM (L:=[]) (W:=[]) DF aaK aaL (by simp) (by simp) ?_;intro(p:bp) (hp:Good p);refine bN (let a:=bq.row;let b:=Θ .i64;let c:=γ6;let d:=(0:Int);let e:=Φ;let f:=bq.cells;let g:=(1:Int);let h:=(2:Int);let j:=(3:Int);let k:=(4:Int);let l:=(5:Int);let m:=(6:Int);let n:=(7:Int);let o:=bV .i64;let w:=b p.supply.a0;let y:=b p.supply.a1;let z:=b p.supply.a2;let A:=b p.supply.a3;let B:=b p.supply.a4;let C:=b p.supply.a5;let D:=b p.opn.a0;let E:=b p.opn.a1;let F:=b p.opn.a2;let G:=b p.opn.a3;let H:=b p.opn.a4;let I:=b p.opn.a5;let J:=b p.cls.a0;let K:=b p.cls.a1;let L:=b p.cls.a2;let M:=b p.cls.a3;let N:=b p.cls.a4;let O:=b p.cls.a5;let P:=e (bk.i .i64) p.classes;let r:=e bk.off p.offers;let v:=γS 2 0 29;let aC:=(↑p.offers.length:Int);let s:=(↑p.offers.length:Int);let Q:=b s;let t:=bq.map bk.sit (bk.i .i64) true [] ([0,0,0,0,0,0,0,0,0,0,0,0,0],true) true;let W:=[SV.mp 1];let aD:=dq p d d;let aE:=dq p d g;let aF:=dq p d h;let aG:=dq p d j;let aH:=dq p d k;let aI:=dq p d l;let aJ:=dq p d m;let aK:=dq p d n;let R:=a bk.off [] 39 true;let aL:=γS 0 0 29;let ab:=λ(u:List SV) (u_1 u_2:Nat) (u_3:List SV) ↦(f (w::y::z::A::B::C::D::E::F::G::H::I::J::K::L::M::N::O::P::r::u) u_1 u_2 false).same (f (w::y::z::A::B::C::D::E::F::G::H::I::J::K::L::M::N::O::P::r::u_3) u_1 u_2 false);(((v.same v/\r.same r/\(b aC).same Q/\(γp .i64 0).same (b 0)/\True)/\ab [] 27 20 []/\t.same t/\ab (c 3 0 8::c 4 0 8::c 5 0 8::c 6 0 8::c 7 0 8::c 8 0 8::c 9 0 8::c 10 0 8::W) 214 29 (c 3 aD.length 8::c 4 aE.length 8::c 5 aF.length 8::c 6 aG.length 8::c 7 aH.length 8::c 8 aI.length 8::c 9 aJ.length 8::c 10 aK.length 8::W)/\R.same (a bk.off aD 39 true)/\R.same (a bk.off aE 39 true)/\R.same (a bk.off aF 39 true)/\R.same (a bk.off aG 39 true)/\R.same (a bk.off aH 39 true)/\R.same (a bk.off aI 39 true)/\R.same (a bk.off aJ 39 true)/\R.same (a bk.off aK 39 true)/\True)/\d<=d/\d<=s)/\∀(x:Int),let X:=dq p x h;let ac:=a bk.off X 39 true;let q:=x+g;let ad:=a bk.off (dq p q h) 39 true;let Y:=dq p x j;let ae:=a bk.off Y 39 true;let af:=a bk.off (dq p q j) 39 true;let Z:=dq p x k;let ag:=a bk.off Z 39 true;let ah:=a bk.off (dq p q k) 39 true;let a6:=dq p x l;let ai:=a bk.off a6 39 true;let aj:=a bk.off (dq p q l) 39 true;let a7:=dq p x m;let ak:=a bk.off a7 39 true;let al:=a bk.off (dq p q m) 39 true;let a8:=dq p x n;let am:=a bk.off a8 39 true;let an:=a bk.off (dq p q n) 39 true;let S:=bj p.offers x.toNat bk.off.dflt;let T:=b q;let a9:=dq p x d;let av:=c 3 a9.length 8;let aa:=dq p x g;let aw:=c 4 aa.length 8;let ax:=c 5 X.length 8;let ay:=c 6 Y.length 8;let az:=c 7 Z.length 8;let aA:=c 8 a6.length 8;let ao:=f (w::y::z::A::B::C::D::E::F::G::H::I::J::K::L::M::N::O::P::r::c 3 (dq p q d).length 8::c 4 (dq p q g).length 8::c 5 (dq p q h).length 8::c 6 (dq p q j).length 8::c 7 (dq p q k).length 8::c 8 (dq p q l).length 8::c 9 (dq p q m).length 8::c 10 (dq p q n).length 8::W) 214 29 false;let ap:=a bk.off a9 39 true;let aq:=a bk.off (dq p q d) 39 true;let ar:=a bk.off aa 39 true;let au:=a bk.off (dq p q g) 39 true;let aB:=c 9 a7.length 8::c 10 a8.length 8::W;let U:=S.want;let V:=S.value;let aM:=a9++[Off.mk d U V];let aN:=aa++[Off.mk g U V];let aO:=X++[Off.mk h U V];let aP:=Y++[Off.mk j U V];let aQ:=Z++[Off.mk k U V];let aR:=a6++[Off.mk l U V];let aS:=a7++[Off.mk m U V];let aT:=a8++[Off.mk n U V];let aY:=ac.same ad/\ae.same af/\ag.same ah/\ai.same aj/\ak.same al/\am.same an/\True;let aZ:=ag.same ah/\ai.same aj/\ak.same al/\am.same an/\True;let b0:=ak.same al/\am.same an/\True;let aU:=λ(u:Int) (u_1 u_2:Nat) (u_3 u_4:bq) ↦let z89:Nat:=(dq p x u).length;S.bD=u->1=1/\(dq p x u).length=z89/\(z89+1)*64<=140737488355328/\z89+1<=1000000000000/\o q/\((v.same v/\r.same r/\Q.same Q/\T.same T/\True)/\ab [] 27 20 []/\t.same t/\(f (w::y::z::A::B::C::D::E::F::G::H::I::J::K::L::M::N::O::P::r::av::aw::ax::ay::az::aA::c 9 u_1 8::c 10 u_2 8::W) 214 29 false).same ao/\ap.same aq/\ar.same au/\ac.same ad/\ae.same af/\ag.same ah/\ai.same aj/\u_3.same al/\u_4.same an/\True)/\(d<=q/\q<=s)/\(s - q).toNat<(s - x).toNat;let aV:=λ(u:Int) (u_1 u_2:Nat) (u_3 u_4:bq) ↦let Ij:Nat:=(dq p x u).length;S.bD=u->1=1/\(dq p x u).length=Ij/\(Ij+1)*64<=140737488355328/\Ij+1<=1000000000000/\o q/\((v.same v/\r.same r/\Q.same Q/\T.same T/\True)/\ab [] 27 20 []/\t.same t/\(f (w::y::z::A::B::C::D::E::F::G::H::I::J::K::L::M::N::O::P::r::av::aw::ax::ay::c 7 u_1 8::c 8 u_2 8::aB) 214 29 false).same ao/\ap.same aq/\ar.same au/\ac.same ad/\ae.same af/\u_3.same ah/\u_4.same aj/\b0)/\(d<=q/\q<=s)/\(s - q).toNat<(s - x).toNat;let aW:=λ(u:Int) (u_1 u_2:Nat) (u_3 u_4:bq) ↦let z91:Nat:=(dq p x u).length;S.bD=u->1=1/\(dq p x u).length=z91/\(z91+1)*64<=140737488355328/\z91+1<=1000000000000/\o q/\((v.same v/\r.same r/\Q.same Q/\T.same T/\True)/\ab [] 27 20 []/\t.same t/\(f (w::y::z::A::B::C::D::E::F::G::H::I::J::K::L::M::N::O::P::r::av::aw::c 5 u_1 8::c 6 u_2 8::az::aA::aB) 214 29 false).same ao/\ap.same aq/\ar.same au/\u_3.same ad/\u_4.same af/\aZ)/\(d<=q/\q<=s)/\(s - q).toNat<(s - x).toNat;let aX:=λ(u:Int) (u_1 u_2:Nat) (u_3 u_4:bq) ↦let Ik:Nat:=(dq p x u).length;S.bD=u->1=1/\(dq p x u).length=Ik/\(Ik+1)*64<=140737488355328/\Ik+1<=1000000000000/\o q/\((v.same v/\r.same r/\Q.same Q/\T.same T/\True)/\ab [] 27 20 []/\t.same t/\(f (w::y::z::A::B::C::D::E::F::G::H::I::J::K::L::M::N::O::P::r::c 3 u_1 8::c 4 u_2 8::ax::ay::az::aA::aB) 214 29 false).same ao/\u_3.same aq/\u_4.same au/\aY)/\(d<=q/\q<=s)/\(s - q).toNat<(s - x).toNat;d<=x/\x<=s->(decide (x<s)=true->d<=x/\x<aC/\x.toNat<p.offers.length/\aX d aM.length aa.length (a bk.off aM 39 true) ar/\aX g a9.length aN.length ap (a bk.off aN 39 true)/\aW h aO.length Y.length (a bk.off aO 39 true) ae/\aW j X.length aP.length ac (a bk.off aP 39 true)/\aV k aQ.length a6.length (a bk.off aQ 39 true) ai/\aV l Z.length aR.length ag (a bk.off aR 39 true)/\aU m aS.length a8.length (a bk.off aS 39 true) am/\aU n a7.length aT.length ak (a bk.off aT 39 true)/\d<=S.bD/\S.bD<(8:Int))/\(decide (x<s)=false->a9.length=a9.length/\aa.length=aa.length/\X.length=X.length/\Y.length=Y.length/\Z.length=Z.length/\a6.length=a6.length/\a7.length=a7.length/\a8.length=a8.length/\aL.same aL/\(f (w::y::z::A::B::C::D::E::F::G::H::I::J::K::L::M::N::O::P::r::e bk.off a9::e bk.off aa::e bk.off X::e bk.off Y::e bk.off Z::e bk.off a6::e bk.off a7::e bk.off a8::W) 214 29 false).same (f (w::y::z::A::B::C::D::E::F::G::H::I::J::K::L::M::N::O::P::r::e bk.off (L8.of p).l0::e bk.off (L8.of p).l1::e bk.off (L8.of p).l2::e bk.off (L8.of p).l3::e bk.off (L8.of p).l4::e bk.off (L8.of p).l5::e bk.off (L8.of p).l6::e bk.off (L8.of p).l7::W) 214 29 false)/\t.same t/\True)) (by kernel_rfl) ?_;conv=>zeta
 try simp only[vcs]
 have hz:∀j,dq p 0 j=[]:=λj=>rfl;have hlen:∀i j,(dq p i j).length<=160:=λi j=>by
  have h1:=γw (λx:Off=>decide (x.bD=j)) (p.offers.take i.toNat);have h2:=hp.2.1;simp only[Ψ] at h1;unfold dq;omega
 have h160:=hp.2.1;refine⟨⟨by simp only[hz];exact⟨rfl,rfl,rfl,rfl,rfl,rfl,rfl,rfl,rfl⟩,by omega,by omega⟩,?_⟩;rintro i ⟨hi0,hi1⟩;refine⟨λhlt=>⟨hi0,hlt,by omega,?c0,?c1,?c2,?c3,?c4,?c5,?c6,?c7,?cb⟩,λhge=>?ce⟩;case c0=>
  intro hb;have hx:(⟨0,(bj p.offers i.toNat bk.off.dflt).want,(bj p.offers i.toNat bk.off.dflt).value⟩:Off)=bj p.offers i.toNat bk.off.dflt:=by rw[<-hb]
  simp only[hx];rw[uh (j:=0) hi0 hlt hb];rw[dP (j:=1) hi0 hlt (by rw[hb];decide)];rw[dP (j:=2) hi0 hlt (by rw[hb];decide)];rw[dP (j:=3) hi0 hlt (by rw[hb];decide)];rw[dP (j:=4) hi0 hlt (by rw[hb];decide)];rw[dP (j:=5) hi0 hlt (by rw[hb];decide)];rw[dP (j:=6) hi0 hlt (by rw[hb];decide)];rw[dP (j:=7) hi0 hlt (by rw[hb];decide)];have hl:=hlen i 0;refine⟨?_,?_,?_,⟨rfl,rfl,rfl,rfl,rfl,rfl,rfl,rfl,rfl⟩,?_,?_⟩<;>omega
 case c1=>
  intro hb;have hx:(⟨1,(bj p.offers i.toNat bk.off.dflt).want,(bj p.offers i.toNat bk.off.dflt).value⟩:Off)=bj p.offers i.toNat bk.off.dflt:=by rw[<-hb]
  simp only[hx];rw[dP (j:=0) hi0 hlt (by rw[hb];decide)];rw[uh (j:=1) hi0 hlt hb];rw[dP (j:=2) hi0 hlt (by rw[hb];decide)];rw[dP (j:=3) hi0 hlt (by rw[hb];decide)];rw[dP (j:=4) hi0 hlt (by rw[hb];decide)];rw[dP (j:=5) hi0 hlt (by rw[hb];decide)];rw[dP (j:=6) hi0 hlt (by rw[hb];decide)];rw[dP (j:=7) hi0 hlt (by rw[hb];decide)];have hl:=hlen i 1;refine⟨?_,?_,?_,⟨rfl,rfl,rfl,rfl,rfl,rfl,rfl,rfl,rfl⟩,?_,?_⟩<;>omega
 case c2=>
  intro hb;have hx:(⟨2,(bj p.offers i.toNat bk.off.dflt).want,(bj p.offers i.toNat bk.off.dflt).value⟩:Off)=bj p.offers i.toNat bk.off.dflt:=by rw[<-hb]
  simp only[hx];rw[dP (j:=0) hi0 hlt (by rw[hb];decide)];rw[dP (j:=1) hi0 hlt (by rw[hb];decide)];rw[uh (j:=2) hi0 hlt hb];rw[dP (j:=3) hi0 hlt (by rw[hb];decide)];rw[dP (j:=4) hi0 hlt (by rw[hb];decide)];rw[dP (j:=5) hi0 hlt (by rw[hb];decide)];rw[dP (j:=6) hi0 hlt (by rw[hb];decide)];rw[dP (j:=7) hi0 hlt (by rw[hb];decide)];have hl:=hlen i 2;refine⟨?_,?_,?_,⟨rfl,rfl,rfl,rfl,rfl,rfl,rfl,rfl,rfl⟩,?_,?_⟩<;>omega
 case c3=>
  intro hb;have hx:(⟨3,(bj p.offers i.toNat bk.off.dflt).want,(bj p.offers i.toNat bk.off.dflt).value⟩:Off)=bj p.offers i.toNat bk.off.dflt:=by rw[<-hb]
  simp only[hx];rw[dP (j:=0) hi0 hlt (by rw[hb];decide)];rw[dP (j:=1) hi0 hlt (by rw[hb];decide)];rw[dP (j:=2) hi0 hlt (by rw[hb];decide)];rw[uh (j:=3) hi0 hlt hb];rw[dP (j:=4) hi0 hlt (by rw[hb];decide)];rw[dP (j:=5) hi0 hlt (by rw[hb];decide)];rw[dP (j:=6) hi0 hlt (by rw[hb];decide)];rw[dP (j:=7) hi0 hlt (by rw[hb];decide)];have hl:=hlen i 3;refine⟨?_,?_,?_,⟨rfl,rfl,rfl,rfl,rfl,rfl,rfl,rfl,rfl⟩,?_,?_⟩<;>omega
 case c4=>
  intro hb;have hx:(⟨4,(bj p.offers i.toNat bk.off.dflt).want,(bj p.offers i.toNat bk.off.dflt).value⟩:Off)=bj p.offers i.toNat bk.off.dflt:=by rw[<-hb]
  simp only[hx];rw[dP (j:=0) hi0 hlt (by rw[hb];decide)];rw[dP (j:=1) hi0 hlt (by rw[hb];decide)];rw[dP (j:=2) hi0 hlt (by rw[hb];decide)];rw[dP (j:=3) hi0 hlt (by rw[hb];decide)];rw[uh (j:=4) hi0 hlt hb];rw[dP (j:=5) hi0 hlt (by rw[hb];decide)];rw[dP (j:=6) hi0 hlt (by rw[hb];decide)];rw[dP (j:=7) hi0 hlt (by rw[hb];decide)];have hl:=hlen i 4;refine⟨?_,?_,?_,⟨rfl,rfl,rfl,rfl,rfl,rfl,rfl,rfl,rfl⟩,?_,?_⟩<;>omega
 case c5=>
  intro hb;have hx:(⟨5,(bj p.offers i.toNat bk.off.dflt).want,(bj p.offers i.toNat bk.off.dflt).value⟩:Off)=bj p.offers i.toNat bk.off.dflt:=by rw[<-hb]
  simp only[hx];rw[dP (j:=0) hi0 hlt (by rw[hb];decide)];rw[dP (j:=1) hi0 hlt (by rw[hb];decide)];rw[dP (j:=2) hi0 hlt (by rw[hb];decide)];rw[dP (j:=3) hi0 hlt (by rw[hb];decide)];rw[dP (j:=4) hi0 hlt (by rw[hb];decide)];rw[uh (j:=5) hi0 hlt hb];rw[dP (j:=6) hi0 hlt (by rw[hb];decide)];rw[dP (j:=7) hi0 hlt (by rw[hb];decide)];have hl:=hlen i 5;refine⟨?_,?_,?_,⟨rfl,rfl,rfl,rfl,rfl,rfl,rfl,rfl,rfl⟩,?_,?_⟩<;>omega
 case c6=>
  intro hb;have hx:(⟨6,(bj p.offers i.toNat bk.off.dflt).want,(bj p.offers i.toNat bk.off.dflt).value⟩:Off)=bj p.offers i.toNat bk.off.dflt:=by rw[<-hb]
  simp only[hx];rw[dP (j:=0) hi0 hlt (by rw[hb];decide)];rw[dP (j:=1) hi0 hlt (by rw[hb];decide)];rw[dP (j:=2) hi0 hlt (by rw[hb];decide)];rw[dP (j:=3) hi0 hlt (by rw[hb];decide)];rw[dP (j:=4) hi0 hlt (by rw[hb];decide)];rw[dP (j:=5) hi0 hlt (by rw[hb];decide)];rw[uh (j:=6) hi0 hlt hb];rw[dP (j:=7) hi0 hlt (by rw[hb];decide)];have hl:=hlen i 6;refine⟨?_,?_,?_,⟨rfl,rfl,rfl,rfl,rfl,rfl,rfl,rfl,rfl⟩,?_,?_⟩<;>omega
 case c7=>
  intro hb;have hx:(⟨7,(bj p.offers i.toNat bk.off.dflt).want,(bj p.offers i.toNat bk.off.dflt).value⟩:Off)=bj p.offers i.toNat bk.off.dflt:=by rw[<-hb]
  simp only[hx];rw[dP (j:=0) hi0 hlt (by rw[hb];decide)];rw[dP (j:=1) hi0 hlt (by rw[hb];decide)];rw[dP (j:=2) hi0 hlt (by rw[hb];decide)];rw[dP (j:=3) hi0 hlt (by rw[hb];decide)];rw[dP (j:=4) hi0 hlt (by rw[hb];decide)];rw[dP (j:=5) hi0 hlt (by rw[hb];decide)];rw[dP (j:=6) hi0 hlt (by rw[hb];decide)];rw[uh (j:=7) hi0 hlt hb];have hl:=hlen i 7;refine⟨?_,?_,?_,⟨rfl,rfl,rfl,rfl,rfl,rfl,rfl,rfl,rfl⟩,?_,?_⟩<;>omega
 case cb=>
  have hv:=hp.2.2.2.2 _ (cK (d:=bk.off.dflt) (show i.toNat<p.offers.length by omega));have:=hp.1;exact⟨hv.1,by omega⟩
 case ce=>
  have hb:∀j,dq p i j=iY p j:=λj=>by unfold dq iY;rw[show i.toNat=p.offers.length from by omega,ψ]
  simp only[hb];rfl
theorem dm {p:bp} (h:bC p=0):Good p:=by
 obtain⟨e,k⟩:=qI h;obtain⟨b,a,m,g,q⟩:=qH e;refine⟨m,g,b,?_,λx o=>?_⟩
 ·have d:=bz.eL.1 b;have f:=l9.1 (a 0 (by omega));have c:=l9.1 (a 1 (by omega));have i:=l9.1 (a 2 (by omega));have l:=l9.1 (a 3 (by omega));have n:=l9.1 (a 4 (by omega));have j:=l9.1 (a 5 (by omega));simp[bj] at f c i l n j;grind[bz.eL]
 ·have d:=Dm (xI (k x o)).1;simp_all
theorem qJ {n:Nat} (h:n<=8):(2:Int)^n<=256/\0<(2:Int)^n:=by
 have:n=0\/n=1\/n=2\/n=3\/n=4\/n=5\/n=6\/n=7\/n=8:=by omega
 rcases this with h|h|h|h|h|h|h|h|h<;>rw[h]<;>decide
def ik (p:bp) (m:Int):Int:=if fA p m=0 then gl p ⟨m,p.supply,p.opn⟩ else 0
theorem Il (p:bp) (m:Int):0<=ik p m/\ik p m<=8000000:=by
 unfold ik;split
 ·rename_i h;have hc:bC p=0:=by
   unfold fA at h;split at h;·rename_i h1;exact absurd h h1
   ·rename_i h1;exact ω.1 h1
  exact xQ (dm hc) _
 ·omega
theorem Qv {p:bp} {m:Int} (h:fA p m=0):bC p=0/\0<=m/\m<2^p.classes.length:=by
 unfold fA at h;split at h;·rename_i h1;exact absurd h h1
 ·rename_i h1;split at h;·cases h
  ·rename_i h2;exact⟨ω.1 h1,by omega,by omega⟩
def zR:bL:=⟨73,bp×Int,.cons cY (.one (dV .i64)),λ_=>True,λa=> .bH [.si .i64 (ik a.1 a.2),.si .i64 (fA a.1 a.2)]⟩
def WB:List cZ:=[DF,Dw,pW 9]
theorem hWB:∀c∈WB,dK Tryz.prog c:=by
 simp only[WB,γq,γ3,false_implies,implies_true,and_true];exact⟨h113,h114,DD 9⟩
theorem h80:Holds Tryz.prog zR:=by
 refine con (L:=xK) (W:=fU WB) zR lk (lg hWB) Du ?_;rintro⟨p,m⟩ _;refine bN (let a:=Θ .i64;let b:=SV.bH;let c:=decide (fA p m≠(0:Int));let d:=γp .i64 0;let e:=[a (fA p m)];let f:=b (a (ik p m)::e);let g:=Sit.mk m p.supply p.opn;True/\(c=true->(b (d::e)).same f)/\(c=false->Good p/\True/\((Good p/\L8.of p=L8.of p/\js g/\iZ p [])/\cnt m<9)/\(b [a (gk p (cnt m+1) [] g).fst,d]).same f)) (by kernel_rfl) ?_;simp only[vcs];refine⟨λh=>by simp[ik,h],λh=>?_⟩;have hz:fA p m=0:=ω.1 h;obtain⟨hc,h1,h2⟩:=Qv hz;have hg:=dm hc;have hp:=qJ hg.1;have ha:js ⟨m,p.supply,p.opn⟩:=⟨h1,by simp only;omega,hg.2.2.1,hg.2.2.2.1⟩;have hm:iZ p []:=λe he=>by simp at he
 have hn:cnt m<9:=by have:=@Dz m;unfold cnt;omega
 have hb:=xR hg (cnt m+1) [] ⟨m,p.supply,p.opn⟩ ha hm (by simp only;omega);refine⟨hg,⟨⟨hg,ha,hm⟩,hn⟩,?_,hz.symm⟩;rw[hb.1];simp[ik,hz]
def LB:List bL:=zR::xK
theorem Im:∀c∈LB,Holds Tryz.prog c:=by
 simp only[LB,γq];exact⟨h80,Du⟩
structure kG where
 p:bp
 values:List Int
 all:Int
 worth:Int
def om:oV kG where
 put d:=.agg [.si .i64 d.p.supply.a0,.si .i64 d.p.supply.a1,.si .i64 d.p.supply.a2,.si .i64 d.p.supply.a3,.si .i64 d.p.supply.a4,.si .i64 d.p.supply.a5,
  .si .i64 d.p.opn.a0,.si .i64 d.p.opn.a1,.si .i64 d.p.opn.a2,.si .i64 d.p.opn.a3,.si .i64 d.p.opn.a4,.si .i64 d.p.opn.a5,
  .si .i64 d.p.cls.a0,.si .i64 d.p.cls.a1,.si .i64 d.p.cls.a2,.si .i64 d.p.cls.a3,.si .i64 d.p.cls.a4,.si .i64 d.p.cls.a5,
  .row (.i .i64) d.p.classes,.row .off d.p.offers,.row (.i .i64) d.values,.si .i64 d.all,.si .i64 d.worth];dec
  | .agg [s0,s1,s2,s3,s4,s5,o0,o1,o2,o3,o4,o5,c0,c1,c2,c3,c4,c5,k,f,v,a,w]=>
   match sK [s0,s1,s2,s3,s4,s5,o0,o1,o2,o3,o4,o5,c0,c1,c2,c3,c4,c5,k,f],gj (.i .i64) v,a.int .i64,w.int .i64 with
   |some p,some v,some a,some w=>some ⟨p,v,a,w⟩
   |_,_,_,_=>none
  |_=>none;ok v a h:=by
  split at h
  ·split at h
   ·rename_i h1 h2 h3 h4;simp only[γ] at h;subst h;have hp:=vH h1;simp only[bp.ss,gL,ξ,and_true] at hp;simp only[SV.g,gL];simp only[hp,jK h2,gU h3,gU h4];rfl
   ·cases h
  ·cases h
 inj a b h:=by
  obtain⟨p,v,al,w⟩:=a;obtain⟨q,v',al',w'⟩:=b;simp only[SV.g,gL,εy,ξ,and_true,γX,Value.int.injEq,true_and] at h;have hp:p=q:=by
   apply cY.inj;show(γC p.ss).g=(γC q.ss).g;simp only[SV.g,bp.ss,gL,εy,ξ,and_true,γX,Value.int.injEq,true_and];simp only[h,and_self]
  subst hp;have hv:v=v':=(dW (.i .i64)).inj _ _ (by simp only[dW,SV.g];simp only[h]);simp only[kG.mk.injEq,true_and];exact⟨hv,by simp only[h],by simp only[h]⟩
def allM (p:bp):Int:=2^p.classes.length - 1
def ui (p:bp) (v:List Int) (i:Int):List Int:=v.set (bj p.offers i.toNat bk.off.dflt).bD.toNat (bj p.offers i.toNat bk.off.dflt).value
def nD (p:bp) (c:List Int):List Int:=c.foldl (ui p) (ε p.classes.length 0)
def sN (p:bp) (s:Int) (i:Int):Int:=s+(bj p.offers i.toNat bk.off.dflt).value
def i6 (p:bp) (c:List Int):Int:=c.foldl (sN p) 0
def j8 (p:bp) (c:List Int):Int:=if dc p c≠0 then dc p c else if i6 p c<ik p (allM p) then 13 else 0
def bp.zero:bp:=⟨bz.zero,bz.zero,bz.zero,[],[]⟩
def kH (p:bp) (c:List Int):kG:=if j8 p c=0 then⟨p,nD p c,allM p,i6 p c⟩ else⟨bp.zero,[],0,0⟩
def Io:bL:=⟨68,bp×Alloc,.cons cY (.one lC),λa=>a.2.chosen.length<=1000000000000,λa=> .bH [om.put (kH a.1 a.2.chosen),.si .i64 (j8 a.1 a.2.chosen)]⟩
def aaN (a:bp×Alloc):Nat->cB
 |7=> .inv Int (λi=>⟨[(2,.ptr 0 0 20),(4,.ptr 2 0 23),(7,.ptr 4 0 23),(8,.si .i64 (i6 a.1 (a.2.chosen.take i.toNat))),(34,.row (.i .i64) a.2.chosen),(35,.si .i64 a.2.chosen.length),(36,.si .i64 i)],
  [.cells a.1.ss 27 20 false,.cells [.row (.i .i64) a.2.chosen,.si .i64 a.2.value] 41 2 false,
   .cells [.il .i64 0,.il .i64 0,.il .i64 0,.il .i64 0,.il .i64 0,.il .i64 0,.il .i64 0,.il .i64 0,.il .i64 0,.il .i64 0,.il .i64 0,.il .i64 0,.il .i64 0,.il .i64 0,.il .i64 0,.il .i64 0,.il .i64 0,.il .i64 0,.sc (.slice none 0 0),.sc (.slice none 0 0),.sc (.slice none 0 0),.il .i64 0,.il .i64 0] 99 23 false,
   .row (.i .i64) (nD a.1 (a.2.chosen.take i.toNat)) 2 true,
   .cells [.si .i64 a.1.supply.a0,.si .i64 a.1.supply.a1,.si .i64 a.1.supply.a2,.si .i64 a.1.supply.a3,.si .i64 a.1.supply.a4,.si .i64 a.1.supply.a5,
    .si .i64 a.1.opn.a0,.si .i64 a.1.opn.a1,.si .i64 a.1.opn.a2,.si .i64 a.1.opn.a3,.si .i64 a.1.opn.a4,.si .i64 a.1.opn.a5,
    .si .i64 a.1.cls.a0,.si .i64 a.1.cls.a1,.si .i64 a.1.cls.a2,.si .i64 a.1.cls.a3,.si .i64 a.1.cls.a4,.si .i64 a.1.cls.a5,
    .row (.i .i64) a.1.classes,.row .off a.1.offers,.ow 3 (a.1.classes.length:Int).toNat 1,.si .i64 (1*2^(a.1.classes.length:Int).toNat - 1),.il .i64 0] 99 23 false]⟩)
  (λs=>iS s 36) (λi=>0<=i/\i<=a.2.chosen.length) (λi=>(a.2.chosen.length - i).toNat) λ_ _=> .look
 |_=> .look
theorem DG {l:List Off}:∀{c:List Int} {a:Int} {r:List Off}, -1<=a->fW l a c=some r->r.length=c.length/\∀i∈c,0<=i/\i<l.length
 |[],a,r,_,h=>by grind[fW];|i::c,a,r,e,h=>by
  simp only[fW] at h;split at h;·cases h
  ·rename_i d;obtain⟨f,b,rfl⟩:=δ.1 h;obtain⟨g,j⟩:=DG (by omega) b;grind
theorem Qw {p:bp}:∀{c:List Int} {v:List Int},(c.foldl (ui p) v).length=v.length
 |[],v=>rfl
 |i::c,v=>by simp only[γM];rw[Qw];simp[ui]
theorem Qx {p:bp} {c:List Int}:(nD p c).length=p.classes.length:=by unfold nD;rw[Qw];simp
theorem Ip {p:bp} (e:Good p):∀{c:List Int} {s:Int},(∀i∈c,0<=i/\i<p.offers.length)->0<=s->0<=c.foldl (sN p) s/\c.foldl (sN p) s<=s+1000000*c.length
 |[],s,_,b=>by simp;exact b;|i::c,s,a,b=>by
  simp only[γM];have k:=a i (by simp);have h:=e.2.2.2.2 _ (cK (d:=bk.off.dflt) (show i.toNat<p.offers.length by omega));have f:0<=sN p s i/\sN p s i<=s+1000000:=by grind[sN]
  have:=Ip e (c:=c) (s:=sN p s i) (λj g=>a j (by simp[g])) f.1;grind
theorem Qy {d:kG} (h:d=⟨bp.zero,[],0,0⟩):(γC [γp .i64 0,γp .i64 0,γp .i64 0,γp .i64 0,γp .i64 0,γp .i64 0,γp .i64 0,γp .i64 0,γp .i64 0,γp .i64 0,γp .i64 0,γp .i64 0,γp .i64 0,γp .i64 0,γp .i64 0,γp .i64 0,γp .i64 0,γp .i64 0,Φ (.i .i64) [],Φ (.i .i64) [],Φ (.i .i64) [],γp .i64 0,γp .i64 0]).same (om.put d):=by
 simp_all[SV.same,om,SV.g,gL,bp.zero,bz.zero,cC]
theorem h61:Holds Tryz.prog Io:=by
 refine cF (L:=LB) Io aaN Im ?_;rintro⟨p,⟨c,v⟩⟩ (hc:c.length<=1000000000000);refine bN (let a:=Θ .i64;let b:=(0:Int);let d:=Φ;let e:=bq.cells;let f:=(1:Int);let g:=bq.row;let h:=bV .i64;let j:=SV.bH;let k:=γS;let l:=γC;let af:=decide (dc p c≠b);let m:=γp .i64 0;let o:=bk.i .i64;let a9:=d o [];let aa:=l [m,m,m,m,m,m,m,m,m,m,m,m,m,m,m,m,m,m,a9,a9,a9,m,m];let n:=(kH p c).p;let u:=n.supply;let z:=j [l [a u.a0,a u.a1,a u.a2,a u.a3,a u.a4,a u.a5,a n.opn.a0,a n.opn.a1,a n.opn.a2,a n.opn.a3,a n.opn.a4,a n.opn.a5,a n.cls.a0,a n.cls.a1,a n.cls.a2,a n.cls.a3,a n.cls.a4,a n.cls.a5,d o n.classes,d bk.off n.offers,d o (kH p c).values,a (kH p c).all,a (kH p c).worth],a (j8 p c)];let q:=(↑p.classes.length:Int);let ab:=f*(2:Int)^q.toNat;let A:=k 0 0 20;let B:=k 2 0 23;let C:=k 4 0 23;let r:=(↑c.length:Int);let ac:=a r;let D:=a p.supply.a0;let E:=a p.supply.a1;let F:=a p.supply.a2;let G:=a p.supply.a3;let H:=a p.supply.a4;let I:=a p.supply.a5;let J:=a p.opn.a0;let K:=a p.opn.a1;let L:=a p.opn.a2;let M:=a p.opn.a3;let N:=a p.opn.a4;let O:=a p.opn.a5;let P:=a p.cls.a0;let Q:=a p.cls.a1;let R:=a p.cls.a2;let S:=a p.cls.a3;let T:=a p.cls.a4;let U:=a p.cls.a5;let V:=d o p.classes;let W:=d bk.off p.offers;let X:=e [D,E,F,G,H,I,J,K,L,M,N,O,P,Q,R,S,T,U,V,W] 27 20 false;let Y:=e [d o c,a v] 41 2 false;let ad:=SV.sc (Value.slice none 0 0);let Z:=e [m,m,m,m,m,m,m,m,m,m,m,m,m,m,m,m,m,m,ad,ad,ad,m,m] 99 23 false;let y:=(↑p.classes.length:Int).toNat;let a6:=f*(2:Int)^y - f;let ag:=a a6;let ae:=e [D,E,F,G,H,I,J,K,L,M,N,O,P,Q,R,S,T,U,V,W,γ6 3 y 1,ag,m] 99 23 false;let ah:=decide (fA p a6≠b);c.length<=9223372036854775807/\(af=true->(j [aa,a (dc p c)]).same z)/\(af=false->b<=q/\q<=q/\q*(8:Int)<=(140737488355328:Int)/\q<=(1000000000000:Int)/\b<=q/\q<=(64:Int)/\h ab/\h (ab - f)/\(((A.same A/\B.same B/\C.same C/\m.same (a (i6 p []))/\(d o c).same (d o c)/\(a (↑c.length:Int)).same ac/\m.same (a 0)/\True)/\X.same X/\Y.same Y/\Z.same Z/\(g o (ε q.toNat b) 2 true).same (g o (nD p []) 2 true)/\(e [D,E,F,G,H,I,J,K,L,M,N,O,P,Q,R,S,T,U,V,W,γ6 3 q.toNat 1,a (ab - f),m] 99 23 false).same ae/\True)/\b<=b/\b<=r)/\∀(x:Int),let a7:=bj c x.toNat b;let s:=nD p (γa x.toNat c);let t:=bj p.offers a7.toNat bk.off.dflt;let a8:=i6 p (γa x.toNat c);let w:=x+f;let ai:=γa w.toNat c;let aj:=a w;let ak:=decide (a8<ik p a6);b<=x/\x<=r->(decide (x<r)=true->b<=x/\x<(↑c.length:Int)/\x.toNat<c.length/\b<=a7/\a7<(↑p.offers.length:Int)/\a7.toNat<p.offers.length/\y=s.length/\b<=t.bD/\t.bD<(↑s.length:Int)/\y=s.length/\t.bD.toNat<s.length/\h (a8+t.value)/\h w/\((A.same A/\B.same B/\C.same C/\(a (a8+t.value)).same (a (i6 p ai))/\(d o c).same (d o c)/\ac.same ac/\aj.same aj/\True)/\X.same X/\Y.same Y/\Z.same Z/\(g o (s.set t.bD.toNat t.value) 2 true).same (g o (nD p ai) 2 true)/\ae.same ae/\True)/\(b<=w/\w<=r)/\(r - w).toNat<(r - x).toNat)/\(decide (x<r)=false->True/\(ah=true->(j [aa,a (fA p a6)]).same z)/\(ah=false->(ak=true->(j [aa,γp .i64 13]).same z)/\(ak=false->y=s.length/\(j [l [D,E,F,G,H,I,J,K,L,M,N,O,P,Q,R,S,T,U,V,W,d o s,ag,a a8],m]).same z))))) (by kernel_rfl) ?_;simp only[vcs];refine⟨by omega,λh=>⟨Qy (by simp[kH,j8,h]),by simp[j8,h]⟩,λh=>?_⟩;have hz:dc p c=0:=ω.1 h;have hck:bC p=0:=by
  unfold dc at hz;split at hz;·rename_i h1;exact absurd hz h1
  ·rename_i h1;exact ω.1 h1
 have hpk:jq p c=true:=by
  unfold dc at hz;rw[if_neg (by simp[hck])] at hz;split at hz;·cases hz
  ·rename_i h1;simpa using h1
 have hg:=dm hck;have hp:=qJ hg.1;obtain⟨r,hr⟩:=γo.1 hpk;obtain⟨hr1,hidx⟩:=DG (by omega) hr;have hcl:c.length<=160:=by
  have h1:=xJ (by omega) hr;have h2:=hg.2.1;rcases h1 with h1|rfl;·omega
  ·simp at hr1;omega
 have hn:(p.classes.length:Int).toNat=p.classes.length:=by simp
 have hall:(1:Int)*2^(p.classes.length:Int).toNat - 1=allM p:=by simp[allM]
 have hg1:=hg.1;rw[hn] at*;refine⟨by omega,by omega,by omega,by omega,by omega,by omega,⟨by omega,by omega⟩,⟨by omega,by omega⟩,?_⟩;have hrow:∀{x y:List Int},x=y->(bq.row (.i .i64) x 2 true).same (bq.row (.i .i64) y 2 true):=by rintro _ _ rfl;rfl
 refine⟨⟨⟨rfl,hrow rfl⟩,by omega,by omega⟩,?_⟩;rintro i ⟨hi0,hi1⟩;have hvl:(nD p (c.take i.toNat)).length=p.classes.length:=Qx;refine⟨λhlt=>?_,λhge=>?_⟩
 ·have hci:=hidx _ (cK (d:=0) (show i.toNat<c.length by omega));have htk:=jo (d:=0) hi0 hlt;generalize bj c i.toNat 0=ci at hci htk ⊢;have hv:=hg.2.2.2.2 _ (cK (d:=bk.off.dflt) (show ci.toNat<p.offers.length by omega));have hsb:=Ip hg (c:=c.take i.toNat) (s:=0) (λj hj=>hidx j (γl hj)) (by omega);have htl:(c.take i.toNat).length<=160:=by simp only[Ψ];omega
  change 0<=i6 p (c.take i.toNat)/\i6 p (c.take i.toNat)<=_ at hsb;have e1:i6 p (c.take (i+1).toNat)=i6 p (c.take i.toNat)+(bj p.offers ci.toNat bk.off.dflt).value:=by
   rw[htk];unfold i6;rw[εK];rfl
  have e2:nD p (c.take (i+1).toNat)=(nD p (c.take i.toNat)).set (bj p.offers ci.toNat bk.off.dflt).bD.toNat (bj p.offers ci.toNat bk.off.dflt).value:=by
   rw[htk];unfold nD;rw[εK];rfl
  refine⟨hi0,hlt,?_,hci.1,hci.2,?_,hvl.symm,hv.1,?_,hvl.symm,?_,?_,?_,⟨e1.symm,hrow e2.symm⟩,?_,?_⟩<;>omega
 ·rw[show i.toNat=c.length from by omega,ψ] at hvl ⊢;rw[hall];have hf:fA p (allM p)=0:=by
   unfold fA allM;rw[if_neg (by simp[hck]),if_neg (by omega)]
  refine⟨λh1=>absurd hf h1,λ_=>⟨λh1=>?_,λh1=>⟨hvl.symm,?_⟩⟩⟩
  ·have ho:j8 p c=13:=by simp[j8,hz,h1]
   exact⟨Qy (by simp[kH,ho]),ho.symm⟩
  ·have ho:j8 p c=0:=by simp[j8,hz,h1]
   have hd:kH p c=⟨p,nD p c,allM p,i6 p c⟩:=by simp[kH,ho]
   rw[hd,ho];exact⟨rfl,rfl⟩
def rM (d:kG):Prop:=bC d.p=0/\d.values.length=d.p.classes.length/\d.all=allM d.p/\(∀v∈d.values,0<=v/\v<=1000000)/\0<=d.worth/\d.worth<=200000000
def mT (d:kG) (b:Int):Int:=if bj d.values b.toNat 0=0 then 0 else ik d.p (ie d.all b) - (d.worth - bj d.values b.toNat 0)
def zS (d:kG) (b:Int):Int:=bj d.values b.toNat 0 - mT d b
theorem aaO {d:kG} (h:rM d) {b:Int} (h0:0<=b) (h1:b<d.values.length): -300000000<=mT d b/\mT d b<=300000000:=by
 obtain⟨a1,a2,a3,a4,a5,a6⟩:=h;have hv:=a4 _ (cK (d:=0) (show b.toNat<d.values.length by omega));have hw:=Il d.p (ie d.all b);unfold mT;split<;>omega
def Iq:bL:=⟨70,kG×Int,.cons om (.one (dV .i64)),λa=>rM a.1/\0<=a.2/\a.2<a.1.values.length,λa=> .si .i64 (mT a.1 a.2)⟩
theorem h63:Holds Tryz.prog Iq:=by
 refine cF (L:=LB) Iq lk Im ?_;rintro⟨d,b⟩ ⟨hd,h0,h1⟩;simp only at hd h0 h1;refine bN (let a:=(0:Int);let c:=bV .i64;let e:=bj d.values b.toNat a;let f:=decide (e=a);let g:=Θ .i64 (mT d b);let h:=(1:Int)*(2:Int)^b.toNat;let i:=ik d.p (eJ.pN .i64 d.all h) - (d.worth - e);a<=b/\b<(↑d.values.length:Int)/\b.toNat<d.values.length/\(f=true->(γp .i64 0).same g)/\(f=false->a<=b/\b<=(64:Int)/\c h/\True/\a<=b/\b<(↑d.values.length:Int)/\b.toNat<d.values.length/\c (d.worth - e)/\c i/\(Θ .i64 i).same g)) (by kernel_rfl) ?_;simp only[vcs,δG];obtain⟨a1,a2,a3,a4,a5,a6⟩:=hd;have hg:=dm a1;have hg1:=hg.1;have hv:=a4 _ (cK (d:=0) (show b.toNat<d.values.length by omega));have hp:=qJ (show b.toNat<=8 by omega);have hw:=Il d.p (eJ.pN .i64 d.all (2^b.toNat));refine⟨h0,by omega,by omega,λh=>?_,λh=>?_⟩;·simp[mT,h]
 ·refine⟨h0,by omega,⟨by omega,by omega⟩,h0,by omega,by omega,⟨by omega,by omega⟩,⟨by omega,by omega⟩,?_⟩;simp only[mT,if_neg h];rfl
def LC:List bL:=Iq::Io::LB
theorem Qz:∀c∈LC,Holds Tryz.prog c:=by
 simp only[LC,γq];exact⟨h63,h61,Im⟩
def Is:bL:=⟨72,kG×Int,.cons om (.one (dV .i64)),λa=>rM a.1/\0<=a.2/\a.2<a.1.values.length,λa=> .si .i64 (zS a.1 a.2)⟩
theorem h66:Holds Tryz.prog Is:=by
 refine cF (L:=LC) Is lk Qz ?_;rintro⟨d,b⟩ ⟨hd,h0,h1⟩;simp only at hd h0 h1;refine bN (let a:=(0:Int);let c:=bj d.values b.toNat a - mT d b;a<=b/\b<(↑d.values.length:Int)/\b.toNat<d.values.length/\(rM d/\a<=b/\b<(↑d.values.length:Int))/\bV .i64 c/\(Θ .i64 c).same (Θ .i64 (zS d b))) (by kernel_rfl) ?_;simp only[vcs];have hb:=aaO hd h0 h1;obtain⟨a1,a2,a3,a4,a5,a6⟩:=id hd;have hv:=a4 _ (cK (d:=0) (show b.toNat<d.values.length by omega));refine⟨h0,?_,?_,⟨hd,h0,?_⟩,?_,rfl⟩<;>omega
def QA:oV (Bool×kG) where
 put a:=match a.1 with
  |true=> .fn (.func 72) [om.put a.2] []
  |false=> .fn (.func 70) [om.put a.2] [];dec
  | .fn (.func f) [d] []=>if f=72 then(om.dec d).map λd=>(true,d) else if f=70 then(om.dec d).map λd=>(false,d) else none
  |_=>none;ok v a h:=by
  split at h
  ·split at h
   ·rename_i hf;obtain⟨d,h1,rfl⟩:=δ.1 h;simp only[SV.g,gL,om.ok _ _ h1,hf]
   ·split at h
    ·rename_i hf;obtain⟨d,h1,rfl⟩:=δ.1 h;simp only[SV.g,gL,om.ok _ _ h1,hf]
    ·cases h
  ·cases h
 inj a b h:=by
  obtain⟨k,d⟩:=a;obtain⟨k',d'⟩:=b;cases k<;>cases k'<;>simp only[SV.g,gL,AV.fn.injEq,Fn.func.injEq,ξ,and_true,true_and,reduceCtorEq,Nat.reduceEqDiff,false_and] at h;·rw[om.inj _ _ h]
  ·rw[om.inj _ _ h]
def Iu (a:Bool×kG) (i:Int):Int:=match a.1 with
 |true=>zS a.2 i
 |false=>mT a.2 i
def lj (a:Bool×kG) (n:Nat):List Int:=(π n).map λi:Nat=>Iu a i
def Iw:bL:=⟨69,kG×(Bool×kG),.cons om (.one QA),λa=>rM a.2.2/\a.1.values.length=a.2.2.values.length,λa=> .row (.i .i64) (lj a.2 a.1.values.length)⟩
def LD:List bL:=Is::LC
theorem QB:∀c∈LD,Holds Tryz.prog c:=by
 simp only[LD,γq];exact⟨h66,Qz⟩
def aaP (a:kG×(Bool×kG)):Nat->cB
 |3=> .inv Int (λi=>⟨[(1,QA.put a.2),(5,.ow 1 (lj a.2 i.toNat).length 1),(9,.si .i64 a.1.values.length),(10,.si .i64 i)],[.cells [.si .i64 a.1.p.supply.a0,.si .i64 a.1.p.supply.a1,.si .i64 a.1.p.supply.a2,.si .i64 a.1.p.supply.a3,.si .i64 a.1.p.supply.a4,.si .i64 a.1.p.supply.a5,
    .si .i64 a.1.p.opn.a0,.si .i64 a.1.p.opn.a1,.si .i64 a.1.p.opn.a2,.si .i64 a.1.p.opn.a3,.si .i64 a.1.p.opn.a4,.si .i64 a.1.p.opn.a5,
    .si .i64 a.1.p.cls.a0,.si .i64 a.1.p.cls.a1,.si .i64 a.1.p.cls.a2,.si .i64 a.1.p.cls.a3,.si .i64 a.1.p.cls.a4,.si .i64 a.1.p.cls.a5,
    .row (.i .i64) a.1.p.classes,.row .off a.1.p.offers,.row (.i .i64) a.1.values,.si .i64 a.1.all,.si .i64 a.1.worth] 99 23 false,.row (.i .i64) (lj a.2 i.toNat) 2 true]⟩)
  (λs=>iS s 10) (λi=>0<=i/\i<=a.1.values.length) (λi=>(a.1.values.length - i).toNat) λ_ _=> .look
 |_=> .look
theorem Ix {a:Bool×kG} {n:Nat}:(lj a n).length=n:=by simp[lj]
theorem DI {a:Bool×kG} {i:Int} (h:0<=i):lj a (i+1).toNat=lj a i.toNat++[Iu a i]:=by
 unfold lj;rw[show(i+1).toNat=i.toNat+1 from by omega,δr,γd];simp only[ι,γt,show((i.toNat:Nat):Int)=i from by omega]
theorem aaQ {d:kG} (h:rM d):d.values.length<=8:=by
 rw[h.2.1];exact(dm h.1).1
theorem h62:Holds Tryz.prog Iw:=by
 refine cF (L:=LD) Iw aaP QB ?_;have hrow:∀{x y:List Int},x=y->(bq.row (.i .i64) x 2 true).same (bq.row (.i .i64) y 2 true):=by rintro _ _ rfl;rfl
 have how:∀{x y:Nat},x=y->(γ6 1 x 1).same (γ6 1 y 1):=by rintro _ _ rfl;rfl
 rintro⟨d,k,e⟩ ⟨hd,hn⟩;simp only at hd hn;have h8:=aaQ hd;cases k with
 |false=>
  refine bN (let a:=Θ .i64;let b:=Φ;let c:=(0:Int);let f:=bq.row;let g:=γ6;let h:=bk.i .i64;let m:=SV.fn (Fn.func 70) [γC [a e.p.supply.a0,a e.p.supply.a1,a e.p.supply.a2,a e.p.supply.a3,a e.p.supply.a4,a e.p.supply.a5,a e.p.opn.a0,a e.p.opn.a1,a e.p.opn.a2,a e.p.opn.a3,a e.p.opn.a4,a e.p.opn.a5,a e.p.cls.a0,a e.p.cls.a1,a e.p.cls.a2,a e.p.cls.a3,a e.p.cls.a4,a e.p.cls.a5,b h e.p.classes,b bk.off e.p.offers,b h e.values,a e.all,a e.worth]] [];let q:=lj (false,e) 0;let j:=(↑d.values.length:Int);let o:=a j;let n:=bq.cells [a d.p.supply.a0,a d.p.supply.a1,a d.p.supply.a2,a d.p.supply.a3,a d.p.supply.a4,a d.p.supply.a5,a d.p.opn.a0,a d.p.opn.a1,a d.p.opn.a2,a d.p.opn.a3,a d.p.opn.a4,a d.p.opn.a5,a d.p.cls.a0,a d.p.cls.a1,a d.p.cls.a2,a d.p.cls.a3,a d.p.cls.a4,a d.p.cls.a5,b h d.p.classes,b bk.off d.p.offers,b h d.values,a d.all,a d.worth] 99 23 false;(((m.same m/\(g 1 0 1).same (g 1 q.length 1)/\(a (↑d.values.length:Int)).same o/\(γp .i64 0).same (a 0)/\True)/\n.same n/\(f h [] 2 true).same (f h q 2 true)/\True)/\c<=c/\c<=j)/\∀(x:Int),let k:=lj (false,e) x.toNat;let r:=k.length+1;let l:=x+(1:Int);let s:=lj (false,e) l.toNat;let t:=a l;c<=x/\x<=j->(decide (x<j)=true->(rM e/\c<=x/\x<(↑e.values.length:Int))/\k.length=k.length/\r*8<=140737488355328/\r<=1000000000000/\bV .i64 l/\((m.same m/\(g 1 (k++[mT e x]).length 1).same (g 1 s.length 1)/\o.same o/\t.same t/\True)/\n.same n/\(f h (k++[mT e x]) 2 true).same (f h s 2 true)/\True)/\(c<=l/\l<=j)/\(j - l).toNat<(j - x).toNat)/\(decide (x<j)=false->k.length=k.length/\(b h k).same (b h (lj (false,e) d.values.length)))) (by kernel_rfl) ?_;simp only[vcs];refine⟨⟨⟨how rfl,hrow rfl⟩,by omega,by omega⟩,?_⟩;rintro i ⟨hi0,hi1⟩;have hL:=@Ix (false,e) i.toNat;refine⟨λhlt=>⟨⟨hd,hi0,by omega⟩,by omega,by omega,by omega,⟨how (by rw[DI hi0];rfl),hrow (DI hi0).symm⟩,by omega,by omega⟩,λhge=>?_⟩;rw[show i.toNat=d.values.length from by omega];|true=>
  refine bN (let a:=Θ .i64;let b:=Φ;let c:=(0:Int);let f:=bq.row;let g:=γ6;let h:=bk.i .i64;let m:=SV.fn (Fn.func 72) [γC [a e.p.supply.a0,a e.p.supply.a1,a e.p.supply.a2,a e.p.supply.a3,a e.p.supply.a4,a e.p.supply.a5,a e.p.opn.a0,a e.p.opn.a1,a e.p.opn.a2,a e.p.opn.a3,a e.p.opn.a4,a e.p.opn.a5,a e.p.cls.a0,a e.p.cls.a1,a e.p.cls.a2,a e.p.cls.a3,a e.p.cls.a4,a e.p.cls.a5,b h e.p.classes,b bk.off e.p.offers,b h e.values,a e.all,a e.worth]] [];let q:=lj (true,e) 0;let j:=(↑d.values.length:Int);let o:=a j;let n:=bq.cells [a d.p.supply.a0,a d.p.supply.a1,a d.p.supply.a2,a d.p.supply.a3,a d.p.supply.a4,a d.p.supply.a5,a d.p.opn.a0,a d.p.opn.a1,a d.p.opn.a2,a d.p.opn.a3,a d.p.opn.a4,a d.p.opn.a5,a d.p.cls.a0,a d.p.cls.a1,a d.p.cls.a2,a d.p.cls.a3,a d.p.cls.a4,a d.p.cls.a5,b h d.p.classes,b bk.off d.p.offers,b h d.values,a d.all,a d.worth] 99 23 false;(((m.same m/\(g 1 0 1).same (g 1 q.length 1)/\(a (↑d.values.length:Int)).same o/\(γp .i64 0).same (a 0)/\True)/\n.same n/\(f h [] 2 true).same (f h q 2 true)/\True)/\c<=c/\c<=j)/\∀(x:Int),let k:=lj (true,e) x.toNat;let r:=k.length+1;let l:=x+(1:Int);let s:=lj (true,e) l.toNat;let t:=a l;c<=x/\x<=j->(decide (x<j)=true->(rM e/\c<=x/\x<(↑e.values.length:Int))/\k.length=k.length/\r*8<=140737488355328/\r<=1000000000000/\bV .i64 l/\((m.same m/\(g 1 (k++[zS e x]).length 1).same (g 1 s.length 1)/\o.same o/\t.same t/\True)/\n.same n/\(f h (k++[zS e x]) 2 true).same (f h s 2 true)/\True)/\(c<=l/\l<=j)/\(j - l).toNat<(j - x).toNat)/\(decide (x<j)=false->k.length=k.length/\(b h k).same (b h (lj (true,e) d.values.length)))) (by kernel_rfl) ?_;simp only[vcs];refine⟨⟨⟨how rfl,hrow rfl⟩,by omega,by omega⟩,?_⟩;rintro i ⟨hi0,hi1⟩;have hL:=@Ix (true,e) i.toNat;refine⟨λhlt=>⟨⟨hd,hi0,by omega⟩,by omega,by omega,by omega,⟨how (by rw[DI hi0];rfl),hrow (DI hi0).symm⟩,by omega,by omega⟩,λhge=>?_⟩;rw[show i.toNat=d.values.length from by omega]
theorem QC {p:bp} (f:Good p):∀{c:List Int} {v:List Int},(∀i∈c,0<=i/\i<p.offers.length)->(∀x∈v,0<=x/\x<=1000000)->∀x∈c.foldl (ui p) v,0<=x/\x<=1000000
 |[],v,_,a=>a
 |i::c,v,b,a=>by
  simp only[γM];refine QC f (λj g=>b j (by simp[g])) ?_;intro x e;unfold ui at e;rcases List.mem_or_eq_of_mem_set e with h|h;·exact a x h
  ·have k:=b i (by simp);have:=f.2.2.2.2 _ (cK (d:=bk.off.dflt) (show i.toNat<p.offers.length by omega));omega
theorem QE {p:bp} {c:List Int} (h:j8 p c=0):rM (kH p c)/\kH p c=⟨p,nD p c,allM p,i6 p c⟩/\Good p:=by
 have i:dc p c=0:=by
  unfold j8 at h;omega
 have b:bC p=0:=by
  unfold dc at i;omega
 have e:jq p c=true:=by
  unfold dc at i;grind
 have d:=dm b;obtain⟨r,f⟩:=γo.1 e;obtain⟨j,a⟩:=DG (by omega) f;have l:c.length<=160:=by
  have o:=xJ (by omega) f;have m:=d.2.1;grind
 have g:kH p c=⟨p,nD p c,allM p,i6 p c⟩:=by simp[kH,h]
 have k:=Ip d (c:=c) (s:=0) a (by omega);change 0<=i6 p c/\i6 p c<=_ at k;refine⟨?_,g,d⟩;rw[g];exact⟨b,Qx,rfl,QC d a (λx n=>by simp_all),by simp_all,by grind⟩
def LE:List bL:=Iw::LD
theorem hLE:∀c∈LE,Holds Tryz.prog c:=by
 simp only[LE,γq];exact⟨h62,QB⟩
def mU (p:bp) (c:List Int):List Int:=if j8 p c=0 then lj (false,kH p c) p.classes.length else[]
def Iy:bL:=⟨36,bp×Alloc,.cons cY (.one lC),λa=>a.2.chosen.length<=1000000000000,λa=> .bH [.row (.i .i64) (mU a.1 a.2.chosen),.si .i64 (j8 a.1 a.2.chosen)]⟩
theorem h17:Holds Tryz.prog Iy:=by
 refine cF (L:=LE) Iy lk hLE ?_;rintro⟨p,⟨c,v⟩⟩ (hc:c.length<=1000000000000);refine bN (let a:=Φ;let b:=SV.bH;let f:=decide (j8 p c≠(0:Int));let d:=bk.i .i64;let g:=[Θ .i64 (j8 p c)];let h:=b (a d (mU p c)::g);let e:=(kH p c).values.length;c.length<=1000000000000/\(f=true->(b (a d []::g)).same h)/\(f=false->(rM (kH p c)/\e=e)/\(b [a d (lj (false,kH p c) e),γp .i64 0]).same h)) (by kernel_rfl) ?_;simp only[vcs];refine⟨hc,λh=>by simp[mU,h],λh=>?_⟩;have hz:j8 p c=0:=ω.1 h;obtain⟨h1,h2,h3⟩:=QE hz;refine⟨h1,?_,hz.symm⟩;rw[h1.2.1,h2];simp[mU,hz,h2]
def xT (p:bp) (n:Int):Bool:=decide ((p.offers.length:Int)<=n)&&decide ((p.classes.length:Int)<=8)
def Iz:bL:=⟨43,bp×Int,.cons cY (.one (dV .i64)),λ_=>True,λa=> .sb (xT a.1 a.2)⟩
theorem h59:Holds Tryz.prog Iz:=by
 refine cF (L:=[]) Iz lk (by simp) ?_;rintro⟨p,n⟩ _;refine bN (let a:=decide ((↑p.offers.length:Int)<=n);(a=true->(γD (decide ((↑p.classes.length:Int)<=(8:Int)))).same (γD (xT p n)))/\(a=false->(SV.bl false).same (γD (xT p n)))) (by kernel_rfl) ?_;simp only[vcs,xT];grind
def QF:bL:=⟨16,bp,.one cY,λ_=>True,λa=> .sb (xT a 10)⟩
theorem h15:Holds Tryz.prog QF:=by
 refine cF (L:=[Iz]) QF lk (by simpa using h59) ?_;intro(p:bp) _;refine bN (let a:=γD (xT p (10:Int));True/\a.same a) (by kernel_rfl) ?_;simp only[vcs]
def three:bp:=⟨⟨1,1,0,0,0,0⟩,⟨1,1,0,0,0,0⟩,bz.zero,[0,0,0],[⟨0,⟨1,1,0,0,0,0⟩,10⟩,⟨1,⟨1,0,0,0,0,0⟩,6⟩,⟨2,⟨0,1,0,0,0,0⟩,6⟩]⟩
def IA:bL:=⟨44,bz,.one (eG .eD),λ_=>True,λb=> .sb b.ok⟩
theorem h68:Holds Tryz.prog IA:=by
 refine cF (L:=[]) IA (λ_ _=> .pO 7) (by simp) ?_;intro b _;refine bN (let h:=SV.bl false;let o:=γD;let p:=(0:Int);let q:=(4:Int);let i:=decide (b.a0<p);let d:=decide (q<b.a0);let k:=decide (b.a1<p);let e:=decide (q<b.a1);let l:=decide (b.a2<p);let f:=decide (q<b.a2);let j:=decide (b.a3<p);let m:=decide (q<b.a3);let n:=decide (b.a4<p);let g:=decide (q<b.a4);let a:=decide (b.a5<p);let c:=decide (q<b.a5);(i=true->(h).same (o (bz.ok b)))/\(i=false->(d=true->(h).same (o (bz.ok b)))/\(d=false->(k=true->(h).same (o (bz.ok b)))/\(k=false->(e=true->(h).same (o (bz.ok b)))/\(e=false->(l=true->(h).same (o (bz.ok b)))/\(l=false->(f=true->(h).same (o (bz.ok b)))/\(f=false->(j=true->(h).same (o (bz.ok b)))/\(j=false->(m=true->(h).same (o (bz.ok b)))/\(m=false->(n=true->(h).same (o (bz.ok b)))/\(n=false->(g=true->(h).same (o (bz.ok b)))/\(g=false->(a=true->(h).same (o (bz.ok b)))/\(a=false->(c=true->(h).same (o (bz.ok b)))/\(c=false->(SV.bl true).same (o (bz.ok b))))))))))))))) (by kernel_rfl) ?_;conv=>zeta
 have o:=@bz.eL b;by_cases h:b.ok=true<;>simp_all
def qK (p:bp) (r:Int) (o:Off):Int:=
 if r - p.classes.length<0 then(if o.bD=r then 1 else 0)
 else if r - p.classes.length<6 then bj [o.want.a0,o.want.a1,o.want.a2,o.want.a3,o.want.a4,o.want.a5] (r - p.classes.length).toNat 0
 else if bj [p.cls.a0,p.cls.a1,p.cls.a2,p.cls.a3,p.cls.a4,p.cls.a5] (r - p.classes.length - 6).toNat 0=0\/p.classes.length<=o.bD\/bj [p.cls.a0,p.cls.a1,p.cls.a2,p.cls.a3,p.cls.a4,p.cls.a5] (r - p.classes.length - 6).toNat 0=bj p.classes o.bD.toNat 0 then 0
 else bj [o.want.a0,o.want.a1,o.want.a2,o.want.a3,o.want.a4,o.want.a5] (r - p.classes.length - 6).toNat 0
theorem aaS {p:bp} {r:Int} {o:Off} (h:o.bD<p.classes.length):qK p r o=eT p r o:=by
 unfold qK eT;omega
def IB:bL:=⟨76,bp×Int×Off,.cons cY (.cons (dV .i64) (.one (eG .off))),λa=>a.1.classes.length<=8/\0<=a.2.1/\a.2.1<dn a.1/\0<=a.2.2.bD,
 λa=> .bH [.si .i64 (qK a.1 a.2.1 a.2.2),.si .i64 (dC a.1 a.2.1)]⟩
theorem h110:Holds Tryz.prog IB:=by
 refine cF (L:=[]) IB (λ_ _=> .pO 7) (by simp) ?_;rintro⟨p,r,x⟩ ⟨D,z,B,A⟩;simp only[dn] at D z B A;refine bN (let h:=(0:Int);let j:=(6:Int);let v:=Θ .i64;let w:=bV .i64;let y:=SV.bH;let b:=(↑p.classes.length:Int);let a:=r - b - j;let o:=γp .i64 0;let k:=y [v (qK p r x),v (dC p r)];let q:=bj [p.cls.a0,p.cls.a1,p.cls.a2,p.cls.a3,p.cls.a4,p.cls.a5] a.toNat h;let t:=decide (x.bD=r);let e:=γp .i64 1;let g:=decide (r<b+j);let i:=decide (x.bD<b);let l:=h<=a/\a<j/\a.toNat<6/\(y [o,v (bj [p.opn.a0,p.opn.a1,p.opn.a2,p.opn.a3,p.opn.a4,p.opn.a5] a.toNat h)]).same k;let n:=λ(u f:Int) (c:bz) ↦let d:=(u - f).toNat;h<=u - f/\u - f<j/\d<6/\(y [v (bj [x.want.a0,x.want.a1,x.want.a2,x.want.a3,x.want.a4,x.want.a5] d h),v (bj [c.a0,c.a1,c.a2,c.a3,c.a4,c.a5] d h)]).same k;let m:=λ(u:Bool) ↦decide (q≠bj p.classes x.bD.toNat h)=u;let s:=λ(u:Bool) ↦decide (q≠h)=u;(decide (r<b)=true->(t=true->(y [e,e]).same k)/\(t=false->(y [o,e]).same k))/\(decide (r<b)=false->w (b+j)/\(g=true->w (r - b)/\h<=r - b/\r - b<j/\(r - b).toNat<6/\w (r - b)/\n r b p.supply)/\(g=false->w (r - b)/\w a/\h<=a/\a<j/\a.toNat<6/\(s true->(i=true->h<=a/\a<j/\a.toNat<6/\h<=x.bD/\x.bD<b/\x.bD.toNat<p.classes.length/\(m true->h<=a/\a<j/\a.toNat<6/\n (r - b) j p.opn)/\(m false->l))/\(i=false->l))/\(s false->l)))) (by kernel_rfl) ?_;simp only[vcs];have G:r - p.classes.length<0->dC p r=1:=λh=>by simp_all[dC]
 have E:¬r - p.classes.length<0->r - p.classes.length<6->dC p r=bj [p.supply.a0,p.supply.a1,p.supply.a2,p.supply.a3,p.supply.a4,p.supply.a5] (r - p.classes.length).toNat 0:=λh j=>by simp_all[dC,if_neg]
 have v:¬r - p.classes.length<0->¬r - p.classes.length<6->dC p r=bj [p.opn.a0,p.opn.a1,p.opn.a2,p.opn.a3,p.opn.a4,p.opn.a5] (r - p.classes.length - 6).toNat 0:=λh j=>by simp_all[dC,if_neg]
 have F:r - p.classes.length<0->qK p r x=if x.bD=r then 1 else 0:=λh=>by simp_all[qK]
 have H:¬r - p.classes.length<0->r - p.classes.length<6->qK p r x=bj [x.want.a0,x.want.a1,x.want.a2,x.want.a3,x.want.a4,x.want.a5] (r - p.classes.length).toNat 0:=λh j=>by simp_all[qK,if_neg]
 have y:=λ(h:¬r - p.classes.length<0) (j:¬r - p.classes.length<6)=>(show qK p r x=_ by unfold qK;rw[if_neg h,if_neg j]);refine⟨λw=>?_,λw=>⟨by omega,λC=>?_,λC=>?_⟩⟩;·grind
 ·grind
 ·rw[v (by omega) (by omega),y (by omega) (by omega)];omega
def M1:List bL:=[IB,IA]
theorem hM1:∀c∈M1,Holds Tryz.prog c:=by
 simp_all[M1,h110,h68]
def IC:bL:=⟨45,bp×List Off,.cons cY (.one (dW .off)),λa=>a.1.classes.length<=8/\a.2.length<=1000/\(∀x∈a.2,0<=x.bD/\x.bD<a.1.classes.length/\x.want.ok=true),λa=> .sb (fV a.1 a.2)⟩
def aaT (a:bp×List Off):Nat->cB
 |2=> .inv Int (λi=>⟨[(1,.row .off a.2),(2,.ptr 0 0 20),(5,.si .i64 i)],[.cells a.1.ss 27 20 false]⟩) (λs=>iS s 5)
  (λi=>0<=i/\i<=dn a.1/\∀r:Nat,r<i->cT a.1 a.2 r<=dC a.1 r) (λi=>(dn a.1 - i).toNat)
  λi=>λ
   |6=> .inv (Int×Int) (λx=>⟨[(1,.row .off a.2),(2,.ptr 0 0 20),(5,.si .i64 i),(6,.si .i64 x.2),(7,.si .i64 x.1)],[.cells a.1.ss 27 20 false]⟩)
    (λs=>(iS s 7,iS s 6))
    (λx=>0<=x.1/\x.1<=a.2.length/\x.2=cT a.1 (a.2.take x.1.toNat) i) (λx=>(a.2.length - x.1).toNat) λ_ _=> .look
   |_=> .look
 |_=> .look
theorem h69:Holds Tryz.prog IC:=by
 refine cF (L:=M1) IC aaT hM1 ?_;rintro⟨p,l⟩ ⟨A,G,q⟩;simp only at A G q;refine bN (let d:=(0:Int);let i:=Θ .i64;let j:=Φ;let o:=γp .i64 0;let q:=bV .i64;let s:=γp .i64;let b:=γS 0 0 20;let c:=bq.cells (bp.ss p) 27 20 false;let v:=(↑p.classes.length:Int)+(12:Int);let k:=(↑l.length:Int);((((j bk.off l).same (j bk.off l)/\b.same b/\(o).same (i 0)/\True)/\c.same c/\True)/\d<=d/\d<=dn p/\∀(r:Nat),(↑r:Int)<d->cT p l (↑r:Int)<=dC p (↑r:Int))/\∀(x:Int),let f:=x+(1:Int);let E:=i f;(d<=x/\x<=dn p/\∀(r:Nat),(↑r:Int)<x->cT p l (↑r:Int)<=dC p (↑r:Int))->q v/\(decide (x<v)=true->((((j bk.off l).same (j bk.off l)/\b.same b/\(i x).same (i x)/\(o).same (i 0)/\(o).same (i 0)/\True)/\c.same c/\True)/\d<=d/\d<=k/\d=cT p [] x)/\∀(a:Int×Int),let D:=decide (a.fst<(↑l.length:Int));let C:=bj l a.fst.toNat bk.off.dflt;let w:=a.snd+qK p x C;let e:=a.fst+(1:Int);let n:=i x;let h:=i w;let m:=i e;let g:=decide (dC p x<a.snd);d<=a.fst/\a.fst<=k/\a.snd=cT p (γa a.fst.toNat l) x->(D=true->d<=a.fst/\a.fst<(↑l.length:Int)/\a.fst.toNat<l.length/\(p.classes.length<=8/\d<=x/\x<dn p/\d<=C.bD)/\q w/\q e/\(((j bk.off l).same (j bk.off l)/\b.same b/\n.same n/\h.same h/\m.same m/\True)/\c.same c/\True)/\(d<=e/\e<=k/\w=cT p (γa e.toNat l) x)/\(k - e).toNat<(k - a.fst).toNat)/\(D=false->(p.classes.length<=8/\d<=x/\x<dn p/\d<=d)/\(g=true->(SV.bl false).same (γD (fV p l)))/\(g=false->q f/\(((j bk.off l).same (j bk.off l)/\b.same b/\E.same E/\True)/\c.same c/\True)/\(d<=f/\f<=dn p/\∀(r:Nat),(↑r:Int)<f->cT p l (↑r:Int)<=dC p (↑r:Int))/\(dn p - f).toNat<(dn p - x).toNat)))/\(decide (x<v)=false->(SV.bl true).same (γD (fV p l)))) (by kernel_rfl) ?_;simp only[vcs];have T:dn p=p.classes.length+12:=rfl;have P:∀x∈l,x.want.ok=true:=λx y=>(q x y).2.2;refine⟨⟨by omega,by omega,λr J=>by omega⟩,?_⟩;rintro i ⟨H,F,S⟩;refine⟨by omega,λN=>⟨⟨by omega,by omega,by simp[cT]⟩,?_⟩,?_⟩
 ·rintro⟨j,s⟩ ⟨u,o,B⟩;simp only at u o B ⊢;have Q:=@ug p i (l.take j.toNat) λx y=>P x (γl y);have z:(l.take j.toNat).length<=l.length:=by simp;omega
  refine⟨λt=>?_,λt=>?_⟩
  ·have O:=q _ (cK (d:=bk.off.dflt) (show j.toNat<l.length by omega));have R:=@rL p i _ O.2.2;grind[H4,aaS]
  ·have:j.toNat=l.length:=by omega
   rw[this,ψ] at B;refine⟨⟨A,by omega,by omega,by omega⟩,λK=>?_,λM=>⟨by omega,⟨by omega,by omega,λr J=>?_⟩,by omega⟩⟩
   ·symm;rw[Bool.eq_false_iff];intro I;have:=o7.1 I i.toNat (by omega);grind
   grind
 grind[o7]
def IE:bL:=⟨17,bp,.one cY,λp=>True,λp=> .si .i64 (bC p)⟩
def aaU (p:bp):Nat->cB
 |11=> .inv Int (λk=>⟨[(1,.ptr 0 0 20),(4,.si .i64 k)],[.cells p.ss 27 20 false]⟩) (λs=>iS s 4) (λk=>0<=k/\k<=p.classes.length/\∀c∈p.classes.take k.toNat,0<=c/\c<=4) (λk=>(p.classes.length - k).toNat) λ_ _=> .look
 |16=> .inv Int (λi=>⟨[(1,.ptr 0 0 20),(5,.si .i64 i)],[.cells p.ss 27 20 false]⟩) (λs=>iS s 5)
  (λi=>0<=i/\i<=p.offers.length/\fH p [] p.offers=fH p ((p.offers.take i.toNat).map Off.key) (p.offers.drop i.toNat)) (λi=>(p.offers.length - i).toNat)
  λi=>λ
   |26=> .inv Int (λk=>⟨[(1,.ptr 0 0 20),(5,.si .i64 i),(6,.ptr 1 0 8),(7,.si .i64 k)],[.cells p.ss 27 20 false,.cells (encS .off (bj p.offers i.toNat bk.off.dflt)) 39 8 false]⟩) (λs=>iS s 7)
    (λk=>0<=k/\k<=i/\∀j:Nat,j<k->(bj p.offers j bk.off.dflt).key≠(bj p.offers i.toNat bk.off.dflt).key) (λk=>(i - k).toNat) λ_ _=> .look
   |_=> .look
 |4=> .inv Int (λk=>⟨[(1,.ptr 0 0 20),(3,.si .i64 k)],[.cells p.ss 27 20 false]⟩) (λs=>iS s 3) (λk=>0<=k/\k<=6/\∀j:Nat,j<k->ix p j) (λk=>(6 - k).toNat) λ_ _=> .look
 |_=> .look
theorem aaV {b:bz}:(decide (b.a0=0)&&(decide (b.a1=0)&&(decide (b.a2=0)&&(decide (b.a3=0)&&(decide (b.a4=0)&&(decide (b.a5=0)&&true))))))=decide (b=bz.zero):=by
 simp_all[Df,bz.zero]
theorem aaW {b c:bz}:(decide (b.a0=c.a0)&&(decide (b.a1=c.a1)&&(decide (b.a2=c.a2)&&(decide (b.a3=c.a3)&&(decide (b.a4=c.a4)&&(decide (b.a5=c.a5)&&true))))))=decide (b=c):=by
 grind[Df]
theorem aaX {a:Type} {l:List a} {i:Int} {d x:a} (b:i<=l.length) (h:x∈l.take i.toNat):∃j:Nat,(j:Int)<i/\bj l j d=x:=by
 obtain⟨j,c,rfl⟩:=List.mem_iff_getElem.1 h;grind[cM]
theorem h24:Holds Tryz.prog IE:=by
 refine cF (L:=IC::M1) IE aaU (by simp only[γq];exact⟨h69,hM1⟩) ?_;intro p _;refine bN (let a:=(0:Int);let b:=Θ .i64;let d:=γp .i64;let e:=(6:Int);let f:=(1:Int);let g:=(4:Int);let h:=bV .i64;let k:=b (bC p);let l:=γS 0 0 20;let z:=d 0;let m:=bq.cells (bp.ss p) 27 20 false;let af:=[p.cls.a0,p.cls.a1,p.cls.a2,p.cls.a3,p.cls.a4,p.cls.a5];let ag:=[p.opn.a0,p.opn.a1,p.opn.a2,p.opn.a3,p.opn.a4,p.opn.a5];let ah:=[p.supply.a0,p.supply.a1,p.supply.a2,p.supply.a3,p.supply.a4,p.supply.a5];let J:=p.classes.length;let o:=(↑J:Int);let L:=decide ((8:Int)<o);let E:=p.offers.length;let r:=(↑E:Int);let M:=decide ((160:Int)<r);let s:=(↑p.classes.length:Int);let A:=(↑p.offers.length:Int);let F:=fH p [] p.offers;let B:=bk.off.dflt;let G:=γS 1 0 8;True/\((!p.supply.ok)=true->(d 4).same k)/\((!p.supply.ok)=false->(((l.same l/\z.same (b 0)/\True)/\m.same m/\True)/\a<=a/\a<=e/\∀(j:Nat),(↑j:Int)<a->ix p j)/\∀(x:Int),let t:=x+f;let N:=b t;let O:=decide (x<e);let K:=bj af x.toNat a;let P:=decide (K<a);let Q:=decide (g<K);let C:=bj ag x.toNat a;let R:=decide (C<a);let H:=bj ah x.toNat a;let S:=decide (K=a);let T:=h t/\((l.same l/\N.same N/\True)/\m.same m/\True)/\(a<=t/\t<=e/\∀(j:Nat),(↑j:Int)<t->ix p j)/\(e - t).toNat<(e - x).toNat;(a<=x/\x<=e/\∀(j:Nat),(↑j:Int)<x->ix p j)->(O=true->a<=x/\x<e/\x.toNat<6/\(P=true->(d 4).same k)/\(P=false->a<=x/\x<e/\x.toNat<6/\(Q=true->(d 4).same k)/\(Q=false->a<=x/\x<e/\x.toNat<6/\(R=true->(d 4).same k)/\(R=false->a<=x/\x<e/\x.toNat<6/\a<=x/\x<e/\x.toNat<6/\(decide (H<C)=true->(d 4).same k)/\(decide (H<C)=false->a<=x/\x<e/\x.toNat<6/\(S=true->a<=x/\x<e/\x.toNat<6/\a<=x/\x<e/\x.toNat<6/\(decide (C≠H)=true->(d 4).same k)/\(decide (C≠H)=false->T))/\(S=false->T))))))/\(O=false->(L=true->(d 3).same k)/\(L=false->(M=true->(d 3).same k)/\(M=false->(((l.same l/\z.same (b 0)/\True)/\m.same m/\True)/\a<=a/\a<=s/\∀(c:Int),c∈[]->a<=c/\c<=g)/\∀(x:Int),let U:=bj p.classes x.toNat a;let V:=decide (U<a);let W:=decide (g<U);let v:=x+f;let X:=b v;(a<=x/\x<=s/\∀(c:Int),c∈γa x.toNat p.classes->a<=c/\c<=g)->(decide (x<o)=true->a<=x/\x<o/\x.toNat<J/\(V=true->(d 4).same k)/\(V=false->a<=x/\x<o/\x.toNat<J/\(W=true->(d 4).same k)/\(W=false->h v/\((l.same l/\X.same X/\True)/\m.same m/\True)/\(a<=v/\v<=s/\∀(c:Int),c∈γa v.toNat p.classes->a<=c/\c<=g)/\(s - v).toNat<(s - x).toNat)))/\(decide (x<o)=false->(((l.same l/\z.same (b 0)/\True)/\m.same m/\True)/\a<=a/\a<=A/\F=F)/\∀(x:Int),let n:=bj p.offers x.toNat B;let i:=n.want;let D:=n.bD;let Y:=decide (D<a);let Z:=decide (n.value<f);let a6:=decide ((1000000:Int)<n.value);let I:=bq.cells [b D,b i.a0,b i.a1,b i.a2,b i.a3,b i.a4,b i.a5,b n.value] 39 8 false;let q:=x+f;let a7:=b q;let a8:=λ(u:Bool) ↦(decide (i.a0=a)&&(decide (i.a1=a)&&(decide (i.a2=a)&&(decide (i.a3=a)&&(decide (i.a4=a)&&(decide (i.a5=a)&&true))))))=u;a<=x/\x<=A/\F=fH p (List.map Off.key (γa x.toNat p.offers)) (γ5 x.toNat p.offers)->(decide (x<r)=true->a<=x/\x<r/\x.toNat<E/\(Y=true->(d 6).same k)/\(Y=false->(decide (o<=D)=true->(d 6).same k)/\(decide (o<=D)=false->(Z=true->(d 4).same k)/\(Z=false->(a6=true->(d 4).same k)/\(a6=false->True/\((!i.ok)=true->(d 4).same k)/\((!i.ok)=false->(a8 true->(d 4).same k)/\(a8 false->(p.classes.length<=8/\1<=1000/\∀(x:Off),x∈[n]->a<=x.bD/\x.bD<s/\x.want.ok=true)/\((!fV p [n])=true->(d 14).same k)/\((!fV p [n])=false->(((l.same l/\(b x).same (b x)/\G.same G/\z.same (b 0)/\True)/\m.same m/\I.same I/\True)/\a<=a/\a<=x/\∀(j:Nat),(↑j:Int)<a->(bj p.offers j B).key≠n.key)/\∀(x_1:Int),let w:=x_1+f;let a9:=b x;let aa:=b w;let ab:=bj p.offers x_1.toNat B;let y:=ab.want;let ac:=decide (ab.bD=D);let ad:=h w/\((l.same l/\a9.same a9/\G.same G/\aa.same aa/\True)/\m.same m/\I.same I/\True)/\(a<=w/\w<=x/\∀(j:Nat),(↑j:Int)<w->(bj p.offers j B).key≠n.key)/\(x - w).toNat<(x - x_1).toNat;let ae:=λ(u:Bool) ↦(decide (y.a0=i.a0)&&(decide (y.a1=i.a1)&&(decide (y.a2=i.a2)&&(decide (y.a3=i.a3)&&(decide (y.a4=i.a4)&&(decide (y.a5=i.a5)&&true))))))=u;(a<=x_1/\x_1<=x/\∀(j:Nat),(↑j:Int)<x_1->(bj p.offers j B).key≠n.key)->(decide (x_1<x)=true->a<=x_1/\x_1<r/\x_1.toNat<E/\(ac=true->a<=x_1/\x_1<r/\x_1.toNat<E/\(ae true->(d 7).same k)/\(ae false->ad))/\(ac=false->ad))/\(decide (x_1<x)=false->h q/\((l.same l/\a7.same a7/\True)/\m.same m/\True)/\(a<=q/\q<=A/\F=fH p (List.map Off.key (γa q.toNat p.offers)) (γ5 q.toNat p.offers))/\(A - q).toNat<(A - x).toNat)))))))))/\(decide (x<r)=false->z.same k))))))) (by kernel_rfl) ?_;simp only[aaV,aaW];simp only[vcs];have e4:gV p=4->(4:Int)=bC p:=λh=>by simp[bC,h]
 have e3:gV p=3->(3:Int)=bC p:=λh=>by simp[bC,h]
 refine⟨λhs=>e4 (Qg hs),λhs=>⟨⟨by omega,by omega,λj hj=>by omega⟩,?_⟩⟩;rintro k ⟨hk0,hk1,hk⟩;refine⟨λhlt=>?_,λhge=>?_⟩
 ·have bad:¬ix p k.toNat->(4:Int)=bC p:=λh=>e4 (Qh hs (by omega) h);have H6:ix p k.toNat->∀(j:Nat),(j:Int)<k+1->ix p j:=λh j hj=>by
   by_cases hj2:(j:Int)<k;·exact hk j hj2
   ·rw[show j=k.toNat from by omega];exact h
  repeat' (first|refine And.intro ?_ ?_|intro _)
  all_goals first
   |omega;|exact bad λhh=>by have h2:=l9.1 hh;omega;|exact H6 (l9.2 (by omega)) _ (by assumption)
 ·have hall:∀j:Nat,j<6->ix p j:=λj hj=>hk j (by omega);refine⟨λh=>e3 (Dj hs hall (.inl (by omega))),λh8=>⟨λh=>e3 (Dj hs hall (.inr (by omega))),λh160=>⟨⟨by omega,by omega,by simp⟩,?_⟩⟩⟩;rintro i ⟨hi0,hi1,hi⟩;refine⟨λhlt=>?_,λhge=>?_⟩
  ·have hm:=cK (d:=0) (show i.toNat<p.classes.length by omega);refine⟨by omega,by omega,by omega,λh=>e4 (Dk hs hall (by omega) hm (by omega)),λh1=>⟨by omega,by omega,by omega,λh=>e4 (Dk hs hall (by omega) hm (by omega)),λh2=>⟨by omega,⟨by omega,by omega,?_⟩,by omega⟩⟩⟩;exact Qi hi0 hlt hi (by omega)
  ·rw[show i.toNat=p.classes.length from by omega,ψ] at hi;have hz:gV p=0:=Dl hs hall (by omega) hi;have ce:bC p=fH p [] p.offers:=by simp[bC,hz]
   refine⟨⟨by omega,by omega⟩,?_⟩;rintro i ⟨hi0,hi1,hi⟩;refine⟨λhlt=>?_,λhge=>?_⟩
   ·rw[sM (d:=bk.off.dflt) hi0 hlt] at hi;generalize hx:bj p.offers i.toNat bk.off.dflt=x at hi ⊢;have oe:∀c:Int,c≠0->iW p x=c->c=bC p:=λc hc h=>by
     rw[ce,hi];simp only[fH,h];rw[if_pos hc]
    have se:∀c:Int,c≠0->j5 p.classes.length x=c->c=bC p:=λc hc h=>oe c hc (by
     unfold iW;rw[if_pos (by omega),h]);refine⟨by omega,by omega,by omega,λh1=>?_,λh1=>⟨λh2=>?_,λh2=>⟨λh3=>?_,λh3=>⟨λh4=>?_,λh4=>⟨λh5=>?_,λh5=>⟨λh6=>?_,λh6=>?_⟩⟩⟩⟩⟩⟩;·exact se 6 (by decide) (by unfold j5;rw[if_pos (by omega)])
    ·exact se 6 (by decide) (by unfold j5;rw[if_pos (by omega)])
    ·exact se 4 (by decide) (by unfold j5;rw[if_neg (by omega),if_pos (by omega)])
    ·exact se 4 (by decide) (by unfold j5;rw[if_neg (by omega),if_pos (by omega)])
    ·exact se 4 (by decide) (by unfold j5;rw[if_neg (by omega),if_neg (by omega),h5];rfl)
    ·have hs0:j5 p.classes.length x=0:=by unfold j5;rw[if_neg (by omega),if_neg (by omega),h5];rfl
     exact oe 4 (by decide) (by simp[iW,hs0,h6])
    ·have hs0:j5 p.classes.length x=0:=by unfold j5;rw[if_neg (by omega),if_neg (by omega),h5];rfl
     refine⟨⟨by omega,by omega,λy hy=>?_⟩,λh7=>?_,λh7=>⟨⟨by omega,by omega,λj hj=>by omega⟩,?_⟩⟩
     ·rw[List.mem_singleton.1 hy];exact⟨by omega,by omega,h5⟩
     ·exact oe 14 (by decide) (by simp[iW,hs0,h6,h7])
     ·have ho0:iW p x=0:=by simp[iW,hs0,h6,h7]
      rintro k ⟨hk0,hk1,hk⟩;have hnx:(bj p.offers k.toNat bk.off.dflt).key≠x.key->∀j:Nat,(j:Int)<k+1->(bj p.offers j bk.off.dflt).key≠x.key:=λh j hj=>by
       by_cases hj2:(j:Int)<k;·exact hk j hj2
       ·rw[show j=k.toNat from by omega];exact h
      refine⟨λhlt2=>⟨by omega,by omega,by omega,λh8=>⟨by omega,by omega,by omega,λh9=>?_,λh9=>⟨by omega,⟨by omega,by omega,?_⟩,by omega⟩⟩,λh8=>⟨by omega,⟨by omega,by omega,?_⟩,by omega⟩⟩,λIG=>⟨by omega,⟨by omega,by omega,?_⟩,by omega⟩⟩
      ·have hk9:(bj p.offers k.toNat bk.off.dflt).key=x.key:=by
        show mO.mk _ _=mO.mk _ _;rw[h8,h9]
       have hmem:x.key∈(p.offers.take i.toNat).map Off.key:=by
        rw[<-hk9];refine γg.2 ⟨_,?_,rfl⟩;rw[cM (by omega)];exact List.mem_take_iff_getElem.2 ⟨k.toNat,by omega,rfl⟩
       rw[ce,hi];simp only[fH,ho0,ne_eq,not_true,if_false,if_pos hmem]
      ·refine hnx λe=>h9 ?_;injection e
      ·refine hnx λe=>h8 ?_;injection e
      ·have hnm:x.key∉(p.offers.take i.toNat).map Off.key:=by
        intro hmem;obtain⟨o,ho,he⟩:=γg.1 hmem;obtain⟨j,hj,rfl⟩:=aaX (d:=bk.off.dflt) hi1 ho;exact hk j (by omega) he
       rw[hi,jo (d:=bk.off.dflt) hi0 hlt,hx];simp only[fH,ho0,ne_eq,not_true,if_false,if_neg hnm,γd,ι,γt]
   ·rw[show i.toNat=p.offers.length from by omega,δ8] at hi;rw[ce,hi];rfl
def bZ:List Off->Int
 |[]=>0
 |x::l=>x.value+bZ l
def dH (p:bp) (c:List Int):Int:=if bC p=0 then bZ (eE p c) else 0
theorem o8:∀{l m:List Off},bZ (l++m)=bZ l+bZ m
 |[],m=>by simp[bZ];|x::l,m=>by simp only[List.cons_append,bZ,@o8 l m];omega
theorem aaZ {l:List Off} {i:Int} (a:0<=i) (h:i<l.length):bZ (l.take (i+1).toNat)=bZ (l.take i.toNat)+(bj l i.toNat bk.off.dflt).value:=by
 rw[jo (d:=bk.off.dflt) a h,o8];simp[bZ]
theorem aa0 {p:bp} {c:List Int} (h:bC p=0):(eE p c).length<=160/\∀x∈eE p c,x∈p.offers:=by
 have d:=dm h;unfold eE;cases a:fW p.offers (-1) c with
 |none=>simp;|some r=>
  refine⟨?_,λx b=>H9 (by omega) a x b⟩;have e:=xJ (by omega) a;have f:=d.2.1;grind
theorem sO {p:bp} (a:Good p):∀{l:List Off},(∀x∈l,x∈p.offers)->0<=bZ l/\bZ l<=1000000*l.length
 |[],_=>by simp[bZ];|x::l,h=>by
  have c:=a.2.2.2.2 x (h x (by simp));have d:=@sO p a l λy b=>h y (by simp[b]);grind[bZ]
def cmpL:List Int->List Int->Int
 |[],[]=>0
 |[],_::_=> -1
 |_::_,[]=>1
 |a::l,b::m=>if a<b then -1 else if b<a then 1 else cmpL l m
def r32:bL:=⟨27,List Int×List Int,.cons (dW (.i .i64)) (.one (dW (.i .i64))),λa=>a.1.length<=1000000000000/\a.2.length<=1000000000000,λa=> .si .i64 (cmpL a.1 a.2)⟩
def aa1 (a:List Int×List Int):Nat->cB
 |2=> .inv Int (λi=>⟨[(0,.row (.i .i64) a.1),(1,.row (.i .i64) a.2),(5,.si .i64 i)],[]⟩) (λs=>iS s 5)
  (λi=>0<=i/\i<=a.1.length/\i<=a.2.length/\cmpL a.1 a.2=cmpL (a.1.drop i.toNat) (a.2.drop i.toNat)) (λi=>(a.1.length - i).toNat) λ_ _=> .look
 |_=> .look
theorem h32:Holds Tryz.prog r32:=by
 refine cF (L:=[]) r32 aa1 (by simp) ?_;rintro⟨a,b⟩ ⟨w,u⟩;refine bN (let d:=(0:Int);let h:=γp .i64;let j:=Θ .i64;let k:=(-1:Int);let q:=Φ (bk.i .i64) a;let n:=Φ (bk.i .i64) b;let t:=h 0;let m:=(↑a.length:Int);let r:=(↑b.length:Int);let e:=(↑a.length:Int);let f:=(↑b.length:Int);let g:=j (cmpL a b);(((q.same q/\n.same n/\t.same (j 0)/\True)/\True)/\d<=d/\d<=m/\d<=r/\cmpL a b=cmpL a b)/\∀(x:Int),let o:=bj a x.toNat d;let p:=bj b x.toNat d;let c:=x+(1:Int);let l:=j c;d<=x/\x<=m/\x<=r/\cmpL a b=cmpL (γ5 x.toNat a) (γ5 x.toNat b)->(decide (x<e)=true->(decide (x<f)=true->d<=x/\x<e/\x.toNat<a.length/\d<=x/\x<f/\x.toNat<b.length/\(decide (o<p)=true->(h k).same g)/\(decide (o<p)=false->d<=x/\x<e/\x.toNat<a.length/\d<=x/\x<f/\x.toNat<b.length/\(decide (p<o)=true->(h 1).same g)/\(decide (p<o)=false->bV .i64 c/\((q.same q/\n.same n/\l.same l/\True)/\True)/\(d<=c/\c<=m/\c<=r/\cmpL a b=cmpL (γ5 c.toNat a) (γ5 c.toNat b))/\(m - c).toNat<(m - x).toNat)))/\(decide (x<f)=false->(decide (e<f)=true->(h k).same g)/\(decide (e<f)=false->(decide (f<e)=true->(h 1).same g)/\(decide (f<e)=false->t.same g))))/\(decide (x<e)=false->(decide (e<f)=true->(h k).same g)/\(decide (e<f)=false->(decide (f<e)=true->(h 1).same g)/\(decide (f<e)=false->t.same g)))) (by kernel_rfl) ?_;conv=>zeta
 simp only at w u;simp only[vcs];refine⟨⟨by omega,by omega,by omega⟩,?_⟩;rintro i ⟨j,v,z,h⟩;refine⟨λs=>⟨λk=>?_,λk=>?_⟩,λs=>?_⟩
 ·rw[sM (d:=0) j s,sM (d:=0) j k] at h;simp only[cmpL] at h;omega
 ·rw[sM (d:=0) j s,show i.toNat=b.length from by omega,δ8] at h;grind[cmpL]
 ·rw[show i.toNat=a.length from by omega,δ8] at h;refine⟨λk=>?_,λk=>⟨λy=>by omega,λy=>?_⟩⟩
  ·rw[<-Int.toNat_natCast a.length,sM (d:=0) (by omega) k] at h;exact h.symm
  ·rw[show a.length=b.length from by omega,δ8] at h;exact h.symm
def dR (l:List bz):bz:=⟨(l.map bz.a0).sum,(l.map bz.a1).sum,(l.map bz.a2).sum,(l.map bz.a3).sum,(l.map bz.a4).sum,(l.map bz.a5).sum⟩
def cj (p:bp) (l:List Int):List Off:=l.map λi=>bj p.offers i.toNat bk.off.dflt
def gC (p:bp) (L:List Off):Prop:=(L.map Off.bD).Nodup/\(dR (L.map Off.want)).le p.supply=true/\(dR (L.map (dE p))).le p.opn=true
instance (p:bp) (L:List Off):Decidable (gC p L):=by unfold gC;infer_instance
def lF (p:bp) (l:List Int):Bool:=decide (gC p (cj p l))
def iy (a b:bz) (k:Int):bz:=⟨if 0<k then b.a0 else a.a0,if 1<k then b.a1 else a.a1,if 2<k then b.a2 else a.a2,if 3<k then b.a3 else a.a3,if 4<k then b.a4 else a.a4,if 5<k then b.a5 else a.a5⟩
def bz.add (a b:bz):bz:=⟨a.a0+b.a0,a.a1+b.a1,a.a2+b.a2,a.a3+b.a3,a.a4+b.a4,a.a5+b.a5⟩
theorem xU {l m:List bz}:dR (l++m)=(dR l).add (dR m):=by simp[dR,bz.add]
theorem sP {b:bz} {l:List bz}:dR (b::l)=b.add (dR l):=by simp[dR,bz.add]
def bz.bd (b:bz) (n:Int):Prop:=(0<=b.a0/\b.a0<=n)/\(0<=b.a1/\b.a1<=n)/\(0<=b.a2/\b.a2<=n)/\(0<=b.a3/\b.a3<=n)/\(0<=b.a4/\b.a4<=n)/\(0<=b.a5/\b.a5<=n)
theorem II:∀{l:List bz},(∀b∈l,b.ok=true)->(dR l).bd (4*l.length)
 |[],_=>by simp[dR,bz.bd];|b::l,h=>by
  have e:=bz.eL.1 (h b (by simp));have d:=@II l λc a=>h c (by simp[a]);rw[sP];simp only[bz.bd,bz.add,γB] at d ⊢;omega
theorem aa2 {p:bp} {x:Off} (h:x.want.ok=true):(dE p x).ok=true:=by
 have a:=bz.eL.1 h;rw[bz.eL];simp only[dE,eO,oc];omega
theorem vK {p:bp} (b:Good p) {l:List Int} (h:∀i∈l,0<=i/\i<p.offers.length):∀x∈cj p l,x∈p.offers:=by
 intro x a;obtain⟨i,c,rfl⟩:=γg.1 a;grind[cK]
def lG (p:bp) (i:Int):Int:=(bj p.offers i.toNat bk.off.dflt).value
def better (a b:Alloc):Alloc:=if b.value<a.value\/a.value=b.value/\cmpL a.chosen b.chosen<0 then a else b
def lH (p:bp):Nat->Int->Alloc->Alloc->Alloc
 |0,_,_,b=>b
 |k+1,i,a,b=>lH p k (i+1) a (if lF p (a.chosen++[i]) then lH p k (i+1) ⟨a.chosen++[i],a.value+lG p i⟩ (better ⟨a.chosen++[i],a.value+lG p i⟩ b) else b)
def QG (p:bp) (i:Int):Nat:=(p.offers.length - i).toNat
def QH (p:bp) (a:Alloc) (f:Int) (b:Alloc):Alloc:=lH p (QG p f) f a (better a b)
def cz (p:bp):Alloc:=QH p ⟨[],0⟩ 0 ⟨[],0⟩
def hasB (m b:Int):Bool:=decide (eJ.rG .i64 (m / 2^b.toNat) 1=1)
def qL (p:bp) (w:Int) (n:Nat):Int:=((π n).map λi:Nat=>if(i:Int)≠w then(2:Int)^i else 0).sum
theorem aa3 (p:bp) (w:Int) (n:Nat):qL p w (n+1)=qL p w n+if(n:Int)≠w then(2:Int)^n else 0:=by
 unfold qL;rw[δr,γd];simp
theorem QI (p:bp) (w:Int):∀n:Nat,0<=qL p w n/\qL p w n<2^n
 |0=>by simp[qL];|n+1=>by
  have h:=QI p w n;rw[aa3,Int.pow_succ];split<;>omega
def o9 (p:bp) (m:Int):bp:={p with offers:=p.offers.filter λx=>hasB m x.bD}
theorem IJ {p:bp} (h:Good p) (m:Int):Good (o9 p m):=by
 refine⟨h.1,?_,h.2.2.1,h.2.2.2.1,λx hx=>h.2.2.2.2 x (γu.1 hx).1⟩;have:=γw (λx:Off=>hasB m x.bD) p.offers;have:=h.2.1;simp only[o9];omega
def uj (p:bp) (m:Int):Int:=(cz (o9 p m)).value
theorem xW {p:bp} {c:List Int} (e:dc p c=0):bC p=0/\jq p c=true/\Good p/\c.length<=160/\∀i∈c,0<=i/\i<p.offers.length:=by
 have b:bC p=0:=by
  unfold dc at e;omega
 have d:jq p c=true:=by
  unfold dc at e;grind
 have f:=dm b;obtain⟨r,g⟩:=γo.1 d;obtain⟨h,a⟩:=DG (by omega) g;refine⟨b,d,f,?_,a⟩;have k:=xJ (by omega) g;have j:=f.2.1;grind
def DJ (p:bp) (b:Int) (s:Int×Int) (i:Int):Int×Int:=if(bj p.offers i.toNat bk.off.dflt).bD=b then((bj p.offers i.toNat bk.off.dflt).value,s.2) else(s.1,s.2+(bj p.offers i.toNat bk.off.dflt).value)
def DK (p:bp) (c:List Int) (b:Int):Int×Int:=c.foldl (DJ p b) (0,0)
def DL (p:bp):Int:=qL p (-1) p.classes.length
def DN (p:bp) (c:List Int):Int:=if dc p c≠0 then dc p c else if dH p c<uj p (DL p) then 13 else 0
theorem aa4 {p:bp} {c:List Int} (h:DN p c=0):dc p c=0:=by
 unfold DN at h;split at h;·rename_i h1;exact absurd h h1
 ·rename_i h1;exact ω.1 h1
structure IK (p:bp) (fs:List Int) (l o:bz) (L:List Off):Prop where
 nd:(L.map Off.bD).Nodup
 mem:∀x∈L,x∈p.offers/\x.bD∈fs
 w:(dR (L.map Off.want)).le l=true
 o:(dR (L.map (dE p))).le o=true
theorem QJ {p:bp} {fs:List Int} {l o:bz}:∀{xs:List Off} {v:Int},v<=xs.foldl (kF p fs l o) v/\∀x∈xs,x.want.le l=true->(dE p x).le o=true->x.value+gW p fs (l.sub x.want) (o.sub (dE p x))<=xs.foldl (kF p fs l o) v
 |[],v=>by simp;|y::xs,v=>by
  obtain⟨b,e⟩:=@QJ p fs l o xs (kF p fs l o v y);have d:v<=kF p fs l o v y:=by
   grind[kF]
  refine⟨by grind,λx a c f=>?_⟩;simp only[γM];rcases γE.1 a with rfl|a
  ·have:x.value+gW p fs (l.sub x.want) (o.sub (dE p x))<=kF p fs l o v x:=by
    unfold kF;grind
   omega
  simp_all
theorem fold_at {p:bp} {fs:List Int} {l o:bz}:∀{xs:List Off} {v:Int},xs.foldl (kF p fs l o) v=v\/∃x∈xs,x.want.le l=true/\(dE p x).le o=true/\xs.foldl (kF p fs l o) v=x.value+gW p fs (l.sub x.want) (o.sub (dE p x))
 |[],v=>by simp;|y::xs,v=>by
  simp only[γM];rcases @fold_at p fs l o xs (kF p fs l o v y) with h|⟨x,d,a,c,b⟩
  ·rw[h];unfold kF;split<;>grind
  grind
theorem aa5 {x:bz} {s t:List bz}:dR (s++x::t)=x.add (dR (s++t)):=by
 rw[xU,xU,sP];simp only[bz.add,bz.mk.injEq];omega
theorem aa6 {x:Off} {s t:List Off}:bZ (s++x::t)=x.value+bZ (s++t):=by
 rw[o8,o8];simp only[bZ];omega
theorem IL {p:bp} (c:Good p) {L:List Off} (h:∀x∈L,x∈p.offers):(dR (L.map Off.want)).bd (4*L.length)/\(dR (L.map (dE p))).bd (4*L.length):=by
 have e:∀x∈L,x.want.ok=true:=λx d=>(c.2.2.2.2 x (h x d)).2.2.1;have a:=@II (L.map Off.want) (λb f=>by grind);grind[II,aa2]
theorem xX {p:bp} (e:Good p):∀{fs:List Int} {l o:bz} {L:List Off},IK p fs l o L->bZ L<=gW p fs l o
 |[],l,o,L,h=>by
  have:L=[]:=by
   cases L with
   |nil=>rfl;|cons x L=>exact absurd (h.mem x (by simp)).2 (by simp)
  grind[bZ,gW];|f::fs,l,o,L,h=>by
  obtain⟨D,B⟩:=@QJ p fs l o (iY p f) (gW p fs l o);have b:gW p (f::fs) l o=(iY p f).foldl (kF p fs l o) (gW p fs l o):=rfl;rw[b];by_cases d:∃x∈L,x.bD=f
  ·obtain⟨x,d,m⟩:=d;obtain⟨s,t,rfl⟩:=List.append_of_mem d;obtain⟨u,c,w,j⟩:=h;have i:=c x d;have g:∀y∈s++t,y∈p.offers:=λy a=>(c y (by grind)).1;obtain⟨z,v⟩:=IL e g;rw[γd,ι,aa5,bz.le_iff,<-γd] at w j;simp only[bz.add,bz.bd] at w j z v;have q:x.want.le l=true:=by rw[bz.le_iff];omega
   have r:(dE p x).le o=true:=by rw[bz.le_iff];omega
   have A:=B x (γu.2 ⟨i.1,by simp[m]⟩) q r;rw[γd,ι,List.nodup_append] at u;have n:∀y∈s++t,y.bD≠f:=λy a=>by
    rw[<-m];rcases List.mem_append.1 a with a|a;·simp_all
    simp_all
   have k:bZ (s++t)<=gW p fs (l.sub x.want) (o.sub (dE p x)):=xX e
    {nd:=by
      grind
     mem:=λy a=>by
      grind
     w:=by grind[bz.le_iff,bz.sub]
     o:=by grind[bz.le_iff,bz.sub]};rw[aa6];omega
  ·have:=xX e (fs:=fs) (l:=l) (o:=o) (L:=L) ⟨h.nd,λy a=>by
    have C:=h.mem y a;simp_all,h.w,h.o⟩;omega
theorem xY {p:bp} (k:Good p):∀{fs:List Int} {l o:bz},fs.Nodup->bz.zero.le l=true->bz.zero.le o=true->∃L,IK p fs l o L/\bZ L=gW p fs l o
 |[],l,o,_,g,e=>⟨[],⟨by simp,by simp,g,e⟩,rfl⟩
 |f::fs,l,o,r,g,e=>by
  have c:=γN.1 r;have d:gW p (f::fs) l o=(iY p f).foldl (kF p fs l o) (gW p fs l o):=rfl;rw[d];rcases @fold_at p fs l o (iY p f) (gW p fs l o) with h|⟨x,q,m,u,n⟩
  ·rw[h];obtain⟨L,a,j⟩:=xY k (l:=l) (o:=o) c.2 g e;exact⟨L,⟨a.nd,λy b=>⟨(a.mem y b).1,by simp[(a.mem y b).2]⟩,a.w,a.o⟩,j⟩
  ·rw[n];have z:=bz.le_iff.1 m;have A:=bz.le_iff.1 u;obtain⟨L,a,j⟩:=xY k (l:=l.sub x.want) (o:=o.sub (dE p x)) c.2 (by grind[bz.le_iff,bz.zero,bz.sub]) (by grind[bz.le_iff,bz.zero,bz.sub]);have s:=γu.1 q;have i:x.bD=f:=by simp_all
   refine⟨x::L,⟨?_,?_,?_,?_⟩,by grind[bZ]⟩
   ·rw[ι,γN];refine⟨λt=>?_,a.nd⟩;obtain⟨y,b,v⟩:=γg.1 t;exact c.1 (by rw[<-i,<-v];exact(a.mem y b).2)
   ·intro y b;rcases γE.1 b with rfl|b;·simp_all
    ·exact⟨(a.mem y b).1,by simp[(a.mem y b).2]⟩
   ·have:=bz.le_iff.1 a.w;grind[sP,bz.le_iff,bz.add,bz.sub]
   ·have:=bz.le_iff.1 a.o;grind[sP,bz.le_iff,bz.add,bz.sub]
theorem rN {p:bp} {l m:List Int}:cj p (l++m)=cj p l++cj p m:=by simp[cj]
theorem pX {p:bp} {i:Int} {l:List Int}:cj p (i::l)=bj p.offers i.toNat bk.off.dflt::cj p l:=rfl
def vM (p:bp) (l:List Int):Prop:=∀i∈l,0<=i/\i<p.offers.length
theorem DO {p:bp} (f:Good p) {L M:List Off} (c:∀x∈M,x∈p.offers) (h:gC p (L++M)):gC p L:=by
 obtain⟨e,d⟩:=IL f c;obtain⟨g,a,b⟩:=h;rw[γd,xU,bz.le_iff] at a b;simp only[bz.add,bz.bd] at a b e d;refine⟨?_,?_,?_⟩<;>grind[bz.le_iff]
theorem QK {p:bp} (a:Good p) {l m:List Int} (b:vM p m) (h:lF p (l++m)=true):lF p l=true:=by
 unfold lF at h ⊢;have h:=of_decide_eq_true h;rw[rN] at h;exact decide_eq_true (DO a (vK a b) h)
def kJ (i:Int) (k:Nat) (t:List Int):Prop:=t.Pairwise (·<·)/\∀j∈t,i<=j/\j<i+k
theorem QL {a b:Alloc}:a.value<=(better a b).value/\b.value<=(better a b).value:=by
 grind[better]
theorem QM {a b:Alloc}:better a b=a\/better a b=b:=by
 grind[better]
theorem zT {p:bp}:∀{k:Nat} {i:Int} {a b:Alloc},b.value<=(lH p k i a b).value
 |0,_,_,b=>by simp[lH];|k+1,i,a,b=>by
  simp only[lH];refine εz ?_ zT;split;·exact εz QL.2 zT
  ·omega
theorem IP {p:bp} (h:Good p):∀{k:Nat} {i:Int} {a b:Alloc} {t:List Int},0<=i->i+k<=p.offers.length->t≠[]->kJ i k t->lF p (a.chosen++t)=true->a.value+bZ (cj p t)<=(lH p k i a b).value
 |0,i,a,b,t,_,_,u,c,_=>by
  cases t with
  |nil=>simp_all;|cons j t=>
   have:=c.2 j (by simp);omega
 |k+1,i,a,b,t,w,x,u,c,s=>by
  cases t with
  |nil=>simp_all;|cons j t=>
   have v:=c.2 j (by simp);have q:=γv.1 c.1;simp only[lH];by_cases l:j=i
   ·subst l;have d:vM p t:=λm e=>by
     have:=c.2 m (by simp[e]);omega
    have f:lF p (a.chosen++[j]++t)=true:=by simp_all
    have g:lF p (a.chosen++[j])=true:=QK h d f;rw[if_pos g];refine εz ?_ zT;rw[pX];simp only[bZ];cases t with
    |nil=>
     refine εz ?_ zT;refine εz ?_ QL.1;simp[bZ,cj,lG];|cons o n=>
     have:=IP h (k:=k) (i:=j+1) (a:=⟨a.chosen++[j],a.value+lG p j⟩) (b:=better ⟨a.chosen++[j],a.value+lG p j⟩ b) (t:=o::n) (by omega) (by omega) (by simp) ⟨q.2,λm e=>by
      have r:=c.2 m (List.mem_cons_of_mem _ e);grind⟩ f;grind[lG]
   ·exact IP h (by omega) (by omega) (by simp) ⟨c.1,λm e=>by
     have r:=c.2 m e;grind⟩ s
theorem IQ {p:bp} (g:Good p):∀{k:Nat} {i:Int} {a b:Alloc},lH p k i a b=b\/∃t,t≠[]/\kJ i k t/\lF p (a.chosen++t)=true/\lH p k i a b=⟨a.chosen++t,a.value+bZ (cj p t)⟩
 |0,i,a,b=> .inl rfl
 |k+1,i,a,b=>by
  have l:∀{t:List Int},kJ (i+1) k t->kJ i (k+1) t:=λh=>⟨h.1,λj c=>by have:=h.2 j c;omega⟩;simp only[lH];rcases @IQ p g k (i+1) a (if lF p (a.chosen++[i]) then lH p k (i+1) ⟨a.chosen++[i],a.value+lG p i⟩ (better ⟨a.chosen++[i],a.value+lG p i⟩ b) else b) with h|⟨t,m,d,n,o⟩
  ·rw[h];split
   ·rename_i q;have e:(⟨a.chosen++[i],a.value+lG p i⟩:Alloc)=⟨a.chosen++[i],a.value+bZ (cj p [i])⟩:=by simp[bZ,cj,lG]
    have f:kJ i (k+1) [i]:=⟨by simp,λj c=>by grind⟩;rcases @IQ p g k (i+1) ⟨a.chosen++[i],a.value+lG p i⟩ (better ⟨a.chosen++[i],a.value+lG p i⟩ b) with h|⟨t,m,d,n,o⟩;·grind[QM]
    ·refine .inr ⟨i::t,by simp,⟨γv.2 ⟨λj c=>by have:=d.2 j c;omega,d.1⟩,λj c=>?_⟩,by simp_all,?_⟩
     ·rcases γE.1 c with rfl|c;·omega
      ·have:=d.2 j c;omega
     grind[pX,bZ,lG]
   simp_all
  grind
theorem IU {p:bp}:cz p=lH p p.offers.length 0 ⟨[],0⟩ ⟨[],0⟩:=by
 grind[QG,cz,QH,QM]
theorem IV {p:bp} (f:Good p) {t:List Int} (e:kJ 0 p.offers.length t) (d:lF p t=true):bZ (cj p t)<=(cz p).value:=by
 rw[IU];by_cases c:t=[]
 ·subst c;exact zT
 ·have:=IP f (k:=p.offers.length) (i:=0) (a:=⟨[],0⟩) (b:=⟨[],0⟩) (t:=t) (by omega) (by omega) c e d;simp_all
theorem QN {p:bp} (a:Good p):lF p []=true:=by
 have b:=bz.eL.1 a.2.2.1;have c:=bz.eL.1 a.2.2.2.1;unfold lF;refine decide_eq_true ⟨by simp[cj],?_,?_⟩;all_goals simp_all[bz.le_iff,cj,dR]
theorem IW {p:bp} (a:Good p):∃t,kJ 0 p.offers.length t/\lF p t=true/\cz p=⟨t,bZ (cj p t)⟩:=by
 rw[IU];rcases @IQ p a p.offers.length 0 ⟨[],0⟩ ⟨[],0⟩ with h|⟨t,b,e,c,d⟩;·exact⟨[],⟨by simp,by simp⟩,QN a,by rw[h];rfl⟩
 grind
def QO:Bool:=(π 256).all λm=>[0,1,2,3,4,5,6,7].all λb:Int=>hasB m b==decide (b∈eM m)
theorem aa7:QO=true:=by kernel_rfl
theorem IX {m b:Int} (h0:0<=m) (h1:m<256) (h2:0<=b) (h3:b<8):hasB m b=decide (b∈eM m):=by
 have h:=aa7;simp only[QO,Ξ,γH] at h;have h:=h m.toNat (by omega) b (by
  have:b=0\/b=1\/b=2\/b=3\/b=4\/b=5\/b=6\/b=7:=by omega
  rcases this with rfl|rfl|rfl|rfl|rfl|rfl|rfl|rfl<;>simp);rw[show((m.toNat:Nat):Int)=m by omega] at h;simpa using h
theorem xZ {p:bp} {t:List Int} (h:kJ 0 p.offers.length t):vM p t:=λj hj=>by
 have:=h.2 j hj;omega
theorem aa8 {p:bp} (b:Good p) {m:Int} (j:0<=m) (e:m<256):uj p m<=gW p (eM m) p.supply p.opn:=by
 obtain⟨t,i,f,g⟩:=IW (IJ b m);unfold uj;rw[g];have d:=of_decide_eq_true f;refine xX b ⟨d.1,λx h=>?_,d.2.1,d.2.2⟩;have c:=vK (IJ b m) (xZ i) x h;have a:=γu.1 c;have k:=b.2.2.2.2 x a.1;have l:=b.1;refine⟨a.1,?_⟩;have:=IX j e k.1 (by omega);simp_all
theorem x4 {L M:List Off} (h:L.Perm M):bZ L=bZ M:=by
 induction h with
 |nil=>rfl;|cons x _ ih=>simp only[bZ];omega;|swap x y l=>simp only[bZ];omega;|trans _ _ a b=>omega
theorem DR {L M:List bz} (h:L.Perm M):dR L=dR M:=by
 induction h with
 |nil=>rfl;|cons x _ ih=>rw[sP,sP,ih];|swap x y l=>
  simp only[sP,bz.add,bz.mk.injEq];omega;|trans _ _ a b=>rw[a,b]
theorem zU {p:bp} {L M:List Off} (h:L.Perm M) (hF:gC p L):gC p M:=by
 obtain⟨h1,h2,h3⟩:=hF;refine⟨((h.map _).nodup_iff).1 h1,?_,?_⟩;·rw[<-DR (h.map _)];exact h2
 ·rw[<-DR (h.map _)];exact h3
theorem DT (q:Off->Bool):∀(O a:List Off),∃t:List Int,t.Pairwise (·<·)/\(∀j∈t,(a.length:Int)<=j/\j<a.length+O.length)/\(t.map λj=>bj (a++O) j.toNat bk.off.dflt)=O.filter q
 |[],a=>⟨[],by simp,by simp,by simp⟩
 |x::O,a=>by
  obtain⟨t,c,g,d⟩:=DT q O (a++[x]);have e:a++[x]++O=a++x::O:=by simp
  rw[e] at d;have h:((a++[x]).length:Int)=a.length+1:=by simp
  have f:∀j∈t,(a.length:Int)+1<=j/\j<a.length+1+O.length:=λj b=>by
   simp_all
  by_cases i:q x=true
  ·refine⟨(a.length:Int)::t,γv.2 ⟨λj b=>by grind,c⟩,λj b=>?_,?_⟩;·grind
   simp_all[cM]
  grind
theorem IY {p:bp}:∀{l:List Off} {a:List mO},fH p a l=0->(l.map Off.key).Nodup/\∀x∈l,x.key∉a
 |[],_,_=>by simp;|o::r,a,h=>by
  simp only[fH] at h;split at h;·omega
  ·split at h;·cases h
   ·rename_i d b;obtain⟨c,e⟩:=IY h;simp_all
theorem zV {α β:Type} (f:α->β):∀{l:List α},(l.map f).Nodup->l.Nodup
 |[],_=>by simp;|x::l,h=>by
  rw[ι,γN] at h;exact γN.2 ⟨λhm=>h.1 (List.mem_map_of_mem hm),zV f h.2⟩
theorem vN {p:bp} (h:bC p=0):p.offers.Nodup:=by
 unfold bC at h;split at h;·rename_i h1;exact absurd h h1
 ·exact zV _ (IY h).1
theorem DU (m:Int):(eM m).Nodup:=by
 unfold eM;exact ε6 δl (by decide)
theorem aa9 {p:bp} (f:bC p=0) {m:Int} (D:0<=m) (u:m<256):gW p (eM m) p.supply p.opn<=uj p m:=by
 have b:=dm f;have A:=bz.eL.1 b.2.2.1;have y:=bz.eL.1 b.2.2.2.1;obtain⟨L,c,h⟩:=xY b (DU m) (l:=p.supply) (o:=p.opn) (by grind[bz.le_iff,bz.zero]) (by grind[bz.le_iff,bz.zero]);obtain⟨t,n,B,g⟩:=DT (λx=>decide (x∈L)) (o9 p m).offers [];have i:cj (o9 p m) t=(o9 p m).offers.filter λx=>decide (x∈L):=g;have q:∀x∈L,x∈(o9 p m).offers:=λx s=>by
  have d:=c.mem x s;have C:=b.2.2.2.2 x d.1;have v:=b.1;refine γu.2 ⟨d.1,?_⟩;grind[IX]
 have e:((o9 p m).offers.filter λx=>decide (x∈L)).Nodup:=ε6 (List.Sublist.trans δl δl) (vN f);have a:L.Perm (cj (o9 p m) t):=by
  rw[i];refine(List.perm_ext_iff_of_nodup (zV _ c.nd) e).2 λx=>?_;simp_all
 have k:gC (o9 p m) L:=⟨c.nd,c.w,c.o⟩;have r:lF (o9 p m) t=true:=decide_eq_true (zU a k);have:=IV (IJ b m) ⟨n,λj z=>by simp_all⟩ r;rw[<-x4 a,h] at this;exact this
theorem abb {p:bp} (hc:bC p=0) {m:Int} (h0:0<=m) (h1:m<256):uj p m=gW p (eM m) p.supply p.opn:=by
 have a:=aa8 (dm hc) h0 h1;have b:=aa9 hc h0 h1;omega
theorem abd {p:bp} (hc:bC p=0) {m:Int} (h0:0<=m) (h1:m<2^p.classes.length):ik p m=uj p m:=by
 have hf:fA p m=0:=by
  unfold fA;rw[if_neg (by simp[hc]),if_neg (by omega)]
 have h2:=qJ (dm hc).1;unfold ik;rw[if_pos hf,abb hc h0 (by omega)];rfl
def IZ:Bool:=(π 9).all λn=>decide (qL bp.zero (-1) n=2^n - 1)&&(π n).all λb=>decide (qL bp.zero b n=ie (2^n - 1) b)
theorem QP:IZ=true:=by kernel_rfl
theorem QQ {p:bp} (h:p.classes.length<=8):qL p (-1) p.classes.length=allM p:=by
 have hk:=QP;simp only[IZ,Ξ,γH,ζ,decide_eq_true_eq] at hk;exact(hk p.classes.length (by omega)).1
theorem abe {p:bp} (h:p.classes.length<=8) {b:Int} (h0:0<=b) (h1:b<p.classes.length):qL p b p.classes.length=ie (allM p) b:=by
 have hk:=QP;simp only[IZ,Ξ,γH,ζ,decide_eq_true_eq] at hk;have:=(hk p.classes.length (by omega)).2 b.toNat (by omega);rw[show((b.toNat:Nat):Int)=b by omega] at this;exact this
theorem QR {p:bp} (hc:bC p=0):ik p (allM p)=uj p (DL p):=by
 have hg:=dm hc;have h2:=qJ hg.1;unfold DL;rw[QQ hg.1];exact abd hc (by unfold allM;omega) (by unfold allM;omega)
theorem zW {p:bp}:∀{c:List Int} {s:Int},c.foldl (sN p) s=s+bZ (cj p c)
 |[],s=>by simp[cj,bZ];|i::c,s=>by
  rw[γM,zW,pX];simp only[bZ,sN];omega
theorem DV {p:bp}:∀{c:List Int} {a:Int} {r:List Off},fW p.offers a c=some r->r=cj p c
 |[],a,r,h=>by simp[fW] at h;subst h;rfl;|i::c,a,r,h=>by
  simp only[fW] at h;split at h;·cases h
  ·obtain⟨d,b,rfl⟩:=δ.1 h;rw[DV b,pX]
theorem QS {p:bp} {c:List Int} (hz:dc p c=0):dH p c=i6 p c:=by
 obtain⟨q1,q2,hg,q4,q5⟩:=xW hz;obtain⟨r,hr⟩:=γo.1 q2;unfold dH i6;rw[if_pos q1,zW];simp only[eE,hr,γ4,DV hr];omega
theorem abf {p:bp} {c:List Int}:j8 p c=DN p c:=by
 unfold j8 DN;by_cases hz:dc p c=0;·simp only[hz,ne_eq,not_true,if_false,QS hz,QR (xW hz).1]
 ·rw[if_pos hz,if_pos hz]
theorem QT {p:bp} {x:Off} (b:0<=x.bD) (a:x.bD<p.classes.length):eT p x.bD x=1:=by
 unfold eT;omega
theorem sum_cons {p:bp} {x:Off} {L:List Off} {r:Int}:cT p (x::L) r=eT p r x+cT p L r:=by simp[cT]
theorem QU {p:bp} {r:Int}:∀{L:List Off},(∀x∈L,x.want.ok=true)->(∃x∈L,x.bD=r/\0<=r/\r<p.classes.length)->1<=cT p L r
 |[],_,h=>by simp_all;|y::L,a,⟨x,c,e,f,d⟩=>by
  have g:=@rL p r y (a y (by simp));have i:=@ug p r L λz b=>a z (by simp[b]);rw[sum_cons];rcases γE.1 c with rfl|c;·grind[QT]
  ·have:=@QU p r L (λz b=>a z (by simp[b])) ⟨x,c,e,f,d⟩;omega
theorem QV {p:bp}:∀{L:List Off},(∀x∈L,x.want.ok=true/\0<=x.bD/\x.bD<p.classes.length)->(∀r:Int,0<=r->r<p.classes.length->cT p L r<=1)->(L.map Off.bD).Nodup
 |[],_,_=>by simp;|x::L,e,f=>by
  have a:=e x (by simp);rw[ι,γN];have d:∀r:Int,0<=r->r<p.classes.length->cT p L r<=1:=λr j b=>by
   have:=f r j b;have:=@rL p r x a.1;grind[sum_cons]
  refine⟨λg=>?_,QV (λy c=>e y (by simp[c])) d⟩;obtain⟨y,c,h⟩:=γg.1 g;have b:=f x.bD a.2.1 a.2.2;have k:=@QU p x.bD L (λz i=>(e z (by simp[i])).1) ⟨y,c,h,a.2.1,a.2.2⟩;rw[sum_cons,QT a.2.1 a.2.2] at b;omega
theorem abg {p:bp} {c:List Int} (e:dc p c=0):((cj p c).map Off.bD).Nodup:=by
 obtain⟨j,f,a,m,h⟩:=xW e;obtain⟨r,l⟩:=γo.1 f;have n:eE p c=cj p c:=by grind[eE,DV]
 have d:fV p (cj p c)=true:=by
  simp_all[dc]
 refine QV (p:=p) (λx g=>?_) λr o i=>?_
 ·have:=a.2.2.2.2 x (vK a h x g);simp_all
 ·have b:=o7.1 d r.toNat (by grind[dn]);rw[show((r.toNat:Nat):Int)=r by omega] at b;have k:dC p r=1:=by unfold dC;omega
  omega
theorem QW {p:bp} (a:Good p) {b:Int} (m:0<=b) (f:b<p.classes.length):∀{c v:List Int} {s:Int×Int},vM p c->v.length=p.classes.length->bj v b.toNat 0=s.1->bj (c.foldl (ui p) v) b.toNat 0=(c.foldl (DJ p b) s).1
 |[],v,s,_,_,h=>h
 |i::c,v,s,e,g,h=>by
  rw[γM,γM];have n:=e i (by simp);have o:=a.2.2.2.2 _ (cK (d:=bk.off.dflt) (show i.toNat<p.offers.length by omega));refine QW a m f (λj k=>e j (by simp[k])) (by simp[ui,g]) ?_;unfold ui DJ;rw[cM (by simp;omega),List.getElem_set];by_cases l:(bj p.offers i.toNat bk.off.dflt).bD=b;·simp_all
  ·rw[if_neg (by omega),if_neg l];grind[cM]
theorem abh {p:bp} {c:List Int} (hg:Good p) (hi:vM p c) {b:Int} (h0:0<=b) (h1:b<p.classes.length):bj (nD p c) b.toNat 0=(DK p c b).1:=
 QW hg h0 h1 (s:=(0,0)) hi (by simp) (by rw[cM (by simp;omega)];simp)
def bz.at (b:bz) (k:Nat):Int:=bj [b.a0,b.a1,b.a2,b.a3,b.a4,b.a5] k 0
theorem DW {a b:bz} (h:a.le b=true) (k:Nat):a.at k<=b.at k:=by
 grind[bz.le_iff,bz.at,bj]
theorem nE (k:Nat):∀(l:List bz),(dR l).at k=(l.map λb=>b.at k).sum:=by
 intro l;unfold bz.at dR;match k with
 |0|1|2|3|4|5=>simp only[bj,List.getElem?_cons_zero,γO,γ4];|k+6=>
  simp only[bj,γO,List.getElem?_nil,Option.getD_none];induction l<;>grind
theorem QX {p:bp} {x:Off} {k:Nat} (a:k<6):eT p (p.classes.length+k) x=x.want.at k:=by
 unfold eT;rw[if_neg (by omega),if_pos (by omega),show((p.classes.length:Int)+k - p.classes.length).toNat=k by omega];rfl
theorem QY {p:bp} {x:Off} {k:Nat} (a:k<6):eT p (p.classes.length+6+k) x=(dE p x).at k:=by
 unfold eT;rw[if_neg (by omega),if_neg (by omega),show((p.classes.length:Int)+6+k - p.classes.length - 6).toNat=k by omega];have:k=0\/k=1\/k=2\/k=3\/k=4\/k=5:=by omega
 rcases this with rfl|rfl|rfl|rfl|rfl|rfl<;>simp[dE,eO,oc,gv,bz.at,bj]
theorem QZ {p:bp} {k:Nat} (a:k<6):dC p (p.classes.length+k)=p.supply.at k:=by
 unfold dC;rw[if_neg (by omega),if_pos (by omega),show((p.classes.length:Int)+k - p.classes.length).toNat=k by omega];rfl
theorem Q0 {p:bp} {k:Nat} (a:k<6):dC p (p.classes.length+6+k)=p.opn.at k:=by
 unfold dC;rw[if_neg (by omega),if_neg (by omega),show((p.classes.length:Int)+6+k - p.classes.length - 6).toNat=k by omega];rfl
theorem Q5 {p:bp} {r:Int} (a:0<=r) (b:r<p.classes.length):∀{L:List Off},(L.map Off.bD).Nodup->cT p L r<=1/\(r∉L.map Off.bD->cT p L r=0)
 |[],_=>by simp[cT];|x::L,h=>by
  rw[ι,γN] at h;obtain⟨d,e⟩:=Q5 a b h.2;have c:eT p r x=if x.bD=r then 1 else 0:=by unfold eT;omega
  rw[sum_cons,c];grind
theorem I0 {p:bp} {L:List Off} (h:gC p L):fV p L=true:=by
 obtain⟨j,i,f⟩:=h;refine o7.2 λr g=>?_;unfold dn at g;by_cases l:r<p.classes.length
 ·have:=(Q5 (p:=p) (r:=r) (by omega) (by omega) j).1;have d:dC p r=1:=by unfold dC;omega
  omega
 by_cases d:r<p.classes.length+6
 ·obtain⟨k,rfl⟩:∃k:Nat,r=p.classes.length+k:=⟨r - p.classes.length,by omega⟩;have c:k<6:=by omega
  have e:(((p.classes.length+k:Nat)):Int)=p.classes.length+k:=by omega
  rw[e,QZ c];have a:=DW i k;rw[nE,δn] at a;have:cT p L (p.classes.length+k)=(L.map ((λb=>bz.at b k)∘Off.want)).sum:=by
   unfold cT;congr 1;simp_all[QX]
  omega
 ·obtain⟨k,rfl⟩:∃k:Nat,r=p.classes.length+6+k:=⟨r - p.classes.length - 6,by omega⟩;have c:k<6:=by omega
  have e:(((p.classes.length+6+k:Nat)):Int)=p.classes.length+6+k:=by omega
  rw[e,Q0 c];have a:=DW f k;rw[nE,δn] at a;have:cT p L (p.classes.length+6+k)=(L.map ((λb=>bz.at b k)∘dE p)).sum:=by
   unfold cT;congr 1;simp_all[QY]
  omega
theorem Q7 {l:List Off}:∀{t:List Int} {a:Int},t.Pairwise (·<·)->(∀j∈t,a<j/\j<l.length)->fW l a t=some (t.map λi=>bj l i.toNat bk.off.dflt)
 |[],_,_,_=>rfl
 |i::t,a,h,d=>by
  have e:=d i (by simp);have c:=γv.1 h;unfold fW;rw[if_neg (by omega),Q7 c.2 λj b=>⟨c.1 j b,(d j (by simp[b])).2⟩];rfl
theorem Q8 {p:bp} (e:bC p=0) {t:List Int} (a:kJ 0 p.offers.length t) (c:gC p (cj p t)):dc p t=0:=by
 have d:fW p.offers (-1) t=some (cj p t):=Q7 a.1 λj b=>by have:=a.2 j b;omega
 simp_all[dc,jq,eE,I0]
def Q9:Bool:=(π 9).all λn=>(π n).all λb=>hasB (2^n - 1) b
theorem abj:Q9=true:=by kernel_rfl
theorem Rb {p:bp} (hg:Good p) {b:Int} (h0:0<=b) (h1:b<p.classes.length):hasB (allM p) b=true:=by
 have h:=abj;simp only[Q9,Ξ,γH] at h;have:=h p.classes.length (by have:=hg.1;omega) b.toNat (by omega);rwa [show((b.toNat:Nat):Int)=b by omega] at this
theorem abk {p:bp} (hg:Good p):o9 p (allM p)=p:=by
 unfold o9;rw[List.filter_eq_self.2 λx hx=>Rb hg (hg.2.2.2.2 x hx).1 (hg.2.2.2.2 x hx).2.1]
theorem DX {p:bp} (hc:bC p=0):ik p (allM p)=(cz p).value:=by
 have hg:=dm hc;rw[QR hc];unfold DL uj;rw[QQ hg.1,abk hg]
theorem x5 {p:bp} (hc:bC p=0):j8 p (cz p).chosen=0/\gC p (cj p (cz p).chosen)/\kJ 0 p.offers.length (cz p).chosen/\(cz p).value=bZ (cj p (cz p).chosen):=by
 have hg:=dm hc;obtain⟨t,ht,hr,he⟩:=IW hg;have hF:gC p (cj p t):=of_decide_eq_true hr;have hz:=Q8 hc ht hF;have h1:=DX hc;rw[he] at h1 ⊢;refine⟨?_,hF,ht,rfl⟩;unfold j8;have:i6 p t=bZ (cj p t):=by unfold i6;rw[zW];omega
 rw[if_neg (by simp[hz]),if_neg (show ¬i6 p t<ik p (allM p) by simp only at h1;omega)]
def Re:Bool:=(π 9).all λn=>(π n).all λb=>(π 8).all λx=>decide ((x:Int)∈eM (ie (2^n - 1) b))==(decide (x<n)&&decide (x≠b))
theorem abl:Re=true:=by kernel_rfl
theorem abm {p:bp} (hg:Good p) {b x:Int} (h0:0<=b) (h1:b<p.classes.length) (hx0:0<=x) (hx1:x<p.classes.length) (hne:x≠b):x∈eM (ie (allM p) b):=by
 have h:=abl;simp only[Re,Ξ,γH] at h;have h8:=hg.1;have:=h p.classes.length (by omega) b.toNat (by omega) x.toNat (by omega);rw[show((b.toNat:Nat):Int)=b by omega,show((x.toNat:Nat):Int)=x by omega] at this;have e1:decide (x.toNat<p.classes.length)=true:=decide_eq_true (by omega);have e2:decide (x.toNat≠b.toNat)=true:=decide_eq_true (by omega);rw[e1,e2] at this;simpa[allM] using this
theorem I1 {p:bp} (hg:Good p) {x:Int} (hx0:0<=x) (hx1:x<p.classes.length):x∈eM (allM p):=by
 have h8:=hg.1;have h2:=qJ h8;have:=IX (m:=allM p) (b:=x) (by unfold allM;omega) (by unfold allM;omega) hx0 (by omega);rw[Rb hg hx0 hx1] at this;exact of_decide_eq_true this.symm
theorem I2 {p:bp} (hc:bC p=0) {m:Int} (h0:0<=m) (h1:m<2^p.classes.length):ik p m=gW p (eM m) p.supply p.opn:=by
 unfold ik;rw[if_pos];·rfl
 ·unfold fA;rw[if_neg (by simp[hc]),if_neg (by omega)]
theorem Rf {p:bp} (hg:Good p) {b:Int} (h0:0<=b) (h1:b<p.classes.length):0<=ie (allM p) b/\ie (allM p) b<2^p.classes.length:=by
 rw[<-abe hg.1 h0 h1];exact QI p b p.classes.length
end Go.Vi
