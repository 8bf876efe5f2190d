/-
  Contracts: Solve of a linear program whose bounds are not negative and whose values are bounded.
  Conditions: none.
-/
import Derived.Test.YtjcmncmajmoiiaaGreatDY06
import Derived.Test.YtjcmncmajmoiiaaGreatDY10
import Derived.Test.YtjcmncmajmoiiaaGreatDY09
import Derived.Test.YtjcmncmajmoiiaaGreatDY11
import Derived.Test.YtjcmncmajmoiiaaGreatDY12
import Derived.Test.YtjcmncmajmoiiaaGreatDY07
import Derived.Test.YtjcmncmajmoiiaaGreatDY08
set_option maxRecDepth 100000
set_option maxHeartbeats 4000000
set_option linter.all false
open Bool renaming eq_false_iff->εq,and_eq_true->ζ
open Classical renaming not_not->ω
open Go.Vi.AV renaming sl->ζV,sc->δh,os->ζZ
open Go.Vi.AV.os renaming injEq->εP
open Go.Vi.AV.sc renaming injEq->γX
open Go.Vi.SV renaming row->Ψ,si->Ξ,ow->γ8,il->γr,sb->γI,bl->δw,agg->γG,ptr->γV
open Int renaming toNat_natCast->γt
open IntCast renaming intCast->γa
open List renaming replicate->ε,map_map->δx,map_congr_left->γ2,length_map->γB,map->γj,length->γn,flatMap->ζP,elem->ζC,getElem_of_mem->δc,mem_map->γg,mem_append_left->δ3,mem_append->Γ,take->γd,all_eq_true->Φ,take_length->Δ,map_append->γb,map_cons->ι,sum_cons->εr,perm_ext_iff_of_nodup->δT,filter_sublist->δl,sum_append->ζU,length_set->γe,getElem?_set_ne->δL,mem_of_mem_take->γm,range_eq_range'->δK,take_append_drop->γc,map_nil->γp,length_take->Ω,append_nil->γZ
open List.cons renaming injEq->π
open Nat renaming le_refl->φ
open Option.some renaming injEq->γ
namespace Go.Vi
open Go.Proofs.YtjcmncmajmoiiaaGreat.Ir
open Go.Proofs
abbrev Lp:=List Rat×List (List Rat×Rat)
def iC (a:Lp):s9:=(fL a.1,a.2.map λr=>(fL r.1,bu r.2))
def ln (a:Lp):Tb:=⟨a.2.map (·.1),a.2.map (·.2),a.1,0,(dS a.2.length).map λi=>a.1.length+i,dS a.1.length⟩
def r7 (a:Lp):Tb:={ln a with cost:=ε a.1.length 0}
theorem aeR {a:Lp}:Bg (iC a)=bG a.1.length a.2.length (r7 a):=by
 unfold Bg iC bG r7 ln;simp_all[jy,fM,fL]
structure Bh (a:Lp):Prop where
 n:a.1.length<=160
 m:a.2.length<=40
 small:∃M G,Small a.1.length a.2.length M G (ln a)
 yt:kg a.2.length (ln a)
 bnd:∃B,∀x z,(ln a).holds a.1.length a.2.length x z->(∀v∈(ln a).basic++(ln a).free,0<=x v)->z<=B
noncomputable def nO (a:Lp):Tb:=lastT a.1.length a.2.length (ln a)
theorem aeS {a:Lp} (h:Bh a):okO a.1.length a.2.length (ln a):=by
 obtain⟨M,G,b⟩:=h.small;exact⟨ln a,M,G,b,Run.refl b.wf b.nd,h.yt⟩
theorem aeT {a:Lp} (h:Bh a):Run a.1.length a.2.length (ln a) (nO a)/\kg a.2.length (nO a)/\eh (nO a) a.1.length<0:=by
 obtain⟨M,G,c⟩:=h.small;obtain⟨B,d⟩:=h.bnd;have b:=Run.refl c.wf c.nd;have:=La b h.yt;exact⟨this.1,this.2.1,UH b h.yt d⟩
noncomputable def Lr:bL:=⟨152,s9,.one yO,λx=>∃a:Lp,x=iC a/\Bh a,λx=>
 let a:Lp:=(vL x.1,x.2.map λr=>(vL r.1,ck r.2));.bH [.agg [.si .i64 1,.sb (bu (nO a).value).1,.row (.i .u32) (bu (nO a).value).2.1,.row (.i .u32) (bu (nO a).value).2.2,.row sF (fL (gl (nO a) a.1.length a.2.length)),.row sF (fL (kR (nO a) a.1.length a.2.length a.1.length)),.row sF []],.si .i64 0]⟩
theorem aeU {a:Lp}:((vL (iC a).1,(iC a).2.map λr=>(vL r.1,ck r.2)):Lp)=a:=by
 obtain⟨g,b⟩:=a;unfold iC;simp only[mh,δx];congr 1;conv=>rhs;rw[<-List.map_id b]
 refine γ2 λr _=>?_;grind[mh,fa]
theorem aeV {a:Lp}:((iC a).1,(iC a).2)=iC a:=rfl
theorem U1 {a:Lp}:vL (iC a).1=a.1:=mh _
theorem U2 {a:Lp}:(iC a).2.map (λr=>(vL r.1,ck r.2))=a.2:=congrArg Prod.snd (@aeU a)
theorem aeW {a:Lp}:({cj:=(r7 a).cj,bound:=(r7 a).bound,cost:=a.1,value:=0,basic:=(r7 a).basic,free:=(r7 a).free}:Tb)=ln a:=rfl
theorem aeX {a:Lp}:(iC a).1.length=a.1.length:=fN
theorem aeY {a:Lp}:(iC a).2.length=a.2.length:=γB _
theorem U3 {q:Rat} (h:Sz 1000000 q):mT (bu q)/\okF (bu q)=true:=by
 obtain⟨g,⟨c,_,e⟩,⟨b,_,f⟩⟩:=nG q;obtain⟨a,d⟩:=qX h;refine⟨⟨⟨c,b⟩,a,d⟩,?_⟩;grind[okF,fa]
theorem aeZ {o:Store} {d:Nat} {acc:List Nat} {l:List bP}:cJ o d (γj (λx:bP=>dM bn.b x.1++dM ((bn.i .u32).bK.pair (bn.i .u32).bK) x.2) l).flatten acc=acc:=zR λa c=>nk (s:=sF) (l:=l) c
theorem ae0 {o:Store} {d:Nat} {acc:List Nat} {l:List (List bP)}:cJ o d (γj (λx:List bP=>[ζV (γn x) (ζP (dM sF) x)]) l).flatten acc=acc:=zR λa b=>nk (s:=sF.bK) (l:=l) b
theorem ae1 {o:Store} {d:Nat} {acc:List Nat} {l:List Int}:cJ o d (γj (λx:Int=>γj δh (dI (bn.i .i64) x)) l).flatten acc=acc:=zR λa b=>nk (s:=bn.i .i64) (l:=l) b
theorem h395:Holds Tryz.prog Lr:=by
 refine ZK (L:=[Lm]) (W:=fQ [Ln,r400,Lq,Lj,E5,E6]) Lr (λf=>Nat.beq f E5.f||Nat.beq f E6.f) lk (kZ (by simpa using⟨h399,h400,h401,h402,h403,h405⟩)) (by simpa using h398) ?_;rintro x ⟨a,hx,hok⟩;subst hx;refine bO (let c:=Ψ;let d:=bq.row;let e:=Ξ .i64;let f:=γ8;let h:=bq.cells;let j:=γr .i64;let k:=(0:Int);let l:=γI;let o:=δw false;let p:=γG;let q:=SV.bH;let B:=(iC a).fst;let C:=(iC a).snd;let J:=h [c sF B,c sR C] 220 2 false;let Q:=j 0;let a1:=Value.slice none 0 0;let G:=SV.sc a1;let K:=h [Q,o,G,G,G,G,G] 224 7 false;let L:=Bg (B,C);let D:=bG L.n L.m L.t;let E:=bG D.n D.m (Tb.mk D.t.cj D.t.bound (vL B) (0:Rat) D.t.basic D.t.free);let a2:=lastT E.n.toNat E.m.toNat E.t;let s:=bG E.n E.m a2;let y:=bn.i .u32;let M:=s.v.snd.fst;let N:=s.v.snd.snd;let w:=bG s.n s.m s.t;let R:=w.v.snd.fst;let S:=w.v.snd.snd;let a3:=h [e w.n,e w.m,f 3 w.k0 1,f 4 w.k1 3,c sF w.cost,l w.v.fst,c y R,c y S,f 5 w.k3 1,f 6 w.k4 1] 267 10 false;let a4:=d sF.bK w.cj 91 false;let a5:=d sF w.bound 157 false;let z:=bn.i .i64;let a6:=d z w.basic 3 false;let a7:=d z w.free 3 false;let F:=c z [];let U:=γj (λ(r:List bP×bP) ↦(vL r.fst,ck r.snd)) C;let H:=nO (vL B,U);let z31:Nat:=(vL B).length;let a8:=e 0;let a9:=q [p [e 1,l (bu H.value).fst,c y (bu H.value).snd.fst,c y (bu H.value).snd.snd,c sF (fL (gl H z31 U.length)),c sF (fL (kR H z31 U.length z31)),c sF []],a8];let A:=bG w.n w.m w.t;let aa:=bQ.cells [ζV B.length (γj (λ(x:sF.T) ↦dM bn.b x.fst++dM (y.bK.pair y.bK) x.snd) B).flatten,ζV C.length (γj (λ(x:sR.T) ↦dM sF.bK x.fst++dM sF x.snd) C).flatten] 220 2 false;let I:=δh a1;let ab:=bQ.cells [δh (Value.int .i64 k),δh (Value.bool false),I,I,I,I,I] 224 7 false;let ac:=(γj (λ(x:sF.bK.T) ↦[ζV (γn x) (ζP (dM sF) x)]) s.cj).flatten;let ad:=(γj (λ(x:sF.T) ↦dM bn.b x.fst++dM (y.bK.pair y.bK) x.snd) s.bound).flatten;let ae:=(γj (λ(x:z.T) ↦γj δh (dI z x)) s.basic).flatten;let af:=(γj (λ(x:z.T) ↦γj δh (dI z x)) s.free).flatten;let O:=[aa,ab,bQ.cells [δh (Value.int .i64 s.n),δh (Value.int .i64 s.m),ζZ 3 0 s.k0 (s.k0*1),ζZ 4 0 s.k1 (s.k1*3),ζV s.cost.length (γj (λ(x:sF.T) ↦dM bn.b x.fst++dM (y.bK.pair y.bK) x.snd) s.cost).flatten,δh (Value.bool s.v.fst),ζV M.length (γj (λ(x:y.T) ↦γj δh (dI y x)) M).flatten,ζV N.length (γj (λ(x:y.T) ↦γj δh (dI y x)) N).flatten,ζZ 5 0 s.k3 (s.k3*1),ζZ 6 0 s.k4 (s.k4*1)] 267 10 false,bQ.cells ac 91 1 false,bQ.cells ad 157 3 false,bQ.cells ae 3 1 false,bQ.cells af 3 1 false];let ag:=[2,3];let V:=cJ O (nat_lit 396) ac ag;let W:=if ζC 4 V=true then V else cJ O (nat_lit 395) ad (V++[4]);let X:=if ζC 5 W=true then W else cJ O (nat_lit 390) ae (W++[5]);let ah:=(γj (λ(x:sF.bK.T) ↦[ζV (γn x) (ζP (dM sF) x)]) w.cj).flatten;let ai:=(γj (λ(x:sF.T) ↦dM bn.b x.fst++dM (y.bK.pair y.bK) x.snd) w.bound).flatten;let aj:=(γj (λ(x:z.T) ↦γj δh (dI z x)) w.basic).flatten;let ak:=(γj (λ(x:z.T) ↦γj δh (dI z x)) w.free).flatten;let P:=[aa,ab,bQ.cells [δh (Value.int .i64 w.n),δh (Value.int .i64 w.m),ζZ 3 0 w.k0 (w.k0*1),ζZ 4 0 w.k1 (w.k1*3),ζV w.cost.length (γj (λ(x:sF.T) ↦dM bn.b x.fst++dM (y.bK.pair y.bK) x.snd) w.cost).flatten,δh (Value.bool w.v.fst),ζV R.length (γj (λ(x:y.T) ↦γj δh (dI y x)) R).flatten,ζV S.length (γj (λ(x:y.T) ↦γj δh (dI y x)) S).flatten,ζZ 5 0 w.k3 (w.k3*1),ζZ 6 0 w.k4 (w.k4*1)] 267 10 false,bQ.cells ah 91 1 false,bQ.cells ai 157 3 false,bQ.cells aj 3 1 false,bQ.cells ak 3 1 false];let Y:=cJ P (nat_lit 396) ah ag;let Z:=if ζC 4 Y=true then Y else cJ P (nat_lit 395) ai (Y++[4]);let a0:=if ζC 5 Z=true then Z else cJ P (nat_lit 390) aj (Z++[5]);let al:=J.same J/\K.same K/\(h [e s.n,e s.m,f 3 s.k0 1,f 4 s.k1 3,c sF s.cost,l s.v.fst,c y M,c y N,f 5 s.k3 1,f 6 s.k4 1] 267 10 false).same a3/\(d sF.bK s.cj 91 false).same a4/\(d sF s.bound 157 false).same a5/\(d z s.basic 3 false).same a6/\(d z s.free 3 false).same a7/\True;let am:=∃(n:Int),∃(m:Int),∃(t:Tb),s=bG n m t/\kO n m t/\∀(v:Int),v∈t.basic->k<=v;let an:=λ(u:Bool) ↦(!decide (eh a2 E.n.toNat<k))=u;let ao:=λ(u:Int) (u_1:SV) ↦false=true->(q [p [j u,o,F,F,F,F,F],u_1]).same a9;((B.length<=160/\C.length<=40)/\(∀(x:bP),x∈B->mT x/\okF x=true)/\∀(r:List bP×bP),r∈C->r.fst.length=B.length/\(∀(x:bP),x∈r.fst->mT x/\okF x=true)/\mT r.snd/\okF r.snd=true)/\ao k a8/\(false=false->(B.length<=1000/\C.length<=1000/\∀(r:List bP×bP),r∈C->r.fst.length<=1000)/\(∃(n:Int),∃(m:Int),∃(t:Tb),L=bG n m t/\kO n m t/\kg m.toNat t)/\ao (2:Int) Q/\(false=false->(∃(n:Int),∃(m:Int),∃(t:Tb),D=bG n m t/\kO n m t/\∃(g:List Rat),B=fL g/\g.length=n.toNat/\t.free=dS n.toNat/\∀(v:Int),v∈t.basic->n<=v)/\(∃(n:Int),∃(m:Int),∃(t:Tb),E=bG n m t/\kO n m t/\okO n.toNat m.toNat t)/\(an true->am/\al/\False)/\(an false->am/\al/\(∃(n:Int),∃(m:Int),∃(t:Tb),w=bG n m t/\kO n m t/\True)/\(J.same J/\K.same K/\a3.same (h [e A.n,e A.m,f 3 A.k0 1,f 4 A.k1 3,c sF A.cost,l A.v.fst,c y A.v.snd.fst,c y A.v.snd.snd,f 5 A.k3 1,f 6 A.k4 1] 267 10 false)/\a4.same (d sF.bK A.cj 91 false)/\a5.same (d sF A.bound 157 false)/\a6.same (d z A.basic 3 false)/\a7.same (d z A.free 3 false)/\True)/\if(((if ζC 6 X=true then X else cJ O (nat_lit 389) af (X++[6])).all λ(i:Nat) ↦decide (i<7))&&(((if ζC 6 a0=true then a0 else cJ P (nat_lit 389) ak (a0++[6])).all λ(i:Nat) ↦decide (i<7))&&true))=true then(q [p [j 1,l s.v.fst,c y M,c y N,c sF (fL (gl s.t s.n.toNat s.m.toNat)),c sF (fL (kR w.t w.n.toNat w.m.toNat w.n.toNat)),F],Q]).same a9 else False)))) (by kernel_rfl) ?_;simp only[aeV,aeR,sY,Tt,Tv,U1,U2,aeW,aeX,aeY,γt];try simp only[vcs]
 obtain⟨M,G,hs⟩:=hok.small;obtain⟨r1,r2,r3⟩:=aeT hok;have hw:=hs.wf;have hz:=hs.wi (Run.refl hs.wf hs.nd);have hn:=hok.n;have hm:=hok.m;have hO:=aeS hok;have k1:kO a.1.length a.2.length (ln a):=⟨⟨by omega,by omega⟩,by simpa using hw,hz⟩;have k0:kO a.1.length a.2.length (r7 a):=by
  refine⟨⟨by omega,by omega⟩,⟨hw.cj,hw.row,hw.bound,by simp[r7],hw.basic,hw.free⟩,hz.1,hz.2.1,λq hq=>?_,hz.2.2.2⟩;rw[(List.mem_replicate.1 hq).2];exact hz.2.2.2
 have k2:kO a.1.length a.2.length (nO a):=UB hs (by simpa using r1) (by omega) (by omega);have hl:lastT a.1.length a.2.length (ln a)=nO a:=rfl;have Ls:((a.1,a.2):Lp)=a:=rfl;simp only[hl,Ls,aeZ,ae0,ae1];have mem2:∀i,i<a.2.length->bj a.2 i ([],0)∈a.2:=λi hi=>cO hi;have hrow:∀r∈a.2,r.1.length=a.1.length/\(∀q∈r.1,Sz 1000000 q)/\Sz 1000000 r.2:=λr hr=>by
  obtain⟨i,hi,rfl⟩:=δc hr;have h1:=hw.row i hi;have e:bj (ln a).cj i []=a.2[i].1:=by
   show bj (a.2.map (·.1)) i []=_;rw[cQ (by rw[γB];exact hi),List.getElem_map]
  rw[e] at h1;refine⟨h1,hz.1 _ (γg.2 ⟨a.2[i],hr,rfl⟩),hz.2.1 _ (γg.2 ⟨a.2[i],hr,rfl⟩)⟩
 have hg:∀q∈a.1,Sz 1000000 q:=hz.2.2.1;have hF:∀{l:List Rat},(∀q∈l,Sz 1000000 q)->∀x∈fL l,mT x/\okF x=true:=λh x hx=>by
  obtain⟨q,hq,rfl⟩:=γg.1 hx;exact U3 (h q hq)
 have hdg:(∀x∈(iC a).1,mT x/\okF x=true)/\∀r∈(iC a).2,r.1.length=a.1.length/\(∀x∈r.1,mT x/\okF x=true)/\mT r.2/\okF r.2=true:=by
  refine⟨hF hg,λr hr=>?_⟩;obtain⟨r0,hr0,rfl⟩:=γg.1 hr;obtain⟨h1,h2,h3⟩:=hrow r0 hr0;exact⟨by rw[<-h1];exact fN,hF h2,U3 h3⟩
 have hb0:∀v∈(nO a).basic,0<=v:=λv hv=>by
  have:=r1.perm.mem_iff.1 (δ3 _ hv);simp only[ln,Γ,γg,rW] at this;rcases this with⟨i,hi,rfl⟩|h;·omega
  ·exact h.1
 have hbn:∀v∈(r7 a).basic,(a.1.length:Int)<=v:=λv hv=>by
  simp only[r7,ln,γg,rW] at hv;obtain⟨i,hi,rfl⟩:=hv;omega
 refine⟨⟨⟨hn,hm⟩,hdg.1,hdg.2⟩,λh=>(by cases h),λ_=>⟨⟨by omega,by omega,λr hr=>by have:=(hdg.2 r hr).1;omega⟩,⟨_,_,_,rfl,k0,by rw[γt];exact hok.yt⟩,λh=>(by cases h),λ_=>⟨⟨_,_,_,rfl,k0,a.1,rfl,by simp,rfl,hbn⟩,⟨_,_,_,rfl,k1,by simpa using hO⟩,λh=>absurd r3 h,λ_=>⟨⟨_,_,_,rfl,k2,hb0⟩,⟨_,_,_,rfl,k2⟩,?_⟩⟩⟩⟩;rw[if_pos (by decide)];rfl
theorem Lt {f:List Int} {d:Int} {i:Int} (h:0<=i) (c:i<f.length):bF (f.take (i+1).toNat) d=bF (f.take i.toNat) d++if bj f i.toNat 0=d then[i] else[]:=by
 have a:(f.take (i+1).toNat).length=i.toNat+1:=by grind
 have b:(f.take i.toNat).length=i.toNat:=by grind
 unfold bF;rw[a,b,yG,List.filter_append];have e:∀{k:Nat} {m:Nat},k<m->m<=f.length->bj (f.take m) k 0=bj f k 0:=λ{k m} c j=>by
  grind[cQ]
 congr 1
 ·refine List.filter_congr λx g=>?_;grind[rW]
 grind
def jP (f:List Int):Bool:=f.all λx=>decide (-1<=x)&&decide (x<=1)
def kS (p:bp) (f:List Int):Int:=if bC p≠0 then bC p else if f.length≠p.offers.length then 3 else if jP f=true then 0 else 4
def Lu:bL:=⟨150,bp×List Int,.cons cY (.one (dV (.i .i64))),λa=>a.2.length<=1000000000000,λa=> .si .i64 (kS a.1 a.2)⟩
def ae2 (p:bp) (f:List Int):Nat->cC
 |7=> .inv Int (λi=>⟨[(19,.row (.i .i64) f),(20,.si .i64 f.length),(21,.si .i64 i)],[.cells p.ss 27 20 false]⟩)
   (λs=>iS s 21) (λi=>(0<=i/\i<=f.length)/\jP (f.take i.toNat)=true) (λi=>(f.length - i).toNat) λ_ _=> .look
 |_=> .look
theorem h393:Holds Tryz.prog Lu:=by
 refine cG (L:=[pV]) Lu (λa=>ae2 a.1 a.2) (by grind[h79]) ?_;rintro⟨p,f⟩ (D:f.length<=1000000000000);refine bO (let a:=Ξ .i64;let d:=(0:Int);let g:=γr .i64;let v:=decide (bC p≠d);let e:=a (kS p f);let q:=(↑f.length:Int);let r:=decide (q≠(↑p.offers.length:Int));let n:=Ψ (bn.i .i64) f;let c:=(↑f.length:Int);let o:=a c;let w:=g 0;let m:=bq.cells (bp.ss p) 27 20 false;True/\(v=true->(a (bC p)).same e)/\(v=false->(r=true->(g 3).same e)/\(r=false->(((n.same n/\(a q).same o/\w.same (a 0)/\True)/\m.same m/\True)/\(d<=d/\d<=c)/\jP []=true)/\∀(x:Int),let s:=bj f x.toNat d;let l:=decide (s<(-1:Int));let j:=decide ((1:Int)<s);let b:=x+(1:Int);let k:=a b;(d<=x/\x<=c)/\jP (γd x.toNat f)=true->(decide (x<c)=true->d<=x/\x<q/\x.toNat<f.length/\(l=true->(g 4).same e)/\(l=false->(j=true->(g 4).same e)/\(j=false->bW .i64 b/\((n.same n/\o.same o/\k.same k/\True)/\m.same m/\True)/\((d<=b/\b<=c)/\jP (γd b.toNat f)=true)/\(c - b).toNat<(c - x).toNat)))/\(decide (x<c)=false->w.same e)))) (by kernel_rfl) ?_;simp only[vcs];refine⟨λh=>by simp[kS,h],λh=>?_⟩;have F:bC p=0:=ω.1 h;refine⟨λy=>by
  grind[kS],λy=>⟨⟨⟨by omega,by omega⟩,rfl⟩,?_⟩⟩;have u:f.length=p.offers.length:=by omega
 rintro i ⟨⟨A,G⟩,g⟩;refine⟨λt=>?_,λt=>?_⟩
 ·have B:=cO (d:=0) (show i.toNat<f.length by omega);have H:=j4 (d:=0) A t;have z:¬(-1<=bj f i.toNat 0/\bj f i.toNat 0<=1)->(4:Int)=kS p f:=λE=>by
   have:jP f=false:=by
    rw[εq];intro C;have:=Φ.1 C _ B;grind
   grind[kS]
  grind[jP]
 ·rw[show i.toNat=f.length by omega,Δ] at g;grind[kS]
def kT (p:bp) (f:List Int):Int:=bV ((bF f 1).map (oI p))
theorem Lx {p:bp} (c:bC p=0) {f:List Int} {k:Nat} (g:f.length=p.offers.length):0<=kT p (f.take k)/\kT p (f.take k)<=160000000:=by
 have a:=dn c;have e:=@yL (f.take k) 1;have h:(f.take k).length<=f.length:=by grind
 have j:=@sP p a ((bF (f.take k) 1).map (oI p)) λx b=>by
  obtain⟨i,d,rfl⟩:=γg.1 b;have:=(mA.1 d).1;exact cO (by omega)
 have l:=a.2.1;grind[kT]
theorem ae3 {p:bp} {f:List Int} {i:Int} (b:0<=i) (a:i<f.length):kT p (f.take (i+1).toNat)=kT p (f.take i.toNat)+if bj f i.toNat 0=1 then(oI p i).value else 0:=by
 unfold kT;rw[Lt b a,γb,o8];grind[bV]
def jz (p:bp) (f:List Int):Lp:=((dy p f).cost,(dS (mF p)).map λr=>((bF f 0).map λi=>((eT p r (oI p i):Int):Rat),((dD p r - cT p ((bF f 1).map (oI p)) r:Int):Rat)))
theorem E7 {p:bp} {f:List Int}:ln (jz p f)=dy p f:=by
 simp_all[ln,jz,dy,dS]
def mB (p:bp) (f:List Int) (j:Nat):List bP:=fL (((bF f 0).take j).map λi=>(((oI p i).value:Int):Rat))
def nP (p:bp) (f:List Int) (r:Int) (j:Nat):List bP:=fL (((bF f 0).take j).map λi=>((eT p r (oI p i):Int):Rat))
def nQ (p:bp) (f:List Int) (k:Nat):List (List bP×bP):=(dS k).map λr=>(nP p f r (bF f 0).length,bu ((dD p r - cT p ((bF f 1).map (oI p)) r:Int):Rat))
theorem U4 {p:bp} {f:List Int}:mB p f (bF f 0).length=(iC (jz p f)).1:=by
 unfold mB;rw[Δ];rfl
theorem U5 {p:bp} {f:List Int}:nQ p f (mF p)=(iC (jz p f)).2:=by
 simp_all[nQ,iC,jz,nP]
theorem Ly {p:bp} {f:List Int} {j:Nat} (h:j<=(bF f 0).length):(mB p f j).length=j:=by
 grind[mB,fN]
theorem U6 {p:bp} {f:List Int} {r:Int} {j:Nat} (h:j<=(bF f 0).length):(nP p f r j).length=j:=by
 grind[nP,fN]
theorem U7 {p:bp} {f:List Int} {k:Nat}:(nQ p f k).length=k:=by
 grind[nQ,jy]
theorem U8 {l m:List Rat}:fL (l++m)=fL l++fL m:=γb
theorem ae4 {p:bp} {f:List Int} {j:Int} (a:0<=j) (h:j<(bF f 0).length):mB p f (j+1).toNat=mB p f j.toNat++[bu (((oI p (bj (bF f 0) j.toNat 0)).value:Int):Rat)]:=by
 unfold mB;rw[j4 (d:=0) a h,γb,U8];rfl
theorem ae5 {p:bp} {f:List Int} {r j:Int} (a:0<=j) (h:j<(bF f 0).length):nP p f r (j+1).toNat=nP p f r j.toNat++[bu ((eT p r (oI p (bj (bF f 0) j.toNat 0)):Int):Rat)]:=by
 unfold nP;rw[j4 (d:=0) a h,γb,U8];rfl
theorem ae6 {p:bp} {f:List Int} {r:Int} (a:0<=r):nQ p f (r+1).toNat=nQ p f r.toNat++[(nP p f r (bF f 0).length,bu ((dD p r - cT p ((bF f 1).map (oI p)) r:Int):Rat))]:=by
 unfold nQ;rw[show(r+1).toNat=r.toNat+1 by omega,yG,γb,show((r.toNat:Nat):Int)=r by omega];rfl
def iD (p:bp) (f:List Int):Bool:=gd p ((bF f 1).map (oI p))
def mU (p:bp) (f:List Int):List bP×(List (List bP×bP)×List Int):=if iD p f=true then((iC (jz p f)).1,((iC (jz p f)).2,bF f 0)) else([],([],[]))
theorem ae7 {p:bp} {f:List Int} (h:iq p f):Bh (jz p f):=by
 have a:=dn h.1;have c:(jz p f).1.length=nF f:=by
  show((bF f 0).map _).length=_;simp_all
 have b:(jz p f).2.length=mF p:=by
  show((dS (mF p)).map _).length=_;grind[jy]
 have g:=@yL f 0;have i:mF p=p.classes.length+12:=rfl;refine⟨?_,?_,?_,?_,?_⟩;·rw[c];have:=h.2.1;have:=a.2.1;grind
 ·rw[b];have:=a.1;omega
 ·grind[E7,E0]
 ·grind[E7,Lh]
 ·rw[c,b,E7];exact⟨_,λx z d e=>UM h d e⟩
theorem ae8 {p:bp} {f:List Int}:nO (jz p f)=fc p f:=by
 have b:(jz p f).1.length=nF f:=by
  show((bF f 0).map _).length=_;simp_all
 have a:(jz p f).2.length=mF p:=by
  show((dS (mF p)).map _).length=_;grind[jy]
 grind[nO,fc,E7]
noncomputable def jQ (p:bp) (f:List Int) (k:Nat):List Rat:=(dS f.length).map λi=>if bj f i.toNat 0=1 then 1 else if i∈(bF f 0).take k then bj (gl (fc p f) (nF f) (mF p)) ((bF f 0).idxOf i) 0 else 0
noncomputable def jR (p:bp) (f:List Int):Rat:=((kT p f:Int):Rat)+(fc p f).value
noncomputable def yP (p:bp) (f:List Int):List Rat:=kR (fc p f) (nF f) (mF p) (nF f)
theorem yQ {p:bp} {f:List Int} {k:Nat}:(jQ p f k).length=f.length:=by
 grind[jQ,jy]
theorem E8 {p:bp} {f:List Int} {k i:Nat} (h:i<f.length):bj (jQ p f k) i 0=if bj f i 0=1 then 1 else if(i:Int)∈(bF f 0).take k then bj (gl (fc p f) (nF f) (mF p)) ((bF f 0).idxOf (i:Int)) 0 else 0:=by
 unfold jQ;rw[Lc (e:=0) (by grind[jy]),Ld h,γt]
theorem ae9 {l m:List Rat} (a:l.length=m.length) (h:∀i,i<m.length->bj l i 0=bj m i 0):l=m:=List.ext_getElem a λi b c=>by
 grind[cQ]
theorem afa {p:bp} {f:List Int} {k:Nat} (b:k<nF f):(jQ p f k).set (bj (bF f 0) k 0).toNat (bj (gl (fc p f) (nF f) (mF p)) k 0)=jQ p f (k+1):=by
 have g:=mA.1 (cO (d:=0) b);refine ae9 (by grind[yQ]) λi a=>?_;rw[yQ] at a;have c:(bF f 0).idxOf (bj (bF f 0) k 0)=k:=qd (wy.imp λh=>by omega) b;have e:(bF f 0).take (k+1)=(bF f 0).take k++[bj (bF f 0) k 0]:=by simp_all[cQ]
 rw[sX (by grind[yQ]),E8 a,E8 a,e];grind
theorem afb {p:bp} {f:List Int} {i:Nat} (h:i<f.length):bj (jQ p f 0) i 0=if bj f i 0=1 then 1 else 0:=by
 grind[E8]
def jS (p:bp) (f:List Int):Bool:=decide (kS p f=0)&&iD p f
noncomputable def ki (p:bp) (f:List Int):bP:=if jS p f=true then bu (jR p f) else(false,([],[]))
noncomputable def ra (p:bp) (f:List Int):List bP:=if jS p f=true then fL (yP p f) else[]
noncomputable def kj (p:bp) (f:List Int):List bP:=if jS p f=true then fL (jQ p f (nF f)) else[]
noncomputable def afc (p:bp) (f:List Int):SV:=.agg [.sb (jS p f),.sb (ki p f).1,.row (.i .u32) (ki p f).2.1,.row (.i .u32) (ki p f).2.2,.row sF (ra p f),.row sF (kj p f)]
theorem LA {t:List Int} {g:Int->Int}:∀{l:List Int},((l.filter λx=>decide (x∈t)).map g).sum=(l.map λx=>if x∈t then g x else 0).sum
 |[]=>rfl
 |x::l=>by
  simp only[List.filter_cons,ι,εr];by_cases h:x∈t;·rw[if_pos (decide_eq_true h),if_pos h,ι,εr,LA]
  ·rw[if_neg (by simpa using h),if_neg h,LA];omega
theorem LH {t:List Int} {g:Int->Int}:∀{l:List Int},nI (λx=>((g x:Int):Rat)*(if x∈t then 1 else 0)) l=(((l.map λx=>if x∈t then g x else 0).sum:Int):Rat)
 |[]=>rfl
 |x::l=>by
  have:=@LH t g l;simp only[nI,this,ι,εr,Rat.intCast_add];congr 1;split<;>simp_all
theorem LI {p:bp}:∀{l:List Int},bV (l.map (oI p))=(l.map λi=>(oI p i).value).sum
 |[]=>rfl
 |x::l=>by
  have:=@LI p l;grind[bV]
section
variable {p:bp} {f t:List Int}
theorem U9 (k:jP f=true) (u:f.length=p.offers.length) (e:ft p.offers.length t) (j:∀i∈t,bj f i.toNat 0≠ -1) (r:∀i∈bF f 1,i∈t) (g:Int->Int):
  (t.map g).sum=((bF f 1).map g).sum+((bF f 0).map λx=>if x∈t then g x else 0).sum:=by
 have l:t.Perm (bF f 1++(bF f 0).filter λx=>decide (x∈t)):=by
  refine(δT (EU e) ?_).2 λx=>?_
  ·rw[List.nodup_append];refine⟨wy.imp λh=>by omega,(wy.sublist δl).imp λh=>by omega,λa s b o m=>?_⟩;grind[mA]
  ·rw[Γ,List.mem_filter,decide_eq_true_eq];constructor
   ·intro c;have v:=e.2 x c;have q:=j x c;have n:=Φ.1 k _ (cO (d:=0) (show x.toNat<f.length by omega));simp only[ζ,decide_eq_true_eq] at n;grind[mA]
   grind
 rw[Ut (l.map g),γb,ζU,LA]
theorem wB (l:List Int) (r:Int):cT p (l.map (oI p)) r=(l.map λi=>eT p r (oI p i)).sum:=by
 unfold cT;rw[δx];rfl
theorem weak (h:iq p f) (s:jP f=true) (z:ft p.offers.length t) (a:gd p (t.map (oI p))=true) (u:∀i∈t,bj f i.toNat 0≠ -1) (A:∀i∈bF f 1,i∈t):((bV (t.map (oI p)):Int):Rat)<=jR p f:=by
 obtain⟨l,E,r⟩:=rZ h;have d:∀g:Int->Int,cz (nF f) (λj=>((g (bj (bF f 0) j 0):Int):Rat)*(if bj (bF f 0) j 0∈t then(1:Rat) else 0))=(((t.map g).sum - ((bF f 1).map g).sum:Int):Rat):=λg=>by
  have e:=@wa (λx=>((g x:Int):Rat)*(if x∈t then(1:Rat) else 0)) (bF f 0);rw[LH] at e;rw[U9 s h.2.1 z u A g];grind
 have q:=asg_holds (n:=nF f) (m:=mF p) (t:=dy p f) q9 Ba (y:=λj=>if bj (bF f 0) j 0∈t then(1:Rat) else 0);have B:(dy p f).value+cz (nF f) (λj=>(dy p f).cs j*(if bj (bF f 0) j 0∈t then(1:Rat) else 0))=((bV (t.map (oI p)) - kT p f:Int):Rat):=by
  grind[dy,dY,EX,kT,LI]
 rw[B] at q;have o:∀v∈(dy p f).basic++(dy p f).free,0<=jM (nF f) (dy p f) (λj=>if bj (bF f 0) j 0∈t then(1:Rat) else 0) v:=λv b=>by
  rcases Γ.1 b with b|b
  ·obtain⟨i,k,rfl⟩:=yw q9 b;rw[px q9 Ba k,A8 k,dY (g:=λj=>((eT p i (oI p (bj (bF f 0) j 0)):Int):Rat)*(if bj (bF f 0) j 0∈t then(1:Rat) else 0)) λj c=>by rw[A7 k c],d λx=>eT p i (oI p x),<-wB,<-wB];have C:=o7.1 a i (by grind[dm]);have w:0<=(dD p i - cT p ((bF f 1).map (oI p)) i) - (cT p (t.map (oI p)) i - cT p ((bF f 1).map (oI p)) i):=by omega
   have D:=E1 w;simp_all
  grind[yv,q9,ou,Ba]
 have:=l.best r q λj c=>o _ (l.perm.mem_iff.1 (List.mem_append_right _ (yu l.wf c)));grind[jR]
end
theorem Va {t:Tb} {n j:Nat} (b:j<n):∀{k:Nat},(∀i,i<k->0<=t.bv i)->(∃i,i<k/\t.bv i=j/\bj (gl t n k) j 0=t.bd i)\/((∀i,i<k->t.bv i≠j)/\bj (gl t n k) j 0=0)
 |0,_=> .inr ⟨λi a=>by omega,by
   grind[gl,cQ]⟩
 |k+1,h=>by
  have e:=h k (by omega);have d:=@Va t n j b k λi a=>h i (by omega);unfold gl;by_cases c:t.bv k<n
  ·rw[if_pos c,sX (by grind[E4])];grind
  grind
section
variable {p:bp} {f:List Int}
noncomputable def qj (p:bp) (f:List Int):Int->Rat:=jM (nF f) (fc p f) λ_=>0
theorem optX_holds (h:iq p f):(dy p f).holds (nF f) (mF p) (qj p f) (fc p f).value:=by
 obtain⟨a,_,_⟩:=rZ h;have b:=asg_holds a.wf a.gV (y:=λ_=>0);rw[dY (g:=λ_=>0) λj _=>by grind,kL] at b;have c:=(a.nJ _ _).1 b;rwa [show(fc p f).value+0=(fc p f).value by grind] at c
theorem LK (h:iq p f) {i:Nat} (b:i<mF p):qj p f ((fc p f).bv i)=(fc p f).bd i:=by
 obtain⟨a,_,_⟩:=rZ h;unfold qj;rw[px a.wf a.gV b,dY (g:=λ_=>0) λj _=>by grind,kL];grind
theorem LL (h:iq p f) {j:Nat} (b:j<nF f):qj p f ((fc p f).fv j)=0:=by
 obtain⟨a,_,_⟩:=rZ h;unfold qj;rw[ou a.wf a.gV b]
theorem E9 (h:iq p f) {v:Int} (a:v∈(dy p f).basic++(dy p f).free):(∃i,i<mF p/\(fc p f).bv i=v)\/∃j,j<nF f/\(fc p f).fv j=v:=by
 obtain⟨b,_,_⟩:=rZ h;rw[<-b.perm.mem_iff,Γ] at a;rcases a with a|a;·exact .inl (yw b.wf a)
 ·exact .inr (yv b.wf a)
theorem LM (h:iq p f) {v:Int} (c:v∈(dy p f).basic++(dy p f).free):0<=qj p f v:=by
 obtain⟨_,b,_⟩:=rZ h;rcases E9 h c with⟨i,a,rfl⟩|⟨j,d,rfl⟩
 ·rw[LK h a];exact b i a
 grind[LL]
theorem LN {j:Nat} (a:j<nF f):(j:Int)∈(dy p f).basic++(dy p f).free:=by
 have:=yu (n:=nF f) (m:=mF p) (t:=dy p f) q9 a;grind[EY]
theorem afd (h:iq p f) {i:Nat} (b:i<mF p):0<=(fc p f).bv i:=by
 obtain⟨a,_,_⟩:=rZ h;have c:=a.perm.mem_iff.1 (δ3 _ (AI a.wf b));grind[yw,q9,aeo,yv,EY]
theorem afe (h:iq p f) {j:Nat} (c:j<nF f):bj (gl (fc p f) (nF f) (mF p)) j 0=qj p f j:=by
 rcases @Va (fc p f) (nF f) j c (mF p) λi b=>afd h b with⟨i,d,a,g⟩|⟨d,a⟩;·grind[LK]
 ·rw[a];rcases E9 h (LN c) with⟨i,b,e⟩|⟨k,l,e⟩<;>grind[E9,LN,LL]
theorem aff (h:iq p f) {j:Nat} (a:j<nF f):qj p f j<=1:=by
 have:=UL h (optX_holds h) (λv b=>LM h b) a;grind[EY]
theorem afg (h:iq p f):(∀i,i<mF p->Sz 1000 ((fc p f).bd i))/\(∀j,j<nF f->Sz 1000 ((fc p f).cs j))/\Sz 1000 (fc p f).value:=have a:=(E0 h).UA (rZ h).1;⟨a.1,a.2.1,a.2.2.1⟩
theorem Vb (q:Rat) (h:q=0\/q=1):Sz 1000 q:=by
 have a:Sz 1 q:=by rcases h with rfl|rfl<;>exact⟨by decide,by decide⟩
 exact a.mono (by omega)
theorem afh (h:iq p f) {v:Int} (a:v∈(dy p f).basic++(dy p f).free):Sz 1000 (qj p f v):=by
 grind[E9,LK,afg,LL,Vb]
noncomputable def dA (p:bp) (f:List Int):List Rat:=jQ p f (nF f)
theorem sa:(dA p f).length=f.length:=yQ
theorem Bi (h:iq p f) (c:jP f=true) {i:Nat} (b:i<f.length):(bj f i 0=1/\bj (dA p f) i 0=1)\/(bj f i 0= -1/\bj (dA p f) i 0=0)\/(bj f i 0=0/\(i:Int)∈bF f 0/\(bF f 0).idxOf (i:Int)<nF f/\bj (dA p f) i 0=qj p f ((bF f 0).idxOf (i:Int))):=by
 have g:=Φ.1 c _ (cO (d:=0) b);simp only[ζ,decide_eq_true_eq] at g;unfold dA;rw[E8 b,Δ];rcases(show bj f i 0=1\/bj f i 0= -1\/bj f i 0=0 by omega) with a|a|a;·simp_all
 ·simp_all[mA]
 ·have e:(i:Int)∈bF f 0:=mA.2 ⟨by omega,by simp_all⟩;have j:(bF f 0).idxOf (i:Int)<nF f:=List.idxOf_lt_length_of_mem e;simp_all[afe]
theorem Fa (h:iq p f) (a:jP f=true) {i:Nat} (b:i<f.length):0<=bj (dA p f) i 0/\bj (dA p f) i 0<=1/\Sz 1000 (bj (dA p f) i 0):=by
 rcases Bi h a b with⟨_,e⟩|⟨_,e⟩|⟨_,_,c,e⟩;all_goals grind[Vb,LM,LN,aff,afh]
theorem tc (h:iq p f) (c:jP f=true) {i:Nat} (b:i<f.length) (d:0<bj (dA p f) i 0) (a:bj (dA p f) i 0<1):bj f i 0=0:=by
 grind[Bi]
def eA (x:List Rat):List Int:=(dS x.length).filter λi=>decide (0<bj x i.toNat 0)
theorem yR {x:List Rat} {i:Int}:i∈eA x↔(0<=i/\i<x.length)/\0<bj x i.toNat 0:=by
 simp_all[eA,rW]
theorem Vd {x:List Rat}:ft x.length (eA x):=⟨A0.sublist δl,λi a=>(yR.1 a).1⟩
def mV (x:List Rat):Bool:=x.all λq=>decide (q.den=1)
theorem afi {q:Rat} (h:q.den=1):q=(q.num:Rat):=by
 grind[Rat.mkRat_self,Rat.mkRat_one]
theorem afj {q:Rat} (c:q.den=1) (b:0<=q) (a:q<=1):q=0\/q=1:=by
 rw[afi c] at b a ⊢;have f:0<=q.num:=by exact_mod_cast b
 have d:q.num<=1:=by exact_mod_cast a
 rcases(show q.num=0\/q.num=1 by omega) with e|e<;>simp_all
theorem afk {t:List Int} (a:jP f=true) (c:f.length=p.offers.length) (h:ft p.offers.length t) (b:∀i∈t,bj f i.toNat 0≠ -1) (d:∀i∈bF f 1,i∈t) (g:Int->Int):cz (nF f) (λj=>((g (bj (bF f 0) j 0):Int):Rat)*(if bj (bF f 0) j 0∈t then(1:Rat) else 0))=(((t.map g).sum - ((bF f 1).map g).sum:Int):Rat):=by
 have e:=@wa (λx=>((g x:Int):Rat)*(if x∈t then(1:Rat) else 0)) (bF f 0);rw[LH] at e;rw[U9 a c h b d g];grind
theorem Ve (h:iq p f) (t:jP f=true) (F:mV (dA p f)=true):gd p ((eA (dA p f)).map (oI p))=true/\((bV ((eA (dA p f)).map (oI p)):Int):Rat)=jR p f:=by
 have n:=h.2.1;have z:=@sa p f;have q:∀i:Nat,i<f.length->bj (dA p f) i 0=0\/bj (dA p f) i 0=1:=λi o=>by
  obtain⟨O,J,_⟩:=Fa h t o;have:=Φ.1 F _ (cO (d:=0) (show i<(dA p f).length by omega));simp_all[afj]
 have B:ft p.offers.length (eA (dA p f)):=by
  grind[Vd]
 have A:∀i∈eA (dA p f),bj f i.toNat 0≠ -1:=λi x K=>by
  grind[yR,Bi]
 have D:∀i∈bF f 1,i∈eA (dA p f):=λi x=>by
  grind[mA,yR,Bi]
 have G:∀j,j<nF f->(if bj (bF f 0) j 0∈eA (dA p f) then(1:Rat) else 0)=qj p f ((dy p f).fv j):=λj c=>by
  obtain⟨C,L⟩:=yM h c;have E:(bF f 0).idxOf (bj (bF f 0) j 0)=j:=qd (wy.imp λh=>by omega) c;have M:((((bj (bF f 0) j 0).toNat:Nat)):Int)=bj (bF f 0) j 0:=by omega
  have e:bj (dA p f) (bj (bF f 0) j 0).toNat 0=qj p f j:=by
   grind[Bi]
  rw[EY c,<-e];rcases q (bj (bF f 0) j 0).toNat (by omega) with l|l;·simp_all[yR]
  ·rw[l,if_pos];grind[yR]
 obtain⟨v,w⟩:=optX_holds h;have k:=afk t n B A D;refine⟨o7.2 λy b=>?_,?_⟩
 ·obtain⟨r,m⟩:∃r:Int,r=(y:Int):=⟨_,rfl⟩;rw[<-m] at b ⊢;have I:0<=r:=by omega
  have a:r.toNat<mF p:=by unfold dm at b;grind
  have s:=v r.toNat a;rw[dY (g:=λj=>((eT p r (oI p (bj (bF f 0) j 0)):Int):Rat)*(if bj (bF f 0) j 0∈eA (dA p f) then(1:Rat) else 0)) λj c=>by grind[A7],k λi=>eT p r (oI p i),A8 a,show((r.toNat:Nat):Int)=r by omega] at s;have N:=LM h (δ3 _ (AI q9 a));rw[<-wB,<-wB] at s;have l:((cT p ((eA (dA p f)).map (oI p)) r - cT p ((bF f 1).map (oI p)) r:Int):Rat)<=((dD p r - cT p ((bF f 1).map (oI p)) r:Int):Rat):=by grind
  have H:cT p ((eA (dA p f)).map (oI p)) r - cT p ((bF f 1).map (oI p)) r<=dD p r - cT p ((bF f 1).map (oI p)) r:=by exact_mod_cast l
  omega
 ·have u:(dy p f).value=0:=rfl;rw[u,dY (g:=λj=>(((oI p (bj (bF f 0) j 0)).value:Int):Rat)*(if bj (bF f 0) j 0∈eA (dA p f) then(1:Rat) else 0)) λj c=>by grind[EX],k λi=>(oI p i).value] at w;grind[jR,kT,LI]
end
abbrev rb:=Int×(Int×(Int×(Int×List bP)))
@[reducible] def ek:bn:=.pair (.i .i64) (.pair (.i .i64) (.pair (.i .i64) (.pair (.i .i64) (.bK sF))))
def zN:rb:=(0,(0,(0,(0,[]))))
def Fb:rb:=(3,(0,(0,(0,[]))))
noncomputable def LO (p:bp) (f:List Int):rb:=(1,(0,(0,(0,fL (yP p f)))))
def km (k o:Int):rb:=(2,(k,(o,(o+1,[]))))
structure cK where
 ch:List Int
 val:Int
 found:Bool
 prf:List rb
 err:Int
def dT (en:Int->Bool) (s:cK) (a:Alloc):cK:=if s.val<a.value then⟨a.chosen,a.value,s.found||en a.value,s.prf,s.err⟩ else s
def mW (q:Rat):Rat:=if q<0 then -q else q
def je (x:List Rat):Nat->Option (Int×Rat)
 |0=>none
 |k+1=>if 0<bj x k 0/\bj x k 0<1 then(match je x k with
   |none=>some ((k:Int),mW (bj x k 0 - 1 / 2))
   |some (i,l)=>if mW (bj x k 0 - 1 / 2)<l then some ((k:Int),mW (bj x k 0 - 1 / 2)) else some (i,l)) else je x k
def jA (x:List Rat):Option Int:=(je x x.length).map (·.1)
theorem LP {x:List Rat}:∀{k:Nat} {i:Int} {l:Rat},je x k=some (i,l)->(0<=i/\i<k)/\(0<bj x i.toNat 0/\bj x i.toNat 0<1)/\l=mW (bj x i.toNat 0 - 1 / 2)
 |0,i,l,h=>by cases h;|k+1,i,l,h=>by
  unfold je at h;have b:some ((k:Int),mW (bj x k 0 - 1 / 2))=some (i,l)->(0<bj x k 0/\bj x k 0<1)->(0<=i/\i<((k+1:Nat):Int))/\(0<bj x i.toNat 0/\bj x i.toNat 0<1)/\l=mW (bj x i.toNat 0 - 1 / 2):=λh f=>by
   grind
  have a:je x k=some (i,l)->(0<=i/\i<((k+1:Nat):Int))/\(0<bj x i.toNat 0/\bj x i.toNat 0<1)/\l=mW (bj x i.toNat 0 - 1 / 2):=λh=>by
   obtain⟨c,d,e⟩:=LP h;grind
  grind
theorem Vf {x:List Rat}:∀{k:Nat},je x k=none->∀i,i<k->¬(0<bj x i 0/\bj x i 0<1)
 |0,_,i,a=>by omega;|k+1,h,i,a=>by
  unfold je at h;split at h;·grind
  ·rename_i b;by_cases e:i=k;·simp_all
   ·exact Vf h i (by omega)
theorem td {x:List Rat} {k:Int} (h:jA x=some k):(0<=k/\k<x.length)/\0<bj x k.toNat 0/\bj x k.toNat 0<1:=by
 unfold jA at h;obtain⟨⟨i,l⟩,b,a⟩:=Option.map_eq_some_iff.1 h;simp only at a;subst a;obtain⟨c,d,_⟩:=LP b;simp_all
theorem afl {x:List Rat} (h:jA x=none):∀i,i<x.length->¬(0<bj x i 0/\bj x i 0<1):=Vf (Option.map_eq_none_iff.1 h)
noncomputable def pD (p:bp) (f:List Int):Alloc:=⟨eA (dA p f),bV ((eA (dA p f)).map (oI p))⟩
noncomputable def dj (p:bp) (en:Int->Bool) (s:cK) (f:List Int):cK:=if((s.val+1:Int):Rat)<=jR p f/\mV (dA p f)=true then dT en s (pD p f) else s
def gv (s:cK) (a k:Int):cK:={s with prf:=(s.prf++[zN,zN]).set a.toNat (km k s.prf.length)}
noncomputable def fw (p:bp) (en:Int->Bool) (most:Int) (b:cK->Int->List Int->cK) (s:cK) (a:Int) (f:List Int):cK:=
 if s.err≠0\/s.found=true then s
 else if iD p f=false then {s with prf:=s.prf.set a.toNat Fb}
 else if jR p f<(((dj p en s f).val+1:Int):Rat) then {dj p en s f with prf:=(dj p en s f).prf.set a.toNat (LO p f)}
 else match jA (dA p f) with
  |none=>{dj p en s f with err:=12}
  |some k=>if most<(dj p en s f).prf.length+2 then {dj p en s f with err:=12}
   else b (b (gv (dj p en s f) a k) ((dj p en s f).prf.length+1) (f.set k.toNat 1)) (dj p en s f).prf.length (f.set k.toNat (-1))
noncomputable def dE (p:bp) (en:Int->Bool) (most:Int):Nat->cK->Int->List Int->cK
 |0=>fw p en most λs _ _=>s
 |n+1=>fw p en most (dE p en most n)
structure eW (p:bp) (f:List Int):Prop where
 c:bC p=0
 l:f.length=p.offers.length
 r:jP f=true
theorem eW.ok {p:bp} {f:List Int} (h:eW p f) (a:iD p f=true):iq p f:=⟨h.c,h.l,a⟩
theorem eW.e {p:bp} {f:List Int} (h:eW p f):kS p f=0:=by
 unfold kS;rw[if_neg (by simp[h.c]),if_neg (by simp[h.l]),if_pos h.r]
theorem eW.jS {p:bp} {f:List Int} (h:eW p f):jS p f=iD p f:=by
 unfold Go.Vi.jS;rw[h.e];simp
theorem Vg {f:List Int} {k:Nat} {d:Int} (h:jP f=true) (a: -1<=d/\d<=1):jP (f.set k d)=true:=by
 grind[jP]
theorem eW.set {p:bp} {f:List Int} (h:eW p f) {k:Nat} {d:Int} (a: -1<=d/\d<=1):eW p (f.set k d):=⟨h.c,by rw[γe];exact h.l,Vg h.r a⟩
theorem mC {f:List Int} {k d:Int} (i:0<=k/\k<f.length) (l:bj f k.toNat 0=0) (g:d≠0):nF f=nF (f.set k.toNat d)+1:=by
 have c:(bF f 0).Perm (k::bF (f.set k.toNat d) 0):=by
  refine(δT (wy.imp λh=>by omega) ?_).2 λx=>?_
  ·rw[List.nodup_cons];refine⟨λj=>?_,wy.imp λh=>by omega⟩;simp_all[mA,sX]
  ·rw[List.mem_cons,mA,mA,γe];constructor
   ·rintro⟨a,b⟩;by_cases e:x=k;·exact .inl e
    ·exact .inr ⟨a,by rw[sX (by omega),if_neg (by omega)];exact b⟩
   grind[sX]
 have:=c.length_eq;omega
theorem Fe {en:Int->Bool} {s:cK} {a:Alloc}:(dT en s a).prf=s.prf/\(dT en s a).err=s.err/\s.val<=(dT en s a).val/\((dT en s a).val=s.val\/(dT en s a).val=a.value)/\((dT en s a).ch=s.ch\/(dT en s a).ch=a.chosen):=by
 grind[dT]
theorem Ff {p:bp} {en:Int->Bool} {s:cK} {f:List Int}:(dj p en s f).prf=s.prf/\(dj p en s f).err=s.err/\s.val<=(dj p en s f).val/\((dj p en s f).val=s.val\/(dj p en s f).val=(pD p f).value)/\((dj p en s f).ch=s.ch\/(dj p en s f).ch=(pD p f).chosen):=by
 grind[dj,Fe]
theorem afm {x:List Rat}:(eA x).length<=x.length:=by
 have:=List.length_filter_le (λi:Int=>decide (0<bj x i.toNat 0)) (dS x.length);rw[jy] at this;exact this
theorem afn {p:bp} {f:List Int} (b:f.length=p.offers.length):∀x∈(eA (dA p f)).map (oI p),x∈p.offers:=λx a=>by
 obtain⟨i,c,rfl⟩:=γg.1 a;have:=(yR.1 c).1;rw[sa,b] at this;exact cO (by omega)
theorem Vh {p:bp} {f:List Int} (h:eW p f):0<=(pD p f).value/\(pD p f).value<=160000000/\(pD p f).chosen.length<=160:=by
 have a:=dn h.c;have b:=@sP p a ((eA (dA p f)).map (oI p)) (afn h.l);have d:=@afm (dA p f);rw[sa,h.l] at d;have e:=a.2.1;rw[γB] at b;refine⟨b.1,?_,?_⟩
 ·show bV _<=_;omega
 ·show(eA (dA p f)).length<=160;omega
theorem Vj {p:bp} (a:bC p=0) {c:List Int} (h:ft p.offers.length c):dc p c=0↔gd p (c.map (oI p))=true:=by
 simp_all[EV,jo,eE,dc]
theorem yS {p:bp} (a:bC p=0) {c:List Int} (h:ft p.offers.length c):ez p c=bV (c.map (oI p)):=by
 simp_all[eE,EV,ez]
theorem sd {p:bp} {en:Int->Bool} {most:Int}:∀{n:Nat} {s:cK} {a:Int} {f:List Int},eW p f->s.prf.length<=(dE p en most n s a f).prf.length/\((dE p en most n s a f).prf.length<=most\/(dE p en most n s a f).prf.length=s.prf.length)/\s.val<=(dE p en most n s a f).val/\((dE p en most n s a f).val=s.val\/(dE p en most n s a f).val<=160000000)/\((dE p en most n s a f).ch=s.ch\/(dE p en most n s a f).ch.length<=160)/\((dE p en most n s a f).err=s.err\/(dE p en most n s a f).err=12):=by
 have d:∀{b:cK->Int->List Int->cK},(∀{s:cK} {a:Int} {f:List Int},eW p f->s.prf.length<=(b s a f).prf.length/\((b s a f).prf.length<=most\/(b s a f).prf.length=s.prf.length)/\s.val<=(b s a f).val/\((b s a f).val=s.val\/(b s a f).val<=160000000)/\((b s a f).ch=s.ch\/(b s a f).ch.length<=160)/\((b s a f).err=s.err\/(b s a f).err=12))->
   ∀{s:cK} {a:Int} {f:List Int},eW p f->s.prf.length<=(fw p en most b s a f).prf.length/\((fw p en most b s a f).prf.length<=most\/(fw p en most b s a f).prf.length=s.prf.length)/\s.val<=(fw p en most b s a f).val/\((fw p en most b s a f).val=s.val\/(fw p en most b s a f).val<=160000000)/\((fw p en most b s a f).ch=s.ch\/(fw p en most b s a f).ch.length<=160)/\((fw p en most b s a f).err=s.err\/(fw p en most b s a f).err=12):=by
  intro b c s a f h;obtain⟨v,j,E,l,r⟩:=@Ff p en s f;obtain⟨H,A,L⟩:=Vh h;have w:(dj p en s f).ch=s.ch\/(dj p en s f).ch.length<=160:=r.imp id λh=>by simp_all
  have x:(dj p en s f).val=s.val\/(dj p en s f).val<=160000000:=l.imp id λh=>by omega
  unfold fw;split;·simp_all
  split;·simp_all
  split;·simp_all
  split;·simp_all
  rename_i k J;split;·simp_all
  rename_i o;have F:(gv (dj p en s f) a k).prf.length=s.prf.length+2:=by
   simp_all[gv]
  obtain⟨D,K,u,z,e,t⟩:=@c (gv (dj p en s f) a k) ((dj p en s f).prf.length+1) (f.set k.toNat 1) (h.set (by omega));obtain⟨B,C,G,I,g,M⟩:=@c (b (gv (dj p en s f) a k) ((dj p en s f).prf.length+1) (f.set k.toNat 1)) (dj p en s f).prf.length (f.set k.toNat (-1)) (h.set (by omega));have i:(gv (dj p en s f) a k).val=(dj p en s f).val:=rfl;have m:(gv (dj p en s f) a k).ch=(dj p en s f).ch:=rfl;have q:(gv (dj p en s f) a k).err=(dj p en s f).err:=rfl;rw[v] at o;rw[i] at u z;rw[m] at e;rw[q,j] at t;refine⟨by omega,.inl (by omega),by omega,by omega,?_,?_⟩
  ·rcases g with g|g
   ·rw[g];rcases e with e|e<;>simp_all
   omega
  omega
 intro n;induction n with
 |zero=>exact d λ{s a f} _=>⟨φ _,.inr rfl,Int.le_refl _,.inl rfl,.inl rfl,.inl rfl⟩;|succ n y=>exact d λh=>y h
inductive mD (p:bp) (v:Int) (t:List rb):Nat->List Int->Nat->Nat->Prop
 |bnd {a:Nat} {f:List Int} {lo:Nat}:t[a]?=some (LO p f)->iD p f=true->jR p f<((v+1:Int):Rat)->mD p v t a f lo lo
 |con {a:Nat} {f:List Int} {lo:Nat}:t[a]?=some Fb->iD p f=false->mD p v t a f lo lo
 |Bj {a:Nat} {f:List Int} {lo mid hi:Nat} {k:Int}:t[a]?=some (km k lo)->a<lo->(0<=k/\k<f.length)->bj f k.toNat 0=0->mD p v t (lo+1) (f.set k.toNat 1) (lo+2) mid->mD p v t lo (f.set k.toNat (-1)) mid hi->mD p v t a f lo hi
section
variable {p:bp} {v v':Int} {t t':List rb} {a lo hi:Nat} {f:List Int}
theorem mD.le (h:mD p v t a f lo hi):lo<=hi:=by
 induction h with
 |bnd _ _ _=>omega;|con _ _=>omega;|Bj _ _ _ _ _ _ b c=>omega
theorem mD.mono (h:mD p v t a f lo hi) (q:v<=v') (e:∀i,i=a\/(lo<=i/\i<hi)->t'[i]?=t[i]?):mD p v' t' a f lo hi:=by
 induction h with
 |bnd c b d=>
  refine .bnd (by simp_all) b ?_;have:((v+1:Int):Rat)<=((v'+1:Int):Rat):=by exact_mod_cast (show v+1<=v'+1 by omega)
  grind;|con c b=>exact .con (by simp_all) b;|Bj c b d l k g m j=>
  have o:=k.le;have n:=g.le;exact .Bj (by simp_all) b d l (m λi hi=>e i (by omega)) (j λi hi=>e i (by omega))
def Fg (f:List Int) (l:List Int):Prop:=(∀i∈l,bj f i.toNat 0≠ -1)/\∀i∈bF f 1,i∈l
theorem Vk {l:List Int} {k d:Int} (g:0<=k/\k<f.length) (m:bj f k.toNat 0=0) (e:∀i∈l,0<=i) (h:Fg f l) (j:(d=1/\k∈l)\/(d= -1/\k∉l)):Fg (f.set k.toNat d) l:=by
 obtain⟨b,c⟩:=h;refine⟨λi a=>?_,λi a=>?_⟩<;>grind[sX,mA]
theorem afo {l m:List Int} (e:bC p=0) (f:∀i∈l,0<=i/\i<p.offers.length) (q:m.Nodup) (j:∀i∈m,i∈l) (o:l.Nodup) (h:gd p (l.map (oI p))=true):gd p (m.map (oI p))=true:=by
 refine o7.2 λr b=>?_;have d:=o7.1 h r b;have a:l.Perm (m++l.filter λi=>decide (i∉m)):=by
  grind
 have g:cT p (l.map (oI p)) r=cT p (m.map (oI p)) r+cT p ((l.filter λi=>decide (i∉m)).map (oI p)) r:=by
  rw[wB,wB,wB,Ut (a.map _),γb,ζU]
 have n:=@uh p r ((l.filter λi=>decide (i∉m)).map (oI p)) λx c=>by
  obtain⟨i,k,rfl⟩:=γg.1 c;simp_all[pB]
 omega
theorem mD.sound (h:mD p v t a f lo hi) (e:eW p f) {l:List Int} (d:ft p.offers.length l) (b:gd p (l.map (oI p))=true) (g:Fg f l):bV (l.map (oI p))<=v:=by
 induction h with
 |bnd o n m=>
  have j:=weak (e.ok n) e.r d b g.1 g.2;have s:((bV (l.map (oI p)):Int):Rat)<((v+1:Int):Rat):=by grind
  have u:bV (l.map (oI p))<v+1:=by exact_mod_cast s
  omega;|con o n=>
  exfalso;have:=afo e.c d.2 (wy.imp λh=>by omega) g.2 (EU d) b;grind[iD];|@Bj a f lo y hi k o n m j s u x w=>
  by_cases q:k∈l;·exact x (e.set (by omega)) (Vk m j (λi hi=>(d.2 i hi).1) g (.inl ⟨rfl,q⟩))
  ·exact w (e.set (by omega)) (Vk m j (λi hi=>(d.2 i hi).1) g (.inr ⟨rfl,q⟩))
end
theorem Vl {p:bp} {en:Int->Bool} {most:Int}:∀{n:Nat} {s:cK} {a:Int} {f:List Int},eW p f->nF f<=n->(0<=a/\a<s.prf.length)->(dE p en most n s a f).err=0->(dE p en most n s a f).found=false->
  mD p (dE p en most n s a f).val (dE p en most n s a f).prf a.toNat f s.prf.length (dE p en most n s a f).prf.length/\(∀i:Nat,i<s.prf.length->i≠a.toNat->(dE p en most n s a f).prf[i]?=s.prf[i]?)/\s.err=0/\s.found=false:=by
 have y:∀{b:cK->Int->List Int->cK} {s:cK} {a:Int} {f:List Int},eW p f->(0<=a/\a<s.prf.length)->
   (∀{s:cK} {a:Int} {g:List Int},eW p g->nF f=nF g+1->(0<=a/\a<s.prf.length)->s.prf.length<=(b s a g).prf.length/\s.val<=(b s a g).val/\((b s a g).err=0->(b s a g).found=false->mD p (b s a g).val (b s a g).prf a.toNat g s.prf.length (b s a g).prf.length/\(∀i:Nat,i<s.prf.length->i≠a.toNat->(b s a g).prf[i]?=s.prf[i]?)/\s.err=0/\s.found=false))->
   (fw p en most b s a f).err=0->(fw p en most b s a f).found=false->mD p (fw p en most b s a f).val (fw p en most b s a f).prf a.toNat f s.prf.length (fw p en most b s a f).prf.length/\(∀i:Nat,i<s.prf.length->i≠a.toNat->(fw p en most b s a f).prf[i]?=s.prf[i]?)/\s.err=0/\s.found=false:=by
  intro b s a f t C q e c;obtain⟨D,e2,e3,e4,e5⟩:=@Ff p en s f;have B:a.toNat<s.prf.length:=by omega
  unfold fw at e c ⊢;split at e;·simp_all
  rename_i x;have G:s.err=0/\s.found=false:=by simpa using x
  rw[if_neg x] at c ⊢;split at e
  ·rename_i m;rw[if_pos m];refine⟨?_,λi u j=>?_,G⟩
   ·rw[γe];exact .con (by simp_all) m
   ·show(s.prf.set a.toNat Fb)[i]?=_;rw[δL (λh=>j h.symm)]
  rename_i m;rw[if_neg m] at c ⊢;have O:iD p f=true:=by simpa using m
  split at e
  ·rename_i w;rw[if_pos w];refine⟨?_,λi u j=>?_,G⟩
   ·rw[γe,D];refine .bnd ?_ O w;simp_all
   ·show((dj p en s f).prf.set a.toNat _)[i]?=_;rw[δL (λh=>j h.symm),D]
  rename_i w;rw[if_neg w] at c ⊢;cases A:jA (dA p f) with
  |none=>simp_all;|some k=>
  rw[A] at e c;simp only at e c ⊢;split at e;·simp at e
  rename_i Q;rw[if_neg Q] at c ⊢;obtain⟨l,K,L⟩:=td A;rw[sa] at l;have v:bj f k.toNat 0=0:=tc (t.ok O) t.r (by omega) K L;have n1:=mC l v (d:=1) (by omega);have Y:=mC l v (d:= -1) (by omega);have T:eW p (f.set k.toNat 1):=t.set (by omega);have f2:eW p (f.set k.toNat (-1)):=t.set (by omega);have S:(gv (dj p en s f) a k).prf.length=s.prf.length+2:=by
   simp_all[gv]
  rw[D] at e c ⊢;obtain⟨l1,v1,t1⟩:=@q (gv (dj p en s f) a k) ((s.prf.length:Int)+1) (f.set k.toNat 1) T n1 (by omega);generalize R:b (gv (dj p en s f) a k) ((s.prf.length:Int)+1) (f.set k.toNat 1)=I at*;obtain⟨l2,V,Z⟩:=@q I (s.prf.length:Int) (f.set k.toNat (-1)) f2 Y (by omega);generalize X:b I (s.prf.length:Int) (f.set k.toNat (-1))=P at*;obtain⟨N,F,U,w2⟩:=Z e c;obtain⟨J,H,w3,w4⟩:=t1 U w2;have M:∀i:Nat,i<s.prf.length+2->(gv (dj p en s f) a k).prf[i]?=if i=a.toNat then some (km k s.prf.length) else(s.prf++[zN,zN])[i]?:=λi u=>by
   unfold gv;simp only[D];rw[List.getElem?_set];by_cases h:a.toNat=i;·simp_all
   ·rw[if_neg h,if_neg (λm=>h m.symm)]
  have E:((s.prf.length:Int)).toNat=s.prf.length:=by omega
  have z:((s.prf.length:Int)+1).toNat=s.prf.length+1:=by omega
  rw[E] at N F;rw[z] at J H;rw[S] at J H;have o:∀i:Nat,i<s.prf.length->P.prf[i]?=(gv (dj p en s f) a k).prf[i]?:=λi u=>by rw[F i (by omega) (by omega),H i (by omega) (by omega)]
  refine⟨.Bj (k:=k) (mid:=I.prf.length) ?_ B l v ?_ N,λi u j=>?_,G⟩;·rw[o _ B,M _ (by omega),if_pos rfl]
  ·exact J.mono V λi u=>F i (by omega) (by omega)
  ·rw[o i u,M i (by omega),if_neg j,List.getElem?_append_left u]
 intro n;induction n with
 |zero=>
  intro s a f t W C e c;exact y t C (λ{s a g} _ h _=>by omega) e c;|succ n ih=>
  intro s a f t W C e c;refine y t C (λ{s a g} x m w=>?_) e c;have A:=@sd p en most n s a g x;exact⟨A.1,A.2.2.1,λe c=>ih x (by omega) w e c⟩
theorem Vm {p:bp} {en:Int->Bool} {most:Int} {G:List Int->Int->Bool->Prop} (u:∀c w b q w',G c w b->dc p q=0->ez p q=w'->w<w'->G q w' (b||en w')):
  ∀{n:Nat} {s:cK} {a:Int} {f:List Int},eW p f->G s.ch s.val s.found->G (dE p en most n s a f).ch (dE p en most n s a f).val (dE p en most n s a f).found:=by
 have k:∀{d:cK->Int->List Int->cK},(∀{s:cK} {a:Int} {f:List Int},eW p f->G s.ch s.val s.found->G (d s a f).ch (d s a f).val (d s a f).found)->
   ∀{s:cK} {a:Int} {f:List Int},eW p f->G s.ch s.val s.found->G (fw p en most d s a f).ch (fw p en most d s a f).val (fw p en most d s a f).found:=by
  intro d e s a f i j;unfold fw;split;·exact j
  split;·exact j
  rename_i t;have y:iD p f=true:=by simp_all
  have m:G (dj p en s f).ch (dj p en s f).val (dj p en s f).found:=by
   unfold dj;split
   ·rename_i A;unfold dT;split
    ·rename_i o;obtain⟨z,B⟩:=Ve (i.ok y) i.r A.2;have g:ft p.offers.length (eA (dA p f)):=by
      have:=@Vd (dA p f);rw[sa,i.l] at this;exact this
     refine u _ _ _ _ _ j ?_ ?_ o;·exact(Vj i.c g).2 z
     ·exact yS i.c g
    ·exact j
   ·exact j
  split;·exact m
  split;·exact m
  split;·exact m
  ·exact e (i.set (by omega)) (e (i.set (by omega)) m)
 intro n;induction n with
 |zero=>exact k λ_ h=>h;|succ n x=>exact k λv t=>x v t
theorem two_pow_pos (n:Nat):1<=2^n:=Nat.one_le_two_pow
theorem Vn {p:bp} {en:Int->Bool} {most:Int}:∀{n:Nat} {s:cK} {a:Int} {f:List Int},eW p f->nF f<=n->s.err=0->((s.prf.length+2^(nF f+1):Nat):Int)<=most+2->(dE p en most n s a f).err=0/\(dE p en most n s a f).prf.length+2<=s.prf.length+2^(nF f+1):=by
 have l:∀{c:cK->Int->List Int->cK} {s:cK} {a:Int} {f:List Int},eW p f->s.err=0->((s.prf.length+2^(nF f+1):Nat):Int)<=most+2->
   (∀{s:cK} {a:Int} {g:List Int},eW p g->nF f=nF g+1->s.err=0->((s.prf.length+2^(nF g+1):Nat):Int)<=most+2->(c s a g).err=0/\(c s a g).prf.length+2<=s.prf.length+2^(nF g+1))->
   (fw p en most c s a f).err=0/\(fw p en most c s a f).prf.length+2<=s.prf.length+2^(nF f+1):=by
  intro c s a f b t u C;obtain⟨L,J,T,X,e5⟩:=@Ff p en s f;have F:2<=2^(nF f+1):=by grind
  unfold fw;split;·omega
  split;·simp_all
  rename_i E N;have x:iD p f=true:=by simp_all
  split;·simp_all
  rename_i v;cases A:jA (dA p f) with
  |none=>
   exfalso;apply v;have o:mV (dA p f)=true:=by
    unfold mV;rw[Φ];intro q H;obtain⟨i,B,rfl⟩:=δc H;have w:=afl A i B;obtain⟨M,I,_⟩:=Fa (b.ok x) b.r (show i<f.length by grind[sa]);rw[cQ B] at w M I;rcases(show(dA p f)[i]=0\/(dA p f)[i]=1 by grind) with e|e<;>simp_all
   obtain⟨Y,K⟩:=Ve (b.ok x) b.r o;have P:((pD p f).value:Rat)=jR p f:=K;by_cases D:((s.val+1:Int):Rat)<=jR p f
   ·have O:s.val<(pD p f).value:=by
     rw[<-P] at D;have:s.val+1<=(pD p f).value:=by exact_mod_cast D
     omega
    have:(dj p en s f).val=(pD p f).value:=by
     simp_all[dj,dT]
    grind
   grind;|some k=>
   simp only;obtain⟨j,z,y⟩:=td A;rw[sa] at j;have m:bj f k.toNat 0=0:=tc (b.ok x) b.r (by omega) z y;have n1:=mC j m (d:=1) (by omega);have n2:=mC j m (d:= -1) (by omega);have W:eW p (f.set k.toNat 1):=b.set (by omega);have Z:eW p (f.set k.toNat (-1)):=b.set (by omega);have V:(gv (dj p en s f) a k).prf.length=s.prf.length+2:=by
    grind[gv]
   have U:2^(nF f+1)=2^(nF (f.set k.toNat 1)+1)+2^(nF (f.set k.toNat 1)+1):=by
    grind
   have ne:nF (f.set k.toNat (-1))=nF (f.set k.toNat 1):=by omega
   have Q:2<=2^(nF (f.set k.toNat 1)+1):=by omega
   rw[if_neg (by rw[L];omega)];have S:(gv (dj p en s f) a k).err=0:=by show(dj p en s f).err=0;rw[J,t]
   grind
 intro n;induction n with
 |zero=>
  intro s a f b G t u;exact l b t u λ{s a g} _ h _ _=>by omega;|succ n R=>
  intro s a f b G t u;exact l b t u λ{s a g} E N v w=>R E (by omega) v w
def Fh (p:iN) (lo:Nat) (Λ:Nat->cC):IR->cq->(cq->Prop)->Prop
 | .skip,b,K=>K b
 | .seq x y,b,K=>wpS p lo x Λ b λc a=>match c with
  | .norm=>Fh p lo Λ y a K
  |_=>False
 |_,_,_=>False
def Bl (p:iN) (Λ:Nat->cC) (F:fh) (args:List SV) (o:bX) (Q:SV->bX->Prop):Prop:=
 match F.body with
 | .tn g c d a b=>Fh p o.length Λ a ⟨np 0 args,o⟩ λe=>wpS p e.o.length b Λ ⟨(d,.ud)::e.env,e.o⟩ λi j=>if rk i=true then
   (match p.it g with
    |some G=>if(c.map (jj e.env)).length=G.params/\G.res.isEmpty=true then wpS p j.o.length G.body (λn=>Λ (1000+n)) ⟨np 0 (c.map (jj e.env)),j.o⟩ λf h=>if rk f=true then
      nZ ⟨j.env,h.o⟩ F.res λr=>if r.bZ o.length&&h.o.all (λx=>x.bZ o.length)&&decide (o.length<=h.o.length) then Q r (h.o.take o.length) else False
     else False else False
    |none=>False) else False
 |_=>False
section
variable {P:Program} {T:Tab} {p:iN} {Λ:Nat->cC}
theorem afp (i:pR T.K p.C) (j:∀f F,p.it f=some F->T.fn f=some F) {lo:Nat}:∀{a:IR} {st:cq} {K:cq->Prop},Fh p lo Λ a st K->∃s0:cq,(∃N,∀n,N<=n->rj (exec T .plain n lo) a st.g=some s0.g)/\K s0:=by
 intro a;induction a with
 |skip=>intro st K h;exact⟨st,⟨0,λ_ _=>rfl⟩,h⟩;|seq x y _ d=>
  intro st K h;simp only[Fh] at h;obtain⟨c,s,⟨N,e⟩,r,rfl,b⟩:=vE i j h;cases c with
  |norm=>
   obtain⟨s0,⟨M,m⟩,k⟩:=d b;refine⟨s0,⟨N+M,λn o=>?_⟩,k⟩;simp only[rj,e n n (by omega) (by omega)];grind;|exit q=>exact b.elim;|ret=>exact b.elim;|goto l=>exact b.elim
 |_=>intro st K h;exact h.elim
theorem afq (J:ky P T) (u:pR T.K p.C) (n:∀f F,p.it f=some F->T.fn f=some F) {f:FuncId} {F:fh} (S:T.fn f=some F) {args:List SV} {o:bX} {r:AV} {o':Store} (V:T.K f (gL args) (gO o) true=none) (B:args.length=F.params)
  {Q:SV->bX->Prop} (A:∀v s,Q v s->v.g=r/\gO s=o') (h:Bl p Λ F args o Q):gJ P f=true/\lv P f (gL args) (gO o) r o':=by
 unfold Bl at h;split at h
 ·rename_i g a d ia ib Z;obtain⟨b,h1,h⟩:=afp u n h;obtain⟨O,U,h2,c,rfl,h⟩:=vE u n h;split at h
  ·rename_i k;split at h
   ·rename_i G hG;split at h
    ·rename_i Y;obtain⟨D,I,h3,i,rfl,h⟩:=vE u n h;split at h
     ·rename_i j;obtain⟨t,k1,m⟩:=xB h;split at m
      ·rename_i y;simp only[ζ,decide_eq_true_eq,Φ] at y;obtain⟨⟨a2,L⟩,N⟩:=y;have R:(cq.mk (np 0 args) o).g=⟨gZ 0 (gL args),gO o⟩:=by simp[cq.g,vF]
       have w:(gO o).length=o.length:=ob o;have a1:b.g.o.length=b.o.length:=ob b.o;have a0:c.g.o.length=c.o.length:=ob c.o;have H:a.map (eC b.g.env)=gL (a.map (jj b.env)):=by
        rw[fY,δx];refine γ2 λx _=>?_;show eC (gE b.env) x=_;grind[zG]
       have z:(cq.mk ((d,.ud)::b.env) b.o).g=⟨(d,.ud)::b.g.env,b.g.o⟩:=by simp[cq.g,gE,SV.g]
       have E:(cq.mk (np 0 (a.map (jj b.env))) c.o).g=⟨gZ 0 (gL (a.map (jj b.env))),c.g.o⟩:=by simp[cq.g,vF]
       have W:(cq.mk c.env i.o).g=⟨c.g.env,i.g.o⟩:=rfl;have q:∀x∈gO i.o,x.bZ o.length=true:=by
        grind[gO,CS]
       have l:finish true (gO o).length t.g i.g.o=some (r,o'):=by
        simp only[finish,if_true,w];have e:lJ o.length t.g i.g.o=some (t.g,(i.g.o).take o.length):=Py (by grind[zH]) q (by show o.length<=(gO i.o).length;grind[ob]);rw[e,<-(A _ _ m).1,<-(A _ _ m).2];simp_all[cq.g,gO]
       obtain⟨X,M,_⟩:=YP J S Z (own:=true) V (by grind[jH]) (s0:=b.g) (s2:=c.g) (s3:=i.g) (by simp_all) (by simp_all) k (n g G hG) (by grind) Y.2 (by simp_all) j (by simp_all) l;exact⟨X,M⟩
      ·exact m.elim
     ·exact h.elim
    ·exact h.elim
   simp_all
  ·exact h.elim
 simp_all
end
theorem Vo {P:Program} {d:FuncId->Option fh} {L:List bL} {W:List cZ} (c:cZ) {F:fh} {k:TypeId->Option bn} {e:List Nat×Bool->Option (bn×bn)} {Λ:c.α->Nat->cC}
  (n:ky P ⟨d,λ_ _ _ _=>none⟩) (i:∀c∈W,dJ P c) (o:∀c∈L,Holds P c)
  (l:d c.f=some F) (b:∀a,(c.put a).length=F.params)
  (a:c.α) (m:kY c.f W=none)
  (h:Bl (lT L (fQ W) k e d) (Λ a) F (c.put a) (c.st a) λv s=>v.same (c.res a)/\jk s (c.out a)):
  gJ P c.f=true/\lv P c.f (gL (c.put a)) (gO (c.st a)) (c.res a).g (gO (c.out a)):=by
 refine afq (p:=lT L (fQ W) k e d) (Λ:=Λ a) (Q:=λv s=>v.same (c.res a)/\jk s (c.out a)) (ub (kZ i) o n) (uf (kZ i)) (λ_ _ h=>h) l ?_ (b a) (λv s j=>⟨j.1,xA j.2⟩) h;simp_all[qJ,sK,fQ,ug]
theorem afr {k:Nat} {r a:AV} {o mid o2:Store} (c:r.bT o (λi=>decide (k<=i))=some a) (g:jh o (λi=>decide (k<=i)) o=some mid) (e:fD (λi=>decide (k<=i)) 0 mid=o2) (f:a.bZ k=true) (d:∀x∈o2,x.bZ k=true) (l:k<=o2.length):lJ k r o=some (a,o2.take k):=by
 unfold lJ;rw[c,g];simp only[e];have m:∀x∈o2.take k,x.bZ k=true:=λx h=>d x (γm h);rw[Po (by grind[dZ,Hu])];have j:iH.pH (List.range k)=true:=by rw[δK];exact nodup_range'
 rw[if_pos j,CY f];have b:=Ht (k:=k) (o:=o2) m l (n:=k) (s:=0) (by omega);rw[<-δK,List.drop_zero] at b;rw[b]
def Fj (k:Nat) (r:SV) (o:bX) (K:SV->bX->Prop):Prop:=
 k9 o k r λb=>o6 o k 0 o λa=>if b.bZ k&&a.all (λx=>x.bZ k)&&decide (k<=a.length) then K b (a.take k) else False
theorem afs {k:Nat} {r:SV} {o:bX} {K:SV->bX->Prop} (h:Fj k r o K):∃r' o',lJ k r.g (gO o)=some (r'.g,gO o')/\K r' o':=by
 unfold Fj at h;obtain⟨l,p,f⟩:=HJ h;obtain⟨c,i,n,m,a⟩:=xI f;split at a
 ·rename_i b;simp only[ζ,decide_eq_true_eq,Φ] at b;obtain⟨⟨d,j⟩,e⟩:=b;refine⟨l,c.take k,?_,a⟩;simp_all[afr,zH,gO,CS]
 simp_all
def Fo (p:iN) (Λ:Nat->cC) (F:fh) (args:List SV) (o:bX) (Q:SV->bX->Prop):Prop:=
 wpS p o.length F.body Λ ⟨np 0 args,o⟩ λa b=>match a with
  | .exit _=>False
  | .goto _=>False
  |_=>nZ b F.res λr=>Fj o.length r b.o Q
theorem aft {P:Program} {T:Tab} {p:iN} {Λ:Nat->cC} (A:ky P T) (t:pR T.K p.C) (y:∀f F,p.it f=some F->T.fn f=some F) {f:FuncId} {F:fh} (n:T.fn f=some F) {args:List SV} {o:bX} {r:AV} {o':Store} (z:T.K f (gL args) (gO o) true=none) (j:args.length=F.params)
  {Q:SV->bX->Prop} (D:∀v s,Q v s->v.g=r/\gO s=o') (h:Fo p Λ F args o Q):gJ P f=true/\lv P f (gL args) (gO o) r o':=by
 unfold Fo at h;have e:=vE t y h;have d:(cq.mk (np 0 args) o).g=⟨gZ 0 (gL args),gO o⟩:=by simp[cq.g,vF]
 rw[d] at e;have i:(gO o).length=o.length:=ob o;rw[<-i] at e;have x:∀(a:cq),(nZ a F.res λv=>Fj (gO o).length v a.o Q)->(nT a.g F.res).bind (λc=>finish true (gO o).length c a.g.o)=some (r,o'):=by
  intro a m;obtain⟨c,k,l⟩:=xB m;obtain⟨u,q,w,E⟩:=afs l;rw[k];simp only[Option.bind_some,finish,if_true];have:lJ (gO o).length c.g a.g.o=some (u.g,gO q):=w;grind
 obtain⟨k,l,_⟩:=Cj A n (o:=gO o) (own:=true) z (by grind[jH]) (v:=r) (o':=o') (e.mono λb s B=>by
  obtain⟨a,rfl,m⟩:=B;cases b<;>simp_all);simp_all
theorem afu {P:Program} {d:FuncId->Option fh} {L:List bL} {W:List cZ} (c:cZ) {F:fh} {k:TypeId->Option bn} {e:List Nat×Bool->Option (bn×bn)} {Λ:c.α->Nat->cC}
  (n:ky P ⟨d,λ_ _ _ _=>none⟩) (i:∀c∈W,dJ P c) (o:∀c∈L,Holds P c)
  (l:d c.f=some F) (b:∀a,(c.put a).length=F.params)
  (a:c.α) (m:kY c.f W=none)
  (h:Fo (lT L (fQ W) k e d) (Λ a) F (c.put a) (c.st a) λv s=>v.same (c.res a)/\jk s (c.out a)):
  gJ P c.f=true/\lv P c.f (gL (c.put a)) (gO (c.st a)) (c.res a).g (gO (c.out a)):=by
 refine aft (p:=lT L (fQ W) k e d) (Λ:=Λ a) (Q:=λv s=>v.same (c.res a)/\jk s (c.out a)) (ub (kZ i) o n) (uf (kZ i)) (λ_ _ h=>h) l ?_ (b a) (λv s j=>⟨j.1,xA j.2⟩) h;simp_all[qJ,sK,fQ,ug]
structure dG where
 p:bp
 ch:List Int
 val:Int
 found:Bool
 en:Option Int
 k1:Nat
 k2:Nat
 most:Int
 err:Int
 prf:List rb
 fx:List Int
def dG.cs (x:dG) (e:SV) (i j:Nat):List SV:=[.row (.i .i64) x.ch,.si .i64 x.val,.sb x.found,e,.ow i x.k1 5,.ow j x.k2 1,.si .i64 x.most,.si .i64 x.err]
def dG.yT (x:dG):bX:=[.cells (x.p.ss++x.cs (.fn (.func 82) [] []) 1 2) 119 28 false,.row ek x.prf 93 true,.row (.i .i64) x.fx 3 true]
def dG.yU (x:dG) (m:Int):bX:=[.cells (x.p.ss++x.cs (.fn (.func 132) [] [.ptr 1 0 1]) 2 3) 119 28 false,.cells [.si .i64 m] 2 1 false,.row ek x.prf 93 true,.row (.i .i64) x.fx 3 true]
def dG.gB (x:dG):bX:=match x.en with
 |none=>x.yT
 |some m=>x.yU m
def LQ:bX->Option dG
 |[.cells cs 119 28 false,.row s1 l1 93 true,.row s2 l2 3 true]=>match cs.drop 20 with
  |[c,v,b,.fn (.func 82) [] [],.ow 1 k1 5,.ow 2 k2 1,mo,er]=>match sL (cs.take 20),fZ (.i .i64) c,v.int .i64,b.boo,mo.int .i64,er.int .i64 with
   |some p,some c,some v,some b,some mo,some er=>match iI s1 ek l1,iI s2 (.i .i64) l2 with
    |some l1,some l2=>some ⟨p,c,v,b,none,k1,k2,mo,er,l1,l2⟩
    |_,_=>none
   |_,_,_,_,_,_=>none
  |_=>none
 |[.cells cs 119 28 false,.cells [m] 2 1 false,.row s1 l1 93 true,.row s2 l2 3 true]=>match cs.drop 20 with
  |[c,v,b,.fn (.func 132) [] [.ptr 1 0 1],.ow 2 k1 5,.ow 3 k2 1,mo,er]=>match sL (cs.take 20),fZ (.i .i64) c,v.int .i64,b.boo,mo.int .i64,er.int .i64 with
   |some p,some c,some v,some b,some mo,some er=>match iI s1 ek l1,iI s2 (.i .i64) l2,m.int .i64 with
    |some l1,some l2,some m=>some ⟨p,c,v,b,some m,k1,k2,mo,er,l1,l2⟩
    |_,_,_=>none
   |_,_,_,_,_,_=>none
  |_=>none
 |_=>none
theorem afv {o:bX} {x:dG} (h:LQ o=some x):gO o=gO x.gB:=by
 unfold LQ at h;split at h
 ·rename_i cs s1 l1 s2 l2;split at h
  ·rename_i c v b k1 k2 mo er hd;split at h
   ·rename_i p c' v' b' mo' er' h1 h2 h3 h4 h5 h6;split at h
    ·rename_i l1' l2' g1 g2;simp only[γ] at h;subst h;obtain⟨rfl,e1⟩:=nj g1;obtain⟨rfl,e2⟩:=nj g2;cases e1;cases e2;have e3:gL cs=gL p.ss++gL [c,v,b,.fn (.func 82) [] [],.ow 1 k1 5,.ow 2 k2 1,mo,er]:=by
      rw[<-hd,<-vH h1,<-t8,γc]
     simp only[dG.gB,dG.yT,dG.cs,gO,ι,γp,bq.g,t8,e3];simp only[gL,jI h2,gP h3,vo h4,gP h5,gP h6,SV.g]
    ·cases h
   ·cases h
  ·cases h
 ·rename_i cs m s1 l1 s2 l2;split at h
  ·rename_i c v b k1 k2 mo er hd;split at h
   ·rename_i p c' v' b' mo' er' h1 h2 h3 h4 h5 h6;split at h
    ·rename_i l1' l2' m' g1 g2 g3;simp only[γ] at h;subst h;obtain⟨rfl,e1⟩:=nj g1;obtain⟨rfl,e2⟩:=nj g2;cases e1;cases e2;have e3:gL cs=gL p.ss++gL [c,v,b,.fn (.func 132) [] [.ptr 1 0 1],.ow 2 k1 5,.ow 3 k2 1,mo,er]:=by
      rw[<-hd,<-vH h1,<-t8,γc]
     simp only[dG.gB,dG.yU,dG.cs,gO,ι,γp,bq.g,t8,e3];simp only[gL,jI h2,gP h3,vo h4,gP h5,gP h6,gP g3,SV.g]
    ·cases h
   ·cases h
  ·cases h
 ·cases h
theorem afA {p q:bp} (h:gL p.ss=gL q.ss):p=q:=cY.inj p q (by grind[cY,SV.g])
theorem afB {x y:dG} (h:gO x.gB=gO y.gB):x=y:=by
 obtain⟨p,E,u,b,J,H,G,k,o,A,L⟩:=x;obtain⟨B,n,d,a,l,r,v,c,f,q,C⟩:=y;have w:∀{e I:SV} {i j:Nat},gL (p.ss++(dG.mk p E u b J H G k o A L).cs e i j)=gL (B.ss++(dG.mk B n d a l r v c f q C).cs I i j)->p=B/\E=n/\u=d/\b=a/\H=r/\G=v/\k=c/\o=f:=by
  intro e I i j h;rw[t8,t8] at h;obtain⟨z,t⟩:=List.append_inj h (by rw[jH,jH];rfl);simp only[dG.cs,gL,SV.g,π,γX,Value.int.injEq,Value.bool.injEq,εP,AV.sl.injEq,and_true,true_and] at t;grind[afA,py]
 cases J with
 |none=>
  cases l with
  |none=>
   simp only[dG.gB,dG.yT,gO,ι,γp,bq.g,π,bQ.cells.injEq,and_true] at h;obtain⟨z,t,D⟩:=h;obtain⟨rfl,rfl,rfl,rfl,rfl,rfl,rfl,rfl⟩:=w z;rw[py (s:=ek) t,py (s:=.i .i64) D];|some K=>
   have:=congrArg γn h;simp_all[dG.gB,dG.yT,dG.yU,gO]
 |some m=>
  cases l with
  |none=>
   have:=congrArg γn h;simp_all[dG.gB,dG.yT,dG.yU,gO];|some K=>
   simp only[dG.gB,dG.yU,gO,ι,γp,bq.g,π,bQ.cells.injEq,and_true] at h;obtain⟨z,F,t,D⟩:=h;obtain⟨rfl,rfl,rfl,rfl,rfl,rfl,rfl,rfl⟩:=w z;simp only[gL,SV.g,π,γX,Value.int.injEq,and_true,true_and] at F;subst F;rw[py (s:=ek) t,py (s:=.i .i64) D]
def Fp (f:FuncId) (c:Type) (A:qI c) (i:dG->c->Prop) (e:dG->c->SV) (out:dG->c->dG):cZ where
 f:=f;α:=dG×c;put a:=.ptr 0 0 28::A.put a.2;st a:=a.1.gB;dec v o:=match v with
  | .ptr 0 0 28::r=>match LQ o,A.dec r with
   |some s,some b=>some (s,b)
   |_,_=>none
  |_=>none;ok v o a h:=by
  split at h
  ·split at h
   ·rename_i d g;simp only[γ] at h;subst h;exact⟨by simp only[gL,A.ok _ _ g],afv d⟩
   ·cases h
  ·cases h
 inj a b d g:=by
  simp only[gL,π,true_and] at d;exact Prod.ext (afB g) (A.inj _ _ d)
 dom a:=i a.1 a.2;res a:=e a.1 a.2;out a:=(out a.1 a.2).gB
def cy (e:Option Int) (v:Int):Bool:=match e with
 |none=>false
 |some m=>decide (m<=v)
def dG.s (x:dG):cK:=⟨x.ch,x.val,x.found,x.prf,x.err⟩
def dG.upd (x:dG) (s:cK):dG:=⟨x.p,s.ch,s.val,s.found,x.en,s.prf.length,x.k2,x.most,s.err,s.prf,x.fx⟩
structure fe (x:dG):Prop where
 f:eW x.p x.fx
 k1:x.k1=x.prf.length
 k2:x.k2=x.fx.length
 v0:0<=x.val
 v1:x.val<=9223372036854775806
 m0:1<=x.most
 m1:x.most<=65536
 l:x.prf.length<=65536
 c:x.ch.length<=9223372036854775807
def LR:cZ where
 f:=82;α:=Alloc;put a:=[lV.put a];st _:=[];dec v o:=match v,o with
  |[a],[]=>lV.dec a
  |_,_=>none;ok v o a h:=by
  split at h;·exact⟨by simp only[gL,lV.ok _ _ h],rfl⟩
  ·cases h
 inj a b h1 _:=by
  simp only[gL,π,and_true] at h1;exact lV.inj _ _ h1
 dom _:=True;res _:=.sb false;out _:=[]
theorem h438:dJ Tryz.prog LR:=by
 refine jm (L:=[]) (W:=[]) LR lk (by simp) (by simp) ?_;rintro(a:Alloc) -;refine bO ((δw false).same (γI false)/\True) (by kernel_rfl) ?_;simp_all
def LS:cZ where
 f:=132;α:=Alloc×Int;put a:=[lV.put a.1,.ptr 0 0 1];st a:=[.cells [.si .i64 a.2] 2 1 false];dec v o:=match v,o with
  |[a,.ptr 0 0 1],[.cells [m] 2 1 false]=>match lV.dec a,m.int .i64 with
   |some a,some m=>some (a,m)
   |_,_=>none
  |_,_=>none;ok v o a h:=by
  split at h
  ·split at h
   ·rename_i h1 h2;simp only[γ] at h;subst h;exact⟨by simp only[gL,lV.ok _ _ h1],by simp only[gO,ι,γp,bq.g,gL,gP h2,SV.g]⟩
   ·cases h
  ·cases h
 inj a b h1 h2:=by
  simp only[gL,π,and_true] at h1;simp only[gO,ι,γp,bq.g,gL,SV.g,π,bQ.cells.injEq,γX,Value.int.injEq,and_true,true_and] at h2;exact Prod.ext (lV.inj _ _ h1) h2
 dom _:=True;res a:=.sb (decide (a.2<=a.1.value));out a:=[.cells [.si .i64 a.2] 2 1 false]
theorem h442:dJ Tryz.prog LS:=by
 refine jm (L:=[]) (W:=[]) LS lk (by simp) (by simp) ?_;rintro⟨a,m⟩ -;refine bO (let b:=bq.cells [Ξ .i64 m] 2 1 false;(γI (decide (m<=a.value))).same (γI (decide (m<=a.value)))/\b.same b/\True) (by kernel_rfl) ?_;conv=>zeta
 exact⟨rfl,rfl,trivial⟩
def Bm:cZ:=Fp 83 Alloc (.one lV) (λx _=>x.k1=x.prf.length) (λ_ _=> .bH []) λx a=>x.upd (dT (cy x.en) x.s a)
theorem h439:dJ Tryz.prog Bm:=by
 refine jm (L:=[]) (W:=[LR,LS]) Bm lk (by simpa using⟨h438,h442⟩) (by simp) ?_;rintro⟨⟨p,ch,val,found,en,k1,k2,most,err,prf,fx⟩,a⟩ hk;have hk:k1=prf.length:=hk;subst hk;have e1:∀en:Int->Bool,val<a.value->dT en ⟨ch,val,found,prf,err⟩ a=⟨a.chosen,a.value,found||en a.value,prf,err⟩:=λen h=>if_pos h;have e2:∀en:Int->Bool,¬val<a.value->dT en ⟨ch,val,found,prf,err⟩ a=⟨ch,val,found,prf,err⟩:=λen h=>if_neg h;cases en with
 |none=>
  refine bO (let b:=Ξ .i64;let c:=bq.row;let d:=bq.cells;let e:=Ψ;let f:=SV.bH;let k:=b p.supply.a0;let l:=b p.supply.a1;let m:=b p.supply.a2;let n:=b p.supply.a3;let o:=b p.supply.a4;let q:=b p.supply.a5;let r:=b p.opn.a0;let s:=b p.opn.a1;let t:=b p.opn.a2;let v:=b p.opn.a3;let w:=b p.opn.a4;let x:=b p.opn.a5;let y:=b p.cls.a0;let z:=b p.cls.a1;let A:=b p.cls.a2;let B:=b p.cls.a3;let C:=b p.cls.a4;let D:=b p.cls.a5;let h:=bn.i .i64;let E:=e h p.classes;let F:=e bn.off p.offers;let G:=SV.fn (Fn.func 82) [] [];let H:=γ8 2 k2 1;let I:=b most;let J:=[G,γ8 1 prf.length 5,H,I,b err];let g:=dT (cy none) (cK.mk ch val found prf err) a;let K:=d [k,l,m,n,o,q,r,s,t,v,w,x,y,z,A,B,C,D,E,F,e h g.ch,b g.val,γI g.found,G,γ8 1 g.prf.length 5,H,I,b g.err] 119 28 false;let j:=c h fx 3 true;let L:=decide (val<a.value);let M:=λ(u u_1:Bool) (u_2:List Int) (u_3:Int) (u_4:SV) ↦u=u_1->(f []).same (f [])/\(d (k::l::m::n::o::q::r::s::t::v::w::x::y::z::A::B::C::D::E::F::e h u_2::b u_3::u_4::J) 119 28 false).same K/\(c ek prf 93 true).same (c ek g.prf 93 true)/\j.same j/\True;(L=true->M found true a.chosen a.value (δw true)/\(found=false->True/\(f []).same (f [])/\(d (k::l::m::n::o::q::r::s::t::v::w::x::y::z::A::B::C::D::E::F::e h a.chosen::b a.value::γI false::J) 119 28 false).same K/\(c ek prf 93 true).same (c ek g.prf 93 true)/\j.same j/\True))/\M L false ch val (γI found)) (by kernel_rfl) ?_;conv=>zeta
  refine⟨λh=>?_,λh=>?_⟩
  ·simp only[e1 _ (of_decide_eq_true h)];refine⟨λhf=>?_,λhf=>?_⟩
   ·subst hf;exact⟨rfl,rfl,rfl,rfl,trivial⟩
   ·subst hf;exact⟨trivial,rfl,rfl,rfl,rfl,trivial⟩
  ·simp only[e2 _ (of_decide_eq_false h)];exact⟨rfl,rfl,rfl,rfl,trivial⟩;|some m=>
  refine bO (let b:=Ξ .i64;let c:=bn.i .i64;let d:=bq.cells;let e:=Ψ;let f:=bq.row;let g:=γ8;let h:=γV;let j:=SV.bH;let k:=γI;(decide (val<a.value)=true->(found=true->(j []).same (j [])/\(d [b p.supply.a0,b p.supply.a1,b p.supply.a2,b p.supply.a3,b p.supply.a4,b p.supply.a5,b p.opn.a0,b p.opn.a1,b p.opn.a2,b p.opn.a3,b p.opn.a4,b p.opn.a5,b p.cls.a0,b p.cls.a1,b p.cls.a2,b p.cls.a3,b p.cls.a4,b p.cls.a5,e (c) p.classes,e bn.off p.offers,e (c) a.chosen,b a.value,δw true,SV.fn (Fn.func 132) [] [h 1 0 1],g 2 prf.length 5,g 3 k2 1,b most,b err] 119 28 false).same (d [b p.supply.a0,b p.supply.a1,b p.supply.a2,b p.supply.a3,b p.supply.a4,b p.supply.a5,b p.opn.a0,b p.opn.a1,b p.opn.a2,b p.opn.a3,b p.opn.a4,b p.opn.a5,b p.cls.a0,b p.cls.a1,b p.cls.a2,b p.cls.a3,b p.cls.a4,b p.cls.a5,e (c) p.classes,e bn.off p.offers,e (c) (dT (cy (some m)) (cK.mk ch val found prf err) a).ch,b (dT (cy (some m)) (cK.mk ch val found prf err) a).val,k (dT (cy (some m)) (cK.mk ch val found prf err) a).found,SV.fn (Fn.func 132) [] [h 1 0 1],g 2 (dT (cy (some m)) (cK.mk ch val found prf err) a).prf.length 5,g 3 k2 1,b most,b (dT (cy (some m)) (cK.mk ch val found prf err) a).err] 119 28 false)/\(d [b m] 2 1 false).same (d [b m] 2 1 false)/\(f ek prf 93 true).same (f ek (dT (cy (some m)) (cK.mk ch val found prf err) a).prf 93 true)/\(f (c) fx 3 true).same (f (c) fx 3 true)/\True)/\(found=false->True/\(j []).same (j [])/\(d [b p.supply.a0,b p.supply.a1,b p.supply.a2,b p.supply.a3,b p.supply.a4,b p.supply.a5,b p.opn.a0,b p.opn.a1,b p.opn.a2,b p.opn.a3,b p.opn.a4,b p.opn.a5,b p.cls.a0,b p.cls.a1,b p.cls.a2,b p.cls.a3,b p.cls.a4,b p.cls.a5,e (c) p.classes,e bn.off p.offers,e (c) a.chosen,b a.value,k (decide (m<=a.value)),SV.fn (Fn.func 132) [] [h 1 0 1],g 2 prf.length 5,g 3 k2 1,b most,b err] 119 28 false).same (d [b p.supply.a0,b p.supply.a1,b p.supply.a2,b p.supply.a3,b p.supply.a4,b p.supply.a5,b p.opn.a0,b p.opn.a1,b p.opn.a2,b p.opn.a3,b p.opn.a4,b p.opn.a5,b p.cls.a0,b p.cls.a1,b p.cls.a2,b p.cls.a3,b p.cls.a4,b p.cls.a5,e (c) p.classes,e bn.off p.offers,e (c) (dT (cy (some m)) (cK.mk ch val found prf err) a).ch,b (dT (cy (some m)) (cK.mk ch val found prf err) a).val,k (dT (cy (some m)) (cK.mk ch val found prf err) a).found,SV.fn (Fn.func 132) [] [h 1 0 1],g 2 (dT (cy (some m)) (cK.mk ch val found prf err) a).prf.length 5,g 3 k2 1,b most,b (dT (cy (some m)) (cK.mk ch val found prf err) a).err] 119 28 false)/\(d [b m] 2 1 false).same (d [b m] 2 1 false)/\(f ek prf 93 true).same (f ek (dT (cy (some m)) (cK.mk ch val found prf err) a).prf 93 true)/\(f (c) fx 3 true).same (f (c) fx 3 true)/\True))/\(decide (val<a.value)=false->(j []).same (j [])/\(d [b p.supply.a0,b p.supply.a1,b p.supply.a2,b p.supply.a3,b p.supply.a4,b p.supply.a5,b p.opn.a0,b p.opn.a1,b p.opn.a2,b p.opn.a3,b p.opn.a4,b p.opn.a5,b p.cls.a0,b p.cls.a1,b p.cls.a2,b p.cls.a3,b p.cls.a4,b p.cls.a5,e (c) p.classes,e bn.off p.offers,e (c) ch,b val,k found,SV.fn (Fn.func 132) [] [h 1 0 1],g 2 prf.length 5,g 3 k2 1,b most,b err] 119 28 false).same (d [b p.supply.a0,b p.supply.a1,b p.supply.a2,b p.supply.a3,b p.supply.a4,b p.supply.a5,b p.opn.a0,b p.opn.a1,b p.opn.a2,b p.opn.a3,b p.opn.a4,b p.opn.a5,b p.cls.a0,b p.cls.a1,b p.cls.a2,b p.cls.a3,b p.cls.a4,b p.cls.a5,e (c) p.classes,e bn.off p.offers,e (c) (dT (cy (some m)) (cK.mk ch val found prf err) a).ch,b (dT (cy (some m)) (cK.mk ch val found prf err) a).val,k (dT (cy (some m)) (cK.mk ch val found prf err) a).found,SV.fn (Fn.func 132) [] [h 1 0 1],g 2 (dT (cy (some m)) (cK.mk ch val found prf err) a).prf.length 5,g 3 k2 1,b most,b (dT (cy (some m)) (cK.mk ch val found prf err) a).err] 119 28 false)/\(d [b m] 2 1 false).same (d [b m] 2 1 false)/\(f ek prf 93 true).same (f ek (dT (cy (some m)) (cK.mk ch val found prf err) a).prf 93 true)/\(f (c) fx 3 true).same (f (c) fx 3 true)/\True)) (by kernel_rfl) ?_;refine⟨λh=>?_,λh=>?_⟩
  ·simp only[e1 _ (of_decide_eq_true h)];refine⟨λhf=>?_,λhf=>?_⟩
   ·subst hf;exact⟨rfl,rfl,rfl,rfl,rfl,trivial⟩
   ·subst hf;exact⟨trivial,rfl,rfl,rfl,rfl,rfl,trivial⟩
  ·simp only[e2 _ (of_decide_eq_false h)];exact⟨rfl,rfl,rfl,rfl,rfl,trivial⟩
theorem uO {p q:Rat}:jc p q<0↔p<q:=by
 unfold jc;grind
def LU:bL:=⟨62,bp×List Int,.cons cY (.one (dV (.i .i64))),λa=>bC a.1=0/\a.2.length<=9223372036854775807,λa=> .si .i64 (ez a.1 a.2)⟩
def afC (p:bp) (c:List Int):Nat->cC
 |6=> .inv Int (λi=>⟨[(7,.si .i64 (bV ((eE p c).take i.toNat))),(23,.row .off (eE p c)),(24,.si .i64 (eE p c).length),(25,.si .i64 i)],[.cells p.ss 27 20 false]⟩)
   (λs=>iS s 25) (λi=>0<=i/\i<=(eE p c).length) (λi=>((eE p c).length - i).toNat) λ_ _=> .look
 |_=> .look
theorem h437:Holds Tryz.prog LU:=by
 refine cG (L:=[Dl,pV]) LU (λa=>afC a.1 a.2) (by grind[h133,h79]) ?_;rintro⟨p,c⟩ ⟨f,A⟩;simp only at f A;refine bO (let a:=Ξ .i64;let f:=(0:Int);let k:=γr .i64 0;let m:=a (ez p c);let z:=decide (bC p≠f);let j:=Ψ bn.off (eE p c);let B:=(↑(eE p c).length:Int);let d:=(↑(eE p c).length:Int);let r:=a d;let g:=bq.cells (bp.ss p) 27 20 false;(c.length<=9223372036854775807/\p.offers.length<=1000)/\((!jo p c)=true->k.same m)/\((!jo p c)=false->True/\(z=true->k.same m)/\(z=false->(((k.same (a (bV []))/\j.same j/\(a B).same r/\k.same (a 0)/\True)/\g.same g/\True)/\f<=f/\f<=d)/\∀(x:Int),let w:=bV (γd x.toNat (eE p c));let y:=w+(bj (eE p c) x.toNat bn.off.dflt).value;let b:=x+(1:Int);let e:=a b;f<=x/\x<=d->(decide (x<d)=true->f<=x/\x<B/\x.toNat<(eE p c).length/\bW .i64 y/\bW .i64 b/\(((a y).same (a (bV (γd b.toNat (eE p c))))/\j.same j/\r.same r/\e.same e/\True)/\g.same g/\True)/\(f<=b/\b<=d)/\(d - b).toNat<(d - x).toNat)/\(decide (x<d)=false->(a w).same m)))) (by kernel_rfl) ?_;simp only[vcs];have t:=dn f;obtain⟨G,v⟩:=aaR (c:=c) f;have u:=t.2.1;have q:jo p c=false->0=ez p c:=λh=>by
  unfold ez;rw[if_pos f];unfold eE;unfold jo at h;rw[Option.isSome_eq_false_iff,Option.isNone_iff_eq_none] at h;rw[h];rfl
 refine⟨⟨A,by omega⟩,q,λ_=>⟨λh=>absurd f h,λ_=>⟨⟨by simp[bV],by omega,by omega⟩,?_⟩⟩⟩;rintro i ⟨n,D⟩;refine⟨λo=>?_,λE=>?_⟩
 ·have H:=aaQ n o;have F:=sP t (l:=(eE p c).take i.toNat) λx s=>v x (γm s);have C:=sP t (l:=(eE p c).take (i+1).toNat) λx s=>v x (γm s);grind
 ·rw[show i.toNat=(eE p c).length from by omega,Δ];grind[ez]
def LV:bL:=⟨162,Int×Int,.cons (dX .i64) (.one (dX .i64)),λa=>(-9223372036854775808<=a.1/\a.1<=9223372036854775807)/\0<a.2/\a.2<=9223372036854775807,λa=> .bH [qV (fH (decide (a.1<0)) (a.1.natAbs:Int) a.2),.si .i64 0]⟩
theorem h451:Holds Tryz.prog LV:=by
 refine cG (L:=[Ed,Av]) LV lk (by grind[h127,h151]) ?_;rintro⟨n,d⟩ ⟨⟨u,w⟩,q,r⟩;simp only at u w q r;refine bO (let e:=(-9223372036854775808:Int);let h:=(9223372036854775807:Int);let k:=(0:Int);let l:=Ψ;let g:=cF (↑n.natAbs:Int);let b:=cF (↑d.natAbs:Int);let f:=bu (fH (!decide (n<k)==decide (d<k)) (bk g) (bk b));let a:=bn.i .u32;let j:=[Ξ .i64 0];let c:=bu (fH (decide (n<k)) (↑n.natAbs:Int) d);(e<=n/\n<=h)/\(e<=d/\d<=h)/\((bA g/\bA b)/\(g.length<=1000000000/\b.length<=1000000000)/\k<bk b)/\(SV.bH (γG [γI f.fst,l a f.snd.fst,l a f.snd.snd]::j)).same (SV.bH (γG [γI c.fst,l a c.snd.fst,l a c.snd.snd]::j))) (by kernel_rfl) ?_;simp only[vcs];obtain⟨v,s,t⟩:=gk (show(0:Int)<=(n.natAbs:Int) by omega);obtain⟨o,l,h⟩:=gk (show(0:Int)<=(d.natAbs:Int) by omega);have x:=mP (k:=2) (show(0:Int)<=(n.natAbs:Int) by omega) (by omega);have p:=mP (k:=2) (show(0:Int)<=(d.natAbs:Int) by omega) (by omega);have e:(d.natAbs:Int)=d:=by omega
 have m:(!(decide (n<0)==decide (d<0)))=decide (n<0):=by
  grind
 rw[m,v,o,e];rw[e] at l h p;repeat' refine And.intro ?_ ?_
 all_goals first|omega|exact s|exact l|exact t|exact h|rfl
def pE (x:List bP):Prop:=∃l,x=fL l/\x.length<=1000000/\∀q∈l,Sz 1000 q
theorem afD (q:Rat):q.den=1↔(bu q).2.2=[1]:=by
 have c:cF 1=[1]:=by decide
 constructor
 ·intro h;show cF (q.den:Int)=[1];simp_all
 ·intro h;have a:=(gk (show(0:Int)<=(q.den:Int) by omega)).1;have b:cF (q.den:Int)=[1]:=h;grind[bk]
theorem Vp (q:Rat):okF (bu q)=true:=decide_eq_true (by rw[fa])
def LW:bL:=⟨118,List bP,.one (dV sF),pE,λx=> .sb (mV (vL x))⟩
def afE (x:List bP):Nat->cC
 |2=> .inv Int (λi=>⟨[(5,.row sF x),(6,.si .i64 x.length),(7,.si .i64 i)],[]⟩)
   (λs=>iS s 7) (λi=>(0<=i/\i<=x.length)/\mV ((vL x).take i.toNat)=true) (λi=>(x.length - i).toNat) λ_ _=> .look
 |_=> .look
theorem h445:Holds Tryz.prog LW:=by
 refine cG (L:=[yo]) LW afE (by grind[h407]) ?_;rintro(x:List bP) ⟨l,v,G,H⟩;refine bO (let c:=(0:Int);let d:=Ξ .i64;let f:=δw false;let h:=Ψ;let i:=(1:Int);let b:=(↑x.length:Int);let w:=d b;((((h sF x).same (h sF x)/\(d (↑x.length:Int)).same w/\(γr .i64 0).same (d 0)/\True)/\True)/\(c<=c/\c<=b)/\mV []=true)/\∀(a:Int),let p:=bj x a.toNat sF.dflt;let e:=p.snd.snd;let C:=(↑(γn e):Int);let r:=γI (mV (vL x));let g:=a+i;let o:=d g;let A:=λ(u:Bool) ↦decide (bj e 0 c≠i)=u;let D:=λ(u:Bool) ↦decide (C≠i)=u;let E:=λ(u:Bool) ↦(!okF (p.fst,p.snd.fst,e))=u;(c<=a/\a<=b)/\mV (γd a.toNat (vL x))=true->(decide (a<b)=true->c<=a/\a<(↑x.length:Int)/\a.toNat<x.length/\((bA p.snd.fst/\bA e)/\γn p.snd.fst<=1000000/\γn e<=1000000)/\(E true->(f).same r)/\(E false->(D true->(f).same r)/\(D false->c<=c/\c<C/\0<γn e/\(A true->(f).same r)/\(A false->bW .i64 g/\(((h sF x).same (h sF x)/\w.same w/\o.same o/\True)/\True)/\((c<=g/\g<=b)/\mV (γd g.toNat (vL x))=true)/\(b - g).toNat<(b - a).toNat))))/\(decide (a<b)=false->(δw true).same r)) (by kernel_rfl) ?_;simp only[vcs];subst v;rw[fN] at G ⊢;rw[mh];have s:∀k:Nat,((k:Nat):Int).toNat=k:=λk=>γt k;refine⟨⟨⟨by omega,by omega⟩,rfl⟩,?_⟩;rintro i ⟨⟨z,T⟩,c⟩;refine⟨λy=>?_,λy=>?_⟩
 ·have J:bj (fL l) i.toNat sF.dflt=bu (bj l i.toNat 0):=js (by omega);have B:=cO (d:=0) (show i.toNat<l.length by omega);have N:=H _ B;have K:=j4 (d:=0) z y;rw[J];generalize bj l i.toNat 0=q at*;obtain⟨_,⟨I,U,V⟩,⟨M,P,W⟩⟩:=nG q;obtain⟨R,S⟩:=qX N;have m:=afD q;have j:q.den≠1->false=mV l:=λQ=>by
   refine(εq.2 λf=>?_).symm;have:=Φ.1 f _ B;simp_all
  have t:=Vp q;refine⟨z,y,by omega,⟨⟨I,M⟩,by omega,by omega⟩,λh=>absurd t (by simp_all),λ_=>⟨λh=>j λf=>h ?_,λh=>⟨by omega,by omega,by omega,λf=>j λO=>f ?_,λf=>⟨by omega,⟨by omega,?_⟩,by omega⟩⟩⟩⟩;·simp_all
  ·rw[(m.1 O)];rfl
  ·rw[K];unfold mV at c ⊢;rw[List.all_append,c];have:q.den=1:=m.2 (by
    have n:(bu q).2.2.length=1:=by omega
    have F:bj (bu q).2.2 0 0=1:=ω.1 f;match v:(bu q).2.2,n with
    |[x],_=>
     rw[v] at F;have:x=1:=F;rw[this]);simp[this]
 grind
def LX (f:FuncId) (j:bp->List Int->Prop) (e:bp->List Int->SV):cZ where
 f:=f;α:=bp×Nat×List Int;put a:=[cY.put a.1,.ow 0 a.2.1 1];st a:=[.row (.i .i64) a.2.2 3 true];dec v o:=match v,o with
  |[p,.ow 0 n 1],[.row s l 3 true]=>match cY.dec p,iI s (.i .i64) l with
   |some p,some l=>some (p,n,l)
   |_,_=>none
  |_,_=>none;ok v o a h:=by
  split at h
  ·split at h
   ·rename_i c d;simp only[γ] at h;subst h;obtain⟨rfl,k⟩:=nj d;cases k;exact⟨by simp only[gL,cY.ok _ _ c],rfl⟩
   ·cases h
  ·cases h
 inj a b c d:=by
  obtain⟨p,n,l⟩:=a;obtain⟨m,q,r⟩:=b;simp only[gL,π,and_true,SV.g,εP,true_and] at c;simp only[gO,ι,γp,bq.g,π,bQ.cells.injEq,and_true] at d;rw[cY.inj p m c.1,py (s:=.i .i64) d,c.2.1]
 dom a:=a.2.1=a.2.2.length/\j a.1 a.2.2;res a:=e a.1 a.2.2;out a:=[.row (.i .i64) a.2.2 3 true]
theorem Fq {L:List bL} {W:List cZ} (c:cZ) (Λ:c.α->Nat->cC) (i:∀c∈W,dJ Tryz.prog c) (e:∀c∈L,Holds Tryz.prog c)
  
  (h:∀a,c.dom a->Vc (Fo (lT L (fQ W) oY oZ gy) (Λ a) (fG c.f) (c.put a) (c.st a) λv s=>v.same (c.res a)/\jk s (c.out a))) (j:(gy c.f).isSome=true:=by kernel_rfl) (b:∀a,(c.put a).length=(fG c.f).params:=by intro _;kernel_rfl) (d:kY c.f W=none:=by kernel_rfl):dJ Tryz.prog c:=
 λa g=>afu c pU i e (vJ j) b a d (h a g).out
noncomputable def LY:cZ:=LX 154 (λp f=>bC p=0/\f.length=p.offers.length) λp f=>qV (γa (kT p f))
def afF (p:bp) (f:List Int):Nat->cC
 |3=> .inv Int (λi=>⟨[(2,.ptr 1 0 20),(4,.ptr 2 0 3),(5,.si .i64 (kT p (f.take i.toNat))),(8,.ow 0 f.length 1),(9,.si .i64 f.length),(10,.si .i64 i)],[.row (.i .i64) f 3 true,.cells p.ss 27 20 false,.cells [.bl false,.sc (.slice none 0 0),.sc (.slice none 0 0)] 157 3 false]⟩)
   (λs=>iS s 10) (λi=>0<=i/\i<=f.length) (λi=>(f.length - i).toNat) λ_ _=> .look
 |_=> .look
theorem h396w:dJ Tryz.prog LY:=by
 refine Fq (L:=[qW]) (W:=[]) LY (λa=>afF a.1 a.2.2) (by simp) (by simpa using h94) ?_;rintro⟨p,n,f⟩ ⟨hn,⟨hc,hl⟩⟩;simp only at hn;subst hn;simp only at hc hl;refine bO (let a:=Ξ .i64;let b:=(0:Int);let c:=Ψ;let j:=γV 1 0 20;let k:=γV 2 0 3;let t:=γr .i64 0;let l:=γ8 0 f.length 1;let d:=(↑f.length:Int);let m:=a d;let e:=bq.row (bn.i .i64) f 3 true;let n:=bq.cells (bp.ss p) 27 20 false;let v:=SV.sc (Value.slice none 0 0);let o:=bq.cells [δw false,v,v] 157 3 false;let q:=bn.i .u32;let r:=bu (γa (kT p f));(((j.same j/\k.same k/\t.same (a (kT p []))/\l.same l/\m.same m/\t.same (a 0)/\True)/\e.same e/\n.same n/\o.same o/\True)/\b<=b/\b<=d)/\∀(x:Int),let g:=x+(1:Int);let w:=a g;let y:=decide (bj f x.toNat b=(1:Int));let h:=kT p (γd x.toNat f);let z:=h+(bj p.offers x.toNat bn.off.dflt).value;let s:=bu (γa h);let A:=λ(u:Int) ↦bW .i64 g/\((j.same j/\k.same k/\(a u).same (a (kT p (γd g.toNat f)))/\l.same l/\m.same m/\w.same w/\True)/\e.same e/\n.same n/\o.same o/\True)/\(b<=g/\g<=d)/\(d - g).toNat<(d - x).toNat;b<=x/\x<=d->(decide (x<d)=true->f.length=f.length/\b<=x/\x<(↑f.length:Int)/\f.length=f.length/\x.toNat<f.length/\(y=true->b<=x/\x<(↑p.offers.length:Int)/\x.toNat<p.offers.length/\bW .i64 z/\A z)/\(y=false->A h))/\(decide (x<d)=false->((-9223372036854775808:Int)<=h/\h<=(9223372036854775807:Int))/\(γG [γI s.fst,c q s.snd.fst,c q s.snd.snd]).same (γG [γI r.fst,c q r.snd.fst,c q r.snd.snd])/\e.same e/\True)) (by kernel_rfl) ?_;simp only[vcs];have h160:=(dn hc).2.1;refine⟨⟨by simp[kT,bF,dS,bV],by omega,by omega⟩,?_⟩;rintro i ⟨i0,i1⟩;have hb:=@Lx p hc f i.toNat hl;refine⟨λhi=>?_,λhi=>?_⟩
 ·have hs:=@ae3 p f i i0 hi;have ho:=pB hc (i:=i) ⟨i0,by omega⟩;have hv:(bj p.offers i.toNat bn.off.dflt).value=(oI p i).value:=rfl;rw[hv];refine⟨i0,hi,by omega,λh1=>?_,λh1=>?_⟩
  ·rw[if_pos h1] at hs;refine⟨i0,?_,?_,?_,?_,?_,?_,?_⟩<;>omega
  ·rw[if_neg h1] at hs;refine⟨?_,?_,?_,?_⟩<;>omega
 ·rw[show f.take i.toNat=f by rw[show i.toNat=f.length by omega,Δ]] at hb ⊢;exact⟨by omega,rfl⟩
noncomputable def LZ:cZ:=LX 151 (λp f=>(bC p=0/\f.length=p.offers.length)/\jP f=true) λp f=> .bH [.agg [.row sF (mU p f).1,.row sR (mU p f).2.1],.row (.i .i64) (mU p f).2.2,.si .i64 (if iD p f=true then 0 else 14)]
def Vq (p:bp) (f:List Int) (l:List Int) (m:List Off):bX:=[.row (.i .i64) f 3 true,.cells p.ss 27 20 false,.cells [.sc (.slice none 0 0),.sc (.slice none 0 0)] 220 2 false,.row (.i .i64) l 3 true,.row .off m 39 true]
def Ft (p:bp) (f:List Int) (l:List Int) (m:List Off) (k0 k1:Nat) (rs:List (List bP×bP)) (g:List bP):bX:=Vq p f l m++[.cells p.ss 110 20 false,.cells [.ow 8 k0 3,.ow 7 k1 4] 220 2 false,.row sR rs 255 false,.row sF g 157 false]
def afG (p:bp) (f:List Int):Nat->cC
 |9=> .inv Int (λi=>⟨[(2,.ptr 1 0 20),(4,.ptr 2 0 2),(8,.ow 3 (bF (f.take i.toNat) 0).length 1),(9,.ow 4 (bF (f.take i.toNat) 1).length 8),(36,.ow 0 f.length 1),(37,.si .i64 f.length),(38,.si .i64 i)],Vq p f (bF (f.take i.toNat) 0) ((bF (f.take i.toNat) 1).map (oI p))⟩)
   (λs=>iS s 38) (λi=>0<=i/\i<=f.length) (λi=>(f.length - i).toNat) λ_ _=> .look
 |24=> .inv Int (λj=>⟨[(2,.ptr 1 0 20),(4,.ptr 2 0 2),(8,.ow 3 (bF f 0).length 1),(9,.ow 4 (bF f 1).length 8),(12,.ptr 5 0 20),(13,.ptr 6 0 2),(71,.ow 3 (bF f 0).length 1),(72,.si .i64 (bF f 0).length),(73,.si .i64 j)],Ft p f (bF f 0) ((bF f 1).map (oI p)) j.toNat 0 [] (mB p f j.toNat)⟩)
   (λs=>iS s 73) (λj=>0<=j/\j<=(bF f 0).length) (λj=>((bF f 0).length - j).toNat) λ_ _=> .look
 |29=> .inv Int (λr=>⟨[(2,.ptr 1 0 20),(4,.ptr 2 0 2),(8,.ow 3 (bF f 0).length 1),(9,.ow 4 (bF f 1).length 8),(12,.ptr 5 0 20),(13,.ptr 6 0 2),(91,.si .i64 (dm p)),(92,.si .i64 r)],Ft p f (bF f 0) ((bF f 1).map (oI p)) (bF f 0).length r.toNat (nQ p f r.toNat) (mB p f (bF f 0).length)⟩)
   (λs=>iS s 92) (λr=>0<=r/\r<=dm p) (λr=>(dm p - r).toNat) λr k=>match k with
   |33=> .inv Int (λj=>⟨[(2,.ptr 1 0 20),(4,.ptr 2 0 2),(8,.ow 3 (bF f 0).length 1),(9,.ow 4 (bF f 1).length 8),(12,.ptr 5 0 20),(13,.ptr 6 0 2),(16,.si .i64 r),(17,.si .i64 (dD p r - cT p (((bF f 1).map (oI p)).take j.toNat) r)),(91,.si .i64 (dm p)),(92,.si .i64 r),(98,.ow 4 (bF f 1).length 8),(99,.si .i64 (bF f 1).length),(100,.si .i64 j)],Ft p f (bF f 0) ((bF f 1).map (oI p)) (bF f 0).length r.toNat (nQ p f r.toNat) (mB p f (bF f 0).length)⟩)
     (λs=>iS s 100) (λj=>0<=j/\j<=(bF f 1).length) (λj=>((bF f 1).length - j).toNat) λ_ _=> .look
   |39=> .inv Int (λj=>⟨[(2,.ptr 1 0 20),(4,.ptr 2 0 2),(8,.ow 3 (bF f 0).length 1),(9,.ow 4 (bF f 1).length 8),(12,.ptr 5 0 20),(13,.ptr 6 0 2),(16,.si .i64 r),(20,.ptr 9 0 4),(91,.si .i64 (dm p)),(92,.si .i64 r),(114,.ow 3 (bF f 0).length 1),(115,.si .i64 (bF f 0).length),(116,.si .i64 j)],Ft p f (bF f 0) ((bF f 1).map (oI p)) (bF f 0).length r.toNat (nQ p f r.toNat) (mB p f (bF f 0).length)++[.cells [.ow 10 j.toNat 3,.sb (bu ((dD p r - cT p ((bF f 1).map (oI p)) r:Int):Rat)).1,.row (.i .u32) (bu ((dD p r - cT p ((bF f 1).map (oI p)) r:Int):Rat)).2.1,.row (.i .u32) (bu ((dD p r - cT p ((bF f 1).map (oI p)) r:Int):Rat)).2.2] 255 4 false,.row sF (nP p f r j.toNat) 157 false]⟩)
     (λs=>iS s 116) (λj=>0<=j/\j<=(bF f 0).length) (λj=>((bF f 0).length - j).toNat) λ_ _=> .look
   |_=> .look
 |_=> .look
theorem h394w:dJ Tryz.prog LZ:=by
 refine Fq (L:=[pV,qW,Df,xM,xJ,xK]) (W:=[]) LZ (λa=>afG a.1 a.2.2) (by simp) (by simpa using⟨h79,h94,h134,h156,h157,h158⟩) ?_;rintro⟨p,n,f⟩ ⟨hn,⟨⟨hc,hl⟩,hr⟩⟩;simp only at hn;subst hn;simp only at hc hl hr;refine bO (let a:=Ξ .i64;let c:=(0:Int);let d:=bq.row;let e:=bq.cells;let g:=γ8;let h:=(-9223372036854775808:Int);let j:=Ψ;let k:=(1:Int);let l:=(9223372036854775807:Int);let m:=bW .i64;let n:=γr .i64;let o:=γV;let q:=γG;let r:=SV.bH;let R:=SV.sc (Value.slice none 0 0);let L:=bn.i .i64;let ah:=r [q [j sF (mU p f).fst,j sR (mU p f).snd.fst],j L (mU p f).snd.snd,a (if iD p f=true then c else(14:Int))];let s:=d L f 3 true;let I:=(↑f.length:Int);let ai:=p.offers.length;let ae:=(↑ai:Int);let t:=o 1 0 20;let v:=o 2 0 2;let Z:=g 0 f.length 1;let a6:=a I;let a7:=n 0;let aM:=[a p.supply.a0,a p.supply.a1,a p.supply.a2,a p.supply.a3,a p.supply.a4,a p.supply.a5,a p.opn.a0,a p.opn.a1,a p.opn.a2,a p.opn.a3,a p.opn.a4,a p.opn.a5,a p.cls.a0,a p.cls.a1,a p.cls.a2,a p.cls.a3,a p.cls.a4,a p.cls.a5,j L p.classes,j bn.off p.offers];let w:=e aM 27 20 false;let y:=e [R,R] 220 2 false;let aN:=d bn.off [] 39 true;let aj:=bn.off.dflt;let ay:=(↑p.classes.length:Int);let a8:=bn.i .u32;let a9:=bn.b.pair (a8.bK.pair a8.bK);let az:=a9.bK.pair a9;let H:=bF f c;let N:=H.length;let z:=g 3 N 1;let z25:Nat:=(bF f k).length;let A:=g 4 z25 8;let B:=o 5 0 20;let C:=o 6 0 2;let E:=(↑N:Int);let V:=a E;let F:=d L H 3 true;let P:=γj (oI p) (bF f k);let G:=d bn.off P 39 true;let D:=e aM 110 20 false;let af:=[g 7 0 4];let aO:=e (g 8 0 3::af) 220 2 false;let ak:=d sR [] 255 false;let aP:=d a9 [] 157 false;let J:=a (dm p);let al:=g 8 N 3;let aA:=mB p f N;let M:=d sF aA 157 false;let S:=(↑z25:Int);let am:=a S;let an:=o 9 0 4;let aQ:=g 10 0 3;let aR:=λ(u u_1:Int) (u_2:SV) ↦decide (u≠u_1)=true->(r [q [R,R],R,u_2]).same ah/\s.same s/\True;True/\aR (bC p) c (a (bC p))/\(decide (bC p≠c)=false->aR I ae (n 3)/\(decide (I≠ae)=false->(((t.same t/\v.same v/\(g 3 0 1).same (g 3 (bF [] c).length 1)/\(g 4 0 8).same (g 4 (bF [] k).length 8)/\Z.same Z/\a6.same a6/\a7.same (a 0)/\True)/\s.same s/\w.same w/\y.same y/\(d L [] 3 true).same (d L (bF [] c) 3 true)/\aN.same aN/\True)/\c<=c/\c<=I)/\∀(x:Int),let ao:=bF (γd x.toNat f) k;let aS:=g 4 ao.length 8;let O:=x+k;let ap:=γd O.toNat f;let aT:=g 4 (bF ap k).length 8;let aq:=a O;let aU:=g 3 (bF ap c).length 1;let aV:=d L (bF ap c) 3 true;let Q:=γj (oI p) ao;let aW:=d bn.off Q 39 true;let aX:=d bn.off (γj (oI p) (bF ap k)) 39 true;let aB:=bj f x.toNat c;let aY:=decide (aB=(-1:Int));let aa:=bF (γd x.toNat f) c;let ar:=aa.length;let aC:=d L aa 3 true;let aZ:=decide (aB=c);let b0:=aa.length+1;let b1:=decide (aB=k);let b2:=Q.length+1;let aD:=g 3 ar 1;let b3:=Q++[bj p.offers x.toNat aj];let bh:=aS.same aT/\Z.same Z/\a6.same a6/\aq.same aq/\True;let b4:=λ(u:Nat) (u_1:bq) ↦m O/\((t.same t/\v.same v/\(g 3 u 1).same aU/\bh)/\s.same s/\w.same w/\y.same y/\u_1.same aV/\aW.same aX/\True)/\(c<=O/\O<=I)/\(I - O).toNat<(I - x).toNat;c<=x/\x<=I->(decide (x<I)=true->f.length=f.length/\c<=x/\x<(↑f.length:Int)/\f.length=f.length/\x.toNat<f.length/\(aY=true->b4 ar aC)/\(aY=false->(aZ=true->ar=aa.length/\b0*8<=140737488355328/\b0<=1000000000000/\b4 (aa++[x]).length (d L (aa++[x]) 3 true))/\(aZ=false->(b1=true->c<=x/\x<ae/\x.toNat<ai/\ao.length=Q.length/\b2*64<=140737488355328/\b2<=1000000000000/\m O/\((t.same t/\v.same v/\aD.same aU/\(g 4 b3.length 8).same aT/\Z.same Z/\a6.same a6/\aq.same aq/\True)/\s.same s/\w.same w/\y.same y/\aC.same aV/\(d bn.off b3 39 true).same aX/\True)/\(c<=O/\O<=I)/\(I - O).toNat<(I - x).toNat)/\(b1=false->(r [q [R,R],R,n 4]).same ah/\s.same s/\True))))/\(decide (x<I)=false->ao.length=Q.length/\(p.classes.length<=8/\Q.length<=1000/\∀(x:Off),x∈Q->c<=x.bE/\x.bE<ay/\x.want.ok=true)/\((!gd p Q)=true->0=0/\0=0/\0=0/\(r [q [j a9 [],j az []],j L [],n 14]).same ah/\s.same s/\True)/\((!gd p Q)=false->(((t.same t/\v.same v/\aD.same z/\aS.same A/\B.same B/\C.same C/\aD.same z/\(a (↑ar:Int)).same V/\a7.same (a 0)/\True)/\s.same s/\w.same w/\y.same y/\aC.same F/\aW.same G/\D.same D/\aO.same aO/\(d az [] 255 false).same ak/\aP.same (d sF (mB p f 0) 157 false)/\True)/\c<=c/\c<=E)/\∀(x:Int),let au:=bj H x.toNat c;let aE:=(bj p.offers au.toNat aj).value;let av:=mB p f x.toNat;let b5:=av.length+1;let W:=x+k;let b6:=a W;let aF:=bu (γa aE);let b7:=av++[(aF.fst,aF.snd.fst,aF.snd.snd)];c<=x/\x<=E->(decide (x<E)=true->N=H.length/\c<=x/\x<(↑H.length:Int)/\N=H.length/\x.toNat<H.length/\c<=au/\au<ae/\au.toNat<ai/\(h<=aE/\aE<=l)/\1=1/\x.toNat=av.length/\b5*56<=140737488355328/\b5<=1000000000000/\m W/\((t.same t/\v.same v/\z.same z/\A.same A/\B.same B/\C.same C/\z.same z/\V.same V/\b6.same b6/\True)/\s.same s/\w.same w/\y.same y/\F.same F/\G.same G/\D.same D/\(e (g 8 b7.length 3::af) 220 2 false).same (e (g 8 W.toNat 3::af) 220 2 false)/\ak.same ak/\(d a9 b7 157 false).same (d sF (mB p f W.toNat) 157 false)/\True)/\(c<=W/\W<=E)/\(E - W).toNat<(E - x).toNat)/\(decide (x<E)=false->p.classes.length<=8/\(((t.same t/\v.same v/\z.same z/\A.same A/\B.same B/\C.same C/\J.same J/\a7.same (a 0)/\True)/\s.same s/\w.same w/\y.same y/\F.same F/\G.same G/\D.same D/\(e (g 8 x.toNat 3::af) 220 2 false).same (e (al::af) 220 2 false)/\ak.same (d sR (nQ p f 0) 255 false)/\(d sF av 157 false).same M/\True)/\c<=c/\c<=dm p)/\∀(x:Int),let b8:=decide (x<dm p);let T:=e [al,g 7 x.toNat 4] 220 2 false;let ab:=nQ p f x.toNat;let U:=d sR ab 255 false;let ac:=bu (γa (dD p x - cT p P x));let aG:=[γI ac.fst,j a8 ac.snd.fst,j a8 ac.snd.snd];let b9:=ab.length+1;let X:=x+k;let ba:=a X;c<=x/\x<=dm p->(b8=true->(p.classes.length<=8/\c<=x/\x<dm p)/\(((t.same t/\v.same v/\z.same z/\A.same A/\B.same B/\C.same C/\(a x).same (a x)/\(a (dD p x)).same (a (dD p x - cT p [] x))/\J.same J/\(a x).same (a x)/\A.same A/\am.same am/\a7.same (a 0)/\True)/\s.same s/\w.same w/\y.same y/\F.same F/\G.same G/\D.same D/\T.same T/\U.same U/\M.same M/\True)/\c<=c/\c<=S)/\∀(x_1:Int),let aH:=bj P x_1.toNat aj;let aw:=dD p x - cT p (γd x_1.toNat P) x;let bb:=aw - eT p x aH;let ad:=x_1+k;let K:=a x;let bc:=a ad;let aI:=bu (γa aw);c<=x_1/\x_1<=S->(decide (x_1<S)=true->z25=P.length/\c<=x_1/\x_1<(↑P.length:Int)/\z25=P.length/\x_1.toNat<P.length/\(p.classes.length<=8/\c<=x/\x<dm p/\c<=aH.bE/\aH.bE<ay)/\m bb/\m ad/\((t.same t/\v.same v/\z.same z/\A.same A/\B.same B/\C.same C/\K.same K/\(a bb).same (a (dD p x - cT p (γd ad.toNat P) x))/\J.same J/\K.same K/\A.same A/\am.same am/\bc.same bc/\True)/\s.same s/\w.same w/\y.same y/\F.same F/\G.same G/\D.same D/\T.same T/\U.same U/\M.same M/\True)/\(c<=ad/\ad<=S)/\(S - ad).toNat<(S - x_1).toNat)/\(decide (x_1<S)=false->(h<=aw/\aw<=l)/\(((t.same t/\v.same v/\z.same z/\A.same A/\B.same B/\C.same C/\K.same K/\an.same an/\J.same J/\K.same K/\z.same z/\V.same V/\a7.same (a 0)/\True)/\s.same s/\w.same w/\y.same y/\F.same F/\G.same G/\D.same D/\T.same T/\U.same U/\M.same M/\(e [aQ,γI aI.fst,j a8 aI.snd.fst,j a8 aI.snd.snd] 255 4 false).same (e (aQ::aG) 255 4 false)/\aP.same (d sF (nP p f x 0) 157 false)/\True)/\c<=c/\c<=E)/\∀(x_2:Int),let ax:=bj H x_2.toNat c;let aJ:=bj p.offers ax.toNat aj;let aK:=eT p x aJ;let ag:=nP p f x x_2.toNat;let bd:=ag.length+1;let Y:=x_2+k;let be:=a Y;let aL:=bu (γa aK);let bf:=ag++[(aL.fst,aL.snd.fst,aL.snd.snd)];let bg:=ab++[(ag,ac.fst,ac.snd.fst,ac.snd.snd)];c<=x_2/\x_2<=E->(decide (x_2<E)=true->N=H.length/\c<=x_2/\x_2<(↑H.length:Int)/\N=H.length/\x_2.toNat<H.length/\c<=ax/\ax<ae/\ax.toNat<ai/\(p.classes.length<=8/\c<=x/\x<dm p/\c<=aJ.bE/\aJ.bE<ay)/\(h<=aK/\aK<=l)/\1=1/\x_2.toNat=ag.length/\bd*56<=140737488355328/\bd<=1000000000000/\m Y/\((t.same t/\v.same v/\z.same z/\A.same A/\B.same B/\C.same C/\K.same K/\an.same an/\J.same J/\K.same K/\z.same z/\V.same V/\be.same be/\True)/\s.same s/\w.same w/\y.same y/\F.same F/\G.same G/\D.same D/\T.same T/\U.same U/\M.same M/\(e (g 10 bf.length 3::aG) 255 4 false).same (e (g 10 Y.toNat 3::aG) 255 4 false)/\(d a9 bf 157 false).same (d sF (nP p f x Y.toNat) 157 false)/\True)/\(c<=Y/\Y<=E)/\(E - Y).toNat<(E - x_2).toNat)/\(decide (x_2<E)=false->x_2.toNat=ag.length/\1=1/\x.toNat=ab.length/\b9*80<=140737488355328/\b9<=1000000000000/\m X/\((t.same t/\v.same v/\z.same z/\A.same A/\B.same B/\C.same C/\J.same J/\ba.same ba/\True)/\s.same s/\w.same w/\y.same y/\F.same F/\G.same G/\D.same D/\(e [al,g 7 bg.length 4] 220 2 false).same (e [al,g 7 X.toNat 4] 220 2 false)/\(d az bg 255 false).same (d sR (nQ p f X.toNat) 255 false)/\M.same M/\True)/\(c<=X/\X<=dm p)/\(dm p - X).toNat<(dm p - x).toNat)))/\(b8=false->N=aA.length/\x.toNat=ab.length/\N=H.length/\(r [q [j sF aA,j sR ab],j L H,a7]).same ah/\s.same s/\True))))))) (by kernel_rfl) ?_;simp only[vcs];obtain⟨g1,g2,g3,g4,g5⟩:=dn hc;have hoi:∀k:Nat,∀o:Int,o=k->(bj p.offers k bn.off.dflt)=oI p o:=λk o h=>by subst h;rfl
 have hw2:∀{a b:Nat},a=b->(γ8 3 a 1).same (γ8 3 b 1):=by rintro _ _ rfl;rfl
 have hw3:∀{a b:Nat},a=b->(γ8 4 a 8).same (γ8 4 b 8):=by rintro _ _ rfl;rfl
 have lG:∀{x y:List Int},x=y->(bq.row (.i .i64) x 3 true).same (bq.row (.i .i64) y 3 true):=by rintro _ _ rfl;rfl
 have Fv:∀{x y:List Off},x=y->(bq.row .off x 39 true).same (bq.row .off y 39 true):=by rintro _ _ rfl;rfl
 refine⟨λh=>absurd hc h,λ_=>⟨λh=>absurd (by rw[hl]) h,λ_=>⟨⟨⟨⟨hw2 rfl,hw3 rfl⟩,lG rfl⟩,by omega,by omega⟩,?_⟩⟩⟩;rintro i ⟨i0,i1⟩;have htl:(f.take i.toNat).length<=160:=by rw[Ω];omega
 have hd0:=@yL (f.take i.toNat) 0;have hd1:=@yL (f.take i.toNat) 1;have hm1:(γj (oI p) (bF (f.take i.toNat) 1)).length=(bF (f.take i.toNat) 1).length:=γB _;refine⟨λhi=>?_,λhi=>?_⟩
 ·have hs0:=@Lt f 0 i i0 hi;have hs1:=@Lt f 1 i i0 hi;have ag5: -1<=bj f i.toNat 0/\bj f i.toNat 0<=1:=by
   have:=Φ.1 hr _ (cO (d:=0) (show i.toNat<f.length by omega));simpa using this
  refine⟨i0,hi,by omega,λh1=>?_,λh1=>⟨λh2=>?_,λh2=>⟨λh3=>?_,λh3=>by omega⟩⟩⟩
  ·rw[if_neg (by omega),γZ] at hs0 hs1;rw[hs0,hs1];refine⟨?_,⟨⟨hw2 rfl,hw3 rfl⟩,lG rfl,Fv rfl⟩,?_,?_⟩<;>omega
  ·rw[if_pos (by omega)] at hs0;rw[if_neg (by omega),γZ] at hs1;rw[hs0,hs1];refine⟨?_,?_,?_,⟨⟨hw2 rfl,hw3 rfl⟩,lG rfl,Fv rfl⟩,?_,?_⟩<;>omega
  ·rw[if_neg (by omega),γZ] at hs0;rw[if_pos (by omega)] at hs1;rw[hs0,hs1,hoi i.toNat i (by omega),hm1];have e:γj (oI p) (bF (f.take i.toNat) 1)++[oI p i]=γj (oI p) (bF (f.take i.toNat) 1++[i]):=by rw[γb];rfl
   rw[e,γB];refine⟨i0,?_,?_,rfl,?_,?_,?_,⟨⟨hw2 rfl,hw3 rfl⟩,lG rfl,Fv rfl⟩,?_,?_⟩<;>omega
 ·have htk:f.take i.toNat=f:=by rw[show i.toNat=f.length by omega,Δ]
  rw[htk] at hd0 hd1 hm1 ⊢;have hdl:∀d,(bF f d).length<=160:=λd=>by have:=@yL f d;omega
  refine⟨hm1.symm,⟨g1,by omega,λx hx=>?_⟩,λhb=>?_,λhb=>?_⟩
  ·obtain⟨k,hk,rfl⟩:=γg.1 hx;have h1:=(mA.1 hk).1;have:=pB hc (i:=k) (by omega);exact⟨this.1,this.2.1,this.2.2.1⟩
  ·have hb2:iD p f=false:=hb;unfold mU;simp only[hb2];exact⟨rfl,rfl,rfl⟩
  ·have hb2:iD p f=true:=hb;have hG:mU p f=((iC (jz p f)).1,((iC (jz p f)).2,bF f 0)):=by unfold mU;rw[if_pos hb2]
   simp only[hb2,if_true,hG];have hfx:iq p f:=⟨hc,hl,hb⟩;have Bn:∀{x y:List bP},x=y->(bq.row sF x 157 false).same (bq.row sF y 157 false):=by rintro _ _ rfl;rfl
   have Vr:∀{x y:List (List bP×bP)},x=y->(bq.row sR x 255 false).same (bq.row sR y 255 false):=by rintro _ _ rfl;rfl
   have L0:∀{a b c d:Nat},a=b->c=d->(bq.cells [.ow 8 a 3,.ow 7 c 4] 220 2 false).same (bq.cells [.ow 8 b 3,.ow 7 d 4] 220 2 false):=by rintro _ _ _ _ rfl rfl;rfl
   have hc8:∀{a b:Nat} {q q':Rat},a=b->q=q'->(bq.cells [.ow 10 a 3,.sb (bu q).1,.row (.i .u32) (bu q).2.1,.row (.i .u32) (bu q).2.2] 255 4 false).same (bq.cells [.ow 10 b 3,.sb (bu q').1,.row (.i .u32) (bu q').2.1,.row (.i .u32) (bu q').2.2] 255 4 false):=by rintro _ _ _ _ rfl rfl;rfl
   have hn0:=hdl 0;have hn1:=hdl 1;have hfree:∀j:Int,0<=j->j<(bF f 0).length->(0<=bj (bF f 0) j.toNat 0/\bj (bF f 0) j.toNat 0<p.offers.length):=λj h0 h1=>by
    have:=(mA.1 (cO (d:=0) (show j.toNat<(bF f 0).length by omega))).1;omega
   refine⟨⟨⟨⟨hw2 rfl,hw3 rfl,hw2 rfl,trivial⟩,lG rfl,Fv rfl,Bn rfl⟩,by omega,by omega⟩,?_⟩;rintro j ⟨j0,j1⟩;have hgl:=@Ly p f j.toNat (by omega);refine⟨λhj=>?_,λhj=>?_⟩
   ·have hk:=hfree j j0 hj;have ho:=pB hc hk;have hs:=@ae4 p f j j0 hj;have afH:=@Ly p f (j+1).toNat (by omega);rw[hoi _ (bj (bF f 0) j.toNat 0) (by omega)];simp only[kN];have e:mB p f j.toNat++[bu (γa (oI p (bj (bF f 0) j.toNat 0)).value)]=mB p f (j+1).toNat:=hs.symm;rw[e];refine⟨j0,hj,?_,hk.1,hk.2,?_,?_,?_,?_,?_,?_,⟨L0 afH rfl,Bn rfl⟩,?_,?_⟩<;>omega
   ·rw[show j.toNat=(bF f 0).length by omega];have hnr:dm p=p.classes.length+12:=rfl;refine⟨g1,⟨⟨L0 rfl rfl,Vr rfl,Bn rfl⟩,by omega,by omega⟩,?_⟩;rintro r ⟨r0,r1⟩;have hrl:=@U7 p f r.toNat;refine⟨λhr2=>⟨⟨g1,r0,hr2⟩,⟨by simp[cT],by omega,by omega⟩,?_⟩,λhr2=>?_⟩
    ·rintro k ⟨k0,k1⟩;have hok:∀x∈(γj (oI p) (bF f 1)).take k.toNat,x.want.ok=true:=λx hx=>(EZ hfx x (γm hx)).2.2.1;have hsb:=@uh p r ((γj (oI p) (bF f 1)).take k.toNat) hok;have afI:((γj (oI p) (bF f 1)).take k.toNat).length<=160:=by rw[Ω];omega
     have hbb:=@EP p hc r;refine⟨λhk=>?_,λhk=>?_⟩
     ·have hx:=EZ hfx _ (cO (d:=bn.off.dflt) (show k.toNat<(γj (oI p) (bF f 1)).length by omega));have hst:=@HO p r (γj (oI p) (bF f 1)) k bn.off.dflt k0 (by omega);have hcb:=@rL p r _ hx.2.2.1;refine⟨?_,k0,?_,?_,?_,⟨g1,r0,hr2,hx.1,hx.2.1⟩,?_,?_,?_,?_,?_⟩<;>omega
     ·have e:(γj (oI p) (bF f 1)).take k.toNat=γj (oI p) (bF f 1):=List.take_of_length_le (by omega);rw[e] at hsb afI ⊢;refine⟨by omega,⟨⟨hc8 rfl rfl,Bn rfl⟩,by omega,by omega⟩,?_⟩;rintro l ⟨l0,l1⟩;have hcl:=@U6 p f r l.toNat (by omega);refine⟨λhl2=>?_,λhl2=>?_⟩
      ·have hk:=hfree l l0 hl2;have ho:=pB hc hk;have hs:=@ae5 p f r l l0 hl2;have afJ:=@U6 p f r (l+1).toNat (by omega);have hcb:=@rL p r _ ho.2.2.1;rw[hoi _ (bj (bF f 0) l.toNat 0) (by omega)];simp only[kN];have e:nP p f r l.toNat++[bu (γa (eT p r (oI p (bj (bF f 0) l.toNat 0))))]=nP p f r (l+1).toNat:=hs.symm;rw[e];refine⟨l0,hl2,?_,hk.1,hk.2,?_,⟨g1,r0,hr2,ho.1,ho.2.1⟩,?_,?_,?_,?_,?_,⟨hc8 afJ rfl,Bn rfl⟩,?_,?_⟩<;>omega
      ·rw[show l.toNat=(bF f 0).length by omega] at hcl ⊢;have hs:=@ae6 p f r r0;have hrl2:=@U7 p f (r+1).toNat;simp only[kN];have e:nQ p f r.toNat++[(nP p f r (bF f 0).length,bu (γa (dD p r - cT p (γj (oI p) (bF f 1)) r)))]=nQ p f (r+1).toNat:=hs.symm;rw[e];refine⟨hcl.symm,hrl.symm,?_,?_,?_,⟨L0 rfl hrl2,Vr rfl⟩,?_,?_⟩<;>omega
    ·have e:r.toNat=mF p:=by
      show r.toNat=p.classes.length+12;omega
     rw[e] at hrl ⊢;rw[U4,U5];refine⟨?_,hrl.symm.trans (by rw[U5]),rfl,trivial,trivial⟩;rw[<-U4];exact(Ly (φ _)).symm
noncomputable def L1:cZ:=LX 115 (λp f=>f.length<=1000000000000) λp f=> .bH [afc p f,.si .i64 (kS p f)]
noncomputable def Vs (p:bp) (f:List Int) (x:List bP):bX:=
 [.row (.i .i64) f 3 true,.cells p.ss 27 20 false,.cells [.bl false,.bl false,.sc (.slice none 0 0),.sc (.slice none 0 0),.sc (.slice none 0 0),.sc (.slice none 0 0)] 176 6 false,.cells [.row sF (mU p f).1,.row sR (mU p f).2.1] 220 2 false,
  .cells [.si .i64 1,.sb (bu (fc p f).value).1,.row (.i .u32) (bu (fc p f).value).2.1,.row (.i .u32) (bu (fc p f).value).2.2,.row sF (fL (gl (fc p f) (nF f) (mF p))),.row sF (fL (yP p f)),.row sF []] 224 7 false,.row sF x 157 true]
noncomputable def afK (p:bp) (f:List Int):Nat->cC
 |12=> .inv Int (λi=>⟨[(1,.ow 0 f.length 1),(2,.ptr 1 0 20),(4,.ptr 2 0 6),(8,.row (.i .i64) (bF f 0)),(10,.ptr 4 0 7),(11,.ow 5 f.length 3),(45,.ow 0 f.length 1),(46,.si .i64 f.length),(47,.si .i64 i)],Vs p f (fu (fL (jQ p f 0)) i.toNat (false,([],[])))⟩)
   (λs=>iS s 47) (λi=>0<=i/\i<=f.length) (λi=>(f.length - i).toNat) λ_ _=> .look
 |19=> .inv Int (λk=>⟨[(1,.ow 0 f.length 1),(2,.ptr 1 0 20),(4,.ptr 2 0 6),(10,.ptr 4 0 7),(11,.ow 5 f.length 3),(63,.row (.i .i64) (bF f 0)),(64,.si .i64 (bF f 0).length),(65,.si .i64 k)],Vs p f (fL (jQ p f k.toNat))⟩)
   (λs=>iS s 65) (λk=>0<=k/\k<=(bF f 0).length) (λk=>((bF f 0).length - k).toNat) λ_ _=> .look
 |_=> .look
theorem h390w:dJ Tryz.prog L1:=by
 refine Fq (L:=[Lu,Lr,qW,Ax]) (W:=[LZ,LY]) L1 (λa=>afK a.1 a.2.2) (by simpa using⟨h394w,h396w⟩) (by simpa using⟨h393,h395,h94,h129⟩) ?_;rintro⟨p,n,f⟩ ⟨hn,hl:f.length<=1000000000000⟩;simp only at hn;subst hn;refine bO (let c:=Ξ .i64;let d:=(0:Int);let e:=Ψ;let g:=bq.row;let h:=(-9223372036854775808:Int);let j:=(9223372036854775807:Int);let k:=bq.cells;let l:=(1:Int);let m:=γI;let n:=SV.bH;let o:=γV;let q:=γG;let Q:=δw false;let v:=bn.i .u32;let a6:=bn.b.pair (v.bK.pair v.bK);let ah:=q [Q,Q,e v [],e v [],e a6 [],e a6 []];let ai:=[c (kS p f)];let a7:=n (q [m (jS p f),m (ki p f).fst,e v (ki p f).snd.fst,e v (ki p f).snd.snd,e sF (ra p f),e sF (kj p f)]::ai);let R:=bn.i .i64;let t:=g R f 3 true;let aj:=decide (kS p f≠d);let ak:=decide ((if iD p f=true then d else(14:Int))≠d);let S:=γr .i64 0;let T:=(mU p f).fst;let a8:=(mU p f).snd.fst;let a9:=c 0;let s:=(↑f.length:Int);let w:=γ8 0 f.length 1;let y:=o 1 0 20;let z:=o 2 0 6;let J:=bF f d;let G:=e R J;let A:=o 4 0 7;let H:=γ8 5 f.length 3;let U:=c s;let B:=k [c p.supply.a0,c p.supply.a1,c p.supply.a2,c p.supply.a3,c p.supply.a4,c p.supply.a5,c p.opn.a0,c p.opn.a1,c p.opn.a2,c p.opn.a3,c p.opn.a4,c p.opn.a5,c p.cls.a0,c p.cls.a1,c p.cls.a2,c p.cls.a3,c p.cls.a4,c p.cls.a5,e R p.classes,e bn.off p.offers] 27 20 false;let V:=SV.sc (Value.slice none 0 0);let C:=k [Q,Q,V,V,V,V] 176 6 false;let D:=k [e sF T,e sR a8] 220 2 false;let al:=c 1;let aa:=γj (λ(r:List bP×bP) ↦(vL r.fst,ck r.snd)) a8;let P:=nO (vL T,aa);let z31:Nat:=(vL T).length;let K:=bu (fc p f).value;let W:=fL (gl (fc p f) (nF f) (mF p));let am:=e sF (fL (yP p f));let I:=k [al,m K.fst,e v K.snd.fst,e v K.snd.snd,e sF W,am,e sF []] 224 7 false;let X:=(false,[],[]);let Y:=fL (jQ p f 0);let ab:=bu (γa d);let ac:=bu (γa l);let E:=(↑J.length:Int);let ad:=c E;let ae:=bu (γa (kT p f));let an:=(ae.fst,ae.snd.fst,ae.snd.snd);let ao:=(K.fst,K.snd.fst,K.snd.snd);let af:=bu (ck an+ck ao);let ap:=λ(u:Bool) (u_1:SV) ↦u=true->0=0/\0=0/\0=0/\0=0/\(n [ah,u_1]).same a7/\t.same t/\True;f.length=f.length/\f.length<=1000000000000/\(aj=true->0=0/\0=0/\0=0/\0=0/\(n (ah::ai)).same a7/\t.same t/\True)/\(aj=false->(f.length=f.length/\(bC p=d/\f.length=p.offers.length)/\jP f=true)/\ap ak S/\(ak=false->(∃(a:Lp),(T,a8)=iC a/\Bh a)/\ap false a9/\(false=false->d<=s/\s<=s/\s*(56:Int)<=(140737488355328:Int)/\s<=(1000000000000:Int)/\(((w.same w/\y.same y/\z.same z/\(e R (mU p f).snd.snd).same G/\A.same A/\(γ8 5 s.toNat 3).same H/\w.same w/\U.same U/\S.same a9/\True)/\t.same t/\B.same B/\C.same C/\D.same D/\(k [al,m (bu P.value).fst,e v (bu P.value).snd.fst,e v (bu P.value).snd.snd,e sF (fL (gl P z31 aa.length)),e sF (fL (kR P z31 aa.length z31)),e sF []] 224 7 false).same I/\(g a6 (ε s.toNat X) 157 true).same (g sF (fu Y 0 X) 157 true)/\True)/\d<=d/\d<=s)/\∀(x:Int),let L:=x+l;let aq:=c L;let M:=fu Y x.toNat X;let ar:=decide (bj f x.toNat d=l);let N:=M.set x.toNat (ab.fst,ab.snd.fst,ab.snd.snd);let au:=λ(u:List (Bool×List Int×List Int)) ↦bW .i64 L/\((w.same w/\y.same y/\z.same z/\G.same G/\A.same A/\H.same H/\w.same w/\U.same U/\aq.same aq/\True)/\t.same t/\B.same B/\C.same C/\D.same D/\I.same I/\(g sF u 157 true).same (g sF (fu Y L.toNat X) 157 true)/\True)/\(d<=L/\L<=s)/\(s - L).toNat<(s - x).toNat;d<=x/\x<=s->(decide (x<s)=true->f.length=f.length/\d<=x/\x<(↑f.length:Int)/\f.length=f.length/\x.toNat<f.length/\(h<=d/\d<=j)/\f.length=M.length/\d<=x/\x<(↑M.length:Int)/\f.length=M.length/\x.toNat<M.length/\(ar=true->(h<=l/\l<=j)/\f.length=N.length/\d<=x/\x<(↑N.length:Int)/\f.length=N.length/\x.toNat<N.length/\au (N.set x.toNat (ac.fst,ac.snd.fst,ac.snd.snd)))/\(ar=false->au N))/\(decide (x<s)=false->(((w.same w/\y.same y/\z.same z/\A.same A/\H.same H/\G.same G/\(c (↑J.length:Int)).same ad/\S.same a9/\True)/\t.same t/\B.same B/\C.same C/\D.same D/\I.same I/\(g sF M 157 true).same (g sF Y 157 true)/\True)/\d<=d/\d<=E)/\∀(x:Int),let F:=fL (jQ p f x.toNat);let Z:=bj J x.toNat d;let O:=x+l;let av:=c O;let ag:=bj W x.toNat sF.dflt;d<=x/\x<=E->(decide (x<E)=true->d<=x/\x<(↑J.length:Int)/\x.toNat<J.length/\d<=x/\x<(↑W.length:Int)/\x.toNat<W.length/\f.length=F.length/\d<=Z/\Z<(↑F.length:Int)/\f.length=F.length/\Z.toNat<F.length/\bW .i64 O/\((w.same w/\y.same y/\z.same z/\A.same A/\H.same H/\G.same G/\ad.same ad/\av.same av/\True)/\t.same t/\B.same B/\C.same C/\D.same D/\I.same I/\(g sF (F.set Z.toNat (ag.fst,ag.snd.fst,ag.snd.snd)) 157 true).same (g sF (fL (jQ p f O.toNat)) 157 true)/\True)/\(d<=O/\O<=E)/\(E - O).toNat<(E - x).toNat)/\(decide (x<E)=false->(f.length=f.length/\bC p=d/\f.length=p.offers.length)/\(de an/\de ao)/\f.length=F.length/\f.length=F.length/\(n [q [δw true,m af.fst,e v af.snd.fst,e v af.snd.snd,am,e sF F],S]).same a7/\t.same t/\True)))))) (by kernel_rfl) ?_;simp only[vcs];have hz:jS p f=false->(γG [δw false,δw false,Ψ (bn.i IntKind.i64) [],Ψ (bn.i IntKind.i64) [],Ψ (bn.i IntKind.i64) [],Ψ (bn.i IntKind.i64) []]).same
   (γG [γI (jS p f),γI (ki p f).fst,Ψ (bn.i IntKind.u32) (ki p f).snd.fst,Ψ (bn.i IntKind.u32) (ki p f).snd.snd,Ψ sF (ra p f),Ψ sF (kj p f)]):=λh=>by
  unfold ki ra kj;simp only[h];rfl
 refine⟨hl,λh=>hz (by unfold jS;rw[decide_eq_false h];rfl),λh=>?_⟩;have hx0:kS p f=0:=ω.1 h;have hcl:bC p=0/\f.length=p.offers.length/\jP f=true:=by
  unfold kS at hx0;split at hx0;·rename_i h1;exact absurd hx0 h1
  ·rename_i h1;split at hx0;·cases hx0
   ·rename_i h2;split at hx0;·rename_i h3;exact⟨ω.1 h1,ω.1 h2,h3⟩
    ·cases hx0
 obtain⟨hc,hln,hr⟩:=hcl;refine⟨⟨⟨hc,hln⟩,hr⟩,λh1=>⟨hz ?_,hx0.symm⟩,λh1=>?_⟩
 ·have hb:iD p f=false:=by
   cases hb:iD p f with
   |false=>rfl;|true=>rw[hb] at h1;exact absurd rfl h1
  unfold jS;rw[hb,Bool.and_false]
 ·have hb:iD p f=true:=by
   cases hb:iD p f with
   |true=>rfl;|false=>rw[hb] at h1;exact absurd (by simp) h1
  have hfx:iq p f:=⟨hc,hln,hb⟩;have hG:mU p f=((iC (jz p f)).1,((iC (jz p f)).2,bF f 0)):=by unfold mU;rw[if_pos hb]
  have hok:jS p f=true:=by unfold jS;rw[hb,decide_eq_true hx0];rfl
  have h0:(γa 0:Rat)=0:=rfl;have h1':(γa 1:Rat)=1:=rfl;simp only[hG,U1,U2,h0,h1',kN];have e1:(jz p f).1.length=nF f:=by
   show((bF f 0).map _).length=_;rw[γB]
  have e2:(jz p f).2.length=mF p:=by
   show((dS (mF p)).map _).length=_;rw[γB,jy]
  have Ls:((jz p f).1,(jz p f).2)=jz p f:=rfl;simp only[Ls,ae8,e1,e2];have uN:∀{x y:List bP},x=y->(bq.row sF x 157 true).same (bq.row sF y 157 true):=by rintro _ _ rfl;rfl
  have hs0:=@yQ p f 0;have hf0:=@fN (jQ p f 0);have hpt:=@E4 (fc p f) (nF f) (mF p);have hfp:=@fN (gl (fc p f) (nF f) (mF p));have hcast:∀k:Nat,((k:Nat):Int).toNat=k:=λk=>γt k;have hnf:nF f=(bF f 0).length:=rfl;have hdl0:=@yL f 0;refine⟨⟨jz p f,rfl,ae7 hfx⟩,λh=>(by cases h),λ_=>⟨by omega,by omega,by omega,by omega,⟨⟨⟨trivial,by rw[hcast];rfl⟩,rfl,uN (by rw[Bd,hf0,hs0,hcast])⟩,by omega,by omega⟩,?_⟩⟩;rintro i ⟨i0,i1⟩;have oP:=@Bc (fL (jQ p f 0)) i.toNat (false,([],[])) (by omega);refine⟨λhi=>?_,λhi=>?_⟩
  ·have hv:bj (fL (jQ p f 0)) i.toNat (false,([],[]))=bu (if bj f i.toNat 0=1 then 1 else 0):=by rw[js (by omega),afb (by omega)]
   have hset:∀x:bP,x=bu (if bj f i.toNat 0=1 then 1 else 0)->(fu (fL (jQ p f 0)) i.toNat (false,([],[]))).set i.toNat x=fu (fL (jQ p f 0)) (i+1).toNat (false,([],[])):=λx hx=>by
    have:=Bf (d:=fL (jQ p f 0)) (j:=i.toNat) (z:=(false,([],[]))) (x:=x) (by omega) (hx.trans hv.symm);rw[show(i+1).toNat=i.toNat+1 by omega];exact this
   rw[γe];refine⟨i0,hi,by omega,by omega,by omega,i0,by omega,by omega,by omega,λh1=>⟨by omega,by omega,i0,by omega,by omega,by omega,by omega,uN ?_,by omega,by omega⟩,λh1=>⟨by omega,uN ?_,by omega,by omega⟩⟩
   ·rw[List.set_set];exact hset _ (by rw[if_pos h1])
   ·exact hset _ (by rw[if_neg h1])
  ·have hi2:i.toNat=(fL (jQ p f 0)).length:=by omega
   rw[hi2,Be];refine⟨⟨uN rfl,by omega,by omega⟩,?_⟩;rintro k ⟨k0,k1⟩;have hsk:=@yQ p f k.toNat;have hfk:=@fN (jQ p f k.toNat);refine⟨λhk=>?_,λhk=>?_⟩
   ·have hm:=(mA.1 (cO (d:=0) (show k.toNat<(bF f 0).length by omega))).1;have hv:bj (fL (gl (fc p f) (nF f) (mF p))) k.toNat sF.dflt=bu (bj (gl (fc p f) (nF f) (mF p)) k.toNat 0):=js (by omega);have hst:=@afa p f k.toNat (by omega);rw[hv];refine⟨k0,hk,by omega,k0,by omega,by omega,by omega,hm.1,by omega,by omega,by omega,by omega,uN ?_,by omega,by omega⟩;rw[yN,show(k+1).toNat=k.toNat+1 by omega,hst]
   ·have hk2:k.toNat=nF f:=by omega
    rw[hk2] at hsk hfk ⊢;have hab:=@Lx p hc f f.length hln;rw[Δ] at hab;have hsa:Sz 1 ((kT p f:Int):Rat):=by
     unfold Sz;rw[Rat.num_intCast,Rat.den_intCast];omega
    have hsv:Sz 1000000 (fc p f).value:=by
     have:=(E0 hfx).wi (rZ hfx).1;exact this.2.2.2
    refine⟨⟨hc,hln⟩,⟨ei hsa (by omega),ei hsv (by omega)⟩,by omega,by omega,?_,hx0.symm⟩;unfold ki ra kj;simp only[hok,if_true,fa];rfl
end Go.Vi
