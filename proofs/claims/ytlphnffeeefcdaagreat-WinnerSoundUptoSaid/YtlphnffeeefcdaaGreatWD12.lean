/-
  Plain law: the reference's look at a tree of nodes.
  Conditions: none.
-/
import Derived.Test.YtlphnffeeefcdaaGreatWD06
import Derived.Test.YtlphnffeeefcdaaGreatWD07
import Derived.Test.YtlphnffeeefcdaaGreatWD08
import Derived.Test.YtlphnffeeefcdaaGreatWD10
import Derived.Test.YtlphnffeeefcdaaGreatWD09
import Derived.Test.YtlphnffeeefcdaaGreatWD11
set_option maxRecDepth 100000
set_option maxHeartbeats 4000000
set_option linter.all false
open Bool renaming and_eq_true->ζ,false_ne_true->ε4
open Classical renaming not_not->Ξ
open Go.Vi.AV.os renaming injEq->εF
open Go.Vi.AV.sc renaming injEq->γ9
open Go.Vi.SV renaming bl->δa,sb->γw,si->γe,row->Θ,fn->ζz,ow->γS,ptr->γP,il->γx,agg->γQ
open Int renaming toNat_natCast->Ψ,toNat_of_nonneg->εu
open IntCast renaming intCast->ι
open List renaming all_eq_true->κ,mem_of_mem_take->γd,range_eq_range'->δC,take_append_drop->γH,map_cons->ξ,map_nil->γs,length->γf,replicate->δ,take->ω,take_length->π,map->γc,length_take->γq,length_map->Ω,append_nil->γL,mem_map->γa,length_set->τ
open List.cons renaming injEq->Δ
open Option.some renaming injEq->γ
namespace Go.Vi
theorem J5 {p:bn} {f:List Int} {d:Int} (h:f.length=p.offers.length):eL p.offers.length (bC f d):=⟨sD,λi a=>by grind[kh]⟩
theorem yw {a:Type} {l:List a} {i:Nat} {x d:a} (h:l[i]?=some x):bj l i d=x/\i<l.length:=by
 grind[bj]
theorem jb.top {p:bn} {v:Int} {t:List cQ} {a lo b:Nat} {f:List Int} (h:jb p v t a f lo b):a<t.length/\(lo<b->b<=t.length):=by
 induction h with
 |bnd c _ _=>grind;|con c _=>grind;|@sL a f lo d b k c _ _ _ g e i j=>
  omega
def EG (p:iR) (lo:Nat) (Λ:Nat->cC):IR->cq->(cq->Prop)->Prop
 | .skip,b,K=>K b
 | .seq x y,b,K=>wpS p lo x Λ b λc a=>match c with
  | .norm=>EG p lo Λ y a K
  |_=>False
 |_,_,_=>False
def AY (p:iR) (Λ:Nat->cC) (F:eZ) (args:List SV) (o:bZ) (Q:SV->bZ->Prop):Prop:=
 match F.body with
 | .sW g c d a b=>EG p o.length Λ a ⟨mU 0 args,o⟩ λe=>wpS p e.o.length b Λ ⟨(d,.ud)::e.env,e.o⟩ λi j=>if qS i=true then
   (match p.it g with
    |some G=>if(c.map (jw e.env)).length=G.params/\G.res.isEmpty=true then wpS p j.o.length G.body (λn=>Λ (1000+n)) ⟨mU 0 (c.map (jw e.env)),j.o⟩ λf h=>if qS f=true then
      nO ⟨j.env,h.o⟩ F.res λr=>if r.cj o.length&&h.o.all (λx=>x.cj o.length)&&decide (o.length<=h.o.length) then Q r (h.o.take o.length) else False
     else False else False
    |none=>False) else False
 |_=>False
section
variable {P:Program} {T:Tab} {p:iR} {Λ:Nat->cC}
theorem adF (i:pA T.K p.C) (j:∀f F,p.it f=some F->T.fn f=some F) {lo:Nat}:∀{a:IR} {st:cq} {K:cq->Prop},EG p lo Λ a st K->∃s0:cq,(∃N,∀n,N<=n->qR (exec T .plain n lo) a st.g=some s0.g)/\K s0:=by
 intro a;induction a with
 |skip=>intro st K h;exact⟨st,⟨0,λ_ _=>rfl⟩,h⟩;|seq x y _ d=>
  intro st K h;simp only[EG] at h;obtain⟨c,s,⟨N,e⟩,r,rfl,b⟩:=vm i j h;cases c with
  |norm=>
   obtain⟨s0,⟨M,m⟩,k⟩:=d b;refine⟨s0,⟨N+M,λn o=>?_⟩,k⟩;simp only[qR,e n n (by omega) (by omega)];grind;|exit q=>exact b.elim;|ret=>exact b.elim;|goto l=>exact b.elim
 |_=>intro st K h;exact h.elim
theorem adG (J:kB P T) (u:pA T.K p.C) (n:∀f F,p.it f=some F->T.fn f=some F) {f:FuncId} {F:eZ} (S:T.fn f=some F) {args:List SV} {o:bZ} {r:AV} {o':Store} (V:T.K f (gL args) (gO o) true=none) (B:args.length=F.params)
  {Q:SV->bZ->Prop} (A:∀v s,Q v s->v.g=r/\gO s=o') (h:AY p Λ F args o Q):gA P f=true/\kP P f (gL args) (gO o) r o':=by
 unfold AY at h;split at h
 ·rename_i g a d ia ib Z;obtain⟨b,h1,h⟩:=adF u n h;obtain⟨O,U,h2,c,rfl,h⟩:=vm u n h;split at h
  ·rename_i k;split at h
   ·rename_i G hG;split at h
    ·rename_i Y;obtain⟨D,I,h3,i,rfl,h⟩:=vm u n h;split at h
     ·rename_i j;obtain⟨t,k1,m⟩:=xo h;split at m
      ·rename_i y;simp only[ζ,decide_eq_true_eq,κ] at y;obtain⟨⟨a2,L⟩,N⟩:=y;have R:(cq.mk (mU 0 args) o).g=⟨iu 0 (gL args),gO o⟩:=by simp[cq.g,vn]
       have w:(gO o).length=o.length:=nQ o;have a1:b.g.o.length=b.o.length:=nQ b.o;have a0:c.g.o.length=c.o.length:=nQ c.o;have H:a.map (eF b.g.env)=gL (a.map (jw b.env)):=by
        rw[fU,List.map_map];refine List.map_congr_left λx _=>?_;show eF (gE b.env) x=_;grind[zp]
       have z:(cq.mk ((d,.ud)::b.env) b.o).g=⟨(d,.ud)::b.g.env,b.g.o⟩:=by simp[cq.g,gE,SV.g]
       have E:(cq.mk (mU 0 (a.map (jw b.env))) c.o).g=⟨iu 0 (gL (a.map (jw b.env))),c.g.o⟩:=by simp[cq.g,vn]
       have W:(cq.mk c.env i.o).g=⟨c.g.env,i.g.o⟩:=rfl;have q:∀x∈gO i.o,x.cj o.length=true:=by
        grind[gO,Cd]
       have l:finish true (gO o).length t.g i.g.o=some (r,o'):=by
        simp only[finish,if_true,w];have e:lC o.length t.g i.g.o=some (t.g,(i.g.o).take o.length):=OS (by grind[zq]) q (by show o.length<=(gO i.o).length;grind[nQ]);rw[e,<-(A _ _ m).1,<-(A _ _ m).2];simp_all[cq.g,gO]
       obtain⟨X,M,_⟩:=X8 J S Z (own:=true) V (by grind[jM]) (s0:=b.g) (s2:=c.g) (s3:=i.g) (by simp_all) (by simp_all) k (n g G hG) (by grind) Y.2 (by simp_all) j (by simp_all) l;exact⟨X,M⟩
      ·exact m.elim
     ·exact h.elim
    ·exact h.elim
   simp_all
  ·exact h.elim
 simp_all
end
theorem TW {P:Program} {d:FuncId->Option eZ} {L:List bL} {W:List dF} (c:dF) {F:eZ} {k:TypeId->Option bp} {e:List Nat×Bool->Option (bp×bp)} {Λ:c.α->Nat->cC}
  (n:kB P ⟨d,λ_ _ _ _=>none⟩) (i:∀c∈W,dZ P c) (o:∀c∈L,Holds P c)
  (l:d c.f=some F) (b:∀a,(c.put a).length=F.params)
  (a:c.α) (m:mZ c.f W=none)
  (h:AY (kR L (gB W) k e d) (Λ a) F (c.put a) (c.st a) λv s=>v.same (c.res a)/\jY s (c.out a)):
  gA P c.f=true/\kP P c.f (gL (c.put a)) (gO (c.st a)) (c.res a).g (gO (c.out a)):=by
 refine adG (p:=kR L (gB W) k e d) (Λ:=Λ a) (Q:=λv s=>v.same (c.res a)/\jY s (c.out a)) (rZ (ln i) o n) (r7 (ln i)) (λ_ _ h=>h) l ?_ (b a) (λv s j=>⟨j.1,xn j.2⟩) h;simp_all[pB,rc,gB,tL]
theorem adH {k:Nat} {r a:AV} {o mid o2:Store} (c:r.bU o (λi=>decide (k<=i))=some a) (g:ju o (λi=>decide (k<=i)) o=some mid) (e:fA (λi=>decide (k<=i)) 0 mid=o2) (f:a.cj k=true) (d:∀x∈o2,x.cj k=true) (l:k<=o2.length):lC k r o=some (a,o2.take k):=by
 unfold lC;rw[c,g];simp only[e];have m:∀x∈o2.take k,x.cj k=true:=λx h=>d x (γd h);rw[OM (by grind[ei,G6])];have j:iI.pd (List.range k)=true:=by rw[δC];exact nodup_range'
 rw[if_pos j,Cm f];have b:=G5 (k:=k) (o:=o2) m l (n:=k) (s:=0) (by omega);rw[<-δC,List.drop_zero] at b;rw[b]
def EH (k:Nat) (r:SV) (o:bZ) (K:SV->bZ->Prop):Prop:=
 kS o k r λb=>oM o k 0 o λa=>if b.cj k&&a.all (λx=>x.cj k)&&decide (k<=a.length) then K b (a.take k) else False
theorem adI {k:Nat} {r:SV} {o:bZ} {K:SV->bZ->Prop} (h:EH k r o K):∃r' o',lC k r.g (gO o)=some (r'.g,gO o')/\K r' o':=by
 unfold EH at h;obtain⟨l,p,f⟩:=Hq h;obtain⟨c,i,n,m,a⟩:=xx f;split at a
 ·rename_i b;simp only[ζ,decide_eq_true_eq,κ] at b;obtain⟨⟨d,j⟩,e⟩:=b;refine⟨l,c.take k,?_,a⟩;simp_all[adH,zq,gO,Cd]
 simp_all
def EI (p:iR) (Λ:Nat->cC) (F:eZ) (args:List SV) (o:bZ) (Q:SV->bZ->Prop):Prop:=
 wpS p o.length F.body Λ ⟨mU 0 args,o⟩ λa b=>match a with
  | .exit _=>False
  | .goto _=>False
  |_=>nO b F.res λr=>EH o.length r b.o Q
theorem adJ {P:Program} {T:Tab} {p:iR} {Λ:Nat->cC} (A:kB P T) (t:pA T.K p.C) (y:∀f F,p.it f=some F->T.fn f=some F) {f:FuncId} {F:eZ} (n:T.fn f=some F) {args:List SV} {o:bZ} {r:AV} {o':Store} (z:T.K f (gL args) (gO o) true=none) (j:args.length=F.params)
  {Q:SV->bZ->Prop} (D:∀v s,Q v s->v.g=r/\gO s=o') (h:EI p Λ F args o Q):gA P f=true/\kP P f (gL args) (gO o) r o':=by
 unfold EI at h;have e:=vm t y h;have d:(cq.mk (mU 0 args) o).g=⟨iu 0 (gL args),gO o⟩:=by simp[cq.g,vn]
 rw[d] at e;have i:(gO o).length=o.length:=nQ o;rw[<-i] at e;have x:∀(a:cq),(nO a F.res λv=>EH (gO o).length v a.o Q)->(nG a.g F.res).bind (λc=>finish true (gO o).length c a.g.o)=some (r,o'):=by
  intro a m;obtain⟨c,k,l⟩:=xo m;obtain⟨u,q,w,E⟩:=adI l;rw[k];simp only[Option.bind_some,finish,if_true];have:lC (gO o).length c.g a.g.o=some (u.g,gO q):=w;grind
 obtain⟨k,l,_⟩:=BX A n (o:=gO o) (own:=true) z (by grind[jM]) (v:=r) (o':=o') (e.mono λb s B=>by
  obtain⟨a,rfl,m⟩:=B;cases b<;>simp_all);simp_all
theorem adK {P:Program} {d:FuncId->Option eZ} {L:List bL} {W:List dF} (c:dF) {F:eZ} {k:TypeId->Option bp} {e:List Nat×Bool->Option (bp×bp)} {Λ:c.α->Nat->cC}
  (n:kB P ⟨d,λ_ _ _ _=>none⟩) (i:∀c∈W,dZ P c) (o:∀c∈L,Holds P c)
  (l:d c.f=some F) (b:∀a,(c.put a).length=F.params)
  (a:c.α) (m:mZ c.f W=none)
  (h:EI (kR L (gB W) k e d) (Λ a) F (c.put a) (c.st a) λv s=>v.same (c.res a)/\jY s (c.out a)):
  gA P c.f=true/\kP P c.f (gL (c.put a)) (gO (c.st a)) (c.res a).g (gO (c.out a)):=by
 refine adJ (p:=kR L (gB W) k e d) (Λ:=Λ a) (Q:=λv s=>v.same (c.res a)/\jY s (c.out a)) (rZ (ln i) o n) (r7 (ln i)) (λ_ _ h=>h) l ?_ (b a) (λv s j=>⟨j.1,xn j.2⟩) h;simp_all[pB,rc,gB,tL]
open Go.Proofs.YtlphnffeeefcdaaGreat.Ir
open Go.Proofs
structure dO where
 p:bn
 ch:List Int
 val:Int
 found:Bool
 en:Option Int
 k1:Nat
 k2:Nat
 most:Int
 err:Int
 prf:List cQ
 fx:List Int
def dO.cs (x:dO) (e:SV) (i j:Nat):List SV:=[.row (.i .i64) x.ch,.si .i64 x.val,.sb x.found,e,.ow i x.k1 5,.ow j x.k2 1,.si .i64 x.most,.si .i64 x.err]
def dO.yx (x:dO):bZ:=[.cells (x.p.ss++x.cs (.fn (.func 45) [] []) 1 2) 85 28 false,.row bA x.prf 68 true,.row (.i .i64) x.fx 3 true]
def dO.yy (x:dO) (m:Int):bZ:=[.cells (x.p.ss++x.cs (.fn (.func 89) [] [.ptr 1 0 1]) 2 3) 85 28 false,.cells [.si .i64 m] 2 1 false,.row bA x.prf 68 true,.row (.i .i64) x.fx 3 true]
def dO.gI (x:dO):bZ:=match x.en with
 |none=>x.yx
 |some m=>x.yy m
def J6:bZ->Option dO
 |[.cells cs 85 28 false,.row s1 l1 68 true,.row s2 l2 3 true]=>match cs.drop 20 with
  |[c,v,b,.fn (.func 45) [] [],.ow 1 k1 5,.ow 2 k2 1,mo,er]=>match vq (cs.take 20),jf (.i .i64) c,v.int .i64,b.boo,mo.int .i64,er.int .i64 with
   |some p,some c,some v,some b,some mo,some er=>match iJ s1 bA l1,iJ s2 (.i .i64) l2 with
    |some l1,some l2=>some ⟨p,c,v,b,none,k1,k2,mo,er,l1,l2⟩
    |_,_=>none
   |_,_,_,_,_,_=>none
  |_=>none
 |[.cells cs 85 28 false,.cells [m] 2 1 false,.row s1 l1 68 true,.row s2 l2 3 true]=>match cs.drop 20 with
  |[c,v,b,.fn (.func 89) [] [.ptr 1 0 1],.ow 2 k1 5,.ow 3 k2 1,mo,er]=>match vq (cs.take 20),jf (.i .i64) c,v.int .i64,b.boo,mo.int .i64,er.int .i64 with
   |some p,some c,some v,some b,some mo,some er=>match iJ s1 bA l1,iJ s2 (.i .i64) l2,m.int .i64 with
    |some l1,some l2,some m=>some ⟨p,c,v,b,some m,k1,k2,mo,er,l1,l2⟩
    |_,_,_=>none
   |_,_,_,_,_,_=>none
  |_=>none
 |_=>none
theorem adL {o:bZ} {x:dO} (h:J6 o=some x):gO o=gO x.gI:=by
 unfold J6 at h;split at h
 ·rename_i cs s1 l1 s2 l2;split at h
  ·rename_i c v b k1 k2 mo er hd;split at h
   ·rename_i p c' v' b' mo' er' h1 h2 h3 h4 h5 h6;split at h
    ·rename_i l1' l2' g1 g2;simp only[γ] at h;subst h;obtain⟨rfl,e1⟩:=mR g1;obtain⟨rfl,e2⟩:=mR g2;cases e1;cases e2;have e3:gL cs=gL p.ss++gL [c,v,b,.fn (.func 45) [] [],.ow 1 k1 5,.ow 2 k2 1,mo,er]:=by
      rw[<-hd,<-zA h1,<-vh,γH]
     simp only[dO.gI,dO.yx,dO.cs,gO,ξ,γs,bq.g,vh,e3];simp only[gL,oL h2,iK h3,w9 h4,iK h5,iK h6,SV.g]
    ·cases h
   ·cases h
  ·cases h
 ·rename_i cs m s1 l1 s2 l2;split at h
  ·rename_i c v b k1 k2 mo er hd;split at h
   ·rename_i p c' v' b' mo' er' h1 h2 h3 h4 h5 h6;split at h
    ·rename_i l1' l2' m' g1 g2 g3;simp only[γ] at h;subst h;obtain⟨rfl,e1⟩:=mR g1;obtain⟨rfl,e2⟩:=mR g2;cases e1;cases e2;have e3:gL cs=gL p.ss++gL [c,v,b,.fn (.func 89) [] [.ptr 1 0 1],.ow 2 k1 5,.ow 3 k2 1,mo,er]:=by
      rw[<-hd,<-zA h1,<-vh,γH]
     simp only[dO.gI,dO.yy,dO.cs,gO,ξ,γs,bq.g,vh,e3];simp only[gL,oL h2,iK h3,w9 h4,iK h5,iK h6,iK g3,SV.g]
    ·cases h
   ·cases h
  ·cases h
 ·cases h
theorem adQ {p q:bn} (h:gL p.ss=gL q.ss):p=q:=dE.inj p q (by grind[dE,SV.g])
theorem adS {x y:dO} (h:gO x.gI=gO y.gI):x=y:=by
 obtain⟨p,E,u,b,J,H,G,k,o,A,L⟩:=x;obtain⟨B,n,d,a,l,r,v,c,f,q,C⟩:=y;have w:∀{e I:SV} {i j:Nat},gL (p.ss++(dO.mk p E u b J H G k o A L).cs e i j)=gL (B.ss++(dO.mk B n d a l r v c f q C).cs I i j)->p=B/\E=n/\u=d/\b=a/\H=r/\G=v/\k=c/\o=f:=by
  intro e I i j h;rw[vh,vh] at h;obtain⟨z,t⟩:=List.append_inj h (by rw[jM,jM];rfl);simp only[dO.cs,gL,SV.g,Δ,γ9,Value.int.injEq,Value.bool.injEq,εF,AV.sl.injEq,and_true,true_and] at t;grind[adQ,oU]
 cases J with
 |none=>
  cases l with
  |none=>
   simp only[dO.gI,dO.yx,gO,ξ,γs,bq.g,Δ,bR.cells.injEq,and_true] at h;obtain⟨z,t,D⟩:=h;obtain⟨rfl,rfl,rfl,rfl,rfl,rfl,rfl,rfl⟩:=w z;rw[oU (s:=bA) t,oU (s:=.i .i64) D];|some K=>
   have:=congrArg γf h;simp_all[dO.gI,dO.yx,dO.yy,gO]
 |some m=>
  cases l with
  |none=>
   have:=congrArg γf h;simp_all[dO.gI,dO.yx,dO.yy,gO];|some K=>
   simp only[dO.gI,dO.yy,gO,ξ,γs,bq.g,Δ,bR.cells.injEq,and_true] at h;obtain⟨z,F,t,D⟩:=h;obtain⟨rfl,rfl,rfl,rfl,rfl,rfl,rfl,rfl⟩:=w z;simp only[gL,SV.g,Δ,γ9,Value.int.injEq,and_true,true_and] at F;subst F;rw[oU (s:=bA) t,oU (s:=.i .i64) D]
def EJ (f:FuncId) (c:Type) (A:qo c) (i:dO->c->Prop) (e:dO->c->SV) (out:dO->c->dO):dF where
 f:=f;α:=dO×c;put a:=.ptr 0 0 28::A.put a.2;st a:=a.1.gI;dec v o:=match v with
  | .ptr 0 0 28::r=>match J6 o,A.dec r with
   |some s,some b=>some (s,b)
   |_,_=>none
  |_=>none;ok v o a h:=by
  split at h
  ·split at h
   ·rename_i d g;simp only[γ] at h;subst h;exact⟨by simp only[gL,A.ok _ _ g],adL d⟩
   ·cases h
  ·cases h
 inj a b d g:=by
  simp only[gL,Δ,true_and] at d;exact Prod.ext (adS g) (A.inj _ _ d)
 dom a:=i a.1 a.2;res a:=e a.1 a.2;out a:=(out a.1 a.2).gI
def cy (e:Option Int) (v:Int):Bool:=match e with
 |none=>false
 |some m=>decide (m<=v)
def dO.s (x:dO):dc:=⟨x.ch,x.val,x.found,x.prf,x.err⟩
def dO.upd (x:dO) (s:dc):dO:=⟨x.p,s.ch,s.val,s.found,x.en,s.prf.length,x.k2,x.most,s.err,s.prf,x.fx⟩
structure eU (x:dO):Prop where
 f:eI x.p x.fx
 k1:x.k1=x.prf.length
 k2:x.k2=x.fx.length
 v0:0<=x.val
 v1:x.val<=9223372036854775806
 m0:1<=x.most
 m1:x.most<=65536
 l:x.prf.length<=65536
 c:x.ch.length<=9223372036854775807
def J7:dF where
 f:=45;α:=Alloc;put a:=[jZ.put a];st _:=[];dec v o:=match v,o with
  |[a],[]=>jZ.dec a
  |_,_=>none;ok v o a h:=by
  split at h;·exact⟨by simp only[gL,jZ.ok _ _ h],rfl⟩
  ·cases h
 inj a b c _:=by
  simp only[gL,Δ,and_true] at c;exact jZ.inj _ _ c
 dom _:=True;res _:=.sb false;out _:=[]
theorem h438:dZ Tryz.prog J7:=by
 refine lp (L:=[]) (W:=[]) J7 lk (by simp) (by simp) ?_;rintro(a:Alloc) -;refine bO ((δa false).same (γw false)/\True) (by kernel_rfl) ?_;simp_all
def J8:dF where
 f:=89;α:=Alloc×Int;put a:=[jZ.put a.1,.ptr 0 0 1];st a:=[.cells [.si .i64 a.2] 2 1 false];dec v o:=match v,o with
  |[a,.ptr 0 0 1],[.cells [m] 2 1 false]=>match jZ.dec a,m.int .i64 with
   |some a,some m=>some (a,m)
   |_,_=>none
  |_,_=>none;ok v o a h:=by
  split at h
  ·split at h
   ·rename_i h1 h2;simp only[γ] at h;subst h;exact⟨by simp only[gL,jZ.ok _ _ h1],by simp only[gO,ξ,γs,bq.g,gL,iK h2,SV.g]⟩
   ·cases h
  ·cases h
 inj a b h1 h2:=by
  simp only[gL,Δ,and_true] at h1;simp only[gO,ξ,γs,bq.g,gL,SV.g,Δ,bR.cells.injEq,γ9,Value.int.injEq,and_true,true_and] at h2;exact Prod.ext (jZ.inj _ _ h1) h2
 dom _:=True;res a:=.sb (decide (a.2<=a.1.value));out a:=[.cells [.si .i64 a.2] 2 1 false]
theorem h442:dZ Tryz.prog J8:=by
 refine lp (L:=[]) (W:=[]) J8 lk (by simp) (by simp) ?_;rintro⟨a,m⟩ -;refine bO (let b:=bq.cells [γe .i64 m] 2 1 false;(γw (decide (m<=a.value))).same (γw (decide (m<=a.value)))/\b.same b/\True) (by kernel_rfl) ?_;conv=>zeta
 exact⟨rfl,rfl,trivial⟩
def AZ:dF:=EJ 46 Alloc (.one jZ) (λx _=>x.k1=x.prf.length) (λ_ _=> .bJ []) λx a=>x.upd (dX (cy x.en) x.s a)
theorem h439:dZ Tryz.prog AZ:=by
 refine lp (L:=[]) (W:=[J7,J8]) AZ lk (by simpa using⟨h438,h442⟩) (by simp) ?_;rintro⟨⟨p,ch,val,found,en,k1,k2,most,err,prf,fx⟩,a⟩ hk;have hk:k1=prf.length:=hk;subst hk;have e1:∀en:Int->Bool,val<a.value->dX en ⟨ch,val,found,prf,err⟩ a=⟨a.chosen,a.value,found||en a.value,prf,err⟩:=λen h=>if_pos h;have e2:∀en:Int->Bool,¬val<a.value->dX en ⟨ch,val,found,prf,err⟩ a=⟨ch,val,found,prf,err⟩:=λen h=>if_neg h;cases en with
 |none=>
  refine bO (let b:=γe .i64;let c:=bq.row;let d:=bq.cells;let e:=Θ;let f:=SV.bJ;let k:=b p.supply.a0;let l:=b p.supply.a1;let m:=b p.supply.a2;let n:=b p.supply.a3;let o:=b p.supply.a4;let q:=b p.supply.a5;let r:=b p.opn.a0;let s:=b p.opn.a1;let t:=b p.opn.a2;let v:=b p.opn.a3;let w:=b p.opn.a4;let x:=b p.opn.a5;let y:=b p.cls.a0;let z:=b p.cls.a1;let A:=b p.cls.a2;let B:=b p.cls.a3;let C:=b p.cls.a4;let D:=b p.cls.a5;let h:=bp.i .i64;let E:=e h p.classes;let F:=e bp.off p.offers;let G:=ζz (Fn.func 45) [] [];let H:=γS 2 k2 1;let I:=b most;let J:=[G,γS 1 prf.length 5,H,I,b err];let g:=dX (cy none) (dc.mk ch val found prf err) a;let K:=d [k,l,m,n,o,q,r,s,t,v,w,x,y,z,A,B,C,D,E,F,e h g.ch,b g.val,γw g.found,G,γS 1 g.prf.length 5,H,I,b g.err] 85 28 false;let j:=c h fx 3 true;let L:=decide (val<a.value);let M:=λ(u u_1:Bool) (u_2:List Int) (u_3:Int) (u_4:SV) ↦u=u_1->(f []).same (f [])/\(d (k::l::m::n::o::q::r::s::t::v::w::x::y::z::A::B::C::D::E::F::e h u_2::b u_3::u_4::J) 85 28 false).same K/\(c bA prf 68 true).same (c bA g.prf 68 true)/\j.same j/\True;(L=true->M found true a.chosen a.value (δa true)/\(found=false->True/\(f []).same (f [])/\(d (k::l::m::n::o::q::r::s::t::v::w::x::y::z::A::B::C::D::E::F::e h a.chosen::b a.value::γw false::J) 85 28 false).same K/\(c bA prf 68 true).same (c bA g.prf 68 true)/\j.same j/\True))/\M L false ch val (γw found)) (by kernel_rfl) ?_;conv=>zeta
  refine⟨λh=>?_,λh=>?_⟩
  ·simp only[e1 _ (of_decide_eq_true h)];refine⟨λhf=>?_,λhf=>?_⟩
   ·subst hf;exact⟨rfl,rfl,rfl,rfl,trivial⟩
   ·subst hf;exact⟨trivial,rfl,rfl,rfl,rfl,trivial⟩
  ·simp only[e2 _ (of_decide_eq_false h)];exact⟨rfl,rfl,rfl,rfl,trivial⟩;|some m=>
  refine bO (let b:=γe .i64;let c:=bp.i .i64;let d:=bq.cells;let e:=Θ;let f:=bq.row;let g:=γS;let h:=γP;let j:=SV.bJ;let k:=γw;(decide (val<a.value)=true->(found=true->(j []).same (j [])/\(d [b p.supply.a0,b p.supply.a1,b p.supply.a2,b p.supply.a3,b p.supply.a4,b p.supply.a5,b p.opn.a0,b p.opn.a1,b p.opn.a2,b p.opn.a3,b p.opn.a4,b p.opn.a5,b p.cls.a0,b p.cls.a1,b p.cls.a2,b p.cls.a3,b p.cls.a4,b p.cls.a5,e (c) p.classes,e bp.off p.offers,e (c) a.chosen,b a.value,δa true,ζz (Fn.func 89) [] [h 1 0 1],g 2 prf.length 5,g 3 k2 1,b most,b err] 85 28 false).same (d [b p.supply.a0,b p.supply.a1,b p.supply.a2,b p.supply.a3,b p.supply.a4,b p.supply.a5,b p.opn.a0,b p.opn.a1,b p.opn.a2,b p.opn.a3,b p.opn.a4,b p.opn.a5,b p.cls.a0,b p.cls.a1,b p.cls.a2,b p.cls.a3,b p.cls.a4,b p.cls.a5,e (c) p.classes,e bp.off p.offers,e (c) (dX (cy (some m)) (dc.mk ch val found prf err) a).ch,b (dX (cy (some m)) (dc.mk ch val found prf err) a).val,k (dX (cy (some m)) (dc.mk ch val found prf err) a).found,ζz (Fn.func 89) [] [h 1 0 1],g 2 (dX (cy (some m)) (dc.mk ch val found prf err) a).prf.length 5,g 3 k2 1,b most,b (dX (cy (some m)) (dc.mk ch val found prf err) a).err] 85 28 false)/\(d [b m] 2 1 false).same (d [b m] 2 1 false)/\(f bA prf 68 true).same (f bA (dX (cy (some m)) (dc.mk ch val found prf err) a).prf 68 true)/\(f (c) fx 3 true).same (f (c) fx 3 true)/\True)/\(found=false->True/\(j []).same (j [])/\(d [b p.supply.a0,b p.supply.a1,b p.supply.a2,b p.supply.a3,b p.supply.a4,b p.supply.a5,b p.opn.a0,b p.opn.a1,b p.opn.a2,b p.opn.a3,b p.opn.a4,b p.opn.a5,b p.cls.a0,b p.cls.a1,b p.cls.a2,b p.cls.a3,b p.cls.a4,b p.cls.a5,e (c) p.classes,e bp.off p.offers,e (c) a.chosen,b a.value,k (decide (m<=a.value)),ζz (Fn.func 89) [] [h 1 0 1],g 2 prf.length 5,g 3 k2 1,b most,b err] 85 28 false).same (d [b p.supply.a0,b p.supply.a1,b p.supply.a2,b p.supply.a3,b p.supply.a4,b p.supply.a5,b p.opn.a0,b p.opn.a1,b p.opn.a2,b p.opn.a3,b p.opn.a4,b p.opn.a5,b p.cls.a0,b p.cls.a1,b p.cls.a2,b p.cls.a3,b p.cls.a4,b p.cls.a5,e (c) p.classes,e bp.off p.offers,e (c) (dX (cy (some m)) (dc.mk ch val found prf err) a).ch,b (dX (cy (some m)) (dc.mk ch val found prf err) a).val,k (dX (cy (some m)) (dc.mk ch val found prf err) a).found,ζz (Fn.func 89) [] [h 1 0 1],g 2 (dX (cy (some m)) (dc.mk ch val found prf err) a).prf.length 5,g 3 k2 1,b most,b (dX (cy (some m)) (dc.mk ch val found prf err) a).err] 85 28 false)/\(d [b m] 2 1 false).same (d [b m] 2 1 false)/\(f bA prf 68 true).same (f bA (dX (cy (some m)) (dc.mk ch val found prf err) a).prf 68 true)/\(f (c) fx 3 true).same (f (c) fx 3 true)/\True))/\(decide (val<a.value)=false->(j []).same (j [])/\(d [b p.supply.a0,b p.supply.a1,b p.supply.a2,b p.supply.a3,b p.supply.a4,b p.supply.a5,b p.opn.a0,b p.opn.a1,b p.opn.a2,b p.opn.a3,b p.opn.a4,b p.opn.a5,b p.cls.a0,b p.cls.a1,b p.cls.a2,b p.cls.a3,b p.cls.a4,b p.cls.a5,e (c) p.classes,e bp.off p.offers,e (c) ch,b val,k found,ζz (Fn.func 89) [] [h 1 0 1],g 2 prf.length 5,g 3 k2 1,b most,b err] 85 28 false).same (d [b p.supply.a0,b p.supply.a1,b p.supply.a2,b p.supply.a3,b p.supply.a4,b p.supply.a5,b p.opn.a0,b p.opn.a1,b p.opn.a2,b p.opn.a3,b p.opn.a4,b p.opn.a5,b p.cls.a0,b p.cls.a1,b p.cls.a2,b p.cls.a3,b p.cls.a4,b p.cls.a5,e (c) p.classes,e bp.off p.offers,e (c) (dX (cy (some m)) (dc.mk ch val found prf err) a).ch,b (dX (cy (some m)) (dc.mk ch val found prf err) a).val,k (dX (cy (some m)) (dc.mk ch val found prf err) a).found,ζz (Fn.func 89) [] [h 1 0 1],g 2 (dX (cy (some m)) (dc.mk ch val found prf err) a).prf.length 5,g 3 k2 1,b most,b (dX (cy (some m)) (dc.mk ch val found prf err) a).err] 85 28 false)/\(d [b m] 2 1 false).same (d [b m] 2 1 false)/\(f bA prf 68 true).same (f bA (dX (cy (some m)) (dc.mk ch val found prf err) a).prf 68 true)/\(f (c) fx 3 true).same (f (c) fx 3 true)/\True)) (by kernel_rfl) ?_;refine⟨λh=>?_,λh=>?_⟩
  ·simp only[e1 _ (of_decide_eq_true h)];refine⟨λhf=>?_,λhf=>?_⟩
   ·subst hf;exact⟨rfl,rfl,rfl,rfl,rfl,trivial⟩
   ·subst hf;exact⟨trivial,rfl,rfl,rfl,rfl,rfl,trivial⟩
  ·simp only[e2 _ (of_decide_eq_false h)];exact⟨rfl,rfl,rfl,rfl,rfl,trivial⟩
def gK (p:bn):List Int:=δ p.offers.length 0
theorem yz {n:Nat}:nF (δ n 0)=n:=by
 have e:bC (δ n 0) 0=dH n:=by
  simp_all[bC,nk,cV]
 grind[gG]
theorem og {p:bn} (a:bB p=0):eI p (gK p) where
 c:=a;l:=List.length_replicate;r:=by
  unfold gp;rw[κ];intro x b;rw[List.eq_of_mem_replicate b];decide
def jE (p:bn) (c:List Int):dc:=dX (cy none) (dX (cy none) ⟨c,de p c,false,[zN],0⟩ (gn p c)) (gn p (jO p))
noncomputable def iF (p:bn) (c:List Int) (most:Int):dc:=dG p (cy none) most p.offers.length (jE p c) 0 (gK p)
noncomputable def kn (p:bn) (c:List Int) (most:Int):Int:=if bW p c≠0 then bW p c else if most<1\/65536<most then 4 else(iF p c most).err
def jF (p:bn) (m:Int):dc:=dX (cy (some m)) ⟨[],m - 1,false,[zN],0⟩ (gn p (jO p))
noncomputable def fK (p:bn) (m most:Int):dc:=dG p (cy (some m)) most p.offers.length (jF p m) 0 (gK p)
noncomputable def jc (p:bn) (m most:Int):Int:=if bB p≠0 then bB p else if most<1\/65536<most then 4 else if m<=0 then 0 else if(fK p m most).found=true then 0 else(fK p m most).err
noncomputable def jS (p:bn) (m most:Int):Bool:=decide (jc p m most=0)&&(decide (m<=0)||(fK p m most).found)
noncomputable def oh (p:bn) (m most:Int):Alloc:=if jS p m most=true/\0<m then⟨(fK p m most).ch,(fK p m most).val⟩ else⟨[],0⟩
theorem J9 {p:bn} (a:bB p=0) {t:List Int} (h:bW p t=0):de p t<=(cz p).value:=by
 have b:=(qy a).1 h;obtain⟨_,d⟩:=sE h;have c:=HY (dN a) b.1 (decide_eq_true b.2);rw[v8 a d];exact c
theorem Ko {p:bn} (a:bB p=0):∃t,bW p t=0/\de p t=(cz p).value:=by
 obtain⟨t,c,f,e⟩:=HZ (dN a);have b:bW p t=0:=(qy a).2 ⟨c,of_decide_eq_true f⟩;obtain⟨_,d⟩:=sE b;refine⟨t,b,?_⟩;rw[v8 a d,e];rfl
theorem TX {p:bn} {l:List Int} (h:eL p.offers.length l):yv (gK p) l:=by
 have b:∀i:Int,0<=i/\i<p.offers.length->bj (gK p) i.toNat 0=0:=λi a=>by
  grind[gK,cV]
 refine⟨λi a=>by rw[b i (h.2 i a)];omega,λi a=>?_⟩;grind[kh,gK]
theorem TY {p:bn} {v:Int} {t:List cQ} {a lo f:Nat} (b:bB p=0) (h:jb p v t a (gK p) lo f):(cz p).value<=v:=by
 obtain⟨l,d,e⟩:=Ko b;obtain⟨_,c⟩:=sE d;rw[<-e,v8 b c];exact h.sound (og b) c ((AX b c).1 d) (TX c)
theorem yA {en:Int->Bool} {G:List Int->Int->Bool->Prop} {p:bn} (h:∀c w b d w',G c w b->bW p d=0->de p d=w'->w<w'->G d w' (b||en w')) {s:dc} {a:Alloc} (e:G s.ch s.val s.found) (f:bW p a.chosen=0) (g:de p a.chosen=a.value):G (dX en s a).ch (dX en s a).val (dX en s a).found:=by
 grind[dX]
theorem yB {p:bn} (a:bB p=0):bW p (gn p (jO p)).chosen=0/\de p (gn p (jO p)).chosen=(gn p (jO p)).value:=by
 simp_all[JO,S3]
theorem Kp {p:bn} (d:bB p=0) {c:List Int} (h:bW p c=0) {most:Int} {G:List Int->Int->Bool->Prop} (a:∀c w b e w',G c w b->bW p e=0->de p e=w'->w<w'->G e w' (b||cy none w')) (i:G c (de p c) false):G (iF p c most).ch (iF p c most).val (iF p c most).found:=by
 have f:=JO d h;have g:=yB d;exact TU a (og d) (yA a (yA a i f.2.1 f.2.2.1) g.1 g.2)
theorem Kq {p:bn} {c:List Int}:(jE p c).prf=[zN]/\(jE p c).err=0/\de p c<=(jE p c).val:=by
 grind[jE,dX]
theorem Kr {p:bn} (d:bB p=0) {c:List Int} (i:bW p c=0) {most:Int} (C:1<=most):
  ((iF p c most).err=0\/(iF p c most).err=12)/\((iF p c most).err=0->(bW p (iF p c most).ch=0/\de p (iF p c most).ch=(iF p c most).val)/\(iF p c most).val=(cz p).value/\(iF p c most).prf.length<=most/\jb p (cz p).value (iF p c most).prf 0 (gK p) 1 (iF p c most).prf.length/\(de p c=(cz p).value->(iF p c most).ch=c))/\
   (((1+2^(p.offers.length+1):Nat):Int)<=most+2->(iF p c most).err=0):=by
 obtain⟨y,l,A⟩:=@Kq p c;have t:(jE p c).prf.length=1:=by rw[y];rfl
 have q:=@rC p (cy none) most p.offers.length (jE p c) 0 (gK p) (og d);have j:(iF p c most).found=false:=by
  refine(Kp d i (most:=most) (G:=λ_ _ b=>b=false) (λc w b g o h _ _ _=>?_) rfl);rw[h];rfl
 refine⟨?_,λx=>?_,λB=>?_⟩
 ·have:=q.2.2.2.2.2;rw[l] at this;exact this
 ·have v:=Kp d i (most:=most) (G:=λc w _=>bW p c=0/\de p c=w) (λc w b g o _ k m _=>⟨k,m⟩) ⟨i,rfl⟩;have u:=Kp d i (most:=most) (G:=λg w _=>de p c<=w/\(w=de p c->g=c)) (λD w b g o h _ _ r=>⟨by omega,λe=>by omega⟩) ⟨Int.le_refl _,λ_=>rfl⟩;have z:=TT (p:=p) (en:=cy none) (most:=most) (n:=p.offers.length) (s:=jE p c) (a:=0) (og d) (by show nF (δ _ 0)<=_;grind[yz]) (by rw[t];omega) x j;have k:=TY d z.1;have m:=J9 d v.1;grind[iF]
 ·refine(TV (p:=p) (en:=cy none) (most:=most) (n:=p.offers.length) (s:=jE p c) (a:=0) (f:=gK p) (og d) ?_ l ?_).1;all_goals simp_all[yz,gK]
theorem adT {p:bn} (i:bB p=0) {m most:Int}:((fK p m most).found=false->(fK p m most).ch=[]/\(fK p m most).val=m - 1)/\((fK p m most).found=true->bW p (fK p m most).ch=0/\de p (fK p m most).ch=(fK p m most).val/\m<=(fK p m most).val):=by
 have j:=yB i;have g:∀(c:List Int) (w:Int) (b:Bool) (e:List Int) (d:Int),((m - 1<=w)/\(b=false->c=[]/\w=m - 1)/\(b=true->bW p c=0/\de p c=w/\m<=w))->bW p e=0->de p e=d->w<d->((m - 1<=d)/\((b||cy (some m) d)=false->e=[]/\d=m - 1)/\((b||cy (some m) d)=true->bW p e=0/\de p e=d/\m<=d)):=by
  intro c w b e d h l q k;have o:cy (some m) d=true:=by
   show decide (m<=d)=true;grind
  grind
 have:=TU (p:=p) (en:=cy (some m)) (most:=most) g (n:=p.offers.length) (s:=jF p m) (a:=0) (f:=gK p) (og i) (yA g (s:=⟨[],m - 1,false,[zN],0⟩) ⟨Int.le_refl _,λ_=>⟨rfl,rfl⟩,(λh=>by cases h)⟩ j.1 j.2);exact this.2
theorem Ks {p:bn} {m:Int}:(jF p m).prf=[zN]/\(jF p m).err=0:=by
 grind[jF,ED]
theorem T0 {p:bn} (b:bB p=0) {m most:Int}:
  ((fK p m most).err=0\/(fK p m most).err=12)/\((fK p m most).found=true->m<=(cz p).value)/\((fK p m most).found=false->(fK p m most).err=0->(cz p).value<m)/\
   (((1+2^(p.offers.length+1):Nat):Int)<=most+2->(fK p m most).err=0):=by
 obtain⟨i,d⟩:=@Ks p m;have h:(jF p m).prf.length=1:=by rw[i];rfl
 have g:=@rC p (cy (some m)) most p.offers.length (jF p m) 0 (gK p) (og b);obtain⟨r,l⟩:=@adT p b m most;refine⟨?_,λc=>?_,λc k=>?_,λo=>?_⟩
 ·have:=g.2.2.2.2.2;rw[d] at this;exact this
 ·obtain⟨e,q,t⟩:=l c;have:=J9 b e;omega
 ·have j:=TT (p:=p) (en:=cy (some m)) (most:=most) (n:=p.offers.length) (s:=jF p m) (a:=0) (og b) (by show nF (δ _ 0)<=_;grind[yz]) (by rw[h];omega) k c;have e:(cz p).value<=(fK p m most).val:=TY b j.1;grind
 ·refine(TV (p:=p) (en:=cy (some m)) (most:=most) (n:=p.offers.length) (s:=jF p m) (a:=0) (f:=gK p) (og b) ?_ d ?_).1;all_goals simp_all[yz,gK]
def EK:bL:=⟨35,bn×List Int,.cons dE (.one (dM (.i .i64))),λa=>bB a.1=0/\a.2.length<=9223372036854775807,λa=> .si .i64 (de a.1 a.2)⟩
def adU (p:bn) (c:List Int):Nat->cC
 |6=> .inv Int (λi=>⟨[(7,.si .i64 (cu ((dx p c).take i.toNat))),(23,.row .off (dx p c)),(24,.si .i64 (dx p c).length),(25,.si .i64 i)],[.cells p.ss 27 20 false]⟩)
   (λs=>iS s 25) (λi=>0<=i/\i<=(dx p c).length) (λi=>((dx p c).length - i).toNat) λ_ _=> .look
 |_=> .look
theorem h437:Holds Tryz.prog EK:=by
 refine cF (L:=[CZ,qs]) EK (λa=>adU a.1 a.2) (by grind[h133,h79]) ?_;rintro⟨p,c⟩ ⟨f,A⟩;simp only at f A;refine bO (let a:=γe .i64;let f:=(0:Int);let k:=γx .i64 0;let m:=a (de p c);let z:=decide (bB p≠f);let j:=Θ bp.off (dx p c);let B:=(↑(dx p c).length:Int);let d:=(↑(dx p c).length:Int);let r:=a d;let g:=bq.cells (bn.ss p) 27 20 false;(c.length<=9223372036854775807/\p.offers.length<=1000)/\((!fV p c)=true->k.same m)/\((!fV p c)=false->True/\(z=true->k.same m)/\(z=false->(((k.same (a (cu []))/\j.same j/\(a B).same r/\k.same (a 0)/\True)/\g.same g/\True)/\f<=f/\f<=d)/\∀(x:Int),let w:=cu (ω x.toNat (dx p c));let y:=w+(bj (dx p c) x.toNat bp.off.dflt).value;let b:=x+(1:Int);let e:=a b;f<=x/\x<=d->(decide (x<d)=true->f<=x/\x<B/\x.toNat<(dx p c).length/\cn .i64 y/\cn .i64 b/\(((a y).same (a (cu (ω b.toNat (dx p c))))/\j.same j/\r.same r/\e.same e/\True)/\g.same g/\True)/\(f<=b/\b<=d)/\(d - b).toNat<(d - x).toNat)/\(decide (x<d)=false->(a w).same m)))) (by kernel_rfl) ?_;simp only[vcs];have t:=dN f;obtain⟨G,v⟩:=PS (c:=c) f;have u:=t.2.1;have q:fV p c=false->0=de p c:=λh=>by
  unfold de;rw[if_pos f];unfold dx;unfold fV at h;rw[Option.isSome_eq_false_iff,Option.isNone_iff_eq_none] at h;rw[h];rfl
 refine⟨⟨A,by omega⟩,q,λ_=>⟨λh=>absurd f h,λ_=>⟨⟨by simp[cu],by omega,by omega⟩,?_⟩⟩⟩;rintro i ⟨n,D⟩;refine⟨λo=>?_,λE=>?_⟩
 ·have H:=PR n o;have F:=qw t (l:=(dx p c).take i.toNat) λx s=>v x (γd s);have C:=qw t (l:=(dx p c).take (i+1).toNat) λx s=>v x (γd s);grind
 ·rw[show i.toNat=(dx p c).length from by omega,π];grind[de]
def Kt:bL:=⟨116,Int×Int,.cons (eK .i64) (.one (eK .i64)),λa=>(-9223372036854775808<=a.1/\a.1<=9223372036854775807)/\0<a.2/\a.2<=9223372036854775807,λa=> .bJ [pG (fF (decide (a.1<0)) (a.1.natAbs:Int) a.2),.si .i64 0]⟩
theorem h451:Holds Tryz.prog Kt:=by
 refine cF (L:=[DJ,Ap]) Kt lk (by grind[h127,h151]) ?_;rintro⟨n,d⟩ ⟨⟨u,w⟩,q,r⟩;simp only at u w q r;refine bO (let e:=(-9223372036854775808:Int);let h:=(9223372036854775807:Int);let k:=(0:Int);let l:=Θ;let g:=cM (↑n.natAbs:Int);let b:=cM (↑d.natAbs:Int);let f:=bu (fF (!decide (n<k)==decide (d<k)) (bk g) (bk b));let a:=bp.i .u32;let j:=[γe .i64 0];let c:=bu (fF (decide (n<k)) (↑n.natAbs:Int) d);(e<=n/\n<=h)/\(e<=d/\d<=h)/\((bz g/\bz b)/\(g.length<=1000000000/\b.length<=1000000000)/\k<bk b)/\(SV.bJ (γQ [γw f.fst,l a f.snd.fst,l a f.snd.snd]::j)).same (SV.bJ (γQ [γw c.fst,l a c.snd.fst,l a c.snd.snd]::j))) (by kernel_rfl) ?_;simp only[vcs];obtain⟨v,s,t⟩:=fW (show(0:Int)<=(n.natAbs:Int) by omega);obtain⟨o,l,h⟩:=fW (show(0:Int)<=(d.natAbs:Int) by omega);have x:=mA (k:=2) (show(0:Int)<=(n.natAbs:Int) by omega) (by omega);have p:=mA (k:=2) (show(0:Int)<=(d.natAbs:Int) by omega) (by omega);have e:(d.natAbs:Int)=d:=by omega
 have m:(!(decide (n<0)==decide (d<0)))=decide (n<0):=by
  grind
 rw[m,v,o,e];rw[e] at l h p;repeat' refine And.intro ?_ ?_
 all_goals first|omega|exact s|exact l|exact t|exact h|rfl
def oZ (x:List bM):Prop:=∃l,x=fL l/\x.length<=1000000/\∀q∈l,Sz 1000 q
theorem adV (q:Rat):q.den=1↔(bu q).2.2=[1]:=by
 have c:cM 1=[1]:=by decide
 constructor
 ·intro h;show cM (q.den:Int)=[1];simp_all
 ·intro h;have a:=(fW (show(0:Int)<=(q.den:Int) by omega)).1;have b:cM (q.den:Int)=[1]:=h;grind[bk]
theorem EL (q:Rat):okF (bu q)=true:=decide_eq_true (by rw[ez])
def Ku:bL:=⟨75,List bM,.one (dM sF),oZ,λx=> .sb (mG (vL x))⟩
def adW (x:List bM):Nat->cC
 |2=> .inv Int (λi=>⟨[(5,.row sF x),(6,.si .i64 x.length),(7,.si .i64 i)],[]⟩)
   (λs=>iS s 7) (λi=>(0<=i/\i<=x.length)/\mG ((vL x).take i.toNat)=true) (λi=>(x.length - i).toNat) λ_ _=> .look
 |_=> .look
theorem h445:Holds Tryz.prog Ku:=by
 refine cF (L:=[ua]) Ku adW (by simpa using h407) ?_;rintro(x:List bM) ⟨l,hx,hl,hz⟩;refine bO (let a:=(0:Int);let b:=γe .i64;let c:=δa false;let d:=Θ;let e:=(1:Int);let f:=(↑x.length:Int);let k:=b f;((((d sF x).same (d sF x)/\(b (↑x.length:Int)).same k/\(γx .i64 0).same (b 0)/\True)/\True)/\(a<=a/\a<=f)/\mG []=true)/\∀(x_1:Int),let i:=bj x x_1.toNat sF.dflt;let g:=i.snd.snd;let l:=(↑(γf g):Int);let j:=γw (mG (vL x));let h:=x_1+e;let m:=b h;let n:=λ(u:Bool) ↦decide (bj g 0 a≠e)=u;let o:=λ(u:Bool) ↦decide (l≠e)=u;let p:=λ(u:Bool) ↦(!okF (i.fst,i.snd.fst,g))=u;(a<=x_1/\x_1<=f)/\mG (ω x_1.toNat (vL x))=true->(decide (x_1<f)=true->a<=x_1/\x_1<(↑x.length:Int)/\x_1.toNat<x.length/\((bz i.snd.fst/\bz g)/\γf i.snd.fst<=10000000/\γf g<=10000000)/\(p true->(c).same j)/\(p false->(o true->(c).same j)/\(o false->a<=a/\a<l/\0<γf g/\(n true->(c).same j)/\(n false->cn .i64 h/\(((d sF x).same (d sF x)/\k.same k/\m.same m/\True)/\True)/\((a<=h/\h<=f)/\mG (ω h.toNat (vL x))=true)/\(f - h).toNat<(f - x_1).toNat))))/\(decide (x_1<f)=false->(δa true).same j)) (by kernel_rfl) ?_;simp only[vcs];subst hx;rw[ft] at hl ⊢;rw[kJ];have hcast:∀k:Nat,((k:Nat):Int).toNat=k:=λk=>Ψ k;refine⟨⟨⟨by omega,by omega⟩,rfl⟩,?_⟩;rintro i ⟨⟨i0,i1⟩,hall⟩;refine⟨λhi=>?_,λhi=>?_⟩
 ·have hv:bj (fL l) i.toNat sF.dflt=bu (bj l i.toNat 0):=jl (by omega);have hm:=dj (d:=0) (show i.toNat<l.length by omega);have hq:=hz _ hm;have hs:=kC (d:=0) i0 hi;rw[hv];generalize bj l i.toNat 0=q at*;obtain⟨_,⟨u1,u2,u3⟩,⟨u4,u5,u6⟩⟩:=lu q;obtain⟨m1,m2⟩:=oQ hq;have hd1:=adV q;have hno:q.den≠1->false=mG l:=λhn=>by
   refine(Bool.eq_false_iff.2 λh2=>?_).symm;have:=κ.1 h2 _ hm;exact hn (of_decide_eq_true this)
  have hok:=EL q;refine⟨i0,hi,by omega,⟨⟨u1,u4⟩,by omega,by omega⟩,λh=>absurd hok (by rw[show okF (bu q)=false from h];simp),λ_=>⟨λh=>hno λh2=>h ?_,λh=>⟨by omega,by omega,by omega,λh2=>hno λh3=>h2 ?_,λh2=>⟨by omega,⟨by omega,?_⟩,by omega⟩⟩⟩⟩;·rw[(hd1.1 h2)];rfl
  ·rw[(hd1.1 h3)];rfl
  ·rw[hs];unfold mG at hall ⊢;rw[List.all_append,hall];have:q.den=1:=hd1.2 (by
    have hlen:(bu q).2.2.length=1:=by omega
    have h0:bj (bu q).2.2 0 0=1:=Ξ.1 h2;match hx:(bu q).2.2,hlen with
    |[x],_=>
     rw[hx] at h0;have:x=1:=h0;rw[this]);simp[this]
 ·rw[show i.toNat=l.length by omega,π] at hall;exact hall.symm
theorem sM {p q:Rat}:iM p q<0↔p<q:=by
 unfold iM;grind
def Kv (f:FuncId) (j:bn->List Int->Prop) (e:bn->List Int->SV):dF where
 f:=f;α:=bn×Nat×List Int;put a:=[dE.put a.1,.ow 0 a.2.1 1];st a:=[.row (.i .i64) a.2.2 3 true];dec v o:=match v,o with
  |[p,.ow 0 n 1],[.row s l 3 true]=>match dE.dec p,iJ s (.i .i64) l with
   |some p,some l=>some (p,n,l)
   |_,_=>none
  |_,_=>none;ok v o a h:=by
  split at h
  ·split at h
   ·rename_i c d;simp only[γ] at h;subst h;obtain⟨rfl,k⟩:=mR d;cases k;exact⟨by simp only[gL,dE.ok _ _ c],rfl⟩
   ·cases h
  ·cases h
 inj a b c d:=by
  obtain⟨p,n,l⟩:=a;obtain⟨m,q,r⟩:=b;simp only[gL,Δ,and_true,SV.g,εF,true_and] at c;simp only[gO,ξ,γs,bq.g,Δ,bR.cells.injEq,and_true] at d;rw[dE.inj p m c.1,oU (s:=.i .i64) d,c.2.1]
 dom a:=a.2.1=a.2.2.length/\j a.1 a.2.2;res a:=e a.1 a.2.2;out a:=[.row (.i .i64) a.2.2 3 true]
theorem A0 {L:List bL} {W:List dF} (c:dF) (Λ:c.α->Nat->cC) (i:∀c∈W,dZ Tryz.prog c) (e:∀c∈L,Holds Tryz.prog c)
  
  (h:∀a,c.dom a->Vc (EI (kR L (gB W) mX mY fO) (Λ a) (fG c.f) (c.put a) (c.st a) λv s=>v.same (c.res a)/\jY s (c.out a))) (j:(fO c.f).isSome=true:=by kernel_rfl) (b:∀a,(c.put a).length=(fG c.f).params:=by intro _;kernel_rfl) (d:mZ c.f W=none:=by kernel_rfl):dZ Tryz.prog c:=
 λa g=>adK c qp i e (vt j) b a d (h a g).out
noncomputable def Kw:dF:=Kv 108 (λp f=>bB p=0/\f.length=p.offers.length) λp f=>pG (ι (gd p f))
def adX (p:bn) (f:List Int):Nat->cC
 |3=> .inv Int (λi=>⟨[(2,.ptr 1 0 20),(4,.ptr 2 0 3),(5,.si .i64 (gd p (f.take i.toNat))),(8,.ow 0 f.length 1),(9,.si .i64 f.length),(10,.si .i64 i)],[.row (.i .i64) f 3 true,.cells p.ss 27 20 false,.cells [.bl false,.sc (.slice none 0 0),.sc (.slice none 0 0)] 126 3 false]⟩)
   (λs=>iS s 10) (λi=>0<=i/\i<=f.length) (λi=>(f.length - i).toNat) λ_ _=> .look
 |_=> .look
theorem h396w:dZ Tryz.prog Kw:=by
 refine A0 (L:=[nY]) (W:=[]) Kw (λa=>adX a.1 a.2.2) (by simp) (by simpa using h94) ?_;rintro⟨p,n,f⟩ ⟨hn,⟨hc,hl⟩⟩;simp only at hn;subst hn;simp only at hc hl;refine bO (let a:=γe .i64;let b:=(0:Int);let c:=Θ;let j:=γP 1 0 20;let k:=γP 2 0 3;let t:=γx .i64 0;let l:=γS 0 f.length 1;let d:=(↑f.length:Int);let m:=a d;let e:=bq.row (bp.i .i64) f 3 true;let n:=bq.cells (bn.ss p) 27 20 false;let v:=SV.sc (Value.slice none 0 0);let o:=bq.cells [δa false,v,v] 126 3 false;let q:=bp.i .u32;let r:=bu (ι (gd p f));(((j.same j/\k.same k/\t.same (a (gd p []))/\l.same l/\m.same m/\t.same (a 0)/\True)/\e.same e/\n.same n/\o.same o/\True)/\b<=b/\b<=d)/\∀(x:Int),let g:=x+(1:Int);let w:=a g;let y:=decide (bj f x.toNat b=(1:Int));let h:=gd p (ω x.toNat f);let z:=h+(bj p.offers x.toNat bp.off.dflt).value;let s:=bu (ι h);let A:=λ(u:Int) ↦cn .i64 g/\((j.same j/\k.same k/\(a u).same (a (gd p (ω g.toNat f)))/\l.same l/\m.same m/\w.same w/\True)/\e.same e/\n.same n/\o.same o/\True)/\(b<=g/\g<=d)/\(d - g).toNat<(d - x).toNat;b<=x/\x<=d->(decide (x<d)=true->f.length=f.length/\b<=x/\x<(↑f.length:Int)/\f.length=f.length/\x.toNat<f.length/\(y=true->b<=x/\x<(↑p.offers.length:Int)/\x.toNat<p.offers.length/\cn .i64 z/\A z)/\(y=false->A h))/\(decide (x<d)=false->((-9223372036854775808:Int)<=h/\h<=(9223372036854775807:Int))/\(γQ [γw s.fst,c q s.snd.fst,c q s.snd.snd]).same (γQ [γw r.fst,c q r.snd.fst,c q r.snd.snd])/\e.same e/\True)) (by kernel_rfl) ?_;simp only[vcs];have h160:=(dN hc).2.1;refine⟨⟨by simp[gd,bC,dH,cu],by omega,by omega⟩,?_⟩;rintro i ⟨i0,i1⟩;have hb:=@AP p hc f i.toNat hl;refine⟨λhi=>?_,λhi=>?_⟩
 ·have hs:=@Tv p f i i0 hi;have ho:=ki hc (i:=i) ⟨i0,by omega⟩;have hv:(bj p.offers i.toNat bp.off.dflt).value=(oI p i).value:=rfl;rw[hv];refine⟨i0,hi,by omega,λh1=>?_,λh1=>?_⟩
  ·rw[if_pos h1] at hs;refine⟨i0,?_,?_,?_,?_,?_,?_,?_⟩<;>omega
  ·rw[if_neg h1] at hs;refine⟨?_,?_,?_,?_⟩<;>omega
 ·rw[show f.take i.toNat=f by rw[show i.toNat=f.length by omega,π]] at hb ⊢;exact⟨by omega,rfl⟩
noncomputable def Kx:dF:=Kv 105 (λp f=>(bB p=0/\f.length=p.offers.length)/\gp f=true) λp f=> .bJ [.agg [.row sF (mE p f).1,.row sR (mE p f).2.1],.row (.i .i64) (mE p f).2.2,.si .i64 (if ic p f=true then 0 else 14)]
def T8 (p:bn) (f:List Int) (l:List Int) (m:List Off):bZ:=[.row (.i .i64) f 3 true,.cells p.ss 27 20 false,.cells [.sc (.slice none 0 0),.sc (.slice none 0 0)] 172 2 false,.row (.i .i64) l 3 true,.row .off m 55 true]
def EM (p:bn) (f:List Int) (l:List Int) (m:List Off) (k0 k1:Nat) (rs:List (List bM×bM)) (g:List bM):bZ:=T8 p f l m++[.cells p.ss 76 20 false,.cells [.ow 8 k0 3,.ow 7 k1 4] 172 2 false,.row sR rs 207 false,.row sF g 126 false]
def adY (p:bn) (f:List Int):Nat->cC
 |9=> .inv Int (λi=>⟨[(2,.ptr 1 0 20),(4,.ptr 2 0 2),(8,.ow 3 (bC (f.take i.toNat) 0).length 1),(9,.ow 4 (bC (f.take i.toNat) 1).length 8),(36,.ow 0 f.length 1),(37,.si .i64 f.length),(38,.si .i64 i)],T8 p f (bC (f.take i.toNat) 0) ((bC (f.take i.toNat) 1).map (oI p))⟩)
   (λs=>iS s 38) (λi=>0<=i/\i<=f.length) (λi=>(f.length - i).toNat) λ_ _=> .look
 |24=> .inv Int (λj=>⟨[(2,.ptr 1 0 20),(4,.ptr 2 0 2),(8,.ow 3 (bC f 0).length 1),(9,.ow 4 (bC f 1).length 8),(12,.ptr 5 0 20),(13,.ptr 6 0 2),(71,.ow 3 (bC f 0).length 1),(72,.si .i64 (bC f 0).length),(73,.si .i64 j)],EM p f (bC f 0) ((bC f 1).map (oI p)) j.toNat 0 [] (l8 p f j.toNat)⟩)
   (λs=>iS s 73) (λj=>0<=j/\j<=(bC f 0).length) (λj=>((bC f 0).length - j).toNat) λ_ _=> .look
 |29=> .inv Int (λr=>⟨[(2,.ptr 1 0 20),(4,.ptr 2 0 2),(8,.ow 3 (bC f 0).length 1),(9,.ow 4 (bC f 1).length 8),(12,.ptr 5 0 20),(13,.ptr 6 0 2),(91,.si .i64 (cZ p)),(92,.si .i64 r)],EM p f (bC f 0) ((bC f 1).map (oI p)) (bC f 0).length r.toNat (nC p f r.toNat) (l8 p f (bC f 0).length)⟩)
   (λs=>iS s 92) (λr=>0<=r/\r<=cZ p) (λr=>(cZ p - r).toNat) λr k=>match k with
   |33=> .inv Int (λj=>⟨[(2,.ptr 1 0 20),(4,.ptr 2 0 2),(8,.ow 3 (bC f 0).length 1),(9,.ow 4 (bC f 1).length 8),(12,.ptr 5 0 20),(13,.ptr 6 0 2),(16,.si .i64 r),(17,.si .i64 (df p r - cG p (((bC f 1).map (oI p)).take j.toNat) r)),(91,.si .i64 (cZ p)),(92,.si .i64 r),(98,.ow 4 (bC f 1).length 8),(99,.si .i64 (bC f 1).length),(100,.si .i64 j)],EM p f (bC f 0) ((bC f 1).map (oI p)) (bC f 0).length r.toNat (nC p f r.toNat) (l8 p f (bC f 0).length)⟩)
     (λs=>iS s 100) (λj=>0<=j/\j<=(bC f 1).length) (λj=>((bC f 1).length - j).toNat) λ_ _=> .look
   |39=> .inv Int (λj=>⟨[(2,.ptr 1 0 20),(4,.ptr 2 0 2),(8,.ow 3 (bC f 0).length 1),(9,.ow 4 (bC f 1).length 8),(12,.ptr 5 0 20),(13,.ptr 6 0 2),(16,.si .i64 r),(20,.ptr 9 0 4),(91,.si .i64 (cZ p)),(92,.si .i64 r),(114,.ow 3 (bC f 0).length 1),(115,.si .i64 (bC f 0).length),(116,.si .i64 j)],EM p f (bC f 0) ((bC f 1).map (oI p)) (bC f 0).length r.toNat (nC p f r.toNat) (l8 p f (bC f 0).length)++[.cells [.ow 10 j.toNat 3,.sb (bu ((df p r - cG p ((bC f 1).map (oI p)) r:Int):Rat)).1,.row (.i .u32) (bu ((df p r - cG p ((bC f 1).map (oI p)) r:Int):Rat)).2.1,.row (.i .u32) (bu ((df p r - cG p ((bC f 1).map (oI p)) r:Int):Rat)).2.2] 207 4 false,.row sF (nB p f r j.toNat) 126 false]⟩)
     (λs=>iS s 116) (λj=>0<=j/\j<=(bC f 0).length) (λj=>((bC f 0).length - j).toNat) λ_ _=> .look
   |_=> .look
 |_=> .look
theorem h394w:dZ Tryz.prog Kx:=by
 refine A0 (L:=[qs,nY,CS,xB,xy,xA]) (W:=[]) Kx (λa=>adY a.1 a.2.2) (by simp) (by simpa using⟨h79,h94,h134,h156,h157,h158⟩) ?_;rintro⟨p,n,f⟩ ⟨hn,⟨⟨hc,hl⟩,hr⟩⟩;simp only at hn;subst hn;simp only at hc hl hr;refine bO (let a:=γe .i64;let c:=(0:Int);let d:=bq.row;let e:=bq.cells;let g:=γS;let h:=(-9223372036854775808:Int);let j:=Θ;let k:=(1:Int);let l:=(9223372036854775807:Int);let m:=cn .i64;let n:=γx .i64;let o:=γP;let q:=γQ;let r:=SV.bJ;let R:=SV.sc (Value.slice none 0 0);let L:=bp.i .i64;let ah:=r [q [j sF (mE p f).fst,j sR (mE p f).snd.fst],j L (mE p f).snd.snd,a (if ic p f=true then c else(14:Int))];let s:=d L f 3 true;let I:=(↑f.length:Int);let ai:=p.offers.length;let ae:=(↑ai:Int);let t:=o 1 0 20;let v:=o 2 0 2;let Z:=g 0 f.length 1;let a6:=a I;let a7:=n 0;let aM:=[a p.supply.a0,a p.supply.a1,a p.supply.a2,a p.supply.a3,a p.supply.a4,a p.supply.a5,a p.opn.a0,a p.opn.a1,a p.opn.a2,a p.opn.a3,a p.opn.a4,a p.opn.a5,a p.cls.a0,a p.cls.a1,a p.cls.a2,a p.cls.a3,a p.cls.a4,a p.cls.a5,j L p.classes,j bp.off p.offers];let w:=e aM 27 20 false;let y:=e [R,R] 172 2 false;let aN:=d bp.off [] 55 true;let aj:=bp.off.dflt;let ay:=(↑p.classes.length:Int);let a8:=bp.i .u32;let a9:=bp.b.pair (a8.bH.pair a8.bH);let az:=a9.bH.pair a9;let H:=bC f c;let N:=H.length;let z:=g 3 N 1;let z25:Nat:=(bC f k).length;let A:=g 4 z25 8;let B:=o 5 0 20;let C:=o 6 0 2;let E:=(↑N:Int);let V:=a E;let F:=d L H 3 true;let P:=γc (oI p) (bC f k);let G:=d bp.off P 55 true;let D:=e aM 76 20 false;let af:=[g 7 0 4];let aO:=e (g 8 0 3::af) 172 2 false;let ak:=d sR [] 207 false;let aP:=d a9 [] 126 false;let J:=a (cZ p);let al:=g 8 N 3;let aA:=l8 p f N;let M:=d sF aA 126 false;let S:=(↑z25:Int);let am:=a S;let an:=o 9 0 4;let aQ:=g 10 0 3;let aR:=λ(u u_1:Int) (u_2:SV) ↦decide (u≠u_1)=true->(r [q [R,R],R,u_2]).same ah/\s.same s/\True;True/\aR (bB p) c (a (bB p))/\(decide (bB p≠c)=false->aR I ae (n 3)/\(decide (I≠ae)=false->(((t.same t/\v.same v/\(g 3 0 1).same (g 3 (bC [] c).length 1)/\(g 4 0 8).same (g 4 (bC [] k).length 8)/\Z.same Z/\a6.same a6/\a7.same (a 0)/\True)/\s.same s/\w.same w/\y.same y/\(d L [] 3 true).same (d L (bC [] c) 3 true)/\aN.same aN/\True)/\c<=c/\c<=I)/\∀(x:Int),let ao:=bC (ω x.toNat f) k;let aS:=g 4 ao.length 8;let O:=x+k;let ap:=ω O.toNat f;let aT:=g 4 (bC ap k).length 8;let aq:=a O;let aU:=g 3 (bC ap c).length 1;let aV:=d L (bC ap c) 3 true;let Q:=γc (oI p) ao;let aW:=d bp.off Q 55 true;let aX:=d bp.off (γc (oI p) (bC ap k)) 55 true;let aB:=bj f x.toNat c;let aY:=decide (aB=(-1:Int));let aa:=bC (ω x.toNat f) c;let ar:=aa.length;let aC:=d L aa 3 true;let aZ:=decide (aB=c);let b0:=aa.length+1;let b1:=decide (aB=k);let b2:=Q.length+1;let aD:=g 3 ar 1;let b3:=Q++[bj p.offers x.toNat aj];let bh:=aS.same aT/\Z.same Z/\a6.same a6/\aq.same aq/\True;let b4:=λ(u:Nat) (u_1:bq) ↦m O/\((t.same t/\v.same v/\(g 3 u 1).same aU/\bh)/\s.same s/\w.same w/\y.same y/\u_1.same aV/\aW.same aX/\True)/\(c<=O/\O<=I)/\(I - O).toNat<(I - x).toNat;c<=x/\x<=I->(decide (x<I)=true->f.length=f.length/\c<=x/\x<(↑f.length:Int)/\f.length=f.length/\x.toNat<f.length/\(aY=true->b4 ar aC)/\(aY=false->(aZ=true->ar=aa.length/\b0*8<=140737488355328/\b0<=1000000000000/\b4 (aa++[x]).length (d L (aa++[x]) 3 true))/\(aZ=false->(b1=true->c<=x/\x<ae/\x.toNat<ai/\ao.length=Q.length/\b2*64<=140737488355328/\b2<=1000000000000/\m O/\((t.same t/\v.same v/\aD.same aU/\(g 4 b3.length 8).same aT/\Z.same Z/\a6.same a6/\aq.same aq/\True)/\s.same s/\w.same w/\y.same y/\aC.same aV/\(d bp.off b3 55 true).same aX/\True)/\(c<=O/\O<=I)/\(I - O).toNat<(I - x).toNat)/\(b1=false->(r [q [R,R],R,n 4]).same ah/\s.same s/\True))))/\(decide (x<I)=false->ao.length=Q.length/\(p.classes.length<=8/\Q.length<=1000/\∀(x:Off),x∈Q->c<=x.bX/\x.bX<ay/\x.want.ok=true)/\((!fy p Q)=true->0=0/\0=0/\0=0/\(r [q [j a9 [],j az []],j L [],n 14]).same ah/\s.same s/\True)/\((!fy p Q)=false->(((t.same t/\v.same v/\aD.same z/\aS.same A/\B.same B/\C.same C/\aD.same z/\(a (↑ar:Int)).same V/\a7.same (a 0)/\True)/\s.same s/\w.same w/\y.same y/\aC.same F/\aW.same G/\D.same D/\aO.same aO/\(d az [] 207 false).same ak/\aP.same (d sF (l8 p f 0) 126 false)/\True)/\c<=c/\c<=E)/\∀(x:Int),let au:=bj H x.toNat c;let aE:=(bj p.offers au.toNat aj).value;let av:=l8 p f x.toNat;let b5:=av.length+1;let W:=x+k;let b6:=a W;let aF:=bu (ι aE);let b7:=av++[(aF.fst,aF.snd.fst,aF.snd.snd)];c<=x/\x<=E->(decide (x<E)=true->N=H.length/\c<=x/\x<(↑H.length:Int)/\N=H.length/\x.toNat<H.length/\c<=au/\au<ae/\au.toNat<ai/\(h<=aE/\aE<=l)/\1=1/\x.toNat=av.length/\b5*56<=140737488355328/\b5<=1000000000000/\m W/\((t.same t/\v.same v/\z.same z/\A.same A/\B.same B/\C.same C/\z.same z/\V.same V/\b6.same b6/\True)/\s.same s/\w.same w/\y.same y/\F.same F/\G.same G/\D.same D/\(e (g 8 b7.length 3::af) 172 2 false).same (e (g 8 W.toNat 3::af) 172 2 false)/\ak.same ak/\(d a9 b7 126 false).same (d sF (l8 p f W.toNat) 126 false)/\True)/\(c<=W/\W<=E)/\(E - W).toNat<(E - x).toNat)/\(decide (x<E)=false->p.classes.length<=8/\(((t.same t/\v.same v/\z.same z/\A.same A/\B.same B/\C.same C/\J.same J/\a7.same (a 0)/\True)/\s.same s/\w.same w/\y.same y/\F.same F/\G.same G/\D.same D/\(e (g 8 x.toNat 3::af) 172 2 false).same (e (al::af) 172 2 false)/\ak.same (d sR (nC p f 0) 207 false)/\(d sF av 126 false).same M/\True)/\c<=c/\c<=cZ p)/\∀(x:Int),let b8:=decide (x<cZ p);let T:=e [al,g 7 x.toNat 4] 172 2 false;let ab:=nC p f x.toNat;let U:=d sR ab 207 false;let ac:=bu (ι (df p x - cG p P x));let aG:=[γw ac.fst,j a8 ac.snd.fst,j a8 ac.snd.snd];let b9:=ab.length+1;let X:=x+k;let ba:=a X;c<=x/\x<=cZ p->(b8=true->(p.classes.length<=8/\c<=x/\x<cZ p)/\(((t.same t/\v.same v/\z.same z/\A.same A/\B.same B/\C.same C/\(a x).same (a x)/\(a (df p x)).same (a (df p x - cG p [] x))/\J.same J/\(a x).same (a x)/\A.same A/\am.same am/\a7.same (a 0)/\True)/\s.same s/\w.same w/\y.same y/\F.same F/\G.same G/\D.same D/\T.same T/\U.same U/\M.same M/\True)/\c<=c/\c<=S)/\∀(x_1:Int),let aH:=bj P x_1.toNat aj;let aw:=df p x - cG p (ω x_1.toNat P) x;let bb:=aw - dK p x aH;let ad:=x_1+k;let K:=a x;let bc:=a ad;let aI:=bu (ι aw);c<=x_1/\x_1<=S->(decide (x_1<S)=true->z25=P.length/\c<=x_1/\x_1<(↑P.length:Int)/\z25=P.length/\x_1.toNat<P.length/\(p.classes.length<=8/\c<=x/\x<cZ p/\c<=aH.bX/\aH.bX<ay)/\m bb/\m ad/\((t.same t/\v.same v/\z.same z/\A.same A/\B.same B/\C.same C/\K.same K/\(a bb).same (a (df p x - cG p (ω ad.toNat P) x))/\J.same J/\K.same K/\A.same A/\am.same am/\bc.same bc/\True)/\s.same s/\w.same w/\y.same y/\F.same F/\G.same G/\D.same D/\T.same T/\U.same U/\M.same M/\True)/\(c<=ad/\ad<=S)/\(S - ad).toNat<(S - x_1).toNat)/\(decide (x_1<S)=false->(h<=aw/\aw<=l)/\(((t.same t/\v.same v/\z.same z/\A.same A/\B.same B/\C.same C/\K.same K/\an.same an/\J.same J/\K.same K/\z.same z/\V.same V/\a7.same (a 0)/\True)/\s.same s/\w.same w/\y.same y/\F.same F/\G.same G/\D.same D/\T.same T/\U.same U/\M.same M/\(e [aQ,γw aI.fst,j a8 aI.snd.fst,j a8 aI.snd.snd] 207 4 false).same (e (aQ::aG) 207 4 false)/\aP.same (d sF (nB p f x 0) 126 false)/\True)/\c<=c/\c<=E)/\∀(x_2:Int),let ax:=bj H x_2.toNat c;let aJ:=bj p.offers ax.toNat aj;let aK:=dK p x aJ;let ag:=nB p f x x_2.toNat;let bd:=ag.length+1;let Y:=x_2+k;let be:=a Y;let aL:=bu (ι aK);let bf:=ag++[(aL.fst,aL.snd.fst,aL.snd.snd)];let bg:=ab++[(ag,ac.fst,ac.snd.fst,ac.snd.snd)];c<=x_2/\x_2<=E->(decide (x_2<E)=true->N=H.length/\c<=x_2/\x_2<(↑H.length:Int)/\N=H.length/\x_2.toNat<H.length/\c<=ax/\ax<ae/\ax.toNat<ai/\(p.classes.length<=8/\c<=x/\x<cZ p/\c<=aJ.bX/\aJ.bX<ay)/\(h<=aK/\aK<=l)/\1=1/\x_2.toNat=ag.length/\bd*56<=140737488355328/\bd<=1000000000000/\m Y/\((t.same t/\v.same v/\z.same z/\A.same A/\B.same B/\C.same C/\K.same K/\an.same an/\J.same J/\K.same K/\z.same z/\V.same V/\be.same be/\True)/\s.same s/\w.same w/\y.same y/\F.same F/\G.same G/\D.same D/\T.same T/\U.same U/\M.same M/\(e (g 10 bf.length 3::aG) 207 4 false).same (e (g 10 Y.toNat 3::aG) 207 4 false)/\(d a9 bf 126 false).same (d sF (nB p f x Y.toNat) 126 false)/\True)/\(c<=Y/\Y<=E)/\(E - Y).toNat<(E - x_2).toNat)/\(decide (x_2<E)=false->x_2.toNat=ag.length/\1=1/\x.toNat=ab.length/\b9*80<=140737488355328/\b9<=1000000000000/\m X/\((t.same t/\v.same v/\z.same z/\A.same A/\B.same B/\C.same C/\J.same J/\ba.same ba/\True)/\s.same s/\w.same w/\y.same y/\F.same F/\G.same G/\D.same D/\(e [al,g 7 bg.length 4] 172 2 false).same (e [al,g 7 X.toNat 4] 172 2 false)/\(d az bg 207 false).same (d sR (nC p f X.toNat) 207 false)/\M.same M/\True)/\(c<=X/\X<=cZ p)/\(cZ p - X).toNat<(cZ p - x).toNat)))/\(b8=false->N=aA.length/\x.toNat=ab.length/\N=H.length/\(r [q [j sF aA,j sR ab],j L H,a7]).same ah/\s.same s/\True))))))) (by kernel_rfl) ?_;simp only[vcs];obtain⟨g1,g2,g3,g4,g5⟩:=dN hc;have hoi:∀k:Nat,∀o:Int,o=k->(bj p.offers k bp.off.dflt)=oI p o:=λk o h=>by subst h;rfl
 have hw2:∀{a b:Nat},a=b->(γS 3 a 1).same (γS 3 b 1):=by rintro _ _ rfl;rfl
 have hw3:∀{a b:Nat},a=b->(γS 4 a 8).same (γS 4 b 8):=by rintro _ _ rfl;rfl
 have ly:∀{x y:List Int},x=y->(bq.row (.i .i64) x 3 true).same (bq.row (.i .i64) y 3 true):=by rintro _ _ rfl;rfl
 have yC:∀{x y:List Off},x=y->(bq.row .off x 55 true).same (bq.row .off y 55 true):=by rintro _ _ rfl;rfl
 refine⟨λh=>absurd hc h,λ_=>⟨λh=>absurd (by rw[hl]) h,λ_=>⟨⟨⟨⟨hw2 rfl,hw3 rfl⟩,ly rfl⟩,by omega,by omega⟩,?_⟩⟩⟩;rintro i ⟨i0,i1⟩;have htl:(f.take i.toNat).length<=160:=by rw[γq];omega
 have hd0:=@um (f.take i.toNat) 0;have hd1:=@um (f.take i.toNat) 1;have hm1:(γc (oI p) (bC (f.take i.toNat) 1)).length=(bC (f.take i.toNat) 1).length:=Ω _;refine⟨λhi=>?_,λhi=>?_⟩
 ·have hs0:=@AO f 0 i i0 hi;have hs1:=@AO f 1 i i0 hi;have agM: -1<=bj f i.toNat 0/\bj f i.toNat 0<=1:=by
   have:=κ.1 hr _ (dj (d:=0) (show i.toNat<f.length by omega));simpa using this
  refine⟨i0,hi,by omega,λh1=>?_,λh1=>⟨λh2=>?_,λh2=>⟨λh3=>?_,λh3=>by omega⟩⟩⟩
  ·rw[if_neg (by omega),γL] at hs0 hs1;rw[hs0,hs1];refine⟨?_,⟨⟨hw2 rfl,hw3 rfl⟩,ly rfl,yC rfl⟩,?_,?_⟩<;>omega
  ·rw[if_pos (by omega)] at hs0;rw[if_neg (by omega),γL] at hs1;rw[hs0,hs1];refine⟨?_,?_,?_,⟨⟨hw2 rfl,hw3 rfl⟩,ly rfl,yC rfl⟩,?_,?_⟩<;>omega
  ·rw[if_neg (by omega),γL] at hs0;rw[if_pos (by omega)] at hs1;rw[hs0,hs1,hoi i.toNat i (by omega),hm1];have e:γc (oI p) (bC (f.take i.toNat) 1)++[oI p i]=γc (oI p) (bC (f.take i.toNat) 1++[i]):=by rw[List.map_append];rfl
   rw[e,Ω];refine⟨i0,?_,?_,rfl,?_,?_,?_,⟨⟨hw2 rfl,hw3 rfl⟩,ly rfl,yC rfl⟩,?_,?_⟩<;>omega
 ·have htk:f.take i.toNat=f:=by rw[show i.toNat=f.length by omega,π]
  rw[htk] at hd0 hd1 hm1 ⊢;have hdl:∀d,(bC f d).length<=160:=λd=>by have:=@um f d;omega
  refine⟨hm1.symm,⟨g1,by omega,λx hx=>?_⟩,λhb=>?_,λhb=>?_⟩
  ·obtain⟨k,hk,rfl⟩:=γa.1 hx;have h1:=(kh.1 hk).1;have:=ki hc (i:=k) (by omega);exact⟨this.1,this.2.1,this.2.2.1⟩
  ·have hb2:ic p f=false:=hb;unfold mE;simp only[hb2];exact⟨rfl,rfl,rfl⟩
  ·have hb2:ic p f=true:=hb;have hG:mE p f=((iE (jC p f)).1,((iE (jC p f)).2,bC f 0)):=by unfold mE;rw[if_pos hb2]
   simp only[hb2,if_true,hG];have hfx:eT p f:=⟨hc,hl,hb⟩;have A1:∀{x y:List bM},x=y->(bq.row sF x 126 false).same (bq.row sF y 126 false):=by rintro _ _ rfl;rfl
   have T9:∀{x y:List (List bM×bM)},x=y->(bq.row sR x 207 false).same (bq.row sR y 207 false):=by rintro _ _ rfl;rfl
   have Ky:∀{a b c d:Nat},a=b->c=d->(bq.cells [.ow 8 a 3,.ow 7 c 4] 172 2 false).same (bq.cells [.ow 8 b 3,.ow 7 d 4] 172 2 false):=by rintro _ _ _ _ rfl rfl;rfl
   have hc8:∀{a b:Nat} {q q':Rat},a=b->q=q'->(bq.cells [.ow 10 a 3,.sb (bu q).1,.row (.i .u32) (bu q).2.1,.row (.i .u32) (bu q).2.2] 207 4 false).same (bq.cells [.ow 10 b 3,.sb (bu q').1,.row (.i .u32) (bu q').2.1,.row (.i .u32) (bu q').2.2] 207 4 false):=by rintro _ _ _ _ rfl rfl;rfl
   have hn0:=hdl 0;have hn1:=hdl 1;have hfree:∀j:Int,0<=j->j<(bC f 0).length->(0<=bj (bC f 0) j.toNat 0/\bj (bC f 0) j.toNat 0<p.offers.length):=λj h0 h1=>by
    have:=(kh.1 (dj (d:=0) (show j.toNat<(bC f 0).length by omega))).1;omega
   refine⟨⟨⟨⟨hw2 rfl,hw3 rfl,hw2 rfl,trivial⟩,ly rfl,yC rfl,A1 rfl⟩,by omega,by omega⟩,?_⟩;rintro j ⟨j0,j1⟩;have hgl:=@JX p f j.toNat (by omega);refine⟨λhj=>?_,λhj=>?_⟩
   ·have hk:=hfree j j0 hj;have ho:=ki hc hk;have hs:=@adh p f j j0 hj;have adZ:=@JX p f (j+1).toNat (by omega);rw[hoi _ (bj (bC f 0) j.toNat 0) (by omega)];simp only[jB];have e:l8 p f j.toNat++[bu (ι (oI p (bj (bC f 0) j.toNat 0)).value)]=l8 p f (j+1).toNat:=hs.symm;rw[e];refine⟨j0,hj,?_,hk.1,hk.2,?_,?_,?_,?_,?_,?_,⟨Ky adZ rfl,A1 rfl⟩,?_,?_⟩<;>omega
   ·rw[show j.toNat=(bC f 0).length by omega];have hnr:cZ p=p.classes.length+12:=rfl;refine⟨g1,⟨⟨Ky rfl rfl,T9 rfl,A1 rfl⟩,by omega,by omega⟩,?_⟩;rintro r ⟨r0,r1⟩;have hrl:=@TC p f r.toNat;refine⟨λhr2=>⟨⟨g1,r0,hr2⟩,⟨by simp[cG],by omega,by omega⟩,?_⟩,λhr2=>?_⟩
    ·rintro k ⟨k0,k1⟩;have hok:∀x∈(γc (oI p) (bC f 1)).take k.toNat,x.want.ok=true:=λx hx=>(Eb hfx x (γd hx)).2.2.1;have hsb:=@sf p r ((γc (oI p) (bC f 1)).take k.toNat) hok;have ad1:((γc (oI p) (bC f 1)).take k.toNat).length<=160:=by rw[γq];omega
     have hbb:=@AE p hc r;refine⟨λhk=>?_,λhk=>?_⟩
     ·have hx:=Eb hfx _ (dj (d:=bp.off.dflt) (show k.toNat<(γc (oI p) (bC f 1)).length by omega));have hst:=@Hy p r (γc (oI p) (bC f 1)) k bp.off.dflt k0 (by omega);have hcb:=@pD p r _ hx.2.2.1;refine⟨?_,k0,?_,?_,?_,⟨g1,r0,hr2,hx.1,hx.2.1⟩,?_,?_,?_,?_,?_⟩<;>omega
     ·have e:(γc (oI p) (bC f 1)).take k.toNat=γc (oI p) (bC f 1):=List.take_of_length_le (by omega);rw[e] at hsb ad1 ⊢;refine⟨by omega,⟨⟨hc8 rfl rfl,A1 rfl⟩,by omega,by omega⟩,?_⟩;rintro l ⟨l0,l1⟩;have hcl:=@TB p f r l.toNat (by omega);refine⟨λhl2=>?_,λhl2=>?_⟩
      ·have hk:=hfree l l0 hl2;have ho:=ki hc hk;have hs:=@adi p f r l l0 hl2;have ad2:=@TB p f r (l+1).toNat (by omega);have hcb:=@pD p r _ ho.2.2.1;rw[hoi _ (bj (bC f 0) l.toNat 0) (by omega)];simp only[jB];have e:nB p f r l.toNat++[bu (ι (dK p r (oI p (bj (bC f 0) l.toNat 0))))]=nB p f r (l+1).toNat:=hs.symm;rw[e];refine⟨l0,hl2,?_,hk.1,hk.2,?_,⟨g1,r0,hr2,ho.1,ho.2.1⟩,?_,?_,?_,?_,?_,⟨hc8 ad2 rfl,A1 rfl⟩,?_,?_⟩<;>omega
      ·rw[show l.toNat=(bC f 0).length by omega] at hcl ⊢;have hs:=@adj p f r r0;have hrl2:=@TC p f (r+1).toNat;simp only[jB];have e:nC p f r.toNat++[(nB p f r (bC f 0).length,bu (ι (df p r - cG p (γc (oI p) (bC f 1)) r)))]=nC p f (r+1).toNat:=hs.symm;rw[e];refine⟨hcl.symm,hrl.symm,?_,?_,?_,⟨Ky rfl hrl2,T9 rfl⟩,?_,?_⟩<;>omega
    ·have e:r.toNat=mF p:=by
      show r.toNat=p.classes.length+12;omega
     rw[e] at hrl ⊢;rw[Tz,TA];refine⟨?_,hrl.symm.trans (by rw[TA]),rfl,trivial,trivial⟩;rw[<-Tz];exact(JX (Nat.le_refl _)).symm
noncomputable def Kz:dF:=Kv 72 (λp f=>f.length<=1000000000000) λp f=> .bJ [adq p f,.si .i64 (i7 p f)]
noncomputable def Ua (p:bn) (f:List Int) (x:List bM):bZ:=
 [.row (.i .i64) f 3 true,.cells p.ss 27 20 false,.cells [.bl false,.bl false,.sc (.slice none 0 0),.sc (.slice none 0 0),.sc (.slice none 0 0),.sc (.slice none 0 0)] 135 6 false,.cells [.row sF (mE p f).1,.row sR (mE p f).2.1] 172 2 false,
  .cells [.si .i64 1,.sb (bu (dq p f).value).1,.row (.i .u32) (bu (dq p f).value).2.1,.row (.i .u32) (bu (dq p f).value).2.2,.row sF (fL (fZ (dq p f) (nF f) (mF p))),.row sF (fL (gh p f)),.row sF []] 176 7 false,.row sF x 126 true]
noncomputable def ad3 (p:bn) (f:List Int):Nat->cC
 |12=> .inv Int (λi=>⟨[(1,.ow 0 f.length 1),(2,.ptr 1 0 20),(4,.ptr 2 0 6),(8,.row (.i .i64) (bC f 0)),(10,.ptr 4 0 7),(11,.ow 5 f.length 3),(45,.ow 0 f.length 1),(46,.si .i64 f.length),(47,.si .i64 i)],Ua p f (eQ (fL (jP p f 0)) i.toNat (false,([],[])))⟩)
   (λs=>iS s 47) (λi=>0<=i/\i<=f.length) (λi=>(f.length - i).toNat) λ_ _=> .look
 |19=> .inv Int (λk=>⟨[(1,.ow 0 f.length 1),(2,.ptr 1 0 20),(4,.ptr 2 0 6),(10,.ptr 4 0 7),(11,.ow 5 f.length 3),(63,.row (.i .i64) (bC f 0)),(64,.si .i64 (bC f 0).length),(65,.si .i64 k)],Ua p f (fL (jP p f k.toNat))⟩)
   (λs=>iS s 65) (λk=>0<=k/\k<=(bC f 0).length) (λk=>((bC f 0).length - k).toNat) λ_ _=> .look
 |_=> .look
theorem h390w:dZ Tryz.prog Kz:=by
 refine A0 (L:=[Ep,JV,nY,vP]) (W:=[Kx,Kw]) Kz (λa=>ad3 a.1 a.2.2) (by simpa using⟨h394w,h396w⟩) (by simpa using⟨h393,h395,h94,h129⟩) ?_;rintro⟨p,n,f⟩ ⟨hn,hl:f.length<=1000000000000⟩;simp only at hn;subst hn;refine bO (let c:=γe .i64;let d:=(0:Int);let e:=Θ;let g:=bq.row;let h:=(-9223372036854775808:Int);let j:=(9223372036854775807:Int);let k:=bq.cells;let l:=(1:Int);let m:=γw;let n:=SV.bJ;let o:=γP;let q:=γQ;let Q:=δa false;let v:=bp.i .u32;let a6:=bp.b.pair (v.bH.pair v.bH);let ah:=q [Q,Q,e v [],e v [],e a6 [],e a6 []];let ai:=[c (i7 p f)];let a7:=n (q [m (jQ p f),m (kj p f).fst,e v (kj p f).snd.fst,e v (kj p f).snd.snd,e sF (qK p f),e sF (km p f)]::ai);let R:=bp.i .i64;let t:=g R f 3 true;let aj:=decide (i7 p f≠d);let ak:=decide ((if ic p f=true then d else(14:Int))≠d);let S:=γx .i64 0;let T:=(mE p f).fst;let a8:=(mE p f).snd.fst;let a9:=c 0;let s:=(↑f.length:Int);let w:=γS 0 f.length 1;let y:=o 1 0 20;let z:=o 2 0 6;let J:=bC f d;let G:=e R J;let A:=o 4 0 7;let H:=γS 5 f.length 3;let U:=c s;let B:=k [c p.supply.a0,c p.supply.a1,c p.supply.a2,c p.supply.a3,c p.supply.a4,c p.supply.a5,c p.opn.a0,c p.opn.a1,c p.opn.a2,c p.opn.a3,c p.opn.a4,c p.opn.a5,c p.cls.a0,c p.cls.a1,c p.cls.a2,c p.cls.a3,c p.cls.a4,c p.cls.a5,e R p.classes,e bp.off p.offers] 27 20 false;let V:=SV.sc (Value.slice none 0 0);let C:=k [Q,Q,V,V,V,V] 135 6 false;let D:=k [e sF T,e sR a8] 172 2 false;let al:=c 1;let aa:=γc (λ(r:List bM×bM) ↦(vL r.fst,bQ r.snd)) a8;let P:=nA (vL T,aa);let z31:Nat:=(vL T).length;let K:=bu (dq p f).value;let W:=fL (fZ (dq p f) (nF f) (mF p));let am:=e sF (fL (gh p f));let I:=k [al,m K.fst,e v K.snd.fst,e v K.snd.snd,e sF W,am,e sF []] 176 7 false;let X:=(false,[],[]);let Y:=fL (jP p f 0);let ab:=bu (ι d);let ac:=bu (ι l);let E:=(↑J.length:Int);let ad:=c E;let ae:=bu (ι (gd p f));let an:=(ae.fst,ae.snd.fst,ae.snd.snd);let ao:=(K.fst,K.snd.fst,K.snd.snd);let af:=bu (bQ an+bQ ao);let ap:=λ(u:Bool) (u_1:SV) ↦u=true->0=0/\0=0/\0=0/\0=0/\(n [ah,u_1]).same a7/\t.same t/\True;f.length=f.length/\f.length<=1000000000000/\(aj=true->0=0/\0=0/\0=0/\0=0/\(n (ah::ai)).same a7/\t.same t/\True)/\(aj=false->(f.length=f.length/\(bB p=d/\f.length=p.offers.length)/\gp f=true)/\ap ak S/\(ak=false->(∃(a:Lp),(T,a8)=iE a/\AL a)/\ap false a9/\(false=false->d<=s/\s<=s/\s*(56:Int)<=(140737488355328:Int)/\s<=(1000000000000:Int)/\(((w.same w/\y.same y/\z.same z/\(e R (mE p f).snd.snd).same G/\A.same A/\(γS 5 s.toNat 3).same H/\w.same w/\U.same U/\S.same a9/\True)/\t.same t/\B.same B/\C.same C/\D.same D/\(k [al,m (bu P.value).fst,e v (bu P.value).snd.fst,e v (bu P.value).snd.snd,e sF (fL (fZ P z31 aa.length)),e sF (fL (jm P z31 aa.length z31)),e sF []] 176 7 false).same I/\(g a6 (δ s.toNat X) 126 true).same (g sF (eQ Y 0 X) 126 true)/\True)/\d<=d/\d<=s)/\∀(x:Int),let L:=x+l;let aq:=c L;let M:=eQ Y x.toNat X;let ar:=decide (bj f x.toNat d=l);let N:=M.set x.toNat (ab.fst,ab.snd.fst,ab.snd.snd);let au:=λ(u:List (Bool×List Int×List Int)) ↦cn .i64 L/\((w.same w/\y.same y/\z.same z/\G.same G/\A.same A/\H.same H/\w.same w/\U.same U/\aq.same aq/\True)/\t.same t/\B.same B/\C.same C/\D.same D/\I.same I/\(g sF u 126 true).same (g sF (eQ Y L.toNat X) 126 true)/\True)/\(d<=L/\L<=s)/\(s - L).toNat<(s - x).toNat;d<=x/\x<=s->(decide (x<s)=true->f.length=f.length/\d<=x/\x<(↑f.length:Int)/\f.length=f.length/\x.toNat<f.length/\(h<=d/\d<=j)/\f.length=M.length/\d<=x/\x<(↑M.length:Int)/\f.length=M.length/\x.toNat<M.length/\(ar=true->(h<=l/\l<=j)/\f.length=N.length/\d<=x/\x<(↑N.length:Int)/\f.length=N.length/\x.toNat<N.length/\au (N.set x.toNat (ac.fst,ac.snd.fst,ac.snd.snd)))/\(ar=false->au N))/\(decide (x<s)=false->(((w.same w/\y.same y/\z.same z/\A.same A/\H.same H/\G.same G/\(c (↑J.length:Int)).same ad/\S.same a9/\True)/\t.same t/\B.same B/\C.same C/\D.same D/\I.same I/\(g sF M 126 true).same (g sF Y 126 true)/\True)/\d<=d/\d<=E)/\∀(x:Int),let F:=fL (jP p f x.toNat);let Z:=bj J x.toNat d;let O:=x+l;let av:=c O;let ag:=bj W x.toNat sF.dflt;d<=x/\x<=E->(decide (x<E)=true->d<=x/\x<(↑J.length:Int)/\x.toNat<J.length/\d<=x/\x<(↑W.length:Int)/\x.toNat<W.length/\f.length=F.length/\d<=Z/\Z<(↑F.length:Int)/\f.length=F.length/\Z.toNat<F.length/\cn .i64 O/\((w.same w/\y.same y/\z.same z/\A.same A/\H.same H/\G.same G/\ad.same ad/\av.same av/\True)/\t.same t/\B.same B/\C.same C/\D.same D/\I.same I/\(g sF (F.set Z.toNat (ag.fst,ag.snd.fst,ag.snd.snd)) 126 true).same (g sF (fL (jP p f O.toNat)) 126 true)/\True)/\(d<=O/\O<=E)/\(E - O).toNat<(E - x).toNat)/\(decide (x<E)=false->(f.length=f.length/\bB p=d/\f.length=p.offers.length)/\(cB an/\cB ao)/\f.length=F.length/\f.length=F.length/\(n [q [δa true,m af.fst,e v af.snd.fst,e v af.snd.snd,am,e sF F],S]).same a7/\t.same t/\True)))))) (by kernel_rfl) ?_;simp only[vcs];have hz:jQ p f=false->(γQ [δa false,δa false,Θ (bp.i IntKind.i64) [],Θ (bp.i IntKind.i64) [],Θ (bp.i IntKind.i64) [],Θ (bp.i IntKind.i64) []]).same
   (γQ [γw (jQ p f),γw (kj p f).fst,Θ (bp.i IntKind.u32) (kj p f).snd.fst,Θ (bp.i IntKind.u32) (kj p f).snd.snd,Θ sF (qK p f),Θ sF (km p f)]):=λh=>by
  unfold kj qK km;simp only[h];rfl
 refine⟨hl,λh=>hz (by unfold jQ;rw[decide_eq_false h];rfl),λh=>?_⟩;have hx0:i7 p f=0:=Ξ.1 h;have hcl:bB p=0/\f.length=p.offers.length/\gp f=true:=by
  unfold i7 at hx0;split at hx0;·rename_i h1;exact absurd hx0 h1
  ·rename_i h1;split at hx0;·cases hx0
   ·rename_i h2;split at hx0;·rename_i h3;exact⟨Ξ.1 h1,Ξ.1 h2,h3⟩
    ·cases hx0
 obtain⟨hc,hln,hr⟩:=hcl;refine⟨⟨⟨hc,hln⟩,hr⟩,λh1=>⟨hz ?_,hx0.symm⟩,λh1=>?_⟩
 ·have hb:ic p f=false:=by
   cases hb:ic p f with
   |false=>rfl;|true=>rw[hb] at h1;exact absurd rfl h1
  unfold jQ;rw[hb,Bool.and_false]
 ·have hb:ic p f=true:=by
   cases hb:ic p f with
   |true=>rfl;|false=>rw[hb] at h1;exact absurd (by simp) h1
  have hfx:eT p f:=⟨hc,hln,hb⟩;have hG:mE p f=((iE (jC p f)).1,((iE (jC p f)).2,bC f 0)):=by unfold mE;rw[if_pos hb]
  have hok:jQ p f=true:=by unfold jQ;rw[hb,decide_eq_true hx0];rfl
  have h0:(ι 0:Rat)=0:=rfl;have h1':(ι 1:Rat)=1:=rfl;simp only[hG,Tn,Tq,h0,h1',jB];have e1:(jC p f).1.length=nF f:=by
   show((bC f 0).map _).length=_;rw[Ω]
  have e2:(jC p f).2.length=mF p:=by
   show((dH (mF p)).map _).length=_;rw[Ω,gG]
  have JW:((jC p f).1,(jC p f).2)=jC p f:=rfl;simp only[JW,adl,e1,e2];have uq:∀{x y:List bM},x=y->(bq.row sF x 126 true).same (bq.row sF y 126 true):=by rintro _ _ rfl;rfl
  have hs0:=@yt p f 0;have hf0:=@ft (jP p f 0);have hpt:=@Ek (dq p f) (nF f) (mF p);have hfp:=@ft (fZ (dq p f) (nF f) (mF p));have hcast:∀k:Nat,((k:Nat):Int).toNat=k:=λk=>Ψ k;have hnf:nF f=(bC f 0).length:=rfl;have hdl0:=@um f 0;refine⟨⟨jC p f,rfl,adk hfx⟩,λh=>(by cases h),λ_=>⟨by omega,by omega,by omega,by omega,⟨⟨⟨trivial,by rw[hcast];rfl⟩,rfl,uq (by rw[yn,hf0,hs0,hcast])⟩,by omega,by omega⟩,?_⟩⟩;rintro i ⟨i0,i1⟩;have oG:=@ym (fL (jP p f 0)) i.toNat (false,([],[])) (by omega);refine⟨λhi=>?_,λhi=>?_⟩
  ·have hv:bj (fL (jP p f 0)) i.toNat (false,([],[]))=bu (if bj f i.toNat 0=1 then 1 else 0):=by rw[jl (by omega),adp (by omega)]
   have hset:∀x:bM,x=bu (if bj f i.toNat 0=1 then 1 else 0)->(eQ (fL (jP p f 0)) i.toNat (false,([],[]))).set i.toNat x=eQ (fL (jP p f 0)) (i+1).toNat (false,([],[])):=λx hx=>by
    have:=yp (d:=fL (jP p f 0)) (j:=i.toNat) (z:=(false,([],[]))) (x:=x) (by omega) (hx.trans hv.symm);rw[show(i+1).toNat=i.toNat+1 by omega];exact this
   rw[τ];refine⟨i0,hi,by omega,by omega,by omega,i0,by omega,by omega,by omega,λh1=>⟨by omega,by omega,i0,by omega,by omega,by omega,by omega,uq ?_,by omega,by omega⟩,λh1=>⟨by omega,uq ?_,by omega,by omega⟩⟩
   ·rw[List.set_set];exact hset _ (by rw[if_pos h1])
   ·exact hset _ (by rw[if_neg h1])
  ·have hi2:i.toNat=(fL (jP p f 0)).length:=by omega
   rw[hi2,yo];refine⟨⟨uq rfl,by omega,by omega⟩,?_⟩;rintro k ⟨k0,k1⟩;have hsk:=@yt p f k.toNat;have hfk:=@ft (jP p f k.toNat);refine⟨λhk=>?_,λhk=>?_⟩
   ·have hm:=(kh.1 (dj (d:=0) (show k.toNat<(bC f 0).length by omega))).1;have hv:bj (fL (fZ (dq p f) (nF f) (mF p))) k.toNat sF.dflt=bu (bj (fZ (dq p f) (nF f) (mF p)) k.toNat 0):=jl (by omega);have hst:=@ado p f k.toNat (by omega);rw[hv];refine⟨k0,hk,by omega,k0,by omega,by omega,by omega,hm.1,by omega,by omega,by omega,by omega,uq ?_,by omega,by omega⟩;rw[yq,show(k+1).toNat=k.toNat+1 by omega,hst]
   ·have hk2:k.toNat=nF f:=by omega
    rw[hk2] at hsk hfk ⊢;have hab:=@AP p hc f f.length hln;rw[π] at hab;have hsa:Sz 1 ((gd p f:Int):Rat):=by
     unfold Sz;rw[Rat.num_intCast,Rat.den_intCast];omega
    have hsv:Sz 1000000 (dq p f).value:=by
     have:=(Ec hfx).vU (od hfx).1;exact this.2.2.2
    refine⟨⟨hc,hln⟩,⟨dP hsa (by omega),dP hsv (by omega)⟩,by omega,by omega,?_,hx0.symm⟩;unfold kj qK km;simp only[hok,if_true,ez];rfl
def KA:dF:=EJ 76 (List bM) (.one (dM sF)) (λx a=>eU x/\oZ a/\a.length=x.p.offers.length) (λx a=>jZ.put ⟨eE (vL a),cu ((eE (vL a)).map (oI x.p))⟩) λx _=>x
def ko (x:List Rat) (k:Nat):List Int:=(dH k).filter λi=>decide (0<bj x i.toNat 0)
def lz (p:bn) (l:List Int):Int:=cu (l.map (oI p))
def ad5 (x:dO) (a:List bM):Nat->cC
 |3=>match x.en with
  |none=> .inv Int (λi=>⟨[(0,.ptr 0 0 28),(4,.ptr 3 0 2),(5,.ptr 5 0 2),(10,.row sF a),(11,.si .i64 a.length),(12,.si .i64 i)],
    x.yx++[.cells [.sc (.slice none 0 0),.si .i64 0] 31 2 false,.row (.i .i64) (ko (vL a) i.toNat) 3 true,.cells [.ow 4 (ko (vL a) i.toNat).length 1,.si .i64 (lz x.p (ko (vL a) i.toNat))] 31 2 false]⟩)
    (λs=>iS s 12) (λi=>0<=i/\i<=a.length) (λi=>(a.length - i).toNat) λ_ _=> .look
  |some m=> .inv Int (λi=>⟨[(0,.ptr 0 0 28),(4,.ptr 4 0 2),(5,.ptr 6 0 2),(10,.row sF a),(11,.si .i64 a.length),(12,.si .i64 i)],
    x.yy m++[.cells [.sc (.slice none 0 0),.si .i64 0] 31 2 false,.row (.i .i64) (ko (vL a) i.toNat) 3 true,.cells [.ow 5 (ko (vL a) i.toNat).length 1,.si .i64 (lz x.p (ko (vL a) i.toNat))] 31 2 false]⟩)
    (λs=>iS s 12) (λi=>0<=i/\i<=a.length) (λi=>(a.length - i).toNat) λ_ _=> .look
 |_=> .look
theorem Ub {x:List Rat} {i:Int} (i0:0<=i):ko x (i+1).toNat=if 0<bj x i.toNat 0 then ko x i.toNat++[i] else ko x i.toNat:=by
 unfold ko;rw[show(i+1).toNat=i.toNat+1 by omega,vI,List.filter_append,εu i0];grind
theorem Uc {p:bn} {x:List Rat} {k:Nat} (a:bB p=0) (g:k<=p.offers.length):(ko x k).length<=160/\0<=lz p (ko x k)/\lz p (ko x k)<=160000000:=by
 have e:(ko x k).length<=k:=by
  have:=List.length_filter_le (λi:Int=>decide (0<bj x i.toNat 0)) (dH k);rw[gG] at this;exact this
 have c:=qw (dN a) (l:=(ko x k).map (oI p)) λy b=>by
  obtain⟨i,d,rfl⟩:=γa.1 b;have:=nk.1 (List.mem_filter.1 d).1;exact dj (by omega)
 rw[Ω] at c;have f:=(dN a).2.1;grind[lz]
theorem Ud {p:bn} {l:List Int} {i:Int}:lz p (l++[i])=lz p l+(oI p i).value:=by
 simp_all[lz,nU,cu]
theorem h446:dZ Tryz.prog KA:=by
 refine A0 (L:=[sx]) (W:=[]) KA (λa=>ad5 a.1 a.2) (by simp) (by simpa using h99) ?_;rintro⟨⟨p,ch,val,found,en,k1,k2,most,err,prf,fx⟩,a⟩ ⟨hok,⟨l,hx,hla,hz⟩,hl⟩;simp only at hok hx hla hl;subst hx;have hc:bB p=0:=hok.f.c;have h160:=(dN hc).2.1;have hll:=@ft l;have hl:(fL l).length=p.offers.length:=hl;cases en with
 |none=>
  refine bO (let a:=γe .i64;let b:=bq.cells;let c:=bq.row;let d:=(0:Int);let e:=Θ;let f:=γS;let g:=γP;let r:=g 0 0 28;let s:=g 3 0 2;let t:=g 5 0 2;let C:=(↑(fL l).length:Int);let k:=(↑(fL l).length:Int);let v:=a k;let w:=γx .i64 0;let D:=a 0;let j:=bp.i .i64;let m:=b [a p.supply.a0,a p.supply.a1,a p.supply.a2,a p.supply.a3,a p.supply.a4,a p.supply.a5,a p.opn.a0,a p.opn.a1,a p.opn.a2,a p.opn.a3,a p.opn.a4,a p.opn.a5,a p.cls.a0,a p.cls.a1,a p.cls.a2,a p.cls.a3,a p.cls.a4,a p.cls.a5,e j p.classes,e bp.off p.offers,e j ch,a val,γw found,ζz (Fn.func 45) [] [],f 1 k1 5,f 2 k2 1,a most,a err] 85 28 false;let n:=c bA prf 68 true;let o:=c j fx 3 true;let E:=SV.sc (Value.slice none 0 0);let y:=b [E,D] 31 2 false;let z:=ko (vL (fL l)) 0;(((r.same r/\s.same s/\t.same t/\(e sF (fL l)).same (e sF (fL l))/\(a C).same v/\w.same D/\True)/\m.same m/\n.same n/\o.same o/\(b [E,w] 31 2 false).same y/\(c j [] 3 true).same (c j z 3 true)/\(b [f 4 0 1,w] 31 2 false).same (b [f 4 z.length 1,a (lz p z)] 31 2 false)/\True)/\d<=d/\d<=k)/\∀(x:Int),let q:=x+(1:Int);let F:=a q;let A:=ko (vL (fL l)) q.toNat;let B:=bj (fL l) x.toNat sF.dflt;let G:=(B.fst,B.snd.fst,B.snd.snd);let h:=ko (vL (fL l)) x.toNat;let H:=h.length+1;let I:=lz p h+(bj p.offers x.toNat bp.off.dflt).value;let J:=λ(u:bq) (u_1:Nat) (u_2:Int) ↦cn .i64 q/\((r.same r/\s.same s/\t.same t/\(e sF (fL l)).same (e sF (fL l))/\v.same v/\F.same F/\True)/\m.same m/\n.same n/\o.same o/\y.same y/\u.same (c j A 3 true)/\(b [f 4 u_1 1,a u_2] 31 2 false).same (b [f 4 A.length 1,a (lz p A)] 31 2 false)/\True)/\(d<=q/\q<=k)/\(k - q).toNat<(k - x).toNat;let K:=λ(u:Bool) ↦decide (d<jA (bQ G))=u;d<=x/\x<=k->(decide (x<k)=true->d<=x/\x<C/\x.toNat<(fL l).length/\cB G/\(K true->1=1/\h.length=h.length/\H*8<=140737488355328/\H<=1000000000000/\d<=x/\x<(↑p.offers.length:Int)/\x.toNat<p.offers.length/\cn .i64 I/\J (c j (h++[x]) 3 true) (h++[x]).length I)/\(K false->J (c j h 3 true) h.length (lz p h)))/\(decide (x<k)=false->h.length=h.length/\h.length=h.length/\h.length=h.length/\(γQ [e j h,a (lz p h)]).same (γQ [e j (eE (vL (fL l))),a (cu (γc (oI p) (eE (vL (fL l)))))])/\m.same m/\n.same n/\o.same o/\True)) (by kernel_rfl) ?_;simp only[vcs];have ly:∀{x y:List Int},x=y->(bq.row (.i .i64) x 3 true).same (bq.row (.i .i64) y 3 true):=by rintro _ _ rfl;rfl
  have hcI:∀{x y:List Int} {v w:Int},x=y->v=w->(bq.cells [.ow 4 x.length 1,.si .i64 v] 31 2 false).same (bq.cells [.ow 4 y.length 1,.si .i64 w] 31 2 false):=by rintro _ _ _ _ rfl rfl;rfl
  refine⟨⟨⟨rfl,ly rfl,rfl⟩,by omega,by omega⟩,?_⟩;rintro i ⟨i0,i1⟩;have hb:=@Uc p (vL (fL l)) i.toNat hc (by omega);refine⟨λhi=>?_,λhi=>?_⟩
  ·have hv:bj (fL l) i.toNat sF.dflt=bu (bj l i.toNat 0):=jl (by omega);have hq:=hz _ (dj (d:=0) (show i.toNat<l.length by omega));have ho:=(ki hc (i:=i) (by omega)).2.2.2;have hval:(bj p.offers i.toNat bp.off.dflt).value=(oI p i).value:=rfl;have hs:=@Ub (vL (fL l)) i i0;rw[hv,hval];rw[kJ] at hs hb ⊢;simp only[jB,ez,ui];refine⟨i0,hi,by omega,dP hq (by omega),λh=>?_,λh=>?_⟩
   ·rw[if_pos h] at hs;rw[hs,Ud];refine⟨?_,?_,i0,?_,?_,?_,?_,⟨ly rfl,hcI rfl rfl⟩,?_,?_⟩<;>omega
   ·rw[if_neg h] at hs;rw[hs];refine⟨?_,⟨ly rfl,hcI rfl rfl⟩,?_,?_⟩<;>omega
  ·rw[show i.toNat=(vL (fL l)).length by rw[kJ];omega];rfl;|some m=>
  refine bO (let a:=γe .i64;let b:=bq.cells;let c:=bq.row;let d:=(0:Int);let e:=Θ;let f:=γS;let g:=γP;let t:=g 0 0 28;let v:=g 4 0 2;let w:=g 6 0 2;let E:=(↑(fL l).length:Int);let k:=(↑(fL l).length:Int);let y:=a k;let z:=γx .i64 0;let F:=a 0;let j:=bp.i .i64;let n:=b [a p.supply.a0,a p.supply.a1,a p.supply.a2,a p.supply.a3,a p.supply.a4,a p.supply.a5,a p.opn.a0,a p.opn.a1,a p.opn.a2,a p.opn.a3,a p.opn.a4,a p.opn.a5,a p.cls.a0,a p.cls.a1,a p.cls.a2,a p.cls.a3,a p.cls.a4,a p.cls.a5,e j p.classes,e bp.off p.offers,e j ch,a val,γw found,ζz (Fn.func 89) [] [g 1 0 1],f 2 k1 5,f 3 k2 1,a most,a err] 85 28 false;let o:=b [a m] 2 1 false;let q:=c bA prf 68 true;let r:=c j fx 3 true;let G:=SV.sc (Value.slice none 0 0);let A:=b [G,F] 31 2 false;let B:=ko (vL (fL l)) 0;(((t.same t/\v.same v/\w.same w/\(e sF (fL l)).same (e sF (fL l))/\(a E).same y/\z.same F/\True)/\n.same n/\o.same o/\q.same q/\r.same r/\(b [G,z] 31 2 false).same A/\(c j [] 3 true).same (c j B 3 true)/\(b [f 5 0 1,z] 31 2 false).same (b [f 5 B.length 1,a (lz p B)] 31 2 false)/\True)/\d<=d/\d<=k)/\∀(x:Int),let s:=x+(1:Int);let H:=a s;let C:=ko (vL (fL l)) s.toNat;let D:=bj (fL l) x.toNat sF.dflt;let I:=(D.fst,D.snd.fst,D.snd.snd);let h:=ko (vL (fL l)) x.toNat;let J:=h.length+1;let K:=lz p h+(bj p.offers x.toNat bp.off.dflt).value;let L:=λ(u:bq) (u_1:Nat) (u_2:Int) ↦cn .i64 s/\((t.same t/\v.same v/\w.same w/\(e sF (fL l)).same (e sF (fL l))/\y.same y/\H.same H/\True)/\n.same n/\o.same o/\q.same q/\r.same r/\A.same A/\u.same (c j C 3 true)/\(b [f 5 u_1 1,a u_2] 31 2 false).same (b [f 5 C.length 1,a (lz p C)] 31 2 false)/\True)/\(d<=s/\s<=k)/\(k - s).toNat<(k - x).toNat;let M:=λ(u:Bool) ↦decide (d<jA (bQ I))=u;d<=x/\x<=k->(decide (x<k)=true->d<=x/\x<E/\x.toNat<(fL l).length/\cB I/\(M true->1=1/\h.length=h.length/\J*8<=140737488355328/\J<=1000000000000/\d<=x/\x<(↑p.offers.length:Int)/\x.toNat<p.offers.length/\cn .i64 K/\L (c j (h++[x]) 3 true) (h++[x]).length K)/\(M false->L (c j h 3 true) h.length (lz p h)))/\(decide (x<k)=false->h.length=h.length/\h.length=h.length/\h.length=h.length/\(γQ [e j h,a (lz p h)]).same (γQ [e j (eE (vL (fL l))),a (cu (γc (oI p) (eE (vL (fL l)))))])/\n.same n/\o.same o/\q.same q/\r.same r/\True)) (by kernel_rfl) ?_;simp only[vcs];have ly:∀{x y:List Int},x=y->(bq.row (.i .i64) x 3 true).same (bq.row (.i .i64) y 3 true):=by rintro _ _ rfl;rfl
  have hcI:∀{x y:List Int} {v w:Int},x=y->v=w->(bq.cells [.ow 5 x.length 1,.si .i64 v] 31 2 false).same (bq.cells [.ow 5 y.length 1,.si .i64 w] 31 2 false):=by rintro _ _ _ _ rfl rfl;rfl
  refine⟨⟨⟨rfl,ly rfl,rfl⟩,by omega,by omega⟩,?_⟩;rintro i ⟨i0,i1⟩;have hb:=@Uc p (vL (fL l)) i.toNat hc (by omega);refine⟨λhi=>?_,λhi=>?_⟩
  ·have hv:bj (fL l) i.toNat sF.dflt=bu (bj l i.toNat 0):=jl (by omega);have hq:=hz _ (dj (d:=0) (show i.toNat<l.length by omega));have ho:=(ki hc (i:=i) (by omega)).2.2.2;have hval:(bj p.offers i.toNat bp.off.dflt).value=(oI p i).value:=rfl;have hs:=@Ub (vL (fL l)) i i0;rw[hv,hval];rw[kJ] at hs hb ⊢;simp only[jB,ez,ui];refine⟨i0,hi,by omega,dP hq (by omega),λh=>?_,λh=>?_⟩
   ·rw[if_pos h] at hs;rw[hs,Ud];refine⟨?_,?_,i0,?_,?_,?_,?_,⟨ly rfl,hcI rfl rfl⟩,?_,?_⟩<;>omega
   ·rw[if_neg h] at hs;rw[hs];refine⟨?_,⟨ly rfl,hcI rfl rfl⟩,?_,?_⟩<;>omega
  ·rw[show i.toNat=(vL (fL l)).length by rw[kJ];omega];rfl
def KB:bL:=⟨77,List bM,.one (dM sF),oZ,λx=> .bJ [.si .i64 ((jD (vL x)).getD 0),.sb (jD (vL x)).isSome]⟩
def kp:Option (Int×Rat)->bM
 |none=>(false,([],[]))
 |some (_,q)=>bu q
def wa:Option (Int×Rat)->Int
 |none=>0
 |some (i,_)=>i
def ad6 (x:List bM):Nat->cC
 |6=> .inv Int (λi=>⟨[(4,.ptr 0 0 3),(6,.ptr 1 0 3),(7,.ptr 2 0 2),(8,.ptr 3 0 3),(17,.row sF x),(18,.si .i64 x.length),(19,.si .i64 i)],
   [.cells [.sb (bu (fF false 1 2)).1,.row (.i .u32) (bu (fF false 1 2)).2.1,.row (.i .u32) (bu (fF false 1 2)).2.2] 126 3 false,
    .cells [.sb (bu ((1:Int):Rat)).1,.row (.i .u32) (bu ((1:Int):Rat)).2.1,.row (.i .u32) (bu ((1:Int):Rat)).2.2] 126 3 false,
    .cells [.sb (jo (vL x) i.toNat).isSome,.si .i64 (wa (jo (vL x) i.toNat))] 189 2 false,
    .cells [.sb (kp (jo (vL x) i.toNat)).1,.row (.i .u32) (kp (jo (vL x) i.toNat)).2.1,.row (.i .u32) (kp (jo (vL x) i.toNat)).2.2] 126 3 false,.dead,.dead]⟩)
   (λs=>iS s 19) (λi=>0<=i/\i<=x.length) (λi=>(x.length - i).toNat) λ_ _=> .look
 |_=> .look
theorem ad7 {q:Rat} {k:Nat} (h:Sz k q):Sz k (mH q):=by
 grind[mH,An]
theorem Ue:mkRat 1 2=(1 / 2:Rat):=by
 grind[Rat.mkRat_eq_div]
theorem Uf:Sz 1 (1 / 2:Rat):=by
 grind[Ue,Ak]
theorem KC {q:Rat} (h:Sz 1000 q):Sz 1002 (q - 1 / 2):=by
 rw[Rat.sub_eq_add_neg];exact Am h (j:=1) (An Uf)
theorem h447:Holds Tryz.prog KB:=by
 refine cF (L:=[Kt,nY,ua,sx,x6,Aq,x5]) KB ad6 (by simpa using⟨h451,h94,h407,h99,h97,h95,h130⟩) ?_;rintro(x:List bM) ⟨l,hx,hl,hz⟩;refine bO (let a:=bq.cells;let b:=Θ;let c:=(0:Int);let d:=γe .i64;let e:=(9223372036854775807:Int);let f:=γw;let g:=(-9223372036854775808:Int);let h:=(1:Int);let j:=cn .i64;let k:=γP;let l:=δa false;let m:=(2:Int);let n:=bp.i .u32;let r:=k 0 0 3;let s:=k 1 0 3;let t:=k 2 0 2;let v:=k 3 0 3;let o:=(↑x.length:Int);let w:=d o;let R:=γx .i64 0;let y:=fF false h m;let z:=ι h;let F:=jo (vL x) 0;let B:=a [f (bu y).fst,b n (bu y).snd.fst,b n (bu y).snd.snd] 126 3 false;let C:=a [f (bu z).fst,b n (bu z).snd.fst,b n (bu z).snd.snd] 126 3 false;let S:=((bu z).fst,(bu z).snd.fst,(bu z).snd.snd);let T:=((bu y).fst,(bu y).snd.fst,(bu y).snd.snd);let U:=λ(u:Rat) ↦(a [f (bu u).fst,b n (bu u).snd.fst,b n (bu u).snd.snd] 126 3 false).same (a [f (bu u).fst,b n (bu u).snd.fst,b n (bu u).snd.snd] 126 3 false);((g<=h/\h<=e)/\c<m/\m<=e)/\(g<=h/\h<=e)/\0=0/\0=0/\(((r.same r/\s.same s/\t.same t/\v.same v/\(b sF x).same (b sF x)/\(d (↑x.length:Int)).same w/\R.same (d 0)/\True)/\U y/\U z/\(a [l,R] 189 2 false).same (a [f F.isSome,d (wa F)] 189 2 false)/\(a [l,b n [],b n []] 126 3 false).same (a [f (kp F).fst,b n (kp F).snd.fst,b n (kp F).snd.snd] 126 3 false)/\bq.dead.same bq.dead/\bq.dead.same bq.dead/\True)/\c<=c/\c<=o)/\∀(x_1:Int),let p:=x_1+h;let D:=d p;let G:=jo (vL x) p.toNat;let N:=a [f G.isSome,d (wa G)] 189 2 false;let A:=bj x x_1.toNat sF.dflt;let H:=(A.fst,A.snd.fst,A.snd.snd);let E:=bu (bQ H - bQ T);let I:=(E.fst,E.snd.fst,E.snd.snd);let V:=(bu (-bQ I)).fst;let K:=(bu (-bQ I)).snd;let O:=a [f (kp G).fst,b n (kp G).snd.fst,b n (kp G).snd.snd] 126 3 false;let q:=jo (vL x) x_1.toNat;let W:=d (wa q);let X:=(V,K.fst,K.snd);let L:=((kp q).fst,(kp q).snd.fst,(kp q).snd.snd);let M:=q.isSome==false&&(decide (wa q=c)&&true);let Y:=j p/\((r.same r/\s.same s/\t.same t/\v.same v/\(b sF x).same (b sF x)/\w.same w/\D.same D/\True)/\B.same B/\C.same C/\(a [δa true,d x_1] 189 2 false).same N/\(a [f V,b n K.fst,b n K.snd] 126 3 false).same O/\bq.dead.same bq.dead/\bq.dead.same bq.dead/\True)/\(c<=p/\p<=o)/\(o - p).toNat<(o - x_1).toNat;let Z:=j p/\((r.same r/\s.same s/\t.same t/\v.same v/\(b sF x).same (b sF x)/\w.same w/\D.same D/\True)/\B.same B/\C.same C/\(a [δa true,d x_1] 189 2 false).same N/\(a [f E.fst,b n E.snd.fst,b n E.snd.snd] 126 3 false).same O/\bq.dead.same bq.dead/\bq.dead.same bq.dead/\True)/\(c<=p/\p<=o)/\(o - p).toNat<(o - x_1).toNat;let J:=j p/\((r.same r/\s.same s/\t.same t/\v.same v/\(b sF x).same (b sF x)/\w.same w/\D.same D/\True)/\B.same B/\C.same C/\(a [f q.isSome,W] 189 2 false).same N/\(a [f (kp q).fst,b n (kp q).snd.fst,b n (kp q).snd.snd] 126 3 false).same O/\bq.dead.same bq.dead/\bq.dead.same bq.dead/\True)/\(c<=p/\p<=o)/\(o - p).toNat<(o - x_1).toNat;let P:=cB I;let Q:=cB H;let a0:=λ(u:Bool) ↦decide (iM (bQ X) (bQ L)<c)=u;let a1:=λ(u:Bool) ↦decide (iM (bQ I) (bQ L)<c)=u;let a2:=λ(u:Bool) ↦decide (jA (bQ I)<c)=u;let a3:=λ(u:Bool) ↦decide (c<=iM (bQ H) (bQ S))=u;let a4:=λ(u:Bool) ↦decide (jA (bQ H)<=c)=u;let a5:=λ(u:Bool) ↦(!okF H)=u;c<=x_1/\x_1<=o->(decide (x_1<o)=true->c<=x_1/\x_1<(↑x.length:Int)/\x_1.toNat<x.length/\((bz A.snd.fst/\bz A.snd.snd)/\γf A.snd.fst<=10000000/\γf A.snd.snd<=10000000)/\(a5 true->J)/\(a5 false->Q/\(a4 true->J)/\(a4 false->(Q/\cB S)/\(a3 true->J)/\(a3 false->(Q/\cB T)/\P/\(a2 true->P/\(M=true->Y)/\(M=false->(cB X/\cB L)/\(a0 true->Y)/\(a0 false->J)))/\(a2 false->(M=true->Z)/\(M=false->(P/\cB L)/\(a1 true->Z)/\(a1 false->J)))))))/\(decide (x_1<o)=false->(SV.bJ [W,f q.isSome]).same (SV.bJ [d ((jD (vL x)).getD c),f (jD (vL x)).isSome]))) (by kernel_rfl) ?_;simp only[vcs];subst hx;rw[ft] at hl;have hh:fF false 1 2=1 / 2:=Ue;simp only[kJ,ft,hh];have hbr:∀{b c:Option (Int×Rat)},b=c->(bq.cells [.sb b.isSome,.si .i64 (wa b)] 189 2 false).same (bq.cells [.sb c.isSome,.si .i64 (wa c)] 189 2 false):=by rintro _ _ rfl;rfl
 have hbd:∀{b c:Option (Int×Rat)},b=c->(bq.cells [.sb (kp b).1,.row (.i .u32) (kp b).2.1,.row (.i .u32) (kp b).2.2] 126 3 false).same (bq.cells [.sb (kp c).1,.row (.i .u32) (kp c).2.1,.row (.i .u32) (kp c).2.2] 126 3 false):=by rintro _ _ rfl;rfl
 have f1:cB (bu (ι 1)):=dP (k:=1) (by unfold Sz;decide) (by omega);have f2:cB (bu (1 / 2)):=dP Uf (by omega);refine⟨⟨⟨by omega,by omega⟩,by omega,by omega⟩,⟨by omega,by omega⟩,⟨⟨rfl,rfl⟩,by omega,by omega⟩,?_⟩;rintro i ⟨i0,i1⟩;refine⟨λhi=>?_,λhi=>?_⟩
 ·have hv:bj (fL l) i.toNat sF.dflt=bu (bj l i.toNat 0):=jl (by omega);have hq:=hz _ (dj (d:=0) (show i.toNat<l.length by omega));have hs:jo l (i+1).toNat=if 0<bj l i.toNat 0/\bj l i.toNat 0<1 then(match jo l i.toNat with
   |none=>some (i,mH (bj l i.toNat 0 - 1 / 2))
   |some (j,d)=>if mH (bj l i.toNat 0 - 1 / 2)<d then some (i,mH (bj l i.toNat 0 - 1 / 2)) else some (j,d)) else jo l i.toNat:=by
   rw[show(i+1).toNat=i.toNat+1 by omega];conv=>lhs;unfold jo
   rw[εu i0];cases jo l i.toNat<;>rfl
  have hbs:∀j d,jo l i.toNat=some (j,d)->cB (bu d):=λj d h=>by
   obtain⟨h1,h2,h3⟩:=J4 h;rw[h3];exact dP (ad7 (KC (hz _ (dj (by omega))))) (by omega)
  rw[hv,hs];generalize bj l i.toNat 0=q at*;generalize jo l i.toNat=B at*;simp only[jB,ez];obtain⟨_,⟨u1,u2,u3⟩,⟨u4,u5,u6⟩⟩:=lu q;obtain⟨m1,m2⟩:=oQ hq;have hok:=EL q;have fq:cB (bu q):=dP hq (by omega);have fd:cB (bu (q - 1 / 2)):=dP (KC hq) (by omega);have fn:cB (bu (-(q - 1 / 2))):=dP (An (KC hq)) (by omega);refine⟨i0,hi,by omega,⟨⟨u1,u4⟩,by omega,by omega⟩,λh=>absurd hok (by rw[show okF (bu q)=false from h];simp),λ_=>⟨fq,λh1=>?_,λh1=>⟨⟨fq,f1⟩,λh2=>?_,λh2=>?_⟩⟩⟩
  ·rw[if_neg (λh=>by have:=ui.2 h.1;omega)];exact⟨by omega,⟨hbr rfl,hbd rfl⟩,by omega⟩
  ·rw[if_neg (λh=>by have:=sM.2 h.2;have e:iM q (ι 1)=iM q 1:=rfl;omega)];exact⟨by omega,⟨hbr rfl,hbd rfl⟩,by omega⟩
  ·have hp:0<q/\q<1:=⟨ui.1 (by omega),sM.1 (by have e:iM q (ι 1)=iM q 1:=rfl;omega)⟩;rw[if_pos hp];refine⟨⟨fq,f2⟩,fd,λh3=>?_,λh3=>?_⟩
   ·have ha:mH (q - 1 / 2)= -(q - 1 / 2):=by unfold mH;rw[if_pos (Az.1 h3)]
    rw[ha];cases B with
    |none=>exact⟨fd,λ_=>⟨by omega,⟨rfl,rfl⟩,by omega⟩,λh=>absurd h (by decide)⟩;|some b=>
     obtain⟨j,d⟩:=b;dsimp only;refine⟨fd,λh=>absurd h.1 ε4,λ_=>⟨⟨fn,hbs j d rfl⟩,λh5=>?_,λh5=>?_⟩⟩
     ·rw[if_pos (sM.1 (by rw[<-ez d];exact h5))];exact⟨by omega,⟨rfl,rfl⟩,by omega⟩
     ·rw[if_neg (λh=>h5 (by rw[<-ez d] at h;exact sM.2 h))];exact⟨by omega,⟨hbr rfl,hbd rfl⟩,by omega⟩
   ·have ha:mH (q - 1 / 2)=q - 1 / 2:=by unfold mH;rw[if_neg (λh=>h3 (Az.2 h))]
    rw[ha];cases B with
    |none=>exact⟨λ_=>⟨by omega,⟨rfl,rfl⟩,by omega⟩,λh=>absurd h (by decide)⟩;|some b=>
     obtain⟨j,d⟩:=b;dsimp only;refine⟨λh=>absurd h.1 ε4,λ_=>⟨⟨fd,hbs j d rfl⟩,λh5=>?_,λh5=>?_⟩⟩
     ·rw[if_pos (sM.1 (by rw[<-ez d];exact h5))];exact⟨by omega,⟨rfl,rfl⟩,by omega⟩
     ·rw[if_neg (λh=>h5 (by rw[<-ez d] at h;exact sM.2 h))];exact⟨by omega,⟨hbr rfl,hbd rfl⟩,by omega⟩
 ·rw[show i.toNat=l.length by omega];unfold jD;cases jo l l.length<;>exact⟨rfl,rfl⟩
noncomputable def wb (n:Nat):dF:=EJ 47 Int (.one (eK .i64)) (λx a=>eU x/\(0<=a/\a<x.prf.length)/\nF x.fx<n) (λ_ _=> .bJ []) λx a=>x.upd (dG x.p (cy x.en) x.most (nF x.fx) x.s a x.fx)
noncomputable def EN (n:Nat):dF:=EJ 78 (Int×Int×Int) (.cons (eK .i64) (.cons (eK .i64) (.one (eK .i64)))) (λx a=>eU x/\(0<=a.1/\a.1<x.prf.length)/\(0<=a.2.1/\a.2.1<x.fx.length)/\bj x.fx a.2.1.toNat 0=0/\(a.2.2=1\/a.2.2= -1)/\nF (x.fx.set a.2.1.toNat a.2.2)<n) (λ_ _=> .bJ []) λx a=>x.upd (dG x.p (cy x.en) x.most (nF (x.fx.set a.2.1.toNat a.2.2)) x.s a.1 (x.fx.set a.2.1.toNat a.2.2))
theorem agN {L:List bL} {W:List dF} (c:dF) (Λ:c.α->Nat->cC) (i:∀c∈W,dZ Tryz.prog c) (e:∀c∈L,Holds Tryz.prog c)
  
  (h:∀a,c.dom a->Vc (AY (kR L (gB W) mX mY fO) (Λ a) (fG c.f) (c.put a) (c.st a) λv s=>v.same (c.res a)/\jY s (c.out a))) (j:(fO c.f).isSome=true:=by kernel_rfl) (b:∀a,(c.put a).length=(fG c.f).params:=by intro _;kernel_rfl) (d:mZ c.f W=none:=by kernel_rfl):dZ Tryz.prog c:=
 λa g=>TW c qp i e (vt j) b a d (h a g).out
theorem ad8 {L:List bL} {W:List dF} (c:dF) (F:eZ) (Λ:c.α->Nat->cC) (i:∀c∈W,dZ Tryz.prog c) (e:∀c∈L,Holds Tryz.prog c)
  
  (h:∀a,c.dom a->Vc (AY (kR L (gB W) mX mY fO) (Λ a) F (c.put a) (c.st a) λv s=>v.same (c.res a)/\jY s (c.out a))) (j:fO c.f=some F:=by kernel_rfl) (b:∀a,(c.put a).length=F.params:=by intro _;kernel_rfl) (d:mZ c.f W=none:=by kernel_rfl):dZ Tryz.prog c:=
 λa g=>TW c qp i e j b a d (h a g).out
theorem eU.set {x:dO} (h:eU x) {k:Nat} {d:Int} (a:d=1\/d= -1):eU ⟨x.p,x.ch,x.val,x.found,x.en,x.k1,x.k2,x.most,x.err,x.prf,x.fx.set k d⟩:=
 ⟨⟨h.f.c,by rw[τ];exact h.f.l,AW h.f.r (by omega)⟩,h.k1,by rw[τ];exact h.k2,h.v0,h.v1,h.m0,h.m1,h.l,h.c⟩
theorem ad9 {f:List Int} {k:Nat} {d:Int} (b:k<f.length) (a:bj f k 0=0):(f.set k d).set k 0=f:=by
 rw[cV b] at a;rw[List.set_set,<-a,List.set_getElem_self]
theorem aea {n:Nat} (hV:dZ Tryz.prog (wb n)):dZ Tryz.prog (EN n):=by
 refine ad8 (L:=[]) (W:=[wb n]) (EN n) (fG 78) lk (by simpa using hV) (by simp) ?_;rintro⟨⟨p,ch,val,found,en,k1,k2,most,err,prf,fx⟩,a,k,d⟩ ⟨hok,ha,hk,h0,hd,hn⟩;simp only at hok ha hk h0 hd hn;have e2:k2=fx.length:=hok.k2;have hb:=ad9 (d:=d) (show k.toNat<fx.length by omega) h0;have hr:∀{x y:List Int},x=y->(bq.row (.i .i64) x 3 true).same (bq.row (.i .i64) y 3 true):=by rintro _ _ rfl;rfl
 cases en with
 |none=>
  have hs:=hok.set (k:=k.toNat) hd;refine bO (let b:=γe .i64;let c:=(0:Int);let e:=bq.row;let f:=Θ;let g:=fx.set k.toNat d;let j:=bp.i .i64;let h:=dG p (cy none) most (nF g) (dc.mk ch val found prf err) a g;let l:=bq.cells [b p.supply.a0,b p.supply.a1,b p.supply.a2,b p.supply.a3,b p.supply.a4,b p.supply.a5,b p.opn.a0,b p.opn.a1,b p.opn.a2,b p.opn.a3,b p.opn.a4,b p.opn.a5,b p.cls.a0,b p.cls.a1,b p.cls.a2,b p.cls.a3,b p.cls.a4,b p.cls.a5,f j p.classes,f bp.off p.offers,f j h.ch,b h.val,γw h.found,ζz (Fn.func 45) [] [],γS 1 h.prf.length 5,γS 2 k2 1,b most,b h.err] 85 28 false;let m:=e bA h.prf 68 true;k2=fx.length/\c<=k/\k<(↑fx.length:Int)/\k2=fx.length/\k.toNat<fx.length/\(eU (dO.mk p ch val found none k1 k2 most err prf g)/\(c<=a/\a<(↑prf.length:Int))/\nF g<n)/\k2=g.length/\c<=k/\k<(↑g.length:Int)/\k2=g.length/\k.toNat<g.length/\(SV.bJ []).same (SV.bJ [])/\l.same l/\m.same m/\(e j (g.set k.toNat c) 3 true).same (e j fx 3 true)/\True) (by kernel_rfl) ?_;conv=>zeta
  rw[τ];exact⟨e2,hk.1,hk.2,e2,by omega,⟨hs,ha,hn⟩,e2,hk.1,hk.2,e2,by omega,rfl,rfl,rfl,hr hb,trivial⟩;|some m=>
  have hs:=hok.set (k:=k.toNat) hd;refine bO (let b:=γe .i64;let c:=(0:Int);let e:=bq.row;let f:=Θ;let g:=fx.set k.toNat d;let j:=bp.i .i64;let h:=dG p (cy (some m)) most (nF g) (dc.mk ch val found prf err) a g;let l:=bq.cells [b p.supply.a0,b p.supply.a1,b p.supply.a2,b p.supply.a3,b p.supply.a4,b p.supply.a5,b p.opn.a0,b p.opn.a1,b p.opn.a2,b p.opn.a3,b p.opn.a4,b p.opn.a5,b p.cls.a0,b p.cls.a1,b p.cls.a2,b p.cls.a3,b p.cls.a4,b p.cls.a5,f j p.classes,f bp.off p.offers,f j h.ch,b h.val,γw h.found,ζz (Fn.func 89) [] [γP 1 0 1],γS 2 h.prf.length 5,γS 3 k2 1,b most,b h.err] 85 28 false;let o:=bq.cells [b m] 2 1 false;let q:=e bA h.prf 68 true;k2=fx.length/\c<=k/\k<(↑fx.length:Int)/\k2=fx.length/\k.toNat<fx.length/\(eU (dO.mk p ch val found (some m) k1 k2 most err prf g)/\(c<=a/\a<(↑prf.length:Int))/\nF g<n)/\k2=g.length/\c<=k/\k<(↑g.length:Int)/\k2=g.length/\k.toNat<g.length/\(SV.bJ []).same (SV.bJ [])/\l.same l/\o.same o/\q.same q/\(e j (g.set k.toNat c) 3 true).same (e j fx 3 true)/\True) (by kernel_rfl) ?_;conv=>zeta
  rw[τ];exact⟨e2,hk.1,hk.2,e2,by omega,⟨hs,ha,hn⟩,e2,hk.1,hk.2,e2,by omega,rfl,rfl,rfl,rfl,hr hb,trivial⟩
theorem Ug {p:bn} {en:Int->Bool} {most:Int} {f:List Int} (j:eI p f) {c b:dc->Int->List Int->dc} {s:dc} {a:Int}
  (h:∀k d:Int,(0<=k/\k<f.length)->bj f k.toNat 0=0->(d=1\/d= -1)->∀s a,c s a (f.set k.toNat d)=b s a (f.set k.toNat d)):fu p en most c s a f=fu p en most b s a f:=by
 unfold fu;split;·rfl
 split;·rfl
 rename_i o;have l:ic p f=true:=by simp_all
 split;·rfl
 split;·rfl
 rename_i k n;split;·rfl
 obtain⟨e,i,g⟩:=sK n;rw[rB] at e;have m:bj f k.toNat 0=0:=sJ (j.ok l) j.r (by omega) i g;simp_all
theorem A2 {p:bn} {en:Int->Bool} {most:Int} {f:List Int} (e:eI p f) {s:dc} {a:Int}:dG p en most (nF f) s a f=fu p en most (λs a g=>dG p en most (nF g) s a g) s a f:=by
 have j:∀k d:Int,(0<=k/\k<f.length)->bj f k.toNat 0=0->(d=1\/d= -1)->nF f=nF (f.set k.toNat d)+1:=λk d c b i=>l9 c b (by omega);cases h:nF f with
 |zero=>exact Ug e λk d c b i=>by grind;|succ n=>
  refine Ug e λk d c b i s a=>?_;grind
section
variable {p:bn} {en:Int->Bool} {most:Int} {f:List Int} {s O:dc} {a k:Int}
theorem A4 (b:eI p f) (h:s.err≠0\/s.found=true):dG p en most (nF f) s a f=s:=by
 simp_all[A2,fu]
theorem Uh (c:eI p f) (h:¬(s.err≠0\/s.found=true)) (b:ic p f=false):dG p en most (nF f) s a f={s with prf:=s.prf.set a.toNat EC}:=by
 simp_all[A2,fu]
theorem yD (c:eI p f) (h:¬(s.err≠0\/s.found=true)) (b:ic p f=true) (d:dm p en s f=O) (e:ja p f<((O.val+1:Int):Rat)):dG p en most (nF f) s a f={O with prf:=O.prf.set a.toNat (qL p f)}:=by
 simp_all[A2,fu]
theorem pL (b:eI p f) (h:¬(s.err≠0\/s.found=true)) (d:ic p f=true) (c:dm p en s f=O) (g:¬ja p f<((O.val+1:Int):Rat)) (e:jD (dC p f)=none\/most<(O.prf.length:Int)+2):dG p en most (nF f) s a f={O with err:=12}:=by
 subst c;rw[A2 b];unfold fu;grind
theorem yE (d:eI p f) (h:¬(s.err≠0\/s.found=true)) (b:ic p f=true) (g:dm p en s f=O) (i:¬ja p f<((O.val+1:Int):Rat)) (c:jD (dC p f)=some k) (e:¬most<(O.prf.length:Int)+2):
  dG p en most (nF f) s a f=dG p en most (nF (f.set k.toNat (-1))) (dG p en most (nF (f.set k.toNat 1)) (gq O a k) (O.prf.length+1) (f.set k.toNat 1)) O.prf.length (f.set k.toNat (-1)):=by
 simp_all[A2,fu,if_neg]
end
theorem eU.Ui {x:dO} (h:eU x):eU (x.upd (dm x.p (cy x.en) x.s x.fx)):=by
 obtain⟨d,i,b,a,g⟩:=@EE x.p (cy x.en) x.s x.fx;obtain⟨m,j,k⟩:=TR h.f;have b:x.val<=(dm x.p (cy x.en) x.s x.fx).val:=b;have a:(dm x.p (cy x.en) x.s x.fx).val=x.val\/(dm x.p (cy x.en) x.s x.fx).val=(oY x.p x.fx).value:=a;have n:=h.v0;have o:=h.v1;refine⟨h.f,rfl,h.k2,?_,?_,h.m0,h.m1,?_,?_⟩
 ·show 0<=(dm x.p (cy x.en) x.s x.fx).val;omega
 ·show(dm x.p (cy x.en) x.s x.fx).val<=_;omega
 ·show(dm x.p (cy x.en) x.s x.fx).prf.length<=_;rw[d];exact h.l
 ·show(dm x.p (cy x.en) x.s x.fx).ch.length<=_;rcases g with e|e;·rw[e];exact h.c
  ·rw[e];omega
theorem eU.vis {x:dO} (h:eU x) {f:List Int} (i:eI x.p f) {n:Nat} {a:Int}:eU (x.upd (dG x.p (cy x.en) x.most n x.s a f)):=by
 obtain⟨m,g,b,d,k,q⟩:=@rC x.p (cy x.en) x.most n x.s a f i;have b:x.val<=(dG x.p (cy x.en) x.most n x.s a f).val:=b;have d:(dG x.p (cy x.en) x.most n x.s a f).val=x.val\/(dG x.p (cy x.en) x.most n x.s a f).val<=160000000:=d;have r:=h.v0;have t:=h.v1;have o:=h.m1;have j:=h.l;refine⟨h.f,rfl,h.k2,?_,?_,h.m0,h.m1,?_,?_⟩
 ·show 0<=(dG x.p (cy x.en) x.most n x.s a f).val;omega
 ·show(dG x.p (cy x.en) x.most n x.s a f).val<=_;omega
 ·show(dG x.p (cy x.en) x.most n x.s a f).prf.length<=_;rcases g with e|e;·omega
  ·rw[e];exact j
 ·show(dG x.p (cy x.en) x.most n x.s a f).ch.length<=_;rcases k with e|e;·rw[e];exact h.c
  ·omega
theorem eU.spl {x:dO} (h:eU x) (b:¬x.most<(x.prf.length:Int)+2) {k:Nat} {l:List cQ} (a:k=l.length) (d:l.length=x.prf.length+2):eU ⟨x.p,x.ch,x.val,x.found,x.en,k,x.k2,x.most,x.err,l,x.fx⟩:=
 ⟨h.f,a,h.k2,h.v0,h.v1,h.m0,h.m1,by have:=h.m1;grind,h.c⟩
theorem rD {W:Int} (a: -9223372036854775808<=W) (b:W<=9223372036854775807):Sz 2 (W:Rat):=by
 unfold Sz;simp;omega
theorem aeb {p:bn} {f:List Int} (h:jQ p f=true):eT p f:=by
 unfold jQ at h;rw[ζ,decide_eq_true_eq] at h;obtain⟨a,b⟩:=h;unfold i7 at a;split at a;·omega
 ·rename_i d;split at a;·cases a
  ·rename_i c;exact⟨Ξ.1 d,Ξ.1 c,b⟩
theorem Uj {p:bn} {f:List Int} (h:jQ p f=true):Sz 1000002 (ja p f):=by
 have a:=aeb h;have c:=@AP p a.1 f f.length a.2.1;rw[π] at c;have d:Sz 1 ((gd p f:Int):Rat):=by
  unfold Sz;rw[Rat.num_intCast,Rat.den_intCast];omega
 have b:Sz 1000000 (dq p f).value:=((Ec a).vU (od a).1).2.2.2;exact(Am d b).mono (by omega)
end Go.Vi
