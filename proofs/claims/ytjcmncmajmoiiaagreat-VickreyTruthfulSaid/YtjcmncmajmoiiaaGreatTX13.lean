/-
  The symbolic run: functions that defer a closure.
  Conditions: none.
-/
import Derived.Test.YtjcmncmajmoiiaaGreatTX06
import Derived.Test.YtjcmncmajmoiiaaGreatTX10
import Derived.Test.YtjcmncmajmoiiaaGreatTX09
import Derived.Test.YtjcmncmajmoiiaaGreatTX12
import Derived.Test.YtjcmncmajmoiiaaGreatTX07
import Derived.Test.YtjcmncmajmoiiaaGreatTX08
import Derived.Test.YtjcmncmajmoiiaaGreatTX11
set_option maxRecDepth 100000
set_option maxHeartbeats 4000000
set_option linter.all false
open Bool renaming and_eq_true->θ,false_ne_true->ζS
open Classical renaming not_not->Γ
open Go.Vi.AV.os renaming injEq->εO
open Go.Vi.AV.sc renaming injEq->γZ
open Go.Vi.SV renaming bl->δs,sb->γI,si->γe,row->Φ,fn->ζr,ow->γ8,ptr->γW,il->γq,agg->γK
open Int renaming toNat_natCast->γz,toNat_of_nonneg->εB
open IntCast renaming intCast->Ω
open List renaming all_eq_true->Θ,mem_of_mem_take->γm,range_eq_range'->δI,take_append_drop->γc,map_cons->ι,map_nil->γs,length->γo,take->γd,take_length->χ,map->γh,length_take->Ξ,length_map->γx,append_nil->γY,mem_map->γf,replicate->ε,length_set->γb
open List.cons renaming injEq->π
open Option.some renaming injEq->γ
namespace Go.Vi
def EW (p:iI) (lo:Nat) (Λ:Nat->cB):IR->cn->(cn->Prop)->Prop
 | .skip,b,K=>K b
 | .seq x y,b,K=>wpS p lo x Λ b λc a=>match c with
  | .norm=>EW p lo Λ y a K
  |_=>False
 |_,_,_=>False
def AY (p:iI) (Λ:Nat->cB) (F:fb) (args:List SV) (o:bV) (Q:SV->bV->Prop):Prop:=
 match F.body with
 | .sV g c d a b=>EW p o.length Λ a ⟨mZ 0 args,o⟩ λe=>wpS p e.o.length b Λ ⟨(d,.ud)::e.env,e.o⟩ λi j=>if qT i=true then
   (match p.it g with
    |some G=>if(c.map (jh e.env)).length=G.params/\G.res.isEmpty=true then wpS p j.o.length G.body (λn=>Λ (1000+n)) ⟨mZ 0 (c.map (jh e.env)),j.o⟩ λf h=>if qT f=true then
      nM ⟨j.env,h.o⟩ F.res λr=>if r.bY o.length&&h.o.all (λx=>x.bY o.length)&&decide (o.length<=h.o.length) then Q r (h.o.take o.length) else False
     else False else False
    |none=>False) else False
 |_=>False
section
variable {P:Program} {T:Tab} {p:iI} {Λ:Nat->cB}
theorem aeF (i:pz T.K p.C) (j:∀f F,p.it f=some F->T.fn f=some F) {lo:Nat}:∀{a:IR} {st:cn} {K:cn->Prop},EW p lo Λ a st K->∃s0:cn,(∃N,∀n,N<=n->qS (exec T .plain n lo) a st.g=some s0.g)/\K s0:=by
 intro a
 induction a with
 |skip=>intro st K h;exact⟨st,⟨0,λ_ _=>rfl⟩,h⟩
 |seq x y _ d=>
  intro st K h;simp only[EW] at h
  obtain⟨c,s,⟨N,e⟩,r,rfl,b⟩:=vk i j h
  cases c with
  |norm=>
   obtain⟨s0,⟨M,m⟩,k⟩:=d b
   refine⟨s0,⟨N+M,λn o=>?_⟩,k⟩
   simp only[qS,e n n (by omega) (by omega)]
   grind
  |exit q=>exact b.elim
  |ret=>exact b.elim
  |goto l=>exact b.elim
 |_=>intro st K h;exact h.elim
theorem aeG (J:kq P T) (u:pz T.K p.C) (n:∀f F,p.it f=some F->T.fn f=some F) {f:FuncId} {F:fb} (S:T.fn f=some F) {args:List SV} {o:bV} {r:AV} {o':Store} (V:T.K f (gL args) (gO o) true=none) (B:args.length=F.params)
  {Q:SV->bV->Prop} (A:∀v s,Q v s->v.g=r/\gO s=o') (h:AY p Λ F args o Q):gI P f=true/\lh P f (gL args) (gO o) r o':=by
 unfold AY at h;split at h
 ·rename_i g a d ia ib Z
  obtain⟨b,h1,h⟩:=aeF u n h
  obtain⟨O,U,h2,c,rfl,h⟩:=vk u n h
  split at h
  ·rename_i k
   split at h
   ·rename_i G hG
    split at h
    ·rename_i Y
     obtain⟨D,I,h3,i,rfl,h⟩:=vk u n h
     split at h
     ·rename_i j
      obtain⟨t,k1,m⟩:=xe h
      split at m
      ·rename_i y
       simp only[θ,decide_eq_true_eq,Θ] at y
       obtain⟨⟨a2,L⟩,N⟩:=y
       have R:(cn.mk (mZ 0 args) o).g=⟨gW 0 (gL args),gO o⟩:=by simp[cn.g,vl]
       have w:(gO o).length=o.length:=nO o
       have a1:b.g.o.length=b.o.length:=nO b.o
       have a0:c.g.o.length=c.o.length:=nO c.o
       have H:a.map (eE b.g.env)=gL (a.map (jh b.env)):=by
        rw[fV,List.map_map]
        refine List.map_congr_left λx _=>?_
        show eE (gE b.env) x=_
        grind[zl]
       have z:(cn.mk ((d,.ud)::b.env) b.o).g=⟨(d,.ud)::b.g.env,b.g.o⟩:=by simp[cn.g,gE,SV.g]
       have E:(cn.mk (mZ 0 (a.map (jh b.env))) c.o).g=⟨gW 0 (gL (a.map (jh b.env))),c.g.o⟩:=by simp[cn.g,vl]
       have W:(cn.mk c.env i.o).g=⟨c.g.env,i.g.o⟩:=rfl
       have q:∀x∈gO i.o,x.bY o.length=true:=by
        grind[gO,B9]
       have l:finish true (gO o).length t.g i.g.o=some (r,o'):=by
        simp only[finish,if_true,w]
        have e:lA o.length t.g i.g.o=some (t.g,(i.g.o).take o.length):=OU (by grind[zm]) q (by show o.length<=(gO i.o).length;grind[nO])
        rw[e,<-(A _ _ m).1,<-(A _ _ m).2]
        simp_all[cn.g,gO]
       obtain⟨X,M,_⟩:=Yl J S Z (own:=true) V (by grind[jD]) (s0:=b.g) (s2:=c.g) (s3:=i.g) (by simp_all) (by simp_all) k (n g G hG) (by grind) Y.2 (by simp_all) j (by simp_all) l
       exact⟨X,M⟩
      ·exact m.elim
     ·exact h.elim
    ·exact h.elim
   simp_all
  ·exact h.elim
 simp_all
end
theorem UL {P:Program} {d:FuncId->Option fb} {L:List bM} {W:List cV} (c:cV) {F:fb} {k:TypeId->Option bn} {e:List Nat×Bool->Option (bn×bn)} {Λ:c.α->Nat->cB}
  (n:kq P ⟨d,λ_ _ _ _=>none⟩) (i:∀c∈W,dK P c) (o:∀c∈L,Holds P c)
  (l:d c.f=some F) (b:∀a,(c.put a).length=F.params)
  (a:c.α) (m:kR c.f W=none)
  (h:AY (lJ L (fY W) k e d) (Λ a) F (c.put a) (c.st a) λv s=>v.same (c.res a)/\ji s (c.out a)):
  gI P c.f=true/\lh P c.f (gL (c.put a)) (gO (c.st a)) (c.res a).g (gO (c.out a)):=by
 refine aeG (p:=lJ L (fY W) k e d) (Λ:=Λ a) (Q:=λv s=>v.same (c.res a)/\ji s (c.out a)) (tO (ln i) o n) (tP (ln i)) (λ_ _ h=>h) l ?_ (b a) (λv s j=>⟨j.1,xd j.2⟩) h
 simp_all[qk,sf,fY,tQ]
theorem aeH {k:Nat} {r a:AV} {o mid o2:Store} (c:r.bT o (λi=>decide (k<=i))=some a) (g:jf o (λi=>decide (k<=i)) o=some mid) (e:fy (λi=>decide (k<=i)) 0 mid=o2) (f:a.bY k=true) (d:∀x∈o2,x.bY k=true) (l:k<=o2.length):lA k r o=some (a,o2.take k):=by
 unfold lA;rw[c,g];simp only[e]
 have m:∀x∈o2.take k,x.bY k=true:=λx h=>d x (γm h)
 rw[OP (by grind[dZ,G5])]
 have j:iC.pe (List.range k)=true:=by rw[δI];exact nodup_range'
 rw[if_pos j,Cf f]
 have b:=G4 (k:=k) (o:=o2) m l (n:=k) (s:=0) (by omega)
 rw[<-δI,List.drop_zero] at b;rw[b]
def EX (k:Nat) (r:SV) (o:bV) (K:SV->bV->Prop):Prop:=
 kS o k r λb=>oL o k 0 o λa=>if b.bY k&&a.all (λx=>x.bY k)&&decide (k<=a.length) then K b (a.take k) else False
theorem aeI {k:Nat} {r:SV} {o:bV} {K:SV->bV->Prop} (h:EX k r o K):∃r' o',lA k r.g (gO o)=some (r'.g,gO o')/\K r' o':=by
 unfold EX at h
 obtain⟨l,p,f⟩:=Ho h
 obtain⟨c,i,n,m,a⟩:=xk f
 split at a
 ·rename_i b
  simp only[θ,decide_eq_true_eq,Θ] at b
  obtain⟨⟨d,j⟩,e⟩:=b
  refine⟨l,c.take k,?_,a⟩
  simp_all[aeH,zm,gO,B9]
 simp_all
def EY (p:iI) (Λ:Nat->cB) (F:fb) (args:List SV) (o:bV) (Q:SV->bV->Prop):Prop:=
 wpS p o.length F.body Λ ⟨mZ 0 args,o⟩ λa b=>match a with
  | .exit _=>False
  | .goto _=>False
  |_=>nM b F.res λr=>EX o.length r b.o Q
theorem aeJ {P:Program} {T:Tab} {p:iI} {Λ:Nat->cB} (A:kq P T) (t:pz T.K p.C) (y:∀f F,p.it f=some F->T.fn f=some F) {f:FuncId} {F:fb} (n:T.fn f=some F) {args:List SV} {o:bV} {r:AV} {o':Store} (z:T.K f (gL args) (gO o) true=none) (j:args.length=F.params)
  {Q:SV->bV->Prop} (D:∀v s,Q v s->v.g=r/\gO s=o') (h:EY p Λ F args o Q):gI P f=true/\lh P f (gL args) (gO o) r o':=by
 unfold EY at h
 have e:=vk t y h
 have d:(cn.mk (mZ 0 args) o).g=⟨gW 0 (gL args),gO o⟩:=by simp[cn.g,vl]
 rw[d] at e
 have i:(gO o).length=o.length:=nO o
 rw[<-i] at e
 have x:∀(a:cn),(nM a F.res λv=>EX (gO o).length v a.o Q)->(nG a.g F.res).bind (λc=>finish true (gO o).length c a.g.o)=some (r,o'):=by
  intro a m
  obtain⟨c,k,l⟩:=xe m
  obtain⟨u,q,w,E⟩:=aeI l
  rw[k];simp only[Option.bind_some,finish,if_true]
  have:lA (gO o).length c.g a.g.o=some (u.g,gO q):=w
  grind
 obtain⟨k,l,_⟩:=BV A n (o:=gO o) (own:=true) z (by grind[jD]) (v:=r) (o':=o') (e.mono λb s B=>by
  obtain⟨a,rfl,m⟩:=B
  cases b<;>simp_all)
 simp_all
theorem aeK {P:Program} {d:FuncId->Option fb} {L:List bM} {W:List cV} (c:cV) {F:fb} {k:TypeId->Option bn} {e:List Nat×Bool->Option (bn×bn)} {Λ:c.α->Nat->cB}
  (n:kq P ⟨d,λ_ _ _ _=>none⟩) (i:∀c∈W,dK P c) (o:∀c∈L,Holds P c)
  (l:d c.f=some F) (b:∀a,(c.put a).length=F.params)
  (a:c.α) (m:kR c.f W=none)
  (h:EY (lJ L (fY W) k e d) (Λ a) F (c.put a) (c.st a) λv s=>v.same (c.res a)/\ji s (c.out a)):
  gI P c.f=true/\lh P c.f (gL (c.put a)) (gO (c.st a)) (c.res a).g (gO (c.out a)):=by
 refine aeJ (p:=lJ L (fY W) k e d) (Λ:=Λ a) (Q:=λv s=>v.same (c.res a)/\ji s (c.out a)) (tO (ln i) o n) (tP (ln i)) (λ_ _ h=>h) l ?_ (b a) (λv s j=>⟨j.1,xd j.2⟩) h
 simp_all[qk,sf,fY,tQ]
open Go.Proofs.YtjcmncmajmoiiaaGreat.Ir
open Go.Proofs
structure dD where
 p:bp
 ch:List Int
 val:Int
 found:Bool
 en:Option Int
 k1:Nat
 k2:Nat
 most:Int
 err:Int
 prf:List qJ
 fx:List Int
def dD.cs (x:dD) (e:SV) (i j:Nat):List SV:=[.row (.i .i64) x.ch,.si .i64 x.val,.sb x.found,e,.ow i x.k1 5,.ow j x.k2 1,.si .i64 x.most,.si .i64 x.err]
def dD.yw (x:dD):bV:=[.cells (x.p.ss++x.cs (.fn (.func 82) [] []) 1 2) 119 28 false,.row ek x.prf 93 true,.row (.i .i64) x.fx 3 true]
def dD.yx (x:dD) (m:Int):bV:=[.cells (x.p.ss++x.cs (.fn (.func 132) [] [.ptr 1 0 1]) 2 3) 119 28 false,.cells [.si .i64 m] 2 1 false,.row ek x.prf 93 true,.row (.i .i64) x.fx 3 true]
def dD.gA (x:dD):bV:=match x.en with
 |none=>x.yw
 |some m=>x.yx m
def K3:bV->Option dD
 |[.cells cs 119 28 false,.row s1 l1 93 true,.row s2 l2 3 true]=>match cs.drop 20 with
  |[c,v,b,.fn (.func 82) [] [],.ow 1 k1 5,.ow 2 k2 1,mo,er]=>match sg (cs.take 20),fW (.i .i64) c,v.int .i64,b.boo,mo.int .i64,er.int .i64 with
   |some p,some c,some v,some b,some mo,some er=>match iD s1 ek l1,iD s2 (.i .i64) l2 with
    |some l1,some l2=>some ⟨p,c,v,b,none,k1,k2,mo,er,l1,l2⟩
    |_,_=>none
   |_,_,_,_,_,_=>none
  |_=>none
 |[.cells cs 119 28 false,.cells [m] 2 1 false,.row s1 l1 93 true,.row s2 l2 3 true]=>match cs.drop 20 with
  |[c,v,b,.fn (.func 132) [] [.ptr 1 0 1],.ow 2 k1 5,.ow 3 k2 1,mo,er]=>match sg (cs.take 20),fW (.i .i64) c,v.int .i64,b.boo,mo.int .i64,er.int .i64 with
   |some p,some c,some v,some b,some mo,some er=>match iD s1 ek l1,iD s2 (.i .i64) l2,m.int .i64 with
    |some l1,some l2,some m=>some ⟨p,c,v,b,some m,k1,k2,mo,er,l1,l2⟩
    |_,_,_=>none
   |_,_,_,_,_,_=>none
  |_=>none
 |_=>none
theorem aeL {o:bV} {x:dD} (h:K3 o=some x):gO o=gO x.gA:=by
 unfold K3 at h;split at h
 ·rename_i cs s1 l1 s2 l2
  split at h
  ·rename_i c v b k1 k2 mo er hd
   split at h
   ·rename_i p c' v' b' mo' er' h1 h2 h3 h4 h5 h6
    split at h
    ·rename_i l1' l2' g1 g2
     simp only[γ] at h;subst h
     obtain⟨rfl,e1⟩:=mW g1
     obtain⟨rfl,e2⟩:=mW g2
     cases e1;cases e2
     have e3:gL cs=gL p.ss++gL [c,v,b,.fn (.func 82) [] [],.ow 1 k1 5,.ow 2 k2 1,mo,er]:=by
      rw[<-hd,<-vn h1,<-tM,γc]
     simp only[dD.gA,dD.yw,dD.cs,gO,ι,γs,bq.g,tM,e3];simp only[gL,jE h2,gX h3,uW h4,gX h5,gX h6,SV.g]
    ·cases h
   ·cases h
  ·cases h
 ·rename_i cs m s1 l1 s2 l2
  split at h
  ·rename_i c v b k1 k2 mo er hd
   split at h
   ·rename_i p c' v' b' mo' er' h1 h2 h3 h4 h5 h6
    split at h
    ·rename_i l1' l2' m' g1 g2 g3
     simp only[γ] at h;subst h
     obtain⟨rfl,e1⟩:=mW g1
     obtain⟨rfl,e2⟩:=mW g2
     cases e1;cases e2
     have e3:gL cs=gL p.ss++gL [c,v,b,.fn (.func 132) [] [.ptr 1 0 1],.ow 2 k1 5,.ow 3 k2 1,mo,er]:=by
      rw[<-hd,<-vn h1,<-tM,γc]
     simp only[dD.gA,dD.yx,dD.cs,gO,ι,γs,bq.g,tM,e3];simp only[gL,jE h2,gX h3,uW h4,gX h5,gX h6,gX g3,SV.g]
    ·cases h
   ·cases h
  ·cases h
 ·cases h
theorem aeQ {p q:bp} (h:gL p.ss=gL q.ss):p=q:=dG.inj p q (by grind[dG,SV.g])
theorem aeR {x y:dD} (h:gO x.gA=gO y.gA):x=y:=by
 obtain⟨p,E,u,b,J,H,G,k,o,A,L⟩:=x
 obtain⟨B,n,d,a,l,r,v,c,f,q,C⟩:=y
 have w:∀{e I:SV} {i j:Nat},gL (p.ss++(dD.mk p E u b J H G k o A L).cs e i j)=gL (B.ss++(dD.mk B n d a l r v c f q C).cs I i j)->p=B/\E=n/\u=d/\b=a/\H=r/\G=v/\k=c/\o=f:=by
  intro e I i j h;rw[tM,tM] at h
  obtain⟨z,t⟩:=List.append_inj h (by rw[jD,jD];rfl)
  simp only[dD.cs,gL,SV.g,π,γZ,Value.int.injEq,Value.bool.injEq,εO,AV.sl.injEq,and_true,true_and] at t
  grind[aeQ,oV]
 cases J with
 |none=>
  cases l with
  |none=>
   simp only[dD.gA,dD.yw,gO,ι,γs,bq.g,π,bP.cells.injEq,and_true] at h
   obtain⟨z,t,D⟩:=h
   obtain⟨rfl,rfl,rfl,rfl,rfl,rfl,rfl,rfl⟩:=w z
   rw[oV (s:=ek) t,oV (s:=.i .i64) D]
  |some K=>
   have:=congrArg γo h
   simp_all[dD.gA,dD.yw,dD.yx,gO]
 |some m=>
  cases l with
  |none=>
   have:=congrArg γo h
   simp_all[dD.gA,dD.yw,dD.yx,gO]
  |some K=>
   simp only[dD.gA,dD.yx,gO,ι,γs,bq.g,π,bP.cells.injEq,and_true] at h
   obtain⟨z,F,t,D⟩:=h
   obtain⟨rfl,rfl,rfl,rfl,rfl,rfl,rfl,rfl⟩:=w z
   simp only[gL,SV.g,π,γZ,Value.int.injEq,and_true,true_and] at F;subst F;rw[oV (s:=ek) t,oV (s:=.i .i64) D]
def EZ (f:FuncId) (c:Type) (A:qj c) (i:dD->c->Prop) (e:dD->c->SV) (out:dD->c->dD):cV where
 f:=f
 α:=dD×c
 put a:=.ptr 0 0 28::A.put a.2
 st a:=a.1.gA
 dec v o:=match v with
  | .ptr 0 0 28::r=>match K3 o,A.dec r with
   |some s,some b=>some (s,b)
   |_,_=>none
  |_=>none
 ok v o a h:=by
  split at h
  ·split at h
   ·rename_i d g
    simp only[γ] at h;subst h
    exact⟨by simp only[gL,A.ok _ _ g],aeL d⟩
   ·cases h
  ·cases h
 inj a b d g:=by
  simp only[gL,π,true_and] at d
  exact Prod.ext (aeR g) (A.inj _ _ d)
 dom a:=i a.1 a.2
 res a:=e a.1 a.2
 out a:=(out a.1 a.2).gA
def cq (e:Option Int) (v:Int):Bool:=match e with
 |none=>false
 |some m=>decide (m<=v)
def dD.s (x:dD):cH:=⟨x.ch,x.val,x.found,x.prf,x.err⟩
def dD.upd (x:dD) (s:cH):dD:=⟨x.p,s.ch,s.val,s.found,x.en,s.prf.length,x.k2,x.most,s.err,s.prf,x.fx⟩
structure eZ (x:dD):Prop where
 f:eQ x.p x.fx
 k1:x.k1=x.prf.length
 k2:x.k2=x.fx.length
 v0:0<=x.val
 v1:x.val<=9223372036854775806
 m0:1<=x.most
 m1:x.most<=65536
 l:x.prf.length<=65536
 c:x.ch.length<=9223372036854775807
def K4:cV where
 f:=82
 α:=Alloc
 put a:=[lj.put a]
 st _:=[]
 dec v o:=match v,o with
  |[a],[]=>lj.dec a
  |_,_=>none
 ok v o a h:=by
  split at h
  ·exact⟨by simp only[gL,lj.ok _ _ h],rfl⟩
  ·cases h
 inj a b h1 _:=by
  simp only[gL,π,and_true] at h1
  exact lj.inj _ _ h1
 dom _:=True
 res _:=.sb false
 out _:=[]
theorem h438:dK Tryz.prog K4:=by
 refine jk (L:=[]) (W:=[]) K4 lk (by simp) (by simp) ?_
 rintro(a:Alloc) -
 refine bR ((δs false).same (γI false)/\True) (by kernel_rfl) ?_
 simp_all
def K5:cV where
 f:=132
 α:=Alloc×Int
 put a:=[lj.put a.1,.ptr 0 0 1]
 st a:=[.cells [.si .i64 a.2] 2 1 false]
 dec v o:=match v,o with
  |[a,.ptr 0 0 1],[.cells [m] 2 1 false]=>match lj.dec a,m.int .i64 with
   |some a,some m=>some (a,m)
   |_,_=>none
  |_,_=>none
 ok v o a h:=by
  split at h
  ·split at h
   ·rename_i h1 h2
    simp only[γ] at h;subst h
    exact⟨by simp only[gL,lj.ok _ _ h1],by simp only[gO,ι,γs,bq.g,gL,gX h2,SV.g]⟩
   ·cases h
  ·cases h
 inj a b h1 h2:=by
  simp only[gL,π,and_true] at h1;simp only[gO,ι,γs,bq.g,gL,SV.g,π,bP.cells.injEq,γZ,Value.int.injEq,and_true,true_and] at h2
  exact Prod.ext (lj.inj _ _ h1) h2
 dom _:=True
 res a:=.sb (decide (a.2<=a.1.value))
 out a:=[.cells [.si .i64 a.2] 2 1 false]
theorem h442:dK Tryz.prog K5:=by
 refine jk (L:=[]) (W:=[]) K5 lk (by simp) (by simp) ?_
 rintro⟨a,m⟩ -
 refine bR (let b:=bq.cells [γe .i64 m] 2 1 false;(γI (decide (m<=a.value))).same (γI (decide (m<=a.value)))/\b.same b/\True) (by kernel_rfl) ?_
 conv=>zeta
 exact⟨rfl,rfl,trivial⟩
def AZ:cV:=EZ 83 Alloc (.one lj) (λx _=>x.k1=x.prf.length) (λ_ _=> .bH []) λx a=>x.upd (dU (cq x.en) x.s a)
theorem h439:dK Tryz.prog AZ:=by
 refine jk (L:=[]) (W:=[K4,K5]) AZ lk (by simpa using⟨h438,h442⟩) (by simp) ?_
 rintro⟨⟨p,ch,val,found,en,k1,k2,most,err,prf,fx⟩,a⟩ hk
 have hk:k1=prf.length:=hk
 subst hk
 have e1:∀en:Int->Bool,val<a.value->dU en ⟨ch,val,found,prf,err⟩ a=⟨a.chosen,a.value,found||en a.value,prf,err⟩:=λen h=>if_pos h
 have e2:∀en:Int->Bool,¬val<a.value->dU en ⟨ch,val,found,prf,err⟩ a=⟨ch,val,found,prf,err⟩:=λen h=>if_neg h
 cases en with
 |none=>
  refine bR (let b:=γe .i64;let c:=bq.row;let d:=bq.cells;let e:=Φ;let f:=SV.bH;let k:=b p.supply.a0;let l:=b p.supply.a1;let m:=b p.supply.a2;let n:=b p.supply.a3;let o:=b p.supply.a4;let q:=b p.supply.a5;let r:=b p.opn.a0;let s:=b p.opn.a1;let t:=b p.opn.a2;let v:=b p.opn.a3;let w:=b p.opn.a4;let x:=b p.opn.a5;let y:=b p.cls.a0;let z:=b p.cls.a1;let A:=b p.cls.a2;let B:=b p.cls.a3;let C:=b p.cls.a4;let D:=b p.cls.a5;let h:=bn.i .i64;let E:=e h p.classes;let F:=e bn.off p.offers;let G:=ζr (Fn.func 82) [] [];let H:=γ8 2 k2 1;let I:=b most;let J:=[G,γ8 1 prf.length 5,H,I,b err];let g:=dU (cq none) (cH.mk ch val found prf err) a;let K:=d [k,l,m,n,o,q,r,s,t,v,w,x,y,z,A,B,C,D,E,F,e h g.ch,b g.val,γI g.found,G,γ8 1 g.prf.length 5,H,I,b g.err] 119 28 false;let j:=c h fx 3 true;let L:=decide (val<a.value);let M:=λ(u u_1:Bool) (u_2:List Int) (u_3:Int) (u_4:SV) ↦u=u_1->(f []).same (f [])/\(d (k::l::m::n::o::q::r::s::t::v::w::x::y::z::A::B::C::D::E::F::e h u_2::b u_3::u_4::J) 119 28 false).same K/\(c ek prf 93 true).same (c ek g.prf 93 true)/\j.same j/\True;(L=true->M found true a.chosen a.value (δs true)/\(found=false->True/\(f []).same (f [])/\(d (k::l::m::n::o::q::r::s::t::v::w::x::y::z::A::B::C::D::E::F::e h a.chosen::b a.value::γI false::J) 119 28 false).same K/\(c ek prf 93 true).same (c ek g.prf 93 true)/\j.same j/\True))/\M L false ch val (γI found)) (by kernel_rfl) ?_
  conv=>zeta
  refine⟨λh=>?_,λh=>?_⟩
  ·simp only[e1 _ (of_decide_eq_true h)]
   refine⟨λhf=>?_,λhf=>?_⟩
   ·subst hf
    exact⟨rfl,rfl,rfl,rfl,trivial⟩
   ·subst hf
    exact⟨trivial,rfl,rfl,rfl,rfl,trivial⟩
  ·simp only[e2 _ (of_decide_eq_false h)]
   exact⟨rfl,rfl,rfl,rfl,trivial⟩
 |some m=>
  refine bR (let b:=γe .i64;let c:=bn.i .i64;let d:=bq.cells;let e:=Φ;let f:=bq.row;let g:=γ8;let h:=γW;let j:=SV.bH;let k:=γI;(decide (val<a.value)=true->(found=true->(j []).same (j [])/\(d [b p.supply.a0,b p.supply.a1,b p.supply.a2,b p.supply.a3,b p.supply.a4,b p.supply.a5,b p.opn.a0,b p.opn.a1,b p.opn.a2,b p.opn.a3,b p.opn.a4,b p.opn.a5,b p.cls.a0,b p.cls.a1,b p.cls.a2,b p.cls.a3,b p.cls.a4,b p.cls.a5,e (c) p.classes,e bn.off p.offers,e (c) a.chosen,b a.value,δs true,ζr (Fn.func 132) [] [h 1 0 1],g 2 prf.length 5,g 3 k2 1,b most,b err] 119 28 false).same (d [b p.supply.a0,b p.supply.a1,b p.supply.a2,b p.supply.a3,b p.supply.a4,b p.supply.a5,b p.opn.a0,b p.opn.a1,b p.opn.a2,b p.opn.a3,b p.opn.a4,b p.opn.a5,b p.cls.a0,b p.cls.a1,b p.cls.a2,b p.cls.a3,b p.cls.a4,b p.cls.a5,e (c) p.classes,e bn.off p.offers,e (c) (dU (cq (some m)) (cH.mk ch val found prf err) a).ch,b (dU (cq (some m)) (cH.mk ch val found prf err) a).val,k (dU (cq (some m)) (cH.mk ch val found prf err) a).found,ζr (Fn.func 132) [] [h 1 0 1],g 2 (dU (cq (some m)) (cH.mk ch val found prf err) a).prf.length 5,g 3 k2 1,b most,b (dU (cq (some m)) (cH.mk ch val found prf err) a).err] 119 28 false)/\(d [b m] 2 1 false).same (d [b m] 2 1 false)/\(f ek prf 93 true).same (f ek (dU (cq (some m)) (cH.mk ch val found prf err) a).prf 93 true)/\(f (c) fx 3 true).same (f (c) fx 3 true)/\True)/\(found=false->True/\(j []).same (j [])/\(d [b p.supply.a0,b p.supply.a1,b p.supply.a2,b p.supply.a3,b p.supply.a4,b p.supply.a5,b p.opn.a0,b p.opn.a1,b p.opn.a2,b p.opn.a3,b p.opn.a4,b p.opn.a5,b p.cls.a0,b p.cls.a1,b p.cls.a2,b p.cls.a3,b p.cls.a4,b p.cls.a5,e (c) p.classes,e bn.off p.offers,e (c) a.chosen,b a.value,k (decide (m<=a.value)),ζr (Fn.func 132) [] [h 1 0 1],g 2 prf.length 5,g 3 k2 1,b most,b err] 119 28 false).same (d [b p.supply.a0,b p.supply.a1,b p.supply.a2,b p.supply.a3,b p.supply.a4,b p.supply.a5,b p.opn.a0,b p.opn.a1,b p.opn.a2,b p.opn.a3,b p.opn.a4,b p.opn.a5,b p.cls.a0,b p.cls.a1,b p.cls.a2,b p.cls.a3,b p.cls.a4,b p.cls.a5,e (c) p.classes,e bn.off p.offers,e (c) (dU (cq (some m)) (cH.mk ch val found prf err) a).ch,b (dU (cq (some m)) (cH.mk ch val found prf err) a).val,k (dU (cq (some m)) (cH.mk ch val found prf err) a).found,ζr (Fn.func 132) [] [h 1 0 1],g 2 (dU (cq (some m)) (cH.mk ch val found prf err) a).prf.length 5,g 3 k2 1,b most,b (dU (cq (some m)) (cH.mk ch val found prf err) a).err] 119 28 false)/\(d [b m] 2 1 false).same (d [b m] 2 1 false)/\(f ek prf 93 true).same (f ek (dU (cq (some m)) (cH.mk ch val found prf err) a).prf 93 true)/\(f (c) fx 3 true).same (f (c) fx 3 true)/\True))/\(decide (val<a.value)=false->(j []).same (j [])/\(d [b p.supply.a0,b p.supply.a1,b p.supply.a2,b p.supply.a3,b p.supply.a4,b p.supply.a5,b p.opn.a0,b p.opn.a1,b p.opn.a2,b p.opn.a3,b p.opn.a4,b p.opn.a5,b p.cls.a0,b p.cls.a1,b p.cls.a2,b p.cls.a3,b p.cls.a4,b p.cls.a5,e (c) p.classes,e bn.off p.offers,e (c) ch,b val,k found,ζr (Fn.func 132) [] [h 1 0 1],g 2 prf.length 5,g 3 k2 1,b most,b err] 119 28 false).same (d [b p.supply.a0,b p.supply.a1,b p.supply.a2,b p.supply.a3,b p.supply.a4,b p.supply.a5,b p.opn.a0,b p.opn.a1,b p.opn.a2,b p.opn.a3,b p.opn.a4,b p.opn.a5,b p.cls.a0,b p.cls.a1,b p.cls.a2,b p.cls.a3,b p.cls.a4,b p.cls.a5,e (c) p.classes,e bn.off p.offers,e (c) (dU (cq (some m)) (cH.mk ch val found prf err) a).ch,b (dU (cq (some m)) (cH.mk ch val found prf err) a).val,k (dU (cq (some m)) (cH.mk ch val found prf err) a).found,ζr (Fn.func 132) [] [h 1 0 1],g 2 (dU (cq (some m)) (cH.mk ch val found prf err) a).prf.length 5,g 3 k2 1,b most,b (dU (cq (some m)) (cH.mk ch val found prf err) a).err] 119 28 false)/\(d [b m] 2 1 false).same (d [b m] 2 1 false)/\(f ek prf 93 true).same (f ek (dU (cq (some m)) (cH.mk ch val found prf err) a).prf 93 true)/\(f (c) fx 3 true).same (f (c) fx 3 true)/\True)) (by kernel_rfl) ?_
  refine⟨λh=>?_,λh=>?_⟩
  ·simp only[e1 _ (of_decide_eq_true h)]
   refine⟨λhf=>?_,λhf=>?_⟩
   ·subst hf
    exact⟨rfl,rfl,rfl,rfl,rfl,trivial⟩
   ·subst hf
    exact⟨trivial,rfl,rfl,rfl,rfl,rfl,trivial⟩
  ·simp only[e2 _ (of_decide_eq_false h)]
   exact⟨rfl,rfl,rfl,rfl,rfl,trivial⟩
theorem uw {p q:Rat}:i7 p q<0↔p<q:=by
 unfold i7
 grind
def K6:bM:=⟨62,bp×List Int,.cons dG (.one (dN (.i .i64))),λa=>bC a.1=0/\a.2.length<=9223372036854775807,λa=> .si .i64 (eC a.1 a.2)⟩
def aeS (p:bp) (c:List Int):Nat->cB
 |6=> .inv Int (λi=>⟨[(7,.si .i64 (ck ((dQ p c).take i.toNat))),(23,.row .off (dQ p c)),(24,.si .i64 (dQ p c).length),(25,.si .i64 i)],[.cells p.ss 27 20 false]⟩)
   (λs=>iS s 25) (λi=>0<=i/\i<=(dQ p c).length) (λi=>((dQ p c).length - i).toNat) λ_ _=> .look
 |_=> .look
theorem h437:Holds Tryz.prog K6:=by
 refine cK (L:=[CY,ri]) K6 (λa=>aeS a.1 a.2) (by grind[h133,h79]) ?_
 rintro⟨p,c⟩ ⟨f,A⟩
 simp only at f A
 refine bR (let a:=γe .i64;let f:=(0:Int);let k:=γq .i64 0;let m:=a (eC p c);let z:=decide (bC p≠f);let j:=Φ bn.off (dQ p c);let B:=(↑(dQ p c).length:Int);let d:=(↑(dQ p c).length:Int);let r:=a d;let g:=bq.cells (bp.ss p) 27 20 false;(c.length<=9223372036854775807/\p.offers.length<=1000)/\((!fO p c)=true->k.same m)/\((!fO p c)=false->True/\(z=true->k.same m)/\(z=false->(((k.same (a (ck []))/\j.same j/\(a B).same r/\k.same (a 0)/\True)/\g.same g/\True)/\f<=f/\f<=d)/\∀(x:Int),let w:=ck (γd x.toNat (dQ p c));let y:=w+(bj (dQ p c) x.toNat bn.off.dflt).value;let b:=x+(1:Int);let e:=a b;f<=x/\x<=d->(decide (x<d)=true->f<=x/\x<B/\x.toNat<(dQ p c).length/\bX .i64 y/\bX .i64 b/\(((a y).same (a (ck (γd b.toNat (dQ p c))))/\j.same j/\r.same r/\e.same e/\True)/\g.same g/\True)/\(f<=b/\b<=d)/\(d - b).toNat<(d - x).toNat)/\(decide (x<d)=false->(a w).same m)))) (by kernel_rfl) ?_
 simp only[vcs]
 have t:=dL f
 obtain⟨G,v⟩:=aaq (c:=c) f
 have u:=t.2.1
 have q:fO p c=false->0=eC p c:=λh=>by
  unfold eC;rw[if_pos f];unfold dQ;unfold fO at h;rw[Option.isSome_eq_false_iff,Option.isNone_iff_eq_none] at h;rw[h];rfl
 refine⟨⟨A,by omega⟩,q,λ_=>⟨λh=>absurd f h,λ_=>⟨⟨by simp[ck],by omega,by omega⟩,?_⟩⟩⟩
 rintro i ⟨n,D⟩
 refine⟨λo=>?_,λE=>?_⟩
 ·have H:=aap n o
  have F:=sA t (l:=(dQ p c).take i.toNat) λx s=>v x (γm s)
  have C:=sA t (l:=(dQ p c).take (i+1).toNat) λx s=>v x (γm s)
  grind
 ·rw[show i.toNat=(dQ p c).length from by omega,χ]
  grind[eC]
def K7:bM:=⟨162,Int×Int,.cons (ez .i64) (.one (ez .i64)),λa=>(-9223372036854775808<=a.1/\a.1<=9223372036854775807)/\0<a.2/\a.2<=9223372036854775807,λa=> .bH [qA (fE (decide (a.1<0)) (a.1.natAbs:Int) a.2),.si .i64 0]⟩
theorem h451:Holds Tryz.prog K7:=by
 refine cK (L:=[DT,Aa]) K7 lk (by grind[h127,h151]) ?_
 rintro⟨n,d⟩ ⟨⟨u,w⟩,q,r⟩
 simp only at u w q r
 refine bR (let e:=(-9223372036854775808:Int);let h:=(9223372036854775807:Int);let k:=(0:Int);let l:=Φ;let g:=cE (↑n.natAbs:Int);let b:=cE (↑d.natAbs:Int);let f:=bu (fE (!decide (n<k)==decide (d<k)) (bk g) (bk b));let a:=bn.i .u32;let j:=[γe .i64 0];let c:=bu (fE (decide (n<k)) (↑n.natAbs:Int) d);(e<=n/\n<=h)/\(e<=d/\d<=h)/\((bA g/\bA b)/\(g.length<=1000000000/\b.length<=1000000000)/\k<bk b)/\(SV.bH (γK [γI f.fst,l a f.snd.fst,l a f.snd.snd]::j)).same (SV.bH (γK [γI c.fst,l a c.snd.fst,l a c.snd.snd]::j))) (by kernel_rfl) ?_
 simp only[vcs]
 obtain⟨v,s,t⟩:=gd (show(0:Int)<=(n.natAbs:Int) by omega)
 obtain⟨o,l,h⟩:=gd (show(0:Int)<=(d.natAbs:Int) by omega)
 have x:=mG (k:=2) (show(0:Int)<=(n.natAbs:Int) by omega) (by omega)
 have p:=mG (k:=2) (show(0:Int)<=(d.natAbs:Int) by omega) (by omega)
 have e:(d.natAbs:Int)=d:=by omega
 have m:(!(decide (n<0)==decide (d<0)))=decide (n<0):=by
  grind
 rw[m,v,o,e];rw[e] at l h p
 repeat' refine And.intro ?_ ?_
 all_goals first|omega|exact s|exact l|exact t|exact h|rfl
def o8 (x:List bO):Prop:=∃l,x=fL l/\x.length<=1000000/\∀q∈l,Sz 1000 q
theorem aeT (q:Rat):q.den=1↔(bu q).2.2=[1]:=by
 have c:cE 1=[1]:=by decide
 constructor
 ·intro h
  show cE (q.den:Int)=[1]
  simp_all
 ·intro h
  have a:=(gd (show(0:Int)<=(q.den:Int) by omega)).1
  have b:cE (q.den:Int)=[1]:=h
  grind[bk]
theorem UM (q:Rat):okF (bu q)=true:=decide_eq_true (by rw[eW])
def K8:bM:=⟨118,List bO,.one (dN sF),o8,λx=> .sb (mL (vL x))⟩
def aeU (x:List bO):Nat->cB
 |2=> .inv Int (λi=>⟨[(5,.row sF x),(6,.si .i64 x.length),(7,.si .i64 i)],[]⟩)
   (λs=>iS s 7) (λi=>(0<=i/\i<=x.length)/\mL ((vL x).take i.toNat)=true) (λi=>(x.length - i).toNat) λ_ _=> .look
 |_=> .look
theorem h445:Holds Tryz.prog K8:=by
 refine cK (L:=[xR]) K8 aeU (by grind[h407]) ?_
 rintro(x:List bO) ⟨l,v,G,H⟩
 refine bR (let c:=(0:Int);let d:=γe .i64;let f:=δs false;let h:=Φ;let i:=(1:Int);let b:=(↑x.length:Int);let w:=d b;((((h sF x).same (h sF x)/\(d (↑x.length:Int)).same w/\(γq .i64 0).same (d 0)/\True)/\True)/\(c<=c/\c<=b)/\mL []=true)/\∀(a:Int),let p:=bj x a.toNat sF.dflt;let e:=p.snd.snd;let C:=(↑(γo e):Int);let r:=γI (mL (vL x));let g:=a+i;let o:=d g;let A:=λ(u:Bool) ↦decide (bj e 0 c≠i)=u;let D:=λ(u:Bool) ↦decide (C≠i)=u;let E:=λ(u:Bool) ↦(!okF (p.fst,p.snd.fst,e))=u;(c<=a/\a<=b)/\mL (γd a.toNat (vL x))=true->(decide (a<b)=true->c<=a/\a<(↑x.length:Int)/\a.toNat<x.length/\((bA p.snd.fst/\bA e)/\γo p.snd.fst<=1000000/\γo e<=1000000)/\(E true->(f).same r)/\(E false->(D true->(f).same r)/\(D false->c<=c/\c<C/\0<γo e/\(A true->(f).same r)/\(A false->bX .i64 g/\(((h sF x).same (h sF x)/\w.same w/\o.same o/\True)/\True)/\((c<=g/\g<=b)/\mL (γd g.toNat (vL x))=true)/\(b - g).toNat<(b - a).toNat))))/\(decide (a<b)=false->(δs true).same r)) (by kernel_rfl) ?_
 simp only[vcs];subst v;rw[fJ] at G ⊢;rw[lV]
 have s:∀k:Nat,((k:Nat):Int).toNat=k:=λk=>γz k
 refine⟨⟨⟨by omega,by omega⟩,rfl⟩,?_⟩
 rintro i ⟨⟨z,T⟩,c⟩
 refine⟨λy=>?_,λy=>?_⟩
 ·have J:bj (fL l) i.toNat sF.dflt=bu (bj l i.toNat 0):=jm (by omega)
  have B:=de (d:=0) (show i.toNat<l.length by omega)
  have N:=H _ B
  have K:=jl (d:=0) z y
  rw[J]
  generalize bj l i.toNat 0=q at*
  obtain⟨_,⟨I,U,V⟩,⟨M,P,W⟩⟩:=nk q
  obtain⟨R,S⟩:=qC N
  have m:=aeT q
  have j:q.den≠1->false=mL l:=λQ=>by
   refine(Bool.eq_false_iff.2 λf=>?_).symm
   have:=Θ.1 f _ B
   simp_all
  have t:=UM q
  refine⟨z,y,by omega,⟨⟨I,M⟩,by omega,by omega⟩,λh=>absurd t (by simp_all),λ_=>⟨λh=>j λf=>h ?_,λh=>⟨by omega,by omega,by omega,λf=>j λO=>f ?_,λf=>⟨by omega,⟨by omega,?_⟩,by omega⟩⟩⟩⟩
  ·simp_all
  ·rw[(m.1 O)];rfl
  ·rw[K]
   unfold mL at c ⊢;rw[List.all_append,c]
   have:q.den=1:=m.2 (by
    have n:(bu q).2.2.length=1:=by omega
    have F:bj (bu q).2.2 0 0=1:=Γ.1 f
    match v:(bu q).2.2,n with
    |[x],_=>
     rw[v] at F
     have:x=1:=F
     rw[this])
   simp[this]
 grind
def K9 (f:FuncId) (j:bp->List Int->Prop) (e:bp->List Int->SV):cV where
 f:=f
 α:=bp×Nat×List Int
 put a:=[dG.put a.1,.ow 0 a.2.1 1]
 st a:=[.row (.i .i64) a.2.2 3 true]
 dec v o:=match v,o with
  |[p,.ow 0 n 1],[.row s l 3 true]=>match dG.dec p,iD s (.i .i64) l with
   |some p,some l=>some (p,n,l)
   |_,_=>none
  |_,_=>none
 ok v o a h:=by
  split at h
  ·split at h
   ·rename_i c d
    simp only[γ] at h;subst h
    obtain⟨rfl,k⟩:=mW d
    cases k
    exact⟨by simp only[gL,dG.ok _ _ c],rfl⟩
   ·cases h
  ·cases h
 inj a b c d:=by
  obtain⟨p,n,l⟩:=a
  obtain⟨m,q,r⟩:=b
  simp only[gL,π,and_true,SV.g,εO,true_and] at c;simp only[gO,ι,γs,bq.g,π,bP.cells.injEq,and_true] at d;rw[dG.inj p m c.1,oV (s:=.i .i64) d,c.2.1]
 dom a:=a.2.1=a.2.2.length/\j a.1 a.2.2
 res a:=e a.1 a.2.2
 out a:=[.row (.i .i64) a.2.2 3 true]
theorem E0 {L:List bM} {W:List cV} (c:cV) (Λ:c.α->Nat->cB) (i:∀c∈W,dK Tryz.prog c) (e:∀c∈L,Holds Tryz.prog c)
  
  (h:∀a,c.dom a->Vc (EY (lJ L (fY W) oJ oK gv) (Λ a) (fG c.f) (c.put a) (c.st a) λv s=>v.same (c.res a)/\ji s (c.out a))) (j:(gv c.f).isSome=true:=by kernel_rfl) (b:∀a,(c.put a).length=(fG c.f).params:=by intro _;kernel_rfl) (d:kR c.f W=none:=by kernel_rfl):dK Tryz.prog c:=
 λa g=>aeK c pD i e (vp j) b a d (h a g).out
noncomputable def La:cV:=K9 154 (λp f=>bC p=0/\f.length=p.offers.length) λp f=>qA (Ω (kM p f))
def aeV (p:bp) (f:List Int):Nat->cB
 |3=> .inv Int (λi=>⟨[(2,.ptr 1 0 20),(4,.ptr 2 0 3),(5,.si .i64 (kM p (f.take i.toNat))),(8,.ow 0 f.length 1),(9,.si .i64 f.length),(10,.si .i64 i)],[.row (.i .i64) f 3 true,.cells p.ss 27 20 false,.cells [.bl false,.sc (.slice none 0 0),.sc (.slice none 0 0)] 157 3 false]⟩)
   (λs=>iS s 10) (λi=>0<=i/\i<=f.length) (λi=>(f.length - i).toNat) λ_ _=> .look
 |_=> .look
theorem h396w:dK Tryz.prog La:=by
 refine E0 (L:=[qB]) (W:=[]) La (λa=>aeV a.1 a.2.2) (by simp) (by simpa using h94) ?_
 rintro⟨p,n,f⟩ ⟨hn,⟨hc,hl⟩⟩
 simp only at hn
 subst hn
 simp only at hc hl
 refine bR (let a:=γe .i64;let b:=(0:Int);let c:=Φ;let j:=γW 1 0 20;let k:=γW 2 0 3;let t:=γq .i64 0;let l:=γ8 0 f.length 1;let d:=(↑f.length:Int);let m:=a d;let e:=bq.row (bn.i .i64) f 3 true;let n:=bq.cells (bp.ss p) 27 20 false;let v:=SV.sc (Value.slice none 0 0);let o:=bq.cells [δs false,v,v] 157 3 false;let q:=bn.i .u32;let r:=bu (Ω (kM p f));(((j.same j/\k.same k/\t.same (a (kM p []))/\l.same l/\m.same m/\t.same (a 0)/\True)/\e.same e/\n.same n/\o.same o/\True)/\b<=b/\b<=d)/\∀(x:Int),let g:=x+(1:Int);let w:=a g;let y:=decide (bj f x.toNat b=(1:Int));let h:=kM p (γd x.toNat f);let z:=h+(bj p.offers x.toNat bn.off.dflt).value;let s:=bu (Ω h);let A:=λ(u:Int) ↦bX .i64 g/\((j.same j/\k.same k/\(a u).same (a (kM p (γd g.toNat f)))/\l.same l/\m.same m/\w.same w/\True)/\e.same e/\n.same n/\o.same o/\True)/\(b<=g/\g<=d)/\(d - g).toNat<(d - x).toNat;b<=x/\x<=d->(decide (x<d)=true->f.length=f.length/\b<=x/\x<(↑f.length:Int)/\f.length=f.length/\x.toNat<f.length/\(y=true->b<=x/\x<(↑p.offers.length:Int)/\x.toNat<p.offers.length/\bX .i64 z/\A z)/\(y=false->A h))/\(decide (x<d)=false->((-9223372036854775808:Int)<=h/\h<=(9223372036854775807:Int))/\(γK [γI s.fst,c q s.snd.fst,c q s.snd.snd]).same (γK [γI r.fst,c q r.snd.fst,c q r.snd.snd])/\e.same e/\True)) (by kernel_rfl) ?_
 simp only[vcs]
 have h160:=(dL hc).2.1
 refine⟨⟨by simp[kM,bE,dT,ck],by omega,by omega⟩,?_⟩
 rintro i ⟨i0,i1⟩
 have hb:=@KR p hc f i.toNat hl
 refine⟨λhi=>?_,λhi=>?_⟩
 ·have hs:=@aeh p f i i0 hi
  have ho:=oZ hc (i:=i) ⟨i0,by omega⟩
  have hv:(bj p.offers i.toNat bn.off.dflt).value=(oI p i).value:=rfl
  rw[hv]
  refine⟨i0,hi,by omega,λh1=>?_,λh1=>?_⟩
  ·rw[if_pos h1] at hs
   refine⟨i0,?_,?_,?_,?_,?_,?_,?_⟩<;>omega
  ·rw[if_neg h1] at hs
   refine⟨?_,?_,?_,?_⟩<;>omega
 ·rw[show f.take i.toNat=f by rw[show i.toNat=f.length by omega,χ]] at hb ⊢
  exact⟨by omega,rfl⟩
noncomputable def Lc:cV:=K9 151 (λp f=>(bC p=0/\f.length=p.offers.length)/\jL f=true) λp f=> .bH [.agg [.row sF (mK p f).1,.row sR (mK p f).2.1],.row (.i .i64) (mK p f).2.2,.si .i64 (if iw p f=true then 0 else 14)]
def UN (p:bp) (f:List Int) (l:List Int) (m:List Off):bV:=[.row (.i .i64) f 3 true,.cells p.ss 27 20 false,.cells [.sc (.slice none 0 0),.sc (.slice none 0 0)] 220 2 false,.row (.i .i64) l 3 true,.row .off m 39 true]
def E1 (p:bp) (f:List Int) (l:List Int) (m:List Off) (k0 k1:Nat) (rs:List (List bO×bO)) (g:List bO):bV:=UN p f l m++[.cells p.ss 110 20 false,.cells [.ow 8 k0 3,.ow 7 k1 4] 220 2 false,.row sR rs 255 false,.row sF g 157 false]
def aeW (p:bp) (f:List Int):Nat->cB
 |9=> .inv Int (λi=>⟨[(2,.ptr 1 0 20),(4,.ptr 2 0 2),(8,.ow 3 (bE (f.take i.toNat) 0).length 1),(9,.ow 4 (bE (f.take i.toNat) 1).length 8),(36,.ow 0 f.length 1),(37,.si .i64 f.length),(38,.si .i64 i)],UN p f (bE (f.take i.toNat) 0) ((bE (f.take i.toNat) 1).map (oI p))⟩)
   (λs=>iS s 38) (λi=>0<=i/\i<=f.length) (λi=>(f.length - i).toNat) λ_ _=> .look
 |24=> .inv Int (λj=>⟨[(2,.ptr 1 0 20),(4,.ptr 2 0 2),(8,.ow 3 (bE f 0).length 1),(9,.ow 4 (bE f 1).length 8),(12,.ptr 5 0 20),(13,.ptr 6 0 2),(71,.ow 3 (bE f 0).length 1),(72,.si .i64 (bE f 0).length),(73,.si .i64 j)],E1 p f (bE f 0) ((bE f 1).map (oI p)) j.toNat 0 [] (l9 p f j.toNat)⟩)
   (λs=>iS s 73) (λj=>0<=j/\j<=(bE f 0).length) (λj=>((bE f 0).length - j).toNat) λ_ _=> .look
 |29=> .inv Int (λr=>⟨[(2,.ptr 1 0 20),(4,.ptr 2 0 2),(8,.ow 3 (bE f 0).length 1),(9,.ow 4 (bE f 1).length 8),(12,.ptr 5 0 20),(13,.ptr 6 0 2),(91,.si .i64 (di p)),(92,.si .i64 r)],E1 p f (bE f 0) ((bE f 1).map (oI p)) (bE f 0).length r.toNat (nD p f r.toNat) (l9 p f (bE f 0).length)⟩)
   (λs=>iS s 92) (λr=>0<=r/\r<=di p) (λr=>(di p - r).toNat) λr k=>match k with
   |33=> .inv Int (λj=>⟨[(2,.ptr 1 0 20),(4,.ptr 2 0 2),(8,.ow 3 (bE f 0).length 1),(9,.ow 4 (bE f 1).length 8),(12,.ptr 5 0 20),(13,.ptr 6 0 2),(16,.si .i64 r),(17,.si .i64 (dA p r - cQ p (((bE f 1).map (oI p)).take j.toNat) r)),(91,.si .i64 (di p)),(92,.si .i64 r),(98,.ow 4 (bE f 1).length 8),(99,.si .i64 (bE f 1).length),(100,.si .i64 j)],E1 p f (bE f 0) ((bE f 1).map (oI p)) (bE f 0).length r.toNat (nD p f r.toNat) (l9 p f (bE f 0).length)⟩)
     (λs=>iS s 100) (λj=>0<=j/\j<=(bE f 1).length) (λj=>((bE f 1).length - j).toNat) λ_ _=> .look
   |39=> .inv Int (λj=>⟨[(2,.ptr 1 0 20),(4,.ptr 2 0 2),(8,.ow 3 (bE f 0).length 1),(9,.ow 4 (bE f 1).length 8),(12,.ptr 5 0 20),(13,.ptr 6 0 2),(16,.si .i64 r),(20,.ptr 9 0 4),(91,.si .i64 (di p)),(92,.si .i64 r),(114,.ow 3 (bE f 0).length 1),(115,.si .i64 (bE f 0).length),(116,.si .i64 j)],E1 p f (bE f 0) ((bE f 1).map (oI p)) (bE f 0).length r.toNat (nD p f r.toNat) (l9 p f (bE f 0).length)++[.cells [.ow 10 j.toNat 3,.sb (bu ((dA p r - cQ p ((bE f 1).map (oI p)) r:Int):Rat)).1,.row (.i .u32) (bu ((dA p r - cQ p ((bE f 1).map (oI p)) r:Int):Rat)).2.1,.row (.i .u32) (bu ((dA p r - cQ p ((bE f 1).map (oI p)) r:Int):Rat)).2.2] 255 4 false,.row sF (nC p f r j.toNat) 157 false]⟩)
     (λs=>iS s 116) (λj=>0<=j/\j<=(bE f 0).length) (λj=>((bE f 0).length - j).toNat) λ_ _=> .look
   |_=> .look
 |_=> .look
theorem h394w:dK Tryz.prog Lc:=by
 refine E0 (L:=[ri,qB,CQ,xn,xl,xm]) (W:=[]) Lc (λa=>aeW a.1 a.2.2) (by simp) (by simpa using⟨h79,h94,h134,h156,h157,h158⟩) ?_
 rintro⟨p,n,f⟩ ⟨hn,⟨⟨hc,hl⟩,hr⟩⟩
 simp only at hn
 subst hn
 simp only at hc hl hr
 refine bR (let a:=γe .i64;let c:=(0:Int);let d:=bq.row;let e:=bq.cells;let g:=γ8;let h:=(-9223372036854775808:Int);let j:=Φ;let k:=(1:Int);let l:=(9223372036854775807:Int);let m:=bX .i64;let n:=γq .i64;let o:=γW;let q:=γK;let r:=SV.bH;let R:=SV.sc (Value.slice none 0 0);let L:=bn.i .i64;let ah:=r [q [j sF (mK p f).fst,j sR (mK p f).snd.fst],j L (mK p f).snd.snd,a (if iw p f=true then c else(14:Int))];let s:=d L f 3 true;let I:=(↑f.length:Int);let ai:=p.offers.length;let ae:=(↑ai:Int);let t:=o 1 0 20;let v:=o 2 0 2;let Z:=g 0 f.length 1;let a6:=a I;let a7:=n 0;let aM:=[a p.supply.a0,a p.supply.a1,a p.supply.a2,a p.supply.a3,a p.supply.a4,a p.supply.a5,a p.opn.a0,a p.opn.a1,a p.opn.a2,a p.opn.a3,a p.opn.a4,a p.opn.a5,a p.cls.a0,a p.cls.a1,a p.cls.a2,a p.cls.a3,a p.cls.a4,a p.cls.a5,j L p.classes,j bn.off p.offers];let w:=e aM 27 20 false;let y:=e [R,R] 220 2 false;let aN:=d bn.off [] 39 true;let aj:=bn.off.dflt;let ay:=(↑p.classes.length:Int);let a8:=bn.i .u32;let a9:=bn.b.pair (a8.bK.pair a8.bK);let az:=a9.bK.pair a9;let H:=bE f c;let N:=H.length;let z:=g 3 N 1;let z25:Nat:=(bE f k).length;let A:=g 4 z25 8;let B:=o 5 0 20;let C:=o 6 0 2;let E:=(↑N:Int);let V:=a E;let F:=d L H 3 true;let P:=γh (oI p) (bE f k);let G:=d bn.off P 39 true;let D:=e aM 110 20 false;let af:=[g 7 0 4];let aO:=e (g 8 0 3::af) 220 2 false;let ak:=d sR [] 255 false;let aP:=d a9 [] 157 false;let J:=a (di p);let al:=g 8 N 3;let aA:=l9 p f N;let M:=d sF aA 157 false;let S:=(↑z25:Int);let am:=a S;let an:=o 9 0 4;let aQ:=g 10 0 3;let aR:=λ(u u_1:Int) (u_2:SV) ↦decide (u≠u_1)=true->(r [q [R,R],R,u_2]).same ah/\s.same s/\True;True/\aR (bC p) c (a (bC p))/\(decide (bC p≠c)=false->aR I ae (n 3)/\(decide (I≠ae)=false->(((t.same t/\v.same v/\(g 3 0 1).same (g 3 (bE [] c).length 1)/\(g 4 0 8).same (g 4 (bE [] k).length 8)/\Z.same Z/\a6.same a6/\a7.same (a 0)/\True)/\s.same s/\w.same w/\y.same y/\(d L [] 3 true).same (d L (bE [] c) 3 true)/\aN.same aN/\True)/\c<=c/\c<=I)/\∀(x:Int),let ao:=bE (γd x.toNat f) k;let aS:=g 4 ao.length 8;let O:=x+k;let ap:=γd O.toNat f;let aT:=g 4 (bE ap k).length 8;let aq:=a O;let aU:=g 3 (bE ap c).length 1;let aV:=d L (bE ap c) 3 true;let Q:=γh (oI p) ao;let aW:=d bn.off Q 39 true;let aX:=d bn.off (γh (oI p) (bE ap k)) 39 true;let aB:=bj f x.toNat c;let aY:=decide (aB=(-1:Int));let aa:=bE (γd x.toNat f) c;let ar:=aa.length;let aC:=d L aa 3 true;let aZ:=decide (aB=c);let b0:=aa.length+1;let b1:=decide (aB=k);let b2:=Q.length+1;let aD:=g 3 ar 1;let b3:=Q++[bj p.offers x.toNat aj];let bh:=aS.same aT/\Z.same Z/\a6.same a6/\aq.same aq/\True;let b4:=λ(u:Nat) (u_1:bq) ↦m O/\((t.same t/\v.same v/\(g 3 u 1).same aU/\bh)/\s.same s/\w.same w/\y.same y/\u_1.same aV/\aW.same aX/\True)/\(c<=O/\O<=I)/\(I - O).toNat<(I - x).toNat;c<=x/\x<=I->(decide (x<I)=true->f.length=f.length/\c<=x/\x<(↑f.length:Int)/\f.length=f.length/\x.toNat<f.length/\(aY=true->b4 ar aC)/\(aY=false->(aZ=true->ar=aa.length/\b0*8<=140737488355328/\b0<=1000000000000/\b4 (aa++[x]).length (d L (aa++[x]) 3 true))/\(aZ=false->(b1=true->c<=x/\x<ae/\x.toNat<ai/\ao.length=Q.length/\b2*64<=140737488355328/\b2<=1000000000000/\m O/\((t.same t/\v.same v/\aD.same aU/\(g 4 b3.length 8).same aT/\Z.same Z/\a6.same a6/\aq.same aq/\True)/\s.same s/\w.same w/\y.same y/\aC.same aV/\(d bn.off b3 39 true).same aX/\True)/\(c<=O/\O<=I)/\(I - O).toNat<(I - x).toNat)/\(b1=false->(r [q [R,R],R,n 4]).same ah/\s.same s/\True))))/\(decide (x<I)=false->ao.length=Q.length/\(p.classes.length<=8/\Q.length<=1000/\∀(x:Off),x∈Q->c<=x.bF/\x.bF<ay/\x.want.ok=true)/\((!fN p Q)=true->0=0/\0=0/\0=0/\(r [q [j a9 [],j az []],j L [],n 14]).same ah/\s.same s/\True)/\((!fN p Q)=false->(((t.same t/\v.same v/\aD.same z/\aS.same A/\B.same B/\C.same C/\aD.same z/\(a (↑ar:Int)).same V/\a7.same (a 0)/\True)/\s.same s/\w.same w/\y.same y/\aC.same F/\aW.same G/\D.same D/\aO.same aO/\(d az [] 255 false).same ak/\aP.same (d sF (l9 p f 0) 157 false)/\True)/\c<=c/\c<=E)/\∀(x:Int),let au:=bj H x.toNat c;let aE:=(bj p.offers au.toNat aj).value;let av:=l9 p f x.toNat;let b5:=av.length+1;let W:=x+k;let b6:=a W;let aF:=bu (Ω aE);let b7:=av++[(aF.fst,aF.snd.fst,aF.snd.snd)];c<=x/\x<=E->(decide (x<E)=true->N=H.length/\c<=x/\x<(↑H.length:Int)/\N=H.length/\x.toNat<H.length/\c<=au/\au<ae/\au.toNat<ai/\(h<=aE/\aE<=l)/\1=1/\x.toNat=av.length/\b5*56<=140737488355328/\b5<=1000000000000/\m W/\((t.same t/\v.same v/\z.same z/\A.same A/\B.same B/\C.same C/\z.same z/\V.same V/\b6.same b6/\True)/\s.same s/\w.same w/\y.same y/\F.same F/\G.same G/\D.same D/\(e (g 8 b7.length 3::af) 220 2 false).same (e (g 8 W.toNat 3::af) 220 2 false)/\ak.same ak/\(d a9 b7 157 false).same (d sF (l9 p f W.toNat) 157 false)/\True)/\(c<=W/\W<=E)/\(E - W).toNat<(E - x).toNat)/\(decide (x<E)=false->p.classes.length<=8/\(((t.same t/\v.same v/\z.same z/\A.same A/\B.same B/\C.same C/\J.same J/\a7.same (a 0)/\True)/\s.same s/\w.same w/\y.same y/\F.same F/\G.same G/\D.same D/\(e (g 8 x.toNat 3::af) 220 2 false).same (e (al::af) 220 2 false)/\ak.same (d sR (nD p f 0) 255 false)/\(d sF av 157 false).same M/\True)/\c<=c/\c<=di p)/\∀(x:Int),let b8:=decide (x<di p);let T:=e [al,g 7 x.toNat 4] 220 2 false;let ab:=nD p f x.toNat;let U:=d sR ab 255 false;let ac:=bu (Ω (dA p x - cQ p P x));let aG:=[γI ac.fst,j a8 ac.snd.fst,j a8 ac.snd.snd];let b9:=ab.length+1;let X:=x+k;let ba:=a X;c<=x/\x<=di p->(b8=true->(p.classes.length<=8/\c<=x/\x<di p)/\(((t.same t/\v.same v/\z.same z/\A.same A/\B.same B/\C.same C/\(a x).same (a x)/\(a (dA p x)).same (a (dA p x - cQ p [] x))/\J.same J/\(a x).same (a x)/\A.same A/\am.same am/\a7.same (a 0)/\True)/\s.same s/\w.same w/\y.same y/\F.same F/\G.same G/\D.same D/\T.same T/\U.same U/\M.same M/\True)/\c<=c/\c<=S)/\∀(x_1:Int),let aH:=bj P x_1.toNat aj;let aw:=dA p x - cQ p (γd x_1.toNat P) x;let bb:=aw - eL p x aH;let ad:=x_1+k;let K:=a x;let bc:=a ad;let aI:=bu (Ω aw);c<=x_1/\x_1<=S->(decide (x_1<S)=true->z25=P.length/\c<=x_1/\x_1<(↑P.length:Int)/\z25=P.length/\x_1.toNat<P.length/\(p.classes.length<=8/\c<=x/\x<di p/\c<=aH.bF/\aH.bF<ay)/\m bb/\m ad/\((t.same t/\v.same v/\z.same z/\A.same A/\B.same B/\C.same C/\K.same K/\(a bb).same (a (dA p x - cQ p (γd ad.toNat P) x))/\J.same J/\K.same K/\A.same A/\am.same am/\bc.same bc/\True)/\s.same s/\w.same w/\y.same y/\F.same F/\G.same G/\D.same D/\T.same T/\U.same U/\M.same M/\True)/\(c<=ad/\ad<=S)/\(S - ad).toNat<(S - x_1).toNat)/\(decide (x_1<S)=false->(h<=aw/\aw<=l)/\(((t.same t/\v.same v/\z.same z/\A.same A/\B.same B/\C.same C/\K.same K/\an.same an/\J.same J/\K.same K/\z.same z/\V.same V/\a7.same (a 0)/\True)/\s.same s/\w.same w/\y.same y/\F.same F/\G.same G/\D.same D/\T.same T/\U.same U/\M.same M/\(e [aQ,γI aI.fst,j a8 aI.snd.fst,j a8 aI.snd.snd] 255 4 false).same (e (aQ::aG) 255 4 false)/\aP.same (d sF (nC p f x 0) 157 false)/\True)/\c<=c/\c<=E)/\∀(x_2:Int),let ax:=bj H x_2.toNat c;let aJ:=bj p.offers ax.toNat aj;let aK:=eL p x aJ;let ag:=nC p f x x_2.toNat;let bd:=ag.length+1;let Y:=x_2+k;let be:=a Y;let aL:=bu (Ω aK);let bf:=ag++[(aL.fst,aL.snd.fst,aL.snd.snd)];let bg:=ab++[(ag,ac.fst,ac.snd.fst,ac.snd.snd)];c<=x_2/\x_2<=E->(decide (x_2<E)=true->N=H.length/\c<=x_2/\x_2<(↑H.length:Int)/\N=H.length/\x_2.toNat<H.length/\c<=ax/\ax<ae/\ax.toNat<ai/\(p.classes.length<=8/\c<=x/\x<di p/\c<=aJ.bF/\aJ.bF<ay)/\(h<=aK/\aK<=l)/\1=1/\x_2.toNat=ag.length/\bd*56<=140737488355328/\bd<=1000000000000/\m Y/\((t.same t/\v.same v/\z.same z/\A.same A/\B.same B/\C.same C/\K.same K/\an.same an/\J.same J/\K.same K/\z.same z/\V.same V/\be.same be/\True)/\s.same s/\w.same w/\y.same y/\F.same F/\G.same G/\D.same D/\T.same T/\U.same U/\M.same M/\(e (g 10 bf.length 3::aG) 255 4 false).same (e (g 10 Y.toNat 3::aG) 255 4 false)/\(d a9 bf 157 false).same (d sF (nC p f x Y.toNat) 157 false)/\True)/\(c<=Y/\Y<=E)/\(E - Y).toNat<(E - x_2).toNat)/\(decide (x_2<E)=false->x_2.toNat=ag.length/\1=1/\x.toNat=ab.length/\b9*80<=140737488355328/\b9<=1000000000000/\m X/\((t.same t/\v.same v/\z.same z/\A.same A/\B.same B/\C.same C/\J.same J/\ba.same ba/\True)/\s.same s/\w.same w/\y.same y/\F.same F/\G.same G/\D.same D/\(e [al,g 7 bg.length 4] 220 2 false).same (e [al,g 7 X.toNat 4] 220 2 false)/\(d az bg 255 false).same (d sR (nD p f X.toNat) 255 false)/\M.same M/\True)/\(c<=X/\X<=di p)/\(di p - X).toNat<(di p - x).toNat)))/\(b8=false->N=aA.length/\x.toNat=ab.length/\N=H.length/\(r [q [j sF aA,j sR ab],j L H,a7]).same ah/\s.same s/\True))))))) (by kernel_rfl) ?_
 simp only[vcs]
 obtain⟨g1,g2,g3,g4,g5⟩:=dL hc
 have hoi:∀k:Nat,∀o:Int,o=k->(bj p.offers k bn.off.dflt)=oI p o:=λk o h=>by subst h;rfl
 have hw2:∀{a b:Nat},a=b->(γ8 3 a 1).same (γ8 3 b 1):=by rintro _ _ rfl;rfl
 have hw3:∀{a b:Nat},a=b->(γ8 4 a 8).same (γ8 4 b 8):=by rintro _ _ rfl;rfl
 have lx:∀{x y:List Int},x=y->(bq.row (.i .i64) x 3 true).same (bq.row (.i .i64) y 3 true):=by rintro _ _ rfl;rfl
 have E2:∀{x y:List Off},x=y->(bq.row .off x 39 true).same (bq.row .off y 39 true):=by rintro _ _ rfl;rfl
 refine⟨λh=>absurd hc h,λ_=>⟨λh=>absurd (by rw[hl]) h,λ_=>⟨⟨⟨⟨hw2 rfl,hw3 rfl⟩,lx rfl⟩,by omega,by omega⟩,?_⟩⟩⟩
 rintro i ⟨i0,i1⟩
 have htl:(f.take i.toNat).length<=160:=by rw[Ξ];omega
 have hd0:=@yn (f.take i.toNat) 0
 have hd1:=@yn (f.take i.toNat) 1
 have hm1:(γh (oI p) (bE (f.take i.toNat) 1)).length=(bE (f.take i.toNat) 1).length:=γx _
 refine⟨λhi=>?_,λhi=>?_⟩
 ·have hs0:=@KP f 0 i i0 hi
  have hs1:=@KP f 1 i i0 hi
  have ags: -1<=bj f i.toNat 0/\bj f i.toNat 0<=1:=by
   have:=Θ.1 hr _ (de (d:=0) (show i.toNat<f.length by omega))
   simpa using this
  refine⟨i0,hi,by omega,λh1=>?_,λh1=>⟨λh2=>?_,λh2=>⟨λh3=>?_,λh3=>by omega⟩⟩⟩
  ·rw[if_neg (by omega),γY] at hs0 hs1
   rw[hs0,hs1]
   refine⟨?_,⟨⟨hw2 rfl,hw3 rfl⟩,lx rfl,E2 rfl⟩,?_,?_⟩<;>omega
  ·rw[if_pos (by omega)] at hs0
   rw[if_neg (by omega),γY] at hs1
   rw[hs0,hs1]
   refine⟨?_,?_,?_,⟨⟨hw2 rfl,hw3 rfl⟩,lx rfl,E2 rfl⟩,?_,?_⟩<;>omega
  ·rw[if_neg (by omega),γY] at hs0
   rw[if_pos (by omega)] at hs1
   rw[hs0,hs1,hoi i.toNat i (by omega),hm1]
   have e:γh (oI p) (bE (f.take i.toNat) 1)++[oI p i]=γh (oI p) (bE (f.take i.toNat) 1++[i]):=by rw[List.map_append];rfl
   rw[e,γx]
   refine⟨i0,?_,?_,rfl,?_,?_,?_,⟨⟨hw2 rfl,hw3 rfl⟩,lx rfl,E2 rfl⟩,?_,?_⟩<;>omega
 ·have htk:f.take i.toNat=f:=by rw[show i.toNat=f.length by omega,χ]
  rw[htk] at hd0 hd1 hm1 ⊢
  have hdl:∀d,(bE f d).length<=160:=λd=>by have:=@yn f d;omega
  refine⟨hm1.symm,⟨g1,by omega,λx hx=>?_⟩,λhb=>?_,λhb=>?_⟩
  ·obtain⟨k,hk,rfl⟩:=γf.1 hx
   have h1:=(l8.1 hk).1
   have:=oZ hc (i:=k) (by omega)
   exact⟨this.1,this.2.1,this.2.2.1⟩
  ·have hb2:iw p f=false:=hb
   unfold mK;simp only[hb2]
   exact⟨rfl,rfl,rfl⟩
  ·have hb2:iw p f=true:=hb
   have hG:mK p f=((iu (ju p f)).1,((iu (ju p f)).2,bE f 0)):=by unfold mK;rw[if_pos hb2]
   simp only[hb2,if_true,hG]
   have hfx:ic p f:=⟨hc,hl,hb⟩
   have A0:∀{x y:List bO},x=y->(bq.row sF x 157 false).same (bq.row sF y 157 false):=by rintro _ _ rfl;rfl
   have UO:∀{x y:List (List bO×bO)},x=y->(bq.row sR x 255 false).same (bq.row sR y 255 false):=by rintro _ _ rfl;rfl
   have Ld:∀{a b c d:Nat},a=b->c=d->(bq.cells [.ow 8 a 3,.ow 7 c 4] 220 2 false).same (bq.cells [.ow 8 b 3,.ow 7 d 4] 220 2 false):=by rintro _ _ _ _ rfl rfl;rfl
   have hc8:∀{a b:Nat} {q q':Rat},a=b->q=q'->(bq.cells [.ow 10 a 3,.sb (bu q).1,.row (.i .u32) (bu q).2.1,.row (.i .u32) (bu q).2.2] 255 4 false).same (bq.cells [.ow 10 b 3,.sb (bu q').1,.row (.i .u32) (bu q').2.1,.row (.i .u32) (bu q').2.2] 255 4 false):=by rintro _ _ _ _ rfl rfl;rfl
   have hn0:=hdl 0
   have hn1:=hdl 1
   have hfree:∀j:Int,0<=j->j<(bE f 0).length->(0<=bj (bE f 0) j.toNat 0/\bj (bE f 0) j.toNat 0<p.offers.length):=λj h0 h1=>by
    have:=(l8.1 (de (d:=0) (show j.toNat<(bE f 0).length by omega))).1
    omega
   refine⟨⟨⟨⟨hw2 rfl,hw3 rfl,hw2 rfl,trivial⟩,lx rfl,E2 rfl,A0 rfl⟩,by omega,by omega⟩,?_⟩
   rintro j ⟨j0,j1⟩
   have hgl:=@KT p f j.toNat (by omega)
   refine⟨λhj=>?_,λhj=>?_⟩
   ·have hk:=hfree j j0 hj
    have ho:=oZ hc hk
    have hs:=@aei p f j j0 hj
    have aeX:=@KT p f (j+1).toNat (by omega)
    rw[hoi _ (bj (bE f 0) j.toNat 0) (by omega)]
    simp only[kF]
    have e:l9 p f j.toNat++[bu (Ω (oI p (bj (bE f 0) j.toNat 0)).value)]=l9 p f (j+1).toNat:=hs.symm
    rw[e]
    refine⟨j0,hj,?_,hk.1,hk.2,?_,?_,?_,?_,?_,?_,⟨Ld aeX rfl,A0 rfl⟩,?_,?_⟩<;>omega
   ·rw[show j.toNat=(bE f 0).length by omega]
    have hnr:di p=p.classes.length+12:=rfl
    refine⟨g1,⟨⟨Ld rfl rfl,UO rfl,A0 rfl⟩,by omega,by omega⟩,?_⟩
    rintro r ⟨r0,r1⟩
    have hrl:=@Uw p f r.toNat
    refine⟨λhr2=>⟨⟨g1,r0,hr2⟩,⟨by simp[cQ],by omega,by omega⟩,?_⟩,λhr2=>?_⟩
    ·rintro k ⟨k0,k1⟩
     have hok:∀x∈(γh (oI p) (bE f 1)).take k.toNat,x.want.ok=true:=λx hx=>(EF hfx x (γm hx)).2.2.1
     have hsb:=@tV p r ((γh (oI p) (bE f 1)).take k.toNat) hok
     have aeY:((γh (oI p) (bE f 1)).take k.toNat).length<=160:=by rw[Ξ];omega
     have hbb:=@Eu p hc r
     refine⟨λhk=>?_,λhk=>?_⟩
     ·have hx:=EF hfx _ (de (d:=bn.off.dflt) (show k.toNat<(γh (oI p) (bE f 1)).length by omega))
      have hst:=@Hw p r (γh (oI p) (bE f 1)) k bn.off.dflt k0 (by omega)
      have hcb:=@rh p r _ hx.2.2.1
      refine⟨?_,k0,?_,?_,?_,⟨g1,r0,hr2,hx.1,hx.2.1⟩,?_,?_,?_,?_,?_⟩<;>omega
     ·have e:(γh (oI p) (bE f 1)).take k.toNat=γh (oI p) (bE f 1):=List.take_of_length_le (by omega)
      rw[e] at hsb aeY ⊢
      refine⟨by omega,⟨⟨hc8 rfl rfl,A0 rfl⟩,by omega,by omega⟩,?_⟩
      rintro l ⟨l0,l1⟩
      have hcl:=@Uu p f r l.toNat (by omega)
      refine⟨λhl2=>?_,λhl2=>?_⟩
      ·have hk:=hfree l l0 hl2
       have ho:=oZ hc hk
       have hs:=@aej p f r l l0 hl2
       have aeZ:=@Uu p f r (l+1).toNat (by omega)
       have hcb:=@rh p r _ ho.2.2.1
       rw[hoi _ (bj (bE f 0) l.toNat 0) (by omega)]
       simp only[kF]
       have e:nC p f r l.toNat++[bu (Ω (eL p r (oI p (bj (bE f 0) l.toNat 0))))]=nC p f r (l+1).toNat:=hs.symm
       rw[e]
       refine⟨l0,hl2,?_,hk.1,hk.2,?_,⟨g1,r0,hr2,ho.1,ho.2.1⟩,?_,?_,?_,?_,?_,⟨hc8 aeZ rfl,A0 rfl⟩,?_,?_⟩<;>omega
      ·rw[show l.toNat=(bE f 0).length by omega] at hcl ⊢
       have hs:=@aek p f r r0
       have hrl2:=@Uw p f (r+1).toNat
       simp only[kF]
       have e:nD p f r.toNat++[(nC p f r (bE f 0).length,bu (Ω (dA p r - cQ p (γh (oI p) (bE f 1)) r)))]=nD p f (r+1).toNat:=hs.symm
       rw[e]
       refine⟨hcl.symm,hrl.symm,?_,?_,?_,⟨Ld rfl hrl2,UO rfl⟩,?_,?_⟩<;>omega
    ·have e:r.toNat=mF p:=by
      show r.toNat=p.classes.length+12
      omega
     rw[e] at hrl ⊢;rw[Us,Ut]
     refine⟨?_,hrl.symm.trans (by rw[Ut]),rfl,trivial,trivial⟩
     rw[<-Us]
     exact(KT (Nat.le_refl _)).symm
noncomputable def Le:cV:=K9 115 (λp f=>f.length<=1000000000000) λp f=> .bH [aer p f,.si .i64 (kL p f)]
noncomputable def UP (p:bp) (f:List Int) (x:List bO):bV:=
 [.row (.i .i64) f 3 true,.cells p.ss 27 20 false,.cells [.bl false,.bl false,.sc (.slice none 0 0),.sc (.slice none 0 0),.sc (.slice none 0 0),.sc (.slice none 0 0)] 176 6 false,.cells [.row sF (mK p f).1,.row sR (mK p f).2.1] 220 2 false,
  .cells [.si .i64 1,.sb (bu (eY p f).value).1,.row (.i .u32) (bu (eY p f).value).2.1,.row (.i .u32) (bu (eY p f).value).2.2,.row sF (fL (gh (eY p f) (nF f) (mF p))),.row sF (fL (yr p f)),.row sF []] 224 7 false,.row sF x 157 true]
noncomputable def ae0 (p:bp) (f:List Int):Nat->cB
 |12=> .inv Int (λi=>⟨[(1,.ow 0 f.length 1),(2,.ptr 1 0 20),(4,.ptr 2 0 6),(8,.row (.i .i64) (bE f 0)),(10,.ptr 4 0 7),(11,.ow 5 f.length 3),(45,.ow 0 f.length 1),(46,.si .i64 f.length),(47,.si .i64 i)],UP p f (fj (fL (jM p f 0)) i.toNat (false,([],[])))⟩)
   (λs=>iS s 47) (λi=>0<=i/\i<=f.length) (λi=>(f.length - i).toNat) λ_ _=> .look
 |19=> .inv Int (λk=>⟨[(1,.ow 0 f.length 1),(2,.ptr 1 0 20),(4,.ptr 2 0 6),(10,.ptr 4 0 7),(11,.ow 5 f.length 3),(63,.row (.i .i64) (bE f 0)),(64,.si .i64 (bE f 0).length),(65,.si .i64 k)],UP p f (fL (jM p f k.toNat))⟩)
   (λs=>iS s 65) (λk=>0<=k/\k<=(bE f 0).length) (λk=>((bE f 0).length - k).toNat) λ_ _=> .look
 |_=> .look
theorem h390w:dK Tryz.prog Le:=by
 refine E0 (L:=[KQ,KN,qB,Ac]) (W:=[Lc,La]) Le (λa=>ae0 a.1 a.2.2) (by simpa using⟨h394w,h396w⟩) (by simpa using⟨h393,h395,h94,h129⟩) ?_
 rintro⟨p,n,f⟩ ⟨hn,hl:f.length<=1000000000000⟩
 simp only at hn
 subst hn
 refine bR (let c:=γe .i64;let d:=(0:Int);let e:=Φ;let g:=bq.row;let h:=(-9223372036854775808:Int);let j:=(9223372036854775807:Int);let k:=bq.cells;let l:=(1:Int);let m:=γI;let n:=SV.bH;let o:=γW;let q:=γK;let Q:=δs false;let v:=bn.i .u32;let a6:=bn.b.pair (v.bK.pair v.bK);let ah:=q [Q,Q,e v [],e v [],e a6 [],e a6 []];let ai:=[c (kL p f)];let a7:=n (q [m (jO p f),m (j8 p f).fst,e v (j8 p f).snd.fst,e v (j8 p f).snd.snd,e sF (qI p f),e sF (j9 p f)]::ai);let R:=bn.i .i64;let t:=g R f 3 true;let aj:=decide (kL p f≠d);let ak:=decide ((if iw p f=true then d else(14:Int))≠d);let S:=γq .i64 0;let T:=(mK p f).fst;let a8:=(mK p f).snd.fst;let a9:=c 0;let s:=(↑f.length:Int);let w:=γ8 0 f.length 1;let y:=o 1 0 20;let z:=o 2 0 6;let J:=bE f d;let G:=e R J;let A:=o 4 0 7;let H:=γ8 5 f.length 3;let U:=c s;let B:=k [c p.supply.a0,c p.supply.a1,c p.supply.a2,c p.supply.a3,c p.supply.a4,c p.supply.a5,c p.opn.a0,c p.opn.a1,c p.opn.a2,c p.opn.a3,c p.opn.a4,c p.opn.a5,c p.cls.a0,c p.cls.a1,c p.cls.a2,c p.cls.a3,c p.cls.a4,c p.cls.a5,e R p.classes,e bn.off p.offers] 27 20 false;let V:=SV.sc (Value.slice none 0 0);let C:=k [Q,Q,V,V,V,V] 176 6 false;let D:=k [e sF T,e sR a8] 220 2 false;let al:=c 1;let aa:=γh (λ(r:List bO×bO) ↦(vL r.fst,cj r.snd)) a8;let P:=nB (vL T,aa);let z31:Nat:=(vL T).length;let K:=bu (eY p f).value;let W:=fL (gh (eY p f) (nF f) (mF p));let am:=e sF (fL (yr p f));let I:=k [al,m K.fst,e v K.snd.fst,e v K.snd.snd,e sF W,am,e sF []] 224 7 false;let X:=(false,[],[]);let Y:=fL (jM p f 0);let ab:=bu (Ω d);let ac:=bu (Ω l);let E:=(↑J.length:Int);let ad:=c E;let ae:=bu (Ω (kM p f));let an:=(ae.fst,ae.snd.fst,ae.snd.snd);let ao:=(K.fst,K.snd.fst,K.snd.snd);let af:=bu (cj an+cj ao);let ap:=λ(u:Bool) (u_1:SV) ↦u=true->0=0/\0=0/\0=0/\0=0/\(n [ah,u_1]).same a7/\t.same t/\True;f.length=f.length/\f.length<=1000000000000/\(aj=true->0=0/\0=0/\0=0/\0=0/\(n (ah::ai)).same a7/\t.same t/\True)/\(aj=false->(f.length=f.length/\(bC p=d/\f.length=p.offers.length)/\jL f=true)/\ap ak S/\(ak=false->(∃(a:Lp),(T,a8)=iu a/\AS a)/\ap false a9/\(false=false->d<=s/\s<=s/\s*(56:Int)<=(140737488355328:Int)/\s<=(1000000000000:Int)/\(((w.same w/\y.same y/\z.same z/\(e R (mK p f).snd.snd).same G/\A.same A/\(γ8 5 s.toNat 3).same H/\w.same w/\U.same U/\S.same a9/\True)/\t.same t/\B.same B/\C.same C/\D.same D/\(k [al,m (bu P.value).fst,e v (bu P.value).snd.fst,e v (bu P.value).snd.snd,e sF (fL (gh P z31 aa.length)),e sF (fL (kK P z31 aa.length z31)),e sF []] 224 7 false).same I/\(g a6 (ε s.toNat X) 157 true).same (g sF (fj Y 0 X) 157 true)/\True)/\d<=d/\d<=s)/\∀(x:Int),let L:=x+l;let aq:=c L;let M:=fj Y x.toNat X;let ar:=decide (bj f x.toNat d=l);let N:=M.set x.toNat (ab.fst,ab.snd.fst,ab.snd.snd);let au:=λ(u:List (Bool×List Int×List Int)) ↦bX .i64 L/\((w.same w/\y.same y/\z.same z/\G.same G/\A.same A/\H.same H/\w.same w/\U.same U/\aq.same aq/\True)/\t.same t/\B.same B/\C.same C/\D.same D/\I.same I/\(g sF u 157 true).same (g sF (fj Y L.toNat X) 157 true)/\True)/\(d<=L/\L<=s)/\(s - L).toNat<(s - x).toNat;d<=x/\x<=s->(decide (x<s)=true->f.length=f.length/\d<=x/\x<(↑f.length:Int)/\f.length=f.length/\x.toNat<f.length/\(h<=d/\d<=j)/\f.length=M.length/\d<=x/\x<(↑M.length:Int)/\f.length=M.length/\x.toNat<M.length/\(ar=true->(h<=l/\l<=j)/\f.length=N.length/\d<=x/\x<(↑N.length:Int)/\f.length=N.length/\x.toNat<N.length/\au (N.set x.toNat (ac.fst,ac.snd.fst,ac.snd.snd)))/\(ar=false->au N))/\(decide (x<s)=false->(((w.same w/\y.same y/\z.same z/\A.same A/\H.same H/\G.same G/\(c (↑J.length:Int)).same ad/\S.same a9/\True)/\t.same t/\B.same B/\C.same C/\D.same D/\I.same I/\(g sF M 157 true).same (g sF Y 157 true)/\True)/\d<=d/\d<=E)/\∀(x:Int),let F:=fL (jM p f x.toNat);let Z:=bj J x.toNat d;let O:=x+l;let av:=c O;let ag:=bj W x.toNat sF.dflt;d<=x/\x<=E->(decide (x<E)=true->d<=x/\x<(↑J.length:Int)/\x.toNat<J.length/\d<=x/\x<(↑W.length:Int)/\x.toNat<W.length/\f.length=F.length/\d<=Z/\Z<(↑F.length:Int)/\f.length=F.length/\Z.toNat<F.length/\bX .i64 O/\((w.same w/\y.same y/\z.same z/\A.same A/\H.same H/\G.same G/\ad.same ad/\av.same av/\True)/\t.same t/\B.same B/\C.same C/\D.same D/\I.same I/\(g sF (F.set Z.toNat (ag.fst,ag.snd.fst,ag.snd.snd)) 157 true).same (g sF (fL (jM p f O.toNat)) 157 true)/\True)/\(d<=O/\O<=E)/\(E - O).toNat<(E - x).toNat)/\(decide (x<E)=false->(f.length=f.length/\bC p=d/\f.length=p.offers.length)/\(cY an/\cY ao)/\f.length=F.length/\f.length=F.length/\(n [q [δs true,m af.fst,e v af.snd.fst,e v af.snd.snd,am,e sF F],S]).same a7/\t.same t/\True)))))) (by kernel_rfl) ?_
 simp only[vcs]
 have hz:jO p f=false->(γK [δs false,δs false,Φ (bn.i IntKind.i64) [],Φ (bn.i IntKind.i64) [],Φ (bn.i IntKind.i64) [],Φ (bn.i IntKind.i64) []]).same
   (γK [γI (jO p f),γI (j8 p f).fst,Φ (bn.i IntKind.u32) (j8 p f).snd.fst,Φ (bn.i IntKind.u32) (j8 p f).snd.snd,Φ sF (qI p f),Φ sF (j9 p f)]):=λh=>by
  unfold j8 qI j9;simp only[h];rfl
 refine⟨hl,λh=>hz (by unfold jO;rw[decide_eq_false h];rfl),λh=>?_⟩
 have hx0:kL p f=0:=Γ.1 h
 have hcl:bC p=0/\f.length=p.offers.length/\jL f=true:=by
  unfold kL at hx0;split at hx0
  ·rename_i h1;exact absurd hx0 h1
  ·rename_i h1
   split at hx0
   ·cases hx0
   ·rename_i h2
    split at hx0
    ·rename_i h3;exact⟨Γ.1 h1,Γ.1 h2,h3⟩
    ·cases hx0
 obtain⟨hc,hln,hr⟩:=hcl
 refine⟨⟨⟨hc,hln⟩,hr⟩,λh1=>⟨hz ?_,hx0.symm⟩,λh1=>?_⟩
 ·have hb:iw p f=false:=by
   cases hb:iw p f with
   |false=>rfl
   |true=>rw[hb] at h1;exact absurd rfl h1
  unfold jO;rw[hb,Bool.and_false]
 ·have hb:iw p f=true:=by
   cases hb:iw p f with
   |true=>rfl
   |false=>rw[hb] at h1;exact absurd (by simp) h1
  have hfx:ic p f:=⟨hc,hln,hb⟩
  have hG:mK p f=((iu (ju p f)).1,((iu (ju p f)).2,bE f 0)):=by unfold mK;rw[if_pos hb]
  have hok:jO p f=true:=by unfold jO;rw[hb,decide_eq_true hx0];rfl
  have h0:(Ω 0:Rat)=0:=rfl
  have h1':(Ω 1:Rat)=1:=rfl
  simp only[hG,Uo,Up,h0,h1',kF]
  have e1:(ju p f).1.length=nF f:=by
   show((bE f 0).map _).length=_
   rw[γx]
  have e2:(ju p f).2.length=mF p:=by
   show((dT (mF p)).map _).length=_
   rw[γx,js]
  have KO:((ju p f).1,(ju p f).2)=ju p f:=rfl
  simp only[KO,aem,e1,e2]
  have uv:∀{x y:List bO},x=y->(bq.row sF x 157 true).same (bq.row sF y 157 true):=by rintro _ _ rfl;rfl
  have hs0:=@yt p f 0
  have hf0:=@fJ (jM p f 0)
  have hpt:=@EK (eY p f) (nF f) (mF p)
  have hfp:=@fJ (gh (eY p f) (nF f) (mF p))
  have hcast:∀k:Nat,((k:Nat):Int).toNat=k:=λk=>γz k
  have hnf:nF f=(bE f 0).length:=rfl
  have hdl0:=@yn f 0
  refine⟨⟨ju p f,rfl,ael hfx⟩,λh=>(by cases h),λ_=>⟨by omega,by omega,by omega,by omega,⟨⟨⟨trivial,by rw[hcast];rfl⟩,rfl,uv (by rw[AL,hf0,hs0,hcast])⟩,by omega,by omega⟩,?_⟩⟩
  rintro i ⟨i0,i1⟩
  have ox:=@AK (fL (jM p f 0)) i.toNat (false,([],[])) (by omega)
  refine⟨λhi=>?_,λhi=>?_⟩
  ·have hv:bj (fL (jM p f 0)) i.toNat (false,([],[]))=bu (if bj f i.toNat 0=1 then 1 else 0):=by rw[jm (by omega),aep (by omega)]
   have hset:∀x:bO,x=bu (if bj f i.toNat 0=1 then 1 else 0)->(fj (fL (jM p f 0)) i.toNat (false,([],[]))).set i.toNat x=fj (fL (jM p f 0)) (i+1).toNat (false,([],[])):=λx hx=>by
    have:=AP (d:=fL (jM p f 0)) (j:=i.toNat) (z:=(false,([],[]))) (x:=x) (by omega) (hx.trans hv.symm)
    rw[show(i+1).toNat=i.toNat+1 by omega]
    exact this
   rw[γb]
   refine⟨i0,hi,by omega,by omega,by omega,i0,by omega,by omega,by omega,λh1=>⟨by omega,by omega,i0,by omega,by omega,by omega,by omega,uv ?_,by omega,by omega⟩,λh1=>⟨by omega,uv ?_,by omega,by omega⟩⟩
   ·rw[List.set_set]
    exact hset _ (by rw[if_pos h1])
   ·exact hset _ (by rw[if_neg h1])
  ·have hi2:i.toNat=(fL (jM p f 0)).length:=by omega
   rw[hi2,AO]
   refine⟨⟨uv rfl,by omega,by omega⟩,?_⟩
   rintro k ⟨k0,k1⟩
   have hsk:=@yt p f k.toNat
   have hfk:=@fJ (jM p f k.toNat)
   refine⟨λhk=>?_,λhk=>?_⟩
   ·have hm:=(l8.1 (de (d:=0) (show k.toNat<(bE f 0).length by omega))).1
    have hv:bj (fL (gh (eY p f) (nF f) (mF p))) k.toNat sF.dflt=bu (bj (gh (eY p f) (nF f) (mF p)) k.toNat 0):=jm (by omega)
    have hst:=@aeo p f k.toNat (by omega)
    rw[hv]
    refine⟨k0,hk,by omega,k0,by omega,by omega,by omega,hm.1,by omega,by omega,by omega,by omega,uv ?_,by omega,by omega⟩
    rw[yp,show(k+1).toNat=k.toNat+1 by omega,hst]
   ·have hk2:k.toNat=nF f:=by omega
    rw[hk2] at hsk hfk ⊢
    have hab:=@KR p hc f f.length hln
    rw[χ] at hab
    have hsa:Sz 1 ((kM p f:Int):Rat):=by
     unfold Sz;rw[Rat.num_intCast,Rat.den_intCast];omega
    have hsv:Sz 1000000 (eY p f).value:=by
     have:=(EG hfx).vK (rG hfx).1
     exact this.2.2.2
    refine⟨⟨hc,hln⟩,⟨ei hsa (by omega),ei hsv (by omega)⟩,by omega,by omega,?_,hx0.symm⟩
    unfold j8 qI j9;simp only[hok,if_true,eW];rfl
def Lh:cV:=EZ 119 (List bO) (.one (dN sF)) (λx a=>eZ x/\o8 a/\a.length=x.p.offers.length) (λx a=>lj.put ⟨eD (vL a),ck ((eD (vL a)).map (oI x.p))⟩) λx _=>x
def kh (x:List Rat) (k:Nat):List Int:=(dT k).filter λi=>decide (0<bj x i.toNat 0)
def ly (p:bp) (l:List Int):Int:=ck (l.map (oI p))
def ae2 (x:dD) (a:List bO):Nat->cB
 |3=>match x.en with
  |none=> .inv Int (λi=>⟨[(0,.ptr 0 0 28),(4,.ptr 3 0 2),(5,.ptr 5 0 2),(10,.row sF a),(11,.si .i64 a.length),(12,.si .i64 i)],
    x.yw++[.cells [.sc (.slice none 0 0),.si .i64 0] 41 2 false,.row (.i .i64) (kh (vL a) i.toNat) 3 true,.cells [.ow 4 (kh (vL a) i.toNat).length 1,.si .i64 (ly x.p (kh (vL a) i.toNat))] 41 2 false]⟩)
    (λs=>iS s 12) (λi=>0<=i/\i<=a.length) (λi=>(a.length - i).toNat) λ_ _=> .look
  |some m=> .inv Int (λi=>⟨[(0,.ptr 0 0 28),(4,.ptr 4 0 2),(5,.ptr 6 0 2),(10,.row sF a),(11,.si .i64 a.length),(12,.si .i64 i)],
    x.yx m++[.cells [.sc (.slice none 0 0),.si .i64 0] 41 2 false,.row (.i .i64) (kh (vL a) i.toNat) 3 true,.cells [.ow 5 (kh (vL a) i.toNat).length 1,.si .i64 (ly x.p (kh (vL a) i.toNat))] 41 2 false]⟩)
    (λs=>iS s 12) (λi=>0<=i/\i<=a.length) (λi=>(a.length - i).toNat) λ_ _=> .look
 |_=> .look
theorem UQ {x:List Rat} {i:Int} (i0:0<=i):kh x (i+1).toNat=if 0<bj x i.toNat 0 then kh x i.toNat++[i] else kh x i.toNat:=by
 unfold kh
 rw[show(i+1).toNat=i.toNat+1 by omega,yi,List.filter_append,εB i0]
 grind
theorem UR {p:bp} {x:List Rat} {k:Nat} (a:bC p=0) (g:k<=p.offers.length):(kh x k).length<=160/\0<=ly p (kh x k)/\ly p (kh x k)<=160000000:=by
 have e:(kh x k).length<=k:=by
  have:=List.length_filter_le (λi:Int=>decide (0<bj x i.toNat 0)) (dT k)
  rw[js] at this;exact this
 have c:=sA (dL a) (l:=(kh x k).map (oI p)) λy b=>by
  obtain⟨i,d,rfl⟩:=γf.1 b
  have:=rD.1 (List.mem_filter.1 d).1
  exact de (by omega)
 rw[γx] at c
 have f:=(dL a).2.1
 grind[ly]
theorem US {p:bp} {l:List Int} {i:Int}:ly p (l++[i])=ly p l+(oI p i).value:=by
 simp_all[ly,pG,ck]
theorem h446:dK Tryz.prog Lh:=by
 refine E0 (L:=[ug]) (W:=[]) Lh (λa=>ae2 a.1 a.2) (by simp) (by simpa using h99) ?_
 rintro⟨⟨p,ch,val,found,en,k1,k2,most,err,prf,fx⟩,a⟩ ⟨hok,⟨l,hx,hla,hz⟩,hl⟩
 simp only at hok hx hla hl
 subst hx
 have hc:bC p=0:=hok.f.c
 have h160:=(dL hc).2.1
 have hll:=@fJ l
 have hl:(fL l).length=p.offers.length:=hl
 cases en with
 |none=>
  refine bR (let a:=γe .i64;let b:=bq.cells;let c:=bq.row;let d:=(0:Int);let e:=Φ;let f:=γ8;let g:=γW;let r:=g 0 0 28;let s:=g 3 0 2;let t:=g 5 0 2;let C:=(↑(fL l).length:Int);let k:=(↑(fL l).length:Int);let v:=a k;let w:=γq .i64 0;let D:=a 0;let j:=bn.i .i64;let m:=b [a p.supply.a0,a p.supply.a1,a p.supply.a2,a p.supply.a3,a p.supply.a4,a p.supply.a5,a p.opn.a0,a p.opn.a1,a p.opn.a2,a p.opn.a3,a p.opn.a4,a p.opn.a5,a p.cls.a0,a p.cls.a1,a p.cls.a2,a p.cls.a3,a p.cls.a4,a p.cls.a5,e j p.classes,e bn.off p.offers,e j ch,a val,γI found,ζr (Fn.func 82) [] [],f 1 k1 5,f 2 k2 1,a most,a err] 119 28 false;let n:=c ek prf 93 true;let o:=c j fx 3 true;let E:=SV.sc (Value.slice none 0 0);let y:=b [E,D] 41 2 false;let z:=kh (vL (fL l)) 0;(((r.same r/\s.same s/\t.same t/\(e sF (fL l)).same (e sF (fL l))/\(a C).same v/\w.same D/\True)/\m.same m/\n.same n/\o.same o/\(b [E,w] 41 2 false).same y/\(c j [] 3 true).same (c j z 3 true)/\(b [f 4 0 1,w] 41 2 false).same (b [f 4 z.length 1,a (ly p z)] 41 2 false)/\True)/\d<=d/\d<=k)/\∀(x:Int),let q:=x+(1:Int);let F:=a q;let A:=kh (vL (fL l)) q.toNat;let B:=bj (fL l) x.toNat sF.dflt;let G:=(B.fst,B.snd.fst,B.snd.snd);let h:=kh (vL (fL l)) x.toNat;let H:=h.length+1;let I:=ly p h+(bj p.offers x.toNat bn.off.dflt).value;let J:=λ(u:bq) (u_1:Nat) (u_2:Int) ↦bX .i64 q/\((r.same r/\s.same s/\t.same t/\(e sF (fL l)).same (e sF (fL l))/\v.same v/\F.same F/\True)/\m.same m/\n.same n/\o.same o/\y.same y/\u.same (c j A 3 true)/\(b [f 4 u_1 1,a u_2] 41 2 false).same (b [f 4 A.length 1,a (ly p A)] 41 2 false)/\True)/\(d<=q/\q<=k)/\(k - q).toNat<(k - x).toNat;let K:=λ(u:Bool) ↦decide (d<kC (cj G))=u;d<=x/\x<=k->(decide (x<k)=true->d<=x/\x<C/\x.toNat<(fL l).length/\cY G/\(K true->1=1/\h.length=h.length/\H*8<=140737488355328/\H<=1000000000000/\d<=x/\x<(↑p.offers.length:Int)/\x.toNat<p.offers.length/\bX .i64 I/\J (c j (h++[x]) 3 true) (h++[x]).length I)/\(K false->J (c j h 3 true) h.length (ly p h)))/\(decide (x<k)=false->h.length=h.length/\h.length=h.length/\h.length=h.length/\(γK [e j h,a (ly p h)]).same (γK [e j (eD (vL (fL l))),a (ck (γh (oI p) (eD (vL (fL l)))))])/\m.same m/\n.same n/\o.same o/\True)) (by kernel_rfl) ?_
  simp only[vcs]
  have lx:∀{x y:List Int},x=y->(bq.row (.i .i64) x 3 true).same (bq.row (.i .i64) y 3 true):=by rintro _ _ rfl;rfl
  have hcI:∀{x y:List Int} {v w:Int},x=y->v=w->(bq.cells [.ow 4 x.length 1,.si .i64 v] 41 2 false).same (bq.cells [.ow 4 y.length 1,.si .i64 w] 41 2 false):=by rintro _ _ _ _ rfl rfl;rfl
  refine⟨⟨⟨rfl,lx rfl,rfl⟩,by omega,by omega⟩,?_⟩
  rintro i ⟨i0,i1⟩
  have hb:=@UR p (vL (fL l)) i.toNat hc (by omega)
  refine⟨λhi=>?_,λhi=>?_⟩
  ·have hv:bj (fL l) i.toNat sF.dflt=bu (bj l i.toNat 0):=jm (by omega)
   have hq:=hz _ (de (d:=0) (show i.toNat<l.length by omega))
   have ho:=(oZ hc (i:=i) (by omega)).2.2.2
   have hval:(bj p.offers i.toNat bn.off.dflt).value=(oI p i).value:=rfl
   have hs:=@UQ (vL (fL l)) i i0
   rw[hv,hval];rw[lV] at hs hb ⊢;simp only[kF,eW,ya]
   refine⟨i0,hi,by omega,ei hq (by omega),λh=>?_,λh=>?_⟩
   ·rw[if_pos h] at hs
    rw[hs,US]
    refine⟨?_,?_,i0,?_,?_,?_,?_,⟨lx rfl,hcI rfl rfl⟩,?_,?_⟩<;>omega
   ·rw[if_neg h] at hs
    rw[hs]
    refine⟨?_,⟨lx rfl,hcI rfl rfl⟩,?_,?_⟩<;>omega
  ·rw[show i.toNat=(vL (fL l)).length by rw[lV];omega]
   rfl
 |some m=>
  refine bR (let a:=γe .i64;let b:=bq.cells;let c:=bq.row;let d:=(0:Int);let e:=Φ;let f:=γ8;let g:=γW;let t:=g 0 0 28;let v:=g 4 0 2;let w:=g 6 0 2;let E:=(↑(fL l).length:Int);let k:=(↑(fL l).length:Int);let y:=a k;let z:=γq .i64 0;let F:=a 0;let j:=bn.i .i64;let n:=b [a p.supply.a0,a p.supply.a1,a p.supply.a2,a p.supply.a3,a p.supply.a4,a p.supply.a5,a p.opn.a0,a p.opn.a1,a p.opn.a2,a p.opn.a3,a p.opn.a4,a p.opn.a5,a p.cls.a0,a p.cls.a1,a p.cls.a2,a p.cls.a3,a p.cls.a4,a p.cls.a5,e j p.classes,e bn.off p.offers,e j ch,a val,γI found,ζr (Fn.func 132) [] [g 1 0 1],f 2 k1 5,f 3 k2 1,a most,a err] 119 28 false;let o:=b [a m] 2 1 false;let q:=c ek prf 93 true;let r:=c j fx 3 true;let G:=SV.sc (Value.slice none 0 0);let A:=b [G,F] 41 2 false;let B:=kh (vL (fL l)) 0;(((t.same t/\v.same v/\w.same w/\(e sF (fL l)).same (e sF (fL l))/\(a E).same y/\z.same F/\True)/\n.same n/\o.same o/\q.same q/\r.same r/\(b [G,z] 41 2 false).same A/\(c j [] 3 true).same (c j B 3 true)/\(b [f 5 0 1,z] 41 2 false).same (b [f 5 B.length 1,a (ly p B)] 41 2 false)/\True)/\d<=d/\d<=k)/\∀(x:Int),let s:=x+(1:Int);let H:=a s;let C:=kh (vL (fL l)) s.toNat;let D:=bj (fL l) x.toNat sF.dflt;let I:=(D.fst,D.snd.fst,D.snd.snd);let h:=kh (vL (fL l)) x.toNat;let J:=h.length+1;let K:=ly p h+(bj p.offers x.toNat bn.off.dflt).value;let L:=λ(u:bq) (u_1:Nat) (u_2:Int) ↦bX .i64 s/\((t.same t/\v.same v/\w.same w/\(e sF (fL l)).same (e sF (fL l))/\y.same y/\H.same H/\True)/\n.same n/\o.same o/\q.same q/\r.same r/\A.same A/\u.same (c j C 3 true)/\(b [f 5 u_1 1,a u_2] 41 2 false).same (b [f 5 C.length 1,a (ly p C)] 41 2 false)/\True)/\(d<=s/\s<=k)/\(k - s).toNat<(k - x).toNat;let M:=λ(u:Bool) ↦decide (d<kC (cj I))=u;d<=x/\x<=k->(decide (x<k)=true->d<=x/\x<E/\x.toNat<(fL l).length/\cY I/\(M true->1=1/\h.length=h.length/\J*8<=140737488355328/\J<=1000000000000/\d<=x/\x<(↑p.offers.length:Int)/\x.toNat<p.offers.length/\bX .i64 K/\L (c j (h++[x]) 3 true) (h++[x]).length K)/\(M false->L (c j h 3 true) h.length (ly p h)))/\(decide (x<k)=false->h.length=h.length/\h.length=h.length/\h.length=h.length/\(γK [e j h,a (ly p h)]).same (γK [e j (eD (vL (fL l))),a (ck (γh (oI p) (eD (vL (fL l)))))])/\n.same n/\o.same o/\q.same q/\r.same r/\True)) (by kernel_rfl) ?_
  simp only[vcs]
  have lx:∀{x y:List Int},x=y->(bq.row (.i .i64) x 3 true).same (bq.row (.i .i64) y 3 true):=by rintro _ _ rfl;rfl
  have hcI:∀{x y:List Int} {v w:Int},x=y->v=w->(bq.cells [.ow 5 x.length 1,.si .i64 v] 41 2 false).same (bq.cells [.ow 5 y.length 1,.si .i64 w] 41 2 false):=by rintro _ _ _ _ rfl rfl;rfl
  refine⟨⟨⟨rfl,lx rfl,rfl⟩,by omega,by omega⟩,?_⟩
  rintro i ⟨i0,i1⟩
  have hb:=@UR p (vL (fL l)) i.toNat hc (by omega)
  refine⟨λhi=>?_,λhi=>?_⟩
  ·have hv:bj (fL l) i.toNat sF.dflt=bu (bj l i.toNat 0):=jm (by omega)
   have hq:=hz _ (de (d:=0) (show i.toNat<l.length by omega))
   have ho:=(oZ hc (i:=i) (by omega)).2.2.2
   have hval:(bj p.offers i.toNat bn.off.dflt).value=(oI p i).value:=rfl
   have hs:=@UQ (vL (fL l)) i i0
   rw[hv,hval];rw[lV] at hs hb ⊢;simp only[kF,eW,ya]
   refine⟨i0,hi,by omega,ei hq (by omega),λh=>?_,λh=>?_⟩
   ·rw[if_pos h] at hs
    rw[hs,US]
    refine⟨?_,?_,i0,?_,?_,?_,?_,⟨lx rfl,hcI rfl rfl⟩,?_,?_⟩<;>omega
   ·rw[if_neg h] at hs
    rw[hs]
    refine⟨?_,⟨lx rfl,hcI rfl rfl⟩,?_,?_⟩<;>omega
  ·rw[show i.toNat=(vL (fL l)).length by rw[lV];omega]
   rfl
def Lj:bM:=⟨120,List bO,.one (dN sF),o8,λx=> .bH [.si .i64 ((jv (vL x)).getD 0),.sb (jv (vL x)).isSome]⟩
def ki:Option (Int×Rat)->bO
 |none=>(false,([],[]))
 |some (_,q)=>bu q
def vX:Option (Int×Rat)->Int
 |none=>0
 |some (i,_)=>i
def ae3 (x:List bO):Nat->cB
 |6=> .inv Int (λi=>⟨[(4,.ptr 0 0 3),(6,.ptr 1 0 3),(7,.ptr 2 0 2),(8,.ptr 3 0 3),(17,.row sF x),(18,.si .i64 x.length),(19,.si .i64 i)],
   [.cells [.sb (bu (fE false 1 2)).1,.row (.i .u32) (bu (fE false 1 2)).2.1,.row (.i .u32) (bu (fE false 1 2)).2.2] 157 3 false,
    .cells [.sb (bu ((1:Int):Rat)).1,.row (.i .u32) (bu ((1:Int):Rat)).2.1,.row (.i .u32) (bu ((1:Int):Rat)).2.2] 157 3 false,
    .cells [.sb (jb (vL x) i.toNat).isSome,.si .i64 (vX (jb (vL x) i.toNat))] 237 2 false,
    .cells [.sb (ki (jb (vL x) i.toNat)).1,.row (.i .u32) (ki (jb (vL x) i.toNat)).2.1,.row (.i .u32) (ki (jb (vL x) i.toNat)).2.2] 157 3 false,.dead,.dead]⟩)
   (λs=>iS s 19) (λi=>0<=i/\i<=x.length) (λi=>(x.length - i).toNat) λ_ _=> .look
 |_=> .look
theorem ae4 {q:Rat} {k:Nat} (h:Sz k q):Sz k (mM q):=by
 grind[mM,DL]
theorem UT:mkRat 1 2=(1 / 2:Rat):=by
 grind[Rat.mkRat_eq_div]
theorem UU:Sz 1 (1 / 2:Rat):=by
 grind[UT,zY]
theorem Ll {q:Rat} (h:Sz 1000 q):Sz 1002 (q - 1 / 2):=by
 rw[Rat.sub_eq_add_neg]
 exact Ry h (j:=1) (DL UU)
theorem h447:Holds Tryz.prog Lj:=by
 refine cK (L:=[K7,qB,xR,ug,Ab,DX,xQ]) Lj ae3 (by simpa using⟨h451,h94,h407,h99,h97,h95,h130⟩) ?_
 rintro(x:List bO) ⟨l,hx,hl,hz⟩
 refine bR (let a:=bq.cells;let b:=Φ;let c:=(0:Int);let d:=γe .i64;let e:=(9223372036854775807:Int);let f:=γI;let g:=(-9223372036854775808:Int);let h:=(1:Int);let j:=bX .i64;let k:=γW;let l:=δs false;let m:=(2:Int);let n:=bn.i .u32;let r:=k 0 0 3;let s:=k 1 0 3;let t:=k 2 0 2;let v:=k 3 0 3;let o:=(↑x.length:Int);let w:=d o;let R:=γq .i64 0;let y:=fE false h m;let z:=Ω h;let F:=jb (vL x) 0;let B:=a [f (bu y).fst,b n (bu y).snd.fst,b n (bu y).snd.snd] 157 3 false;let C:=a [f (bu z).fst,b n (bu z).snd.fst,b n (bu z).snd.snd] 157 3 false;let S:=((bu z).fst,(bu z).snd.fst,(bu z).snd.snd);let T:=((bu y).fst,(bu y).snd.fst,(bu y).snd.snd);let U:=λ(u:Rat) ↦(a [f (bu u).fst,b n (bu u).snd.fst,b n (bu u).snd.snd] 157 3 false).same (a [f (bu u).fst,b n (bu u).snd.fst,b n (bu u).snd.snd] 157 3 false);((g<=h/\h<=e)/\c<m/\m<=e)/\(g<=h/\h<=e)/\0=0/\0=0/\(((r.same r/\s.same s/\t.same t/\v.same v/\(b sF x).same (b sF x)/\(d (↑x.length:Int)).same w/\R.same (d 0)/\True)/\U y/\U z/\(a [l,R] 237 2 false).same (a [f F.isSome,d (vX F)] 237 2 false)/\(a [l,b n [],b n []] 157 3 false).same (a [f (ki F).fst,b n (ki F).snd.fst,b n (ki F).snd.snd] 157 3 false)/\bq.dead.same bq.dead/\bq.dead.same bq.dead/\True)/\c<=c/\c<=o)/\∀(x_1:Int),let p:=x_1+h;let D:=d p;let G:=jb (vL x) p.toNat;let N:=a [f G.isSome,d (vX G)] 237 2 false;let A:=bj x x_1.toNat sF.dflt;let H:=(A.fst,A.snd.fst,A.snd.snd);let E:=bu (cj H - cj T);let I:=(E.fst,E.snd.fst,E.snd.snd);let V:=(bu (-cj I)).fst;let K:=(bu (-cj I)).snd;let O:=a [f (ki G).fst,b n (ki G).snd.fst,b n (ki G).snd.snd] 157 3 false;let q:=jb (vL x) x_1.toNat;let W:=d (vX q);let X:=(V,K.fst,K.snd);let L:=((ki q).fst,(ki q).snd.fst,(ki q).snd.snd);let M:=q.isSome==false&&(decide (vX q=c)&&true);let Y:=j p/\((r.same r/\s.same s/\t.same t/\v.same v/\(b sF x).same (b sF x)/\w.same w/\D.same D/\True)/\B.same B/\C.same C/\(a [δs true,d x_1] 237 2 false).same N/\(a [f V,b n K.fst,b n K.snd] 157 3 false).same O/\bq.dead.same bq.dead/\bq.dead.same bq.dead/\True)/\(c<=p/\p<=o)/\(o - p).toNat<(o - x_1).toNat;let Z:=j p/\((r.same r/\s.same s/\t.same t/\v.same v/\(b sF x).same (b sF x)/\w.same w/\D.same D/\True)/\B.same B/\C.same C/\(a [δs true,d x_1] 237 2 false).same N/\(a [f E.fst,b n E.snd.fst,b n E.snd.snd] 157 3 false).same O/\bq.dead.same bq.dead/\bq.dead.same bq.dead/\True)/\(c<=p/\p<=o)/\(o - p).toNat<(o - x_1).toNat;let J:=j p/\((r.same r/\s.same s/\t.same t/\v.same v/\(b sF x).same (b sF x)/\w.same w/\D.same D/\True)/\B.same B/\C.same C/\(a [f q.isSome,W] 237 2 false).same N/\(a [f (ki q).fst,b n (ki q).snd.fst,b n (ki q).snd.snd] 157 3 false).same O/\bq.dead.same bq.dead/\bq.dead.same bq.dead/\True)/\(c<=p/\p<=o)/\(o - p).toNat<(o - x_1).toNat;let P:=cY I;let Q:=cY H;let a0:=λ(u:Bool) ↦decide (i7 (cj X) (cj L)<c)=u;let a1:=λ(u:Bool) ↦decide (i7 (cj I) (cj L)<c)=u;let a2:=λ(u:Bool) ↦decide (kC (cj I)<c)=u;let a3:=λ(u:Bool) ↦decide (c<=i7 (cj H) (cj S))=u;let a4:=λ(u:Bool) ↦decide (kC (cj H)<=c)=u;let a5:=λ(u:Bool) ↦(!okF H)=u;c<=x_1/\x_1<=o->(decide (x_1<o)=true->c<=x_1/\x_1<(↑x.length:Int)/\x_1.toNat<x.length/\((bA A.snd.fst/\bA A.snd.snd)/\γo A.snd.fst<=1000000/\γo A.snd.snd<=1000000)/\(a5 true->J)/\(a5 false->Q/\(a4 true->J)/\(a4 false->(Q/\cY S)/\(a3 true->J)/\(a3 false->(Q/\cY T)/\P/\(a2 true->P/\(M=true->Y)/\(M=false->(cY X/\cY L)/\(a0 true->Y)/\(a0 false->J)))/\(a2 false->(M=true->Z)/\(M=false->(P/\cY L)/\(a1 true->Z)/\(a1 false->J)))))))/\(decide (x_1<o)=false->(SV.bH [W,f q.isSome]).same (SV.bH [d ((jv (vL x)).getD c),f (jv (vL x)).isSome]))) (by kernel_rfl) ?_
 simp only[vcs];subst hx;rw[fJ] at hl
 have hh:fE false 1 2=1 / 2:=UT
 simp only[lV,fJ,hh]
 have hbr:∀{b c:Option (Int×Rat)},b=c->(bq.cells [.sb b.isSome,.si .i64 (vX b)] 237 2 false).same (bq.cells [.sb c.isSome,.si .i64 (vX c)] 237 2 false):=by rintro _ _ rfl;rfl
 have hbd:∀{b c:Option (Int×Rat)},b=c->(bq.cells [.sb (ki b).1,.row (.i .u32) (ki b).2.1,.row (.i .u32) (ki b).2.2] 157 3 false).same (bq.cells [.sb (ki c).1,.row (.i .u32) (ki c).2.1,.row (.i .u32) (ki c).2.2] 157 3 false):=by rintro _ _ rfl;rfl
 have f1:cY (bu (Ω 1)):=ei (k:=1) (by unfold Sz;decide) (by omega)
 have f2:cY (bu (1 / 2)):=ei UU (by omega)
 refine⟨⟨⟨by omega,by omega⟩,by omega,by omega⟩,⟨by omega,by omega⟩,⟨⟨rfl,rfl⟩,by omega,by omega⟩,?_⟩
 rintro i ⟨i0,i1⟩
 refine⟨λhi=>?_,λhi=>?_⟩
 ·have hv:bj (fL l) i.toNat sF.dflt=bu (bj l i.toNat 0):=jm (by omega)
  have hq:=hz _ (de (d:=0) (show i.toNat<l.length by omega))
  have hs:jb l (i+1).toNat=if 0<bj l i.toNat 0/\bj l i.toNat 0<1 then(match jb l i.toNat with
   |none=>some (i,mM (bj l i.toNat 0 - 1 / 2))
   |some (j,d)=>if mM (bj l i.toNat 0 - 1 / 2)<d then some (i,mM (bj l i.toNat 0 - 1 / 2)) else some (j,d)) else jb l i.toNat:=by
   rw[show(i+1).toNat=i.toNat+1 by omega]
   conv=>lhs;unfold jb
   rw[εB i0]
   cases jb l i.toNat<;>rfl
  have hbs:∀j d,jb l i.toNat=some (j,d)->cY (bu d):=λj d h=>by
   obtain⟨h1,h2,h3⟩:=K2 h
   rw[h3]
   exact ei (ae4 (Ll (hz _ (de (by omega))))) (by omega)
  rw[hv,hs]
  generalize bj l i.toNat 0=q at*
  generalize jb l i.toNat=B at*
  simp only[kF,eW]
  obtain⟨_,⟨u1,u2,u3⟩,⟨u4,u5,u6⟩⟩:=nk q
  obtain⟨m1,m2⟩:=qC hq
  have hok:=UM q
  have fq:cY (bu q):=ei hq (by omega)
  have fd:cY (bu (q - 1 / 2)):=ei (Ll hq) (by omega)
  have fn:cY (bu (-(q - 1 / 2))):=ei (DL (Ll hq)) (by omega)
  refine⟨i0,hi,by omega,⟨⟨u1,u4⟩,by omega,by omega⟩,λh=>absurd hok (by rw[show okF (bu q)=false from h];simp),λ_=>⟨fq,λh1=>?_,λh1=>⟨⟨fq,f1⟩,λh2=>?_,λh2=>?_⟩⟩⟩
  ·rw[if_neg (λh=>by have:=ya.2 h.1;omega)]
   exact⟨by omega,⟨hbr rfl,hbd rfl⟩,by omega⟩
  ·rw[if_neg (λh=>by have:=uw.2 h.2;have e:i7 q (Ω 1)=i7 q 1:=rfl;omega)]
   exact⟨by omega,⟨hbr rfl,hbd rfl⟩,by omega⟩
  ·have hp:0<q/\q<1:=⟨ya.1 (by omega),uw.1 (by have e:i7 q (Ω 1)=i7 q 1:=rfl;omega)⟩
   rw[if_pos hp]
   refine⟨⟨fq,f2⟩,fd,λh3=>?_,λh3=>?_⟩
   ·have ha:mM (q - 1 / 2)= -(q - 1 / 2):=by unfold mM;rw[if_pos (JC.1 h3)]
    rw[ha]
    cases B with
    |none=>exact⟨fd,λ_=>⟨by omega,⟨rfl,rfl⟩,by omega⟩,λh=>absurd h (by decide)⟩
    |some b=>
     obtain⟨j,d⟩:=b
     dsimp only
     refine⟨fd,λh=>absurd h.1 ζS,λ_=>⟨⟨fn,hbs j d rfl⟩,λh5=>?_,λh5=>?_⟩⟩
     ·rw[if_pos (uw.1 (by rw[<-eW d];exact h5))]
      exact⟨by omega,⟨rfl,rfl⟩,by omega⟩
     ·rw[if_neg (λh=>h5 (by rw[<-eW d] at h;exact uw.2 h))]
      exact⟨by omega,⟨hbr rfl,hbd rfl⟩,by omega⟩
   ·have ha:mM (q - 1 / 2)=q - 1 / 2:=by unfold mM;rw[if_neg (λh=>h3 (JC.2 h))]
    rw[ha]
    cases B with
    |none=>exact⟨λ_=>⟨by omega,⟨rfl,rfl⟩,by omega⟩,λh=>absurd h (by decide)⟩
    |some b=>
     obtain⟨j,d⟩:=b
     dsimp only
     refine⟨λh=>absurd h.1 ζS,λ_=>⟨⟨fd,hbs j d rfl⟩,λh5=>?_,λh5=>?_⟩⟩
     ·rw[if_pos (uw.1 (by rw[<-eW d];exact h5))]
      exact⟨by omega,⟨rfl,rfl⟩,by omega⟩
     ·rw[if_neg (λh=>h5 (by rw[<-eW d] at h;exact uw.2 h))]
      exact⟨by omega,⟨hbr rfl,hbd rfl⟩,by omega⟩
 ·rw[show i.toNat=l.length by omega]
  unfold jv
  cases jb l l.length<;>exact⟨rfl,rfl⟩
noncomputable def vY (n:Nat):cV:=EZ 84 Int (.one (ez .i64)) (λx a=>eZ x/\(0<=a/\a<x.prf.length)/\nF x.fx<n) (λ_ _=> .bH []) λx a=>x.upd (dB x.p (cq x.en) x.most (nF x.fx) x.s a x.fx)
noncomputable def E3 (n:Nat):cV:=EZ 121 (Int×Int×Int) (.cons (ez .i64) (.cons (ez .i64) (.one (ez .i64)))) (λx a=>eZ x/\(0<=a.1/\a.1<x.prf.length)/\(0<=a.2.1/\a.2.1<x.fx.length)/\bj x.fx a.2.1.toNat 0=0/\(a.2.2=1\/a.2.2= -1)/\nF (x.fx.set a.2.1.toNat a.2.2)<n) (λ_ _=> .bH []) λx a=>x.upd (dB x.p (cq x.en) x.most (nF (x.fx.set a.2.1.toNat a.2.2)) x.s a.1 (x.fx.set a.2.1.toNat a.2.2))
theorem agt {L:List bM} {W:List cV} (c:cV) (Λ:c.α->Nat->cB) (i:∀c∈W,dK Tryz.prog c) (e:∀c∈L,Holds Tryz.prog c)
  
  (h:∀a,c.dom a->Vc (AY (lJ L (fY W) oJ oK gv) (Λ a) (fG c.f) (c.put a) (c.st a) λv s=>v.same (c.res a)/\ji s (c.out a))) (j:(gv c.f).isSome=true:=by kernel_rfl) (b:∀a,(c.put a).length=(fG c.f).params:=by intro _;kernel_rfl) (d:kR c.f W=none:=by kernel_rfl):dK Tryz.prog c:=
 λa g=>UL c pD i e (vp j) b a d (h a g).out
theorem ae5 {L:List bM} {W:List cV} (c:cV) (F:fb) (Λ:c.α->Nat->cB) (i:∀c∈W,dK Tryz.prog c) (e:∀c∈L,Holds Tryz.prog c)
  
  (h:∀a,c.dom a->Vc (AY (lJ L (fY W) oJ oK gv) (Λ a) F (c.put a) (c.st a) λv s=>v.same (c.res a)/\ji s (c.out a))) (j:gv c.f=some F:=by kernel_rfl) (b:∀a,(c.put a).length=F.params:=by intro _;kernel_rfl) (d:kR c.f W=none:=by kernel_rfl):dK Tryz.prog c:=
 λa g=>UL c pD i e j b a d (h a g).out
theorem eZ.set {x:dD} (h:eZ x) {k:Nat} {d:Int} (a:d=1\/d= -1):eZ ⟨x.p,x.ch,x.val,x.found,x.en,x.k1,x.k2,x.most,x.err,x.prf,x.fx.set k d⟩:=
 ⟨⟨h.f.c,by rw[γb];exact h.f.l,UE h.f.r (by omega)⟩,h.k1,by rw[γb];exact h.k2,h.v0,h.v1,h.m0,h.m1,h.l,h.c⟩
theorem ae6 {f:List Int} {k:Nat} {d:Int} (b:k<f.length) (a:bj f k 0=0):(f.set k d).set k 0=f:=by
 rw[cO b] at a;rw[List.set_set,<-a,List.set_getElem_self]
theorem ae7 {n:Nat} (hV:dK Tryz.prog (vY n)):dK Tryz.prog (E3 n):=by
 refine ae5 (L:=[]) (W:=[vY n]) (E3 n) (fG 121) lk (by simpa using hV) (by simp) ?_
 rintro⟨⟨p,ch,val,found,en,k1,k2,most,err,prf,fx⟩,a,k,d⟩ ⟨hok,ha,hk,h0,hd,hn⟩
 simp only at hok ha hk h0 hd hn
 have e2:k2=fx.length:=hok.k2
 have hb:=ae6 (d:=d) (show k.toNat<fx.length by omega) h0
 have hr:∀{x y:List Int},x=y->(bq.row (.i .i64) x 3 true).same (bq.row (.i .i64) y 3 true):=by rintro _ _ rfl;rfl
 cases en with
 |none=>
  have hs:=hok.set (k:=k.toNat) hd
  refine bR (let b:=γe .i64;let c:=(0:Int);let e:=bq.row;let f:=Φ;let g:=fx.set k.toNat d;let j:=bn.i .i64;let h:=dB p (cq none) most (nF g) (cH.mk ch val found prf err) a g;let l:=bq.cells [b p.supply.a0,b p.supply.a1,b p.supply.a2,b p.supply.a3,b p.supply.a4,b p.supply.a5,b p.opn.a0,b p.opn.a1,b p.opn.a2,b p.opn.a3,b p.opn.a4,b p.opn.a5,b p.cls.a0,b p.cls.a1,b p.cls.a2,b p.cls.a3,b p.cls.a4,b p.cls.a5,f j p.classes,f bn.off p.offers,f j h.ch,b h.val,γI h.found,ζr (Fn.func 82) [] [],γ8 1 h.prf.length 5,γ8 2 k2 1,b most,b h.err] 119 28 false;let m:=e ek h.prf 93 true;k2=fx.length/\c<=k/\k<(↑fx.length:Int)/\k2=fx.length/\k.toNat<fx.length/\(eZ (dD.mk p ch val found none k1 k2 most err prf g)/\(c<=a/\a<(↑prf.length:Int))/\nF g<n)/\k2=g.length/\c<=k/\k<(↑g.length:Int)/\k2=g.length/\k.toNat<g.length/\(SV.bH []).same (SV.bH [])/\l.same l/\m.same m/\(e j (g.set k.toNat c) 3 true).same (e j fx 3 true)/\True) (by kernel_rfl) ?_
  conv=>zeta
  rw[γb]
  exact⟨e2,hk.1,hk.2,e2,by omega,⟨hs,ha,hn⟩,e2,hk.1,hk.2,e2,by omega,rfl,rfl,rfl,hr hb,trivial⟩
 |some m=>
  have hs:=hok.set (k:=k.toNat) hd
  refine bR (let b:=γe .i64;let c:=(0:Int);let e:=bq.row;let f:=Φ;let g:=fx.set k.toNat d;let j:=bn.i .i64;let h:=dB p (cq (some m)) most (nF g) (cH.mk ch val found prf err) a g;let l:=bq.cells [b p.supply.a0,b p.supply.a1,b p.supply.a2,b p.supply.a3,b p.supply.a4,b p.supply.a5,b p.opn.a0,b p.opn.a1,b p.opn.a2,b p.opn.a3,b p.opn.a4,b p.opn.a5,b p.cls.a0,b p.cls.a1,b p.cls.a2,b p.cls.a3,b p.cls.a4,b p.cls.a5,f j p.classes,f bn.off p.offers,f j h.ch,b h.val,γI h.found,ζr (Fn.func 132) [] [γW 1 0 1],γ8 2 h.prf.length 5,γ8 3 k2 1,b most,b h.err] 119 28 false;let o:=bq.cells [b m] 2 1 false;let q:=e ek h.prf 93 true;k2=fx.length/\c<=k/\k<(↑fx.length:Int)/\k2=fx.length/\k.toNat<fx.length/\(eZ (dD.mk p ch val found (some m) k1 k2 most err prf g)/\(c<=a/\a<(↑prf.length:Int))/\nF g<n)/\k2=g.length/\c<=k/\k<(↑g.length:Int)/\k2=g.length/\k.toNat<g.length/\(SV.bH []).same (SV.bH [])/\l.same l/\o.same o/\q.same q/\(e j (g.set k.toNat c) 3 true).same (e j fx 3 true)/\True) (by kernel_rfl) ?_
  conv=>zeta
  rw[γb]
  exact⟨e2,hk.1,hk.2,e2,by omega,⟨hs,ha,hn⟩,e2,hk.1,hk.2,e2,by omega,rfl,rfl,rfl,rfl,hr hb,trivial⟩
theorem UW {p:bp} {en:Int->Bool} {most:Int} {f:List Int} (j:eQ p f) {c b:cH->Int->List Int->cH} {s:cH} {a:Int}
  (h:∀k d:Int,(0<=k/\k<f.length)->bj f k.toNat 0=0->(d=1\/d= -1)->∀s a,c s a (f.set k.toNat d)=b s a (f.set k.toNat d)):fp p en most c s a f=fp p en most b s a f:=by
 unfold fp;split
 ·rfl
 split
 ·rfl
 rename_i o
 have l:iw p f=true:=by simp_all
 split
 ·rfl
 split
 ·rfl
 rename_i k n;split
 ·rfl
 obtain⟨e,i,g⟩:=sQ n
 rw[rI] at e
 have m:bj f k.toNat 0=0:=sP (j.ok l) j.r (by omega) i g
 simp_all
theorem A1 {p:bp} {en:Int->Bool} {most:Int} {f:List Int} (e:eQ p f) {s:cH} {a:Int}:dB p en most (nF f) s a f=fp p en most (λs a g=>dB p en most (nF g) s a g) s a f:=by
 have j:∀k d:Int,(0<=k/\k<f.length)->bj f k.toNat 0=0->(d=1\/d= -1)->nF f=nF (f.set k.toNat d)+1:=λk d c b i=>me c b (by omega)
 cases h:nF f with
 |zero=>exact UW e λk d c b i=>by grind
 |succ n=>
  refine UW e λk d c b i s a=>?_
  grind
section
variable {p:bp} {en:Int->Bool} {most:Int} {f:List Int} {s O:cH} {a k:Int}
theorem A2 (b:eQ p f) (h:s.err≠0\/s.found=true):dB p en most (nF f) s a f=s:=by
 simp_all[A1,fp]
theorem UX (c:eQ p f) (h:¬(s.err≠0\/s.found=true)) (b:iw p f=false):dB p en most (nF f) s a f={s with prf:=s.prf.set a.toNat ES}:=by
 simp_all[A1,fp]
theorem yy (c:eQ p f) (h:¬(s.err≠0\/s.found=true)) (b:iw p f=true) (d:dh p en s f=O) (e:jN p f<((O.val+1:Int):Rat)):dB p en most (nF f) s a f={O with prf:=O.prf.set a.toNat (K1 p f)}:=by
 simp_all[A1,fp]
theorem pO (b:eQ p f) (h:¬(s.err≠0\/s.found=true)) (d:iw p f=true) (c:dh p en s f=O) (g:¬jN p f<((O.val+1:Int):Rat)) (e:jv (dr p f)=none\/most<(O.prf.length:Int)+2):dB p en most (nF f) s a f={O with err:=12}:=by
 subst c;rw[A1 b];unfold fp
 grind
theorem yz (d:eQ p f) (h:¬(s.err≠0\/s.found=true)) (b:iw p f=true) (g:dh p en s f=O) (i:¬jN p f<((O.val+1:Int):Rat)) (c:jv (dr p f)=some k) (e:¬most<(O.prf.length:Int)+2):
  dB p en most (nF f) s a f=dB p en most (nF (f.set k.toNat (-1))) (dB p en most (nF (f.set k.toNat 1)) (gp O a k) (O.prf.length+1) (f.set k.toNat 1)) O.prf.length (f.set k.toNat (-1)):=by
 simp_all[A1,fp,if_neg]
end
theorem eZ.UY {x:dD} (h:eZ x):eZ (x.upd (dh x.p (cq x.en) x.s x.fx)):=by
 obtain⟨d,i,b,a,g⟩:=@EU x.p (cq x.en) x.s x.fx
 obtain⟨m,j,k⟩:=UF h.f
 have b:x.val<=(dh x.p (cq x.en) x.s x.fx).val:=b
 have a:(dh x.p (cq x.en) x.s x.fx).val=x.val\/(dh x.p (cq x.en) x.s x.fx).val=(o7 x.p x.fx).value:=a
 have n:=h.v0
 have o:=h.v1
 refine⟨h.f,rfl,h.k2,?_,?_,h.m0,h.m1,?_,?_⟩
 ·show 0<=(dh x.p (cq x.en) x.s x.fx).val
  omega
 ·show(dh x.p (cq x.en) x.s x.fx).val<=_
  omega
 ·show(dh x.p (cq x.en) x.s x.fx).prf.length<=_
  rw[d];exact h.l
 ·show(dh x.p (cq x.en) x.s x.fx).ch.length<=_
  rcases g with e|e
  ·rw[e];exact h.c
  ·rw[e];omega
theorem eZ.vis {x:dD} (h:eZ x) {f:List Int} (i:eQ x.p f) {n:Nat} {a:Int}:eZ (x.upd (dB x.p (cq x.en) x.most n x.s a f)):=by
 obtain⟨m,g,b,d,k,q⟩:=@rJ x.p (cq x.en) x.most n x.s a f i
 have b:x.val<=(dB x.p (cq x.en) x.most n x.s a f).val:=b
 have d:(dB x.p (cq x.en) x.most n x.s a f).val=x.val\/(dB x.p (cq x.en) x.most n x.s a f).val<=160000000:=d
 have r:=h.v0
 have t:=h.v1
 have o:=h.m1
 have j:=h.l
 refine⟨h.f,rfl,h.k2,?_,?_,h.m0,h.m1,?_,?_⟩
 ·show 0<=(dB x.p (cq x.en) x.most n x.s a f).val
  omega
 ·show(dB x.p (cq x.en) x.most n x.s a f).val<=_
  omega
 ·show(dB x.p (cq x.en) x.most n x.s a f).prf.length<=_
  rcases g with e|e
  ·omega
  ·rw[e];exact j
 ·show(dB x.p (cq x.en) x.most n x.s a f).ch.length<=_
  rcases k with e|e
  ·rw[e];exact h.c
  ·omega
theorem eZ.spl {x:dD} (h:eZ x) (b:¬x.most<(x.prf.length:Int)+2) {k:Nat} {l:List qJ} (a:k=l.length) (d:l.length=x.prf.length+2):eZ ⟨x.p,x.ch,x.val,x.found,x.en,k,x.k2,x.most,x.err,l,x.fx⟩:=
 ⟨h.f,a,h.k2,h.v0,h.v1,h.m0,h.m1,by have:=h.m1;grind,h.c⟩
def ix (p:bp):List Int:=ε p.offers.length 0
theorem yA {n:Nat}:nF (ε n 0)=n:=by
 have e:bE (ε n 0) 0=dT n:=by
  simp_all[bE,rD,cO]
 grind[js]
theorem pP {p:bp} (a:bC p=0):eQ p (ix p) where
 c:=a
 l:=List.length_replicate
 r:=by
  unfold jL;rw[Θ];intro x b;rw[List.eq_of_mem_replicate b]
  decide
def jw (p:bp) (c:List Int):cH:=dU (cq none) (dU (cq none) ⟨c,eC p c,false,[zN],0⟩ (gn p c)) (gn p (jK p))
noncomputable def iy (p:bp) (c:List Int) (most:Int):cH:=dB p (cq none) most p.offers.length (jw p c) 0 (ix p)
noncomputable def kj (p:bp) (c:List Int) (most:Int):Int:=if cM p c≠0 then cM p c else if most<1\/65536<most then 4 else(iy p c most).err
def jy (p:bp) (m:Int):cH:=dU (cq (some m)) ⟨[],m - 1,false,[zN],0⟩ (gn p (jK p))
noncomputable def fK (p:bp) (m most:Int):cH:=dB p (cq (some m)) most p.offers.length (jy p m) 0 (ix p)
noncomputable def iP (p:bp) (m most:Int):Int:=if bC p≠0 then bC p else if most<1\/65536<most then 4 else if m<=0 then 0 else if(fK p m most).found=true then 0 else(fK p m most).err
noncomputable def jP (p:bp) (m most:Int):Bool:=decide (iP p m most=0)&&(decide (m<=0)||(fK p m most).found)
noncomputable def oa (p:bp) (m most:Int):Alloc:=if jP p m most=true/\0<m then⟨(fK p m most).ch,(fK p m most).val⟩ else⟨[],0⟩
theorem UZ {p:bp} (a:bC p=0) {t:List Int} (h:cM p t=0):eC p t<=(bZ p).value:=by
 have b:=(zH a).1 h
 obtain⟨_,d⟩:=uq h
 have c:=Iu (dL a) b.1 (decide_eq_true b.2)
 rw[yv a d];exact c
theorem U0 {p:bp} (a:bC p=0):∃t,cM p t=0/\eC p t=(bZ p).value:=by
 obtain⟨t,c,f,e⟩:=Iw (dL a)
 have b:cM p t=0:=(zH a).2 ⟨c,of_decide_eq_true f⟩
 obtain⟨_,d⟩:=uq b
 refine⟨t,b,?_⟩
 rw[yv a d,e];rfl
theorem ae8 {p:bp} {l:List Int} (h:fi p.offers.length l):EV (ix p) l:=by
 have b:∀i:Int,0<=i/\i<p.offers.length->bj (ix p) i.toNat 0=0:=λi a=>by
  grind[ix,cO]
 refine⟨λi a=>by rw[b i (h.2 i a)];omega,λi a=>?_⟩
 grind[l8,ix]
theorem U1 {p:bp} {v:Int} {t:List qJ} {a lo f:Nat} (b:bC p=0) (h:mf p v t a (ix p) lo f):(bZ p).value<=v:=by
 obtain⟨l,d,e⟩:=U0 b
 obtain⟨_,c⟩:=uq d
 rw[<-e,yv b c]
 exact h.sound (pP b) c ((UG b c).1 d) (ae8 c)
theorem yB {en:Int->Bool} {G:List Int->Int->Bool->Prop} {p:bp} (h:∀c w b d w',G c w b->cM p d=0->eC p d=w'->w<w'->G d w' (b||en w')) {s:cH} {a:Alloc} (e:G s.ch s.val s.found) (f:cM p a.chosen=0) (g:eC p a.chosen=a.value):G (dU en s a).ch (dU en s a).val (dU en s a).found:=by
 grind[dU]
theorem A4 {p:bp} (a:bC p=0):cM p (gn p (jK p)).chosen=0/\eC p (gn p (jK p)).chosen=(gn p (jK p)).value:=by
 simp_all[Kx,TL]
theorem Lm {p:bp} (d:bC p=0) {c:List Int} (h:cM p c=0) {most:Int} {G:List Int->Int->Bool->Prop} (a:∀c w b e w',G c w b->cM p e=0->eC p e=w'->w<w'->G e w' (b||cq none w')) (i:G c (eC p c) false):G (iy p c most).ch (iy p c most).val (iy p c most).found:=by
 have f:=Kx d h
 have g:=A4 d
 exact UJ a (pP d) (yB a (yB a i f.2.1 f.2.2.1) g.1 g.2)
theorem Ln {p:bp} {c:List Int}:(jw p c).prf=[zN]/\(jw p c).err=0/\eC p c<=(jw p c).val:=by
 grind[jw,dU]
theorem U2 {p:bp} (d:bC p=0) {c:List Int} (i:cM p c=0) {most:Int} (C:1<=most):
  ((iy p c most).err=0\/(iy p c most).err=12)/\((iy p c most).err=0->(cM p (iy p c most).ch=0/\eC p (iy p c most).ch=(iy p c most).val)/\(iy p c most).val=(bZ p).value/\(iy p c most).prf.length<=most/\mf p (bZ p).value (iy p c most).prf 0 (ix p) 1 (iy p c most).prf.length/\(eC p c=(bZ p).value->(iy p c most).ch=c))/\
   (((1+2^(p.offers.length+1):Nat):Int)<=most+2->(iy p c most).err=0):=by
 obtain⟨y,l,A⟩:=@Ln p c
 have t:(jw p c).prf.length=1:=by rw[y];rfl
 have q:=@rJ p (cq none) most p.offers.length (jw p c) 0 (ix p) (pP d)
 have j:(iy p c most).found=false:=by
  refine(Lm d i (most:=most) (G:=λ_ _ b=>b=false) (λc w b g o h _ _ _=>?_) rfl)
  rw[h];rfl
 refine⟨?_,λx=>?_,λB=>?_⟩
 ·have:=q.2.2.2.2.2
  rw[l] at this;exact this
 ·have v:=Lm d i (most:=most) (G:=λc w _=>cM p c=0/\eC p c=w) (λc w b g o _ k m _=>⟨k,m⟩) ⟨i,rfl⟩
  have u:=Lm d i (most:=most) (G:=λg w _=>eC p c<=w/\(w=eC p c->g=c)) (λD w b g o h _ _ r=>⟨by omega,λe=>by omega⟩) ⟨Int.le_refl _,λ_=>rfl⟩
  have z:=UI (p:=p) (en:=cq none) (most:=most) (n:=p.offers.length) (s:=jw p c) (a:=0) (pP d) (by show nF (ε _ 0)<=_;grind[yA]) (by rw[t];omega) x j
  have k:=U1 d z.1
  have m:=UZ d v.1
  grind[iy]
 ·refine(UK (p:=p) (en:=cq none) (most:=most) (n:=p.offers.length) (s:=jw p c) (a:=0) (f:=ix p) (pP d) ?_ l ?_).1
  all_goals simp_all[yA,ix]
theorem ae9 {p:bp} (i:bC p=0) {m most:Int}:((fK p m most).found=false->(fK p m most).ch=[]/\(fK p m most).val=m - 1)/\((fK p m most).found=true->cM p (fK p m most).ch=0/\eC p (fK p m most).ch=(fK p m most).val/\m<=(fK p m most).val):=by
 have j:=A4 i
 have g:∀(c:List Int) (w:Int) (b:Bool) (e:List Int) (d:Int),((m - 1<=w)/\(b=false->c=[]/\w=m - 1)/\(b=true->cM p c=0/\eC p c=w/\m<=w))->cM p e=0->eC p e=d->w<d->((m - 1<=d)/\((b||cq (some m) d)=false->e=[]/\d=m - 1)/\((b||cq (some m) d)=true->cM p e=0/\eC p e=d/\m<=d)):=by
  intro c w b e d h l q k
  have o:cq (some m) d=true:=by
   show decide (m<=d)=true
   grind
  grind
 have:=UJ (p:=p) (en:=cq (some m)) (most:=most) g (n:=p.offers.length) (s:=jy p m) (a:=0) (f:=ix p) (pP i) (yB g (s:=⟨[],m - 1,false,[zN],0⟩) ⟨Int.le_refl _,λ_=>⟨rfl,rfl⟩,(λh=>by cases h)⟩ j.1 j.2)
 exact this.2
theorem Lq {p:bp} {m:Int}:(jy p m).prf=[zN]/\(jy p m).err=0:=by
 grind[jy,ET]
theorem U3 {p:bp} (b:bC p=0) {m most:Int}:
  ((fK p m most).err=0\/(fK p m most).err=12)/\((fK p m most).found=true->m<=(bZ p).value)/\((fK p m most).found=false->(fK p m most).err=0->(bZ p).value<m)/\
   (((1+2^(p.offers.length+1):Nat):Int)<=most+2->(fK p m most).err=0):=by
 obtain⟨i,d⟩:=@Lq p m
 have h:(jy p m).prf.length=1:=by rw[i];rfl
 have g:=@rJ p (cq (some m)) most p.offers.length (jy p m) 0 (ix p) (pP b)
 obtain⟨r,l⟩:=@ae9 p b m most
 refine⟨?_,λc=>?_,λc k=>?_,λo=>?_⟩
 ·have:=g.2.2.2.2.2
  rw[d] at this;exact this
 ·obtain⟨e,q,t⟩:=l c
  have:=UZ b e
  omega
 ·have j:=UI (p:=p) (en:=cq (some m)) (most:=most) (n:=p.offers.length) (s:=jy p m) (a:=0) (pP b) (by show nF (ε _ 0)<=_;grind[yA]) (by rw[h];omega) k c
  have e:(bZ p).value<=(fK p m most).val:=U1 b j.1
  grind
 ·refine(UK (p:=p) (en:=cq (some m)) (most:=most) (n:=p.offers.length) (s:=jy p m) (a:=0) (f:=ix p) (pP b) ?_ d ?_).1
  all_goals simp_all[yA,ix]
theorem afa {p:bp} {c:List Int} {m:Int} (b:cM p c=0) (a:1<=m/\m<=65536):kj p c m=(iy p c m).err:=by
 simp_all[kj,if_neg]
theorem afb {p:bp} (d:bC p=0) {c:List Int} {m:Int} (b:cM p c=0) (e:m<=65536) (f:((1+2^(p.offers.length+1):Nat):Int)<=m+2):kj p c m=0:=by
 have a:=Nat.one_le_two_pow (n:=p.offers.length+1)
 grind[afa,U2]
theorem Lr {p:bp} (a:bC p=0) {m k:Int} (d:k<=65536) (b:((1+2^(p.offers.length+1):Nat):Int)<=k+2):iP p m k=0:=by
 have c:2<=2^(p.offers.length+1):=by grind
 unfold iP
 rw[if_neg (by simp[a]),if_neg (by omega)]
 grind[U3]
theorem U4 {p:bp} (a:bC p=0) {m k:Int} (b:iP p m k=0):jP p m k=true↔m<=(bZ p).value:=by
 have j:0<=(bZ p).value:=by
  obtain⟨t,d,e⟩:=U0 a
  obtain⟨_,c⟩:=uq d
  rw[<-e,yv a c]
  exact(sA (dL a) (l:=t.map (oI p)) λx g=>by
   obtain⟨i,f,rfl⟩:=γf.1 g
   have:=c.2 i f
   exact de (by omega)).1
 have h:=@U3 p a m k
 unfold jP;rw[b,decide_eq_true rfl,Bool.true_and,Bool.or_eq_true,decide_eq_true_eq];unfold iP at b
 grind
theorem U5 {W:Int} (a: -9223372036854775808<=W) (b:W<=9223372036854775807):Sz 2 (W:Rat):=by
 unfold Sz
 simp
 omega
theorem afc {p:bp} {f:List Int} (h:jO p f=true):ic p f:=by
 unfold jO at h;rw[θ,decide_eq_true_eq] at h
 obtain⟨a,b⟩:=h
 unfold kL at a;split at a
 ·omega
 ·rename_i d
  split at a
  ·cases a
  ·rename_i c
   exact⟨Γ.1 d,Γ.1 c,b⟩
theorem U6 {p:bp} {f:List Int} (h:jO p f=true):Sz 1000002 (jN p f):=by
 have a:=afc h
 have c:=@KR p a.1 f f.length a.2.1
 rw[χ] at c
 have d:Sz 1 ((kM p f:Int):Rat):=by
  unfold Sz;rw[Rat.num_intCast,Rat.den_intCast];omega
 have b:Sz 1000000 (eY p f).value:=((EG a).vK (rG a).1).2.2.2
 exact(Ry d b).mono (by omega)
end Go.Vi
