import Derived.Test.YtbnhiekmnpikhaaGreatDR11
set_option maxRecDepth 100000
set_option maxHeartbeats 4000000
set_option linter.all false
open Bool renaming and_eq_true->θ,false_ne_true->ζi,not_eq_true'->δi
open Classical renaming not_not->γc
open Go.Vi.AV.os renaming injEq->εA
open Go.Vi.AV.sc renaming injEq->δf
open Go.Vi.SV renaming bl->δd,sb->γy,si->γf,row->Ψ,fn->ζO,ow->γW,ptr->γK,il->γv,agg->γJ
open Int renaming le_refl->εf,toNat_natCast->γm,toNat_of_nonneg->εC
open IntCast renaming intCast->κ
open List renaming all_eq_true->χ,map_map->γ5,mem_of_mem_take->γl,range_eq_range'->δF,take_append_drop->γP,map_cons->π,map_nil->γr,length->γb,replicate->δ,mem_map->Ω,take->Γ,take_length->ψ,map->γd,length_take->γx,length_map->Θ,append_nil->γR,map_append->γa,length_set->Φ,length_filter_le->δg,mem_filter->γt,nodup_append->γs
open List.cons renaming injEq->Δ
open Option.some renaming injEq->γ
namespace Go.Vi
def Ad (p:ic) (lo:Nat) (Λ:Nat->bG):IR->VK->(VK->Prop)->Prop
 | .skip,b,K=>K b
 | .seq x y,b,K=>wpS p lo x Λ b λc a=>match c with
  | .norm=>Ad p lo Λ y a K
  |_=>False
 |_,_,_=>False
def Ac (p:ic) (Λ:Nat->bG) (F:ey) (args:List SV) (o:TN) (Q:SV->TN->Prop):Prop:=
 match F.body with
 | .dfr g c d a b=>Ad p o.length Λ a ⟨lN 0 args,o⟩ λe=>wpS p e.o.length b Λ ⟨(d,.ud)::e.env,e.o⟩ λi j=>if pQ i=true then
   (match p.it g with
    |some G=>if(c.map (iL e.env)).length=G.params/\G.res.isEmpty=true then wpS p j.o.length G.body (λn=>Λ (1000+n)) ⟨lN 0 (c.map (iL e.env)),j.o⟩ λf h=>if pQ f=true then
      mE ⟨j.env,h.o⟩ F.res λr=>if r.TP o.length&&h.o.all (λx=>x.TP o.length)&&decide (o.length<=h.o.length) then Q r (h.o.take o.length) else False
     else False else False
    |none=>False) else False
 |_=>False
section
variable {P:Program} {T:jn} {p:ic} {Λ:Nat->bG}
theorem T6 (i:nO T.K p.C) (j:∀f F,p.it f=some F->T.fn f=some F) {lo:Nat}:∀{a:IR} {st:VK} {K:VK->Prop},Ad p lo Λ a st K->∃s0:VK,(∃N,∀n,N<=n->pR (exec T .plain n lo) a st.g=some s0.g)/\K s0:=by
 intro a;induction a with
 |skip=>intro st K h;exact⟨st,⟨0,λ_ _=>rfl⟩,h⟩;|seq x y _ d=>
  intro st K h;simp only[Ad] at h;obtain⟨c,s,⟨N,e⟩,r,rfl,b⟩:=tK i j h;cases c with
  |norm=>
   obtain⟨s0,⟨M,m⟩,k⟩:=d b;refine⟨s0,⟨N+M,λn o=>?_⟩,k⟩;simp only[pR,e n n (by omega) (by omega)];grind;|exit q=>exact b.elim;|ret=>exact b.elim;|goto l=>exact b.elim
 |_=>intro st K h;exact h.elim
theorem T5 (J:jZ P T) (u:nO T.K p.C) (n:∀f F,p.it f=some F->T.fn f=some F) {f:FuncId} {F:ey} (S:T.fn f=some F) {args:List SV} {o:TN} {r:AV} {o':a_} (V:T.K f (gL args) (gO o) true=none) (B:args.length=F.params)
  {Q:SV->TN->Prop} (A:∀v s,Q v s->v.g=r/\gO s=o') (h:Ac p Λ F args o Q):fU P f=true/\jB P f (gL args) (gO o) r o':=by
 unfold Ac at h;split at h
 ·rename_i g a d ia ib Z;obtain⟨b,h1,h⟩:=T6 u n h;obtain⟨O,U,h2,c,rfl,h⟩:=tK u n h;split at h
  ·rename_i k;split at h
   ·rename_i G hG;split at h
    ·rename_i Y;obtain⟨D,I,h3,i,rfl,h⟩:=tK u n h;split at h
     ·rename_i j;obtain⟨t,k1,m⟩:=vd h;split at m
      ·rename_i y;simp only[θ,decide_eq_true_eq,χ] at y;obtain⟨⟨a2,L⟩,N⟩:=y;have R:(VK.mk (lN 0 args) o).g=⟨gl 0 (gL args),gO o⟩:=by simp[VK.g,tJ]
       have w:(gO o).length=o.length:=mC o;have a1:b.g.o.length=b.o.length:=mC b.o;have a0:c.g.o.length=c.o.length:=mC c.o;have H:a.map (dM b.g.env)=gL (a.map (iL b.env)):=by
        rw[fu,γ5];refine List.map_congr_left λx _=>?_;show dM (gE b.env) x=_;grind[xz]
       have z:(VK.mk ((d,.ud)::b.env) b.o).g=⟨(d,.ud)::b.g.env,b.g.o⟩:=by simp[VK.g,gE,SV.g]
       have E:(VK.mk (lN 0 (a.map (iL b.env))) c.o).g=⟨gl 0 (gL (a.map (iL b.env))),c.g.o⟩:=by simp[VK.g,tJ]
       have W:(VK.mk c.env i.o).g=⟨c.g.env,i.g.o⟩:=rfl;have q:∀x∈gO i.o,x.TP o.length=true:=by
        grind[gO,Ai]
       have l:finish true (gO o).length t.g i.g.o=some (r,o'):=by
        simp only[finish,if_true,w];have e:kJ o.length t.g i.g.o=some (t.g,(i.g.o).take o.length):=Nl (by grind[xy]) q (by show o.length<=(gO i.o).length;grind[mC]);rw[e,<-(A _ _ m).1,<-(A _ _ m).2];simp_all[VK.g,gO]
       obtain⟨X,M,_⟩:=Yi J S Z (own:=true) V (by grind[jk]) (s0:=b.g) (s2:=c.g) (s3:=i.g) (by simp_all) (by simp_all) k (n g G hG) (by grind) Y.2 (by simp_all) j (by simp_all) l;exact⟨X,M⟩
      ·exact m.elim
     ·exact h.elim
    ·exact h.elim
   simp_all
  ·exact h.elim
 simp_all
end
theorem T4 {P:Program} {d:FuncId->Option ey} {L:List M9} {W:List cU} (c:cU) {F:ey} {k:TypeId->Option ew} {e:List Nat×Bool->Option (ew×ew)} {Λ:c.α->Nat->bG}
  (n:jZ P ⟨d,λ_ _ _ _=>none⟩) (i:∀c∈W,dA P c) (o:∀c∈L,Holds P c)
  (l:d c.f=some F) (b:∀a,(c.put a).length=F.params)
  (a:c.α) (m:mR c.f W=none)
  (h:Ac (kx L (fT W) k e d) (Λ a) F (c.put a) (c.st a) λv s=>v.bi (c.res a)/\jY s (c.out a)):
  fU P c.f=true/\jB P c.f (gL (c.put a)) (gO (c.st a)) (c.res a).g (gO (c.out a)):=by
 refine T5 (p:=kx L (fT W) k e d) (Λ:=Λ a) (Q:=λv s=>v.bi (c.res a)/\jY s (c.out a)) (rJ (kf i) o n) (rI (kf i)) (λ_ _ h=>h) l ?_ (b a) (λv s j=>⟨j.1,ve j.2⟩) h;simp_all[nN,pL,fT,rH]
theorem T3 {k:Nat} {r a:AV} {o mid o2:a_} (c:r.Q5 o (λi=>decide (k<=i))=some a) (g:iQ o (λi=>decide (k<=i)) o=some mid) (e:e_ (λi=>decide (k<=i)) 0 mid=o2) (f:a.TP k=true) (d:∀x∈o2,x.TP k=true) (l:k<=o2.length):kJ k r o=some (a,o2.take k):=by
 unfold kJ;rw[c,g];simp only[e];have m:∀x∈o2.take k,x.TP k=true:=λx h=>d x (γl h);rw[OT (by grind[dF,GZ])];have j:gT.aoL (List.range k)=true:=by rw[δF];exact nodup_range'
 rw[if_pos j,A2 f];have b:=G0 (k:=k) (o:=o2) m l (n:=k) (s:=0) (by omega);rw[<-δF,List.drop_zero] at b;rw[b]
def Ab (k:Nat) (r:SV) (o:TN) (K:SV->TN->Prop):Prop:=
 ke o k r λb=>nc o k 0 o λa=>if b.TP k&&a.all (λx=>x.TP k)&&decide (k<=a.length) then K b (a.take k) else False
theorem T2 {k:Nat} {r:SV} {o:TN} {K:SV->TN->Prop} (h:Ab k r o K):∃r' o',kJ k r.g (gO o)=some (r'.g,gO o')/\K r' o':=by
 unfold Ab at h;obtain⟨l,p,f⟩:=Fo h;obtain⟨c,i,n,m,a⟩:=vT f;split at a
 ·rename_i b;simp only[θ,decide_eq_true_eq,χ] at b;obtain⟨⟨d,j⟩,e⟩:=b;refine⟨l,c.take k,?_,a⟩;simp_all[T3,xy,gO,Ai]
 simp_all
def Aa (p:ic) (Λ:Nat->bG) (F:ey) (args:List SV) (o:TN) (Q:SV->TN->Prop):Prop:=
 wpS p o.length F.body Λ ⟨lN 0 args,o⟩ λa b=>match a with
  | .exit _=>False
  | .goto _=>False
  |_=>mE b F.res λr=>Ab o.length r b.o Q
theorem T1 {P:Program} {T:jn} {p:ic} {Λ:Nat->bG} (A:jZ P T) (t:nO T.K p.C) (y:∀f F,p.it f=some F->T.fn f=some F) {f:FuncId} {F:ey} (n:T.fn f=some F) {args:List SV} {o:TN} {r:AV} {o':a_} (z:T.K f (gL args) (gO o) true=none) (j:args.length=F.params)
  {Q:SV->TN->Prop} (D:∀v s,Q v s->v.g=r/\gO s=o') (h:Aa p Λ F args o Q):fU P f=true/\jB P f (gL args) (gO o) r o':=by
 unfold Aa at h;have e:=tK t y h;have d:(VK.mk (lN 0 args) o).g=⟨gl 0 (gL args),gO o⟩:=by simp[VK.g,tJ]
 rw[d] at e;have i:(gO o).length=o.length:=mC o;rw[<-i] at e;have x:∀(a:VK),(mE a F.res λv=>Ab (gO o).length v a.o Q)->(mL a.g F.res).bind (λc=>finish true (gO o).length c a.g.o)=some (r,o'):=by
  intro a m;obtain⟨c,k,l⟩:=vd m;obtain⟨u,q,w,E⟩:=T2 l;rw[k];simp only[Option.bind_some,finish,if_true];have:kJ (gO o).length c.g a.g.o=some (u.g,gO q):=w;grind
 obtain⟨k,l,_⟩:=Aw A n (o:=gO o) (own:=true) z (by grind[jk]) (v:=r) (o':=o') (e.mono λb s B=>by
  obtain⟨a,rfl,m⟩:=B;cases b<;>simp_all);simp_all
theorem SC {P:Program} {d:FuncId->Option ey} {L:List M9} {W:List cU} (c:cU) {F:ey} {k:TypeId->Option ew} {e:List Nat×Bool->Option (ew×ew)} {Λ:c.α->Nat->bG}
  (n:jZ P ⟨d,λ_ _ _ _=>none⟩) (i:∀c∈W,dA P c) (o:∀c∈L,Holds P c)
  (l:d c.f=some F) (b:∀a,(c.put a).length=F.params)
  (a:c.α) (m:mR c.f W=none)
  (h:Aa (kx L (fT W) k e d) (Λ a) F (c.put a) (c.st a) λv s=>v.bi (c.res a)/\jY s (c.out a)):
  fU P c.f=true/\jB P c.f (gL (c.put a)) (gO (c.st a)) (c.res a).g (gO (c.out a)):=by
 refine T1 (p:=kx L (fT W) k e d) (Λ:=Λ a) (Q:=λv s=>v.bi (c.res a)/\jY s (c.out a)) (rJ (kf i) o n) (rI (kf i)) (λ_ _ h=>h) l ?_ (b a) (λv s j=>⟨j.1,ve j.2⟩) h;simp_all[nN,pL,fT,rH]
open Go.Proofs.YtbnhiekmnpikhaaGreat.Ir
open Go.Proofs
structure cV where
 p:cj
 ch:List Int
 val:Int
 bp:Bool
 en:Option Int
 k1:Nat
 k2:Nat
 bz:Int
 err:Int
 bq:List cz
 fx:List Int
def cV.cs (x:cV) (e:SV) (i j:Nat):List SV:=[.row (.i .i64) x.ch,.si .i64 x.val,.sb x.bp,e,.ow i x.k1 5,.ow j x.k2 1,.si .i64 x.bz,.si .i64 x.err]
def cV.uD (x:cV):TN:=[.cells (x.p.ss++x.cs (.fn (.func 70) [] []) 1 2) 126 28 false,.row Ap x.bq 108 true,.row (.i .i64) x.fx 3 true]
def cV.uC (x:cV) (m:Int):TN:=[.cells (x.p.ss++x.cs (.fn (.func 116) [] [.ptr 1 0 1]) 2 3) 126 28 false,.cells [.si .i64 m] 2 1 false,.row Ap x.bq 108 true,.row (.i .i64) x.fx 3 true]
def cV.fO (x:cV):TN:=match x.en with
 |none=>x.uD
 |some m=>x.uC m
def D2:TN->Option cV
 |[.cells cs 126 28 false,.row s1 l1 108 true,.row s2 l2 3 true]=>match cs.drop 20 with
  |[c,v,b,.fn (.func 70) [] [],.ow 1 k1 5,.ow 2 k2 1,mo,er]=>match tH (cs.take 20),iJ (.i .i64) c,v.int .i64,b.ph,mo.int .i64,er.int .i64 with
   |some p,some c,some v,some b,some mo,some er=>match gG s1 Ap l1,gG s2 (.i .i64) l2 with
    |some l1,some l2=>some ⟨p,c,v,b,none,k1,k2,mo,er,l1,l2⟩
    |_,_=>none
   |_,_,_,_,_,_=>none
  |_=>none
 |[.cells cs 126 28 false,.cells [m] 2 1 false,.row s1 l1 108 true,.row s2 l2 3 true]=>match cs.drop 20 with
  |[c,v,b,.fn (.func 116) [] [.ptr 1 0 1],.ow 2 k1 5,.ow 3 k2 1,mo,er]=>match tH (cs.take 20),iJ (.i .i64) c,v.int .i64,b.ph,mo.int .i64,er.int .i64 with
   |some p,some c,some v,some b,some mo,some er=>match gG s1 Ap l1,gG s2 (.i .i64) l2,m.int .i64 with
    |some l1,some l2,some m=>some ⟨p,c,v,b,some m,k1,k2,mo,er,l1,l2⟩
    |_,_,_=>none
   |_,_,_,_,_,_=>none
  |_=>none
 |_=>none
theorem SB {o:TN} {x:cV} (h:D2 o=some x):gO o=gO x.fO:=by
 unfold D2 at h;split at h
 ·rename_i cs s1 l1 s2 l2;split at h
  ·rename_i c v b k1 k2 mo er hd;split at h
   ·rename_i p c' v' b' mo' er' h1 h2 h3 h4 h5 h6;split at h
    ·rename_i l1' l2' g1 g2;simp only[γ] at h;subst h;obtain⟨rfl,e1⟩:=lF g1;obtain⟨rfl,e2⟩:=lF g2;cases e1;cases e2;have e3:gL cs=gL p.ss++gL [c,v,b,.fn (.func 70) [] [],.ow 1 k1 5,.ow 2 k2 1,mo,er]:=by
      rw[<-hd,<-xo h1,<-rL,γP]
     simp only[cV.fO,cV.uD,cV.cs,gO,π,γr,iZ.g,rL,e3];simp only[gL,ng h2,gS h3,th h4,gS h5,gS h6,SV.g]
    ·cases h
   ·cases h
  ·cases h
 ·rename_i cs m s1 l1 s2 l2;split at h
  ·rename_i c v b k1 k2 mo er hd;split at h
   ·rename_i p c' v' b' mo' er' h1 h2 h3 h4 h5 h6;split at h
    ·rename_i l1' l2' m' g1 g2 g3;simp only[γ] at h;subst h;obtain⟨rfl,e1⟩:=lF g1;obtain⟨rfl,e2⟩:=lF g2;cases e1;cases e2;have e3:gL cs=gL p.ss++gL [c,v,b,.fn (.func 116) [] [.ptr 1 0 1],.ow 2 k1 5,.ow 3 k2 1,mo,er]:=by
      rw[<-hd,<-xo h1,<-rL,γP]
     simp only[cV.fO,cV.uC,cV.cs,gO,π,γr,iZ.g,rL,e3];simp only[gL,ng h2,gS h3,th h4,gS h5,gS h6,gS g3,SV.g]
    ·cases h
   ·cases h
  ·cases h
 ·cases h
theorem SA {p q:cj} (h:gL p.ss=gL q.ss):p=q:=cO.inj p q (by grind[cO,SV.g])
theorem Sy {x y:cV} (h:gO x.fO=gO y.fO):x=y:=by
 obtain⟨p,E,u,b,J,H,G,k,o,A,L⟩:=x;obtain⟨B,n,d,a,l,r,v,c,f,q,C⟩:=y;have w:∀{e I:SV} {i j:Nat},gL (p.ss++(cV.mk p E u b J H G k o A L).cs e i j)=gL (B.ss++(cV.mk B n d a l r v c f q C).cs I i j)->p=B/\E=n/\u=d/\b=a/\H=r/\G=v/\k=c/\o=f:=by
  intro e I i j h;rw[rL,rL] at h;obtain⟨z,t⟩:=List.append_inj h (by rw[jk,jk];rfl);simp only[cV.cs,gL,SV.g,Δ,δf,Value.int.injEq,Value.bool.injEq,εA,AV.sl.injEq,and_true,true_and] at t;grind[SA,nx]
 cases J with
 |none=>
  cases l with
  |none=>
   simp only[cV.fO,cV.uD,gO,π,γr,iZ.g,Δ,OL.cells.injEq,and_true] at h;obtain⟨z,t,D⟩:=h;obtain⟨rfl,rfl,rfl,rfl,rfl,rfl,rfl,rfl⟩:=w z;rw[nx (s:=Ap) t,nx (s:=.i .i64) D];|some K=>
   have:=congrArg γb h;simp_all[cV.fO,cV.uD,cV.uC,gO]
 |some m=>
  cases l with
  |none=>
   have:=congrArg γb h;simp_all[cV.fO,cV.uD,cV.uC,gO];|some K=>
   simp only[cV.fO,cV.uC,gO,π,γr,iZ.g,Δ,OL.cells.injEq,and_true] at h;obtain⟨z,F,t,D⟩:=h;obtain⟨rfl,rfl,rfl,rfl,rfl,rfl,rfl,rfl⟩:=w z;simp only[gL,SV.g,Δ,δf,Value.int.injEq,and_true,true_and] at F;subst F;rw[nx (s:=Ap) t,nx (s:=.i .i64) D]
def z_ (f:FuncId) (c:Type) (A:ox c) (i:cV->c->Prop) (e:cV->c->SV) (out:cV->c->cV):cU where
 f:=f;α:=cV×c;put a:=.ptr 0 0 28::A.put a.2;st a:=a.1.fO;dec v o:=match v with
  | .ptr 0 0 28::r=>match D2 o,A.dec r with
   |some s,some b=>some (s,b)
   |_,_=>none
  |_=>none;ok v o a h:=by
  split at h
  ·split at h
   ·rename_i d g;simp only[γ] at h;subst h;exact⟨by simp only[gL,A.ok _ _ g],SB d⟩
   ·cases h
  ·cases h
 inj a b d g:=by
  simp only[gL,Δ,true_and] at d;exact Prod.ext (Sy g) (A.inj _ _ d)
 dom a:=i a.1 a.2;res a:=e a.1 a.2;out a:=(out a.1 a.2).fO
def bF (e:Option Int) (v:Int):Bool:=match e with
 |none=>false
 |some m=>decide (m<=v)
def cV.s (x:cV):cm:=⟨x.ch,x.val,x.bp,x.bq,x.err⟩
def cV.iw (x:cV) (s:cm):cV:=⟨x.p,s.ch,s.val,s.bp,x.en,s.bq.length,x.k2,x.bz,s.err,s.bq,x.fx⟩
structure ei (x:cV):Prop where
 f:dN x.p x.fx
 k1:x.k1=x.bq.length
 k2:x.k2=x.fx.length
 v0:0<=x.val
 v1:x.val<=9223372036854775806
 m0:1<=x.bz
 m1:x.bz<=65536
 l:x.bq.length<=65536
 c:x.ch.length<=9223372036854775807
def D1:cU where
 f:=70;α:=bB;put a:=[kr.put a];st _:=[];dec v o:=match v,o with
  |[a],[]=>kr.dec a
  |_,_=>none;ok v o a h:=by
  split at h;·exact⟨by simp only[gL,kr.ok _ _ h],rfl⟩
  ·cases h
 inj a b h1 _:=by
  simp only[gL,Δ,and_true] at h1;exact kr.inj _ _ h1
 dom _:=True;res _:=.sb false;out _:=[]
theorem H3:dA Tryz.prog D1:=by
 refine kq (L:=[]) (W:=[]) D1 lk (by simp) (by simp) ?_;rintro(a:bB) -;refine NH ((δd false).bi (γy false)/\True) (by kernel_rfl) ?_;simp_all
def D0:cU where
 f:=116;α:=bB×Int;put a:=[kr.put a.1,.ptr 0 0 1];st a:=[.cells [.si .i64 a.2] 2 1 false];dec v o:=match v,o with
  |[a,.ptr 0 0 1],[.cells [m] 2 1 false]=>match kr.dec a,m.int .i64 with
   |some a,some m=>some (a,m)
   |_,_=>none
  |_,_=>none;ok v o a h:=by
  split at h
  ·split at h
   ·rename_i h1 h2;simp only[γ] at h;subst h;exact⟨by simp only[gL,kr.ok _ _ h1],by simp only[gO,π,γr,iZ.g,gL,gS h2,SV.g]⟩
   ·cases h
  ·cases h
 inj a b h1 h2:=by
  simp only[gL,Δ,and_true] at h1;simp only[gO,π,γr,iZ.g,gL,SV.g,Δ,OL.cells.injEq,δf,Value.int.injEq,and_true,true_and] at h2;exact Prod.ext (kr.inj _ _ h1) h2
 dom _:=True;res a:=.sb (decide (a.2<=a.1.value));out a:=[.cells [.si .i64 a.2] 2 1 false]
theorem H2:dA Tryz.prog D0:=by
 refine kq (L:=[]) (W:=[]) D0 lk (by simp) (by simp) ?_;rintro⟨a,m⟩ -;refine NH (let b:=iZ.cells [γf .i64 m] 2 1 false;(γy (decide (m<=a.value))).bi (γy (decide (m<=a.value)))/\b.bi b/\True) (by kernel_rfl) ?_;conv=>zeta
 exact⟨rfl,rfl,trivial⟩
def wJ:cU:=z_ 71 bB (.one kr) (λx _=>x.k1=x.bq.length) (λ_ _=> .Gz []) λx a=>x.iw (dp (bF x.en) x.s a)
theorem tY:dA Tryz.prog wJ:=by
 refine kq (L:=[]) (W:=[D1,D0]) wJ lk (by simpa using⟨H3,H2⟩) (by simp) ?_;rintro⟨⟨p,ch,val,bp,en,k1,k2,bz,err,bq,fx⟩,a⟩ hk;have hk:k1=bq.length:=hk;subst hk;have e1:∀en:Int->Bool,val<a.value->dp en ⟨ch,val,bp,bq,err⟩ a=⟨a.bn,a.value,bp||en a.value,bq,err⟩:=λen h=>if_pos h;have e2:∀en:Int->Bool,¬val<a.value->dp en ⟨ch,val,bp,bq,err⟩ a=⟨ch,val,bp,bq,err⟩:=λen h=>if_neg h;cases en with
 |none=>
  refine NH (let b:=γf .i64;let c:=iZ.row;let d:=iZ.cells;let e:=Ψ;let f:=SV.Gz;let k:=b p.bm.a0;let l:=b p.bm.a1;let m:=b p.bm.a2;let n:=b p.bm.a3;let o:=b p.bm.a4;let q:=b p.bm.a5;let r:=b p.bs.a0;let s:=b p.bs.a1;let t:=b p.bs.a2;let v:=b p.bs.a3;let w:=b p.bs.a4;let x:=b p.bs.a5;let y:=b p.bt.a0;let z:=b p.bt.a1;let A:=b p.bt.a2;let B:=b p.bt.a3;let C:=b p.bt.a4;let D:=b p.bt.a5;let h:=ew.i .i64;let E:=e h p.bk;let F:=e ew.bu p.bj;let G:=ζO (Fn.func 70) [] [];let H:=γW 2 k2 1;let I:=b bz;let J:=[G,γW 1 bq.length 5,H,I,b err];let g:=dp (bF none) (cm.mk ch val bp bq err) a;let K:=d [k,l,m,n,o,q,r,s,t,v,w,x,y,z,A,B,C,D,E,F,e h g.ch,b g.val,γy g.bp,G,γW 1 g.bq.length 5,H,I,b g.err] 126 28 false;let j:=c h fx 3 true;let L:=decide (val<a.value);let M:=λ(u u_1:Bool) (u_2:List Int) (u_3:Int) (u_4:SV) ↦u=u_1->(f []).bi (f [])/\(d (k::l::m::n::o::q::r::s::t::v::w::x::y::z::A::B::C::D::E::F::e h u_2::b u_3::u_4::J) 126 28 false).bi K/\(c Ap bq 108 true).bi (c Ap g.bq 108 true)/\j.bi j/\True;(L=true->M bp true a.bn a.value (δd true)/\(bp=false->True/\(f []).bi (f [])/\(d (k::l::m::n::o::q::r::s::t::v::w::x::y::z::A::B::C::D::E::F::e h a.bn::b a.value::γy false::J) 126 28 false).bi K/\(c Ap bq 108 true).bi (c Ap g.bq 108 true)/\j.bi j/\True))/\M L false ch val (γy bp)) (by kernel_rfl) ?_;conv=>zeta
  refine⟨λh=>?_,λh=>?_⟩
  ·simp only[e1 _ (of_decide_eq_true h)];refine⟨λhf=>?_,λhf=>?_⟩
   ·subst hf;exact⟨rfl,rfl,rfl,rfl,trivial⟩
   ·subst hf;exact⟨trivial,rfl,rfl,rfl,rfl,trivial⟩
  ·simp only[e2 _ (of_decide_eq_false h)];exact⟨rfl,rfl,rfl,rfl,trivial⟩;|some m=>
  refine NH (let b:=γf .i64;let c:=ew.i .i64;let d:=iZ.cells;let e:=Ψ;let f:=iZ.row;let g:=γW;let h:=γK;let j:=SV.Gz;let k:=γy;(decide (val<a.value)=true->(bp=true->(j []).bi (j [])/\(d [b p.bm.a0,b p.bm.a1,b p.bm.a2,b p.bm.a3,b p.bm.a4,b p.bm.a5,b p.bs.a0,b p.bs.a1,b p.bs.a2,b p.bs.a3,b p.bs.a4,b p.bs.a5,b p.bt.a0,b p.bt.a1,b p.bt.a2,b p.bt.a3,b p.bt.a4,b p.bt.a5,e (c) p.bk,e ew.bu p.bj,e (c) a.bn,b a.value,δd true,ζO (Fn.func 116) [] [h 1 0 1],g 2 bq.length 5,g 3 k2 1,b bz,b err] 126 28 false).bi (d [b p.bm.a0,b p.bm.a1,b p.bm.a2,b p.bm.a3,b p.bm.a4,b p.bm.a5,b p.bs.a0,b p.bs.a1,b p.bs.a2,b p.bs.a3,b p.bs.a4,b p.bs.a5,b p.bt.a0,b p.bt.a1,b p.bt.a2,b p.bt.a3,b p.bt.a4,b p.bt.a5,e (c) p.bk,e ew.bu p.bj,e (c) (dp (bF (some m)) (cm.mk ch val bp bq err) a).ch,b (dp (bF (some m)) (cm.mk ch val bp bq err) a).val,k (dp (bF (some m)) (cm.mk ch val bp bq err) a).bp,ζO (Fn.func 116) [] [h 1 0 1],g 2 (dp (bF (some m)) (cm.mk ch val bp bq err) a).bq.length 5,g 3 k2 1,b bz,b (dp (bF (some m)) (cm.mk ch val bp bq err) a).err] 126 28 false)/\(d [b m] 2 1 false).bi (d [b m] 2 1 false)/\(f Ap bq 108 true).bi (f Ap (dp (bF (some m)) (cm.mk ch val bp bq err) a).bq 108 true)/\(f (c) fx 3 true).bi (f (c) fx 3 true)/\True)/\(bp=false->True/\(j []).bi (j [])/\(d [b p.bm.a0,b p.bm.a1,b p.bm.a2,b p.bm.a3,b p.bm.a4,b p.bm.a5,b p.bs.a0,b p.bs.a1,b p.bs.a2,b p.bs.a3,b p.bs.a4,b p.bs.a5,b p.bt.a0,b p.bt.a1,b p.bt.a2,b p.bt.a3,b p.bt.a4,b p.bt.a5,e (c) p.bk,e ew.bu p.bj,e (c) a.bn,b a.value,k (decide (m<=a.value)),ζO (Fn.func 116) [] [h 1 0 1],g 2 bq.length 5,g 3 k2 1,b bz,b err] 126 28 false).bi (d [b p.bm.a0,b p.bm.a1,b p.bm.a2,b p.bm.a3,b p.bm.a4,b p.bm.a5,b p.bs.a0,b p.bs.a1,b p.bs.a2,b p.bs.a3,b p.bs.a4,b p.bs.a5,b p.bt.a0,b p.bt.a1,b p.bt.a2,b p.bt.a3,b p.bt.a4,b p.bt.a5,e (c) p.bk,e ew.bu p.bj,e (c) (dp (bF (some m)) (cm.mk ch val bp bq err) a).ch,b (dp (bF (some m)) (cm.mk ch val bp bq err) a).val,k (dp (bF (some m)) (cm.mk ch val bp bq err) a).bp,ζO (Fn.func 116) [] [h 1 0 1],g 2 (dp (bF (some m)) (cm.mk ch val bp bq err) a).bq.length 5,g 3 k2 1,b bz,b (dp (bF (some m)) (cm.mk ch val bp bq err) a).err] 126 28 false)/\(d [b m] 2 1 false).bi (d [b m] 2 1 false)/\(f Ap bq 108 true).bi (f Ap (dp (bF (some m)) (cm.mk ch val bp bq err) a).bq 108 true)/\(f (c) fx 3 true).bi (f (c) fx 3 true)/\True))/\(decide (val<a.value)=false->(j []).bi (j [])/\(d [b p.bm.a0,b p.bm.a1,b p.bm.a2,b p.bm.a3,b p.bm.a4,b p.bm.a5,b p.bs.a0,b p.bs.a1,b p.bs.a2,b p.bs.a3,b p.bs.a4,b p.bs.a5,b p.bt.a0,b p.bt.a1,b p.bt.a2,b p.bt.a3,b p.bt.a4,b p.bt.a5,e (c) p.bk,e ew.bu p.bj,e (c) ch,b val,k bp,ζO (Fn.func 116) [] [h 1 0 1],g 2 bq.length 5,g 3 k2 1,b bz,b err] 126 28 false).bi (d [b p.bm.a0,b p.bm.a1,b p.bm.a2,b p.bm.a3,b p.bm.a4,b p.bm.a5,b p.bs.a0,b p.bs.a1,b p.bs.a2,b p.bs.a3,b p.bs.a4,b p.bs.a5,b p.bt.a0,b p.bt.a1,b p.bt.a2,b p.bt.a3,b p.bt.a4,b p.bt.a5,e (c) p.bk,e ew.bu p.bj,e (c) (dp (bF (some m)) (cm.mk ch val bp bq err) a).ch,b (dp (bF (some m)) (cm.mk ch val bp bq err) a).val,k (dp (bF (some m)) (cm.mk ch val bp bq err) a).bp,ζO (Fn.func 116) [] [h 1 0 1],g 2 (dp (bF (some m)) (cm.mk ch val bp bq err) a).bq.length 5,g 3 k2 1,b bz,b (dp (bF (some m)) (cm.mk ch val bp bq err) a).err] 126 28 false)/\(d [b m] 2 1 false).bi (d [b m] 2 1 false)/\(f Ap bq 108 true).bi (f Ap (dp (bF (some m)) (cm.mk ch val bp bq err) a).bq 108 true)/\(f (c) fx 3 true).bi (f (c) fx 3 true)/\True)) (by kernel_rfl) ?_;refine⟨λh=>?_,λh=>?_⟩
  ·simp only[e1 _ (of_decide_eq_true h)];refine⟨λhf=>?_,λhf=>?_⟩
   ·subst hf;exact⟨rfl,rfl,rfl,rfl,rfl,trivial⟩
   ·subst hf;exact⟨trivial,rfl,rfl,rfl,rfl,rfl,trivial⟩
  ·simp only[e2 _ (of_decide_eq_false h)];exact⟨rfl,rfl,rfl,rfl,rfl,trivial⟩
theorem DZ {a b:zi} (h:∀k,k<6->a.at k<=b.at k):a.le b=true:=by
 have i:=h 0 (by omega);have c:=h 1 (by omega);have d:=h 2 (by omega);have f:=h 3 (by omega);have g:=h 4 (by omega);have e:=h 5 (by omega);simp_all[zi.at,bN,zi.le_iff]
theorem Sx {p:cj} {L:List bC} (d:(L.map bC.OA).Nodup) (c:fj p L=true):iH p L:=by
 refine⟨d,DZ λk a=>?_,DZ λk a=>?_⟩
 ·have h:=m_.1 c (p.bk.length+k) (by grind[cr]);rw[show(((p.bk.length+k:Nat)):Int)=p.bk.length+k by omega,NP a] at h;rw[mP,γ5];have:bZ p L (p.bk.length+k)=(L.map ((λb=>zi.at b k)∘bC.bx)).sum:=by
   unfold bZ;congr 1;simp_all[NR]
  omega
 ·have h:=m_.1 c (p.bk.length+6+k) (by grind[cr]);rw[show(((p.bk.length+6+k:Nat)):Int)=p.bk.length+6+k by omega,Ml a] at h;rw[mP,γ5];have:bZ p L (p.bk.length+6+k)=(L.map ((λb=>zi.at b k)∘eu p)).sum:=by
   unfold bZ;congr 1;simp_all[NQ]
  omega
theorem KA {l:List bC}:∀{t:List Int} {a:Int} {r:List bC}, -1<=a->dz l a t=some r->t.Pairwise (·<·)/\∀j∈t,a<j/\j<l.length
 |[],_,_,_,_=>by simp;|i::t,a,r,g,h=>by
  simp only[dz] at h;split at h;·cases h
  ·rename_i k;obtain⟨f,d,rfl⟩:=Option.map_eq_some_iff.1 h;obtain⟨e,c⟩:=KA (by omega) d;refine⟨List.pairwise_cons.2 ⟨λj b=>(c j b).1,e⟩,λj b=>?_⟩;grind
def pv (p:cj) (t:List Int):Prop:=kY 0 p.bj.length t/\iH p (bW p t)
theorem oU {p:cj} (c:nW p=0) {t:List Int}:bR p t=0↔pv p t:=by
 refine⟨λh=>?_,λh=>Mh c h.1 h.2⟩;have e:=WH h;obtain⟨i,a,l,m,o⟩:=FT h;obtain⟨r,d⟩:=Option.isSome_iff_exists.1 a;obtain⟨f,g⟩:=KA (by omega) d;have n:cF p t=bW p t:=by grind[cF,A_]
 have b:fj p (bW p t)=true:=by
  simp_all[bR]
 exact⟨⟨f,λj k=>by simp_all⟩,Sx e b⟩
theorem Kz {p:cj} (a:Good p):pv p []:=⟨⟨by simp,by simp⟩,of_decide_eq_true (NY a)⟩
theorem uB {p:cj} (a:nW p=0) {t:List Int} (h:pv p t):cA p t=bJ (bW p t):=by
 grind[oU,WI,xW,Ba]
theorem Sw {p:cj} (c:nW p=0) {L:List bC} (b:iH p L) (d:∀x∈L,x∈p.bj):bJ L<=pH p (allM p):=by
 have a:=cT c;have f:=xX a.1;rw[Mc c (m:=allM p) (by grind[allM]) (by grind[allM])];refine Bd a ⟨b.1,λx e=>?_,b.2.1,b.2.2⟩;have:=a.2.2.2.2 x (d x e);grind[Ws]
theorem Sv {p:cj} (c:nW p=0):∃L,iH p L/\(∀x∈L,x∈p.bj)/\bJ L=pH p (allM p):=by
 have a:=cT c;have f:=xX a.1;rw[Mc c (m:=allM p) (by grind[allM]) (by grind[allM])];have h:=zi.hJ.1 a.2.2.1;have g:=zi.hJ.1 a.2.2.2.1;obtain⟨L,b,e⟩:=Bc a (NU (allM p)) (l:=p.bm) (o:=p.bs) (by grind[zi.le_iff,zi.zero]) (by grind[zi.le_iff,zi.zero]);exact⟨L,⟨b.nd,b.w,b.o⟩,λx d=>(b.mem x d).1,e⟩
def gi (p:cj):List Int:=δ p.bj.length 0
theorem uA {n:Nat}:nF (δ n 0)=n:=by
 have e:Ao (δ n 0) 0=bP n:=by
  simp_all[Ao,iF,b_]
 grind[eY]
theorem mz {p:cj} (a:nW p=0):dN p (gi p) where
 c:=a;l:=List.length_replicate;r:=by
  unfold iW;rw[χ];intro x b;rw[List.eq_of_mem_replicate b];decide
def jO (p:cj) (c:List Int):cm:=dp (bF none) (dp (bF none) ⟨c,cA p c,false,[zN],0⟩ (fK p c)) (fK p (ji p))
noncomputable def gA (p:cj) (c:List Int) (a:Int):cm:=cQ p (bF none) a p.bj.length (jO p c) 0 (gi p)
noncomputable def jH (p:cj) (c:List Int) (a:Int):Int:=if bR p c≠0 then bR p c else if a<1\/65536<a then 4 else(gA p c a).err
def jN (p:cj) (m:Int):cm:=dp (bF (some m)) ⟨[],m - 1,false,[zN],0⟩ (fK p (ji p))
noncomputable def fi (p:cj) (m a:Int):cm:=cQ p (bF (some m)) a p.bj.length (jN p m) 0 (gi p)
noncomputable def im (p:cj) (m a:Int):Int:=if nW p≠0 then nW p else if a<1\/65536<a then 4 else if m<=0 then 0 else if(fi p m a).bp=true then 0 else(fi p m a).err
noncomputable def jf (p:cj) (m a:Int):Bool:=decide (im p m a=0)&&(decide (m<=0)||(fi p m a).bp)
noncomputable def my (p:cj) (m a:Int):bB:=if jf p m a=true/\0<m then⟨(fi p m a).ch,(fi p m a).val⟩ else⟨[],0⟩
theorem Ky {p:cj} (a:nW p=0) {t:List Int} (h:bR p t=0):cA p t<=(VL p).value:=by
 have b:=(oU a).1 h;obtain⟨_,d⟩:=sh h;have c:=FM (cT a) b.1 (decide_eq_true b.2);rw[uE a d];exact c
theorem Kx {p:cj} (a:nW p=0):∃t,bR p t=0/\cA p t=(VL p).value:=by
 obtain⟨t,c,f,e⟩:=FL (cT a);have b:bR p t=0:=(oU a).2 ⟨c,of_decide_eq_true f⟩;obtain⟨_,d⟩:=sh b;refine⟨t,b,?_⟩;rw[uE a d,e];rfl
theorem Su {p:cj} {l:List Int} (h:dO p.bj.length l):Ae (gi p) l:=by
 have b:∀i:Int,0<=i/\i<p.bj.length->bN (gi p) i.toNat 0=0:=λi a=>by
  grind[gi,b_]
 refine⟨λi a=>by rw[b i (h.2 i a)];omega,λi a=>?_⟩;grind[jQ,gi]
theorem Kw {p:cj} {v:Int} {t:List cz} {a lo f:Nat} (b:nW p=0) (h:iq p v t a (gi p) lo f):(VL p).value<=v:=by
 obtain⟨l,d,e⟩:=Kx b;obtain⟨_,c⟩:=sh d;rw[<-e,uE b c];exact h.sound (mz b) c ((Dg b c).1 d) (Su c)
theorem uz {en:Int->Bool} {G:List Int->Int->Bool->Prop} {p:cj} (h:∀c w b d w',G c w b->bR p d=0->cA p d=w'->w<w'->G d w' (b||en w')) {s:cm} {a:bB} (e:G s.ch s.val s.bp) (f:bR p a.bn=0) (g:cA p a.bn=a.value):G (dp en s a).ch (dp en s a).val (dp en s a).bp:=by
 grind[dp]
theorem uy {p:cj} (a:nW p=0):bR p (fK p (ji p)).bn=0/\cA p (fK p (ji p)).bn=(fK p (ji p)).value:=by
 simp_all[EF,Lx]
theorem DY {p:cj} (d:nW p=0) {c:List Int} (h:bR p c=0) {bz:Int} {G:List Int->Int->Bool->Prop} (a:∀c w b e w',G c w b->bR p e=0->cA p e=w'->w<w'->G e w' (b||bF none w')) (i:G c (cA p c) false):G (gA p c bz).ch (gA p c bz).val (gA p c bz).bp:=by
 have f:=EF d h;have g:=uy d;exact KC a (mz d) (uz a (uz a i f.2.1 f.2.2.1) g.1 g.2)
theorem DX {p:cj} {c:List Int}:(jO p c).bq=[zN]/\(jO p c).err=0/\cA p c<=(jO p c).val:=by
 grind[jO,dp]
theorem DW {p:cj} (d:nW p=0) {c:List Int} (i:bR p c=0) {bz:Int} (C:1<=bz):
  ((gA p c bz).err=0\/(gA p c bz).err=12)/\((gA p c bz).err=0->(bR p (gA p c bz).ch=0/\cA p (gA p c bz).ch=(gA p c bz).val)/\(gA p c bz).val=(VL p).value/\(gA p c bz).bq.length<=bz/\iq p (VL p).value (gA p c bz).bq 0 (gi p) 1 (gA p c bz).bq.length/\(cA p c=(VL p).value->(gA p c bz).ch=c))/\
   (((1+2^(p.bj.length+1):Nat):Int)<=bz+2->(gA p c bz).err=0):=by
 obtain⟨y,l,A⟩:=@DX p c;have t:(jO p c).bq.length=1:=by rw[y];rfl
 have q:=@px p (bF none) bz p.bj.length (jO p c) 0 (gi p) (mz d);have j:(gA p c bz).bp=false:=by
  refine(DY d i (bz:=bz) (G:=λ_ _ b=>b=false) (λc w b g o h _ _ _=>?_) rfl);rw[h];rfl
 refine⟨?_,λx=>?_,λB=>?_⟩
 ·have:=q.2.2.2.2.2;rw[l] at this;exact this
 ·have v:=DY d i (bz:=bz) (G:=λc w _=>bR p c=0/\cA p c=w) (λc w b g o _ k m _=>⟨k,m⟩) ⟨i,rfl⟩;have u:=DY d i (bz:=bz) (G:=λg w _=>cA p c<=w/\(w=cA p c->g=c)) (λD w b g o h _ _ r=>⟨by omega,λe=>by omega⟩) ⟨εf _,λ_=>rfl⟩;have z:=KD (p:=p) (en:=bF none) (bz:=bz) (n:=p.bj.length) (s:=jO p c) (a:=0) (mz d) (by show nF (δ _ 0)<=_;grind[uA]) (by rw[t];omega) x j;have k:=Kw d z.1;have m:=Ky d v.1;grind[gA]
 ·refine(KB (p:=p) (en:=bF none) (bz:=bz) (n:=p.bj.length) (s:=jO p c) (a:=0) (f:=gi p) (mz d) ?_ l ?_).1;all_goals simp_all[uA,gi]
theorem Ss {p:cj} (i:nW p=0) {m bz:Int}:((fi p m bz).bp=false->(fi p m bz).ch=[]/\(fi p m bz).val=m - 1)/\((fi p m bz).bp=true->bR p (fi p m bz).ch=0/\cA p (fi p m bz).ch=(fi p m bz).val/\m<=(fi p m bz).val):=by
 have j:=uy i;have g:∀(c:List Int) (w:Int) (b:Bool) (e:List Int) (d:Int),((m - 1<=w)/\(b=false->c=[]/\w=m - 1)/\(b=true->bR p c=0/\cA p c=w/\m<=w))->bR p e=0->cA p e=d->w<d->((m - 1<=d)/\((b||bF (some m) d)=false->e=[]/\d=m - 1)/\((b||bF (some m) d)=true->bR p e=0/\cA p e=d/\m<=d)):=by
  intro c w b e d h l q k;have o:bF (some m) d=true:=by
   show decide (m<=d)=true;grind
  grind
 have:=KC (p:=p) (en:=bF (some m)) (bz:=bz) g (n:=p.bj.length) (s:=jN p m) (a:=0) (f:=gi p) (mz i) (uz g (s:=⟨[],m - 1,false,[zN],0⟩) ⟨εf _,λ_=>⟨rfl,rfl⟩,(λh=>by cases h)⟩ j.1 j.2);exact this.2
theorem DV {p:cj} {m:Int}:(jN p m).bq=[zN]/\(jN p m).err=0:=by
 grind[jN,Ag]
theorem Kv {p:cj} (b:nW p=0) {m bz:Int}:
  ((fi p m bz).err=0\/(fi p m bz).err=12)/\((fi p m bz).bp=true->m<=(VL p).value)/\((fi p m bz).bp=false->(fi p m bz).err=0->(VL p).value<m)/\
   (((1+2^(p.bj.length+1):Nat):Int)<=bz+2->(fi p m bz).err=0):=by
 obtain⟨i,d⟩:=@DV p m;have h:(jN p m).bq.length=1:=by rw[i];rfl
 have g:=@px p (bF (some m)) bz p.bj.length (jN p m) 0 (gi p) (mz b);obtain⟨r,l⟩:=@Ss p b m bz;refine⟨?_,λc=>?_,λc k=>?_,λo=>?_⟩
 ·have:=g.2.2.2.2.2;rw[d] at this;exact this
 ·obtain⟨e,q,t⟩:=l c;have:=Ky b e;omega
 ·have j:=KD (p:=p) (en:=bF (some m)) (bz:=bz) (n:=p.bj.length) (s:=jN p m) (a:=0) (mz b) (by show nF (δ _ 0)<=_;grind[uA]) (by rw[h];omega) k c;have e:(VL p).value<=(fi p m bz).val:=Kw b j.1;grind
 ·refine(KB (p:=p) (en:=bF (some m)) (bz:=bz) (n:=p.bj.length) (s:=jN p m) (a:=0) (f:=gi p) (mz b) ?_ d ?_).1;all_goals simp_all[uA,gi]
theorem Sr {p:cj} {c:List Int} {m:Int} (b:bR p c=0) (a:1<=m/\m<=65536):jH p c m=(gA p c m).err:=by
 simp_all[jH,if_neg]
theorem Sq {p:cj} (d:nW p=0) {c:List Int} {m:Int} (b:bR p c=0) (e:m<=65536) (f:((1+2^(p.bj.length+1):Nat):Int)<=m+2):jH p c m=0:=by
 have a:=Nat.one_le_two_pow (n:=p.bj.length+1);grind[Sr,DW]
theorem DU {p:cj} (a:nW p=0) {m k:Int} (d:k<=65536) (b:((1+2^(p.bj.length+1):Nat):Int)<=k+2):im p m k=0:=by
 have c:2<=2^(p.bj.length+1):=by grind
 unfold im;rw[if_neg (by simp[a]),if_neg (by omega)];grind[Kv]
theorem Ku {p:cj} (a:nW p=0) {m k:Int} (b:im p m k=0):jf p m k=true↔m<=(VL p).value:=by
 have j:0<=(VL p).value:=by
  obtain⟨t,d,e⟩:=Kx a;obtain⟨_,c⟩:=sh d;rw[<-e,uE a c];exact(oq (cT a) (l:=t.map (oI p)) λx g=>by
   obtain⟨i,f,rfl⟩:=Ω.1 g;have:=c.2 i f;exact cE (by omega)).1
 have h:=@Kv p a m k;unfold jf;rw[b,decide_eq_true rfl,Bool.true_and,Bool.or_eq_true,decide_eq_true_eq];unfold im at b;grind
theorem qH {p q:Rat}:gN p q<0↔p<q:=by
 unfold gN;grind
def z6:M9:=⟨38,cj×List Int,.cons cO (.one (cL (.i .i64))),λa=>nW a.1=0/\a.2.length<=9223372036854775807,λa=> .si .i64 (cA a.1 a.2)⟩
def Sp (p:cj) (c:List Int):Nat->bG
 |6=> .inv Int (λi=>⟨[(7,.si .i64 (bJ ((cF p c).take i.toNat))),(23,.row .bu (cF p c)),(24,.si .i64 (cF p c).length),(25,.si .i64 i)],[.cells p.ss 27 20 false]⟩)
   (λs=>iS s 25) (λi=>0<=i/\i<=(cF p c).length) (λi=>((cF p c).length - i).toNat) λ_ _=> .look
 |_=> .look
theorem yI:Holds Tryz.prog z6:=by
 refine bI (L:=[AL,mW]) z6 (λa=>Sp a.1 a.2) (by grind[yT,oi]) ?_;rintro⟨p,c⟩ ⟨f,A⟩;simp only at f A;refine NH (let a:=γf .i64;let f:=(0:Int);let k:=γv .i64 0;let m:=a (cA p c);let z:=decide (nW p≠f);let j:=Ψ ew.bu (cF p c);let B:=(↑(cF p c).length:Int);let d:=(↑(cF p c).length:Int);let r:=a d;let g:=iZ.cells (cj.ss p) 27 20 false;(c.length<=9223372036854775807/\p.bj.length<=1000)/\((!dW p c)=true->k.bi m)/\((!dW p c)=false->True/\(z=true->k.bi m)/\(z=false->(((k.bi (a (bJ []))/\j.bi j/\(a B).bi r/\k.bi (a 0)/\True)/\g.bi g/\True)/\f<=f/\f<=d)/\∀(x:Int),let w:=bJ (Γ x.toNat (cF p c));let y:=w+(bN (cF p c) x.toNat ew.bu.bw).value;let b:=x+(1:Int);let e:=a b;f<=x/\x<=d->(decide (x<d)=true->f<=x/\x<B/\x.toNat<(cF p c).length/\VI .i64 y/\VI .i64 b/\(((a y).bi (a (bJ (Γ b.toNat (cF p c))))/\j.bi j/\r.bi r/\e.bi e/\True)/\g.bi g/\True)/\(f<=b/\b<=d)/\(d - b).toNat<(d - x).toNat)/\(decide (x<d)=false->(a w).bi m)))) (by kernel_rfl) ?_;simp only[vcs];have t:=cT f;obtain⟨G,v⟩:=Nx (c:=c) f;have u:=t.2.1;have q:dW p c=false->0=cA p c:=λh=>by
  unfold cA;rw[if_pos f];unfold cF;unfold dW at h;rw[Option.isSome_eq_false_iff,Option.isNone_iff_eq_none] at h;rw[h];rfl
 refine⟨⟨A,by omega⟩,q,λ_=>⟨λh=>absurd f h,λ_=>⟨⟨by simp[bJ],by omega,by omega⟩,?_⟩⟩⟩;rintro i ⟨n,D⟩;refine⟨λo=>?_,λE=>?_⟩
 ·have H:=Ny n o;have F:=oq t (l:=(cF p c).take i.toNat) λx s=>v x (γl s);have C:=oq t (l:=(cF p c).take (i+1).toNat) λx s=>v x (γl s);grind
 ·rw[show i.toNat=(cF p c).length from by omega,ψ];grind[cA]
def DT:M9:=⟨143,Int×Int,.cons (dX .i64) (.one (dX .i64)),λa=>(-9223372036854775808<=a.1/\a.1<=9223372036854775807)/\0<a.2/\a.2<=9223372036854775807,λa=> .Gz [nI (eM (decide (a.1<0)) (a.1.natAbs:Int) a.2),.si .i64 0]⟩
theorem HW:Holds Tryz.prog DT:=by
 refine bI (L:=[zY,wS]) DT lk (by grind[yV,uc]) ?_;rintro⟨n,d⟩ ⟨⟨u,w⟩,q,r⟩;simp only at u w q r;refine NH (let e:=(-9223372036854775808:Int);let h:=(9223372036854775807:Int);let k:=(0:Int);let l:=Ψ;let g:=bU (↑n.natAbs:Int);let b:=bU (↑d.natAbs:Int);let f:=nf (eM (!decide (n<k)==decide (d<k)) (bX g) (bX b));let a:=ew.i .u32;let j:=[γf .i64 0];let c:=nf (eM (decide (n<k)) (↑n.natAbs:Int) d);(e<=n/\n<=h)/\(e<=d/\d<=h)/\((ou g/\ou b)/\(g.length<=1000000000/\b.length<=1000000000)/\k<bX b)/\(SV.Gz (γJ [γy f.1,l a f.2.1,l a f.2.2]::j)).bi (SV.Gz (γJ [γy c.1,l a c.2.1,l a c.2.2]::j))) (by kernel_rfl) ?_;simp only[vcs];obtain⟨v,s,t⟩:=ft (show(0:Int)<=(n.natAbs:Int) by omega);obtain⟨o,l,h⟩:=ft (show(0:Int)<=(d.natAbs:Int) by omega);have x:=lu (k:=2) (show(0:Int)<=(n.natAbs:Int) by omega) (by omega);have p:=lu (k:=2) (show(0:Int)<=(d.natAbs:Int) by omega) (by omega);have e:(d.natAbs:Int)=d:=by omega
 have m:(!(decide (n<0)==decide (d<0)))=decide (n<0):=by
  grind
 rw[m,v,o,e];rw[e] at l h p;repeat' refine And.intro ?_ ?_
 all_goals first|omega|exact s|exact l|exact t|exact h|rfl
def mX (x:List NG):Prop:=∃l,x=fL l/\x.length<=1000000/\∀q∈l,Sz 1000 q
theorem So (q:Rat):q.den=1↔(nf q).2.2=[1]:=by
 have c:bU 1=[1]:=by decide
 constructor
 ·intro h;show bU (q.den:Int)=[1];simp_all
 ·intro h;have a:=(ft (show(0:Int)<=(q.den:Int) by omega)).1;have b:bU (q.den:Int)=[1]:=h;grind[bX]
theorem BY (q:Rat):okF (nf q)=true:=decide_eq_true (by rw[dH])
def DS:M9:=⟨103,List NG,.one (cL sF),mX,λx=> .sb (lq (vL x))⟩
def Sn (x:List NG):Nat->bG
 |2=> .inv Int (λi=>⟨[(5,.row sF x),(6,.si .i64 x.length),(7,.si .i64 i)],[]⟩)
   (λs=>iS s 7) (λi=>(0<=i/\i<=x.length)/\lq ((vL x).take i.toNat)=true) (λi=>(x.length - i).toNat) λ_ _=> .look
 |_=> .look
theorem H0:Holds Tryz.prog DS:=by
 refine bI (L:=[sf]) DS Sn (by grind[nE]) ?_;rintro(x:List NG) ⟨l,v,G,H⟩;refine NH (let c:=(0:Int);let d:=γf .i64;let f:=δd false;let h:=Ψ;let i:=(1:Int);let b:=(↑x.length:Int);let w:=d b;((((h sF x).bi (h sF x)/\(d (↑x.length:Int)).bi w/\(γv .i64 0).bi (d 0)/\True)/\True)/\(c<=c/\c<=b)/\lq []=true)/\∀(a:Int),let p:=bN x a.toNat sF.bw;let e:=p.2.2;let C:=(↑(γb e):Int);let r:=γy (lq (vL x));let g:=a+i;let o:=d g;let A:=λ(u:Bool) ↦decide (bN e 0 c≠i)=u;let D:=λ(u:Bool) ↦decide (C≠i)=u;let E:=λ(u:Bool) ↦(!okF (p.1,p.2.1,e))=u;(c<=a/\a<=b)/\lq (Γ a.toNat (vL x))=true->(decide (a<b)=true->c<=a/\a<(↑x.length:Int)/\a.toNat<x.length/\((ou p.2.1/\ou e)/\γb p.2.1<=10000000/\γb e<=10000000)/\(E true->(f).bi r)/\(E false->(D true->(f).bi r)/\(D false->c<=c/\c<C/\0<γb e/\(A true->(f).bi r)/\(A false->VI .i64 g/\(((h sF x).bi (h sF x)/\w.bi w/\o.bi o/\True)/\True)/\((c<=g/\g<=b)/\lq (Γ g.toNat (vL x))=true)/\(b - g).toNat<(b - a).toNat))))/\(decide (a<b)=false->(δd true).bi r)) (by kernel_rfl) ?_;simp only[vcs];subst v;rw[eA] at G ⊢;rw[jR];have s:∀k:Nat,((k:Nat):Int).toNat=k:=λk=>γm k;refine⟨⟨⟨by omega,by omega⟩,rfl⟩,?_⟩;rintro i ⟨⟨z,T⟩,c⟩;refine⟨λy=>?_,λy=>?_⟩
 ·have J:bN (fL l) i.toNat sF.bw=nf (bN l i.toNat 0):=iD (by omega);have B:=cE (d:=0) (show i.toNat<l.length by omega);have N:=H _ B;have K:=jj (d:=0) z y;rw[J];generalize bN l i.toNat 0=q at*;obtain⟨_,⟨I,U,V⟩,⟨M,P,W⟩⟩:=kP q;obtain⟨R,S⟩:=ny N;have m:=So q;have j:q.den≠1->false=lq l:=λQ=>by
   refine(Bool.eq_false_iff.2 λf=>?_).symm;have:=χ.1 f _ B;simp_all
  have t:=BY q;refine⟨z,y,by omega,⟨⟨I,M⟩,by omega,by omega⟩,λh=>absurd t (by simp_all),λ_=>⟨λh=>j λf=>h ?_,λh=>⟨by omega,by omega,by omega,λf=>j λO=>f ?_,λf=>⟨by omega,⟨by omega,?_⟩,by omega⟩⟩⟩⟩;·simp_all
  ·rw[(m.1 O)];rfl
  ·rw[K];unfold lq at c ⊢;rw[List.all_append,c];have:q.den=1:=m.2 (by
    have n:(nf q).2.2.length=1:=by omega
    have F:bN (nf q).2.2 0 0=1:=γc.1 f;match v:(nf q).2.2,n with
    |[x],_=>
     rw[v] at F;have:x=1:=F;rw[this]);simp[this]
 grind
def DR (f:FuncId) (j:cj->List Int->Prop) (e:cj->List Int->SV):cU where
 f:=f;α:=cj×Nat×List Int;put a:=[cO.put a.1,.ow 0 a.2.1 1];st a:=[.row (.i .i64) a.2.2 3 true];dec v o:=match v,o with
  |[p,.ow 0 n 1],[.row s l 3 true]=>match cO.dec p,gG s (.i .i64) l with
   |some p,some l=>some (p,n,l)
   |_,_=>none
  |_,_=>none;ok v o a h:=by
  split at h
  ·split at h
   ·rename_i c d;simp only[γ] at h;subst h;obtain⟨rfl,k⟩:=lF d;cases k;exact⟨by simp only[gL,cO.ok _ _ c],rfl⟩
   ·cases h
  ·cases h
 inj a b c d:=by
  obtain⟨p,n,l⟩:=a;obtain⟨m,q,r⟩:=b;simp only[gL,Δ,and_true,SV.g,εA,true_and] at c;simp only[gO,π,γr,iZ.g,Δ,OL.cells.injEq,and_true] at d;rw[cO.inj p m c.1,nx (s:=.i .i64) d,c.2.1]
 dom a:=a.2.1=a.2.2.length/\j a.1 a.2.2;res a:=e a.1 a.2.2;out a:=[.row (.i .i64) a.2.2 3 true]
theorem wI {L:List M9} {W:List cU} (c:cU) (Λ:c.α->Nat->bG) (i:∀c∈W,dA Tryz.prog c) (e:∀c∈L,Holds Tryz.prog c)
  
  (h:∀a,c.dom a->Vc (Aa (kx L (fT W) mi ml fQ) (Λ a) (fG c.f) (c.put a) (c.st a) λv s=>v.bi (c.res a)/\jY s (c.out a))) (j:(fQ c.f).isSome=true:=by kernel_rfl) (b:∀a,(c.put a).length=(fG c.f).params:=by intro _;kernel_rfl) (d:mR c.f W=none:=by kernel_rfl):dA Tryz.prog c:=
 λa g=>SC c pJ i e (xl j) b a d (h a g).out
noncomputable def DQ:cU:=DR 135 (λp f=>nW p=0/\f.length=p.bj.length) λp f=>nI (κ (fJ p f))
def Sm (p:cj) (f:List Int):Nat->bG
 |3=> .inv Int (λi=>⟨[(2,.ptr 1 0 20),(4,.ptr 2 0 3),(5,.si .i64 (fJ p (f.take i.toNat))),(8,.ow 0 f.length 1),(9,.si .i64 f.length),(10,.si .i64 i)],[.row (.i .i64) f 3 true,.cells p.ss 27 20 false,.cells [.bl false,.sc (.slice none 0 0),.sc (.slice none 0 0)] 177 3 false]⟩)
   (λs=>iS s 10) (λi=>0<=i/\i<=f.length) (λi=>(f.length - i).toNat) λ_ _=> .look
 |_=> .look
theorem yX:dA Tryz.prog DQ:=by
 refine wI (L:=[mj]) (W:=[]) DQ (λa=>Sm a.1 a.2.2) (by simp) (by simpa using nH) ?_;rintro⟨p,n,f⟩ ⟨hn,⟨hc,hl⟩⟩;simp only at hn;subst hn;simp only at hc hl;refine NH (let a:=γf .i64;let b:=(0:Int);let c:=Ψ;let j:=γK 1 0 20;let k:=γK 2 0 3;let t:=γv .i64 0;let l:=γW 0 f.length 1;let d:=(↑f.length:Int);let m:=a d;let e:=iZ.row (ew.i .i64) f 3 true;let n:=iZ.cells (cj.ss p) 27 20 false;let v:=SV.sc (Value.slice none 0 0);let o:=iZ.cells [δd false,v,v] 177 3 false;let q:=ew.i .u32;let r:=nf (κ (fJ p f));(((j.bi j/\k.bi k/\t.bi (a (fJ p []))/\l.bi l/\m.bi m/\t.bi (a 0)/\True)/\e.bi e/\n.bi n/\o.bi o/\True)/\b<=b/\b<=d)/\∀(x:Int),let g:=x+(1:Int);let w:=a g;let y:=decide (bN f x.toNat b=(1:Int));let h:=fJ p (Γ x.toNat f);let z:=h+(bN p.bj x.toNat ew.bu.bw).value;let s:=nf (κ h);let A:=λ(u:Int) ↦VI .i64 g/\((j.bi j/\k.bi k/\(a u).bi (a (fJ p (Γ g.toNat f)))/\l.bi l/\m.bi m/\w.bi w/\True)/\e.bi e/\n.bi n/\o.bi o/\True)/\(b<=g/\g<=d)/\(d - g).toNat<(d - x).toNat;b<=x/\x<=d->(decide (x<d)=true->f.length=f.length/\b<=x/\x<(↑f.length:Int)/\f.length=f.length/\x.toNat<f.length/\(y=true->b<=x/\x<(↑p.bj.length:Int)/\x.toNat<p.bj.length/\VI .i64 z/\A z)/\(y=false->A h))/\(decide (x<d)=false->((-9223372036854775808:Int)<=h/\h<=(9223372036854775807:Int))/\(γJ [γy s.1,c q s.2.1,c q s.2.2]).bi (γJ [γy r.1,c q r.2.1,c q r.2.2])/\e.bi e/\True)) (by kernel_rfl) ?_;simp only[vcs];have h160:=(cT hc).2.1;refine⟨⟨by simp[fJ,Ao,bP,bJ],by omega,by omega⟩,?_⟩;rintro i ⟨i0,i1⟩;have hb:=@wL p hc f i.toNat hl;refine⟨λhi=>?_,λhi=>?_⟩
 ·have hs:=@Ke p f i i0 hi;have ho:=jP hc (i:=i) ⟨i0,by omega⟩;have hv:(bN p.bj i.toNat ew.bu.bw).value=(oI p i).value:=rfl;rw[hv];refine⟨i0,hi,by omega,λh1=>?_,λh1=>?_⟩
  ·rw[if_pos h1] at hs;refine⟨i0,?_,?_,?_,?_,?_,?_,?_⟩<;>omega
  ·rw[if_neg h1] at hs;refine⟨?_,?_,?_,?_⟩<;>omega
 ·rw[show f.take i.toNat=f by rw[show i.toNat=f.length by omega,ψ]] at hb ⊢;exact⟨by omega,rfl⟩
noncomputable def DP:cU:=DR 132 (λp f=>(nW p=0/\f.length=p.bj.length)/\iW f=true) λp f=> .Gz [.agg [.row sF (lr p f).1,.row sR (lr p f).2.1],.row (.i .i64) (lr p f).2.2,.si .i64 (if fZ p f=true then 0 else 14)]
def Kt (p:cj) (f:List Int) (l:List Int) (m:List bC):TN:=[.row (.i .i64) f 3 true,.cells p.ss 27 20 false,.cells [.sc (.slice none 0 0),.sc (.slice none 0 0)] 217 2 false,.row (.i .i64) l 3 true,.row .bu m 65 true]
def BX (p:cj) (f:List Int) (l:List Int) (m:List bC) (k0 k1:Nat) (rs:List (List NG×NG)) (g:List NG):TN:=Kt p f l m++[.cells p.ss 87 20 false,.cells [.ow 8 k0 3,.ow 7 k1 4] 217 2 false,.row sR rs 249 false,.row sF g 177 false]
def Sl (p:cj) (f:List Int):Nat->bG
 |9=> .inv Int (λi=>⟨[(2,.ptr 1 0 20),(4,.ptr 2 0 2),(8,.ow 3 (Ao (f.take i.toNat) 0).length 1),(9,.ow 4 (Ao (f.take i.toNat) 1).length 8),(36,.ow 0 f.length 1),(37,.si .i64 f.length),(38,.si .i64 i)],Kt p f (Ao (f.take i.toNat) 0) ((Ao (f.take i.toNat) 1).map (oI p))⟩)
   (λs=>iS s 38) (λi=>0<=i/\i<=f.length) (λi=>(f.length - i).toNat) λ_ _=> .look
 |24=> .inv Int (λj=>⟨[(2,.ptr 1 0 20),(4,.ptr 2 0 2),(8,.ow 3 (Ao f 0).length 1),(9,.ow 4 (Ao f 1).length 8),(12,.ptr 5 0 20),(13,.ptr 6 0 2),(71,.ow 3 (Ao f 0).length 1),(72,.si .i64 (Ao f 0).length),(73,.si .i64 j)],BX p f (Ao f 0) ((Ao f 1).map (oI p)) j.toNat 0 [] (kO p f j.toNat)⟩)
   (λs=>iS s 73) (λj=>0<=j/\j<=(Ao f 0).length) (λj=>((Ao f 0).length - j).toNat) λ_ _=> .look
 |29=> .inv Int (λr=>⟨[(2,.ptr 1 0 20),(4,.ptr 2 0 2),(8,.ow 3 (Ao f 0).length 1),(9,.ow 4 (Ao f 1).length 8),(12,.ptr 5 0 20),(13,.ptr 6 0 2),(91,.si .i64 (cr p)),(92,.si .i64 r)],BX p f (Ao f 0) ((Ao f 1).map (oI p)) (Ao f 0).length r.toNat (lY p f r.toNat) (kO p f (Ao f 0).length)⟩)
   (λs=>iS s 92) (λr=>0<=r/\r<=cr p) (λr=>(cr p - r).toNat) λr k=>match k with
   |33=> .inv Int (λj=>⟨[(2,.ptr 1 0 20),(4,.ptr 2 0 2),(8,.ow 3 (Ao f 0).length 1),(9,.ow 4 (Ao f 1).length 8),(12,.ptr 5 0 20),(13,.ptr 6 0 2),(16,.si .i64 r),(17,.si .i64 (cB p r - bZ p (((Ao f 1).map (oI p)).take j.toNat) r)),(91,.si .i64 (cr p)),(92,.si .i64 r),(98,.ow 4 (Ao f 1).length 8),(99,.si .i64 (Ao f 1).length),(100,.si .i64 j)],BX p f (Ao f 0) ((Ao f 1).map (oI p)) (Ao f 0).length r.toNat (lY p f r.toNat) (kO p f (Ao f 0).length)⟩)
     (λs=>iS s 100) (λj=>0<=j/\j<=(Ao f 1).length) (λj=>((Ao f 1).length - j).toNat) λ_ _=> .look
   |39=> .inv Int (λj=>⟨[(2,.ptr 1 0 20),(4,.ptr 2 0 2),(8,.ow 3 (Ao f 0).length 1),(9,.ow 4 (Ao f 1).length 8),(12,.ptr 5 0 20),(13,.ptr 6 0 2),(16,.si .i64 r),(20,.ptr 9 0 4),(91,.si .i64 (cr p)),(92,.si .i64 r),(114,.ow 3 (Ao f 0).length 1),(115,.si .i64 (Ao f 0).length),(116,.si .i64 j)],BX p f (Ao f 0) ((Ao f 1).map (oI p)) (Ao f 0).length r.toNat (lY p f r.toNat) (kO p f (Ao f 0).length)++[.cells [.ow 10 j.toNat 3,.sb (nf ((cB p r - bZ p ((Ao f 1).map (oI p)) r:Int):Rat)).1,.row (.i .u32) (nf ((cB p r - bZ p ((Ao f 1).map (oI p)) r:Int):Rat)).2.1,.row (.i .u32) (nf ((cB p r - bZ p ((Ao f 1).map (oI p)) r:Int):Rat)).2.2] 249 4 false,.row sF (lZ p f r j.toNat) 177 false]⟩)
     (λs=>iS s 116) (λj=>0<=j/\j<=(Ao f 0).length) (λj=>((Ao f 0).length - j).toNat) λ_ _=> .look
   |_=> .look
 |_=> .look
theorem yZ:dA Tryz.prog DP:=by
 refine wI (L:=[mW,mj,AR,vQ,vS,vR]) (W:=[]) DP (λa=>Sl a.1 a.2.2) (by simp) (by simpa using⟨oi,nH,yS,qT,qS,qR⟩) ?_;rintro⟨p,n,f⟩ ⟨hn,⟨⟨hc,hl⟩,hr⟩⟩;simp only at hn;subst hn;simp only at hc hl hr;refine NH (let a:=γf .i64;let c:=(0:Int);let d:=iZ.row;let e:=iZ.cells;let g:=γW;let h:=(-9223372036854775808:Int);let j:=Ψ;let k:=(1:Int);let l:=(9223372036854775807:Int);let m:=VI .i64;let n:=γv .i64;let o:=γK;let q:=γJ;let r:=SV.Gz;let R:=SV.sc (Value.slice none 0 0);let L:=ew.i .i64;let ah:=r [q [j sF (lr p f).1,j sR (lr p f).2.1],j L (lr p f).2.2,a (if fZ p f=true then c else(14:Int))];let s:=d L f 3 true;let I:=(↑f.length:Int);let ai:=p.bj.length;let ae:=(↑ai:Int);let t:=o 1 0 20;let v:=o 2 0 2;let Z:=g 0 f.length 1;let a6:=a I;let a7:=n 0;let aM:=[a p.bm.a0,a p.bm.a1,a p.bm.a2,a p.bm.a3,a p.bm.a4,a p.bm.a5,a p.bs.a0,a p.bs.a1,a p.bs.a2,a p.bs.a3,a p.bs.a4,a p.bs.a5,a p.bt.a0,a p.bt.a1,a p.bt.a2,a p.bt.a3,a p.bt.a4,a p.bt.a5,j L p.bk,j ew.bu p.bj];let w:=e aM 27 20 false;let y:=e [R,R] 217 2 false;let aN:=d ew.bu [] 65 true;let aj:=ew.bu.bw;let ay:=(↑p.bk.length:Int);let a8:=ew.i .u32;let a9:=ew.b.pair (a8.qE.pair a8.qE);let az:=a9.qE.pair a9;let H:=Ao f c;let N:=H.length;let z:=g 3 N 1;let z25:Nat:=(Ao f k).length;let A:=g 4 z25 8;let B:=o 5 0 20;let C:=o 6 0 2;let E:=(↑N:Int);let V:=a E;let F:=d L H 3 true;let P:=γd (oI p) (Ao f k);let G:=d ew.bu P 65 true;let D:=e aM 87 20 false;let af:=[g 7 0 4];let aO:=e (g 8 0 3::af) 217 2 false;let ak:=d sR [] 249 false;let aP:=d a9 [] 177 false;let J:=a (cr p);let al:=g 8 N 3;let aA:=kO p f N;let M:=d sF aA 177 false;let S:=(↑z25:Int);let am:=a S;let an:=o 9 0 4;let aQ:=g 10 0 3;let aR:=λ(u u_1:Int) (u_2:SV) ↦decide (u≠u_1)=true->(r [q [R,R],R,u_2]).bi ah/\s.bi s/\True;True/\aR (nW p) c (a (nW p))/\(decide (nW p≠c)=false->aR I ae (n 3)/\(decide (I≠ae)=false->(((t.bi t/\v.bi v/\(g 3 0 1).bi (g 3 (Ao [] c).length 1)/\(g 4 0 8).bi (g 4 (Ao [] k).length 8)/\Z.bi Z/\a6.bi a6/\a7.bi (a 0)/\True)/\s.bi s/\w.bi w/\y.bi y/\(d L [] 3 true).bi (d L (Ao [] c) 3 true)/\aN.bi aN/\True)/\c<=c/\c<=I)/\∀(x:Int),let ao:=Ao (Γ x.toNat f) k;let aS:=g 4 ao.length 8;let O:=x+k;let ap:=Γ O.toNat f;let aT:=g 4 (Ao ap k).length 8;let aq:=a O;let aU:=g 3 (Ao ap c).length 1;let aV:=d L (Ao ap c) 3 true;let Q:=γd (oI p) ao;let aW:=d ew.bu Q 65 true;let aX:=d ew.bu (γd (oI p) (Ao ap k)) 65 true;let aB:=bN f x.toNat c;let aY:=decide (aB=(-1:Int));let aa:=Ao (Γ x.toNat f) c;let ar:=aa.length;let aC:=d L aa 3 true;let aZ:=decide (aB=c);let b0:=aa.length+1;let b1:=decide (aB=k);let b2:=Q.length+1;let aD:=g 3 ar 1;let b3:=Q++[bN p.bj x.toNat aj];let bh:=aS.bi aT/\Z.bi Z/\a6.bi a6/\aq.bi aq/\True;let b4:=λ(u:Nat) (u_1:iZ) ↦m O/\((t.bi t/\v.bi v/\(g 3 u 1).bi aU/\bh)/\s.bi s/\w.bi w/\y.bi y/\u_1.bi aV/\aW.bi aX/\True)/\(c<=O/\O<=I)/\(I - O).toNat<(I - x).toNat;c<=x/\x<=I->(decide (x<I)=true->f.length=f.length/\c<=x/\x<(↑f.length:Int)/\f.length=f.length/\x.toNat<f.length/\(aY=true->b4 ar aC)/\(aY=false->(aZ=true->ar=aa.length/\b0*8<=140737488355328/\b0<=1000000000000/\b4 (aa++[x]).length (d L (aa++[x]) 3 true))/\(aZ=false->(b1=true->c<=x/\x<ae/\x.toNat<ai/\ao.length=Q.length/\b2*64<=140737488355328/\b2<=1000000000000/\m O/\((t.bi t/\v.bi v/\aD.bi aU/\(g 4 b3.length 8).bi aT/\Z.bi Z/\a6.bi a6/\aq.bi aq/\True)/\s.bi s/\w.bi w/\y.bi y/\aC.bi aV/\(d ew.bu b3 65 true).bi aX/\True)/\(c<=O/\O<=I)/\(I - O).toNat<(I - x).toNat)/\(b1=false->(r [q [R,R],R,n 4]).bi ah/\s.bi s/\True))))/\(decide (x<I)=false->ao.length=Q.length/\(p.bk.length<=8/\Q.length<=1000/\∀(x:bC),x∈Q->c<=x.OA/\x.OA<ay/\x.bx.ok=true)/\((!fj p Q)=true->0=0/\0=0/\0=0/\(r [q [j a9 [],j az []],j L [],n 14]).bi ah/\s.bi s/\True)/\((!fj p Q)=false->(((t.bi t/\v.bi v/\aD.bi z/\aS.bi A/\B.bi B/\C.bi C/\aD.bi z/\(a (↑ar:Int)).bi V/\a7.bi (a 0)/\True)/\s.bi s/\w.bi w/\y.bi y/\aC.bi F/\aW.bi G/\D.bi D/\aO.bi aO/\(d az [] 249 false).bi ak/\aP.bi (d sF (kO p f 0) 177 false)/\True)/\c<=c/\c<=E)/\∀(x:Int),let au:=bN H x.toNat c;let aE:=(bN p.bj au.toNat aj).value;let av:=kO p f x.toNat;let b5:=av.length+1;let W:=x+k;let b6:=a W;let aF:=nf (κ aE);let b7:=av++[(aF.1,aF.2.1,aF.2.2)];c<=x/\x<=E->(decide (x<E)=true->N=H.length/\c<=x/\x<(↑H.length:Int)/\N=H.length/\x.toNat<H.length/\c<=au/\au<ae/\au.toNat<ai/\(h<=aE/\aE<=l)/\1=1/\x.toNat=av.length/\b5*56<=140737488355328/\b5<=1000000000000/\m W/\((t.bi t/\v.bi v/\z.bi z/\A.bi A/\B.bi B/\C.bi C/\z.bi z/\V.bi V/\b6.bi b6/\True)/\s.bi s/\w.bi w/\y.bi y/\F.bi F/\G.bi G/\D.bi D/\(e (g 8 b7.length 3::af) 217 2 false).bi (e (g 8 W.toNat 3::af) 217 2 false)/\ak.bi ak/\(d a9 b7 177 false).bi (d sF (kO p f W.toNat) 177 false)/\True)/\(c<=W/\W<=E)/\(E - W).toNat<(E - x).toNat)/\(decide (x<E)=false->p.bk.length<=8/\(((t.bi t/\v.bi v/\z.bi z/\A.bi A/\B.bi B/\C.bi C/\J.bi J/\a7.bi (a 0)/\True)/\s.bi s/\w.bi w/\y.bi y/\F.bi F/\G.bi G/\D.bi D/\(e (g 8 x.toNat 3::af) 217 2 false).bi (e (al::af) 217 2 false)/\ak.bi (d sR (lY p f 0) 249 false)/\(d sF av 177 false).bi M/\True)/\c<=c/\c<=cr p)/\∀(x:Int),let b8:=decide (x<cr p);let T:=e [al,g 7 x.toNat 4] 217 2 false;let ab:=lY p f x.toNat;let U:=d sR ab 249 false;let ac:=nf (κ (cB p x - bZ p P x));let aG:=[γy ac.1,j a8 ac.2.1,j a8 ac.2.2];let b9:=ab.length+1;let X:=x+k;let ba:=a X;c<=x/\x<=cr p->(b8=true->(p.bk.length<=8/\c<=x/\x<cr p)/\(((t.bi t/\v.bi v/\z.bi z/\A.bi A/\B.bi B/\C.bi C/\(a x).bi (a x)/\(a (cB p x)).bi (a (cB p x - bZ p [] x))/\J.bi J/\(a x).bi (a x)/\A.bi A/\am.bi am/\a7.bi (a 0)/\True)/\s.bi s/\w.bi w/\y.bi y/\F.bi F/\G.bi G/\D.bi D/\T.bi T/\U.bi U/\M.bi M/\True)/\c<=c/\c<=S)/\∀(x_1:Int),let aH:=bN P x_1.toNat aj;let aw:=cB p x - bZ p (Γ x_1.toNat P) x;let bb:=aw - dv p x aH;let ad:=x_1+k;let K:=a x;let bc:=a ad;let aI:=nf (κ aw);c<=x_1/\x_1<=S->(decide (x_1<S)=true->z25=P.length/\c<=x_1/\x_1<(↑P.length:Int)/\z25=P.length/\x_1.toNat<P.length/\(p.bk.length<=8/\c<=x/\x<cr p/\c<=aH.OA/\aH.OA<ay)/\m bb/\m ad/\((t.bi t/\v.bi v/\z.bi z/\A.bi A/\B.bi B/\C.bi C/\K.bi K/\(a bb).bi (a (cB p x - bZ p (Γ ad.toNat P) x))/\J.bi J/\K.bi K/\A.bi A/\am.bi am/\bc.bi bc/\True)/\s.bi s/\w.bi w/\y.bi y/\F.bi F/\G.bi G/\D.bi D/\T.bi T/\U.bi U/\M.bi M/\True)/\(c<=ad/\ad<=S)/\(S - ad).toNat<(S - x_1).toNat)/\(decide (x_1<S)=false->(h<=aw/\aw<=l)/\(((t.bi t/\v.bi v/\z.bi z/\A.bi A/\B.bi B/\C.bi C/\K.bi K/\an.bi an/\J.bi J/\K.bi K/\z.bi z/\V.bi V/\a7.bi (a 0)/\True)/\s.bi s/\w.bi w/\y.bi y/\F.bi F/\G.bi G/\D.bi D/\T.bi T/\U.bi U/\M.bi M/\(e [aQ,γy aI.1,j a8 aI.2.1,j a8 aI.2.2] 249 4 false).bi (e (aQ::aG) 249 4 false)/\aP.bi (d sF (lZ p f x 0) 177 false)/\True)/\c<=c/\c<=E)/\∀(x_2:Int),let ax:=bN H x_2.toNat c;let aJ:=bN p.bj ax.toNat aj;let aK:=dv p x aJ;let ag:=lZ p f x x_2.toNat;let bd:=ag.length+1;let Y:=x_2+k;let be:=a Y;let aL:=nf (κ aK);let bf:=ag++[(aL.1,aL.2.1,aL.2.2)];let bg:=ab++[(ag,ac.1,ac.2.1,ac.2.2)];c<=x_2/\x_2<=E->(decide (x_2<E)=true->N=H.length/\c<=x_2/\x_2<(↑H.length:Int)/\N=H.length/\x_2.toNat<H.length/\c<=ax/\ax<ae/\ax.toNat<ai/\(p.bk.length<=8/\c<=x/\x<cr p/\c<=aJ.OA/\aJ.OA<ay)/\(h<=aK/\aK<=l)/\1=1/\x_2.toNat=ag.length/\bd*56<=140737488355328/\bd<=1000000000000/\m Y/\((t.bi t/\v.bi v/\z.bi z/\A.bi A/\B.bi B/\C.bi C/\K.bi K/\an.bi an/\J.bi J/\K.bi K/\z.bi z/\V.bi V/\be.bi be/\True)/\s.bi s/\w.bi w/\y.bi y/\F.bi F/\G.bi G/\D.bi D/\T.bi T/\U.bi U/\M.bi M/\(e (g 10 bf.length 3::aG) 249 4 false).bi (e (g 10 Y.toNat 3::aG) 249 4 false)/\(d a9 bf 177 false).bi (d sF (lZ p f x Y.toNat) 177 false)/\True)/\(c<=Y/\Y<=E)/\(E - Y).toNat<(E - x_2).toNat)/\(decide (x_2<E)=false->x_2.toNat=ag.length/\1=1/\x.toNat=ab.length/\b9*80<=140737488355328/\b9<=1000000000000/\m X/\((t.bi t/\v.bi v/\z.bi z/\A.bi A/\B.bi B/\C.bi C/\J.bi J/\ba.bi ba/\True)/\s.bi s/\w.bi w/\y.bi y/\F.bi F/\G.bi G/\D.bi D/\(e [al,g 7 bg.length 4] 217 2 false).bi (e [al,g 7 X.toNat 4] 217 2 false)/\(d az bg 249 false).bi (d sR (lY p f X.toNat) 249 false)/\M.bi M/\True)/\(c<=X/\X<=cr p)/\(cr p - X).toNat<(cr p - x).toNat)))/\(b8=false->N=aA.length/\x.toNat=ab.length/\N=H.length/\(r [q [j sF aA,j sR ab],j L H,a7]).bi ah/\s.bi s/\True))))))) (by kernel_rfl) ?_;simp only[vcs];obtain⟨g1,g2,g3,g4,g5⟩:=cT hc;have hoi:∀k:Nat,∀o:Int,o=k->(bN p.bj k ew.bu.bw)=oI p o:=λk o h=>by subst h;rfl
 have hw2:∀{a b:Nat},a=b->(γW 3 a 1).bi (γW 3 b 1):=by rintro _ _ rfl;rfl
 have hw3:∀{a b:Nat},a=b->(γW 4 a 8).bi (γW 4 b 8):=by rintro _ _ rfl;rfl
 have hrI:∀{x y:List Int},x=y->(iZ.row (.i .i64) x 3 true).bi (iZ.row (.i .i64) y 3 true):=by rintro _ _ rfl;rfl
 have hrO:∀{x y:List bC},x=y->(iZ.row .bu x 65 true).bi (iZ.row .bu y 65 true):=by rintro _ _ rfl;rfl
 refine⟨λh=>absurd hc h,λ_=>⟨λh=>absurd (by rw[hl]) h,λ_=>⟨⟨⟨⟨hw2 rfl,hw3 rfl⟩,hrI rfl⟩,by omega,by omega⟩,?_⟩⟩⟩;rintro i ⟨i0,i1⟩;have htl:(f.take i.toNat).length<=160:=by rw[γx];omega
 have hd0:=@rh (f.take i.toNat) 0;have hd1:=@rh (f.take i.toNat) 1;have hm1:(γd (oI p) (Ao (f.take i.toNat) 1)).length=(Ao (f.take i.toNat) 1).length:=Θ _;refine⟨λhi=>?_,λhi=>?_⟩
 ·have hs0:=@wM f 0 i i0 hi;have hs1:=@wM f 1 i i0 hi;have aYW: -1<=bN f i.toNat 0/\bN f i.toNat 0<=1:=by
   have:=χ.1 hr _ (cE (d:=0) (show i.toNat<f.length by omega));simpa using this
  refine⟨i0,hi,by omega,λh1=>?_,λh1=>⟨λh2=>?_,λh2=>⟨λh3=>?_,λh3=>by omega⟩⟩⟩
  ·rw[if_neg (by omega),γR] at hs0 hs1;rw[hs0,hs1];refine⟨?_,⟨⟨hw2 rfl,hw3 rfl⟩,hrI rfl,hrO rfl⟩,?_,?_⟩<;>omega
  ·rw[if_pos (by omega)] at hs0;rw[if_neg (by omega),γR] at hs1;rw[hs0,hs1];refine⟨?_,?_,?_,⟨⟨hw2 rfl,hw3 rfl⟩,hrI rfl,hrO rfl⟩,?_,?_⟩<;>omega
  ·rw[if_neg (by omega),γR] at hs0;rw[if_pos (by omega)] at hs1;rw[hs0,hs1,hoi i.toNat i (by omega),hm1];have e:γd (oI p) (Ao (f.take i.toNat) 1)++[oI p i]=γd (oI p) (Ao (f.take i.toNat) 1++[i]):=by rw[γa];rfl
   rw[e,Θ];refine⟨i0,?_,?_,rfl,?_,?_,?_,⟨⟨hw2 rfl,hw3 rfl⟩,hrI rfl,hrO rfl⟩,?_,?_⟩<;>omega
 ·have htk:f.take i.toNat=f:=by rw[show i.toNat=f.length by omega,ψ]
  rw[htk] at hd0 hd1 hm1 ⊢;have hdl:∀d,(Ao f d).length<=160:=λd=>by have:=@rh f d;omega
  refine⟨hm1.symm,⟨g1,by omega,λx hx=>?_⟩,λhb=>?_,λhb=>?_⟩
  ·obtain⟨k,hk,rfl⟩:=Ω.1 hx;have h1:=(jQ.1 hk).1;have:=jP hc (i:=k) (by omega);exact⟨this.1,this.2.1,this.2.2.1⟩
  ·have hb2:fZ p f=false:=hb;unfold lr;simp only[hb2];exact⟨rfl,rfl,rfl⟩
  ·have hb2:fZ p f=true:=hb;have hG:lr p f=((gB (iV p f)).1,((gB (iV p f)).2,Ao f 0)):=by unfold lr;rw[if_pos hb2]
   simp only[hb2,if_true,hG];have hfx:dV p f:=⟨hc,hl,hb⟩;have hrS:∀{x y:List NG},x=y->(iZ.row sF x 177 false).bi (iZ.row sF y 177 false):=by rintro _ _ rfl;rfl
   have hrR:∀{x y:List (List NG×NG)},x=y->(iZ.row sR x 249 false).bi (iZ.row sR y 249 false):=by rintro _ _ rfl;rfl
   have hc5:∀{a b c d:Nat},a=b->c=d->(iZ.cells [.ow 8 a 3,.ow 7 c 4] 217 2 false).bi (iZ.cells [.ow 8 b 3,.ow 7 d 4] 217 2 false):=by rintro _ _ _ _ rfl rfl;rfl
   have hc8:∀{a b:Nat} {q q':Rat},a=b->q=q'->(iZ.cells [.ow 10 a 3,.sb (nf q).1,.row (.i .u32) (nf q).2.1,.row (.i .u32) (nf q).2.2] 249 4 false).bi (iZ.cells [.ow 10 b 3,.sb (nf q').1,.row (.i .u32) (nf q').2.1,.row (.i .u32) (nf q').2.2] 249 4 false):=by rintro _ _ _ _ rfl rfl;rfl
   have hn0:=hdl 0;have hn1:=hdl 1;have hfree:∀j:Int,0<=j->j<(Ao f 0).length->(0<=bN (Ao f 0) j.toNat 0/\bN (Ao f 0) j.toNat 0<p.bj.length):=λj h0 h1=>by
    have:=(jQ.1 (cE (d:=0) (show j.toNat<(Ao f 0).length by omega))).1;omega
   refine⟨⟨⟨⟨hw2 rfl,hw3 rfl,hw2 rfl,trivial⟩,hrI rfl,hrO rfl,hrS rfl⟩,by omega,by omega⟩,?_⟩;rintro j ⟨j0,j1⟩;have hgl:=@Dr p f j.toNat (by omega);refine⟨λhj=>?_,λhj=>?_⟩
   ·have hk:=hfree j j0 hj;have ho:=jP hc hk;have hs:=@TS p f j j0 hj;have aVu:=@Dr p f (j+1).toNat (by omega);rw[hoi _ (bN (Ao f 0) j.toNat 0) (by omega)];simp only[iX];have e:kO p f j.toNat++[nf (κ (oI p (bN (Ao f 0) j.toNat 0)).value)]=kO p f (j+1).toNat:=hs.symm;rw[e];refine⟨j0,hj,?_,hk.1,hk.2,?_,?_,?_,?_,?_,?_,⟨hc5 aVu rfl,hrS rfl⟩,?_,?_⟩<;>omega
   ·rw[show j.toNat=(Ao f 0).length by omega];have hnr:cr p=p.bk.length+12:=rfl;refine⟨g1,⟨⟨hc5 rfl rfl,hrR rfl,hrS rfl⟩,by omega,by omega⟩,?_⟩;rintro r ⟨r0,r1⟩;have hrl:=@Ka p f r.toNat;refine⟨λhr2=>⟨⟨g1,r0,hr2⟩,⟨by simp[bZ],by omega,by omega⟩,?_⟩,λhr2=>?_⟩
    ·rintro k ⟨k0,k1⟩;have hok:∀x∈(γd (oI p) (Ao f 1)).take k.toNat,x.bx.ok=true:=λx hx=>(zP hfx x (γl hx)).2.2.1;have hsb:=@qt p r ((γd (oI p) (Ao f 1)).take k.toNat) hok;have aVv:((γd (oI p) (Ao f 1)).take k.toNat).length<=160:=by rw[γx];omega
     have hbb:=@yc p hc r;refine⟨λhk=>?_,λhk=>?_⟩
     ·have hx:=zP hfx _ (cE (d:=ew.bu.bw) (show k.toNat<(γd (oI p) (Ao f 1)).length by omega));have hst:=@Fh p r (γd (oI p) (Ao f 1)) k ew.bu.bw k0 (by omega);have hcb:=@nL p r _ hx.2.2.1;refine⟨?_,k0,?_,?_,?_,⟨g1,r0,hr2,hx.1,hx.2.1⟩,?_,?_,?_,?_,?_⟩<;>omega
     ·have e:(γd (oI p) (Ao f 1)).take k.toNat=γd (oI p) (Ao f 1):=List.take_of_length_le (by omega);rw[e] at hsb aVv ⊢;refine⟨by omega,⟨⟨hc8 rfl rfl,hrS rfl⟩,by omega,by omega⟩,?_⟩;rintro l ⟨l0,l1⟩;have hcl:=@Kb p f r l.toNat (by omega);refine⟨λhl2=>?_,λhl2=>?_⟩
      ·have hk:=hfree l l0 hl2;have ho:=jP hc hk;have hs:=@TR p f r l l0 hl2;have aVw:=@Kb p f r (l+1).toNat (by omega);have hcb:=@nL p r _ ho.2.2.1;rw[hoi _ (bN (Ao f 0) l.toNat 0) (by omega)];simp only[iX];have e:lZ p f r l.toNat++[nf (κ (dv p r (oI p (bN (Ao f 0) l.toNat 0))))]=lZ p f r (l+1).toNat:=hs.symm;rw[e];refine⟨l0,hl2,?_,hk.1,hk.2,?_,⟨g1,r0,hr2,ho.1,ho.2.1⟩,?_,?_,?_,?_,?_,⟨hc8 aVw rfl,hrS rfl⟩,?_,?_⟩<;>omega
      ·rw[show l.toNat=(Ao f 0).length by omega] at hcl ⊢;have hs:=@TQ p f r r0;have hrl2:=@Ka p f (r+1).toNat;simp only[iX];have e:lY p f r.toNat++[(lZ p f r (Ao f 0).length,nf (κ (cB p r - bZ p (γd (oI p) (Ao f 1)) r)))]=lY p f (r+1).toNat:=hs.symm;rw[e];refine⟨hcl.symm,hrl.symm,?_,?_,?_,⟨hc5 rfl hrl2,hrR rfl⟩,?_,?_⟩<;>omega
    ·have e:r.toNat=mF p:=by
      show r.toNat=p.bk.length+12;omega
     rw[e] at hrl ⊢;rw[Kd,Kc];refine⟨?_,hrl.symm.trans (by rw[Kc]),rfl,trivial,trivial⟩;rw[<-Kd];exact(Dr (Nat.le_refl _)).symm
noncomputable def DO:cU:=DR 100 (λp f=>f.length<=1000000000000) λp f=> .Gz [TG p f,.si .i64 (gZ p f)]
noncomputable def Ks (p:cj) (f:List Int) (x:List NG):TN:=
 [.row (.i .i64) f 3 true,.cells p.ss 27 20 false,.cells [.bl false,.bl false,.sc (.slice none 0 0),.sc (.slice none 0 0),.sc (.slice none 0 0),.sc (.slice none 0 0)] 179 6 false,.cells [.row sF (lr p f).1,.row sR (lr p f).2.1] 217 2 false,
  .cells [.si .i64 1,.sb (nf (cG p f).value).1,.row (.i .u32) (nf (cG p f).value).2.1,.row (.i .u32) (nf (cG p f).value).2.2,.row sF (fL (fm (cG p f) (nF f) (mF p))),.row sF (fL (gu p f)),.row sF []] 221 7 false,.row sF x 177 true]
noncomputable def Sk (p:cj) (f:List Int):Nat->bG
 |12=> .inv Int (λi=>⟨[(1,.ow 0 f.length 1),(2,.ptr 1 0 20),(4,.ptr 2 0 6),(8,.row (.i .i64) (Ao f 0)),(10,.ptr 4 0 7),(11,.ow 5 f.length 3),(45,.ow 0 f.length 1),(46,.si .i64 f.length),(47,.si .i64 i)],Ks p f (dT (fL (jh p f 0)) i.toNat (false,([],[])))⟩)
   (λs=>iS s 47) (λi=>0<=i/\i<=f.length) (λi=>(f.length - i).toNat) λ_ _=> .look
 |19=> .inv Int (λk=>⟨[(1,.ow 0 f.length 1),(2,.ptr 1 0 20),(4,.ptr 2 0 6),(10,.ptr 4 0 7),(11,.ow 5 f.length 3),(63,.row (.i .i64) (Ao f 0)),(64,.si .i64 (Ao f 0).length),(65,.si .i64 k)],Ks p f (fL (jh p f k.toNat))⟩)
   (λs=>iS s 65) (λk=>0<=k/\k<=(Ao f 0).length) (λk=>((Ao f 0).length - k).toNat) λ_ _=> .look
 |_=> .look
theorem y3:dA Tryz.prog DO:=by
 refine wI (L:=[zH,Ds,mj,sE]) (W:=[DP,DQ]) DO (λa=>Sk a.1 a.2.2) (by simpa using⟨yZ,yX⟩) (by simpa using⟨yL,Io,nH,o8⟩) ?_;rintro⟨p,n,f⟩ ⟨hn,hl:f.length<=1000000000000⟩;simp only at hn;subst hn;refine NH (let c:=γf .i64;let d:=(0:Int);let e:=Ψ;let g:=iZ.row;let h:=(-9223372036854775808:Int);let j:=(9223372036854775807:Int);let k:=iZ.cells;let l:=(1:Int);let m:=γy;let n:=SV.Gz;let o:=γK;let q:=γJ;let Q:=δd false;let v:=ew.i .u32;let a6:=ew.b.pair (v.qE.pair v.qE);let ah:=q [Q,Q,e v [],e v [],e a6 [],e a6 []];let ai:=[c (gZ p f)];let a7:=n (q [m (jb p f),m (js p f).1,e v (js p f).2.1,e v (js p f).2.2,e sF (oW p f),e sF (jI p f)]::ai);let R:=ew.i .i64;let t:=g R f 3 true;let aj:=decide (gZ p f≠d);let ak:=decide ((if fZ p f=true then d else(14:Int))≠d);let S:=γv .i64 0;let T:=(lr p f).1;let a8:=(lr p f).2.1;let a9:=c 0;let s:=(↑f.length:Int);let w:=γW 0 f.length 1;let y:=o 1 0 20;let z:=o 2 0 6;let J:=Ao f d;let G:=e R J;let A:=o 4 0 7;let H:=γW 5 f.length 3;let U:=c s;let B:=k [c p.bm.a0,c p.bm.a1,c p.bm.a2,c p.bm.a3,c p.bm.a4,c p.bm.a5,c p.bs.a0,c p.bs.a1,c p.bs.a2,c p.bs.a3,c p.bs.a4,c p.bs.a5,c p.bt.a0,c p.bt.a1,c p.bt.a2,c p.bt.a3,c p.bt.a4,c p.bt.a5,e R p.bk,e ew.bu p.bj] 27 20 false;let V:=SV.sc (Value.slice none 0 0);let C:=k [Q,Q,V,V,V,V] 179 6 false;let D:=k [e sF T,e sR a8] 217 2 false;let al:=c 1;let aa:=γd (λ(r:List NG×NG) ↦(vL r.1,TL r.2)) a8;let P:=lI (vL T,aa);let z31:Nat:=(vL T).length;let K:=nf (cG p f).value;let W:=fL (fm (cG p f) (nF f) (mF p));let am:=e sF (fL (gu p f));let I:=k [al,m K.1,e v K.2.1,e v K.2.2,e sF W,am,e sF []] 221 7 false;let X:=(false,[],[]);let Y:=fL (jh p f 0);let ab:=nf (κ d);let ac:=nf (κ l);let E:=(↑J.length:Int);let ad:=c E;let ae:=nf (κ (fJ p f));let an:=(ae.1,ae.2.1,ae.2.2);let ao:=(K.1,K.2.1,K.2.2);let af:=nf (TL an+TL ao);let ap:=λ(u:Bool) (u_1:SV) ↦u=true->0=0/\0=0/\0=0/\0=0/\(n [ah,u_1]).bi a7/\t.bi t/\True;f.length=f.length/\f.length<=1000000000000/\(aj=true->0=0/\0=0/\0=0/\0=0/\(n (ah::ai)).bi a7/\t.bi t/\True)/\(aj=false->(f.length=f.length/\(nW p=d/\f.length=p.bj.length)/\iW f=true)/\ap ak S/\(ak=false->(∃(a:Lp),(T,a8)=gB a/\wN a)/\ap false a9/\(false=false->d<=s/\s<=s/\s*(56:Int)<=(140737488355328:Int)/\s<=(1000000000000:Int)/\(((w.bi w/\y.bi y/\z.bi z/\(e R (lr p f).2.2).bi G/\A.bi A/\(γW 5 s.toNat 3).bi H/\w.bi w/\U.bi U/\S.bi a9/\True)/\t.bi t/\B.bi B/\C.bi C/\D.bi D/\(k [al,m (nf P.value).1,e v (nf P.value).2.1,e v (nf P.value).2.2,e sF (fL (fm P z31 aa.length)),e sF (fL (ix P z31 aa.length z31)),e sF []] 221 7 false).bi I/\(g a6 (δ s.toNat X) 177 true).bi (g sF (dT Y 0 X) 177 true)/\True)/\d<=d/\d<=s)/\∀(x:Int),let L:=x+l;let aq:=c L;let M:=dT Y x.toNat X;let ar:=decide (bN f x.toNat d=l);let N:=M.set x.toNat (ab.1,ab.2.1,ab.2.2);let au:=λ(u:List (Bool×List Int×List Int)) ↦VI .i64 L/\((w.bi w/\y.bi y/\z.bi z/\G.bi G/\A.bi A/\H.bi H/\w.bi w/\U.bi U/\aq.bi aq/\True)/\t.bi t/\B.bi B/\C.bi C/\D.bi D/\I.bi I/\(g sF u 177 true).bi (g sF (dT Y L.toNat X) 177 true)/\True)/\(d<=L/\L<=s)/\(s - L).toNat<(s - x).toNat;d<=x/\x<=s->(decide (x<s)=true->f.length=f.length/\d<=x/\x<(↑f.length:Int)/\f.length=f.length/\x.toNat<f.length/\(h<=d/\d<=j)/\f.length=M.length/\d<=x/\x<(↑M.length:Int)/\f.length=M.length/\x.toNat<M.length/\(ar=true->(h<=l/\l<=j)/\f.length=N.length/\d<=x/\x<(↑N.length:Int)/\f.length=N.length/\x.toNat<N.length/\au (N.set x.toNat (ac.1,ac.2.1,ac.2.2)))/\(ar=false->au N))/\(decide (x<s)=false->(((w.bi w/\y.bi y/\z.bi z/\A.bi A/\H.bi H/\G.bi G/\(c (↑J.length:Int)).bi ad/\S.bi a9/\True)/\t.bi t/\B.bi B/\C.bi C/\D.bi D/\I.bi I/\(g sF M 177 true).bi (g sF Y 177 true)/\True)/\d<=d/\d<=E)/\∀(x:Int),let F:=fL (jh p f x.toNat);let Z:=bN J x.toNat d;let O:=x+l;let av:=c O;let ag:=bN W x.toNat sF.bw;d<=x/\x<=E->(decide (x<E)=true->d<=x/\x<(↑J.length:Int)/\x.toNat<J.length/\d<=x/\x<(↑W.length:Int)/\x.toNat<W.length/\f.length=F.length/\d<=Z/\Z<(↑F.length:Int)/\f.length=F.length/\Z.toNat<F.length/\VI .i64 O/\((w.bi w/\y.bi y/\z.bi z/\A.bi A/\H.bi H/\G.bi G/\ad.bi ad/\av.bi av/\True)/\t.bi t/\B.bi B/\C.bi C/\D.bi D/\I.bi I/\(g sF (F.set Z.toNat (ag.1,ag.2.1,ag.2.2)) 177 true).bi (g sF (fL (jh p f O.toNat)) 177 true)/\True)/\(d<=O/\O<=E)/\(E - O).toNat<(E - x).toNat)/\(decide (x<E)=false->(f.length=f.length/\nW p=d/\f.length=p.bj.length)/\(bL an/\bL ao)/\f.length=F.length/\f.length=F.length/\(n [q [δd true,m af.1,e v af.2.1,e v af.2.2,am,e sF F],S]).bi a7/\t.bi t/\True)))))) (by kernel_rfl) ?_;simp only[vcs];have hz:jb p f=false->(γJ [δd false,δd false,Ψ (ew.i IntKind.i64) [],Ψ (ew.i IntKind.i64) [],Ψ (ew.i IntKind.i64) [],Ψ (ew.i IntKind.i64) []]).bi
   (γJ [γy (jb p f),γy (js p f).1,Ψ (ew.i IntKind.u32) (js p f).2.1,Ψ (ew.i IntKind.u32) (js p f).2.2,Ψ sF (oW p f),Ψ sF (jI p f)]):=λh=>by
  unfold js oW jI;simp only[h];rfl
 refine⟨hl,λh=>hz (by unfold jb;rw[decide_eq_false h];rfl),λh=>?_⟩;have hx0:gZ p f=0:=γc.1 h;have hcl:nW p=0/\f.length=p.bj.length/\iW f=true:=by
  unfold gZ at hx0;split at hx0;·rename_i h1;exact absurd hx0 h1
  ·rename_i h1;split at hx0;·cases hx0
   ·rename_i h2;split at hx0;·rename_i h3;exact⟨γc.1 h1,γc.1 h2,h3⟩
    ·cases hx0
 obtain⟨hc,hln,hr⟩:=hcl;refine⟨⟨⟨hc,hln⟩,hr⟩,λh1=>⟨hz ?_,hx0.symm⟩,λh1=>?_⟩
 ·have hb:fZ p f=false:=by
   cases hb:fZ p f with
   |false=>rfl;|true=>rw[hb] at h1;exact absurd rfl h1
  unfold jb;rw[hb,Bool.and_false]
 ·have hb:fZ p f=true:=by
   cases hb:fZ p f with
   |true=>rfl;|false=>rw[hb] at h1;exact absurd (by simp) h1
  have hfx:dV p f:=⟨hc,hln,hb⟩;have hG:lr p f=((gB (iV p f)).1,((gB (iV p f)).2,Ao f 0)):=by unfold lr;rw[if_pos hb]
  have hok:jb p f=true:=by unfold jb;rw[hb,decide_eq_true hx0];rfl
  have h0:(κ 0:Rat)=0:=rfl;have h1':(κ 1:Rat)=1:=rfl;simp only[hG,Kh,Kg,h0,h1',iX];have e1:(iV p f).1.length=nF f:=by
   show((Ao f 0).map _).length=_;rw[Θ]
  have e2:(iV p f).2.length=mF p:=by
   show((bP (mF p)).map _).length=_;rw[Θ,eY]
  have aEn:((iV p f).1,(iV p f).2)=iV p f:=rfl;simp only[aEn,TK,e1,e2];have hrT:∀{x y:List NG},x=y->(iZ.row sF x 177 true).bi (iZ.row sF y 177 true):=by rintro _ _ rfl;rfl
  have hs0:=@uG p f 0;have hf0:=@eA (jh p f 0);have hpt:=@zL (cG p f) (nF f) (mF p);have hfp:=@eA (fm (cG p f) (nF f) (mF p));have hcast:∀k:Nat,((k:Nat):Int).toNat=k:=λk=>γm k;have hnf:nF f=(Ao f 0).length:=rfl;have hdl0:=@rh f 0;refine⟨⟨iV p f,rfl,TO hfx⟩,λh=>(by cases h),λ_=>⟨by omega,by omega,by omega,by omega,⟨⟨⟨trivial,by rw[hcast];rfl⟩,rfl,hrT (by rw[uL,hf0,hs0,hcast])⟩,by omega,by omega⟩,?_⟩⟩;rintro i ⟨i0,i1⟩;have hru:=@uM (fL (jh p f 0)) i.toNat (false,([],[])) (by omega);refine⟨λhi=>?_,λhi=>?_⟩
  ·have hv:bN (fL (jh p f 0)) i.toNat (false,([],[]))=nf (if bN f i.toNat 0=1 then 1 else 0):=by rw[iD (by omega),TH (by omega)]
   have hset:∀x:NG,x=nf (if bN f i.toNat 0=1 then 1 else 0)->(dT (fL (jh p f 0)) i.toNat (false,([],[]))).set i.toNat x=dT (fL (jh p f 0)) (i+1).toNat (false,([],[])):=λx hx=>by
    have:=uJ (d:=fL (jh p f 0)) (j:=i.toNat) (z:=(false,([],[]))) (x:=x) (by omega) (hx.trans hv.symm);rw[show(i+1).toNat=i.toNat+1 by omega];exact this
   rw[Φ];refine⟨i0,hi,by omega,by omega,by omega,i0,by omega,by omega,by omega,λh1=>⟨by omega,by omega,i0,by omega,by omega,by omega,by omega,hrT ?_,by omega,by omega⟩,λh1=>⟨by omega,hrT ?_,by omega,by omega⟩⟩
   ·rw[List.set_set];exact hset _ (by rw[if_pos h1])
   ·exact hset _ (by rw[if_neg h1])
  ·have hi2:i.toNat=(fL (jh p f 0)).length:=by omega
   rw[hi2,uK];refine⟨⟨hrT rfl,by omega,by omega⟩,?_⟩;rintro k ⟨k0,k1⟩;have hsk:=@uG p f k.toNat;have hfk:=@eA (jh p f k.toNat);refine⟨λhk=>?_,λhk=>?_⟩
   ·have hm:=(jQ.1 (cE (d:=0) (show k.toNat<(Ao f 0).length by omega))).1;have hv:bN (fL (fm (cG p f) (nF f) (mF p))) k.toNat sF.bw=nf (bN (fm (cG p f) (nF f) (mF p)) k.toNat 0):=iD (by omega);have hst:=@TI p f k.toNat (by omega);rw[hv];refine⟨k0,hk,by omega,k0,by omega,by omega,by omega,hm.1,by omega,by omega,by omega,by omega,hrT ?_,by omega,by omega⟩;rw[uI,show(k+1).toNat=k.toNat+1 by omega,hst]
   ·have hk2:k.toNat=nF f:=by omega
    rw[hk2] at hsk hfk ⊢;have hab:=@wL p hc f f.length hln;rw[ψ] at hab;have hsa:Sz 1 ((fJ p f:Int):Rat):=by
     unfold Sz;rw[Rat.num_intCast,Rat.den_intCast];omega
    have hsv:Sz 1000000 (cG p f).value:=by
     have:=(zO hfx).sw (mA hfx).1;exact this.2.2.2
    refine⟨⟨hc,hln⟩,⟨c_ hsa (by omega),c_ hsv (by omega)⟩,by omega,by omega,?_,hx0.symm⟩;unfold js oW jI;simp only[hok,if_true,dH];rfl
def DN:cU:=z_ 104 (List NG) (.one (cL sF)) (λx a=>ei x/\mX a/\a.length=x.p.bj.length) (λx a=>kr.put ⟨dL (vL a),bJ ((dL (vL a)).map (oI x.p))⟩) λx _=>x
def jG (x:List Rat) (k:Nat):List Int:=(bP k).filter λi=>decide (0<bN x i.toNat 0)
def kn (p:cj) (l:List Int):Int:=bJ (l.map (oI p))
def Sj (x:cV) (a:List NG):Nat->bG
 |3=>match x.en with
  |none=> .inv Int (λi=>⟨[(0,.ptr 0 0 28),(4,.ptr 3 0 2),(5,.ptr 5 0 2),(10,.row sF a),(11,.si .i64 a.length),(12,.si .i64 i)],
    x.uD++[.cells [.sc (.slice none 0 0),.si .i64 0] 40 2 false,.row (.i .i64) (jG (vL a) i.toNat) 3 true,.cells [.ow 4 (jG (vL a) i.toNat).length 1,.si .i64 (kn x.p (jG (vL a) i.toNat))] 40 2 false]⟩)
    (λs=>iS s 12) (λi=>0<=i/\i<=a.length) (λi=>(a.length - i).toNat) λ_ _=> .look
  |some m=> .inv Int (λi=>⟨[(0,.ptr 0 0 28),(4,.ptr 4 0 2),(5,.ptr 6 0 2),(10,.row sF a),(11,.si .i64 a.length),(12,.si .i64 i)],
    x.uC m++[.cells [.sc (.slice none 0 0),.si .i64 0] 40 2 false,.row (.i .i64) (jG (vL a) i.toNat) 3 true,.cells [.ow 5 (jG (vL a) i.toNat).length 1,.si .i64 (kn x.p (jG (vL a) i.toNat))] 40 2 false]⟩)
    (λs=>iS s 12) (λi=>0<=i/\i<=a.length) (λi=>(a.length - i).toNat) λ_ _=> .look
 |_=> .look
theorem Kr {x:List Rat} {i:Int} (i0:0<=i):jG x (i+1).toNat=if 0<bN x i.toNat 0 then jG x i.toNat++[i] else jG x i.toNat:=by
 unfold jG;rw[show(i+1).toNat=i.toNat+1 by omega,ob,List.filter_append,εC i0];grind
theorem Kq {p:cj} {x:List Rat} {k:Nat} (a:nW p=0) (g:k<=p.bj.length):(jG x k).length<=160/\0<=kn p (jG x k)/\kn p (jG x k)<=160000000:=by
 have e:(jG x k).length<=k:=by
  have:=δg (λi:Int=>decide (0<bN x i.toNat 0)) (bP k);rw[eY] at this;exact this
 have c:=oq (cT a) (l:=(jG x k).map (oI p)) λy b=>by
  obtain⟨i,d,rfl⟩:=Ω.1 b;have:=iF.1 (γt.1 d).1;exact cE (by omega)
 rw[Θ] at c;have f:=(cT a).2.1;grind[kn]
theorem Kp {p:cj} {l:List Int} {i:Int}:kn p (l++[i])=kn p l+(oI p i).value:=by
 simp_all[kn,mY,bJ]
theorem HZ:dA Tryz.prog DN:=by
 refine wI (L:=[qb]) (W:=[]) DN (λa=>Sj a.1 a.2) (by simp) (by simpa using sA) ?_;rintro⟨⟨p,ch,val,bp,en,k1,k2,bz,err,bq,fx⟩,a⟩ ⟨hok,⟨l,hx,hla,hz⟩,hl⟩;simp only at hok hx hla hl;subst hx;have hc:nW p=0:=hok.f.c;have h160:=(cT hc).2.1;have hll:=@eA l;have hl:(fL l).length=p.bj.length:=hl;cases en with
 |none=>
  refine NH (let a:=γf .i64;let b:=iZ.cells;let c:=iZ.row;let d:=(0:Int);let e:=Ψ;let f:=γW;let g:=γK;let r:=g 0 0 28;let s:=g 3 0 2;let t:=g 5 0 2;let C:=(↑(fL l).length:Int);let k:=(↑(fL l).length:Int);let v:=a k;let w:=γv .i64 0;let D:=a 0;let j:=ew.i .i64;let m:=b [a p.bm.a0,a p.bm.a1,a p.bm.a2,a p.bm.a3,a p.bm.a4,a p.bm.a5,a p.bs.a0,a p.bs.a1,a p.bs.a2,a p.bs.a3,a p.bs.a4,a p.bs.a5,a p.bt.a0,a p.bt.a1,a p.bt.a2,a p.bt.a3,a p.bt.a4,a p.bt.a5,e j p.bk,e ew.bu p.bj,e j ch,a val,γy bp,ζO (Fn.func 70) [] [],f 1 k1 5,f 2 k2 1,a bz,a err] 126 28 false;let n:=c Ap bq 108 true;let o:=c j fx 3 true;let E:=SV.sc (Value.slice none 0 0);let y:=b [E,D] 40 2 false;let z:=jG (vL (fL l)) 0;(((r.bi r/\s.bi s/\t.bi t/\(e sF (fL l)).bi (e sF (fL l))/\(a C).bi v/\w.bi D/\True)/\m.bi m/\n.bi n/\o.bi o/\(b [E,w] 40 2 false).bi y/\(c j [] 3 true).bi (c j z 3 true)/\(b [f 4 0 1,w] 40 2 false).bi (b [f 4 z.length 1,a (kn p z)] 40 2 false)/\True)/\d<=d/\d<=k)/\∀(x:Int),let q:=x+(1:Int);let F:=a q;let A:=jG (vL (fL l)) q.toNat;let B:=bN (fL l) x.toNat sF.bw;let G:=(B.1,B.2.1,B.2.2);let h:=jG (vL (fL l)) x.toNat;let H:=h.length+1;let I:=kn p h+(bN p.bj x.toNat ew.bu.bw).value;let J:=λ(u:iZ) (u_1:Nat) (u_2:Int) ↦VI .i64 q/\((r.bi r/\s.bi s/\t.bi t/\(e sF (fL l)).bi (e sF (fL l))/\v.bi v/\F.bi F/\True)/\m.bi m/\n.bi n/\o.bi o/\y.bi y/\u.bi (c j A 3 true)/\(b [f 4 u_1 1,a u_2] 40 2 false).bi (b [f 4 A.length 1,a (kn p A)] 40 2 false)/\True)/\(d<=q/\q<=k)/\(k - q).toNat<(k - x).toNat;let K:=λ(u:Bool) ↦decide (d<iY (TL G))=u;d<=x/\x<=k->(decide (x<k)=true->d<=x/\x<C/\x.toNat<(fL l).length/\bL G/\(K true->1=1/\h.length=h.length/\H*8<=140737488355328/\H<=1000000000000/\d<=x/\x<(↑p.bj.length:Int)/\x.toNat<p.bj.length/\VI .i64 I/\J (c j (h++[x]) 3 true) (h++[x]).length I)/\(K false->J (c j h 3 true) h.length (kn p h)))/\(decide (x<k)=false->h.length=h.length/\h.length=h.length/\h.length=h.length/\(γJ [e j h,a (kn p h)]).bi (γJ [e j (dL (vL (fL l))),a (bJ (γd (oI p) (dL (vL (fL l)))))])/\m.bi m/\n.bi n/\o.bi o/\True)) (by kernel_rfl) ?_;simp only[vcs];have hrI:∀{x y:List Int},x=y->(iZ.row (.i .i64) x 3 true).bi (iZ.row (.i .i64) y 3 true):=by rintro _ _ rfl;rfl
  have hcI:∀{x y:List Int} {v w:Int},x=y->v=w->(iZ.cells [.ow 4 x.length 1,.si .i64 v] 40 2 false).bi (iZ.cells [.ow 4 y.length 1,.si .i64 w] 40 2 false):=by rintro _ _ _ _ rfl rfl;rfl
  refine⟨⟨⟨rfl,hrI rfl,rfl⟩,by omega,by omega⟩,?_⟩;rintro i ⟨i0,i1⟩;have hb:=@Kq p (vL (fL l)) i.toNat hc (by omega);refine⟨λhi=>?_,λhi=>?_⟩
  ·have hv:bN (fL l) i.toNat sF.bw=nf (bN l i.toNat 0):=iD (by omega);have hq:=hz _ (cE (d:=0) (show i.toNat<l.length by omega));have ho:=(jP hc (i:=i) (by omega)).2.2.2;have hval:(bN p.bj i.toNat ew.bu.bw).value=(oI p i).value:=rfl;have hs:=@Kr (vL (fL l)) i i0;rw[hv,hval];rw[jR] at hs hb ⊢;simp only[iX,dH,rl];refine⟨i0,hi,by omega,c_ hq (by omega),λh=>?_,λh=>?_⟩
   ·rw[if_pos h] at hs;rw[hs,Kp];refine⟨?_,?_,i0,?_,?_,?_,?_,⟨hrI rfl,hcI rfl rfl⟩,?_,?_⟩<;>omega
   ·rw[if_neg h] at hs;rw[hs];refine⟨?_,⟨hrI rfl,hcI rfl rfl⟩,?_,?_⟩<;>omega
  ·rw[show i.toNat=(vL (fL l)).length by rw[jR];omega];rfl;|some m=>
  refine NH (let a:=γf .i64;let b:=iZ.cells;let c:=iZ.row;let d:=(0:Int);let e:=Ψ;let f:=γW;let g:=γK;let t:=g 0 0 28;let v:=g 4 0 2;let w:=g 6 0 2;let E:=(↑(fL l).length:Int);let k:=(↑(fL l).length:Int);let y:=a k;let z:=γv .i64 0;let F:=a 0;let j:=ew.i .i64;let n:=b [a p.bm.a0,a p.bm.a1,a p.bm.a2,a p.bm.a3,a p.bm.a4,a p.bm.a5,a p.bs.a0,a p.bs.a1,a p.bs.a2,a p.bs.a3,a p.bs.a4,a p.bs.a5,a p.bt.a0,a p.bt.a1,a p.bt.a2,a p.bt.a3,a p.bt.a4,a p.bt.a5,e j p.bk,e ew.bu p.bj,e j ch,a val,γy bp,ζO (Fn.func 116) [] [g 1 0 1],f 2 k1 5,f 3 k2 1,a bz,a err] 126 28 false;let o:=b [a m] 2 1 false;let q:=c Ap bq 108 true;let r:=c j fx 3 true;let G:=SV.sc (Value.slice none 0 0);let A:=b [G,F] 40 2 false;let B:=jG (vL (fL l)) 0;(((t.bi t/\v.bi v/\w.bi w/\(e sF (fL l)).bi (e sF (fL l))/\(a E).bi y/\z.bi F/\True)/\n.bi n/\o.bi o/\q.bi q/\r.bi r/\(b [G,z] 40 2 false).bi A/\(c j [] 3 true).bi (c j B 3 true)/\(b [f 5 0 1,z] 40 2 false).bi (b [f 5 B.length 1,a (kn p B)] 40 2 false)/\True)/\d<=d/\d<=k)/\∀(x:Int),let s:=x+(1:Int);let H:=a s;let C:=jG (vL (fL l)) s.toNat;let D:=bN (fL l) x.toNat sF.bw;let I:=(D.1,D.2.1,D.2.2);let h:=jG (vL (fL l)) x.toNat;let J:=h.length+1;let K:=kn p h+(bN p.bj x.toNat ew.bu.bw).value;let L:=λ(u:iZ) (u_1:Nat) (u_2:Int) ↦VI .i64 s/\((t.bi t/\v.bi v/\w.bi w/\(e sF (fL l)).bi (e sF (fL l))/\y.bi y/\H.bi H/\True)/\n.bi n/\o.bi o/\q.bi q/\r.bi r/\A.bi A/\u.bi (c j C 3 true)/\(b [f 5 u_1 1,a u_2] 40 2 false).bi (b [f 5 C.length 1,a (kn p C)] 40 2 false)/\True)/\(d<=s/\s<=k)/\(k - s).toNat<(k - x).toNat;let M:=λ(u:Bool) ↦decide (d<iY (TL I))=u;d<=x/\x<=k->(decide (x<k)=true->d<=x/\x<E/\x.toNat<(fL l).length/\bL I/\(M true->1=1/\h.length=h.length/\J*8<=140737488355328/\J<=1000000000000/\d<=x/\x<(↑p.bj.length:Int)/\x.toNat<p.bj.length/\VI .i64 K/\L (c j (h++[x]) 3 true) (h++[x]).length K)/\(M false->L (c j h 3 true) h.length (kn p h)))/\(decide (x<k)=false->h.length=h.length/\h.length=h.length/\h.length=h.length/\(γJ [e j h,a (kn p h)]).bi (γJ [e j (dL (vL (fL l))),a (bJ (γd (oI p) (dL (vL (fL l)))))])/\n.bi n/\o.bi o/\q.bi q/\r.bi r/\True)) (by kernel_rfl) ?_;simp only[vcs];have hrI:∀{x y:List Int},x=y->(iZ.row (.i .i64) x 3 true).bi (iZ.row (.i .i64) y 3 true):=by rintro _ _ rfl;rfl
  have hcI:∀{x y:List Int} {v w:Int},x=y->v=w->(iZ.cells [.ow 5 x.length 1,.si .i64 v] 40 2 false).bi (iZ.cells [.ow 5 y.length 1,.si .i64 w] 40 2 false):=by rintro _ _ _ _ rfl rfl;rfl
  refine⟨⟨⟨rfl,hrI rfl,rfl⟩,by omega,by omega⟩,?_⟩;rintro i ⟨i0,i1⟩;have hb:=@Kq p (vL (fL l)) i.toNat hc (by omega);refine⟨λhi=>?_,λhi=>?_⟩
  ·have hv:bN (fL l) i.toNat sF.bw=nf (bN l i.toNat 0):=iD (by omega);have hq:=hz _ (cE (d:=0) (show i.toNat<l.length by omega));have ho:=(jP hc (i:=i) (by omega)).2.2.2;have hval:(bN p.bj i.toNat ew.bu.bw).value=(oI p i).value:=rfl;have hs:=@Kr (vL (fL l)) i i0;rw[hv,hval];rw[jR] at hs hb ⊢;simp only[iX,dH,rl];refine⟨i0,hi,by omega,c_ hq (by omega),λh=>?_,λh=>?_⟩
   ·rw[if_pos h] at hs;rw[hs,Kp];refine⟨?_,?_,i0,?_,?_,?_,?_,⟨hrI rfl,hcI rfl rfl⟩,?_,?_⟩<;>omega
   ·rw[if_neg h] at hs;rw[hs];refine⟨?_,⟨hrI rfl,hcI rfl rfl⟩,?_,?_⟩<;>omega
  ·rw[show i.toNat=(vL (fL l)).length by rw[jR];omega];rfl
def DM:M9:=⟨105,List NG,.one (cL sF),mX,λx=> .Gz [.si .i64 ((iN (vL x)).getD 0),.sb (iN (vL x)).isSome]⟩
def jr:Option (Int×Rat)->NG
 |none=>(false,([],[]))
 |some (_,q)=>nf q
def sB:Option (Int×Rat)->Int
 |none=>0
 |some (i,_)=>i
def S4 (x:List NG):Nat->bG
 |6=> .inv Int (λi=>⟨[(4,.ptr 0 0 3),(6,.ptr 1 0 3),(7,.ptr 2 0 2),(8,.ptr 3 0 3),(17,.row sF x),(18,.si .i64 x.length),(19,.si .i64 i)],
   [.cells [.sb (nf (eM false 1 2)).1,.row (.i .u32) (nf (eM false 1 2)).2.1,.row (.i .u32) (nf (eM false 1 2)).2.2] 177 3 false,
    .cells [.sb (nf ((1:Int):Rat)).1,.row (.i .u32) (nf ((1:Int):Rat)).2.1,.row (.i .u32) (nf ((1:Int):Rat)).2.2] 177 3 false,
    .cells [.sb (iz (vL x) i.toNat).isSome,.si .i64 (sB (iz (vL x) i.toNat))] 237 2 false,
    .cells [.sb (jr (iz (vL x) i.toNat)).1,.row (.i .u32) (jr (iz (vL x) i.toNat)).2.1,.row (.i .u32) (jr (iz (vL x) i.toNat)).2.2] 177 3 false,.dead,.dead]⟩)
   (λs=>iS s 19) (λi=>0<=i/\i<=x.length) (λi=>(x.length - i).toNat) λ_ _=> .look
 |_=> .look
theorem S3 {q:Rat} {k:Nat} (h:Sz k q):Sz k (lp q):=by
 grind[lp,wT]
theorem Ko:mkRat 1 2=(1 / 2:Rat):=by
 grind[Rat.mkRat_eq_div]
theorem Kn:Sz 1 (1 / 2:Rat):=by
 grind[Ko,wV]
theorem DL {q:Rat} (h:Sz 1000 q):Sz 1002 (q - 1 / 2):=by
 rw[Rat.sub_eq_add_neg];exact wU h (j:=1) (wT Kn)
theorem HY:Holds Tryz.prog DM:=by
 refine bI (L:=[DT,mj,sf,qb,uj,wC,vW]) DM S4 (by simpa using⟨HW,nH,nE,sA,y9,Ci,qW⟩) ?_;rintro(x:List NG) ⟨l,hx,hl,hz⟩;refine NH (let a:=iZ.cells;let b:=Ψ;let c:=(0:Int);let d:=γf .i64;let e:=(9223372036854775807:Int);let f:=γy;let g:=(-9223372036854775808:Int);let h:=(1:Int);let j:=VI .i64;let k:=γK;let l:=δd false;let m:=(2:Int);let n:=ew.i .u32;let r:=k 0 0 3;let s:=k 1 0 3;let t:=k 2 0 2;let v:=k 3 0 3;let o:=(↑x.length:Int);let w:=d o;let R:=γv .i64 0;let y:=eM false h m;let z:=κ h;let F:=iz (vL x) 0;let B:=a [f (nf y).1,b n (nf y).2.1,b n (nf y).2.2] 177 3 false;let C:=a [f (nf z).1,b n (nf z).2.1,b n (nf z).2.2] 177 3 false;let S:=((nf z).1,(nf z).2.1,(nf z).2.2);let T:=((nf y).1,(nf y).2.1,(nf y).2.2);let U:=λ(u:Rat) ↦(a [f (nf u).1,b n (nf u).2.1,b n (nf u).2.2] 177 3 false).bi (a [f (nf u).1,b n (nf u).2.1,b n (nf u).2.2] 177 3 false);((g<=h/\h<=e)/\c<m/\m<=e)/\(g<=h/\h<=e)/\0=0/\0=0/\(((r.bi r/\s.bi s/\t.bi t/\v.bi v/\(b sF x).bi (b sF x)/\(d (↑x.length:Int)).bi w/\R.bi (d 0)/\True)/\U y/\U z/\(a [l,R] 237 2 false).bi (a [f F.isSome,d (sB F)] 237 2 false)/\(a [l,b n [],b n []] 177 3 false).bi (a [f (jr F).1,b n (jr F).2.1,b n (jr F).2.2] 177 3 false)/\iZ.dead.bi iZ.dead/\iZ.dead.bi iZ.dead/\True)/\c<=c/\c<=o)/\∀(x_1:Int),let p:=x_1+h;let D:=d p;let G:=iz (vL x) p.toNat;let N:=a [f G.isSome,d (sB G)] 237 2 false;let A:=bN x x_1.toNat sF.bw;let H:=(A.1,A.2.1,A.2.2);let E:=nf (TL H - TL T);let I:=(E.1,E.2.1,E.2.2);let V:=(nf (-TL I)).1;let K:=(nf (-TL I)).2;let O:=a [f (jr G).1,b n (jr G).2.1,b n (jr G).2.2] 177 3 false;let q:=iz (vL x) x_1.toNat;let W:=d (sB q);let X:=(V,K.1,K.2);let L:=((jr q).1,(jr q).2.1,(jr q).2.2);let M:=q.isSome==false&&(decide (sB q=c)&&true);let Y:=j p/\((r.bi r/\s.bi s/\t.bi t/\v.bi v/\(b sF x).bi (b sF x)/\w.bi w/\D.bi D/\True)/\B.bi B/\C.bi C/\(a [δd true,d x_1] 237 2 false).bi N/\(a [f V,b n K.1,b n K.2] 177 3 false).bi O/\iZ.dead.bi iZ.dead/\iZ.dead.bi iZ.dead/\True)/\(c<=p/\p<=o)/\(o - p).toNat<(o - x_1).toNat;let Z:=j p/\((r.bi r/\s.bi s/\t.bi t/\v.bi v/\(b sF x).bi (b sF x)/\w.bi w/\D.bi D/\True)/\B.bi B/\C.bi C/\(a [δd true,d x_1] 237 2 false).bi N/\(a [f E.1,b n E.2.1,b n E.2.2] 177 3 false).bi O/\iZ.dead.bi iZ.dead/\iZ.dead.bi iZ.dead/\True)/\(c<=p/\p<=o)/\(o - p).toNat<(o - x_1).toNat;let J:=j p/\((r.bi r/\s.bi s/\t.bi t/\v.bi v/\(b sF x).bi (b sF x)/\w.bi w/\D.bi D/\True)/\B.bi B/\C.bi C/\(a [f q.isSome,W] 237 2 false).bi N/\(a [f (jr q).1,b n (jr q).2.1,b n (jr q).2.2] 177 3 false).bi O/\iZ.dead.bi iZ.dead/\iZ.dead.bi iZ.dead/\True)/\(c<=p/\p<=o)/\(o - p).toNat<(o - x_1).toNat;let P:=bL I;let Q:=bL H;let a0:=λ(u:Bool) ↦decide (gN (TL X) (TL L)<c)=u;let a1:=λ(u:Bool) ↦decide (gN (TL I) (TL L)<c)=u;let a2:=λ(u:Bool) ↦decide (iY (TL I)<c)=u;let a3:=λ(u:Bool) ↦decide (c<=gN (TL H) (TL S))=u;let a4:=λ(u:Bool) ↦decide (iY (TL H)<=c)=u;let a5:=λ(u:Bool) ↦(!okF H)=u;c<=x_1/\x_1<=o->(decide (x_1<o)=true->c<=x_1/\x_1<(↑x.length:Int)/\x_1.toNat<x.length/\((ou A.2.1/\ou A.2.2)/\γb A.2.1<=10000000/\γb A.2.2<=10000000)/\(a5 true->J)/\(a5 false->Q/\(a4 true->J)/\(a4 false->(Q/\bL S)/\(a3 true->J)/\(a3 false->(Q/\bL T)/\P/\(a2 true->P/\(M=true->Y)/\(M=false->(bL X/\bL L)/\(a0 true->Y)/\(a0 false->J)))/\(a2 false->(M=true->Z)/\(M=false->(P/\bL L)/\(a1 true->Z)/\(a1 false->J)))))))/\(decide (x_1<o)=false->(SV.Gz [W,f q.isSome]).bi (SV.Gz [d ((iN (vL x)).getD c),f (iN (vL x)).isSome]))) (by kernel_rfl) ?_;simp only[vcs];subst hx;rw[eA] at hl;have hh:eM false 1 2=1 / 2:=Ko;simp only[jR,eA,hh];have hbr:∀{b c:Option (Int×Rat)},b=c->(iZ.cells [.sb b.isSome,.si .i64 (sB b)] 237 2 false).bi (iZ.cells [.sb c.isSome,.si .i64 (sB c)] 237 2 false):=by rintro _ _ rfl;rfl
 have hbd:∀{b c:Option (Int×Rat)},b=c->(iZ.cells [.sb (jr b).1,.row (.i .u32) (jr b).2.1,.row (.i .u32) (jr b).2.2] 177 3 false).bi (iZ.cells [.sb (jr c).1,.row (.i .u32) (jr c).2.1,.row (.i .u32) (jr c).2.2] 177 3 false):=by rintro _ _ rfl;rfl
 have f1:bL (nf (κ 1)):=c_ (k:=1) (by unfold Sz;decide) (by omega);have f2:bL (nf (1 / 2)):=c_ Kn (by omega);refine⟨⟨⟨by omega,by omega⟩,by omega,by omega⟩,⟨by omega,by omega⟩,⟨⟨rfl,rfl⟩,by omega,by omega⟩,?_⟩;rintro i ⟨i0,i1⟩;refine⟨λhi=>?_,λhi=>?_⟩
 ·have hv:bN (fL l) i.toNat sF.bw=nf (bN l i.toNat 0):=iD (by omega);have hq:=hz _ (cE (d:=0) (show i.toNat<l.length by omega));have hs:iz l (i+1).toNat=if 0<bN l i.toNat 0/\bN l i.toNat 0<1 then(match iz l i.toNat with
   |none=>some (i,lp (bN l i.toNat 0 - 1 / 2))
   |some (j,d)=>if lp (bN l i.toNat 0 - 1 / 2)<d then some (i,lp (bN l i.toNat 0 - 1 / 2)) else some (j,d)) else iz l i.toNat:=by
   rw[show(i+1).toNat=i.toNat+1 by omega];conv=>lhs;unfold iz
   rw[εC i0];cases iz l i.toNat<;>rfl
  have hbs:∀j d,iz l i.toNat=some (j,d)->bL (nf d):=λj d h=>by
   obtain⟨h1,h2,h3⟩:=Dh h;rw[h3];exact c_ (S3 (DL (hz _ (cE (by omega))))) (by omega)
  rw[hv,hs];generalize bN l i.toNat 0=q at*;generalize iz l i.toNat=B at*;simp only[iX,dH];obtain⟨_,⟨u1,u2,u3⟩,⟨u4,u5,u6⟩⟩:=kP q;obtain⟨m1,m2⟩:=ny hq;have hok:=BY q;have fq:bL (nf q):=c_ hq (by omega);have fd:bL (nf (q - 1 / 2)):=c_ (DL hq) (by omega);have fn:bL (nf (-(q - 1 / 2))):=c_ (wT (DL hq)) (by omega);refine⟨i0,hi,by omega,⟨⟨u1,u4⟩,by omega,by omega⟩,λh=>absurd hok (by rw[show okF (nf q)=false from h];simp),λ_=>⟨fq,λh1=>?_,λh1=>⟨⟨fq,f1⟩,λh2=>?_,λh2=>?_⟩⟩⟩
  ·rw[if_neg (λh=>by have:=rl.2 h.1;omega)];exact⟨by omega,⟨hbr rfl,hbd rfl⟩,by omega⟩
  ·rw[if_neg (λh=>by have:=qH.2 h.2;have e:gN q (κ 1)=gN q 1:=rfl;omega)];exact⟨by omega,⟨hbr rfl,hbd rfl⟩,by omega⟩
  ·have hp:0<q/\q<1:=⟨rl.1 (by omega),qH.1 (by have e:gN q (κ 1)=gN q 1:=rfl;omega)⟩;rw[if_pos hp];refine⟨⟨fq,f2⟩,fd,λh3=>?_,λh3=>?_⟩
   ·have ha:lp (q - 1 / 2)= -(q - 1 / 2):=by unfold lp;rw[if_pos (wQ.1 h3)]
    rw[ha];cases B with
    |none=>exact⟨fd,λ_=>⟨by omega,⟨rfl,rfl⟩,by omega⟩,λh=>absurd h (by decide)⟩;|some b=>
     obtain⟨j,d⟩:=b;dsimp only;refine⟨fd,λh=>absurd h.1 ζi,λ_=>⟨⟨fn,hbs j d rfl⟩,λh5=>?_,λh5=>?_⟩⟩
     ·rw[if_pos (qH.1 (by rw[<-dH d];exact h5))];exact⟨by omega,⟨rfl,rfl⟩,by omega⟩
     ·rw[if_neg (λh=>h5 (by rw[<-dH d] at h;exact qH.2 h))];exact⟨by omega,⟨hbr rfl,hbd rfl⟩,by omega⟩
   ·have ha:lp (q - 1 / 2)=q - 1 / 2:=by unfold lp;rw[if_neg (λh=>h3 (wQ.2 h))]
    rw[ha];cases B with
    |none=>exact⟨λ_=>⟨by omega,⟨rfl,rfl⟩,by omega⟩,λh=>absurd h (by decide)⟩;|some b=>
     obtain⟨j,d⟩:=b;dsimp only;refine⟨λh=>absurd h.1 ζi,λ_=>⟨⟨fd,hbs j d rfl⟩,λh5=>?_,λh5=>?_⟩⟩
     ·rw[if_pos (qH.1 (by rw[<-dH d];exact h5))];exact⟨by omega,⟨rfl,rfl⟩,by omega⟩
     ·rw[if_neg (λh=>h5 (by rw[<-dH d] at h;exact qH.2 h))];exact⟨by omega,⟨hbr rfl,hbd rfl⟩,by omega⟩
 ·rw[show i.toNat=l.length by omega];unfold iN;cases iz l l.length<;>exact⟨rfl,rfl⟩
noncomputable def s9 (n:Nat):cU:=z_ 72 Int (.one (dX .i64)) (λx a=>ei x/\(0<=a/\a<x.bq.length)/\nF x.fx<n) (λ_ _=> .Gz []) λx a=>x.iw (cQ x.p (bF x.en) x.bz (nF x.fx) x.s a x.fx)
noncomputable def BW (n:Nat):cU:=z_ 106 (Int×Int×Int) (.cons (dX .i64) (.cons (dX .i64) (.one (dX .i64)))) (λx a=>ei x/\(0<=a.1/\a.1<x.bq.length)/\(0<=a.2.1/\a.2.1<x.fx.length)/\bN x.fx a.2.1.toNat 0=0/\(a.2.2=1\/a.2.2= -1)/\nF (x.fx.set a.2.1.toNat a.2.2)<n) (λ_ _=> .Gz []) λx a=>x.iw (cQ x.p (bF x.en) x.bz (nF (x.fx.set a.2.1.toNat a.2.2)) x.s a.1 (x.fx.set a.2.1.toNat a.2.2))
theorem S2 {L:List M9} {W:List cU} (c:cU) (F:ey) (Λ:c.α->Nat->bG) (i:∀c∈W,dA Tryz.prog c) (e:∀c∈L,Holds Tryz.prog c)
  
  (h:∀a,c.dom a->Vc (Ac (kx L (fT W) mi ml fQ) (Λ a) F (c.put a) (c.st a) λv s=>v.bi (c.res a)/\jY s (c.out a))) (j:fQ c.f=some F:=by kernel_rfl) (b:∀a,(c.put a).length=F.params:=by intro _;kernel_rfl) (d:mR c.f W=none:=by kernel_rfl):dA Tryz.prog c:=
 λa g=>T4 c pJ i e j b a d (h a g).out
theorem ei.set {x:cV} (h:ei x) {k:Nat} {d:Int} (a:d=1\/d= -1):ei ⟨x.p,x.ch,x.val,x.bp,x.en,x.k1,x.k2,x.bz,x.err,x.bq,x.fx.set k d⟩:=
 ⟨⟨h.f.c,by rw[Φ];exact h.f.l,KG h.f.r (by omega)⟩,h.k1,by rw[Φ];exact h.k2,h.v0,h.v1,h.m0,h.m1,h.l,h.c⟩
theorem S1 {f:List Int} {k:Nat} {d:Int} (b:k<f.length) (a:bN f k 0=0):(f.set k d).set k 0=f:=by
 rw[b_ b] at a;rw[List.set_set,<-a,List.set_getElem_self]
theorem S0 {n:Nat} (hV:dA Tryz.prog (s9 n)):dA Tryz.prog (BW n):=by
 refine S2 (L:=[]) (W:=[s9 n]) (BW n) (fG 106) lk (by simpa using hV) (by simp) ?_;rintro⟨⟨p,ch,val,bp,en,k1,k2,bz,err,bq,fx⟩,a,k,d⟩ ⟨hok,ha,hk,h0,hd,hn⟩;simp only at hok ha hk h0 hd hn;have e2:k2=fx.length:=hok.k2;have hb:=S1 (d:=d) (show k.toNat<fx.length by omega) h0;have hr:∀{x y:List Int},x=y->(iZ.row (.i .i64) x 3 true).bi (iZ.row (.i .i64) y 3 true):=by rintro _ _ rfl;rfl
 cases en with
 |none=>
  have hs:=hok.set (k:=k.toNat) hd;refine NH (let b:=γf .i64;let c:=(0:Int);let e:=iZ.row;let f:=Ψ;let g:=fx.set k.toNat d;let j:=ew.i .i64;let h:=cQ p (bF none) bz (nF g) (cm.mk ch val bp bq err) a g;let l:=iZ.cells [b p.bm.a0,b p.bm.a1,b p.bm.a2,b p.bm.a3,b p.bm.a4,b p.bm.a5,b p.bs.a0,b p.bs.a1,b p.bs.a2,b p.bs.a3,b p.bs.a4,b p.bs.a5,b p.bt.a0,b p.bt.a1,b p.bt.a2,b p.bt.a3,b p.bt.a4,b p.bt.a5,f j p.bk,f ew.bu p.bj,f j h.ch,b h.val,γy h.bp,ζO (Fn.func 70) [] [],γW 1 h.bq.length 5,γW 2 k2 1,b bz,b h.err] 126 28 false;let m:=e Ap h.bq 108 true;k2=fx.length/\c<=k/\k<(↑fx.length:Int)/\k2=fx.length/\k.toNat<fx.length/\(ei (cV.mk p ch val bp none k1 k2 bz err bq g)/\(c<=a/\a<(↑bq.length:Int))/\nF g<n)/\k2=g.length/\c<=k/\k<(↑g.length:Int)/\k2=g.length/\k.toNat<g.length/\(SV.Gz []).bi (SV.Gz [])/\l.bi l/\m.bi m/\(e j (g.set k.toNat c) 3 true).bi (e j fx 3 true)/\True) (by kernel_rfl) ?_;conv=>zeta
  rw[Φ];exact⟨e2,hk.1,hk.2,e2,by omega,⟨hs,ha,hn⟩,e2,hk.1,hk.2,e2,by omega,rfl,rfl,rfl,hr hb,trivial⟩;|some m=>
  have hs:=hok.set (k:=k.toNat) hd;refine NH (let b:=γf .i64;let c:=(0:Int);let e:=iZ.row;let f:=Ψ;let g:=fx.set k.toNat d;let j:=ew.i .i64;let h:=cQ p (bF (some m)) bz (nF g) (cm.mk ch val bp bq err) a g;let l:=iZ.cells [b p.bm.a0,b p.bm.a1,b p.bm.a2,b p.bm.a3,b p.bm.a4,b p.bm.a5,b p.bs.a0,b p.bs.a1,b p.bs.a2,b p.bs.a3,b p.bs.a4,b p.bs.a5,b p.bt.a0,b p.bt.a1,b p.bt.a2,b p.bt.a3,b p.bt.a4,b p.bt.a5,f j p.bk,f ew.bu p.bj,f j h.ch,b h.val,γy h.bp,ζO (Fn.func 116) [] [γK 1 0 1],γW 2 h.bq.length 5,γW 3 k2 1,b bz,b h.err] 126 28 false;let o:=iZ.cells [b m] 2 1 false;let q:=e Ap h.bq 108 true;k2=fx.length/\c<=k/\k<(↑fx.length:Int)/\k2=fx.length/\k.toNat<fx.length/\(ei (cV.mk p ch val bp (some m) k1 k2 bz err bq g)/\(c<=a/\a<(↑bq.length:Int))/\nF g<n)/\k2=g.length/\c<=k/\k<(↑g.length:Int)/\k2=g.length/\k.toNat<g.length/\(SV.Gz []).bi (SV.Gz [])/\l.bi l/\o.bi o/\q.bi q/\(e j (g.set k.toNat c) 3 true).bi (e j fx 3 true)/\True) (by kernel_rfl) ?_;conv=>zeta
  rw[Φ];exact⟨e2,hk.1,hk.2,e2,by omega,⟨hs,ha,hn⟩,e2,hk.1,hk.2,e2,by omega,rfl,rfl,rfl,rfl,hr hb,trivial⟩
theorem Km {p:cj} {en:Int->Bool} {bz:Int} {f:List Int} (j:dN p f) {c b:cm->Int->List Int->cm} {s:cm} {a:Int}
  (h:∀k d:Int,(0<=k/\k<f.length)->bN f k.toNat 0=0->(d=1\/d= -1)->∀s a,c s a (f.set k.toNat d)=b s a (f.set k.toNat d)):ez p en bz c s a f=ez p en bz b s a f:=by
 unfold ez;split;·rfl
 split;·rfl
 rename_i o;have l:fZ p f=true:=by simp_all
 split;·rfl
 split;·rfl
 rename_i k n;split;·rfl
 obtain⟨e,i,g⟩:=qI n;rw[py] at e;have m:bN f k.toNat 0=0:=qJ (j.ok l) j.r (by omega) i g;simp_all
theorem wH {p:cj} {en:Int->Bool} {bz:Int} {f:List Int} (e:dN p f) {s:cm} {a:Int}:cQ p en bz (nF f) s a f=ez p en bz (λs a g=>cQ p en bz (nF g) s a g) s a f:=by
 have j:∀k d:Int,(0<=k/\k<f.length)->bN f k.toNat 0=0->(d=1\/d= -1)->nF f=nF (f.set k.toNat d)+1:=λk d c b i=>kN c b (by omega);cases h:nF f with
 |zero=>exact Km e λk d c b i=>by grind;|succ n=>
  refine Km e λk d c b i s a=>?_;grind
section
variable {p:cj} {en:Int->Bool} {bz:Int} {f:List Int} {s O:cm} {a k:Int}
theorem wG (b:dN p f) (h:s.err≠0\/s.bp=true):cQ p en bz (nF f) s a f=s:=by
 simp_all[wH,ez]
theorem Kl (c:dN p f) (h:¬(s.err≠0\/s.bp=true)) (b:fZ p f=false):cQ p en bz (nF f) s a f={s with bq:=s.bq.set a.toNat za}:=by
 simp_all[wH,ez]
theorem ux (c:dN p f) (h:¬(s.err≠0\/s.bp=true)) (b:fZ p f=true) (d:cC p en s f=O) (e:gY p f<((O.val+1:Int):Rat)):cQ p en bz (nF f) s a f={O with bq:=O.bq.set a.toNat (oV p f)}:=by
 simp_all[wH,ez]
theorem n9 (b:dN p f) (h:¬(s.err≠0\/s.bp=true)) (d:fZ p f=true) (c:cC p en s f=O) (g:¬gY p f<((O.val+1:Int):Rat)) (e:iN (cN p f)=none\/bz<(O.bq.length:Int)+2):cQ p en bz (nF f) s a f={O with err:=12}:=by
 subst c;rw[wH b];unfold ez;grind
theorem uw (d:dN p f) (h:¬(s.err≠0\/s.bp=true)) (b:fZ p f=true) (g:cC p en s f=O) (i:¬gY p f<((O.val+1:Int):Rat)) (c:iN (cN p f)=some k) (e:¬bz<(O.bq.length:Int)+2):
  cQ p en bz (nF f) s a f=cQ p en bz (nF (f.set k.toNat (-1))) (cQ p en bz (nF (f.set k.toNat 1)) (fH O a k) (O.bq.length+1) (f.set k.toNat 1)) O.bq.length (f.set k.toNat (-1)):=by
 simp_all[wH,ez,if_neg]
end
theorem ei.IU {x:cV} (h:ei x):ei (x.iw (cC x.p (bF x.en) x.s x.fx)):=by
 obtain⟨d,i,b,a,g⟩:=@Af x.p (bF x.en) x.s x.fx;obtain⟨m,j,k⟩:=KF h.f;have b:x.val<=(cC x.p (bF x.en) x.s x.fx).val:=b;have a:(cC x.p (bF x.en) x.s x.fx).val=x.val\/(cC x.p (bF x.en) x.s x.fx).val=(nv x.p x.fx).value:=a;have n:=h.v0;have o:=h.v1;refine⟨h.f,rfl,h.k2,?_,?_,h.m0,h.m1,?_,?_⟩
 ·show 0<=(cC x.p (bF x.en) x.s x.fx).val;omega
 ·show(cC x.p (bF x.en) x.s x.fx).val<=_;omega
 ·show(cC x.p (bF x.en) x.s x.fx).bq.length<=_;rw[d];exact h.l
 ·show(cC x.p (bF x.en) x.s x.fx).ch.length<=_;rcases g with e|e;·rw[e];exact h.c
  ·rw[e];omega
theorem ei.ug {x:cV} (h:ei x) {f:List Int} (i:dN x.p f) {n:Nat} {a:Int}:ei (x.iw (cQ x.p (bF x.en) x.bz n x.s a f)):=by
 obtain⟨m,g,b,d,k,q⟩:=@px x.p (bF x.en) x.bz n x.s a f i;have b:x.val<=(cQ x.p (bF x.en) x.bz n x.s a f).val:=b;have d:(cQ x.p (bF x.en) x.bz n x.s a f).val=x.val\/(cQ x.p (bF x.en) x.bz n x.s a f).val<=160000000:=d;have r:=h.v0;have t:=h.v1;have o:=h.m1;have j:=h.l;refine⟨h.f,rfl,h.k2,?_,?_,h.m0,h.m1,?_,?_⟩
 ·show 0<=(cQ x.p (bF x.en) x.bz n x.s a f).val;omega
 ·show(cQ x.p (bF x.en) x.bz n x.s a f).val<=_;omega
 ·show(cQ x.p (bF x.en) x.bz n x.s a f).bq.length<=_;rcases g with e|e;·omega
  ·rw[e];exact j
 ·show(cQ x.p (bF x.en) x.bz n x.s a f).ch.length<=_;rcases k with e|e;·rw[e];exact h.c
  ·omega
theorem ei.ui {x:cV} (h:ei x) (b:¬x.bz<(x.bq.length:Int)+2) {k:Nat} {l:List cz} (a:k=l.length) (d:l.length=x.bq.length+2):ei ⟨x.p,x.ch,x.val,x.bp,x.en,k,x.k2,x.bz,x.err,l,x.fx⟩:=
 ⟨h.f,a,h.k2,h.v0,h.v1,h.m0,h.m1,by have:=h.m1;grind,h.c⟩
structure iK where
 left:zi
 bs:zi
 bn:List Int
 value:Int
 won:List Bool
def nd (c w a:Int):Int:=if c=0\/c≠a then w else 0
def uv (p:cj) (x:bC):zi:=⟨nd p.bt.a0 x.bx.a0 (kZ p x),nd p.bt.a1 x.bx.a1 (kZ p x),nd p.bt.a2 x.bx.a2 (kZ p x),nd p.bt.a3 x.bx.a3 (kZ p x),nd p.bt.a4 x.bx.a4 (kZ p x),nd p.bt.a5 x.bx.a5 (kZ p x)⟩
def zi.pos (b:zi):Bool:=decide (0<=b.a0)&&decide (0<=b.a1)&&decide (0<=b.a2)&&decide (0<=b.a3)&&decide (0<=b.a4)&&decide (0<=b.a5)
def fF (p:cj) (u:iK) (x:bC):zi:=(u.bs.sub (uv p x)).meet (u.left.sub x.bx)
def ik (p:cj) (u:iK) (x:bC):Bool:=!(bN u.won x.OA.toNat false)&&((u.left.sub x.bx).pos&&(fF p u x).pos)
def d_ (p:cj) (u:iK) (i:Int):iK:=⟨u.left.sub (oI p i).bx,fF p u (oI p i),u.bn++[i],u.value+(oI p i).value,u.won.set (oI p i).OA.toNat true⟩
def fR (p:cj) (u:iK) (k:Nat):cj:=⟨u.left,u.bs,p.bt,p.bk,(p.bj.drop k).filter (ik p u)⟩
theorem B9 {x:zi}:dq [x]=x:=by simp[dq]
theorem sx {P:Nat->Prop} (f:P 0) (a:P 1) (b:P 2) (d:P 3) (e:P 4) (c:P 5):∀k,k<6->P k:=by
 grind
theorem xj {a b:zi}:∀k,k<6->(a.sub b).at k=a.at k - b.at k:=sx rfl rfl rfl rfl rfl rfl
theorem DK {a b:zi}:∀k,k<6->(a.add b).at k=a.at k+b.at k:=sx rfl rfl rfl rfl rfl rfl
theorem KQ {a b:zi}:∀k,k<6->(a.meet b).at k=min (a.at k) (b.at k):=sx rfl rfl rfl rfl rfl rfl
theorem DJ {p:cj} {x:bC}:∀k,k<6->(uv p x).at k=nd (p.bt.at k) (x.bx.at k) (kZ p x):=sx rfl rfl rfl rfl rfl rfl
theorem BV {p:cj} {x:bC}:∀k,k<6->(eu p x).at k=if p.bt.at k=0\/p.bt.at k=kZ p x then 0 else x.bx.at k:=by
 refine sx ?_ ?_ ?_ ?_ ?_ ?_<;>(show oc _ _ _ _ _=_;unfold oc;simp only[show((0:Int)<6)=True by simp,show((1:Int)<6)=True by simp,show((2:Int)<6)=True by simp,show((3:Int)<6)=True by simp,show((4:Int)<6)=True by simp,show((5:Int)<6)=True by simp,true_and];rfl)
theorem KP {b:zi}:b.pos=true↔∀k,k<6->0<=b.at k:=by
 unfold zi.pos;simp only[θ,decide_eq_true_eq];constructor
 ·rintro⟨⟨⟨⟨⟨g,a⟩,c⟩,e⟩,f⟩,d⟩;exact sx g a c e f d
 ·intro h;exact⟨⟨⟨⟨⟨h 0 (by omega),h 1 (by omega)⟩,h 2 (by omega)⟩,h 3 (by omega)⟩,h 4 (by omega)⟩,h 5 (by omega)⟩
theorem uu {b:zi}:b.ok=true↔∀k,k<6->0<=b.at k/\b.at k<=4:=by
 rw[zi.hJ];constructor
 ·rintro⟨g,a,c,e,f,d⟩;exact sx g a c e f d
 ·intro h;exact⟨h 0 (by omega),h 1 (by omega),h 2 (by omega),h 3 (by omega),h 4 (by omega),h 5 (by omega)⟩
theorem DI {p:cj} {k:Nat} (a:k<6):∀L:List bC,(dq (L.map (uv p))).at k=if p.bt.at k=0 then(dq (L.map bC.bx)).at k else(dq (L.map (eu p))).at k:=by
 intro L;rw[mP,mP,mP];induction L with
 |nil=>simp;|cons x L b=>
  simp only[π,List.sum_cons];rw[b,DJ k a,BV k a];unfold nd;omega
theorem aYX {p:cj} {k:Nat} (c:k<6) (a:p.bt.at k=0):∀L:List bC,(dq (L.map (eu p))).at k=0:=by
 intro L;rw[mP];induction L with
 |nil=>simp;|cons x L b=>
  simp_all[BV]
theorem BU {p:cj} (c:Good p) {k:Nat} (d:k<6):∀{L:List bC},(∀x∈L,x∈p.bj)->0<=(dq (L.map bC.bx)).at k/\(dq (L.map (eu p))).at k<=(dq (L.map bC.bx)).at k/\0<=(dq (L.map (eu p))).at k:=by
 intro L;rw[mP,mP];induction L with
 |nil=>intro _;simp;|cons x L b=>
  intro h;have e:=b λy a=>h y (List.mem_cons_of_mem _ a);have f:=(uu.1 (c.2.2.2.2 x (h x (List.mem_cons_self ..))).2.2.1 k d);grind[BV]
theorem s8 {p:cj} (c:nW p=0) {k:Nat} (b:k<6):0<=p.bt.at k/\p.bt.at k<=4/\0<=p.bs.at k/\p.bs.at k<=p.bm.at k/\(p.bt.at k=0->p.bs.at k=p.bm.at k):=by
 have h:=mQ.1 ((rG (rF c).1).2.1 k b);exact⟨h.1,h.2.1,h.2.2.1,h.2.2.2.1,λd=>by rcases h.2.2.2.2 with a|a;exact absurd d a;exact a⟩
theorem DH {a b:zi}:a.le b=true↔∀k,k<6->a.at k<=b.at k:=⟨λh k _=>FH h k,DZ⟩
structure pt (p:cj) (u:iK):Prop where
 f:pv p u.bn
 v:u.value=bJ (bW p u.bn)
 l:∀k,k<6->u.left.at k=p.bm.at k - (dq ((bW p u.bn).map bC.bx)).at k
 o:∀k,k<6->u.bs.at k=min (p.bs.at k - (dq ((bW p u.bn).map (uv p))).at k) (u.left.at k)
 wl:u.won.length=8
 w:∀b:Int,0<=b->b<8->bN u.won b.toNat false=decide (b∈(bW p u.bn).map bC.OA)
theorem DG {p:cj} {t:List Int} (h:kY 0 p.bj.length t):∀x∈bW p t,x∈p.bj:=λx a=>by
 obtain⟨i,b,rfl⟩:=Ω.1 a;have:=h.2 i b;grind[cE]
section
variable {p:cj} {u:iK}
theorem DF {L M:List bC}:iH p (L++M)↔((L.map bC.OA++M.map bC.OA).Nodup/\(∀k,k<6->(dq (L.map bC.bx)).at k+(dq (M.map bC.bx)).at k<=p.bm.at k)/\∀k,k<6->(dq (L.map (eu p))).at k+(dq (M.map (eu p))).at k<=p.bs.at k):=by
 simp_all[iH,xV,DH,DK]
theorem BT (h:nW p=0) (c:pt p u) {x:bC} (m:x∈p.bj):ik p u x=true↔iH p (bW p u.bn++[x]):=by
 have b:=cT h;have g:=b.2.2.2.2 x m;have r:=b.1;have q:=DG c.f.1;rw[DF];unfold ik;rw[θ,θ,KP,KP,δi,c.w _ g.1 (by omega),decide_eq_false_iff_not];simp only[π,γr,B9];have d:∀k,k<6->((0<=(u.left.sub x.bx).at k/\0<=(fF p u x).at k)↔((dq ((bW p u.bn).map bC.bx)).at k+x.bx.at k<=p.bm.at k/\(dq ((bW p u.bn).map (eu p))).at k+(eu p x).at k<=p.bs.at k)):=λk a=>by
  have A:=c.l k a;have t:=c.o k a;have v:=DI (p:=p) a (bW p u.bn);have s:=@DJ p x k a;have n:=@BV p x k a;have B:=s8 h a;have y:=uu.1 g.2.2.1 k a;have j:=BU b a q;unfold fF;rw[KQ k a,xj k a,xj k a,s,n];unfold nd;grind
 constructor
 ·rintro⟨z,e,i⟩;refine⟨?_,λk a=>((d k a).1 ⟨e k a,i k a⟩).1,λk a=>((d k a).1 ⟨e k a,i k a⟩).2⟩;rw[γs];refine⟨c.f.2.1,by simp,?_⟩;simp_all
 grind
theorem pt.next (n:nW p=0) (c:pt p u) {i:Int} (D:∀j∈u.bn,j<i) (C:0<=i/\i<p.bj.length) (s:ik p u (oI p i)=true):pt p (d_ p u i):=by
 have m:oI p i∈p.bj:=cE (by omega);have B:=(BT n c m).1 s;have g:=cT n;have q:=g.2.2.2.2 _ m;have z:=g.1;have e:bW p (u.bn++[i])=bW p u.bn++[oI p i]:=by unfold bW;rw[γa];rfl
 refine⟨⟨⟨?_,?_⟩,?_⟩,?_,?_,?_,?_,?_⟩
 ·show(u.bn++[i]).Pairwise _;rw[List.pairwise_append];exact⟨c.f.1.1,List.pairwise_singleton _ _,λa A b q=>by simp_all⟩
 ·intro j t;rcases List.mem_append.1 t with h|h;·exact c.f.1.2 j h
  simp_all
 ·show iH p (bW p (u.bn++[i]));simp_all
 ·show u.value+_=bJ (bW p (u.bn++[i]));rw[e,mY,c.v];simp[bJ]
 ·intro k d;show(u.left.sub _).at k=_ - (dq ((bW p (u.bn++[i])).map bC.bx)).at k;rw[e,γa,xV,DK k d,xj k d,c.l k d];grind[B9]
 ·intro k d;show(fF p u (oI p i)).at k=min (_ - (dq ((bW p (u.bn++[i])).map (uv p))).at k) ((u.left.sub (oI p i).bx).at k);unfold fF;rw[e,γa,xV,DK k d,KQ k d,xj k d,xj k d,c.o k d];grind[B9,DJ,uu,nd]
 ·show(u.won.set _ true).length=8;rw[Φ];exact c.wl
 ·intro b y x;show bN (u.won.set (oI p i).OA.toNat true) b.toNat false=decide (b∈(bW p (u.bn++[i])).map bC.OA);have r:=c.wl;rw[e,γa,gC (by omega)];simp only[π,γr];by_cases h:b=(oI p i).OA;·simp_all
  ·rw[if_neg (by omega),c.w b y x];simp_all
theorem Eb (s:nW p=0) (g:pt p u) {k:Nat} {M:List bC} (r:∀x∈M,x∈p.bj) (y:∀x∈M,ik p u x=true):iH (fR p u k) M↔iH p (bW p u.bn++M):=by
 have d:=cT s;have C:=d.1;have A:=DG g.f.1;rw[DF];unfold iH;rw[DH,DH];have D:∀x:bC,eu (fR p u k) x=eu p x:=λx=>rfl;have n:M.map (eu (fR p u k))=M.map (eu p):=rfl;rw[n];have h:∀j,j<6->(((dq (M.map bC.bx)).at j<=(fR p u k).bm.at j/\(dq (M.map (eu p))).at j<=(fR p u k).bs.at j)↔((dq ((bW p u.bn).map bC.bx)).at j+(dq (M.map bC.bx)).at j<=p.bm.at j/\(dq ((bW p u.bn).map (eu p))).at j+(dq (M.map (eu p))).at j<=p.bs.at j)):=λj c=>by
  have H:=g.l j c;have F:=g.o j c;have G:=DI (p:=p) c (bW p u.bn);have J:=s8 s c;have I:=BU d c A;have K:=BU d c r;have L:(fR p u k).bm.at j=u.left.at j:=rfl;have E:(fR p u k).bs.at j=u.bs.at j:=rfl;omega
 constructor
 ·rintro⟨z,v,q⟩;refine⟨?_,λj c=>((h j c).1 ⟨v j c,q j c⟩).1,λj c=>((h j c).1 ⟨v j c,q j c⟩).2⟩;rw[γs];refine⟨g.f.2.1,z,?_⟩;intro a B b i e;subst e;obtain⟨x,t,rfl⟩:=Ω.1 i;have m:=y x t;have i:=d.2.2.2.2 x (r x t);unfold ik at m;rw[θ,δi,g.w _ i.1 (by omega),decide_eq_false_iff_not] at m;exact m.1 B
 grind
theorem KO {q:cj} (d:gR q=0) (h:∀x∈q.bj,jz q x=0) (b:(q.bj.map bC.key).Nodup):nW q=0:=by
 have a:∀(l:List bC) (s:List mK),(∀x∈l,jz q x=0)->(l.map bC.key).Nodup->(∀x∈l,x.key∉s)->g_ q s l=0:=by
  intro l;induction l with
  |nil=>intro s _ _ _;rfl;|cons x l c=>
   simp_all[g_]
 simp_all[nW]
theorem BS (e:nW p=0) (g:pt p u) {k:Nat}:nW (fR p u k)=0:=by
 have v:=cT e;have C:=DG g.f.1;have r:=(DF (p:=p) (L:=bW p u.bn) (M:=[])).1 (by rw[γR];exact g.f.2);obtain⟨d,q⟩:=rF e;obtain⟨J,H,P,R,N⟩:=rG d;have s:∀x∈(fR p u k).bj,x∈p.bj/\ik p u x=true:=λx n=>by
  obtain⟨c,w⟩:=γt.1 n;grind
 have F:(dq (([]:List bC).map bC.bx))=zi.zero:=rfl;have h:∀j,j<6->0<=u.left.at j/\u.left.at j<=4:=λj a=>by
  have B:=g.l j a;have O:=BU v a C;have w:=r.2.1 j a;have t:(dq (([]:List bC).map bC.bx)).at j=0:=by rw[mP];rfl
  grind[uu]
 have i:∀j,j<6->0<=u.bs.at j/\u.bs.at j<=u.left.at j/\(p.bt.at j=0->u.bs.at j=u.left.at j):=λj a=>by
  have B:=g.l j a;have I:=g.o j a;have D:=DI (p:=p) a (bW p u.bn);have m:=s8 e a;have w:=r.2.1 j a;have E:=r.2.2 j a;have t:(dq (([]:List bC).map bC.bx)).at j=0:=by rw[mP];rfl
  grind
 refine KO ?_ (λx n=>?_) ?_
 ·have Q:(fR p u k).bm.ok=true:=uu.2 h;have G:AQ (fR p u k)=true:=xk.2 λj a=>mQ.2 (by
   have m:=s8 e a;have b:=i j a;refine⟨m.1,m.2.1,b.1,b.2.1,?_⟩;by_cases z:p.bt.at j=0;·exact .inr (b.2.2 z)
   ·exact .inl z);have K:(fR p u k).bj.length<=p.bj.length:=by
   have c:=δg (ik p u) (p.bj.drop k);rw[List.length_drop] at c;show((p.bj.drop k).filter (ik p u)).length<=_;omega
  have y:(fR p u k).bk=p.bk:=rfl;unfold gR;grind
 ·obtain⟨c,w⟩:=s x n;have b:=q x c;unfold jz at b ⊢;have y:(fR p u k).bk=p.bk:=rfl;rw[y];split at b;·omega
  ·rename_i t;rw[if_neg t];split at b;·cases b
   ·rename_i A;rw[if_neg A];grind[Eb,BT,Mj]
 ·have c:=(A9 (by
   have:=e;unfold nW at this;rw[if_neg (by rw[d];simp)] at this;exact this)).1;exact((List.filter_sublist.trans (List.drop_sublist k _)).map bC.key).nodup c
end
end Go.Vi
