/-
  The symbolic run: functions that defer a closure.
  Conditions: none.
-/
import Derived.Test.YtbnhiekmnpikhaaGreatDP06
import Derived.Test.YtbnhiekmnpikhaaGreatDP10
import Derived.Test.YtbnhiekmnpikhaaGreatDP09
import Derived.Test.YtbnhiekmnpikhaaGreatDP11
import Derived.Test.YtbnhiekmnpikhaaGreatDP07
import Derived.Test.YtbnhiekmnpikhaaGreatDP08
set_option maxRecDepth 100000
set_option maxHeartbeats 4000000
set_option linter.all false
open Bool renaming and_eq_true->θ,false_ne_true->ζg,not_eq_true'->δf
open Classical renaming not_not->γg
open Go.Vi.AV.os renaming injEq->εx
open Go.Vi.AV.sc renaming injEq->δb
open Go.Vi.SV renaming bl->δc,sb->γv,si->γh,row->Ψ,fn->ζM,ow->γZ,ptr->γO,il->γx,agg->γM
open Int renaming toNat_natCast->γl,toNat_of_nonneg->εz
open IntCast renaming intCast->κ
open List renaming all_eq_true->φ,map_map->γ4,mem_of_mem_take->γm,range_eq_range'->δC,take_append_drop->γL,map_cons->π,map_nil->γq,length->γc,replicate->δ,mem_map->Ω,take->Δ,take_length->ψ,map->γb,length_take->γu,length_map->Θ,append_nil->γ1,map_append->γa,length_set->Φ,length_filter_le->δd,mem_filter->γs,nodup_append->γr
open List.cons renaming injEq->Γ
open Option.some renaming injEq->γ
namespace Go.Vi
def EK (p:i6) (lo:Nat) (Λ:Nat->cE):IR->cu->(cu->Prop)->Prop
 | .skip,b,K=>K b
 | .seq x y,b,K=>wpS p lo x Λ b λc a=>match c with
  | .norm=>EK p lo Λ y a K
  |_=>False
 |_,_,_=>False
def EL (p:i6) (Λ:Nat->cE) (F:fy) (args:List SV) (o:bZ) (Q:SV->bZ->Prop):Prop:=
 match F.body with
 | .tq g c d a b=>EK p o.length Λ a ⟨nj 0 args,o⟩ λe=>wpS p e.o.length b Λ ⟨(d,.ud)::e.env,e.o⟩ λi j=>if qY i=true then
   (match p.it g with
    |some G=>if(c.map (jH e.env)).length=G.params/\G.res.isEmpty=true then wpS p j.o.length G.body (λn=>Λ (1000+n)) ⟨nj 0 (c.map (jH e.env)),j.o⟩ λf h=>if qY f=true then
      oa ⟨j.env,h.o⟩ F.res λr=>if r.bY o.length&&h.o.all (λx=>x.bY o.length)&&decide (o.length<=h.o.length) then Q r (h.o.take o.length) else False
     else False else False
    |none=>False) else False
 |_=>False
section
variable {P:Program} {T:Tab} {p:i6} {Λ:Nat->cE}
theorem aer (i:pJ T.K p.C) (j:∀f F,p.it f=some F->T.fn f=some F) {lo:Nat}:∀{a:IR} {st:cu} {K:cu->Prop},EK p lo Λ a st K->∃s0:cu,(∃N,∀n,N<=n->qX (exec T .plain n lo) a st.g=some s0.g)/\K s0:=by
 intro a;induction a with
 |skip=>intro st K h;exact⟨st,⟨0,λ_ _=>rfl⟩,h⟩;|seq x y _ d=>
  intro st K h;simp only[EK] at h;obtain⟨c,s,⟨N,e⟩,r,rfl,b⟩:=vG i j h;cases c with
  |norm=>
   obtain⟨s0,⟨M,m⟩,k⟩:=d b;refine⟨s0,⟨N+M,λn o=>?_⟩,k⟩;simp only[qX,e n n (by omega) (by omega)];grind;|exit q=>exact b.elim;|ret=>exact b.elim;|goto l=>exact b.elim
 |_=>intro st K h;exact h.elim
theorem aes (J:kF P T) (u:pJ T.K p.C) (n:∀f F,p.it f=some F->T.fn f=some F) {f:FuncId} {F:fy} (S:T.fn f=some F) {args:List SV} {o:bZ} {r:AV} {o':Store} (V:T.K f (gL args) (gO o) true=none) (B:args.length=F.params)
  {Q:SV->bZ->Prop} (A:∀v s,Q v s->v.g=r/\gO s=o') (h:EL p Λ F args o Q):gW P f=true/\kE P f (gL args) (gO o) r o':=by
 unfold EL at h;split at h
 ·rename_i g a d ia ib Z;obtain⟨b,h1,h⟩:=aer u n h;obtain⟨O,U,h2,c,rfl,h⟩:=vG u n h;split at h
  ·rename_i k;split at h
   ·rename_i G hG;split at h
    ·rename_i Y;obtain⟨D,I,h3,i,rfl,h⟩:=vG u n h;split at h
     ·rename_i j;obtain⟨t,k1,m⟩:=xC h;split at m
      ·rename_i y;simp only[θ,decide_eq_true_eq,φ] at y;obtain⟨⟨a2,L⟩,N⟩:=y;have R:(cu.mk (nj 0 args) o).g=⟨iw 0 (gL args),gO o⟩:=by simp[cu.g,vH]
       have w:(gO o).length=o.length:=od o;have a1:b.g.o.length=b.o.length:=od b.o;have a0:c.g.o.length=c.o.length:=od c.o;have H:a.map (eJ b.g.env)=gL (a.map (jH b.env)):=by
        rw[gj,γ4];refine List.map_congr_left λx _=>?_;show eJ (gE b.env) x=_;grind[zI]
       have z:(cu.mk ((d,.ud)::b.env) b.o).g=⟨(d,.ud)::b.g.env,b.g.o⟩:=by simp[cu.g,gE,SV.g]
       have E:(cu.mk (nj 0 (a.map (jH b.env))) c.o).g=⟨iw 0 (gL (a.map (jH b.env))),c.g.o⟩:=by simp[cu.g,vH]
       have W:(cu.mk c.env i.o).g=⟨c.g.env,i.g.o⟩:=rfl;have q:∀x∈gO i.o,x.bY o.length=true:=by
        grind[gO,CU]
       have l:finish true (gO o).length t.g i.g.o=some (r,o'):=by
        simp only[finish,if_true,w];have e:lM o.length t.g i.g.o=some (t.g,(i.g.o).take o.length):=Po (by grind[zJ]) q (by show o.length<=(gO i.o).length;grind[od]);rw[e,<-(A _ _ m).1,<-(A _ _ m).2];simp_all[cu.g,gO]
       obtain⟨X,M,_⟩:=YU J S Z (own:=true) V (by grind[jW]) (s0:=b.g) (s2:=c.g) (s3:=i.g) (by simp_all) (by simp_all) k (n g G hG) (by grind) Y.2 (by simp_all) j (by simp_all) l;exact⟨X,M⟩
      ·exact m.elim
     ·exact h.elim
    ·exact h.elim
   simp_all
  ·exact h.elim
 simp_all
end
theorem aeu {P:Program} {d:FuncId->Option fy} {L:List bM} {W:List dH} (c:dH) {F:fy} {k:TypeId->Option bp} {e:List Nat×Bool->Option (bp×bp)} {Λ:c.α->Nat->cE}
  (n:kF P ⟨d,λ_ _ _ _=>none⟩) (i:∀c∈W,ec P c) (o:∀c∈L,Holds P c)
  (l:d c.f=some F) (b:∀a,(c.put a).length=F.params)
  (a:c.α) (m:oh c.f W=none)
  (h:EL (og L (gK W) k e d) (Λ a) F (c.put a) (c.st a) λv s=>v.same (c.res a)/\kG s (c.out a)):
  gW P c.f=true/\kE P c.f (gL (c.put a)) (gO (c.st a)) (c.res a).g (gO (c.out a)):=by
 refine aes (p:=og L (gK W) k e d) (Λ:=Λ a) (Q:=λv s=>v.same (c.res a)/\kG s (c.out a)) (vJ (kZ i) o n) (vK (kZ i)) (λ_ _ h=>h) l ?_ (b a) (λv s j=>⟨j.1,xB j.2⟩) h;simp_all[qu,sB,gK,uf]
theorem aev {k:Nat} {r a:AV} {o mid o2:Store} (c:r.bU o (λi=>decide (k<=i))=some a) (g:jD o (λi=>decide (k<=i)) o=some mid) (e:fO (λi=>decide (k<=i)) 0 mid=o2) (f:a.bY k=true) (d:∀x∈o2,x.bY k=true) (l:k<=o2.length):lM k r o=some (a,o2.take k):=by
 unfold lM;rw[c,g];simp only[e];have m:∀x∈o2.take k,x.bY k=true:=λx h=>d x (γm h);rw[Ph (by grind[ey,Hj])];have j:iM.pz (List.range k)=true:=by rw[δC];exact nodup_range'
 rw[if_pos j,CZ f];have b:=Hh (k:=k) (o:=o2) m l (n:=k) (s:=0) (by omega);rw[<-δC,List.drop_zero] at b;rw[b]
def EM (k:Nat) (r:SV) (o:bZ) (K:SV->bZ->Prop):Prop:=
 k9 o k r λb=>o5 o k 0 o λa=>if b.bY k&&a.all (λx=>x.bY k)&&decide (k<=a.length) then K b (a.take k) else False
theorem aew {k:Nat} {r:SV} {o:bZ} {K:SV->bZ->Prop} (h:EM k r o K):∃r' o',lM k r.g (gO o)=some (r'.g,gO o')/\K r' o':=by
 unfold EM at h;obtain⟨l,p,f⟩:=HC h;obtain⟨c,i,n,m,a⟩:=xI f;split at a
 ·rename_i b;simp only[θ,decide_eq_true_eq,φ] at b;obtain⟨⟨d,j⟩,e⟩:=b;refine⟨l,c.take k,?_,a⟩;simp_all[aev,zJ,gO,CU]
 simp_all
def EN (p:i6) (Λ:Nat->cE) (F:fy) (args:List SV) (o:bZ) (Q:SV->bZ->Prop):Prop:=
 wpS p o.length F.body Λ ⟨nj 0 args,o⟩ λa b=>match a with
  | .exit _=>False
  | .goto _=>False
  |_=>oa b F.res λr=>EM o.length r b.o Q
theorem aex {P:Program} {T:Tab} {p:i6} {Λ:Nat->cE} (A:kF P T) (t:pJ T.K p.C) (y:∀f F,p.it f=some F->T.fn f=some F) {f:FuncId} {F:fy} (n:T.fn f=some F) {args:List SV} {o:bZ} {r:AV} {o':Store} (z:T.K f (gL args) (gO o) true=none) (j:args.length=F.params)
  {Q:SV->bZ->Prop} (D:∀v s,Q v s->v.g=r/\gO s=o') (h:EN p Λ F args o Q):gW P f=true/\kE P f (gL args) (gO o) r o':=by
 unfold EN at h;have e:=vG t y h;have d:(cu.mk (nj 0 args) o).g=⟨iw 0 (gL args),gO o⟩:=by simp[cu.g,vH]
 rw[d] at e;have i:(gO o).length=o.length:=od o;rw[<-i] at e;have x:∀(a:cu),(oa a F.res λv=>EM (gO o).length v a.o Q)->(nQ a.g F.res).bind (λc=>finish true (gO o).length c a.g.o)=some (r,o'):=by
  intro a m;obtain⟨c,k,l⟩:=xC m;obtain⟨u,q,w,E⟩:=aew l;rw[k];simp only[Option.bind_some,finish,if_true];have:lM (gO o).length c.g a.g.o=some (u.g,gO q):=w;grind
 obtain⟨k,l,_⟩:=Cm A n (o:=gO o) (own:=true) z (by grind[jW]) (v:=r) (o':=o') (e.mono λb s B=>by
  obtain⟨a,rfl,m⟩:=B;cases b<;>simp_all);simp_all
theorem aey {P:Program} {d:FuncId->Option fy} {L:List bM} {W:List dH} (c:dH) {F:fy} {k:TypeId->Option bp} {e:List Nat×Bool->Option (bp×bp)} {Λ:c.α->Nat->cE}
  (n:kF P ⟨d,λ_ _ _ _=>none⟩) (i:∀c∈W,ec P c) (o:∀c∈L,Holds P c)
  (l:d c.f=some F) (b:∀a,(c.put a).length=F.params)
  (a:c.α) (m:oh c.f W=none)
  (h:EN (og L (gK W) k e d) (Λ a) F (c.put a) (c.st a) λv s=>v.same (c.res a)/\kG s (c.out a)):
  gW P c.f=true/\kE P c.f (gL (c.put a)) (gO (c.st a)) (c.res a).g (gO (c.out a)):=by
 refine aex (p:=og L (gK W) k e d) (Λ:=Λ a) (Q:=λv s=>v.same (c.res a)/\kG s (c.out a)) (vJ (kZ i) o n) (vK (kZ i)) (λ_ _ h=>h) l ?_ (b a) (λv s j=>⟨j.1,xB j.2⟩) h;simp_all[qu,sB,gK,uf]
open Go.Proofs.YtbnhiekmnpikhaaGreat.Ir
open Go.Proofs
structure dJ where
 p:bn
 ch:List Int
 val:Int
 found:Bool
 en:Option Int
 k1:Nat
 k2:Nat
 most:Int
 err:Int
 prf:List di
 fx:List Int
def dJ.cs (x:dJ) (e:SV) (i j:Nat):List SV:=[.row (.i .i64) x.ch,.si .i64 x.val,.sb x.found,e,.ow i x.k1 5,.ow j x.k2 1,.si .i64 x.most,.si .i64 x.err]
def dJ.yG (x:dJ):bZ:=[.cells (x.p.ss++x.cs (.fn (.func 70) [] []) 1 2) 126 28 false,.row bE x.prf 108 true,.row (.i .i64) x.fx 3 true]
def dJ.yH (x:dJ) (m:Int):bZ:=[.cells (x.p.ss++x.cs (.fn (.func 116) [] [.ptr 1 0 1]) 2 3) 126 28 false,.cells [.si .i64 m] 2 1 false,.row bE x.prf 108 true,.row (.i .i64) x.fx 3 true]
def dJ.gQ (x:dJ):bZ:=match x.en with
 |none=>x.yG
 |some m=>x.yH m
def Kw:bZ->Option dJ
 |[.cells cs 126 28 false,.row s1 l1 108 true,.row s2 l2 3 true]=>match cs.drop 20 with
  |[c,v,b,.fn (.func 70) [] [],.ow 1 k1 5,.ow 2 k2 1,mo,er]=>match vM (cs.take 20),jG (.i .i64) c,v.int .i64,b.boo,mo.int .i64,er.int .i64 with
   |some p,some c,some v,some b,some mo,some er=>match iG s1 bE l1,iG s2 (.i .i64) l2 with
    |some l1,some l2=>some ⟨p,c,v,b,none,k1,k2,mo,er,l1,l2⟩
    |_,_=>none
   |_,_,_,_,_,_=>none
  |_=>none
 |[.cells cs 126 28 false,.cells [m] 2 1 false,.row s1 l1 108 true,.row s2 l2 3 true]=>match cs.drop 20 with
  |[c,v,b,.fn (.func 116) [] [.ptr 1 0 1],.ow 2 k1 5,.ow 3 k2 1,mo,er]=>match vM (cs.take 20),jG (.i .i64) c,v.int .i64,b.boo,mo.int .i64,er.int .i64 with
   |some p,some c,some v,some b,some mo,some er=>match iG s1 bE l1,iG s2 (.i .i64) l2,m.int .i64 with
    |some l1,some l2,some m=>some ⟨p,c,v,b,some m,k1,k2,mo,er,l1,l2⟩
    |_,_,_=>none
   |_,_,_,_,_,_=>none
  |_=>none
 |_=>none
theorem aez {o:bZ} {x:dJ} (h:Kw o=some x):gO o=gO x.gQ:=by
 unfold Kw at h;split at h
 ·rename_i cs s1 l1 s2 l2;split at h
  ·rename_i c v b k1 k2 mo er hd;split at h
   ·rename_i p c' v' b' mo' er' h1 h2 h3 h4 h5 h6;split at h
    ·rename_i l1' l2' g1 g2;simp only[γ] at h;subst h;obtain⟨rfl,e1⟩:=mG g1;obtain⟨rfl,e2⟩:=mG g2;cases e1;cases e2;have e3:gL cs=gL p.ss++gL [c,v,b,.fn (.func 70) [] [],.ow 1 k1 5,.ow 2 k2 1,mo,er]:=by
      rw[<-hd,<-zS h1,<-ua,γL]
     simp only[dJ.gQ,dJ.yG,dJ.cs,gO,π,γq,bq.g,ua,e3];simp only[gL,oZ h2,iN h3,vq h4,iN h5,iN h6,SV.g]
    ·cases h
   ·cases h
  ·cases h
 ·rename_i cs m s1 l1 s2 l2;split at h
  ·rename_i c v b k1 k2 mo er hd;split at h
   ·rename_i p c' v' b' mo' er' h1 h2 h3 h4 h5 h6;split at h
    ·rename_i l1' l2' m' g1 g2 g3;simp only[γ] at h;subst h;obtain⟨rfl,e1⟩:=mG g1;obtain⟨rfl,e2⟩:=mG g2;cases e1;cases e2;have e3:gL cs=gL p.ss++gL [c,v,b,.fn (.func 116) [] [.ptr 1 0 1],.ow 2 k1 5,.ow 3 k2 1,mo,er]:=by
      rw[<-hd,<-zS h1,<-ua,γL]
     simp only[dJ.gQ,dJ.yH,dJ.cs,gO,π,γq,bq.g,ua,e3];simp only[gL,oZ h2,iN h3,vq h4,iN h5,iN h6,iN g3,SV.g]
    ·cases h
   ·cases h
  ·cases h
 ·cases h
theorem aeE {p q:bn} (h:gL p.ss=gL q.ss):p=q:=dK.inj p q (by grind[dK,SV.g])
theorem aeF {x y:dJ} (h:gO x.gQ=gO y.gQ):x=y:=by
 obtain⟨p,E,u,b,J,H,G,k,o,A,L⟩:=x;obtain⟨B,n,d,a,l,r,v,c,f,q,C⟩:=y;have w:∀{e I:SV} {i j:Nat},gL (p.ss++(dJ.mk p E u b J H G k o A L).cs e i j)=gL (B.ss++(dJ.mk B n d a l r v c f q C).cs I i j)->p=B/\E=n/\u=d/\b=a/\H=r/\G=v/\k=c/\o=f:=by
  intro e I i j h;rw[ua,ua] at h;obtain⟨z,t⟩:=List.append_inj h (by rw[jW,jW];rfl);simp only[dJ.cs,gL,SV.g,Γ,δb,Value.int.injEq,Value.bool.injEq,εx,AV.sl.injEq,and_true,true_and] at t;grind[aeE,po]
 cases J with
 |none=>
  cases l with
  |none=>
   simp only[dJ.gQ,dJ.yG,gO,π,γq,bq.g,Γ,bR.cells.injEq,and_true] at h;obtain⟨z,t,D⟩:=h;obtain⟨rfl,rfl,rfl,rfl,rfl,rfl,rfl,rfl⟩:=w z;rw[po (s:=bE) t,po (s:=.i .i64) D];|some K=>
   have:=congrArg γc h;simp_all[dJ.gQ,dJ.yG,dJ.yH,gO]
 |some m=>
  cases l with
  |none=>
   have:=congrArg γc h;simp_all[dJ.gQ,dJ.yG,dJ.yH,gO];|some K=>
   simp only[dJ.gQ,dJ.yH,gO,π,γq,bq.g,Γ,bR.cells.injEq,and_true] at h;obtain⟨z,F,t,D⟩:=h;obtain⟨rfl,rfl,rfl,rfl,rfl,rfl,rfl,rfl⟩:=w z;simp only[gL,SV.g,Γ,δb,Value.int.injEq,and_true,true_and] at F;subst F;rw[po (s:=bE) t,po (s:=.i .i64) D]
def EO (f:FuncId) (c:Type) (A:qt c) (i:dJ->c->Prop) (e:dJ->c->SV) (out:dJ->c->dJ):dH where
 f:=f;α:=dJ×c;put a:=.ptr 0 0 28::A.put a.2;st a:=a.1.gQ;dec v o:=match v with
  | .ptr 0 0 28::r=>match Kw o,A.dec r with
   |some s,some b=>some (s,b)
   |_,_=>none
  |_=>none;ok v o a h:=by
  split at h
  ·split at h
   ·rename_i d g;simp only[γ] at h;subst h;exact⟨by simp only[gL,A.ok _ _ g],aez d⟩
   ·cases h
  ·cases h
 inj a b d g:=by
  simp only[gL,Γ,true_and] at d;exact Prod.ext (aeF g) (A.inj _ _ d)
 dom a:=i a.1 a.2;res a:=e a.1 a.2;out a:=(out a.1 a.2).gQ
def cy (e:Option Int) (v:Int):Bool:=match e with
 |none=>false
 |some m=>decide (m<=v)
def dJ.s (x:dJ):cZ:=⟨x.ch,x.val,x.found,x.prf,x.err⟩
def dJ.upd (x:dJ) (s:cZ):dJ:=⟨x.p,s.ch,s.val,s.found,x.en,s.prf.length,x.k2,x.most,s.err,s.prf,x.fx⟩
structure fp (x:dJ):Prop where
 f:eK x.p x.fx
 k1:x.k1=x.prf.length
 k2:x.k2=x.fx.length
 v0:0<=x.val
 v1:x.val<=9223372036854775806
 m0:1<=x.most
 m1:x.most<=65536
 l:x.prf.length<=65536
 c:x.ch.length<=9223372036854775807
def Kx:dH where
 f:=70;α:=Alloc;put a:=[nu.put a];st _:=[];dec v o:=match v,o with
  |[a],[]=>nu.dec a
  |_,_=>none;ok v o a h:=by
  split at h;·exact⟨by simp only[gL,nu.ok _ _ h],rfl⟩
  ·cases h
 inj a b h1 _:=by
  simp only[gL,Γ,and_true] at h1;exact nu.inj _ _ h1
 dom _:=True;res _:=.sb false;out _:=[]
theorem h438:ec Tryz.prog Kx:=by
 refine lA (L:=[]) (W:=[]) Kx lk (by simp) (by simp) ?_;rintro(a:Alloc) -;refine bO ((δc false).same (γv false)/\True) (by kernel_rfl) ?_;simp_all
def Ky:dH where
 f:=116;α:=Alloc×Int;put a:=[nu.put a.1,.ptr 0 0 1];st a:=[.cells [.si .i64 a.2] 2 1 false];dec v o:=match v,o with
  |[a,.ptr 0 0 1],[.cells [m] 2 1 false]=>match nu.dec a,m.int .i64 with
   |some a,some m=>some (a,m)
   |_,_=>none
  |_,_=>none;ok v o a h:=by
  split at h
  ·split at h
   ·rename_i h1 h2;simp only[γ] at h;subst h;exact⟨by simp only[gL,nu.ok _ _ h1],by simp only[gO,π,γq,bq.g,gL,iN h2,SV.g]⟩
   ·cases h
  ·cases h
 inj a b h1 h2:=by
  simp only[gL,Γ,and_true] at h1;simp only[gO,π,γq,bq.g,gL,SV.g,Γ,bR.cells.injEq,δb,Value.int.injEq,and_true,true_and] at h2;exact Prod.ext (nu.inj _ _ h1) h2
 dom _:=True;res a:=.sb (decide (a.2<=a.1.value));out a:=[.cells [.si .i64 a.2] 2 1 false]
theorem h442:ec Tryz.prog Ky:=by
 refine lA (L:=[]) (W:=[]) Ky lk (by simp) (by simp) ?_;rintro⟨a,m⟩ -;refine bO (let b:=bq.cells [γh .i64 m] 2 1 false;(γv (decide (m<=a.value))).same (γv (decide (m<=a.value)))/\b.same b/\True) (by kernel_rfl) ?_;conv=>zeta
 exact⟨rfl,rfl,trivial⟩
def Bg:dH:=EO 71 Alloc (.one nu) (λx _=>x.k1=x.prf.length) (λ_ _=> .bI []) λx a=>x.upd (dV (cy x.en) x.s a)
theorem h439:ec Tryz.prog Bg:=by
 refine lA (L:=[]) (W:=[Kx,Ky]) Bg lk (by simpa using⟨h438,h442⟩) (by simp) ?_;rintro⟨⟨p,ch,val,found,en,k1,k2,most,err,prf,fx⟩,a⟩ hk;have hk:k1=prf.length:=hk;subst hk;have e1:∀en:Int->Bool,val<a.value->dV en ⟨ch,val,found,prf,err⟩ a=⟨a.chosen,a.value,found||en a.value,prf,err⟩:=λen h=>if_pos h;have e2:∀en:Int->Bool,¬val<a.value->dV en ⟨ch,val,found,prf,err⟩ a=⟨ch,val,found,prf,err⟩:=λen h=>if_neg h;cases en with
 |none=>
  refine bO (let b:=γh .i64;let c:=bq.row;let d:=bq.cells;let e:=Ψ;let f:=SV.bI;let k:=b p.supply.a0;let l:=b p.supply.a1;let m:=b p.supply.a2;let n:=b p.supply.a3;let o:=b p.supply.a4;let q:=b p.supply.a5;let r:=b p.opn.a0;let s:=b p.opn.a1;let t:=b p.opn.a2;let v:=b p.opn.a3;let w:=b p.opn.a4;let x:=b p.opn.a5;let y:=b p.cls.a0;let z:=b p.cls.a1;let A:=b p.cls.a2;let B:=b p.cls.a3;let C:=b p.cls.a4;let D:=b p.cls.a5;let h:=bp.i .i64;let E:=e h p.classes;let F:=e bp.off p.offers;let G:=ζM (Fn.func 70) [] [];let H:=γZ 2 k2 1;let I:=b most;let J:=[G,γZ 1 prf.length 5,H,I,b err];let g:=dV (cy none) (cZ.mk ch val found prf err) a;let K:=d [k,l,m,n,o,q,r,s,t,v,w,x,y,z,A,B,C,D,E,F,e h g.ch,b g.val,γv g.found,G,γZ 1 g.prf.length 5,H,I,b g.err] 126 28 false;let j:=c h fx 3 true;let L:=decide (val<a.value);let M:=λ(u u_1:Bool) (u_2:List Int) (u_3:Int) (u_4:SV) ↦u=u_1->(f []).same (f [])/\(d (k::l::m::n::o::q::r::s::t::v::w::x::y::z::A::B::C::D::E::F::e h u_2::b u_3::u_4::J) 126 28 false).same K/\(c bE prf 108 true).same (c bE g.prf 108 true)/\j.same j/\True;(L=true->M found true a.chosen a.value (δc true)/\(found=false->True/\(f []).same (f [])/\(d (k::l::m::n::o::q::r::s::t::v::w::x::y::z::A::B::C::D::E::F::e h a.chosen::b a.value::γv false::J) 126 28 false).same K/\(c bE prf 108 true).same (c bE g.prf 108 true)/\j.same j/\True))/\M L false ch val (γv found)) (by kernel_rfl) ?_;conv=>zeta
  refine⟨λh=>?_,λh=>?_⟩
  ·simp only[e1 _ (of_decide_eq_true h)];refine⟨λhf=>?_,λhf=>?_⟩
   ·subst hf;exact⟨rfl,rfl,rfl,rfl,trivial⟩
   ·subst hf;exact⟨trivial,rfl,rfl,rfl,rfl,trivial⟩
  ·simp only[e2 _ (of_decide_eq_false h)];exact⟨rfl,rfl,rfl,rfl,trivial⟩;|some m=>
  refine bO (let b:=γh .i64;let c:=bp.i .i64;let d:=bq.cells;let e:=Ψ;let f:=bq.row;let g:=γZ;let h:=γO;let j:=SV.bI;let k:=γv;(decide (val<a.value)=true->(found=true->(j []).same (j [])/\(d [b p.supply.a0,b p.supply.a1,b p.supply.a2,b p.supply.a3,b p.supply.a4,b p.supply.a5,b p.opn.a0,b p.opn.a1,b p.opn.a2,b p.opn.a3,b p.opn.a4,b p.opn.a5,b p.cls.a0,b p.cls.a1,b p.cls.a2,b p.cls.a3,b p.cls.a4,b p.cls.a5,e (c) p.classes,e bp.off p.offers,e (c) a.chosen,b a.value,δc true,ζM (Fn.func 116) [] [h 1 0 1],g 2 prf.length 5,g 3 k2 1,b most,b err] 126 28 false).same (d [b p.supply.a0,b p.supply.a1,b p.supply.a2,b p.supply.a3,b p.supply.a4,b p.supply.a5,b p.opn.a0,b p.opn.a1,b p.opn.a2,b p.opn.a3,b p.opn.a4,b p.opn.a5,b p.cls.a0,b p.cls.a1,b p.cls.a2,b p.cls.a3,b p.cls.a4,b p.cls.a5,e (c) p.classes,e bp.off p.offers,e (c) (dV (cy (some m)) (cZ.mk ch val found prf err) a).ch,b (dV (cy (some m)) (cZ.mk ch val found prf err) a).val,k (dV (cy (some m)) (cZ.mk ch val found prf err) a).found,ζM (Fn.func 116) [] [h 1 0 1],g 2 (dV (cy (some m)) (cZ.mk ch val found prf err) a).prf.length 5,g 3 k2 1,b most,b (dV (cy (some m)) (cZ.mk ch val found prf err) a).err] 126 28 false)/\(d [b m] 2 1 false).same (d [b m] 2 1 false)/\(f bE prf 108 true).same (f bE (dV (cy (some m)) (cZ.mk ch val found prf err) a).prf 108 true)/\(f (c) fx 3 true).same (f (c) fx 3 true)/\True)/\(found=false->True/\(j []).same (j [])/\(d [b p.supply.a0,b p.supply.a1,b p.supply.a2,b p.supply.a3,b p.supply.a4,b p.supply.a5,b p.opn.a0,b p.opn.a1,b p.opn.a2,b p.opn.a3,b p.opn.a4,b p.opn.a5,b p.cls.a0,b p.cls.a1,b p.cls.a2,b p.cls.a3,b p.cls.a4,b p.cls.a5,e (c) p.classes,e bp.off p.offers,e (c) a.chosen,b a.value,k (decide (m<=a.value)),ζM (Fn.func 116) [] [h 1 0 1],g 2 prf.length 5,g 3 k2 1,b most,b err] 126 28 false).same (d [b p.supply.a0,b p.supply.a1,b p.supply.a2,b p.supply.a3,b p.supply.a4,b p.supply.a5,b p.opn.a0,b p.opn.a1,b p.opn.a2,b p.opn.a3,b p.opn.a4,b p.opn.a5,b p.cls.a0,b p.cls.a1,b p.cls.a2,b p.cls.a3,b p.cls.a4,b p.cls.a5,e (c) p.classes,e bp.off p.offers,e (c) (dV (cy (some m)) (cZ.mk ch val found prf err) a).ch,b (dV (cy (some m)) (cZ.mk ch val found prf err) a).val,k (dV (cy (some m)) (cZ.mk ch val found prf err) a).found,ζM (Fn.func 116) [] [h 1 0 1],g 2 (dV (cy (some m)) (cZ.mk ch val found prf err) a).prf.length 5,g 3 k2 1,b most,b (dV (cy (some m)) (cZ.mk ch val found prf err) a).err] 126 28 false)/\(d [b m] 2 1 false).same (d [b m] 2 1 false)/\(f bE prf 108 true).same (f bE (dV (cy (some m)) (cZ.mk ch val found prf err) a).prf 108 true)/\(f (c) fx 3 true).same (f (c) fx 3 true)/\True))/\(decide (val<a.value)=false->(j []).same (j [])/\(d [b p.supply.a0,b p.supply.a1,b p.supply.a2,b p.supply.a3,b p.supply.a4,b p.supply.a5,b p.opn.a0,b p.opn.a1,b p.opn.a2,b p.opn.a3,b p.opn.a4,b p.opn.a5,b p.cls.a0,b p.cls.a1,b p.cls.a2,b p.cls.a3,b p.cls.a4,b p.cls.a5,e (c) p.classes,e bp.off p.offers,e (c) ch,b val,k found,ζM (Fn.func 116) [] [h 1 0 1],g 2 prf.length 5,g 3 k2 1,b most,b err] 126 28 false).same (d [b p.supply.a0,b p.supply.a1,b p.supply.a2,b p.supply.a3,b p.supply.a4,b p.supply.a5,b p.opn.a0,b p.opn.a1,b p.opn.a2,b p.opn.a3,b p.opn.a4,b p.opn.a5,b p.cls.a0,b p.cls.a1,b p.cls.a2,b p.cls.a3,b p.cls.a4,b p.cls.a5,e (c) p.classes,e bp.off p.offers,e (c) (dV (cy (some m)) (cZ.mk ch val found prf err) a).ch,b (dV (cy (some m)) (cZ.mk ch val found prf err) a).val,k (dV (cy (some m)) (cZ.mk ch val found prf err) a).found,ζM (Fn.func 116) [] [h 1 0 1],g 2 (dV (cy (some m)) (cZ.mk ch val found prf err) a).prf.length 5,g 3 k2 1,b most,b (dV (cy (some m)) (cZ.mk ch val found prf err) a).err] 126 28 false)/\(d [b m] 2 1 false).same (d [b m] 2 1 false)/\(f bE prf 108 true).same (f bE (dV (cy (some m)) (cZ.mk ch val found prf err) a).prf 108 true)/\(f (c) fx 3 true).same (f (c) fx 3 true)/\True)) (by kernel_rfl) ?_;refine⟨λh=>?_,λh=>?_⟩
  ·simp only[e1 _ (of_decide_eq_true h)];refine⟨λhf=>?_,λhf=>?_⟩
   ·subst hf;exact⟨rfl,rfl,rfl,rfl,rfl,trivial⟩
   ·subst hf;exact⟨trivial,rfl,rfl,rfl,rfl,rfl,trivial⟩
  ·simp only[e2 _ (of_decide_eq_false h)];exact⟨rfl,rfl,rfl,rfl,rfl,trivial⟩
theorem Kz {a b:bB} (h:∀k,k<6->a.at k<=b.at k):a.le b=true:=by
 have i:=h 0 (by omega);have c:=h 1 (by omega);have d:=h 2 (by omega);have f:=h 3 (by omega);have g:=h 4 (by omega);have e:=h 5 (by omega);simp_all[bB.at,bj,bB.le_iff]
theorem aeG {p:bn} {L:List Off} (d:(L.map Off.bX).Nodup) (c:gk p L=true):jo p L:=by
 refine⟨d,Kz λk a=>?_,Kz λk a=>?_⟩
 ·have h:=o6.1 c (p.classes.length+k) (by grind[de]);rw[show(((p.classes.length+k:Nat)):Int)=p.classes.length+k by omega,QA a] at h;rw[oo,γ4];have:cT p L (p.classes.length+k)=(L.map ((λb=>bB.at b k)∘Off.want)).sum:=by
   unfold cT;congr 1;simp_all[Qy]
  omega
 ·have h:=o6.1 c (p.classes.length+6+k) (by grind[de]);rw[show(((p.classes.length+6+k:Nat)):Int)=p.classes.length+6+k by omega,QB a] at h;rw[oo,γ4];have:cT p L (p.classes.length+6+k)=(L.map ((λb=>bB.at b k)∘fh p)).sum:=by
   unfold cT;congr 1;simp_all[Qz]
  omega
theorem Up {l:List Off}:∀{t:List Int} {a:Int} {r:List Off}, -1<=a->ef l a t=some r->t.Pairwise (·<·)/\∀j∈t,a<j/\j<l.length
 |[],_,_,_,_=>by simp;|i::t,a,r,g,h=>by
  simp only[ef] at h;split at h;·cases h
  ·rename_i k;obtain⟨f,d,rfl⟩:=Option.map_eq_some_iff.1 h;obtain⟨e,c⟩:=Up (by omega) d;refine⟨List.pairwise_cons.2 ⟨λj b=>(c j b).1,e⟩,λj b=>?_⟩;grind
def rK (p:bn) (t:List Int):Prop:=ny 0 p.offers.length t/\jo p (cV p t)
theorem yI {p:bn} (c:bz p=0) {t:List Int}:dh p t=0↔rK p t:=by
 refine⟨λh=>?_,λh=>QG c h.1 h.2⟩;have e:=aaH h;obtain⟨i,a,l,m,o⟩:=H8 h;obtain⟨r,d⟩:=Option.isSome_iff_exists.1 a;obtain⟨f,g⟩:=Up (by omega) d;have n:dX p t=cV p t:=by grind[dX,Dx]
 have b:gk p (cV p t)=true:=by
  simp_all[dh]
 exact⟨⟨f,λj k=>by simp_all⟩,aeG e b⟩
theorem aeH {p:bn} (a:Good p):rK p []:=⟨⟨by simp,by simp⟩,of_decide_eq_true (Qq a)⟩
theorem KA {p:bn} (a:bz p=0) {t:List Int} (h:rK p t):ei p t=cJ (cV p t):=by
 grind[yI,aaG,Aa,Dw]
theorem aeI {p:bn} (c:bz p=0) {L:List Off} (b:jo p L) (d:∀x∈L,x∈p.offers):cJ L<=ry p (allM p):=by
 have a:=dQ c;have f:=zZ a.1;rw[QK c (m:=allM p) (by grind[allM]) (by grind[allM])];refine Dt a ⟨b.1,λx e=>?_,b.2.1,b.2.2⟩;have:=a.2.2.2.2 x (d x e);grind[aaT]
theorem aeJ {p:bn} (c:bz p=0):∃L,jo p L/\(∀x∈L,x∈p.offers)/\cJ L=ry p (allM p):=by
 have a:=dQ c;have f:=zZ a.1;rw[QK c (m:=allM p) (by grind[allM]) (by grind[allM])];have h:=bB.ja.1 a.2.2.1;have g:=bB.ja.1 a.2.2.2.1;obtain⟨L,b,e⟩:=Du a (Qv (allM p)) (l:=p.supply) (o:=p.opn) (by grind[bB.le_iff,bB.zero]) (by grind[bB.le_iff,bB.zero]);exact⟨L,⟨b.nd,b.w,b.o⟩,λx d=>(b.mem x d).1,e⟩
def iD (p:bn):List Int:=δ p.offers.length 0
theorem yJ {n:Nat}:nF (δ n 0)=n:=by
 have e:bD (δ n 0) 0=dm n:=by
  simp_all[bD,kK,cY]
 grind[iP]
theorem oG {p:bn} (a:bz p=0):eK p (iD p) where
 c:=a;l:=List.length_replicate;r:=by
  unfold jN;rw[φ];intro x b;rw[List.eq_of_mem_replicate b];decide
def kR (p:bn) (c:List Int):cZ:=dV (cy none) (dV (cy none) ⟨c,ei p c,false,[zN],0⟩ (gw p c)) (gw p (jY p))
noncomputable def iK (p:bn) (c:List Int) (a:Int):cZ:=dG p (cy none) a p.offers.length (kR p c) 0 (iD p)
noncomputable def kx (p:bn) (c:List Int) (a:Int):Int:=if dh p c≠0 then dh p c else if a<1\/65536<a then 4 else(iK p c a).err
def kS (p:bn) (m:Int):cZ:=dV (cy (some m)) ⟨[],m - 1,false,[zN],0⟩ (gw p (jY p))
noncomputable def fY (p:bn) (m a:Int):cZ:=dG p (cy (some m)) a p.offers.length (kS p m) 0 (iD p)
noncomputable def jh (p:bn) (m a:Int):Int:=if bz p≠0 then bz p else if a<1\/65536<a then 4 else if m<=0 then 0 else if(fY p m a).found=true then 0 else(fY p m a).err
noncomputable def j6 (p:bn) (m a:Int):Bool:=decide (jh p m a=0)&&(decide (m<=0)||(fY p m a).found)
noncomputable def oH (p:bn) (m a:Int):Alloc:=if j6 p m a=true/\0<m then⟨(fY p m a).ch,(fY p m a).val⟩ else⟨[],0⟩
theorem Ur {p:bn} (a:bz p=0) {t:List Int} (h:dh p t=0):ei p t<=(cz p).value:=by
 have b:=(yI a).1 h;obtain⟨_,d⟩:=uw h;have c:=If (dQ a) b.1 (decide_eq_true b.2);rw[yF a d];exact c
theorem Us {p:bn} (a:bz p=0):∃t,dh p t=0/\ei p t=(cz p).value:=by
 obtain⟨t,c,f,e⟩:=Ig (dQ a);have b:dh p t=0:=(yI a).2 ⟨c,of_decide_eq_true f⟩;obtain⟨_,d⟩:=uw b;refine⟨t,b,?_⟩;rw[yF a d,e];rfl
theorem aeK {p:bn} {l:List Int} (h:eM p.offers.length l):EJ (iD p) l:=by
 have b:∀i:Int,0<=i/\i<p.offers.length->bj (iD p) i.toNat 0=0:=λi a=>by
  grind[iD,cY]
 refine⟨λi a=>by rw[b i (h.2 i a)];omega,λi a=>?_⟩;grind[kP,iD]
theorem Ut {p:bn} {v:Int} {t:List di} {a lo f:Nat} (b:bz p=0) (h:jg p v t a (iD p) lo f):(cz p).value<=v:=by
 obtain⟨l,d,e⟩:=Us b;obtain⟨_,c⟩:=uw d;rw[<-e,yF b c];exact h.sound (oG b) c ((Kv b c).1 d) (aeK c)
theorem yK {en:Int->Bool} {G:List Int->Int->Bool->Prop} {p:bn} (h:∀c w b d w',G c w b->dh p d=0->ei p d=w'->w<w'->G d w' (b||en w')) {s:cZ} {a:Alloc} (e:G s.ch s.val s.found) (f:dh p a.chosen=0) (g:ei p a.chosen=a.value):G (dV en s a).ch (dV en s a).val (dV en s a).found:=by
 grind[dV]
theorem yL {p:bn} (a:bz p=0):dh p (gw p (jY p)).chosen=0/\ei p (gw p (jY p)).chosen=(gw p (jY p)).value:=by
 simp_all[Jz,SY]
theorem KB {p:bn} (d:bz p=0) {c:List Int} (h:dh p c=0) {most:Int} {G:List Int->Int->Bool->Prop} (a:∀c w b e w',G c w b->dh p e=0->ei p e=w'->w<w'->G e w' (b||cy none w')) (i:G c (ei p c) false):G (iK p c most).ch (iK p c most).val (iK p c most).found:=by
 have f:=Jz d h;have g:=yL d;exact Un a (oG d) (yK a (yK a i f.2.1 f.2.2.1) g.1 g.2)
theorem KC {p:bn} {c:List Int}:(kR p c).prf=[zN]/\(kR p c).err=0/\ei p c<=(kR p c).val:=by
 grind[kR,dV]
theorem KD {p:bn} (d:bz p=0) {c:List Int} (i:dh p c=0) {most:Int} (C:1<=most):
  ((iK p c most).err=0\/(iK p c most).err=12)/\((iK p c most).err=0->(dh p (iK p c most).ch=0/\ei p (iK p c most).ch=(iK p c most).val)/\(iK p c most).val=(cz p).value/\(iK p c most).prf.length<=most/\jg p (cz p).value (iK p c most).prf 0 (iD p) 1 (iK p c most).prf.length/\(ei p c=(cz p).value->(iK p c most).ch=c))/\
   (((1+2^(p.offers.length+1):Nat):Int)<=most+2->(iK p c most).err=0):=by
 obtain⟨y,l,A⟩:=@KC p c;have t:(kR p c).prf.length=1:=by rw[y];rfl
 have q:=@rJ p (cy none) most p.offers.length (kR p c) 0 (iD p) (oG d);have j:(iK p c most).found=false:=by
  refine(KB d i (most:=most) (G:=λ_ _ b=>b=false) (λc w b g o h _ _ _=>?_) rfl);rw[h];rfl
 refine⟨?_,λx=>?_,λB=>?_⟩
 ·have:=q.2.2.2.2.2;rw[l] at this;exact this
 ·have v:=KB d i (most:=most) (G:=λc w _=>dh p c=0/\ei p c=w) (λc w b g o _ k m _=>⟨k,m⟩) ⟨i,rfl⟩;have u:=KB d i (most:=most) (G:=λg w _=>ei p c<=w/\(w=ei p c->g=c)) (λD w b g o h _ _ r=>⟨by omega,λe=>by omega⟩) ⟨Int.le_refl _,λ_=>rfl⟩;have z:=Um (p:=p) (en:=cy none) (most:=most) (n:=p.offers.length) (s:=kR p c) (a:=0) (oG d) (by show nF (δ _ 0)<=_;grind[yJ]) (by rw[t];omega) x j;have k:=Ut d z.1;have m:=Ur d v.1;grind[iK]
 ·refine(Uo (p:=p) (en:=cy none) (most:=most) (n:=p.offers.length) (s:=kR p c) (a:=0) (f:=iD p) (oG d) ?_ l ?_).1;all_goals simp_all[yJ,iD]
theorem aeL {p:bn} (i:bz p=0) {m most:Int}:((fY p m most).found=false->(fY p m most).ch=[]/\(fY p m most).val=m - 1)/\((fY p m most).found=true->dh p (fY p m most).ch=0/\ei p (fY p m most).ch=(fY p m most).val/\m<=(fY p m most).val):=by
 have j:=yL i;have g:∀(c:List Int) (w:Int) (b:Bool) (e:List Int) (d:Int),((m - 1<=w)/\(b=false->c=[]/\w=m - 1)/\(b=true->dh p c=0/\ei p c=w/\m<=w))->dh p e=0->ei p e=d->w<d->((m - 1<=d)/\((b||cy (some m) d)=false->e=[]/\d=m - 1)/\((b||cy (some m) d)=true->dh p e=0/\ei p e=d/\m<=d)):=by
  intro c w b e d h l q k;have o:cy (some m) d=true:=by
   show decide (m<=d)=true;grind
  grind
 have:=Un (p:=p) (en:=cy (some m)) (most:=most) g (n:=p.offers.length) (s:=kS p m) (a:=0) (f:=iD p) (oG i) (yK g (s:=⟨[],m - 1,false,[zN],0⟩) ⟨Int.le_refl _,λ_=>⟨rfl,rfl⟩,(λh=>by cases h)⟩ j.1 j.2);exact this.2
theorem KE {p:bn} {m:Int}:(kS p m).prf=[zN]/\(kS p m).err=0:=by
 grind[kS,EH]
theorem Uu {p:bn} (b:bz p=0) {m most:Int}:
  ((fY p m most).err=0\/(fY p m most).err=12)/\((fY p m most).found=true->m<=(cz p).value)/\((fY p m most).found=false->(fY p m most).err=0->(cz p).value<m)/\
   (((1+2^(p.offers.length+1):Nat):Int)<=most+2->(fY p m most).err=0):=by
 obtain⟨i,d⟩:=@KE p m;have h:(kS p m).prf.length=1:=by rw[i];rfl
 have g:=@rJ p (cy (some m)) most p.offers.length (kS p m) 0 (iD p) (oG b);obtain⟨r,l⟩:=@aeL p b m most;refine⟨?_,λc=>?_,λc k=>?_,λo=>?_⟩
 ·have:=g.2.2.2.2.2;rw[d] at this;exact this
 ·obtain⟨e,q,t⟩:=l c;have:=Ur b e;omega
 ·have j:=Um (p:=p) (en:=cy (some m)) (most:=most) (n:=p.offers.length) (s:=kS p m) (a:=0) (oG b) (by show nF (δ _ 0)<=_;grind[yJ]) (by rw[h];omega) k c;have e:(cz p).value<=(fY p m most).val:=Ut b j.1;grind
 ·refine(Uo (p:=p) (en:=cy (some m)) (most:=most) (n:=p.offers.length) (s:=kS p m) (a:=0) (f:=iD p) (oG b) ?_ d ?_).1;all_goals simp_all[yJ,iD]
theorem aeM {p:bn} {c:List Int} {m:Int} (b:dh p c=0) (a:1<=m/\m<=65536):kx p c m=(iK p c m).err:=by
 simp_all[kx,if_neg]
theorem aeN {p:bn} (d:bz p=0) {c:List Int} {m:Int} (b:dh p c=0) (e:m<=65536) (f:((1+2^(p.offers.length+1):Nat):Int)<=m+2):kx p c m=0:=by
 have a:=Nat.one_le_two_pow (n:=p.offers.length+1);grind[aeM,KD]
theorem KF {p:bn} (a:bz p=0) {m k:Int} (d:k<=65536) (b:((1+2^(p.offers.length+1):Nat):Int)<=k+2):jh p m k=0:=by
 have c:2<=2^(p.offers.length+1):=by grind
 unfold jh;rw[if_neg (by simp[a]),if_neg (by omega)];grind[Uu]
theorem Uw {p:bn} (a:bz p=0) {m k:Int} (b:jh p m k=0):j6 p m k=true↔m<=(cz p).value:=by
 have j:0<=(cz p).value:=by
  obtain⟨t,d,e⟩:=Us a;obtain⟨_,c⟩:=uw d;rw[<-e,yF a c];exact(sJ (dQ a) (l:=t.map (oI p)) λx g=>by
   obtain⟨i,f,rfl⟩:=Ω.1 g;have:=c.2 i f;exact dr (by omega)).1
 have h:=@Uu p a m k;unfold j6;rw[b,decide_eq_true rfl,Bool.true_and,Bool.or_eq_true,decide_eq_true_eq];unfold jh at b;grind
theorem s7 {p q:Rat}:iU p q<0↔p<q:=by
 unfold iU;grind
def EP:bM:=⟨38,bn×List Int,.cons dK (.one (dF (.i .i64))),λa=>bz a.1=0/\a.2.length<=9223372036854775807,λa=> .si .i64 (ei a.1 a.2)⟩
def aeO (p:bn) (c:List Int):Nat->cE
 |6=> .inv Int (λi=>⟨[(7,.si .i64 (cJ ((dX p c).take i.toNat))),(23,.row .off (dX p c)),(24,.si .i64 (dX p c).length),(25,.si .i64 i)],[.cells p.ss 27 20 false]⟩)
   (λs=>iS s 25) (λi=>0<=i/\i<=(dX p c).length) (λi=>((dX p c).length - i).toNat) λ_ _=> .look
 |_=> .look
theorem h437:Holds Tryz.prog EP:=by
 refine cF (L:=[Dj,o7]) EP (λa=>aeO a.1 a.2) (by grind[h133,h79]) ?_;rintro⟨p,c⟩ ⟨f,A⟩;simp only at f A;refine bO (let a:=γh .i64;let f:=(0:Int);let k:=γx .i64 0;let m:=a (ei p c);let z:=decide (bz p≠f);let j:=Ψ bp.off (dX p c);let B:=(↑(dX p c).length:Int);let d:=(↑(dX p c).length:Int);let r:=a d;let g:=bq.cells (bn.ss p) 27 20 false;(c.length<=9223372036854775807/\p.offers.length<=1000)/\((!fR p c)=true->k.same m)/\((!fR p c)=false->True/\(z=true->k.same m)/\(z=false->(((k.same (a (cJ []))/\j.same j/\(a B).same r/\k.same (a 0)/\True)/\g.same g/\True)/\f<=f/\f<=d)/\∀(x:Int),let w:=cJ (Δ x.toNat (dX p c));let y:=w+(bj (dX p c) x.toNat bp.off.dflt).value;let b:=x+(1:Int);let e:=a b;f<=x/\x<=d->(decide (x<d)=true->f<=x/\x<B/\x.toNat<(dX p c).length/\cq .i64 y/\cq .i64 b/\(((a y).same (a (cJ (Δ b.toNat (dX p c))))/\j.same j/\r.same r/\e.same e/\True)/\g.same g/\True)/\(f<=b/\b<=d)/\(d - b).toNat<(d - x).toNat)/\(decide (x<d)=false->(a w).same m)))) (by kernel_rfl) ?_;simp only[vcs];have t:=dQ f;obtain⟨G,v⟩:=aaB (c:=c) f;have u:=t.2.1;have q:fR p c=false->0=ei p c:=λh=>by
  unfold ei;rw[if_pos f];unfold dX;unfold fR at h;rw[Option.isSome_eq_false_iff,Option.isNone_iff_eq_none] at h;rw[h];rfl
 refine⟨⟨A,by omega⟩,q,λ_=>⟨λh=>absurd f h,λ_=>⟨⟨by simp[cJ],by omega,by omega⟩,?_⟩⟩⟩;rintro i ⟨n,D⟩;refine⟨λo=>?_,λE=>?_⟩
 ·have H:=aaA n o;have F:=sJ t (l:=(dX p c).take i.toNat) λx s=>v x (γm s);have C:=sJ t (l:=(dX p c).take (i+1).toNat) λx s=>v x (γm s);grind
 ·rw[show i.toNat=(dX p c).length from by omega,ψ];grind[ei]
def KG:bM:=⟨143,Int×Int,.cons (eZ .i64) (.one (eZ .i64)),λa=>(-9223372036854775808<=a.1/\a.1<=9223372036854775807)/\0<a.2/\a.2<=9223372036854775807,λa=> .bI [pS (fW (decide (a.1<0)) (a.1.natAbs:Int) a.2),.si .i64 0]⟩
theorem h451:Holds Tryz.prog KG:=by
 refine cF (L:=[Ec,A4]) KG lk (by grind[h127,h151]) ?_;rintro⟨n,d⟩ ⟨⟨u,w⟩,q,r⟩;simp only at u w q r;refine bO (let e:=(-9223372036854775808:Int);let h:=(9223372036854775807:Int);let k:=(0:Int);let l:=Ψ;let g:=cK (↑n.natAbs:Int);let b:=cK (↑d.natAbs:Int);let f:=bu (fW (!decide (n<k)==decide (d<k)) (bk g) (bk b));let a:=bp.i .u32;let j:=[γh .i64 0];let c:=bu (fW (decide (n<k)) (↑n.natAbs:Int) d);(e<=n/\n<=h)/\(e<=d/\d<=h)/\((bA g/\bA b)/\(g.length<=1000000000/\b.length<=1000000000)/\k<bk b)/\(SV.bI (γM [γv f.fst,l a f.snd.fst,l a f.snd.snd]::j)).same (SV.bI (γM [γv c.fst,l a c.snd.fst,l a c.snd.snd]::j))) (by kernel_rfl) ?_;simp only[vcs];obtain⟨v,s,t⟩:=gl (show(0:Int)<=(n.natAbs:Int) by omega);obtain⟨o,l,h⟩:=gl (show(0:Int)<=(d.natAbs:Int) by omega);have x:=mO (k:=2) (show(0:Int)<=(n.natAbs:Int) by omega) (by omega);have p:=mO (k:=2) (show(0:Int)<=(d.natAbs:Int) by omega) (by omega);have e:(d.natAbs:Int)=d:=by omega
 have m:(!(decide (n<0)==decide (d<0)))=decide (n<0):=by
  grind
 rw[m,v,o,e];rw[e] at l h p;repeat' refine And.intro ?_ ?_
 all_goals first|omega|exact s|exact l|exact t|exact h|rfl
def pv (x:List bL):Prop:=∃l,x=fL l/\x.length<=1000000/\∀q∈l,Sz 1000 q
theorem aeP (q:Rat):q.den=1↔(bu q).2.2=[1]:=by
 have c:cK 1=[1]:=by decide
 constructor
 ·intro h;show cK (q.den:Int)=[1];simp_all
 ·intro h;have a:=(gl (show(0:Int)<=(q.den:Int) by omega)).1;have b:cK (q.den:Int)=[1]:=h;grind[bk]
theorem ER (q:Rat):okF (bu q)=true:=decide_eq_true (by rw[eC])
def KH:bM:=⟨103,List bL,.one (dF sF),pv,λx=> .sb (mQ (vL x))⟩
def aeQ (x:List bL):Nat->cE
 |2=> .inv Int (λi=>⟨[(5,.row sF x),(6,.si .i64 x.length),(7,.si .i64 i)],[]⟩)
   (λs=>iS s 7) (λi=>(0<=i/\i<=x.length)/\mQ ((vL x).take i.toNat)=true) (λi=>(x.length - i).toNat) λ_ _=> .look
 |_=> .look
theorem h445:Holds Tryz.prog KH:=by
 refine cF (L:=[uz]) KH aeQ (by grind[h407]) ?_;rintro(x:List bL) ⟨l,v,G,H⟩;refine bO (let c:=(0:Int);let d:=γh .i64;let f:=δc false;let h:=Ψ;let i:=(1:Int);let b:=(↑x.length:Int);let w:=d b;((((h sF x).same (h sF x)/\(d (↑x.length:Int)).same w/\(γx .i64 0).same (d 0)/\True)/\True)/\(c<=c/\c<=b)/\mQ []=true)/\∀(a:Int),let p:=bj x a.toNat sF.dflt;let e:=p.snd.snd;let C:=(↑(γc e):Int);let r:=γv (mQ (vL x));let g:=a+i;let o:=d g;let A:=λ(u:Bool) ↦decide (bj e 0 c≠i)=u;let D:=λ(u:Bool) ↦decide (C≠i)=u;let E:=λ(u:Bool) ↦(!okF (p.fst,p.snd.fst,e))=u;(c<=a/\a<=b)/\mQ (Δ a.toNat (vL x))=true->(decide (a<b)=true->c<=a/\a<(↑x.length:Int)/\a.toNat<x.length/\((bA p.snd.fst/\bA e)/\γc p.snd.fst<=10000000/\γc e<=10000000)/\(E true->(f).same r)/\(E false->(D true->(f).same r)/\(D false->c<=c/\c<C/\0<γc e/\(A true->(f).same r)/\(A false->cq .i64 g/\(((h sF x).same (h sF x)/\w.same w/\o.same o/\True)/\True)/\((c<=g/\g<=b)/\mQ (Δ g.toNat (vL x))=true)/\(b - g).toNat<(b - a).toNat))))/\(decide (a<b)=false->(δc true).same r)) (by kernel_rfl) ?_;simp only[vcs];subst v;rw[fE] at G ⊢;rw[kN];have s:∀k:Nat,((k:Nat):Int).toNat=k:=λk=>γl k;refine⟨⟨⟨by omega,by omega⟩,rfl⟩,?_⟩;rintro i ⟨⟨z,T⟩,c⟩;refine⟨λy=>?_,λy=>?_⟩
 ·have J:bj (fL l) i.toNat sF.dflt=bu (bj l i.toNat 0):=jv (by omega);have B:=dr (d:=0) (show i.toNat<l.length by omega);have N:=H _ B;have K:=jX (d:=0) z y;rw[J];generalize bj l i.toNat 0=q at*;obtain⟨_,⟨I,U,V⟩,⟨M,P,W⟩⟩:=mj q;obtain⟨R,S⟩:=pn N;have m:=aeP q;have j:q.den≠1->false=mQ l:=λQ=>by
   refine(Bool.eq_false_iff.2 λf=>?_).symm;have:=φ.1 f _ B;simp_all
  have t:=ER q;refine⟨z,y,by omega,⟨⟨I,M⟩,by omega,by omega⟩,λh=>absurd t (by simp_all),λ_=>⟨λh=>j λf=>h ?_,λh=>⟨by omega,by omega,by omega,λf=>j λO=>f ?_,λf=>⟨by omega,⟨by omega,?_⟩,by omega⟩⟩⟩⟩;·simp_all
  ·rw[(m.1 O)];rfl
  ·rw[K];unfold mQ at c ⊢;rw[List.all_append,c];have:q.den=1:=m.2 (by
    have n:(bu q).2.2.length=1:=by omega
    have F:bj (bu q).2.2 0 0=1:=γg.1 f;match v:(bu q).2.2,n with
    |[x],_=>
     rw[v] at F;have:x=1:=F;rw[this]);simp[this]
 grind
def KI (f:FuncId) (j:bn->List Int->Prop) (e:bn->List Int->SV):dH where
 f:=f;α:=bn×Nat×List Int;put a:=[dK.put a.1,.ow 0 a.2.1 1];st a:=[.row (.i .i64) a.2.2 3 true];dec v o:=match v,o with
  |[p,.ow 0 n 1],[.row s l 3 true]=>match dK.dec p,iG s (.i .i64) l with
   |some p,some l=>some (p,n,l)
   |_,_=>none
  |_,_=>none;ok v o a h:=by
  split at h
  ·split at h
   ·rename_i c d;simp only[γ] at h;subst h;obtain⟨rfl,k⟩:=mG d;cases k;exact⟨by simp only[gL,dK.ok _ _ c],rfl⟩
   ·cases h
  ·cases h
 inj a b c d:=by
  obtain⟨p,n,l⟩:=a;obtain⟨m,q,r⟩:=b;simp only[gL,Γ,and_true,SV.g,εx,true_and] at c;simp only[gO,π,γq,bq.g,Γ,bR.cells.injEq,and_true] at d;rw[dK.inj p m c.1,po (s:=.i .i64) d,c.2.1]
 dom a:=a.2.1=a.2.2.length/\j a.1 a.2.2;res a:=e a.1 a.2.2;out a:=[.row (.i .i64) a.2.2 3 true]
theorem Bh {L:List bM} {W:List dH} (c:dH) (Λ:c.α->Nat->cE) (i:∀c∈W,ec Tryz.prog c) (e:∀c∈L,Holds Tryz.prog c)
  
  (h:∀a,c.dom a->Vc (EN (og L (gK W) rk rl jJ) (Λ a) (fG c.f) (c.put a) (c.st a) λv s=>v.same (c.res a)/\kG s (c.out a))) (j:(jJ c.f).isSome=true:=by kernel_rfl) (b:∀a,(c.put a).length=(fG c.f).params:=by intro _;kernel_rfl) (d:oh c.f W=none:=by kernel_rfl):ec Tryz.prog c:=
 λa g=>aey c sE i e (zV j) b a d (h a g).out
noncomputable def KJ:dH:=KI 135 (λp f=>bz p=0/\f.length=p.offers.length) λp f=>pS (κ (gA p f))
def aeR (p:bn) (f:List Int):Nat->cE
 |3=> .inv Int (λi=>⟨[(2,.ptr 1 0 20),(4,.ptr 2 0 3),(5,.si .i64 (gA p (f.take i.toNat))),(8,.ow 0 f.length 1),(9,.si .i64 f.length),(10,.si .i64 i)],[.row (.i .i64) f 3 true,.cells p.ss 27 20 false,.cells [.bl false,.sc (.slice none 0 0),.sc (.slice none 0 0)] 177 3 false]⟩)
   (λs=>iS s 10) (λi=>0<=i/\i<=f.length) (λi=>(f.length - i).toNat) λ_ _=> .look
 |_=> .look
theorem h396w:ec Tryz.prog KJ:=by
 refine Bh (L:=[oC]) (W:=[]) KJ (λa=>aeR a.1 a.2.2) (by simp) (by simpa using h94) ?_;rintro⟨p,n,f⟩ ⟨hn,⟨hc,hl⟩⟩;simp only at hn;subst hn;simp only at hc hl;refine bO (let a:=γh .i64;let b:=(0:Int);let c:=Ψ;let j:=γO 1 0 20;let k:=γO 2 0 3;let t:=γx .i64 0;let l:=γZ 0 f.length 1;let d:=(↑f.length:Int);let m:=a d;let e:=bq.row (bp.i .i64) f 3 true;let n:=bq.cells (bn.ss p) 27 20 false;let v:=SV.sc (Value.slice none 0 0);let o:=bq.cells [δc false,v,v] 177 3 false;let q:=bp.i .u32;let r:=bu (κ (gA p f));(((j.same j/\k.same k/\t.same (a (gA p []))/\l.same l/\m.same m/\t.same (a 0)/\True)/\e.same e/\n.same n/\o.same o/\True)/\b<=b/\b<=d)/\∀(x:Int),let g:=x+(1:Int);let w:=a g;let y:=decide (bj f x.toNat b=(1:Int));let h:=gA p (Δ x.toNat f);let z:=h+(bj p.offers x.toNat bp.off.dflt).value;let s:=bu (κ h);let A:=λ(u:Int) ↦cq .i64 g/\((j.same j/\k.same k/\(a u).same (a (gA p (Δ g.toNat f)))/\l.same l/\m.same m/\w.same w/\True)/\e.same e/\n.same n/\o.same o/\True)/\(b<=g/\g<=d)/\(d - g).toNat<(d - x).toNat;b<=x/\x<=d->(decide (x<d)=true->f.length=f.length/\b<=x/\x<(↑f.length:Int)/\f.length=f.length/\x.toNat<f.length/\(y=true->b<=x/\x<(↑p.offers.length:Int)/\x.toNat<p.offers.length/\cq .i64 z/\A z)/\(y=false->A h))/\(decide (x<d)=false->((-9223372036854775808:Int)<=h/\h<=(9223372036854775807:Int))/\(γM [γv s.fst,c q s.snd.fst,c q s.snd.snd]).same (γM [γv r.fst,c q r.snd.fst,c q r.snd.snd])/\e.same e/\True)) (by kernel_rfl) ?_;simp only[vcs];have h160:=(dQ hc).2.1;refine⟨⟨by simp[gA,bD,dm,cJ],by omega,by omega⟩,?_⟩;rintro i ⟨i0,i1⟩;have hb:=@Be p hc f i.toNat hl;refine⟨λhi=>?_,λhi=>?_⟩
 ·have hs:=@TU p f i i0 hi;have ho:=kQ hc (i:=i) ⟨i0,by omega⟩;have hv:(bj p.offers i.toNat bp.off.dflt).value=(oI p i).value:=rfl;rw[hv];refine⟨i0,hi,by omega,λh1=>?_,λh1=>?_⟩
  ·rw[if_pos h1] at hs;refine⟨i0,?_,?_,?_,?_,?_,?_,?_⟩<;>omega
  ·rw[if_neg h1] at hs;refine⟨?_,?_,?_,?_⟩<;>omega
 ·rw[show f.take i.toNat=f by rw[show i.toNat=f.length by omega,ψ]] at hb ⊢;exact⟨by omega,rfl⟩
noncomputable def KL:dH:=KI 132 (λp f=>(bz p=0/\f.length=p.offers.length)/\jN f=true) λp f=> .bI [.agg [.row sF (mP p f).1,.row sR (mP p f).2.1],.row (.i .i64) (mP p f).2.2,.si .i64 (if hJ p f=true then 0 else 14)]
def Ux (p:bn) (f:List Int) (l:List Int) (m:List Off):bZ:=[.row (.i .i64) f 3 true,.cells p.ss 27 20 false,.cells [.sc (.slice none 0 0),.sc (.slice none 0 0)] 217 2 false,.row (.i .i64) l 3 true,.row .off m 65 true]
def ES (p:bn) (f:List Int) (l:List Int) (m:List Off) (k0 k1:Nat) (rs:List (List bL×bL)) (g:List bL):bZ:=Ux p f l m++[.cells p.ss 87 20 false,.cells [.ow 8 k0 3,.ow 7 k1 4] 217 2 false,.row sR rs 249 false,.row sF g 177 false]
def aeS (p:bn) (f:List Int):Nat->cE
 |9=> .inv Int (λi=>⟨[(2,.ptr 1 0 20),(4,.ptr 2 0 2),(8,.ow 3 (bD (f.take i.toNat) 0).length 1),(9,.ow 4 (bD (f.take i.toNat) 1).length 8),(36,.ow 0 f.length 1),(37,.si .i64 f.length),(38,.si .i64 i)],Ux p f (bD (f.take i.toNat) 0) ((bD (f.take i.toNat) 1).map (oI p))⟩)
   (λs=>iS s 38) (λi=>0<=i/\i<=f.length) (λi=>(f.length - i).toNat) λ_ _=> .look
 |24=> .inv Int (λj=>⟨[(2,.ptr 1 0 20),(4,.ptr 2 0 2),(8,.ow 3 (bD f 0).length 1),(9,.ow 4 (bD f 1).length 8),(12,.ptr 5 0 20),(13,.ptr 6 0 2),(71,.ow 3 (bD f 0).length 1),(72,.si .i64 (bD f 0).length),(73,.si .i64 j)],ES p f (bD f 0) ((bD f 1).map (oI p)) j.toNat 0 [] (mq p f j.toNat)⟩)
   (λs=>iS s 73) (λj=>0<=j/\j<=(bD f 0).length) (λj=>((bD f 0).length - j).toNat) λ_ _=> .look
 |29=> .inv Int (λr=>⟨[(2,.ptr 1 0 20),(4,.ptr 2 0 2),(8,.ow 3 (bD f 0).length 1),(9,.ow 4 (bD f 1).length 8),(12,.ptr 5 0 20),(13,.ptr 6 0 2),(91,.si .i64 (de p)),(92,.si .i64 r)],ES p f (bD f 0) ((bD f 1).map (oI p)) (bD f 0).length r.toNat (nN p f r.toNat) (mq p f (bD f 0).length)⟩)
   (λs=>iS s 92) (λr=>0<=r/\r<=de p) (λr=>(de p - r).toNat) λr k=>match k with
   |33=> .inv Int (λj=>⟨[(2,.ptr 1 0 20),(4,.ptr 2 0 2),(8,.ow 3 (bD f 0).length 1),(9,.ow 4 (bD f 1).length 8),(12,.ptr 5 0 20),(13,.ptr 6 0 2),(16,.si .i64 r),(17,.si .i64 (dj p r - cT p (((bD f 1).map (oI p)).take j.toNat) r)),(91,.si .i64 (de p)),(92,.si .i64 r),(98,.ow 4 (bD f 1).length 8),(99,.si .i64 (bD f 1).length),(100,.si .i64 j)],ES p f (bD f 0) ((bD f 1).map (oI p)) (bD f 0).length r.toNat (nN p f r.toNat) (mq p f (bD f 0).length)⟩)
     (λs=>iS s 100) (λj=>0<=j/\j<=(bD f 1).length) (λj=>((bD f 1).length - j).toNat) λ_ _=> .look
   |39=> .inv Int (λj=>⟨[(2,.ptr 1 0 20),(4,.ptr 2 0 2),(8,.ow 3 (bD f 0).length 1),(9,.ow 4 (bD f 1).length 8),(12,.ptr 5 0 20),(13,.ptr 6 0 2),(16,.si .i64 r),(20,.ptr 9 0 4),(91,.si .i64 (de p)),(92,.si .i64 r),(114,.ow 3 (bD f 0).length 1),(115,.si .i64 (bD f 0).length),(116,.si .i64 j)],ES p f (bD f 0) ((bD f 1).map (oI p)) (bD f 0).length r.toNat (nN p f r.toNat) (mq p f (bD f 0).length)++[.cells [.ow 10 j.toNat 3,.sb (bu ((dj p r - cT p ((bD f 1).map (oI p)) r:Int):Rat)).1,.row (.i .u32) (bu ((dj p r - cT p ((bD f 1).map (oI p)) r:Int):Rat)).2.1,.row (.i .u32) (bu ((dj p r - cT p ((bD f 1).map (oI p)) r:Int):Rat)).2.2] 249 4 false,.row sF (nM p f r j.toNat) 177 false]⟩)
     (λs=>iS s 116) (λj=>0<=j/\j<=(bD f 0).length) (λj=>((bD f 0).length - j).toNat) λ_ _=> .look
   |_=> .look
 |_=> .look
theorem h394w:ec Tryz.prog KL:=by
 refine Bh (L:=[o7,oC,Db,xM,xJ,xK]) (W:=[]) KL (λa=>aeS a.1 a.2.2) (by simp) (by simpa using⟨h79,h94,h134,h156,h157,h158⟩) ?_;rintro⟨p,n,f⟩ ⟨hn,⟨⟨hc,hl⟩,hr⟩⟩;simp only at hn;subst hn;simp only at hc hl hr;refine bO (let a:=γh .i64;let c:=(0:Int);let d:=bq.row;let e:=bq.cells;let g:=γZ;let h:=(-9223372036854775808:Int);let j:=Ψ;let k:=(1:Int);let l:=(9223372036854775807:Int);let m:=cq .i64;let n:=γx .i64;let o:=γO;let q:=γM;let r:=SV.bI;let R:=SV.sc (Value.slice none 0 0);let L:=bp.i .i64;let ah:=r [q [j sF (mP p f).fst,j sR (mP p f).snd.fst],j L (mP p f).snd.snd,a (if hJ p f=true then c else(14:Int))];let s:=d L f 3 true;let I:=(↑f.length:Int);let ai:=p.offers.length;let ae:=(↑ai:Int);let t:=o 1 0 20;let v:=o 2 0 2;let Z:=g 0 f.length 1;let a6:=a I;let a7:=n 0;let aM:=[a p.supply.a0,a p.supply.a1,a p.supply.a2,a p.supply.a3,a p.supply.a4,a p.supply.a5,a p.opn.a0,a p.opn.a1,a p.opn.a2,a p.opn.a3,a p.opn.a4,a p.opn.a5,a p.cls.a0,a p.cls.a1,a p.cls.a2,a p.cls.a3,a p.cls.a4,a p.cls.a5,j L p.classes,j bp.off p.offers];let w:=e aM 27 20 false;let y:=e [R,R] 217 2 false;let aN:=d bp.off [] 65 true;let aj:=bp.off.dflt;let ay:=(↑p.classes.length:Int);let a8:=bp.i .u32;let a9:=bp.b.pair (a8.bF.pair a8.bF);let az:=a9.bF.pair a9;let H:=bD f c;let N:=H.length;let z:=g 3 N 1;let z25:Nat:=(bD f k).length;let A:=g 4 z25 8;let B:=o 5 0 20;let C:=o 6 0 2;let E:=(↑N:Int);let V:=a E;let F:=d L H 3 true;let P:=γb (oI p) (bD f k);let G:=d bp.off P 65 true;let D:=e aM 87 20 false;let af:=[g 7 0 4];let aO:=e (g 8 0 3::af) 217 2 false;let ak:=d sR [] 249 false;let aP:=d a9 [] 177 false;let J:=a (de p);let al:=g 8 N 3;let aA:=mq p f N;let M:=d sF aA 177 false;let S:=(↑z25:Int);let am:=a S;let an:=o 9 0 4;let aQ:=g 10 0 3;let aR:=λ(u u_1:Int) (u_2:SV) ↦decide (u≠u_1)=true->(r [q [R,R],R,u_2]).same ah/\s.same s/\True;True/\aR (bz p) c (a (bz p))/\(decide (bz p≠c)=false->aR I ae (n 3)/\(decide (I≠ae)=false->(((t.same t/\v.same v/\(g 3 0 1).same (g 3 (bD [] c).length 1)/\(g 4 0 8).same (g 4 (bD [] k).length 8)/\Z.same Z/\a6.same a6/\a7.same (a 0)/\True)/\s.same s/\w.same w/\y.same y/\(d L [] 3 true).same (d L (bD [] c) 3 true)/\aN.same aN/\True)/\c<=c/\c<=I)/\∀(x:Int),let ao:=bD (Δ x.toNat f) k;let aS:=g 4 ao.length 8;let O:=x+k;let ap:=Δ O.toNat f;let aT:=g 4 (bD ap k).length 8;let aq:=a O;let aU:=g 3 (bD ap c).length 1;let aV:=d L (bD ap c) 3 true;let Q:=γb (oI p) ao;let aW:=d bp.off Q 65 true;let aX:=d bp.off (γb (oI p) (bD ap k)) 65 true;let aB:=bj f x.toNat c;let aY:=decide (aB=(-1:Int));let aa:=bD (Δ x.toNat f) c;let ar:=aa.length;let aC:=d L aa 3 true;let aZ:=decide (aB=c);let b0:=aa.length+1;let b1:=decide (aB=k);let b2:=Q.length+1;let aD:=g 3 ar 1;let b3:=Q++[bj p.offers x.toNat aj];let bh:=aS.same aT/\Z.same Z/\a6.same a6/\aq.same aq/\True;let b4:=λ(u:Nat) (u_1:bq) ↦m O/\((t.same t/\v.same v/\(g 3 u 1).same aU/\bh)/\s.same s/\w.same w/\y.same y/\u_1.same aV/\aW.same aX/\True)/\(c<=O/\O<=I)/\(I - O).toNat<(I - x).toNat;c<=x/\x<=I->(decide (x<I)=true->f.length=f.length/\c<=x/\x<(↑f.length:Int)/\f.length=f.length/\x.toNat<f.length/\(aY=true->b4 ar aC)/\(aY=false->(aZ=true->ar=aa.length/\b0*8<=140737488355328/\b0<=1000000000000/\b4 (aa++[x]).length (d L (aa++[x]) 3 true))/\(aZ=false->(b1=true->c<=x/\x<ae/\x.toNat<ai/\ao.length=Q.length/\b2*64<=140737488355328/\b2<=1000000000000/\m O/\((t.same t/\v.same v/\aD.same aU/\(g 4 b3.length 8).same aT/\Z.same Z/\a6.same a6/\aq.same aq/\True)/\s.same s/\w.same w/\y.same y/\aC.same aV/\(d bp.off b3 65 true).same aX/\True)/\(c<=O/\O<=I)/\(I - O).toNat<(I - x).toNat)/\(b1=false->(r [q [R,R],R,n 4]).same ah/\s.same s/\True))))/\(decide (x<I)=false->ao.length=Q.length/\(p.classes.length<=8/\Q.length<=1000/\∀(x:Off),x∈Q->c<=x.bX/\x.bX<ay/\x.want.ok=true)/\((!gk p Q)=true->0=0/\0=0/\0=0/\(r [q [j a9 [],j az []],j L [],n 14]).same ah/\s.same s/\True)/\((!gk p Q)=false->(((t.same t/\v.same v/\aD.same z/\aS.same A/\B.same B/\C.same C/\aD.same z/\(a (↑ar:Int)).same V/\a7.same (a 0)/\True)/\s.same s/\w.same w/\y.same y/\aC.same F/\aW.same G/\D.same D/\aO.same aO/\(d az [] 249 false).same ak/\aP.same (d sF (mq p f 0) 177 false)/\True)/\c<=c/\c<=E)/\∀(x:Int),let au:=bj H x.toNat c;let aE:=(bj p.offers au.toNat aj).value;let av:=mq p f x.toNat;let b5:=av.length+1;let W:=x+k;let b6:=a W;let aF:=bu (κ aE);let b7:=av++[(aF.fst,aF.snd.fst,aF.snd.snd)];c<=x/\x<=E->(decide (x<E)=true->N=H.length/\c<=x/\x<(↑H.length:Int)/\N=H.length/\x.toNat<H.length/\c<=au/\au<ae/\au.toNat<ai/\(h<=aE/\aE<=l)/\1=1/\x.toNat=av.length/\b5*56<=140737488355328/\b5<=1000000000000/\m W/\((t.same t/\v.same v/\z.same z/\A.same A/\B.same B/\C.same C/\z.same z/\V.same V/\b6.same b6/\True)/\s.same s/\w.same w/\y.same y/\F.same F/\G.same G/\D.same D/\(e (g 8 b7.length 3::af) 217 2 false).same (e (g 8 W.toNat 3::af) 217 2 false)/\ak.same ak/\(d a9 b7 177 false).same (d sF (mq p f W.toNat) 177 false)/\True)/\(c<=W/\W<=E)/\(E - W).toNat<(E - x).toNat)/\(decide (x<E)=false->p.classes.length<=8/\(((t.same t/\v.same v/\z.same z/\A.same A/\B.same B/\C.same C/\J.same J/\a7.same (a 0)/\True)/\s.same s/\w.same w/\y.same y/\F.same F/\G.same G/\D.same D/\(e (g 8 x.toNat 3::af) 217 2 false).same (e (al::af) 217 2 false)/\ak.same (d sR (nN p f 0) 249 false)/\(d sF av 177 false).same M/\True)/\c<=c/\c<=de p)/\∀(x:Int),let b8:=decide (x<de p);let T:=e [al,g 7 x.toNat 4] 217 2 false;let ab:=nN p f x.toNat;let U:=d sR ab 249 false;let ac:=bu (κ (dj p x - cT p P x));let aG:=[γv ac.fst,j a8 ac.snd.fst,j a8 ac.snd.snd];let b9:=ab.length+1;let X:=x+k;let ba:=a X;c<=x/\x<=de p->(b8=true->(p.classes.length<=8/\c<=x/\x<de p)/\(((t.same t/\v.same v/\z.same z/\A.same A/\B.same B/\C.same C/\(a x).same (a x)/\(a (dj p x)).same (a (dj p x - cT p [] x))/\J.same J/\(a x).same (a x)/\A.same A/\am.same am/\a7.same (a 0)/\True)/\s.same s/\w.same w/\y.same y/\F.same F/\G.same G/\D.same D/\T.same T/\U.same U/\M.same M/\True)/\c<=c/\c<=S)/\∀(x_1:Int),let aH:=bj P x_1.toNat aj;let aw:=dj p x - cT p (Δ x_1.toNat P) x;let bb:=aw - dW p x aH;let ad:=x_1+k;let K:=a x;let bc:=a ad;let aI:=bu (κ aw);c<=x_1/\x_1<=S->(decide (x_1<S)=true->z25=P.length/\c<=x_1/\x_1<(↑P.length:Int)/\z25=P.length/\x_1.toNat<P.length/\(p.classes.length<=8/\c<=x/\x<de p/\c<=aH.bX/\aH.bX<ay)/\m bb/\m ad/\((t.same t/\v.same v/\z.same z/\A.same A/\B.same B/\C.same C/\K.same K/\(a bb).same (a (dj p x - cT p (Δ ad.toNat P) x))/\J.same J/\K.same K/\A.same A/\am.same am/\bc.same bc/\True)/\s.same s/\w.same w/\y.same y/\F.same F/\G.same G/\D.same D/\T.same T/\U.same U/\M.same M/\True)/\(c<=ad/\ad<=S)/\(S - ad).toNat<(S - x_1).toNat)/\(decide (x_1<S)=false->(h<=aw/\aw<=l)/\(((t.same t/\v.same v/\z.same z/\A.same A/\B.same B/\C.same C/\K.same K/\an.same an/\J.same J/\K.same K/\z.same z/\V.same V/\a7.same (a 0)/\True)/\s.same s/\w.same w/\y.same y/\F.same F/\G.same G/\D.same D/\T.same T/\U.same U/\M.same M/\(e [aQ,γv aI.fst,j a8 aI.snd.fst,j a8 aI.snd.snd] 249 4 false).same (e (aQ::aG) 249 4 false)/\aP.same (d sF (nM p f x 0) 177 false)/\True)/\c<=c/\c<=E)/\∀(x_2:Int),let ax:=bj H x_2.toNat c;let aJ:=bj p.offers ax.toNat aj;let aK:=dW p x aJ;let ag:=nM p f x x_2.toNat;let bd:=ag.length+1;let Y:=x_2+k;let be:=a Y;let aL:=bu (κ aK);let bf:=ag++[(aL.fst,aL.snd.fst,aL.snd.snd)];let bg:=ab++[(ag,ac.fst,ac.snd.fst,ac.snd.snd)];c<=x_2/\x_2<=E->(decide (x_2<E)=true->N=H.length/\c<=x_2/\x_2<(↑H.length:Int)/\N=H.length/\x_2.toNat<H.length/\c<=ax/\ax<ae/\ax.toNat<ai/\(p.classes.length<=8/\c<=x/\x<de p/\c<=aJ.bX/\aJ.bX<ay)/\(h<=aK/\aK<=l)/\1=1/\x_2.toNat=ag.length/\bd*56<=140737488355328/\bd<=1000000000000/\m Y/\((t.same t/\v.same v/\z.same z/\A.same A/\B.same B/\C.same C/\K.same K/\an.same an/\J.same J/\K.same K/\z.same z/\V.same V/\be.same be/\True)/\s.same s/\w.same w/\y.same y/\F.same F/\G.same G/\D.same D/\T.same T/\U.same U/\M.same M/\(e (g 10 bf.length 3::aG) 249 4 false).same (e (g 10 Y.toNat 3::aG) 249 4 false)/\(d a9 bf 177 false).same (d sF (nM p f x Y.toNat) 177 false)/\True)/\(c<=Y/\Y<=E)/\(E - Y).toNat<(E - x_2).toNat)/\(decide (x_2<E)=false->x_2.toNat=ag.length/\1=1/\x.toNat=ab.length/\b9*80<=140737488355328/\b9<=1000000000000/\m X/\((t.same t/\v.same v/\z.same z/\A.same A/\B.same B/\C.same C/\J.same J/\ba.same ba/\True)/\s.same s/\w.same w/\y.same y/\F.same F/\G.same G/\D.same D/\(e [al,g 7 bg.length 4] 217 2 false).same (e [al,g 7 X.toNat 4] 217 2 false)/\(d az bg 249 false).same (d sR (nN p f X.toNat) 249 false)/\M.same M/\True)/\(c<=X/\X<=de p)/\(de p - X).toNat<(de p - x).toNat)))/\(b8=false->N=aA.length/\x.toNat=ab.length/\N=H.length/\(r [q [j sF aA,j sR ab],j L H,a7]).same ah/\s.same s/\True))))))) (by kernel_rfl) ?_;simp only[vcs];obtain⟨g1,g2,g3,g4,g5⟩:=dQ hc;have hoi:∀k:Nat,∀o:Int,o=k->(bj p.offers k bp.off.dflt)=oI p o:=λk o h=>by subst h;rfl
 have hw2:∀{a b:Nat},a=b->(γZ 3 a 1).same (γZ 3 b 1):=by rintro _ _ rfl;rfl
 have hw3:∀{a b:Nat},a=b->(γZ 4 a 8).same (γZ 4 b 8):=by rintro _ _ rfl;rfl
 have lI:∀{x y:List Int},x=y->(bq.row (.i .i64) x 3 true).same (bq.row (.i .i64) y 3 true):=by rintro _ _ rfl;rfl
 have yM:∀{x y:List Off},x=y->(bq.row .off x 65 true).same (bq.row .off y 65 true):=by rintro _ _ rfl;rfl
 refine⟨λh=>absurd hc h,λ_=>⟨λh=>absurd (by rw[hl]) h,λ_=>⟨⟨⟨⟨hw2 rfl,hw3 rfl⟩,lI rfl⟩,by omega,by omega⟩,?_⟩⟩⟩;rintro i ⟨i0,i1⟩;have htl:(f.take i.toNat).length<=160:=by rw[γu];omega
 have hd0:=@uH (f.take i.toNat) 0;have hd1:=@uH (f.take i.toNat) 1;have hm1:(γb (oI p) (bD (f.take i.toNat) 1)).length=(bD (f.take i.toNat) 1).length:=Θ _;refine⟨λhi=>?_,λhi=>?_⟩
 ·have hs0:=@Bd f 0 i i0 hi;have hs1:=@Bd f 1 i i0 hi;have aia: -1<=bj f i.toNat 0/\bj f i.toNat 0<=1:=by
   have:=φ.1 hr _ (dr (d:=0) (show i.toNat<f.length by omega));simpa using this
  refine⟨i0,hi,by omega,λh1=>?_,λh1=>⟨λh2=>?_,λh2=>⟨λh3=>?_,λh3=>by omega⟩⟩⟩
  ·rw[if_neg (by omega),γ1] at hs0 hs1;rw[hs0,hs1];refine⟨?_,⟨⟨hw2 rfl,hw3 rfl⟩,lI rfl,yM rfl⟩,?_,?_⟩<;>omega
  ·rw[if_pos (by omega)] at hs0;rw[if_neg (by omega),γ1] at hs1;rw[hs0,hs1];refine⟨?_,?_,?_,⟨⟨hw2 rfl,hw3 rfl⟩,lI rfl,yM rfl⟩,?_,?_⟩<;>omega
  ·rw[if_neg (by omega),γ1] at hs0;rw[if_pos (by omega)] at hs1;rw[hs0,hs1,hoi i.toNat i (by omega),hm1];have e:γb (oI p) (bD (f.take i.toNat) 1)++[oI p i]=γb (oI p) (bD (f.take i.toNat) 1++[i]):=by rw[γa];rfl
   rw[e,Θ];refine⟨i0,?_,?_,rfl,?_,?_,?_,⟨⟨hw2 rfl,hw3 rfl⟩,lI rfl,yM rfl⟩,?_,?_⟩<;>omega
 ·have htk:f.take i.toNat=f:=by rw[show i.toNat=f.length by omega,ψ]
  rw[htk] at hd0 hd1 hm1 ⊢;have hdl:∀d,(bD f d).length<=160:=λd=>by have:=@uH f d;omega
  refine⟨hm1.symm,⟨g1,by omega,λx hx=>?_⟩,λhb=>?_,λhb=>?_⟩
  ·obtain⟨k,hk,rfl⟩:=Ω.1 hx;have h1:=(kP.1 hk).1;have:=kQ hc (i:=k) (by omega);exact⟨this.1,this.2.1,this.2.2.1⟩
  ·have hb2:hJ p f=false:=hb;unfold mP;simp only[hb2];exact⟨rfl,rfl,rfl⟩
  ·have hb2:hJ p f=true:=hb;have hG:mP p f=((iJ (jO p f)).1,((iJ (jO p f)).2,bD f 0)):=by unfold mP;rw[if_pos hb2]
   simp only[hb2,if_true,hG];have hfx:eV p f:=⟨hc,hl,hb⟩;have Bi:∀{x y:List bL},x=y->(bq.row sF x 177 false).same (bq.row sF y 177 false):=by rintro _ _ rfl;rfl
   have Uy:∀{x y:List (List bL×bL)},x=y->(bq.row sR x 249 false).same (bq.row sR y 249 false):=by rintro _ _ rfl;rfl
   have KN:∀{a b c d:Nat},a=b->c=d->(bq.cells [.ow 8 a 3,.ow 7 c 4] 217 2 false).same (bq.cells [.ow 8 b 3,.ow 7 d 4] 217 2 false):=by rintro _ _ _ _ rfl rfl;rfl
   have hc8:∀{a b:Nat} {q q':Rat},a=b->q=q'->(bq.cells [.ow 10 a 3,.sb (bu q).1,.row (.i .u32) (bu q).2.1,.row (.i .u32) (bu q).2.2] 249 4 false).same (bq.cells [.ow 10 b 3,.sb (bu q').1,.row (.i .u32) (bu q').2.1,.row (.i .u32) (bu q').2.2] 249 4 false):=by rintro _ _ _ _ rfl rfl;rfl
   have hn0:=hdl 0;have hn1:=hdl 1;have hfree:∀j:Int,0<=j->j<(bD f 0).length->(0<=bj (bD f 0) j.toNat 0/\bj (bD f 0) j.toNat 0<p.offers.length):=λj h0 h1=>by
    have:=(kP.1 (dr (d:=0) (show j.toNat<(bD f 0).length by omega))).1;omega
   refine⟨⟨⟨⟨hw2 rfl,hw3 rfl,hw2 rfl,trivial⟩,lI rfl,yM rfl,Bi rfl⟩,by omega,by omega⟩,?_⟩;rintro j ⟨j0,j1⟩;have hgl:=@J6 p f j.toNat (by omega);refine⟨λhj=>?_,λhj=>?_⟩
   ·have hk:=hfree j j0 hj;have ho:=kQ hc hk;have hs:=@ad4 p f j j0 hj;have aeT:=@J6 p f (j+1).toNat (by omega);rw[hoi _ (bj (bD f 0) j.toNat 0) (by omega)];simp only[jM];have e:mq p f j.toNat++[bu (κ (oI p (bj (bD f 0) j.toNat 0)).value)]=mq p f (j+1).toNat:=hs.symm;rw[e];refine⟨j0,hj,?_,hk.1,hk.2,?_,?_,?_,?_,?_,?_,⟨KN aeT rfl,Bi rfl⟩,?_,?_⟩<;>omega
   ·rw[show j.toNat=(bD f 0).length by omega];have hnr:de p=p.classes.length+12:=rfl;refine⟨g1,⟨⟨KN rfl rfl,Uy rfl,Bi rfl⟩,by omega,by omega⟩,?_⟩;rintro r ⟨r0,r1⟩;have hrl:=@TY p f r.toNat;refine⟨λhr2=>⟨⟨g1,r0,hr2⟩,⟨by simp[cT],by omega,by omega⟩,?_⟩,λhr2=>?_⟩
    ·rintro k ⟨k0,k1⟩;have hok:∀x∈(γb (oI p) (bD f 1)).take k.toNat,x.want.ok=true:=λx hx=>(Em hfx x (γm hx)).2.2.1;have hsb:=@sG p r ((γb (oI p) (bD f 1)).take k.toNat) hok;have aeU:((γb (oI p) (bD f 1)).take k.toNat).length<=160:=by rw[γu];omega
     have hbb:=@AG p hc r;refine⟨λhk=>?_,λhk=>?_⟩
     ·have hx:=Em hfx _ (dr (d:=bp.off.dflt) (show k.toNat<(γb (oI p) (bD f 1)).length by omega));have hst:=@HJ p r (γb (oI p) (bD f 1)) k bp.off.dflt k0 (by omega);have hcb:=@pM p r _ hx.2.2.1;refine⟨?_,k0,?_,?_,?_,⟨g1,r0,hr2,hx.1,hx.2.1⟩,?_,?_,?_,?_,?_⟩<;>omega
     ·have e:(γb (oI p) (bD f 1)).take k.toNat=γb (oI p) (bD f 1):=List.take_of_length_le (by omega);rw[e] at hsb aeU ⊢;refine⟨by omega,⟨⟨hc8 rfl rfl,Bi rfl⟩,by omega,by omega⟩,?_⟩;rintro l ⟨l0,l1⟩;have hcl:=@TX p f r l.toNat (by omega);refine⟨λhl2=>?_,λhl2=>?_⟩
      ·have hk:=hfree l l0 hl2;have ho:=kQ hc hk;have hs:=@ad5 p f r l l0 hl2;have aeV:=@TX p f r (l+1).toNat (by omega);have hcb:=@pM p r _ ho.2.2.1;rw[hoi _ (bj (bD f 0) l.toNat 0) (by omega)];simp only[jM];have e:nM p f r l.toNat++[bu (κ (dW p r (oI p (bj (bD f 0) l.toNat 0))))]=nM p f r (l+1).toNat:=hs.symm;rw[e];refine⟨l0,hl2,?_,hk.1,hk.2,?_,⟨g1,r0,hr2,ho.1,ho.2.1⟩,?_,?_,?_,?_,?_,⟨hc8 aeV rfl,Bi rfl⟩,?_,?_⟩<;>omega
      ·rw[show l.toNat=(bD f 0).length by omega] at hcl ⊢;have hs:=@ad6 p f r r0;have hrl2:=@TY p f (r+1).toNat;simp only[jM];have e:nN p f r.toNat++[(nM p f r (bD f 0).length,bu (κ (dj p r - cT p (γb (oI p) (bD f 1)) r)))]=nN p f (r+1).toNat:=hs.symm;rw[e];refine⟨hcl.symm,hrl.symm,?_,?_,?_,⟨KN rfl hrl2,Uy rfl⟩,?_,?_⟩<;>omega
    ·have e:r.toNat=mF p:=by
      show r.toNat=p.classes.length+12;omega
     rw[e] at hrl ⊢;rw[TV,TW];refine⟨?_,hrl.symm.trans (by rw[TW]),rfl,trivial,trivial⟩;rw[<-TV];exact(J6 (Nat.le_refl _)).symm
noncomputable def KO:dH:=KI 100 (λp f=>f.length<=1000000000000) λp f=> .bI [aec p f,.si .i64 (je p f)]
noncomputable def Uz (p:bn) (f:List Int) (x:List bL):bZ:=
 [.row (.i .i64) f 3 true,.cells p.ss 27 20 false,.cells [.bl false,.bl false,.sc (.slice none 0 0),.sc (.slice none 0 0),.sc (.slice none 0 0),.sc (.slice none 0 0)] 179 6 false,.cells [.row sF (mP p f).1,.row sR (mP p f).2.1] 217 2 false,
  .cells [.si .i64 1,.sb (bu (dy p f).value).1,.row (.i .u32) (bu (dy p f).value).2.1,.row (.i .u32) (bu (dy p f).value).2.2,.row sF (fL (gp (dy p f) (nF f) (mF p))),.row sF (fL (iC p f)),.row sF []] 221 7 false,.row sF x 177 true]
noncomputable def aeW (p:bn) (f:List Int):Nat->cE
 |12=> .inv Int (λi=>⟨[(1,.ow 0 f.length 1),(2,.ptr 1 0 20),(4,.ptr 2 0 6),(8,.row (.i .i64) (bD f 0)),(10,.ptr 4 0 7),(11,.ow 5 f.length 3),(45,.ow 0 f.length 1),(46,.si .i64 f.length),(47,.si .i64 i)],Uz p f (eU (fL (j3 p f 0)) i.toNat (false,([],[])))⟩)
   (λs=>iS s 47) (λi=>0<=i/\i<=f.length) (λi=>(f.length - i).toNat) λ_ _=> .look
 |19=> .inv Int (λk=>⟨[(1,.ow 0 f.length 1),(2,.ptr 1 0 20),(4,.ptr 2 0 6),(10,.ptr 4 0 7),(11,.ow 5 f.length 3),(63,.row (.i .i64) (bD f 0)),(64,.si .i64 (bD f 0).length),(65,.si .i64 k)],Uz p f (fL (j3 p f k.toNat))⟩)
   (λs=>iS s 65) (λk=>0<=k/\k<=(bD f 0).length) (λk=>((bD f 0).length - k).toNat) λ_ _=> .look
 |_=> .look
theorem h390w:ec Tryz.prog KO:=by
 refine Bh (L:=[Ez,J4,oC,wq]) (W:=[KL,KJ]) KO (λa=>aeW a.1 a.2.2) (by simpa using⟨h394w,h396w⟩) (by simpa using⟨h393,h395,h94,h129⟩) ?_;rintro⟨p,n,f⟩ ⟨hn,hl:f.length<=1000000000000⟩;simp only at hn;subst hn;refine bO (let c:=γh .i64;let d:=(0:Int);let e:=Ψ;let g:=bq.row;let h:=(-9223372036854775808:Int);let j:=(9223372036854775807:Int);let k:=bq.cells;let l:=(1:Int);let m:=γv;let n:=SV.bI;let o:=γO;let q:=γM;let Q:=δc false;let v:=bp.i .u32;let a6:=bp.b.pair (v.bF.pair v.bF);let ah:=q [Q,Q,e v [],e v [],e a6 [],e a6 []];let ai:=[c (je p f)];let a7:=n (q [m (j4 p f),m (kr p f).fst,e v (kr p f).snd.fst,e v (kr p f).snd.snd,e sF (qK p f),e sF (ku p f)]::ai);let R:=bp.i .i64;let t:=g R f 3 true;let aj:=decide (je p f≠d);let ak:=decide ((if hJ p f=true then d else(14:Int))≠d);let S:=γx .i64 0;let T:=(mP p f).fst;let a8:=(mP p f).snd.fst;let a9:=c 0;let s:=(↑f.length:Int);let w:=γZ 0 f.length 1;let y:=o 1 0 20;let z:=o 2 0 6;let J:=bD f d;let G:=e R J;let A:=o 4 0 7;let H:=γZ 5 f.length 3;let U:=c s;let B:=k [c p.supply.a0,c p.supply.a1,c p.supply.a2,c p.supply.a3,c p.supply.a4,c p.supply.a5,c p.opn.a0,c p.opn.a1,c p.opn.a2,c p.opn.a3,c p.opn.a4,c p.opn.a5,c p.cls.a0,c p.cls.a1,c p.cls.a2,c p.cls.a3,c p.cls.a4,c p.cls.a5,e R p.classes,e bp.off p.offers] 27 20 false;let V:=SV.sc (Value.slice none 0 0);let C:=k [Q,Q,V,V,V,V] 179 6 false;let D:=k [e sF T,e sR a8] 217 2 false;let al:=c 1;let aa:=γb (λ(r:List bL×bL) ↦(vL r.fst,bV r.snd)) a8;let P:=nL (vL T,aa);let z31:Nat:=(vL T).length;let K:=bu (dy p f).value;let W:=fL (gp (dy p f) (nF f) (mF p));let am:=e sF (fL (iC p f));let I:=k [al,m K.fst,e v K.snd.fst,e v K.snd.snd,e sF W,am,e sF []] 221 7 false;let X:=(false,[],[]);let Y:=fL (j3 p f 0);let ab:=bu (κ d);let ac:=bu (κ l);let E:=(↑J.length:Int);let ad:=c E;let ae:=bu (κ (gA p f));let an:=(ae.fst,ae.snd.fst,ae.snd.snd);let ao:=(K.fst,K.snd.fst,K.snd.snd);let af:=bu (bV an+bV ao);let ap:=λ(u:Bool) (u_1:SV) ↦u=true->0=0/\0=0/\0=0/\0=0/\(n [ah,u_1]).same a7/\t.same t/\True;f.length=f.length/\f.length<=1000000000000/\(aj=true->0=0/\0=0/\0=0/\0=0/\(n (ah::ai)).same a7/\t.same t/\True)/\(aj=false->(f.length=f.length/\(bz p=d/\f.length=p.offers.length)/\jN f=true)/\ap ak S/\(ak=false->(∃(a:Lp),(T,a8)=iJ a/\Bc a)/\ap false a9/\(false=false->d<=s/\s<=s/\s*(56:Int)<=(140737488355328:Int)/\s<=(1000000000000:Int)/\(((w.same w/\y.same y/\z.same z/\(e R (mP p f).snd.snd).same G/\A.same A/\(γZ 5 s.toNat 3).same H/\w.same w/\U.same U/\S.same a9/\True)/\t.same t/\B.same B/\C.same C/\D.same D/\(k [al,m (bu P.value).fst,e v (bu P.value).snd.fst,e v (bu P.value).snd.snd,e sF (fL (gp P z31 aa.length)),e sF (fL (jw P z31 aa.length z31)),e sF []] 221 7 false).same I/\(g a6 (δ s.toNat X) 177 true).same (g sF (eU Y 0 X) 177 true)/\True)/\d<=d/\d<=s)/\∀(x:Int),let L:=x+l;let aq:=c L;let M:=eU Y x.toNat X;let ar:=decide (bj f x.toNat d=l);let N:=M.set x.toNat (ab.fst,ab.snd.fst,ab.snd.snd);let au:=λ(u:List (Bool×List Int×List Int)) ↦cq .i64 L/\((w.same w/\y.same y/\z.same z/\G.same G/\A.same A/\H.same H/\w.same w/\U.same U/\aq.same aq/\True)/\t.same t/\B.same B/\C.same C/\D.same D/\I.same I/\(g sF u 177 true).same (g sF (eU Y L.toNat X) 177 true)/\True)/\(d<=L/\L<=s)/\(s - L).toNat<(s - x).toNat;d<=x/\x<=s->(decide (x<s)=true->f.length=f.length/\d<=x/\x<(↑f.length:Int)/\f.length=f.length/\x.toNat<f.length/\(h<=d/\d<=j)/\f.length=M.length/\d<=x/\x<(↑M.length:Int)/\f.length=M.length/\x.toNat<M.length/\(ar=true->(h<=l/\l<=j)/\f.length=N.length/\d<=x/\x<(↑N.length:Int)/\f.length=N.length/\x.toNat<N.length/\au (N.set x.toNat (ac.fst,ac.snd.fst,ac.snd.snd)))/\(ar=false->au N))/\(decide (x<s)=false->(((w.same w/\y.same y/\z.same z/\A.same A/\H.same H/\G.same G/\(c (↑J.length:Int)).same ad/\S.same a9/\True)/\t.same t/\B.same B/\C.same C/\D.same D/\I.same I/\(g sF M 177 true).same (g sF Y 177 true)/\True)/\d<=d/\d<=E)/\∀(x:Int),let F:=fL (j3 p f x.toNat);let Z:=bj J x.toNat d;let O:=x+l;let av:=c O;let ag:=bj W x.toNat sF.dflt;d<=x/\x<=E->(decide (x<E)=true->d<=x/\x<(↑J.length:Int)/\x.toNat<J.length/\d<=x/\x<(↑W.length:Int)/\x.toNat<W.length/\f.length=F.length/\d<=Z/\Z<(↑F.length:Int)/\f.length=F.length/\Z.toNat<F.length/\cq .i64 O/\((w.same w/\y.same y/\z.same z/\A.same A/\H.same H/\G.same G/\ad.same ad/\av.same av/\True)/\t.same t/\B.same B/\C.same C/\D.same D/\I.same I/\(g sF (F.set Z.toNat (ag.fst,ag.snd.fst,ag.snd.snd)) 177 true).same (g sF (fL (j3 p f O.toNat)) 177 true)/\True)/\(d<=O/\O<=E)/\(E - O).toNat<(E - x).toNat)/\(decide (x<E)=false->(f.length=f.length/\bz p=d/\f.length=p.offers.length)/\(cC an/\cC ao)/\f.length=F.length/\f.length=F.length/\(n [q [δc true,m af.fst,e v af.snd.fst,e v af.snd.snd,am,e sF F],S]).same a7/\t.same t/\True)))))) (by kernel_rfl) ?_;simp only[vcs];have hz:j4 p f=false->(γM [δc false,δc false,Ψ (bp.i IntKind.i64) [],Ψ (bp.i IntKind.i64) [],Ψ (bp.i IntKind.i64) [],Ψ (bp.i IntKind.i64) []]).same
   (γM [γv (j4 p f),γv (kr p f).fst,Ψ (bp.i IntKind.u32) (kr p f).snd.fst,Ψ (bp.i IntKind.u32) (kr p f).snd.snd,Ψ sF (qK p f),Ψ sF (ku p f)]):=λh=>by
  unfold kr qK ku;simp only[h];rfl
 refine⟨hl,λh=>hz (by unfold j4;rw[decide_eq_false h];rfl),λh=>?_⟩;have hx0:je p f=0:=γg.1 h;have hcl:bz p=0/\f.length=p.offers.length/\jN f=true:=by
  unfold je at hx0;split at hx0;·rename_i h1;exact absurd hx0 h1
  ·rename_i h1;split at hx0;·cases hx0
   ·rename_i h2;split at hx0;·rename_i h3;exact⟨γg.1 h1,γg.1 h2,h3⟩
    ·cases hx0
 obtain⟨hc,hln,hr⟩:=hcl;refine⟨⟨⟨hc,hln⟩,hr⟩,λh1=>⟨hz ?_,hx0.symm⟩,λh1=>?_⟩
 ·have hb:hJ p f=false:=by
   cases hb:hJ p f with
   |false=>rfl;|true=>rw[hb] at h1;exact absurd rfl h1
  unfold j4;rw[hb,Bool.and_false]
 ·have hb:hJ p f=true:=by
   cases hb:hJ p f with
   |true=>rfl;|false=>rw[hb] at h1;exact absurd (by simp) h1
  have hfx:eV p f:=⟨hc,hln,hb⟩;have hG:mP p f=((iJ (jO p f)).1,((iJ (jO p f)).2,bD f 0)):=by unfold mP;rw[if_pos hb]
  have hok:j4 p f=true:=by unfold j4;rw[hb,decide_eq_true hx0];rfl
  have h0:(κ 0:Rat)=0:=rfl;have h1':(κ 1:Rat)=1:=rfl;simp only[hG,TR,TS,h0,h1',jM];have e1:(jO p f).1.length=nF f:=by
   show((bD f 0).map _).length=_;rw[Θ]
  have e2:(jO p f).2.length=mF p:=by
   show((dm (mF p)).map _).length=_;rw[Θ,iP]
  have J5:((jO p f).1,(jO p f).2)=jO p f:=rfl;simp only[J5,ad8,e1,e2];have uI:∀{x y:List bL},x=y->(bq.row sF x 177 true).same (bq.row sF y 177 true):=by rintro _ _ rfl;rfl
  have hs0:=@yD p f 0;have hf0:=@fE (j3 p f 0);have hpt:=@Et (dy p f) (nF f) (mF p);have hfp:=@fE (gp (dy p f) (nF f) (mF p));have hcast:∀k:Nat,((k:Nat):Int).toNat=k:=λk=>γl k;have hnf:nF f=(bD f 0).length:=rfl;have hdl0:=@uH f 0;refine⟨⟨jO p f,rfl,ad7 hfx⟩,λh=>(by cases h),λ_=>⟨by omega,by omega,by omega,by omega,⟨⟨⟨trivial,by rw[hcast];rfl⟩,rfl,uI (by rw[yx,hf0,hs0,hcast])⟩,by omega,by omega⟩,?_⟩⟩;rintro i ⟨i0,i1⟩;have oV:=@yw (fL (j3 p f 0)) i.toNat (false,([],[])) (by omega);refine⟨λhi=>?_,λhi=>?_⟩
  ·have hv:bj (fL (j3 p f 0)) i.toNat (false,([],[]))=bu (if bj f i.toNat 0=1 then 1 else 0):=by rw[jv (by omega),aeb (by omega)]
   have hset:∀x:bL,x=bu (if bj f i.toNat 0=1 then 1 else 0)->(eU (fL (j3 p f 0)) i.toNat (false,([],[]))).set i.toNat x=eU (fL (j3 p f 0)) (i+1).toNat (false,([],[])):=λx hx=>by
    have:=yA (d:=fL (j3 p f 0)) (j:=i.toNat) (z:=(false,([],[]))) (x:=x) (by omega) (hx.trans hv.symm);rw[show(i+1).toNat=i.toNat+1 by omega];exact this
   rw[Φ];refine⟨i0,hi,by omega,by omega,by omega,i0,by omega,by omega,by omega,λh1=>⟨by omega,by omega,i0,by omega,by omega,by omega,by omega,uI ?_,by omega,by omega⟩,λh1=>⟨by omega,uI ?_,by omega,by omega⟩⟩
   ·rw[List.set_set];exact hset _ (by rw[if_pos h1])
   ·exact hset _ (by rw[if_neg h1])
  ·have hi2:i.toNat=(fL (j3 p f 0)).length:=by omega
   rw[hi2,yz];refine⟨⟨uI rfl,by omega,by omega⟩,?_⟩;rintro k ⟨k0,k1⟩;have hsk:=@yD p f k.toNat;have hfk:=@fE (j3 p f k.toNat);refine⟨λhk=>?_,λhk=>?_⟩
   ·have hm:=(kP.1 (dr (d:=0) (show k.toNat<(bD f 0).length by omega))).1;have hv:bj (fL (gp (dy p f) (nF f) (mF p))) k.toNat sF.dflt=bu (bj (gp (dy p f) (nF f) (mF p)) k.toNat 0):=jv (by omega);have hst:=@aea p f k.toNat (by omega);rw[hv];refine⟨k0,hk,by omega,k0,by omega,by omega,by omega,hm.1,by omega,by omega,by omega,by omega,uI ?_,by omega,by omega⟩;rw[yB,show(k+1).toNat=k.toNat+1 by omega,hst]
   ·have hk2:k.toNat=nF f:=by omega
    rw[hk2] at hsk hfk ⊢;have hab:=@Be p hc f f.length hln;rw[ψ] at hab;have hsa:Sz 1 ((gA p f:Int):Rat):=by
     unfold Sz;rw[Rat.num_intCast,Rat.den_intCast];omega
    have hsv:Sz 1000000 (dy p f).value:=by
     have:=(En hfx).wu (oD hfx).1;exact this.2.2.2
    refine⟨⟨hc,hln⟩,⟨dP hsa (by omega),dP hsv (by omega)⟩,by omega,by omega,?_,hx0.symm⟩;unfold kr qK ku;simp only[hok,if_true,eC];rfl
def KP:dH:=EO 104 (List bL) (.one (dF sF)) (λx a=>fp x/\pv a/\a.length=x.p.offers.length) (λx a=>nu.put ⟨eG (vL a),cJ ((eG (vL a)).map (oI x.p))⟩) λx _=>x
def ky (x:List Rat) (k:Nat):List Int:=(dm k).filter λi=>decide (0<bj x i.toNat 0)
def lJ (p:bn) (l:List Int):Int:=cJ (l.map (oI p))
def aeY (x:dJ) (a:List bL):Nat->cE
 |3=>match x.en with
  |none=> .inv Int (λi=>⟨[(0,.ptr 0 0 28),(4,.ptr 3 0 2),(5,.ptr 5 0 2),(10,.row sF a),(11,.si .i64 a.length),(12,.si .i64 i)],
    x.yG++[.cells [.sc (.slice none 0 0),.si .i64 0] 40 2 false,.row (.i .i64) (ky (vL a) i.toNat) 3 true,.cells [.ow 4 (ky (vL a) i.toNat).length 1,.si .i64 (lJ x.p (ky (vL a) i.toNat))] 40 2 false]⟩)
    (λs=>iS s 12) (λi=>0<=i/\i<=a.length) (λi=>(a.length - i).toNat) λ_ _=> .look
  |some m=> .inv Int (λi=>⟨[(0,.ptr 0 0 28),(4,.ptr 4 0 2),(5,.ptr 6 0 2),(10,.row sF a),(11,.si .i64 a.length),(12,.si .i64 i)],
    x.yH m++[.cells [.sc (.slice none 0 0),.si .i64 0] 40 2 false,.row (.i .i64) (ky (vL a) i.toNat) 3 true,.cells [.ow 5 (ky (vL a) i.toNat).length 1,.si .i64 (lJ x.p (ky (vL a) i.toNat))] 40 2 false]⟩)
    (λs=>iS s 12) (λi=>0<=i/\i<=a.length) (λi=>(a.length - i).toNat) λ_ _=> .look
 |_=> .look
theorem UA {x:List Rat} {i:Int} (i0:0<=i):ky x (i+1).toNat=if 0<bj x i.toNat 0 then ky x i.toNat++[i] else ky x i.toNat:=by
 unfold ky;rw[show(i+1).toNat=i.toNat+1 by omega,sP,List.filter_append,εz i0];grind
theorem UB {p:bn} {x:List Rat} {k:Nat} (a:bz p=0) (g:k<=p.offers.length):(ky x k).length<=160/\0<=lJ p (ky x k)/\lJ p (ky x k)<=160000000:=by
 have e:(ky x k).length<=k:=by
  have:=δd (λi:Int=>decide (0<bj x i.toNat 0)) (dm k);rw[iP] at this;exact this
 have c:=sJ (dQ a) (l:=(ky x k).map (oI p)) λy b=>by
  obtain⟨i,d,rfl⟩:=Ω.1 b;have:=kK.1 (γs.1 d).1;exact dr (by omega)
 rw[Θ] at c;have f:=(dQ a).2.1;grind[lJ]
theorem UC {p:bn} {l:List Int} {i:Int}:lJ p (l++[i])=lJ p l+(oI p i).value:=by
 simp_all[lJ,pN,cJ]
theorem h446:ec Tryz.prog KP:=by
 refine Bh (L:=[sT]) (W:=[]) KP (λa=>aeY a.1 a.2) (by simp) (by simpa using h99) ?_;rintro⟨⟨p,ch,val,found,en,k1,k2,most,err,prf,fx⟩,a⟩ ⟨hok,⟨l,hx,hla,hz⟩,hl⟩;simp only at hok hx hla hl;subst hx;have hc:bz p=0:=hok.f.c;have h160:=(dQ hc).2.1;have hll:=@fE l;have hl:(fL l).length=p.offers.length:=hl;cases en with
 |none=>
  refine bO (let a:=γh .i64;let b:=bq.cells;let c:=bq.row;let d:=(0:Int);let e:=Ψ;let f:=γZ;let g:=γO;let r:=g 0 0 28;let s:=g 3 0 2;let t:=g 5 0 2;let C:=(↑(fL l).length:Int);let k:=(↑(fL l).length:Int);let v:=a k;let w:=γx .i64 0;let D:=a 0;let j:=bp.i .i64;let m:=b [a p.supply.a0,a p.supply.a1,a p.supply.a2,a p.supply.a3,a p.supply.a4,a p.supply.a5,a p.opn.a0,a p.opn.a1,a p.opn.a2,a p.opn.a3,a p.opn.a4,a p.opn.a5,a p.cls.a0,a p.cls.a1,a p.cls.a2,a p.cls.a3,a p.cls.a4,a p.cls.a5,e j p.classes,e bp.off p.offers,e j ch,a val,γv found,ζM (Fn.func 70) [] [],f 1 k1 5,f 2 k2 1,a most,a err] 126 28 false;let n:=c bE prf 108 true;let o:=c j fx 3 true;let E:=SV.sc (Value.slice none 0 0);let y:=b [E,D] 40 2 false;let z:=ky (vL (fL l)) 0;(((r.same r/\s.same s/\t.same t/\(e sF (fL l)).same (e sF (fL l))/\(a C).same v/\w.same D/\True)/\m.same m/\n.same n/\o.same o/\(b [E,w] 40 2 false).same y/\(c j [] 3 true).same (c j z 3 true)/\(b [f 4 0 1,w] 40 2 false).same (b [f 4 z.length 1,a (lJ p z)] 40 2 false)/\True)/\d<=d/\d<=k)/\∀(x:Int),let q:=x+(1:Int);let F:=a q;let A:=ky (vL (fL l)) q.toNat;let B:=bj (fL l) x.toNat sF.dflt;let G:=(B.fst,B.snd.fst,B.snd.snd);let h:=ky (vL (fL l)) x.toNat;let H:=h.length+1;let I:=lJ p h+(bj p.offers x.toNat bp.off.dflt).value;let J:=λ(u:bq) (u_1:Nat) (u_2:Int) ↦cq .i64 q/\((r.same r/\s.same s/\t.same t/\(e sF (fL l)).same (e sF (fL l))/\v.same v/\F.same F/\True)/\m.same m/\n.same n/\o.same o/\y.same y/\u.same (c j A 3 true)/\(b [f 4 u_1 1,a u_2] 40 2 false).same (b [f 4 A.length 1,a (lJ p A)] 40 2 false)/\True)/\(d<=q/\q<=k)/\(k - q).toNat<(k - x).toNat;let K:=λ(u:Bool) ↦decide (d<jL (bV G))=u;d<=x/\x<=k->(decide (x<k)=true->d<=x/\x<C/\x.toNat<(fL l).length/\cC G/\(K true->1=1/\h.length=h.length/\H*8<=140737488355328/\H<=1000000000000/\d<=x/\x<(↑p.offers.length:Int)/\x.toNat<p.offers.length/\cq .i64 I/\J (c j (h++[x]) 3 true) (h++[x]).length I)/\(K false->J (c j h 3 true) h.length (lJ p h)))/\(decide (x<k)=false->h.length=h.length/\h.length=h.length/\h.length=h.length/\(γM [e j h,a (lJ p h)]).same (γM [e j (eG (vL (fL l))),a (cJ (γb (oI p) (eG (vL (fL l)))))])/\m.same m/\n.same n/\o.same o/\True)) (by kernel_rfl) ?_;simp only[vcs];have lI:∀{x y:List Int},x=y->(bq.row (.i .i64) x 3 true).same (bq.row (.i .i64) y 3 true):=by rintro _ _ rfl;rfl
  have hcI:∀{x y:List Int} {v w:Int},x=y->v=w->(bq.cells [.ow 4 x.length 1,.si .i64 v] 40 2 false).same (bq.cells [.ow 4 y.length 1,.si .i64 w] 40 2 false):=by rintro _ _ _ _ rfl rfl;rfl
  refine⟨⟨⟨rfl,lI rfl,rfl⟩,by omega,by omega⟩,?_⟩;rintro i ⟨i0,i1⟩;have hb:=@UB p (vL (fL l)) i.toNat hc (by omega);refine⟨λhi=>?_,λhi=>?_⟩
  ·have hv:bj (fL l) i.toNat sF.dflt=bu (bj l i.toNat 0):=jv (by omega);have hq:=hz _ (dr (d:=0) (show i.toNat<l.length by omega));have ho:=(kQ hc (i:=i) (by omega)).2.2.2;have hval:(bj p.offers i.toNat bp.off.dflt).value=(oI p i).value:=rfl;have hs:=@UA (vL (fL l)) i i0;rw[hv,hval];rw[kN] at hs hb ⊢;simp only[jM,eC,uD];refine⟨i0,hi,by omega,dP hq (by omega),λh=>?_,λh=>?_⟩
   ·rw[if_pos h] at hs;rw[hs,UC];refine⟨?_,?_,i0,?_,?_,?_,?_,⟨lI rfl,hcI rfl rfl⟩,?_,?_⟩<;>omega
   ·rw[if_neg h] at hs;rw[hs];refine⟨?_,⟨lI rfl,hcI rfl rfl⟩,?_,?_⟩<;>omega
  ·rw[show i.toNat=(vL (fL l)).length by rw[kN];omega];rfl;|some m=>
  refine bO (let a:=γh .i64;let b:=bq.cells;let c:=bq.row;let d:=(0:Int);let e:=Ψ;let f:=γZ;let g:=γO;let t:=g 0 0 28;let v:=g 4 0 2;let w:=g 6 0 2;let E:=(↑(fL l).length:Int);let k:=(↑(fL l).length:Int);let y:=a k;let z:=γx .i64 0;let F:=a 0;let j:=bp.i .i64;let n:=b [a p.supply.a0,a p.supply.a1,a p.supply.a2,a p.supply.a3,a p.supply.a4,a p.supply.a5,a p.opn.a0,a p.opn.a1,a p.opn.a2,a p.opn.a3,a p.opn.a4,a p.opn.a5,a p.cls.a0,a p.cls.a1,a p.cls.a2,a p.cls.a3,a p.cls.a4,a p.cls.a5,e j p.classes,e bp.off p.offers,e j ch,a val,γv found,ζM (Fn.func 116) [] [g 1 0 1],f 2 k1 5,f 3 k2 1,a most,a err] 126 28 false;let o:=b [a m] 2 1 false;let q:=c bE prf 108 true;let r:=c j fx 3 true;let G:=SV.sc (Value.slice none 0 0);let A:=b [G,F] 40 2 false;let B:=ky (vL (fL l)) 0;(((t.same t/\v.same v/\w.same w/\(e sF (fL l)).same (e sF (fL l))/\(a E).same y/\z.same F/\True)/\n.same n/\o.same o/\q.same q/\r.same r/\(b [G,z] 40 2 false).same A/\(c j [] 3 true).same (c j B 3 true)/\(b [f 5 0 1,z] 40 2 false).same (b [f 5 B.length 1,a (lJ p B)] 40 2 false)/\True)/\d<=d/\d<=k)/\∀(x:Int),let s:=x+(1:Int);let H:=a s;let C:=ky (vL (fL l)) s.toNat;let D:=bj (fL l) x.toNat sF.dflt;let I:=(D.fst,D.snd.fst,D.snd.snd);let h:=ky (vL (fL l)) x.toNat;let J:=h.length+1;let K:=lJ p h+(bj p.offers x.toNat bp.off.dflt).value;let L:=λ(u:bq) (u_1:Nat) (u_2:Int) ↦cq .i64 s/\((t.same t/\v.same v/\w.same w/\(e sF (fL l)).same (e sF (fL l))/\y.same y/\H.same H/\True)/\n.same n/\o.same o/\q.same q/\r.same r/\A.same A/\u.same (c j C 3 true)/\(b [f 5 u_1 1,a u_2] 40 2 false).same (b [f 5 C.length 1,a (lJ p C)] 40 2 false)/\True)/\(d<=s/\s<=k)/\(k - s).toNat<(k - x).toNat;let M:=λ(u:Bool) ↦decide (d<jL (bV I))=u;d<=x/\x<=k->(decide (x<k)=true->d<=x/\x<E/\x.toNat<(fL l).length/\cC I/\(M true->1=1/\h.length=h.length/\J*8<=140737488355328/\J<=1000000000000/\d<=x/\x<(↑p.offers.length:Int)/\x.toNat<p.offers.length/\cq .i64 K/\L (c j (h++[x]) 3 true) (h++[x]).length K)/\(M false->L (c j h 3 true) h.length (lJ p h)))/\(decide (x<k)=false->h.length=h.length/\h.length=h.length/\h.length=h.length/\(γM [e j h,a (lJ p h)]).same (γM [e j (eG (vL (fL l))),a (cJ (γb (oI p) (eG (vL (fL l)))))])/\n.same n/\o.same o/\q.same q/\r.same r/\True)) (by kernel_rfl) ?_;simp only[vcs];have lI:∀{x y:List Int},x=y->(bq.row (.i .i64) x 3 true).same (bq.row (.i .i64) y 3 true):=by rintro _ _ rfl;rfl
  have hcI:∀{x y:List Int} {v w:Int},x=y->v=w->(bq.cells [.ow 5 x.length 1,.si .i64 v] 40 2 false).same (bq.cells [.ow 5 y.length 1,.si .i64 w] 40 2 false):=by rintro _ _ _ _ rfl rfl;rfl
  refine⟨⟨⟨rfl,lI rfl,rfl⟩,by omega,by omega⟩,?_⟩;rintro i ⟨i0,i1⟩;have hb:=@UB p (vL (fL l)) i.toNat hc (by omega);refine⟨λhi=>?_,λhi=>?_⟩
  ·have hv:bj (fL l) i.toNat sF.dflt=bu (bj l i.toNat 0):=jv (by omega);have hq:=hz _ (dr (d:=0) (show i.toNat<l.length by omega));have ho:=(kQ hc (i:=i) (by omega)).2.2.2;have hval:(bj p.offers i.toNat bp.off.dflt).value=(oI p i).value:=rfl;have hs:=@UA (vL (fL l)) i i0;rw[hv,hval];rw[kN] at hs hb ⊢;simp only[jM,eC,uD];refine⟨i0,hi,by omega,dP hq (by omega),λh=>?_,λh=>?_⟩
   ·rw[if_pos h] at hs;rw[hs,UC];refine⟨?_,?_,i0,?_,?_,?_,?_,⟨lI rfl,hcI rfl rfl⟩,?_,?_⟩<;>omega
   ·rw[if_neg h] at hs;rw[hs];refine⟨?_,⟨lI rfl,hcI rfl rfl⟩,?_,?_⟩<;>omega
  ·rw[show i.toNat=(vL (fL l)).length by rw[kN];omega];rfl
def KQ:bM:=⟨105,List bL,.one (dF sF),pv,λx=> .bI [.si .i64 ((jP (vL x)).getD 0),.sb (jP (vL x)).isSome]⟩
def kz:Option (Int×Rat)->bL
 |none=>(false,([],[]))
 |some (_,q)=>bu q
def wB:Option (Int×Rat)->Int
 |none=>0
 |some (i,_)=>i
def aeZ (x:List bL):Nat->cE
 |6=> .inv Int (λi=>⟨[(4,.ptr 0 0 3),(6,.ptr 1 0 3),(7,.ptr 2 0 2),(8,.ptr 3 0 3),(17,.row sF x),(18,.si .i64 x.length),(19,.si .i64 i)],
   [.cells [.sb (bu (fW false 1 2)).1,.row (.i .u32) (bu (fW false 1 2)).2.1,.row (.i .u32) (bu (fW false 1 2)).2.2] 177 3 false,
    .cells [.sb (bu ((1:Int):Rat)).1,.row (.i .u32) (bu ((1:Int):Rat)).2.1,.row (.i .u32) (bu ((1:Int):Rat)).2.2] 177 3 false,
    .cells [.sb (jy (vL x) i.toNat).isSome,.si .i64 (wB (jy (vL x) i.toNat))] 237 2 false,
    .cells [.sb (kz (jy (vL x) i.toNat)).1,.row (.i .u32) (kz (jy (vL x) i.toNat)).2.1,.row (.i .u32) (kz (jy (vL x) i.toNat)).2.2] 177 3 false,.dead,.dead]⟩)
   (λs=>iS s 19) (λi=>0<=i/\i<=x.length) (λi=>(x.length - i).toNat) λ_ _=> .look
 |_=> .look
theorem ae0 {q:Rat} {k:Nat} (h:Sz k q):Sz k (mR q):=by
 grind[mR,A1]
theorem UD:mkRat 1 2=(1 / 2:Rat):=by
 grind[Rat.mkRat_eq_div]
theorem UE:Sz 1 (1 / 2:Rat):=by
 grind[UD,AZ]
theorem KR {q:Rat} (h:Sz 1000 q):Sz 1002 (q - 1 / 2):=by
 rw[Rat.sub_eq_add_neg];exact A0 h (j:=1) (A1 UE)
theorem h447:Holds Tryz.prog KQ:=by
 refine cF (L:=[KG,oC,uz,sT,yq,A5,yp]) KQ aeZ (by simpa using⟨h451,h94,h407,h99,h97,h95,h130⟩) ?_;rintro(x:List bL) ⟨l,hx,hl,hz⟩;refine bO (let a:=bq.cells;let b:=Ψ;let c:=(0:Int);let d:=γh .i64;let e:=(9223372036854775807:Int);let f:=γv;let g:=(-9223372036854775808:Int);let h:=(1:Int);let j:=cq .i64;let k:=γO;let l:=δc false;let m:=(2:Int);let n:=bp.i .u32;let r:=k 0 0 3;let s:=k 1 0 3;let t:=k 2 0 2;let v:=k 3 0 3;let o:=(↑x.length:Int);let w:=d o;let R:=γx .i64 0;let y:=fW false h m;let z:=κ h;let F:=jy (vL x) 0;let B:=a [f (bu y).fst,b n (bu y).snd.fst,b n (bu y).snd.snd] 177 3 false;let C:=a [f (bu z).fst,b n (bu z).snd.fst,b n (bu z).snd.snd] 177 3 false;let S:=((bu z).fst,(bu z).snd.fst,(bu z).snd.snd);let T:=((bu y).fst,(bu y).snd.fst,(bu y).snd.snd);let U:=λ(u:Rat) ↦(a [f (bu u).fst,b n (bu u).snd.fst,b n (bu u).snd.snd] 177 3 false).same (a [f (bu u).fst,b n (bu u).snd.fst,b n (bu u).snd.snd] 177 3 false);((g<=h/\h<=e)/\c<m/\m<=e)/\(g<=h/\h<=e)/\0=0/\0=0/\(((r.same r/\s.same s/\t.same t/\v.same v/\(b sF x).same (b sF x)/\(d (↑x.length:Int)).same w/\R.same (d 0)/\True)/\U y/\U z/\(a [l,R] 237 2 false).same (a [f F.isSome,d (wB F)] 237 2 false)/\(a [l,b n [],b n []] 177 3 false).same (a [f (kz F).fst,b n (kz F).snd.fst,b n (kz F).snd.snd] 177 3 false)/\bq.dead.same bq.dead/\bq.dead.same bq.dead/\True)/\c<=c/\c<=o)/\∀(x_1:Int),let p:=x_1+h;let D:=d p;let G:=jy (vL x) p.toNat;let N:=a [f G.isSome,d (wB G)] 237 2 false;let A:=bj x x_1.toNat sF.dflt;let H:=(A.fst,A.snd.fst,A.snd.snd);let E:=bu (bV H - bV T);let I:=(E.fst,E.snd.fst,E.snd.snd);let V:=(bu (-bV I)).fst;let K:=(bu (-bV I)).snd;let O:=a [f (kz G).fst,b n (kz G).snd.fst,b n (kz G).snd.snd] 177 3 false;let q:=jy (vL x) x_1.toNat;let W:=d (wB q);let X:=(V,K.fst,K.snd);let L:=((kz q).fst,(kz q).snd.fst,(kz q).snd.snd);let M:=q.isSome==false&&(decide (wB q=c)&&true);let Y:=j p/\((r.same r/\s.same s/\t.same t/\v.same v/\(b sF x).same (b sF x)/\w.same w/\D.same D/\True)/\B.same B/\C.same C/\(a [δc true,d x_1] 237 2 false).same N/\(a [f V,b n K.fst,b n K.snd] 177 3 false).same O/\bq.dead.same bq.dead/\bq.dead.same bq.dead/\True)/\(c<=p/\p<=o)/\(o - p).toNat<(o - x_1).toNat;let Z:=j p/\((r.same r/\s.same s/\t.same t/\v.same v/\(b sF x).same (b sF x)/\w.same w/\D.same D/\True)/\B.same B/\C.same C/\(a [δc true,d x_1] 237 2 false).same N/\(a [f E.fst,b n E.snd.fst,b n E.snd.snd] 177 3 false).same O/\bq.dead.same bq.dead/\bq.dead.same bq.dead/\True)/\(c<=p/\p<=o)/\(o - p).toNat<(o - x_1).toNat;let J:=j p/\((r.same r/\s.same s/\t.same t/\v.same v/\(b sF x).same (b sF x)/\w.same w/\D.same D/\True)/\B.same B/\C.same C/\(a [f q.isSome,W] 237 2 false).same N/\(a [f (kz q).fst,b n (kz q).snd.fst,b n (kz q).snd.snd] 177 3 false).same O/\bq.dead.same bq.dead/\bq.dead.same bq.dead/\True)/\(c<=p/\p<=o)/\(o - p).toNat<(o - x_1).toNat;let P:=cC I;let Q:=cC H;let a0:=λ(u:Bool) ↦decide (iU (bV X) (bV L)<c)=u;let a1:=λ(u:Bool) ↦decide (iU (bV I) (bV L)<c)=u;let a2:=λ(u:Bool) ↦decide (jL (bV I)<c)=u;let a3:=λ(u:Bool) ↦decide (c<=iU (bV H) (bV S))=u;let a4:=λ(u:Bool) ↦decide (jL (bV H)<=c)=u;let a5:=λ(u:Bool) ↦(!okF H)=u;c<=x_1/\x_1<=o->(decide (x_1<o)=true->c<=x_1/\x_1<(↑x.length:Int)/\x_1.toNat<x.length/\((bA A.snd.fst/\bA A.snd.snd)/\γc A.snd.fst<=10000000/\γc A.snd.snd<=10000000)/\(a5 true->J)/\(a5 false->Q/\(a4 true->J)/\(a4 false->(Q/\cC S)/\(a3 true->J)/\(a3 false->(Q/\cC T)/\P/\(a2 true->P/\(M=true->Y)/\(M=false->(cC X/\cC L)/\(a0 true->Y)/\(a0 false->J)))/\(a2 false->(M=true->Z)/\(M=false->(P/\cC L)/\(a1 true->Z)/\(a1 false->J)))))))/\(decide (x_1<o)=false->(SV.bI [W,f q.isSome]).same (SV.bI [d ((jP (vL x)).getD c),f (jP (vL x)).isSome]))) (by kernel_rfl) ?_;simp only[vcs];subst hx;rw[fE] at hl;have hh:fW false 1 2=1 / 2:=UD;simp only[kN,fE,hh];have hbr:∀{b c:Option (Int×Rat)},b=c->(bq.cells [.sb b.isSome,.si .i64 (wB b)] 237 2 false).same (bq.cells [.sb c.isSome,.si .i64 (wB c)] 237 2 false):=by rintro _ _ rfl;rfl
 have hbd:∀{b c:Option (Int×Rat)},b=c->(bq.cells [.sb (kz b).1,.row (.i .u32) (kz b).2.1,.row (.i .u32) (kz b).2.2] 177 3 false).same (bq.cells [.sb (kz c).1,.row (.i .u32) (kz c).2.1,.row (.i .u32) (kz c).2.2] 177 3 false):=by rintro _ _ rfl;rfl
 have f1:cC (bu (κ 1)):=dP (k:=1) (by unfold Sz;decide) (by omega);have f2:cC (bu (1 / 2)):=dP UE (by omega);refine⟨⟨⟨by omega,by omega⟩,by omega,by omega⟩,⟨by omega,by omega⟩,⟨⟨rfl,rfl⟩,by omega,by omega⟩,?_⟩;rintro i ⟨i0,i1⟩;refine⟨λhi=>?_,λhi=>?_⟩
 ·have hv:bj (fL l) i.toNat sF.dflt=bu (bj l i.toNat 0):=jv (by omega);have hq:=hz _ (dr (d:=0) (show i.toNat<l.length by omega));have hs:jy l (i+1).toNat=if 0<bj l i.toNat 0/\bj l i.toNat 0<1 then(match jy l i.toNat with
   |none=>some (i,mR (bj l i.toNat 0 - 1 / 2))
   |some (j,d)=>if mR (bj l i.toNat 0 - 1 / 2)<d then some (i,mR (bj l i.toNat 0 - 1 / 2)) else some (j,d)) else jy l i.toNat:=by
   rw[show(i+1).toNat=i.toNat+1 by omega];conv=>lhs;unfold jy
   rw[εz i0];cases jy l i.toNat<;>rfl
  have hbs:∀j d,jy l i.toNat=some (j,d)->cC (bu d):=λj d h=>by
   obtain⟨h1,h2,h3⟩:=Ku h;rw[h3];exact dP (ae0 (KR (hz _ (dr (by omega))))) (by omega)
  rw[hv,hs];generalize bj l i.toNat 0=q at*;generalize jy l i.toNat=B at*;simp only[jM,eC];obtain⟨_,⟨u1,u2,u3⟩,⟨u4,u5,u6⟩⟩:=mj q;obtain⟨m1,m2⟩:=pn hq;have hok:=ER q;have fq:cC (bu q):=dP hq (by omega);have fd:cC (bu (q - 1 / 2)):=dP (KR hq) (by omega);have fn:cC (bu (-(q - 1 / 2))):=dP (A1 (KR hq)) (by omega);refine⟨i0,hi,by omega,⟨⟨u1,u4⟩,by omega,by omega⟩,λh=>absurd hok (by rw[show okF (bu q)=false from h];simp),λ_=>⟨fq,λh1=>?_,λh1=>⟨⟨fq,f1⟩,λh2=>?_,λh2=>?_⟩⟩⟩
  ·rw[if_neg (λh=>by have:=uD.2 h.1;omega)];exact⟨by omega,⟨hbr rfl,hbd rfl⟩,by omega⟩
  ·rw[if_neg (λh=>by have:=s7.2 h.2;have e:iU q (κ 1)=iU q 1:=rfl;omega)];exact⟨by omega,⟨hbr rfl,hbd rfl⟩,by omega⟩
  ·have hp:0<q/\q<1:=⟨uD.1 (by omega),s7.1 (by have e:iU q (κ 1)=iU q 1:=rfl;omega)⟩;rw[if_pos hp];refine⟨⟨fq,f2⟩,fd,λh3=>?_,λh3=>?_⟩
   ·have ha:mR (q - 1 / 2)= -(q - 1 / 2):=by unfold mR;rw[if_pos (A7.1 h3)]
    rw[ha];cases B with
    |none=>exact⟨fd,λ_=>⟨by omega,⟨rfl,rfl⟩,by omega⟩,λh=>absurd h (by decide)⟩;|some b=>
     obtain⟨j,d⟩:=b;dsimp only;refine⟨fd,λh=>absurd h.1 ζg,λ_=>⟨⟨fn,hbs j d rfl⟩,λh5=>?_,λh5=>?_⟩⟩
     ·rw[if_pos (s7.1 (by rw[<-eC d];exact h5))];exact⟨by omega,⟨rfl,rfl⟩,by omega⟩
     ·rw[if_neg (λh=>h5 (by rw[<-eC d] at h;exact s7.2 h))];exact⟨by omega,⟨hbr rfl,hbd rfl⟩,by omega⟩
   ·have ha:mR (q - 1 / 2)=q - 1 / 2:=by unfold mR;rw[if_neg (λh=>h3 (A7.2 h))]
    rw[ha];cases B with
    |none=>exact⟨λ_=>⟨by omega,⟨rfl,rfl⟩,by omega⟩,λh=>absurd h (by decide)⟩;|some b=>
     obtain⟨j,d⟩:=b;dsimp only;refine⟨λh=>absurd h.1 ζg,λ_=>⟨⟨fd,hbs j d rfl⟩,λh5=>?_,λh5=>?_⟩⟩
     ·rw[if_pos (s7.1 (by rw[<-eC d];exact h5))];exact⟨by omega,⟨rfl,rfl⟩,by omega⟩
     ·rw[if_neg (λh=>h5 (by rw[<-eC d] at h;exact s7.2 h))];exact⟨by omega,⟨hbr rfl,hbd rfl⟩,by omega⟩
 ·rw[show i.toNat=l.length by omega];unfold jP;cases jy l l.length<;>exact⟨rfl,rfl⟩
noncomputable def wC (n:Nat):dH:=EO 72 Int (.one (eZ .i64)) (λx a=>fp x/\(0<=a/\a<x.prf.length)/\nF x.fx<n) (λ_ _=> .bI []) λx a=>x.upd (dG x.p (cy x.en) x.most (nF x.fx) x.s a x.fx)
noncomputable def ET (n:Nat):dH:=EO 106 (Int×Int×Int) (.cons (eZ .i64) (.cons (eZ .i64) (.one (eZ .i64)))) (λx a=>fp x/\(0<=a.1/\a.1<x.prf.length)/\(0<=a.2.1/\a.2.1<x.fx.length)/\bj x.fx a.2.1.toNat 0=0/\(a.2.2=1\/a.2.2= -1)/\nF (x.fx.set a.2.1.toNat a.2.2)<n) (λ_ _=> .bI []) λx a=>x.upd (dG x.p (cy x.en) x.most (nF (x.fx.set a.2.1.toNat a.2.2)) x.s a.1 (x.fx.set a.2.1.toNat a.2.2))
theorem ae1 {L:List bM} {W:List dH} (c:dH) (F:fy) (Λ:c.α->Nat->cE) (i:∀c∈W,ec Tryz.prog c) (e:∀c∈L,Holds Tryz.prog c)
  
  (h:∀a,c.dom a->Vc (EL (og L (gK W) rk rl jJ) (Λ a) F (c.put a) (c.st a) λv s=>v.same (c.res a)/\kG s (c.out a))) (j:jJ c.f=some F:=by kernel_rfl) (b:∀a,(c.put a).length=F.params:=by intro _;kernel_rfl) (d:oh c.f W=none:=by kernel_rfl):ec Tryz.prog c:=
 λa g=>aeu c sE i e j b a d (h a g).out
theorem fp.set {x:dJ} (h:fp x) {k:Nat} {d:Int} (a:d=1\/d= -1):fp ⟨x.p,x.ch,x.val,x.found,x.en,x.k1,x.k2,x.most,x.err,x.prf,x.fx.set k d⟩:=
 ⟨⟨h.f.c,by rw[Φ];exact h.f.l,Uj h.f.r (by omega)⟩,h.k1,by rw[Φ];exact h.k2,h.v0,h.v1,h.m0,h.m1,h.l,h.c⟩
theorem ae2 {f:List Int} {k:Nat} {d:Int} (b:k<f.length) (a:bj f k 0=0):(f.set k d).set k 0=f:=by
 rw[cY b] at a;rw[List.set_set,<-a,List.set_getElem_self]
theorem ae3 {n:Nat} (hV:ec Tryz.prog (wC n)):ec Tryz.prog (ET n):=by
 refine ae1 (L:=[]) (W:=[wC n]) (ET n) (fG 106) lk (by simpa using hV) (by simp) ?_;rintro⟨⟨p,ch,val,found,en,k1,k2,most,err,prf,fx⟩,a,k,d⟩ ⟨hok,ha,hk,h0,hd,hn⟩;simp only at hok ha hk h0 hd hn;have e2:k2=fx.length:=hok.k2;have hb:=ae2 (d:=d) (show k.toNat<fx.length by omega) h0;have hr:∀{x y:List Int},x=y->(bq.row (.i .i64) x 3 true).same (bq.row (.i .i64) y 3 true):=by rintro _ _ rfl;rfl
 cases en with
 |none=>
  have hs:=hok.set (k:=k.toNat) hd;refine bO (let b:=γh .i64;let c:=(0:Int);let e:=bq.row;let f:=Ψ;let g:=fx.set k.toNat d;let j:=bp.i .i64;let h:=dG p (cy none) most (nF g) (cZ.mk ch val found prf err) a g;let l:=bq.cells [b p.supply.a0,b p.supply.a1,b p.supply.a2,b p.supply.a3,b p.supply.a4,b p.supply.a5,b p.opn.a0,b p.opn.a1,b p.opn.a2,b p.opn.a3,b p.opn.a4,b p.opn.a5,b p.cls.a0,b p.cls.a1,b p.cls.a2,b p.cls.a3,b p.cls.a4,b p.cls.a5,f j p.classes,f bp.off p.offers,f j h.ch,b h.val,γv h.found,ζM (Fn.func 70) [] [],γZ 1 h.prf.length 5,γZ 2 k2 1,b most,b h.err] 126 28 false;let m:=e bE h.prf 108 true;k2=fx.length/\c<=k/\k<(↑fx.length:Int)/\k2=fx.length/\k.toNat<fx.length/\(fp (dJ.mk p ch val found none k1 k2 most err prf g)/\(c<=a/\a<(↑prf.length:Int))/\nF g<n)/\k2=g.length/\c<=k/\k<(↑g.length:Int)/\k2=g.length/\k.toNat<g.length/\(SV.bI []).same (SV.bI [])/\l.same l/\m.same m/\(e j (g.set k.toNat c) 3 true).same (e j fx 3 true)/\True) (by kernel_rfl) ?_;conv=>zeta
  rw[Φ];exact⟨e2,hk.1,hk.2,e2,by omega,⟨hs,ha,hn⟩,e2,hk.1,hk.2,e2,by omega,rfl,rfl,rfl,hr hb,trivial⟩;|some m=>
  have hs:=hok.set (k:=k.toNat) hd;refine bO (let b:=γh .i64;let c:=(0:Int);let e:=bq.row;let f:=Ψ;let g:=fx.set k.toNat d;let j:=bp.i .i64;let h:=dG p (cy (some m)) most (nF g) (cZ.mk ch val found prf err) a g;let l:=bq.cells [b p.supply.a0,b p.supply.a1,b p.supply.a2,b p.supply.a3,b p.supply.a4,b p.supply.a5,b p.opn.a0,b p.opn.a1,b p.opn.a2,b p.opn.a3,b p.opn.a4,b p.opn.a5,b p.cls.a0,b p.cls.a1,b p.cls.a2,b p.cls.a3,b p.cls.a4,b p.cls.a5,f j p.classes,f bp.off p.offers,f j h.ch,b h.val,γv h.found,ζM (Fn.func 116) [] [γO 1 0 1],γZ 2 h.prf.length 5,γZ 3 k2 1,b most,b h.err] 126 28 false;let o:=bq.cells [b m] 2 1 false;let q:=e bE h.prf 108 true;k2=fx.length/\c<=k/\k<(↑fx.length:Int)/\k2=fx.length/\k.toNat<fx.length/\(fp (dJ.mk p ch val found (some m) k1 k2 most err prf g)/\(c<=a/\a<(↑prf.length:Int))/\nF g<n)/\k2=g.length/\c<=k/\k<(↑g.length:Int)/\k2=g.length/\k.toNat<g.length/\(SV.bI []).same (SV.bI [])/\l.same l/\o.same o/\q.same q/\(e j (g.set k.toNat c) 3 true).same (e j fx 3 true)/\True) (by kernel_rfl) ?_;conv=>zeta
  rw[Φ];exact⟨e2,hk.1,hk.2,e2,by omega,⟨hs,ha,hn⟩,e2,hk.1,hk.2,e2,by omega,rfl,rfl,rfl,rfl,hr hb,trivial⟩
theorem UF {p:bn} {en:Int->Bool} {most:Int} {f:List Int} (j:eK p f) {c b:cZ->Int->List Int->cZ} {s:cZ} {a:Int}
  (h:∀k d:Int,(0<=k/\k<f.length)->bj f k.toNat 0=0->(d=1\/d= -1)->∀s a,c s a (f.set k.toNat d)=b s a (f.set k.toNat d)):fF p en most c s a f=fF p en most b s a f:=by
 unfold fF;split;·rfl
 split;·rfl
 rename_i o;have l:hJ p f=true:=by simp_all
 split;·rfl
 split;·rfl
 rename_i k n;split;·rfl
 obtain⟨e,i,g⟩:=sY n;rw[rI] at e;have m:bj f k.toNat 0=0:=sX (j.ok l) j.r (by omega) i g;simp_all
theorem Bj {p:bn} {en:Int->Bool} {most:Int} {f:List Int} (e:eK p f) {s:cZ} {a:Int}:dG p en most (nF f) s a f=fF p en most (λs a g=>dG p en most (nF g) s a g) s a f:=by
 have j:∀k d:Int,(0<=k/\k<f.length)->bj f k.toNat 0=0->(d=1\/d= -1)->nF f=nF (f.set k.toNat d)+1:=λk d c b i=>mr c b (by omega);cases h:nF f with
 |zero=>exact UF e λk d c b i=>by grind;|succ n=>
  refine UF e λk d c b i s a=>?_;grind
section
variable {p:bn} {en:Int->Bool} {most:Int} {f:List Int} {s O:cZ} {a k:Int}
theorem Bl (b:eK p f) (h:s.err≠0\/s.found=true):dG p en most (nF f) s a f=s:=by
 simp_all[Bj,fF]
theorem UG (c:eK p f) (h:¬(s.err≠0\/s.found=true)) (b:hJ p f=false):dG p en most (nF f) s a f={s with prf:=s.prf.set a.toNat EG}:=by
 simp_all[Bj,fF]
theorem yN (c:eK p f) (h:¬(s.err≠0\/s.found=true)) (b:hJ p f=true) (d:dp p en s f=O) (e:jf p f<((O.val+1:Int):Rat)):dG p en most (nF f) s a f={O with prf:=O.prf.set a.toNat (qL p f)}:=by
 simp_all[Bj,fF]
theorem pU (b:eK p f) (h:¬(s.err≠0\/s.found=true)) (d:hJ p f=true) (c:dp p en s f=O) (g:¬jf p f<((O.val+1:Int):Rat)) (e:jP (dD p f)=none\/most<(O.prf.length:Int)+2):dG p en most (nF f) s a f={O with err:=12}:=by
 subst c;rw[Bj b];unfold fF;grind
theorem yO (d:eK p f) (h:¬(s.err≠0\/s.found=true)) (b:hJ p f=true) (g:dp p en s f=O) (i:¬jf p f<((O.val+1:Int):Rat)) (c:jP (dD p f)=some k) (e:¬most<(O.prf.length:Int)+2):
  dG p en most (nF f) s a f=dG p en most (nF (f.set k.toNat (-1))) (dG p en most (nF (f.set k.toNat 1)) (gB O a k) (O.prf.length+1) (f.set k.toNat 1)) O.prf.length (f.set k.toNat (-1)):=by
 simp_all[Bj,fF,if_neg]
end
theorem fp.UH {x:dJ} (h:fp x):fp (x.upd (dp x.p (cy x.en) x.s x.fx)):=by
 obtain⟨d,i,b,a,g⟩:=@EI x.p (cy x.en) x.s x.fx;obtain⟨m,j,k⟩:=Uk h.f;have b:x.val<=(dp x.p (cy x.en) x.s x.fx).val:=b;have a:(dp x.p (cy x.en) x.s x.fx).val=x.val\/(dp x.p (cy x.en) x.s x.fx).val=(pr x.p x.fx).value:=a;have n:=h.v0;have o:=h.v1;refine⟨h.f,rfl,h.k2,?_,?_,h.m0,h.m1,?_,?_⟩
 ·show 0<=(dp x.p (cy x.en) x.s x.fx).val;omega
 ·show(dp x.p (cy x.en) x.s x.fx).val<=_;omega
 ·show(dp x.p (cy x.en) x.s x.fx).prf.length<=_;rw[d];exact h.l
 ·show(dp x.p (cy x.en) x.s x.fx).ch.length<=_;rcases g with e|e;·rw[e];exact h.c
  ·rw[e];omega
theorem fp.vis {x:dJ} (h:fp x) {f:List Int} (i:eK x.p f) {n:Nat} {a:Int}:fp (x.upd (dG x.p (cy x.en) x.most n x.s a f)):=by
 obtain⟨m,g,b,d,k,q⟩:=@rJ x.p (cy x.en) x.most n x.s a f i;have b:x.val<=(dG x.p (cy x.en) x.most n x.s a f).val:=b;have d:(dG x.p (cy x.en) x.most n x.s a f).val=x.val\/(dG x.p (cy x.en) x.most n x.s a f).val<=160000000:=d;have r:=h.v0;have t:=h.v1;have o:=h.m1;have j:=h.l;refine⟨h.f,rfl,h.k2,?_,?_,h.m0,h.m1,?_,?_⟩
 ·show 0<=(dG x.p (cy x.en) x.most n x.s a f).val;omega
 ·show(dG x.p (cy x.en) x.most n x.s a f).val<=_;omega
 ·show(dG x.p (cy x.en) x.most n x.s a f).prf.length<=_;rcases g with e|e;·omega
  ·rw[e];exact j
 ·show(dG x.p (cy x.en) x.most n x.s a f).ch.length<=_;rcases k with e|e;·rw[e];exact h.c
  ·omega
theorem fp.spl {x:dJ} (h:fp x) (b:¬x.most<(x.prf.length:Int)+2) {k:Nat} {l:List di} (a:k=l.length) (d:l.length=x.prf.length+2):fp ⟨x.p,x.ch,x.val,x.found,x.en,k,x.k2,x.most,x.err,l,x.fx⟩:=
 ⟨h.f,a,h.k2,h.v0,h.v1,h.m0,h.m1,by have:=h.m1;grind,h.c⟩
structure jz where
 left:bB
 opn:bB
 chosen:List Int
 value:Int
 won:List Bool
def nd (c w a:Int):Int:=if c=0\/c≠a then w else 0
def yP (p:bn) (x:Off):bB:=⟨nd p.cls.a0 x.want.a0 (lU p x),nd p.cls.a1 x.want.a1 (lU p x),nd p.cls.a2 x.want.a2 (lU p x),nd p.cls.a3 x.want.a3 (lU p x),nd p.cls.a4 x.want.a4 (lU p x),nd p.cls.a5 x.want.a5 (lU p x)⟩
def bB.pos (b:bB):Bool:=decide (0<=b.a0)&&decide (0<=b.a1)&&decide (0<=b.a2)&&decide (0<=b.a3)&&decide (0<=b.a4)&&decide (0<=b.a5)
def gC (p:bn) (u:jz) (x:Off):bB:=(u.opn.sub (yP p x)).meet (u.left.sub x.want)
def ji (p:bn) (u:jz) (x:Off):Bool:=!(bj u.won x.bX.toNat false)&&((u.left.sub x.want).pos&&(gC p u x).pos)
def fe (p:bn) (u:jz) (i:Int):jz:=⟨u.left.sub (oI p i).want,gC p u (oI p i),u.chosen++[i],u.value+(oI p i).value,u.won.set (oI p i).bX.toNat true⟩
def gR (p:bn) (u:jz) (k:Nat):bn:=⟨u.left,u.opn,p.cls,p.classes,(p.offers.drop k).filter (ji p u)⟩
theorem KT {x:bB}:dU [x]=x:=by simp[dU]
theorem six {P:Nat->Prop} (f:P 0) (a:P 1) (b:P 2) (d:P 3) (e:P 4) (c:P 5):∀k,k<6->P k:=by
 grind
theorem Bm {a b:bB}:∀k,k<6->(a.sub b).at k=a.at k - b.at k:=six rfl rfl rfl rfl rfl rfl
theorem KU {a b:bB}:∀k,k<6->(a.add b).at k=a.at k+b.at k:=six rfl rfl rfl rfl rfl rfl
theorem UI {a b:bB}:∀k,k<6->(a.meet b).at k=min (a.at k) (b.at k):=six rfl rfl rfl rfl rfl rfl
theorem KV {p:bn} {x:Off}:∀k,k<6->(yP p x).at k=nd (p.cls.at k) (x.want.at k) (lU p x):=six rfl rfl rfl rfl rfl rfl
theorem EU {p:bn} {x:Off}:∀k,k<6->(fh p x).at k=if p.cls.at k=0\/p.cls.at k=lU p x then 0 else x.want.at k:=by
 refine six ?_ ?_ ?_ ?_ ?_ ?_<;>(show oc _ _ _ _ _=_;unfold oc;simp only[show((0:Int)<6)=True by simp,show((1:Int)<6)=True by simp,show((2:Int)<6)=True by simp,show((3:Int)<6)=True by simp,show((4:Int)<6)=True by simp,show((5:Int)<6)=True by simp,true_and];rfl)
theorem UJ {b:bB}:b.pos=true↔∀k,k<6->0<=b.at k:=by
 unfold bB.pos;simp only[θ,decide_eq_true_eq];constructor
 ·rintro⟨⟨⟨⟨⟨g,a⟩,c⟩,e⟩,f⟩,d⟩;exact six g a c e f d
 ·intro h;exact⟨⟨⟨⟨⟨h 0 (by omega),h 1 (by omega)⟩,h 2 (by omega)⟩,h 3 (by omega)⟩,h 4 (by omega)⟩,h 5 (by omega)⟩
theorem yQ {b:bB}:b.ok=true↔∀k,k<6->0<=b.at k/\b.at k<=4:=by
 rw[bB.ja];constructor
 ·rintro⟨g,a,c,e,f,d⟩;exact six g a c e f d
 ·intro h;exact⟨h 0 (by omega),h 1 (by omega),h 2 (by omega),h 3 (by omega),h 4 (by omega),h 5 (by omega)⟩
theorem KW {p:bn} {k:Nat} (a:k<6):∀L:List Off,(dU (L.map (yP p))).at k=if p.cls.at k=0 then(dU (L.map Off.want)).at k else(dU (L.map (fh p))).at k:=by
 intro L;rw[oo,oo,oo];induction L with
 |nil=>simp;|cons x L b=>
  simp only[π,List.sum_cons];rw[b,KV k a,EU k a];unfold nd;omega
theorem aib {p:bn} {k:Nat} (c:k<6) (a:p.cls.at k=0):∀L:List Off,(dU (L.map (fh p))).at k=0:=by
 intro L;rw[oo];induction L with
 |nil=>simp;|cons x L b=>
  simp_all[EU]
theorem EV {p:bn} (c:Good p) {k:Nat} (d:k<6):∀{L:List Off},(∀x∈L,x∈p.offers)->0<=(dU (L.map Off.want)).at k/\(dU (L.map (fh p))).at k<=(dU (L.map Off.want)).at k/\0<=(dU (L.map (fh p))).at k:=by
 intro L;rw[oo,oo];induction L with
 |nil=>intro _;simp;|cons x L b=>
  intro h;have e:=b λy a=>h y (List.mem_cons_of_mem _ a);have f:=(yQ.1 (c.2.2.2.2 x (h x (List.mem_cons_self ..))).2.2.1 k d);grind[EU]
theorem wE {p:bn} (c:bz p=0) {k:Nat} (b:k<6):0<=p.cls.at k/\p.cls.at k<=4/\0<=p.opn.at k/\p.opn.at k<=p.supply.at k/\(p.cls.at k=0->p.opn.at k=p.supply.at k):=by
 have h:=om.1 ((vO (vP c).1).2.1 k b);exact⟨h.1,h.2.1,h.2.2.1,h.2.2.2.1,λd=>by rcases h.2.2.2.2 with a|a;exact absurd d a;exact a⟩
theorem KX {a b:bB}:a.le b=true↔∀k,k<6->a.at k<=b.at k:=⟨λh k _=>Ik h k,Kz⟩
structure rL (p:bn) (u:jz):Prop where
 f:rK p u.chosen
 v:u.value=cJ (cV p u.chosen)
 l:∀k,k<6->u.left.at k=p.supply.at k - (dU ((cV p u.chosen).map Off.want)).at k
 o:∀k,k<6->u.opn.at k=min (p.opn.at k - (dU ((cV p u.chosen).map (yP p))).at k) (u.left.at k)
 wl:u.won.length=8
 w:∀b:Int,0<=b->b<8->bj u.won b.toNat false=decide (b∈(cV p u.chosen).map Off.bX)
theorem KY {p:bn} {t:List Int} (h:ny 0 p.offers.length t):∀x∈cV p t,x∈p.offers:=λx a=>by
 obtain⟨i,b,rfl⟩:=Ω.1 a;have:=h.2 i b;grind[dr]
section
variable {p:bn} {u:jz}
theorem KZ {L M:List Off}:jo p (L++M)↔((L.map Off.bX++M.map Off.bX).Nodup/\(∀k,k<6->(dU (L.map Off.want)).at k+(dU (M.map Off.want)).at k<=p.supply.at k)/\∀k,k<6->(dU (L.map (fh p))).at k+(dU (M.map (fh p))).at k<=p.opn.at k):=by
 simp_all[jo,Ab,KX,KU]
theorem EW (h:bz p=0) (c:rL p u) {x:Off} (m:x∈p.offers):ji p u x=true↔jo p (cV p u.chosen++[x]):=by
 have b:=dQ h;have g:=b.2.2.2.2 x m;have r:=b.1;have q:=KY c.f.1;rw[KZ];unfold ji;rw[θ,θ,UJ,UJ,δf,c.w _ g.1 (by omega),decide_eq_false_iff_not];simp only[π,γq,KT];have d:∀k,k<6->((0<=(u.left.sub x.want).at k/\0<=(gC p u x).at k)↔((dU ((cV p u.chosen).map Off.want)).at k+x.want.at k<=p.supply.at k/\(dU ((cV p u.chosen).map (fh p))).at k+(fh p x).at k<=p.opn.at k)):=λk a=>by
  have A:=c.l k a;have t:=c.o k a;have v:=KW (p:=p) a (cV p u.chosen);have s:=@KV p x k a;have n:=@EU p x k a;have B:=wE h a;have y:=yQ.1 g.2.2.1 k a;have j:=EV b a q;unfold gC;rw[UI k a,Bm k a,Bm k a,s,n];unfold nd;grind
 constructor
 ·rintro⟨z,e,i⟩;refine⟨?_,λk a=>((d k a).1 ⟨e k a,i k a⟩).1,λk a=>((d k a).1 ⟨e k a,i k a⟩).2⟩;rw[γr];refine⟨c.f.2.1,by simp,?_⟩;simp_all
 grind
theorem rL.next (n:bz p=0) (c:rL p u) {i:Int} (D:∀j∈u.chosen,j<i) (C:0<=i/\i<p.offers.length) (s:ji p u (oI p i)=true):rL p (fe p u i):=by
 have m:oI p i∈p.offers:=dr (by omega);have B:=(EW n c m).1 s;have g:=dQ n;have q:=g.2.2.2.2 _ m;have z:=g.1;have e:cV p (u.chosen++[i])=cV p u.chosen++[oI p i]:=by unfold cV;rw[γa];rfl
 refine⟨⟨⟨?_,?_⟩,?_⟩,?_,?_,?_,?_,?_⟩
 ·show(u.chosen++[i]).Pairwise _;rw[List.pairwise_append];exact⟨c.f.1.1,List.pairwise_singleton _ _,λa A b q=>by simp_all⟩
 ·intro j t;rcases List.mem_append.1 t with h|h;·exact c.f.1.2 j h
  simp_all
 ·show jo p (cV p (u.chosen++[i]));simp_all
 ·show u.value+_=cJ (cV p (u.chosen++[i]));rw[e,pN,c.v];simp[cJ]
 ·intro k d;show(u.left.sub _).at k=_ - (dU ((cV p (u.chosen++[i])).map Off.want)).at k;rw[e,γa,Ab,KU k d,Bm k d,c.l k d];grind[KT]
 ·intro k d;show(gC p u (oI p i)).at k=min (_ - (dU ((cV p (u.chosen++[i])).map (yP p))).at k) ((u.left.sub (oI p i).want).at k);unfold gC;rw[e,γa,Ab,KU k d,UI k d,Bm k d,Bm k d,c.o k d];grind[KT,KV,yQ,nd]
 ·show(u.won.set _ true).length=8;rw[Φ];exact c.wl
 ·intro b y x;show bj (u.won.set (oI p i).bX.toNat true) b.toNat false=decide (b∈(cV p (u.chosen++[i])).map Off.bX);have r:=c.wl;rw[e,γa,iT (by omega)];simp only[π,γq];by_cases h:b=(oI p i).bX;·simp_all
  ·rw[if_neg (by omega),c.w b y x];simp_all
theorem K0 (s:bz p=0) (g:rL p u) {k:Nat} {M:List Off} (r:∀x∈M,x∈p.offers) (y:∀x∈M,ji p u x=true):jo (gR p u k) M↔jo p (cV p u.chosen++M):=by
 have d:=dQ s;have C:=d.1;have A:=KY g.f.1;rw[KZ];unfold jo;rw[KX,KX];have D:∀x:Off,fh (gR p u k) x=fh p x:=λx=>rfl;have n:M.map (fh (gR p u k))=M.map (fh p):=rfl;rw[n];have h:∀j,j<6->(((dU (M.map Off.want)).at j<=(gR p u k).supply.at j/\(dU (M.map (fh p))).at j<=(gR p u k).opn.at j)↔((dU ((cV p u.chosen).map Off.want)).at j+(dU (M.map Off.want)).at j<=p.supply.at j/\(dU ((cV p u.chosen).map (fh p))).at j+(dU (M.map (fh p))).at j<=p.opn.at j)):=λj c=>by
  have H:=g.l j c;have F:=g.o j c;have G:=KW (p:=p) c (cV p u.chosen);have J:=wE s c;have I:=EV d c A;have K:=EV d c r;have L:(gR p u k).supply.at j=u.left.at j:=rfl;have E:(gR p u k).opn.at j=u.opn.at j:=rfl;omega
 constructor
 ·rintro⟨z,v,q⟩;refine⟨?_,λj c=>((h j c).1 ⟨v j c,q j c⟩).1,λj c=>((h j c).1 ⟨v j c,q j c⟩).2⟩;rw[γr];refine⟨g.f.2.1,z,?_⟩;intro a B b i e;subst e;obtain⟨x,t,rfl⟩:=Ω.1 i;have m:=y x t;have i:=d.2.2.2.2 x (r x t);unfold ji at m;rw[θ,δf,g.w _ i.1 (by omega),decide_eq_false_iff_not] at m;exact m.1 B
 grind
theorem UK {q:bn} (d:iO q=0) (h:∀x∈q.offers,ki q x=0) (b:(q.offers.map Off.key).Nodup):bz q=0:=by
 have a:∀(l:List Off) (s:List nT),(∀x∈l,ki q x=0)->(l.map Off.key).Nodup->(∀x∈l,x.key∉s)->jb q s l=0:=by
  intro l;induction l with
  |nil=>intro s _ _ _;rfl;|cons x l c=>
   simp_all[jb]
 simp_all[bz]
theorem EX (e:bz p=0) (g:rL p u) {k:Nat}:bz (gR p u k)=0:=by
 have v:=dQ e;have C:=KY g.f.1;have r:=(KZ (p:=p) (L:=cV p u.chosen) (M:=[])).1 (by rw[γ1];exact g.f.2);obtain⟨d,q⟩:=vP e;obtain⟨J,H,P,R,N⟩:=vO d;have s:∀x∈(gR p u k).offers,x∈p.offers/\ji p u x=true:=λx n=>by
  obtain⟨c,w⟩:=γs.1 n;grind
 have F:(dU (([]:List Off).map Off.want))=bB.zero:=rfl;have h:∀j,j<6->0<=u.left.at j/\u.left.at j<=4:=λj a=>by
  have B:=g.l j a;have O:=EV v a C;have w:=r.2.1 j a;have t:(dU (([]:List Off).map Off.want)).at j=0:=by rw[oo];rfl
  grind[yQ]
 have i:∀j,j<6->0<=u.opn.at j/\u.opn.at j<=u.left.at j/\(p.cls.at j=0->u.opn.at j=u.left.at j):=λj a=>by
  have B:=g.l j a;have I:=g.o j a;have D:=KW (p:=p) a (cV p u.chosen);have m:=wE e a;have w:=r.2.1 j a;have E:=r.2.2 j a;have t:(dU (([]:List Off).map Off.want)).at j=0:=by rw[oo];rfl
  grind
 refine UK ?_ (λx n=>?_) ?_
 ·have Q:(gR p u k).supply.ok=true:=yQ.2 h;have G:Dc (gR p u k)=true:=zW.2 λj a=>om.2 (by
   have m:=wE e a;have b:=i j a;refine⟨m.1,m.2.1,b.1,b.2.1,?_⟩;by_cases z:p.cls.at j=0;·exact .inr (b.2.2 z)
   ·exact .inl z);have K:(gR p u k).offers.length<=p.offers.length:=by
   have c:=δd (ji p u) (p.offers.drop k);rw[List.length_drop] at c;show((p.offers.drop k).filter (ji p u)).length<=_;omega
  have y:(gR p u k).classes=p.classes:=rfl;unfold iO;grind
 ·obtain⟨c,w⟩:=s x n;have b:=q x c;unfold ki at b ⊢;have y:(gR p u k).classes=p.classes:=rfl;rw[y];split at b;·omega
  ·rename_i t;rw[if_neg t];split at b;·cases b
   ·rename_i A;rw[if_neg A];grind[K0,EW,QE]
 ·have c:=(Dy (by
   have:=e;unfold bz at this;rw[if_neg (by rw[d];simp)] at this;exact this)).1;exact((List.filter_sublist.trans (List.drop_sublist k _)).map Off.key).nodup c
end
end Go.Vi
