/-
  The symbolic run: functions that defer a closure.
  Conditions: none.
-/
import Derived.Test.YtgejbpobaicgfaaGreatBX05
import Derived.Test.YtgejbpobaicgfaaGreatBX06
import Derived.Test.YtgejbpobaicgfaaGreatBX11
import Derived.Test.YtgejbpobaicgfaaGreatBX12
import Derived.Test.YtgejbpobaicgfaaGreatBX09
import Derived.Test.YtgejbpobaicgfaaGreatBX07
import Derived.Test.YtgejbpobaicgfaaGreatBX08
import Derived.Test.YtgejbpobaicgfaaGreatBX10
set_option maxRecDepth 100000
set_option maxHeartbeats 4000000
set_option linter.all false
open Bool renaming and_eq_true->μ,or_eq_true->δn,false_ne_true->ζP
open Classical renaming not_not->Ψ
open Go.Vi.AV.os renaming injEq->δ7
open Go.Vi.AV.sc renaming injEq->γ6
open Go.Vi.SV renaming bl->δe,sb->γv,si->γa,row->Ξ,fn->ζx,ow->γQ,ptr->γ5,il->γu,agg->γL
open Int renaming toNat_natCast->γm
open IntCast renaming intCast->ξ
open List renaming all_eq_true->γf,mem_of_mem_take->γi,range_eq_range'->δF,take_append_drop->γc,map_cons->ψ,map_nil->γy,length->γb,replicate->δ,take_succ_eq_append_getElem->γD,take_of_length_le->Ω,mem_map->γk,take_length->τ,length_set->χ,take->ω,map->γg,length_take->γd,length_map->γs,append_nil->δN
open List.cons renaming injEq->Δ
open Option.some renaming injEq->γ
namespace Go.Vi
def ang (p:KB) (lo:Nat) (Λ:Nat->jY):IR->jD->(jD->Prop)->Prop
 | .skip,b,K=>K b
 | .seq x y,b,K=>wpS p lo x Λ b λc a=>match c with
  | .norm=>ang p lo Λ y a K
  |_=>False
 |_,_,_=>False
def akf (p:KB) (Λ:Nat->jY) (F:zr) (args:List SV) (o:jr) (Q:SV->jr->Prop):Prop:=
 match F.body with
 | .dfr g c d a b=>ang p o.length Λ a ⟨aaT 0 args,o⟩ λe=>wpS p e.o.length b Λ ⟨(d,.ud)::e.env,e.o⟩ λi j=>if adp i=true then
   (match p.it g with
    |some G=>if(c.map (MZ e.env)).length=G.params/\G.res.isEmpty=true then wpS p j.o.length G.body (λn=>Λ (1000+n)) ⟨aaT 0 (c.map (MZ e.env)),j.o⟩ λf h=>if adp f=true then
      abt ⟨j.env,h.o⟩ F.res λr=>if r.ju o.length&&h.o.all (λx=>x.ju o.length)&&decide (o.length<=h.o.length) then Q r (h.o.take o.length) else False
     else False else False
    |none=>False) else False
 |_=>False
section
variable {P:Program} {T:Tab} {p:KB} {Λ:Nat->jY}
theorem aGJ (i:acv T.K p.C) (j:∀f F,p.it f=some F->T.fn f=some F) {lo:Nat}:∀{a:IR} {st:jD} {K:jD->Prop},ang p lo Λ a st K->∃s0:jD,(∃N,∀n,N<=n->ado (exec T .plain n lo) a st.g=some s0.g)/\K s0:=by
 intro a
 induction a with
 |skip=>intro st K h;exact⟨st,⟨0,λ_ _=>rfl⟩,h⟩
 |seq x y _ d=>
  intro st K h;simp only[ang] at h
  obtain⟨c,s,⟨N,e⟩,r,rfl,b⟩:=af8 i j h
  cases c with
  |norm=>
   obtain⟨s0,⟨M,m⟩,k⟩:=d b
   refine⟨s0,⟨N+M,λn o=>?_⟩,k⟩
   simp only[ado,e n n (by omega) (by omega)]
   grind
  |exit q=>exact b.elim
  |ret=>exact b.elim
  |goto l=>exact b.elim
 |_=>intro st K h;exact h.elim
theorem aGK (J:SQ P T) (u:acv T.K p.C) (n:∀f F,p.it f=some F->T.fn f=some F) {f:FuncId} {F:zr} (S:T.fn f=some F) {args:List SV} {o:jr} {r:AV} {o':Store} (V:T.K f (gL args) (gO o) true=none) (B:args.length=F.params)
  {Q:SV->jr->Prop} (A:∀v s,Q v s->v.g=r/\gO s=o') (h:akf p Λ F args o Q):FG P f=true/\W7 P f (gL args) (gO o) r o':=by
 unfold akf at h;split at h
 ·rename_i g a d ia ib Z
  obtain⟨b,h1,h⟩:=aGJ u n h
  obtain⟨O,U,h2,c,rfl,h⟩:=af8 u n h
  split at h
  ·rename_i k
   split at h
   ·rename_i G hG
    split at h
    ·rename_i Y
     obtain⟨D,I,h3,i,rfl,h⟩:=af8 u n h
     split at h
     ·rename_i j
      obtain⟨t,k1,m⟩:=ahy h
      split at m
      ·rename_i y
       simp only[μ,decide_eq_true_eq,γf] at y
       obtain⟨⟨a2,L⟩,N⟩:=y
       have R:(jD.mk (aaT 0 args) o).g=⟨Hl 0 (gL args),gO o⟩:=by simp[jD.g,af9]
       have w:(gO o).length=o.length:=abv o
       have a1:b.g.o.length=b.o.length:=abv b.o
       have a0:c.g.o.length=c.o.length:=abv c.o
       have H:a.map (uB b.g.env)=gL (a.map (MZ b.env)):=by
        rw[FQ,List.map_map]
        refine List.map_congr_left λx _=>?_
        show uB (gE b.env) x=_
        grind[ai5]
       have z:(jD.mk ((d,.ud)::b.env) b.o).g=⟨(d,.ud)::b.g.env,b.g.o⟩:=by simp[jD.g,gE,SV.g]
       have E:(jD.mk (aaT 0 (a.map (MZ b.env))) c.o).g=⟨Hl 0 (gL (a.map (MZ b.env))),c.g.o⟩:=by simp[jD.g,af9]
       have W:(jD.mk c.env i.o).g=⟨c.g.env,i.g.o⟩:=rfl
       have q:∀x∈gO i.o,x.ju o.length=true:=by
        grind[gO,alh]
       have l:finish true (gO o).length t.g i.g.o=some (r,o'):=by
        simp only[finish,if_true,w]
        have e:YF o.length t.g i.g.o=some (t.g,(i.g.o).take o.length):=auG (by grind[ai6]) q (by show o.length<=(gO i.o).length;grind[abv])
        rw[e,<-(A _ _ m).1,<-(A _ _ m).2]
        simp_all[jD.g,gO]
       obtain⟨X,M,_⟩:=aBt J S Z (own:=true) V (by grind[QV]) (s0:=b.g) (s2:=c.g) (s3:=i.g) (by simp_all) (by simp_all) k (n g G hG) (by grind) Y.2 (by simp_all) j (by simp_all) l
       exact⟨X,M⟩
      ·exact m.elim
     ·exact h.elim
    ·exact h.elim
   simp_all
  ·exact h.elim
 simp_all
end
theorem ayt {P:Program} {d:FuncId->Option zr} {L:List fN} {W:List og} (c:og) {F:zr} {k:TypeId->Option cn} {e:List Nat×Bool->Option (cn×cn)} {Λ:c.α->Nat->jY}
  (n:SQ P ⟨d,λ_ _ _ _=>none⟩) (i:∀c∈W,sd P c) (o:∀c∈L,Holds P c)
  (l:d c.f=some F) (b:∀a,(c.put a).length=F.params)
  (a:c.α) (m:Xm c.f W=none)
  (h:akf (SR L (CN W) k e d) (Λ a) F (c.put a) (c.st a) λv s=>v.same (c.res a)/\N1 s (c.out a)):
  FG P c.f=true/\W7 P c.f (gL (c.put a)) (gO (c.st a)) (c.res a).g (gO (c.out a)):=by
 refine aGK (p:=SR L (CN W) k e d) (Λ:=Λ a) (Q:=λv s=>v.same (c.res a)/\N1 s (c.out a)) (aga (XX i) o n) (agb (XX i)) (λ_ _ h=>h) l ?_ (b a) (λv s j=>⟨j.1,ahx j.2⟩) h
 simp_all[acw,adB,CN,ae3]
theorem aGL {k:Nat} {r a:AV} {o mid o2:Store} (c:r.iR o (λi=>decide (k<=i))=some a) (g:ME o (λi=>decide (k<=i)) o=some mid) (e:A5 (λi=>decide (k<=i)) 0 mid=o2) (f:a.ju k=true) (d:∀x∈o2,x.ju k=true) (l:k<=o2.length):YF k r o=some (a,o2.take k):=by
 unfold YF;rw[c,g];simp only[e]
 have m:∀x∈o2.take k,x.ju k=true:=λx h=>d x (γi h)
 rw[auB (by grind[tf,aoL])]
 have j:J8.acf (List.range k)=true:=by rw[δF];exact nodup_range'
 rw[if_pos j,alm f]
 have b:=aoK (k:=k) (o:=o2) m l (n:=k) (s:=0) (by omega)
 rw[<-δF,List.drop_zero] at b;rw[b]
def anh (k:Nat) (r:SV) (o:jr) (K:SV->jr->Prop):Prop:=
 XY o k r λb=>abX o k 0 o λa=>if b.ju k&&a.all (λx=>x.ju k)&&decide (k<=a.length) then K b (a.take k) else False
theorem aGM {k:Nat} {r:SV} {o:jr} {K:SV->jr->Prop} (h:anh k r o K):∃r' o',YF k r.g (gO o)=some (r'.g,gO o')/\K r' o':=by
 unfold anh at h
 obtain⟨l,p,f⟩:=ao0 h
 obtain⟨c,i,n,m,a⟩:=ahD f
 split at a
 ·rename_i b
  simp only[μ,decide_eq_true_eq,γf] at b
  obtain⟨⟨d,j⟩,e⟩:=b
  refine⟨l,c.take k,?_,a⟩
  simp_all[aGL,ai6,gO,alh]
 simp_all
def ani (p:KB) (Λ:Nat->jY) (F:zr) (args:List SV) (o:jr) (Q:SV->jr->Prop):Prop:=
 wpS p o.length F.body Λ ⟨aaT 0 args,o⟩ λa b=>match a with
  | .exit _=>False
  | .goto _=>False
  |_=>abt b F.res λr=>anh o.length r b.o Q
theorem aGN {P:Program} {T:Tab} {p:KB} {Λ:Nat->jY} (A:SQ P T) (t:acv T.K p.C) (y:∀f F,p.it f=some F->T.fn f=some F) {f:FuncId} {F:zr} (n:T.fn f=some F) {args:List SV} {o:jr} {r:AV} {o':Store} (z:T.K f (gL args) (gO o) true=none) (j:args.length=F.params)
  {Q:SV->jr->Prop} (D:∀v s,Q v s->v.g=r/\gO s=o') (h:ani p Λ F args o Q):FG P f=true/\W7 P f (gL args) (gO o) r o':=by
 unfold ani at h
 have e:=af8 t y h
 have d:(jD.mk (aaT 0 args) o).g=⟨Hl 0 (gL args),gO o⟩:=by simp[jD.g,af9]
 rw[d] at e
 have i:(gO o).length=o.length:=abv o
 rw[<-i] at e
 have x:∀(a:jD),(abt a F.res λv=>anh (gO o).length v a.o Q)->(abm a.g F.res).bind (λc=>finish true (gO o).length c a.g.o)=some (r,o'):=by
  intro a m
  obtain⟨c,k,l⟩:=ahy m
  obtain⟨u,q,w,E⟩:=aGM l
  rw[k];simp only[Option.bind_some,finish,if_true]
  have:YF (gO o).length c.g a.g.o=some (u.g,gO q):=w
  grind
 obtain⟨k,l,_⟩:=ak5 A n (o:=gO o) (own:=true) z (by grind[QV]) (v:=r) (o':=o') (e.mono λb s B=>by
  obtain⟨a,rfl,m⟩:=B
  cases b<;>simp_all)
 simp_all
theorem aGO {P:Program} {d:FuncId->Option zr} {L:List fN} {W:List og} (c:og) {F:zr} {k:TypeId->Option cn} {e:List Nat×Bool->Option (cn×cn)} {Λ:c.α->Nat->jY}
  (n:SQ P ⟨d,λ_ _ _ _=>none⟩) (i:∀c∈W,sd P c) (o:∀c∈L,Holds P c)
  (l:d c.f=some F) (b:∀a,(c.put a).length=F.params)
  (a:c.α) (m:Xm c.f W=none)
  (h:ani (SR L (CN W) k e d) (Λ a) F (c.put a) (c.st a) λv s=>v.same (c.res a)/\N1 s (c.out a)):
  FG P c.f=true/\W7 P c.f (gL (c.put a)) (gO (c.st a)) (c.res a).g (gO (c.out a)):=by
 refine aGN (p:=SR L (CN W) k e d) (Λ:=Λ a) (Q:=λv s=>v.same (c.res a)/\N1 s (c.out a)) (aga (XX i) o n) (agb (XX i)) (λ_ _ h=>h) l ?_ (b a) (λv s j=>⟨j.1,ahx j.2⟩) h
 simp_all[acw,adB,CN,ae3]
open Go.Proofs.YtgejbpobaicgfaaGreat.Ir
open Go.Proofs
structure pZ where
 p:dd
 ch:List Int
 val:Int
 found:Bool
 en:Option Int
 k1:Nat
 k2:Nat
 most:Int
 err:Int
 prf:List XH
 fx:List Int
def pZ.cs (x:pZ) (e:SV) (i j:Nat):List SV:=[.row (.i .i64) x.ch,.si .i64 x.val,.sb x.found,e,.ow i x.k1 5,.ow j x.k2 1,.si .i64 x.most,.si .i64 x.err]
def pZ.aiu (x:pZ):jr:=[.cells (x.p.ss++x.cs (.fn (.func 45) [] []) 1 2) 84 28 false,.row sf x.prf 139 true,.row (.i .i64) x.fx 3 true]
def pZ.aiv (x:pZ) (m:Int):jr:=[.cells (x.p.ss++x.cs (.fn (.func 53) [] [.ptr 1 0 1]) 2 3) 84 28 false,.cells [.si .i64 m] 2 1 false,.row sf x.prf 139 true,.row (.i .i64) x.fx 3 true]
def pZ.Gu (x:pZ):jr:=match x.en with
 |none=>x.aiu
 |some m=>x.aiv m
def arL:jr->Option pZ
 |[.cells g 84 28 false,.row k a 139 true,.row j e 3 true]=>match g.drop 20 with
  |[c,v,b,.fn (.func 45) [] [],.ow 1 l 5,.ow 2 h 1,d,f]=>match agc (g.take 20),Kz (.i .i64) c,v.int .i64,b.boo,d.int .i64,f.int .i64 with
   |some p,some c,some v,some b,some d,some f=>match AW k sf a,AW j (.i .i64) e with
    |some a,some e=>some ⟨p,c,v,b,none,l,h,d,f,a,e⟩
    |_,_=>none
   |_,_,_,_,_,_=>none
  |_=>none
 |[.cells g 84 28 false,.cells [m] 2 1 false,.row k a 139 true,.row j e 3 true]=>match g.drop 20 with
  |[c,v,b,.fn (.func 53) [] [.ptr 1 0 1],.ow 2 l 5,.ow 3 h 1,d,f]=>match agc (g.take 20),Kz (.i .i64) c,v.int .i64,b.boo,d.int .i64,f.int .i64 with
   |some p,some c,some v,some b,some d,some f=>match AW k sf a,AW j (.i .i64) e,m.int .i64 with
    |some a,some e,some m=>some ⟨p,c,v,b,some m,l,h,d,f,a,e⟩
    |_,_,_=>none
   |_,_,_,_,_,_=>none
  |_=>none
 |_=>none
theorem aGP {o:jr} {x:pZ} (h:arL o=some x):gO o=gO x.Gu:=by
 unfold arL at h;split at h
 ·rename_i f G F E L
  split at h
  ·rename_i c v b A a r B z
   split at h
   ·rename_i p K J I e i D t j k w q
    split at h
    ·rename_i s l C y
     simp only[γ] at h;subst h
     obtain⟨rfl,n⟩:=KA C
     obtain⟨rfl,d⟩:=KA y
     cases n;cases d
     have u:gL f=gL p.ss++gL [c,v,b,.fn (.func 45) [] [],.ow 1 A 5,.ow 2 a 1,r,B]:=by
      rw[<-z,<-aje D,<-af2,γc]
     simp only[pZ.Gu,pZ.aiu,pZ.cs,gO,ψ,γy,cJ.g,af2,u];simp only[gL,aaW t,F2 j,ahm k,F2 w,F2 q,SV.g]
    ·cases h
   ·cases h
  ·cases h
 ·rename_i f m G F E L
  split at h
  ·rename_i c v b A a r B z
   split at h
   ·rename_i p K J I e i D t j k w q
    split at h
    ·rename_i s l M C y H
     simp only[γ] at h;subst h
     obtain⟨rfl,n⟩:=KA C
     obtain⟨rfl,d⟩:=KA y
     cases n;cases d
     have u:gL f=gL p.ss++gL [c,v,b,.fn (.func 53) [] [.ptr 1 0 1],.ow 2 A 5,.ow 3 a 1,r,B]:=by
      rw[<-z,<-aje D,<-af2,γc]
     simp only[pZ.Gu,pZ.aiv,pZ.cs,gO,ψ,γy,cJ.g,af2,u];simp only[gL,aaW t,F2 j,ahm k,F2 w,F2 q,F2 H,SV.g]
    ·cases h
   ·cases h
  ·cases h
 ·cases h
theorem aGQ {p q:dd} (h:gL p.ss=gL q.ss):p=q:=qa.inj p q (by grind[qa,SV.g])
theorem aGR {x y:pZ} (h:gO x.Gu=gO y.Gu):x=y:=by
 obtain⟨p,E,u,b,J,H,G,k,o,A,L⟩:=x
 obtain⟨B,n,d,a,l,r,v,c,f,q,C⟩:=y
 have w:∀{e I:SV} {i j:Nat},gL (p.ss++(pZ.mk p E u b J H G k o A L).cs e i j)=gL (B.ss++(pZ.mk B n d a l r v c f q C).cs I i j)->p=B/\E=n/\u=d/\b=a/\H=r/\G=v/\k=c/\o=f:=by
  intro e I i j h;rw[af2,af2] at h
  obtain⟨z,t⟩:=List.append_inj h (by rw[QV,QV];rfl)
  simp only[pZ.cs,gL,SV.g,Δ,γ6,Value.int.injEq,Value.bool.injEq,δ7,AV.sl.injEq,and_true,true_and] at t
  grind[aGQ,aaG]
 cases J with
 |none=>
  cases l with
  |none=>
   simp only[pZ.Gu,pZ.aiu,gO,ψ,γy,cJ.g,Δ,ig.cells.injEq,and_true] at h
   obtain⟨z,t,D⟩:=h
   obtain⟨rfl,rfl,rfl,rfl,rfl,rfl,rfl,rfl⟩:=w z
   rw[aaG (s:=sf) t,aaG (s:=.i .i64) D]
  |some K=>
   have:=congrArg γb h
   simp_all[pZ.Gu,pZ.aiu,pZ.aiv,gO]
 |some m=>
  cases l with
  |none=>
   have:=congrArg γb h
   simp_all[pZ.Gu,pZ.aiu,pZ.aiv,gO]
  |some K=>
   simp only[pZ.Gu,pZ.aiv,gO,ψ,γy,cJ.g,Δ,ig.cells.injEq,and_true] at h
   obtain⟨z,F,t,D⟩:=h
   obtain⟨rfl,rfl,rfl,rfl,rfl,rfl,rfl,rfl⟩:=w z
   simp only[gL,SV.g,Δ,γ6,Value.int.injEq,and_true,true_and] at F;subst F;rw[aaG (s:=sf) t,aaG (s:=.i .i64) D]
def anj (f:FuncId) (c:Type) (A:acX c) (i:pZ->c->Prop) (e:pZ->c->SV) (out:pZ->c->pZ):og where
 f:=f
 α:=pZ×c
 put a:=.ptr 0 0 28::A.put a.2
 st a:=a.1.Gu
 dec v o:=match v with
  | .ptr 0 0 28::r=>match arL o,A.dec r with
   |some s,some b=>some (s,b)
   |_,_=>none
  |_=>none
 ok v o a h:=by
  split at h
  ·split at h
   ·rename_i d g
    simp only[γ] at h;subst h
    exact⟨by simp only[gL,A.ok _ _ g],aGP d⟩
   ·cases h
  ·cases h
 inj a b d g:=by
  simp only[gL,Δ,true_and] at d
  exact Prod.ext (aGR g) (A.inj _ _ d)
 dom a:=i a.1 a.2
 res a:=e a.1 a.2
 out a:=(out a.1 a.2).Gu
def jW (e:Option Int) (v:Int):Bool:=match e with
 |none=>false
 |some m=>decide (m<=v)
def pZ.s (x:pZ):lU:=⟨x.ch,x.val,x.found,x.prf,x.err⟩
def pZ.upd (x:pZ) (s:lU):pZ:=⟨x.p,s.ch,s.val,s.found,x.en,s.prf.length,x.k2,x.most,s.err,s.prf,x.fx⟩
structure zo (x:pZ):Prop where
 f:uz x.p x.fx
 k1:x.k1=x.prf.length
 k2:x.k2=x.fx.length
 v0:0<=x.val
 v1:x.val<=9223372036854775806
 m0:1<=x.most
 m1:x.most<=65536
 l:x.prf.length<=65536
 c:x.ch.length<=9223372036854775807
def arM:og where
 f:=45
 α:=Alloc
 put a:=[Xh.put a]
 st _:=[]
 dec v o:=match v,o with
  |[a],[]=>Xh.dec a
  |_,_=>none
 ok v o a h:=by
  split at h
  ·exact⟨by simp only[gL,Xh.ok _ _ h],rfl⟩
  ·cases h
 inj a b c _:=by
  simp only[gL,Δ,and_true] at c
  exact Xh.inj _ _ c
 dom _:=True
 res _:=.sb false
 out _:=[]
theorem h438:sd Tryz.prog arM:=by
 refine Sj (L:=[]) (W:=[]) arM lk (by simp) (by simp) ?_
 rintro(a:Alloc) -
 refine gp ((δe false).same (γv false)/\True) (by kernel_rfl) ?_
 simp_all
def arN:og where
 f:=53
 α:=Alloc×Int
 put a:=[Xh.put a.1,.ptr 0 0 1]
 st a:=[.cells [.si .i64 a.2] 2 1 false]
 dec v o:=match v,o with
  |[a,.ptr 0 0 1],[.cells [m] 2 1 false]=>match Xh.dec a,m.int .i64 with
   |some a,some m=>some (a,m)
   |_,_=>none
  |_,_=>none
 ok v o a h:=by
  split at h
  ·split at h
   ·rename_i c d
    simp only[γ] at h;subst h
    exact⟨by simp only[gL,Xh.ok _ _ c],by simp only[gO,ψ,γy,cJ.g,gL,F2 d,SV.g]⟩
   ·cases h
  ·cases h
 inj a b c d:=by
  simp only[gL,Δ,and_true] at c;simp only[gO,ψ,γy,cJ.g,gL,SV.g,Δ,ig.cells.injEq,γ6,Value.int.injEq,and_true,true_and] at d
  exact Prod.ext (Xh.inj _ _ c) d
 dom _:=True
 res a:=.sb (decide (a.2<=a.1.value))
 out a:=[.cells [.si .i64 a.2] 2 1 false]
theorem h442:sd Tryz.prog arN:=by
 refine Sj (L:=[]) (W:=[]) arN lk (by simp) (by simp) ?_
 rintro⟨a,m⟩ -
 refine gp (let b:=cJ.cells [γa .i64 m] 2 1 false;(γv (decide (m<=a.value))).same (γv (decide (m<=a.value)))/\b.same b/\True) (by kernel_rfl) ?_
 conv=>zeta
 exact⟨rfl,rfl,trivial⟩
def akg:og:=anj 46 Alloc (.one Xh) (λx _=>x.k1=x.prf.length) (λ_ _=> .eW []) λx a=>x.upd (sr (jW x.en) x.s a)
theorem h439:sd Tryz.prog akg:=by
 refine Sj (L:=[]) (W:=[arM,arN]) akg lk (by grind[h438,h442]) (by simp) ?_
 rintro⟨⟨p,f,d,b,n,k1,o,g,e,c,q⟩,a⟩ M
 have M:k1=c.length:=M
 subst M
 have e1:∀n:Int->Bool,d<a.value->sr n ⟨f,d,b,c,e⟩ a=⟨a.chosen,a.value,b||n a.value,c,e⟩:=λn h=>if_pos h
 have e2:∀n:Int->Bool,¬d<a.value->sr n ⟨f,d,b,c,e⟩ a=⟨f,d,b,c,e⟩:=λn h=>if_neg h
 cases n with
 |none=>
  refine gp (let h:=γa .i64;let m:=cJ.row;let n:=cJ.cells;let A:=Ξ;let L:=SV.eW;let Y:=h p.supply.a0;let R:=h p.supply.a1;let V:=h p.supply.a2;let N:=h p.supply.a3;let S:=h p.supply.a4;let Z:=h p.supply.a5;let K:=h p.opn.a0;let X:=h p.opn.a1;let Q:=h p.opn.a2;let D:=h p.opn.a3;let z:=h p.opn.a4;let y:=h p.opn.a5;let v:=h p.cls.a0;let t:=h p.cls.a1;let C:=h p.cls.a2;let w:=h p.cls.a3;let r:=h p.cls.a4;let B:=h p.cls.a5;let k:=cn.i .i64;let s:=A k p.classes;let x:=A cn.off p.offers;let H:=ζx (Fn.func 45) [] [];let G:=γQ 2 o 1;let F:=h g;let I:=[H,γQ 1 c.length 5,G,F,h e];let j:=sr (jW none) (lU.mk f d b c e) a;let E:=n [Y,R,V,N,S,Z,K,X,Q,D,z,y,v,t,C,w,r,B,s,x,A k j.ch,h j.val,γv j.found,H,γQ 1 j.prf.length 5,G,F,h j.err] 84 28 false;let l:=m k q 3 true;let J:=decide (d<a.value);let M:=λ(u T:Bool) (O:List Int) (U:Int) (P:SV) ↦u=T->(L []).same (L [])/\(n (Y::R::V::N::S::Z::K::X::Q::D::z::y::v::t::C::w::r::B::s::x::A k O::h U::P::I) 84 28 false).same E/\(m sf c 139 true).same (m sf j.prf 139 true)/\l.same l/\True;(J=true->M b true a.chosen a.value (δe true)/\(b=false->True/\(L []).same (L [])/\(n (Y::R::V::N::S::Z::K::X::Q::D::z::y::v::t::C::w::r::B::s::x::A k a.chosen::h a.value::γv false::I) 84 28 false).same E/\(m sf c 139 true).same (m sf j.prf 139 true)/\l.same l/\True))/\M J false f d (γv b)) (by kernel_rfl) ?_
  conv=>zeta
  refine⟨λh=>?_,λh=>?_⟩
  ·simp only[e1 _ (of_decide_eq_true h)]
   refine⟨λA=>?_,λA=>?_⟩
   ·subst A
    exact⟨rfl,rfl,rfl,rfl,trivial⟩
   ·subst A
    exact⟨trivial,rfl,rfl,rfl,rfl,trivial⟩
  ·simp only[e2 _ (of_decide_eq_false h)]
   exact⟨rfl,rfl,rfl,rfl,trivial⟩
 |some m=>
  refine gp (let h:=γa .i64;let j:=cn.i .i64;let k:=cJ.cells;let l:=Ξ;let n:=cJ.row;let r:=γQ;let s:=γ5;let t:=SV.eW;let u:=γv;(decide (d<a.value)=true->(b=true->(t []).same (t [])/\(k [h p.supply.a0,h p.supply.a1,h p.supply.a2,h p.supply.a3,h p.supply.a4,h p.supply.a5,h p.opn.a0,h p.opn.a1,h p.opn.a2,h p.opn.a3,h p.opn.a4,h p.opn.a5,h p.cls.a0,h p.cls.a1,h p.cls.a2,h p.cls.a3,h p.cls.a4,h p.cls.a5,l (j) p.classes,l cn.off p.offers,l (j) a.chosen,h a.value,δe true,ζx (Fn.func 53) [] [s 1 0 1],r 2 c.length 5,r 3 o 1,h g,h e] 84 28 false).same (k [h p.supply.a0,h p.supply.a1,h p.supply.a2,h p.supply.a3,h p.supply.a4,h p.supply.a5,h p.opn.a0,h p.opn.a1,h p.opn.a2,h p.opn.a3,h p.opn.a4,h p.opn.a5,h p.cls.a0,h p.cls.a1,h p.cls.a2,h p.cls.a3,h p.cls.a4,h p.cls.a5,l (j) p.classes,l cn.off p.offers,l (j) (sr (jW (some m)) (lU.mk f d b c e) a).ch,h (sr (jW (some m)) (lU.mk f d b c e) a).val,u (sr (jW (some m)) (lU.mk f d b c e) a).found,ζx (Fn.func 53) [] [s 1 0 1],r 2 (sr (jW (some m)) (lU.mk f d b c e) a).prf.length 5,r 3 o 1,h g,h (sr (jW (some m)) (lU.mk f d b c e) a).err] 84 28 false)/\(k [h m] 2 1 false).same (k [h m] 2 1 false)/\(n sf c 139 true).same (n sf (sr (jW (some m)) (lU.mk f d b c e) a).prf 139 true)/\(n (j) q 3 true).same (n (j) q 3 true)/\True)/\(b=false->True/\(t []).same (t [])/\(k [h p.supply.a0,h p.supply.a1,h p.supply.a2,h p.supply.a3,h p.supply.a4,h p.supply.a5,h p.opn.a0,h p.opn.a1,h p.opn.a2,h p.opn.a3,h p.opn.a4,h p.opn.a5,h p.cls.a0,h p.cls.a1,h p.cls.a2,h p.cls.a3,h p.cls.a4,h p.cls.a5,l (j) p.classes,l cn.off p.offers,l (j) a.chosen,h a.value,u (decide (m<=a.value)),ζx (Fn.func 53) [] [s 1 0 1],r 2 c.length 5,r 3 o 1,h g,h e] 84 28 false).same (k [h p.supply.a0,h p.supply.a1,h p.supply.a2,h p.supply.a3,h p.supply.a4,h p.supply.a5,h p.opn.a0,h p.opn.a1,h p.opn.a2,h p.opn.a3,h p.opn.a4,h p.opn.a5,h p.cls.a0,h p.cls.a1,h p.cls.a2,h p.cls.a3,h p.cls.a4,h p.cls.a5,l (j) p.classes,l cn.off p.offers,l (j) (sr (jW (some m)) (lU.mk f d b c e) a).ch,h (sr (jW (some m)) (lU.mk f d b c e) a).val,u (sr (jW (some m)) (lU.mk f d b c e) a).found,ζx (Fn.func 53) [] [s 1 0 1],r 2 (sr (jW (some m)) (lU.mk f d b c e) a).prf.length 5,r 3 o 1,h g,h (sr (jW (some m)) (lU.mk f d b c e) a).err] 84 28 false)/\(k [h m] 2 1 false).same (k [h m] 2 1 false)/\(n sf c 139 true).same (n sf (sr (jW (some m)) (lU.mk f d b c e) a).prf 139 true)/\(n (j) q 3 true).same (n (j) q 3 true)/\True))/\(decide (d<a.value)=false->(t []).same (t [])/\(k [h p.supply.a0,h p.supply.a1,h p.supply.a2,h p.supply.a3,h p.supply.a4,h p.supply.a5,h p.opn.a0,h p.opn.a1,h p.opn.a2,h p.opn.a3,h p.opn.a4,h p.opn.a5,h p.cls.a0,h p.cls.a1,h p.cls.a2,h p.cls.a3,h p.cls.a4,h p.cls.a5,l (j) p.classes,l cn.off p.offers,l (j) f,h d,u b,ζx (Fn.func 53) [] [s 1 0 1],r 2 c.length 5,r 3 o 1,h g,h e] 84 28 false).same (k [h p.supply.a0,h p.supply.a1,h p.supply.a2,h p.supply.a3,h p.supply.a4,h p.supply.a5,h p.opn.a0,h p.opn.a1,h p.opn.a2,h p.opn.a3,h p.opn.a4,h p.opn.a5,h p.cls.a0,h p.cls.a1,h p.cls.a2,h p.cls.a3,h p.cls.a4,h p.cls.a5,l (j) p.classes,l cn.off p.offers,l (j) (sr (jW (some m)) (lU.mk f d b c e) a).ch,h (sr (jW (some m)) (lU.mk f d b c e) a).val,u (sr (jW (some m)) (lU.mk f d b c e) a).found,ζx (Fn.func 53) [] [s 1 0 1],r 2 (sr (jW (some m)) (lU.mk f d b c e) a).prf.length 5,r 3 o 1,h g,h (sr (jW (some m)) (lU.mk f d b c e) a).err] 84 28 false)/\(k [h m] 2 1 false).same (k [h m] 2 1 false)/\(n sf c 139 true).same (n sf (sr (jW (some m)) (lU.mk f d b c e) a).prf 139 true)/\(n (j) q 3 true).same (n (j) q 3 true)/\True)) (by kernel_rfl) ?_
  refine⟨λh=>?_,λh=>?_⟩
  ·simp only[e1 _ (of_decide_eq_true h)]
   refine⟨λA=>?_,λA=>?_⟩
   ·subst A
    exact⟨rfl,rfl,rfl,rfl,rfl,trivial⟩
   ·subst A
    exact⟨trivial,rfl,rfl,rfl,rfl,rfl,trivial⟩
  ·simp only[e2 _ (of_decide_eq_false h)]
   exact⟨rfl,rfl,rfl,rfl,rfl,trivial⟩
def uA (p:dd):List Int:=δ p.offers.length 0
theorem aiw {n:Nat}:nF (δ n 0)=n:=by
 have e:dV (δ n 0) 0=rb n:=by
  simp_all[dV,adO,my]
 grind[Qk]
theorem ab7 {p:dd} (a:fO p=0):uz p (uA p) where
 c:=a
 l:=List.length_replicate
 r:=by
  unfold Fj;rw[γf];intro x b;rw[List.eq_of_mem_replicate b]
  decide
def QL (p:dd) (c:List Int):lU:=sr (jW none) (sr (jW none) ⟨c,qX p c,false,[zN],0⟩ (HU p c)) (HU p (YA p))
noncomputable def sg (p:dd) (c:List Int) (most:Int):lU:=pA p (jW none) most p.offers.length (QL p c) 0 (uA p)
noncomputable def tc (p:dd) (c:List Int) (most:Int):Int:=if lj p c≠0 then lj p c else if most<1\/65536<most then 4 else(sg p c most).err
def QM (p:dd) (m:Int):lU:=sr (jW (some m)) ⟨[],m - 1,false,[zN],0⟩ (HU p (YA p))
noncomputable def y5 (p:dd) (m most:Int):lU:=pA p (jW (some m)) most p.offers.length (QM p m) 0 (uA p)
noncomputable def x4 (p:dd) (m most:Int):Int:=if fO p≠0 then fO p else if most<1\/65536<most then 4 else if m<=0 then 0 else if(y5 p m most).found=true then 0 else(y5 p m most).err
noncomputable def vd (p:dd) (m most:Int):Bool:=decide (x4 p m most=0)&&(decide (m<=0)||(y5 p m most).found)
noncomputable def DX (p:dd) (m most:Int):Alloc:=if vd p m most=true/\0<m then⟨(y5 p m most).ch,(y5 p m most).val⟩ else⟨[],0⟩
theorem akh {p:dd} (a:fO p=0) {t:List Int} (h:lj p t=0):qX p t<=(yh p).value:=by
 have b:=(agi a).1 h
 obtain⟨_,d⟩:=aa7 h
 have c:=aC9 (uw a) b.1 (decide_eq_true b.2)
 rw[ait a d];exact c
theorem arO {p:dd} (a:fO p=0):∃t,lj p t=0/\qX p t=(yh p).value:=by
 obtain⟨t,c,f,e⟩:=aDa (uw a)
 have b:lj p t=0:=(agi a).2 ⟨c,of_decide_eq_true f⟩
 obtain⟨_,d⟩:=aa7 b
 refine⟨t,b,?_⟩
 rw[ait a d,e];rfl
theorem aGS {p:dd} {l:List Int} (h:zc p.offers.length l):anf (uA p) l:=by
 have b:∀i:Int,0<=i/\i<p.offers.length->bC (uA p) i.toNat 0=0:=λi a=>by
  grind[uA,my]
 refine⟨λi a=>by rw[b i (h.2 i a)];omega,λi a=>?_⟩
 grind[Ui,uA]
theorem ayu {p:dd} {v:Int} {t:List XH} {a lo f:Nat} (b:fO p=0) (h:BD p v t a (uA p) lo f):(yh p).value<=v:=by
 obtain⟨l,d,e⟩:=arO b
 obtain⟨_,c⟩:=aa7 d
 rw[<-e,ait b c]
 exact h.sound (ab7 b) c ((ake b c).1 d) (aGS c)
theorem aix {en:Int->Bool} {G:List Int->Int->Bool->Prop} {p:dd} (h:∀c w b d w',G c w b->lj p d=0->qX p d=w'->w<w'->G d w' (b||en w')) {s:lU} {a:Alloc} (e:G s.ch s.val s.found) (f:lj p a.chosen=0) (g:qX p a.chosen=a.value):G (sr en s a).ch (sr en s a).val (sr en s a).found:=by
 grind[sr]
theorem ank {p:dd} (a:fO p=0):lj p (HU p (YA p)).chosen=0/\qX p (HU p (YA p)).chosen=(HU p (YA p)).value:=by
 simp_all[ard,axF]
theorem arP {p:dd} (d:fO p=0) {c:List Int} (h:lj p c=0) {most:Int} {G:List Int->Int->Bool->Prop} (a:∀c w b e w',G c w b->lj p e=0->qX p e=w'->w<w'->G e w' (b||jW none w')) (i:G c (qX p c) false):G (sg p c most).ch (sg p c most).val (sg p c most).found:=by
 have f:=ard d h
 have g:=ank d
 exact ayr a (ab7 d) (aix a (aix a i f.2.1 f.2.2.1) g.1 g.2)
theorem arQ {p:dd} {c:List Int}:(QL p c).prf=[zN]/\(QL p c).err=0/\qX p c<=(QL p c).val:=by
 grind[QL,sr]
theorem aki {p:dd} (d:fO p=0) {c:List Int} (i:lj p c=0) {most:Int} (C:1<=most):
  ((sg p c most).err=0\/(sg p c most).err=12)/\((sg p c most).err=0->(lj p (sg p c most).ch=0/\qX p (sg p c most).ch=(sg p c most).val)/\(sg p c most).val=(yh p).value/\(sg p c most).prf.length<=most/\BD p (yh p).value (sg p c most).prf 0 (uA p) 1 (sg p c most).prf.length/\(qX p c=(yh p).value->(sg p c most).ch=c))/\
   (((1+2^(p.offers.length+1):Nat):Int)<=most+2->(sg p c most).err=0):=by
 obtain⟨y,l,A⟩:=@arQ p c
 have t:(QL p c).prf.length=1:=by rw[y];rfl
 have q:=@adU p (jW none) most p.offers.length (QL p c) 0 (uA p) (ab7 d)
 have j:(sg p c most).found=false:=by
  refine(arP d i (most:=most) (G:=λ_ _ b=>b=false) (λc w b g o h _ _ _=>?_) rfl)
  rw[h];rfl
 refine⟨?_,λx=>?_,λB=>?_⟩
 ·have:=q.2.2.2.2.2
  rw[l] at this;exact this
 ·have v:=arP d i (most:=most) (G:=λc w _=>lj p c=0/\qX p c=w) (λc w b g o _ k m _=>⟨k,m⟩) ⟨i,rfl⟩
  have u:=arP d i (most:=most) (G:=λg w _=>qX p c<=w/\(w=qX p c->g=c)) (λD w b g o h _ _ r=>⟨by omega,λe=>by omega⟩) ⟨Int.le_refl _,λ_=>rfl⟩
  have z:=ayq (p:=p) (en:=jW none) (most:=most) (n:=p.offers.length) (s:=QL p c) (a:=0) (ab7 d) (by show nF (δ _ 0)<=_;grind[aiw]) (by rw[t];omega) x j
  have k:=ayu d z.1
  have m:=akh d v.1
  grind[sg]
 ·refine(ays (p:=p) (en:=jW none) (most:=most) (n:=p.offers.length) (s:=QL p c) (a:=0) (f:=uA p) (ab7 d) ?_ l ?_).1
  all_goals simp_all[aiw,uA]
theorem ayv {p:dd} (i:fO p=0) {m most:Int}:((y5 p m most).found=false->(y5 p m most).ch=[]/\(y5 p m most).val=m - 1)/\((y5 p m most).found=true->lj p (y5 p m most).ch=0/\qX p (y5 p m most).ch=(y5 p m most).val/\m<=(y5 p m most).val):=by
 have j:=ank i
 have g:∀(c:List Int) (w:Int) (b:Bool) (e:List Int) (d:Int),((m - 1<=w)/\(b=false->c=[]/\w=m - 1)/\(b=true->lj p c=0/\qX p c=w/\m<=w))->lj p e=0->qX p e=d->w<d->((m - 1<=d)/\((b||jW (some m) d)=false->e=[]/\d=m - 1)/\((b||jW (some m) d)=true->lj p e=0/\qX p e=d/\m<=d)):=by
  intro c w b e d h l q k
  have o:jW (some m) d=true:=by
   show decide (m<=d)=true
   grind
  grind
 have:=ayr (p:=p) (en:=jW (some m)) (most:=most) g (n:=p.offers.length) (s:=QM p m) (a:=0) (f:=uA p) (ab7 i) (aix g (s:=⟨[],m - 1,false,[zN],0⟩) ⟨Int.le_refl _,λ_=>⟨rfl,rfl⟩,(λh=>by cases h)⟩ j.1 j.2)
 exact this.2
theorem arR {p:dd} {m:Int}:(QM p m).prf=[zN]/\(QM p m).err=0:=by
 grind[QM,anc]
theorem arS {p:dd} (b:fO p=0) {m most:Int}:
  ((y5 p m most).err=0\/(y5 p m most).err=12)/\((y5 p m most).found=true->m<=(yh p).value)/\((y5 p m most).found=false->(y5 p m most).err=0->(yh p).value<m)/\
   (((1+2^(p.offers.length+1):Nat):Int)<=most+2->(y5 p m most).err=0):=by
 obtain⟨i,d⟩:=@arR p m
 have h:(QM p m).prf.length=1:=by rw[i];rfl
 have g:=@adU p (jW (some m)) most p.offers.length (QM p m) 0 (uA p) (ab7 b)
 obtain⟨r,l⟩:=@ayv p b m most
 refine⟨?_,λc=>?_,λc k=>?_,λo=>?_⟩
 ·have:=g.2.2.2.2.2
  rw[d] at this;exact this
 ·obtain⟨e,q,t⟩:=l c
  have:=akh b e
  omega
 ·have j:=ayq (p:=p) (en:=jW (some m)) (most:=most) (n:=p.offers.length) (s:=QM p m) (a:=0) (ab7 b) (by show nF (δ _ 0)<=_;grind[aiw]) (by rw[h];omega) k c
  have e:(yh p).value<=(y5 p m most).val:=ayu b j.1
  grind
 ·refine(ays (p:=p) (en:=jW (some m)) (most:=most) (n:=p.offers.length) (s:=QM p m) (a:=0) (f:=uA p) (ab7 b) ?_ d ?_).1
  all_goals simp_all[aiw,uA]
def adV (p:dd) (m:Int):Bool:=decide (((2^(p.offers.length+1):Nat):Int) - 1<=m)
def r431:fN:=⟨18,dd×Int,.cons qa (.one (sx .i64)),λa=>a.1.offers.length<=15,λa=> .sb (adV a.1 a.2)⟩
def aGT (p:dd) (m:Int):Nat->jY
 |3=> .inv Int (λi=>⟨[(1,.si .i64 m),(2,.ptr 0 0 20),(5,.si .i64 (((2^(i.toNat+1):Nat):Int) - 1)),(6,.si .i64 i)],[.cells p.ss 27 20 false]⟩)
   (λs=>iS s 6) (λi=>0<=i/\i<=p.offers.length) (λi=>(p.offers.length - i).toNat) λ_ _=> .look
 |_=> .look
theorem h431:Holds Tryz.prog r431:=by
 refine kh (L:=[]) r431 (λa=>aGT a.1 a.2) (by simp) ?_
 rintro⟨p,m⟩ (l:p.offers.length<=15)
 refine gp (let a:=γa .i64;let i:=(0:Int);let l:=(1:Int);let n:=ie .i64;let e:=γ5 0 0 20;let d:=cJ.cells (dd.ss p) 27 20 false;let c:=(↑p.offers.length:Int);((((a m).same (a m)/\e.same e/\(γu .i64 1).same (a 1)/\(γu .i64 0).same (a 0)/\True)/\d.same d/\True)/\i<=i/\i<=c)/\∀(x:Int),let g:=(↑((2:Nat)^(x.toNat+1)):Int) - l;let f:=(2:Int)*g+l;let h:=decide (x<(↑p.offers.length:Int));let b:=x+l;let j:=a b;let k:=λ(u:Bool) ↦decide ((1000000:Int)<f)=u;i<=x/\x<=c->(h=true->n ((2:Int)*g)/\n f/\(k true->(δe false).same (γv (adV p m)))/\(k false->n b/\(((a m).same (a m)/\e.same e/\(a f).same (a ((↑((2:Nat)^(b.toNat+1)):Int) - l))/\j.same j/\True)/\d.same d/\True)/\(i<=b/\b<=c)/\(c - b).toNat<(c - x).toNat))/\(h=false->(γv (decide (g<=m))).same (γv (adV p m)))) (by kernel_rfl) ?_
 simp only[vcs]
 refine⟨⟨by omega,by omega⟩,?_⟩
 rintro i ⟨n,q⟩
 have o:(2^((i+1).toNat+1):Nat)=2*2^(i.toNat+1):=by
  grind
 have r:(2^(i.toNat+1):Nat)<=2^16:=Nat.pow_le_pow_right (by omega) (by omega)
 grind[adV]
def aam (p:dd) (c:List Int) (m:Int):Int:=if lj p c≠0 then lj p c else if m<1\/65536<m then 4 else 0
def anl:fN:=⟨17,dd×List Int×Int,.cons qa (.cons (mA (.i .i64)) (.one (sx .i64))),λa=>a.2.1.length<=9223372036854775807,λa=> .si .i64 (aam a.1 a.2.1 a.2.2)⟩
theorem h430:Holds Tryz.prog anl:=by
 refine kh (L:=[r55]) anl lk (by grind[h55]) ?_
 rintro⟨p,c,m⟩ (f:c.length<=9223372036854775807)
 refine gp (let f:=γu .i64;let d:=decide (lj p c≠(0:Int));let a:=γa .i64 (aam p c m);let e:=decide (m<(1:Int));let b:=decide ((65536:Int)<m);c.length<=9223372036854775807/\(d=true->(γa .i64 (lj p c)).same a)/\(d=false->(e=true->(f 4).same a)/\(e=false->(b=true->(f 4).same a)/\(b=false->(f 0).same a)))) (by kernel_rfl) ?_
 simp_all[aam]
def eqB (a b:List Int):Bool:=decide (a=b)
def akj:fN:=⟨23,List Int×List Int,.cons (mA (.i .i64)) (.one (mA (.i .i64))),λa=>a.1.length<=9223372036854775807/\a.2.length<=9223372036854775807,λa=> .sb (eqB a.1 a.2)⟩
def akk (a b:List Int) (i:Int):Prop:=a.take i.toNat=b.take i.toNat
def aGU (a b:List Int):Nat->jY
 |4=> .inv Int (λi=>⟨[(0,.row (.i .i64) a),(1,.row (.i .i64) b),(5,.si .i64 i)],[]⟩)
   (λs=>iS s 5) (λi=>(0<=i/\i<=a.length)/\akk a b i) (λi=>(a.length - i).toNat) λ_ _=> .look
 |_=> .look
theorem h433:Holds Tryz.prog akj:=by
 refine kh (L:=[]) akj (λa=>aGU a.1 a.2) (by simp) ?_
 rintro⟨a,b⟩ ⟨u,t⟩
 simp only at u t
 refine gp (let d:=(0:Int);let e:=δe false;let l:=(↑a.length:Int);let o:=decide (l≠(↑b.length:Int));let n:=Ξ (cn.i .i64) a;let m:=Ξ (cn.i .i64) b;let g:=(↑a.length:Int);(o=true->(e).same (γv (eqB a b)))/\(o=false->(((n.same n/\m.same m/\(γu .i64 0).same (γa .i64 0)/\True)/\True)/\(d<=d/\d<=g)/\akk a b d)/\∀(x:Int),let s:=decide (bC a x.toNat d≠bC b x.toNat d);let c:=x+(1:Int);let q:=γa .i64 c;(d<=x/\x<=g)/\akk a b x->(decide (x<l)=true->d<=x/\x<l/\x.toNat<a.length/\d<=x/\x<(↑b.length:Int)/\x.toNat<b.length/\(s=true->(e).same (γv (eqB a b)))/\(s=false->ie .i64 c/\((n.same n/\m.same m/\q.same q/\True)/\True)/\((d<=c/\c<=g)/\akk a b c)/\(g - c).toNat<(g - x).toNat))/\(decide (x<l)=false->(δe true).same (γv (eqB a b))))) (by kernel_rfl) ?_
 simp only[vcs]
 refine⟨λh=>(decide_eq_false λe=>h (by rw[e])).symm,λh=>⟨⟨⟨by omega,by omega⟩,rfl⟩,?_⟩⟩
 rintro i ⟨⟨r,y⟩,k⟩
 unfold akk at k ⊢
 have v:a.length=b.length:=by omega
 refine⟨λp=>⟨r,p,by omega,r,by omega,by omega,λj=>(decide_eq_false λe=>j (by rw[e])).symm,λj=>?_⟩,λp=>?_⟩
 ·have w:a.take (i+1).toNat=b.take (i+1).toNat:=by
   have d:i.toNat<a.length:=by omega
   have f:i.toNat<b.length:=by omega
   rw[my d,my f] at j
   rw[show(i+1).toNat=i.toNat+1 by omega,γD d,γD f,k,Decidable.not_not.1 j]
  grind
 ·rw[Ω (by omega),Ω (by omega)] at k
  exact(decide_eq_true k).symm
theorem akl {p:dd} {c:List Int} {m:Int} (b:lj p c=0) (a:1<=m/\m<=65536):tc p c m=(sg p c m).err:=by
 simp_all[tc,if_neg]
theorem akm {p:dd} (d:fO p=0) {c:List Int} {m:Int} (b:lj p c=0) (e:m<=65536) (f:((1+2^(p.offers.length+1):Nat):Int)<=m+2):tc p c m=0:=by
 have a:=Nat.one_le_two_pow (n:=p.offers.length+1)
 grind[akl,aki]
theorem anm {p:dd} (a:fO p=0) {m k:Int} (d:k<=65536) (b:((1+2^(p.offers.length+1):Nat):Int)<=k+2):x4 p m k=0:=by
 have c:2<=2^(p.offers.length+1):=by grind
 unfold x4
 rw[if_neg (by simp[a]),if_neg (by omega)]
 grind[arS]
theorem akn {p:dd} (a:fO p=0) {m k:Int} (b:x4 p m k=0):vd p m k=true↔m<=(yh p).value:=by
 have j:0<=(yh p).value:=by
  obtain⟨t,d,e⟩:=arO a
  obtain⟨_,c⟩:=aa7 d
  rw[<-e,ait a c]
  exact(adG (uw a) (l:=t.map (oI p)) λx g=>by
   obtain⟨i,f,rfl⟩:=γk.1 g
   have:=c.2 i f
   exact pz (by omega)).1
 have h:=@arS p a m k
 unfold vd;rw[b,decide_eq_true rfl,Bool.true_and,δn,decide_eq_true_eq];unfold x4 at b
 grind
theorem arT {p:dd} (c:fO p=0) {m k:Int} (a:vd p m k=true) (b:0<m):lj p (DX p m k).chosen=0/\qX p (DX p m k).chosen=(DX p m k).value/\m<=(DX p m k).value:=by
 have e:DX p m k=⟨(y5 p m k).ch,(y5 p m k).val⟩:=by simp_all[DX]
 rw[e];unfold vd at a;rw[μ,δn,decide_eq_true_eq,decide_eq_true_eq] at a
 grind[ayv]
theorem adW:fO three=0:=by kernel_rfl
theorem arU:(yh three).value=12:=by kernel_rfl
theorem ayw {c:List Int} (h:lj three c=0) (d:11<=qX three c):c=[1,2]:=by
 have a:=(aDi adW).2 ((agi adW).1 h)
 have e:apw three=[[],[0],[1],[1,2],[2]]:=by kernel_rfl
 rw[e] at a;simp only[List.mem_cons,List.not_mem_nil,or_false] at a
 have i:qX three []=0:=by kernel_rfl
 have g:qX three [0]=10:=by kernel_rfl
 have b:qX three [1]=6:=by kernel_rfl
 have f:qX three [2]=6:=by kernel_rfl
 grind
def zP:dd:=⟨fZ.zero,fZ.zero,fZ.zero,[],[]⟩
theorem arV:fO zP=0:=by kernel_rfl
theorem aGV:(yh zP).value=0:=by kernel_rfl
theorem aGW {c:List Int} (h:lj zP c=0):c=[]:=by
 obtain⟨_,a⟩:=aa7 h
 cases c with
 |nil=>rfl
 |cons x c=>
  have b:=a.2 x (by simp)
  have d:(zP.offers.length:Int)=0:=rfl
  omega
theorem afx {p q:Rat}:Kr p q<0↔p<q:=by
 unfold Kr
 grind
theorem szI {W:Int} (a: -9223372036854775808<=W) (b:W<=9223372036854775807):Sz 2 (W:Rat):=by
 unfold Sz
 simp
 omega
theorem aGX {p:dd} {f:List Int} (h:Qy p f=true):xJ p f:=by
 unfold Qy at h;rw[μ,decide_eq_true_eq] at h
 obtain⟨a,b⟩:=h
 unfold DU at a;split at a
 ·omega
 ·rename_i d
  split at a
  ·cases a
  ·rename_i c
   exact⟨Ψ.1 d,Ψ.1 c,b⟩
theorem arW {p:dd} {f:List Int} (h:Qy p f=true):Sz 1000002 (DV p f):=by
 have a:=aGX h
 have c:=@akc p a.1 f f.length a.2.1
 rw[τ] at c
 have d:Sz 1 ((Gv p f:Int):Rat):=by
  unfold Sz;rw[Rat.num_intCast,Rat.den_intCast];omega
 have b:Sz 1000000 (om p f).value:=((amZ a).szT (abI a).1).2.2.2
 exact(ah2 d b).mono (by omega)
def adf (d:XH):Bool:=(decide (d.1≠2)&&(decide (d.2.1≠0)||decide (d.2.2.1≠0)||decide (d.2.2.2.1≠0)))||(decide (d.1≠1)&&decide (0<d.2.2.2.2.length))
def arX (m:Int) (f:List Int) (a:Int) (d:XH):Bool:=decide (d.1≠2)||decide (d.2.1<0)||decide ((f.length:Int)<=d.2.1)||decide (bC f d.2.1.toNat 0≠0)||decide (d.2.2.1=d.2.2.2.1)||decide (d.2.2.1<=a)||decide (d.2.2.2.1<=a)||decide (m<=d.2.2.1)||decide (m<=d.2.2.2.1)
noncomputable def zp (p:dd) (v:Int) (t:List XH):Nat->Int->List Int->List Bool->Bool×List Bool
 |0,_,_,s=>(false,s)
 |n+1,a,f,s=>
  if bC s a.toNat false=true then(false,s)
  else if adf (bC t a.toNat zN)=true then(false,s.set a.toNat true)
  else if(bC t a.toNat zN).1=1 then(decide (DV p f<((v+1:Int):Rat)),s.set a.toNat true)
  else if(bC t a.toNat zN).1=3 then(decide (lj p (dV f 1)≠0),s.set a.toNat true)
  else if arX t.length f a (bC t a.toNat zN)=true then(false,s.set a.toNat true)
  else if(zp p v t n (bC t a.toNat zN).2.2.1 (f.set (bC t a.toNat zN).2.1.toNat (-1)) (s.set a.toNat true)).1=true then
   zp p v t n (bC t a.toNat zN).2.2.2.1 (f.set (bC t a.toNat zN).2.1.toNat 1) (zp p v t n (bC t a.toNat zN).2.2.1 (f.set (bC t a.toNat zN).2.1.toNat (-1)) (s.set a.toNat true)).2
  else(false,(zp p v t n (bC t a.toNat zN).2.2.1 (f.set (bC t a.toNat zN).2.1.toNat (-1)) (s.set a.toNat true)).2)
theorem arY {p:dd} {f:List Int} {d:Int} (h:f.length=p.offers.length):zc p.offers.length (dV f d):=⟨afv,λi a=>by grind[Ui]⟩
theorem aeC {a:Type} {l:List a} {i:Nat} {x d:a} (h:l[i]?=some x):bC l i d=x/\i<l.length:=by
 grind[bC]
theorem BD.top {p:dd} {v:Int} {t:List XH} {a lo b:Nat} {f:List Int} (h:BD p v t a f lo b):a<t.length/\(lo<b->b<=t.length):=by
 induction h with
 |bnd c _ _=>grind
 |con c _=>grind
 |@bra a f lo d b k c _ _ _ g e i j=>
  omega
theorem BD.cor {p:dd} {v:Int} {t:List XH} {a lo b:Nat} {f:List Int} (h:BD p v t a f lo b) (j:uz p f):∀{n:Nat} {s:List Bool},t.length<=n+a->s.length=t.length->(∀i:Nat,i=a\/(lo<=i/\i<b)->bC s i false=false)->
  (zp p v t n a f s).1=true/\(zp p v t n a f s).2.length=s.length/\∀i:Nat,i<t.length->bC (zp p v t n a f s).2 i false=(bC s i false||decide (i=a\/(lo<=i/\i<b))):=by
 have A:∀{s:List Bool} {a lo:Nat},a<s.length->∀i:Nat,bC (s.set a true) i false=(bC s i false||decide (i=a\/(lo<=i/\i<lo))):=λ{s a lo} h i=>by
  rw[ab4 h]
  grind
 induction h with
 |@bnd a f lo g u y=>
  intro n s B o C
  obtain⟨w,x⟩:=aeC (d:=zN) g
  obtain⟨n,rfl⟩:∃k,n=k+1:=⟨n - 1,by omega⟩
  have H:(acH p f).1=1:=rfl
  have m:adf (acH p f)=false:=by simp[adf,acH]
  have e:zp p v t (n+1) a f s=(true,s.set a true):=by
   simp_all[zp]
  grind
 |@con a f lo g u=>
  intro n s B o C
  obtain⟨w,x⟩:=aeC (d:=zN) g
  obtain⟨n,rfl⟩:∃k,n=k+1:=⟨n - 1,by omega⟩
  have q:lj p (dV f 1)≠0:=λh=>by
   have:=(ake j.c (arY j.l)).1 h
   grind[FC]
  have m:adf cfN=false:=by decide
  have e:zp p v t (n+1) a f s=(true,s.set a true):=by
   unfold zp
   rw[γm,w,if_neg (by simp_all),if_neg (by rw[m];simp),if_neg (by decide),if_pos (by decide),decide_eq_true q]
  grind
 |@bra a f lo G b k g u y E r z F D=>
  intro n s B o C
  obtain⟨w,x⟩:=aeC (d:=zN) g
  obtain⟨n,rfl⟩:∃k,n=k+1:=⟨n - 1,by omega⟩
  have J:=r.le
  have I:=z.le
  have M:=r.top.1
  have R:=(BD.bra g u y E r z).top.2 (by omega)
  have m:adf (An k lo)=false:=by simp[adf,An]
  have Q:arX t.length f a (An k lo)=false:=by
   show(decide ((2:Int)≠2)||decide (k<0)||decide ((f.length:Int)<=k)||decide (bC f k.toNat 0≠0)||decide ((lo:Int)=lo+1)||decide ((lo:Int)<=a)||decide ((lo:Int)+1<=a)||decide ((t.length:Int)<=lo)||decide ((t.length:Int)<=lo+1))=false
   grind
  obtain⟨K,P,N⟩:=D (j.set (by omega)) (n:=n) (s:=s.set a true) (by omega) (by rw[χ];exact o) λi b=>by
   grind
  obtain⟨S,O,L⟩:=F (j.set (by omega)) (n:=n) (s:=(zp p v t n lo (f.set k.toNat (-1)) (s.set a true)).2) (by omega) (by simp_all) λi b=>by
   grind
  have e:zp p v t (n+1) a f s=zp p v t n ((lo+1:Nat):Int) (f.set k.toNat 1) (zp p v t n lo (f.set k.toNat (-1)) (s.set a true)).2:=by
   simp_all[zp,An]
  grind
def arZ:fN:=⟨44,dd×List Int,.cons qa (.one (mA (.i .i64))),λa=>fO a.1=0/\a.2.length<=9223372036854775807,λa=> .si .i64 (qX a.1 a.2)⟩
def aGY (p:dd) (c:List Int):Nat->jY
 |6=> .inv Int (λi=>⟨[(7,.si .i64 (o5 ((oC p c).take i.toNat))),(23,.row .off (oC p c)),(24,.si .i64 (oC p c).length),(25,.si .i64 i)],[.cells p.ss 27 20 false]⟩)
   (λs=>iS s 25) (λi=>0<=i/\i<=(oC p c).length) (λi=>((oC p c).length - i).toNat) λ_ _=> .look
 |_=> .look
theorem h437:Holds Tryz.prog arZ:=by
 refine kh (L:=[alG,r79]) arZ (λa=>aGY a.1 a.2) (by grind[h133,h79]) ?_
 rintro⟨p,c⟩ ⟨f,A⟩
 simp only at f A
 refine gp (let a:=γa .i64;let f:=(0:Int);let k:=γu .i64 0;let m:=a (qX p c);let z:=decide (fO p≠f);let j:=Ξ cn.off (oC p c);let B:=(↑(oC p c).length:Int);let d:=(↑(oC p c).length:Int);let r:=a d;let g:=cJ.cells (dd.ss p) 27 20 false;(c.length<=9223372036854775807/\p.offers.length<=1000)/\((!EH p c)=true->k.same m)/\((!EH p c)=false->True/\(z=true->k.same m)/\(z=false->(((k.same (a (o5 []))/\j.same j/\(a B).same r/\k.same (a 0)/\True)/\g.same g/\True)/\f<=f/\f<=d)/\∀(x:Int),let w:=o5 (ω x.toNat (oC p c));let y:=w+(bC (oC p c) x.toNat cn.off.dflt).value;let b:=x+(1:Int);let e:=a b;f<=x/\x<=d->(decide (x<d)=true->f<=x/\x<B/\x.toNat<(oC p c).length/\ie .i64 y/\ie .i64 b/\(((a y).same (a (o5 (ω b.toNat (oC p c))))/\j.same j/\r.same r/\e.same e/\True)/\g.same g/\True)/\(f<=b/\b<=d)/\(d - b).toNat<(d - x).toNat)/\(decide (x<d)=false->(a w).same m)))) (by kernel_rfl) ?_
 simp only[vcs]
 have t:=uw f
 obtain⟨G,v⟩:=avk (c:=c) f
 have u:=t.2.1
 have q:EH p c=false->0=qX p c:=λh=>by
  unfold qX;rw[if_pos f];unfold oC;unfold EH at h;rw[Option.isSome_eq_false_iff,Option.isNone_iff_eq_none] at h;rw[h];rfl
 refine⟨⟨A,by omega⟩,q,λ_=>⟨λh=>absurd f h,λ_=>⟨⟨by simp[o5],by omega,by omega⟩,?_⟩⟩⟩
 rintro i ⟨n,D⟩
 refine⟨λo=>?_,λE=>?_⟩
 ·have H:=avj n o
  have F:=adG t (l:=(oC p c).take i.toNat) λx s=>v x (γi s)
  have C:=adG t (l:=(oC p c).take (i+1).toNat) λx s=>v x (γi s)
  grind
 ·rw[show i.toNat=(oC p c).length from by omega,τ]
  grind[qX]
def ar0:fN:=⟨127,Int×Int,.cons (sx .i64) (.one (sx .i64)),λa=>(-9223372036854775808<=a.1/\a.1<=9223372036854775807)/\0<a.2/\a.2<=9223372036854775807,λa=> .eW [XA (sY (decide (a.1<0)) (a.1.natAbs:Int) a.2),.si .i64 0]⟩
theorem h451:Holds Tryz.prog ar0:=by
 refine kh (L:=[amt,ajQ]) ar0 lk (by grind[h127,h151]) ?_
 rintro⟨n,d⟩ ⟨⟨u,w⟩,q,r⟩
 simp only at u w q r
 refine gp (let e:=(-9223372036854775808:Int);let h:=(9223372036854775807:Int);let k:=(0:Int);let l:=Ξ;let g:=ey (↑n.natAbs:Int);let b:=ey (↑d.natAbs:Int);let f:=cC (sY (!decide (n<k)==decide (d<k)) (bD g) (bD b));let a:=cn.i .u32;let j:=[γa .i64 0];let c:=cC (sY (decide (n<k)) (↑n.natAbs:Int) d);(e<=n/\n<=h)/\(e<=d/\d<=h)/\((cQ g/\cQ b)/\(g.length<=1000000000/\b.length<=1000000000)/\k<bD b)/\(SV.eW (γL [γv f.fst,l a f.snd.fst,l a f.snd.snd]::j)).same (SV.eW (γL [γv c.fst,l a c.snd.fst,l a c.snd.snd]::j))) (by kernel_rfl) ?_
 simp only[vcs]
 obtain⟨v,s,t⟩:=ri (show(0:Int)<=(n.natAbs:Int) by omega)
 obtain⟨o,l,h⟩:=ri (show(0:Int)<=(d.natAbs:Int) by omega)
 have x:=Lq (k:=2) (show(0:Int)<=(n.natAbs:Int) by omega) (by omega)
 have p:=Lq (k:=2) (show(0:Int)<=(d.natAbs:Int) by omega) (by omega)
 have e:(d.natAbs:Int)=d:=by omega
 have m:(!(decide (n<0)==decide (d<0)))=decide (n<0):=by
  grind
 rw[m,v,o,e];rw[e] at l h p
 repeat' refine And.intro ?_ ?_
 all_goals first|omega|exact s|exact l|exact t|exact h|rfl
def okL (x:List fi):Prop:=∃l,x=fL l/\x.length<=1000000/\∀q∈l,Sz 1000 q
theorem aGZ (q:Rat):q.den=1↔(cC q).2.2=[1]:=by
 have c:ey 1=[1]:=by decide
 constructor
 ·intro h
  show ey (q.den:Int)=[1]
  simp_all
 ·intro h
  have a:=(ri (show(0:Int)<=(q.den:Int) by omega)).1
  have b:ey (q.den:Int)=[1]:=h
  grind[bD]
theorem ar1 (q:Rat):okF (cC q)=true:=decide_eq_true (by rw[sy])
def ar2:fN:=⟨83,List fi,.one (mA sF),okL,λx=> .sb (aaJ (vL x))⟩
def aG0 (x:List fi):Nat->jY
 |2=> .inv Int (λi=>⟨[(5,.row sF x),(6,.si .i64 x.length),(7,.si .i64 i)],[]⟩)
   (λs=>iS s 7) (λi=>(0<=i/\i<=x.length)/\aaJ ((vL x).take i.toNat)=true) (λi=>(x.length - i).toNat) λ_ _=> .look
 |_=> .look
theorem h445:Holds Tryz.prog ar2:=by
 refine kh (L:=[aia]) ar2 aG0 (by grind[h407]) ?_
 rintro(x:List fi) ⟨l,v,G,H⟩
 refine gp (let c:=(0:Int);let d:=γa .i64;let f:=δe false;let h:=Ξ;let i:=(1:Int);let b:=(↑x.length:Int);let w:=d b;((((h sF x).same (h sF x)/\(d (↑x.length:Int)).same w/\(γu .i64 0).same (d 0)/\True)/\True)/\(c<=c/\c<=b)/\aaJ []=true)/\∀(a:Int),let p:=bC x a.toNat sF.dflt;let e:=p.snd.snd;let C:=(↑(γb e):Int);let r:=γv (aaJ (vL x));let g:=a+i;let o:=d g;let A:=λ(u:Bool) ↦decide (bC e 0 c≠i)=u;let D:=λ(u:Bool) ↦decide (C≠i)=u;let E:=λ(u:Bool) ↦(!okF (p.fst,p.snd.fst,e))=u;(c<=a/\a<=b)/\aaJ (ω a.toNat (vL x))=true->(decide (a<b)=true->c<=a/\a<(↑x.length:Int)/\a.toNat<x.length/\((cQ p.snd.fst/\cQ e)/\γb p.snd.fst<=1000000/\γb e<=1000000)/\(E true->(f).same r)/\(E false->(D true->(f).same r)/\(D false->c<=c/\c<C/\0<γb e/\(A true->(f).same r)/\(A false->ie .i64 g/\(((h sF x).same (h sF x)/\w.same w/\o.same o/\True)/\True)/\((c<=g/\g<=b)/\aaJ (ω g.toNat (vL x))=true)/\(b - g).toNat<(b - a).toNat))))/\(decide (a<b)=false->(δe true).same r)) (by kernel_rfl) ?_
 simp only[vcs];subst v;rw[AX] at G ⊢;rw[YB]
 have s:∀k:Nat,((k:Nat):Int).toNat=k:=λk=>γm k
 refine⟨⟨⟨by omega,by omega⟩,rfl⟩,?_⟩
 rintro i ⟨⟨z,T⟩,c⟩
 refine⟨λy=>?_,λy=>?_⟩
 ·have J:bC (fL l) i.toNat sF.dflt=cC (bC l i.toNat 0):=MB (by omega)
  have B:=pz (d:=0) (show i.toNat<l.length by omega)
  have N:=H _ B
  have K:=Xx (d:=0) z y
  rw[J]
  generalize bC l i.toNat 0=q at*
  obtain⟨_,⟨I,U,V⟩,⟨M,P,W⟩⟩:=QY q
  obtain⟨R,S⟩:=aaD N
  have m:=aGZ q
  have j:q.den≠1->false=aaJ l:=λQ=>by
   refine(Bool.eq_false_iff.2 λf=>?_).symm
   have:=γf.1 f _ B
   simp_all
  have t:=ar1 q
  refine⟨z,y,by omega,⟨⟨I,M⟩,by omega,by omega⟩,λh=>absurd t (by simp_all),λ_=>⟨λh=>j λf=>h ?_,λh=>⟨by omega,by omega,by omega,λf=>j λO=>f ?_,λf=>⟨by omega,⟨by omega,?_⟩,by omega⟩⟩⟩⟩
  ·simp_all
  ·rw[(m.1 O)];rfl
  ·rw[K]
   unfold aaJ at c ⊢;rw[List.all_append,c]
   have:q.den=1:=m.2 (by
    have n:(cC q).2.2.length=1:=by omega
    have F:bC (cC q).2.2 0 0=1:=Ψ.1 f
    match v:(cC q).2.2,n with
    |[x],_=>
     rw[v] at F
     have:x=1:=F
     rw[this])
   simp[this]
 grind
def ar4 (f:FuncId) (j:dd->List Int->Prop) (e:dd->List Int->SV):og where
 f:=f
 α:=dd×Nat×List Int
 put a:=[qa.put a.1,.ow 0 a.2.1 1]
 st a:=[.row (.i .i64) a.2.2 3 true]
 dec v o:=match v,o with
  |[p,.ow 0 n 1],[.row s l 3 true]=>match qa.dec p,AW s (.i .i64) l with
   |some p,some l=>some (p,n,l)
   |_,_=>none
  |_,_=>none
 ok v o a h:=by
  split at h
  ·split at h
   ·rename_i c d
    simp only[γ] at h;subst h
    obtain⟨rfl,k⟩:=KA d
    cases k
    exact⟨by simp only[gL,qa.ok _ _ c],rfl⟩
   ·cases h
  ·cases h
 inj a b c d:=by
  obtain⟨p,n,l⟩:=a
  obtain⟨m,q,r⟩:=b
  simp only[gL,Δ,and_true,SV.g,δ7,true_and] at c;simp only[gO,ψ,γy,cJ.g,Δ,ig.cells.injEq,and_true] at d;rw[qa.inj p m c.1,aaG (s:=.i .i64) d,c.2.1]
 dom a:=a.2.1=a.2.2.length/\j a.1 a.2.2
 res a:=e a.1 a.2.2
 out a:=[.row (.i .i64) a.2.2 3 true]
theorem anp {L:List fN} {W:List og} (c:og) (Λ:c.α->Nat->jY) (i:∀c∈W,sd Tryz.prog c) (e:∀c∈L,Holds Tryz.prog c)
  
  (h:∀a,c.dom a->Vc (ani (SR L (CN W) tyN mtN Da) (Λ a) (fG c.f) (c.put a) (c.st a) λv s=>v.same (c.res a)/\N1 s (c.out a))) (j:(Da c.f).isSome=true:=by kernel_rfl) (b:∀a,(c.put a).length=(fG c.f).params:=by intro _;kernel_rfl) (d:Xm c.f W=none:=by kernel_rfl):sd Tryz.prog c:=
 λa g=>aGO c acY i e (ahE j) b a d (h a g).out
noncomputable def ar5:og:=ar4 67 (λp f=>fO p=0/\f.length=p.offers.length) λp f=>XA (ξ (Gv p f))
def aG1 (p:dd) (f:List Int):Nat->jY
 |3=> .inv Int (λi=>⟨[(2,.ptr 1 0 20),(4,.ptr 2 0 3),(5,.si .i64 (Gv p (f.take i.toNat))),(8,.ow 0 f.length 1),(9,.si .i64 f.length),(10,.si .i64 i)],[.row (.i .i64) f 3 true,.cells p.ss 27 20 false,.cells [.bl false,.sc (.slice none 0 0),.sc (.slice none 0 0)] 70 3 false]⟩)
   (λs=>iS s 10) (λi=>0<=i/\i<=f.length) (λi=>(f.length - i).toNat) λ_ _=> .look
 |_=> .look
theorem h396w:sd Tryz.prog ar5:=by
 refine anp (L:=[r94]) (W:=[]) ar5 (λa=>aG1 a.1 a.2.2) (by simp) (by grind[h94]) ?_
 rintro⟨p,n,f⟩ ⟨F,⟨v,z⟩⟩
 simp only at F
 subst F
 simp only at v z
 refine gp (let a:=γa .i64;let n:=(0:Int);let v:=Ξ;let t:=γ5 1 0 20;let q:=γ5 2 0 3;let C:=γu .i64 0;let w:=γQ 0 f.length 1;let e:=(↑f.length:Int);let s:=a e;let j:=cJ.row (cn.i .i64) f 3 true;let r:=cJ.cells (dd.ss p) 27 20 false;let D:=SV.sc (Value.slice none 0 0);let y:=cJ.cells [δe false,D,D] 70 3 false;let d:=cn.i .u32;let h:=cC (ξ (Gv p f));(((t.same t/\q.same q/\C.same (a (Gv p []))/\w.same w/\s.same s/\C.same (a 0)/\True)/\j.same j/\r.same r/\y.same y/\True)/\n<=n/\n<=e)/\∀(x:Int),let b:=x+(1:Int);let m:=a b;let o:=decide (bC f x.toNat n=(1:Int));let c:=Gv p (ω x.toNat f);let k:=c+(bC p.offers x.toNat cn.off.dflt).value;let g:=cC (ξ c);let l:=λ(u:Int) ↦ie .i64 b/\((t.same t/\q.same q/\(a u).same (a (Gv p (ω b.toNat f)))/\w.same w/\s.same s/\m.same m/\True)/\j.same j/\r.same r/\y.same y/\True)/\(n<=b/\b<=e)/\(e - b).toNat<(e - x).toNat;n<=x/\x<=e->(decide (x<e)=true->f.length=f.length/\n<=x/\x<(↑f.length:Int)/\f.length=f.length/\x.toNat<f.length/\(o=true->n<=x/\x<(↑p.offers.length:Int)/\x.toNat<p.offers.length/\ie .i64 k/\l k)/\(o=false->l c))/\(decide (x<e)=false->((-9223372036854775808:Int)<=c/\c<=(9223372036854775807:Int))/\(γL [γv g.fst,v d g.snd.fst,v d g.snd.snd]).same (γL [γv h.fst,v d h.snd.fst,v d h.snd.snd])/\j.same j/\True)) (by kernel_rfl) ?_
 simp only[vcs]
 have E:=(uw v).2.1
 refine⟨⟨by simp[Gv,dV,rb,o5],by omega,by omega⟩,?_⟩
 rintro i ⟨A,J⟩
 have G:=@akc p v f i.toNat z
 refine⟨λB=>?_,λB=>?_⟩
 ·have K:=@ax5 p f i A B
  have I:=aaf v (i:=i) ⟨A,by omega⟩
  have H:(bC p.offers i.toNat cn.off.dflt).value=(oI p i).value:=rfl
  omega
 ·rw[show f.take i.toNat=f by rw[show i.toNat=f.length by omega,τ]] at G ⊢
  exact⟨by omega,rfl⟩
noncomputable def ar6:og:=ar4 64 (λp f=>(fO p=0/\f.length=p.offers.length)/\Fj f=true) λp f=> .eW [.agg [.row sF (aaI p f).1,.row sR (aaI p f).2.1],.row (.i .i64) (aaI p f).2.2,.si .i64 (if FC p f=true then 0 else 14)]
def ayx (p:dd) (f:List Int) (l:List Int) (m:List Off):jr:=[.row (.i .i64) f 3 true,.cells p.ss 27 20 false,.cells [.sc (.slice none 0 0),.sc (.slice none 0 0)] 110 2 false,.row (.i .i64) l 3 true,.row .off m 58 true]
def anq (p:dd) (f:List Int) (l:List Int) (m:List Off) (b a:Nat) (c:List (List fi×fi)) (g:List fi):jr:=ayx p f l m++[.cells p.ss 98 20 false,.cells [.ow 8 b 3,.ow 7 a 4] 110 2 false,.row sR c 167 false,.row sF g 70 false]
def aG2 (p:dd) (f:List Int):Nat->jY
 |9=> .inv Int (λi=>⟨[(2,.ptr 1 0 20),(4,.ptr 2 0 2),(8,.ow 3 (dV (f.take i.toNat) 0).length 1),(9,.ow 4 (dV (f.take i.toNat) 1).length 8),(36,.ow 0 f.length 1),(37,.si .i64 f.length),(38,.si .i64 i)],ayx p f (dV (f.take i.toNat) 0) ((dV (f.take i.toNat) 1).map (oI p))⟩)
   (λs=>iS s 38) (λi=>0<=i/\i<=f.length) (λi=>(f.length - i).toNat) λ_ _=> .look
 |24=> .inv Int (λj=>⟨[(2,.ptr 1 0 20),(4,.ptr 2 0 2),(8,.ow 3 (dV f 0).length 1),(9,.ow 4 (dV f 1).length 8),(12,.ptr 5 0 20),(13,.ptr 6 0 2),(71,.ow 3 (dV f 0).length 1),(72,.si .i64 (dV f 0).length),(73,.si .i64 j)],anq p f (dV f 0) ((dV f 1).map (oI p)) j.toNat 0 [] (aak p f j.toNat)⟩)
   (λs=>iS s 73) (λj=>0<=j/\j<=(dV f 0).length) (λj=>((dV f 0).length - j).toNat) λ_ _=> .look
 |29=> .inv Int (λr=>⟨[(2,.ptr 1 0 20),(4,.ptr 2 0 2),(8,.ow 3 (dV f 0).length 1),(9,.ow 4 (dV f 1).length 8),(12,.ptr 5 0 20),(13,.ptr 6 0 2),(91,.si .i64 (ki p)),(92,.si .i64 r)],anq p f (dV f 0) ((dV f 1).map (oI p)) (dV f 0).length r.toNat (abh p f r.toNat) (aak p f (dV f 0).length)⟩)
   (λs=>iS s 92) (λr=>0<=r/\r<=ki p) (λr=>(ki p - r).toNat) λr k=>match k with
   |33=> .inv Int (λj=>⟨[(2,.ptr 1 0 20),(4,.ptr 2 0 2),(8,.ow 3 (dV f 0).length 1),(9,.ow 4 (dV f 1).length 8),(12,.ptr 5 0 20),(13,.ptr 6 0 2),(16,.si .i64 r),(17,.si .i64 (nn p r - li p (((dV f 1).map (oI p)).take j.toNat) r)),(91,.si .i64 (ki p)),(92,.si .i64 r),(98,.ow 4 (dV f 1).length 8),(99,.si .i64 (dV f 1).length),(100,.si .i64 j)],anq p f (dV f 0) ((dV f 1).map (oI p)) (dV f 0).length r.toNat (abh p f r.toNat) (aak p f (dV f 0).length)⟩)
     (λs=>iS s 100) (λj=>0<=j/\j<=(dV f 1).length) (λj=>((dV f 1).length - j).toNat) λ_ _=> .look
   |39=> .inv Int (λj=>⟨[(2,.ptr 1 0 20),(4,.ptr 2 0 2),(8,.ow 3 (dV f 0).length 1),(9,.ow 4 (dV f 1).length 8),(12,.ptr 5 0 20),(13,.ptr 6 0 2),(16,.si .i64 r),(20,.ptr 9 0 4),(91,.si .i64 (ki p)),(92,.si .i64 r),(114,.ow 3 (dV f 0).length 1),(115,.si .i64 (dV f 0).length),(116,.si .i64 j)],anq p f (dV f 0) ((dV f 1).map (oI p)) (dV f 0).length r.toNat (abh p f r.toNat) (aak p f (dV f 0).length)++[.cells [.ow 10 j.toNat 3,.sb (cC ((nn p r - li p ((dV f 1).map (oI p)) r:Int):Rat)).1,.row (.i .u32) (cC ((nn p r - li p ((dV f 1).map (oI p)) r:Int):Rat)).2.1,.row (.i .u32) (cC ((nn p r - li p ((dV f 1).map (oI p)) r:Int):Rat)).2.2] 167 4 false,.row sF (abg p f r j.toNat) 70 false]⟩)
     (λs=>iS s 116) (λj=>0<=j/\j<=(dV f 0).length) (λj=>((dV f 0).length - j).toNat) λ_ _=> .look
   |_=> .look
 |_=> .look
theorem h394w:sd Tryz.prog ar6:=by
 refine anp (L:=[r79,r94,alz,ahJ,ahH,ahI]) (W:=[]) ar6 (λa=>aG2 a.1 a.2.2) (by simp) (by simpa using⟨h79,h94,h134,h156,h157,h158⟩) ?_
 rintro⟨p,n,f⟩ ⟨hn,⟨⟨hc,hl⟩,hr⟩⟩
 simp only at hn
 subst hn
 simp only at hc hl hr
 refine gp (let a:=γa .i64;let c:=(0:Int);let d:=cJ.row;let e:=cJ.cells;let g:=γQ;let h:=(-9223372036854775808:Int);let j:=Ξ;let k:=(1:Int);let l:=(9223372036854775807:Int);let m:=ie .i64;let n:=γu .i64;let o:=γ5;let q:=γL;let r:=SV.eW;let R:=SV.sc (Value.slice none 0 0);let L:=cn.i .i64;let ah:=r [q [j sF (aaI p f).fst,j sR (aaI p f).snd.fst],j L (aaI p f).snd.snd,a (if FC p f=true then c else(14:Int))];let s:=d L f 3 true;let I:=(↑f.length:Int);let ai:=p.offers.length;let ae:=(↑ai:Int);let t:=o 1 0 20;let v:=o 2 0 2;let Z:=g 0 f.length 1;let a6:=a I;let a7:=n 0;let aM:=[a p.supply.a0,a p.supply.a1,a p.supply.a2,a p.supply.a3,a p.supply.a4,a p.supply.a5,a p.opn.a0,a p.opn.a1,a p.opn.a2,a p.opn.a3,a p.opn.a4,a p.opn.a5,a p.cls.a0,a p.cls.a1,a p.cls.a2,a p.cls.a3,a p.cls.a4,a p.cls.a5,j L p.classes,j cn.off p.offers];let w:=e aM 27 20 false;let y:=e [R,R] 110 2 false;let aN:=d cn.off [] 58 true;let aj:=cn.off.dflt;let ay:=(↑p.classes.length:Int);let a8:=cn.i .u32;let a9:=cn.b.pair (a8.fK.pair a8.fK);let az:=a9.fK.pair a9;let H:=dV f c;let N:=H.length;let z:=g 3 N 1;let z25:Nat:=(dV f k).length;let A:=g 4 z25 8;let B:=o 5 0 20;let C:=o 6 0 2;let E:=(↑N:Int);let V:=a E;let F:=d L H 3 true;let P:=γg (oI p) (dV f k);let G:=d cn.off P 58 true;let D:=e aM 98 20 false;let af:=[g 7 0 4];let aO:=e (g 8 0 3::af) 110 2 false;let ak:=d sR [] 167 false;let aP:=d a9 [] 70 false;let J:=a (ki p);let al:=g 8 N 3;let aA:=aak p f N;let M:=d sF aA 70 false;let S:=(↑z25:Int);let am:=a S;let an:=o 9 0 4;let aQ:=g 10 0 3;let aR:=λ(u u_1:Int) (u_2:SV) ↦decide (u≠u_1)=true->(r [q [R,R],R,u_2]).same ah/\s.same s/\True;True/\aR (fO p) c (a (fO p))/\(decide (fO p≠c)=false->aR I ae (n 3)/\(decide (I≠ae)=false->(((t.same t/\v.same v/\(g 3 0 1).same (g 3 (dV [] c).length 1)/\(g 4 0 8).same (g 4 (dV [] k).length 8)/\Z.same Z/\a6.same a6/\a7.same (a 0)/\True)/\s.same s/\w.same w/\y.same y/\(d L [] 3 true).same (d L (dV [] c) 3 true)/\aN.same aN/\True)/\c<=c/\c<=I)/\∀(x:Int),let ao:=dV (ω x.toNat f) k;let aS:=g 4 ao.length 8;let O:=x+k;let ap:=ω O.toNat f;let aT:=g 4 (dV ap k).length 8;let aq:=a O;let aU:=g 3 (dV ap c).length 1;let aV:=d L (dV ap c) 3 true;let Q:=γg (oI p) ao;let aW:=d cn.off Q 58 true;let aX:=d cn.off (γg (oI p) (dV ap k)) 58 true;let aB:=bC f x.toNat c;let aY:=decide (aB=(-1:Int));let aa:=dV (ω x.toNat f) c;let ar:=aa.length;let aC:=d L aa 3 true;let aZ:=decide (aB=c);let b0:=aa.length+1;let b1:=decide (aB=k);let b2:=Q.length+1;let aD:=g 3 ar 1;let b3:=Q++[bC p.offers x.toNat aj];let bh:=aS.same aT/\Z.same Z/\a6.same a6/\aq.same aq/\True;let b4:=λ(u:Nat) (u_1:cJ) ↦m O/\((t.same t/\v.same v/\(g 3 u 1).same aU/\bh)/\s.same s/\w.same w/\y.same y/\u_1.same aV/\aW.same aX/\True)/\(c<=O/\O<=I)/\(I - O).toNat<(I - x).toNat;c<=x/\x<=I->(decide (x<I)=true->f.length=f.length/\c<=x/\x<(↑f.length:Int)/\f.length=f.length/\x.toNat<f.length/\(aY=true->b4 ar aC)/\(aY=false->(aZ=true->ar=aa.length/\b0*8<=140737488355328/\b0<=1000000000000/\b4 (aa++[x]).length (d L (aa++[x]) 3 true))/\(aZ=false->(b1=true->c<=x/\x<ae/\x.toNat<ai/\ao.length=Q.length/\b2*64<=140737488355328/\b2<=1000000000000/\m O/\((t.same t/\v.same v/\aD.same aU/\(g 4 b3.length 8).same aT/\Z.same Z/\a6.same a6/\aq.same aq/\True)/\s.same s/\w.same w/\y.same y/\aC.same aV/\(d cn.off b3 58 true).same aX/\True)/\(c<=O/\O<=I)/\(I - O).toNat<(I - x).toNat)/\(b1=false->(r [q [R,R],R,n 4]).same ah/\s.same s/\True))))/\(decide (x<I)=false->ao.length=Q.length/\(p.classes.length<=8/\Q.length<=1000/\∀(x:Off),x∈Q->c<=x.jV/\x.jV<ay/\x.want.ok=true)/\((!By p Q)=true->0=0/\0=0/\0=0/\(r [q [j a9 [],j az []],j L [],n 14]).same ah/\s.same s/\True)/\((!By p Q)=false->(((t.same t/\v.same v/\aD.same z/\aS.same A/\B.same B/\C.same C/\aD.same z/\(a (↑ar:Int)).same V/\a7.same (a 0)/\True)/\s.same s/\w.same w/\y.same y/\aC.same F/\aW.same G/\D.same D/\aO.same aO/\(d az [] 167 false).same ak/\aP.same (d sF (aak p f 0) 70 false)/\True)/\c<=c/\c<=E)/\∀(x:Int),let au:=bC H x.toNat c;let aE:=(bC p.offers au.toNat aj).value;let av:=aak p f x.toNat;let b5:=av.length+1;let W:=x+k;let b6:=a W;let aF:=cC (ξ aE);let b7:=av++[(aF.fst,aF.snd.fst,aF.snd.snd)];c<=x/\x<=E->(decide (x<E)=true->N=H.length/\c<=x/\x<(↑H.length:Int)/\N=H.length/\x.toNat<H.length/\c<=au/\au<ae/\au.toNat<ai/\(h<=aE/\aE<=l)/\1=1/\x.toNat=av.length/\b5*56<=140737488355328/\b5<=1000000000000/\m W/\((t.same t/\v.same v/\z.same z/\A.same A/\B.same B/\C.same C/\z.same z/\V.same V/\b6.same b6/\True)/\s.same s/\w.same w/\y.same y/\F.same F/\G.same G/\D.same D/\(e (g 8 b7.length 3::af) 110 2 false).same (e (g 8 W.toNat 3::af) 110 2 false)/\ak.same ak/\(d a9 b7 70 false).same (d sF (aak p f W.toNat) 70 false)/\True)/\(c<=W/\W<=E)/\(E - W).toNat<(E - x).toNat)/\(decide (x<E)=false->p.classes.length<=8/\(((t.same t/\v.same v/\z.same z/\A.same A/\B.same B/\C.same C/\J.same J/\a7.same (a 0)/\True)/\s.same s/\w.same w/\y.same y/\F.same F/\G.same G/\D.same D/\(e (g 8 x.toNat 3::af) 110 2 false).same (e (al::af) 110 2 false)/\ak.same (d sR (abh p f 0) 167 false)/\(d sF av 70 false).same M/\True)/\c<=c/\c<=ki p)/\∀(x:Int),let b8:=decide (x<ki p);let T:=e [al,g 7 x.toNat 4] 110 2 false;let ab:=abh p f x.toNat;let U:=d sR ab 167 false;let ac:=cC (ξ (nn p x - li p P x));let aG:=[γv ac.fst,j a8 ac.snd.fst,j a8 ac.snd.snd];let b9:=ab.length+1;let X:=x+k;let ba:=a X;c<=x/\x<=ki p->(b8=true->(p.classes.length<=8/\c<=x/\x<ki p)/\(((t.same t/\v.same v/\z.same z/\A.same A/\B.same B/\C.same C/\(a x).same (a x)/\(a (nn p x)).same (a (nn p x - li p [] x))/\J.same J/\(a x).same (a x)/\A.same A/\am.same am/\a7.same (a 0)/\True)/\s.same s/\w.same w/\y.same y/\F.same F/\G.same G/\D.same D/\T.same T/\U.same U/\M.same M/\True)/\c<=c/\c<=S)/\∀(x_1:Int),let aH:=bC P x_1.toNat aj;let aw:=nn p x - li p (ω x_1.toNat P) x;let bb:=aw - sV p x aH;let ad:=x_1+k;let K:=a x;let bc:=a ad;let aI:=cC (ξ aw);c<=x_1/\x_1<=S->(decide (x_1<S)=true->z25=P.length/\c<=x_1/\x_1<(↑P.length:Int)/\z25=P.length/\x_1.toNat<P.length/\(p.classes.length<=8/\c<=x/\x<ki p/\c<=aH.jV/\aH.jV<ay)/\m bb/\m ad/\((t.same t/\v.same v/\z.same z/\A.same A/\B.same B/\C.same C/\K.same K/\(a bb).same (a (nn p x - li p (ω ad.toNat P) x))/\J.same J/\K.same K/\A.same A/\am.same am/\bc.same bc/\True)/\s.same s/\w.same w/\y.same y/\F.same F/\G.same G/\D.same D/\T.same T/\U.same U/\M.same M/\True)/\(c<=ad/\ad<=S)/\(S - ad).toNat<(S - x_1).toNat)/\(decide (x_1<S)=false->(h<=aw/\aw<=l)/\(((t.same t/\v.same v/\z.same z/\A.same A/\B.same B/\C.same C/\K.same K/\an.same an/\J.same J/\K.same K/\z.same z/\V.same V/\a7.same (a 0)/\True)/\s.same s/\w.same w/\y.same y/\F.same F/\G.same G/\D.same D/\T.same T/\U.same U/\M.same M/\(e [aQ,γv aI.fst,j a8 aI.snd.fst,j a8 aI.snd.snd] 167 4 false).same (e (aQ::aG) 167 4 false)/\aP.same (d sF (abg p f x 0) 70 false)/\True)/\c<=c/\c<=E)/\∀(x_2:Int),let ax:=bC H x_2.toNat c;let aJ:=bC p.offers ax.toNat aj;let aK:=sV p x aJ;let ag:=abg p f x x_2.toNat;let bd:=ag.length+1;let Y:=x_2+k;let be:=a Y;let aL:=cC (ξ aK);let bf:=ag++[(aL.fst,aL.snd.fst,aL.snd.snd)];let bg:=ab++[(ag,ac.fst,ac.snd.fst,ac.snd.snd)];c<=x_2/\x_2<=E->(decide (x_2<E)=true->N=H.length/\c<=x_2/\x_2<(↑H.length:Int)/\N=H.length/\x_2.toNat<H.length/\c<=ax/\ax<ae/\ax.toNat<ai/\(p.classes.length<=8/\c<=x/\x<ki p/\c<=aJ.jV/\aJ.jV<ay)/\(h<=aK/\aK<=l)/\1=1/\x_2.toNat=ag.length/\bd*56<=140737488355328/\bd<=1000000000000/\m Y/\((t.same t/\v.same v/\z.same z/\A.same A/\B.same B/\C.same C/\K.same K/\an.same an/\J.same J/\K.same K/\z.same z/\V.same V/\be.same be/\True)/\s.same s/\w.same w/\y.same y/\F.same F/\G.same G/\D.same D/\T.same T/\U.same U/\M.same M/\(e (g 10 bf.length 3::aG) 167 4 false).same (e (g 10 Y.toNat 3::aG) 167 4 false)/\(d a9 bf 70 false).same (d sF (abg p f x Y.toNat) 70 false)/\True)/\(c<=Y/\Y<=E)/\(E - Y).toNat<(E - x_2).toNat)/\(decide (x_2<E)=false->x_2.toNat=ag.length/\1=1/\x.toNat=ab.length/\b9*80<=140737488355328/\b9<=1000000000000/\m X/\((t.same t/\v.same v/\z.same z/\A.same A/\B.same B/\C.same C/\J.same J/\ba.same ba/\True)/\s.same s/\w.same w/\y.same y/\F.same F/\G.same G/\D.same D/\(e [al,g 7 bg.length 4] 110 2 false).same (e [al,g 7 X.toNat 4] 110 2 false)/\(d az bg 167 false).same (d sR (abh p f X.toNat) 167 false)/\M.same M/\True)/\(c<=X/\X<=ki p)/\(ki p - X).toNat<(ki p - x).toNat)))/\(b8=false->N=aA.length/\x.toNat=ab.length/\N=H.length/\(r [q [j sF aA,j sR ab],j L H,a7]).same ah/\s.same s/\True))))))) (by kernel_rfl) ?_
 simp only[vcs]
 obtain⟨g1,g2,g3,g4,g5⟩:=uw hc
 have hoi:∀k:Nat,∀o:Int,o=k->(bC p.offers k cn.off.dflt)=oI p o:=λk o h=>by subst h;rfl
 have hw2:∀{a b:Nat},a=b->(γQ 3 a 1).same (γQ 3 b 1):=by rintro _ _ rfl;rfl
 have hw3:∀{a b:Nat},a=b->(γQ 4 a 8).same (γQ 4 b 8):=by rintro _ _ rfl;rfl
 have hrI:∀{x y:List Int},x=y->(cJ.row (.i .i64) x 3 true).same (cJ.row (.i .i64) y 3 true):=by rintro _ _ rfl;rfl
 have XI:∀{x y:List Off},x=y->(cJ.row .off x 58 true).same (cJ.row .off y 58 true):=by rintro _ _ rfl;rfl
 refine⟨λh=>absurd hc h,λ_=>⟨λh=>absurd (by rw[hl]) h,λ_=>⟨⟨⟨⟨hw2 rfl,hw3 rfl⟩,hrI rfl⟩,by omega,by omega⟩,?_⟩⟩⟩
 rintro i ⟨i0,i1⟩
 have htl:(f.take i.toNat).length<=160:=by rw[γd];omega
 have hd0:=@afw (f.take i.toNat) 0
 have hd1:=@afw (f.take i.toNat) 1
 have hm1:(γg (oI p) (dV (f.take i.toNat) 1)).length=(dV (f.take i.toNat) 1).length:=γs _
 refine⟨λhi=>?_,λhi=>?_⟩
 ·have hs0:=@akb f 0 i i0 hi
  have hs1:=@akb f 1 i i0 hi
  have aIf: -1<=bC f i.toNat 0/\bC f i.toNat 0<=1:=by
   have:=γf.1 hr _ (pz (d:=0) (show i.toNat<f.length by omega))
   simpa using this
  refine⟨i0,hi,by omega,λh1=>?_,λh1=>⟨λh2=>?_,λh2=>⟨λh3=>?_,λh3=>by omega⟩⟩⟩
  ·rw[if_neg (by omega),δN] at hs0 hs1
   rw[hs0,hs1]
   refine⟨?_,⟨⟨hw2 rfl,hw3 rfl⟩,hrI rfl,XI rfl⟩,?_,?_⟩<;>omega
  ·rw[if_pos (by omega)] at hs0
   rw[if_neg (by omega),δN] at hs1
   rw[hs0,hs1]
   refine⟨?_,?_,?_,⟨⟨hw2 rfl,hw3 rfl⟩,hrI rfl,XI rfl⟩,?_,?_⟩<;>omega
  ·rw[if_neg (by omega),δN] at hs0
   rw[if_pos (by omega)] at hs1
   rw[hs0,hs1,hoi i.toNat i (by omega),hm1]
   have e:γg (oI p) (dV (f.take i.toNat) 1)++[oI p i]=γg (oI p) (dV (f.take i.toNat) 1++[i]):=by rw[List.map_append];rfl
   rw[e,γs]
   refine⟨i0,?_,?_,rfl,?_,?_,?_,⟨⟨hw2 rfl,hw3 rfl⟩,hrI rfl,XI rfl⟩,?_,?_⟩<;>omega
 ·have htk:f.take i.toNat=f:=by rw[show i.toNat=f.length by omega,τ]
  rw[htk] at hd0 hd1 hm1 ⊢
  have hdl:∀d,(dV f d).length<=160:=λd=>by have:=@afw f d;omega
  refine⟨hm1.symm,⟨g1,by omega,λx hx=>?_⟩,λhb=>?_,λhb=>?_⟩
  ·obtain⟨k,hk,rfl⟩:=γk.1 hx
   have h1:=(Ui.1 hk).1
   have:=aaf hc (i:=k) (by omega)
   exact⟨this.1,this.2.1,this.2.2.1⟩
  ·have hb2:FC p f=false:=hb
   unfold aaI;simp only[hb2]
   exact⟨rfl,rfl,rfl⟩
  ·have hb2:FC p f=true:=hb
   have hG:aaI p f=((J1 (Qp p f)).1,((J1 (Qp p f)).2,dV f 0)):=by unfold aaI;rw[if_pos hb2]
   simp only[hb2,if_true,hG]
   have hfx:xJ p f:=⟨hc,hl,hb⟩
   have hrS:∀{x y:List fi},x=y->(cJ.row sF x 70 false).same (cJ.row sF y 70 false):=by rintro _ _ rfl;rfl
   have hrR:∀{x y:List (List fi×fi)},x=y->(cJ.row sR x 167 false).same (cJ.row sR y 167 false):=by rintro _ _ rfl;rfl
   have hc5:∀{a b c d:Nat},a=b->c=d->(cJ.cells [.ow 8 a 3,.ow 7 c 4] 110 2 false).same (cJ.cells [.ow 8 b 3,.ow 7 d 4] 110 2 false):=by rintro _ _ _ _ rfl rfl;rfl
   have hc8:∀{a b:Nat} {q q':Rat},a=b->q=q'->(cJ.cells [.ow 10 a 3,.sb (cC q).1,.row (.i .u32) (cC q).2.1,.row (.i .u32) (cC q).2.2] 167 4 false).same (cJ.cells [.ow 10 b 3,.sb (cC q').1,.row (.i .u32) (cC q').2.1,.row (.i .u32) (cC q').2.2] 167 4 false):=by rintro _ _ _ _ rfl rfl;rfl
   have hn0:=hdl 0
   have hn1:=hdl 1
   have hfree:∀j:Int,0<=j->j<(dV f 0).length->(0<=bC (dV f 0) j.toNat 0/\bC (dV f 0) j.toNat 0<p.offers.length):=λj h0 h1=>by
    have:=(Ui.1 (pz (d:=0) (show j.toNat<(dV f 0).length by omega))).1
    omega
   refine⟨⟨⟨⟨hw2 rfl,hw3 rfl,hw2 rfl,trivial⟩,hrI rfl,XI rfl,hrS rfl⟩,by omega,by omega⟩,?_⟩
   rintro j ⟨j0,j1⟩
   have hgl:=@arB p f j.toNat (by omega)
   refine⟨λhj=>?_,λhj=>?_⟩
   ·have hk:=hfree j j0 hj
    have ho:=aaf hc hk
    have hs:=@aGn p f j j0 hj
    have aG3:=@arB p f (j+1).toNat (by omega)
    rw[hoi _ (bC (dV f 0) j.toNat 0) (by omega)]
    simp only[SD]
    have e:aak p f j.toNat++[cC (ξ (oI p (bC (dV f 0) j.toNat 0)).value)]=aak p f (j+1).toNat:=hs.symm
    rw[e]
    refine⟨j0,hj,?_,hk.1,hk.2,?_,?_,?_,?_,?_,?_,⟨hc5 aG3 rfl,hrS rfl⟩,?_,?_⟩<;>omega
   ·rw[show j.toNat=(dV f 0).length by omega]
    have hnr:ki p=p.classes.length+12:=rfl
    refine⟨g1,⟨⟨hc5 rfl rfl,hrR rfl,hrS rfl⟩,by omega,by omega⟩,?_⟩
    rintro r ⟨r0,r1⟩
    have hrl:=@ax9 p f r.toNat
    refine⟨λhr2=>⟨⟨g1,r0,hr2⟩,⟨by simp[li],by omega,by omega⟩,?_⟩,λhr2=>?_⟩
    ·rintro k ⟨k0,k1⟩
     have hok:∀x∈(γg (oI p) (dV f 1)).take k.toNat,x.want.ok=true:=λx hx=>(amY hfx x (γi hx)).2.2.1
     have hsb:=@aeg p r ((γg (oI p) (dV f 1)).take k.toNat) hok
     have aG4:((γg (oI p) (dV f 1)).take k.toNat).length<=160:=by rw[γd];omega
     have hbb:=@ajO p hc r
     refine⟨λhk=>?_,λhk=>?_⟩
     ·have hx:=amY hfx _ (pz (d:=cn.off.dflt) (show k.toNat<(γg (oI p) (dV f 1)).length by omega))
      have hst:=@ao8 p r (γg (oI p) (dV f 1)) k cn.off.dflt k0 (by omega)
      have hcb:=@acA p r _ hx.2.2.1
      refine⟨?_,k0,?_,?_,?_,⟨g1,r0,hr2,hx.1,hx.2.1⟩,?_,?_,?_,?_,?_⟩<;>omega
     ·have e:(γg (oI p) (dV f 1)).take k.toNat=γg (oI p) (dV f 1):=Ω (by omega)
      rw[e] at hsb aG4 ⊢
      refine⟨by omega,⟨⟨hc8 rfl rfl,hrS rfl⟩,by omega,by omega⟩,?_⟩
      rintro l ⟨l0,l1⟩
      have hcl:=@ax8 p f r l.toNat (by omega)
      refine⟨λhl2=>?_,λhl2=>?_⟩
      ·have hk:=hfree l l0 hl2
       have ho:=aaf hc hk
       have hs:=@aGo p f r l l0 hl2
       have aG5:=@ax8 p f r (l+1).toNat (by omega)
       have hcb:=@acA p r _ ho.2.2.1
       rw[hoi _ (bC (dV f 0) l.toNat 0) (by omega)]
       simp only[SD]
       have e:abg p f r l.toNat++[cC (ξ (sV p r (oI p (bC (dV f 0) l.toNat 0))))]=abg p f r (l+1).toNat:=hs.symm
       rw[e]
       refine⟨l0,hl2,?_,hk.1,hk.2,?_,⟨g1,r0,hr2,ho.1,ho.2.1⟩,?_,?_,?_,?_,?_,⟨hc8 aG5 rfl,hrS rfl⟩,?_,?_⟩<;>omega
      ·rw[show l.toNat=(dV f 0).length by omega] at hcl ⊢
       have hs:=@aGp p f r r0
       have hrl2:=@ax9 p f (r+1).toNat
       simp only[SD]
       have e:abh p f r.toNat++[(abg p f r (dV f 0).length,cC (ξ (nn p r - li p (γg (oI p) (dV f 1)) r)))]=abh p f (r+1).toNat:=hs.symm
       rw[e]
       refine⟨hcl.symm,hrl.symm,?_,?_,?_,⟨hc5 rfl hrl2,hrR rfl⟩,?_,?_⟩<;>omega
    ·have e:r.toNat=mF p:=by
      show r.toNat=p.classes.length+12
      omega
     rw[e] at hrl ⊢;rw[ax6,ax7]
     refine⟨?_,hrl.symm.trans (by rw[ax7]),rfl,trivial,trivial⟩
     rw[<-ax6]
     exact(arB (Nat.le_refl _)).symm
noncomputable def ar8:og:=ar4 36 (λp f=>f.length<=1000000000000) λp f=> .eW [aGv p f,.si .i64 (DU p f)]
noncomputable def ayz (p:dd) (f:List Int) (x:List fi):jr:=
 [.row (.i .i64) f 3 true,.cells p.ss 27 20 false,.cells [.bl false,.bl false,.sc (.slice none 0 0),.sc (.slice none 0 0),.sc (.slice none 0 0),.sc (.slice none 0 0)] 74 6 false,.cells [.row sF (aaI p f).1,.row sR (aaI p f).2.1] 110 2 false,
  .cells [.si .i64 1,.sb (cC (om p f).value).1,.row (.i .u32) (cC (om p f).value).2.1,.row (.i .u32) (cC (om p f).value).2.2,.row sF (fL (DT (om p f) (nF f) (mF p))),.row sF (fL (s5 p f)),.row sF []] 114 7 false,.row sF x 70 true]
noncomputable def aG6 (p:dd) (f:List Int):Nat->jY
 |12=> .inv Int (λi=>⟨[(1,.ow 0 f.length 1),(2,.ptr 1 0 20),(4,.ptr 2 0 6),(8,.row (.i .i64) (dV f 0)),(10,.ptr 4 0 7),(11,.ow 5 f.length 3),(45,.ow 0 f.length 1),(46,.si .i64 f.length),(47,.si .i64 i)],ayz p f (Ai (fL (Q0 p f 0)) i.toNat (false,([],[])))⟩)
   (λs=>iS s 47) (λi=>0<=i/\i<=f.length) (λi=>(f.length - i).toNat) λ_ _=> .look
 |19=> .inv Int (λk=>⟨[(1,.ow 0 f.length 1),(2,.ptr 1 0 20),(4,.ptr 2 0 6),(10,.ptr 4 0 7),(11,.ow 5 f.length 3),(63,.row (.i .i64) (dV f 0)),(64,.si .i64 (dV f 0).length),(65,.si .i64 k)],ayz p f (fL (Q0 p f k.toNat))⟩)
   (λs=>iS s 65) (λk=>0<=k/\k<=(dV f 0).length) (λk=>((dV f 0).length - k).toNat) λ_ _=> .look
 |_=> .look
theorem h390w:sd Tryz.prog ar8:=by
 refine anp (L:=[arA,arx,r94,ajS]) (W:=[ar6,ar5]) ar8 (λa=>aG6 a.1 a.2.2) (by simpa using⟨h394w,h396w⟩) (by simpa using⟨h393,h395,h94,h129⟩) ?_
 rintro⟨p,n,f⟩ ⟨hn,hl:f.length<=1000000000000⟩
 simp only at hn
 subst hn
 refine gp (let c:=γa .i64;let d:=(0:Int);let e:=Ξ;let g:=cJ.row;let h:=(-9223372036854775808:Int);let j:=(9223372036854775807:Int);let k:=cJ.cells;let l:=(1:Int);let m:=γv;let n:=SV.eW;let o:=γ5;let q:=γL;let Q:=δe false;let v:=cn.i .u32;let a6:=cn.b.pair (v.fK.pair v.fK);let ah:=q [Q,Q,e v [],e v [],e a6 [],e a6 []];let ai:=[c (DU p f)];let a7:=n (q [m (Qy p f),m (SE p f).fst,e v (SE p f).snd.fst,e v (SE p f).snd.snd,e sF (adb p f),e sF (SG p f)]::ai);let R:=cn.i .i64;let t:=g R f 3 true;let aj:=decide (DU p f≠d);let ak:=decide ((if FC p f=true then d else(14:Int))≠d);let S:=γu .i64 0;let T:=(aaI p f).fst;let a8:=(aaI p f).snd.fst;let a9:=c 0;let s:=(↑f.length:Int);let w:=γQ 0 f.length 1;let y:=o 1 0 20;let z:=o 2 0 6;let J:=dV f d;let G:=e R J;let A:=o 4 0 7;let H:=γQ 5 f.length 3;let U:=c s;let B:=k [c p.supply.a0,c p.supply.a1,c p.supply.a2,c p.supply.a3,c p.supply.a4,c p.supply.a5,c p.opn.a0,c p.opn.a1,c p.opn.a2,c p.opn.a3,c p.opn.a4,c p.opn.a5,c p.cls.a0,c p.cls.a1,c p.cls.a2,c p.cls.a3,c p.cls.a4,c p.cls.a5,e R p.classes,e cn.off p.offers] 27 20 false;let V:=SV.sc (Value.slice none 0 0);let C:=k [Q,Q,V,V,V,V] 74 6 false;let D:=k [e sF T,e sR a8] 110 2 false;let al:=c 1;let aa:=γg (λ(r:List fi×fi) ↦(vL r.fst,fa r.snd)) a8;let P:=lpT (vL T,aa);let z31:Nat:=(vL T).length;let K:=cC (om p f).value;let W:=fL (DT (om p f) (nF f) (mF p));let am:=e sF (fL (s5 p f));let I:=k [al,m K.fst,e v K.snd.fst,e v K.snd.snd,e sF W,am,e sF []] 114 7 false;let X:=(false,[],[]);let Y:=fL (Q0 p f 0);let ab:=cC (ξ d);let ac:=cC (ξ l);let E:=(↑J.length:Int);let ad:=c E;let ae:=cC (ξ (Gv p f));let an:=(ae.fst,ae.snd.fst,ae.snd.snd);let ao:=(K.fst,K.snd.fst,K.snd.snd);let af:=cC (fa an+fa ao);let ap:=λ(u:Bool) (u_1:SV) ↦u=true->0=0/\0=0/\0=0/\0=0/\(n [ah,u_1]).same a7/\t.same t/\True;f.length=f.length/\f.length<=1000000000000/\(aj=true->0=0/\0=0/\0=0/\0=0/\(n (ah::ai)).same a7/\t.same t/\True)/\(aj=false->(f.length=f.length/\(fO p=d/\f.length=p.offers.length)/\Fj f=true)/\ap ak S/\(ak=false->(∃(a:Lp),(T,a8)=J1 a/\aj9 a)/\ap false a9/\(false=false->d<=s/\s<=s/\s*(56:Int)<=(140737488355328:Int)/\s<=(1000000000000:Int)/\(((w.same w/\y.same y/\z.same z/\(e R (aaI p f).snd.snd).same G/\A.same A/\(γQ 5 s.toNat 3).same H/\w.same w/\U.same U/\S.same a9/\True)/\t.same t/\B.same B/\C.same C/\D.same D/\(k [al,m (cC P.value).fst,e v (cC P.value).snd.fst,e v (cC P.value).snd.snd,e sF (fL (DT P z31 aa.length)),e sF (fL (MC P z31 aa.length z31)),e sF []] 114 7 false).same I/\(g a6 (δ s.toNat X) 70 true).same (g sF (Ai Y 0 X) 70 true)/\True)/\d<=d/\d<=s)/\∀(x:Int),let L:=x+l;let aq:=c L;let M:=Ai Y x.toNat X;let ar:=decide (bC f x.toNat d=l);let N:=M.set x.toNat (ab.fst,ab.snd.fst,ab.snd.snd);let au:=λ(u:List (Bool×List Int×List Int)) ↦ie .i64 L/\((w.same w/\y.same y/\z.same z/\G.same G/\A.same A/\H.same H/\w.same w/\U.same U/\aq.same aq/\True)/\t.same t/\B.same B/\C.same C/\D.same D/\I.same I/\(g sF u 70 true).same (g sF (Ai Y L.toNat X) 70 true)/\True)/\(d<=L/\L<=s)/\(s - L).toNat<(s - x).toNat;d<=x/\x<=s->(decide (x<s)=true->f.length=f.length/\d<=x/\x<(↑f.length:Int)/\f.length=f.length/\x.toNat<f.length/\(h<=d/\d<=j)/\f.length=M.length/\d<=x/\x<(↑M.length:Int)/\f.length=M.length/\x.toNat<M.length/\(ar=true->(h<=l/\l<=j)/\f.length=N.length/\d<=x/\x<(↑N.length:Int)/\f.length=N.length/\x.toNat<N.length/\au (N.set x.toNat (ac.fst,ac.snd.fst,ac.snd.snd)))/\(ar=false->au N))/\(decide (x<s)=false->(((w.same w/\y.same y/\z.same z/\A.same A/\H.same H/\G.same G/\(c (↑J.length:Int)).same ad/\S.same a9/\True)/\t.same t/\B.same B/\C.same C/\D.same D/\I.same I/\(g sF M 70 true).same (g sF Y 70 true)/\True)/\d<=d/\d<=E)/\∀(x:Int),let F:=fL (Q0 p f x.toNat);let Z:=bC J x.toNat d;let O:=x+l;let av:=c O;let ag:=bC W x.toNat sF.dflt;d<=x/\x<=E->(decide (x<E)=true->d<=x/\x<(↑J.length:Int)/\x.toNat<J.length/\d<=x/\x<(↑W.length:Int)/\x.toNat<W.length/\f.length=F.length/\d<=Z/\Z<(↑F.length:Int)/\f.length=F.length/\Z.toNat<F.length/\ie .i64 O/\((w.same w/\y.same y/\z.same z/\A.same A/\H.same H/\G.same G/\ad.same ad/\av.same av/\True)/\t.same t/\B.same B/\C.same C/\D.same D/\I.same I/\(g sF (F.set Z.toNat (ag.fst,ag.snd.fst,ag.snd.snd)) 70 true).same (g sF (fL (Q0 p f O.toNat)) 70 true)/\True)/\(d<=O/\O<=E)/\(E - O).toNat<(E - x).toNat)/\(decide (x<E)=false->(f.length=f.length/\fO p=d/\f.length=p.offers.length)/\(lT an/\lT ao)/\f.length=F.length/\f.length=F.length/\(n [q [δe true,m af.fst,e v af.snd.fst,e v af.snd.snd,am,e sF F],S]).same a7/\t.same t/\True)))))) (by kernel_rfl) ?_
 simp only[vcs]
 have hz:Qy p f=false->(γL [δe false,δe false,Ξ (cn.i IntKind.i64) [],Ξ (cn.i IntKind.i64) [],Ξ (cn.i IntKind.i64) [],Ξ (cn.i IntKind.i64) []]).same
   (γL [γv (Qy p f),γv (SE p f).fst,Ξ (cn.i IntKind.u32) (SE p f).snd.fst,Ξ (cn.i IntKind.u32) (SE p f).snd.snd,Ξ sF (adb p f),Ξ sF (SG p f)]):=λh=>by
  unfold SE adb SG;simp only[h];rfl
 refine⟨hl,λh=>hz (by unfold Qy;rw[decide_eq_false h];rfl),λh=>?_⟩
 have hx0:DU p f=0:=Ψ.1 h
 have hcl:fO p=0/\f.length=p.offers.length/\Fj f=true:=by
  unfold DU at hx0;split at hx0
  ·rename_i h1;exact absurd hx0 h1
  ·rename_i h1
   split at hx0
   ·cases hx0
   ·rename_i h2
    split at hx0
    ·rename_i h3;exact⟨Ψ.1 h1,Ψ.1 h2,h3⟩
    ·cases hx0
 obtain⟨hc,hln,hr⟩:=hcl
 refine⟨⟨⟨hc,hln⟩,hr⟩,λh1=>⟨hz ?_,hx0.symm⟩,λh1=>?_⟩
 ·have hb:FC p f=false:=by
   cases hb:FC p f with
   |false=>rfl
   |true=>rw[hb] at h1;exact absurd rfl h1
  unfold Qy;rw[hb,Bool.and_false]
 ·have hb:FC p f=true:=by
   cases hb:FC p f with
   |true=>rfl
   |false=>rw[hb] at h1;exact absurd (by simp) h1
  have hfx:xJ p f:=⟨hc,hln,hb⟩
  have hG:aaI p f=((J1 (Qp p f)).1,((J1 (Qp p f)).2,dV f 0)):=by unfold aaI;rw[if_pos hb]
  have hok:Qy p f=true:=by unfold Qy;rw[hb,decide_eq_true hx0];rfl
  have h0:(ξ 0:Rat)=0:=rfl
  have h1':(ξ 1:Rat)=1:=rfl
  simp only[hG,ax2,ax3,h0,h1',SD]
  have e1:(Qp p f).1.length=nF f:=by
   show((dV f 0).map _).length=_
   rw[γs]
  have e2:(Qp p f).2.length=mF p:=by
   show((rb (mF p)).map _).length=_
   rw[γs,Qk]
  have arz:((Qp p f).1,(Qp p f).2)=Qp p f:=rfl
  simp only[arz,aGr,e1,e2]
  have hrT:∀{x y:List fi},x=y->(cJ.row sF x 70 true).same (cJ.row sF y 70 true):=by rintro _ _ rfl;rfl
  have hs0:=@air p f 0
  have hf0:=@AX (Q0 p f 0)
  have hpt:=@am2 (om p f) (nF f) (mF p)
  have hfp:=@AX (DT (om p f) (nF f) (mF p))
  have hcast:∀k:Nat,((k:Nat):Int).toNat=k:=λk=>γm k
  have hnf:nF f=(dV f 0).length:=rfl
  have hdl0:=@afw f 0
  refine⟨⟨Qp p f,rfl,aGq hfx⟩,λh=>(by cases h),λ_=>⟨by omega,by omega,by omega,by omega,⟨⟨⟨trivial,by rw[hcast];rfl⟩,rfl,hrT (by rw[aj3,hf0,hs0,hcast])⟩,by omega,by omega⟩,?_⟩⟩
  rintro i ⟨i0,i1⟩
  have hru:=@aj2 (fL (Q0 p f 0)) i.toNat (false,([],[])) (by omega)
  refine⟨λhi=>?_,λhi=>?_⟩
  ·have hv:bC (fL (Q0 p f 0)) i.toNat (false,([],[]))=cC (if bC f i.toNat 0=1 then 1 else 0):=by rw[MB (by omega),aGu (by omega)]
   have hset:∀x:fi,x=cC (if bC f i.toNat 0=1 then 1 else 0)->(Ai (fL (Q0 p f 0)) i.toNat (false,([],[]))).set i.toNat x=Ai (fL (Q0 p f 0)) (i+1).toNat (false,([],[])):=λx hx=>by
    have:=aj7 (d:=fL (Q0 p f 0)) (j:=i.toNat) (z:=(false,([],[]))) (x:=x) (by omega) (hx.trans hv.symm)
    rw[show(i+1).toNat=i.toNat+1 by omega]
    exact this
   rw[χ]
   refine⟨i0,hi,by omega,by omega,by omega,i0,by omega,by omega,by omega,λh1=>⟨by omega,by omega,i0,by omega,by omega,by omega,by omega,hrT ?_,by omega,by omega⟩,λh1=>⟨by omega,hrT ?_,by omega,by omega⟩⟩
   ·rw[List.set_set]
    exact hset _ (by rw[if_pos h1])
   ·exact hset _ (by rw[if_neg h1])
  ·have hi2:i.toNat=(fL (Q0 p f 0)).length:=by omega
   rw[hi2,aj6]
   refine⟨⟨hrT rfl,by omega,by omega⟩,?_⟩
   rintro k ⟨k0,k1⟩
   have hsk:=@air p f k.toNat
   have hfk:=@AX (Q0 p f k.toNat)
   refine⟨λhk=>?_,λhk=>?_⟩
   ·have hm:=(Ui.1 (pz (d:=0) (show k.toNat<(dV f 0).length by omega))).1
    have hv:bC (fL (DT (om p f) (nF f) (mF p))) k.toNat sF.dflt=cC (bC (DT (om p f) (nF f) (mF p)) k.toNat 0):=MB (by omega)
    have hst:=@aGt p f k.toNat (by omega)
    rw[hv]
    refine⟨k0,hk,by omega,k0,by omega,by omega,by omega,hm.1,by omega,by omega,by omega,by omega,hrT ?_,by omega,by omega⟩
    rw[aip,show(k+1).toNat=k.toNat+1 by omega,hst]
   ·have hk2:k.toNat=nF f:=by omega
    rw[hk2] at hsk hfk ⊢
    have hab:=@akc p hc f f.length hln
    rw[τ] at hab
    have hsa:Sz 1 ((Gv p f:Int):Rat):=by
     unfold Sz;rw[Rat.num_intCast,Rat.den_intCast];omega
    have hsv:Sz 1000000 (om p f).value:=by
     have:=(amZ hfx).szT (abI hfx).1
     exact this.2.2.2
    refine⟨⟨hc,hln⟩,⟨uf hsa (by omega),uf hsv (by omega)⟩,by omega,by omega,?_,hx0.symm⟩
    unfold SE adb SG;simp only[hok,if_true,sy];rfl
def ar9:og:=anj 84 (List fi) (.one (mA sF)) (λx a=>zo x/\okL a/\a.length=x.p.offers.length) (λx a=>Xh.put ⟨uy (vL a),o5 ((uy (vL a)).map (oI x.p))⟩) λx _=>x
def SH (x:List Rat) (k:Nat):List Int:=(rb k).filter λi=>decide (0<bC x i.toNat 0)
def YD (p:dd) (l:List Int):Int:=o5 (l.map (oI p))
def aG8 (x:pZ) (a:List fi):Nat->jY
 |3=>match x.en with
  |none=> .inv Int (λi=>⟨[(0,.ptr 0 0 28),(4,.ptr 3 0 2),(5,.ptr 5 0 2),(10,.row sF a),(11,.si .i64 a.length),(12,.si .i64 i)],
    x.aiu++[.cells [.sc (.slice none 0 0),.si .i64 0] 37 2 false,.row (.i .i64) (SH (vL a) i.toNat) 3 true,.cells [.ow 4 (SH (vL a) i.toNat).length 1,.si .i64 (YD x.p (SH (vL a) i.toNat))] 37 2 false]⟩)
    (λs=>iS s 12) (λi=>0<=i/\i<=a.length) (λi=>(a.length - i).toNat) λ_ _=> .look
  |some m=> .inv Int (λi=>⟨[(0,.ptr 0 0 28),(4,.ptr 4 0 2),(5,.ptr 6 0 2),(10,.row sF a),(11,.si .i64 a.length),(12,.si .i64 i)],
    x.aiv m++[.cells [.sc (.slice none 0 0),.si .i64 0] 37 2 false,.row (.i .i64) (SH (vL a) i.toNat) 3 true,.cells [.ow 5 (SH (vL a) i.toNat).length 1,.si .i64 (YD x.p (SH (vL a) i.toNat))] 37 2 false]⟩)
    (λs=>iS s 12) (λi=>0<=i/\i<=a.length) (λi=>(a.length - i).toNat) λ_ _=> .look
 |_=> .look
theorem ayA {x:List Rat} {i:Int} (i0:0<=i):SH x (i+1).toNat=if 0<bC x i.toNat 0 then SH x i.toNat++[i] else SH x i.toNat:=by
 unfold SH
 rw[show(i+1).toNat=i.toNat+1 by omega,agu,List.filter_append,Int.toNat_of_nonneg i0]
 grind
theorem ayB {p:dd} {x:List Rat} {k:Nat} (a:fO p=0) (g:k<=p.offers.length):(SH x k).length<=160/\0<=YD p (SH x k)/\YD p (SH x k)<=160000000:=by
 have e:(SH x k).length<=k:=by
  have:=List.length_filter_le (λi:Int=>decide (0<bC x i.toNat 0)) (rb k)
  rw[Qk] at this;exact this
 have c:=adG (uw a) (l:=(SH x k).map (oI p)) λy b=>by
  obtain⟨i,d,rfl⟩:=γk.1 b
  have:=adO.1 (List.mem_filter.1 d).1
  exact pz (by omega)
 rw[γs] at c
 have f:=(uw a).2.1
 grind[YD]
theorem ayC {p:dd} {l:List Int} {i:Int}:YD p (l++[i])=YD p l+(oI p i).value:=by
 simp_all[YD,alP,o5]
theorem h446:sd Tryz.prog ar9:=by
 refine anp (L:=[r99]) (W:=[]) ar9 (λa=>aG8 a.1 a.2) (by simp) (by grind[h99]) ?_
 rintro⟨⟨p,ch,U,F,en,k1,k2,M,a6,a7,fx⟩,a⟩ ⟨V,⟨l,hx,a8,hz⟩,hl⟩
 simp only at V hx a8 hl
 subst hx
 have Z:fO p=0:=V.f.c
 have b0:=(uw Z).2.1
 have b1:=@AX l
 have hl:(fL l).length=p.offers.length:=hl
 cases en with
 |none=>
  refine gp (let a:=γa .i64;let c:=cJ.cells;let d:=cJ.row;let f:=(0:Int);let h:=Ξ;let m:=γQ;let v:=γ5;let K:=v 0 0 28;let I:=v 3 0 2;let J:=v 5 0 2;let T:=(↑(fL l).length:Int);let r:=(↑(fL l).length:Int);let Q:=a r;let N:=γu .i64 0;let w:=a 0;let k:=cn.i .i64;let A:=c [a p.supply.a0,a p.supply.a1,a p.supply.a2,a p.supply.a3,a p.supply.a4,a p.supply.a5,a p.opn.a0,a p.opn.a1,a p.opn.a2,a p.opn.a3,a p.opn.a4,a p.opn.a5,a p.cls.a0,a p.cls.a1,a p.cls.a2,a p.cls.a3,a p.cls.a4,a p.cls.a5,h k p.classes,h cn.off p.offers,h k ch,a U,γv F,ζx (Fn.func 45) [] [],m 1 k1 5,m 2 k2 1,a M,a a6] 84 28 false;let g:=d sf a7 139 true;let j:=d k fx 3 true;let o:=SV.sc (Value.slice none 0 0);let z:=c [o,w] 37 2 false;let s:=SH (vL (fL l)) 0;(((K.same K/\I.same I/\J.same J/\(h sF (fL l)).same (h sF (fL l))/\(a T).same Q/\N.same w/\True)/\A.same A/\g.same g/\j.same j/\(c [o,N] 37 2 false).same z/\(d k [] 3 true).same (d k s 3 true)/\(c [m 4 0 1,N] 37 2 false).same (c [m 4 s.length 1,a (YD p s)] 37 2 false)/\True)/\f<=f/\f<=r)/\∀(x:Int),let n:=x+(1:Int);let q:=a n;let B:=SH (vL (fL l)) n.toNat;let t:=bC (fL l) x.toNat sF.dflt;let D:=(t.fst,t.snd.fst,t.snd.snd);let b:=SH (vL (fL l)) x.toNat;let e:=b.length+1;let E:=YD p b+(bC p.offers x.toNat cn.off.dflt).value;let C:=λ(u:cJ) (O:Nat) (S:Int) ↦ie .i64 n/\((K.same K/\I.same I/\J.same J/\(h sF (fL l)).same (h sF (fL l))/\Q.same Q/\q.same q/\True)/\A.same A/\g.same g/\j.same j/\z.same z/\u.same (d k B 3 true)/\(c [m 4 O 1,a S] 37 2 false).same (c [m 4 B.length 1,a (YD p B)] 37 2 false)/\True)/\(f<=n/\n<=r)/\(r - n).toNat<(r - x).toNat;let H:=λ(u:Bool) ↦decide (f<HW (fa D))=u;f<=x/\x<=r->(decide (x<r)=true->f<=x/\x<T/\x.toNat<(fL l).length/\lT D/\(H true->1=1/\b.length=b.length/\e*8<=140737488355328/\e<=1000000000000/\f<=x/\x<(↑p.offers.length:Int)/\x.toNat<p.offers.length/\ie .i64 E/\C (d k (b++[x]) 3 true) (b++[x]).length E)/\(H false->C (d k b 3 true) b.length (YD p b)))/\(decide (x<r)=false->b.length=b.length/\b.length=b.length/\b.length=b.length/\(γL [h k b,a (YD p b)]).same (γL [h k (uy (vL (fL l))),a (o5 (γg (oI p) (uy (vL (fL l)))))])/\A.same A/\g.same g/\j.same j/\True)) (by kernel_rfl) ?_
  simp only[vcs]
  have P:∀{x y:List Int},x=y->(cJ.row (.i .i64) x 3 true).same (cJ.row (.i .i64) y 3 true):=by rintro _ _ rfl;rfl
  have a9:∀{x y:List Int} {v w:Int},x=y->v=w->(cJ.cells [.ow 4 x.length 1,.si .i64 v] 37 2 false).same (cJ.cells [.ow 4 y.length 1,.si .i64 w] 37 2 false):=by rintro _ _ _ _ rfl rfl;rfl
  refine⟨⟨⟨rfl,P rfl,rfl⟩,by omega,by omega⟩,?_⟩
  rintro i ⟨Y,i1⟩
  have hb:=@ayB p (vL (fL l)) i.toNat Z (by omega)
  refine⟨λhi=>?_,λhi=>?_⟩
  ·have hv:bC (fL l) i.toNat sF.dflt=cC (bC l i.toNat 0):=MB (by omega)
   have hq:=hz _ (pz (d:=0) (show i.toNat<l.length by omega))
   have ho:=(aaf Z (i:=i) (by omega)).2.2.2
   have G:(bC p.offers i.toNat cn.off.dflt).value=(oI p i).value:=rfl
   have R:=@ayA (vL (fL l)) i Y
   rw[hv,G];rw[YB] at R hb ⊢;simp only[SD,sy,agF]
   refine⟨Y,hi,by omega,uf hq (by omega),λh=>?_,λh=>?_⟩
   ·rw[if_pos h] at R
    rw[R,ayC]
    grind
   grind
  ·rw[show i.toNat=(vL (fL l)).length by grind[YB]]
   rfl
 |some m=>
  refine gp (let a:=γa .i64;let c:=cJ.cells;let d:=cJ.row;let f:=(0:Int);let h:=Ξ;let v:=γQ;let w:=γ5;let K:=w 0 0 28;let I:=w 4 0 2;let J:=w 6 0 2;let T:=(↑(fL l).length:Int);let r:=(↑(fL l).length:Int);let Q:=a r;let N:=γu .i64 0;let y:=a 0;let k:=cn.i .i64;let A:=c [a p.supply.a0,a p.supply.a1,a p.supply.a2,a p.supply.a3,a p.supply.a4,a p.supply.a5,a p.opn.a0,a p.opn.a1,a p.opn.a2,a p.opn.a3,a p.opn.a4,a p.opn.a5,a p.cls.a0,a p.cls.a1,a p.cls.a2,a p.cls.a3,a p.cls.a4,a p.cls.a5,h k p.classes,h cn.off p.offers,h k ch,a U,γv F,ζx (Fn.func 53) [] [w 1 0 1],v 2 k1 5,v 3 k2 1,a M,a a6] 84 28 false;let g:=c [a m] 2 1 false;let j:=d sf a7 139 true;let o:=d k fx 3 true;let z:=SV.sc (Value.slice none 0 0);let s:=c [z,y] 37 2 false;let C:=SH (vL (fL l)) 0;(((K.same K/\I.same I/\J.same J/\(h sF (fL l)).same (h sF (fL l))/\(a T).same Q/\N.same y/\True)/\A.same A/\g.same g/\j.same j/\o.same o/\(c [z,N] 37 2 false).same s/\(d k [] 3 true).same (d k C 3 true)/\(c [v 5 0 1,N] 37 2 false).same (c [v 5 C.length 1,a (YD p C)] 37 2 false)/\True)/\f<=f/\f<=r)/\∀(x:Int),let q:=x+(1:Int);let B:=a q;let t:=SH (vL (fL l)) q.toNat;let D:=bC (fL l) x.toNat sF.dflt;let b:=(D.fst,D.snd.fst,D.snd.snd);let e:=SH (vL (fL l)) x.toNat;let E:=e.length+1;let X:=YD p e+(bC p.offers x.toNat cn.off.dflt).value;let H:=λ(u:cJ) (O:Nat) (S:Int) ↦ie .i64 q/\((K.same K/\I.same I/\J.same J/\(h sF (fL l)).same (h sF (fL l))/\Q.same Q/\B.same B/\True)/\A.same A/\g.same g/\j.same j/\o.same o/\s.same s/\u.same (d k t 3 true)/\(c [v 5 O 1,a S] 37 2 false).same (c [v 5 t.length 1,a (YD p t)] 37 2 false)/\True)/\(f<=q/\q<=r)/\(r - q).toNat<(r - x).toNat;let n:=λ(u:Bool) ↦decide (f<HW (fa b))=u;f<=x/\x<=r->(decide (x<r)=true->f<=x/\x<T/\x.toNat<(fL l).length/\lT b/\(n true->1=1/\e.length=e.length/\E*8<=140737488355328/\E<=1000000000000/\f<=x/\x<(↑p.offers.length:Int)/\x.toNat<p.offers.length/\ie .i64 X/\H (d k (e++[x]) 3 true) (e++[x]).length X)/\(n false->H (d k e 3 true) e.length (YD p e)))/\(decide (x<r)=false->e.length=e.length/\e.length=e.length/\e.length=e.length/\(γL [h k e,a (YD p e)]).same (γL [h k (uy (vL (fL l))),a (o5 (γg (oI p) (uy (vL (fL l)))))])/\A.same A/\g.same g/\j.same j/\o.same o/\True)) (by kernel_rfl) ?_
  simp only[vcs]
  have P:∀{x y:List Int},x=y->(cJ.row (.i .i64) x 3 true).same (cJ.row (.i .i64) y 3 true):=by rintro _ _ rfl;rfl
  have a9:∀{x y:List Int} {v w:Int},x=y->v=w->(cJ.cells [.ow 5 x.length 1,.si .i64 v] 37 2 false).same (cJ.cells [.ow 5 y.length 1,.si .i64 w] 37 2 false):=by rintro _ _ _ _ rfl rfl;rfl
  refine⟨⟨⟨rfl,P rfl,rfl⟩,by omega,by omega⟩,?_⟩
  rintro i ⟨Y,i1⟩
  have hb:=@ayB p (vL (fL l)) i.toNat Z (by omega)
  refine⟨λhi=>?_,λhi=>?_⟩
  ·have hv:bC (fL l) i.toNat sF.dflt=cC (bC l i.toNat 0):=MB (by omega)
   have hq:=hz _ (pz (d:=0) (show i.toNat<l.length by omega))
   have ho:=(aaf Z (i:=i) (by omega)).2.2.2
   have G:(bC p.offers i.toNat cn.off.dflt).value=(oI p i).value:=rfl
   have R:=@ayA (vL (fL l)) i Y
   rw[hv,G];rw[YB] at R hb ⊢;simp only[SD,sy,agF]
   refine⟨Y,hi,by omega,uf hq (by omega),λh=>?_,λh=>?_⟩
   ·rw[if_pos h] at R
    rw[R,ayC]
    grind
   grind
  ·rw[show i.toNat=(vL (fL l)).length by grind[YB]]
   rfl
def asa:fN:=⟨85,List fi,.one (mA sF),okL,λx=> .eW [.si .i64 ((QJ (vL x)).getD 0),.sb (QJ (vL x)).isSome]⟩
def SI:Option (Int×Rat)->fi
 |none=>(false,([],[]))
 |some (_,q)=>cC q
def brI:Option (Int×Rat)->Int
 |none=>0
 |some (i,_)=>i
def aG9 (x:List fi):Nat->jY
 |6=> .inv Int (λi=>⟨[(4,.ptr 0 0 3),(6,.ptr 1 0 3),(7,.ptr 2 0 2),(8,.ptr 3 0 3),(17,.row sF x),(18,.si .i64 x.length),(19,.si .i64 i)],
   [.cells [.sb (cC (sY false 1 2)).1,.row (.i .u32) (cC (sY false 1 2)).2.1,.row (.i .u32) (cC (sY false 1 2)).2.2] 70 3 false,
    .cells [.sb (cC ((1:Int):Rat)).1,.row (.i .u32) (cC ((1:Int):Rat)).2.1,.row (.i .u32) (cC ((1:Int):Rat)).2.2] 70 3 false,
    .cells [.sb (QF (vL x) i.toNat).isSome,.si .i64 (brI (QF (vL x) i.toNat))] 197 2 false,
    .cells [.sb (SI (QF (vL x) i.toNat)).1,.row (.i .u32) (SI (QF (vL x) i.toNat)).2.1,.row (.i .u32) (SI (QF (vL x) i.toNat)).2.2] 70 3 false,.dead,.dead]⟩)
   (λs=>iS s 19) (λi=>0<=i/\i<=x.length) (λi=>(x.length - i).toNat) λ_ _=> .look
 |_=> .look
theorem aHa {q:Rat} {k:Nat} (h:Sz k q):Sz k (aaK q):=by
 grind[aaK,afl]
theorem ayD:mkRat 1 2=(1 / 2:Rat):=by
 grind[Rat.mkRat_eq_div]
theorem ayE:Sz 1 (1 / 2:Rat):=by
 grind[ayD,ajJ]
theorem asb {q:Rat} (h:Sz 1000 q):Sz 1002 (q - 1 / 2):=by
 rw[Rat.sub_eq_add_neg]
 exact ah2 h (j:=1) (afl ayE)
theorem h447:Holds Tryz.prog asa:=by
 refine kh (L:=[ar0,r94,aia,r99,r97,r95,ah8]) asa aG9 (by grind[h451,h94,h407,h99,h97,h95,h130]) ?_
 rintro(x:List fi) ⟨l,hx,hl,hz⟩
 refine gp (let b:=cJ.cells;let c:=Ξ;let d:=(0:Int);let h:=γa .i64;let j:=(9223372036854775807:Int);let k:=γv;let l:=(-9223372036854775808:Int);let q:=(1:Int);let B:=ie .i64;let J:=γ5;let L:=δe false;let X:=(2:Int);let g:=cn.i .u32;let H:=J 0 0 3;let F:=J 1 0 3;let I:=J 2 0 2;let G:=J 3 0 3;let o:=(↑x.length:Int);let O:=h o;let a5:=γu .i64 0;let K:=sY false q X;let m:=ξ q;let A:=QF (vL x) 0;let r:=b [k (cC K).fst,c g (cC K).snd.fst,c g (cC K).snd.snd] 70 3 false;let p:=b [k (cC m).fst,c g (cC m).snd.fst,c g (cC m).snd.snd] 70 3 false;let Z:=((cC m).fst,(cC m).snd.fst,(cC m).snd.snd);let a2:=((cC K).fst,(cC K).snd.fst,(cC K).snd.snd);let a6:=λ(u:Rat) ↦(b [k (cC u).fst,c g (cC u).snd.fst,c g (cC u).snd.snd] 70 3 false).same (b [k (cC u).fst,c g (cC u).snd.fst,c g (cC u).snd.snd] 70 3 false);((l<=q/\q<=j)/\d<X/\X<=j)/\(l<=q/\q<=j)/\0=0/\0=0/\(((H.same H/\F.same F/\I.same I/\G.same G/\(c sF x).same (c sF x)/\(h (↑x.length:Int)).same O/\a5.same (h 0)/\True)/\a6 K/\a6 m/\(b [L,a5] 197 2 false).same (b [k A.isSome,h (brI A)] 197 2 false)/\(b [L,c g [],c g []] 70 3 false).same (b [k (SI A).fst,c g (SI A).snd.fst,c g (SI A).snd.snd] 70 3 false)/\cJ.dead.same cJ.dead/\cJ.dead.same cJ.dead/\True)/\d<=d/\d<=o)/\∀(a:Int),let e:=a+q;let s:=h e;let v:=QF (vL x) e.toNat;let P:=b [k v.isSome,h (brI v)] 197 2 false;let n:=bC x a.toNat sF.dflt;let z:=(n.fst,n.snd.fst,n.snd.snd);let t:=cC (fa z - fa a2);let y:=(t.fst,t.snd.fst,t.snd.snd);let a1:=(cC (-fa y)).fst;let D:=(cC (-fa y)).snd;let M:=b [k (SI v).fst,c g (SI v).snd.fst,c g (SI v).snd.snd] 70 3 false;let f:=QF (vL x) a.toNat;let Y:=h (brI f);let S:=(a1,D.fst,D.snd);let E:=((SI f).fst,(SI f).snd.fst,(SI f).snd.snd);let C:=f.isSome==false&&(decide (brI f=d)&&true);let W:=B e/\((H.same H/\F.same F/\I.same I/\G.same G/\(c sF x).same (c sF x)/\O.same O/\s.same s/\True)/\r.same r/\p.same p/\(b [δe true,h a] 197 2 false).same P/\(b [k a1,c g D.fst,c g D.snd] 70 3 false).same M/\cJ.dead.same cJ.dead/\cJ.dead.same cJ.dead/\True)/\(d<=e/\e<=o)/\(o - e).toNat<(o - a).toNat;let T:=B e/\((H.same H/\F.same F/\I.same I/\G.same G/\(c sF x).same (c sF x)/\O.same O/\s.same s/\True)/\r.same r/\p.same p/\(b [δe true,h a] 197 2 false).same P/\(b [k t.fst,c g t.snd.fst,c g t.snd.snd] 70 3 false).same M/\cJ.dead.same cJ.dead/\cJ.dead.same cJ.dead/\True)/\(d<=e/\e<=o)/\(o - e).toNat<(o - a).toNat;let w:=B e/\((H.same H/\F.same F/\I.same I/\G.same G/\(c sF x).same (c sF x)/\O.same O/\s.same s/\True)/\r.same r/\p.same p/\(b [k f.isSome,Y] 197 2 false).same P/\(b [k (SI f).fst,c g (SI f).snd.fst,c g (SI f).snd.snd] 70 3 false).same M/\cJ.dead.same cJ.dead/\cJ.dead.same cJ.dead/\True)/\(d<=e/\e<=o)/\(o - e).toNat<(o - a).toNat;let Q:=lT y;let N:=lT z;let V:=λ(u:Bool) ↦decide (Kr (fa S) (fa E)<d)=u;let a0:=λ(u:Bool) ↦decide (Kr (fa y) (fa E)<d)=u;let R:=λ(u:Bool) ↦decide (HW (fa y)<d)=u;let a3:=λ(u:Bool) ↦decide (d<=Kr (fa z) (fa Z))=u;let U:=λ(u:Bool) ↦decide (HW (fa z)<=d)=u;let a4:=λ(u:Bool) ↦(!okF z)=u;d<=a/\a<=o->(decide (a<o)=true->d<=a/\a<(↑x.length:Int)/\a.toNat<x.length/\((cQ n.snd.fst/\cQ n.snd.snd)/\γb n.snd.fst<=1000000/\γb n.snd.snd<=1000000)/\(a4 true->w)/\(a4 false->N/\(U true->w)/\(U false->(N/\lT Z)/\(a3 true->w)/\(a3 false->(N/\lT a2)/\Q/\(R true->Q/\(C=true->W)/\(C=false->(lT S/\lT E)/\(V true->W)/\(V false->w)))/\(R false->(C=true->T)/\(C=false->(Q/\lT E)/\(a0 true->T)/\(a0 false->w)))))))/\(decide (a<o)=false->(SV.eW [Y,k f.isSome]).same (SV.eW [h ((QJ (vL x)).getD d),k (QJ (vL x)).isSome]))) (by kernel_rfl) ?_
 simp only[vcs];subst hx;rw[AX] at hl
 have hh:sY false 1 2=1 / 2:=ayD
 simp only[YB,AX,hh]
 have a7:∀{b c:Option (Int×Rat)},b=c->(cJ.cells [.sb b.isSome,.si .i64 (brI b)] 197 2 false).same (cJ.cells [.sb c.isSome,.si .i64 (brI c)] 197 2 false):=by rintro _ _ rfl;rfl
 have a6:∀{b c:Option (Int×Rat)},b=c->(cJ.cells [.sb (SI b).1,.row (.i .u32) (SI b).2.1,.row (.i .u32) (SI b).2.2] 70 3 false).same (cJ.cells [.sb (SI c).1,.row (.i .u32) (SI c).2.1,.row (.i .u32) (SI c).2.2] 70 3 false):=by rintro _ _ rfl;rfl
 have f1:lT (cC (ξ 1)):=uf (k:=1) (by unfold Sz;decide) (by omega)
 have f2:lT (cC (1 / 2)):=uf ayE (by omega)
 refine⟨⟨⟨by omega,by omega⟩,by omega,by omega⟩,⟨by omega,by omega⟩,⟨⟨rfl,rfl⟩,by omega,by omega⟩,?_⟩
 rintro i ⟨i0,i1⟩
 refine⟨λhi=>?_,λhi=>?_⟩
 ·have hv:bC (fL l) i.toNat sF.dflt=cC (bC l i.toNat 0):=MB (by omega)
  have hq:=hz _ (pz (d:=0) (show i.toNat<l.length by omega))
  have hs:QF l (i+1).toNat=if 0<bC l i.toNat 0/\bC l i.toNat 0<1 then(match QF l i.toNat with
   |none=>some (i,aaK (bC l i.toNat 0 - 1 / 2))
   |some (j,d)=>if aaK (bC l i.toNat 0 - 1 / 2)<d then some (i,aaK (bC l i.toNat 0 - 1 / 2)) else some (j,d)) else QF l i.toNat:=by
   rw[show(i+1).toNat=i.toNat+1 by omega]
   grind[QF]
  have X:∀j d,QF l i.toNat=some (j,d)->lT (cC d):=λj d h=>by
   obtain⟨h1,h2,h3⟩:=arK h
   rw[h3]
   exact uf (aHa (asb (hz _ (pz (by omega))))) (by omega)
  rw[hv,hs]
  generalize bC l i.toNat 0=q at*
  generalize QF l i.toNat=B at*
  simp only[SD,sy]
  obtain⟨_,⟨u1,u2,u3⟩,⟨u4,u5,u6⟩⟩:=QY q
  obtain⟨m1,m2⟩:=aaD hq
  have a5:=ar1 q
  have fq:lT (cC q):=uf hq (by omega)
  have fd:lT (cC (q - 1 / 2)):=uf (asb hq) (by omega)
  have fn:lT (cC (-(q - 1 / 2))):=uf (afl (asb hq)) (by omega)
  refine⟨i0,hi,by omega,⟨⟨u1,u4⟩,by omega,by omega⟩,λh=>absurd a5 (by simp_all),λ_=>⟨fq,λh1=>?_,λh1=>⟨⟨fq,f1⟩,λh2=>?_,λh2=>?_⟩⟩⟩
  ·rw[if_neg (λh=>by have:=agF.2 h.1;omega)]
   grind
  ·rw[if_neg (λh=>by grind[Kr])]
   grind
  ·have hp:0<q/\q<1:=⟨agF.1 (by omega),afx.1 (by simp_all)⟩
   rw[if_pos hp]
   refine⟨⟨fq,f2⟩,fd,λh3=>?_,λh3=>?_⟩
   ·have ha:aaK (q - 1 / 2)= -(q - 1 / 2):=by simp_all[aaK,aq8]
    rw[ha]
    cases B with
    |none=>exact⟨fd,λ_=>⟨by omega,⟨rfl,rfl⟩,by omega⟩,λh=>absurd h (by decide)⟩
    |some b=>
     obtain⟨j,d⟩:=b
     dsimp only
     refine⟨fd,λh=>absurd h.1 ζP,λ_=>⟨⟨fn,X j d rfl⟩,λJ=>?_,λJ=>?_⟩⟩
     ·rw[if_pos (afx.1 (by rw[<-sy d];exact J))]
      exact⟨by omega,⟨rfl,rfl⟩,by omega⟩
     ·rw[if_neg (λh=>J (by rw[<-sy d] at h;exact afx.2 h))]
      grind
   ·have ha:aaK (q - 1 / 2)=q - 1 / 2:=by simp_all[aaK,aq8]
    rw[ha]
    cases B with
    |none=>exact⟨λ_=>⟨by omega,⟨rfl,rfl⟩,by omega⟩,λh=>absurd h (by decide)⟩
    |some b=>
     obtain⟨j,d⟩:=b
     dsimp only
     refine⟨λh=>absurd h.1 ζP,λ_=>⟨⟨fd,X j d rfl⟩,λJ=>?_,λJ=>?_⟩⟩
     ·rw[if_pos (afx.1 (by rw[<-sy d];exact J))]
      exact⟨by omega,⟨rfl,rfl⟩,by omega⟩
     ·rw[if_neg (λh=>J (by rw[<-sy d] at h;exact afx.2 h))]
      exact⟨by omega,⟨a7 rfl,a6 rfl⟩,by omega⟩
 ·rw[show i.toNat=l.length by omega]
  unfold QJ
  cases QF l l.length<;>exact⟨rfl,rfl⟩
noncomputable def agL (n:Nat):og:=anj 49 Int (.one (sx .i64)) (λx a=>zo x/\(0<=a/\a<x.prf.length)/\nF x.fx<n) (λ_ _=> .eW []) λx a=>x.upd (pA x.p (jW x.en) x.most (nF x.fx) x.s a x.fx)
noncomputable def anr (n:Nat):og:=anj 86 (Int×Int×Int) (.cons (sx .i64) (.cons (sx .i64) (.one (sx .i64)))) (λx a=>zo x/\(0<=a.1/\a.1<x.prf.length)/\(0<=a.2.1/\a.2.1<x.fx.length)/\bC x.fx a.2.1.toNat 0=0/\(a.2.2=1\/a.2.2= -1)/\nF (x.fx.set a.2.1.toNat a.2.2)<n) (λ_ _=> .eW []) λx a=>x.upd (pA x.p (jW x.en) x.most (nF (x.fx.set a.2.1.toNat a.2.2)) x.s a.1 (x.fx.set a.2.1.toNat a.2.2))
theorem aIg {L:List fN} {W:List og} (c:og) (Λ:c.α->Nat->jY) (i:∀c∈W,sd Tryz.prog c) (e:∀c∈L,Holds Tryz.prog c)
  
  (h:∀a,c.dom a->Vc (akf (SR L (CN W) tyN mtN Da) (Λ a) (fG c.f) (c.put a) (c.st a) λv s=>v.same (c.res a)/\N1 s (c.out a))) (j:(Da c.f).isSome=true:=by kernel_rfl) (b:∀a,(c.put a).length=(fG c.f).params:=by intro _;kernel_rfl) (d:Xm c.f W=none:=by kernel_rfl):sd Tryz.prog c:=
 λa g=>ayt c acY i e (ahE j) b a d (h a g).out
theorem aHb {L:List fN} {W:List og} (c:og) (F:zr) (Λ:c.α->Nat->jY) (i:∀c∈W,sd Tryz.prog c) (e:∀c∈L,Holds Tryz.prog c)
  
  (h:∀a,c.dom a->Vc (akf (SR L (CN W) tyN mtN Da) (Λ a) F (c.put a) (c.st a) λv s=>v.same (c.res a)/\N1 s (c.out a))) (j:Da c.f=some F:=by kernel_rfl) (b:∀a,(c.put a).length=F.params:=by intro _;kernel_rfl) (d:Xm c.f W=none:=by kernel_rfl):sd Tryz.prog c:=
 λa g=>ayt c acY i e j b a d (h a g).out
theorem zo.set {x:pZ} (h:zo x) {k:Nat} {d:Int} (a:d=1\/d= -1):zo ⟨x.p,x.ch,x.val,x.found,x.en,x.k1,x.k2,x.most,x.err,x.prf,x.fx.set k d⟩:=
 ⟨⟨h.f.c,by rw[χ];exact h.f.l,ayn h.f.r (by omega)⟩,h.k1,by rw[χ];exact h.k2,h.v0,h.v1,h.m0,h.m1,h.l,h.c⟩
theorem aHc {f:List Int} {k:Nat} {d:Int} (b:k<f.length) (a:bC f k 0=0):(f.set k d).set k 0=f:=by
 rw[my b] at a;rw[List.set_set,<-a,List.set_getElem_self]
theorem aHd {n:Nat} (J:sd Tryz.prog (agL n)):sd Tryz.prog (anr n):=by
 refine aHb (L:=[]) (W:=[agL n]) (anr n) (fG 86) lk (by simp_all) (by simp) ?_
 rintro⟨⟨p,w,q,e,I,F,j,b,r,g,f⟩,a,k,d⟩ ⟨s,A,o,H,C,z⟩
 simp only at s A o H C z
 have t:j=f.length:=s.k2
 have D:=aHc (d:=d) (show k.toNat<f.length by omega) H
 have G:∀{x y:List Int},x=y->(cJ.row (.i .i64) x 3 true).same (cJ.row (.i .i64) y 3 true):=by rintro _ _ rfl;rfl
 cases I with
 |none=>
  have B:=s.set (k:=k.toNat) C
  refine gp (let m:=γa .i64;let o:=(0:Int);let s:=cJ.row;let t:=Ξ;let c:=f.set k.toNat d;let l:=cn.i .i64;let h:=pA p (jW none) b (nF c) (lU.mk w q e g r) a c;let u:=cJ.cells [m p.supply.a0,m p.supply.a1,m p.supply.a2,m p.supply.a3,m p.supply.a4,m p.supply.a5,m p.opn.a0,m p.opn.a1,m p.opn.a2,m p.opn.a3,m p.opn.a4,m p.opn.a5,m p.cls.a0,m p.cls.a1,m p.cls.a2,m p.cls.a3,m p.cls.a4,m p.cls.a5,t l p.classes,t cn.off p.offers,t l h.ch,m h.val,γv h.found,ζx (Fn.func 45) [] [],γQ 1 h.prf.length 5,γQ 2 j 1,m b,m h.err] 84 28 false;let v:=s sf h.prf 139 true;j=f.length/\o<=k/\k<(↑f.length:Int)/\j=f.length/\k.toNat<f.length/\(zo (pZ.mk p w q e none F j b r g c)/\(o<=a/\a<(↑g.length:Int))/\nF c<n)/\j=c.length/\o<=k/\k<(↑c.length:Int)/\j=c.length/\k.toNat<c.length/\(SV.eW []).same (SV.eW [])/\u.same u/\v.same v/\(s l (c.set k.toNat o) 3 true).same (s l f 3 true)/\True) (by kernel_rfl) ?_
  conv=>zeta
  rw[χ]
  exact⟨t,o.1,o.2,t,by omega,⟨B,A,z⟩,t,o.1,o.2,t,by omega,rfl,rfl,rfl,G D,trivial⟩
 |some m=>
  have B:=s.set (k:=k.toNat) C
  refine gp (let o:=γa .i64;let s:=(0:Int);let t:=cJ.row;let x:=Ξ;let c:=f.set k.toNat d;let l:=cn.i .i64;let h:=pA p (jW (some m)) b (nF c) (lU.mk w q e g r) a c;let u:=cJ.cells [o p.supply.a0,o p.supply.a1,o p.supply.a2,o p.supply.a3,o p.supply.a4,o p.supply.a5,o p.opn.a0,o p.opn.a1,o p.opn.a2,o p.opn.a3,o p.opn.a4,o p.opn.a5,o p.cls.a0,o p.cls.a1,o p.cls.a2,o p.cls.a3,o p.cls.a4,o p.cls.a5,x l p.classes,x cn.off p.offers,x l h.ch,o h.val,γv h.found,ζx (Fn.func 53) [] [γ5 1 0 1],γQ 2 h.prf.length 5,γQ 3 j 1,o b,o h.err] 84 28 false;let v:=cJ.cells [o m] 2 1 false;let E:=t sf h.prf 139 true;j=f.length/\s<=k/\k<(↑f.length:Int)/\j=f.length/\k.toNat<f.length/\(zo (pZ.mk p w q e (some m) F j b r g c)/\(s<=a/\a<(↑g.length:Int))/\nF c<n)/\j=c.length/\s<=k/\k<(↑c.length:Int)/\j=c.length/\k.toNat<c.length/\(SV.eW []).same (SV.eW [])/\u.same u/\v.same v/\E.same E/\(t l (c.set k.toNat s) 3 true).same (t l f 3 true)/\True) (by kernel_rfl) ?_
  conv=>zeta
  rw[χ]
  exact⟨t,o.1,o.2,t,by omega,⟨B,A,z⟩,t,o.1,o.2,t,by omega,rfl,rfl,rfl,rfl,G D,trivial⟩
theorem ayF {p:dd} {en:Int->Bool} {most:Int} {f:List Int} (j:uz p f) {c b:lU->Int->List Int->lU} {s:lU} {a:Int}
  (h:∀k d:Int,(0<=k/\k<f.length)->bC f k.toNat 0=0->(d=1\/d= -1)->∀s a,c s a (f.set k.toNat d)=b s a (f.set k.toNat d)):Ao p en most c s a f=Ao p en most b s a f:=by
 unfold Ao;split
 ·rfl
 split
 ·rfl
 rename_i o
 have l:FC p f=true:=by simp_all
 split
 ·rfl
 split
 ·rfl
 rename_i k n;split
 ·rfl
 obtain⟨e,i,g⟩:=aeA n
 rw[adT] at e
 have m:bC f k.toNat 0=0:=aey (j.ok l) j.r (by omega) i g
 simp_all
theorem akq {p:dd} {en:Int->Bool} {most:Int} {f:List Int} (e:uz p f) {s:lU} {a:Int}:pA p en most (nF f) s a f=Ao p en most (λs a g=>pA p en most (nF g) s a g) s a f:=by
 have j:∀k d:Int,(0<=k/\k<f.length)->bC f k.toNat 0=0->(d=1\/d= -1)->nF f=nF (f.set k.toNat d)+1:=λk d c b i=>aal c b (by omega)
 cases h:nF f with
 |zero=>exact ayF e λk d c b i=>by grind
 |succ n=>
  refine ayF e λk d c b i s a=>?_
  grind
section
variable {p:dd} {en:Int->Bool} {most:Int} {f:List Int} {s O:lU} {a k:Int}
theorem akr (b:uz p f) (h:s.err≠0\/s.found=true):pA p en most (nF f) s a f=s:=by
 simp_all[akq,Ao]
theorem ayG (c:uz p f) (h:¬(s.err≠0\/s.found=true)) (b:FC p f=false):pA p en most (nF f) s a f={s with prf:=s.prf.set a.toNat cfN}:=by
 simp_all[akq,Ao]
theorem aiy (c:uz p f) (h:¬(s.err≠0\/s.found=true)) (b:FC p f=true) (d:np p en s f=O) (e:DV p f<((O.val+1:Int):Rat)):pA p en most (nF f) s a f={O with prf:=O.prf.set a.toNat (acH p f)}:=by
 simp_all[akq,Ao]
theorem acI (b:uz p f) (h:¬(s.err≠0\/s.found=true)) (d:FC p f=true) (c:np p en s f=O) (g:¬DV p f<((O.val+1:Int):Rat)) (e:QJ (pg p f)=none\/most<(O.prf.length:Int)+2):pA p en most (nF f) s a f={O with err:=12}:=by
 subst c;rw[akq b];unfold Ao
 grind
theorem aiz (d:uz p f) (h:¬(s.err≠0\/s.found=true)) (b:FC p f=true) (g:np p en s f=O) (i:¬DV p f<((O.val+1:Int):Rat)) (c:QJ (pg p f)=some k) (e:¬most<(O.prf.length:Int)+2):
  pA p en most (nF f) s a f=pA p en most (nF (f.set k.toNat (-1))) (pA p en most (nF (f.set k.toNat 1)) (DW O a k) (O.prf.length+1) (f.set k.toNat 1)) O.prf.length (f.set k.toNat (-1)):=by
 simp_all[akq,Ao,if_neg]
end
theorem zo.itg {x:pZ} (h:zo x):zo (x.upd (np x.p (jW x.en) x.s x.fx)):=by
 obtain⟨d,i,b,a,g⟩:=@ane x.p (jW x.en) x.s x.fx
 obtain⟨m,j,k⟩:=ayo h.f
 have b:x.val<=(np x.p (jW x.en) x.s x.fx).val:=b
 have a:(np x.p (jW x.en) x.s x.fx).val=x.val\/(np x.p (jW x.en) x.s x.fx).val=(abj x.p x.fx).value:=a
 have n:=h.v0
 have o:=h.v1
 refine⟨h.f,rfl,h.k2,?_,?_,h.m0,h.m1,?_,?_⟩
 ·show 0<=(np x.p (jW x.en) x.s x.fx).val
  omega
 ·show(np x.p (jW x.en) x.s x.fx).val<=_
  omega
 ·show(np x.p (jW x.en) x.s x.fx).prf.length<=_
  rw[d];exact h.l
 ·show(np x.p (jW x.en) x.s x.fx).ch.length<=_
  rcases g with e|e
  ·rw[e];exact h.c
  ·rw[e];omega
theorem zo.vis {x:pZ} (h:zo x) {f:List Int} (i:uz x.p f) {n:Nat} {a:Int}:zo (x.upd (pA x.p (jW x.en) x.most n x.s a f)):=by
 obtain⟨m,g,b,d,k,q⟩:=@adU x.p (jW x.en) x.most n x.s a f i
 have b:x.val<=(pA x.p (jW x.en) x.most n x.s a f).val:=b
 have d:(pA x.p (jW x.en) x.most n x.s a f).val=x.val\/(pA x.p (jW x.en) x.most n x.s a f).val<=160000000:=d
 have r:=h.v0
 have t:=h.v1
 have o:=h.m1
 have j:=h.l
 refine⟨h.f,rfl,h.k2,?_,?_,h.m0,h.m1,?_,?_⟩
 ·show 0<=(pA x.p (jW x.en) x.most n x.s a f).val
  omega
 ·show(pA x.p (jW x.en) x.most n x.s a f).val<=_
  omega
 ·show(pA x.p (jW x.en) x.most n x.s a f).prf.length<=_
  rcases g with e|e
  ·omega
  ·rw[e];exact j
 ·show(pA x.p (jW x.en) x.most n x.s a f).ch.length<=_
  rcases k with e|e
  ·rw[e];exact h.c
  ·omega
theorem zo.spl {x:pZ} (h:zo x) (b:¬x.most<(x.prf.length:Int)+2) {k:Nat} {l:List XH} (a:k=l.length) (d:l.length=x.prf.length+2):zo ⟨x.p,x.ch,x.val,x.found,x.en,k,x.k2,x.most,x.err,l,x.fx⟩:=
 ⟨h.f,a,h.k2,h.v0,h.v1,h.m0,h.m1,by have:=h.m1;grind,h.c⟩
end Go.Vi
