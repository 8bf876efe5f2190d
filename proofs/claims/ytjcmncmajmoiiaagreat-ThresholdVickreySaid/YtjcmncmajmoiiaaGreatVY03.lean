/-
  The abstract interpreter: every operation that is no call does what the model's does.
  Conditions: none.
-/
import Derived.Test.YtjcmncmajmoiiaaGreatVY02
import Derived.OrdersIn
import Derived.AtR
set_option maxRecDepth 100000
set_option maxHeartbeats 4000000
set_option linter.all false
open Array renaming ext'->εi,getD_eq_getD_getElem?->εb
open Bool renaming and_eq_true->ζ,false_eq_true->χ,or_eq_true->δp,not_eq_true'->δd
open Decidable renaming not_not->ζL
open Function renaming comp_def->δe
open Go.Vi.AV renaming ren->δC
open List renaming getElem?_eq_getElem->ν,mem_of_getElem?->γy,getElem?_of_mem->γJ,getElem?_take->γ9,getElem?_take_of_lt->εx,replicate->ε,getElem?_eq_some_iff->θ,getElem?_append_left->γ8,getElem?_append_right->ε2,mem_of_mem_take->γl,mapM_cons->εO,getElem?_drop->δD,mem_of_mem_drop->γL,mem_cons->γE,range->π,getElem?_cons_succ->γO,nodup_cons->γN,getElem?_inj->ζe,mem_flatMap->δR
open Nat renaming le_refl->τ,lt_of_lt_of_le->γr,lt_or_ge->εR,sub_zero->εQ
open Option renaming map_eq_some_iff->δ,map_some->γm,map_map->ζC
open Option.some renaming injEq->γ
open Prod.mk renaming injEq->μ
namespace Go.Vi
def cE.pK:cE->Bool
 | .call .. | .jG .. | .oJ .. =>true
 |_=>false
section
variable {P:Program} {A:dL} {w w':World} {σ σ':bX} {o o':Store} {bR:Operand->AV} {bQ:Operand->Value} {oper:Oper} {v:AV}
theorem jY {b:Type} {x:Option b} {f:b->AV×Store} {p:AV×Store} (h:x.map f=some p):∃a,x=some a/\f a=p:=by
 simp_all
theorem XM {call:cV} {fl:Bool} {T:cE} {bB:Nat} (j:pI P fl oper=some T) (d0:T.pK=false) (G:bU A w σ o) (E:∀x,bw A w σ o (bR x) (bQ x))
  (B:qs call T bR o bB=some (v,o')):Gives A P bQ oper w σ o v o':=by
 rw[y7] at B;unfold pI at j;split at j;·
  rename_i x C;injection j with j;subst j;simp only[bK,γ,μ] at B;obtain⟨rfl,rfl⟩:=B;simp_all[NB]
 ·rename_i x C;injection j with j;subst j;simp only[bK,γ,μ] at B;obtain⟨rfl,rfl⟩:=B;simp_all[NB]
 ·rename_i c a b C;injection j with j;subst j;simp only[bK] at B;split at B
  ·rename_i b0;simp only[γ,μ] at B;obtain⟨rfl,rfl⟩:=B;exact NC (t:=true) G E C b0
  ·rename_i b0;simp only[γ,μ] at B;obtain⟨rfl,rfl⟩:=B;exact NC (t:=false) G E C b0
  ·cases B
 ·rename_i e C;obtain⟨z,S,rfl⟩:=δ.1 j;simp only[bK] at B;obtain⟨o2,hm,F⟩:=jY B;obtain⟨hd,rfl⟩:=wR hm;grind[W7]
 ·rename_i e x C;injection j with j;subst j;simp only[bK] at B;split at B
  ·rename_i h1;obtain⟨o2,hm,F⟩:=jY B;obtain⟨hd,rfl⟩:=wR hm;simp only[μ] at F;obtain⟨rfl,rfl⟩:=F;simp_all[W8]
  ·cases B
 ·
  rename_i t a3 C;split at j
  ·rename_i z b4 S I;split at j
   ·rename_i a1 c8;obtain⟨ps,b9,rfl⟩:=δ.1 j;simp only[bK] at B;obtain⟨cs,O,F⟩:=jY B;simp only[μ] at F;obtain⟨rfl,rfl⟩:=F;obtain⟨hl,hg⟩:=Gh b9;refine NI (place:=λi=>a1[i]?) G E C S (λzv N l=>?_) hl.symm (λi p q W hq=>?_) O;·cases X:P.info? t<;>grind[Nj,Program.built]
    grind[Nk]
   ·cases j
  ·rename_i z k e S I;obtain⟨n,M,rfl⟩:=δ.1 j;simp only[bK] at B;obtain⟨cs,O,F⟩:=jY B;simp only[μ] at F;obtain⟨rfl,rfl⟩:=F;refine NI (place:=λi=>some (i*n,n)) G E C S (λzv N l=>?_) (by simp) (λi p q W hq=>?_) O;·cases X:P.info? t with
    |none=>simp_all;|some i=>
     simp[X] at N;cases d2:P.info? e<;>grind[sizeT,Program.built]
   grind
  ·cases j
 ·
  rename_i t b1 a3 C;split at j
  ·rename_i e I;split at j
   ·rename_i z S;split at j
    ·rename_i D;injection j with j;subst j;split at B
     ·simp only[bK] at B;split at B
      ·rename_i cs O;split at B
       ·rename_i W;simp only[γ,μ] at B;obtain⟨rfl,rfl⟩:=B;exact Xy G E C I S D.2 D.1 O W
       ·cases B
      ·cases B
     ·simp only[bK] at B;split at B
      ·rename_i cs O;obtain⟨o2,hm,F⟩:=jY B;obtain⟨hd,rfl⟩:=wR hm;simp only[μ] at F;obtain⟨rfl,rfl⟩:=F;exact Xx G E C I S D.2 D.1 O hd
      ·cases B
    ·cases j
   ·cases j
  ·cases j
 ·
  rename_i t a C;obtain⟨n,M,rfl⟩:=δ.1 j;simp only[bK] at B;split at B
  ·rename_i cs b8 hb;obtain⟨a',W,F⟩:=jY B;simp only[μ] at F;obtain⟨rfl,rfl⟩:=F;exact W3 G E C M hb W
  ·cases B
 ·
  rename_i t a x C;obtain⟨n,M,rfl⟩:=δ.1 j;simp only[bK] at B;split at B
  ·rename_i id b8 d1 U;split at B
   ·rename_i cs e sz pu ho;split at B
    ·rename_i D;simp only[γ,μ] at B;obtain⟨rfl,rfl⟩:=B;obtain⟨c1,c2,c3,c4,c5⟩:=D;exact W5 G E C M U ho c1 c2 c3 c4 c5
    ·cases B
   ·cases B
  ·cases B
 ·
  rename_i x C;injection j with j;subst j;simp only[bK] at B;have H:=E x;split at B
  ·rename_i a b c Z;simp only[γ,μ] at B;obtain⟨rfl,rfl⟩:=B;rw[Z] at H;simp only[bw] at H;obtain⟨_,⟨p,W⟩,_⟩:=H;rw[<-Z];exact ND G E C W
  ·rename_i a b Z;simp only[γ,μ] at B;obtain⟨rfl,rfl⟩:=B;rw[Z] at H;simp only[bw] at H;obtain⟨p,W,_⟩:=H;rw[<-Z];exact ND G E C W
  ·cases B
 ·
  rename_i op t x y t' C;have c0:∀(h:T= .bin op x y),Gives A P bQ oper w σ o v o':=by
   intro h;subst h;simp only[bK] at B;split at B
   ·rename_i a b U hb;obtain⟨r,L,F⟩:=jY B;simp only[μ] at F;obtain⟨rfl,rfl⟩:=F;exact Xc G E C U hb L
   ·cases B
  have c9:∀(V:Bool),(op= .eql/\V=false)\/(op= .neq/\V=true)->
    (match P.underlying t with
     |some (.struct _)|some (.array _ _)=>if 20<=P.depth then(gu P 20 t).map λks=>cE.sg V ks x y else none
     |some .bool=>some (.beq V x y)
     |some (.int _)|some .string=>some (.bin op x y)
     |_=>none)=some T->Gives A P bQ oper w σ o v o':=by
   intro V M j;have c7:fz P t=some true->(if 20<=P.depth then(gu P 20 t).map λks=>cE.sg V ks x y else none)=some T->Gives A P bQ oper w σ o v o':=by
    intro K j;split at j
    ·rename_i hD;obtain⟨ks,hk,rfl⟩:=δ.1 j;simp only[bK] at B;split at B
     ·rename_i a b U hb;obtain⟨r,L,F⟩:=jY B;simp only[μ] at F;obtain⟨rfl,rfl⟩:=F;exact XE G E C M K hk hD U hb L
     ·cases B
    ·cases j
   split at j;·grind[fz]
   ·grind[fz]
   ·rename_i hu;injection j with j;subst j;simp only[bK] at B;split at B
    ·rename_i a b U hb;simp only[γ,μ] at B;obtain⟨rfl,rfl⟩:=B;exact Xd G E C M hu U hb
    ·cases B
   all_goals simp_all
  split at j<;>grind
 ·
  rename_i op t x C;injection j with j;subst j;simp only[bK] at B;obtain⟨r,L,F⟩:=jY B;simp only[μ] at F;obtain⟨rfl,rfl⟩:=F;exact Xe G E C L
 ·
  rename_i s d x C;split at j
  ·rename_i ds k hs hd;injection j with j;subst j;simp only[bK] at B;split at B
   ·rename_i k' n H;simp only[γ,μ] at B;obtain⟨rfl,rfl⟩:=B;exact Xf G E C hs hd H
   ·cases B
  ·cases j
 ·
  rename_i s x f C;split at j
  ·rename_i fs hs;split at j
   ·rename_i g hg;split at j
    ·rename_i n M;split at j;·cases j
     ·rename_i a0;injection j with j;subst j;simp only[bK] at B;obtain⟨r,L,F⟩:=jY B;simp only[μ] at F;obtain⟨rfl,rfl⟩:=F;exact Xg G E C hs hg M a0 L
    ·cases j
   ·cases j
  ·cases j
 ·
  rename_i t x f C;split at j
  ·rename_i fs hs;split at j
   ·rename_i g hg;obtain⟨n,M,rfl⟩:=δ.1 j;simp only[bK] at B;split at B
    ·rename_i cs H;obtain⟨r,L,F⟩:=jY B;simp only[μ] at F;obtain⟨rfl,rfl⟩:=F;exact Xh G E C hs hg M H L
    ·cases B
   ·cases j
  ·cases j
 ·
  rename_i t x i C;split at j
  ·rename_i b1 e I;obtain⟨n,M,rfl⟩:=δ.1 j;simp only[bK] at B;split at B
   ·rename_i k X;split at B
    ·rename_i D;obtain⟨r,L,F⟩:=jY B;simp only[μ] at F;obtain⟨rfl,rfl⟩:=F;exact Xi G E C I M X D.1 D.2 L
    ·cases B
   ·cases B
  ·rename_i e I;split at j
   ·rename_i n M;split at j;·cases j
    ·rename_i a0;injection j with j;subst j;simp only[bK] at B;split at B
     ·rename_i k X;obtain⟨r,L,F⟩:=jY B;simp only[μ] at F;obtain⟨rfl,rfl⟩:=F;exact Xj G E C I M a0 X L
     ·cases B
   ·cases j
  ·cases j
 ·
  rename_i t x i C;split at j
  ·rename_i b1 e I;split at j
   ·rename_i s n hs M;injection j with j;subst j;simp only[bK] at B;split at B
    ·rename_i k cs X H;split at B
     ·rename_i D;obtain⟨r,L,F⟩:=jY B;simp only[μ] at F;obtain⟨rfl,rfl⟩:=F;exact Xk G E C I hs M X D.1 D.2 H L
     ·cases B
    ·cases B
   ·cases j
  ·rename_i I;injection j with j;subst j;simp only[bK] at B;split at B
   ·rename_i k s X H;split at B
    ·rename_i D;obtain⟨r,L,F⟩:=jY B;simp only[μ] at F;obtain⟨rfl,rfl⟩:=F;exact Xl G E C I X D H L
    ·cases B
   ·cases B
  ·cases j
 ·
  rename_i t l c C;split at j
  ·rename_i e I;split at j
   ·rename_i z b S hb;split at j
    ·rename_i a2;injection j with j;subst j;simp only[bK] at B;split at B
     ·rename_i n m hl hm;split at B
      ·rename_i D;obtain⟨c1,c2,c3,c4⟩:=D;obtain⟨o2,a9,F⟩:=jY B;obtain⟨hd,rfl⟩:=wR a9;simp only[μ] at F;obtain⟨rfl,rfl⟩:=F;exact XA G E C I S hb hl hm c1 c2 c3 c4 hd
      ·cases B
     ·cases B
    ·cases j
   ·cases j
  ·cases j
 ·
  rename_i t x lo X C;split at j
  ·rename_i e I;split at j
   ·rename_i n M;split at j;·cases j
    ·rename_i a0;injection j with j;subst j;simp only[bK] at B;obtain⟨r,L,F⟩:=jY B;grind[Xr]
   ·cases j
  all_goals grind[bK,Xv]
 ·
  rename_i t x lo X mx C;split at j
  ·rename_i e I;split at j
   ·rename_i n M;split at j;·cases j
    ·rename_i a0;injection j with j;subst j;simp only[bK] at B;obtain⟨r,L,F⟩:=jY B;grind[Xu]
   ·cases j
  ·cases j
 ·
  rename_i c C;split at j;·grind[cE.pK]
  ·grind[cE.pK]
  ·grind[cE.pK]
  ·rename_i J;split at j
   ·rename_i s x t t' U a4;split at j
    ·rename_i b7;subst b7;split at j
     ·rename_i e I;split at j
      ·rename_i z b S hb;split at j
       ·rename_i a2;injection j with j;subst j;simp only[bK] at B;exact XD G E C J (εi U) (εi a4) I S hb rfl a2 B
       ·cases j
      ·cases j
     ·cases j
    ·cases j
   ·cases j
  ·rename_i J;split at j
   ·rename_i x t U a4;have b5:c.args=#[x]:=εi U;have b3:c.argTypes=#[t]:=εi a4;have c6:∀k,(k=0/\∃e,P.underlying t=some (.slice e))\/(k=1/\P.underlying t=some .string)\/(k=2/\∃a b,P.underlying t=some (.map a b))->T= .len k x->Gives A P bQ oper w σ o v o':=by
     intro k I hh;subst hh;simp only[bK] at B;obtain⟨n,M,F⟩:=jY B;simp only[μ] at F;obtain⟨rfl,rfl⟩:=F;exact Xm G E C J b5 b3 I M
    grind[bK,Xn]
   ·cases j
  ·rename_i J;split at j
   ·rename_i x y U;injection j with j;subst j;simp only[bK] at B;split at B
    ·rename_i k a k' b H hy;split at B
     ·rename_i a6;subst a6;simp only[γ,μ] at B;obtain⟨rfl,rfl⟩:=B;exact NG (mx:=false) G E C J (εi U) H hy
     ·cases B
    ·cases B
   ·cases j
  ·rename_i J;split at j
   ·rename_i x y U;injection j with j;subst j;simp only[bK] at B;split at B
    ·rename_i k a k' b H hy;split at B
     ·rename_i a6;subst a6;simp only[γ,μ] at B;obtain⟨rfl,rfl⟩:=B;exact NG (mx:=true) G E C J (εi U) H hy
     ·cases B
    ·cases B
   ·cases j
  ·cases j
 ·
  rename_i x i C;injection j with j;subst j;simp only[bK] at B;split at B
  ·rename_i vs H;obtain⟨r,L,F⟩:=jY B;simp only[μ] at F;obtain⟨rfl,rfl⟩:=F;exact Xo G E C H L
  ·cases B
 ·rename_i f a b C;split at j
  ·injection j with j;subst j;simp only[bK,γ,μ] at B;obtain⟨rfl,rfl⟩:=B;exact Xq G E (λ_=>rfl) C
  ·cases j
 ·rename_i t x C;split at j
  ·rename_i fs I;injection j with j;subst j;simp only[bK] at B;split at B
   ·rename_i cs H;split at B
    ·rename_i W;simp only[γ,μ] at B;obtain⟨rfl,rfl⟩:=B;exact Xp G E I C H W
    ·cases B
   ·cases B
  ·cases j
 ·rename_i t C;split at j
  ·split at j
   ·injection j with j;subst j;simp only[bK] at B;obtain⟨o2,a9,F⟩:=jY B;obtain⟨hd,rfl⟩:=wR a9;grind[XJ]
   ·cases j
  ·cases j
 ·
  rename_i t x k ok C;split at j
  ·rename_i kt et I;split at j
   ·rename_i ks ka z g hk K S hg;split at j
    ·rename_i a8;injection j with j;subst j;simp only[bK] at B;split at B
     ·rename_i id kv H Q;split at B
      ·rename_i es b2 pu ho;split at B
       ·rename_i Y;subst Y;split at B
        ·rename_i i a q O;simp only[γ,μ] at B;obtain⟨rfl,rfl⟩:=B;obtain⟨zv,N⟩:=XK S a8;obtain⟨u,a5,a7⟩:=NU (w:=w) (σ:=σ) (o:=o) S a8 N;have:=NV (ok:=ok) G E C I hk K ⟨zv,u,N,a5,a7⟩ H Q ho O N;simp_all
        ·rename_i zv O N;simp only[γ,μ] at B;obtain⟨rfl,rfl⟩:=B;obtain⟨u,a5,a7⟩:=NU (w:=w) (σ:=σ) (o:=o) S a8 N;have:=NV (ok:=ok) G E C I hk K ⟨zv,u,N,a5,a7⟩ H Q ho O N;simp_all
        ·cases B
       ·cases B
      ·cases B
     ·cases B
    ·cases j
   ·cases j
  ·cases j
 ·rename_i t m k v' C;split at j
  ·rename_i kt et I;split at j
   ·rename_i ks ka hk K;injection j with j;subst j;simp only[bK] at B;split at B
    ·rename_i id kv H Q;split at B
     ·rename_i es b2 pu ho;split at B;·cases B
      ·rename_i D;simp only[not_or,ζL] at D;obtain⟨b6,Y⟩:=D;subst Y;have R:pu=true->(bR v').pure=true:=λW=>by
        simp_all
       split at B
       ·rename_i i a O;simp only[γ,μ] at B;obtain⟨rfl,rfl⟩:=B;exact B0 G E (.inl C) I hk K H Q ho R O
       ·rename_i O;simp only[γ,μ] at B;obtain⟨rfl,rfl⟩:=B;exact B0 G E (.inl C) I hk K H Q ho R O
       ·cases B
     ·cases B
    ·cases B
   ·cases j
  ·cases j
 ·rename_i t m k v' C;split at j
  ·rename_i kt et I;split at j
   ·rename_i ks ka hk K;injection j with j;subst j;simp only[bK] at B;split at B
    ·rename_i id kv H Q;split at B
     ·rename_i es b2 pu ho;split at B;·cases B
      ·rename_i D;simp only[not_or,ζL] at D;obtain⟨b6,Y⟩:=D;subst Y;have R:pu=true->(bR v').pure=true:=λW=>by
        simp_all
       split at B
       ·rename_i i a O;simp only[γ,μ] at B;obtain⟨rfl,rfl⟩:=B;exact B0 G E (.inr C) I hk K H Q ho R O
       ·rename_i O;simp only[γ,μ] at B;obtain⟨rfl,rfl⟩:=B;exact B0 G E (.inr C) I hk K H Q ho R O
       ·cases B
     ·cases B
    ·cases B
   ·cases j
  ·cases j
 ·cases j
end
section
variable {A A':dL} {w w':World} {σ σ':bX} {o o':Store}
def Tr (o:Store) (σ:bX) (o':Store) (c:bX) (id a:Nat):Prop:=
 (∀f e g h,o[id]?=some (.cells f e g h)->∃b i d,o'[a]?=some (.cells b i g d)/\b.length=f.length)/\(IsMap o id->IsMap o' a)/\c[a]?=σ[id]?
theorem Tr.wY {id b a:Nat} (h:Tr o σ o' σ' id b) (k:tC o id a):tC o' b a:=by
 obtain⟨j,e,f,l,g,n⟩:=k;obtain⟨d,i,c,m,p⟩:=h.1 j e f l g;exact⟨d,i,f,c,m,by omega⟩
theorem Tr.cur {id g f sz:Nat} (h:Tr o σ o' σ' id g) (k:tC o id f) (p:vd o' g sz f):vd o id sz f:=by
 obtain⟨m,e,j,l,n,w⟩:=k;obtain⟨r,y,s,u,x⟩:=h.1 m e j l n;obtain⟨t,v,q,i,z⟩:=p;rw[u] at i;injection i with i;injection i with a b c d;subst a c;exact⟨m,e,l,n,by omega⟩
mutual
theorem AV.vh (m:Nat->Option Nat):∀(c:AV),c.pure=true->c.ren m=some c
 | .sc _,_=>rfl
 | .sl _ _,_=>rfl
 | .ud,h| .agg _,h| .bH _,h| .ep _ _,h| .ptr _ _ _,h| .os _ _ _ _,h| .mp _,h| .fn _ _ _,h| .iU _ _,h=>by simp[AV.pure] at h
end
theorem NW (m:Nat->Option Nat):∀(cs:List AV),dr cs=true->iG m cs=some cs
 |[],_=>rfl
 |c::cs,h=>by
  simp only[dr,ζ] at h;simp only[iG,AV.vh m c h.1,NW m cs h.2]
mutual
theorem bw.ren [nX A A'] (l:∀b,b<w.heap.size->Fr A σ b->Fr A' σ' b) {m:Nat->Option Nat} (k:∀id e,m id=some e->Tr o σ o' σ' id e):
  ∀(c:AV) (v:Value) (q:AV),c.ren m=some q->bw A w σ o c v->bw A' w σ' o' q v
 | .ud,v,q,d,_=>by grind[δC,bw];| .sc u,v,q,d,h=>by grind[δC,bw];| .sl n g,v,q,d,h=>by
  simp only[δC,γ] at d;subst d;simp only[bw] at h ⊢;obtain⟨a,D,rfl,T,s,F⟩:=h;exact⟨a,D,rfl,T,s,dA.ren l k g a 0 s F⟩;| .ep g G,v,q,d,h=>by
  simp only[δC,γ] at d;subst d;simp only[bw] at h ⊢;obtain⟨a,rfl,s,F⟩:=h;exact⟨a,rfl,s,dA.ren l k g _ 0 s F⟩;| .agg g,v,q,d,h=>by
  simp only[δC,δ] at d;obtain⟨i,p,rfl⟩:=d;simp only[bw] at h ⊢;obtain⟨B,rfl,z⟩:=h;exact⟨B,rfl,bE.ren l k g _ i p z⟩;| .bH g,v,q,d,h=>by
  simp only[δC,δ] at d;obtain⟨i,p,rfl⟩:=d;simp only[bw] at h ⊢;obtain⟨B,rfl,z⟩:=h;exact⟨B,rfl,bE.ren l k g _ i p z⟩;| .ptr id G I,v,q,d,h=>by
  simp only[δC,δ] at d;obtain⟨e,p,rfl⟩:=d;have C:=k id e p;simp only[bw] at h ⊢;refine⟨C.wY h.1,h.2.1,λL E=>?_⟩;rw[C.2.2];exact h.2.2 L (C.cur h.1 E);| .os id G P I,v,q,d,h=>by
  simp only[δC,δ] at d;obtain⟨e,p,rfl⟩:=d;have C:=k id e p;simp only[bw] at h ⊢;obtain⟨N,a,D,K,z,O⟩:=h;refine⟨C.wY N,a,D,K,z,λL E=>?_⟩;have:=O L (C.cur N E);unfold kB at this ⊢;rw[C.2.2];exact this;| .mp id,v,q,d,h=>by
  simp only[δC,δ] at d;obtain⟨e,p,rfl⟩:=d;have C:=k id e p;simp only[bw] at h ⊢;rw[C.2.2];exact⟨C.2.1 h.1,h.2⟩;| .fn f a b,v,q,d,h=>by
  simp only[δC] at d;split at d
  ·rename_i Q V p J;injection d with d;subst d;simp only[bw] at h ⊢;obtain⟨x,y,rfl,R,S⟩:=h;exact⟨x,y,by rw[nX.eq (A:=A) (A':=A')],bE.ren l k a _ Q p R,bE.ren l k b _ V J S⟩
  ·cases d;| .iU t g,v,q,d,h=>by
  simp only[δC,γ] at d;subst d;simp only[bw] at h ⊢;obtain⟨B,rfl,s,z⟩:=h;exact⟨B,rfl,s,bE.ren l k g _ g (NW m g s) z⟩
theorem bE.ren [nX A A'] (l:∀b,b<w.heap.size->Fr A σ b->Fr A' σ' b) {m:Nat->Option Nat} (k:∀id e,m id=some e->Tr o σ o' σ' id e):
  ∀(g:List AV) (B:List Value) (i:List AV),iG m g=some i->bE A w σ o g B->bE A' w σ' o' i B
 |[],B,i,d,h=>by grind[iG,bE];|c::g,B,i,d,h=>by
  simp only[iG] at d;split at d
  ·rename_i W H p J;injection d with d;subst d;simp only[bE] at h ⊢;obtain⟨v,r,rfl,K,z⟩:=h;exact⟨v,r,rfl,bw.ren l k c v W p K,bE.ren l k g r H J z⟩
  ·cases d
theorem dA.ren [nX A A'] (l:∀b,b<w.heap.size->Fr A σ b->Fr A' σ' b) {m:Nat->Option Nat} (k:∀id e,m id=some e->Tr o σ o' σ' id e):
  ∀(g:List AV) (a:Option Addr) (j:Nat),dr g=true->dA A w σ o g a j->dA A' w σ' o' g a j
 |[],_,_,_,_=>by simp[dA];|c::g,a,j,s,h=>by
  simp only[dr,ζ] at s;simp only[dA] at h ⊢;obtain⟨⟨b,v,rfl,U,d,F⟩,z⟩:=h;have M:b.block<w.heap.size:=by grind[Np,add_block]
  exact⟨⟨b,v,rfl,l _ M U,d,bw.ren l k c v c (AV.vh m c s.1) F⟩,dA.ren l k g _ (j+1) s.2 z⟩
end
theorem Gm {m:Nat->Option Nat}:∀{cs a:List AV},iG m cs=some a->a.length=cs.length/\∀(j:Nat) (b:AV),a[j]?=some b->∃c,cs[j]?=some c/\c.ren m=some b
 |[],a,h=>by grind[iG];|c::cs,a,h=>by
  simp only[iG] at h;split at h
  ·rename_i k e f d;injection h with h;subst h;obtain⟨i,g⟩:=Gm d;grind
  ·cases h
theorem NY {m:Nat->Option Nat}:∀{es a:List (Value×AV)},oM m es=some a->a.length=es.length/\∀(j:Nat) (b:Value×AV),a[j]?=some b->∃e,es[j]?=some e/\e.1=b.1/\e.2.ren m=some b.2
 |[],a,h=>by grind[oM];|e::es,a,h=>by
  simp only[oM] at h;split at h
  ·rename_i v d f c;injection h with h;subst h;obtain⟨g,i⟩:=NY c;grind
  ·cases h
theorem XN {m:Nat->Option Nat} {c a:AV} (h:c.ren m=some a) (b:c.one=true):a.one=true:=by
 cases c<;>simp only[δC,γ,δ] at h<;>simp only[AV.one,χ] at b<;>grind[δC,AV.one]
mutual
theorem agP {m:Nat->Option Nat}:∀{c a:AV},c.ren m=some a->c.pure=true->a=c
 |c,a,h,b=>by
  grind[AV.vh]
end
theorem dB.ren [nX A A'] (L:∀b,b<w.heap.size->Fr A σ b->Fr A' σ' b) {m:Nat->Option Nat} (J:∀id q,m id=some q->Tr o σ o' σ' id q) {i B:Nat} {x x':bP} (f:x.ren m=some x') (G:σ'[B]?=σ[i]?)
  (h:dB A w σ o i x):dB A' w σ' o' B x':=by
 cases x with
 |dead=>grind[bP.ren,dB];|cells u e S H=>
  simp only[dB] at h;obtain⟨t,C,F⟩:=h;have p:∀a,a.length=u.length->(H=true->dr a=true)->eF a=true->(∀(j:Nat) (g:AV) (v:Value),a[j]?=some g->(∀c,u[j]?=some c->bw A w σ o c v->bw A' w σ' o' g v))->dB A' w σ' o' B (.cells a e S H):=by
   intro a k1 O k3 X;simp only[dB];refine⟨O,k3,?_⟩;rcases F with⟨h0,a1⟩|⟨b,D,E,r1,P,R,U,r5,r6⟩;·simp_all
   ·refine .inr ⟨b,D,E,by simp_all,P,R,U,by omega,λj g k=>?_⟩;have s:j<u.length:=by grind
    obtain⟨v,hv,y⟩:=r6 j _ (ν s);exact⟨v,hv,X j g v k _ (ν s) y⟩
  simp only[bP.ren] at f;split at f
  ·rename_i d;injection f with f;subst f;refine p u rfl t C λj g v k c l y=>?_;rw[k] at l;injection l with l;subst l;exact bw.ren L J g v g (AV.vh m g (qy (t d) g (γy k))) y
  ·rename_i d;obtain⟨a,n,rfl⟩:=δ.1 f;obtain⟨I,g2⟩:=Gm n;refine p a I (λz=>absurd z d) (nn.2 λc l=>?_) λj g v k c l y=>?_
   ·obtain⟨j,k⟩:=γJ l;grind[XN,nn]
   grind[bw.ren];|map es kt H=>
  simp only[dB] at h;obtain⟨t,C,b,c,N,M,F,K,Q,Y⟩:=h;simp only[bP.ren] at f;split at f
  ·rename_i d;injection f with f;subst f;simp only[dB];refine⟨t,C,b,c,N,M,by simp_all,K,Q,λj e r=>?_⟩;obtain⟨V,Z,T,W⟩:=Y j e r;exact⟨V,Z,T,bw.ren L J e.2 _ e.2 (AV.vh m e.2 (t d e (γy r))) W⟩
  ·rename_i d;obtain⟨a0,n,rfl⟩:=δ.1 f;obtain⟨I,g2⟩:=NY n;simp only[dB];refine⟨λz=>absurd z d,λe r=>?_,b,c,N,M,by rw[G];exact F,K,by omega,λj e' r=>?_⟩
   ·obtain⟨j,k⟩:=γJ r;grind
   grind[bw.ren]
def qA (k:Nat):Nat->Option Nat:=λi=>if i<k then some i else none
mutual
theorem B2 (k:Nat):∀(c:AV),c.bY k=true->c.ren (qA k)=some c
 | .ud,_| .sc _,_| .sl _ _,_| .ep _ _,_| .iU _ _,_=>rfl
 | .agg d,h=>by simp only[AV.bY] at h;simp[δC,wZ k d h];| .bH d,h=>by simp only[AV.bY] at h;simp[δC,wZ k d h];| .ptr e _ _,h=>by simp_all[AV.bY,δC,qA];| .os e _ _ _,h=>by simp_all[AV.bY,δC,qA];| .mp e,h=>by simp_all[AV.bY,δC,qA];| .fn f a b,h=>by simp only[AV.bY,ζ] at h;simp[δC,wZ k a h.1,wZ k b h.2]
theorem wZ (k:Nat):∀(d:List AV),dZ k d=true->iG (qA k) d=some d
 |[],_=>rfl
 |c::d,h=>by simp only[dZ,ζ] at h;simp[iG,B2 k c h.1,wZ k d h.2]
end
theorem NZ {k:Nat} {cs:List AV}:dZ k cs=true↔∀c∈cs,c.bY k=true:=by
 induction cs<;>grind[dZ]
theorem N1 (k:Nat) (id a:Nat) (h:qA k id=some a):Tr o σ (o.take k) (σ.take k) id a:=by
 unfold qA at h;split at h
 ·rename_i i;injection h with h;subst h;refine⟨λf e j b g=>⟨f,e,b,by simp_all,rfl⟩,λ⟨d,c,b,g⟩=>⟨d,c,b,by simp_all⟩,by simp_all⟩
 ·cases h
theorem N2 (k:Nat) (b:Nat) (h:Fr A σ b):Fr A (σ.take k) b:=by
 refine⟨?_,h.2⟩;rintro⟨i,c,a⟩;rw[γ9] at a;split at a;·exact h.1 ⟨i,c,a⟩
 ·cases a
theorem bw.take {k:Nat} {c:AV} {v:Value} (h:bw A w σ o c v) (a:c.bY k=true):bw A w (σ.take k) (o.take k) c v:=
 bw.ren (λb _ d=>N2 k b d) (N1 k) c v c (B2 k c a) h
theorem XO {k:Nat} {x:bP} (h:x.bY k=true):x.ren (qA k)=some x:=by
 cases x with
 |dead=>rfl;|cells g e i c=>
  grind[bP.bY,bP.ren,wZ];|map a f c=>
  simp only[bP.bY,δp] at h;simp only[bP.ren];split;·rfl
  ·rename_i b;have d:=h.resolve_left b;have:oM (qA k) a=some a:=by
    clear h b;induction a<;>grind[dZ,oM,B2]
   rw[this];rfl
theorem bU.take (e:bU A w σ o) {k:Nat} (n:∀x∈o.take k,x.bY k=true):bU A w (σ.take k) (o.take k):=by
 have a:∀(i:Nat) (s:Option (Nat×Nat)),(σ.take k)[i]?=some s->σ[i]?=some s:=by
  grind
 refine⟨by simp[e.len],λi j b c d g m=>e.dist i j b c d (a _ _ g) (a _ _ m),λi b c g=>e.bnd i b c (a _ _ g),λi x f=>?_,λi b c g=>e.av i b c (a _ _ g),e.jX⟩;have h:=f;rw[γ9] at f;split at f
 ·rename_i p;exact dB.ren (λb _ l=>N2 k b l) (N1 k) (XO (n x (γy h))) (by simp_all) (e.obj i x f)
 ·cases f
theorem Ext.take {v:World} {j:bX} {u:Store} (h:Ext v j u w σ o) {k:Nat} (C:u.length<=k):Ext v j u w (σ.take k) (o.take k) where
 size:=h.size;blk:=λb z B=>by
  obtain⟨g,p⟩:=h.blk b z B;refine⟨g,?_⟩;rintro⟨i,c,q⟩;rw[γ9] at q;split at q;·exact p ⟨i,c,q⟩
  ·cases q
 len:=by have:=h.len;simp;omega
 cur:=λm t l=>by
  obtain⟨g,p⟩:=h.cur m t l;have d:m<k:=by
   obtain⟨r,e,n,a,f,_⟩:=l;grind
  refine⟨?_,λn A=>?_⟩
  ·obtain⟨r,e,n,a,f,s⟩:=g;exact⟨r,e,n,a,by simp_all,s⟩
  ·rw[εx d];refine p n ?_;obtain⟨r,e,a,f,s⟩:=A;rw[εx d] at f;exact⟨r,e,a,f,s⟩
 isMap:=λm l=>by
  obtain⟨g,p⟩:=h.isMap m l;have d:m<k:=by
   obtain⟨x,y,a,f⟩:=l;grind
  refine⟨?_,by simp_all⟩;obtain⟨x,y,a,f⟩:=g;exact⟨x,y,a,by simp_all⟩
 os:=h.os;tape:=h.tape;output:=h.output
mutual
theorem bw.bY {k:Nat} (g:∀i x,k<=i->o[i]?=some x->x.ni=true):∀(c:AV) (v:Value),bw A w σ o c v->c.bY k=true
 | .ud,_,_| .sc _,_,_| .sl _ _,_,_| .ep _ _,_,_| .iU _ _,_,_=>rfl
 | .agg d,v,h=>by simp only[bw] at h;obtain⟨l,_,j⟩:=h;simp only[AV.bY];exact bE.bY g d _ j;| .bH d,v,h=>by simp only[bw] at h;obtain⟨l,_,j⟩:=h;simp only[AV.bY];exact bE.bY g d _ j;| .ptr n _ _,v,h=>by
  simp only[bw] at h;obtain⟨⟨d,e,s,m,p,_⟩,_⟩:=h;simp only[AV.bY,decide_eq_true_eq];grind[bP.ni];| .os n _ _ _,v,h=>by
  simp only[bw] at h;obtain⟨⟨d,e,s,m,p,_⟩,_⟩:=h;simp only[AV.bY,decide_eq_true_eq];grind[bP.ni];| .mp n,v,h=>by
  simp only[bw] at h;obtain⟨⟨B,z,m,p⟩,_⟩:=h;simp only[AV.bY,decide_eq_true_eq];grind[bP.ni];| .fn f a b,v,h=>by simp only[bw] at h;obtain⟨x,y,_,u,q⟩:=h;simp only[AV.bY,ζ];exact⟨bE.bY g a _ u,bE.bY g b _ q⟩
theorem bE.bY {k:Nat} (g:∀i x,k<=i->o[i]?=some x->x.ni=true):∀(d:List AV) (l:List Value),bE A w σ o d l->dZ k d=true
 |[],_,_=>rfl
 |c::d,l,h=>by
  simp only[bE] at h;obtain⟨v,r,_,t,j⟩:=h;simp only[dZ,ζ];exact⟨bw.bY g c v t,bE.bY g d r j⟩
end
theorem dB.bY {k i:Nat} {x:bP} (n:∀i x,k<=i->o[i]?=some x->x.ni=true) (h:dB A w σ o i x):x.bY k=true:=by
 cases x with
 |dead=>rfl;|cells t e s g=>
  simp only[dB] at h;simp only[bP.bY,δp];right;refine NZ.2 λc a=>?_;obtain⟨j,f⟩:=γJ a;grind[bw.bY];|map r p g=>
  simp only[dB] at h;obtain⟨_,_,b,c,m,l,_,_,_,q⟩:=h;simp only[bP.bY,δp];right;refine NZ.2 λc a=>?_;obtain⟨e,d,rfl⟩:=List.mem_map.1 a;obtain⟨j,f⟩:=γJ d;grind[bw.bY]
theorem XP {n i:Nat} {x:bP} (h:(gh n)[i]?=some x):x= .dead:=by
 grind[gh]
theorem bU.gh (f:bU A w σ o) (n:Nat):bU A w (σ++ε n none) (o++gh n)/\Ext w σ o w (σ++ε n none) (o++gh n):=by
 have g:∀(i:Nat) (b c:Nat),(σ++ε n none)[i]?=some (some (b,c))->σ[i]?=some (some (b,c)):=by
  grind
 have v:Ext w σ o w (σ++ε n none) (o++Go.Vi.gh n):=by
  refine⟨τ _,λb _ F=>⟨rfl,λ⟨i,c,h⟩=>F ⟨i,c,g i b c h⟩⟩,by simp,λK I q=>?_,λK q=>?_,rfl,rfl,rfl⟩
  ·obtain⟨H,e,G,m,s,C⟩:=q;have a:=(θ.1 s).1;refine⟨⟨H,e,G,m,by grind,C⟩,λB D=>⟨?_,by rw[γ8 (by rw[f.len];exact a)]⟩⟩;obtain⟨p,J,u,l,t⟩:=D;rw[γ8 a] at l;exact⟨p,J,u,l,t⟩
  ·obtain⟨z,y,m,s⟩:=q;have a:=(θ.1 s).1;exact⟨⟨z,y,m,by grind⟩,by rw[γ8 (by rw[f.len];exact a)]⟩
 refine⟨⟨by simp[Go.Vi.gh,f.len],λi j b c d h E=>f.dist i j b c d (g _ _ _ h) (g _ _ _ E),λi b c h=>f.bnd i b c (g _ _ _ h),λi x k=>?_,λi b c h=>f.av i b c (g _ _ _ h),f.jX⟩,v⟩;rw[List.getElem?_append] at k;split at k
 ·rename_i a;exact(f.obj i x k).ext v (by rw[γ8 (by rw[f.len];exact a)]) λ_ _ _=>rfl
 ·rename_i a;have:=XP k;subst this;simp only[dB];have r:=(θ.1 k).1;simp[Go.Vi.gh] at r;rw[ε2 (by rw[f.len];omega),List.getElem?_replicate,if_pos (by rw[f.len];omega)]
theorem XQ (f:bU A w σ o) (k:Nat):∃b,bU A w b (rh k o)/\(∀c v,bw A w σ o c v->bw A w b (rh k o) c v)/\
  ∀(e:World) (a:bX) (d:Store),d.length<=k->Ext e a d w σ o->Ext e a d w b (rh k o):=by
 unfold rh;split
 ·rename_i h;have g:∀i x,k<=i->o[i]?=some x->x.ni=true:=by
   intro i x r l;refine List.all_eq_true.1 h x (γy (i:=i - k) ?_);simp_all
  refine⟨σ.take k,f.take λx l=>?_,λc v m=>m.take (bw.bY g c v m),λe a d q p=>p.take q⟩;obtain⟨j,n⟩:=γJ (γl l);exact dB.bY g (f.obj j x n)
 ·exact⟨σ,f,λ_ _ h=>h,λ_ _ _ _ h=>h⟩
end
def lA (P:Program) (f:FuncId) (args:List AV) (o:Store) (r:AV) (o':Store):Prop:=
 ∀(A:dL) (w:World) (b:bX) (d:List Value),bU A w b o->bE A w b o args d->
  Calls P f d.toArray w λe c=>∃u a,e= .returned u/\bU A c a o'/\bw A c a o' r u/\Ext w b o c a o'
def pL (P:Program) (call:cV):Prop:=
 ∀f a o b r c,call f a o b=some (r,c)->gQ P f=true/\lA P f a o r c/\(b=false->c=[])
section
variable {P:Program} {A B:dL} {w w':World} {σ σ':bX} {o o':Store}
theorem B5 {d e:Type} {f:d->Option e}:∀{l:List d} {c:List e},l.mapM f=some c->c.length=l.length/\∀(j:Nat) (a:d),l[j]?=some a->∃b,c[j]?=some b/\f a=some b
 |[],c,h=>by simp_all;|a::l,c,h=>by
  rw[εO] at h;cases g:f a with
  |none=>simp[g] at h;|some b=>
   cases i:l.mapM f with
   |none=>simp_all;|some r=>
    simp[g,i] at h;subst h;obtain⟨m,k⟩:=B5 i;grind
theorem zf {f:AV->Option AV} {cs a:List AV} {vs:List Value} (h:cs.mapM f=some a) (e:bE A w σ o cs vs) (n:∀c∈cs,∀d v,f c=some d->bw A w σ o c v->bw B w σ' o' d v):bE B w σ' o' a vs:=by
 obtain⟨p,m⟩:=B5 h;have q:=bE.length _ _ e;refine bE.lT _ _ (by omega) λj d k=>?_;have g:j<cs.length:=by grind
 obtain⟨v,r,i⟩:=bE.get _ _ e j _ (ν g);obtain⟨b,s,l⟩:=m j _ (ν g);grind
theorem Gn [nX A B] (hS:bU A w σ o) (hB:∀b,b<w.heap.size->Fr A σ b->¬B b):∀(d:Nat) (a Q:AV) (u:Value),freeze o d a=some Q->(∀id∈fh o d a,∀b c,σ[id]?=some (some (b,c))->¬B b)->
  bw A w σ o a u->bw B w [] [] Q u:=by
 have F:∀b,b<w.heap.size->Fr A σ b->Fr B [] b:=λb z f=>⟨λ⟨i,c,E⟩=>by simp at E,hB b z f⟩;have M:∀id t,(λ_:Nat=>(none:Option Nat)) id=some t->Tr o σ [] [] id t:=λ_ _ h=>by cases h
 intro d;induction d with
 |zero=>
  intro a Q u f _ s;cases a<;>simp only[freeze,reduceCtorEq,γ] at f;·grind[bw]
  ·rename_i v;split at f
   ·injection f with f;subst f;have:=gR s;subst this;simp only[bw,dA];exact⟨none,0,rfl,τ _,rfl,trivial⟩
   grind[bw]
  ·subst f;exact bw.ren F M _ _ _ rfl s
  ·subst f;exact bw.ren F M _ _ _ rfl s;|succ d ih=>
  intro a Q u f ht s;cases a<;>simp only[freeze,reduceCtorEq,γ] at f;·grind[bw]
  ·rename_i v;split at f
   ·injection f with f;subst f;have:=gR s;subst this;simp only[bw,dA];exact⟨none,0,rfl,τ _,rfl,trivial⟩
   grind[bw]
  ·rename_i C;obtain⟨I,h1,rfl⟩:=δ.1 f;grind[bw,zf,fh]
  ·rename_i C;obtain⟨I,h1,rfl⟩:=δ.1 f;grind[bw,zf,fh]
  ·subst f;exact bw.ren F M _ _ _ rfl s
  ·
   rename_i id q r a3;split at f
   ·rename_i C e R pu T;split at f
    ·rename_i y;obtain⟨D,P⟩:=y;simp only[bw] at s;obtain⟨a5,X,O,rfl,J,G⟩:=s;have Z:=G R ⟨C,e,pu,T,D⟩;have L:=hS.obj id _ T;simp only[dB] at L;obtain⟨q1,q2,q3⟩:=L;have k:∀(j:Nat) (c:AV),((C.drop q).take (r*R))[j]?=some c->∃(p:Addr) (v:Value),X=some p/\¬B p.block/\w.cell? (p.add j)=some v/\bw A w σ o c v:=by
      intro j c n;rw[γ9] at n;split at n
      ·rename_i S;rw[δD] at n;have a1:0<r:=by
        grind
       unfold kB at Z;split at Z;·omega
       ·rename_i b c2 K;rcases q3 with⟨h0,_⟩|⟨b',a0,a4,U,_,r3,_,_,r6⟩;·simp_all
        ·rw[K] at U;simp only[γ,μ] at U;obtain⟨rfl,rfl⟩:=U;obtain⟨v,hv,m⟩:=r6 _ c n;refine⟨⟨b,q,none⟩,v,(by grind[pJ]),ht id (by simp[fh]) b c2 K,?_,m⟩;grind[Gi,World.cell?]
       simp_all
      ·cases n
     split at f
     ·rename_i N;injection f with f;subst f;have g:dr ((C.drop q).take (r*R))=true:=tH λc n=>qy (q1 N) c (γL (γl n));simp only[bw];refine⟨X,O,rfl,J,g,dA.lT _ _ _ λj c n=>?_⟩;obtain⟨p,v,V,x,l,m⟩:=k j c n;exact⟨p,v,V,⟨λ⟨i,c,E⟩=>by simp at E,x⟩,by simpa using l,bw.ren F M c v c (AV.vh _ c (qy g c (γy n))) m⟩
     ·rename_i N;split at f
      ·rename_i I H;split at f
       ·rename_i g;injection f with f;subst f;obtain⟨m1,m2⟩:=B5 H;simp only[bw];refine⟨X,O,rfl,J,g,dA.lT _ _ _ λj c' W=>?_⟩;have S:j<((C.drop q).take (r*R)).length:=by grind
        obtain⟨p,v,V,x,l,m⟩:=k j _ (ν S);obtain⟨b,z,Y⟩:=m2 j _ (ν S);rw[W] at z;injection z with z;subst z;refine⟨p,v,V,⟨λ⟨i,c,E⟩=>by simp at E,x⟩,by simpa using l,ih _ _ v Y (λt a2=>ht t ?_) m⟩;simp only[fh,T,γE];grind
       ·cases f
      ·cases f
    ·cases f
   ·cases f
  ·grind[bw,nX.eq,zf,fh]
  ·subst f;exact bw.ren F M _ _ _ rfl s
theorem bU.far (f:bU A w σ o) (e:Ext w [] [] w' σ' o'):bU A w' σ o/\Ext w σ o w' σ o:=by
 have a:∀b,b<w.heap.size->w'.heap[b]?=w.heap[b]?:=λb d=>(e.blk b d λ⟨i,c,l⟩=>by simp at l).1;have g:Ext w σ o w' σ o:=⟨e.size,λb d k=>⟨a b d,k⟩,τ _,λ_ _ h=>⟨h,λ_ h=>⟨h,rfl⟩⟩,λ_ h=>⟨h,rfl⟩,e.os,e.tape,e.output⟩;exact⟨⟨f.len,f.dist,λi b c h=>γr (f.bnd i b c h) e.size,λi x j=>(f.obj i x j).ext g rfl λb c d=>a b (f.bnd i b c d),f.av,λb d=>γr (f.jX b d) e.size⟩,g⟩
mutual
theorem N3:∀(r:AV) (u:Value),r.kZ=true->bw A w σ o r u->bw B w' σ' o' r u
 | .ud,_,_,_=>by simp[bw];| .sc v,u,_,h=>by grind[bw];| .agg b,u,a,h=>by
  simp only[AV.kZ] at a;simp only[bw] at h ⊢;obtain⟨d,rfl,e⟩:=h;exact⟨d,rfl,Gp b _ a e⟩;| .bH b,u,a,h=>by
  simp only[AV.kZ] at a;simp only[bw] at h ⊢;obtain⟨d,rfl,e⟩:=h;exact⟨d,rfl,Gp b _ a e⟩;| .sl n b,u,a,h=>by
  grind[AV.kZ,bw,dA];| .ep _ _,_,a,_| .ptr _ _ _,_,a,_| .os _ _ _ _,_,a,_| .mp _,_,a,_| .fn _ _ _,_,a,_| .iU _ _,_,a,_=>by simp[AV.kZ] at a
theorem Gp:∀(b:List AV) (d:List Value),uX b=true->bE A w σ o b d->bE B w' σ' o' b d
 |[],d,_,h=>by grind[bE];|c::b,d,a,h=>by
  simp only[uX,ζ] at a;simp only[bE] at h ⊢;obtain⟨v,r,rfl,f,e⟩:=h;exact⟨v,r,rfl,N3 c v a.1 f,Gp b r a.2 e⟩
end
theorem B6 (w:World) (a:∀b,A b->b<w.heap.size):bU A w [] []:=⟨rfl,by simp,by simp,by simp,by simp,a⟩
theorem XR {call:cV} (q:pL P call) (n:bU A w σ o) {f:FuncId} {args a:List AV} {vs:List Value} (N:bE A w σ o args vs) (K:args.mapM (freeze o 6)=some a) {r:AV}
  (X:call f a [] false=some (r,[])) (y:(args.flatMap (fh o 6)).isEmpty=true\/r.kZ=true):
  gQ P f=true/\Calls P f vs.toArray w λe w'=>∃u g,e= .returned u/\bU A w' g o/\bw A w' g o r u/\Ext w σ o w' g o:=by
 obtain⟨S,C,_⟩:=q _ _ _ _ _ _ X;refine⟨S,?_⟩;rcases y with y|y;·
  let B:dL:=⟨λb=>A b\/Own σ b,A.l⟩;have Q:∀b,B b->b<w.heap.size:=λb z=>Or.elim (show A b\/Own σ b from z) (n.jX b) λ⟨i,c,V⟩=>n.bnd i b c V;haveI:nX A B:=⟨rfl⟩;haveI:nX B A:=⟨rfl⟩;have j:bE B w [] [] a vs:=zf K N λc E J v s t=>Gn n (λb _ d z=>Or.elim (show A b\/Own σ b from z) d.2 d.1) 6 c J v s (λI U=>by
   simp_all) t;refine(C B w [] vs (B6 w Q) j).mono ?_;rintro e w' ⟨u,g,rfl,F,p,G⟩;obtain⟨M,L⟩:=n.far G;refine⟨u,σ,rfl,M,?_,L⟩;have D:r.bY 0=true:=bw.bY (k:=0) (λi x _ W=>by simp at W) r u p;refine bw.ren (m:=qA 0) (λb z d=>⟨λR=>d.2 (show A b\/Own σ b from .inr R),λT=>d.2 (show A b\/Own σ b from .inl T)⟩) (λI O h=>by grind[qA]) r u r (B2 0 r D) p
 ·have j:bE A w [] [] a vs:=zf K N λc E J v s t=>Gn n (λb _ d z=>d.2 z) 6 c J v s (λI _ b Y H=>n.av I b Y H) t;refine(C A w [] vs (B6 w n.jX) j).mono ?_;rintro e w' ⟨u,g,rfl,F,p,G⟩;obtain⟨M,L⟩:=n.far G;grind[N3]
end
section
variable {A:dL} {w:World} {σ:bX} {o:Store}
def ji (o:Store) (p:Nat->Bool) (i:Nat):Bool:=p i&&(match o[i]? with|some (.cells _ _ _ true)=>true|_=>false)
def lV (o:Store) (p:Nat->Bool) (σ:bX):bX:=(π σ.length).map λi=>if ji o p i then none else(σ[i]?).getD none
theorem Gq (o:Store) (p:Nat->Bool) (σ:bX):(lV o p σ).length=σ.length:=by simp[lV]
theorem Gs {o:Store} {p:Nat->Bool} {σ:bX} {i:Nat} (a:i<σ.length):(lV o p σ)[i]?=some (if ji o p i then none else(σ[i]?).getD none):=by
 simp[lV,a]
theorem vi {o:Store} {p:Nat->Bool} {σ:bX} {i:Nat} {s:Nat×Nat} (h:(lV o p σ)[i]?=some (some s)):σ[i]?=some (some s)/\ji o p i=false:=by
 have a:i<σ.length:=by grind[Gq]
 simp_all[Gs]
theorem N4 {o:Store} {p:Nat->Bool} {σ:bX} {i:Nat} (h:ji o p i=false):(lV o p σ)[i]?=σ[i]?:=by
 grind[Gs,Gq]
def Gt (p:Nat->Bool) (i:Nat):bP->bP
 | .cells b e a true=>if p i then .dead else .cells b e a true
 |x=>x
theorem B7 (p:Nat->Bool):∀(o:Store) (k i:Nat),(fE p k o)[i]?=(o[i]?).map (Gt p (k+i))
 |[],k,i=>by simp[fE];|x::r,k,i=>by
  simp only[fE];cases i with
  |zero=>simp only[List.getElem?_cons_zero,γm,Nat.add_zero];congr 1;|succ i=>simp only[γO];rw[B7 p r (k+1) i,show k+1+i=k+(i+1) from by omega]
theorem N5 {p:Nat->Bool} {a:Store}:∀{o o':Store},jh a p o=some o'->o'.length=o.length/\∀(i:Nat) (x:bP),o[i]?=some x->∃y,x.bT a p=some y/\o'[i]?=some y
 |[],o',h=>by grind[jh];|x::r,o',h=>by
  simp only[jh] at h;split at h
  ·rename_i y l e b;injection h with h;subst h;obtain⟨d,c⟩:=N5 b;grind
  ·cases h
theorem Gu {o:Store} {p:Nat->Bool}:∀{cs a:List AV},gP o p cs=some a->a.length=cs.length/\∀(j:Nat) (b:AV),a[j]?=some b->∃c,cs[j]?=some c/\c.bT o p=some b
 |[],a,h=>by grind[gP];|c::cs,a,h=>by
  simp only[gP] at h;split at h
  ·rename_i k e f d;injection h with h;subst h;obtain⟨i,g⟩:=Gu d;grind
  ·cases h
theorem N6 {o:Store} {p:Nat->Bool}:∀{es a:List (Value×AV)},qu o p es=some a->a.length=es.length/\∀(j:Nat) (b:Value×AV),a[j]?=some b->∃e,es[j]?=some e/\e.1=b.1/\e.2.bT o p=some b.2
 |[],a,h=>by grind[qu];|e::es,a,h=>by
  simp only[qu] at h;split at h
  ·rename_i v d f c;injection h with h;subst h;obtain⟨g,i⟩:=N6 c;grind
  ·cases h
theorem N7 {o:Store} {p:Nat->Bool}:∀{env a:jg},uZ o p env=some a->∀s,(dI env s).bT o p=some (dI a s)
 |[],a,h,s=>by simp only[uZ,γ] at h;subst h;rfl;|(k,v)::r,a,h,s=>by
  simp only[uZ] at h;split at h
  ·rename_i e d b c;injection h with h;subst h;simp only[dI];cases f:Nat.beq k s with
   |true=>exact b;|false=>exact N7 c s
  ·cases h
mutual
theorem AV.N8 (o:Store) (p:Nat->Bool):∀(c:AV),c.pure=true->c.bT o p=some c
 | .sc _,_=>rfl
 | .sl _ _,_=>rfl
 | .ud,h| .agg _,h| .bH _,h| .ep _ _,h| .ptr _ _ _,h| .os _ _ _ _,h| .mp _,h| .fn _ _ _,h| .iU _ _,h=>by simp[AV.pure] at h
end
theorem XS {o:Store} {p:Nat->Bool} {c a:AV} (h:c.bT o p=some a) (b:c.one=true):a.one=true:=by
 cases c<;>simp only[AV.one,χ] at b<;>simp only[AV.bT] at h<;>grind[AV.one,AV.bT]
structure tK (o:Store) (p:Nat->Bool) (o2:Store):Prop where
 len:o2.length=o.length
 get:∀i x,o[i]?=some x->(ji o p i=true/\o2[i]?=some .dead)\/(ji o p i=false/\∃y,x.bT o p=some y/\o2[i]?=some y)
theorem N9 {o a:Store} {p:Nat->Bool} (h:jh o p o=some a):tK o p (fE p 0 a):=by
 obtain⟨k,l⟩:=N5 h;have n:(fE p 0 a).length=o.length:=by
  rw[<-k];apply Nat.le_antisymm
  ·rcases εR a.length (fE p 0 a).length with h|h
   ·exfalso;have:=B7 p a 0 a.length;simp_all
   ·exact h
  ·rcases εR (fE p 0 a).length a.length with h|h
   ·exfalso;have:=B7 p a 0 (fE p 0 a).length;simp_all
   ·exact h
 refine⟨n,λi x j=>?_⟩;obtain⟨y,b,f⟩:=l i x j;have d:=B7 p a 0 i;rw[f,Nat.zero_add] at d;simp only[γm] at d;unfold ji;rw[j];cases x with
 |cells s e q g=>
  cases g with
  |true=>
   simp only[bP.bT,if_true,γ] at b;grind[Gt];|false=>
   right;simp only[bP.bT,χ,if_false,δ] at b;grind[Gt]
 |dead=>
  simp only[bP.bT,γ] at b;subst b;right;exact⟨by simp,_,rfl,d⟩;|map r m g=>
  right;have:∃c,y= .map c m g:=by
   simp only[bP.bT] at b;split at b;·grind
   ·obtain⟨c,_,rfl⟩:=δ.1 b;simp_all
  obtain⟨c,rfl⟩:=this;exact⟨by simp,_,b,d⟩
theorem tK.tr {o2:Store} {p:Nat->Bool} (h:tK o p o2) {id:Nat} (m:ji o p id=false):Tr o σ o2 (lV o p σ) id id:=by
 refine⟨λn e q d c=>?_,λ⟨l,g,d,c⟩=>?_,N4 m⟩
 ·rcases h.get id _ c with⟨i,_⟩|⟨_,y,a,b⟩;·simp_all
  ·simp only[bP.bT] at a;split at a;·grind
   ·obtain⟨k,j,rfl⟩:=δ.1 a;grind[Gu]
 ·rcases h.get id _ c with⟨i,_⟩|⟨_,y,a,b⟩;·simp_all
  ·simp only[bP.bT] at a;split at a;·injection a with a;subst a;exact⟨l,g,d,b⟩
   ·obtain⟨f,j,rfl⟩:=δ.1 a;exact⟨f,g,d,b⟩
theorem vj {p:Nat->Bool} {b:Nat} (h:Fr A σ b):Fr A (lV o p σ) b:=⟨λ⟨i,c,a⟩=>h.1 ⟨i,c,(vi a).1⟩,h.2⟩
mutual
theorem bw.bT (E:bU A w σ o) {p:Nat->Bool} {o2:Store} (D:tK o p o2):∀(c:AV) (v:Value) (q:AV),c.bT o p=some q->bw A w σ o c v->bw A w (lV o p σ) o2 q v
 | .ud,v,q,d,_=>by grind[AV.bT,bw];| .sc u,v,q,d,h=>by grind[AV.bT,bw];| .sl n s,v,q,d,h=>by
  simp only[AV.bT,γ] at d;subst d;exact bw.ren (m:=λ_=>none) (λb _ z=>vj z) (λ_ _ h=>by cases h) _ _ _ rfl h;| .ep s B,v,q,d,h=>by
  simp only[AV.bT,γ] at d;subst d;exact bw.ren (m:=λ_=>none) (λb _ z=>vj z) (λ_ _ h=>by cases h) _ _ _ rfl h;| .agg s,v,q,d,h=>by
  simp only[AV.bT,δ] at d;obtain⟨k,K,rfl⟩:=d;simp only[bw] at h ⊢;obtain⟨F,rfl,Q⟩:=h;exact⟨F,rfl,bE.bT E D s _ k K Q⟩;| .bH s,v,q,d,h=>by
  simp only[AV.bT,δ] at d;obtain⟨k,K,rfl⟩:=d;simp only[bw] at h ⊢;obtain⟨F,rfl,Q⟩:=h;exact⟨F,rfl,bE.bT E D s _ k K Q⟩;| .ptr l B G,v,q,d,h=>by
  have H:ji o p l=false/\q= .ptr l B G:=by
   grind[ji,AV.bT]
  obtain⟨H,rfl⟩:=H;exact bw.ren (m:=λi=>if i=l then some l else none) (λb _ z=>vj z) (λi j g=>by
   split at g;·rename_i M;injection g with g;subst M;subst g;exact D.tr H
   ·cases g) _ _ _ (by simp[δC]) h;| .mp l,v,q,d,h=>by
  simp only[AV.bT,γ] at d;subst d;have H:ji o p l=false:=by
   simp only[bw] at h;obtain⟨⟨es,kt,pu,S⟩,_⟩:=h;simp[ji,S]
  exact bw.ren (m:=λi=>if i=l then some l else none) (λb _ z=>vj z) (λi j g=>by
   split at g;·rename_i M;injection g with g;subst M;subst g;exact D.tr H
   ·cases g) _ _ _ (by simp[δC]) h;| .fn f a b,v,q,d,h=>by
  simp only[AV.bT] at d;split at d
  ·rename_i a' b' K h2;injection d with d;subst d;simp only[bw] at h ⊢;obtain⟨x,y,rfl,hx,hy⟩:=h;exact⟨x,y,rfl,bE.bT E D a _ a' K hx,bE.bT E D b _ b' h2 hy⟩
  ·cases d;| .iU t s,v,q,d,h=>by
  simp only[AV.bT,γ] at d;subst d;exact bw.ren (m:=λ_=>none) (λb _ z=>vj z) (λ_ _ h=>by cases h) _ _ _ rfl h;| .os l B L G,v,q,d,h=>by
  have a3:ji o p l=false->q= .os l B L G->bw A w (lV o p σ) o2 q v:=by
   rintro H rfl;exact bw.ren (m:=λi=>if i=l then some l else none) (λb _ z=>vj z) (λi j g=>by
    split at g;·rename_i M;injection g with g;subst M;subst g;exact D.tr H
    ·cases g) _ _ _ (by simp[δC]) h
  simp only[AV.bT] at d;split at d
  ·rename_i hp;split at d
   ·rename_i s e sz pu S;split at d
    ·rename_i V;subst V;split at d
     ·rename_i J;injection d with d;subst d;obtain⟨N,R⟩:=J;have a4:ji o p l=true:=by grind[ji]
      simp only[bw] at h;obtain⟨a6,X,Y,rfl,W,O⟩:=h;have hk:=O sz ⟨s,e,true,S,N⟩;have P:=E.obj l _ S;simp only[dB] at P;obtain⟨q1,q2,q3⟩:=P;have C:dr ((s.drop B).take (L*sz))=true:=tH λc d=>qy (q1 trivial) c (γL (γl d));simp only[bw];refine⟨X,Y,rfl,W,C,dA.lT _ _ _ λj c d=>?_⟩;have a0:=qy C c (γy d);rw[γ9] at d;split at d
      ·rename_i hj;rw[δD] at d;have a2:0<L:=by
        grind
       unfold kB at hk;split at hk;·omega
       ·rename_i b c2 I;rcases q3 with⟨M,_⟩|⟨b',a1,a5,T,_,r3,_,_,r6⟩;·simp_all
        ·rw[I] at T;simp only[γ,μ] at T;obtain⟨rfl,rfl⟩:=T;obtain⟨u,hu,U⟩:=r6 _ c d;refine⟨⟨b,B,none⟩,u,(by grind[pJ]),⟨?_,E.av l b c2 I⟩,?_,?_⟩
         ·rintro⟨i,c3,hi⟩;obtain⟨k1,k2⟩:=vi hi;have:=E.dist l i b c2 c3 I k1;simp_all
         ·grind[Gi,World.cell?]
         ·exact bw.ren (m:=λ_=>none) (λb _ z=>vj z) (λ_ _ h=>by cases h) c u c (AV.vh _ c a0) U
       simp_all
      ·cases d
     ·cases d
    grind[ji]
   grind[ji]
  grind[ji]
theorem bE.bT (E:bU A w σ o) {p:Nat->Bool} {o2:Store} (D:tK o p o2):∀(s:List AV) (F:List Value) (k:List AV),gP o p s=some k->bE A w σ o s F->bE A w (lV o p σ) o2 k F
 |[],F,k,d,h=>by grind[gP,bE];|c::s,F,k,d,h=>by
  simp only[gP] at d;split at d
  ·rename_i c1 Z K h2;injection d with d;subst d;simp only[bE] at h ⊢;obtain⟨v,r,rfl,hv,Q⟩:=h;exact⟨v,r,rfl,bw.bT E D c v c1 K hv,bE.bT E D s r Z h2 Q⟩
  ·cases d
end
end
section
variable {A:dL} {w:World} {σ:bX} {o:Store}
theorem dB.bT (D:bU A w σ o) {p:Nat->Bool} {o2:Store} (J:tK o p o2) {i:Nat} {x y:bP} (V:o[i]?=some x) (hd:ji o p i=false) (f:x.bT o p=some y):dB A w (lV o p σ) o2 i y:=by
 have h:=D.obj i x V;have C:=N4 (σ:=σ) hd;cases x with
 |dead=>grind[bP.bT,dB];|cells t e sz H=>
  simp only[dB] at h;obtain⟨s,B,z⟩:=h;have n:∀a,a.length=t.length->(H=true->dr a=true)->eF a=true->(∀(j:Nat) (g:AV) (v:Value),a[j]?=some g->(∀c,t[j]?=some c->bw A w σ o c v->bw A w (lV o p σ) o2 g v))->dB A w (lV o p σ) o2 i (.cells a e sz H):=by
   intro a k1 O U Q;simp only[dB];refine⟨O,U,?_⟩;rcases z with⟨h0,N⟩|⟨b,F,G,r1,P,R,S,r5,r6⟩;·simp_all
   ·refine .inr ⟨b,F,G,by simp_all,P,R,S,by omega,λj g k=>?_⟩;have r:j<t.length:=by grind
    obtain⟨v,X,u⟩:=r6 j _ (ν r);exact⟨v,X,Q j g v k _ (ν r) u⟩
  simp only[bP.bT] at f;split at f
  ·rename_i d;injection f with f;subst f;refine n t rfl s B λj g v k c m u=>?_;rw[k] at m;injection m with m;subst m;exact bw.bT D J g v g (AV.N8 o p g (qy (s d) g (γy k))) u
  ·rename_i d;obtain⟨a,l,rfl⟩:=δ.1 f;obtain⟨I,g2⟩:=Gu l;refine n a I (λE=>absurd E d) (nn.2 λc m=>?_) λj g v k c m u=>?_
   ·obtain⟨j,k⟩:=γJ m;grind[XS,nn]
   grind[bw.bT];|map es kt H=>
  simp only[dB] at h;obtain⟨s,B,b,c,K,M,z,L,h5,Y⟩:=h;simp only[bP.bT] at f;split at f
  ·rename_i d;injection f with f;subst f;simp only[dB];refine⟨s,B,b,c,K,M,by simp_all,L,h5,λj e q=>?_⟩;obtain⟨W,Z,q2,T⟩:=Y j e q;exact⟨W,Z,q2,bw.bT D J e.2 _ e.2 (AV.N8 o p e.2 (s d e (γy q))) T⟩
  ·rename_i d;obtain⟨a0,l,rfl⟩:=δ.1 f;obtain⟨I,g2⟩:=N6 l;simp only[dB];refine⟨λE=>absurd E d,λe q=>?_,b,c,K,M,by rw[C];exact z,L,by omega,λj e' q=>?_⟩
   ·obtain⟨j,k⟩:=γJ q;grind
   grind[bw.bT]
theorem bU.bT (e:bU A w σ o) {p:Nat->Bool} {o2:Store} (g:tK o p o2):bU A w (lV o p σ) o2:=by
 refine⟨by rw[Gq,g.len,e.len],λi j b c d a m=>e.dist i j b c d (vi a).1 (vi m).1,λi b c a=>e.bnd i b c (vi a).1,λi y h=>?_,λi b c a=>e.av i b c (vi a).1,e.jX⟩;have a:i<o.length:=by have:=(θ.1 h).1;rw[g.len] at this;exact this
 have l:=ν a;rcases g.get i _ l with⟨k,f⟩|⟨k,z,f,n⟩
 ·rw[h] at f;injection f with f;subst f;simp only[dB];rw[Gs (by rw[e.len];exact a),k];rfl
 grind[dB.bT]
theorem Ext.bT {t:World} {k:bX} {h:Store} (a:Ext t k h w σ o) {p:Nat->Bool} {o2:Store} (m:tK o p o2) (B:∀i,i<h.length->p i=false):Ext t k h w (lV o p σ) o2 where
 size:=a.size;blk:=λb u y=>by
  obtain⟨g,j⟩:=a.blk b u y;exact⟨g,λ⟨i,c,z⟩=>j ⟨i,c,(vi z).1⟩⟩
 len:=by rw[m.len];exact a.len
 cur:=λd q l=>by
  obtain⟨g,j⟩:=a.cur d q l;have r:d<h.length:=by obtain⟨D,e,s,A,x,_⟩:=l;grind
  have n:ji o p d=false:=by grind[ji]
  have f:=m.tr (σ:=σ) n;refine⟨f.wY g,λs v=>?_⟩;rw[f.2.2];exact j s (f.cur g v)
 isMap:=λd l=>by
  obtain⟨g,j⟩:=a.isMap d l;have r:d<h.length:=by obtain⟨C,E,A,x⟩:=l;grind
  have n:ji o p d=false:=by grind[ji]
  have f:=m.tr (σ:=σ) n;exact⟨f.2.1 g,by rw[f.2.2];exact j⟩
 os:=a.os;tape:=a.tape;output:=a.output
end
def qB (o:Store) (d:Nat) (id:Nat) (acc:List Nat):List Nat:=
 if acc.contains id then acc else
 match o[id]? with
 |some (.cells b _ _ a)=>if a then acc++[id] else cJ o d b (acc++[id])
 |some (.map c _ a)=>if a then acc++[id] else cJ o d (c.map (·.2)) (acc++[id])
 |_=>acc++[id]
def vk (o:Store) (d:Nat) (v:AV) (acc:List Nat):List Nat:=
 match v with
 | .agg e| .bH e=>cJ o d e acc
 | .ptr c _ _| .os c _ _ _| .mp c=>qB o d c acc
 | .fn _ a b=>cJ o d b (cJ o d a acc)
 |_=>acc
theorem zg (o:Store) (d:Nat) (v:AV) (vs:List AV) (acc:List Nat):cJ o (d+1) (v::vs) acc=cJ o d vs (vk o d v acc):=by
 cases v<;>rfl
theorem zh:∀(a:List Nat) (o X:Store),(lO o a X).length=o.length
 |[],o,X=>by cases X<;>rfl;|i::r,o,[]=>rfl
 |i::r,o,x::l=>by simp only[lO];rw[zh r];simp
theorem B8:∀(a:List Nat) (o X:Store) (j:Nat),j∉a->(lO o a X)[j]?=o[j]?
 |[],o,X,j,_=>by cases X<;>rfl;|i::r,o,[],j,_=>rfl
 |i::r,o,x::l,j,h=>by
  simp only[γE,not_or] at h;simp only[lO];rw[B8 r _ l j h.2,List.getElem?_set_ne (Ne.symm h.1)]
theorem Gv {m:Nat->Option Nat}:∀{o o':Store},sx m o=some o'->o'.length=o.length
 |[],o',h=>by grind[sx];|x::r,o',h=>by
  simp only[sx] at h;split at h;·rename_i y l b a;injection h with h;subst h;simp[Gv a]
  ·cases h
theorem tL (o:Store):∀(d:Nat) (vs:List AV) (acc:List Nat),∃t,cJ o d vs acc=acc++t
 |0,vs,acc=>⟨[],by grind[cJ]⟩
 |d+1,[],acc=>⟨[],by simp[cJ]⟩
 |d+1,v::vs,acc=>by
  rw[zg];have e:∀c,∃t,qB o d c acc=acc++t:=by
   intro c;unfold qB;split;·simp_all
   ·split
    ·split;·simp_all
     ·obtain⟨t,h⟩:=tL o d ‹_› (acc++[c]);simp_all
    ·split;·simp_all
     ·rename_i m _ _ _ _;obtain⟨t,h⟩:=tL o d (m.map (·.2)) (acc++[c]);simp_all
    simp_all
  have j:∃t,vk o d v acc=acc++t:=by
   cases v with
   |agg g=>exact tL o d g acc;|bH g=>exact tL o d g acc;|ptr c _ _=>exact e c;|os c _ _ _=>exact e c;|mp c=>exact e c;|fn f a b=>
    obtain⟨i,n⟩:=tL o d a acc;obtain⟨l,p⟩:=tL o d b (acc++i);grind[vk];|_=>exact⟨[],by simp[vk]⟩
  obtain⟨t,h⟩:=j;obtain⟨l,k⟩:=tL o d vs (acc++t);simp_all
theorem w8:∀{b:List Nat} {i k j:Nat},idxOf b i k=some j->k<=j/\b[j - k]?=some i
 |[],i,k,j,h=>by grind[idxOf];|a::r,i,k,j,h=>by
  simp only[idxOf] at h;split at h;·simp_all
  ·obtain⟨d,c⟩:=w8 h;grind
theorem B9:∀{l:List Nat},iH.pF l=true->l.Nodup
 |[],_=>List.nodup_nil
 |a::r,h=>by
  simp only[iH.pF,ζ,δd,List.contains_eq_mem,decide_eq_false_iff_not] at h;exact γN.2 ⟨h.1,B9 h.2⟩
theorem w9 {o:Store} {b:List Nat}:∀{r:List Nat} {s:Store},kY o b r=some s->s.length=r.length/\∀(j i:Nat),r[j]?=some i->∃x y,o[i]?=some x/\x.ren (λj=>idxOf b j)=some y/\s[j]?=some y
 |[],s,h=>by grind[kY];|a::r,s,h=>by
  simp only[kY] at h;split at h
  ·rename_i x l f c;obtain⟨y,d,rfl⟩:=δ.1 h;obtain⟨g,e⟩:=w9 c;grind
  ·cases h
theorem Cb {m:Nat->Option Nat}:∀{o o':Store},sx m o=some o'->∀(i:Nat) (x:bP),o[i]?=some x->∃y,x.ren m=some y/\o'[i]?=some y
 |[],o',h,i,x,b=>by simp at b;|a::r,o',h,i,x,b=>by
  simp only[sx] at h;split at h
  ·rename_i y l f c;injection h with h;subst h;cases i with
   |zero=>simp_all;|succ i=>obtain⟨z,e,d⟩:=Cb c i x (by simp_all);simp_all
  ·cases h
theorem Oa {m:Nat->Option Nat} {cs:List AV} {e:TypeId} {sz:Nat} {pu:Bool} {y:bP} (h:(bP.cells cs e sz pu).ren m=some y):∃a,y= .cells a e sz pu/\a.length=cs.length:=by
 simp only[bP.ren] at h;split at h;·grind
 ·obtain⟨a,b,rfl⟩:=δ.1 h;grind[Gm]
theorem Ob {m:Nat->Option Nat} {es:List (Value×AV)} {b:List Nat×Bool} {pu:Bool} {y:bP} (h:(bP.map es b pu).ren m=some y):∃a,y= .map a b pu:=by
 simp only[bP.ren] at h;split at h;·grind
 ·obtain⟨a,c,rfl⟩:=δ.1 h;simp_all
def lW (σ:bX) (a:List Nat):bX:=a.map λi=>(σ[i]?).getD none
section
variable {A A':dL} {w:World} {σ:bX} {o s:Store} {ids:List Nat}
theorem rD {j:Nat} {t:Nat×Nat} (h:(lW σ ids)[j]?=some (some t)):∃i,ids[j]?=some i/\σ[i]?=some (some t):=by
 grind[lW]
theorem Gw (a:σ.length=o.length) (b:kY o ids ids=some s) {j i:Nat} (c:ids[j]?=some i):(lW σ ids)[j]?=σ[i]?:=by
 obtain⟨_,d⟩:=w9 b;grind[lW]
theorem vl (c:σ.length=o.length) (i:kY o ids ids=some s) {id a:Nat} (h:idxOf ids id=some a):Tr o σ s (lW σ ids) id a:=by
 obtain⟨_,f⟩:=w8 h;simp only[εQ] at f;obtain⟨_,n⟩:=w9 i;obtain⟨x,y,m,l,d⟩:=n a id f;refine⟨λr e q j b=>?_,λ⟨p,k,j,b⟩=>?_,Gw c i f⟩;·grind[Oa]
 ·rw[m] at b;injection b with b;subst b;obtain⟨g,rfl⟩:=Ob l;exact⟨g,k,j,d⟩
theorem bU.sub [nX A A'] (f:bU A w σ o) (u:ids.Nodup) (n:kY o ids ids=some s) (E:∀b,b<w.heap.size->Fr A σ b->Fr A' (lW σ ids) b)
  (D:∀i∈ids,∀b c,σ[i]?=some (some (b,c))->¬A' b) (g:∀b,A' b->b<w.heap.size):bU A' w (lW σ ids) s:=by
 obtain⟨F,B⟩:=w9 n;refine⟨by grind[lW],λi j b c d m l=>?_,λi b c m=>?_,λj y C=>?_,λi b c m=>?_,g⟩
 ·obtain⟨x,k,e⟩:=rD m;obtain⟨z,t,p⟩:=rD l;have:=f.dist x z b c d e p;subst this;exact(ζe (θ.1 k).1 u).1 (k.trans t.symm)
 ·obtain⟨x,k,e⟩:=rD m;exact f.bnd x b c e
 ·have q:j<ids.length:=by grind
  have l:=ν q;obtain⟨x,H,k,r,a⟩:=B j _ l;rw[C] at a;injection a with a;subst a;exact dB.ren E (λG v h=>vl f.len n h) r (Gw f.len n l) (f.obj _ x k)
 grind[rD]
theorem XT {o':Store} {U:World} {H:bX} {p:Store} (Z:bU A w σ o) (hE:Ext U H p w σ o) {V r:AV} {u:Value} (hr:bw A w σ o V u) (g:lQ p.length V o=some (r,o')):
  ∃F,bU A w F o'/\bw A w F o' r u/\Ext U H p w F o':=by
 unfold lQ at g;split at g
 ·rename_i Y o1 S O;have N:=N9 O;have f:=Z.bT N;have d:=hE.bT N (λi z=>by simp_all);have C:=bw.bT Z N _ _ _ S hr;simp only at g;generalize fE (λi=>decide (p.length<=i)) 0 o1=M at g N f d C;generalize lV o (λi=>decide (p.length<=i)) σ=D at f d C;obtain⟨t,ht⟩:=tL M fD (Y::(M.take p.length).flatMap lQ.bP.y9) (π p.length);generalize cJ M fD (Y::(M.take p.length).flatMap lQ.bP.y9) (π p.length)=n at g ht;split at g
  ·rename_i L;split at g
   ·rename_i r2 s2 Q s;simp only[γ,μ] at g;obtain⟨rfl,rfl⟩:=g;have J:∀b,b<w.heap.size->Fr A D b->Fr A (lW D n) b:=λb _ g=>⟨λ⟨i,c,z⟩=>by
     obtain⟨x,hx,B⟩:=rD z;exact g.1 ⟨x,c,B⟩,g.2⟩;have K:∀i,i<p.length->n[i]?=some i:=by
     grind
    have y:∀i,i<p.length->idxOf n i=some i:=by
     intro i z;have T:i∈n:=γy (K i z);have:∃j,idxOf n i=some j:=by
      have a0:∀(l:List Nat) (k:Nat),i∈l->∃j,idxOf l i k=some j:=by
       intro l;induction l with
       |nil=>simp_all;|cons a l ih=>
        intro k h;simp only[idxOf];split;·simp_all
        ·rename_i P;refine ih (k+1) ((γE.1 h).resolve_left λq=>P (by simp[q]))
      simp_all
     obtain⟨j,W⟩:=this;obtain⟨_,q⟩:=w8 W;simp only[εQ] at q;have:=(ζe (θ.1 q).1 (B9 L)).1 (q.trans (K i z).symm);rw[W,this]
    refine⟨lW D n,f.sub (B9 L) s J (λi _ b c h=>f.av i b c h) f.jX,bw.ren J (λv a1 h=>vl f.len s h) _ _ _ Q C,d.size,λb hb hn=>?_,?_,λv R I=>?_,λv I=>?_,d.os,d.tape,d.output⟩
    ·obtain⟨G,q⟩:=d.blk b hb hn;refine⟨G,λ⟨i,c,z⟩=>?_⟩;obtain⟨x,hx,B⟩:=rD z;exact q ⟨x,c,B⟩
    ·grind[w9]
    ·obtain⟨G,q⟩:=d.cur v R I;have E:v<p.length:=by obtain⟨cs,e,X,pu,ho,_⟩:=I;grind
     have m:=vl f.len s (y v E);refine⟨m.wY G,λX hc=>?_⟩;rw[m.2.2];exact q X (m.cur G hc)
    ·obtain⟨G,q⟩:=d.isMap v I;have E:v<p.length:=by obtain⟨es,kt,pu,ho⟩:=I;grind
     have m:=vl f.len s (y v E);exact⟨m.2.1 G,by rw[m.2.2];exact q⟩
   ·cases g
  ·cases g
 ·cases g
end
theorem Oc:∀(b:List Nat) (o X:Store) (j i:Nat) (x:bP),b.Nodup->b[j]?=some i->i<o.length->X[j]?=some x->(lO o b X)[i]?=some x
 |[],o,X,j,i,x,_,c,_,_=>by simp at c;|a::r,o,[],j,i,x,_,_,_,d=>by simp at d;|a::r,o,y::l,j,i,x,e,c,f,d=>by
  rw[γN] at e;simp only[lO];cases j with
  |zero=>
   grind[B8];|succ j=>
   simp only[γO] at c d;exact Oc r _ l j i x e.2 c (by simp_all) d
theorem Gx {i:Nat}:∀{l:List Nat} {k:Nat},i∈l->∃j,idxOf l i k=some j
 |[],k,h=>by simp at h;|a::l,k,h=>by
  simp only[idxOf];split;·simp_all
  ·rename_i b;exact Gx ((γE.1 h).resolve_left λc=>b (by simp[c]))
def pM (σ b:bX) (a:List Nat):bX:=
 ((π σ.length).map λi=>match idxOf a i with|some j=>(b[j]?).getD none|none=>(σ[i]?).getD none)++b.drop a.length
section
variable {A:dL} {w:World} {σ:bX} {o:Store}
theorem XU {P:Program} {call:cV} (a9:pL P call) (v:bU A w σ o) {f:FuncId} {args:List AV} {vs:List Value} (hr:bE A w σ o args vs)
  {r:AV} {o':Store} (J:iH call f args o=some (r,o')):
  gQ P f=true/\Calls P f vs.toArray w λe w'=>∃u g,e= .returned u/\bU A w' g o'/\bw A w' g o' r u/\Ext w σ o w' g o':=by
 unfold iH at J;simp only at J;generalize cJ o fD args []=a at J;split at J
 ·rename_i U T ha I;split at J
  ·rename_i r1 n c1;split at J;·cases J
   ·rename_i Q;simp only[not_or,Bool.not_eq_false,Nat.not_lt] at Q;obtain⟨d2,a1⟩:=Q;have a1:=B9 a1;split at J
    ·rename_i r2 b9 c0 S;simp only[γ,μ] at J;obtain⟨rfl,d3⟩:=J;obtain⟨hg,c2,_⟩:=a9 _ _ _ _ _ _ c1;refine⟨hg,?_⟩;have d0:=w9 I;have b2:∀(j i:Nat),a[j]?=some i->i<o.length:=λj i m=>by
      grind
     have d4:=λ{j i:Nat} (m:a[j]?=some i)=>Gw v.len I m;obtain⟨N,s,a5⟩:∃N:dL,(∀b,N b↔(A b\/(Own σ b/\¬Own (lW σ a) b)))/\N.l=A.l:=⟨⟨λb=>A b\/(Own σ b/\¬Own (lW σ a) b),A.l⟩,λb=>Iff.rfl,rfl⟩;haveI:nX A N:=⟨a5⟩;haveI:nX N A:=⟨a5.symm⟩;have b4:∀b,b<w.heap.size->Fr A σ b->Fr N (lW σ a) b:=λb _ hf=>⟨λ⟨i,c,p⟩=>by
      obtain⟨x,hx,G⟩:=rD p;exact hf.1 ⟨x,c,G⟩,λh=>((s b).1 h).elim hf.2 λh=>hf.1 h.1⟩;have c6:bU N w (lW σ a) T:=v.sub a1 I b4 (λi p b c h hA=>by
      rcases(s b).1 hA with q|⟨_,q⟩;·exact v.av i b c h q
      ·obtain⟨j,m⟩:=γJ p;exact q ⟨j,c,by simp_all⟩) (λb h=>((s b).1 h).elim (v.jX b) λ⟨⟨i,c,p⟩,_⟩=>v.bnd i b c p);have b1:bE N w (lW σ a) T U vs:=bE.ren b4 (λD d6 h=>vl v.len I h) args vs U ha hr;refine(c2 N w _ vs c6 b1).mono ?_;rintro e w' ⟨u,g,rfl,C,c7,X⟩;have d5:=Gv S;have hN:=v.len;have b7:(pM σ g a).length=o.length+(n.length - a.length):=by simp[pM,hN,C.len]
     have a7:o'.length=o.length+(n.length - a.length):=by grind[zh]
     have a8:∀i,i<o.length->idxOf a i=none->(pM σ g a)[i]?=σ[i]?/\o'[i]?=o[i]?/\i∉a:=by
      intro i p hn;have d1:i∉a:=λh=>by obtain⟨j,m⟩:=Gx (k:=0) h;simp_all
      grind[pM,B8]
     have b6:∀j t,oN a o.length j=some t->(pM σ g a)[t]?=g[j]?/\o'[t]?=b9[j]?:=by
      intro j t m;unfold oN at m;split at m
      ·rename_i i K;injection m with m;subst m;have p:=b2 j i K;have c3:j<a.length:=(θ.1 K).1;obtain⟨j2,E⟩:=Gx (k:=0) (γy K);have B:=(w8 E).2;simp only[εQ] at B;have:=(ζe (θ.1 B).1 a1).1 (B.trans K.symm);subst this;constructor
       ·unfold pM;rw[γ8 (by simp;omega)];have:j2<g.length:=by rw[C.len];omega
        simp_all
       grind[Oc]
      ·rename_i K;injection m with m;subst m;have c3:=List.getElem?_eq_none_iff.1 K;constructor
       ·unfold pM;rw[ε2 (by simp;omega)];simp_all
       grind
     have b8:∀i,i<o'.length->(∃j,j<n.length/\oN a o.length j=some i)\/(i<o.length/\idxOf a i=none):=by
      intro i p;rw[a7] at p;rcases εR i o.length with q|q;·cases hq:idxOf a i with
       |none=>exact .inr ⟨q,rfl⟩;|some j=>
        left;have B:=(w8 hq).2;simp only[εQ] at B;have:=(θ.1 B).1;exact⟨j,by omega,by simp[oN,B]⟩
      grind[oN]
     have F:∀i b c,i<o.length->idxOf a i=none->σ[i]?=some (some (b,c))->N b:=by
      intro i b c p hn hs;refine(s b).2 (.inr ⟨⟨i,c,hs⟩,?_⟩);rintro⟨j,d,m⟩;obtain⟨x,hx,G⟩:=rD m;have:=v.dist i x b c d hs G;grind
     have L:∀i b c,(pM σ g a)[i]?=some (some (b,c))->(∃j,oN a o.length j=some i/\g[j]?=some (some (b,c)))\/(i<o.length/\idxOf a i=none/\σ[i]?=some (some (b,c))):=by
      grind
     have a3:∀j t,oN a o.length j=some t->Tr n g o' (pM σ g a) j t:=by
      intro j t m;obtain⟨Y,W⟩:=b6 j t m;refine⟨λcs e sz Z ho=>?_,λ⟨es,kt,Z,ho⟩=>?_,Y⟩;·grind[Cb,Oa]
      ·obtain⟨y,hy,c5⟩:=Cb S j _ ho;obtain⟨c8,rfl⟩:=Ob hy;exact⟨c8,kt,Z,by rw[W];exact c5⟩
     have a6:∀b,b<w'.heap.size->Fr N g b->Fr A (pM σ g a) b:=by
      intro b _ hf;refine⟨?_,λh=>hf.2 ((s b).2 (.inl h))⟩;rintro⟨i,c,p⟩;rcases L i b c p with⟨j,_,m⟩|⟨q,H,M⟩;·exact hf.1 ⟨j,c,m⟩
      ·exact hf.2 (F i b c q H M)
     have a0:∀i b c,i<o.length->idxOf a i=none->σ[i]?=some (some (b,c))->¬Own (lW σ a) b:=by
      rintro i b c p hn hs ⟨j,d,m⟩;obtain⟨x,hx,G⟩:=rD m;have:=v.dist i x b c d hs G;grind
     have R:∀b,Own (lW σ a) b->Own σ b:=λb ⟨i,c,p⟩=>by
      obtain⟨x,hx,G⟩:=rD p;exact⟨x,c,G⟩
     have O:∀D,D<o.length->∀j,idxOf a D=some j->oN a o.length j=some D:=by
      intro D _ j m;have B:=(w8 m).2;grind[oN]
     have b5:Ext w σ o w' (pM σ g a) o':=by
      refine⟨X.size,λb hb hn=>?_,by omega,λD c4 a2=>?_,λD hm=>?_,X.os,X.tape,X.output⟩
      ·obtain⟨q,H⟩:=X.blk b hb λh=>hn (R b h);refine⟨q,?_⟩;rintro⟨i,c,p⟩;rcases L i b c p with⟨j,_,m⟩|⟨_,_,M⟩;·exact H ⟨j,c,m⟩
       ·exact hn ⟨i,c,M⟩
      ·have V:D<o.length:=by obtain⟨cs,e,sz,Z,ho,_⟩:=a2;grind
       cases hq:idxOf a D with
       |none=>
        obtain⟨l1,l2,_⟩:=a8 D V hq;refine⟨?_,λsz b0=>⟨?_,l1⟩⟩
        ·obtain⟨cs,e,sz,Z,ho,hl⟩:=a2;exact⟨cs,e,sz,Z,by grind,hl⟩
        ·obtain⟨cs,e,Z,ho,hl⟩:=b0;exact⟨cs,e,Z,by grind,hl⟩;|some j=>
        have Y:=vl v.len I hq;have W:=a3 j D (O D V j hq);obtain⟨q,H⟩:=X.cur j c4 (Y.wY a2);refine⟨W.wY q,λsz b0=>?_⟩;obtain⟨M,h4⟩:=H sz (W.cur q b0);exact⟨Y.cur a2 M,by rw[W.2.2,h4,Y.2.2]⟩
      ·have V:D<o.length:=by obtain⟨es,kt,Z,ho⟩:=hm;grind
       cases hq:idxOf a D with
       |none=>
        obtain⟨l1,l2,_⟩:=a8 D V hq;obtain⟨es,kt,Z,ho⟩:=hm;exact⟨⟨es,kt,Z,by grind⟩,l1⟩;|some j=>
        have Y:=vl v.len I hq;have W:=a3 j D (O D V j hq);obtain⟨q,H⟩:=X.isMap j (Y.2.1 hm);exact⟨W.2.1 q,by rw[W.2.2,H,Y.2.2]⟩
     refine⟨u,pM σ g a,rfl,⟨by omega,λi k b c d p hk=>?_,λi b c p=>?_,λi y hy=>?_,λi b c p=>?_,λb hb=>γr (v.jX b hb) X.size⟩,bw.ren a6 a3 _ _ _ c0 c7,b5⟩
     ·rcases L i b c p with⟨j,m,E⟩|⟨q,H,M⟩<;>rcases L k b d hk with⟨l,hl,b3⟩|⟨g1,g2,g3⟩
      ·have:=C.dist j l b c d E b3;grind
      ·exact absurd (F k b d g1 g2 g3) (C.av j b c E)
      ·exact absurd (F i b c q H M) (C.av l b d b3)
      ·exact v.dist i k b c d M g3
     ·rcases L i b c p with⟨j,m,E⟩|⟨q,H,M⟩;·exact C.bnd j b c E
      ·exact γr (v.bnd i b c M) X.size
     ·rcases b8 i (θ.1 hy).1 with⟨j,c9,m⟩|⟨q,H⟩
      ·have hx:=ν c9;obtain⟨z,hz,a4⟩:=Cb S j _ hx;obtain⟨Y,W⟩:=b6 j i m;rw[<-W,hy] at a4;injection a4 with a4;subst a4;exact dB.ren a6 a3 hz Y (C.obj j _ hx)
      ·obtain⟨l1,l2,_⟩:=a8 i q H;rw[l2] at hy;exact(v.obj i y hy).ext b5 l1 λb c hb=>(X.blk b (v.bnd i b c hb) (a0 i b c q H hb)).1
     ·rcases L i b c p with⟨j,m,E⟩|⟨q,H,M⟩;·exact λh=>C.av j b c E ((s b).2 (.inl h))
      ·exact v.av i b c M
    ·cases J
  ·cases J
 ·cases J
end
section
variable {P:Program} {A:dL} {D:List Deferred} {w w':World} {σ σ':bX} {o o':Store}
theorem XV {call:cV} (b:pL P call) (d:bU A w σ o) {f:FuncId} {args:List AV} {vs:List Value} (g:bE A w σ o args vs) {own:Bool} {r:AV} (c:gA call f args o own=some (r,o')):
  gQ P f=true/\Calls P f vs.toArray w λe w'=>∃u a,e= .returned u/\bU A w' a o'/\bw A w' a o' r u/\Ext w σ o w' a o':=by
 grind[gA,XU,XR]
theorem Cc {f:FuncId} (b:gQ P f=true) (args:Array Value) (w:World):(callFunc f args).run P w= .ok (.enter f args) w:=by
 unfold gQ at b;cases c:P.funcs[f]? with
 |none=>simp_all;|some a=>
  simp only[c,Option.any_some,ζ,δd] at b;have d:a.body.isNone=false:=by simp_all
  have e:¬a.name= "runtime.NumGoroutine" :=by
   simp_all
  have g:¬a.body=none:=by grind
  simp_all[callFunc]
theorem XW {name:String} {t:TypeId} {f:FuncId} (h:BK P name t=some f) (v:Value) (w:World) (n:Nat):(method (n+1) t v name).run P w= .ok (f,v) w:=by
 unfold BK at h;split at h
 ·rename_i fs i hu hi;split at h
  ·rename_i m hm;split at h
   ·rename_i g hp hf;injection h with h;subst h;simp[method,typeInfo,hi,hm,hp,hf,follow,receiverAt,run_underlying hu,Place.get]
   ·cases h
  ·cases h
 ·cases h
theorem Gy {name:String} {t:TypeId} {f:FuncId}:∀{n:Nat},uY (wL P name n) t=some f->BK P name t=some f
 |0,h=>by simp[wL,uY] at h;|n+1,h=>by
  simp only[wL] at h;split at h
  ·rename_i g hg;simp only[uY] at h;cases hb:Nat.beq n t with
   |true=>
    rw[hb] at h;simp only[cond_true,γ] at h;subst h;rw[<-Nat.eq_of_beq_eq_true hb];exact hg;|false=>
    rw[hb] at h;exact Gy h
  ·exact Gy h
theorem XX {fl:Bool} {a:Oper} {b:cE} (e:pI P fl a=some b) (h:b.pK=true):
  ∃c:Call,a.op= .call c/\((∃f,c.callee= .value (.func f)/\b= .call f c.args.toList fl)\/(∃x,c.callee= .value x/\b= .jG x c.args.toList fl)\/∃x d,c.callee= .invoke x d/\b= .oJ (Ni P d) x c.args.toList):=by
 cases g:a.op;case call c=>
  refine⟨c,rfl,?_⟩;simp only[pI,g] at e;grind[cE.pK]
 case buildSlice=>
  grind[pI,cE.pK]
 case slice t x k i j=>
  grind[pI,cE.pK]
 case makeMap t r=>
  grind[pI,cE.pK]
 all_goals
  exfalso;simp only[pI,g,reduceCtorEq] at e;try (repeat' (split at e))<;>first
   |(cases e;done);|(injection e with e;subst e;simp[cE.pK] at h;done);|(obtain⟨_,_,rfl⟩:=δ.1 e;simp[cE.pK] at h;done)
def FR (dh:Option Nat):Fence:={Fence.wide with round:=dh}
theorem XY {dh:Option Nat} {n:Nat} {f:FuncId} {args:Array Value} {R:Ending->World->Prop} (h:Calls P f args w R):CallsIn (FR dh) n P f args w R:=
 (callsIn_wide (n:=n)).2 h
theorem XZ {fl:Bool} {a:Oper} {b:cE} (d:pI P fl a=some b) (c:Call):a.op≠ .defer c:=by
 grind[pI]
theorem X0 {call:cV} (D:pL P call) {fl:Bool} {b:Oper} {C:cE} (O:pI P fl b=some C) (W:bU A w σ o) {p:Operand->AV} {a:Act} (n:∀x,bw A w σ o (p x) (a.eval x)) {bB:Nat} {v:AV}
  (i:qs call C p o bB=some (v,o')) {m:Act->World->Prop} {Q:Exit->Act->World->Prop}
  (V:∀u w' z,bU A w' z o'->bw A w' z o' v u->Ext w σ o w' z o'->m (a.put b.dst u) w') {dh:Option Nat}:b.wpIn (FR dh) 0 P a w m Q:=by
 have r:b.semAt (FR dh).round a.eval=execOp a.eval b:=Oper.semAt_eq _ _ _ (XZ O);by_cases R:C.pK=false
 ·obtain⟨u,Z,G,e,q,X,Y⟩:=XM O R W n i;unfold Oper.wpIn;rw[r];refine⟨λ_ _=>trivial,?_⟩;rcases e with e|⟨e,rfl⟩
  ·rw[e];exact V u Z G q X Y
  ·rw[e];exact V undef Z G q X Y
 ·
  have E:∀(f:FuncId) (l:List AV) (k:List Value) (F:Bool),bE A w σ o l k->gA call f l o F=some (v,o')->
    (gQ P f=true->(execOp a.eval b).run P w= .ok (.enter f k.toArray) w)->b.wpIn (FR dh) 0 P a w m Q:=by
   intro f l k F L M J;obtain⟨s,I⟩:=XV D W L M;unfold Oper.wpIn;rw[r,J s];refine⟨λ_ _=>trivial,λh=>by grind[FR,Fence.wide],(XY I).mono ?_⟩;grind
  obtain⟨c,y,hh⟩:=XX O (by simp_all);rw[y7] at i;rcases hh with⟨f,d,rfl⟩|⟨x,d,rfl⟩|⟨x,H,d,rfl⟩
  ·simp only[bK] at i;refine E f (c.args.toList.map p) (c.args.toList.map a.eval) fl (vf n _) i λs=>?_;simp only[execOp,y,resolve,d];simp[Act.eval,Deferred.ofValue,invoke,Cc s];grind
  ·simp only[bK] at i;split at i
   ·rename_i g B j K;have q:=n x;rw[K] at q;simp only[bw] at q;obtain⟨f',c',S,N,T⟩:=q;refine E g (B++c.args.toList.map p++j) (f'.toList++c.args.toList.map a.eval++c'.toList) fl (bE.append (bE.append N (vf n _)) T) i λs=>?_;simp only[execOp,y,resolve,d];simp[S,F7,Deferred.ofValue,invoke,Cc s]
   ·cases i
  ·simp only[bK] at i;split at i
   ·rename_i t cs K;split at i
    ·rename_i f N;have q:=n x;rw[K] at q;simp only[bw] at q;obtain⟨k,S,_,hl⟩:=q;have L:bE A w σ o (.agg cs::c.args.toList.map p) (.agg k::c.args.toList.map a.eval):=by
      grind[bE,bw,vf]
     refine E f _ _ false L i λs=>?_;have hm:(method (P.types.size+Made.depth) t (.agg k) H).run P w= .ok (f,.agg k) w:=XW (Gy N) (.agg k) w (P.types.size+99);have hz:(#[Value.iface t (.agg k)]++Array.map a.eval c.args)[0]?=some (Value.iface t (.agg k)):=by grind
     have U:#[Value.agg k]++(Array.map a.eval c.args).extract 0 c.args.size=(Value.agg k::List.map a.eval c.args.toList).toArray:=εi (by simp;exact List.take_of_length_le (by simp));simp only[execOp,y,resolve,d,S];simp[invoke,hz,callMethod,hm,Cc s,U]
    ·cases i
   ·cases i
def tM (b w:World) (a:List Deferred):Prop:=
 a.Pairwise (λd e=>d.target≠e.target)/\∀d∈a,∃r,d={target:=.collected r,args:=#[]}/\b.heap.size<=r/\w.heap[r]?=some (.deferred (some []))
theorem bU.Gz (d:bU A w σ o) {r:Nat} {x:Obj} (h:w.heap[r]?=some x) (g:∀a b c,x≠ .cells a b c) (l:∀a b,x≠ .map a b):¬Own σ r:=by
 rintro⟨i,c,k⟩;have f:i<o.length:=by rw[<-d.len];grind
 have e:=d.obj i _ (ν f);cases j:o[i]<;>grind[dB,μ]
theorem tM.ext {c:World} {b:List Deferred} (h:tM c w b) (e:bU A w σ o) (i:Ext w σ o w' σ' o'):tM c w' b:=
 ⟨h.1,λd g=>by
  obtain⟨r,j,f,a⟩:=h.2 d g;exact⟨r,j,f,by rw[(i.blk r (Array.getElem?_eq_some_iff.1 a).1 (e.Gz a (by simp) (by simp))).1];exact a⟩⟩
def Cd (D:List Deferred) (b w:World) (c:List Deferred):Prop:=∃a,c=a++D/\tM b w a
theorem Cd.ext {b:World} {D a:List Deferred} (h:Cd D b w a) (c:bU A w σ o) (f:Ext w σ o w' σ' o'):Cd D b w' a:=by
 obtain⟨d,g,e⟩:=h;exact⟨d,g,e.ext c f⟩
structure cQ (A:dL) (nt:Nat) (D:List Deferred) (w0:World) (lX:bX) (o0:Store) (st:St) (a:Act) (w:World) (σ:bX):Prop where
 fp:bU A w σ st.o
 env:∀s,bw A w σ st.o (dI st.env s) (a.tmps.getD s undef)
 size:a.tmps.size=nt
 defers:Cd D w0 w a.defers
 ext:Ext w0 lX o0 w σ st.o
theorem X3 (v:Value):bw A w σ o (.uP v) v:=by
 cases v<;>simp only[AV.uP]<;>try (simp[bw,Value.oneCell'];done)
 grind[bw,wS]
theorem cQ.ev {d:Nat} {e:World} {b:bX} {c:Store} {st:St} {a:Act} (h:cQ A d D e b c st a w σ) (x:Operand):bw A w σ st.o (eC st.env x) (a.eval x):=by
 cases x with
 |tmp t=>exact h.env t;|const v=>exact X3 v;|global g=>simp[eC,bw];|func f=>simp only[eC,Act.eval,bw];exact⟨#[],#[],rfl,by simp[bE],by simp[bE]⟩
theorem X4 {a:Act} {b:Option Tmp} {u:Value} {c:Nat} (f:a.tmps.size=c) (e:BL c b=true) (s:Nat):
  (a.put b u).tmps.getD s undef=if b=some s then u else a.tmps.getD s undef:=by
 cases b with
 |none=>simp[Act.put];|some d=>
  simp only[BL,decide_eq_true_eq] at e;simp only[Act.put,γ];by_cases h:d=s<;>simp_all
theorem Oe (a:Act) (b:Option Tmp) (u:Value):(a.put b u).tmps.size=a.tmps.size/\(a.put b u).defers=a.defers:=by
 cases b<;>simp[Act.put]
theorem vm (env:jg) (a:Option Nat) (v:AV) (s:Nat):dI (oH env a v) s=if a=some s then v else dI env s:=by
 cases a with
 |none=>simp[oH];|some d=>
  simp_all[oH,dI]
theorem cQ.put {e:Nat} {g:World} {c:bX} {f:Store} {st:St} {a:Act} (h:cQ A e D g c f st a w σ) (k:bU A w' σ' o') (d:Ext w σ st.o w' σ' o') {b:Option Tmp} (i:BL e b=true) {v:AV} {u:Value} (j:bw A w' σ' o' v u):
  cQ A e D g c f ⟨oH st.env b v,o'⟩ (a.put b u) w' σ' where
 fp:=k;env:=λs=>by
  simp only[vm,X4 h.size i];split;·exact j
  ·exact(h.env s).ext d
 size:=by rw[(Oe _ _ _).1];exact h.size
 defers:=by rw[(Oe _ _ _).2];exact h.defers.ext h.fp d
 ext:=h.ext.trans d
theorem Og {x:Nat} {v:World} {l:bX} {p:Store} {st:St} {a:Act} (h:cQ A x D v l p st a w σ) {f:Array Oper} {d:Oper} {b:Bool}
  (e:mK st.env (d.guard.map λg=>(((f[g.1]?).bind (·.dst)),g.2))=some b):Region.wanted d (yielded f a.tmps)=b:=by
 unfold Region.wanted;cases u:d.guard with
 |none=>grind[mK];|some g=>
  obtain⟨j,q⟩:=g;simp only[u,γm,mK] at e;cases n:(f[j]?).bind (·.dst) with
  |none=>simp_all;|some s=>
   simp only[n] at e;have i:=h.env s;simp only[yielded,n,Option.bind_some];split at e
   ·rename_i c m;injection e with e;rw[m] at i;have k:=gR i;have o:a.tmps[s]?=some (.bool c):=by
     rw[εb] at k;grind[undef]
    simp_all
   ·rename_i m;injection e with e;rw[m] at i;simp only[bw,bE] at i;obtain⟨r,k,o⟩:=i;have t:r=#[]:=εi (by omega);subst t;have o:a.tmps[s]?=some (.tuple #[])\/a.tmps[s]?=none:=by
     rw[εb] at k;grind
    grind
   ·cases e
theorem Oh {call:cV} (e:pL P call) {j:Nat} {fl:List Nat} {c:Array Oper} {bB k:Nat} {i:dp} (f:rA P j fl c bB k=some i) {base:Nat} {st st':St} (b:hZ call base i st=some st')
  {t:World} {g:bX} {p:Store} {a:Act} (h:cQ A j D t g p st a w σ) {K:Act->World->Prop} {Q:Exit->Act->World->Prop} (o:∀s w' d,cQ A j D t g p st' s w' d->K s w') {dh:Option Nat}:wpOpIn (FR dh) 0 P c Q k K a w:=by
 unfold rA at f;cases q:c[k]? with
 |none=>simp_all;|some n=>
  simp only[q] at f;split at f
  ·rename_i r;obtain⟨E,l,rfl⟩:=δ.1 f;unfold wpOpIn;simp only[q];simp only[hZ] at b;split at b;·cases b
   ·rename_i m;have:=Og h m;rw[this];injection b with b;subst b;simp only[χ,if_false];exact⟨λ_ _=>trivial,o _ _ σ (h.put h.fp (Ext.refl _ _ _) r (by simp only[bw];exact⟨#[],rfl,by simp[bE]⟩))⟩
   ·rename_i m;have:=Og h m;rw[this];simp only[if_true];split at b
    ·rename_i v C z;injection b with b;subst b;exact X0 e l h.fp h.ev z λu w' d B x y=>o _ _ d (h.put B y r x)
    ·cases b
  ·cases f
theorem Oi {call:cV} (c:pL P call) {o:Nat} {fl:List Nat} {f:Array Oper} {base:Nat} {u:World} {g:bX} {s:Store} {Q:Exit->Act->World->Prop} {dh:Option Nat}:
  ∀(l:List dp) (b:List Nat),l.length=b.length->(∀(j:Nat) (i:dp) (k:Nat),l[j]?=some i->b[j]?=some k->∃bB,rA P o fl f bB k=some i)->∀(st st':St) (a:Act) (w:World) (σ:bX),
   gd call base l st=some st'->cQ A o D u g s st a w σ->(∀m w' d,cQ A o D u g s st' m w' d->Q .normal m w')->wpOpsIn (FR dh) 0 P f Q b a w
 |[],[],_,_,st,st',a,w,σ,e,h,p=>by
  simp only[gd,γ] at e;subst e;exact p a w σ h;|[],_::_,n,_,_,_,_,_,_,_,_,_=>by simp at n;|_::_,[],n,_,_,_,_,_,_,_,_,_=>by simp at n;|i::l,k::b,n,t,st,st',a,w,σ,e,h,p=>by
  simp only[gd] at e;split at e
  ·rename_i q v;obtain⟨bB,r⟩:=t 0 i k (by simp) (by simp);rw[wpOpsIn_cons];exact Oh c r v h λm w' d y=>Oi c l b (by simp_all) (λj z x C B=>t (j+1) z x (by simp_all) (by simp_all)) q st' m w' d e y p
  ·cases e
theorem GF {d:Nat} {fl:List Nat} {b:Array Oper}:∀{k:Nat} {a:List Nat} {l:List dp} {n:Nat},u7 P d fl b k a=some (l,n)->
  l.length=a.length/\(∀(j:Nat) (i:dp) (q:Nat),l[j]?=some i->a[j]?=some q->∃bB,rA P d fl b bB q=some i)
 |k,[],l,n,h=>by grind[u7];|k,i::r,l,n,h=>by
  simp only[u7] at h;split at h;·cases h
  ·rename_i x o;split at h;·cases h
   ·rename_i g m c;simp only[γ,μ] at h;obtain⟨rfl,_⟩:=h;obtain⟨e,f⟩:=GF c;grind
end
section
variable {call:cV} {ρ mM:Operand->AV} {bB:Nat}
theorem Oj {a:cE} (d:a.cls=0) (o o2:Store):bK call a ρ o2 bB=(bK call a ρ o bB).map λp=>(p.1,o2):=by
 cases a<;>try (simp[cE.cls] at d;done)
 case call f c b=>cases b<;>simp[cE.cls] at d
 case jG f c b=>cases b<;>simp[cE.cls] at d
 all_goals simp only[bK]
 all_goals (repeat' split)<;>simp_all [ζC,δe]
theorem X5 {a:cE} (b:a.cls=0) {o o':Store} {v:AV} (h:bK call a ρ o bB=some (v,o')):o'=o:=by
 grind[Oj]
theorem X6 {o o2:Store} {a:AV} (h:∀j∈fi a,o2[j]?=o[j]?):behind o2 a=behind o a:=by
 cases a<;>simp only[behind];grind[fi]
theorem X7 {o o2:Store} {sz:Nat} {a:AV} (h:∀j∈fi a,o2[j]?=o[j]?):nj o2 sz a=nj o sz a:=by
 cases a with
 |os e d b c=>grind[nj,fi];|sc v=>unfold nj;grind;|_=>rfl
theorem X8 {o o2:Store} {sz:Nat} {a:AV} {i:Int} (h:∀j∈fi a,o2[j]?=o[j]?):qo o2 sz a i=qo o sz a i:=by
 cases a<;>simp only[qo];grind[fi]
theorem X9 {o o2:Store} {sz:Nat} {a:AV} {lo b:Option AV} (h:∀j∈fi a,o2[j]?=o[j]?):qq o2 sz a lo b=qq o sz a lo b:=by
 cases a with
 |os f e c d=>grind[qq,fi];|sc v=>unfold qq;grind;|_=>rfl
theorem Ya {o o2:Store} {sz:Nat} {a:AV} {lo:Option AV} {b mx:AV} (h:∀j∈fi a,o2[j]?=o[j]?):sw o2 sz a lo b mx=sw o sz a lo b mx:=by
 cases a<;>grind[id,sw,fi]
theorem Yb {o o2:Store} {k:Nat} {a:AV} (h:∀j∈fi a,o2[j]?=o[j]?):lx o2 k a=lx o k a:=by
 cases a with
 |mp b=>
  match k with
  |0=>rfl;|1=>rfl;|2=>grind[lx,fi];|_+3=>rfl
 |_=>unfold lx;split<;>first|rfl|(simp_all;done)
theorem xd {c e:Type} {f g:c->List e}:∀{l:List c},(∀a∈l,f a=g a)->l.flatMap f=l.flatMap g
 |[],_=>rfl
 |a::l,h=>by
  simp only[List.flatMap_cons];rw[h a (by simp),xd λb d=>h b (by simp[d])]
theorem xe {c e:Type} {f g:c->Option e}:∀{l:List c},(∀a∈l,f a=g a)->l.mapM f=l.mapM g
 |[],_=>rfl
 |a::l,h=>by
  rw[εO,εO,h a (by simp),xe λb d=>h b (by simp[d])]
theorem xf {o o2:Store}:∀(d:Nat) (a:AV),(∀j∈fh o d a,o2[j]?=o[j]?)->freeze o2 d a=freeze o d a/\fh o2 d a=fh o d a
 |0,a,_=>by cases a<;>simp[freeze,fh];|d+1,a,h=>by
  cases a with
  |agg i=>
   simp only[fh,δR,forall_exists_index,and_imp] at h;have l:=λc g=>xf d c (λj b=>h j c g b);grind[freeze,fh,xe,xd];|bH i=>
   simp only[fh,δR,forall_exists_index,and_imp] at h;have l:=λc g=>xf d c (λj b=>h j c g b);grind[freeze,fh,xe,xd];|fn f x y=>
   simp only[fh,List.mem_append,δR] at h;have v:=λc g=>xf d c (λj b=>h j (.inl ⟨c,g,b⟩));have z:=λc g=>xf d c (λj b=>h j (.inr ⟨c,g,b⟩));grind[freeze,fh,xe,xd];|os k q s n=>
   have r:=h k (by simp[fh]);simp only[freeze,fh];rw[r];cases p:o[k]? with
   |none=>simp_all;|some x=>
    cases x with
    |dead=>simp_all;|map w t m=>simp_all;|cells i e u m=>
     cases m with
     |true=>simp_all;|false=>
      simp only[fh,p,γE,χ,if_false,δR] at h;have l:=λc g=>xf d c (λj b=>h j (.inr ⟨c,g,b⟩));simp_all[xe,xd]
  |_=>simp[freeze,fh]
theorem zi {f:FuncId} {args:List AV} {o o2:Store} (h:∀j∈args.flatMap (fh o 6),o2[j]?=o[j]?):
  gA call f args o2 false=(gA call f args o false).map (λp=>(p.1,o2))/\args.flatMap (fh o2 6)=args.flatMap (fh o 6):=by
 simp only[δR,forall_exists_index,and_imp] at h;have d:=λc a=>xf 6 c (λj e=>h j c a e);have b:args.flatMap (fh o2 6)=args.flatMap (fh o 6):=xd λc a=>(d c a).2;refine⟨?_,b⟩;unfold gA;rw[if_neg (by simp),if_neg (by simp),b,xe λc a=>(d c a).1];grind
theorem GG {b:cE} (w:b.cls=1) {o o2:Store} (h:∀j∈dO b ρ o bB,o2[j]?=o[j]?):
  bK call b ρ o2 bB=(bK call b ρ o bB).map (λp=>(p.1,o2))/\dO b ρ o2 bB=dO b ρ o bB:=by
 cases b<;>try (simp[cE.cls] at w;done)
 case load n a=>
  simp only[bK,dO] at h ⊢;rw[X6 h];refine⟨?_,trivial⟩;split<;>simp[ζC,δe]
 case sj l x i=>
  simp only[bK,dO] at h ⊢;refine⟨?_,trivial⟩;split;·rw[X8 h];simp_all[δe]
  ·rfl
 case slice l x q y=>
  simp only[bK,dO] at h ⊢;refine⟨?_,trivial⟩;rw[X9 h];simp_all[δe]
 case slice3 l x q y A=>
  simp only[bK,dO] at h ⊢;refine⟨?_,trivial⟩;rw[Ya h];simp_all[δe]
 case len k x=>
  simp only[bK,dO] at h ⊢;refine⟨?_,trivial⟩;rw[Yb h];simp_all[δe]
 case lookup z m F D x k C=>
  simp only[bK,dO] at h ⊢;refine⟨?_,trivial⟩;split<;>grind[id,fi]
 case oJ r x c=>
  simp only[bK,dO] at h ⊢;split
  ·rename_i t B u;simp only[u] at h ⊢;refine⟨?_,(zi (call:=call) (f:=0) h).2⟩;grind[zi]
  simp_all
 case call f c d=>
  cases d<;>grind[bK,dO,zi,cE.cls]
 case jG f c d=>
  cases d
  ·simp only[bK,dO] at h ⊢;split;·grind[zi]
   ·rename_i s;refine⟨rfl,?_⟩;split
    ·rename_i E g e v;simp only[v] at h ⊢;exact(zi (call:=call) (f:=0) h).2
    ·rfl
  grind[cE.cls]
theorem Yc {a:cE} (b:a.cls=1) {o o':Store} {v:AV} (h:bK call a ρ o bB=some (v,o')):o'=o:=by
 have:=(GG (call:=call) (ρ:=ρ) (bB:=bB) b (o:=o) (o2:=o) λ_ _=>rfl).1;grind
theorem Ce {o:Store} {id:Nat}:o.set id ((o[id]?).getD .dead)=o:=by
 apply List.ext_getElem?;grind
theorem Yd {d:cE} (H:d.cls=2) {o o':Store} {v:AV} (b:bK call d ρ o bB=some (v,o')):
  ∃id x,id∈wrt d ρ o bB/\o'=o.set id x/\∀o2,(∀j∈dO d ρ o bB,o2[j]?=o[j]?)->
   bK call d ρ o2 bB=some (v,o2.set id x)/\dO d ρ o2 bB=dO d ρ o bB/\wrt d ρ o2 bB=wrt d ρ o bB:=by
 have C:∀{x:bP} {g:AV} {v:AV} {o':Store},(kX bB x o).map (λo'=>(g,o'))=some (v,o')->v=g/\o'=o.set bB x/\∀o2:Store,o2[bB]?=o[bB]?->(kX bB x o2).map (λo'=>(g,o'))=some (v,o2.set bB x):=by
  grind[kX]
 cases d<;>try (simp[cE.cls] at H;done)
 case alloc z e y=>
  simp only[bK,dO,wrt] at b ⊢;grind
 case box e x=>
  simp only[bK,dO,wrt] at b ⊢;grind
 case pE z D E e A=>
  simp only[bK,dO,wrt] at b ⊢;grind
 case ql z e A q l c y=>
  simp only[bK,dO,wrt] at b ⊢;grind
 case qm Q y=>
  simp only[bK,dO,wrt] at b ⊢;grind
 case store n a x=>
  simp only[bK,dO,wrt] at b ⊢;split at b
  ·rename_i id R G J;split at b
   ·rename_i L e A y K;split at b
    ·rename_i p;simp only[γ,μ] at b;obtain⟨rfl,rfl⟩:=b;refine⟨id,_,by simp[J,fi],rfl,λo2 h=>⟨?_,trivial,trivial⟩⟩;have U:=h id (by simp[J,fi]);grind
    ·cases b
   ·cases b
  ·cases b
 case append e A q s x y=>
  simp only[bK,dO,wrt] at b ⊢;unfold qp at b;split at b;·cases b
  ·rename_i m F P;split at b;·cases b
   ·rename_i N;have t:∀o2:Store,(∀j∈bB::(fi (ρ s)++fi (ρ x)),o2[j]?=o[j]?)->nj o2 A (ρ x)=some (m,F):=λo2 h=>by
     grind[X7]
    split at b
    ·rename_i B;split at b
     ·rename_i I;simp only[γ,μ] at b;obtain⟨rfl,rfl⟩:=b;refine⟨bB,(o[bB]?).getD .dead,by simp,Ce.symm,λo2 h=>⟨?_,trivial,trivial⟩⟩;rw[<-h bB (by simp),Ce];simp_all[qp]
     ·split at b
      ·rename_i I p;obtain⟨rfl,rfl,h3⟩:=C b;refine⟨bB,_,by simp,rfl,λo2 h=>⟨?_,trivial,trivial⟩⟩;simp_all[qp]
      ·cases b
    ·rename_i id D G B;split at b
     ·rename_i L e' S O K;split at b
      ·rename_i p;simp only[γ,μ] at b;obtain⟨rfl,rfl⟩:=b;refine⟨id,_,by simp[B,fi],rfl,λo2 h=>⟨?_,trivial,trivial⟩⟩;unfold qp;rw[t o2 h];have U:=h id (by simp[B,fi]);simp_all
      ·cases b
     ·cases b
    ·rename_i n L B;split at b
     ·rename_i I;simp only[γ,μ] at b;obtain⟨rfl,rfl⟩:=b;refine⟨bB,(o[bB]?).getD .dead,by simp,Ce.symm,λo2 h=>⟨?_,trivial,trivial⟩⟩;rw[<-h bB (by simp),Ce];simp_all[qp]
     ·cases b
    ·cases b
 case rc W X x k v'=>
  simp only[bK,dO,wrt] at b ⊢;split at b
  ·rename_i id Y M V;split at b
   ·rename_i Z Q y K;split at b;·cases b
    ·rename_i p;split at b
     ·rename_i i w T;simp only[γ,μ] at b;obtain⟨rfl,rfl⟩:=b;refine⟨id,_,by simp[M,fi],rfl,λo2 h=>⟨?_,trivial,trivial⟩⟩;simp_all[fi]
     ·rename_i T;simp only[γ,μ] at b;obtain⟨rfl,rfl⟩:=b;refine⟨id,_,by simp[M,fi],rfl,λo2 h=>⟨?_,trivial,trivial⟩⟩;simp_all[fi]
     ·cases b
   ·cases b
  ·cases b
 case call f u r=>cases r<;>simp[cE.cls] at H
 case jG f u r=>cases r<;>simp[cE.cls] at H
theorem rE (o:Store):∀(d:Nat) (vs:List AV) (acc:List Nat) (j:Nat),j∈acc->j∈cJ o d vs acc
 |0,vs,acc,j,h=>by grind[cJ];|d+1,[],acc,j,h=>by simp_all[cJ];|d+1,v::vs,acc,j,h=>by
  rw[zg];apply rE o d;have e:∀c,j∈qB o d c acc:=by
   intro c;unfold qB;split;·exact h
   ·split
    ·split;·simp[h]
     ·exact rE o d _ _ j (by simp[h])
    ·split;·simp[h]
     ·exact rE o d _ _ j (by simp[h])
    ·simp[h]
  cases v with
  |agg g=>exact rE o d _ _ j h;|bH g=>exact rE o d _ _ j h;|ptr c _ _=>exact e c;|os c _ _ _=>exact e c;|mp c=>exact e c;|fn f a b=>exact rE o d _ _ j (rE o d _ _ j h);|_=>exact h
theorem Ye (o:Store) (d id:Nat) (acc:List Nat):id∈qB o d id acc:=by
 grind[qB,rE]
theorem tN {o o2:Store}:∀(d:Nat) (vs:List AV) (acc:List Nat),(∀j∈cJ o d vs acc,o2[j]?=o[j]?)->cJ o2 d vs acc=cJ o d vs acc
 |0,vs,acc,_=>by grind[cJ];|d+1,[],acc,_=>by simp[cJ];|d+1,v::vs,acc,h=>by
  rw[zg] at h;rw[zg,zg];have m:∀c,(∀j∈qB o d c acc,o2[j]?=o[j]?)->qB o2 d c acc=qB o d c acc:=by
   intro c g;have r:=g c (Ye o d c acc);unfold qB at g ⊢;split;·rfl
   ·rename_i q;rw[if_neg q] at g;rw[r];cases p:o[c]? with
    |none=>rfl;|some x=>
     rw[p] at g;cases x with
     |dead=>rfl;|cells l e w n=>
      cases n with
      |true=>rfl;|false=>exact tN d _ _ g
     |map s u n=>
      cases n with
      |true=>rfl;|false=>exact tN d _ _ g
  have k:vk o2 d v acc=vk o d v acc:=by
   have i:=λj g=>h j (rE o d vs _ j g);cases v with
   |agg l=>exact tN d l acc i;|bH l=>exact tN d l acc i;|ptr c _ _=>exact m c i;|os c _ _ _=>exact m c i;|mp c=>exact m c i;|fn f a b=>
    have y:cJ o2 d a acc=cJ o d a acc:=tN d a acc λj g=>i j (rE o d b _ j g);have t:cJ o2 d b (cJ o d a acc)=cJ o d b (cJ o d a acc):=tN d b _ i;grind[vk];|_=>rfl
  rw[k];exact tN d vs _ h
theorem Ol {o o2:Store} {a:List Nat}:∀{r:List Nat},(∀j∈r,o2[j]?=o[j]?)->kY o2 a r=kY o a r
 |[],_=>rfl
 |i::r,h=>by
  simp only[kY];rw[h i (by simp),Ol λj b=>h j (by simp[b])]
theorem Om:∀(a:List Nat) (o o2 X:Store) (j:Nat),o2.length=o.length->a.length=X.length->(j∈a\/o2[j]?=o[j]?)->(lO o2 a X)[j]?=(lO o a X)[j]?
 |[],o,o2,X,j,_,_,h=>by grind[lO];|i::r,o,o2,[],j,_,c,_=>by simp at c;|i::r,o,o2,x::l,j,b,c,h=>by
  simp only[lO];refine Om r _ _ l j (by simp[b]) (by simp_all) ?_;grind
theorem On {f:FuncId} {args:List AV} {o o':Store} {r:AV} (h:iH call f args o=some (r,o')):
  o.length<=o'.length/\(∀j,j<o.length->j∉cJ o fD args []->o'[j]?=o[j]?)/\
  ∀o2:Store,o2.length=o.length->(∀j∈cJ o fD args [],o2[j]?=o[j]?)->∃g,iH call f args o2=some (r,g)/\
   cJ o2 fD args []=cJ o fD args []/\∀j,(j∈cJ o fD args []\/o.length<=j)->g[j]?=o'[j]?:=by
 have b:∀o2:Store,(∀j∈cJ o fD args [],o2[j]?=o[j]?)->cJ o2 fD args []=cJ o fD args []:=λo2 h=>tN fD args [] h;have e:∀o2:Store,(∀j∈cJ o fD args [],o2[j]?=o[j]?)->kY o2 (cJ o fD args []) (cJ o fD args [])=kY o (cJ o fD args []) (cJ o fD args []):=λo2 h=>Ol h;unfold iH at h;simp only at h;generalize q:cJ o fD args []=a at h b e;split at h
 ·rename_i m l v y;split at h
  ·rename_i B i n;split at h;·cases h
   ·rename_i d;split at h
    ·rename_i A c x t;simp only[γ,μ] at h;obtain⟨rfl,rfl⟩:=h;simp only[not_or] at d;have u:=Gv t;have z:a.length=(c.take a.length).length:=by simp;omega
     refine⟨by simp[zh],λj s w=>?_,λo2 p k=>?_⟩;·grind[zh,B8]
     ·refine⟨lO o2 a (c.take a.length)++c.drop a.length,?_,b o2 k,λj s=>?_⟩
      ·unfold iH;grind
      grind[zh,Om]
    ·cases h
  ·cases h
 ·cases h
end
end Go.Vi
