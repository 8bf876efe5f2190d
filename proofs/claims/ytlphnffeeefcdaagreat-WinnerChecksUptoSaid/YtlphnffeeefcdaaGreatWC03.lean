/-
  The abstract interpreter: every operation that is no call does what the model's does.
  Conditions: none.
-/
import Derived.Test.YtlphnffeeefcdaaGreatWC02
import Derived.OrdersIn
import Derived.AtR
set_option maxRecDepth 100000
set_option maxHeartbeats 4000000
set_option linter.all false
open Array renaming ext'->εj,getD_eq_getD_getElem?->εb
open Bool renaming and_eq_true->θ,false_eq_true->Γ,or_eq_true->δj,not_eq_true'->γX
open Decidable renaming not_not->ζL
open Function renaming comp_def->δm
open Go.Vi.AV renaming ren->δB
open List renaming getElem?_eq_getElem->μ,mem_of_getElem?->γr,getElem?_of_mem->γH,getElem?_take->δg,getElem?_take_of_lt->εA,replicate->δ,getElem?_eq_some_iff->ι,getElem?_append_left->γ5,getElem?_append_right->εY,mem_of_mem_take->γi,mapM_cons->εJ,getElem?_drop->δW,mem_of_mem_drop->γW,mem_cons->γD,range->Θ,getElem?_cons_succ->γw,nodup_cons->γ1,getElem?_inj->ζb,mem_flatMap->δT
open Nat renaming le_refl->ψ,lt_of_lt_of_le->γj,lt_or_ge->ε1,sub_zero->εK
open Option renaming map_eq_some_iff->ε,map_some->γm,map_map->ε7
open Option.some renaming injEq->γ
open Prod.mk renaming injEq->κ
namespace Go.Vi
def cO.pJ:cO->Bool
 | .call .. | .jT .. | .oL .. =>true
 |_=>false
section
variable {P:Program} {A:dT} {w w':World} {σ σ':cn} {o o':Store} {bY:Operand->AV} {bX:Operand->Value} {oper:Oper} {v:AV}
theorem ko {b:Type} {x:Option b} {f:b->AV×Store} {p:AV×Store} (h:x.map f=some p):∃a,x=some a/\f a=p:=by
 simp_all
theorem Xt {call:dm} {fl:Bool} {T:cO} {bF:Nat} (j:pH P fl oper=some T) (d0:T.pJ=false) (G:cj A w σ o) (E:∀x,bC A w σ o (bY x) (bX x))
  (B:qm call T bY o bF=some (v,o')):Gives A P bX oper w σ o v o':=by
 rw[y9] at B;unfold pH at j;split at j;·
  rename_i x C;injection j with j;subst j;simp only[bT,γ,κ] at B;obtain⟨rfl,rfl⟩:=B;simp_all[Nw]
 ·rename_i x C;injection j with j;subst j;simp only[bT,γ,κ] at B;obtain⟨rfl,rfl⟩:=B;simp_all[Nw]
 ·rename_i c a b C;injection j with j;subst j;simp only[bT] at B;split at B
  ·rename_i b0;simp only[γ,κ] at B;obtain⟨rfl,rfl⟩:=B;exact Nx (t:=true) G E C b0
  ·rename_i b0;simp only[γ,κ] at B;obtain⟨rfl,rfl⟩:=B;exact Nx (t:=false) G E C b0
  ·cases B
 ·rename_i e C;obtain⟨z,S,rfl⟩:=ε.1 j;simp only[bT] at B;obtain⟨o2,hm,F⟩:=ko B;obtain⟨hd,rfl⟩:=wU hm;grind[WN]
 ·rename_i e x C;injection j with j;subst j;simp only[bT] at B;split at B
  ·rename_i h1;obtain⟨o2,hm,F⟩:=ko B;obtain⟨hd,rfl⟩:=wU hm;simp only[κ] at F;obtain⟨rfl,rfl⟩:=F;simp_all[WO]
  ·cases B
 ·
  rename_i t a3 C;split at j
  ·rename_i z b4 S I;split at j
   ·rename_i a1 c8;obtain⟨ps,b9,rfl⟩:=ε.1 j;simp only[bT] at B;obtain⟨cs,O,F⟩:=ko B;simp only[κ] at F;obtain⟨rfl,rfl⟩:=F;obtain⟨hl,hg⟩:=F4 b9;refine NC (place:=λi=>a1[i]?) G E C S (λzv N l=>?_) hl.symm (λi p q W hq=>?_) O;·cases X:P.info? t<;>grind[Na,Program.built]
    grind[Nb]
   ·cases j
  ·rename_i z k e S I;obtain⟨n,M,rfl⟩:=ε.1 j;simp only[bT] at B;obtain⟨cs,O,F⟩:=ko B;simp only[κ] at F;obtain⟨rfl,rfl⟩:=F;refine NC (place:=λi=>some (i*n,n)) G E C S (λzv N l=>?_) (by simp) (λi p q W hq=>?_) O;·cases X:P.info? t with
    |none=>simp_all;|some i=>
     simp[X] at N;cases d2:P.info? e<;>grind[sizeT,Program.built]
   grind
  ·cases j
 ·
  rename_i t b1 a3 C;split at j
  ·rename_i e I;split at j
   ·rename_i z S;split at j
    ·rename_i D;injection j with j;subst j;split at B
     ·simp only[bT] at B;split at B
      ·rename_i cs O;split at B
       ·rename_i W;simp only[γ,κ] at B;obtain⟨rfl,rfl⟩:=B;exact Xe G E C I S D.2 D.1 O W
       ·cases B
      ·cases B
     ·simp only[bT] at B;split at B
      ·rename_i cs O;obtain⟨o2,hm,F⟩:=ko B;obtain⟨hd,rfl⟩:=wU hm;simp only[κ] at F;obtain⟨rfl,rfl⟩:=F;exact Xd G E C I S D.2 D.1 O hd
      ·cases B
    ·cases j
   ·cases j
  ·cases j
 ·
  rename_i t a C;obtain⟨n,M,rfl⟩:=ε.1 j;simp only[bT] at B;split at B
  ·rename_i cs b8 hb;obtain⟨a',W,F⟩:=ko B;simp only[κ] at F;obtain⟨rfl,rfl⟩:=F;exact WI G E C M hb W
  ·cases B
 ·
  rename_i t a x C;obtain⟨n,M,rfl⟩:=ε.1 j;simp only[bT] at B;split at B
  ·rename_i id b8 d1 U;split at B
   ·rename_i cs e sz pu ho;split at B
    ·rename_i D;simp only[γ,κ] at B;obtain⟨rfl,rfl⟩:=B;obtain⟨c1,c2,c3,c4,c5⟩:=D;exact WL G E C M U ho c1 c2 c3 c4 c5
    ·cases B
   ·cases B
  ·cases B
 ·
  rename_i x C;injection j with j;subst j;simp only[bT] at B;have H:=E x;split at B
  ·rename_i a b c Z;simp only[γ,κ] at B;obtain⟨rfl,rfl⟩:=B;rw[Z] at H;simp only[bC] at H;obtain⟨_,⟨p,W⟩,_⟩:=H;rw[<-Z];exact Ny G E C W
  ·rename_i a b Z;simp only[γ,κ] at B;obtain⟨rfl,rfl⟩:=B;rw[Z] at H;simp only[bC] at H;obtain⟨p,W,_⟩:=H;rw[<-Z];exact Ny G E C W
  ·cases B
 ·
  rename_i op t x y t' C;have c0:∀(h:T= .bin op x y),Gives A P bX oper w σ o v o':=by
   intro h;subst h;simp only[bT] at B;split at B
   ·rename_i a b U hb;obtain⟨r,L,F⟩:=ko B;simp only[κ] at F;obtain⟨rfl,rfl⟩:=F;exact WS G E C U hb L
   ·cases B
  have c9:∀(V:Bool),(op= .eql/\V=false)\/(op= .neq/\V=true)->
    (match P.underlying t with
     |some (.struct _)|some (.array _ _)=>if 20<=P.depth then(gB P 20 t).map λks=>cO.sd V ks x y else none
     |some .bool=>some (.beq V x y)
     |some (.int _)|some .string=>some (.bin op x y)
     |_=>none)=some T->Gives A P bX oper w σ o v o':=by
   intro V M j;have c7:fO P t=some true->(if 20<=P.depth then(gB P 20 t).map λks=>cO.sd V ks x y else none)=some T->Gives A P bX oper w σ o v o':=by
    intro K j;split at j
    ·rename_i hD;obtain⟨ks,hk,rfl⟩:=ε.1 j;simp only[bT] at B;split at B
     ·rename_i a b U hb;obtain⟨r,L,F⟩:=ko B;simp only[κ] at F;obtain⟨rfl,rfl⟩:=F;exact Xk G E C M K hk hD U hb L
     ·cases B
    ·cases j
   split at j;·grind[fO]
   ·grind[fO]
   ·rename_i hu;injection j with j;subst j;simp only[bT] at B;split at B
    ·rename_i a b U hb;simp only[γ,κ] at B;obtain⟨rfl,rfl⟩:=B;exact WT G E C M hu U hb
    ·cases B
   all_goals simp_all
  split at j<;>grind
 ·
  rename_i op t x C;injection j with j;subst j;simp only[bT] at B;obtain⟨r,L,F⟩:=ko B;simp only[κ] at F;obtain⟨rfl,rfl⟩:=F;exact WU G E C L
 ·
  rename_i s d x C;split at j
  ·rename_i ds k hs hd;injection j with j;subst j;simp only[bT] at B;split at B
   ·rename_i k' n H;simp only[γ,κ] at B;obtain⟨rfl,rfl⟩:=B;exact WV G E C hs hd H
   ·cases B
  ·cases j
 ·
  rename_i s x f C;split at j
  ·rename_i fs hs;split at j
   ·rename_i g hg;split at j
    ·rename_i n M;split at j;·cases j
     ·rename_i a0;injection j with j;subst j;simp only[bT] at B;obtain⟨r,L,F⟩:=ko B;simp only[κ] at F;obtain⟨rfl,rfl⟩:=F;exact WW G E C hs hg M a0 L
    ·cases j
   ·cases j
  ·cases j
 ·
  rename_i t x f C;split at j
  ·rename_i fs hs;split at j
   ·rename_i g hg;obtain⟨n,M,rfl⟩:=ε.1 j;simp only[bT] at B;split at B
    ·rename_i cs H;obtain⟨r,L,F⟩:=ko B;simp only[κ] at F;obtain⟨rfl,rfl⟩:=F;exact WX G E C hs hg M H L
    ·cases B
   ·cases j
  ·cases j
 ·
  rename_i t x i C;split at j
  ·rename_i b1 e I;obtain⟨n,M,rfl⟩:=ε.1 j;simp only[bT] at B;split at B
   ·rename_i k X;split at B
    ·rename_i D;obtain⟨r,L,F⟩:=ko B;simp only[κ] at F;obtain⟨rfl,rfl⟩:=F;exact WY G E C I M X D.1 D.2 L
    ·cases B
   ·cases B
  ·rename_i e I;split at j
   ·rename_i n M;split at j;·cases j
    ·rename_i a0;injection j with j;subst j;simp only[bT] at B;split at B
     ·rename_i k X;obtain⟨r,L,F⟩:=ko B;simp only[κ] at F;obtain⟨rfl,rfl⟩:=F;exact WZ G E C I M a0 X L
     ·cases B
   ·cases j
  ·cases j
 ·
  rename_i t x i C;split at j
  ·rename_i b1 e I;split at j
   ·rename_i s n hs M;injection j with j;subst j;simp only[bT] at B;split at B
    ·rename_i k cs X H;split at B
     ·rename_i D;obtain⟨r,L,F⟩:=ko B;simp only[κ] at F;obtain⟨rfl,rfl⟩:=F;exact W0 G E C I hs M X D.1 D.2 H L
     ·cases B
    ·cases B
   ·cases j
  ·rename_i I;injection j with j;subst j;simp only[bT] at B;split at B
   ·rename_i k s X H;split at B
    ·rename_i D;obtain⟨r,L,F⟩:=ko B;simp only[κ] at F;obtain⟨rfl,rfl⟩:=F;exact W1 G E C I X D H L
    ·cases B
   ·cases B
  ·cases j
 ·
  rename_i t l c C;split at j
  ·rename_i e I;split at j
   ·rename_i z b S hb;split at j
    ·rename_i a2;injection j with j;subst j;simp only[bT] at B;split at B
     ·rename_i n m hl hm;split at B
      ·rename_i D;obtain⟨c1,c2,c3,c4⟩:=D;obtain⟨o2,a9,F⟩:=ko B;obtain⟨hd,rfl⟩:=wU a9;simp only[κ] at F;obtain⟨rfl,rfl⟩:=F;exact Xg G E C I S hb hl hm c1 c2 c3 c4 hd
      ·cases B
     ·cases B
    ·cases j
   ·cases j
  ·cases j
 ·
  rename_i t x lo X C;split at j
  ·rename_i e I;split at j
   ·rename_i n M;split at j;·cases j
    ·rename_i a0;injection j with j;subst j;simp only[bT] at B;obtain⟨r,L,F⟩:=ko B;grind[W8]
   ·cases j
  all_goals grind[bT,Xb]
 ·
  rename_i t x lo X mx C;split at j
  ·rename_i e I;split at j
   ·rename_i n M;split at j;·cases j
    ·rename_i a0;injection j with j;subst j;simp only[bT] at B;obtain⟨r,L,F⟩:=ko B;grind[Xa]
   ·cases j
  ·cases j
 ·
  rename_i c C;split at j;·grind[cO.pJ]
  ·grind[cO.pJ]
  ·grind[cO.pJ]
  ·rename_i J;split at j
   ·rename_i s x t t' U a4;split at j
    ·rename_i b7;subst b7;split at j
     ·rename_i e I;split at j
      ·rename_i z b S hb;split at j
       ·rename_i a2;injection j with j;subst j;simp only[bT] at B;exact Xj G E C J (εj U) (εj a4) I S hb rfl a2 B
       ·cases j
      ·cases j
     ·cases j
    ·cases j
   ·cases j
  ·rename_i J;split at j
   ·rename_i x t U a4;have b5:c.args=#[x]:=εj U;have b3:c.argTypes=#[t]:=εj a4;have c6:∀k,(k=0/\∃e,P.underlying t=some (.slice e))\/(k=1/\P.underlying t=some .string)\/(k=2/\∃a b,P.underlying t=some (.map a b))->T= .len k x->Gives A P bX oper w σ o v o':=by
     intro k I hh;subst hh;simp only[bT] at B;obtain⟨n,M,F⟩:=ko B;simp only[κ] at F;obtain⟨rfl,rfl⟩:=F;exact W3 G E C J b5 b3 I M
    grind[bT,W4]
   ·cases j
  ·rename_i J;split at j
   ·rename_i x y U;injection j with j;subst j;simp only[bT] at B;split at B
    ·rename_i k a k' b H hy;split at B
     ·rename_i a6;subst a6;simp only[γ,κ] at B;obtain⟨rfl,rfl⟩:=B;exact NA (mx:=false) G E C J (εj U) H hy
     ·cases B
    ·cases B
   ·cases j
  ·rename_i J;split at j
   ·rename_i x y U;injection j with j;subst j;simp only[bT] at B;split at B
    ·rename_i k a k' b H hy;split at B
     ·rename_i a6;subst a6;simp only[γ,κ] at B;obtain⟨rfl,rfl⟩:=B;exact NA (mx:=true) G E C J (εj U) H hy
     ·cases B
    ·cases B
   ·cases j
  ·cases j
 ·
  rename_i x i C;injection j with j;subst j;simp only[bT] at B;split at B
  ·rename_i vs H;obtain⟨r,L,F⟩:=ko B;simp only[κ] at F;obtain⟨rfl,rfl⟩:=F;exact W5 G E C H L
  ·cases B
 ·rename_i f a b C;split at j
  ·injection j with j;subst j;simp only[bT,γ,κ] at B;obtain⟨rfl,rfl⟩:=B;exact W7 G E (λ_=>rfl) C
  ·cases j
 ·rename_i t x C;split at j
  ·rename_i fs I;injection j with j;subst j;simp only[bT] at B;split at B
   ·rename_i cs H;split at B
    ·rename_i W;simp only[γ,κ] at B;obtain⟨rfl,rfl⟩:=B;exact W6 G E I C H W
    ·cases B
   ·cases B
  ·cases j
 ·rename_i t C;split at j
  ·split at j
   ·injection j with j;subst j;simp only[bT] at B;obtain⟨o2,a9,F⟩:=ko B;obtain⟨hd,rfl⟩:=wU a9;grind[Xp]
   ·cases j
  ·cases j
 ·
  rename_i t x k ok C;split at j
  ·rename_i kt et I;split at j
   ·rename_i ks ka z g hk K S hg;split at j
    ·rename_i a8;injection j with j;subst j;simp only[bT] at B;split at B
     ·rename_i id kv H Q;split at B
      ·rename_i es b2 pu ho;split at B
       ·rename_i Y;subst Y;split at B
        ·rename_i i a q O;simp only[γ,κ] at B;obtain⟨rfl,rfl⟩:=B;obtain⟨zv,N⟩:=Xq S a8;obtain⟨u,a5,a7⟩:=NP (w:=w) (σ:=σ) (o:=o) S a8 N;have:=NQ (ok:=ok) G E C I hk K ⟨zv,u,N,a5,a7⟩ H Q ho O N;simp_all
        ·rename_i zv O N;simp only[γ,κ] at B;obtain⟨rfl,rfl⟩:=B;obtain⟨u,a5,a7⟩:=NP (w:=w) (σ:=σ) (o:=o) S a8 N;have:=NQ (ok:=ok) G E C I hk K ⟨zv,u,N,a5,a7⟩ H Q ho O N;simp_all
        ·cases B
       ·cases B
      ·cases B
     ·cases B
    ·cases j
   ·cases j
  ·cases j
 ·rename_i t m k v' C;split at j
  ·rename_i kt et I;split at j
   ·rename_i ks ka hk K;injection j with j;subst j;simp only[bT] at B;split at B
    ·rename_i id kv H Q;split at B
     ·rename_i es b2 pu ho;split at B;·cases B
      ·rename_i D;simp only[not_or,ζL] at D;obtain⟨b6,Y⟩:=D;subst Y;have R:pu=true->(bY v').pure=true:=λW=>by
        simp_all
       split at B
       ·rename_i i a O;simp only[γ,κ] at B;obtain⟨rfl,rfl⟩:=B;exact BW G E (.inl C) I hk K H Q ho R O
       ·rename_i O;simp only[γ,κ] at B;obtain⟨rfl,rfl⟩:=B;exact BW G E (.inl C) I hk K H Q ho R O
       ·cases B
     ·cases B
    ·cases B
   ·cases j
  ·cases j
 ·rename_i t m k v' C;split at j
  ·rename_i kt et I;split at j
   ·rename_i ks ka hk K;injection j with j;subst j;simp only[bT] at B;split at B
    ·rename_i id kv H Q;split at B
     ·rename_i es b2 pu ho;split at B;·cases B
      ·rename_i D;simp only[not_or,ζL] at D;obtain⟨b6,Y⟩:=D;subst Y;have R:pu=true->(bY v').pure=true:=λW=>by
        simp_all
       split at B
       ·rename_i i a O;simp only[γ,κ] at B;obtain⟨rfl,rfl⟩:=B;exact BW G E (.inr C) I hk K H Q ho R O
       ·rename_i O;simp only[γ,κ] at B;obtain⟨rfl,rfl⟩:=B;exact BW G E (.inr C) I hk K H Q ho R O
       ·cases B
     ·cases B
    ·cases B
   ·cases j
  ·cases j
 ·cases j
end
section
variable {A A':dT} {w w':World} {σ σ':cn} {o o':Store}
def Tr (o:Store) (σ:cn) (o':Store) (c:cn) (id a:Nat):Prop:=
 (∀f e g h,o[id]?=some (.cells f e g h)->∃b i d,o'[a]?=some (.cells b i g d)/\b.length=f.length)/\(IsMap o id->IsMap o' a)/\c[a]?=σ[id]?
theorem Tr.w9 {id b a:Nat} (h:Tr o σ o' σ' id b) (k:tt o id a):tt o' b a:=by
 obtain⟨j,e,f,l,g,n⟩:=k;obtain⟨d,i,c,m,p⟩:=h.1 j e f l g;exact⟨d,i,f,c,m,by omega⟩
theorem Tr.cur {id g f sz:Nat} (h:Tr o σ o' σ' id g) (k:tt o id f) (p:uZ o' g sz f):uZ o id sz f:=by
 obtain⟨m,e,j,l,n,w⟩:=k;obtain⟨r,y,s,u,x⟩:=h.1 m e j l n;obtain⟨t,v,q,i,z⟩:=p;rw[u] at i;injection i with i;injection i with a b c d;subst a c;exact⟨m,e,l,n,by omega⟩
mutual
theorem AV.ve (m:Nat->Option Nat):∀(c:AV),c.pure=true->c.ren m=some c
 | .sc _,_=>rfl
 | .sl _ _,_=>rfl
 | .ud,h| .agg _,h| .bN _,h| .ep _ _,h| .ptr _ _ _,h| .os _ _ _ _,h| .mp _,h| .fn _ _ _,h| .jo _ _,h=>by simp[AV.pure] at h
end
theorem NR (m:Nat->Option Nat):∀(cs:List AV),dx cs=true->iN m cs=some cs
 |[],_=>rfl
 |c::cs,h=>by
  simp only[dx,θ] at h;simp only[iN,AV.ve m c h.1,NR m cs h.2]
mutual
theorem bC.ren [nS A A'] (l:∀b,b<w.heap.size->Fr A σ b->Fr A' σ' b) {m:Nat->Option Nat} (k:∀id e,m id=some e->Tr o σ o' σ' id e):
  ∀(c:AV) (v:Value) (q:AV),c.ren m=some q->bC A w σ o c v->bC A' w σ' o' q v
 | .ud,v,q,d,_=>by grind[δB,bC];| .sc u,v,q,d,h=>by grind[δB,bC];| .sl n g,v,q,d,h=>by
  simp only[δB,γ] at d;subst d;simp only[bC] at h ⊢;obtain⟨a,D,rfl,T,s,F⟩:=h;exact⟨a,D,rfl,T,s,dB.ren l k g a 0 s F⟩;| .ep g G,v,q,d,h=>by
  simp only[δB,γ] at d;subst d;simp only[bC] at h ⊢;obtain⟨a,rfl,s,F⟩:=h;exact⟨a,rfl,s,dB.ren l k g _ 0 s F⟩;| .agg g,v,q,d,h=>by
  simp only[δB,ε] at d;obtain⟨i,p,rfl⟩:=d;simp only[bC] at h ⊢;obtain⟨B,rfl,z⟩:=h;exact⟨B,rfl,bI.ren l k g _ i p z⟩;| .bN g,v,q,d,h=>by
  simp only[δB,ε] at d;obtain⟨i,p,rfl⟩:=d;simp only[bC] at h ⊢;obtain⟨B,rfl,z⟩:=h;exact⟨B,rfl,bI.ren l k g _ i p z⟩;| .ptr id G I,v,q,d,h=>by
  simp only[δB,ε] at d;obtain⟨e,p,rfl⟩:=d;have C:=k id e p;simp only[bC] at h ⊢;refine⟨C.w9 h.1,h.2.1,λL E=>?_⟩;rw[C.2.2];exact h.2.2 L (C.cur h.1 E);| .os id G P I,v,q,d,h=>by
  simp only[δB,ε] at d;obtain⟨e,p,rfl⟩:=d;have C:=k id e p;simp only[bC] at h ⊢;obtain⟨N,a,D,K,z,O⟩:=h;refine⟨C.w9 N,a,D,K,z,λL E=>?_⟩;have:=O L (C.cur N E);unfold kO at this ⊢;rw[C.2.2];exact this;| .mp id,v,q,d,h=>by
  simp only[δB,ε] at d;obtain⟨e,p,rfl⟩:=d;have C:=k id e p;simp only[bC] at h ⊢;rw[C.2.2];exact⟨C.2.1 h.1,h.2⟩;| .fn f a b,v,q,d,h=>by
  simp only[δB] at d;split at d
  ·rename_i Q V p J;injection d with d;subst d;simp only[bC] at h ⊢;obtain⟨x,y,rfl,R,S⟩:=h;exact⟨x,y,by rw[nS.eq (A:=A) (A':=A')],bI.ren l k a _ Q p R,bI.ren l k b _ V J S⟩
  ·cases d;| .jo t g,v,q,d,h=>by
  simp only[δB,γ] at d;subst d;simp only[bC] at h ⊢;obtain⟨B,rfl,s,z⟩:=h;exact⟨B,rfl,s,bI.ren l k g _ g (NR m g s) z⟩
theorem bI.ren [nS A A'] (l:∀b,b<w.heap.size->Fr A σ b->Fr A' σ' b) {m:Nat->Option Nat} (k:∀id e,m id=some e->Tr o σ o' σ' id e):
  ∀(g:List AV) (B:List Value) (i:List AV),iN m g=some i->bI A w σ o g B->bI A' w σ' o' i B
 |[],B,i,d,h=>by grind[iN,bI];|c::g,B,i,d,h=>by
  simp only[iN] at d;split at d
  ·rename_i W H p J;injection d with d;subst d;simp only[bI] at h ⊢;obtain⟨v,r,rfl,K,z⟩:=h;exact⟨v,r,rfl,bC.ren l k c v W p K,bI.ren l k g r H J z⟩
  ·cases d
theorem dB.ren [nS A A'] (l:∀b,b<w.heap.size->Fr A σ b->Fr A' σ' b) {m:Nat->Option Nat} (k:∀id e,m id=some e->Tr o σ o' σ' id e):
  ∀(g:List AV) (a:Option Addr) (j:Nat),dx g=true->dB A w σ o g a j->dB A' w σ' o' g a j
 |[],_,_,_,_=>by simp[dB];|c::g,a,j,s,h=>by
  simp only[dx,θ] at s;simp only[dB] at h ⊢;obtain⟨⟨b,v,rfl,U,d,F⟩,z⟩:=h;have M:b.block<w.heap.size:=by grind[Ni,add_block]
  exact⟨⟨b,v,rfl,l _ M U,d,bC.ren l k c v c (AV.ve m c s.1) F⟩,dB.ren l k g _ (j+1) s.2 z⟩
end
theorem F9 {m:Nat->Option Nat}:∀{cs a:List AV},iN m cs=some a->a.length=cs.length/\∀(j:Nat) (b:AV),a[j]?=some b->∃c,cs[j]?=some c/\c.ren m=some b
 |[],a,h=>by grind[iN];|c::cs,a,h=>by
  simp only[iN] at h;split at h
  ·rename_i k e f d;injection h with h;subst h;obtain⟨i,g⟩:=F9 d;grind
  ·cases h
theorem NS {m:Nat->Option Nat}:∀{es a:List (Value×AV)},oO m es=some a->a.length=es.length/\∀(j:Nat) (b:Value×AV),a[j]?=some b->∃e,es[j]?=some e/\e.1=b.1/\e.2.ren m=some b.2
 |[],a,h=>by grind[oO];|e::es,a,h=>by
  simp only[oO] at h;split at h
  ·rename_i v d f c;injection h with h;subst h;obtain⟨g,i⟩:=NS c;grind
  ·cases h
theorem Xu {m:Nat->Option Nat} {c a:AV} (h:c.ren m=some a) (b:c.one=true):a.one=true:=by
 cases c<;>simp only[δB,γ,ε] at h<;>simp only[AV.one,Γ] at b<;>grind[δB,AV.one]
mutual
theorem agt {m:Nat->Option Nat}:∀{c a:AV},c.ren m=some a->c.pure=true->a=c
 |c,a,h,b=>by
  grind[AV.ve]
end
theorem dF.ren [nS A A'] (L:∀b,b<w.heap.size->Fr A σ b->Fr A' σ' b) {m:Nat->Option Nat} (J:∀id q,m id=some q->Tr o σ o' σ' id q) {i B:Nat} {x x':bW} (f:x.ren m=some x') (G:σ'[B]?=σ[i]?)
  (h:dF A w σ o i x):dF A' w σ' o' B x':=by
 cases x with
 |dead=>grind[bW.ren,dF];|cells u e S H=>
  simp only[dF] at h;obtain⟨t,C,F⟩:=h;have p:∀a,a.length=u.length->(H=true->dx a=true)->eU a=true->(∀(j:Nat) (g:AV) (v:Value),a[j]?=some g->(∀c,u[j]?=some c->bC A w σ o c v->bC A' w σ' o' g v))->dF A' w σ' o' B (.cells a e S H):=by
   intro a k1 O k3 X;simp only[dF];refine⟨O,k3,?_⟩;rcases F with⟨h0,a1⟩|⟨b,D,E,r1,P,R,U,r5,r6⟩;·simp_all
   ·refine .inr ⟨b,D,E,by simp_all,P,R,U,by omega,λj g k=>?_⟩;have s:j<u.length:=by grind
    obtain⟨v,hv,y⟩:=r6 j _ (μ s);exact⟨v,hv,X j g v k _ (μ s) y⟩
  simp only[bW.ren] at f;split at f
  ·rename_i d;injection f with f;subst f;refine p u rfl t C λj g v k c l y=>?_;rw[k] at l;injection l with l;subst l;exact bC.ren L J g v g (AV.ve m g (qu (t d) g (γr k))) y
  ·rename_i d;obtain⟨a,n,rfl⟩:=ε.1 f;obtain⟨I,g2⟩:=F9 n;refine p a I (λz=>absurd z d) (ng.2 λc l=>?_) λj g v k c l y=>?_
   ·obtain⟨j,k⟩:=γH l;grind[Xu,ng]
   grind[bC.ren];|map es kt H=>
  simp only[dF] at h;obtain⟨t,C,b,c,N,M,F,K,Q,Y⟩:=h;simp only[bW.ren] at f;split at f
  ·rename_i d;injection f with f;subst f;simp only[dF];refine⟨t,C,b,c,N,M,by simp_all,K,Q,λj e r=>?_⟩;obtain⟨V,Z,T,W⟩:=Y j e r;exact⟨V,Z,T,bC.ren L J e.2 _ e.2 (AV.ve m e.2 (t d e (γr r))) W⟩
  ·rename_i d;obtain⟨a0,n,rfl⟩:=ε.1 f;obtain⟨I,g2⟩:=NS n;simp only[dF];refine⟨λz=>absurd z d,λe r=>?_,b,c,N,M,by rw[G];exact F,K,by omega,λj e' r=>?_⟩
   ·obtain⟨j,k⟩:=γH r;grind
   grind[bC.ren]
def qw (k:Nat):Nat->Option Nat:=λi=>if i<k then some i else none
mutual
theorem BX (k:Nat):∀(c:AV),c.cy k=true->c.ren (qw k)=some c
 | .ud,_| .sc _,_| .sl _ _,_| .ep _ _,_| .jo _ _,_=>rfl
 | .agg d,h=>by simp only[AV.cy] at h;simp[δB,xd k d h];| .bN d,h=>by simp only[AV.cy] at h;simp[δB,xd k d h];| .ptr e _ _,h=>by simp_all[AV.cy,δB,qw];| .os e _ _ _,h=>by simp_all[AV.cy,δB,qw];| .mp e,h=>by simp_all[AV.cy,δB,qw];| .fn f a b,h=>by simp only[AV.cy,θ] at h;simp[δB,xd k a h.1,xd k b h.2]
theorem xd (k:Nat):∀(d:List AV),eC k d=true->iN (qw k) d=some d
 |[],_=>rfl
 |c::d,h=>by simp only[eC,θ] at h;simp[iN,BX k c h.1,xd k d h.2]
end
theorem NT {k:Nat} {cs:List AV}:eC k cs=true↔∀c∈cs,c.cy k=true:=by
 induction cs<;>grind[eC]
theorem NU (k:Nat) (id a:Nat) (h:qw k id=some a):Tr o σ (o.take k) (σ.take k) id a:=by
 unfold qw at h;split at h
 ·rename_i i;injection h with h;subst h;refine⟨λf e j b g=>⟨f,e,b,by simp_all,rfl⟩,λ⟨d,c,b,g⟩=>⟨d,c,b,by simp_all⟩,by simp_all⟩
 ·cases h
theorem NV (k:Nat) (b:Nat) (h:Fr A σ b):Fr A (σ.take k) b:=by
 refine⟨?_,h.2⟩;rintro⟨i,c,a⟩;rw[δg] at a;split at a;·exact h.1 ⟨i,c,a⟩
 ·cases a
theorem bC.take {k:Nat} {c:AV} {v:Value} (h:bC A w σ o c v) (a:c.cy k=true):bC A w (σ.take k) (o.take k) c v:=
 bC.ren (λb _ d=>NV k b d) (NU k) c v c (BX k c a) h
theorem Xv {k:Nat} {x:bW} (h:x.cy k=true):x.ren (qw k)=some x:=by
 cases x with
 |dead=>rfl;|cells g e i c=>
  grind[bW.cy,bW.ren,xd];|map a f c=>
  simp only[bW.cy,δj] at h;simp only[bW.ren];split;·rfl
  ·rename_i b;have d:=h.resolve_left b;have:oO (qw k) a=some a:=by
    clear h b;induction a<;>grind[eC,oO,BX]
   rw[this];rfl
theorem cj.take (e:cj A w σ o) {k:Nat} (n:∀x∈o.take k,x.cy k=true):cj A w (σ.take k) (o.take k):=by
 have a:∀(i:Nat) (s:Option (Nat×Nat)),(σ.take k)[i]?=some s->σ[i]?=some s:=by
  grind
 refine⟨by simp[e.len],λi j b c d g m=>e.dist i j b c d (a _ _ g) (a _ _ m),λi b c g=>e.bnd i b c (a _ _ g),λi x f=>?_,λi b c g=>e.av i b c (a _ _ g),e.kn⟩;have h:=f;rw[δg] at f;split at f
 ·rename_i p;exact dF.ren (λb _ l=>NV k b l) (NU k) (Xv (n x (γr h))) (by simp_all) (e.obj i x f)
 ·cases f
theorem Ext.take {v:World} {j:cn} {u:Store} (h:Ext v j u w σ o) {k:Nat} (C:u.length<=k):Ext v j u w (σ.take k) (o.take k) where
 size:=h.size;blk:=λb z B=>by
  obtain⟨g,p⟩:=h.blk b z B;refine⟨g,?_⟩;rintro⟨i,c,q⟩;rw[δg] at q;split at q;·exact p ⟨i,c,q⟩
  ·cases q
 len:=by have:=h.len;simp;omega
 cur:=λm t l=>by
  obtain⟨g,p⟩:=h.cur m t l;have d:m<k:=by
   obtain⟨r,e,n,a,f,_⟩:=l;grind
  refine⟨?_,λn A=>?_⟩
  ·obtain⟨r,e,n,a,f,s⟩:=g;exact⟨r,e,n,a,by simp_all,s⟩
  ·rw[εA d];refine p n ?_;obtain⟨r,e,a,f,s⟩:=A;rw[εA d] at f;exact⟨r,e,a,f,s⟩
 isMap:=λm l=>by
  obtain⟨g,p⟩:=h.isMap m l;have d:m<k:=by
   obtain⟨x,y,a,f⟩:=l;grind
  refine⟨?_,by simp_all⟩;obtain⟨x,y,a,f⟩:=g;exact⟨x,y,a,by simp_all⟩
 os:=h.os;tape:=h.tape;output:=h.output
mutual
theorem bC.cy {k:Nat} (g:∀i x,k<=i->o[i]?=some x->x.mZ=true):∀(c:AV) (v:Value),bC A w σ o c v->c.cy k=true
 | .ud,_,_| .sc _,_,_| .sl _ _,_,_| .ep _ _,_,_| .jo _ _,_,_=>rfl
 | .agg d,v,h=>by simp only[bC] at h;obtain⟨l,_,j⟩:=h;simp only[AV.cy];exact bI.cy g d _ j;| .bN d,v,h=>by simp only[bC] at h;obtain⟨l,_,j⟩:=h;simp only[AV.cy];exact bI.cy g d _ j;| .ptr n _ _,v,h=>by
  simp only[bC] at h;obtain⟨⟨d,e,s,m,p,_⟩,_⟩:=h;simp only[AV.cy,decide_eq_true_eq];grind[bW.mZ];| .os n _ _ _,v,h=>by
  simp only[bC] at h;obtain⟨⟨d,e,s,m,p,_⟩,_⟩:=h;simp only[AV.cy,decide_eq_true_eq];grind[bW.mZ];| .mp n,v,h=>by
  simp only[bC] at h;obtain⟨⟨B,z,m,p⟩,_⟩:=h;simp only[AV.cy,decide_eq_true_eq];grind[bW.mZ];| .fn f a b,v,h=>by simp only[bC] at h;obtain⟨x,y,_,u,q⟩:=h;simp only[AV.cy,θ];exact⟨bI.cy g a _ u,bI.cy g b _ q⟩
theorem bI.cy {k:Nat} (g:∀i x,k<=i->o[i]?=some x->x.mZ=true):∀(d:List AV) (l:List Value),bI A w σ o d l->eC k d=true
 |[],_,_=>rfl
 |c::d,l,h=>by
  simp only[bI] at h;obtain⟨v,r,_,t,j⟩:=h;simp only[eC,θ];exact⟨bC.cy g c v t,bI.cy g d r j⟩
end
theorem dF.cy {k i:Nat} {x:bW} (n:∀i x,k<=i->o[i]?=some x->x.mZ=true) (h:dF A w σ o i x):x.cy k=true:=by
 cases x with
 |dead=>rfl;|cells t e s g=>
  simp only[dF] at h;simp only[bW.cy,δj];right;refine NT.2 λc a=>?_;obtain⟨j,f⟩:=γH a;grind[bC.cy];|map r p g=>
  simp only[dF] at h;obtain⟨_,_,b,c,m,l,_,_,_,q⟩:=h;simp only[bW.cy,δj];right;refine NT.2 λc a=>?_;obtain⟨e,d,rfl⟩:=List.mem_map.1 a;obtain⟨j,f⟩:=γH d;grind[bC.cy]
theorem Xw {n i:Nat} {x:bW} (h:(gl n)[i]?=some x):x= .dead:=by
 grind[gl]
theorem cj.gl (f:cj A w σ o) (n:Nat):cj A w (σ++δ n none) (o++gl n)/\Ext w σ o w (σ++δ n none) (o++gl n):=by
 have g:∀(i:Nat) (b c:Nat),(σ++δ n none)[i]?=some (some (b,c))->σ[i]?=some (some (b,c)):=by
  grind
 have v:Ext w σ o w (σ++δ n none) (o++Go.Vi.gl n):=by
  refine⟨ψ _,λb _ F=>⟨rfl,λ⟨i,c,h⟩=>F ⟨i,c,g i b c h⟩⟩,by simp,λK I q=>?_,λK q=>?_,rfl,rfl,rfl⟩
  ·obtain⟨H,e,G,m,s,C⟩:=q;have a:=(ι.1 s).1;refine⟨⟨H,e,G,m,by grind,C⟩,λB D=>⟨?_,by rw[γ5 (by rw[f.len];exact a)]⟩⟩;obtain⟨p,J,u,l,t⟩:=D;rw[γ5 a] at l;exact⟨p,J,u,l,t⟩
  ·obtain⟨z,y,m,s⟩:=q;have a:=(ι.1 s).1;exact⟨⟨z,y,m,by grind⟩,by rw[γ5 (by rw[f.len];exact a)]⟩
 refine⟨⟨by simp[Go.Vi.gl,f.len],λi j b c d h E=>f.dist i j b c d (g _ _ _ h) (g _ _ _ E),λi b c h=>f.bnd i b c (g _ _ _ h),λi x k=>?_,λi b c h=>f.av i b c (g _ _ _ h),f.kn⟩,v⟩;rw[List.getElem?_append] at k;split at k
 ·rename_i a;exact(f.obj i x k).ext v (by rw[γ5 (by rw[f.len];exact a)]) λ_ _ _=>rfl
 ·rename_i a;have:=Xw k;subst this;simp only[dF];have r:=(ι.1 k).1;simp[Go.Vi.gl] at r;rw[εY (by rw[f.len];omega),List.getElem?_replicate,if_pos (by rw[f.len];omega)]
theorem Xx (f:cj A w σ o) (k:Nat):∃b,cj A w b (qZ k o)/\(∀c v,bC A w σ o c v->bC A w b (qZ k o) c v)/\
  ∀(e:World) (a:cn) (d:Store),d.length<=k->Ext e a d w σ o->Ext e a d w b (qZ k o):=by
 unfold qZ;split
 ·rename_i h;have g:∀i x,k<=i->o[i]?=some x->x.mZ=true:=by
   intro i x r l;refine List.all_eq_true.1 h x (γr (i:=i - k) ?_);simp_all
  refine⟨σ.take k,f.take λx l=>?_,λc v m=>m.take (bC.cy g c v m),λe a d q p=>p.take q⟩;obtain⟨j,n⟩:=γH (γi l);exact dF.cy g (f.obj j x n)
 ·exact⟨σ,f,λ_ _ h=>h,λ_ _ _ _ h=>h⟩
end
def lD (P:Program) (f:FuncId) (args:List AV) (o:Store) (r:AV) (o':Store):Prop:=
 ∀(A:dT) (w:World) (b:cn) (d:List Value),cj A w b o->bI A w b o args d->
  Calls P f d.toArray w λe c=>∃u a,e= .returned u/\cj A c a o'/\bC A c a o' r u/\Ext w b o c a o'
def pK (P:Program) (call:dm):Prop:=
 ∀f a o b r c,call f a o b=some (r,c)->hZ P f=true/\lD P f a o r c/\(b=false->c=[])
section
variable {P:Program} {A B:dT} {w w':World} {σ σ':cn} {o o':Store}
theorem BY {d e:Type} {f:d->Option e}:∀{l:List d} {c:List e},l.mapM f=some c->c.length=l.length/\∀(j:Nat) (a:d),l[j]?=some a->∃b,c[j]?=some b/\f a=some b
 |[],c,h=>by simp_all;|a::l,c,h=>by
  rw[εJ] at h;cases g:f a with
  |none=>simp[g] at h;|some b=>
   cases i:l.mapM f with
   |none=>simp_all;|some r=>
    simp[g,i] at h;subst h;obtain⟨m,k⟩:=BY i;grind
theorem zh {f:AV->Option AV} {cs a:List AV} {vs:List Value} (h:cs.mapM f=some a) (e:bI A w σ o cs vs) (n:∀c∈cs,∀d v,f c=some d->bC A w σ o c v->bC B w σ' o' d v):bI B w σ' o' a vs:=by
 obtain⟨p,m⟩:=BY h;have q:=bI.length _ _ e;refine bI.lV _ _ (by omega) λj d k=>?_;have g:j<cs.length:=by grind
 obtain⟨v,r,i⟩:=bI.get _ _ e j _ (μ g);obtain⟨b,s,l⟩:=m j _ (μ g);grind
theorem Ge [nS A B] (hS:cj A w σ o) (hB:∀b,b<w.heap.size->Fr A σ b->¬B b):∀(d:Nat) (a Q:AV) (u:Value),freeze o d a=some Q->(∀id∈fA o d a,∀b c,σ[id]?=some (some (b,c))->¬B b)->
  bC A w σ o a u->bC B w [] [] Q u:=by
 have F:∀b,b<w.heap.size->Fr A σ b->Fr B [] b:=λb z f=>⟨λ⟨i,c,E⟩=>by simp at E,hB b z f⟩;have M:∀id t,(λ_:Nat=>(none:Option Nat)) id=some t->Tr o σ [] [] id t:=λ_ _ h=>by cases h
 intro d;induction d with
 |zero=>
  intro a Q u f _ s;cases a<;>simp only[freeze,reduceCtorEq,γ] at f;·grind[bC]
  ·rename_i v;split at f
   ·injection f with f;subst f;have:=ic s;subst this;simp only[bC,dB];exact⟨none,0,rfl,ψ _,rfl,trivial⟩
   grind[bC]
  ·subst f;exact bC.ren F M _ _ _ rfl s
  ·subst f;exact bC.ren F M _ _ _ rfl s;|succ d ih=>
  intro a Q u f ht s;cases a<;>simp only[freeze,reduceCtorEq,γ] at f;·grind[bC]
  ·rename_i v;split at f
   ·injection f with f;subst f;have:=ic s;subst this;simp only[bC,dB];exact⟨none,0,rfl,ψ _,rfl,trivial⟩
   grind[bC]
  ·rename_i C;obtain⟨I,h1,rfl⟩:=ε.1 f;grind[bC,zh,fA]
  ·rename_i C;obtain⟨I,h1,rfl⟩:=ε.1 f;grind[bC,zh,fA]
  ·subst f;exact bC.ren F M _ _ _ rfl s
  ·
   rename_i id q r a3;split at f
   ·rename_i C e R pu T;split at f
    ·rename_i y;obtain⟨D,P⟩:=y;simp only[bC] at s;obtain⟨a5,X,O,rfl,J,G⟩:=s;have Z:=G R ⟨C,e,pu,T,D⟩;have L:=hS.obj id _ T;simp only[dF] at L;obtain⟨q1,q2,q3⟩:=L;have k:∀(j:Nat) (c:AV),((C.drop q).take (r*R))[j]?=some c->∃(p:Addr) (v:Value),X=some p/\¬B p.block/\w.cell? (p.add j)=some v/\bC A w σ o c v:=by
      intro j c n;rw[δg] at n;split at n
      ·rename_i S;rw[δW] at n;have a1:0<r:=by
        grind
       unfold kO at Z;split at Z;·omega
       ·rename_i b c2 K;rcases q3 with⟨h0,_⟩|⟨b',a0,a4,U,_,r3,_,_,r6⟩;·simp_all
        ·rw[K] at U;simp only[γ,κ] at U;obtain⟨rfl,rfl⟩:=U;obtain⟨v,hv,m⟩:=r6 _ c n;refine⟨⟨b,q,none⟩,v,(by grind[pI]),ht id (by simp[fA]) b c2 K,?_,m⟩;grind[F5,World.cell?]
       simp_all
      ·cases n
     split at f
     ·rename_i N;injection f with f;subst f;have g:dx ((C.drop q).take (r*R))=true:=tB λc n=>qu (q1 N) c (γW (γi n));simp only[bC];refine⟨X,O,rfl,J,g,dB.lV _ _ _ λj c n=>?_⟩;obtain⟨p,v,V,x,l,m⟩:=k j c n;exact⟨p,v,V,⟨λ⟨i,c,E⟩=>by simp at E,x⟩,by simpa using l,bC.ren F M c v c (AV.ve _ c (qu g c (γr n))) m⟩
     ·rename_i N;split at f
      ·rename_i I H;split at f
       ·rename_i g;injection f with f;subst f;obtain⟨m1,m2⟩:=BY H;simp only[bC];refine⟨X,O,rfl,J,g,dB.lV _ _ _ λj c' W=>?_⟩;have S:j<((C.drop q).take (r*R)).length:=by grind
        obtain⟨p,v,V,x,l,m⟩:=k j _ (μ S);obtain⟨b,z,Y⟩:=m2 j _ (μ S);rw[W] at z;injection z with z;subst z;refine⟨p,v,V,⟨λ⟨i,c,E⟩=>by simp at E,x⟩,by simpa using l,ih _ _ v Y (λt a2=>ht t ?_) m⟩;simp only[fA,T,γD];grind
       ·cases f
      ·cases f
    ·cases f
   ·cases f
  ·grind[bC,nS.eq,zh,fA]
  ·subst f;exact bC.ren F M _ _ _ rfl s
theorem cj.far (f:cj A w σ o) (e:Ext w [] [] w' σ' o'):cj A w' σ o/\Ext w σ o w' σ o:=by
 have a:∀b,b<w.heap.size->w'.heap[b]?=w.heap[b]?:=λb d=>(e.blk b d λ⟨i,c,l⟩=>by simp at l).1;have g:Ext w σ o w' σ o:=⟨e.size,λb d k=>⟨a b d,k⟩,ψ _,λ_ _ h=>⟨h,λ_ h=>⟨h,rfl⟩⟩,λ_ h=>⟨h,rfl⟩,e.os,e.tape,e.output⟩;exact⟨⟨f.len,f.dist,λi b c h=>γj (f.bnd i b c h) e.size,λi x j=>(f.obj i x j).ext g rfl λb c d=>a b (f.bnd i b c d),f.av,λb d=>γj (f.kn b d) e.size⟩,g⟩
mutual
theorem NW:∀(r:AV) (u:Value),r.li=true->bC A w σ o r u->bC B w' σ' o' r u
 | .ud,_,_,_=>by simp[bC];| .sc v,u,_,h=>by grind[bC];| .agg b,u,a,h=>by
  simp only[AV.li] at a;simp only[bC] at h ⊢;obtain⟨d,rfl,e⟩:=h;exact⟨d,rfl,Gf b _ a e⟩;| .bN b,u,a,h=>by
  simp only[AV.li] at a;simp only[bC] at h ⊢;obtain⟨d,rfl,e⟩:=h;exact⟨d,rfl,Gf b _ a e⟩;| .sl n b,u,a,h=>by
  grind[AV.li,bC,dB];| .ep _ _,_,a,_| .ptr _ _ _,_,a,_| .os _ _ _ _,_,a,_| .mp _,_,a,_| .fn _ _ _,_,a,_| .jo _ _,_,a,_=>by simp[AV.li] at a
theorem Gf:∀(b:List AV) (d:List Value),uU b=true->bI A w σ o b d->bI B w' σ' o' b d
 |[],d,_,h=>by grind[bI];|c::b,d,a,h=>by
  simp only[uU,θ] at a;simp only[bI] at h ⊢;obtain⟨v,r,rfl,f,e⟩:=h;exact⟨v,r,rfl,NW c v a.1 f,Gf b r a.2 e⟩
end
theorem BZ (w:World) (a:∀b,A b->b<w.heap.size):cj A w [] []:=⟨rfl,by simp,by simp,by simp,by simp,a⟩
theorem Xy {call:dm} (q:pK P call) (n:cj A w σ o) {f:FuncId} {args a:List AV} {vs:List Value} (N:bI A w σ o args vs) (K:args.mapM (freeze o 6)=some a) {r:AV}
  (X:call f a [] false=some (r,[])) (y:(args.flatMap (fA o 6)).isEmpty=true\/r.li=true):
  hZ P f=true/\Calls P f vs.toArray w λe w'=>∃u g,e= .returned u/\cj A w' g o/\bC A w' g o r u/\Ext w σ o w' g o:=by
 obtain⟨S,C,_⟩:=q _ _ _ _ _ _ X;refine⟨S,?_⟩;rcases y with y|y;·
  let B:dT:=⟨λb=>A b\/Own σ b,A.l⟩;have Q:∀b,B b->b<w.heap.size:=λb z=>Or.elim (show A b\/Own σ b from z) (n.kn b) λ⟨i,c,V⟩=>n.bnd i b c V;haveI:nS A B:=⟨rfl⟩;haveI:nS B A:=⟨rfl⟩;have j:bI B w [] [] a vs:=zh K N λc E J v s t=>Ge n (λb _ d z=>Or.elim (show A b\/Own σ b from z) d.2 d.1) 6 c J v s (λI U=>by
   simp_all) t;refine(C B w [] vs (BZ w Q) j).mono ?_;rintro e w' ⟨u,g,rfl,F,p,G⟩;obtain⟨M,L⟩:=n.far G;refine⟨u,σ,rfl,M,?_,L⟩;have D:r.cy 0=true:=bC.cy (k:=0) (λi x _ W=>by simp at W) r u p;refine bC.ren (m:=qw 0) (λb z d=>⟨λR=>d.2 (show A b\/Own σ b from .inr R),λT=>d.2 (show A b\/Own σ b from .inl T)⟩) (λI O h=>by grind[qw]) r u r (BX 0 r D) p
 ·have j:bI A w [] [] a vs:=zh K N λc E J v s t=>Ge n (λb _ d z=>d.2 z) 6 c J v s (λI _ b Y H=>n.av I b Y H) t;refine(C A w [] vs (BZ w n.kn) j).mono ?_;rintro e w' ⟨u,g,rfl,F,p,G⟩;obtain⟨M,L⟩:=n.far G;grind[NW]
end
section
variable {A:dT} {w:World} {σ:cn} {o:Store}
def jG (o:Store) (p:Nat->Bool) (i:Nat):Bool:=p i&&(match o[i]? with|some (.cells _ _ _ true)=>true|_=>false)
def lX (o:Store) (p:Nat->Bool) (σ:cn):cn:=(Θ σ.length).map λi=>if jG o p i then none else(σ[i]?).getD none
theorem Gg (o:Store) (p:Nat->Bool) (σ:cn):(lX o p σ).length=σ.length:=by simp[lX]
theorem Gh {o:Store} {p:Nat->Bool} {σ:cn} {i:Nat} (a:i<σ.length):(lX o p σ)[i]?=some (if jG o p i then none else(σ[i]?).getD none):=by
 simp[lX,a]
theorem vf {o:Store} {p:Nat->Bool} {σ:cn} {i:Nat} {s:Nat×Nat} (h:(lX o p σ)[i]?=some (some s)):σ[i]?=some (some s)/\jG o p i=false:=by
 have a:i<σ.length:=by grind[Gg]
 simp_all[Gh]
theorem NY {o:Store} {p:Nat->Bool} {σ:cn} {i:Nat} (h:jG o p i=false):(lX o p σ)[i]?=σ[i]?:=by
 grind[Gh,Gg]
def Gi (p:Nat->Bool) (i:Nat):bW->bW
 | .cells b e a true=>if p i then .dead else .cells b e a true
 |x=>x
theorem B5 (p:Nat->Bool):∀(o:Store) (k i:Nat),(fS p k o)[i]?=(o[i]?).map (Gi p (k+i))
 |[],k,i=>by simp[fS];|x::r,k,i=>by
  simp only[fS];cases i with
  |zero=>simp only[List.getElem?_cons_zero,γm,Nat.add_zero];congr 1;|succ i=>simp only[γw];rw[B5 p r (k+1) i,show k+1+i=k+(i+1) from by omega]
theorem NZ {p:Nat->Bool} {a:Store}:∀{o o':Store},jF a p o=some o'->o'.length=o.length/\∀(i:Nat) (x:bW),o[i]?=some x->∃y,x.bZ a p=some y/\o'[i]?=some y
 |[],o',h=>by grind[jF];|x::r,o',h=>by
  simp only[jF] at h;split at h
  ·rename_i y l e b;injection h with h;subst h;obtain⟨d,c⟩:=NZ b;grind
  ·cases h
theorem Gj {o:Store} {p:Nat->Bool}:∀{cs a:List AV},hJ o p cs=some a->a.length=cs.length/\∀(j:Nat) (b:AV),a[j]?=some b->∃c,cs[j]?=some c/\c.bZ o p=some b
 |[],a,h=>by grind[hJ];|c::cs,a,h=>by
  simp only[hJ] at h;split at h
  ·rename_i k e f d;injection h with h;subst h;obtain⟨i,g⟩:=Gj d;grind
  ·cases h
theorem N1 {o:Store} {p:Nat->Bool}:∀{es a:List (Value×AV)},qp o p es=some a->a.length=es.length/\∀(j:Nat) (b:Value×AV),a[j]?=some b->∃e,es[j]?=some e/\e.1=b.1/\e.2.bZ o p=some b.2
 |[],a,h=>by grind[qp];|e::es,a,h=>by
  simp only[qp] at h;split at h
  ·rename_i v d f c;injection h with h;subst h;obtain⟨g,i⟩:=N1 c;grind
  ·cases h
theorem N2 {o:Store} {p:Nat->Bool}:∀{env a:jE},uW o p env=some a->∀s,(dN env s).bZ o p=some (dN a s)
 |[],a,h,s=>by simp only[uW,γ] at h;subst h;rfl;|(k,v)::r,a,h,s=>by
  simp only[uW] at h;split at h
  ·rename_i e d b c;injection h with h;subst h;simp only[dN];cases f:Nat.beq k s with
   |true=>exact b;|false=>exact N2 c s
  ·cases h
mutual
theorem AV.N3 (o:Store) (p:Nat->Bool):∀(c:AV),c.pure=true->c.bZ o p=some c
 | .sc _,_=>rfl
 | .sl _ _,_=>rfl
 | .ud,h| .agg _,h| .bN _,h| .ep _ _,h| .ptr _ _ _,h| .os _ _ _ _,h| .mp _,h| .fn _ _ _,h| .jo _ _,h=>by simp[AV.pure] at h
end
theorem Xz {o:Store} {p:Nat->Bool} {c a:AV} (h:c.bZ o p=some a) (b:c.one=true):a.one=true:=by
 cases c<;>simp only[AV.one,Γ] at b<;>simp only[AV.bZ] at h<;>grind[AV.one,AV.bZ]
structure tG (o:Store) (p:Nat->Bool) (o2:Store):Prop where
 len:o2.length=o.length
 get:∀i x,o[i]?=some x->(jG o p i=true/\o2[i]?=some .dead)\/(jG o p i=false/\∃y,x.bZ o p=some y/\o2[i]?=some y)
theorem N4 {o a:Store} {p:Nat->Bool} (h:jF o p o=some a):tG o p (fS p 0 a):=by
 obtain⟨k,l⟩:=NZ h;have n:(fS p 0 a).length=o.length:=by
  rw[<-k];apply Nat.le_antisymm
  ·rcases ε1 a.length (fS p 0 a).length with h|h
   ·exfalso;have:=B5 p a 0 a.length;simp_all
   ·exact h
  ·rcases ε1 (fS p 0 a).length a.length with h|h
   ·exfalso;have:=B5 p a 0 (fS p 0 a).length;simp_all
   ·exact h
 refine⟨n,λi x j=>?_⟩;obtain⟨y,b,f⟩:=l i x j;have d:=B5 p a 0 i;rw[f,Nat.zero_add] at d;simp only[γm] at d;unfold jG;rw[j];cases x with
 |cells s e q g=>
  cases g with
  |true=>
   simp only[bW.bZ,if_true,γ] at b;grind[Gi];|false=>
   right;simp only[bW.bZ,Γ,if_false,ε] at b;grind[Gi]
 |dead=>
  simp only[bW.bZ,γ] at b;subst b;right;exact⟨by simp,_,rfl,d⟩;|map r m g=>
  right;have:∃c,y= .map c m g:=by
   simp only[bW.bZ] at b;split at b;·grind
   ·obtain⟨c,_,rfl⟩:=ε.1 b;simp_all
  obtain⟨c,rfl⟩:=this;exact⟨by simp,_,b,d⟩
theorem tG.tr {o2:Store} {p:Nat->Bool} (h:tG o p o2) {id:Nat} (m:jG o p id=false):Tr o σ o2 (lX o p σ) id id:=by
 refine⟨λn e q d c=>?_,λ⟨l,g,d,c⟩=>?_,NY m⟩
 ·rcases h.get id _ c with⟨i,_⟩|⟨_,y,a,b⟩;·simp_all
  ·simp only[bW.bZ] at a;split at a;·grind
   ·obtain⟨k,j,rfl⟩:=ε.1 a;grind[Gj]
 ·rcases h.get id _ c with⟨i,_⟩|⟨_,y,a,b⟩;·simp_all
  ·simp only[bW.bZ] at a;split at a;·injection a with a;subst a;exact⟨l,g,d,b⟩
   ·obtain⟨f,j,rfl⟩:=ε.1 a;exact⟨f,g,d,b⟩
theorem vg {p:Nat->Bool} {b:Nat} (h:Fr A σ b):Fr A (lX o p σ) b:=⟨λ⟨i,c,a⟩=>h.1 ⟨i,c,(vf a).1⟩,h.2⟩
mutual
theorem bC.bZ (E:cj A w σ o) {p:Nat->Bool} {o2:Store} (D:tG o p o2):∀(c:AV) (v:Value) (q:AV),c.bZ o p=some q->bC A w σ o c v->bC A w (lX o p σ) o2 q v
 | .ud,v,q,d,_=>by grind[AV.bZ,bC];| .sc u,v,q,d,h=>by grind[AV.bZ,bC];| .sl n s,v,q,d,h=>by
  simp only[AV.bZ,γ] at d;subst d;exact bC.ren (m:=λ_=>none) (λb _ z=>vg z) (λ_ _ h=>by cases h) _ _ _ rfl h;| .ep s B,v,q,d,h=>by
  simp only[AV.bZ,γ] at d;subst d;exact bC.ren (m:=λ_=>none) (λb _ z=>vg z) (λ_ _ h=>by cases h) _ _ _ rfl h;| .agg s,v,q,d,h=>by
  simp only[AV.bZ,ε] at d;obtain⟨k,K,rfl⟩:=d;simp only[bC] at h ⊢;obtain⟨F,rfl,Q⟩:=h;exact⟨F,rfl,bI.bZ E D s _ k K Q⟩;| .bN s,v,q,d,h=>by
  simp only[AV.bZ,ε] at d;obtain⟨k,K,rfl⟩:=d;simp only[bC] at h ⊢;obtain⟨F,rfl,Q⟩:=h;exact⟨F,rfl,bI.bZ E D s _ k K Q⟩;| .ptr l B G,v,q,d,h=>by
  have H:jG o p l=false/\q= .ptr l B G:=by
   grind[jG,AV.bZ]
  obtain⟨H,rfl⟩:=H;exact bC.ren (m:=λi=>if i=l then some l else none) (λb _ z=>vg z) (λi j g=>by
   split at g;·rename_i M;injection g with g;subst M;subst g;exact D.tr H
   ·cases g) _ _ _ (by simp[δB]) h;| .mp l,v,q,d,h=>by
  simp only[AV.bZ,γ] at d;subst d;have H:jG o p l=false:=by
   simp only[bC] at h;obtain⟨⟨es,kt,pu,S⟩,_⟩:=h;simp[jG,S]
  exact bC.ren (m:=λi=>if i=l then some l else none) (λb _ z=>vg z) (λi j g=>by
   split at g;·rename_i M;injection g with g;subst M;subst g;exact D.tr H
   ·cases g) _ _ _ (by simp[δB]) h;| .fn f a b,v,q,d,h=>by
  simp only[AV.bZ] at d;split at d
  ·rename_i a' b' K h2;injection d with d;subst d;simp only[bC] at h ⊢;obtain⟨x,y,rfl,hx,hy⟩:=h;exact⟨x,y,rfl,bI.bZ E D a _ a' K hx,bI.bZ E D b _ b' h2 hy⟩
  ·cases d;| .jo t s,v,q,d,h=>by
  simp only[AV.bZ,γ] at d;subst d;exact bC.ren (m:=λ_=>none) (λb _ z=>vg z) (λ_ _ h=>by cases h) _ _ _ rfl h;| .os l B L G,v,q,d,h=>by
  have a3:jG o p l=false->q= .os l B L G->bC A w (lX o p σ) o2 q v:=by
   rintro H rfl;exact bC.ren (m:=λi=>if i=l then some l else none) (λb _ z=>vg z) (λi j g=>by
    split at g;·rename_i M;injection g with g;subst M;subst g;exact D.tr H
    ·cases g) _ _ _ (by simp[δB]) h
  simp only[AV.bZ] at d;split at d
  ·rename_i hp;split at d
   ·rename_i s e sz pu S;split at d
    ·rename_i V;subst V;split at d
     ·rename_i J;injection d with d;subst d;obtain⟨N,R⟩:=J;have a4:jG o p l=true:=by grind[jG]
      simp only[bC] at h;obtain⟨a6,X,Y,rfl,W,O⟩:=h;have hk:=O sz ⟨s,e,true,S,N⟩;have P:=E.obj l _ S;simp only[dF] at P;obtain⟨q1,q2,q3⟩:=P;have C:dx ((s.drop B).take (L*sz))=true:=tB λc d=>qu (q1 trivial) c (γW (γi d));simp only[bC];refine⟨X,Y,rfl,W,C,dB.lV _ _ _ λj c d=>?_⟩;have a0:=qu C c (γr d);rw[δg] at d;split at d
      ·rename_i hj;rw[δW] at d;have a2:0<L:=by
        grind
       unfold kO at hk;split at hk;·omega
       ·rename_i b c2 I;rcases q3 with⟨M,_⟩|⟨b',a1,a5,T,_,r3,_,_,r6⟩;·simp_all
        ·rw[I] at T;simp only[γ,κ] at T;obtain⟨rfl,rfl⟩:=T;obtain⟨u,hu,U⟩:=r6 _ c d;refine⟨⟨b,B,none⟩,u,(by grind[pI]),⟨?_,E.av l b c2 I⟩,?_,?_⟩
         ·rintro⟨i,c3,hi⟩;obtain⟨k1,k2⟩:=vf hi;have:=E.dist l i b c2 c3 I k1;simp_all
         ·grind[F5,World.cell?]
         ·exact bC.ren (m:=λ_=>none) (λb _ z=>vg z) (λ_ _ h=>by cases h) c u c (AV.ve _ c a0) U
       simp_all
      ·cases d
     ·cases d
    grind[jG]
   grind[jG]
  grind[jG]
theorem bI.bZ (E:cj A w σ o) {p:Nat->Bool} {o2:Store} (D:tG o p o2):∀(s:List AV) (F:List Value) (k:List AV),hJ o p s=some k->bI A w σ o s F->bI A w (lX o p σ) o2 k F
 |[],F,k,d,h=>by grind[hJ,bI];|c::s,F,k,d,h=>by
  simp only[hJ] at d;split at d
  ·rename_i c1 Z K h2;injection d with d;subst d;simp only[bI] at h ⊢;obtain⟨v,r,rfl,hv,Q⟩:=h;exact⟨v,r,rfl,bC.bZ E D c v c1 K hv,bI.bZ E D s r Z h2 Q⟩
  ·cases d
end
end
section
variable {A:dT} {w:World} {σ:cn} {o:Store}
theorem dF.bZ (D:cj A w σ o) {p:Nat->Bool} {o2:Store} (J:tG o p o2) {i:Nat} {x y:bW} (V:o[i]?=some x) (hd:jG o p i=false) (f:x.bZ o p=some y):dF A w (lX o p σ) o2 i y:=by
 have h:=D.obj i x V;have C:=NY (σ:=σ) hd;cases x with
 |dead=>grind[bW.bZ,dF];|cells t e sz H=>
  simp only[dF] at h;obtain⟨s,B,z⟩:=h;have n:∀a,a.length=t.length->(H=true->dx a=true)->eU a=true->(∀(j:Nat) (g:AV) (v:Value),a[j]?=some g->(∀c,t[j]?=some c->bC A w σ o c v->bC A w (lX o p σ) o2 g v))->dF A w (lX o p σ) o2 i (.cells a e sz H):=by
   intro a k1 O U Q;simp only[dF];refine⟨O,U,?_⟩;rcases z with⟨h0,N⟩|⟨b,F,G,r1,P,R,S,r5,r6⟩;·simp_all
   ·refine .inr ⟨b,F,G,by simp_all,P,R,S,by omega,λj g k=>?_⟩;have r:j<t.length:=by grind
    obtain⟨v,X,u⟩:=r6 j _ (μ r);exact⟨v,X,Q j g v k _ (μ r) u⟩
  simp only[bW.bZ] at f;split at f
  ·rename_i d;injection f with f;subst f;refine n t rfl s B λj g v k c m u=>?_;rw[k] at m;injection m with m;subst m;exact bC.bZ D J g v g (AV.N3 o p g (qu (s d) g (γr k))) u
  ·rename_i d;obtain⟨a,l,rfl⟩:=ε.1 f;obtain⟨I,g2⟩:=Gj l;refine n a I (λE=>absurd E d) (ng.2 λc m=>?_) λj g v k c m u=>?_
   ·obtain⟨j,k⟩:=γH m;grind[Xz,ng]
   grind[bC.bZ];|map es kt H=>
  simp only[dF] at h;obtain⟨s,B,b,c,K,M,z,L,h5,Y⟩:=h;simp only[bW.bZ] at f;split at f
  ·rename_i d;injection f with f;subst f;simp only[dF];refine⟨s,B,b,c,K,M,by simp_all,L,h5,λj e q=>?_⟩;obtain⟨W,Z,q2,T⟩:=Y j e q;exact⟨W,Z,q2,bC.bZ D J e.2 _ e.2 (AV.N3 o p e.2 (s d e (γr q))) T⟩
  ·rename_i d;obtain⟨a0,l,rfl⟩:=ε.1 f;obtain⟨I,g2⟩:=N1 l;simp only[dF];refine⟨λE=>absurd E d,λe q=>?_,b,c,K,M,by rw[C];exact z,L,by omega,λj e' q=>?_⟩
   ·obtain⟨j,k⟩:=γH q;grind
   grind[bC.bZ]
theorem cj.bZ (e:cj A w σ o) {p:Nat->Bool} {o2:Store} (g:tG o p o2):cj A w (lX o p σ) o2:=by
 refine⟨by rw[Gg,g.len,e.len],λi j b c d a m=>e.dist i j b c d (vf a).1 (vf m).1,λi b c a=>e.bnd i b c (vf a).1,λi y h=>?_,λi b c a=>e.av i b c (vf a).1,e.kn⟩;have a:i<o.length:=by have:=(ι.1 h).1;rw[g.len] at this;exact this
 have l:=μ a;rcases g.get i _ l with⟨k,f⟩|⟨k,z,f,n⟩
 ·rw[h] at f;injection f with f;subst f;simp only[dF];rw[Gh (by rw[e.len];exact a),k];rfl
 grind[dF.bZ]
theorem Ext.bZ {t:World} {k:cn} {h:Store} (a:Ext t k h w σ o) {p:Nat->Bool} {o2:Store} (m:tG o p o2) (B:∀i,i<h.length->p i=false):Ext t k h w (lX o p σ) o2 where
 size:=a.size;blk:=λb u y=>by
  obtain⟨g,j⟩:=a.blk b u y;exact⟨g,λ⟨i,c,z⟩=>j ⟨i,c,(vf z).1⟩⟩
 len:=by rw[m.len];exact a.len
 cur:=λd q l=>by
  obtain⟨g,j⟩:=a.cur d q l;have r:d<h.length:=by obtain⟨D,e,s,A,x,_⟩:=l;grind
  have n:jG o p d=false:=by grind[jG]
  have f:=m.tr (σ:=σ) n;refine⟨f.w9 g,λs v=>?_⟩;rw[f.2.2];exact j s (f.cur g v)
 isMap:=λd l=>by
  obtain⟨g,j⟩:=a.isMap d l;have r:d<h.length:=by obtain⟨C,E,A,x⟩:=l;grind
  have n:jG o p d=false:=by grind[jG]
  have f:=m.tr (σ:=σ) n;exact⟨f.2.1 g,by rw[f.2.2];exact j⟩
 os:=a.os;tape:=a.tape;output:=a.output
end
def qx (o:Store) (d:Nat) (id:Nat) (acc:List Nat):List Nat:=
 if acc.contains id then acc else
 match o[id]? with
 |some (.cells b _ _ a)=>if a then acc++[id] else dc o d b (acc++[id])
 |some (.map c _ a)=>if a then acc++[id] else dc o d (c.map (·.2)) (acc++[id])
 |_=>acc++[id]
def vh (o:Store) (d:Nat) (v:AV) (acc:List Nat):List Nat:=
 match v with
 | .agg e| .bN e=>dc o d e acc
 | .ptr c _ _| .os c _ _ _| .mp c=>qx o d c acc
 | .fn _ a b=>dc o d b (dc o d a acc)
 |_=>acc
theorem zi (o:Store) (d:Nat) (v:AV) (vs:List AV) (acc:List Nat):dc o (d+1) (v::vs) acc=dc o d vs (vh o d v acc):=by
 cases v<;>rfl
theorem zj:∀(a:List Nat) (o X:Store),(lS o a X).length=o.length
 |[],o,X=>by cases X<;>rfl;|i::r,o,[]=>rfl
 |i::r,o,x::l=>by simp only[lS];rw[zj r];simp
theorem B6:∀(a:List Nat) (o X:Store) (j:Nat),j∉a->(lS o a X)[j]?=o[j]?
 |[],o,X,j,_=>by cases X<;>rfl;|i::r,o,[],j,_=>rfl
 |i::r,o,x::l,j,h=>by
  simp only[γD,not_or] at h;simp only[lS];rw[B6 r _ l j h.2,List.getElem?_set_ne (Ne.symm h.1)]
theorem Gk {m:Nat->Option Nat}:∀{o o':Store},su m o=some o'->o'.length=o.length
 |[],o',h=>by grind[su];|x::r,o',h=>by
  simp only[su] at h;split at h;·rename_i y l b a;injection h with h;subst h;simp[Gk a]
  ·cases h
theorem tH (o:Store):∀(d:Nat) (vs:List AV) (acc:List Nat),∃t,dc o d vs acc=acc++t
 |0,vs,acc=>⟨[],by grind[dc]⟩
 |d+1,[],acc=>⟨[],by simp[dc]⟩
 |d+1,v::vs,acc=>by
  rw[zi];have e:∀c,∃t,qx o d c acc=acc++t:=by
   intro c;unfold qx;split;·simp_all
   ·split
    ·split;·simp_all
     ·obtain⟨t,h⟩:=tH o d ‹_› (acc++[c]);simp_all
    ·split;·simp_all
     ·rename_i m _ _ _ _;obtain⟨t,h⟩:=tH o d (m.map (·.2)) (acc++[c]);simp_all
    simp_all
  have j:∃t,vh o d v acc=acc++t:=by
   cases v with
   |agg g=>exact tH o d g acc;|bN g=>exact tH o d g acc;|ptr c _ _=>exact e c;|os c _ _ _=>exact e c;|mp c=>exact e c;|fn f a b=>
    obtain⟨i,n⟩:=tH o d a acc;obtain⟨l,p⟩:=tH o d b (acc++i);grind[vh];|_=>exact⟨[],by simp[vh]⟩
  obtain⟨t,h⟩:=j;obtain⟨l,k⟩:=tH o d vs (acc++t);simp_all
theorem xe:∀{b:List Nat} {i k j:Nat},idxOf b i k=some j->k<=j/\b[j - k]?=some i
 |[],i,k,j,h=>by grind[idxOf];|a::r,i,k,j,h=>by
  simp only[idxOf] at h;split at h;·simp_all
  ·obtain⟨d,c⟩:=xe h;grind
theorem B7:∀{l:List Nat},iO.pE l=true->l.Nodup
 |[],_=>List.nodup_nil
 |a::r,h=>by
  simp only[iO.pE,θ,γX,List.contains_eq_mem,decide_eq_false_iff_not] at h;exact γ1.2 ⟨h.1,B7 h.2⟩
theorem xf {o:Store} {b:List Nat}:∀{r:List Nat} {s:Store},lh o b r=some s->s.length=r.length/\∀(j i:Nat),r[j]?=some i->∃x y,o[i]?=some x/\x.ren (λj=>idxOf b j)=some y/\s[j]?=some y
 |[],s,h=>by grind[lh];|a::r,s,h=>by
  simp only[lh] at h;split at h
  ·rename_i x l f c;obtain⟨y,d,rfl⟩:=ε.1 h;obtain⟨g,e⟩:=xf c;grind
  ·cases h
theorem B8 {m:Nat->Option Nat}:∀{o o':Store},su m o=some o'->∀(i:Nat) (x:bW),o[i]?=some x->∃y,x.ren m=some y/\o'[i]?=some y
 |[],o',h,i,x,b=>by simp at b;|a::r,o',h,i,x,b=>by
  simp only[su] at h;split at h
  ·rename_i y l f c;injection h with h;subst h;cases i with
   |zero=>simp_all;|succ i=>obtain⟨z,e,d⟩:=B8 c i x (by simp_all);simp_all
  ·cases h
theorem N5 {m:Nat->Option Nat} {cs:List AV} {e:TypeId} {sz:Nat} {pu:Bool} {y:bW} (h:(bW.cells cs e sz pu).ren m=some y):∃a,y= .cells a e sz pu/\a.length=cs.length:=by
 simp only[bW.ren] at h;split at h;·grind
 ·obtain⟨a,b,rfl⟩:=ε.1 h;grind[F9]
theorem N6 {m:Nat->Option Nat} {es:List (Value×AV)} {b:List Nat×Bool} {pu:Bool} {y:bW} (h:(bW.map es b pu).ren m=some y):∃a,y= .map a b pu:=by
 simp only[bW.ren] at h;split at h;·grind
 ·obtain⟨a,c,rfl⟩:=ε.1 h;simp_all
def lY (σ:cn) (a:List Nat):cn:=a.map λi=>(σ[i]?).getD none
section
variable {A A':dT} {w:World} {σ:cn} {o s:Store} {ids:List Nat}
theorem rj {j:Nat} {t:Nat×Nat} (h:(lY σ ids)[j]?=some (some t)):∃i,ids[j]?=some i/\σ[i]?=some (some t):=by
 grind[lY]
theorem Gl (a:σ.length=o.length) (b:lh o ids ids=some s) {j i:Nat} (c:ids[j]?=some i):(lY σ ids)[j]?=σ[i]?:=by
 obtain⟨_,d⟩:=xf b;grind[lY]
theorem vi (c:σ.length=o.length) (i:lh o ids ids=some s) {id a:Nat} (h:idxOf ids id=some a):Tr o σ s (lY σ ids) id a:=by
 obtain⟨_,f⟩:=xe h;simp only[εK] at f;obtain⟨_,n⟩:=xf i;obtain⟨x,y,m,l,d⟩:=n a id f;refine⟨λr e q j b=>?_,λ⟨p,k,j,b⟩=>?_,Gl c i f⟩;·grind[N5]
 ·rw[m] at b;injection b with b;subst b;obtain⟨g,rfl⟩:=N6 l;exact⟨g,k,j,d⟩
theorem cj.sub [nS A A'] (f:cj A w σ o) (u:ids.Nodup) (n:lh o ids ids=some s) (E:∀b,b<w.heap.size->Fr A σ b->Fr A' (lY σ ids) b)
  (D:∀i∈ids,∀b c,σ[i]?=some (some (b,c))->¬A' b) (g:∀b,A' b->b<w.heap.size):cj A' w (lY σ ids) s:=by
 obtain⟨F,B⟩:=xf n;refine⟨by grind[lY],λi j b c d m l=>?_,λi b c m=>?_,λj y C=>?_,λi b c m=>?_,g⟩
 ·obtain⟨x,k,e⟩:=rj m;obtain⟨z,t,p⟩:=rj l;have:=f.dist x z b c d e p;subst this;exact(ζb (ι.1 k).1 u).1 (k.trans t.symm)
 ·obtain⟨x,k,e⟩:=rj m;exact f.bnd x b c e
 ·have q:j<ids.length:=by grind
  have l:=μ q;obtain⟨x,H,k,r,a⟩:=B j _ l;rw[C] at a;injection a with a;subst a;exact dF.ren E (λG v h=>vi f.len n h) r (Gl f.len n l) (f.obj _ x k)
 grind[rj]
theorem XA {o':Store} {U:World} {H:cn} {p:Store} (Z:cj A w σ o) (hE:Ext U H p w σ o) {V r:AV} {u:Value} (hr:bC A w σ o V u) (g:lT p.length V o=some (r,o')):
  ∃F,cj A w F o'/\bC A w F o' r u/\Ext U H p w F o':=by
 unfold lT at g;split at g
 ·rename_i Y o1 S O;have N:=N4 O;have f:=Z.bZ N;have d:=hE.bZ N (λi z=>by simp_all);have C:=bC.bZ Z N _ _ _ S hr;simp only at g;generalize fS (λi=>decide (p.length<=i)) 0 o1=M at g N f d C;generalize lX o (λi=>decide (p.length<=i)) σ=D at f d C;obtain⟨t,ht⟩:=tH M fR (Y::(M.take p.length).flatMap lT.bW.zb) (Θ p.length);generalize dc M fR (Y::(M.take p.length).flatMap lT.bW.zb) (Θ p.length)=n at g ht;split at g
  ·rename_i L;split at g
   ·rename_i r2 s2 Q s;simp only[γ,κ] at g;obtain⟨rfl,rfl⟩:=g;have J:∀b,b<w.heap.size->Fr A D b->Fr A (lY D n) b:=λb _ g=>⟨λ⟨i,c,z⟩=>by
     obtain⟨x,hx,B⟩:=rj z;exact g.1 ⟨x,c,B⟩,g.2⟩;have K:∀i,i<p.length->n[i]?=some i:=by
     grind
    have y:∀i,i<p.length->idxOf n i=some i:=by
     intro i z;have T:i∈n:=γr (K i z);have:∃j,idxOf n i=some j:=by
      have a0:∀(l:List Nat) (k:Nat),i∈l->∃j,idxOf l i k=some j:=by
       intro l;induction l with
       |nil=>simp_all;|cons a l ih=>
        intro k h;simp only[idxOf];split;·simp_all
        ·rename_i P;refine ih (k+1) ((γD.1 h).resolve_left λq=>P (by simp[q]))
      simp_all
     obtain⟨j,W⟩:=this;obtain⟨_,q⟩:=xe W;simp only[εK] at q;have:=(ζb (ι.1 q).1 (B7 L)).1 (q.trans (K i z).symm);rw[W,this]
    refine⟨lY D n,f.sub (B7 L) s J (λi _ b c h=>f.av i b c h) f.kn,bC.ren J (λv a1 h=>vi f.len s h) _ _ _ Q C,d.size,λb hb hn=>?_,?_,λv R I=>?_,λv I=>?_,d.os,d.tape,d.output⟩
    ·obtain⟨G,q⟩:=d.blk b hb hn;refine⟨G,λ⟨i,c,z⟩=>?_⟩;obtain⟨x,hx,B⟩:=rj z;exact q ⟨x,c,B⟩
    ·grind[xf]
    ·obtain⟨G,q⟩:=d.cur v R I;have E:v<p.length:=by obtain⟨cs,e,X,pu,ho,_⟩:=I;grind
     have m:=vi f.len s (y v E);refine⟨m.w9 G,λX hc=>?_⟩;rw[m.2.2];exact q X (m.cur G hc)
    ·obtain⟨G,q⟩:=d.isMap v I;have E:v<p.length:=by obtain⟨es,kt,pu,ho⟩:=I;grind
     have m:=vi f.len s (y v E);exact⟨m.2.1 G,by rw[m.2.2];exact q⟩
   ·cases g
  ·cases g
 ·cases g
end
theorem N7:∀(b:List Nat) (o X:Store) (j i:Nat) (x:bW),b.Nodup->b[j]?=some i->i<o.length->X[j]?=some x->(lS o b X)[i]?=some x
 |[],o,X,j,i,x,_,c,_,_=>by simp at c;|a::r,o,[],j,i,x,_,_,_,d=>by simp at d;|a::r,o,y::l,j,i,x,e,c,f,d=>by
  rw[γ1] at e;simp only[lS];cases j with
  |zero=>
   grind[B6];|succ j=>
   simp only[γw] at c d;exact N7 r _ l j i x e.2 c (by simp_all) d
theorem Gm {i:Nat}:∀{l:List Nat} {k:Nat},i∈l->∃j,idxOf l i k=some j
 |[],k,h=>by simp at h;|a::l,k,h=>by
  simp only[idxOf];split;·simp_all
  ·rename_i b;exact Gm ((γD.1 h).resolve_left λc=>b (by simp[c]))
def pL (σ b:cn) (a:List Nat):cn:=
 ((Θ σ.length).map λi=>match idxOf a i with|some j=>(b[j]?).getD none|none=>(σ[i]?).getD none)++b.drop a.length
section
variable {A:dT} {w:World} {σ:cn} {o:Store}
theorem XB {P:Program} {call:dm} (a9:pK P call) (v:cj A w σ o) {f:FuncId} {args:List AV} {vs:List Value} (hr:bI A w σ o args vs)
  {r:AV} {o':Store} (J:iO call f args o=some (r,o')):
  hZ P f=true/\Calls P f vs.toArray w λe w'=>∃u g,e= .returned u/\cj A w' g o'/\bC A w' g o' r u/\Ext w σ o w' g o':=by
 unfold iO at J;simp only at J;generalize dc o fR args []=a at J;split at J
 ·rename_i U T ha I;split at J
  ·rename_i r1 n c1;split at J;·cases J
   ·rename_i Q;simp only[not_or,Bool.not_eq_false,Nat.not_lt] at Q;obtain⟨d2,a1⟩:=Q;have a1:=B7 a1;split at J
    ·rename_i r2 b9 c0 S;simp only[γ,κ] at J;obtain⟨rfl,d3⟩:=J;obtain⟨hg,c2,_⟩:=a9 _ _ _ _ _ _ c1;refine⟨hg,?_⟩;have d0:=xf I;have b2:∀(j i:Nat),a[j]?=some i->i<o.length:=λj i m=>by
      grind
     have d4:=λ{j i:Nat} (m:a[j]?=some i)=>Gl v.len I m;obtain⟨N,s,a5⟩:∃N:dT,(∀b,N b↔(A b\/(Own σ b/\¬Own (lY σ a) b)))/\N.l=A.l:=⟨⟨λb=>A b\/(Own σ b/\¬Own (lY σ a) b),A.l⟩,λb=>Iff.rfl,rfl⟩;haveI:nS A N:=⟨a5⟩;haveI:nS N A:=⟨a5.symm⟩;have b4:∀b,b<w.heap.size->Fr A σ b->Fr N (lY σ a) b:=λb _ hf=>⟨λ⟨i,c,p⟩=>by
      obtain⟨x,hx,G⟩:=rj p;exact hf.1 ⟨x,c,G⟩,λh=>((s b).1 h).elim hf.2 λh=>hf.1 h.1⟩;have c6:cj N w (lY σ a) T:=v.sub a1 I b4 (λi p b c h hA=>by
      rcases(s b).1 hA with q|⟨_,q⟩;·exact v.av i b c h q
      ·obtain⟨j,m⟩:=γH p;exact q ⟨j,c,by simp_all⟩) (λb h=>((s b).1 h).elim (v.kn b) λ⟨⟨i,c,p⟩,_⟩=>v.bnd i b c p);have b1:bI N w (lY σ a) T U vs:=bI.ren b4 (λD d6 h=>vi v.len I h) args vs U ha hr;refine(c2 N w _ vs c6 b1).mono ?_;rintro e w' ⟨u,g,rfl,C,c7,X⟩;have d5:=Gk S;have hN:=v.len;have b7:(pL σ g a).length=o.length+(n.length - a.length):=by simp[pL,hN,C.len]
     have a7:o'.length=o.length+(n.length - a.length):=by grind[zj]
     have a8:∀i,i<o.length->idxOf a i=none->(pL σ g a)[i]?=σ[i]?/\o'[i]?=o[i]?/\i∉a:=by
      intro i p hn;have d1:i∉a:=λh=>by obtain⟨j,m⟩:=Gm (k:=0) h;simp_all
      grind[pL,B6]
     have b6:∀j t,oP a o.length j=some t->(pL σ g a)[t]?=g[j]?/\o'[t]?=b9[j]?:=by
      intro j t m;unfold oP at m;split at m
      ·rename_i i K;injection m with m;subst m;have p:=b2 j i K;have c3:j<a.length:=(ι.1 K).1;obtain⟨j2,E⟩:=Gm (k:=0) (γr K);have B:=(xe E).2;simp only[εK] at B;have:=(ζb (ι.1 B).1 a1).1 (B.trans K.symm);subst this;constructor
       ·unfold pL;rw[γ5 (by simp;omega)];have:j2<g.length:=by rw[C.len];omega
        simp_all
       grind[N7]
      ·rename_i K;injection m with m;subst m;have c3:=List.getElem?_eq_none_iff.1 K;constructor
       ·unfold pL;rw[εY (by simp;omega)];simp_all
       grind
     have b8:∀i,i<o'.length->(∃j,j<n.length/\oP a o.length j=some i)\/(i<o.length/\idxOf a i=none):=by
      intro i p;rw[a7] at p;rcases ε1 i o.length with q|q;·cases hq:idxOf a i with
       |none=>exact .inr ⟨q,rfl⟩;|some j=>
        left;have B:=(xe hq).2;simp only[εK] at B;have:=(ι.1 B).1;exact⟨j,by omega,by simp[oP,B]⟩
      grind[oP]
     have F:∀i b c,i<o.length->idxOf a i=none->σ[i]?=some (some (b,c))->N b:=by
      intro i b c p hn hs;refine(s b).2 (.inr ⟨⟨i,c,hs⟩,?_⟩);rintro⟨j,d,m⟩;obtain⟨x,hx,G⟩:=rj m;have:=v.dist i x b c d hs G;grind
     have L:∀i b c,(pL σ g a)[i]?=some (some (b,c))->(∃j,oP a o.length j=some i/\g[j]?=some (some (b,c)))\/(i<o.length/\idxOf a i=none/\σ[i]?=some (some (b,c))):=by
      grind
     have a3:∀j t,oP a o.length j=some t->Tr n g o' (pL σ g a) j t:=by
      intro j t m;obtain⟨Y,W⟩:=b6 j t m;refine⟨λcs e sz Z ho=>?_,λ⟨es,kt,Z,ho⟩=>?_,Y⟩;·grind[B8,N5]
      ·obtain⟨y,hy,c5⟩:=B8 S j _ ho;obtain⟨c8,rfl⟩:=N6 hy;exact⟨c8,kt,Z,by rw[W];exact c5⟩
     have a6:∀b,b<w'.heap.size->Fr N g b->Fr A (pL σ g a) b:=by
      intro b _ hf;refine⟨?_,λh=>hf.2 ((s b).2 (.inl h))⟩;rintro⟨i,c,p⟩;rcases L i b c p with⟨j,_,m⟩|⟨q,H,M⟩;·exact hf.1 ⟨j,c,m⟩
      ·exact hf.2 (F i b c q H M)
     have a0:∀i b c,i<o.length->idxOf a i=none->σ[i]?=some (some (b,c))->¬Own (lY σ a) b:=by
      rintro i b c p hn hs ⟨j,d,m⟩;obtain⟨x,hx,G⟩:=rj m;have:=v.dist i x b c d hs G;grind
     have R:∀b,Own (lY σ a) b->Own σ b:=λb ⟨i,c,p⟩=>by
      obtain⟨x,hx,G⟩:=rj p;exact⟨x,c,G⟩
     have O:∀D,D<o.length->∀j,idxOf a D=some j->oP a o.length j=some D:=by
      intro D _ j m;have B:=(xe m).2;grind[oP]
     have b5:Ext w σ o w' (pL σ g a) o':=by
      refine⟨X.size,λb hb hn=>?_,by omega,λD c4 a2=>?_,λD hm=>?_,X.os,X.tape,X.output⟩
      ·obtain⟨q,H⟩:=X.blk b hb λh=>hn (R b h);refine⟨q,?_⟩;rintro⟨i,c,p⟩;rcases L i b c p with⟨j,_,m⟩|⟨_,_,M⟩;·exact H ⟨j,c,m⟩
       ·exact hn ⟨i,c,M⟩
      ·have V:D<o.length:=by obtain⟨cs,e,sz,Z,ho,_⟩:=a2;grind
       cases hq:idxOf a D with
       |none=>
        obtain⟨l1,l2,_⟩:=a8 D V hq;refine⟨?_,λsz b0=>⟨?_,l1⟩⟩
        ·obtain⟨cs,e,sz,Z,ho,hl⟩:=a2;exact⟨cs,e,sz,Z,by grind,hl⟩
        ·obtain⟨cs,e,Z,ho,hl⟩:=b0;exact⟨cs,e,Z,by grind,hl⟩;|some j=>
        have Y:=vi v.len I hq;have W:=a3 j D (O D V j hq);obtain⟨q,H⟩:=X.cur j c4 (Y.w9 a2);refine⟨W.w9 q,λsz b0=>?_⟩;obtain⟨M,h4⟩:=H sz (W.cur q b0);exact⟨Y.cur a2 M,by rw[W.2.2,h4,Y.2.2]⟩
      ·have V:D<o.length:=by obtain⟨es,kt,Z,ho⟩:=hm;grind
       cases hq:idxOf a D with
       |none=>
        obtain⟨l1,l2,_⟩:=a8 D V hq;obtain⟨es,kt,Z,ho⟩:=hm;exact⟨⟨es,kt,Z,by grind⟩,l1⟩;|some j=>
        have Y:=vi v.len I hq;have W:=a3 j D (O D V j hq);obtain⟨q,H⟩:=X.isMap j (Y.2.1 hm);exact⟨W.2.1 q,by rw[W.2.2,H,Y.2.2]⟩
     refine⟨u,pL σ g a,rfl,⟨by omega,λi k b c d p hk=>?_,λi b c p=>?_,λi y hy=>?_,λi b c p=>?_,λb hb=>γj (v.kn b hb) X.size⟩,bC.ren a6 a3 _ _ _ c0 c7,b5⟩
     ·rcases L i b c p with⟨j,m,E⟩|⟨q,H,M⟩<;>rcases L k b d hk with⟨l,hl,b3⟩|⟨g1,g2,g3⟩
      ·have:=C.dist j l b c d E b3;grind
      ·exact absurd (F k b d g1 g2 g3) (C.av j b c E)
      ·exact absurd (F i b c q H M) (C.av l b d b3)
      ·exact v.dist i k b c d M g3
     ·rcases L i b c p with⟨j,m,E⟩|⟨q,H,M⟩;·exact C.bnd j b c E
      ·exact γj (v.bnd i b c M) X.size
     ·rcases b8 i (ι.1 hy).1 with⟨j,c9,m⟩|⟨q,H⟩
      ·have hx:=μ c9;obtain⟨z,hz,a4⟩:=B8 S j _ hx;obtain⟨Y,W⟩:=b6 j i m;rw[<-W,hy] at a4;injection a4 with a4;subst a4;exact dF.ren a6 a3 hz Y (C.obj j _ hx)
      ·obtain⟨l1,l2,_⟩:=a8 i q H;rw[l2] at hy;exact(v.obj i y hy).ext b5 l1 λb c hb=>(X.blk b (v.bnd i b c hb) (a0 i b c q H hb)).1
     ·rcases L i b c p with⟨j,m,E⟩|⟨q,H,M⟩;·exact λh=>C.av j b c E ((s b).2 (.inl h))
      ·exact v.av i b c M
    ·cases J
  ·cases J
 ·cases J
end
section
variable {P:Program} {A:dT} {D:List Deferred} {w w':World} {σ σ':cn} {o o':Store}
theorem XC {call:dm} (b:pK P call) (d:cj A w σ o) {f:FuncId} {args:List AV} {vs:List Value} (g:bI A w σ o args vs) {own:Bool} {r:AV} (c:gU call f args o own=some (r,o')):
  hZ P f=true/\Calls P f vs.toArray w λe w'=>∃u a,e= .returned u/\cj A w' a o'/\bC A w' a o' r u/\Ext w σ o w' a o':=by
 grind[gU,XB,Xy]
theorem B9 {f:FuncId} (b:hZ P f=true) (args:Array Value) (w:World):(callFunc f args).run P w= .ok (.enter f args) w:=by
 unfold hZ at b;cases c:P.funcs[f]? with
 |none=>simp_all;|some a=>
  simp only[c,Option.any_some,θ,γX] at b;have d:a.body.isNone=false:=by simp_all
  have e:¬a.name= "runtime.NumGoroutine" :=by
   simp_all
  have g:¬a.body=none:=by grind
  simp_all[callFunc]
theorem XD {name:String} {t:TypeId} {f:FuncId} (h:BG P name t=some f) (v:Value) (w:World) (n:Nat):(method (n+1) t v name).run P w= .ok (f,v) w:=by
 unfold BG at h;split at h
 ·rename_i fs i hu hi;split at h
  ·rename_i m hm;split at h
   ·rename_i g hp hf;injection h with h;subst h;simp[method,typeInfo,hi,hm,hp,hf,follow,receiverAt,run_underlying hu,Place.get]
   ·cases h
  ·cases h
 ·cases h
theorem Gn {name:String} {t:TypeId} {f:FuncId}:∀{n:Nat},uV (wP P name n) t=some f->BG P name t=some f
 |0,h=>by simp[wP,uV] at h;|n+1,h=>by
  simp only[wP] at h;split at h
  ·rename_i g hg;simp only[uV] at h;cases hb:Nat.beq n t with
   |true=>
    rw[hb] at h;simp only[cond_true,γ] at h;subst h;rw[<-Nat.eq_of_beq_eq_true hb];exact hg;|false=>
    rw[hb] at h;exact Gn h
  ·exact Gn h
theorem XE {fl:Bool} {a:Oper} {b:cO} (e:pH P fl a=some b) (h:b.pJ=true):
  ∃c:Call,a.op= .call c/\((∃f,c.callee= .value (.func f)/\b= .call f c.args.toList fl)\/(∃x,c.callee= .value x/\b= .jT x c.args.toList fl)\/∃x d,c.callee= .invoke x d/\b= .oL (M9 P d) x c.args.toList):=by
 cases g:a.op;case call c=>
  refine⟨c,rfl,?_⟩;simp only[pH,g] at e;grind[cO.pJ]
 case buildSlice=>
  grind[pH,cO.pJ]
 case slice t x k i j=>
  grind[pH,cO.pJ]
 case makeMap t r=>
  grind[pH,cO.pJ]
 all_goals
  exfalso;simp only[pH,g,reduceCtorEq] at e;try (repeat' (split at e))<;>first
   |(cases e;done);|(injection e with e;subst e;simp[cO.pJ] at h;done);|(obtain⟨_,_,rfl⟩:=ε.1 e;simp[cO.pJ] at h;done)
def FR (dp:Option Nat):Fence:={Fence.wide with round:=dp}
theorem XF {dp:Option Nat} {n:Nat} {f:FuncId} {args:Array Value} {R:Ending->World->Prop} (h:Calls P f args w R):CallsIn (FR dp) n P f args w R:=
 (callsIn_wide (n:=n)).2 h
theorem XG {fl:Bool} {a:Oper} {b:cO} (d:pH P fl a=some b) (c:Call):a.op≠ .defer c:=by
 grind[pH]
theorem XH {call:dm} (D:pK P call) {fl:Bool} {b:Oper} {C:cO} (O:pH P fl b=some C) (W:cj A w σ o) {p:Operand->AV} {a:Act} (n:∀x,bC A w σ o (p x) (a.eval x)) {bF:Nat} {v:AV}
  (i:qm call C p o bF=some (v,o')) {m:Act->World->Prop} {Q:Exit->Act->World->Prop}
  (V:∀u w' z,cj A w' z o'->bC A w' z o' v u->Ext w σ o w' z o'->m (a.put b.dst u) w') {dp:Option Nat}:b.wpIn (FR dp) 0 P a w m Q:=by
 have r:b.semAt (FR dp).round a.eval=execOp a.eval b:=Oper.semAt_eq _ _ _ (XG O);by_cases R:C.pJ=false
 ·obtain⟨u,Z,G,e,q,X,Y⟩:=Xt O R W n i;unfold Oper.wpIn;rw[r];refine⟨λ_ _=>trivial,?_⟩;rcases e with e|⟨e,rfl⟩
  ·rw[e];exact V u Z G q X Y
  ·rw[e];exact V undef Z G q X Y
 ·
  have E:∀(f:FuncId) (l:List AV) (k:List Value) (F:Bool),bI A w σ o l k->gU call f l o F=some (v,o')->
    (hZ P f=true->(execOp a.eval b).run P w= .ok (.enter f k.toArray) w)->b.wpIn (FR dp) 0 P a w m Q:=by
   intro f l k F L M J;obtain⟨s,I⟩:=XC D W L M;unfold Oper.wpIn;rw[r,J s];refine⟨λ_ _=>trivial,λh=>by grind[FR,Fence.wide],(XF I).mono ?_⟩;grind
  obtain⟨c,y,hh⟩:=XE O (by simp_all);rw[y9] at i;rcases hh with⟨f,d,rfl⟩|⟨x,d,rfl⟩|⟨x,H,d,rfl⟩
  ·simp only[bT] at i;refine E f (c.args.toList.map p) (c.args.toList.map a.eval) fl (u9 n _) i λs=>?_;simp only[execOp,y,resolve,d];simp[Act.eval,Deferred.ofValue,invoke,B9 s];grind
  ·simp only[bT] at i;split at i
   ·rename_i g B j K;have q:=n x;rw[K] at q;simp only[bC] at q;obtain⟨f',c',S,N,T⟩:=q;refine E g (B++c.args.toList.map p++j) (f'.toList++c.args.toList.map a.eval++c'.toList) fl (bI.append (bI.append N (u9 n _)) T) i λs=>?_;simp only[execOp,y,resolve,d];simp[S,FW,Deferred.ofValue,invoke,B9 s]
   ·cases i
  ·simp only[bT] at i;split at i
   ·rename_i t cs K;split at i
    ·rename_i f N;have q:=n x;rw[K] at q;simp only[bC] at q;obtain⟨k,S,_,hl⟩:=q;have L:bI A w σ o (.agg cs::c.args.toList.map p) (.agg k::c.args.toList.map a.eval):=by
      grind[bI,bC,u9]
     refine E f _ _ false L i λs=>?_;have hm:(method (P.types.size+Made.depth) t (.agg k) H).run P w= .ok (f,.agg k) w:=XD (Gn N) (.agg k) w (P.types.size+99);have hz:(#[Value.iface t (.agg k)]++Array.map a.eval c.args)[0]?=some (Value.iface t (.agg k)):=by grind
     have U:#[Value.agg k]++(Array.map a.eval c.args).extract 0 c.args.size=(Value.agg k::List.map a.eval c.args.toList).toArray:=εj (by simp;exact List.take_of_length_le (by simp));simp only[execOp,y,resolve,d,S];simp[invoke,hz,callMethod,hm,B9 s,U]
    ·cases i
   ·cases i
def tJ (b w:World) (a:List Deferred):Prop:=
 a.Pairwise (λd e=>d.target≠e.target)/\∀d∈a,∃r,d={target:=.collected r,args:=#[]}/\b.heap.size<=r/\w.heap[r]?=some (.deferred (some []))
theorem cj.Gp (d:cj A w σ o) {r:Nat} {x:Obj} (h:w.heap[r]?=some x) (g:∀a b c,x≠ .cells a b c) (l:∀a b,x≠ .map a b):¬Own σ r:=by
 rintro⟨i,c,k⟩;have f:i<o.length:=by rw[<-d.len];grind
 have e:=d.obj i _ (μ f);cases j:o[i]<;>grind[dF,κ]
theorem tJ.ext {c:World} {b:List Deferred} (h:tJ c w b) (e:cj A w σ o) (i:Ext w σ o w' σ' o'):tJ c w' b:=
 ⟨h.1,λd g=>by
  obtain⟨r,j,f,a⟩:=h.2 d g;exact⟨r,j,f,by rw[(i.blk r (Array.getElem?_eq_some_iff.1 a).1 (e.Gp a (by simp) (by simp))).1];exact a⟩⟩
def Cb (D:List Deferred) (b w:World) (c:List Deferred):Prop:=∃a,c=a++D/\tJ b w a
theorem Cb.ext {b:World} {D a:List Deferred} (h:Cb D b w a) (c:cj A w σ o) (f:Ext w σ o w' σ' o'):Cb D b w' a:=by
 obtain⟨d,g,e⟩:=h;exact⟨d,g,e.ext c f⟩
structure df (A:dT) (nt:Nat) (D:List Deferred) (w0:World) (lZ:cn) (o0:Store) (st:St) (a:Act) (w:World) (σ:cn):Prop where
 fF:cj A w σ st.o
 env:∀s,bC A w σ st.o (dN st.env s) (a.tmps.getD s undef)
 size:a.tmps.size=nt
 defers:Cb D w0 w a.defers
 ext:Ext w0 lZ o0 w σ st.o
theorem XI (v:Value):bC A w σ o (.uM v) v:=by
 cases v<;>simp only[AV.uM]<;>try (simp[bC,Value.oneCell'];done)
 grind[bC,wV]
theorem df.ev {d:Nat} {e:World} {b:cn} {c:Store} {st:St} {a:Act} (h:df A d D e b c st a w σ) (x:Operand):bC A w σ st.o (eT st.env x) (a.eval x):=by
 cases x with
 |tmp t=>exact h.env t;|const v=>exact XI v;|global g=>simp[eT,bC];|func f=>simp only[eT,Act.eval,bC];exact⟨#[],#[],rfl,by simp[bI],by simp[bI]⟩
theorem XJ {a:Act} {b:Option Tmp} {u:Value} {c:Nat} (f:a.tmps.size=c) (e:BH c b=true) (s:Nat):
  (a.put b u).tmps.getD s undef=if b=some s then u else a.tmps.getD s undef:=by
 cases b with
 |none=>simp[Act.put];|some d=>
  simp only[BH,decide_eq_true_eq] at e;simp only[Act.put,γ];by_cases h:d=s<;>simp_all
theorem N8 (a:Act) (b:Option Tmp) (u:Value):(a.put b u).tmps.size=a.tmps.size/\(a.put b u).defers=a.defers:=by
 cases b<;>simp[Act.put]
theorem vj (env:jE) (a:Option Nat) (v:AV) (s:Nat):dN (oK env a v) s=if a=some s then v else dN env s:=by
 cases a with
 |none=>simp[oK];|some d=>
  simp_all[oK,dN]
theorem df.put {e:Nat} {g:World} {c:cn} {f:Store} {st:St} {a:Act} (h:df A e D g c f st a w σ) (k:cj A w' σ' o') (d:Ext w σ st.o w' σ' o') {b:Option Tmp} (i:BH e b=true) {v:AV} {u:Value} (j:bC A w' σ' o' v u):
  df A e D g c f ⟨oK st.env b v,o'⟩ (a.put b u) w' σ' where
 fF:=k;env:=λs=>by
  simp only[vj,XJ h.size i];split;·exact j
  ·exact(h.env s).ext d
 size:=by rw[(N8 _ _ _).1];exact h.size
 defers:=by rw[(N8 _ _ _).2];exact h.defers.ext h.fF d
 ext:=h.ext.trans d
theorem N9 {x:Nat} {v:World} {l:cn} {p:Store} {st:St} {a:Act} (h:df A x D v l p st a w σ) {f:Array Oper} {d:Oper} {b:Bool}
  (e:mI st.env (d.guard.map λg=>(((f[g.1]?).bind (·.dst)),g.2))=some b):Region.wanted d (yielded f a.tmps)=b:=by
 unfold Region.wanted;cases u:d.guard with
 |none=>grind[mI];|some g=>
  obtain⟨j,q⟩:=g;simp only[u,γm,mI] at e;cases n:(f[j]?).bind (·.dst) with
  |none=>simp_all;|some s=>
   simp only[n] at e;have i:=h.env s;simp only[yielded,n,Option.bind_some];split at e
   ·rename_i c m;injection e with e;rw[m] at i;have k:=ic i;have o:a.tmps[s]?=some (.bool c):=by
     rw[εb] at k;grind[undef]
    simp_all
   ·rename_i m;injection e with e;rw[m] at i;simp only[bC,bI] at i;obtain⟨r,k,o⟩:=i;have t:r=#[]:=εj (by omega);subst t;have o:a.tmps[s]?=some (.tuple #[])\/a.tmps[s]?=none:=by
     rw[εb] at k;grind
    grind
   ·cases e
theorem Oa {call:dm} (e:pK P call) {j:Nat} {fl:List Nat} {c:Array Oper} {bF k:Nat} {i:dA} (f:rf P j fl c bF k=some i) {base:Nat} {st st':St} (b:iy call base i st=some st')
  {t:World} {g:cn} {p:Store} {a:Act} (h:df A j D t g p st a w σ) {K:Act->World->Prop} {Q:Exit->Act->World->Prop} (o:∀s w' d,df A j D t g p st' s w' d->K s w') {dp:Option Nat}:wpOpIn (FR dp) 0 P c Q k K a w:=by
 unfold rf at f;cases q:c[k]? with
 |none=>simp_all;|some n=>
  simp only[q] at f;split at f
  ·rename_i r;obtain⟨E,l,rfl⟩:=ε.1 f;unfold wpOpIn;simp only[q];simp only[iy] at b;split at b;·cases b
   ·rename_i m;have:=N9 h m;rw[this];injection b with b;subst b;simp only[Γ,if_false];exact⟨λ_ _=>trivial,o _ _ σ (h.put h.fF (Ext.refl _ _ _) r (by simp only[bC];exact⟨#[],rfl,by simp[bI]⟩))⟩
   ·rename_i m;have:=N9 h m;rw[this];simp only[if_true];split at b
    ·rename_i v C z;injection b with b;subst b;exact XH e l h.fF h.ev z λu w' d B x y=>o _ _ d (h.put B y r x)
    ·cases b
  ·cases f
theorem Ob {call:dm} (c:pK P call) {o:Nat} {fl:List Nat} {f:Array Oper} {base:Nat} {u:World} {g:cn} {s:Store} {Q:Exit->Act->World->Prop} {dp:Option Nat}:
  ∀(l:List dA) (b:List Nat),l.length=b.length->(∀(j:Nat) (i:dA) (k:Nat),l[j]?=some i->b[j]?=some k->∃bF,rf P o fl f bF k=some i)->∀(st st':St) (a:Act) (w:World) (σ:cn),
   gk call base l st=some st'->df A o D u g s st a w σ->(∀m w' d,df A o D u g s st' m w' d->Q .normal m w')->wpOpsIn (FR dp) 0 P f Q b a w
 |[],[],_,_,st,st',a,w,σ,e,h,p=>by
  simp only[gk,γ] at e;subst e;exact p a w σ h;|[],_::_,n,_,_,_,_,_,_,_,_,_=>by simp at n;|_::_,[],n,_,_,_,_,_,_,_,_,_=>by simp at n;|i::l,k::b,n,t,st,st',a,w,σ,e,h,p=>by
  simp only[gk] at e;split at e
  ·rename_i q v;obtain⟨bF,r⟩:=t 0 i k (by simp) (by simp);rw[wpOpsIn_cons];exact Oa c r v h λm w' d y=>Ob c l b (by simp_all) (λj z x C B=>t (j+1) z x (by simp_all) (by simp_all)) q st' m w' d e y p
  ·cases e
theorem Gq {d:Nat} {fl:List Nat} {b:Array Oper}:∀{k:Nat} {a:List Nat} {l:List dA} {n:Nat},uX P d fl b k a=some (l,n)->
  l.length=a.length/\(∀(j:Nat) (i:dA) (q:Nat),l[j]?=some i->a[j]?=some q->∃bF,rf P d fl b bF q=some i)
 |k,[],l,n,h=>by grind[uX];|k,i::r,l,n,h=>by
  simp only[uX] at h;split at h;·cases h
  ·rename_i x o;split at h;·cases h
   ·rename_i g m c;simp only[γ,κ] at h;obtain⟨rfl,_⟩:=h;obtain⟨e,f⟩:=Gq c;grind
end
section
variable {call:dm} {ρ mK:Operand->AV} {bF:Nat}
theorem Oc {a:cO} (d:a.cls=0) (o o2:Store):bT call a ρ o2 bF=(bT call a ρ o bF).map λp=>(p.1,o2):=by
 cases a<;>try (simp[cO.cls] at d;done)
 case call f c b=>cases b<;>simp[cO.cls] at d
 case jT f c b=>cases b<;>simp[cO.cls] at d
 all_goals simp only[bT]
 all_goals (repeat' split)<;>simp_all [ε7,δm]
theorem XK {a:cO} (b:a.cls=0) {o o':Store} {v:AV} (h:bT call a ρ o bF=some (v,o')):o'=o:=by
 grind[Oc]
theorem XL {o o2:Store} {a:AV} (h:∀j∈fD a,o2[j]?=o[j]?):behind o2 a=behind o a:=by
 cases a<;>simp only[behind];grind[fD]
theorem XM {o o2:Store} {sz:Nat} {a:AV} (h:∀j∈fD a,o2[j]?=o[j]?):nc o2 sz a=nc o sz a:=by
 cases a with
 |os e d b c=>grind[nc,fD];|sc v=>unfold nc;grind;|_=>rfl
theorem XN {o o2:Store} {sz:Nat} {a:AV} {i:Int} (h:∀j∈fD a,o2[j]?=o[j]?):qh o2 sz a i=qh o sz a i:=by
 cases a<;>simp only[qh];grind[fD]
theorem XO {o o2:Store} {sz:Nat} {a:AV} {lo b:Option AV} (h:∀j∈fD a,o2[j]?=o[j]?):qk o2 sz a lo b=qk o sz a lo b:=by
 cases a with
 |os f e c d=>grind[qk,fD];|sc v=>unfold qk;grind;|_=>rfl
theorem XP {o o2:Store} {sz:Nat} {a:AV} {lo:Option AV} {b mx:AV} (h:∀j∈fD a,o2[j]?=o[j]?):sr o2 sz a lo b mx=sr o sz a lo b mx:=by
 cases a<;>grind[id,sr,fD]
theorem XQ {o o2:Store} {k:Nat} {a:AV} (h:∀j∈fD a,o2[j]?=o[j]?):lB o2 k a=lB o k a:=by
 cases a with
 |mp b=>
  match k with
  |0=>rfl;|1=>rfl;|2=>grind[lB,fD];|_+3=>rfl
 |_=>unfold lB;split<;>first|rfl|(simp_all;done)
theorem xg {c e:Type} {f g:c->List e}:∀{l:List c},(∀a∈l,f a=g a)->l.flatMap f=l.flatMap g
 |[],_=>rfl
 |a::l,h=>by
  simp only[List.flatMap_cons];rw[h a (by simp),xg λb d=>h b (by simp[d])]
theorem xh {c e:Type} {f g:c->Option e}:∀{l:List c},(∀a∈l,f a=g a)->l.mapM f=l.mapM g
 |[],_=>rfl
 |a::l,h=>by
  rw[εJ,εJ,h a (by simp),xh λb d=>h b (by simp[d])]
theorem xi {o o2:Store}:∀(d:Nat) (a:AV),(∀j∈fA o d a,o2[j]?=o[j]?)->freeze o2 d a=freeze o d a/\fA o2 d a=fA o d a
 |0,a,_=>by cases a<;>simp[freeze,fA];|d+1,a,h=>by
  cases a with
  |agg i=>
   simp only[fA,δT,forall_exists_index,and_imp] at h;have l:=λc g=>xi d c (λj b=>h j c g b);grind[freeze,fA,xh,xg];|bN i=>
   simp only[fA,δT,forall_exists_index,and_imp] at h;have l:=λc g=>xi d c (λj b=>h j c g b);grind[freeze,fA,xh,xg];|fn f x y=>
   simp only[fA,List.mem_append,δT] at h;have v:=λc g=>xi d c (λj b=>h j (.inl ⟨c,g,b⟩));have z:=λc g=>xi d c (λj b=>h j (.inr ⟨c,g,b⟩));grind[freeze,fA,xh,xg];|os k q s n=>
   have r:=h k (by simp[fA]);simp only[freeze,fA];rw[r];cases p:o[k]? with
   |none=>simp_all;|some x=>
    cases x with
    |dead=>simp_all;|map w t m=>simp_all;|cells i e u m=>
     cases m with
     |true=>simp_all;|false=>
      simp only[fA,p,γD,Γ,if_false,δT] at h;have l:=λc g=>xi d c (λj b=>h j (.inr ⟨c,g,b⟩));simp_all[xh,xg]
  |_=>simp[freeze,fA]
theorem zk {f:FuncId} {args:List AV} {o o2:Store} (h:∀j∈args.flatMap (fA o 6),o2[j]?=o[j]?):
  gU call f args o2 false=(gU call f args o false).map (λp=>(p.1,o2))/\args.flatMap (fA o2 6)=args.flatMap (fA o 6):=by
 simp only[δT,forall_exists_index,and_imp] at h;have d:=λc a=>xi 6 c (λj e=>h j c a e);have b:args.flatMap (fA o2 6)=args.flatMap (fA o 6):=xg λc a=>(d c a).2;refine⟨?_,b⟩;unfold gU;rw[if_neg (by simp),if_neg (by simp),b,xh λc a=>(d c a).1];grind
theorem Gs {b:cO} (w:b.cls=1) {o o2:Store} (h:∀j∈dY b ρ o bF,o2[j]?=o[j]?):
  bT call b ρ o2 bF=(bT call b ρ o bF).map (λp=>(p.1,o2))/\dY b ρ o2 bF=dY b ρ o bF:=by
 cases b<;>try (simp[cO.cls] at w;done)
 case load n a=>
  simp only[bT,dY] at h ⊢;rw[XL h];refine⟨?_,trivial⟩;split<;>simp[ε7,δm]
 case sf l x i=>
  simp only[bT,dY] at h ⊢;refine⟨?_,trivial⟩;split;·rw[XN h];simp_all[δm]
  ·rfl
 case slice l x q y=>
  simp only[bT,dY] at h ⊢;refine⟨?_,trivial⟩;rw[XO h];simp_all[δm]
 case slice3 l x q y A=>
  simp only[bT,dY] at h ⊢;refine⟨?_,trivial⟩;rw[XP h];simp_all[δm]
 case len k x=>
  simp only[bT,dY] at h ⊢;refine⟨?_,trivial⟩;rw[XQ h];simp_all[δm]
 case lookup z m F D x k C=>
  simp only[bT,dY] at h ⊢;refine⟨?_,trivial⟩;split<;>grind[id,fD]
 case oL r x c=>
  simp only[bT,dY] at h ⊢;split
  ·rename_i t B u;simp only[u] at h ⊢;refine⟨?_,(zk (call:=call) (f:=0) h).2⟩;grind[zk]
  simp_all
 case call f c d=>
  cases d<;>grind[bT,dY,zk,cO.cls]
 case jT f c d=>
  cases d
  ·simp only[bT,dY] at h ⊢;split;·grind[zk]
   ·rename_i s;refine⟨rfl,?_⟩;split
    ·rename_i E g e v;simp only[v] at h ⊢;exact(zk (call:=call) (f:=0) h).2
    ·rfl
  grind[cO.cls]
theorem XR {a:cO} (b:a.cls=1) {o o':Store} {v:AV} (h:bT call a ρ o bF=some (v,o')):o'=o:=by
 have:=(Gs (call:=call) (ρ:=ρ) (bF:=bF) b (o:=o) (o2:=o) λ_ _=>rfl).1;grind
theorem Cc {o:Store} {id:Nat}:o.set id ((o[id]?).getD .dead)=o:=by
 apply List.ext_getElem?;grind
theorem XS {d:cO} (H:d.cls=2) {o o':Store} {v:AV} (b:bT call d ρ o bF=some (v,o')):
  ∃id x,id∈wrt d ρ o bF/\o'=o.set id x/\∀o2,(∀j∈dY d ρ o bF,o2[j]?=o[j]?)->
   bT call d ρ o2 bF=some (v,o2.set id x)/\dY d ρ o2 bF=dY d ρ o bF/\wrt d ρ o2 bF=wrt d ρ o bF:=by
 have C:∀{x:bW} {g:AV} {v:AV} {o':Store},(lg bF x o).map (λo'=>(g,o'))=some (v,o')->v=g/\o'=o.set bF x/\∀o2:Store,o2[bF]?=o[bF]?->(lg bF x o2).map (λo'=>(g,o'))=some (v,o2.set bF x):=by
  grind[lg]
 cases d<;>try (simp[cO.cls] at H;done)
 case alloc z e y=>
  simp only[bT,dY,wrt] at b ⊢;grind
 case box e x=>
  simp only[bT,dY,wrt] at b ⊢;grind
 case pD z D E e A=>
  simp only[bT,dY,wrt] at b ⊢;grind
 case qf z e A q l c y=>
  simp only[bT,dY,wrt] at b ⊢;grind
 case qg Q y=>
  simp only[bT,dY,wrt] at b ⊢;grind
 case store n a x=>
  simp only[bT,dY,wrt] at b ⊢;split at b
  ·rename_i id R G J;split at b
   ·rename_i L e A y K;split at b
    ·rename_i p;simp only[γ,κ] at b;obtain⟨rfl,rfl⟩:=b;refine⟨id,_,by simp[J,fD],rfl,λo2 h=>⟨?_,trivial,trivial⟩⟩;have U:=h id (by simp[J,fD]);grind
    ·cases b
   ·cases b
  ·cases b
 case append e A q s x y=>
  simp only[bT,dY,wrt] at b ⊢;unfold qj at b;split at b;·cases b
  ·rename_i m F P;split at b;·cases b
   ·rename_i N;have t:∀o2:Store,(∀j∈bF::(fD (ρ s)++fD (ρ x)),o2[j]?=o[j]?)->nc o2 A (ρ x)=some (m,F):=λo2 h=>by
     grind[XM]
    split at b
    ·rename_i B;split at b
     ·rename_i I;simp only[γ,κ] at b;obtain⟨rfl,rfl⟩:=b;refine⟨bF,(o[bF]?).getD .dead,by simp,Cc.symm,λo2 h=>⟨?_,trivial,trivial⟩⟩;rw[<-h bF (by simp),Cc];simp_all[qj]
     ·split at b
      ·rename_i I p;obtain⟨rfl,rfl,h3⟩:=C b;refine⟨bF,_,by simp,rfl,λo2 h=>⟨?_,trivial,trivial⟩⟩;simp_all[qj]
      ·cases b
    ·rename_i id D G B;split at b
     ·rename_i L e' S O K;split at b
      ·rename_i p;simp only[γ,κ] at b;obtain⟨rfl,rfl⟩:=b;refine⟨id,_,by simp[B,fD],rfl,λo2 h=>⟨?_,trivial,trivial⟩⟩;unfold qj;rw[t o2 h];have U:=h id (by simp[B,fD]);simp_all
      ·cases b
     ·cases b
    ·rename_i n L B;split at b
     ·rename_i I;simp only[γ,κ] at b;obtain⟨rfl,rfl⟩:=b;refine⟨bF,(o[bF]?).getD .dead,by simp,Cc.symm,λo2 h=>⟨?_,trivial,trivial⟩⟩;rw[<-h bF (by simp),Cc];simp_all[qj]
     ·cases b
    ·cases b
 case qX W X x k v'=>
  simp only[bT,dY,wrt] at b ⊢;split at b
  ·rename_i id Y M V;split at b
   ·rename_i Z Q y K;split at b;·cases b
    ·rename_i p;split at b
     ·rename_i i w T;simp only[γ,κ] at b;obtain⟨rfl,rfl⟩:=b;refine⟨id,_,by simp[M,fD],rfl,λo2 h=>⟨?_,trivial,trivial⟩⟩;simp_all[fD]
     ·rename_i T;simp only[γ,κ] at b;obtain⟨rfl,rfl⟩:=b;refine⟨id,_,by simp[M,fD],rfl,λo2 h=>⟨?_,trivial,trivial⟩⟩;simp_all[fD]
     ·cases b
   ·cases b
  ·cases b
 case call f u r=>cases r<;>simp[cO.cls] at H
 case jT f u r=>cases r<;>simp[cO.cls] at H
theorem rk (o:Store):∀(d:Nat) (vs:List AV) (acc:List Nat) (j:Nat),j∈acc->j∈dc o d vs acc
 |0,vs,acc,j,h=>by grind[dc];|d+1,[],acc,j,h=>by simp_all[dc];|d+1,v::vs,acc,j,h=>by
  rw[zi];apply rk o d;have e:∀c,j∈qx o d c acc:=by
   intro c;unfold qx;split;·exact h
   ·split
    ·split;·simp[h]
     ·exact rk o d _ _ j (by simp[h])
    ·split;·simp[h]
     ·exact rk o d _ _ j (by simp[h])
    ·simp[h]
  cases v with
  |agg g=>exact rk o d _ _ j h;|bN g=>exact rk o d _ _ j h;|ptr c _ _=>exact e c;|os c _ _ _=>exact e c;|mp c=>exact e c;|fn f a b=>exact rk o d _ _ j (rk o d _ _ j h);|_=>exact h
theorem XT (o:Store) (d id:Nat) (acc:List Nat):id∈qx o d id acc:=by
 grind[qx,rk]
theorem tK {o o2:Store}:∀(d:Nat) (vs:List AV) (acc:List Nat),(∀j∈dc o d vs acc,o2[j]?=o[j]?)->dc o2 d vs acc=dc o d vs acc
 |0,vs,acc,_=>by grind[dc];|d+1,[],acc,_=>by simp[dc];|d+1,v::vs,acc,h=>by
  rw[zi] at h;rw[zi,zi];have m:∀c,(∀j∈qx o d c acc,o2[j]?=o[j]?)->qx o2 d c acc=qx o d c acc:=by
   intro c g;have r:=g c (XT o d c acc);unfold qx at g ⊢;split;·rfl
   ·rename_i q;rw[if_neg q] at g;rw[r];cases p:o[c]? with
    |none=>rfl;|some x=>
     rw[p] at g;cases x with
     |dead=>rfl;|cells l e w n=>
      cases n with
      |true=>rfl;|false=>exact tK d _ _ g
     |map s u n=>
      cases n with
      |true=>rfl;|false=>exact tK d _ _ g
  have k:vh o2 d v acc=vh o d v acc:=by
   have i:=λj g=>h j (rk o d vs _ j g);cases v with
   |agg l=>exact tK d l acc i;|bN l=>exact tK d l acc i;|ptr c _ _=>exact m c i;|os c _ _ _=>exact m c i;|mp c=>exact m c i;|fn f a b=>
    have y:dc o2 d a acc=dc o d a acc:=tK d a acc λj g=>i j (rk o d b _ j g);have t:dc o2 d b (dc o d a acc)=dc o d b (dc o d a acc):=tK d b _ i;grind[vh];|_=>rfl
  rw[k];exact tK d vs _ h
theorem Oe {o o2:Store} {a:List Nat}:∀{r:List Nat},(∀j∈r,o2[j]?=o[j]?)->lh o2 a r=lh o a r
 |[],_=>rfl
 |i::r,h=>by
  simp only[lh];rw[h i (by simp),Oe λj b=>h j (by simp[b])]
theorem Og:∀(a:List Nat) (o o2 X:Store) (j:Nat),o2.length=o.length->a.length=X.length->(j∈a\/o2[j]?=o[j]?)->(lS o2 a X)[j]?=(lS o a X)[j]?
 |[],o,o2,X,j,_,_,h=>by grind[lS];|i::r,o,o2,[],j,_,c,_=>by simp at c;|i::r,o,o2,x::l,j,b,c,h=>by
  simp only[lS];refine Og r _ _ l j (by simp[b]) (by simp_all) ?_;grind
theorem Oh {f:FuncId} {args:List AV} {o o':Store} {r:AV} (h:iO call f args o=some (r,o')):
  o.length<=o'.length/\(∀j,j<o.length->j∉dc o fR args []->o'[j]?=o[j]?)/\
  ∀o2:Store,o2.length=o.length->(∀j∈dc o fR args [],o2[j]?=o[j]?)->∃g,iO call f args o2=some (r,g)/\
   dc o2 fR args []=dc o fR args []/\∀j,(j∈dc o fR args []\/o.length<=j)->g[j]?=o'[j]?:=by
 have b:∀o2:Store,(∀j∈dc o fR args [],o2[j]?=o[j]?)->dc o2 fR args []=dc o fR args []:=λo2 h=>tK fR args [] h;have e:∀o2:Store,(∀j∈dc o fR args [],o2[j]?=o[j]?)->lh o2 (dc o fR args []) (dc o fR args [])=lh o (dc o fR args []) (dc o fR args []):=λo2 h=>Oe h;unfold iO at h;simp only at h;generalize q:dc o fR args []=a at h b e;split at h
 ·rename_i m l v y;split at h
  ·rename_i B i n;split at h;·cases h
   ·rename_i d;split at h
    ·rename_i A c x t;simp only[γ,κ] at h;obtain⟨rfl,rfl⟩:=h;simp only[not_or] at d;have u:=Gk t;have z:a.length=(c.take a.length).length:=by simp;omega
     refine⟨by simp[zj],λj s w=>?_,λo2 p k=>?_⟩;·grind[zj,B6]
     ·refine⟨lS o2 a (c.take a.length)++c.drop a.length,?_,b o2 k,λj s=>?_⟩
      ·unfold iO;grind
      grind[zj,Og]
    ·cases h
  ·cases h
 ·cases h
end
end Go.Vi
