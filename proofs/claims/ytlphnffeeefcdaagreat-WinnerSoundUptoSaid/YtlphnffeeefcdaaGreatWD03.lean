/-
  The abstract interpreter: every operation that is no call does what the model's does.
  Conditions: none.
-/
import Derived.Test.YtlphnffeeefcdaaGreatWD02
import Derived.OrdersIn
import Derived.AtR
set_option maxRecDepth 100000
set_option maxHeartbeats 4000000
set_option linter.all false
open Array renaming ext'->εj,getD_eq_getD_getElem?->εb
open Bool renaming and_eq_true->ζ,false_eq_true->χ,or_eq_true->δK,not_eq_true'->γ5
open Decidable renaming not_not->ζI
open Function renaming comp_def->δn
open Go.Vi.AV renaming ren->δz
open List renaming getElem?_eq_getElem->ν,mem_of_getElem?->γt,getElem?_of_mem->γI,getElem?_take->δf,getElem?_take_of_lt->εv,replicate->δ,getElem?_eq_some_iff->θ,getElem?_append_left->γ6,getElem?_append_right->εV,mem_of_mem_take->γd,mapM_cons->εI,getElem?_drop->δR,mem_of_mem_drop->γO,mem_cons->γC,range->ψ,getElem?_cons_succ->γz,nodup_cons->γU,getElem?_inj->ε9,mem_flatMap->δO
open Nat renaming le_refl->φ,lt_of_lt_of_le->γo,lt_or_ge->εY,sub_zero->εJ
open Option renaming map_eq_some_iff->ε,map_some->γl,map_map->ε5
open Option.some renaming injEq->γ
open Prod.mk renaming injEq->μ
namespace Go.Vi
def cJ.pq:cJ->Bool
 | .call .. | .jI .. | .ot .. =>true
 |_=>false
section
variable {P:Program} {A:dQ} {w w':World} {σ σ':bY} {o o':Store} {bT:Operand->AV} {bP:Operand->Value} {oper:Oper} {v:AV}
theorem jW {b:Type} {x:Option b} {f:b->AV×Store} {p:AV×Store} (h:x.map f=some p):∃a,x=some a/\f a=p:=by
 simp_all
theorem WW {call:dh} {fl:Bool} {T:cJ} {bE:Nat} (j:pn P fl oper=some T) (d0:T.pq=false) (G:bV A w σ o) (E:∀x,bw A w σ o (bT x) (bP x))
  (B:qb call T bT o bE=some (v,o')):Gives A P bP oper w σ o v o':=by
 rw[yP] at B;unfold pn at j;split at j;·
  rename_i x C;injection j with j;subst j;simp only[bK,γ,μ] at B;obtain⟨rfl,rfl⟩:=B;simp_all[MO]
 ·rename_i x C;injection j with j;subst j;simp only[bK,γ,μ] at B;obtain⟨rfl,rfl⟩:=B;simp_all[MO]
 ·rename_i c a b C;injection j with j;subst j;simp only[bK] at B;split at B
  ·rename_i b0;simp only[γ,μ] at B;obtain⟨rfl,rfl⟩:=B;exact MP (t:=true) G E C b0
  ·rename_i b0;simp only[γ,μ] at B;obtain⟨rfl,rfl⟩:=B;exact MP (t:=false) G E C b0
  ·cases B
 ·rename_i e C;obtain⟨z,S,rfl⟩:=ε.1 j;simp only[bK] at B;obtain⟨o2,hm,F⟩:=jW B;obtain⟨hd,rfl⟩:=wJ hm;grind[V9]
 ·rename_i e x C;injection j with j;subst j;simp only[bK] at B;split at B
  ·rename_i h1;obtain⟨o2,hm,F⟩:=jW B;obtain⟨hd,rfl⟩:=wJ hm;simp only[μ] at F;obtain⟨rfl,rfl⟩:=F;simp_all[Wa]
  ·cases B
 ·
  rename_i t a3 C;split at j
  ·rename_i z b4 S I;split at j
   ·rename_i a1 c8;obtain⟨ps,b9,rfl⟩:=ε.1 j;simp only[bK] at B;obtain⟨cs,O,F⟩:=jW B;simp only[μ] at F;obtain⟨rfl,rfl⟩:=F;obtain⟨hl,hg⟩:=FD b9;refine MV (place:=λi=>a1[i]?) G E C S (λzv N l=>?_) hl.symm (λi p q W hq=>?_) O;·cases X:P.info? t<;>grind[Me,Program.built]
    grind[MA]
   ·cases j
  ·rename_i z k e S I;obtain⟨n,M,rfl⟩:=ε.1 j;simp only[bK] at B;obtain⟨cs,O,F⟩:=jW B;simp only[μ] at F;obtain⟨rfl,rfl⟩:=F;refine MV (place:=λi=>some (i*n,n)) G E C S (λzv N l=>?_) (by simp) (λi p q W hq=>?_) O;·cases X:P.info? t with
    |none=>simp_all;|some i=>
     simp[X] at N;cases d2:P.info? e<;>grind[sizeT,Program.built]
   grind
  ·cases j
 ·
  rename_i t b1 a3 C;split at j
  ·rename_i e I;split at j
   ·rename_i z S;split at j
    ·rename_i D;injection j with j;subst j;split at B
     ·simp only[bK] at B;split at B
      ·rename_i cs O;split at B
       ·rename_i W;simp only[γ,μ] at B;obtain⟨rfl,rfl⟩:=B;exact WG G E C I S D.2 D.1 O W
       ·cases B
      ·cases B
     ·simp only[bK] at B;split at B
      ·rename_i cs O;obtain⟨o2,hm,F⟩:=jW B;obtain⟨hd,rfl⟩:=wJ hm;simp only[μ] at F;obtain⟨rfl,rfl⟩:=F;exact WE G E C I S D.2 D.1 O hd
      ·cases B
    ·cases j
   ·cases j
  ·cases j
 ·
  rename_i t a C;obtain⟨n,M,rfl⟩:=ε.1 j;simp only[bK] at B;split at B
  ·rename_i cs b8 hb;obtain⟨a',W,F⟩:=jW B;simp only[μ] at F;obtain⟨rfl,rfl⟩:=F;exact V5 G E C M hb W
  ·cases B
 ·
  rename_i t a x C;obtain⟨n,M,rfl⟩:=ε.1 j;simp only[bK] at B;split at B
  ·rename_i id b8 d1 U;split at B
   ·rename_i cs e sz pu ho;split at B
    ·rename_i D;simp only[γ,μ] at B;obtain⟨rfl,rfl⟩:=B;obtain⟨c1,c2,c3,c4,c5⟩:=D;exact V7 G E C M U ho c1 c2 c3 c4 c5
    ·cases B
   ·cases B
  ·cases B
 ·
  rename_i x C;injection j with j;subst j;simp only[bK] at B;have H:=E x;split at B
  ·rename_i a b c Z;simp only[γ,μ] at B;obtain⟨rfl,rfl⟩:=B;rw[Z] at H;simp only[bw] at H;obtain⟨_,⟨p,W⟩,_⟩:=H;rw[<-Z];exact MQ G E C W
  ·rename_i a b Z;simp only[γ,μ] at B;obtain⟨rfl,rfl⟩:=B;rw[Z] at H;simp only[bw] at H;obtain⟨p,W,_⟩:=H;rw[<-Z];exact MQ G E C W
  ·cases B
 ·
  rename_i op t x y t' C;have c0:∀(h:T= .bin op x y),Gives A P bP oper w σ o v o':=by
   intro h;subst h;simp only[bK] at B;split at B
   ·rename_i a b U hb;obtain⟨r,L,F⟩:=jW B;simp only[μ] at F;obtain⟨rfl,rfl⟩:=F;exact Wg G E C U hb L
   ·cases B
  have c9:∀(V:Bool),(op= .eql/\V=false)\/(op= .neq/\V=true)->
    (match P.underlying t with
     |some (.struct _)|some (.array _ _)=>if 20<=P.depth then(gl P 20 t).map λks=>cJ.rK V ks x y else none
     |some .bool=>some (.beq V x y)
     |some (.int _)|some .string=>some (.bin op x y)
     |_=>none)=some T->Gives A P bP oper w σ o v o':=by
   intro V M j;have c7:fw P t=some true->(if 20<=P.depth then(gl P 20 t).map λks=>cJ.rK V ks x y else none)=some T->Gives A P bP oper w σ o v o':=by
    intro K j;split at j
    ·rename_i hD;obtain⟨ks,hk,rfl⟩:=ε.1 j;simp only[bK] at B;split at B
     ·rename_i a b U hb;obtain⟨r,L,F⟩:=jW B;simp only[μ] at F;obtain⟨rfl,rfl⟩:=F;exact WN G E C M K hk hD U hb L
     ·cases B
    ·cases j
   split at j;·grind[fw]
   ·grind[fw]
   ·rename_i hu;injection j with j;subst j;simp only[bK] at B;split at B
    ·rename_i a b U hb;simp only[γ,μ] at B;obtain⟨rfl,rfl⟩:=B;exact Wh G E C M hu U hb
    ·cases B
   all_goals simp_all
  split at j<;>grind
 ·
  rename_i op t x C;injection j with j;subst j;simp only[bK] at B;obtain⟨r,L,F⟩:=jW B;simp only[μ] at F;obtain⟨rfl,rfl⟩:=F;exact Wi G E C L
 ·
  rename_i s d x C;split at j
  ·rename_i ds k hs hd;injection j with j;subst j;simp only[bK] at B;split at B
   ·rename_i k' n H;simp only[γ,μ] at B;obtain⟨rfl,rfl⟩:=B;exact Wj G E C hs hd H
   ·cases B
  ·cases j
 ·
  rename_i s x f C;split at j
  ·rename_i fs hs;split at j
   ·rename_i g hg;split at j
    ·rename_i n M;split at j;·cases j
     ·rename_i a0;injection j with j;subst j;simp only[bK] at B;obtain⟨r,L,F⟩:=jW B;simp only[μ] at F;obtain⟨rfl,rfl⟩:=F;exact Wl G E C hs hg M a0 L
    ·cases j
   ·cases j
  ·cases j
 ·
  rename_i t x f C;split at j
  ·rename_i fs hs;split at j
   ·rename_i g hg;obtain⟨n,M,rfl⟩:=ε.1 j;simp only[bK] at B;split at B
    ·rename_i cs H;obtain⟨r,L,F⟩:=jW B;simp only[μ] at F;obtain⟨rfl,rfl⟩:=F;exact Wm G E C hs hg M H L
    ·cases B
   ·cases j
  ·cases j
 ·
  rename_i t x i C;split at j
  ·rename_i b1 e I;obtain⟨n,M,rfl⟩:=ε.1 j;simp only[bK] at B;split at B
   ·rename_i k X;split at B
    ·rename_i D;obtain⟨r,L,F⟩:=jW B;simp only[μ] at F;obtain⟨rfl,rfl⟩:=F;exact Wn G E C I M X D.1 D.2 L
    ·cases B
   ·cases B
  ·rename_i e I;split at j
   ·rename_i n M;split at j;·cases j
    ·rename_i a0;injection j with j;subst j;simp only[bK] at B;split at B
     ·rename_i k X;obtain⟨r,L,F⟩:=jW B;simp only[μ] at F;obtain⟨rfl,rfl⟩:=F;exact Wp G E C I M a0 X L
     ·cases B
   ·cases j
  ·cases j
 ·
  rename_i t x i C;split at j
  ·rename_i b1 e I;split at j
   ·rename_i s n hs M;injection j with j;subst j;simp only[bK] at B;split at B
    ·rename_i k cs X H;split at B
     ·rename_i D;obtain⟨r,L,F⟩:=jW B;simp only[μ] at F;obtain⟨rfl,rfl⟩:=F;exact Wq G E C I hs M X D.1 D.2 H L
     ·cases B
    ·cases B
   ·cases j
  ·rename_i I;injection j with j;subst j;simp only[bK] at B;split at B
   ·rename_i k s X H;split at B
    ·rename_i D;obtain⟨r,L,F⟩:=jW B;simp only[μ] at F;obtain⟨rfl,rfl⟩:=F;exact Ws G E C I X D H L
    ·cases B
   ·cases B
  ·cases j
 ·
  rename_i t l c C;split at j
  ·rename_i e I;split at j
   ·rename_i z b S hb;split at j
    ·rename_i a2;injection j with j;subst j;simp only[bK] at B;split at B
     ·rename_i n m hl hm;split at B
      ·rename_i D;obtain⟨c1,c2,c3,c4⟩:=D;obtain⟨o2,a9,F⟩:=jW B;obtain⟨hd,rfl⟩:=wJ a9;simp only[μ] at F;obtain⟨rfl,rfl⟩:=F;exact WI G E C I S hb hl hm c1 c2 c3 c4 hd
      ·cases B
     ·cases B
    ·cases j
   ·cases j
  ·cases j
 ·
  rename_i t x lo X C;split at j
  ·rename_i e I;split at j
   ·rename_i n M;split at j;·cases j
    ·rename_i a0;injection j with j;subst j;simp only[bK] at B;obtain⟨r,L,F⟩:=jW B;grind[Wy]
   ·cases j
  all_goals grind[bK,WB]
 ·
  rename_i t x lo X mx C;split at j
  ·rename_i e I;split at j
   ·rename_i n M;split at j;·cases j
    ·rename_i a0;injection j with j;subst j;simp only[bK] at B;obtain⟨r,L,F⟩:=jW B;grind[WA]
   ·cases j
  ·cases j
 ·
  rename_i c C;split at j;·grind[cJ.pq]
  ·grind[cJ.pq]
  ·grind[cJ.pq]
  ·rename_i J;split at j
   ·rename_i s x t t' U a4;split at j
    ·rename_i b7;subst b7;split at j
     ·rename_i e I;split at j
      ·rename_i z b S hb;split at j
       ·rename_i a2;injection j with j;subst j;simp only[bK] at B;exact WM G E C J (εj U) (εj a4) I S hb rfl a2 B
       ·cases j
      ·cases j
     ·cases j
    ·cases j
   ·cases j
  ·rename_i J;split at j
   ·rename_i x t U a4;have b5:c.args=#[x]:=εj U;have b3:c.argTypes=#[t]:=εj a4;have c6:∀k,(k=0/\∃e,P.underlying t=some (.slice e))\/(k=1/\P.underlying t=some .string)\/(k=2/\∃a b,P.underlying t=some (.map a b))->T= .len k x->Gives A P bP oper w σ o v o':=by
     intro k I hh;subst hh;simp only[bK] at B;obtain⟨n,M,F⟩:=jW B;simp only[μ] at F;obtain⟨rfl,rfl⟩:=F;exact Wt G E C J b5 b3 I M
    grind[bK,Wu]
   ·cases j
  ·rename_i J;split at j
   ·rename_i x y U;injection j with j;subst j;simp only[bK] at B;split at B
    ·rename_i k a k' b H hy;split at B
     ·rename_i a6;subst a6;simp only[γ,μ] at B;obtain⟨rfl,rfl⟩:=B;exact MS (mx:=false) G E C J (εj U) H hy
     ·cases B
    ·cases B
   ·cases j
  ·rename_i J;split at j
   ·rename_i x y U;injection j with j;subst j;simp only[bK] at B;split at B
    ·rename_i k a k' b H hy;split at B
     ·rename_i a6;subst a6;simp only[γ,μ] at B;obtain⟨rfl,rfl⟩:=B;exact MS (mx:=true) G E C J (εj U) H hy
     ·cases B
    ·cases B
   ·cases j
  ·cases j
 ·
  rename_i x i C;injection j with j;subst j;simp only[bK] at B;split at B
  ·rename_i vs H;obtain⟨r,L,F⟩:=jW B;simp only[μ] at F;obtain⟨rfl,rfl⟩:=F;exact Wv G E C H L
  ·cases B
 ·rename_i f a b C;split at j
  ·injection j with j;subst j;simp only[bK,γ,μ] at B;obtain⟨rfl,rfl⟩:=B;exact Wx G E (λ_=>rfl) C
  ·cases j
 ·rename_i t x C;split at j
  ·rename_i fs I;injection j with j;subst j;simp only[bK] at B;split at B
   ·rename_i cs H;split at B
    ·rename_i W;simp only[γ,μ] at B;obtain⟨rfl,rfl⟩:=B;exact Ww G E I C H W
    ·cases B
   ·cases B
  ·cases j
 ·rename_i t C;split at j
  ·split at j
   ·injection j with j;subst j;simp only[bK] at B;obtain⟨o2,a9,F⟩:=jW B;obtain⟨hd,rfl⟩:=wJ a9;grind[WT]
   ·cases j
  ·cases j
 ·
  rename_i t x k ok C;split at j
  ·rename_i kt et I;split at j
   ·rename_i ks ka z g hk K S hg;split at j
    ·rename_i a8;injection j with j;subst j;simp only[bK] at B;split at B
     ·rename_i id kv H Q;split at B
      ·rename_i es b2 pu ho;split at B
       ·rename_i Y;subst Y;split at B
        ·rename_i i a q O;simp only[γ,μ] at B;obtain⟨rfl,rfl⟩:=B;obtain⟨zv,N⟩:=WU S a8;obtain⟨u,a5,a7⟩:=Nb (w:=w) (σ:=σ) (o:=o) S a8 N;have:=Nc (ok:=ok) G E C I hk K ⟨zv,u,N,a5,a7⟩ H Q ho O N;simp_all
        ·rename_i zv O N;simp only[γ,μ] at B;obtain⟨rfl,rfl⟩:=B;obtain⟨u,a5,a7⟩:=Nb (w:=w) (σ:=σ) (o:=o) S a8 N;have:=Nc (ok:=ok) G E C I hk K ⟨zv,u,N,a5,a7⟩ H Q ho O N;simp_all
        ·cases B
       ·cases B
      ·cases B
     ·cases B
    ·cases j
   ·cases j
  ·cases j
 ·rename_i t m k v' C;split at j
  ·rename_i kt et I;split at j
   ·rename_i ks ka hk K;injection j with j;subst j;simp only[bK] at B;split at B
    ·rename_i id kv H Q;split at B
     ·rename_i es b2 pu ho;split at B;·cases B
      ·rename_i D;simp only[not_or,ζI] at D;obtain⟨b6,Y⟩:=D;subst Y;have R:pu=true->(bT v').pure=true:=λW=>by
        simp_all
       split at B
       ·rename_i i a O;simp only[γ,μ] at B;obtain⟨rfl,rfl⟩:=B;exact BI G E (.inl C) I hk K H Q ho R O
       ·rename_i O;simp only[γ,μ] at B;obtain⟨rfl,rfl⟩:=B;exact BI G E (.inl C) I hk K H Q ho R O
       ·cases B
     ·cases B
    ·cases B
   ·cases j
  ·cases j
 ·rename_i t m k v' C;split at j
  ·rename_i kt et I;split at j
   ·rename_i ks ka hk K;injection j with j;subst j;simp only[bK] at B;split at B
    ·rename_i id kv H Q;split at B
     ·rename_i es b2 pu ho;split at B;·cases B
      ·rename_i D;simp only[not_or,ζI] at D;obtain⟨b6,Y⟩:=D;subst Y;have R:pu=true->(bT v').pure=true:=λW=>by
        simp_all
       split at B
       ·rename_i i a O;simp only[γ,μ] at B;obtain⟨rfl,rfl⟩:=B;exact BI G E (.inr C) I hk K H Q ho R O
       ·rename_i O;simp only[γ,μ] at B;obtain⟨rfl,rfl⟩:=B;exact BI G E (.inr C) I hk K H Q ho R O
       ·cases B
     ·cases B
    ·cases B
   ·cases j
  ·cases j
 ·cases j
end
section
variable {A A':dQ} {w w':World} {σ σ':bY} {o o':Store}
def Tr (o:Store) (σ:bY) (o':Store) (c:bY) (id a:Nat):Prop:=
 (∀f e g h,o[id]?=some (.cells f e g h)->∃b i d,o'[a]?=some (.cells b i g d)/\b.length=f.length)/\(IsMap o id->IsMap o' a)/\c[a]?=σ[id]?
theorem Tr.wR {id b a:Nat} (h:Tr o σ o' σ' id b) (k:sZ o id a):sZ o' b a:=by
 obtain⟨j,e,f,l,g,n⟩:=k;obtain⟨d,i,c,m,p⟩:=h.1 j e f l g;exact⟨d,i,f,c,m,by omega⟩
theorem Tr.cur {id g f sz:Nat} (h:Tr o σ o' σ' id g) (k:sZ o id f) (p:uN o' g sz f):uN o id sz f:=by
 obtain⟨m,e,j,l,n,w⟩:=k;obtain⟨r,y,s,u,x⟩:=h.1 m e j l n;obtain⟨t,v,q,i,z⟩:=p;rw[u] at i;injection i with i;injection i with a b c d;subst a c;exact⟨m,e,l,n,by omega⟩
mutual
theorem AV.uR (m:Nat->Option Nat):∀(c:AV),c.pure=true->c.ren m=some c
 | .sc _,_=>rfl
 | .sl _ _,_=>rfl
 | .ud,h| .agg _,h| .bJ _,h| .ep _ _,h| .ptr _ _ _,h| .os _ _ _ _,h| .mp _,h| .fn _ _ _,h| .je _ _,h=>by simp[AV.pure] at h
end
theorem Nh (m:Nat->Option Nat):∀(cs:List AV),dr cs=true->iH m cs=some cs
 |[],_=>rfl
 |c::cs,h=>by
  simp only[dr,ζ] at h;simp only[iH,AV.uR m c h.1,Nh m cs h.2]
mutual
theorem bw.ren [nH A A'] (l:∀b,b<w.heap.size->Fr A σ b->Fr A' σ' b) {m:Nat->Option Nat} (k:∀id e,m id=some e->Tr o σ o' σ' id e):
  ∀(c:AV) (v:Value) (q:AV),c.ren m=some q->bw A w σ o c v->bw A' w σ' o' q v
 | .ud,v,q,d,_=>by grind[δz,bw];| .sc u,v,q,d,h=>by grind[δz,bw];| .sl n g,v,q,d,h=>by
  simp only[δz,γ] at d;subst d;simp only[bw] at h ⊢;obtain⟨a,D,rfl,T,s,F⟩:=h;exact⟨a,D,rfl,T,s,dA.ren l k g a 0 s F⟩;| .ep g G,v,q,d,h=>by
  simp only[δz,γ] at d;subst d;simp only[bw] at h ⊢;obtain⟨a,rfl,s,F⟩:=h;exact⟨a,rfl,s,dA.ren l k g _ 0 s F⟩;| .agg g,v,q,d,h=>by
  simp only[δz,ε] at d;obtain⟨i,p,rfl⟩:=d;simp only[bw] at h ⊢;obtain⟨B,rfl,z⟩:=h;exact⟨B,rfl,bF.ren l k g _ i p z⟩;| .bJ g,v,q,d,h=>by
  simp only[δz,ε] at d;obtain⟨i,p,rfl⟩:=d;simp only[bw] at h ⊢;obtain⟨B,rfl,z⟩:=h;exact⟨B,rfl,bF.ren l k g _ i p z⟩;| .ptr id G I,v,q,d,h=>by
  simp only[δz,ε] at d;obtain⟨e,p,rfl⟩:=d;have C:=k id e p;simp only[bw] at h ⊢;refine⟨C.wR h.1,h.2.1,λL E=>?_⟩;rw[C.2.2];exact h.2.2 L (C.cur h.1 E);| .os id G P I,v,q,d,h=>by
  simp only[δz,ε] at d;obtain⟨e,p,rfl⟩:=d;have C:=k id e p;simp only[bw] at h ⊢;obtain⟨N,a,D,K,z,O⟩:=h;refine⟨C.wR N,a,D,K,z,λL E=>?_⟩;have:=O L (C.cur N E);unfold kA at this ⊢;rw[C.2.2];exact this;| .mp id,v,q,d,h=>by
  simp only[δz,ε] at d;obtain⟨e,p,rfl⟩:=d;have C:=k id e p;simp only[bw] at h ⊢;rw[C.2.2];exact⟨C.2.1 h.1,h.2⟩;| .fn f a b,v,q,d,h=>by
  simp only[δz] at d;split at d
  ·rename_i Q V p J;injection d with d;subst d;simp only[bw] at h ⊢;obtain⟨x,y,rfl,R,S⟩:=h;exact⟨x,y,by rw[nH.eq (A:=A) (A':=A')],bF.ren l k a _ Q p R,bF.ren l k b _ V J S⟩
  ·cases d;| .je t g,v,q,d,h=>by
  simp only[δz,γ] at d;subst d;simp only[bw] at h ⊢;obtain⟨B,rfl,s,z⟩:=h;exact⟨B,rfl,s,bF.ren l k g _ g (Nh m g s) z⟩
theorem bF.ren [nH A A'] (l:∀b,b<w.heap.size->Fr A σ b->Fr A' σ' b) {m:Nat->Option Nat} (k:∀id e,m id=some e->Tr o σ o' σ' id e):
  ∀(g:List AV) (B:List Value) (i:List AV),iH m g=some i->bF A w σ o g B->bF A' w σ' o' i B
 |[],B,i,d,h=>by grind[iH,bF];|c::g,B,i,d,h=>by
  simp only[iH] at d;split at d
  ·rename_i W H p J;injection d with d;subst d;simp only[bF] at h ⊢;obtain⟨v,r,rfl,K,z⟩:=h;exact⟨v,r,rfl,bw.ren l k c v W p K,bF.ren l k g r H J z⟩
  ·cases d
theorem dA.ren [nH A A'] (l:∀b,b<w.heap.size->Fr A σ b->Fr A' σ' b) {m:Nat->Option Nat} (k:∀id e,m id=some e->Tr o σ o' σ' id e):
  ∀(g:List AV) (a:Option Addr) (j:Nat),dr g=true->dA A w σ o g a j->dA A' w σ' o' g a j
 |[],_,_,_,_=>by simp[dA];|c::g,a,j,s,h=>by
  simp only[dr,ζ] at s;simp only[dA] at h ⊢;obtain⟨⟨b,v,rfl,U,d,F⟩,z⟩:=h;have M:b.block<w.heap.size:=by grind[MD,add_block]
  exact⟨⟨b,v,rfl,l _ M U,d,bw.ren l k c v c (AV.uR m c s.1) F⟩,dA.ren l k g _ (j+1) s.2 z⟩
end
theorem FM {m:Nat->Option Nat}:∀{cs a:List AV},iH m cs=some a->a.length=cs.length/\∀(j:Nat) (b:AV),a[j]?=some b->∃c,cs[j]?=some c/\c.ren m=some b
 |[],a,h=>by grind[iH];|c::cs,a,h=>by
  simp only[iH] at h;split at h
  ·rename_i k e f d;injection h with h;subst h;obtain⟨i,g⟩:=FM d;grind
  ·cases h
theorem Ni {m:Nat->Option Nat}:∀{es a:List (Value×AV)},ox m es=some a->a.length=es.length/\∀(j:Nat) (b:Value×AV),a[j]?=some b->∃e,es[j]?=some e/\e.1=b.1/\e.2.ren m=some b.2
 |[],a,h=>by grind[ox];|e::es,a,h=>by
  simp only[ox] at h;split at h
  ·rename_i v d f c;injection h with h;subst h;obtain⟨g,i⟩:=Ni c;grind
  ·cases h
theorem WX {m:Nat->Option Nat} {c a:AV} (h:c.ren m=some a) (b:c.one=true):a.one=true:=by
 cases c<;>simp only[δz,γ,ε] at h<;>simp only[AV.one,χ] at b<;>grind[δz,AV.one]
mutual
theorem agq {m:Nat->Option Nat}:∀{c a:AV},c.ren m=some a->c.pure=true->a=c
 |c,a,h,b=>by
  grind[AV.uR]
end
theorem dD.ren [nH A A'] (L:∀b,b<w.heap.size->Fr A σ b->Fr A' σ' b) {m:Nat->Option Nat} (J:∀id q,m id=some q->Tr o σ o' σ' id q) {i B:Nat} {x x':bR} (f:x.ren m=some x') (G:σ'[B]?=σ[i]?)
  (h:dD A w σ o i x):dD A' w σ' o' B x':=by
 cases x with
 |dead=>grind[bR.ren,dD];|cells u e S H=>
  simp only[dD] at h;obtain⟨t,C,F⟩:=h;have p:∀a,a.length=u.length->(H=true->dr a=true)->eJ a=true->(∀(j:Nat) (g:AV) (v:Value),a[j]?=some g->(∀c,u[j]?=some c->bw A w σ o c v->bw A' w σ' o' g v))->dD A' w σ' o' B (.cells a e S H):=by
   intro a k1 O k3 X;simp only[dD];refine⟨O,k3,?_⟩;rcases F with⟨h0,a1⟩|⟨b,D,E,r1,P,R,U,r5,r6⟩;·simp_all
   ·refine .inr ⟨b,D,E,by simp_all,P,R,U,by omega,λj g k=>?_⟩;have s:j<u.length:=by grind
    obtain⟨v,hv,y⟩:=r6 j _ (ν s);exact⟨v,hv,X j g v k _ (ν s) y⟩
  simp only[bR.ren] at f;split at f
  ·rename_i d;injection f with f;subst f;refine p u rfl t C λj g v k c l y=>?_;rw[k] at l;injection l with l;subst l;exact bw.ren L J g v g (AV.uR m g (qg (t d) g (γt k))) y
  ·rename_i d;obtain⟨a,n,rfl⟩:=ε.1 f;obtain⟨I,g2⟩:=FM n;refine p a I (λz=>absurd z d) (mN.2 λc l=>?_) λj g v k c l y=>?_
   ·obtain⟨j,k⟩:=γI l;grind[WX,mN]
   grind[bw.ren];|map es kt H=>
  simp only[dD] at h;obtain⟨t,C,b,c,N,M,F,K,Q,Y⟩:=h;simp only[bR.ren] at f;split at f
  ·rename_i d;injection f with f;subst f;simp only[dD];refine⟨t,C,b,c,N,M,by simp_all,K,Q,λj e r=>?_⟩;obtain⟨V,Z,T,W⟩:=Y j e r;exact⟨V,Z,T,bw.ren L J e.2 _ e.2 (AV.uR m e.2 (t d e (γt r))) W⟩
  ·rename_i d;obtain⟨a0,n,rfl⟩:=ε.1 f;obtain⟨I,g2⟩:=Ni n;simp only[dD];refine⟨λz=>absurd z d,λe r=>?_,b,c,N,M,by rw[G];exact F,K,by omega,λj e' r=>?_⟩
   ·obtain⟨j,k⟩:=γI r;grind
   grind[bw.ren]
def qh (k:Nat):Nat->Option Nat:=λi=>if i<k then some i else none
mutual
theorem BJ (k:Nat):∀(c:AV),c.cj k=true->c.ren (qh k)=some c
 | .ud,_| .sc _,_| .sl _ _,_| .ep _ _,_| .je _ _,_=>rfl
 | .agg d,h=>by simp only[AV.cj] at h;simp[δz,wS k d h];| .bJ d,h=>by simp only[AV.cj] at h;simp[δz,wS k d h];| .ptr e _ _,h=>by simp_all[AV.cj,δz,qh];| .os e _ _ _,h=>by simp_all[AV.cj,δz,qh];| .mp e,h=>by simp_all[AV.cj,δz,qh];| .fn f a b,h=>by simp only[AV.cj,ζ] at h;simp[δz,wS k a h.1,wS k b h.2]
theorem wS (k:Nat):∀(d:List AV),ei k d=true->iH (qh k) d=some d
 |[],_=>rfl
 |c::d,h=>by simp only[ei,ζ] at h;simp[iH,BJ k c h.1,wS k d h.2]
end
theorem Nj {k:Nat} {cs:List AV}:ei k cs=true↔∀c∈cs,c.cj k=true:=by
 induction cs<;>grind[ei]
theorem Nk (k:Nat) (id a:Nat) (h:qh k id=some a):Tr o σ (o.take k) (σ.take k) id a:=by
 unfold qh at h;split at h
 ·rename_i i;injection h with h;subst h;refine⟨λf e j b g=>⟨f,e,b,by simp_all,rfl⟩,λ⟨d,c,b,g⟩=>⟨d,c,b,by simp_all⟩,by simp_all⟩
 ·cases h
theorem Nl (k:Nat) (b:Nat) (h:Fr A σ b):Fr A (σ.take k) b:=by
 refine⟨?_,h.2⟩;rintro⟨i,c,a⟩;rw[δf] at a;split at a;·exact h.1 ⟨i,c,a⟩
 ·cases a
theorem bw.take {k:Nat} {c:AV} {v:Value} (h:bw A w σ o c v) (a:c.cj k=true):bw A w (σ.take k) (o.take k) c v:=
 bw.ren (λb _ d=>Nl k b d) (Nk k) c v c (BJ k c a) h
theorem WY {k:Nat} {x:bR} (h:x.cj k=true):x.ren (qh k)=some x:=by
 cases x with
 |dead=>rfl;|cells g e i c=>
  grind[bR.cj,bR.ren,wS];|map a f c=>
  simp only[bR.cj,δK] at h;simp only[bR.ren];split;·rfl
  ·rename_i b;have d:=h.resolve_left b;have:ox (qh k) a=some a:=by
    clear h b;induction a<;>grind[ei,ox,BJ]
   rw[this];rfl
theorem bV.take (e:bV A w σ o) {k:Nat} (n:∀x∈o.take k,x.cj k=true):bV A w (σ.take k) (o.take k):=by
 have a:∀(i:Nat) (s:Option (Nat×Nat)),(σ.take k)[i]?=some s->σ[i]?=some s:=by
  grind
 refine⟨by simp[e.len],λi j b c d g m=>e.dist i j b c d (a _ _ g) (a _ _ m),λi b c g=>e.bnd i b c (a _ _ g),λi x f=>?_,λi b c g=>e.av i b c (a _ _ g),e.jV⟩;have h:=f;rw[δf] at f;split at f
 ·rename_i p;exact dD.ren (λb _ l=>Nl k b l) (Nk k) (WY (n x (γt h))) (by simp_all) (e.obj i x f)
 ·cases f
theorem Ext.take {v:World} {j:bY} {u:Store} (h:Ext v j u w σ o) {k:Nat} (C:u.length<=k):Ext v j u w (σ.take k) (o.take k) where
 size:=h.size;blk:=λb z B=>by
  obtain⟨g,p⟩:=h.blk b z B;refine⟨g,?_⟩;rintro⟨i,c,q⟩;rw[δf] at q;split at q;·exact p ⟨i,c,q⟩
  ·cases q
 len:=by have:=h.len;simp;omega
 cur:=λm t l=>by
  obtain⟨g,p⟩:=h.cur m t l;have d:m<k:=by
   obtain⟨r,e,n,a,f,_⟩:=l;grind
  refine⟨?_,λn A=>?_⟩
  ·obtain⟨r,e,n,a,f,s⟩:=g;exact⟨r,e,n,a,by simp_all,s⟩
  ·rw[εv d];refine p n ?_;obtain⟨r,e,a,f,s⟩:=A;rw[εv d] at f;exact⟨r,e,a,f,s⟩
 isMap:=λm l=>by
  obtain⟨g,p⟩:=h.isMap m l;have d:m<k:=by
   obtain⟨x,y,a,f⟩:=l;grind
  refine⟨?_,by simp_all⟩;obtain⟨x,y,a,f⟩:=g;exact⟨x,y,a,by simp_all⟩
 os:=h.os;tape:=h.tape;output:=h.output
mutual
theorem bw.cj {k:Nat} (g:∀i x,k<=i->o[i]?=some x->x.mK=true):∀(c:AV) (v:Value),bw A w σ o c v->c.cj k=true
 | .ud,_,_| .sc _,_,_| .sl _ _,_,_| .ep _ _,_,_| .je _ _,_,_=>rfl
 | .agg d,v,h=>by simp only[bw] at h;obtain⟨l,_,j⟩:=h;simp only[AV.cj];exact bF.cj g d _ j;| .bJ d,v,h=>by simp only[bw] at h;obtain⟨l,_,j⟩:=h;simp only[AV.cj];exact bF.cj g d _ j;| .ptr n _ _,v,h=>by
  simp only[bw] at h;obtain⟨⟨d,e,s,m,p,_⟩,_⟩:=h;simp only[AV.cj,decide_eq_true_eq];grind[bR.mK];| .os n _ _ _,v,h=>by
  simp only[bw] at h;obtain⟨⟨d,e,s,m,p,_⟩,_⟩:=h;simp only[AV.cj,decide_eq_true_eq];grind[bR.mK];| .mp n,v,h=>by
  simp only[bw] at h;obtain⟨⟨B,z,m,p⟩,_⟩:=h;simp only[AV.cj,decide_eq_true_eq];grind[bR.mK];| .fn f a b,v,h=>by simp only[bw] at h;obtain⟨x,y,_,u,q⟩:=h;simp only[AV.cj,ζ];exact⟨bF.cj g a _ u,bF.cj g b _ q⟩
theorem bF.cj {k:Nat} (g:∀i x,k<=i->o[i]?=some x->x.mK=true):∀(d:List AV) (l:List Value),bF A w σ o d l->ei k d=true
 |[],_,_=>rfl
 |c::d,l,h=>by
  simp only[bF] at h;obtain⟨v,r,_,t,j⟩:=h;simp only[ei,ζ];exact⟨bw.cj g c v t,bF.cj g d r j⟩
end
theorem dD.cj {k i:Nat} {x:bR} (n:∀i x,k<=i->o[i]?=some x->x.mK=true) (h:dD A w σ o i x):x.cj k=true:=by
 cases x with
 |dead=>rfl;|cells t e s g=>
  simp only[dD] at h;simp only[bR.cj,δK];right;refine Nj.2 λc a=>?_;obtain⟨j,f⟩:=γI a;grind[bw.cj];|map r p g=>
  simp only[dD] at h;obtain⟨_,_,b,c,m,l,_,_,_,q⟩:=h;simp only[bR.cj,δK];right;refine Nj.2 λc a=>?_;obtain⟨e,d,rfl⟩:=List.mem_map.1 a;obtain⟨j,f⟩:=γI d;grind[bw.cj]
theorem WZ {n i:Nat} {x:bR} (h:(fS n)[i]?=some x):x= .dead:=by
 grind[fS]
theorem bV.fS (f:bV A w σ o) (n:Nat):bV A w (σ++δ n none) (o++fS n)/\Ext w σ o w (σ++δ n none) (o++fS n):=by
 have g:∀(i:Nat) (b c:Nat),(σ++δ n none)[i]?=some (some (b,c))->σ[i]?=some (some (b,c)):=by
  grind
 have v:Ext w σ o w (σ++δ n none) (o++Go.Vi.fS n):=by
  refine⟨φ _,λb _ F=>⟨rfl,λ⟨i,c,h⟩=>F ⟨i,c,g i b c h⟩⟩,by simp,λK I q=>?_,λK q=>?_,rfl,rfl,rfl⟩
  ·obtain⟨H,e,G,m,s,C⟩:=q;have a:=(θ.1 s).1;refine⟨⟨H,e,G,m,by grind,C⟩,λB D=>⟨?_,by rw[γ6 (by rw[f.len];exact a)]⟩⟩;obtain⟨p,J,u,l,t⟩:=D;rw[γ6 a] at l;exact⟨p,J,u,l,t⟩
  ·obtain⟨z,y,m,s⟩:=q;have a:=(θ.1 s).1;exact⟨⟨z,y,m,by grind⟩,by rw[γ6 (by rw[f.len];exact a)]⟩
 refine⟨⟨by simp[Go.Vi.fS,f.len],λi j b c d h E=>f.dist i j b c d (g _ _ _ h) (g _ _ _ E),λi b c h=>f.bnd i b c (g _ _ _ h),λi x k=>?_,λi b c h=>f.av i b c (g _ _ _ h),f.jV⟩,v⟩;rw[List.getElem?_append] at k;split at k
 ·rename_i a;exact(f.obj i x k).ext v (by rw[γ6 (by rw[f.len];exact a)]) λ_ _ _=>rfl
 ·rename_i a;have:=WZ k;subst this;simp only[dD];have r:=(θ.1 k).1;simp[Go.Vi.fS] at r;rw[εV (by rw[f.len];omega),List.getElem?_replicate,if_pos (by rw[f.len];omega)]
theorem W0 (f:bV A w σ o) (k:Nat):∃b,bV A w b (qP k o)/\(∀c v,bw A w σ o c v->bw A w b (qP k o) c v)/\
  ∀(e:World) (a:bY) (d:Store),d.length<=k->Ext e a d w σ o->Ext e a d w b (qP k o):=by
 unfold qP;split
 ·rename_i h;have g:∀i x,k<=i->o[i]?=some x->x.mK=true:=by
   intro i x r l;refine List.all_eq_true.1 h x (γt (i:=i - k) ?_);simp_all
  refine⟨σ.take k,f.take λx l=>?_,λc v m=>m.take (bw.cj g c v m),λe a d q p=>p.take q⟩;obtain⟨j,n⟩:=γI (γd l);exact dD.cj g (f.obj j x n)
 ·exact⟨σ,f,λ_ _ h=>h,λ_ _ _ _ h=>h⟩
end
def kP (P:Program) (f:FuncId) (args:List AV) (o:Store) (r:AV) (o':Store):Prop:=
 ∀(A:dQ) (w:World) (b:bY) (d:List Value),bV A w b o->bF A w b o args d->
  Calls P f d.toArray w λe c=>∃u a,e= .returned u/\bV A c a o'/\bw A c a o' r u/\Ext w b o c a o'
def pr (P:Program) (call:dh):Prop:=
 ∀f a o b r c,call f a o b=some (r,c)->gA P f=true/\kP P f a o r c/\(b=false->c=[])
section
variable {P:Program} {A B:dQ} {w w':World} {σ σ':bY} {o o':Store}
theorem BK {d e:Type} {f:d->Option e}:∀{l:List d} {c:List e},l.mapM f=some c->c.length=l.length/\∀(j:Nat) (a:d),l[j]?=some a->∃b,c[j]?=some b/\f a=some b
 |[],c,h=>by simp_all;|a::l,c,h=>by
  rw[εI] at h;cases g:f a with
  |none=>simp[g] at h;|some b=>
   cases i:l.mapM f with
   |none=>simp_all;|some r=>
    simp[g,i] at h;subst h;obtain⟨m,k⟩:=BK i;grind
theorem yX {f:AV->Option AV} {cs a:List AV} {vs:List Value} (h:cs.mapM f=some a) (e:bF A w σ o cs vs) (n:∀c∈cs,∀d v,f c=some d->bw A w σ o c v->bw B w σ' o' d v):bF B w σ' o' a vs:=by
 obtain⟨p,m⟩:=BK h;have q:=bF.length _ _ e;refine bF.lF _ _ (by omega) λj d k=>?_;have g:j<cs.length:=by grind
 obtain⟨v,r,i⟩:=bF.get _ _ e j _ (ν g);obtain⟨b,s,l⟩:=m j _ (ν g);grind
theorem FN [nH A B] (hS:bV A w σ o) (hB:∀b,b<w.heap.size->Fr A σ b->¬B b):∀(d:Nat) (a Q:AV) (u:Value),freeze o d a=some Q->(∀id∈fe o d a,∀b c,σ[id]?=some (some (b,c))->¬B b)->
  bw A w σ o a u->bw B w [] [] Q u:=by
 have F:∀b,b<w.heap.size->Fr A σ b->Fr B [] b:=λb z f=>⟨λ⟨i,c,E⟩=>by simp at E,hB b z f⟩;have M:∀id t,(λ_:Nat=>(none:Option Nat)) id=some t->Tr o σ [] [] id t:=λ_ _ h=>by cases h
 intro d;induction d with
 |zero=>
  intro a Q u f _ s;cases a<;>simp only[freeze,reduceCtorEq,γ] at f;·grind[bw]
  ·rename_i v;split at f
   ·injection f with f;subst f;have:=gX s;subst this;simp only[bw,dA];exact⟨none,0,rfl,φ _,rfl,trivial⟩
   grind[bw]
  ·subst f;exact bw.ren F M _ _ _ rfl s
  ·subst f;exact bw.ren F M _ _ _ rfl s;|succ d ih=>
  intro a Q u f ht s;cases a<;>simp only[freeze,reduceCtorEq,γ] at f;·grind[bw]
  ·rename_i v;split at f
   ·injection f with f;subst f;have:=gX s;subst this;simp only[bw,dA];exact⟨none,0,rfl,φ _,rfl,trivial⟩
   grind[bw]
  ·rename_i C;obtain⟨I,h1,rfl⟩:=ε.1 f;grind[bw,yX,fe]
  ·rename_i C;obtain⟨I,h1,rfl⟩:=ε.1 f;grind[bw,yX,fe]
  ·subst f;exact bw.ren F M _ _ _ rfl s
  ·
   rename_i id q r a3;split at f
   ·rename_i C e R pu T;split at f
    ·rename_i y;obtain⟨D,P⟩:=y;simp only[bw] at s;obtain⟨a5,X,O,rfl,J,G⟩:=s;have Z:=G R ⟨C,e,pu,T,D⟩;have L:=hS.obj id _ T;simp only[dD] at L;obtain⟨q1,q2,q3⟩:=L;have k:∀(j:Nat) (c:AV),((C.drop q).take (r*R))[j]?=some c->∃(p:Addr) (v:Value),X=some p/\¬B p.block/\w.cell? (p.add j)=some v/\bw A w σ o c v:=by
      intro j c n;rw[δf] at n;split at n
      ·rename_i S;rw[δR] at n;have a1:0<r:=by
        grind
       unfold kA at Z;split at Z;·omega
       ·rename_i b c2 K;rcases q3 with⟨h0,_⟩|⟨b',a0,a4,U,_,r3,_,_,r6⟩;·simp_all
        ·rw[K] at U;simp only[γ,μ] at U;obtain⟨rfl,rfl⟩:=U;obtain⟨v,hv,m⟩:=r6 _ c n;refine⟨⟨b,q,none⟩,v,(by grind[po]),ht id (by simp[fe]) b c2 K,?_,m⟩;grind[FG,World.cell?]
       simp_all
      ·cases n
     split at f
     ·rename_i N;injection f with f;subst f;have g:dr ((C.drop q).take (r*R))=true:=s8 λc n=>qg (q1 N) c (γO (γd n));simp only[bw];refine⟨X,O,rfl,J,g,dA.lF _ _ _ λj c n=>?_⟩;obtain⟨p,v,V,x,l,m⟩:=k j c n;exact⟨p,v,V,⟨λ⟨i,c,E⟩=>by simp at E,x⟩,by simpa using l,bw.ren F M c v c (AV.uR _ c (qg g c (γt n))) m⟩
     ·rename_i N;split at f
      ·rename_i I H;split at f
       ·rename_i g;injection f with f;subst f;obtain⟨m1,m2⟩:=BK H;simp only[bw];refine⟨X,O,rfl,J,g,dA.lF _ _ _ λj c' W=>?_⟩;have S:j<((C.drop q).take (r*R)).length:=by grind
        obtain⟨p,v,V,x,l,m⟩:=k j _ (ν S);obtain⟨b,z,Y⟩:=m2 j _ (ν S);rw[W] at z;injection z with z;subst z;refine⟨p,v,V,⟨λ⟨i,c,E⟩=>by simp at E,x⟩,by simpa using l,ih _ _ v Y (λt a2=>ht t ?_) m⟩;simp only[fe,T,γC];grind
       ·cases f
      ·cases f
    ·cases f
   ·cases f
  ·grind[bw,nH.eq,yX,fe]
  ·subst f;exact bw.ren F M _ _ _ rfl s
theorem bV.far (f:bV A w σ o) (e:Ext w [] [] w' σ' o'):bV A w' σ o/\Ext w σ o w' σ o:=by
 have a:∀b,b<w.heap.size->w'.heap[b]?=w.heap[b]?:=λb d=>(e.blk b d λ⟨i,c,l⟩=>by simp at l).1;have g:Ext w σ o w' σ o:=⟨e.size,λb d k=>⟨a b d,k⟩,φ _,λ_ _ h=>⟨h,λ_ h=>⟨h,rfl⟩⟩,λ_ h=>⟨h,rfl⟩,e.os,e.tape,e.output⟩;exact⟨⟨f.len,f.dist,λi b c h=>γo (f.bnd i b c h) e.size,λi x j=>(f.obj i x j).ext g rfl λb c d=>a b (f.bnd i b c d),f.av,λb d=>γo (f.jV b d) e.size⟩,g⟩
mutual
theorem Nn:∀(r:AV) (u:Value),r.kO=true->bw A w σ o r u->bw B w' σ' o' r u
 | .ud,_,_,_=>by simp[bw];| .sc v,u,_,h=>by grind[bw];| .agg b,u,a,h=>by
  simp only[AV.kO] at a;simp only[bw] at h ⊢;obtain⟨d,rfl,e⟩:=h;exact⟨d,rfl,FO b _ a e⟩;| .bJ b,u,a,h=>by
  simp only[AV.kO] at a;simp only[bw] at h ⊢;obtain⟨d,rfl,e⟩:=h;exact⟨d,rfl,FO b _ a e⟩;| .sl n b,u,a,h=>by
  grind[AV.kO,bw,dA];| .ep _ _,_,a,_| .ptr _ _ _,_,a,_| .os _ _ _ _,_,a,_| .mp _,_,a,_| .fn _ _ _,_,a,_| .je _ _,_,a,_=>by simp[AV.kO] at a
theorem FO:∀(b:List AV) (d:List Value),uI b=true->bF A w σ o b d->bF B w' σ' o' b d
 |[],d,_,h=>by grind[bF];|c::b,d,a,h=>by
  simp only[uI,ζ] at a;simp only[bF] at h ⊢;obtain⟨v,r,rfl,f,e⟩:=h;exact⟨v,r,rfl,Nn c v a.1 f,FO b r a.2 e⟩
end
theorem BL (w:World) (a:∀b,A b->b<w.heap.size):bV A w [] []:=⟨rfl,by simp,by simp,by simp,by simp,a⟩
theorem W1 {call:dh} (q:pr P call) (n:bV A w σ o) {f:FuncId} {args a:List AV} {vs:List Value} (N:bF A w σ o args vs) (K:args.mapM (freeze o 6)=some a) {r:AV}
  (X:call f a [] false=some (r,[])) (y:(args.flatMap (fe o 6)).isEmpty=true\/r.kO=true):
  gA P f=true/\Calls P f vs.toArray w λe w'=>∃u g,e= .returned u/\bV A w' g o/\bw A w' g o r u/\Ext w σ o w' g o:=by
 obtain⟨S,C,_⟩:=q _ _ _ _ _ _ X;refine⟨S,?_⟩;rcases y with y|y;·
  let B:dQ:=⟨λb=>A b\/Own σ b,A.l⟩;have Q:∀b,B b->b<w.heap.size:=λb z=>Or.elim (show A b\/Own σ b from z) (n.jV b) λ⟨i,c,V⟩=>n.bnd i b c V;haveI:nH A B:=⟨rfl⟩;haveI:nH B A:=⟨rfl⟩;have j:bF B w [] [] a vs:=yX K N λc E J v s t=>FN n (λb _ d z=>Or.elim (show A b\/Own σ b from z) d.2 d.1) 6 c J v s (λI U=>by
   simp_all) t;refine(C B w [] vs (BL w Q) j).mono ?_;rintro e w' ⟨u,g,rfl,F,p,G⟩;obtain⟨M,L⟩:=n.far G;refine⟨u,σ,rfl,M,?_,L⟩;have D:r.cj 0=true:=bw.cj (k:=0) (λi x _ W=>by simp at W) r u p;refine bw.ren (m:=qh 0) (λb z d=>⟨λR=>d.2 (show A b\/Own σ b from .inr R),λT=>d.2 (show A b\/Own σ b from .inl T)⟩) (λI O h=>by grind[qh]) r u r (BJ 0 r D) p
 ·have j:bF A w [] [] a vs:=yX K N λc E J v s t=>FN n (λb _ d z=>d.2 z) 6 c J v s (λI _ b Y H=>n.av I b Y H) t;refine(C A w [] vs (BL w n.jV) j).mono ?_;rintro e w' ⟨u,g,rfl,F,p,G⟩;obtain⟨M,L⟩:=n.far G;grind[Nn]
end
section
variable {A:dQ} {w:World} {σ:bY} {o:Store}
def jv (o:Store) (p:Nat->Bool) (i:Nat):Bool:=p i&&(match o[i]? with|some (.cells _ _ _ true)=>true|_=>false)
def lH (o:Store) (p:Nat->Bool) (σ:bY):bY:=(ψ σ.length).map λi=>if jv o p i then none else(σ[i]?).getD none
theorem FP (o:Store) (p:Nat->Bool) (σ:bY):(lH o p σ).length=σ.length:=by simp[lH]
theorem FQ {o:Store} {p:Nat->Bool} {σ:bY} {i:Nat} (a:i<σ.length):(lH o p σ)[i]?=some (if jv o p i then none else(σ[i]?).getD none):=by
 simp[lH,a]
theorem uS {o:Store} {p:Nat->Bool} {σ:bY} {i:Nat} {s:Nat×Nat} (h:(lH o p σ)[i]?=some (some s)):σ[i]?=some (some s)/\jv o p i=false:=by
 have a:i<σ.length:=by grind[FP]
 simp_all[FQ]
theorem Np {o:Store} {p:Nat->Bool} {σ:bY} {i:Nat} (h:jv o p i=false):(lH o p σ)[i]?=σ[i]?:=by
 grind[FQ,FP]
def FT (p:Nat->Bool) (i:Nat):bR->bR
 | .cells b e a true=>if p i then .dead else .cells b e a true
 |x=>x
theorem BM (p:Nat->Bool):∀(o:Store) (k i:Nat),(fA p k o)[i]?=(o[i]?).map (FT p (k+i))
 |[],k,i=>by simp[fA];|x::r,k,i=>by
  simp only[fA];cases i with
  |zero=>simp only[List.getElem?_cons_zero,γl,Nat.add_zero];congr 1;|succ i=>simp only[γz];rw[BM p r (k+1) i,show k+1+i=k+(i+1) from by omega]
theorem Nq {p:Nat->Bool} {a:Store}:∀{o o':Store},ju a p o=some o'->o'.length=o.length/\∀(i:Nat) (x:bR),o[i]?=some x->∃y,x.bU a p=some y/\o'[i]?=some y
 |[],o',h=>by grind[ju];|x::r,o',h=>by
  simp only[ju] at h;split at h
  ·rename_i y l e b;injection h with h;subst h;obtain⟨d,c⟩:=Nq b;grind
  ·cases h
theorem FU {o:Store} {p:Nat->Bool}:∀{cs a:List AV},gW o p cs=some a->a.length=cs.length/\∀(j:Nat) (b:AV),a[j]?=some b->∃c,cs[j]?=some c/\c.bU o p=some b
 |[],a,h=>by grind[gW];|c::cs,a,h=>by
  simp only[gW] at h;split at h
  ·rename_i k e f d;injection h with h;subst h;obtain⟨i,g⟩:=FU d;grind
  ·cases h
theorem Nr {o:Store} {p:Nat->Bool}:∀{es a:List (Value×AV)},qd o p es=some a->a.length=es.length/\∀(j:Nat) (b:Value×AV),a[j]?=some b->∃e,es[j]?=some e/\e.1=b.1/\e.2.bU o p=some b.2
 |[],a,h=>by grind[qd];|e::es,a,h=>by
  simp only[qd] at h;split at h
  ·rename_i v d f c;injection h with h;subst h;obtain⟨g,i⟩:=Nr c;grind
  ·cases h
theorem Ns {o:Store} {p:Nat->Bool}:∀{env a:js},uK o p env=some a->∀s,(dL env s).bU o p=some (dL a s)
 |[],a,h,s=>by simp only[uK,γ] at h;subst h;rfl;|(k,v)::r,a,h,s=>by
  simp only[uK] at h;split at h
  ·rename_i e d b c;injection h with h;subst h;simp only[dL];cases f:Nat.beq k s with
   |true=>exact b;|false=>exact Ns c s
  ·cases h
mutual
theorem AV.Nu (o:Store) (p:Nat->Bool):∀(c:AV),c.pure=true->c.bU o p=some c
 | .sc _,_=>rfl
 | .sl _ _,_=>rfl
 | .ud,h| .agg _,h| .bJ _,h| .ep _ _,h| .ptr _ _ _,h| .os _ _ _ _,h| .mp _,h| .fn _ _ _,h| .je _ _,h=>by simp[AV.pure] at h
end
theorem W3 {o:Store} {p:Nat->Bool} {c a:AV} (h:c.bU o p=some a) (b:c.one=true):a.one=true:=by
 cases c<;>simp only[AV.one,χ] at b<;>simp only[AV.bU] at h<;>grind[AV.one,AV.bU]
structure tc (o:Store) (p:Nat->Bool) (o2:Store):Prop where
 len:o2.length=o.length
 get:∀i x,o[i]?=some x->(jv o p i=true/\o2[i]?=some .dead)\/(jv o p i=false/\∃y,x.bU o p=some y/\o2[i]?=some y)
theorem Nv {o a:Store} {p:Nat->Bool} (h:ju o p o=some a):tc o p (fA p 0 a):=by
 obtain⟨k,l⟩:=Nq h;have n:(fA p 0 a).length=o.length:=by
  rw[<-k];apply Nat.le_antisymm
  ·rcases εY a.length (fA p 0 a).length with h|h
   ·exfalso;have:=BM p a 0 a.length;simp_all
   ·exact h
  ·rcases εY (fA p 0 a).length a.length with h|h
   ·exfalso;have:=BM p a 0 (fA p 0 a).length;simp_all
   ·exact h
 refine⟨n,λi x j=>?_⟩;obtain⟨y,b,f⟩:=l i x j;have d:=BM p a 0 i;rw[f,Nat.zero_add] at d;simp only[γl] at d;unfold jv;rw[j];cases x with
 |cells s e q g=>
  cases g with
  |true=>
   simp only[bR.bU,if_true,γ] at b;grind[FT];|false=>
   right;simp only[bR.bU,χ,if_false,ε] at b;grind[FT]
 |dead=>
  simp only[bR.bU,γ] at b;subst b;right;exact⟨by simp,_,rfl,d⟩;|map r m g=>
  right;have:∃c,y= .map c m g:=by
   simp only[bR.bU] at b;split at b;·grind
   ·obtain⟨c,_,rfl⟩:=ε.1 b;simp_all
  obtain⟨c,rfl⟩:=this;exact⟨by simp,_,b,d⟩
theorem tc.tr {o2:Store} {p:Nat->Bool} (h:tc o p o2) {id:Nat} (m:jv o p id=false):Tr o σ o2 (lH o p σ) id id:=by
 refine⟨λn e q d c=>?_,λ⟨l,g,d,c⟩=>?_,Np m⟩
 ·rcases h.get id _ c with⟨i,_⟩|⟨_,y,a,b⟩;·simp_all
  ·simp only[bR.bU] at a;split at a;·grind
   ·obtain⟨k,j,rfl⟩:=ε.1 a;grind[FU]
 ·rcases h.get id _ c with⟨i,_⟩|⟨_,y,a,b⟩;·simp_all
  ·simp only[bR.bU] at a;split at a;·injection a with a;subst a;exact⟨l,g,d,b⟩
   ·obtain⟨f,j,rfl⟩:=ε.1 a;exact⟨f,g,d,b⟩
theorem uT {p:Nat->Bool} {b:Nat} (h:Fr A σ b):Fr A (lH o p σ) b:=⟨λ⟨i,c,a⟩=>h.1 ⟨i,c,(uS a).1⟩,h.2⟩
mutual
theorem bw.bU (E:bV A w σ o) {p:Nat->Bool} {o2:Store} (D:tc o p o2):∀(c:AV) (v:Value) (q:AV),c.bU o p=some q->bw A w σ o c v->bw A w (lH o p σ) o2 q v
 | .ud,v,q,d,_=>by grind[AV.bU,bw];| .sc u,v,q,d,h=>by grind[AV.bU,bw];| .sl n s,v,q,d,h=>by
  simp only[AV.bU,γ] at d;subst d;exact bw.ren (m:=λ_=>none) (λb _ z=>uT z) (λ_ _ h=>by cases h) _ _ _ rfl h;| .ep s B,v,q,d,h=>by
  simp only[AV.bU,γ] at d;subst d;exact bw.ren (m:=λ_=>none) (λb _ z=>uT z) (λ_ _ h=>by cases h) _ _ _ rfl h;| .agg s,v,q,d,h=>by
  simp only[AV.bU,ε] at d;obtain⟨k,K,rfl⟩:=d;simp only[bw] at h ⊢;obtain⟨F,rfl,Q⟩:=h;exact⟨F,rfl,bF.bU E D s _ k K Q⟩;| .bJ s,v,q,d,h=>by
  simp only[AV.bU,ε] at d;obtain⟨k,K,rfl⟩:=d;simp only[bw] at h ⊢;obtain⟨F,rfl,Q⟩:=h;exact⟨F,rfl,bF.bU E D s _ k K Q⟩;| .ptr l B G,v,q,d,h=>by
  have H:jv o p l=false/\q= .ptr l B G:=by
   grind[jv,AV.bU]
  obtain⟨H,rfl⟩:=H;exact bw.ren (m:=λi=>if i=l then some l else none) (λb _ z=>uT z) (λi j g=>by
   split at g;·rename_i M;injection g with g;subst M;subst g;exact D.tr H
   ·cases g) _ _ _ (by simp[δz]) h;| .mp l,v,q,d,h=>by
  simp only[AV.bU,γ] at d;subst d;have H:jv o p l=false:=by
   simp only[bw] at h;obtain⟨⟨es,kt,pu,S⟩,_⟩:=h;simp[jv,S]
  exact bw.ren (m:=λi=>if i=l then some l else none) (λb _ z=>uT z) (λi j g=>by
   split at g;·rename_i M;injection g with g;subst M;subst g;exact D.tr H
   ·cases g) _ _ _ (by simp[δz]) h;| .fn f a b,v,q,d,h=>by
  simp only[AV.bU] at d;split at d
  ·rename_i a' b' K h2;injection d with d;subst d;simp only[bw] at h ⊢;obtain⟨x,y,rfl,hx,hy⟩:=h;exact⟨x,y,rfl,bF.bU E D a _ a' K hx,bF.bU E D b _ b' h2 hy⟩
  ·cases d;| .je t s,v,q,d,h=>by
  simp only[AV.bU,γ] at d;subst d;exact bw.ren (m:=λ_=>none) (λb _ z=>uT z) (λ_ _ h=>by cases h) _ _ _ rfl h;| .os l B L G,v,q,d,h=>by
  have a3:jv o p l=false->q= .os l B L G->bw A w (lH o p σ) o2 q v:=by
   rintro H rfl;exact bw.ren (m:=λi=>if i=l then some l else none) (λb _ z=>uT z) (λi j g=>by
    split at g;·rename_i M;injection g with g;subst M;subst g;exact D.tr H
    ·cases g) _ _ _ (by simp[δz]) h
  simp only[AV.bU] at d;split at d
  ·rename_i hp;split at d
   ·rename_i s e sz pu S;split at d
    ·rename_i V;subst V;split at d
     ·rename_i J;injection d with d;subst d;obtain⟨N,R⟩:=J;have a4:jv o p l=true:=by grind[jv]
      simp only[bw] at h;obtain⟨a6,X,Y,rfl,W,O⟩:=h;have hk:=O sz ⟨s,e,true,S,N⟩;have P:=E.obj l _ S;simp only[dD] at P;obtain⟨q1,q2,q3⟩:=P;have C:dr ((s.drop B).take (L*sz))=true:=s8 λc d=>qg (q1 trivial) c (γO (γd d));simp only[bw];refine⟨X,Y,rfl,W,C,dA.lF _ _ _ λj c d=>?_⟩;have a0:=qg C c (γt d);rw[δf] at d;split at d
      ·rename_i hj;rw[δR] at d;have a2:0<L:=by
        grind
       unfold kA at hk;split at hk;·omega
       ·rename_i b c2 I;rcases q3 with⟨M,_⟩|⟨b',a1,a5,T,_,r3,_,_,r6⟩;·simp_all
        ·rw[I] at T;simp only[γ,μ] at T;obtain⟨rfl,rfl⟩:=T;obtain⟨u,hu,U⟩:=r6 _ c d;refine⟨⟨b,B,none⟩,u,(by grind[po]),⟨?_,E.av l b c2 I⟩,?_,?_⟩
         ·rintro⟨i,c3,hi⟩;obtain⟨k1,k2⟩:=uS hi;have:=E.dist l i b c2 c3 I k1;simp_all
         ·grind[FG,World.cell?]
         ·exact bw.ren (m:=λ_=>none) (λb _ z=>uT z) (λ_ _ h=>by cases h) c u c (AV.uR _ c a0) U
       simp_all
      ·cases d
     ·cases d
    grind[jv]
   grind[jv]
  grind[jv]
theorem bF.bU (E:bV A w σ o) {p:Nat->Bool} {o2:Store} (D:tc o p o2):∀(s:List AV) (F:List Value) (k:List AV),gW o p s=some k->bF A w σ o s F->bF A w (lH o p σ) o2 k F
 |[],F,k,d,h=>by grind[gW,bF];|c::s,F,k,d,h=>by
  simp only[gW] at d;split at d
  ·rename_i c1 Z K h2;injection d with d;subst d;simp only[bF] at h ⊢;obtain⟨v,r,rfl,hv,Q⟩:=h;exact⟨v,r,rfl,bw.bU E D c v c1 K hv,bF.bU E D s r Z h2 Q⟩
  ·cases d
end
end
section
variable {A:dQ} {w:World} {σ:bY} {o:Store}
theorem dD.bU (D:bV A w σ o) {p:Nat->Bool} {o2:Store} (J:tc o p o2) {i:Nat} {x y:bR} (V:o[i]?=some x) (hd:jv o p i=false) (f:x.bU o p=some y):dD A w (lH o p σ) o2 i y:=by
 have h:=D.obj i x V;have C:=Np (σ:=σ) hd;cases x with
 |dead=>grind[bR.bU,dD];|cells t e sz H=>
  simp only[dD] at h;obtain⟨s,B,z⟩:=h;have n:∀a,a.length=t.length->(H=true->dr a=true)->eJ a=true->(∀(j:Nat) (g:AV) (v:Value),a[j]?=some g->(∀c,t[j]?=some c->bw A w σ o c v->bw A w (lH o p σ) o2 g v))->dD A w (lH o p σ) o2 i (.cells a e sz H):=by
   intro a k1 O U Q;simp only[dD];refine⟨O,U,?_⟩;rcases z with⟨h0,N⟩|⟨b,F,G,r1,P,R,S,r5,r6⟩;·simp_all
   ·refine .inr ⟨b,F,G,by simp_all,P,R,S,by omega,λj g k=>?_⟩;have r:j<t.length:=by grind
    obtain⟨v,X,u⟩:=r6 j _ (ν r);exact⟨v,X,Q j g v k _ (ν r) u⟩
  simp only[bR.bU] at f;split at f
  ·rename_i d;injection f with f;subst f;refine n t rfl s B λj g v k c m u=>?_;rw[k] at m;injection m with m;subst m;exact bw.bU D J g v g (AV.Nu o p g (qg (s d) g (γt k))) u
  ·rename_i d;obtain⟨a,l,rfl⟩:=ε.1 f;obtain⟨I,g2⟩:=FU l;refine n a I (λE=>absurd E d) (mN.2 λc m=>?_) λj g v k c m u=>?_
   ·obtain⟨j,k⟩:=γI m;grind[W3,mN]
   grind[bw.bU];|map es kt H=>
  simp only[dD] at h;obtain⟨s,B,b,c,K,M,z,L,h5,Y⟩:=h;simp only[bR.bU] at f;split at f
  ·rename_i d;injection f with f;subst f;simp only[dD];refine⟨s,B,b,c,K,M,by simp_all,L,h5,λj e q=>?_⟩;obtain⟨W,Z,q2,T⟩:=Y j e q;exact⟨W,Z,q2,bw.bU D J e.2 _ e.2 (AV.Nu o p e.2 (s d e (γt q))) T⟩
  ·rename_i d;obtain⟨a0,l,rfl⟩:=ε.1 f;obtain⟨I,g2⟩:=Nr l;simp only[dD];refine⟨λE=>absurd E d,λe q=>?_,b,c,K,M,by rw[C];exact z,L,by omega,λj e' q=>?_⟩
   ·obtain⟨j,k⟩:=γI q;grind
   grind[bw.bU]
theorem bV.bU (e:bV A w σ o) {p:Nat->Bool} {o2:Store} (g:tc o p o2):bV A w (lH o p σ) o2:=by
 refine⟨by rw[FP,g.len,e.len],λi j b c d a m=>e.dist i j b c d (uS a).1 (uS m).1,λi b c a=>e.bnd i b c (uS a).1,λi y h=>?_,λi b c a=>e.av i b c (uS a).1,e.jV⟩;have a:i<o.length:=by have:=(θ.1 h).1;rw[g.len] at this;exact this
 have l:=ν a;rcases g.get i _ l with⟨k,f⟩|⟨k,z,f,n⟩
 ·rw[h] at f;injection f with f;subst f;simp only[dD];rw[FQ (by rw[e.len];exact a),k];rfl
 grind[dD.bU]
theorem Ext.bU {t:World} {k:bY} {h:Store} (a:Ext t k h w σ o) {p:Nat->Bool} {o2:Store} (m:tc o p o2) (B:∀i,i<h.length->p i=false):Ext t k h w (lH o p σ) o2 where
 size:=a.size;blk:=λb u y=>by
  obtain⟨g,j⟩:=a.blk b u y;exact⟨g,λ⟨i,c,z⟩=>j ⟨i,c,(uS z).1⟩⟩
 len:=by rw[m.len];exact a.len
 cur:=λd q l=>by
  obtain⟨g,j⟩:=a.cur d q l;have r:d<h.length:=by obtain⟨D,e,s,A,x,_⟩:=l;grind
  have n:jv o p d=false:=by grind[jv]
  have f:=m.tr (σ:=σ) n;refine⟨f.wR g,λs v=>?_⟩;rw[f.2.2];exact j s (f.cur g v)
 isMap:=λd l=>by
  obtain⟨g,j⟩:=a.isMap d l;have r:d<h.length:=by obtain⟨C,E,A,x⟩:=l;grind
  have n:jv o p d=false:=by grind[jv]
  have f:=m.tr (σ:=σ) n;exact⟨f.2.1 g,by rw[f.2.2];exact j⟩
 os:=a.os;tape:=a.tape;output:=a.output
end
def qj (o:Store) (d:Nat) (id:Nat) (acc:List Nat):List Nat:=
 if acc.contains id then acc else
 match o[id]? with
 |some (.cells b _ _ a)=>if a then acc++[id] else cT o d b (acc++[id])
 |some (.map c _ a)=>if a then acc++[id] else cT o d (c.map (·.2)) (acc++[id])
 |_=>acc++[id]
def uU (o:Store) (d:Nat) (v:AV) (acc:List Nat):List Nat:=
 match v with
 | .agg e| .bJ e=>cT o d e acc
 | .ptr c _ _| .os c _ _ _| .mp c=>qj o d c acc
 | .fn _ a b=>cT o d b (cT o d a acc)
 |_=>acc
theorem yY (o:Store) (d:Nat) (v:AV) (vs:List AV) (acc:List Nat):cT o (d+1) (v::vs) acc=cT o d vs (uU o d v acc):=by
 cases v<;>rfl
theorem yZ:∀(a:List Nat) (o X:Store),(lB o a X).length=o.length
 |[],o,X=>by cases X<;>rfl;|i::r,o,[]=>rfl
 |i::r,o,x::l=>by simp only[lB];rw[yZ r];simp
theorem BN:∀(a:List Nat) (o X:Store) (j:Nat),j∉a->(lB o a X)[j]?=o[j]?
 |[],o,X,j,_=>by cases X<;>rfl;|i::r,o,[],j,_=>rfl
 |i::r,o,x::l,j,h=>by
  simp only[γC,not_or] at h;simp only[lB];rw[BN r _ l j h.2,List.getElem?_set_ne (Ne.symm h.1)]
theorem FV {m:Nat->Option Nat}:∀{o o':Store},rP m o=some o'->o'.length=o.length
 |[],o',h=>by grind[rP];|x::r,o',h=>by
  simp only[rP] at h;split at h;·rename_i y l b a;injection h with h;subst h;simp[FV a]
  ·cases h
theorem td (o:Store):∀(d:Nat) (vs:List AV) (acc:List Nat),∃t,cT o d vs acc=acc++t
 |0,vs,acc=>⟨[],by grind[cT]⟩
 |d+1,[],acc=>⟨[],by simp[cT]⟩
 |d+1,v::vs,acc=>by
  rw[yY];have e:∀c,∃t,qj o d c acc=acc++t:=by
   intro c;unfold qj;split;·simp_all
   ·split
    ·split;·simp_all
     ·obtain⟨t,h⟩:=td o d ‹_› (acc++[c]);simp_all
    ·split;·simp_all
     ·rename_i m _ _ _ _;obtain⟨t,h⟩:=td o d (m.map (·.2)) (acc++[c]);simp_all
    simp_all
  have j:∃t,uU o d v acc=acc++t:=by
   cases v with
   |agg g=>exact td o d g acc;|bJ g=>exact td o d g acc;|ptr c _ _=>exact e c;|os c _ _ _=>exact e c;|mp c=>exact e c;|fn f a b=>
    obtain⟨i,n⟩:=td o d a acc;obtain⟨l,p⟩:=td o d b (acc++i);grind[uU];|_=>exact⟨[],by simp[uU]⟩
  obtain⟨t,h⟩:=j;obtain⟨l,k⟩:=td o d vs (acc++t);simp_all
theorem wT:∀{b:List Nat} {i k j:Nat},idxOf b i k=some j->k<=j/\b[j - k]?=some i
 |[],i,k,j,h=>by grind[idxOf];|a::r,i,k,j,h=>by
  simp only[idxOf] at h;split at h;·simp_all
  ·obtain⟨d,c⟩:=wT h;grind
theorem BO:∀{l:List Nat},iI.pd l=true->l.Nodup
 |[],_=>List.nodup_nil
 |a::r,h=>by
  simp only[iI.pd,ζ,γ5,List.contains_eq_mem,decide_eq_false_iff_not] at h;exact γU.2 ⟨h.1,BO h.2⟩
theorem wU {o:Store} {b:List Nat}:∀{r:List Nat} {s:Store},kN o b r=some s->s.length=r.length/\∀(j i:Nat),r[j]?=some i->∃x y,o[i]?=some x/\x.ren (λj=>idxOf b j)=some y/\s[j]?=some y
 |[],s,h=>by grind[kN];|a::r,s,h=>by
  simp only[kN] at h;split at h
  ·rename_i x l f c;obtain⟨y,d,rfl⟩:=ε.1 h;obtain⟨g,e⟩:=wU c;grind
  ·cases h
theorem BP {m:Nat->Option Nat}:∀{o o':Store},rP m o=some o'->∀(i:Nat) (x:bR),o[i]?=some x->∃y,x.ren m=some y/\o'[i]?=some y
 |[],o',h,i,x,b=>by simp at b;|a::r,o',h,i,x,b=>by
  simp only[rP] at h;split at h
  ·rename_i y l f c;injection h with h;subst h;cases i with
   |zero=>simp_all;|succ i=>obtain⟨z,e,d⟩:=BP c i x (by simp_all);simp_all
  ·cases h
theorem Nw {m:Nat->Option Nat} {cs:List AV} {e:TypeId} {sz:Nat} {pu:Bool} {y:bR} (h:(bR.cells cs e sz pu).ren m=some y):∃a,y= .cells a e sz pu/\a.length=cs.length:=by
 simp only[bR.ren] at h;split at h;·grind
 ·obtain⟨a,b,rfl⟩:=ε.1 h;grind[FM]
theorem Nx {m:Nat->Option Nat} {es:List (Value×AV)} {b:List Nat×Bool} {pu:Bool} {y:bR} (h:(bR.map es b pu).ren m=some y):∃a,y= .map a b pu:=by
 simp only[bR.ren] at h;split at h;·grind
 ·obtain⟨a,c,rfl⟩:=ε.1 h;simp_all
def lI (σ:bY) (a:List Nat):bY:=a.map λi=>(σ[i]?).getD none
section
variable {A A':dQ} {w:World} {σ:bY} {o s:Store} {ids:List Nat}
theorem qZ {j:Nat} {t:Nat×Nat} (h:(lI σ ids)[j]?=some (some t)):∃i,ids[j]?=some i/\σ[i]?=some (some t):=by
 grind[lI]
theorem FW (a:σ.length=o.length) (b:kN o ids ids=some s) {j i:Nat} (c:ids[j]?=some i):(lI σ ids)[j]?=σ[i]?:=by
 obtain⟨_,d⟩:=wU b;grind[lI]
theorem uV (c:σ.length=o.length) (i:kN o ids ids=some s) {id a:Nat} (h:idxOf ids id=some a):Tr o σ s (lI σ ids) id a:=by
 obtain⟨_,f⟩:=wT h;simp only[εJ] at f;obtain⟨_,n⟩:=wU i;obtain⟨x,y,m,l,d⟩:=n a id f;refine⟨λr e q j b=>?_,λ⟨p,k,j,b⟩=>?_,FW c i f⟩;·grind[Nw]
 ·rw[m] at b;injection b with b;subst b;obtain⟨g,rfl⟩:=Nx l;exact⟨g,k,j,d⟩
theorem bV.sub [nH A A'] (f:bV A w σ o) (u:ids.Nodup) (n:kN o ids ids=some s) (E:∀b,b<w.heap.size->Fr A σ b->Fr A' (lI σ ids) b)
  (D:∀i∈ids,∀b c,σ[i]?=some (some (b,c))->¬A' b) (g:∀b,A' b->b<w.heap.size):bV A' w (lI σ ids) s:=by
 obtain⟨F,B⟩:=wU n;refine⟨by grind[lI],λi j b c d m l=>?_,λi b c m=>?_,λj y C=>?_,λi b c m=>?_,g⟩
 ·obtain⟨x,k,e⟩:=qZ m;obtain⟨z,t,p⟩:=qZ l;have:=f.dist x z b c d e p;subst this;exact(ε9 (θ.1 k).1 u).1 (k.trans t.symm)
 ·obtain⟨x,k,e⟩:=qZ m;exact f.bnd x b c e
 ·have q:j<ids.length:=by grind
  have l:=ν q;obtain⟨x,H,k,r,a⟩:=B j _ l;rw[C] at a;injection a with a;subst a;exact dD.ren E (λG v h=>uV f.len n h) r (FW f.len n l) (f.obj _ x k)
 grind[qZ]
theorem W4 {o':Store} {U:World} {H:bY} {p:Store} (Z:bV A w σ o) (hE:Ext U H p w σ o) {V r:AV} {u:Value} (hr:bw A w σ o V u) (g:lC p.length V o=some (r,o')):
  ∃F,bV A w F o'/\bw A w F o' r u/\Ext U H p w F o':=by
 unfold lC at g;split at g
 ·rename_i Y o1 S O;have N:=Nv O;have f:=Z.bU N;have d:=hE.bU N (λi z=>by simp_all);have C:=bw.bU Z N _ _ _ S hr;simp only at g;generalize fA (λi=>decide (p.length<=i)) 0 o1=M at g N f d C;generalize lH o (λi=>decide (p.length<=i)) σ=D at f d C;obtain⟨t,ht⟩:=td M fz (Y::(M.take p.length).flatMap lC.bR.yR) (ψ p.length);generalize cT M fz (Y::(M.take p.length).flatMap lC.bR.yR) (ψ p.length)=n at g ht;split at g
  ·rename_i L;split at g
   ·rename_i r2 s2 Q s;simp only[γ,μ] at g;obtain⟨rfl,rfl⟩:=g;have J:∀b,b<w.heap.size->Fr A D b->Fr A (lI D n) b:=λb _ g=>⟨λ⟨i,c,z⟩=>by
     obtain⟨x,hx,B⟩:=qZ z;exact g.1 ⟨x,c,B⟩,g.2⟩;have K:∀i,i<p.length->n[i]?=some i:=by
     grind
    have y:∀i,i<p.length->idxOf n i=some i:=by
     intro i z;have T:i∈n:=γt (K i z);have:∃j,idxOf n i=some j:=by
      have a0:∀(l:List Nat) (k:Nat),i∈l->∃j,idxOf l i k=some j:=by
       intro l;induction l with
       |nil=>simp_all;|cons a l ih=>
        intro k h;simp only[idxOf];split;·simp_all
        ·rename_i P;refine ih (k+1) ((γC.1 h).resolve_left λq=>P (by simp[q]))
      simp_all
     obtain⟨j,W⟩:=this;obtain⟨_,q⟩:=wT W;simp only[εJ] at q;have:=(ε9 (θ.1 q).1 (BO L)).1 (q.trans (K i z).symm);rw[W,this]
    refine⟨lI D n,f.sub (BO L) s J (λi _ b c h=>f.av i b c h) f.jV,bw.ren J (λv a1 h=>uV f.len s h) _ _ _ Q C,d.size,λb hb hn=>?_,?_,λv R I=>?_,λv I=>?_,d.os,d.tape,d.output⟩
    ·obtain⟨G,q⟩:=d.blk b hb hn;refine⟨G,λ⟨i,c,z⟩=>?_⟩;obtain⟨x,hx,B⟩:=qZ z;exact q ⟨x,c,B⟩
    ·grind[wU]
    ·obtain⟨G,q⟩:=d.cur v R I;have E:v<p.length:=by obtain⟨cs,e,X,pu,ho,_⟩:=I;grind
     have m:=uV f.len s (y v E);refine⟨m.wR G,λX hc=>?_⟩;rw[m.2.2];exact q X (m.cur G hc)
    ·obtain⟨G,q⟩:=d.isMap v I;have E:v<p.length:=by obtain⟨es,kt,pu,ho⟩:=I;grind
     have m:=uV f.len s (y v E);exact⟨m.2.1 G,by rw[m.2.2];exact q⟩
   ·cases g
  ·cases g
 ·cases g
end
theorem Ny:∀(b:List Nat) (o X:Store) (j i:Nat) (x:bR),b.Nodup->b[j]?=some i->i<o.length->X[j]?=some x->(lB o b X)[i]?=some x
 |[],o,X,j,i,x,_,c,_,_=>by simp at c;|a::r,o,[],j,i,x,_,_,_,d=>by simp at d;|a::r,o,y::l,j,i,x,e,c,f,d=>by
  rw[γU] at e;simp only[lB];cases j with
  |zero=>
   grind[BN];|succ j=>
   simp only[γz] at c d;exact Ny r _ l j i x e.2 c (by simp_all) d
theorem FX {i:Nat}:∀{l:List Nat} {k:Nat},i∈l->∃j,idxOf l i k=some j
 |[],k,h=>by simp at h;|a::l,k,h=>by
  simp only[idxOf];split;·simp_all
  ·rename_i b;exact FX ((γC.1 h).resolve_left λc=>b (by simp[c]))
def pv (σ b:bY) (a:List Nat):bY:=
 ((ψ σ.length).map λi=>match idxOf a i with|some j=>(b[j]?).getD none|none=>(σ[i]?).getD none)++b.drop a.length
section
variable {A:dQ} {w:World} {σ:bY} {o:Store}
theorem W5 {P:Program} {call:dh} (a9:pr P call) (v:bV A w σ o) {f:FuncId} {args:List AV} {vs:List Value} (hr:bF A w σ o args vs)
  {r:AV} {o':Store} (J:iI call f args o=some (r,o')):
  gA P f=true/\Calls P f vs.toArray w λe w'=>∃u g,e= .returned u/\bV A w' g o'/\bw A w' g o' r u/\Ext w σ o w' g o':=by
 unfold iI at J;simp only at J;generalize cT o fz args []=a at J;split at J
 ·rename_i U T ha I;split at J
  ·rename_i r1 n c1;split at J;·cases J
   ·rename_i Q;simp only[not_or,Bool.not_eq_false,Nat.not_lt] at Q;obtain⟨d2,a1⟩:=Q;have a1:=BO a1;split at J
    ·rename_i r2 b9 c0 S;simp only[γ,μ] at J;obtain⟨rfl,d3⟩:=J;obtain⟨hg,c2,_⟩:=a9 _ _ _ _ _ _ c1;refine⟨hg,?_⟩;have d0:=wU I;have b2:∀(j i:Nat),a[j]?=some i->i<o.length:=λj i m=>by
      grind
     have d4:=λ{j i:Nat} (m:a[j]?=some i)=>FW v.len I m;obtain⟨N,s,a5⟩:∃N:dQ,(∀b,N b↔(A b\/(Own σ b/\¬Own (lI σ a) b)))/\N.l=A.l:=⟨⟨λb=>A b\/(Own σ b/\¬Own (lI σ a) b),A.l⟩,λb=>Iff.rfl,rfl⟩;haveI:nH A N:=⟨a5⟩;haveI:nH N A:=⟨a5.symm⟩;have b4:∀b,b<w.heap.size->Fr A σ b->Fr N (lI σ a) b:=λb _ hf=>⟨λ⟨i,c,p⟩=>by
      obtain⟨x,hx,G⟩:=qZ p;exact hf.1 ⟨x,c,G⟩,λh=>((s b).1 h).elim hf.2 λh=>hf.1 h.1⟩;have c6:bV N w (lI σ a) T:=v.sub a1 I b4 (λi p b c h hA=>by
      rcases(s b).1 hA with q|⟨_,q⟩;·exact v.av i b c h q
      ·obtain⟨j,m⟩:=γI p;exact q ⟨j,c,by simp_all⟩) (λb h=>((s b).1 h).elim (v.jV b) λ⟨⟨i,c,p⟩,_⟩=>v.bnd i b c p);have b1:bF N w (lI σ a) T U vs:=bF.ren b4 (λD d6 h=>uV v.len I h) args vs U ha hr;refine(c2 N w _ vs c6 b1).mono ?_;rintro e w' ⟨u,g,rfl,C,c7,X⟩;have d5:=FV S;have hN:=v.len;have b7:(pv σ g a).length=o.length+(n.length - a.length):=by simp[pv,hN,C.len]
     have a7:o'.length=o.length+(n.length - a.length):=by grind[yZ]
     have a8:∀i,i<o.length->idxOf a i=none->(pv σ g a)[i]?=σ[i]?/\o'[i]?=o[i]?/\i∉a:=by
      intro i p hn;have d1:i∉a:=λh=>by obtain⟨j,m⟩:=FX (k:=0) h;simp_all
      grind[pv,BN]
     have b6:∀j t,oz a o.length j=some t->(pv σ g a)[t]?=g[j]?/\o'[t]?=b9[j]?:=by
      intro j t m;unfold oz at m;split at m
      ·rename_i i K;injection m with m;subst m;have p:=b2 j i K;have c3:j<a.length:=(θ.1 K).1;obtain⟨j2,E⟩:=FX (k:=0) (γt K);have B:=(wT E).2;simp only[εJ] at B;have:=(ε9 (θ.1 B).1 a1).1 (B.trans K.symm);subst this;constructor
       ·unfold pv;rw[γ6 (by simp;omega)];have:j2<g.length:=by rw[C.len];omega
        simp_all
       grind[Ny]
      ·rename_i K;injection m with m;subst m;have c3:=List.getElem?_eq_none_iff.1 K;constructor
       ·unfold pv;rw[εV (by simp;omega)];simp_all
       grind
     have b8:∀i,i<o'.length->(∃j,j<n.length/\oz a o.length j=some i)\/(i<o.length/\idxOf a i=none):=by
      intro i p;rw[a7] at p;rcases εY i o.length with q|q;·cases hq:idxOf a i with
       |none=>exact .inr ⟨q,rfl⟩;|some j=>
        left;have B:=(wT hq).2;simp only[εJ] at B;have:=(θ.1 B).1;exact⟨j,by omega,by simp[oz,B]⟩
      grind[oz]
     have F:∀i b c,i<o.length->idxOf a i=none->σ[i]?=some (some (b,c))->N b:=by
      intro i b c p hn hs;refine(s b).2 (.inr ⟨⟨i,c,hs⟩,?_⟩);rintro⟨j,d,m⟩;obtain⟨x,hx,G⟩:=qZ m;have:=v.dist i x b c d hs G;grind
     have L:∀i b c,(pv σ g a)[i]?=some (some (b,c))->(∃j,oz a o.length j=some i/\g[j]?=some (some (b,c)))\/(i<o.length/\idxOf a i=none/\σ[i]?=some (some (b,c))):=by
      grind
     have a3:∀j t,oz a o.length j=some t->Tr n g o' (pv σ g a) j t:=by
      intro j t m;obtain⟨Y,W⟩:=b6 j t m;refine⟨λcs e sz Z ho=>?_,λ⟨es,kt,Z,ho⟩=>?_,Y⟩;·grind[BP,Nw]
      ·obtain⟨y,hy,c5⟩:=BP S j _ ho;obtain⟨c8,rfl⟩:=Nx hy;exact⟨c8,kt,Z,by rw[W];exact c5⟩
     have a6:∀b,b<w'.heap.size->Fr N g b->Fr A (pv σ g a) b:=by
      intro b _ hf;refine⟨?_,λh=>hf.2 ((s b).2 (.inl h))⟩;rintro⟨i,c,p⟩;rcases L i b c p with⟨j,_,m⟩|⟨q,H,M⟩;·exact hf.1 ⟨j,c,m⟩
      ·exact hf.2 (F i b c q H M)
     have a0:∀i b c,i<o.length->idxOf a i=none->σ[i]?=some (some (b,c))->¬Own (lI σ a) b:=by
      rintro i b c p hn hs ⟨j,d,m⟩;obtain⟨x,hx,G⟩:=qZ m;have:=v.dist i x b c d hs G;grind
     have R:∀b,Own (lI σ a) b->Own σ b:=λb ⟨i,c,p⟩=>by
      obtain⟨x,hx,G⟩:=qZ p;exact⟨x,c,G⟩
     have O:∀D,D<o.length->∀j,idxOf a D=some j->oz a o.length j=some D:=by
      intro D _ j m;have B:=(wT m).2;grind[oz]
     have b5:Ext w σ o w' (pv σ g a) o':=by
      refine⟨X.size,λb hb hn=>?_,by omega,λD c4 a2=>?_,λD hm=>?_,X.os,X.tape,X.output⟩
      ·obtain⟨q,H⟩:=X.blk b hb λh=>hn (R b h);refine⟨q,?_⟩;rintro⟨i,c,p⟩;rcases L i b c p with⟨j,_,m⟩|⟨_,_,M⟩;·exact H ⟨j,c,m⟩
       ·exact hn ⟨i,c,M⟩
      ·have V:D<o.length:=by obtain⟨cs,e,sz,Z,ho,_⟩:=a2;grind
       cases hq:idxOf a D with
       |none=>
        obtain⟨l1,l2,_⟩:=a8 D V hq;refine⟨?_,λsz b0=>⟨?_,l1⟩⟩
        ·obtain⟨cs,e,sz,Z,ho,hl⟩:=a2;exact⟨cs,e,sz,Z,by grind,hl⟩
        ·obtain⟨cs,e,Z,ho,hl⟩:=b0;exact⟨cs,e,Z,by grind,hl⟩;|some j=>
        have Y:=uV v.len I hq;have W:=a3 j D (O D V j hq);obtain⟨q,H⟩:=X.cur j c4 (Y.wR a2);refine⟨W.wR q,λsz b0=>?_⟩;obtain⟨M,h4⟩:=H sz (W.cur q b0);exact⟨Y.cur a2 M,by rw[W.2.2,h4,Y.2.2]⟩
      ·have V:D<o.length:=by obtain⟨es,kt,Z,ho⟩:=hm;grind
       cases hq:idxOf a D with
       |none=>
        obtain⟨l1,l2,_⟩:=a8 D V hq;obtain⟨es,kt,Z,ho⟩:=hm;exact⟨⟨es,kt,Z,by grind⟩,l1⟩;|some j=>
        have Y:=uV v.len I hq;have W:=a3 j D (O D V j hq);obtain⟨q,H⟩:=X.isMap j (Y.2.1 hm);exact⟨W.2.1 q,by rw[W.2.2,H,Y.2.2]⟩
     refine⟨u,pv σ g a,rfl,⟨by omega,λi k b c d p hk=>?_,λi b c p=>?_,λi y hy=>?_,λi b c p=>?_,λb hb=>γo (v.jV b hb) X.size⟩,bw.ren a6 a3 _ _ _ c0 c7,b5⟩
     ·rcases L i b c p with⟨j,m,E⟩|⟨q,H,M⟩<;>rcases L k b d hk with⟨l,hl,b3⟩|⟨g1,g2,g3⟩
      ·have:=C.dist j l b c d E b3;grind
      ·exact absurd (F k b d g1 g2 g3) (C.av j b c E)
      ·exact absurd (F i b c q H M) (C.av l b d b3)
      ·exact v.dist i k b c d M g3
     ·rcases L i b c p with⟨j,m,E⟩|⟨q,H,M⟩;·exact C.bnd j b c E
      ·exact γo (v.bnd i b c M) X.size
     ·rcases b8 i (θ.1 hy).1 with⟨j,c9,m⟩|⟨q,H⟩
      ·have hx:=ν c9;obtain⟨z,hz,a4⟩:=BP S j _ hx;obtain⟨Y,W⟩:=b6 j i m;rw[<-W,hy] at a4;injection a4 with a4;subst a4;exact dD.ren a6 a3 hz Y (C.obj j _ hx)
      ·obtain⟨l1,l2,_⟩:=a8 i q H;rw[l2] at hy;exact(v.obj i y hy).ext b5 l1 λb c hb=>(X.blk b (v.bnd i b c hb) (a0 i b c q H hb)).1
     ·rcases L i b c p with⟨j,m,E⟩|⟨q,H,M⟩;·exact λh=>C.av j b c E ((s b).2 (.inl h))
      ·exact v.av i b c M
    ·cases J
  ·cases J
 ·cases J
end
section
variable {P:Program} {A:dQ} {D:List Deferred} {w w':World} {σ σ':bY} {o o':Store}
theorem W6 {call:dh} (b:pr P call) (d:bV A w σ o) {f:FuncId} {args:List AV} {vs:List Value} (g:bF A w σ o args vs) {own:Bool} {r:AV} (c:gw call f args o own=some (r,o')):
  gA P f=true/\Calls P f vs.toArray w λe w'=>∃u a,e= .returned u/\bV A w' a o'/\bw A w' a o' r u/\Ext w σ o w' a o':=by
 grind[gw,W5,W1]
theorem BQ {f:FuncId} (b:gA P f=true) (args:Array Value) (w:World):(callFunc f args).run P w= .ok (.enter f args) w:=by
 unfold gA at b;cases c:P.funcs[f]? with
 |none=>simp_all;|some a=>
  simp only[c,Option.any_some,ζ,γ5] at b;have d:a.body.isNone=false:=by simp_all
  have e:¬a.name= "runtime.NumGoroutine" :=by
   simp_all
  have g:¬a.body=none:=by grind
  simp_all[callFunc]
theorem W7 {name:String} {t:TypeId} {f:FuncId} (h:Bn P name t=some f) (v:Value) (w:World) (n:Nat):(method (n+1) t v name).run P w= .ok (f,v) w:=by
 unfold Bn at h;split at h
 ·rename_i fs i hu hi;split at h
  ·rename_i m hm;split at h
   ·rename_i g hp hf;injection h with h;subst h;simp[method,typeInfo,hi,hm,hp,hf,follow,receiverAt,run_underlying hu,Place.get]
   ·cases h
  ·cases h
 ·cases h
theorem FY {name:String} {t:TypeId} {f:FuncId}:∀{n:Nat},uJ (wE P name n) t=some f->Bn P name t=some f
 |0,h=>by simp[wE,uJ] at h;|n+1,h=>by
  simp only[wE] at h;split at h
  ·rename_i g hg;simp only[uJ] at h;cases hb:Nat.beq n t with
   |true=>
    rw[hb] at h;simp only[cond_true,γ] at h;subst h;rw[<-Nat.eq_of_beq_eq_true hb];exact hg;|false=>
    rw[hb] at h;exact FY h
  ·exact FY h
theorem W8 {fl:Bool} {a:Oper} {b:cJ} (e:pn P fl a=some b) (h:b.pq=true):
  ∃c:Call,a.op= .call c/\((∃f,c.callee= .value (.func f)/\b= .call f c.args.toList fl)\/(∃x,c.callee= .value x/\b= .jI x c.args.toList fl)\/∃x d,c.callee= .invoke x d/\b= .ot (Mc P d) x c.args.toList):=by
 cases g:a.op;case call c=>
  refine⟨c,rfl,?_⟩;simp only[pn,g] at e;grind[cJ.pq]
 case buildSlice=>
  grind[pn,cJ.pq]
 case slice t x k i j=>
  grind[pn,cJ.pq]
 case makeMap t r=>
  grind[pn,cJ.pq]
 all_goals
  exfalso;simp only[pn,g,reduceCtorEq] at e;try (repeat' (split at e))<;>first
   |(cases e;done);|(injection e with e;subst e;simp[cJ.pq] at h;done);|(obtain⟨_,_,rfl⟩:=ε.1 e;simp[cJ.pq] at h;done)
def FR (di:Option Nat):Fence:={Fence.wide with round:=di}
theorem W9 {di:Option Nat} {n:Nat} {f:FuncId} {args:Array Value} {R:Ending->World->Prop} (h:Calls P f args w R):CallsIn (FR di) n P f args w R:=
 (callsIn_wide (n:=n)).2 h
theorem Xa {fl:Bool} {a:Oper} {b:cJ} (d:pn P fl a=some b) (c:Call):a.op≠ .defer c:=by
 grind[pn]
theorem Xb {call:dh} (D:pr P call) {fl:Bool} {b:Oper} {C:cJ} (O:pn P fl b=some C) (W:bV A w σ o) {p:Operand->AV} {a:Act} (n:∀x,bw A w σ o (p x) (a.eval x)) {bE:Nat} {v:AV}
  (i:qb call C p o bE=some (v,o')) {m:Act->World->Prop} {Q:Exit->Act->World->Prop}
  (V:∀u w' z,bV A w' z o'->bw A w' z o' v u->Ext w σ o w' z o'->m (a.put b.dst u) w') {di:Option Nat}:b.wpIn (FR di) 0 P a w m Q:=by
 have r:b.semAt (FR di).round a.eval=execOp a.eval b:=Oper.semAt_eq _ _ _ (Xa O);by_cases R:C.pq=false
 ·obtain⟨u,Z,G,e,q,X,Y⟩:=WW O R W n i;unfold Oper.wpIn;rw[r];refine⟨λ_ _=>trivial,?_⟩;rcases e with e|⟨e,rfl⟩
  ·rw[e];exact V u Z G q X Y
  ·rw[e];exact V undef Z G q X Y
 ·
  have E:∀(f:FuncId) (l:List AV) (k:List Value) (F:Bool),bF A w σ o l k->gw call f l o F=some (v,o')->
    (gA P f=true->(execOp a.eval b).run P w= .ok (.enter f k.toArray) w)->b.wpIn (FR di) 0 P a w m Q:=by
   intro f l k F L M J;obtain⟨s,I⟩:=W6 D W L M;unfold Oper.wpIn;rw[r,J s];refine⟨λ_ _=>trivial,λh=>by grind[FR,Fence.wide],(W9 I).mono ?_⟩;grind
  obtain⟨c,y,hh⟩:=W8 O (by simp_all);rw[yP] at i;rcases hh with⟨f,d,rfl⟩|⟨x,d,rfl⟩|⟨x,H,d,rfl⟩
  ·simp only[bK] at i;refine E f (c.args.toList.map p) (c.args.toList.map a.eval) fl (uP n _) i λs=>?_;simp only[execOp,y,resolve,d];simp[Act.eval,Deferred.ofValue,invoke,BQ s];grind
  ·simp only[bK] at i;split at i
   ·rename_i g B j K;have q:=n x;rw[K] at q;simp only[bw] at q;obtain⟨f',c',S,N,T⟩:=q;refine E g (B++c.args.toList.map p++j) (f'.toList++c.args.toList.map a.eval++c'.toList) fl (bF.append (bF.append N (uP n _)) T) i λs=>?_;simp only[execOp,y,resolve,d];simp[S,Ft,Deferred.ofValue,invoke,BQ s]
   ·cases i
  ·simp only[bK] at i;split at i
   ·rename_i t cs K;split at i
    ·rename_i f N;have q:=n x;rw[K] at q;simp only[bw] at q;obtain⟨k,S,_,hl⟩:=q;have L:bF A w σ o (.agg cs::c.args.toList.map p) (.agg k::c.args.toList.map a.eval):=by
      grind[bF,bw,uP]
     refine E f _ _ false L i λs=>?_;have hm:(method (P.types.size+Made.depth) t (.agg k) H).run P w= .ok (f,.agg k) w:=W7 (FY N) (.agg k) w (P.types.size+99);have hz:(#[Value.iface t (.agg k)]++Array.map a.eval c.args)[0]?=some (Value.iface t (.agg k)):=by grind
     have U:#[Value.agg k]++(Array.map a.eval c.args).extract 0 c.args.size=(Value.agg k::List.map a.eval c.args.toList).toArray:=εj (by simp;exact List.take_of_length_le (by simp));simp only[execOp,y,resolve,d,S];simp[invoke,hz,callMethod,hm,BQ s,U]
    ·cases i
   ·cases i
def tf (b w:World) (a:List Deferred):Prop:=
 a.Pairwise (λd e=>d.target≠e.target)/\∀d∈a,∃r,d={target:=.collected r,args:=#[]}/\b.heap.size<=r/\w.heap[r]?=some (.deferred (some []))
theorem bV.FZ (d:bV A w σ o) {r:Nat} {x:Obj} (h:w.heap[r]?=some x) (g:∀a b c,x≠ .cells a b c) (l:∀a b,x≠ .map a b):¬Own σ r:=by
 rintro⟨i,c,k⟩;have f:i<o.length:=by rw[<-d.len];grind
 have e:=d.obj i _ (ν f);cases j:o[i]<;>grind[dD,μ]
theorem tf.ext {c:World} {b:List Deferred} (h:tf c w b) (e:bV A w σ o) (i:Ext w σ o w' σ' o'):tf c w' b:=
 ⟨h.1,λd g=>by
  obtain⟨r,j,f,a⟩:=h.2 d g;exact⟨r,j,f,by rw[(i.blk r (Array.getElem?_eq_some_iff.1 a).1 (e.FZ a (by simp) (by simp))).1];exact a⟩⟩
def BR (D:List Deferred) (b w:World) (c:List Deferred):Prop:=∃a,c=a++D/\tf b w a
theorem BR.ext {b:World} {D a:List Deferred} (h:BR D b w a) (c:bV A w σ o) (f:Ext w σ o w' σ' o'):BR D b w' a:=by
 obtain⟨d,g,e⟩:=h;exact⟨d,g,e.ext c f⟩
structure cY (A:dQ) (nt:Nat) (D:List Deferred) (w0:World) (lJ:bY) (o0:Store) (st:St) (a:Act) (w:World) (σ:bY):Prop where
 fh:bV A w σ st.o
 env:∀s,bw A w σ st.o (dL st.env s) (a.tmps.getD s undef)
 size:a.tmps.size=nt
 defers:BR D w0 w a.defers
 ext:Ext w0 lJ o0 w σ st.o
theorem Xc (v:Value):bw A w σ o (.uA v) v:=by
 cases v<;>simp only[AV.uA]<;>try (simp[bw,Value.oneCell'];done)
 grind[bw,wK]
theorem cY.ev {d:Nat} {e:World} {b:bY} {c:Store} {st:St} {a:Act} (h:cY A d D e b c st a w σ) (x:Operand):bw A w σ st.o (eF st.env x) (a.eval x):=by
 cases x with
 |tmp t=>exact h.env t;|const v=>exact Xc v;|global g=>simp[eF,bw];|func f=>simp only[eF,Act.eval,bw];exact⟨#[],#[],rfl,by simp[bF],by simp[bF]⟩
theorem Xd {a:Act} {b:Option Tmp} {u:Value} {c:Nat} (f:a.tmps.size=c) (e:Bo c b=true) (s:Nat):
  (a.put b u).tmps.getD s undef=if b=some s then u else a.tmps.getD s undef:=by
 cases b with
 |none=>simp[Act.put];|some d=>
  simp only[Bo,decide_eq_true_eq] at e;simp only[Act.put,γ];by_cases h:d=s<;>simp_all
theorem Nz (a:Act) (b:Option Tmp) (u:Value):(a.put b u).tmps.size=a.tmps.size/\(a.put b u).defers=a.defers:=by
 cases b<;>simp[Act.put]
theorem uW (env:js) (a:Option Nat) (v:AV) (s:Nat):dL (oq env a v) s=if a=some s then v else dL env s:=by
 cases a with
 |none=>simp[oq];|some d=>
  simp_all[oq,dL]
theorem cY.put {e:Nat} {g:World} {c:bY} {f:Store} {st:St} {a:Act} (h:cY A e D g c f st a w σ) (k:bV A w' σ' o') (d:Ext w σ st.o w' σ' o') {b:Option Tmp} (i:Bo e b=true) {v:AV} {u:Value} (j:bw A w' σ' o' v u):
  cY A e D g c f ⟨oq st.env b v,o'⟩ (a.put b u) w' σ' where
 fh:=k;env:=λs=>by
  simp only[uW,Xd h.size i];split;·exact j
  ·exact(h.env s).ext d
 size:=by rw[(Nz _ _ _).1];exact h.size
 defers:=by rw[(Nz _ _ _).2];exact h.defers.ext h.fh d
 ext:=h.ext.trans d
theorem NA {x:Nat} {v:World} {l:bY} {p:Store} {st:St} {a:Act} (h:cY A x D v l p st a w σ) {f:Array Oper} {d:Oper} {b:Bool}
  (e:mf st.env (d.guard.map λg=>(((f[g.1]?).bind (·.dst)),g.2))=some b):Region.wanted d (yielded f a.tmps)=b:=by
 unfold Region.wanted;cases u:d.guard with
 |none=>grind[mf];|some g=>
  obtain⟨j,q⟩:=g;simp only[u,γl,mf] at e;cases n:(f[j]?).bind (·.dst) with
  |none=>simp_all;|some s=>
   simp only[n] at e;have i:=h.env s;simp only[yielded,n,Option.bind_some];split at e
   ·rename_i c m;injection e with e;rw[m] at i;have k:=gX i;have o:a.tmps[s]?=some (.bool c):=by
     rw[εb] at k;grind[undef]
    simp_all
   ·rename_i m;injection e with e;rw[m] at i;simp only[bw,bF] at i;obtain⟨r,k,o⟩:=i;have t:r=#[]:=εj (by omega);subst t;have o:a.tmps[s]?=some (.tuple #[])\/a.tmps[s]?=none:=by
     rw[εb] at k;grind
    grind
   ·cases e
theorem NB {call:dh} (e:pr P call) {j:Nat} {fl:List Nat} {c:Array Oper} {bE k:Nat} {i:dy} (f:qW P j fl c bE k=some i) {base:Nat} {st st':St} (b:iq call base i st=some st')
  {t:World} {g:bY} {p:Store} {a:Act} (h:cY A j D t g p st a w σ) {K:Act->World->Prop} {Q:Exit->Act->World->Prop} (o:∀s w' d,cY A j D t g p st' s w' d->K s w') {di:Option Nat}:wpOpIn (FR di) 0 P c Q k K a w:=by
 unfold qW at f;cases q:c[k]? with
 |none=>simp_all;|some n=>
  simp only[q] at f;split at f
  ·rename_i r;obtain⟨E,l,rfl⟩:=ε.1 f;unfold wpOpIn;simp only[q];simp only[iq] at b;split at b;·cases b
   ·rename_i m;have:=NA h m;rw[this];injection b with b;subst b;simp only[χ,if_false];exact⟨λ_ _=>trivial,o _ _ σ (h.put h.fh (Ext.refl _ _ _) r (by simp only[bw];exact⟨#[],rfl,by simp[bF]⟩))⟩
   ·rename_i m;have:=NA h m;rw[this];simp only[if_true];split at b
    ·rename_i v C z;injection b with b;subst b;exact Xb e l h.fh h.ev z λu w' d B x y=>o _ _ d (h.put B y r x)
    ·cases b
  ·cases f
theorem NC {call:dh} (c:pr P call) {o:Nat} {fl:List Nat} {f:Array Oper} {base:Nat} {u:World} {g:bY} {s:Store} {Q:Exit->Act->World->Prop} {di:Option Nat}:
  ∀(l:List dy) (b:List Nat),l.length=b.length->(∀(j:Nat) (i:dy) (k:Nat),l[j]?=some i->b[j]?=some k->∃bE,qW P o fl f bE k=some i)->∀(st st':St) (a:Act) (w:World) (σ:bY),
   fR call base l st=some st'->cY A o D u g s st a w σ->(∀m w' d,cY A o D u g s st' m w' d->Q .normal m w')->wpOpsIn (FR di) 0 P f Q b a w
 |[],[],_,_,st,st',a,w,σ,e,h,p=>by
  simp only[fR,γ] at e;subst e;exact p a w σ h;|[],_::_,n,_,_,_,_,_,_,_,_,_=>by simp at n;|_::_,[],n,_,_,_,_,_,_,_,_,_=>by simp at n;|i::l,k::b,n,t,st,st',a,w,σ,e,h,p=>by
  simp only[fR] at e;split at e
  ·rename_i q v;obtain⟨bE,r⟩:=t 0 i k (by simp) (by simp);rw[wpOpsIn_cons];exact NB c r v h λm w' d y=>NC c l b (by simp_all) (λj z x C B=>t (j+1) z x (by simp_all) (by simp_all)) q st' m w' d e y p
  ·cases e
theorem F2 {d:Nat} {fl:List Nat} {b:Array Oper}:∀{k:Nat} {a:List Nat} {l:List dy} {n:Nat},uL P d fl b k a=some (l,n)->
  l.length=a.length/\(∀(j:Nat) (i:dy) (q:Nat),l[j]?=some i->a[j]?=some q->∃bE,qW P d fl b bE q=some i)
 |k,[],l,n,h=>by grind[uL];|k,i::r,l,n,h=>by
  simp only[uL] at h;split at h;·cases h
  ·rename_i x o;split at h;·cases h
   ·rename_i g m c;simp only[γ,μ] at h;obtain⟨rfl,_⟩:=h;obtain⟨e,f⟩:=F2 c;grind
end
section
variable {call:dh} {ρ mh:Operand->AV} {bE:Nat}
theorem ND {a:cJ} (d:a.cls=0) (o o2:Store):bK call a ρ o2 bE=(bK call a ρ o bE).map λp=>(p.1,o2):=by
 cases a<;>try (simp[cJ.cls] at d;done)
 case call f c b=>cases b<;>simp[cJ.cls] at d
 case jI f c b=>cases b<;>simp[cJ.cls] at d
 all_goals simp only[bK]
 all_goals (repeat' split)<;>simp_all [ε5,δn]
theorem Xe {a:cJ} (b:a.cls=0) {o o':Store} {v:AV} (h:bK call a ρ o bE=some (v,o')):o'=o:=by
 grind[ND]
theorem Xf {o o2:Store} {a:AV} (h:∀j∈ff a,o2[j]?=o[j]?):behind o2 a=behind o a:=by
 cases a<;>simp only[behind];grind[ff]
theorem Xg {o o2:Store} {sz:Nat} {a:AV} (h:∀j∈ff a,o2[j]?=o[j]?):mL o2 sz a=mL o sz a:=by
 cases a with
 |os e d b c=>grind[mL,ff];|sc v=>unfold mL;grind;|_=>rfl
theorem Xh {o o2:Store} {sz:Nat} {a:AV} {i:Int} (h:∀j∈ff a,o2[j]?=o[j]?):pY o2 sz a i=pY o sz a i:=by
 cases a<;>simp only[pY];grind[ff]
theorem Xi {o o2:Store} {sz:Nat} {a:AV} {lo b:Option AV} (h:∀j∈ff a,o2[j]?=o[j]?):qa o2 sz a lo b=qa o sz a lo b:=by
 cases a with
 |os f e c d=>grind[qa,ff];|sc v=>unfold qa;grind;|_=>rfl
theorem Xj {o o2:Store} {sz:Nat} {a:AV} {lo:Option AV} {b mx:AV} (h:∀j∈ff a,o2[j]?=o[j]?):rO o2 sz a lo b mx=rO o sz a lo b mx:=by
 cases a<;>grind[id,rO,ff]
theorem Xk {o o2:Store} {k:Nat} {a:AV} (h:∀j∈ff a,o2[j]?=o[j]?):lg o2 k a=lg o k a:=by
 cases a with
 |mp b=>
  match k with
  |0=>rfl;|1=>rfl;|2=>grind[lg,ff];|_+3=>rfl
 |_=>unfold lg;split<;>first|rfl|(simp_all;done)
theorem wV {c e:Type} {f g:c->List e}:∀{l:List c},(∀a∈l,f a=g a)->l.flatMap f=l.flatMap g
 |[],_=>rfl
 |a::l,h=>by
  simp only[List.flatMap_cons];rw[h a (by simp),wV λb d=>h b (by simp[d])]
theorem wW {c e:Type} {f g:c->Option e}:∀{l:List c},(∀a∈l,f a=g a)->l.mapM f=l.mapM g
 |[],_=>rfl
 |a::l,h=>by
  rw[εI,εI,h a (by simp),wW λb d=>h b (by simp[d])]
theorem wX {o o2:Store}:∀(d:Nat) (a:AV),(∀j∈fe o d a,o2[j]?=o[j]?)->freeze o2 d a=freeze o d a/\fe o2 d a=fe o d a
 |0,a,_=>by cases a<;>simp[freeze,fe];|d+1,a,h=>by
  cases a with
  |agg i=>
   simp only[fe,δO,forall_exists_index,and_imp] at h;have l:=λc g=>wX d c (λj b=>h j c g b);grind[freeze,fe,wW,wV];|bJ i=>
   simp only[fe,δO,forall_exists_index,and_imp] at h;have l:=λc g=>wX d c (λj b=>h j c g b);grind[freeze,fe,wW,wV];|fn f x y=>
   simp only[fe,List.mem_append,δO] at h;have v:=λc g=>wX d c (λj b=>h j (.inl ⟨c,g,b⟩));have z:=λc g=>wX d c (λj b=>h j (.inr ⟨c,g,b⟩));grind[freeze,fe,wW,wV];|os k q s n=>
   have r:=h k (by simp[fe]);simp only[freeze,fe];rw[r];cases p:o[k]? with
   |none=>simp_all;|some x=>
    cases x with
    |dead=>simp_all;|map w t m=>simp_all;|cells i e u m=>
     cases m with
     |true=>simp_all;|false=>
      simp only[fe,p,γC,χ,if_false,δO] at h;have l:=λc g=>wX d c (λj b=>h j (.inr ⟨c,g,b⟩));simp_all[wW,wV]
  |_=>simp[freeze,fe]
theorem y5 {f:FuncId} {args:List AV} {o o2:Store} (h:∀j∈args.flatMap (fe o 6),o2[j]?=o[j]?):
  gw call f args o2 false=(gw call f args o false).map (λp=>(p.1,o2))/\args.flatMap (fe o2 6)=args.flatMap (fe o 6):=by
 simp only[δO,forall_exists_index,and_imp] at h;have d:=λc a=>wX 6 c (λj e=>h j c a e);have b:args.flatMap (fe o2 6)=args.flatMap (fe o 6):=wV λc a=>(d c a).2;refine⟨?_,b⟩;unfold gw;rw[if_neg (by simp),if_neg (by simp),b,wW λc a=>(d c a).1];grind
theorem F3 {b:cJ} (w:b.cls=1) {o o2:Store} (h:∀j∈dU b ρ o bE,o2[j]?=o[j]?):
  bK call b ρ o2 bE=(bK call b ρ o bE).map (λp=>(p.1,o2))/\dU b ρ o2 bE=dU b ρ o bE:=by
 cases b<;>try (simp[cJ.cls] at w;done)
 case load n a=>
  simp only[bK,dU] at h ⊢;rw[Xf h];refine⟨?_,trivial⟩;split<;>simp[ε5,δn]
 case rL l x i=>
  simp only[bK,dU] at h ⊢;refine⟨?_,trivial⟩;split;·rw[Xh h];simp_all[δn]
  ·rfl
 case slice l x q y=>
  simp only[bK,dU] at h ⊢;refine⟨?_,trivial⟩;rw[Xi h];simp_all[δn]
 case slice3 l x q y A=>
  simp only[bK,dU] at h ⊢;refine⟨?_,trivial⟩;rw[Xj h];simp_all[δn]
 case len k x=>
  simp only[bK,dU] at h ⊢;refine⟨?_,trivial⟩;rw[Xk h];simp_all[δn]
 case lookup z m F D x k C=>
  simp only[bK,dU] at h ⊢;refine⟨?_,trivial⟩;split<;>grind[id,ff]
 case ot r x c=>
  simp only[bK,dU] at h ⊢;split
  ·rename_i t B u;simp only[u] at h ⊢;refine⟨?_,(y5 (call:=call) (f:=0) h).2⟩;grind[y5]
  simp_all
 case call f c d=>
  cases d<;>grind[bK,dU,y5,cJ.cls]
 case jI f c d=>
  cases d
  ·simp only[bK,dU] at h ⊢;split;·grind[y5]
   ·rename_i s;refine⟨rfl,?_⟩;split
    ·rename_i E g e v;simp only[v] at h ⊢;exact(y5 (call:=call) (f:=0) h).2
    ·rfl
  grind[cJ.cls]
theorem Xl {a:cJ} (b:a.cls=1) {o o':Store} {v:AV} (h:bK call a ρ o bE=some (v,o')):o'=o:=by
 have:=(F3 (call:=call) (ρ:=ρ) (bE:=bE) b (o:=o) (o2:=o) λ_ _=>rfl).1;grind
theorem BS {o:Store} {id:Nat}:o.set id ((o[id]?).getD .dead)=o:=by
 apply List.ext_getElem?;grind
theorem Xm {d:cJ} (H:d.cls=2) {o o':Store} {v:AV} (b:bK call d ρ o bE=some (v,o')):
  ∃id x,id∈wrt d ρ o bE/\o'=o.set id x/\∀o2,(∀j∈dU d ρ o bE,o2[j]?=o[j]?)->
   bK call d ρ o2 bE=some (v,o2.set id x)/\dU d ρ o2 bE=dU d ρ o bE/\wrt d ρ o2 bE=wrt d ρ o bE:=by
 have C:∀{x:bR} {g:AV} {v:AV} {o':Store},(kM bE x o).map (λo'=>(g,o'))=some (v,o')->v=g/\o'=o.set bE x/\∀o2:Store,o2[bE]?=o[bE]?->(kM bE x o2).map (λo'=>(g,o'))=some (v,o2.set bE x):=by
  grind[kM]
 cases d<;>try (simp[cJ.cls] at H;done)
 case alloc z e y=>
  simp only[bK,dU,wrt] at b ⊢;grind
 case box e x=>
  simp only[bK,dU,wrt] at b ⊢;grind
 case o9 z D E e A=>
  simp only[bK,dU,wrt] at b ⊢;grind
 case pW z e A q l c y=>
  simp only[bK,dU,wrt] at b ⊢;grind
 case pX Q y=>
  simp only[bK,dU,wrt] at b ⊢;grind
 case store n a x=>
  simp only[bK,dU,wrt] at b ⊢;split at b
  ·rename_i id R G J;split at b
   ·rename_i L e A y K;split at b
    ·rename_i p;simp only[γ,μ] at b;obtain⟨rfl,rfl⟩:=b;refine⟨id,_,by simp[J,ff],rfl,λo2 h=>⟨?_,trivial,trivial⟩⟩;have U:=h id (by simp[J,ff]);grind
    ·cases b
   ·cases b
  ·cases b
 case append e A q s x y=>
  simp only[bK,dU,wrt] at b ⊢;unfold pZ at b;split at b;·cases b
  ·rename_i m F P;split at b;·cases b
   ·rename_i N;have t:∀o2:Store,(∀j∈bE::(ff (ρ s)++ff (ρ x)),o2[j]?=o[j]?)->mL o2 A (ρ x)=some (m,F):=λo2 h=>by
     grind[Xg]
    split at b
    ·rename_i B;split at b
     ·rename_i I;simp only[γ,μ] at b;obtain⟨rfl,rfl⟩:=b;refine⟨bE,(o[bE]?).getD .dead,by simp,BS.symm,λo2 h=>⟨?_,trivial,trivial⟩⟩;rw[<-h bE (by simp),BS];simp_all[pZ]
     ·split at b
      ·rename_i I p;obtain⟨rfl,rfl,h3⟩:=C b;refine⟨bE,_,by simp,rfl,λo2 h=>⟨?_,trivial,trivial⟩⟩;simp_all[pZ]
      ·cases b
    ·rename_i id D G B;split at b
     ·rename_i L e' S O K;split at b
      ·rename_i p;simp only[γ,μ] at b;obtain⟨rfl,rfl⟩:=b;refine⟨id,_,by simp[B,ff],rfl,λo2 h=>⟨?_,trivial,trivial⟩⟩;unfold pZ;rw[t o2 h];have U:=h id (by simp[B,ff]);simp_all
      ·cases b
     ·cases b
    ·rename_i n L B;split at b
     ·rename_i I;simp only[γ,μ] at b;obtain⟨rfl,rfl⟩:=b;refine⟨bE,(o[bE]?).getD .dead,by simp,BS.symm,λo2 h=>⟨?_,trivial,trivial⟩⟩;rw[<-h bE (by simp),BS];simp_all[pZ]
     ·cases b
    ·cases b
 case qN W X x k v'=>
  simp only[bK,dU,wrt] at b ⊢;split at b
  ·rename_i id Y M V;split at b
   ·rename_i Z Q y K;split at b;·cases b
    ·rename_i p;split at b
     ·rename_i i w T;simp only[γ,μ] at b;obtain⟨rfl,rfl⟩:=b;refine⟨id,_,by simp[M,ff],rfl,λo2 h=>⟨?_,trivial,trivial⟩⟩;simp_all[ff]
     ·rename_i T;simp only[γ,μ] at b;obtain⟨rfl,rfl⟩:=b;refine⟨id,_,by simp[M,ff],rfl,λo2 h=>⟨?_,trivial,trivial⟩⟩;simp_all[ff]
     ·cases b
   ·cases b
  ·cases b
 case call f u r=>cases r<;>simp[cJ.cls] at H
 case jI f u r=>cases r<;>simp[cJ.cls] at H
theorem q8 (o:Store):∀(d:Nat) (vs:List AV) (acc:List Nat) (j:Nat),j∈acc->j∈cT o d vs acc
 |0,vs,acc,j,h=>by grind[cT];|d+1,[],acc,j,h=>by simp_all[cT];|d+1,v::vs,acc,j,h=>by
  rw[yY];apply q8 o d;have e:∀c,j∈qj o d c acc:=by
   intro c;unfold qj;split;·exact h
   ·split
    ·split;·simp[h]
     ·exact q8 o d _ _ j (by simp[h])
    ·split;·simp[h]
     ·exact q8 o d _ _ j (by simp[h])
    ·simp[h]
  cases v with
  |agg g=>exact q8 o d _ _ j h;|bJ g=>exact q8 o d _ _ j h;|ptr c _ _=>exact e c;|os c _ _ _=>exact e c;|mp c=>exact e c;|fn f a b=>exact q8 o d _ _ j (q8 o d _ _ j h);|_=>exact h
theorem Xn (o:Store) (d id:Nat) (acc:List Nat):id∈qj o d id acc:=by
 grind[qj,q8]
theorem tg {o o2:Store}:∀(d:Nat) (vs:List AV) (acc:List Nat),(∀j∈cT o d vs acc,o2[j]?=o[j]?)->cT o2 d vs acc=cT o d vs acc
 |0,vs,acc,_=>by grind[cT];|d+1,[],acc,_=>by simp[cT];|d+1,v::vs,acc,h=>by
  rw[yY] at h;rw[yY,yY];have m:∀c,(∀j∈qj o d c acc,o2[j]?=o[j]?)->qj o2 d c acc=qj o d c acc:=by
   intro c g;have r:=g c (Xn o d c acc);unfold qj at g ⊢;split;·rfl
   ·rename_i q;rw[if_neg q] at g;rw[r];cases p:o[c]? with
    |none=>rfl;|some x=>
     rw[p] at g;cases x with
     |dead=>rfl;|cells l e w n=>
      cases n with
      |true=>rfl;|false=>exact tg d _ _ g
     |map s u n=>
      cases n with
      |true=>rfl;|false=>exact tg d _ _ g
  have k:uU o2 d v acc=uU o d v acc:=by
   have i:=λj g=>h j (q8 o d vs _ j g);cases v with
   |agg l=>exact tg d l acc i;|bJ l=>exact tg d l acc i;|ptr c _ _=>exact m c i;|os c _ _ _=>exact m c i;|mp c=>exact m c i;|fn f a b=>
    have y:cT o2 d a acc=cT o d a acc:=tg d a acc λj g=>i j (q8 o d b _ j g);have t:cT o2 d b (cT o d a acc)=cT o d b (cT o d a acc):=tg d b _ i;grind[uU];|_=>rfl
  rw[k];exact tg d vs _ h
theorem NF {o o2:Store} {a:List Nat}:∀{r:List Nat},(∀j∈r,o2[j]?=o[j]?)->kN o2 a r=kN o a r
 |[],_=>rfl
 |i::r,h=>by
  simp only[kN];rw[h i (by simp),NF λj b=>h j (by simp[b])]
theorem NG:∀(a:List Nat) (o o2 X:Store) (j:Nat),o2.length=o.length->a.length=X.length->(j∈a\/o2[j]?=o[j]?)->(lB o2 a X)[j]?=(lB o a X)[j]?
 |[],o,o2,X,j,_,_,h=>by grind[lB];|i::r,o,o2,[],j,_,c,_=>by simp at c;|i::r,o,o2,x::l,j,b,c,h=>by
  simp only[lB];refine NG r _ _ l j (by simp[b]) (by simp_all) ?_;grind
theorem NH {f:FuncId} {args:List AV} {o o':Store} {r:AV} (h:iI call f args o=some (r,o')):
  o.length<=o'.length/\(∀j,j<o.length->j∉cT o fz args []->o'[j]?=o[j]?)/\
  ∀o2:Store,o2.length=o.length->(∀j∈cT o fz args [],o2[j]?=o[j]?)->∃g,iI call f args o2=some (r,g)/\
   cT o2 fz args []=cT o fz args []/\∀j,(j∈cT o fz args []\/o.length<=j)->g[j]?=o'[j]?:=by
 have b:∀o2:Store,(∀j∈cT o fz args [],o2[j]?=o[j]?)->cT o2 fz args []=cT o fz args []:=λo2 h=>tg fz args [] h;have e:∀o2:Store,(∀j∈cT o fz args [],o2[j]?=o[j]?)->kN o2 (cT o fz args []) (cT o fz args [])=kN o (cT o fz args []) (cT o fz args []):=λo2 h=>NF h;unfold iI at h;simp only at h;generalize q:cT o fz args []=a at h b e;split at h
 ·rename_i m l v y;split at h
  ·rename_i B i n;split at h;·cases h
   ·rename_i d;split at h
    ·rename_i A c x t;simp only[γ,μ] at h;obtain⟨rfl,rfl⟩:=h;simp only[not_or] at d;have u:=FV t;have z:a.length=(c.take a.length).length:=by simp;omega
     refine⟨by simp[yZ],λj s w=>?_,λo2 p k=>?_⟩;·grind[yZ,BN]
     ·refine⟨lB o2 a (c.take a.length)++c.drop a.length,?_,b o2 k,λj s=>?_⟩
      ·unfold iI;grind
      grind[yZ,NG]
    ·cases h
  ·cases h
 ·cases h
end
end Go.Vi
