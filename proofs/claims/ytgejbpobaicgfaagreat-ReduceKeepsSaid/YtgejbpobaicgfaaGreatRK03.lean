/-
  The abstract interpreter: every operation that is no call does what the model's does.
  Conditions: none.
-/
import Derived.Test.YtgejbpobaicgfaaGreatRK02
import Derived.OrdersIn
import Derived.AtR
set_option maxRecDepth 100000
set_option maxHeartbeats 4000000
set_option linter.all false
namespace Go.Vi
def kh.acM:kh->Bool
 | .call .. | .MC .. =>true
 |_=>false
section
variable {P:Program} {A:qa} {w w':World} {σ σ':gB} {o o':Store} {gb:Operand->AV} {ga:Operand->Value} {oper:Oper} {v:AV}
theorem QM {b:Type} {x:Option b} {f:b->AV×Store} {p:AV×Store} (h:x.map f=some p):∃a,x=some a/\f a=p:=by
 simp_all
theorem azU {call:lU} {fl:Bool} {T:kh} {ei:Nat} (j:ab3 P fl oper=some T) (d0:T.acM=false) (G:gp A w σ o) (E:∀x,cQ A w σ o (gb x) (ga x))
  (B:eff call T gb o ei=some (v,o')):Gives A P ga oper w σ o v o':=by
 rw[aif] at B;unfold ab3 at j;split at j
 ·
  rename_i x C
  injection j with j;subst j
  simp only[fi,Option.some.injEq,Prod.mk.injEq] at B
  obtain⟨rfl,rfl⟩:=B
  simp_all[ar6]
 ·rename_i x C
  injection j with j;subst j
  simp only[fi,Option.some.injEq,Prod.mk.injEq] at B
  obtain⟨rfl,rfl⟩:=B
  simp_all[ar6]
 ·rename_i c a b C
  injection j with j;subst j
  simp only[fi] at B;split at B
  ·rename_i b0
   simp only[Option.some.injEq,Prod.mk.injEq] at B
   obtain⟨rfl,rfl⟩:=B
   exact ar7 (t:=true) G E C b0
  ·rename_i b0
   simp only[Option.some.injEq,Prod.mk.injEq] at B
   obtain⟨rfl,rfl⟩:=B
   exact ar7 (t:=false) G E C b0
  ·cases B
 ·rename_i e C
  obtain⟨z,S,rfl⟩:=Option.map_eq_some_iff.1 j
  simp only[fi] at B
  obtain⟨o2,hm,F⟩:=QM B
  obtain⟨hd,rfl⟩:=agF hm
  grind[azi]
 ·rename_i e x C
  injection j with j;subst j
  simp only[fi] at B;split at B
  ·rename_i h1
   obtain⟨o2,hm,F⟩:=QM B
   obtain⟨hd,rfl⟩:=agF hm
   simp only[Prod.mk.injEq] at F
   obtain⟨rfl,rfl⟩:=F
   simp_all[azj]
  ·cases B
 ·
  rename_i t a3 C;split at j
  ·rename_i z b4 S I
   split at j
   ·rename_i a1 c8
    obtain⟨ps,b9,rfl⟩:=Option.map_eq_some_iff.1 j
    simp only[fi] at B
    obtain⟨cs,O,F⟩:=QM B
    simp only[Prod.mk.injEq] at F
    obtain⟨rfl,rfl⟩:=F
    obtain⟨hl,hg⟩:=am6 b9
    refine asc (place:=fun i=>a1[i]?) G E C S (fun zv L l=>?_) hl.symm (fun i p q hp hq=>?_) O
    ·cases W:P.info? t<;>grind[arQ,Program.built]
    grind[arR]
   ·cases j
  ·rename_i z k e S I
   obtain⟨n,N,rfl⟩:=Option.map_eq_some_iff.1 j
   simp only[fi] at B
   obtain⟨cs,O,F⟩:=QM B
   simp only[Prod.mk.injEq] at F
   obtain⟨rfl,rfl⟩:=F
   refine asc (place:=fun i=>some (i*n,n)) G E C S (fun zv L l=>?_) (by simp) (fun i p q hp hq=>?_) O
   ·cases W:P.info? t with
    |none=>simp_all
    |some i=>
     simp[W] at L
     cases d2:P.info? e<;>grind[sizeT,Program.built]
   grind
  ·cases j
 ·
  rename_i t b1 a3 C;split at j
  ·rename_i e I
   split at j
   ·rename_i z S
    split at j
    ·rename_i D
     injection j with j;subst j
     split at B
     ·simp only[fi] at B
      split at B
      ·rename_i cs O
       split at B
       ·rename_i hp
        simp only[Option.some.injEq,Prod.mk.injEq] at B
        obtain⟨rfl,rfl⟩:=B
        exact azG G E C I S D.2 D.1 O hp
       ·cases B
      ·cases B
     ·simp only[fi] at B
      split at B
      ·rename_i cs O
       obtain⟨o2,hm,F⟩:=QM B
       obtain⟨hd,rfl⟩:=agF hm
       simp only[Prod.mk.injEq] at F
       obtain⟨rfl,rfl⟩:=F
       exact azF G E C I S D.2 D.1 O hd
      ·cases B
    ·cases j
   ·cases j
  ·cases j
 ·
  rename_i t a C
  obtain⟨n,N,rfl⟩:=Option.map_eq_some_iff.1 j
  simp only[fi] at B;split at B
  ·rename_i cs b8 Z
   obtain⟨a',hp,F⟩:=QM B
   simp only[Prod.mk.injEq] at F
   obtain⟨rfl,rfl⟩:=F
   exact aze G E C N Z hp
  ·cases B
 ·
  rename_i t a x C
  obtain⟨n,N,rfl⟩:=Option.map_eq_some_iff.1 j
  simp only[fi] at B;split at B
  ·rename_i id b8 d1 U
   split at B
   ·rename_i cs e sz pu ho
    split at B
    ·rename_i D
     simp only[Option.some.injEq,Prod.mk.injEq] at B
     obtain⟨rfl,rfl⟩:=B
     obtain⟨c1,c2,c3,c4,c5⟩:=D
     exact azg G E C N U ho c1 c2 c3 c4 c5
    ·cases B
   ·cases B
  ·cases B
 ·
  rename_i x C
  injection j with j;subst j
  simp only[fi] at B
  have H:=E x
  split at B
  ·rename_i a b c X
   simp only[Option.some.injEq,Prod.mk.injEq] at B
   obtain⟨rfl,rfl⟩:=B
   rw[X] at H;simp only[cQ] at H
   obtain⟨_,⟨p,hp⟩,_⟩:=H
   rw[<-X]
   exact ar8 G E C hp
  ·rename_i a b X
   simp only[Option.some.injEq,Prod.mk.injEq] at B
   obtain⟨rfl,rfl⟩:=B
   rw[X] at H;simp only[cQ] at H
   obtain⟨p,hp,_⟩:=H
   rw[<-X]
   exact ar8 G E C hp
  ·cases B
 ·
  rename_i op t x y t' C
  have c6:∀(h:T= .bin op x y),Gives A P ga oper w σ o v o':=by
   intro h;subst h;simp only[fi] at B;split at B
   ·rename_i a b U Z
    obtain⟨r,K,F⟩:=QM B
    simp only[Prod.mk.injEq] at F
    obtain⟨rfl,rfl⟩:=F
    exact azm G E C U Z K
   ·cases B
  have c9:∀(V:Bool),(op= .eql/\V=false)\/(op= .neq/\V=true)->
    (match P.underlying t with
     |some (.struct _)|some (.array _ _)=>if 20<=P.depth then(A1 P 20 t).map fun ks=>kh.eqf V ks x y else none
     |some .bool=>some (.beq V x y)
     |some (.int _)|some .string=>some (.bin op x y)
     |_=>none)=some T->Gives A P ga oper w σ o v o':=by
   intro V N j
   have c7:yf P t=some true->(if 20<=P.depth then(A1 P 20 t).map fun ks=>kh.eqf V ks x y else none)=some T->Gives A P ga oper w σ o v o':=by
    intro M j;split at j
    ·rename_i hD
     obtain⟨ks,hk,rfl⟩:=Option.map_eq_some_iff.1 j
     simp only[fi] at B;split at B
     ·rename_i a b U Z
      obtain⟨r,K,F⟩:=QM B
      simp only[Prod.mk.injEq] at F
      obtain⟨rfl,rfl⟩:=F
      exact azM G E C N M hk hD U Z K
     ·cases B
    ·cases j
   split at j
   ·grind[yf]
   ·grind[yf]
   ·rename_i hu
    injection j with j;subst j
    simp only[fi] at B;split at B
    ·rename_i a b U Z
     simp only[Option.some.injEq,Prod.mk.injEq] at B
     obtain⟨rfl,rfl⟩:=B
     exact azn G E C N hu U Z
    ·cases B
   all_goals simp_all
  split at j<;>grind
 ·
  rename_i op t x C
  injection j with j;subst j
  simp only[fi] at B
  obtain⟨r,K,F⟩:=QM B
  simp only[Prod.mk.injEq] at F
  obtain⟨rfl,rfl⟩:=F
  exact azo G E C K
 ·
  rename_i s d x C;split at j
  ·rename_i ds k hs hd
   injection j with j;subst j
   simp only[fi] at B;split at B
   ·rename_i k' n H
    simp only[Option.some.injEq,Prod.mk.injEq] at B
    obtain⟨rfl,rfl⟩:=B
    exact azp G E C hs hd H
   ·cases B
  ·cases j
 ·
  rename_i s x f C;split at j
  ·rename_i fs hs
   split at j
   ·rename_i g hg
    split at j
    ·rename_i n N
     split at j
     ·cases j
     ·rename_i Y
      injection j with j;subst j
      simp only[fi] at B
      obtain⟨r,K,F⟩:=QM B
      simp only[Prod.mk.injEq] at F
      obtain⟨rfl,rfl⟩:=F
      exact azq G E C hs hg N Y K
    ·cases j
   ·cases j
  ·cases j
 ·
  rename_i t x f C;split at j
  ·rename_i fs hs
   split at j
   ·rename_i g hg
    obtain⟨n,N,rfl⟩:=Option.map_eq_some_iff.1 j
    simp only[fi] at B;split at B
    ·rename_i cs H
     obtain⟨r,K,F⟩:=QM B
     simp only[Prod.mk.injEq] at F
     obtain⟨rfl,rfl⟩:=F
     exact azr G E C hs hg N H K
    ·cases B
   ·cases j
  ·cases j
 ·
  rename_i t x i C;split at j
  ·rename_i b1 e I
   obtain⟨n,N,rfl⟩:=Option.map_eq_some_iff.1 j
   simp only[fi] at B;split at B
   ·rename_i k W
    split at B
    ·rename_i D
     obtain⟨r,K,F⟩:=QM B
     simp only[Prod.mk.injEq] at F
     obtain⟨rfl,rfl⟩:=F
     exact azs G E C I N W D.1 D.2 K
    ·cases B
   ·cases B
  ·rename_i e I
   split at j
   ·rename_i n N
    split at j
    ·cases j
    ·rename_i Y
     injection j with j;subst j
     simp only[fi] at B;split at B
     ·rename_i k W
      obtain⟨r,K,F⟩:=QM B
      simp only[Prod.mk.injEq] at F
      obtain⟨rfl,rfl⟩:=F
      exact azt G E C I N Y W K
     ·cases B
   ·cases j
  ·cases j
 ·
  rename_i t x i C;split at j
  ·rename_i b1 e I
   split at j
   ·rename_i s n hs N
    injection j with j;subst j
    simp only[fi] at B;split at B
    ·rename_i k cs W H
     split at B
     ·rename_i D
      obtain⟨r,K,F⟩:=QM B
      simp only[Prod.mk.injEq] at F
      obtain⟨rfl,rfl⟩:=F
      exact azu G E C I hs N W D.1 D.2 H K
     ·cases B
    ·cases B
   ·cases j
  ·rename_i I
   injection j with j;subst j
   simp only[fi] at B;split at B
   ·rename_i k s W H
    split at B
    ·rename_i D
     obtain⟨r,K,F⟩:=QM B
     simp only[Prod.mk.injEq] at F
     obtain⟨rfl,rfl⟩:=F
     exact azv G E C I W D H K
    ·cases B
   ·cases B
  ·cases j
 ·
  rename_i t l c C;split at j
  ·rename_i e I
   split at j
   ·rename_i z b S Z
    split at j
    ·rename_i a2
     injection j with j;subst j
     simp only[fi] at B;split at B
     ·rename_i n m hl hm
      split at B
      ·rename_i D
       obtain⟨c1,c2,c3,c4⟩:=D
       obtain⟨o2,a4,F⟩:=QM B
       obtain⟨hd,rfl⟩:=agF a4
       simp only[Prod.mk.injEq] at F
       obtain⟨rfl,rfl⟩:=F
       exact azI G E C I S Z hl hm c1 c2 c3 c4 hd
      ·cases B
     ·cases B
    ·cases j
   ·cases j
  ·cases j
 ·
  rename_i t x lo W C;split at j
  ·rename_i e I
   split at j
   ·rename_i n N
    split at j
    ·cases j
    ·rename_i Y
     injection j with j;subst j
     simp only[fi] at B
     obtain⟨r,K,F⟩:=QM B
     grind[azA]
   ·cases j
  all_goals grind[fi,azD]
 ·
  rename_i t x lo W mx C;split at j
  ·rename_i e I
   split at j
   ·rename_i n N
    split at j
    ·cases j
    ·rename_i Y
     injection j with j;subst j
     simp only[fi] at B
     obtain⟨r,K,F⟩:=QM B
     grind[azC]
   ·cases j
  ·cases j
 ·
  rename_i c C;split at j
  ·grind[kh.acM]
  ·grind[kh.acM]
  ·rename_i J
   split at j
   ·rename_i s x t t' U a5
    split at j
    ·rename_i b5
     subst b5;split at j
     ·rename_i e I
      split at j
      ·rename_i z b S Z
       split at j
       ·rename_i a2
        injection j with j;subst j
        simp only[fi] at B
        exact azL G E C J (Array.ext' U) (Array.ext' a5) I S Z rfl a2 B
       ·cases j
      ·cases j
     ·cases j
    ·cases j
   ·cases j
  ·rename_i J
   split at j
   ·rename_i x t U a5
    have b6:c.args=#[x]:=Array.ext' U
    have b3:c.argTypes=#[t]:=Array.ext' a5
    have c0:∀k,(k=0/\∃e,P.underlying t=some (.slice e))\/(k=1/\P.underlying t=some .string)\/(k=2/\∃a b,P.underlying t=some (.map a b))->T= .len k x->Gives A P ga oper w σ o v o':=by
     intro k I hh;subst hh;simp only[fi] at B
     obtain⟨n,N,F⟩:=QM B
     simp only[Prod.mk.injEq] at F
     obtain⟨rfl,rfl⟩:=F
     exact azw G E C J b6 b3 I N
    grind[fi,azx]
   ·cases j
  ·rename_i J
   split at j
   ·rename_i x y U
    injection j with j;subst j
    simp only[fi] at B;split at B
    ·rename_i k a k' b H hy
     split at B
     ·rename_i a7
      subst a7;simp only[Option.some.injEq,Prod.mk.injEq] at B
      obtain⟨rfl,rfl⟩:=B
      exact asa (mx:=false) G E C J (Array.ext' U) H hy
     ·cases B
    ·cases B
   ·cases j
  ·rename_i J
   split at j
   ·rename_i x y U
    injection j with j;subst j
    simp only[fi] at B;split at B
    ·rename_i k a k' b H hy
     split at B
     ·rename_i a7
      subst a7;simp only[Option.some.injEq,Prod.mk.injEq] at B
      obtain⟨rfl,rfl⟩:=B
      exact asa (mx:=true) G E C J (Array.ext' U) H hy
     ·cases B
    ·cases B
   ·cases j
  ·cases j
 ·
  rename_i x i C
  injection j with j;subst j
  simp only[fi] at B;split at B
  ·rename_i vs H
   obtain⟨r,K,F⟩:=QM B
   simp only[Prod.mk.injEq] at F
   obtain⟨rfl,rfl⟩:=F
   exact azy G E C H K
  ·cases B
 ·rename_i f a b C
  split at j
  ·injection j with j;subst j
   simp only[fi,Option.some.injEq,Prod.mk.injEq] at B
   obtain⟨rfl,rfl⟩:=B
   exact azz G E (fun _=>rfl) C
  ·cases j
 ·rename_i t C
  split at j
  ·split at j
   ·injection j with j;subst j
    simp only[fi] at B
    obtain⟨o2,a4,F⟩:=QM B
    obtain⟨hd,rfl⟩:=agF a4
    grind[azR]
   ·cases j
  ·cases j
 ·
  rename_i t x k ok C;split at j
  ·rename_i kt et I
   split at j
   ·rename_i ks ka z g hk M S hg
    split at j
    ·rename_i a9
     injection j with j;subst j
     simp only[fi] at B;split at B
     ·rename_i id kv H R
      split at B
      ·rename_i es b2 pu ho
       split at B
       ·rename_i a0
        subst a0;split at B
        ·rename_i i a q O
         simp only[Option.some.injEq,Prod.mk.injEq] at B
         obtain⟨rfl,rfl⟩:=B
         obtain⟨zv,L⟩:=azS S a9
         obtain⟨u,a6,a8⟩:=asu (w:=w) (σ:=σ) (o:=o) S a9 L
         have:=asv (ok:=ok) G E C I hk M ⟨zv,u,L,a6,a8⟩ H R ho O L
         simp_all
        ·rename_i zv O L
         simp only[Option.some.injEq,Prod.mk.injEq] at B
         obtain⟨rfl,rfl⟩:=B
         obtain⟨u,a6,a8⟩:=asu (w:=w) (σ:=σ) (o:=o) S a9 L
         have:=asv (ok:=ok) G E C I hk M ⟨zv,u,L,a6,a8⟩ H R ho O L
         simp_all
        ·cases B
       ·cases B
      ·cases B
     ·cases B
    ·cases j
   ·cases j
  ·cases j
 ·rename_i t m k v' C
  split at j
  ·rename_i kt et I
   split at j
   ·rename_i ks ka hk M
    injection j with j;subst j
    simp only[fi] at B;split at B
    ·rename_i id kv H R
     split at B
     ·rename_i es b2 pu ho
      split at B
      ·cases B
      ·rename_i D
       simp only[not_or,Decidable.not_not] at D
       obtain⟨b7,a0⟩:=D
       subst a0
       have Q:pu=true->(gb v').pure=true:=fun hp=>by
        simp_all
       split at B
       ·rename_i i a O
        simp only[Option.some.injEq,Prod.mk.injEq] at B
        obtain⟨rfl,rfl⟩:=B
        exact akx G E (.inl C) I hk M H R ho Q O
       ·rename_i O
        simp only[Option.some.injEq,Prod.mk.injEq] at B
        obtain⟨rfl,rfl⟩:=B
        exact akx G E (.inl C) I hk M H R ho Q O
       ·cases B
     ·cases B
    ·cases B
   ·cases j
  ·cases j
 ·rename_i t m k v' C
  split at j
  ·rename_i kt et I
   split at j
   ·rename_i ks ka hk M
    injection j with j;subst j
    simp only[fi] at B;split at B
    ·rename_i id kv H R
     split at B
     ·rename_i es b2 pu ho
      split at B
      ·cases B
      ·rename_i D
       simp only[not_or,Decidable.not_not] at D
       obtain⟨b7,a0⟩:=D
       subst a0
       have Q:pu=true->(gb v').pure=true:=fun hp=>by
        simp_all
       split at B
       ·rename_i i a O
        simp only[Option.some.injEq,Prod.mk.injEq] at B
        obtain⟨rfl,rfl⟩:=B
        exact akx G E (.inr C) I hk M H R ho Q O
       ·rename_i O
        simp only[Option.some.injEq,Prod.mk.injEq] at B
        obtain⟨rfl,rfl⟩:=B
        exact akx G E (.inr C) I hk M H R ho Q O
       ·cases B
     ·cases B
    ·cases B
   ·cases j
  ·cases j
 ·cases j
end
section
variable {A A':qa} {w w':World} {σ σ':gB} {o o':Store}
def Tr (o:Store) (σ:gB) (o':Store) (c:gB) (id a:Nat):Prop:=
 (∀f e g h,o[id]?=some (.cells f e g h)->∃b i d,o'[a]?=some (.cells b i g d)/\b.length=f.length)/\(IsMap o id->IsMap o' a)/\c[a]?=σ[id]?
theorem Tr.agN {id b a:Nat} (h:Tr o σ o' σ' id b) (k:aey o id a):aey o' b a:=by
 obtain⟨j,e,f,l,g,n⟩:=k
 obtain⟨d,i,c,m,p⟩:=h.1 j e f l g
 exact⟨d,i,f,c,m,by omega⟩
theorem Tr.cur {id g f sz:Nat} (h:Tr o σ o' σ' id g) (k:aey o id f) (p:afq o' g sz f):afq o id sz f:=by
 obtain⟨m,e,j,l,n,w⟩:=k
 obtain⟨r,y,s,u,x⟩:=h.1 m e j l n
 obtain⟨t,v,q,i,z⟩:=p
 rw[u] at i;injection i with i;injection i with a b c d;subst a c
 exact⟨m,e,l,n,by omega⟩
mutual
theorem AV.agO (m:Nat->Option Nat):∀(c:AV),c.pure=true->c.ren m=some c
 | .sc _,_=>rfl
 | .sl _ _,_=>rfl
 | .ud,h| .agg _,h| .eW _,h| .ep _ _,h| .ptr _ _ _,h| .os _ _ _ _,h| .mp _,h| .fn _ _ _,h=>by simp[AV.pure] at h
end
mutual
theorem cQ.ren [aa9 A A'] (p:∀b,b<w.heap.size->Fr A σ b->Fr A' σ' b) {m:Nat->Option Nat} (k:∀id e,m id=some e->Tr o σ o' σ' id e):
  ∀(c:AV) (v:Value) (q:AV),c.ren m=some q->cQ A w σ o c v->cQ A' w σ' o' q v
 | .ud,v,q,d,_=>by grind[AV.ren,cQ]
 | .sc u,v,q,d,h=>by grind[AV.ren,cQ]
 | .sl n g,v,q,d,h=>by
  simp only[AV.ren,Option.some.injEq] at d;subst d
  simp only[cQ] at h ⊢
  obtain⟨a,C,rfl,S,t,E⟩:=h
  exact⟨a,C,rfl,S,t,oQ.ren p k g a 0 t E⟩
 | .ep g F,v,q,d,h=>by
  simp only[AV.ren,Option.some.injEq] at d;subst d
  simp only[cQ] at h ⊢
  obtain⟨a,rfl,t,E⟩:=h
  exact⟨a,rfl,t,oQ.ren p k g _ 0 t E⟩
 | .agg g,v,q,d,h=>by
  simp only[AV.ren,Option.map_eq_some_iff] at d
  obtain⟨i,l,rfl⟩:=d
  simp only[cQ] at h ⊢
  obtain⟨B,rfl,z⟩:=h
  exact⟨B,rfl,ey.ren p k g _ i l z⟩
 | .eW g,v,q,d,h=>by
  simp only[AV.ren,Option.map_eq_some_iff] at d
  obtain⟨i,l,rfl⟩:=d
  simp only[cQ] at h ⊢
  obtain⟨B,rfl,z⟩:=h
  exact⟨B,rfl,ey.ren p k g _ i l z⟩
 | .ptr id F H,v,q,d,h=>by
  simp only[AV.ren,Option.map_eq_some_iff] at d
  obtain⟨e,l,rfl⟩:=d
  have s:=k id e l
  simp only[cQ] at h ⊢
  refine⟨s.agN h.1,h.2.1,fun K D=>?_⟩
  rw[s.2.2]
  exact h.2.2 K (s.cur h.1 D)
 | .os id F O H,v,q,d,h=>by
  simp only[AV.ren,Option.map_eq_some_iff] at d
  obtain⟨e,l,rfl⟩:=d
  have s:=k id e l
  simp only[cQ] at h ⊢
  obtain⟨M,a,C,J,z,N⟩:=h
  refine⟨s.agN M,a,C,J,z,fun K D=>?_⟩
  have:=N K (s.cur M D)
  unfold Ss at this ⊢;rw[s.2.2];exact this
 | .mp id,v,q,d,h=>by
  simp only[AV.ren,Option.map_eq_some_iff] at d
  obtain⟨e,l,rfl⟩:=d
  have s:=k id e l
  simp only[cQ] at h ⊢;rw[s.2.2]
  exact⟨s.2.1 h.1,h.2⟩
 | .fn f a b,v,q,d,h=>by
  simp only[AV.ren] at d;split at d
  ·rename_i P U l I
   injection d with d;subst d
   simp only[cQ] at h ⊢
   obtain⟨x,y,rfl,Q,R⟩:=h
   exact⟨x,y,by rw[aa9.eq (A:=A) (A':=A')],ey.ren p k a _ P l Q,ey.ren p k b _ U I R⟩
  ·cases d
theorem ey.ren [aa9 A A'] (p:∀b,b<w.heap.size->Fr A σ b->Fr A' σ' b) {m:Nat->Option Nat} (k:∀id e,m id=some e->Tr o σ o' σ' id e):
  ∀(g:List AV) (B:List Value) (i:List AV),J1 m g=some i->ey A w σ o g B->ey A' w σ' o' i B
 |[],B,i,d,h=>by grind[J1,ey]
 |c::g,B,i,d,h=>by
  simp only[J1] at d;split at d
  ·rename_i V G l I
   injection d with d;subst d
   simp only[ey] at h ⊢
   obtain⟨v,r,rfl,J,z⟩:=h
   exact⟨v,r,rfl,cQ.ren p k c v V l J,ey.ren p k g r G I z⟩
  ·cases d
theorem oQ.ren [aa9 A A'] (p:∀b,b<w.heap.size->Fr A σ b->Fr A' σ' b) {m:Nat->Option Nat} (k:∀id e,m id=some e->Tr o σ o' σ' id e):
  ∀(g:List AV) (a:Option Addr) (j:Nat),pZ g=true->oQ A w σ o g a j->oQ A' w σ' o' g a j
 |[],_,_,_,_=>by simp[oQ]
 |c::g,a,j,t,h=>by
  simp only[pZ,Bool.and_eq_true] at t;simp only[oQ] at h ⊢
  obtain⟨⟨b,v,rfl,T,d,E⟩,z⟩:=h
  have L:b.block<w.heap.size:=by grind[arU,add_block]
  exact⟨⟨b,v,rfl,p _ L T,d,cQ.ren p k c v c (AV.agO m c t.1) E⟩,oQ.ren p k g _ (j+1) t.2 z⟩
end
theorem anb {m:Nat->Option Nat}:∀{cs a:List AV},J1 m cs=some a->a.length=cs.length/\∀(j:Nat) (b:AV),a[j]?=some b->∃c,cs[j]?=some c/\c.ren m=some b
 |[],a,h=>by grind[J1]
 |c::cs,a,h=>by
  simp only[J1] at h;split at h
  ·rename_i k e f d
   injection h with h;subst h
   obtain⟨i,g⟩:=anb d
   grind
  ·cases h
theorem asw {m:Nat->Option Nat}:∀{es a:List (Value×AV)},abA m es=some a->a.length=es.length/\∀(j:Nat) (b:Value×AV),a[j]?=some b->∃e,es[j]?=some e/\e.1=b.1/\e.2.ren m=some b.2
 |[],a,h=>by grind[abA]
 |e::es,a,h=>by
  simp only[abA] at h;split at h
  ·rename_i v d f c
   injection h with h;subst h
   obtain⟨g,i⟩:=asw c
   grind
  ·cases h
theorem azV {m:Nat->Option Nat} {c a:AV} (h:c.ren m=some a) (b:c.one=true):a.one=true:=by
 cases c<;>simp only[AV.ren,Option.some.injEq,Option.map_eq_some_iff] at h<;>simp only[AV.one,Bool.false_eq_true] at b<;>grind[AV.ren,AV.one]
mutual
theorem aHB {m:Nat->Option Nat}:∀{c a:AV},c.ren m=some a->c.pure=true->a=c
 |c,a,h,b=>by
  grind[AV.agO]
end
theorem pd.ren [aa9 A A'] (L:∀b,b<w.heap.size->Fr A σ b->Fr A' σ' b) {m:Nat->Option Nat} (J:∀id q,m id=some q->Tr o σ o' σ' id q) {i B:Nat} {x x':fZ} (f:x.ren m=some x') (G:σ'[B]?=σ[i]?)
  (h:pd A w σ o i x):pd A' w σ' o' B x':=by
 cases x with
 |dead=>grind[fZ.ren,pd]
 |cells u e S H=>
  simp only[pd] at h
  obtain⟨t,C,F⟩:=h
  have p:∀a,a.length=u.length->(H=true->pZ a=true)->s5 a=true->(∀(j:Nat) (g:AV) (v:Value),a[j]?=some g->(∀c,u[j]?=some c->cQ A w σ o c v->cQ A' w σ' o' g v))->pd A' w σ' o' B (.cells a e S H):=by
   intro a k1 O k3 X;simp only[pd]
   refine⟨O,k3,?_⟩
   rcases F with⟨h0,a1⟩|⟨b,D,E,r1,P,R,U,r5,r6⟩
   ·simp_all
   ·refine .inr ⟨b,D,E,by simp_all,P,R,U,by omega,fun j g k=>?_⟩
    have s:j<u.length:=by grind
    obtain⟨v,hv,y⟩:=r6 j _ (List.getElem?_eq_getElem s)
    exact⟨v,hv,X j g v k _ (List.getElem?_eq_getElem s) y⟩
  simp only[fZ.ren] at f;split at f
  ·rename_i d
   injection f with f;subst f
   refine p u rfl t C fun j g v k c l y=>?_
   rw[k] at l;injection l with l;subst l
   exact cQ.ren L J g v g (AV.agO m g (acL (t d) g (List.mem_of_getElem? k))) y
  ·rename_i d
   obtain⟨a,n,rfl⟩:=Option.map_eq_some_iff.1 f
   obtain⟨I,g2⟩:=anb n
   refine p a I (fun z=>absurd z d) (aaE.2 fun c l=>?_) fun j g v k c l y=>?_
   ·obtain⟨j,k⟩:=List.getElem?_of_mem l
    grind[azV,aaE]
   grind[cQ.ren]
 |map es kt H=>
  simp only[pd] at h
  obtain⟨t,C,b,c,N,M,F,K,Q,Y⟩:=h
  simp only[fZ.ren] at f;split at f
  ·rename_i d
   injection f with f;subst f
   simp only[pd]
   refine⟨t,C,b,c,N,M,by simp_all,K,Q,fun j e r=>?_⟩
   obtain⟨V,Z,T,W⟩:=Y j e r
   exact⟨V,Z,T,cQ.ren L J e.2 _ e.2 (AV.agO m e.2 (t d e (List.mem_of_getElem? r))) W⟩
  ·rename_i d
   obtain⟨a0,n,rfl⟩:=Option.map_eq_some_iff.1 f
   obtain⟨I,g2⟩:=asw n
   simp only[pd]
   refine⟨fun z=>absurd z d,fun e r=>?_,b,c,N,M,by rw[G];exact F,K,by omega,fun j e' r=>?_⟩
   ·obtain⟨j,k⟩:=List.getElem?_of_mem r
    grind
   grind[cQ.ren]
def acN (k:Nat):Nat->Option Nat:=fun i=>if i<k then some i else none
mutual
theorem aky (k:Nat):∀(c:AV),c.ig k=true->c.ren (acN k)=some c
 | .ud,_| .sc _,_| .sl _ _,_| .ep _ _,_=>rfl
 | .agg d,h=>by simp only[AV.ig] at h;simp[AV.ren,agP k d h]
 | .eW d,h=>by simp only[AV.ig] at h;simp[AV.ren,agP k d h]
 | .ptr e _ _,h=>by simp_all[AV.ig,AV.ren,acN]
 | .os e _ _ _,h=>by simp_all[AV.ig,AV.ren,acN]
 | .mp e,h=>by simp_all[AV.ig,AV.ren,acN]
 | .fn f a b,h=>by simp only[AV.ig,Bool.and_eq_true] at h;simp[AV.ren,agP k a h.1,agP k b h.2]
theorem agP (k:Nat):∀(d:List AV),sf k d=true->J1 (acN k) d=some d
 |[],_=>rfl
 |c::d,h=>by simp only[sf,Bool.and_eq_true] at h;simp[J1,aky k c h.1,agP k d h.2]
end
theorem asx {k:Nat} {cs:List AV}:sf k cs=true↔∀c∈cs,c.ig k=true:=by
 induction cs<;>grind[sf]
theorem asy (k:Nat) (id a:Nat) (h:acN k id=some a):Tr o σ (o.take k) (σ.take k) id a:=by
 unfold acN at h;split at h
 ·rename_i i
  injection h with h;subst h
  refine⟨fun f e j b g=>⟨f,e,b,by simp_all,rfl⟩,fun⟨d,c,b,g⟩=>⟨d,c,b,by simp_all⟩,by simp_all⟩
 ·cases h
theorem asz (k:Nat) (b:Nat) (h:Fr A σ b):Fr A (σ.take k) b:=by
 refine⟨?_,h.2⟩
 rintro⟨i,c,a⟩
 rw[List.getElem?_take] at a;split at a
 ·exact h.1 ⟨i,c,a⟩
 ·cases a
theorem cQ.take {k:Nat} {c:AV} {v:Value} (h:cQ A w σ o c v) (a:c.ig k=true):cQ A w (σ.take k) (o.take k) c v:=
 cQ.ren (fun b _ d=>asz k b d) (asy k) c v c (aky k c a) h
theorem azW {k:Nat} {x:fZ} (h:x.ig k=true):x.ren (acN k)=some x:=by
 cases x with
 |dead=>rfl
 |cells g e i c=>
  grind[fZ.ig,fZ.ren,agP]
 |map a f c=>
  simp only[fZ.ig,Bool.or_eq_true] at h;simp only[fZ.ren];split
  ·rfl
  ·rename_i b
   have d:=h.resolve_left b
   have:abA (acN k) a=some a:=by
    clear h b
    induction a<;>grind[sf,abA,aky]
   rw[this];rfl
theorem gp.take (e:gp A w σ o) {k:Nat} (n:∀x∈o.take k,x.ig k=true):gp A w (σ.take k) (o.take k):=by
 have a:∀(i:Nat) (s:Option (Nat×Nat)),(σ.take k)[i]?=some s->σ[i]?=some s:=by
  grind
 refine⟨by simp[e.len],fun i j b c d g m=>e.dist i j b c d (a _ _ g) (a _ _ m),fun i b c g=>e.bnd i b c (a _ _ g),fun i x f=>?_,fun i b c g=>e.av i b c (a _ _ g),e.QL⟩
 have h:=f
 rw[List.getElem?_take] at f;split at f
 ·rename_i p
  exact pd.ren (fun b _ l=>asz k b l) (asy k) (azW (n x (List.mem_of_getElem? h))) (by simp_all) (e.obj i x f)
 ·cases f
theorem Ext.take {v:World} {j:gB} {u:Store} (h:Ext v j u w σ o) {k:Nat} (C:u.length<=k):Ext v j u w (σ.take k) (o.take k) where
 size:=h.size
 blk:=fun b z B=>by
  obtain⟨g,p⟩:=h.blk b z B
  refine⟨g,?_⟩
  rintro⟨i,c,q⟩
  rw[List.getElem?_take] at q;split at q
  ·exact p ⟨i,c,q⟩
  ·cases q
 len:=by have:=h.len;simp;omega
 cur:=fun m t l=>by
  obtain⟨g,p⟩:=h.cur m t l
  have d:m<k:=by
   obtain⟨r,e,n,a,f,_⟩:=l
   grind
  refine⟨?_,fun n A=>?_⟩
  ·obtain⟨r,e,n,a,f,s⟩:=g
   exact⟨r,e,n,a,by simp_all,s⟩
  ·rw[List.getElem?_take_of_lt d]
   refine p n ?_
   obtain⟨r,e,a,f,s⟩:=A
   rw[List.getElem?_take_of_lt d] at f
   exact⟨r,e,a,f,s⟩
 isMap:=fun m l=>by
  obtain⟨g,p⟩:=h.isMap m l
  have d:m<k:=by
   obtain⟨x,y,a,f⟩:=l
   grind
  refine⟨?_,by simp_all⟩
  obtain⟨x,y,a,f⟩:=g
  exact⟨x,y,a,by simp_all⟩
 os:=h.os
 tape:=h.tape
 output:=h.output
mutual
theorem cQ.ig {k:Nat} (g:∀i x,k<=i->o[i]?=some x->x.aaB=true):∀(c:AV) (v:Value),cQ A w σ o c v->c.ig k=true
 | .ud,_,_| .sc _,_,_| .sl _ _,_,_| .ep _ _,_,_=>rfl
 | .agg d,v,h=>by simp only[cQ] at h;obtain⟨l,_,j⟩:=h;simp only[AV.ig];exact ey.ig g d _ j
 | .eW d,v,h=>by simp only[cQ] at h;obtain⟨l,_,j⟩:=h;simp only[AV.ig];exact ey.ig g d _ j
 | .ptr n _ _,v,h=>by
  simp only[cQ] at h
  obtain⟨⟨d,e,s,m,p,_⟩,_⟩:=h
  simp only[AV.ig,decide_eq_true_eq]
  grind[fZ.aaB]
 | .os n _ _ _,v,h=>by
  simp only[cQ] at h
  obtain⟨⟨d,e,s,m,p,_⟩,_⟩:=h
  simp only[AV.ig,decide_eq_true_eq]
  grind[fZ.aaB]
 | .mp n,v,h=>by
  simp only[cQ] at h
  obtain⟨⟨B,z,m,p⟩,_⟩:=h
  simp only[AV.ig,decide_eq_true_eq]
  grind[fZ.aaB]
 | .fn f a b,v,h=>by simp only[cQ] at h;obtain⟨x,y,_,u,q⟩:=h;simp only[AV.ig,Bool.and_eq_true];exact⟨ey.ig g a _ u,ey.ig g b _ q⟩
theorem ey.ig {k:Nat} (g:∀i x,k<=i->o[i]?=some x->x.aaB=true):∀(d:List AV) (l:List Value),ey A w σ o d l->sf k d=true
 |[],_,_=>rfl
 |c::d,l,h=>by
  simp only[ey] at h
  obtain⟨v,r,_,t,j⟩:=h
  simp only[sf,Bool.and_eq_true]
  exact⟨cQ.ig g c v t,ey.ig g d r j⟩
end
theorem pd.ig {k i:Nat} {x:fZ} (n:∀i x,k<=i->o[i]?=some x->x.aaB=true) (h:pd A w σ o i x):x.ig k=true:=by
 cases x with
 |dead=>rfl
 |cells t e s g=>
  simp only[pd] at h;simp only[fZ.ig,Bool.or_eq_true]
  right
  refine asx.2 fun c a=>?_
  obtain⟨j,f⟩:=List.getElem?_of_mem a
  grind[cQ.ig]
 |map r p g=>
  simp only[pd] at h
  obtain⟨_,_,b,c,m,l,_,_,_,q⟩:=h
  simp only[fZ.ig,Bool.or_eq_true]
  right
  refine asx.2 fun c a=>?_
  obtain⟨e,d,rfl⟩:=List.mem_map.1 a
  obtain⟨j,f⟩:=List.getElem?_of_mem d
  grind[cQ.ig]
theorem azX {n i:Nat} {x:fZ} (h:(Ao n)[i]?=some x):x= .dead:=by
 grind[Ao]
theorem gp.Ao (f:gp A w σ o) (n:Nat):gp A w (σ++List.replicate n none) (o++Ao n)/\Ext w σ o w (σ++List.replicate n none) (o++Ao n):=by
 have g:∀(i:Nat) (b c:Nat),(σ++List.replicate n none)[i]?=some (some (b,c))->σ[i]?=some (some (b,c)):=by
  grind
 have v:Ext w σ o w (σ++List.replicate n none) (o++Go.Vi.Ao n):=by
  refine⟨Nat.le_refl _,fun b _ F=>⟨rfl,fun⟨i,c,h⟩=>F ⟨i,c,g i b c h⟩⟩,by simp,fun K I q=>?_,fun K q=>?_,rfl,rfl,rfl⟩
  ·obtain⟨H,e,G,m,s,C⟩:=q
   have a:=(List.getElem?_eq_some_iff.1 s).1
   refine⟨⟨H,e,G,m,by grind,C⟩,fun B D=>⟨?_,by rw[List.getElem?_append_left (by rw[f.len];exact a)]⟩⟩
   obtain⟨p,J,u,l,t⟩:=D
   rw[List.getElem?_append_left a] at l
   exact⟨p,J,u,l,t⟩
  ·obtain⟨z,y,m,s⟩:=q
   have a:=(List.getElem?_eq_some_iff.1 s).1
   exact⟨⟨z,y,m,by grind⟩,by rw[List.getElem?_append_left (by rw[f.len];exact a)]⟩
 refine⟨⟨by simp[Go.Vi.Ao,f.len],fun i j b c d h E=>f.dist i j b c d (g _ _ _ h) (g _ _ _ E),fun i b c h=>f.bnd i b c (g _ _ _ h),fun i x k=>?_,fun i b c h=>f.av i b c (g _ _ _ h),f.QL⟩,v⟩
 rw[List.getElem?_append] at k;split at k
 ·rename_i a
  exact(f.obj i x k).ext v (by rw[List.getElem?_append_left (by rw[f.len];exact a)]) fun _ _ _=>rfl
 ·rename_i a
  have:=azX k
  subst this;simp only[pd]
  have r:=(List.getElem?_eq_some_iff.1 k).1
  simp[Go.Vi.Ao] at r
  rw[List.getElem?_append_right (by rw[f.len];omega),List.getElem?_replicate,if_pos (by rw[f.len];omega)]
theorem azY (f:gp A w σ o) (k:Nat):∃b,gp A w b (ac7 k o)/\(∀c v,cQ A w σ o c v->cQ A w b (ac7 k o) c v)/\
  ∀(e:World) (a:gB) (d:Store),d.length<=k->Ext e a d w σ o->Ext e a d w b (ac7 k o):=by
 unfold ac7;split
 ·rename_i h
  have g:∀i x,k<=i->o[i]?=some x->x.aaB=true:=by
   intro i x r l
   refine List.all_eq_true.1 h x (List.mem_of_getElem? (i:=i - k) ?_)
   simp_all
  refine⟨σ.take k,f.take fun x l=>?_,fun c v m=>m.take (cQ.ig g c v m),fun e a d q p=>p.take q⟩
  obtain⟨j,n⟩:=List.getElem?_of_mem (List.mem_of_mem_take l)
  exact pd.ig g (f.obj j x n)
 ·exact⟨σ,f,fun _ _ h=>h,fun _ _ _ _ h=>h⟩
end
def Uc (P:Program) (f:FuncId) (args:List AV) (o:Store) (r:AV) (o':Store):Prop:=
 ∀(A:qa) (w:World) (b:gB) (d:List Value),gp A w b o->ey A w b o args d->
  Calls P f d.toArray w fun e c=>∃u a,e= .returned u/\gp A c a o'/\cQ A c a o' r u/\Ext w b o c a o'
def ab5 (P:Program) (call:lU):Prop:=
 ∀f a o b r c,call f a o b=some (r,c)->By P f=true/\Uc P f a o r c/\(b=false->c=[])
section
variable {P:Program} {A B:qa} {w w':World} {σ σ':gB} {o o':Store}
theorem akz {d e:Type} {f:d->Option e}:∀{l:List d} {c:List e},l.mapM f=some c->c.length=l.length/\∀(j:Nat) (a:d),l[j]?=some a->∃b,c[j]?=some b/\f a=some b
 |[],c,h=>by simp_all
 |a::l,c,h=>by
  rw[List.mapM_cons] at h
  cases g:f a with
  |none=>simp[g] at h
  |some b=>
   cases i:l.mapM f with
   |none=>simp_all
   |some r=>
    simp[g,i] at h
    subst h
    obtain⟨m,k⟩:=akz i
    grind
theorem aiq {f:AV->Option AV} {cs a:List AV} {vs:List Value} (h:cs.mapM f=some a) (e:ey A w σ o cs vs) (n:∀c∈cs,∀d v,f c=some d->cQ A w σ o c v->cQ B w σ' o' d v):ey B w σ' o' a vs:=by
 obtain⟨p,m⟩:=akz h
 have q:=ey.length _ _ e
 refine ey.XR _ _ (by omega) fun j d k=>?_
 have g:j<cs.length:=by grind
 obtain⟨v,r,i⟩:=ey.get _ _ e j _ (List.getElem?_eq_getElem g)
 obtain⟨b,s,l⟩:=m j _ (List.getElem?_eq_getElem g)
 grind
theorem anc [aa9 A B] (hS:gp A w σ o) (hB:∀b,b<w.heap.size->Fr A σ b->¬B b):∀(d:Nat) (a P:AV) (u:Value),freeze o d a=some P->(∀id∈x7 o d a,∀b c,σ[id]?=some (some (b,c))->¬B b)->
  cQ A w σ o a u->cQ B w [] [] P u:=by
 have Q:∀b,b<w.heap.size->Fr A σ b->Fr B [] b:=fun b z f=>⟨fun⟨i,c,K⟩=>by simp at K,hB b z f⟩
 have U:∀id r,(fun _:Nat=>(none:Option Nat)) id=some r->Tr o σ [] [] id r:=fun _ _ h=>by cases h
 intro d
 induction d with
 |zero=>
  intro a P u f _ t
  cases a<;>simp only[freeze,reduceCtorEq,Option.some.injEq] at f
  ·grind[cQ]
  ·rename_i v
   split at f
   ·injection f with f;subst f
    have:=B0 t
    subst this;simp only[cQ,oQ]
    exact⟨none,0,rfl,Nat.le_refl _,rfl,trivial⟩
   grind[cQ]
  ·subst f;exact cQ.ren Q U _ _ _ rfl t
 |succ d ih=>
  intro a P u f ht t
  cases a<;>simp only[freeze,reduceCtorEq,Option.some.injEq] at f
  ·grind[cQ]
  ·rename_i v
   split at f
   ·injection f with f;subst f
    have:=B0 t
    subst this;simp only[cQ,oQ]
    exact⟨none,0,rfl,Nat.le_refl _,rfl,trivial⟩
   grind[cQ]
  ·rename_i C
   obtain⟨I,h1,rfl⟩:=Option.map_eq_some_iff.1 f
   grind[cQ,aiq,x7]
  ·rename_i C
   obtain⟨I,h1,rfl⟩:=Option.map_eq_some_iff.1 f
   grind[cQ,aiq,x7]
  ·subst f;exact cQ.ren Q U _ _ _ rfl t
  ·
   rename_i id q s a3;split at f
   ·rename_i C e O pu T
    split at f
    ·rename_i x
     obtain⟨D,N⟩:=x
     simp only[cQ] at t
     obtain⟨a5,X,M,rfl,E,G⟩:=t
     have Z:=G O ⟨C,e,pu,T,D⟩
     have F:=hS.obj id _ T
     simp only[pd] at F
     obtain⟨q1,q2,q3⟩:=F
     have k:∀(j:Nat) (c:AV),((C.drop q).take (s*O))[j]?=some c->∃(p:Addr) (v:Value),X=some p/\¬B p.block/\w.cell? (p.add j)=some v/\cQ A w σ o c v:=by
      intro j c n;rw[List.getElem?_take] at n;split at n
      ·rename_i Y
       rw[List.getElem?_drop] at n
       have a1:0<s:=by
        grind
       unfold Ss at Z;split at Z
       ·omega
       ·rename_i b c2 J
        rcases q3 with⟨h0,_⟩|⟨b',a0,a4,W,_,r3,_,_,r6⟩
        ·simp_all
        ·rw[J] at W
         simp only[Option.some.injEq,Prod.mk.injEq] at W
         obtain⟨rfl,rfl⟩:=W
         obtain⟨v,hv,m⟩:=r6 _ c n
         refine⟨⟨b,q,none⟩,v,(by grind[ab4]),ht id (by simp[x7]) b c2 J,?_,m⟩
         grind[am7,World.cell?]
       simp_all
      ·cases n
     split at f
     ·rename_i L
      injection f with f;subst f
      have g:pZ ((C.drop q).take (s*O))=true:=aeA fun c n=>acL (q1 L) c (List.mem_of_mem_drop (List.mem_of_mem_take n))
      simp only[cQ]
      refine⟨X,M,rfl,E,g,oQ.XR _ _ _ fun j c n=>?_⟩
      obtain⟨p,v,R,y,l,m⟩:=k j c n
      exact⟨p,v,R,⟨fun⟨i,c,K⟩=>by simp at K,y⟩,by simpa using l,cQ.ren Q U c v c (AV.agO _ c (acL g c (List.mem_of_getElem? n))) m⟩
     ·rename_i L
      split at f
      ·rename_i I H
       split at f
       ·rename_i g
        injection f with f;subst f
        obtain⟨m1,m2⟩:=akz H
        simp only[cQ]
        refine⟨X,M,rfl,E,g,oQ.XR _ _ _ fun j c' V=>?_⟩
        have Y:j<((C.drop q).take (s*O)).length:=by grind
        obtain⟨p,v,R,y,l,m⟩:=k j _ (List.getElem?_eq_getElem Y)
        obtain⟨b,z,S⟩:=m2 j _ (List.getElem?_eq_getElem Y)
        rw[V] at z;injection z with z;subst z
        refine⟨p,v,R,⟨fun⟨i,c,K⟩=>by simp at K,y⟩,by simpa using l,ih _ _ v S (fun r a2=>ht r ?_) m⟩
        simp only[x7,T,List.mem_cons]
        grind
       ·cases f
      ·cases f
    ·cases f
   ·cases f
  grind[cQ,aa9.eq,aiq,x7]
theorem gp.far (f:gp A w σ o) (e:Ext w [] [] w' σ' o'):gp A w' σ o/\Ext w σ o w' σ o:=by
 have a:∀b,b<w.heap.size->w'.heap[b]?=w.heap[b]?:=fun b d=>(e.blk b d fun⟨i,c,l⟩=>by simp at l).1
 have g:Ext w σ o w' σ o:=⟨e.size,fun b d k=>⟨a b d,k⟩,Nat.le_refl _,fun _ _ h=>⟨h,fun _ h=>⟨h,rfl⟩⟩,fun _ h=>⟨h,rfl⟩,e.os,e.tape,e.output⟩
 exact⟨⟨f.len,f.dist,fun i b c h=>Nat.lt_of_lt_of_le (f.bnd i b c h) e.size,fun i x j=>(f.obj i x j).ext g rfl fun b c d=>a b (f.bnd i b c d),f.av,fun b d=>Nat.lt_of_lt_of_le (f.QL b d) e.size⟩,g⟩
mutual
theorem asA:∀(r:AV) (u:Value),r.S1=true->cQ A w σ o r u->cQ B w' σ' o' r u
 | .ud,_,_,_=>by simp[cQ]
 | .sc v,u,_,h=>by grind[cQ]
 | .agg b,u,a,h=>by
  simp only[AV.S1] at a;simp only[cQ] at h ⊢
  obtain⟨d,rfl,e⟩:=h
  exact⟨d,rfl,ane b _ a e⟩
 | .eW b,u,a,h=>by
  simp only[AV.S1] at a;simp only[cQ] at h ⊢
  obtain⟨d,rfl,e⟩:=h
  exact⟨d,rfl,ane b _ a e⟩
 | .sl n b,u,a,h=>by
  grind[AV.S1,cQ,oQ]
 | .ep _ _,_,a,_| .ptr _ _ _,_,a,_| .os _ _ _ _,_,a,_| .mp _,_,a,_| .fn _ _ _,_,a,_=>by simp[AV.S1] at a
theorem ane:∀(b:List AV) (d:List Value),afm b=true->ey A w σ o b d->ey B w' σ' o' b d
 |[],d,_,h=>by grind[ey]
 |c::b,d,a,h=>by
  simp only[afm,Bool.and_eq_true] at a;simp only[ey] at h ⊢
  obtain⟨v,r,rfl,f,e⟩:=h
  exact⟨v,r,rfl,asA c v a.1 f,ane b r a.2 e⟩
end
theorem akA (w:World) (a:∀b,A b->b<w.heap.size):gp A w [] []:=⟨rfl,by simp,by simp,by simp,by simp,a⟩
theorem azZ {call:lU} (q:ab5 P call) (n:gp A w σ o) {f:FuncId} {args a:List AV} {vs:List Value} (N:ey A w σ o args vs) (K:args.mapM (freeze o 6)=some a) {r:AV}
  (X:call f a [] false=some (r,[])) (y:(args.flatMap (x7 o 6)).isEmpty=true\/r.S1=true):
  By P f=true/\Calls P f vs.toArray w fun e w'=>∃u g,e= .returned u/\gp A w' g o/\cQ A w' g o r u/\Ext w σ o w' g o:=by
 obtain⟨S,C,_⟩:=q _ _ _ _ _ _ X
 refine⟨S,?_⟩
 rcases y with y|y
 ·
  let B:qa:=⟨fun b=>A b\/Own σ b,A.l⟩
  have Q:∀b,B b->b<w.heap.size:=fun b z=>Or.elim (show A b\/Own σ b from z) (n.QL b) fun⟨i,c,V⟩=>n.bnd i b c V
  haveI:aa9 A B:=⟨rfl⟩
  haveI:aa9 B A:=⟨rfl⟩
  have j:ey B w [] [] a vs:=aiq K N fun c E J v s t=>anc n (fun b _ d z=>Or.elim (show A b\/Own σ b from z) d.2 d.1) 6 c J v s (fun I U=>by
   simp_all) t
  refine(C B w [] vs (akA w Q) j).mono ?_
  rintro e w' ⟨u,g,rfl,F,p,G⟩
  obtain⟨M,L⟩:=n.far G
  refine⟨u,σ,rfl,M,?_,L⟩
  have D:r.ig 0=true:=cQ.ig (k:=0) (fun i x _ W=>by simp at W) r u p
  refine cQ.ren (m:=acN 0) (fun b z d=>⟨fun R=>d.2 (show A b\/Own σ b from .inr R),fun T=>d.2 (show A b\/Own σ b from .inl T)⟩) (fun I O h=>by grind[acN]) r u r (aky 0 r D) p
 ·have j:ey A w [] [] a vs:=aiq K N fun c E J v s t=>anc n (fun b _ d z=>d.2 z) 6 c J v s (fun I _ b Y H=>n.av I b Y H) t
  refine(C A w [] vs (akA w n.QL) j).mono ?_
  rintro e w' ⟨u,g,rfl,F,p,G⟩
  obtain⟨M,L⟩:=n.far G
  grind[asA]
end
section
variable {A:qa} {w:World} {σ:gB} {o:Store}
def Kw (o:Store) (p:Nat->Bool) (i:Nat):Bool:=p i&&(match o[i]? with|some (.cells _ _ _ true)=>true|_=>false)
def XV (o:Store) (p:Nat->Bool) (σ:gB):gB:=(List.range σ.length).map fun i=>if Kw o p i then none else(σ[i]?).getD none
theorem anf (o:Store) (p:Nat->Bool) (σ:gB):(XV o p σ).length=σ.length:=by simp[XV]
theorem ang {o:Store} {p:Nat->Bool} {σ:gB} {i:Nat} (a:i<σ.length):(XV o p σ)[i]?=some (if Kw o p i then none else(σ[i]?).getD none):=by
 simp[XV,a]
theorem aft {o:Store} {p:Nat->Bool} {σ:gB} {i:Nat} {s:Nat×Nat} (h:(XV o p σ)[i]?=some (some s)):σ[i]?=some (some s)/\Kw o p i=false:=by
 have a:i<σ.length:=by grind[anf]
 simp_all[ang]
theorem asB {o:Store} {p:Nat->Bool} {σ:gB} {i:Nat} (h:Kw o p i=false):(XV o p σ)[i]?=σ[i]?:=by
 grind[ang,anf]
def anh (p:Nat->Bool) (i:Nat):fZ->fZ
 | .cells b e a true=>if p i then .dead else .cells b e a true
 |x=>x
theorem akB (p:Nat->Bool):∀(o:Store) (k i:Nat),(zl p k o)[i]?=(o[i]?).map (anh p (k+i))
 |[],k,i=>by simp[zl]
 |x::r,k,i=>by
  simp only[zl]
  cases i with
  |zero=>simp only[List.getElem?_cons_zero,Option.map_some,Nat.add_zero];congr 1
  |succ i=>simp only[List.getElem?_cons_succ];rw[akB p r (k+1) i,show k+1+i=k+(i+1) from by omega]
theorem asC {p:Nat->Bool} {a:Store}:∀{o o':Store},Kv a p o=some o'->o'.length=o.length/\∀(i:Nat) (x:fZ),o[i]?=some x->∃y,x.gy a p=some y/\o'[i]?=some y
 |[],o',h=>by grind[Kv]
 |x::r,o',h=>by
  simp only[Kv] at h;split at h
  ·rename_i y l e b
   injection h with h;subst h
   obtain⟨d,c⟩:=asC b
   grind
  ·cases h
theorem ani {o:Store} {p:Nat->Bool}:∀{cs a:List AV},BK o p cs=some a->a.length=cs.length/\∀(j:Nat) (b:AV),a[j]?=some b->∃c,cs[j]?=some c/\c.gy o p=some b
 |[],a,h=>by grind[BK]
 |c::cs,a,h=>by
  simp only[BK] at h;split at h
  ·rename_i k e f d
   injection h with h;subst h
   obtain⟨i,g⟩:=ani d
   grind
  ·cases h
theorem asD {o:Store} {p:Nat->Bool}:∀{es a:List (Value×AV)},acI o p es=some a->a.length=es.length/\∀(j:Nat) (b:Value×AV),a[j]?=some b->∃e,es[j]?=some e/\e.1=b.1/\e.2.gy o p=some b.2
 |[],a,h=>by grind[acI]
 |e::es,a,h=>by
  simp only[acI] at h;split at h
  ·rename_i v d f c
   injection h with h;subst h
   obtain⟨g,i⟩:=asD c
   grind
  ·cases h
theorem asE {o:Store} {p:Nat->Bool}:∀{env a:Ku},afn o p env=some a->∀s,(pI env s).gy o p=some (pI a s)
 |[],a,h,s=>by simp only[afn,Option.some.injEq] at h;subst h;rfl
 |(k,v)::r,a,h,s=>by
  simp only[afn] at h;split at h
  ·rename_i e d b c
   injection h with h;subst h
   simp only[pI]
   cases f:Nat.beq k s with
   |true=>exact b
   |false=>exact asE c s
  ·cases h
mutual
theorem AV.asF (o:Store) (p:Nat->Bool):∀(c:AV),c.pure=true->c.gy o p=some c
 | .sc _,_=>rfl
 | .sl _ _,_=>rfl
 | .ud,h| .agg _,h| .eW _,h| .ep _ _,h| .ptr _ _ _,h| .os _ _ _ _,h| .mp _,h| .fn _ _ _,h=>by simp[AV.pure] at h
end
theorem az0 {o:Store} {p:Nat->Bool} {c a:AV} (h:c.gy o p=some a) (b:c.one=true):a.one=true:=by
 cases c<;>simp only[AV.one,Bool.false_eq_true] at b<;>simp only[AV.gy] at h<;>grind[AV.one,AV.gy]
structure Frz (o:Store) (p:Nat->Bool) (o2:Store):Prop where
 len:o2.length=o.length
 get:∀i x,o[i]?=some x->(Kw o p i=true/\o2[i]?=some .dead)\/(Kw o p i=false/\∃y,x.gy o p=some y/\o2[i]?=some y)
theorem asG {o a:Store} {p:Nat->Bool} (h:Kv o p o=some a):Frz o p (zl p 0 a):=by
 obtain⟨k,l⟩:=asC h
 have n:(zl p 0 a).length=o.length:=by
  rw[<-k]
  apply Nat.le_antisymm
  ·rcases Nat.lt_or_ge a.length (zl p 0 a).length with h|h
   ·exfalso
    have:=akB p a 0 a.length
    simp_all
   ·exact h
  ·rcases Nat.lt_or_ge (zl p 0 a).length a.length with h|h
   ·exfalso
    have:=akB p a 0 (zl p 0 a).length
    simp_all
   ·exact h
 refine⟨n,fun i x j=>?_⟩
 obtain⟨y,b,f⟩:=l i x j
 have d:=akB p a 0 i
 rw[f,Nat.zero_add] at d;simp only[Option.map_some] at d;unfold Kw;rw[j]
 cases x with
 |cells s e q g=>
  cases g with
  |true=>
   simp only[fZ.gy,if_true,Option.some.injEq] at b
   grind[anh]
  |false=>
   right
   simp only[fZ.gy,Bool.false_eq_true,if_false,Option.map_eq_some_iff] at b
   grind[anh]
 |dead=>
  simp only[fZ.gy,Option.some.injEq] at b;subst b
  right
  exact⟨by simp,_,rfl,d⟩
 |map r m g=>
  right
  have:∃c,y= .map c m g:=by
   simp only[fZ.gy] at b;split at b
   ·grind
   ·obtain⟨c,_,rfl⟩:=Option.map_eq_some_iff.1 b;simp_all
  obtain⟨c,rfl⟩:=this
  exact⟨by simp,_,b,d⟩
theorem Frz.tr {o2:Store} {p:Nat->Bool} (h:Frz o p o2) {id:Nat} (m:Kw o p id=false):Tr o σ o2 (XV o p σ) id id:=by
 refine⟨fun n e q d c=>?_,fun⟨l,g,d,c⟩=>?_,asB m⟩
 ·rcases h.get id _ c with⟨i,_⟩|⟨_,y,a,b⟩
  ·simp_all
  ·simp only[fZ.gy] at a
   split at a
   ·grind
   ·obtain⟨k,j,rfl⟩:=Option.map_eq_some_iff.1 a
    grind[ani]
 ·rcases h.get id _ c with⟨i,_⟩|⟨_,y,a,b⟩
  ·simp_all
  ·simp only[fZ.gy] at a
   split at a
   ·injection a with a;subst a;exact⟨l,g,d,b⟩
   ·obtain⟨f,j,rfl⟩:=Option.map_eq_some_iff.1 a
    exact⟨f,g,d,b⟩
theorem agQ {p:Nat->Bool} {b:Nat} (h:Fr A σ b):Fr A (XV o p σ) b:=⟨fun⟨i,c,a⟩=>h.1 ⟨i,c,(aft a).1⟩,h.2⟩
mutual
theorem cQ.gy (D:gp A w σ o) {p:Nat->Bool} {o2:Store} (C:Frz o p o2):∀(c:AV) (v:Value) (q:AV),c.gy o p=some q->cQ A w σ o c v->cQ A w (XV o p σ) o2 q v
 | .ud,v,q,d,_=>by grind[AV.gy,cQ]
 | .sc u,v,q,d,h=>by grind[AV.gy,cQ]
 | .sl n t,v,q,d,h=>by
  simp only[AV.gy,Option.some.injEq] at d;subst d
  exact cQ.ren (m:=fun _=>none) (fun b _ z=>agQ z) (fun _ _ h=>by cases h) _ _ _ rfl h
 | .ep t s,v,q,d,h=>by
  simp only[AV.gy,Option.some.injEq] at d;subst d
  exact cQ.ren (m:=fun _=>none) (fun b _ z=>agQ z) (fun _ _ h=>by cases h) _ _ _ rfl h
 | .agg t,v,q,d,h=>by
  simp only[AV.gy,Option.map_eq_some_iff] at d
  obtain⟨k,J,rfl⟩:=d
  simp only[cQ] at h ⊢
  obtain⟨E,rfl,P⟩:=h
  exact⟨E,rfl,ey.gy D C t _ k J P⟩
 | .eW t,v,q,d,h=>by
  simp only[AV.gy,Option.map_eq_some_iff] at d
  obtain⟨k,J,rfl⟩:=d
  simp only[cQ] at h ⊢
  obtain⟨E,rfl,P⟩:=h
  exact⟨E,rfl,ey.gy D C t _ k J P⟩
 | .ptr l s F,v,q,d,h=>by
  have G:Kw o p l=false/\q= .ptr l s F:=by
   grind[Kw,AV.gy]
  obtain⟨G,rfl⟩:=G
  exact cQ.ren (m:=fun i=>if i=l then some l else none) (fun b _ z=>agQ z) (fun i j g=>by
   split at g
   ·rename_i L;injection g with g;subst L;subst g;exact C.tr G
   ·cases g) _ _ _ (by simp[AV.ren]) h
 | .mp l,v,q,d,h=>by
  simp only[AV.gy,Option.some.injEq] at d;subst d
  have G:Kw o p l=false:=by
   simp only[cQ] at h
   obtain⟨⟨es,kt,pu,R⟩,_⟩:=h
   simp[Kw,R]
  exact cQ.ren (m:=fun i=>if i=l then some l else none) (fun b _ z=>agQ z) (fun i j g=>by
   split at g
   ·rename_i L;injection g with g;subst L;subst g;exact C.tr G
   ·cases g) _ _ _ (by simp[AV.ren]) h
 | .fn f a b,v,q,d,h=>by
  simp only[AV.gy] at d;split at d
  ·rename_i a' b' J h2
   injection d with d;subst d
   simp only[cQ] at h ⊢
   obtain⟨x,y,rfl,hx,hy⟩:=h
   exact⟨x,y,rfl,ey.gy D C a _ a' J hx,ey.gy D C b _ b' h2 hy⟩
  ·cases d
 | .os l s K F,v,q,d,h=>by
  have a2:Kw o p l=false->q= .os l s K F->cQ A w (XV o p σ) o2 q v:=by
   rintro G rfl
   exact cQ.ren (m:=fun i=>if i=l then some l else none) (fun b _ z=>agQ z) (fun i j g=>by
    split at g
    ·rename_i L;injection g with g;subst L;subst g;exact C.tr G
    ·cases g) _ _ _ (by simp[AV.ren]) h
  simp only[AV.gy] at d;split at d
  ·rename_i hp
   split at d
   ·rename_i t e sz pu R
    split at d
    ·rename_i U
     subst U;split at d
     ·rename_i I
      injection d with d;subst d
      obtain⟨M,Q⟩:=I
      have a3:Kw o p l=true:=by grind[Kw]
      simp only[cQ] at h
      obtain⟨a5,X,W,rfl,V,N⟩:=h
      have hk:=N sz ⟨t,e,true,R,M⟩
      have O:=D.obj l _ R
      simp only[pd] at O
      obtain⟨q1,q2,q3⟩:=O
      have B:pZ ((t.drop s).take (K*sz))=true:=aeA fun c d=>acL (q1 trivial) c (List.mem_of_mem_drop (List.mem_of_mem_take d))
      simp only[cQ]
      refine⟨X,W,rfl,V,B,oQ.XR _ _ _ fun j c d=>?_⟩
      have Z:=acL B c (List.mem_of_getElem? d)
      rw[List.getElem?_take] at d;split at d
      ·rename_i hj
       rw[List.getElem?_drop] at d
       have a1:0<K:=by
        grind
       unfold Ss at hk;split at hk
       ·omega
       ·rename_i b c2 H
        rcases q3 with⟨L,_⟩|⟨b',a0,a4,S,_,r3,_,_,r6⟩
        ·simp_all
        ·rw[H] at S
         simp only[Option.some.injEq,Prod.mk.injEq] at S
         obtain⟨rfl,rfl⟩:=S
         obtain⟨u,hu,T⟩:=r6 _ c d
         refine⟨⟨b,s,none⟩,u,(by grind[ab4]),⟨?_,D.av l b c2 H⟩,?_,?_⟩
         ·rintro⟨i,c3,hi⟩
          obtain⟨k1,k2⟩:=aft hi
          have:=D.dist l i b c2 c3 H k1
          simp_all
         ·grind[am7,World.cell?]
         ·exact cQ.ren (m:=fun _=>none) (fun b _ z=>agQ z) (fun _ _ h=>by cases h) c u c (AV.agO _ c Z) T
       simp_all
      ·cases d
     ·cases d
    grind[Kw]
   grind[Kw]
  grind[Kw]
theorem ey.gy (D:gp A w σ o) {p:Nat->Bool} {o2:Store} (C:Frz o p o2):∀(t:List AV) (E:List Value) (k:List AV),BK o p t=some k->ey A w σ o t E->ey A w (XV o p σ) o2 k E
 |[],E,k,d,h=>by grind[BK,ey]
 |c::t,E,k,d,h=>by
  simp only[BK] at d;split at d
  ·rename_i c1 Y J h2
   injection d with d;subst d
   simp only[ey] at h ⊢
   obtain⟨v,r,rfl,hv,P⟩:=h
   exact⟨v,r,rfl,cQ.gy D C c v c1 J hv,ey.gy D C t r Y h2 P⟩
  ·cases d
end
end
section
variable {A:qa} {w:World} {σ:gB} {o:Store}
theorem pd.gy (D:gp A w σ o) {p:Nat->Bool} {o2:Store} (J:Frz o p o2) {i:Nat} {x y:fZ} (V:o[i]?=some x) (hd:Kw o p i=false) (f:x.gy o p=some y):pd A w (XV o p σ) o2 i y:=by
 have h:=D.obj i x V
 have C:=asB (σ:=σ) hd
 cases x with
 |dead=>grind[fZ.gy,pd]
 |cells t e sz H=>
  simp only[pd] at h
  obtain⟨s,B,z⟩:=h
  have n:∀a,a.length=t.length->(H=true->pZ a=true)->s5 a=true->(∀(j:Nat) (g:AV) (v:Value),a[j]?=some g->(∀c,t[j]?=some c->cQ A w σ o c v->cQ A w (XV o p σ) o2 g v))->pd A w (XV o p σ) o2 i (.cells a e sz H):=by
   intro a k1 O U Q;simp only[pd]
   refine⟨O,U,?_⟩
   rcases z with⟨h0,N⟩|⟨b,F,G,r1,P,R,S,r5,r6⟩
   ·simp_all
   ·refine .inr ⟨b,F,G,by simp_all,P,R,S,by omega,fun j g k=>?_⟩
    have r:j<t.length:=by grind
    obtain⟨v,X,u⟩:=r6 j _ (List.getElem?_eq_getElem r)
    exact⟨v,X,Q j g v k _ (List.getElem?_eq_getElem r) u⟩
  simp only[fZ.gy] at f;split at f
  ·rename_i d
   injection f with f;subst f
   refine n t rfl s B fun j g v k c m u=>?_
   rw[k] at m;injection m with m;subst m
   exact cQ.gy D J g v g (AV.asF o p g (acL (s d) g (List.mem_of_getElem? k))) u
  ·rename_i d
   obtain⟨a,l,rfl⟩:=Option.map_eq_some_iff.1 f
   obtain⟨I,g2⟩:=ani l
   refine n a I (fun E=>absurd E d) (aaE.2 fun c m=>?_) fun j g v k c m u=>?_
   ·obtain⟨j,k⟩:=List.getElem?_of_mem m
    grind[az0,aaE]
   grind[cQ.gy]
 |map es kt H=>
  simp only[pd] at h
  obtain⟨s,B,b,c,K,M,z,L,h5,Y⟩:=h
  simp only[fZ.gy] at f;split at f
  ·rename_i d
   injection f with f;subst f
   simp only[pd]
   refine⟨s,B,b,c,K,M,by simp_all,L,h5,fun j e q=>?_⟩
   obtain⟨W,Z,q2,T⟩:=Y j e q
   exact⟨W,Z,q2,cQ.gy D J e.2 _ e.2 (AV.asF o p e.2 (s d e (List.mem_of_getElem? q))) T⟩
  ·rename_i d
   obtain⟨a0,l,rfl⟩:=Option.map_eq_some_iff.1 f
   obtain⟨I,g2⟩:=asD l
   simp only[pd]
   refine⟨fun E=>absurd E d,fun e q=>?_,b,c,K,M,by rw[C];exact z,L,by omega,fun j e' q=>?_⟩
   ·obtain⟨j,k⟩:=List.getElem?_of_mem q
    grind
   grind[cQ.gy]
theorem gp.gy (e:gp A w σ o) {p:Nat->Bool} {o2:Store} (g:Frz o p o2):gp A w (XV o p σ) o2:=by
 refine⟨by rw[anf,g.len,e.len],fun i j b c d a m=>e.dist i j b c d (aft a).1 (aft m).1,fun i b c a=>e.bnd i b c (aft a).1,fun i y h=>?_,fun i b c a=>e.av i b c (aft a).1,e.QL⟩
 have a:i<o.length:=by have:=(List.getElem?_eq_some_iff.1 h).1;rw[g.len] at this;exact this
 have l:=List.getElem?_eq_getElem a
 rcases g.get i _ l with⟨k,f⟩|⟨k,z,f,n⟩
 ·rw[h] at f
  injection f with f;subst f;simp only[pd]
  rw[ang (by rw[e.len];exact a),k]
  rfl
 grind[pd.gy]
theorem Ext.gy {t:World} {k:gB} {h:Store} (a:Ext t k h w σ o) {p:Nat->Bool} {o2:Store} (m:Frz o p o2) (B:∀i,i<h.length->p i=false):Ext t k h w (XV o p σ) o2 where
 size:=a.size
 blk:=fun b u y=>by
  obtain⟨g,j⟩:=a.blk b u y
  exact⟨g,fun⟨i,c,z⟩=>j ⟨i,c,(aft z).1⟩⟩
 len:=by rw[m.len];exact a.len
 cur:=fun d q l=>by
  obtain⟨g,j⟩:=a.cur d q l
  have r:d<h.length:=by obtain⟨D,e,s,A,x,_⟩:=l;grind
  have n:Kw o p d=false:=by grind[Kw]
  have f:=m.tr (σ:=σ) n
  refine⟨f.agN g,fun s v=>?_⟩
  rw[f.2.2]
  exact j s (f.cur g v)
 isMap:=fun d l=>by
  obtain⟨g,j⟩:=a.isMap d l
  have r:d<h.length:=by obtain⟨C,E,A,x⟩:=l;grind
  have n:Kw o p d=false:=by grind[Kw]
  have f:=m.tr (σ:=σ) n
  exact⟨f.2.1 g,by rw[f.2.2];exact j⟩
 os:=a.os
 tape:=a.tape
 output:=a.output
end
def acO (o:Store) (d:Nat) (id:Nat) (acc:List Nat):List Nat:=
 if acc.contains id then acc else
 match o[id]? with
 |some (.cells b _ _ a)=>if a then acc++[id] else kD o d b (acc++[id])
 |some (.map c _ a)=>if a then acc++[id] else kD o d (c.map (·.2)) (acc++[id])
 |_=>acc++[id]
def afu (o:Store) (d:Nat) (v:AV) (acc:List Nat):List Nat:=
 match v with
 | .agg e| .eW e=>kD o d e acc
 | .ptr c _ _| .os c _ _ _| .mp c=>acO o d c acc
 | .fn _ a b=>kD o d b (kD o d a acc)
 |_=>acc
theorem air (o:Store) (d:Nat) (v:AV) (vs:List AV) (acc:List Nat):kD o (d+1) (v::vs) acc=kD o d vs (afu o d v acc):=by
 cases v<;>rfl
theorem ais:∀(a:List Nat) (o X:Store),(XL o a X).length=o.length
 |[],o,X=>by cases X<;>rfl
 |i::r,o,[]=>rfl
 |i::r,o,x::l=>by simp only[XL];rw[ais r];simp
theorem akC:∀(a:List Nat) (o X:Store) (j:Nat),j∉a->(XL o a X)[j]?=o[j]?
 |[],o,X,j,_=>by cases X<;>rfl
 |i::r,o,[],j,_=>rfl
 |i::r,o,x::l,j,h=>by
  simp only[List.mem_cons,not_or] at h;simp only[XL];rw[akC r _ l j h.2,List.getElem?_set_ne (Ne.symm h.1)]
theorem anj {m:Nat->Option Nat}:∀{o o':Store},adX m o=some o'->o'.length=o.length
 |[],o',h=>by grind[adX]
 |x::r,o',h=>by
  simp only[adX] at h;split at h
  ·rename_i y l b a;injection h with h;subst h;simp[anj a]
  ·cases h
theorem aeD (o:Store):∀(d:Nat) (vs:List AV) (acc:List Nat),∃t,kD o d vs acc=acc++t
 |0,vs,acc=>⟨[],by grind[kD]⟩
 |d+1,[],acc=>⟨[],by simp[kD]⟩
 |d+1,v::vs,acc=>by
  rw[air]
  have e:∀c,∃t,acO o d c acc=acc++t:=by
   intro c;unfold acO;split
   ·simp_all
   ·split
    ·split
     ·simp_all
     ·obtain⟨t,h⟩:=aeD o d ‹_› (acc++[c]);simp_all
    ·split
     ·simp_all
     ·rename_i m _ _ _ _;obtain⟨t,h⟩:=aeD o d (m.map (·.2)) (acc++[c]);simp_all
    simp_all
  have j:∃t,afu o d v acc=acc++t:=by
   cases v with
   |agg g=>exact aeD o d g acc
   |eW g=>exact aeD o d g acc
   |ptr c _ _=>exact e c
   |os c _ _ _=>exact e c
   |mp c=>exact e c
   |fn f a b=>
    obtain⟨i,n⟩:=aeD o d a acc
    obtain⟨l,p⟩:=aeD o d b (acc++i)
    grind[afu]
   |_=>exact⟨[],by simp[afu]⟩
  obtain⟨t,h⟩:=j
  obtain⟨l,k⟩:=aeD o d vs (acc++t)
  simp_all
theorem agR:∀{b:List Nat} {i k j:Nat},idxOf b i k=some j->k<=j/\b[j - k]?=some i
 |[],i,k,j,h=>by grind[idxOf]
 |a::r,i,k,j,h=>by
  simp only[idxOf] at h;split at h
  ·simp_all
  ·obtain⟨d,c⟩:=agR h
   grind
theorem akD:∀{l:List Nat},Hh.ab0 l=true->l.Nodup
 |[],_=>List.nodup_nil
 |a::r,h=>by
  simp only[Hh.ab0,Bool.and_eq_true,Bool.not_eq_true',List.contains_eq_mem,decide_eq_false_iff_not] at h
  exact List.nodup_cons.2 ⟨h.1,akD h.2⟩
theorem agS {o:Store} {b:List Nat}:∀{r:List Nat} {s:Store},S0 o b r=some s->s.length=r.length/\∀(j i:Nat),r[j]?=some i->∃x y,o[i]?=some x/\x.ren (fun j=>idxOf b j)=some y/\s[j]?=some y
 |[],s,h=>by grind[S0]
 |a::r,s,h=>by
  simp only[S0] at h;split at h
  ·rename_i x l f c
   obtain⟨y,d,rfl⟩:=Option.map_eq_some_iff.1 h
   obtain⟨g,e⟩:=agS c
   grind
  ·cases h
theorem akE {m:Nat->Option Nat}:∀{o o':Store},adX m o=some o'->∀(i:Nat) (x:fZ),o[i]?=some x->∃y,x.ren m=some y/\o'[i]?=some y
 |[],o',h,i,x,b=>by simp at b
 |a::r,o',h,i,x,b=>by
  simp only[adX] at h;split at h
  ·rename_i y l f c
   injection h with h;subst h
   cases i with
   |zero=>simp_all
   |succ i=>obtain⟨z,e,d⟩:=akE c i x (by simp_all);simp_all
  ·cases h
theorem asH {m:Nat->Option Nat} {cs:List AV} {e:TypeId} {sz:Nat} {pu:Bool} {y:fZ} (h:(fZ.cells cs e sz pu).ren m=some y):∃a,y= .cells a e sz pu/\a.length=cs.length:=by
 simp only[fZ.ren] at h;split at h
 ·grind
 ·obtain⟨a,b,rfl⟩:=Option.map_eq_some_iff.1 h;grind[anb]
theorem asI {m:Nat->Option Nat} {es:List (Value×AV)} {b:List Nat×Bool} {pu:Bool} {y:fZ} (h:(fZ.map es b pu).ren m=some y):∃a,y= .map a b pu:=by
 simp only[fZ.ren] at h;split at h
 ·grind
 ·obtain⟨a,c,rfl⟩:=Option.map_eq_some_iff.1 h;simp_all
def XX (σ:gB) (a:List Nat):gB:=a.map fun i=>(σ[i]?).getD none
section
variable {A A':qa} {w:World} {σ:gB} {o s:Store} {ids:List Nat}
theorem adj {j:Nat} {t:Nat×Nat} (h:(XX σ ids)[j]?=some (some t)):∃i,ids[j]?=some i/\σ[i]?=some (some t):=by
 grind[XX]
theorem ank (a:σ.length=o.length) (b:S0 o ids ids=some s) {j i:Nat} (c:ids[j]?=some i):(XX σ ids)[j]?=σ[i]?:=by
 obtain⟨_,d⟩:=agS b
 grind[XX]
theorem afv (c:σ.length=o.length) (i:S0 o ids ids=some s) {id a:Nat} (h:idxOf ids id=some a):Tr o σ s (XX σ ids) id a:=by
 obtain⟨_,f⟩:=agR h
 simp only[Nat.sub_zero] at f
 obtain⟨_,n⟩:=agS i
 obtain⟨x,y,m,l,d⟩:=n a id f
 refine⟨fun r e q j b=>?_,fun⟨p,k,j,b⟩=>?_,ank c i f⟩
 ·grind[asH]
 ·rw[m] at b;injection b with b;subst b
  obtain⟨g,rfl⟩:=asI l
  exact⟨g,k,j,d⟩
theorem gp.sub [aa9 A A'] (f:gp A w σ o) (u:ids.Nodup) (n:S0 o ids ids=some s) (E:∀b,b<w.heap.size->Fr A σ b->Fr A' (XX σ ids) b)
  (D:∀i∈ids,∀b c,σ[i]?=some (some (b,c))->¬A' b) (g:∀b,A' b->b<w.heap.size):gp A' w (XX σ ids) s:=by
 obtain⟨F,B⟩:=agS n
 refine⟨by grind[XX],fun i j b c d m l=>?_,fun i b c m=>?_,fun j y C=>?_,fun i b c m=>?_,g⟩
 ·obtain⟨x,k,e⟩:=adj m
  obtain⟨z,t,p⟩:=adj l
  have:=f.dist x z b c d e p
  subst this
  exact(List.getElem?_inj (List.getElem?_eq_some_iff.1 k).1 u).1 (k.trans t.symm)
 ·obtain⟨x,k,e⟩:=adj m
  exact f.bnd x b c e
 ·have q:j<ids.length:=by grind
  have l:=List.getElem?_eq_getElem q
  obtain⟨x,H,k,r,a⟩:=B j _ l
  rw[C] at a;injection a with a;subst a
  exact pd.ren E (fun G v h=>afv f.len n h) r (ank f.len n l) (f.obj _ x k)
 grind[adj]
theorem az1 {o':Store} {U:World} {H:gB} {p:Store} (Z:gp A w σ o) (hE:Ext U H p w σ o) {V r:AV} {u:Value} (hr:cQ A w σ o V u) (g:XP p.length V o=some (r,o')):
  ∃F,gp A w F o'/\cQ A w F o' r u/\Ext U H p w F o':=by
 unfold XP at g;split at g
 ·rename_i Y o1 S O
  have N:=asG O
  have f:=Z.gy N
  have d:=hE.gy N (fun i z=>by simp_all)
  have C:=cQ.gy Z N _ _ _ S hr
  simp only at g
  generalize zl (fun i=>decide (p.length<=i)) 0 o1=M at g N f d C
  generalize XV o (fun i=>decide (p.length<=i)) σ=D at f d C
  obtain⟨t,ht⟩:=aeD M zd (Y::(M.take p.length).flatMap XP.fZ.avs) (List.range p.length)
  generalize kD M zd (Y::(M.take p.length).flatMap XP.fZ.avs) (List.range p.length)=n at g ht
  split at g
  ·rename_i L
   split at g
   ·rename_i r2 s2 Q s
    simp only[Option.some.injEq,Prod.mk.injEq] at g
    obtain⟨rfl,rfl⟩:=g
    have J:∀b,b<w.heap.size->Fr A D b->Fr A (XX D n) b:=fun b _ g=>⟨fun⟨i,c,z⟩=>by
     obtain⟨x,hx,B⟩:=adj z
     exact g.1 ⟨x,c,B⟩,g.2⟩
    have K:∀i,i<p.length->n[i]?=some i:=by
     grind
    have y:∀i,i<p.length->idxOf n i=some i:=by
     intro i z
     have T:i∈n:=List.mem_of_getElem? (K i z)
     have:∃j,idxOf n i=some j:=by
      have a0:∀(l:List Nat) (k:Nat),i∈l->∃j,idxOf l i k=some j:=by
       intro l
       induction l with
       |nil=>simp_all
       |cons a l ih=>
        intro k h;simp only[idxOf];split
        ·simp_all
        ·rename_i P
         refine ih (k+1) ((List.mem_cons.1 h).resolve_left fun q=>P (by simp[q]))
      simp_all
     obtain⟨j,W⟩:=this
     obtain⟨_,q⟩:=agR W
     simp only[Nat.sub_zero] at q
     have:=(List.getElem?_inj (List.getElem?_eq_some_iff.1 q).1 (akD L)).1 (q.trans (K i z).symm)
     rw[W,this]
    refine⟨XX D n,f.sub (akD L) s J (fun i _ b c h=>f.av i b c h) f.QL,cQ.ren J (fun v a1 h=>afv f.len s h) _ _ _ Q C,d.size,fun b hb hn=>?_,?_,fun v R I=>?_,fun v I=>?_,d.os,d.tape,d.output⟩
    ·obtain⟨G,q⟩:=d.blk b hb hn
     refine⟨G,fun⟨i,c,z⟩=>?_⟩
     obtain⟨x,hx,B⟩:=adj z
     exact q ⟨x,c,B⟩
    ·grind[agS]
    ·obtain⟨G,q⟩:=d.cur v R I
     have E:v<p.length:=by obtain⟨cs,e,X,pu,ho,_⟩:=I;grind
     have m:=afv f.len s (y v E)
     refine⟨m.agN G,fun X hc=>?_⟩
     rw[m.2.2]
     exact q X (m.cur G hc)
    ·obtain⟨G,q⟩:=d.isMap v I
     have E:v<p.length:=by obtain⟨es,kt,pu,ho⟩:=I;grind
     have m:=afv f.len s (y v E)
     exact⟨m.2.1 G,by rw[m.2.2];exact q⟩
   ·cases g
  ·cases g
 ·cases g
end
theorem asJ:∀(b:List Nat) (o X:Store) (j i:Nat) (x:fZ),b.Nodup->b[j]?=some i->i<o.length->X[j]?=some x->(XL o b X)[i]?=some x
 |[],o,X,j,i,x,_,c,_,_=>by simp at c
 |a::r,o,[],j,i,x,_,_,_,d=>by simp at d
 |a::r,o,y::l,j,i,x,e,c,f,d=>by
  rw[List.nodup_cons] at e;simp only[XL]
  cases j with
  |zero=>
   grind[akC]
  |succ j=>
   simp only[List.getElem?_cons_succ] at c d
   exact asJ r _ l j i x e.2 c (by simp_all) d
theorem anl {i:Nat}:∀{l:List Nat} {k:Nat},i∈l->∃j,idxOf l i k=some j
 |[],k,h=>by simp at h
 |a::l,k,h=>by
  simp only[idxOf];split
  ·simp_all
  ·rename_i b
   exact anl ((List.mem_cons.1 h).resolve_left fun c=>b (by simp[c]))
def ab6 (σ b:gB) (a:List Nat):gB:=
 ((List.range σ.length).map fun i=>match idxOf a i with|some j=>(b[j]?).getD none|none=>(σ[i]?).getD none)++b.drop a.length
section
variable {A:qa} {w:World} {σ:gB} {o:Store}
theorem az2 {P:Program} {call:lU} (a9:ab5 P call) (v:gp A w σ o) {f:FuncId} {args:List AV} {vs:List Value} (hr:ey A w σ o args vs)
  {r:AV} {o':Store} (J:Hh call f args o=some (r,o')):
  By P f=true/\Calls P f vs.toArray w fun e w'=>∃u g,e= .returned u/\gp A w' g o'/\cQ A w' g o' r u/\Ext w σ o w' g o':=by
 unfold Hh at J
 simp only at J
 generalize kD o zd args []=a at J
 split at J
 ·rename_i U T ha I
  split at J
  ·rename_i r1 n c1
   split at J
   ·cases J
   ·rename_i Q
    simp only[not_or,Bool.not_eq_false,Nat.not_lt] at Q
    obtain⟨d2,a1⟩:=Q
    have a1:=akD a1
    split at J
    ·rename_i r2 b9 c0 S
     simp only[Option.some.injEq,Prod.mk.injEq] at J
     obtain⟨rfl,d3⟩:=J
     obtain⟨hg,c2,_⟩:=a9 _ _ _ _ _ _ c1
     refine⟨hg,?_⟩
     have d0:=agS I
     have b2:∀(j i:Nat),a[j]?=some i->i<o.length:=fun j i m=>by
      grind
     have d4:=fun {j i:Nat} (m:a[j]?=some i)=>ank v.len I m
     obtain⟨N,s,a5⟩:∃N:qa,(∀b,N b↔(A b\/(Own σ b/\¬Own (XX σ a) b)))/\N.l=A.l:=⟨⟨fun b=>A b\/(Own σ b/\¬Own (XX σ a) b),A.l⟩,fun b=>Iff.rfl,rfl⟩
     haveI:aa9 A N:=⟨a5⟩
     haveI:aa9 N A:=⟨a5.symm⟩
     have b4:∀b,b<w.heap.size->Fr A σ b->Fr N (XX σ a) b:=fun b _ hf=>⟨fun⟨i,c,p⟩=>by
      obtain⟨x,hx,G⟩:=adj p
      exact hf.1 ⟨x,c,G⟩,fun h=>((s b).1 h).elim hf.2 fun h=>hf.1 h.1⟩
     have c6:gp N w (XX σ a) T:=v.sub a1 I b4 (fun i p b c h hA=>by
      rcases(s b).1 hA with q|⟨_,q⟩
      ·exact v.av i b c h q
      ·obtain⟨j,m⟩:=List.getElem?_of_mem p
       exact q ⟨j,c,by simp_all⟩) (fun b h=>((s b).1 h).elim (v.QL b) fun⟨⟨i,c,p⟩,_⟩=>v.bnd i b c p)
     have b1:ey N w (XX σ a) T U vs:=ey.ren b4 (fun D d6 h=>afv v.len I h) args vs U ha hr
     refine(c2 N w _ vs c6 b1).mono ?_
     rintro e w' ⟨u,g,rfl,C,c7,X⟩
     have d5:=anj S
     have hN:=v.len
     have b7:(ab6 σ g a).length=o.length+(n.length - a.length):=by simp[ab6,hN,C.len]
     have a7:o'.length=o.length+(n.length - a.length):=by grind[ais]
     have a8:∀i,i<o.length->idxOf a i=none->(ab6 σ g a)[i]?=σ[i]?/\o'[i]?=o[i]?/\i∉a:=by
      intro i p hn
      have d1:i∉a:=fun h=>by obtain⟨j,m⟩:=anl (k:=0) h;simp_all
      grind[ab6,akC]
     have b6:∀j t,abB a o.length j=some t->(ab6 σ g a)[t]?=g[j]?/\o'[t]?=b9[j]?:=by
      intro j t m;unfold abB at m;split at m
      ·rename_i i K
       injection m with m;subst m
       have p:=b2 j i K
       have c3:j<a.length:=(List.getElem?_eq_some_iff.1 K).1
       obtain⟨j2,E⟩:=anl (k:=0) (List.mem_of_getElem? K)
       have B:=(agR E).2
       simp only[Nat.sub_zero] at B
       have:=(List.getElem?_inj (List.getElem?_eq_some_iff.1 B).1 a1).1 (B.trans K.symm)
       subst this
       constructor
       ·unfold ab6
        rw[List.getElem?_append_left (by simp;omega)]
        have:j2<g.length:=by rw[C.len];omega
        simp_all
       grind[asJ]
      ·rename_i K
       injection m with m;subst m
       have c3:=List.getElem?_eq_none_iff.1 K
       constructor
       ·unfold ab6
        rw[List.getElem?_append_right (by simp;omega)]
        simp_all
       grind
     have b8:∀i,i<o'.length->(∃j,j<n.length/\abB a o.length j=some i)\/(i<o.length/\idxOf a i=none):=by
      intro i p;rw[a7] at p
      rcases Nat.lt_or_ge i o.length with q|q
      ·cases hq:idxOf a i with
       |none=>exact .inr ⟨q,rfl⟩
       |some j=>
        left
        have B:=(agR hq).2
        simp only[Nat.sub_zero] at B
        have:=(List.getElem?_eq_some_iff.1 B).1
        exact⟨j,by omega,by simp[abB,B]⟩
      grind[abB]
     have F:∀i b c,i<o.length->idxOf a i=none->σ[i]?=some (some (b,c))->N b:=by
      intro i b c p hn hs
      refine(s b).2 (.inr ⟨⟨i,c,hs⟩,?_⟩)
      rintro⟨j,d,m⟩
      obtain⟨x,hx,G⟩:=adj m
      have:=v.dist i x b c d hs G
      grind
     have L:∀i b c,(ab6 σ g a)[i]?=some (some (b,c))->(∃j,abB a o.length j=some i/\g[j]?=some (some (b,c)))\/(i<o.length/\idxOf a i=none/\σ[i]?=some (some (b,c))):=by
      grind
     have a3:∀j t,abB a o.length j=some t->Tr n g o' (ab6 σ g a) j t:=by
      intro j t m
      obtain⟨Y,W⟩:=b6 j t m
      refine⟨fun cs e sz Z ho=>?_,fun⟨es,kt,Z,ho⟩=>?_,Y⟩
      ·grind[akE,asH]
      ·obtain⟨y,hy,c5⟩:=akE S j _ ho
       obtain⟨c8,rfl⟩:=asI hy
       exact⟨c8,kt,Z,by rw[W];exact c5⟩
     have a6:∀b,b<w'.heap.size->Fr N g b->Fr A (ab6 σ g a) b:=by
      intro b _ hf
      refine⟨?_,fun h=>hf.2 ((s b).2 (.inl h))⟩
      rintro⟨i,c,p⟩
      rcases L i b c p with⟨j,_,m⟩|⟨q,H,M⟩
      ·exact hf.1 ⟨j,c,m⟩
      ·exact hf.2 (F i b c q H M)
     have a0:∀i b c,i<o.length->idxOf a i=none->σ[i]?=some (some (b,c))->¬Own (XX σ a) b:=by
      rintro i b c p hn hs ⟨j,d,m⟩
      obtain⟨x,hx,G⟩:=adj m
      have:=v.dist i x b c d hs G
      grind
     have R:∀b,Own (XX σ a) b->Own σ b:=fun b ⟨i,c,p⟩=>by
      obtain⟨x,hx,G⟩:=adj p
      exact⟨x,c,G⟩
     have O:∀D,D<o.length->∀j,idxOf a D=some j->abB a o.length j=some D:=by
      intro D _ j m
      have B:=(agR m).2
      grind[abB]
     have b5:Ext w σ o w' (ab6 σ g a) o':=by
      refine⟨X.size,fun b hb hn=>?_,by omega,fun D c4 a2=>?_,fun D hm=>?_,X.os,X.tape,X.output⟩
      ·obtain⟨q,H⟩:=X.blk b hb fun h=>hn (R b h)
       refine⟨q,?_⟩
       rintro⟨i,c,p⟩
       rcases L i b c p with⟨j,_,m⟩|⟨_,_,M⟩
       ·exact H ⟨j,c,m⟩
       ·exact hn ⟨i,c,M⟩
      ·have V:D<o.length:=by obtain⟨cs,e,sz,Z,ho,_⟩:=a2;grind
       cases hq:idxOf a D with
       |none=>
        obtain⟨l1,l2,_⟩:=a8 D V hq
        refine⟨?_,fun sz b0=>⟨?_,l1⟩⟩
        ·obtain⟨cs,e,sz,Z,ho,hl⟩:=a2
         exact⟨cs,e,sz,Z,by grind,hl⟩
        ·obtain⟨cs,e,Z,ho,hl⟩:=b0
         exact⟨cs,e,Z,by grind,hl⟩
       |some j=>
        have Y:=afv v.len I hq
        have W:=a3 j D (O D V j hq)
        obtain⟨q,H⟩:=X.cur j c4 (Y.agN a2)
        refine⟨W.agN q,fun sz b0=>?_⟩
        obtain⟨M,h4⟩:=H sz (W.cur q b0)
        exact⟨Y.cur a2 M,by rw[W.2.2,h4,Y.2.2]⟩
      ·have V:D<o.length:=by obtain⟨es,kt,Z,ho⟩:=hm;grind
       cases hq:idxOf a D with
       |none=>
        obtain⟨l1,l2,_⟩:=a8 D V hq
        obtain⟨es,kt,Z,ho⟩:=hm
        exact⟨⟨es,kt,Z,by grind⟩,l1⟩
       |some j=>
        have Y:=afv v.len I hq
        have W:=a3 j D (O D V j hq)
        obtain⟨q,H⟩:=X.isMap j (Y.2.1 hm)
        exact⟨W.2.1 q,by rw[W.2.2,H,Y.2.2]⟩
     refine⟨u,ab6 σ g a,rfl,⟨by omega,fun i k b c d p hk=>?_,fun i b c p=>?_,fun i y hy=>?_,fun i b c p=>?_,fun b hb=>Nat.lt_of_lt_of_le (v.QL b hb) X.size⟩,cQ.ren a6 a3 _ _ _ c0 c7,b5⟩
     ·rcases L i b c p with⟨j,m,E⟩|⟨q,H,M⟩<;>rcases L k b d hk with⟨l,hl,b3⟩|⟨g1,g2,g3⟩
      ·have:=C.dist j l b c d E b3
       grind
      ·exact absurd (F k b d g1 g2 g3) (C.av j b c E)
      ·exact absurd (F i b c q H M) (C.av l b d b3)
      ·exact v.dist i k b c d M g3
     ·rcases L i b c p with⟨j,m,E⟩|⟨q,H,M⟩
      ·exact C.bnd j b c E
      ·exact Nat.lt_of_lt_of_le (v.bnd i b c M) X.size
     ·rcases b8 i (List.getElem?_eq_some_iff.1 hy).1 with⟨j,c9,m⟩|⟨q,H⟩
      ·have hx:=List.getElem?_eq_getElem c9
       obtain⟨z,hz,a4⟩:=akE S j _ hx
       obtain⟨Y,W⟩:=b6 j i m
       rw[<-W,hy] at a4;injection a4 with a4;subst a4
       exact pd.ren a6 a3 hz Y (C.obj j _ hx)
      ·obtain⟨l1,l2,_⟩:=a8 i q H
       rw[l2] at hy
       exact(v.obj i y hy).ext b5 l1 fun b c hb=>(X.blk b (v.bnd i b c hb) (a0 i b c q H hb)).1
     ·rcases L i b c p with⟨j,m,E⟩|⟨q,H,M⟩
      ·exact fun h=>C.av j b c E ((s b).2 (.inl h))
      ·exact v.av i b c M
    ·cases J
  ·cases J
 ·cases J
end
section
variable {P:Program} {A:qa} {D:List Deferred} {w w':World} {σ σ':gB} {o o':Store}
theorem az3 {call:lU} (b:ab5 P call) (d:gp A w σ o) {f:FuncId} {args:List AV} {vs:List Value} (g:ey A w σ o args vs) {own:Bool} {r:AV} (c:Gj call f args o own=some (r,o')):
  By P f=true/\Calls P f vs.toArray w fun e w'=>∃u a,e= .returned u/\gp A w' a o'/\cQ A w' a o' r u/\Ext w σ o w' a o':=by
 grind[Gj,az2,azZ]
theorem anm {f:FuncId} (b:By P f=true) (args:Array Value) (w:World):(callFunc f args).run P w= .ok (.enter f args) w:=by
 unfold By at b
 cases c:P.funcs[f]? with
 |none=>simp_all
 |some a=>
  simp only[c,Option.any_some,Bool.and_eq_true,Bool.not_eq_true'] at b
  have d:a.body.isNone=false:=by simp_all
  have e:¬a.name= "runtime.NumGoroutine" :=by
   simp_all
  have g:¬a.body=none:=by grind
  simp_all[callFunc]
theorem az4 {fl:Bool} {a:Oper} {b:kh} (d:ab3 P fl a=some b) (h:b.acM=true):
  ∃c:Call,a.op= .call c/\((∃f,c.callee= .value (.func f)/\b= .call f c.args.toList fl)\/∃x,c.callee= .value x/\b= .MC x c.args.toList fl):=by
 cases e:a.op
 case call c=>
  refine⟨c,rfl,?_⟩
  simp only[ab3,e] at d
  grind[kh.acM]
 case buildSlice=>
  grind[ab3,kh.acM]
 case slice t x i g j=>
  grind[ab3,kh.acM]
 case makeMap t r=>
  grind[ab3,kh.acM]
 all_goals
  exfalso
  simp only[ab3,e,reduceCtorEq] at d
  try (repeat' (split at d))<;>first
   |(cases d;done)
   |(injection d with d;subst d;simp[kh.acM] at h;done)
   |(obtain⟨_,_,rfl⟩:=Option.map_eq_some_iff.1 d;simp[kh.acM] at h;done)
def FR (my:Option Nat):Fence:={Fence.wide with round:=my}
theorem az5 {my:Option Nat} {n:Nat} {f:FuncId} {args:Array Value} {R:Ending->World->Prop} (h:Calls P f args w R):CallsIn (FR my) n P f args w R:=
 (callsIn_wide (n:=n)).2 h
theorem az6 {fl:Bool} {a:Oper} {b:kh} (d:ab3 P fl a=some b) (c:Call):a.op≠ .defer c:=by
 grind[ab3]
theorem az7 {call:lU} (r:ab5 P call) {fl:Bool} {b:Oper} {q:kh} (J:ab3 P fl b=some q) (O:gp A w σ o) {l:Operand->AV} {a:Act} (m:∀x,cQ A w σ o (l x) (a.eval x)) {ei:Nat} {v:AV}
  (p:eff call q l o ei=some (v,o')) {j:Act->World->Prop} {Q:Exit->Act->World->Prop}
  (R:∀u w' s,gp A w' s o'->cQ A w' s o' v u->Ext w σ o w' s o'->j (a.put b.dst u) w') {my:Option Nat}:b.wpIn (FR my) 0 P a w j Q:=by
 have n:b.semAt (FR my).round a.eval=execOp a.eval b:=Oper.semAt_eq _ _ _ (az6 J)
 by_cases G:q.acM=false
 ·obtain⟨u,N,E,d,y,S,M⟩:=azU J G O m p
  unfold Oper.wpIn;rw[n]
  refine⟨fun _ _=>trivial,?_⟩
  rcases d with d|⟨d,rfl⟩
  ·rw[d]
   exact R u N E y S M
  ·rw[d]
   exact R undef N E y S M
 ·
  have D:∀(f:FuncId) (i:List AV) (I:List Value) (z:Bool),ey A w σ o i I->Gj call f i o z=some (v,o')->
    (By P f=true->(execOp a.eval b).run P w= .ok (.enter f I.toArray) w)->b.wpIn (FR my) 0 P a w j Q:=by
   intro f i I z W L F
   obtain⟨C,H⟩:=az3 r O W L
   unfold Oper.wpIn;rw[n,F C]
   refine⟨fun _ _=>trivial,fun h=>by grind[FR,Fence.wide],(az5 H).mono ?_⟩
   grind
  obtain⟨c,B,Z⟩:=az4 J (by simp_all)
  rw[aif] at p
  rcases Z with⟨f,k,rfl⟩|⟨x,k,rfl⟩
  ·simp only[fi] at p
   refine D f (c.args.toList.map l) (c.args.toList.map a.eval) fl (agI m _) p fun C=>?_
   simp only[execOp,B,resolve,k]
   simp[Act.eval,Deferred.ofValue,invoke,anm C]
   grind
  ·simp only[fi] at p
   split at p
   ·rename_i g t e X
    have y:=m x
    rw[X] at y;simp only[cQ] at y
    obtain⟨V,T,U,Y,K⟩:=y
    refine D g (t++c.args.toList.map l++e) (V.toList++c.args.toList.map a.eval++T.toList) fl (ey.append (ey.append Y (agI m _)) K) p fun C=>?_
    simp only[execOp,B,resolve,k]
    simp[U,fnL,Deferred.ofValue,invoke,anm C]
   ·cases p
def MkD (b w:World) (a:List Deferred):Prop:=
 a.Pairwise (fun d e=>d.target≠e.target)/\∀d∈a,∃r,d={target:=.collected r,args:=#[]}/\b.heap.size<=r/\w.heap[r]?=some (.deferred (some []))
theorem gp.ano (d:gp A w σ o) {r:Nat} {x:Obj} (h:w.heap[r]?=some x) (g:∀a b c,x≠ .cells a b c) (l:∀a b,x≠ .map a b):¬Own σ r:=by
 rintro⟨i,c,k⟩
 have f:i<o.length:=by rw[<-d.len];grind
 have e:=d.obj i _ (List.getElem?_eq_getElem f)
 cases j:o[i]<;>grind[pd,Prod.mk.injEq]
theorem MkD.ext {c:World} {b:List Deferred} (h:MkD c w b) (e:gp A w σ o) (i:Ext w σ o w' σ' o'):MkD c w' b:=
 ⟨h.1,fun d g=>by
  obtain⟨r,j,f,a⟩:=h.2 d g
  exact⟨r,j,f,by rw[(i.blk r (Array.getElem?_eq_some_iff.1 a).1 (e.ano a (by simp) (by simp))).1];exact a⟩⟩
def DfO (D:List Deferred) (b w:World) (c:List Deferred):Prop:=∃a,c=a++D/\MkD b w a
theorem DfO.ext {b:World} {D a:List Deferred} (h:DfO D b w a) (c:gp A w σ o) (f:Ext w σ o w' σ' o'):DfO D b w' a:=by
 obtain⟨d,g,e⟩:=h
 exact⟨d,g,e.ext c f⟩
structure lh (A:qa) (nt:Nat) (D:List Deferred) (w0:World) (XY:gB) (o0:Store) (st:St) (a:Act) (w:World) (σ:gB):Prop where
 vy:gp A w σ st.o
 env:∀s,cQ A w σ st.o (pI st.env s) (a.tmps.getD s undef)
 size:a.tmps.size=nt
 defers:DfO D w0 w a.defers
 ext:Ext w0 XY o0 w σ st.o
theorem az8 (v:Value):cQ A w σ o (.aff v) v:=by
 cases v<;>simp only[AV.aff]<;>try (simp[cQ,Value.oneCell'];done)
 grind[cQ,agG]
theorem lh.ev {d:Nat} {e:World} {b:gB} {c:Store} {st:St} {a:Act} (h:lh A d D e b c st a w σ) (x:Operand):cQ A w σ st.o (s4 st.env x) (a.eval x):=by
 cases x with
 |tmp t=>exact h.env t
 |const v=>exact az8 v
 |global g=>simp[s4,cQ]
 |func f=>simp only[s4,Act.eval,cQ];exact⟨#[],#[],rfl,by simp[ey],by simp[ey]⟩
theorem az9 {a:Act} {b:Option Tmp} {u:Value} {c:Nat} (f:a.tmps.size=c) (e:akj c b=true) (s:Nat):
  (a.put b u).tmps.getD s undef=if b=some s then u else a.tmps.getD s undef:=by
 cases b with
 |none=>simp[Act.put]
 |some d=>
  simp only[akj,decide_eq_true_eq] at e;simp only[Act.put,Option.some.injEq]
  by_cases h:d=s<;>simp_all
theorem asK (a:Act) (b:Option Tmp) (u:Value):(a.put b u).tmps.size=a.tmps.size/\(a.put b u).defers=a.defers:=by
 cases b<;>simp[Act.put]
theorem afw (env:Ku) (a:Option Nat) (v:AV) (s:Nat):pI (abx env a v) s=if a=some s then v else pI env s:=by
 cases a with
 |none=>simp[abx]
 |some d=>
  simp_all[abx,pI]
theorem lh.put {e:Nat} {g:World} {c:gB} {f:Store} {st:St} {a:Act} (h:lh A e D g c f st a w σ) (k:gp A w' σ' o') (d:Ext w σ st.o w' σ' o') {b:Option Tmp} (i:akj e b=true) {v:AV} {u:Value} (j:cQ A w' σ' o' v u):
  lh A e D g c f ⟨abx st.env b v,o'⟩ (a.put b u) w' σ' where
 vy:=k
 env:=fun s=>by
  simp only[afw,az9 h.size i];split
  ·exact j
  ·exact(h.env s).ext d
 size:=by rw[(asK _ _ _).1];exact h.size
 defers:=by rw[(asK _ _ _).2];exact h.defers.ext h.vy d
 ext:=h.ext.trans d
theorem asL {x:Nat} {v:World} {l:gB} {p:Store} {st:St} {a:Act} (h:lh A x D v l p st a w σ) {f:Array Oper} {d:Oper} {b:Bool}
  (e:Zo st.env (d.guard.map fun g=>(((f[g.1]?).bind (·.dst)),g.2))=some b):Region.wanted d (yielded f a.tmps)=b:=by
 unfold Region.wanted
 cases u:d.guard with
 |none=>grind[Zo]
 |some g=>
  obtain⟨j,q⟩:=g
  simp only[u,Option.map_some,Zo] at e
  cases n:(f[j]?).bind (·.dst) with
  |none=>simp_all
  |some s=>
   simp only[n] at e
   have i:=h.env s
   simp only[yielded,n,Option.bind_some];split at e
   ·rename_i c m
    injection e with e;rw[m] at i
    have k:=B0 i
    have o:a.tmps[s]?=some (.bool c):=by
     rw[Array.getD_eq_getD_getElem?] at k
     grind[undef]
    simp_all
   ·rename_i m
    injection e with e;rw[m] at i;simp only[cQ,ey] at i
    obtain⟨r,k,o⟩:=i
    have t:r=#[]:=Array.ext' (by omega)
    subst t
    have o:a.tmps[s]?=some (.tuple #[])\/a.tmps[s]?=none:=by
     rw[Array.getD_eq_getD_getElem?] at k
     grind
    grind
   ·cases e
theorem asM {call:lU} (e:ab5 P call) {j:Nat} {fl:List Nat} {c:Array Oper} {ei k:Nat} {i:og} (f:adg P j fl c ei k=some i) {base:Nat} {st st':St} (b:EE call base i st=some st')
  {t:World} {g:gB} {p:Store} {a:Act} (h:lh A j D t g p st a w σ) {K:Act->World->Prop} {Q:Exit->Act->World->Prop} (o:∀s w' d,lh A j D t g p st' s w' d->K s w') {my:Option Nat}:wpOpIn (FR my) 0 P c Q k K a w:=by
 unfold adg at f
 cases q:c[k]? with
 |none=>simp_all
 |some n=>
  simp only[q] at f;split at f
  ·rename_i r
   obtain⟨E,l,rfl⟩:=Option.map_eq_some_iff.1 f
   unfold wpOpIn;simp only[q];simp only[EE] at b;split at b
   ·cases b
   ·rename_i m
    have:=asL h m
    rw[this];injection b with b;subst b;simp only[Bool.false_eq_true,if_false]
    exact⟨fun _ _=>trivial,o _ _ σ (h.put h.vy (Ext.refl _ _ _) r (by simp only[cQ];exact⟨#[],rfl,by simp[ey]⟩))⟩
   ·rename_i m
    have:=asL h m
    rw[this];simp only[if_true];split at b
    ·rename_i v C z
     injection b with b;subst b
     exact az7 e l h.vy h.ev z fun u w' d B x y=>o _ _ d (h.put B y r x)
    ·cases b
  ·cases f
theorem asN {call:lU} (c:ab5 P call) {o:Nat} {fl:List Nat} {f:Array Oper} {base:Nat} {u:World} {g:gB} {s:Store} {Q:Exit->Act->World->Prop} {my:Option Nat}:
  ∀(l:List og) (b:List Nat),l.length=b.length->(∀(j:Nat) (i:og) (k:Nat),l[j]?=some i->b[j]?=some k->∃ei,adg P o fl f ei k=some i)->∀(st st':St) (a:Act) (w:World) (σ:gB),
   An call base l st=some st'->lh A o D u g s st a w σ->(∀m w' d,lh A o D u g s st' m w' d->Q .normal m w')->wpOpsIn (FR my) 0 P f Q b a w
 |[],[],_,_,st,st',a,w,σ,e,h,p=>by
  simp only[An,Option.some.injEq] at e;subst e
  exact p a w σ h
 |[],_::_,n,_,_,_,_,_,_,_,_,_=>by simp at n
 |_::_,[],n,_,_,_,_,_,_,_,_,_=>by simp at n
 |i::l,k::b,n,t,st,st',a,w,σ,e,h,p=>by
  simp only[An] at e;split at e
  ·rename_i q v
   obtain⟨ei,r⟩:=t 0 i k (by simp) (by simp)
   rw[wpOpsIn_cons]
   exact asM c r v h fun m w' d y=>asN c l b (by simp_all) (fun j z x C B=>t (j+1) z x (by simp_all) (by simp_all)) q st' m w' d e y p
  ·cases e
theorem anp {d:Nat} {fl:List Nat} {b:Array Oper}:∀{k:Nat} {a:List Nat} {l:List og} {n:Nat},afo P d fl b k a=some (l,n)->
  l.length=a.length/\(∀(j:Nat) (i:og) (q:Nat),l[j]?=some i->a[j]?=some q->∃ei,adg P d fl b ei q=some i)
 |k,[],l,n,h=>by grind[afo]
 |k,i::r,l,n,h=>by
  simp only[afo] at h;split at h
  ·cases h
  ·rename_i x o
   split at h
   ·cases h
   ·rename_i g m c
    simp only[Option.some.injEq,Prod.mk.injEq] at h
    obtain⟨rfl,_⟩:=h
    obtain⟨e,f⟩:=anp c
    grind
end
section
variable {call:lU} {ρ ZV:Operand->AV} {ei:Nat}
theorem asO {a:kh} (d:a.cls=0) (o o2:Store):fi call a ρ o2 ei=(fi call a ρ o ei).map fun p=>(p.1,o2):=by
 cases a<;>try (simp[kh.cls] at d;done)
 case call f c b=>cases b<;>simp[kh.cls] at d
 case MC f c b=>cases b<;>simp[kh.cls] at d
 all_goals simp only[fi]
 all_goals (repeat' split)<;>simp_all [Option.map_map,Function.comp_def]
theorem aAa {a:kh} (b:a.cls=0) {o o':Store} {v:AV} (h:fi call a ρ o ei=some (v,o')):o'=o:=by
 grind[asO]
theorem aAb {o o2:Store} {a:AV} (h:∀j∈vx a,o2[j]?=o[j]?):behind o2 a=behind o a:=by
 cases a<;>simp only[behind]
 grind[vx]
theorem aAc {o o2:Store} {sz:Nat} {a:AV} (h:∀j∈vx a,o2[j]?=o[j]?):aaC o2 sz a=aaC o sz a:=by
 cases a with
 |os e d b c=>grind[aaC,vx]
 |sc v=>unfold aaC;grind
 |_=>rfl
theorem aAd {o o2:Store} {sz:Nat} {a:AV} {i:Int} (h:∀j∈vx a,o2[j]?=o[j]?):acE o2 sz a i=acE o sz a i:=by
 cases a<;>simp only[acE]
 grind[vx]
theorem aAe {o o2:Store} {sz:Nat} {a:AV} {lo b:Option AV} (h:∀j∈vx a,o2[j]?=o[j]?):acG o2 sz a lo b=acG o sz a lo b:=by
 cases a with
 |os f e c d=>grind[acG,vx]
 |sc v=>unfold acG;grind
 |_=>rfl
theorem aAf {o o2:Store} {sz:Nat} {a:AV} {lo:Option AV} {b mx:AV} (h:∀j∈vx a,o2[j]?=o[j]?):adW o2 sz a lo b mx=adW o sz a lo b mx:=by
 cases a<;>grind[id,adW,vx]
theorem aAg {o o2:Store} {k:Nat} {a:AV} (h:∀j∈vx a,o2[j]?=o[j]?):W7 o2 k a=W7 o k a:=by
 cases a with
 |mp b=>
  match k with
  |0=>rfl
  |1=>rfl
  |2=>grind[W7,vx]
  |_+3=>rfl
 |_=>unfold W7;split<;>first|rfl|(simp_all;done)
theorem agT {c e:Type} {f g:c->List e}:∀{l:List c},(∀a∈l,f a=g a)->l.flatMap f=l.flatMap g
 |[],_=>rfl
 |a::l,h=>by
  simp only[List.flatMap_cons]
  rw[h a (by simp),agT fun b d=>h b (by simp[d])]
theorem agU {c e:Type} {f g:c->Option e}:∀{l:List c},(∀a∈l,f a=g a)->l.mapM f=l.mapM g
 |[],_=>rfl
 |a::l,h=>by
  rw[List.mapM_cons,List.mapM_cons,h a (by simp),agU fun b d=>h b (by simp[d])]
theorem agV {o o2:Store}:∀(d:Nat) (a:AV),(∀j∈x7 o d a,o2[j]?=o[j]?)->freeze o2 d a=freeze o d a/\x7 o2 d a=x7 o d a
 |0,a,_=>by cases a<;>simp[freeze,x7]
 |d+1,a,h=>by
  cases a with
  |agg i=>
   simp only[x7,List.mem_flatMap,forall_exists_index,and_imp] at h
   have l:=fun c g=>agV d c (fun j b=>h j c g b)
   grind[freeze,x7,agU,agT]
  |eW i=>
   simp only[x7,List.mem_flatMap,forall_exists_index,and_imp] at h
   have l:=fun c g=>agV d c (fun j b=>h j c g b)
   grind[freeze,x7,agU,agT]
  |fn f x y=>
   simp only[x7,List.mem_append,List.mem_flatMap] at h
   have v:=fun c g=>agV d c (fun j b=>h j (.inl ⟨c,g,b⟩))
   have z:=fun c g=>agV d c (fun j b=>h j (.inr ⟨c,g,b⟩))
   grind[freeze,x7,agU,agT]
  |os k q s n=>
   have r:=h k (by simp[x7])
   simp only[freeze,x7];rw[r]
   cases p:o[k]? with
   |none=>simp_all
   |some x=>
    cases x with
    |dead=>simp_all
    |map w t m=>simp_all
    |cells i e u m=>
     cases m with
     |true=>simp_all
     |false=>
      simp only[x7,p,List.mem_cons,Bool.false_eq_true,if_false,List.mem_flatMap] at h
      have l:=fun c g=>agV d c (fun j b=>h j (.inr ⟨c,g,b⟩))
      simp_all[agU,agT]
  |_=>simp[freeze,x7]
theorem anq {f:FuncId} {args:List AV} {o o2:Store} (h:∀j∈args.flatMap (x7 o 6),o2[j]?=o[j]?):
  Gj call f args o2 false=(Gj call f args o false).map (fun p=>(p.1,o2))/\args.flatMap (x7 o2 6)=args.flatMap (x7 o 6):=by
 simp only[List.mem_flatMap,forall_exists_index,and_imp] at h
 have d:=fun c a=>agV 6 c (fun j e=>h j c a e)
 have b:args.flatMap (x7 o2 6)=args.flatMap (x7 o 6):=agT fun c a=>(d c a).2
 refine⟨?_,b⟩
 unfold Gj
 rw[if_neg (by simp),if_neg (by simp),b,agU fun c a=>(d c a).1]
 grind
theorem anr {b:kh} (r:b.cls=1) {o o2:Store} (h:∀j∈qq b ρ o ei,o2[j]?=o[j]?):
  fi call b ρ o2 ei=(fi call b ρ o ei).map (fun p=>(p.1,o2))/\qq b ρ o2 ei=qq b ρ o ei:=by
 cases b<;>try (simp[kh.cls] at r;done)
 case load n a=>
  simp only[fi,qq] at h ⊢;rw[aAb h]
  refine⟨?_,trivial⟩
  split<;>simp[Option.map_map,Function.comp_def]
 case adT l x i=>
  simp only[fi,qq] at h ⊢
  refine⟨?_,trivial⟩
  split
  ·rw[aAd h];simp_all[Function.comp_def]
  ·rfl
 case slice l x s u=>
  simp only[fi,qq] at h ⊢
  refine⟨?_,trivial⟩
  rw[aAe h];simp_all[Function.comp_def]
 case slice3 l x s u B=>
  simp only[fi,qq] at h ⊢
  refine⟨?_,trivial⟩
  rw[aAf h];simp_all[Function.comp_def]
 case len k x=>
  simp only[fi,qq] at h ⊢
  refine⟨?_,trivial⟩
  rw[aAg h];simp_all[Function.comp_def]
 case lookup z t v y x k w=>
  simp only[fi,qq] at h ⊢
  refine⟨?_,trivial⟩
  split<;>grind[id,vx]
 case call f e c=>
  cases c<;>grind[fi,qq,anq,kh.cls]
 case MC f e c=>
  cases c
  ·simp only[fi,qq] at h ⊢
   split
   ·grind[anq]
   ·rename_i m
    refine⟨rfl,?_⟩
    split
    ·rename_i A g d q
     simp only[q] at h ⊢
     exact(anq (call:=call) (f:=0) h).2
    ·rfl
  grind[kh.cls]
theorem aAh {a:kh} (b:a.cls=1) {o o':Store} {v:AV} (h:fi call a ρ o ei=some (v,o')):o'=o:=by
 have:=(anr (call:=call) (ρ:=ρ) (ei:=ei) b (o:=o) (o2:=o) fun _ _=>rfl).1
 grind
theorem akG {o:Store} {id:Nat}:o.set id ((o[id]?).getD .dead)=o:=by
 apply List.ext_getElem?
 grind
theorem aAi {d:kh} (H:d.cls=2) {o o':Store} {v:AV} (b:fi call d ρ o ei=some (v,o')):
  ∃id x,id∈wrt d ρ o ei/\o'=o.set id x/\∀o2,(∀j∈qq d ρ o ei,o2[j]?=o[j]?)->
   fi call d ρ o2 ei=some (v,o2.set id x)/\qq d ρ o2 ei=qq d ρ o ei/\wrt d ρ o2 ei=wrt d ρ o ei:=by
 have C:∀{x:fZ} {g:AV} {v:AV} {o':Store},(SU ei x o).map (fun o'=>(g,o'))=some (v,o')->v=g/\o'=o.set ei x/\∀o2:Store,o2[ei]?=o[ei]?->(SU ei x o2).map (fun o'=>(g,o'))=some (v,o2.set ei x):=by
  grind[SU]
 cases d<;>try (simp[kh.cls] at H;done)
 case alloc z e y=>
  simp only[fi,qq,wrt] at b ⊢
  grind
 case box e x=>
  simp only[fi,qq,wrt] at b ⊢
  grind
 case abZ z D E e A=>
  simp only[fi,qq,wrt] at b ⊢
  grind
 case acC z e A q l c y=>
  simp only[fi,qq,wrt] at b ⊢
  grind
 case acD Q y=>
  simp only[fi,qq,wrt] at b ⊢
  grind
 case store n a x=>
  simp only[fi,qq,wrt] at b ⊢;split at b
  ·rename_i id R G J
   split at b
   ·rename_i L e A y K
    split at b
    ·rename_i p
     simp only[Option.some.injEq,Prod.mk.injEq] at b
     obtain⟨rfl,rfl⟩:=b
     refine⟨id,_,by simp[J,vx],rfl,fun o2 h=>⟨?_,trivial,trivial⟩⟩
     have U:=h id (by simp[J,vx])
     grind
    ·cases b
   ·cases b
  ·cases b
 case append e A q s x y=>
  simp only[fi,qq,wrt] at b ⊢;unfold acF at b;split at b
  ·cases b
  ·rename_i m F P
   split at b
   ·cases b
   ·rename_i N
    have t:∀o2:Store,(∀j∈ei::(vx (ρ s)++vx (ρ x)),o2[j]?=o[j]?)->aaC o2 A (ρ x)=some (m,F):=fun o2 h=>by
     grind[aAc]
    split at b
    ·rename_i B
     split at b
     ·rename_i I
      simp only[Option.some.injEq,Prod.mk.injEq] at b
      obtain⟨rfl,rfl⟩:=b
      refine⟨ei,(o[ei]?).getD .dead,by simp,akG.symm,fun o2 h=>⟨?_,trivial,trivial⟩⟩
      rw[<-h ei (by simp),akG]
      simp_all[acF]
     ·split at b
      ·rename_i I p
       obtain⟨rfl,rfl,h3⟩:=C b
       refine⟨ei,_,by simp,rfl,fun o2 h=>⟨?_,trivial,trivial⟩⟩
       simp_all[acF]
      ·cases b
    ·rename_i id D G B
     split at b
     ·rename_i L e' S O K
      split at b
      ·rename_i p
       simp only[Option.some.injEq,Prod.mk.injEq] at b
       obtain⟨rfl,rfl⟩:=b
       refine⟨id,_,by simp[B,vx],rfl,fun o2 h=>⟨?_,trivial,trivial⟩⟩
       unfold acF;rw[t o2 h]
       have U:=h id (by simp[B,vx])
       simp_all
      ·cases b
     ·cases b
    ·rename_i n L B
     split at b
     ·rename_i I
      simp only[Option.some.injEq,Prod.mk.injEq] at b
      obtain⟨rfl,rfl⟩:=b
      refine⟨ei,(o[ei]?).getD .dead,by simp,akG.symm,fun o2 h=>⟨?_,trivial,trivial⟩⟩
      rw[<-h ei (by simp),akG]
      simp_all[acF]
     ·cases b
    ·cases b
 case ac4 W X x k v'=>
  simp only[fi,qq,wrt] at b ⊢;split at b
  ·rename_i id Y M V
   split at b
   ·rename_i Z Q y K
    split at b
    ·cases b
    ·rename_i p
     split at b
     ·rename_i i w T
      simp only[Option.some.injEq,Prod.mk.injEq] at b
      obtain⟨rfl,rfl⟩:=b
      refine⟨id,_,by simp[M,vx],rfl,fun o2 h=>⟨?_,trivial,trivial⟩⟩
      simp_all[vx]
     ·rename_i T
      simp only[Option.some.injEq,Prod.mk.injEq] at b
      obtain⟨rfl,rfl⟩:=b
      refine⟨id,_,by simp[M,vx],rfl,fun o2 h=>⟨?_,trivial,trivial⟩⟩
      simp_all[vx]
     ·cases b
   ·cases b
  ·cases b
 case call f u r=>cases r<;>simp[kh.cls] at H
 case MC f u r=>cases r<;>simp[kh.cls] at H
theorem adk (o:Store):∀(d:Nat) (vs:List AV) (acc:List Nat) (j:Nat),j∈acc->j∈kD o d vs acc
 |0,vs,acc,j,h=>by grind[kD]
 |d+1,[],acc,j,h=>by simp_all[kD]
 |d+1,v::vs,acc,j,h=>by
  rw[air]
  apply adk o d
  have e:∀c,j∈acO o d c acc:=by
   intro c;unfold acO;split
   ·exact h
   ·split
    ·split
     ·simp[h]
     ·exact adk o d _ _ j (by simp[h])
    ·split
     ·simp[h]
     ·exact adk o d _ _ j (by simp[h])
    ·simp[h]
  cases v with
  |agg g=>exact adk o d _ _ j h
  |eW g=>exact adk o d _ _ j h
  |ptr c _ _=>exact e c
  |os c _ _ _=>exact e c
  |mp c=>exact e c
  |fn f a b=>exact adk o d _ _ j (adk o d _ _ j h)
  |_=>exact h
theorem aAj (o:Store) (d id:Nat) (acc:List Nat):id∈acO o d id acc:=by
 grind[acO,adk]
theorem aeF {o o2:Store}:∀(d:Nat) (vs:List AV) (acc:List Nat),(∀j∈kD o d vs acc,o2[j]?=o[j]?)->kD o2 d vs acc=kD o d vs acc
 |0,vs,acc,_=>by grind[kD]
 |d+1,[],acc,_=>by simp[kD]
 |d+1,v::vs,acc,h=>by
  rw[air] at h;rw[air,air]
  have m:∀c,(∀j∈acO o d c acc,o2[j]?=o[j]?)->acO o2 d c acc=acO o d c acc:=by
   intro c g
   have r:=g c (aAj o d c acc)
   unfold acO at g ⊢;split
   ·rfl
   ·rename_i q
    rw[if_neg q] at g;rw[r]
    cases p:o[c]? with
    |none=>rfl
    |some x=>
     rw[p] at g
     cases x with
     |dead=>rfl
     |cells l e w n=>
      cases n with
      |true=>rfl
      |false=>exact aeF d _ _ g
     |map s u n=>
      cases n with
      |true=>rfl
      |false=>exact aeF d _ _ g
  have k:afu o2 d v acc=afu o d v acc:=by
   have i:=fun j g=>h j (adk o d vs _ j g)
   cases v with
   |agg l=>exact aeF d l acc i
   |eW l=>exact aeF d l acc i
   |ptr c _ _=>exact m c i
   |os c _ _ _=>exact m c i
   |mp c=>exact m c i
   |fn f a b=>
    have y:kD o2 d a acc=kD o d a acc:=aeF d a acc fun j g=>i j (adk o d b _ j g)
    have t:kD o2 d b (kD o d a acc)=kD o d b (kD o d a acc):=aeF d b _ i
    grind[afu]
   |_=>rfl
  rw[k]
  exact aeF d vs _ h
theorem asP {o o2:Store} {a:List Nat}:∀{r:List Nat},(∀j∈r,o2[j]?=o[j]?)->S0 o2 a r=S0 o a r
 |[],_=>rfl
 |i::r,h=>by
  simp only[S0]
  rw[h i (by simp),asP fun j b=>h j (by simp[b])]
theorem asQ:∀(a:List Nat) (o o2 X:Store) (j:Nat),o2.length=o.length->a.length=X.length->(j∈a\/o2[j]?=o[j]?)->(XL o2 a X)[j]?=(XL o a X)[j]?
 |[],o,o2,X,j,_,_,h=>by grind[XL]
 |i::r,o,o2,[],j,_,c,_=>by simp at c
 |i::r,o,o2,x::l,j,b,c,h=>by
  simp only[XL]
  refine asQ r _ _ l j (by simp[b]) (by simp_all) ?_
  grind
theorem asR {f:FuncId} {args:List AV} {o o':Store} {r:AV} (h:Hh call f args o=some (r,o')):
  o.length<=o'.length/\(∀j,j<o.length->j∉kD o zd args []->o'[j]?=o[j]?)/\
  ∀o2:Store,o2.length=o.length->(∀j∈kD o zd args [],o2[j]?=o[j]?)->∃g,Hh call f args o2=some (r,g)/\
   kD o2 zd args []=kD o zd args []/\∀j,(j∈kD o zd args []\/o.length<=j)->g[j]?=o'[j]?:=by
 have b:∀o2:Store,(∀j∈kD o zd args [],o2[j]?=o[j]?)->kD o2 zd args []=kD o zd args []:=fun o2 h=>aeF zd args [] h
 have e:∀o2:Store,(∀j∈kD o zd args [],o2[j]?=o[j]?)->S0 o2 (kD o zd args []) (kD o zd args [])=S0 o (kD o zd args []) (kD o zd args []):=fun o2 h=>asP h
 unfold Hh at h
 simp only at h
 generalize q:kD o zd args []=a at h b e
 split at h
 ·rename_i m l v y
  split at h
  ·rename_i B i n
   split at h
   ·cases h
   ·rename_i d
    split at h
    ·rename_i A c x t
     simp only[Option.some.injEq,Prod.mk.injEq] at h
     obtain⟨rfl,rfl⟩:=h
     simp only[not_or] at d
     have u:=anj t
     have z:a.length=(c.take a.length).length:=by simp;omega
     refine⟨by simp[ais],fun j s w=>?_,fun o2 p k=>?_⟩
     ·grind[ais,akC]
     ·refine⟨XL o2 a (c.take a.length)++c.drop a.length,?_,b o2 k,fun j s=>?_⟩
      ·unfold Hh
       grind
      grind[ais,asQ]
    ·cases h
  ·cases h
 ·cases h
end
section
variable {call:lU} {ρ ZV:Operand->AV} {ei:Nat}
theorem asT {a:kh} {o:Store} {j:Nat} (h:j∈wrt a ρ o ei):j∈qq a ρ o ei:=by
 cases a<;>simp only[wrt,qq,List.not_mem_nil] at h ⊢<;>try exact h
 all_goals grind
theorem aAk {a:kh} {o:Store} (h:a.cls=0\/a.cls=1):wrt a ρ o ei=[]:=by
 cases a<;>try (simp[kh.cls] at h;done)
 case call f c b=>cases b<;>simp[kh.cls] at h;rfl
 case MC f c b=>cases b<;>simp[kh.cls] at h;rfl
 all_goals rfl
theorem ant {b:kh} {o:Store} (h:b.cls=0):qq b ρ o ei=[]:=by
 cases b<;>try (simp[kh.cls] at h;done)
 case call f c a=>cases a<;>simp[kh.cls] at h
 case MC f c a=>cases a<;>simp[kh.cls] at h
 all_goals rfl
theorem aAl (a:kh):a.cls=0\/a.cls=1\/a.cls=2\/a.cls=3:=by
 cases a<;>try (simp[kh.cls];done)
 case call f c b=>cases b<;>simp[kh.cls]
 case MC f c b=>cases b<;>simp[kh.cls]
def ZW (a:kh) (W:List Nat) (n j:Nat):Prop:=j∈W\/(a.cls=3/\n<=j)
theorem anu {a:kh} {o:Store} {j:Nat} (h:j∈sX call a ρ o ei):j∈wrt a ρ o ei:=by
 unfold sX at h;split at h
 ·split at h
  ·exact(List.mem_filter.1 h).1
  ·simp at h
 ·exact h
theorem aAm {a:kh} {o:Store} {j:Nat} (h:j∈sX call a ρ o ei):j∈qq a ρ o ei:=asT (anu h)
theorem aeG {a:kh} {o:Store} (h:a.cls=0\/a.cls=1):sX call a ρ o ei=[]:=by
 unfold sX
 grind[kh.cls,aAk]
theorem aAn {a:kh} {o:Store} (h:a.cls=2):sX call a ρ o ei=wrt a ρ o ei:=by
 unfold sX
 grind[kh.cls]
open Classical in
theorem aAo {Ac:kh} {o o':Store} {v:AV} (he:fi call Ac ρ o ei=some (v,o')):
  o.length<=o'.length/\(Ac.cls≠3->o'.length=o.length)/\(∀j,¬ZW Ac (sX call Ac ρ o ei) o.length j->o'[j]?=o[j]?)/\
  ∀o2:Store,(∀j∈qq Ac ρ o ei,o2[j]?=o[j]?)->(Ac.cls=3->o2.length=o.length)->
   ∃o2',fi call Ac ρ o2 ei=some (v,o2')/\qq Ac ρ o2 ei=qq Ac ρ o ei/\sX call Ac ρ o2 ei=sX call Ac ρ o ei/\∀j,ZW Ac (sX call Ac ρ o ei) o.length j->o2'[j]?=o'[j]?:=by
 rcases aAl Ac with hc|hc|hc|hc
 ·have:=aAa hc he
  subst this
  refine⟨Nat.le_refl _,fun _=>rfl,fun _ _=>rfl,fun o2 _ _=>⟨o2,?_,by rw[ant hc,ant hc],by rw[aeG (.inl hc),aeG (.inl hc)],fun j hj=>?_⟩⟩
  ·rw[asO hc o' o2,he];rfl
  ·rw[ZW,aeG (.inl hc)] at hj;simp[hc] at hj
 ·have:=aAh hc he
  subst this
  refine⟨Nat.le_refl _,fun _=>rfl,fun _ _=>rfl,fun o2 h _=>⟨o2,?_,(anr (call:=call) hc h).2,by rw[aeG (.inr hc),aeG (.inr hc)],fun j hj=>?_⟩⟩
  ·rw[(anr hc h).1,he];rfl
  ·rw[ZW,aeG (.inr hc)] at hj;simp[hc] at hj
 ·simp only[aAn hc]
  obtain⟨id,x,hid,rfl,hk⟩:=aAi hc he
  refine⟨by simp,fun _=>by simp,fun j hj=>?_,fun o2 h _=>?_⟩
  ·have:j≠id:=fun hji=>hj (.inl (hji▸hid))
   rw[List.getElem?_set_ne (Ne.symm this)]
  ·obtain⟨k1,k2,k3⟩:=hk o2 h
   refine⟨_,k1,k2,k3,fun j hj=>?_⟩
   have hj:j∈wrt Ac ρ o ei:=hj.resolve_right (by simp[hc])
   have hjo:=h j (asT hj)
   by_cases hji:id=j
   ·subst hji
    have hlen:(id<o2.length)↔(id<o.length):=by
     rcases Nat.lt_or_ge id o2.length with g1|g1<;>rcases Nat.lt_or_ge id o.length with g2|g2
     ·simp[g1,g2]
     ·rw[List.getElem?_eq_getElem g1,List.getElem?_eq_none g2] at hjo;cases hjo
     ·rw[List.getElem?_eq_getElem g2,List.getElem?_eq_none g1] at hjo;cases hjo
     ·omega
    rw[List.getElem?_set,List.getElem?_set];simp only[if_true]
    by_cases h1:id<o.length
    ·rw[if_pos h1,if_pos (hlen.2 h1)]
    ·rw[if_neg h1,if_neg fun h2=>h1 (hlen.1 h2)]
   ·rw[List.getElem?_set_ne hji,List.getElem?_set_ne hji];exact hjo
 ·have key:∀(f:FuncId) (args:List AV),Hh call f args o=some (v,o')->sX call Ac ρ o ei=kD o zd args []->qq Ac ρ o ei=kD o zd args []->
    (∀o2:Store,fi call Ac ρ o2 ei=Hh call f args o2/\qq Ac ρ o2 ei=kD o2 zd args []/\sX call Ac ρ o2 ei=kD o2 zd args [])->
    o.length<=o'.length/\(Ac.cls≠3->o'.length=o.length)/\(∀j,¬ZW Ac (sX call Ac ρ o ei) o.length j->o'[j]?=o[j]?)/\
    ∀o2:Store,(∀j∈qq Ac ρ o ei,o2[j]?=o[j]?)->(Ac.cls=3->o2.length=o.length)->
    ∃o2',fi call Ac ρ o2 ei=some (v,o2')/\qq Ac ρ o2 ei=qq Ac ρ o ei/\sX call Ac ρ o2 ei=sX call Ac ρ o ei/\∀j,ZW Ac (sX call Ac ρ o ei) o.length j->o2'[j]?=o'[j]?:=by
   intro f args hcall hw ht hg
   obtain⟨c1,c2,c3⟩:=asR hcall
   refine⟨c1,fun h=>absurd hc h,fun j hj=>?_,fun o2 h hl=>?_⟩
   ·simp only[ZW,hc,true_and,not_or,Nat.not_le,hw] at hj
    exact c2 j hj.2 hj.1
   ·rw[ht] at h
    obtain⟨o2',d1,d2,d3⟩:=c3 o2 (hl hc) h
    obtain⟨g1,g2,g3⟩:=hg o2
    refine⟨o2',by rw[g1,d1],by rw[g2,d2,ht],by rw[g3,d2,hw],fun j hj=>d3 j ?_⟩
    simp only[ZW,hc,true_and,hw] at hj;exact hj
  cases Ac<;>try (simp[kh.cls] at hc;done)
  case call f args own=>
   cases own
   ·simp[kh.cls] at hc
   ·simp only[fi,Gj,if_true] at he
    obtain⟨c1,c2,c3⟩:=asR he
    have hw:sX call (.call f args true) ρ o ei=(kD o zd (args.map ρ) []).filter fun j=>decide (o'[j]?≠o[j]?):=by simp only[sX,he]
    refine⟨c1,fun h=>absurd hc h,fun j hj=>?_,fun o2 h hl=>?_⟩
    ·simp only[ZW,hc,true_and,not_or,Nat.not_le,hw,List.mem_filter,decide_eq_true_eq,not_and,Classical.not_not,ne_eq] at hj
     by_cases hm:j∈kD o zd (args.map ρ) []
     ·exact hj.1 hm
     ·exact c2 j hj.2 hm
    ·obtain⟨o2',d1,d2,d3⟩:=c3 o2 (hl hc) h
     refine⟨o2',by simp only[fi,Gj,if_true,d1],d2,?_,fun j hj=>?_⟩
     ·rw[hw]
      simp only[sX,d1,d2]
      refine List.filter_congr fun j hj=>?_
      rw[d3 j (.inl hj),h j hj]
     ·rw[ZW,hw,List.mem_filter] at hj
      exact d3 j (hj.imp (fun h=>h.1) fun h=>h.2)
  case MC f args own=>
   cases own
   ·simp[kh.cls] at hc
   ·simp only[fi,Gj,if_true] at he
    split at he
    ·rename_i g first captured hf
     exact key g (first++args.map ρ++captured) he (by simp[sX,wrt,hf]) (by simp[qq,hf]) fun o2=>⟨by simp[fi,Gj,hf],by simp[qq,hf],by simp[sX,wrt,hf]⟩
    ·cases he
theorem asU {l:List Operand} (h:∀x∈l,ZV x=ρ x):l.map ZV=l.map ρ:=List.map_congr_left h
theorem aAp {c:kh} (h:∀x∈c.TR,ZV x=ρ x) (o:Store):fi call c ZV o ei=fi call c ρ o ei/\qq c ZV o ei=qq c ρ o ei/\sX call c ZV o ei=sX call c ρ o ei:=by
 cases c
 case build z i=>
  have:(i.map fun p=>(p.1,p.2.1,ZV p.2.2))=i.map fun p=>(p.1,p.2.1,ρ p.2.2):=List.map_congr_left fun p r=>by grind[kh.TR]
  simp only[fi,qq,sX,wrt,this,and_self]
 case abZ z n i e l=>
  have:(i.map fun p=>(p.1,l,ZV p.2))=i.map fun p=>(p.1,l,ρ p.2):=List.map_congr_left fun p r=>by grind[kh.TR]
  simp only[fi,qq,sX,wrt,this,and_self]
 case aes z n i e l=>
  have:(i.map fun p=>(p.1,l,ZV p.2))=i.map fun p=>(p.1,l,ρ p.2):=List.map_congr_left fun p r=>by grind[kh.TR]
  simp only[fi,qq,sX,wrt,this,and_self]
 case call f g k=>
  have:=asU h
  simp only[kh.TR] at this
  cases k<;>simp only[fi,qq,sX,wrt,this,and_self]
 case MC f g k=>
  have m:g.map ZV=g.map ρ:=asU fun x t=>h x (by grind[kh.TR])
  have q:=h f (by simp[kh.TR])
  cases k<;>simp only[fi,qq,sX,wrt,m,q,and_self]
 case aeu f a b=>
  simp_all[kh.TR,fi,qq,sX,wrt]
 case slice l x d j=>
  have m:d.map ZV=d.map ρ:=by cases d<;>simp[kh.TR] at h ⊢;exact h.2.1
  have q:j.map ZV=j.map ρ:=by cases j<;>simp[kh.TR] at h ⊢;simp_all
  simp_all[kh.TR,fi,qq,sX,wrt]
 case afk x d j=>
  have m:d.map ZV=d.map ρ:=by cases d<;>simp[kh.TR] at h ⊢;exact h.2.1
  have q:j.map ZV=j.map ρ:=by cases j<;>simp[kh.TR] at h ⊢;simp_all
  simp_all[kh.TR,fi,qq,sX,wrt]
 case slice3 l x d j s=>
  have m:d.map ZV=d.map ρ:=by
   cases d with
   |none=>rfl
   |some a=>simp_all[kh.TR]
  simp_all[kh.TR,fi,qq,sX,wrt]
 all_goals
  simp only[kh.TR,List.mem_cons,List.not_mem_nil,or_false,forall_eq_or_imp,forall_eq] at h
  simp[fi,qq,sX,wrt,h]
end
section
variable {call:lU} {base:Nat}
noncomputable def entry (call:lU) (base:Nat) (i:og) (st:St):List Nat×List Nat:=
 match Zo st.env i.guard with
 |some true=>(qq i.op (s4 st.env) st.o (base+i.ei),sX call i.op (s4 st.env) st.o (base+i.ei))
 |_=>([],[])
theorem aAq {i:og} {st:St} {j:Nat} (h:j∈(entry call base i st).2):j∈(entry call base i st).1:=by
 grind[entry,aAm]
theorem asV {i:og} {e a:Ku} (h:∀s∈i.reads,pI a s=pI e s):(∀x∈i.op.TR,s4 a x=s4 e x)/\Zo a i.guard=Zo e i.guard:=by
 constructor
 ·intro x b
  cases x with
  |tmp t=>
   refine h t ?_
   simp only[og.reads,List.mem_append]
   left
   exact List.mem_filterMap.2 ⟨.tmp t,b,rfl⟩
  |_=>rfl
 ·unfold Zo
  grind[og.reads]
theorem agW {i:og} {st st':St} (a:EE call base i st=some st'):
  ∃v,(∀s,pI st'.env s=if i.dst=some s then v else pI st.env s)/\st.o.length<=st'.o.length/\(i.op.cls≠3->st'.o.length=st.o.length)/\
   (∀j,¬ZW i.op (entry call base i st).2 st.o.length j->st'.o[j]?=st.o[j]?)/\
   ∀st2:St,(∀s∈i.reads,pI st2.env s=pI st.env s)->(∀j∈(entry call base i st).1,st2.o[j]?=st.o[j]?)->(i.op.cls=3->st2.o.length=st.o.length)->
    ∃b,EE call base i st2=some b/\(∀s,pI b.env s=if i.dst=some s then v else pI st2.env s)/\entry call base i st2=entry call base i st/\
     ∀j,ZW i.op (entry call base i st).2 st.o.length j->b.o[j]?=st'.o[j]?:=by
 unfold EE at a;split at a
 ·cases a
 ·rename_i n
  injection a with a;subst a
  refine⟨.eW [],fun s=>afw _ _ _ _,Nat.le_refl _,fun _=>rfl,fun _ _=>rfl,fun st2 c _ k=>?_⟩
  obtain⟨h,t⟩:=asV c
  refine⟨⟨abx st2.env i.dst (.eW []),st2.o⟩,?_,fun s=>afw _ _ _ _,?_,fun j w=>?_⟩
  all_goals simp_all[EE,entry,ZW]
 ·rename_i n
  split at a
  ·rename_i v y c
   injection a with a;subst a;rw[aif] at c
   obtain⟨r,l,m,p⟩:=aAo c
   have e:entry call base i st=(qq i.op (s4 st.env) st.o (base+i.ei),sX call i.op (s4 st.env) st.o (base+i.ei)):=by grind[entry]
   rw[e]
   refine⟨v,fun s=>afw _ _ _ _,r,l,m,fun st2 f d k=>?_⟩
   obtain⟨h,t⟩:=asV f
   obtain⟨g,z,x,B,q⟩:=p st2.o d k
   obtain⟨C,A,u⟩:=aAp (call:=call) (ei:=base+i.ei) h st2.o
   refine⟨⟨abx st2.env i.dst v,g⟩,?_,fun s=>afw _ _ _ _,?_,q⟩<;>grind[abx,afw,EE,aif,entry]
  ·cases a
def QR (a b:St):Prop:=(∀s,pI a.env s=pI b.env s)/\a.o=b.o
theorem QR.refl (a:St):QR a a:=⟨fun _=>rfl,rfl⟩
theorem QR.trans {a b c:St} (h:QR a b) (k:QR b c):QR a c:=⟨fun s=>(h.1 s).trans (k.1 s),h.2.trans k.2⟩
theorem QR.symm {a b:St} (h:QR a b):QR b a:=⟨fun s=>(h.1 s).symm,h.2.symm⟩
theorem QR.run {i:og} {a b l:St} (h:QR a b) (e:EE call base i a=some l):∃k,EE call base i b=some k/\QR l k/\entry call base i b=entry call base i a:=by
 have j:s4 b.env=s4 a.env:=by
  funext x
  cases x with
  |tmp t=>exact(h.1 t).symm
  |_=>rfl
 have o:Zo b.env i.guard=Zo a.env i.guard:=by
  cases p:i.guard with
  |none=>rfl
  |some g=>
   obtain⟨c,d⟩:=g
   cases c with
   |none=>rfl
   |some s=>simp only[Zo];rw[h.1]
 have f:∀(v:AV) (s:Nat),pI (abx a.env i.dst v) s=pI (abx b.env i.dst v) s:=by
  intro v s;simp only[afw]
  by_cases m:i.dst=some s
  ·simp_all
  ·rw[if_neg m,if_neg m];exact h.1 s
 have n:entry call base i b=entry call base i a:=by unfold entry;rw[o,j,h.2]
 unfold EE at e ⊢;rw[o,j,<-h.2];split at e
 ·cases e
 ·injection e with e;subst e
  exact⟨_,rfl,⟨f _,rfl⟩,n⟩
 ·split at e
  ·injection e with e;subst e
   exact⟨_,rfl,⟨f _,rfl⟩,n⟩
  ·cases e
def ait (n0:Nat) (y:og) (a:List Nat×List Nat) (x:og) (b:List Nat×List Nat):Prop:=
 aik y x=true/\(∀j∈a.2,j∉b.1)/\(∀j∈b.2,j∉a.1)/\(y.op.cls=3->x.op.cls≠3/\∀j∈b.1,j<n0)/\(x.op.cls=3->∀j∈a.1,j<n0)
theorem aAr {y x:og} (h:aik y x=true):(∀d,y.dst=some d->d∉x.reads)/\(∀d,x.dst=some d->d∉y.reads)/\∀d,y.dst=some d->x.dst≠some d:=by
 grind[aik,amY]
theorem swap {n0:Nat} {y x:og} {st c s2:St} (k:EE call base y st=some c) (n:EE call base x c=some s2) (P:n0<=st.o.length) (D:ait n0 y (entry call base y st) x (entry call base x c)):
  ∃a b,EE call base x st=some a/\EE call base y a=some b/\QR s2 b/\entry call base x st=entry call base x c/\entry call base y a=entry call base y st:=by
 obtain⟨d,Z,O,H,Q⟩:=D
 obtain⟨a1,K,U⟩:=aAr d
 obtain⟨G,A,y2,S,C,F⟩:=agW k
 obtain⟨L,q,V,T,X,l⟩:=agW n
 obtain⟨a,h,u,f,p4⟩:=l st (fun s i=>by
   grind) (fun j m=>by
   rw[C j]
   rintro(z|⟨e,B⟩)<;>grind) (fun e=>by
   omega)
 obtain⟨E,J,W,I,r,_⟩:=agW h
 obtain⟨b,g,w,p,R⟩:=F a (fun s i=>by
   grind) (fun j m=>by
   rw[r j];rw[f]
   rintro(z|⟨e,B⟩)<;>grind) (fun e=>by
   omega)
 obtain⟨t,b1,M,Y,N,_⟩:=agW g
 refine⟨a,b,h,g,⟨fun s=>?_,?_⟩,f.symm▸rfl,p⟩
 ·rw[q s,w s,u s,A s]
  grind
 ·apply List.ext_getElem?
  intro j
  by_cases v:ZW x.op (entry call base x c).2 c.o.length j
  ·
   grind[ZW,aAq]
  grind[ZW]
noncomputable def ents (call:lU) (base:Nat):List og->St->List (List Nat×List Nat)
 |[],_=>[]
 |i::r,b=>entry call base i b::match EE call base i b with
  |some a=>ents call base r a
  |none=>[]
theorem QR.runs {l:List og}:∀{a b d:St},QR a b->An call base l a=some d->∃e,An call base l b=some e/\QR d e/\ents call base l b=ents call base l a:=by
 induction l with
 |nil=>intro a b d h c;simp only[An,Option.some.injEq] at c;subst c;exact⟨b,rfl,h,rfl⟩
 |cons i l o=>
  intro a b d h c;simp only[An] at c;split at c
  ·rename_i k f
   obtain⟨j,m,g,n⟩:=h.run f
   grind[An,ents]
  ·cases c
theorem front {n0:Nat} {x:og} {b:List og}:∀(a:List og) {st s:St},An call base (a++x::b) st=some s->n0<=st.o.length->
  (∀(k:Nat) (y:og) (p f:List Nat×List Nat),a[k]?=some y->(ents call base (a++x::b) st)[k]?=some p->(ents call base (a++x::b) st)[a.length]?=some f->ait n0 y p x f)->
  ∃g s',EE call base x st=some g/\An call base (a++b) g=some s'/\QR s s'/\(ents call base (a++x::b) st)[a.length]?=some (entry call base x st)/\
   ents call base (a++b) g=(ents call base (a++x::b) st).eraseIdx a.length
 |[],st,s,d,_,_=>by
  grind[An,QR.refl,ents]
 |y::a,st,s,d,n,m=>by
  simp only[List.cons_append,An] at d;split at d
  ·rename_i l i
   have c:ents call base (y::(a++x::b)) st=entry call base y st::ents call base (a++x::b) l:=by simp[ents,i]
   obtain⟨_,_,h,_⟩:=agW i
   obtain⟨g,s',r,v,C,M,I⟩:=front a d (Nat.le_trans n h) fun k z u f t K L=>m (k+1) z u f (by simpa using t) (by simp_all) (by simp_all)
   have e:ait n0 y (entry call base y st) x (entry call base x l):=m 0 y _ _ (by simp) (by simp[c]) (by simp_all)
   obtain⟨B,H,w,F,A,D,J⟩:=swap i r n e
   obtain⟨j,G,q,E⟩:=A.runs v
   refine⟨B,j,w,?_,C.trans q,?_,?_⟩<;>grind[An,ents]
  ·cases d
end
end Go.Vi
