/-
  The abstract interpreter: every operation that is no call does what the model's does.
  Conditions: none.
-/
import Derived.Test.YtgejbpobaicgfaaGreatRX02
import Derived.OrdersIn
import Derived.AtR
set_option maxRecDepth 100000
set_option maxHeartbeats 4000000
set_option linter.unusedSimpArgs false
set_option linter.unusedVariables false
namespace Go.Vi
def bk.kr:bk→Bool
 | .call .. | .eF .. =>true
 |_=>false
section
variable {P:Program} {A:bG} {w w':World} {σ σ':aV} {o o':Store} {aQ:Operand→AV} {aR:Operand→Value} {oper:Oper} {v:AV}
theorem fh {α:Type} {x:Option α} {f:α→AV×Store} {p:AV×Store} (h:x.map f=some p):∃a,x=some a∧f a=p:=by
 simpa[Option.map_eq_some_iff] using h
theorem QK {call:bB} {fl:Bool} {aZ:bk} {am:Nat} (hc:kp P fl oper=some aZ) (hnc:aZ.kr=false) (hS:aU A w σ o) (hρ:∀x,aj A w σ o (aQ x) (aR x))
  (he:ly call aZ aQ o am=some (v,o')):Gives A P aR oper w σ o v o':=by
 rw[qw] at he
 unfold kp at hc
 split at hc
 ·
  rename_i x hop
  injection hc with hc;subst hc
  simp only[aL,Option.some.injEq,Prod.mk.injEq] at he
  obtain⟨rfl,rfl⟩:=he
  exact Gm hS hρ (.inl hop)
 ·rename_i x hop
  injection hc with hc;subst hc
  simp only[aL,Option.some.injEq,Prod.mk.injEq] at he
  obtain⟨rfl,rfl⟩:=he
  exact Gm hS hρ (.inr hop)
 ·rename_i c a b hop
  injection hc with hc;subst hc
  simp only[aL] at he
  split at he
  ·rename_i hcc
   simp only[Option.some.injEq,Prod.mk.injEq] at he
   obtain⟨rfl,rfl⟩:=he
   exact Gn (t:=true) hS hρ hop hcc
  ·rename_i hcc
   simp only[Option.some.injEq,Prod.mk.injEq] at he
   obtain⟨rfl,rfl⟩:=he
   exact Gn (t:=false) hS hρ hop hcc
  ·cases he
 ·rename_i e hop
  obtain⟨z,hz,rfl⟩:=Option.map_eq_some_iff.1 hc
  simp only[aL] at he
  obtain⟨o2,hm,h2⟩:=fh he
  obtain⟨hd,rfl⟩:=o7 hm
  simp only[Prod.mk.injEq] at h2
  obtain⟨rfl,rfl⟩:=h2
  exact PY hS hop hz hd
 ·rename_i e x hop
  injection hc with hc;subst hc
  simp only[aL] at he
  split at he
  ·rename_i h1
   obtain⟨o2,hm,h2⟩:=fh he
   obtain⟨hd,rfl⟩:=o7 hm
   simp only[Prod.mk.injEq] at h2
   obtain⟨rfl,rfl⟩:=h2
   exact PZ hS hρ hop h1 hd
  ·cases he
 ·
  rename_i t parts hop
  split at hc
  ·rename_i z fields hz ht
   split at hc
   ·rename_i places hpl
    obtain⟨ps,hps,rfl⟩:=Option.map_eq_some_iff.1 hc
    simp only[aL] at he
    obtain⟨cs,hf,h2⟩:=fh he
    simp only[Prod.mk.injEq] at h2
    obtain⟨rfl,rfl⟩:=h2
    obtain⟨hl,hg⟩:=AP hps
    refine Gw (place:=fun i=>places[i]?) hS hρ hop hz (fun zv hzv l=>?_) hl.symm (fun i p q hp hq=>?_) hf
    ·cases hi:P.info? t with
     |none=>simp[hi] at hzv
     |some i=>
      simp[hi] at hzv
      unfold F4 at hpl
      simp[Program.built,hi,ht,hzv,hpl]
    ·have:=hg i p q hp hq
     simp only[F5,Option.map_eq_some_iff] at this
     obtain⟨r,h1,rfl⟩:=this
     exact⟨h1,rfl⟩
   ·cases hc
  ·rename_i z k e hz ht
   obtain⟨n,hn,rfl⟩:=Option.map_eq_some_iff.1 hc
   simp only[aL] at he
   obtain⟨cs,hf,h2⟩:=fh he
   simp only[Prod.mk.injEq] at h2
   obtain⟨rfl,rfl⟩:=h2
   refine Gw (place:=fun i=>some (i*n,n)) hS hρ hop hz (fun zv hzv l=>?_) (by simp) (fun i p q hp hq=>?_) hf
   ·cases hi:P.info? t with
    |none=>simp[hi] at hzv
    |some i=>
     simp[hi] at hzv
     cases hie:P.info? e with
     |none=>simp[sizeT,hie] at hn
     |some ie=>
      simp[sizeT,hie] at hn
      simp[Program.built,hi,ht,hzv,hie,hn]
   ·rw[List.getElem?_map,hp] at hq
    simp at hq
    subst hq
    exact⟨rfl,rfl⟩
  ·cases hc
 ·
  rename_i t len parts hop
  split at hc
  ·rename_i e ht
   split at hc
   ·rename_i z hz
    split at hc
    ·rename_i hcond
     injection hc with hc;subst hc
     split at he
     ·simp only[aL] at he
      split at he
      ·rename_i cs hf
       split at he
       ·rename_i hp
        simp only[Option.some.injEq,Prod.mk.injEq] at he
        obtain⟨rfl,rfl⟩:=he
        exact Qr hS hρ hop ht hz hcond.2 hcond.1 hf hp
       ·cases he
      ·cases he
     ·simp only[aL] at he
      split at he
      ·rename_i cs hf
       obtain⟨o2,hm,h2⟩:=fh he
       obtain⟨hd,rfl⟩:=o7 hm
       simp only[Prod.mk.injEq] at h2
       obtain⟨rfl,rfl⟩:=h2
       exact Qq hS hρ hop ht hz hcond.2 hcond.1 hf hd
      ·cases he
    ·cases hc
   ·cases hc
  ·cases hc
 ·
  rename_i t a hop
  obtain⟨n,hn,rfl⟩:=Option.map_eq_some_iff.1 hc
  simp only[aL] at he
  split at he
  ·rename_i cs off hb
   obtain⟨a',hp,h2⟩:=fh he
   simp only[Prod.mk.injEq] at h2
   obtain⟨rfl,rfl⟩:=h2
   exact PV hS hρ hop hn hb hp
  ·cases he
 ·
  rename_i t a x hop
  obtain⟨n,hn,rfl⟩:=Option.map_eq_some_iff.1 hc
  simp only[aL] at he
  split at he
  ·rename_i id off tot ha
   split at he
   ·rename_i cs e sz pu ho
    split at he
    ·rename_i hcond
     simp only[Option.some.injEq,Prod.mk.injEq] at he
     obtain⟨rfl,rfl⟩:=he
     obtain⟨c1,c2,c3,c4,c5⟩:=hcond
     exact PX hS hρ hop hn ha ho c1 c2 c3 c4 c5
    ·cases he
   ·cases he
  ·cases he
 ·
  rename_i x hop
  injection hc with hc;subst hc
  simp only[aL] at he
  have hx:=hρ x
  split at he
  ·rename_i a b c hxa
   simp only[Option.some.injEq,Prod.mk.injEq] at he
   obtain⟨rfl,rfl⟩:=he
   rw[hxa] at hx
   simp only[aj] at hx
   obtain⟨_,⟨p,hp⟩,_⟩:=hx
   rw[←hxa]
   exact Gp hS hρ hop hp
  ·rename_i a b hxa
   simp only[Option.some.injEq,Prod.mk.injEq] at he
   obtain⟨rfl,rfl⟩:=he
   rw[hxa] at hx
   simp only[aj] at hx
   obtain⟨p,hp,_⟩:=hx
   rw[←hxa]
   exact Gp hS hρ hop hp
  ·cases he
 ·
  rename_i op t x y t' hop
  have A6:∀(h:aZ= .bin op x y),Gives A P aR oper w σ o v o':=by
   intro h
   subst h
   simp only[aL] at he
   split at he
   ·rename_i a b ha hb
    obtain⟨r,hr,h2⟩:=fh he
    simp only[Prod.mk.injEq] at h2
    obtain⟨rfl,rfl⟩:=h2
    exact P4 hS hρ hop ha hb hr
   ·cases he
  have heq:∀(neg:Bool),(op= .eql∧neg=false)∨(op= .neq∧neg=true)→
    (match P.underlying t with
     |some (.struct _)|some (.array _ _)=>if 20≤P.depth then(dK P 20 t).map fun ks=>bk.mb neg ks x y else none
     |some .bool=>some (.beq neg x y)
     |some (.int _)|some .string=>some (.bin op x y)
     |_=>none)=some aZ→Gives A P aR oper w σ o v o':=by
   intro neg hn hc
   have hagg:cB P t=some true→(if 20≤P.depth then(dK P 20 t).map fun ks=>bk.mb neg ks x y else none)=some aZ→Gives A P aR oper w σ o v o':=by
    intro hag hc
    split at hc
    ·rename_i hD
     obtain⟨ks,hk,rfl⟩:=Option.map_eq_some_iff.1 hc
     simp only[aL] at he
     split at he
     ·rename_i a b ha hb
      obtain⟨r,hr,h2⟩:=fh he
      simp only[Prod.mk.injEq] at h2
      obtain⟨rfl,rfl⟩:=h2
      exact Qz hS hρ hop hn hag hk hD ha hb hr
     ·cases he
    ·cases hc
   split at hc
   ·rename_i hu;exact hagg (by simp[cB,hu]) hc
   ·rename_i hu;exact hagg (by simp[cB,hu]) hc
   ·rename_i hu
    injection hc with hc;subst hc
    simp only[aL] at he
    split at he
    ·rename_i a b ha hb
     simp only[Option.some.injEq,Prod.mk.injEq] at he
     obtain⟨rfl,rfl⟩:=he
     exact P5 hS hρ hop hn hu ha hb
    ·cases he
   ·injection hc with hc;exact A6 hc.symm
   ·injection hc with hc;exact A6 hc.symm
   ·cases hc
  split at hc
  ·exact heq false (.inl ⟨rfl,rfl⟩) hc
  ·exact heq true (.inr ⟨rfl,rfl⟩) hc
  ·injection hc with hc;exact A6 hc.symm
 ·
  rename_i op t x hop
  injection hc with hc;subst hc
  simp only[aL] at he
  obtain⟨r,hr,h2⟩:=fh he
  simp only[Prod.mk.injEq] at h2
  obtain⟨rfl,rfl⟩:=h2
  exact P6 hS hρ hop hr
 ·
  rename_i s d x hop
  split at hc
  ·rename_i ds k hs hd
   injection hc with hc;subst hc
   simp only[aL] at he
   split at he
   ·rename_i k' n hx
    simp only[Option.some.injEq,Prod.mk.injEq] at he
    obtain⟨rfl,rfl⟩:=he
    exact P7 hS hρ hop hs hd hx
   ·cases he
  ·cases hc
 ·
  rename_i s x f hop
  split at hc
  ·rename_i fs hs
   split at hc
   ·rename_i g hg
    split at hc
    ·rename_i n hn
     split at hc
     ·cases hc
     ·rename_i hn0
      injection hc with hc;subst hc
      simp only[aL] at he
      obtain⟨r,hr,h2⟩:=fh he
      simp only[Prod.mk.injEq] at h2
      obtain⟨rfl,rfl⟩:=h2
      exact P8 hS hρ hop hs hg hn hn0 hr
    ·cases hc
   ·cases hc
  ·cases hc
 ·
  rename_i t x f hop
  split at hc
  ·rename_i fs hs
   split at hc
   ·rename_i g hg
    obtain⟨n,hn,rfl⟩:=Option.map_eq_some_iff.1 hc
    simp only[aL] at he
    split at he
    ·rename_i cs hx
     obtain⟨r,hr,h2⟩:=fh he
     simp only[Prod.mk.injEq] at h2
     obtain⟨rfl,rfl⟩:=h2
     exact P9 hS hρ hop hs hg hn hx hr
    ·cases he
   ·cases hc
  ·cases hc
 ·
  rename_i t x i hop
  split at hc
  ·rename_i len e ht
   obtain⟨n,hn,rfl⟩:=Option.map_eq_some_iff.1 hc
   simp only[aL] at he
   split at he
   ·rename_i k hi
    split at he
    ·rename_i hcond
     obtain⟨r,hr,h2⟩:=fh he
     simp only[Prod.mk.injEq] at h2
     obtain⟨rfl,rfl⟩:=h2
     exact Qa hS hρ hop ht hn hi hcond.1 hcond.2 hr
    ·cases he
   ·cases he
  ·rename_i e ht
   split at hc
   ·rename_i n hn
    split at hc
    ·cases hc
    ·rename_i hn0
     injection hc with hc;subst hc
     simp only[aL] at he
     split at he
     ·rename_i k hi
      obtain⟨r,hr,h2⟩:=fh he
      simp only[Prod.mk.injEq] at h2
      obtain⟨rfl,rfl⟩:=h2
      exact Qb hS hρ hop ht hn hn0 hi hr
     ·cases he
   ·cases hc
  ·cases hc
 ·
  rename_i t x i hop
  split at hc
  ·rename_i len e ht
   split at hc
   ·rename_i s n hs hn
    injection hc with hc;subst hc
    simp only[aL] at he
    split at he
    ·rename_i k cs hi hx
     split at he
     ·rename_i hcond
      obtain⟨r,hr,h2⟩:=fh he
      simp only[Prod.mk.injEq] at h2
      obtain⟨rfl,rfl⟩:=h2
      exact Qc hS hρ hop ht hs hn hi hcond.1 hcond.2 hx hr
     ·cases he
    ·cases he
   ·cases hc
  ·rename_i ht
   injection hc with hc;subst hc
   simp only[aL] at he
   split at he
   ·rename_i k s hi hx
    split at he
    ·rename_i hcond
     obtain⟨r,hr,h2⟩:=fh he
     simp only[Prod.mk.injEq] at h2
     obtain⟨rfl,rfl⟩:=h2
     exact Qd hS hρ hop ht hi hcond hx hr
    ·cases he
   ·cases he
  ·cases hc
 ·
  rename_i t l c hop
  split at hc
  ·rename_i e ht
   split at hc
   ·rename_i z b hz hb
    split at hc
    ·rename_i hpos
     injection hc with hc;subst hc
     simp only[aL] at he
     split at he
     ·rename_i n m hl hm
      split at he
      ·rename_i hcond
       obtain⟨c1,c2,c3,c4⟩:=hcond
       obtain⟨o2,hmk,h2⟩:=fh he
       obtain⟨hd,rfl⟩:=o7 hmk
       simp only[Prod.mk.injEq] at h2
       obtain⟨rfl,rfl⟩:=h2
       exact Qu hS hρ hop ht hz hb hl hm c1 c2 c3 c4 hd
      ·cases he
     ·cases he
    ·cases hc
   ·cases hc
  ·cases hc
 ·
  rename_i t x lo hi hop
  split at hc
  ·rename_i e ht
   split at hc
   ·rename_i n hn
    split at hc
    ·cases hc
    ·rename_i hn0
     injection hc with hc;subst hc
     simp only[aL] at he
     obtain⟨r,hr,h2⟩:=fh he
     simp only[Prod.mk.injEq] at h2
     obtain⟨rfl,rfl⟩:=h2
     exact Qj hS hρ hop ht hn hn0 hr
   ·cases hc
  ·rename_i ht
   injection hc with hc;subst hc
   simp only[aL] at he
   split at he
   ·rename_i s hx
    split at he
    ·rename_i l k hl hk
     split at he
     ·rename_i hcond
      simp only[Option.some.injEq,Prod.mk.injEq] at he
      obtain⟨rfl,rfl⟩:=he
      exact Qn hS hρ hop ht hx hl hk hcond.1 hcond.2
     ·cases he
    ·cases he
   ·cases he
  ·cases hc
 ·
  rename_i t x lo hi mx hop
  split at hc
  ·rename_i e ht
   split at hc
   ·rename_i n hn
    split at hc
    ·cases hc
    ·rename_i hn0
     injection hc with hc;subst hc
     simp only[aL] at he
     obtain⟨r,hr,h2⟩:=fh he
     simp only[Prod.mk.injEq] at h2
     obtain⟨rfl,rfl⟩:=h2
     exact Qm hS hρ hop ht hn hn0 hr
   ·cases hc
  ·cases hc
 ·
  rename_i c hop
  split at hc
  ·split at hc
   ·injection hc with hc;subst hc;simp[bk.kr] at hnc
   ·cases hc
  ·injection hc with hc;subst hc;simp[bk.kr] at hnc
  ·rename_i gy
   split at hc
   ·rename_i s x t t' ha hty
    split at hc
    ·rename_i QL
     subst QL
     split at hc
     ·rename_i e ht
      split at hc
      ·rename_i z b hz hb
       split at hc
       ·rename_i hpos
        injection hc with hc;subst hc
        simp only[aL] at he
        exact Qx hS hρ hop gy (Array.ext' ha) (Array.ext' hty) ht hz hb rfl hpos he
       ·cases hc
      ·cases hc
     ·cases hc
    ·cases hc
   ·cases hc
  ·rename_i gy
   split at hc
   ·rename_i x t ha hty
    have ha':c.args=#[x]:=Array.ext' ha
    have hty':c.argTypes=#[t]:=Array.ext' hty
    have hlen:∀k,(k=0∧∃e,P.underlying t=some (.slice e))∨(k=1∧P.underlying t=some .string)∨(k=2∧∃a b,P.underlying t=some (.map a b))→aZ= .len k x→Gives A P aR oper w σ o v o':=by
     intro k ht hh
     subst hh
     simp only[aL] at he
     obtain⟨n,hn,h2⟩:=fh he
     simp only[Prod.mk.injEq] at h2
     obtain⟨rfl,rfl⟩:=h2
     exact Qe hS hρ hop gy ha' hty' ht hn
    split at hc
    ·rename_i e ht;injection hc with hc;exact hlen 0 (.inl ⟨rfl,e,ht⟩) hc.symm
    ·rename_i ht;injection hc with hc;exact hlen 1 (.inr (.inl ⟨rfl,ht⟩)) hc.symm
    ·rename_i k e ht;injection hc with hc;exact hlen 2 (.inr (.inr ⟨rfl,k,e,ht⟩)) hc.symm
    ·rename_i n e ht
     injection hc with hc;subst hc
     simp only[aL,Option.some.injEq,Prod.mk.injEq] at he
     obtain⟨rfl,rfl⟩:=he
     exact Qf hS hop gy ha' hty' ht
    ·cases hc
   ·cases hc
  ·rename_i gy
   split at hc
   ·rename_i x y ha
    injection hc with hc;subst hc
    simp only[aL] at he
    split at he
    ·rename_i k a k' b hx hy
     split at he
     ·rename_i hkk
      subst hkk
      simp only[Option.some.injEq,Prod.mk.injEq] at he
      obtain⟨rfl,rfl⟩:=he
      exact Gs (mx:=false) hS hρ hop gy (Array.ext' ha) hx hy
     ·cases he
    ·cases he
   ·cases hc
  ·rename_i gy
   split at hc
   ·rename_i x y ha
    injection hc with hc;subst hc
    simp only[aL] at he
    split at he
    ·rename_i k a k' b hx hy
     split at he
     ·rename_i hkk
      subst hkk
      simp only[Option.some.injEq,Prod.mk.injEq] at he
      obtain⟨rfl,rfl⟩:=he
      exact Gs (mx:=true) hS hρ hop gy (Array.ext' ha) hx hy
     ·cases he
    ·cases he
   ·cases hc
  ·cases hc
 ·
  rename_i x i hop
  injection hc with hc;subst hc
  simp only[aL] at he
  split at he
  ·rename_i vs hx
   obtain⟨r,hr,h2⟩:=fh he
   simp only[Prod.mk.injEq] at h2
   obtain⟨rfl,rfl⟩:=h2
   exact Qg hS hρ hop hx hr
  ·cases he
 ·rename_i f a b hop
  split at hc
  ·injection hc with hc;subst hc
   simp only[aL,Option.some.injEq,Prod.mk.injEq] at he
   obtain⟨rfl,rfl⟩:=he
   exact Qh hS hρ (fun _=>rfl) hop
  ·cases hc
 ·rename_i t hop
  split at hc
  ·split at hc
   ·injection hc with hc;subst hc
    simp only[aL] at he
    obtain⟨o2,hmk,h2⟩:=fh he
    obtain⟨hd,rfl⟩:=o7 hmk
    simp only[Prod.mk.injEq] at h2
    obtain⟨rfl,rfl⟩:=h2
    exact QG hS hop hd
   ·cases hc
  ·cases hc
 ·
  rename_i t x k ok hop
  split at hc
  ·rename_i kt et ht
   split at hc
   ·rename_i ks ka z g hk hag hz hg
    split at hc
    ·rename_i A7
     injection hc with hc;subst hc
     simp only[aL] at he
     split at he
     ·rename_i id kv hx hkv
      split at he
      ·rename_i es qH pu ho
       split at he
       ·rename_i hkt
        subst hkt
        split at he
        ·rename_i i a q hf
         simp only[Option.some.injEq,Prod.mk.injEq] at he
         obtain⟨rfl,rfl⟩:=he
         obtain⟨zv,hzv⟩:=QH hz A7
         obtain⟨u,hu1,hu2⟩:=GR (w:=w) (σ:=σ) (o:=o) hz A7 hzv
         have:=GT (ok:=ok) hS hρ hop ht hk hag ⟨zv,u,hzv,hu1,hu2⟩ hx hkv ho hf hzv
         simpa using this
        ·rename_i zv hf hzv
         simp only[Option.some.injEq,Prod.mk.injEq] at he
         obtain⟨rfl,rfl⟩:=he
         obtain⟨u,hu1,hu2⟩:=GR (w:=w) (σ:=σ) (o:=o) hz A7 hzv
         have:=GT (ok:=ok) hS hρ hop ht hk hag ⟨zv,u,hzv,hu1,hu2⟩ hx hkv ho hf hzv
         simpa using this
        ·cases he
       ·cases he
      ·cases he
     ·cases he
    ·cases hc
   ·cases hc
  ·cases hc
 ·rename_i t m k v' hop
  split at hc
  ·rename_i kt et ht
   split at hc
   ·rename_i ks ka hk hag
    injection hc with hc;subst hc
    simp only[aL] at he
    split at he
    ·rename_i id kv hx hkv
     split at he
     ·rename_i es qH pu ho
      split at he
      ·cases he
      ·rename_i hcond
       simp only[not_or,Decidable.not_not] at hcond
       obtain⟨cJ,hkt⟩:=hcond
       subst hkt
       have sY:pu=true→(aQ v').pure=true:=fun hp=>by
        cases hq:(aQ v').pure with
        |true=>rfl
        |false=>exact absurd ⟨hp,hq⟩ cJ
       split at he
       ·rename_i i a hf
        simp only[Option.some.injEq,Prod.mk.injEq] at he
        obtain⟨rfl,rfl⟩:=he
        exact xR hS hρ (.inl hop) ht hk hag hx hkv ho sY hf
       ·rename_i hf
        simp only[Option.some.injEq,Prod.mk.injEq] at he
        obtain⟨rfl,rfl⟩:=he
        exact xR hS hρ (.inl hop) ht hk hag hx hkv ho sY hf
       ·cases he
     ·cases he
    ·cases he
   ·cases hc
  ·cases hc
 ·rename_i t m k v' hop
  split at hc
  ·rename_i kt et ht
   split at hc
   ·rename_i ks ka hk hag
    injection hc with hc;subst hc
    simp only[aL] at he
    split at he
    ·rename_i id kv hx hkv
     split at he
     ·rename_i es qH pu ho
      split at he
      ·cases he
      ·rename_i hcond
       simp only[not_or,Decidable.not_not] at hcond
       obtain⟨cJ,hkt⟩:=hcond
       subst hkt
       have sY:pu=true→(aQ v').pure=true:=fun hp=>by
        cases hq:(aQ v').pure with
        |true=>rfl
        |false=>exact absurd ⟨hp,hq⟩ cJ
       split at he
       ·rename_i i a hf
        simp only[Option.some.injEq,Prod.mk.injEq] at he
        obtain⟨rfl,rfl⟩:=he
        exact xR hS hρ (.inr hop) ht hk hag hx hkv ho sY hf
       ·rename_i hf
        simp only[Option.some.injEq,Prod.mk.injEq] at he
        obtain⟨rfl,rfl⟩:=he
        exact xR hS hρ (.inr hop) ht hk hag hx hkv ho sY hf
       ·cases he
     ·cases he
    ·cases he
   ·cases hc
  ·cases hc
 ·cases hc
end
section
variable {A A':bG} {w w':World} {σ σ':aV} {o o':Store}
def Tr (o:Store) (σ:aV) (o':Store) (σ':aV) (id id':Nat):Prop:=
 (∀cs e sz pu,o[id]?=some (.cells cs e sz pu)→∃cs' e' dV,o'[id']?=some (.cells cs' e' sz dV)∧cs'.length=cs.length)∧(IsMap o id→IsMap o' id')∧σ'[id']?=σ[id]?
theorem Tr.qQ {id id' tot:Nat} (h:Tr o σ o' σ' id id') (k:oZ o id tot):oZ o' id' tot:=by
 obtain⟨cs,e,sz,pu,h1,h2⟩:=k
 obtain⟨cs',e',dV,h3,h4⟩:=h.1 cs e sz pu h1
 exact⟨cs',e',sz,dV,h3,by omega⟩
theorem Tr.cur {id id' tot sz:Nat} (h:Tr o σ o' σ' id id') (k:oZ o id tot) (hc:o6 o' id' sz tot):o6 o id sz tot:=by
 obtain⟨cs,e,QM,pu,h1,h2⟩:=k
 obtain⟨cs',e',dV,h3,h4⟩:=h.1 cs e QM pu h1
 obtain⟨cs2,e2,pu2,h5,h6⟩:=hc
 rw[h3] at h5
 injection h5 with h5
 injection h5 with a b c d
 subst a c
 exact⟨cs,e,pu,h1,by omega⟩
mutual
theorem AV.qR (m:Nat→Option Nat):∀(c:AV),c.pure=true→c.ren m=some c
 | .sc _,_=>rfl
 | .sl _ _,_=>rfl
 | .ud,h| .agg _,h| .aD _,h| .ep _ _,h| .ptr _ _ _,h| .os _ _ _ _,h| .mp _,h| .fn _ _ _,h=>by simp[AV.pure] at h
end
mutual
theorem aj.ren [jo A A'] (hA:∀b,b<w.heap.size→Fr A σ b→Fr A' σ' b) {m:Nat→Option Nat} (hm:∀id id',m id=some id'→Tr o σ o' σ' id id'):
  ∀(c:AV) (v:Value) (c':AV),c.ren m=some c'→aj A w σ o c v→aj A' w σ' o' c' v
 | .ud,v,c',hc,_=>by simp only[AV.ren,Option.some.injEq] at hc;subst hc;simp[aj]
 | .sc u,v,c',hc,h=>by simp only[AV.ren,Option.some.injEq] at hc;subst hc;simpa[aj] using h
 | .sl n cs,v,c',hc,h=>by
  simp only[AV.ren,Option.some.injEq] at hc;subst hc
  simp only[aj] at h ⊢
  obtain⟨a,cap,rfl,hn,hp,hr⟩:=h
  exact⟨a,cap,rfl,hn,hp,bH.ren hA hm cs a 0 hp hr⟩
 | .ep cs off,v,c',hc,h=>by
  simp only[AV.ren,Option.some.injEq] at hc;subst hc
  simp only[aj] at h ⊢
  obtain⟨a,rfl,hp,hr⟩:=h
  exact⟨a,rfl,hp,bH.ren hA hm cs _ 0 hp hr⟩
 | .agg cs,v,c',hc,h=>by
  simp only[AV.ren,Option.map_eq_some_iff] at hc
  obtain⟨cs',h1,rfl⟩:=hc
  simp only[aj] at h ⊢
  obtain⟨vs,rfl,hl⟩:=h
  exact⟨vs,rfl,aA.ren hA hm cs _ cs' h1 hl⟩
 | .aD cs,v,c',hc,h=>by
  simp only[AV.ren,Option.map_eq_some_iff] at hc
  obtain⟨cs',h1,rfl⟩:=hc
  simp only[aj] at h ⊢
  obtain⟨vs,rfl,hl⟩:=h
  exact⟨vs,rfl,aA.ren hA hm cs _ cs' h1 hl⟩
 | .ptr id off tot,v,c',hc,h=>by
  simp only[AV.ren,Option.map_eq_some_iff] at hc
  obtain⟨id',h1,rfl⟩:=hc
  have ht:=hm id id' h1
  simp only[aj] at h ⊢
  refine⟨ht.qQ h.1,h.2.1,fun sz fZ=>?_⟩
  rw[ht.2.2]
  exact h.2.2 sz (ht.cur h.1 fZ)
 | .os id off len tot,v,c',hc,h=>by
  simp only[AV.ren,Option.map_eq_some_iff] at hc
  obtain⟨id',h1,rfl⟩:=hc
  have ht:=hm id id' h1
  simp only[aj] at h ⊢
  obtain⟨h0,a,cap,hv,hl,hk⟩:=h
  refine⟨ht.qQ h0,a,cap,hv,hl,fun sz fZ=>?_⟩
  have:=hk sz (ht.cur h0 fZ)
  unfold iO at this ⊢
  rw[ht.2.2]
  exact this
 | .mp id,v,c',hc,h=>by
  simp only[AV.ren,Option.map_eq_some_iff] at hc
  obtain⟨id',h1,rfl⟩:=hc
  have ht:=hm id id' h1
  simp only[aj] at h ⊢
  rw[ht.2.2]
  exact⟨ht.2.1 h.1,h.2⟩
 | .fn f a b,v,c',hc,h=>by
  simp only[AV.ren] at hc
  split at hc
  ·rename_i a' b' h1 h2
   injection hc with hc;subst hc
   simp only[aj] at h ⊢
   obtain⟨x,y,rfl,hx,hy⟩:=h
   exact⟨x,y,by rw[jo.eq (A:=A) (A':=A')],aA.ren hA hm a _ a' h1 hx,aA.ren hA hm b _ b' h2 hy⟩
  ·cases hc
theorem aA.ren [jo A A'] (hA:∀b,b<w.heap.size→Fr A σ b→Fr A' σ' b) {m:Nat→Option Nat} (hm:∀id id',m id=some id'→Tr o σ o' σ' id id'):
  ∀(cs:List AV) (vs:List Value) (cs':List AV),eM m cs=some cs'→aA A w σ o cs vs→aA A' w σ' o' cs' vs
 |[],vs,cs',hc,h=>by simp only[eM,Option.some.injEq] at hc;subst hc;simpa[aA] using h
 |c::cs,vs,cs',hc,h=>by
  simp only[eM] at hc
  split at hc
  ·rename_i c1 cs1 h1 h2
   injection hc with hc;subst hc
   simp only[aA] at h ⊢
   obtain⟨v,r,rfl,hv,hl⟩:=h
   exact⟨v,r,rfl,aj.ren hA hm c v c1 h1 hv,aA.ren hA hm cs r cs1 h2 hl⟩
  ·cases hc
theorem bH.ren [jo A A'] (hA:∀b,b<w.heap.size→Fr A σ b→Fr A' σ' b) {m:Nat→Option Nat} (hm:∀id id',m id=some id'→Tr o σ o' σ' id id'):
  ∀(cs:List AV) (a:Option Addr) (j:Nat),bJ cs=true→bH A w σ o cs a j→bH A' w σ' o' cs a j
 |[],_,_,_,_=>by simp[bH]
 |c::cs,a,j,hp,h=>by
  simp only[bJ,Bool.and_eq_true] at hp
  simp only[bH] at h ⊢
  obtain⟨⟨b,v,rfl,hf,hc,hr⟩,hl⟩:=h
  have hlt:b.block<w.heap.size:=by have:=F7 hc;rwa [add_block] at this
  exact⟨⟨b,v,rfl,hA _ hlt hf,hc,aj.ren hA hm c v c (AV.qR m c hp.1) hr⟩,bH.ren hA hm cs _ (j+1) hp.2 hl⟩
end
theorem A8 {m:Nat→Option Nat}:∀{cs cs':List AV},eM m cs=some cs'→cs'.length=cs.length∧∀(j:Nat) (c':AV),cs'[j]?=some c'→∃c,cs[j]?=some c∧c.ren m=some c'
 |[],cs',h=>by simp only[eM,Option.some.injEq] at h;subst h;simp
 |c::cs,cs',h=>by
  simp only[eM] at h
  split at h
  ·rename_i c1 cs1 h1 h2
   injection h with h;subst h
   obtain⟨i1,i2⟩:=A8 h2
   refine⟨by simp[i1],fun j d hd=>?_⟩
   cases j with
   |zero=>simp at hd;subst hd;exact⟨c,by simp,h1⟩
   |succ j=>simp at hd;obtain⟨c2,h3,h4⟩:=i2 j d hd;exact⟨c2,by simpa using h3,h4⟩
  ·cases h
theorem GV {m:Nat→Option Nat}:∀{es es':List (Value×AV)},jF m es=some es'→es'.length=es.length∧∀(j:Nat) (e':Value×AV),es'[j]?=some e'→∃e,es[j]?=some e∧e.1=e'.1∧e.2.ren m=some e'.2
 |[],es',h=>by simp only[jF,Option.some.injEq] at h;subst h;simp
 |e::es,es',h=>by
  simp only[jF] at h
  split at h
  ·rename_i v es1 h1 h2
   injection h with h;subst h
   obtain⟨i1,i2⟩:=GV h2
   refine⟨by simp[i1],fun j d hd=>?_⟩
   cases j with
   |zero=>simp at hd;subst hd;exact⟨e,by simp,rfl,h1⟩
   |succ j=>simp at hd;obtain⟨c2,h3,h4⟩:=i2 j d hd;exact⟨c2,by simpa using h3,h4⟩
  ·cases h
theorem QN {m:Nat→Option Nat} {c c':AV} (h:c.ren m=some c') (h1:c.one=true):c'.one=true:=by
 cases c<;>simp only[AV.ren,Option.some.injEq,Option.map_eq_some_iff] at h<;>simp only[AV.one,Bool.false_eq_true] at h1
 all_goals first
  |(subst h;first|exact h1|rfl)
  |(obtain⟨_,_,rfl⟩:=h;rfl)
  |(split at h
    ·injection h with h;subst h;rfl
    ·cases h)
mutual
theorem aaw {m:Nat→Option Nat}:∀{c c':AV},c.ren m=some c'→c.pure=true→c'=c
 |c,c',h,hp=>by
  have:=AV.qR m c hp
  rw[this] at h
  injection h with h
  exact h.symm
end
theorem bI.ren [jo A A'] (hA:∀b,b<w.heap.size→Fr A σ b→Fr A' σ' b) {m:Nat→Option Nat} (hm:∀id id',m id=some id'→Tr o σ o' σ' id id') {i i':Nat} {x x':aP} (hx:x.ren m=some x') (hσ:σ'[i']?=σ[i]?)
  (h:bI A w σ o i x):bI A' w σ' o' i' x':=by
 cases x with
 |dead=>simp only[aP.ren,Option.some.injEq] at hx;subst hx;simp only[bI] at h ⊢;rw[hσ];exact h
 |cells cs e sz pu=>
  simp only[bI] at h
  obtain⟨h1,h2,h3⟩:=h
  have key:∀cs',cs'.length=cs.length→(pu=true→bJ cs'=true)→cz cs'=true→(∀(j:Nat) (c':AV) (v:Value),cs'[j]?=some c'→(∀c,cs[j]?=some c→aj A w σ o c v→aj A' w σ' o' c' v))→bI A' w σ' o' i' (.cells cs' e sz pu):=by
   intro cs' k1 k2 k3 k4
   simp only[bI]
   refine⟨k2,k3,?_⟩
   rcases h3 with⟨h0,h0'⟩|⟨b,cap,arr,r1,r2,r3,r4,r5,r6⟩
   ·left;rw[hσ];exact⟨h0,List.eq_nil_of_length_eq_zero (by rw[k1,h0'];rfl)⟩
   ·refine .inr ⟨b,cap,arr,by rw[hσ];exact r1,r2,r3,r4,by omega,fun j c' hj=>?_⟩
    have hjl:j<cs.length:=by have:=(List.getElem?_eq_some_iff.1 hj).1;omega
    obtain⟨v,hv,hr⟩:=r6 j _ (List.getElem?_eq_getElem hjl)
    exact⟨v,hv,k4 j c' v hj _ (List.getElem?_eq_getElem hjl) hr⟩
  simp only[aP.ren] at hx
  split at hx
  ·rename_i cJ
   injection hx with hx;subst hx
   refine key cs rfl h1 h2 fun j c' v hj c hc hr=>?_
   rw[hj] at hc
   injection hc with hc
   subst hc
   exact aj.ren hA hm c' v c' (AV.qR m c' (jK (h1 cJ) c' (List.mem_of_getElem? hj))) hr
  ·rename_i cJ
   obtain⟨cs',hc',rfl⟩:=Option.map_eq_some_iff.1 hx
   obtain⟨g1,g2⟩:=A8 hc'
   refine key cs' g1 (fun hp=>absurd hp cJ) (gx.2 fun c hc=>?_) fun j c' v hj c hc hr=>?_
   ·obtain⟨j,hj⟩:=List.getElem?_of_mem hc
    obtain⟨c0,q1,q2⟩:=g2 j c hj
    exact QN q2 (gx.1 h2 c0 (List.mem_of_getElem? q1))
   ·obtain⟨c0,q1,q2⟩:=g2 j c' hj
    rw[hc] at q1
    injection q1 with q1
    subst q1
    exact aj.ren hA hm c v c' q2 hr
 |map es kt pu=>
  simp only[bI] at h
  obtain⟨h1,h2,b,c,en,cl,h3,h4,h5,h6⟩:=h
  simp only[aP.ren] at hx
  split at hx
  ·rename_i cJ
   injection hx with hx;subst hx
   simp only[bI]
   refine⟨h1,h2,b,c,en,cl,by rw[hσ];exact h3,h4,h5,fun j e he=>?_⟩
   obtain⟨m',q1,q2,q3⟩:=h6 j e he
   exact⟨m',q1,q2,aj.ren hA hm e.2 _ e.2 (AV.qR m e.2 (h1 cJ e (List.mem_of_getElem? he))) q3⟩
  ·rename_i cJ
   obtain⟨es',hc',rfl⟩:=Option.map_eq_some_iff.1 hx
   obtain⟨g1,g2⟩:=GV hc'
   simp only[bI]
   refine⟨fun hp=>absurd hp cJ,fun e he=>?_,b,c,en,cl,by rw[hσ];exact h3,h4,by omega,fun j e' he=>?_⟩
   ·obtain⟨j,hj⟩:=List.getElem?_of_mem he
    obtain⟨e0,q1,q2,_⟩:=g2 j e hj
    rw[←q2]
    exact h2 e0 (List.mem_of_getElem? q1)
   ·obtain⟨e0,q1,q2,q3⟩:=g2 j e' he
    obtain⟨m',r1,r2,r3⟩:=h6 j e0 q1
    exact⟨m',r1,by rw[r2,q2],aj.ren hA hm e0.2 _ e'.2 q3 r3⟩
def kV (k:Nat):Nat→Option Nat:=fun i=>if i<k then some i else none
mutual
theorem xT (k:Nat):∀(c:AV),c.a6 k=true→c.ren (kV k)=some c
 | .ud,_| .sc _,_| .sl _ _,_| .ep _ _,_=>rfl
 | .agg cs,h=>by simp only[AV.a6] at h;simp[AV.ren,qS k cs h]
 | .aD cs,h=>by simp only[AV.a6] at h;simp[AV.ren,qS k cs h]
 | .ptr id _ _,h=>by simp only[AV.a6,decide_eq_true_eq] at h;simp[AV.ren,kV,h]
 | .os id _ _ _,h=>by simp only[AV.a6,decide_eq_true_eq] at h;simp[AV.ren,kV,h]
 | .mp id,h=>by simp only[AV.a6,decide_eq_true_eq] at h;simp[AV.ren,kV,h]
 | .fn f a b,h=>by simp only[AV.a6,Bool.and_eq_true] at h;simp[AV.ren,qS k a h.1,qS k b h.2]
theorem qS (k:Nat):∀(cs:List AV),b7 k cs=true→eM (kV k) cs=some cs
 |[],_=>rfl
 |c::cs,h=>by simp only[b7,Bool.and_eq_true] at h;simp[eM,xT k c h.1,qS k cs h.2]
end
theorem GX {k:Nat} {cs:List AV}:b7 k cs=true↔∀c∈cs,c.a6 k=true:=by
 induction cs with
 |nil=>simp[b7]
 |cons c cs ih=>simp[b7,ih]
theorem GY (k:Nat) (id id':Nat) (h:kV k id=some id'):Tr o σ (o.take k) (σ.take k) id id':=by
 unfold kV at h
 split at h
 ·rename_i hk
  injection h with h;subst h
  refine⟨fun cs e sz pu ho=>⟨cs,e,pu,by rw[List.getElem?_take_of_lt hk];exact ho,rfl⟩,fun⟨es,kt,pu,ho⟩=>⟨es,kt,pu,by rw[List.getElem?_take_of_lt hk];exact ho⟩,by rw[List.getElem?_take_of_lt hk]⟩
 ·cases h
theorem GZ (k:Nat) (b:Nat) (h:Fr A σ b):Fr A (σ.take k) b:=by
 refine⟨?_,h.2⟩
 rintro⟨i,c,hi⟩
 rw[List.getElem?_take] at hi
 split at hi
 ·exact h.1 ⟨i,c,hi⟩
 ·cases hi
theorem aj.take {k:Nat} {c:AV} {v:Value} (h:aj A w σ o c v) (hb:c.a6 k=true):aj A w (σ.take k) (o.take k) c v:=
 aj.ren (fun b _ hf=>GZ k b hf) (GY k) c v c (xT k c hb) h
theorem QO {k:Nat} {x:aP} (h:x.a6 k=true):x.ren (kV k)=some x:=by
 cases x with
 |dead=>rfl
 |cells cs e sz pu=>
  simp only[aP.a6,Bool.or_eq_true] at h
  simp only[aP.ren]
  split
  ·rfl
  ·rename_i hp;rw[qS k cs (h.resolve_left hp)];rfl
 |map es kt pu=>
  simp only[aP.a6,Bool.or_eq_true] at h
  simp only[aP.ren]
  split
  ·rfl
  ·rename_i hp
   have h2:=h.resolve_left hp
   have:jF (kV k) es=some es:=by
    clear h hp
    induction es with
    |nil=>rfl
    |cons e es ih=>
     simp only[List.map_cons,b7,Bool.and_eq_true] at h2
     simp[jF,xT k e.2 h2.1,ih h2.2]
   rw[this];rfl
theorem aU.take (hS:aU A w σ o) {k:Nat} (hb:∀x∈o.take k,x.a6 k=true):aU A w (σ.take k) (o.take k):=by
 have hsub:∀(i:Nat) (s:Option (Nat×Nat)),(σ.take k)[i]?=some s→σ[i]?=some s:=by
  intro i s h
  rw[List.getElem?_take] at h
  split at h
  ·exact h
  ·cases h
 refine⟨by simp[hS.len],fun i j b c d hi hj=>hS.dist i j b c d (hsub _ _ hi) (hsub _ _ hj),fun i b c hi=>hS.bnd i b c (hsub _ _ hi),fun i x hx=>?_,fun i b c hi=>hS.av i b c (hsub _ _ hi),hS.gw⟩
 have hx0:=hx
 rw[List.getElem?_take] at hx
 split at hx
 ·rename_i hk
  exact bI.ren (fun b _ hf=>GZ k b hf) (GY k) (QO (hb x (List.mem_of_getElem? hx0))) (by rw[List.getElem?_take_of_lt hk]) (hS.obj i x hx)
 ·cases hx
theorem Ext.take {w0:World} {aK:aV} {o0:Store} (h:Ext w0 aK o0 w σ o) {k:Nat} (hk:o0.length≤k):Ext w0 aK o0 w (σ.take k) (o.take k) where
 size:=h.size
 blk:=fun b hb hn=>by
  obtain⟨h1,h2⟩:=h.blk b hb hn
  refine⟨h1,?_⟩
  rintro⟨i,c,hi⟩
  rw[List.getElem?_take] at hi
  split at hi
  ·exact h2 ⟨i,c,hi⟩
  ·cases hi
 len:=by have:=h.len;simp;omega
 cur:=fun id tot ha=>by
  obtain⟨h1,h2⟩:=h.cur id tot ha
  have hid:id<k:=by
   obtain⟨cs,e,sz,pu,ho,_⟩:=ha
   have:=(List.getElem?_eq_some_iff.1 ho).1
   omega
  refine⟨?_,fun sz hc=>?_⟩
  ·obtain⟨cs,e,sz,pu,ho,hl⟩:=h1
   exact⟨cs,e,sz,pu,by rw[List.getElem?_take_of_lt hid];exact ho,hl⟩
  ·rw[List.getElem?_take_of_lt hid]
   refine h2 sz ?_
   obtain⟨cs,e,pu,ho,hl⟩:=hc
   rw[List.getElem?_take_of_lt hid] at ho
   exact⟨cs,e,pu,ho,hl⟩
 isMap:=fun id ha=>by
  obtain⟨h1,h2⟩:=h.isMap id ha
  have hid:id<k:=by
   obtain⟨es,kt,pu,ho⟩:=ha
   have:=(List.getElem?_eq_some_iff.1 ho).1
   omega
  refine⟨?_,by rw[List.getElem?_take_of_lt hid];exact h2⟩
  obtain⟨es,kt,pu,ho⟩:=h1
  exact⟨es,kt,pu,by rw[List.getElem?_take_of_lt hid];exact ho⟩
 os:=h.os
 tape:=h.tape
 output:=h.output
mutual
theorem aj.a6 {k:Nat} (hk:∀i x,k≤i→o[i]?=some x→x.iK=true):∀(c:AV) (v:Value),aj A w σ o c v→c.a6 k=true
 | .ud,_,_| .sc _,_,_| .sl _ _,_,_| .ep _ _,_,_=>rfl
 | .agg cs,v,h=>by simp only[aj] at h;obtain⟨vs,_,hl⟩:=h;simp only[AV.a6];exact aA.a6 hk cs _ hl
 | .aD cs,v,h=>by simp only[aj] at h;obtain⟨vs,_,hl⟩:=h;simp only[AV.a6];exact aA.a6 hk cs _ hl
 | .ptr id _ _,v,h=>by
  simp only[aj] at h
  obtain⟨⟨cs,e,sz,pu,ho,_⟩,_⟩:=h
  simp only[AV.a6,decide_eq_true_eq]
  rcases Nat.lt_or_ge id k with h1|h1
  ·exact h1
  ·have:=hk id _ h1 ho;simp[aP.iK] at this
 | .os id _ _ _,v,h=>by
  simp only[aj] at h
  obtain⟨⟨cs,e,sz,pu,ho,_⟩,_⟩:=h
  simp only[AV.a6,decide_eq_true_eq]
  rcases Nat.lt_or_ge id k with h1|h1
  ·exact h1
  ·have:=hk id _ h1 ho;simp[aP.iK] at this
 | .mp id,v,h=>by
  simp only[aj] at h
  obtain⟨⟨es,kt,pu,ho⟩,_⟩:=h
  simp only[AV.a6,decide_eq_true_eq]
  rcases Nat.lt_or_ge id k with h1|h1
  ·exact h1
  ·have:=hk id _ h1 ho;simp[aP.iK] at this
 | .fn f a b,v,h=>by simp only[aj] at h;obtain⟨x,y,_,ha,hb⟩:=h;simp only[AV.a6,Bool.and_eq_true];exact⟨aA.a6 hk a _ ha,aA.a6 hk b _ hb⟩
theorem aA.a6 {k:Nat} (hk:∀i x,k≤i→o[i]?=some x→x.iK=true):∀(cs:List AV) (vs:List Value),aA A w σ o cs vs→b7 k cs=true
 |[],_,_=>rfl
 |c::cs,vs,h=>by
  simp only[aA] at h
  obtain⟨v,r,_,hv,hl⟩:=h
  simp only[b7,Bool.and_eq_true]
  exact⟨aj.a6 hk c v hv,aA.a6 hk cs r hl⟩
end
theorem bI.a6 {k i:Nat} {x:aP} (hk:∀i x,k≤i→o[i]?=some x→x.iK=true) (h:bI A w σ o i x):x.a6 k=true:=by
 cases x with
 |dead=>rfl
 |cells cs e sz pu=>
  simp only[bI] at h
  simp only[aP.a6,Bool.or_eq_true]
  right
  refine GX.2 fun c hc=>?_
  obtain⟨j,hj⟩:=List.getElem?_of_mem hc
  rcases h.2.2 with⟨_,h0⟩|⟨b,cap,arr,_,_,_,_,_,h6⟩
  ·subst h0;simp at hc
  ·obtain⟨v,_,hr⟩:=h6 j c hj
   exact aj.a6 hk c v hr
 |map es kt pu=>
  simp only[bI] at h
  obtain⟨_,_,b,c,en,cl,_,_,_,h6⟩:=h
  simp only[aP.a6,Bool.or_eq_true]
  right
  refine GX.2 fun c hc=>?_
  obtain⟨e,he,rfl⟩:=List.mem_map.1 hc
  obtain⟨j,hj⟩:=List.getElem?_of_mem he
  obtain⟨m,_,_,hr⟩:=h6 j e hj
  exact aj.a6 hk e.2 _ hr
theorem QP {n i:Nat} {x:aP} (h:(di n)[i]?=some x):x= .dead:=by
 unfold di at h
 rw[List.getElem?_replicate] at h
 split at h
 ·injection h with h;exact h.symm
 ·cases h
theorem aU.di (hS:aU A w σ o) (n:Nat):aU A w (σ++List.replicate n none) (o++di n)∧Ext w σ o w (σ++List.replicate n none) (o++di n):=by
 have hσ:∀(i:Nat) (b c:Nat),(σ++List.replicate n none)[i]?=some (some (b,c))→σ[i]?=some (some (b,c)):=by
  intro i b c h
  rw[List.getElem?_append] at h
  split at h
  ·exact h
  ·rw[List.getElem?_replicate] at h
   split at h
   ·injection h with h;cases h
   ·cases h
 have hE:Ext w σ o w (σ++List.replicate n none) (o++Go.Vi.di n):=by
  refine⟨Nat.le_refl _,fun b _ hn=>⟨rfl,fun⟨i,c,hi⟩=>hn ⟨i,c,hσ i b c hi⟩⟩,by simp,fun id tot ha=>?_,fun id ha=>?_,rfl,rfl,rfl⟩
  ·obtain⟨cs,e,sz,pu,ho,hl⟩:=ha
   have hid:=(List.getElem?_eq_some_iff.1 ho).1
   refine⟨⟨cs,e,sz,pu,by rw[List.getElem?_append_left hid];exact ho,hl⟩,fun sz' hc=>⟨?_,by rw[List.getElem?_append_left (by rw[hS.len];exact hid)]⟩⟩
   obtain⟨cs',e',dV,ho',hl'⟩:=hc
   rw[List.getElem?_append_left hid] at ho'
   exact⟨cs',e',dV,ho',hl'⟩
  ·obtain⟨es,kt,pu,ho⟩:=ha
   have hid:=(List.getElem?_eq_some_iff.1 ho).1
   exact⟨⟨es,kt,pu,by rw[List.getElem?_append_left hid];exact ho⟩,by rw[List.getElem?_append_left (by rw[hS.len];exact hid)]⟩
 refine⟨⟨by simp[Go.Vi.di,hS.len],fun i j b c d hi hj=>hS.dist i j b c d (hσ _ _ _ hi) (hσ _ _ _ hj),fun i b c hi=>hS.bnd i b c (hσ _ _ _ hi),fun i x hx=>?_,fun i b c hi=>hS.av i b c (hσ _ _ _ hi),hS.gw⟩,hE⟩
 rw[List.getElem?_append] at hx
 split at hx
 ·rename_i hid
  exact(hS.obj i x hx).ext hE (by rw[List.getElem?_append_left (by rw[hS.len];exact hid)]) fun _ _ _=>rfl
 ·rename_i hid
  have:=QP hx
  subst this
  simp only[bI]
  have hlt:=(List.getElem?_eq_some_iff.1 hx).1
  simp[Go.Vi.di] at hlt
  rw[List.getElem?_append_right (by rw[hS.len];omega),List.getElem?_replicate,if_pos (by rw[hS.len];omega)]
theorem QQ (hS:aU A w σ o) (k:Nat):∃σ',aU A w σ' (kj k o)∧(∀c v,aj A w σ o c v→aj A w σ' (kj k o) c v)∧
  ∀(w0:World) (aK:aV) (o0:Store),o0.length≤k→Ext w0 aK o0 w σ o→Ext w0 aK o0 w σ' (kj k o):=by
 unfold kj
 split
 ·rename_i h
  have hk:∀i x,k≤i→o[i]?=some x→x.iK=true:=by
   intro i x hi hx
   refine List.all_eq_true.1 h x (List.mem_of_getElem? (i:=i - k) ?_)
   rw[List.getElem?_drop,show k+(i - k)=i from by omega]
   exact hx
  refine⟨σ.take k,hS.take fun x hx=>?_,fun c v hr=>hr.take (aj.a6 hk c v hr),fun w0 aK o0 h0 hE=>hE.take h0⟩
  obtain⟨j,hj⟩:=List.getElem?_of_mem (List.mem_of_mem_take hx)
  exact bI.a6 hk (hS.obj j x hj)
 ·exact⟨σ,hS,fun _ _ h=>h,fun _ _ _ _ h=>h⟩
end
def iQ (P:Program) (f:FuncId) (args:List AV) (o:Store) (r:AV) (o':Store):Prop:=
 ∀(A:bG) (w:World) (σ:aV) (vs:List Value),aU A w σ o→aA A w σ o args vs→
  Calls P f vs.toArray w fun e w'=>∃u σ',e= .returned u∧aU A w' σ' o'∧aj A w' σ' o' r u∧Ext w σ o w' σ' o'
def jp (P:Program) (call:bB):Prop:=
 ∀f args o own r o',call f args o own=some (r,o')→eG P f=true∧iQ P f args o r o'∧(own=false→o'=[])
section
variable {P:Program} {A B:bG} {w w':World} {σ σ':aV} {o o':Store}
theorem xU {α β:Type} {f:α→Option β}:∀{l:List α} {l':List β},l.mapM f=some l'→l'.length=l.length∧∀(j:Nat) (a:α),l[j]?=some a→∃b,l'[j]?=some b∧f a=some b
 |[],l',h=>by simp at h;subst h;simp
 |a::l,l',h=>by
  rw[List.mapM_cons] at h
  cases hf:f a with
  |none=>simp[hf] at h
  |some b=>
   cases hl:l.mapM f with
   |none=>simp[hf,hl] at h
   |some r=>
    simp[hf,hl] at h
    subst h
    obtain⟨i1,i2⟩:=xU hl
    refine⟨by simp[i1],fun j c hc=>?_⟩
    cases j with
    |zero=>simp at hc;subst hc;exact⟨b,by simp,hf⟩
    |succ j=>simp at hc;obtain⟨d,h1,h2⟩:=i2 j c hc;exact⟨d,by simpa using h1,h2⟩
theorem qT {f:AV→Option AV} {cs cs':List AV} {vs:List Value} (h:cs.mapM f=some cs') (hr:aA A w σ o cs vs) (hf:∀c∈cs,∀c' v,f c=some c'→aj A w σ o c v→aj B w σ' o' c' v):aA B w σ' o' cs' vs:=by
 obtain⟨h1,h2⟩:=xU h
 have hl:=aA.length _ _ hr
 refine aA.gv _ _ (by omega) fun j c' hc'=>?_
 have hj:j<cs.length:=by have:=(List.getElem?_eq_some_iff.1 hc').1;omega
 obtain⟨v,hv,hrep⟩:=aA.get _ _ hr j _ (List.getElem?_eq_getElem hj)
 obtain⟨b,hb,pj⟩:=h2 j _ (List.getElem?_eq_getElem hj)
 rw[hc'] at hb
 injection hb with hb
 subst hb
 exact⟨v,hv,hf _ (List.getElem_mem hj) _ _ pj hrep⟩
theorem Ba [jo A B] (hS:aU A w σ o) (hB:∀b,b<w.heap.size→Fr A σ b→¬B b):∀(d:Nat) (a a':AV) (u:Value),freeze o d a=some a'→(∀id∈cY o d a,∀b c,σ[id]?=some (some (b,c))→¬B b)→
  aj A w σ o a u→aj B w [] [] a' u:=by
 have hA:∀b,b<w.heap.size→Fr A σ b→Fr B [] b:=fun b hb hf=>⟨fun⟨i,c,hi⟩=>by simp at hi,hB b hb hf⟩
 have hm:∀id id',(fun _:Nat=>(none:Option Nat)) id=some id'→Tr o σ [] [] id id':=fun _ _ h=>by cases h
 intro d
 induction d with
 |zero=>
  intro a a' u hf _ hr
  cases a<;>simp only[freeze,reduceCtorEq,Option.some.injEq] at hf
  ·subst hf;simp[aj]
  ·rename_i v
   split at hf
   ·injection hf with hf;subst hf
    have:=dM hr
    subst this
    simp only[aj,bH]
    exact⟨none,0,rfl,Nat.le_refl _,rfl,trivial⟩
   ·injection hf with hf;subst hf
    simpa[aj] using hr
  ·subst hf;exact aj.ren hA hm _ _ _ rfl hr
 |succ d ih=>
  intro a a' u hf ht hr
  cases a<;>simp only[freeze,reduceCtorEq,Option.some.injEq] at hf
  ·subst hf;simp[aj]
  ·rename_i v
   split at hf
   ·injection hf with hf;subst hf
    have:=dM hr
    subst this
    simp only[aj,bH]
    exact⟨none,0,rfl,Nat.le_refl _,rfl,trivial⟩
   ·injection hf with hf;subst hf
    simpa[aj] using hr
  ·rename_i cs
   obtain⟨cs',h1,rfl⟩:=Option.map_eq_some_iff.1 hf
   simp only[aj] at hr ⊢
   obtain⟨vs,rfl,hl⟩:=hr
   refine⟨vs,rfl,qT h1 hl fun c hc c' v hfc hrc=>ih c c' v hfc (fun id hid=>ht id ?_) hrc⟩
   simp only[cY,List.mem_flatMap]
   exact⟨c,hc,hid⟩
  ·rename_i cs
   obtain⟨cs',h1,rfl⟩:=Option.map_eq_some_iff.1 hf
   simp only[aj] at hr ⊢
   obtain⟨vs,rfl,hl⟩:=hr
   refine⟨vs,rfl,qT h1 hl fun c hc c' v hfc hrc=>ih c c' v hfc (fun id hid=>ht id ?_) hrc⟩
   simp only[cY,List.mem_flatMap]
   exact⟨c,hc,hid⟩
  ·subst hf;exact aj.ren hA hm _ _ _ rfl hr
  ·
   rename_i id off len tot
   split at hf
   ·rename_i cs e sz pu ho
    split at hf
    ·rename_i hcond
     obtain⟨htot,hrange⟩:=hcond
     simp only[aj] at hr
     obtain⟨hle,X,cap,rfl,hlc,hcur⟩:=hr
     have hk:=hcur sz ⟨cs,e,pu,ho,htot⟩
     have cQ:=hS.obj id _ ho
     simp only[bI] at cQ
     obtain⟨q1,q2,q3⟩:=cQ
     have cellsOf:∀(j:Nat) (c:AV),((cs.drop off).take (len*sz))[j]?=some c→∃(p:Addr) (v:Value),X=some p∧¬B p.block∧w.cell? (p.add j)=some v∧aj A w σ o c v:=by
      intro j c hc
      rw[List.getElem?_take] at hc
      split at hc
      ·rename_i hj
       rw[List.getElem?_drop] at hc
       have hpos:0<len:=by
        rcases Nat.eq_zero_or_pos len with h0|h0
        ·subst h0;simp at hj
        ·exact h0
       unfold iO at hk
       split at hk
       ·omega
       ·rename_i b c2 hσ
        rcases q3 with⟨h0,_⟩|⟨b',cap',arr,r1,_,r3,_,_,r6⟩
        ·rw[hσ] at h0;cases h0
        ·rw[hσ] at r1
         simp only[Option.some.injEq,Prod.mk.injEq] at r1
         obtain⟨rfl,rfl⟩:=r1
         obtain⟨v,hv,fi⟩:=r6 _ c hc
         refine⟨⟨b,off,none⟩,v,(by rw[hk.1 hpos,kq (by omega)]),ht id (by simp[cY]) b c2 hσ,?_,fi⟩
         rw[AS]
         simp[World.cell?,r3,hv]
       ·exact hk.elim
      ·cases hc
     split at hf
     ·rename_i cJ
      injection hf with hf;subst hf
      have hpure:bJ ((cs.drop off).take (len*sz))=true:=nk fun c hc=>jK (q1 cJ) c (List.mem_of_mem_drop (List.mem_of_mem_take hc))
      simp only[aj]
      refine⟨X,cap,rfl,hlc,hpure,bH.gv _ _ _ fun j c hc=>?_⟩
      obtain⟨p,v,hp,hnb,hcell,fi⟩:=cellsOf j c hc
      exact⟨p,v,hp,⟨fun⟨i,c,hi⟩=>by simp at hi,hnb⟩,by simpa using hcell,aj.ren hA hm c v c (AV.qR _ c (jK hpure c (List.mem_of_getElem? hc))) fi⟩
     ·rename_i cJ
      split at hf
      ·rename_i cs' hcs'
       split at hf
       ·rename_i hpure
        injection hf with hf;subst hf
        obtain⟨m1,m2⟩:=xU hcs'
        simp only[aj]
        refine⟨X,cap,rfl,hlc,hpure,bH.gv _ _ _ fun j c' hc'=>?_⟩
        have hj:j<((cs.drop off).take (len*sz)).length:=by have:=(List.getElem?_eq_some_iff.1 hc').1;omega
        obtain⟨p,v,hp,hnb,hcell,fi⟩:=cellsOf j _ (List.getElem?_eq_getElem hj)
        obtain⟨b,hb,pj⟩:=m2 j _ (List.getElem?_eq_getElem hj)
        rw[hc'] at hb
        injection hb with hb
        subst hb
        refine⟨p,v,hp,⟨fun⟨i,c,hi⟩=>by simp at hi,hnb⟩,by simpa using hcell,ih _ _ v pj (fun id' QR=>ht id' ?_) fi⟩
        simp only[cY,ho,List.mem_cons]
        right
        rw[if_neg cJ]
        exact List.mem_flatMap.2 ⟨_,List.getElem_mem hj,QR⟩
       ·cases hf
      ·cases hf
    ·cases hf
   ·cases hf
  ·rename_i f a b
   split at hf
   ·rename_i a' b' h1 h2
    injection hf with hf;subst hf
    simp only[aj] at hr ⊢
    obtain⟨x,y,rfl,hx,hy⟩:=hr
    refine⟨x,y,by rw[jo.eq (A:=A) (A':=B)],qT h1 hx fun c hc c' v hfc hrc=>ih c c' v hfc (fun id hid=>ht id ?_) hrc,qT h2 hy fun c hc c' v hfc hrc=>ih c c' v hfc (fun id hid=>ht id ?_) hrc⟩
    ·simp only[cY,List.mem_append,List.mem_flatMap];exact .inl ⟨c,hc,hid⟩
    ·simp only[cY,List.mem_append,List.mem_flatMap];exact .inr ⟨c,hc,hid⟩
   ·cases hf
theorem aU.far (hS:aU A w σ o) (hE:Ext w [] [] w' σ' o'):aU A w' σ o∧Ext w σ o w' σ o:=by
 have hblk:∀b,b<w.heap.size→w'.heap[b]?=w.heap[b]?:=fun b hb=>(hE.blk b hb fun⟨i,c,hi⟩=>by simp at hi).1
 have hE':Ext w σ o w' σ o:=⟨hE.size,fun b hb hn=>⟨hblk b hb,hn⟩,Nat.le_refl _,fun _ _ h=>⟨h,fun _ h=>⟨h,rfl⟩⟩,fun _ h=>⟨h,rfl⟩,hE.os,hE.tape,hE.output⟩
 exact⟨⟨hS.len,hS.dist,fun i b c h=>Nat.lt_of_lt_of_le (hS.bnd i b c h) hE.size,fun i x hx=>(hS.obj i x hx).ext hE' rfl fun b c hb=>hblk b (hS.bnd i b c hb),hS.av,fun b hb=>Nat.lt_of_lt_of_le (hS.gw b hb) hE.size⟩,hE'⟩
mutual
theorem G0:∀(r:AV) (u:Value),r.fW=true→aj A w σ o r u→aj B w' σ' o' r u
 | .ud,_,_,_=>by simp[aj]
 | .sc v,u,_,h=>by simpa[aj] using h
 | .agg cs,u,hn,h=>by
  simp only[AV.fW] at hn
  simp only[aj] at h ⊢
  obtain⟨vs,rfl,hl⟩:=h
  exact⟨vs,rfl,Bc cs _ hn hl⟩
 | .aD cs,u,hn,h=>by
  simp only[AV.fW] at hn
  simp only[aj] at h ⊢
  obtain⟨vs,rfl,hl⟩:=h
  exact⟨vs,rfl,Bc cs _ hn hl⟩
 | .sl n cs,u,hn,h=>by
  simp only[AV.fW,List.isEmpty_iff] at hn
  subst hn
  simp only[aj,bH] at h ⊢
  exact h
 | .ep _ _,_,hn,_| .ptr _ _ _,_,hn,_| .os _ _ _ _,_,hn,_| .mp _,_,hn,_| .fn _ _ _,_,hn,_=>by simp[AV.fW] at hn
theorem Bc:∀(cs:List AV) (vs:List Value),oN cs=true→aA A w σ o cs vs→aA B w' σ' o' cs vs
 |[],vs,_,h=>by simpa[aA] using h
 |c::cs,vs,hn,h=>by
  simp only[oN,Bool.and_eq_true] at hn
  simp only[aA] at h ⊢
  obtain⟨v,r,rfl,hv,hl⟩:=h
  exact⟨v,r,rfl,G0 c v hn.1 hv,Bc cs r hn.2 hl⟩
end
theorem xW (w:World) (hA:∀b,A b→b<w.heap.size):aU A w [] []:=⟨rfl,by simp,by simp,by simp,by simp,hA⟩
theorem QS {call:bB} (hcall:jp P call) (hS:aU A w σ o) {f:FuncId} {args args':List AV} {vs:List Value} (hr:aA A w σ o args vs) (hf:args.mapM (freeze o 6)=some args') {r:AV}
  (hc:call f args' [] false=some (r,[])) (hcl:(args.flatMap (cY o 6)).isEmpty=true∨r.fW=true):
  eG P f=true∧Calls P f vs.toArray w fun e w'=>∃u σ',e= .returned u∧aU A w' σ' o∧aj A w' σ' o r u∧Ext w σ o w' σ' o:=by
 obtain⟨hg,hco,_⟩:=hcall _ _ _ _ _ _ hc
 refine⟨hg,?_⟩
 rcases hcl with hcl|hcl
 ·
  let B:bG:=⟨fun b=>A b∨Own σ b,A.l⟩
  have hB:∀b,B b→b<w.heap.size:=fun b hb=>Or.elim (show A b∨Own σ b from hb) (hS.gw b) fun⟨i,c,hi⟩=>hS.bnd i b c hi
  haveI:jo A B:=⟨rfl⟩
  haveI:jo B A:=⟨rfl⟩
  have Bd:aA B w [] [] args' vs:=qT hf hr fun c hc' c' v hfc hrc=>Ba hS (fun b _ hfr hb=>Or.elim (show A b∨Own σ b from hb) hfr.2 hfr.1) 6 c c' v hfc (fun id hid=>by
   have:id∈args.flatMap (cY o 6):=List.mem_flatMap.2 ⟨c,hc',hid⟩
   rw[List.isEmpty_iff.1 hcl] at this
   simp at this) hrc
  refine(hco B w [] vs (xW w hB) Bd).mono ?_
  rintro e w' ⟨u,σ',rfl,hS',hr',hE⟩
  obtain⟨h1,h2⟩:=hS.far hE
  refine⟨u,σ,rfl,h1,?_,h2⟩
  have hbel:r.a6 0=true:=aj.a6 (k:=0) (fun i x _ hx=>by simp at hx) r u hr'
  refine aj.ren (m:=kV 0) (fun b hb hfr=>⟨fun ho=>hfr.2 (show A b∨Own σ b from .inr ho),fun ha=>hfr.2 (show A b∨Own σ b from .inl ha)⟩) (fun id id' h=>by simp[kV] at h) r u r (xT 0 r hbel) hr'
 ·have Bd:aA A w [] [] args' vs:=qT hf hr fun c hc' c' v hfc hrc=>Ba hS (fun b _ hfr hb=>hfr.2 hb) 6 c c' v hfc (fun id _ b c2 hσ=>hS.av id b c2 hσ) hrc
  refine(hco A w [] vs (xW w hS.gw) Bd).mono ?_
  rintro e w' ⟨u,σ',rfl,hS',hr',hE⟩
  obtain⟨h1,h2⟩:=hS.far hE
  exact⟨u,σ,rfl,h1,G0 r u hcl hr',h2⟩
end
section
variable {A:bG} {w:World} {σ:aV} {o:Store}
def eO (o:Store) (p:Nat→Bool) (i:Nat):Bool:=p i&&(match o[i]? with|some (.cells _ _ _ true)=>true|_=>false)
def gZ (o:Store) (p:Nat→Bool) (σ:aV):aV:=(List.range σ.length).map fun i=>if eO o p i then none else(σ[i]?).getD none
theorem Be (o:Store) (p:Nat→Bool) (σ:aV):(gZ o p σ).length=σ.length:=by simp[gZ]
theorem Bf {o:Store} {p:Nat→Bool} {σ:aV} {i:Nat} (hi:i<σ.length):(gZ o p σ)[i]?=some (if eO o p i then none else(σ[i]?).getD none):=by
 simp[gZ,hi]
theorem pm {o:Store} {p:Nat→Bool} {σ:aV} {i:Nat} {s:Nat×Nat} (h:(gZ o p σ)[i]?=some (some s)):σ[i]?=some (some s)∧eO o p i=false:=by
 have hi:i<σ.length:=by have:=(List.getElem?_eq_some_iff.1 h).1;simpa[Be] using this
 rw[Bf hi] at h
 cases hd:eO o p i with
 |true=>simp[hd] at h
 |false=>
  simp only[hd,Bool.false_eq_true,if_false,Option.some.injEq] at h
  rw[List.getElem?_eq_getElem hi] at h ⊢
  simp at h
  exact⟨by rw[h],rfl⟩
theorem G2 {o:Store} {p:Nat→Bool} {σ:aV} {i:Nat} (h:eO o p i=false):(gZ o p σ)[i]?=σ[i]?:=by
 rcases Nat.lt_or_ge i σ.length with hi|hi
 ·rw[Bf hi,h,List.getElem?_eq_getElem hi];simp
 ·rw[List.getElem?_eq_none hi,List.getElem?_eq_none (by rw[Be];exact hi)]
def Bg (p:Nat→Bool) (i:Nat):aP→aP
 | .cells cs e sz true=>if p i then .dead else .cells cs e sz true
 |x=>x
theorem xX (p:Nat→Bool):∀(o:Store) (k i:Nat),(dx p k o)[i]?=(o[i]?).map (Bg p (k+i))
 |[],k,i=>by simp[dx]
 |x::r,k,i=>by
  simp only[dx]
  cases i with
  |zero=>simp only[List.getElem?_cons_zero,Option.map_some,Nat.add_zero];congr 1
  |succ i=>simp only[List.getElem?_cons_succ];rw[xX p r (k+1) i,show k+1+i=k+(i+1) from by omega]
theorem G3 {p:Nat→Bool} {o0:Store}:∀{o o':Store},eV o0 p o=some o'→o'.length=o.length∧∀(i:Nat) (x:aP),o[i]?=some x→∃y,x.aX o0 p=some y∧o'[i]?=some y
 |[],o',h=>by simp only[eV,Option.some.injEq] at h;subst h;simp
 |x::r,o',h=>by
  simp only[eV] at h
  split at h
  ·rename_i y l h1 h2
   injection h with h;subst h
   obtain⟨i1,i2⟩:=G3 h2
   refine⟨by simp[i1],fun i z hz=>?_⟩
   cases i with
   |zero=>simp at hz;subst hz;exact⟨y,h1,by simp⟩
   |succ i=>obtain⟨y',k1,k2⟩:=i2 i z (by simpa using hz);exact⟨y',k1,by simpa using k2⟩
  ·cases h
theorem Bh {o:Store} {p:Nat→Bool}:∀{cs cs':List AV},dL o p cs=some cs'→cs'.length=cs.length∧∀(j:Nat) (c':AV),cs'[j]?=some c'→∃c,cs[j]?=some c∧c.aX o p=some c'
 |[],cs',h=>by simp only[dL,Option.some.injEq] at h;subst h;simp
 |c::cs,cs',h=>by
  simp only[dL] at h
  split at h
  ·rename_i c1 cs1 h1 h2
   injection h with h;subst h
   obtain⟨i1,i2⟩:=Bh h2
   refine⟨by simp[i1],fun j d hd=>?_⟩
   cases j with
   |zero=>simp at hd;subst hd;exact⟨c,by simp,h1⟩
   |succ j=>simp at hd;obtain⟨c2,h3,h4⟩:=i2 j d hd;exact⟨c2,by simpa using h3,h4⟩
  ·cases h
theorem G4 {o:Store} {p:Nat→Bool}:∀{es es':List (Value×AV)},kR o p es=some es'→es'.length=es.length∧∀(j:Nat) (e':Value×AV),es'[j]?=some e'→∃e,es[j]?=some e∧e.1=e'.1∧e.2.aX o p=some e'.2
 |[],es',h=>by simp only[kR,Option.some.injEq] at h;subst h;simp
 |e::es,es',h=>by
  simp only[kR] at h
  split at h
  ·rename_i v es1 h1 h2
   injection h with h;subst h
   obtain⟨i1,i2⟩:=G4 h2
   refine⟨by simp[i1],fun j d hd=>?_⟩
   cases j with
   |zero=>simp at hd;subst hd;exact⟨e,by simp,rfl,h1⟩
   |succ j=>simp at hd;obtain⟨c2,h3,h4⟩:=i2 j d hd;exact⟨c2,by simpa using h3,h4⟩
  ·cases h
theorem G5 {o:Store} {p:Nat→Bool}:∀{env env':dI},oO o p env=some env'→∀s,(bE env s).aX o p=some (bE env' s)
 |[],env',h,s=>by simp only[oO,Option.some.injEq] at h;subst h;rfl
 |(k,v)::r,env',h,s=>by
  simp only[oO] at h
  split at h
  ·rename_i v' r' h1 h2
   injection h with h;subst h
   simp only[bE]
   cases hq:Nat.beq k s with
   |true=>exact h1
   |false=>exact G5 h2 s
  ·cases h
mutual
theorem AV.G6 (o:Store) (p:Nat→Bool):∀(c:AV),c.pure=true→c.aX o p=some c
 | .sc _,_=>rfl
 | .sl _ _,_=>rfl
 | .ud,h| .agg _,h| .aD _,h| .ep _ _,h| .ptr _ _ _,h| .os _ _ _ _,h| .mp _,h| .fn _ _ _,h=>by simp[AV.pure] at h
end
theorem QT {o:Store} {p:Nat→Bool} {c c':AV} (h:c.aX o p=some c') (h1:c.one=true):c'.one=true:=by
 cases c<;>simp only[AV.one,Bool.false_eq_true] at h1<;>simp only[AV.aX] at h
 all_goals first
  |(injection h with h;subst h;first|exact h1|rfl)
  |((repeat' split at h)<;>first
    |(cases h;done)
    |(injection h with h;subst h;rfl))
structure nm (o:Store) (p:Nat→Bool) (o2:Store):Prop where
 len:o2.length=o.length
 get:∀i x,o[i]?=some x→(eO o p i=true∧o2[i]?=some .dead)∨(eO o p i=false∧∃y,x.aX o p=some y∧o2[i]?=some y)
theorem G7 {o o1:Store} {p:Nat→Bool} (h:eV o p o=some o1):nm o p (dx p 0 o1):=by
 obtain⟨h1,h2⟩:=G3 h
 have hl:(dx p 0 o1).length=o.length:=by
  rw[←h1]
  apply Nat.le_antisymm
  ·rcases Nat.lt_or_ge o1.length (dx p 0 o1).length with h|h
   ·exfalso
    have:=xX p o1 0 o1.length
    rw[List.getElem?_eq_getElem h] at this
    simp at this
   ·exact h
  ·rcases Nat.lt_or_ge (dx p 0 o1).length o1.length with h|h
   ·exfalso
    have:=xX p o1 0 (dx p 0 o1).length
    rw[List.getElem?_eq_getElem h] at this
    simp at this
   ·exact h
 refine⟨hl,fun i x hx=>?_⟩
 obtain⟨y,hy,hy2⟩:=h2 i x hx
 have hg:=xX p o1 0 i
 rw[hy2,Nat.zero_add] at hg
 simp only[Option.map_some] at hg
 unfold eO
 rw[hx]
 cases x with
 |cells cs e sz pu=>
  cases pu with
  |true=>
   simp only[aP.aX,if_true,Option.some.injEq] at hy
   subst hy
   simp only[Bg] at hg
   cases hp:p i with
   |true=>left;simp[hp] at hg ⊢;exact hg
   |false=>right;simp[hp] at hg ⊢;exact⟨_,by simp[aP.aX],hg⟩
  |false=>
   right
   simp only[aP.aX,Bool.false_eq_true,if_false,Option.map_eq_some_iff] at hy
   obtain⟨cs',hc,rfl⟩:=hy
   simp only[Bg] at hg
   exact⟨by simp,_,by simp[aP.aX,hc],hg⟩
 |dead=>
  simp only[aP.aX,Option.some.injEq] at hy
  subst hy
  right
  exact⟨by simp,_,rfl,hg⟩
 |map es kt pu=>
  right
  have:∃es',y= .map es' kt pu:=by
   simp only[aP.aX] at hy
   split at hy
   ·injection hy with hy;exact⟨es,hy.symm⟩
   ·obtain⟨es',_,rfl⟩:=Option.map_eq_some_iff.1 hy;exact⟨es',rfl⟩
  obtain⟨es',rfl⟩:=this
  exact⟨by simp,_,hy,hg⟩
theorem nm.tr {o2:Store} {p:Nat→Bool} (h:nm o p o2) {id:Nat} (hd:eO o p id=false):Tr o σ o2 (gZ o p σ) id id:=by
 refine⟨fun cs e sz pu ho=>?_,fun⟨es,kt,pu,ho⟩=>?_,G2 hd⟩
 ·rcases h.get id _ ho with⟨h1,_⟩|⟨_,y,hy,h2⟩
  ·rw[hd] at h1;cases h1
  ·simp only[aP.aX] at hy
   split at hy
   ·injection hy with hy;subst hy;exact⟨cs,e,pu,h2,rfl⟩
   ·obtain⟨cs',hc,rfl⟩:=Option.map_eq_some_iff.1 hy
    exact⟨cs',e,pu,h2,(Bh hc).1⟩
 ·rcases h.get id _ ho with⟨h1,_⟩|⟨_,y,hy,h2⟩
  ·rw[hd] at h1;cases h1
  ·simp only[aP.aX] at hy
   split at hy
   ·injection hy with hy;subst hy;exact⟨es,kt,pu,h2⟩
   ·obtain⟨es',hc,rfl⟩:=Option.map_eq_some_iff.1 hy
    exact⟨es',kt,pu,h2⟩
theorem qU {p:Nat→Bool} {b:Nat} (h:Fr A σ b):Fr A (gZ o p σ) b:=⟨fun⟨i,c,hi⟩=>h.1 ⟨i,c,(pm hi).1⟩,h.2⟩
mutual
theorem aj.aX (hS:aU A w σ o) {p:Nat→Bool} {o2:Store} (hF:nm o p o2):∀(c:AV) (v:Value) (c':AV),c.aX o p=some c'→aj A w σ o c v→aj A w (gZ o p σ) o2 c' v
 | .ud,v,c',hc,_=>by simp only[AV.aX,Option.some.injEq] at hc;subst hc;simp[aj]
 | .sc u,v,c',hc,h=>by simp only[AV.aX,Option.some.injEq] at hc;subst hc;simpa[aj] using h
 | .sl n cs,v,c',hc,h=>by
  simp only[AV.aX,Option.some.injEq] at hc;subst hc
  exact aj.ren (m:=fun _=>none) (fun b _ hf=>qU hf) (fun _ _ h=>by cases h) _ _ _ rfl h
 | .ep cs off,v,c',hc,h=>by
  simp only[AV.aX,Option.some.injEq] at hc;subst hc
  exact aj.ren (m:=fun _=>none) (fun b _ hf=>qU hf) (fun _ _ h=>by cases h) _ _ _ rfl h
 | .agg cs,v,c',hc,h=>by
  simp only[AV.aX,Option.map_eq_some_iff] at hc
  obtain⟨cs',h1,rfl⟩:=hc
  simp only[aj] at h ⊢
  obtain⟨vs,rfl,hl⟩:=h
  exact⟨vs,rfl,aA.aX hS hF cs _ cs' h1 hl⟩
 | .aD cs,v,c',hc,h=>by
  simp only[AV.aX,Option.map_eq_some_iff] at hc
  obtain⟨cs',h1,rfl⟩:=hc
  simp only[aj] at h ⊢
  obtain⟨vs,rfl,hl⟩:=h
  exact⟨vs,rfl,aA.aX hS hF cs _ cs' h1 hl⟩
 | .ptr id off tot,v,c',hc,h=>by
  have hd:eO o p id=false∧c'= .ptr id off tot:=by
   unfold eO
   simp only[AV.aX] at hc
   split at hc
   ·rename_i hp
    split at hc
    ·rename_i pu ho
     split at hc
     ·cases hc
     ·rename_i cJ
      injection hc with hc
      refine⟨?_,hc.symm⟩
      cases pu with
      |true=>exact absurd rfl cJ
      |false=>simp[ho]
    ·rename_i hne
     injection hc with hc
     refine⟨?_,hc.symm⟩
     have:(match o[id]? with|some (.cells _ _ _ true)=>true|_=>false)=false:=by
      split
      ·rename_i a b c ho;exact absurd ho (hne _ _ _ _)
      ·rfl
     rw[this,Bool.and_false]
   ·rename_i hp
    injection hc with hc
    exact⟨by simp[hp],hc.symm⟩
  obtain⟨hd,rfl⟩:=hd
  exact aj.ren (m:=fun i=>if i=id then some id else none) (fun b _ hf=>qU hf) (fun i j hij=>by
   split at hij
   ·rename_i h0;injection hij with hij;subst h0;subst hij;exact hF.tr hd
   ·cases hij) _ _ _ (by simp[AV.ren]) h
 | .mp id,v,c',hc,h=>by
  simp only[AV.aX,Option.some.injEq] at hc;subst hc
  have hd:eO o p id=false:=by
   simp only[aj] at h
   obtain⟨⟨es,kt,pu,ho⟩,_⟩:=h
   simp[eO,ho]
  exact aj.ren (m:=fun i=>if i=id then some id else none) (fun b _ hf=>qU hf) (fun i j hij=>by
   split at hij
   ·rename_i h0;injection hij with hij;subst h0;subst hij;exact hF.tr hd
   ·cases hij) _ _ _ (by simp[AV.ren]) h
 | .fn f a b,v,c',hc,h=>by
  simp only[AV.aX] at hc
  split at hc
  ·rename_i a' b' h1 h2
   injection hc with hc;subst hc
   simp only[aj] at h ⊢
   obtain⟨x,y,rfl,hx,hy⟩:=h
   exact⟨x,y,rfl,aA.aX hS hF a _ a' h1 hx,aA.aX hS hF b _ b' h2 hy⟩
  ·cases hc
 | .os id off len tot,v,c',hc,h=>by
  have keep:eO o p id=false→c'= .os id off len tot→aj A w (gZ o p σ) o2 c' v:=by
   rintro hd rfl
   exact aj.ren (m:=fun i=>if i=id then some id else none) (fun b _ hf=>qU hf) (fun i j hij=>by
    split at hij
    ·rename_i h0;injection hij with hij;subst h0;subst hij;exact hF.tr hd
    ·cases hij) _ _ _ (by simp[AV.ren]) h
  simp only[AV.aX] at hc
  split at hc
  ·rename_i hp
   split at hc
   ·rename_i cs e sz pu ho
    split at hc
    ·rename_i cJ
     subst cJ
     split at hc
     ·rename_i hcond
      injection hc with hc;subst hc
      obtain⟨htot,hrange⟩:=hcond
      have hdr:eO o p id=true:=by simp[eO,hp,ho]
      simp only[aj] at h
      obtain⟨hle,X,cap,rfl,hlc,hcur⟩:=h
      have hk:=hcur sz ⟨cs,e,true,ho,htot⟩
      have cQ:=hS.obj id _ ho
      simp only[bI] at cQ
      obtain⟨q1,q2,q3⟩:=cQ
      have hpure:bJ ((cs.drop off).take (len*sz))=true:=nk fun c hc=>jK (q1 trivial) c (List.mem_of_mem_drop (List.mem_of_mem_take hc))
      simp only[aj]
      refine⟨X,cap,rfl,hlc,hpure,bH.gv _ _ _ fun j c hc=>?_⟩
      have hcp:=jK hpure c (List.mem_of_getElem? hc)
      rw[List.getElem?_take] at hc
      split at hc
      ·rename_i hj
       rw[List.getElem?_drop] at hc
       have hpos:0<len:=by
        rcases Nat.eq_zero_or_pos len with h0|h0
        ·subst h0;simp at hj
        ·exact h0
       unfold iO at hk
       split at hk
       ·omega
       ·rename_i b c2 hσ
        rcases q3 with⟨h0,_⟩|⟨b',cap',arr,r1,_,r3,_,_,r6⟩
        ·rw[hσ] at h0;cases h0
        ·rw[hσ] at r1
         simp only[Option.some.injEq,Prod.mk.injEq] at r1
         obtain⟨rfl,rfl⟩:=r1
         obtain⟨u,hu,eW⟩:=r6 _ c hc
         refine⟨⟨b,off,none⟩,u,(by rw[hk.1 hpos,kq (by omega)]),⟨?_,hS.av id b c2 hσ⟩,?_,?_⟩
         ·rintro⟨i,c3,hi⟩
          obtain⟨k1,k2⟩:=pm hi
          have:=hS.dist id i b c2 c3 hσ k1
          subst this
          rw[hdr] at k2;cases k2
         ·rw[Nat.zero_add,AS]
          simp[World.cell?,r3,hu]
         ·exact aj.ren (m:=fun _=>none) (fun b _ hf=>qU hf) (fun _ _ h=>by cases h) c u c (AV.qR _ c hcp) eW
       ·exact hk.elim
      ·cases hc
     ·cases hc
    ·rename_i cJ
     injection hc with hc
     refine keep ?_ hc.symm
     cases pu with
     |true=>exact absurd rfl cJ
     |false=>simp[eO,ho]
   ·rename_i hne
    injection hc with hc
    refine keep ?_ hc.symm
    unfold eO
    have:(match o[id]? with|some (.cells _ _ _ true)=>true|_=>false)=false:=by
     split
     ·rename_i a b c ho;exact absurd ho (hne _ _ _ _)
     ·rfl
    rw[this,Bool.and_false]
  ·rename_i hp
   injection hc with hc
   exact keep (by simp[eO,hp]) hc.symm
theorem aA.aX (hS:aU A w σ o) {p:Nat→Bool} {o2:Store} (hF:nm o p o2):∀(cs:List AV) (vs:List Value) (cs':List AV),dL o p cs=some cs'→aA A w σ o cs vs→aA A w (gZ o p σ) o2 cs' vs
 |[],vs,cs',hc,h=>by simp only[dL,Option.some.injEq] at hc;subst hc;simpa[aA] using h
 |c::cs,vs,cs',hc,h=>by
  simp only[dL] at hc
  split at hc
  ·rename_i c1 cs1 h1 h2
   injection hc with hc;subst hc
   simp only[aA] at h ⊢
   obtain⟨v,r,rfl,hv,hl⟩:=h
   exact⟨v,r,rfl,aj.aX hS hF c v c1 h1 hv,aA.aX hS hF cs r cs1 h2 hl⟩
  ·cases hc
end
end
section
variable {A:bG} {w:World} {σ:aV} {o:Store}
theorem bI.aX (hS:aU A w σ o) {p:Nat→Bool} {o2:Store} (hF:nm o p o2) {i:Nat} {x y:aP} (hx:o[i]?=some x) (hd:eO o p i=false) (hy:x.aX o p=some y):bI A w (gZ o p σ) o2 i y:=by
 have h:=hS.obj i x hx
 have hσ:=G2 (σ:=σ) hd
 cases x with
 |dead=>simp only[aP.aX,Option.some.injEq] at hy;subst hy;simp only[bI] at h ⊢;rw[hσ];exact h
 |cells cs e sz pu=>
  simp only[bI] at h
  obtain⟨h1,h2,h3⟩:=h
  have key:∀cs',cs'.length=cs.length→(pu=true→bJ cs'=true)→cz cs'=true→(∀(j:Nat) (c':AV) (v:Value),cs'[j]?=some c'→(∀c,cs[j]?=some c→aj A w σ o c v→aj A w (gZ o p σ) o2 c' v))→bI A w (gZ o p σ) o2 i (.cells cs' e sz pu):=by
   intro cs' k1 k2 k3 k4
   simp only[bI]
   refine⟨k2,k3,?_⟩
   rcases h3 with⟨h0,h0'⟩|⟨b,cap,arr,r1,r2,r3,r4,r5,r6⟩
   ·left;rw[hσ];exact⟨h0,List.eq_nil_of_length_eq_zero (by rw[k1,h0'];rfl)⟩
   ·refine .inr ⟨b,cap,arr,by rw[hσ];exact r1,r2,r3,r4,by omega,fun j c' hj=>?_⟩
    have hjl:j<cs.length:=by have:=(List.getElem?_eq_some_iff.1 hj).1;omega
    obtain⟨v,hv,hr⟩:=r6 j _ (List.getElem?_eq_getElem hjl)
    exact⟨v,hv,k4 j c' v hj _ (List.getElem?_eq_getElem hjl) hr⟩
  simp only[aP.aX] at hy
  split at hy
  ·rename_i cJ
   injection hy with hy;subst hy
   refine key cs rfl h1 h2 fun j c' v hj c hc hr=>?_
   rw[hj] at hc
   injection hc with hc
   subst hc
   exact aj.aX hS hF c' v c' (AV.G6 o p c' (jK (h1 cJ) c' (List.mem_of_getElem? hj))) hr
  ·rename_i cJ
   obtain⟨cs',hc',rfl⟩:=Option.map_eq_some_iff.1 hy
   obtain⟨g1,g2⟩:=Bh hc'
   refine key cs' g1 (fun hp=>absurd hp cJ) (gx.2 fun c hc=>?_) fun j c' v hj c hc hr=>?_
   ·obtain⟨j,hj⟩:=List.getElem?_of_mem hc
    obtain⟨c0,q1,q2⟩:=g2 j c hj
    exact QT q2 (gx.1 h2 c0 (List.mem_of_getElem? q1))
   ·obtain⟨c0,q1,q2⟩:=g2 j c' hj
    rw[hc] at q1
    injection q1 with q1
    subst q1
    exact aj.aX hS hF c v c' q2 hr
 |map es kt pu=>
  simp only[bI] at h
  obtain⟨h1,h2,b,c,en,cl,h3,h4,h5,h6⟩:=h
  simp only[aP.aX] at hy
  split at hy
  ·rename_i cJ
   injection hy with hy;subst hy
   simp only[bI]
   refine⟨h1,h2,b,c,en,cl,by rw[hσ];exact h3,h4,h5,fun j e he=>?_⟩
   obtain⟨m',q1,q2,q3⟩:=h6 j e he
   exact⟨m',q1,q2,aj.aX hS hF e.2 _ e.2 (AV.G6 o p e.2 (h1 cJ e (List.mem_of_getElem? he))) q3⟩
  ·rename_i cJ
   obtain⟨es',hc',rfl⟩:=Option.map_eq_some_iff.1 hy
   obtain⟨g1,g2⟩:=G4 hc'
   simp only[bI]
   refine⟨fun hp=>absurd hp cJ,fun e he=>?_,b,c,en,cl,by rw[hσ];exact h3,h4,by omega,fun j e' he=>?_⟩
   ·obtain⟨j,hj⟩:=List.getElem?_of_mem he
    obtain⟨e0,q1,q2,_⟩:=g2 j e hj
    rw[←q2]
    exact h2 e0 (List.mem_of_getElem? q1)
   ·obtain⟨e0,q1,q2,q3⟩:=g2 j e' he
    obtain⟨m',r1,r2,r3⟩:=h6 j e0 q1
    exact⟨m',r1,by rw[r2,q2],aj.aX hS hF e0.2 _ e'.2 q3 r3⟩
theorem aU.aX (hS:aU A w σ o) {p:Nat→Bool} {o2:Store} (hF:nm o p o2):aU A w (gZ o p σ) o2:=by
 refine⟨by rw[Be,hF.len,hS.len],fun i j b c d hi hj=>hS.dist i j b c d (pm hi).1 (pm hj).1,fun i b c hi=>hS.bnd i b c (pm hi).1,fun i y hy=>?_,fun i b c hi=>hS.av i b c (pm hi).1,hS.gw⟩
 have hi:i<o.length:=by have:=(List.getElem?_eq_some_iff.1 hy).1;rw[hF.len] at this;exact this
 have hx:=List.getElem?_eq_getElem hi
 rcases hF.get i _ hx with⟨h1,h2⟩|⟨h1,z,h2,h3⟩
 ·rw[hy] at h2
  injection h2 with h2
  subst h2
  simp only[bI]
  rw[Bf (by rw[hS.len];exact hi),h1]
  rfl
 ·rw[hy] at h3
  injection h3 with h3
  subst h3
  exact bI.aX hS hF hx h1 h2
theorem Ext.aX {w0:World} {aK:aV} {o0:Store} (hE:Ext w0 aK o0 w σ o) {p:Nat→Bool} {o2:Store} (hF:nm o p o2) (hp:∀i,i<o0.length→p i=false):Ext w0 aK o0 w (gZ o p σ) o2 where
 size:=hE.size
 blk:=fun b hb hn=>by
  obtain⟨h1,h2⟩:=hE.blk b hb hn
  exact⟨h1,fun⟨i,c,hi⟩=>h2 ⟨i,c,(pm hi).1⟩⟩
 len:=by rw[hF.len];exact hE.len
 cur:=fun id tot ha=>by
  obtain⟨h1,h2⟩:=hE.cur id tot ha
  have hid:id<o0.length:=by obtain⟨cs,e,sz,pu,ho,_⟩:=ha;exact(List.getElem?_eq_some_iff.1 ho).1
  have hd:eO o p id=false:=by simp[eO,hp id hid]
  have ht:=hF.tr (σ:=σ) hd
  refine⟨ht.qQ h1,fun sz hc=>?_⟩
  rw[ht.2.2]
  exact h2 sz (ht.cur h1 hc)
 isMap:=fun id ha=>by
  obtain⟨h1,h2⟩:=hE.isMap id ha
  have hid:id<o0.length:=by obtain⟨es,kt,pu,ho⟩:=ha;exact(List.getElem?_eq_some_iff.1 ho).1
  have hd:eO o p id=false:=by simp[eO,hp id hid]
  have ht:=hF.tr (σ:=σ) hd
  exact⟨ht.2.1 h1,by rw[ht.2.2];exact h2⟩
 os:=hE.os
 tape:=hE.tape
 output:=hE.output
end
def kW (o:Store) (d:Nat) (id:Nat) (acc:List Nat):List Nat:=
 if acc.contains id then acc else
 match o[id]? with
 |some (.cells cs _ _ pu)=>if pu then acc++[id] else bq o d cs (acc++[id])
 |some (.map es _ pu)=>if pu then acc++[id] else bq o d (es.map (·.2)) (acc++[id])
 |_=>acc++[id]
def po (o:Store) (d:Nat) (v:AV) (acc:List Nat):List Nat:=
 match v with
 | .agg cs| .aD cs=>bq o d cs acc
 | .ptr id _ _| .os id _ _ _| .mp id=>kW o d id acc
 | .fn _ a b=>bq o d b (bq o d a acc)
 |_=>acc
theorem sZ (o:Store) (d:Nat) (v:AV) (vs:List AV) (acc:List Nat):bq o (d+1) (v::vs) acc=bq o d vs (po o d v acc):=by
 cases v<;>rfl
theorem jq:∀(ids:List Nat) (o X:Store),(gW o ids X).length=o.length
 |[],o,X=>by cases X<;>rfl
 |i::r,o,[]=>rfl
 |i::r,o,x::l=>by simp only[gW];rw[jq r];simp
theorem xY:∀(ids:List Nat) (o X:Store) (j:Nat),j∉ids→(gW o ids X)[j]?=o[j]?
 |[],o,X,j,_=>by cases X<;>rfl
 |i::r,o,[],j,_=>rfl
 |i::r,o,x::l,j,h=>by
  simp only[List.mem_cons,not_or] at h
  simp only[gW]
  rw[xY r _ l j h.2,List.getElem?_set_ne (Ne.symm h.1)]
theorem Bi {m:Nat→Option Nat}:∀{o o':Store},mi m o=some o'→o'.length=o.length
 |[],o',h=>by simp only[mi,Option.some.injEq] at h;subst h;rfl
 |x::r,o',h=>by
  simp only[mi] at h
  split at h
  ·rename_i y l h1 h2;injection h with h;subst h;simp[Bi h2]
  ·cases h
theorem nu (o:Store):∀(d:Nat) (vs:List AV) (acc:List Nat),∃t,bq o d vs acc=acc++t
 |0,vs,acc=>⟨[],by cases vs<;>simp[bq]⟩
 |d+1,[],acc=>⟨[],by simp[bq]⟩
 |d+1,v::vs,acc=>by
  rw[sZ]
  have hv:∀id,∃t,kW o d id acc=acc++t:=by
   intro id
   unfold kW
   split
   ·exact⟨[],by simp⟩
   ·split
    ·split
     ·exact⟨_,rfl⟩
     ·obtain⟨t,ht⟩:=nu o d ‹_› (acc++[id]);exact⟨[id]++t,by rw[ht];simp⟩
    ·split
     ·exact⟨_,rfl⟩
     ·rename_i es _ _ _ _;obtain⟨t,ht⟩:=nu o d (es.map (·.2)) (acc++[id]);exact⟨[id]++t,by rw[ht];simp⟩
    ·exact⟨_,rfl⟩
  have hs:∃t,po o d v acc=acc++t:=by
   cases v with
   |agg cs=>exact nu o d cs acc
   |aD cs=>exact nu o d cs acc
   |ptr id _ _=>exact hv id
   |os id _ _ _=>exact hv id
   |mp id=>exact hv id
   |fn f a b=>
    obtain⟨t1,h1⟩:=nu o d a acc
    obtain⟨t2,h2⟩:=nu o d b (acc++t1)
    exact⟨t1++t2,by simp only[po];rw[h1,h2];simp⟩
   |_=>exact⟨[],by simp[po]⟩
  obtain⟨t,ht⟩:=hs
  obtain⟨t2,ht2⟩:=nu o d vs (acc++t)
  exact⟨t++t2,by rw[ht,ht2];simp⟩
theorem qV:∀{ids:List Nat} {i k j:Nat},idxOf ids i k=some j→k≤j∧ids[j - k]?=some i
 |[],i,k,j,h=>by simp[idxOf] at h
 |a::r,i,k,j,h=>by
  simp only[idxOf] at h
  split at h
  ·rename_i hai
   injection h with h;subst h
   simp at hai;subst hai
   simp
  ·obtain⟨h1,h2⟩:=qV h
   refine⟨by omega,?_⟩
   rw[show j - k=(j - (k+1))+1 from by omega]
   simpa using h2
theorem xZ:∀{l:List Nat},eA.ki l=true→l.Nodup
 |[],_=>List.nodup_nil
 |a::r,h=>by
  simp only[eA.ki,Bool.and_eq_true,Bool.not_eq_true',List.contains_eq_mem,decide_eq_false_iff_not] at h
  exact List.nodup_cons.2 ⟨h.1,xZ h.2⟩
theorem qW {o:Store} {ids:List Nat}:∀{r:List Nat} {s:Store},fV o ids r=some s→s.length=r.length∧∀(j i:Nat),r[j]?=some i→∃x y,o[i]?=some x∧x.ren (fun j=>idxOf ids j)=some y∧s[j]?=some y
 |[],s,h=>by simp only[fV,Option.some.injEq] at h;subst h;simp
 |a::r,s,h=>by
  simp only[fV] at h
  split at h
  ·rename_i x l hx hl
   obtain⟨y,hy,rfl⟩:=Option.map_eq_some_iff.1 h
   obtain⟨i1,i2⟩:=qW hl
   refine⟨by simp[i1],fun j i hj=>?_⟩
   cases j with
   |zero=>simp at hj;subst hj;exact⟨x,y,hx,hy,by simp⟩
   |succ j=>obtain⟨x',y',k1,k2,k3⟩:=i2 j i (by simpa using hj);exact⟨x',y',k1,k2,by simpa using k3⟩
  ·cases h
theorem x6 {m:Nat→Option Nat}:∀{o o':Store},mi m o=some o'→∀(i:Nat) (x:aP),o[i]?=some x→∃y,x.ren m=some y∧o'[i]?=some y
 |[],o',h,i,x,hx=>by simp at hx
 |a::r,o',h,i,x,hx=>by
  simp only[mi] at h
  split at h
  ·rename_i y l h1 h2
   injection h with h;subst h
   cases i with
   |zero=>simp at hx;subst hx;exact⟨y,h1,by simp⟩
   |succ i=>obtain⟨z,k1,k2⟩:=x6 h2 i x (by simpa using hx);exact⟨z,k1,by simpa using k2⟩
  ·cases h
theorem G8 {m:Nat→Option Nat} {cs:List AV} {e:TypeId} {sz:Nat} {pu:Bool} {y:aP} (h:(aP.cells cs e sz pu).ren m=some y):∃cs',y= .cells cs' e sz pu∧cs'.length=cs.length:=by
 simp only[aP.ren] at h
 split at h
 ·injection h with h;exact⟨cs,h.symm,rfl⟩
 ·obtain⟨cs',hc,rfl⟩:=Option.map_eq_some_iff.1 h;exact⟨cs',rfl,(A8 hc).1⟩
theorem G9 {m:Nat→Option Nat} {es:List (Value×AV)} {kt:List Nat×Bool} {pu:Bool} {y:aP} (h:(aP.map es kt pu).ren m=some y):∃es',y= .map es' kt pu:=by
 simp only[aP.ren] at h
 split at h
 ·injection h with h;exact⟨es,h.symm⟩
 ·obtain⟨es',hc,rfl⟩:=Option.map_eq_some_iff.1 h;exact⟨es',rfl⟩
def hJ (σ:aV) (ids:List Nat):aV:=ids.map fun i=>(σ[i]?).getD none
section
variable {A A':bG} {w:World} {σ:aV} {o s:Store} {ids:List Nat}
theorem lG {j:Nat} {t:Nat×Nat} (h:(hJ σ ids)[j]?=some (some t)):∃i,ids[j]?=some i∧σ[i]?=some (some t):=by
 unfold hJ at h
 rw[List.getElem?_map] at h
 obtain⟨i,hi,h2⟩:=Option.map_eq_some_iff.1 h
 refine⟨i,hi,?_⟩
 cases hs:σ[i]? with
 |none=>rw[hs] at h2;cases h2
 |some t'=>rw[hs] at h2;simp at h2;rw[h2]
theorem Bj (hlen:σ.length=o.length) (hs:fV o ids ids=some s) {j i:Nat} (hj:ids[j]?=some i):(hJ σ ids)[j]?=σ[i]?:=by
 obtain⟨_,h2⟩:=qW hs
 obtain⟨x,y,hx,_,_⟩:=h2 j i hj
 have hi:i<σ.length:=by rw[hlen];exact(List.getElem?_eq_some_iff.1 hx).1
 unfold hJ
 rw[List.getElem?_map,hj]
 simp[List.getElem?_eq_getElem hi]
theorem pp (hlen:σ.length=o.length) (hs:fV o ids ids=some s) {id id':Nat} (h:idxOf ids id=some id'):Tr o σ s (hJ σ ids) id id':=by
 obtain⟨_,hj⟩:=qV h
 simp only[Nat.sub_zero] at hj
 obtain⟨_,h2⟩:=qW hs
 obtain⟨x,y,hx,hy,hsy⟩:=h2 id' id hj
 refine⟨fun cs e sz pu ho=>?_,fun⟨es,kt,pu,ho⟩=>?_,Bj hlen hs hj⟩
 ·rw[hx] at ho;injection ho with ho;subst ho
  obtain⟨cs',rfl,hl⟩:=G8 hy
  exact⟨cs',e,pu,hsy,hl⟩
 ·rw[hx] at ho;injection ho with ho;subst ho
  obtain⟨es',rfl⟩:=G9 hy
  exact⟨es',kt,pu,hsy⟩
theorem aU.sub [jo A A'] (hS:aU A w σ o) (hn:ids.Nodup) (hs:fV o ids ids=some s) (hA:∀b,b<w.heap.size→Fr A σ b→Fr A' (hJ σ ids) b)
  (QU:∀i∈ids,∀b c,σ[i]?=some (some (b,c))→¬A' b) (QV:∀b,A' b→b<w.heap.size):aU A' w (hJ σ ids) s:=by
 obtain⟨h1,h2⟩:=qW hs
 refine⟨by simp[hJ,h1],fun i j b c d hi hj=>?_,fun i b c hi=>?_,fun j y hy=>?_,fun i b c hi=>?_,QV⟩
 ·obtain⟨x,hx,hx2⟩:=lG hi
  obtain⟨z,hz,hz2⟩:=lG hj
  have:=hS.dist x z b c d hx2 hz2
  subst this
  exact(List.getElem?_inj (List.getElem?_eq_some_iff.1 hx).1 hn).1 (hx.trans hz.symm)
 ·obtain⟨x,hx,hx2⟩:=lG hi
  exact hS.bnd x b c hx2
 ·have hjl:j<ids.length:=by have:=(List.getElem?_eq_some_iff.1 hy).1;omega
  have hj:=List.getElem?_eq_getElem hjl
  obtain⟨x,y',hx,hr,hy'⟩:=h2 j _ hj
  rw[hy] at hy'
  injection hy' with hy'
  subst hy'
  exact bI.ren hA (fun id id' h=>pp hS.len hs h) hr (Bj hS.len hs hj) (hS.obj _ x hx)
 ·obtain⟨x,hx,hx2⟩:=lG hi
  exact QU x (List.mem_of_getElem? hx) b c hx2
theorem QW {o':Store} {w0:World} {aK:aV} {o0:Store} (hS:aU A w σ o) (hE:Ext w0 aK o0 w σ o) {r0 r:AV} {u:Value} (hr:aj A w σ o r0 u) (hf:fe o0.length r0 o=some (r,o')):
  ∃σ',aU A w σ' o'∧aj A w σ' o' r u∧Ext w0 aK o0 w σ' o':=by
 unfold fe at hf
 split at hf
 ·rename_i r1 o1 hr1 ho1
  have hF:=G7 ho1
  have hS2:=hS.aX hF
  have hE2:=hE.aX hF (fun i hi=>by simp only[decide_eq_false_iff_not];omega)
  have hr2:=aj.aX hS hF _ _ _ hr1 hr
  simp only at hf
  generalize dx (fun i=>decide (o0.length≤i)) 0 o1=o2 at hf hF hS2 hE2 hr2
  generalize gZ o (fun i=>decide (o0.length≤i)) σ=σ2 at hS2 hE2 hr2
  obtain⟨t,ht⟩:=nu o2 dr (r1::(o2.take o0.length).flatMap fe.aP.oQ) (List.range o0.length)
  generalize bq o2 dr (r1::(o2.take o0.length).flatMap fe.aP.oQ) (List.range o0.length)=ids at hf ht
  split at hf
  ·rename_i hnd
   split at hf
   ·rename_i r2 s2 hrr hss
    simp only[Option.some.injEq,Prod.mk.injEq] at hf
    obtain⟨rfl,rfl⟩:=hf
    have hfr:∀b,b<w.heap.size→Fr A σ2 b→Fr A (hJ σ2 ids) b:=fun b _ hf=>⟨fun⟨i,c,hi⟩=>by
     obtain⟨x,hx,hx2⟩:=lG hi
     exact hf.1 ⟨x,c,hx2⟩,hf.2⟩
    have hid:∀i,i<o0.length→ids[i]?=some i:=by
     intro i hi
     rw[ht,List.getElem?_append_left (by simpa using hi)]
     simp[hi]
    have hidx:∀i,i<o0.length→idxOf ids i=some i:=by
     intro i hi
     have hmem:i∈ids:=List.mem_of_getElem? (hid i hi)
     have:∃j,idxOf ids i=some j:=by
      have gen:∀(l:List Nat) (k:Nat),i∈l→∃j,idxOf l i k=some j:=by
       intro l
       induction l with
       |nil=>intro k h;simp at h
       |cons a l ih=>
        intro k h
        simp only[idxOf]
        split
        ·exact⟨k,rfl⟩
        ·rename_i hne
         refine ih (k+1) ((List.mem_cons.1 h).resolve_left fun h2=>hne (by simp[h2]))
      exact gen ids 0 hmem
     obtain⟨j,hj⟩:=this
     obtain⟨_,h2⟩:=qV hj
     simp only[Nat.sub_zero] at h2
     have:=(List.getElem?_inj (List.getElem?_eq_some_iff.1 h2).1 (xZ hnd)).1 (h2.trans (hid i hi).symm)
     rw[hj,this]
    refine⟨hJ σ2 ids,hS2.sub (xZ hnd) hss hfr (fun i _ b c h=>hS2.av i b c h) hS2.gw,aj.ren hfr (fun id id' h=>pp hS2.len hss h) _ _ _ hrr hr2,hE2.size,fun b hb hn=>?_,?_,fun id tot ha=>?_,fun id ha=>?_,hE2.os,hE2.tape,hE2.output⟩
    ·obtain⟨h1,h2⟩:=hE2.blk b hb hn
     refine⟨h1,fun⟨i,c,hi⟩=>?_⟩
     obtain⟨x,hx,hx2⟩:=lG hi
     exact h2 ⟨x,c,hx2⟩
    ·rw[(qW hss).1,ht];simp
    ·obtain⟨h1,h2⟩:=hE2.cur id tot ha
     have hlt:id<o0.length:=by obtain⟨cs,e,sz,pu,ho,_⟩:=ha;exact(List.getElem?_eq_some_iff.1 ho).1
     have htr:=pp hS2.len hss (hidx id hlt)
     refine⟨htr.qQ h1,fun sz hc=>?_⟩
     rw[htr.2.2]
     exact h2 sz (htr.cur h1 hc)
    ·obtain⟨h1,h2⟩:=hE2.isMap id ha
     have hlt:id<o0.length:=by obtain⟨es,kt,pu,ho⟩:=ha;exact(List.getElem?_eq_some_iff.1 ho).1
     have htr:=pp hS2.len hss (hidx id hlt)
     exact⟨htr.2.1 h1,by rw[htr.2.2];exact h2⟩
   ·cases hf
  ·cases hf
 ·cases hf
end
theorem Ha:∀(ids:List Nat) (o X:Store) (j i:Nat) (x:aP),ids.Nodup→ids[j]?=some i→i<o.length→X[j]?=some x→(gW o ids X)[i]?=some x
 |[],o,X,j,i,x,_,hj,_,_=>by simp at hj
 |a::r,o,[],j,i,x,_,_,_,hx=>by simp at hx
 |a::r,o,y::l,j,i,x,hn,hj,hi,hx=>by
  rw[List.nodup_cons] at hn
  simp only[gW]
  cases j with
  |zero=>
   simp at hj hx
   subst hj;subst hx
   rw[xY r _ l a hn.1,List.getElem?_set_self hi]
  |succ j=>
   simp only[List.getElem?_cons_succ] at hj hx
   exact Ha r _ l j i x hn.2 hj (by simpa using hi) hx
theorem Bl {i:Nat}:∀{l:List Nat} {k:Nat},i∈l→∃j,idxOf l i k=some j
 |[],k,h=>by simp at h
 |a::l,k,h=>by
  simp only[idxOf]
  split
  ·exact⟨k,rfl⟩
  ·rename_i hne
   exact Bl ((List.mem_cons.1 h).resolve_left fun h2=>hne (by simp[h2]))
def ku (σ σ':aV) (ids:List Nat):aV:=
 ((List.range σ.length).map fun i=>match idxOf ids i with|some j=>(σ'[j]?).getD none|none=>(σ[i]?).getD none)++σ'.drop ids.length
section
variable {A:bG} {w:World} {σ:aV} {o:Store}
theorem QX {P:Program} {call:bB} (hcall:jp P call) (hS:aU A w σ o) {f:FuncId} {args:List AV} {vs:List Value} (hr:aA A w σ o args vs)
  {r:AV} {o':Store} (hc:eA call f args o=some (r,o')):
  eG P f=true∧Calls P f vs.toArray w fun e w'=>∃u σ',e= .returned u∧aU A w' σ' o'∧aj A w' σ' o' r u∧Ext w σ o w' σ' o':=by
 unfold eA at hc
 simp only at hc
 generalize bq o dr args []=ids at hc
 split at hc
 ·rename_i args' small ha hss
  split at hc
  ·rename_i r1 kh hcl
   split at hc
   ·cases hc
   ·rename_i hcond
    simp only[not_or,Bool.not_eq_false,Nat.not_lt] at hcond
    obtain⟨hnl,hnd⟩:=hcond
    have hnd:=xZ hnd
    split at hc
    ·rename_i r2 big hr2 hbig
     simp only[Option.some.injEq,Prod.mk.injEq] at hc
     obtain⟨rfl,ho'⟩:=hc
     obtain⟨hg,hco,_⟩:=hcall _ _ _ _ _ _ hcl
     refine⟨hg,?_⟩
     have hsub:=qW hss
     have QY:∀(j i:Nat),ids[j]?=some i→i<o.length:=fun j i hj=>by
      obtain⟨x,y,hx,_,_⟩:=hsub.2 j i hj
      exact(List.getElem?_eq_some_iff.1 hx).1
     have hsg:=fun {j i:Nat} (hj:ids[j]?=some i)=>Bj hS.len hss hj
     obtain⟨A',qX,He⟩:∃A':bG,(∀b,A' b↔(A b∨(Own σ b∧¬Own (hJ σ ids) b)))∧A'.l=A.l:=⟨⟨fun b=>A b∨(Own σ b∧¬Own (hJ σ ids) b),A.l⟩,fun b=>Iff.rfl,rfl⟩
     haveI:jo A A':=⟨He⟩
     haveI:jo A' A:=⟨He.symm⟩
     have hfr:∀b,b<w.heap.size→Fr A σ b→Fr A' (hJ σ ids) b:=fun b _ hf=>⟨fun⟨i,c,hi⟩=>by
      obtain⟨x,hx,hx2⟩:=lG hi
      exact hf.1 ⟨x,c,hx2⟩,fun h=>((qX b).1 h).elim hf.2 fun h=>hf.1 h.1⟩
     have QZ:aU A' w (hJ σ ids) small:=hS.sub hnd hss hfr (fun i hi b c h hA=>by
      rcases(qX b).1 hA with h1|⟨_,h1⟩
      ·exact hS.av i b c h h1
      ·obtain⟨j,hj⟩:=List.getElem?_of_mem hi
       exact h1 ⟨j,c,by rw[hsg hj];exact h⟩) (fun b h=>((qX b).1 h).elim (hS.gw b) fun⟨⟨i,c,hi⟩,_⟩=>hS.bnd i b c hi)
     have hargs:aA A' w (hJ σ ids) small args' vs:=aA.ren hfr (fun id id' h=>pp hS.len hss h) args vs args' ha hr
     refine(hco A' w _ vs QZ hargs).mono ?_
     rintro e w' ⟨u,σ',rfl,hS',hr',hE⟩
     have hbl:=Bi hbig
     have hN:=hS.len
     have Hf:(ku σ σ' ids).length=o.length+(kh.length - ids.length):=by simp[ku,hN,hS'.len]
     have x7:o'.length=o.length+(kh.length - ids.length):=by rw[←ho'];simp[jq,hbl]
     have low:∀i,i<o.length→idxOf ids i=none→(ku σ σ' ids)[i]?=σ[i]?∧o'[i]?=o[i]?∧i∉ids:=by
      intro i hi hn
      have hni:i∉ids:=fun h=>by obtain⟨j,hj⟩:=Bl (k:=0) h;rw[hn] at hj;cases hj
      refine⟨?_,?_,hni⟩
      ·unfold ku
       rw[List.getElem?_append_left (by simp;omega)]
       simp[hN,hi,hn]
      ·rw[←ho',List.getElem?_append_left (by rw[jq];exact hi),xY _ _ _ _ hni]
     have tgt:∀j t,jG ids o.length j=some t→(ku σ σ' ids)[t]?=σ'[j]?∧o'[t]?=big[j]?:=by
      intro j t hj
      unfold jG at hj
      split at hj
      ·rename_i i hji
       injection hj with hj;subst hj
       have hi:=QY j i hji
       have hjn:j<ids.length:=(List.getElem?_eq_some_iff.1 hji).1
       obtain⟨j2,hj2⟩:=Bl (k:=0) (List.mem_of_getElem? hji)
       have hj3:=(qV hj2).2
       simp only[Nat.sub_zero] at hj3
       have:=(List.getElem?_inj (List.getElem?_eq_some_iff.1 hj3).1 hnd).1 (hj3.trans hji.symm)
       subst this
       constructor
       ·unfold ku
        rw[List.getElem?_append_left (by simp;omega)]
        have:j2<σ'.length:=by rw[hS'.len];omega
        simp[hN,hi,hj2,List.getElem?_eq_getElem this]
       ·have hb:j2<big.length:=by omega
        rw[←ho',List.getElem?_append_left (by rw[jq];exact hi),List.getElem?_eq_getElem hb]
        exact Ha ids o _ j2 i _ hnd hji hi (by rw[List.getElem?_take_of_lt hjn,List.getElem?_eq_getElem hb])
      ·rename_i hji
       injection hj with hj;subst hj
       have hjn:=List.getElem?_eq_none_iff.1 hji
       constructor
       ·unfold ku
        rw[List.getElem?_append_right (by simp;omega)]
        simp only[List.length_map,List.length_range,List.getElem?_drop,hN]
        congr 1;omega
       ·rw[←ho',List.getElem?_append_right (by rw[jq];omega),jq,List.getElem?_drop]
        congr 1;omega
     have inv:∀i,i<o'.length→(∃j,j<kh.length∧jG ids o.length j=some i)∨(i<o.length∧idxOf ids i=none):=by
      intro i hi
      rw[x7] at hi
      rcases Nat.lt_or_ge i o.length with h1|h1
      ·cases hq:idxOf ids i with
       |none=>exact .inr ⟨h1,rfl⟩
       |some j=>
        left
        have hj3:=(qV hq).2
        simp only[Nat.sub_zero] at hj3
        have:=(List.getElem?_eq_some_iff.1 hj3).1
        exact⟨j,by omega,by simp[jG,hj3]⟩
      ·left
       refine⟨ids.length+(i - o.length),by omega,?_⟩
       unfold jG
       rw[List.getElem?_eq_none (by omega)]
       simp only[Option.some.injEq]
       omega
     have clash:∀i b c,i<o.length→idxOf ids i=none→σ[i]?=some (some (b,c))→A' b:=by
      intro i b c hi hn hs
      refine(qX b).2 (.inr ⟨⟨i,c,hs⟩,?_⟩)
      rintro⟨j,d,hj⟩
      obtain⟨x,hx,hx2⟩:=lG hj
      have:=hS.dist i x b c d hs hx2
      subst this
      exact(low i hi hn).2.2 (List.mem_of_getElem? hx)
     have own:∀i b c,(ku σ σ' ids)[i]?=some (some (b,c))→(∃j,jG ids o.length j=some i∧σ'[j]?=some (some (b,c)))∨(i<o.length∧idxOf ids i=none∧σ[i]?=some (some (b,c))):=by
      intro i b c hi
      have hlt:=(List.getElem?_eq_some_iff.1 hi).1
      rw[Hf,←x7] at hlt
      rcases inv i hlt with⟨j,hj,hb⟩|⟨h1,h2⟩
      ·exact .inl ⟨j,hb,by rw[←(tgt j i hb).1];exact hi⟩
      ·exact .inr ⟨h1,h2,by rw[←(low i h1 h2).1];exact hi⟩
     have htr:∀j t,jG ids o.length j=some t→Tr kh σ' o' (ku σ σ' ids) j t:=by
      intro j t hj
      obtain⟨t1,t2⟩:=tgt j t hj
      refine⟨fun cs e sz pu ho=>?_,fun⟨es,kt,pu,ho⟩=>?_,t1⟩
      ·obtain⟨y,hy,hy2⟩:=x6 hbig j _ ho
       obtain⟨cs',rfl,hl⟩:=G8 hy
       exact⟨cs',e,pu,by rw[t2];exact hy2,hl⟩
      ·obtain⟨y,hy,hy2⟩:=x6 hbig j _ ho
       obtain⟨es',rfl⟩:=G9 hy
       exact⟨es',kt,pu,by rw[t2];exact hy2⟩
     have Hh:∀b,b<w'.heap.size→Fr A' σ' b→Fr A (ku σ σ' ids) b:=by
      intro b _ hf
      refine⟨?_,fun h=>hf.2 ((qX b).2 (.inl h))⟩
      rintro⟨i,c,hi⟩
      rcases own i b c hi with⟨j,_,hj⟩|⟨h1,h2,h3⟩
      ·exact hf.1 ⟨j,c,hj⟩
      ·exact hf.2 (clash i b c h1 h2 h3)
     have hnotin:∀i b c,i<o.length→idxOf ids i=none→σ[i]?=some (some (b,c))→¬Own (hJ σ ids) b:=by
      rintro i b c hi hn hs ⟨j,d,hj⟩
      obtain⟨x,hx,hx2⟩:=lG hj
      have:=hS.dist i x b c d hs hx2
      subst this
      exact(low i hi hn).2.2 (List.mem_of_getElem? hx)
     have Q0:∀b,Own (hJ σ ids) b→Own σ b:=fun b ⟨i,c,hi⟩=>by
      obtain⟨x,hx,hx2⟩:=lG hi
      exact⟨x,c,hx2⟩
     have hback:∀id,id<o.length→∀j,idxOf ids id=some j→jG ids o.length j=some id:=by
      intro id _ j hj
      have hj3:=(qV hj).2
      simp only[Nat.sub_zero] at hj3
      simp[jG,hj3]
     have Hj:Ext w σ o w' (ku σ σ' ids) o':=by
      refine⟨hE.size,fun b hb hn=>?_,by rw[x7];omega,fun id tot hle=>?_,fun id hm=>?_,hE.os,hE.tape,hE.output⟩
      ·obtain⟨h1,h2⟩:=hE.blk b hb fun h=>hn (Q0 b h)
       refine⟨h1,?_⟩
       rintro⟨i,c,hi⟩
       rcases own i b c hi with⟨j,_,hj⟩|⟨_,_,h3⟩
       ·exact h2 ⟨j,c,hj⟩
       ·exact hn ⟨i,c,h3⟩
      ·have hid:id<o.length:=by obtain⟨cs,e,sz,pu,ho,_⟩:=hle;exact(List.getElem?_eq_some_iff.1 ho).1
       cases hq:idxOf ids id with
       |none=>
        obtain⟨l1,l2,_⟩:=low id hid hq
        refine⟨?_,fun sz fZ=>⟨?_,l1⟩⟩
        ·obtain⟨cs,e,sz,pu,ho,hl⟩:=hle
         exact⟨cs,e,sz,pu,by rw[l2];exact ho,hl⟩
        ·obtain⟨cs,e,pu,ho,hl⟩:=fZ
         exact⟨cs,e,pu,by rw[←l2];exact ho,hl⟩
       |some j=>
        have t1:=pp hS.len hss hq
        have t2:=htr j id (hback id hid j hq)
        obtain⟨h1,h2⟩:=hE.cur j tot (t1.qQ hle)
        refine⟨t2.qQ h1,fun sz fZ=>?_⟩
        obtain⟨h3,h4⟩:=h2 sz (t2.cur h1 fZ)
        exact⟨t1.cur hle h3,by rw[t2.2.2,h4,t1.2.2]⟩
      ·have hid:id<o.length:=by obtain⟨es,kt,pu,ho⟩:=hm;exact(List.getElem?_eq_some_iff.1 ho).1
       cases hq:idxOf ids id with
       |none=>
        obtain⟨l1,l2,_⟩:=low id hid hq
        obtain⟨es,kt,pu,ho⟩:=hm
        exact⟨⟨es,kt,pu,by rw[l2];exact ho⟩,l1⟩
       |some j=>
        have t1:=pp hS.len hss hq
        have t2:=htr j id (hback id hid j hq)
        obtain⟨h1,h2⟩:=hE.isMap j (t1.2.1 hm)
        exact⟨t2.2.1 h1,by rw[t2.2.2,h2,t1.2.2]⟩
     refine⟨u,ku σ σ' ids,rfl,⟨by rw[Hf,x7],fun i k b c d hi hk=>?_,fun i b c hi=>?_,fun i y hy=>?_,fun i b c hi=>?_,fun b hb=>Nat.lt_of_lt_of_le (hS.gw b hb) hE.size⟩,aj.ren Hh htr _ _ _ hr2 hr',Hj⟩
     ·rcases own i b c hi with⟨j,hj,hj2⟩|⟨h1,h2,h3⟩<;>rcases own k b d hk with⟨l,hl,hl2⟩|⟨g1,g2,g3⟩
      ·have:=hS'.dist j l b c d hj2 hl2
       subst this
       rw[hj] at hl
       injection hl
      ·exact absurd (clash k b d g1 g2 g3) (hS'.av j b c hj2)
      ·exact absurd (clash i b c h1 h2 h3) (hS'.av l b d hl2)
      ·exact hS.dist i k b c d h3 g3
     ·rcases own i b c hi with⟨j,hj,hj2⟩|⟨h1,h2,h3⟩
      ·exact hS'.bnd j b c hj2
      ·exact Nat.lt_of_lt_of_le (hS.bnd i b c h3) hE.size
     ·rcases inv i (List.getElem?_eq_some_iff.1 hy).1 with⟨j,hjl,hj⟩|⟨h1,h2⟩
      ·have hx:=List.getElem?_eq_getElem hjl
       obtain⟨z,hz,hz2⟩:=x6 hbig j _ hx
       obtain⟨t1,t2⟩:=tgt j i hj
       rw[←t2,hy] at hz2
       injection hz2 with hz2
       subst hz2
       exact bI.ren Hh htr hz t1 (hS'.obj j _ hx)
      ·obtain⟨l1,l2,_⟩:=low i h1 h2
       rw[l2] at hy
       exact(hS.obj i y hy).ext Hj l1 fun b c hb=>(hE.blk b (hS.bnd i b c hb) (hnotin i b c h1 h2 hb)).1
     ·rcases own i b c hi with⟨j,hj,hj2⟩|⟨h1,h2,h3⟩
      ·exact fun h=>hS'.av j b c hj2 ((qX b).2 (.inl h))
      ·exact hS.av i b c h3
    ·cases hc
  ·cases hc
 ·cases hc
end
section
variable {P:Program} {A:bG} {D:List Deferred} {w w':World} {σ σ':aV} {o o':Store}
theorem Q1 {call:bB} (hcall:jp P call) (hS:aU A w σ o) {f:FuncId} {args:List AV} {vs:List Value} (hr:aA A w σ o args vs) {own:Bool} {r:AV} (hc:ee call f args o own=some (r,o')):
  eG P f=true∧Calls P f vs.toArray w fun e w'=>∃u σ',e= .returned u∧aU A w' σ' o'∧aj A w' σ' o' r u∧Ext w σ o w' σ' o':=by
 unfold ee at hc
 split at hc
 ·exact QX hcall hS hr hc
 ·split at hc
  ·cases hc
  ·rename_i args' ha
   split at hc
   ·rename_i r' hc'
    split at hc
    ·rename_i hcl
     simp only[Option.some.injEq,Prod.mk.injEq] at hc
     obtain⟨rfl,rfl⟩:=hc
     simp only[Bool.or_eq_true] at hcl
     exact QS hcall hS hr ha hc' hcl
    ·cases hc
   ·cases hc
theorem x8 {f:FuncId} (hg:eG P f=true) (args:Array Value) (w:World):(callFunc f args).run P w= .ok (.enter f args) w:=by
 unfold eG at hg
 cases hf:P.funcs[f]? with
 |none=>simp[hf] at hg
 |some fn=>
  simp only[hf,Option.any_some,Bool.and_eq_true,Bool.not_eq_true'] at hg
  have h2:fn.body.isNone=false:=by cases hb:fn.body<;>simp_all
  have h3:¬fn.name= "runtime.NumGoroutine" :=by
   have:=hg.2
   simpa using this
  have h4:¬fn.body=none:=by intro hb;simp[hb] at h2
  simp[callFunc,program,Sem.run,hf,h3,h4]
theorem Hk {fl:Bool} {oper:Oper} {aZ:bk} (hc:kp P fl oper=some aZ) (h:aZ.kr=true):
  ∃c:Call,oper.op= .call c∧((∃f,c.callee= .value (.func f)∧aZ= .call f c.args.toList fl)∨∃x,c.callee= .value x∧aZ= .eF x c.args.toList fl):=by
 cases hop:oper.op
 case call c=>
  refine⟨c,rfl,?_⟩
  simp only[kp,hop] at hc
  split at hc
  ·rename_i f gy
   split at hc
   ·injection hc with hc;exact .inl ⟨f,gy,hc.symm⟩
   ·cases hc
  ·rename_i x _ gy
   injection hc with hc
   exact .inr ⟨x,gy,hc.symm⟩
  all_goals
   exfalso
   (repeat' (split at hc))<;>first
    |(cases hc;done)
    |(injection hc with hc;subst hc;simp[bk.kr] at h;done)
 case buildSlice=>
  exfalso
  simp only[kp,hop] at hc
  (repeat' (split at hc))<;>first
   |(cases hc;done)
   |(injection hc with hc;subst hc;simp[bk.kr] at h;done)
   |(injection hc with hc;subst hc;split at h<;>simp[bk.kr] at h;done)
 case slice t x lo hi mx=>
  exfalso
  cases mx<;>cases hi<;>simp only[kp,hop,reduceCtorEq] at hc
  all_goals try (repeat' (split at hc))<;>first
   |(cases hc;done)
   |(injection hc with hc;subst hc;simp[bk.kr] at h;done)
 case makeMap t r=>
  exfalso
  cases r<;>simp only[kp,hop,reduceCtorEq] at hc
  (repeat' (split at hc))<;>first
   |(cases hc;done)
   |(injection hc with hc;subst hc;simp[bk.kr] at h;done)
 all_goals
  exfalso
  simp only[kp,hop,reduceCtorEq] at hc
  try (repeat' (split at hc))<;>first
   |(cases hc;done)
   |(injection hc with hc;subst hc;simp[bk.kr] at h;done)
   |(obtain⟨_,_,rfl⟩:=Option.map_eq_some_iff.1 hc;simp[bk.kr] at h;done)
def FR (bC:Option Nat):Fence:={Fence.wide with round:=bC}
theorem Q2 {bC:Option Nat} {n:Nat} {f:FuncId} {args:Array Value} {R:Ending→World→Prop} (h:Calls P f args w R):CallsIn (FR bC) n P f args w R:=
 (callsIn_wide (n:=n)).2 h
theorem Q3 {fl:Bool} {oper:Oper} {aZ:bk} (hc:kp P fl oper=some aZ) (c:Call):oper.op≠ .defer c:=by
 intro h
 simp only[kp,h] at hc
 cases hc
theorem Q4 {call:bB} (hcall:jp P call) {fl:Bool} {oper:Oper} {aZ:bk} (hc:kp P fl oper=some aZ) (hS:aU A w σ o) {aQ:Operand→AV} {a:Act} (hρ:∀x,aj A w σ o (aQ x) (a.eval x)) {am:Nat} {v:AV}
  (he:ly call aZ aQ o am=some (v,o')) {next:Act→World→Prop} {Q:Exit→Act→World→Prop}
  (hk:∀u w' σ',aU A w' σ' o'→aj A w' σ' o' v u→Ext w σ o w' σ' o'→next (a.put oper.dst u) w') {bC:Option Nat}:oper.wpIn (FR bC) 0 P a w next Q:=by
 have Hl:oper.semAt (FR bC).round a.eval=execOp a.eval oper:=Oper.semAt_eq _ _ _ (Q3 hc)
 by_cases hcl:aZ.kr=false
 ·obtain⟨u,w1,σ1,hrun,h1,h2,h3⟩:=QK hc hcl hS hρ he
  unfold Oper.wpIn
  rw[Hl]
  refine⟨fun _ _=>trivial,?_⟩
  rcases hrun with hrun|⟨hrun,rfl⟩
  ·rw[hrun]
   exact hk u w1 σ1 h1 h2 h3
  ·rw[hrun]
   exact hk undef w1 σ1 h1 h2 h3
 ·
  have fin:∀(f:FuncId) (args:List AV) (vs:List Value) (own:Bool),aA A w σ o args vs→ee call f args o own=some (v,o')→
    (eG P f=true→(execOp a.eval oper).run P w= .ok (.enter f vs.toArray) w)→oper.wpIn (FR bC) 0 P a w next Q:=by
   intro f args vs own hr hca hex
   obtain⟨hg,hcs⟩:=Q1 hcall hS hr hca
   unfold Oper.wpIn
   rw[Hl,hex hg]
   refine⟨fun _ _=>trivial,fun h=>by simp[FR,Fence.wide] at h,(Q2 hcs).mono ?_⟩
   rintro e w' ⟨u,σ',rfl,q1,q2,q3⟩
   exact hk u w' σ' q1 q2 q3
  obtain⟨c,hop,hh⟩:=Hk hc (by simpa using hcl)
  rw[qw] at he
  rcases hh with⟨f,gy,rfl⟩|⟨x,gy,rfl⟩
  ·simp only[aL] at he
   refine fin f (c.args.toList.map aQ) (c.args.toList.map a.eval) fl (o9 hρ _) he fun hg=>?_
   simp only[execOp,hop,resolve,gy]
   simp[Act.eval,Deferred.ofValue,invoke,x8 hg]
   exact Array.ext' (by simp)
  ·simp only[aL] at he
   split at he
   ·rename_i g first captured hx
    have h1:=hρ x
    rw[hx] at h1
    simp only[aj] at h1
    obtain⟨f',c',hv,hf,hcp⟩:=h1
    refine fin g (first++c.args.toList.map aQ++captured) (f'.toList++c.args.toList.map a.eval++c'.toList) fl (aA.append (aA.append hf (o9 hρ _)) hcp) he fun hg=>?_
    simp only[execOp,hop,resolve,gy]
    simp[hv,qF,Deferred.ofValue,invoke,x8 hg]
   ·cases he
def nv (w0 w:World) (ds:List Deferred):Prop:=
 ds.Pairwise (fun d e=>d.target≠e.target)∧∀d∈ds,∃r,d={target:=.collected r,args:=#[]}∧w0.heap.size≤r∧w.heap[r]?=some (.deferred (some []))
theorem aU.s6 (hS:aU A w σ o) {r:Nat} {x:Obj} (h:w.heap[r]?=some x) (h1:∀a b c,x≠ .cells a b c) (h2:∀a b,x≠ .map a b):¬Own σ r:=by
 rintro⟨i,c,hi⟩
 have hl:i<o.length:=by rw[←hS.len];exact(List.getElem?_eq_some_iff.1 hi).1
 have cQ:=hS.obj i _ (List.getElem?_eq_getElem hl)
 cases hx:o[i] with
 |dead=>rw[hx] at cQ;simp only[bI] at cQ;rw[hi] at cQ;cases cQ
 |cells cs e sz pu=>
  rw[hx] at cQ
  simp only[bI] at cQ
  rcases cQ.2.2 with⟨h0,_⟩|⟨b,cap,arr,r1,_,r3,_⟩
  ·rw[hi] at h0;cases h0
  ·rw[hi] at r1
   simp only[Option.some.injEq,Prod.mk.injEq] at r1
   obtain⟨rfl,rfl⟩:=r1
   rw[h] at r3
   exact h1 _ _ _ (Option.some.inj r3)
 |map es kt pu=>
  rw[hx] at cQ
  simp only[bI] at cQ
  obtain⟨_,_,b,c',en,cl,r1,r3,_⟩:=cQ
  rw[hi] at r1
  simp only[Option.some.injEq,Prod.mk.injEq] at r1
  obtain⟨rfl,rfl⟩:=r1
  rw[h] at r3
  exact h2 _ _ (Option.some.inj r3)
theorem nv.ext {w0:World} {ds:List Deferred} (h:nv w0 w ds) (hS:aU A w σ o) (hE:Ext w σ o w' σ' o'):nv w0 w' ds:=
 ⟨h.1,fun d hd=>by
  obtain⟨r,h1,h2,h3⟩:=h.2 d hd
  exact⟨r,h1,h2,by rw[(hE.blk r (Array.getElem?_eq_some_iff.1 h3).1 (hS.s6 h3 (by simp) (by simp))).1];exact h3⟩⟩
def x9 (D:List Deferred) (w0 w:World) (ds:List Deferred):Prop:=∃ms,ds=ms++D∧nv w0 w ms
theorem x9.ext {w0:World} {D ds:List Deferred} (h:x9 D w0 w ds) (hS:aU A w σ o) (hE:Ext w σ o w' σ' o'):x9 D w0 w' ds:=by
 obtain⟨ms,h1,h2⟩:=h
 exact⟨ms,h1,h2.ext hS hE⟩
structure bm (A:bG) (nt:Nat) (D:List Deferred) (w0:World) (aK:aV) (o0:Store) (st:St) (a:Act) (w:World) (σ:aV):Prop where
 cC:aU A w σ st.o
 env:∀s,aj A w σ st.o (bE st.env s) (a.tmps.getD s undef)
 size:a.tmps.size=nt
 defers:x9 D w0 w a.defers
 ext:Ext w0 aK o0 w σ st.o
theorem Q5 (v:Value):aj A w σ o (.l9 v) v:=by
 cases v<;>simp only[AV.l9]<;>try (simp[aj,Value.oneCell'];done)
 rename_i cs
 split
 ·rename_i h
  simp only[aj]
  refine⟨cs,rfl,qJ A w σ o cs.toList fun u hu=>?_⟩
  exact List.all_eq_true.1 h u hu
 ·simp[aj]
theorem bm.ev {nt:Nat} {w0:World} {aK:aV} {o0:Store} {st:St} {a:Act} (h:bm A nt D w0 aK o0 st a w σ) (x:Operand):aj A w σ st.o (b8 st.env x) (a.eval x):=by
 cases x with
 |tmp t=>exact h.env t
 |const v=>exact Q5 v
 |global g=>simp[b8,aj]
 |func f=>simp only[b8,Act.eval,aj];exact⟨#[],#[],rfl,by simp[aA],by simp[aA]⟩
theorem Q6 {a:Act} {dst:Option Tmp} {u:Value} {nt:Nat} (hs:a.tmps.size=nt) (hd:vo nt dst=true) (s:Nat):
  (a.put dst u).tmps.getD s undef=if dst=some s then u else a.tmps.getD s undef:=by
 cases dst with
 |none=>simp[Act.put]
 |some d=>
  simp only[vo,decide_eq_true_eq] at hd
  simp only[Act.put,Option.some.injEq]
  by_cases h:d=s
  ·subst h
   rw[if_pos rfl]
   simp[Array.getD_eq_getD_getElem?,hs,hd]
  ·rw[if_neg h]
   simp[Array.getD_eq_getD_getElem?,Array.getElem?_setIfInBounds_ne h]
theorem Hm (a:Act) (dst:Option Tmp) (u:Value):(a.put dst u).tmps.size=a.tmps.size∧(a.put dst u).defers=a.defers:=by
 cases dst<;>simp[Act.put]
theorem qY (env:dI) (dst:Option Nat) (v:AV) (s:Nat):bE (jl env dst v) s=if dst=some s then v else bE env s:=by
 cases dst with
 |none=>simp[jl]
 |some d=>
  simp only[jl,bE,Option.some.injEq]
  by_cases h:d=s
  ·subst h;simp
  ·have:Nat.beq d s=false:=by
    cases hq:Nat.beq d s with
    |false=>rfl
    |true=>exact absurd (Nat.eq_of_beq_eq_true hq) h
   simp[this,h]
theorem bm.put {nt:Nat} {w0:World} {aK:aV} {o0:Store} {st:St} {a:Act} (h:bm A nt D w0 aK o0 st a w σ) (hS:aU A w' σ' o') (hE:Ext w σ st.o w' σ' o') {dst:Option Tmp} (hd:vo nt dst=true) {v:AV} {u:Value} (hr:aj A w' σ' o' v u):
  bm A nt D w0 aK o0 ⟨jl st.env dst v,o'⟩ (a.put dst u) w' σ' where
 cC:=hS
 env:=fun s=>by
  simp only[qY,Q6 h.size hd]
  split
  ·exact hr
  ·exact(h.env s).ext hE
 size:=by rw[(Hm _ _ _).1];exact h.size
 defers:=by rw[(Hm _ _ _).2];exact h.defers.ext h.cC hE
 ext:=h.ext.trans hE
theorem ya {nt:Nat} {w0:World} {aK:aV} {o0:Store} {st:St} {a:Act} (h:bm A nt D w0 aK o0 st a w σ) {ops:Array Oper} {oper:Oper} {b:Bool}
  (hw:fY st.env (oper.guard.map fun g=>(((ops[g.1]?).bind (·.dst)),g.2))=some b):Region.wanted oper (yielded ops a.tmps)=b:=by
 unfold Region.wanted
 cases hg:oper.guard with
 |none=>simp[hg,fY] at hw;simp[hw]
 |some g=>
  obtain⟨j,q⟩:=g
  simp only[hg,Option.map_some,fY] at hw
  cases hd:(ops[j]?).bind (·.dst) with
  |none=>simp[hd] at hw
  |some s=>
   simp only[hd] at hw
   have hs:=h.env s
   simp only[yielded,hd,Option.bind_some]
   split at hw
   ·rename_i c hc
    injection hw with hw
    rw[hc] at hs
    have h2:=dM hs
    have h3:a.tmps[s]?=some (.bool c):=by
     rw[Array.getD_eq_getD_getElem?] at h2
     cases hq:a.tmps[s]? with
     |none=>rw[hq] at h2;simp[undef] at h2
     |some x=>rw[hq] at h2;simp at h2;rw[h2]
    rw[h3]
    simp only
    rw[←hw]
    cases c<;>cases q<;>rfl
   ·rename_i hc
    injection hw with hw
    rw[hc] at hs
    simp only[aj,aA] at hs
    obtain⟨vs,h2,h3⟩:=hs
    have h4:vs=#[]:=Array.ext' (by simpa using h3)
    subst h4
    have h3:a.tmps[s]?=some (.tuple #[])∨a.tmps[s]?=none:=by
     rw[Array.getD_eq_getD_getElem?] at h2
     cases hq:a.tmps[s]? with
     |none=>exact .inr rfl
     |some x=>rw[hq] at h2;simp at h2;rw[h2];exact .inl rfl
    rw[←hw]
    rcases h3 with h3|h3<;>rw[h3]<;>cases q<;>rfl
   ·cases hw
theorem yb {call:bB} (hcall:jp P call) {nt:Nat} {fl:List Nat} {ops:Array Oper} {am k:Nat} {i:bA} (hc:jI P nt fl ops am k=some i) {base:Nat} {st st':St} (hr:dh call base i st=some st')
  {w0:World} {aK:aV} {o0:Store} {a:Act} (h:bm A nt D w0 aK o0 st a w σ) {K:Act→World→Prop} {Q:Exit→Act→World→Prop} (hk:∀a' w' σ',bm A nt D w0 aK o0 st' a' w' σ'→K a' w') {bC:Option Nat}:wpOpIn (FR bC) 0 P ops Q k K a w:=by
 unfold jI at hc
 cases ho:ops[k]? with
 |none=>simp[ho] at hc
 |some oper=>
  simp only[ho] at hc
  split at hc
  ·rename_i hd
   obtain⟨op,hop,rfl⟩:=Option.map_eq_some_iff.1 hc
   unfold wpOpIn
   simp only[ho]
   simp only[dh] at hr
   split at hr
   ·cases hr
   ·rename_i hw
    have:=ya h hw
    rw[this]
    injection hr with hr
    subst hr
    simp only[Bool.false_eq_true,if_false]
    exact⟨fun _ _=>trivial,hk _ _ σ (h.put h.cC (Ext.refl _ _ _) hd (by simp only[aj];exact⟨#[],rfl,by simp[aA]⟩))⟩
   ·rename_i hw
    have:=ya h hw
    rw[this]
    simp only[if_true]
    split at hr
    ·rename_i v o' he
     injection hr with hr
     subst hr
     exact Q4 hcall hop h.cC h.ev he fun u w' σ' q1 q2 q3=>hk _ _ σ' (h.put q1 q3 hd q2)
    ·cases hr
  ·cases hc
theorem Hn {call:bB} (hcall:jp P call) {nt:Nat} {fl:List Nat} {ops:Array Oper} {base:Nat} {w0:World} {aK:aV} {o0:Store} {Q:Exit→Act→World→Prop} {bC:Option Nat}:
  ∀(l:List bA) (idx:List Nat),l.length=idx.length→(∀(j:Nat) (i:bA) (k:Nat),l[j]?=some i→idx[j]?=some k→∃am,jI P nt fl ops am k=some i)→∀(st st':St) (a:Act) (w:World) (σ:aV),
   dF call base l st=some st'→bm A nt D w0 aK o0 st a w σ→(∀a' w' σ',bm A nt D w0 aK o0 st' a' w' σ'→Q .normal a' w')→wpOpsIn (FR bC) 0 P ops Q idx a w
 |[],[],_,_,st,st',a,w,σ,hr,h,hQ=>by
  simp only[dF,Option.some.injEq] at hr
  subst hr
  exact hQ a w σ h
 |[],_::_,hl,_,_,_,_,_,_,_,_,_=>by simp at hl
 |_::_,[],hl,_,_,_,_,_,_,_,_,_=>by simp at hl
 |i::l,k::idx,hl,hc,st,st',a,w,σ,hr,h,hQ=>by
  simp only[dF] at hr
  split at hr
  ·rename_i st1 h1
   obtain⟨am,hci⟩:=hc 0 i k (by simp) (by simp)
   rw[wpOpsIn_cons]
   exact yb hcall hci h1 h fun a' w' σ' h'=>Hn hcall l idx (by simpa using hl) (fun j i' k' hi hk=>hc (j+1) i' k' (by simpa using hi) (by simpa using hk)) st1 st' a' w' σ' hr h' hQ
  ·cases hr
theorem yc {nt:Nat} {fl:List Nat} {ops:Array Oper}:∀{k:Nat} {idx:List Nat} {l:List bA} {n:Nat},oV P nt fl ops k idx=some (l,n)→
  l.length=idx.length∧(∀(j:Nat) (i:bA) (q:Nat),l[j]?=some i→idx[j]?=some q→∃am,jI P nt fl ops am q=some i)
 |k,[],l,n,h=>by simp only[oV,Option.some.injEq,Prod.mk.injEq] at h;obtain⟨rfl,_⟩:=h;simp
 |k,i::r,l,n,h=>by
  simp only[oV] at h
  split at h
  ·cases h
  ·rename_i x hx
   split at h
   ·cases h
   ·rename_i l' n' hl'
    simp only[Option.some.injEq,Prod.mk.injEq] at h
    obtain⟨rfl,_⟩:=h
    obtain⟨h1,h2⟩:=yc hl'
    refine⟨by simp[h1],fun j y q hy hq=>?_⟩
    cases j with
    |zero=>simp at hy hq;subst hy hq;exact⟨k,hx⟩
    |succ j=>exact h2 j y q (by simpa using hy) (by simpa using hq)
end
section
variable {call:bB} {ρ gz:Operand→AV} {am:Nat}
theorem Ho {aZ:bk} (hc:aZ.cls=0) (o o2:Store):aL call aZ ρ o2 am=(aL call aZ ρ o am).map fun p=>(p.1,o2):=by
 cases aZ<;>try (simp[bk.cls] at hc;done)
 case call f args own=>cases own<;>simp[bk.cls] at hc
 case eF f args own=>cases own<;>simp[bk.cls] at hc
 all_goals simp only[aL]
 all_goals (repeat' split)<;>simp_all [Option.map_map,Function.comp_def]
theorem Q7 {aZ:bk} (hc:aZ.cls=0) {o o':Store} {v:AV} (h:aL call aZ ρ o am=some (v,o')):o'=o:=by
 have:=Ho (call:=call) (ρ:=ρ) (am:=am) hc o o
 rw[h] at this
 simp at this
 exact this
theorem Q8 {o o2:Store} {a:AV} (h:∀j∈cZ a,o2[j]?=o[j]?):behind o2 a=behind o a:=by
 cases a<;>simp only[behind]
 rename_i id off tot
 rw[h id (by simp[cZ])]
theorem Q9 {o o2:Store} {sz:Nat} {a:AV} (h:∀j∈cZ a,o2[j]?=o[j]?):iM o2 sz a=iM o sz a:=by
 cases a with
 |os id off len tot=>simp only[iM];rw[h id (by simp[cZ])]
 |sc v=>unfold iM;split<;>first|rfl|(simp_all;done)
 |_=>rfl
theorem Rb {o o2:Store} {sz:Nat} {a:AV} {i:Int} (h:∀j∈cZ a,o2[j]?=o[j]?):kM o2 sz a i=kM o sz a i:=by
 cases a<;>simp only[kM]
 rename_i id off len tot
 rw[h id (by simp[cZ])]
theorem Re {o o2:Store} {sz:Nat} {a:AV} {lo hi:Option AV} (h:∀j∈cZ a,o2[j]?=o[j]?):kO o2 sz a lo hi=kO o sz a lo hi:=by
 cases a with
 |os id off len tot=>simp only[kO];rw[h id (by simp[cZ])]
 |sc v=>unfold kO;split<;>first|rfl|(simp_all;done)
 |_=>rfl
theorem Rf {o o2:Store} {sz:Nat} {a:AV} {lo:Option AV} {hi mx:AV} (h:∀j∈cZ a,o2[j]?=o[j]?):mh o2 sz a lo hi mx=mh o sz a lo hi mx:=by
 cases a with
 |os id off len tot=>simp only[mh];rw[h id (by simp[cZ])]
 |_=>rfl
theorem Rh {o o2:Store} {k:Nat} {a:AV} (h:∀j∈cZ a,o2[j]?=o[j]?):gV o2 k a=gV o k a:=by
 cases a with
 |mp id=>
  match k with
  |0=>rfl
  |1=>rfl
  |2=>simp only[gV];rw[h id (by simp[cZ])]
  |_+3=>rfl
 |_=>unfold gV;split<;>first|rfl|(simp_all;done)
theorem pr {α β:Type} {f g:α→List β}:∀{l:List α},(∀a∈l,f a=g a)→l.flatMap f=l.flatMap g
 |[],_=>rfl
 |a::l,h=>by
  simp only[List.flatMap_cons]
  rw[h a (by simp),pr fun b hb=>h b (by simp[hb])]
theorem pv {α β:Type} {f g:α→Option β}:∀{l:List α},(∀a∈l,f a=g a)→l.mapM f=l.mapM g
 |[],_=>rfl
 |a::l,h=>by
  rw[List.mapM_cons,List.mapM_cons,h a (by simp),pv fun b hb=>h b (by simp[hb])]
theorem qZ {o o2:Store}:∀(d:Nat) (a:AV),(∀j∈cY o d a,o2[j]?=o[j]?)→freeze o2 d a=freeze o d a∧cY o2 d a=cY o d a
 |0,a,_=>by cases a<;>simp[freeze,cY]
 |d+1,a,h=>by
  cases a with
  |agg cs=>
   simp only[cY,List.mem_flatMap,forall_exists_index,and_imp] at h
   have ih:=fun c hc=>qZ d c (fun j hj=>h j c hc hj)
   simp only[freeze,cY]
   exact⟨by rw[pv fun c hc=>(ih c hc).1],pr fun c hc=>(ih c hc).2⟩
  |aD cs=>
   simp only[cY,List.mem_flatMap,forall_exists_index,and_imp] at h
   have ih:=fun c hc=>qZ d c (fun j hj=>h j c hc hj)
   simp only[freeze,cY]
   exact⟨by rw[pv fun c hc=>(ih c hc).1],pr fun c hc=>(ih c hc).2⟩
  |fn f x y=>
   simp only[cY,List.mem_append,List.mem_flatMap] at h
   have i1:=fun c hc=>qZ d c (fun j hj=>h j (.inl ⟨c,hc,hj⟩))
   have i2:=fun c hc=>qZ d c (fun j hj=>h j (.inr ⟨c,hc,hj⟩))
   simp only[freeze,cY]
   exact⟨by rw[pv fun c hc=>(i1 c hc).1,pv fun c hc=>(i2 c hc).1],by rw[pr fun c hc=>(i1 c hc).2,pr fun c hc=>(i2 c hc).2]⟩
  |os id off len tot=>
   have h0:=h id (by simp[cY])
   simp only[freeze,cY]
   rw[h0]
   cases ho:o[id]? with
   |none=>exact⟨rfl,rfl⟩
   |some x=>
    cases x with
    |dead=>exact⟨rfl,rfl⟩
    |map es kt pu=>exact⟨rfl,rfl⟩
    |cells cs e sz pu=>
     cases pu with
     |true=>exact⟨rfl,rfl⟩
     |false=>
      simp only[cY,ho,List.mem_cons,Bool.false_eq_true,if_false,List.mem_flatMap] at h
      have ih:=fun c hc=>qZ d c (fun j hj=>h j (.inr ⟨c,hc,hj⟩))
      simp only[Bool.false_eq_true,if_false]
      exact⟨by rw[pv fun c hc=>(ih c hc).1],by rw[pr fun c hc=>(ih c hc).2]⟩
  |_=>simp[freeze,cY]
theorem yd {f:FuncId} {args:List AV} {o o2:Store} (h:∀j∈args.flatMap (cY o 6),o2[j]?=o[j]?):
  ee call f args o2 false=(ee call f args o false).map (fun p=>(p.1,o2))∧args.flatMap (cY o2 6)=args.flatMap (cY o 6):=by
 simp only[List.mem_flatMap,forall_exists_index,and_imp] at h
 have ih:=fun c hc=>qZ 6 c (fun j hj=>h j c hc hj)
 have h1:args.flatMap (cY o2 6)=args.flatMap (cY o 6):=pr fun c hc=>(ih c hc).2
 refine⟨?_,h1⟩
 unfold ee
 rw[if_neg (by simp),if_neg (by simp),h1,pv fun c hc=>(ih c hc).1]
 cases args.mapM (freeze o 6) with
 |none=>rfl
 |some bs=>
  simp only
  split
  ·split<;>simp
  ·simp
theorem Bm {aZ:bk} (hc:aZ.cls=1) {o o2:Store} (h:∀j∈bV aZ ρ o am,o2[j]?=o[j]?):
  aL call aZ ρ o2 am=(aL call aZ ρ o am).map (fun p=>(p.1,o2))∧bV aZ ρ o2 am=bV aZ ρ o am:=by
 cases aZ<;>try (simp[bk.cls] at hc;done)
 case load n a=>
  simp only[aL,bV] at h ⊢
  rw[Q8 h]
  refine⟨?_,trivial⟩
  split<;>simp[Option.map_map,Function.comp_def]
 case me sz x i=>
  simp only[aL,bV] at h ⊢
  refine⟨?_,trivial⟩
  split
  ·rw[Rb h];simp[Option.map_map,Function.comp_def]
  ·rfl
 case slice sz x lo hi=>
  simp only[aL,bV] at h ⊢
  refine⟨?_,trivial⟩
  rw[Re h];simp[Option.map_map,Function.comp_def]
 case slice3 sz x lo hi mx=>
  simp only[aL,bV] at h ⊢
  refine⟨?_,trivial⟩
  rw[Rf h];simp[Option.map_map,Function.comp_def]
 case len k x=>
  simp only[aL,bV] at h ⊢
  refine⟨?_,trivial⟩
  rw[Rh h];simp[Option.map_map,Function.comp_def]
 case lookup z agg ks ka x k ok=>
  simp only[aL,bV] at h ⊢
  refine⟨?_,trivial⟩
  split
  ·rename_i id kv hx hk
   rw[hx] at h
   rw[h id (by simp[cZ])]
   split
   ·split
    ·split<;>simp
    ·rfl
   ·rfl
  ·rfl
 case call f args own=>
  cases own
  ·simp only[aL,bV] at h ⊢
   exact yd h
  ·simp[bk.cls] at hc
 case eF f args own=>
  cases own
  ·simp only[aL,bV] at h ⊢
   split
   ·rename_i g first captured hf
    rw[hf] at h
    simp only[hf] at h ⊢
    exact⟨(yd h).1,(yd (call:=call) (f:=0) h).2⟩
   ·rename_i hne
    refine⟨rfl,?_⟩
    split
    ·rename_i f' first captured hf
     simp only[hf] at h ⊢
     exact(yd (call:=call) (f:=0) h).2
    ·rfl
  ·simp[bk.cls] at hc
theorem Ri {aZ:bk} (hc:aZ.cls=1) {o o':Store} {v:AV} (h:aL call aZ ρ o am=some (v,o')):o'=o:=by
 have:=(Bm (call:=call) (ρ:=ρ) (am:=am) hc (o:=o) (o2:=o) fun _ _=>rfl).1
 rw[h] at this
 simp at this
 exact this
theorem ye {o:Store} {id:Nat}:o.set id ((o[id]?).getD .dead)=o:=by
 apply List.ext_getElem?
 intro j
 rw[List.getElem?_set]
 split
 ·rename_i h
  subst h
  split
  ·rename_i h2;simp[h2]
  ·rename_i h2;simp at h2;simp[h2]
 ·rfl
theorem Rj {aZ:bk} (hc:aZ.cls=2) {o o':Store} {v:AV} (he:aL call aZ ρ o am=some (v,o')):
  ∃id x,id∈wrt aZ ρ o am∧o'=o.set id x∧∀o2,(∀j∈bV aZ ρ o am,o2[j]?=o[j]?)→
   aL call aZ ρ o2 am=some (v,o2.set id x)∧bV aZ ρ o2 am=bV aZ ρ o am∧wrt aZ ρ o2 am=wrt aZ ρ o am:=by
 have hmk:∀{x:aP} {g:AV} {v:AV} {o':Store},(fU am x o).map (fun o'=>(g,o'))=some (v,o')→v=g∧o'=o.set am x∧∀o2:Store,o2[am]?=o[am]?→(fU am x o2).map (fun o'=>(g,o'))=some (v,o2.set am x):=by
  intro x g v o' h
  obtain⟨y,hy,h2⟩:=fh h
  obtain⟨hd,rfl⟩:=o7 hy
  simp only[Prod.mk.injEq] at h2
  obtain⟨rfl,rfl⟩:=h2
  refine⟨rfl,rfl,fun o2 h=>?_⟩
  rw[hd] at h
  simp[fU,h]
 cases aZ<;>try (simp[bk.cls] at hc;done)
 case alloc z e pu=>
  simp only[aL,bV,wrt] at he ⊢
  obtain⟨rfl,rfl,h3⟩:=hmk he
  exact⟨am,_,by simp,rfl,fun o2 h=>⟨h3 o2 (h am (by simp)),trivial,trivial⟩⟩
 case box e x=>
  simp only[aL,bV,wrt] at he ⊢
  split at he
  ·rename_i h1
   obtain⟨rfl,rfl,h3⟩:=hmk he
   exact⟨am,_,by simp,rfl,fun o2 h=>⟨by rw[if_pos h1];exact h3 o2 (h am (by simp)),trivial,trivial⟩⟩
  ·cases he
 case kg z len parts e sz=>
  simp only[aL,bV,wrt] at he ⊢
  split at he
  ·rename_i cs h1
   obtain⟨rfl,rfl,h3⟩:=hmk he
   exact⟨am,_,by simp,rfl,fun o2 h=>⟨h3 o2 (h am (by simp)),trivial,trivial⟩⟩
  ·cases he
 case kJ z e sz bytes l c pu=>
  simp only[aL,bV,wrt] at he ⊢
  split at he
  ·split at he
   ·rename_i n m h1 h2 hcond
    obtain⟨rfl,rfl,h3⟩:=hmk he
    exact⟨am,_,by simp,rfl,fun o2 h=>⟨by rw[if_pos hcond];exact h3 o2 (h am (by simp)),trivial,trivial⟩⟩
   ·cases he
  ·cases he
 case kK kt pu=>
  simp only[aL,bV,wrt] at he ⊢
  obtain⟨rfl,rfl,h3⟩:=hmk he
  exact⟨am,_,by simp,rfl,fun o2 h=>⟨h3 o2 (h am (by simp)),trivial,trivial⟩⟩
 case store n a x=>
  simp only[aL,bV,wrt] at he ⊢
  split at he
  ·rename_i id off tot ha
   split at he
   ·rename_i cs e sz pu ho
    split at he
    ·rename_i hcond
     simp only[Option.some.injEq,Prod.mk.injEq] at he
     obtain⟨rfl,rfl⟩:=he
     refine⟨id,_,by simp[ha,cZ],rfl,fun o2 h=>⟨?_,trivial,trivial⟩⟩
     have h2:=h id (by simp[ha,cZ])
     rw[h2,ho]
     simp only
     rw[if_pos hcond]
    ·cases he
   ·cases he
  ·cases he
 case append e sz bytes s x pu=>
  simp only[aL,bV,wrt] at he ⊢
  unfold kN at he
  split at he
  ·cases he
  ·rename_i m new hel
   split at he
   ·cases he
   ·rename_i hone
    have yf:∀o2:Store,(∀j∈am::(cZ (ρ s)++cZ (ρ x)),o2[j]?=o[j]?)→iM o2 sz (ρ x)=some (m,new):=fun o2 h=>by
     rw[Q9 (fun j hj=>h j (by simp[hj])),hel]
    split at he
    ·rename_i hs
     split at he
     ·rename_i hm
      simp only[Option.some.injEq,Prod.mk.injEq] at he
      obtain⟨rfl,rfl⟩:=he
      refine⟨am,(o[am]?).getD .dead,by simp,ye.symm,fun o2 h=>⟨?_,trivial,trivial⟩⟩
      rw[←h am (by simp),ye]
      unfold kN
      rw[yf o2 h]
      simp only[hone,hs,hm,if_true]
      try rfl
     ·split at he
      ·rename_i hm hcond
       obtain⟨rfl,rfl,h3⟩:=hmk he
       refine⟨am,_,by simp,rfl,fun o2 h=>⟨?_,trivial,trivial⟩⟩
       unfold kN
       rw[yf o2 h]
       simp only[hone,hs,hm,if_pos hcond]
       exact h3 o2 (h am (by simp))
      ·cases he
    ·rename_i id len tot hs
     split at he
     ·rename_i cs e' sz' dV ho
      split at he
      ·rename_i hcond
       simp only[Option.some.injEq,Prod.mk.injEq] at he
       obtain⟨rfl,rfl⟩:=he
       refine⟨id,_,by simp[hs,cZ],rfl,fun o2 h=>⟨?_,trivial,trivial⟩⟩
       unfold kN
       rw[yf o2 h]
       have h2:=h id (by simp[hs,cZ])
       simp only[hone,hs,h2,ho,if_pos hcond]
       try rfl
      ·cases he
     ·cases he
    ·rename_i n cs hs
     split at he
     ·rename_i hm
      simp only[Option.some.injEq,Prod.mk.injEq] at he
      obtain⟨rfl,rfl⟩:=he
      refine⟨am,(o[am]?).getD .dead,by simp,ye.symm,fun o2 h=>⟨?_,trivial,trivial⟩⟩
      rw[←h am (by simp),ye]
      unfold kN
      rw[yf o2 h]
      simp only[hone,hs,hm,if_true]
      try rfl
     ·cases he
    ·cases he
 case lv ks ka x k v'=>
  simp only[aL,bV,wrt] at he ⊢
  split at he
  ·rename_i id kv hx hk
   split at he
   ·rename_i es kt pu ho
    split at he
    ·cases he
    ·rename_i hcond
     split at he
     ·rename_i i w hf
      simp only[Option.some.injEq,Prod.mk.injEq] at he
      obtain⟨rfl,rfl⟩:=he
      refine⟨id,_,by simp[hx,cZ],rfl,fun o2 h=>⟨?_,trivial,trivial⟩⟩
      have h2:=h id (by simp[hx,cZ])
      rw[h2,ho]
      simp only
      rw[if_neg hcond,hf]
     ·rename_i hf
      simp only[Option.some.injEq,Prod.mk.injEq] at he
      obtain⟨rfl,rfl⟩:=he
      refine⟨id,_,by simp[hx,cZ],rfl,fun o2 h=>⟨?_,trivial,trivial⟩⟩
      have h2:=h id (by simp[hx,cZ])
      rw[h2,ho]
      simp only
      rw[if_neg hcond,hf]
     ·cases he
   ·cases he
  ·cases he
 case call f args own=>cases own<;>simp[bk.cls] at hc
 case eF f args own=>cases own<;>simp[bk.cls] at hc
theorem kX (o:Store):∀(d:Nat) (vs:List AV) (acc:List Nat) (j:Nat),j∈acc→j∈bq o d vs acc
 |0,vs,acc,j,h=>by cases vs<;>simpa[bq] using h
 |d+1,[],acc,j,h=>by simpa[bq] using h
 |d+1,v::vs,acc,j,h=>by
  rw[sZ]
  apply kX o d
  have hv:∀id,j∈kW o d id acc:=by
   intro id
   unfold kW
   split
   ·exact h
   ·split
    ·split
     ·simp[h]
     ·exact kX o d _ _ j (by simp[h])
    ·split
     ·simp[h]
     ·exact kX o d _ _ j (by simp[h])
    ·simp[h]
  cases v with
  |agg cs=>exact kX o d _ _ j h
  |aD cs=>exact kX o d _ _ j h
  |ptr id _ _=>exact hv id
  |os id _ _ _=>exact hv id
  |mp id=>exact hv id
  |fn f a b=>exact kX o d _ _ j (kX o d _ _ j h)
  |_=>exact h
theorem Rk (o:Store) (d id:Nat) (acc:List Nat):id∈kW o d id acc:=by
 unfold kW
 split
 ·rename_i h;simpa using h
 ·split
  ·split
   ·simp
   ·exact kX o d _ _ id (by simp)
  ·split
   ·simp
   ·exact kX o d _ _ id (by simp)
  ·simp
theorem ny {o o2:Store}:∀(d:Nat) (vs:List AV) (acc:List Nat),(∀j∈bq o d vs acc,o2[j]?=o[j]?)→bq o2 d vs acc=bq o d vs acc
 |0,vs,acc,_=>by cases vs<;>simp[bq]
 |d+1,[],acc,_=>by simp[bq]
 |d+1,v::vs,acc,h=>by
  rw[sZ] at h
  rw[sZ,sZ]
  have hv:∀id,(∀j∈kW o d id acc,o2[j]?=o[j]?)→kW o2 d id acc=kW o d id acc:=by
   intro id hj
   have h0:=hj id (Rk o d id acc)
   unfold kW at hj ⊢
   split
   ·rfl
   ·rename_i hn
    rw[if_neg hn] at hj
    rw[h0]
    cases ho:o[id]? with
    |none=>rfl
    |some x=>
     rw[ho] at hj
     cases x with
     |dead=>rfl
     |cells cs e sz pu=>
      cases pu with
      |true=>rfl
      |false=>exact ny d _ _ hj
     |map es kt pu=>
      cases pu with
      |true=>rfl
      |false=>exact ny d _ _ hj
  have hacc:po o2 d v acc=po o d v acc:=by
   have hm:=fun j hj=>h j (kX o d vs _ j hj)
   cases v with
   |agg cs=>exact ny d cs acc hm
   |aD cs=>exact ny d cs acc hm
   |ptr id _ _=>exact hv id hm
   |os id _ _ _=>exact hv id hm
   |mp id=>exact hv id hm
   |fn f a b=>
    have h1:bq o2 d a acc=bq o d a acc:=ny d a acc fun j hj=>hm j (kX o d b _ j hj)
    have h2:bq o2 d b (bq o d a acc)=bq o d b (bq o d a acc):=ny d b _ hm
    simp only[po,h1,h2]
   |_=>rfl
  rw[hacc]
  exact ny d vs _ h
theorem Hq {o o2:Store} {ids:List Nat}:∀{r:List Nat},(∀j∈r,o2[j]?=o[j]?)→fV o2 ids r=fV o ids r
 |[],_=>rfl
 |i::r,h=>by
  simp only[fV]
  rw[h i (by simp),Hq fun j hj=>h j (by simp[hj])]
theorem Hr:∀(ids:List Nat) (o o2 X:Store) (j:Nat),o2.length=o.length→ids.length=X.length→(j∈ids∨o2[j]?=o[j]?)→(gW o2 ids X)[j]?=(gW o ids X)[j]?
 |[],o,o2,X,j,_,_,h=>by cases X<;>simpa[gW] using h
 |i::r,o,o2,[],j,_,hl,_=>by simp at hl
 |i::r,o,o2,x::l,j,hlen,hl,h=>by
  simp only[gW]
  refine Hr r _ _ l j (by simp[hlen]) (by simpa using hl) ?_
  by_cases hji:j=i
  ·right;subst hji;simp[List.getElem?_set,hlen]
  ·rcases h with h|h
   ·exact .inl ((List.mem_cons.1 h).resolve_left hji)
   ·right;rw[List.getElem?_set_ne (Ne.symm hji),List.getElem?_set_ne (Ne.symm hji)];exact h
theorem Ht {f:FuncId} {args:List AV} {o o':Store} {r:AV} (h:eA call f args o=some (r,o')):
  o.length≤o'.length∧(∀j,j<o.length→j∉bq o dr args []→o'[j]?=o[j]?)∧
  ∀o2:Store,o2.length=o.length→(∀j∈bq o dr args [],o2[j]?=o[j]?)→∃jr,eA call f args o2=some (r,jr)∧
   bq o2 dr args []=bq o dr args []∧∀j,(j∈bq o dr args []∨o.length≤j)→jr[j]?=o'[j]?:=by
 have Bn:∀o2:Store,(∀j∈bq o dr args [],o2[j]?=o[j]?)→bq o2 dr args []=bq o dr args []:=fun o2 h=>ny dr args [] h
 have hsub:∀o2:Store,(∀j∈bq o dr args [],o2[j]?=o[j]?)→fV o2 (bq o dr args []) (bq o dr args [])=fV o (bq o dr args []) (bq o dr args []):=fun o2 h=>Hq h
 unfold eA at h
 simp only at h
 generalize aax:bq o dr args []=ids at h Bn hsub
 split at h
 ·rename_i args' small ha hs
  split at h
  ·rename_i r0 kh hcall
   split at h
   ·cases h
   ·rename_i hcond
    split at h
    ·rename_i r' big hr hb
     simp only[Option.some.injEq,Prod.mk.injEq] at h
     obtain⟨rfl,rfl⟩:=h
     simp only[not_or] at hcond
     have hbl:=Bi hb
     have hl:ids.length=(big.take ids.length).length:=by simp;omega
     refine⟨by simp[jq],fun j hj hn=>?_,fun o2 hlen hag=>?_⟩
     ·rw[List.getElem?_append_left (by rw[jq];exact hj),xY _ _ _ _ hn]
     ·refine⟨gW o2 ids (big.take ids.length)++big.drop ids.length,?_,Bn o2 hag,fun j hj=>?_⟩
      ·unfold eA
       simp only
       rw[Bn o2 hag,ha,hsub o2 hag,hs]
       simp only
       rw[hcall]
       simp only
       rw[if_neg (by simp only[not_or];exact hcond),hlen,hr,hb]
      ·by_cases hjl:j<o.length
       ·rw[List.getElem?_append_left (by rw[jq,hlen];exact hjl),List.getElem?_append_left (by rw[jq];exact hjl)]
        exact Hr ids o o2 _ j hlen hl (.inl (hj.resolve_right (by omega)))
       ·rw[List.getElem?_append_right (by rw[jq,hlen];omega),List.getElem?_append_right (by rw[jq];omega),jq,jq,hlen]
    ·cases h
  ·cases h
 ·cases h
end
section
variable {call:bB} {ρ gz:Operand→AV} {am:Nat}
theorem Hu {aZ:bk} {o:Store} {j:Nat} (h:j∈wrt aZ ρ o am):j∈bV aZ ρ o am:=by
 cases aZ<;>simp only[wrt,bV,List.not_mem_nil] at h ⊢<;>try exact h
 case append=>simp only[List.mem_cons,List.mem_append] at h ⊢;rcases h with h|h<;>simp[h]
 case call f args own=>cases own<;>simp only[List.not_mem_nil] at h ⊢;exact h
 case eF f args own=>cases own<;>simp only[List.not_mem_nil] at h ⊢;exact h
theorem Rl {aZ:bk} {o:Store} (h:aZ.cls=0∨aZ.cls=1):wrt aZ ρ o am=[]:=by
 cases aZ<;>try (simp[bk.cls] at h;done)
 case call f args own=>cases own<;>simp[bk.cls] at h;rfl
 case eF f args own=>cases own<;>simp[bk.cls] at h;rfl
 all_goals rfl
theorem Bo {aZ:bk} {o:Store} (h:aZ.cls=0):bV aZ ρ o am=[]:=by
 cases aZ<;>try (simp[bk.cls] at h;done)
 case call f args own=>cases own<;>simp[bk.cls] at h
 case eF f args own=>cases own<;>simp[bk.cls] at h
 all_goals rfl
theorem Rm (aZ:bk):aZ.cls=0∨aZ.cls=1∨aZ.cls=2∨aZ.cls=3:=by
 cases aZ<;>try (simp[bk.cls];done)
 case call f args own=>cases own<;>simp[bk.cls]
 case eF f args own=>cases own<;>simp[bk.cls]
def gA (aZ:bk) (W:List Nat) (n j:Nat):Prop:=j∈W∨(aZ.cls=3∧n≤j)
theorem Bq {aZ:bk} {o:Store} {j:Nat} (h:j∈cu call aZ ρ o am):j∈wrt aZ ρ o am:=by
 unfold cu at h
 split at h
 ·split at h
  ·exact(List.mem_filter.1 h).1
  ·simp at h
 ·exact h
theorem Rn {aZ:bk} {o:Store} {j:Nat} (h:j∈cu call aZ ρ o am):j∈bV aZ ρ o am:=Hu (Bq h)
theorem nz {aZ:bk} {o:Store} (h:aZ.cls=0∨aZ.cls=1):cu call aZ ρ o am=[]:=by
 unfold cu
 split
 ·simp[bk.cls] at h
 ·exact Rl h
theorem Ro {aZ:bk} {o:Store} (h:aZ.cls=2):cu call aZ ρ o am=wrt aZ ρ o am:=by
 unfold cu
 split
 ·simp[bk.cls] at h
 ·rfl
open Classical in
theorem Rq {aZ:bk} {o o':Store} {v:AV} (he:aL call aZ ρ o am=some (v,o')):
  o.length≤o'.length∧(aZ.cls≠3→o'.length=o.length)∧(∀j,¬gA aZ (cu call aZ ρ o am) o.length j→o'[j]?=o[j]?)∧
  ∀o2:Store,(∀j∈bV aZ ρ o am,o2[j]?=o[j]?)→(aZ.cls=3→o2.length=o.length)→
   ∃jr,aL call aZ ρ o2 am=some (v,jr)∧bV aZ ρ o2 am=bV aZ ρ o am∧cu call aZ ρ o2 am=cu call aZ ρ o am∧∀j,gA aZ (cu call aZ ρ o am) o.length j→jr[j]?=o'[j]?:=by
 rcases Rm aZ with hc|hc|hc|hc
 ·have:=Q7 hc he
  subst this
  refine⟨Nat.le_refl _,fun _=>rfl,fun _ _=>rfl,fun o2 _ _=>⟨o2,?_,by rw[Bo hc,Bo hc],by rw[nz (.inl hc),nz (.inl hc)],fun j hj=>?_⟩⟩
  ·rw[Ho hc o' o2,he];rfl
  ·rw[gA,nz (.inl hc)] at hj;simp[hc] at hj
 ·have:=Ri hc he
  subst this
  refine⟨Nat.le_refl _,fun _=>rfl,fun _ _=>rfl,fun o2 h _=>⟨o2,?_,(Bm (call:=call) hc h).2,by rw[nz (.inr hc),nz (.inr hc)],fun j hj=>?_⟩⟩
  ·rw[(Bm hc h).1,he];rfl
  ·rw[gA,nz (.inr hc)] at hj;simp[hc] at hj
 ·simp only[Ro hc]
  obtain⟨id,x,hid,rfl,hk⟩:=Rj hc he
  refine⟨by simp,fun _=>by simp,fun j hj=>?_,fun o2 h _=>?_⟩
  ·have:j≠id:=fun hji=>hj (.inl (hji▸hid))
   rw[List.getElem?_set_ne (Ne.symm this)]
  ·obtain⟨k1,k2,k3⟩:=hk o2 h
   refine⟨_,k1,k2,k3,fun j hj=>?_⟩
   have hj:j∈wrt aZ ρ o am:=hj.resolve_right (by simp[hc])
   have hjo:=h j (Hu hj)
   by_cases hji:id=j
   ·subst hji
    have hlen:(id<o2.length)↔(id<o.length):=by
     rcases Nat.lt_or_ge id o2.length with g1|g1<;>rcases Nat.lt_or_ge id o.length with g2|g2
     ·simp[g1,g2]
     ·rw[List.getElem?_eq_getElem g1,List.getElem?_eq_none g2] at hjo;cases hjo
     ·rw[List.getElem?_eq_getElem g2,List.getElem?_eq_none g1] at hjo;cases hjo
     ·omega
    rw[List.getElem?_set,List.getElem?_set]
    simp only[if_true]
    by_cases h1:id<o.length
    ·rw[if_pos h1,if_pos (hlen.2 h1)]
    ·rw[if_neg h1,if_neg fun h2=>h1 (hlen.1 h2)]
   ·rw[List.getElem?_set_ne hji,List.getElem?_set_ne hji];exact hjo
 ·have key:∀(f:FuncId) (args:List AV),eA call f args o=some (v,o')→cu call aZ ρ o am=bq o dr args []→bV aZ ρ o am=bq o dr args []→
    (∀o2:Store,aL call aZ ρ o2 am=eA call f args o2∧bV aZ ρ o2 am=bq o2 dr args []∧cu call aZ ρ o2 am=bq o2 dr args [])→
    o.length≤o'.length∧(aZ.cls≠3→o'.length=o.length)∧(∀j,¬gA aZ (cu call aZ ρ o am) o.length j→o'[j]?=o[j]?)∧
    ∀o2:Store,(∀j∈bV aZ ρ o am,o2[j]?=o[j]?)→(aZ.cls=3→o2.length=o.length)→
    ∃jr,aL call aZ ρ o2 am=some (v,jr)∧bV aZ ρ o2 am=bV aZ ρ o am∧cu call aZ ρ o2 am=cu call aZ ρ o am∧∀j,gA aZ (cu call aZ ρ o am) o.length j→jr[j]?=o'[j]?:=by
   intro f args hcall hw ht hg
   obtain⟨c1,c2,c3⟩:=Ht hcall
   refine⟨c1,fun h=>absurd hc h,fun j hj=>?_,fun o2 h hl=>?_⟩
   ·simp only[gA,hc,true_and,not_or,Nat.not_le,hw] at hj
    exact c2 j hj.2 hj.1
   ·rw[ht] at h
    obtain⟨jr,d1,d2,d3⟩:=c3 o2 (hl hc) h
    obtain⟨g1,g2,g3⟩:=hg o2
    refine⟨jr,by rw[g1,d1],by rw[g2,d2,ht],by rw[g3,d2,hw],fun j hj=>d3 j ?_⟩
    simp only[gA,hc,true_and,hw] at hj
    exact hj
  cases aZ<;>try (simp[bk.cls] at hc;done)
  case call f args own=>
   cases own
   ·simp[bk.cls] at hc
   ·simp only[aL,ee,if_true] at he
    obtain⟨c1,c2,c3⟩:=Ht he
    have hw:cu call (.call f args true) ρ o am=(bq o dr (args.map ρ) []).filter fun j=>decide (o'[j]?≠o[j]?):=by simp only[cu,he]
    refine⟨c1,fun h=>absurd hc h,fun j hj=>?_,fun o2 h hl=>?_⟩
    ·simp only[gA,hc,true_and,not_or,Nat.not_le,hw,List.mem_filter,decide_eq_true_eq,not_and,Classical.not_not,ne_eq] at hj
     by_cases hm:j∈bq o dr (args.map ρ) []
     ·exact hj.1 hm
     ·exact c2 j hj.2 hm
    ·obtain⟨jr,d1,d2,d3⟩:=c3 o2 (hl hc) h
     refine⟨jr,by simp only[aL,ee,if_true,d1],d2,?_,fun j hj=>?_⟩
     ·rw[hw]
      simp only[cu,d1,d2]
      refine List.filter_congr fun j hj=>?_
      rw[d3 j (.inl hj),h j hj]
     ·rw[gA,hw,List.mem_filter] at hj
      exact d3 j (hj.imp (fun h=>h.1) fun h=>h.2)
  case eF f args own=>
   cases own
   ·simp[bk.cls] at hc
   ·simp only[aL,ee,if_true] at he
    split at he
    ·rename_i g first captured hf
     exact key g (first++args.map ρ++captured) he (by simp[cu,wrt,hf]) (by simp[bV,hf]) fun o2=>⟨by simp[aL,ee,hf],by simp[bV,hf],by simp[cu,wrt,hf]⟩
    ·cases he
theorem yg {l:List Operand} (h:∀x∈l,gz x=ρ x):l.map gz=l.map ρ:=List.map_congr_left h
theorem Rr {aZ:bk} (h:∀x∈aZ.ff,gz x=ρ x) (o:Store):aL call aZ gz o am=aL call aZ ρ o am∧bV aZ gz o am=bV aZ ρ o am∧cu call aZ gz o am=cu call aZ ρ o am:=by
 cases aZ
 case build z ps=>
  have:(ps.map fun p=>(p.1,p.2.1,gz p.2.2))=ps.map fun p=>(p.1,p.2.1,ρ p.2.2):=List.map_congr_left fun p hp=>by rw[h p.2.2 (by simp only[bk.ff];exact List.mem_map_of_mem (f:=fun p:Nat×Nat×Operand=>p.2.2) hp)]
  simp only[aL,bV,cu,wrt,this,and_self]
 case kg z len ps e sz=>
  have:(ps.map fun p=>(p.1,sz,gz p.2))=ps.map fun p=>(p.1,sz,ρ p.2):=List.map_congr_left fun p hp=>by rw[h p.2 (by simp only[bk.ff];exact List.mem_map_of_mem (f:=fun p:Nat×Operand=>p.2) hp)]
  simp only[aL,bV,cu,wrt,this,and_self]
 case ng z len ps e sz=>
  have:(ps.map fun p=>(p.1,sz,gz p.2))=ps.map fun p=>(p.1,sz,ρ p.2):=List.map_congr_left fun p hp=>by rw[h p.2 (by simp only[bk.ff];exact List.mem_map_of_mem (f:=fun p:Nat×Operand=>p.2) hp)]
  simp only[aL,bV,cu,wrt,this,and_self]
 case call f args own=>
  have:=yg h
  simp only[bk.ff] at this
  cases own<;>simp only[aL,bV,cu,wrt,this,and_self]
 case eF f args own=>
  have h1:args.map gz=args.map ρ:=yg fun x hx=>h x (by simp[bk.ff,hx])
  have h2:=h f (by simp[bk.ff])
  cases own<;>simp only[aL,bV,cu,wrt,h1,h2,and_self]
 case nh f a b=>
  have h1:a.map gz=a.map ρ:=yg fun x hx=>h x (by simp[bk.ff,hx])
  have h2:b.map gz=b.map ρ:=yg fun x hx=>h x (by simp[bk.ff,hx])
  simp only[aL,bV,cu,wrt,h1,h2,and_self]
 case slice sz x lo hi=>
  have h1:lo.map gz=lo.map ρ:=by cases lo<;>simp[bk.ff] at h ⊢;exact h.2.1
  have h2:hi.map gz=hi.map ρ:=by cases hi<;>simp[bk.ff] at h ⊢;first|exact h.2.2|(cases lo<;>simp at h<;>simp[h])
  have h3:=h x (by simp[bk.ff])
  simp only[aL,bV,cu,wrt,h1,h2,h3,and_self]
 case oL x lo hi=>
  have h1:lo.map gz=lo.map ρ:=by cases lo<;>simp[bk.ff] at h ⊢;exact h.2.1
  have h2:hi.map gz=hi.map ρ:=by cases hi<;>simp[bk.ff] at h ⊢;first|exact h.2.2|(cases lo<;>simp at h<;>simp[h])
  have h3:=h x (by simp[bk.ff])
  simp only[aL,bV,cu,wrt,h1,h2,h3,and_self]
 case slice3 sz x lo hi mx=>
  have h1:lo.map gz=lo.map ρ:=by
   cases lo with
   |none=>rfl
   |some a=>exact congrArg some (h a (by simp[bk.ff]))
  have h2:=h hi (by simp[bk.ff])
  have h3:=h x (by simp[bk.ff])
  have h4:=h mx (by simp[bk.ff])
  simp only[aL,bV,cu,wrt,h1,h2,h3,h4,and_self]
 all_goals
  simp only[bk.ff,List.mem_cons,List.not_mem_nil,or_false,forall_eq_or_imp,forall_eq] at h
  simp[aL,bV,cu,wrt,h]
end
section
variable {call:bB} {base:Nat}
noncomputable def entry (call:bB) (base:Nat) (i:bA) (st:St):List Nat×List Nat:=
 match fY st.env i.guard with
 |some true=>(bV i.op (b8 st.env) st.o (base+i.am),cu call i.op (b8 st.env) st.o (base+i.am))
 |_=>([],[])
theorem Br {i:bA} {st:St} {j:Nat} (h:j∈(entry call base i st).2):j∈(entry call base i st).1:=by
 unfold entry at h ⊢
 split at h
 ·rename_i hw;exact Rn h
 ·simp at h
theorem Hv {i:bA} {e e2:dI} (h:∀s∈i.reads,bE e2 s=bE e s):(∀x∈i.op.ff,b8 e2 x=b8 e x)∧fY e2 i.guard=fY e i.guard:=by
 constructor
 ·intro x hx
  cases x with
  |tmp t=>
   refine h t ?_
   simp only[bA.reads,List.mem_append]
   left
   exact List.mem_filterMap.2 ⟨.tmp t,hx,rfl⟩
  |_=>rfl
 ·unfold fY
  cases hg:i.guard with
  |none=>rfl
  |some g=>
   obtain⟨a,b⟩:=g
   cases a with
   |none=>rfl
   |some s=>simp only;rw[h s (by simp[bA.reads,hg])]
theorem q8 {i:bA} {st st':St} (hr:dh call base i st=some st'):
  ∃v,(∀s,bE st'.env s=if i.dst=some s then v else bE st.env s)∧st.o.length≤st'.o.length∧(i.op.cls≠3→st'.o.length=st.o.length)∧
   (∀j,¬gA i.op (entry call base i st).2 st.o.length j→st'.o[j]?=st.o[j]?)∧
   ∀st2:St,(∀s∈i.reads,bE st2.env s=bE st.env s)→(∀j∈(entry call base i st).1,st2.o[j]?=st.o[j]?)→(i.op.cls=3→st2.o.length=st.o.length)→
    ∃st2',dh call base i st2=some st2'∧(∀s,bE st2'.env s=if i.dst=some s then v else bE st2.env s)∧entry call base i st2=entry call base i st∧
     ∀j,gA i.op (entry call base i st).2 st.o.length j→st2'.o[j]?=st'.o[j]?:=by
 unfold dh at hr
 split at hr
 ·cases hr
 ·rename_i hw
  injection hr with hr
  subst hr
  refine⟨.aD [],fun s=>qY _ _ _ _,Nat.le_refl _,fun _=>rfl,fun _ _=>rfl,fun st2 he _ hl=>?_⟩
  obtain⟨h1,h2⟩:=Hv he
  refine⟨⟨jl st2.env i.dst (.aD []),st2.o⟩,?_,fun s=>qY _ _ _ _,?_,fun j hj=>?_⟩
  ·unfold dh;rw[h2,hw]
  ·unfold entry;rw[h2,hw]
  ·unfold entry at hj
   rw[hw] at hj
   simp only[gA,List.not_mem_nil,false_or] at hj
   have hll:=hl hj.1
   simp only
   rw[List.getElem?_eq_none (by omega),List.getElem?_eq_none (by omega)]
 ·rename_i hw
  split at hr
  ·rename_i v o' he
   injection hr with hr
   subst hr
   rw[qw] at he
   obtain⟨l1,l2,l3,l4⟩:=Rq he
   have hen:entry call base i st=(bV i.op (b8 st.env) st.o (base+i.am),cu call i.op (b8 st.env) st.o (base+i.am)):=by unfold entry;rw[hw]
   rw[hen]
   refine⟨v,fun s=>qY _ _ _ _,l1,l2,l3,fun st2 hee hag hl=>?_⟩
   obtain⟨h1,h2⟩:=Hv hee
   obtain⟨jr,m1,m2,m3,m4⟩:=l4 st2.o hag hl
   obtain⟨r1,r2,r3⟩:=Rr (call:=call) (am:=base+i.am) h1 st2.o
   refine⟨⟨jl st2.env i.dst v,jr⟩,?_,fun s=>qY _ _ _ _,?_,m4⟩
   ·unfold dh
    rw[h2,hw]
    simp only
    rw[qw,r1,m1]
   ·unfold entry
    rw[h2,hw]
    simp only
    rw[r2,r3,m2,m3]
  ·cases hr
def fu (a b:St):Prop:=(∀s,bE a.env s=bE b.env s)∧a.o=b.o
theorem fu.refl (a:St):fu a a:=⟨fun _=>rfl,rfl⟩
theorem fu.trans {a b c:St} (h:fu a b) (k:fu b c):fu a c:=⟨fun s=>(h.1 s).trans (k.1 s),h.2.trans k.2⟩
theorem fu.symm {a b:St} (h:fu a b):fu b a:=⟨fun s=>(h.1 s).symm,h.2.symm⟩
theorem fu.run {i:bA} {a b a':St} (h:fu a b) (hr:dh call base i a=some a'):∃b',dh call base i b=some b'∧fu a' b'∧entry call base i b=entry call base i a:=by
 have h1:b8 b.env=b8 a.env:=by
  funext x
  cases x with
  |tmp t=>exact(h.1 t).symm
  |_=>rfl
 have h2:fY b.env i.guard=fY a.env i.guard:=by
  cases hg:i.guard with
  |none=>rfl
  |some g=>
   obtain⟨c,d⟩:=g
   cases c with
   |none=>rfl
   |some s=>simp only[fY];rw[h.1]
 have hput:∀(v:AV) (s:Nat),bE (jl a.env i.dst v) s=bE (jl b.env i.dst v) s:=by
  intro v s
  simp only[qY]
  by_cases hd:i.dst=some s
  ·rw[if_pos hd,if_pos hd]
  ·rw[if_neg hd,if_neg hd];exact h.1 s
 have he:entry call base i b=entry call base i a:=by unfold entry;rw[h2,h1,h.2]
 unfold dh at hr ⊢
 rw[h2,h1,←h.2]
 split at hr
 ·cases hr
 ·injection hr with hr;subst hr
  exact⟨_,rfl,⟨hput _,rfl⟩,he⟩
 ·split at hr
  ·injection hr with hr;subst hr
   exact⟨_,rfl,⟨hput _,rfl⟩,he⟩
  ·cases hr
def s7 (n0:Nat) (y:bA) (ty:List Nat×List Nat) (x:bA) (tx:List Nat×List Nat):Prop:=
 sP y x=true∧(∀j∈ty.2,j∉tx.1)∧(∀j∈tx.2,j∉ty.1)∧(y.op.cls=3→x.op.cls≠3∧∀j∈tx.1,j<n0)∧(x.op.cls=3→∀j∈ty.1,j<n0)
theorem Rt {y x:bA} (h:sP y x=true):(∀d,y.dst=some d→d∉x.reads)∧(∀d,x.dst=some d→d∉y.reads)∧∀d,y.dst=some d→x.dst≠some d:=by
 unfold sP at h
 simp only[Bool.and_eq_true] at h
 obtain⟨⟨h1,h2⟩,h3⟩:=h
 refine⟨fun d hd=>?_,fun d hd=>?_,fun d hd hx=>?_⟩
 ·rw[hd] at h1;simpa[vm] using h1
 ·rw[hd] at h2;simpa[vm] using h2
 ·rw[hd,hx] at h3;simp at h3
theorem swap {n0:Nat} {y x:bA} {st s1 s2:St} (hy:dh call base y st=some s1) (hx:dh call base x s1=some s2) (hn:n0≤st.o.length) (hR:s7 n0 y (entry call base y st) x (entry call base x s1)):
  ∃s1' s2',dh call base x st=some s1'∧dh call base y s1'=some s2'∧fu s2 s2'∧entry call base x st=entry call base x s1∧entry call base y s1'=entry call base y st:=by
 obtain⟨hap,r1,r2,r3,r4⟩:=hR
 obtain⟨a1,a2,a3⟩:=Rt hap
 obtain⟨vy,y1,y2,y3,y4,y5⟩:=q8 hy
 obtain⟨vx,x1,x2,x3,x4,x5⟩:=q8 hx
 obtain⟨s1',p1,p2,p3,p4⟩:=x5 st (fun s hs=>by
   rw[y1 s,if_neg fun hd=>a1 s hd hs]) (fun j hj=>by
   rw[y4 j]
   rintro(hw|⟨hc,hl⟩)
   ·exact r1 j hw hj
   ·have:=(r3 hc).2 j hj;omega) (fun hc=>by
   rw[y3 fun hc2=>(r3 hc2).1 hc])
 obtain⟨vx',q1,q2,q3,q4,_⟩:=q8 p1
 obtain⟨s2',z1,z2,z3,z4⟩:=y5 s1' (fun s hs=>by
   rw[p2 s,if_neg fun hd=>a2 s hd hs]) (fun j hj=>by
   rw[q4 j]
   rw[p3]
   rintro(hw|⟨hc,hl⟩)
   ·exact r2 j hw hj
   ·have:=r4 hc j hj;omega) (fun hc=>by
   rw[q3 (r3 hc).1])
 obtain⟨vy',b1,b2,b3,b4,_⟩:=q8 z1
 refine⟨s1',s2',p1,z1,⟨fun s=>?_,?_⟩,p3.symm▸rfl,z3⟩
 ·rw[x1 s,z2 s,p2 s,y1 s]
  by_cases h1:x.dst=some s
  ·rw[if_pos h1,if_neg fun h2=>a3 s h2 h1,if_pos h1]
  ·rw[if_neg h1,if_neg h1]
 ·apply List.ext_getElem?
  intro j
  by_cases hmx:gA x.op (entry call base x s1).2 s1.o.length j
  ·
   have hny:¬gA y.op (entry call base y s1').2 s1'.o.length j:=by
    rw[z3]
    rintro(hw|⟨hc,hl⟩)
    ·rcases hmx with hw2|⟨hc2,hl2⟩
     ·exact r1 j hw (Br hw2)
     ·have:=r4 hc2 j (Br hw);omega
    ·have hx3:=(r3 hc).1
     rcases hmx with hw2|⟨hc2,_⟩
     ·have:=(r3 hc).2 j (Br hw2)
      omega
     ·exact hx3 hc2
   rw[b4 j hny,p4 j hmx]
  ·by_cases yh:gA y.op (entry call base y st).2 st.o.length j
   ·rw[x4 j hmx,z4 j yh]
   ·
    rw[x4 j hmx,y4 j yh]
    have hny:¬gA y.op (entry call base y s1').2 s1'.o.length j:=by
     rw[z3]
     rintro(hw|⟨hc,hl⟩)
     ·exact yh (.inl hw)
     ·exact yh (.inr ⟨hc,by omega⟩)
    have hnx:¬gA x.op (entry call base x st).2 st.o.length j:=by
     rw[p3]
     rintro(hw|⟨hc,hl⟩)
     ·exact hmx (.inl hw)
     ·have:s1.o.length=st.o.length:=y3 fun hc2=>(r3 hc2).1 hc
      exact hmx (.inr ⟨hc,by omega⟩)
    rw[b4 j hny,q4 j hnx]
noncomputable def ents (call:bB) (base:Nat):List bA→St→List (List Nat×List Nat)
 |[],_=>[]
 |i::r,st=>entry call base i st::match dh call base i st with
  |some st'=>ents call base r st'
  |none=>[]
theorem fu.runs {l:List bA}:∀{a b a':St},fu a b→dF call base l a=some a'→∃b',dF call base l b=some b'∧fu a' b'∧ents call base l b=ents call base l a:=by
 induction l with
 |nil=>intro a b a' h hr;simp only[dF,Option.some.injEq] at hr;subst hr;exact⟨b,rfl,h,rfl⟩
 |cons i l ih=>
  intro a b a' h hr
  simp only[dF] at hr
  split at hr
  ·rename_i a1 h1
   obtain⟨b1,k1,k2,k3⟩:=h.run h1
   obtain⟨b',m1,m2,m3⟩:=ih k2 hr
   refine⟨b',by simp only[dF,k1,m1],m2,?_⟩
   simp only[ents,k1,h1,k3,m3]
  ·cases hr
theorem front {n0:Nat} {x:bA} {post:List bA}:∀(pre:List bA) {st s:St},dF call base (pre++x::post) st=some s→n0≤st.o.length→
  (∀(k:Nat) (y:bA) (ty tx:List Nat×List Nat),pre[k]?=some y→(ents call base (pre++x::post) st)[k]?=some ty→(ents call base (pre++x::post) st)[pre.length]?=some tx→s7 n0 y ty x tx)→
  ∃s1 s',dh call base x st=some s1∧dF call base (pre++post) s1=some s'∧fu s s'∧(ents call base (pre++x::post) st)[pre.length]?=some (entry call base x st)∧
   ents call base (pre++post) s1=(ents call base (pre++x::post) st).eraseIdx pre.length
 |[],st,s,hr,_,_=>by
  simp only[List.nil_append,dF] at hr ⊢
  split at hr
  ·rename_i s1 h1
   exact⟨s1,s,h1,hr,fu.refl s,by simp[ents],by simp[ents,h1]⟩
  ·cases hr
 |y::pre,st,s,hr,hn,hR=>by
  simp only[List.cons_append,dF] at hr
  split at hr
  ·rename_i sy hy
   have q9:ents call base (y::(pre++x::post)) st=entry call base y st::ents call base (pre++x::post) sy:=by simp[ents,hy]
   obtain⟨_,_,xN,_⟩:=q8 hy
   obtain⟨s1,s',i1,i2,i3,i4,i5⟩:=front pre hr (Nat.le_trans hn xN) fun k z tz tx hk h1 h2=>hR (k+1) z tz tx (by simpa using hk) (by simp only[List.cons_append,q9];simpa using h1) (by simp only[List.cons_append,q9];simpa using h2)
   have hrel:s7 n0 y (entry call base y st) x (entry call base x sy):=hR 0 y _ _ (by simp) (by simp[q9]) (by simp only[List.cons_append,q9];simpa using i4)
   obtain⟨t1,t2,j1,j2,j3,j4,j5⟩:=swap hy i1 hn hrel
   obtain⟨s'',k1,k2,k3⟩:=j3.runs i2
   refine⟨t1,s'',j1,?_,i3.trans k2,?_,?_⟩
   ·simp only[List.cons_append,dF,j2];exact k1
   ·simp only[List.cons_append,q9,List.length_cons,List.getElem?_cons_succ];rw[i4,j4]
   ·simp only[List.cons_append,q9,List.length_cons,List.eraseIdx_cons_succ,ents,j2,j5,k3,i5]
  ·cases hr
end
end Go.Vi
