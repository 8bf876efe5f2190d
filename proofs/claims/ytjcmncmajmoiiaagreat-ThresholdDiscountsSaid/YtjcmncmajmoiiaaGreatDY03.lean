/-
  The abstract interpreter: every operation that is no call does what the model's does.
  Conditions: none.
-/
import Derived.Test.YtjcmncmajmoiiaaGreatDY02
import Derived.OrdersIn
import Derived.AtR
set_option maxRecDepth 100000
set_option maxHeartbeats 4000000
set_option linter.all false
open Array renaming ext'->εf,getD_eq_getD_getElem?->εi
open Bool renaming and_eq_true->ζ,false_eq_true->χ,or_eq_true->δo,not_eq_true'->δf
open Decidable renaming not_not->ζM
open Function renaming comp_def->δn
open Go.Vi.AV renaming ren->δE
open List renaming getElem?_eq_getElem->ξ,mem_of_getElem?->γA,getElem?_of_mem->γM,getElem?_take->δb,getElem?_take_of_lt->εD,replicate->ε,getElem?_eq_some_iff->θ,getElem?_append_left->γ9,getElem?_append_right->εs,mem_of_mem_take->γm,mapM_cons->εS,mem_flatMap->γ4,getElem?_drop->δF,mem_of_mem_drop->γK,mem_cons->γq,mem_append->Γ,range->τ,getElem?_cons_succ->γP,nodup_cons->γC,getElem?_inj->ζi
open Nat renaming lt_or_ge->δ8,le_refl->φ,eq_zero_or_pos->ε9,lt_of_lt_of_le->γu,sub_zero->εU
open Option renaming map_eq_some_iff->δ,map_some->μ,map_map->εg
open Option.some renaming injEq->γ
open Prod.mk renaming injEq->κ
namespace Go.Vi
def cB.oO:cB->Bool
 | .call .. | .jE .. | .oH .. =>true
 |_=>false
section
variable {P:Program} {A:dK} {w w':World} {σ σ':bY} {o o':Store} {bN:Operand->AV} {bR:Operand->Value} {oper:Oper} {v:AV}
theorem jX {b:Type} {x:Option b} {f:b->AV×Store} {p:AV×Store} (h:x.map f=some p):∃a,x=some a/\f a=p:=by
 simp_all
theorem XA {call:cV} {fl:Bool} {dp:cB} {bB:Nat} (hc:pK P fl oper=some dp) (hnc:dp.oO=false) (hS:bU A w σ o) (hρ:∀x,bw A w σ o (bN x) (bR x))
  (he:qw call dp bN o bB=some (v,o')):Gives A P bR oper w σ o v o':=by
 rw[za] at he;unfold pK at hc;split at hc;·
  rename_i x hop;injection hc with hc;subst hc;simp only[bJ,γ,κ] at he;obtain⟨rfl,rfl⟩:=he;exact Nq hS hρ (.inl hop)
 ·rename_i x hop;injection hc with hc;subst hc;simp only[bJ,γ,κ] at he;obtain⟨rfl,rfl⟩:=he;exact Nq hS hρ (.inr hop)
 ·rename_i c a b hop;injection hc with hc;subst hc;simp only[bJ] at he;split at he
  ·rename_i hcc;simp only[γ,κ] at he;obtain⟨rfl,rfl⟩:=he;exact Nr (t:=true) hS hρ hop hcc
  ·rename_i hcc;simp only[γ,κ] at he;obtain⟨rfl,rfl⟩:=he;exact Nr (t:=false) hS hρ hop hcc
  ·cases he
 ·rename_i e hop;obtain⟨z,hz,rfl⟩:=δ.1 hc;simp only[bJ] at he;obtain⟨o2,hm,h2⟩:=jX he;obtain⟨hd,rfl⟩:=wU hm;simp only[κ] at h2;obtain⟨rfl,rfl⟩:=h2;exact WU hS hop hz hd
 ·rename_i e x hop;injection hc with hc;subst hc;simp only[bJ] at he;split at he
  ·rename_i h1;obtain⟨o2,hm,h2⟩:=jX he;obtain⟨hd,rfl⟩:=wU hm;simp only[κ] at h2;obtain⟨rfl,rfl⟩:=h2;exact WV hS hρ hop h1 hd
  ·cases he
 ·
  rename_i t parts hop;split at hc
  ·rename_i z fields hz ht;split at hc
   ·rename_i places hpl;obtain⟨ps,hps,rfl⟩:=δ.1 hc;simp only[bJ] at he;obtain⟨cs,hf,h2⟩:=jX he;simp only[κ] at h2;obtain⟨rfl,rfl⟩:=h2;obtain⟨hl,hg⟩:=FZ hps;refine Nx (place:=λi=>places[i]?) hS hρ hop hz (λzv hzv l=>?_) hl.symm (λi p q hp hq=>?_) hf;·cases hi:P.info? t with
     |none=>simp[hi] at hzv;|some i=>
      simp[hi] at hzv;unfold M7 at hpl;simp[Program.built,hi,ht,hzv,hpl]
    ·have:=hg i p q hp hq;simp only[M8,δ] at this;obtain⟨r,h1,rfl⟩:=this;exact⟨h1,rfl⟩
   ·cases hc
  ·rename_i z k e hz ht;obtain⟨n,hn,rfl⟩:=δ.1 hc;simp only[bJ] at he;obtain⟨cs,hf,h2⟩:=jX he;simp only[κ] at h2;obtain⟨rfl,rfl⟩:=h2;refine Nx (place:=λi=>some (i*n,n)) hS hρ hop hz (λzv hzv l=>?_) (by simp) (λi p q hp hq=>?_) hf;·cases hi:P.info? t with
    |none=>simp[hi] at hzv;|some i=>
     simp[hi] at hzv;cases hie:P.info? e with
     |none=>simp[sizeT,hie] at hn;|some ie=>
      simp[sizeT,hie] at hn;simp[Program.built,hi,ht,hzv,hie,hn]
   ·rw[List.getElem?_map,hp] at hq;simp at hq;subst hq;exact⟨rfl,rfl⟩
  ·cases hc
 ·
  rename_i t len parts hop;split at hc
  ·rename_i e ht;split at hc
   ·rename_i z hz;split at hc
    ·rename_i hcond;injection hc with hc;subst hc;split at he
     ·simp only[bJ] at he;split at he
      ·rename_i cs hf;split at he
       ·rename_i hp;simp only[γ,κ] at he;obtain⟨rfl,rfl⟩:=he;exact Xl hS hρ hop ht hz hcond.2 hcond.1 hf hp
       ·cases he
      ·cases he
     ·simp only[bJ] at he;split at he
      ·rename_i cs hf;obtain⟨o2,hm,h2⟩:=jX he;obtain⟨hd,rfl⟩:=wU hm;simp only[κ] at h2;obtain⟨rfl,rfl⟩:=h2;exact Xk hS hρ hop ht hz hcond.2 hcond.1 hf hd
      ·cases he
    ·cases hc
   ·cases hc
  ·cases hc
 ·
  rename_i t a hop;obtain⟨n,hn,rfl⟩:=δ.1 hc;simp only[bJ] at he;split at he
  ·rename_i cs off hb;obtain⟨a',hp,h2⟩:=jX he;simp only[κ] at h2;obtain⟨rfl,rfl⟩:=h2;exact WQ hS hρ hop hn hb hp
  ·cases he
 ·
  rename_i t a x hop;obtain⟨n,hn,rfl⟩:=δ.1 hc;simp only[bJ] at he;split at he
  ·rename_i id off tot ha;split at he
   ·rename_i cs e sz pu ho;split at he
    ·rename_i hcond;simp only[γ,κ] at he;obtain⟨rfl,rfl⟩:=he;obtain⟨c1,c2,c3,c4,c5⟩:=hcond;exact WS hS hρ hop hn ha ho c1 c2 c3 c4 c5
    ·cases he
   ·cases he
  ·cases he
 ·
  rename_i x hop;injection hc with hc;subst hc;simp only[bJ] at he;have hx:=hρ x;split at he
  ·rename_i a b c hxa;simp only[γ,κ] at he;obtain⟨rfl,rfl⟩:=he;rw[hxa] at hx;simp only[bw] at hx;obtain⟨_,⟨p,hp⟩,_⟩:=hx;rw[<-hxa];exact Ns hS hρ hop hp
  ·rename_i a b hxa;simp only[γ,κ] at he;obtain⟨rfl,rfl⟩:=he;rw[hxa] at hx;simp only[bw] at hx;obtain⟨p,hp,_⟩:=hx;rw[<-hxa];exact Ns hS hρ hop hp
  ·cases he
 ·
  rename_i op t x y t' hop;have F6:∀(h:dp= .bin op x y),Gives A P bR oper w σ o v o':=by
   intro h;subst h;simp only[bJ] at he;split at he
   ·rename_i a b ha hb;obtain⟨r,hr,h2⟩:=jX he;simp only[κ] at h2;obtain⟨rfl,rfl⟩:=h2;exact WY hS hρ hop ha hb hr
   ·cases he
  have heq:∀(neg:Bool),(op= .eql/\neg=false)\/(op= .neq/\neg=true)->
    (match P.underlying t with
     |some (.struct _)|some (.array _ _)=>if 20<=P.depth then(gp P 20 t).map λks=>cB.sj neg ks x y else none
     |some .bool=>some (.beq neg x y)
     |some (.int _)|some .string=>some (.bin op x y)
     |_=>none)=some dp->Gives A P bR oper w σ o v o':=by
   intro neg hn hc;have hagg:fy P t=some true->(if 20<=P.depth then(gp P 20 t).map λks=>cB.sj neg ks x y else none)=some dp->Gives A P bR oper w σ o v o':=by
    intro hag hc;split at hc
    ·rename_i hD;obtain⟨ks,hk,rfl⟩:=δ.1 hc;simp only[bJ] at he;split at he
     ·rename_i a b ha hb;obtain⟨r,hr,h2⟩:=jX he;simp only[κ] at h2;obtain⟨rfl,rfl⟩:=h2;exact Xr hS hρ hop hn hag hk hD ha hb hr
     ·cases he
    ·cases hc
   split at hc;·rename_i hu;exact hagg (by simp[fy,hu]) hc
   ·rename_i hu;exact hagg (by simp[fy,hu]) hc
   ·rename_i hu;injection hc with hc;subst hc;simp only[bJ] at he;split at he
    ·rename_i a b ha hb;simp only[γ,κ] at he;obtain⟨rfl,rfl⟩:=he;exact WZ hS hρ hop hn hu ha hb
    ·cases he
   ·injection hc with hc;exact F6 hc.symm
   ·injection hc with hc;exact F6 hc.symm
   ·cases hc
  split at hc;·exact heq false (.inl ⟨rfl,rfl⟩) hc
  ·exact heq true (.inr ⟨rfl,rfl⟩) hc
  ·injection hc with hc;exact F6 hc.symm
 ·
  rename_i op t x hop;injection hc with hc;subst hc;simp only[bJ] at he;obtain⟨r,hr,h2⟩:=jX he;simp only[κ] at h2;obtain⟨rfl,rfl⟩:=h2;exact W0 hS hρ hop hr
 ·
  rename_i s d x hop;split at hc
  ·rename_i ds k hs hd;injection hc with hc;subst hc;simp only[bJ] at he;split at he
   ·rename_i k' n hx;simp only[γ,κ] at he;obtain⟨rfl,rfl⟩:=he;exact W1 hS hρ hop hs hd hx
   ·cases he
  ·cases hc
 ·
  rename_i s x f hop;split at hc
  ·rename_i fs hs;split at hc
   ·rename_i g hg;split at hc
    ·rename_i n hn;split at hc;·cases hc
     ·rename_i hn0;injection hc with hc;subst hc;simp only[bJ] at he;obtain⟨r,hr,h2⟩:=jX he;simp only[κ] at h2;obtain⟨rfl,rfl⟩:=h2;exact W3 hS hρ hop hs hg hn hn0 hr
    ·cases hc
   ·cases hc
  ·cases hc
 ·
  rename_i t x f hop;split at hc
  ·rename_i fs hs;split at hc
   ·rename_i g hg;obtain⟨n,hn,rfl⟩:=δ.1 hc;simp only[bJ] at he;split at he
    ·rename_i cs hx;obtain⟨r,hr,h2⟩:=jX he;simp only[κ] at h2;obtain⟨rfl,rfl⟩:=h2;exact W4 hS hρ hop hs hg hn hx hr
    ·cases he
   ·cases hc
  ·cases hc
 ·
  rename_i t x i hop;split at hc
  ·rename_i len e ht;obtain⟨n,hn,rfl⟩:=δ.1 hc;simp only[bJ] at he;split at he
   ·rename_i k hi;split at he
    ·rename_i hcond;obtain⟨r,hr,h2⟩:=jX he;simp only[κ] at h2;obtain⟨rfl,rfl⟩:=h2;exact W5 hS hρ hop ht hn hi hcond.1 hcond.2 hr
    ·cases he
   ·cases he
  ·rename_i e ht;split at hc
   ·rename_i n hn;split at hc;·cases hc
    ·rename_i hn0;injection hc with hc;subst hc;simp only[bJ] at he;split at he
     ·rename_i k hi;obtain⟨r,hr,h2⟩:=jX he;simp only[κ] at h2;obtain⟨rfl,rfl⟩:=h2;exact W6 hS hρ hop ht hn hn0 hi hr
     ·cases he
   ·cases hc
  ·cases hc
 ·
  rename_i t x i hop;split at hc
  ·rename_i len e ht;split at hc
   ·rename_i s n hs hn;injection hc with hc;subst hc;simp only[bJ] at he;split at he
    ·rename_i k cs hi hx;split at he
     ·rename_i hcond;obtain⟨r,hr,h2⟩:=jX he;simp only[κ] at h2;obtain⟨rfl,rfl⟩:=h2;exact W7 hS hρ hop ht hs hn hi hcond.1 hcond.2 hx hr
     ·cases he
    ·cases he
   ·cases hc
  ·rename_i ht;injection hc with hc;subst hc;simp only[bJ] at he;split at he
   ·rename_i k s hi hx;split at he
    ·rename_i hcond;obtain⟨r,hr,h2⟩:=jX he;simp only[κ] at h2;obtain⟨rfl,rfl⟩:=h2;exact W8 hS hρ hop ht hi hcond hx hr
    ·cases he
   ·cases he
  ·cases hc
 ·
  rename_i t l c hop;split at hc
  ·rename_i e ht;split at hc
   ·rename_i z b hz hb;split at hc
    ·rename_i hpos;injection hc with hc;subst hc;simp only[bJ] at he;split at he
     ·rename_i n m hl hm;split at he
      ·rename_i hcond;obtain⟨c1,c2,c3,c4⟩:=hcond;obtain⟨o2,hmk,h2⟩:=jX he;obtain⟨hd,rfl⟩:=wU hmk;simp only[κ] at h2;obtain⟨rfl,rfl⟩:=h2;exact Xn hS hρ hop ht hz hb hl hm c1 c2 c3 c4 hd
      ·cases he
     ·cases he
    ·cases hc
   ·cases hc
  ·cases hc
 ·
  rename_i t x lo hi hop;split at hc
  ·rename_i e ht;split at hc
   ·rename_i n hn;split at hc;·cases hc
    ·rename_i hn0;injection hc with hc;subst hc;simp only[bJ] at he;obtain⟨r,hr,h2⟩:=jX he;simp only[κ] at h2;obtain⟨rfl,rfl⟩:=h2;exact Xf hS hρ hop ht hn hn0 hr
   ·cases hc
  ·rename_i ht;injection hc with hc;subst hc;simp only[bJ] at he;split at he
   ·rename_i s hx;split at he
    ·rename_i l k hl hk;split at he
     ·rename_i hcond;simp only[γ,κ] at he;obtain⟨rfl,rfl⟩:=he;exact Xi hS hρ hop ht hx hl hk hcond.1 hcond.2
     ·cases he
    ·cases he
   ·cases he
  ·cases hc
 ·
  rename_i t x lo hi mx hop;split at hc
  ·rename_i e ht;split at hc
   ·rename_i n hn;split at hc;·cases hc
    ·rename_i hn0;injection hc with hc;subst hc;simp only[bJ] at he;obtain⟨r,hr,h2⟩:=jX he;simp only[κ] at h2;obtain⟨rfl,rfl⟩:=h2;exact Xh hS hρ hop ht hn hn0 hr
   ·cases hc
  ·cases hc
 ·
  rename_i c hop;split at hc
  ·split at hc;·injection hc with hc;subst hc;simp[cB.oO] at hnc
   ·cases hc
  ·injection hc with hc;subst hc;simp[cB.oO] at hnc
  ·split at hc;·cases hc
   ·injection hc with hc;subst hc;simp[cB.oO] at hnc
  ·rename_i kx;split at hc
   ·rename_i s x t t' ha hty;split at hc
    ·rename_i XB;subst XB;split at hc
     ·rename_i e ht;split at hc
      ·rename_i z b hz hb;split at hc
       ·rename_i hpos;injection hc with hc;subst hc;simp only[bJ] at he;exact Xq hS hρ hop kx (εf ha) (εf hty) ht hz hb rfl hpos he
       ·cases hc
      ·cases hc
     ·cases hc
    ·cases hc
   ·cases hc
  ·rename_i kx;split at hc
   ·rename_i x t ha hty;have ha':c.args=#[x]:=εf ha;have hty':c.argTypes=#[t]:=εf hty;have hlen:∀k,(k=0/\∃e,P.underlying t=some (.slice e))\/(k=1/\P.underlying t=some .string)\/(k=2/\∃a b,P.underlying t=some (.map a b))->dp= .len k x->Gives A P bR oper w σ o v o':=by
     intro k ht hh;subst hh;simp only[bJ] at he;obtain⟨n,hn,h2⟩:=jX he;simp only[κ] at h2;obtain⟨rfl,rfl⟩:=h2;exact Xa hS hρ hop kx ha' hty' ht hn
    split at hc;·rename_i e ht;injection hc with hc;exact hlen 0 (.inl ⟨rfl,e,ht⟩) hc.symm
    ·rename_i ht;injection hc with hc;exact hlen 1 (.inr (.inl ⟨rfl,ht⟩)) hc.symm
    ·rename_i k e ht;injection hc with hc;exact hlen 2 (.inr (.inr ⟨rfl,k,e,ht⟩)) hc.symm
    ·rename_i n e ht;injection hc with hc;subst hc;simp only[bJ,γ,κ] at he;obtain⟨rfl,rfl⟩:=he;exact Xb hS hop kx ha' hty' ht
    ·cases hc
   ·cases hc
  ·rename_i kx;split at hc
   ·rename_i x y ha;injection hc with hc;subst hc;simp only[bJ] at he;split at he
    ·rename_i k a k' b hx hy;split at he
     ·rename_i hkk;subst hkk;simp only[γ,κ] at he;obtain⟨rfl,rfl⟩:=he;exact Nv (mx:=false) hS hρ hop kx (εf ha) hx hy
     ·cases he
    ·cases he
   ·cases hc
  ·rename_i kx;split at hc
   ·rename_i x y ha;injection hc with hc;subst hc;simp only[bJ] at he;split at he
    ·rename_i k a k' b hx hy;split at he
     ·rename_i hkk;subst hkk;simp only[γ,κ] at he;obtain⟨rfl,rfl⟩:=he;exact Nv (mx:=true) hS hρ hop kx (εf ha) hx hy
     ·cases he
    ·cases he
   ·cases hc
  ·cases hc
 ·
  rename_i x i hop;injection hc with hc;subst hc;simp only[bJ] at he;split at he
  ·rename_i vs hx;obtain⟨r,hr,h2⟩:=jX he;simp only[κ] at h2;obtain⟨rfl,rfl⟩:=h2;exact Xc hS hρ hop hx hr
  ·cases he
 ·rename_i f a b hop;split at hc
  ·injection hc with hc;subst hc;simp only[bJ,γ,κ] at he;obtain⟨rfl,rfl⟩:=he;exact Xe hS hρ (λ_=>rfl) hop
  ·cases hc
 ·rename_i t x hop;split at hc
  ·rename_i fs ht;injection hc with hc;subst hc;simp only[bJ] at he;split at he
   ·rename_i cs hx;split at he
    ·rename_i hp;simp only[γ,κ] at he;obtain⟨rfl,rfl⟩:=he;exact Xd hS hρ ht hop hx hp
    ·cases he
   ·cases he
  ·cases hc
 ·rename_i t hop;split at hc
  ·split at hc
   ·injection hc with hc;subst hc;simp only[bJ] at he;obtain⟨o2,hmk,h2⟩:=jX he;obtain⟨hd,rfl⟩:=wU hmk;simp only[κ] at h2;obtain⟨rfl,rfl⟩:=h2;exact Xx hS hop hd
   ·cases hc
  ·cases hc
 ·
  rename_i t x k ok hop;split at hc
  ·rename_i kt et ht;split at hc
   ·rename_i ks ka z g hk hag hz hg;split at hc
    ·rename_i F7;injection hc with hc;subst hc;simp only[bJ] at he;split at he
     ·rename_i id kv hx hkv;split at he
      ·rename_i es NL pu ho;split at he
       ·rename_i hkt;subst hkt;split at he
        ·rename_i i a q hf;simp only[γ,κ] at he;obtain⟨rfl,rfl⟩:=he;obtain⟨zv,hzv⟩:=Xy hz F7;obtain⟨u,hu1,hu2⟩:=NJ (w:=w) (σ:=σ) (o:=o) hz F7 hzv;have:=NK (ok:=ok) hS hρ hop ht hk hag ⟨zv,u,hzv,hu1,hu2⟩ hx hkv ho hf hzv;simpa using this
        ·rename_i zv hf hzv;simp only[γ,κ] at he;obtain⟨rfl,rfl⟩:=he;obtain⟨u,hu1,hu2⟩:=NJ (w:=w) (σ:=σ) (o:=o) hz F7 hzv;have:=NK (ok:=ok) hS hρ hop ht hk hag ⟨zv,u,hzv,hu1,hu2⟩ hx hkv ho hf hzv;simpa using this
        ·cases he
       ·cases he
      ·cases he
     ·cases he
    ·cases hc
   ·cases hc
  ·cases hc
 ·rename_i t m k v' hop;split at hc
  ·rename_i kt et ht;split at hc
   ·rename_i ks ka hk hag;injection hc with hc;subst hc;simp only[bJ] at he;split at he
    ·rename_i id kv hx hkv;split at he
     ·rename_i es NL pu ho;split at he;·cases he
      ·rename_i hcond;simp only[not_or,ζM] at hcond;obtain⟨mH,hkt⟩:=hcond;subst hkt;have zi:pu=true->(bN v').pure=true:=λhp=>by
        cases hq:(bN v').pure with
        |true=>rfl;|false=>exact absurd ⟨hp,hq⟩ mH
       split at he
       ·rename_i i a hf;simp only[γ,κ] at he;obtain⟨rfl,rfl⟩:=he;exact BZ hS hρ (.inl hop) ht hk hag hx hkv ho zi hf
       ·rename_i hf;simp only[γ,κ] at he;obtain⟨rfl,rfl⟩:=he;exact BZ hS hρ (.inl hop) ht hk hag hx hkv ho zi hf
       ·cases he
     ·cases he
    ·cases he
   ·cases hc
  ·cases hc
 ·rename_i t m k v' hop;split at hc
  ·rename_i kt et ht;split at hc
   ·rename_i ks ka hk hag;injection hc with hc;subst hc;simp only[bJ] at he;split at he
    ·rename_i id kv hx hkv;split at he
     ·rename_i es NL pu ho;split at he;·cases he
      ·rename_i hcond;simp only[not_or,ζM] at hcond;obtain⟨mH,hkt⟩:=hcond;subst hkt;have zi:pu=true->(bN v').pure=true:=λhp=>by
        cases hq:(bN v').pure with
        |true=>rfl;|false=>exact absurd ⟨hp,hq⟩ mH
       split at he
       ·rename_i i a hf;simp only[γ,κ] at he;obtain⟨rfl,rfl⟩:=he;exact BZ hS hρ (.inr hop) ht hk hag hx hkv ho zi hf
       ·rename_i hf;simp only[γ,κ] at he;obtain⟨rfl,rfl⟩:=he;exact BZ hS hρ (.inr hop) ht hk hag hx hkv ho zi hf
       ·cases he
     ·cases he
    ·cases he
   ·cases hc
  ·cases hc
 ·cases hc
end
section
variable {A A':dK} {w w':World} {σ σ':bY} {o o':Store}
def Tr (o:Store) (σ:bY) (o':Store) (c:bY) (id a:Nat):Prop:=
 (∀f e g h,o[id]?=some (.cells f e g h)->∃b i d,o'[a]?=some (.cells b i g d)/\b.length=f.length)/\(IsMap o id->IsMap o' a)/\c[a]?=σ[id]?
theorem Tr.w9 {id b a:Nat} (h:Tr o σ o' σ' id b) (k:tB o id a):tB o' b a:=by
 obtain⟨j,e,f,l,g,n⟩:=k;obtain⟨d,i,c,m,p⟩:=h.1 j e f l g;exact⟨d,i,f,c,m,by omega⟩
theorem Tr.cur {id g f sz:Nat} (h:Tr o σ o' σ' id g) (k:tB o id f) (p:vd o' g sz f):vd o id sz f:=by
 obtain⟨m,e,j,l,n,w⟩:=k;obtain⟨r,y,s,u,x⟩:=h.1 m e j l n;obtain⟨t,v,q,i,z⟩:=p;rw[u] at i;injection i with i;injection i with a b c d;subst a c;exact⟨m,e,l,n,by omega⟩
mutual
theorem AV.vh (m:Nat->Option Nat):∀(c:AV),c.pure=true->c.ren m=some c
 | .sc _,_=>rfl
 | .sl _ _,_=>rfl
 | .ud,h| .agg _,h| .bH _,h| .ep _ _,h| .ptr _ _ _,h| .os _ _ _ _,h| .mp _,h| .fn _ _ _,h| .iV _ _,h=>by simp[AV.pure] at h
end
theorem NM (m:Nat->Option Nat):∀(cs:List AV),dx cs=true->iG m cs=some cs
 |[],_=>rfl
 |c::cs,h=>by
  simp only[dx,ζ] at h;simp only[iG,AV.vh m c h.1,NM m cs h.2]
mutual
theorem bw.ren [nU A A'] (hA:∀b,b<w.heap.size->Fr A σ b->Fr A' σ' b) {m:Nat->Option Nat} (hm:∀id id',m id=some id'->Tr o σ o' σ' id id'):
  ∀(c:AV) (v:Value) (c':AV),c.ren m=some c'->bw A w σ o c v->bw A' w σ' o' c' v
 | .ud,v,c',hc,_=>by simp only[δE,γ] at hc;subst hc;simp[bw];| .sc u,v,c',hc,h=>by simp only[δE,γ] at hc;subst hc;simpa[bw] using h;| .sl n cs,v,c',hc,h=>by
  simp only[δE,γ] at hc;subst hc;simp only[bw] at h ⊢;obtain⟨a,cap,rfl,hn,hp,hr⟩:=h;exact⟨a,cap,rfl,hn,hp,dB.ren hA hm cs a 0 hp hr⟩;| .ep cs off,v,c',hc,h=>by
  simp only[δE,γ] at hc;subst hc;simp only[bw] at h ⊢;obtain⟨a,rfl,hp,hr⟩:=h;exact⟨a,rfl,hp,dB.ren hA hm cs _ 0 hp hr⟩;| .agg cs,v,c',hc,h=>by
  simp only[δE,δ] at hc;obtain⟨cs',h1,rfl⟩:=hc;simp only[bw] at h ⊢;obtain⟨vs,rfl,hl⟩:=h;exact⟨vs,rfl,bD.ren hA hm cs _ cs' h1 hl⟩;| .bH cs,v,c',hc,h=>by
  simp only[δE,δ] at hc;obtain⟨cs',h1,rfl⟩:=hc;simp only[bw] at h ⊢;obtain⟨vs,rfl,hl⟩:=h;exact⟨vs,rfl,bD.ren hA hm cs _ cs' h1 hl⟩;| .ptr id off tot,v,c',hc,h=>by
  simp only[δE,δ] at hc;obtain⟨id',h1,rfl⟩:=hc;have ht:=hm id id' h1;simp only[bw] at h ⊢;refine⟨ht.w9 h.1,h.2.1,λsz F8=>?_⟩;rw[ht.2.2];exact h.2.2 sz (ht.cur h.1 F8);| .os id off len tot,v,c',hc,h=>by
  simp only[δE,δ] at hc;obtain⟨id',h1,rfl⟩:=hc;have ht:=hm id id' h1;simp only[bw] at h ⊢;obtain⟨h0,a,cap,hv,hl,hk⟩:=h;refine⟨ht.w9 h0,a,cap,hv,hl,λsz F8=>?_⟩;have:=hk sz (ht.cur h0 F8);unfold ku at this ⊢;rw[ht.2.2];exact this;| .mp id,v,c',hc,h=>by
  simp only[δE,δ] at hc;obtain⟨id',h1,rfl⟩:=hc;have ht:=hm id id' h1;simp only[bw] at h ⊢;rw[ht.2.2];exact⟨ht.2.1 h.1,h.2⟩;| .fn f a b,v,c',hc,h=>by
  simp only[δE] at hc;split at hc
  ·rename_i a' b' h1 h2;injection hc with hc;subst hc;simp only[bw] at h ⊢;obtain⟨x,y,rfl,hx,hy⟩:=h;exact⟨x,y,by rw[nU.eq (A:=A) (A':=A')],bD.ren hA hm a _ a' h1 hx,bD.ren hA hm b _ b' h2 hy⟩
  ·cases hc;| .iV t cs,v,c',hc,h=>by
  simp only[δE,γ] at hc;subst hc;simp only[bw] at h ⊢;obtain⟨vs,rfl,hp,hl⟩:=h;exact⟨vs,rfl,hp,bD.ren hA hm cs _ cs (NM m cs hp) hl⟩
theorem bD.ren [nU A A'] (hA:∀b,b<w.heap.size->Fr A σ b->Fr A' σ' b) {m:Nat->Option Nat} (hm:∀id id',m id=some id'->Tr o σ o' σ' id id'):
  ∀(cs:List AV) (vs:List Value) (cs':List AV),iG m cs=some cs'->bD A w σ o cs vs->bD A' w σ' o' cs' vs
 |[],vs,cs',hc,h=>by simp only[iG,γ] at hc;subst hc;simpa[bD] using h;|c::cs,vs,cs',hc,h=>by
  simp only[iG] at hc;split at hc
  ·rename_i c1 cs1 h1 h2;injection hc with hc;subst hc;simp only[bD] at h ⊢;obtain⟨v,r,rfl,hv,hl⟩:=h;exact⟨v,r,rfl,bw.ren hA hm c v c1 h1 hv,bD.ren hA hm cs r cs1 h2 hl⟩
  ·cases hc
theorem dB.ren [nU A A'] (hA:∀b,b<w.heap.size->Fr A σ b->Fr A' σ' b) {m:Nat->Option Nat} (hm:∀id id',m id=some id'->Tr o σ o' σ' id id'):
  ∀(cs:List AV) (a:Option Addr) (j:Nat),dx cs=true->dB A w σ o cs a j->dB A' w σ' o' cs a j
 |[],_,_,_,_=>by simp[dB];|c::cs,a,j,hp,h=>by
  simp only[dx,ζ] at hp;simp only[dB] at h ⊢;obtain⟨⟨b,v,rfl,hf,hc,hr⟩,hl⟩:=h;have hlt:b.block<w.heap.size:=by have:=Nb hc;rwa [add_block] at this
  exact⟨⟨b,v,rfl,hA _ hlt hf,hc,bw.ren hA hm c v c (AV.vh m c hp.1) hr⟩,dB.ren hA hm cs _ (j+1) hp.2 hl⟩
end
theorem F9 {m:Nat->Option Nat}:∀{cs a:List AV},iG m cs=some a->a.length=cs.length/\∀(j:Nat) (b:AV),a[j]?=some b->∃c,cs[j]?=some c/\c.ren m=some b
 |[],a,h=>by grind[iG];|c::cs,a,h=>by
  simp only[iG] at h;split at h
  ·rename_i k e f d;injection h with h;subst h;obtain⟨i,g⟩:=F9 d;grind
  ·cases h
theorem NN {m:Nat->Option Nat}:∀{es a:List (Value×AV)},oK m es=some a->a.length=es.length/\∀(j:Nat) (b:Value×AV),a[j]?=some b->∃e,es[j]?=some e/\e.1=b.1/\e.2.ren m=some b.2
 |[],a,h=>by grind[oK];|e::es,a,h=>by
  simp only[oK] at h;split at h
  ·rename_i v d f c;injection h with h;subst h;obtain⟨g,i⟩:=NN c;grind
  ·cases h
theorem XC {m:Nat->Option Nat} {c a:AV} (h:c.ren m=some a) (b:c.one=true):a.one=true:=by
 cases c<;>simp only[δE,γ,δ] at h<;>simp only[AV.one,χ] at b<;>grind[δE,AV.one]
mutual
theorem agC {m:Nat->Option Nat}:∀{c a:AV},c.ren m=some a->c.pure=true->a=c
 |c,a,h,b=>by
  grind[AV.vh]
end
theorem dC.ren [nU A A'] (L:∀b,b<w.heap.size->Fr A σ b->Fr A' σ' b) {m:Nat->Option Nat} (J:∀id q,m id=some q->Tr o σ o' σ' id q) {i B:Nat} {x x':bQ} (f:x.ren m=some x') (G:σ'[B]?=σ[i]?)
  (h:dC A w σ o i x):dC A' w σ' o' B x':=by
 cases x with
 |dead=>grind[bQ.ren,dC];|cells u e S H=>
  simp only[dC] at h;obtain⟨t,C,F⟩:=h;have p:∀a,a.length=u.length->(H=true->dx a=true)->eF a=true->(∀(j:Nat) (g:AV) (v:Value),a[j]?=some g->(∀c,u[j]?=some c->bw A w σ o c v->bw A' w σ' o' g v))->dC A' w σ' o' B (.cells a e S H):=by
   intro a k1 O k3 X;simp only[dC];refine⟨O,k3,?_⟩;rcases F with⟨h0,a1⟩|⟨b,D,E,r1,P,R,U,r5,r6⟩;·simp_all
   ·refine .inr ⟨b,D,E,by simp_all,P,R,U,by omega,λj g k=>?_⟩;have s:j<u.length:=by grind
    obtain⟨v,hv,y⟩:=r6 j _ (ξ s);exact⟨v,hv,X j g v k _ (ξ s) y⟩
  simp only[bQ.ren] at f;split at f
  ·rename_i d;injection f with f;subst f;refine p u rfl t C λj g v k c l y=>?_;rw[k] at l;injection l with l;subst l;exact bw.ren L J g v g (AV.vh m g (qC (t d) g (γA k))) y
  ·rename_i d;obtain⟨a,n,rfl⟩:=δ.1 f;obtain⟨I,g2⟩:=F9 n;refine p a I (λz=>absurd z d) (nf.2 λc l=>?_) λj g v k c l y=>?_
   ·obtain⟨j,k⟩:=γM l;grind[XC,nf]
   grind[bw.ren];|map es kt H=>
  simp only[dC] at h;obtain⟨t,C,b,c,N,M,F,K,Q,Y⟩:=h;simp only[bQ.ren] at f;split at f
  ·rename_i d;injection f with f;subst f;simp only[dC];refine⟨t,C,b,c,N,M,by simp_all,K,Q,λj e r=>?_⟩;obtain⟨V,Z,T,W⟩:=Y j e r;exact⟨V,Z,T,bw.ren L J e.2 _ e.2 (AV.vh m e.2 (t d e (γA r))) W⟩
  ·rename_i d;obtain⟨a0,n,rfl⟩:=δ.1 f;obtain⟨I,g2⟩:=NN n;simp only[dC];refine⟨λz=>absurd z d,λe r=>?_,b,c,N,M,by rw[G];exact F,K,by omega,λj e' r=>?_⟩
   ·obtain⟨j,k⟩:=γM r;grind
   grind[bw.ren]
def qD (k:Nat):Nat->Option Nat:=λi=>if i<k then some i else none
mutual
theorem B0 (k:Nat):∀(c:AV),c.bZ k=true->c.ren (qD k)=some c
 | .ud,_| .sc _,_| .sl _ _,_| .ep _ _,_| .iV _ _,_=>rfl
 | .agg cs,h=>by simp only[AV.bZ] at h;simp[δE,xd k cs h];| .bH cs,h=>by simp only[AV.bZ] at h;simp[δE,xd k cs h];| .ptr id _ _,h=>by simp only[AV.bZ,decide_eq_true_eq] at h;simp[δE,qD,h];| .os id _ _ _,h=>by simp only[AV.bZ,decide_eq_true_eq] at h;simp[δE,qD,h];| .mp id,h=>by simp only[AV.bZ,decide_eq_true_eq] at h;simp[δE,qD,h];| .fn f a b,h=>by simp only[AV.bZ,ζ] at h;simp[δE,xd k a h.1,xd k b h.2]
theorem xd (k:Nat):∀(cs:List AV),dZ k cs=true->iG (qD k) cs=some cs
 |[],_=>rfl
 |c::cs,h=>by simp only[dZ,ζ] at h;simp[iG,B0 k c h.1,xd k cs h.2]
end
theorem NP {k:Nat} {cs:List AV}:dZ k cs=true↔∀c∈cs,c.bZ k=true:=by
 induction cs<;>grind[dZ]
theorem NQ (k:Nat) (id a:Nat) (h:qD k id=some a):Tr o σ (o.take k) (σ.take k) id a:=by
 unfold qD at h;split at h
 ·rename_i i;injection h with h;subst h;refine⟨λf e j b g=>⟨f,e,b,by simp_all,rfl⟩,λ⟨d,c,b,g⟩=>⟨d,c,b,by simp_all⟩,by simp_all⟩
 ·cases h
theorem NR (k:Nat) (b:Nat) (h:Fr A σ b):Fr A (σ.take k) b:=by
 refine⟨?_,h.2⟩;rintro⟨i,c,a⟩;rw[δb] at a;split at a;·exact h.1 ⟨i,c,a⟩
 ·cases a
theorem bw.take {k:Nat} {c:AV} {v:Value} (h:bw A w σ o c v) (a:c.bZ k=true):bw A w (σ.take k) (o.take k) c v:=
 bw.ren (λb _ d=>NR k b d) (NQ k) c v c (B0 k c a) h
theorem XD {k:Nat} {x:bQ} (h:x.bZ k=true):x.ren (qD k)=some x:=by
 cases x with
 |dead=>rfl;|cells g e i c=>
  grind[bQ.bZ,bQ.ren,xd];|map a f c=>
  simp only[bQ.bZ,δo] at h;simp only[bQ.ren];split;·rfl
  ·rename_i b;have d:=h.resolve_left b;have:oK (qD k) a=some a:=by
    clear h b;induction a<;>grind[dZ,oK,B0]
   rw[this];rfl
theorem bU.take (e:bU A w σ o) {k:Nat} (n:∀x∈o.take k,x.bZ k=true):bU A w (σ.take k) (o.take k):=by
 have a:∀(i:Nat) (s:Option (Nat×Nat)),(σ.take k)[i]?=some s->σ[i]?=some s:=by
  grind
 refine⟨by simp[e.len],λi j b c d g m=>e.dist i j b c d (a _ _ g) (a _ _ m),λi b c g=>e.bnd i b c (a _ _ g),λi x f=>?_,λi b c g=>e.av i b c (a _ _ g),e.jW⟩;have h:=f;rw[δb] at f;split at f
 ·rename_i p;exact dC.ren (λb _ l=>NR k b l) (NQ k) (XD (n x (γA h))) (by simp_all) (e.obj i x f)
 ·cases f
theorem Ext.take {v:World} {j:bY} {u:Store} (h:Ext v j u w σ o) {k:Nat} (C:u.length<=k):Ext v j u w (σ.take k) (o.take k) where
 size:=h.size;blk:=λb z B=>by
  obtain⟨g,p⟩:=h.blk b z B;refine⟨g,?_⟩;rintro⟨i,c,q⟩;rw[δb] at q;split at q;·exact p ⟨i,c,q⟩
  ·cases q
 len:=by have:=h.len;simp;omega
 cur:=λm t l=>by
  obtain⟨g,p⟩:=h.cur m t l;have d:m<k:=by
   obtain⟨r,e,n,a,f,_⟩:=l;grind
  refine⟨?_,λn A=>?_⟩
  ·obtain⟨r,e,n,a,f,s⟩:=g;exact⟨r,e,n,a,by simp_all,s⟩
  ·rw[εD d];refine p n ?_;obtain⟨r,e,a,f,s⟩:=A;rw[εD d] at f;exact⟨r,e,a,f,s⟩
 isMap:=λm l=>by
  obtain⟨g,p⟩:=h.isMap m l;have d:m<k:=by
   obtain⟨x,y,a,f⟩:=l;grind
  refine⟨?_,by simp_all⟩;obtain⟨x,y,a,f⟩:=g;exact⟨x,y,a,by simp_all⟩
 os:=h.os;tape:=h.tape;output:=h.output
mutual
theorem bw.bZ {k:Nat} (hk:∀i x,k<=i->o[i]?=some x->x.mX=true):∀(c:AV) (v:Value),bw A w σ o c v->c.bZ k=true
 | .ud,_,_| .sc _,_,_| .sl _ _,_,_| .ep _ _,_,_| .iV _ _,_,_=>rfl
 | .agg cs,v,h=>by simp only[bw] at h;obtain⟨vs,_,hl⟩:=h;simp only[AV.bZ];exact bD.bZ hk cs _ hl;| .bH cs,v,h=>by simp only[bw] at h;obtain⟨vs,_,hl⟩:=h;simp only[AV.bZ];exact bD.bZ hk cs _ hl;| .ptr id _ _,v,h=>by
  simp only[bw] at h;obtain⟨⟨cs,e,sz,pu,ho,_⟩,_⟩:=h;simp only[AV.bZ,decide_eq_true_eq];rcases δ8 id k with h1|h1;·exact h1
  ·have:=hk id _ h1 ho;simp[bQ.mX] at this;| .os id _ _ _,v,h=>by
  simp only[bw] at h;obtain⟨⟨cs,e,sz,pu,ho,_⟩,_⟩:=h;simp only[AV.bZ,decide_eq_true_eq];rcases δ8 id k with h1|h1;·exact h1
  ·have:=hk id _ h1 ho;simp[bQ.mX] at this;| .mp id,v,h=>by
  simp only[bw] at h;obtain⟨⟨es,kt,pu,ho⟩,_⟩:=h;simp only[AV.bZ,decide_eq_true_eq];rcases δ8 id k with h1|h1;·exact h1
  ·have:=hk id _ h1 ho;simp[bQ.mX] at this;| .fn f a b,v,h=>by simp only[bw] at h;obtain⟨x,y,_,ha,hb⟩:=h;simp only[AV.bZ,ζ];exact⟨bD.bZ hk a _ ha,bD.bZ hk b _ hb⟩
theorem bD.bZ {k:Nat} (hk:∀i x,k<=i->o[i]?=some x->x.mX=true):∀(cs:List AV) (vs:List Value),bD A w σ o cs vs->dZ k cs=true
 |[],_,_=>rfl
 |c::cs,vs,h=>by
  simp only[bD] at h;obtain⟨v,r,_,hv,hl⟩:=h;simp only[dZ,ζ];exact⟨bw.bZ hk c v hv,bD.bZ hk cs r hl⟩
end
theorem dC.bZ {k i:Nat} {x:bQ} (n:∀i x,k<=i->o[i]?=some x->x.mX=true) (h:dC A w σ o i x):x.bZ k=true:=by
 cases x with
 |dead=>rfl;|cells t e s g=>
  simp only[dC] at h;simp only[bQ.bZ,δo];right;refine NP.2 λc a=>?_;obtain⟨j,f⟩:=γM a;grind[bw.bZ];|map r p g=>
  simp only[dC] at h;obtain⟨_,_,b,c,m,l,_,_,_,q⟩:=h;simp only[bQ.bZ,δo];right;refine NP.2 λc a=>?_;obtain⟨e,d,rfl⟩:=List.mem_map.1 a;obtain⟨j,f⟩:=γM d;grind[bw.bZ]
theorem XE {n i:Nat} {x:bQ} (h:(fW n)[i]?=some x):x= .dead:=by
 grind[fW]
theorem bU.fW (f:bU A w σ o) (n:Nat):bU A w (σ++ε n none) (o++fW n)/\Ext w σ o w (σ++ε n none) (o++fW n):=by
 have g:∀(i:Nat) (b c:Nat),(σ++ε n none)[i]?=some (some (b,c))->σ[i]?=some (some (b,c)):=by
  grind
 have v:Ext w σ o w (σ++ε n none) (o++Go.Vi.fW n):=by
  refine⟨φ _,λb _ F=>⟨rfl,λ⟨i,c,h⟩=>F ⟨i,c,g i b c h⟩⟩,by simp,λK I q=>?_,λK q=>?_,rfl,rfl,rfl⟩
  ·obtain⟨H,e,G,m,s,C⟩:=q;have a:=(θ.1 s).1;refine⟨⟨H,e,G,m,by grind,C⟩,λB D=>⟨?_,by rw[γ9 (by rw[f.len];exact a)]⟩⟩;obtain⟨p,J,u,l,t⟩:=D;rw[γ9 a] at l;exact⟨p,J,u,l,t⟩
  ·obtain⟨z,y,m,s⟩:=q;have a:=(θ.1 s).1;exact⟨⟨z,y,m,by grind⟩,by rw[γ9 (by rw[f.len];exact a)]⟩
 refine⟨⟨by simp[Go.Vi.fW,f.len],λi j b c d h E=>f.dist i j b c d (g _ _ _ h) (g _ _ _ E),λi b c h=>f.bnd i b c (g _ _ _ h),λi x k=>?_,λi b c h=>f.av i b c (g _ _ _ h),f.jW⟩,v⟩;rw[List.getElem?_append] at k;split at k
 ·rename_i a;exact(f.obj i x k).ext v (by rw[γ9 (by rw[f.len];exact a)]) λ_ _ _=>rfl
 ·rename_i a;have:=XE k;subst this;simp only[dC];have r:=(θ.1 k).1;simp[Go.Vi.fW] at r;rw[εs (by rw[f.len];omega),List.getElem?_replicate,if_pos (by rw[f.len];omega)]
theorem XF (f:bU A w σ o) (k:Nat):∃b,bU A w b (rh k o)/\(∀c v,bw A w σ o c v->bw A w b (rh k o) c v)/\
  ∀(e:World) (a:bY) (d:Store),d.length<=k->Ext e a d w σ o->Ext e a d w b (rh k o):=by
 unfold rh;split
 ·rename_i h;have g:∀i x,k<=i->o[i]?=some x->x.mX=true:=by
   intro i x r l;refine List.all_eq_true.1 h x (γA (i:=i - k) ?_);simp_all
  refine⟨σ.take k,f.take λx l=>?_,λc v m=>m.take (bw.bZ g c v m),λe a d q p=>p.take q⟩;obtain⟨j,n⟩:=γM (γm l);exact dC.bZ g (f.obj j x n)
 ·exact⟨σ,f,λ_ _ h=>h,λ_ _ _ _ h=>h⟩
end
def lv (P:Program) (f:FuncId) (args:List AV) (o:Store) (r:AV) (o':Store):Prop:=
 ∀(A:dK) (w:World) (b:bY) (d:List Value),bU A w b o->bD A w b o args d->
  Calls P f d.toArray w λe c=>∃u a,e= .returned u/\bU A c a o'/\bw A c a o' r u/\Ext w b o c a o'
def pM (P:Program) (call:cV):Prop:=
 ∀f a o b r c,call f a o b=some (r,c)->gJ P f=true/\lv P f a o r c/\(b=false->c=[])
section
variable {P:Program} {A B:dK} {w w':World} {σ σ':bY} {o o':Store}
theorem B2 {d e:Type} {f:d->Option e}:∀{l:List d} {c:List e},l.mapM f=some c->c.length=l.length/\∀(j:Nat) (a:d),l[j]?=some a->∃b,c[j]?=some b/\f a=some b
 |[],c,h=>by simp_all;|a::l,c,h=>by
  rw[εS] at h;cases g:f a with
  |none=>simp[g] at h;|some b=>
   cases i:l.mapM f with
   |none=>simp_all;|some r=>
    simp[g,i] at h;subst h;obtain⟨m,k⟩:=B2 i;grind
theorem xe {f:AV->Option AV} {cs a:List AV} {vs:List Value} (h:cs.mapM f=some a) (e:bD A w σ o cs vs) (n:∀c∈cs,∀d v,f c=some d->bw A w σ o c v->bw B w σ' o' d v):bD B w σ' o' a vs:=by
 obtain⟨p,m⟩:=B2 h;have q:=bD.length _ _ e;refine bD.lL _ _ (by omega) λj d k=>?_;have g:j<cs.length:=by grind
 obtain⟨v,r,i⟩:=bD.get _ _ e j _ (ξ g);obtain⟨b,s,l⟩:=m j _ (ξ g);grind
theorem Ge [nU A B] (hS:bU A w σ o) (hB:∀b,b<w.heap.size->Fr A σ b->¬B b):∀(d:Nat) (a a':AV) (u:Value),freeze o d a=some a'->(∀id∈eY o d a,∀b c,σ[id]?=some (some (b,c))->¬B b)->
  bw A w σ o a u->bw B w [] [] a' u:=by
 have hA:∀b,b<w.heap.size->Fr A σ b->Fr B [] b:=λb hb hf=>⟨λ⟨i,c,hi⟩=>by simp at hi,hB b hb hf⟩;have hm:∀id id',(λ_:Nat=>(none:Option Nat)) id=some id'->Tr o σ [] [] id id':=λ_ _ h=>by cases h
 intro d;induction d with
 |zero=>
  intro a a' u hf _ hr;cases a<;>simp only[freeze,reduceCtorEq,γ] at hf;·subst hf;simp[bw]
  ·rename_i v;split at hf
   ·injection hf with hf;subst hf;have:=gK hr;subst this;simp only[bw,dB];exact⟨none,0,rfl,φ _,rfl,trivial⟩
   ·injection hf with hf;subst hf;simpa[bw] using hr
  ·subst hf;exact bw.ren hA hm _ _ _ rfl hr
  ·subst hf;exact bw.ren hA hm _ _ _ rfl hr;|succ d ih=>
  intro a a' u hf ht hr;cases a<;>simp only[freeze,reduceCtorEq,γ] at hf;·subst hf;simp[bw]
  ·rename_i v;split at hf
   ·injection hf with hf;subst hf;have:=gK hr;subst this;simp only[bw,dB];exact⟨none,0,rfl,φ _,rfl,trivial⟩
   ·injection hf with hf;subst hf;simpa[bw] using hr
  ·rename_i cs;obtain⟨cs',h1,rfl⟩:=δ.1 hf;simp only[bw] at hr ⊢;obtain⟨vs,rfl,hl⟩:=hr;refine⟨vs,rfl,xe h1 hl λc hc c' v hfc hrc=>ih c c' v hfc (λid hid=>ht id ?_) hrc⟩;simp only[eY,γ4];exact⟨c,hc,hid⟩
  ·rename_i cs;obtain⟨cs',h1,rfl⟩:=δ.1 hf;simp only[bw] at hr ⊢;obtain⟨vs,rfl,hl⟩:=hr;refine⟨vs,rfl,xe h1 hl λc hc c' v hfc hrc=>ih c c' v hfc (λid hid=>ht id ?_) hrc⟩;simp only[eY,γ4];exact⟨c,hc,hid⟩
  ·subst hf;exact bw.ren hA hm _ _ _ rfl hr
  ·
   rename_i id off len tot;split at hf
   ·rename_i cs e sz pu ho;split at hf
    ·rename_i hcond;obtain⟨htot,hrange⟩:=hcond;simp only[bw] at hr;obtain⟨hle,X,cap,rfl,hlc,hcur⟩:=hr;have hk:=hcur sz ⟨cs,e,pu,ho,htot⟩;have tH:=hS.obj id _ ho;simp only[dC] at tH;obtain⟨q1,q2,q3⟩:=tH;have cellsOf:∀(j:Nat) (c:AV),((cs.drop off).take (len*sz))[j]?=some c->∃(p:Addr) (v:Value),X=some p/\¬B p.block/\w.cell? (p.add j)=some v/\bw A w σ o c v:=by
      intro j c hc;rw[δb] at hc;split at hc
      ·rename_i hj;rw[δF] at hc;have hpos:0<len:=by
        rcases ε9 len with h0|h0;·subst h0;simp at hj
        ·exact h0
       unfold ku at hk;split at hk;·omega
       ·rename_i b c2 hσ;rcases q3 with⟨h0,_⟩|⟨b',cap',arr,r1,_,r3,_,_,r6⟩;·rw[hσ] at h0;cases h0
        ·rw[hσ] at r1;simp only[γ,κ] at r1;obtain⟨rfl,rfl⟩:=r1;obtain⟨v,hv,qE⟩:=r6 _ c hc;refine⟨⟨b,off,none⟩,v,(by rw[hk.1 hpos,pL (by omega)]),ht id (by simp[eY]) b c2 hσ,?_,qE⟩;rw[F2];simp[World.cell?,r3,hv]
       ·exact hk.elim
      ·cases hc
     split at hf
     ·rename_i mH;injection hf with hf;subst hf;have hpure:dx ((cs.drop off).take (len*sz))=true:=tG λc hc=>qC (q1 mH) c (γK (γm hc));simp only[bw];refine⟨X,cap,rfl,hlc,hpure,dB.lL _ _ _ λj c hc=>?_⟩;obtain⟨p,v,hp,hnb,hcell,qE⟩:=cellsOf j c hc;exact⟨p,v,hp,⟨λ⟨i,c,hi⟩=>by simp at hi,hnb⟩,by simpa using hcell,bw.ren hA hm c v c (AV.vh _ c (qC hpure c (γA hc))) qE⟩
     ·rename_i mH;split at hf
      ·rename_i cs' hcs';split at hf
       ·rename_i hpure;injection hf with hf;subst hf;obtain⟨m1,m2⟩:=B2 hcs';simp only[bw];refine⟨X,cap,rfl,hlc,hpure,dB.lL _ _ _ λj c' hc'=>?_⟩;have hj:j<((cs.drop off).take (len*sz)).length:=by have:=(θ.1 hc').1;omega
        obtain⟨p,v,hp,hnb,hcell,qE⟩:=cellsOf j _ (ξ hj);obtain⟨b,hb,zj⟩:=m2 j _ (ξ hj);rw[hc'] at hb;injection hb with hb;subst hb;refine⟨p,v,hp,⟨λ⟨i,c,hi⟩=>by simp at hi,hnb⟩,by simpa using hcell,ih _ _ v zj (λid' XG=>ht id' ?_) qE⟩;simp only[eY,ho,γq];right;rw[if_neg mH];exact γ4.2 ⟨_,List.getElem_mem hj,XG⟩
       ·cases hf
      ·cases hf
    ·cases hf
   ·cases hf
  ·rename_i f a b;split at hf
   ·rename_i a' b' h1 h2;injection hf with hf;subst hf;simp only[bw] at hr ⊢;obtain⟨x,y,rfl,hx,hy⟩:=hr;refine⟨x,y,by rw[nU.eq (A:=A) (A':=B)],xe h1 hx λc hc c' v hfc hrc=>ih c c' v hfc (λid hid=>ht id ?_) hrc,xe h2 hy λc hc c' v hfc hrc=>ih c c' v hfc (λid hid=>ht id ?_) hrc⟩;·simp only[eY,Γ,γ4];exact .inl ⟨c,hc,hid⟩
    ·simp only[eY,Γ,γ4];exact .inr ⟨c,hc,hid⟩
   ·cases hf
  ·subst hf;exact bw.ren hA hm _ _ _ rfl hr
theorem bU.far (f:bU A w σ o) (e:Ext w [] [] w' σ' o'):bU A w' σ o/\Ext w σ o w' σ o:=by
 have a:∀b,b<w.heap.size->w'.heap[b]?=w.heap[b]?:=λb d=>(e.blk b d λ⟨i,c,l⟩=>by simp at l).1;have g:Ext w σ o w' σ o:=⟨e.size,λb d k=>⟨a b d,k⟩,φ _,λ_ _ h=>⟨h,λ_ h=>⟨h,rfl⟩⟩,λ_ h=>⟨h,rfl⟩,e.os,e.tape,e.output⟩;exact⟨⟨f.len,f.dist,λi b c h=>γu (f.bnd i b c h) e.size,λi x j=>(f.obj i x j).ext g rfl λb c d=>a b (f.bnd i b c d),f.av,λb d=>γu (f.jW b d) e.size⟩,g⟩
mutual
theorem NS:∀(r:AV) (u:Value),r.kW=true->bw A w σ o r u->bw B w' σ' o' r u
 | .ud,_,_,_=>by simp[bw];| .sc v,u,_,h=>by simpa[bw] using h;| .agg cs,u,hn,h=>by
  simp only[AV.kW] at hn;simp only[bw] at h ⊢;obtain⟨vs,rfl,hl⟩:=h;exact⟨vs,rfl,Gf cs _ hn hl⟩;| .bH cs,u,hn,h=>by
  simp only[AV.kW] at hn;simp only[bw] at h ⊢;obtain⟨vs,rfl,hl⟩:=h;exact⟨vs,rfl,Gf cs _ hn hl⟩;| .sl n cs,u,hn,h=>by
  simp only[AV.kW,List.isEmpty_iff] at hn;subst hn;simp only[bw,dB] at h ⊢;exact h;| .ep _ _,_,hn,_| .ptr _ _ _,_,hn,_| .os _ _ _ _,_,hn,_| .mp _,_,hn,_| .fn _ _ _,_,hn,_| .iV _ _,_,hn,_=>by simp[AV.kW] at hn
theorem Gf:∀(cs:List AV) (vs:List Value),uX cs=true->bD A w σ o cs vs->bD B w' σ' o' cs vs
 |[],vs,_,h=>by simpa[bD] using h;|c::cs,vs,hn,h=>by
  simp only[uX,ζ] at hn;simp only[bD] at h ⊢;obtain⟨v,r,rfl,hv,hl⟩:=h;exact⟨v,r,rfl,NS c v hn.1 hv,Gf cs r hn.2 hl⟩
end
theorem B5 (w:World) (a:∀b,A b->b<w.heap.size):bU A w [] []:=⟨rfl,by simp,by simp,by simp,by simp,a⟩
theorem XH {call:cV} (q:pM P call) (n:bU A w σ o) {f:FuncId} {args a:List AV} {vs:List Value} (N:bD A w σ o args vs) (K:args.mapM (freeze o 6)=some a) {r:AV}
  (X:call f a [] false=some (r,[])) (y:(args.flatMap (eY o 6)).isEmpty=true\/r.kW=true):
  gJ P f=true/\Calls P f vs.toArray w λe w'=>∃u g,e= .returned u/\bU A w' g o/\bw A w' g o r u/\Ext w σ o w' g o:=by
 obtain⟨S,C,_⟩:=q _ _ _ _ _ _ X;refine⟨S,?_⟩;rcases y with y|y;·
  let B:dK:=⟨λb=>A b\/Own σ b,A.l⟩;have Q:∀b,B b->b<w.heap.size:=λb z=>Or.elim (show A b\/Own σ b from z) (n.jW b) λ⟨i,c,V⟩=>n.bnd i b c V;haveI:nU A B:=⟨rfl⟩;haveI:nU B A:=⟨rfl⟩;have j:bD B w [] [] a vs:=xe K N λc E J v s t=>Ge n (λb _ d z=>Or.elim (show A b\/Own σ b from z) d.2 d.1) 6 c J v s (λI U=>by
   simp_all) t;refine(C B w [] vs (B5 w Q) j).mono ?_;rintro e w' ⟨u,g,rfl,F,p,G⟩;obtain⟨M,L⟩:=n.far G;refine⟨u,σ,rfl,M,?_,L⟩;have D:r.bZ 0=true:=bw.bZ (k:=0) (λi x _ W=>by simp at W) r u p;refine bw.ren (m:=qD 0) (λb z d=>⟨λR=>d.2 (show A b\/Own σ b from .inr R),λT=>d.2 (show A b\/Own σ b from .inl T)⟩) (λI O h=>by grind[qD]) r u r (B0 0 r D) p
 ·have j:bD A w [] [] a vs:=xe K N λc E J v s t=>Ge n (λb _ d z=>d.2 z) 6 c J v s (λI _ b Y H=>n.av I b Y H) t;refine(C A w [] vs (B5 w n.jW) j).mono ?_;rintro e w' ⟨u,g,rfl,F,p,G⟩;obtain⟨M,L⟩:=n.far G;grind[NS]
end
section
variable {A:dK} {w:World} {σ:bY} {o:Store}
def ji (o:Store) (p:Nat->Bool) (i:Nat):Bool:=p i&&(match o[i]? with|some (.cells _ _ _ true)=>true|_=>false)
def lN (o:Store) (p:Nat->Bool) (σ:bY):bY:=(τ σ.length).map λi=>if ji o p i then none else(σ[i]?).getD none
theorem Gg (o:Store) (p:Nat->Bool) (σ:bY):(lN o p σ).length=σ.length:=by simp[lN]
theorem Gh {o:Store} {p:Nat->Bool} {σ:bY} {i:Nat} (a:i<σ.length):(lN o p σ)[i]?=some (if ji o p i then none else(σ[i]?).getD none):=by
 simp[lN,a]
theorem vi {o:Store} {p:Nat->Bool} {σ:bY} {i:Nat} {s:Nat×Nat} (h:(lN o p σ)[i]?=some (some s)):σ[i]?=some (some s)/\ji o p i=false:=by
 have a:i<σ.length:=by grind[Gg]
 simp_all[Gh]
theorem NT {o:Store} {p:Nat->Bool} {σ:bY} {i:Nat} (h:ji o p i=false):(lN o p σ)[i]?=σ[i]?:=by
 grind[Gh,Gg]
def Gi (p:Nat->Bool) (i:Nat):bQ->bQ
 | .cells b e a true=>if p i then .dead else .cells b e a true
 |x=>x
theorem B6 (p:Nat->Bool):∀(o:Store) (k i:Nat),(fD p k o)[i]?=(o[i]?).map (Gi p (k+i))
 |[],k,i=>by simp[fD];|x::r,k,i=>by
  simp only[fD];cases i with
  |zero=>simp only[List.getElem?_cons_zero,μ,Nat.add_zero];congr 1;|succ i=>simp only[γP];rw[B6 p r (k+1) i,show k+1+i=k+(i+1) from by omega]
theorem NU {p:Nat->Bool} {a:Store}:∀{o o':Store},jh a p o=some o'->o'.length=o.length/\∀(i:Nat) (x:bQ),o[i]?=some x->∃y,x.bT a p=some y/\o'[i]?=some y
 |[],o',h=>by grind[jh];|x::r,o',h=>by
  simp only[jh] at h;split at h
  ·rename_i y l e b;injection h with h;subst h;obtain⟨d,c⟩:=NU b;grind
  ·cases h
theorem Gj {o:Store} {p:Nat->Bool}:∀{cs a:List AV},gI o p cs=some a->a.length=cs.length/\∀(j:Nat) (b:AV),a[j]?=some b->∃c,cs[j]?=some c/\c.bT o p=some b
 |[],a,h=>by grind[gI];|c::cs,a,h=>by
  simp only[gI] at h;split at h
  ·rename_i k e f d;injection h with h;subst h;obtain⟨i,g⟩:=Gj d;grind
  ·cases h
theorem NV {o:Store} {p:Nat->Bool}:∀{es a:List (Value×AV)},qy o p es=some a->a.length=es.length/\∀(j:Nat) (b:Value×AV),a[j]?=some b->∃e,es[j]?=some e/\e.1=b.1/\e.2.bT o p=some b.2
 |[],a,h=>by grind[qy];|e::es,a,h=>by
  simp only[qy] at h;split at h
  ·rename_i v d f c;injection h with h;subst h;obtain⟨g,i⟩:=NV c;grind
  ·cases h
theorem NW {o:Store} {p:Nat->Bool}:∀{env a:jg},uZ o p env=some a->∀s,(dH env s).bT o p=some (dH a s)
 |[],a,h,s=>by simp only[uZ,γ] at h;subst h;rfl;|(k,v)::r,a,h,s=>by
  simp only[uZ] at h;split at h
  ·rename_i e d b c;injection h with h;subst h;simp only[dH];cases f:Nat.beq k s with
   |true=>exact b;|false=>exact NW c s
  ·cases h
mutual
theorem AV.NY (o:Store) (p:Nat->Bool):∀(c:AV),c.pure=true->c.bT o p=some c
 | .sc _,_=>rfl
 | .sl _ _,_=>rfl
 | .ud,h| .agg _,h| .bH _,h| .ep _ _,h| .ptr _ _ _,h| .os _ _ _ _,h| .mp _,h| .fn _ _ _,h| .iV _ _,h=>by simp[AV.pure] at h
end
theorem XI {o:Store} {p:Nat->Bool} {c a:AV} (h:c.bT o p=some a) (b:c.one=true):a.one=true:=by
 cases c<;>simp only[AV.one,χ] at b<;>simp only[AV.bT] at h<;>grind[AV.one,AV.bT]
structure tK (o:Store) (p:Nat->Bool) (o2:Store):Prop where
 len:o2.length=o.length
 get:∀i x,o[i]?=some x->(ji o p i=true/\o2[i]?=some .dead)\/(ji o p i=false/\∃y,x.bT o p=some y/\o2[i]?=some y)
theorem NZ {o a:Store} {p:Nat->Bool} (h:jh o p o=some a):tK o p (fD p 0 a):=by
 obtain⟨k,l⟩:=NU h;have n:(fD p 0 a).length=o.length:=by
  rw[<-k];apply Nat.le_antisymm
  ·rcases δ8 a.length (fD p 0 a).length with h|h
   ·exfalso;have:=B6 p a 0 a.length;simp_all
   ·exact h
  ·rcases δ8 (fD p 0 a).length a.length with h|h
   ·exfalso;have:=B6 p a 0 (fD p 0 a).length;simp_all
   ·exact h
 refine⟨n,λi x j=>?_⟩;obtain⟨y,b,f⟩:=l i x j;have d:=B6 p a 0 i;rw[f,Nat.zero_add] at d;simp only[μ] at d;unfold ji;rw[j];cases x with
 |cells s e q g=>
  cases g with
  |true=>
   simp only[bQ.bT,if_true,γ] at b;grind[Gi];|false=>
   right;simp only[bQ.bT,χ,if_false,δ] at b;grind[Gi]
 |dead=>
  simp only[bQ.bT,γ] at b;subst b;right;exact⟨by simp,_,rfl,d⟩;|map r m g=>
  right;have:∃c,y= .map c m g:=by
   simp only[bQ.bT] at b;split at b;·grind
   ·obtain⟨c,_,rfl⟩:=δ.1 b;simp_all
  obtain⟨c,rfl⟩:=this;exact⟨by simp,_,b,d⟩
theorem tK.tr {o2:Store} {p:Nat->Bool} (h:tK o p o2) {id:Nat} (m:ji o p id=false):Tr o σ o2 (lN o p σ) id id:=by
 refine⟨λn e q d c=>?_,λ⟨l,g,d,c⟩=>?_,NT m⟩
 ·rcases h.get id _ c with⟨i,_⟩|⟨_,y,a,b⟩;·simp_all
  ·simp only[bQ.bT] at a;split at a;·grind
   ·obtain⟨k,j,rfl⟩:=δ.1 a;grind[Gj]
 ·rcases h.get id _ c with⟨i,_⟩|⟨_,y,a,b⟩;·simp_all
  ·simp only[bQ.bT] at a;split at a;·injection a with a;subst a;exact⟨l,g,d,b⟩
   ·obtain⟨f,j,rfl⟩:=δ.1 a;exact⟨f,g,d,b⟩
theorem vj {p:Nat->Bool} {b:Nat} (h:Fr A σ b):Fr A (lN o p σ) b:=⟨λ⟨i,c,a⟩=>h.1 ⟨i,c,(vi a).1⟩,h.2⟩
mutual
theorem bw.bT (hS:bU A w σ o) {p:Nat->Bool} {o2:Store} (hF:tK o p o2):∀(c:AV) (v:Value) (c':AV),c.bT o p=some c'->bw A w σ o c v->bw A w (lN o p σ) o2 c' v
 | .ud,v,c',hc,_=>by simp only[AV.bT,γ] at hc;subst hc;simp[bw];| .sc u,v,c',hc,h=>by simp only[AV.bT,γ] at hc;subst hc;simpa[bw] using h;| .sl n cs,v,c',hc,h=>by
  simp only[AV.bT,γ] at hc;subst hc;exact bw.ren (m:=λ_=>none) (λb _ hf=>vj hf) (λ_ _ h=>by cases h) _ _ _ rfl h;| .ep cs off,v,c',hc,h=>by
  simp only[AV.bT,γ] at hc;subst hc;exact bw.ren (m:=λ_=>none) (λb _ hf=>vj hf) (λ_ _ h=>by cases h) _ _ _ rfl h;| .agg cs,v,c',hc,h=>by
  simp only[AV.bT,δ] at hc;obtain⟨cs',h1,rfl⟩:=hc;simp only[bw] at h ⊢;obtain⟨vs,rfl,hl⟩:=h;exact⟨vs,rfl,bD.bT hS hF cs _ cs' h1 hl⟩;| .bH cs,v,c',hc,h=>by
  simp only[AV.bT,δ] at hc;obtain⟨cs',h1,rfl⟩:=hc;simp only[bw] at h ⊢;obtain⟨vs,rfl,hl⟩:=h;exact⟨vs,rfl,bD.bT hS hF cs _ cs' h1 hl⟩;| .ptr id off tot,v,c',hc,h=>by
  have hd:ji o p id=false/\c'= .ptr id off tot:=by
   unfold ji;simp only[AV.bT] at hc;split at hc
   ·rename_i hp;split at hc
    ·rename_i pu ho;split at hc;·cases hc
     ·rename_i mH;injection hc with hc;refine⟨?_,hc.symm⟩;cases pu with
      |true=>exact absurd rfl mH;|false=>simp[ho]
    ·rename_i hne;injection hc with hc;refine⟨?_,hc.symm⟩;have:(match o[id]? with|some (.cells _ _ _ true)=>true|_=>false)=false:=by
      split;·rename_i a b c ho;exact absurd ho (hne _ _ _ _)
      ·rfl
     rw[this,Bool.and_false]
   ·rename_i hp;injection hc with hc;exact⟨by simp[hp],hc.symm⟩
  obtain⟨hd,rfl⟩:=hd;exact bw.ren (m:=λi=>if i=id then some id else none) (λb _ hf=>vj hf) (λi j hij=>by
   split at hij;·rename_i h0;injection hij with hij;subst h0;subst hij;exact hF.tr hd
   ·cases hij) _ _ _ (by simp[δE]) h;| .mp id,v,c',hc,h=>by
  simp only[AV.bT,γ] at hc;subst hc;have hd:ji o p id=false:=by
   simp only[bw] at h;obtain⟨⟨es,kt,pu,ho⟩,_⟩:=h;simp[ji,ho]
  exact bw.ren (m:=λi=>if i=id then some id else none) (λb _ hf=>vj hf) (λi j hij=>by
   split at hij;·rename_i h0;injection hij with hij;subst h0;subst hij;exact hF.tr hd
   ·cases hij) _ _ _ (by simp[δE]) h;| .fn f a b,v,c',hc,h=>by
  simp only[AV.bT] at hc;split at hc
  ·rename_i a' b' h1 h2;injection hc with hc;subst hc;simp only[bw] at h ⊢;obtain⟨x,y,rfl,hx,hy⟩:=h;exact⟨x,y,rfl,bD.bT hS hF a _ a' h1 hx,bD.bT hS hF b _ b' h2 hy⟩
  ·cases hc;| .iV t cs,v,c',hc,h=>by
  simp only[AV.bT,γ] at hc;subst hc;exact bw.ren (m:=λ_=>none) (λb _ hf=>vj hf) (λ_ _ h=>by cases h) _ _ _ rfl h;| .os id off len tot,v,c',hc,h=>by
  have keep:ji o p id=false->c'= .os id off len tot->bw A w (lN o p σ) o2 c' v:=by
   rintro hd rfl;exact bw.ren (m:=λi=>if i=id then some id else none) (λb _ hf=>vj hf) (λi j hij=>by
    split at hij;·rename_i h0;injection hij with hij;subst h0;subst hij;exact hF.tr hd
    ·cases hij) _ _ _ (by simp[δE]) h
  simp only[AV.bT] at hc;split at hc
  ·rename_i hp;split at hc
   ·rename_i cs e sz pu ho;split at hc
    ·rename_i mH;subst mH;split at hc
     ·rename_i hcond;injection hc with hc;subst hc;obtain⟨htot,hrange⟩:=hcond;have hdr:ji o p id=true:=by simp[ji,hp,ho]
      simp only[bw] at h;obtain⟨hle,X,cap,rfl,hlc,hcur⟩:=h;have hk:=hcur sz ⟨cs,e,true,ho,htot⟩;have tH:=hS.obj id _ ho;simp only[dC] at tH;obtain⟨q1,q2,q3⟩:=tH;have hpure:dx ((cs.drop off).take (len*sz))=true:=tG λc hc=>qC (q1 trivial) c (γK (γm hc));simp only[bw];refine⟨X,cap,rfl,hlc,hpure,dB.lL _ _ _ λj c hc=>?_⟩;have hcp:=qC hpure c (γA hc);rw[δb] at hc;split at hc
      ·rename_i hj;rw[δF] at hc;have hpos:0<len:=by
        rcases ε9 len with h0|h0;·subst h0;simp at hj
        ·exact h0
       unfold ku at hk;split at hk;·omega
       ·rename_i b c2 hσ;rcases q3 with⟨h0,_⟩|⟨b',cap',arr,r1,_,r3,_,_,r6⟩;·rw[hσ] at h0;cases h0
        ·rw[hσ] at r1;simp only[γ,κ] at r1;obtain⟨rfl,rfl⟩:=r1;obtain⟨u,hu,oP⟩:=r6 _ c hc;refine⟨⟨b,off,none⟩,u,(by rw[hk.1 hpos,pL (by omega)]),⟨?_,hS.av id b c2 hσ⟩,?_,?_⟩
         ·rintro⟨i,c3,hi⟩;obtain⟨k1,k2⟩:=vi hi;have:=hS.dist id i b c2 c3 hσ k1;subst this;rw[hdr] at k2;cases k2
         ·rw[Nat.zero_add,F2];simp[World.cell?,r3,hu]
         ·exact bw.ren (m:=λ_=>none) (λb _ hf=>vj hf) (λ_ _ h=>by cases h) c u c (AV.vh _ c hcp) oP
       ·exact hk.elim
      ·cases hc
     ·cases hc
    ·rename_i mH;injection hc with hc;refine keep ?_ hc.symm;cases pu with
     |true=>exact absurd rfl mH;|false=>simp[ji,ho]
   ·rename_i hne;injection hc with hc;refine keep ?_ hc.symm;unfold ji;have:(match o[id]? with|some (.cells _ _ _ true)=>true|_=>false)=false:=by
     split;·rename_i a b c ho;exact absurd ho (hne _ _ _ _)
     ·rfl
    rw[this,Bool.and_false]
  ·rename_i hp;injection hc with hc;exact keep (by simp[ji,hp]) hc.symm
theorem bD.bT (hS:bU A w σ o) {p:Nat->Bool} {o2:Store} (hF:tK o p o2):∀(cs:List AV) (vs:List Value) (cs':List AV),gI o p cs=some cs'->bD A w σ o cs vs->bD A w (lN o p σ) o2 cs' vs
 |[],vs,cs',hc,h=>by simp only[gI,γ] at hc;subst hc;simpa[bD] using h;|c::cs,vs,cs',hc,h=>by
  simp only[gI] at hc;split at hc
  ·rename_i c1 cs1 h1 h2;injection hc with hc;subst hc;simp only[bD] at h ⊢;obtain⟨v,r,rfl,hv,hl⟩:=h;exact⟨v,r,rfl,bw.bT hS hF c v c1 h1 hv,bD.bT hS hF cs r cs1 h2 hl⟩
  ·cases hc
end
end
section
variable {A:dK} {w:World} {σ:bY} {o:Store}
theorem dC.bT (D:bU A w σ o) {p:Nat->Bool} {o2:Store} (J:tK o p o2) {i:Nat} {x y:bQ} (V:o[i]?=some x) (hd:ji o p i=false) (f:x.bT o p=some y):dC A w (lN o p σ) o2 i y:=by
 have h:=D.obj i x V;have C:=NT (σ:=σ) hd;cases x with
 |dead=>grind[bQ.bT,dC];|cells t e sz H=>
  simp only[dC] at h;obtain⟨s,B,z⟩:=h;have n:∀a,a.length=t.length->(H=true->dx a=true)->eF a=true->(∀(j:Nat) (g:AV) (v:Value),a[j]?=some g->(∀c,t[j]?=some c->bw A w σ o c v->bw A w (lN o p σ) o2 g v))->dC A w (lN o p σ) o2 i (.cells a e sz H):=by
   intro a k1 O U Q;simp only[dC];refine⟨O,U,?_⟩;rcases z with⟨h0,N⟩|⟨b,F,G,r1,P,R,S,r5,r6⟩;·simp_all
   ·refine .inr ⟨b,F,G,by simp_all,P,R,S,by omega,λj g k=>?_⟩;have r:j<t.length:=by grind
    obtain⟨v,X,u⟩:=r6 j _ (ξ r);exact⟨v,X,Q j g v k _ (ξ r) u⟩
  simp only[bQ.bT] at f;split at f
  ·rename_i d;injection f with f;subst f;refine n t rfl s B λj g v k c m u=>?_;rw[k] at m;injection m with m;subst m;exact bw.bT D J g v g (AV.NY o p g (qC (s d) g (γA k))) u
  ·rename_i d;obtain⟨a,l,rfl⟩:=δ.1 f;obtain⟨I,g2⟩:=Gj l;refine n a I (λE=>absurd E d) (nf.2 λc m=>?_) λj g v k c m u=>?_
   ·obtain⟨j,k⟩:=γM m;grind[XI,nf]
   grind[bw.bT];|map es kt H=>
  simp only[dC] at h;obtain⟨s,B,b,c,K,M,z,L,h5,Y⟩:=h;simp only[bQ.bT] at f;split at f
  ·rename_i d;injection f with f;subst f;simp only[dC];refine⟨s,B,b,c,K,M,by simp_all,L,h5,λj e q=>?_⟩;obtain⟨W,Z,q2,T⟩:=Y j e q;exact⟨W,Z,q2,bw.bT D J e.2 _ e.2 (AV.NY o p e.2 (s d e (γA q))) T⟩
  ·rename_i d;obtain⟨a0,l,rfl⟩:=δ.1 f;obtain⟨I,g2⟩:=NV l;simp only[dC];refine⟨λE=>absurd E d,λe q=>?_,b,c,K,M,by rw[C];exact z,L,by omega,λj e' q=>?_⟩
   ·obtain⟨j,k⟩:=γM q;grind
   grind[bw.bT]
theorem bU.bT (e:bU A w σ o) {p:Nat->Bool} {o2:Store} (g:tK o p o2):bU A w (lN o p σ) o2:=by
 refine⟨by rw[Gg,g.len,e.len],λi j b c d a m=>e.dist i j b c d (vi a).1 (vi m).1,λi b c a=>e.bnd i b c (vi a).1,λi y h=>?_,λi b c a=>e.av i b c (vi a).1,e.jW⟩;have a:i<o.length:=by have:=(θ.1 h).1;rw[g.len] at this;exact this
 have l:=ξ a;rcases g.get i _ l with⟨k,f⟩|⟨k,z,f,n⟩
 ·rw[h] at f;injection f with f;subst f;simp only[dC];rw[Gh (by rw[e.len];exact a),k];rfl
 grind[dC.bT]
theorem Ext.bT {t:World} {k:bY} {h:Store} (a:Ext t k h w σ o) {p:Nat->Bool} {o2:Store} (m:tK o p o2) (B:∀i,i<h.length->p i=false):Ext t k h w (lN o p σ) o2 where
 size:=a.size;blk:=λb u y=>by
  obtain⟨g,j⟩:=a.blk b u y;exact⟨g,λ⟨i,c,z⟩=>j ⟨i,c,(vi z).1⟩⟩
 len:=by rw[m.len];exact a.len
 cur:=λd q l=>by
  obtain⟨g,j⟩:=a.cur d q l;have r:d<h.length:=by obtain⟨D,e,s,A,x,_⟩:=l;grind
  have n:ji o p d=false:=by grind[ji]
  have f:=m.tr (σ:=σ) n;refine⟨f.w9 g,λs v=>?_⟩;rw[f.2.2];exact j s (f.cur g v)
 isMap:=λd l=>by
  obtain⟨g,j⟩:=a.isMap d l;have r:d<h.length:=by obtain⟨C,E,A,x⟩:=l;grind
  have n:ji o p d=false:=by grind[ji]
  have f:=m.tr (σ:=σ) n;exact⟨f.2.1 g,by rw[f.2.2];exact j⟩
 os:=a.os;tape:=a.tape;output:=a.output
end
def qF (o:Store) (d:Nat) (id:Nat) (acc:List Nat):List Nat:=
 if acc.contains id then acc else
 match o[id]? with
 |some (.cells b _ _ a)=>if a then acc++[id] else cJ o d b (acc++[id])
 |some (.map c _ a)=>if a then acc++[id] else cJ o d (c.map (·.2)) (acc++[id])
 |_=>acc++[id]
def vk (o:Store) (d:Nat) (v:AV) (acc:List Nat):List Nat:=
 match v with
 | .agg e| .bH e=>cJ o d e acc
 | .ptr c _ _| .os c _ _ _| .mp c=>qF o d c acc
 | .fn _ a b=>cJ o d b (cJ o d a acc)
 |_=>acc
theorem zk (o:Store) (d:Nat) (v:AV) (vs:List AV) (acc:List Nat):cJ o (d+1) (v::vs) acc=cJ o d vs (vk o d v acc):=by
 cases v<;>rfl
theorem zl:∀(a:List Nat) (o X:Store),(lI o a X).length=o.length
 |[],o,X=>by cases X<;>rfl;|i::r,o,[]=>rfl
 |i::r,o,x::l=>by simp only[lI];rw[zl r];simp
theorem B7:∀(a:List Nat) (o X:Store) (j:Nat),j∉a->(lI o a X)[j]?=o[j]?
 |[],o,X,j,_=>by cases X<;>rfl;|i::r,o,[],j,_=>rfl
 |i::r,o,x::l,j,h=>by
  simp only[γq,not_or] at h;simp only[lI];rw[B7 r _ l j h.2,List.getElem?_set_ne (Ne.symm h.1)]
theorem Gk {m:Nat->Option Nat}:∀{o o':Store},sy m o=some o'->o'.length=o.length
 |[],o',h=>by grind[sy];|x::r,o',h=>by
  simp only[sy] at h;split at h;·rename_i y l b a;injection h with h;subst h;simp[Gk a]
  ·cases h
theorem tL (o:Store):∀(d:Nat) (vs:List AV) (acc:List Nat),∃t,cJ o d vs acc=acc++t
 |0,vs,acc=>⟨[],by grind[cJ]⟩
 |d+1,[],acc=>⟨[],by simp[cJ]⟩
 |d+1,v::vs,acc=>by
  rw[zk];have e:∀c,∃t,qF o d c acc=acc++t:=by
   intro c;unfold qF;split;·simp_all
   ·split
    ·split;·simp_all
     ·obtain⟨t,h⟩:=tL o d ‹_› (acc++[c]);simp_all
    ·split;·simp_all
     ·rename_i m _ _ _ _;obtain⟨t,h⟩:=tL o d (m.map (·.2)) (acc++[c]);simp_all
    simp_all
  have j:∃t,vk o d v acc=acc++t:=by
   cases v with
   |agg g=>exact tL o d g acc;|bH g=>exact tL o d g acc;|ptr c _ _=>exact e c;|os c _ _ _=>exact e c;|mp c=>exact e c;|fn f a b=>
    obtain⟨i,n⟩:=tL o d a acc;obtain⟨l,p⟩:=tL o d b (acc++i);grind[vk];|_=>exact⟨[],by simp[vk]⟩
  obtain⟨t,h⟩:=j;obtain⟨l,k⟩:=tL o d vs (acc++t);simp_all
theorem xf:∀{b:List Nat} {i k j:Nat},idxOf b i k=some j->k<=j/\b[j - k]?=some i
 |[],i,k,j,h=>by grind[idxOf];|a::r,i,k,j,h=>by
  simp only[idxOf] at h;split at h;·simp_all
  ·obtain⟨d,c⟩:=xf h;grind
theorem B8:∀{l:List Nat},iH.pH l=true->l.Nodup
 |[],_=>List.nodup_nil
 |a::r,h=>by
  simp only[iH.pH,ζ,δf,List.contains_eq_mem,decide_eq_false_iff_not] at h;exact γC.2 ⟨h.1,B8 h.2⟩
theorem xg {o:Store} {b:List Nat}:∀{r:List Nat} {s:Store},kV o b r=some s->s.length=r.length/\∀(j i:Nat),r[j]?=some i->∃x y,o[i]?=some x/\x.ren (λj=>idxOf b j)=some y/\s[j]?=some y
 |[],s,h=>by grind[kV];|a::r,s,h=>by
  simp only[kV] at h;split at h
  ·rename_i x l f c;obtain⟨y,d,rfl⟩:=δ.1 h;obtain⟨g,e⟩:=xg c;grind
  ·cases h
theorem B9 {m:Nat->Option Nat}:∀{o o':Store},sy m o=some o'->∀(i:Nat) (x:bQ),o[i]?=some x->∃y,x.ren m=some y/\o'[i]?=some y
 |[],o',h,i,x,b=>by simp at b;|a::r,o',h,i,x,b=>by
  simp only[sy] at h;split at h
  ·rename_i y l f c;injection h with h;subst h;cases i with
   |zero=>simp_all;|succ i=>obtain⟨z,e,d⟩:=B9 c i x (by simp_all);simp_all
  ·cases h
theorem N1 {m:Nat->Option Nat} {cs:List AV} {e:TypeId} {sz:Nat} {pu:Bool} {y:bQ} (h:(bQ.cells cs e sz pu).ren m=some y):∃a,y= .cells a e sz pu/\a.length=cs.length:=by
 simp only[bQ.ren] at h;split at h;·grind
 ·obtain⟨a,b,rfl⟩:=δ.1 h;grind[F9]
theorem N2 {m:Nat->Option Nat} {es:List (Value×AV)} {b:List Nat×Bool} {pu:Bool} {y:bQ} (h:(bQ.map es b pu).ren m=some y):∃a,y= .map a b pu:=by
 simp only[bQ.ren] at h;split at h;·grind
 ·obtain⟨a,c,rfl⟩:=δ.1 h;simp_all
def lO (σ:bY) (a:List Nat):bY:=a.map λi=>(σ[i]?).getD none
section
variable {A A':dK} {w:World} {σ:bY} {o s:Store} {ids:List Nat}
theorem rD {j:Nat} {t:Nat×Nat} (h:(lO σ ids)[j]?=some (some t)):∃i,ids[j]?=some i/\σ[i]?=some (some t):=by
 grind[lO]
theorem Gl (a:σ.length=o.length) (b:kV o ids ids=some s) {j i:Nat} (c:ids[j]?=some i):(lO σ ids)[j]?=σ[i]?:=by
 obtain⟨_,d⟩:=xg b;grind[lO]
theorem vl (c:σ.length=o.length) (i:kV o ids ids=some s) {id a:Nat} (h:idxOf ids id=some a):Tr o σ s (lO σ ids) id a:=by
 obtain⟨_,f⟩:=xf h;simp only[εU] at f;obtain⟨_,n⟩:=xg i;obtain⟨x,y,m,l,d⟩:=n a id f;refine⟨λr e q j b=>?_,λ⟨p,k,j,b⟩=>?_,Gl c i f⟩;·grind[N1]
 ·rw[m] at b;injection b with b;subst b;obtain⟨g,rfl⟩:=N2 l;exact⟨g,k,j,d⟩
theorem bU.sub [nU A A'] (f:bU A w σ o) (u:ids.Nodup) (n:kV o ids ids=some s) (E:∀b,b<w.heap.size->Fr A σ b->Fr A' (lO σ ids) b)
  (D:∀i∈ids,∀b c,σ[i]?=some (some (b,c))->¬A' b) (g:∀b,A' b->b<w.heap.size):bU A' w (lO σ ids) s:=by
 obtain⟨F,B⟩:=xg n;refine⟨by grind[lO],λi j b c d m l=>?_,λi b c m=>?_,λj y C=>?_,λi b c m=>?_,g⟩
 ·obtain⟨x,k,e⟩:=rD m;obtain⟨z,t,p⟩:=rD l;have:=f.dist x z b c d e p;subst this;exact(ζi (θ.1 k).1 u).1 (k.trans t.symm)
 ·obtain⟨x,k,e⟩:=rD m;exact f.bnd x b c e
 ·have q:j<ids.length:=by grind
  have l:=ξ q;obtain⟨x,H,k,r,a⟩:=B j _ l;rw[C] at a;injection a with a;subst a;exact dC.ren E (λG v h=>vl f.len n h) r (Gl f.len n l) (f.obj _ x k)
 grind[rD]
theorem XJ {o':Store} {U:World} {H:bY} {p:Store} (Z:bU A w σ o) (hE:Ext U H p w σ o) {V r:AV} {u:Value} (hr:bw A w σ o V u) (g:lJ p.length V o=some (r,o')):
  ∃F,bU A w F o'/\bw A w F o' r u/\Ext U H p w F o':=by
 unfold lJ at g;split at g
 ·rename_i Y o1 S O;have N:=NZ O;have f:=Z.bT N;have d:=hE.bT N (λi z=>by simp_all);have C:=bw.bT Z N _ _ _ S hr;simp only at g;generalize fD (λi=>decide (p.length<=i)) 0 o1=M at g N f d C;generalize lN o (λi=>decide (p.length<=i)) σ=D at f d C;obtain⟨t,ht⟩:=tL M fA (Y::(M.take p.length).flatMap lJ.bQ.zc) (τ p.length);generalize cJ M fA (Y::(M.take p.length).flatMap lJ.bQ.zc) (τ p.length)=n at g ht;split at g
  ·rename_i L;split at g
   ·rename_i r2 s2 Q s;simp only[γ,κ] at g;obtain⟨rfl,rfl⟩:=g;have J:∀b,b<w.heap.size->Fr A D b->Fr A (lO D n) b:=λb _ g=>⟨λ⟨i,c,z⟩=>by
     obtain⟨x,hx,B⟩:=rD z;exact g.1 ⟨x,c,B⟩,g.2⟩;have K:∀i,i<p.length->n[i]?=some i:=by
     grind
    have y:∀i,i<p.length->idxOf n i=some i:=by
     intro i z;have T:i∈n:=γA (K i z);have:∃j,idxOf n i=some j:=by
      have a0:∀(l:List Nat) (k:Nat),i∈l->∃j,idxOf l i k=some j:=by
       intro l;induction l with
       |nil=>simp_all;|cons a l ih=>
        intro k h;simp only[idxOf];split;·simp_all
        ·rename_i P;refine ih (k+1) ((γq.1 h).resolve_left λq=>P (by simp[q]))
      simp_all
     obtain⟨j,W⟩:=this;obtain⟨_,q⟩:=xf W;simp only[εU] at q;have:=(ζi (θ.1 q).1 (B8 L)).1 (q.trans (K i z).symm);rw[W,this]
    refine⟨lO D n,f.sub (B8 L) s J (λi _ b c h=>f.av i b c h) f.jW,bw.ren J (λv a1 h=>vl f.len s h) _ _ _ Q C,d.size,λb hb hn=>?_,?_,λv R I=>?_,λv I=>?_,d.os,d.tape,d.output⟩
    ·obtain⟨G,q⟩:=d.blk b hb hn;refine⟨G,λ⟨i,c,z⟩=>?_⟩;obtain⟨x,hx,B⟩:=rD z;exact q ⟨x,c,B⟩
    ·grind[xg]
    ·obtain⟨G,q⟩:=d.cur v R I;have E:v<p.length:=by obtain⟨cs,e,X,pu,ho,_⟩:=I;grind
     have m:=vl f.len s (y v E);refine⟨m.w9 G,λX hc=>?_⟩;rw[m.2.2];exact q X (m.cur G hc)
    ·obtain⟨G,q⟩:=d.isMap v I;have E:v<p.length:=by obtain⟨es,kt,pu,ho⟩:=I;grind
     have m:=vl f.len s (y v E);exact⟨m.2.1 G,by rw[m.2.2];exact q⟩
   ·cases g
  ·cases g
 ·cases g
end
theorem N3:∀(b:List Nat) (o X:Store) (j i:Nat) (x:bQ),b.Nodup->b[j]?=some i->i<o.length->X[j]?=some x->(lI o b X)[i]?=some x
 |[],o,X,j,i,x,_,c,_,_=>by simp at c;|a::r,o,[],j,i,x,_,_,_,d=>by simp at d;|a::r,o,y::l,j,i,x,e,c,f,d=>by
  rw[γC] at e;simp only[lI];cases j with
  |zero=>
   grind[B7];|succ j=>
   simp only[γP] at c d;exact N3 r _ l j i x e.2 c (by simp_all) d
theorem Gm {i:Nat}:∀{l:List Nat} {k:Nat},i∈l->∃j,idxOf l i k=some j
 |[],k,h=>by simp at h;|a::l,k,h=>by
  simp only[idxOf];split;·simp_all
  ·rename_i b;exact Gm ((γq.1 h).resolve_left λc=>b (by simp[c]))
def pN (σ b:bY) (a:List Nat):bY:=
 ((τ σ.length).map λi=>match idxOf a i with|some j=>(b[j]?).getD none|none=>(σ[i]?).getD none)++b.drop a.length
section
variable {A:dK} {w:World} {σ:bY} {o:Store}
theorem XK {P:Program} {call:cV} (a9:pM P call) (v:bU A w σ o) {f:FuncId} {args:List AV} {vs:List Value} (hr:bD A w σ o args vs)
  {r:AV} {o':Store} (J:iH call f args o=some (r,o')):
  gJ P f=true/\Calls P f vs.toArray w λe w'=>∃u g,e= .returned u/\bU A w' g o'/\bw A w' g o' r u/\Ext w σ o w' g o':=by
 unfold iH at J;simp only at J;generalize cJ o fA args []=a at J;split at J
 ·rename_i U T ha I;split at J
  ·rename_i r1 n c1;split at J;·cases J
   ·rename_i Q;simp only[not_or,Bool.not_eq_false,Nat.not_lt] at Q;obtain⟨d2,a1⟩:=Q;have a1:=B8 a1;split at J
    ·rename_i r2 b9 c0 S;simp only[γ,κ] at J;obtain⟨rfl,d3⟩:=J;obtain⟨hg,c2,_⟩:=a9 _ _ _ _ _ _ c1;refine⟨hg,?_⟩;have d0:=xg I;have b2:∀(j i:Nat),a[j]?=some i->i<o.length:=λj i m=>by
      grind
     have d4:=λ{j i:Nat} (m:a[j]?=some i)=>Gl v.len I m;obtain⟨N,s,a5⟩:∃N:dK,(∀b,N b↔(A b\/(Own σ b/\¬Own (lO σ a) b)))/\N.l=A.l:=⟨⟨λb=>A b\/(Own σ b/\¬Own (lO σ a) b),A.l⟩,λb=>Iff.rfl,rfl⟩;haveI:nU A N:=⟨a5⟩;haveI:nU N A:=⟨a5.symm⟩;have b4:∀b,b<w.heap.size->Fr A σ b->Fr N (lO σ a) b:=λb _ hf=>⟨λ⟨i,c,p⟩=>by
      obtain⟨x,hx,G⟩:=rD p;exact hf.1 ⟨x,c,G⟩,λh=>((s b).1 h).elim hf.2 λh=>hf.1 h.1⟩;have c6:bU N w (lO σ a) T:=v.sub a1 I b4 (λi p b c h hA=>by
      rcases(s b).1 hA with q|⟨_,q⟩;·exact v.av i b c h q
      ·obtain⟨j,m⟩:=γM p;exact q ⟨j,c,by simp_all⟩) (λb h=>((s b).1 h).elim (v.jW b) λ⟨⟨i,c,p⟩,_⟩=>v.bnd i b c p);have b1:bD N w (lO σ a) T U vs:=bD.ren b4 (λD d6 h=>vl v.len I h) args vs U ha hr;refine(c2 N w _ vs c6 b1).mono ?_;rintro e w' ⟨u,g,rfl,C,c7,X⟩;have d5:=Gk S;have hN:=v.len;have b7:(pN σ g a).length=o.length+(n.length - a.length):=by simp[pN,hN,C.len]
     have a7:o'.length=o.length+(n.length - a.length):=by grind[zl]
     have a8:∀i,i<o.length->idxOf a i=none->(pN σ g a)[i]?=σ[i]?/\o'[i]?=o[i]?/\i∉a:=by
      intro i p hn;have d1:i∉a:=λh=>by obtain⟨j,m⟩:=Gm (k:=0) h;simp_all
      grind[pN,B7]
     have b6:∀j t,oL a o.length j=some t->(pN σ g a)[t]?=g[j]?/\o'[t]?=b9[j]?:=by
      intro j t m;unfold oL at m;split at m
      ·rename_i i K;injection m with m;subst m;have p:=b2 j i K;have c3:j<a.length:=(θ.1 K).1;obtain⟨j2,E⟩:=Gm (k:=0) (γA K);have B:=(xf E).2;simp only[εU] at B;have:=(ζi (θ.1 B).1 a1).1 (B.trans K.symm);subst this;constructor
       ·unfold pN;rw[γ9 (by simp;omega)];have:j2<g.length:=by rw[C.len];omega
        simp_all
       grind[N3]
      ·rename_i K;injection m with m;subst m;have c3:=List.getElem?_eq_none_iff.1 K;constructor
       ·unfold pN;rw[εs (by simp;omega)];simp_all
       grind
     have b8:∀i,i<o'.length->(∃j,j<n.length/\oL a o.length j=some i)\/(i<o.length/\idxOf a i=none):=by
      intro i p;rw[a7] at p;rcases δ8 i o.length with q|q;·cases hq:idxOf a i with
       |none=>exact .inr ⟨q,rfl⟩;|some j=>
        left;have B:=(xf hq).2;simp only[εU] at B;have:=(θ.1 B).1;exact⟨j,by omega,by simp[oL,B]⟩
      grind[oL]
     have F:∀i b c,i<o.length->idxOf a i=none->σ[i]?=some (some (b,c))->N b:=by
      intro i b c p hn hs;refine(s b).2 (.inr ⟨⟨i,c,hs⟩,?_⟩);rintro⟨j,d,m⟩;obtain⟨x,hx,G⟩:=rD m;have:=v.dist i x b c d hs G;grind
     have L:∀i b c,(pN σ g a)[i]?=some (some (b,c))->(∃j,oL a o.length j=some i/\g[j]?=some (some (b,c)))\/(i<o.length/\idxOf a i=none/\σ[i]?=some (some (b,c))):=by
      grind
     have a3:∀j t,oL a o.length j=some t->Tr n g o' (pN σ g a) j t:=by
      intro j t m;obtain⟨Y,W⟩:=b6 j t m;refine⟨λcs e sz Z ho=>?_,λ⟨es,kt,Z,ho⟩=>?_,Y⟩;·grind[B9,N1]
      ·obtain⟨y,hy,c5⟩:=B9 S j _ ho;obtain⟨c8,rfl⟩:=N2 hy;exact⟨c8,kt,Z,by rw[W];exact c5⟩
     have a6:∀b,b<w'.heap.size->Fr N g b->Fr A (pN σ g a) b:=by
      intro b _ hf;refine⟨?_,λh=>hf.2 ((s b).2 (.inl h))⟩;rintro⟨i,c,p⟩;rcases L i b c p with⟨j,_,m⟩|⟨q,H,M⟩;·exact hf.1 ⟨j,c,m⟩
      ·exact hf.2 (F i b c q H M)
     have a0:∀i b c,i<o.length->idxOf a i=none->σ[i]?=some (some (b,c))->¬Own (lO σ a) b:=by
      rintro i b c p hn hs ⟨j,d,m⟩;obtain⟨x,hx,G⟩:=rD m;have:=v.dist i x b c d hs G;grind
     have R:∀b,Own (lO σ a) b->Own σ b:=λb ⟨i,c,p⟩=>by
      obtain⟨x,hx,G⟩:=rD p;exact⟨x,c,G⟩
     have O:∀D,D<o.length->∀j,idxOf a D=some j->oL a o.length j=some D:=by
      intro D _ j m;have B:=(xf m).2;grind[oL]
     have b5:Ext w σ o w' (pN σ g a) o':=by
      refine⟨X.size,λb hb hn=>?_,by omega,λD c4 a2=>?_,λD hm=>?_,X.os,X.tape,X.output⟩
      ·obtain⟨q,H⟩:=X.blk b hb λh=>hn (R b h);refine⟨q,?_⟩;rintro⟨i,c,p⟩;rcases L i b c p with⟨j,_,m⟩|⟨_,_,M⟩;·exact H ⟨j,c,m⟩
       ·exact hn ⟨i,c,M⟩
      ·have V:D<o.length:=by obtain⟨cs,e,sz,Z,ho,_⟩:=a2;grind
       cases hq:idxOf a D with
       |none=>
        obtain⟨l1,l2,_⟩:=a8 D V hq;refine⟨?_,λsz b0=>⟨?_,l1⟩⟩
        ·obtain⟨cs,e,sz,Z,ho,hl⟩:=a2;exact⟨cs,e,sz,Z,by grind,hl⟩
        ·obtain⟨cs,e,Z,ho,hl⟩:=b0;exact⟨cs,e,Z,by grind,hl⟩;|some j=>
        have Y:=vl v.len I hq;have W:=a3 j D (O D V j hq);obtain⟨q,H⟩:=X.cur j c4 (Y.w9 a2);refine⟨W.w9 q,λsz b0=>?_⟩;obtain⟨M,h4⟩:=H sz (W.cur q b0);exact⟨Y.cur a2 M,by rw[W.2.2,h4,Y.2.2]⟩
      ·have V:D<o.length:=by obtain⟨es,kt,Z,ho⟩:=hm;grind
       cases hq:idxOf a D with
       |none=>
        obtain⟨l1,l2,_⟩:=a8 D V hq;obtain⟨es,kt,Z,ho⟩:=hm;exact⟨⟨es,kt,Z,by grind⟩,l1⟩;|some j=>
        have Y:=vl v.len I hq;have W:=a3 j D (O D V j hq);obtain⟨q,H⟩:=X.isMap j (Y.2.1 hm);exact⟨W.2.1 q,by rw[W.2.2,H,Y.2.2]⟩
     refine⟨u,pN σ g a,rfl,⟨by omega,λi k b c d p hk=>?_,λi b c p=>?_,λi y hy=>?_,λi b c p=>?_,λb hb=>γu (v.jW b hb) X.size⟩,bw.ren a6 a3 _ _ _ c0 c7,b5⟩
     ·rcases L i b c p with⟨j,m,E⟩|⟨q,H,M⟩<;>rcases L k b d hk with⟨l,hl,b3⟩|⟨g1,g2,g3⟩
      ·have:=C.dist j l b c d E b3;grind
      ·exact absurd (F k b d g1 g2 g3) (C.av j b c E)
      ·exact absurd (F i b c q H M) (C.av l b d b3)
      ·exact v.dist i k b c d M g3
     ·rcases L i b c p with⟨j,m,E⟩|⟨q,H,M⟩;·exact C.bnd j b c E
      ·exact γu (v.bnd i b c M) X.size
     ·rcases b8 i (θ.1 hy).1 with⟨j,c9,m⟩|⟨q,H⟩
      ·have hx:=ξ c9;obtain⟨z,hz,a4⟩:=B9 S j _ hx;obtain⟨Y,W⟩:=b6 j i m;rw[<-W,hy] at a4;injection a4 with a4;subst a4;exact dC.ren a6 a3 hz Y (C.obj j _ hx)
      ·obtain⟨l1,l2,_⟩:=a8 i q H;rw[l2] at hy;exact(v.obj i y hy).ext b5 l1 λb c hb=>(X.blk b (v.bnd i b c hb) (a0 i b c q H hb)).1
     ·rcases L i b c p with⟨j,m,E⟩|⟨q,H,M⟩;·exact λh=>C.av j b c E ((s b).2 (.inl h))
      ·exact v.av i b c M
    ·cases J
  ·cases J
 ·cases J
end
section
variable {P:Program} {A:dK} {D:List Deferred} {w w':World} {σ σ':bY} {o o':Store}
theorem XL {call:cV} (b:pM P call) (d:bU A w σ o) {f:FuncId} {args:List AV} {vs:List Value} (g:bD A w σ o args vs) {own:Bool} {r:AV} (c:gx call f args o own=some (r,o')):
  gJ P f=true/\Calls P f vs.toArray w λe w'=>∃u a,e= .returned u/\bU A w' a o'/\bw A w' a o' r u/\Ext w σ o w' a o':=by
 grind[gx,XK,XH]
theorem Cb {f:FuncId} (b:gJ P f=true) (args:Array Value) (w:World):(callFunc f args).run P w= .ok (.enter f args) w:=by
 unfold gJ at b;cases c:P.funcs[f]? with
 |none=>simp_all;|some a=>
  simp only[c,Option.any_some,ζ,δf] at b;have d:a.body.isNone=false:=by simp_all
  have e:¬a.name= "runtime.NumGoroutine" :=by
   simp_all
  have g:¬a.body=none:=by grind
  simp_all[callFunc]
theorem XM {name:String} {t:TypeId} {f:FuncId} (h:BJ P name t=some f) (v:Value) (w:World) (n:Nat):(method (n+1) t v name).run P w= .ok (f,v) w:=by
 unfold BJ at h;split at h
 ·rename_i fs i hu hi;split at h
  ·rename_i m hm;split at h
   ·rename_i g hp hf;injection h with h;subst h;simp[method,typeInfo,hi,hm,hp,hf,follow,receiverAt,run_underlying hu,Place.get]
   ·cases h
  ·cases h
 ·cases h
theorem Gn {name:String} {t:TypeId} {f:FuncId}:∀{n:Nat},uY (wP P name n) t=some f->BJ P name t=some f
 |0,h=>by simp[wP,uY] at h;|n+1,h=>by
  simp only[wP] at h;split at h
  ·rename_i g hg;simp only[uY] at h;cases hb:Nat.beq n t with
   |true=>
    rw[hb] at h;simp only[cond_true,γ] at h;subst h;rw[<-Nat.eq_of_beq_eq_true hb];exact hg;|false=>
    rw[hb] at h;exact Gn h
  ·exact Gn h
theorem XN {fl:Bool} {oper:Oper} {dp:cB} (hc:pK P fl oper=some dp) (h:dp.oO=true):
  ∃c:Call,oper.op= .call c/\((∃f,c.callee= .value (.func f)/\dp= .call f c.args.toList fl)\/(∃x,c.callee= .value x/\dp= .jE x c.args.toList fl)\/∃x name,c.callee= .invoke x name/\dp= .oH (M6 P name) x c.args.toList):=by
 cases hop:oper.op;case call c=>
  refine⟨c,rfl,?_⟩;simp only[pK,hop] at hc;split at hc
  ·rename_i f kx;split at hc;·injection hc with hc;exact .inl ⟨f,kx,hc.symm⟩
   ·cases hc
  ·rename_i x _ kx;injection hc with hc;exact .inr (.inl ⟨x,kx,hc.symm⟩)
  ·rename_i x name kx;split at hc;·cases hc
   ·injection hc with hc;exact .inr (.inr ⟨x,name,kx,hc.symm⟩)
  all_goals
   exfalso;(repeat' (split at hc))<;>first
    |(cases hc;done);|(injection hc with hc;subst hc;simp[cB.oO] at h;done)
 case buildSlice=>
  exfalso;simp only[pK,hop] at hc;(repeat' (split at hc))<;>first
   |(cases hc;done);|(injection hc with hc;subst hc;simp[cB.oO] at h;done);|(injection hc with hc;subst hc;split at h<;>simp[cB.oO] at h;done)
 case slice t x lo hi mx=>
  exfalso;cases mx<;>cases hi<;>simp only[pK,hop,reduceCtorEq] at hc;all_goals try (repeat' (split at hc))<;>first
   |(cases hc;done);|(injection hc with hc;subst hc;simp[cB.oO] at h;done)
 case makeMap t r=>
  exfalso;cases r<;>simp only[pK,hop,reduceCtorEq] at hc;(repeat' (split at hc))<;>first
   |(cases hc;done);|(injection hc with hc;subst hc;simp[cB.oO] at h;done)
 all_goals
  exfalso;simp only[pK,hop,reduceCtorEq] at hc;try (repeat' (split at hc))<;>first
   |(cases hc;done);|(injection hc with hc;subst hc;simp[cB.oO] at h;done);|(obtain⟨_,_,rfl⟩:=δ.1 hc;simp[cB.oO] at h;done)
def FR (dh:Option Nat):Fence:={Fence.wide with round:=dh}
theorem XO {dh:Option Nat} {n:Nat} {f:FuncId} {args:Array Value} {R:Ending->World->Prop} (h:Calls P f args w R):CallsIn (FR dh) n P f args w R:=
 (callsIn_wide (n:=n)).2 h
theorem XP {fl:Bool} {a:Oper} {b:cB} (d:pK P fl a=some b) (c:Call):a.op≠ .defer c:=by
 grind[pK]
theorem XQ {call:cV} (hcall:pM P call) {fl:Bool} {oper:Oper} {dp:cB} (hc:pK P fl oper=some dp) (hS:bU A w σ o) {bN:Operand->AV} {a:Act} (hρ:∀x,bw A w σ o (bN x) (a.eval x)) {bB:Nat} {v:AV}
  (he:qw call dp bN o bB=some (v,o')) {next:Act->World->Prop} {Q:Exit->Act->World->Prop}
  (hk:∀u w' σ',bU A w' σ' o'->bw A w' σ' o' v u->Ext w σ o w' σ' o'->next (a.put oper.dst u) w') {dh:Option Nat}:oper.wpIn (FR dh) 0 P a w next Q:=by
 have N4:oper.semAt (FR dh).round a.eval=execOp a.eval oper:=Oper.semAt_eq _ _ _ (XP hc);by_cases hcl:dp.oO=false
 ·obtain⟨u,w1,σ1,hrun,h1,h2,h3⟩:=XA hc hcl hS hρ he;unfold Oper.wpIn;rw[N4];refine⟨λ_ _=>trivial,?_⟩;rcases hrun with hrun|⟨hrun,rfl⟩
  ·rw[hrun];exact hk u w1 σ1 h1 h2 h3
  ·rw[hrun];exact hk undef w1 σ1 h1 h2 h3
 ·
  have fin:∀(f:FuncId) (args:List AV) (vs:List Value) (own:Bool),bD A w σ o args vs->gx call f args o own=some (v,o')->
    (gJ P f=true->(execOp a.eval oper).run P w= .ok (.enter f vs.toArray) w)->oper.wpIn (FR dh) 0 P a w next Q:=by
   intro f args vs own hr hca hex;obtain⟨hg,hcs⟩:=XL hcall hS hr hca;unfold Oper.wpIn;rw[N4,hex hg];refine⟨λ_ _=>trivial,λh=>by simp[FR,Fence.wide] at h,(XO hcs).mono ?_⟩;rintro e w' ⟨u,σ',rfl,q1,q2,q3⟩;exact hk u w' σ' q1 q2 q3
  obtain⟨c,hop,hh⟩:=XN hc (by simpa using hcl);rw[za] at he;rcases hh with⟨f,kx,rfl⟩|⟨x,kx,rfl⟩|⟨x,name,kx,rfl⟩
  ·simp only[bJ] at he;refine fin f (c.args.toList.map bN) (c.args.toList.map a.eval) fl (vf hρ _) he λhg=>?_;simp only[execOp,hop,resolve,kx];simp[Act.eval,Deferred.ofValue,invoke,Cb hg];exact εf (by simp)
  ·simp only[bJ] at he;split at he
   ·rename_i g first captured hx;have h1:=hρ x;rw[hx] at h1;simp only[bw] at h1;obtain⟨f',c',hv,hf,hcp⟩:=h1;refine fin g (first++c.args.toList.map bN++captured) (f'.toList++c.args.toList.map a.eval++c'.toList) fl (bD.append (bD.append hf (vf hρ _)) hcp) he λhg=>?_;simp only[execOp,hop,resolve,kx];simp[hv,FT,Deferred.ofValue,invoke,Cb hg]
   ·cases he
  ·simp only[bJ] at he;split at he
   ·rename_i t cs hx;split at he
    ·rename_i f hf;have h1:=hρ x;rw[hx] at h1;simp only[bw] at h1;obtain⟨vs,hv,_,hl⟩:=h1;have hr:bD A w σ o (.agg cs::c.args.toList.map bN) (.agg vs::c.args.toList.map a.eval):=by
      simp only[bD,bw];exact⟨_,_,rfl,⟨vs,rfl,hl⟩,vf hρ _⟩
     refine fin f _ _ false hr he λhg=>?_;have hm:(method (P.types.size+Made.depth) t (.agg vs) name).run P w= .ok (f,.agg vs) w:=XM (Gn hf) (.agg vs) w (P.types.size+99);have hz:(#[Value.iface t (.agg vs)]++Array.map a.eval c.args)[0]?=some (Value.iface t (.agg vs)):=by rw[Array.getElem?_append_left (by simp)];rfl
     have he2:#[Value.agg vs]++(Array.map a.eval c.args).extract 0 c.args.size=(Value.agg vs::List.map a.eval c.args.toList).toArray:=εf (by simp;exact List.take_of_length_le (by simp));simp only[execOp,hop,resolve,kx,hv];simp[invoke,hz,callMethod,hm,Cb hg,he2]
    ·cases he
   ·cases he
def tM (b w:World) (a:List Deferred):Prop:=
 a.Pairwise (λd e=>d.target≠e.target)/\∀d∈a,∃r,d={target:=.collected r,args:=#[]}/\b.heap.size<=r/\w.heap[r]?=some (.deferred (some []))
theorem bU.Gp (d:bU A w σ o) {r:Nat} {x:Obj} (h:w.heap[r]?=some x) (g:∀a b c,x≠ .cells a b c) (l:∀a b,x≠ .map a b):¬Own σ r:=by
 rintro⟨i,c,k⟩;have f:i<o.length:=by rw[<-d.len];grind
 have e:=d.obj i _ (ξ f);cases j:o[i]<;>grind[dC,κ]
theorem tM.ext {c:World} {b:List Deferred} (h:tM c w b) (e:bU A w σ o) (i:Ext w σ o w' σ' o'):tM c w' b:=
 ⟨h.1,λd g=>by
  obtain⟨r,j,f,a⟩:=h.2 d g;exact⟨r,j,f,by rw[(i.blk r (Array.getElem?_eq_some_iff.1 a).1 (e.Gp a (by simp) (by simp))).1];exact a⟩⟩
def Cc (D:List Deferred) (b w:World) (c:List Deferred):Prop:=∃a,c=a++D/\tM b w a
theorem Cc.ext {b:World} {D a:List Deferred} (h:Cc D b w a) (c:bU A w σ o) (f:Ext w σ o w' σ' o'):Cc D b w' a:=by
 obtain⟨d,g,e⟩:=h;exact⟨d,g,e.ext c f⟩
structure cM (A:dK) (nt:Nat) (D:List Deferred) (w0:World) (lQ:bY) (o0:Store) (st:St) (a:Act) (w:World) (σ:bY):Prop where
 fi:bU A w σ st.o
 env:∀s,bw A w σ st.o (dH st.env s) (a.tmps.getD s undef)
 size:a.tmps.size=nt
 defers:Cc D w0 w a.defers
 ext:Ext w0 lQ o0 w σ st.o
theorem XR (v:Value):bw A w σ o (.uP v) v:=by
 cases v<;>simp only[AV.uP]<;>try (simp[bw,Value.oneCell'];done)
 grind[bw,wV]
theorem cM.ev {d:Nat} {e:World} {b:bY} {c:Store} {st:St} {a:Act} (h:cM A d D e b c st a w σ) (x:Operand):bw A w σ st.o (eC st.env x) (a.eval x):=by
 cases x with
 |tmp t=>exact h.env t;|const v=>exact XR v;|global g=>simp[eC,bw];|func f=>simp only[eC,Act.eval,bw];exact⟨#[],#[],rfl,by simp[bD],by simp[bD]⟩
theorem XS {a:Act} {b:Option Tmp} {u:Value} {c:Nat} (f:a.tmps.size=c) (e:BK c b=true) (s:Nat):
  (a.put b u).tmps.getD s undef=if b=some s then u else a.tmps.getD s undef:=by
 cases b with
 |none=>simp[Act.put];|some d=>
  simp only[BK,decide_eq_true_eq] at e;simp only[Act.put,γ];by_cases h:d=s<;>simp_all
theorem N5 (a:Act) (b:Option Tmp) (u:Value):(a.put b u).tmps.size=a.tmps.size/\(a.put b u).defers=a.defers:=by
 cases b<;>simp[Act.put]
theorem vm (env:jg) (a:Option Nat) (v:AV) (s:Nat):dH (oG env a v) s=if a=some s then v else dH env s:=by
 cases a with
 |none=>simp[oG];|some d=>
  simp_all[oG,dH]
theorem cM.put {e:Nat} {g:World} {c:bY} {f:Store} {st:St} {a:Act} (h:cM A e D g c f st a w σ) (k:bU A w' σ' o') (d:Ext w σ st.o w' σ' o') {b:Option Tmp} (i:BK e b=true) {v:AV} {u:Value} (j:bw A w' σ' o' v u):
  cM A e D g c f ⟨oG st.env b v,o'⟩ (a.put b u) w' σ' where
 fi:=k;env:=λs=>by
  simp only[vm,XS h.size i];split;·exact j
  ·exact(h.env s).ext d
 size:=by rw[(N5 _ _ _).1];exact h.size
 defers:=by rw[(N5 _ _ _).2];exact h.defers.ext h.fi d
 ext:=h.ext.trans d
theorem N6 {x:Nat} {v:World} {l:bY} {p:Store} {st:St} {a:Act} (h:cM A x D v l p st a w σ) {f:Array Oper} {d:Oper} {b:Bool}
  (e:mE st.env (d.guard.map λg=>(((f[g.1]?).bind (·.dst)),g.2))=some b):Region.wanted d (yielded f a.tmps)=b:=by
 unfold Region.wanted;cases u:d.guard with
 |none=>grind[mE];|some g=>
  obtain⟨j,q⟩:=g;simp only[u,μ,mE] at e;cases n:(f[j]?).bind (·.dst) with
  |none=>simp_all;|some s=>
   simp only[n] at e;have i:=h.env s;simp only[yielded,n,Option.bind_some];split at e
   ·rename_i c m;injection e with e;rw[m] at i;have k:=gK i;have o:a.tmps[s]?=some (.bool c):=by
     rw[εi] at k;grind[undef]
    simp_all
   ·rename_i m;injection e with e;rw[m] at i;simp only[bw,bD] at i;obtain⟨r,k,o⟩:=i;have t:r=#[]:=εf (by omega);subst t;have o:a.tmps[s]?=some (.tuple #[])\/a.tmps[s]?=none:=by
     rw[εi] at k;grind
    grind
   ·cases e
theorem N7 {call:cV} (e:pM P call) {j:Nat} {fl:List Nat} {c:Array Oper} {bB k:Nat} {i:dq} (f:rA P j fl c bB k=some i) {base:Nat} {st st':St} (b:gY call base i st=some st')
  {t:World} {g:bY} {p:Store} {a:Act} (h:cM A j D t g p st a w σ) {K:Act->World->Prop} {Q:Exit->Act->World->Prop} (o:∀s w' d,cM A j D t g p st' s w' d->K s w') {dh:Option Nat}:wpOpIn (FR dh) 0 P c Q k K a w:=by
 unfold rA at f;cases q:c[k]? with
 |none=>simp_all;|some n=>
  simp only[q] at f;split at f
  ·rename_i r;obtain⟨E,l,rfl⟩:=δ.1 f;unfold wpOpIn;simp only[q];simp only[gY] at b;split at b;·cases b
   ·rename_i m;have:=N6 h m;rw[this];injection b with b;subst b;simp only[χ,if_false];exact⟨λ_ _=>trivial,o _ _ σ (h.put h.fi (Ext.refl _ _ _) r (by simp only[bw];exact⟨#[],rfl,by simp[bD]⟩))⟩
   ·rename_i m;have:=N6 h m;rw[this];simp only[if_true];split at b
    ·rename_i v C z;injection b with b;subst b;exact XQ e l h.fi h.ev z λu w' d B x y=>o _ _ d (h.put B y r x)
    ·cases b
  ·cases f
theorem N8 {call:cV} (c:pM P call) {o:Nat} {fl:List Nat} {f:Array Oper} {base:Nat} {u:World} {g:bY} {s:Store} {Q:Exit->Act->World->Prop} {dh:Option Nat}:
  ∀(l:List dq) (b:List Nat),l.length=b.length->(∀(j:Nat) (i:dq) (k:Nat),l[j]?=some i->b[j]?=some k->∃bB,rA P o fl f bB k=some i)->∀(st st':St) (a:Act) (w:World) (σ:bY),
   fV call base l st=some st'->cM A o D u g s st a w σ->(∀m w' d,cM A o D u g s st' m w' d->Q .normal m w')->wpOpsIn (FR dh) 0 P f Q b a w
 |[],[],_,_,st,st',a,w,σ,e,h,p=>by
  simp only[fV,γ] at e;subst e;exact p a w σ h;|[],_::_,n,_,_,_,_,_,_,_,_,_=>by simp at n;|_::_,[],n,_,_,_,_,_,_,_,_,_=>by simp at n;|i::l,k::b,n,t,st,st',a,w,σ,e,h,p=>by
  simp only[fV] at e;split at e
  ·rename_i q v;obtain⟨bB,r⟩:=t 0 i k (by simp) (by simp);rw[wpOpsIn_cons];exact N7 c r v h λm w' d y=>N8 c l b (by simp_all) (λj z x C B=>t (j+1) z x (by simp_all) (by simp_all)) q st' m w' d e y p
  ·cases e
theorem Gq {d:Nat} {fl:List Nat} {b:Array Oper}:∀{k:Nat} {a:List Nat} {l:List dq} {n:Nat},u7 P d fl b k a=some (l,n)->
  l.length=a.length/\(∀(j:Nat) (i:dq) (q:Nat),l[j]?=some i->a[j]?=some q->∃bB,rA P d fl b bB q=some i)
 |k,[],l,n,h=>by grind[u7];|k,i::r,l,n,h=>by
  simp only[u7] at h;split at h;·cases h
  ·rename_i x o;split at h;·cases h
   ·rename_i g m c;simp only[γ,κ] at h;obtain⟨rfl,_⟩:=h;obtain⟨e,f⟩:=Gq c;grind
end
section
variable {call:cV} {ρ kX:Operand->AV} {bB:Nat}
theorem N9 {a:cB} (d:a.cls=0) (o o2:Store):bJ call a ρ o2 bB=(bJ call a ρ o bB).map λp=>(p.1,o2):=by
 cases a<;>try (simp[cB.cls] at d;done)
 case call f c b=>cases b<;>simp[cB.cls] at d
 case jE f c b=>cases b<;>simp[cB.cls] at d
 all_goals simp only[bJ]
 all_goals (repeat' split)<;>simp_all [εg,δn]
theorem XT {a:cB} (b:a.cls=0) {o o':Store} {v:AV} (h:bJ call a ρ o bB=some (v,o')):o'=o:=by
 grind[N9]
theorem XU {o o2:Store} {a:AV} (h:∀j∈ff a,o2[j]?=o[j]?):behind o2 a=behind o a:=by
 cases a<;>simp only[behind];grind[ff]
theorem XV {o o2:Store} {sz:Nat} {a:AV} (h:∀j∈ff a,o2[j]?=o[j]?):mZ o2 sz a=mZ o sz a:=by
 cases a with
 |os e d b c=>grind[mZ,ff];|sc v=>unfold mZ;grind;|_=>rfl
theorem XW {o o2:Store} {sz:Nat} {a:AV} {i:Int} (h:∀j∈ff a,o2[j]?=o[j]?):qs o2 sz a i=qs o sz a i:=by
 cases a<;>simp only[qs];grind[ff]
theorem XX {o o2:Store} {sz:Nat} {a:AV} {lo b:Option AV} (h:∀j∈ff a,o2[j]?=o[j]?):qu o2 sz a lo b=qu o sz a lo b:=by
 cases a with
 |os f e c d=>grind[qu,ff];|sc v=>unfold qu;grind;|_=>rfl
theorem XY {o o2:Store} {sz:Nat} {a:AV} {lo:Option AV} {b mx:AV} (h:∀j∈ff a,o2[j]?=o[j]?):sx o2 sz a lo b mx=sx o sz a lo b mx:=by
 cases a<;>grind[id,sx,ff]
theorem XZ {o o2:Store} {k:Nat} {a:AV} (h:∀j∈ff a,o2[j]?=o[j]?):lq o2 k a=lq o k a:=by
 cases a with
 |mp b=>
  match k with
  |0=>rfl;|1=>rfl;|2=>grind[lq,ff];|_+3=>rfl
 |_=>unfold lq;split<;>first|rfl|(simp_all;done)
theorem xh {c e:Type} {f g:c->List e}:∀{l:List c},(∀a∈l,f a=g a)->l.flatMap f=l.flatMap g
 |[],_=>rfl
 |a::l,h=>by
  simp only[List.flatMap_cons];rw[h a (by simp),xh λb d=>h b (by simp[d])]
theorem xi {c e:Type} {f g:c->Option e}:∀{l:List c},(∀a∈l,f a=g a)->l.mapM f=l.mapM g
 |[],_=>rfl
 |a::l,h=>by
  rw[εS,εS,h a (by simp),xi λb d=>h b (by simp[d])]
theorem xj {o o2:Store}:∀(d:Nat) (a:AV),(∀j∈eY o d a,o2[j]?=o[j]?)->freeze o2 d a=freeze o d a/\eY o2 d a=eY o d a
 |0,a,_=>by cases a<;>simp[freeze,eY];|d+1,a,h=>by
  cases a with
  |agg i=>
   simp only[eY,γ4,forall_exists_index,and_imp] at h;have l:=λc g=>xj d c (λj b=>h j c g b);grind[freeze,eY,xi,xh];|bH i=>
   simp only[eY,γ4,forall_exists_index,and_imp] at h;have l:=λc g=>xj d c (λj b=>h j c g b);grind[freeze,eY,xi,xh];|fn f x y=>
   simp only[eY,Γ,γ4] at h;have v:=λc g=>xj d c (λj b=>h j (.inl ⟨c,g,b⟩));have z:=λc g=>xj d c (λj b=>h j (.inr ⟨c,g,b⟩));grind[freeze,eY,xi,xh];|os k q s n=>
   have r:=h k (by simp[eY]);simp only[freeze,eY];rw[r];cases p:o[k]? with
   |none=>simp_all;|some x=>
    cases x with
    |dead=>simp_all;|map w t m=>simp_all;|cells i e u m=>
     cases m with
     |true=>simp_all;|false=>
      simp only[eY,p,γq,χ,if_false,γ4] at h;have l:=λc g=>xj d c (λj b=>h j (.inr ⟨c,g,b⟩));simp_all[xi,xh]
  |_=>simp[freeze,eY]
theorem xk {f:FuncId} {args:List AV} {o o2:Store} (h:∀j∈args.flatMap (eY o 6),o2[j]?=o[j]?):
  gx call f args o2 false=(gx call f args o false).map (λp=>(p.1,o2))/\args.flatMap (eY o2 6)=args.flatMap (eY o 6):=by
 simp only[γ4,forall_exists_index,and_imp] at h;have d:=λc a=>xj 6 c (λj e=>h j c a e);have b:args.flatMap (eY o2 6)=args.flatMap (eY o 6):=xh λc a=>(d c a).2;refine⟨?_,b⟩;unfold gx;rw[if_neg (by simp),if_neg (by simp),b,xi λc a=>(d c a).1];grind
theorem Gs {dp:cB} (hc:dp.cls=1) {o o2:Store} (h:∀j∈dN dp ρ o bB,o2[j]?=o[j]?):
  bJ call dp ρ o2 bB=(bJ call dp ρ o bB).map (λp=>(p.1,o2))/\dN dp ρ o2 bB=dN dp ρ o bB:=by
 cases dp<;>try (simp[cB.cls] at hc;done)
 case load n a=>
  simp only[bJ,dN] at h ⊢;rw[XU h];refine⟨?_,trivial⟩;split<;>simp[εg,δn]
 case sr sz x i=>
  simp only[bJ,dN] at h ⊢;refine⟨?_,trivial⟩;split;·rw[XW h];simp[εg,δn]
  ·rfl
 case slice sz x lo hi=>
  simp only[bJ,dN] at h ⊢;refine⟨?_,trivial⟩;rw[XX h];simp[εg,δn]
 case slice3 sz x lo hi mx=>
  simp only[bJ,dN] at h ⊢;refine⟨?_,trivial⟩;rw[XY h];simp[εg,δn]
 case len k x=>
  simp only[bJ,dN] at h ⊢;refine⟨?_,trivial⟩;rw[XZ h];simp[εg,δn]
 case lookup z agg ks ka x k ok=>
  simp only[bJ,dN] at h ⊢;refine⟨?_,trivial⟩;split
  ·rename_i id kv hx hk;rw[hx] at h;rw[h id (by simp[ff])];split
   ·split;·split<;>simp
    ·rfl
   ·rfl
  ·rfl
 case oH tab x args=>
  simp only[bJ,dN] at h ⊢;split
  ·rename_i t cs hx;simp only[hx] at h ⊢;refine⟨?_,(xk (call:=call) (f:=0) h).2⟩;split;·exact(xk h).1
   ·rfl
  ·exact⟨rfl,rfl⟩
 case call f args own=>
  cases own
  ·simp only[bJ,dN] at h ⊢;exact xk h
  ·simp[cB.cls] at hc
 case jE f args own=>
  cases own
  ·simp only[bJ,dN] at h ⊢;split
   ·rename_i g first captured hf;rw[hf] at h;simp only[hf] at h ⊢;exact⟨(xk h).1,(xk (call:=call) (f:=0) h).2⟩
   ·rename_i hne;refine⟨rfl,?_⟩;split
    ·rename_i f' first captured hf;simp only[hf] at h ⊢;exact(xk (call:=call) (f:=0) h).2
    ·rfl
  ·simp[cB.cls] at hc
theorem X0 {a:cB} (b:a.cls=1) {o o':Store} {v:AV} (h:bJ call a ρ o bB=some (v,o')):o'=o:=by
 have:=(Gs (call:=call) (ρ:=ρ) (bB:=bB) b (o:=o) (o2:=o) λ_ _=>rfl).1;grind
theorem Cd {o:Store} {id:Nat}:o.set id ((o[id]?).getD .dead)=o:=by
 apply List.ext_getElem?;grind
theorem X3 {d:cB} (H:d.cls=2) {o o':Store} {v:AV} (b:bJ call d ρ o bB=some (v,o')):
  ∃id x,id∈wrt d ρ o bB/\o'=o.set id x/\∀o2,(∀j∈dN d ρ o bB,o2[j]?=o[j]?)->
   bJ call d ρ o2 bB=some (v,o2.set id x)/\dN d ρ o2 bB=dN d ρ o bB/\wrt d ρ o2 bB=wrt d ρ o bB:=by
 have C:∀{x:bQ} {g:AV} {v:AV} {o':Store},(kU bB x o).map (λo'=>(g,o'))=some (v,o')->v=g/\o'=o.set bB x/\∀o2:Store,o2[bB]?=o[bB]?->(kU bB x o2).map (λo'=>(g,o'))=some (v,o2.set bB x):=by
  grind[kU]
 cases d<;>try (simp[cB.cls] at H;done)
 case alloc z e y=>
  simp only[bJ,dN,wrt] at b ⊢;grind
 case box e x=>
  simp only[bJ,dN,wrt] at b ⊢;grind
 case pG z D E e A=>
  simp only[bJ,dN,wrt] at b ⊢;grind
 case qp z e A q l c y=>
  simp only[bJ,dN,wrt] at b ⊢;grind
 case qq Q y=>
  simp only[bJ,dN,wrt] at b ⊢;grind
 case store n a x=>
  simp only[bJ,dN,wrt] at b ⊢;split at b
  ·rename_i id R G J;split at b
   ·rename_i L e A y K;split at b
    ·rename_i p;simp only[γ,κ] at b;obtain⟨rfl,rfl⟩:=b;refine⟨id,_,by simp[J,ff],rfl,λo2 h=>⟨?_,trivial,trivial⟩⟩;have U:=h id (by simp[J,ff]);grind
    ·cases b
   ·cases b
  ·cases b
 case append e A q s x y=>
  simp only[bJ,dN,wrt] at b ⊢;unfold qt at b;split at b;·cases b
  ·rename_i m F P;split at b;·cases b
   ·rename_i N;have t:∀o2:Store,(∀j∈bB::(ff (ρ s)++ff (ρ x)),o2[j]?=o[j]?)->mZ o2 A (ρ x)=some (m,F):=λo2 h=>by
     grind[XV]
    split at b
    ·rename_i B;split at b
     ·rename_i I;simp only[γ,κ] at b;obtain⟨rfl,rfl⟩:=b;refine⟨bB,(o[bB]?).getD .dead,by simp,Cd.symm,λo2 h=>⟨?_,trivial,trivial⟩⟩;rw[<-h bB (by simp),Cd];simp_all[qt]
     ·split at b
      ·rename_i I p;obtain⟨rfl,rfl,h3⟩:=C b;refine⟨bB,_,by simp,rfl,λo2 h=>⟨?_,trivial,trivial⟩⟩;simp_all[qt]
      ·cases b
    ·rename_i id D G B;split at b
     ·rename_i L e' S O K;split at b
      ·rename_i p;simp only[γ,κ] at b;obtain⟨rfl,rfl⟩:=b;refine⟨id,_,by simp[B,ff],rfl,λo2 h=>⟨?_,trivial,trivial⟩⟩;unfold qt;rw[t o2 h];have U:=h id (by simp[B,ff]);simp_all
      ·cases b
     ·cases b
    ·rename_i n L B;split at b
     ·rename_i I;simp only[γ,κ] at b;obtain⟨rfl,rfl⟩:=b;refine⟨bB,(o[bB]?).getD .dead,by simp,Cd.symm,λo2 h=>⟨?_,trivial,trivial⟩⟩;rw[<-h bB (by simp),Cd];simp_all[qt]
     ·cases b
    ·cases b
 case rc W X x k v'=>
  simp only[bJ,dN,wrt] at b ⊢;split at b
  ·rename_i id Y M V;split at b
   ·rename_i Z Q y K;split at b;·cases b
    ·rename_i p;split at b
     ·rename_i i w T;simp only[γ,κ] at b;obtain⟨rfl,rfl⟩:=b;refine⟨id,_,by simp[M,ff],rfl,λo2 h=>⟨?_,trivial,trivial⟩⟩;simp_all[ff]
     ·rename_i T;simp only[γ,κ] at b;obtain⟨rfl,rfl⟩:=b;refine⟨id,_,by simp[M,ff],rfl,λo2 h=>⟨?_,trivial,trivial⟩⟩;simp_all[ff]
     ·cases b
   ·cases b
  ·cases b
 case call f u r=>cases r<;>simp[cB.cls] at H
 case jE f u r=>cases r<;>simp[cB.cls] at H
theorem rE (o:Store):∀(d:Nat) (vs:List AV) (acc:List Nat) (j:Nat),j∈acc->j∈cJ o d vs acc
 |0,vs,acc,j,h=>by grind[cJ];|d+1,[],acc,j,h=>by simp_all[cJ];|d+1,v::vs,acc,j,h=>by
  rw[zk];apply rE o d;have e:∀c,j∈qF o d c acc:=by
   intro c;unfold qF;split;·exact h
   ·split
    ·split;·simp[h]
     ·exact rE o d _ _ j (by simp[h])
    ·split;·simp[h]
     ·exact rE o d _ _ j (by simp[h])
    ·simp[h]
  cases v with
  |agg g=>exact rE o d _ _ j h;|bH g=>exact rE o d _ _ j h;|ptr c _ _=>exact e c;|os c _ _ _=>exact e c;|mp c=>exact e c;|fn f a b=>exact rE o d _ _ j (rE o d _ _ j h);|_=>exact h
theorem X4 (o:Store) (d id:Nat) (acc:List Nat):id∈qF o d id acc:=by
 grind[qF,rE]
theorem tN {o o2:Store}:∀(d:Nat) (vs:List AV) (acc:List Nat),(∀j∈cJ o d vs acc,o2[j]?=o[j]?)->cJ o2 d vs acc=cJ o d vs acc
 |0,vs,acc,_=>by grind[cJ];|d+1,[],acc,_=>by simp[cJ];|d+1,v::vs,acc,h=>by
  rw[zk] at h;rw[zk,zk];have m:∀c,(∀j∈qF o d c acc,o2[j]?=o[j]?)->qF o2 d c acc=qF o d c acc:=by
   intro c g;have r:=g c (X4 o d c acc);unfold qF at g ⊢;split;·rfl
   ·rename_i q;rw[if_neg q] at g;rw[r];cases p:o[c]? with
    |none=>rfl;|some x=>
     rw[p] at g;cases x with
     |dead=>rfl;|cells l e w n=>
      cases n with
      |true=>rfl;|false=>exact tN d _ _ g
     |map s u n=>
      cases n with
      |true=>rfl;|false=>exact tN d _ _ g
  have k:vk o2 d v acc=vk o d v acc:=by
   have i:=λj g=>h j (rE o d vs _ j g);cases v with
   |agg l=>exact tN d l acc i;|bH l=>exact tN d l acc i;|ptr c _ _=>exact m c i;|os c _ _ _=>exact m c i;|mp c=>exact m c i;|fn f a b=>
    have y:cJ o2 d a acc=cJ o d a acc:=tN d a acc λj g=>i j (rE o d b _ j g);have t:cJ o2 d b (cJ o d a acc)=cJ o d b (cJ o d a acc):=tN d b _ i;grind[vk];|_=>rfl
  rw[k];exact tN d vs _ h
theorem Oa {o o2:Store} {a:List Nat}:∀{r:List Nat},(∀j∈r,o2[j]?=o[j]?)->kV o2 a r=kV o a r
 |[],_=>rfl
 |i::r,h=>by
  simp only[kV];rw[h i (by simp),Oa λj b=>h j (by simp[b])]
theorem Ob:∀(a:List Nat) (o o2 X:Store) (j:Nat),o2.length=o.length->a.length=X.length->(j∈a\/o2[j]?=o[j]?)->(lI o2 a X)[j]?=(lI o a X)[j]?
 |[],o,o2,X,j,_,_,h=>by grind[lI];|i::r,o,o2,[],j,_,c,_=>by simp at c;|i::r,o,o2,x::l,j,b,c,h=>by
  simp only[lI];refine Ob r _ _ l j (by simp[b]) (by simp_all) ?_;grind
theorem Oc {f:FuncId} {args:List AV} {o o':Store} {r:AV} (h:iH call f args o=some (r,o')):
  o.length<=o'.length/\(∀j,j<o.length->j∉cJ o fA args []->o'[j]?=o[j]?)/\
  ∀o2:Store,o2.length=o.length->(∀j∈cJ o fA args [],o2[j]?=o[j]?)->∃g,iH call f args o2=some (r,g)/\
   cJ o2 fA args []=cJ o fA args []/\∀j,(j∈cJ o fA args []\/o.length<=j)->g[j]?=o'[j]?:=by
 have b:∀o2:Store,(∀j∈cJ o fA args [],o2[j]?=o[j]?)->cJ o2 fA args []=cJ o fA args []:=λo2 h=>tN fA args [] h;have e:∀o2:Store,(∀j∈cJ o fA args [],o2[j]?=o[j]?)->kV o2 (cJ o fA args []) (cJ o fA args [])=kV o (cJ o fA args []) (cJ o fA args []):=λo2 h=>Oa h;unfold iH at h;simp only at h;generalize q:cJ o fA args []=a at h b e;split at h
 ·rename_i m l v y;split at h
  ·rename_i B i n;split at h;·cases h
   ·rename_i d;split at h
    ·rename_i A c x t;simp only[γ,κ] at h;obtain⟨rfl,rfl⟩:=h;simp only[not_or] at d;have u:=Gk t;have z:a.length=(c.take a.length).length:=by simp;omega
     refine⟨by simp[zl],λj s w=>?_,λo2 p k=>?_⟩;·grind[zl,B7]
     ·refine⟨lI o2 a (c.take a.length)++c.drop a.length,?_,b o2 k,λj s=>?_⟩
      ·unfold iH;grind
      grind[zl,Ob]
    ·cases h
  ·cases h
 ·cases h
end
end Go.Vi
