/-
  The abstract interpreter: every operation that is no call does what the model's does.
  Conditions: none.
-/
import Derived.Test.YtbnhiekmnpikhaaGreatDP02
import Derived.OrdersIn
import Derived.AtR
set_option maxRecDepth 100000
set_option maxHeartbeats 4000000
set_option linter.all false
open Array renaming ext'->εi,getD_eq_getD_getElem?->εa
open Bool renaming and_eq_true->θ,false_eq_true->χ,or_eq_true->δv,not_eq_true'->δf
open Decidable renaming not_not->ζV
open Function renaming comp_def->δl
open Go.Vi.AV renaming ren->δu
open List renaming eq_nil_of_length_eq_zero->τ,getElem?_eq_some_iff->ζ,getElem?_eq_getElem->μ,mem_of_getElem?->γd,getElem?_of_mem->γF,getElem?_take->δg,getElem?_take_of_lt->δy,replicate->δ,getElem?_append_left->δa,getElem?_append_right->ε5,mem_of_mem_take->γm,mapM_cons->εP,getElem?_drop->δx,mem_of_mem_drop->γS,mem_cons->γz,range->ω,getElem?_cons_succ->γK,nodup_cons->γW,getElem?_inj->ζm,mem_flatMap->δN
open Nat renaming le_refl->ξ,lt_of_lt_of_le->γi,lt_or_ge->ζa,sub_zero->εR
open Option renaming map_eq_some_iff->ε,map_some->ν,map_map->ζh
open Option.some renaming injEq->γ
open Prod.mk renaming injEq->ι
namespace Go.Vi
def cG.pE:cG->Bool
 | .call .. | .jS .. | .oN .. =>true
 |_=>false
section
variable {P:Program} {A:dN} {w w':World} {σ σ':bW} {o o':Store} {bQ:Operand->AV} {bN:Operand->Value} {oper:Oper} {v:AV}
theorem kg {b:Type} {x:Option b} {f:b->AV×Store} {p:AV×Store} (h:x.map f=some p):∃a,x=some a/\f a=p:=by
 simp_all
theorem XH {call:df} {fl:Bool} {eO:cG} {bC:Nat} (hc:pC P fl oper=some eO) (hnc:eO.pE=false) (hS:bT A w σ o) (hρ:∀x,bw A w σ o (bQ x) (bN x))
  (he:qe call eO bQ o bC=some (v,o')):Gives A P bN oper w σ o v o':=by
 rw[y7] at he;unfold pC at hc;split at hc;·
  rename_i x hop;injection hc with hc;subst hc;simp only[bK,γ,ι] at he;obtain⟨rfl,rfl⟩:=he;exact Nc hS hρ (.inl hop)
 ·rename_i x hop;injection hc with hc;subst hc;simp only[bK,γ,ι] at he;obtain⟨rfl,rfl⟩:=he;exact Nc hS hρ (.inr hop)
 ·rename_i c a b hop;injection hc with hc;subst hc;simp only[bK] at he;split at he
  ·rename_i hcc;simp only[γ,ι] at he;obtain⟨rfl,rfl⟩:=he;exact Nh (t:=true) hS hρ hop hcc
  ·rename_i hcc;simp only[γ,ι] at he;obtain⟨rfl,rfl⟩:=he;exact Nh (t:=false) hS hρ hop hcc
  ·cases he
 ·rename_i e hop;obtain⟨z,hz,rfl⟩:=ε.1 hc;simp only[bK] at he;obtain⟨o2,hm,h2⟩:=kg he;obtain⟨hd,rfl⟩:=wW hm;simp only[ι] at h2;obtain⟨rfl,rfl⟩:=h2;exact WY hS hop hz hd
 ·rename_i e x hop;injection hc with hc;subst hc;simp only[bK] at he;split at he
  ·rename_i h1;obtain⟨o2,hm,h2⟩:=kg he;obtain⟨hd,rfl⟩:=wW hm;simp only[ι] at h2;obtain⟨rfl,rfl⟩:=h2;exact WZ hS hρ hop h1 hd
  ·cases he
 ·
  rename_i t parts hop;split at hc
  ·rename_i z fields hz ht;split at hc
   ·rename_i places hpl;obtain⟨ps,hps,rfl⟩:=ε.1 hc;simp only[bK] at he;obtain⟨cs,hf,h2⟩:=kg he;simp only[ι] at h2;obtain⟨rfl,rfl⟩:=h2;obtain⟨hl,hg⟩:=FM hps;refine Np (place:=λi=>places[i]?) hS hρ hop hz (λzv hzv l=>?_) hl.symm (λi p q hp hq=>?_) hf;·cases hi:P.info? t with
     |none=>simp[hi] at hzv;|some i=>
      simp[hi] at hzv;unfold MS at hpl;simp[Program.built,hi,ht,hzv,hpl]
    ·have:=hg i p q hp hq;simp only[MU,ε] at this;obtain⟨r,h1,rfl⟩:=this;exact⟨h1,rfl⟩
   ·cases hc
  ·rename_i z k e hz ht;obtain⟨n,hn,rfl⟩:=ε.1 hc;simp only[bK] at he;obtain⟨cs,hf,h2⟩:=kg he;simp only[ι] at h2;obtain⟨rfl,rfl⟩:=h2;refine Np (place:=λi=>some (i*n,n)) hS hρ hop hz (λzv hzv l=>?_) (by simp) (λi p q hp hq=>?_) hf;·cases hi:P.info? t with
    |none=>simp[hi] at hzv;|some i=>
     simp[hi] at hzv;cases hie:P.info? e with
     |none=>simp[sizeT,hie] at hn;|some ie=>
      simp[sizeT,hie] at hn;simp[Program.built,hi,ht,hzv,hie,hn]
   ·rw[List.getElem?_map,hp] at hq;simp at hq;subst hq;exact⟨rfl,rfl⟩
  ·cases hc
 ·
  rename_i t len parts hop;split at hc
  ·rename_i e ht;split at hc
   ·rename_i z hz;split at hc
    ·rename_i hcond;injection hc with hc;subst hc;split at he
     ·simp only[bK] at he;split at he
      ·rename_i cs hf;split at he
       ·rename_i hp;simp only[γ,ι] at he;obtain⟨rfl,rfl⟩:=he;exact Xq hS hρ hop ht hz hcond.2 hcond.1 hf hp
       ·cases he
      ·cases he
     ·simp only[bK] at he;split at he
      ·rename_i cs hf;obtain⟨o2,hm,h2⟩:=kg he;obtain⟨hd,rfl⟩:=wW hm;simp only[ι] at h2;obtain⟨rfl,rfl⟩:=h2;exact Xp hS hρ hop ht hz hcond.2 hcond.1 hf hd
      ·cases he
    ·cases hc
   ·cases hc
  ·cases hc
 ·
  rename_i t a hop;obtain⟨n,hn,rfl⟩:=ε.1 hc;simp only[bK] at he;split at he
  ·rename_i cs off hb;obtain⟨a',hp,h2⟩:=kg he;simp only[ι] at h2;obtain⟨rfl,rfl⟩:=h2;exact WV hS hρ hop hn hb hp
  ·cases he
 ·
  rename_i t a x hop;obtain⟨n,hn,rfl⟩:=ε.1 hc;simp only[bK] at he;split at he
  ·rename_i id off tot ha;split at he
   ·rename_i cs e sz pu ho;split at he
    ·rename_i hcond;simp only[γ,ι] at he;obtain⟨rfl,rfl⟩:=he;obtain⟨c1,c2,c3,c4,c5⟩:=hcond;exact WX hS hρ hop hn ha ho c1 c2 c3 c4 c5
    ·cases he
   ·cases he
  ·cases he
 ·
  rename_i x hop;injection hc with hc;subst hc;simp only[bK] at he;have hx:=hρ x;split at he
  ·rename_i a b c hxa;simp only[γ,ι] at he;obtain⟨rfl,rfl⟩:=he;rw[hxa] at hx;simp only[bw] at hx;obtain⟨_,⟨p,hp⟩,_⟩:=hx;rw[<-hxa];exact Ni hS hρ hop hp
  ·rename_i a b hxa;simp only[γ,ι] at he;obtain⟨rfl,rfl⟩:=he;rw[hxa] at hx;simp only[bw] at hx;obtain⟨p,hp,_⟩:=hx;rw[<-hxa];exact Ni hS hρ hop hp
  ·cases he
 ·
  rename_i op t x y t' hop;have FU:∀(h:eO= .bin op x y),Gives A P bN oper w σ o v o':=by
   intro h;subst h;simp only[bK] at he;split at he
   ·rename_i a b ha hb;obtain⟨r,hr,h2⟩:=kg he;simp only[ι] at h2;obtain⟨rfl,rfl⟩:=h2;exact W3 hS hρ hop ha hb hr
   ·cases he
  have heq:∀(neg:Bool),(op= .eql/\neg=false)\/(op= .neq/\neg=true)->
    (match P.underlying t with
     |some (.struct _)|some (.array _ _)=>if 20<=P.depth then(gu P 20 t).map λks=>cG.rW neg ks x y else none
     |some .bool=>some (.beq neg x y)
     |some (.int _)|some .string=>some (.bin op x y)
     |some (.pointer _)=>some (.tj neg x y)
     |_=>none)=some eO->Gives A P bN oper w σ o v o':=by
   intro neg hn hc;have hagg:fJ P t=some true->(if 20<=P.depth then(gu P 20 t).map λks=>cG.rW neg ks x y else none)=some eO->Gives A P bN oper w σ o v o':=by
    intro hag hc;split at hc
    ·rename_i hD;obtain⟨ks,hk,rfl⟩:=ε.1 hc;simp only[bK] at he;split at he
     ·rename_i a b ha hb;obtain⟨r,hr,h2⟩:=kg he;simp only[ι] at h2;obtain⟨rfl,rfl⟩:=h2;exact Xx hS hρ hop hn hag hk hD ha hb hr
     ·cases he
    ·cases hc
   split at hc;·rename_i hu;exact hagg (by simp[fJ,hu]) hc
   ·rename_i hu;exact hagg (by simp[fJ,hu]) hc
   ·rename_i hu;injection hc with hc;subst hc;simp only[bK] at he;split at he
    ·rename_i a b ha hb;simp only[γ,ι] at he;obtain⟨rfl,rfl⟩:=he;exact W4 hS hρ hop hn hu ha hb
    ·cases he
   ·injection hc with hc;exact FU hc.symm
   ·injection hc with hc;exact FU hc.symm
   ·rename_i hu;injection hc with hc;subst hc;simp only[bK] at he;split at he
    ·rename_i ha hb;simp only[γ,ι] at he;obtain⟨rfl,rfl⟩:=he;have hx:=hρ x;rw[ha] at hx;simp only[bw] at hx;obtain⟨_,⟨p,hp⟩,_⟩:=hx;simpa using Nj hS hρ hop hn hu hp hb
    ·rename_i ha hb;simp only[γ,ι] at he;obtain⟨rfl,rfl⟩:=he;have hx:=hρ x;rw[ha] at hx;simpa using Nj hS hρ hop hn hu (gv hx) hb
    ·cases he
   ·cases hc
  split at hc;·exact heq false (.inl ⟨rfl,rfl⟩) hc
  ·exact heq true (.inr ⟨rfl,rfl⟩) hc
  ·injection hc with hc;exact FU hc.symm
 ·
  rename_i op t x hop;injection hc with hc;subst hc;simp only[bK] at he;obtain⟨r,hr,h2⟩:=kg he;simp only[ι] at h2;obtain⟨rfl,rfl⟩:=h2;exact W6 hS hρ hop hr
 ·
  rename_i s d x hop;split at hc
  ·rename_i ds k hs hd;injection hc with hc;subst hc;simp only[bK] at he;split at he
   ·rename_i k' n hx;simp only[γ,ι] at he;obtain⟨rfl,rfl⟩:=he;exact W7 hS hρ hop hs hd hx
   ·cases he
  ·cases hc
 ·
  rename_i s x f hop;split at hc
  ·rename_i fs hs;split at hc
   ·rename_i g hg;split at hc
    ·rename_i n hn;split at hc;·cases hc
     ·rename_i hn0;injection hc with hc;subst hc;simp only[bK] at he;obtain⟨r,hr,h2⟩:=kg he;simp only[ι] at h2;obtain⟨rfl,rfl⟩:=h2;exact W8 hS hρ hop hs hg hn hn0 hr
    ·cases hc
   ·cases hc
  ·cases hc
 ·
  rename_i t x f hop;split at hc
  ·rename_i fs hs;split at hc
   ·rename_i g hg;obtain⟨n,hn,rfl⟩:=ε.1 hc;simp only[bK] at he;split at he
    ·rename_i cs hx;obtain⟨r,hr,h2⟩:=kg he;simp only[ι] at h2;obtain⟨rfl,rfl⟩:=h2;exact Xa hS hρ hop hs hg hn hx hr
    ·cases he
   ·cases hc
  ·cases hc
 ·
  rename_i t x i hop;split at hc
  ·rename_i len e ht;obtain⟨n,hn,rfl⟩:=ε.1 hc;simp only[bK] at he;split at he
   ·rename_i k hi;split at he
    ·rename_i hcond;obtain⟨r,hr,h2⟩:=kg he;simp only[ι] at h2;obtain⟨rfl,rfl⟩:=h2;exact Xb hS hρ hop ht hn hi hcond.1 hcond.2 hr
    ·cases he
   ·cases he
  ·rename_i e ht;split at hc
   ·rename_i n hn;split at hc;·cases hc
    ·rename_i hn0;injection hc with hc;subst hc;simp only[bK] at he;split at he
     ·rename_i k hi;obtain⟨r,hr,h2⟩:=kg he;simp only[ι] at h2;obtain⟨rfl,rfl⟩:=h2;exact Xc hS hρ hop ht hn hn0 hi hr
     ·cases he
   ·cases hc
  ·cases hc
 ·
  rename_i t x i hop;split at hc
  ·rename_i len e ht;split at hc
   ·rename_i s n hs hn;injection hc with hc;subst hc;simp only[bK] at he;split at he
    ·rename_i k cs hi hx;split at he
     ·rename_i hcond;obtain⟨r,hr,h2⟩:=kg he;simp only[ι] at h2;obtain⟨rfl,rfl⟩:=h2;exact Xd hS hρ hop ht hs hn hi hcond.1 hcond.2 hx hr
     ·cases he
    ·cases he
   ·cases hc
  ·rename_i ht;injection hc with hc;subst hc;simp only[bK] at he;split at he
   ·rename_i k s hi hx;split at he
    ·rename_i hcond;obtain⟨r,hr,h2⟩:=kg he;simp only[ι] at h2;obtain⟨rfl,rfl⟩:=h2;exact Xe hS hρ hop ht hi hcond hx hr
    ·cases he
   ·cases he
  ·cases hc
 ·
  rename_i t l c hop;split at hc
  ·rename_i e ht;split at hc
   ·rename_i z b hz hb;split at hc
    ·rename_i hpos;injection hc with hc;subst hc;simp only[bK] at he;split at he
     ·rename_i n m hl hm;split at he
      ·rename_i hcond;obtain⟨c1,c2,c3,c4⟩:=hcond;obtain⟨o2,hmk,h2⟩:=kg he;obtain⟨hd,rfl⟩:=wW hmk;simp only[ι] at h2;obtain⟨rfl,rfl⟩:=h2;exact Xt hS hρ hop ht hz hb hl hm c1 c2 c3 c4 hd
      ·cases he
     ·cases he
    ·cases hc
   ·cases hc
  ·cases hc
 ·
  rename_i t x lo hi hop;split at hc
  ·rename_i e ht;split at hc
   ·rename_i n hn;split at hc;·cases hc
    ·rename_i hn0;injection hc with hc;subst hc;simp only[bK] at he;obtain⟨r,hr,h2⟩:=kg he;simp only[ι] at h2;obtain⟨rfl,rfl⟩:=h2;exact Xk hS hρ hop ht hn hn0 hr
   ·cases hc
  ·rename_i ht;injection hc with hc;subst hc;simp only[bK] at he;split at he
   ·rename_i s hx;split at he
    ·rename_i l k hl hk;split at he
     ·rename_i hcond;simp only[γ,ι] at he;obtain⟨rfl,rfl⟩:=he;exact Xn hS hρ hop ht hx hl hk hcond.1 hcond.2
     ·cases he
    ·cases he
   ·cases he
  ·cases hc
 ·
  rename_i t x lo hi mx hop;split at hc
  ·rename_i e ht;split at hc
   ·rename_i n hn;split at hc;·cases hc
    ·rename_i hn0;injection hc with hc;subst hc;simp only[bK] at he;obtain⟨r,hr,h2⟩:=kg he;simp only[ι] at h2;obtain⟨rfl,rfl⟩:=h2;exact Xm hS hρ hop ht hn hn0 hr
   ·cases hc
  ·cases hc
 ·
  rename_i c hop;split at hc
  ·split at hc;·injection hc with hc;subst hc;simp[cG.pE] at hnc
   ·cases hc
  ·injection hc with hc;subst hc;simp[cG.pE] at hnc
  ·split at hc;·cases hc
   ·injection hc with hc;subst hc;simp[cG.pE] at hnc
  ·rename_i lx;split at hc
   ·rename_i s x t t' ha hty;split at hc
    ·rename_i XI;subst XI;split at hc
     ·rename_i e ht;split at hc
      ·rename_i z b hz hb;split at hc
       ·rename_i hpos;injection hc with hc;subst hc;simp only[bK] at he;exact Xw hS hρ hop lx (εi ha) (εi hty) ht hz hb rfl hpos he
       ·cases hc
      ·cases hc
     ·cases hc
    ·cases hc
   ·cases hc
  ·rename_i lx;split at hc
   ·rename_i x t ha hty;have ha':c.args=#[x]:=εi ha;have hty':c.argTypes=#[t]:=εi hty;have hlen:∀k,(k=0/\∃e,P.underlying t=some (.slice e))\/(k=1/\P.underlying t=some .string)\/(k=2/\∃a b,P.underlying t=some (.map a b))->eO= .len k x->Gives A P bN oper w σ o v o':=by
     intro k ht hh;subst hh;simp only[bK] at he;obtain⟨n,hn,h2⟩:=kg he;simp only[ι] at h2;obtain⟨rfl,rfl⟩:=h2;exact Xf hS hρ hop lx ha' hty' ht hn
    split at hc;·rename_i e ht;injection hc with hc;exact hlen 0 (.inl ⟨rfl,e,ht⟩) hc.symm
    ·rename_i ht;injection hc with hc;exact hlen 1 (.inr (.inl ⟨rfl,ht⟩)) hc.symm
    ·rename_i k e ht;injection hc with hc;exact hlen 2 (.inr (.inr ⟨rfl,k,e,ht⟩)) hc.symm
    ·rename_i n e ht;injection hc with hc;subst hc;simp only[bK,γ,ι] at he;obtain⟨rfl,rfl⟩:=he;exact Xg hS hop lx ha' hty' ht
    ·cases hc
   ·cases hc
  ·rename_i lx;split at hc
   ·rename_i x y ha;injection hc with hc;subst hc;simp only[bK] at he;split at he
    ·rename_i k a k' b hx hy;split at he
     ·rename_i hkk;subst hkk;simp only[γ,ι] at he;obtain⟨rfl,rfl⟩:=he;exact Nl (mx:=false) hS hρ hop lx (εi ha) hx hy
     ·cases he
    ·cases he
   ·cases hc
  ·rename_i lx;split at hc
   ·rename_i x y ha;injection hc with hc;subst hc;simp only[bK] at he;split at he
    ·rename_i k a k' b hx hy;split at he
     ·rename_i hkk;subst hkk;simp only[γ,ι] at he;obtain⟨rfl,rfl⟩:=he;exact Nl (mx:=true) hS hρ hop lx (εi ha) hx hy
     ·cases he
    ·cases he
   ·cases hc
  ·cases hc
 ·
  rename_i x i hop;injection hc with hc;subst hc;simp only[bK] at he;split at he
  ·rename_i vs hx;obtain⟨r,hr,h2⟩:=kg he;simp only[ι] at h2;obtain⟨rfl,rfl⟩:=h2;exact Xh hS hρ hop hx hr
  ·cases he
 ·rename_i f a b hop;split at hc
  ·injection hc with hc;subst hc;simp only[bK,γ,ι] at he;obtain⟨rfl,rfl⟩:=he;exact Xj hS hρ (λ_=>rfl) hop
  ·cases hc
 ·rename_i t x hop;split at hc
  ·rename_i fs ht;injection hc with hc;subst hc;simp only[bK] at he;split at he
   ·rename_i cs hx;split at he
    ·rename_i hp;simp only[γ,ι] at he;obtain⟨rfl,rfl⟩:=he;exact Xi hS hρ ht hop hx hp
    ·cases he
   ·cases he
  ·cases hc
 ·rename_i t hop;split at hc
  ·split at hc
   ·injection hc with hc;subst hc;simp only[bK] at he;obtain⟨o2,hmk,h2⟩:=kg he;obtain⟨hd,rfl⟩:=wW hmk;simp only[ι] at h2;obtain⟨rfl,rfl⟩:=h2;exact XC hS hop hd
   ·cases hc
  ·cases hc
 ·
  rename_i t x k ok hop;split at hc
  ·rename_i kt et ht;split at hc
   ·rename_i ks ka z g hk hag hz hg;split at hc
    ·rename_i FV;injection hc with hc;subst hc;simp only[bK] at he;split at he
     ·rename_i id kv hx hkv;split at he
      ·rename_i es NI pu ho;split at he
       ·rename_i hkt;subst hkt;split at he
        ·rename_i i a q hf;simp only[γ,ι] at he;obtain⟨rfl,rfl⟩:=he;obtain⟨zv,hzv⟩:=XD hz FV;obtain⟨u,hu1,hu2⟩:=NB (w:=w) (σ:=σ) (o:=o) hz FV hzv;have:=NC (ok:=ok) hS hρ hop ht hk hag ⟨zv,u,hzv,hu1,hu2⟩ hx hkv ho hf hzv;simpa using this
        ·rename_i zv hf hzv;simp only[γ,ι] at he;obtain⟨rfl,rfl⟩:=he;obtain⟨u,hu1,hu2⟩:=NB (w:=w) (σ:=σ) (o:=o) hz FV hzv;have:=NC (ok:=ok) hS hρ hop ht hk hag ⟨zv,u,hzv,hu1,hu2⟩ hx hkv ho hf hzv;simpa using this
        ·cases he
       ·cases he
      ·cases he
     ·cases he
    ·cases hc
   ·cases hc
  ·cases hc
 ·rename_i t m k v' hop;split at hc
  ·rename_i kt et ht;split at hc
   ·rename_i ks ka hk hag;injection hc with hc;subst hc;simp only[bK] at he;split at he
    ·rename_i id kv hx hkv;split at he
     ·rename_i es NI pu ho;split at he;·cases he
      ·rename_i hcond;simp only[not_or,ζV] at hcond;obtain⟨iZ,hkt⟩:=hcond;subst hkt;have zi:pu=true->(bQ v').pure=true:=λhp=>by
        cases hq:(bQ v').pure with
        |true=>rfl;|false=>exact absurd ⟨hp,hq⟩ iZ
       split at he
       ·rename_i i a hf;simp only[γ,ι] at he;obtain⟨rfl,rfl⟩:=he;exact B2 hS hρ (.inl hop) ht hk hag hx hkv ho zi hf
       ·rename_i hf;simp only[γ,ι] at he;obtain⟨rfl,rfl⟩:=he;exact B2 hS hρ (.inl hop) ht hk hag hx hkv ho zi hf
       ·cases he
     ·cases he
    ·cases he
   ·cases hc
  ·cases hc
 ·rename_i t m k v' hop;split at hc
  ·rename_i kt et ht;split at hc
   ·rename_i ks ka hk hag;injection hc with hc;subst hc;simp only[bK] at he;split at he
    ·rename_i id kv hx hkv;split at he
     ·rename_i es NI pu ho;split at he;·cases he
      ·rename_i hcond;simp only[not_or,ζV] at hcond;obtain⟨iZ,hkt⟩:=hcond;subst hkt;have zi:pu=true->(bQ v').pure=true:=λhp=>by
        cases hq:(bQ v').pure with
        |true=>rfl;|false=>exact absurd ⟨hp,hq⟩ iZ
       split at he
       ·rename_i i a hf;simp only[γ,ι] at he;obtain⟨rfl,rfl⟩:=he;exact B2 hS hρ (.inr hop) ht hk hag hx hkv ho zi hf
       ·rename_i hf;simp only[γ,ι] at he;obtain⟨rfl,rfl⟩:=he;exact B2 hS hρ (.inr hop) ht hk hag hx hkv ho zi hf
       ·cases he
     ·cases he
    ·cases he
   ·cases hc
  ·cases hc
 ·cases hc
end
section
variable {A A':dN} {w w':World} {σ σ':bW} {o o':Store}
def Tr (o:Store) (σ:bW) (o':Store) (c:bW) (id a:Nat):Prop:=
 (∀f e g h,o[id]?=some (.cells f e g h)->∃b i d,o'[a]?=some (.cells b i g d)/\b.length=f.length)/\(IsMap o id->IsMap o' a)/\c[a]?=σ[id]?
theorem Tr.xd {id b a:Nat} (h:Tr o σ o' σ' id b) (k:tC o id a):tC o' b a:=by
 obtain⟨j,e,f,l,g,n⟩:=k;obtain⟨d,i,c,m,p⟩:=h.1 j e f l g;exact⟨d,i,f,c,m,by omega⟩
theorem Tr.cur {id g f sz:Nat} (h:Tr o σ o' σ' id g) (k:tC o id f) (p:ve o' g sz f):ve o id sz f:=by
 obtain⟨m,e,j,l,n,w⟩:=k;obtain⟨r,y,s,u,x⟩:=h.1 m e j l n;obtain⟨t,v,q,i,z⟩:=p;rw[u] at i;injection i with i;injection i with a b c d;subst a c;exact⟨m,e,l,n,by omega⟩
mutual
theorem AV.vj (m:Nat->Option Nat):∀(c:AV),c.pure=true->c.ren m=some c
 | .sc _,_=>rfl
 | .sl _ _,_=>rfl
 | .ud,h| .agg _,h| .bI _,h| .ep _ _,h| .ptr _ _ _,h| .os _ _ _ _,h| .mp _,h| .fn _ _ _,h| .jl _ _,h=>by simp[AV.pure] at h
end
theorem NJ (m:Nat->Option Nat):∀(cs:List AV),dA cs=true->iL m cs=some cs
 |[],_=>rfl
 |c::cs,h=>by
  simp only[dA,θ] at h;simp only[iL,AV.vj m c h.1,NJ m cs h.2]
mutual
theorem bw.ren [nS A A'] (l:∀b,b<w.heap.size->Fr A σ b->Fr A' σ' b) {m:Nat->Option Nat} (k:∀id e,m id=some e->Tr o σ o' σ' id e):
  ∀(c:AV) (v:Value) (q:AV),c.ren m=some q->bw A w σ o c v->bw A' w σ' o' q v
 | .ud,v,q,d,_=>by grind[δu,bw];| .sc u,v,q,d,h=>by grind[δu,bw];| .sl n g,v,q,d,h=>by
  simp only[δu,γ] at d;subst d;simp only[bw] at h ⊢;obtain⟨a,D,rfl,T,s,F⟩:=h;exact⟨a,D,rfl,T,s,dq.ren l k g a 0 s F⟩;| .ep g G,v,q,d,h=>by
  simp only[δu,γ] at d;subst d;simp only[bw] at h ⊢;obtain⟨a,rfl,s,F⟩:=h;exact⟨a,rfl,s,dq.ren l k g _ 0 s F⟩;| .agg g,v,q,d,h=>by
  simp only[δu,ε] at d;obtain⟨i,p,rfl⟩:=d;simp only[bw] at h ⊢;obtain⟨B,rfl,z⟩:=h;exact⟨B,rfl,bG.ren l k g _ i p z⟩;| .bI g,v,q,d,h=>by
  simp only[δu,ε] at d;obtain⟨i,p,rfl⟩:=d;simp only[bw] at h ⊢;obtain⟨B,rfl,z⟩:=h;exact⟨B,rfl,bG.ren l k g _ i p z⟩;| .ptr id G I,v,q,d,h=>by
  simp only[δu,ε] at d;obtain⟨e,p,rfl⟩:=d;have C:=k id e p;simp only[bw] at h ⊢;refine⟨C.xd h.1,h.2.1,λL E=>?_⟩;rw[C.2.2];exact h.2.2 L (C.cur h.1 E);| .os id G P I,v,q,d,h=>by
  simp only[δu,ε] at d;obtain⟨e,p,rfl⟩:=d;have C:=k id e p;simp only[bw] at h ⊢;obtain⟨N,a,D,K,z,O⟩:=h;refine⟨C.xd N,a,D,K,z,λL E=>?_⟩;have:=O L (C.cur N E);unfold kD at this ⊢;rw[C.2.2];exact this;| .mp id,v,q,d,h=>by
  simp only[δu,ε] at d;obtain⟨e,p,rfl⟩:=d;have C:=k id e p;simp only[bw] at h ⊢;rw[C.2.2];exact⟨C.2.1 h.1,h.2⟩;| .fn f a b,v,q,d,h=>by
  simp only[δu] at d;split at d
  ·rename_i Q V p J;injection d with d;subst d;simp only[bw] at h ⊢;obtain⟨x,y,rfl,R,S⟩:=h;exact⟨x,y,by rw[nS.eq (A:=A) (A':=A')],bG.ren l k a _ Q p R,bG.ren l k b _ V J S⟩
  ·cases d;| .jl t g,v,q,d,h=>by
  simp only[δu,γ] at d;subst d;simp only[bw] at h ⊢;obtain⟨B,rfl,s,z⟩:=h;exact⟨B,rfl,s,bG.ren l k g _ g (NJ m g s) z⟩
theorem bG.ren [nS A A'] (l:∀b,b<w.heap.size->Fr A σ b->Fr A' σ' b) {m:Nat->Option Nat} (k:∀id e,m id=some e->Tr o σ o' σ' id e):
  ∀(g:List AV) (B:List Value) (i:List AV),iL m g=some i->bG A w σ o g B->bG A' w σ' o' i B
 |[],B,i,d,h=>by grind[iL,bG];|c::g,B,i,d,h=>by
  simp only[iL] at d;split at d
  ·rename_i W H p J;injection d with d;subst d;simp only[bG] at h ⊢;obtain⟨v,r,rfl,K,z⟩:=h;exact⟨v,r,rfl,bw.ren l k c v W p K,bG.ren l k g r H J z⟩
  ·cases d
theorem dq.ren [nS A A'] (l:∀b,b<w.heap.size->Fr A σ b->Fr A' σ' b) {m:Nat->Option Nat} (k:∀id e,m id=some e->Tr o σ o' σ' id e):
  ∀(g:List AV) (a:Option Addr) (j:Nat),dA g=true->dq A w σ o g a j->dq A' w σ' o' g a j
 |[],_,_,_,_=>by simp[dq];|c::g,a,j,s,h=>by
  simp only[dA,θ] at s;simp only[dq] at h ⊢;obtain⟨⟨b,v,rfl,U,d,F⟩,z⟩:=h;have M:b.block<w.heap.size:=by grind[MX,add_block]
  exact⟨⟨b,v,rfl,l _ M U,d,bw.ren l k c v c (AV.vj m c s.1) F⟩,dq.ren l k g _ (j+1) s.2 z⟩
end
theorem FW {m:Nat->Option Nat}:∀{cs a:List AV},iL m cs=some a->a.length=cs.length/\∀(j:Nat) (b:AV),a[j]?=some b->∃c,cs[j]?=some c/\c.ren m=some b
 |[],a,h=>by grind[iL];|c::cs,a,h=>by
  simp only[iL] at h;split at h
  ·rename_i k e f d;injection h with h;subst h;obtain⟨i,g⟩:=FW d;grind
  ·cases h
theorem NK {m:Nat->Option Nat}:∀{es a:List (Value×AV)},oP m es=some a->a.length=es.length/\∀(j:Nat) (b:Value×AV),a[j]?=some b->∃e,es[j]?=some e/\e.1=b.1/\e.2.ren m=some b.2
 |[],a,h=>by grind[oP];|e::es,a,h=>by
  simp only[oP] at h;split at h
  ·rename_i v d f c;injection h with h;subst h;obtain⟨g,i⟩:=NK c;grind
  ·cases h
theorem XJ {m:Nat->Option Nat} {c a:AV} (h:c.ren m=some a) (b:c.one=true):a.one=true:=by
 cases c<;>simp only[δu,γ,ε] at h<;>simp only[AV.one,χ] at b<;>grind[δu,AV.one]
mutual
theorem ahO {m:Nat->Option Nat}:∀{c a:AV},c.ren m=some a->c.pure=true->a=c
 |c,a,h,b=>by
  grind[AV.vj]
end
theorem dE.ren [nS A A'] (hA:∀b,b<w.heap.size->Fr A σ b->Fr A' σ' b) {m:Nat->Option Nat} (hm:∀id id',m id=some id'->Tr o σ o' σ' id id') {i i':Nat} {x x':bR} (hx:x.ren m=some x') (hσ:σ'[i']?=σ[i]?)
  (h:dE A w σ o i x):dE A' w σ' o' i' x':=by
 cases x with
 |dead=>simp only[bR.ren,γ] at hx;subst hx;simp only[dE] at h ⊢;rw[hσ];exact h;|cells cs e sz pu=>
  simp only[dE] at h;obtain⟨h1,h2,h3⟩:=h;have key:∀cs',cs'.length=cs.length->(pu=true->dA cs'=true)->eL cs'=true->(∀(j:Nat) (c':AV) (v:Value),cs'[j]?=some c'->(∀c,cs[j]?=some c->bw A w σ o c v->bw A' w σ' o' c' v))->dE A' w σ' o' i' (.cells cs' e sz pu):=by
   intro cs' k1 k2 k3 k4;simp only[dE];refine⟨k2,k3,?_⟩;rcases h3 with⟨h0,h0'⟩|⟨b,cap,arr,r1,r2,r3,r4,r5,r6⟩;·left;rw[hσ];exact⟨h0,τ (by rw[k1,h0'];rfl)⟩
   ·refine .inr ⟨b,cap,arr,by rw[hσ];exact r1,r2,r3,r4,by omega,λj c' hj=>?_⟩;have hjl:j<cs.length:=by have:=(ζ.1 hj).1;omega
    obtain⟨v,hv,hr⟩:=r6 j _ (μ hjl);exact⟨v,hv,k4 j c' v hj _ (μ hjl) hr⟩
  simp only[bR.ren] at hx;split at hx
  ·rename_i iZ;injection hx with hx;subst hx;refine key cs rfl h1 h2 λj c' v hj c hc hr=>?_;rw[hj] at hc;injection hc with hc;subst hc;exact bw.ren hA hm c' v c' (AV.vj m c' (qk (h1 iZ) c' (γd hj))) hr
  ·rename_i iZ;obtain⟨cs',hc',rfl⟩:=ε.1 hx;obtain⟨g1,g2⟩:=FW hc';refine key cs' g1 (λhp=>absurd hp iZ) (nc.2 λc hc=>?_) λj c' v hj c hc hr=>?_
   ·obtain⟨j,hj⟩:=γF hc;obtain⟨c0,q1,q2⟩:=g2 j c hj;exact XJ q2 (nc.1 h2 c0 (γd q1))
   ·obtain⟨c0,q1,q2⟩:=g2 j c' hj;rw[hc] at q1;injection q1 with q1;subst q1;exact bw.ren hA hm c v c' q2 hr;|map es kt pu=>
  simp only[dE] at h;obtain⟨h1,h2,b,c,en,cl,h3,h4,h5,h6⟩:=h;simp only[bR.ren] at hx;split at hx
  ·rename_i iZ;injection hx with hx;subst hx;simp only[dE];refine⟨h1,h2,b,c,en,cl,by rw[hσ];exact h3,h4,h5,λj e he=>?_⟩;obtain⟨m',q1,q2,q3⟩:=h6 j e he;exact⟨m',q1,q2,bw.ren hA hm e.2 _ e.2 (AV.vj m e.2 (h1 iZ e (γd he))) q3⟩
  ·rename_i iZ;obtain⟨es',hc',rfl⟩:=ε.1 hx;obtain⟨g1,g2⟩:=NK hc';simp only[dE];refine⟨λhp=>absurd hp iZ,λe he=>?_,b,c,en,cl,by rw[hσ];exact h3,h4,⟨by have:=h5.1;omega,h5.2⟩,λj e' he=>?_⟩
   ·obtain⟨j,hj⟩:=γF he;obtain⟨e0,q1,q2,_⟩:=g2 j e hj;rw[<-q2];exact h2 e0 (γd q1)
   ·obtain⟨e0,q1,q2,q3⟩:=g2 j e' he;obtain⟨m',r1,r2,r3⟩:=h6 j e0 q1;exact⟨m',r1,by rw[r2,q2],bw.ren hA hm e0.2 _ e'.2 q3 r3⟩
def ql (k:Nat):Nat->Option Nat:=λi=>if i<k then some i else none
mutual
theorem B5 (k:Nat):∀(c:AV),c.bY k=true->c.ren (ql k)=some c
 | .ud,_| .sc _,_| .sl _ _,_| .ep _ _,_| .jl _ _,_=>rfl
 | .agg d,h=>by simp only[AV.bY] at h;simp[δu,xe k d h];| .bI d,h=>by simp only[AV.bY] at h;simp[δu,xe k d h];| .ptr e _ _,h=>by simp_all[AV.bY,δu,ql];| .os e _ _ _,h=>by simp_all[AV.bY,δu,ql];| .mp e,h=>by simp_all[AV.bY,δu,ql];| .fn f a b,h=>by simp only[AV.bY,θ] at h;simp[δu,xe k a h.1,xe k b h.2]
theorem xe (k:Nat):∀(d:List AV),ey k d=true->iL (ql k) d=some d
 |[],_=>rfl
 |c::d,h=>by simp only[ey,θ] at h;simp[iL,B5 k c h.1,xe k d h.2]
end
theorem NL {k:Nat} {cs:List AV}:ey k cs=true↔∀c∈cs,c.bY k=true:=by
 induction cs<;>grind[ey]
theorem NM (k:Nat) (id a:Nat) (h:ql k id=some a):Tr o σ (o.take k) (σ.take k) id a:=by
 unfold ql at h;split at h
 ·rename_i i;injection h with h;subst h;refine⟨λf e j b g=>⟨f,e,b,by simp_all,rfl⟩,λ⟨d,c,b,g⟩=>⟨d,c,b,by simp_all⟩,by simp_all⟩
 ·cases h
theorem NN (k:Nat) (b:Nat) (h:Fr A σ b):Fr A (σ.take k) b:=by
 refine⟨?_,h.2⟩;rintro⟨i,c,a⟩;rw[δg] at a;split at a;·exact h.1 ⟨i,c,a⟩
 ·cases a
theorem bw.take {k:Nat} {c:AV} {v:Value} (h:bw A w σ o c v) (a:c.bY k=true):bw A w (σ.take k) (o.take k) c v:=
 bw.ren (λb _ d=>NN k b d) (NM k) c v c (B5 k c a) h
theorem XK {k:Nat} {x:bR} (h:x.bY k=true):x.ren (ql k)=some x:=by
 cases x with
 |dead=>rfl;|cells g e i c=>
  grind[bR.bY,bR.ren,xe];|map a f c=>
  simp only[bR.bY,δv] at h;simp only[bR.ren];split;·rfl
  ·rename_i b;have d:=h.resolve_left b;have:oP (ql k) a=some a:=by
    clear h b;induction a<;>grind[ey,oP,B5]
   rw[this];rfl
theorem bT.take (e:bT A w σ o) {k:Nat} (n:∀x∈o.take k,x.bY k=true):bT A w (σ.take k) (o.take k):=by
 have a:∀(i:Nat) (s:Option (Nat×Nat)),(σ.take k)[i]?=some s->σ[i]?=some s:=by
  grind
 refine⟨by simp[e.len],λi j b c d g m=>e.dist i j b c d (a _ _ g) (a _ _ m),λi b c g=>e.bnd i b c (a _ _ g),λi x f=>?_,λi b c g=>e.av i b c (a _ _ g),e.jE⟩;have h:=f;rw[δg] at f;split at f
 ·rename_i p;exact dE.ren (λb _ l=>NN k b l) (NM k) (XK (n x (γd h))) (by simp_all) (e.obj i x f)
 ·cases f
theorem Ext.take {v:World} {j:bW} {u:Store} (h:Ext v j u w σ o) {k:Nat} (C:u.length<=k):Ext v j u w (σ.take k) (o.take k) where
 size:=h.size;blk:=λb z B=>by
  obtain⟨g,p⟩:=h.blk b z B;refine⟨g,?_⟩;rintro⟨i,c,q⟩;rw[δg] at q;split at q;·exact p ⟨i,c,q⟩
  ·cases q
 len:=by have:=h.len;simp;omega
 cur:=λm t l=>by
  obtain⟨g,p⟩:=h.cur m t l;have d:m<k:=by
   obtain⟨r,e,n,a,f,_⟩:=l;grind
  refine⟨?_,λn A=>?_⟩
  ·obtain⟨r,e,n,a,f,s⟩:=g;exact⟨r,e,n,a,by simp_all,s⟩
  ·rw[δy d];refine p n ?_;obtain⟨r,e,a,f,s⟩:=A;rw[δy d] at f;exact⟨r,e,a,f,s⟩
 isMap:=λm l=>by
  obtain⟨g,p⟩:=h.isMap m l;have d:m<k:=by
   obtain⟨x,y,a,f⟩:=l;grind
  refine⟨?_,by simp_all⟩;obtain⟨x,y,a,f⟩:=g;exact⟨x,y,a,by simp_all⟩
 os:=h.os;tape:=h.tape;output:=h.output
mutual
theorem bw.bY {k:Nat} (g:∀i x,k<=i->o[i]?=some x->x.mW=true):∀(c:AV) (v:Value),bw A w σ o c v->c.bY k=true
 | .ud,_,_| .sc _,_,_| .sl _ _,_,_| .ep _ _,_,_| .jl _ _,_,_=>rfl
 | .agg d,v,h=>by simp only[bw] at h;obtain⟨l,_,j⟩:=h;simp only[AV.bY];exact bG.bY g d _ j;| .bI d,v,h=>by simp only[bw] at h;obtain⟨l,_,j⟩:=h;simp only[AV.bY];exact bG.bY g d _ j;| .ptr n _ _,v,h=>by
  simp only[bw] at h;obtain⟨⟨d,e,s,m,p,_⟩,_⟩:=h;simp only[AV.bY,decide_eq_true_eq];grind[bR.mW];| .os n _ _ _,v,h=>by
  simp only[bw] at h;obtain⟨⟨d,e,s,m,p,_⟩,_⟩:=h;simp only[AV.bY,decide_eq_true_eq];grind[bR.mW];| .mp n,v,h=>by
  simp only[bw] at h;obtain⟨⟨B,z,m,p⟩,_⟩:=h;simp only[AV.bY,decide_eq_true_eq];grind[bR.mW];| .fn f a b,v,h=>by simp only[bw] at h;obtain⟨x,y,_,u,q⟩:=h;simp only[AV.bY,θ];exact⟨bG.bY g a _ u,bG.bY g b _ q⟩
theorem bG.bY {k:Nat} (g:∀i x,k<=i->o[i]?=some x->x.mW=true):∀(d:List AV) (l:List Value),bG A w σ o d l->ey k d=true
 |[],_,_=>rfl
 |c::d,l,h=>by
  simp only[bG] at h;obtain⟨v,r,_,t,j⟩:=h;simp only[ey,θ];exact⟨bw.bY g c v t,bG.bY g d r j⟩
end
theorem dE.bY {k i:Nat} {x:bR} (n:∀i x,k<=i->o[i]?=some x->x.mW=true) (h:dE A w σ o i x):x.bY k=true:=by
 cases x with
 |dead=>rfl;|cells t e s g=>
  simp only[dE] at h;simp only[bR.bY,δv];right;refine NL.2 λc a=>?_;obtain⟨j,f⟩:=γF a;grind[bw.bY];|map r p g=>
  simp only[dE] at h;obtain⟨_,_,b,c,m,l,_,_,_,q⟩:=h;simp only[bR.bY,δv];right;refine NL.2 λc a=>?_;obtain⟨e,d,rfl⟩:=List.mem_map.1 a;obtain⟨j,f⟩:=γF d;grind[bw.bY]
theorem XL {n i:Nat} {x:bR} (h:(gi n)[i]?=some x):x= .dead:=by
 grind[gi]
theorem bT.gi (f:bT A w σ o) (n:Nat):bT A w (σ++δ n none) (o++gi n)/\Ext w σ o w (σ++δ n none) (o++gi n):=by
 have g:∀(i:Nat) (b c:Nat),(σ++δ n none)[i]?=some (some (b,c))->σ[i]?=some (some (b,c)):=by
  grind
 have v:Ext w σ o w (σ++δ n none) (o++Go.Vi.gi n):=by
  refine⟨ξ _,λb _ F=>⟨rfl,λ⟨i,c,h⟩=>F ⟨i,c,g i b c h⟩⟩,by simp,λK I q=>?_,λK q=>?_,rfl,rfl,rfl⟩
  ·obtain⟨H,e,G,m,s,C⟩:=q;have a:=(ζ.1 s).1;refine⟨⟨H,e,G,m,by grind,C⟩,λB D=>⟨?_,by rw[δa (by rw[f.len];exact a)]⟩⟩;obtain⟨p,J,u,l,t⟩:=D;rw[δa a] at l;exact⟨p,J,u,l,t⟩
  ·obtain⟨z,y,m,s⟩:=q;have a:=(ζ.1 s).1;exact⟨⟨z,y,m,by grind⟩,by rw[δa (by rw[f.len];exact a)]⟩
 refine⟨⟨by simp[Go.Vi.gi,f.len],λi j b c d h E=>f.dist i j b c d (g _ _ _ h) (g _ _ _ E),λi b c h=>f.bnd i b c (g _ _ _ h),λi x k=>?_,λi b c h=>f.av i b c (g _ _ _ h),f.jE⟩,v⟩;rw[List.getElem?_append] at k;split at k
 ·rename_i a;exact(f.obj i x k).ext v (by rw[δa (by rw[f.len];exact a)]) λ_ _ _=>rfl
 ·rename_i a;have:=XL k;subst this;simp only[dE];have r:=(ζ.1 k).1;simp[Go.Vi.gi] at r;rw[ε5 (by rw[f.len];omega),List.getElem?_replicate,if_pos (by rw[f.len];omega)]
theorem XM (f:bT A w σ o) (k:Nat):∃b,bT A w b (qV k o)/\(∀c v,bw A w σ o c v->bw A w b (qV k o) c v)/\
  ∀(e:World) (a:bW) (d:Store),d.length<=k->Ext e a d w σ o->Ext e a d w b (qV k o):=by
 unfold qV;split
 ·rename_i h;have g:∀i x,k<=i->o[i]?=some x->x.mW=true:=by
   intro i x r l;refine List.all_eq_true.1 h x (γd (i:=i - k) ?_);simp_all
  refine⟨σ.take k,f.take λx l=>?_,λc v m=>m.take (bw.bY g c v m),λe a d q p=>p.take q⟩;obtain⟨j,n⟩:=γF (γm l);exact dE.bY g (f.obj j x n)
 ·exact⟨σ,f,λ_ _ h=>h,λ_ _ _ _ h=>h⟩
end
def kE (P:Program) (f:FuncId) (args:List AV) (o:Store) (r:AV) (o':Store):Prop:=
 ∀(A:dN) (w:World) (b:bW) (d:List Value),bT A w b o->bG A w b o args d->
  Calls P f d.toArray w λe c=>∃u a,e= .returned u/\bT A c a o'/\bw A c a o' r u/\Ext w b o c a o'
def pF (P:Program) (call:df):Prop:=
 ∀f a o b r c,call f a o b=some (r,c)->gW P f=true/\kE P f a o r c/\(b=false->c=[])
section
variable {P:Program} {A B:dN} {w w':World} {σ σ':bW} {o o':Store}
theorem B6 {d e:Type} {f:d->Option e}:∀{l:List d} {c:List e},l.mapM f=some c->c.length=l.length/\∀(j:Nat) (a:d),l[j]?=some a->∃b,c[j]?=some b/\f a=some b
 |[],c,h=>by simp_all;|a::l,c,h=>by
  rw[εP] at h;cases g:f a with
  |none=>simp[g] at h;|some b=>
   cases i:l.mapM f with
   |none=>simp_all;|some r=>
    simp[g,i] at h;subst h;obtain⟨m,k⟩:=B6 i;grind
theorem zj {f:AV->Option AV} {cs a:List AV} {vs:List Value} (h:cs.mapM f=some a) (e:bG A w σ o cs vs) (n:∀c∈cs,∀d v,f c=some d->bw A w σ o c v->bw B w σ' o' d v):bG B w σ' o' a vs:=by
 obtain⟨p,m⟩:=B6 h;have q:=bG.length _ _ e;refine bG.kY _ _ (by omega) λj d k=>?_;have g:j<cs.length:=by grind
 obtain⟨v,r,i⟩:=bG.get _ _ e j _ (μ g);obtain⟨b,s,l⟩:=m j _ (μ g);grind
theorem FX [nS A B] (hS:bT A w σ o) (hB:∀b,b<w.heap.size->Fr A σ b->¬B b):∀(d:Nat) (a Q:AV) (u:Value),freeze o d a=some Q->(∀id∈fu o d a,∀b c,σ[id]?=some (some (b,c))->¬B b)->
  bw A w σ o a u->bw B w [] [] Q u:=by
 have F:∀b,b<w.heap.size->Fr A σ b->Fr B [] b:=λb z f=>⟨λ⟨i,c,E⟩=>by simp at E,hB b z f⟩;have M:∀id t,(λ_:Nat=>(none:Option Nat)) id=some t->Tr o σ [] [] id t:=λ_ _ h=>by cases h
 intro d;induction d with
 |zero=>
  intro a Q u f _ s;cases a<;>simp only[freeze,reduceCtorEq,γ] at f;·grind[bw]
  ·rename_i v;split at f
   ·injection f with f;subst f;have:=gv s;subst this;simp only[bw,dq];exact⟨none,0,rfl,ξ _,rfl,trivial⟩
   grind[bw]
  ·subst f;exact bw.ren F M _ _ _ rfl s
  ·subst f;exact bw.ren F M _ _ _ rfl s;|succ d ih=>
  intro a Q u f ht s;cases a<;>simp only[freeze,reduceCtorEq,γ] at f;·grind[bw]
  ·rename_i v;split at f
   ·injection f with f;subst f;have:=gv s;subst this;simp only[bw,dq];exact⟨none,0,rfl,ξ _,rfl,trivial⟩
   grind[bw]
  ·rename_i C;obtain⟨I,h1,rfl⟩:=ε.1 f;grind[bw,zj,fu]
  ·rename_i C;obtain⟨I,h1,rfl⟩:=ε.1 f;grind[bw,zj,fu]
  ·subst f;exact bw.ren F M _ _ _ rfl s
  ·
   rename_i id q r a3;split at f
   ·rename_i C e R pu T;split at f
    ·rename_i y;obtain⟨D,P⟩:=y;simp only[bw] at s;obtain⟨a5,X,O,rfl,J,G⟩:=s;have Z:=G R ⟨C,e,pu,T,D⟩;have L:=hS.obj id _ T;simp only[dE] at L;obtain⟨q1,q2,q3⟩:=L;have k:∀(j:Nat) (c:AV),((C.drop q).take (r*R))[j]?=some c->∃(p:Addr) (v:Value),X=some p/\¬B p.block/\w.cell? (p.add j)=some v/\bw A w σ o c v:=by
      intro j c n;rw[δg] at n;split at n
      ·rename_i S;rw[δx] at n;have a1:0<r:=by
        grind
       unfold kD at Z;split at Z;·omega
       ·rename_i b c2 K;rcases q3 with⟨h0,_⟩|⟨b',a0,a4,U,_,r3,_,_,r6⟩;·simp_all
        ·rw[K] at U;simp only[γ,ι] at U;obtain⟨rfl,rfl⟩:=U;obtain⟨v,hv,m⟩:=r6 _ c n;refine⟨⟨b,q,none⟩,v,(by grind[pD]),ht id (by simp[fu]) b c2 K,?_,m⟩;grind[FN,World.cell?]
       simp_all
      ·cases n
     split at f
     ·rename_i N;injection f with f;subst f;have g:dA ((C.drop q).take (r*R))=true:=tH λc n=>qk (q1 N) c (γS (γm n));simp only[bw];refine⟨X,O,rfl,J,g,dq.kY _ _ _ λj c n=>?_⟩;obtain⟨p,v,V,x,l,m⟩:=k j c n;exact⟨p,v,V,⟨λ⟨i,c,E⟩=>by simp at E,x⟩,by simpa using l,bw.ren F M c v c (AV.vj _ c (qk g c (γd n))) m⟩
     ·rename_i N;split at f
      ·rename_i I H;split at f
       ·rename_i g;injection f with f;subst f;obtain⟨m1,m2⟩:=B6 H;simp only[bw];refine⟨X,O,rfl,J,g,dq.kY _ _ _ λj c' W=>?_⟩;have S:j<((C.drop q).take (r*R)).length:=by grind
        obtain⟨p,v,V,x,l,m⟩:=k j _ (μ S);obtain⟨b,z,Y⟩:=m2 j _ (μ S);rw[W] at z;injection z with z;subst z;refine⟨p,v,V,⟨λ⟨i,c,E⟩=>by simp at E,x⟩,by simpa using l,ih _ _ v Y (λt a2=>ht t ?_) m⟩;simp only[fu,T,γz];grind
       ·cases f
      ·cases f
    ·cases f
   ·cases f
  ·grind[bw,nS.eq,zj,fu]
  ·subst f;exact bw.ren F M _ _ _ rfl s
theorem bT.far (f:bT A w σ o) (e:Ext w [] [] w' σ' o'):bT A w' σ o/\Ext w σ o w' σ o:=by
 have a:∀b,b<w.heap.size->w'.heap[b]?=w.heap[b]?:=λb d=>(e.blk b d λ⟨i,c,l⟩=>by simp at l).1;have g:Ext w σ o w' σ o:=⟨e.size,λb d k=>⟨a b d,k⟩,ξ _,λ_ _ h=>⟨h,λ_ h=>⟨h,rfl⟩⟩,λ_ h=>⟨h,rfl⟩,e.os,e.tape,e.output⟩;exact⟨⟨f.len,f.dist,λi b c h=>γi (f.bnd i b c h) e.size,λi x j=>(f.obj i x j).ext g rfl λb c d=>a b (f.bnd i b c d),f.av,λb d=>γi (f.jE b d) e.size⟩,g⟩
mutual
theorem NP:∀(r:AV) (u:Value),r.kX=true->bw A w σ o r u->bw B w' σ' o' r u
 | .ud,_,_,_=>by simp[bw];| .sc v,u,_,h=>by grind[bw];| .agg b,u,a,h=>by
  simp only[AV.kX] at a;simp only[bw] at h ⊢;obtain⟨d,rfl,e⟩:=h;exact⟨d,rfl,FY b _ a e⟩;| .bI b,u,a,h=>by
  simp only[AV.kX] at a;simp only[bw] at h ⊢;obtain⟨d,rfl,e⟩:=h;exact⟨d,rfl,FY b _ a e⟩;| .sl n b,u,a,h=>by
  grind[AV.kX,bw,dq];| .ep _ _,_,a,_| .ptr _ _ _,_,a,_| .os _ _ _ _,_,a,_| .mp _,_,a,_| .fn _ _ _,_,a,_| .jl _ _,_,a,_=>by simp[AV.kX] at a
theorem FY:∀(b:List AV) (d:List Value),uX b=true->bG A w σ o b d->bG B w' σ' o' b d
 |[],d,_,h=>by grind[bG];|c::b,d,a,h=>by
  simp only[uX,θ] at a;simp only[bG] at h ⊢;obtain⟨v,r,rfl,f,e⟩:=h;exact⟨v,r,rfl,NP c v a.1 f,FY b r a.2 e⟩
end
theorem zk (w:World) (a:∀b,A b->b<w.heap.size):bT A w [] []:=⟨rfl,by simp,by simp,by simp,by simp,a⟩
theorem XN {call:df} (q:pF P call) (n:bT A w σ o) {f:FuncId} {args a:List AV} {vs:List Value} (N:bG A w σ o args vs) (K:args.mapM (freeze o 6)=some a) {r:AV}
  (X:call f a [] false=some (r,[])) (y:(args.flatMap (fu o 6)).isEmpty=true\/r.kX=true):
  gW P f=true/\Calls P f vs.toArray w λe w'=>∃u g,e= .returned u/\bT A w' g o/\bw A w' g o r u/\Ext w σ o w' g o:=by
 obtain⟨S,C,_⟩:=q _ _ _ _ _ _ X;refine⟨S,?_⟩;rcases y with y|y;·
  let B:dN:=⟨λb=>A b\/Own σ b,A.l⟩;have Q:∀b,B b->b<w.heap.size:=λb z=>Or.elim (show A b\/Own σ b from z) (n.jE b) λ⟨i,c,V⟩=>n.bnd i b c V;haveI:nS A B:=⟨rfl⟩;haveI:nS B A:=⟨rfl⟩;have j:bG B w [] [] a vs:=zj K N λc E J v s t=>FX n (λb _ d z=>Or.elim (show A b\/Own σ b from z) d.2 d.1) 6 c J v s (λI U=>by
   simp_all) t;refine(C B w [] vs (zk w Q) j).mono ?_;rintro e w' ⟨u,g,rfl,F,p,G⟩;obtain⟨M,L⟩:=n.far G;refine⟨u,σ,rfl,M,?_,L⟩;have D:r.bY 0=true:=bw.bY (k:=0) (λi x _ W=>by simp at W) r u p;refine bw.ren (m:=ql 0) (λb z d=>⟨λR=>d.2 (show A b\/Own σ b from .inr R),λT=>d.2 (show A b\/Own σ b from .inl T)⟩) (λI O h=>by grind[ql]) r u r (B5 0 r D) p
 ·have j:bG A w [] [] a vs:=zj K N λc E J v s t=>FX n (λb _ d z=>d.2 z) 6 c J v s (λI _ b Y H=>n.av I b Y H) t;refine(C A w [] vs (zk w n.jE) j).mono ?_;rintro e w' ⟨u,g,rfl,F,p,G⟩;obtain⟨M,L⟩:=n.far G;grind[NP]
end
section
variable {A:dN} {w:World} {σ:bW} {o:Store}
def jF (o:Store) (p:Nat->Bool) (i:Nat):Bool:=p i&&(match o[i]? with|some (.cells _ _ _ true)=>true|_=>false)
def lQ (o:Store) (p:Nat->Bool) (σ:bW):bW:=(ω σ.length).map λi=>if jF o p i then none else(σ[i]?).getD none
theorem FZ (o:Store) (p:Nat->Bool) (σ:bW):(lQ o p σ).length=σ.length:=by simp[lQ]
theorem F2 {o:Store} {p:Nat->Bool} {σ:bW} {i:Nat} (a:i<σ.length):(lQ o p σ)[i]?=some (if jF o p i then none else(σ[i]?).getD none):=by
 simp[lQ,a]
theorem vk {o:Store} {p:Nat->Bool} {σ:bW} {i:Nat} {s:Nat×Nat} (h:(lQ o p σ)[i]?=some (some s)):σ[i]?=some (some s)/\jF o p i=false:=by
 have a:i<σ.length:=by grind[FZ]
 simp_all[F2]
theorem NQ {o:Store} {p:Nat->Bool} {σ:bW} {i:Nat} (h:jF o p i=false):(lQ o p σ)[i]?=σ[i]?:=by
 grind[F2,FZ]
def F3 (p:Nat->Bool) (i:Nat):bR->bR
 | .cells b e a true=>if p i then .dead else .cells b e a true
 |x=>x
theorem B7 (p:Nat->Bool):∀(o:Store) (k i:Nat),(fO p k o)[i]?=(o[i]?).map (F3 p (k+i))
 |[],k,i=>by simp[fO];|x::r,k,i=>by
  simp only[fO];cases i with
  |zero=>simp only[List.getElem?_cons_zero,ν,Nat.add_zero];congr 1;|succ i=>simp only[γK];rw[B7 p r (k+1) i,show k+1+i=k+(i+1) from by omega]
theorem NR {p:Nat->Bool} {a:Store}:∀{o o':Store},jD a p o=some o'->o'.length=o.length/\∀(i:Nat) (x:bR),o[i]?=some x->∃y,x.bU a p=some y/\o'[i]?=some y
 |[],o',h=>by grind[jD];|x::r,o',h=>by
  simp only[jD] at h;split at h
  ·rename_i y l e b;injection h with h;subst h;obtain⟨d,c⟩:=NR b;grind
  ·cases h
theorem F4 {o:Store} {p:Nat->Bool}:∀{cs a:List AV},gV o p cs=some a->a.length=cs.length/\∀(j:Nat) (b:AV),a[j]?=some b->∃c,cs[j]?=some c/\c.bU o p=some b
 |[],a,h=>by grind[gV];|c::cs,a,h=>by
  simp only[gV] at h;split at h
  ·rename_i k e f d;injection h with h;subst h;obtain⟨i,g⟩:=F4 d;grind
  ·cases h
theorem NS {o:Store} {p:Nat->Bool}:∀{es a:List (Value×AV)},qg o p es=some a->a.length=es.length/\∀(j:Nat) (b:Value×AV),a[j]?=some b->∃e,es[j]?=some e/\e.1=b.1/\e.2.bU o p=some b.2
 |[],a,h=>by grind[qg];|e::es,a,h=>by
  simp only[qg] at h;split at h
  ·rename_i v d f c;injection h with h;subst h;obtain⟨g,i⟩:=NS c;grind
  ·cases h
theorem NT {o:Store} {p:Nat->Bool}:∀{env a:jB},uZ o p env=some a->∀s,(dM env s).bU o p=some (dM a s)
 |[],a,h,s=>by simp only[uZ,γ] at h;subst h;rfl;|(k,v)::r,a,h,s=>by
  simp only[uZ] at h;split at h
  ·rename_i e d b c;injection h with h;subst h;simp only[dM];cases f:Nat.beq k s with
   |true=>exact b;|false=>exact NT c s
  ·cases h
mutual
theorem AV.NU (o:Store) (p:Nat->Bool):∀(c:AV),c.pure=true->c.bU o p=some c
 | .sc _,_=>rfl
 | .sl _ _,_=>rfl
 | .ud,h| .agg _,h| .bI _,h| .ep _ _,h| .ptr _ _ _,h| .os _ _ _ _,h| .mp _,h| .fn _ _ _,h| .jl _ _,h=>by simp[AV.pure] at h
end
theorem XO {o:Store} {p:Nat->Bool} {c a:AV} (h:c.bU o p=some a) (b:c.one=true):a.one=true:=by
 cases c<;>simp only[AV.one,χ] at b<;>simp only[AV.bU] at h<;>grind[AV.one,AV.bU]
structure tK (o:Store) (p:Nat->Bool) (o2:Store):Prop where
 len:o2.length=o.length
 get:∀i x,o[i]?=some x->(jF o p i=true/\o2[i]?=some .dead)\/(jF o p i=false/\∃y,x.bU o p=some y/\o2[i]?=some y)
theorem NV {o a:Store} {p:Nat->Bool} (h:jD o p o=some a):tK o p (fO p 0 a):=by
 obtain⟨k,l⟩:=NR h;have n:(fO p 0 a).length=o.length:=by
  rw[<-k];apply Nat.le_antisymm
  ·rcases ζa a.length (fO p 0 a).length with h|h
   ·exfalso;have:=B7 p a 0 a.length;simp_all
   ·exact h
  ·rcases ζa (fO p 0 a).length a.length with h|h
   ·exfalso;have:=B7 p a 0 (fO p 0 a).length;simp_all
   ·exact h
 refine⟨n,λi x j=>?_⟩;obtain⟨y,b,f⟩:=l i x j;have d:=B7 p a 0 i;rw[f,Nat.zero_add] at d;simp only[ν] at d;unfold jF;rw[j];cases x with
 |cells s e q g=>
  cases g with
  |true=>
   simp only[bR.bU,if_true,γ] at b;grind[F3];|false=>
   right;simp only[bR.bU,χ,if_false,ε] at b;grind[F3]
 |dead=>
  simp only[bR.bU,γ] at b;subst b;right;exact⟨by simp,_,rfl,d⟩;|map r m g=>
  right;have:∃c,y= .map c m g:=by
   simp only[bR.bU] at b;split at b;·grind
   ·obtain⟨c,_,rfl⟩:=ε.1 b;simp_all
  obtain⟨c,rfl⟩:=this;exact⟨by simp,_,b,d⟩
theorem tK.tr {o2:Store} {p:Nat->Bool} (h:tK o p o2) {id:Nat} (m:jF o p id=false):Tr o σ o2 (lQ o p σ) id id:=by
 refine⟨λn e q d c=>?_,λ⟨l,g,d,c⟩=>?_,NQ m⟩
 ·rcases h.get id _ c with⟨i,_⟩|⟨_,y,a,b⟩;·simp_all
  ·simp only[bR.bU] at a;split at a;·grind
   ·obtain⟨k,j,rfl⟩:=ε.1 a;grind[F4]
 ·rcases h.get id _ c with⟨i,_⟩|⟨_,y,a,b⟩;·simp_all
  ·simp only[bR.bU] at a;split at a;·injection a with a;subst a;exact⟨l,g,d,b⟩
   ·obtain⟨f,j,rfl⟩:=ε.1 a;exact⟨f,g,d,b⟩
theorem vl {p:Nat->Bool} {b:Nat} (h:Fr A σ b):Fr A (lQ o p σ) b:=⟨λ⟨i,c,a⟩=>h.1 ⟨i,c,(vk a).1⟩,h.2⟩
mutual
theorem bw.bU (E:bT A w σ o) {p:Nat->Bool} {o2:Store} (D:tK o p o2):∀(c:AV) (v:Value) (q:AV),c.bU o p=some q->bw A w σ o c v->bw A w (lQ o p σ) o2 q v
 | .ud,v,q,d,_=>by grind[AV.bU,bw];| .sc u,v,q,d,h=>by grind[AV.bU,bw];| .sl n s,v,q,d,h=>by
  simp only[AV.bU,γ] at d;subst d;exact bw.ren (m:=λ_=>none) (λb _ z=>vl z) (λ_ _ h=>by cases h) _ _ _ rfl h;| .ep s B,v,q,d,h=>by
  simp only[AV.bU,γ] at d;subst d;exact bw.ren (m:=λ_=>none) (λb _ z=>vl z) (λ_ _ h=>by cases h) _ _ _ rfl h;| .agg s,v,q,d,h=>by
  simp only[AV.bU,ε] at d;obtain⟨k,K,rfl⟩:=d;simp only[bw] at h ⊢;obtain⟨F,rfl,Q⟩:=h;exact⟨F,rfl,bG.bU E D s _ k K Q⟩;| .bI s,v,q,d,h=>by
  simp only[AV.bU,ε] at d;obtain⟨k,K,rfl⟩:=d;simp only[bw] at h ⊢;obtain⟨F,rfl,Q⟩:=h;exact⟨F,rfl,bG.bU E D s _ k K Q⟩;| .ptr l B G,v,q,d,h=>by
  have H:jF o p l=false/\q= .ptr l B G:=by
   grind[jF,AV.bU]
  obtain⟨H,rfl⟩:=H;exact bw.ren (m:=λi=>if i=l then some l else none) (λb _ z=>vl z) (λi j g=>by
   split at g;·rename_i M;injection g with g;subst M;subst g;exact D.tr H
   ·cases g) _ _ _ (by simp[δu]) h;| .mp l,v,q,d,h=>by
  simp only[AV.bU,γ] at d;subst d;have H:jF o p l=false:=by
   simp only[bw] at h;obtain⟨⟨es,kt,pu,S⟩,_⟩:=h;simp[jF,S]
  exact bw.ren (m:=λi=>if i=l then some l else none) (λb _ z=>vl z) (λi j g=>by
   split at g;·rename_i M;injection g with g;subst M;subst g;exact D.tr H
   ·cases g) _ _ _ (by simp[δu]) h;| .fn f a b,v,q,d,h=>by
  simp only[AV.bU] at d;split at d
  ·rename_i a' b' K h2;injection d with d;subst d;simp only[bw] at h ⊢;obtain⟨x,y,rfl,hx,hy⟩:=h;exact⟨x,y,rfl,bG.bU E D a _ a' K hx,bG.bU E D b _ b' h2 hy⟩
  ·cases d;| .jl t s,v,q,d,h=>by
  simp only[AV.bU,γ] at d;subst d;exact bw.ren (m:=λ_=>none) (λb _ z=>vl z) (λ_ _ h=>by cases h) _ _ _ rfl h;| .os l B L G,v,q,d,h=>by
  have a3:jF o p l=false->q= .os l B L G->bw A w (lQ o p σ) o2 q v:=by
   rintro H rfl;exact bw.ren (m:=λi=>if i=l then some l else none) (λb _ z=>vl z) (λi j g=>by
    split at g;·rename_i M;injection g with g;subst M;subst g;exact D.tr H
    ·cases g) _ _ _ (by simp[δu]) h
  simp only[AV.bU] at d;split at d
  ·rename_i hp;split at d
   ·rename_i s e sz pu S;split at d
    ·rename_i V;subst V;split at d
     ·rename_i J;injection d with d;subst d;obtain⟨N,R⟩:=J;have a4:jF o p l=true:=by grind[jF]
      simp only[bw] at h;obtain⟨a6,X,Y,rfl,W,O⟩:=h;have hk:=O sz ⟨s,e,true,S,N⟩;have P:=E.obj l _ S;simp only[dE] at P;obtain⟨q1,q2,q3⟩:=P;have C:dA ((s.drop B).take (L*sz))=true:=tH λc d=>qk (q1 trivial) c (γS (γm d));simp only[bw];refine⟨X,Y,rfl,W,C,dq.kY _ _ _ λj c d=>?_⟩;have a0:=qk C c (γd d);rw[δg] at d;split at d
      ·rename_i hj;rw[δx] at d;have a2:0<L:=by
        grind
       unfold kD at hk;split at hk;·omega
       ·rename_i b c2 I;rcases q3 with⟨M,_⟩|⟨b',a1,a5,T,_,r3,_,_,r6⟩;·simp_all
        ·rw[I] at T;simp only[γ,ι] at T;obtain⟨rfl,rfl⟩:=T;obtain⟨u,hu,U⟩:=r6 _ c d;refine⟨⟨b,B,none⟩,u,(by grind[pD]),⟨?_,E.av l b c2 I⟩,?_,?_⟩
         ·rintro⟨i,c3,hi⟩;obtain⟨k1,k2⟩:=vk hi;have:=E.dist l i b c2 c3 I k1;simp_all
         ·grind[FN,World.cell?]
         ·exact bw.ren (m:=λ_=>none) (λb _ z=>vl z) (λ_ _ h=>by cases h) c u c (AV.vj _ c a0) U
       simp_all
      ·cases d
     ·cases d
    grind[jF]
   grind[jF]
  grind[jF]
theorem bG.bU (E:bT A w σ o) {p:Nat->Bool} {o2:Store} (D:tK o p o2):∀(s:List AV) (F:List Value) (k:List AV),gV o p s=some k->bG A w σ o s F->bG A w (lQ o p σ) o2 k F
 |[],F,k,d,h=>by grind[gV,bG];|c::s,F,k,d,h=>by
  simp only[gV] at d;split at d
  ·rename_i c1 Z K h2;injection d with d;subst d;simp only[bG] at h ⊢;obtain⟨v,r,rfl,hv,Q⟩:=h;exact⟨v,r,rfl,bw.bU E D c v c1 K hv,bG.bU E D s r Z h2 Q⟩
  ·cases d
end
end
section
variable {A:dN} {w:World} {σ:bW} {o:Store}
theorem dE.bU (hS:bT A w σ o) {p:Nat->Bool} {o2:Store} (hF:tK o p o2) {i:Nat} {x y:bR} (hx:o[i]?=some x) (hd:jF o p i=false) (hy:x.bU o p=some y):dE A w (lQ o p σ) o2 i y:=by
 have h:=hS.obj i x hx;have hσ:=NQ (σ:=σ) hd;cases x with
 |dead=>simp only[bR.bU,γ] at hy;subst hy;simp only[dE] at h ⊢;rw[hσ];exact h;|cells cs e sz pu=>
  simp only[dE] at h;obtain⟨h1,h2,h3⟩:=h;have key:∀cs',cs'.length=cs.length->(pu=true->dA cs'=true)->eL cs'=true->(∀(j:Nat) (c':AV) (v:Value),cs'[j]?=some c'->(∀c,cs[j]?=some c->bw A w σ o c v->bw A w (lQ o p σ) o2 c' v))->dE A w (lQ o p σ) o2 i (.cells cs' e sz pu):=by
   intro cs' k1 k2 k3 k4;simp only[dE];refine⟨k2,k3,?_⟩;rcases h3 with⟨h0,h0'⟩|⟨b,cap,arr,r1,r2,r3,r4,r5,r6⟩;·left;rw[hσ];exact⟨h0,τ (by rw[k1,h0'];rfl)⟩
   ·refine .inr ⟨b,cap,arr,by rw[hσ];exact r1,r2,r3,r4,by omega,λj c' hj=>?_⟩;have hjl:j<cs.length:=by have:=(ζ.1 hj).1;omega
    obtain⟨v,hv,hr⟩:=r6 j _ (μ hjl);exact⟨v,hv,k4 j c' v hj _ (μ hjl) hr⟩
  simp only[bR.bU] at hy;split at hy
  ·rename_i iZ;injection hy with hy;subst hy;refine key cs rfl h1 h2 λj c' v hj c hc hr=>?_;rw[hj] at hc;injection hc with hc;subst hc;exact bw.bU hS hF c' v c' (AV.NU o p c' (qk (h1 iZ) c' (γd hj))) hr
  ·rename_i iZ;obtain⟨cs',hc',rfl⟩:=ε.1 hy;obtain⟨g1,g2⟩:=F4 hc';refine key cs' g1 (λhp=>absurd hp iZ) (nc.2 λc hc=>?_) λj c' v hj c hc hr=>?_
   ·obtain⟨j,hj⟩:=γF hc;obtain⟨c0,q1,q2⟩:=g2 j c hj;exact XO q2 (nc.1 h2 c0 (γd q1))
   ·obtain⟨c0,q1,q2⟩:=g2 j c' hj;rw[hc] at q1;injection q1 with q1;subst q1;exact bw.bU hS hF c v c' q2 hr;|map es kt pu=>
  simp only[dE] at h;obtain⟨h1,h2,b,c,en,cl,h3,h4,h5,h6⟩:=h;simp only[bR.bU] at hy;split at hy
  ·rename_i iZ;injection hy with hy;subst hy;simp only[dE];refine⟨h1,h2,b,c,en,cl,by rw[hσ];exact h3,h4,h5,λj e he=>?_⟩;obtain⟨m',q1,q2,q3⟩:=h6 j e he;exact⟨m',q1,q2,bw.bU hS hF e.2 _ e.2 (AV.NU o p e.2 (h1 iZ e (γd he))) q3⟩
  ·rename_i iZ;obtain⟨es',hc',rfl⟩:=ε.1 hy;obtain⟨g1,g2⟩:=NS hc';simp only[dE];refine⟨λhp=>absurd hp iZ,λe he=>?_,b,c,en,cl,by rw[hσ];exact h3,h4,⟨by have:=h5.1;omega,h5.2⟩,λj e' he=>?_⟩
   ·obtain⟨j,hj⟩:=γF he;obtain⟨e0,q1,q2,_⟩:=g2 j e hj;rw[<-q2];exact h2 e0 (γd q1)
   ·obtain⟨e0,q1,q2,q3⟩:=g2 j e' he;obtain⟨m',r1,r2,r3⟩:=h6 j e0 q1;exact⟨m',r1,by rw[r2,q2],bw.bU hS hF e0.2 _ e'.2 q3 r3⟩
theorem bT.bU (e:bT A w σ o) {p:Nat->Bool} {o2:Store} (g:tK o p o2):bT A w (lQ o p σ) o2:=by
 refine⟨by rw[FZ,g.len,e.len],λi j b c d a m=>e.dist i j b c d (vk a).1 (vk m).1,λi b c a=>e.bnd i b c (vk a).1,λi y h=>?_,λi b c a=>e.av i b c (vk a).1,e.jE⟩;have a:i<o.length:=by have:=(ζ.1 h).1;rw[g.len] at this;exact this
 have l:=μ a;rcases g.get i _ l with⟨k,f⟩|⟨k,z,f,n⟩
 ·rw[h] at f;injection f with f;subst f;simp only[dE];rw[F2 (by rw[e.len];exact a),k];rfl
 grind[dE.bU]
theorem Ext.bU {t:World} {k:bW} {h:Store} (a:Ext t k h w σ o) {p:Nat->Bool} {o2:Store} (m:tK o p o2) (B:∀i,i<h.length->p i=false):Ext t k h w (lQ o p σ) o2 where
 size:=a.size;blk:=λb u y=>by
  obtain⟨g,j⟩:=a.blk b u y;exact⟨g,λ⟨i,c,z⟩=>j ⟨i,c,(vk z).1⟩⟩
 len:=by rw[m.len];exact a.len
 cur:=λd q l=>by
  obtain⟨g,j⟩:=a.cur d q l;have r:d<h.length:=by obtain⟨D,e,s,A,x,_⟩:=l;grind
  have n:jF o p d=false:=by grind[jF]
  have f:=m.tr (σ:=σ) n;refine⟨f.xd g,λs v=>?_⟩;rw[f.2.2];exact j s (f.cur g v)
 isMap:=λd l=>by
  obtain⟨g,j⟩:=a.isMap d l;have r:d<h.length:=by obtain⟨C,E,A,x⟩:=l;grind
  have n:jF o p d=false:=by grind[jF]
  have f:=m.tr (σ:=σ) n;exact⟨f.2.1 g,by rw[f.2.2];exact j⟩
 os:=a.os;tape:=a.tape;output:=a.output
end
def qm (o:Store) (d:Nat) (id:Nat) (acc:List Nat):List Nat:=
 if acc.contains id then acc else
 match o[id]? with
 |some (.cells b _ _ a)=>if a then acc++[id] else cQ o d b (acc++[id])
 |some (.map c _ a)=>if a then acc++[id] else cQ o d (c.map (·.2)) (acc++[id])
 |_=>acc++[id]
def vm (o:Store) (d:Nat) (v:AV) (acc:List Nat):List Nat:=
 match v with
 | .agg e| .bI e=>cQ o d e acc
 | .ptr c _ _| .os c _ _ _| .mp c=>qm o d c acc
 | .fn _ a b=>cQ o d b (cQ o d a acc)
 |_=>acc
theorem zl (o:Store) (d:Nat) (v:AV) (vs:List AV) (acc:List Nat):cQ o (d+1) (v::vs) acc=cQ o d vs (vm o d v acc):=by
 cases v<;>rfl
theorem zm:∀(a:List Nat) (o X:Store),(lL o a X).length=o.length
 |[],o,X=>by cases X<;>rfl;|i::r,o,[]=>rfl
 |i::r,o,x::l=>by simp only[lL];rw[zm r];simp
theorem B8:∀(a:List Nat) (o X:Store) (j:Nat),j∉a->(lL o a X)[j]?=o[j]?
 |[],o,X,j,_=>by cases X<;>rfl;|i::r,o,[],j,_=>rfl
 |i::r,o,x::l,j,h=>by
  simp only[γz,not_or] at h;simp only[lL];rw[B8 r _ l j h.2,List.getElem?_set_ne (Ne.symm h.1)]
theorem F5 {m:Nat->Option Nat}:∀{o o':Store},sd m o=some o'->o'.length=o.length
 |[],o',h=>by grind[sd];|x::r,o',h=>by
  simp only[sd] at h;split at h;·rename_i y l b a;injection h with h;subst h;simp[F5 a]
  ·cases h
theorem tL (o:Store):∀(d:Nat) (vs:List AV) (acc:List Nat),∃t,cQ o d vs acc=acc++t
 |0,vs,acc=>⟨[],by grind[cQ]⟩
 |d+1,[],acc=>⟨[],by simp[cQ]⟩
 |d+1,v::vs,acc=>by
  rw[zl];have e:∀c,∃t,qm o d c acc=acc++t:=by
   intro c;unfold qm;split;·simp_all
   ·split
    ·split;·simp_all
     ·obtain⟨t,h⟩:=tL o d ‹_› (acc++[c]);simp_all
    ·split;·simp_all
     ·rename_i m _ _ _ _;obtain⟨t,h⟩:=tL o d (m.map (·.2)) (acc++[c]);simp_all
    simp_all
  have j:∃t,vm o d v acc=acc++t:=by
   cases v with
   |agg g=>exact tL o d g acc;|bI g=>exact tL o d g acc;|ptr c _ _=>exact e c;|os c _ _ _=>exact e c;|mp c=>exact e c;|fn f a b=>
    obtain⟨i,n⟩:=tL o d a acc;obtain⟨l,p⟩:=tL o d b (acc++i);grind[vm];|_=>exact⟨[],by simp[vm]⟩
  obtain⟨t,h⟩:=j;obtain⟨l,k⟩:=tL o d vs (acc++t);simp_all
theorem xf:∀{b:List Nat} {i k j:Nat},idxOf b i k=some j->k<=j/\b[j - k]?=some i
 |[],i,k,j,h=>by grind[idxOf];|a::r,i,k,j,h=>by
  simp only[idxOf] at h;split at h;·simp_all
  ·obtain⟨d,c⟩:=xf h;grind
theorem B9:∀{l:List Nat},iM.pz l=true->l.Nodup
 |[],_=>List.nodup_nil
 |a::r,h=>by
  simp only[iM.pz,θ,δf,List.contains_eq_mem,decide_eq_false_iff_not] at h;exact γW.2 ⟨h.1,B9 h.2⟩
theorem xg {o:Store} {b:List Nat}:∀{r:List Nat} {s:Store},kW o b r=some s->s.length=r.length/\∀(j i:Nat),r[j]?=some i->∃x y,o[i]?=some x/\x.ren (λj=>idxOf b j)=some y/\s[j]?=some y
 |[],s,h=>by grind[kW];|a::r,s,h=>by
  simp only[kW] at h;split at h
  ·rename_i x l f c;obtain⟨y,d,rfl⟩:=ε.1 h;obtain⟨g,e⟩:=xg c;grind
  ·cases h
theorem Cb {m:Nat->Option Nat}:∀{o o':Store},sd m o=some o'->∀(i:Nat) (x:bR),o[i]?=some x->∃y,x.ren m=some y/\o'[i]?=some y
 |[],o',h,i,x,b=>by simp at b;|a::r,o',h,i,x,b=>by
  simp only[sd] at h;split at h
  ·rename_i y l f c;injection h with h;subst h;cases i with
   |zero=>simp_all;|succ i=>obtain⟨z,e,d⟩:=Cb c i x (by simp_all);simp_all
  ·cases h
theorem NW {m:Nat->Option Nat} {cs:List AV} {e:TypeId} {sz:Nat} {pu:Bool} {y:bR} (h:(bR.cells cs e sz pu).ren m=some y):∃a,y= .cells a e sz pu/\a.length=cs.length:=by
 simp only[bR.ren] at h;split at h;·grind
 ·obtain⟨a,b,rfl⟩:=ε.1 h;grind[FW]
theorem NY {m:Nat->Option Nat} {es:List (Value×AV)} {b:List Nat×Bool} {pu:Bool} {y:bR} (h:(bR.map es b pu).ren m=some y):∃a,y= .map a b pu:=by
 simp only[bR.ren] at h;split at h;·grind
 ·obtain⟨a,c,rfl⟩:=ε.1 h;simp_all
def lR (σ:bW) (a:List Nat):bW:=a.map λi=>(σ[i]?).getD none
section
variable {A A':dN} {w:World} {σ:bW} {o s:Store} {ids:List Nat}
theorem rf {j:Nat} {t:Nat×Nat} (h:(lR σ ids)[j]?=some (some t)):∃i,ids[j]?=some i/\σ[i]?=some (some t):=by
 grind[lR]
theorem F6 (a:σ.length=o.length) (b:kW o ids ids=some s) {j i:Nat} (c:ids[j]?=some i):(lR σ ids)[j]?=σ[i]?:=by
 obtain⟨_,d⟩:=xg b;grind[lR]
theorem vn (c:σ.length=o.length) (i:kW o ids ids=some s) {id a:Nat} (h:idxOf ids id=some a):Tr o σ s (lR σ ids) id a:=by
 obtain⟨_,f⟩:=xf h;simp only[εR] at f;obtain⟨_,n⟩:=xg i;obtain⟨x,y,m,l,d⟩:=n a id f;refine⟨λr e q j b=>?_,λ⟨p,k,j,b⟩=>?_,F6 c i f⟩;·grind[NW]
 ·rw[m] at b;injection b with b;subst b;obtain⟨g,rfl⟩:=NY l;exact⟨g,k,j,d⟩
theorem bT.sub [nS A A'] (f:bT A w σ o) (u:ids.Nodup) (n:kW o ids ids=some s) (E:∀b,b<w.heap.size->Fr A σ b->Fr A' (lR σ ids) b)
  (D:∀i∈ids,∀b c,σ[i]?=some (some (b,c))->¬A' b) (g:∀b,A' b->b<w.heap.size):bT A' w (lR σ ids) s:=by
 obtain⟨F,B⟩:=xg n;refine⟨by grind[lR],λi j b c d m l=>?_,λi b c m=>?_,λj y C=>?_,λi b c m=>?_,g⟩
 ·obtain⟨x,k,e⟩:=rf m;obtain⟨z,t,p⟩:=rf l;have:=f.dist x z b c d e p;subst this;exact(ζm (ζ.1 k).1 u).1 (k.trans t.symm)
 ·obtain⟨x,k,e⟩:=rf m;exact f.bnd x b c e
 ·have q:j<ids.length:=by grind
  have l:=μ q;obtain⟨x,H,k,r,a⟩:=B j _ l;rw[C] at a;injection a with a;subst a;exact dE.ren E (λG v h=>vn f.len n h) r (F6 f.len n l) (f.obj _ x k)
 grind[rf]
theorem XP {o':Store} {U:World} {H:bW} {p:Store} (Z:bT A w σ o) (hE:Ext U H p w σ o) {V r:AV} {u:Value} (hr:bw A w σ o V u) (g:lM p.length V o=some (r,o')):
  ∃F,bT A w F o'/\bw A w F o' r u/\Ext U H p w F o':=by
 unfold lM at g;split at g
 ·rename_i Y o1 S O;have N:=NV O;have f:=Z.bU N;have d:=hE.bU N (λi z=>by simp_all);have C:=bw.bU Z N _ _ _ S hr;simp only at g;generalize fO (λi=>decide (p.length<=i)) 0 o1=M at g N f d C;generalize lQ o (λi=>decide (p.length<=i)) σ=D at f d C;obtain⟨t,ht⟩:=tL M fN (Y::(M.take p.length).flatMap lM.bR.y9) (ω p.length);generalize cQ M fN (Y::(M.take p.length).flatMap lM.bR.y9) (ω p.length)=n at g ht;split at g
  ·rename_i L;split at g
   ·rename_i r2 s2 Q s;simp only[γ,ι] at g;obtain⟨rfl,rfl⟩:=g;have J:∀b,b<w.heap.size->Fr A D b->Fr A (lR D n) b:=λb _ g=>⟨λ⟨i,c,z⟩=>by
     obtain⟨x,hx,B⟩:=rf z;exact g.1 ⟨x,c,B⟩,g.2⟩;have K:∀i,i<p.length->n[i]?=some i:=by
     grind
    have y:∀i,i<p.length->idxOf n i=some i:=by
     intro i z;have T:i∈n:=γd (K i z);have:∃j,idxOf n i=some j:=by
      have a0:∀(l:List Nat) (k:Nat),i∈l->∃j,idxOf l i k=some j:=by
       intro l;induction l with
       |nil=>simp_all;|cons a l ih=>
        intro k h;simp only[idxOf];split;·simp_all
        ·rename_i P;refine ih (k+1) ((γz.1 h).resolve_left λq=>P (by simp[q]))
      simp_all
     obtain⟨j,W⟩:=this;obtain⟨_,q⟩:=xf W;simp only[εR] at q;have:=(ζm (ζ.1 q).1 (B9 L)).1 (q.trans (K i z).symm);rw[W,this]
    refine⟨lR D n,f.sub (B9 L) s J (λi _ b c h=>f.av i b c h) f.jE,bw.ren J (λv a1 h=>vn f.len s h) _ _ _ Q C,d.size,λb hb hn=>?_,?_,λv R I=>?_,λv I=>?_,d.os,d.tape,d.output⟩
    ·obtain⟨G,q⟩:=d.blk b hb hn;refine⟨G,λ⟨i,c,z⟩=>?_⟩;obtain⟨x,hx,B⟩:=rf z;exact q ⟨x,c,B⟩
    ·grind[xg]
    ·obtain⟨G,q⟩:=d.cur v R I;have E:v<p.length:=by obtain⟨cs,e,X,pu,ho,_⟩:=I;grind
     have m:=vn f.len s (y v E);refine⟨m.xd G,λX hc=>?_⟩;rw[m.2.2];exact q X (m.cur G hc)
    ·obtain⟨G,q⟩:=d.isMap v I;have E:v<p.length:=by obtain⟨es,kt,pu,ho⟩:=I;grind
     have m:=vn f.len s (y v E);exact⟨m.2.1 G,by rw[m.2.2];exact q⟩
   ·cases g
  ·cases g
 ·cases g
end
theorem NZ:∀(b:List Nat) (o X:Store) (j i:Nat) (x:bR),b.Nodup->b[j]?=some i->i<o.length->X[j]?=some x->(lL o b X)[i]?=some x
 |[],o,X,j,i,x,_,c,_,_=>by simp at c;|a::r,o,[],j,i,x,_,_,_,d=>by simp at d;|a::r,o,y::l,j,i,x,e,c,f,d=>by
  rw[γW] at e;simp only[lL];cases j with
  |zero=>
   grind[B8];|succ j=>
   simp only[γK] at c d;exact NZ r _ l j i x e.2 c (by simp_all) d
theorem F7 {i:Nat}:∀{l:List Nat} {k:Nat},i∈l->∃j,idxOf l i k=some j
 |[],k,h=>by simp at h;|a::l,k,h=>by
  simp only[idxOf];split;·simp_all
  ·rename_i b;exact F7 ((γz.1 h).resolve_left λc=>b (by simp[c]))
def pG (σ b:bW) (a:List Nat):bW:=
 ((ω σ.length).map λi=>match idxOf a i with|some j=>(b[j]?).getD none|none=>(σ[i]?).getD none)++b.drop a.length
section
variable {A:dN} {w:World} {σ:bW} {o:Store}
theorem XQ {P:Program} {call:df} (a9:pF P call) (v:bT A w σ o) {f:FuncId} {args:List AV} {vs:List Value} (hr:bG A w σ o args vs)
  {r:AV} {o':Store} (J:iM call f args o=some (r,o')):
  gW P f=true/\Calls P f vs.toArray w λe w'=>∃u g,e= .returned u/\bT A w' g o'/\bw A w' g o' r u/\Ext w σ o w' g o':=by
 unfold iM at J;simp only at J;generalize cQ o fN args []=a at J;split at J
 ·rename_i U T ha I;split at J
  ·rename_i r1 n c1;split at J;·cases J
   ·rename_i Q;simp only[not_or,Bool.not_eq_false,Nat.not_lt] at Q;obtain⟨d2,a1⟩:=Q;have a1:=B9 a1;split at J
    ·rename_i r2 b9 c0 S;simp only[γ,ι] at J;obtain⟨rfl,d3⟩:=J;obtain⟨hg,c2,_⟩:=a9 _ _ _ _ _ _ c1;refine⟨hg,?_⟩;have d0:=xg I;have b2:∀(j i:Nat),a[j]?=some i->i<o.length:=λj i m=>by
      grind
     have d4:=λ{j i:Nat} (m:a[j]?=some i)=>F6 v.len I m;obtain⟨N,s,a5⟩:∃N:dN,(∀b,N b↔(A b\/(Own σ b/\¬Own (lR σ a) b)))/\N.l=A.l:=⟨⟨λb=>A b\/(Own σ b/\¬Own (lR σ a) b),A.l⟩,λb=>Iff.rfl,rfl⟩;haveI:nS A N:=⟨a5⟩;haveI:nS N A:=⟨a5.symm⟩;have b4:∀b,b<w.heap.size->Fr A σ b->Fr N (lR σ a) b:=λb _ hf=>⟨λ⟨i,c,p⟩=>by
      obtain⟨x,hx,G⟩:=rf p;exact hf.1 ⟨x,c,G⟩,λh=>((s b).1 h).elim hf.2 λh=>hf.1 h.1⟩;have c6:bT N w (lR σ a) T:=v.sub a1 I b4 (λi p b c h hA=>by
      rcases(s b).1 hA with q|⟨_,q⟩;·exact v.av i b c h q
      ·obtain⟨j,m⟩:=γF p;exact q ⟨j,c,by simp_all⟩) (λb h=>((s b).1 h).elim (v.jE b) λ⟨⟨i,c,p⟩,_⟩=>v.bnd i b c p);have b1:bG N w (lR σ a) T U vs:=bG.ren b4 (λD d6 h=>vn v.len I h) args vs U ha hr;refine(c2 N w _ vs c6 b1).mono ?_;rintro e w' ⟨u,g,rfl,C,c7,X⟩;have d5:=F5 S;have hN:=v.len;have b7:(pG σ g a).length=o.length+(n.length - a.length):=by simp[pG,hN,C.len]
     have a7:o'.length=o.length+(n.length - a.length):=by grind[zm]
     have a8:∀i,i<o.length->idxOf a i=none->(pG σ g a)[i]?=σ[i]?/\o'[i]?=o[i]?/\i∉a:=by
      intro i p hn;have d1:i∉a:=λh=>by obtain⟨j,m⟩:=F7 (k:=0) h;simp_all
      grind[pG,B8]
     have b6:∀j t,oQ a o.length j=some t->(pG σ g a)[t]?=g[j]?/\o'[t]?=b9[j]?:=by
      intro j t m;unfold oQ at m;split at m
      ·rename_i i K;injection m with m;subst m;have p:=b2 j i K;have c3:j<a.length:=(ζ.1 K).1;obtain⟨j2,E⟩:=F7 (k:=0) (γd K);have B:=(xf E).2;simp only[εR] at B;have:=(ζm (ζ.1 B).1 a1).1 (B.trans K.symm);subst this;constructor
       ·unfold pG;rw[δa (by simp;omega)];have:j2<g.length:=by rw[C.len];omega
        simp_all
       grind[NZ]
      ·rename_i K;injection m with m;subst m;have c3:=List.getElem?_eq_none_iff.1 K;constructor
       ·unfold pG;rw[ε5 (by simp;omega)];simp_all
       grind
     have b8:∀i,i<o'.length->(∃j,j<n.length/\oQ a o.length j=some i)\/(i<o.length/\idxOf a i=none):=by
      intro i p;rw[a7] at p;rcases ζa i o.length with q|q;·cases hq:idxOf a i with
       |none=>exact .inr ⟨q,rfl⟩;|some j=>
        left;have B:=(xf hq).2;simp only[εR] at B;have:=(ζ.1 B).1;exact⟨j,by omega,by simp[oQ,B]⟩
      grind[oQ]
     have F:∀i b c,i<o.length->idxOf a i=none->σ[i]?=some (some (b,c))->N b:=by
      intro i b c p hn hs;refine(s b).2 (.inr ⟨⟨i,c,hs⟩,?_⟩);rintro⟨j,d,m⟩;obtain⟨x,hx,G⟩:=rf m;have:=v.dist i x b c d hs G;grind
     have L:∀i b c,(pG σ g a)[i]?=some (some (b,c))->(∃j,oQ a o.length j=some i/\g[j]?=some (some (b,c)))\/(i<o.length/\idxOf a i=none/\σ[i]?=some (some (b,c))):=by
      grind
     have a3:∀j t,oQ a o.length j=some t->Tr n g o' (pG σ g a) j t:=by
      intro j t m;obtain⟨Y,W⟩:=b6 j t m;refine⟨λcs e sz Z ho=>?_,λ⟨es,kt,Z,ho⟩=>?_,Y⟩;·grind[Cb,NW]
      ·obtain⟨y,hy,c5⟩:=Cb S j _ ho;obtain⟨c8,rfl⟩:=NY hy;exact⟨c8,kt,Z,by rw[W];exact c5⟩
     have a6:∀b,b<w'.heap.size->Fr N g b->Fr A (pG σ g a) b:=by
      intro b _ hf;refine⟨?_,λh=>hf.2 ((s b).2 (.inl h))⟩;rintro⟨i,c,p⟩;rcases L i b c p with⟨j,_,m⟩|⟨q,H,M⟩;·exact hf.1 ⟨j,c,m⟩
      ·exact hf.2 (F i b c q H M)
     have a0:∀i b c,i<o.length->idxOf a i=none->σ[i]?=some (some (b,c))->¬Own (lR σ a) b:=by
      rintro i b c p hn hs ⟨j,d,m⟩;obtain⟨x,hx,G⟩:=rf m;have:=v.dist i x b c d hs G;grind
     have R:∀b,Own (lR σ a) b->Own σ b:=λb ⟨i,c,p⟩=>by
      obtain⟨x,hx,G⟩:=rf p;exact⟨x,c,G⟩
     have O:∀D,D<o.length->∀j,idxOf a D=some j->oQ a o.length j=some D:=by
      intro D _ j m;have B:=(xf m).2;grind[oQ]
     have b5:Ext w σ o w' (pG σ g a) o':=by
      refine⟨X.size,λb hb hn=>?_,by omega,λD c4 a2=>?_,λD hm=>?_,X.os,X.tape,X.output⟩
      ·obtain⟨q,H⟩:=X.blk b hb λh=>hn (R b h);refine⟨q,?_⟩;rintro⟨i,c,p⟩;rcases L i b c p with⟨j,_,m⟩|⟨_,_,M⟩;·exact H ⟨j,c,m⟩
       ·exact hn ⟨i,c,M⟩
      ·have V:D<o.length:=by obtain⟨cs,e,sz,Z,ho,_⟩:=a2;grind
       cases hq:idxOf a D with
       |none=>
        obtain⟨l1,l2,_⟩:=a8 D V hq;refine⟨?_,λsz b0=>⟨?_,l1⟩⟩
        ·obtain⟨cs,e,sz,Z,ho,hl⟩:=a2;exact⟨cs,e,sz,Z,by grind,hl⟩
        ·obtain⟨cs,e,Z,ho,hl⟩:=b0;exact⟨cs,e,Z,by grind,hl⟩;|some j=>
        have Y:=vn v.len I hq;have W:=a3 j D (O D V j hq);obtain⟨q,H⟩:=X.cur j c4 (Y.xd a2);refine⟨W.xd q,λsz b0=>?_⟩;obtain⟨M,h4⟩:=H sz (W.cur q b0);exact⟨Y.cur a2 M,by rw[W.2.2,h4,Y.2.2]⟩
      ·have V:D<o.length:=by obtain⟨es,kt,Z,ho⟩:=hm;grind
       cases hq:idxOf a D with
       |none=>
        obtain⟨l1,l2,_⟩:=a8 D V hq;obtain⟨es,kt,Z,ho⟩:=hm;exact⟨⟨es,kt,Z,by grind⟩,l1⟩;|some j=>
        have Y:=vn v.len I hq;have W:=a3 j D (O D V j hq);obtain⟨q,H⟩:=X.isMap j (Y.2.1 hm);exact⟨W.2.1 q,by rw[W.2.2,H,Y.2.2]⟩
     refine⟨u,pG σ g a,rfl,⟨by omega,λi k b c d p hk=>?_,λi b c p=>?_,λi y hy=>?_,λi b c p=>?_,λb hb=>γi (v.jE b hb) X.size⟩,bw.ren a6 a3 _ _ _ c0 c7,b5⟩
     ·rcases L i b c p with⟨j,m,E⟩|⟨q,H,M⟩<;>rcases L k b d hk with⟨l,hl,b3⟩|⟨g1,g2,g3⟩
      ·have:=C.dist j l b c d E b3;grind
      ·exact absurd (F k b d g1 g2 g3) (C.av j b c E)
      ·exact absurd (F i b c q H M) (C.av l b d b3)
      ·exact v.dist i k b c d M g3
     ·rcases L i b c p with⟨j,m,E⟩|⟨q,H,M⟩;·exact C.bnd j b c E
      ·exact γi (v.bnd i b c M) X.size
     ·rcases b8 i (ζ.1 hy).1 with⟨j,c9,m⟩|⟨q,H⟩
      ·have hx:=μ c9;obtain⟨z,hz,a4⟩:=Cb S j _ hx;obtain⟨Y,W⟩:=b6 j i m;rw[<-W,hy] at a4;injection a4 with a4;subst a4;exact dE.ren a6 a3 hz Y (C.obj j _ hx)
      ·obtain⟨l1,l2,_⟩:=a8 i q H;rw[l2] at hy;exact(v.obj i y hy).ext b5 l1 λb c hb=>(X.blk b (v.bnd i b c hb) (a0 i b c q H hb)).1
     ·rcases L i b c p with⟨j,m,E⟩|⟨q,H,M⟩;·exact λh=>C.av j b c E ((s b).2 (.inl h))
      ·exact v.av i b c M
    ·cases J
  ·cases J
 ·cases J
end
section
variable {P:Program} {A:dN} {D:List Deferred} {w w':World} {σ σ':bW} {o o':Store}
theorem XR {call:df} (b:pF P call) (d:bT A w σ o) {f:FuncId} {args:List AV} {vs:List Value} (g:bG A w σ o args vs) {own:Bool} {r:AV} (c:gJ call f args o own=some (r,o')):
  gW P f=true/\Calls P f vs.toArray w λe w'=>∃u a,e= .returned u/\bT A w' a o'/\bw A w' a o' r u/\Ext w σ o w' a o':=by
 grind[gJ,XQ,XN]
theorem Cc {f:FuncId} (b:gW P f=true) (args:Array Value) (w:World):(callFunc f args).run P w= .ok (.enter f args) w:=by
 unfold gW at b;cases c:P.funcs[f]? with
 |none=>simp_all;|some a=>
  simp only[c,Option.any_some,θ,δf] at b;have d:a.body.isNone=false:=by simp_all
  have e:¬a.name= "runtime.NumGoroutine" :=by
   simp_all
  have g:¬a.body=none:=by grind
  simp_all[callFunc]
theorem XS {name:String} {t:TypeId} {f:FuncId} (h:BL P name t=some f) (v:Value) (w:World) (n:Nat):(method (n+1) t v name).run P w= .ok (f,v) w:=by
 unfold BL at h;split at h
 ·rename_i fs i hu hi;split at h
  ·rename_i m hm;split at h
   ·rename_i g hp hf;injection h with h;subst h;simp[method,typeInfo,hi,hm,hp,hf,follow,receiverAt,run_underlying hu,Place.get]
   ·cases h
  ·cases h
 ·cases h
theorem F8 {name:String} {t:TypeId} {f:FuncId}:∀{n:Nat},uY (wQ P name n) t=some f->BL P name t=some f
 |0,h=>by simp[wQ,uY] at h;|n+1,h=>by
  simp only[wQ] at h;split at h
  ·rename_i g hg;simp only[uY] at h;cases hb:Nat.beq n t with
   |true=>
    rw[hb] at h;simp only[cond_true,γ] at h;subst h;rw[<-Nat.eq_of_beq_eq_true hb];exact hg;|false=>
    rw[hb] at h;exact F8 h
  ·exact F8 h
theorem XT {fl:Bool} {a:Oper} {b:cG} (e:pC P fl a=some b) (h:b.pE=true):
  ∃c:Call,a.op= .call c/\((∃f,c.callee= .value (.func f)/\b= .call f c.args.toList fl)\/(∃x,c.callee= .value x/\b= .jS x c.args.toList fl)\/∃x d,c.callee= .invoke x d/\b= .oN (MR P d) x c.args.toList):=by
 cases g:a.op;case call c=>
  refine⟨c,rfl,?_⟩;simp only[pC,g] at e;grind[cG.pE]
 case buildSlice=>
  grind[pC,cG.pE]
 case slice t x k i j=>
  grind[pC,cG.pE]
 case makeMap t r=>
  grind[pC,cG.pE]
 all_goals
  exfalso;simp only[pC,g,reduceCtorEq] at e;try (repeat' (split at e))<;>first
   |(cases e;done);|(injection e with e;subst e;simp[cG.pE] at h;done);|(obtain⟨_,_,rfl⟩:=ε.1 e;simp[cG.pE] at h;done)
def FR (dn:Option Nat):Fence:={Fence.wide with round:=dn}
theorem XU {dn:Option Nat} {n:Nat} {f:FuncId} {args:Array Value} {R:Ending->World->Prop} (h:Calls P f args w R):CallsIn (FR dn) n P f args w R:=
 (callsIn_wide (n:=n)).2 h
theorem XV {fl:Bool} {a:Oper} {b:cG} (d:pC P fl a=some b) (c:Call):a.op≠ .defer c:=by
 grind[pC]
theorem XW {call:df} (D:pF P call) {fl:Bool} {b:Oper} {C:cG} (O:pC P fl b=some C) (W:bT A w σ o) {p:Operand->AV} {a:Act} (n:∀x,bw A w σ o (p x) (a.eval x)) {bC:Nat} {v:AV}
  (i:qe call C p o bC=some (v,o')) {m:Act->World->Prop} {Q:Exit->Act->World->Prop}
  (V:∀u w' z,bT A w' z o'->bw A w' z o' v u->Ext w σ o w' z o'->m (a.put b.dst u) w') {dn:Option Nat}:b.wpIn (FR dn) 0 P a w m Q:=by
 have r:b.semAt (FR dn).round a.eval=execOp a.eval b:=Oper.semAt_eq _ _ _ (XV O);by_cases R:C.pE=false
 ·obtain⟨u,Z,G,e,q,X,Y⟩:=XH O R W n i;unfold Oper.wpIn;rw[r];refine⟨λ_ _=>trivial,?_⟩;rcases e with e|⟨e,rfl⟩
  ·rw[e];exact V u Z G q X Y
  ·rw[e];exact V undef Z G q X Y
 ·
  have E:∀(f:FuncId) (l:List AV) (k:List Value) (F:Bool),bG A w σ o l k->gJ call f l o F=some (v,o')->
    (gW P f=true->(execOp a.eval b).run P w= .ok (.enter f k.toArray) w)->b.wpIn (FR dn) 0 P a w m Q:=by
   intro f l k F L M J;obtain⟨s,I⟩:=XR D W L M;unfold Oper.wpIn;rw[r,J s];refine⟨λ_ _=>trivial,λh=>by grind[FR,Fence.wide],(XU I).mono ?_⟩;grind
  obtain⟨c,y,hh⟩:=XT O (by simp_all);rw[y7] at i;rcases hh with⟨f,d,rfl⟩|⟨x,d,rfl⟩|⟨x,H,d,rfl⟩
  ·simp only[bK] at i;refine E f (c.args.toList.map p) (c.args.toList.map a.eval) fl (vh n _) i λs=>?_;simp only[execOp,y,resolve,d];simp[Act.eval,Deferred.ofValue,invoke,Cc s];grind
  ·simp only[bK] at i;split at i
   ·rename_i g B j K;have q:=n x;rw[K] at q;simp only[bw] at q;obtain⟨f',c',S,N,T⟩:=q;refine E g (B++c.args.toList.map p++j) (f'.toList++c.args.toList.map a.eval++c'.toList) fl (bG.append (bG.append N (vh n _)) T) i λs=>?_;simp only[execOp,y,resolve,d];simp[S,FC,Deferred.ofValue,invoke,Cc s]
   ·cases i
  ·simp only[bK] at i;split at i
   ·rename_i t cs K;split at i
    ·rename_i f N;have q:=n x;rw[K] at q;simp only[bw] at q;obtain⟨k,S,_,hl⟩:=q;have L:bG A w σ o (.agg cs::c.args.toList.map p) (.agg k::c.args.toList.map a.eval):=by
      grind[bG,bw,vh]
     refine E f _ _ false L i λs=>?_;have hm:(method (P.types.size+Made.depth) t (.agg k) H).run P w= .ok (f,.agg k) w:=XS (F8 N) (.agg k) w (P.types.size+99);have hz:(#[Value.iface t (.agg k)]++Array.map a.eval c.args)[0]?=some (Value.iface t (.agg k)):=by grind
     have U:#[Value.agg k]++(Array.map a.eval c.args).extract 0 c.args.size=(Value.agg k::List.map a.eval c.args.toList).toArray:=εi (by simp;exact List.take_of_length_le (by simp));simp only[execOp,y,resolve,d,S];simp[invoke,hz,callMethod,hm,Cc s,U]
    ·cases i
   ·cases i
def tM (b w:World) (a:List Deferred):Prop:=
 a.Pairwise (λd e=>d.target≠e.target)/\∀d∈a,∃r,d={target:=.collected r,args:=#[]}/\b.heap.size<=r/\w.heap[r]?=some (.deferred (some []))
theorem bT.F9 (d:bT A w σ o) {r:Nat} {x:Obj} (h:w.heap[r]?=some x) (g:∀a b c,x≠ .cells a b c) (l:∀a b,x≠ .map a b):¬Own σ r:=by
 rintro⟨i,c,k⟩;have f:i<o.length:=by rw[<-d.len];grind
 have e:=d.obj i _ (μ f);cases j:o[i]<;>grind[dE,ι]
theorem tM.ext {c:World} {b:List Deferred} (h:tM c w b) (e:bT A w σ o) (i:Ext w σ o w' σ' o'):tM c w' b:=
 ⟨h.1,λd g=>by
  obtain⟨r,j,f,a⟩:=h.2 d g;exact⟨r,j,f,by rw[(i.blk r (Array.getElem?_eq_some_iff.1 a).1 (e.F9 a (by simp) (by simp))).1];exact a⟩⟩
def Cd (D:List Deferred) (b w:World) (c:List Deferred):Prop:=∃a,c=a++D/\tM b w a
theorem Cd.ext {b:World} {D a:List Deferred} (h:Cd D b w a) (c:bT A w σ o) (f:Ext w σ o w' σ' o'):Cd D b w' a:=by
 obtain⟨d,g,e⟩:=h;exact⟨d,g,e.ext c f⟩
structure dc (A:dN) (nt:Nat) (D:List Deferred) (w0:World) (lS:bW) (o0:Store) (st:St) (a:Act) (w:World) (σ:bW):Prop where
 fz:bT A w σ st.o
 env:∀s,bw A w σ st.o (dM st.env s) (a.tmps.getD s undef)
 size:a.tmps.size=nt
 defers:Cd D w0 w a.defers
 ext:Ext w0 lS o0 w σ st.o
theorem XX (v:Value):bw A w σ o (.uP v) v:=by
 cases v<;>simp only[AV.uP]<;>try (simp[bw,Value.oneCell'];done)
 grind[bw,vf]
theorem dc.ev {d:Nat} {e:World} {b:bW} {c:Store} {st:St} {a:Act} (h:dc A d D e b c st a w σ) (x:Operand):bw A w σ st.o (eJ st.env x) (a.eval x):=by
 cases x with
 |tmp t=>exact h.env t;|const v=>exact XX v;|global g=>simp[eJ,bw];|func f=>simp only[eJ,Act.eval,bw];exact⟨#[],#[],rfl,by simp[bG],by simp[bG]⟩
theorem XY {a:Act} {b:Option Tmp} {u:Value} {c:Nat} (f:a.tmps.size=c) (e:BM c b=true) (s:Nat):
  (a.put b u).tmps.getD s undef=if b=some s then u else a.tmps.getD s undef:=by
 cases b with
 |none=>simp[Act.put];|some d=>
  simp only[BM,decide_eq_true_eq] at e;simp only[Act.put,γ];by_cases h:d=s<;>simp_all
theorem N1 (a:Act) (b:Option Tmp) (u:Value):(a.put b u).tmps.size=a.tmps.size/\(a.put b u).defers=a.defers:=by
 cases b<;>simp[Act.put]
theorem vo (env:jB) (a:Option Nat) (v:AV) (s:Nat):dM (oM env a v) s=if a=some s then v else dM env s:=by
 cases a with
 |none=>simp[oM];|some d=>
  simp_all[oM,dM]
theorem dc.put {e:Nat} {g:World} {c:bW} {f:Store} {st:St} {a:Act} (h:dc A e D g c f st a w σ) (k:bT A w' σ' o') (d:Ext w σ st.o w' σ' o') {b:Option Tmp} (i:BM e b=true) {v:AV} {u:Value} (j:bw A w' σ' o' v u):
  dc A e D g c f ⟨oM st.env b v,o'⟩ (a.put b u) w' σ' where
 fz:=k;env:=λs=>by
  simp only[vo,XY h.size i];split;·exact j
  ·exact(h.env s).ext d
 size:=by rw[(N1 _ _ _).1];exact h.size
 defers:=by rw[(N1 _ _ _).2];exact h.defers.ext h.fz d
 ext:=h.ext.trans d
theorem N2 {x:Nat} {v:World} {l:bW} {p:Store} {st:St} {a:Act} (h:dc A x D v l p st a w σ) {f:Array Oper} {d:Oper} {b:Bool}
  (e:mB st.env (d.guard.map λg=>(((f[g.1]?).bind (·.dst)),g.2))=some b):Region.wanted d (yielded f a.tmps)=b:=by
 unfold Region.wanted;cases u:d.guard with
 |none=>grind[mB];|some g=>
  obtain⟨j,q⟩:=g;simp only[u,ν,mB] at e;cases n:(f[j]?).bind (·.dst) with
  |none=>simp_all;|some s=>
   simp only[n] at e;have i:=h.env s;simp only[yielded,n,Option.bind_some];split at e
   ·rename_i c m;injection e with e;rw[m] at i;have k:=gv i;have o:a.tmps[s]?=some (.bool c):=by
     rw[εa] at k;grind[undef]
    simp_all
   ·rename_i m;injection e with e;rw[m] at i;simp only[bw,bG] at i;obtain⟨r,k,o⟩:=i;have t:r=#[]:=εi (by omega);subst t;have o:a.tmps[s]?=some (.tuple #[])\/a.tmps[s]?=none:=by
     rw[εa] at k;grind
    grind
   ·cases e
theorem N3 {call:df} (e:pF P call) {j:Nat} {fl:List Nat} {c:Array Oper} {bC k:Nat} {i:dC} (f:ra P j fl c bC k=some i) {base:Nat} {st st':St} (b:iu call base i st=some st')
  {t:World} {g:bW} {p:Store} {a:Act} (h:dc A j D t g p st a w σ) {K:Act->World->Prop} {Q:Exit->Act->World->Prop} (o:∀s w' d,dc A j D t g p st' s w' d->K s w') {dn:Option Nat}:wpOpIn (FR dn) 0 P c Q k K a w:=by
 unfold ra at f;cases q:c[k]? with
 |none=>simp_all;|some n=>
  simp only[q] at f;split at f
  ·rename_i r;obtain⟨E,l,rfl⟩:=ε.1 f;unfold wpOpIn;simp only[q];simp only[iu] at b;split at b;·cases b
   ·rename_i m;have:=N2 h m;rw[this];injection b with b;subst b;simp only[χ,if_false];exact⟨λ_ _=>trivial,o _ _ σ (h.put h.fz (Ext.refl _ _ _) r (by simp only[bw];exact⟨#[],rfl,by simp[bG]⟩))⟩
   ·rename_i m;have:=N2 h m;rw[this];simp only[if_true];split at b
    ·rename_i v C z;injection b with b;subst b;exact XW e l h.fz h.ev z λu w' d B x y=>o _ _ d (h.put B y r x)
    ·cases b
  ·cases f
theorem N4 {call:df} (c:pF P call) {o:Nat} {fl:List Nat} {f:Array Oper} {base:Nat} {u:World} {g:bW} {s:Store} {Q:Exit->Act->World->Prop} {dn:Option Nat}:
  ∀(l:List dC) (b:List Nat),l.length=b.length->(∀(j:Nat) (i:dC) (k:Nat),l[j]?=some i->b[j]?=some k->∃bC,ra P o fl f bC k=some i)->∀(st st':St) (a:Act) (w:World) (σ:bW),
   gh call base l st=some st'->dc A o D u g s st a w σ->(∀m w' d,dc A o D u g s st' m w' d->Q .normal m w')->wpOpsIn (FR dn) 0 P f Q b a w
 |[],[],_,_,st,st',a,w,σ,e,h,p=>by
  simp only[gh,γ] at e;subst e;exact p a w σ h;|[],_::_,n,_,_,_,_,_,_,_,_,_=>by simp at n;|_::_,[],n,_,_,_,_,_,_,_,_,_=>by simp at n;|i::l,k::b,n,t,st,st',a,w,σ,e,h,p=>by
  simp only[gh] at e;split at e
  ·rename_i q v;obtain⟨bC,r⟩:=t 0 i k (by simp) (by simp);rw[wpOpsIn_cons];exact N3 c r v h λm w' d y=>N4 c l b (by simp_all) (λj z x C B=>t (j+1) z x (by simp_all) (by simp_all)) q st' m w' d e y p
  ·cases e
theorem Ge {d:Nat} {fl:List Nat} {b:Array Oper}:∀{k:Nat} {a:List Nat} {l:List dC} {n:Nat},u7 P d fl b k a=some (l,n)->
  l.length=a.length/\(∀(j:Nat) (i:dC) (q:Nat),l[j]?=some i->a[j]?=some q->∃bC,ra P d fl b bC q=some i)
 |k,[],l,n,h=>by grind[u7];|k,i::r,l,n,h=>by
  simp only[u7] at h;split at h;·cases h
  ·rename_i x o;split at h;·cases h
   ·rename_i g m c;simp only[γ,ι] at h;obtain⟨rfl,_⟩:=h;obtain⟨e,f⟩:=Ge c;grind
end
section
variable {call:df} {ρ mD:Operand->AV} {bC:Nat}
theorem N5 {a:cG} (d:a.cls=0) (o o2:Store):bK call a ρ o2 bC=(bK call a ρ o bC).map λp=>(p.1,o2):=by
 cases a<;>try (simp[cG.cls] at d;done)
 case call f c b=>cases b<;>simp[cG.cls] at d
 case jS f c b=>cases b<;>simp[cG.cls] at d
 all_goals simp only[bK]
 all_goals (repeat' split)<;>simp_all [ζh,δl]
theorem XZ {a:cG} (b:a.cls=0) {o o':Store} {v:AV} (h:bK call a ρ o bC=some (v,o')):o'=o:=by
 grind[N5]
theorem X0 {o o2:Store} {a:AV} (h:∀j∈fw a,o2[j]?=o[j]?):behind o2 a=behind o a:=by
 cases a<;>simp only[behind];grind[fw]
theorem X1 {o o2:Store} {sz:Nat} {a:AV} (h:∀j∈fw a,o2[j]?=o[j]?):mY o2 sz a=mY o sz a:=by
 cases a with
 |os e d b c=>grind[mY,fw];|sc v=>unfold mY;grind;|_=>rfl
theorem X2 {o o2:Store} {sz:Nat} {a:AV} {i:Int} (h:∀j∈fw a,o2[j]?=o[j]?):qa o2 sz a i=qa o sz a i:=by
 cases a<;>simp only[qa];grind[fw]
theorem X3 {o o2:Store} {sz:Nat} {a:AV} {lo b:Option AV} (h:∀j∈fw a,o2[j]?=o[j]?):qc o2 sz a lo b=qc o sz a lo b:=by
 cases a with
 |os f e c d=>grind[qc,fw];|sc v=>unfold qc;grind;|_=>rfl
theorem X4 {o o2:Store} {sz:Nat} {a:AV} {lo:Option AV} {b mx:AV} (h:∀j∈fw a,o2[j]?=o[j]?):sa o2 sz a lo b mx=sa o sz a lo b mx:=by
 cases a<;>grind[id,sa,fw]
theorem X5 {o o2:Store} {k:Nat} {a:AV} (h:∀j∈fw a,o2[j]?=o[j]?):lu o2 k a=lu o k a:=by
 cases a with
 |mp b=>
  match k with
  |0=>rfl;|1=>rfl;|2=>grind[lu,fw];|_+3=>rfl
 |_=>unfold lu;split<;>first|rfl|(simp_all;done)
theorem xh {c e:Type} {f g:c->List e}:∀{l:List c},(∀a∈l,f a=g a)->l.flatMap f=l.flatMap g
 |[],_=>rfl
 |a::l,h=>by
  simp only[List.flatMap_cons];rw[h a (by simp),xh λb d=>h b (by simp[d])]
theorem xi {c e:Type} {f g:c->Option e}:∀{l:List c},(∀a∈l,f a=g a)->l.mapM f=l.mapM g
 |[],_=>rfl
 |a::l,h=>by
  rw[εP,εP,h a (by simp),xi λb d=>h b (by simp[d])]
theorem xj {o o2:Store}:∀(d:Nat) (a:AV),(∀j∈fu o d a,o2[j]?=o[j]?)->freeze o2 d a=freeze o d a/\fu o2 d a=fu o d a
 |0,a,_=>by cases a<;>simp[freeze,fu];|d+1,a,h=>by
  cases a with
  |agg i=>
   simp only[fu,δN,forall_exists_index,and_imp] at h;have l:=λc g=>xj d c (λj b=>h j c g b);grind[freeze,fu,xi,xh];|bI i=>
   simp only[fu,δN,forall_exists_index,and_imp] at h;have l:=λc g=>xj d c (λj b=>h j c g b);grind[freeze,fu,xi,xh];|fn f x y=>
   simp only[fu,List.mem_append,δN] at h;have v:=λc g=>xj d c (λj b=>h j (.inl ⟨c,g,b⟩));have z:=λc g=>xj d c (λj b=>h j (.inr ⟨c,g,b⟩));grind[freeze,fu,xi,xh];|os k q s n=>
   have r:=h k (by simp[fu]);simp only[freeze,fu];rw[r];cases p:o[k]? with
   |none=>simp_all;|some x=>
    cases x with
    |dead=>simp_all;|map w t m=>simp_all;|cells i e u m=>
     cases m with
     |true=>simp_all;|false=>
      simp only[fu,p,γz,χ,if_false,δN] at h;have l:=λc g=>xj d c (λj b=>h j (.inr ⟨c,g,b⟩));simp_all[xi,xh]
  |_=>simp[freeze,fu]
theorem zn {f:FuncId} {args:List AV} {o o2:Store} (h:∀j∈args.flatMap (fu o 6),o2[j]?=o[j]?):
  gJ call f args o2 false=(gJ call f args o false).map (λp=>(p.1,o2))/\args.flatMap (fu o2 6)=args.flatMap (fu o 6):=by
 simp only[δN,forall_exists_index,and_imp] at h;have d:=λc a=>xj 6 c (λj e=>h j c a e);have b:args.flatMap (fu o2 6)=args.flatMap (fu o 6):=xh λc a=>(d c a).2;refine⟨?_,b⟩;unfold gJ;rw[if_neg (by simp),if_neg (by simp),b,xi λc a=>(d c a).1];grind
theorem Gf {b:cG} (w:b.cls=1) {o o2:Store} (h:∀j∈dR b ρ o bC,o2[j]?=o[j]?):
  bK call b ρ o2 bC=(bK call b ρ o bC).map (λp=>(p.1,o2))/\dR b ρ o2 bC=dR b ρ o bC:=by
 cases b<;>try (simp[cG.cls] at w;done)
 case load n a=>
  simp only[bK,dR] at h ⊢;rw[X0 h];refine⟨?_,trivial⟩;split<;>simp[ζh,δl]
 case rX l x i=>
  simp only[bK,dR] at h ⊢;refine⟨?_,trivial⟩;split;·rw[X2 h];simp_all[δl]
  ·rfl
 case slice l x q y=>
  simp only[bK,dR] at h ⊢;refine⟨?_,trivial⟩;rw[X3 h];simp_all[δl]
 case slice3 l x q y A=>
  simp only[bK,dR] at h ⊢;refine⟨?_,trivial⟩;rw[X4 h];simp_all[δl]
 case len k x=>
  simp only[bK,dR] at h ⊢;refine⟨?_,trivial⟩;rw[X5 h];simp_all[δl]
 case lookup z m F D x k C=>
  simp only[bK,dR] at h ⊢;refine⟨?_,trivial⟩;split<;>grind[id,fw]
 case oN r x c=>
  simp only[bK,dR] at h ⊢;split
  ·rename_i t B u;simp only[u] at h ⊢;refine⟨?_,(zn (call:=call) (f:=0) h).2⟩;grind[zn]
  simp_all
 case call f c d=>
  cases d<;>grind[bK,dR,zn,cG.cls]
 case jS f c d=>
  cases d
  ·simp only[bK,dR] at h ⊢;split;·grind[zn]
   ·rename_i s;refine⟨rfl,?_⟩;split
    ·rename_i E g e v;simp only[v] at h ⊢;exact(zn (call:=call) (f:=0) h).2
    ·rfl
  grind[cG.cls]
theorem X6 {a:cG} (b:a.cls=1) {o o':Store} {v:AV} (h:bK call a ρ o bC=some (v,o')):o'=o:=by
 have:=(Gf (call:=call) (ρ:=ρ) (bC:=bC) b (o:=o) (o2:=o) λ_ _=>rfl).1;grind
theorem Ce {o:Store} {id:Nat}:o.set id ((o[id]?).getD .dead)=o:=by
 apply List.ext_getElem?;grind
theorem X7 {d:cG} (H:d.cls=2) {o o':Store} {v:AV} (b:bK call d ρ o bC=some (v,o')):
  ∃id x,id∈wrt d ρ o bC/\o'=o.set id x/\∀o2,(∀j∈dR d ρ o bC,o2[j]?=o[j]?)->
   bK call d ρ o2 bC=some (v,o2.set id x)/\dR d ρ o2 bC=dR d ρ o bC/\wrt d ρ o2 bC=wrt d ρ o bC:=by
 have C:∀{x:bR} {g:AV} {v:AV} {o':Store},(kV bC x o).map (λo'=>(g,o'))=some (v,o')->v=g/\o'=o.set bC x/\∀o2:Store,o2[bC]?=o[bC]?->(kV bC x o2).map (λo'=>(g,o'))=some (v,o2.set bC x):=by
  grind[kV]
 cases d<;>try (simp[cG.cls] at H;done)
 case alloc z e y=>
  simp only[bK,dR,wrt] at b ⊢;grind
 case box e x=>
  simp only[bK,dR,wrt] at b ⊢;grind
 case py z D E e A=>
  simp only[bK,dR,wrt] at b ⊢;grind
 case pY z e A q l c y=>
  simp only[bK,dR,wrt] at b ⊢;grind
 case pZ Q y=>
  simp only[bK,dR,wrt] at b ⊢;grind
 case store n a x=>
  simp only[bK,dR,wrt] at b ⊢;split at b
  ·rename_i id R G J;split at b
   ·rename_i L e A y K;split at b
    ·rename_i p;simp only[γ,ι] at b;obtain⟨rfl,rfl⟩:=b;refine⟨id,_,by simp[J,fw],rfl,λo2 h=>⟨?_,trivial,trivial⟩⟩;have U:=h id (by simp[J,fw]);grind
    ·cases b
   ·cases b
  ·cases b
 case append e A q s x y=>
  simp only[bK,dR,wrt] at b ⊢;unfold qb at b;split at b;·cases b
  ·rename_i m F P;split at b;·cases b
   ·rename_i N;have t:∀o2:Store,(∀j∈bC::(fw (ρ s)++fw (ρ x)),o2[j]?=o[j]?)->mY o2 A (ρ x)=some (m,F):=λo2 h=>by
     grind[X1]
    split at b
    ·rename_i B;split at b
     ·rename_i I;simp only[γ,ι] at b;obtain⟨rfl,rfl⟩:=b;refine⟨bC,(o[bC]?).getD .dead,by simp,Ce.symm,λo2 h=>⟨?_,trivial,trivial⟩⟩;rw[<-h bC (by simp),Ce];simp_all[qb]
     ·split at b
      ·rename_i I p;obtain⟨rfl,rfl,h3⟩:=C b;refine⟨bC,_,by simp,rfl,λo2 h=>⟨?_,trivial,trivial⟩⟩;simp_all[qb]
      ·cases b
    ·rename_i id D G B;split at b
     ·rename_i L e' S O K;split at b
      ·rename_i p;simp only[γ,ι] at b;obtain⟨rfl,rfl⟩:=b;refine⟨id,_,by simp[B,fw],rfl,λo2 h=>⟨?_,trivial,trivial⟩⟩;unfold qb;rw[t o2 h];have U:=h id (by simp[B,fw]);simp_all
      ·cases b
     ·cases b
    ·rename_i n L B;split at b
     ·rename_i I;simp only[γ,ι] at b;obtain⟨rfl,rfl⟩:=b;refine⟨bC,(o[bC]?).getD .dead,by simp,Ce.symm,λo2 h=>⟨?_,trivial,trivial⟩⟩;rw[<-h bC (by simp),Ce];simp_all[qb]
     ·cases b
    ·cases b
 case qT W X x k v'=>
  simp only[bK,dR,wrt] at b ⊢;split at b
  ·rename_i id Y M V;split at b
   ·rename_i Z Q y K;split at b;·cases b
    ·rename_i p;split at b
     ·rename_i i w T;simp only[γ,ι] at b;obtain⟨rfl,rfl⟩:=b;refine⟨id,_,by simp[M,fw],rfl,λo2 h=>⟨?_,trivial,trivial⟩⟩;simp_all[fw]
     ·rename_i T;simp only[γ,ι] at b;obtain⟨rfl,rfl⟩:=b;refine⟨id,_,by simp[M,fw],rfl,λo2 h=>⟨?_,trivial,trivial⟩⟩;simp_all[fw]
     ·cases b
   ·cases b
  ·cases b
 case call f u r=>cases r<;>simp[cG.cls] at H
 case jS f u r=>cases r<;>simp[cG.cls] at H
theorem rh (o:Store):∀(d:Nat) (vs:List AV) (acc:List Nat) (j:Nat),j∈acc->j∈cQ o d vs acc
 |0,vs,acc,j,h=>by grind[cQ];|d+1,[],acc,j,h=>by simp_all[cQ];|d+1,v::vs,acc,j,h=>by
  rw[zl];apply rh o d;have e:∀c,j∈qm o d c acc:=by
   intro c;unfold qm;split;·exact h
   ·split
    ·split;·simp[h]
     ·exact rh o d _ _ j (by simp[h])
    ·split;·simp[h]
     ·exact rh o d _ _ j (by simp[h])
    ·simp[h]
  cases v with
  |agg g=>exact rh o d _ _ j h;|bI g=>exact rh o d _ _ j h;|ptr c _ _=>exact e c;|os c _ _ _=>exact e c;|mp c=>exact e c;|fn f a b=>exact rh o d _ _ j (rh o d _ _ j h);|_=>exact h
theorem X8 (o:Store) (d id:Nat) (acc:List Nat):id∈qm o d id acc:=by
 grind[qm,rh]
theorem tN {o o2:Store}:∀(d:Nat) (vs:List AV) (acc:List Nat),(∀j∈cQ o d vs acc,o2[j]?=o[j]?)->cQ o2 d vs acc=cQ o d vs acc
 |0,vs,acc,_=>by grind[cQ];|d+1,[],acc,_=>by simp[cQ];|d+1,v::vs,acc,h=>by
  rw[zl] at h;rw[zl,zl];have m:∀c,(∀j∈qm o d c acc,o2[j]?=o[j]?)->qm o2 d c acc=qm o d c acc:=by
   intro c g;have r:=g c (X8 o d c acc);unfold qm at g ⊢;split;·rfl
   ·rename_i q;rw[if_neg q] at g;rw[r];cases p:o[c]? with
    |none=>rfl;|some x=>
     rw[p] at g;cases x with
     |dead=>rfl;|cells l e w n=>
      cases n with
      |true=>rfl;|false=>exact tN d _ _ g
     |map s u n=>
      cases n with
      |true=>rfl;|false=>exact tN d _ _ g
  have k:vm o2 d v acc=vm o d v acc:=by
   have i:=λj g=>h j (rh o d vs _ j g);cases v with
   |agg l=>exact tN d l acc i;|bI l=>exact tN d l acc i;|ptr c _ _=>exact m c i;|os c _ _ _=>exact m c i;|mp c=>exact m c i;|fn f a b=>
    have y:cQ o2 d a acc=cQ o d a acc:=tN d a acc λj g=>i j (rh o d b _ j g);have t:cQ o2 d b (cQ o d a acc)=cQ o d b (cQ o d a acc):=tN d b _ i;grind[vm];|_=>rfl
  rw[k];exact tN d vs _ h
theorem N6 {o o2:Store} {a:List Nat}:∀{r:List Nat},(∀j∈r,o2[j]?=o[j]?)->kW o2 a r=kW o a r
 |[],_=>rfl
 |i::r,h=>by
  simp only[kW];rw[h i (by simp),N6 λj b=>h j (by simp[b])]
theorem N7:∀(a:List Nat) (o o2 X:Store) (j:Nat),o2.length=o.length->a.length=X.length->(j∈a\/o2[j]?=o[j]?)->(lL o2 a X)[j]?=(lL o a X)[j]?
 |[],o,o2,X,j,_,_,h=>by grind[lL];|i::r,o,o2,[],j,_,c,_=>by simp at c;|i::r,o,o2,x::l,j,b,c,h=>by
  simp only[lL];refine N7 r _ _ l j (by simp[b]) (by simp_all) ?_;grind
theorem N8 {f:FuncId} {args:List AV} {o o':Store} {r:AV} (h:iM call f args o=some (r,o')):
  o.length<=o'.length/\(∀j,j<o.length->j∉cQ o fN args []->o'[j]?=o[j]?)/\
  ∀o2:Store,o2.length=o.length->(∀j∈cQ o fN args [],o2[j]?=o[j]?)->∃g,iM call f args o2=some (r,g)/\
   cQ o2 fN args []=cQ o fN args []/\∀j,(j∈cQ o fN args []\/o.length<=j)->g[j]?=o'[j]?:=by
 have b:∀o2:Store,(∀j∈cQ o fN args [],o2[j]?=o[j]?)->cQ o2 fN args []=cQ o fN args []:=λo2 h=>tN fN args [] h;have e:∀o2:Store,(∀j∈cQ o fN args [],o2[j]?=o[j]?)->kW o2 (cQ o fN args []) (cQ o fN args [])=kW o (cQ o fN args []) (cQ o fN args []):=λo2 h=>N6 h;unfold iM at h;simp only at h;generalize q:cQ o fN args []=a at h b e;split at h
 ·rename_i m l v y;split at h
  ·rename_i B i n;split at h;·cases h
   ·rename_i d;split at h
    ·rename_i A c x t;simp only[γ,ι] at h;obtain⟨rfl,rfl⟩:=h;simp only[not_or] at d;have u:=F5 t;have z:a.length=(c.take a.length).length:=by simp;omega
     refine⟨by simp[zm],λj s w=>?_,λo2 p k=>?_⟩;·grind[zm,B8]
     ·refine⟨lL o2 a (c.take a.length)++c.drop a.length,?_,b o2 k,λj s=>?_⟩
      ·unfold iM;grind
      grind[zm,N7]
    ·cases h
  ·cases h
 ·cases h
end
end Go.Vi
