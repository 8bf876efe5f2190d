import Derived.Test.YtbnhiekmnpikhaaGreatDE02
import Derived.OrdersIn
set_option maxRecDepth 100000
set_option maxHeartbeats 4000000
set_option linter.all false
open Array renaming ext'->εj,getD_eq_getD_getElem?->εc
open Bool renaming and_eq_true->θ,false_eq_true->τ,or_eq_true->δz,not_eq_true'->δh
open Decidable renaming not_not->ζ3
open Function renaming comp_def->δi
open Go.Vi.AV renaming bI->δy
open List renaming eq_nil_of_length_eq_zero->χ,getElem?_eq_some_iff->ζ,getElem?_eq_getElem->μ,mem_of_getElem?->γf,getElem?_of_mem->γL,getElem?_take->δk,getElem?_take_of_lt->δB,replicate->δ,getElem?_append_left->δb,getElem?_append_right->ε7,mem_of_mem_take->γn,mapM_cons->εR,getElem?_drop->δA,mem_of_mem_drop->γY,mem_cons->γq,range->ω,getElem?_cons_succ->γS,nodup_cons->γR,getElem?_inj->ζs,mem_flatMap->δC
open Nat renaming le_refl->π,lt_of_lt_of_le->γl,lt_or_ge->ζe,sub_zero->εT
open Option renaming map_eq_some_iff->ε,map_some->ν,map_map->ζm
open Option.some renaming injEq->γ
open Prod.mk renaming injEq->ι
namespace Go.Vi
def bR.nY:bR->Bool
 | .call .. | .ak4 .. | .aoe .. =>true
 |_=>false
section
variable {P:Program} {A:de} {w w':World} {σ σ':TN} {o o':a_} {OA:Operand->AV} {Oq:Operand->Value} {oper:Oper} {v:AV}
theorem jD {b:Type} {x:Option b} {f:b->AV×a_} {p:AV×a_} (h:x.map f=some p):∃a,x=some a/\f a=p:=by
 simp_all
theorem ZY {call:cw} {fl:Bool} {iop:bR} {qE:Nat} (hc:n4 P fl oper=some iop) (hnc:iop.nY=false) (hS:OM A w σ o) (hρ:∀x,nA A w σ o (OA x) (Oq x))
  (he:qd call iop OA o qE=some (v,o')):bA A P Oq oper w σ o v o':=by
 rw[yr] at he;unfold n4 at hc;split at hc;·
  rename_i x hop;injection hc with hc;subst hc;simp only[MO,γ,ι] at he;obtain⟨rfl,rfl⟩:=he;exact PT hS hρ (.inl hop)
 ·rename_i x hop;injection hc with hc;subst hc;simp only[MO,γ,ι] at he;obtain⟨rfl,rfl⟩:=he;exact PT hS hρ (.inr hop)
 ·rename_i c a b hop;injection hc with hc;subst hc;simp only[MO] at he;split at he
  ·rename_i hcc;simp only[γ,ι] at he;obtain⟨rfl,rfl⟩:=he;exact PS (t:=true) hS hρ hop hcc
  ·rename_i hcc;simp only[γ,ι] at he;obtain⟨rfl,rfl⟩:=he;exact PS (t:=false) hS hρ hop hcc
  ·cases he
 ·rename_i e hop;obtain⟨z,hz,rfl⟩:=ε.1 hc;simp only[MO] at he;obtain⟨o2,hm,h2⟩:=jD he;obtain⟨hd,rfl⟩:=wg hm;simp only[ι] at h2;obtain⟨rfl,rfl⟩:=h2;exact Zn hS hop hz hd
 ·rename_i e x hop;injection hc with hc;subst hc;simp only[MO] at he;split at he
  ·rename_i h1;obtain⟨o2,hm,h2⟩:=jD he;obtain⟨hd,rfl⟩:=wg hm;simp only[ι] at h2;obtain⟨rfl,rfl⟩:=h2;exact Zm hS hρ hop h1 hd
  ·cases he
 ·
  rename_i t parts hop;split at hc
  ·rename_i z fields hz ht;split at hc
   ·rename_i places hpl;obtain⟨ps,hps,rfl⟩:=ε.1 hc;simp only[MO] at he;obtain⟨cs,hf,h2⟩:=jD he;simp only[ι] at h2;obtain⟨rfl,rfl⟩:=h2;obtain⟨hl,hg⟩:=Ha hps;refine PM (place:=λi=>places[i]?) hS hρ hop hz (λzv hzv l=>?_) hl.symm (λi p q hp hq=>?_) hf;·cases hi:P.info? t with
     |none=>simp[hi] at hzv;|some i=>
      simp[hi] at hzv;unfold Pu at hpl;simp[Program.built,hi,ht,hzv,hpl]
    ·have:=hg i p q hp hq;simp only[Pt,ε] at this;obtain⟨r,h1,rfl⟩:=this;exact⟨h1,rfl⟩
   ·cases hc
  ·rename_i z k e hz ht;obtain⟨n,hn,rfl⟩:=ε.1 hc;simp only[MO] at he;obtain⟨cs,hf,h2⟩:=jD he;simp only[ι] at h2;obtain⟨rfl,rfl⟩:=h2;refine PM (place:=λi=>some (i*n,n)) hS hρ hop hz (λzv hzv l=>?_) (by simp) (λi p q hp hq=>?_) hf;·cases hi:P.info? t with
    |none=>simp[hi] at hzv;|some i=>
     simp[hi] at hzv;cases hie:P.info? e with
     |none=>simp[bK,hie] at hn;|some ie=>
      simp[bK,hie] at hn;simp[Program.built,hi,ht,hzv,hie,hn]
   ·rw[List.getElem?_map,hp] at hq;simp at hq;subst hq;exact⟨rfl,rfl⟩
  ·cases hc
 ·
  rename_i t len parts hop;split at hc
  ·rename_i e ht;split at hc
   ·rename_i z hz;split at hc
    ·rename_i hcond;injection hc with hc;subst hc;split at he
     ·simp only[MO] at he;split at he
      ·rename_i cs hf;split at he
       ·rename_i hp;simp only[γ,ι] at he;obtain⟨rfl,rfl⟩:=he;exact ZF hS hρ hop ht hz hcond.2 hcond.1 hf hp
       ·cases he
      ·cases he
     ·simp only[MO] at he;split at he
      ·rename_i cs hf;obtain⟨o2,hm,h2⟩:=jD he;obtain⟨hd,rfl⟩:=wg hm;simp only[ι] at h2;obtain⟨rfl,rfl⟩:=h2;exact ZG hS hρ hop ht hz hcond.2 hcond.1 hf hd
      ·cases he
    ·cases hc
   ·cases hc
  ·cases hc
 ·
  rename_i t a hop;obtain⟨n,hn,rfl⟩:=ε.1 hc;simp only[MO] at he;split at he
  ·rename_i cs bu hb;obtain⟨a',hp,h2⟩:=jD he;simp only[ι] at h2;obtain⟨rfl,rfl⟩:=h2;exact Zq hS hρ hop hn hb hp
  ·cases he
 ·
  rename_i t a x hop;obtain⟨n,hn,rfl⟩:=ε.1 hc;simp only[MO] at he;split at he
  ·rename_i id bu tot ha;split at he
   ·rename_i cs e sz pu ho;split at he
    ·rename_i hcond;simp only[γ,ι] at he;obtain⟨rfl,rfl⟩:=he;obtain⟨c1,c2,c3,c4,c5⟩:=hcond;exact Zo hS hρ hop hn ha ho c1 c2 c3 c4 c5
    ·cases he
   ·cases he
  ·cases he
 ·
  rename_i x hop;injection hc with hc;subst hc;simp only[MO] at he;have hx:=hρ x;split at he
  ·rename_i a b c hxa;simp only[γ,ι] at he;obtain⟨rfl,rfl⟩:=he;rw[hxa] at hx;simp only[nA] at hx;obtain⟨_,⟨p,hp⟩,_⟩:=hx;rw[<-hxa];exact PR hS hρ hop hp
  ·rename_i a b hxa;simp only[γ,ι] at he;obtain⟨rfl,rfl⟩:=he;rw[hxa] at hx;simp only[nA] at hx;obtain⟨p,hp,_⟩:=hx;rw[<-hxa];exact PR hS hρ hop hp
  ·cases he
 ·
  rename_i op t x y t' hop;have aA0:∀(h:iop= .bin op x y),bA A P Oq oper w σ o v o':=by
   intro h;subst h;simp only[MO] at he;split at he
   ·rename_i a b ha hb;obtain⟨r,hr,h2⟩:=jD he;simp only[ι] at h2;obtain⟨rfl,rfl⟩:=h2;exact Zj hS hρ hop ha hb hr
   ·cases he
  have heq:∀(neg:Bool),(op= .eql/\neg=false)\/(op= .neq/\neg=true)->
    (match P.underlying t with
     |some (.struct _)|some (.array _ _)=>if 20<=P.depth then(fE P 20 t).map λks=>bR.eqf neg ks x y else none
     |some .bool=>some (.beq neg x y)
     |some (.int _)|some .string=>some (.bin op x y)
     |some (.pointer _)=>some (.arf neg x y)
     |_=>none)=some iop->bA A P Oq oper w σ o v o':=by
   intro neg hn hc;have hagg:eI P t=some true->(if 20<=P.depth then(fE P 20 t).map λks=>bR.eqf neg ks x y else none)=some iop->bA A P Oq oper w σ o v o':=by
    intro hag hc;split at hc
    ·rename_i hD;obtain⟨ks,hk,rfl⟩:=ε.1 hc;simp only[MO] at he;split at he
     ·rename_i a b ha hb;obtain⟨r,hr,h2⟩:=jD he;simp only[ι] at h2;obtain⟨rfl,rfl⟩:=h2;exact Zz hS hρ hop hn hag hk hD ha hb hr
     ·cases he
    ·cases hc
   split at hc;·rename_i hu;exact hagg (by simp[eI,hu]) hc
   ·rename_i hu;exact hagg (by simp[eI,hu]) hc
   ·rename_i hu;injection hc with hc;subst hc;simp only[MO] at he;split at he
    ·rename_i a b ha hb;simp only[γ,ι] at he;obtain⟨rfl,rfl⟩:=he;exact Zi hS hρ hop hn hu ha hb
    ·cases he
   ·injection hc with hc;exact aA0 hc.symm
   ·injection hc with hc;exact aA0 hc.symm
   ·rename_i hu;injection hc with hc;subst hc;simp only[MO] at he;split at he
    ·rename_i ha hb;simp only[γ,ι] at he;obtain⟨rfl,rfl⟩:=he;have hx:=hρ x;rw[ha] at hx;simp only[nA] at hx;obtain⟨_,⟨p,hp⟩,_⟩:=hx;simpa using PQ hS hρ hop hn hu hp hb
    ·rename_i ha hb;simp only[γ,ι] at he;obtain⟨rfl,rfl⟩:=he;have hx:=hρ x;rw[ha] at hx;simpa using PQ hS hρ hop hn hu (fD hx) hb
    ·cases he
   ·cases hc
  split at hc;·exact heq false (.inl ⟨rfl,rfl⟩) hc
  ·exact heq true (.inr ⟨rfl,rfl⟩) hc
  ·injection hc with hc;exact aA0 hc.symm
 ·
  rename_i op t x hop;injection hc with hc;subst hc;simp only[MO] at he;obtain⟨r,hr,h2⟩:=jD he;simp only[ι] at h2;obtain⟨rfl,rfl⟩:=h2;exact Zg hS hρ hop hr
 ·
  rename_i s d x hop;split at hc
  ·rename_i ds k hs hd;injection hc with hc;subst hc;simp only[MO] at he;split at he
   ·rename_i k' n hx;simp only[γ,ι] at he;obtain⟨rfl,rfl⟩:=he;exact Zf hS hρ hop hs hd hx
   ·cases he
  ·cases hc
 ·
  rename_i s x f hop;split at hc
  ·rename_i fs hs;split at hc
   ·rename_i g hg;split at hc
    ·rename_i n hn;split at hc;·cases hc
     ·rename_i hn0;injection hc with hc;subst hc;simp only[MO] at he;obtain⟨r,hr,h2⟩:=jD he;simp only[ι] at h2;obtain⟨rfl,rfl⟩:=h2;exact Ze hS hρ hop hs hg hn hn0 hr
    ·cases hc
   ·cases hc
  ·cases hc
 ·
  rename_i t x f hop;split at hc
  ·rename_i fs hs;split at hc
   ·rename_i g hg;obtain⟨n,hn,rfl⟩:=ε.1 hc;simp only[MO] at he;split at he
    ·rename_i cs hx;obtain⟨r,hr,h2⟩:=jD he;simp only[ι] at h2;obtain⟨rfl,rfl⟩:=h2;exact Zd hS hρ hop hs hg hn hx hr
    ·cases he
   ·cases hc
  ·cases hc
 ·
  rename_i t x i hop;split at hc
  ·rename_i len e ht;obtain⟨n,hn,rfl⟩:=ε.1 hc;simp only[MO] at he;split at he
   ·rename_i k hi;split at he
    ·rename_i hcond;obtain⟨r,hr,h2⟩:=jD he;simp only[ι] at h2;obtain⟨rfl,rfl⟩:=h2;exact ZU hS hρ hop ht hn hi hcond.1 hcond.2 hr
    ·cases he
   ·cases he
  ·rename_i e ht;split at hc
   ·rename_i n hn;split at hc;·cases hc
    ·rename_i hn0;injection hc with hc;subst hc;simp only[MO] at he;split at he
     ·rename_i k hi;obtain⟨r,hr,h2⟩:=jD he;simp only[ι] at h2;obtain⟨rfl,rfl⟩:=h2;exact ZT hS hρ hop ht hn hn0 hi hr
     ·cases he
   ·cases hc
  ·cases hc
 ·
  rename_i t x i hop;split at hc
  ·rename_i len e ht;split at hc
   ·rename_i s n hs hn;injection hc with hc;subst hc;simp only[MO] at he;split at he
    ·rename_i k cs hi hx;split at he
     ·rename_i hcond;obtain⟨r,hr,h2⟩:=jD he;simp only[ι] at h2;obtain⟨rfl,rfl⟩:=h2;exact ZS hS hρ hop ht hs hn hi hcond.1 hcond.2 hx hr
     ·cases he
    ·cases he
   ·cases hc
  ·rename_i ht;injection hc with hc;subst hc;simp only[MO] at he;split at he
   ·rename_i k s hi hx;split at he
    ·rename_i hcond;obtain⟨r,hr,h2⟩:=jD he;simp only[ι] at h2;obtain⟨rfl,rfl⟩:=h2;exact ZR hS hρ hop ht hi hcond hx hr
    ·cases he
   ·cases he
  ·cases hc
 ·
  rename_i t l c hop;split at hc
  ·rename_i e ht;split at hc
   ·rename_i z b hz hb;split at hc
    ·rename_i hpos;injection hc with hc;subst hc;simp only[MO] at he;split at he
     ·rename_i n m hl hm;split at he
      ·rename_i hcond;obtain⟨c1,c2,c3,c4⟩:=hcond;obtain⟨o2,hmk,h2⟩:=jD he;obtain⟨hd,rfl⟩:=wg hmk;simp only[ι] at h2;obtain⟨rfl,rfl⟩:=h2;exact ZD hS hρ hop ht hz hb hl hm c1 c2 c3 c4 hd
      ·cases he
     ·cases he
    ·cases hc
   ·cases hc
  ·cases hc
 ·
  rename_i t x lo hi hop;split at hc
  ·rename_i e ht;split at hc
   ·rename_i n hn;split at hc;·cases hc
    ·rename_i hn0;injection hc with hc;subst hc;simp only[MO] at he;obtain⟨r,hr,h2⟩:=jD he;simp only[ι] at h2;obtain⟨rfl,rfl⟩:=h2;exact ZL hS hρ hop ht hn hn0 hr
   ·cases hc
  ·rename_i ht;injection hc with hc;subst hc;simp only[MO] at he;split at he
   ·rename_i s hx;split at he
    ·rename_i l k hl hk;split at he
     ·rename_i hcond;simp only[γ,ι] at he;obtain⟨rfl,rfl⟩:=he;exact ZI hS hρ hop ht hx hl hk hcond.1 hcond.2
     ·cases he
    ·cases he
   ·cases he
  ·cases hc
 ·
  rename_i t x lo hi mx hop;split at hc
  ·rename_i e ht;split at hc
   ·rename_i n hn;split at hc;·cases hc
    ·rename_i hn0;injection hc with hc;subst hc;simp only[MO] at he;obtain⟨r,hr,h2⟩:=jD he;simp only[ι] at h2;obtain⟨rfl,rfl⟩:=h2;exact ZJ hS hρ hop ht hn hn0 hr
   ·cases hc
  ·cases hc
 ·
  rename_i c hop;split at hc
  ·split at hc;·injection hc with hc;subst hc;simp[bR.nY] at hnc
   ·cases hc
  ·injection hc with hc;subst hc;simp[bR.nY] at hnc
  ·split at hc;·cases hc
   ·injection hc with hc;subst hc;simp[bR.nY] at hnc
  ·rename_i amd;split at hc
   ·rename_i s x t t' ha hty;split at hc
    ·rename_i htt;subst htt;split at hc
     ·rename_i e ht;split at hc
      ·rename_i z b hz hb;split at hc
       ·rename_i hpos;injection hc with hc;subst hc;simp only[MO] at he;exact ZA hS hρ hop amd (εj ha) (εj hty) ht hz hb rfl hpos he
       ·cases hc
      ·cases hc
     ·cases hc
    ·cases hc
   ·cases hc
  ·rename_i amd;split at hc
   ·rename_i x t ha hty;have ha':c.args=#[x]:=εj ha;have hty':c.argTypes=#[t]:=εj hty;have hlen:∀k,(k=0/\∃e,P.underlying t=some (.slice e))\/(k=1/\P.underlying t=some .string)\/(k=2/\∃a b,P.underlying t=some (.map a b))->iop= .len k x->bA A P Oq oper w σ o v o':=by
     intro k ht hh;subst hh;simp only[MO] at he;obtain⟨n,hn,h2⟩:=jD he;simp only[ι] at h2;obtain⟨rfl,rfl⟩:=h2;exact ZQ hS hρ hop amd ha' hty' ht hn
    split at hc;·rename_i e ht;injection hc with hc;exact hlen 0 (.inl ⟨rfl,e,ht⟩) hc.symm
    ·rename_i ht;injection hc with hc;exact hlen 1 (.inr (.inl ⟨rfl,ht⟩)) hc.symm
    ·rename_i k e ht;injection hc with hc;exact hlen 2 (.inr (.inr ⟨rfl,k,e,ht⟩)) hc.symm
    ·rename_i n e ht;injection hc with hc;subst hc;simp only[MO,γ,ι] at he;obtain⟨rfl,rfl⟩:=he;exact ZP hS hop amd ha' hty' ht
    ·cases hc
   ·cases hc
  ·rename_i amd;split at hc
   ·rename_i x y ha;injection hc with hc;subst hc;simp only[MO] at he;split at he
    ·rename_i k a k' b hx hy;split at he
     ·rename_i hkk;subst hkk;simp only[γ,ι] at he;obtain⟨rfl,rfl⟩:=he;exact PO (mx:=false) hS hρ hop amd (εj ha) hx hy
     ·cases he
    ·cases he
   ·cases hc
  ·rename_i amd;split at hc
   ·rename_i x y ha;injection hc with hc;subst hc;simp only[MO] at he;split at he
    ·rename_i k a k' b hx hy;split at he
     ·rename_i hkk;subst hkk;simp only[γ,ι] at he;obtain⟨rfl,rfl⟩:=he;exact PO (mx:=true) hS hρ hop amd (εj ha) hx hy
     ·cases he
    ·cases he
   ·cases hc
  ·cases hc
 ·
  rename_i x i hop;injection hc with hc;subst hc;simp only[MO] at he;split at he
  ·rename_i vs hx;obtain⟨r,hr,h2⟩:=jD he;simp only[ι] at h2;obtain⟨rfl,rfl⟩:=h2;exact ZO hS hρ hop hx hr
  ·cases he
 ·rename_i f a b hop;split at hc
  ·injection hc with hc;subst hc;simp only[MO,γ,ι] at he;obtain⟨rfl,rfl⟩:=he;exact ZM hS hρ (λ_=>rfl) hop
  ·cases hc
 ·rename_i t x hop;split at hc
  ·rename_i fs ht;injection hc with hc;subst hc;simp only[MO] at he;split at he
   ·rename_i cs hx;split at he
    ·rename_i hp;simp only[γ,ι] at he;obtain⟨rfl,rfl⟩:=he;exact ZN hS hρ ht hop hx hp
    ·cases he
   ·cases he
  ·cases hc
 ·rename_i t hop;split at hc
  ·split at hc
   ·injection hc with hc;subst hc;simp only[MO] at he;obtain⟨o2,hmk,h2⟩:=jD he;obtain⟨hd,rfl⟩:=wg hmk;simp only[ι] at h2;obtain⟨rfl,rfl⟩:=h2;exact Z2 hS hop hd
   ·cases hc
  ·cases hc
 ·
  rename_i t x k ok hop;split at hc
  ·rename_i kt et ht;split at hc
   ·rename_i ks ka z g hk hag hz hg;split at hc
    ·rename_i hzo;injection hc with hc;subst hc;simp only[MO] at he;split at he
     ·rename_i id kv hx hkv;split at he
      ·rename_i es kt' pu ho;split at he
       ·rename_i hkt;subst hkt;split at he
        ·rename_i i a q hf;simp only[γ,ι] at he;obtain⟨rfl,rfl⟩:=he;obtain⟨zv,hzv⟩:=Z1 hz hzo;obtain⟨u,hu1,hu2⟩:=PB (w:=w) (σ:=σ) (o:=o) hz hzo hzv;have:=PA (ok:=ok) hS hρ hop ht hk hag ⟨zv,u,hzv,hu1,hu2⟩ hx hkv ho hf hzv;simpa using this
        ·rename_i zv hf hzv;simp only[γ,ι] at he;obtain⟨rfl,rfl⟩:=he;obtain⟨u,hu1,hu2⟩:=PB (w:=w) (σ:=σ) (o:=o) hz hzo hzv;have:=PA (ok:=ok) hS hρ hop ht hk hag ⟨zv,u,hzv,hu1,hu2⟩ hx hkv ho hf hzv;simpa using this
        ·cases he
       ·cases he
      ·cases he
     ·cases he
    ·cases hc
   ·cases hc
  ·cases hc
 ·rename_i t m k v' hop;split at hc
  ·rename_i kt et ht;split at hc
   ·rename_i ks ka hk hag;injection hc with hc;subst hc;simp only[MO] at he;split at he
    ·rename_i id kv hx hkv;split at he
     ·rename_i es kt' pu ho;split at he;·cases he
      ·rename_i hcond;simp only[not_or,ζ3] at hcond;obtain⟨hpu,hkt⟩:=hcond;subst hkt;have avV:pu=true->(OA v').pure=true:=λhp=>by
        cases hq:(OA v').pure with
        |true=>rfl;|false=>exact absurd ⟨hp,hq⟩ hpu
       split at he
       ·rename_i i a hf;simp only[γ,ι] at he;obtain⟨rfl,rfl⟩:=he;exact Bu hS hρ (.inl hop) ht hk hag hx hkv ho avV hf
       ·rename_i hf;simp only[γ,ι] at he;obtain⟨rfl,rfl⟩:=he;exact Bu hS hρ (.inl hop) ht hk hag hx hkv ho avV hf
       ·cases he
     ·cases he
    ·cases he
   ·cases hc
  ·cases hc
 ·rename_i t m k v' hop;split at hc
  ·rename_i kt et ht;split at hc
   ·rename_i ks ka hk hag;injection hc with hc;subst hc;simp only[MO] at he;split at he
    ·rename_i id kv hx hkv;split at he
     ·rename_i es kt' pu ho;split at he;·cases he
      ·rename_i hcond;simp only[not_or,ζ3] at hcond;obtain⟨hpu,hkt⟩:=hcond;subst hkt;have avV:pu=true->(OA v').pure=true:=λhp=>by
        cases hq:(OA v').pure with
        |true=>rfl;|false=>exact absurd ⟨hp,hq⟩ hpu
       split at he
       ·rename_i i a hf;simp only[γ,ι] at he;obtain⟨rfl,rfl⟩:=he;exact Bu hS hρ (.inr hop) ht hk hag hx hkv ho avV hf
       ·rename_i hf;simp only[γ,ι] at he;obtain⟨rfl,rfl⟩:=he;exact Bu hS hρ (.inr hop) ht hk hag hx hkv ho avV hf
       ·cases he
     ·cases he
    ·cases he
   ·cases hc
  ·cases hc
 ·cases hc
end
section
variable {A A':de} {w w':World} {σ σ':TN} {o o':a_}
def Tr (o:a_) (σ:TN) (o':a_) (c:TN) (id a:Nat):Prop:=
 (∀f e g h,o[id]?=some (.cells f e g h)->∃b i d,o'[a]?=some (.cells b i g d)/\b.length=f.length)/\(IsMap o id->IsMap o' a)/\c[a]?=σ[id]?
theorem Tr.v7 {id b a:Nat} (h:Tr o σ o' σ' id b) (k:ry o id a):ry o' b a:=by
 obtain⟨j,e,f,l,g,n⟩:=k;obtain⟨d,i,c,m,p⟩:=h.1 j e f l g;exact⟨d,i,f,c,m,by omega⟩
theorem Tr.cur {id g f sz:Nat} (h:Tr o σ o' σ' id g) (k:ry o id f) (p:tD o' g sz f):tD o id sz f:=by
 obtain⟨m,e,j,l,n,w⟩:=k;obtain⟨r,y,s,u,x⟩:=h.1 m e j l n;obtain⟨t,v,q,i,z⟩:=p;rw[u] at i;injection i with i;injection i with a b c d;subst a c;exact⟨m,e,l,n,by omega⟩
mutual
theorem AV.tu (m:Nat->Option Nat):∀(c:AV),c.pure=true->c.bI m=some c
 | .sc _,_=>rfl
 | .sl _ _,_=>rfl
 | .ud,h| .agg _,h| .Gz _,h| .ep _ _,h| .ptr _ _ _,h| .os _ _ _ _,h| .mp _,h| .fn _ _ _,h| .ifc _ _,h=>by simp[AV.pure] at h
end
theorem P4 (m:Nat->Option Nat):∀(cs:List AV),cJ cs=true->gV m cs=some cs
 |[],_=>rfl
 |c::cs,h=>by
  simp only[cJ,θ] at h;simp only[gV,AV.tu m c h.1,P4 m cs h.2]
mutual
theorem nA.bI [anJ A A'] (l:∀b,b<w.heap.size->Fr A σ b->Fr A' σ' b) {m:Nat->Option Nat} (k:∀id e,m id=some e->Tr o σ o' σ' id e):
  ∀(c:AV) (v:Value) (q:AV),c.bI m=some q->nA A w σ o c v->nA A' w σ' o' q v
 | .ud,v,q,d,_=>by grind[δy,nA];| .sc u,v,q,d,h=>by grind[δy,nA];| .sl n g,v,q,d,h=>by
  simp only[δy,γ] at d;subst d;simp only[nA] at h ⊢;obtain⟨a,D,rfl,T,s,F⟩:=h;exact⟨a,D,rfl,T,s,cF.bI l k g a 0 s F⟩;| .ep g G,v,q,d,h=>by
  simp only[δy,γ] at d;subst d;simp only[nA] at h ⊢;obtain⟨a,rfl,s,F⟩:=h;exact⟨a,rfl,s,cF.bI l k g _ 0 s F⟩;| .agg g,v,q,d,h=>by
  simp only[δy,ε] at d;obtain⟨i,p,rfl⟩:=d;simp only[nA] at h ⊢;obtain⟨B,rfl,z⟩:=h;exact⟨B,rfl,Aq.bI l k g _ i p z⟩;| .Gz g,v,q,d,h=>by
  simp only[δy,ε] at d;obtain⟨i,p,rfl⟩:=d;simp only[nA] at h ⊢;obtain⟨B,rfl,z⟩:=h;exact⟨B,rfl,Aq.bI l k g _ i p z⟩;| .ptr id G I,v,q,d,h=>by
  simp only[δy,ε] at d;obtain⟨e,p,rfl⟩:=d;have C:=k id e p;simp only[nA] at h ⊢;refine⟨C.v7 h.1,h.2.1,λL E=>?_⟩;rw[C.2.2];exact h.2.2 L (C.cur h.1 E);| .os id G P I,v,q,d,h=>by
  simp only[δy,ε] at d;obtain⟨e,p,rfl⟩:=d;have C:=k id e p;simp only[nA] at h ⊢;obtain⟨N,a,D,K,z,O⟩:=h;refine⟨C.v7 N,a,D,K,z,λL E=>?_⟩;have:=O L (C.cur N E);unfold jY at this ⊢;rw[C.2.2];exact this;| .mp id,v,q,d,h=>by
  simp only[δy,ε] at d;obtain⟨e,p,rfl⟩:=d;have C:=k id e p;simp only[nA] at h ⊢;rw[C.2.2];exact⟨C.2.1 h.1,h.2⟩;| .fn f a b,v,q,d,h=>by
  simp only[δy] at d;split at d
  ·rename_i Q V p J;injection d with d;subst d;simp only[nA] at h ⊢;obtain⟨x,y,rfl,R,S⟩:=h;exact⟨x,y,by rw[anJ.eq (A:=A) (A':=A')],Aq.bI l k a _ Q p R,Aq.bI l k b _ V J S⟩
  ·cases d;| .ifc t g,v,q,d,h=>by
  simp only[δy,γ] at d;subst d;simp only[nA] at h ⊢;obtain⟨B,rfl,s,z⟩:=h;exact⟨B,rfl,s,Aq.bI l k g _ g (P4 m g s) z⟩
theorem Aq.bI [anJ A A'] (l:∀b,b<w.heap.size->Fr A σ b->Fr A' σ' b) {m:Nat->Option Nat} (k:∀id e,m id=some e->Tr o σ o' σ' id e):
  ∀(g:List AV) (B:List Value) (i:List AV),gV m g=some i->Aq A w σ o g B->Aq A' w σ' o' i B
 |[],B,i,d,h=>by grind[gV,Aq];|c::g,B,i,d,h=>by
  simp only[gV] at d;split at d
  ·rename_i W H p J;injection d with d;subst d;simp only[Aq] at h ⊢;obtain⟨v,r,rfl,K,z⟩:=h;exact⟨v,r,rfl,nA.bI l k c v W p K,Aq.bI l k g r H J z⟩
  ·cases d
theorem cF.bI [anJ A A'] (l:∀b,b<w.heap.size->Fr A σ b->Fr A' σ' b) {m:Nat->Option Nat} (k:∀id e,m id=some e->Tr o σ o' σ' id e):
  ∀(g:List AV) (a:Option Addr) (j:Nat),cJ g=true->cF A w σ o g a j->cF A' w σ' o' g a j
 |[],_,_,_,_=>by simp[cF];|c::g,a,j,s,h=>by
  simp only[cJ,θ] at s;simp only[cF] at h ⊢;obtain⟨⟨b,v,rfl,U,d,F⟩,z⟩:=h;have M:b.block<w.heap.size:=by grind[Pq,cZ]
  exact⟨⟨b,v,rfl,l _ M U,d,nA.bI l k c v c (AV.tu m c s.1) F⟩,cF.bI l k g _ (j+1) s.2 z⟩
end
theorem Hu {m:Nat->Option Nat}:∀{cs a:List AV},gV m cs=some a->a.length=cs.length/\∀(j:Nat) (b:AV),a[j]?=some b->∃c,cs[j]?=some c/\c.bI m=some b
 |[],a,h=>by grind[gV];|c::cs,a,h=>by
  simp only[gV] at h;split at h
  ·rename_i k e f d;injection h with h;subst h;obtain⟨i,g⟩:=Hu d;grind
  ·cases h
theorem P3 {m:Nat->Option Nat}:∀{es a:List (Value×AV)},nv m es=some a->a.length=es.length/\∀(j:Nat) (b:Value×AV),a[j]?=some b->∃e,es[j]?=some e/\e.1=b.1/\e.2.bI m=some b.2
 |[],a,h=>by grind[nv];|e::es,a,h=>by
  simp only[nv] at h;split at h
  ·rename_i v d f c;injection h with h;subst h;obtain⟨g,i⟩:=P3 c;grind
  ·cases h
theorem ZX {m:Nat->Option Nat} {c a:AV} (h:c.bI m=some a) (b:c.one=true):a.one=true:=by
 cases c<;>simp only[δy,γ,ε] at h<;>simp only[AV.one,τ] at b<;>grind[δy,AV.one]
mutual
theorem aYQ {m:Nat->Option Nat}:∀{c a:AV},c.bI m=some a->c.pure=true->a=c
 |c,a,h,b=>by
  grind[AV.tu]
end
theorem cQ.bI [anJ A A'] (hA:∀b,b<w.heap.size->Fr A σ b->Fr A' σ' b) {m:Nat->Option Nat} (hm:∀id id',m id=some id'->Tr o σ o' σ' id id') {i i':Nat} {x x':OL} (hx:x.bI m=some x') (hσ:σ'[i']?=σ[i]?)
  (h:cQ A w σ o i x):cQ A' w σ' o' i' x':=by
 cases x with
 |dead=>simp only[OL.bI,γ] at hx;subst hx;simp only[cQ] at h ⊢;rw[hσ];exact h;|cells cs e sz pu=>
  simp only[cQ] at h;obtain⟨h1,h2,h3⟩:=h;have key:∀cs',cs'.length=cs.length->(pu=true->cJ cs'=true)->dQ cs'=true->(∀(j:Nat) (c':AV) (v:Value),cs'[j]?=some c'->(∀c,cs[j]?=some c->nA A w σ o c v->nA A' w σ' o' c' v))->cQ A' w σ' o' i' (.cells cs' e sz pu):=by
   intro cs' k1 k2 k3 k4;simp only[cQ];refine⟨k2,k3,?_⟩;rcases h3 with⟨h0,h0'⟩|⟨b,cap,arr,r1,r2,r3,r4,r5,r6⟩;·left;rw[hσ];exact⟨h0,χ (by rw[k1,h0'];rfl)⟩
   ·refine .inr ⟨b,cap,arr,by rw[hσ];exact r1,r2,r3,r4,by omega,λj c' hj=>?_⟩;have hjl:j<cs.length:=by have:=(ζ.1 hj).1;omega
    obtain⟨v,hv,hr⟩:=r6 j _ (μ hjl);exact⟨v,hv,k4 j c' v hj _ (μ hjl) hr⟩
  simp only[OL.bI] at hx;split at hx
  ·rename_i hpu;injection hx with hx;subst hx;refine key cs rfl h1 h2 λj c' v hj c hc hr=>?_;rw[hj] at hc;injection hc with hc;subst hc;exact nA.bI hA hm c' v c' (AV.tu m c' (oE (h1 hpu) c' (γf hj))) hr
  ·rename_i hpu;obtain⟨cs',hc',rfl⟩:=ε.1 hx;obtain⟨g1,g2⟩:=Hu hc';refine key cs' g1 (λhp=>absurd hp hpu) (lT.2 λc hc=>?_) λj c' v hj c hc hr=>?_
   ·obtain⟨j,hj⟩:=γL hc;obtain⟨c0,q1,q2⟩:=g2 j c hj;exact ZX q2 (lT.1 h2 c0 (γf q1))
   ·obtain⟨c0,q1,q2⟩:=g2 j c' hj;rw[hc] at q1;injection q1 with q1;subst q1;exact nA.bI hA hm c v c' q2 hr;|map es kt pu=>
  simp only[cQ] at h;obtain⟨h1,h2,b,c,en,cl,h3,h4,h5,h6⟩:=h;simp only[OL.bI] at hx;split at hx
  ·rename_i hpu;injection hx with hx;subst hx;simp only[cQ];refine⟨h1,h2,b,c,en,cl,by rw[hσ];exact h3,h4,h5,λj e he=>?_⟩;obtain⟨m',q1,q2,q3⟩:=h6 j e he;exact⟨m',q1,q2,nA.bI hA hm e.2 _ e.2 (AV.tu m e.2 (h1 hpu e (γf he))) q3⟩
  ·rename_i hpu;obtain⟨es',hc',rfl⟩:=ε.1 hx;obtain⟨g1,g2⟩:=P3 hc';simp only[cQ];refine⟨λhp=>absurd hp hpu,λe he=>?_,b,c,en,cl,by rw[hσ];exact h3,h4,⟨by have:=h5.1;omega,h5.2⟩,λj e' he=>?_⟩
   ·obtain⟨j,hj⟩:=γL he;obtain⟨e0,q1,q2,_⟩:=g2 j e hj;rw[<-q2];exact h2 e0 (γf q1)
   ·obtain⟨e0,q1,q2,q3⟩:=g2 j e' he;obtain⟨m',r1,r2,r3⟩:=h6 j e0 q1;exact⟨m',r1,by rw[r2,q2],nA.bI hA hm e0.2 _ e'.2 q3 r3⟩
def oD (k:Nat):Nat->Option Nat:=λi=>if i<k then some i else none
mutual
theorem Bt (k:Nat):∀(c:AV),c.VI k=true->c.bI (oD k)=some c
 | .ud,_| .sc _,_| .sl _ _,_| .ep _ _,_| .ifc _ _,_=>rfl
 | .agg d,h=>by simp only[AV.VI] at h;simp[δy,wz k d h];| .Gz d,h=>by simp only[AV.VI] at h;simp[δy,wz k d h];| .ptr e _ _,h=>by simp_all[AV.VI,δy,oD];| .os e _ _ _,h=>by simp_all[AV.VI,δy,oD];| .mp e,h=>by simp_all[AV.VI,δy,oD];| .fn f a b,h=>by simp only[AV.VI,θ] at h;simp[δy,wz k a h.1,wz k b h.2]
theorem wz (k:Nat):∀(d:List AV),dH k d=true->gV (oD k) d=some d
 |[],_=>rfl
 |c::d,h=>by simp only[dH,θ] at h;simp[gV,Bt k c h.1,wz k d h.2]
end
theorem P2 {k:Nat} {cs:List AV}:dH k cs=true↔∀c∈cs,c.VI k=true:=by
 induction cs<;>grind[dH]
theorem P1 (k:Nat) (id a:Nat) (h:oD k id=some a):Tr o σ (o.take k) (σ.take k) id a:=by
 unfold oD at h;split at h
 ·rename_i i;injection h with h;subst h;refine⟨λf e j b g=>⟨f,e,b,by simp_all,rfl⟩,λ⟨d,c,b,g⟩=>⟨d,c,b,by simp_all⟩,by simp_all⟩
 ·cases h
theorem P0 (k:Nat) (b:Nat) (h:Fr A σ b):Fr A (σ.take k) b:=by
 refine⟨?_,h.2⟩;rintro⟨i,c,a⟩;rw[δk] at a;split at a;·exact h.1 ⟨i,c,a⟩
 ·cases a
theorem nA.take {k:Nat} {c:AV} {v:Value} (h:nA A w σ o c v) (a:c.VI k=true):nA A w (σ.take k) (o.take k) c v:=
 nA.bI (λb _ d=>P0 k b d) (P1 k) c v c (Bt k c a) h
theorem ZW {k:Nat} {x:OL} (h:x.VI k=true):x.bI (oD k)=some x:=by
 cases x with
 |dead=>rfl;|cells g e i c=>
  grind[OL.VI,OL.bI,wz];|map a f c=>
  simp only[OL.VI,δz] at h;simp only[OL.bI];split;·rfl
  ·rename_i b;have d:=h.resolve_left b;have:nv (oD k) a=some a:=by
    clear h b;induction a<;>grind[dH,nv,Bt]
   rw[this];rfl
theorem OM.take (e:OM A w σ o) {k:Nat} (n:∀x∈o.take k,x.VI k=true):OM A w (σ.take k) (o.take k):=by
 have a:∀(i:Nat) (s:Option (Nat×Nat)),(σ.take k)[i]?=some s->σ[i]?=some s:=by
  grind
 refine⟨by simp[e.len],λi j b c d g m=>e.dist i j b c d (a _ _ g) (a _ _ m),λi b c g=>e.dZ i b c (a _ _ g),λi x f=>?_,λi b c g=>e.av i b c (a _ _ g),e.avb⟩;have h:=f;rw[δk] at f;split at f
 ·rename_i p;exact cQ.bI (λb _ l=>P0 k b l) (P1 k) (ZW (n x (γf h))) (by simp_all) (e.obj i x f)
 ·cases f
theorem Ext.take {v:World} {j:TN} {u:a_} (h:Ext v j u w σ o) {k:Nat} (C:u.length<=k):Ext v j u w (σ.take k) (o.take k) where
 size:=h.size;blk:=λb z B=>by
  obtain⟨g,p⟩:=h.blk b z B;refine⟨g,?_⟩;rintro⟨i,c,q⟩;rw[δk] at q;split at q;·exact p ⟨i,c,q⟩
  ·cases q
 len:=by have:=h.len;simp;omega
 cur:=λm t l=>by
  obtain⟨g,p⟩:=h.cur m t l;have d:m<k:=by
   obtain⟨r,e,n,a,f,_⟩:=l;grind
  refine⟨?_,λn A=>?_⟩
  ·obtain⟨r,e,n,a,f,s⟩:=g;exact⟨r,e,n,a,by simp_all,s⟩
  ·rw[δB d];refine p n ?_;obtain⟨r,e,a,f,s⟩:=A;rw[δB d] at f;exact⟨r,e,a,f,s⟩
 isMap:=λm l=>by
  obtain⟨g,p⟩:=h.isMap m l;have d:m<k:=by
   obtain⟨x,y,a,f⟩:=l;grind
  refine⟨?_,by simp_all⟩;obtain⟨x,y,a,f⟩:=g;exact⟨x,y,a,by simp_all⟩
 os:=h.os;tape:=h.tape;output:=h.output
mutual
theorem nA.VI {k:Nat} (g:∀i x,k<=i->o[i]?=some x->x.lX=true):∀(c:AV) (v:Value),nA A w σ o c v->c.VI k=true
 | .ud,_,_| .sc _,_,_| .sl _ _,_,_| .ep _ _,_,_| .ifc _ _,_,_=>rfl
 | .agg d,v,h=>by simp only[nA] at h;obtain⟨l,_,j⟩:=h;simp only[AV.VI];exact Aq.VI g d _ j;| .Gz d,v,h=>by simp only[nA] at h;obtain⟨l,_,j⟩:=h;simp only[AV.VI];exact Aq.VI g d _ j;| .ptr n _ _,v,h=>by
  simp only[nA] at h;obtain⟨⟨d,e,s,m,p,_⟩,_⟩:=h;simp only[AV.VI,decide_eq_true_eq];grind[OL.lX];| .os n _ _ _,v,h=>by
  simp only[nA] at h;obtain⟨⟨d,e,s,m,p,_⟩,_⟩:=h;simp only[AV.VI,decide_eq_true_eq];grind[OL.lX];| .mp n,v,h=>by
  simp only[nA] at h;obtain⟨⟨B,z,m,p⟩,_⟩:=h;simp only[AV.VI,decide_eq_true_eq];grind[OL.lX];| .fn f a b,v,h=>by simp only[nA] at h;obtain⟨x,y,_,u,q⟩:=h;simp only[AV.VI,θ];exact⟨Aq.VI g a _ u,Aq.VI g b _ q⟩
theorem Aq.VI {k:Nat} (g:∀i x,k<=i->o[i]?=some x->x.lX=true):∀(d:List AV) (l:List Value),Aq A w σ o d l->dH k d=true
 |[],_,_=>rfl
 |c::d,l,h=>by
  simp only[Aq] at h;obtain⟨v,r,_,t,j⟩:=h;simp only[dH,θ];exact⟨nA.VI g c v t,Aq.VI g d r j⟩
end
theorem cQ.VI {k i:Nat} {x:OL} (n:∀i x,k<=i->o[i]?=some x->x.lX=true) (h:cQ A w σ o i x):x.VI k=true:=by
 cases x with
 |dead=>rfl;|cells t e s g=>
  simp only[cQ] at h;simp only[OL.VI,δz];right;refine P2.2 λc a=>?_;obtain⟨j,f⟩:=γL a;grind[nA.VI];|map r p g=>
  simp only[cQ] at h;obtain⟨_,_,b,c,m,l,_,_,_,q⟩:=h;simp only[OL.VI,δz];right;refine P2.2 λc a=>?_;obtain⟨e,d,rfl⟩:=List.mem_map.1 a;obtain⟨j,f⟩:=γL d;grind[nA.VI]
theorem ZV {n i:Nat} {x:OL} (h:(fu n)[i]?=some x):x= .dead:=by
 grind[fu]
theorem OM.fu (f:OM A w σ o) (n:Nat):OM A w (σ++δ n none) (o++fu n)/\Ext w σ o w (σ++δ n none) (o++fu n):=by
 have g:∀(i:Nat) (b c:Nat),(σ++δ n none)[i]?=some (some (b,c))->σ[i]?=some (some (b,c)):=by
  grind
 have v:Ext w σ o w (σ++δ n none) (o++Go.Vi.fu n):=by
  refine⟨π _,λb _ F=>⟨rfl,λ⟨i,c,h⟩=>F ⟨i,c,g i b c h⟩⟩,by simp,λK I q=>?_,λK q=>?_,rfl,rfl,rfl⟩
  ·obtain⟨H,e,G,m,s,C⟩:=q;have a:=(ζ.1 s).1;refine⟨⟨H,e,G,m,by grind,C⟩,λB D=>⟨?_,by rw[δb (by rw[f.len];exact a)]⟩⟩;obtain⟨p,J,u,l,t⟩:=D;rw[δb a] at l;exact⟨p,J,u,l,t⟩
  ·obtain⟨z,y,m,s⟩:=q;have a:=(ζ.1 s).1;exact⟨⟨z,y,m,by grind⟩,by rw[δb (by rw[f.len];exact a)]⟩
 refine⟨⟨by simp[Go.Vi.fu,f.len],λi j b c d h E=>f.dist i j b c d (g _ _ _ h) (g _ _ _ E),λi b c h=>f.dZ i b c (g _ _ _ h),λi x k=>?_,λi b c h=>f.av i b c (g _ _ _ h),f.avb⟩,v⟩;rw[List.getElem?_append] at k;split at k
 ·rename_i a;exact(f.obj i x k).ext v (by rw[δb (by rw[f.len];exact a)]) λ_ _ _=>rfl
 ·rename_i a;have:=ZV k;subst this;simp only[cQ];have r:=(ζ.1 k).1;simp[Go.Vi.fu] at r;rw[ε7 (by rw[f.len];omega),List.getElem?_replicate,if_pos (by rw[f.len];omega)]
theorem YG (f:OM A w σ o) (k:Nat):∃b,OM A w b (pR k o)/\(∀c v,nA A w σ o c v->nA A w b (pR k o) c v)/\
  ∀(e:World) (a:TN) (d:a_),d.length<=k->Ext e a d w σ o->Ext e a d w b (pR k o):=by
 unfold pR;split
 ·rename_i h;have g:∀i x,k<=i->o[i]?=some x->x.lX=true:=by
   intro i x r l;refine List.all_eq_true.1 h x (γf (i:=i - k) ?_);simp_all
  refine⟨σ.take k,f.take λx l=>?_,λc v m=>m.take (nA.VI g c v m),λe a d q p=>p.take q⟩;obtain⟨j,n⟩:=γL (γn l);exact cQ.VI g (f.obj j x n)
 ·exact⟨σ,f,λ_ _ h=>h,λ_ _ _ _ h=>h⟩
end
def jB (P:Program) (f:FuncId) (args:List AV) (o:a_) (r:AV) (o':a_):Prop:=
 ∀(A:de) (w:World) (b:TN) (d:List Value),OM A w b o->Aq A w b o args d->
  Calls P f d.toArray w λe c=>∃u a,e= .returned u/\OM A c a o'/\nA A c a o' r u/\Ext w b o c a o'
def nX (P:Program) (call:cw):Prop:=
 ∀f a o b r c,call f a o b=some (r,c)->fU P f=true/\jB P f a o r c/\(b=false->c=[])
section
variable {P:Program} {A B:de} {w w':World} {σ σ':TN} {o o':a_}
theorem AI {d e:Type} {f:d->Option e}:∀{l:List d} {c:List e},l.mapM f=some c->c.length=l.length/\∀(j:Nat) (a:d),l[j]?=some a->∃b,c[j]?=some b/\f a=some b
 |[],c,h=>by simp_all;|a::l,c,h=>by
  rw[εR] at h;cases g:f a with
  |none=>simp[g] at h;|some b=>
   cases i:l.mapM f with
   |none=>simp_all;|some r=>
    simp[g,i] at h;subst h;obtain⟨m,k⟩:=AI i;grind
theorem yk {f:AV->Option AV} {cs a:List AV} {vs:List Value} (h:cs.mapM f=some a) (e:Aq A w σ o cs vs) (n:∀c∈cs,∀d v,f c=some d->nA A w σ o c v->nA B w σ' o' d v):Aq B w σ' o' a vs:=by
 obtain⟨p,m⟩:=AI h;have q:=Aq.length _ _ e;refine Aq.ke _ _ (by omega) λj d k=>?_;have g:j<cs.length:=by grind
 obtain⟨v,r,i⟩:=Aq.get _ _ e j _ (μ g);obtain⟨b,s,l⟩:=m j _ (μ g);grind
theorem Ht [anJ A B] (hS:OM A w σ o) (hB:∀b,b<w.heap.size->Fr A σ b->¬B b):∀(d:Nat) (a Q:AV) (u:Value),freeze o d a=some Q->(∀id∈eE o d a,∀b c,σ[id]?=some (some (b,c))->¬B b)->
  nA A w σ o a u->nA B w [] [] Q u:=by
 have F:∀b,b<w.heap.size->Fr A σ b->Fr B [] b:=λb z f=>⟨λ⟨i,c,E⟩=>by simp at E,hB b z f⟩;have M:∀id t,(λ_:Nat=>(none:Option Nat)) id=some t->Tr o σ [] [] id t:=λ_ _ h=>by cases h
 intro d;induction d with
 |zero=>
  intro a Q u f _ s;cases a<;>simp only[freeze,reduceCtorEq,γ] at f;·grind[nA]
  ·rename_i v;split at f
   ·injection f with f;subst f;have:=fD s;subst this;simp only[nA,cF];exact⟨none,0,rfl,π _,rfl,trivial⟩
   grind[nA]
  ·subst f;exact nA.bI F M _ _ _ rfl s
  ·subst f;exact nA.bI F M _ _ _ rfl s;|succ d ih=>
  intro a Q u f ht s;cases a<;>simp only[freeze,reduceCtorEq,γ] at f;·grind[nA]
  ·rename_i v;split at f
   ·injection f with f;subst f;have:=fD s;subst this;simp only[nA,cF];exact⟨none,0,rfl,π _,rfl,trivial⟩
   grind[nA]
  ·rename_i C;obtain⟨I,h1,rfl⟩:=ε.1 f;grind[nA,yk,eE]
  ·rename_i C;obtain⟨I,h1,rfl⟩:=ε.1 f;grind[nA,yk,eE]
  ·subst f;exact nA.bI F M _ _ _ rfl s
  ·
   rename_i id q r a3;split at f
   ·rename_i C e R pu T;split at f
    ·rename_i y;obtain⟨D,P⟩:=y;simp only[nA] at s;obtain⟨a5,X,O,rfl,J,G⟩:=s;have Z:=G R ⟨C,e,pu,T,D⟩;have L:=hS.obj id _ T;simp only[cQ] at L;obtain⟨q1,q2,q3⟩:=L;have k:∀(j:Nat) (c:AV),((C.drop q).take (r*R))[j]?=some c->∃(p:Addr) (v:Value),X=some p/\¬B p.block/\w.cell? (p.add j)=some v/\nA A w σ o c v:=by
      intro j c n;rw[δk] at n;split at n
      ·rename_i S;rw[δA] at n;have a1:0<r:=by
        grind
       unfold jY at Z;split at Z;·omega
       ·rename_i b c2 K;rcases q3 with⟨h0,_⟩|⟨b',a0,a4,U,_,r3,_,_,r6⟩;·simp_all
        ·rw[K] at U;simp only[γ,ι] at U;obtain⟨rfl,rfl⟩:=U;obtain⟨v,hv,m⟩:=r6 _ c n;refine⟨⟨b,q,none⟩,v,(by grind[nZ]),ht id (by simp[eE]) b c2 K,?_,m⟩;grind[G_,World.cell?]
       simp_all
      ·cases n
     split at f
     ·rename_i N;injection f with f;subst f;have g:cJ ((C.drop q).take (r*R))=true:=rq λc n=>oE (q1 N) c (γY (γn n));simp only[nA];refine⟨X,O,rfl,J,g,cF.ke _ _ _ λj c n=>?_⟩;obtain⟨p,v,V,x,l,m⟩:=k j c n;exact⟨p,v,V,⟨λ⟨i,c,E⟩=>by simp at E,x⟩,by simpa using l,nA.bI F M c v c (AV.tu _ c (oE g c (γf n))) m⟩
     ·rename_i N;split at f
      ·rename_i I H;split at f
       ·rename_i g;injection f with f;subst f;obtain⟨m1,m2⟩:=AI H;simp only[nA];refine⟨X,O,rfl,J,g,cF.ke _ _ _ λj c' W=>?_⟩;have S:j<((C.drop q).take (r*R)).length:=by grind
        obtain⟨p,v,V,x,l,m⟩:=k j _ (μ S);obtain⟨b,z,Y⟩:=m2 j _ (μ S);rw[W] at z;injection z with z;subst z;refine⟨p,v,V,⟨λ⟨i,c,E⟩=>by simp at E,x⟩,by simpa using l,ih _ _ v Y (λt a2=>ht t ?_) m⟩;simp only[eE,T,γq];grind
       ·cases f
      ·cases f
    ·cases f
   ·cases f
  ·grind[nA,anJ.eq,yk,eE]
  ·subst f;exact nA.bI F M _ _ _ rfl s
theorem OM.I3 (f:OM A w σ o) (e:Ext w [] [] w' σ' o'):OM A w' σ o/\Ext w σ o w' σ o:=by
 have a:∀b,b<w.heap.size->w'.heap[b]?=w.heap[b]?:=λb d=>(e.blk b d λ⟨i,c,l⟩=>by simp at l).1;have g:Ext w σ o w' σ o:=⟨e.size,λb d k=>⟨a b d,k⟩,π _,λ_ _ h=>⟨h,λ_ h=>⟨h,rfl⟩⟩,λ_ h=>⟨h,rfl⟩,e.os,e.tape,e.output⟩;exact⟨⟨f.len,f.dist,λi b c h=>γl (f.dZ i b c h) e.size,λi x j=>(f.obj i x j).ext g rfl λb c d=>a b (f.dZ i b c d),f.av,λb d=>γl (f.avb b d) e.size⟩,g⟩
mutual
theorem PZ:∀(r:AV) (u:Value),r.kf=true->nA A w σ o r u->nA B w' σ' o' r u
 | .ud,_,_,_=>by simp[nA];| .sc v,u,_,h=>by grind[nA];| .agg b,u,a,h=>by
  simp only[AV.kf] at a;simp only[nA] at h ⊢;obtain⟨d,rfl,e⟩:=h;exact⟨d,rfl,Hs b _ a e⟩;| .Gz b,u,a,h=>by
  simp only[AV.kf] at a;simp only[nA] at h ⊢;obtain⟨d,rfl,e⟩:=h;exact⟨d,rfl,Hs b _ a e⟩;| .sl n b,u,a,h=>by
  grind[AV.kf,nA,cF];| .ep _ _,_,a,_| .ptr _ _ _,_,a,_| .os _ _ _ _,_,a,_| .mp _,_,a,_| .fn _ _ _,_,a,_| .ifc _ _,_,a,_=>by simp[AV.kf] at a
theorem Hs:∀(b:List AV) (d:List Value),s_ b=true->Aq A w σ o b d->Aq B w' σ' o' b d
 |[],d,_,h=>by grind[Aq];|c::b,d,a,h=>by
  simp only[s_,θ] at a;simp only[Aq] at h ⊢;obtain⟨v,r,rfl,f,e⟩:=h;exact⟨v,r,rfl,PZ c v a.1 f,Hs b r a.2 e⟩
end
theorem yj (w:World) (a:∀b,A b->b<w.heap.size):OM A w [] []:=⟨rfl,by simp,by simp,by simp,by simp,a⟩
theorem YF {call:cw} (q:nX P call) (n:OM A w σ o) {f:FuncId} {args a:List AV} {vs:List Value} (N:Aq A w σ o args vs) (K:args.mapM (freeze o 6)=some a) {r:AV}
  (X:call f a [] false=some (r,[])) (y:(args.flatMap (eE o 6)).isEmpty=true\/r.kf=true):
  fU P f=true/\Calls P f vs.toArray w λe w'=>∃u g,e= .returned u/\OM A w' g o/\nA A w' g o r u/\Ext w σ o w' g o:=by
 obtain⟨S,C,_⟩:=q _ _ _ _ _ _ X;refine⟨S,?_⟩;rcases y with y|y;·
  let B:de:=⟨λb=>A b\/Own σ b,A.l⟩;have Q:∀b,B b->b<w.heap.size:=λb z=>Or.elim (show A b\/Own σ b from z) (n.avb b) λ⟨i,c,V⟩=>n.dZ i b c V;haveI:anJ A B:=⟨rfl⟩;haveI:anJ B A:=⟨rfl⟩;have j:Aq B w [] [] a vs:=yk K N λc E J v s t=>Ht n (λb _ d z=>Or.elim (show A b\/Own σ b from z) d.2 d.1) 6 c J v s (λI U=>by
   simp_all) t;refine(C B w [] vs (yj w Q) j).mono ?_;rintro e w' ⟨u,g,rfl,F,p,G⟩;obtain⟨M,L⟩:=n.I3 G;refine⟨u,σ,rfl,M,?_,L⟩;have D:r.VI 0=true:=nA.VI (k:=0) (λi x _ W=>by simp at W) r u p;refine nA.bI (m:=oD 0) (λb z d=>⟨λR=>d.2 (show A b\/Own σ b from .inr R),λT=>d.2 (show A b\/Own σ b from .inl T)⟩) (λI O h=>by grind[oD]) r u r (Bt 0 r D) p
 ·have j:Aq A w [] [] a vs:=yk K N λc E J v s t=>Ht n (λb _ d z=>d.2 z) 6 c J v s (λI _ b Y H=>n.av I b Y H) t;refine(C A w [] vs (yj w n.avb) j).mono ?_;rintro e w' ⟨u,g,rfl,F,p,G⟩;obtain⟨M,L⟩:=n.I3 G;grind[PZ]
end
section
variable {A:de} {w:World} {σ:TN} {o:a_}
def iK (o:a_) (p:Nat->Bool) (i:Nat):Bool:=p i&&(match o[i]? with|some (.cells _ _ _ true)=>true|_=>false)
def kF (o:a_) (p:Nat->Bool) (σ:TN):TN:=(ω σ.length).map λi=>if iK o p i then none else(σ[i]?).getD none
theorem Hr (o:a_) (p:Nat->Bool) (σ:TN):(kF o p σ).length=σ.length:=by simp[kF]
theorem Hq {o:a_} {p:Nat->Bool} {σ:TN} {i:Nat} (a:i<σ.length):(kF o p σ)[i]?=some (if iK o p i then none else(σ[i]?).getD none):=by
 simp[kF,a]
theorem tt {o:a_} {p:Nat->Bool} {σ:TN} {i:Nat} {s:Nat×Nat} (h:(kF o p σ)[i]?=some (some s)):σ[i]?=some (some s)/\iK o p i=false:=by
 have a:i<σ.length:=by grind[Hr]
 simp_all[Hq]
theorem PY {o:a_} {p:Nat->Bool} {σ:TN} {i:Nat} (h:iK o p i=false):(kF o p σ)[i]?=σ[i]?:=by
 grind[Hq,Hr]
def Hp (p:Nat->Bool) (i:Nat):OL->OL
 | .cells b e a true=>if p i then .dead else .cells b e a true
 |x=>x
theorem AH (p:Nat->Bool):∀(o:a_) (k i:Nat),(e6 p k o)[i]?=(o[i]?).map (Hp p (k+i))
 |[],k,i=>by simp[e6];|x::r,k,i=>by
  simp only[e6];cases i with
  |zero=>simp only[List.getElem?_cons_zero,ν,Nat.add_zero];congr 1;|succ i=>simp only[γS];rw[AH p r (k+1) i,show k+1+i=k+(i+1) from by omega]
theorem PX {p:Nat->Bool} {a:a_}:∀{o o':a_},iR a p o=some o'->o'.length=o.length/\∀(i:Nat) (x:OL),o[i]?=some x->∃y,x.Q5 a p=some y/\o'[i]?=some y
 |[],o',h=>by grind[iR];|x::r,o',h=>by
  simp only[iR] at h;split at h
  ·rename_i y l e b;injection h with h;subst h;obtain⟨d,c⟩:=PX b;grind
  ·cases h
theorem Ho {o:a_} {p:Nat->Bool}:∀{cs a:List AV},gf o p cs=some a->a.length=cs.length/\∀(j:Nat) (b:AV),a[j]?=some b->∃c,cs[j]?=some c/\c.Q5 o p=some b
 |[],a,h=>by grind[gf];|c::cs,a,h=>by
  simp only[gf] at h;split at h
  ·rename_i k e f d;injection h with h;subst h;obtain⟨i,g⟩:=Ho d;grind
  ·cases h
theorem PW {o:a_} {p:Nat->Bool}:∀{es a:List (Value×AV)},oH o p es=some a->a.length=es.length/\∀(j:Nat) (b:Value×AV),a[j]?=some b->∃e,es[j]?=some e/\e.1=b.1/\e.2.Q5 o p=some b.2
 |[],a,h=>by grind[oH];|e::es,a,h=>by
  simp only[oH] at h;split at h
  ·rename_i v d f c;injection h with h;subst h;obtain⟨g,i⟩:=PW c;grind
  ·cases h
theorem PV {o:a_} {p:Nat->Bool}:∀{env a:iT},tG o p env=some a->∀s,(cY env s).Q5 o p=some (cY a s)
 |[],a,h,s=>by simp only[tG,γ] at h;subst h;rfl;|(k,v)::r,a,h,s=>by
  simp only[tG] at h;split at h
  ·rename_i e d b c;injection h with h;subst h;simp only[cY];cases f:Nat.beq k s with
   |true=>exact b;|false=>exact PV c s
  ·cases h
mutual
theorem AV.OP (o:a_) (p:Nat->Bool):∀(c:AV),c.pure=true->c.Q5 o p=some c
 | .sc _,_=>rfl
 | .sl _ _,_=>rfl
 | .ud,h| .agg _,h| .Gz _,h| .ep _ _,h| .ptr _ _ _,h| .os _ _ _ _,h| .mp _,h| .fn _ _ _,h| .ifc _ _,h=>by simp[AV.pure] at h
end
theorem YE {o:a_} {p:Nat->Bool} {c a:AV} (h:c.Q5 o p=some a) (b:c.one=true):a.one=true:=by
 cases c<;>simp only[AV.one,τ] at b<;>simp only[AV.Q5] at h<;>grind[AV.one,AV.Q5]
structure so (o:a_) (p:Nat->Bool) (o2:a_):Prop where
 len:o2.length=o.length
 get:∀i x,o[i]?=some x->(iK o p i=true/\o2[i]?=some .dead)\/(iK o p i=false/\∃y,x.Q5 o p=some y/\o2[i]?=some y)
theorem OO {o a:a_} {p:Nat->Bool} (h:iR o p o=some a):so o p (e6 p 0 a):=by
 obtain⟨k,l⟩:=PX h;have n:(e6 p 0 a).length=o.length:=by
  rw[<-k];apply Nat.le_antisymm
  ·rcases ζe a.length (e6 p 0 a).length with h|h
   ·exfalso;have:=AH p a 0 a.length;simp_all
   ·exact h
  ·rcases ζe (e6 p 0 a).length a.length with h|h
   ·exfalso;have:=AH p a 0 (e6 p 0 a).length;simp_all
   ·exact h
 refine⟨n,λi x j=>?_⟩;obtain⟨y,b,f⟩:=l i x j;have d:=AH p a 0 i;rw[f,Nat.zero_add] at d;simp only[ν] at d;unfold iK;rw[j];cases x with
 |cells s e q g=>
  cases g with
  |true=>
   simp only[OL.Q5,if_true,γ] at b;grind[Hp];|false=>
   right;simp only[OL.Q5,τ,if_false,ε] at b;grind[Hp]
 |dead=>
  simp only[OL.Q5,γ] at b;subst b;right;exact⟨by simp,_,rfl,d⟩;|map r m g=>
  right;have:∃c,y= .map c m g:=by
   simp only[OL.Q5] at b;split at b;·grind
   ·obtain⟨c,_,rfl⟩:=ε.1 b;simp_all
  obtain⟨c,rfl⟩:=this;exact⟨by simp,_,b,d⟩
theorem so.tr {o2:a_} {p:Nat->Bool} (h:so o p o2) {id:Nat} (m:iK o p id=false):Tr o σ o2 (kF o p σ) id id:=by
 refine⟨λn e q d c=>?_,λ⟨l,g,d,c⟩=>?_,PY m⟩
 ·rcases h.get id _ c with⟨i,_⟩|⟨_,y,a,b⟩;·simp_all
  ·simp only[OL.Q5] at a;split at a;·grind
   ·obtain⟨k,j,rfl⟩:=ε.1 a;grind[Ho]
 ·rcases h.get id _ c with⟨i,_⟩|⟨_,y,a,b⟩;·simp_all
  ·simp only[OL.Q5] at a;split at a;·injection a with a;subst a;exact⟨l,g,d,b⟩
   ·obtain⟨f,j,rfl⟩:=ε.1 a;exact⟨f,g,d,b⟩
theorem tq {p:Nat->Bool} {b:Nat} (h:Fr A σ b):Fr A (kF o p σ) b:=⟨λ⟨i,c,a⟩=>h.1 ⟨i,c,(tt a).1⟩,h.2⟩
mutual
theorem nA.Q5 (E:OM A w σ o) {p:Nat->Bool} {o2:a_} (D:so o p o2):∀(c:AV) (v:Value) (q:AV),c.Q5 o p=some q->nA A w σ o c v->nA A w (kF o p σ) o2 q v
 | .ud,v,q,d,_=>by grind[AV.Q5,nA];| .sc u,v,q,d,h=>by grind[AV.Q5,nA];| .sl n s,v,q,d,h=>by
  simp only[AV.Q5,γ] at d;subst d;exact nA.bI (m:=λ_=>none) (λb _ z=>tq z) (λ_ _ h=>by cases h) _ _ _ rfl h;| .ep s B,v,q,d,h=>by
  simp only[AV.Q5,γ] at d;subst d;exact nA.bI (m:=λ_=>none) (λb _ z=>tq z) (λ_ _ h=>by cases h) _ _ _ rfl h;| .agg s,v,q,d,h=>by
  simp only[AV.Q5,ε] at d;obtain⟨k,K,rfl⟩:=d;simp only[nA] at h ⊢;obtain⟨F,rfl,Q⟩:=h;exact⟨F,rfl,Aq.Q5 E D s _ k K Q⟩;| .Gz s,v,q,d,h=>by
  simp only[AV.Q5,ε] at d;obtain⟨k,K,rfl⟩:=d;simp only[nA] at h ⊢;obtain⟨F,rfl,Q⟩:=h;exact⟨F,rfl,Aq.Q5 E D s _ k K Q⟩;| .ptr l B G,v,q,d,h=>by
  have H:iK o p l=false/\q= .ptr l B G:=by
   grind[iK,AV.Q5]
  obtain⟨H,rfl⟩:=H;exact nA.bI (m:=λi=>if i=l then some l else none) (λb _ z=>tq z) (λi j g=>by
   split at g;·rename_i M;injection g with g;subst M;subst g;exact D.tr H
   ·cases g) _ _ _ (by simp[δy]) h;| .mp l,v,q,d,h=>by
  simp only[AV.Q5,γ] at d;subst d;have H:iK o p l=false:=by
   simp only[nA] at h;obtain⟨⟨es,kt,pu,S⟩,_⟩:=h;simp[iK,S]
  exact nA.bI (m:=λi=>if i=l then some l else none) (λb _ z=>tq z) (λi j g=>by
   split at g;·rename_i M;injection g with g;subst M;subst g;exact D.tr H
   ·cases g) _ _ _ (by simp[δy]) h;| .fn f a b,v,q,d,h=>by
  simp only[AV.Q5] at d;split at d
  ·rename_i a' b' K h2;injection d with d;subst d;simp only[nA] at h ⊢;obtain⟨x,y,rfl,hx,hy⟩:=h;exact⟨x,y,rfl,Aq.Q5 E D a _ a' K hx,Aq.Q5 E D b _ b' h2 hy⟩
  ·cases d;| .ifc t s,v,q,d,h=>by
  simp only[AV.Q5,γ] at d;subst d;exact nA.bI (m:=λ_=>none) (λb _ z=>tq z) (λ_ _ h=>by cases h) _ _ _ rfl h;| .os l B L G,v,q,d,h=>by
  have a3:iK o p l=false->q= .os l B L G->nA A w (kF o p σ) o2 q v:=by
   rintro H rfl;exact nA.bI (m:=λi=>if i=l then some l else none) (λb _ z=>tq z) (λi j g=>by
    split at g;·rename_i M;injection g with g;subst M;subst g;exact D.tr H
    ·cases g) _ _ _ (by simp[δy]) h
  simp only[AV.Q5] at d;split at d
  ·rename_i hp;split at d
   ·rename_i s e sz pu S;split at d
    ·rename_i V;subst V;split at d
     ·rename_i J;injection d with d;subst d;obtain⟨N,R⟩:=J;have a4:iK o p l=true:=by grind[iK]
      simp only[nA] at h;obtain⟨a6,X,Y,rfl,W,O⟩:=h;have hk:=O sz ⟨s,e,true,S,N⟩;have P:=E.obj l _ S;simp only[cQ] at P;obtain⟨q1,q2,q3⟩:=P;have C:cJ ((s.drop B).take (L*sz))=true:=rq λc d=>oE (q1 trivial) c (γY (γn d));simp only[nA];refine⟨X,Y,rfl,W,C,cF.ke _ _ _ λj c d=>?_⟩;have a0:=oE C c (γf d);rw[δk] at d;split at d
      ·rename_i hj;rw[δA] at d;have a2:0<L:=by
        grind
       unfold jY at hk;split at hk;·omega
       ·rename_i b c2 I;rcases q3 with⟨M,_⟩|⟨b',a1,a5,T,_,r3,_,_,r6⟩;·simp_all
        ·rw[I] at T;simp only[γ,ι] at T;obtain⟨rfl,rfl⟩:=T;obtain⟨u,hu,U⟩:=r6 _ c d;refine⟨⟨b,B,none⟩,u,(by grind[nZ]),⟨?_,E.av l b c2 I⟩,?_,?_⟩
         ·rintro⟨i,c3,hi⟩;obtain⟨k1,k2⟩:=tt hi;have:=E.dist l i b c2 c3 I k1;simp_all
         ·grind[G_,World.cell?]
         ·exact nA.bI (m:=λ_=>none) (λb _ z=>tq z) (λ_ _ h=>by cases h) c u c (AV.tu _ c a0) U
       simp_all
      ·cases d
     ·cases d
    grind[iK]
   grind[iK]
  grind[iK]
theorem Aq.Q5 (E:OM A w σ o) {p:Nat->Bool} {o2:a_} (D:so o p o2):∀(s:List AV) (F:List Value) (k:List AV),gf o p s=some k->Aq A w σ o s F->Aq A w (kF o p σ) o2 k F
 |[],F,k,d,h=>by grind[gf,Aq];|c::s,F,k,d,h=>by
  simp only[gf] at d;split at d
  ·rename_i c1 Z K h2;injection d with d;subst d;simp only[Aq] at h ⊢;obtain⟨v,r,rfl,hv,Q⟩:=h;exact⟨v,r,rfl,nA.Q5 E D c v c1 K hv,Aq.Q5 E D s r Z h2 Q⟩
  ·cases d
end
end
section
variable {A:de} {w:World} {σ:TN} {o:a_}
theorem cQ.Q5 (hS:OM A w σ o) {p:Nat->Bool} {o2:a_} (hF:so o p o2) {i:Nat} {x y:OL} (hx:o[i]?=some x) (hd:iK o p i=false) (hy:x.Q5 o p=some y):cQ A w (kF o p σ) o2 i y:=by
 have h:=hS.obj i x hx;have hσ:=PY (σ:=σ) hd;cases x with
 |dead=>simp only[OL.Q5,γ] at hy;subst hy;simp only[cQ] at h ⊢;rw[hσ];exact h;|cells cs e sz pu=>
  simp only[cQ] at h;obtain⟨h1,h2,h3⟩:=h;have key:∀cs',cs'.length=cs.length->(pu=true->cJ cs'=true)->dQ cs'=true->(∀(j:Nat) (c':AV) (v:Value),cs'[j]?=some c'->(∀c,cs[j]?=some c->nA A w σ o c v->nA A w (kF o p σ) o2 c' v))->cQ A w (kF o p σ) o2 i (.cells cs' e sz pu):=by
   intro cs' k1 k2 k3 k4;simp only[cQ];refine⟨k2,k3,?_⟩;rcases h3 with⟨h0,h0'⟩|⟨b,cap,arr,r1,r2,r3,r4,r5,r6⟩;·left;rw[hσ];exact⟨h0,χ (by rw[k1,h0'];rfl)⟩
   ·refine .inr ⟨b,cap,arr,by rw[hσ];exact r1,r2,r3,r4,by omega,λj c' hj=>?_⟩;have hjl:j<cs.length:=by have:=(ζ.1 hj).1;omega
    obtain⟨v,hv,hr⟩:=r6 j _ (μ hjl);exact⟨v,hv,k4 j c' v hj _ (μ hjl) hr⟩
  simp only[OL.Q5] at hy;split at hy
  ·rename_i hpu;injection hy with hy;subst hy;refine key cs rfl h1 h2 λj c' v hj c hc hr=>?_;rw[hj] at hc;injection hc with hc;subst hc;exact nA.Q5 hS hF c' v c' (AV.OP o p c' (oE (h1 hpu) c' (γf hj))) hr
  ·rename_i hpu;obtain⟨cs',hc',rfl⟩:=ε.1 hy;obtain⟨g1,g2⟩:=Ho hc';refine key cs' g1 (λhp=>absurd hp hpu) (lT.2 λc hc=>?_) λj c' v hj c hc hr=>?_
   ·obtain⟨j,hj⟩:=γL hc;obtain⟨c0,q1,q2⟩:=g2 j c hj;exact YE q2 (lT.1 h2 c0 (γf q1))
   ·obtain⟨c0,q1,q2⟩:=g2 j c' hj;rw[hc] at q1;injection q1 with q1;subst q1;exact nA.Q5 hS hF c v c' q2 hr;|map es kt pu=>
  simp only[cQ] at h;obtain⟨h1,h2,b,c,en,cl,h3,h4,h5,h6⟩:=h;simp only[OL.Q5] at hy;split at hy
  ·rename_i hpu;injection hy with hy;subst hy;simp only[cQ];refine⟨h1,h2,b,c,en,cl,by rw[hσ];exact h3,h4,h5,λj e he=>?_⟩;obtain⟨m',q1,q2,q3⟩:=h6 j e he;exact⟨m',q1,q2,nA.Q5 hS hF e.2 _ e.2 (AV.OP o p e.2 (h1 hpu e (γf he))) q3⟩
  ·rename_i hpu;obtain⟨es',hc',rfl⟩:=ε.1 hy;obtain⟨g1,g2⟩:=PW hc';simp only[cQ];refine⟨λhp=>absurd hp hpu,λe he=>?_,b,c,en,cl,by rw[hσ];exact h3,h4,⟨by have:=h5.1;omega,h5.2⟩,λj e' he=>?_⟩
   ·obtain⟨j,hj⟩:=γL he;obtain⟨e0,q1,q2,_⟩:=g2 j e hj;rw[<-q2];exact h2 e0 (γf q1)
   ·obtain⟨e0,q1,q2,q3⟩:=g2 j e' he;obtain⟨m',r1,r2,r3⟩:=h6 j e0 q1;exact⟨m',r1,by rw[r2,q2],nA.Q5 hS hF e0.2 _ e'.2 q3 r3⟩
theorem OM.Q5 (e:OM A w σ o) {p:Nat->Bool} {o2:a_} (g:so o p o2):OM A w (kF o p σ) o2:=by
 refine⟨by rw[Hr,g.len,e.len],λi j b c d a m=>e.dist i j b c d (tt a).1 (tt m).1,λi b c a=>e.dZ i b c (tt a).1,λi y h=>?_,λi b c a=>e.av i b c (tt a).1,e.avb⟩;have a:i<o.length:=by have:=(ζ.1 h).1;rw[g.len] at this;exact this
 have l:=μ a;rcases g.get i _ l with⟨k,f⟩|⟨k,z,f,n⟩
 ·rw[h] at f;injection f with f;subst f;simp only[cQ];rw[Hq (by rw[e.len];exact a),k];rfl
 grind[cQ.Q5]
theorem Ext.Q5 {t:World} {k:TN} {h:a_} (a:Ext t k h w σ o) {p:Nat->Bool} {o2:a_} (m:so o p o2) (B:∀i,i<h.length->p i=false):Ext t k h w (kF o p σ) o2 where
 size:=a.size;blk:=λb u y=>by
  obtain⟨g,j⟩:=a.blk b u y;exact⟨g,λ⟨i,c,z⟩=>j ⟨i,c,(tt z).1⟩⟩
 len:=by rw[m.len];exact a.len
 cur:=λd q l=>by
  obtain⟨g,j⟩:=a.cur d q l;have r:d<h.length:=by obtain⟨D,e,s,A,x,_⟩:=l;grind
  have n:iK o p d=false:=by grind[iK]
  have f:=m.tr (σ:=σ) n;refine⟨f.v7 g,λs v=>?_⟩;rw[f.2.2];exact j s (f.cur g v)
 isMap:=λd l=>by
  obtain⟨g,j⟩:=a.isMap d l;have r:d<h.length:=by obtain⟨C,E,A,x⟩:=l;grind
  have n:iK o p d=false:=by grind[iK]
  have f:=m.tr (σ:=σ) n;exact⟨f.2.1 g,by rw[f.2.2];exact j⟩
 os:=a.os;tape:=a.tape;output:=a.output
end
def oC (o:a_) (d:Nat) (id:Nat) (acc:List Nat):List Nat:=
 if acc.contains id then acc else
 match o[id]? with
 |some (.cells b _ _ a)=>if a then acc++[id] else b_ o d b (acc++[id])
 |some (.map c _ a)=>if a then acc++[id] else b_ o d (c.map (·.2)) (acc++[id])
 |_=>acc++[id]
def tp (o:a_) (d:Nat) (v:AV) (acc:List Nat):List Nat:=
 match v with
 | .agg e| .Gz e=>b_ o d e acc
 | .ptr c _ _| .os c _ _ _| .mp c=>oC o d c acc
 | .fn _ a b=>b_ o d b (b_ o d a acc)
 |_=>acc
theorem yi (o:a_) (d:Nat) (v:AV) (vs:List AV) (acc:List Nat):b_ o (d+1) (v::vs) acc=b_ o d vs (tp o d v acc):=by
 cases v<;>rfl
theorem yh:∀(a:List Nat) (o X:a_),(kJ o a X).length=o.length
 |[],o,X=>by cases X<;>rfl;|i::r,o,[]=>rfl
 |i::r,o,x::l=>by simp only[kJ];rw[yh r];simp
theorem AG:∀(a:List Nat) (o X:a_) (j:Nat),j∉a->(kJ o a X)[j]?=o[j]?
 |[],o,X,j,_=>by cases X<;>rfl;|i::r,o,[],j,_=>rfl
 |i::r,o,x::l,j,h=>by
  simp only[γq,not_or] at h;simp only[kJ];rw[AG r _ l j h.2,List.getElem?_set_ne (Ne.symm h.1)]
theorem Hn {m:Nat->Option Nat}:∀{o o':a_},qG m o=some o'->o'.length=o.length
 |[],o',h=>by grind[qG];|x::r,o',h=>by
  simp only[qG] at h;split at h;·rename_i y l b a;injection h with h;subst h;simp[Hn a]
  ·cases h
theorem rm (o:a_):∀(d:Nat) (vs:List AV) (acc:List Nat),∃t,b_ o d vs acc=acc++t
 |0,vs,acc=>⟨[],by grind[b_]⟩
 |d+1,[],acc=>⟨[],by simp[b_]⟩
 |d+1,v::vs,acc=>by
  rw[yi];have e:∀c,∃t,oC o d c acc=acc++t:=by
   intro c;unfold oC;split;·simp_all
   ·split
    ·split;·simp_all
     ·obtain⟨t,h⟩:=rm o d ‹_› (acc++[c]);simp_all
    ·split;·simp_all
     ·rename_i m _ _ _ _;obtain⟨t,h⟩:=rm o d (m.map (·.2)) (acc++[c]);simp_all
    simp_all
  have j:∃t,tp o d v acc=acc++t:=by
   cases v with
   |agg g=>exact rm o d g acc;|Gz g=>exact rm o d g acc;|ptr c _ _=>exact e c;|os c _ _ _=>exact e c;|mp c=>exact e c;|fn f a b=>
    obtain⟨i,n⟩:=rm o d a acc;obtain⟨l,p⟩:=rm o d b (acc++i);grind[tp];|_=>exact⟨[],by simp[tp]⟩
  obtain⟨t,h⟩:=j;obtain⟨l,k⟩:=rm o d vs (acc++t);simp_all
theorem wy:∀{b:List Nat} {i k j:Nat},idxOf b i k=some j->k<=j/\b[j - k]?=some i
 |[],i,k,j,h=>by grind[idxOf];|a::r,i,k,j,h=>by
  simp only[idxOf] at h;split at h;·simp_all
  ·obtain⟨d,c⟩:=wy h;grind
theorem AF:∀{l:List Nat},gU.aoF l=true->l.Nodup
 |[],_=>List.nodup_nil
 |a::r,h=>by
  simp only[gU.aoF,θ,δh,List.contains_eq_mem,decide_eq_false_iff_not] at h;exact γR.2 ⟨h.1,AF h.2⟩
theorem wx {o:a_} {b:List Nat}:∀{r:List Nat} {s:a_},j7 o b r=some s->s.length=r.length/\∀(j i:Nat),r[j]?=some i->∃x y,o[i]?=some x/\x.bI (λj=>idxOf b j)=some y/\s[j]?=some y
 |[],s,h=>by grind[j7];|a::r,s,h=>by
  simp only[j7] at h;split at h
  ·rename_i x l f c;obtain⟨y,d,rfl⟩:=ε.1 h;obtain⟨g,e⟩:=wx c;grind
  ·cases h
theorem AE {m:Nat->Option Nat}:∀{o o':a_},qG m o=some o'->∀(i:Nat) (x:OL),o[i]?=some x->∃y,x.bI m=some y/\o'[i]?=some y
 |[],o',h,i,x,b=>by simp at b;|a::r,o',h,i,x,b=>by
  simp only[qG] at h;split at h
  ·rename_i y l f c;injection h with h;subst h;cases i with
   |zero=>simp_all;|succ i=>obtain⟨z,e,d⟩:=AE c i x (by simp_all);simp_all
  ·cases h
theorem ON {m:Nat->Option Nat} {cs:List AV} {e:TypeId} {sz:Nat} {pu:Bool} {y:OL} (h:(OL.cells cs e sz pu).bI m=some y):∃a,y= .cells a e sz pu/\a.length=cs.length:=by
 simp only[OL.bI] at h;split at h;·grind
 ·obtain⟨a,b,rfl⟩:=ε.1 h;grind[Hu]
theorem OK {m:Nat->Option Nat} {es:List (Value×AV)} {b:List Nat×Bool} {pu:Bool} {y:OL} (h:(OL.map es b pu).bI m=some y):∃a,y= .map a b pu:=by
 simp only[OL.bI] at h;split at h;·grind
 ·obtain⟨a,c,rfl⟩:=ε.1 h;simp_all
def kE (σ:TN) (a:List Nat):TN:=a.map λi=>(σ[i]?).getD none
section
variable {A A':de} {w:World} {σ:TN} {o s:a_} {ids:List Nat}
theorem p6 {j:Nat} {t:Nat×Nat} (h:(kE σ ids)[j]?=some (some t)):∃i,ids[j]?=some i/\σ[i]?=some (some t):=by
 grind[kE]
theorem Gv (a:σ.length=o.length) (b:j7 o ids ids=some s) {j i:Nat} (c:ids[j]?=some i):(kE σ ids)[j]?=σ[i]?:=by
 obtain⟨_,d⟩:=wx b;grind[kE]
theorem tn (c:σ.length=o.length) (i:j7 o ids ids=some s) {id a:Nat} (h:idxOf ids id=some a):Tr o σ s (kE σ ids) id a:=by
 obtain⟨_,f⟩:=wy h;simp only[εT] at f;obtain⟨_,n⟩:=wx i;obtain⟨x,y,m,l,d⟩:=n a id f;refine⟨λr e q j b=>?_,λ⟨p,k,j,b⟩=>?_,Gv c i f⟩;·grind[ON]
 ·rw[m] at b;injection b with b;subst b;obtain⟨g,rfl⟩:=OK l;exact⟨g,k,j,d⟩
theorem OM.sub [anJ A A'] (f:OM A w σ o) (u:ids.Nodup) (n:j7 o ids ids=some s) (E:∀b,b<w.heap.size->Fr A σ b->Fr A' (kE σ ids) b)
  (D:∀i∈ids,∀b c,σ[i]?=some (some (b,c))->¬A' b) (g:∀b,A' b->b<w.heap.size):OM A' w (kE σ ids) s:=by
 obtain⟨F,B⟩:=wx n;refine⟨by grind[kE],λi j b c d m l=>?_,λi b c m=>?_,λj y C=>?_,λi b c m=>?_,g⟩
 ·obtain⟨x,k,e⟩:=p6 m;obtain⟨z,t,p⟩:=p6 l;have:=f.dist x z b c d e p;subst this;exact(ζs (ζ.1 k).1 u).1 (k.trans t.symm)
 ·obtain⟨x,k,e⟩:=p6 m;exact f.dZ x b c e
 ·have q:j<ids.length:=by grind
  have l:=μ q;obtain⟨x,H,k,r,a⟩:=B j _ l;rw[C] at a;injection a with a;subst a;exact cQ.bI E (λG v h=>tn f.len n h) r (Gv f.len n l) (f.obj _ x k)
 grind[p6]
theorem YD {o':a_} {U:World} {H:TN} {p:a_} (Z:OM A w σ o) (hE:Ext U H p w σ o) {V r:AV} {u:Value} (hr:nA A w σ o V u) (g:kI p.length V o=some (r,o')):
  ∃F,OM A w F o'/\nA A w F o' r u/\Ext U H p w F o':=by
 unfold kI at g;split at g
 ·rename_i Y o1 S O;have N:=OO O;have f:=Z.Q5 N;have d:=hE.Q5 N (λi z=>by simp_all);have C:=nA.Q5 Z N _ _ _ S hr;simp only at g;generalize e6 (λi=>decide (p.length<=i)) 0 o1=M at g N f d C;generalize kF o (λi=>decide (p.length<=i)) σ=D at f d C;obtain⟨t,ht⟩:=rm M e_ (Y::(M.take p.length).flatMap kI.OL.avs) (ω p.length);generalize b_ M e_ (Y::(M.take p.length).flatMap kI.OL.avs) (ω p.length)=n at g ht;split at g
  ·rename_i L;split at g
   ·rename_i r2 s2 Q s;simp only[γ,ι] at g;obtain⟨rfl,rfl⟩:=g;have J:∀b,b<w.heap.size->Fr A D b->Fr A (kE D n) b:=λb _ g=>⟨λ⟨i,c,z⟩=>by
     obtain⟨x,hx,B⟩:=p6 z;exact g.1 ⟨x,c,B⟩,g.2⟩;have K:∀i,i<p.length->n[i]?=some i:=by
     grind
    have y:∀i,i<p.length->idxOf n i=some i:=by
     intro i z;have T:i∈n:=γf (K i z);have:∃j,idxOf n i=some j:=by
      have a0:∀(l:List Nat) (k:Nat),i∈l->∃j,idxOf l i k=some j:=by
       intro l;induction l with
       |nil=>simp_all;|cons a l ih=>
        intro k h;simp only[idxOf];split;·simp_all
        ·rename_i P;refine ih (k+1) ((γq.1 h).resolve_left λq=>P (by simp[q]))
      simp_all
     obtain⟨j,W⟩:=this;obtain⟨_,q⟩:=wy W;simp only[εT] at q;have:=(ζs (ζ.1 q).1 (AF L)).1 (q.trans (K i z).symm);rw[W,this]
    refine⟨kE D n,f.sub (AF L) s J (λi _ b c h=>f.av i b c h) f.avb,nA.bI J (λv a1 h=>tn f.len s h) _ _ _ Q C,d.size,λb hb hn=>?_,?_,λv R I=>?_,λv I=>?_,d.os,d.tape,d.output⟩
    ·obtain⟨G,q⟩:=d.blk b hb hn;refine⟨G,λ⟨i,c,z⟩=>?_⟩;obtain⟨x,hx,B⟩:=p6 z;exact q ⟨x,c,B⟩
    ·grind[wx]
    ·obtain⟨G,q⟩:=d.cur v R I;have E:v<p.length:=by obtain⟨cs,e,X,pu,ho,_⟩:=I;grind
     have m:=tn f.len s (y v E);refine⟨m.v7 G,λX hc=>?_⟩;rw[m.2.2];exact q X (m.cur G hc)
    ·obtain⟨G,q⟩:=d.isMap v I;have E:v<p.length:=by obtain⟨es,kt,pu,ho⟩:=I;grind
     have m:=tn f.len s (y v E);exact⟨m.2.1 G,by rw[m.2.2];exact q⟩
   ·cases g
  ·cases g
 ·cases g
end
theorem OJ:∀(b:List Nat) (o X:a_) (j i:Nat) (x:OL),b.Nodup->b[j]?=some i->i<o.length->X[j]?=some x->(kJ o b X)[i]?=some x
 |[],o,X,j,i,x,_,c,_,_=>by simp at c;|a::r,o,[],j,i,x,_,_,_,d=>by simp at d;|a::r,o,y::l,j,i,x,e,c,f,d=>by
  rw[γR] at e;simp only[kJ];cases j with
  |zero=>
   grind[AG];|succ j=>
   simp only[γS] at c d;exact OJ r _ l j i x e.2 c (by simp_all) d
theorem Gu {i:Nat}:∀{l:List Nat} {k:Nat},i∈l->∃j,idxOf l i k=some j
 |[],k,h=>by simp at h;|a::l,k,h=>by
  simp only[idxOf];split;·simp_all
  ·rename_i b;exact Gu ((γq.1 h).resolve_left λc=>b (by simp[c]))
def nV (σ b:TN) (a:List Nat):TN:=
 ((ω σ.length).map λi=>match idxOf a i with|some j=>(b[j]?).getD none|none=>(σ[i]?).getD none)++b.drop a.length
section
variable {A:de} {w:World} {σ:TN} {o:a_}
theorem YC {P:Program} {call:cw} (a9:nX P call) (v:OM A w σ o) {f:FuncId} {args:List AV} {vs:List Value} (hr:Aq A w σ o args vs)
  {r:AV} {o':a_} (J:gU call f args o=some (r,o')):
  fU P f=true/\Calls P f vs.toArray w λe w'=>∃u g,e= .returned u/\OM A w' g o'/\nA A w' g o' r u/\Ext w σ o w' g o':=by
 unfold gU at J;simp only at J;generalize b_ o e_ args []=a at J;split at J
 ·rename_i U T ha I;split at J
  ·rename_i r1 n c1;split at J;·cases J
   ·rename_i Q;simp only[not_or,Bool.not_eq_false,Nat.not_lt] at Q;obtain⟨d2,a1⟩:=Q;have a1:=AF a1;split at J
    ·rename_i r2 b9 c0 S;simp only[γ,ι] at J;obtain⟨rfl,d3⟩:=J;obtain⟨hg,c2,_⟩:=a9 _ _ _ _ _ _ c1;refine⟨hg,?_⟩;have d0:=wx I;have b2:∀(j i:Nat),a[j]?=some i->i<o.length:=λj i m=>by
      grind
     have d4:=λ{j i:Nat} (m:a[j]?=some i)=>Gv v.len I m;obtain⟨N,s,a5⟩:∃N:de,(∀b,N b↔(A b\/(Own σ b/\¬Own (kE σ a) b)))/\N.l=A.l:=⟨⟨λb=>A b\/(Own σ b/\¬Own (kE σ a) b),A.l⟩,λb=>Iff.rfl,rfl⟩;haveI:anJ A N:=⟨a5⟩;haveI:anJ N A:=⟨a5.symm⟩;have b4:∀b,b<w.heap.size->Fr A σ b->Fr N (kE σ a) b:=λb _ hf=>⟨λ⟨i,c,p⟩=>by
      obtain⟨x,hx,G⟩:=p6 p;exact hf.1 ⟨x,c,G⟩,λh=>((s b).1 h).elim hf.2 λh=>hf.1 h.1⟩;have c6:OM N w (kE σ a) T:=v.sub a1 I b4 (λi p b c h hA=>by
      rcases(s b).1 hA with q|⟨_,q⟩;·exact v.av i b c h q
      ·obtain⟨j,m⟩:=γL p;exact q ⟨j,c,by simp_all⟩) (λb h=>((s b).1 h).elim (v.avb b) λ⟨⟨i,c,p⟩,_⟩=>v.dZ i b c p);have b1:Aq N w (kE σ a) T U vs:=Aq.bI b4 (λD d6 h=>tn v.len I h) args vs U ha hr;refine(c2 N w _ vs c6 b1).mono ?_;rintro e w' ⟨u,g,rfl,C,c7,X⟩;have d5:=Hn S;have hN:=v.len;have b7:(nV σ g a).length=o.length+(n.length - a.length):=by simp[nV,hN,C.len]
     have a7:o'.length=o.length+(n.length - a.length):=by grind[yh]
     have a8:∀i,i<o.length->idxOf a i=none->(nV σ g a)[i]?=σ[i]?/\o'[i]?=o[i]?/\i∉a:=by
      intro i p hn;have d1:i∉a:=λh=>by obtain⟨j,m⟩:=Gu (k:=0) h;simp_all
      grind[nV,AG]
     have b6:∀j t,nu a o.length j=some t->(nV σ g a)[t]?=g[j]?/\o'[t]?=b9[j]?:=by
      intro j t m;unfold nu at m;split at m
      ·rename_i i K;injection m with m;subst m;have p:=b2 j i K;have c3:j<a.length:=(ζ.1 K).1;obtain⟨j2,E⟩:=Gu (k:=0) (γf K);have B:=(wy E).2;simp only[εT] at B;have:=(ζs (ζ.1 B).1 a1).1 (B.trans K.symm);subst this;constructor
       ·unfold nV;rw[δb (by simp;omega)];have:j2<g.length:=by rw[C.len];omega
        simp_all
       grind[OJ]
      ·rename_i K;injection m with m;subst m;have c3:=List.getElem?_eq_none_iff.1 K;constructor
       ·unfold nV;rw[ε7 (by simp;omega)];simp_all
       grind
     have b8:∀i,i<o'.length->(∃j,j<n.length/\nu a o.length j=some i)\/(i<o.length/\idxOf a i=none):=by
      intro i p;rw[a7] at p;rcases ζe i o.length with q|q;·cases hq:idxOf a i with
       |none=>exact .inr ⟨q,rfl⟩;|some j=>
        left;have B:=(wy hq).2;simp only[εT] at B;have:=(ζ.1 B).1;exact⟨j,by omega,by simp[nu,B]⟩
      grind[nu]
     have F:∀i b c,i<o.length->idxOf a i=none->σ[i]?=some (some (b,c))->N b:=by
      intro i b c p hn hs;refine(s b).2 (.inr ⟨⟨i,c,hs⟩,?_⟩);rintro⟨j,d,m⟩;obtain⟨x,hx,G⟩:=p6 m;have:=v.dist i x b c d hs G;grind
     have L:∀i b c,(nV σ g a)[i]?=some (some (b,c))->(∃j,nu a o.length j=some i/\g[j]?=some (some (b,c)))\/(i<o.length/\idxOf a i=none/\σ[i]?=some (some (b,c))):=by
      grind
     have a3:∀j t,nu a o.length j=some t->Tr n g o' (nV σ g a) j t:=by
      intro j t m;obtain⟨Y,W⟩:=b6 j t m;refine⟨λcs e sz Z ho=>?_,λ⟨es,kt,Z,ho⟩=>?_,Y⟩;·grind[AE,ON]
      ·obtain⟨y,hy,c5⟩:=AE S j _ ho;obtain⟨c8,rfl⟩:=OK hy;exact⟨c8,kt,Z,by rw[W];exact c5⟩
     have a6:∀b,b<w'.heap.size->Fr N g b->Fr A (nV σ g a) b:=by
      intro b _ hf;refine⟨?_,λh=>hf.2 ((s b).2 (.inl h))⟩;rintro⟨i,c,p⟩;rcases L i b c p with⟨j,_,m⟩|⟨q,H,M⟩;·exact hf.1 ⟨j,c,m⟩
      ·exact hf.2 (F i b c q H M)
     have a0:∀i b c,i<o.length->idxOf a i=none->σ[i]?=some (some (b,c))->¬Own (kE σ a) b:=by
      rintro i b c p hn hs ⟨j,d,m⟩;obtain⟨x,hx,G⟩:=p6 m;have:=v.dist i x b c d hs G;grind
     have R:∀b,Own (kE σ a) b->Own σ b:=λb ⟨i,c,p⟩=>by
      obtain⟨x,hx,G⟩:=p6 p;exact⟨x,c,G⟩
     have O:∀D,D<o.length->∀j,idxOf a D=some j->nu a o.length j=some D:=by
      intro D _ j m;have B:=(wy m).2;grind[nu]
     have b5:Ext w σ o w' (nV σ g a) o':=by
      refine⟨X.size,λb hb hn=>?_,by omega,λD c4 a2=>?_,λD hm=>?_,X.os,X.tape,X.output⟩
      ·obtain⟨q,H⟩:=X.blk b hb λh=>hn (R b h);refine⟨q,?_⟩;rintro⟨i,c,p⟩;rcases L i b c p with⟨j,_,m⟩|⟨_,_,M⟩;·exact H ⟨j,c,m⟩
       ·exact hn ⟨i,c,M⟩
      ·have V:D<o.length:=by obtain⟨cs,e,sz,Z,ho,_⟩:=a2;grind
       cases hq:idxOf a D with
       |none=>
        obtain⟨l1,l2,_⟩:=a8 D V hq;refine⟨?_,λsz b0=>⟨?_,l1⟩⟩
        ·obtain⟨cs,e,sz,Z,ho,hl⟩:=a2;exact⟨cs,e,sz,Z,by grind,hl⟩
        ·obtain⟨cs,e,Z,ho,hl⟩:=b0;exact⟨cs,e,Z,by grind,hl⟩;|some j=>
        have Y:=tn v.len I hq;have W:=a3 j D (O D V j hq);obtain⟨q,H⟩:=X.cur j c4 (Y.v7 a2);refine⟨W.v7 q,λsz b0=>?_⟩;obtain⟨M,h4⟩:=H sz (W.cur q b0);exact⟨Y.cur a2 M,by rw[W.2.2,h4,Y.2.2]⟩
      ·have V:D<o.length:=by obtain⟨es,kt,Z,ho⟩:=hm;grind
       cases hq:idxOf a D with
       |none=>
        obtain⟨l1,l2,_⟩:=a8 D V hq;obtain⟨es,kt,Z,ho⟩:=hm;exact⟨⟨es,kt,Z,by grind⟩,l1⟩;|some j=>
        have Y:=tn v.len I hq;have W:=a3 j D (O D V j hq);obtain⟨q,H⟩:=X.isMap j (Y.2.1 hm);exact⟨W.2.1 q,by rw[W.2.2,H,Y.2.2]⟩
     refine⟨u,nV σ g a,rfl,⟨by omega,λi k b c d p hk=>?_,λi b c p=>?_,λi y hy=>?_,λi b c p=>?_,λb hb=>γl (v.avb b hb) X.size⟩,nA.bI a6 a3 _ _ _ c0 c7,b5⟩
     ·rcases L i b c p with⟨j,m,E⟩|⟨q,H,M⟩<;>rcases L k b d hk with⟨l,hl,b3⟩|⟨g1,g2,g3⟩
      ·have:=C.dist j l b c d E b3;grind
      ·exact absurd (F k b d g1 g2 g3) (C.av j b c E)
      ·exact absurd (F i b c q H M) (C.av l b d b3)
      ·exact v.dist i k b c d M g3
     ·rcases L i b c p with⟨j,m,E⟩|⟨q,H,M⟩;·exact C.dZ j b c E
      ·exact γl (v.dZ i b c M) X.size
     ·rcases b8 i (ζ.1 hy).1 with⟨j,c9,m⟩|⟨q,H⟩
      ·have hx:=μ c9;obtain⟨z,hz,a4⟩:=AE S j _ hx;obtain⟨Y,W⟩:=b6 j i m;rw[<-W,hy] at a4;injection a4 with a4;subst a4;exact cQ.bI a6 a3 hz Y (C.obj j _ hx)
      ·obtain⟨l1,l2,_⟩:=a8 i q H;rw[l2] at hy;exact(v.obj i y hy).ext b5 l1 λb c hb=>(X.blk b (v.dZ i b c hb) (a0 i b c q H hb)).1
     ·rcases L i b c p with⟨j,m,E⟩|⟨q,H,M⟩;·exact λh=>C.av j b c E ((s b).2 (.inl h))
      ·exact v.av i b c M
    ·cases J
  ·cases J
 ·cases J
end
section
variable {P:Program} {A:de} {D:List Deferred} {w w':World} {σ σ':TN} {o o':a_}
theorem YB {call:cw} (b:nX P call) (d:OM A w σ o) {f:FuncId} {args:List AV} {vs:List Value} (g:Aq A w σ o args vs) {own:Bool} {r:AV} (c:fV call f args o own=some (r,o')):
  fU P f=true/\Calls P f vs.toArray w λe w'=>∃u a,e= .returned u/\OM A w' a o'/\nA A w' a o' r u/\Ext w σ o w' a o':=by
 grind[fV,YC,YF]
theorem AD {f:FuncId} (b:fU P f=true) (args:Array Value) (w:World):(callFunc f args).run P w= .ok (.enter f args) w:=by
 unfold fU at b;cases c:P.funcs[f]? with
 |none=>simp_all;|some a=>
  simp only[c,Option.any_some,θ,δh] at b;have d:a.body.isNone=false:=by simp_all
  have e:¬a.name= "runtime.NumGoroutine" :=by
   simp_all
  have g:¬a.body=none:=by grind
  simp_all[callFunc]
theorem YA {name:String} {t:TypeId} {f:FuncId} (h:Bm P name t=some f) (v:Value) (w:World) (n:Nat):(method (n+1) t v name).run P w= .ok (f,v) w:=by
 unfold Bm at h;split at h
 ·rename_i fs i hu hi;split at h
  ·rename_i m hm;split at h
   ·rename_i g hp hf;injection h with h;subst h;simp[method,typeInfo,hi,hm,hp,hf,follow,receiverAt,run_underlying hu,Place.get]
   ·cases h
  ·cases h
 ·cases h
theorem Gt {name:String} {t:TypeId} {f:FuncId}:∀{n:Nat},s9 (wm P name n) t=some f->Bm P name t=some f
 |0,h=>by simp[wm,s9] at h;|n+1,h=>by
  simp only[wm] at h;split at h
  ·rename_i g hg;simp only[s9] at h;cases hb:Nat.beq n t with
   |true=>
    rw[hb] at h;simp only[cond_true,γ] at h;subst h;rw[<-Nat.eq_of_beq_eq_true hb];exact hg;|false=>
    rw[hb] at h;exact Gt h
  ·exact Gt h
theorem Yz {fl:Bool} {a:Oper} {b:bR} (e:n4 P fl a=some b) (h:b.nY=true):
  ∃c:Call,a.op= .call c/\((∃f,c.callee= .value (.func f)/\b= .call f c.args.toList fl)\/(∃x,c.callee= .value x/\b= .ak4 x c.args.toList fl)\/∃x d,c.callee= .invoke x d/\b= .aoe (Pv P d) x c.args.toList):=by
 cases g:a.op;case call c=>
  refine⟨c,rfl,?_⟩;simp only[n4,g] at e;grind[bR.nY]
 case buildSlice=>
  grind[n4,bR.nY]
 case slice t x k i j=>
  grind[n4,bR.nY]
 case makeMap t r=>
  grind[n4,bR.nY]
 all_goals
  exfalso;simp only[n4,g,reduceCtorEq] at e;try (repeat' (split at e))<;>first
   |(cases e;done);|(injection e with e;subst e;simp[bR.nY] at h;done);|(obtain⟨_,_,rfl⟩:=ε.1 e;simp[bR.nY] at h;done)
def FR (rnd:Option Nat):Fence:={Fence.wide with round:=rnd}
theorem Yy {rnd:Option Nat} {n:Nat} {f:FuncId} {args:Array Value} {R:Ending->World->Prop} (h:Calls P f args w R):CallsIn (FR rnd) n P f args w R:=
 (callsIn_wide (n:=n)).2 h
theorem Yx {fl:Bool} {a:Oper} {b:bR} (d:n4 P fl a=some b) (c:Call):a.op≠ .defer c:=by
 grind[n4]
theorem Yw {call:cw} (D:nX P call) {fl:Bool} {b:Oper} {C:bR} (O:n4 P fl b=some C) (W:OM A w σ o) {p:Operand->AV} {a:Act} (n:∀x,nA A w σ o (p x) (a.eval x)) {qE:Nat} {v:AV}
  (i:qd call C p o qE=some (v,o')) {m:Act->World->Prop} {Q:Exit->Act->World->Prop}
  (V:∀u w' z,OM A w' z o'->nA A w' z o' v u->Ext w σ o w' z o'->m (a.put b.dst u) w') {rnd:Option Nat}:b.wpIn (FR rnd) 0 P a w m Q:=by
 have r:b.semAt (FR rnd).round a.eval=execOp a.eval b:=Oper.semAt_eq _ _ _ (Yx O);by_cases R:C.nY=false
 ·obtain⟨u,Z,G,e,q,X,Y⟩:=ZY O R W n i;unfold Oper.wpIn;rw[r];refine⟨λ_ _=>trivial,?_⟩;rcases e with e|⟨e,rfl⟩
  ·rw[e];exact V u Z G q X Y
  ·rw[e];exact V undef Z G q X Y
 ·
  have E:∀(f:FuncId) (l:List AV) (k:List Value) (F:Bool),Aq A w σ o l k->fV call f l o F=some (v,o')->
    (fU P f=true->(execOp a.eval b).run P w= .ok (.enter f k.toArray) w)->b.wpIn (FR rnd) 0 P a w m Q:=by
   intro f l k F L M J;obtain⟨s,I⟩:=YB D W L M;unfold Oper.wpIn;rw[r,J s];refine⟨λ_ _=>trivial,λh=>by grind[FR,Fence.wide],(Yy I).mono ?_⟩;grind
  obtain⟨c,y,hh⟩:=Yz O (by simp_all);rw[yr] at i;rcases hh with⟨f,d,rfl⟩|⟨x,d,rfl⟩|⟨x,H,d,rfl⟩
  ·simp only[MO] at i;refine E f (c.args.toList.map p) (c.args.toList.map a.eval) fl (tA n _) i λs=>?_;simp only[execOp,y,resolve,d];simp[Act.eval,Deferred.ofValue,invoke,AD s];grind
  ·simp only[MO] at i;split at i
   ·rename_i g B j K;have q:=n x;rw[K] at q;simp only[nA] at q;obtain⟨f',c',S,N,T⟩:=q;refine E g (B++c.args.toList.map p++j) (f'.toList++c.args.toList.map a.eval++c'.toList) fl (Aq.append (Aq.append N (tA n _)) T) i λs=>?_;simp only[execOp,y,resolve,d];simp[S,Ck,Deferred.ofValue,invoke,AD s]
   ·cases i
  ·simp only[MO] at i;split at i
   ·rename_i t cs K;split at i
    ·rename_i f N;have q:=n x;rw[K] at q;simp only[nA] at q;obtain⟨k,S,_,hl⟩:=q;have L:Aq A w σ o (.agg cs::c.args.toList.map p) (.agg k::c.args.toList.map a.eval):=by
      grind[Aq,nA,tA]
     refine E f _ _ false L i λs=>?_;have hm:(method (P.types.size+Made.depth) t (.agg k) H).run P w= .ok (f,.agg k) w:=YA (Gt N) (.agg k) w (P.types.size+99);have hz:(#[Value.iface t (.agg k)]++Array.map a.eval c.args)[0]?=some (Value.iface t (.agg k)):=by grind
     have U:#[Value.agg k]++(Array.map a.eval c.args).extract 0 c.args.size=(Value.agg k::List.map a.eval c.args.toList).toArray:=εj (by simp;exact List.take_of_length_le (by simp));simp only[execOp,y,resolve,d,S];simp[invoke,hz,callMethod,hm,AD s,U]
    ·cases i
   ·cases i
def sn (b w:World) (a:List Deferred):Prop:=
 a.Pairwise (λd e=>d.target≠e.target)/\∀d∈a,∃r,d={target:=.collected r,args:=#[]}/\b.heap.size<=r/\w.heap[r]?=some (.deferred (some []))
theorem OM.Gs (d:OM A w σ o) {r:Nat} {x:Obj} (h:w.heap[r]?=some x) (g:∀a b c,x≠ .cells a b c) (l:∀a b,x≠ .map a b):¬Own σ r:=by
 rintro⟨i,c,k⟩;have f:i<o.length:=by rw[<-d.len];grind
 have e:=d.obj i _ (μ f);cases j:o[i]<;>grind[cQ,ι]
theorem sn.ext {c:World} {b:List Deferred} (h:sn c w b) (e:OM A w σ o) (i:Ext w σ o w' σ' o'):sn c w' b:=
 ⟨h.1,λd g=>by
  obtain⟨r,j,f,a⟩:=h.2 d g;exact⟨r,j,f,by rw[(i.blk r (Array.getElem?_eq_some_iff.1 a).1 (e.Gs a (by simp) (by simp))).1];exact a⟩⟩
def B9 (D:List Deferred) (b w:World) (c:List Deferred):Prop:=∃a,c=a++D/\sn b w a
theorem B9.ext {b:World} {D a:List Deferred} (h:B9 D b w a) (c:OM A w σ o) (f:Ext w σ o w' σ' o'):B9 D b w' a:=by
 obtain⟨d,g,e⟩:=h;exact⟨d,g,e.ext c f⟩
structure cm (A:de) (nt:Nat) (D:List Deferred) (w0:World) (σ0:TN) (o0:a_) (st:St) (a:Act) (w:World) (σ:TN):Prop where
 sim:OM A w σ st.o
 env:∀s,nA A w σ st.o (cY st.env s) (a.tmps.getD s undef)
 size:a.tmps.size=nt
 defers:B9 D w0 w a.defers
 ext:Ext w0 σ0 o0 w σ st.o
theorem Yv (v:Value):nA A w σ o (.ta v) v:=by
 cases v<;>simp only[AV.ta]<;>try (simp[nA,Value.oneCell'];done)
 grind[nA,tC]
theorem cm.ev {d:Nat} {e:World} {b:TN} {c:a_} {st:St} {a:Act} (h:cm A d D e b c st a w σ) (x:Operand):nA A w σ st.o (dO st.env x) (a.eval x):=by
 cases x with
 |tmp t=>exact h.env t;|const v=>exact Yv v;|global g=>simp[dO,nA];|func f=>simp only[dO,Act.eval,nA];exact⟨#[],#[],rfl,by simp[Aq],by simp[Aq]⟩
theorem Yu {a:Act} {b:Option Tmp} {u:Value} {c:Nat} (f:a.tmps.size=c) (e:Bl c b=true) (s:Nat):
  (a.put b u).tmps.getD s undef=if b=some s then u else a.tmps.getD s undef:=by
 cases b with
 |none=>simp[Act.put];|some d=>
  simp only[Bl,decide_eq_true_eq] at e;simp only[Act.put,γ];by_cases h:d=s<;>simp_all
theorem OI (a:Act) (b:Option Tmp) (u:Value):(a.put b u).tmps.size=a.tmps.size/\(a.put b u).defers=a.defers:=by
 cases b<;>simp[Act.put]
theorem tm (env:iT) (a:Option Nat) (v:AV) (s:Nat):cY (nx env a v) s=if a=some s then v else cY env s:=by
 cases a with
 |none=>simp[nx];|some d=>
  simp_all[nx,cY]
theorem cm.put {e:Nat} {g:World} {c:TN} {f:a_} {st:St} {a:Act} (h:cm A e D g c f st a w σ) (k:OM A w' σ' o') (d:Ext w σ st.o w' σ' o') {b:Option Tmp} (i:Bl e b=true) {v:AV} {u:Value} (j:nA A w' σ' o' v u):
  cm A e D g c f ⟨nx st.env b v,o'⟩ (a.put b u) w' σ' where
 sim:=k;env:=λs=>by
  simp only[tm,Yu h.size i];split;·exact j
  ·exact(h.env s).ext d
 size:=by rw[(OI _ _ _).1];exact h.size
 defers:=by rw[(OI _ _ _).2];exact h.defers.ext h.sim d
 ext:=h.ext.trans d
theorem OH {x:Nat} {v:World} {l:TN} {p:a_} {st:St} {a:Act} (h:cm A x D v l p st a w σ) {f:Array Oper} {d:Oper} {b:Bool}
  (e:lr st.env (d.guard.map λg=>(((f[g.1]?).bind (·.dst)),g.2))=some b):Region.wanted d (yielded f a.tmps)=b:=by
 unfold Region.wanted;cases u:d.guard with
 |none=>grind[lr];|some g=>
  obtain⟨j,q⟩:=g;simp only[u,ν,lr] at e;cases n:(f[j]?).bind (·.dst) with
  |none=>simp_all;|some s=>
   simp only[n] at e;have i:=h.env s;simp only[yielded,n,Option.bind_some];split at e
   ·rename_i c m;injection e with e;rw[m] at i;have k:=fD i;have o:a.tmps[s]?=some (.bool c):=by
     rw[εc] at k;grind[undef]
    simp_all
   ·rename_i m;injection e with e;rw[m] at i;simp only[nA,Aq] at i;obtain⟨r,k,o⟩:=i;have t:r=#[]:=εj (by omega);subst t;have o:a.tmps[s]?=some (.tuple #[])\/a.tmps[s]?=none:=by
     rw[εc] at k;grind
    grind
   ·cases e
theorem OG {call:cw} (e:nX P call) {j:Nat} {fl:List Nat} {c:Array Oper} {qE k:Nat} {i:cM} (f:pK P j fl c qE k=some i) {base:Nat} {st st':St} (b:gp call base i st=some st')
  {t:World} {g:TN} {p:a_} {a:Act} (h:cm A j D t g p st a w σ) {K:Act->World->Prop} {Q:Exit->Act->World->Prop} (o:∀s w' d,cm A j D t g p st' s w' d->K s w') {rnd:Option Nat}:wpOpIn (FR rnd) 0 P c Q k K a w:=by
 unfold pK at f;cases q:c[k]? with
 |none=>simp_all;|some n=>
  simp only[q] at f;split at f
  ·rename_i r;obtain⟨E,l,rfl⟩:=ε.1 f;unfold wpOpIn;simp only[q];simp only[gp] at b;split at b;·cases b
   ·rename_i m;have:=OH h m;rw[this];injection b with b;subst b;simp only[τ,if_false];exact⟨λ_ _=>trivial,o _ _ σ (h.put h.sim (Ext.refl _ _ _) r (by simp only[nA];exact⟨#[],rfl,by simp[Aq]⟩))⟩
   ·rename_i m;have:=OH h m;rw[this];simp only[if_true];split at b
    ·rename_i v C z;injection b with b;subst b;exact Yw e l h.sim h.ev z λu w' d B x y=>o _ _ d (h.put B y r x)
    ·cases b
  ·cases f
theorem OF {call:cw} (c:nX P call) {o:Nat} {fl:List Nat} {f:Array Oper} {base:Nat} {u:World} {g:TN} {s:a_} {Q:Exit->Act->World->Prop} {rnd:Option Nat}:
  ∀(l:List cM) (b:List Nat),l.length=b.length->(∀(j:Nat) (i:cM) (k:Nat),l[j]?=some i->b[j]?=some k->∃qE,pK P o fl f qE k=some i)->∀(st st':St) (a:Act) (w:World) (σ:TN),
   fw call base l st=some st'->cm A o D u g s st a w σ->(∀m w' d,cm A o D u g s st' m w' d->Q .normal m w')->wpOpsIn (FR rnd) 0 P f Q b a w
 |[],[],_,_,st,st',a,w,σ,e,h,p=>by
  simp only[fw,γ] at e;subst e;exact p a w σ h;|[],_::_,n,_,_,_,_,_,_,_,_,_=>by simp at n;|_::_,[],n,_,_,_,_,_,_,_,_,_=>by simp at n;|i::l,k::b,n,t,st,st',a,w,σ,e,h,p=>by
  simp only[fw] at e;split at e
  ·rename_i q v;obtain⟨qE,r⟩:=t 0 i k (by simp) (by simp);rw[wpOpsIn_cons];exact OG c r v h λm w' d y=>OF c l b (by simp_all) (λj z x C B=>t (j+1) z x (by simp_all) (by simp_all)) q st' m w' d e y p
  ·cases e
theorem Gr {d:Nat} {fl:List Nat} {b:Array Oper}:∀{k:Nat} {a:List Nat} {l:List cM} {n:Nat},tF P d fl b k a=some (l,n)->
  l.length=a.length/\(∀(j:Nat) (i:cM) (q:Nat),l[j]?=some i->a[j]?=some q->∃qE,pK P d fl b qE q=some i)
 |k,[],l,n,h=>by grind[tF];|k,i::r,l,n,h=>by
  simp only[tF] at h;split at h;·cases h
  ·rename_i x o;split at h;·cases h
   ·rename_i g m c;simp only[γ,ι] at h;obtain⟨rfl,_⟩:=h;obtain⟨e,f⟩:=Gr c;grind
end
section
variable {call:cw} {ρ ρ2:Operand->AV} {qE:Nat}
theorem OE {a:bR} (d:a.bt=0) (o o2:a_):MO call a ρ o2 qE=(MO call a ρ o qE).map λp=>(p.1,o2):=by
 cases a<;>try (simp[bR.bt] at d;done)
 case call f c b=>cases b<;>simp[bR.bt] at d
 case ak4 f c b=>cases b<;>simp[bR.bt] at d
 all_goals simp only[MO]
 all_goals (repeat' split)<;>simp_all [ζm,δi]
theorem Yt {a:bR} (b:a.bt=0) {o o':a_} {v:AV} (h:MO call a ρ o qE=some (v,o')):o'=o:=by
 grind[OE]
theorem Ys {o o2:a_} {a:AV} (h:∀j∈eD a,o2[j]?=o[j]?):behind o2 a=behind o a:=by
 cases a<;>simp only[behind];grind[eD]
theorem Yr {o o2:a_} {sz:Nat} {a:AV} (h:∀j∈eD a,o2[j]?=o[j]?):lV o2 sz a=lV o sz a:=by
 cases a with
 |os e d b c=>grind[lV,eD];|sc v=>unfold lV;grind;|_=>rfl
theorem Yq {o o2:a_} {sz:Nat} {a:AV} {i:Int} (h:∀j∈eD a,o2[j]?=o[j]?):o6 o2 sz a i=o6 o sz a i:=by
 cases a<;>simp only[o6];grind[eD]
theorem Yp {o o2:a_} {sz:Nat} {a:AV} {lo b:Option AV} (h:∀j∈eD a,o2[j]?=o[j]?):oL o2 sz a lo b=oL o sz a lo b:=by
 cases a with
 |os f e c d=>grind[oL,eD];|sc v=>unfold oL;grind;|_=>rfl
theorem Yo {o o2:a_} {sz:Nat} {a:AV} {lo:Option AV} {b mx:AV} (h:∀j∈eD a,o2[j]?=o[j]?):qH o2 sz a lo b mx=qH o sz a lo b mx:=by
 cases a<;>grind[id,qH,eD]
theorem Yn {o o2:a_} {k:Nat} {a:AV} (h:∀j∈eD a,o2[j]?=o[j]?):kz o2 k a=kz o k a:=by
 cases a with
 |mp b=>
  match k with
  |0=>rfl;|1=>rfl;|2=>grind[kz,eD];|_+3=>rfl
 |_=>unfold kz;split<;>first|rfl|(simp_all;done)
theorem wv {c e:Type} {f g:c->List e}:∀{l:List c},(∀a∈l,f a=g a)->l.flatMap f=l.flatMap g
 |[],_=>rfl
 |a::l,h=>by
  simp only[List.flatMap_cons];rw[h a (by simp),wv λb d=>h b (by simp[d])]
theorem vr {c e:Type} {f g:c->Option e}:∀{l:List c},(∀a∈l,f a=g a)->l.mapM f=l.mapM g
 |[],_=>rfl
 |a::l,h=>by
  rw[εR,εR,h a (by simp),vr λb d=>h b (by simp[d])]
theorem vq {o o2:a_}:∀(d:Nat) (a:AV),(∀j∈eE o d a,o2[j]?=o[j]?)->freeze o2 d a=freeze o d a/\eE o2 d a=eE o d a
 |0,a,_=>by cases a<;>simp[freeze,eE];|d+1,a,h=>by
  cases a with
  |agg i=>
   simp only[eE,δC,forall_exists_index,and_imp] at h;have l:=λc g=>vq d c (λj b=>h j c g b);grind[freeze,eE,vr,wv];|Gz i=>
   simp only[eE,δC,forall_exists_index,and_imp] at h;have l:=λc g=>vq d c (λj b=>h j c g b);grind[freeze,eE,vr,wv];|fn f x y=>
   simp only[eE,List.mem_append,δC] at h;have v:=λc g=>vq d c (λj b=>h j (.inl ⟨c,g,b⟩));have z:=λc g=>vq d c (λj b=>h j (.inr ⟨c,g,b⟩));grind[freeze,eE,vr,wv];|os k q s n=>
   have r:=h k (by simp[eE]);simp only[freeze,eE];rw[r];cases p:o[k]? with
   |none=>simp_all;|some x=>
    cases x with
    |dead=>simp_all;|map w t m=>simp_all;|cells i e u m=>
     cases m with
     |true=>simp_all;|false=>
      simp only[eE,p,γq,τ,if_false,δC] at h;have l:=λc g=>vq d c (λj b=>h j (.inr ⟨c,g,b⟩));simp_all[vr,wv]
  |_=>simp[freeze,eE]
theorem yE {f:FuncId} {args:List AV} {o o2:a_} (h:∀j∈args.flatMap (eE o 6),o2[j]?=o[j]?):
  fV call f args o2 false=(fV call f args o false).map (λp=>(p.1,o2))/\args.flatMap (eE o2 6)=args.flatMap (eE o 6):=by
 simp only[δC,forall_exists_index,and_imp] at h;have d:=λc a=>vq 6 c (λj e=>h j c a e);have b:args.flatMap (eE o2 6)=args.flatMap (eE o 6):=wv λc a=>(d c a).2;refine⟨?_,b⟩;unfold fV;rw[if_neg (by simp),if_neg (by simp),b,vr λc a=>(d c a).1];grind
theorem Gq {b:bR} (w:b.bt=1) {o o2:a_} (h:∀j∈di b ρ o qE,o2[j]?=o[j]?):
  MO call b ρ o2 qE=(MO call b ρ o qE).map (λp=>(p.1,o2))/\di b ρ o2 qE=di b ρ o qE:=by
 cases b<;>try (simp[bR.bt] at w;done)
 case load n a=>
  simp only[MO,di] at h ⊢;rw[Ys h];refine⟨?_,trivial⟩;split<;>simp[ζm,δi]
 case aqx l x i=>
  simp only[MO,di] at h ⊢;refine⟨?_,trivial⟩;split;·rw[Yq h];simp_all[δi]
  ·rfl
 case slice l x q y=>
  simp only[MO,di] at h ⊢;refine⟨?_,trivial⟩;rw[Yp h];simp_all[δi]
 case slice3 l x q y A=>
  simp only[MO,di] at h ⊢;refine⟨?_,trivial⟩;rw[Yo h];simp_all[δi]
 case len k x=>
  simp only[MO,di] at h ⊢;refine⟨?_,trivial⟩;rw[Yn h];simp_all[δi]
 case lookup z m F D x k C=>
  simp only[MO,di] at h ⊢;refine⟨?_,trivial⟩;split<;>grind[id,eD]
 case aoe r x c=>
  simp only[MO,di] at h ⊢;split
  ·rename_i t B u;simp only[u] at h ⊢;refine⟨?_,(yE (call:=call) (f:=0) h).2⟩;grind[yE]
  simp_all
 case call f c d=>
  cases d<;>grind[MO,di,yE,bR.bt]
 case ak4 f c d=>
  cases d
  ·simp only[MO,di] at h ⊢;split;·grind[yE]
   ·rename_i s;refine⟨rfl,?_⟩;split
    ·rename_i E g e v;simp only[v] at h ⊢;exact(yE (call:=call) (f:=0) h).2
    ·rfl
  grind[bR.bt]
theorem Ym {a:bR} (b:a.bt=1) {o o':a_} {v:AV} (h:MO call a ρ o qE=some (v,o')):o'=o:=by
 have:=(Gq (call:=call) (ρ:=ρ) (qE:=qE) b (o:=o) (o2:=o) λ_ _=>rfl).1;grind
theorem AC {o:a_} {id:Nat}:o.set id ((o[id]?).getD .dead)=o:=by
 apply List.ext_getElem?;grind
theorem Yl {d:bR} (H:d.bt=2) {o o':a_} {v:AV} (b:MO call d ρ o qE=some (v,o')):
  ∃id x,id∈fj d ρ o qE/\o'=o.set id x/\∀o2,(∀j∈di d ρ o qE,o2[j]?=o[j]?)->
   MO call d ρ o2 qE=some (v,o2.set id x)/\di d ρ o2 qE=di d ρ o qE/\fj d ρ o2 qE=fj d ρ o qE:=by
 have C:∀{x:OL} {g:AV} {v:AV} {o':a_},(j4 qE x o).map (λo'=>(g,o'))=some (v,o')->v=g/\o'=o.set qE x/\∀o2:a_,o2[qE]?=o[qE]?->(j4 qE x o2).map (λo'=>(g,o'))=some (v,o2.set qE x):=by
  grind[j4]
 cases d<;>try (simp[bR.bt] at H;done)
 case alloc z e y=>
  simp only[MO,di,fj] at b ⊢;grind
 case box e x=>
  simp only[MO,di,fj] at b ⊢;grind
 case aoE z D E e A=>
  simp only[MO,di,fj] at b ⊢;grind
 case ao6 z e A q l c y=>
  simp only[MO,di,fj] at b ⊢;grind
 case ao7 Q y=>
  simp only[MO,di,fj] at b ⊢;grind
 case store n a x=>
  simp only[MO,di,fj] at b ⊢;split at b
  ·rename_i id R G J;split at b
   ·rename_i L e A y K;split at b
    ·rename_i p;simp only[γ,ι] at b;obtain⟨rfl,rfl⟩:=b;refine⟨id,_,by simp[J,eD],rfl,λo2 h=>⟨?_,trivial,trivial⟩⟩;have U:=h id (by simp[J,eD]);grind
    ·cases b
   ·cases b
  ·cases b
 case append e A q s x y=>
  simp only[MO,di,fj] at b ⊢;unfold o5 at b;split at b;·cases b
  ·rename_i m F P;split at b;·cases b
   ·rename_i N;have t:∀o2:a_,(∀j∈qE::(eD (ρ s)++eD (ρ x)),o2[j]?=o[j]?)->lV o2 A (ρ x)=some (m,F):=λo2 h=>by
     grind[Yr]
    split at b
    ·rename_i B;split at b
     ·rename_i I;simp only[γ,ι] at b;obtain⟨rfl,rfl⟩:=b;refine⟨qE,(o[qE]?).getD .dead,by simp,AC.symm,λo2 h=>⟨?_,trivial,trivial⟩⟩;rw[<-h qE (by simp),AC];simp_all[o5]
     ·split at b
      ·rename_i I p;obtain⟨rfl,rfl,h3⟩:=C b;refine⟨qE,_,by simp,rfl,λo2 h=>⟨?_,trivial,trivial⟩⟩;simp_all[o5]
      ·cases b
    ·rename_i id D G B;split at b
     ·rename_i L e' S O K;split at b
      ·rename_i p;simp only[γ,ι] at b;obtain⟨rfl,rfl⟩:=b;refine⟨id,_,by simp[B,eD],rfl,λo2 h=>⟨?_,trivial,trivial⟩⟩;unfold o5;rw[t o2 h];have U:=h id (by simp[B,eD]);simp_all
      ·cases b
     ·cases b
    ·rename_i n L B;split at b
     ·rename_i I;simp only[γ,ι] at b;obtain⟨rfl,rfl⟩:=b;refine⟨qE,(o[qE]?).getD .dead,by simp,AC.symm,λo2 h=>⟨?_,trivial,trivial⟩⟩;rw[<-h qE (by simp),AC];simp_all[o5]
     ·cases b
    ·cases b
 case apP W X x k v'=>
  simp only[MO,di,fj] at b ⊢;split at b
  ·rename_i id Y M V;split at b
   ·rename_i Z Q y K;split at b;·cases b
    ·rename_i p;split at b
     ·rename_i i w T;simp only[γ,ι] at b;obtain⟨rfl,rfl⟩:=b;refine⟨id,_,by simp[M,eD],rfl,λo2 h=>⟨?_,trivial,trivial⟩⟩;simp_all[eD]
     ·rename_i T;simp only[γ,ι] at b;obtain⟨rfl,rfl⟩:=b;refine⟨id,_,by simp[M,eD],rfl,λo2 h=>⟨?_,trivial,trivial⟩⟩;simp_all[eD]
     ·cases b
   ·cases b
  ·cases b
 case call f u r=>cases r<;>simp[bR.bt] at H
 case ak4 f u r=>cases r<;>simp[bR.bt] at H
theorem p5 (o:a_):∀(d:Nat) (vs:List AV) (acc:List Nat) (j:Nat),j∈acc->j∈b_ o d vs acc
 |0,vs,acc,j,h=>by grind[b_];|d+1,[],acc,j,h=>by simp_all[b_];|d+1,v::vs,acc,j,h=>by
  rw[yi];apply p5 o d;have e:∀c,j∈oC o d c acc:=by
   intro c;unfold oC;split;·exact h
   ·split
    ·split;·simp[h]
     ·exact p5 o d _ _ j (by simp[h])
    ·split;·simp[h]
     ·exact p5 o d _ _ j (by simp[h])
    ·simp[h]
  cases v with
  |agg g=>exact p5 o d _ _ j h;|Gz g=>exact p5 o d _ _ j h;|ptr c _ _=>exact e c;|os c _ _ _=>exact e c;|mp c=>exact e c;|fn f a b=>exact p5 o d _ _ j (p5 o d _ _ j h);|_=>exact h
theorem Yk (o:a_) (d id:Nat) (acc:List Nat):id∈oC o d id acc:=by
 grind[oC,p5]
theorem rl {o o2:a_}:∀(d:Nat) (vs:List AV) (acc:List Nat),(∀j∈b_ o d vs acc,o2[j]?=o[j]?)->b_ o2 d vs acc=b_ o d vs acc
 |0,vs,acc,_=>by grind[b_];|d+1,[],acc,_=>by simp[b_];|d+1,v::vs,acc,h=>by
  rw[yi] at h;rw[yi,yi];have m:∀c,(∀j∈oC o d c acc,o2[j]?=o[j]?)->oC o2 d c acc=oC o d c acc:=by
   intro c g;have r:=g c (Yk o d c acc);unfold oC at g ⊢;split;·rfl
   ·rename_i q;rw[if_neg q] at g;rw[r];cases p:o[c]? with
    |none=>rfl;|some x=>
     rw[p] at g;cases x with
     |dead=>rfl;|cells l e w n=>
      cases n with
      |true=>rfl;|false=>exact rl d _ _ g
     |map s u n=>
      cases n with
      |true=>rfl;|false=>exact rl d _ _ g
  have k:tp o2 d v acc=tp o d v acc:=by
   have i:=λj g=>h j (p5 o d vs _ j g);cases v with
   |agg l=>exact rl d l acc i;|Gz l=>exact rl d l acc i;|ptr c _ _=>exact m c i;|os c _ _ _=>exact m c i;|mp c=>exact m c i;|fn f a b=>
    have y:b_ o2 d a acc=b_ o d a acc:=rl d a acc λj g=>i j (p5 o d b _ j g);have t:b_ o2 d b (b_ o d a acc)=b_ o d b (b_ o d a acc):=rl d b _ i;grind[tp];|_=>rfl
  rw[k];exact rl d vs _ h
theorem OD {o o2:a_} {a:List Nat}:∀{r:List Nat},(∀j∈r,o2[j]?=o[j]?)->j7 o2 a r=j7 o a r
 |[],_=>rfl
 |i::r,h=>by
  simp only[j7];rw[h i (by simp),OD λj b=>h j (by simp[b])]
theorem OC:∀(a:List Nat) (o o2 X:a_) (j:Nat),o2.length=o.length->a.length=X.length->(j∈a\/o2[j]?=o[j]?)->(kJ o2 a X)[j]?=(kJ o a X)[j]?
 |[],o,o2,X,j,_,_,h=>by grind[kJ];|i::r,o,o2,[],j,_,c,_=>by simp at c;|i::r,o,o2,x::l,j,b,c,h=>by
  simp only[kJ];refine OC r _ _ l j (by simp[b]) (by simp_all) ?_;grind
theorem OB {f:FuncId} {args:List AV} {o o':a_} {r:AV} (h:gU call f args o=some (r,o')):
  o.length<=o'.length/\(∀j,j<o.length->j∉b_ o e_ args []->o'[j]?=o[j]?)/\
  ∀o2:a_,o2.length=o.length->(∀j∈b_ o e_ args [],o2[j]?=o[j]?)->∃g,gU call f args o2=some (r,g)/\
   b_ o2 e_ args []=b_ o e_ args []/\∀j,(j∈b_ o e_ args []\/o.length<=j)->g[j]?=o'[j]?:=by
 have b:∀o2:a_,(∀j∈b_ o e_ args [],o2[j]?=o[j]?)->b_ o2 e_ args []=b_ o e_ args []:=λo2 h=>rl e_ args [] h;have e:∀o2:a_,(∀j∈b_ o e_ args [],o2[j]?=o[j]?)->j7 o2 (b_ o e_ args []) (b_ o e_ args [])=j7 o (b_ o e_ args []) (b_ o e_ args []):=λo2 h=>OD h;unfold gU at h;simp only at h;generalize q:b_ o e_ args []=a at h b e;split at h
 ·rename_i m l v y;split at h
  ·rename_i B i n;split at h;·cases h
   ·rename_i d;split at h
    ·rename_i A c x t;simp only[γ,ι] at h;obtain⟨rfl,rfl⟩:=h;simp only[not_or] at d;have u:=Hn t;have z:a.length=(c.take a.length).length:=by simp;omega
     refine⟨by simp[yh],λj s w=>?_,λo2 p k=>?_⟩;·grind[yh,AG]
     ·refine⟨kJ o2 a (c.take a.length)++c.drop a.length,?_,b o2 k,λj s=>?_⟩
      ·unfold gU;grind
      grind[yh,OC]
    ·cases h
  ·cases h
 ·cases h
end
end Go.Vi
