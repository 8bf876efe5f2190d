import Derived.Test.YtbnhiekmnpikhaaGreatDR02
import Derived.OrdersIn
set_option maxRecDepth 100000
set_option maxHeartbeats 4000000
set_option linter.all false
open Array renaming ext'->εl,getD_eq_getD_getElem?->εb
open Bool renaming and_eq_true->θ,false_eq_true->φ,or_eq_true->δo,not_eq_true'->δi
open Decidable renaming not_not->ζW
open Function renaming comp_def->δn
open Go.Vi.AV renaming bH->δz
open List renaming eq_nil_of_length_eq_zero->τ,getElem?_eq_some_iff->ζ,getElem?_eq_getElem->μ,mem_of_getElem?->γe,getElem?_of_mem->γH,getElem?_take->δj,getElem?_take_of_lt->δB,replicate->δ,getElem?_append_left->δa,getElem?_append_right->ε8,mem_of_mem_take->γl,mapM_cons->εR,getElem?_drop->δA,mem_of_mem_drop->γV,mem_cons->γw,range->ω,getElem?_cons_succ->γO,nodup_cons->γY,getElem?_inj->ζo,mem_flatMap->δR
open Nat renaming le_refl->ξ,lt_of_lt_of_le->γj,lt_or_ge->ζd,sub_zero->εT
open Option renaming map_eq_some_iff->ε,map_some->ν,map_map->ζj
open Option.some renaming injEq->γ
open Prod.mk renaming injEq->ι
namespace Go.Vi
def bT.nU:bT->Bool
 | .call .. | .ak7 .. | .aok .. =>true
 |_=>false
section
variable {P:Program} {A:dc} {w w':World} {σ σ':TM} {o o':a_} {Ov:Operand->AV} {NI:Operand->Value} {oper:Oper} {v:AV}
theorem jD {b:Type} {x:Option b} {f:b->AV×a_} {p:AV×a_} (h:x.map f=some p):∃a,x=some a/\f a=p:=by
 simp_all
theorem Zp {call:cy} {fl:Bool} {iop:bT} {oz:Nat} (hc:nX P fl oper=some iop) (hnc:iop.nU=false) (hS:OM A w σ o) (hρ:∀x,nA A w σ o (Ov x) (NI x))
  (he:qe call iop Ov o oz=some (v,o')):bA A P NI oper w σ o v o':=by
 rw[yo] at he;unfold nX at hc;split at hc;·
  rename_i x hop;injection hc with hc;subst hc;simp only[MO,γ,ι] at he;obtain⟨rfl,rfl⟩:=he;exact O7 hS hρ (.inl hop)
 ·rename_i x hop;injection hc with hc;subst hc;simp only[MO,γ,ι] at he;obtain⟨rfl,rfl⟩:=he;exact O7 hS hρ (.inr hop)
 ·rename_i c a b hop;injection hc with hc;subst hc;simp only[MO] at he;split at he
  ·rename_i hcc;simp only[γ,ι] at he;obtain⟨rfl,rfl⟩:=he;exact O6 (t:=true) hS hρ hop hcc
  ·rename_i hcc;simp only[γ,ι] at he;obtain⟨rfl,rfl⟩:=he;exact O6 (t:=false) hS hρ hop hcc
  ·cases he
 ·rename_i e hop;obtain⟨z,hz,rfl⟩:=ε.1 hc;simp only[MO] at he;obtain⟨o2,hm,h2⟩:=jD he;obtain⟨hd,rfl⟩:=wc hm;simp only[ι] at h2;obtain⟨rfl,rfl⟩:=h2;exact aN8 hS hop hz hd
 ·rename_i e x hop;injection hc with hc;subst hc;simp only[MO] at he;split at he
  ·rename_i h1;obtain⟨o2,hm,h2⟩:=jD he;obtain⟨hd,rfl⟩:=wc hm;simp only[ι] at h2;obtain⟨rfl,rfl⟩:=h2;exact aN9 hS hρ hop h1 hd
  ·cases he
 ·
  rename_i t parts hop;split at hc
  ·rename_i z fields hz ht;split at hc
   ·rename_i places hpl;obtain⟨ps,hps,rfl⟩:=ε.1 hc;simp only[MO] at he;obtain⟨cs,hf,h2⟩:=jD he;simp only[ι] at h2;obtain⟨rfl,rfl⟩:=h2;obtain⟨hl,hg⟩:=G8 hps;refine PJ (place:=λi=>places[i]?) hS hρ hop hz (λzv hzv l=>?_) hl.symm (λi p q hp hq=>?_) hf;·cases hi:P.info? t with
     |none=>simp[hi] at hzv;|some i=>
      simp[hi] at hzv;unfold Pj at hpl;simp[Program.built,hi,ht,hzv,hpl]
    ·have:=hg i p q hp hq;simp only[Pi,ε] at this;obtain⟨r,h1,rfl⟩:=this;exact⟨h1,rfl⟩
   ·cases hc
  ·rename_i z k e hz ht;obtain⟨n,hn,rfl⟩:=ε.1 hc;simp only[MO] at he;obtain⟨cs,hf,h2⟩:=jD he;simp only[ι] at h2;obtain⟨rfl,rfl⟩:=h2;refine PJ (place:=λi=>some (i*n,n)) hS hρ hop hz (λzv hzv l=>?_) (by simp) (λi p q hp hq=>?_) hf;·cases hi:P.info? t with
    |none=>simp[hi] at hzv;|some i=>
     simp[hi] at hzv;cases hie:P.info? e with
     |none=>simp[bK,hie] at hn;|some ie=>
      simp[bK,hie] at hn;simp[Program.built,hi,ht,hzv,hie,hn]
   ·rw[List.getElem?_map,hp] at hq;simp at hq;subst hq;exact⟨rfl,rfl⟩
  ·cases hc
 ·
  rename_i t len parts hop;split at hc
  ·rename_i e ht;split at hc
   ·rename_i z hz;split at hc
    ·rename_i hcond;injection hc with hc;subst hc;split at he
     ·simp only[MO] at he;split at he
      ·rename_i cs hf;split at he
       ·rename_i hp;simp only[γ,ι] at he;obtain⟨rfl,rfl⟩:=he;exact YQ hS hρ hop ht hz hcond.2 hcond.1 hf hp
       ·cases he
      ·cases he
     ·simp only[MO] at he;split at he
      ·rename_i cs hf;obtain⟨o2,hm,h2⟩:=jD he;obtain⟨hd,rfl⟩:=wc hm;simp only[ι] at h2;obtain⟨rfl,rfl⟩:=h2;exact YR hS hρ hop ht hz hcond.2 hcond.1 hf hd
      ·cases he
    ·cases hc
   ·cases hc
  ·cases hc
 ·
  rename_i t a hop;obtain⟨n,hn,rfl⟩:=ε.1 hc;simp only[MO] at he;split at he
  ·rename_i cs bu hb;obtain⟨a',hp,h2⟩:=jD he;simp only[ι] at h2;obtain⟨rfl,rfl⟩:=h2;exact aN5 hS hρ hop hn hb hp
  ·cases he
 ·
  rename_i t a x hop;obtain⟨n,hn,rfl⟩:=ε.1 hc;simp only[MO] at he;split at he
  ·rename_i id bu tot ha;split at he
   ·rename_i cs e sz pu ho;split at he
    ·rename_i hcond;simp only[γ,ι] at he;obtain⟨rfl,rfl⟩:=he;obtain⟨c1,c2,c3,c4,c5⟩:=hcond;exact aN7 hS hρ hop hn ha ho c1 c2 c3 c4 c5
    ·cases he
   ·cases he
  ·cases he
 ·
  rename_i x hop;injection hc with hc;subst hc;simp only[MO] at he;have hx:=hρ x;split at he
  ·rename_i a b c hxa;simp only[γ,ι] at he;obtain⟨rfl,rfl⟩:=he;rw[hxa] at hx;simp only[nA] at hx;obtain⟨_,⟨p,hp⟩,_⟩:=hx;rw[<-hxa];exact O5 hS hρ hop hp
  ·rename_i a b hxa;simp only[γ,ι] at he;obtain⟨rfl,rfl⟩:=he;rw[hxa] at hx;simp only[nA] at hx;obtain⟨p,hp,_⟩:=hx;rw[<-hxa];exact O5 hS hρ hop hp
  ·cases he
 ·
  rename_i op t x y t' hop;have aA1:∀(h:iop= .bin op x y),bA A P NI oper w σ o v o':=by
   intro h;subst h;simp only[MO] at he;split at he
   ·rename_i a b ha hb;obtain⟨r,hr,h2⟩:=jD he;simp only[ι] at h2;obtain⟨rfl,rfl⟩:=h2;exact Zc hS hρ hop ha hb hr
   ·cases he
  have heq:∀(neg:Bool),(op= .eql/\neg=false)\/(op= .neq/\neg=true)->
    (match P.underlying t with
     |some (.struct _)|some (.array _ _)=>if 20<=P.depth then(fA P 20 t).map λks=>bT.eqf neg ks x y else none
     |some .bool=>some (.beq neg x y)
     |some (.int _)|some .string=>some (.bin op x y)
     |some (.pointer _)=>some (.arl neg x y)
     |_=>none)=some iop->bA A P NI oper w σ o v o':=by
   intro neg hn hc;have hagg:eI P t=some true->(if 20<=P.depth then(fA P 20 t).map λks=>bT.eqf neg ks x y else none)=some iop->bA A P NI oper w σ o v o':=by
    intro hag hc;split at hc
    ·rename_i hD;obtain⟨ks,hk,rfl⟩:=ε.1 hc;simp only[MO] at he;split at he
     ·rename_i a b ha hb;obtain⟨r,hr,h2⟩:=jD he;simp only[ι] at h2;obtain⟨rfl,rfl⟩:=h2;exact Zy hS hρ hop hn hag hk hD ha hb hr
     ·cases he
    ·cases hc
   split at hc;·rename_i hu;exact hagg (by simp[eI,hu]) hc
   ·rename_i hu;exact hagg (by simp[eI,hu]) hc
   ·rename_i hu;injection hc with hc;subst hc;simp only[MO] at he;split at he
    ·rename_i a b ha hb;simp only[γ,ι] at he;obtain⟨rfl,rfl⟩:=he;exact Zb hS hρ hop hn hu ha hb
    ·cases he
   ·injection hc with hc;exact aA1 hc.symm
   ·injection hc with hc;exact aA1 hc.symm
   ·rename_i hu;injection hc with hc;subst hc;simp only[MO] at he;split at he
    ·rename_i ha hb;simp only[γ,ι] at he;obtain⟨rfl,rfl⟩:=he;have hx:=hρ x;rw[ha] at hx;simp only[nA] at hx;obtain⟨_,⟨p,hp⟩,_⟩:=hx;simpa using O4 hS hρ hop hn hu hp hb
    ·rename_i ha hb;simp only[γ,ι] at he;obtain⟨rfl,rfl⟩:=he;have hx:=hρ x;rw[ha] at hx;simpa using O4 hS hρ hop hn hu (fN hx) hb
    ·cases he
   ·cases hc
  split at hc;·exact heq false (.inl ⟨rfl,rfl⟩) hc
  ·exact heq true (.inr ⟨rfl,rfl⟩) hc
  ·injection hc with hc;exact aA1 hc.symm
 ·
  rename_i op t x hop;injection hc with hc;subst hc;simp only[MO] at he;obtain⟨r,hr,h2⟩:=jD he;simp only[ι] at h2;obtain⟨rfl,rfl⟩:=h2;exact Y_ hS hρ hop hr
 ·
  rename_i s d x hop;split at hc
  ·rename_i ds k hs hd;injection hc with hc;subst hc;simp only[MO] at he;split at he
   ·rename_i k' n hx;simp only[γ,ι] at he;obtain⟨rfl,rfl⟩:=he;exact Y9 hS hρ hop hs hd hx
   ·cases he
  ·cases hc
 ·
  rename_i s x f hop;split at hc
  ·rename_i fs hs;split at hc
   ·rename_i g hg;split at hc
    ·rename_i n hn;split at hc;·cases hc
     ·rename_i hn0;injection hc with hc;subst hc;simp only[MO] at he;obtain⟨r,hr,h2⟩:=jD he;simp only[ι] at h2;obtain⟨rfl,rfl⟩:=h2;exact Y8 hS hρ hop hs hg hn hn0 hr
    ·cases hc
   ·cases hc
  ·cases hc
 ·
  rename_i t x f hop;split at hc
  ·rename_i fs hs;split at hc
   ·rename_i g hg;obtain⟨n,hn,rfl⟩:=ε.1 hc;simp only[MO] at he;split at he
    ·rename_i cs hx;obtain⟨r,hr,h2⟩:=jD he;simp only[ι] at h2;obtain⟨rfl,rfl⟩:=h2;exact Y7 hS hρ hop hs hg hn hx hr
    ·cases he
   ·cases hc
  ·cases hc
 ·
  rename_i t x i hop;split at hc
  ·rename_i len e ht;obtain⟨n,hn,rfl⟩:=ε.1 hc;simp only[MO] at he;split at he
   ·rename_i k hi;split at he
    ·rename_i hcond;obtain⟨r,hr,h2⟩:=jD he;simp only[ι] at h2;obtain⟨rfl,rfl⟩:=h2;exact Y6 hS hρ hop ht hn hi hcond.1 hcond.2 hr
    ·cases he
   ·cases he
  ·rename_i e ht;split at hc
   ·rename_i n hn;split at hc;·cases hc
    ·rename_i hn0;injection hc with hc;subst hc;simp only[MO] at he;split at he
     ·rename_i k hi;obtain⟨r,hr,h2⟩:=jD he;simp only[ι] at h2;obtain⟨rfl,rfl⟩:=h2;exact Y5 hS hρ hop ht hn hn0 hi hr
     ·cases he
   ·cases hc
  ·cases hc
 ·
  rename_i t x i hop;split at hc
  ·rename_i len e ht;split at hc
   ·rename_i s n hs hn;injection hc with hc;subst hc;simp only[MO] at he;split at he
    ·rename_i k cs hi hx;split at he
     ·rename_i hcond;obtain⟨r,hr,h2⟩:=jD he;simp only[ι] at h2;obtain⟨rfl,rfl⟩:=h2;exact Y4 hS hρ hop ht hs hn hi hcond.1 hcond.2 hx hr
     ·cases he
    ·cases he
   ·cases hc
  ·rename_i ht;injection hc with hc;subst hc;simp only[MO] at he;split at he
   ·rename_i k s hi hx;split at he
    ·rename_i hcond;obtain⟨r,hr,h2⟩:=jD he;simp only[ι] at h2;obtain⟨rfl,rfl⟩:=h2;exact Y3 hS hρ hop ht hi hcond hx hr
    ·cases he
   ·cases he
  ·cases hc
 ·
  rename_i t l c hop;split at hc
  ·rename_i e ht;split at hc
   ·rename_i z b hz hb;split at hc
    ·rename_i hpos;injection hc with hc;subst hc;simp only[MO] at he;split at he
     ·rename_i n m hl hm;split at he
      ·rename_i hcond;obtain⟨c1,c2,c3,c4⟩:=hcond;obtain⟨o2,hmk,h2⟩:=jD he;obtain⟨hd,rfl⟩:=wc hmk;simp only[ι] at h2;obtain⟨rfl,rfl⟩:=h2;exact ZC hS hρ hop ht hz hb hl hm c1 c2 c3 c4 hd
      ·cases he
     ·cases he
    ·cases hc
   ·cases hc
  ·cases hc
 ·
  rename_i t x lo hi hop;split at hc
  ·rename_i e ht;split at hc
   ·rename_i n hn;split at hc;·cases hc
    ·rename_i hn0;injection hc with hc;subst hc;simp only[MO] at he;obtain⟨r,hr,h2⟩:=jD he;simp only[ι] at h2;obtain⟨rfl,rfl⟩:=h2;exact YX hS hρ hop ht hn hn0 hr
   ·cases hc
  ·rename_i ht;injection hc with hc;subst hc;simp only[MO] at he;split at he
   ·rename_i s hx;split at he
    ·rename_i l k hl hk;split at he
     ·rename_i hcond;simp only[γ,ι] at he;obtain⟨rfl,rfl⟩:=he;exact YU hS hρ hop ht hx hl hk hcond.1 hcond.2
     ·cases he
    ·cases he
   ·cases he
  ·cases hc
 ·
  rename_i t x lo hi mx hop;split at hc
  ·rename_i e ht;split at hc
   ·rename_i n hn;split at hc;·cases hc
    ·rename_i hn0;injection hc with hc;subst hc;simp only[MO] at he;obtain⟨r,hr,h2⟩:=jD he;simp only[ι] at h2;obtain⟨rfl,rfl⟩:=h2;exact YV hS hρ hop ht hn hn0 hr
   ·cases hc
  ·cases hc
 ·
  rename_i c hop;split at hc
  ·split at hc;·injection hc with hc;subst hc;simp[bT.nU] at hnc
   ·cases hc
  ·injection hc with hc;subst hc;simp[bT.nU] at hnc
  ·split at hc;·cases hc
   ·injection hc with hc;subst hc;simp[bT.nU] at hnc
  ·rename_i amh;split at hc
   ·rename_i s x t t' ha hty;split at hc
    ·rename_i htt;subst htt;split at hc
     ·rename_i e ht;split at hc
      ·rename_i z b hz hb;split at hc
       ·rename_i hpos;injection hc with hc;subst hc;simp only[MO] at he;exact Zz hS hρ hop amh (εl ha) (εl hty) ht hz hb rfl hpos he
       ·cases hc
      ·cases hc
     ·cases hc
    ·cases hc
   ·cases hc
  ·rename_i amh;split at hc
   ·rename_i x t ha hty;have ha':c.args=#[x]:=εl ha;have hty':c.argTypes=#[t]:=εl hty;have hlen:∀k,(k=0/\∃e,P.underlying t=some (.slice e))\/(k=1/\P.underlying t=some .string)\/(k=2/\∃a b,P.underlying t=some (.map a b))->iop= .len k x->bA A P NI oper w σ o v o':=by
     intro k ht hh;subst hh;simp only[MO] at he;obtain⟨n,hn,h2⟩:=jD he;simp only[ι] at h2;obtain⟨rfl,rfl⟩:=h2;exact Y2 hS hρ hop amh ha' hty' ht hn
    split at hc;·rename_i e ht;injection hc with hc;exact hlen 0 (.inl ⟨rfl,e,ht⟩) hc.symm
    ·rename_i ht;injection hc with hc;exact hlen 1 (.inr (.inl ⟨rfl,ht⟩)) hc.symm
    ·rename_i k e ht;injection hc with hc;exact hlen 2 (.inr (.inr ⟨rfl,k,e,ht⟩)) hc.symm
    ·rename_i n e ht;injection hc with hc;subst hc;simp only[MO,γ,ι] at he;obtain⟨rfl,rfl⟩:=he;exact Y1 hS hop amh ha' hty' ht
    ·cases hc
   ·cases hc
  ·rename_i amh;split at hc
   ·rename_i x y ha;injection hc with hc;subst hc;simp only[MO] at he;split at he
    ·rename_i k a k' b hx hy;split at he
     ·rename_i hkk;subst hkk;simp only[γ,ι] at he;obtain⟨rfl,rfl⟩:=he;exact O2 (mx:=false) hS hρ hop amh (εl ha) hx hy
     ·cases he
    ·cases he
   ·cases hc
  ·rename_i amh;split at hc
   ·rename_i x y ha;injection hc with hc;subst hc;simp only[MO] at he;split at he
    ·rename_i k a k' b hx hy;split at he
     ·rename_i hkk;subst hkk;simp only[γ,ι] at he;obtain⟨rfl,rfl⟩:=he;exact O2 (mx:=true) hS hρ hop amh (εl ha) hx hy
     ·cases he
    ·cases he
   ·cases hc
  ·cases hc
 ·
  rename_i x i hop;injection hc with hc;subst hc;simp only[MO] at he;split at he
  ·rename_i vs hx;obtain⟨r,hr,h2⟩:=jD he;simp only[ι] at h2;obtain⟨rfl,rfl⟩:=h2;exact Y0 hS hρ hop hx hr
  ·cases he
 ·rename_i f a b hop;split at hc
  ·injection hc with hc;subst hc;simp only[MO,γ,ι] at he;obtain⟨rfl,rfl⟩:=he;exact YY hS hρ (λ_=>rfl) hop
  ·cases hc
 ·rename_i t x hop;split at hc
  ·rename_i fs ht;injection hc with hc;subst hc;simp only[MO] at he;split at he
   ·rename_i cs hx;split at he
    ·rename_i hp;simp only[γ,ι] at he;obtain⟨rfl,rfl⟩:=he;exact YZ hS hρ ht hop hx hp
    ·cases he
   ·cases he
  ·cases hc
 ·rename_i t hop;split at hc
  ·split at hc
   ·injection hc with hc;subst hc;simp only[MO] at he;obtain⟨o2,hmk,h2⟩:=jD he;obtain⟨hd,rfl⟩:=wc hmk;simp only[ι] at h2;obtain⟨rfl,rfl⟩:=h2;exact Zt hS hop hd
   ·cases hc
  ·cases hc
 ·
  rename_i t x k ok hop;split at hc
  ·rename_i kt et ht;split at hc
   ·rename_i ks ka z g hk hag hz hg;split at hc
    ·rename_i hzo;injection hc with hc;subst hc;simp only[MO] at he;split at he
     ·rename_i id kv hx hkv;split at he
      ·rename_i es kt' pu ho;split at he
       ·rename_i hkt;subst hkt;split at he
        ·rename_i i a q hf;simp only[γ,ι] at he;obtain⟨rfl,rfl⟩:=he;obtain⟨zv,hzv⟩:=Zs hz hzo;obtain⟨u,hu1,hu2⟩:=Py (w:=w) (σ:=σ) (o:=o) hz hzo hzv;have:=Px (ok:=ok) hS hρ hop ht hk hag ⟨zv,u,hzv,hu1,hu2⟩ hx hkv ho hf hzv;simpa using this
        ·rename_i zv hf hzv;simp only[γ,ι] at he;obtain⟨rfl,rfl⟩:=he;obtain⟨u,hu1,hu2⟩:=Py (w:=w) (σ:=σ) (o:=o) hz hzo hzv;have:=Px (ok:=ok) hS hρ hop ht hk hag ⟨zv,u,hzv,hu1,hu2⟩ hx hkv ho hf hzv;simpa using this
        ·cases he
       ·cases he
      ·cases he
     ·cases he
    ·cases hc
   ·cases hc
  ·cases hc
 ·rename_i t m k v' hop;split at hc
  ·rename_i kt et ht;split at hc
   ·rename_i ks ka hk hag;injection hc with hc;subst hc;simp only[MO] at he;split at he
    ·rename_i id kv hx hkv;split at he
     ·rename_i es kt' pu ho;split at he;·cases he
      ·rename_i hcond;simp only[not_or,ζW] at hcond;obtain⟨hpu,hkt⟩:=hcond;subst hkt;have avX:pu=true->(Ov v').pure=true:=λhp=>by
        cases hq:(Ov v').pure with
        |true=>rfl;|false=>exact absurd ⟨hp,hq⟩ hpu
       split at he
       ·rename_i i a hf;simp only[γ,ι] at he;obtain⟨rfl,rfl⟩:=he;exact Br hS hρ (.inl hop) ht hk hag hx hkv ho avX hf
       ·rename_i hf;simp only[γ,ι] at he;obtain⟨rfl,rfl⟩:=he;exact Br hS hρ (.inl hop) ht hk hag hx hkv ho avX hf
       ·cases he
     ·cases he
    ·cases he
   ·cases hc
  ·cases hc
 ·rename_i t m k v' hop;split at hc
  ·rename_i kt et ht;split at hc
   ·rename_i ks ka hk hag;injection hc with hc;subst hc;simp only[MO] at he;split at he
    ·rename_i id kv hx hkv;split at he
     ·rename_i es kt' pu ho;split at he;·cases he
      ·rename_i hcond;simp only[not_or,ζW] at hcond;obtain⟨hpu,hkt⟩:=hcond;subst hkt;have avX:pu=true->(Ov v').pure=true:=λhp=>by
        cases hq:(Ov v').pure with
        |true=>rfl;|false=>exact absurd ⟨hp,hq⟩ hpu
       split at he
       ·rename_i i a hf;simp only[γ,ι] at he;obtain⟨rfl,rfl⟩:=he;exact Br hS hρ (.inr hop) ht hk hag hx hkv ho avX hf
       ·rename_i hf;simp only[γ,ι] at he;obtain⟨rfl,rfl⟩:=he;exact Br hS hρ (.inr hop) ht hk hag hx hkv ho avX hf
       ·cases he
     ·cases he
    ·cases he
   ·cases hc
  ·cases hc
 ·cases hc
end
section
variable {A A':dc} {w w':World} {σ σ':TM} {o o':a_}
def Tr (o:a_) (σ:TM) (o':a_) (c:TM) (id a:Nat):Prop:=
 (∀f e g h,o[id]?=some (.cells f e g h)->∃b i d,o'[a]?=some (.cells b i g d)/\b.length=f.length)/\(IsMap o id->IsMap o' a)/\c[a]?=σ[id]?
theorem Tr.wt {id b a:Nat} (h:Tr o σ o' σ' id b) (k:rr o id a):rr o' b a:=by
 obtain⟨j,e,f,l,g,n⟩:=k;obtain⟨d,i,c,m,p⟩:=h.1 j e f l g;exact⟨d,i,f,c,m,by omega⟩
theorem Tr.cur {id g f sz:Nat} (h:Tr o σ o' σ' id g) (k:rr o id f) (p:tB o' g sz f):tB o id sz f:=by
 obtain⟨m,e,j,l,n,w⟩:=k;obtain⟨r,y,s,u,x⟩:=h.1 m e j l n;obtain⟨t,v,q,i,z⟩:=p;rw[u] at i;injection i with i;injection i with a b c d;subst a c;exact⟨m,e,l,n,by omega⟩
mutual
theorem AV.tq (m:Nat->Option Nat):∀(c:AV),c.pure=true->c.bH m=some c
 | .sc _,_=>rfl
 | .sl _ _,_=>rfl
 | .ud,h| .agg _,h| .Gz _,h| .ep _ _,h| .ptr _ _ _,h| .os _ _ _ _,h| .mp _,h| .fn _ _ _,h| .ifc _ _,h=>by simp[AV.pure] at h
end
theorem Pu (m:Nat->Option Nat):∀(cs:List AV),cK cs=true->gU m cs=some cs
 |[],_=>rfl
 |c::cs,h=>by
  simp only[cK,θ] at h;simp only[gU,AV.tq m c h.1,Pu m cs h.2]
mutual
theorem nA.bH [anO A A'] (l:∀b,b<w.heap.size->Fr A σ b->Fr A' σ' b) {m:Nat->Option Nat} (k:∀id e,m id=some e->Tr o σ o' σ' id e):
  ∀(c:AV) (v:Value) (q:AV),c.bH m=some q->nA A w σ o c v->nA A' w σ' o' q v
 | .ud,v,q,d,_=>by grind[δz,nA];| .sc u,v,q,d,h=>by grind[δz,nA];| .sl n g,v,q,d,h=>by
  simp only[δz,γ] at d;subst d;simp only[nA] at h ⊢;obtain⟨a,D,rfl,T,s,F⟩:=h;exact⟨a,D,rfl,T,s,cH.bH l k g a 0 s F⟩;| .ep g G,v,q,d,h=>by
  simp only[δz,γ] at d;subst d;simp only[nA] at h ⊢;obtain⟨a,rfl,s,F⟩:=h;exact⟨a,rfl,s,cH.bH l k g _ 0 s F⟩;| .agg g,v,q,d,h=>by
  simp only[δz,ε] at d;obtain⟨i,p,rfl⟩:=d;simp only[nA] at h ⊢;obtain⟨B,rfl,z⟩:=h;exact⟨B,rfl,Aq.bH l k g _ i p z⟩;| .Gz g,v,q,d,h=>by
  simp only[δz,ε] at d;obtain⟨i,p,rfl⟩:=d;simp only[nA] at h ⊢;obtain⟨B,rfl,z⟩:=h;exact⟨B,rfl,Aq.bH l k g _ i p z⟩;| .ptr id G I,v,q,d,h=>by
  simp only[δz,ε] at d;obtain⟨e,p,rfl⟩:=d;have C:=k id e p;simp only[nA] at h ⊢;refine⟨C.wt h.1,h.2.1,λL E=>?_⟩;rw[C.2.2];exact h.2.2 L (C.cur h.1 E);| .os id G P I,v,q,d,h=>by
  simp only[δz,ε] at d;obtain⟨e,p,rfl⟩:=d;have C:=k id e p;simp only[nA] at h ⊢;obtain⟨N,a,D,K,z,O⟩:=h;refine⟨C.wt N,a,D,K,z,λL E=>?_⟩;have:=O L (C.cur N E);unfold j3 at this ⊢;rw[C.2.2];exact this;| .mp id,v,q,d,h=>by
  simp only[δz,ε] at d;obtain⟨e,p,rfl⟩:=d;have C:=k id e p;simp only[nA] at h ⊢;rw[C.2.2];exact⟨C.2.1 h.1,h.2⟩;| .fn f a b,v,q,d,h=>by
  simp only[δz] at d;split at d
  ·rename_i Q V p J;injection d with d;subst d;simp only[nA] at h ⊢;obtain⟨x,y,rfl,R,S⟩:=h;exact⟨x,y,by rw[anO.eq (A:=A) (A':=A')],Aq.bH l k a _ Q p R,Aq.bH l k b _ V J S⟩
  ·cases d;| .ifc t g,v,q,d,h=>by
  simp only[δz,γ] at d;subst d;simp only[nA] at h ⊢;obtain⟨B,rfl,s,z⟩:=h;exact⟨B,rfl,s,Aq.bH l k g _ g (Pu m g s) z⟩
theorem Aq.bH [anO A A'] (l:∀b,b<w.heap.size->Fr A σ b->Fr A' σ' b) {m:Nat->Option Nat} (k:∀id e,m id=some e->Tr o σ o' σ' id e):
  ∀(g:List AV) (B:List Value) (i:List AV),gU m g=some i->Aq A w σ o g B->Aq A' w σ' o' i B
 |[],B,i,d,h=>by grind[gU,Aq];|c::g,B,i,d,h=>by
  simp only[gU] at d;split at d
  ·rename_i W H p J;injection d with d;subst d;simp only[Aq] at h ⊢;obtain⟨v,r,rfl,K,z⟩:=h;exact⟨v,r,rfl,nA.bH l k c v W p K,Aq.bH l k g r H J z⟩
  ·cases d
theorem cH.bH [anO A A'] (l:∀b,b<w.heap.size->Fr A σ b->Fr A' σ' b) {m:Nat->Option Nat} (k:∀id e,m id=some e->Tr o σ o' σ' id e):
  ∀(g:List AV) (a:Option Addr) (j:Nat),cK g=true->cH A w σ o g a j->cH A' w σ' o' g a j
 |[],_,_,_,_=>by simp[cH];|c::g,a,j,s,h=>by
  simp only[cK,θ] at s;simp only[cH] at h ⊢;obtain⟨⟨b,v,rfl,U,d,F⟩,z⟩:=h;have M:b.block<w.heap.size:=by grind[Pf,cY]
  exact⟨⟨b,v,rfl,l _ M U,d,nA.bH l k c v c (AV.tq m c s.1) F⟩,cH.bH l k g _ (j+1) s.2 z⟩
end
theorem Hq {m:Nat->Option Nat}:∀{cs a:List AV},gU m cs=some a->a.length=cs.length/\∀(j:Nat) (b:AV),a[j]?=some b->∃c,cs[j]?=some c/\c.bH m=some b
 |[],a,h=>by grind[gU];|c::cs,a,h=>by
  simp only[gU] at h;split at h
  ·rename_i k e f d;injection h with h;subst h;obtain⟨i,g⟩:=Hq d;grind
  ·cases h
theorem Pt {m:Nat->Option Nat}:∀{es a:List (Value×AV)},np m es=some a->a.length=es.length/\∀(j:Nat) (b:Value×AV),a[j]?=some b->∃e,es[j]?=some e/\e.1=b.1/\e.2.bH m=some b.2
 |[],a,h=>by grind[np];|e::es,a,h=>by
  simp only[np] at h;split at h
  ·rename_i v d f c;injection h with h;subst h;obtain⟨g,i⟩:=Pt c;grind
  ·cases h
theorem Zo {m:Nat->Option Nat} {c a:AV} (h:c.bH m=some a) (b:c.one=true):a.one=true:=by
 cases c<;>simp only[δz,γ,ε] at h<;>simp only[AV.one,φ] at b<;>grind[δz,AV.one]
mutual
theorem aYB {m:Nat->Option Nat}:∀{c a:AV},c.bH m=some a->c.pure=true->a=c
 |c,a,h,b=>by
  grind[AV.tq]
end
theorem cP.bH [anO A A'] (hA:∀b,b<w.heap.size->Fr A σ b->Fr A' σ' b) {m:Nat->Option Nat} (hm:∀id id',m id=some id'->Tr o σ o' σ' id id') {i i':Nat} {x x':OL} (hx:x.bH m=some x') (hσ:σ'[i']?=σ[i]?)
  (h:cP A w σ o i x):cP A' w σ' o' i' x':=by
 cases x with
 |dead=>simp only[OL.bH,γ] at hx;subst hx;simp only[cP] at h ⊢;rw[hσ];exact h;|cells cs e sz pu=>
  simp only[cP] at h;obtain⟨h1,h2,h3⟩:=h;have key:∀cs',cs'.length=cs.length->(pu=true->cK cs'=true)->dP cs'=true->(∀(j:Nat) (c':AV) (v:Value),cs'[j]?=some c'->(∀c,cs[j]?=some c->nA A w σ o c v->nA A' w σ' o' c' v))->cP A' w σ' o' i' (.cells cs' e sz pu):=by
   intro cs' k1 k2 k3 k4;simp only[cP];refine⟨k2,k3,?_⟩;rcases h3 with⟨h0,h0'⟩|⟨b,cap,arr,r1,r2,r3,r4,r5,r6⟩;·left;rw[hσ];exact⟨h0,τ (by rw[k1,h0'];rfl)⟩
   ·refine .inr ⟨b,cap,arr,by rw[hσ];exact r1,r2,r3,r4,by omega,λj c' hj=>?_⟩;have hjl:j<cs.length:=by have:=(ζ.1 hj).1;omega
    obtain⟨v,hv,hr⟩:=r6 j _ (μ hjl);exact⟨v,hv,k4 j c' v hj _ (μ hjl) hr⟩
  simp only[OL.bH] at hx;split at hx
  ·rename_i hpu;injection hx with hx;subst hx;refine key cs rfl h1 h2 λj c' v hj c hc hr=>?_;rw[hj] at hc;injection hc with hc;subst hc;exact nA.bH hA hm c' v c' (AV.tq m c' (oD (h1 hpu) c' (γe hj))) hr
  ·rename_i hpu;obtain⟨cs',hc',rfl⟩:=ε.1 hx;obtain⟨g1,g2⟩:=Hq hc';refine key cs' g1 (λhp=>absurd hp hpu) (lR.2 λc hc=>?_) λj c' v hj c hc hr=>?_
   ·obtain⟨j,hj⟩:=γH hc;obtain⟨c0,q1,q2⟩:=g2 j c hj;exact Zo q2 (lR.1 h2 c0 (γe q1))
   ·obtain⟨c0,q1,q2⟩:=g2 j c' hj;rw[hc] at q1;injection q1 with q1;subst q1;exact nA.bH hA hm c v c' q2 hr;|map es kt pu=>
  simp only[cP] at h;obtain⟨h1,h2,b,c,en,cl,h3,h4,h5,h6⟩:=h;simp only[OL.bH] at hx;split at hx
  ·rename_i hpu;injection hx with hx;subst hx;simp only[cP];refine⟨h1,h2,b,c,en,cl,by rw[hσ];exact h3,h4,h5,λj e he=>?_⟩;obtain⟨m',q1,q2,q3⟩:=h6 j e he;exact⟨m',q1,q2,nA.bH hA hm e.2 _ e.2 (AV.tq m e.2 (h1 hpu e (γe he))) q3⟩
  ·rename_i hpu;obtain⟨es',hc',rfl⟩:=ε.1 hx;obtain⟨g1,g2⟩:=Pt hc';simp only[cP];refine⟨λhp=>absurd hp hpu,λe he=>?_,b,c,en,cl,by rw[hσ];exact h3,h4,⟨by have:=h5.1;omega,h5.2⟩,λj e' he=>?_⟩
   ·obtain⟨j,hj⟩:=γH he;obtain⟨e0,q1,q2,_⟩:=g2 j e hj;rw[<-q2];exact h2 e0 (γe q1)
   ·obtain⟨e0,q1,q2,q3⟩:=g2 j e' he;obtain⟨m',r1,r2,r3⟩:=h6 j e0 q1;exact⟨m',r1,by rw[r2,q2],nA.bH hA hm e0.2 _ e'.2 q3 r3⟩
def oC (k:Nat):Nat->Option Nat:=λi=>if i<k then some i else none
mutual
theorem AG (k:Nat):∀(c:AV),c.TP k=true->c.bH (oC k)=some c
 | .ud,_| .sc _,_| .sl _ _,_| .ep _ _,_| .ifc _ _,_=>rfl
 | .agg d,h=>by simp only[AV.TP] at h;simp[δz,vx k d h];| .Gz d,h=>by simp only[AV.TP] at h;simp[δz,vx k d h];| .ptr e _ _,h=>by simp_all[AV.TP,δz,oC];| .os e _ _ _,h=>by simp_all[AV.TP,δz,oC];| .mp e,h=>by simp_all[AV.TP,δz,oC];| .fn f a b,h=>by simp only[AV.TP,θ] at h;simp[δz,vx k a h.1,vx k b h.2]
theorem vx (k:Nat):∀(d:List AV),dF k d=true->gU (oC k) d=some d
 |[],_=>rfl
 |c::d,h=>by simp only[dF,θ] at h;simp[gU,AG k c h.1,vx k d h.2]
end
theorem Ps {k:Nat} {cs:List AV}:dF k cs=true↔∀c∈cs,c.TP k=true:=by
 induction cs<;>grind[dF]
theorem Pr (k:Nat) (id a:Nat) (h:oC k id=some a):Tr o σ (o.take k) (σ.take k) id a:=by
 unfold oC at h;split at h
 ·rename_i i;injection h with h;subst h;refine⟨λf e j b g=>⟨f,e,b,by simp_all,rfl⟩,λ⟨d,c,b,g⟩=>⟨d,c,b,by simp_all⟩,by simp_all⟩
 ·cases h
theorem Pq (k:Nat) (b:Nat) (h:Fr A σ b):Fr A (σ.take k) b:=by
 refine⟨?_,h.2⟩;rintro⟨i,c,a⟩;rw[δj] at a;split at a;·exact h.1 ⟨i,c,a⟩
 ·cases a
theorem nA.take {k:Nat} {c:AV} {v:Value} (h:nA A w σ o c v) (a:c.TP k=true):nA A w (σ.take k) (o.take k) c v:=
 nA.bH (λb _ d=>Pq k b d) (Pr k) c v c (AG k c a) h
theorem Zn {k:Nat} {x:OL} (h:x.TP k=true):x.bH (oC k)=some x:=by
 cases x with
 |dead=>rfl;|cells g e i c=>
  grind[OL.TP,OL.bH,vx];|map a f c=>
  simp only[OL.TP,δo] at h;simp only[OL.bH];split;·rfl
  ·rename_i b;have d:=h.resolve_left b;have:np (oC k) a=some a:=by
    clear h b;induction a<;>grind[dF,np,AG]
   rw[this];rfl
theorem OM.take (e:OM A w σ o) {k:Nat} (n:∀x∈o.take k,x.TP k=true):OM A w (σ.take k) (o.take k):=by
 have a:∀(i:Nat) (s:Option (Nat×Nat)),(σ.take k)[i]?=some s->σ[i]?=some s:=by
  grind
 refine⟨by simp[e.len],λi j b c d g m=>e.dist i j b c d (a _ _ g) (a _ _ m),λi b c g=>e.dZ i b c (a _ _ g),λi x f=>?_,λi b c g=>e.av i b c (a _ _ g),e.avb⟩;have h:=f;rw[δj] at f;split at f
 ·rename_i p;exact cP.bH (λb _ l=>Pq k b l) (Pr k) (Zn (n x (γe h))) (by simp_all) (e.obj i x f)
 ·cases f
theorem Ext.take {v:World} {j:TM} {u:a_} (h:Ext v j u w σ o) {k:Nat} (C:u.length<=k):Ext v j u w (σ.take k) (o.take k) where
 size:=h.size;blk:=λb z B=>by
  obtain⟨g,p⟩:=h.blk b z B;refine⟨g,?_⟩;rintro⟨i,c,q⟩;rw[δj] at q;split at q;·exact p ⟨i,c,q⟩
  ·cases q
 len:=by have:=h.len;simp;omega
 cur:=λm t l=>by
  obtain⟨g,p⟩:=h.cur m t l;have d:m<k:=by
   obtain⟨r,e,n,a,f,_⟩:=l;grind
  refine⟨?_,λn A=>?_⟩
  ·obtain⟨r,e,n,a,f,s⟩:=g;exact⟨r,e,n,a,by simp_all,s⟩
  ·rw[δB d];refine p n ?_;obtain⟨r,e,a,f,s⟩:=A;rw[δB d] at f;exact⟨r,e,a,f,s⟩
 isMap:=λm l=>by
  obtain⟨g,p⟩:=h.isMap m l;have d:m<k:=by
   obtain⟨x,y,a,f⟩:=l;grind
  refine⟨?_,by simp_all⟩;obtain⟨x,y,a,f⟩:=g;exact⟨x,y,a,by simp_all⟩
 os:=h.os;tape:=h.tape;output:=h.output
mutual
theorem nA.TP {k:Nat} (g:∀i x,k<=i->o[i]?=some x->x.lV=true):∀(c:AV) (v:Value),nA A w σ o c v->c.TP k=true
 | .ud,_,_| .sc _,_,_| .sl _ _,_,_| .ep _ _,_,_| .ifc _ _,_,_=>rfl
 | .agg d,v,h=>by simp only[nA] at h;obtain⟨l,_,j⟩:=h;simp only[AV.TP];exact Aq.TP g d _ j;| .Gz d,v,h=>by simp only[nA] at h;obtain⟨l,_,j⟩:=h;simp only[AV.TP];exact Aq.TP g d _ j;| .ptr n _ _,v,h=>by
  simp only[nA] at h;obtain⟨⟨d,e,s,m,p,_⟩,_⟩:=h;simp only[AV.TP,decide_eq_true_eq];grind[OL.lV];| .os n _ _ _,v,h=>by
  simp only[nA] at h;obtain⟨⟨d,e,s,m,p,_⟩,_⟩:=h;simp only[AV.TP,decide_eq_true_eq];grind[OL.lV];| .mp n,v,h=>by
  simp only[nA] at h;obtain⟨⟨B,z,m,p⟩,_⟩:=h;simp only[AV.TP,decide_eq_true_eq];grind[OL.lV];| .fn f a b,v,h=>by simp only[nA] at h;obtain⟨x,y,_,u,q⟩:=h;simp only[AV.TP,θ];exact⟨Aq.TP g a _ u,Aq.TP g b _ q⟩
theorem Aq.TP {k:Nat} (g:∀i x,k<=i->o[i]?=some x->x.lV=true):∀(d:List AV) (l:List Value),Aq A w σ o d l->dF k d=true
 |[],_,_=>rfl
 |c::d,l,h=>by
  simp only[Aq] at h;obtain⟨v,r,_,t,j⟩:=h;simp only[dF,θ];exact⟨nA.TP g c v t,Aq.TP g d r j⟩
end
theorem cP.TP {k i:Nat} {x:OL} (n:∀i x,k<=i->o[i]?=some x->x.lV=true) (h:cP A w σ o i x):x.TP k=true:=by
 cases x with
 |dead=>rfl;|cells t e s g=>
  simp only[cP] at h;simp only[OL.TP,δo];right;refine Ps.2 λc a=>?_;obtain⟨j,f⟩:=γH a;grind[nA.TP];|map r p g=>
  simp only[cP] at h;obtain⟨_,_,b,c,m,l,_,_,_,q⟩:=h;simp only[OL.TP,δo];right;refine Ps.2 λc a=>?_;obtain⟨e,d,rfl⟩:=List.mem_map.1 a;obtain⟨j,f⟩:=γH d;grind[nA.TP]
theorem Zm {n i:Nat} {x:OL} (h:(fw n)[i]?=some x):x= .dead:=by
 grind[fw]
theorem OM.fw (f:OM A w σ o) (n:Nat):OM A w (σ++δ n none) (o++fw n)/\Ext w σ o w (σ++δ n none) (o++fw n):=by
 have g:∀(i:Nat) (b c:Nat),(σ++δ n none)[i]?=some (some (b,c))->σ[i]?=some (some (b,c)):=by
  grind
 have v:Ext w σ o w (σ++δ n none) (o++Go.Vi.fw n):=by
  refine⟨ξ _,λb _ F=>⟨rfl,λ⟨i,c,h⟩=>F ⟨i,c,g i b c h⟩⟩,by simp,λK I q=>?_,λK q=>?_,rfl,rfl,rfl⟩
  ·obtain⟨H,e,G,m,s,C⟩:=q;have a:=(ζ.1 s).1;refine⟨⟨H,e,G,m,by grind,C⟩,λB D=>⟨?_,by rw[δa (by rw[f.len];exact a)]⟩⟩;obtain⟨p,J,u,l,t⟩:=D;rw[δa a] at l;exact⟨p,J,u,l,t⟩
  ·obtain⟨z,y,m,s⟩:=q;have a:=(ζ.1 s).1;exact⟨⟨z,y,m,by grind⟩,by rw[δa (by rw[f.len];exact a)]⟩
 refine⟨⟨by simp[Go.Vi.fw,f.len],λi j b c d h E=>f.dist i j b c d (g _ _ _ h) (g _ _ _ E),λi b c h=>f.dZ i b c (g _ _ _ h),λi x k=>?_,λi b c h=>f.av i b c (g _ _ _ h),f.avb⟩,v⟩;rw[List.getElem?_append] at k;split at k
 ·rename_i a;exact(f.obj i x k).ext v (by rw[δa (by rw[f.len];exact a)]) λ_ _ _=>rfl
 ·rename_i a;have:=Zm k;subst this;simp only[cP];have r:=(ζ.1 k).1;simp[Go.Vi.fw] at r;rw[ε8 (by rw[f.len];omega),List.getElem?_replicate,if_pos (by rw[f.len];omega)]
theorem Zl (f:OM A w σ o) (k:Nat):∃b,OM A w b (pT k o)/\(∀c v,nA A w σ o c v->nA A w b (pT k o) c v)/\
  ∀(e:World) (a:TM) (d:a_),d.length<=k->Ext e a d w σ o->Ext e a d w b (pT k o):=by
 unfold pT;split
 ·rename_i h;have g:∀i x,k<=i->o[i]?=some x->x.lV=true:=by
   intro i x r l;refine List.all_eq_true.1 h x (γe (i:=i - k) ?_);simp_all
  refine⟨σ.take k,f.take λx l=>?_,λc v m=>m.take (nA.TP g c v m),λe a d q p=>p.take q⟩;obtain⟨j,n⟩:=γH (γl l);exact cP.TP g (f.obj j x n)
 ·exact⟨σ,f,λ_ _ h=>h,λ_ _ _ _ h=>h⟩
end
def jB (P:Program) (f:FuncId) (args:List AV) (o:a_) (r:AV) (o':a_):Prop:=
 ∀(A:dc) (w:World) (b:TM) (d:List Value),OM A w b o->Aq A w b o args d->
  Calls P f d.toArray w λe c=>∃u a,e= .returned u/\OM A c a o'/\nA A c a o' r u/\Ext w b o c a o'
def nT (P:Program) (call:cy):Prop:=
 ∀f a o b r c,call f a o b=some (r,c)->fU P f=true/\jB P f a o r c/\(b=false->c=[])
section
variable {P:Program} {A B:dc} {w w':World} {σ σ':TM} {o o':a_}
theorem AF {d e:Type} {f:d->Option e}:∀{l:List d} {c:List e},l.mapM f=some c->c.length=l.length/\∀(j:Nat) (a:d),l[j]?=some a->∃b,c[j]?=some b/\f a=some b
 |[],c,h=>by simp_all;|a::l,c,h=>by
  rw[εR] at h;cases g:f a with
  |none=>simp[g] at h;|some b=>
   cases i:l.mapM f with
   |none=>simp_all;|some r=>
    simp[g,i] at h;subst h;obtain⟨m,k⟩:=AF i;grind
theorem yh {f:AV->Option AV} {cs a:List AV} {vs:List Value} (h:cs.mapM f=some a) (e:Aq A w σ o cs vs) (n:∀c∈cs,∀d v,f c=some d->nA A w σ o c v->nA B w σ' o' d v):Aq B w σ' o' a vs:=by
 obtain⟨p,m⟩:=AF h;have q:=Aq.length _ _ e;refine Aq.kg _ _ (by omega) λj d k=>?_;have g:j<cs.length:=by grind
 obtain⟨v,r,i⟩:=Aq.get _ _ e j _ (μ g);obtain⟨b,s,l⟩:=m j _ (μ g);grind
theorem Hp [anO A B] (hS:OM A w σ o) (hB:∀b,b<w.heap.size->Fr A σ b->¬B b):∀(d:Nat) (a Q:AV) (u:Value),freeze o d a=some Q->(∀id∈eG o d a,∀b c,σ[id]?=some (some (b,c))->¬B b)->
  nA A w σ o a u->nA B w [] [] Q u:=by
 have F:∀b,b<w.heap.size->Fr A σ b->Fr B [] b:=λb z f=>⟨λ⟨i,c,E⟩=>by simp at E,hB b z f⟩;have M:∀id t,(λ_:Nat=>(none:Option Nat)) id=some t->Tr o σ [] [] id t:=λ_ _ h=>by cases h
 intro d;induction d with
 |zero=>
  intro a Q u f _ s;cases a<;>simp only[freeze,reduceCtorEq,γ] at f;·grind[nA]
  ·rename_i v;split at f
   ·injection f with f;subst f;have:=fN s;subst this;simp only[nA,cH];exact⟨none,0,rfl,ξ _,rfl,trivial⟩
   grind[nA]
  ·subst f;exact nA.bH F M _ _ _ rfl s
  ·subst f;exact nA.bH F M _ _ _ rfl s;|succ d ih=>
  intro a Q u f ht s;cases a<;>simp only[freeze,reduceCtorEq,γ] at f;·grind[nA]
  ·rename_i v;split at f
   ·injection f with f;subst f;have:=fN s;subst this;simp only[nA,cH];exact⟨none,0,rfl,ξ _,rfl,trivial⟩
   grind[nA]
  ·rename_i C;obtain⟨I,h1,rfl⟩:=ε.1 f;grind[nA,yh,eG]
  ·rename_i C;obtain⟨I,h1,rfl⟩:=ε.1 f;grind[nA,yh,eG]
  ·subst f;exact nA.bH F M _ _ _ rfl s
  ·
   rename_i id q r a3;split at f
   ·rename_i C e R pu T;split at f
    ·rename_i y;obtain⟨D,P⟩:=y;simp only[nA] at s;obtain⟨a5,X,O,rfl,J,G⟩:=s;have Z:=G R ⟨C,e,pu,T,D⟩;have L:=hS.obj id _ T;simp only[cP] at L;obtain⟨q1,q2,q3⟩:=L;have k:∀(j:Nat) (c:AV),((C.drop q).take (r*R))[j]?=some c->∃(p:Addr) (v:Value),X=some p/\¬B p.block/\w.cell? (p.add j)=some v/\nA A w σ o c v:=by
      intro j c n;rw[δj] at n;split at n
      ·rename_i S;rw[δA] at n;have a1:0<r:=by
        grind
       unfold j3 at Z;split at Z;·omega
       ·rename_i b c2 K;rcases q3 with⟨h0,_⟩|⟨b',a0,a4,U,_,r3,_,_,r6⟩;·simp_all
        ·rw[K] at U;simp only[γ,ι] at U;obtain⟨rfl,rfl⟩:=U;obtain⟨v,hv,m⟩:=r6 _ c n;refine⟨⟨b,q,none⟩,v,(by grind[nV]),ht id (by simp[eG]) b c2 K,?_,m⟩;grind[G7,World.cell?]
       simp_all
      ·cases n
     split at f
     ·rename_i N;injection f with f;subst f;have g:cK ((C.drop q).take (r*R))=true:=rn λc n=>oD (q1 N) c (γV (γl n));simp only[nA];refine⟨X,O,rfl,J,g,cH.kg _ _ _ λj c n=>?_⟩;obtain⟨p,v,V,x,l,m⟩:=k j c n;exact⟨p,v,V,⟨λ⟨i,c,E⟩=>by simp at E,x⟩,by simpa using l,nA.bH F M c v c (AV.tq _ c (oD g c (γe n))) m⟩
     ·rename_i N;split at f
      ·rename_i I H;split at f
       ·rename_i g;injection f with f;subst f;obtain⟨m1,m2⟩:=AF H;simp only[nA];refine⟨X,O,rfl,J,g,cH.kg _ _ _ λj c' W=>?_⟩;have S:j<((C.drop q).take (r*R)).length:=by grind
        obtain⟨p,v,V,x,l,m⟩:=k j _ (μ S);obtain⟨b,z,Y⟩:=m2 j _ (μ S);rw[W] at z;injection z with z;subst z;refine⟨p,v,V,⟨λ⟨i,c,E⟩=>by simp at E,x⟩,by simpa using l,ih _ _ v Y (λt a2=>ht t ?_) m⟩;simp only[eG,T,γw];grind
       ·cases f
      ·cases f
    ·cases f
   ·cases f
  ·grind[nA,anO.eq,yh,eG]
  ·subst f;exact nA.bH F M _ _ _ rfl s
theorem OM.I0 (f:OM A w σ o) (e:Ext w [] [] w' σ' o'):OM A w' σ o/\Ext w σ o w' σ o:=by
 have a:∀b,b<w.heap.size->w'.heap[b]?=w.heap[b]?:=λb d=>(e.blk b d λ⟨i,c,l⟩=>by simp at l).1;have g:Ext w σ o w' σ o:=⟨e.size,λb d k=>⟨a b d,k⟩,ξ _,λ_ _ h=>⟨h,λ_ h=>⟨h,rfl⟩⟩,λ_ h=>⟨h,rfl⟩,e.os,e.tape,e.output⟩;exact⟨⟨f.len,f.dist,λi b c h=>γj (f.dZ i b c h) e.size,λi x j=>(f.obj i x j).ext g rfl λb c d=>a b (f.dZ i b c d),f.av,λb d=>γj (f.avb b d) e.size⟩,g⟩
mutual
theorem Pp:∀(r:AV) (u:Value),r.kh=true->nA A w σ o r u->nA B w' σ' o' r u
 | .ud,_,_,_=>by simp[nA];| .sc v,u,_,h=>by grind[nA];| .agg b,u,a,h=>by
  simp only[AV.kh] at a;simp only[nA] at h ⊢;obtain⟨d,rfl,e⟩:=h;exact⟨d,rfl,Ho b _ a e⟩;| .Gz b,u,a,h=>by
  simp only[AV.kh] at a;simp only[nA] at h ⊢;obtain⟨d,rfl,e⟩:=h;exact⟨d,rfl,Ho b _ a e⟩;| .sl n b,u,a,h=>by
  grind[AV.kh,nA,cH];| .ep _ _,_,a,_| .ptr _ _ _,_,a,_| .os _ _ _ _,_,a,_| .mp _,_,a,_| .fn _ _ _,_,a,_| .ifc _ _,_,a,_=>by simp[AV.kh] at a
theorem Ho:∀(b:List AV) (d:List Value),tG b=true->Aq A w σ o b d->Aq B w' σ' o' b d
 |[],d,_,h=>by grind[Aq];|c::b,d,a,h=>by
  simp only[tG,θ] at a;simp only[Aq] at h ⊢;obtain⟨v,r,rfl,f,e⟩:=h;exact⟨v,r,rfl,Pp c v a.1 f,Ho b r a.2 e⟩
end
theorem yg (w:World) (a:∀b,A b->b<w.heap.size):OM A w [] []:=⟨rfl,by simp,by simp,by simp,by simp,a⟩
theorem Zk {call:cy} (q:nT P call) (n:OM A w σ o) {f:FuncId} {args a:List AV} {vs:List Value} (N:Aq A w σ o args vs) (K:args.mapM (freeze o 6)=some a) {r:AV}
  (X:call f a [] false=some (r,[])) (y:(args.flatMap (eG o 6)).isEmpty=true\/r.kh=true):
  fU P f=true/\Calls P f vs.toArray w λe w'=>∃u g,e= .returned u/\OM A w' g o/\nA A w' g o r u/\Ext w σ o w' g o:=by
 obtain⟨S,C,_⟩:=q _ _ _ _ _ _ X;refine⟨S,?_⟩;rcases y with y|y;·
  let B:dc:=⟨λb=>A b\/Own σ b,A.l⟩;have Q:∀b,B b->b<w.heap.size:=λb z=>Or.elim (show A b\/Own σ b from z) (n.avb b) λ⟨i,c,V⟩=>n.dZ i b c V;haveI:anO A B:=⟨rfl⟩;haveI:anO B A:=⟨rfl⟩;have j:Aq B w [] [] a vs:=yh K N λc E J v s t=>Hp n (λb _ d z=>Or.elim (show A b\/Own σ b from z) d.2 d.1) 6 c J v s (λI U=>by
   simp_all) t;refine(C B w [] vs (yg w Q) j).mono ?_;rintro e w' ⟨u,g,rfl,F,p,G⟩;obtain⟨M,L⟩:=n.I0 G;refine⟨u,σ,rfl,M,?_,L⟩;have D:r.TP 0=true:=nA.TP (k:=0) (λi x _ W=>by simp at W) r u p;refine nA.bH (m:=oC 0) (λb z d=>⟨λR=>d.2 (show A b\/Own σ b from .inr R),λT=>d.2 (show A b\/Own σ b from .inl T)⟩) (λI O h=>by grind[oC]) r u r (AG 0 r D) p
 ·have j:Aq A w [] [] a vs:=yh K N λc E J v s t=>Hp n (λb _ d z=>d.2 z) 6 c J v s (λI _ b Y H=>n.av I b Y H) t;refine(C A w [] vs (yg w n.avb) j).mono ?_;rintro e w' ⟨u,g,rfl,F,p,G⟩;obtain⟨M,L⟩:=n.I0 G;grind[Pp]
end
section
variable {A:dc} {w:World} {σ:TM} {o:a_}
def iM (o:a_) (p:Nat->Bool) (i:Nat):Bool:=p i&&(match o[i]? with|some (.cells _ _ _ true)=>true|_=>false)
def kG (o:a_) (p:Nat->Bool) (σ:TM):TM:=(ω σ.length).map λi=>if iM o p i then none else(σ[i]?).getD none
theorem Hn (o:a_) (p:Nat->Bool) (σ:TM):(kG o p σ).length=σ.length:=by simp[kG]
theorem Hm {o:a_} {p:Nat->Bool} {σ:TM} {i:Nat} (a:i<σ.length):(kG o p σ)[i]?=some (if iM o p i then none else(σ[i]?).getD none):=by
 simp[kG,a]
theorem tp {o:a_} {p:Nat->Bool} {σ:TM} {i:Nat} {s:Nat×Nat} (h:(kG o p σ)[i]?=some (some s)):σ[i]?=some (some s)/\iM o p i=false:=by
 have a:i<σ.length:=by grind[Hn]
 simp_all[Hm]
theorem Po {o:a_} {p:Nat->Bool} {σ:TM} {i:Nat} (h:iM o p i=false):(kG o p σ)[i]?=σ[i]?:=by
 grind[Hm,Hn]
def Hl (p:Nat->Bool) (i:Nat):OL->OL
 | .cells b e a true=>if p i then .dead else .cells b e a true
 |x=>x
theorem AE (p:Nat->Bool):∀(o:a_) (k i:Nat),(e_ p k o)[i]?=(o[i]?).map (Hl p (k+i))
 |[],k,i=>by simp[e_];|x::r,k,i=>by
  simp only[e_];cases i with
  |zero=>simp only[List.getElem?_cons_zero,ν,Nat.add_zero];congr 1;|succ i=>simp only[γO];rw[AE p r (k+1) i,show k+1+i=k+(i+1) from by omega]
theorem Pn {p:Nat->Bool} {a:a_}:∀{o o':a_},iQ a p o=some o'->o'.length=o.length/\∀(i:Nat) (x:OL),o[i]?=some x->∃y,x.Q5 a p=some y/\o'[i]?=some y
 |[],o',h=>by grind[iQ];|x::r,o',h=>by
  simp only[iQ] at h;split at h
  ·rename_i y l e b;injection h with h;subst h;obtain⟨d,c⟩:=Pn b;grind
  ·cases h
theorem Hk {o:a_} {p:Nat->Bool}:∀{cs a:List AV},gf o p cs=some a->a.length=cs.length/\∀(j:Nat) (b:AV),a[j]?=some b->∃c,cs[j]?=some c/\c.Q5 o p=some b
 |[],a,h=>by grind[gf];|c::cs,a,h=>by
  simp only[gf] at h;split at h
  ·rename_i k e f d;injection h with h;subst h;obtain⟨i,g⟩:=Hk d;grind
  ·cases h
theorem PT {o:a_} {p:Nat->Bool}:∀{es a:List (Value×AV)},oG o p es=some a->a.length=es.length/\∀(j:Nat) (b:Value×AV),a[j]?=some b->∃e,es[j]?=some e/\e.1=b.1/\e.2.Q5 o p=some b.2
 |[],a,h=>by grind[oG];|e::es,a,h=>by
  simp only[oG] at h;split at h
  ·rename_i v d f c;injection h with h;subst h;obtain⟨g,i⟩:=PT c;grind
  ·cases h
theorem PS {o:a_} {p:Nat->Bool}:∀{env a:iR},tE o p env=some a->∀s,(cX env s).Q5 o p=some (cX a s)
 |[],a,h,s=>by simp only[tE,γ] at h;subst h;rfl;|(k,v)::r,a,h,s=>by
  simp only[tE] at h;split at h
  ·rename_i e d b c;injection h with h;subst h;simp only[cX];cases f:Nat.beq k s with
   |true=>exact b;|false=>exact PS c s
  ·cases h
mutual
theorem AV.PR (o:a_) (p:Nat->Bool):∀(c:AV),c.pure=true->c.Q5 o p=some c
 | .sc _,_=>rfl
 | .sl _ _,_=>rfl
 | .ud,h| .agg _,h| .Gz _,h| .ep _ _,h| .ptr _ _ _,h| .os _ _ _ _,h| .mp _,h| .fn _ _ _,h| .ifc _ _,h=>by simp[AV.pure] at h
end
theorem Zj {o:a_} {p:Nat->Bool} {c a:AV} (h:c.Q5 o p=some a) (b:c.one=true):a.one=true:=by
 cases c<;>simp only[AV.one,φ] at b<;>simp only[AV.Q5] at h<;>grind[AV.one,AV.Q5]
structure so (o:a_) (p:Nat->Bool) (o2:a_):Prop where
 len:o2.length=o.length
 get:∀i x,o[i]?=some x->(iM o p i=true/\o2[i]?=some .dead)\/(iM o p i=false/\∃y,x.Q5 o p=some y/\o2[i]?=some y)
theorem PQ {o a:a_} {p:Nat->Bool} (h:iQ o p o=some a):so o p (e_ p 0 a):=by
 obtain⟨k,l⟩:=Pn h;have n:(e_ p 0 a).length=o.length:=by
  rw[<-k];apply Nat.le_antisymm
  ·rcases ζd a.length (e_ p 0 a).length with h|h
   ·exfalso;have:=AE p a 0 a.length;simp_all
   ·exact h
  ·rcases ζd (e_ p 0 a).length a.length with h|h
   ·exfalso;have:=AE p a 0 (e_ p 0 a).length;simp_all
   ·exact h
 refine⟨n,λi x j=>?_⟩;obtain⟨y,b,f⟩:=l i x j;have d:=AE p a 0 i;rw[f,Nat.zero_add] at d;simp only[ν] at d;unfold iM;rw[j];cases x with
 |cells s e q g=>
  cases g with
  |true=>
   simp only[OL.Q5,if_true,γ] at b;grind[Hl];|false=>
   right;simp only[OL.Q5,φ,if_false,ε] at b;grind[Hl]
 |dead=>
  simp only[OL.Q5,γ] at b;subst b;right;exact⟨by simp,_,rfl,d⟩;|map r m g=>
  right;have:∃c,y= .map c m g:=by
   simp only[OL.Q5] at b;split at b;·grind
   ·obtain⟨c,_,rfl⟩:=ε.1 b;simp_all
  obtain⟨c,rfl⟩:=this;exact⟨by simp,_,b,d⟩
theorem so.tr {o2:a_} {p:Nat->Bool} (h:so o p o2) {id:Nat} (m:iM o p id=false):Tr o σ o2 (kG o p σ) id id:=by
 refine⟨λn e q d c=>?_,λ⟨l,g,d,c⟩=>?_,Po m⟩
 ·rcases h.get id _ c with⟨i,_⟩|⟨_,y,a,b⟩;·simp_all
  ·simp only[OL.Q5] at a;split at a;·grind
   ·obtain⟨k,j,rfl⟩:=ε.1 a;grind[Hk]
 ·rcases h.get id _ c with⟨i,_⟩|⟨_,y,a,b⟩;·simp_all
  ·simp only[OL.Q5] at a;split at a;·injection a with a;subst a;exact⟨l,g,d,b⟩
   ·obtain⟨f,j,rfl⟩:=ε.1 a;exact⟨f,g,d,b⟩
theorem tn {p:Nat->Bool} {b:Nat} (h:Fr A σ b):Fr A (kG o p σ) b:=⟨λ⟨i,c,a⟩=>h.1 ⟨i,c,(tp a).1⟩,h.2⟩
mutual
theorem nA.Q5 (E:OM A w σ o) {p:Nat->Bool} {o2:a_} (D:so o p o2):∀(c:AV) (v:Value) (q:AV),c.Q5 o p=some q->nA A w σ o c v->nA A w (kG o p σ) o2 q v
 | .ud,v,q,d,_=>by grind[AV.Q5,nA];| .sc u,v,q,d,h=>by grind[AV.Q5,nA];| .sl n s,v,q,d,h=>by
  simp only[AV.Q5,γ] at d;subst d;exact nA.bH (m:=λ_=>none) (λb _ z=>tn z) (λ_ _ h=>by cases h) _ _ _ rfl h;| .ep s B,v,q,d,h=>by
  simp only[AV.Q5,γ] at d;subst d;exact nA.bH (m:=λ_=>none) (λb _ z=>tn z) (λ_ _ h=>by cases h) _ _ _ rfl h;| .agg s,v,q,d,h=>by
  simp only[AV.Q5,ε] at d;obtain⟨k,K,rfl⟩:=d;simp only[nA] at h ⊢;obtain⟨F,rfl,Q⟩:=h;exact⟨F,rfl,Aq.Q5 E D s _ k K Q⟩;| .Gz s,v,q,d,h=>by
  simp only[AV.Q5,ε] at d;obtain⟨k,K,rfl⟩:=d;simp only[nA] at h ⊢;obtain⟨F,rfl,Q⟩:=h;exact⟨F,rfl,Aq.Q5 E D s _ k K Q⟩;| .ptr l B G,v,q,d,h=>by
  have H:iM o p l=false/\q= .ptr l B G:=by
   grind[iM,AV.Q5]
  obtain⟨H,rfl⟩:=H;exact nA.bH (m:=λi=>if i=l then some l else none) (λb _ z=>tn z) (λi j g=>by
   split at g;·rename_i M;injection g with g;subst M;subst g;exact D.tr H
   ·cases g) _ _ _ (by simp[δz]) h;| .mp l,v,q,d,h=>by
  simp only[AV.Q5,γ] at d;subst d;have H:iM o p l=false:=by
   simp only[nA] at h;obtain⟨⟨es,kt,pu,S⟩,_⟩:=h;simp[iM,S]
  exact nA.bH (m:=λi=>if i=l then some l else none) (λb _ z=>tn z) (λi j g=>by
   split at g;·rename_i M;injection g with g;subst M;subst g;exact D.tr H
   ·cases g) _ _ _ (by simp[δz]) h;| .fn f a b,v,q,d,h=>by
  simp only[AV.Q5] at d;split at d
  ·rename_i a' b' K h2;injection d with d;subst d;simp only[nA] at h ⊢;obtain⟨x,y,rfl,hx,hy⟩:=h;exact⟨x,y,rfl,Aq.Q5 E D a _ a' K hx,Aq.Q5 E D b _ b' h2 hy⟩
  ·cases d;| .ifc t s,v,q,d,h=>by
  simp only[AV.Q5,γ] at d;subst d;exact nA.bH (m:=λ_=>none) (λb _ z=>tn z) (λ_ _ h=>by cases h) _ _ _ rfl h;| .os l B L G,v,q,d,h=>by
  have a3:iM o p l=false->q= .os l B L G->nA A w (kG o p σ) o2 q v:=by
   rintro H rfl;exact nA.bH (m:=λi=>if i=l then some l else none) (λb _ z=>tn z) (λi j g=>by
    split at g;·rename_i M;injection g with g;subst M;subst g;exact D.tr H
    ·cases g) _ _ _ (by simp[δz]) h
  simp only[AV.Q5] at d;split at d
  ·rename_i hp;split at d
   ·rename_i s e sz pu S;split at d
    ·rename_i V;subst V;split at d
     ·rename_i J;injection d with d;subst d;obtain⟨N,R⟩:=J;have a4:iM o p l=true:=by grind[iM]
      simp only[nA] at h;obtain⟨a6,X,Y,rfl,W,O⟩:=h;have hk:=O sz ⟨s,e,true,S,N⟩;have P:=E.obj l _ S;simp only[cP] at P;obtain⟨q1,q2,q3⟩:=P;have C:cK ((s.drop B).take (L*sz))=true:=rn λc d=>oD (q1 trivial) c (γV (γl d));simp only[nA];refine⟨X,Y,rfl,W,C,cH.kg _ _ _ λj c d=>?_⟩;have a0:=oD C c (γe d);rw[δj] at d;split at d
      ·rename_i hj;rw[δA] at d;have a2:0<L:=by
        grind
       unfold j3 at hk;split at hk;·omega
       ·rename_i b c2 I;rcases q3 with⟨M,_⟩|⟨b',a1,a5,T,_,r3,_,_,r6⟩;·simp_all
        ·rw[I] at T;simp only[γ,ι] at T;obtain⟨rfl,rfl⟩:=T;obtain⟨u,hu,U⟩:=r6 _ c d;refine⟨⟨b,B,none⟩,u,(by grind[nV]),⟨?_,E.av l b c2 I⟩,?_,?_⟩
         ·rintro⟨i,c3,hi⟩;obtain⟨k1,k2⟩:=tp hi;have:=E.dist l i b c2 c3 I k1;simp_all
         ·grind[G7,World.cell?]
         ·exact nA.bH (m:=λ_=>none) (λb _ z=>tn z) (λ_ _ h=>by cases h) c u c (AV.tq _ c a0) U
       simp_all
      ·cases d
     ·cases d
    grind[iM]
   grind[iM]
  grind[iM]
theorem Aq.Q5 (E:OM A w σ o) {p:Nat->Bool} {o2:a_} (D:so o p o2):∀(s:List AV) (F:List Value) (k:List AV),gf o p s=some k->Aq A w σ o s F->Aq A w (kG o p σ) o2 k F
 |[],F,k,d,h=>by grind[gf,Aq];|c::s,F,k,d,h=>by
  simp only[gf] at d;split at d
  ·rename_i c1 Z K h2;injection d with d;subst d;simp only[Aq] at h ⊢;obtain⟨v,r,rfl,hv,Q⟩:=h;exact⟨v,r,rfl,nA.Q5 E D c v c1 K hv,Aq.Q5 E D s r Z h2 Q⟩
  ·cases d
end
end
section
variable {A:dc} {w:World} {σ:TM} {o:a_}
theorem cP.Q5 (hS:OM A w σ o) {p:Nat->Bool} {o2:a_} (hF:so o p o2) {i:Nat} {x y:OL} (hx:o[i]?=some x) (hd:iM o p i=false) (hy:x.Q5 o p=some y):cP A w (kG o p σ) o2 i y:=by
 have h:=hS.obj i x hx;have hσ:=Po (σ:=σ) hd;cases x with
 |dead=>simp only[OL.Q5,γ] at hy;subst hy;simp only[cP] at h ⊢;rw[hσ];exact h;|cells cs e sz pu=>
  simp only[cP] at h;obtain⟨h1,h2,h3⟩:=h;have key:∀cs',cs'.length=cs.length->(pu=true->cK cs'=true)->dP cs'=true->(∀(j:Nat) (c':AV) (v:Value),cs'[j]?=some c'->(∀c,cs[j]?=some c->nA A w σ o c v->nA A w (kG o p σ) o2 c' v))->cP A w (kG o p σ) o2 i (.cells cs' e sz pu):=by
   intro cs' k1 k2 k3 k4;simp only[cP];refine⟨k2,k3,?_⟩;rcases h3 with⟨h0,h0'⟩|⟨b,cap,arr,r1,r2,r3,r4,r5,r6⟩;·left;rw[hσ];exact⟨h0,τ (by rw[k1,h0'];rfl)⟩
   ·refine .inr ⟨b,cap,arr,by rw[hσ];exact r1,r2,r3,r4,by omega,λj c' hj=>?_⟩;have hjl:j<cs.length:=by have:=(ζ.1 hj).1;omega
    obtain⟨v,hv,hr⟩:=r6 j _ (μ hjl);exact⟨v,hv,k4 j c' v hj _ (μ hjl) hr⟩
  simp only[OL.Q5] at hy;split at hy
  ·rename_i hpu;injection hy with hy;subst hy;refine key cs rfl h1 h2 λj c' v hj c hc hr=>?_;rw[hj] at hc;injection hc with hc;subst hc;exact nA.Q5 hS hF c' v c' (AV.PR o p c' (oD (h1 hpu) c' (γe hj))) hr
  ·rename_i hpu;obtain⟨cs',hc',rfl⟩:=ε.1 hy;obtain⟨g1,g2⟩:=Hk hc';refine key cs' g1 (λhp=>absurd hp hpu) (lR.2 λc hc=>?_) λj c' v hj c hc hr=>?_
   ·obtain⟨j,hj⟩:=γH hc;obtain⟨c0,q1,q2⟩:=g2 j c hj;exact Zj q2 (lR.1 h2 c0 (γe q1))
   ·obtain⟨c0,q1,q2⟩:=g2 j c' hj;rw[hc] at q1;injection q1 with q1;subst q1;exact nA.Q5 hS hF c v c' q2 hr;|map es kt pu=>
  simp only[cP] at h;obtain⟨h1,h2,b,c,en,cl,h3,h4,h5,h6⟩:=h;simp only[OL.Q5] at hy;split at hy
  ·rename_i hpu;injection hy with hy;subst hy;simp only[cP];refine⟨h1,h2,b,c,en,cl,by rw[hσ];exact h3,h4,h5,λj e he=>?_⟩;obtain⟨m',q1,q2,q3⟩:=h6 j e he;exact⟨m',q1,q2,nA.Q5 hS hF e.2 _ e.2 (AV.PR o p e.2 (h1 hpu e (γe he))) q3⟩
  ·rename_i hpu;obtain⟨es',hc',rfl⟩:=ε.1 hy;obtain⟨g1,g2⟩:=PT hc';simp only[cP];refine⟨λhp=>absurd hp hpu,λe he=>?_,b,c,en,cl,by rw[hσ];exact h3,h4,⟨by have:=h5.1;omega,h5.2⟩,λj e' he=>?_⟩
   ·obtain⟨j,hj⟩:=γH he;obtain⟨e0,q1,q2,_⟩:=g2 j e hj;rw[<-q2];exact h2 e0 (γe q1)
   ·obtain⟨e0,q1,q2,q3⟩:=g2 j e' he;obtain⟨m',r1,r2,r3⟩:=h6 j e0 q1;exact⟨m',r1,by rw[r2,q2],nA.Q5 hS hF e0.2 _ e'.2 q3 r3⟩
theorem OM.Q5 (e:OM A w σ o) {p:Nat->Bool} {o2:a_} (g:so o p o2):OM A w (kG o p σ) o2:=by
 refine⟨by rw[Hn,g.len,e.len],λi j b c d a m=>e.dist i j b c d (tp a).1 (tp m).1,λi b c a=>e.dZ i b c (tp a).1,λi y h=>?_,λi b c a=>e.av i b c (tp a).1,e.avb⟩;have a:i<o.length:=by have:=(ζ.1 h).1;rw[g.len] at this;exact this
 have l:=μ a;rcases g.get i _ l with⟨k,f⟩|⟨k,z,f,n⟩
 ·rw[h] at f;injection f with f;subst f;simp only[cP];rw[Hm (by rw[e.len];exact a),k];rfl
 grind[cP.Q5]
theorem Ext.Q5 {t:World} {k:TM} {h:a_} (a:Ext t k h w σ o) {p:Nat->Bool} {o2:a_} (m:so o p o2) (B:∀i,i<h.length->p i=false):Ext t k h w (kG o p σ) o2 where
 size:=a.size;blk:=λb u y=>by
  obtain⟨g,j⟩:=a.blk b u y;exact⟨g,λ⟨i,c,z⟩=>j ⟨i,c,(tp z).1⟩⟩
 len:=by rw[m.len];exact a.len
 cur:=λd q l=>by
  obtain⟨g,j⟩:=a.cur d q l;have r:d<h.length:=by obtain⟨D,e,s,A,x,_⟩:=l;grind
  have n:iM o p d=false:=by grind[iM]
  have f:=m.tr (σ:=σ) n;refine⟨f.wt g,λs v=>?_⟩;rw[f.2.2];exact j s (f.cur g v)
 isMap:=λd l=>by
  obtain⟨g,j⟩:=a.isMap d l;have r:d<h.length:=by obtain⟨C,E,A,x⟩:=l;grind
  have n:iM o p d=false:=by grind[iM]
  have f:=m.tr (σ:=σ) n;exact⟨f.2.1 g,by rw[f.2.2];exact j⟩
 os:=a.os;tape:=a.tape;output:=a.output
end
def oB (o:a_) (d:Nat) (id:Nat) (acc:List Nat):List Nat:=
 if acc.contains id then acc else
 match o[id]? with
 |some (.cells b _ _ a)=>if a then acc++[id] else cd o d b (acc++[id])
 |some (.map c _ a)=>if a then acc++[id] else cd o d (c.map (·.2)) (acc++[id])
 |_=>acc++[id]
def tm (o:a_) (d:Nat) (v:AV) (acc:List Nat):List Nat:=
 match v with
 | .agg e| .Gz e=>cd o d e acc
 | .ptr c _ _| .os c _ _ _| .mp c=>oB o d c acc
 | .fn _ a b=>cd o d b (cd o d a acc)
 |_=>acc
theorem yB (o:a_) (d:Nat) (v:AV) (vs:List AV) (acc:List Nat):cd o (d+1) (v::vs) acc=cd o d vs (tm o d v acc):=by
 cases v<;>rfl
theorem yA:∀(a:List Nat) (o X:a_),(kK o a X).length=o.length
 |[],o,X=>by cases X<;>rfl;|i::r,o,[]=>rfl
 |i::r,o,x::l=>by simp only[kK];rw[yA r];simp
theorem AD:∀(a:List Nat) (o X:a_) (j:Nat),j∉a->(kK o a X)[j]?=o[j]?
 |[],o,X,j,_=>by cases X<;>rfl;|i::r,o,[],j,_=>rfl
 |i::r,o,x::l,j,h=>by
  simp only[γw,not_or] at h;simp only[kK];rw[AD r _ l j h.2,List.getElem?_set_ne (Ne.symm h.1)]
theorem Gt {m:Nat->Option Nat}:∀{o o':a_},qD m o=some o'->o'.length=o.length
 |[],o',h=>by grind[qD];|x::r,o',h=>by
  simp only[qD] at h;split at h;·rename_i y l b a;injection h with h;subst h;simp[Gt a]
  ·cases h
theorem rY (o:a_):∀(d:Nat) (vs:List AV) (acc:List Nat),∃t,cd o d vs acc=acc++t
 |0,vs,acc=>⟨[],by grind[cd]⟩
 |d+1,[],acc=>⟨[],by simp[cd]⟩
 |d+1,v::vs,acc=>by
  rw[yB];have e:∀c,∃t,oB o d c acc=acc++t:=by
   intro c;unfold oB;split;·simp_all
   ·split
    ·split;·simp_all
     ·obtain⟨t,h⟩:=rY o d ‹_› (acc++[c]);simp_all
    ·split;·simp_all
     ·rename_i m _ _ _ _;obtain⟨t,h⟩:=rY o d (m.map (·.2)) (acc++[c]);simp_all
    simp_all
  have j:∃t,tm o d v acc=acc++t:=by
   cases v with
   |agg g=>exact rY o d g acc;|Gz g=>exact rY o d g acc;|ptr c _ _=>exact e c;|os c _ _ _=>exact e c;|mp c=>exact e c;|fn f a b=>
    obtain⟨i,n⟩:=rY o d a acc;obtain⟨l,p⟩:=rY o d b (acc++i);grind[tm];|_=>exact⟨[],by simp[tm]⟩
  obtain⟨t,h⟩:=j;obtain⟨l,k⟩:=rY o d vs (acc++t);simp_all
theorem vu:∀{b:List Nat} {i k j:Nat},idxOf b i k=some j->k<=j/\b[j - k]?=some i
 |[],i,k,j,h=>by grind[idxOf];|a::r,i,k,j,h=>by
  simp only[idxOf] at h;split at h;·simp_all
  ·obtain⟨d,c⟩:=vu h;grind
theorem AC:∀{l:List Nat},gT.aoL l=true->l.Nodup
 |[],_=>List.nodup_nil
 |a::r,h=>by
  simp only[gT.aoL,θ,δi,List.contains_eq_mem,decide_eq_false_iff_not] at h;exact γY.2 ⟨h.1,AC h.2⟩
theorem vt {o:a_} {b:List Nat}:∀{r:List Nat} {s:a_},ki o b r=some s->s.length=r.length/\∀(j i:Nat),r[j]?=some i->∃x y,o[i]?=some x/\x.bH (λj=>idxOf b j)=some y/\s[j]?=some y
 |[],s,h=>by grind[ki];|a::r,s,h=>by
  simp only[ki] at h;split at h
  ·rename_i x l f c;obtain⟨y,d,rfl⟩:=ε.1 h;obtain⟨g,e⟩:=vt c;grind
  ·cases h
theorem AB {m:Nat->Option Nat}:∀{o o':a_},qD m o=some o'->∀(i:Nat) (x:OL),o[i]?=some x->∃y,x.bH m=some y/\o'[i]?=some y
 |[],o',h,i,x,b=>by simp at b;|a::r,o',h,i,x,b=>by
  simp only[qD] at h;split at h
  ·rename_i y l f c;injection h with h;subst h;cases i with
   |zero=>simp_all;|succ i=>obtain⟨z,e,d⟩:=AB c i x (by simp_all);simp_all
  ·cases h
theorem PP {m:Nat->Option Nat} {cs:List AV} {e:TypeId} {sz:Nat} {pu:Bool} {y:OL} (h:(OL.cells cs e sz pu).bH m=some y):∃a,y= .cells a e sz pu/\a.length=cs.length:=by
 simp only[OL.bH] at h;split at h;·grind
 ·obtain⟨a,b,rfl⟩:=ε.1 h;grind[Hq]
theorem PO {m:Nat->Option Nat} {es:List (Value×AV)} {b:List Nat×Bool} {pu:Bool} {y:OL} (h:(OL.map es b pu).bH m=some y):∃a,y= .map a b pu:=by
 simp only[OL.bH] at h;split at h;·grind
 ·obtain⟨a,c,rfl⟩:=ε.1 h;simp_all
def k9 (σ:TM) (a:List Nat):TM:=a.map λi=>(σ[i]?).getD none
section
variable {A A':dc} {w:World} {σ:TM} {o s:a_} {ids:List Nat}
theorem pZ {j:Nat} {t:Nat×Nat} (h:(k9 σ ids)[j]?=some (some t)):∃i,ids[j]?=some i/\σ[i]?=some (some t):=by
 grind[k9]
theorem Gs (a:σ.length=o.length) (b:ki o ids ids=some s) {j i:Nat} (c:ids[j]?=some i):(k9 σ ids)[j]?=σ[i]?:=by
 obtain⟨_,d⟩:=vt b;grind[k9]
theorem tk (c:σ.length=o.length) (i:ki o ids ids=some s) {id a:Nat} (h:idxOf ids id=some a):Tr o σ s (k9 σ ids) id a:=by
 obtain⟨_,f⟩:=vu h;simp only[εT] at f;obtain⟨_,n⟩:=vt i;obtain⟨x,y,m,l,d⟩:=n a id f;refine⟨λr e q j b=>?_,λ⟨p,k,j,b⟩=>?_,Gs c i f⟩;·grind[PP]
 ·rw[m] at b;injection b with b;subst b;obtain⟨g,rfl⟩:=PO l;exact⟨g,k,j,d⟩
theorem OM.sub [anO A A'] (f:OM A w σ o) (u:ids.Nodup) (n:ki o ids ids=some s) (E:∀b,b<w.heap.size->Fr A σ b->Fr A' (k9 σ ids) b)
  (D:∀i∈ids,∀b c,σ[i]?=some (some (b,c))->¬A' b) (g:∀b,A' b->b<w.heap.size):OM A' w (k9 σ ids) s:=by
 obtain⟨F,B⟩:=vt n;refine⟨by grind[k9],λi j b c d m l=>?_,λi b c m=>?_,λj y C=>?_,λi b c m=>?_,g⟩
 ·obtain⟨x,k,e⟩:=pZ m;obtain⟨z,t,p⟩:=pZ l;have:=f.dist x z b c d e p;subst this;exact(ζo (ζ.1 k).1 u).1 (k.trans t.symm)
 ·obtain⟨x,k,e⟩:=pZ m;exact f.dZ x b c e
 ·have q:j<ids.length:=by grind
  have l:=μ q;obtain⟨x,H,k,r,a⟩:=B j _ l;rw[C] at a;injection a with a;subst a;exact cP.bH E (λG v h=>tk f.len n h) r (Gs f.len n l) (f.obj _ x k)
 grind[pZ]
theorem Zi {o':a_} {U:World} {H:TM} {p:a_} (Z:OM A w σ o) (hE:Ext U H p w σ o) {V r:AV} {u:Value} (hr:nA A w σ o V u) (g:kJ p.length V o=some (r,o')):
  ∃F,OM A w F o'/\nA A w F o' r u/\Ext U H p w F o':=by
 unfold kJ at g;split at g
 ·rename_i Y o1 S O;have N:=PQ O;have f:=Z.Q5 N;have d:=hE.Q5 N (λi z=>by simp_all);have C:=nA.Q5 Z N _ _ _ S hr;simp only at g;generalize e_ (λi=>decide (p.length<=i)) 0 o1=M at g N f d C;generalize kG o (λi=>decide (p.length<=i)) σ=D at f d C;obtain⟨t,ht⟩:=rY M fc (Y::(M.take p.length).flatMap kJ.OL.avs) (ω p.length);generalize cd M fc (Y::(M.take p.length).flatMap kJ.OL.avs) (ω p.length)=n at g ht;split at g
  ·rename_i L;split at g
   ·rename_i r2 s2 Q s;simp only[γ,ι] at g;obtain⟨rfl,rfl⟩:=g;have J:∀b,b<w.heap.size->Fr A D b->Fr A (k9 D n) b:=λb _ g=>⟨λ⟨i,c,z⟩=>by
     obtain⟨x,hx,B⟩:=pZ z;exact g.1 ⟨x,c,B⟩,g.2⟩;have K:∀i,i<p.length->n[i]?=some i:=by
     grind
    have y:∀i,i<p.length->idxOf n i=some i:=by
     intro i z;have T:i∈n:=γe (K i z);have:∃j,idxOf n i=some j:=by
      have a0:∀(l:List Nat) (k:Nat),i∈l->∃j,idxOf l i k=some j:=by
       intro l;induction l with
       |nil=>simp_all;|cons a l ih=>
        intro k h;simp only[idxOf];split;·simp_all
        ·rename_i P;refine ih (k+1) ((γw.1 h).resolve_left λq=>P (by simp[q]))
      simp_all
     obtain⟨j,W⟩:=this;obtain⟨_,q⟩:=vu W;simp only[εT] at q;have:=(ζo (ζ.1 q).1 (AC L)).1 (q.trans (K i z).symm);rw[W,this]
    refine⟨k9 D n,f.sub (AC L) s J (λi _ b c h=>f.av i b c h) f.avb,nA.bH J (λv a1 h=>tk f.len s h) _ _ _ Q C,d.size,λb hb hn=>?_,?_,λv R I=>?_,λv I=>?_,d.os,d.tape,d.output⟩
    ·obtain⟨G,q⟩:=d.blk b hb hn;refine⟨G,λ⟨i,c,z⟩=>?_⟩;obtain⟨x,hx,B⟩:=pZ z;exact q ⟨x,c,B⟩
    ·grind[vt]
    ·obtain⟨G,q⟩:=d.cur v R I;have E:v<p.length:=by obtain⟨cs,e,X,pu,ho,_⟩:=I;grind
     have m:=tk f.len s (y v E);refine⟨m.wt G,λX hc=>?_⟩;rw[m.2.2];exact q X (m.cur G hc)
    ·obtain⟨G,q⟩:=d.isMap v I;have E:v<p.length:=by obtain⟨es,kt,pu,ho⟩:=I;grind
     have m:=tk f.len s (y v E);exact⟨m.2.1 G,by rw[m.2.2];exact q⟩
   ·cases g
  ·cases g
 ·cases g
end
theorem PN:∀(b:List Nat) (o X:a_) (j i:Nat) (x:OL),b.Nodup->b[j]?=some i->i<o.length->X[j]?=some x->(kK o b X)[i]?=some x
 |[],o,X,j,i,x,_,c,_,_=>by simp at c;|a::r,o,[],j,i,x,_,_,_,d=>by simp at d;|a::r,o,y::l,j,i,x,e,c,f,d=>by
  rw[γY] at e;simp only[kK];cases j with
  |zero=>
   grind[AD];|succ j=>
   simp only[γO] at c d;exact PN r _ l j i x e.2 c (by simp_all) d
theorem Gr {i:Nat}:∀{l:List Nat} {k:Nat},i∈l->∃j,idxOf l i k=some j
 |[],k,h=>by simp at h;|a::l,k,h=>by
  simp only[idxOf];split;·simp_all
  ·rename_i b;exact Gr ((γw.1 h).resolve_left λc=>b (by simp[c]))
def nS (σ b:TM) (a:List Nat):TM:=
 ((ω σ.length).map λi=>match idxOf a i with|some j=>(b[j]?).getD none|none=>(σ[i]?).getD none)++b.drop a.length
section
variable {A:dc} {w:World} {σ:TM} {o:a_}
theorem Zh {P:Program} {call:cy} (a9:nT P call) (v:OM A w σ o) {f:FuncId} {args:List AV} {vs:List Value} (hr:Aq A w σ o args vs)
  {r:AV} {o':a_} (J:gT call f args o=some (r,o')):
  fU P f=true/\Calls P f vs.toArray w λe w'=>∃u g,e= .returned u/\OM A w' g o'/\nA A w' g o' r u/\Ext w σ o w' g o':=by
 unfold gT at J;simp only at J;generalize cd o fc args []=a at J;split at J
 ·rename_i U T ha I;split at J
  ·rename_i r1 n c1;split at J;·cases J
   ·rename_i Q;simp only[not_or,Bool.not_eq_false,Nat.not_lt] at Q;obtain⟨d2,a1⟩:=Q;have a1:=AC a1;split at J
    ·rename_i r2 b9 c0 S;simp only[γ,ι] at J;obtain⟨rfl,d3⟩:=J;obtain⟨hg,c2,_⟩:=a9 _ _ _ _ _ _ c1;refine⟨hg,?_⟩;have d0:=vt I;have b2:∀(j i:Nat),a[j]?=some i->i<o.length:=λj i m=>by
      grind
     have d4:=λ{j i:Nat} (m:a[j]?=some i)=>Gs v.len I m;obtain⟨N,s,a5⟩:∃N:dc,(∀b,N b↔(A b\/(Own σ b/\¬Own (k9 σ a) b)))/\N.l=A.l:=⟨⟨λb=>A b\/(Own σ b/\¬Own (k9 σ a) b),A.l⟩,λb=>Iff.rfl,rfl⟩;haveI:anO A N:=⟨a5⟩;haveI:anO N A:=⟨a5.symm⟩;have b4:∀b,b<w.heap.size->Fr A σ b->Fr N (k9 σ a) b:=λb _ hf=>⟨λ⟨i,c,p⟩=>by
      obtain⟨x,hx,G⟩:=pZ p;exact hf.1 ⟨x,c,G⟩,λh=>((s b).1 h).elim hf.2 λh=>hf.1 h.1⟩;have c6:OM N w (k9 σ a) T:=v.sub a1 I b4 (λi p b c h hA=>by
      rcases(s b).1 hA with q|⟨_,q⟩;·exact v.av i b c h q
      ·obtain⟨j,m⟩:=γH p;exact q ⟨j,c,by simp_all⟩) (λb h=>((s b).1 h).elim (v.avb b) λ⟨⟨i,c,p⟩,_⟩=>v.dZ i b c p);have b1:Aq N w (k9 σ a) T U vs:=Aq.bH b4 (λD d6 h=>tk v.len I h) args vs U ha hr;refine(c2 N w _ vs c6 b1).mono ?_;rintro e w' ⟨u,g,rfl,C,c7,X⟩;have d5:=Gt S;have hN:=v.len;have b7:(nS σ g a).length=o.length+(n.length - a.length):=by simp[nS,hN,C.len]
     have a7:o'.length=o.length+(n.length - a.length):=by grind[yA]
     have a8:∀i,i<o.length->idxOf a i=none->(nS σ g a)[i]?=σ[i]?/\o'[i]?=o[i]?/\i∉a:=by
      intro i p hn;have d1:i∉a:=λh=>by obtain⟨j,m⟩:=Gr (k:=0) h;simp_all
      grind[nS,AD]
     have b6:∀j t,nn a o.length j=some t->(nS σ g a)[t]?=g[j]?/\o'[t]?=b9[j]?:=by
      intro j t m;unfold nn at m;split at m
      ·rename_i i K;injection m with m;subst m;have p:=b2 j i K;have c3:j<a.length:=(ζ.1 K).1;obtain⟨j2,E⟩:=Gr (k:=0) (γe K);have B:=(vu E).2;simp only[εT] at B;have:=(ζo (ζ.1 B).1 a1).1 (B.trans K.symm);subst this;constructor
       ·unfold nS;rw[δa (by simp;omega)];have:j2<g.length:=by rw[C.len];omega
        simp_all
       grind[PN]
      ·rename_i K;injection m with m;subst m;have c3:=List.getElem?_eq_none_iff.1 K;constructor
       ·unfold nS;rw[ε8 (by simp;omega)];simp_all
       grind
     have b8:∀i,i<o'.length->(∃j,j<n.length/\nn a o.length j=some i)\/(i<o.length/\idxOf a i=none):=by
      intro i p;rw[a7] at p;rcases ζd i o.length with q|q;·cases hq:idxOf a i with
       |none=>exact .inr ⟨q,rfl⟩;|some j=>
        left;have B:=(vu hq).2;simp only[εT] at B;have:=(ζ.1 B).1;exact⟨j,by omega,by simp[nn,B]⟩
      grind[nn]
     have F:∀i b c,i<o.length->idxOf a i=none->σ[i]?=some (some (b,c))->N b:=by
      intro i b c p hn hs;refine(s b).2 (.inr ⟨⟨i,c,hs⟩,?_⟩);rintro⟨j,d,m⟩;obtain⟨x,hx,G⟩:=pZ m;have:=v.dist i x b c d hs G;grind
     have L:∀i b c,(nS σ g a)[i]?=some (some (b,c))->(∃j,nn a o.length j=some i/\g[j]?=some (some (b,c)))\/(i<o.length/\idxOf a i=none/\σ[i]?=some (some (b,c))):=by
      grind
     have a3:∀j t,nn a o.length j=some t->Tr n g o' (nS σ g a) j t:=by
      intro j t m;obtain⟨Y,W⟩:=b6 j t m;refine⟨λcs e sz Z ho=>?_,λ⟨es,kt,Z,ho⟩=>?_,Y⟩;·grind[AB,PP]
      ·obtain⟨y,hy,c5⟩:=AB S j _ ho;obtain⟨c8,rfl⟩:=PO hy;exact⟨c8,kt,Z,by rw[W];exact c5⟩
     have a6:∀b,b<w'.heap.size->Fr N g b->Fr A (nS σ g a) b:=by
      intro b _ hf;refine⟨?_,λh=>hf.2 ((s b).2 (.inl h))⟩;rintro⟨i,c,p⟩;rcases L i b c p with⟨j,_,m⟩|⟨q,H,M⟩;·exact hf.1 ⟨j,c,m⟩
      ·exact hf.2 (F i b c q H M)
     have a0:∀i b c,i<o.length->idxOf a i=none->σ[i]?=some (some (b,c))->¬Own (k9 σ a) b:=by
      rintro i b c p hn hs ⟨j,d,m⟩;obtain⟨x,hx,G⟩:=pZ m;have:=v.dist i x b c d hs G;grind
     have R:∀b,Own (k9 σ a) b->Own σ b:=λb ⟨i,c,p⟩=>by
      obtain⟨x,hx,G⟩:=pZ p;exact⟨x,c,G⟩
     have O:∀D,D<o.length->∀j,idxOf a D=some j->nn a o.length j=some D:=by
      intro D _ j m;have B:=(vu m).2;grind[nn]
     have b5:Ext w σ o w' (nS σ g a) o':=by
      refine⟨X.size,λb hb hn=>?_,by omega,λD c4 a2=>?_,λD hm=>?_,X.os,X.tape,X.output⟩
      ·obtain⟨q,H⟩:=X.blk b hb λh=>hn (R b h);refine⟨q,?_⟩;rintro⟨i,c,p⟩;rcases L i b c p with⟨j,_,m⟩|⟨_,_,M⟩;·exact H ⟨j,c,m⟩
       ·exact hn ⟨i,c,M⟩
      ·have V:D<o.length:=by obtain⟨cs,e,sz,Z,ho,_⟩:=a2;grind
       cases hq:idxOf a D with
       |none=>
        obtain⟨l1,l2,_⟩:=a8 D V hq;refine⟨?_,λsz b0=>⟨?_,l1⟩⟩
        ·obtain⟨cs,e,sz,Z,ho,hl⟩:=a2;exact⟨cs,e,sz,Z,by grind,hl⟩
        ·obtain⟨cs,e,Z,ho,hl⟩:=b0;exact⟨cs,e,Z,by grind,hl⟩;|some j=>
        have Y:=tk v.len I hq;have W:=a3 j D (O D V j hq);obtain⟨q,H⟩:=X.cur j c4 (Y.wt a2);refine⟨W.wt q,λsz b0=>?_⟩;obtain⟨M,h4⟩:=H sz (W.cur q b0);exact⟨Y.cur a2 M,by rw[W.2.2,h4,Y.2.2]⟩
      ·have V:D<o.length:=by obtain⟨es,kt,Z,ho⟩:=hm;grind
       cases hq:idxOf a D with
       |none=>
        obtain⟨l1,l2,_⟩:=a8 D V hq;obtain⟨es,kt,Z,ho⟩:=hm;exact⟨⟨es,kt,Z,by grind⟩,l1⟩;|some j=>
        have Y:=tk v.len I hq;have W:=a3 j D (O D V j hq);obtain⟨q,H⟩:=X.isMap j (Y.2.1 hm);exact⟨W.2.1 q,by rw[W.2.2,H,Y.2.2]⟩
     refine⟨u,nS σ g a,rfl,⟨by omega,λi k b c d p hk=>?_,λi b c p=>?_,λi y hy=>?_,λi b c p=>?_,λb hb=>γj (v.avb b hb) X.size⟩,nA.bH a6 a3 _ _ _ c0 c7,b5⟩
     ·rcases L i b c p with⟨j,m,E⟩|⟨q,H,M⟩<;>rcases L k b d hk with⟨l,hl,b3⟩|⟨g1,g2,g3⟩
      ·have:=C.dist j l b c d E b3;grind
      ·exact absurd (F k b d g1 g2 g3) (C.av j b c E)
      ·exact absurd (F i b c q H M) (C.av l b d b3)
      ·exact v.dist i k b c d M g3
     ·rcases L i b c p with⟨j,m,E⟩|⟨q,H,M⟩;·exact C.dZ j b c E
      ·exact γj (v.dZ i b c M) X.size
     ·rcases b8 i (ζ.1 hy).1 with⟨j,c9,m⟩|⟨q,H⟩
      ·have hx:=μ c9;obtain⟨z,hz,a4⟩:=AB S j _ hx;obtain⟨Y,W⟩:=b6 j i m;rw[<-W,hy] at a4;injection a4 with a4;subst a4;exact cP.bH a6 a3 hz Y (C.obj j _ hx)
      ·obtain⟨l1,l2,_⟩:=a8 i q H;rw[l2] at hy;exact(v.obj i y hy).ext b5 l1 λb c hb=>(X.blk b (v.dZ i b c hb) (a0 i b c q H hb)).1
     ·rcases L i b c p with⟨j,m,E⟩|⟨q,H,M⟩;·exact λh=>C.av j b c E ((s b).2 (.inl h))
      ·exact v.av i b c M
    ·cases J
  ·cases J
 ·cases J
end
section
variable {P:Program} {A:dc} {D:List Deferred} {w w':World} {σ σ':TM} {o o':a_}
theorem Zg {call:cy} (b:nT P call) (d:OM A w σ o) {f:FuncId} {args:List AV} {vs:List Value} (g:Aq A w σ o args vs) {own:Bool} {r:AV} (c:fV call f args o own=some (r,o')):
  fU P f=true/\Calls P f vs.toArray w λe w'=>∃u a,e= .returned u/\OM A w' a o'/\nA A w' a o' r u/\Ext w σ o w' a o':=by
 grind[fV,Zh,Zk]
theorem AA {f:FuncId} (b:fU P f=true) (args:Array Value) (w:World):(callFunc f args).run P w= .ok (.enter f args) w:=by
 unfold fU at b;cases c:P.funcs[f]? with
 |none=>simp_all;|some a=>
  simp only[c,Option.any_some,θ,δi] at b;have d:a.body.isNone=false:=by simp_all
  have e:¬a.name= "runtime.NumGoroutine" :=by
   simp_all
  have g:¬a.body=none:=by grind
  simp_all[callFunc]
theorem Zf {name:String} {t:TypeId} {f:FuncId} (h:Bk P name t=some f) (v:Value) (w:World) (n:Nat):(method (n+1) t v name).run P w= .ok (f,v) w:=by
 unfold Bk at h;split at h
 ·rename_i fs i hu hi;split at h
  ·rename_i m hm;split at h
   ·rename_i g hp hf;injection h with h;subst h;simp[method,typeInfo,hi,hm,hp,hf,follow,receiverAt,run_underlying hu,Place.get]
   ·cases h
  ·cases h
 ·cases h
theorem Gq {name:String} {t:TypeId} {f:FuncId}:∀{n:Nat},tF (wj P name n) t=some f->Bk P name t=some f
 |0,h=>by simp[wj,tF] at h;|n+1,h=>by
  simp only[wj] at h;split at h
  ·rename_i g hg;simp only[tF] at h;cases hb:Nat.beq n t with
   |true=>
    rw[hb] at h;simp only[cond_true,γ] at h;subst h;rw[<-Nat.eq_of_beq_eq_true hb];exact hg;|false=>
    rw[hb] at h;exact Gq h
  ·exact Gq h
theorem ZM {fl:Bool} {a:Oper} {b:bT} (e:nX P fl a=some b) (h:b.nU=true):
  ∃c:Call,a.op= .call c/\((∃f,c.callee= .value (.func f)/\b= .call f c.args.toList fl)\/(∃x,c.callee= .value x/\b= .ak7 x c.args.toList fl)\/∃x d,c.callee= .invoke x d/\b= .aok (Pk P d) x c.args.toList):=by
 cases g:a.op;case call c=>
  refine⟨c,rfl,?_⟩;simp only[nX,g] at e;grind[bT.nU]
 case buildSlice=>
  grind[nX,bT.nU]
 case slice t x k i j=>
  grind[nX,bT.nU]
 case makeMap t r=>
  grind[nX,bT.nU]
 all_goals
  exfalso;simp only[nX,g,reduceCtorEq] at e;try (repeat' (split at e))<;>first
   |(cases e;done);|(injection e with e;subst e;simp[bT.nU] at h;done);|(obtain⟨_,_,rfl⟩:=ε.1 e;simp[bT.nU] at h;done)
def FR (rnd:Option Nat):Fence:={Fence.wide with round:=rnd}
theorem ZL {rnd:Option Nat} {n:Nat} {f:FuncId} {args:Array Value} {R:Ending->World->Prop} (h:Calls P f args w R):CallsIn (FR rnd) n P f args w R:=
 (callsIn_wide (n:=n)).2 h
theorem ZK {fl:Bool} {a:Oper} {b:bT} (d:nX P fl a=some b) (c:Call):a.op≠ .defer c:=by
 grind[nX]
theorem ZJ {call:cy} (D:nT P call) {fl:Bool} {b:Oper} {C:bT} (O:nX P fl b=some C) (W:OM A w σ o) {p:Operand->AV} {a:Act} (n:∀x,nA A w σ o (p x) (a.eval x)) {oz:Nat} {v:AV}
  (i:qe call C p o oz=some (v,o')) {m:Act->World->Prop} {Q:Exit->Act->World->Prop}
  (V:∀u w' z,OM A w' z o'->nA A w' z o' v u->Ext w σ o w' z o'->m (a.put b.dst u) w') {rnd:Option Nat}:b.wpIn (FR rnd) 0 P a w m Q:=by
 have r:b.semAt (FR rnd).round a.eval=execOp a.eval b:=Oper.semAt_eq _ _ _ (ZK O);by_cases R:C.nU=false
 ·obtain⟨u,Z,G,e,q,X,Y⟩:=Zp O R W n i;unfold Oper.wpIn;rw[r];refine⟨λ_ _=>trivial,?_⟩;rcases e with e|⟨e,rfl⟩
  ·rw[e];exact V u Z G q X Y
  ·rw[e];exact V undef Z G q X Y
 ·
  have E:∀(f:FuncId) (l:List AV) (k:List Value) (F:Bool),Aq A w σ o l k->fV call f l o F=some (v,o')->
    (fU P f=true->(execOp a.eval b).run P w= .ok (.enter f k.toArray) w)->b.wpIn (FR rnd) 0 P a w m Q:=by
   intro f l k F L M J;obtain⟨s,I⟩:=Zg D W L M;unfold Oper.wpIn;rw[r,J s];refine⟨λ_ _=>trivial,λh=>by grind[FR,Fence.wide],(ZL I).mono ?_⟩;grind
  obtain⟨c,y,hh⟩:=ZM O (by simp_all);rw[yo] at i;rcases hh with⟨f,d,rfl⟩|⟨x,d,rfl⟩|⟨x,H,d,rfl⟩
  ·simp only[MO] at i;refine E f (c.args.toList.map p) (c.args.toList.map a.eval) fl (tu n _) i λs=>?_;simp only[execOp,y,resolve,d];simp[Act.eval,Deferred.ofValue,invoke,AA s];grind
  ·simp only[MO] at i;split at i
   ·rename_i g B j K;have q:=n x;rw[K] at q;simp only[nA] at q;obtain⟨f',c',S,N,T⟩:=q;refine E g (B++c.args.toList.map p++j) (f'.toList++c.args.toList.map a.eval++c'.toList) fl (Aq.append (Aq.append N (tu n _)) T) i λs=>?_;simp only[execOp,y,resolve,d];simp[S,Cj,Deferred.ofValue,invoke,AA s]
   ·cases i
  ·simp only[MO] at i;split at i
   ·rename_i t cs K;split at i
    ·rename_i f N;have q:=n x;rw[K] at q;simp only[nA] at q;obtain⟨k,S,_,hl⟩:=q;have L:Aq A w σ o (.agg cs::c.args.toList.map p) (.agg k::c.args.toList.map a.eval):=by
      grind[Aq,nA,tu]
     refine E f _ _ false L i λs=>?_;have hm:(method (P.types.size+Made.depth) t (.agg k) H).run P w= .ok (f,.agg k) w:=Zf (Gq N) (.agg k) w (P.types.size+99);have hz:(#[Value.iface t (.agg k)]++Array.map a.eval c.args)[0]?=some (Value.iface t (.agg k)):=by grind
     have U:#[Value.agg k]++(Array.map a.eval c.args).extract 0 c.args.size=(Value.agg k::List.map a.eval c.args.toList).toArray:=εl (by simp;exact List.take_of_length_le (by simp));simp only[execOp,y,resolve,d,S];simp[invoke,hz,callMethod,hm,AA s,U]
    ·cases i
   ·cases i
def sn (b w:World) (a:List Deferred):Prop:=
 a.Pairwise (λd e=>d.target≠e.target)/\∀d∈a,∃r,d={target:=.collected r,args:=#[]}/\b.heap.size<=r/\w.heap[r]?=some (.deferred (some []))
theorem OM.Gp (d:OM A w σ o) {r:Nat} {x:Obj} (h:w.heap[r]?=some x) (g:∀a b c,x≠ .cells a b c) (l:∀a b,x≠ .map a b):¬Own σ r:=by
 rintro⟨i,c,k⟩;have f:i<o.length:=by rw[<-d.len];grind
 have e:=d.obj i _ (μ f);cases j:o[i]<;>grind[cP,ι]
theorem sn.ext {c:World} {b:List Deferred} (h:sn c w b) (e:OM A w σ o) (i:Ext w σ o w' σ' o'):sn c w' b:=
 ⟨h.1,λd g=>by
  obtain⟨r,j,f,a⟩:=h.2 d g;exact⟨r,j,f,by rw[(i.blk r (Array.getElem?_eq_some_iff.1 a).1 (e.Gp a (by simp) (by simp))).1];exact a⟩⟩
def B8 (D:List Deferred) (b w:World) (c:List Deferred):Prop:=∃a,c=a++D/\sn b w a
theorem B8.ext {b:World} {D a:List Deferred} (h:B8 D b w a) (c:OM A w σ o) (f:Ext w σ o w' σ' o'):B8 D b w' a:=by
 obtain⟨d,g,e⟩:=h;exact⟨d,g,e.ext c f⟩
structure cq (A:dc) (nt:Nat) (D:List Deferred) (w0:World) (σ0:TM) (o0:a_) (st:St) (a:Act) (w:World) (σ:TM):Prop where
 sim:OM A w σ st.o
 env:∀s,nA A w σ st.o (cX st.env s) (a.tmps.getD s undef)
 size:a.tmps.size=nt
 defers:B8 D w0 w a.defers
 ext:Ext w0 σ0 o0 w σ st.o
theorem ZI (v:Value):nA A w σ o (.tb v) v:=by
 cases v<;>simp only[AV.tb]<;>try (simp[nA,Value.oneCell'];done)
 grind[nA,tA]
theorem cq.ev {d:Nat} {e:World} {b:TM} {c:a_} {st:St} {a:Act} (h:cq A d D e b c st a w σ) (x:Operand):nA A w σ st.o (dM st.env x) (a.eval x):=by
 cases x with
 |tmp t=>exact h.env t;|const v=>exact ZI v;|global g=>simp[dM,nA];|func f=>simp only[dM,Act.eval,nA];exact⟨#[],#[],rfl,by simp[Aq],by simp[Aq]⟩
theorem ZH {a:Act} {b:Option Tmp} {u:Value} {c:Nat} (f:a.tmps.size=c) (e:Bj c b=true) (s:Nat):
  (a.put b u).tmps.getD s undef=if b=some s then u else a.tmps.getD s undef:=by
 cases b with
 |none=>simp[Act.put];|some d=>
  simp only[Bj,decide_eq_true_eq] at e;simp only[Act.put,γ];by_cases h:d=s<;>simp_all
theorem PM (a:Act) (b:Option Tmp) (u:Value):(a.put b u).tmps.size=a.tmps.size/\(a.put b u).defers=a.defers:=by
 cases b<;>simp[Act.put]
theorem tj (env:iR) (a:Option Nat) (v:AV) (s:Nat):cX (ns env a v) s=if a=some s then v else cX env s:=by
 cases a with
 |none=>simp[ns];|some d=>
  simp_all[ns,cX]
theorem cq.put {e:Nat} {g:World} {c:TM} {f:a_} {st:St} {a:Act} (h:cq A e D g c f st a w σ) (k:OM A w' σ' o') (d:Ext w σ st.o w' σ' o') {b:Option Tmp} (i:Bj e b=true) {v:AV} {u:Value} (j:nA A w' σ' o' v u):
  cq A e D g c f ⟨ns st.env b v,o'⟩ (a.put b u) w' σ' where
 sim:=k;env:=λs=>by
  simp only[tj,ZH h.size i];split;·exact j
  ·exact(h.env s).ext d
 size:=by rw[(PM _ _ _).1];exact h.size
 defers:=by rw[(PM _ _ _).2];exact h.defers.ext h.sim d
 ext:=h.ext.trans d
theorem PL {x:Nat} {v:World} {l:TM} {p:a_} {st:St} {a:Act} (h:cq A x D v l p st a w σ) {f:Array Oper} {d:Oper} {b:Bool}
  (e:lx st.env (d.guard.map λg=>(((f[g.1]?).bind (·.dst)),g.2))=some b):Region.wanted d (yielded f a.tmps)=b:=by
 unfold Region.wanted;cases u:d.guard with
 |none=>grind[lx];|some g=>
  obtain⟨j,q⟩:=g;simp only[u,ν,lx] at e;cases n:(f[j]?).bind (·.dst) with
  |none=>simp_all;|some s=>
   simp only[n] at e;have i:=h.env s;simp only[yielded,n,Option.bind_some];split at e
   ·rename_i c m;injection e with e;rw[m] at i;have k:=fN i;have o:a.tmps[s]?=some (.bool c):=by
     rw[εb] at k;grind[undef]
    simp_all
   ·rename_i m;injection e with e;rw[m] at i;simp only[nA,Aq] at i;obtain⟨r,k,o⟩:=i;have t:r=#[]:=εl (by omega);subst t;have o:a.tmps[s]?=some (.tuple #[])\/a.tmps[s]?=none:=by
     rw[εb] at k;grind
    grind
   ·cases e
theorem PK {call:cy} (e:nT P call) {j:Nat} {fl:List Nat} {c:Array Oper} {oz k:Nat} {i:cM} (f:p7 P j fl c oz k=some i) {base:Nat} {st st':St} (b:gn call base i st=some st')
  {t:World} {g:TM} {p:a_} {a:Act} (h:cq A j D t g p st a w σ) {K:Act->World->Prop} {Q:Exit->Act->World->Prop} (o:∀s w' d,cq A j D t g p st' s w' d->K s w') {rnd:Option Nat}:wpOpIn (FR rnd) 0 P c Q k K a w:=by
 unfold p7 at f;cases q:c[k]? with
 |none=>simp_all;|some n=>
  simp only[q] at f;split at f
  ·rename_i r;obtain⟨E,l,rfl⟩:=ε.1 f;unfold wpOpIn;simp only[q];simp only[gn] at b;split at b;·cases b
   ·rename_i m;have:=PL h m;rw[this];injection b with b;subst b;simp only[φ,if_false];exact⟨λ_ _=>trivial,o _ _ σ (h.put h.sim (Ext.refl _ _ _) r (by simp only[nA];exact⟨#[],rfl,by simp[Aq]⟩))⟩
   ·rename_i m;have:=PL h m;rw[this];simp only[if_true];split at b
    ·rename_i v C z;injection b with b;subst b;exact ZJ e l h.sim h.ev z λu w' d B x y=>o _ _ d (h.put B y r x)
    ·cases b
  ·cases f
theorem Ol {call:cy} (c:nT P call) {o:Nat} {fl:List Nat} {f:Array Oper} {base:Nat} {u:World} {g:TM} {s:a_} {Q:Exit->Act->World->Prop} {rnd:Option Nat}:
  ∀(l:List cM) (b:List Nat),l.length=b.length->(∀(j:Nat) (i:cM) (k:Nat),l[j]?=some i->b[j]?=some k->∃oz,p7 P o fl f oz k=some i)->∀(st st':St) (a:Act) (w:World) (σ:TM),
   fy call base l st=some st'->cq A o D u g s st a w σ->(∀m w' d,cq A o D u g s st' m w' d->Q .normal m w')->wpOpsIn (FR rnd) 0 P f Q b a w
 |[],[],_,_,st,st',a,w,σ,e,h,p=>by
  simp only[fy,γ] at e;subst e;exact p a w σ h;|[],_::_,n,_,_,_,_,_,_,_,_,_=>by simp at n;|_::_,[],n,_,_,_,_,_,_,_,_,_=>by simp at n;|i::l,k::b,n,t,st,st',a,w,σ,e,h,p=>by
  simp only[fy] at e;split at e
  ·rename_i q v;obtain⟨oz,r⟩:=t 0 i k (by simp) (by simp);rw[wpOpsIn_cons];exact PK c r v h λm w' d y=>Ol c l b (by simp_all) (λj z x C B=>t (j+1) z x (by simp_all) (by simp_all)) q st' m w' d e y p
  ·cases e
theorem Gn {d:Nat} {fl:List Nat} {b:Array Oper}:∀{k:Nat} {a:List Nat} {l:List cM} {n:Nat},tD P d fl b k a=some (l,n)->
  l.length=a.length/\(∀(j:Nat) (i:cM) (q:Nat),l[j]?=some i->a[j]?=some q->∃oz,p7 P d fl b oz q=some i)
 |k,[],l,n,h=>by grind[tD];|k,i::r,l,n,h=>by
  simp only[tD] at h;split at h;·cases h
  ·rename_i x o;split at h;·cases h
   ·rename_i g m c;simp only[γ,ι] at h;obtain⟨rfl,_⟩:=h;obtain⟨e,f⟩:=Gn c;grind
end
section
variable {call:cy} {ρ ρ2:Operand->AV} {oz:Nat}
theorem Oj {a:bT} (d:a.bt=0) (o o2:a_):MO call a ρ o2 oz=(MO call a ρ o oz).map λp=>(p.1,o2):=by
 cases a<;>try (simp[bT.bt] at d;done)
 case call f c b=>cases b<;>simp[bT.bt] at d
 case ak7 f c b=>cases b<;>simp[bT.bt] at d
 all_goals simp only[MO]
 all_goals (repeat' split)<;>simp_all [ζj,δn]
theorem ZG {a:bT} (b:a.bt=0) {o o':a_} {v:AV} (h:MO call a ρ o oz=some (v,o')):o'=o:=by
 grind[Oj]
theorem ZF {o o2:a_} {a:AV} (h:∀j∈eE a,o2[j]?=o[j]?):behind o2 a=behind o a:=by
 cases a<;>simp only[behind];grind[eE]
theorem ZE {o o2:a_} {sz:Nat} {a:AV} (h:∀j∈eE a,o2[j]?=o[j]?):lT o2 sz a=lT o sz a:=by
 cases a with
 |os e d b c=>grind[lT,eE];|sc v=>unfold lT;grind;|_=>rfl
theorem ZD {o o2:a_} {sz:Nat} {a:AV} {i:Int} (h:∀j∈eE a,o2[j]?=o[j]?):oM o2 sz a i=oM o sz a i:=by
 cases a<;>simp only[oM];grind[eE]
theorem Yh {o o2:a_} {sz:Nat} {a:AV} {lo b:Option AV} (h:∀j∈eE a,o2[j]?=o[j]?):oK o2 sz a lo b=oK o sz a lo b:=by
 cases a with
 |os f e c d=>grind[oK,eE];|sc v=>unfold oK;grind;|_=>rfl
theorem Yg {o o2:a_} {sz:Nat} {a:AV} {lo:Option AV} {b mx:AV} (h:∀j∈eE a,o2[j]?=o[j]?):qF o2 sz a lo b mx=qF o sz a lo b mx:=by
 cases a<;>grind[id,qF,eE]
theorem Yf {o o2:a_} {k:Nat} {a:AV} (h:∀j∈eE a,o2[j]?=o[j]?):kB o2 k a=kB o k a:=by
 cases a with
 |mp b=>
  match k with
  |0=>rfl;|1=>rfl;|2=>grind[kB,eE];|_+3=>rfl
 |_=>unfold kB;split<;>first|rfl|(simp_all;done)
theorem vr {c e:Type} {f g:c->List e}:∀{l:List c},(∀a∈l,f a=g a)->l.flatMap f=l.flatMap g
 |[],_=>rfl
 |a::l,h=>by
  simp only[List.flatMap_cons];rw[h a (by simp),vr λb d=>h b (by simp[d])]
theorem vq {c e:Type} {f g:c->Option e}:∀{l:List c},(∀a∈l,f a=g a)->l.mapM f=l.mapM g
 |[],_=>rfl
 |a::l,h=>by
  rw[εR,εR,h a (by simp),vq λb d=>h b (by simp[d])]
theorem vp {o o2:a_}:∀(d:Nat) (a:AV),(∀j∈eG o d a,o2[j]?=o[j]?)->freeze o2 d a=freeze o d a/\eG o2 d a=eG o d a
 |0,a,_=>by cases a<;>simp[freeze,eG];|d+1,a,h=>by
  cases a with
  |agg i=>
   simp only[eG,δR,forall_exists_index,and_imp] at h;have l:=λc g=>vp d c (λj b=>h j c g b);grind[freeze,eG,vq,vr];|Gz i=>
   simp only[eG,δR,forall_exists_index,and_imp] at h;have l:=λc g=>vp d c (λj b=>h j c g b);grind[freeze,eG,vq,vr];|fn f x y=>
   simp only[eG,List.mem_append,δR] at h;have v:=λc g=>vp d c (λj b=>h j (.inl ⟨c,g,b⟩));have z:=λc g=>vp d c (λj b=>h j (.inr ⟨c,g,b⟩));grind[freeze,eG,vq,vr];|os k q s n=>
   have r:=h k (by simp[eG]);simp only[freeze,eG];rw[r];cases p:o[k]? with
   |none=>simp_all;|some x=>
    cases x with
    |dead=>simp_all;|map w t m=>simp_all;|cells i e u m=>
     cases m with
     |true=>simp_all;|false=>
      simp only[eG,p,γw,φ,if_false,δR] at h;have l:=λc g=>vp d c (λj b=>h j (.inr ⟨c,g,b⟩));simp_all[vq,vr]
  |_=>simp[freeze,eG]
theorem yz {f:FuncId} {args:List AV} {o o2:a_} (h:∀j∈args.flatMap (eG o 6),o2[j]?=o[j]?):
  fV call f args o2 false=(fV call f args o false).map (λp=>(p.1,o2))/\args.flatMap (eG o2 6)=args.flatMap (eG o 6):=by
 simp only[δR,forall_exists_index,and_imp] at h;have d:=λc a=>vp 6 c (λj e=>h j c a e);have b:args.flatMap (eG o2 6)=args.flatMap (eG o 6):=vr λc a=>(d c a).2;refine⟨?_,b⟩;unfold fV;rw[if_neg (by simp),if_neg (by simp),b,vq λc a=>(d c a).1];grind
theorem Gm {b:bT} (w:b.bt=1) {o o2:a_} (h:∀j∈dh b ρ o oz,o2[j]?=o[j]?):
  MO call b ρ o2 oz=(MO call b ρ o oz).map (λp=>(p.1,o2))/\dh b ρ o2 oz=dh b ρ o oz:=by
 cases b<;>try (simp[bT.bt] at w;done)
 case load n a=>
  simp only[MO,dh] at h ⊢;rw[ZF h];refine⟨?_,trivial⟩;split<;>simp[ζj,δn]
 case aqE l x i=>
  simp only[MO,dh] at h ⊢;refine⟨?_,trivial⟩;split;·rw[ZD h];simp_all[δn]
  ·rfl
 case slice l x q y=>
  simp only[MO,dh] at h ⊢;refine⟨?_,trivial⟩;rw[Yh h];simp_all[δn]
 case slice3 l x q y A=>
  simp only[MO,dh] at h ⊢;refine⟨?_,trivial⟩;rw[Yg h];simp_all[δn]
 case len k x=>
  simp only[MO,dh] at h ⊢;refine⟨?_,trivial⟩;rw[Yf h];simp_all[δn]
 case lookup z m F D x k C=>
  simp only[MO,dh] at h ⊢;refine⟨?_,trivial⟩;split<;>grind[id,eE]
 case aok r x c=>
  simp only[MO,dh] at h ⊢;split
  ·rename_i t B u;simp only[u] at h ⊢;refine⟨?_,(yz (call:=call) (f:=0) h).2⟩;grind[yz]
  simp_all
 case call f c d=>
  cases d<;>grind[MO,dh,yz,bT.bt]
 case ak7 f c d=>
  cases d
  ·simp only[MO,dh] at h ⊢;split;·grind[yz]
   ·rename_i s;refine⟨rfl,?_⟩;split
    ·rename_i E g e v;simp only[v] at h ⊢;exact(yz (call:=call) (f:=0) h).2
    ·rfl
  grind[bT.bt]
theorem Ye {a:bT} (b:a.bt=1) {o o':a_} {v:AV} (h:MO call a ρ o oz=some (v,o')):o'=o:=by
 have:=(Gm (call:=call) (ρ:=ρ) (oz:=oz) b (o:=o) (o2:=o) λ_ _=>rfl).1;grind
theorem Az {o:a_} {id:Nat}:o.set id ((o[id]?).getD .dead)=o:=by
 apply List.ext_getElem?;grind
theorem Yd {d:bT} (H:d.bt=2) {o o':a_} {v:AV} (b:MO call d ρ o oz=some (v,o')):
  ∃id x,id∈fk d ρ o oz/\o'=o.set id x/\∀o2,(∀j∈dh d ρ o oz,o2[j]?=o[j]?)->
   MO call d ρ o2 oz=some (v,o2.set id x)/\dh d ρ o2 oz=dh d ρ o oz/\fk d ρ o2 oz=fk d ρ o oz:=by
 have C:∀{x:OL} {g:AV} {v:AV} {o':a_},(j7 oz x o).map (λo'=>(g,o'))=some (v,o')->v=g/\o'=o.set oz x/\∀o2:a_,o2[oz]?=o[oz]?->(j7 oz x o2).map (λo'=>(g,o'))=some (v,o2.set oz x):=by
  grind[j7]
 cases d<;>try (simp[bT.bt] at H;done)
 case alloc z e y=>
  simp only[MO,dh,fk] at b ⊢;grind
 case box e x=>
  simp only[MO,dh,fk] at b ⊢;grind
 case aoK z D E e A=>
  simp only[MO,dh,fk] at b ⊢;grind
 case apa z e A q l c y=>
  simp only[MO,dh,fk] at b ⊢;grind
 case apb Q y=>
  simp only[MO,dh,fk] at b ⊢;grind
 case store n a x=>
  simp only[MO,dh,fk] at b ⊢;split at b
  ·rename_i id R G J;split at b
   ·rename_i L e A y K;split at b
    ·rename_i p;simp only[γ,ι] at b;obtain⟨rfl,rfl⟩:=b;refine⟨id,_,by simp[J,eE],rfl,λo2 h=>⟨?_,trivial,trivial⟩⟩;have U:=h id (by simp[J,eE]);grind
    ·cases b
   ·cases b
  ·cases b
 case append e A q s x y=>
  simp only[MO,dh,fk] at b ⊢;unfold oL at b;split at b;·cases b
  ·rename_i m F P;split at b;·cases b
   ·rename_i N;have t:∀o2:a_,(∀j∈oz::(eE (ρ s)++eE (ρ x)),o2[j]?=o[j]?)->lT o2 A (ρ x)=some (m,F):=λo2 h=>by
     grind[ZE]
    split at b
    ·rename_i B;split at b
     ·rename_i I;simp only[γ,ι] at b;obtain⟨rfl,rfl⟩:=b;refine⟨oz,(o[oz]?).getD .dead,by simp,Az.symm,λo2 h=>⟨?_,trivial,trivial⟩⟩;rw[<-h oz (by simp),Az];simp_all[oL]
     ·split at b
      ·rename_i I p;obtain⟨rfl,rfl,h3⟩:=C b;refine⟨oz,_,by simp,rfl,λo2 h=>⟨?_,trivial,trivial⟩⟩;simp_all[oL]
      ·cases b
    ·rename_i id D G B;split at b
     ·rename_i L e' S O K;split at b
      ·rename_i p;simp only[γ,ι] at b;obtain⟨rfl,rfl⟩:=b;refine⟨id,_,by simp[B,eE],rfl,λo2 h=>⟨?_,trivial,trivial⟩⟩;unfold oL;rw[t o2 h];have U:=h id (by simp[B,eE]);simp_all
      ·cases b
     ·cases b
    ·rename_i n L B;split at b
     ·rename_i I;simp only[γ,ι] at b;obtain⟨rfl,rfl⟩:=b;refine⟨oz,(o[oz]?).getD .dead,by simp,Az.symm,λo2 h=>⟨?_,trivial,trivial⟩⟩;rw[<-h oz (by simp),Az];simp_all[oL]
     ·cases b
    ·cases b
 case apT W X x k v'=>
  simp only[MO,dh,fk] at b ⊢;split at b
  ·rename_i id Y M V;split at b
   ·rename_i Z Q y K;split at b;·cases b
    ·rename_i p;split at b
     ·rename_i i w T;simp only[γ,ι] at b;obtain⟨rfl,rfl⟩:=b;refine⟨id,_,by simp[M,eE],rfl,λo2 h=>⟨?_,trivial,trivial⟩⟩;simp_all[eE]
     ·rename_i T;simp only[γ,ι] at b;obtain⟨rfl,rfl⟩:=b;refine⟨id,_,by simp[M,eE],rfl,λo2 h=>⟨?_,trivial,trivial⟩⟩;simp_all[eE]
     ·cases b
   ·cases b
  ·cases b
 case call f u r=>cases r<;>simp[bT.bt] at H
 case ak7 f u r=>cases r<;>simp[bT.bt] at H
theorem pY (o:a_):∀(d:Nat) (vs:List AV) (acc:List Nat) (j:Nat),j∈acc->j∈cd o d vs acc
 |0,vs,acc,j,h=>by grind[cd];|d+1,[],acc,j,h=>by simp_all[cd];|d+1,v::vs,acc,j,h=>by
  rw[yB];apply pY o d;have e:∀c,j∈oB o d c acc:=by
   intro c;unfold oB;split;·exact h
   ·split
    ·split;·simp[h]
     ·exact pY o d _ _ j (by simp[h])
    ·split;·simp[h]
     ·exact pY o d _ _ j (by simp[h])
    ·simp[h]
  cases v with
  |agg g=>exact pY o d _ _ j h;|Gz g=>exact pY o d _ _ j h;|ptr c _ _=>exact e c;|os c _ _ _=>exact e c;|mp c=>exact e c;|fn f a b=>exact pY o d _ _ j (pY o d _ _ j h);|_=>exact h
theorem Yc (o:a_) (d id:Nat) (acc:List Nat):id∈oB o d id acc:=by
 grind[oB,pY]
theorem rX {o o2:a_}:∀(d:Nat) (vs:List AV) (acc:List Nat),(∀j∈cd o d vs acc,o2[j]?=o[j]?)->cd o2 d vs acc=cd o d vs acc
 |0,vs,acc,_=>by grind[cd];|d+1,[],acc,_=>by simp[cd];|d+1,v::vs,acc,h=>by
  rw[yB] at h;rw[yB,yB];have m:∀c,(∀j∈oB o d c acc,o2[j]?=o[j]?)->oB o2 d c acc=oB o d c acc:=by
   intro c g;have r:=g c (Yc o d c acc);unfold oB at g ⊢;split;·rfl
   ·rename_i q;rw[if_neg q] at g;rw[r];cases p:o[c]? with
    |none=>rfl;|some x=>
     rw[p] at g;cases x with
     |dead=>rfl;|cells l e w n=>
      cases n with
      |true=>rfl;|false=>exact rX d _ _ g
     |map s u n=>
      cases n with
      |true=>rfl;|false=>exact rX d _ _ g
  have k:tm o2 d v acc=tm o d v acc:=by
   have i:=λj g=>h j (pY o d vs _ j g);cases v with
   |agg l=>exact rX d l acc i;|Gz l=>exact rX d l acc i;|ptr c _ _=>exact m c i;|os c _ _ _=>exact m c i;|mp c=>exact m c i;|fn f a b=>
    have y:cd o2 d a acc=cd o d a acc:=rX d a acc λj g=>i j (pY o d b _ j g);have t:cd o2 d b (cd o d a acc)=cd o d b (cd o d a acc):=rX d b _ i;grind[tm];|_=>rfl
  rw[k];exact rX d vs _ h
theorem Oi {o o2:a_} {a:List Nat}:∀{r:List Nat},(∀j∈r,o2[j]?=o[j]?)->ki o2 a r=ki o a r
 |[],_=>rfl
 |i::r,h=>by
  simp only[ki];rw[h i (by simp),Oi λj b=>h j (by simp[b])]
theorem Oh:∀(a:List Nat) (o o2 X:a_) (j:Nat),o2.length=o.length->a.length=X.length->(j∈a\/o2[j]?=o[j]?)->(kK o2 a X)[j]?=(kK o a X)[j]?
 |[],o,o2,X,j,_,_,h=>by grind[kK];|i::r,o,o2,[],j,_,c,_=>by simp at c;|i::r,o,o2,x::l,j,b,c,h=>by
  simp only[kK];refine Oh r _ _ l j (by simp[b]) (by simp_all) ?_;grind
theorem Og {f:FuncId} {args:List AV} {o o':a_} {r:AV} (h:gT call f args o=some (r,o')):
  o.length<=o'.length/\(∀j,j<o.length->j∉cd o fc args []->o'[j]?=o[j]?)/\
  ∀o2:a_,o2.length=o.length->(∀j∈cd o fc args [],o2[j]?=o[j]?)->∃g,gT call f args o2=some (r,g)/\
   cd o2 fc args []=cd o fc args []/\∀j,(j∈cd o fc args []\/o.length<=j)->g[j]?=o'[j]?:=by
 have b:∀o2:a_,(∀j∈cd o fc args [],o2[j]?=o[j]?)->cd o2 fc args []=cd o fc args []:=λo2 h=>rX fc args [] h;have e:∀o2:a_,(∀j∈cd o fc args [],o2[j]?=o[j]?)->ki o2 (cd o fc args []) (cd o fc args [])=ki o (cd o fc args []) (cd o fc args []):=λo2 h=>Oi h;unfold gT at h;simp only at h;generalize q:cd o fc args []=a at h b e;split at h
 ·rename_i m l v y;split at h
  ·rename_i B i n;split at h;·cases h
   ·rename_i d;split at h
    ·rename_i A c x t;simp only[γ,ι] at h;obtain⟨rfl,rfl⟩:=h;simp only[not_or] at d;have u:=Gt t;have z:a.length=(c.take a.length).length:=by simp;omega
     refine⟨by simp[yA],λj s w=>?_,λo2 p k=>?_⟩;·grind[yA,AD]
     ·refine⟨kK o2 a (c.take a.length)++c.drop a.length,?_,b o2 k,λj s=>?_⟩
      ·unfold gT;grind
      grind[yA,Oh]
    ·cases h
  ·cases h
 ·cases h
end
end Go.Vi
