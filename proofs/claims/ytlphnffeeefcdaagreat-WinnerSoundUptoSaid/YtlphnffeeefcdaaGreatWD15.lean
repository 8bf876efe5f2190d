/-
  Plain laws: what the check of a proof says.
  Conditions: none.
-/
import Derived.Test.YtlphnffeeefcdaaGreatWD06
import Derived.Test.YtlphnffeeefcdaaGreatWD07
import Derived.Test.YtlphnffeeefcdaaGreatWD09
import Derived.Test.YtlphnffeeefcdaaGreatWD08
import Derived.Test.YtlphnffeeefcdaaGreatWD10
import Derived.Test.YtlphnffeeefcdaaGreatWD11
import Derived.Test.YtlphnffeeefcdaaGreatWD12
import Derived.Test.YtlphnffeeefcdaaGreatWD14
import Derived.Test.YtlphnffeeefcdaaGreatWD13
import Derived.Test.YtlphnffeeefcdaaGreatRows
import Derived.ProofKit
import Derived.JoinedCond
set_option maxRecDepth 100000
set_option maxHeartbeats 4000000
set_option linter.all false
open Bool renaming and_eq_true->ζ,true_and->γ3,and_true->γ8
open Classical renaming not_not->Ξ
open Go.Vi.SV renaming bl->δa,sb->γw,si->γe,row->Θ
open Int renaming toNat_natCast->Ψ,emod_nonneg->δj,emod_lt_of_pos->γZ,emod_add_emod->ζL,emod_eq_of_lt->δo
open IntCast renaming intCast->ι
open List renaming set_eq_of_length_le->ζf,mem_cons->γC,mem_append_left->δF,all_eq_true->κ,mem_range->γm,mem_append->γh,mem_cons_self->δh,length_set->τ,replicate->δ,length_replicate->γk,mem_map->γa,getElem_of_mem->γF,not_mem_nil->δr,mem_singleton->γT,getElem_mem->ζo,length_map->Ω,getElem_map->δB,nodup_cons->γU,map_cons->ξ,mem_cons_of_mem->γW,map_map->δg,length_take->γq,map_append->γb,mem_map_of_mem->δ2,map_nil->γs,take->ω,sum_cons->δH,range->ψ,length_range->δX,getElem?_cons_zero->γ2,getElem?_cons_succ->γz,cons_append->γy,nil_append->δp
open Nat renaming le_refl->φ
open Option renaming map_eq_some_iff->ε
open Option.some renaming injEq->γ
open Prod.mk renaming injEq->μ
open Rat renaming not_lt->εw,intCast_add->εC
namespace Go.Vi
theorem afa {t:List cQ} {u:List (Int×Bool)} {k:Int} {f g h:List Int} (hl:f.length=g.length) (hr:∀i,bj f i 0=if bj g i 0≠0 then bj g i 0 else bj h i 0):
  ∀i,bj (mJ t u k f) i 0=if bj (mJ t u k g) i 0≠0 then bj (mJ t u k g) i 0 else bj h i 0:=λi=>by
 unfold mJ;rw[hl];generalize (bj t (bj u k.toNat (0,false)).1.toNat bA.dflt).2.1=o;generalize (bj u k.toNat (0,false)).2=b;split
 ·by_cases hj:o.toNat<g.length
  ·rw[iN (by omega),iN hj];by_cases e:i=o.toNat
   ·rw[if_pos e,if_pos e];cases b<;>simp
   ·rw[if_neg e,if_neg e];exact hr i
  ·rw[ζf (by omega),ζf (by omega)];exact hr i
 ·exact hr i
theorem UW {t:List cQ} {u:List (Int×Bool)} {h:List Int}:∀{m:Nat} {k:Int} {f g:List Int},f.length=g.length->(∀i,bj f i 0=if bj g i 0≠0 then bj g i 0 else bj h i 0)->
  ∀i,bj (gR t u m k f) i 0=if bj (gR t u m k g) i 0≠0 then bj (gR t u m k g) i 0 else bj h i 0
 |0,_,_,_,_,hr=>hr
 |m+1,k,f,g,hl,hr=>by
  unfold gR;split;·exact UW (by rw[LA,LA];exact hl) (afa hl hr)
  ·exact hr
theorem UX {t:List cQ} {u u':List (Int×Bool)}:∀{m:Nat} {k:Int} {f:List Int},(∀x:Nat,(x:Int)<=k->bj u x (0,false)=bj u' x (0,false))->(∀x:Nat,(x:Int)<=k->0<x->0<=(bj u x (0,false)).1/\(bj u x (0,false)).1<x)->gR t u m k f=gR t u' m k f
 |0,_,_,_,_=>rfl
 |m+1,k,f,h1,h2=>by
  unfold gR;split
  ·rename_i hk;have e:=h1 k.toNat (by omega);have d:=h2 k.toNat (by omega) (by omega);have es:mJ t u k f=mJ t u' k f:=by unfold mJ;rw[e]
   rw[es,<-e];exact UX (λx hx=>h1 x (by omega)) λx hx h0=>h2 x (by omega) h0
  ·rfl
theorem UY {n:Nat} {i:Int}:∀{l c:List Int},uu n i c l=true->∀x∈l,(i<x/\x<n)/\x∉c
 |[],_,_,x,hx=>by cases hx;|y::l,c,h,x,hx=>by
  simp only[uu,ζ,decide_eq_true_eq] at h;rcases γC.1 hx with rfl|hx;·exact⟨h.1.1,h.1.2⟩
  ·have:=UY h.2 x hx;exact⟨this.1,λhm=>this.2 (δF _ hm)⟩
theorem E8 {t:List cQ} (h:dT t=true) {i:Nat} (hi:i<t.length):∀x∈jr (bj t i bA.dflt),((i:Int)<x/\x<t.length)/\x∉gQ t i:=by
 unfold dT at h;simp only[ζ,κ,γm] at h;have hn:=h.2.1 i hi;unfold jH at hn;simp only[ζ] at hn;exact UY hn.2
theorem E9 {t:List cQ} {x:Int}:∀{i:Nat},i<=t.length->(x∈gQ t i↔∃q,q<i/\x∈jr (bj t q bA.dflt))
 |0,_=>by simp[gQ];|i+1,hi=>by
  have hs:=@UA t i (by omega) (by omega);rw[show((i:Int)+1).toNat=i+1 by omega,Ψ] at hs;rw[hs,γh,E9 (by omega)];constructor
  ·rintro(⟨q,hq,hx⟩|hx);·exact⟨q,by omega,hx⟩
   ·exact⟨i,by omega,hx⟩
  ·rintro⟨q,hq,hx⟩;by_cases e:q=i;·rw[e] at hx;exact .inr hx
   ·exact .inl ⟨q,by omega,hx⟩
theorem UZ {t:List cQ} (ht:dT t=true) {i:Nat}:∀{j:Nat},i<=j->j<=t.length->∀x,x<=i->bj (eM t j) x (0,false)=bj (eM t i) x (0,false)
 |0,h1,_,_,_=>by rw[show i=0 by omega];|j+1,h1,h2,x,hx=>by
  by_cases e:i=j+1;·rw[e]
  ·rw[<-UZ ht (j:=j) (by omega) (by omega) x hx];conv=>lhs;unfold eM
   split
   ·rename_i hk;have hm:∀y∈[(bj t j bA.dflt).2.2.1,(bj t j bA.dflt).2.2.2.1],((j:Int)<y/\y<t.length)/\y∉gQ t j:=by
     have:=E8 ht (i:=j) (by omega);unfold jr at this;rwa [if_pos hk] at this
    have m1:=(hm _ (δh ..)).1;have m2:=(hm (bj t j bA.dflt).2.2.2.1 (by simp)).1;have l:=@sS t j;rw[iN (by rw[τ];omega),if_neg (by omega),iN (by omega),if_neg (by omega)]
   ·rfl
theorem LM {t:List cQ} (ht:dT t=true) {q:Nat} (hq:q<t.length) (h2:(bj t q bA.dflt).1=2):∀{j:Nat},q<j->j<=t.length->
  bj (eM t j) (bj t q bA.dflt).2.2.1.toNat (0,false)=((q:Int),false)/\bj (eM t j) (bj t q bA.dflt).2.2.2.1.toNat (0,false)=((q:Int),true)
 |0,h,_=>by omega;|j+1,h,hj=>by
  have kq:jr (bj t q bA.dflt)=[(bj t q bA.dflt).2.2.1,(bj t q bA.dflt).2.2.2.1]:=if_pos h2;have hm:=E8 ht hq;rw[kq] at hm;have m1:=(hm _ (δh ..)).1;have m2:=(hm (bj t q bA.dflt).2.2.2.1 (by simp)).1;have hne:(bj t q bA.dflt).2.2.1≠(bj t q bA.dflt).2.2.2.1:=by
   unfold dT at ht;simp only[ζ,κ,γm] at ht;have hn:=ht.2.1 q hq;unfold jH at hn;rw[kq] at hn;simp only[uu,ζ,decide_eq_true_eq] at hn;have:=hn.2.2.1.2;intro e;exact this (List.mem_append_right _ (by simp[e]))
  have l:=@sS t j;by_cases e:q=j
  ·subst e;unfold eM;rw[if_pos h2];have l':((eM t q).set (bj t q bA.dflt).2.2.1.toNat ((q:Int),false)).length=t.length:=by rw[τ,l]
   rw[iN (by omega),iN (by omega),if_neg (by omega),iN (by omega),if_pos rfl,if_pos rfl];exact⟨rfl,rfl⟩
  ·have ih:=LM ht hq h2 (j:=j) (by omega) (by omega);unfold eM;split
   ·rename_i hk;have Fa:=E8 ht (i:=j) (by omega);unfold jr at Fa;rw[if_pos hk] at Fa;have a1:=Fa _ (δh ..);have a2:=Fa (bj t j bA.dflt).2.2.2.1 (by simp);have c1:∀x∈[(bj t q bA.dflt).2.2.1,(bj t q bA.dflt).2.2.2.1],x∈gQ t j:=λx hx=>(E9 (by omega)).2 ⟨q,by omega,by rw[kq];exact hx⟩;have b1:=c1 _ (δh ..);have b2:=c1 (bj t q bA.dflt).2.2.2.1 (by simp);have ne:∀x y:Int,x∈gQ t j->y∉gQ t j->x≠y:=λx y hx hy e=>hy (e▸hx);have n1:=ne _ _ b1 a1.2;have n2:=ne _ _ b1 a2.2;have n3:=ne _ _ b2 a1.2;have n4:=ne _ _ b2 a2.2;have l':((eM t j).set (bj t j bA.dflt).2.2.1.toNat ((j:Int),false)).length=t.length:=by rw[τ,l]
    rw[iN (by omega),if_neg (by omega),iN (by omega),if_neg (by omega),iN (by omega),if_neg (by omega),iN (by omega),if_neg (by omega)];exact ih
   ·exact ih
theorem U0 {n i:Nat}:bj (δ n (0:Int)) i 0=0:=by
 unfold bj;rw[List.getElem?_replicate];split<;>rfl
theorem uw {p:bn} {t:List cQ} {i:Nat}:(gi p t i).length=p.offers.length:=by
 unfold gi;rw[LC,γk]
theorem U1 {p:bn} {t:List cQ} (ht:dT t=true) {q:Nat} (hq:q<t.length) (h2:(bj t q bA.dflt).1=2) (o0:0<=(bj t q bA.dflt).2.1/\(bj t q bA.dflt).2.1<p.offers.length) (hz:bj (gi p t q) (bj t q bA.dflt).2.1.toNat 0=0):
  gi p t (bj t q bA.dflt).2.2.1.toNat=(gi p t q).set (bj t q bA.dflt).2.1.toNat (-1)/\gi p t (bj t q bA.dflt).2.2.2.1.toNat=(gi p t q).set (bj t q bA.dflt).2.1.toNat 1:=by
 have hm:=E8 ht hq;unfold jr at hm;rw[if_pos h2] at hm;have m1:=(hm _ (δh ..)).1;have m2:=(hm (bj t q bA.dflt).2.2.2.1 (by simp)).1;have key:∀(c:Int) (b:Bool),((q:Int)<c/\c<t.length)->bj (eM t c.toNat) c.toNat (0,false)=((q:Int),b)->gi p t c.toNat=(gi p t q).set (bj t q bA.dflt).2.1.toNat (if b then 1 else -1):=λc b hc hb=>by
  have hu:=LG ht (i:=c.toNat) (by omega);have hs:=@UT t (eM t c.toNat) hu c (δ p.offers.length 0) (by omega) (by omega);rw[hb] at hs;simp only[Ψ] at hs;have e0:gi p t c.toNat=gR t (eM t c.toNat) c.toNat c (δ p.offers.length 0):=by
   unfold gi;rw[show((c.toNat:Nat):Int)=c by omega]
  have e1:mJ t (eM t c.toNat) c (δ p.offers.length 0)=(δ p.offers.length 0).set (bj t q bA.dflt).2.1.toNat (if b then 1 else -1):=by
   unfold mJ;rw[hb];simp only[Ψ,γk];rw[if_pos o0.2]
  have e2:gR t (eM t c.toNat) q q ((δ p.offers.length 0).set (bj t q bA.dflt).2.1.toNat (if b then 1 else -1))=gR t (eM t q) q q ((δ p.offers.length 0).set (bj t q bA.dflt).2.1.toNat (if b then 1 else -1)):=
   UX (λx hx=>UZ ht (by omega) (by omega) x (by omega)) λx hx h0=>⟨(hu.2 x (by omega)).1,(hu.2 x (by omega)).2 h0⟩;rw[e0,hs,e1,e2];have hF:gR t (eM t q) q q (δ p.offers.length 0)=gi p t q:=rfl;have hov:=@UW t (eM t q) ((δ p.offers.length 0).set (bj t q bA.dflt).2.1.toNat (if b then 1 else -1)) q q ((δ p.offers.length 0).set (bj t q bA.dflt).2.1.toNat (if b then 1 else -1)) (δ p.offers.length 0) (by rw[τ]) (λi=>by rw[@U0 p.offers.length i];simp);rw[hF] at hov;refine Le 0 (by rw[LC,τ,τ,uw,γk]) λi _=>?_;rw[hov i,iN (by rw[γk];omega),iN (by rw[uw];omega),U0];by_cases e:i=(bj t q bA.dflt).2.1.toNat;·rw[if_pos e,if_pos e,e,hz,if_neg (by simp)]
  ·rw[if_neg e,if_neg e];by_cases hn:bj (gi p t q) i 0=0;·rw[if_neg (by simp[hn]),hn]
   ·rw[if_pos hn]
 have k1:=(LM ht hq h2 (j:=(bj t q bA.dflt).2.2.1.toNat) (by omega) (by omega)).1;have k2:=(LM ht hq h2 (j:=(bj t q bA.dflt).2.2.2.1.toNat) (by omega) (by omega)).2;exact⟨key _ false m1 k1,key _ true m2 k2⟩
def inT (a lo hi j:Nat):Prop:=j=a\/(lo<=j/\j<hi)
section
variable {p:bn} {v:Int} {t:List cQ} {a lo hi:Nat} {f:List Int}
theorem afb (h:eT p f) (hf:eI p f):wj p f (fL (gh p f)):=
 ⟨⟨hf.c,hf.l,hf.r⟩,gh p f,rfl,EB,λ_=>1000,λk hk=>(J3 h hk).2,by
  have:∀n,o7 n (λ_=>1000)=n*1000:=λn=>by
   induction n with
   |zero=>rfl;|succ n ih=>simp only[o7];rw[ih];omega
  have h2:=E3 hf.c;rw[this];omega⟩
theorem afc (h:eT p f):posB (fL (gh p f))=true:=by
 unfold posB fL;rw[κ];intro x hx;obtain⟨q,hq,rfl⟩:=γa.1 hx;obtain⟨i,hi,rfl⟩:=γF hq;have hb:=(J3 h (r:=i) (by rw[<-EB (p:=p) (f:=f)];exact hi)).1;rw[cV hi] at hb;have e:(bu (gh p f)[i]).1=false:=decide_eq_false (εw.2 hb);rw[e];rfl
theorem afd {l:List Rat} {K:Nat} (hK:K<=1000000) (h:∀k,k<l.length->Sz K (bj l k 0)):∀x∈fL l,iP x:=λx hx=>by
 unfold fL at hx;obtain⟨q,hq,rfl⟩:=γa.1 hx;obtain⟨i,hi,rfl⟩:=γF hq;have hs:=h i hi;rw[cV hi] at hs;obtain⟨s1,⟨u1,u2,u3⟩,⟨u4,u5,u6⟩⟩:=lu l[i];obtain⟨m1,m2⟩:=oQ hs;exact⟨⟨u1,u4⟩,by omega,by omega⟩
theorem afe (hf:eI p f) (hb:ic p f=true):rH (qL p f)=true/\kx p (qL p f)=true/\(∀x∈(qL p f).2.2.2.2,iP x)/\jr (qL p f)=[]:=by
 have hm:mF p<=20:=by have:=(dN hf.c).1;unfold mF;omega
 have hl:(fL (gh p f)).length=mF p:=by rw[ft,EB]
 refine⟨?_,?_,afd (K:=1000) (by omega) λk hk=>(J3 (hf.ok hb) (by rw[EB] at hk;exact hk)).2,rfl⟩
 ·show wf1 (qL p f)=true;have e:(qL p f).2.2.2.2=fL (gh p f):=rfl;unfold wf1;rw[e,hl,decide_eq_true (show mF p<=40 by omega)];have h1:rG (qL p f)=true:=rfl;rw[h1,γ3,γ3,κ];intro x hx;unfold fL at hx;obtain⟨q,_,rfl⟩:=γa.1 hx;exact EL q
 ·have e:(qL p f).2.2.2.2=fL (gh p f):=rfl;unfold kx;rw[e,hl,decide_eq_false (p:=((mF p:Nat):Int)≠cZ p) (by unfold cZ mF;omega),Bool.and_false];rfl
theorem aff (h:jb p v t a f lo hi) (hf:eI p f) (hl:t.length<=65536):
  (∀j,inT a lo hi j->j<t.length/\rH (bj t j bA.dflt)=true/\kx p (bj t j bA.dflt)=true/\(∀x∈(bj t j bA.dflt).2.2.2.2,iP x)/\(jr (bj t j bA.dflt)=[]\/∃x:Nat,jr (bj t j bA.dflt)=[(x:Int),((x+1:Nat):Int)]/\j<x/\lo<=x/\x+1<hi))
  /\(∀q r (x:Int),inT a lo hi q->inT a lo hi r->x∈jr (bj t q bA.dflt)->x∈jr (bj t r bA.dflt)->q=r)
  /\(∀x:Nat,lo<=x->x<hi->∃q,inT a lo hi q/\(x:Int)∈jr (bj t q bA.dflt)):=by
 induction h with
 |@bnd a f lo h1 h2 h3=>
  obtain⟨e1,e2⟩:=yw (d:=bA.dflt) h1;obtain⟨b1,b2,b3,b4⟩:=afe hf h2;have hj:∀j,inT a lo lo j->j=a:=λj h=>by unfold inT at h;omega
  refine⟨λj h=>?_,λq r x hq hr _ _=>by rw[hj q hq,hj r hr],λx h0 h1=>by omega⟩;rw[hj j h,e1];exact⟨e2,b1,b2,b3,.inl b4⟩;|@con a f lo h1 h2=>
  obtain⟨e1,e2⟩:=yw (d:=bA.dflt) h1;have hj:∀j,inT a lo lo j->j=a:=λj h=>by unfold inT at h;omega
  refine⟨λj h=>?_,λq r x hq hr _ _=>by rw[hj q hq,hj r hr],λx h0 h1=>by omega⟩;rw[hj j h,e1];exact⟨e2,by decide,rfl,(λx hx=>by cases hx),.inl rfl⟩;|@sL a f lo mid hi k h1 h2 h3 h4 h5 h6 i1 i2=>
  obtain⟨e1,e2⟩:=yw (d:=bA.dflt) h1;have l1:=h5.le;have l2:=h6.le;have xY:=(jb.sL h1 h2 h3 h4 h5 h6).top.2 (by omega);have h160:=(dN hf.c).2.1;have hfl:=hf.l;obtain⟨f1,g1,c1⟩:=i1 (hf.set (by omega));obtain⟨f2,g2,c2⟩:=i2 (hf.set (by omega));have hk:jr (bj t a bA.dflt)=[(lo:Int),((lo+1:Nat):Int)]:=by rw[e1];rfl
  have hin:∀j,inT a lo hi j->j=a\/inT (lo+1) (lo+2) mid j\/inT lo mid hi j:=λj h=>by unfold inT at h ⊢;omega
  have s1:∀j (x:Int),inT (lo+1) (lo+2) mid j->x∈jr (bj t j bA.dflt)->(lo:Int)+2<=x/\x<mid:=λj x hj hx=>by
   rcases(f1 j hj).2.2.2.2 with h|⟨y,h,_,_,_⟩;·rw[h] at hx;cases hx
   ·rw[h] at hx;simp only[γC,δr,or_false] at hx;omega
  have s2:∀j (x:Int),inT lo mid hi j->x∈jr (bj t j bA.dflt)->(mid:Int)<=x/\x<hi:=λj x hj hx=>by
   rcases(f2 j hj).2.2.2.2 with h|⟨y,h,_,_,_⟩;·rw[h] at hx;cases hx
   ·rw[h] at hx;simp only[γC,δr,or_false] at hx;omega
  have s0:∀x:Int,x∈jr (bj t a bA.dflt)->(lo:Int)<=x/\x<lo+2:=λx hx=>by
   rw[hk] at hx;simp only[γC,δr,or_false] at hx;omega
  refine⟨λj h=>?_,λq r x hq hr xq xr=>?_,λx h0 h1=>?_⟩
  ·rcases hin j h with rfl|h|h
   ·refine⟨e2,?_,?_,?_,.inr ⟨lo,hk,h2,φ _,by omega⟩⟩
    ·rw[e1];show wf2 (jR k lo)=true;have r1:kY k=true:=by unfold kY;rw[decide_eq_true (by omega),decide_eq_true (by omega)];rfl
     have r2:kY (lo:Int)=true:=by unfold kY;rw[decide_eq_true (by omega),decide_eq_true (by omega)];rfl
     have r3:kY ((lo:Int)+1)=true:=by unfold kY;rw[decide_eq_true (by omega),decide_eq_true (by omega)];rfl
     show(kY k&&kY (lo:Int)&&kY ((lo:Int)+1)&&decide (([]:List bM)=[]))=true;rw[r1,r2,r3];rfl
    ·rw[e1];rfl
    ·rw[e1];intro x hx;cases hx
   ·obtain⟨q1,q2,q3,q4,q5⟩:=f1 j h;exact⟨q1,q2,q3,q4,q5.imp id λ⟨x,w1,w2,w3,w4⟩=>⟨x,w1,w2,by omega,by omega⟩⟩
   ·obtain⟨q1,q2,q3,q4,q5⟩:=f2 j h;exact⟨q1,q2,q3,q4,q5.imp id λ⟨x,w1,w2,w3,w4⟩=>⟨x,w1,w2,by omega,by omega⟩⟩
  ·rcases hin q hq with rfl|hq|hq
   ·have a1:=s0 x xq;rcases hin r hr with rfl|hr|hr;·rfl
    ·have:=s1 r x hr xr;omega
    ·have:=s2 r x hr xr;omega
   ·have a1:=s1 q x hq xq;rcases hin r hr with rfl|hr|hr;·have:=s0 x xr;omega
    ·exact g1 q r x hq hr xq xr
    ·have:=s2 r x hr xr;omega
   ·have a1:=s2 q x hq xq;rcases hin r hr with rfl|hr|hr;·have:=s0 x xr;omega
    ·have:=s1 r x hr xr;omega
    ·exact g2 q r x hq hr xq xr
  ·by_cases q1:x<lo+2
   ·refine⟨a,.inl rfl,?_⟩;rw[hk];simp only[γC,δr,or_false];omega
   ·by_cases q2:x<mid
    ·obtain⟨q,hq,hx⟩:=c1 x (by omega) q2;exact⟨q,by unfold inT at hq ⊢;omega,hx⟩
    ·obtain⟨q,hq,hx⟩:=c2 x (by omega) h1;exact⟨q,by unfold inT at hq ⊢;omega,hx⟩
theorem afg (h:jb p v t 0 f 1 t.length) (hf:eI p f) (h0:1<=t.length) (hl:t.length<=65536):dT t=true/\t.all (kx p)=true/\∀n∈t,∀x∈n.2.2.2.2,iP x:=by
 obtain⟨q1,q2,q3⟩:=aff h hf hl;have hin:∀j,j<t.length->inT 0 1 t.length j:=λj hj=>by unfold inT;omega
 refine⟨?_,κ.2 λn hn=>?_,λn hn=>?_⟩
 ·unfold dT;simp only[ζ,decide_eq_true_eq,κ,γm];refine⟨⟨h0,hl⟩,λi hi=>?_,λk hk=>?_⟩
  ·obtain⟨w1,w2,_,_,w5⟩:=q1 i (hin i hi);unfold jH;rw[w2,γ3];rcases w5 with w|⟨x,w,w6,w7,w8⟩;·rw[w];rfl
   ·have hn:∀y:Int,y∈jr (bj t i bA.dflt)->y∉gQ t i:=λy hy hm=>by
     obtain⟨q,hq,hyq⟩:=(E9 (by omega)).1 hm;have:=q2 q i y (hin q (by omega)) (hin i hi) hyq hy;omega
    rw[w] at hn ⊢;have n1:=hn (x:Int) (by simp);have n2:=hn ((x+1:Nat):Int) (by simp);simp only[uu,ζ,decide_eq_true_eq,γ8];refine⟨⟨by omega,n1⟩,by omega,λhm=>?_⟩;rcases γh.1 hm with hm|hm;·exact n2 hm
    ·have:=γT.1 hm;omega
  ·obtain⟨q,hq,hx⟩:=q3 (k+1) (by omega) (by omega);refine(E9 (φ _)).2 ⟨q,?_,by rw[show((k:Int)+1)=((k+1:Nat):Int) by omega];exact hx⟩;unfold inT at hq;omega
 ·obtain⟨j,hj,rfl⟩:=γF hn;have:=(q1 j (hin j hj)).2.2.1;rwa [cV hj] at this
 ·obtain⟨j,hj,rfl⟩:=γF hn;have:=(q1 j (hin j hj)).2.2.2.1;rwa [cV hj] at this
theorem afh (h:eT p f):iG p f (vL (fL (gh p f))) f.length=ja p f:=by
 have hl:f.length=p.offers.length:=h.2.1;unfold iG;rw[kJ,aeO h];have:bN f.length (λk=>if bj f k 0=0/\0<iz p (gh p f) (mF p) k then iz p (gh p f) (mF p) k else 0)=0:=by
  rw[dn (g:=λ_=>0) λk hk=>?_,hZ];refine if_neg λhh=>?_;have:=aeN h (i:=(k:Int)) (by omega) (by rw[Ψ];exact hh.1);exact absurd hh.2 (εw.2 this)
 rw[this];grind
theorem afi (h:jb p v t a f lo hi) (ht:dT t=true) (hf:eI p f) (ha:gi p t a=f):∀j,inT a lo hi j->pQ p v (gi p t j) (bj t j bA.dflt)=true/\((bj t j bA.dflt).1=1->wj p (gi p t j) (bj t j bA.dflt).2.2.2.2):=by
 induction h with
 |@bnd a f lo h1 h2 h3=>
  obtain⟨e1,e2⟩:=yw (d:=bA.dflt) h1;intro j hj;have:j=a:=by unfold inT at hj;omega
  rw[this,ha,e1];refine⟨?_,λ_=>afb (hf.ok h2) hf⟩;show(posB (fL (gh p f))&&decide (iG p f (vL (fL (gh p f))) f.length<ι v+1))=true;rw[afh (hf.ok h2),afc (hf.ok h2),γ3,decide_eq_true_eq];have e:((v+1:Int):Rat)=(ι v:Rat)+1:=by rw[εC];rfl
  rw[<-e];exact h3;|@con a f lo h1 h2=>
  obtain⟨e1,e2⟩:=yw (d:=bA.dflt) h1;intro j hj;have:j=a:=by unfold inT at hj;omega
  rw[this,ha,e1];have hfe:bW p (bC f 1)≠0:=λh=>by
   have:=(AX hf.c (J5 hf.l)).1 h;unfold ic at h2;rw[this] at h2;cases h2
  refine⟨?_,λh=>?_⟩
  ·show decide (bW p (bC f 1)≠0)=true;exact decide_eq_true hfe
  ·have:(3:Int)=1:=h;omega;|@sL a f lo mid hi k h1 h2 h3 h4 h5 h6 i1 i2=>
  obtain⟨e1,e2⟩:=yw (d:=bA.dflt) h1;have hk2:(bj t a bA.dflt).1=2:=by rw[e1];rfl
  have ho:(bj t a bA.dflt).2.1=k:=by rw[e1];rfl
  have ho1:(bj t a bA.dflt).2.2.1=lo:=by rw[e1];rfl
  have ho2:(bj t a bA.dflt).2.2.2.1=(lo:Int)+1:=by rw[e1];rfl
  have hl:=hf.l;have hx:=U1 (p:=p) ht e2 hk2 (by rw[ho];omega) (by rw[ho,ha];exact h4);rw[ho,ho1,ho2,ha,Ψ,show((lo:Int)+1).toNat=lo+1 by omega] at hx;intro j hj;rcases(show j=a\/inT (lo+1) (lo+2) mid j\/inT lo mid hi j by unfold inT at hj ⊢;have:=h5.le;have:=h6.le;omega) with rfl|hj|hj
  ·rw[ha,e1];refine⟨?_,λh=>?_⟩
   ·show(decide (k<f.length)&&decide (bj f k.toNat 0=0))=true;rw[decide_eq_true h3.2,decide_eq_true h4];rfl
   ·have:(2:Int)=1:=h;omega
  ·exact i1 (hf.set (by omega)) hx.2 j hj
  ·exact i2 (hf.set (by omega)) hx.1 j hj
theorem afj (h:jb p v t 0 (gK p) 1 t.length) (hc:bB p=0) (h0:1<=t.length) (hl:t.length<=65536):(∀w, -9223372036854775808<=w/\w<=9223372036854775807->pS p w t)/\o8 p v t=0:=by
 obtain⟨q1,q2,q3⟩:=afg h (og hc) h0 hl;have hfo:=afi h q1 (og hc) rfl;have hin:∀j,j<t.length->inT 0 1 t.length j:=λj hj=>by unfold inT;omega
 refine⟨λw hw=>⟨q3,by omega,λ_ _ _=>⟨⟨hc,q1⟩,hw,λi hi h1=>(hfo i (hin i hi)).2 h1⟩⟩,?_⟩
 ·have hb:pR p v t=true:=by
   unfold pR;rw[κ];intro i hi;exact(hfo i (hin i (γm.1 hi))).1
  unfold o8;rw[if_neg (by simp[hc]),if_neg (by omega),if_neg (by omega),if_neg (by rw[q1];simp),if_neg (by rw[q2];simp),if_pos hb]
end
theorem U2 {g:Nat->Nat->Rat} {m:Nat}:∀{n:Nat},(bN n λi=>bN m λr=>g r i)=bN m λr=>bN n λi=>g r i
 |0=>by
  simp only[bN];rw[hZ];|n+1=>by
  simp only[bN];rw[U2,<-sA]
theorem Fb {g:Int->Int} {n:Nat} {l:List Int} (h:eL n l):((((l.map g).sum:Int)):Rat)=bN n λi=>if(i:Int)∈l then((g i:Int):Rat) else 0:=by
 have hp:l.Perm ((dH n).filter λx=>decide (x∈l)):=by
  refine(List.perm_ext_iff_of_nodup (yk h) ((vJ.sublist List.filter_sublist).imp λh=>by omega)).2 λx=>?_;rw[List.mem_filter,decide_eq_true_eq];refine⟨λhx=>⟨?_,hx⟩,λhx=>hx.2⟩;have:=h.2 x hx;exact nk.2 this
 rw[JM (hp.map g),Eu,<-Ew,pH,gG];refine dn λi hi=>?_;have e:bj (dH n) i 0=(i:Int):=by
  rw[cV (by rw[gG];exact hi)];simp[dH]
 rw[e];split;·rw[Rat.mul_one]
 ·rw[Rat.mul_zero]
theorem afk {p:bn} {f l:List Int} {y:List Rat} (hc:bB p=0) (hfl:f.length=p.offers.length) (hr:gp f=true) (hl:eL p.offers.length l) (hfit:fy p (l.map (oI p))=true) (ha:yv f l) (hy:∀k,k<mF p->0<=bj y k 0):
  ((cu (l.map (oI p)):Int):Rat)<=iG p f y f.length:=by
 have hA:eL p.offers.length (bC f 1):=J5 hfl;have key:∀i:Nat,i<p.offers.length->(if(i:Int)∈l then(((oI p i).value:Int):Rat) else 0)<=(if(i:Int)∈bC f 1 then(((oI p i).value:Int):Rat) else 0)+(bN (mF p) (λr=>bj y r 0*((if(i:Int)∈l then((dK p r (oI p i):Int):Rat) else 0) - (if(i:Int)∈bC f 1 then((dK p r (oI p i):Int):Rat) else 0)))+if bj f i 0=0/\0<iz p y (mF p) i then iz p y (mF p) i else 0):=λi hi=>by
  have hm:(i:Int)∈bC f 1↔bj f i 0=1:=by
   rw[kh,Ψ];exact⟨λh=>h.2,λh=>⟨by omega,h⟩⟩
  have hrg:=κ.1 hr _ (dj (d:=0) (show i<f.length by omega));simp only[ζ,decide_eq_true_eq] at hrg;by_cases h1:bj f i 0=1
  ·have hil:(i:Int)∈l:=ha.2 _ (hm.2 h1);rw[if_pos hil,if_pos (hm.2 h1),if_neg (λh=>by rw[h1] at h;exact absurd h.1 (by decide)),dn (g:=λ_=>0) λr _=>by rw[if_pos hil,if_pos (hm.2 h1)];grind,hZ];grind
  ·have hn:(i:Int)∉bC f 1:=λh=>h1 (hm.1 h);by_cases hil:(i:Int)∈l
   ·have h0:bj f i 0=0:=by
     have:=ha.1 _ hil;rw[Ψ] at this;omega
    rw[if_pos hil,if_neg hn,dn (g:=λr=>bj y r 0*((dK p r (oI p i):Int):Rat)) λr _=>by rw[if_pos hil,if_neg hn];grind];have he:iz p y (mF p) i=(((oI p i).value:Int):Rat) - bN (mF p) λr=>bj y r 0*((dK p r (oI p i):Int):Rat):=rfl;split<;>grind
   ·rw[if_neg hil,if_neg hn,dn (g:=λ_=>0) λr _=>by rw[if_neg hil,if_neg hn];grind,hZ];split<;>grind
 have h1:=Ee key;rw[sA,sA,U2] at h1;have e1:=@Fb (λi=>(oI p i).value) _ _ hl;have e2:=@Fb (λi=>(oI p i).value) _ _ hA;have h2:(bN (mF p) λr=>bN p.offers.length λi=>bj y r 0*((if(i:Int)∈l then((dK p r (oI p i):Int):Rat) else 0) - (if(i:Int)∈bC f 1 then((dK p r (oI p i):Int):Rat) else 0)))<=bN (mF p) λr=>bj y r 0*((df p r - cG p ((bC f 1).map (oI p)) r:Int):Rat):=by
  refine Ee λr hr=>?_;rw[uf,D8,<-@Fb (λi=>dK p r (oI p i)) _ _ hl,<-@Fb (λi=>dK p r (oI p i)) _ _ hA,<-sH,<-sH,<-Rat.intCast_sub];refine Rat.mul_le_mul_of_nonneg_left ?_ (hy r hr);have:=nS.1 hfit r (by have:r<p.classes.length+12:=hr;unfold cZ;omega);exact_mod_cast (show cG p (l.map (oI p)) r - cG p ((bC f 1).map (oI p)) r<=df p r - cG p ((bC f 1).map (oI p)) r by omega)
 rw[<-e1,<-e2,<-AQ,<-AQ] at h1;unfold iG ku gd;rw[hfl];grind
theorem U3 {n:Nat}:gp (δ n 0)=true:=by
 unfold gp;rw[κ];intro x hx;rw[List.eq_of_mem_replicate hx];rfl
theorem U4 {t:List cQ} (ht:dT t=true) {i:Nat} (hi:i<t.length) (h1:(bj t i bA.dflt).1=1):∀x∈(bj t i bA.dflt).2.2.2.2,okF x=true:=by
 unfold dT at ht;simp only[ζ,κ,γm] at ht;have hn:=ht.2.1 i hi;unfold jH at hn;rw[ζ] at hn;have hw:=hn.1;unfold rH at hw;rw[if_pos h1] at hw;unfold wf1 at hw;rw[ζ] at hw;exact κ.1 hw.2
theorem afl {x:List bM} (ho:∀e∈x,okF e=true) (hp:posB x=true) (k:Nat):0<=bj (vL x) k 0:=by
 by_cases hk:k<x.length
 ·have hm:=ζo hk;have h1:=of_decide_eq_true (ho _ hm);have h2:=κ.1 hp _ hm;have e:bj (vL x) k 0=bQ x[k]:=by
   rw[cV (by unfold vL;rw[Ω];exact hk)];simp[vL]
  rw[e];rw[<-h1] at h2;have h3:decide (bQ x[k]<0)=false:=by
   have:(bu (bQ x[k])).1=decide (bQ x[k]<0):=rfl;rw[<-this];simpa using h2
  exact εw.1 (of_decide_eq_false h3)
 ·have:bj (vL x) k 0=0:=by
   unfold bj;rw[List.getElem?_eq_none (by unfold vL;rw[Ω];omega)];rfl
  rw[this];exact Rat.le_refl
theorem LN {p:bn} {v:Int} {t:List cQ} (hc:bB p=0) (ht:dT t=true) (hb:pR p v t=true) {l:List Int} (hl:eL p.offers.length l) (hfit:fy p (l.map (oI p))=true):
  ∀{m i:Nat},i<t.length->t.length<=i+m->gp (gi p t i)=true->yv (gi p t i) l->cu (l.map (oI p))<=v
 |0,i,h1,h2,_,_=>by omega;|m+1,i,h1,h2,hr,ha=>by
  have hn:pQ p v (gi p t i) (bj t i bA.dflt)=true:=κ.1 hb i (γm.2 h1);have hno:=E5 ht h1;unfold pQ at hn;split at hn
  ·rename_i k1;rw[ζ,decide_eq_true_eq] at hn;have hw:=afk hc uw hr hl hfit ha (y:=vL (bj t i bA.dflt).2.2.2.2) λk _=>afl (U4 ht h1 k1) hn.1 k;have hlt:=hn.2;have e:((v+1:Int):Rat)=(ι v:Rat)+1:=by rw[εC];rfl
   rw[<-e] at hlt;have h5:((cu (l.map (oI p)):Int):Rat)<((v+1:Int):Rat):=by grind
   have h6:cu (l.map (oI p))<v+1:=by exact_mod_cast h5
   omega
  split at hn
  ·rename_i k1 k2;simp only[ζ,decide_eq_true_eq] at hn;obtain⟨o1,o2⟩:=hn;have o3:=hno.1;rw[uw] at o1;obtain⟨x1,x2⟩:=U1 (p:=p) ht h1 k2 ⟨o3,o1⟩ o2;obtain⟨⟨a1,a2⟩,b1,b2⟩:=hno.2 k2;by_cases hk:(bj t i bA.dflt).2.1∈l
   ·refine LN hc ht hb hl hfit (m:=m) (i:=(bj t i bA.dflt).2.2.2.1.toNat) (by omega) (by omega) ?_ ?_;·rw[x2];exact AW hr (by omega)
    ·rw[x2];exact EF (by rw[uw];omega) o2 (λi hi=>(hl.2 i hi).1) ha (.inl ⟨rfl,hk⟩)
   ·refine LN hc ht hb hl hfit (m:=m) (i:=(bj t i bA.dflt).2.2.1.toNat) (by omega) (by omega) ?_ ?_;·rw[x1];exact AW hr (by omega)
    ·rw[x1];exact EF (by rw[uw];omega) o2 (λi hi=>(hl.2 i hi).1) ha (.inr ⟨rfl,hk⟩)
  split at hn
  ·exfalso;have hn:=of_decide_eq_true hn;refine hn ((AX hc (J5 uw)).2 ?_);exact TS hc hl.2 (sD.imp λh=>by omega) ha.2 (yk hl) hfit
  ·cases hn
theorem afm {p:bn} {v:Int} {t:List cQ} (h:o8 p v t=0):bB p=0/\0<t.length/\t.length<=65536/\dT t=true/\t.all (kx p)=true/\pR p v t=true:=by
 unfold o8 at h;split at h;·rename_i h1;exact absurd h h1
 split at h;·cases h
 split at h;·cases h
 split at h;·cases h
 split at h;·cases h
 split at h
 ·rename_i h1 h2 h3 h4 h5 h6;exact⟨Ξ.1 h1,by omega,by omega,by simpa using h4,by simpa using h5,h6⟩
 ·cases h
theorem U5 {p:bn} {v:Int} {t:List cQ} (h:o8 p v t=0) {l:List Int} (hl:bW p l=0):de p l<=v:=by
 obtain⟨hc,h1,_,ht,_,hb⟩:=afm h;obtain⟨_,ha⟩:=sE hl;rw[v8 hc ha];have hz:gi p t 0=gK p:=rfl;exact LN hc ht hb ha ((AX hc ha).1 hl) (m:=t.length) (i:=0) h1 (by omega) (by rw[hz];exact U3) (by rw[hz];exact TX ha)
theorem U6 {p:bn} (h:bB p=0):(p.offers.map Off.key).Nodup:=by
 unfold bB at h;split at h;·rename_i h1;exact absurd h h1
 ·exact(Dl h).1
theorem U7 {p:bn} (hc:bB p=0) {L:List Off} (hl:L.length<=p.offers.length) (hm:∀x∈L,x∈p.offers) (hn:(L.map Off.key).Nodup):bB (qx p L)=0:=by
 have hz:=tP hc;refine Un ?_ (λx hx=>?_) hn
 ·obtain⟨f1,f2,f3,f4,f5⟩:=tM hz.1;exact HA (p:=qx p L) f1 (λj hj=>by have h:=(nT (p:=p) (k:=j)).1 (f2 j hj);exact nT.2 h) (by simp only[qx];omega) f5
 ·exact hz.2 x (hm x hx)
theorem LO {p:bn} {L M:List Off} (h1:bB (qx p L)=0) (h2:bB (qx p M)=0) (h:∀x∈L,x∈M):o6 (qx p L)<=o6 (qx p M):=by
 obtain⟨X,q1,q2,q3⟩:=H8 h1;have e:o6 (qx p L)=cu X:=q3.symm;rw[e];exact Dt h2 q1 λx hx=>h x (q2 x hx)
def pU (n by' i:Int):Int:=if 128<=by' then n - 1 - (i+by') % n else(i+by') % n
def lA (p:bn) (by':Int) (m:Nat):List Off:=(dH m).map λi=>oI p (pU p.offers.length by' i)
def Fe (p:bn) (by':Int):bn:=qx p (lA p by' p.offers.length)
theorem LP {n by' i:Int} (hn:0<n):0<=pU n by' i/\pU n by' i<n:=by
 have h1:=δj (i+by') (by omega:n≠0);have h2:=γZ (i+by') hn;unfold pU;split<;>omega
theorem afn {n by' i j:Int} (hi:0<=i/\i<n) (hj:0<=j/\j<n) (h:pU n by' i=pU n by' j):i=j:=by
 have e:(i+by') % n=(j+by') % n:=by
  unfold pU at h;split at h<;>omega
 have back:∀x:Int,0<=x/\x<n->x=((x+by') % n+(-by')) % n:=λx hx=>by
  rw[ζL,show x+by'+ -by'=x by omega,δo hx.1 hx.2]
 rw[back i hi,back j hj,e]
theorem afo {n by' j:Int} (hj:0<=j/\j<n):∃i,(0<=i/\i<n)/\pU n by' i=j:=by
 have key:∀x:Int,0<=x/\x<n->((x - by') % n+by') % n=x:=λx hx=>by
  rw[ζL,show x - by'+by'=x by omega,δo hx.1 hx.2]
 have rng:∀x:Int,0<=x % n/\x % n<n:=λx=>⟨δj x (by omega),γZ x (by omega)⟩;by_cases hb:128<=by'
 ·refine⟨(n - 1 - j - by') % n,rng _,?_⟩;unfold pU;rw[if_pos hb,key (n - 1 - j) (by omega)];omega
 ·refine⟨(j - by') % n,rng _,?_⟩;unfold pU;rw[if_neg hb,key j hj]
theorem afp {p:bn} (hc:bB p=0) {i j:Int} (hi:0<=i/\i<p.offers.length) (hj:0<=j/\j<p.offers.length) (h:(oI p i).key=(oI p j).key):i=j:=by
 have hn:=U6 hc;have h1:i.toNat<(p.offers.map Off.key).length:=by rw[Ω];omega
 have h2:j.toNat<(p.offers.map Off.key).length:=by rw[Ω];omega
 have e:(p.offers.map Off.key)[i.toNat]=(p.offers.map Off.key)[j.toNat]:=by
  rw[δB,δB];unfold oI at h;rwa [cV (by omega),cV (by omega)] at h
 have:=(List.getElem_inj hn).1 e;omega
theorem U8 {α β:Type} {f:α->β}:∀{l:List α},l.Nodup->(∀x∈l,∀y∈l,f x=f y->x=y)->(l.map f).Nodup
 |[],_,_=>by simp;|x::l,h,hi=>by
  rw[γU] at h;rw[ξ,γU];refine⟨λhm=>?_,U8 h.2 λa ha b hb=>hi a (γW _ ha) b (γW _ hb)⟩;obtain⟨y,hy,he⟩:=γa.1 hm;exact h.1 (hi x (δh ..) y (γW _ hy) he.symm▸hy)
theorem afq {p:bn} {by':Int} (hc:bB p=0):bB (Fe p by')=0/\o6 (Fe p by')=o6 p:=by
 have hmem:∀x∈lA p by' p.offers.length,x∈p.offers:=λx hx=>by
  obtain⟨i,hi,rfl⟩:=γa.1 hx;have h1:=nk.1 hi;have h2:=@LP p.offers.length by' i (by omega);exact dj (by omega)
 have hsup:∀x∈p.offers,x∈lA p by' p.offers.length:=λx hx=>by
  obtain⟨k,hk,rfl⟩:=γF hx;obtain⟨i,hi,he⟩:=@afo p.offers.length by' (k:Int) (by omega);refine γa.2 ⟨i,nk.2 hi,?_⟩;rw[he];unfold oI;rw[Ψ,cV hk]
 have hq:bB (Fe p by')=0:=by
  refine U7 hc (by unfold lA;rw[Ω,gG];exact φ _) hmem ?_;unfold lA;rw[δg];refine U8 (vJ.imp λh=>by omega) λi hi j hj h=>?_;have h1:=nk.1 hi;have h2:=nk.1 hj;have h3:=@LP p.offers.length by' i (by omega);have h4:=@LP p.offers.length by' j (by omega);exact afn h1 h2 (afp hc h3 h4 h)
 refine⟨hq,Int.le_antisymm ?_ ?_⟩;·exact LO (p:=p) (M:=p.offers) hq hc hmem
 ·exact LO (p:=p) (L:=p.offers) hc hq hsup
def sT (p:bn):bn:=qx p (p.offers.take (p.offers.length - 1))
theorem afr {p:bn} (hc:bB p=0) (h0:0<p.offers.length):bB (sT p)=0/\o6 (sT p)<=o6 p/\o6 p<=o6 (sT p)+(oI p (p.offers.length - 1)).value:=by
 have hg:=dN hc;have hsub:∀x∈p.offers.take (p.offers.length - 1),x∈p.offers:=λx hx=>List.mem_of_mem_take hx;have hq:bB (sT p)=0:=by
  refine U7 hc (by rw[γq];omega) hsub ?_;rw[List.map_take];exact(U6 hc).sublist (List.take_sublist _ _)
 refine⟨hq,LO (p:=p) (M:=p.offers) hq hc hsub,?_⟩;obtain⟨X,q1,q2,q3⟩:=H8 hc;have e:o6 p=cu X:=q3.symm;have hlast:oI p (p.offers.length - 1)=p.offers[p.offers.length - 1]'(by omega):=by
  unfold oI;rw[show(((p.offers.length:Int) - 1)).toNat=p.offers.length - 1 by omega,cV (by omega)]
 have hsplit:p.offers=p.offers.take (p.offers.length - 1)++[oI p (p.offers.length - 1)]:=by
  rw[hlast];have:=List.take_append_drop (p.offers.length - 1) p.offers;rw[List.drop_eq_getElem_cons (by omega),List.drop_of_length_le (by omega)] at this;exact this.symm
 have hx0:=hg.2.2.2.2 _ (dj (d:=bp.off.dflt) (show((p.offers.length:Int) - 1).toNat<p.offers.length by omega));have hx0:1<=(oI p (p.offers.length - 1)).value:=hx0.2.2.2.1;have hin:∀x∈p.offers,x≠oI p (p.offers.length - 1)->x∈(sT p).offers:=λx hx hne=>by
  rw[hsplit] at hx;rcases γh.1 hx with h|h;·exact h
  ·exact absurd (γT.1 h) hne
 rw[e];by_cases hl:oI p (p.offers.length - 1)∈X
 ·obtain⟨l1,l2,rfl⟩:=List.append_of_mem hl;have hp:(l1++oI p (p.offers.length - 1)::l2).Perm ((l1++l2)++[oI p (p.offers.length - 1)]):=List.perm_middle.trans (List.perm_append_singleton _ _).symm;have hs:=H4 hp;rw[show cu ((l1++l2)++[oI p (p.offers.length - 1)])=cu (l1++l2)+cu [oI p (p.offers.length - 1)] from nU] at hs;have hF:=Dk hp q1;have hmem:∀y∈l1++l2,y∈p.offers:=λy hy=>q2 y (hp.mem_iff.2 (δF _ hy));have hF2:iW p (l1++l2):=Dj hg (M:=[oI p (p.offers.length - 1)]) (λx hx=>by rw[γT.1 hx];exact q2 _ hl) hF;have hnd:=hF.1;rw[γb,List.nodup_append] at hnd;have:=Dt hq (L:=l1++l2) hF2 λy hy=>hin y (hmem y hy) λey=>hnd.2.2 _ (δ2 hy) (oI p (p.offers.length - 1)).bX (by simp) (by rw[ey]);have h2:cu (l1++l2)<=o6 (sT p):=this;have h3:cu [oI p (p.offers.length - 1)]=(oI p (p.offers.length - 1)).value:=by simp[cu]
  omega
 ·have:=Dt hq (L:=X) q1 λy hy=>hin y (q2 y hy) λey=>hl (ey▸hy);have h2:cu X<=o6 (sT p):=this;omega
open Go.Proofs.YtlphnffeeefcdaaGreat.Ir
open Go.Proofs
theorem LQ {p:bn} (hc:bB p=0) (h15:p.offers.length<=15):(∀w, -9223372036854775808<=w/\w<=9223372036854775807->pS p w (nD p))/\o8 p (cz p).value (nD p)=0:=by
 obtain⟨i1,_⟩:=yB hc;have EX:((1+2^(p.offers.length+1):Nat):Int)<=65536+2:=by
  have:2^(p.offers.length+1)<=2^16:=Nat.pow_le_pow_right (by omega) (by omega);have h16:(2:Nat)^16=65536:=rfl;omega
 obtain⟨_,s2,s3⟩:=Kr hc i1 (most:=65536) (by omega);obtain⟨_,_,s4,s5,_⟩:=s2 (s3 EX);have s5:jb p (cz p).value (nD p) 0 (gK p) 1 (nD p).length:=s5;have s4:((nD p).length:Int)<=65536:=s4;have s6:=s5.top.1;exact afj s5 hc (by omega) (by omega)
theorem Ff {p:bn} (hc:bB p=0):bW p (cz p).chosen=0/\de p (cz p).chosen=(cz p).value/\(0<=(cz p).value/\(cz p).value<=160000000)/\(cz p).chosen.length<=160:=by
 obtain⟨h1,h2,_⟩:=Ba hc;have hf:=(qy hc).2 h1;have:=sO hc hf;rw[h2] at this;exact⟨hf,h2,⟨this.1,this.2.1⟩,this.2.2⟩
theorem afs:cz three=⟨[1,2],12⟩:=by kernel_rfl
theorem U9:bB three=0:=by kernel_rfl
theorem aft:pT three ([0],10,nD three)≠0:=by
 intro h;have h1:bW three [0]=0:=by kernel_rfl
 have h2:de three [0]=10:=by kernel_rfl
 unfold pT at h;rw[if_neg (by simp[h1]),if_neg (by simp[h2])] at h;have h4:bW three [1,2]=0:=by kernel_rfl
 have h5:de three [1,2]=12:=by kernel_rfl
 have h6:de three [1,2]<=10:=U5 h h4;omega
theorem Va {p:bn} (hc:bB p=0) (h15:p.offers.length<=15):pT p ((cz p).chosen,(cz p).value,nD p)=0:=by
 obtain⟨b1,b2,_⟩:=Ff hc;unfold pT;rw[if_neg (by simp[b1]),if_neg (by simp[b2])];exact(LQ hc h15).2
def uy:bL:=⟨11,Unit,.nil,λ_=>True,λ_=> .sb true⟩
theorem h472:Holds Tryz.prog uy:=by
 refine cF (L:=[LL,wi,E7,Dz,r32,Bc]) uy lk (by simpa using⟨h479,h427,h476,h101,h32,h474⟩) ?_;intro _ _;refine bO (let a:=δa false;let b:=(0:Int);let c:=γw;let d:=(10:Int);let e:=(cz three).chosen;let f:=(cz three).value;let g:=λ(u:Bool) ↦decide (pT three (e,f,nD three)=b)=u;True/\(bB three≠b\/three.offers.length<=15)/\e.length<=1000000000000/\e.length<=9223372036854775807/\(true=true->(true=true->(e.length<=1000000000000/\2<=1000000000000)/\(true=true->(e.length<=1000000000000/\(bW three e=b->de three e=f->pS three f (nD three)))/\(g true->(true=true->b<=(1:Int)/\(1:Int)<(3:Int)/\1<(gU three e).length/\(true=true->(true=true->b<=(2:Int)/\(2:Int)<(3:Int)/\2<(gC three e).length/\(true=true->(1<=1000000000000/\(bW three [b]=b->de three [b]=d->pS three d (nD three)))/\(c (decide (pT three ([b],d,nD three)≠b))).same (c true))/\(true=false->(a).same (c true)))/\(true=false->(a).same (c true)))/\(true=false->(a).same (c true)))/\(true=false->(a).same (c true)))/\(g false->(a).same (c true)))/\(true=false->(a).same (c true)))/\(true=false->(a).same (c true)))/\(true=false->(a).same (c true))) (by kernel_rfl) ?_;simp only[vcs];have hs:=(LQ U9 (by decide)).1;have g:=Va U9 (by decide);have bb:=aft;rw[afs] at g ⊢;simp only at g ⊢;have e1:(gU three [1,2]).length=3:=wq;have e2:(gC three [1,2]).length=3:=C6;have nt:true=false->false=true:=λh=>by cases h
 exact⟨.inr (by decide),by decide,by decide,λ_=>⟨λ_=>⟨⟨by decide,by decide⟩,λ_=>⟨⟨by decide,λ_ _=>hs 12 (by omega)⟩,λ_=>⟨λ_=>⟨by omega,by omega,by omega,λ_=>⟨λ_=>⟨by omega,by omega,by omega,λ_=>⟨⟨by omega,λ_ _=>hs 10 (by omega)⟩,bb⟩,nt⟩,nt⟩,nt⟩,nt⟩,λh=>absurd g h⟩,nt⟩,nt⟩,nt⟩
def LR:bL:=⟨4,bn,.one dE,λ_=>True,λ_=> .sb true⟩
theorem h460:Holds Tryz.prog LR:=by
 refine cF (L:=[zH,uy,wi]) LR lk (by simpa using⟨h24,h472,h427⟩) ?_;intro(p:bn) _;refine bO (let a:=(0:Int);let b:=γw;let c:=δa false;let d:=decide ((20:Int)<(↑p.classes.length:Int));let e:=decide ((200:Int)<(↑p.offers.length:Int));let f:=decide (bB p=a);let g:=decide (bB p=bB p);let h:=decide ((↑(if bB p=a then(cz p).chosen else[]).length:Int)=a);let i:=decide ((if bB p=a then(cz p).value else a)=a);let j:=λ(u:Bool) ↦decide ((↑(if bB p=a then nD p else[]).length:Int)=a)=u;(d=true->True/\(b true).same (b true))/\(d=false->(e=true->True/\(b true).same (b true))/\(e=false->True/\(f=true->True/\(b true).same (b true))/\(f=false->(bB p≠a\/p.offers.length<=15)/\True/\(g=true->(h=true->(i=true->(j true->True/\(b true).same (b true))/\(j false->(c).same (b true)))/\(i=false->(c).same (b true)))/\(h=false->(c).same (b true)))/\(g=false->(c).same (b true)))))) (by kernel_rfl) ?_;simp only[vcs];refine⟨λ_=>trivial,λh1=>⟨λ_=>trivial,λh2=>⟨λ_=>trivial,λhc=>?_⟩⟩⟩;simp[hc]
def LS:bL:=⟨3,bn,.one dE,λ_=>True,λ_=> .sb true⟩
theorem h459:Holds Tryz.prog LS:=by
 refine cF (L:=[yL,uy,wi,EZ,r32,E6,Bc]) LS lk (by simpa using⟨h471,h472,h427,h426,h32,h473,h474⟩) ?_;intro(p:bn) _;refine bO (let a:=(0:Int);let b:=δa false;let c:=γw;let h:=(cz p).chosen;let d:=if bB p=a then h else[];let e:=(cz p).value;let f:=if bB p=a then e else a;let g:=if bB p=a then nD p else[];let i:=decide (bB p=a);let j:=decide (cmpL d h=a);let k:=λ(u:Bool) ↦decide (pT p (d,f,g)=a)=u;let l:=λ(u:Bool) ↦decide (o8 p e g=a)=u;True/\((!me p)=true->True/\(c true).same (c true))/\((!me p)=false->(bB p≠a\/p.offers.length<=15)/\bB p=a/\(i=true->(decide (f=e)=true->(d.length<=1000000000000/\h.length<=1000000000000)/\(j=true->pS p e g/\(l true->(d.length<=1000000000000/\(bW p d=a->de p d=f->pS p f g))/\(k true->True/\(c true).same (c true))/\(k false->(b).same (c true)))/\(l false->(b).same (c true)))/\(j=false->(b).same (c true)))/\(decide (f=e)=false->(b).same (c true)))/\(i=false->(b).same (c true)))) (by kernel_rfl) ?_;simp only[vcs];refine⟨λ_=>trivial,λhs=>?_⟩;unfold me at hs;simp only[ζ,decide_eq_true_eq] at hs;obtain⟨⟨_,h12⟩,hc⟩:=hs;obtain⟨b1,b2,b3,b4⟩:=Ff hc;obtain⟨uz,jJ⟩:=LQ hc (by omega);have uz:=uz (cz p).value (by omega);have g:=Va hc (by omega);have cs:=H9 (cz p).chosen;simp only[if_pos hc];exact⟨.inr (by omega),hc,λ_=>⟨λ_=>⟨⟨by omega,by omega⟩,λ_=>⟨uz,λ_=>⟨⟨by omega,λ_ _=>uz⟩,λ_=>trivial,λh=>absurd g h⟩,λh=>absurd jJ h⟩,λh=>absurd cs h⟩,λh=>absurd trivial h⟩,λh=>absurd hc h⟩
def LU:bL:=⟨7,bn×List Int,.cons dE (.one (dM (.i .i64))),λ_=>True,λ_=> .sb true⟩
def afu (p:bn) (c:List Int):Nat->cC
 |9=> .inv Int (λi=>⟨[(6,.row .dR (if bW p c=0 then gU p c else[])),(7,.row (.i .i64) (if bW p c=0 then gC p c else[])),(8,.row .dR (if bW p c=0 then gU p c else[])),(9,.row (.i .i64) (if bW p c=0 then gC p c else[])),(10,.si .i64 i)],[.cells p.ss 27 20 false,.cells [.row (.i .i64) c,.il .i64 0] 31 2 false]⟩)
   (λs=>iS s 10) (λi=>0<=i/\i<=(if bW p c=0 then gU p c else[]).length) (λi=>((if bW p c=0 then gU p c else[]).length - i).toNat) λ_ _=> .look
 |_=> .look
theorem h463:Holds Tryz.prog LU:=by
 refine cF (L:=[uy,E7,Dz,LK]) LU (λa=>afu a.1 a.2) (by simpa using⟨h472,h476,h101,h477⟩) ?_;rintro⟨p,c⟩ _;refine bO (let a:=γe .i64;let b:=(0:Int);let d:=γw;let e:=Θ;let f:=δa false;let o:=bp.i .i64;let v:=if bW p c=b then gC p c else[];let j:=if bW p c=b then gC p c else[];let l:=e o j;let q:=if bW p c=b then gU p c else[];let w:=decide ((20:Int)<(↑p.classes.length:Int));let y:=decide ((60:Int)<(↑p.offers.length:Int));let z:=decide ((100:Int)<(↑c.length:Int));let h:=if bW p c=b then gU p c else[];let k:=e bp.dR h;let A:=SV.il .i64 0;let r:=bq.cells [a p.supply.a0,a p.supply.a1,a p.supply.a2,a p.supply.a3,a p.supply.a4,a p.supply.a5,a p.opn.a0,a p.opn.a1,a p.opn.a2,a p.opn.a3,a p.opn.a4,a p.opn.a5,a p.cls.a0,a p.cls.a1,a p.cls.a2,a p.cls.a3,a p.cls.a4,a p.cls.a5,e o p.classes,e bp.off p.offers] 27 20 false;let s:=bq.cells [e o c,A] 31 2 false;let m:=(↑(if bW p c=b then gU p c else[]).length:Int);let B:=(e o v).same l;let C:=λ(u:Bool) ↦decide ((↑v.length:Int)≠(↑v.length:Int))=u;let D:=λ(u:Bool) ↦decide ((↑q.length:Int)≠(↑q.length:Int))=u;(w=true->True/\(d true).same (d true))/\(w=false->(y=true->True/\(d true).same (d true))/\(y=false->(z=true->True/\(d true).same (d true))/\(z=false->c.length<=1000000000000/\c.length<=9223372036854775807/\c.length<=1000000000000/\(D true->(f).same (d true))/\(D false->(C true->(f).same (d true))/\(C false->((((e bp.dR q).same k/\B/\(e bp.dR q).same k/\B/\A.same (a 0)/\True)/\r.same r/\s.same s/\True)/\b<=b/\b<=m)/\∀(x:Int),let g:=bj h x.toNat bp.dR.dflt;let E:=decide (x<(↑h.length:Int));let t:=bj j x.toNat b;let n:=x+(1:Int);let F:=a n;let G:=λ(u:Bool) ↦(!(decide (g.a0=g.a0)&&(decide (g.a1=g.a1)&&(decide (g.a2=g.a2)&&(decide (g.a3=g.a3)&&(decide (g.a4=g.a4)&&(decide (g.a5=g.a5)&&true)))))))=u;b<=x/\x<=m->(E=true->b<=x/\x<(↑h.length:Int)/\x.toNat<h.length/\b<=x/\x<(↑h.length:Int)/\x.toNat<h.length/\(G true->(f).same (d true))/\(G false->b<=x/\x<(↑j.length:Int)/\x.toNat<j.length/\b<=x/\x<(↑j.length:Int)/\x.toNat<j.length/\(decide (t≠t)=true->(f).same (d true))/\(decide (t≠t)=false->cn .i64 n/\((k.same k/\l.same l/\k.same k/\l.same l/\F.same F/\True)/\r.same r/\s.same s/\True)/\(b<=n/\n<=m)/\(m - n).toNat<(m - x).toNat)))/\(E=false->True/\(d true).same (d true)))))))) (by kernel_rfl) ?_;simp only[vcs];have hB:(if bW p c=0 then gU p c else[]).length=(if bW p c=0 then gC p c else[]).length:=by
  split;·rw[wq,C6]
  ·rfl
 refine⟨λ_=>trivial,λh20=>⟨λ_=>trivial,λ_=>⟨λ_=>trivial,λh=>⟨by omega,by omega,by omega,λh=>absurd rfl h,λ_=>⟨λh=>absurd rfl h,λ_=>?_⟩⟩⟩⟩⟩;have hl:(if bW p c=0 then gU p c else[]).length<=20:=by
  split;·rw[wq];omega
  ·exact Nat.zero_le _
 generalize (if bW p c=0 then gU p c else[])=B at*;generalize (if bW p c=0 then gC p c else[])=V at*;refine⟨⟨by omega,by omega⟩,?_⟩;rintro x ⟨x0,x1⟩;exact⟨λhx=>⟨x0,hx,by omega,x0,hx,by omega,(λh=>by simp at h),λ_=>⟨x0,by omega,by omega,x0,by omega,by omega,λh=>absurd rfl h,λ_=>⟨by omega,by omega,by omega⟩⟩⟩,λ_=>trivial⟩
noncomputable def LV:bL:=⟨8,bn×Int,.cons dE (.one (eK .u8)),λa=>0<=a.2/\a.2<=255,λ_=> .sb true⟩
def LW (p:bn) (n:Nat):List SV:=
 [.si .i64 p.supply.a0,.si .i64 p.supply.a1,.si .i64 p.supply.a2,.si .i64 p.supply.a3,.si .i64 p.supply.a4,.si .i64 p.supply.a5,
  .si .i64 p.opn.a0,.si .i64 p.opn.a1,.si .i64 p.opn.a2,.si .i64 p.opn.a3,.si .i64 p.opn.a4,.si .i64 p.opn.a5,
  .si .i64 p.cls.a0,.si .i64 p.cls.a1,.si .i64 p.cls.a2,.si .i64 p.cls.a3,.si .i64 p.cls.a4,.si .i64 p.cls.a5,
  .row (.i .i64) p.classes,.ow 2 n 8]
noncomputable def afv (p:bn) (b:Int):Nat->cC
 |7=> .inv Int (λi=>⟨[(1,.si .u8 b),(2,.ptr 0 0 20),(5,.ptr 1 0 20),(6,.si .i64 p.offers.length),(7,.si .i64 i)],[.cells p.ss 27 20 false,.cells (LW p (lA p b i.toNat).length) 27 20 false,.row .off (lA p b i.toNat) 55 true]⟩)
   (λs=>iS s 7) (λi=>0<=i/\i<=p.offers.length) (λi=>(p.offers.length - i).toNat) λ_ _=> .look
 |_=> .look
theorem h464:Holds Tryz.prog LV:=by
 refine cF (L:=[yL,uy,wi]) LV (λa=>afv a.1 a.2) (by simpa using⟨h471,h472,h427⟩) ?_;rintro⟨p,b⟩ ⟨b0,b1⟩;simp only at b0 b1;refine bO (let a:=γe .i64;let c:=(0:Int);let d:=bq.cells;let e:=cn .i64;let f:=δa false;let g:=bq.row;let h:=γw;let j:=(1:Int);let k:=SV.ow;let o:=a p.supply.a0;let q:=a p.supply.a1;let r:=a p.supply.a2;let s:=a p.supply.a3;let t:=a p.supply.a4;let v:=a p.supply.a5;let w:=a p.opn.a0;let y:=a p.opn.a1;let z:=a p.opn.a2;let A:=a p.opn.a3;let B:=a p.opn.a4;let C:=a p.opn.a5;let D:=a p.cls.a0;let E:=a p.cls.a1;let F:=a p.cls.a2;let G:=a p.cls.a3;let H:=a p.cls.a4;let I:=a p.cls.a5;let J:=Θ (bp.i .i64) p.classes;let K:=SV.ptr 0 0 20;let L:=SV.ptr 1 0 20;let Q:=p.offers.length;let R:=(↑Q:Int);let l:=(↑p.offers.length:Int);let O:=a l;let M:=Θ bp.off p.offers;let S:=decide ((128:Int)<=b);let T:=decide (bB p=c);let P:=λ(u u_1:SV) ↦(d [o,q,r,s,t,v,w,y,z,A,B,C,D,E,F,G,H,I,J,u] 27 20 false).same (d [o,q,r,s,t,v,w,y,z,A,B,C,D,E,F,G,H,I,J,u_1] 27 20 false);True/\((!me p)=true->True/\(h true).same (h true))/\((!me p)=false->((((γe .u8 b).same (γe .u8 b)/\K.same K/\L.same L/\(a R).same O/\(SV.il .i64 0).same (a 0)/\True)/\P M M/\P (k 2 0 8) (k 2 (lA p b 0).length 8)/\(g bp.off [] 55 true).same (g bp.off (lA p b 0) 55 true)/\True)/\c<=c/\c<=l)/\∀(x:Int),let m:=lA p b x.toNat;let U:=m.length+1;let n:=x+j;let V:=a n;let N:=bn.mk p.supply p.opn p.cls p.classes m;let W:=l - j - (x+b).tmod l;let X:=decide (bB N=c);let Y:=λ(u:Int) ↦let Z:=m++[bj p.offers u.toNat bp.off.dflt];c<=u/\u<R/\u.toNat<Q/\1=1/\m.length=m.length/\U*64<=140737488355328/\U<=1000000000000/\e n/\(((γe .u8 b).same (γe .u8 b)/\K.same K/\L.same L/\O.same O/\V.same V/\True)/\P M M/\(d [o,q,r,s,t,v,w,y,z,A,B,C,D,E,F,G,H,I,J,k 2 Z.length 8] 27 20 false).same (d [o,q,r,s,t,v,w,y,z,A,B,C,D,E,F,G,H,I,J,k 2 (lA p b n.toNat).length 8] 27 20 false)/\(g bp.off Z 55 true).same (g bp.off (lA p b n.toNat) 55 true)/\True)/\(c<=n/\n<=l)/\(l - n).toNat<(l - x).toNat;let a6:=λ(u:Bool) ↦decide ((if bB p=c then(cz p).value else c)=if bB N=c then(cz N).value else c)=u;c<=x/\x<=l->(decide (x<l)=true->e b/\e (x+b)/\l≠c/\(S=true->e (l - j)/\e W/\Y W)/\(S=false->Y ((x+b).tmod l)))/\(decide (x<l)=false->(bB p≠c\/p.offers.length<=15)/\m.length=m.length/\(bB N≠c\/m.length<=15)/\(T=true->(X=true->(a6 true->True/\(h true).same (h true))/\(a6 false->(f).same (h true)))/\(X=false->(f).same (h true)))/\(T=false->(f).same (h true))))) (by kernel_rfl) ?_;simp only[vcs];refine⟨λ_=>trivial,λhs=>?_⟩;unfold me at hs;simp only[ζ,decide_eq_true_eq] at hs;obtain⟨⟨_,h12⟩,hc⟩:=hs;obtain⟨q1,q2⟩:=@afq p b hc;have hC:∀{a b:Nat},a=b->(bq.cells (LW p a) 27 20 false).same (bq.cells (LW p b) 27 20 false):=by rintro _ _ rfl;rfl
 have hO:∀{a b:List Off},a=b->(bq.row .off a 55 true).same (bq.row .off b 55 true):=by rintro _ _ rfl;rfl
 have hlen:∀n:Nat,(lA p b n).length=n:=λn=>by unfold lA;rw[Ω,gG]
 have hm0:=hlen 0;refine⟨⟨⟨hC hm0.symm,hO rfl⟩,by omega,by omega⟩,?_⟩;rintro x ⟨x0,x1⟩;have hmx:=hlen x.toNat;refine⟨λhx=>?_,λhx=>?_⟩
 ·have hs:lA p b (x+1).toNat=lA p b x.toNat++[oI p (pU p.offers.length b x)]:=by
   rw[show(x+1).toNat=x.toNat+1 by omega];unfold lA;rw[vI,γb,ξ,γs,show((x.toNat:Nat):Int)=x by omega]
  have em:(x+b).tmod p.offers.length=(x+b) % p.offers.length:=Int.tmod_eq_emod_of_nonneg (by omega);have r0:=δj (x+b) (show(p.offers.length:Int)≠0 by omega);have r1:=γZ (x+b) (show 0<(p.offers.length:Int) by omega);rw[em];unfold pU at hs;generalize (x+b) % p.offers.length=k at*;refine⟨by omega,by omega,by omega,λhb=>?_,λhb=>?_⟩
  ·rw[if_pos hb] at hs;exact⟨by omega,by omega,by omega,by omega,by omega,by omega,by omega,by omega,⟨hC (by rw[hs];rfl),hO (by rw[hs];rfl)⟩,by omega,by omega⟩
  ·rw[if_neg hb] at hs;exact⟨by omega,by omega,by omega,by omega,by omega,by omega,⟨hC (by rw[hs];rfl),hO (by rw[hs];rfl)⟩,by omega,by omega⟩
 ·have e:({supply:=p.supply,opn:=p.opn,cls:=p.cls,classes:=p.classes,offers:=lA p b x.toNat}:bn)=Fe p b:=by
   rw[show x.toNat=p.offers.length by omega];rfl
  have t1:=(Ba hc).2.2;have t2:=(Ba q1).2.2;rw[e];simp only[if_pos hc,if_pos q1];have nt:∀{P:Prop},P->¬P->false=true:=λh k=>absurd h k;exact⟨.inr (by omega),.inr (by omega),λ_=>⟨λ_=>⟨λ_=>trivial,nt (by omega)⟩,nt q1⟩,nt hc⟩
def LX:bL:=⟨9,bn,.one dE,λ_=>True,λ_=> .sb true⟩
theorem h465:Holds Tryz.prog LX:=by
 refine cF (L:=[yL,uy,wi]) LX lk (by simpa using⟨h471,h472,h427⟩) ?_;intro(p:bn) _;refine bO (let a:=(0:Int);let b:=γw;let c:=δa false;let d:=cn .i64;let i:=if bB p=a then(cz p).value else a;let f:=p.offers.length;let e:=(↑f:Int) - (1:Int);let g:=e.toNat;let j:=ω (g - 0) p.offers;let h:=bn.mk p.supply p.opn p.cls p.classes j;let k:=if bB h=a then(cz h).value else a;let l:=k+(bj p.offers g bp.off.dflt).value;let m:=decide ((↑f:Int)=a);let n:=decide (bB p=a);let o:=λ(u:Bool) ↦decide (i<=l)=u;let q:=λ(u:Bool) ↦decide (k<=i)=u;let r:=λ(u:Bool) ↦decide (bB h=a)=u;True/\((!me p)=true->True/\(b true).same (b true))/\((!me p)=false->(m=true->True/\(b true).same (b true))/\(m=false->d e/\a<=e/\e<(↑f:Int)/\g<f/\d e/\a<=e/\0<=g/\g<=f/\(bB p≠a\/p.offers.length<=15)/\(bB h≠a\/j.length<=15)/\(n=true->(r true->(q true->d l/\(o true->True/\(b true).same (b true))/\(o false->(c).same (b true)))/\(q false->(c).same (b true)))/\(r false->(c).same (b true)))/\(n=false->(c).same (b true))))) (by kernel_rfl) ?_;simp only[vcs];refine⟨λ_=>trivial,λhs=>⟨λ_=>trivial,λh0=>?_⟩⟩;unfold me at hs;simp only[ζ,decide_eq_true_eq] at hs;obtain⟨⟨_,h12⟩,hc⟩:=hs;obtain⟨q1,q2,q3⟩:=afr hc (by omega);obtain⟨_,_,b3,_⟩:=Ff hc;obtain⟨_,_,c3,_⟩:=Ff q1;have e:({supply:=p.supply,opn:=p.opn,cls:=p.cls,classes:=p.classes,offers:=ω (((p.offers.length:Int) - 1).toNat - 0) p.offers}:bn)=sT p:=by
  unfold sT qx;rw[show((p.offers.length:Int) - 1).toNat - 0=p.offers.length - 1 by omega]
 have hl:(ω (((p.offers.length:Int) - 1).toNat - 0) p.offers).length<=15:=by rw[γq];omega
 have hv:(bj p.offers ((p.offers.length:Int) - 1).toNat bp.off.dflt).value=(oI p (p.offers.length - 1)).value:=rfl;have t1:=(Ba hc).2.2;have t2:=(Ba q1).2.2;have ho:=ki hc (i:=(p.offers.length:Int) - 1) ⟨by omega,by omega⟩;rw[e,hv];simp only[if_pos hc,if_pos q1];have nt:∀{P:Prop},P->¬P->false=true:=λh k=>absurd h k;refine⟨⟨by omega,by omega⟩,by omega,by omega,by omega,⟨by omega,by omega⟩,by omega,by omega,by omega,.inr (by omega),.inr hl,λ_=>⟨λ_=>⟨λ_=>⟨⟨by omega,by omega⟩,λ_=>trivial,nt (by omega)⟩,nt (by omega)⟩,nt q1⟩,nt hc⟩
end Go.Vi
namespace Go.Proofs.YtlphnffeeefcdaaGreat
open Go.ChangeShapes Go.WideShapes Go.ChangeAt Go.RowKit Go.Vi
theorem afw {H:Type} {enc:TypeId×Value->H} {w:World} {a:Nat->Bool} {c:Bool} {b:Nat} {cs:List Value} {x:DataW H×List MemPlace} (h:DataW.trod enc Tryz.prog w 0 a c b 24 cs=some x):
  ∃(v:Value) (l:List Int),cs=[v]/\l.length<=9223372036854775807/\bw iU w [] [] (Θ (.i .i64) l).g v:=by
 obtain⟨v,l,f,e,_,d⟩:=PI Tryz.underlying24 (HG Tryz.underlying3) (by kernel_rfl) h;grind
end Go.Proofs.YtlphnffeeefcdaaGreat
namespace Go.Proofs.YtlphnffeeefcdaaGreat
open Go.ChangeShapes Go.WideShapes Go.ChangeAt Go.RowKit Go.Vi
theorem afx (os:Os) (started:os.Started) (H:Type) (enc:TypeId×Value->H):
  ReturnsInHanded {} Tryz.checked os 3 .any (Rows.winnerOptimalSpec.pre6 enc Tryz.prog Tryz.f3 Rows.winnerOptimalRow.domain false) (Rows.winnerOptimalSpec.post enc Tryz.prog Tryz.f3 false true false false):=by
 refine returnsInHanded_of_change (C:=Tryz.checked) Tryz.own started (by kernel_rfl) Tryz.func3
  (ChangeSpec.witness6 (enc:=enc) (C:=Tryz.checked) false ⟨#[],#[.agg #[.int .i64 0,.int .i64 0,.int .i64 0,.int .i64 0,.int .i64 0,.int .i64 0,.int .i64 0,.int .i64 0,.int .i64 0,.int .i64 0,.int .i64 0,.int .i64 0,.int .i64 0,.int .i64 0,.int .i64 0,.int .i64 0,.int .i64 0,.int .i64 0,.slice none 0 0,.slice none 0 0]],[]⟩ 8 (by kernel_rfl) (by kernel_rfl) (by kernel_rfl) (by kernel_rfl)) ?_;intro W base args ds gs before hval0 hW hcnd _;have hval:∀(j:Nat) t v,Tryz.f3.params[j]?=some t->args[j]?=some v->Value.okWide Tryz.prog W .any base t v:=hval0;have hW':=hW;obtain⟨p,q,qM,hV,rfl,hfz,hnd⟩:=hW;have hA:DataW.TrodAll enc Tryz.prog W 0 (λ_=>true) true Tryz.f3.params.toList args.toList ds p:=qM;have hA2:=hA;rw[Tryz.params3] at hA hval;obtain⟨v0,d0,rfl,rfl,n0,h0⟩:=trodAll_one hA;obtain⟨rfl,rfl⟩:=trodVars_none hV;obtain⟨c0,rfl,e0⟩:=vu Tryz.underlying27 (hval 0 27 v0 rfl rfl);rw[e0] at h0;obtain⟨a0,r0⟩:=xC h0;have hcall:=xE (W:=W) (f:=3) (args:=LS.A.put (a0)) (h459 (a0) trivial).2 (vs:=[.agg c0]) ⟨_,_,rfl,⟨c0,rfl,r0⟩,rfl⟩;refine hcall.mono λe W' ⟨he,hw⟩=>?_;subst he;have hlt:∀x∈p,x.block<W.heap.size:=λx hx=>hW'.lt x (by simpa using hx);refine⟨_,rfl,[d0],[],p++[],[],p,[],hW',trodAll_mk1 (shut_bool Tryz.underlying4 true),vx Tryz.laidOut hw hA2 ?_ hlt (λx hx=>by simpa using hlt x hx),rfl,hw.frame _,λh=>by cases h⟩;intro t ht;have ht2:t=27:=by
  have:Tryz.f3.params.toList=[27]:=rfl;rw[this] at ht;simpa using ht
 rcases ht2 with rfl;·exact⟨by kernel_rfl,of_decide_eq_true (by kernel_rfl)⟩
theorem afy:(Rows.winnerOptimalRow.inPlace==Tryz.pinned.checked.prog.inPlace 3)=true:=by kernel_rfl
theorem afz:(Rows.winnerOptimalRow.unfollowed==Tryz.pinned.checked.prog.unfollowed 3)=true:=by kernel_rfl
theorem afA:(Rows.winnerOptimalRow.recurses==Tryz.pinned.checked.prog.recurses 3)=true:=by kernel_rfl
theorem afB:(Rows.winnerOptimalRow.named==Tryz.pinned.checked.prog.varsNamed 3)=true:=by kernel_rfl
theorem afC:joinedFacts Tryz.pinned.checked.prog 3 Tryz.f3 Rows.winnerOptimalSpec Rows.winnerOptimalRow=true:=by
 simp only[joinedFacts,afy,afz,afA,afB,γ3,γ8];kernel_rfl
theorem wopt_holds:Rows.WinnerOptimalSaid:=
 OpenClaim.holds_of_wide 3 Tryz.f3 rfl rfl rfl rfl rfl rfl rfl ⟨rfl,rfl,rfl,rfl,rfl⟩ rfl rfl rfl rfl rfl (by kernel_rfl) Tryz.func3 afC
  (of_decide_eq_true (by kernel_rfl)) (by unfold Func.isWrapper;first|(rw[if_pos (by decide+kernel)];kernel_rfl)|(rw[if_neg (by decide+kernel)];exact⟨rfl,rfl⟩))
  (λos started H enc _=>afx os started H enc)
#print axioms wopt_holds
theorem afD (os:Os) (started:os.Started) (H:Type) (enc:TypeId×Value->H):
  ReturnsInHanded {} Tryz.checked os 4 .any (Rows.winnerErrorsSpec.pre6 enc Tryz.prog Tryz.f4 Rows.winnerErrorsRow.domain false) (Rows.winnerErrorsSpec.post enc Tryz.prog Tryz.f4 false true false false):=by
 refine returnsInHanded_of_change (C:=Tryz.checked) Tryz.own started (by kernel_rfl) Tryz.func4
  (ChangeSpec.witness6 (enc:=enc) (C:=Tryz.checked) false ⟨#[],#[.agg #[.int .i64 0,.int .i64 0,.int .i64 0,.int .i64 0,.int .i64 0,.int .i64 0,.int .i64 0,.int .i64 0,.int .i64 0,.int .i64 0,.int .i64 0,.int .i64 0,.int .i64 0,.int .i64 0,.int .i64 0,.int .i64 0,.int .i64 0,.int .i64 0,.slice none 0 0,.slice none 0 0]],[]⟩ 8 (by kernel_rfl) (by kernel_rfl) (by kernel_rfl) (by kernel_rfl)) ?_;intro W base args ds gs before hval0 hW hcnd _;have hval:∀(j:Nat) t v,Tryz.f4.params[j]?=some t->args[j]?=some v->Value.okWide Tryz.prog W .any base t v:=hval0;have hW':=hW;obtain⟨p,q,qM,hV,rfl,hfz,hnd⟩:=hW;have hA:DataW.TrodAll enc Tryz.prog W 0 (λ_=>true) true Tryz.f4.params.toList args.toList ds p:=qM;have hA2:=hA;rw[Tryz.params4] at hA hval;obtain⟨v0,d0,rfl,rfl,n0,h0⟩:=trodAll_one hA;obtain⟨rfl,rfl⟩:=trodVars_none hV;obtain⟨c0,rfl,e0⟩:=vu Tryz.underlying27 (hval 0 27 v0 rfl rfl);rw[e0] at h0;obtain⟨a0,r0⟩:=xC h0;have hcall:=xE (W:=W) (f:=4) (args:=LR.A.put (a0)) (h460 (a0) trivial).2 (vs:=[.agg c0]) ⟨_,_,rfl,⟨c0,rfl,r0⟩,rfl⟩;refine hcall.mono λe W' ⟨he,hw⟩=>?_;subst he;have hlt:∀x∈p,x.block<W.heap.size:=λx hx=>hW'.lt x (by simpa using hx);refine⟨_,rfl,[d0],[],p++[],[],p,[],hW',trodAll_mk1 (shut_bool Tryz.underlying4 true),vx Tryz.laidOut hw hA2 ?_ hlt (λx hx=>by simpa using hlt x hx),rfl,hw.frame _,λh=>by cases h⟩;intro t ht;have ht2:t=27:=by
  have:Tryz.f4.params.toList=[27]:=rfl;rw[this] at ht;simpa using ht
 rcases ht2 with rfl;·exact⟨by kernel_rfl,of_decide_eq_true (by kernel_rfl)⟩
theorem afE:(Rows.winnerErrorsRow.inPlace==Tryz.pinned.checked.prog.inPlace 4)=true:=by kernel_rfl
theorem afF:(Rows.winnerErrorsRow.unfollowed==Tryz.pinned.checked.prog.unfollowed 4)=true:=by kernel_rfl
theorem afG:(Rows.winnerErrorsRow.recurses==Tryz.pinned.checked.prog.recurses 4)=true:=by kernel_rfl
theorem afH:(Rows.winnerErrorsRow.named==Tryz.pinned.checked.prog.varsNamed 4)=true:=by kernel_rfl
theorem afI:joinedFacts Tryz.pinned.checked.prog 4 Tryz.f4 Rows.winnerErrorsSpec Rows.winnerErrorsRow=true:=by
 simp only[joinedFacts,afE,afF,afG,afH,γ3,γ8];kernel_rfl
theorem werr_holds:Rows.WinnerErrorsSaid:=
 OpenClaim.holds_of_wide 4 Tryz.f4 rfl rfl rfl rfl rfl rfl rfl ⟨rfl,rfl,rfl,rfl,rfl⟩ rfl rfl rfl rfl rfl (by kernel_rfl) Tryz.func4 afI
  (of_decide_eq_true (by kernel_rfl)) (by unfold Func.isWrapper;first|(rw[if_pos (by decide+kernel)];kernel_rfl)|(rw[if_neg (by decide+kernel)];exact⟨rfl,rfl⟩))
  (λos started H enc _=>afD os started H enc)
#print axioms werr_holds
theorem afJ (os:Os) (started:os.Started) (H:Type) (enc:TypeId×Value->H):
  ReturnsInHanded {} Tryz.checked os 7 .any (Rows.winnerBundlesSpec.pre6 enc Tryz.prog Tryz.f7 Rows.winnerBundlesRow.domain false) (Rows.winnerBundlesSpec.post enc Tryz.prog Tryz.f7 false true false false):=by
 refine returnsInHanded_of_change (C:=Tryz.checked) Tryz.own started (by kernel_rfl) Tryz.func7
  (ChangeSpec.witness6 (enc:=enc) (C:=Tryz.checked) false ⟨#[],#[.agg #[.int .i64 0,.int .i64 0,.int .i64 0,.int .i64 0,.int .i64 0,.int .i64 0,.int .i64 0,.int .i64 0,.int .i64 0,.int .i64 0,.int .i64 0,.int .i64 0,.int .i64 0,.int .i64 0,.int .i64 0,.int .i64 0,.int .i64 0,.int .i64 0,.slice none 0 0,.slice none 0 0],.slice none 0 0],[]⟩ 8 (by kernel_rfl) (by kernel_rfl) (by kernel_rfl) (by kernel_rfl)) ?_;intro W base args ds gs before hval0 hW hcnd _;have hval:∀(j:Nat) t v,Tryz.f7.params[j]?=some t->args[j]?=some v->Value.okWide Tryz.prog W .any base t v:=hval0;have hW':=hW;obtain⟨p,q,qM,hV,rfl,hfz,hnd⟩:=hW;have hA:DataW.TrodAll enc Tryz.prog W 0 (λ_=>true) true Tryz.f7.params.toList args.toList ds p:=qM;have hA2:=hA;rw[Tryz.params7] at hA hval;obtain⟨v0,v1,d0,d1,p0,p1,rfl,rfl,rfl,⟨n0,h0⟩,⟨n1,h1⟩⟩:=trodAll_two hA;obtain⟨rfl,rfl⟩:=trodVars_none hV;obtain⟨c0,rfl,e0⟩:=vu Tryz.underlying27 (hval 0 27 v0 rfl rfl);rw[e0] at h0;obtain⟨a0,r0⟩:=xC h0;rw[Pv Tryz.underlying24 (hval 1 24 v1 rfl rfl)] at h1;obtain⟨w1,a1,e1,b1,r1⟩:=afw h1;have hw1:v1=w1:=by simpa using e1
 subst hw1;have hcall:=xE (W:=W) (f:=7) (args:=LU.A.put (a0,a1)) (h463 (a0,a1) trivial).2 (vs:=[.agg c0,v1]) ⟨_,_,rfl,⟨c0,rfl,r0⟩,_,_,rfl,r1,rfl⟩;refine hcall.mono λe W' ⟨he,hw⟩=>?_;subst he;have hlt:∀x∈p0++p1,x.block<W.heap.size:=λx hx=>hW'.lt x (by simpa using hx);refine⟨_,rfl,[d0,d1],[],p0++p1++[],[],p0++p1,[],hW',trodAll_mk1 (shut_bool Tryz.underlying4 true),vx Tryz.laidOut hw hA2 ?_ hlt (λx hx=>by simpa using hlt x hx),rfl,hw.frame _,λh=>by cases h⟩;intro t ht;have ht2:t=27\/t=24:=by
  have:Tryz.f7.params.toList=[27,24]:=rfl;rw[this] at ht;simpa using ht
 rcases ht2 with rfl|rfl;·exact⟨by kernel_rfl,of_decide_eq_true (by kernel_rfl)⟩
 ·exact⟨by kernel_rfl,of_decide_eq_true (by kernel_rfl)⟩
theorem afK:(Rows.winnerBundlesRow.inPlace==Tryz.pinned.checked.prog.inPlace 7)=true:=by kernel_rfl
theorem afL:(Rows.winnerBundlesRow.unfollowed==Tryz.pinned.checked.prog.unfollowed 7)=true:=by kernel_rfl
theorem afM:(Rows.winnerBundlesRow.recurses==Tryz.pinned.checked.prog.recurses 7)=true:=by kernel_rfl
theorem afN:(Rows.winnerBundlesRow.named==Tryz.pinned.checked.prog.varsNamed 7)=true:=by kernel_rfl
theorem afO:joinedFacts Tryz.pinned.checked.prog 7 Tryz.f7 Rows.winnerBundlesSpec Rows.winnerBundlesRow=true:=by
 simp only[joinedFacts,afK,afL,afM,afN,γ3,γ8];kernel_rfl
theorem wbun_holds:Rows.WinnerBundlesSaid:=
 OpenClaim.holds_of_wide 7 Tryz.f7 rfl rfl rfl rfl rfl rfl rfl ⟨rfl,rfl,rfl,rfl,rfl⟩ rfl rfl rfl rfl rfl (by kernel_rfl) Tryz.func7 afO
  (of_decide_eq_true (by kernel_rfl)) (by unfold Func.isWrapper;first|(rw[if_pos (by decide+kernel)];kernel_rfl)|(rw[if_neg (by decide+kernel)];exact⟨rfl,rfl⟩))
  (λos started H enc _=>afJ os started H enc)
#print axioms wbun_holds
end Go.Proofs.YtlphnffeeefcdaaGreat
namespace Go.Proofs.YtlphnffeeefcdaaGreat
open Go.ChangeShapes Go.WideShapes Go.ChangeAt Go.RowKit Go.Vi
theorem afP {H:Type} {enc:TypeId×Value->H} {w:World} {spare:Nat->Bool} {held:Bool} {fuel:Nat} {cs:List Value} {x:DataW H×List MemPlace} (h:DataW.trod enc Tryz.prog w 0 spare held fuel 5 cs=some x):
  ∃n:Int,(0<=n/\n<=255)/\cs=[.int .u8 n]:=by
 obtain⟨n,rfl,_,hw⟩:=DataW.trod_int Tryz.underlying5 h;simp only[Lit.wf,ζ,decide_eq_true_eq] at hw;exact⟨n,hw,rfl⟩
theorem afQ {W:World} (n:Int):bw iU W [] [] ((eK .u8).put n).g (.int .u8 n):=by
 simp[eK,SV.g,bw,Value.oneCell']
end Go.Proofs.YtlphnffeeefcdaaGreat
namespace Go.Vi
open Go.Proofs.YtlphnffeeefcdaaGreat.Ir
open Go.Proofs
section
variable {p:bn} {v:Int} {t:List cQ} {a lo mid hi n:Nat} {f:List Int} {k:Int} {s:List Bool}
end
def pV (x:bM):Nat:=x.2.1.length+x.2.2.length
def wt (n:cQ):Nat:=(n.2.2.2.2.map pV).sum
def Bf (t:List cQ):Nat:=(t.map wt).sum
def yM (n:cQ):Prop:=∀x∈n.2.2.2.2,bz x.2.1/\bz x.2.2
theorem LY:∀{l:List Nat} {x:Nat},x∈l->x<=l.sum
 |y::l,x,h=>by
  rw[δH];rcases γC.1 h with e|h;·omega
  ·have:=LY h;omega
theorem Vb {α:Type} {g:α->Nat} {l:List α} {d:α}:∀{n:Nat},n<=l.length->o7 n (λk=>g (bj l k d))=((l.take n).map g).sum
 |0,_=>by simp[o7];|n+1,h=>by
  simp only[o7];rw[Vb (by omega),List.take_succ_eq_append_getElem (by omega),γb,List.sum_append,cV (by omega)];simp
theorem afR {t:List cQ} {u:List (Int×Bool)} {k:Int} {f:List Int} (h:gp f=true):gp (mJ t u k f)=true:=by
 unfold mJ;split
 ·refine AW h ?_;split<;>omega
 ·exact h
theorem Vd {t:List cQ} {u:List (Int×Bool)}:∀{m:Nat} {k:Int} {f:List Int},gp f=true->gp (gR t u m k f)=true
 |0,_,_,h=>h
 |m+1,k,f,h=>by
  unfold gR;split;·exact Vd (afR h)
  ·exact h
theorem afS {x:bM} (h:okF x=true) (h1:bz x.2.1) (h2:bz x.2.2):Sz (pV x) (bQ x):=by
 have e:=of_decide_eq_true h;obtain⟨_,⟨_,_,u3⟩,⟨_,_,u6⟩⟩:=lu (bQ x);rw[e] at u3 u6;unfold Sz pV;rw[<-u3,<-u6];exact⟨Rj h1 (by omega),Rj h2 (by omega)⟩
theorem afT {p:bn} {v:Int} {t:List cQ} (hq:∀n∈t,yM n) (hz:Bf t<=1048576) (hl:t.length<=1000000000000) (hv: -9223372036854775808<=v/\v<=9223372036854775807):pS p v t:=by
 have hzn:∀n∈t,wt n<=1048576:=λn hn=>by
  have:=LY (δ2 (f:=wt) hn);unfold Bf at hz;omega
 have hzf:∀n∈t,∀x∈n.2.2.2.2,pV x<=1048576:=λn hn x hx=>by
  have h1:=LY (δ2 (f:=pV) hx);have h2:=hzn n hn;unfold wt at h2;omega
 refine⟨λn hn x hx=>⟨hq n hn x hx,?_⟩,hl,λhc ht hr=>⟨⟨hc,ht⟩,hv,λi hi h1=>?_⟩⟩
 ·have:=hzf n hn x hx;unfold pV at this;omega
 have hm:bj t i bA.dflt∈t:=dj hi;have hok:=U4 ht hi h1;have hrow:=κ.1 hr _ hm;unfold kx at hrow;rw[decide_eq_true h1,γ3,Bool.not_eq_true',decide_eq_false_iff_not] at hrow;have hlen:(bj t i bA.dflt).2.2.2.2.length=mF p:=by
  have:=Ξ.1 hrow;unfold cZ at this;unfold mF;omega
 have Ve:=hq _ hm;have hzn:=hzn _ hm;unfold wt at hzn;unfold yM at Ve;generalize (bj t i bA.dflt).2.2.2.2=x at*;refine⟨⟨hc,uw,by unfold gi;exact Vd U3⟩,vL x,?_,by unfold vL;rw[Ω];exact hlen,λk=>pV (bj x k sF.dflt),λk hk=>?_,?_⟩
 ·unfold fL vL;rw[δg];conv=>lhs;rw[<-List.map_id x]
  refine List.map_congr_left λe he=>?_;exact(of_decide_eq_true (hok e he)).symm
 ·have hk:k<x.length:=by omega
  have hm:=ζo hk;have hd:=Ve _ hm;have:=afS (hok _ hm) hd.1 hd.2;show Sz (pV (bj x k sF.dflt)) (bj (vL x) k 0);rw[cV hk,cV (by unfold vL;rw[Ω];exact hk)];simpa[vL] using this
 ·rw[Vb (by omega),List.take_of_length_le (by omega)];omega
noncomputable def LZ:bL:=⟨6,bn×Alloc×List cQ,.cons dE (.cons jZ (.one (dM bA))),λa=>a.2.1.chosen.length<=9223372036854775807/\a.2.2.length<=9223372036854775807/\(∀n∈a.2.2,yM n)/\Bf a.2.2<=1048576,λ_=> .sb true⟩
theorem h462:Holds Tryz.prog LZ:=by
 refine cF (L:=[yL,uy,Bc,EZ]) LZ lk (by simpa using⟨h471,h472,h474,h426⟩) ?_;rintro⟨p,⟨c,w⟩,t⟩ ⟨hc,hl,hq,hz⟩;simp only at hc hl hq hz;refine bO (let a:=γw;let b:=(0:Int);let d:=decide ((20:Int)<(↑c.length:Int));let e:=decide ((300:Int)<(↑t.length:Int));let f:=decide ((cz p).value=w);let g:=λ(u:Bool) ↦decide (pT p (c,w,t)≠b)=u;True/\((!me p)=true->True/\(a true).same (a true))/\((!me p)=false->(d=true->True/\(a true).same (a true))/\(d=false->(e=true->True/\(a true).same (a true))/\(e=false->(c.length<=1000000000000/\(bW p c=b->de p c=w->pS p w t))/\(g true->True/\(a true).same (a true))/\(g false->bB p=b/\(f=true->True/\(a true).same (a true))/\(f=false->(δa false).same (a true))))))) (by kernel_rfl) ?_;simp only[vcs];have uz:t.length<=300->bW p c=0->de p c=w->pS p w t:=λh3 hf hv=>by
  have:=sO (LI hf).1 hf;exact afT hq hz (by omega) (by omega)
 have hw:pT p (c,w,t)=if bW p c≠0 then bW p c else if de p c≠w then 13 else o8 p w t:=rfl;refine⟨λ_=>trivial,λhs=>⟨λ_=>trivial,λh20=>⟨λ_=>trivial,λh300=>?_⟩⟩⟩;have uz:=uz (by omega);unfold me at hs;simp only[ζ,decide_eq_true_eq] at hs;obtain⟨_,hck⟩:=hs;refine⟨⟨by omega,uz⟩,λ_=>trivial,λh0=>⟨hck,λ_=>trivial,λh=>absurd ?_ h⟩⟩;have h0:=Ξ.1 h0;rw[hw] at h0;split at h0;·rename_i h1;exact absurd h0 h1
 rename_i h1;split at h0;·cases h0
 rename_i h2;have h1:=Ξ.1 h1;have h2:=Ξ.1 h2;obtain⟨l,hl1,hl2⟩:=Ko hck;have h3:=U5 h0 hl1;have h4:=J9 hck h1;omega
end Go.Vi
namespace Go.Proofs.YtlphnffeeefcdaaGreat
open Go.ChangeShapes Go.WideShapes Go.ChangeAt Go.RowKit Go.Vi
theorem afV {H:Type} (d:DataW H):1<=Rows.uptoBulk d:=by
 cases d with
 |lit l=>cases l<;>simp[Rows.uptoBulk];|_=>simp[Rows.uptoBulk]
def wu (P:Program) (t:TypeId) (s:bp) (Q:s.T->Prop) (z:s.T->Nat):Prop:=
 ∀(H:Type) (enc:TypeId×Value->H) (w:World) (spare:Nat->Bool) (held:Bool) (fuel:Nat) (cs:List Value) (x:DataW H×List MemPlace),DataW.trod enc P w 0 spare held fuel t cs=some x->∃y:s.T,Q y/\z y<=Rows.uptoBulk x.1/\bF iU w [] [] (dB s y) cs
theorem Vf {P:Program} {t:TypeId} {k:IntKind} (ht:P.underlying t=some (.int k)):wu P t (.i k) (λn=>k.min<=(show Int from n)/\(show Int from n)<=k.max) λ_=>1:=λH enc w spare held fuel cs x h=>by
 obtain⟨y,h1,h2⟩:=HG ht H enc w spare held fuel cs x h;exact⟨y,h1,afV _,h2⟩
theorem Vg {H:Type} {α:Type} {f:Nat->α} {z:α->Nat} {D:Nat->DataW H}:∀{L:List Nat},(∀i∈L,z (f i)<=Rows.uptoBulk (D i))->((L.map f).map z).sum<=Rows.uptoBulkAll (L.map D)
 |[],_=>by simp[Rows.uptoBulkAll];|i::L,h=>by
  have h1:=h i (δh ..);have h2:=Vg (L:=L) λj hj=>h j (γW _ hj);simp only[ξ,δH,Rows.uptoBulkAll];omega
theorem Fg {P:Program} {t e:TypeId} {s:bp} {Q:s.T->Prop} {z:s.T->Nat} (ht:P.underlying t=some (.slice e)) (he:wu P e s Q z) (hc:P.cellsOf e=s.sz)
  {H:Type} {enc:TypeId×Value->H} {w:World} {spare:Nat->Bool} {held:Bool} {fuel:Nat} {cs:List Value} {x:DataW H×List MemPlace} (h:DataW.trod enc P w 0 spare held fuel t cs=some x):
  ∃(v:Value) (l:List s.T),cs=[v]/\l.length<=9223372036854775807/\(∀y∈l,Q y)/\(l.map z).sum<=Rows.uptoBulk x.1/\bw iU w [] [] (Θ s l).g v:=by
 rcases Go.Deep.open_slice ht h with⟨rfl,_⟩|⟨a,len,cap,m,n,D,Pl,rfl,hb,hl,hm,hmm,hxe,hx⟩;·exact⟨_,[],rfl,by simp,by simp,by simp,by simp only[SV.g,bw];exact⟨none,0,rfl,φ _,by simp[cE,dr],by simp[cE,dA]⟩⟩
 ·have hlm:len<=m:=by rw[hmm];split<;>omega
  have h1:∀i,i<len->∃y:s.T,∃cs,(Q y/\z y<=Rows.uptoBulk (D i))/\w.cells? 0 (a.add (i*s.sz)) s.sz=some cs/\bF iU w [] [] (dB s y) cs:=λi hi=>by
   obtain⟨cs',k1,k2⟩:=hx i (by omega);obtain⟨y,hq,hz,hy⟩:=he _ _ _ _ _ _ _ _ k2;rw[hc] at k1;exact⟨y,cs',⟨hq,hz⟩,k1,hy⟩
  obtain⟨f,hf⟩:=Go.Deep.choose_lt h1;refine⟨_,(ψ len).map f,rfl,?_,?_,?_,?_⟩
  ·rw[Ω,δX];unfold maxLen at hm;omega
  ·intro y hy;obtain⟨i,hi,rfl⟩:=γa.1 hy;obtain⟨_,hq,_⟩:=hf i (γm.1 hi);exact hq.1
  ·have h2:=Vg (f:=f) (z:=z) (D:=D) (L:=ψ len) λi hi=>by
    obtain⟨_,hq,_⟩:=hf i (γm.1 hi);exact hq.2
   rw[hxe];simp only[Rows.uptoBulk];omega
  simp only[SV.g,bw,Ω,δX];refine⟨some a,cap,rfl,hl,oJ _ _,?_⟩;have:=CP (w:=w) (a:=a) (s:=s) (l:=(ψ len).map f) (i0:=0) (λi y hy=>by
   rw[List.getElem?_map] at hy;obtain⟨j,hj,rfl⟩:=ε.1 hy;have hi:i<len:=by
    have:=(List.getElem?_eq_some_iff.1 hj).1;simpa using this
   rw[List.getElem?_range hi] at hj;simp only[γ] at hj;subst hj;rw[Nat.zero_add];obtain⟨cs,_,k⟩:=hf i hi;exact⟨cs,k⟩);simpa using this
theorem Vh {α:Type}:∀{l:List α},(l.map λ_=>1).sum=l.length
 |[]=>rfl
 |x::l=>by simp only[ξ,δH,List.length_cons];rw[Vh];omega
theorem afW {P:Program} {t b n e:TypeId} {fs:Array Field} (ht:P.underlying t=some (.struct fs)) (hn:P.cellsOf t=3) (hsz:fs.size=3)
  (h0:(fs[0]?).map (λf=>(f.type,f.offset))=some (b,0)) (h1:(fs[1]?).map (λf=>(f.type,f.offset))=some (n,1)) (h2:(fs[2]?).map (λf=>(f.type,f.offset))=some (n,2))
  (hb:P.underlying b=some .bool) (hcb:P.cellsOf b=1) (hs:P.underlying n=some (.slice e)) (hcn:P.cellsOf n=1) (he:P.underlying e=some (.int .u32)) (hce:P.cellsOf e=1):
  wu P t C5 HH pV:=λH enc w spare held fuel cs x h=>by
 obtain⟨xs,m,_,hxe,hl,hxs,hf⟩:=DataW.trod_struct ht h;rw[hn] at hl;obtain⟨f0,e0,k0⟩:=ε.1 h0;obtain⟨f1,e1,k1⟩:=ε.1 h1;obtain⟨f2,e2,k2⟩:=ε.1 h2;simp only[μ] at k0 k1 k2;have g0:=hf 0 f0 e0;have g1:=hf 1 f1 e1;have g2:=hf 2 f2 e2;rw[hsz] at hxs;match xs,hxs with
 |[x0,x1,x2],_=>
 rw[k0.1,k0.2,hcb] at g0;rw[k1.1,k1.2,hcn] at g1;rw[k2.1,k2.2,hcn] at g2;simp only[γ2,γz] at g0 g1 g2;obtain⟨b0,q0,_⟩:=DataW.trod_bool hb g0;obtain⟨v1,l1,q1,n1,d1,z1,r1⟩:=Fg hs (Vf he) hce g1;obtain⟨v2,l2,q2,n2,d2,z2,r2⟩:=Fg hs (Vf he) hce g2;rw[Vh] at z1 z2;match cs,hl with
 |[c0,c1,c2],_=>
  simp at q0 q1 q2;subst q0;subst q1;subst q2;have h3:IntKind.u32.min=0:=rfl;have h4:IntKind.u32.max=4294967295:=rfl;refine⟨(b0,(l1,l2)),⟨λd hd=>?_,λd hd=>?_⟩,?_,?_⟩
  ·have:=d1 d hd;rw[h3,h4] at this;have h5:(0:Int)<=d/\d<=4294967295:=this;omega
  ·have:=d2 d hd;rw[h3,h4] at this;have h5:(0:Int)<=d/\d<=4294967295:=this;omega
  ·rw[hxe];simp only[ξ,γs,Rows.uptoBulk,Rows.uptoBulkAll];show l1.length+l2.length<=_;omega
  ·have e:dB C5 (b0,(l1,l2))=[AV.sc (.bool b0),(Θ (.i .u32) l1).g,(Θ (.i .u32) l2).g]:=by
    simp only[dB,dJ,SV.g,cE,ξ,γs,γy,δp]
   rw[e];simp only[bF];exact⟨_,_,rfl,by simp[bw,Value.oneCell'],_,_,rfl,r1,_,_,rfl,r2,rfl⟩
theorem afX {P:Program} {t i n e:TypeId} {fs:Array Field} (ht:P.underlying t=some (.struct fs)) (hn:P.cellsOf t=5) (hsz:fs.size=5)
  (h0:(fs[0]?).map (λf=>(f.type,f.offset))=some (i,0)) (h1:(fs[1]?).map (λf=>(f.type,f.offset))=some (i,1)) (h2:(fs[2]?).map (λf=>(f.type,f.offset))=some (i,2)) (h3:(fs[3]?).map (λf=>(f.type,f.offset))=some (i,3)) (h4:(fs[4]?).map (λf=>(f.type,f.offset))=some (n,4))
  (hi:P.underlying i=some (.int .i64)) (hci:P.cellsOf i=1) (hs:P.underlying n=some (.slice e)) (hcn:P.cellsOf n=1) (he:wu P e C5 HH pV) (hce:P.cellsOf e=3):
  wu P t bA yM wt:=λH enc w spare held fuel cs x h=>by
 obtain⟨xs,m,_,hxe,hl,hxs,hf⟩:=DataW.trod_struct ht h;rw[hn] at hl;obtain⟨f0,e0,k0⟩:=ε.1 h0;obtain⟨f1,e1,k1⟩:=ε.1 h1;obtain⟨f2,e2,k2⟩:=ε.1 h2;obtain⟨f3,e3,k3⟩:=ε.1 h3;obtain⟨f4,e4,k4⟩:=ε.1 h4;simp only[μ] at k0 k1 k2 k3 k4;have g0:=hf 0 f0 e0;have g1:=hf 1 f1 e1;have g2:=hf 2 f2 e2;have g3:=hf 3 f3 e3;have g4:=hf 4 f4 e4;rw[hsz] at hxs;match xs,hxs with
 |[x0,x1,x2,x3,x4],_=>
 rw[k0.1,k0.2,hci] at g0;rw[k1.1,k1.2,hci] at g1;rw[k2.1,k2.2,hci] at g2;rw[k3.1,k3.2,hci] at g3;rw[k4.1,k4.2,hcn] at g4;simp only[γ2,γz] at g0 g1 g2 g3 g4;obtain⟨n0,q0,_,_⟩:=DataW.trod_int hi g0;obtain⟨n1,q1,_,_⟩:=DataW.trod_int hi g1;obtain⟨n2,q2,_,_⟩:=DataW.trod_int hi g2;obtain⟨n3,q3,_,_⟩:=DataW.trod_int hi g3;obtain⟨v4,l4,q4,_,d4,z4,r4⟩:=Fg hs he hce g4;match cs,hl with
 |[c0,c1,c2,c3,c4],_=>
  simp at q0 q1 q2 q3 q4;subst q0 q1 q2 q3 q4;refine⟨(n0,(n1,(n2,(n3,l4)))),d4,?_,?_⟩
  ·rw[hxe];simp only[ξ,γs,Rows.uptoBulk,Rows.uptoBulkAll];show(l4.map pV).sum<=_;omega
  ·have e:dB bA (n0,(n1,(n2,(n3,l4))))=[AV.sc (.int .i64 n0),AV.sc (.int .i64 n1),AV.sc (.int .i64 n2),AV.sc (.int .i64 n3),(Θ sF l4).g]:=by
    simp only[dB,dJ,SV.g,cE,ξ,γs,γy,δp]
   rw[e];simp only[bF];exact⟨_,_,rfl,by simp[bw,Value.oneCell'],_,_,rfl,by simp[bw,Value.oneCell'],_,_,rfl,by simp[bw,Value.oneCell'],_,_,rfl,by simp[bw,Value.oneCell'],_,_,rfl,r4,rfl⟩
theorem afY:wu Tryz.prog 126 C5 HH pV:=
 afW Tryz.underlying126 (by kernel_rfl) rfl rfl rfl rfl Tryz.underlying4 (by kernel_rfl) Tryz.underlying124 (by kernel_rfl) Tryz.underlying187 (by kernel_rfl)
theorem afZ:wu Tryz.prog 68 bA yM wt:=
 afX Tryz.underlying68 (by kernel_rfl) rfl rfl rfl rfl rfl rfl Tryz.underlying3 (by kernel_rfl) Tryz.underlying66 (by kernel_rfl) afY (by kernel_rfl)
theorem af0 {H:Type} {enc:TypeId×Value->H} {w:World} {spare:Nat->Bool} {held:Bool} {fuel:Nat} {cs:List Value} {x:DataW H×List MemPlace} (h:DataW.trod enc Tryz.prog w 0 spare held fuel 33 cs=some x):
  ∃(v:Value) (l:List cQ),cs=[v]/\l.length<=9223372036854775807/\(∀y∈l,yM y)/\Bf l<=Rows.uptoBulk x.1/\bw iU w [] [] (Θ bA l).g v:=Fg Tryz.underlying33 afZ (by kernel_rfl) h
end Go.Proofs.YtlphnffeeefcdaaGreat
namespace Go.Proofs.YtlphnffeeefcdaaGreat
open Go.ChangeShapes Go.WideShapes Go.ChangeAt Go.RowKit Go.Vi
theorem af2 (os:Os) (started:os.Started) (H:Type) (enc:TypeId×Value->H):
  ReturnsInHanded {} Tryz.checked os 8 .any (Rows.winnerReorderedSpec.pre6 enc Tryz.prog Tryz.f8 Rows.winnerReorderedRow.domain false) (Rows.winnerReorderedSpec.post enc Tryz.prog Tryz.f8 false true false false):=by
 refine returnsInHanded_of_change (C:=Tryz.checked) Tryz.own started (by kernel_rfl) Tryz.func8
  (ChangeSpec.witness6 (enc:=enc) (C:=Tryz.checked) false ⟨#[],#[.agg #[.int .i64 0,.int .i64 0,.int .i64 0,.int .i64 0,.int .i64 0,.int .i64 0,.int .i64 0,.int .i64 0,.int .i64 0,.int .i64 0,.int .i64 0,.int .i64 0,.int .i64 0,.int .i64 0,.int .i64 0,.int .i64 0,.int .i64 0,.int .i64 0,.slice none 0 0,.slice none 0 0],.int .u8 0],[]⟩ 8 (by kernel_rfl) (by kernel_rfl) (by kernel_rfl) (by kernel_rfl)) ?_;intro W base args ds gs before hval0 hW hcnd _;have hval:∀(j:Nat) t v,Tryz.f8.params[j]?=some t->args[j]?=some v->Value.okWide Tryz.prog W .any base t v:=hval0;have hW':=hW;obtain⟨p,q,qM,hV,rfl,hfz,hnd⟩:=hW;have hA:DataW.TrodAll enc Tryz.prog W 0 (λ_=>true) true Tryz.f8.params.toList args.toList ds p:=qM;have hA2:=hA;rw[Tryz.params8] at hA hval;obtain⟨v0,v1,d0,d1,p0,p1,rfl,rfl,rfl,⟨n0,h0⟩,⟨n1,h1⟩⟩:=trodAll_two hA;obtain⟨rfl,rfl⟩:=trodVars_none hV;obtain⟨c0,rfl,e0⟩:=vu Tryz.underlying27 (hval 0 27 v0 rfl rfl);rw[e0] at h0;obtain⟨a0,r0⟩:=xC h0;rw[Zc Tryz.underlying5 (hval 1 5 v1 rfl rfl)] at h1;obtain⟨a1,b1,e1⟩:=afP h1;have hw1:v1= .int .u8 a1:=by simpa using e1
 subst hw1;have hcall:=xE (W:=W) (f:=8) (args:=LV.A.put (a0,a1)) (h464 (a0,a1) b1).2 (vs:=[.agg c0,.int .u8 a1]) ⟨_,_,rfl,⟨c0,rfl,r0⟩,_,_,rfl,afQ a1,rfl⟩;refine hcall.mono λe W' ⟨he,hw⟩=>?_;subst he;have hlt:∀x∈p0++p1,x.block<W.heap.size:=λx hx=>hW'.lt x (by simpa using hx);refine⟨_,rfl,[d0,d1],[],p0++p1++[],[],p0++p1,[],hW',trodAll_mk1 (shut_bool Tryz.underlying4 true),vx Tryz.laidOut hw hA2 ?_ hlt (λx hx=>by simpa using hlt x hx),rfl,hw.frame _,λh=>by cases h⟩;intro t ht;have ht2:t=27\/t=5:=by
  have:Tryz.f8.params.toList=[27,5]:=rfl;rw[this] at ht;simpa using ht
 rcases ht2 with rfl|rfl;·exact⟨by kernel_rfl,of_decide_eq_true (by kernel_rfl)⟩
 ·exact⟨by kernel_rfl,of_decide_eq_true (by kernel_rfl)⟩
theorem af4:(Rows.winnerReorderedRow.inPlace==Tryz.pinned.checked.prog.inPlace 8)=true:=by kernel_rfl
theorem af5:(Rows.winnerReorderedRow.unfollowed==Tryz.pinned.checked.prog.unfollowed 8)=true:=by kernel_rfl
theorem af6:(Rows.winnerReorderedRow.recurses==Tryz.pinned.checked.prog.recurses 8)=true:=by kernel_rfl
theorem af7:(Rows.winnerReorderedRow.named==Tryz.pinned.checked.prog.varsNamed 8)=true:=by kernel_rfl
theorem af8:joinedFacts Tryz.pinned.checked.prog 8 Tryz.f8 Rows.winnerReorderedSpec Rows.winnerReorderedRow=true:=by
 simp only[joinedFacts,af4,af5,af6,af7,γ3,γ8];kernel_rfl
theorem wreo_holds:Rows.WinnerReorderedSaid:=
 OpenClaim.holds_of_wide 8 Tryz.f8 rfl rfl rfl rfl rfl rfl rfl ⟨rfl,rfl,rfl,rfl,rfl⟩ rfl rfl rfl rfl rfl (by kernel_rfl) Tryz.func8 af8
  (of_decide_eq_true (by kernel_rfl)) (by unfold Func.isWrapper;first|(rw[if_pos (by decide+kernel)];kernel_rfl)|(rw[if_neg (by decide+kernel)];exact⟨rfl,rfl⟩))
  (λos started H enc _=>af2 os started H enc)
#print axioms wreo_holds
theorem af9 (os:Os) (started:os.Started) (H:Type) (enc:TypeId×Value->H):
  ReturnsInHanded {} Tryz.checked os 9 .any (Rows.winnerGrowsSpec.pre6 enc Tryz.prog Tryz.f9 Rows.winnerGrowsRow.domain false) (Rows.winnerGrowsSpec.post enc Tryz.prog Tryz.f9 false true false false):=by
 refine returnsInHanded_of_change (C:=Tryz.checked) Tryz.own started (by kernel_rfl) Tryz.func9
  (ChangeSpec.witness6 (enc:=enc) (C:=Tryz.checked) false ⟨#[],#[.agg #[.int .i64 0,.int .i64 0,.int .i64 0,.int .i64 0,.int .i64 0,.int .i64 0,.int .i64 0,.int .i64 0,.int .i64 0,.int .i64 0,.int .i64 0,.int .i64 0,.int .i64 0,.int .i64 0,.int .i64 0,.int .i64 0,.int .i64 0,.int .i64 0,.slice none 0 0,.slice none 0 0]],[]⟩ 8 (by kernel_rfl) (by kernel_rfl) (by kernel_rfl) (by kernel_rfl)) ?_;intro W base args ds gs before hval0 hW hcnd _;have hval:∀(j:Nat) t v,Tryz.f9.params[j]?=some t->args[j]?=some v->Value.okWide Tryz.prog W .any base t v:=hval0;have hW':=hW;obtain⟨p,q,qM,hV,rfl,hfz,hnd⟩:=hW;have hA:DataW.TrodAll enc Tryz.prog W 0 (λ_=>true) true Tryz.f9.params.toList args.toList ds p:=qM;have hA2:=hA;rw[Tryz.params9] at hA hval;obtain⟨v0,d0,rfl,rfl,n0,h0⟩:=trodAll_one hA;obtain⟨rfl,rfl⟩:=trodVars_none hV;obtain⟨c0,rfl,e0⟩:=vu Tryz.underlying27 (hval 0 27 v0 rfl rfl);rw[e0] at h0;obtain⟨a0,r0⟩:=xC h0;have hcall:=xE (W:=W) (f:=9) (args:=LX.A.put (a0)) (h465 (a0) trivial).2 (vs:=[.agg c0]) ⟨_,_,rfl,⟨c0,rfl,r0⟩,rfl⟩;refine hcall.mono λe W' ⟨he,hw⟩=>?_;subst he;have hlt:∀x∈p,x.block<W.heap.size:=λx hx=>hW'.lt x (by simpa using hx);refine⟨_,rfl,[d0],[],p++[],[],p,[],hW',trodAll_mk1 (shut_bool Tryz.underlying4 true),vx Tryz.laidOut hw hA2 ?_ hlt (λx hx=>by simpa using hlt x hx),rfl,hw.frame _,λh=>by cases h⟩;intro t ht;have ht2:t=27:=by
  have:Tryz.f9.params.toList=[27]:=rfl;rw[this] at ht;simpa using ht
 rcases ht2 with rfl;·exact⟨by kernel_rfl,of_decide_eq_true (by kernel_rfl)⟩
theorem aga:(Rows.winnerGrowsRow.inPlace==Tryz.pinned.checked.prog.inPlace 9)=true:=by kernel_rfl
theorem agb:(Rows.winnerGrowsRow.unfollowed==Tryz.pinned.checked.prog.unfollowed 9)=true:=by kernel_rfl
theorem agc:(Rows.winnerGrowsRow.recurses==Tryz.pinned.checked.prog.recurses 9)=true:=by kernel_rfl
theorem agd:(Rows.winnerGrowsRow.named==Tryz.pinned.checked.prog.varsNamed 9)=true:=by kernel_rfl
theorem agf:joinedFacts Tryz.pinned.checked.prog 9 Tryz.f9 Rows.winnerGrowsSpec Rows.winnerGrowsRow=true:=by
 simp only[joinedFacts,aga,agb,agc,agd,γ3,γ8];kernel_rfl
theorem wgro_holds:Rows.WinnerGrowsSaid:=
 OpenClaim.holds_of_wide 9 Tryz.f9 rfl rfl rfl rfl rfl rfl rfl ⟨rfl,rfl,rfl,rfl,rfl⟩ rfl rfl rfl rfl rfl (by kernel_rfl) Tryz.func9 agf
  (of_decide_eq_true (by kernel_rfl)) (by unfold Func.isWrapper;first|(rw[if_pos (by decide+kernel)];kernel_rfl)|(rw[if_neg (by decide+kernel)];exact⟨rfl,rfl⟩))
  (λos started H enc _=>af9 os started H enc)
#print axioms wgro_holds
theorem agh (os:Os) (started:os.Started) (H:Type) (enc:TypeId×Value->H) (F:Stop.Interp):
  ReturnsInHanded {} Tryz.checked os 6 .any ((Rows.OpenSpec.upto Rows.winnerSoundSpec).pre6 enc Tryz.prog Tryz.f6 Rows.winnerSoundUptoRow.domain false) (((Rows.OpenSpec.upto Rows.winnerSoundSpec).at F).post enc Tryz.prog Tryz.f6 false true false false):=by
 refine returnsInHanded_of_cond (C:=Tryz.checked) (s:=Rows.OpenSpec.upto Rows.winnerSoundSpec) (k:=Rows.uptoSmall) rfl Tryz.own started (by kernel_rfl) Tryz.func6
  (OpenSpec.witness (enc:=enc) (C:=Tryz.checked) (s:=Rows.OpenSpec.upto Rows.winnerSoundSpec) (k:=Rows.uptoSmall) rfl false ⟨#[],#[.agg #[.int .i64 0,.int .i64 0,.int .i64 0,.int .i64 0,.int .i64 0,.int .i64 0,.int .i64 0,.int .i64 0,.int .i64 0,.int .i64 0,.int .i64 0,.int .i64 0,.int .i64 0,.int .i64 0,.int .i64 0,.int .i64 0,.int .i64 0,.int .i64 0,.slice none 0 0,.slice none 0 0],.agg #[.slice none 0 0,.int .i64 0],.slice none 0 0],[]⟩ 8 (by kernel_rfl) (by kernel_rfl) (by kernel_rfl) (x:=([.agg [.agg [.lit (.int .i64 0),.lit (.int .i64 0),.lit (.int .i64 0),.lit (.int .i64 0),.lit (.int .i64 0),.lit (.int .i64 0)],.agg [.lit (.int .i64 0),.lit (.int .i64 0),.lit (.int .i64 0),.lit (.int .i64 0),.lit (.int .i64 0),.lit (.int .i64 0)],.agg [.lit (.int .i64 0),.lit (.int .i64 0),.lit (.int .i64 0),.lit (.int .i64 0),.lit (.int .i64 0),.lit (.int .i64 0)],.nil,.nil],.agg [.nil,.lit (.int .i64 0)],.nil],[],[])) (by kernel_rfl) rfl (by kernel_rfl)) ?_;intro W base args ds gs before hval0 hW hcnd hk _;have hval:∀(j:Nat) t v,Tryz.f6.params[j]?=some t->args[j]?=some v->Value.okWide Tryz.prog W .any base t v:=hval0;have hW':=hW;obtain⟨p,q,qM,hV,rfl,hfz,hnd⟩:=hW;have hA:DataW.TrodAll enc Tryz.prog W 0 (λ_=>true) true Tryz.f6.params.toList args.toList ds p:=qM;have hA2:=hA;rw[Tryz.params6] at hA hval;obtain⟨v0,v1,v2,d0,d1,d2,p0,p1,p2,rfl,rfl,rfl,⟨n0,h0⟩,⟨n1,h1⟩,⟨n2,h2⟩⟩:=trodAll_three hA;obtain⟨rfl,rfl⟩:=trodVars_none hV;obtain⟨c0,rfl,e0⟩:=vu Tryz.underlying27 (hval 0 27 v0 rfl rfl);rw[e0] at h0;obtain⟨a0,r0⟩:=xC h0;obtain⟨c1,rfl,e1⟩:=vu Tryz.underlying31 (hval 1 31 v1 rfl rfl);rw[e1] at h1;obtain⟨a1,b1,r1⟩:=Zy h1;rw[Pv Tryz.underlying33 (hval 2 33 v2 rfl rfl)] at h2;obtain⟨w2,a2,e2,b2,q2,z2,r2⟩:=af0 h2;have hw2:v2=w2:=by simpa using e2
 subst hw2;have s2:Bf a2<=1048576:=by
  have hk2:=of_decide_eq_true hk;simp only[List.append_nil,Rows.uptoBulkAll] at hk2;simp only at z2;omega
 have hcall:=xE (W:=W) (f:=6) (args:=LZ.A.put (a0,a1,a2)) (h462 (a0,a1,a2) ⟨b1,b2,q2,s2⟩).2 (vs:=[.agg c0,.agg c1,v2]) ⟨_,_,rfl,⟨c0,rfl,r0⟩,_,_,rfl,⟨c1,rfl,r1⟩,_,_,rfl,r2,rfl⟩;refine hcall.mono λe W' ⟨he,hw⟩=>?_;subst he;have hlt:∀x∈p0++p1++p2,x.block<W.heap.size:=λx hx=>hW'.lt x (by simpa using hx);refine⟨_,rfl,[d0,d1,d2],[],p0++p1++p2++[],[],p0++p1++p2,[],hW',trodAll_mk1 (shut_bool Tryz.underlying4 true),vx Tryz.laidOut hw hA2 ?_ hlt (λx hx=>by simpa using hlt x hx),rfl,hw.frame _,λh=>by cases h⟩;intro t ht;have ht2:t=27\/t=31\/t=33:=by
  have:Tryz.f6.params.toList=[27,31,33]:=rfl;rw[this] at ht;simpa using ht
 rcases ht2 with rfl|rfl|rfl;·exact⟨by kernel_rfl,of_decide_eq_true (by kernel_rfl)⟩
 ·exact⟨by kernel_rfl,of_decide_eq_true (by kernel_rfl)⟩
 ·exact⟨by kernel_rfl,of_decide_eq_true (by kernel_rfl)⟩
theorem agi:(Rows.winnerSoundUptoRow.inPlace==Tryz.pinned.checked.prog.inPlace 6)=true:=by kernel_rfl
theorem agj:(Rows.winnerSoundUptoRow.unfollowed==Tryz.pinned.checked.prog.unfollowed 6)=true:=by kernel_rfl
theorem agk:(Rows.winnerSoundUptoRow.recurses==Tryz.pinned.checked.prog.recurses 6)=true:=by kernel_rfl
theorem agl:(Rows.winnerSoundUptoRow.named==Tryz.pinned.checked.prog.varsNamed 6)=true:=by kernel_rfl
theorem agm:joinedFacts Tryz.pinned.checked.prog 6 Tryz.f6 (Rows.OpenSpec.upto Rows.winnerSoundSpec).bare Rows.winnerSoundUptoRow=true:=by
 simp only[joinedFacts,agi,agj,agk,agl,γ3,γ8];kernel_rfl
theorem wsou_holds:Rows.WinnerSoundUptoSaid:=
 OpenClaim.holds_of_cond 6 Tryz.f6 rfl rfl rfl rfl rfl rfl rfl ⟨rfl,rfl,rfl,rfl,rfl⟩ rfl rfl rfl rfl rfl (by kernel_rfl) Tryz.func6 agm
  (of_decide_eq_true (by kernel_rfl)) (by unfold Func.isWrapper;first|(rw[if_pos (by decide+kernel)];kernel_rfl)|(rw[if_neg (by decide+kernel)];exact⟨rfl,rfl⟩))
  (λos started H enc _ F=>agh os started H enc F)
#print axioms wsou_holds
end Go.Proofs.YtlphnffeeefcdaaGreat
