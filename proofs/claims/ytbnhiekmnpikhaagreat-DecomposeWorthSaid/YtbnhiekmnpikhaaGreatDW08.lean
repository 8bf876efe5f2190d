import Derived.Test.YtbnhiekmnpikhaaGreatDW07
import Derived.Maps.OwnRows
import Derived.Maps.Ext
import Derived.StillTailTactics
import Derived.WalkSpells
set_option maxRecDepth 100000
set_option maxHeartbeats 4000000
set_option linter.all false
open Array renaming getElem?_eq_some_iff->γB
open Bool renaming and_eq_true->ζ,or_eq_true->δd
open Classical renaming byContradiction->γU,not_not->γa
open Go.Maps renaming has->θy
open Go.Vi.SV renaming si->γc,row->Ω,ptr->γM,il->γu,ow->γZ,agg->γG,bl->δb,sb->γA
open Int renaming toNat_natCast->γg,le_refl->εk,le_trans->εj,le_of_lt->γi
open List renaming set_eq_of_length_le->ζG,mem_cons->γl,all_eq_true->τ,mem_range->γt,mem_append->γo,mem_cons_self->γs,length_set->γm,replicate->δ,mem_map->Δ,getElem_of_mem->γJ,not_mem_nil->δl,length_map->Φ,length_replicate->γD,filter_sublist->γn,mem_cons_of_mem->γe,countP_cons->θt,range->Γ,filter_congr->εs,filter_eq_nil_iff->δt,ne_nil_of_mem->θh,map_map->γO,getElem_map->δF,nodup_cons->γQ,map_cons->ν,pairwise_map->εV,pairwise_cons->γp,any_eq_true->ζP,sum_cons->εt,map_append->γb,mem_filter->Θ,pairwise_iff_getElem->ζw,idxOf_lt_length_of_mem->γ5,getElem_idxOf->ζt,map_congr_left->γI,mergeSort_perm->δn,pairwise_mergeSort->δK,perm_ext_iff_of_nodup->γ6,length->γf,eq_nil_of_length_eq_zero->ψ,map->γd,take->Ξ,take_length->φ,rel_of_pairwise_cons->ζx,getElem?_take_of_lt->δA,take_succ_eq_append_getElem->γ2,append_assoc->γV,getElem?_map->γH,getElem?_eq_getElem->μ,mem_or_eq_of_mem_set->δk,take_succ_cons->δv,take_zero->εy,drop_succ_cons->εF,drop_zero->εx,setIfInBounds_toArray->ζi,set_cons_zero->εe,set_cons_succ->ζn,eq_nil_iff_forall_not_mem->δ6,attachWith_map_subtype_val->εX,size_toArray->θl,length_attachWith->εS,length_append->γF,getElem?_eq_some_iff->θ,map_take->ζL
open List.Perm renaming eq_of_pairwise->εK
open List.cons renaming injEq->χ
open Nat renaming le_refl->π,le_trans->δ5,zero_le->δ8,lt_of_lt_of_le->γw,le_succ_of_le->ζH,zero_add->εf
open Option renaming map_eq_some_iff->ε
open Prod renaming fst->εu,snd->θu
open Subtype renaming val->εW
namespace Go.Vi
theorem Ud {t:List cA} {u:List (Int×Bool)} {k:Int} {f g h:List Int} (c:f.length=g.length) (a:∀i,bN f i 0=if bN g i 0≠0 then bN g i 0 else bN h i 0):
  ∀i,bN (mT t u k f) i 0=if bN (mT t u k g) i 0≠0 then bN (mT t u k g) i 0 else bN h i 0:=λi=>by
 unfold mT;rw[c];generalize (bN t (bN u k.toNat (0,false)).1.toNat Ap.bw).2.1=o;generalize (bN u k.toNat (0,false)).2=b;split
 ·by_cases d:o.toNat<g.length
  ·rw[gU (by omega),gU d];grind
  ·rw[ζG (by omega),ζG (by omega)];exact a i
 ·exact a i
theorem KS {t:List cA} {u:List (Int×Bool)} {h:List Int}:∀{m:Nat} {k:Int} {f g:List Int},f.length=g.length->(∀i,bN f i 0=if bN g i 0≠0 then bN g i 0 else bN h i 0)->
  ∀i,bN (gC t u m k f) i 0=if bN (gC t u m k g) i 0≠0 then bN (gC t u m k g) i 0 else bN h i 0
 |0,_,_,_,_,a=>a
 |m+1,k,f,g,b,a=>by
  unfold gC;split;·exact KS (by grind[Kc]) (Ud b a)
  ·exact a
theorem KR {t:List cA} {u a:List (Int×Bool)}:∀{m:Nat} {k:Int} {f:List Int},(∀x:Nat,(x:Int)<=k->bN u x (0,false)=bN a x (0,false))->(∀x:Nat,(x:Int)<=k->0<x->0<=(bN u x (0,false)).1/\(bN u x (0,false)).1<x)->gC t u m k f=gC t a m k f
 |0,_,_,_,_=>rfl
 |m+1,k,f,b,c=>by
  unfold gC;split
  ·rename_i j;have e:=b k.toNat (by omega);have d:=c k.toNat (by omega) (by omega);have i:mT t u k f=mT t a k f:=by unfold mT;rw[e]
   rw[i,<-e];exact KR (λx g=>b x (by omega)) λx g h=>c x (by omega) h
  ·rfl
theorem KQ {n:Nat} {i:Int}:∀{l c:List Int},r_ n i c l=true->∀x∈l,(i<x/\x<n)/\x∉c
 |[],_,_,x,a=>by cases a;|y::l,c,h,x,a=>by
  simp only[r_,ζ,decide_eq_true_eq] at h;rcases γl.1 a with rfl|a;·simp_all
  ·have:=KQ h.2 x a;simp_all
theorem Cc {t:List cA} (h:dy t=true) {i:Nat} (b:i<t.length):∀x∈iX (bN t i Ap.bw),((i:Int)<x/\x<t.length)/\x∉gA t i:=by unfold dy at h;simp only[ζ,τ,γt] at h;have a:=h.2.1 i b;unfold kc at a;simp only[ζ] at a;exact KQ a.2
theorem Cb {t:List cA} {x:Int}:∀{i:Nat},i<=t.length->(x∈gA t i↔∃q,q<i/\x∈iX (bN t q Ap.bw))
 |0,_=>by simp[gA];|i+1,b=>by have a:=@Kt t i (by omega) (by omega);rw[show((i:Int)+1).toNat=i+1 by omega,γg] at a;rw[a,γo,Cb (by omega)];grind
theorem KP {t:List cA} (b:dy t=true) {i:Nat}:∀{j:Nat},i<=j->j<=t.length->∀x,x<=i->bN (dW t j) x (0,false)=bN (dW t i) x (0,false)
 |0,c,_,_,_=>by simp_all;|j+1,c,g,x,d=>by
  by_cases e:i=j+1;·rw[e]
  ·rw[<-KP b (j:=j) (by omega) (by omega) x d];conv=>lhs;unfold dW
   split
   ·rename_i f;have a:∀y∈[(bN t j Ap.bw).2.2.1,(bN t j Ap.bw).2.2.2.1],((j:Int)<y/\y<t.length)/\y∉gA t j:=by have:=Cc b (i:=j) (by omega);simp_all[iX]
    have h:=(a _ (γs ..)).1;have k:=(a (bN t j Ap.bw).2.2.2.1 (by simp)).1;have l:=@qI t j;rw[gU (by grind),if_neg (by omega),gU (by omega),if_neg (by omega)]
   ·rfl
theorem C0 {t:List cA} (b:dy t=true) {q:Nat} (k:q<t.length) (f:(bN t q Ap.bw).1=2):∀{j:Nat},q<j->j<=t.length->
  bN (dW t j) (bN t q Ap.bw).2.2.1.toNat (0,false)=((q:Int),false)/\bN (dW t j) (bN t q Ap.bw).2.2.2.1.toNat (0,false)=((q:Int),true)
 |0,h,_=>by omega;|j+1,h,C=>by
  have u:iX (bN t q Ap.bw)=[(bN t q Ap.bw).2.2.1,(bN t q Ap.bw).2.2.2.1]:=if_pos f;have g:=Cc b k;rw[u] at g;have D:=(g _ (γs ..)).1;have F:=(g (bN t q Ap.bw).2.2.2.1 (by simp)).1;have A:(bN t q Ap.bw).2.2.1≠(bN t q Ap.bw).2.2.2.1:=by unfold dy at b;simp only[ζ,τ,γt] at b;have d:=b.2.1 q k;unfold kc at d;rw[u] at d;simp only[r_,ζ,decide_eq_true_eq] at d;grind
  have l:=@qI t j;by_cases e:q=j
  ·subst e;unfold dW;rw[if_pos f];have B:((dW t q).set (bN t q Ap.bw).2.2.1.toNat ((q:Int),false)).length=t.length:=by simp_all
   rw[gU (by omega),gU (by omega),if_neg (by omega),gU (by omega),if_pos rfl,if_pos rfl];simp_all
  ·have r:=C0 b k f (j:=j) (by omega) (by omega);unfold dW;split
   ·rename_i w;have a:=Cc b (i:=j) (by omega);unfold iX at a;rw[if_pos w] at a;have s:=a _ (γs ..);have n:=a (bN t j Ap.bw).2.2.2.1 (by simp);have o:∀x∈[(bN t q Ap.bw).2.2.1,(bN t q Ap.bw).2.2.2.1],x∈gA t j:=λx v=>(Cb (by omega)).2 ⟨q,by omega,by simp_all⟩;have m:=o _ (γs ..);have p:=o (bN t q Ap.bw).2.2.2.1 (by simp);have c:∀x y:Int,x∈gA t j->y∉gA t j->x≠y:=λx y v z e=>z (e▸v);have G:=c _ _ m s.2;have H:=c _ _ m n.2;have I:=c _ _ p s.2;have E:=c _ _ p n.2;have B:((dW t j).set (bN t j Ap.bw).2.2.1.toNat ((j:Int),false)).length=t.length:=by rw[γm,l]
    rw[gU (by omega),if_neg (by omega),gU (by omega),if_neg (by omega),gU (by omega),if_neg (by omega),gU (by omega),if_neg (by omega)];exact r
   ·exact r
theorem KO {n i:Nat}:bN (δ n (0:Int)) i 0=0:=by grind[bN]
theorem KN {p:ew} {t:List cA} {i:Nat}:(g_ p t i).length=p.bj.length:=by grind[g_,Kb]
theorem Uc {p:ew} {t:List cA} (a:dy t=true) {q:Nat} (g:q<t.length) (f:(bN t q Ap.bw).1=2) (y:0<=(bN t q Ap.bw).2.1/\(bN t q Ap.bw).2.1<p.bj.length) (B:bN (g_ p t q) (bN t q Ap.bw).2.1.toNat 0=0):
  g_ p t (bN t q Ap.bw).2.2.1.toNat=(g_ p t q).set (bN t q Ap.bw).2.1.toNat (-1)/\g_ p t (bN t q Ap.bw).2.2.2.1.toNat=(g_ p t q).set (bN t q Ap.bw).2.1.toNat 1:=by
 have e:=Cc a g;unfold iX at e;rw[if_pos f] at e;have w:=(e _ (γs ..)).1;have z:=(e (bN t q Ap.bw).2.2.2.1 (by simp)).1;have r:∀(c:Int) (b:Bool),((q:Int)<c/\c<t.length)->bN (dW t c.toNat) c.toNat (0,false)=((q:Int),b)->g_ p t c.toNat=(g_ p t q).set (bN t q Ap.bw).2.1.toNat (if b then 1 else -1):=λc b D l=>by
  have k:=Db a (i:=c.toNat) (by omega);have h:=@Ka t (dW t c.toNat) k c (δ p.bj.length 0) (by omega) (by omega);rw[l] at h;simp only[γg] at h;have m:g_ p t c.toNat=gC t (dW t c.toNat) c.toNat c (δ p.bj.length 0):=by grind[g_]
  have u:mT t (dW t c.toNat) c (δ p.bj.length 0)=(δ p.bj.length 0).set (bN t q Ap.bw).2.1.toNat (if b then 1 else -1):=by simp_all[mT]
  have o:gC t (dW t c.toNat) q q ((δ p.bj.length 0).set (bN t q Ap.bw).2.1.toNat (if b then 1 else -1))=gC t (dW t q) q q ((δ p.bj.length 0).set (bN t q Ap.bw).2.1.toNat (if b then 1 else -1)):=
   KR (λx s=>KP a (by omega) (by omega) x (by omega)) λx s v=>⟨(k.2 x (by omega)).1,(k.2 x (by omega)).2 v⟩;rw[m,h,u,o];have n:gC t (dW t q) q q (δ p.bj.length 0)=g_ p t q:=rfl;have d:=@KS t (dW t q) ((δ p.bj.length 0).set (bN t q Ap.bw).2.1.toNat (if b then 1 else -1)) q q ((δ p.bj.length 0).set (bN t q Ap.bw).2.1.toNat (if b then 1 else -1)) (δ p.bj.length 0) (by simp_all) (λi=>by grind[KO]);rw[n] at d;refine DZ 0 (by grind[KN]) λi _=>?_;rw[d i,gU (by simp_all),gU (by rw[KN];omega),KO];grind
 have A:=(C0 a g f (j:=(bN t q Ap.bw).2.2.1.toNat) (by omega) (by omega)).1;have C:=(C0 a g f (j:=(bN t q Ap.bw).2.2.2.1.toNat) (by omega) (by omega)).2;simp_all
def iM (a b c j:Nat):Prop:=j=a\/(b<=j/\j<c)
section
variable {p:ew} {v:Int} {t:List cA} {a lo hi:Nat} {f:List Int}
theorem Ub (h:ec p f) (a:dT p f):sY p f (fL (gS p f)):=
 ⟨⟨a.c,a.l,a.r⟩,gS p f,rfl,BQ,λ_=>1000,λk b=>(DW h b).2,by
  have:∀n,qp n (λ_=>1000)=n*1000:=λn=>by induction n<;>grind[qp]
  have d:=Cf a.c;grind⟩
theorem Ua (h:ec p f):di (fL (gS p f))=true:=by unfold di fL;rw[τ];intro x b;obtain⟨q,a,rfl⟩:=Δ.1 b;obtain⟨i,d,rfl⟩:=γJ a;have c:=(DW h (r:=i) (by grind[BQ])).1;grind[bR,nf]
theorem T_ {l:List Rat} {K:Nat} (s:K<=1000000) (h:∀k,k<l.length->Sz K (bN l k 0)):∀x∈fL l,hJ x:=λx b=>by unfold fL at b;obtain⟨q,e,rfl⟩:=Δ.1 b;obtain⟨i,a,rfl⟩:=γJ e;have c:=h i a;rw[bR a] at c;obtain⟨m,⟨f,p,n⟩,⟨d,g,j⟩⟩:=kW l[i];obtain⟨o,r⟩:=nK c;exact⟨⟨f,d⟩,by omega⟩
theorem T9 (a:dT p f) (b:gF p f=true):qu (o9 p f)=true/\lz p (o9 p f)=true/\(∀x∈(o9 p f).2.2.2.2,hJ x)/\iX (o9 p f)=[]:=by
 have h:mF p<=20:=by have:=(cT a.c).1;grind
 have d:(fL (gS p f)).length=mF p:=by rw[ff,BQ]
 refine⟨?_,?_,T_ (K:=1000) (by omega) λk g=>(DW (a.ok b) (by grind[BQ])).2,rfl⟩
 ·show ny (o9 p f)=true;have e:(o9 p f).2.2.2.2=fL (gS p f):=rfl;unfold ny;rw[e,d,decide_eq_true (show mF p<=40 by omega)];grind[qs,o9,fL,Cq]
 simp_all[o9,lz,cr]
theorem T8 (h:iC p v t a f lo hi) (i:dT p f) (L:t.length<=65536):
  (∀j,iM a lo hi j->j<t.length/\qu (bN t j Ap.bw)=true/\lz p (bN t j Ap.bw)=true/\(∀x∈(bN t j Ap.bw).2.2.2.2,hJ x)/\(iX (bN t j Ap.bw)=[]\/∃x:Nat,iX (bN t j Ap.bw)=[(x:Int),((x+1:Nat):Int)]/\j<x/\lo<=x/\x+1<hi))
  /\(∀q r (x:Int),iM a lo hi q->iM a lo hi r->x∈iX (bN t q Ap.bw)->x∈iX (bN t r Ap.bw)->q=r)
  /\(∀x:Nat,lo<=x->x<hi->∃q,iM a lo hi q/\(x:Int)∈iX (bN t q Ap.bw)):=by
 induction h with
 |@ef a f lo h1 m w=>
  grind[vo,T9,iM];|@jY a f lo h1 m=>
  obtain⟨e,n⟩:=vo (d:=Ap.bw) h1;have g:∀j,iM a lo lo j->j=a:=λj h=>by grind[iM]
  refine⟨λj h=>?_,λq r x D hr _ _=>by grind,λx F h1=>by omega⟩;rw[g j h,e];exact⟨n,by decide,rfl,(λx b=>by cases b),.inl rfl⟩;|@bra a f lo mid hi k h1 m w E u s i1 i2=>
  obtain⟨e,n⟩:=vo (d:=Ap.bw) h1;have l1:=u.le;have l2:=s.le;have H:=(iC.bra h1 m w E u s).top.2 (by omega);have z:=(cT i.c).2.1;have G:=i.l;obtain⟨f1,g1,c1⟩:=i1 (i.set (by omega));obtain⟨f2,g2,c2⟩:=i2 (i.set (by omega));have hk:iX (bN t a Ap.bw)=[(lo:Int),((lo+1:Nat):Int)]:=by rw[e];rfl
  have o:∀j,iM a lo hi j->j=a\/iM (lo+1) (lo+2) mid j\/iM lo mid hi j:=λj h=>by unfold iM at h ⊢;omega
  have s1:∀j (x:Int),iM (lo+1) (lo+2) mid j->x∈iX (bN t j Ap.bw)->(lo:Int)+2<=x/\x<mid:=λj x g b=>by
   rcases(f1 j g).2.2.2.2 with h|⟨y,h,_,_,_⟩;·rw[h] at b;cases b
   ·rw[h] at b;simp only[γl,δl,or_false] at b;omega
  have s2:∀j (x:Int),iM lo mid hi j->x∈iX (bN t j Ap.bw)->(mid:Int)<=x/\x<hi:=λj x g b=>by
   rcases(f2 j g).2.2.2.2 with h|⟨y,h,_,_,_⟩;·rw[h] at b;cases b
   ·rw[h] at b;simp only[γl,δl,or_false] at b;omega
  have s0:∀x:Int,x∈iX (bN t a Ap.bw)->(lo:Int)<=x/\x<lo+2:=λx b=>by grind
  refine⟨λj h=>?_,λq r x D hr J I=>?_,λx F h1=>?_⟩
  ·rcases o j h with rfl|h|h
   ·refine⟨n,?_,?_,?_,.inr ⟨lo,hk,m,π _,by omega⟩⟩
    ·rw[e];show pO (tE k lo)=true;have C:mX k=true:=by grind[mX]
     have B:mX (lo:Int)=true:=by grind[mX]
     have A:mX ((lo:Int)+1)=true:=by grind[mX]
     show(mX k&&mX (lo:Int)&&mX ((lo:Int)+1)&&decide (([]:List NH)=[]))=true;rw[C,B,A];rfl
    ·rw[e];rfl
    ·rw[e];intro x b;cases b
   ·grind
   grind
  ·grind
  ·by_cases K:x<lo+2
   ·refine⟨a,.inl rfl,?_⟩;rw[hk];simp only[γl,δl,or_false];omega
   grind[iM]
theorem T7 (h:iC p v t 0 f 1 t.length) (m:dT p f) (s:1<=t.length) (d:t.length<=65536):dy t=true/\t.all (lz p)=true/\∀n∈t,∀x∈n.2.2.2.2,hJ x:=by
 obtain⟨l,B,o⟩:=T8 h m d;have b:∀j,j<t.length->iM 0 1 t.length j:=λj c=>by unfold iM;omega
 refine⟨?_,τ.2 λn a=>?_,λn a=>?_⟩
 ·unfold dy;simp only[ζ,decide_eq_true_eq,τ,γt];refine⟨⟨s,d⟩,λi g=>?_,λk z=>?_⟩
  ·obtain⟨D,r,_,_,e⟩:=l i (b i g);unfold kc;rw[r,Bool.true_and];rcases e with w|⟨x,w,A,E,J⟩;·rw[w];rfl
   ·have a:∀y:Int,y∈iX (bN t i Ap.bw)->y∉gA t i:=λy I C=>by grind[Cb]
    rw[w] at a ⊢;have F:=a (x:Int) (by simp);have G:=a ((x+1:Nat):Int) (by simp);simp only[r_,ζ,decide_eq_true_eq,Bool.and_true];grind
  ·obtain⟨q,H,u⟩:=o (k+1) (by omega) (by omega);grind[Cb]
 ·obtain⟨j,c,rfl⟩:=γJ a;grind[bR]
 ·obtain⟨j,c,rfl⟩:=γJ a;grind[bR]
theorem T6 (h:ec p f):iw p f (vL (fL (gS p f))) f.length=jO p f:=by
 have a:f.length=p.bj.length:=h.2.1;unfold iw;rw[ku,Tp h];have:OA f.length (λk=>if bN f k 0=0/\0<iy p (gS p f) (mF p) k then iy p (gS p f) (mF p) k else 0)=0:=by rw[cU (g:=λ_=>0) λk b=>?_,ic];simp_all[if_neg,Tq,Rat.not_lt]
 grind
theorem SG (h:iC p v t a f lo hi) (z:dy t=true) (e:dT p f) (o:g_ p t a=f):∀j,iM a lo hi j->qm p v (g_ p t j) (bN t j Ap.bw)=true/\((bN t j Ap.bw).1=1->sY p (g_ p t j) (bN t j Ap.bw).2.2.2.2):=by
 induction h with
 |@ef a f lo n i B=>
  obtain⟨b,s⟩:=vo (d:=Ap.bw) n;intro j g;have:j=a:=by grind[iM]
  rw[this,o,b];refine⟨?_,λ_=>Ub (e.ok i) e⟩;show(di (fL (gS p f))&&decide (iw p f (vL (fL (gS p f))) f.length<IntCast.intCast v+1))=true;rw[T6 (e.ok i),Ua (e.ok i),Bool.true_and,decide_eq_true_eq];simp_all;|@jY a f lo n i=>
  obtain⟨b,s⟩:=vo (d:=Ap.bw) n;intro j g;have:j=a:=by grind[iM]
  rw[this,o,b];have A:cq p (Ao f 1)≠0:=λh=>by have:=(DT e.c (TY e.l)).1 h;grind[gF]
  refine⟨?_,λh=>?_⟩
  ·show decide (cq p (Ao f 1)≠0)=true;simp_all
  ·have:(3:Int)=1:=h;omega;|@bra a f lo m hi k n i B F G D C y=>
  obtain⟨b,s⟩:=vo (d:=Ap.bw) n;have u:(bN t a Ap.bw).1=2:=by rw[b];rfl
  have x:(bN t a Ap.bw).2.1=k:=by rw[b];rfl
  have q:(bN t a Ap.bw).2.2.1=lo:=by rw[b];rfl
  have r:(bN t a Ap.bw).2.2.2.1=(lo:Int)+1:=by rw[b];rfl
  have E:=e.l;have w:=Uc (p:=p) z s u (by rw[x];omega) (by simp_all);rw[x,q,r,o,γg,show((lo:Int)+1).toNat=lo+1 by omega] at w;intro j g;rcases(show j=a\/iM (lo+1) (lo+2) m j\/iM lo m hi j by grind[iM]) with rfl|g|g
  ·rw[o,b];refine⟨?_,λh=>?_⟩
   ·show(decide (k<f.length)&&decide (bN f k.toNat 0=0))=true;simp_all
   simp_all
  ·exact C (e.set (by omega)) w.2 j g
  ·exact y (e.set (by omega)) w.1 j g
theorem SF (h:iC p v t 0 (gB p) 1 t.length) (a:nW p=0) (m:1<=t.length) (k:t.length<=65536):(∀w, -9223372036854775808<=w/\w<=9223372036854775807->tB p w t)/\rZ p v t=0:=by
 obtain⟨d,o,g⟩:=T7 h (mZ a) m k;have c:=SG h d (mZ a) rfl;have b:∀j,j<t.length->iM 0 1 t.length j:=λj n=>by grind[iM]
 refine⟨λw f=>⟨g,by omega,λ_ _ _=>⟨⟨a,d⟩,f,λi l e=>(c i (b i l)).2 e⟩⟩,?_⟩
 ·have q:ql p v t=true:=by grind[ql]
  unfold rZ;grind
end
open Go.Proofs.YtbnhiekmnpikhaaGreat.Ir
open Go.Proofs
theorem SE {p:ew} (hc:nW p=0) (e:p.bj.length<=15):iC p (Oq p).value (pE p) 0 (gB p) 1 (pE p).length/\((pE p).length:Int)<=65536:=by
 obtain⟨i1,_⟩:=vy hc;have a:((1+2^(p.bj.length+1):Nat):Int)<=65536+2:=by have:2^(p.bj.length+1)<=2^16:=Nat.pow_le_pow_right (by omega) (by omega);have d:(2:Nat)^16=65536:=rfl;omega
 obtain⟨_,s2,s3⟩:=DM hc i1 (bz:=65536) (by omega);obtain⟨_,_,c,b,_⟩:=s2 (s3 a);exact⟨b,c⟩
theorem KM {p:ew} (hc:nW p=0) (a:p.bj.length<=15):(∀w, -9223372036854775808<=w/\w<=9223372036854775807->tB p w (pE p))/\rZ p (Oq p).value (pE p)=0:=by obtain⟨b,d⟩:=SE hc a;have c:=b.top.1;exact SF b hc (by omega) (by omega)
theorem xx {p:ew} (a:nW p=0):cq p (Oq p).bn=0/\dA p (Oq p).bn=(Oq p).value/\(0<=(Oq p).value/\(Oq p).value<=160000000)/\(Oq p).bn.length<=160:=by obtain⟨b,d,_⟩:=LN a;have c:=(vB a).2 b;have:=rX a c;omega
theorem SD {p:ew} (b:nW p=0) (a:p.bj.length<=15):rY p ((Oq p).bn,(Oq p).value,pE p)=0:=by simp_all[xx,rY,KM]
def eM (a b:bA):Bool:=decide (a.Gz=b.Gz)||([0,1,2,3,4,5].any λk=>decide (0<a.bx.at k)&&decide (0<b.bx.at k))
theorem CZ {a b:bA}:eM a b=eM b a:=by unfold eM;grind
inductive Cn (p:ew):Nat->Nat->Prop
 |refl {i:Nat}:i<p.bj.length->Cn p i i
 |step {i j k:Nat}:Cn p i j->k<p.bj.length->eM (oI p j) (oI p k)=true->Cn p i k
section
variable {p:ew} {i j k:Nat}
theorem pD (h:Cn p i j):i<p.bj.length/\j<p.bj.length:=by induction h<;>omega
theorem tZ (h:Cn p i j) (g:Cn p j k):Cn p i k:=by
 induction g with
 |refl _=>exact h;|step _ a b c=>exact .step c a b
theorem xw (b:i<p.bj.length) (a:j<p.bj.length) (h:eM (oI p i) (oI p j)=true):Cn p i j:=.step (.refl b) a h
theorem SC (h:Cn p i j):Cn p j i:=by
 induction h with
 |refl h=>exact .refl h;|@step j k a b c d=>grind[tZ,xw,pD,CZ]
end
def pC (l:List Int) (a b:Int):List Int:=l.map λx=>if x=a then b else x
def lE (p:ew) (i:Nat) (l:List Int):Nat->List Int
 |0=>l
 |k+1=>if eM (oI p i) (oI p k)=true then pC (lE p i l k) (bN (lE p i l k) k 0) (bN (lE p i l k) i 0) else lE p i l k
def l8 (p:ew):Nat->List Int
 |0=>δ p.bj.length 0
 |i+1=>lE p i ((l8 p i).set i (i:Int)) i
theorem KL {l:List Int} {a b:Int}:(pC l a b).length=l.length:=Φ _
theorem SB {l:List Int} {a b:Int} {k:Nat} (h:k<l.length):bN (pC l a b) k 0=if bN l k 0=a then b else bN l k 0:=by grind[pC,bR]
def CY (p:ew) (i:Nat) (m:List Int):Prop:=m.length=p.bj.length/\(∀a,a<i->0<=bN m a 0/\bN m a 0<i)/\(∀a b,a<i->b<i->eM (oI p a) (oI p b)=true->bN m a 0=bN m b 0)/\∀a b,a<i->b<i->bN m a 0=bN m b 0->Cn p a b
def SA (p:ew) (i k:Nat) (m:List Int):Prop:=m.length=p.bj.length/\(∀a,a<=i->0<=bN m a 0/\bN m a 0<=i)/\(∀a b,a<i->b<i->eM (oI p a) (oI p b)=true->bN m a 0=bN m b 0)/\(∀j,j<k->eM (oI p i) (oI p j)=true->bN m i 0=bN m j 0)/\∀a b,a<=i->b<=i->bN m a 0=bN m b 0->Cn p a b
theorem KK {p:ew} {i:Nat} {m:List Int} (v:i<p.bj.length) (h:CY p i m):∀{k:Nat},k<=i->SA p i k (lE p i (m.set i (i:Int)) k)
 |0,_=>by
  obtain⟨s,y,u,t⟩:=h;have e:∀a,bN (m.set i (i:Int)) a 0=if a=i then(i:Int) else bN m a 0:=λa=>gU (by omega);refine⟨by show(m.set i (i:Int)).length=_;simp_all,λa d=>?_,λa b d g r=>?_,λj w=>by omega,λa b d g c=>?_⟩
  ·show 0<=bN (m.set i (i:Int)) a 0/\bN (m.set i (i:Int)) a 0<=i;grind
  ·show bN (m.set i (i:Int)) a 0=bN (m.set i (i:Int)) b 0;grind
  ·have c:bN (m.set i (i:Int)) a 0=bN (m.set i (i:Int)) b 0:=c;rw[e,e] at c;by_cases o:a=i
   ·by_cases l:b=i;·rw[o,l];exact .refl v
    grind
   grind;|k+1,B=>by
  have z:=KK v h (k:=k) (by omega);unfold lE;generalize lE p i (m.set i (i:Int)) k=q at z ⊢;obtain⟨s,y,u,t,n⟩:=z;split
  ·rename_i r;have e:∀a,a<=i->bN (pC q (bN q k 0) (bN q i 0)) a 0=if bN q a 0=bN q k 0 then bN q i 0 else bN q a 0:=λa d=>SB (by omega);have x:Cn p i k:=xw v (by omega) r;refine⟨by rw[KL,s],λa d=>?_,λa b d g c=>?_,λj w f=>?_,λa b d g c=>?_⟩
   ·rw[e a d];grind
   ·rw[e a (by omega),e b (by omega),u a b d g c]
   ·rw[e i (π _),e j (by omega)];by_cases A:j=k;·simp_all
    ·rw[t j (by omega) f]
   ·rw[e a d,e b g] at c;by_cases o:bN q a 0=bN q k 0
    ·by_cases l:bN q b 0=bN q k 0;·exact n a b d g (by rw[o,l])
     ·rw[if_pos o,if_neg l] at c;exact tZ (n a k d (by omega) o) (tZ (SC x) (n i b (π _) g c))
    ·by_cases l:bN q b 0=bN q k 0
     ·rw[if_neg o,if_pos l] at c;exact tZ (n a i d (π _) c) (tZ x (n k b (by omega) g l.symm))
     ·rw[if_neg o,if_neg l] at c;exact n a b d g c
  ·rename_i r;refine⟨s,y,u,λj w f=>?_,n⟩;by_cases A:j=k;·subst A;exact absurd f r
   ·exact t j (by omega) f
theorem KJ {p:ew}:∀{i:Nat},i<=p.bj.length->CY p i (l8 p i)
 |0,_=>⟨γD,λa h=>by omega,λa b h=>by omega,λa b h=>by omega⟩
 |i+1,r=>by
  obtain⟨j,n,f,o,e⟩:=KK (by omega) (KJ (p:=p) (i:=i) (by omega)) (k:=i) (π _);show CY p (i+1) (lE p i ((l8 p i).set i (i:Int)) i);generalize lE p i ((l8 p i).set i (i:Int)) i=q at*;refine⟨j,λa d=>by grind,λa b d l g=>?_,λa b d l c=>e a b (by omega) (by omega) c⟩;by_cases s:a=i;·grind
  ·by_cases m:b=i;·grind[CZ]
   ·exact f a b (by omega) (by omega) g
def kV (p:ew):List Int:=l8 p p.bj.length
def kb (p:ew) (i:Int):Int:=bN (kV p) i.toNat 0
theorem CX {p:ew} {a b:Nat} (m:a<p.bj.length) (f:b<p.bj.length):bN (kV p) a 0=bN (kV p) b 0↔Cn p a b:=by
 obtain⟨_,_,g,i⟩:=KJ (p:=p) (π _);refine⟨i a b m f,λh=>?_⟩;induction h with
 |refl _=>rfl;|@step j k c d e l=>exact(l (pD c).2).trans (g j k (pD c).2 d e)
def lI (p:ew) (f:Int):List Int:=(bL p.bj.length).filter λi=>decide (kb p i=kb p f)
def mW (p:ew) (f:Int):Bool:=(bL f.toNat).all λj=>decide (kb p j≠kb p f)
def bD (p:ew):List (List Int):=((bL p.bj.length).filter (mW p)).map (lI p)
theorem qH {p:ew} {f i:Int}:i∈lI p f↔(0<=i/\i<p.bj.length)/\kb p i=kb p f:=by simp_all[lI,ik]
theorem Sy {p:ew} {f:Int}:dm p.bj.length (lI p f):=⟨om.sublist γn,λx a=>(qH.1 a).1⟩
theorem tY {p:ew} {f:Int} (c:0<=f):mW p f=true↔∀j,0<=j->j<f->kb p j≠kb p f:=by unfold mW;rw[τ];exact⟨λh j a b=>of_decide_eq_true (h j (ik.2 ⟨a,by omega⟩)),λh j d=>by grind[ik]⟩
theorem CW {p:ew}:∀(n:Nat) {i:Int},0<=i->i<n->i<p.bj.length->∃f,(0<=f/\f<=i)/\mW p f=true/\kb p f=kb p i
 |0,i,d,h1,_=>by omega;|n+1,i,d,h1,g=>by
  by_cases h:mW p i=true;·exact⟨i,⟨d,εk _⟩,h,rfl⟩
  ·rw[tY d] at h;have:∃j,0<=j/\j<i/\kb p j=kb p i:=γU λe=>h λj a b c=>e ⟨j,a,b,c⟩;obtain⟨j,a,b,c⟩:=this;obtain⟨f,f1,f2,f3⟩:=CW (p:=p) n (i:=j) a (by omega) (by omega);exact⟨f,by omega,f2,f3.trans c⟩
theorem x_ {p:ew} {c:List Int}:c∈bD p↔∃f:Int,((0<=f/\f<p.bj.length)/\mW p f=true)/\lI p f=c:=by grind[bD,ik]
def gZ (p:ew) (l:List Int) (i:Nat):Nat->List Int
 |0=>l
 |k+1=>if eM (oI p i) (oI p k)=true/\bN (gZ p l i k) k 0<bN (gZ p l i k) i 0 then(gZ p l i k).set i (bN (gZ p l i k) k 0) else gZ p l i k
def jA (p:ew) (l:List Int):Nat->List Int
 |0=>l
 |i+1=>gZ p (jA p l i) i p.bj.length
def eu (p:ew):Nat->List Int
 |0=>bL p.bj.length
 |r+1=>jA p (eu p r) p.bj.length
def vn (p:ew) (l m:List Int):Prop:=m.length=p.bj.length/\∀a,a<p.bj.length->(0<=bN m a 0/\bN m a 0<=bN l a 0)/\Cn p a (bN m a 0).toNat
theorem KI {p:ew} {l0 l:List Int} {i:Nat} (o:i<p.bj.length) (h:vn p l0 l):∀{k:Nat},k<=p.bj.length->vn p l0 (gZ p l i k)/\(∀a,a<p.bj.length->bN (gZ p l i k) a 0<=bN l a 0)/\∀j,j<k->eM (oI p i) (oI p j)=true->bN (gZ p l i k) i 0<=bN l j 0
 |0,_=>⟨h,λa _=>εk _,λj g=>by omega⟩
 |k+1,t=>by
  obtain⟨⟨n,b⟩,r,u⟩:=KI o h (k:=k) (by omega);unfold gZ;generalize gZ p l i k=q at*;split
  ·rename_i f;have e:∀a,bN (q.set i (bN q k 0)) a 0=if a=i then bN q k 0 else bN q a 0:=λa=>gU (by omega);refine⟨⟨by simp_all,λa d=>?_⟩,λa d=>?_,λj g c=>?_⟩
   ·rw[e];split
    next s=>subst s;have v:=b a d;have m:=b k (by omega);exact⟨⟨m.1.1,by omega⟩,tZ (xw d (by omega) f.1) m.2⟩
    simp_all
   ·rw[e];split<;>grind
   grind
  next f=>refine⟨⟨n,b⟩,r,λj g c=>?_⟩;grind
theorem Ca {p:ew} {l0 l:List Int} (h:vn p l0 l):∀{i:Nat},i<=p.bj.length->vn p l0 (jA p l i)/\(∀a,a<p.bj.length->bN (jA p l i) a 0<=bN l a 0)/\∀a j,a<i->j<p.bj.length->eM (oI p a) (oI p j)=true->bN (jA p l i) a 0<=bN l j 0
 |0,_=>⟨h,λa _=>εk _,λa j b=>by omega⟩
 |i+1,r=>by
  obtain⟨q,f,m⟩:=Ca h (i:=i) (by omega);obtain⟨o,d,n⟩:=KI (p:=p) (i:=i) (by omega) q (k:=p.bj.length) (π _);show vn p l0 (gZ p (jA p l i) i p.bj.length)/\_;refine⟨o,λa b=>εj (d a b) (f a b),λa j b c g=>?_⟩;by_cases e:a=i
  ·subst e;exact εj (n j c g) (f j c)
  ·exact εj (d a (by omega)) (m a j (by omega) c g)
theorem vm {p:ew}:∀{r:Nat},vn p (bL p.bj.length) (eu p r)
 |0=>⟨fj,λa b=>by
   have e:bN (bL p.bj.length) a 0=(a:Int):=by grind[bR,bL]
   show(0<=bN (bL p.bj.length) a 0/\bN (bL p.bj.length) a 0<=bN (bL p.bj.length) a 0)/\Cn p a (bN (bL p.bj.length) a 0).toNat;rw[e];exact⟨by omega,.refl b⟩⟩
 |r+1=>(Ca vm (π _)).1
theorem KH {c:Type} {f g:c->Bool}:∀{l:List c},(∀x∈l,f x=true->g x=true)->(∃x∈l,g x=true/\f x=false)->l.countP f<l.countP g
 |[],_,⟨x,a,_⟩=>by cases a;|y::l,h,⟨x,a,e,d⟩=>by
  have i:l.countP f<=l.countP g:=List.countP_mono_left λz b=>h z (γe _ b);rw[θt,θt];rcases γl.1 a with rfl|a;·grind
  ·have:=KH (l:=l) (λz b=>h z (γe _ b)) ⟨x,a,e,d⟩;grind
theorem Sx {p:ew} {S:Nat->Prop} {m i:Nat} (h:Cn p m i) (hm:S m) (hi:¬S i):∃a b,(Cn p m a/\Cn p m b)/\S a/\¬S b/\eM (oI p a) (oI p b)=true:=by
 induction h with
 |refl _=>exact absurd hm hi;|@step j k c d e g=>
  by_cases f:S j;·exact⟨j,k,⟨c,.step c d e⟩,f,hi,e⟩
  ·exact g f
theorem Sw {p:ew} {m:Nat} (hm:m<p.bj.length) (o:∀a,Cn p m a->m<=a) {i:Nat} (hi:Cn p m i):bN (eu p p.bj.length) i 0=m:=by
 have ge:∀r a,Cn p m a->(m:Int)<=bN (eu p r) a 0:=λr a c=>by have h:=(vm (p:=p) (r:=r)).2 a (pD c).2;have:=o _ (tZ c h.2);omega
 have mono:∀r a,a<p.bj.length->bN (eu p (r+1)) a 0<=bN (eu p r) a 0:=λr a c=>(Ca (l0:=bL p.bj.length) (vm (p:=p) (r:=r)) (π _)).2.1 a c;have y:∀r a b,a<p.bj.length->b<p.bj.length->eM (oI p a) (oI p b)=true->bN (eu p (r+1)) a 0<=bN (eu p r) b 0:=λr a b c D hc=>(Ca (l0:=bL p.bj.length) (vm (p:=p) (r:=r)) (π _)).2.2 a b c D hc;have n:∀r,bN (eu p r) m 0=m:=λr=>by
  have h1:=ge r m (.refl hm);have s:=((vm (p:=p) (r:=r)).2 m hm).1.2;have e:bN (bL p.bj.length) m 0=(m:Int):=by rw[bR (by rw[fj];exact hm)];simp[bL]
  omega
 have key:∀r,(∀a,Cn p m a->bN (eu p r) a 0=m)\/r+1<=(Γ p.bj.length).countP (λa=>decide (bN (eu p r) a 0=m)&&decide (bN (kV p) m 0=bN (kV p) a 0)):=by
  intro r;induction r with
  |zero=>
   refine .inr ?_;refine List.countP_pos_iff.2 ⟨m,γt.2 hm,?_⟩;rw[decide_eq_true (n 0),decide_eq_true rfl];rfl;|succ r q=>
   rcases q with q|q
   ·refine .inl λa c=>?_;have h1:=ge (r+1) a c;have s:=mono r a (pD c).2;have E:=q a c;omega
   ·by_cases d:∀a,Cn p m a->bN (eu p r) a 0=m
    ·refine .inl λa c=>?_;have h1:=ge (r+1) a c;have s:=mono r a (pD c).2;have E:=d a c;omega
    ·refine .inr ?_;have:∃x,Cn p m x/\bN (eu p r) x 0≠m:=γU λC=>d λx u=>γU λh=>C ⟨x,u,h⟩;obtain⟨x,u,w⟩:=this;obtain⟨a,b,⟨F,j⟩,A,sb,he⟩:=Sx (S:=λa=>bN (eu p r) a 0=m) u (n r) w;have G:=KH (l:=Γ p.bj.length) (f:=λa=>decide (bN (eu p r) a 0=m)&&decide (bN (kV p) m 0=bN (kV p) a 0)) (g:=λa=>decide (bN (eu p (r+1)) a 0=m)&&decide (bN (kV p) m 0=bN (kV p) a 0)) (λz B v=>by simp only[ζ,decide_eq_true_eq] at v ⊢;have k:=γt.1 B;have h1:=ge (r+1) z ((CX hm k).1 v.2);have s:=mono r z k;exact⟨by omega,v.2⟩)
      ⟨b,γt.2 (pD j).2,by simp only[ζ,decide_eq_true_eq];have h1:=ge (r+1) b j;have s:=y r b a (pD j).2 (pD F).2 (by rw[CZ];exact he);have A:bN (eu p r) a 0=m:=A;exact⟨by omega,(CX hm (pD j).2).2 j⟩,by rw[decide_eq_false (show ¬bN (eu p r) b 0=(m:Int) from sb)];rfl⟩;omega
 rcases key p.bj.length with h|h;·exact h i hi
 ·have:=List.countP_le_length (p:=λa=>decide (bN (eu p p.bj.length) a 0=m)&&decide (bN (kV p) m 0=bN (kV p) a 0)) (l:=Γ p.bj.length);rw[List.length_range] at this;omega
def qj (p:ew):List Int:=eu p p.bj.length
def qG (p:ew) (f:Int):List Int:=(bL p.bj.length).filter λi=>decide (bN (qj p) i.toNat 0=f)
theorem xZ {p:ew} {i j:Int} (b:0<=i/\i<p.bj.length) (a:0<=j/\j<p.bj.length):kb p i=kb p j↔Cn p i.toNat j.toNat:=CX (by omega) (by omega)
theorem KG {p:ew} {f i:Int} (b:0<=f/\f<p.bj.length) (g:mW p f=true) (c:0<=i/\i<p.bj.length) (h:kb p f=kb p i):bN (qj p) i.toNat 0=f:=by
 have:=Sw (p:=p) (m:=f.toNat) (by omega) (λa e=>?_) ((xZ b c).1 h)
 ·rw[show((f.toNat:Nat):Int)=f by omega] at this;exact this
 ·have d:=(pD e).2;have j:kb p f=kb p (a:Int):=(xZ b (by omega)).2 (by simp_all);grind[tY]
theorem Sv {p:ew} {f:Int} (c:0<=f/\f<p.bj.length):qG p f=if mW p f=true then lI p f else[]:=by
 split
 next b=>unfold qG lI;refine εs λi a=>?_;have a:=ik.1 a;rw[decide_eq_decide];refine⟨λh=>?_,λh=>KG c b a h.symm⟩;have d:=((vm (p:=p) (r:=p.bj.length)).2 i.toNat (by omega)).2;have e:bN (eu p p.bj.length) i.toNat 0=f:=h;grind[xZ]
 next b=>unfold qG;refine δt.2 λi a h=>b ?_;have a:=ik.1 a;have h:=of_decide_eq_true h;grind[CW,KG]
theorem KF {a:Type} {P:a->Bool} {g h:a->List Int}:∀{l:List a},(∀x∈l,g x=if P x=true then h x else[])->(∀x∈l,P x=true->h x≠[])->(l.map g).filter (λc=>decide (c≠[]))=(l.filter P).map h
 |[],_,_=>rfl
 |x::l,d,e=>by have f:=KF (l:=l) (λy b=>d y (γe _ b)) (λy b=>e y (γe _ b));grind
theorem Su {p:ew}:((bL p.bj.length).map (qG p)).filter (λc=>decide (c≠[]))=bD p:=by refine KF (λf a=>Sv (ik.1 a)) λf a _=>?_;have:f∈lI p f:=qH.2 ⟨ik.1 a,rfl⟩;exact θh this
def B_ (p:ew) (l:List bA):ew:={p with bj:=l}
theorem CV {α:Type} {a:α} {l:List α} {d:α}:bN (a::l) 0 d=a:=rfl
theorem CU {α:Type} {a:α} {l:List α} {n:Nat} {d:α}:bN (a::l) (n+1) d=bN l n d:=by simp[bN]
theorem Ss {b:oz}:b.ok=true↔∀j,j<6->0<=b.at j/\b.at j<=4:=by
 rw[oz.fA];constructor
 ·intro h j g;have:j=0\/j=1\/j=2\/j=3\/j=4\/j=5:=by omega
  grind[oz.at,CV,CU]
 ·intro h;have i:=h 0 (by omega);have a:=h 1 (by omega);have c:=h 2 (by omega);have e:=h 3 (by omega);have f:=h 4 (by omega);have d:=h 5 (by omega);grind[oz.at,CV,CU]
theorem Sr {c w cl j:Int} (h:j<6):oc c w cl j 6=if c=0\/c=cl then 0 else w:=by
 unfold oc;by_cases a:c=0\/c=cl;·rw[if_pos ⟨h,a⟩,if_pos a]
 ·rw[if_neg λq=>a q.2,if_neg a]
theorem Sq {p:ew} {x:bA} {j:Nat} (a:j<6):(dD p x).at j=if p.bt.at j=0\/p.bt.at j=j4 p x then 0 else x.bx.at j:=by
 have:j=0\/j=1\/j=2\/j=3\/j=4\/j=5:=by omega
 rcases this with rfl|rfl|rfl|rfl|rfl|rfl<;>exact Sr (by decide)
theorem KE {a b:oz}:a.le b=true↔∀j,j<6->a.at j<=b.at j:=⟨λh j _=>zH h j,BH⟩
theorem B9 {p:ew} {L:List bA}:fS p L↔(L.map bA.Gz).Nodup/\(∀j,j<6->(L.map λy=>y.bx.at j).sum<=p.bm.at j)/\∀j,j<6->(L.map λy=>(dD p y).at j).sum<=p.bs.at j:=by unfold fS;rw[KE,KE];simp only[mw,γO,Function.comp_def]
theorem Sp {p:ew} (h:nW p=0):(p.bj.map bA.key).Nodup:=by
 unfold nW at h;split at h;·rename_i h1;exact absurd h h1
 ·exact(zJ h).1
theorem So {p:ew} (hc:nW p=0) {L:List bA} (e:L.length<=p.bj.length) (hm:∀x∈L,x∈p.bj) (c:(L.map bA.key).Nodup):nW (B_ p L)=0:=by
 have a:=rh hc;refine LR ?_ (λx b=>?_) c
 ·obtain⟨f1,f2,f3,f4,f5⟩:=rj a.1;exact GW (p:=B_ p L) f1 (λj d=>by have h:=(ni (p:=p) (k:=j)).1 (f2 j d);exact ni.2 h) (by simp only[B_];omega) f5
 ·exact a.2 x (hm x b)
theorem Sn {p:ew} (hc:nW p=0) {i j:Int} (hi:0<=i/\i<p.bj.length) (b:0<=j/\j<p.bj.length) (h:(oI p i).key=(oI p j).key):i=j:=by
 have a:=Sp hc;have h1:i.toNat<(p.bj.map bA.key).length:=by rw[Φ];omega
 have c:j.toNat<(p.bj.map bA.key).length:=by rw[Φ];omega
 have e:(p.bj.map bA.key)[i.toNat]=(p.bj.map bA.key)[j.toNat]:=by rw[δF,δF];unfold oI at h;rwa [bR (by omega),bR (by omega)] at h
 have:=(List.getElem_inj a).1 e;omega
theorem B8 {α β:Type} {f:α->β}:∀{l:List α},l.Nodup->(∀x∈l,∀y∈l,f x=f y->x=y)->(l.map f).Nodup
 |[],_,_=>by simp;|x::l,h,hi=>by rw[γQ] at h;rw[ν,γQ];refine⟨λhm=>?_,B8 h.2 λa g b d=>hi a (γe _ g) b (γe _ d)⟩;obtain⟨y,c,he⟩:=Δ.1 hm;exact h.1 (hi x (γs ..) y (γe _ c) he.symm▸c)
def cH (p:ew) (c:List Int):ew:=B_ p (c.map (oI p))
def fU (c t:List Int):List Int:=t.map λk=>bN c k.toNat 0
theorem KD {p:ew} {t:List Int}:VK p t=t.map (oI p):=rfl
theorem vR {p:ew} {c:List Int}:(cH p c).bj.length=c.length:=Φ _
theorem Sm {p:ew} {c:List Int} {k:Int} (h:0<=k/\k<c.length):oI (cH p c) k=oI p (bN c k.toNat 0):=by show bN (c.map (oI p)) k.toNat cj.bu.bw=_;grind[bR]
theorem CT {p:ew} {c t:List Int} (h:∀k∈t,0<=k/\k<c.length):VK (cH p c) t=VK p (fU c t):=by show t.map (oI (cH p c))=(t.map λk=>bN c k.toNat 0).map (oI p);simp_all[Sm]
theorem B7 {p:ew} (b:nW p=0) {c:List Int} (h:dm p.bj.length c):nW (cH p c)=0:=by
 refine So b (by simp_all[rU]) (λx f=>?_) ?_
 ·obtain⟨i,a,rfl⟩:=Δ.1 f;have:=h.2 i a;exact cy (by omega)
 ·rw[γO];exact B8 (vi h) λi a j d e=>Sn b (h.2 i a) (h.2 j d) e
theorem CS {p:ew}:(bD p).Pairwise λc d=>∀i∈c,i∉d:=by unfold bD;rw[εV];refine(om.sublist γn).imp_of_mem λ{f g} e j a i h b=>?_;grind[ik,tY,qH]
theorem xY {p:ew} {c:List Int} (h:c∈bD p):dm p.bj.length c:=by grind[x_,Sy]
theorem B6 {p:ew} {i:Int} (h:0<=i/\i<p.bj.length):∃c∈bD p,i∈c:=by obtain⟨f,d,a,b⟩:=CW (p:=p) (i.toNat+1) (i:=i) h.1 (by omega) h.2;exact⟨lI p f,x_.2 ⟨f,⟨by omega,a⟩,rfl⟩,qH.2 ⟨h,b.symm⟩⟩
theorem KC {p:ew} {c:List Int} (h:c∈bD p) {i j:Int} (b:i∈c) (a:0<=j/\j<p.bj.length) (d:eM (oI p i) (oI p j)=true):j∈c:=by grind[x_,qH,xZ,xw]
def gQ (c:List Int) (i:Int):Bool:=decide (i∈c)
theorem KB {g:Int->Int} {P Q:Int->Bool}:∀{l:List Int},(∀i∈l,P i=true->Q i=true->False)->((l.filter λi=>P i||Q i).map g).sum=((l.filter P).map g).sum+((l.filter Q).map g).sum
 |[],_=>rfl
 |x::l,h=>by have b:=KB (g:=g) (l:=l) λi a=>h i (γe _ a);grind
theorem KA {g:Int->Int} {l:List Int}:∀{a:List (List Int)},a.Pairwise (λc d=>∀i∈c,i∉d)->((l.filter λi=>a.any λc=>gQ c i).map g).sum=(a.map λc=>((l.filter (gQ c)).map g).sum).sum
 |[],_=>by
  have e:l.filter (λi=>([]:List (List Int)).any λc=>gQ c i)=[]:=δt.2 λi _=>by simp
  grind;|c::a,h=>by
  have b:=γp.1 h;have e:(l.filter λi=>(c::a).any λc=>gQ c i)=l.filter λi=>gQ c i||a.any λc=>gQ c i:=rfl;rw[e,KB,KA b.2];·rfl
  ·intro i _ f k;obtain⟨d,j,m⟩:=ζP.1 k;exact b.1 d j i (of_decide_eq_true f) (of_decide_eq_true m)
theorem Sl {p:ew} {g:Int->Int} {l:List Int} (h:∀i∈l,0<=i/\i<p.bj.length):(l.map g).sum=((bD p).map λc=>((l.filter (gQ c)).map g).sum).sum:=by rw[<-KA CS];congr 2;refine(List.filter_eq_self.2 λi hi=>?_).symm;obtain⟨c,hc,hi⟩:=B6 (h i hi);exact ζP.2 ⟨c,hc,decide_eq_true hi⟩
theorem Kz {g:Int->Int}:∀{l:List Int},(∀i∈l,g i=0)->(l.map g).sum=0
 |[],_=>rfl
 |x::l,h=>by rw[ν,εt,h x (γs ..),Kz λi a=>h i (γe _ a)];rfl
theorem Ky {g:Int->Int} {P:Int->Bool}:∀{l:List Int},(∀i∈l,P i=false->g i=0)->(l.map g).sum=((l.filter P).map g).sum
 |[],_=>rfl
 |x::l,h=>by have b:=Ky (g:=g) (P:=P) (l:=l) λi a=>h i (γe _ a);grind
theorem Kx {c d:Type} {f:c->d}:∀{l:List c},(l.map f).Nodup->∀{x y:c},x∈l->y∈l->f x=f y->x=y
 |z::l,h,x,y,a,b,e=>by
  rw[ν,γQ] at h;rcases γl.1 a with g|a;·grind
  ·rcases γl.1 b with i|b;·simp_all
   ·exact Kx h.2 a b e
theorem CR {p:ew} (b:nW p=0) {l:List Int} (d:dm p.bj.length l) {P:Int->Bool} (h:fS p (VK p l)):fS p (VK p (l.filter P)):=by have c:(l.filter P++l.filter λi=>!P i).Perm l:=List.filter_append_perm P l;have a:=zK ((c.map (oI p)).symm) h;rw[γb] at a;refine zO (cT b) (λx f=>?_) a;obtain⟨i,e,rfl⟩:=Δ.1 f;have:=d.2 i (Θ.1 e).1;exact cy (by omega)
theorem Kw {a b:bA} (h:a.Gz=b.Gz):eM a b=true:=by grind[eM]
theorem Sk {a b:bA} {k:Nat} (e:k<6) (d:0<a.bx.at k) (c:0<b.bx.at k):eM a b=true:=by grind[eM]
theorem Sj {p:ew} (hc:nW p=0) {l:List Int} (f:dm p.bj.length l):fS p (VK p l)↔∀c∈bD p,fS p (VK p (l.filter (gQ c))):=by
 refine⟨λh c _=>CR hc f h,λh=>?_⟩;have v:=cT hc;have hw:∀i∈l,∀k,k<6->0<=(oI p i).bx.at k:=λi hi k hk=>(Ss.1 (jP hc (f.2 i hi)).2.2.1 k hk).1;have sup:∀(g:bA->Int) (B:Int) (k:Nat),k<6->0<=B->(∀i∈l,g (oI p i)≠0->0<(oI p i).bx.at k)->(∀c∈bD p,((VK p (l.filter (gQ c))).map g).sum<=B)->((VK p l).map g).sum<=B:=λg B k hk t r hle=>by
  have e:∀m:List Int,((VK p m).map g).sum=(m.map λi=>g (oI p i)).sum:=λm=>by rw[KD,γO];rfl
  simp only[e] at hle ⊢;by_cases ex:∃i∈l,g (oI p i)≠0
  ·obtain⟨i,hi,b⟩:=ex;obtain⟨c,a,d⟩:=B6 (f.2 i hi);rw[Ky (P:=gQ c) λj n s=>γU λq=>?_];·exact hle c a
   ·exact of_decide_eq_false s (KC a d (f.2 j n) (Sk hk (r i hi b) (r j n q)))
  ·rw[Kz λi hi=>γU λb=>ex ⟨i,hi,b⟩];exact t
 refine B9.2 ⟨?_,λk hk=>?_,λk hk=>?_⟩
 ·show((l.map (oI p)).map bA.Gz).Nodup;rw[γO];refine B8 (vi f) λi hi j n e=>?_;obtain⟨c,a,d⟩:=B6 (f.2 i hi);have o:=KC a d (f.2 j n) (Kw e);have b:=(B9.1 (h c a)).1;rw[KD,γO] at b;exact Kx b (Θ.2 ⟨hi,decide_eq_true d⟩) (Θ.2 ⟨n,decide_eq_true o⟩) e
 ·exact sup (λy=>y.bx.at k) _ k hk (by have:=qJ hc hk;omega) (λi hi b=>by have:=hw i hi k hk;omega) λc a=>(B9.1 (h c a)).2.1 k hk
 ·exact sup (λy=>(dD p y).at k) _ k hk (qJ hc hk).2.2.1 (λi hi b=>by have h1:=hw i hi k hk;have u:=@Sq p (oI p i) k hk;have b:(dD p (oI p i)).at k≠0:=b;split at u<;>omega) λc a=>(B9.1 (h c a)).2.2 k hk
theorem Kv {l:List Int} (h:l.Pairwise (·<·)) (d:Int):l=(l.filter λj=>decide (j<d))++l.filter λj=>!decide (j<d):=D_ h
theorem Si {n:Nat} {a b:List Int} {d:Int} (f:dm n a) (g:dm n b) (h1:d∈a) (B:d∉b) (k:∀i,i<d->(i∈a↔i∈b)) (A:∃y∈b,d<y):bG a b<0:=by
 have D:=Kv f.1 d;have C:=Kv g.1 d;have e:(a.filter λj=>decide (j<d))=b.filter λj=>decide (j<d):=xG (f.1.sublist γn) (g.1.sublist γn) λx=>by rw[Θ,Θ,decide_eq_true_eq];exact⟨λh=>⟨(k x h.2).1 h.1,h.2⟩,λh=>⟨(k x h.2).2 h.1,h.2⟩⟩
 rw[D,C,e,Ea];have v:∀x∈a.filter (λj=>!decide (j<d)),d<=x:=λx c=>by have:=(Θ.1 c).2;simp at this;exact this
 have u:∀x∈b.filter (λj=>!decide (j<d)),d<x:=λx c=>by obtain⟨q,o⟩:=Θ.1 c;simp at o;have:x≠d:=λe=>B (e▸q);omega
 have r:=f.1.sublist (γn (p:=λj=>!decide (j<d)) (l:=a));have m:d∈a.filter (λj=>!decide (j<d)):=Θ.2 ⟨h1,by simp⟩;obtain⟨y,w,E⟩:=A;have t:y∈b.filter (λj=>!decide (j<d)):=Θ.2 ⟨w,by simp;omega⟩;generalize a.filter (λj=>!decide (j<d))=X at*;generalize b.filter (λj=>!decide (j<d))=Y at*;cases X with
 |nil=>cases m;|cons x X=>
  have c:x=d:=by
   rcases γl.1 m with h|h;·exact h.symm
   ·have F:=(γp.1 r).1 d h;have:=v x (γs ..);omega
  cases Y with
  |nil=>cases t;|cons z Y=>
   have:=u z (γs ..);simp only[bG];rw[if_pos (by omega)];decide
theorem Ku:∀{a b:List Int},a.Pairwise (·<·)->b.Pairwise (·<·)->bG a b<0->(∃d∈a,d∉b/\(∀i,i<d->(i∈a↔i∈b))/\∃y∈b,d<y)\/∃s,s≠[]/\b=a++s
 |[],[],_,_,h=>by grind[bG];|[],y::b,_,_,_=> .inr ⟨y::b,by simp,rfl⟩
 |_::_,[],_,_,h=>by grind[bG];|x::a,y::b,k,p,h=>by
  obtain⟨r,m⟩:=γp.1 k;obtain⟨v,j⟩:=γp.1 p;simp only[bG] at h;by_cases f:x<y
  ·refine .inl ⟨x,γs ..,λc=>?_,λi q=>⟨λc=>?_,λc=>?_⟩,y,γs ..,f⟩;all_goals grind
  ·rw[if_neg f] at h;by_cases n:y<x;·omega
   ·rw[if_neg n] at h;have e:x=y:=by omega
    subst e;rcases Ku m j h with⟨d,g,w,A,z,l,o⟩|⟨s,t,B⟩
    ·have u:=r d g;refine .inl ⟨d,γe _ g,λc=>?_,λi q=>?_,z,γe _ l,o⟩<;>grind
    simp_all
theorem tX {c:List Int} {n:Nat} (h:dm n c) {i j:Int} (d:0<=i/\i<c.length) (b:0<=j/\j<c.length) (a:i<j):bN c i.toNat 0<bN c j.toNat 0:=by rw[bR (by omega),bR (by omega)];exact ζw.1 h.1 _ _ (by omega) (by omega) (by omega)
theorem Sh {c t:List Int} {n:Nat} (h:dm n c) (a:dm c.length t):dm n (fU c t)/\∀x∈fU c t,x∈c:=by
 have e:∀x∈fU c t,x∈c:=λx d=>by obtain⟨k,f,rfl⟩:=Δ.1 d;exact cy (by have:=a.2 k f;omega)
 refine⟨⟨?_,λx d=>h.2 x (e x d)⟩,e⟩;unfold fU;rw[εV];exact a.1.imp_of_mem λ{i j} l g b=>tX h (a.2 i l) (a.2 j g) b
theorem S5 {c v:List Int} {n:Nat} (h:dm n c) (i:v.Pairwise (·<·)) (hm:∀x∈v,x∈c):∃t,dm c.length t/\fU c t=v:=by
 refine⟨v.map λx=>(c.idxOf x:Int),⟨?_,λk hk=>?_⟩,?_⟩
 ·rw[εV];refine i.imp_of_mem λ{x y} b f j=>?_;have a:=γ5 (hm x b);have d:=γ5 (hm y f);have ex:c[c.idxOf x]=x:=ζt a;have e:c[c.idxOf y]=y:=ζt d;by_cases l:c.idxOf x<c.idxOf y;·omega
  ·by_cases he:c.idxOf x=c.idxOf y
   ·have:x=y:=by rw[<-ex,<-e];congr 1
    omega
   ·have:=ζw.1 h.1 _ _ d a (by omega);rw[ex,e] at this;omega
 ·obtain⟨x,b,rfl⟩:=Δ.1 hk;have a:=γ5 (hm x b);omega
 ·unfold fU;rw[γO];conv=>rhs;rw[<-List.map_id v]
  refine γI λx b=>?_;have a:=γ5 (hm x b);show bN c ((c.idxOf x:Int)).toNat 0=x;rw[γg,bR a];exact ζt a
def pB (n:Nat) (c w u:List Int):List Int:=(bL n).filter λi=>if i∈c then decide (i∈w) else decide (i∈u)
theorem vQ {n:Nat} {c w u:List Int} {i:Int}:i∈pB n c w u↔(0<=i/\i<n)/\(if i∈c then i∈w else i∈u):=by simp_all[pB,ik]
theorem CQ {n:Nat} {c w u:List Int}:dm n (pB n c w u):=⟨om.sublist γn,λx a=>(vQ.1 a).1⟩
theorem S4 {p:ew} {c w u:List Int} (k:c∈bD p) (f:dm p.bj.length w) (a:∀x∈w,x∈c) (g:dm p.bj.length u) {d:List Int} (l:d∈bD p):
  (pB p.bj.length c w u).filter (gQ d)=if d=c then w else u.filter (gQ d):=by
 split
 next e=>subst e;refine xG (CQ.1.sublist γn) f.1 λx=>?_;rw[Θ,vQ];unfold gQ;rw[decide_eq_true_eq];exact⟨λh=>by grind,λh=>⟨⟨f.2 x h,by simp_all⟩,a x h⟩⟩
 ·rename_i b;have i:∀x∈d,x∉c:=λx m j=>b ?_
  ·refine xG (CQ.1.sublist γn) (g.1.sublist γn) λx=>?_;rw[Θ,Θ,vQ];unfold gQ;rw[decide_eq_true_eq];exact⟨λh=>⟨by grind,h.2⟩,λh=>⟨⟨g.2 x h.1,by simp_all⟩,h.2⟩⟩
  grind[x_,lI]
theorem Dw {p:ew} {l:List Int} (a:dm p.bj.length l):bE (VK p l)=((bD p).map λc=>bE (VK p (l.filter (gQ c)))).sum:=by have e:∀m:List Int,bE (VK p m)=(m.map λi=>(oI p i).value).sum:=λm=>BU;rw[e,Sl (p:=p) a.2];simp only[e]
theorem K0 {j:Type} [DecidableEq j] {f g:j->Int} {c:j}:∀{a:List j},a.Nodup->c∈a->(∀d∈a,d≠c->f d=g d)->(a.map f).sum=(a.map g).sum - g c+f c
 |[],_,h,_=>by cases h;|x::a,i,h,k=>by
  rw[γQ] at i;simp only[ν,εt];rcases γl.1 h with rfl|h
  ·have:a.map f=a.map g:=γI λd b=>k d (γe _ b) λe=>i.1 (e▸b);grind
  ·rw[K0 i.2 h λd b=>k d (γe _ b),k x (γs ..) λe=>i.1 (e▸h)];omega
theorem S3 {p:ew} {c:List Int} (h:c∈bD p):c≠[]:=by obtain⟨f,a,rfl⟩:=x_.1 h;exact θh (qH.2 ⟨a.1,rfl⟩)
theorem S2 {p:ew}:(bD p).Nodup:=by
 refine CS.imp_of_mem λ{c d} b a h e=>?_;subst e;cases c with
 |nil=>grind[S3];|cons x c=>exact h x (γs ..) (γs ..)
theorem qF {n:Nat} {t:List Int}:my 0 n t↔dm n t:=by grind[my,dm]
theorem vP {p:ew} (hc:nW p=0) {c:List Int} (u:c∈bD p):(Oq p).bn.filter (gQ c)=fU c (Oq (cH p c)).bn/\bE (VK p ((Oq p).bn.filter (gQ c)))=(Oq (cH p c)).value:=by
 have hg:=cT hc;have a:=xY u;have P:=B7 hc a;have H:=cT P;obtain⟨U,hv⟩:=pF hc;obtain⟨R,N⟩:=pF P;have z:=qF.1 U.1;have w:=qF.1 R.1;rw[vR] at w;obtain⟨Y,X⟩:=Sh a w;have W:bE (VK p (fU c (Oq (cH p c)).bn))=(Oq (cH p c)).value:=by rw[<-CT w.2,N]
 have Z:fS p (VK p (fU c (Oq (cH p c)).bn)):=by rw[<-CT w.2];exact R.2
 have hva:((Oq p).bn.filter (gQ c)).Pairwise (·<·):=z.1.sublist γn;have hvc:∀x∈(Oq p).bn.filter (gQ c),x∈c:=λx T=>of_decide_eq_true (Θ.1 T).2;have hvF:fS p (VK p ((Oq p).bn.filter (gQ c))):=CR hc z U.2;obtain⟨t,K,q⟩:=S5 a hva hvc;have D:=CT (p:=p) K.2;rw[q] at D;have I:og (cH p c) t:=⟨qF.2 (by rw[vR];exact K),by rw[D];exact hvF⟩;have C:bE (VK (cH p c) t)=bE (VK p ((Oq p).bn.filter (gQ c))):=by rw[D]
 have V:=yV H I.1 (decide_eq_true I.2);rw[C] at V;have o:=@CQ p.bj.length c (fU c (Oq (cH p c)).bn) (Oq p).bn;have E:=λ{d:List Int} (m:d∈bD p)=>S4 u Y X z m;have F:og p (pB p.bj.length c (fU c (Oq (cH p c)).bn) (Oq p).bn):=⟨qF.2 o,(Sj hc o).2 λd m=>by
  rw[E m];split;·exact Z
  ·exact CR hc z U.2⟩;have O:bE (VK p (pB p.bj.length c (fU c (Oq (cH p c)).bn) (Oq p).bn))=(Oq p).value - bE (VK p ((Oq p).bn.filter (gQ c)))+(Oq (cH p c)).value:=by
  rw[Dw o,hv,Dw z];have:=K0 (f:=λd=>bE (VK p ((pB p.bj.length c (fU c (Oq (cH p c)).bn) (Oq p).bn).filter (gQ d)))) (g:=λd=>bE (VK p ((Oq p).bn.filter (gQ d)))) (c:=c) S2 u λd m hne=>by show bE (VK p ((pB _ _ _ _).filter (gQ d)))=_;rw[E m,if_neg hne]
  rw[this];show _ - _+bE (VK p ((pB _ _ _ _).filter (gQ c)))=_;rw[E u,if_pos rfl,W]
 have B:=yV hg F.1 (decide_eq_true F.2);have B:bE (VK p (pB p.bj.length c (fU c (Oq (cH p c)).bn) (Oq p).bn))<=(Oq p).value:=B;rw[O] at B;have eqv:bE (VK p ((Oq p).bn.filter (gQ c)))=(Oq (cH p c)).value:=by omega
 refine⟨?_,eqv⟩;have n1:¬bG t (Oq (cH p c)).bn<0:=λh=>Eb H I (.inr ⟨by show bE (VK (cH p c) t)=_;rw[C,eqv],h⟩);have n2:¬bG (Oq (cH p c)).bn t<0:=λh=>by
  have pos:∀(s:List Int),s≠[]->t=(Oq (cH p c)).bn++s->False:=λs hs e=>by
   have h5:=C;rw[e] at h5;have e2:VK (cH p c) ((Oq (cH p c)).bn++s)=VK (cH p c) (Oq (cH p c)).bn++VK (cH p c) s:=γb;rw[e2,nO,<-N,eqv] at h5;have h6:=LP H (L:=VK (cH p c) s) (λx T=>by
    obtain⟨k,hk,rfl⟩:=Δ.1 T;have:=K.2 k (by rw[e];exact List.mem_append_right _ hk);exact cy (by rw[vR];omega)) (by
    cases s with
    |nil=>exact absurd rfl hs;|cons x s=>exact List.cons_ne_nil _ _);omega
  rcases Ku w.1 K.1 h with⟨d,d1,d2,d3,y,y1,y2⟩|⟨s,s1,s2⟩
  ·have m:=w.2 d d1;have hy:=K.2 y y1;have A:∀k:Int,(0<=k/\k<c.length)->(bN c k.toNat 0∈(Oq p).bn↔k∈t):=λk hk=>by
    constructor
    ·intro hm;have hm2:bN c k.toNat 0∈fU c t:=by rw[q];exact Θ.2 ⟨hm,decide_eq_true (cy (by omega))⟩
     obtain⟨j,v,e⟩:=Δ.1 hm2;have l:=K.2 j v;by_cases h1:j<k;·have:=tX a l hk h1;omega
     ·by_cases M:k<j;·have:=tX a hk l M;omega
      ·rw[show k=j by omega];exact v
    ·intro G;have:bN c k.toNat 0∈fU c t:=Δ.2 ⟨k,G,rfl⟩;rw[q] at this;exact(Θ.1 this).1
   have bin:∀k:Int,(0<=k/\k<c.length)->(bN c k.toNat 0∈fU c (Oq (cH p c)).bn↔k∈(Oq (cH p c)).bn):=λk hk=>by
    constructor
    ·intro hm;obtain⟨j,v,e⟩:=Δ.1 hm;have l:=w.2 j v;by_cases h1:j<k;·have:=tX a l hk h1;omega
     ·by_cases M:k<j;·have:=tX a hk l M;omega
      ·rw[show k=j by omega];exact v
    ·intro G;exact Δ.2 ⟨k,G,rfl⟩
   have Q:bN c d.toNat 0∈c:=cy (by omega);have S:bG (pB p.bj.length c (fU c (Oq (cH p c)).bn) (Oq p).bn) (Oq p).bn<0:=by
    refine Si (d:=bN c d.toNat 0) o z ?_ ?_ (λi hi=>?_) ⟨bN c y.toNat 0,(A y hy).2 y1,tX a m hy y2⟩;·exact vQ.2 ⟨a.2 _ Q,by rw[if_pos Q];exact(bin d m).2 d1⟩
    ·exact λhm=>d2 ((A d m).1 hm)
    ·by_cases r:i∈c
     ·obtain⟨k,hk,rfl⟩:∃k:Int,(0<=k/\k<c.length)/\bN c k.toNat 0=i:=by obtain⟨j,v,e⟩:=γJ r;exact⟨j,by omega,by rw[γg,bR v,e]⟩
      have hkd:k<d:=by
       by_cases h1:k<d;·exact h1
       ·by_cases M:d<k;·have:=tX a m hk M;omega
        ·rw[show k=d by omega] at hi;omega
      rw[vQ,if_pos r,bin k hk,A k hk,d3 k hkd];exact⟨λh=>h.2,λh=>⟨a.2 _ r,h⟩⟩
     ·rw[vQ,if_neg r];exact⟨λh=>h.2,λh=>⟨z.2 _ h,h⟩⟩
   refine Eb hg F (.inr ⟨?_,S⟩);show bE (VK p _)=_;rw[O,eqv];omega
  ·exact pos s s1 s2
 have n3:bG t (Oq (cH p c)).bn=0:=by have:¬0<bG t (Oq (cH p c)).bn:=λh=>n2 (FC.2 h);omega
 rw[<-q,FD n3]
theorem S1 {p:ew} (hc:nW p=0):(Oq p).value=((bD p).map λc=>(Oq (cH p c)).value).sum:=by obtain⟨d,b⟩:=pF hc;rw[b,Dw (qF.1 d.1)];congr 1;exact γI λc a=>(vP hc a).2
def qD (p:ew):List Int:=(bD p).flatMap λc=>fU c (Oq (cH p c)).bn
theorem S0 {p:ew} (e:nW p=0) {i:Int}:i∈qD p↔i∈(Oq p).bn:=by
 unfold qD;rw[List.mem_flatMap];have f:=qF.1 (pF e).1.1;constructor
 ·rintro⟨c,a,b⟩;rw[<-(vP e a).1] at b;simp_all
 ·intro b;obtain⟨c,a,d⟩:=B6 (f.2 i b);exact⟨c,a,by rw[<-(vP e a).1];exact Θ.2 ⟨b,decide_eq_true d⟩⟩
theorem SZ {p:ew} (b:nW p=0):(qD p).Nodup:=by
 unfold qD List.Nodup;rw[List.pairwise_flatMap];have j:=qF.1 (pF b).1.1;refine⟨λc a=>?_,CS.imp_of_mem λ{c d} a i h x g y f e=>?_⟩
 ·rw[<-(vP b a).1];exact(j.1.sublist γn).imp λh=>by omega
 ·rw[<-(vP b a).1] at g;rw[<-(vP b i).1] at f;exact h x (of_decide_eq_true (Θ.1 g).2) (e▸of_decide_eq_true (Θ.1 f).2)
theorem SY {p:ew} (hc:nW p=0):dv (qD p)=(Oq p).bn:=by
 have i:=qF.1 (pF hc).1.1;have d:(dv (qD p)).Perm (qD p):=δn _ _;have f:(dv (qD p)).Pairwise λa b=>decide (a<=b)=true:=δK (λa b c h1 e=>by simp at h1 e ⊢;omega) (λa b=>by simp;omega) _;have g:(dv (qD p)).Nodup:=d.nodup_iff.2 (SZ hc);refine xG ((f.and g).imp λ{a b} h=>?_) i.1 λx=>?_
 ·have h1:=of_decide_eq_true h.1;have e:a≠b:=h.2;omega
 ·rw[d.mem_iff,S0 hc]
theorem SX {l:List Int} {m:Nat} (a:l.Nodup) (h:∀x∈l,0<=x/\x<m):l.length<=m:=by
 have b:l.Perm ((bL m).filter λx=>decide (x∈l)):=by refine(γ6 a ((om.sublist γn).imp λh=>by omega)).2 λx=>?_;simp_all[ik]
 rw[b.length_eq];grind[fj]
theorem B5 {p:ew} (hc:nW p=0):(bD p).length<=p.bk.length:=by
 have g:(bD p).length=((bL p.bj.length).filter (mW p)).length:=by unfold bD;rw[Φ]
 rw[g];have e:((bL p.bj.length).filter (mW p)).length=(((bL p.bj.length).filter (mW p)).map λf=>(oI p f).Gz).length:=by rw[Φ]
 rw[e];refine SX (B8 ((om.sublist γn).imp λh=>by omega) λi hi j k m=>?_) λx d=>?_
 ·obtain⟨i1,i2⟩:=Θ.1 hi;obtain⟨a,c⟩:=Θ.1 k;have i1:=ik.1 i1;have a:=ik.1 a;have b:kb p i=kb p j:=(xZ i1 a).2 (xw (by omega) (by omega) (by rw[show((i.toNat:Nat):Int)=i by omega,show((j.toNat:Nat):Int)=j by omega];exact Kw m));by_cases h1:i<j;·exact absurd b ((tY a.1).1 c i i1.1 h1)
  ·by_cases o:j<i;·exact absurd b.symm ((tY i1.1).1 i2 j a.1 o)
   ·omega
 ·obtain⟨f,l,rfl⟩:=Δ.1 d;have:=jP hc (ik.1 (Θ.1 l).1);exact⟨this.1,this.2.1⟩
def Dv:ew:=⟨.zero,.zero,.zero,[],[]⟩
theorem SU:j8 Tryz.prog 57 [.os 0 0 0 0] [.cells [] 3 1 true] (.IL []) [.cells [] 3 1 true]:=
 (HO pX 60 57 [.os 0 0 0 0] [.cells [] 3 1 true] true (.IL []) [.cells [] 3 1 true] (by kernel_rfl)).2.1
def KZ:cC where
 f:=57;α:=Nat×List Int;put a:=[.ow 0 a.1 1];st a:=[.row (.i .i64) a.2 3 true];dec v o:=match v,o with
  |[.ow 0 n 1],[.row t l 3 true]=>match gX t (.i .i64) l with
   |some l=>some (n,l)
   |_=>none
  |_,_=>none;ok v o a h:=by grind[lU]
 inj a b j c:=by
  obtain⟨n,l⟩:=a;obtain⟨k,d⟩:=b;simp only[gL,χ,SV.g,AV.os.injEq,true_and] at j;simp only[gO,ν,List.map_nil,iZ.g,χ,OL.cells.injEq,and_true,true_and] at c;have m:l=d:=by have e:=congrArg γf c;rw[eh,eh] at e;exact kK (.i .i64) (by grind[cj.sz]) c
  simp_all
 dom a:=a.1=a.2.length/\a.2.length<=1000000;res _:=.IL [];out a:=[.row (.i .i64) (dv a.2) 3 true]
theorem zx:g' KZ:=by
 rintro⟨n,l⟩ ⟨a,b⟩;simp only at a b;by_cases c:1<=l.length;·exact zg (n,l) ⟨a,c,b⟩
 ·have:l=[]:=ψ (by omega);subst this;subst a;refine⟨by kernel_rfl,?_⟩;have e:dv []=[]:=by simp[dv]
  show j8 Tryz.prog 57 [.os 0 0 0 0] [.cells [] 3 1 true] (.IL []) (gO [.row (.i .i64) (dv []) 3 true]);rw[e];exact SU
def xX:NG:=⟨31,ew×List Int,.cons cI (.one (cP (.i .i64))),λa=>(∀i∈a.2,0<=i/\i<a.1.bj.length)/\a.2.length<=1000/\a.1.bk.length<=1000,λa=>cI.put (cH a.1 a.2)⟩
def Du (p:ew) (v:SV):iZ:=.cells [.si .i64 p.bm.a0,.si .i64 p.bm.a1,.si .i64 p.bm.a2,.si .i64 p.bm.a3,.si .i64 p.bm.a4,.si .i64 p.bm.a5,
  .si .i64 p.bs.a0,.si .i64 p.bs.a1,.si .i64 p.bs.a2,.si .i64 p.bs.a3,.si .i64 p.bs.a4,.si .i64 p.bs.a5,
  .si .i64 p.bt.a0,.si .i64 p.bt.a1,.si .i64 p.bt.a2,.si .i64 p.bt.a3,.si .i64 p.bt.a4,.si .i64 p.bt.a5,
  .row (.i .i64) p.bk,v] 27 20 false
def KY:iZ:=.cells [.il .i64 0,.il .i64 0,.il .i64 0,.il .i64 0,.il .i64 0,.il .i64 0,.il .i64 0,.il .i64 0,.il .i64 0,.il .i64 0,.il .i64 0,.il .i64 0,.il .i64 0,.il .i64 0,.il .i64 0,.il .i64 0,.il .i64 0,.il .i64 0,.sc (.slice none 0 0),.sc (.slice none 0 0)] 27 20 false
def SS (p:ew) (c:List Int):Nat->bH
 |5=> .inv Int (λi=>⟨[(2,.ptr 0 0 20),(4,.ptr 1 0 20),(5,.ptr 2 0 20),(14,.row (.i .i64) c),(15,.si .i64 c.length),(16,.si .i64 i)],[.cells p.ss 27 20 false,KY,Du p (.ow 3 (c.take i.toNat).length 8),.row .bu ((c.take i.toNat).map (oI p)) 65 true]⟩)
   (λs=>iS s 16) (λi=>0<=i/\i<=c.length) (λi=>(c.length - i).toNat) λ_ _=> .look
 |_=> .look
theorem uC:d' xX:=by
 refine bI (L:=[xn]) xX (λa=>SS a.1 a.2) (by grind[zj]) ?_;rintro⟨p,c⟩ ⟨Z,h2,h3⟩;simp only at Z h2 h3;refine NI (let a:=γc .i64;let b:=(0:Int);let d:=iZ.cells;let y:=Ω;let I:=iZ.row;let L:=γM;let Y:=L 0 0 20;let W:=L 1 0 20;let X:=L 2 0 20;let J:=cj.i .i64;let H:=(↑c.length:Int);let N:=a H;let e:=γu .i64 0;let O:=a p.bm.a0;let M:=a p.bm.a1;let S:=a p.bm.a2;let q:=a p.bm.a3;let B:=a p.bm.a4;let A:=a p.bm.a5;let r:=a p.bs.a0;let v:=a p.bs.a1;let D:=a p.bs.a2;let u:=a p.bs.a3;let o:=a p.bs.a4;let w:=a p.bs.a5;let l:=a p.bt.a0;let n:=a p.bt.a1;let z:=a p.bt.a2;let C:=a p.bt.a3;let t:=a p.bt.a4;let s:=a p.bt.a5;let k:=y J p.bk;let F:=d [O,M,S,q,B,A,r,v,D,u,o,w,l,n,z,C,t,s,k,y cj.bu p.bj] 27 20 false;let T:=SV.sc (Value.slice none 0 0);let E:=d [e,e,e,e,e,e,e,e,e,e,e,e,e,e,e,e,e,e,T,T] 27 20 false;let K:=d [O,M,S,q,B,A,r,v,D,u,o,w,l,n,z,C,t,s,k,γZ 3 0 8] 27 20 false;let U:=I cj.bu [] 65 true;let h:=(cH p c).bm;let f:=(cH p c).bs;let j:=(cH p c).bt;p.bk.length<=1000000/\(((Y.bi Y/\W.bi W/\X.bi X/\(y J c).bi (y J c)/\(a (↑c.length:Int)).bi N/\e.bi (a 0)/\True)/\F.bi F/\E.bi E/\K.bi K/\U.bi U/\True)/\b<=b/\b<=H)/\∀(x:Int),let G:=bN c x.toNat b;let m:=γd (oI p) (Ξ x.toNat c);let Q:=m.length+1;let g:=x+(1:Int);let R:=a g;let V:=m++[bN p.bj G.toNat cj.bu.bw];let P:=Ξ g.toNat c;b<=x/\x<=H->(decide (x<H)=true->b<=x/\x<(↑c.length:Int)/\x.toNat<c.length/\b<=G/\G<(↑p.bj.length:Int)/\G.toNat<p.bj.length/\1=1/\(Ξ x.toNat c).length=m.length/\Q*64<=140737488355328/\Q<=1000000000000/\TP .i64 g/\((Y.bi Y/\W.bi W/\X.bi X/\(y J c).bi (y J c)/\N.bi N/\R.bi R/\True)/\F.bi F/\E.bi E/\(d [O,M,S,q,B,A,r,v,D,u,o,w,l,n,z,C,t,s,k,γZ 3 V.length 8] 27 20 false).bi (d [O,M,S,q,B,A,r,v,D,u,o,w,l,n,z,C,t,s,k,γZ 3 P.length 8] 27 20 false)/\(I cj.bu V 65 true).bi (I cj.bu (γd (oI p) P) 65 true)/\True)/\(b<=g/\g<=H)/\(H - g).toNat<(H - x).toNat)/\(decide (x<H)=false->(Ξ x.toNat c).length=m.length/\(γG [O,M,S,q,B,A,r,v,D,u,o,w,l,n,z,C,t,s,k,y cj.bu m]).bi (γG [a h.a0,a h.a1,a h.a2,a h.a3,a h.a4,a h.a5,a f.a0,a f.a1,a f.a2,a f.a3,a f.a4,a f.a5,a j.a0,a j.a1,a j.a2,a j.a3,a j.a4,a j.a5,y J (cH p c).bk,y cj.bu (cH p c).bj]))) (by kernel_rfl) ?_;simp only[vcs];have I:∀{a b:Nat},a=b->(Du p (.ow 3 a 8)).bi (Du p (.ow 3 b 8)):=by rintro _ _ rfl;rfl
 have a7:∀{x y:List bA},x=y->(iZ.row .bu x 65 true).bi (iZ.row .bu y 65 true):=by rintro _ _ rfl;rfl
 have a6:∀x:Int,0<=x->x<c.length->γd (oI p) (Ξ x.toNat c)++[bN p.bj (bN c x.toNat 0).toNat cj.bu.bw]=γd (oI p) (Ξ (x+1).toNat c):=λx h0 Z=>by rw[iG (d:=0) h0 Z,γb];rfl
 refine⟨by omega,by omega,?_⟩;rintro x ⟨x0,x1⟩;refine⟨λN=>?_,λa8=>?_⟩
 ·have hb:=Z (bN c x.toNat 0) (cy (by omega));have a9:(γd (oI p) (Ξ x.toNat c)).length=x.toNat:=by simp_all
  rw[a6 x x0 N];refine⟨x0,N,by omega,hb.1,hb.2,by omega,(Φ _).symm,by omega,by omega,by omega,⟨I (Φ _),a7 rfl⟩,by omega⟩
 ·rw[show x.toNat=c.length by omega,φ];exact⟨(Φ _).symm,rfl⟩
def pA (p:ew) (l:List Int):Int:=if nW p≠0 then nW p else if eT p l=true then 0 else 4
def mV (p:ew) (l:List Int):ew:=if pA p l=0 then cH p l else Dv
def Dt:NG:=⟨15,ew×List Int,.cons cI (.one (cP (.i .i64))),λa=>a.2.length<=1000000000000,λa=> .IL [.agg (mV a.1 a.2).ss,.si .i64 (pA a.1 a.2)]⟩
def SR (p:ew) (l:List Int):Nat->bH
 |6=> .inv (Int×Int) (λx=>⟨[(1,.row (.i .i64) l),(2,.ptr 0 0 20),(4,.ptr 1 0 20),(7,.si .i64 x.2),(16,.row (.i .i64) l),(17,.si .i64 l.length),(18,.si .i64 x.1)],[.cells p.ss 27 20 false,KY]⟩)
   (λs=>(iS s 18,iS s 7)) (λx=>(0<=x.1/\x.1<=l.length)/\(-1<=x.2/\x.2<1000)/\(dG p.bj (-1) l).isSome=(dG p.bj x.2 (l.drop x.1.toNat)).isSome) (λx=>(l.length - x.1).toNat) λ_ _=> .look
 |_=> .look
theorem Ip:d' Dt:=by
 refine bI (L:=[nz,xX]) Dt (λa=>SR a.1 a.2) (by grind[oT,uC]) ?_;rintro⟨p,l⟩ (hl:l.length<=1000000000000);refine NI (let a:=γc .i64;let d:=Ω;let e:=(-1:Int);let h:=(0:Int);let n:=γu .i64;let q:=(1000:Int);let A:=SV.IL;let E:=γG;let T:=decide (nW p≠h);let b:=n 0;let m:=cj.i .i64;let M:=E [b,b,b,b,b,b,b,b,b,b,b,b,b,b,b,b,b,b,d m [],d m []];let y:=(mV p l).bm;let w:=(mV p l).bs;let v:=(mV p l).bt;let J:=A [E [a y.a0,a y.a1,a y.a2,a y.a3,a y.a4,a y.a5,a w.a0,a w.a1,a w.a2,a w.a3,a w.a4,a w.a5,a v.a0,a v.a1,a v.a2,a v.a3,a v.a4,a v.a5,d m (mV p l).bk,d cj.bu (mV p l).bj],a (pA p l)];let K:=γM 0 0 20;let I:=γM 1 0 20;let c:=(↑l.length:Int);let u:=a c;let r:=iZ.cells [a p.bm.a0,a p.bm.a1,a p.bm.a2,a p.bm.a3,a p.bm.a4,a p.bm.a5,a p.bs.a0,a p.bs.a1,a p.bs.a2,a p.bs.a3,a p.bs.a4,a p.bs.a5,a p.bt.a0,a p.bt.a1,a p.bt.a2,a p.bt.a3,a p.bt.a4,a p.bt.a5,d m p.bk,d cj.bu p.bj] 27 20 false;let z:=SV.sc (Value.slice none 0 0);let s:=iZ.cells [b,b,b,b,b,b,b,b,b,b,b,b,b,b,b,b,b,b,z,z] 27 20 false;let t:=(dG p.bj e l).isSome;let f:=(cH p l).bm;let k:=(cH p l).bs;let o:=(cH p l).bt;True/\(T=true->(A [M,a (nW p)]).bi J)/\(T=false->((((d m l).bi (d m l)/\K.bi K/\I.bi I/\(n e).bi (a e)/\(d m l).bi (d m l)/\(a (↑l.length:Int)).bi u/\b.bi (a 0)/\True)/\r.bi r/\s.bi s/\True)/\(h<=h/\h<=c)/\(e<=e/\e<q)/\t=t)/\∀(x:Int×Int),let G:=decide (x.1<c);let j:=bN l x.1.toNat h;let H:=decide (j<=x.2);let D:=decide ((↑p.bj.length:Int)<=j);let g:=x.1+(1:Int);let B:=a j;let C:=a g;(h<=x.1/\x.1<=c)/\(e<=x.2/\x.2<q)/\t=(dG p.bj x.2 (List.drop x.1.toNat l)).isSome->(G=true->h<=x.1/\x.1<(↑l.length:Int)/\x.1.toNat<l.length/\(H=true->(A [M,n 4]).bi J)/\(H=false->(D=true->(A [M,n 4]).bi J)/\(D=false->TP .i64 g/\(((d m l).bi (d m l)/\K.bi K/\I.bi I/\B.bi B/\(d m l).bi (d m l)/\u.bi u/\C.bi C/\True)/\r.bi r/\s.bi s/\True)/\((h<=g/\g<=c)/\(e<=j/\j<q)/\t=(dG p.bj j (List.drop g.toNat l)).isSome)/\(c - g).toNat<(c - x.1).toNat)))/\(G=false->((∀(i:Int),i∈l->h<=i/\i<(↑p.bj.length:Int))/\l.length<=1000/\p.bk.length<=1000)/\(A [E [a f.a0,a f.a1,a f.a2,a f.a3,a f.a4,a f.a5,a k.a0,a k.a1,a k.a2,a k.a3,a k.a4,a k.a5,a o.a0,a o.a1,a o.a2,a o.a3,a o.a4,a o.a5,d m (cH p l).bk,d cj.bu (cH p l).bj],b]).bi J))) (by kernel_rfl) ?_;simp only[vcs];have Z:pA p l≠0->mV p l=Dv:=λh=>by simp_all[mV]
 refine⟨λh=>?_,λh=>?_⟩
 ·have e:pA p l=nW p:=by simp_all[pA]
  rw[Z (by omega),e];exact⟨rfl,rfl⟩
 ·have hc:nW p=0:=γa.1 h;have P:=cT hc;have e:pA p l=if eT p l=true then 0 else 4:=by simp_all[pA]
  refine⟨⟨by omega,by omega,by simp⟩,?_⟩;rintro⟨i,U⟩ ⟨⟨N,i1⟩,⟨Y,V⟩,q⟩;simp only at N i1 Y V q ⊢;have F:eT p l=false->pA p l=4/\mV p l=Dv:=λhb=>by simp_all
  refine⟨λA=>?_,λa6=>?_⟩
  ·rw[ri (d:=0) N A] at q;generalize S:bN l i.toNat 0=x at q ⊢;simp only[dG] at q;refine⟨N,A,by omega,λR=>?_,λR=>⟨λh2=>?_,λh2=>?_⟩⟩
   ·rw[if_pos (.inl R)] at q;obtain⟨O,Q⟩:=F q;rw[Q,O];exact⟨rfl,rfl⟩
   ·rw[if_pos (.inr (by omega))] at q;obtain⟨O,Q⟩:=F q;rw[Q,O];exact⟨rfl,rfl⟩
   ·rw[if_neg (by omega),Option.isSome_map] at q;have:=P.2.1;grind
  ·rw[show i.toNat=l.length from by omega,List.drop_length] at q;have E:eT p l=true:=q;rw[E] at e;have e0:pA p l=0:=e;have X:mV p l=cH p l:=by simp_all[mV]
   have ha:=ER (by omega) E;rw[X,e0];have W:=ET (n:=p.bj.length) (a:=0) (by omega) ha.1 (λx S=>by grind);exact⟨⟨λx S=>by grind,by have:=P.2.1;omega,by have:=P.1;omega⟩,rfl,rfl⟩
open Go.Maps Go.RowKit Go.Proofs Go.ChangeShapes
def fV (l:List Int) (k:Nat) (x:Int):List Int:=(bL k).filter λi=>decide (bN l i.toNat 0=x)
theorem SQ {l:List Int} {k:Nat} {x:Int}:fV l (k+1) x=if bN l k 0=x then fV l k x++[(k:Int)] else fV l k x:=by grind[fV,oo]
def mL (H:Type) (l:List Int):Nat->DataW H
 |0=> .map []
 |k+1=>(mL H l k).put (.int .i64 (bN l k 0)) (.slice (lits .i64 (fV l k (bN l k 0)++[(k:Int)])) [])
theorem KX {H:Type} {l:List Int}:∀{k:Nat},Go.Maps.IsMap (mL H l k)
 |0=>isMap_empty
 |k+1=>KX.put _ _
theorem B4 {H:Type} {l:List Int} {x:Int}:∀{k:Nat} (z:DataW H),(mL H l k).atKey (.int .i64 x) z=if fV l k x=[] then z else .slice (lits .i64 (fV l k x)) []
 |0,z=>by grind[mL,fV,bL,DataW.atKey];|k+1,z=>by
  rw[mL,SQ];by_cases h:bN l k 0=x
  ·subst h;rw[atKey_put_same KX (by simp[WideAt.IsKeyLit]),if_pos rfl,if_neg (by simp)]
  ·rw[atKey_put_other (by grind),if_neg h];exact B4 z
theorem KW {H:Type} {l:List Int} {x:Int} {k:Nat}:θy (mL H l k) (.int .i64 x)=decide (fV l k x≠[]):=by by_cases h:fV l k x=[];all_goals simp_all[has_false_of_atKey,B4,has_true_of_atKey]
theorem SP {H:Type} {w:World} {base:Nat} {e:TypeId} {v:Value} {f l:List Int} {k:Nat} (i:w.ownsInts base e .i64 v f)
  (c:(mL H l k).atKey (.int .i64 (bN l k 0)) .nil=rowDatum .i64 v f):f=fV l k (bN l k 0):=by
 rw[B4] at c;rcases i.datum (H:=H) with⟨h1,rfl⟩|h1<;>rw[h1] at c
 ·split at c;·rename_i h;exact h.symm
  ·cases c
 ·split at c;·cases c
  ·injection c with c;have d:∀{a b:List Int},lits (H:=H) .i64 a=lits .i64 b->a=b:=by
    intro a;induction a with
    |nil=>intro b h;cases b with|nil=>rfl|cons y b=>simp[lits] at h
    |cons x a g=>
     intro b h;cases b with
     |nil=>simp[lits] at h;|cons y b=>
      simp[lits] at h g;rw[h.1,g h.2]
   exact(d c).symm
theorem KV {l:List Int} {n:Nat} {x i:Int}:i∈fV l n x↔(0<=i/\i<n)/\bN l i.toNat 0=x:=by unfold fV bL;grind
theorem SO {l:List Int} {n:Nat} {x:Int}:(fV l n x).Pairwise (·<·):=om.sublist γn
def d_ (l:List Int) (n:Nat):List Int:=(bL n).filter λf=>decide ((fV l n (bN l f.toNat 0)).head?=some f)
theorem Ds {l:List Int} {n:Nat}:(d_ l n).Pairwise (·<·):=om.sublist γn
theorem Cy {l:List Int} {n:Nat} {f:Int}:f∈d_ l n↔(fV l n (bN l f.toNat 0)).head?=some f:=by
 unfold d_;rw[Θ];constructor;·simp_all
 ·intro h;refine⟨?_,decide_eq_true h⟩;have:=(KV.1 (List.mem_of_mem_head? h)).1;grind[bL]
theorem SN {l:List Int} {n:Nat} {x:Int} (h:fV l n x≠[]):∃f t,fV l n x=f::t/\f∈d_ l n/\bN l f.toNat 0=x:=by
 cases e:fV l n x with
 |nil=>exact absurd e h;|cons f t=>
  have a:=(KV.1 (show f∈fV l n x by rw[e];exact γs)).2;exact⟨f,t,rfl,Cy.2 (by rw[a,e];rfl),a⟩
theorem SM {l:List Int} {n:Nat} {f g:Int} (b:f∈d_ l n) (a:g∈d_ l n) (h:bN l f.toNat 0=bN l g.toNat 0):f=g:=by grind[Cy]
theorem SL {d l:List Int} (g:d.Nodup) (e:l.Pairwise (·<·)) (hm:∀x,x∈d↔x∈l):(d.mergeSort λx y=>decide (x<=y))=l:=by have f:d.Perm l:=(γ6 g (e.imp λh=>Int.ne_of_lt h)).2 hm;have h1:=δK (le:=λx y:Int=>decide (x<=y)) (λa b c=>by simp;omega) (λa b=>by simp;omega) d;exact εK (le:=λx y:Int=>x<=y) (λa b _ _ h j=>by omega) (h1.imp λh=>by simpa using h) (e.imp λh=>γi h) ((δn _ _).trans f)
theorem SK {p:ew}:bD p=(d_ (kV p) p.bj.length).map λf=>fV (kV p) p.bj.length (bN (kV p) f.toNat 0):=by
 unfold bD;have e:∀f,lI p f=fV (kV p) p.bj.length (bN (kV p) f.toNat 0):=λf=>rfl;have h:(bL p.bj.length).filter (mW p)=d_ (kV p) p.bj.length:=by
  unfold d_;refine εs λf r=>?_;obtain⟨n,h1⟩:=ik.1 r;rw[<-e f];have i:f∈lI p f:=qH.2 ⟨⟨n,h1⟩,rfl⟩;have d:(lI p f).Pairwise (·<·):=SO;cases hc:lI p f with
  |nil=>rw[hc] at i;cases i;|cons g t=>
   rw[hc] at d;have q:=qH.1 (show g∈lI p f by rw[hc];exact γs);by_cases k:g=f
   ·subst k;rw[List.head?_cons];have:mW p g=true:=(tY n).2 λj a b c=>by
     have m:j∈lI p g:=qH.2 ⟨⟨a,by omega⟩,c⟩;rw[hc] at m;rcases γl.1 m with rfl|m;·omega
     ·have:=ζx d m;omega
    simp[this]
   ·have o:g<f:=by
     rw[hc] at i;rcases γl.1 i with rfl|m;·exact absurd rfl k
     ·exact ζx d m
    have:¬mW p f=true:=λu=>(tY n).1 u g q.1.1 o q.2;simp only[Bool.not_eq_true] at this;simp[this,k]
 rw[h];exact γI λf _=>e f
open Go.Maps Go.RowKit Go.Proofs Go.ChangeShapes
theorem SJ {l:List Int} {n:Nat} {f:Int} (h:f∈d_ l n):0<=f/\f<n:=by grind[d_,ik]
structure vO (O:Value->List Int->Prop) (l:List Int) (n:Nat) (D:DataW Unit) (left:Lit->Bool) (dL:Nat) (hs:List (Int×Value)):Prop where
 d:(hs.map εu).Nodup
 i:∀h∈hs,h.1∈d_ l n/\O h.2 (fV l n (bN l h.1.toNat 0))/\left (.int .i64 (bN l h.1.toNat 0))=false
 a:∀f∈d_ l n,left (.int .i64 (bN l f.toNat 0))=false->∃h∈hs,h.1=f
 c:hs.length+dL<=n
 h:∀kl,left kl=true->θy D kl=true
theorem KU (a b:Int):(Lit.int .i64 a).sameKey (.int .i64 b)=decide (a=b):=by simp[Lit.sameKey]
theorem vO.step {O:Value->List Int->Prop} {l:List Int} {n:Nat} {D:DataW Unit} {e:Lit->Bool} {o:Nat} {x:List (Int×Value)} (h:vO O l n D e o x) {f:Int} {v:Value} (A:f∈d_ l n)
  (I:O v (fV l n (bN l f.toNat 0))) (s:e (.int .i64 (bN l f.toNat 0))=true) {k:Nat} (J:k<o):
  vO O l n D (λz=>e z&&!z.sameKey (.int .i64 (bN l f.toNat 0))) k (x++[(f,v)]):=by
 refine⟨?_,?_,?_,?_,?_⟩
 ·rw[γb,List.nodup_append];refine⟨h.d,by simp,?_⟩;intro a B b u p;simp at u;subst u;subst p;obtain⟨q,E,rfl⟩:=Δ.1 B;rw[(h.i _ E).2.2] at s;cases s
 ·intro y m;rcases γo.1 m with m|m
  ·obtain⟨K,H,G⟩:=h.i y m;simp_all
  grind[KU]
 ·intro g w j;rw[KU] at j;by_cases t:bN l g.toNat 0=bN l f.toNat 0;·exact⟨(f,v),by simp,(SM w A t).symm⟩
  ·rw[decide_eq_false t] at j;simp at j;obtain⟨y,m,F⟩:=h.a g w j;grind
 ·have:=h.c;grind
 ·intro C r;simp only[ζ] at r;exact h.h C r.1
def lD (a:List (Int×Value)) (f:Int):Value:=((a.find? λh=>decide (h.1=f)).map θu).getD (.slice none 0 0)
theorem KT {a:List (Int×Value)} (b:(a.map εu).Nodup) {q:Int×Value} (c:q∈a):lD a q.1=q.2:=by unfold lD;induction a<;>grind
theorem SI {a:List (Int×Value)} (b:(a.map εu).Nodup):(a.map εu).map (lD a)=a.map θu:=by simp_all[KT]
theorem vO.done {O:Value->List Int->Prop} {l:List Int} {n:Nat} {D:DataW Unit} {b:Lit->Bool} {j:Nat} {e:List (Int×Value)} (h:vO O l n D b j e) (m:∀o,b o=false):
  (∀f,f∈e.map εu↔f∈d_ l n)/\(∀f∈d_ l n,O (lD e f) (fV l n (bN l f.toNat 0)))/\((e.map εu).mergeSort λx y=>decide (x<=y))=d_ l n:=by
 have k:∀f,f∈e.map εu↔f∈d_ l n:=λf=>by
  constructor
  ·intro c;obtain⟨q,g,rfl⟩:=Δ.1 c;exact(h.i q g).1
  ·intro c;obtain⟨q,g,rfl⟩:=h.a f c (m _);grind
 refine⟨k,λf c=>?_,SL h.d Ds k⟩;obtain⟨q,g,rfl⟩:=Δ.1 ((k f).2 c);rw[KT h.d g];exact(h.i q g).2.1
theorem SH {H:Type} {w:World} {base:Nat} {e:TypeId} {v:Value} {f l:List Int} {k:Nat} {x:Int} (i:w.ownsInts base e .i64 v f)
  (c:(mL H l k).atKey (.int .i64 x) .nil=rowDatum .i64 v f):f=fV l k x:=by
 rw[B4] at c;rcases i.datum (H:=H) with⟨h1,rfl⟩|h1<;>rw[h1] at c
 ·split at c;·rename_i h;exact h.symm
  ·cases c
 ·split at c;·cases c
  ·injection c with c;have d:∀{a b:List Int},lits (H:=H) .i64 a=lits .i64 b->a=b:=by
    intro a;induction a with
    |nil=>intro b h;cases b with|nil=>rfl|cons y b=>simp[lits] at h
    |cons x a g=>
     intro b h;cases b with
     |nil=>simp[lits] at h;|cons y b=>
      simp[lits] at h g;rw[h.1,g h.2]
   exact(d c).symm
end Go.Vi
namespace Go.Proofs
open Go.RowKit Go.Maps Go.Vi Go.ChangeShapes
theorem Tf:(Tryz.prog.info? 3).map (λi=>(i.zero,i.size,i.bytes))=some (some (.int .i64 0),1,8):=by kernel_rfl
theorem Te:(Tryz.prog.info? 24).map (λi=>(i.zero,i.size,i.bytes))=some (some (.slice none 0 0),1,24):=by kernel_rfl
theorem Td (w:World):(zeroValue 24).run Tryz.prog w= .ok (.slice none 0 0) w:=by kernel_rfl
theorem Dr:Keyed Tryz.prog 3:=int_keyed Tryz.underlying3
open Go.Shelf Go.Sort Go.Lib
theorem Tc (f c:Nat) (b i d g:Nat) (x y:Int) (W:World) (o:0<b) (l:0<d) (n:W.cell? ⟨f,0,none⟩=some (.int .i64 x)) (j:W.cell? ⟨c,0,none⟩=some (.int .i64 y)) (k:0<=x/\x<256) (m:0<=y/\y<256):
  Calls Tryz.prog 51 #[.slice (some ⟨f,0,none⟩) b i,.slice (some ⟨c,0,none⟩) d g] W λe h=>e= .returned (.int .i64 (x - y))/\∃q a,h=grow (W.drewN q) a:=by go_enter Tryz.func51,Tryz.ntmps51;go_wp2;go_quiet (fail);go_wp2;go_ret;exact⟨rfl,nq,#[],by simp_all⟩
theorem Ta {b:Type} [Inhabited b] {enc:b->Value} {w:World} {g:Nat} {a:Array Value} {e:TypeId} {d:Array b} (i:w.heap[g]?=some (.cells a e (0,0))) (h:a.toList.take d.size=d.toList.map enc):Sort.Holds enc w g 0 d:=by
 intro j c;refine⟨?_,by grind[World.frozen?]⟩;have f:(a.toList.take d.size)[j]?=(d.toList.map enc)[j]?:=by rw[h]
 rw[δA c] at f;simp_all[World.cell?]
theorem S_ {w:World} {B:Nat} {v:Value} {x:Int} {d:List Int} (h:w.ownsInts B 3 .i64 v (x::d)):
  ∃(g n cap:Nat),v= .slice (some ⟨g,0,none⟩) n cap/\0<n/\g<w.heap.size/\B<=g/\w.cell? ⟨g,0,none⟩=some (.int .i64 x):=by
 obtain⟨hr,_⟩:=h;have a:=hr;rcases hr.2 with⟨_,e⟩|⟨g,cap,cur,rfl,c,b,k,j,i,f⟩;·simp at e
 ·refine⟨g,_,cap,rfl,by simp,(γB.1 b).1,c,?_⟩;rw[World.ownsRow.cellAt a 0 (by simp)];simp
theorem J6 {d:Type} [Inhabited d] (enc:d->Value) (W:World) (b c n:Nat) (e:Array d) (os:Array Obj) (a:Addr) (f:a.block≠b) (g:a.block<W.heap.size):(sortWorld enc W b c n e os).cell? a=W.cell? a:=by unfold sortWorld;rw[cell?_grow _ _ _ (by simp_all),cell?_putRow_other _ _ b c e _ (Or.inl f)];rfl
theorem S9 {b:Type} [Inhabited b] (enc:b->Value) {w:World} {g n:Nat} {os:Array Obj} {a:Array Value} {e:TypeId} {c:Nat×Nat} (d:Array b) (f:w.heap[g]?=some (.cells a e c)):
  (sortWorld enc w g 0 n d os).heap[g]?=some (.cells (putCells enc 0 d a) e c):=by grind[sortWorld,heap_grow_old,putRow,mapBlock,Sort.ahead,onCells]
theorem S8 {a:Type} [Inhabited a] (enc:a->Value) {w:World} {g n:Nat} {os:Array Obj} (d:Array a):w.grownBy (sortWorld enc w g 0 n d os) (some g):=by unfold sortWorld;refine⟨rfl,rfl,rfl,by simp_all,λk c b=>?_⟩;grind[heap_grow_old,putRow,mapBlock,Sort.ahead]
theorem S7 {b:Type} [Inhabited b] (enc:b->Value) (a:Array Value) (d:Array b) (h:d.size<=a.size):(putCells enc 0 d a).toList.take d.size=d.toList.map enc:=by apply List.ext_getElem?;grind[putCells]
abbrev Hd (l:List Int) (n:Nat):={f:Int //f∈d_ l n}
def oU {l:List Int} {n:Nat} (x y:Hd l n):Int:=x.val - y.val
theorem tW {l:List Int} {n:Nat} (x y:Hd l n):ltOf oU x y=decide (x.val<y.val):=by grind[ltOf,oU]
theorem S6 {l:List Int} {n:Nat}:SWO (ltOf (oU (l:=l) (n:=n))) where
 irrefl x:=by grind[tW]
 trans x y z a b:=by grind[tW]
 ntrans x y z a b:=by grind[tW]
theorem RL {l:List Int} {n:Nat} (c:List (Hd l n)) (m:∀f,f∈c.map εW↔f∈d_ l n) (i:(c.map εW).Nodup):(c.mergeSort λx y=>!ltOf oU y x).map εW=d_ l n:=by
 have e:=δn c λx y=>!ltOf oU y x;have d:=δK (le:=λx y=>!ltOf (oU (l:=l) (n:=n)) y x) (λx y z g o=>by grind[tW]) (λx y=>by grind[tW]) c;have j:(c.mergeSort λx y=>!ltOf oU y x).Pairwise λx y=>x.val<=y.val:=d.imp λ{x y} h=>by grind[tW]
 have g:((c.mergeSort λx y=>!ltOf oU y x).map εW).Pairwise (·<=·):=by grind
 have k:(d_ l n).Perm (c.map εW):=(γ6 (Ds.imp λh=>Int.ne_of_lt h) i).2 λf=>(m f).symm;exact εK (le:=λx y:Int=>x<=y) (λa b _ _ h p=>by omega) g (Ds.imp λh=>γi h) ((e.map _).trans k.symm)
def RK (w':World) (B:Nat) (l:List Int) (n:Nat) (e:Ending):Prop:=
 (e= .returned (.slice none 0 0)/\d_ l n=[])\/∃(g cap:Nat) (cur:Array Value) (sv:Int->Value),e= .returned (.slice (some ⟨g,0,none⟩) (d_ l n).length cap)/\B<=g/\w'.heap[g]?=some (.cells cur 24 (0,0))/\(d_ l n).length<=cap/\cap<=maxLen/\
  cur.size=cap*1/\cur.toList.take (d_ l n).length=(d_ l n).map sv/\∀f∈d_ l n,w'.ownsInts B 3 .i64 (sv f) (fV l n (bN l f.toNat 0))
theorem J5 {P:Program} {e:Array Oper} {c:Oper} {a:Act} {w:World} {K:Act->Prop} (f:TypeId) (x:Operand) (p:Addr) (b:List Value) (d:Array Field) (k:∀j v,b[j]?=some v->w.cell? (p.add j)=some v)
  (o:P.underlying f=some (.struct d)) (r:(P.info? f).map (·.size)=some b.length) (m:c.op= .load f x) (l:a.eval x= .pointer (some p)) (n:Region.wanted c (yielded e a.tmps)=true)
  (h:K (a.put c.dst (.agg b.toArray))):if Region.wanted c (yielded e a.tmps) then c.still P a w K else K (a.put c.dst undef):=by
 have g:(loadVar f p).run P w= .ok (.agg b.toArray) w:=by
  have g:(loadCells p b.length).run P w= .ok b.toArray w:=run_loadCells_list (P:=P) w p b k;cases q:P.info? f with
  |none=>simp_all;|some i=>
   simp_all[isAgg,run_underlying,loadVar,sizeOf,typeInfo]
 rw[if_pos n];unfold Oper.still execOp;simp only[m,l,Instr.loadAt,Instr.sureAddr,Sem.run_bind,Sem.run_pure,Result.andThen_ok,g];exact⟨rfl,h⟩
def J4 (v:Fin 8->Value):Value:=.agg #[v 0,v 1,v 2,v 3,v 4,v 5,v 6,v 7]
theorem cY (q:Addr) (m:Nat):(q.add m).block=q.block:=by grind[Addr.add]
theorem RJ {w:World} {B g n c d:Nat} {e:TypeId} {xs:List Value} (h:w.ownsRow B e d (.slice (some ⟨g,0,none⟩) n c) n xs):B<=g:=by rcases h.2 with⟨b,_⟩|⟨j,a,f,b,i,_⟩<;>simp_all
theorem xW {w:World} {B g n c:Nat} {l:List Int} {j:Nat} (h:w.ownsInts B 3 .i64 (.slice (some ⟨g,0,none⟩) n c) l) (b:l.length=n) (d:j<n):w.cell? ⟨g,j,none⟩=some (.int .i64 (bN l j 0)):=by have a:=h.1;rw[b] at a;rw[World.ownsRow.cellAt a j (by omega)];grind[bN]
theorem RI {w:World} {b f:Nat} {e:TypeId} {a:Nat} {v:Value} {n:Nat} {xs:List Value} (h:w.ownsRow b e a v n xs) (o:f<=b):w.ownsRow f e a v n xs:=by obtain⟨i,l⟩:=h;refine⟨i,l.imp id ?_⟩;rintro⟨g,c,d,m,k,j⟩;exact⟨g,c,d,m,δ5 o k,j⟩
theorem J3 {w b:World} {B g n c S:Nat} {l:List Int} (h:w.ownsInts B 3 .i64 (.slice (some ⟨g,0,none⟩) n c) l) (a:Below S w b) (d:w.heap.size=S):b.ownsInts B 3 .i64 (.slice (some ⟨g,0,none⟩) n c) l:=by subst d;exact World.ownsInts.kept (row:=none) h ⟨a.os,a.tape,a.output,a.size,λk e _=>a.block k e⟩ (.inr (by simp[Value.ownBlock]))
theorem RG {w:World} {B g n a:Nat} {l:List Int} (h:w.ownsInts (B+1) 3 .i64 (.slice (some ⟨g,0,none⟩) n a) l) (c:l.length=n) (b:0<n):B<w.heap.size:=by have:=h.1.lt g (by simp[Value.ownBlock]);omega
def pz (x y:Int) (l:List Int) (i:Nat):List Int:=(l.take i).map (λz=>if z=x then y else z)++l.drop i
theorem Dq {x y:Int} {l:List Int} {i:Nat}:(pz x y l i).length=l.length:=by grind[pz]
theorem RF {x y:Int} {l:List Int} {i:Nat} (h:i<l.length):pz x y l (i+1)=if l[i]=x then(pz x y l i).set i y else pz x y l i:=by
 have a:l.take (i+1)=l.take i++[l[i]]:=γ2 h;have b:l.drop i=l[i]::l.drop (i+1):=List.drop_eq_getElem_cons h;have c:((l.take i).map λz=>if z=x then y else z).length=i:=by simp;omega
 unfold pz;rw[a,γb,γV,b];split<;>simp_all
theorem RE (g n w:Nat) (l:List Int) (F:l.length=n) (N:n<=60) (x y:Int) (E:(Lit.int .i64 y).wf=true) (Q:∀z∈l,(Lit.int .i64 z).wf=true) (W:World) (A:g<W.heap.size)
  (G:∀j (h:j<l.length),W.cell? ⟨g,j,none⟩=some (.int .i64 l[j]))
  (p:Calls Tryz.prog 52 #[.slice (some ⟨g,0,none⟩) n w] W λe f=>∃c a,e= .returned (.slice (some ⟨c,0,none⟩) n a)/\f.ownsInts W.heap.size 3 .i64 (.slice (some ⟨c,0,none⟩) n a) l/\Below W.heap.size W f):
  Calls Tryz.prog 49 #[.slice (some ⟨g,0,none⟩) n w,.int .i64 x,.int .i64 y] W λe f=>∃c a,e= .returned (.slice (some ⟨c,0,none⟩) n a)/\f.ownsInts W.heap.size 3 .i64 (.slice (some ⟨c,0,none⟩) n a) (pz x y l n)/\Below W.heap.size W f:=by
 go_enter Tryz.func49,Tryz.ntmps49;go_wp2_with (go_at_call 52;refine p.mono ?_;rintro e f ⟨c,a,rfl,B,L⟩);go_loopw [14] (λi v=>∃k:Nat,k<=n/\i= .int .i64 k/\v.ownsInts W.heap.size 3 .i64 (.slice (some ⟨c,0,none⟩) n a) (pz x y l k)/\Below W.heap.size W v)
  (λi _=>n - (intOf i).toNat);case atStart=>grind[pz]
 case round=>
  obtain⟨k,O,rfl,q,o⟩:=hrel;by_cases I:k<n
  ·have H:wr.cell? ⟨g,k,none⟩=some (.int .i64 (l[k]'(by omega))):=(o.cell (by exact A)).trans (G k (by omega));have d:=@RF x y l k (by omega);by_cases t:l[k]'(by omega)=x
   ·rw[if_pos t] at d;have b:=q.1;rw[Dq,F] at b;obtain⟨C,K⟩:=b.stored k (.int .i64 y);have D:=b.frozenAt k;have r:=b.cellAt k (by omega);rw[γH,μ (by grind[Dq])] at r;go_wp2;have s:W.heap.size<=c:=by rcases b.2 with⟨M,_⟩|⟨R,u,J,M,P,_⟩<;>simp_all
    refine⟨⟨k+1,by omega,by simp,⟨?_,?_⟩,o.setCell (by exact s) _⟩,by simp[intOf];omega⟩;·simp_all[Dq]
    ·intro z m;rw[d] at m;rcases δk m with m|rfl;·exact q.2 z m
     ·exact E
   ·rw[if_neg t] at d;go_wp2;grind[intOf]
  ·obtain rfl:k=n:=by omega
   go_wp2;go_ret;exact⟨c,a,rfl,q,o⟩
theorem RD (x0 x1 x2 x3 x4 x5 x6 x7 x8 x9 x10 x11 x12 x13 x14 x15 x16 x17 x18:Value) (a:Option Addr) (n cap:Nat) (hn:n<=60) (nm:Nat->List Int) (hnm:∀k,(nm k).length=n) (aZp:nm 0=δ n 0) (hwf:∀k,k<=n->∀x∈nm k,(Lit.int .i64 x).wf=true)
  (nk:Nat->Nat->List Int) (hnk:∀k j,(nk k j).length=n) (hwk:∀k j,k<n->∀x∈nk k j,(Lit.int .i64 x).wf=true) (baQ:∀k,k<n->nk k 0=(nm k).set k (k:Int)) (aZq:∀k,k<n->nk k k=nm (k+1))
  (cn:Nat->Nat->Bool) (aOe:∀k j,k<n->j<k->nk k (j+1)=if cn k j=true then pC (nk k j) (bN (nk k j) j 0) (bN (nk k j) k 0) else nk k j)
  (ov:Nat->Fin 8->Value) (w:World)
  (hoc:∀i,i<n->∃q,a=some q/\q.block<w.heap.size/\∀j:Fin 8,w.cell? ((q.add (i*8)).add j)=some (ov i j))
  (hcon:∀i j,i<n->j<n->∀W,Calls Tryz.prog 48 #[J4 (ov i),J4 (ov j)] W λe w'=>e= .returned (.bool (cn i j))/\Below W.heap.size W w')
  (aZr:∀(W:World) (B g cp:Nat) (l:List Int),l.length=n->W.ownsInts B 3 .i64 (.slice (some ⟨g,0,none⟩) n cp) l->∀x y,(Lit.int .i64 y).wf=true->Calls Tryz.prog 49 #[.slice (some ⟨g,0,none⟩) n cp,.int .i64 x,.int .i64 y] W λe w'=>
   ∃g2 cp2,e= .returned (.slice (some ⟨g2,0,none⟩) n cp2)/\w'.ownsInts W.heap.size 3 .i64 (.slice (some ⟨g2,0,none⟩) n cp2) (pC l x y)/\Below W.heap.size W w'):
  Calls Tryz.prog 29 #[.agg #[x0,x1,x2,x3,x4,x5,x6,x7,x8,x9,x10,x11,x12,x13,x14,x15,x16,x17,x18,.slice a n cap]] w λe w'=>∃B,w.heap.size<=B/\RK w' B (nm n) n e/\Below w.heap.size w w':=by
 have hmm:=@run_makeMap Tryz.prog;obtain⟨i0,hi,hz0,hz1,hz2⟩:=info_parts Tf;go_enter Tryz.func29,Tryz.ntmps29;go_wp2_with (first
  |(at_make;refine wpList_make_full _ rfl _ _ 24 rfl (w.heap.size+1) 3 i0 (.int .i64 0) 1 Tryz.underlying24 hi hz0 hz1 .i64 .i64 _ _ n rfl rfl rfl rfl (by rw[hz2];omega) (by unfold maxLen;omega) (by simp) ?_;intro w0 hown0 aOf);|go_in);go_loopw [18,3] (λi v wr=>∃(k:Nat) (g:Nat) (cp:Nat),k<=n/\i= .int .i64 k/\v= .slice (some ⟨g,0,none⟩) n cp/\wr.ownsInts (w.heap.size+1) 3 .i64 v (nm k)/\wr.cell? ⟨w.heap.size,19,none⟩=some (.slice a n cap)/\Below w.heap.size w wr)
  (λi _ _=>n - (intOf i).toNat);case atStart=>
  refine⟨0,w.heap.size+1,n,by omega,rfl,rfl,⟨?_,λz hz=>hwf 0 (δ8 _) z hz⟩,?_,((Below.refl _ w).alloc (π _) _).grown aOf (by simp) (by simp_all)⟩;rotate_left
  ·refine(World.cell?_of_block (aOf.block w.heap.size (by simp) (by simp_all))).trans ?_;simp_all
  rw[hnm 0,aZp];have e1:(madeCells (Value.int IntKind.i64 0).cells (n*1)).toList=(δ n (0:Int)).map (Value.int .i64):=by rw[Nat.mul_one,List.map_replicate];exact toList_madeCells_one _ _
  simp_all
 case round=>
  obtain⟨k,g,cp,hk,rfl,rfl,hown,aOg,hnx⟩:=hrel;by_cases hlt:k<n
  ·obtain⟨q,rfl,hqb,_⟩:=hoc k hlt;have asG:=hown.1;rw[hnm k] at asG;obtain⟨hs1,hs2⟩:=asG.stored k (.int .i64 k);have hfr:=asG.frozenAt k;have hce:=asG.cellAt k (by omega);rw[γH,μ (by simp_all)] at hce;go_wp2;have hgb:w.heap.size+1<=g:=RJ asG;have hX:(wr.setCell ⟨g,k,none⟩ (.int .i64 k)).ownsInts (w.heap.size+1) 3 .i64 (.slice (some ⟨g,0,none⟩) n cp) (nk k 0):=by refine⟨?_,hwk k 0 hlt⟩;simp_all
   have hY:(wr.setCell ⟨g,k,none⟩ (.int .i64 k)).cell? ⟨w.heap.size,19,none⟩=some (.slice (some q) n cap):=by rw[<-aOg];exact World.cell?_of_block (Below.heap_setCell _ _ _ _ (by simp;omega))
   have hZ:Below w.heap.size w (wr.setCell ⟨g,k,none⟩ (.int .i64 k)):=hnx.setCell (by simp;omega) _;clear hs1 hs2 hfr hce hown aOg hnx asG;generalize wr.setCell ⟨g,k,none⟩ (.int .i64 k)=wa at*;go_loopw [26,3] (λi v ws=>∃(j:Nat) (g:Nat) (cp:Nat),j<=k/\i= .int .i64 j/\v= .slice (some ⟨g,0,none⟩) n cp/\ws.ownsInts (w.heap.size+1) 3 .i64 v (nk k j)/\ws.cell? ⟨w.heap.size,19,none⟩=some (.slice (some q) n cap)/\Below w.heap.size w ws)
    (λi _ _=>k - (intOf i).toNat);case atStart=>exact⟨0,g,cp,δ8 _,rfl,rfl,hX,hY,hZ⟩
   case round=>
    obtain⟨j,g2,cp2,hj,rfl,rfl,ho2,hp2,hb2⟩:=hrel;by_cases hjk:j<k
    ·have hcs:∀i,i<n->∀m u,[ov i 0,ov i 1,ov i 2,ov i 3,ov i 4,ov i 5,ov i 6,ov i 7][m]?=some u->wr.cell? ((q.add (i*8)).add m)=some u:=by
      intro i hi m u hu;obtain⟨q',e,_,c⟩:=hoc i hi;injection e with e;subst e;have c0:∀m:Fin 8,wr.cell? ((q.add (i*8)).add m)=some (ov i m):=λm=>(hb2.cell (by simp_all[cY])).trans (c m);match m,hu with
      |0,hu=>cases hu;exact c0 0;|1,hu=>cases hu;exact c0 1;|2,hu=>cases hu;exact c0 2;|3,hu=>cases hu;exact c0 3;|4,hu=>cases hu;exact c0 4;|5,hu=>cases hu;exact c0 5;|6,hu=>cases hu;exact c0 6;|7,hu=>cases hu;exact c0 7;|m+8,hu=>simp at hu
     have hjn:j<n:=by omega
     have baS:(j:Int)<(n:Int):=by omega
     have hln:=hnk k j;have hoj:wr.cell? ⟨g2,j,none⟩=some (.int .i64 (bN (nk k j) j 0)):=xW ho2 hln (by omega);have hok:wr.cell? ⟨g2,k,none⟩=some (.int .i64 (bN (nk k j) k 0)):=xW ho2 hln (by omega);have hwy:(Lit.int .i64 (bN (nk k j) k 0)).wf=true:=hwk k j hlt _ (by simp[bN,show k<(nk k j).length by omega]);go_wp2;refine wp_region_still_tail 10 (by kernel_rfl) (by kernel_rfl) ?_;simp only[δv,εy,εF,εx];still_step;still_step;still_step;still_step;refine wpStill_step (λK hK=>?_);refine J5 65 (.tmp 32) (q.add (k*8)) _ _ (hcs k hlt) Tryz.underlying65 (by kernel_rfl) rfl rfl (by rfl) ?_;simp only[Act.put,ζi,εe,ζn];refine hK _ ?_;clear hK K;still_step;still_step;still_step;still_step;refine wpStill_step (λK hK=>?_);refine J5 65 (.tmp 37) (q.add (j*8)) _ _ (hcs j (by omega)) Tryz.underlying65 (by kernel_rfl) rfl rfl (by rfl) ?_;simp only[Act.put,ζi,εe,ζn];refine hK _ ?_;clear hK K;refine wpStill_nil ?_;change wpList _ _ _ _ _ wr.drew;have hbd:Below wr.heap.size wr wr.drew:=(Below.refl _ _).drew;have hsd:wr.drew.heap.size=wr.heap.size:=rfl;have ho3:wr.drew.ownsInts (w.heap.size+1) 3 .i64 (.slice (some ⟨g2,0,none⟩) n cp2) (nk k j):=ho2;have hp3:wr.drew.cell? ⟨w.heap.size,19,none⟩=some (.slice (some q) n cap):=hp2;have hb3:Below w.heap.size w wr.drew:=hb2.drew;have hwz:w.heap.size<wr.heap.size:=RG ho2 hln (by omega);clear hoj hok ho2 hp2 hb2 hcs;generalize wr.drew=wd at*;have hc1:=hcon k j hlt hjn wd;rw[hsd] at hc1;cases hcj:cn k j with
     |false=>
      go_wp2_with (go_at_call 48;refine hc1.mono ?_;rintro e w' ⟨rfl,hb4⟩);have hkS:=aOe k j hlt hjk;rw[hcj,if_neg (by simp)] at hkS;refine⟨⟨j+1,g2,cp2,by omega,by go_num,rfl,?_,?_,?_⟩,by simp[intOf];omega⟩
      ·rw[hkS];exact J3 ho3 hb4 (by rw[hsd])
      ·rw[<-hp3];exact hb4.cell (by show w.heap.size<_;omega)
      ·exact hb3.trans (hb4.mono (by omega));|true=>
      go_wp2_with (go_at_call 48;refine hc1.mono ?_;rintro e w' ⟨rfl,hb4⟩);have hkS:=aOe k j hlt hjk;rw[hcj,if_pos rfl] at hkS;have ho4:=J3 ho3 hb4 (by rw[hsd]);have hp4:w'.cell? ⟨w.heap.size,19,none⟩=some (.slice (some q) n cap):=by rw[<-hp3];exact hb4.cell (by show w.heap.size<_;omega)
      have hb5:=hb3.trans (hb4.mono (show w.heap.size<=wr.heap.size by omega));have baT:w.heap.size<w'.heap.size:=γw hwz (by rw[<-hsd];exact hb4.size);have hoj:w'.cell? ⟨g2,j,none⟩=some (.int .i64 (bN (nk k j) j 0)):=xW ho4 hln (by omega);have hok:w'.cell? ⟨g2,k,none⟩=some (.int .i64 (bN (nk k j) k 0)):=xW ho4 hln (by omega);clear ho3 hp3 hb3 hb4 hc1 hsd;refine wp_region_still_tail 9 (by kernel_rfl) (by kernel_rfl) ?_;simp only[δv,εy,εF,εx];still_step;still_step;still_step;still_step;still_step;still_step;still_step;still_step;still_step;refine wpStill_nil ?_;change wpList _ _ _ _ _ w'.drew;have ho5:w'.drew.ownsInts (w.heap.size+1) 3 .i64 (.slice (some ⟨g2,0,none⟩) n cp2) (nk k j):=ho4;have hp5:w'.drew.cell? ⟨w.heap.size,19,none⟩=some (.slice (some q) n cap):=hp4;have hb6:Below w.heap.size w w'.drew:=hb5.drew;have hsd:w'.drew.heap.size=w'.heap.size:=rfl;clear hoj hok ho4 hp4 hb5;generalize w'.drew=wd2 at*;have hc2:=aZr wd2 _ g2 cp2 (nk k j) hln ho5 (bN (nk k j) j 0) (bN (nk k j) k 0) hwy;go_wp2_with (go_at_call 49;refine hc2.mono ?_;rintro e w'' ⟨g3,cp3,rfl,ho6,hb7⟩);rw[<-hkS] at ho6;refine⟨⟨j+1,g3,cp3,by omega,by go_num,rfl,⟨RI ho6.1 (by omega),ho6.2⟩,?_,?_⟩,by simp[intOf];omega⟩
      ·rw[<-hp5];exact hb7.cell (by show w.heap.size<_;omega)
      ·exact hb6.trans (hb7.mono (by omega))
    ·obtain rfl:j=k:=by omega
     go_wp2;refine⟨⟨j+1,g2,cp2,by omega,by go_num,rfl,by rw[<-aZq j hlt];exact ho2,hp2,hb2⟩,by simp[intOf];omega⟩
  ·obtain rfl:k=n:=by omega
   have hln:=hnm k;have hcl:∀j,j<k->wr.cell? ⟨g,j,none⟩=some (.int .i64 (bN (nm k) j 0)):=by intro j hj;have h1:=hown.1;rw[hln] at h1;rw[World.ownsRow.cellAt h1 j (by omega)];simp[bN,show j<(nm k).length by omega]
   have hg:g<wr.heap.size:=by
    rcases hown.1.2 with⟨h0,_⟩|⟨g3,baU,cur,h0,_,hgg,_⟩;·cases h0
    ·injection h0 with h0;injection h0 with h0;injection h0 with h0;subst h0;exact(γB.1 hgg).1
   generalize hnl:nm k=l at*;generalize wr=w1 at*;go_wp2;go_loopw [55] (λi ws=>∃j:Nat,j<=k/\i= .int .i64 j/\ws.ownsGroups Tryz.prog 3 (w1.heap.size+1) 3 .i64 w1.heap.size j (mL Unit l j)/\Below w1.heap.size w1 ws/\w1.heap.size+1<=ws.heap.size)
    (λi _=>k - (intOf i).toNat);case atStart=>exact⟨0,δ8 _,rfl,World.ownsGroups_made _ _ _ _ _,(Below.refl _ _).alloc (π _) _,by simp⟩
   case round=>
    obtain⟨j,hj,rfl,hgr,hbl,hws⟩:=hrel;have hcx:j<k->wr.cell? ⟨g,j,none⟩=some (.int .i64 (bN l j 0)):=λh=>(hbl.cell (by exact hg)).trans (hcl j h);have hkey:j<k->keyOf Tryz.prog 3 (.int .i64 (bN l j 0))=some (.int .i64 (bN l j 0)):=λh=>keyOf_int_mk Tryz.underlying3 (hwf k (π _) _ (by rw[hnl];simp[bN,show j<l.length by omega]));by_cases hjk:j<k
    ·replace hcx:=hcx hjk;replace hkey:=hkey hjk;go_wp2_with (first
      |(at_lookup;refine wpList_lookup_groups _ rfl _ _ 94 rfl 3 24 3 .i64 Dr Tryz.underlying94 (Td _) (w1.heap.size+1) w1.heap.size j _ rfl hgr (by unfold maxLen;omega) _ _ rfl hkey ?_;intro v zs hat hoi hzl hback);|(at_builtin;refine wpList_append_own_at _ rfl _ _ 24 rfl (w1.heap.size+1) 3 i0 (.int .i64 0) 1 8 Tryz.underlying24 hi hz0 hz1 hz2 rfl (by decide) _ _ _ rfl (hoi.1.alloc _) ⟨wr.heap.size,0,none⟩ 1 1 [.int .i64 j] rfl rfl (cell_one_new _ _ _) (ints_oneCell .i64 [(j:Int)]) (by unfold maxLen;omega) (by omega) (by simp;omega) ?_;intro v' w2 hown' hgrow hnil hloc);|(at_mapUpdate;refine wpList_mapUpdate_back _ rfl _ _ _ 94 rfl hback rfl rfl rfl ((World.grownBy_alloc _ _ _).trans hgrow) (hoi.appended hown' (WalkArith.wf_i64 (by omega))) (by simp;omega) (hloc.imp id (λh=>⟨_,h,by simp⟩)) ?_;intro w3 hown3 hgrow3);|go_in);have hall:=(World.grownBy_alloc wr _ _).trans hgrow;go_roundw;case rel=>
      refine⟨j+1,by omega,by go_num,?_,hbl.groups hoi hall hgrow3 hbl.size (Nat.le_succ _) (π _),δ5 hws (δ5 hall.size hgrow3.size)⟩;have hz:=SP hoi hat;rw[mL,<-hz,<-(hoi.appended hown' (WalkArith.wf_i64 (by omega))).datum_pos (by simp)];exact hown3
     case measure=>simp[intOf];omega
    ·obtain rfl:j=k:=by omega
     have hmap:wr.ownsMap Tryz.prog 3 (rowElem wr (w1.heap.size+1) 3 .i64) w1.heap.size j (mL Unit l j):=by obtain⟨es,ck,h1,h2,h3,h4,h5,h6,h7⟩:=hgr;exact⟨es,ck,h1,h2,h3,h4⟩
     generalize wr=w4 at*;go_wp2_with (first
      |(at_range;refine wpList_range_own _ rfl _ 94 rfl 3 24 Dr Tryz.underlying94 _ w1.heap.size j _ rfl hmap ?_;intro w5 hrg0 hg0 hs0);|go_in);go_frame;go_loopw [9] (λu ws=>∃(left:Lit->Bool) (dL:Nat) (hs:List (Int×Value)),ws.ranges Tryz.prog 3 (rowElem w4 (w1.heap.size+1) 3 .i64) w1.heap.size w4.heap.size j (mL Unit l j) left dL/\
       ws.ownsRow (w4.heap.size+1) 24 1 u hs.length (hs.map θu)/\vO (λv zs=>w4.ownsInts (w1.heap.size+1) 3 .i64 v zs) l j (mL Unit l j) left dL hs/\
       w4.heap.size+1<=ws.heap.size/\Below w4.heap.size w4 ws)
      (λ_ ws=>ws.rangeLeft w1.heap.size w4.heap.size);case atStart=>
      refine⟨θy (mL Unit l j),Go.Maps.size (mL Unit l j),[],hrg0,⟨by simp,.inl ⟨rfl,rfl⟩⟩,⟨List.nodup_nil,by simp,?_,?_,λ_ h=>h⟩,by omega,(Below.refl _ w4).grown hg0 (π _) (by intro k hk;cases hk)⟩
      ·intro f hf hl;rw[KW] at hl;have h2:=Cy.1 hf;simp at hl;rw[hl] at h2;cases h2
      ·have:=hmap.size_le;simp;omega
     case round=>
      obtain⟨left,dL,hs,hrg,hrow,hse,hsz,hbe⟩:=hrel;go_wp2_with (first
       |(at_next;refine wpList_next_ranges _ rfl _ rfl 3 Dr (rowElem w4 (w1.heap.size+1) 3 .i64) (Value.int .i64) (λc:Option Addr×Nat×Nat=>Value.slice c.1 c.2.1 c.2.2) (λkey kl hkey=>by obtain⟨x,rfl,_⟩:=Maps.keyOf_int_inv Tryz.underlying3 hkey;exact⟨x,rfl⟩) (λv y hv=>by
        obtain⟨zs,ho,_⟩:=rowElem_inv hv;obtain⟨_,h|⟨g,cp,_,h,_⟩⟩:=ho.1;·exact⟨(none,0,0),h.1⟩
        ·exact⟨(some ⟨g,0,none⟩,zs.length,cp),h⟩) w1.heap.size w4.heap.size j _ _ _ rfl hrg ?_ ?_);|go_in)
      ·intro hc0 hl0;have eg:∀args w,(callFunc 51 args).run Tryz.prog w= .ok (.enter 51 args) w:=enters_of Tryz.func51 (by kernel_rfl) rfl;obtain⟨hmem,hO,hsrt⟩:=hse.done hl0;have hhs:hs.length<=60:=by have:=hse.c;omega
       rcases hrow.2 with⟨rfl,hn0⟩|⟨g2,cap2,cur,rfl,hgb,hgg,q1,q2,q3,q4⟩
       ·have ams:=AnyF.slices_SortFunc_none {Tryz.uA with} none 0 (.func (.func 51) #[] #[]) wr;change Calls Tryz.prog 50 _ _ _ at ams;go_wp2_with (go_at_call 50;refine ams.mono ?_;rintro e w' ⟨rfl,rfl⟩);go_ret;refine⟨w1.heap.size+1,ζH hnx.size,.inl ⟨rfl,?_⟩,hnx.trans ((hbl.trans (hbe.mono (by omega))).mono hnx.size)⟩;rw[hnl,δ6];intro f hf;have hf2:=(hmem f).2 hf;rw[ψ hn0] at hf2;cases hf2
       ·by_cases hne:hs=[]
        ·subst hne;have ams:=AnyF.slices_SortFunc_none {Tryz.uA with} (some ⟨g2,0,none⟩) cap2 (.func (.func 51) #[] #[]) wr;change Calls Tryz.prog 50 _ _ _ at ams;go_wp2_with (go_at_call 50;refine ams.mono ?_;rintro e w' ⟨rfl,rfl⟩);go_ret;have h0:d_ l j=[]:=by rw[δ6];intro f hf;have hf2:=(hmem f).2 hf;cases hf2
         refine⟨w1.heap.size+1,ζH hnx.size,?_,hnx.trans ((hbl.trans (hbe.mono (by omega))).mono hnx.size)⟩;rw[hnl];refine .inr ⟨g2,cap2,cur,lD [],by rw[h0];rfl,by omega,hgg,by rw[h0];simp,q2,q3,by rw[h0];simp,λf hf=>?_⟩;rw[h0] at hf;cases hf
        have hhd:∀x:Hd l j,∃(g n cap:Nat),lD hs x.val= .slice (some ⟨g,0,none⟩) n cap/\0<n/\g<w4.heap.size/\w1.heap.size+1<=g/\w4.cell? ⟨g,0,none⟩=some (.int .i64 x.val):=λx=>by
         have h1:=hO x.val x.property;have h2:=Cy.1 x.property;cases hc:fV l j (bN l x.val.toNat 0) with
         |nil=>rw[hc] at h2;cases h2;|cons y tl=>
          rw[hc] at h1 h2;injection h2 with h2;subst h2;exact S_ h1
        have hbd:∀x:Hd l j,0<=x.val/\x.val<256:=λx=>by have:=SJ x.property;omega
        have aZx:((hs.map εu).attachWith (·∈d_ l j) (λf hf=>(hmem f).1 hf)).map (λx:Hd l j=>lD hs x.val)=hs.map θu:=by have:(λx:Hd l j=>lD hs x.val)=(lD hs)∘εW:=rfl;rw[this,<-γO,εX];exact SI hse.d
        obtain⟨q0,hq0⟩:=List.exists_mem_of_ne_nil _ hne;haveI:Inhabited (Hd l j):=⟨⟨q0.1,(hse.i q0 hq0).1⟩⟩;have ams:=Any.slices_SortFunc_total Tryz.uA (λx:Hd l j=>lD hs x.val) (λx=>by obtain⟨g,n,cap,e,_⟩:=hhd x;show(lD hs x.val).oneCell'=true;rw[e];rfl) oU S6 51 #[] g2 0 cap2 ((hs.map εu).attachWith (·∈d_ l j) (λf hf=>(hmem f).1 hf)).toArray wr eg
         (λm os dk hdk x y=>by
          obtain⟨ga,na,ca,ea,la,ba,da,fa⟩:=hhd x;obtain⟨gb,nb,cb,eb,lb,bb,db,fb⟩:=hhd y;simp only[ea,eb];have baV:=hbe.size;exact Tc ga gb na ca nb cb x.val y.val _ la lb (by rw[J6 _ _ _ _ _ _ _ _ (by show ga≠g2;omega) (by show ga<_;omega),hbe.cell (by exact ba)];exact fa)
           (by rw[J6 _ _ _ _ _ _ _ _ (by show gb≠g2;omega) (by show gb<_;omega),hbe.cell (by exact bb)];exact fb) (hbd x) (hbd y)) (Ta hgg (by simp only[θl,εS,Φ];rw[show hs.length=hs.length*1 by omega,q4];exact aZx.symm)) (γB.1 hgg).1 (by simp;omega) (λx y h1 h2=>by rw[tW] at h1 h2;simp at h1 h2;exact Subtype.ext (by omega));change Calls Tryz.prog 50 _ _ _ at ams;simp only[θl,εS,Φ] at ams;go_wp2_with (go_at_call 50;refine ams.mono ?_;rintro e w' ⟨rfl,N,os,rfl⟩);go_ret;have aOj:((hs.map εu).attachWith (·∈d_ l j) (λf hf=>(hmem f).1 hf)).map εW=hs.map εu:=εX _;have hT:=RL ((hs.map εu).attachWith (·∈d_ l j) (λf hf=>(hmem f).1 hf)) (by rw[aOj];exact hmem) (by rw[aOj];exact hse.d);have hpl:=(δn ((hs.map εu).attachWith (·∈d_ l j) (λf hf=>(hmem f).1 hf)) λx y=>!ltOf oU y x).length_eq;generalize (((hs.map εu).attachWith (·∈d_ l j) (λf hf=>(hmem f).1 hf)).mergeSort λx y=>!ltOf oU y x)=ts at hT hpl ⊢;simp only[εS,Φ] at hpl;have hdl:(d_ l j).length=hs.length:=by rw[<-hT,Φ,hpl]
        have hbs:=hbe.size;have hb':=hbe.grown (S8 (λx:Hd l j=>lD hs x.val) (n:=N) (os:=os) (g:=g2) ts.toArray) hbe.size (by intro k hk;injection hk with hk;omega);refine⟨w1.heap.size+1,ζH hnx.size,?_,hnx.trans ((hbl.trans (hb'.mono (by omega))).mono hnx.size)⟩;rw[hnl];have htk:=S7 (λx:Hd l j=>lD hs x.val) cur ts.toArray (by simp;omega);refine .inr ⟨g2,cap2,_,lD hs,by rw[hdl];rfl,by omega,S9 _ _ hgg,by omega,q2,by simp[putCells,q3],?_,λf hf=>?_⟩
        ·rw[hdl,<-hpl];refine Eq.trans ?_ (congrArg (γd (lD hs)) hT);rw[γO];simpa using htk
        ·refine World.ownsInts.kept (row:=none) (hO f hf) ⟨hb'.os,hb'.tape,hb'.output,hb'.size,λk hk _=>hb'.block k hk⟩ ?_;obtain⟨g,n,cap,e,_⟩:=hhd ⟨f,hf⟩;right;rw[show lD hs f=_ from e];simp[Value.ownBlock]
      ·intro x ca cn cc kl y yy w6 cnt1 hkx hlx hRc hat hrg1 hlt hg1 hs1 hen;obtain⟨_,e1,rfl,hwx⟩:=Maps.keyOf_int_inv Tryz.underlying3 hkx;cases e1;obtain⟨zs,hoc,hyy⟩:=rowElem_inv hRc;cases hyy;obtain⟨i1,hi1,hy0,hy1,hy2⟩:=info_parts Te;have h1c:∀v∈[Value.slice ca cn cc],v.oneCell'=true:=by intro v hv;rw[List.mem_singleton] at hv;subst hv;rfl
       have hkl:=hse.h _ hlx;rw[KW] at hkl;obtain⟨f,tl,hft,hfh,hfx⟩:=SN (of_decide_eq_true hkl);have asG:=hrow.kept hg1 (by
        rcases hrow.2 with⟨rfl,_⟩|⟨g,cap,cur,rfl,hgb,_⟩;·exact .inl rfl
        ·right;simp[Value.ownBlock];omega);have hcc:=hse.c;have hhs:hs.length<=60:=by omega
       have aZB:Below w4.heap.size w4 w6:=hbe.grown hg1 hbe.size (by intro k hk;injection hk with hk;omega);go_wp2_with (first
        |(at_builtin;refine wpList_append_own _ rfl _ _ 30 rfl (w4.heap.size+1) 24 i1 (.slice none 0 0) 1 24 Tryz.underlying30 hi1 hy0 hy1 hy2 rfl (by decide) _ _ _ rfl (asG.alloc _) ⟨wr.heap.size,0,none⟩ 1 1 [Value.slice ca cn cc] rfl rfl (by rw[<-hs1];exact cell_one_new _ _ _) h1c (by unfold maxLen;omega) (by omega) (by simp;omega) ?_;intro v' w7 aZC aZD baW);|go_in);have hg7:(w6.alloc (Obj.cells #[Value.slice ca cn cc] 24)).grownBy w7 u9.ownBlock:=aZD;have hzs:zs=fV l j x:=SH hoc (hat .nil);have hO:w4.ownsInts (w1.heap.size+1) 3 .i64 (Value.slice ca cn cc) (fV l j (bN l f.toNat 0)):=by rw[hfx,<-hzs];exact hoc
       have hrw:some w1.heap.size≠u9.ownBlock/\some w4.heap.size≠u9.ownBlock:=by
        rcases hrow.2 with⟨rfl,_⟩|⟨g,cap,cur,rfl,hgb,_⟩;·exact⟨by simp[Value.ownBlock],by simp[Value.ownBlock]⟩
        ·exact⟨by simp[Value.ownBlock];omega,by simp[Value.ownBlock];omega⟩
       have aOk:=(hrg1.alloc (Obj.cells #[Value.slice ca cn cc] 24)).kept hg7 hrw.1 hrw.2;have baX:=hg7.size;have hsa:(w6.alloc (Obj.cells #[Value.slice ca cn cc] 24)).heap.size=w6.heap.size+1:=by simp
       have hbs:=hbe.size;subst hfx;refine⟨⟨_,cnt1,hs++[(f,.slice ca cn cc)],aOk,?_,hse.step hfh hO hlx hlt,by omega,(aZB.alloc (by omega) _).grown hg7 (by omega) ?_⟩,?_⟩
       ·rw[γF,γb];exact aZC
       ·intro k hk;rcases hrow.2 with⟨rfl,_⟩|⟨g,cap,cur,rfl,hgb,_⟩;·cases hk
        ·simp[Value.ownBlock] at hk;omega
       ·rw[aOk.left_eq,hrg.left_eq];exact hlt
end Go.Proofs
namespace Go.Vi
open Go.Proofs.YtbnhiekmnpikhaaGreat.Ir
open Go.Proofs
theorem R8 {a b:bA} (d:a.bx.ok=true) (c:b.bx.ok=true):eM a b=true↔a.Gz=b.Gz\/¬((a.bx.meet b.bx).a0=0/\(a.bx.meet b.bx).a1=0/\(a.bx.meet b.bx).a2=0/\(a.bx.meet b.bx).a3=0/\(a.bx.meet b.bx).a4=0/\(a.bx.meet b.bx).a5=0):=by have d:=oz.fA.1 d;have c:=oz.fA.1 c;simp only[eM,List.any_cons,List.any_nil,δd,ζ,decide_eq_true_eq,Bool.false_eq_true,or_false];simp only[oz.at,CV,CU,oz.meet];omega
def Dp:NG:=⟨48,bA×bA,.cons (dg .bu) (.one (dg .bu)),λa=>a.1.bx.ok=true/\a.2.bx.ok=true,λa=> .sb (eM a.1 a.2)⟩
theorem Ii:d' Dp:=by refine bI (L:=[yv]) Dp (λ_=>λ_=> .look) (by grind[uI]) ?_;rintro⟨a,b⟩ ⟨e,f⟩;simp only at e f;refine NI (let e:=(0:Int);let d:=decide (a.Gz=b.Gz);let c:=a.bx.meet b.bx;(d=true->(δb true).bi (γA (eM a b)))/\(d=false->True/\(γA !(decide (c.a0=e)&&(decide (c.a1=e)&&(decide (c.a2=e)&&(decide (c.a3=e)&&(decide (c.a4=e)&&(decide (c.a5=e)&&true))))))).bi (γA (eM a b)))) (by kernel_rfl) ?_;simp only[vcs];grind[R8]
def xb (p:ew) (i:Nat) (j:Fin 8):Value:=bN (cD .bu (oI p i)) j .nilFunc
theorem J2 {W:World} (o:bA):nA jX W [] [] ((dg .bu).put o).g (.agg (cD .bu o).toArray):=by show nA jX W [] [] (.agg ((cD .bu o).map .sc)) _;simp only[nA];exact⟨_,rfl,by simpa using uc jX W [] [] (cD .bu o) (by simp[cD,iv,Value.oneCell'])⟩
theorem R7 {a b:bA} (h1:a.bx.ok=true) (g:b.bx.ok=true) (W:World):Calls Tryz.prog 48 #[.agg (cD .bu a).toArray,.agg (cD .bu b).toArray] W λe w'=>e= .returned (.bool (eM a b))/\RowKit.Below W.heap.size W w':=by
 have d:d' Dp:=by exact Ii
 refine((d (a,b) ⟨h1,g⟩).2 jX W [] [.agg (cD .bu a).toArray,.agg (cD .bu b).toArray] (yn W (λb f=>f.elim)) ⟨_,_,rfl,J2 a,_,_,rfl,J2 b,rfl⟩).mono ?_;rintro e h ⟨u,σ',rfl,_,hu,c⟩;have hu:nA jX h σ' [] (.sc (.bool (eM a b))) u:=hu;simp only[nA] at hu;exact⟨by rw[hu.1],N_ c⟩
theorem R6 {l:List Int} {x y:Int}:pz x y l l.length=pC l x y:=by simp[pz,pC]
theorem R5 {n:Nat} (v:n<=60) (W:World) (B g d:Nat) (l:List Int) (i:l.length=n) (k:W.ownsInts B 3 .i64 (.slice (some ⟨g,0,none⟩) n d) l) (x y:Int) (t:(Lit.int .i64 y).wf=true):
  Calls Tryz.prog 49 #[.slice (some ⟨g,0,none⟩) n d,.int .i64 x,.int .i64 y] W λe o=>
   ∃m a,e= .returned (.slice (some ⟨m,0,none⟩) n a)/\o.ownsInts W.heap.size 3 .i64 (.slice (some ⟨m,0,none⟩) n a) (pC l x y)/\RowKit.Below W.heap.size W o:=by
 have s:∀j (h:j<l.length),W.cell? ⟨g,j,none⟩=some (.int .i64 l[j]):=λj h=>by rw[xW k i (by omega)];grind[bN]
 have z:=RE g n d l i v x y t k.2 W (by have:=k.1.lt g (by simp[Value.ownBlock]);omega) s (by
  have p:Calls Tryz.prog 52 #[.slice (some ⟨g,0,none⟩) n d] W _:=NC Tryz.uB Tryz.t3 (.int .i64 0) 1 8 (by kernel_rfl) (by kernel_rfl) (by kernel_rfl) (by kernel_rfl) (by kernel_rfl) (by omega) Tryz.sizeOf3 ⟨g,0,none⟩ n d (l.map (Value.int .i64)) W (by simp[i]) (by grind[maxLen]) (by omega) (λj u w=>by grind[Addr.add_lit]) (by simp[Value.oneCell']);refine p.mono ?_;rintro e o ⟨A,rfl,b,q,f⟩;have c:=b;rcases c.2 with h|⟨m,a,r,rfl,_⟩;·simp_all
  ·exact⟨m,a,rfl,⟨by rw[i];exact b,k.2⟩,f⟩);grind[R6]
theorem xV {p:ew} {i:Nat} {l:List Int}:∀{k:Nat},(lE p i l k).length=l.length
 |0=>rfl
 |k+1=>by
  unfold lE;split;·rw[KL];exact xV
  ·exact xV
theorem Cx {p:ew}:∀{k:Nat},(l8 p k).length=p.bj.length
 |0=>γD
 |k+1=>by show(lE p k _ k).length=_;rw[xV,γm];exact Cx
theorem xU {p:ew} {i:Nat} {l:List Int} {B:Int} (b:i<l.length) (h:∀x∈l,0<=x/\x<=B):∀{k:Nat},∀x∈lE p i l k,0<=x/\x<=B
 |0=>h
 |k+1=>by
  intro x a;unfold lE at a;split at a
  ·unfold pC at a;obtain⟨y,c,rfl⟩:=Δ.1 a;split
   ·refine xU (p:=p) b h (k:=k) _ ?_;grind[xV,bR]
   ·exact xU b h (k:=k) y c
  ·exact xU b h (k:=k) x a
theorem Do {p:ew}:∀{k:Nat},k<=p.bj.length->∀x∈l8 p k,0<=x/\x<=p.bj.length
 |0,_=>λx a=>by
  have:=List.eq_of_mem_replicate a;omega;|k+1,b=>by
  refine xU (by grind[Cx]) λx a=>?_;rcases δk a with a|rfl;·exact Do (by omega) x a
  ·omega
theorem R4 {A:c_} {w:World} {B:Nat} {v:Value} {l:List Int} (e:w.ownsInts B 3 .i64 v l) (u:∀b,A b->b<B):nA A w [] [] (.sl l.length (l.map λx=>AV.sc (.int .i64 x))) v:=by
 have m:cJ (l.map λx=>AV.sc (.int .i64 x))=true:=by rw[<-lO];grind[nV]
 have d:=e.1;rcases e.1.2 with⟨rfl,y⟩|⟨g,k,o,rfl,q,p,h,r,s,t⟩;·grind[nA,cF]
 ·simp only[nA];refine⟨_,_,rfl,h,m,cF.kC _ _ _ λi c a=>?_⟩;rw[γH] at a;obtain⟨x,f,rfl⟩:=ε.1 a;have n:=(θ.1 f).1;refine⟨⟨g,0,none⟩,.int .i64 x,rfl,⟨λ⟨i,c,a⟩=>by simp at a,λj=>by grind⟩,?_,by simp[nA,Value.oneCell']⟩;rw[Addr.add_lit,εf,εf,World.ownsRow.cellAt d i (by omega),γH,f];rfl
theorem J1 (L:List (List Int)):bO (.zi (.i .i64)) L=L.map λl=>AV.sl l.length (l.map λx=>AV.sc (.int .i64 x)):=by
 induction L with
 |nil=>rfl;|cons l L a=>
  rw[ν,<-a,<-lO];rfl
theorem R3 {w:World} {a:Addr} {v:Value} (h:w.cell? a=some v):a.block<w.heap.size:=by grind[World.cell?]
theorem R1 (q:Addr) (a b:Nat):(q.add a).add b=q.add (a+b):=by unfold Addr.add;grind
theorem R0 {p:ew} {i:Nat} (a:i<p.bj.length) (j:Fin 8):(bO .bu p.bj)[i*8+j]?=some (.sc (xb p i j)):=by
 have h:=Pc (s:=.bu) a;have b:((bO .bu p.bj).drop (i*cj.bu.sz))[(j:Nat)]?=some (.sc (xb p i j)):=by
  rw[h];obtain⟨j,c⟩:=j;have:j=0\/j=1\/j=2\/j=3\/j=4\/j=5\/j=6\/j=7:=by omega
  rcases this with rfl|rfl|rfl|rfl|rfl|rfl|rfl|rfl<;>rfl
 rwa [List.getElem?_drop] at b
def Dn:NG:=⟨29,ew,.one cI,λp=>nW p=0/\p.bj.length<=60,λp=> .row (.zi (.i .i64)) (bD p)⟩
theorem Il:d' Dn:=by
 rintro(p:ew) ⟨hc,hn⟩;refine⟨by kernel_rfl,?_⟩;intro A w σ vs Q E;have T:σ=[]:=by have:=Q.len;simp_all
 subst T;replace E:Aq A w [] [] [.agg (gL p.ss)] vs:=E;simp only[Aq] at E;obtain⟨v,r,rfl,hv,rfl⟩:=E;simp only[nA] at hv;obtain⟨cs,rfl,C⟩:=hv;obtain⟨cs⟩:=cs;simp only[ew.ss,gL,SV.g,Aq] at C;obtain⟨x0,r0,rfl, -,x1,r1,rfl, -,x2,r2,rfl, -,x3,r3,rfl, -,x4,r4,rfl, -,x5,r5,rfl, -,x6,r6,rfl, -,x7,r7,rfl, -,x8,r8,rfl, -,x9,r9,rfl, -,J,a8,rfl, -,H,b0,rfl, -,U,a7,rfl, -,a1,b2,rfl, -,V,b4,rfl, -,a0,b5,rfl, -,I,a5,rfl, -,L,b1,rfl, -,F,a6,rfl, -,b6,b3,rfl,D,rfl⟩:=C;simp only[nA] at D;obtain⟨a,Z,rfl,a2,_,hM⟩:=D;have K:∀i,i<p.bj.length->∃q,a=some q/\q.block<w.heap.size/\∀j:Fin 8,w.cell? ((q.add (i*8)).add j)=some (xb p i j):=by
  intro i m;have hq:∀j:Fin 8,∃b,a=some b/\w.cell? (b.add (i*8+j))=some (xb p i j):=λj=>by obtain⟨b,v,e,_,M,a3⟩:=cF.get _ _ _ hM _ _ (R0 m j);grind[nA]
  obtain⟨q,rfl,h0⟩:=hq 0;refine⟨q,rfl,?_,λj=>?_⟩
  ·have:=R3 h0;grind[cY]
  simp_all[R1]
 have t:∀i:Nat,i<p.bj.length->(oI p i).bx.ok=true:=λi m=>(jP hc (i:=(i:Int)) (by omega)).2.2.1;have a4:∀k:Nat,((l8 p k).set k (k:Int)).length=p.bj.length:=λk=>by grind[Cx]
 have n:=RD x0 x1 x2 x3 x4 x5 x6 x7 x8 x9 J H U a1 V a0 I L F a p.bj.length Z hn (l8 p) (λ_=>Cx) rfl (λk s x o=>WalkArith.wf_i64 (by have:=Do s x o;omega))
  (λk j=>lE p k ((l8 p k).set k (k:Int)) j) (λk j=>by grind[xV])
  (λk j s x o=>WalkArith.wf_i64 (by
   have:=xU (p:=p) (i:=k) (B:=p.bj.length) (by simp_all) (λx o=>by
    rcases δk o with o|rfl;·exact Do (by omega) x o
    ·omega) (k:=j) x o;omega))
  (λk s=>rfl) (λk s=>rfl) (λi j=>eM (oI p i) (oI p j)) (λk j s hj=>rfl) (xb p) w K (λi j m hj W=>R7 (t i m) (t j hj) W) (λW B g cp l X ho x y hy=>R5 hn W B g cp l X ho x y hy);refine n.mono ?_;rintro e w' ⟨B,hB,z,d⟩;have hA:∀b,A b->b<B:=λb h=>γw (Q.avb b h) hB;have R:Q5 A w' [] []:=⟨rfl,by simp,by simp,by simp,by simp,λb h=>γw (Q.avb b h) d.size⟩;have hE:Ext w [] [] w' [] []:=⟨d.size,λb h _=>⟨d.block b h,λ⟨i,c,m⟩=>by simp at m⟩,π _,λ_ _ ⟨_,_,_,_,h,_⟩=>by simp at h,λ_ ⟨_,_,_,h⟩=>by simp at h,d.os,d.tape,d.output⟩;have e2:(Dn.res p).G= .sl (bD p).length ((bD p).map λl=>AV.sl l.length (l.map λx=>AV.sc (.int .i64 x))):=by rw[<-J1];rfl
 have P:cJ ((bD p).map λl=>AV.sl l.length (l.map λx=>AV.sc (.int .i64 x)))=true:=by rw[<-J1];grind[nV]
 have u:bD p=(d_ (l8 p p.bj.length) p.bj.length).map λf=>fV (l8 p p.bj.length) p.bj.length (bN (l8 p p.bj.length) f.toNat 0):=SK;rw[e2];rcases z with⟨rfl,h0⟩|⟨g,cp,Y,sv,rfl,hg,a9,h1,h2,h3,h4,h5⟩;·grind[nA,cF]
 ·have X:(bD p).length=(d_ (l8 p p.bj.length) p.bj.length).length:=by rw[u,Φ]
  refine⟨_,[],rfl,R,?_,hE⟩;rw[X];simp only[nA];refine⟨_,_,rfl,h1,P,cF.kC _ _ _ λi c m=>?_⟩;rw[u,γO,γH] at m;obtain⟨f,S,rfl⟩:=ε.1 m;have N:=(θ.1 S).1;have h9:(Y.toList.take (d_ (l8 p p.bj.length) p.bj.length).length)[i]?=some (sv f):=by rw[h4,γH,S];rfl
  rw[δA N,Array.getElem?_toList] at h9;refine⟨⟨g,0,none⟩,sv f,rfl,⟨λ⟨i,c,m⟩=>by simp at m,λO=>by have:=hA g O;omega⟩,?_,R4 (h5 f (List.mem_of_getElem? S)) hA⟩;rw[Addr.add_lit];simp_all[World.cell?]
def Dm:NG:=⟨36,List Int×List Int,.cons (cP (.i .i64)) (.one (cP (.i .i64))),λa=>a.1.length<=1000000/\a.2.length<=1000000,λa=> .sb (decide (a.1=a.2))⟩
def RZ (x y:List Int):Nat->bH
 |4=> .inv Int (λi=>⟨[(0,.row (.i .i64) x),(1,.row (.i .i64) y),(12,.si .i64 x.length),(13,.si .i64 i)],[]⟩)
   (λs=>iS s 13) (λi=>(0<=i/\i<=x.length)/\∀k:Nat,(k:Int)<i->bN x k 0=bN y k 0) (λi=>(x.length - i).toNat) λ_ _=> .look
 |_=> .look
theorem Ij:d' Dm:=by
 refine bI (L:=[]) Dm (λa=>RZ a.1 a.2) (by simp) ?_;rintro⟨x,y⟩ ⟨t,z⟩;simp only at t z;refine NI (let a:=(0:Int);let e:=γc .i64;let h:=δb false;let o:=(↑x.length:Int);let q:=decide (o≠(↑y.length:Int));let j:=γA (decide (x=y));let f:=Ω (cj.i .i64) x;let g:=Ω (cj.i .i64) y;let c:=(↑x.length:Int);let l:=e c;(q=true->(h).bi j)/\(q=false->(((f.bi f/\g.bi g/\(e o).bi l/\(γu .i64 0).bi (e 0)/\True)/\True)/\(a<=a/\a<=c)/\∀(k:Nat),(↑k:Int)<a->bN x k a=bN y k a)/\∀(b:Int),let p:=decide (bN x b.toNat a≠bN y b.toNat a);let d:=b+(1:Int);let s:=e d;((a<=b/\b<=c)/\∀(k:Nat),(↑k:Int)<b->bN x k a=bN y k a)->(decide (b<c)=true->a<=b/\b<o/\b.toNat<x.length/\a<=b/\b<(↑y.length:Int)/\b.toNat<y.length/\(p=true->(h).bi j)/\(p=false->TP .i64 d/\((f.bi f/\g.bi g/\l.bi l/\s.bi s/\True)/\True)/\((a<=d/\d<=c)/\∀(k:Nat),(↑k:Int)<d->bN x k a=bN y k a)/\(c - d).toNat<(c - b).toNat))/\(decide (b<c)=false->(δb true).bi j))) (by kernel_rfl) ?_;simp only[vcs];refine⟨λh=>(decide_eq_false λe=>h (by rw[e])).symm,λh=>⟨⟨by omega,λk w=>by omega⟩,?_⟩⟩;rintro i ⟨⟨r,D⟩,w⟩;refine⟨λn=>⟨r,n,by omega,r,by omega,by omega,λm=>(decide_eq_false λe=>m (by rw[e])).symm,λB=>⟨by omega,⟨by omega,λk u=>?_⟩,by omega⟩⟩,λv=>?_⟩;·grind
 ·refine(decide_eq_true (List.ext_getElem (by omega) λk A C=>?_)).symm;grind[bR]
@[reducible] def cG:cj:=.pair (.zi (.i .i64)) (.pair (.i .i64) (.zi (.pair (.i .i64) (.pair (.i .i64) (.pair (.i .i64) (.pair (.i .i64) (.zi (.pair .b (.pair (.zi (.i .u32)) (.zi (.i .u32)))))))))))
def fw (l:List (List Int)) (r:List cG.T) (n:Nat):List Int:=(bL n).flatMap λi=>fU (bN l i.toNat []) (bN r i.toNat cG.bw).1
def gD (r:List cG.T) (n:Nat):Int:=((r.take n).map λx=>x.2.1).sum
def kP (l:List (List Int)) (r:List cG.T) (i j:Int):List Int:=fw l r i.toNat++fU (bN l i.toNat []) ((bN r i.toNat cG.bw).1.take j.toNat)
def Cw:NG:=⟨34,List (List Int)×List cG.T,.cons (cP (.zi (.i .i64))) (.one (cP cG)),λa=>(a.2.length<=a.1.length/\a.1.length<=1000)/\(∀n:Nat,n<=a.2.length->(fw a.1 a.2 n).length<=100000/\ -9000000000000000000<=gD a.2 n/\gD a.2 n<=9000000000000000000)/\∀i:Nat,i<a.2.length->∀k∈(bN a.2 i cG.bw).1,0<=k/\k<(bN a.1 i []).length,
 λa=>mA.put ⟨dv (fw a.1 a.2 a.2.length),gD a.2 a.2.length⟩⟩
def RY (l:List (List Int)) (r:List cG.T):Nat->bH
 |3=> .inv Int (λi=>⟨[(0,.row (.zi (.i .i64)) l),(4,.ptr 0 0 2),(5,.ptr 1 0 2),(10,.row cG r),(11,.si .i64 r.length),(12,.si .i64 i)],[.cells [.sc (.slice none 0 0),.il .i64 0] 40 2 false,.cells [.ow 2 (fw l r i.toNat).length 1,.si .i64 (gD r i.toNat)] 40 2 false,.row (.i .i64) (fw l r i.toNat) 3 true]⟩)
   (λs=>iS s 12) (λi=>0<=i/\i<=r.length) (λi=>(r.length - i).toNat) λi=>λ
   |7=> .inv Int (λj=>⟨[(0,.row (.zi (.i .i64)) l),(4,.ptr 0 0 2),(5,.ptr 1 0 2),(6,.si .i64 i),(10,.row cG r),(11,.si .i64 r.length),(12,.si .i64 i),(26,.row (.i .i64) (bN r i.toNat cG.bw).1),(27,.si .i64 (bN r i.toNat cG.bw).1.length),(28,.si .i64 j)],
      [.cells [.sc (.slice none 0 0),.il .i64 0] 40 2 false,.cells [.ow 2 (kP l r i j).length 1,.si .i64 (gD r (i+1).toNat)] 40 2 false,.row (.i .i64) (kP l r i j) 3 true,.cells [.row (.i .i64) (bN r i.toNat cG.bw).1,.si .i64 (bN r i.toNat cG.bw).2.1,.row (.pair (.i .i64) (.pair (.i .i64) (.pair (.i .i64) (.pair (.i .i64) (.zi (.pair .b (.pair (.zi (.i .u32)) (.zi (.i .u32))))))))) (bN r i.toNat cG.bw).2.2] 51 3 false]⟩)
     (λs=>iS s 28) (λj=>0<=j/\j<=(bN r i.toNat cG.bw).1.length) (λj=>((bN r i.toNat cG.bw).1.length - j).toNat) λ_ _=> .look
   |_=> .look
 |_=> .look
theorem y8:d' Cw:=by
 refine jY (L:=[]) (W:=fH [KZ]) Cw (λa=>RY a.1 a.2) (j6 (by grind[zx])) (by simp) ?_;rintro⟨l,r⟩ ⟨⟨h1,h2⟩,Y,h4⟩;simp only at h1 h2 Y h4;refine NI (let a:=γc .i64;let d:=(0:Int);let j:=Ω;let k:=iZ.cells;let s:=iZ.row;let u:=γZ;let v:=TP .i64;let c:=cj.i .i64;let F:=γM 0 0 2;let D:=γM 1 0 2;let t:=(↑r.length:Int);let E:=a t;let X:=γu .i64 0;let C:=k [SV.sc (Value.slice none 0 0),X] 40 2 false;let y:=(cj.i .u32).zi;let G:=c.pair (c.pair (c.pair (c.pair (cj.b.pair (y.pair y)).zi)));((((j c.zi l).bi (j c.zi l)/\F.bi F/\D.bi D/\(j cG r).bi (j cG r)/\E.bi E/\X.bi (a 0)/\True)/\C.bi C/\(k [u 2 0 1,X] 40 2 false).bi (k [u 2 (fw l r 0).length 1,a (gD r 0)] 40 2 false)/\(s c [] 3 true).bi (s c (fw l r 0) 3 true)/\True)/\d<=d/\d<=t)/\∀(x:Int),let J:=bN r x.toNat cG.bw;let M:=gD r x.toNat+J.2.1;let o:=j c J.1;let f:=(↑(γf J.1):Int);let z:=a f;let q:=fw l r x.toNat;let p:=q.length;let O:=kP l r x d;let g:=x+(1:Int);let n:=[a (gD r g.toNat)];let A:=k [o,a J.2.1,j G J.2.2] 51 3 false;let H:=bN l x.toNat c.zi.bw;let P:=a g;d<=x/\x<=t->(decide (x<t)=true->d<=x/\x<t/\x.toNat<r.length/\v M/\((((j c.zi l).bi (j c.zi l)/\F.bi F/\D.bi D/\(a x).bi (a x)/\(j cG r).bi (j cG r)/\E.bi E/\(a x).bi (a x)/\o.bi o/\z.bi z/\X.bi (a 0)/\True)/\C.bi C/\(k [u 2 p 1,a M] 40 2 false).bi (k (u 2 O.length 1::n) 40 2 false)/\(s c q 3 true).bi (s c O 3 true)/\A.bi A/\True)/\d<=d/\d<=f)/\∀(e:Int),let w:=bN J.1 e.toNat d;let m:=kP l r x e;let V:=m.length+1;let h:=e+(1:Int);let B:=a x;let Q:=a h;let S:=m++[bN H w.toNat d];d<=e/\e<=f->(decide (e<f)=true->d<=e/\e<f/\e.toNat<γf J.1/\d<=x/\x<(↑l.length:Int)/\x.toNat<l.length/\d<=w/\w<(↑H.length:Int)/\w.toNat<H.length/\1=1/\m.length=m.length/\V*8<=140737488355328/\V<=1000000000000/\v h/\(((j c.zi l).bi (j c.zi l)/\F.bi F/\D.bi D/\B.bi B/\(j cG r).bi (j cG r)/\E.bi E/\B.bi B/\o.bi o/\z.bi z/\Q.bi Q/\True)/\C.bi C/\(k (u 2 S.length 1::n) 40 2 false).bi (k (u 2 (kP l r x h).length 1::n) 40 2 false)/\(s c S 3 true).bi (s c (kP l r x h) 3 true)/\A.bi A/\True)/\(d<=h/\h<=f)/\(f - h).toNat<(f - e).toNat)/\(decide (e<f)=false->v g/\(((j c.zi l).bi (j c.zi l)/\F.bi F/\D.bi D/\(j cG r).bi (j cG r)/\E.bi E/\P.bi P/\True)/\C.bi C/\(k (u 2 m.length 1::n) 40 2 false).bi (k (u 2 (fw l r g.toNat).length 1::n) 40 2 false)/\(s c m 3 true).bi (s c (fw l r g.toNat) 3 true)/\True)/\(d<=g/\g<=t)/\(t - g).toNat<(t - x).toNat))/\(decide (x<t)=false->(p=p/\p<=1000000)/\p=(dv q).length/\(γG [j c (dv q),a (gD r x.toNat)]).bi (γG [j c (dv (fw l r r.length)),a (gD r r.length)]))) (by kernel_rfl) ?_;simp only[vcs];have k:∀{a b:Nat} {v u:Int},a=b->v=u->(iZ.cells [γZ 2 a 1,γc .i64 v] 40 2 false).bi (iZ.cells [γZ 2 b 1,γc .i64 u] 40 2 false):=by rintro _ _ _ _ rfl rfl;rfl
 have I:∀{x y:List Int},x=y->(iZ.row (.i .i64) x 3 true).bi (iZ.row (.i .i64) y 3 true):=by rintro _ _ rfl;rfl
 refine⟨⟨⟨rfl,rfl⟩,by omega⟩,?_⟩;rintro i ⟨i0,i1⟩;refine⟨λa0=>?_,λa3=>?_⟩
 ·have hc:=Y i.toNat (by omega);have a5:=Y (i+1).toNat (by omega);have hv:gD r (i+1).toNat=gD r i.toNat+(bN r i.toNat cG.bw).2.1:=by grind[gD,iG]
  have K:fw l r (i+1).toNat=fw l r i.toNat++fU (bN l i.toNat []) (bN r i.toNat cG.bw).1:=by grind[fw,oo]
  have U:kP l r i 0=fw l r i.toNat:=by simp[kP,fU]
  have hk:=h4 i.toNat (by omega);have a4:γf (bN r i.toNat cG.bw).1<=100000:=by grind[fU]
  have a1:∀j:Int,(kP l r i j).length<=100000:=λj=>by
   have h5:(kP l r i j).length<=(fw l r (i+1).toNat).length:=by rw[K];unfold kP fU;simp only[γF,Φ,List.length_take];omega
   omega
  refine⟨i0,a0,by omega,by omega,⟨⟨k (by rw[U]) hv.symm,I U.symm⟩,by omega⟩,?_⟩;rintro j ⟨j0,j1⟩;refine⟨λG=>?_,λa2=>?_⟩
  ·have s:=hk (bN (bN r i.toNat cG.bw).1 j.toNat 0) (cy (by omega));have Z:kP l r i j++[bN (bN l i.toNat []) (bN (bN r i.toNat cG.bw).1 j.toNat 0).toNat 0]=kP l r i (j+1):=by unfold kP fU;rw[iG (d:=(0:Int)) j0 G,γb,γV];rfl
   have a6:=a1 j;have T:(bN (bN r i.toNat cG.bw).1 j.toNat 0).toNat<(bN l i.toNat []).length:=by exact(Int.toNat_lt s.1).2 s.2
   have N:kP l r i j++[bN (bN l i.toNat (cj.i IntKind.i64).zi.bw) (bN (bN r i.toNat cG.bw).1 j.toNat 0).toNat 0]=kP l r i (j+1):=Z;rw[N];refine⟨j0,G,?_,i0,?_,?_,s.1,s.2,T,?_,?_,?_,⟨k rfl rfl,I rfl⟩,?_,?_⟩<;>omega
  ·have R:kP l r i j=fw l r (i+1).toNat:=by rw[K];unfold kP;rw[show j.toNat=(bN r i.toNat cG.bw).1.length by omega,φ]
   exact⟨by omega,⟨k (by rw[R]) rfl,I R⟩,by omega⟩
 ·rw[show i.toNat=r.length by omega];have:=(Y r.length (π _)).1;exact⟨by omega,(pT).symm,rfl⟩
def xT:NG:=⟨12,ew,.one cI,λp=>nW p≠0\/p.bj.length<=60,λp=> .IL [.row (.zi (.i .i64)) (if nW p=0 then bD p else[]),.si .i64 (nW p)]⟩
theorem uD:d' xT:=by
 refine bI (L:=[nz,Dn]) xT lk (by grind[oT,Il]) ?_;rintro(p:ew) (e:nW p≠0\/p.bj.length<=60);refine NI (let e:=(0:Int);let f:=Ω;let g:=SV.IL;let b:=decide (nW p≠e);let d:=[γc .i64 (nW p)];let c:=(cj.i .i64).zi;let a:=g (f c (if nW p=e then bD p else[])::d);True/\(b=true->(g (f (cj.i .i64) []::d)).bi a)/\(b=false->(nW p=e/\p.bj.length<=60)/\(g [f c (bD p),γu .i64 0]).bi a)) (by kernel_rfl) ?_;simp only[vcs];refine⟨λh=>?_,λh=>?_⟩
 ·rw[if_neg h];rfl
 simp_all
noncomputable def vN (p:ew) (c:List Int):cG.T:=((Oq (cH p c)).bn,(Oq (cH p c)).value,pE (cH p c))
noncomputable def dM (p:ew):List cG.T:=(bD p).map (vN p)
noncomputable def jC (p:ew):List Int:=dv (fw (bD p) (dM p) (dM p).length)
noncomputable def jV (p:ew):Int:=gD (dM p) (dM p).length
def Cv (p:ew):Prop:=nW p≠0\/(p.bj.length<=60/\∀c∈bD p,c.length<=15)
noncomputable def Cu:NG:=⟨19,ew,.one cI,Cv,
 λp=> .IL [.agg [.row (.i .i64) (if nW p=0 then jC p else[]),.si .i64 (if nW p=0 then jV p else 0),.row cG (if nW p=0 then dM p else[])],.si .i64 (nW p)]⟩
theorem Dl {p:ew}:∀{n:Nat},n<=(bD p).length->fw (bD p) (dM p) n=((bD p).take n).flatMap λc=>fU c (Oq (cH p c)).bn
 |0,_=>by simp[fw,bL];|n+1,h=>by
  have b:=Dl (p:=p) (n:=n) (by omega);have a:fw (bD p) (dM p) (n+1)=fw (bD p) (dM p) n++fU (bN (bD p) n []) (bN (dM p) n cG.bw).1:=by grind[fw,oo]
  have d:bN (dM p) n cG.bw=vN p (bN (bD p) n []):=by grind[bR,dM]
  rw[a,b,d,γ2 (show n<(bD p).length by omega),List.flatMap_append,bR (by omega)];simp[vN]
theorem J0 {p:ew} {n:Nat}:gD (dM p) n=(((bD p).take n).map λc=>(Oq (cH p c)).value).sum:=by unfold gD dM;rw[<-ζL,γO];rfl
theorem JZ {f:List Int->List Int}:∀{L:List (List Int)},(∀c∈L,(f c).length<=160)->(L.flatMap f).length<=160*L.length
 |[],_=>by simp;|c::L,h=>by have b:=h c (γs ..);have e:=JZ (L:=L) λd a=>h d (γe _ a);grind
theorem JY {f:List Int->Int}:∀{L:List (List Int)},(∀c∈L,0<=f c/\f c<=160000000)->0<=(L.map f).sum/\(L.map f).sum<=160000000*L.length
 |[],_=>by simp;|c::L,h=>by have b:=h c (γs ..);have e:=JY (L:=L) λd a=>h d (γe _ a);grind
theorem Dk {p:ew} {i:Nat} (a:i<(bD p).length):bN (dM p) i cG.bw=vN p (bN (bD p) i []):=by grind[bR,dM]
theorem JX {p:ew} (b:nW p=0):(∀n:Nat,n<=(dM p).length->(fw (bD p) (dM p) n).length<=2000/\ -9000000000000000<=gD (dM p) n/\gD (dM p) n<=9000000000000000)/\
  ∀i:Nat,i<(dM p).length->∀k∈(bN (dM p) i cG.bw).1,0<=k/\k<(bN (bD p) i []).length:=by
 have l:(dM p).length=(bD p).length:=Φ _;have g:=B5 b;have m:=(cT b).1;have a:∀c∈bD p,nW (cH p c)=0:=λc h=>B7 b (xY h);refine⟨λn r=>?_,λi q k d=>?_⟩
 ·rw[Dl (by omega),J0];have s:=JZ (f:=λc=>fU c (Oq (cH p c)).bn) (L:=(bD p).take n) λc h=>by grind[fU,xx]
  have e:=JY (f:=λc=>(Oq (cH p c)).value) (L:=(bD p).take n) λc h=>(xx (a c (List.mem_of_mem_take h))).2.2.1;grind
 ·have e:=Dk (p:=p) (i:=i) (by omega);have j:bN (bD p) i []∈bD p:=cy (by omega);rw[e] at d;have o:=(qF.1 (pF (a _ j)).1.1).2 k d;grind[vR]
theorem RX {p:ew} (b:nW p=0):jC p=(Oq p).bn/\jV p=(Oq p).value:=by have a:(dM p).length=(bD p).length:=Φ _;unfold jC jV;rw[Dl (by omega),J0,a,φ];exact⟨SY b,(S1 b).symm⟩
noncomputable def RW (p:ew):Nat->bH
 |6=> .inv Int (λi=>⟨[(1,.ptr 0 0 20),(2,.ptr 1 0 3),(4,.row (.zi (.i .i64)) (if nW p=0 then bD p else[])),(6,.ow 2 ((dM p).take i.toNat).length 3),(20,.row (.zi (.i .i64)) (if nW p=0 then bD p else[])),(21,.si .i64 (if nW p=0 then bD p else[]).length),(22,.si .i64 i)],
    [.cells p.ss 27 20 false,.cells [.sc (.slice none 0 0),.il .i64 0,.sc (.slice none 0 0)] 43 3 false,.row cG ((dM p).take i.toNat) 51 false]⟩)
   (λs=>iS s 22) (λi=>0<=i/\i<=(if nW p=0 then bD p else[]).length) (λi=>((if nW p=0 then bD p else[]).length - i).toNat) λ_ _=> .look
 |_=> .look
theorem y9:d' Cu:=by
 refine bI (L:=[xT,xX,C1,Cw]) Cu (λp=>RW p) (by grind[uD,uC,IZ,y8]) ?_;rintro(p:ew) K;refine NI (let c:=γc .i64;let d:=(0:Int);let e:=Ω;let h:=iZ.row;let u:=SV.IL;let v:=γG;let U:=decide (nW p≠d);let g:=cj.i .i64;let H:=γu .i64 0;let R:=v [e g [],H,e g []];let S:=[c (nW p)];let M:=u (v [e g (if nW p=d then jC p else[]),c (if nW p=d then jV p else d),e cG (if nW p=d then dM p else[])]::S);let J:=γM 0 0 20;let I:=γM 1 0 3;let m:=if nW p=d then bD p else[];let X:=γZ 2 0 3;let l:=(↑(if nW p=d then bD p else[]).length:Int);let t:=c l;let r:=iZ.cells [c p.bm.a0,c p.bm.a1,c p.bm.a2,c p.bm.a3,c p.bm.a4,c p.bm.a5,c p.bs.a0,c p.bs.a1,c p.bs.a2,c p.bs.a3,c p.bs.a4,c p.bs.a5,c p.bt.a0,c p.bt.a1,c p.bt.a2,c p.bt.a3,c p.bt.a4,c p.bt.a5,e g p.bk,e cj.bu p.bj] 27 20 false;let A:=SV.sc (Value.slice none 0 0);let q:=iZ.cells [A,H,A] 43 3 false;let w:=(cj.i .u32).zi;let z:=g.zi.pair (g.pair (g.pair (g.pair (g.pair (g.pair (cj.b.pair (w.pair w)).zi)))).zi);(nW p≠d\/p.bj.length<=60)/\(U=true->(u (R::S)).bi M)/\(U=false->(((J.bi J/\I.bi I/\(e g.zi m).bi (e g.zi m)/\X.bi X/\(e g.zi m).bi (e g.zi m)/\(c (↑m.length:Int)).bi t/\H.bi (c 0)/\True)/\r.bi r/\q.bi q/\(h z [] 51 false).bi (h cG [] 51 false)/\True)/\d<=d/\d<=l)/\∀(x:Int),let s:=bN m x.toNat g.zi.bw;let f:=cH p s;let F:=decide (nW f≠d);let j:=Ξ x.toNat (dM p);let a:=j.length;let o:=x+(1:Int);let D:=j++[(if nW f=d then(Oq f).bn else[],if nW f=d then(Oq f).value else d,if nW f=d then pE f else[])];let C:=Ξ o.toNat (dM p);let y:=c o;d<=x/\x<=l->(decide (x<l)=true->d<=x/\x<(↑m.length:Int)/\x.toNat<m.length/\((∀(i:Int),i∈s->d<=i/\i<(↑p.bj.length:Int))/\s.length<=1000/\p.bk.length<=1000)/\(nW f≠d\/f.bj.length<=15)/\(F=true->(u [R,c (nW f)]).bi M)/\(F=false->a=a/\(a+1)*56<=140737488355328/\a+1<=1000000000000/\TP .i64 o/\((J.bi J/\I.bi I/\(e g.zi m).bi (e g.zi m)/\(γZ 2 D.length 3).bi (γZ 2 C.length 3)/\(e g.zi m).bi (e g.zi m)/\t.bi t/\y.bi y/\True)/\r.bi r/\q.bi q/\(h z D 51 false).bi (h cG C 51 false)/\True)/\(d<=o/\o<=l)/\(l - o).toNat<(l - x).toNat))/\(decide (x<l)=false->a=a/\((a<=m.length/\m.length<=1000)/\(∀(n:Nat),n<=a->(fw m j n).length<=100000/\(-9000000000000000000:Int)<=gD j n/\gD j n<=(9000000000000000000:Int))/\∀(i:Nat),i<a->∀(k:Int),k∈(bN j i cG.bw).1->d<=k/\k<(↑(bN m i []).length:Int))/\(u [v [e g (dv (fw m j a)),c (gD j a),e cG j],H]).bi M))) (by kernel_rfl) ?_;simp only[vcs];replace K:Cv p:=K;refine⟨K.imp id (·.1),λh=>?_,λh=>?_⟩
 ·rw[if_neg h,if_neg h,if_neg h];rfl
 ·have v:=γa.1 h;obtain⟨a6,P⟩:=K.resolve_left h;simp only[if_pos v];have a8:=B5 v;have a7:=(cT v).1;refine⟨by omega,?_⟩;rintro i ⟨V,i1⟩;refine⟨λE=>?_,λZ=>?_⟩
  ·have Q:Ξ i.toNat (dM p)++[vN p (bN (bD p) i.toNat [])]=Ξ (i+1).toNat (dM p):=by unfold dM;rw[<-ζL,<-ζL,iG (d:=[]) V E,γb];rfl
   have u:bN (bD p) i.toNat []∈bD p:=cy (by omega);have N:bN (bD p) i.toNat (cj.i IntKind.i64).zi.bw=bN (bD p) i.toNat []:=rfl;rw[N];generalize bN (bD p) i.toNat []=c at Q u ⊢;have W:=xY u;have G:=B7 v W;have B:=P c u;have e:(((Oq (cH p c)).bn,(Oq (cH p c)).value,pE (cH p c)):cG.T)=vN p c:=rfl;simp only[if_pos G];rw[e,Q];have Y:=List.length_take_le i.toNat (dM p);have O:(dM p).length=(bD p).length:=Φ _;refine⟨V,E,by omega,⟨W.2,by omega⟩,.inr (by rw[vR];exact B),λh=>absurd G h,λ_=>⟨by omega,by omega,by omega,⟨rfl,rfl⟩,by omega⟩⟩
  ·have O:(dM p).length=(bD p).length:=Φ _;obtain⟨j1,j2⟩:=JX v;rw[show i.toNat=(dM p).length by omega,φ];exact⟨⟨(by omega),λn hn=>by have:=j1 n hn;omega,j2⟩,rfl,v.symm⟩
@[reducible] def Rk:cj:=.pair (.zi (.i .i64)) (.pair (.i .i64) (.zi cG))
def jc (p:ew) (r:List cG.T):Nat->Int
 |0=>0
 |n+1=>if jc p r n≠0 then jc p r n else rY (cH p (bN (bD p) n [])) (bN r n cG.bw)
def qC (p:ew) (x:List Int×Int×List cG.T):Int:=if nW p≠0 then nW p else if x.2.2.length≠(bD p).length then 2 else if jc p x.2.2 x.2.2.length≠0 then jc p x.2.2 x.2.2.length else
 if gD x.2.2 x.2.2.length≠x.2.1\/dv (fw (bD p) x.2.2 x.2.2.length)≠x.1 then 13 else 0
def Ct (p:ew) (x:List Int×Int×List cG.T):Prop:=(nW p≠0\/p.bj.length<=60)/\x.1.length<=1000000/\(nW p=0->x.2.2.length=(bD p).length->(∀i:Nat,i<x.2.2.length->(bN x.2.2 i cG.bw).1.length<=1000000000000/\(cq (cH p (bN (bD p) i [])) (bN x.2.2 i cG.bw).1=0->dA (cH p (bN (bD p) i [])) (bN x.2.2 i cG.bw).1=(bN x.2.2 i cG.bw).2.1->tB (cH p (bN (bD p) i [])) (bN x.2.2 i cG.bw).2.1 (bN x.2.2 i cG.bw).2.2))/\
 (jc p x.2.2 x.2.2.length=0->(∀n:Nat,n<=x.2.2.length->(fw (bD p) x.2.2 n).length<=100000/\ -9000000000000000000<=gD x.2.2 n/\gD x.2.2 n<=9000000000000000000)/\∀i:Nat,i<x.2.2.length->∀k∈(bN x.2.2 i cG.bw).1,0<=k/\k<(bN (bD p) i []).length))
theorem JW {p:ew} {r:List cG.T} {n:Nat} (h:jc p r n≠0):∀{m:Nat},n<=m->jc p r m=jc p r n
 |0,a=>by simp_all;|m+1,a=>by
  by_cases e:n=m+1;·rw[e]
  ·have b:=JW h (m:=m) (by omega);simp_all[jc]
def Dj:NG:=⟨21,ew×List Int×Int×List cG.T,.cons cI (.one (dg Rk)),λa=>Ct a.1 a.2,λa=> .si .i64 (qC a.1 a.2)⟩
def RV (p:ew) (x:List Int×Int×List cG.T):Nat->bH
 |7=> .inv Int (λi=>⟨[(2,.ptr 0 0 20),(3,.ptr 1 0 3),(5,.row (.zi (.i .i64)) (if nW p=0 then bD p else[])),(25,.row (.zi (.i .i64)) (if nW p=0 then bD p else[])),(26,.si .i64 (if nW p=0 then bD p else[]).length),(27,.si .i64 i)],
    [.cells p.ss 27 20 false,.cells [.row (.i .i64) x.1,.si .i64 x.2.1,.row cG x.2.2] 43 3 false]⟩)
   (λs=>iS s 27) (λi=>(0<=i/\i<=(if nW p=0 then bD p else[]).length)/\jc p x.2.2 i.toNat=0) (λi=>((if nW p=0 then bD p else[]).length - i).toNat) λ_ _=> .look
 |_=> .look
theorem Io:d' Dj:=by
 refine bI (L:=[xT,xX,C9,Cw,Dm]) Dj (λa=>RV a.1 a.2) (by grind[uD,uC,IJ,y8,Ij]) ?_;rintro⟨p,c,v,r⟩ hd;refine NI (let a:=γc .i64;let h:=(0:Int);let m:=Ω;let q:=γu .i64;let d:=if nW p=h then bD p else[];let P:=(↑d.length:Int);let Z:=decide (nW p≠h);let z:=a (qC p (c,v,r));let K:=γM 0 0 20;let J:=γM 1 0 3;let f:=cj.i .i64;let o:=(↑(if nW p=h then bD p else[]).length:Int);let O:=a o;let C:=q 0;let l:=iZ.cells [a p.bm.a0,a p.bm.a1,a p.bm.a2,a p.bm.a3,a p.bm.a4,a p.bm.a5,a p.bs.a0,a p.bs.a1,a p.bs.a2,a p.bs.a3,a p.bs.a4,a p.bs.a5,a p.bt.a0,a p.bt.a1,a p.bt.a2,a p.bt.a3,a p.bt.a4,a p.bt.a5,m f p.bk,m cj.bu p.bj] 27 20 false;let j:=iZ.cells [m f c,a v,m cG r] 43 3 false;let F:=decide (gD r r.length≠v);let t:=dv (fw d r r.length);let w:=λ(u:Bool) ↦decide ((↑r.length:Int)≠P)=u;(nW p≠h\/p.bj.length<=60)/\(Z=true->(a (nW p)).bi z)/\(Z=false->(w true->(q 2).bi z)/\(w false->(((K.bi K/\J.bi J/\(m f.zi d).bi (m f.zi d)/\(m f.zi d).bi (m f.zi d)/\(a P).bi O/\C.bi (a 0)/\True)/\l.bi l/\j.bi j/\True)/\(h<=h/\h<=o)/\jc p r 0=h)/\∀(x:Int),let s:=bN d x.toNat f.zi.bw;let g:=cH p s;let b:=bN r x.toNat cG.bw;let D:=rY g (b.1,b.2.1,b.2.2);let e:=x+(1:Int);let E:=a e;let I:=λ(u:Bool) ↦decide (D≠h)=u;(h<=x/\x<=o)/\jc p r x.toNat=h->(decide (x<o)=true->h<=x/\x<P/\x.toNat<d.length/\((∀(i:Int),i∈s->h<=i/\i<(↑p.bj.length:Int))/\s.length<=1000/\p.bk.length<=1000)/\h<=x/\x<(↑r.length:Int)/\x.toNat<r.length/\(γf b.1<=1000000000000/\(cq g b.1=h->dA g b.1=b.2.1->tB g b.2.1 b.2.2))/\(I true->(a D).bi z)/\(I false->TP .i64 e/\((K.bi K/\J.bi J/\(m f.zi d).bi (m f.zi d)/\(m f.zi d).bi (m f.zi d)/\O.bi O/\E.bi E/\True)/\l.bi l/\j.bi j/\True)/\((h<=e/\e<=o)/\jc p r e.toNat=h)/\(o - e).toNat<(o - x).toNat))/\(decide (x<o)=false->((r.length<=d.length/\d.length<=1000)/\(∀(n:Nat),n<=r.length->(fw d r n).length<=100000/\(-9000000000000000000:Int)<=gD r n/\gD r n<=(9000000000000000000:Int))/\∀(i:Nat),i<r.length->∀(k:Int),k∈(bN r i cG.bw).1->h<=k/\k<(↑(bN d i []).length:Int))/\(F=true->(q 13).bi z)/\(F=false->(t.length<=1000000/\c.length<=1000000)/\((!decide (t=c))=true->(q 13).bi z)/\((!decide (t=c))=false->C.bi z)))))) (by kernel_rfl) ?_;simp only[vcs];obtain⟨y,H,G⟩:=(hd:Ct p (c,v,r));simp only at y H G;refine⟨y,λh=>by simp_all[qC],λh=>?_⟩;have M:nW p=0:=γa.1 h;simp only[if_pos M];refine⟨λhl=>?_,λhl=>⟨⟨by omega,rfl⟩,?_⟩⟩
 ·have q:r.length≠(bD p).length:=by omega
  simp_all[qC]
 have R:r.length=(bD p).length:=by omega
 obtain⟨hw,hj⟩:=G M R;have w:qC p (c,v,r)=if jc p r r.length≠0 then jc p r r.length else if gD r r.length≠v\/dv (fw (bD p) r r.length)≠c then 13 else 0:=by simp_all[qC]
 have X:=B5 M;have a9:=(cT M).1;have a6:=y.resolve_left h;rintro i ⟨⟨Y,i1⟩,N⟩;refine⟨λS=>?_,λa7=>?_⟩
 ·have hs:jc p r (i+1).toNat=rY (cH p (bN (bD p) i.toNat [])) (bN r i.toNat cG.bw):=by rw[show(i+1).toNat=i.toNat+1 by omega];show(if jc p r i.toNat≠0 then jc p r i.toNat else _)=_;rw[if_neg (by rw[N];exact λh=>h rfl)]
  have T:=hw i.toNat (by omega);have U:bN (bD p) i.toNat []∈bD p:=cy (by omega);have V:bN (bD p) i.toNat (cj.i IntKind.i64).zi.bw=bN (bD p) i.toNat []:=rfl;rw[V];have W:=xY U;have a8:=rU W;refine⟨Y,S,by omega,⟨W.2,by omega⟩,Y,by omega,by omega,T,λB=>?_,λB=>⟨by omega,⟨by omega,?_⟩,by omega⟩⟩
  ·have q:jc p r (i+1).toNat≠0:=by rw[hs];exact B
   have A:=JW q (m:=r.length) (by omega);rw[w,if_pos (by rw[A];exact q),A,hs]
  simp_all
 ·have Q:i.toNat=r.length:=by omega
  rw[Q] at N;obtain⟨j1,j2⟩:=hj N;have b0:(fw (bD p) r r.length).length<=100000:=(j1 r.length (π _)).1;rw[if_neg (by rw[N];exact λh=>h rfl)] at w;rw[w];refine⟨⟨(by omega),j1,j2⟩,λB=>(if_pos (.inl B)).symm,λB=>⟨⟨by rw[pT];omega,H⟩,λq=>(if_pos (.inr q)).symm,λq=>(if_neg ?_).symm⟩⟩;rintro(A|A);·exact B A
  ·exact A q
def Di:NG:=⟨30,bA×bA,.cons (dg .bu) (.one (dg .bu)),λ_=>True,λa=> .sb (eM a.1 a.2)⟩
theorem JV {a b:bA}:eM a b=true↔a.Gz=b.Gz\/∃k,k<6/\0<a.bx.at k/\0<b.bx.at k:=by
 unfold eM;rw[δd,ζP,decide_eq_true_eq];refine or_congr Iff.rfl ⟨?_,?_⟩;·grind
 ·rintro⟨k,d,c,e⟩;refine⟨k,?_,by simp_all⟩;simp only[γl,δl,or_false];omega
def RU (a b:bA):Nat->bH
 |4=> .inv Int (λk=>⟨[(2,.ptr 0 0 8),(3,.ptr 1 0 8),(5,.si .i64 k)],[.cells (cd .bu a) 65 8 false,.cells (cd .bu b) 65 8 false]⟩)
   (λs=>iS s 5) (λk=>(0<=k/\k<=6)/\a.Gz≠b.Gz/\∀j:Nat,(j:Int)<k->¬(0<a.bx.at j/\0<b.bx.at j)) (λk=>(6 - k).toNat) λ_ _=> .look
 |_=> .look
theorem Ik:d' Di:=by refine bI (L:=[]) Di (λa=>RU a.1 a.2) (by simp) ?_;rintro⟨a,b⟩ _;refine NI (let h:=(0:Int);let k:=γc .i64;let q:=(6:Int);let i:=decide (a.Gz=b.Gz);let g:=γM 0 0 8;let f:=γM 1 0 8;let e:=λ(u:bA) ↦let l:=iZ.cells [k u.Gz,k u.bx.a0,k u.bx.a1,k u.bx.a2,k u.bx.a3,k u.bx.a4,k u.bx.a5,k u.value] 65 8 false;l.bi l;(i=true->(δb true).bi (γA (eM a b)))/\(i=false->(((g.bi g/\f.bi f/\(γu .i64 0).bi (k 0)/\True)/\e a/\e b/\True)/\(h<=h/\h<=q)/\a.Gz≠b.Gz/\∀(j:Nat),(↑j:Int)<h->h<a.bx.at j/\h<b.bx.at j->False)/\∀(x:Int),let c:=x+(1:Int);let n:=k c;let d:=decide (x<q);let m:=TP .i64 c/\((g.bi g/\f.bi f/\n.bi n/\True)/\e a/\e b/\True)/\((h<=c/\c<=q)/\a.Gz≠b.Gz/\∀(j:Nat),(↑j:Int)<c->h<a.bx.at j/\h<b.bx.at j->False)/\(q - c).toNat<(q - x).toNat;let p:=λ(u:Bool) ↦decide (h<bN [a.bx.a0,a.bx.a1,a.bx.a2,a.bx.a3,a.bx.a4,a.bx.a5] x.toNat h)=u;let o:=λ(u:Bool) ↦decide (h<bN [b.bx.a0,b.bx.a1,b.bx.a2,b.bx.a3,b.bx.a4,b.bx.a5] x.toNat h)=u;((h<=x/\x<=q)/\a.Gz≠b.Gz/\∀(j:Nat),(↑j:Int)<x->h<a.bx.at j/\h<b.bx.at j->False)->(d=true->h<=x/\x<q/\x.toNat<6/\(p true->h<=x/\x<q/\x.toNat<6/\(o true->(δb true).bi (γA (eM a b)))/\(o false->m))/\(p false->m))/\(d=false->(δb false).bi (γA (eM a b))))) (by kernel_rfl) ?_;simp only[vcs];refine⟨λh=>(JV.2 (.inl h)).symm,λh=>⟨⟨by omega,h,λj q=>by omega⟩,?_⟩⟩;rintro k ⟨⟨t,w⟩,_,s⟩;have r:bN [a.bx.a0,a.bx.a1,a.bx.a2,a.bx.a3,a.bx.a4,a.bx.a5] k.toNat 0=a.bx.at k.toNat:=rfl;have v:bN [b.bx.a0,b.bx.a1,b.bx.a2,b.bx.a3,b.bx.a4,b.bx.a5] k.toNat 0=b.bx.at k.toNat:=rfl;grind[JV]
def py (N i:Nat):List Int:=bL i++δ (N - i) 0
def lv (p:ew) (n:Nat):List (List Int):=((bL n).map (qG p)).filter λc=>decide (c≠[])
def mK (p:ew) (f:Int) (i:Nat):List Int:=(bL i).filter λj=>decide (bN (qj p) j.toNat 0=f)
theorem RT {N i:Nat} (h:i<=N):(py N i).length=N:=by grind[py,fj]
theorem RS {N i:Nat} (h:i<N):(py N i).set i (i:Int)=py N (i+1):=by unfold py;rw[oo,List.set_append_right _ _ (by grind[fj]),fj,Nat.sub_self,show N - i=(N - (i+1))+1 by omega,List.replicate_succ,εe,γV];rfl
theorem Cs {p:ew} {l:List Int} {i:Nat}:∀{k:Nat},(gZ p l i k).length=l.length
 |0=>rfl
 |k+1=>by
  unfold gZ;split;·rw[γm];exact Cs
  ·exact Cs
theorem Dh {p:ew} {l:List Int}:∀{i:Nat},(jA p l i).length=l.length
 |0=>rfl
 |i+1=>by show(gZ p (jA p l i) i p.bj.length).length=_;rw[Cs];exact Dh
theorem Dg {p:ew}:∀{r:Nat},(eu p r).length=p.bj.length
 |0=>fj
 |r+1=>by show(jA p (eu p r) p.bj.length).length=_;rw[Dh];exact Dg
theorem RR {p:ew} {n:Nat}:lv p (n+1)=lv p n++if qG p (n:Int)≠[] then[qG p (n:Int)] else[]:=by grind[lv,oo]
theorem RP {p:ew} {f:Int} {i:Nat}:mK p f (i+1)=mK p f i++if bN (qj p) i 0=f then[(i:Int)] else[]:=by grind[mK,oo]
theorem RO {p:ew} {f:Int}:mK p f p.bj.length=qG p f:=rfl
theorem RN {p:ew}:lv p p.bj.length=bD p:=Su
def Df:NG:=⟨13,ew,.one cI,λp=>nW p≠0\/p.bj.length<=60,λp=> .IL [.row (.zi (.i .i64)) (if nW p=0 then bD p else[]),.si .i64 (nW p)]⟩
def RM (p:ew):Nat->bH
 |7=> .inv Int (λi=>⟨[(1,.ptr 0 0 20),(5,.si .i64 p.bj.length),(6,.ow 1 p.bj.length 1),(7,.si .i64 i)],[.cells p.ss 27 20 false,.row (.i .i64) (py p.bj.length i.toNat) 3 true]⟩)
   (λs=>iS s 7) (λi=>0<=i/\i<=p.bj.length) (λi=>(p.bj.length - i).toNat) λ_ _=> .look
 |11=> .inv Int (λr=>⟨[(1,.ptr 0 0 20),(5,.si .i64 p.bj.length),(6,.ow 1 p.bj.length 1),(8,.si .i64 r)],[.cells p.ss 27 20 false,.row (.i .i64) (eu p r.toNat) 3 true]⟩)
   (λs=>iS s 8) (λi=>0<=i/\i<=p.bj.length) (λi=>(p.bj.length - i).toNat) λr=>λ
   |14=> .inv Int (λi=>⟨[(1,.ptr 0 0 20),(5,.si .i64 p.bj.length),(6,.ow 1 p.bj.length 1),(8,.si .i64 r),(9,.si .i64 i)],[.cells p.ss 27 20 false,.row (.i .i64) (jA p (eu p r.toNat) i.toNat) 3 true]⟩)
     (λs=>iS s 9) (λi=>0<=i/\i<=p.bj.length) (λi=>(p.bj.length - i).toNat) λi=>λ
     |17=> .inv Int (λk=>⟨[(1,.ptr 0 0 20),(5,.si .i64 p.bj.length),(6,.ow 1 p.bj.length 1),(8,.si .i64 r),(9,.si .i64 i),(10,.si .i64 k)],[.cells p.ss 27 20 false,.row (.i .i64) (gZ p (jA p (eu p r.toNat) i.toNat) i.toNat k.toNat) 3 true]⟩)
       (λs=>iS s 10) (λi=>0<=i/\i<=p.bj.length) (λi=>(p.bj.length - i).toNat) λ_ _=> .look
     |_=> .look
   |_=> .look
 |23=> .inv Int (λf=>⟨[(5,.si .i64 p.bj.length),(6,.ow 1 p.bj.length 1),(11,.ow 2 (lv p f.toNat).length 1),(12,.si .i64 f)],[.cells p.ss 27 20 false,.row (.i .i64) (qj p) 3 true,.row (.zi (.i .i64)) (lv p f.toNat) 24 false]⟩)
   (λs=>iS s 12) (λi=>0<=i/\i<=p.bj.length) (λi=>(p.bj.length - i).toNat) λf=>λ
   |27=> .inv Int (λi=>⟨[(5,.si .i64 p.bj.length),(6,.ow 1 p.bj.length 1),(11,.ow 2 (lv p f.toNat).length 1),(12,.si .i64 f),(13,.ow 3 (mK p f i.toNat).length 1),(14,.si .i64 i)],[.cells p.ss 27 20 false,.row (.i .i64) (qj p) 3 true,.row (.zi (.i .i64)) (lv p f.toNat) 24 false,.row (.i .i64) (mK p f i.toNat) 3 true]⟩)
     (λs=>iS s 14) (λi=>0<=i/\i<=p.bj.length) (λi=>(p.bj.length - i).toNat) λ_ _=> .look
   |_=> .look
 |_=> .look
theorem Iq:d' Df:=by
 refine bI (L:=[xa,Di]) Df (λp=>RM p) (by grind[CO,Ik]) ?_;rintro(p:ew) (hd:nW p≠0\/p.bj.length<=60);refine NI (let a:=γc .i64;let b:=(0:Int);let e:=iZ.row;let f:=TP .i64;let h:=γZ;let k:=(1:Int);let n:=Ω;let r:=cj.bu.bw;let y:=SV.IL;let L:=decide (nW p≠b);let q:=cj.i .i64;let U:=[a (nW p)];let W:=q.zi;let V:=y (n W (if nW p=b then bD p else[])::U);let B:=p.bj.length;let N:=(↑B:Int);let z:=γM 0 0 20;let C:=p.bj.length;let l:=(↑C:Int);let j:=a l;let g:=h 1 C 1;let D:=γu .i64 0;let d:=iZ.cells [a p.bm.a0,a p.bm.a1,a p.bm.a2,a p.bm.a3,a p.bm.a4,a p.bm.a5,a p.bs.a0,a p.bs.a1,a p.bs.a2,a p.bs.a3,a p.bs.a4,a p.bs.a5,a p.bt.a0,a p.bt.a1,a p.bt.a2,a p.bt.a3,a p.bt.a4,a p.bt.a5,n q p.bk,n cj.bu p.bj] 27 20 false;let w:=e q (qj p) 3 true;let P:Nat:=(qj p).length;True/\(L=true->(y (n q []::U)).bi V)/\(L=false->b<=N/\N<=N/\N*(8:Int)<=(140737488355328:Int)/\N<=(1000000000000:Int)/\(((z.bi z/\(a N).bi j/\(h 1 N.toNat 1).bi g/\D.bi (a 0)/\True)/\d.bi d/\(e q (δ N.toNat b) 3 true).bi (e q (py C 0) 3 true)/\True)/\b<=b/\b<=l)/\∀(x:Int),let I:=py C x.toNat;let H:=x+k;let c0:=a H;b<=x/\x<=l->(decide (x<l)=true->C=I.length/\b<=x/\x<(↑I.length:Int)/\C=I.length/\x.toNat<I.length/\f H/\((z.bi z/\j.bi j/\g.bi g/\c0.bi c0/\True)/\d.bi d/\(e q (I.set x.toNat x) 3 true).bi (e q (py C H.toNat) 3 true)/\True)/\(b<=H/\H<=l)/\(l - H).toNat<(l - x).toNat)/\(decide (x<l)=false->(((z.bi z/\j.bi j/\g.bi g/\D.bi (a 0)/\True)/\d.bi d/\(e q I 3 true).bi (e q (eu p 0) 3 true)/\True)/\b<=b/\b<=l)/\∀(x:Int),let R:=eu p x.toNat;let b7:=e q R 3 true;let G:=x+k;let c2:=a G;b<=x/\x<=l->(decide (x<l)=true->(((z.bi z/\j.bi j/\g.bi g/\(a x).bi (a x)/\D.bi (a 0)/\True)/\d.bi d/\b7.bi (e q (jA p R 0) 3 true)/\True)/\b<=b/\b<=l)/\∀(c:Int),let A:=a x;let Q:=jA p R c.toNat;let b9:=e q Q 3 true;let F:=c+k;let b8:=a F;b<=c/\c<=l->(decide (c<l)=true->(((z.bi z/\j.bi j/\g.bi g/\A.bi A/\(a c).bi (a c)/\D.bi (a 0)/\True)/\d.bi d/\b9.bi (e q (gZ p Q c.toNat 0) 3 true)/\True)/\b<=b/\b<=l)/\∀(x:Int),let v:=x+k;let S:=a c;let T:=a v;let J:=gZ p Q c.toNat x.toNat;let b3:=e q J 3 true;let Z:=e q (gZ p Q c.toNat v.toNat) 3 true;let a7:=eM (bN p.bj c.toNat r) (bN p.bj x.toNat r);let m:=J.length;let b0:=bN J x.toNat b;let b6:=decide (b0<bN J c.toNat b);let c1:=f v/\((z.bi z/\j.bi j/\g.bi g/\A.bi A/\S.bi S/\T.bi T/\True)/\d.bi d/\b3.bi Z/\True)/\(b<=v/\v<=l)/\(l - v).toNat<(l - x).toNat;b<=x/\x<=l->(decide (x<l)=true->b<=c/\c<N/\c.toNat<B/\b<=x/\x<N/\x.toNat<B/\True/\(a7=true->C=m/\b<=x/\x<(↑m:Int)/\C=m/\x.toNat<m/\C=m/\b<=c/\c<(↑m:Int)/\C=m/\c.toNat<m/\(b6=true->C=m/\b<=x/\x<(↑m:Int)/\C=m/\x.toNat<m/\C=m/\b<=c/\c<(↑m:Int)/\C=m/\c.toNat<m/\f v/\((z.bi z/\j.bi j/\g.bi g/\A.bi A/\S.bi S/\T.bi T/\True)/\d.bi d/\(e q (J.set c.toNat b0) 3 true).bi Z/\True)/\(b<=v/\v<=l)/\(l - v).toNat<(l - x).toNat)/\(b6=false->c1))/\(a7=false->c1))/\(decide (x<l)=false->f F/\((z.bi z/\j.bi j/\g.bi g/\A.bi A/\b8.bi b8/\True)/\d.bi d/\b3.bi (e q (jA p R F.toNat) 3 true)/\True)/\(b<=F/\F<=l)/\(l - F).toNat<(l - c).toNat))/\(decide (c<l)=false->f G/\((z.bi z/\j.bi j/\g.bi g/\c2.bi c2/\True)/\d.bi d/\b9.bi (e q (eu p G.toNat) 3 true)/\True)/\(b<=G/\G<=l)/\(l - G).toNat<(l - x).toNat))/\(decide (x<l)=false->(((j.bi j/\g.bi g/\(h 2 0 1).bi (h 2 (lv p 0).length 1)/\D.bi (a 0)/\True)/\d.bi d/\b7.bi w/\(e W [] 24 false).bi (e W (lv p 0) 24 false)/\True)/\b<=b/\b<=l)/\∀(x:Int),let t:=lv p x.toNat;let K:=h 2 t.length 1;let M:=e W t 24 false;let b5:=t.length+1;let s:=x+k;let a8:=h 2 (lv p s.toNat).length 1;let O:=a s;let a6:=e W (lv p s.toNat) 24 false;b<=x/\x<=l->(decide (x<l)=true->(((j.bi j/\g.bi g/\K.bi K/\(a x).bi (a x)/\(h 3 0 1).bi (h 3 (mK p x 0).length 1)/\D.bi (a 0)/\True)/\d.bi d/\w.bi w/\M.bi M/\(e q [] 3 true).bi (e q (mK p x 0) 3 true)/\True)/\b<=b/\b<=l)/\∀(c:Int),let E:=c+k;let Y:=a x;let a9:=a E;let b1:=decide (bN (qj p) c.toNat b=x);let o:=mK p x c.toNat;let b2:=o.length+1;let b4:=decide (b<(↑o.length:Int));let X:=λ(u:Nat) (c6:iZ) ↦f E/\((j.bi j/\g.bi g/\K.bi K/\Y.bi Y/\(h 3 u 1).bi (h 3 (mK p x E.toNat).length 1)/\a9.bi a9/\True)/\d.bi d/\w.bi w/\M.bi M/\c6.bi (e q (mK p x E.toNat) 3 true)/\True)/\(b<=E/\E<=l)/\(l - E).toNat<(l - c).toNat;b<=c/\c<=l->(decide (c<l)=true->C=P/\b<=c/\c<(↑P:Int)/\C=P/\c.toNat<P/\(b1=true->o.length=o.length/\b2*8<=140737488355328/\b2<=1000000000000/\X (o++[c]).length (e q (o++[c]) 3 true))/\(b1=false->X o.length (e q o 3 true)))/\(decide (c<l)=false->(b4=true->o.length=o.length/\t.length=t.length/\b5*24<=140737488355328/\b5<=1000000000000/\f s/\((j.bi j/\g.bi g/\(h 2 (t++[o]).length 1).bi a8/\O.bi O/\True)/\d.bi d/\w.bi w/\(e W (t++[o]) 24 false).bi a6/\True)/\(b<=s/\s<=l)/\(l - s).toNat<(l - x).toNat)/\(b4=false->f s/\((j.bi j/\g.bi g/\K.bi a8/\O.bi O/\True)/\d.bi d/\w.bi w/\M.bi a6/\True)/\(b<=s/\s<=l)/\(l - s).toNat<(l - x).toNat)))/\(decide (x<l)=false->t.length=t.length/\(y [n W t,D]).bi V))))) (by kernel_rfl) ?_;simp only[vcs];have c8:(iZ.cells p.ss 27 20 false).bi (iZ.cells p.ss 27 20 false):=rfl;have B:∀{x y:List Int},x=y->(iZ.row (.i .i64) x 3 true).bi (iZ.row (.i .i64) y 3 true):=by rintro _ _ rfl;rfl
 have U:∀{x y:List (List Int)},x=y->(iZ.row (.zi (.i .i64)) x 24 false).bi (iZ.row (.zi (.i .i64)) y 24 false):=by rintro _ _ rfl;rfl
 have hw:∀{k a b:Nat},a=b->(γZ k a 1).bi (γZ k b 1):=by rintro _ _ _ rfl;rfl
 refine⟨λh=>by rw[if_neg h];rfl,λh=>?_⟩;have hc:nW p=0:=γa.1 h;have hN:=hd.resolve_left h;refine⟨by omega,by omega,by omega,by omega,⟨⟨hw (by omega),B (by simp[py,bL])⟩,by omega⟩,?_⟩;rintro i ⟨i0,i1⟩;refine⟨λc5=>?_,λV=>?_⟩;·grind[RT,RS]
 refine⟨⟨B (by rw[show i.toNat=p.bj.length by omega];simp[py,eu]),by omega⟩,?_⟩;clear i0 i1 V i;rintro r ⟨r0,r1⟩;refine⟨λc5=>?_,λV=>?_⟩
 ·refine⟨⟨B rfl,by omega⟩,?_⟩;rintro i ⟨i0,i1⟩;refine⟨λc3=>?_,λc4=>?_⟩
  ·refine⟨⟨B rfl,by omega⟩,?_⟩;rintro k ⟨k0,k1⟩;have d5:(gZ p (jA p (eu p r.toNat) i.toNat) i.toNat k.toNat).length=p.bj.length:=by rw[Cs,Dh,Dg]
   have d2:gZ p (jA p (eu p r.toNat) i.toNat) i.toNat (k+1).toNat=if eM (bN p.bj i.toNat cj.bu.bw) (bN p.bj k.toNat cj.bu.bw)=true/\bN (gZ p (jA p (eu p r.toNat) i.toNat) i.toNat k.toNat) k.toNat 0<bN (gZ p (jA p (eu p r.toNat) i.toNat) i.toNat k.toNat) i.toNat 0 then(gZ p (jA p (eu p r.toNat) i.toNat) i.toNat k.toNat).set i.toNat (bN (gZ p (jA p (eu p r.toNat) i.toNat) i.toNat k.toNat) k.toNat 0) else gZ p (jA p (eu p r.toNat) i.toNat) i.toNat k.toNat:=by rw[show(k+1).toNat=k.toNat+1 by omega];rfl
   refine⟨λd0=>?_,λd4=>?_⟩;·grind
   ·refine⟨by omega,B ?_,by omega⟩;rw[show k.toNat=p.bj.length by omega,show(i+1).toNat=i.toNat+1 by omega];rfl
  ·refine⟨by omega,B ?_,by omega⟩;rw[show i.toNat=p.bj.length by omega,show(r+1).toNat=r.toNat+1 by omega];rfl
 refine⟨⟨⟨hw (by simp[lv,bL]),B (by rw[show r.toNat=p.bj.length by omega];rfl),U (by simp[lv,bL])⟩,by omega⟩,?_⟩;have c7:(qj p).length=p.bj.length:=Dg;clear r0 r1 V r;rintro f ⟨f0,f1⟩;have d3:(lv p f.toNat).length<=f.toNat:=by grind[lv,fj]
 refine⟨λc9=>?_,λd6=>⟨?_,hc.symm⟩⟩
 ·have e0:([]:List Int)=mK p f 0:=by simp[mK,bL]
  refine⟨⟨⟨hw (by simp_all),B e0⟩,by omega⟩,?_⟩;rintro i ⟨i0,i1⟩;have hs:=RP (p:=p) (f:=f) (i:=i.toNat);rw[show((i.toNat:Nat):Int)=i by omega,show i.toNat+1=(i+1).toNat by omega] at hs;have d1:(mK p f i.toNat).length<=i.toNat:=by grind[mK,fj]
  refine⟨λc3=>?_,λc4=>?_⟩
  ·rw[c7];grind
  ·rw[show i.toNat=p.bj.length by omega,RO];have hS:=RR (p:=p) (n:=f.toNat);rw[show((f.toNat:Nat):Int)=f by omega,show f.toNat+1=(f+1).toNat by omega] at hS;refine⟨λhv=>?_,λhv=>?_⟩
   ·rw[if_pos (by intro e;rw[e] at hv;simp at hv)] at hS;rw[hS];refine⟨?_,?_,?_,⟨hw rfl,U rfl⟩,?_,?_⟩<;>omega
   ·have e:qG p f=[]:=ψ (by omega);rw[if_neg (by simp[e]),List.append_nil] at hS;rw[hS];refine⟨?_,⟨hw rfl,U rfl⟩,?_,?_⟩<;>omega
 ·rw[if_pos hc,show f.toNat=p.bj.length by omega];exact RN
def ez:ew:=⟨⟨1,1,0,0,0,0⟩,⟨1,1,0,0,0,0⟩,.zero,[0,0],[⟨0,⟨1,0,0,0,0,0⟩,5⟩,⟨1,⟨0,1,0,0,0,0⟩,7⟩]⟩
def Dz:NG:=⟨27,Unit,.nil,λ_=>True,λ_=>cI.put ez⟩
theorem Im:d' Dz:=by
 refine bI (L:=[]) Dz lk (by simp) ?_;intro _ _;refine NI (let d:=γc .i64;let e:=(0:Int);let f:=Ω;let g:=(1:Int);let c:=γu .i64 1;let a:=γu .i64 0;let b:=ez.bm;(γG [c,c,a,a,a,a,c,c,a,a,a,a,a,a,a,a,a,a,f (cj.i .i64) [e,e],f cj.bu [bA.mk e (oz.mk g e e e e e) (5:Int),bA.mk g (oz.mk e g e e e e) (7:Int)]]).bi (γG [d b.a0,d b.a1,d b.a2,d b.a3,d b.a4,d b.a5,d ez.bs.a0,d ez.bs.a1,d ez.bs.a2,d ez.bs.a3,d ez.bs.a4,d ez.bs.a5,d ez.bt.a0,d ez.bt.a1,d ez.bt.a2,d ez.bt.a3,d ez.bt.a4,d ez.bt.a5,f (cj.i .i64) ez.bk,f cj.bu ez.bj])) (by kernel_rfl) ?_;conv=>zeta
 try simp only[vcs]
 try rfl
theorem Sg {p:ew} (hc:nW p=0) (g:p.bj.length<=60) (j:∀c∈bD p,c.length<=15):
  Ct p (jC p,jV p,dM p)/\qC p (jC p,jV p,dM p)=0/\∀n:Nat,n<=(bD p).length->jc p (dM p) n=0:=by
 have d:(dM p).length=(bD p).length:=Φ _;have e:∀i,i<(bD p).length->nW (cH p (bN (bD p) i []))=0/\(cH p (bN (bD p) i [])).bj.length<=15:=λi hi=>by have hm:bN (bD p) i []∈bD p:=cy hi;exact⟨B7 hc (xY hm),by rw[vR];exact j _ hm⟩
 have hk:∀n:Nat,n<=(bD p).length->jc p (dM p) n=0:=by
  intro n;induction n with
  |zero=>exact λ_=>rfl;|succ n o=>
   intro l;show(if jc p (dM p) n≠0 then jc p (dM p) n else _)=0;rw[if_neg (by rw[o (by omega)];exact λh=>h rfl),Dk (by omega)];obtain⟨a,b⟩:=e n (by omega);exact SD a b
 obtain⟨k,m⟩:=JX hc;have q:(jC p).length<=2000:=by unfold jC;rw[pT];exact(k _ (π _)).1
 refine⟨⟨.inr g,by simp only;omega,λ_ _=>⟨λi hi=>?_,λ_=>⟨λn l=>by have:=k n l;simp only;omega,m⟩⟩⟩,?_,hk⟩
 ·simp only at hi ⊢;obtain⟨a,b⟩:=e i (by omega);have f:=xx a;rw[Dk (by omega)];exact⟨by have:=f.2.2.2;show(Oq _).bn.length<=_;omega,λ_ _=>(KM a b).1 _ (by have:=f.2.2.1;show _<=(Oq _).value/\(Oq _).value<=_;omega)⟩
 ·unfold qC;rw[if_neg (by simp[hc]),if_neg (by simp[d]),if_neg (by simp[d,hk _ (π _)]),if_neg (by simp[jC,jV])]
theorem Sf:nW ez=0:=by kernel_rfl
theorem JU:bD ez=[[0],[1]]:=by kernel_rfl
theorem Se:fw (bD ez) (dM ez) (dM ez).length=[0,1]:=by kernel_rfl
theorem JT:jC ez=[0,1]:=by unfold jC;rw[Se];exact List.mergeSort_of_pairwise (by simp)
theorem Sd:bG (jC ez) [0,1]=0:=by rw[JT];rfl
theorem Sc:pA ez [1]=0:=by kernel_rfl
def Dy:NG:=⟨11,Unit,.nil,λ_=>True,λ_=> .sb true⟩
theorem Is:d' Dy:=by
 refine bI (L:=[Dz,xT,Cu,Dt,CF,Dj]) Dy lk (by grind[Im,uD,y9,Ip,Rw,Io]) ?_;intro _ _;refine NI (let a:=δb false;let e:=γA;let f:=(0:Int);let g:=(1:Int);let b:=(jC ez,jV ez,dM ez);let d:=decide (bG (jC ez) [f,g]=f);let c:=λ(u:Bool) ↦decide (qC ez b=f)=u;True/\(nW ez≠f\/ez.bj.length<=60)/\True/\Cv ez/\True/\1<=1000000000000/\(true=true->(true=true->(true=true->(true=true->((jC ez).length<=1000000000000/\2<=1000000000000)/\(d=true->(true=true->True/\Ct ez b/\(c true->(true=true->(true=true->f<=f/\f<g/\0<(mV ez [g]).bj.length/\(e true).bi (e true))/\(true=false->(a).bi (e true)))/\(true=false->(a).bi (e true)))/\(c false->(a).bi (e true)))/\(true=false->(a).bi (e true)))/\(d=false->(a).bi (e true)))/\(true=false->(a).bi (e true)))/\(true=false->(a).bi (e true)))/\(true=false->(a).bi (e true)))/\(true=false->(a).bi (e true))) (by kernel_rfl) ?_;simp only[vcs];have e:=Sg Sf (by decide) (by grind[JU]);have g:(jC ez).length=2:=by grind[JT]
 have a:true=false->false=true:=λh=>by cases h
 have f:(mV ez [1]).bj.length=1:=by unfold mV;rw[if_pos Sc];rfl
 exact⟨.inr (by decide),.inr ⟨by decide,by grind[JU]⟩,by omega,λ_=>⟨λ_=>⟨λ_=>⟨λ_=>⟨(by omega),λ_=>⟨λ_=>⟨e.1,λ_=>⟨λ_=>⟨λ_=>(by omega),a⟩,a⟩,λh=>absurd e.2.1 h⟩,a⟩,λh=>absurd Sd h⟩,a⟩,a⟩,a⟩,a⟩
noncomputable def Sb (p:ew):Nat->bH
 |5=> .inv Int (λi=>⟨[(1,.ptr 0 0 20),(3,.row (.zi (.i .i64)) (if nW p=0 then bD p else[])),(5,.si .i64 i)],[.cells p.ss 27 20 false]⟩)
   (λs=>iS s 5) (λi=>(0<=i/\i<=(if nW p=0 then bD p else[]).length)/\∀k:Nat,(k:Int)<i->(bN (if nW p=0 then bD p else[]) k []).length<=12) (λi=>((if nW p=0 then bD p else[]).length - i).toNat) λ_ _=> .look
 |_=> .look
noncomputable def Dx:NG:=⟨9,ew,.one cI,λ_=>True,λ_=> .sb true⟩
theorem It:d' Dx:=by
 refine bI (L:=[xa,Dy,Cu,Df,CB,CE,CD]) Dx (λp=>Sb p) (by grind[CO,Is,y9,Iq,Rs,Rv,Ru]) ?_;intro(p:ew) _;refine NI (let c:=(0:Int);let e:=γA;let g:=δb false;let h:=TP .i64;let u:=Ω;let C:=(1:Int);let l:=(↑p.bk.length:Int);let K:=decide ((8:Int)<l);let M:=decide ((40:Int)<(↑p.bj.length:Int));let J:=decide (nW p≠c);let B:=γM 0 0 20;let w:=(cj.i .i64).zi;let f:=if nW p=c then bD p else[];let z:=iZ.cells (ew.ss p) 27 20 false;let A:=if nW p=c then bD p else[];let r:=(↑A.length:Int);let j:=C*(2:Int)^l.toNat;let d:=j - C;let m:=decide (nW p=c);let t:=decide (kz p d=c);let q:=decide ((if nW p=c then jV p else c)=lh p d);let b:=if nW p=c then jC p else[];let n:=decide (cq p b=c);let s:=decide (dA p b=lh p d);(K=true->True/\(e true).bi (e true))/\(K=false->(M=true->True/\(e true).bi (e true))/\(M=false->True/\(J=true->True/\(e true).bi (e true))/\(J=false->(nW p≠c\/p.bj.length<=60)/\(((B.bi B/\(u w f).bi (u w f)/\(γu .i64 0).bi (γc .i64 0)/\True)/\z.bi z/\True)/\(c<=c/\c<=r)/\∀(k:Nat),(↑k:Int)<c->(bN A k []).length<=12)/\∀(x:Int),let v:=decide (x<(↑f.length:Int));let o:=decide ((12:Int)<(↑(bN f x.toNat w.bw).length:Int));let a:=x+C;let y:=γc .i64 a;((c<=x/\x<=r)/\∀(k:Nat),(↑k:Int)<x->(bN A k []).length<=12)->(v=true->c<=x/\x<(↑f.length:Int)/\x.toNat<f.length/\(o=true->True/\(e true).bi (e true))/\(o=false->h a/\((B.bi B/\(u w f).bi (u w f)/\y.bi y/\True)/\z.bi z/\True)/\((c<=a/\a<=r)/\∀(k:Nat),(↑k:Int)<a->(bN A k []).length<=12)/\(r - a).toNat<(r - x).toNat))/\(v=false->Cv p/\TP .u64 l/\c<=l/\l<=(64:Int)/\h j/\h d/\True/\(m=true->(t=true->(q=true->b.length<=9223372036854775807/\(n=true->b.length<=9223372036854775807/\(s=true->True/\(e true).bi (e true))/\(s=false->(g).bi (e true)))/\(n=false->(g).bi (e true)))/\(q=false->(g).bi (e true)))/\(t=false->(g).bi (e true)))/\(m=false->(g).bi (e true))))))) (by kernel_rfl) ?_;simp only[vcs];refine⟨λ_=>trivial,λY=>⟨λ_=>trivial,λV=>⟨λ_=>trivial,λh=>?_⟩⟩⟩;have g:nW p=0:=γa.1 h;have W:=B5 g;obtain⟨Q,S⟩:=RX g;simp only[if_pos g,Q,S];refine⟨.inr (by omega),⟨by omega,λk I=>by omega⟩,?_⟩;rintro i ⟨⟨U,X⟩,R⟩;refine⟨λD=>⟨U,D,by omega,λ_=>trivial,λu=>⟨by omega,⟨by omega,λk I=>?_⟩,by omega⟩⟩,λP=>?_⟩
 ·by_cases e:(k:Int)<i;·exact R k e
  ·rw[show k=i.toNat by omega];have u:¬(12:Int)<((bN (bD p) i.toNat []).length:Nat):=u;omega
 ·have E:∀c∈bD p,c.length<=15:=λc G=>by obtain⟨k,I,rfl⟩:=γJ G;grind[bR]
  have N:(1:Int)*2^((p.bk.length:Nat):Int).toNat - 1=allM p:=by unfold allM;rw[γg];omega
  have C:(2:Int)^((p.bk.length:Nat):Int).toNat<=256/\(1:Int)<=2^((p.bk.length:Nat):Int).toNat:=by
   rw[γg];have:p.bk.length=0\/p.bk.length=1\/p.bk.length=2\/p.bk.length=3\/p.bk.length=4\/p.bk.length=5\/p.bk.length=6\/p.bk.length=7\/p.bk.length=8:=by omega
   rcases this with e|e|e|e|e|e|e|e|e<;>rw[e]<;>decide
  have F:=xx g;have T:=F.2.2.2;have O:lh p (allM p)=(Oq p).value:=(LN g).2.2.symm;have H:kz p (allM p)=0:=by
   unfold kz allM;rw[if_neg (by simp[g]),if_neg];have:(1:Int)<=2^p.bk.length:=by have:=C.2;rwa [γg] at this
   omega
  rw[N];refine⟨.inr ⟨by omega,E⟩,?_,by omega,by omega,by omega,by rw[<-N];omega,λ_=>⟨λ_=>⟨λ_=>⟨by omega,λ_=>⟨by omega,λ_=>trivial,λh=>absurd (F.2.1.trans O.symm) h⟩,λh=>absurd F.1 h⟩,λh=>absurd O.symm h⟩,λh=>absurd H h⟩,λh=>absurd g h⟩;grind[u64_in]
end Go.Vi
