/-
  Plain law: the first best list is found offer by offer.
  Conditions: none.
-/
import Derived.Test.YtbnhiekmnpikhaaGreatDK06
import Derived.Test.YtbnhiekmnpikhaaGreatDK07
import Derived.Test.YtbnhiekmnpikhaaGreatDK12
import Derived.Test.YtbnhiekmnpikhaaGreatDK09
import Derived.Test.YtbnhiekmnpikhaaGreatDK08
import Derived.Test.YtbnhiekmnpikhaaGreatDK10
import Derived.Test.YtbnhiekmnpikhaaGreatDK11
set_option maxRecDepth 100000
set_option maxHeartbeats 4000000
set_option linter.all false
open Bool renaming eq_false_iff->δI,false_eq_true->χ,and_eq_true->θ
open Classical renaming not_not->γj
open Go.Vi.SV renaming si->γi,row->Ω,ia->θd,bl->δf,sb->γw,il->γy,ow->γ1,ptr->γT
open Int renaming toNat_natCast->γl,toNat->ζr
open IntCast renaming intCast->κ
open List renaming pairwise_cons->γA,mem_cons_of_mem->γS,append_assoc->γV,cons_append->γG,replicate->δ,filter_eq_nil_iff->εa,filter_eq_self->εw,mem_map->Ψ,mem_filter->γt,length_filter_le->δc,length_drop->δ8,append_nil->γ7,take->ω,length->γc,all_eq_true->φ,all_append->ζJ,take_length->ψ,range->Γ,ext_getElem->γ8,count_pos_iff->δT,mem_range->γx,length_take->γq,length_set->Φ
open List.Perm renaming append_left->ζK
open Nat renaming pow_le_pow_right->δp,le_refl->ξ
open Rat renaming add_zero->ζL
namespace Go.Vi
theorem E2 {a b c:Alloc} (h:¬mI a b) (k:¬mI b c):¬mI a c:=λd=>by
 grind[Ry,abN]
theorem UM {a b:Alloc}:¬mI a (better a b)/\¬mI b (better a b):=by
 unfold better;split
 ·rename_i h;have h:mI a b:=h;grind[D4,Ry]
 ·rename_i h;exact⟨h,D4⟩
theorem Br {p:bn}:∀{k:Nat} {i:Int} {a b:Alloc},¬mI b (lC p k i a b)
 |0,_,_,b=>by grind[lC,D4];|k+1,i,a,b=>by
  simp only[lC];refine E2 ?_ Br;split;·exact E2 UM.2 Br
  ·exact D4
theorem K4 {p:bn} (o:Good p):∀{k:Nat} {i:Int} {a b:Alloc} {t:List Int},0<=i->i+k<=p.offers.length->t≠[]->ny i k t->lA p (a.chosen++t)=true->¬mI ⟨a.chosen++t,a.value+cK (cY p t)⟩ (lC p k i a b)
 |0,i,a,b,t,_,_,r,c,_=>by
  cases t with
  |nil=>simp_all;|cons j t=>
   have:=c.2 j (by simp);omega
 |k+1,i,a,b,t,y,x,r,c,s=>by
  cases t with
  |nil=>simp_all;|cons j t=>
   have w:=c.2 j (by simp);have u:=γA.1 c.1;simp only[lC];by_cases n:j=i
   ·subst n;have g:Dz p t:=λm l=>by
     have:=c.2 m (by simp[l]);omega
    have d:lA p (a.chosen++[j]++t)=true:=by simp_all
    have q:lA p (a.chosen++[j])=true:=Ql o g d;rw[if_pos q];refine E2 ?_ Br;rw[sO];simp only[cK];cases t with
    |nil=>
     grind[E2,Br,UM,cK,cY,lB];|cons h f=>
     have:=K4 o (k:=k) (i:=j+1) (a:=⟨a.chosen++[j],a.value+lB p j⟩) (b:=better ⟨a.chosen++[j],a.value+lB p j⟩ b) (t:=h::f) (by omega) (by omega) (by simp) ⟨u.2,λm l=>by
      have v:=c.2 m (γS _ l);grind⟩ d;have e:(⟨a.chosen++j::h::f,a.value+((bj p.offers j.toNat bp.off.dflt).value+cK (cY p (h::f)))⟩:Alloc)=⟨a.chosen++[j]++h::f,a.value+lB p j+cK (cY p (h::f))⟩:=by
      simp only[Alloc.mk.injEq,γV,γG,List.nil_append,lB,true_and];omega
     simp_all
   ·exact K4 o (by omega) (by omega) (by simp) ⟨c.1,λm l=>by
     have v:=c.2 m l;grind⟩ s
theorem ae8 {p:bn} (e:Good p) {t:List Int} (d:rO p t):¬mI ⟨t,cK (cY p t)⟩ (cB p):=by
 rw[Ig];by_cases c:t=[]
 ·subst c;exact Br
 ·have:=K4 e (k:=p.offers.length) (i:=0) (a:=⟨[],0⟩) (b:=⟨[],0⟩) (t:=t) (by omega) (by omega) c d.1 (by simpa[lA] using d.2);simp_all
theorem UN:∀{c a b:List Int},cmpL (c++a) (c++b)=cmpL a b
 |[],_,_=>rfl
 |x::c,a,b=>by
  simp only[γG,cmpL,Int.lt_irrefl,if_false];exact UN
noncomputable def qR (p:bn) (a:Int) (u:jA) (i:Int):jA:=
 if u.value=a then u else if jj p u (oI p i)=true then(if j6 (gR p (fh p u i) (i+1).toNat) (a - (fh p u i).value) 65536=true then fh p u i else u) else u
noncomputable def j7 (p:bn) (a:Int):Nat->jA
 |0=>⟨p.supply,p.opn,[],0,δ 8 false⟩
 |n+1=>qR p a (j7 p a n) n
theorem good_start {p:bn} (d:bz p=0):rP p ⟨p.supply,p.opn,[],0,δ 8 false⟩:=by
 have a:=dR d;refine⟨aeL a,rfl,λk c=>?_,λk c=>?_,rfl,λb f e=>?_⟩
 ·show _=_ - (dV (([]:List Off).map Off.want)).at k;grind[oo]
 ·show _=min (_ - (dV (([]:List Off).map (yU p))).at k) _;simp_all[oo,wH,min]
 ·show _=decide (b∈([]:List Int));grind[cQ]
theorem UO {i:Int}:∀{L:List Int},L.Pairwise (·<·)->L=L.filter (λj=>decide (j<i))++L.filter (λj=>!decide (j<i))
 |[],_=>rfl
 |x::L,h=>by
  have a:=γA.1 h;have c:=UO (i:=i) a.2;by_cases d:x<i;·grind
  ·have e:L.filter (λj=>decide (j<i))=[]:=εa.2 λj b=>by grind
   grind
theorem ae9 {i:Int} {L:List Int} (h:i∉L):L.filter (λj=>decide (j<i+1))=L.filter (λj=>decide (j<i)):=by
 refine List.filter_congr λj a=>?_;grind
theorem afa {i:Int} {L:List Int} (b:L.Pairwise (·<·)) (h:i∈L):L.filter (λj=>decide (j<i+1))=L.filter (λj=>decide (j<i))++[i]/\L=L.filter (λj=>decide (j<i))++i::L.filter (λj=>decide (i<j)):=by
 induction L with
 |nil=>cases h;|cons x L f=>
  have g:=γA.1 b;by_cases c:x=i
  ·subst c;have e:L.filter (λj=>decide (j<x))=[]:=εa.2 λj a=>by grind
   have k:L.filter (λj=>decide (j<x+1))=[]:=εa.2 λj a=>by grind
   have d:L.filter (λj=>decide (x<j))=L:=εw.2 λj a=>by simp_all
   grind
  grind
theorem afb {p:bn} (a:Good p):∀{L:List Off},(∀x∈L,x∈p.offers)->L≠[]->0<cK L
 |[],_,h=>absurd rfl h
 |x::L,h,_=>by
  have c:=(a.2.2.2.2 x (h x (List.mem_cons_self ..))).2.2.2.1;have d:=(sN a (l:=L) λy b=>h y (γS _ b)).1;grind[cK]
theorem afc {p:bn} (i:bz p=0) {k:Nat} (d:k<=p.offers.length) {M:List Off} (g:∀x∈M,x∈p.offers.drop k) (c:M.Nodup):∃t:List Int,t.Pairwise (·<·)/\(∀j∈t,(k:Int)<=j/\j<p.offers.length)/\(cY p t).Perm M:=by
 obtain⟨t,b,h,a⟩:=Il (λx=>decide (x∈M)) (p.offers.drop k) (p.offers.take k);have e:(p.offers.take k).length=k:=by simp_all
 refine⟨t,b,λj f=>?_,?_⟩;·grind
 ·rw[List.take_append_drop] at a;unfold cY;rw[a];refine(List.perm_ext_iff_of_nodup ?_ c).2 λx=>?_;·grind[Qr]
  simp_all
theorem Bt {p:bn} (d:bz p=0):rO p (cB p).chosen/\(cB p).value=cK (cY p (cB p).chosen):=by
 obtain⟨_,a,b,c⟩:=QK d;exact⟨⟨b,a⟩,c⟩
theorem K5 {p:bn} (m:bz p=0) (W:p.offers.length<=15):∀n:Nat,n<=p.offers.length->rP p (j7 p (cB p).value n)/\(j7 p (cB p).value n).chosen=(cB p).chosen.filter λ(j:Int)=>decide (j<(n:Int))
 |0,_=>⟨good_start m,by
   have h:=(Bt m).1.1.2;exact(εa.2 λj g=>by simp_all).symm⟩
 |n+1,hn=>by
  obtain⟨G,P⟩:=K5 m W n (by omega);have o:=dR m;obtain⟨⟨⟨hs,hr⟩,hF⟩,hv⟩:=Bt m;have a7:rO p (cB p).chosen:=⟨⟨hs,hr⟩,hF⟩;have I:∀j∈(j7 p (cB p).value n).chosen,j<(n:Int):=λj g=>by
   simp_all
  have N:((n:Nat):Int)+1=((n+1:Nat):Int):=by omega
  have J:(0:Int)<=n/\(n:Int)<p.offers.length:=by omega
  have q:oI p n∈p.offers:=dr (by omega);have a4:=UO (i:=(n:Int)) hs;show rP p (qR p (cB p).value (j7 p (cB p).value n) n)/\(qR p (cB p).value (j7 p (cB p).value n) n).chosen=_;generalize j7 p (cB p).value n=u at*;have C:∀{t:List Int},(∀j∈t,j∈(cB p).chosen)->∀x∈cY p t,x∈p.offers:=λht x q=>by
   obtain⟨j,g,rfl⟩:=Ψ.1 q;have:=hr j (ht j g);exact dr (by omega)
  by_cases e:u.value=(cB p).value
  ·unfold qR;rw[if_pos e];refine⟨G,?_⟩;have R:(cB p).chosen.filter (λj=>!decide (j<(n:Int)))=[]:=by
    refine Classical.byContradiction λU=>?_;have S:=afb o (L:=cY p ((cB p).chosen.filter (λj=>!decide (j<(n:Int))))) (C λj g=>(γt.1 g).1) (by unfold cY;simpa using U);rw[G.v,P,hv] at e;grind[um,pP]
   have a1:∀j∈(cB p).chosen,j<(n:Int):=λj g=>by
    grind
   rw[P,εw.2 λj g=>by grind];exact(εw.2 λj g=>by grind).symm
  ·by_cases K:(n:Int)∈(cB p).chosen
   ·obtain⟨f1,f2⟩:=afa hs K;rw[<-P] at f1 f2;have A:jq p (cY p u.chosen++[oI p n]++cY p ((cB p).chosen.filter λj=>decide ((n:Int)<j))):=by
     have:cY p u.chosen++[oI p n]++cY p ((cB p).chosen.filter λj=>decide ((n:Int)<j))=cY p (cB p).chosen:=by
      conv=>rhs;rw[f2]
      rw[um,sO,γV];rfl
     grind
    have B:=C (t:=(cB p).chosen.filter λj=>decide ((n:Int)<j)) λj g=>(γt.1 g).1;have Q:jj p u (oI p n)=true:=(E0 m G q).2 (Ic o B A);have c:=G.next m I J Q;have z:=E1 (k:=((n:Int)+1).toNat) m c;have r:cY p (fh p u n).chosen=cY p u.chosen++[oI p n]:=by
     show cY p (u.chosen++[(n:Int)])=_;rw[um];rfl
    have O:∀x∈cY p ((cB p).chosen.filter λj=>decide ((n:Int)<j)),jj p (fh p u n) x=true:=λx w=>by
     refine(E0 m c (B x w)).2 ?_;rw[r];obtain⟨s,t,a0⟩:=List.append_of_mem w;have F:(cY p u.chosen++[oI p n]++cY p ((cB p).chosen.filter λj=>decide ((n:Int)<j))).Perm (cY p u.chosen++[oI p n]++[x]++(s++t)):=by
      rw[a0,γV (cY p u.chosen++[oI p n])];refine ζK _ ?_;exact List.perm_middle
     refine Ic o (M:=s++t) (λy hy=>B y ?_) (Ik F A);grind
    have Y:=(K3 (k:=((n:Int)+1).toNat) m c B O).2 (by grind);have Z:∀x∈cY p ((cB p).chosen.filter λj=>decide ((n:Int)<j)),x∈(gR p (fh p u n) ((n:Int)+1).toNat).offers:=λx w=>by
     refine γt.2 ⟨?_,O x w⟩;obtain⟨j,g,rfl⟩:=Ψ.1 w;obtain⟨V,a8⟩:=γt.1 g;have h3:=hr j V;have h4:(n:Int)<j:=by grind
     rw[cQ (by omega)];rw[List.mem_iff_getElem];exact⟨j.toNat - ((n:Int)+1).toNat,by grind,by rw[List.getElem_drop];congr 1;omega⟩
    have H:=aeM z Y Z;rw[DI z] at H;have a2:(cB p).value=(fh p u n).value+cK (cY p ((cB p).chosen.filter λj=>decide ((n:Int)<j))):=by
     rw[c.v,r,hv];conv=>lhs;rw[f2,um,sO,pP]
     rw[pP];grind[cK,oI]
    have T:(gR p (fh p u n) ((n:Int)+1).toNat).offers.length<=15:=by
     have S:=δc (jj p (fh p u n)) (p.offers.drop ((n:Int)+1).toNat);rw[δ8] at S;show((p.offers.drop _).filter _).length<=15;omega
    have l:ji (gR p (fh p u n) ((n:Int)+1).toNat) ((cB p).value - (fh p u n).value) 65536=0:=KI z (by omega) (by
     have:2^((gR p (fh p u n) ((n:Int)+1).toNat).offers.length+1)<=2^16:=δp (by omega) (by omega);omega);have E:j6 (gR p (fh p u n) ((n:Int)+1).toNat) ((cB p).value - (fh p u n).value) 65536=true:=(Ux z l).2 (by omega);unfold qR;rw[if_neg e,if_pos Q,if_pos E];refine⟨c,?_⟩;rw[<-N,f1];rfl
   ·rw[<-N,ae9 K,<-P];unfold qR;rw[if_neg e];split
    ·rename_i Q;split
     ·rename_i E;exfalso;have c:=G.next m I J Q;have z:=E1 (k:=((n:Int)+1).toNat) m c;have r:cY p (fh p u n).chosen=cY p u.chosen++[oI p n]:=by
       show cY p (u.chosen++[(n:Int)])=_;rw[um];rfl
      have T:(gR p (fh p u n) ((n:Int)+1).toNat).offers.length<=15:=by
       have S:=δc (jj p (fh p u n)) (p.offers.drop ((n:Int)+1).toNat);rw[δ8] at S;show((p.offers.drop _).filter _).length<=15;omega
      have l:ji (gR p (fh p u n) ((n:Int)+1).toNat) ((cB p).value - (fh p u n).value) 65536=0:=KI z (by omega) (by
       have:2^((gR p (fh p u n) ((n:Int)+1).toNat).offers.length+1)<=2^16:=δp (by omega) (by omega);omega);have a6:=(Ux z l).1 E;obtain⟨M,m1,m2,m3⟩:=aeN z;rw[DI z] at m3;have D:∀x∈M,x∈p.offers.drop ((n:Int)+1).toNat/\jj p (fh p u n) x=true:=λx q=>γt.1 (m2 x q);have A:=(K3 m c (λx q=>List.mem_of_mem_drop (D x q).1) λx q=>(D x q).2).1 m1;obtain⟨t,t1,t2,t3⟩:=afc m (k:=((n:Int)+1).toNat) (by omega) (λx q=>(D x q).1) (DD Off.bX m1.1);have hT:rO p (u.chosen++(n:Int)::t):=by
       refine⟨⟨?_,?_⟩,?_⟩
       ·rw[List.pairwise_append];refine⟨G.f.1.1,γA.2 ⟨λj g=>by grind,t1⟩,λa ha b hb=>?_⟩;grind
       ·intro j g;rcases List.mem_append.1 g with h|h;·grind
        ·rcases List.mem_cons.1 h with rfl|h<;>grind
       ·rw[um,sO];refine Ik ?_ A;rw[r,γV];exact ζK _ (List.Perm.cons _ t3.symm)
      have a3:cK (cY p (u.chosen++(n:Int)::t))=(fh p u n).value+cK M:=by
       rw[c.v,r,um,sO,pP,pP,<-Qq t3];grind[cK,oI]
      have H:=Ih o hT.1 (decide_eq_true hT.2);refine ae8 o hT (.inr ⟨(show cK (cY p (u.chosen++(n:Int)::t))=(cB p).value by omega),?_⟩);show cmpL (u.chosen++(n:Int)::t) (cB p).chosen<0;have R:(cB p).chosen=u.chosen++(cB p).chosen.filter (λj=>!decide (j<(n:Int))):=by grind
      have a5:(cB p).chosen.filter (λj=>!decide (j<(n:Int)))≠[]:=λh=>by
       rw[h,γ7] at R;refine e ?_;rw[G.v,<-R,hv]
      have X:∀j∈(cB p).chosen.filter (λj=>!decide (j<(n:Int))),(n:Int)<j:=λj g=>by
       grind
      rw[R];generalize (cB p).chosen.filter (λj=>!decide (j<(n:Int)))=d at*;cases d with
      |nil=>grind;|cons j d=>
       rw[UN];have:=X j (by simp);simp only[cmpL];omega
     grind
    grind
theorem UP {p:bn} (b:bz p=0) (a:p.offers.length<=15):(j7 p (cB p).value p.offers.length).chosen=(cB p).chosen:=by
 rw[(K5 b a p.offers.length (ξ _)).2];have h:=(Bt b).1.1.2;simp_all
open Go.Proofs.YtbnhiekmnpikhaaGreat.Ir
open Go.Proofs
def afd (p:bn):Int:=rE p (allM p)
theorem afe {p:bn} (a:bz p=0):rO p (cB p).chosen/\ef p (cB p).chosen=(cB p).value/\(cB p).value=afd p:=by
 obtain⟨_,d,b,e⟩:=QK a;have c:rO p (cB p).chosen:=⟨b,d⟩;exact⟨c,by grind[KD],(DI a).symm⟩
def ofV (n:dj):SV:=.ite (decide (n.1=1)) (.ia 204 (encS bF n)) (.ite (decide (n.1=2)) (.ia 205 (encS bF n)) (.ite (decide (n.1=3)) (.ia 206 (encS bF n)) (.ia 208 [])))
def E3:bM:=⟨86,dj,.one (eh bF),λ_=>True,ofV⟩
theorem h485:Holds Tryz.prog E3:=by
 refine cH (L:=[]) E3 lk (by simp) ?_;rintro⟨k,o,a,b,y⟩ _;refine bR (let c:=γi .i64;let d:=(1:Int);let e:=(2:Int);let f:=(3:Int);let i:=decide (k=d);let g:=[c k,c o,c a,c b,Ω sF y];let n:=θd 204 g;let j:=decide (k=e);let p:=θd 205 g;let l:=decide (k=f);let q:=θd 206 g;let h:=θd 208 [];let m:=λ(u:Int) (u_1:Nat) ↦decide (k=u)=true->(i=true->(θd u_1 g).same n)/\(i=false->(j=true->(θd u_1 g).same p)/\(j=false->(l=true->(θd u_1 g).same q)/\(l=false->(θd u_1 g).same h)));m d 204/\(decide (k=d)=false->m e 205/\(decide (k=e)=false->m f 206/\(decide (k=f)=false->(i=true->h.same n)/\(i=false->(j=true->h.same p)/\(j=false->(l=true->h.same q)/\(l=false->h.same h))))))) (by kernel_rfl) ?_;simp only[vcs];repeat' (first|refine And.intro ?_ ?_|intro _)
 all_goals first|trivial|omega
def rQ (n:dj):Bool:=decide (n.2.1=0)&&decide (n.2.2.1=0)&&decide (n.2.2.2.1=0)
def E4:bM:=⟨211,dj,.one (eh bF),λ_=>True,λn=> .sb (rQ n)⟩
theorem h495:Holds Tryz.prog E4:=by
 refine cH (L:=[]) E4 lk (by simp) ?_;rintro⟨k,o,a,b,y⟩ _;refine bR (let f:=δf false;let g:=(0:Int);let e:=decide (o=g);let d:=decide (a=g);let c:=γw (rQ (k,o,a,b,y));(e=true->(d=true->(γw (decide (b=g))).same c)/\(d=false->(f).same c))/\(e=false->(f).same c)) (by kernel_rfl) ?_;simp_all[rQ]
def wf1 (n:dj):Bool:=rQ n&&decide (n.2.2.2.2.length<=40)&&n.2.2.2.2.all okF
def K6:bM:=⟨209,dj,.one (eh bF),λn=>∀x∈n.2.2.2.2,iW x,λn=> .sb (wf1 n)⟩
def afg (n:dj):Nat->cF
 |4=> .inv Int (λi=>⟨[(18,.row sF n.2.2.2.2),(19,.si .i64 n.2.2.2.2.length),(20,.si .i64 i)],[.cells (encS bF n) 204 5 false]⟩) (λs=>iS s 20)
  (λi=>0<=i/\i<=n.2.2.2.2.length/\(n.2.2.2.2.take i.toNat).all okF=true) (λi=>(n.2.2.2.2.length - i).toNat) λ_ _=> .look
 |_=> .look
theorem h493:Holds Tryz.prog K6:=by
 refine cH (L:=[E4,uA]) K6 afg (by simpa using⟨h495,h407⟩) ?_;rintro⟨k,o,a,b,y⟩ hy;have hy:∀x∈y,iW x:=hy;refine bR (let c:=γi .i64;let d:=(0:Int);let e:=δf false;let f:=Ω;let p:=!rQ (k,o,a,b,y);let j:=γw (wf1 (k,o,a,b,y));let m:=(↑y.length:Int);let q:=decide ((40:Int)<m);let g:=(↑y.length:Int);let n:=c g;let l:=bq.cells [c k,c o,c a,c b,f sF y] 204 5 false;True/\(p=true->(e).same j)/\(p=false->(q=true->(e).same j)/\(q=false->((((f sF y).same (f sF y)/\(c m).same n/\(γy .i64 0).same (c 0)/\True)/\l.same l/\True)/\d<=d/\d<=g/\true=true)/\∀(x:Int),let h:=bj y x.toNat sF.dflt;let i:=x+(1:Int);let r:=c i;let s:=λ(u:Bool) ↦(!okF (h.fst,h.snd.fst,h.snd.snd))=u;d<=x/\x<=g/\(ω x.toNat y).all okF=true->(decide (x<g)=true->d<=x/\x<m/\x.toNat<y.length/\((bA h.snd.fst/\bA h.snd.snd)/\γc h.snd.fst<=10000000/\γc h.snd.snd<=10000000)/\(s true->(e).same j)/\(s false->cu .i64 i/\(((f sF y).same (f sF y)/\n.same n/\r.same r/\True)/\l.same l/\True)/\(d<=i/\i<=g/\(ω i.toNat y).all okF=true)/\(g - i).toNat<(g - x).toNat))/\(decide (x<g)=false->(δf true).same j)))) (by kernel_rfl) ?_;simp only[vcs];refine⟨λh=>by simp[wf1,h],λhp=>⟨λh40=>?_,λh40=>⟨⟨by omega,by omega⟩,?_⟩⟩⟩
 ·have:¬y.length<=40:=by omega
  simp[wf1,this]
 rintro i ⟨i0,i1,hi⟩;refine⟨λhlt=>?_,λhge=>?_⟩
 ·have hm:=dr (d:=sF.dflt) (show i.toNat<y.length by omega);have et:=jX (d:=sF.dflt) i0 hlt;refine⟨i0,hlt,by omega,hy _ hm,λh=>?_,λh=>⟨⟨by omega,by omega⟩,⟨by omega,by omega,?_⟩,by omega⟩⟩
  ·have h:okF (bj y i.toNat sF.dflt)=false:=h;have:y.all okF=false:=by
    rw[δI];intro ha;have:=φ.1 ha _ hm;rw[h] at this;cases this
   simp[wf1,this]
  ·have h:okF (bj y i.toNat sF.dflt)=true:=h;rw[et,ζJ,hi];simp[h]
 ·rw[show i.toNat=y.length by omega,ψ] at hi;have:y.length<=40:=by omega
  simp[wf1,hp,hi,this]
def oJ (k:Int):Bool:=decide (0<=k)&&decide (k<=65536)
def wf2 (n:dj):Bool:=oJ n.2.1&&oJ n.2.2.1&&oJ n.2.2.2.1&&decide (n.2.2.2.2=[])
def K7:bM:=⟨215,dj,.one (eh bF),λ_=>True,λn=> .sb (wf2 n)⟩
theorem h499:Holds Tryz.prog K7:=by
 refine cH (L:=[]) K7 (λ_ _=> .qu 4) (by simp) ?_;rintro⟨k,o,a,b,y⟩ _;refine bR (let r:=(0:Int);let s:=δf false;let t:=(65536:Int);let u:=(3:Int);let v:=γw;let j:=bj [o,a,b] 0 r;let g:=decide (j<r);let c:=v (wf2 (k,o,a,b,y));let m:=decide (t<j);let n:=bj [o,a,b] 1 r;let q:=decide (n<r);let i:=decide (t<n);let p:=bj [o,a,b] 2 r;let l:=decide (p<r);let h:=decide (t<p);let f:=bj [o,a,b] 3 r;let d:=decide (f<r);let e:=decide (t<f);(true=true->r<=r/\r<u/\0<3/\(g=true->(s).same c)/\(g=false->(m=true->(s).same c)/\(m=false->(true=true->r<=(1:Int)/\(1:Int)<u/\1<3/\(q=true->(s).same c)/\(q=false->(i=true->(s).same c)/\(i=false->(true=true->r<=(2:Int)/\(2:Int)<u/\2<3/\(l=true->(s).same c)/\(l=false->(h=true->(s).same c)/\(h=false->(false=true->r<=u/\u<u/\3<3/\(d=true->(s).same c)/\(d=false->(e=true->(s).same c)/\(e=false->False)))/\(false=false->(v (decide ((↑y.length:Int)=r))).same c))))/\(true=false->(v (decide ((↑y.length:Int)=r))).same c))))/\(true=false->(v (decide ((↑y.length:Int)=r))).same c))))/\(true=false->(v (decide ((↑y.length:Int)=r))).same c)) (by kernel_rfl) ?_;simp_all[bj,oJ,decide_eq_false,wf2]
def uN (n:dj):Bool:=rQ n&&decide (n.2.2.2.2=[])
def K8:bM:=⟨219,dj,.one (eh bF),λ_=>True,λn=> .sb (uN n)⟩
theorem h503:Holds Tryz.prog K8:=by
 refine cH (L:=[E4]) K8 lk (by grind[h495]) ?_;rintro⟨k,o,a,b,y⟩ _;refine bR (let d:=rQ (k,o,a,b,y);let c:=γw (uN (k,o,a,b,y));True/\(d=true->(γw (decide ((↑y.length:Int)=(0:Int)))).same c)/\(d=false->(δf false).same c)) (by kernel_rfl) ?_;simp_all[uN]
def K9:qx Unit where
 put _:=.agg [];dec
  | .agg []=>some ()
  |_=>none;ok v a h:=by
  grind
 inj a b h:=rfl
def La:bM:=⟨223,Unit,.one K9,λ_=>True,λ_=> .sb false⟩
theorem h507:Holds Tryz.prog La:=by
 refine cH (L:=[]) La lk (by simp) ?_;rintro _ _;refine bR ((δf false).same (γw false)) (by kernel_rfl) ?_;rfl
def Lc:bM:=⟨207,dj,.one (eh bF),λ_=>True,λ_=> .row (.i .i64) []⟩
theorem h491:Holds Tryz.prog Lc:=by
 refine cH (L:=[]) Lc lk (by simp) ?_;rintro⟨k,o,a,b,y⟩ _;refine bR (let c:=Ω (bp.i .i64) [];c.same c) (by kernel_rfl) ?_;simp_all
def Ld:bM:=⟨213,dj,.one (eh bF),λ_=>True,λn=> .row (.i .i64) [n.2.2.1,n.2.2.2.1]⟩
theorem h497:Holds Tryz.prog Ld:=by
 refine cH (L:=[]) Ld lk (by simp) ?_;rintro⟨k,o,a,b,y⟩ _;refine bR (let c:=Ω (bp.i .i64) [a,b];c.same c) (by kernel_rfl) ?_;simp_all
def Le:bM:=⟨217,dj,.one (eh bF),λ_=>True,λ_=> .row (.i .i64) []⟩
theorem h501:Holds Tryz.prog Le:=by
 refine cH (L:=[]) Le lk (by simp) ?_;rintro⟨k,o,a,b,y⟩ _;refine bR (let c:=Ω (bp.i .i64) [];c.same c) (by kernel_rfl) ?_;simp_all
def r505:bM:=⟨221,Unit,.one K9,λ_=>True,λ_=> .row (.i .i64) []⟩
theorem h505:Holds Tryz.prog r505:=by
 refine cH (L:=[]) r505 lk (by simp) ?_;rintro _ _;refine bR (let a:=Ω (bp.i .i64) [];a.same a) (by kernel_rfl) ?_;simp_all
def jB (n:dj):List Int:=if n.1=2 then[n.2.2.1,n.2.2.2.1] else[]
def tg (n:dj):Bool:=if n.1=1 then wf1 n else if n.1=2 then wf2 n else if n.1=3 then uN n else false
def ic (t:List dj) (i:Nat):List Int:=(t.take i).flatMap jB
def ln (n:Nat) (c:List Int):List Int:=(dp n).map λk=>(c.count k:Int)
def uO (n:Nat) (i:Int) (c:List Int):List Int->Bool
 |[]=>true
 |x::r=>decide (i<x/\x<n)&&decide (x∉c)&&uO n i (c++[x]) r
def kR (t:List dj) (i:Nat):Bool:=tg (bj t i bF.dflt)&&uO t.length i (ic t i) (jB (bj t i bF.dflt))
def dU (t:List dj):Bool:=decide (1<=t.length/\t.length<=65536)&&((Γ t.length).all (kR t)&&(Γ (t.length - 1)).all λk=>decide (((k:Int)+1)∈ic t t.length))
theorem yW {n:Nat} {c:List Int}:(ln n c).length=n:=by simp[ln,iT]
theorem yX {n j:Nat} {c:List Int} (h:j<n):bj (ln n c) j 0=(c.count (j:Int):Nat):=by
 grind[ln,cQ,dp]
theorem UQ {n:Nat} {c:List Int} {x:Int} (l:0<=x) (g:x<n):(ln n c).set x.toNat (bj (ln n c) x.toNat 0+1)=ln n (c++[x]):=by
 refine γ8 (by grind[yW]) λj h i=>?_;have a:j<n:=by grind[yW]
 have e:x.toNat<n:=by omega
 have b:=@yX n j (c++[x]) a;rw[cQ (by omega)] at b;rw[b,List.getElem_set];have k:=@yX n x.toNat c e;by_cases f:x.toNat=j;·grind
 ·rw[if_neg f];have d:=@yX n j c a;rw[cQ (by simp_all)] at d;grind
theorem afh {n:Nat}:ln n []=δ n 0:=by
 refine γ8 (by grind[yW]) λj b a=>?_;simp[ln]
theorem UR {t:List dj} {i:Int} (b:0<=i) (a:i<t.length):ic t (i+1).toNat=ic t i.toNat++jB (bj t i.toNat bF.dflt):=by
 grind[ic,jX]
theorem afi {t:List dj} {i:Nat} (h:i<t.length) (a:kR t i=false):dU t=false:=by
 grind[dU]
theorem afj {t:List dj} {k:Nat} (h:k<t.length - 1) (a:((k:Int)+1)∉ic t t.length):dU t=false:=by
 unfold dU;grind
def Lh:bM:=⟨60,List dj,.one (dM bF),λt=>∀n∈(show List dj from t),∀x∈n.2.2.2.2,iW x,λt=> .sb (dU t)⟩
def afk (t:List dj):Nat->cF
 |5=> .inv Int (λi=>⟨[(0,.row bF t),(3,.ow 0 t.length 1),(22,.row bF t),(23,.si .i64 t.length),(24,.si .i64 i)],[.row (.i .i64) (ln t.length (ic t i.toNat)) 3 true]⟩) (λs=>iS s 24)
  (λi=>0<=i/\i<=t.length/\∀j:Nat,j<i->kR t j=true) (λi=>(t.length - i).toNat) λ_=>λ
   |11=> .qu 3
   |_=> .look
 |19=> .inv Int (λi=>⟨[(66,.os 0 1 (t.length - 1) t.length 1),(67,.si .i64 (t.length - 1:Nat)),(68,.si .i64 i)],[.row (.i .i64) (ln t.length (ic t t.length)) 3 true]⟩) (λs=>iS s 68)
  (λi=>0<=i/\i<=(t.length - 1:Nat)/\∀j:Nat,j<i->((j:Int)+1)∈ic t t.length) (λi=>((t.length - 1:Nat) - i).toNat) λ_ _=> .look
 |_=> .look
theorem h480:Holds Tryz.prog Lh:=by
 refine cH (L:=[E3,K6,K7,K8,La,Lc,Ld,Le,r505]) Lh afk (by simpa using⟨h485,h493,h499,h503,h507,h491,h497,h501,h505⟩) ?_;intro(t:List dj) ht;refine bR (let a:=(0:Int);let b:=δf false;let c:=(1:Int);let d:=Ω;let e:=γw;let f:=cu .i64;let g:=γi .i64;let h:=bq.row;let k:=(2:Int);let l:=γy .i64 0;let p:=(↑t.length:Int);let a9:=decide (p<c);let aa:=decide ((65536:Int)<p);let s:=γ1 0 t.length 1;let o:=(↑t.length:Int);let v:=g o;let C:=bp.i .i64;let E:=decide (p<=a);let R:=t.length - 1;let P:=SV.os 0 1 R t.length 1;let z:=(↑R:Int);let Q:=g z;let M:=ln t.length (ic t t.length);let S:=h C M 3 true;(a9=true->(b).same (e (dU t)))/\(a9=false->(aa=true->(b).same (e (dU t)))/\(aa=false->a<=p/\p<=p/\p*(8:Int)<=(140737488355328:Int)/\p<=(1000000000000:Int)/\((((d bF t).same (d bF t)/\(γ1 0 p.toNat 1).same s/\(d bF t).same (d bF t)/\(g p).same v/\(l).same (g 0)/\True)/\(h C (δ p.toNat a) 3 true).same (h C (ln t.length (ic t 0)) 3 true)/\True)/\a<=a/\a<=o/\∀(j:Nat),(↑j:Int)<a->kR t j=true)/\∀(x:Int),let F:=decide (a<=x);let G:=ln t.length (ic t x.toNat);let n:=G.length;let T:=bj G 0 a;let ab:=decide (a<T);let q:=G.set 0 (T+c);let U:=bj q 0 a;let ac:=decide (a<U);let r:=q.set 0 (U+c);let ad:=bj r 0 a;let ae:=decide (a<ad);let m:=x+c;let y:=g m;let N:=h C (ln t.length (ic t m.toNat)) 3 true;let V:=h C G 3 true;let w:=bj t x.toNat bF.dflt;let W:=[w.snd.snd.fst,w.snd.snd.snd.fst];let D:=bj W 2 a;let A:=bj W 0 a;let X:=bj G A.toNat a;let H:=G.set A.toNat (X+c);let B:=bj W 1 a;let Y:=bj H B.toNat a;let O:=H.set B.toNat (Y+c);let af:=decide (w.fst=c);let I:=(w.fst,w.snd.fst,w.snd.snd.fst,w.snd.snd.snd.fst,w.snd.snd.snd.snd);let ag:=decide (w.fst=k);let ah:=decide (a<X);let ai:=decide (a<Y);let aj:=bj O D.toNat a;let ak:=decide (a<aj);let al:=decide (w.fst=(3:Int));let Z:=let am:=λ(u:List Int) ↦false=false->f m/\(((d bF t).same (d bF t)/\s.same s/\(d bF t).same (d bF t)/\v.same v/\y.same y/\True)/\(h C u 3 true).same N/\True)/\(a<=m/\m<=o/\∀(j:Nat),(↑j:Int)<m->kR t j=true)/\(o - m).toNat<(o - x).toNat;True/\(false=true->a<=a/\a<a/\0<0/\(F=true->(b).same (e (dU t)))/\(F=false->(E=true->(b).same (e (dU t)))/\(E=false->t.length=n/\a<=a/\a<(↑n:Int)/\t.length=n/\0<n/\(ab=true->(b).same (e (dU t)))/\(ab=false->t.length=n/\a<=a/\a<(↑n:Int)/\t.length=n/\0<n/\f (T+c)/\t.length=n/\a<=a/\a<(↑n:Int)/\t.length=n/\0<n/\(false=true->a<=c/\c<a/\1<0/\(F=true->(b).same (e (dU t)))/\(F=false->(E=true->(b).same (e (dU t)))/\(E=false->t.length=q.length/\a<=a/\a<(↑q.length:Int)/\t.length=q.length/\0<q.length/\(ac=true->(b).same (e (dU t)))/\(ac=false->t.length=q.length/\a<=a/\a<(↑q.length:Int)/\t.length=q.length/\0<q.length/\f (U+c)/\t.length=q.length/\a<=a/\a<(↑q.length:Int)/\t.length=q.length/\0<q.length/\(false=true->a<=k/\k<a/\2<0/\(F=true->(b).same (e (dU t)))/\(F=false->(E=true->(b).same (e (dU t)))/\(E=false->t.length=r.length/\a<=a/\a<(↑r.length:Int)/\t.length=r.length/\0<r.length/\(ae=true->(b).same (e (dU t)))/\(ae=false->t.length=r.length/\a<=a/\a<(↑r.length:Int)/\t.length=r.length/\0<r.length/\f (ad+c)/\t.length=r.length/\a<=a/\a<(↑r.length:Int)/\t.length=r.length/\0<r.length/\False))))/\am r))))/\am q))))/\(false=false->f m/\(((d bF t).same (d bF t)/\s.same s/\(d bF t).same (d bF t)/\v.same v/\y.same y/\True)/\V.same N/\True)/\(a<=m/\m<=o/\∀(j:Nat),(↑j:Int)<m->kR t j=true)/\(o - m).toNat<(o - x).toNat);let a0:=D<(↑O.length:Int);let a1:=D.toNat<O.length;let J:=t.length=O.length;let a2:=B<(↑H.length:Int);let a3:=B.toNat<H.length;let K:=t.length=H.length;let a4:=A<(↑n:Int);let a5:=A.toNat<n;let a6:=a<=D;let a7:=a<=A;let a8:=a<=B;(a<=x/\x<=o/\∀(j:Nat),(↑j:Int)<x->kR t j=true)->(decide (x<o)=true->a<=x/\x<p/\x.toNat<t.length/\True/\(af=true->(∀(x:bL),x∈w.snd.snd.snd.snd->iW x)/\((!wf1 I)=true->(b).same (e (dU t)))/\((!wf1 I)=false->Z))/\(af=false->(ag=true->True/\((!wf2 I)=true->(b).same (e (dU t)))/\((!wf2 I)=false->True/\(true=true->a<=a/\a<k/\0<2/\(decide (A<=x)=true->(b).same (e (dU t)))/\(decide (A<=x)=false->(decide (p<=A)=true->(b).same (e (dU t)))/\(decide (p<=A)=false->t.length=n/\a7/\a4/\t.length=n/\a5/\(ah=true->(b).same (e (dU t)))/\(ah=false->t.length=n/\a7/\a4/\t.length=n/\a5/\f (X+c)/\t.length=n/\a7/\a4/\t.length=n/\a5/\(true=true->a<=c/\c<k/\1<2/\(decide (B<=x)=true->(b).same (e (dU t)))/\(decide (B<=x)=false->(decide (p<=B)=true->(b).same (e (dU t)))/\(decide (p<=B)=false->K/\a8/\a2/\K/\a3/\(ai=true->(b).same (e (dU t)))/\(ai=false->K/\a8/\a2/\K/\a3/\f (Y+c)/\K/\a8/\a2/\K/\a3/\(false=true->a<=k/\k<k/\2<2/\(decide (D<=x)=true->(b).same (e (dU t)))/\(decide (D<=x)=false->(decide (p<=D)=true->(b).same (e (dU t)))/\(decide (p<=D)=false->J/\a6/\a0/\J/\a1/\(ak=true->(b).same (e (dU t)))/\(ak=false->J/\a6/\a0/\J/\a1/\f (aj+c)/\J/\a6/\a0/\J/\a1/\False))))/\(false=false->f m/\(((d bF t).same (d bF t)/\s.same s/\(d bF t).same (d bF t)/\v.same v/\y.same y/\True)/\(h C O 3 true).same N/\True)/\(a<=m/\m<=o/\∀(j:Nat),(↑j:Int)<m->kR t j=true)/\(o - m).toNat<(o - x).toNat)))))/\(true=false->f m/\(((d bF t).same (d bF t)/\s.same s/\(d bF t).same (d bF t)/\v.same v/\y.same y/\True)/\(h C H 3 true).same N/\True)/\(a<=m/\m<=o/\∀(j:Nat),(↑j:Int)<m->kR t j=true)/\(o - m).toNat<(o - x).toNat)))))/\(true=false->f m/\(((d bF t).same (d bF t)/\s.same s/\(d bF t).same (d bF t)/\v.same v/\y.same y/\True)/\V.same N/\True)/\(a<=m/\m<=o/\∀(j:Nat),(↑j:Int)<m->kR t j=true)/\(o - m).toNat<(o - x).toNat)))/\(ag=false->(al=true->True/\((!uN I)=true->(b).same (e (dU t)))/\((!uN I)=false->Z))/\(al=false->True/\(true=true->(b).same (e (dU t)))/\(true=false->Z)))))/\(decide (x<o)=false->t.length=n/\1<=t.length/\t.length<=t.length/\(((P.same P/\Q.same Q/\(l).same (g 0)/\True)/\V.same S/\True)/\a<=a/\a<=z/\∀(j:Nat),(↑j:Int)<a->(↑j:Int)+c∈ic t t.length)/\∀(x:Int),let an:=decide (bj M (1+x.toNat) 0=a);let L:=x+c;let ao:=g L;(a<=x/\x<=z/\∀(j:Nat),(↑j:Int)<x->(↑j:Int)+c∈ic t t.length)->(decide (x<z)=true->t.length=M.length/\a<=x/\x<z/\1+R<=t.length/\t.length=M.length/\1+x.toNat<M.length/\(an=true->(b).same (e (dU t)))/\(an=false->f L/\((P.same P/\Q.same Q/\ao.same ao/\True)/\S.same S/\True)/\(a<=L/\L<=z/\∀(j:Nat),(↑j:Int)<L->(↑j:Int)+c∈ic t t.length)/\(z - L).toNat<(z - x).toNat))/\(decide (x<z)=false->(δf true).same (e (dU t))))))) (by kernel_rfl) ?_;simp only[vcs];refine⟨λh=>?_,λh1=>⟨λh=>?_,λh2=>?_⟩⟩
 ·have:¬(1<=t.length/\t.length<=65536):=by omega
  simp[dU,this]
 ·have:¬(1<=t.length/\t.length<=65536):=by omega
  simp[dU,this]
 have hrow:∀{x y:List Int},x=y->(bq.row (.i .i64) x 3 true).same (bq.row (.i .i64) y 3 true):=by rintro _ _ rfl;rfl
 have how:∀{x y:Nat},x=y->(γ1 0 x 1).same (γ1 0 y 1):=by rintro _ _ rfl;rfl
 refine⟨by omega,by omega,by omega,by omega,⟨⟨how (by omega),hrow ?_⟩,by omega,by omega,λj hj=>by omega⟩,?_⟩;·rw[show ic t 0=[] from rfl,afh];simp
 rintro i ⟨i0,i1,hi⟩;refine⟨λhlt=>?_,λhge=>?_⟩
 ·have hil:i.toNat<t.length:=by omega
  have hm:=ht _ (dr (d:=bF.dflt) hil);have hs:=UR i0 hlt;have hg:kR t i.toNat=(tg (bj t i.toNat bF.dflt)&&uO t.length i (ic t i.toNat) (jB (bj t i.toNat bF.dflt))):=by
   unfold kR;rw[show((i.toNat:Nat):Int)=i by omega]
  generalize bj t i.toNat bF.dflt=N at*;obtain⟨k,o,a,b,y⟩:=N;generalize hc:ic t i.toNat=c at*;have no:kR t i.toNat=false->false=dU t:=λh=>(afi hil h).symm;have fin:kR t i.toNat=true->(∀j:Nat,(j:Int)<i+1->kR t j=true):=λh j hj=>by
   by_cases h2:(j:Int)<i;·exact hi j h2
   ·rw[show j=i.toNat by omega];exact h
  have hl:=@yW t.length c;have w1:k=1->tg (k,o,a,b,y)=wf1 (k,o,a,b,y):=λh=>if_pos h;have w2:¬k=1->k=2->tg (k,o,a,b,y)=wf2 (k,o,a,b,y):=λh h'=>(if_neg h).trans (if_pos h');have w3:¬k=1->¬k=2->k=3->tg (k,o,a,b,y)=uN (k,o,a,b,y):=λh h' h''=>(if_neg h).trans ((if_neg h').trans (if_pos h''));have w4:¬k=1->¬k=2->¬k=3->tg (k,o,a,b,y)=false:=λh h' h''=>(if_neg h).trans ((if_neg h').trans (if_neg h''));have E5:¬k=2->jB (k,o,a,b,y)=[]:=λh=>if_neg h;have US:k=2->jB (k,o,a,b,y)=[a,b]:=λh=>if_pos h;have ea:bj [a,b] 0 0=a:=rfl;have eb:bj [a,b] 1 0=b:=rfl;dsimp only;simp only[ea,eb];refine⟨i0,hlt,hil,λh1=>⟨hm,λhw=>no ?_,λhw=>⟨λh=>(by cases h),λ_=>⟨⟨by omega,by omega⟩,hrow ?_,⟨by omega,by omega,fin ?_⟩,by omega⟩⟩⟩,λh1=>⟨λh2=>?_,λh2=>⟨λh3=>⟨λhw=>no ?_,λhw=>⟨λh=>(by cases h),λ_=>⟨⟨by omega,by omega⟩,hrow ?_,⟨by omega,by omega,fin ?_⟩,by omega⟩⟩⟩,λh3=>⟨λ_=>no ?_,λh=>(by cases h)⟩⟩⟩⟩;·rw[hg,w1 h1,hw];rfl
  ·rw[hs,E5 (by omega),γ7]
  ·rw[hg,w1 h1,E5 (by omega),hw];rfl
  ·have hg2:kR t i.toNat=(wf2 (k,o,a,b,y)&&(decide (i<a/\a<t.length)&&decide (a∉c)&&(decide (i<b/\b<t.length)&&decide (b∉c++[a])&&true))):=by rw[hg,w2 h1 h2,US h2];rfl
   rw[US h2] at hs;refine⟨λhw=>no ?_,λhw=>⟨λ_=>⟨by omega,by omega,by omega,λha=>no ?_,λha=>⟨λhb=>no ?_,λhb=>?_⟩⟩,λh=>(by cases h)⟩⟩;·rw[hg2,hw];rfl
   ·rw[hg2,decide_eq_false (p:=i<a/\a<t.length) (by omega)];simp
   ·rw[hg2,decide_eq_false (p:=i<a/\a<t.length) (by omega)];simp
   have hat:a.toNat<t.length:=by omega
   have ca:=@yX t.length a.toNat c hat;rw[show((a.toNat:Nat):Int)=a by omega] at ca;have pa:=@UQ t.length c a (by omega) (by omega);have la:0<=a/\a<(ln t.length c).length:=by rw[hl];omega
   have Lj:a.toNat<(ln t.length c).length:=by rw[hl];exact hat
   refine⟨hl.symm,la.1,la.2,hl.symm,Lj,λhc1=>no ?_,λhc1=>⟨hl.symm,la.1,la.2,hl.symm,Lj,⟨by omega,by omega⟩,hl.symm,la.1,la.2,hl.symm,Lj,λ_=>?_,λh=>(by cases h)⟩⟩
   ·have:a∈c:=δT.1 (by omega);rw[hg2,decide_eq_false (p:=a∉c) (by simpa using this)];simp
   have hac:a∉c:=λh=>by have:=δT.2 h;omega
   simp only[pa];have hl2:=@yW t.length (c++[a]);refine⟨by omega,by omega,by omega,λhb1=>no ?_,λhb1=>⟨λhb2=>no ?_,λhb2=>?_⟩⟩;·rw[hg2,decide_eq_false (p:=i<b/\b<t.length) (by omega)];simp
   ·rw[hg2,decide_eq_false (p:=i<b/\b<t.length) (by omega)];simp
   have hbt:b.toNat<t.length:=by omega
   have cb:=@yX t.length b.toNat (c++[a]) hbt;rw[show((b.toNat:Nat):Int)=b by omega] at cb;have pb:=@UQ t.length (c++[a]) b (by omega) (by omega);have lb:0<=b/\b<(ln t.length (c++[a])).length:=by rw[hl2];omega
   have Ll:b.toNat<(ln t.length (c++[a])).length:=by rw[hl2];exact hbt
   refine⟨hl2.symm,lb.1,lb.2,hl2.symm,Ll,λhc2=>no ?_,λhc2=>⟨hl2.symm,lb.1,lb.2,hl2.symm,Ll,⟨by omega,by omega⟩,hl2.symm,lb.1,lb.2,hl2.symm,Ll,λh=>(by cases h),λ_=>⟨⟨by omega,by omega⟩,hrow ?_,⟨by omega,by omega,fin ?_⟩,by omega⟩⟩⟩
   ·have:b∈c++[a]:=δT.1 (by omega);rw[hg2,decide_eq_false (p:=b∉c++[a]) λh=>h this];simp
   ·rw[pb,hs,γV];rfl
   ·have hbc:b∉c++[a]:=λh=>by have:=δT.2 h;omega
    rw[hg2,hw,decide_eq_true (p:=i<a/\a<t.length) (by omega),decide_eq_true (p:=i<b/\b<t.length) (by omega),decide_eq_true hac,decide_eq_true hbc];rfl
  ·rw[hg,w3 h1 h2 h3,hw];rfl
  ·rw[hs,E5 h2,γ7]
  ·rw[hg,w3 h1 h2 h3,E5 h2,hw];rfl
  ·rw[hg,w4 h1 h2 h3];rfl
 ·rw[show i.toNat=t.length by omega];have hl:=@yW t.length (ic t t.length);refine⟨hl.symm,by omega,by omega,⟨hrow rfl,by omega,by omega,λj hj=>by omega⟩,?_⟩;rintro x ⟨x0,x1,hx⟩;refine⟨λhlt=>?_,λDv=>?_⟩
  ·have cx:=@yX t.length (1+x.toNat) (ic t t.length) (by omega);rw[show(((1+x.toNat:Nat)):Int)=(x.toNat:Int)+1 by omega] at cx;refine⟨hl.symm,x0,hlt,by omega,hl.symm,by rw[hl];omega,λh=>?_,λh=>⟨⟨by omega,by omega⟩,⟨by omega,by omega,λj hj=>?_⟩,by omega⟩⟩;·exact(afj (k:=x.toNat) (by omega) λhm=>by have:=δT.2 hm;omega).symm
   ·by_cases hj2:(j:Int)<x;·exact hx j hj2
    ·rw[show j=x.toNat by omega];exact δT.1 (by omega)
  ·symm;unfold dU;rw[decide_eq_true (by omega),φ.2 λk hk=>hi k (by have:=γx.1 hk;omega),φ.2 λk hk=>decide_eq_true (hx k (by have:=γx.1 hk;omega))];rfl
theorem rR {W:Int} (a: -9223372036854775808<=W) (b:W<=9223372036854775807):Sz 2 (W:Rat):=by
 unfold Sz;simp;omega
def jk (p:bn) (y:List Rat) (r:Nat) (i:Int):Rat:=((oI p i).value:Rat) - bO r λk=>bj y k 0*((dX p k (oI p i):Int):Rat)
def kS (p:bn) (f:List Int) (y:List Rat) (r:Nat):Rat:=((gA p f:Int):Rat)+bO r λk=>bj y k 0*((dn p k - cV p ((bD f 1).map (oI p)) k:Int):Rat)
def mR (p:bn) (f:List Int) (r:Int) (k:Nat):Int:=dn p r - cV p ((bD (f.take k) 1).map (oI p)) r
theorem afl {a:Type} {n j:Nat} (g:Int->a) (d:a) (h:j<n):bj ((dp n).map g) j d=g j:=by
 grind[cQ,dp]
theorem Lm {c:Type} {a b:List c} (d:c) (e:a.length=b.length) (h:∀j,j<a.length->bj a j d=bj b j d):a=b:=by
 refine γ8 e λj f g=>?_;grind[cQ]
theorem afm {p:bn} {f:List Int} {y:List Rat}:kS p f y 0=((gA p f:Int):Rat):=by
 grind[kS,bO]
theorem UT {p:bn} {f:List Int} {y:List Rat} {r:Nat}:kS p f y (r+1)=kS p f y r+bj y r 0*((dn p r - cV p ((bD f 1).map (oI p)) r:Int):Rat):=by
 grind[kS,bO]
theorem Ln {p:bn} {y:List Rat} {r:Nat} {i:Int}:jk p y (r+1) i=jk p y r i - bj y r 0*((dX p r (oI p i):Int):Rat):=by
 grind[jk,bO]
theorem UU {p:bn} {r:Int}:(iz p r p.offers.length).length=p.offers.length:=by grind[iz]
theorem afn {p:bn} {r i:Int} (h:0<=i/\i<p.offers.length):bj (iz p r p.offers.length) i.toNat 0=dX p r (oI p i):=by
 grind[iz,cQ,oI]
theorem afo {p:bn} {f:List Int} {r:Int}:mR p f r 0=dn p r:=by
 simp_all[mR,bD,dp,cV]
theorem afp {p:bn} {f:List Int} {r k:Int} (a:0<=k) (h:k<f.length):mR p f r (k+1).toNat=mR p f r k.toNat - if bj f k.toNat 0=1 then dX p r (oI p k) else 0:=by
 grind[mR,Bg,cV]
theorem UW {p:bn} {f:List Int} {r:Int}:mR p f r f.length=dn p r - cV p ((bD f 1).map (oI p)) r:=by
 grind[mR]
theorem UX {p:bn} {f:List Int} {r:Int} {k:Nat} (a:bz p=0) (j:f.length=p.offers.length): -640<=mR p f r k/\mR p f r k<=4:=by
 have g:=@A7 p a r;have b:=@sM p r ((bD (f.take k) 1).map (oI p)) λx d=>by
  obtain⟨i,e,rfl⟩:=Ψ.1 d;have:=(kN.1 e).1;rw[γq] at this;exact(kO a (i:=i) (by omega)).2.2.1
 have c:=@uL (f.take k) 1;rw[List.length_map] at b;rw[γq] at c;have h:=(dR a).2.1;grind[mR]
section
variable {p:bn} {f:List Int}
theorem afq (h:eX p f) {i:Int} (c:0<=i/\i<f.length) (d:bj f i.toNat 0=0):jk p (iC p f) (mF p) i<=0:=by
 have a:i∈bD f 0:=kN.2 ⟨c,d⟩;have b:(bD f 0).idxOf i<nF f:=List.idxOf_lt_length_of_mem a;have g:=aev h b;have e:bj (bD f 0) ((bD f 0).idxOf i) 0=i:=by grind[cQ]
 grind[Bd,dK,yx,jk]
theorem afr (h:eX p f):kS p f (iC p f) (mF p)=jg p f:=by
 grind[kS,jg,Ui,dK,yz]
end
def oK (p:bn) (f:List Int) (y:List Rat) (r k:Nat) (i:Int):Rat:=if bj f i.toNat 0=0 then jk p y (if i<(k:Int) then r+1 else r) i else(((oI p i).value:Int):Rat)
def ig (p:bn) (f:List Int) (y:List Rat) (r k:Nat):List bL:=(dp p.offers.length).map λ(i:Int)=>bu (oK p f y r k i)
def jl (p:bn) (f:List Int) (y:List Rat) (i:Nat):Rat:=kS p f y (mF p)+bO i λk=>if bj f k 0=0/\0<jk p y (mF p) k then jk p y (mF p) k else 0
def rT (n:Nat) (K:Nat->Nat):Nat:=match n with
 |0=>0
 |n+1=>rT n K+K n
def yY (p:bn) (y:List Rat):Prop:=∃K:Nat->Nat,(∀k,k<mF p->Sz (K k) (bj y k 0))/\rT (mF p) K<=9000000
def wI (p:bn) (f:List Int) (x:List bL):Prop:=(bz p=0/\f.length=p.offers.length/\jN f=true)/\∃y,x=fL y/\y.length=mF p/\yY p y
def posB (x:List bL):Bool:=x.all λe=>!e.1
theorem yZ {p:bn} {f:List Int} {y:List Rat} {r k:Nat}:(ig p f y r k).length=p.offers.length:=by grind[ig,iT]
theorem y5 {p:bn} {f:List Int} {y:List Rat} {r k j:Nat} (h:j<p.offers.length) {d:bL}:bj (ig p f y r k) j d=bu (oK p f y r k j):=afl _ _ h
theorem Lq {p:bn} {f:List Int} {y:List Rat} {r k a b:Nat} (h:∀j:Nat,j<p.offers.length->oK p f y r k j=oK p f y a b j):ig p f y r k=ig p f y a b:=by
 refine Lm (false,([],[])) (by grind[yZ]) λj c=>?_;grind[yZ,y5]
theorem afs {p:bn} {f:List Int} {y:List Rat} {i:Int} (a:0<=i):oK p f y 0 0 i=(((oI p i).value:Int):Rat):=by
 unfold oK;rw[if_neg (show ¬i<((0:Nat):Int) by omega)];grind[jk,bO]
theorem aft {p:bn} {f:List Int} {y:List Rat} {r:Nat}:ig p f y r p.offers.length=ig p f y (r+1) 0:=Lq λj a=>by
 simp_all[oK,if_neg]
theorem Lr {p:bn} {f:List Int} {y:List Rat} {r:Nat} {k:Int} (c:0<=k) (h:bj f k.toNat 0≠0\/dX p r (oI p k)=0\/bj y r 0=0):ig p f y r k.toNat=ig p f y r (k+1).toNat:=Lq λj a=>by
 unfold oK;by_cases a:(j:Int)=k
 ·rw[if_neg (show ¬(j:Int)<((k.toNat:Nat):Int) by omega),if_pos (show(j:Int)<(((k+1).toNat:Nat):Int) by omega),a];split
  ·rename_i b;rw[Ln];rcases h with h|h|h;·omega
   ·rw[h];grind
   ·rw[h];grind
  ·rfl
 grind
theorem afu {p:bn} {f:List Int} {y:List Rat} {r:Nat} (h:bj y r 0=0):ig p f y r 0=ig p f y (r+1) 0:=Lq λj a=>by
 unfold oK;rw[if_neg (show ¬(j:Int)<((0:Nat):Int) by omega),if_neg (show ¬(j:Int)<((0:Nat):Int) by omega),Ln,h];split<;>grind
theorem afv {p:bn} {f:List Int} {y:List Rat} {r:Nat} {k:Int} (c:0<=k) (h:k<p.offers.length) (b:bj f k.toNat 0=0):(ig p f y r k.toNat).set k.toNat (bu (jk p y (r+1) k))=ig p f y r (k+1).toNat:=by
 refine Lm (false,([],[])) (by grind[yZ]) λj a=>?_;rw[Φ,yZ] at a;rw[iR (by grind[yZ]),y5 a,y5 a];unfold oK;grind
theorem afw {p:bn} {f:List Int} {y:List Rat} {r:Nat} {k:Int} (b:0<=k) (a:bj f k.toNat 0=0):oK p f y r k.toNat k=jk p y r k:=by
 unfold oK;grind
theorem afx {p:bn} {f:List Int} {y:List Rat} {r:Nat} (h:bj y r 0=0):kS p f y r=kS p f y (r+1):=by
 grind[UT]
theorem UY {p:bn} {f:List Int} {y:List Rat}:jl p f y 0=kS p f y (mF p):=by
 grind[jl,bO]
theorem UZ {p:bn} {f:List Int} {y:List Rat} {i:Int} (a:0<=i):jl p f y (i+1).toNat=jl p f y i.toNat+if bj f i.toNat 0=0/\0<jk p y (mF p) i then jk p y (mF p) i else 0:=by
 rw[show(i+1).toNat=i.toNat+1 by omega];grind[jl,bO]
section
variable {p:bn} {f:List Int} {y:List Rat}
theorem U0 {K:Nat->Nat}:∀{n k:Nat},k<n->K k<=rT n K
 |0,_,h=>by omega;|n+1,k,h=>by
  simp only[rT];by_cases e:k=n;·rw[e];omega
  ·have:=@U0 K n k (by omega);omega
theorem U1 {g:Nat->Rat} {K:Nat->Nat} {c:Nat}:∀{n:Nat},(∀k,k<n->Sz (K k+c) (g k))->Sz (rT n K+n*(c+1)+1) (bO n g)
 |0,_=>by
  simp only[bO];exact(show Sz 1 0 by simp_all[Sz]).mono (by omega);|n+1,h=>by
  simp only[bO,rT];have a:Sz (rT n K+n*(c+1)+1) (bO n g):=U1 λk b=>h k (by omega);exact(AA a (h n (by omega))).mono (by grind)
theorem U2 (h:yY p y) {k:Nat} (a:k<mF p):Sz 9000000 (bj y k 0):=by
 obtain⟨K,b,c⟩:=h;exact(b k a).mono (by have:=@U0 K _ _ a;omega)
def pX (y:List Rat) (m:Nat) (C:Int) (q:Rat):Prop:=∃(c:Int) (z:Nat->Int),(-C<=c/\c<=C)/\(∀r,r<m-> -C<=z r/\z r<=C)/\q=(c:Rat)+bO m λr=>bj y r 0*((z r:Int):Rat)
theorem afy {m:Nat} {C D:Int} {q b:Rat} (h:pX y m C q) (j:pX y m D b):pX y m (C+D) (q+b):=by
 obtain⟨c,z,l,o,n⟩:=h;obtain⟨f,a,g,d,i⟩:=j;refine⟨c+f,λr=>z r+a r,by omega,λr k=>?_,?_⟩;·grind
 ·have e:(bO m λr=>bj y r 0*(((z r+a r:Int)):Rat))=(bO m λr=>bj y r 0*((z r:Int):Rat))+bO m λr=>bj y r 0*((a r:Int):Rat):=by
   simp_all[yl,Rat.mul_add]
  grind
theorem afz {m:Nat} {C D:Int} {q:Rat} (h:pX y m C q) (f:C<=D):pX y m D q:=by
 obtain⟨c,z,b,e,a⟩:=h;exact⟨c,z,by omega,λr d=>by grind,a⟩
theorem afA {m:Nat} {C:Int} (a:0<=C):pX y m C 0:=⟨0,λ_=>0,by omega,λ_ _=>⟨by simp_all,a⟩,by
 simp_all[iQ,ζL]⟩
theorem Ls {C:Int} {q:Rat} (h:pX y (mF p) C q) (g:C<=9223372036854775807) (b:yY p y) (j:mF p<=20):Sz 9000100 q:=by
 obtain⟨c,z,k,f,rfl⟩:=h;obtain⟨K,i,d⟩:=b;have a:Sz (rT (mF p) K+mF p*3+1) (bO (mF p) λr=>bj y r 0*((z r:Int):Rat)):=U1 (c:=2) λr e=>by
  grind[uB,rR]
 refine(AA (rR (W:=c) (by omega) (by omega)) a).mono ?_;omega
theorem U3 {g:Nat->Rat} {r:Nat}:∀{m:Nat},r<=m->(bO m λk=>if k<r then g k else 0)=bO r g
 |0,h=>by rw[show r=0 by omega];rfl;|m+1,h=>by
  by_cases e:r=m+1;·simp_all[dK]
  ·simp only[bO];rw[if_neg (by omega),ζL];exact U3 (by omega)
theorem U4 {r m:Nat} (a:r<=m) {C c:Int} {z:Nat->Int} (b: -C<=c/\c<=C) (e:∀k,k<r-> -C<=z k/\z k<=C):pX y m C ((c:Rat)+bO r λk=>bj y k 0*((z k:Int):Rat)):=by
 refine⟨c,λk=>if k<r then z k else 0,b,λk d=>?_,?_⟩;·grind
 ·rw[<-U3 a];congr 1;refine dK λk _=>?_;show _=bj y k 0*(((if k<r then z k else 0:Int)):Rat);split<;>simp_all
theorem U5 (d:bz p=0) {r:Nat} (a:r<=mF p) {i:Int} (c:0<=i/\i<p.offers.length):pX y (mF p) 1000000 (jk p y r i):=by
 have b:=kO d c;have h:=@U4 y r (mF p) a 1000000 (oI p i).value (λk=> -dX p k (oI p i)) (by omega) λk _=>by
  have:=@pO p k _ b.2.2.1;omega
 have e:jk p y r i=(((oI p i).value:Int):Rat)+bO r λk=>bj y k 0*(((-dX p k (oI p i):Int)):Rat):=by
  unfold jk;rw[Rat.sub_eq_add_neg];congr 1;rw[show(-(bO r λk=>bj y k 0*((dX p k (oI p i):Int):Rat)))=(-1)*(bO r λk=>bj y k 0*((dX p k (oI p i):Int):Rat)) by grind,<-wb];grind
 simp_all
theorem U6 (b:bz p=0) (a:f.length=p.offers.length) {r:Nat} (d:r<=mF p):pX y (mF p) 1000000000 (kS p f y r):=by
 have c:=@Bh p b f f.length a;rw[ψ] at c;unfold kS;refine U4 d (by omega) λk _=>?_;have e:=@UX p f k f.length b a;grind[UW]
theorem U7 (e:bz p=0) (c:f.length=p.offers.length):∀{i:Nat},i<=f.length->pX y (mF p) (1000000000+1000000*i) (jl p f y i)
 |0,_=>by grind[UY,U6];|i+1,h=>by
  have a:=@UZ p f y i (by omega);rw[show((i:Int)+1).toNat=i+1 by omega,γl] at a;rw[a];have b:=U7 e c (i:=i) (by omega);have d:pX y (mF p) 1000000 (if bj f i 0=0/\0<jk p y (mF p) i then jk p y (mF p) i else 0):=by
   grind[U5,afA]
  exact afz (afy b d) (by omega)
theorem E6 (a:bz p=0):mF p<=20:=by have:=(dR a).1;grind
theorem U8 (a:bz p=0) (d:yY p y) {r:Nat} (b:r<=mF p) {i:Int} (c:0<=i/\i<p.offers.length):Sz 9000100 (jk p y r i):=Ls (U5 a b c) (by omega) d (E6 a)
theorem afB (a:bz p=0) (c:f.length=p.offers.length) (d:yY p y) {r:Nat} (b:r<=mF p):Sz 9000100 (kS p f y r):=Ls (U6 a c b) (by omega) d (E6 a)
theorem U9 (a:bz p=0) (c:f.length=p.offers.length) (b:yY p y) {i:Nat} (d:i<=f.length):Sz 9000100 (jl p f y i):=Ls (U7 a c d) (by have:=(dR a).2.1;omega) b (E6 a)
end
def afC (f:FuncId) {c:Type} (A:qy c) (e:c->Prop) (d:c->SV):dH where
 f:=f;α:=c;put:=A.put;st _:=[];dec v o:=match o with
  |[]=>A.dec v
  |_=>none;ok v o a h:=by
  split at h;·exact⟨A.ok _ _ h,rfl⟩
  ·cases h
 inj a b h _:=A.inj _ _ h;dom:=e;res:=d;out _:=[]
def Lt:dH:=afC 135 (.cons dQ (.one (dM (.i .i64)))) (λ(a:bn×List Int)=>bz a.1=0/\a.2.length=a.1.offers.length) λa=>pR (κ (gA a.1 a.2))
def afD (p:bn) (f:List Int):Nat->cF
 |3=> .inv Int (λi=>⟨[(2,.ptr 0 0 20),(4,.ptr 1 0 3),(5,.si .i64 (gA p (f.take i.toNat))),(8,.row (.i .i64) f),(9,.si .i64 f.length),(10,.si .i64 i)],[.cells p.ss 27 20 false,.cells [.bl false,.sc (.slice none 0 0),.sc (.slice none 0 0)] 177 3 false]⟩)
   (λs=>iS s 10) (λi=>0<=i/\i<=f.length) (λi=>(f.length - i).toNat) λ_ _=> .look
 |_=> .look
theorem h396o:ec Tryz.prog Lt:=by
 refine Bl (L:=[ox]) (W:=[]) Lt (λa=>afD a.1 a.2) (by simp) (by simpa using h94) ?_;rintro⟨p,f⟩ ⟨hc,hl⟩;simp only at hc hl;refine bR (let a:=γi .i64;let b:=(0:Int);let c:=Ω;let h:=γT 0 0 20;let j:=γT 1 0 3;let s:=γy .i64 0;let k:=c (bp.i .i64) f;let d:=(↑f.length:Int);let o:=a d;let l:=bq.cells (bn.ss p) 27 20 false;let t:=SV.sc (Value.slice none 0 0);let m:=bq.cells [δf false,t,t] 177 3 false;let n:=bp.i .u32;let q:=bu (κ (gA p f));(((h.same h/\j.same j/\s.same (a (gA p []))/\k.same k/\(a (↑f.length:Int)).same o/\s.same (a 0)/\True)/\l.same l/\m.same m/\True)/\b<=b/\b<=d)/\∀(x:Int),let e:=x+(1:Int);let v:=a e;let w:=decide (bj f x.toNat b=(1:Int));let g:=gA p (ω x.toNat f);let y:=g+(bj p.offers x.toNat bp.off.dflt).value;let r:=bu (κ g);let z:=λ(u:Int) ↦cu .i64 e/\((h.same h/\j.same j/\(a u).same (a (gA p (ω e.toNat f)))/\k.same k/\o.same o/\v.same v/\True)/\l.same l/\m.same m/\True)/\(b<=e/\e<=d)/\(d - e).toNat<(d - x).toNat;b<=x/\x<=d->(decide (x<d)=true->b<=x/\x<(↑f.length:Int)/\x.toNat<f.length/\(w=true->b<=x/\x<(↑p.offers.length:Int)/\x.toNat<p.offers.length/\cu .i64 y/\z y)/\(w=false->z g))/\(decide (x<d)=false->((-9223372036854775808:Int)<=g/\g<=(9223372036854775807:Int))/\(SV.agg [γw r.fst,c n r.snd.fst,c n r.snd.snd]).same (SV.agg [γw q.fst,c n q.snd.fst,c n q.snd.snd])/\True)) (by kernel_rfl) ?_;simp only[vcs];have h160:=(dR hc).2.1;refine⟨⟨by simp[gA,bD,dp,cK],by omega,by omega⟩,?_⟩;rintro i ⟨i0,i1⟩;have hb:=@Bh p hc f i.toNat hl;refine⟨λhi=>?_,λhi=>?_⟩
 ·have hs:=@TV p f i i0 hi;have ho:=kO hc (i:=i) ⟨i0,by omega⟩;have hv:(bj p.offers i.toNat bp.off.dflt).value=(oI p i).value:=rfl;rw[hv];refine⟨i0,hi,by omega,λh1=>?_,λh1=>?_⟩
  ·rw[if_pos h1] at hs;refine⟨i0,?_,?_,?_,?_,?_,?_,?_⟩<;>omega
  ·rw[if_neg h1] at hs;refine⟨?_,?_,?_,?_⟩<;>omega
 ·rw[show f.take i.toNat=f by rw[show i.toNat=f.length by omega,ψ]] at hb ⊢;exact⟨by omega,rfl⟩
def fsN (p:bn) (f:List Int) (x:List bL):SV:=.agg [.sb (if posB x=true then(bu (jl p f (vL x) f.length)).1 else false),.row (.i .u32) (if posB x=true then(bu (jl p f (vL x) f.length)).2.1 else[]),.row (.i .u32) (if posB x=true then(bu (jl p f (vL x) f.length)).2.2 else[])]
def Lu:bM:=⟨210,bn×List Int×List bL,.cons dQ (.cons (dM (.i .i64)) (.one (dM sF))),λa=>wI a.1 a.2.1 a.2.2,λa=> .bI [fsN a.1 a.2.1 a.2.2,.si .i64 (if posB a.2.2=true then 0 else 4)]⟩
def E7 (p:bn) (q:Rat) (ex:List bL):bZ:=[.cells p.ss 27 20 false,.cells [.bl false,.sc (.slice none 0 0),.sc (.slice none 0 0)] 177 3 false,.cells [.sb (bu q).1,.row (.i .u32) (bu q).2.1,.row (.i .u32) (bu q).2.2] 177 3 false,.row sF ex 177 true]
noncomputable def afF (p:bn) (f:List Int) (x:List bL):Nat->cF
 |7=> .inv Int (λi=>⟨[(1,.row (.i .i64) f),(2,.row sF x),(3,.ptr 0 0 20),(6,.ptr 1 0 3),(35,.row sF x),(36,.si .i64 x.length),(37,.si .i64 i)],[.cells p.ss 27 20 false,.cells [.bl false,.sc (.slice none 0 0),.sc (.slice none 0 0)] 177 3 false]⟩)
   (λs=>iS s 37) (λi=>0<=i/\i<=x.length/\posB (x.take i.toNat)=true) (λi=>(x.length - i).toNat) λ_ _=> .look
 |17=> .inv Int (λi=>⟨[(1,.row (.i .i64) f),(2,.row sF x),(3,.ptr 0 0 20),(6,.ptr 1 0 3),(11,.ptr 2 0 3),(12,.ow 3 f.length 3),(57,.si .i64 f.length),(58,.si .i64 i)],E7 p (κ (gA p f)) (eV (ig p f (vL x) 0 0) i.toNat (false,([],[])))⟩)
   (λs=>iS s 58) (λi=>0<=i/\i<=f.length) (λi=>(f.length - i).toNat) λ_ _=> .look
 |22=> .inv Int (λr=>⟨[(1,.row (.i .i64) f),(3,.ptr 0 0 20),(6,.ptr 1 0 3),(11,.ptr 2 0 3),(12,.ow 3 f.length 3),(72,.row sF x),(73,.si .i64 x.length),(74,.si .i64 r)],E7 p (kS p f (vL x) r.toNat) (ig p f (vL x) r.toNat 0)⟩)
   (λs=>iS s 74) (λr=>0<=r/\r<=x.length) (λr=>(x.length - r).toNat) λr k=>match k with
   |27=> .inv Int (λk=>⟨[(1,.row (.i .i64) f),(3,.ptr 0 0 20),(6,.ptr 1 0 3),(11,.ptr 2 0 3),(12,.ow 3 f.length 3),(15,.ptr 4 0 3),(17,.si .i64 (mR p f r k.toNat)),(72,.row sF x),(73,.si .i64 x.length),(74,.si .i64 r),(88,.row (.i .i64) (iz p r p.offers.length)),(89,.si .i64 f.length),(90,.si .i64 k)],
      E7 p (kS p f (vL x) r.toNat) (ig p f (vL x) r.toNat k.toNat)++[.cells [.sb (bj x r.toNat sF.dflt).1,.row (.i .u32) (bj x r.toNat sF.dflt).2.1,.row (.i .u32) (bj x r.toNat sF.dflt).2.2] 177 3 false]⟩)
     (λs=>iS s 90) (λk=>0<=k/\k<=f.length) (λk=>(f.length - k).toNat) λ_ _=> .look
   |_=> .look
 |38=> .inv Int (λi=>⟨[(6,.ptr 1 0 3),(11,.ptr 2 0 3),(12,.ow 3 f.length 3),(133,.row (.i .i64) f),(134,.si .i64 f.length),(135,.si .i64 i)],E7 p (jl p f (vL x) i.toNat) (ig p f (vL x) (mF p) 0)⟩)
   (λs=>iS s 135) (λi=>0<=i/\i<=f.length) (λi=>(f.length - i).toNat) λ_ _=> .look
 |_=> .look
theorem h494:Holds Tryz.prog Lu:=by
 refine con (L:=[EH,yt,uA,sU,ox,Ei,AI,AH,v8]) (W:=gK [Lt]) Lu (λa=>afF a.1 a.2.1 a.2.2) (kY (by simpa using h396o)) (by simpa using⟨h393,h335,h407,h99,h94,h336,h410,h95,h129⟩) ?_;rintro⟨p,f,x⟩ ⟨⟨hc,hl,hr⟩,y,hx,hyl,hy⟩;simp only at hc hl hr hx hyl hy;refine bR (let a:=Ω;let c:=γi .i64;let d:=(0:Int);let e:=bq.cells;let g:=bq.row;let h:=(-9223372036854775808:Int);let j:=(9223372036854775807:Int);let k:=cu .i64;let l:=γw;let m:=(1:Int);let n:=γy .i64;let o:=sF.dflt;let q:=SV.bI;let r:=γT;let s:=δf false;let t:=SV.agg;let v:=bp.i .i64;let am:=t [s,a v [],a v []];let an:=bu (jl p f (vL x) f.length);let w:=bp.i .u32;let ad:=q [t [l (if posB x=true then an.fst else false),a w (if posB x=true then an.snd.fst else[]),a w (if posB x=true then an.snd.snd else[])],c (if posB x=true then d else(4:Int))];let T:=(↑x.length:Int);let aK:=if bz p=d then df p else d;let E:=r 0 0 20;let z:=r 1 0 3;let F:=(↑x.length:Int);let G:=c F;let U:=n 0;let A:=e [c p.supply.a0,c p.supply.a1,c p.supply.a2,c p.supply.a3,c p.supply.a4,c p.supply.a5,c p.opn.a0,c p.opn.a1,c p.opn.a2,c p.opn.a3,c p.opn.a4,c p.opn.a5,c p.cls.a0,c p.cls.a1,c p.cls.a2,c p.cls.a3,c p.cls.a4,c p.cls.a5,a v p.classes,a bp.off p.offers] 27 20 false;let aL:=SV.sc (Value.slice none 0 0);let B:=e [s,aL,aL] 177 3 false;let aM:=p.offers.length;let I:=(↑f.length:Int);let C:=r 2 0 3;let D:=γ1 3 f.length 3;let y:=(↑f.length:Int);let H:=c y;let V:=bu (κ (gA p f));let ae:=e [l V.fst,a w V.snd.fst,a w V.snd.snd] 177 3 false;let af:=(false,[],[]);let ag:=ig p f (vL x) 0 0;let ao:=bu (kS p f (vL x) 0);let W:=r 4 0 3;let bg:=bu (jl p f (vL x) 0);let ap:=ig p f (vL x) (mF p) 0;let aa:=g sF ap 177 true;let O:=ap.length;let aN:=λ(u u_1:Int) (u_2:SV) ↦decide (u≠u_1)=true->(q [am,u_2]).same ad;f.length<=1000000000000/\aN (jf p f) d (c (jf p f))/\(decide (jf p f≠d)=false->True/\aN T aK (n 3)/\(decide (T≠aK)=false->((((a v f).same (a v f)/\(a sF x).same (a sF x)/\E.same E/\z.same z/\(a sF x).same (a sF x)/\(c T).same G/\U.same (c 0)/\True)/\A.same A/\B.same B/\True)/\d<=d/\d<=F/\posB []=true)/\∀(x_1:Int),let Q:=bj x x_1.toNat o;let aq:=(Q.fst,Q.snd.fst,Q.snd.snd);let X:=x_1+m;let aO:=c X;let aP:=λ(u:Bool) ↦decide (jL (bV aq)<d)=u;let aQ:=λ(u:Bool) ↦(!okF aq)=u;d<=x_1/\x_1<=F/\posB (ω x_1.toNat x)=true->(decide (x_1<F)=true->d<=x_1/\x_1<T/\x_1.toNat<x.length/\((bA Q.snd.fst/\bA Q.snd.snd)/\γc Q.snd.fst<=10000000/\γc Q.snd.snd<=10000000)/\(aQ true->(q [am,n 2]).same ad)/\(aQ false->cC aq/\(aP true->(q [am,n 4]).same ad)/\(aP false->k X/\(((a v f).same (a v f)/\(a sF x).same (a sF x)/\E.same E/\z.same z/\(a sF x).same (a sF x)/\G.same G/\aO.same aO/\True)/\A.same A/\B.same B/\True)/\(d<=X/\X<=F/\posB (ω X.toNat x)=true)/\(F - X).toNat<(F - x_1).toNat)))/\(decide (x_1<F)=false->(bz p=d/\f.length=aM)/\d<=I/\I<=I/\I*(56:Int)<=(140737488355328:Int)/\I<=(1000000000000:Int)/\((((a v f).same (a v f)/\(a sF x).same (a sF x)/\E.same E/\z.same z/\C.same C/\(γ1 3 I.toNat 3).same D/\(c (↑I.toNat:Int)).same H/\U.same (c 0)/\True)/\A.same A/\B.same B/\(e [l V.fst,a w V.snd.fst,a w V.snd.snd] 177 3 false).same ae/\(g (bp.b.pair (w.bE.pair w.bE)) (δ I.toNat af) 177 true).same (g sF (eV ag 0 af) 177 true)/\True)/\d<=d/\d<=y)/\∀(x_2:Int),let ar:=(bj p.offers x_2.toNat bp.off.dflt).value;let Y:=eV ag x_2.toNat af;let Z:=x_2+m;let aR:=c Z;let au:=bu (κ ar);d<=x_2/\x_2<=y->(decide (x_2<y)=true->d<=x_2/\x_2<(↑p.offers.length:Int)/\x_2.toNat<p.offers.length/\(h<=ar/\ar<=j)/\f.length=Y.length/\d<=x_2/\x_2<(↑Y.length:Int)/\f.length=Y.length/\x_2.toNat<Y.length/\k Z/\(((a v f).same (a v f)/\(a sF x).same (a sF x)/\E.same E/\z.same z/\C.same C/\D.same D/\H.same H/\aR.same aR/\True)/\A.same A/\B.same B/\ae.same ae/\(g sF (Y.set x_2.toNat (au.fst,au.snd.fst,au.snd.snd)) 177 true).same (g sF (eV ag Z.toNat af) 177 true)/\True)/\(d<=Z/\Z<=y)/\(y - Z).toNat<(y - x_2).toNat)/\(decide (x_2<y)=false->((((a v f).same (a v f)/\E.same E/\z.same z/\C.same C/\D.same D/\(a sF x).same (a sF x)/\(c T).same G/\U.same (c 0)/\True)/\A.same A/\B.same B/\ae.same (e [l ao.fst,a w ao.snd.fst,a w ao.snd.snd] 177 3 false)/\(g sF Y 177 true).same (g sF ag 177 true)/\True)/\d<=d/\d<=F)/\∀(x_3:Int),let a6:=bu (kS p f (vL x) x_3.toNat);let R:=e [l a6.fst,a w a6.snd.fst,a w a6.snd.snd] 177 3 false;let av:=g sF (ig p f (vL x) x_3.toNat 0) 177 true;let a7:=bj x x_3.toNat o;let aS:=(a7.fst,a7.snd.fst,a7.snd.snd);let J:=x_3+m;let ah:=c J;let ai:=bu (kS p f (vL x) J.toNat);let aT:=g sF (ig p f (vL x) J.toNat 0) 177 true;let M:=iz p x_3 aM;let a8:=bj x x_3.toNat o;let ab:=e [l a8.fst,a w a8.snd.fst,a w a8.snd.snd] 177 3 false;let ac:=(a8.fst,a8.snd.fst,a8.snd.snd);let aU:=(a6.fst,a6.snd.fst,a6.snd.snd);let aV:=λ(u:bL) (u_1:bq) ↦R.same (e [l u.fst,a w u.snd.fst,a w u.snd.snd] 177 3 false)/\av.same u_1/\True;let aW:=λ(u:Bool) ↦decide (jL (bV aS)=d)=u;d<=x_3/\x_3<=F->(decide (x_3<F)=true->d<=x_3/\x_3<T/\x_3.toNat<x.length/\cC aS/\(aW true->k J/\(((a v f).same (a v f)/\E.same E/\z.same z/\C.same C/\D.same D/\(a sF x).same (a sF x)/\G.same G/\ah.same ah/\True)/\A.same A/\B.same B/\aV ai aT)/\(d<=J/\J<=F)/\(F - J).toNat<(F - x_3).toNat)/\(aW false->(bz p=d/\d<=x_3/\x_3<df p)/\((((a v f).same (a v f)/\E.same E/\z.same z/\C.same C/\D.same D/\W.same W/\(c (dn p x_3)).same (c (mR p f x_3 0))/\(a sF x).same (a sF x)/\G.same G/\(c x_3).same (c x_3)/\(a v M).same (a v M)/\(c (↑M.length:Int)).same H/\U.same (c 0)/\True)/\A.same A/\B.same B/\R.same R/\av.same av/\(e [l a7.fst,a w a7.snd.fst,a w a7.snd.snd] 177 3 false).same ab/\True)/\d<=d/\d<=y)/\∀(ew:Int),let K:=ew+m;let P:=mR p f x_3 ew.toNat;let aX:=c (mR p f x_3 K.toNat);let aj:=c x_3;let ak:=c K;let L:=ig p f (vL x) x_3.toNat ew.toNat;let aw:=g sF L 177 true;let aY:=g sF (ig p f (vL x) x_3.toNat K.toNat) 177 true;let S:=bj M ew.toNat d;let aZ:=decide (S=d);let b0:=bj f ew.toNat d;let b1:=decide (b0=m);let b2:=decide (b0=d);let ax:=bu (κ S);let b3:=(ax.fst,ax.snd.fst,ax.snd.snd);let ay:=bj L ew.toNat o;let b4:=(ay.fst,ay.snd.fst,ay.snd.snd);let az:=bu (bV ac*bV b3);let aA:=bu (bV b4 - bV (az.fst,az.snd.fst,az.snd.snd));let aB:=bu (κ P);let b5:=(aB.fst,aB.snd.fst,aB.snd.snd);let aC:=bu (bV ac*bV b5);let aD:=bu (bV aU+bV (aC.fst,aC.snd.fst,aC.snd.snd));let b6:=k K/\(((a v f).same (a v f)/\E.same E/\z.same z/\C.same C/\D.same D/\W.same W/\(c P).same aX/\(a sF x).same (a sF x)/\G.same G/\aj.same aj/\(a v M).same (a v M)/\H.same H/\ak.same ak/\True)/\A.same A/\B.same B/\R.same R/\aw.same aY/\ab.same ab/\True)/\(d<=K/\K<=y)/\(y - K).toNat<(y - ew).toNat;let b7:=λ(u:Int) (u_1:bq) ↦k K/\(((a v f).same (a v f)/\E.same E/\z.same z/\C.same C/\D.same D/\W.same W/\(c u).same aX/\(a sF x).same (a sF x)/\G.same G/\aj.same aj/\(a v M).same (a v M)/\H.same H/\ak.same ak/\True)/\A.same A/\B.same B/\R.same R/\u_1.same aY/\ab.same ab/\True)/\(d<=K/\K<=y)/\(y - K).toNat<(y - ew).toNat;let b8:=λ(u:Bool×List Int×List Int) (u_1:Int) ↦let aE:=bu (κ u_1);let aF:=bu (bV ac*bV (aE.fst,aE.snd.fst,aE.snd.snd));cC u/\cC (aF.fst,aF.snd.fst,aF.snd.snd);d<=ew/\ew<=y->(decide (ew<y)=true->d<=ew/\ew<(↑M.length:Int)/\ew.toNat<M.length/\(aZ=true->b6)/\(aZ=false->d<=ew/\ew<I/\ew.toNat<f.length/\(b1=true->k (P - S)/\b7 (P - S) aw)/\(b1=false->d<=ew/\ew<I/\ew.toNat<f.length/\(b2=true->f.length=L.length/\d<=ew/\ew<(↑L.length:Int)/\f.length=L.length/\ew.toNat<L.length/\(h<=S/\S<=j)/\(cC ac/\cC b3)/\b8 b4 S/\f.length=L.length/\d<=ew/\ew<(↑L.length:Int)/\f.length=L.length/\ew.toNat<L.length/\b7 P (g sF (L.set ew.toNat (aA.fst,aA.snd.fst,aA.snd.snd)) 177 true))/\(b2=false->b6))))/\(decide (ew<y)=false->(h<=P/\P<=j)/\(cC ac/\cC b5)/\b8 aU P/\k J/\(((a v f).same (a v f)/\E.same E/\z.same z/\C.same C/\D.same D/\(a sF x).same (a sF x)/\G.same G/\ah.same ah/\True)/\A.same A/\B.same B/\(e [l aD.fst,a w aD.snd.fst,a w aD.snd.snd] 177 3 false).same (e [l ai.fst,a w ai.snd.fst,a w ai.snd.snd] 177 3 false)/\aw.same aT/\True)/\(d<=J/\J<=F)/\(F - J).toNat<(F - x_3).toNat)))/\(decide (x_3<F)=false->(((z.same z/\C.same C/\D.same D/\(a v f).same (a v f)/\(c I).same H/\U.same (c 0)/\True)/\A.same A/\B.same B/\aV bg aa)/\d<=d/\d<=y)/\∀(ew:Int),let N:=ew+m;let al:=c N;let a9:=bu (jl p f (vL x) ew.toNat);let b9:=[l a9.fst,a w a9.snd.fst,a w a9.snd.snd];let aG:=bu (jl p f (vL x) N.toNat);let ba:=e [l aG.fst,a w aG.snd.fst,a w aG.snd.snd] 177 3 false;let aH:=bj ap ew.toNat o;let aI:=(aH.fst,aH.snd.fst,aH.snd.snd);let bb:=decide (bj f ew.toNat d=d);let bc:=(a9.fst,a9.snd.fst,a9.snd.snd);let aJ:=bu (bV bc+bV aI);let bd:=k N/\((z.same z/\C.same C/\D.same D/\(a v f).same (a v f)/\H.same H/\al.same al/\True)/\A.same A/\B.same B/\(e b9 177 3 false).same ba/\aa.same aa/\True)/\(d<=N/\N<=y)/\(y - N).toNat<(y - ew).toNat;let be:=cC aI;let bf:=λ(u:Bool) ↦decide (d<jL (bV aI))=u;d<=ew/\ew<=y->(decide (ew<y)=true->d<=ew/\ew<I/\ew.toNat<f.length/\(bb=true->f.length=O/\d<=ew/\ew<(↑O:Int)/\f.length=O/\ew.toNat<O/\be/\(bf true->f.length=O/\d<=ew/\ew<(↑O:Int)/\f.length=O/\ew.toNat<O/\(cC bc/\be)/\k N/\((z.same z/\C.same C/\D.same D/\(a v f).same (a v f)/\H.same H/\al.same al/\True)/\A.same A/\B.same B/\(e [l aJ.fst,a w aJ.snd.fst,a w aJ.snd.snd] 177 3 false).same ba/\aa.same aa/\True)/\(d<=N/\N<=y)/\(y - N).toNat<(y - ew).toNat)/\(bf false->bd))/\(bb=false->bd))/\(decide (ew<y)=false->(q [t b9,U]).same ad))))))) (by kernel_rfl) ?_;simp only[vcs];have hgo:=dR hc;have h160:=hgo.2.1;have hfe:jf p f=0:=by simp[jf,hc,hl,hr]
 have hnr:df p=mF p:=by unfold df mF;omega
 have hxl:x.length=mF p:=by rw[hx,fF,hyl]
 have hvl:vL x=y:=by rw[hx,kJ]
 have aij:mF p<=20:=by have:=hgo.1;unfold mF;omega
 have hxn:∀r:Int,0<=r->r<mF p->bj x r.toNat sF.dflt=bu (bj y r.toNat 0):=λr h0 h1=>by rw[hx];exact jw (by rw[hyl];omega)
 have wJ:∀{q q':Rat},q=q'->(bq.cells [.sb (bu q).1,.row (.i .u32) (bu q).2.1,.row (.i .u32) (bu q).2.2] 177 3 false).same (bq.cells [.sb (bu q').1,.row (.i .u32) (bu q').2.1,.row (.i .u32) (bu q').2.2] 177 3 false):=by rintro _ _ rfl;rfl
 have rU:∀{a b:List bL},a=b->(bq.row sF a 177 true).same (bq.row sF b 177 true):=by rintro _ _ rfl;rfl
 have yR:∀{a b:Nat},a=b->(γ1 3 a 3).same (γ1 3 b 3):=by rintro _ _ rfl;rfl
 have hval:∀i:Int,(bj p.offers i.toNat bp.off.dflt).value=(oI p i).value:=λi=>rfl;have hel:∀r k,(ig p f y r k).length=f.length:=λr k=>by rw[yZ,hl]
 rw[if_pos hc,hnr,hvl];simp only[jM,eD,hval,γl];refine⟨by omega,λh=>absurd hfe h,λ_=>⟨λh=>absurd (by rw[hxl]) h,λ_=>⟨⟨by omega,by omega,rfl⟩,?_⟩⟩⟩;rintro i ⟨i0,i1,hall⟩;have et:=λh=>jX (d:=sF.dflt) (l:=x) i0 h;refine⟨λhi=>?_,λhge=>?_⟩
 ·have hys:=U2 hy (k:=i.toNat) (by omega);have hm:=dr (d:=sF.dflt) (show i.toNat<x.length by omega);have et:=et hi;have hok:=EV (bj y i.toNat 0);obtain⟨s1,⟨u1,u2,u3⟩,⟨u4,u5,u6⟩⟩:=l9 (bj y i.toNat 0);obtain⟨m1,m2⟩:=pn hys;rw[hxn i i0 (by omega)] at hm et ⊢;refine⟨i0,hi,by omega,⟨⟨u1,u4⟩,by omega,by omega⟩,(λh=>by rw[hok] at h;cases h),λ_=>⟨dO hys (by omega),λh=>?_,λh=>⟨by omega,⟨by omega,by omega,?_⟩,by omega⟩⟩⟩
  ·have hn:bj y i.toNat 0<0:=AS.1 (by rwa [eD] at h);have hp:posB x=false:=by
    rw[δI];intro ha;have:=φ.1 ha _ hm;have e:(bu (bj y i.toNat 0)).1=true:=decide_eq_true hn;rw[e] at this;cases this
   simp only[hp,χ,if_false];first|exact rfl|exact⟨rfl,rfl⟩|exact⟨rfl,trivial⟩|(unfold SV.same;exact⟨rfl,rfl⟩)
  ·have hn:¬bj y i.toNat 0<0:=λhh=>h (by rw[eD];exact AS.2 hh);have e:(bu (bj y i.toNat 0)).1=false:=decide_eq_false hn;unfold posB at hall ⊢;rw[et,ζJ,hall];simp[e]
 have hpos:posB x=true:=by rwa [show i.toNat=x.length by omega,ψ] at hall
 simp only[hpos,if_true];refine⟨⟨hc,hl⟩,by omega,by omega,by omega,by omega,⟨⟨⟨yR rfl,trivial⟩,rU ?_⟩,by omega,by omega⟩,?_⟩;·rw[yC,hel]
 rintro i ⟨i0,i1⟩;have oW:=@yB (ig p f y 0 0) i.toNat (false,([],[])) (by rw[hel];omega);rw[hel] at oW;refine⟨λhi=>?_,λhi=>?_⟩
 ·have ho:=kO hc (i:=i) ⟨i0,by omega⟩;have hE:bj (ig p f y 0 0) i.toNat (false,([],[]))=bu (κ (oI p i).value):=by
   rw[y5 (by omega),show((i.toNat:Nat):Int)=i by omega,afs i0]
  exact⟨i0,by omega,by omega,by omega,by omega,by omega,by omega,by omega,by omega,by omega,rU (by rw[yE (by rw[hel];omega) hE.symm,show(i+1).toNat=i.toNat+1 by omega]),by omega,by omega⟩
 rw[show i.toNat=(ig p f y 0 0).length by rw[hel];omega,yD];refine⟨⟨⟨wJ afm.symm,rU rfl⟩,by omega,by omega⟩,?_⟩;rintro r ⟨r0,r1⟩;refine⟨λhr1=>?_,λhr1=>?_⟩
 ·have hys:=U2 hy (k:=r.toNat) (by omega);have hx1:=hxn r r0 (by omega);have gy:cC (bu (bj y r.toNat 0)):=dO hys (by omega);have hrr:((r.toNat:Nat):Int)=r:=by omega
  have hrt:(r+1).toNat=r.toNat+1:=by omega
  simp only[hx1,eD];refine⟨r0,hr1,by omega,gy,λh0=>?_,λh0=>⟨⟨hc,r0,by omega⟩,⟨⟨afo.symm,by rw[UU];omega⟩,by omega,by omega⟩,?_⟩⟩
  ·have h0:=Jk.1 h0;exact⟨by omega,⟨wJ (by rw[hrt,afx h0]),rU (by rw[hrt,afu h0])⟩,by omega,by omega⟩
  rintro k ⟨k0,k1⟩;have hbd:=@UX p f r k.toNat hc hl;have hrl:=@UU p r;refine⟨λhk=>?_,λhk=>?_⟩
  ·have ho:=kO hc (i:=k) ⟨k0,by omega⟩;have hcb:=@pO p r _ ho.2.2.1;have hrn:=@afn p r k ⟨k0,by omega⟩;have hbs:=@afp p f r k k0 (by omega);rw[hrn];refine⟨k0,by omega,by omega,λh1=>?_,λh1=>⟨k0,by omega,by omega,λh2=>?_,λh2=>⟨k0,by omega,by omega,λh3=>?_,λh3=>?_⟩⟩⟩
   ·have hb2:mR p f r k.toNat=mR p f r (k+1).toNat:=by rw[hbs,h1];split<;>omega
    exact⟨by omega,⟨hb2,rU (Lr k0 (.inr (.inl (by rw[hrr];exact h1))))⟩,by omega,by omega⟩
   ·rw[if_pos h2] at hbs;exact⟨by omega,by omega,⟨by omega,rU (Lr k0 (.inl (by omega)))⟩,by omega,by omega⟩
   ·rw[if_neg h2] at hbs;have hen:=@y5 p f y r.toNat k.toNat k.toNat (by omega) sF.dflt;rw[show((k.toNat:Nat):Int)=k by omega,afw k0 h3] at hen;have gx:cC (bu (jk p y r.toNat k)):=dO (U8 hc hy (by omega) ⟨k0,by omega⟩) (by omega);have gc:cC (bu (κ (dX p r (oI p k)))):=dO (rR (W:=dX p r (oI p k)) (by omega) (by omega)) (by omega);have gm:cC (bu (bj y r.toNat 0*κ (dX p r (oI p k)))):=dO (uB hys (rR (W:=dX p r (oI p k)) (by omega) (by omega))) (by omega);have hset:=@afv p f y r.toNat k k0 (by omega) h3;rw[Ln,hrr] at hset;have afG:(ig p f y r.toNat k.toNat).set k.toNat (bu (jk p y r.toNat k - bj y r.toNat 0*κ (dX p r (oI p k))))=ig p f y r.toNat (k+1).toNat:=hset;rw[hen];simp only[eD];rw[afG,hel];refine⟨rfl,k0,?_,rfl,?_,?_,⟨gy,gc⟩,⟨gx,gm⟩,rfl,k0,?_,rfl,?_,?_,⟨?_,rU rfl⟩,?_,?_⟩<;>omega
   ·rw[if_neg h2] at hbs;refine⟨?_,⟨?_,rU (Lr k0 (.inl h3))⟩,?_,?_⟩<;>omega
  ·have hk2:k.toNat=f.length:=by omega
   rw[hk2,UW] at hbd ⊢;have gb:cC (bu (κ (dn p r - cV p ((bD f 1).map (oI p)) r))):=dO (rR (W:=dn p r - cV p ((bD f 1).map (oI p)) r) (by omega) (by omega)) (by omega);have gs:cC (bu (kS p f y r.toNat)):=dO (afB hc hl hy (by omega)) (by omega);have gm:cC (bu (bj y r.toNat 0*κ (dn p r - cV p ((bD f 1).map (oI p)) r))):=dO (uB hys (rR (W:=dn p r - cV p ((bD f 1).map (oI p)) r) (by omega) (by omega))) (by omega);refine⟨by omega,⟨gy,gb⟩,⟨gs,gm⟩,by omega,⟨wJ ?_,rU ?_⟩,by omega,by omega⟩;·rw[hrt,UT,hrr]
   ·rw[hrt,hl];exact aft
 ·have hr2:r.toNat=mF p:=by omega
  rw[hr2];refine⟨⟨⟨wJ UY.symm,rU rfl⟩,by omega,by omega⟩,?_⟩;rintro i ⟨i0,i1⟩;refine⟨λhi=>?_,λhi=>?_⟩
  ·have hs:=@UZ p f y i i0;refine⟨i0,hi,by omega,λh0=>?_,λh0=>?_⟩
   ·have hen:=@y5 p f y (mF p) 0 i.toNat (by omega) sF.dflt;have he0:oK p f y (mF p) 0 i=jk p y (mF p) i:=by
     unfold oK;rw[if_pos h0,if_neg (show ¬i<((0:Nat):Int) by omega)]
    rw[show((i.toNat:Nat):Int)=i by omega,he0] at hen;have gx:cC (bu (jk p y (mF p) i)):=dO (U8 hc hy (ξ _) ⟨i0,by omega⟩) (by omega);have gs:cC (bu (jl p f y i.toNat)):=dO (U9 hc hl hy (by omega)) (by omega);rw[hen,hel];simp only[eD];refine⟨trivial,i0,by omega,trivial,by omega,gx,λh1=>⟨trivial,i0,by omega,trivial,by omega,⟨gs,gx⟩,by omega,wJ ?_,by omega,by omega⟩,λh1=>⟨by omega,wJ ?_,by omega,by omega⟩⟩;·rw[hs,if_pos ⟨h0,uE.1 h1⟩]
    ·rw[hs,if_neg (λh=>h1 (uE.2 h.2))];exact(ζL _).symm
   ·refine⟨by omega,wJ ?_,by omega,by omega⟩;rw[hs,if_neg (λh=>h0 h.1)];exact(ζL _).symm
  ·rw[show i.toNat=f.length by omega];first|exact rfl|exact⟨rfl,rfl⟩|exact⟨rfl,trivial⟩
def Lx:bM:=⟨208,dj×bn×Int×List Int,.cons (eh bF) (.cons dQ (.cons (eA .i64) (.one (dM (.i .i64))))),λa=>wI a.2.1 a.2.2.2 a.1.2.2.2.2/\ -9223372036854775808<=a.2.2.1/\a.2.2.1<=9223372036854775807,
 λa=> .sb (posB a.1.2.2.2.2&&decide (jl a.2.1 a.2.2.2 (vL a.1.2.2.2.2) a.2.2.2.length<κ a.2.2.1+1))⟩
theorem h492:Holds Tryz.prog Lx:=by
 refine cH (L:=[Lu,ox,v8,yi]) Lx lk (by grind[h494,h94,h129,h97]) ?_;rintro⟨⟨k,o,a,b,x⟩,p,v,f⟩ ⟨c,i,g⟩;simp only at c i g;have d:=c;obtain⟨⟨H,J,M⟩,y,K,I,G⟩:=d;have C:=U9 H J G (ξ f.length);have q:vL x=y:=by rw[K,kJ]
 rw[<-q] at C;have F:(κ 1:Rat)=1:=rfl;have s:Sz 2 (κ v:Rat):=rR i g;have t:Sz 2 (1:Rat):=rR (W:=1) (by omega) (by omega);refine bR (let a:=(-9223372036854775808:Int);let b:=(9223372036854775807:Int);let c:=(1:Int);let d:=(0:Int);let j:=jl p f (vL x) f.length;let n:=bu (κ v);let D:=(n.fst,n.snd.fst,n.snd.snd);let r:=bu (κ c);let A:=(r.fst,r.snd.fst,r.snd.snd);let z:=(if posB x=true then(bu j).fst else false,if posB x=true then(bu j).snd.fst else[],if posB x=true then(bu j).snd.snd else[]);let l:=bu (bV D+bV A);let E:=(l.fst,l.snd.fst,l.snd.snd);let B:=λ(u:SV) ↦u.same (γw (posB x&&decide (j<κ v+(1:Rat))));let w:=λ(u:Bool) ↦decide ((if posB x=true then d else(4:Int))=d)=u;wI p f x/\(a<=v/\v<=b)/\(a<=c/\c<=b)/\(cC D/\cC A)/\(w true->(cC z/\cC E)/\B (γw (decide (iP (bV z) (bV E)<d))))/\(w false->B (δf false))) (by kernel_rfl) ?_;simp only[jM,eD,F];by_cases m:posB x=true
 ·simp only[m,if_true,Bool.true_and,jM,eD];refine⟨c,⟨i,g⟩,by omega,⟨dO s (by omega),dO t (by omega)⟩,λ_=>⟨⟨dO C (by omega),dO (AA s t) (by omega)⟩,?_⟩,λh=>by cases h⟩;have e:decide (iP (jl p f (vL x) f.length) (κ v+1)<0)=decide (jl p f (vL x) f.length<κ v+1):=decide_eq_decide.2 tf;rw[e];rfl
 ·have m:posB x=false:=by simp_all
  simp only[m,χ,if_false,Bool.false_and];exact⟨c,⟨i,g⟩,by omega,⟨dO s (by omega),dO t (by omega)⟩,(λh=>by cases h),λ_=>rfl⟩
def Ly:bM:=⟨214,dj×bn×Int×List Int,.cons (eh bF) (.cons dQ (.cons (eA .i64) (.one (dM (.i .i64))))),λa=>0<=a.1.2.1,λa=> .sb (decide (a.1.2.1<a.2.2.2.length)&&decide (bj a.2.2.2 a.1.2.1.toNat 0=0))⟩
theorem h498:Holds Tryz.prog Ly:=by
 refine cH (L:=[]) Ly lk (by simp) ?_;rintro⟨⟨k,o,a,b,x⟩,p,v,f⟩ (e:0<=o);refine bR (let a:=(0:Int);let c:=decide (o<(↑f.length:Int));let d:=λ(u:SV) ↦u.same (γw (decide (o<(↑f.length:Int))&&decide (bj f o.toNat a=a)));(c=true->a<=o/\o<(↑f.length:Int)/\o.toNat<f.length/\d (γw (decide (bj f o.toNat a=a))))/\(c=false->d (δf false))) (by kernel_rfl) ?_;simp_all[decide_eq_false]
def LA:bM:=⟨218,dj×bn×Int×List Int,.cons (eh bF) (.cons dQ (.cons (eA .i64) (.one (dM (.i .i64))))),λa=>a.2.2.2.length<=1000000,λa=> .sb (decide (di a.2.1 (bD a.2.2.2 1)≠0))⟩
def afH (n:dj) (p:bn) (f:List Int):Nat->cF
 |3=> .inv Int (λi=>⟨[(5,.ptr 1 0 20),(9,.ow 2 (bD (f.take i.toNat) 1).length 1),(12,.row (.i .i64) f),(13,.si .i64 f.length),(14,.si .i64 i)],[.cells (encS bF n) 206 5 false,.cells p.ss 27 20 false,.row (.i .i64) (bD (f.take i.toNat) 1) 3 true]⟩)
   (λs=>iS s 14) (λi=>0<=i/\i<=f.length) (λi=>(f.length - i).toNat) λ_ _=> .look
 |_=> .look
theorem h502:Holds Tryz.prog LA:=by
 refine cH (L:=[xT]) LA (λa=>afH a.1 a.2.1 a.2.2.2) (by simpa using h100) ?_;rintro⟨⟨k,o,a,b,x⟩,p,v,f⟩ (hl:f.length<=1000000);refine bR (let c:=γi .i64;let d:=(0:Int);let e:=(1:Int);let g:=bq.row;let h:=Ω;let j:=γ1;let r:=γT 1 0 20;let m:=bp.i .i64;let n:=(↑f.length:Int);let v:=c n;let s:=bq.cells [c k,c o,c a,c b,h sF x] 206 5 false;let t:=bq.cells [c p.supply.a0,c p.supply.a1,c p.supply.a2,c p.supply.a3,c p.supply.a4,c p.supply.a5,c p.opn.a0,c p.opn.a1,c p.opn.a2,c p.opn.a3,c p.opn.a4,c p.opn.a5,c p.cls.a0,c p.cls.a1,c p.cls.a2,c p.cls.a3,c p.cls.a4,c p.cls.a5,h m p.classes,h bp.off p.offers] 27 20 false;(((r.same r/\(j 2 0 1).same (j 2 (bD [] e).length 1)/\(h m f).same (h m f)/\(c (↑f.length:Int)).same v/\(γy .i64 0).same (c 0)/\True)/\s.same s/\t.same t/\(g m [] 3 true).same (g m (bD [] e) 3 true)/\True)/\d<=d/\d<=n)/\∀(x_1:Int),let q:=x_1+e;let w:=bD (ω q.toNat f) e;let y:=c q;let z:=decide (bj f x_1.toNat d=e);let l:=bD (ω x_1.toNat f) e;let A:=l.length+1;let B:=λ(u:Nat) (u_1:bq) ↦cu .i64 q/\((r.same r/\(j 2 u 1).same (j 2 w.length 1)/\(h m f).same (h m f)/\v.same v/\y.same y/\True)/\s.same s/\t.same t/\u_1.same (g m w 3 true)/\True)/\(d<=q/\q<=n)/\(n - q).toNat<(n - x_1).toNat;d<=x_1/\x_1<=n->(decide (x_1<n)=true->d<=x_1/\x_1<(↑f.length:Int)/\x_1.toNat<f.length/\(z=true->l.length=l.length/\A*8<=140737488355328/\A<=1000000000000/\B (l++[x_1]).length (g m (l++[x_1]) 3 true))/\(z=false->B l.length (g m l 3 true)))/\(decide (x_1<n)=false->l.length=l.length/\l.length<=9223372036854775807/\(γw (decide (di p l≠d))).same (γw (decide (di p (bD f e)≠d))))) (by kernel_rfl) ?_;simp only[vcs];have how:∀{x y:Nat},x=y->(γ1 2 x 1).same (γ1 2 y 1):=by rintro _ _ rfl;rfl
 have hrow:∀{x y:List Int},x=y->(bq.row (.i .i64) x 3 true).same (bq.row (.i .i64) y 3 true):=by rintro _ _ rfl;rfl
 refine⟨⟨⟨how rfl,hrow rfl⟩,by omega,by omega⟩,?_⟩;rintro i ⟨i0,i1⟩;have hd:=@uL (f.take i.toNat) 1;rw[γq] at hd;refine⟨λhi=>?_,λhi=>?_⟩
 ·have hs:=Bg (d:=1) i0 hi;refine⟨i0,hi,by omega,λh1=>?_,λh1=>?_⟩
  ·rw[if_pos h1] at hs;rw[hs];refine⟨?_,?_,?_,⟨how rfl,hrow rfl⟩,?_,?_⟩<;>omega
  ·rw[if_neg h1,γ7] at hs;rw[hs];refine⟨?_,⟨how rfl,hrow rfl⟩,?_,?_⟩<;>omega
 ·rw[show f.take i.toNat=f by rw[show i.toNat=f.length by omega,ψ]] at hd ⊢;exact⟨by omega,rfl⟩
def LC:bM:=⟨222,Unit×bn×Int×List Int,.cons K9 (.cons dQ (.cons (eA .i64) (.one (dM (.i .i64))))),λ_=>True,λ_=> .sb false⟩
theorem h506:Holds Tryz.prog LC:=by
 refine cH (L:=[]) LC lk (by simp) ?_;rintro⟨_,p,v,f⟩ _;refine bR ((δf false).same (γw false)) (by kernel_rfl) ?_;rfl
@[reducible] def rV:bp:=.pair (.i .i64) .b
def eU (t:List dj):Nat->List (Int×Bool)
 |0=>δ t.length (0,false)
 |i+1=>if(bj t i bF.dflt).1=2 then((eU t i).set (bj t i bF.dflt).2.2.1.toNat ((i:Int),false)).set (bj t i bF.dflt).2.2.2.1.toNat ((i:Int),true) else eU t i
def oL (t:List dj) (u:List (Int×Bool)) (k:Int) (f:List Int):List Int:=
 if(bj t (bj u k.toNat (0,false)).1.toNat bF.dflt).2.1<f.length then f.set (bj t (bj u k.toNat (0,false)).1.toNat bF.dflt).2.1.toNat (if(bj u k.toNat (0,false)).2 then 1 else -1) else f
def iE (t:List dj) (u:List (Int×Bool)):Nat->Int->List Int->List Int
 |0,_,f=>f
 |m+1,k,f=>if 0<k then iE t u m (bj u k.toNat (0,false)).1 (oL t u k f) else f
def iY (p:bn) (t:List dj) (i:Nat):List Int:=iE t (eU t i) i i (δ p.offers.length 0)
def rW (p:bn) (v:Int) (f:List Int) (n:dj):Bool:=
 if n.1=1 then posB n.2.2.2.2&&decide (jl p f (vL n.2.2.2.2) f.length<κ v+1) else if n.1=2 then decide (n.2.1<f.length)&&decide (bj f n.2.1.toNat 0=0) else if n.1=3 then decide (di p (bD f 1)≠0) else false
def rX (p:bn) (v:Int) (t:List dj):Bool:=(Γ t.length).all λi=>rW p v (iY p t i) (bj t i bF.dflt)
def LD (t:List dj) (u:List (Int×Bool)):Prop:=u.length=t.length/\∀k,k<t.length->0<=(bj u k (0,false)).1/\(0<k->(bj u k (0,false)).1<k)
def LG (p:bn) (v:Int) (t:List dj):Prop:=(bz p=0/\dU t=true)/\(-9223372036854775808<=v/\v<=9223372036854775807)/\∀i,i<t.length->(bj t i bF.dflt).1=1->wI p (iY p t i) (bj t i bF.dflt).2.2.2.2
theorem Va {t:List dj} {u:List (Int×Bool)} {k:Int} {f:List Int}:(oL t u k f).length=f.length:=by
 grind[oL]
theorem Vb {t:List dj} {u:List (Int×Bool)}:∀{m:Nat} {k:Int} {f:List Int},(iE t u m k f).length=f.length
 |0,_,_=>rfl
 |m+1,k,f=>by
  unfold iE;split;·rw[Vb,Va]
  ·rfl
theorem LH {t:List dj} {u:List (Int×Bool)} (a:LD t u):∀{m:Nat} {k:Int} {f:List Int},0<=k->k<t.length->k<=m->iE t u m k f=iE t u k.toNat k f
 |0,k,f,g,d,e=>by grind;|m+1,k,f,g,d,e=>by
  by_cases c:0<k
  ·have b:=a.2 k.toNat (by omega);have h:=b.2 (by omega);rw[show k.toNat=(k.toNat - 1)+1 by omega];unfold iE;rw[if_pos c,if_pos c,LH a b.1 (by omega) (by omega)];exact(LH a b.1 (by omega) (by omega)).symm
  ·rw[show k=0 by omega];rfl
theorem Vd {t:List dj} {u:List (Int×Bool)} (b:LD t u) {k:Int} {f:List Int} (a:0<k) (e:k<t.length):iE t u k.toNat k f=iE t u (bj u k.toNat (0,false)).1.toNat (bj u k.toNat (0,false)).1 (oL t u k f):=by
 have c:=b.2 k.toNat (by omega);have d:=c.2 (by omega);rw[show iE t u k.toNat k f=iE t u ((k.toNat - 1)+1) k f by grind];conv=>lhs;unfold iE
 rw[if_pos a];grind[LH]
theorem tj {t:List dj}:∀{i:Nat},(eU t i).length=t.length
 |0=>by simp[eU];|i+1=>by
  unfold eU;split;·rw[Φ,Φ,tj]
  ·exact tj
theorem LI {t:List dj} (h:dU t=true) {i:Nat} (c:i<t.length):0<=(bj t i bF.dflt).2.1/\((bj t i bF.dflt).1=2->((i:Int)<(bj t i bF.dflt).2.2.1/\(bj t i bF.dflt).2.2.1<t.length)/\((i:Int)<(bj t i bF.dflt).2.2.2.1/\(bj t i bF.dflt).2.2.2.1<t.length)):=by
 unfold dU at h;simp only[θ,φ,γx] at h;have b:=h.2.1 i c;unfold kR at b;simp only[θ] at b;obtain⟨a,d⟩:=b;refine⟨?_,λe=>?_⟩
 ·unfold tg at a;split at a;·simp_all[wf1,rQ]
  ·split at a;all_goals simp_all[wf2,oJ,uN,rQ]
 simp_all[jB,uO]
theorem LJ {t:List dj} (h:dU t=true):∀{i:Nat},i<=t.length->LD t (eU t i)
 |0,_=>⟨tj,λk a=>by
   grind[eU,cQ]⟩
 |i+1,g=>⟨tj,λk a=>by
   have b:=(LJ h (i:=i) (by omega)).2 k a;unfold eU;split
   ·rename_i c;obtain⟨⟨j,f⟩,d,e⟩:=(LI h (i:=i) (by omega)).2 c;grind[tj,iR]
   ·exact b⟩
def LK:bM:=⟨62,bn×Int×List dj,.cons dQ (.cons (eA .i64) (.one (dM bF))),λa=>LG a.1 a.2.1 a.2.2,λa=> .si .i64 (if rX a.1 a.2.1 a.2.2 then 0 else 13)⟩
noncomputable def afI (p:bn) (v:Int) (t:List dj):Nat->cF
 |3=> .inv Int (λi=>⟨[(1,.si .i64 v),(2,.row bF t),(3,.ptr 0 0 20),(7,.ow 1 t.length 2),(16,.row bF t),(17,.si .i64 t.length),(18,.si .i64 i)],[.cells p.ss 27 20 false,.row rV (eU t i.toNat) 159 true]⟩)
   (λs=>iS s 18) (λi=>0<=i/\i<=t.length/\∀j:Nat,j<i->rW p v (iY p t j) (bj t j bF.dflt)=true) (λi=>(t.length - i).toNat) λi k=>match k with
   |7=> .inv (Int×List Int) (λx=>⟨[(1,.si .i64 v),(2,.row bF t),(3,.ptr 0 0 20),(7,.ow 1 t.length 2),(8,.si .i64 i),(9,.ptr 2 0 5),(10,.ow 3 p.offers.length 1),(11,.si .i64 x.1),(16,.row bF t),(17,.si .i64 t.length),(18,.si .i64 i)],
      [.cells p.ss 27 20 false,.row rV (eU t i.toNat) 159 true,.cells (encS bF (bj t i.toNat bF.dflt)) 108 5 false,.row (.i .i64) x.2 3 true]⟩)
     (λs=>(iS s 11,oS (.i .i64) s 3)) (λx=>(0<=x.1/\x.1<=i)/\x.2.length=p.offers.length/\iE t (eU t i.toNat) x.1.toNat x.1 x.2=iY p t i.toNat) (λx=>x.1.toNat) λ_ _=> .look
   |_=> .look
 |_=> .look
theorem h481:Holds Tryz.prog LK:=by
 refine cH (L:=[E3,Lx,Ly,LA,LC]) LK (λa=>afI a.1 a.2.1 a.2.2) (by simpa using⟨h485,h492,h498,h502,h506⟩) ?_;rintro⟨p,v,t⟩ ⟨⟨hc,ht⟩,⟨v0,v1⟩,hb⟩;simp only at hc ht v0 v1 hb;refine bR (let a:=γi .i64;let c:=(0:Int);let d:=Ω;let e:=bq.row;let f:=γy .i64;let g:=(140737488355328:Int);let h:=(1000000000000:Int);let k:=(1:Int);let l:=γ1;let o:=(↑t.length:Int);let w:=γT 0 0 20;let C:=l 1 t.length 2;let y:=(↑t.length:Int);let D:=a y;let a9:=f 0;let K:=bp.i .i64;let q:=bq.cells [a p.supply.a0,a p.supply.a1,a p.supply.a2,a p.supply.a3,a p.supply.a4,a p.supply.a5,a p.opn.a0,a p.opn.a1,a p.opn.a2,a p.opn.a3,a p.opn.a4,a p.opn.a5,a p.cls.a0,a p.cls.a1,a p.cls.a2,a p.cls.a3,a p.cls.a4,a p.cls.a5,d K p.classes,d bp.off p.offers] 27 20 false;let E:=(↑p.offers.length:Int);let S:=γT 2 0 5;let n:=p.offers.length;let Z:=l 3 n 1;let a6:=δ E.toNat c;let aa:=e K a6 3 true;let L:=a (if rX p v t=true then c else(13:Int));c<=o/\o<=o/\o*(16:Int)<=g/\o<=h/\((((a v).same (a v)/\(d bF t).same (d bF t)/\w.same w/\(l 1 o.toNat 2).same C/\(d bF t).same (d bF t)/\(a o).same D/\a9.same (a 0)/\True)/\q.same q/\(e (K.pair bp.b) (δ o.toNat (c,false)) 159 true).same (e rV (eU t 0) 159 true)/\True)/\c<=c/\c<=y/\∀(j:Nat),(↑j:Int)<c->rW p v (iY p t j) (bj t j bF.dflt)=true)/\∀(x:Int),let z:=eU t x.toNat;let F:=e rV z 159 true;let s:=bj t x.toNat bF.dflt;let T:=s.snd.fst;let M:=s.snd.snd.fst;let N:=s.snd.snd.snd.fst;let U:=s.snd.snd.snd.snd;let H:=bq.cells [a s.fst,a T,a M,a N,d sF U] 108 5 false;let V:=iY p t x.toNat;let m:=z.length;let O:=(↑m:Int);let ab:=decide (s.fst=k);let ac:=decide (s.fst=(2:Int));let P:=z.set (ζr M) (x,false);let G:=x+k;let ad:=a G;let ar:=e rV (eU t G.toNat) 159 true;let ae:=decide (s.fst=(2:Int));let af:=decide (s.fst=(3:Int));(c<=x/\x<=y/\∀(j:Nat),(↑j:Int)<x->rW p v (iY p t j) (bj t j bF.dflt)=true)->(decide (x<y)=true->c<=x/\x<o/\x.toNat<t.length/\c<=E/\E<=E/\E*(8:Int)<=g/\E<=h/\((((a v).same (a v)/\(d bF t).same (d bF t)/\w.same w/\C.same C/\(a x).same (a x)/\S.same S/\(l 3 E.toNat 1).same Z/\(a x).same (a x)/\(d bF t).same (d bF t)/\D.same D/\(a x).same (a x)/\True)/\q.same q/\F.same F/\H.same H/\aa.same aa/\True)/\(c<=x/\x<=x)/\a6.length=n/\iE t z x.toNat x a6=V)/\∀(x_1:Int×List Int),let W:=a x;let A:=x_1.fst.toNat;let a7:=bj z A rV.dflt;let r:=a7.fst;let ag:=a r;let I:=ζr r;let J:=(bj t I bF.dflt).snd.fst;let X:=ζr J;let Q:=x_1.snd.length;let ah:=decide (c<x_1.fst);let B:=x_1.snd.length;let R:=x_1.snd.set X (-1:Int);let ai:=e K x_1.snd 3 true;let Y:=let aj:=λ(u:bq) ↦cu .i64 G/\(((a v).same (a v)/\(d bF t).same (d bF t)/\w.same w/\C.same C/\(d bF t).same (d bF t)/\D.same D/\ad.same ad/\True)/\q.same q/\u.same ar/\True)/\(c<=G/\G<=y/\∀(j:Nat),(↑j:Int)<G->rW p v (iY p t j) (bj t j bF.dflt)=true)/\(y - G).toNat<(y - x).toNat;(ac=true->t.length=m/\c<=M/\M<O/\t.length=m/\ζr M<m/\t.length=P.length/\c<=N/\N<(↑P.length:Int)/\t.length=P.length/\ζr N<P.length/\aj (e rV (P.set (ζr N) (x,true)) 159 true))/\(ac=false->aj F);let ak:=(a v).same (a v)/\(d bF t).same (d bF t)/\w.same w/\C.same C/\W.same W/\S.same S/\Z.same Z/\ag.same ag/\(d bF t).same (d bF t)/\D.same D/\W.same W/\True;let al:=λ(u:List Int) (u_1:Int) ↦let a8:=u.set X u_1;let am:=e K a8 3 true;t.length=m/\c<=x_1.fst/\x_1.fst<O/\t.length=m/\A<m/\(ak/\q.same q/\F.same F/\H.same H/\am.same am/\True)/\((c<=r/\r<=x)/\a8.length=n/\iE t z I r a8=V)/\I<A;let an:=λ(u:Bool) ↦(!(posB U&&decide (jl p x_1.snd (vL U) Q<κ v+(1:Rat))))=u;let ao:=λ(u:Bool) ↦(!(decide (T<(↑Q:Int))&&decide (bj x_1.snd (ζr T) 0=c)))=u;let ap:=λ(u:Bool) ↦(!decide (di p (bD x_1.snd k)≠c))=u;let aq:=λ(u:Bool) ↦decide (J<(↑n:Int))=u;(c<=x_1.fst/\x_1.fst<=x)/\Q=n/\iE t z A x_1.fst x_1.snd=V->(ah=true->t.length=m/\c<=x_1.fst/\x_1.fst<O/\t.length=m/\A<m/\c<=r/\r<o/\I<t.length/\(aq true->n=B/\c<=J/\J<(↑B:Int)/\n=B/\X<B/\t.length=m/\c<=x_1.fst/\x_1.fst<O/\t.length=m/\A<m/\(a7.snd=true->n=R.length/\c<=J/\J<(↑R.length:Int)/\n=R.length/\X<R.length/\al R k)/\(a7.snd=false->al x_1.snd (-1:Int)))/\(aq false->t.length=m/\c<=x_1.fst/\x_1.fst<O/\t.length=m/\A<m/\(ak/\q.same q/\F.same F/\H.same H/\ai.same ai/\True)/\((c<=r/\r<=x)/\Q=n/\iE t z I r x_1.snd=V)/\I<A))/\(ah=false->True/\(ab=true->n=B/\(wI p x_1.snd U/\(-9223372036854775808:Int)<=v/\v<=(9223372036854775807:Int))/\(an true->(f 13).same L)/\(an false->Y))/\(ab=false->(ae=true->n=B/\c<=T/\(ao true->(f 13).same L)/\(ao false->Y))/\(ae=false->(af=true->n=B/\Q<=1000000/\(ap true->(f 13).same L)/\(ap false->Y))/\(af=false->n=B/\True/\(true=true->(f 13).same L)/\(true=false->Y))))))/\(decide (x<y)=false->a9.same L)) (by kernel_rfl) ?_;simp only[vcs];have h160:=(dR hc).2.1;have htn:1<=t.length/\t.length<=65536:=by
  unfold dU at ht;simp only[θ,decide_eq_true_eq] at ht;exact ht.1
 have hw:∀i,t.length=(eU t i).length:=λi=>tj.symm;have how:∀{x y:Nat},x=y->(γ1 1 x 2).same (γ1 1 y 2):=by rintro _ _ rfl;rfl
 have hof:∀{x y:Nat},x=y->(γ1 3 x 1).same (γ1 3 y 1):=by rintro _ _ rfl;rfl
 have hrow:∀{x y:List (Int×Bool)},x=y->(bq.row rV x 159 true).same (bq.row rV y 159 true):=by rintro _ _ rfl;rfl
 have hd:(rV.dflt:Int×Bool)=(0,false):=rfl;simp only[γl,hd];refine⟨by omega,by omega,by omega,by omega,⟨⟨how rfl,hrow rfl⟩,by omega,by omega,λj hj=>by omega⟩,?_⟩;rintro i ⟨i0,i1,hall⟩;refine⟨λhi=>?_,λhi=>?_⟩
 ·have hu:=LJ ht (i:=i.toNat) (by omega);have hlu:=@tj t i.toNat;have hno:=LI ht (i:=i.toNat) (by omega);refine⟨i0,hi,by omega,by omega,by omega,by omega,by omega,⟨hof rfl,⟨i0,Int.le_refl _⟩,List.length_replicate,?_⟩,?_⟩
  ·unfold iY;rw[show((i.toNat:Nat):Int)=i by omega]
  rintro⟨k,f⟩ ⟨⟨k0,k1⟩,hfl,hfx⟩;simp only at k0 k1 hfl hfx ⊢;refine⟨λhk=>?_,λhk=>?_⟩
  ·have q:=hu.2 k.toNat (by omega);have q1:=q.2 (by omega);have ho:=(LI ht (i:=(bj (eU t i.toNat) k.toNat (0,false)).1.toNat) (by omega)).1;have hs:=@Vd t (eU t i.toNat) hu k f hk (by omega);rw[hfx] at hs;unfold oL at hs;rw[hfl] at hs;have qq:=q.1;clear q;generalize bj (eU t i.toNat) k.toNat (0,false)=s at qq q1 ho hs ⊢;generalize (bj t s.1.toNat bF.dflt).2.1=o at ho hs ⊢;refine⟨hw _,k0,by omega,hw _,by omega,qq,by omega,by omega,λh=>?_,λh=>?_⟩
   ·rw[if_pos h] at hs;have l1:(f.set o.toNat (-1)).length=p.offers.length:=by rw[Φ,hfl]
    refine⟨by omega,ho,by omega,by omega,by omega,hw _,k0,by omega,hw _,by omega,λh2=>?_,λh2=>?_⟩
    ·rw[if_pos h2] at hs;exact⟨by omega,ho,by omega,by omega,by omega,hw _,k0,by omega,hw _,by omega,⟨⟨qq,by omega⟩,by rw[Φ];exact l1,by rw[List.set_set];exact hs.symm⟩,by omega⟩
    ·rw[if_neg (by rw[h2];exact Bool.false_ne_true)] at hs;refine⟨hw _,k0,?_,hw _,?_,⟨⟨qq,?_⟩,l1,hs.symm⟩,?_⟩<;>omega
   ·rw[if_neg h] at hs;refine⟨hw _,k0,?_,hw _,?_,⟨⟨qq,?_⟩,hfl,hs.symm⟩,?_⟩<;>omega
  ·have hk0:k=0:=by omega
   have hf:f=iY p t i.toNat:=by rw[<-hfx,hk0];rfl
   have hbi:=hb i.toNat (by omega);rw[<-hf] at hbi;have no:rW p v f (bj t i.toNat bF.dflt)=false->(13:Int)=if rX p v t=true then 0 else 13:=λh=>by
    have:rX p v t=false:=by
     unfold rX;rw[δI];intro ha;have:=φ.1 ha i.toNat (γx.2 (by omega));rw[<-hf,h] at this;cases this
    rw[this];rfl
   have next:rW p v f (bj t i.toNat bF.dflt)=true->∀j:Nat,(j:Int)<i+1->rW p v (iY p t j) (bj t j bF.dflt)=true:=λh j hj=>by
    by_cases h2:(j:Int)<i;·exact hall j h2
    ·rw[show j=i.toNat by omega,<-hf];exact h
   have hup:eU t (i+1).toNat=if(bj t i.toNat bF.dflt).1=2 then((eU t i.toNat).set (bj t i.toNat bF.dflt).2.2.1.toNat (i,false)).set (bj t i.toNat bF.dflt).2.2.2.1.toNat (i,true) else eU t i.toNat:=by
    rw[show(i+1).toNat=i.toNat+1 by omega];conv=>lhs;unfold eU
    rw[show((i.toNat:Nat):Int)=i by omega]
   rw[hup];unfold rW at no next;have hsl:∀(j:Nat) (z:Int×Bool),((eU t i.toNat).set j z).length=t.length:=λj z=>by rw[Φ,hlu]
   generalize bj t i.toNat bF.dflt=n at no next hno hbi ⊢;refine⟨λh1=>⟨hfl.symm,⟨hbi h1,v0,v1⟩,λh=>no (by rw[if_pos h1];exact h),λh=>?_⟩,λh1=>⟨λh3=>⟨hfl.symm,hno.1,λh=>no (by rw[if_neg h1,if_pos h3];exact h),λh=>?_⟩,λh3=>⟨λh4=>⟨hfl.symm,by omega,λh=>no (by rw[if_neg h1,if_neg h3,if_pos h4];exact decide_eq_false h),λh=>?_⟩,λh4=>?_⟩⟩⟩;·exact⟨λh2=>by
      obtain⟨⟨a1,a2⟩,b1,b2⟩:=hno.2 h2;have s1:=hsl n.2.2.1.toNat (i,false);exact⟨hw _,by omega,by omega,hw _,by omega,s1.symm,by omega,by omega,s1.symm,by omega,by omega,hrow (if_pos h2).symm,⟨by omega,by omega,next (by rw[if_pos h1,h.1,decide_eq_true h.2];rfl)⟩,by omega⟩,λh2=>⟨by omega,hrow (if_neg h2).symm,⟨by omega,by omega,next (by rw[if_pos h1,h.1,decide_eq_true h.2];rfl)⟩,by omega⟩⟩
   ·exact⟨λh2=>by
      obtain⟨⟨a1,a2⟩,b1,b2⟩:=hno.2 h2;have s1:=hsl n.2.2.1.toNat (i,false);exact⟨hw _,by omega,by omega,hw _,by omega,s1.symm,by omega,by omega,s1.symm,by omega,by omega,hrow (if_pos h2).symm,⟨by omega,by omega,next (by rw[if_neg h1,if_pos h3,decide_eq_true h.1,decide_eq_true h.2];rfl)⟩,by omega⟩,λh2=>⟨by omega,hrow (if_neg h2).symm,⟨by omega,by omega,next (by rw[if_neg h1,if_pos h3,decide_eq_true h.1,decide_eq_true h.2];rfl)⟩,by omega⟩⟩
   ·exact⟨λh2=>by
      obtain⟨⟨a1,a2⟩,b1,b2⟩:=hno.2 h2;have s1:=hsl n.2.2.1.toNat (i,false);exact⟨hw _,by omega,by omega,hw _,by omega,s1.symm,by omega,by omega,s1.symm,by omega,by omega,hrow (if_pos h2).symm,⟨by omega,by omega,next (by rw[if_neg h1,if_neg h3,if_pos h4];exact decide_eq_true h)⟩,by omega⟩,λh2=>⟨by omega,hrow (if_neg h2).symm,⟨by omega,by omega,next (by rw[if_neg h1,if_neg h3,if_pos h4];exact decide_eq_true h)⟩,by omega⟩⟩
   ·have:=no (by rw[if_neg h1,if_neg h3,if_neg h4]);exact⟨hfl.symm,λ_=>this,λh=>by cases h⟩
 ·have:rX p v t=true:=φ.2 λj hj=>hall j (by have:=γx.1 hj;omega);rw[this];rfl
def mr (p:bn) (n:dj):Bool:=!(decide (n.1=1)&&decide ((n.2.2.2.2.length:Int)≠df p))
def uP (p:bn) (v:Int) (t:List dj):Int:=
 if bz p≠0 then bz p else if t.length=0 then 1 else if 65536<t.length then 3 else if dU t=false then 2 else if t.all (mr p)=false then 2 else if rX p v t=true then 0 else 13
def wK (p:bn) (v:Int) (t:List dj):Prop:=(∀n∈t,∀x∈n.2.2.2.2,iW x)/\t.length<=1000000000000/\(bz p=0->dU t=true->t.all (mr p)=true->LG p v t)
def LL:bM:=⟨39,bn×Int×List dj,.cons dQ (.cons (eA .i64) (.one (dM bF))),λa=>wK a.1 a.2.1 a.2.2,λa=> .si .i64 (uP a.1 a.2.1 a.2.2)⟩
def afK (p:bn) (v:Int) (t:List dj):Nat->cF
 |12=> .inv Int (λi=>⟨[(1,.si .i64 v),(2,.row bF t),(3,.ptr 0 0 20),(8,.si .i64 (df p)),(30,.row bF t),(31,.si .i64 t.length),(32,.si .i64 i)],[.cells p.ss 27 20 false]⟩)
   (λs=>iS s 32) (λi=>0<=i/\i<=t.length/\∀j:Nat,j<i->mr p (bj t j bF.dflt)=true) (λi=>(t.length - i).toNat) λ_ _=> .look
 |_=> .look
theorem h473:Holds Tryz.prog LL:=by
 refine cH (L:=[o9,Lh,yt,LK]) LL (λa=>afK a.1 a.2.1 a.2.2) (by grind[h79,h480,h335,h481]) ?_;rintro⟨p,v,t⟩ ⟨hdg,htl,hok⟩;simp only at hdg htl hok;refine bR (let a:=γi .i64;let b:=(0:Int);let c:=γy .i64;let d:=Ω;let o:=decide (bz p≠b);let f:=a (uP p v t);let h:=(↑t.length:Int);let q:=decide (h=b);let r:=decide ((65536:Int)<h);let i:=γT 0 0 20;let l:=a (df p);let e:=(↑t.length:Int);let m:=a e;let k:=bq.cells (bn.ss p) 27 20 false;True/\(o=true->(a (bz p)).same f)/\(o=false->(q=true->(c 1).same f)/\(q=false->(r=true->(c 3).same f)/\(r=false->(∀(n:dj),n∈t->∀(x:bL),x∈n.snd.snd.snd.snd->iW x)/\((!dU t)=true->(c 2).same f)/\((!dU t)=false->True/\((((a v).same (a v)/\(d bF t).same (d bF t)/\i.same i/\(a (if bz p=b then df p else b)).same l/\(d bF t).same (d bF t)/\(a h).same m/\(c 0).same (a 0)/\True)/\k.same k/\True)/\b<=b/\b<=e/\∀(j:Nat),(↑j:Int)<b->mr p (bj t j bF.dflt)=true)/\∀(x:Int),let g:=x+(1:Int);let s:=a g;let w:=bj t x.toNat bF.dflt;let y:=cu .i64 g/\(((a v).same (a v)/\(d bF t).same (d bF t)/\i.same i/\l.same l/\(d bF t).same (d bF t)/\m.same m/\s.same s/\True)/\k.same k/\True)/\(b<=g/\g<=e/\∀(j:Nat),(↑j:Int)<g->mr p (bj t j bF.dflt)=true)/\(e - g).toNat<(e - x).toNat;let z:=λ(u:Bool) ↦decide ((↑(γc w.snd.snd.snd.snd):Int)≠df p)=u;let A:=λ(u:Bool) ↦decide (w.fst=(1:Int))=u;(b<=x/\x<=e/\∀(j:Nat),(↑j:Int)<x->mr p (bj t j bF.dflt)=true)->(decide (x<e)=true->b<=x/\x<h/\x.toNat<t.length/\(A true->(z true->(c 2).same f)/\(z false->y))/\(A false->y))/\(decide (x<e)=false->LG p v t/\(a (if rX p v t=true then b else(13:Int))).same f)))))) (by kernel_rfl) ?_;simp only[vcs];unfold uP;refine⟨λh=>by rw[if_pos h],λh=>?_⟩;rw[if_neg h];have hc:bz p=0:=γj.1 h;refine⟨λh1=>by omega,λh1=>?_⟩;rw[if_neg (show ¬t.length=0 by omega)];refine⟨λh2=>by omega,λh2=>?_⟩;rw[if_neg (show ¬65536<t.length by omega)];refine⟨hdg,λh3=>by rw[if_pos h3],λh3=>?_⟩;have hnt:¬dU t=false:=by simp_all
 rw[if_neg hnt,if_pos hc];refine⟨⟨rfl,by omega,by omega,λj hj=>by omega⟩,?_⟩;rintro i ⟨i0,i1,hall⟩;refine⟨λhi=>?_,λhi=>?_⟩
 ·have hm:=dr (d:=bF.dflt) (show i.toNat<t.length by omega);have next:mr p (bj t i.toNat bF.dflt)=true->∀j:Nat,(j:Int)<i+1->mr p (bj t j bF.dflt)=true:=λhr j hj=>by
   grind
  have no:mr p (bj t i.toNat bF.dflt)=false->t.all (mr p)=false:=λhr=>by
   grind
  refine⟨i0,hi,by omega,λh4=>⟨λh5=>?_,λh5=>⟨by omega,⟨by omega,by omega,next ?_⟩,by omega⟩⟩,λh4=>⟨by omega,⟨by omega,by omega,next ?_⟩,by omega⟩⟩;·simp_all[mr]
  all_goals grind[mr]
 ·have ha:t.all (mr p)=true:=φ.2 λn hn=>by
   obtain⟨j,hj,rfl⟩:=List.getElem_of_mem hn;grind[cQ]
  simp_all
@[reducible] def sRs:bp:=.pair (.bE (.i .i64)) (.pair (.i .i64) (.bE bF))
def pY (p:bn) (r:List Int×Int×List dj):Int:=if di p r.1≠0 then di p r.1 else if ef p r.1≠r.2.1 then 13 else uP p r.2.1 r.2.2
def LM:bM:=⟨22,bn×List Int×Int×List dj,.cons dQ (.one (eh sRs)),λa=>a.2.1.length<=1000000000000/\(di a.1 a.2.1=0->ef a.1 a.2.1=a.2.2.1->wK a.1 a.2.2.1 a.2.2.2),λa=> .si .i64 (pY a.1 a.2)⟩
theorem h474:Holds Tryz.prog LM:=by
 refine cH (L:=[xT,EU,LL]) LM lk (by grind[h100,h437,h473]) ?_;rintro⟨p,c,w,t⟩ ⟨g,a⟩;simp only at g a;refine bR (let a:=γi .i64;let d:=decide (di p c≠(0:Int));let b:=a (pY p (c,w,t));let e:=decide (ef p c≠w);c.length<=9223372036854775807/\(d=true->(a (di p c)).same b)/\(d=false->(bz p=(0:Int)/\c.length<=9223372036854775807)/\(e=true->(γy .i64 13).same b)/\(e=false->wK p w t/\(a (uP p w t)).same b))) (by kernel_rfl) ?_;simp only[vcs];unfold pY;refine⟨by omega,λh=>by rw[if_pos h],λh=>?_⟩;rw[if_neg h];have f:di p c=0:=γj.1 h;have i:bz p=0:=by
  unfold di at f;omega
 grind
theorem afM {p:bn} {f:List Int} (h:j4 p f=true):eX p f:=by
 unfold j4 at h;rw[θ,decide_eq_true_eq] at h;obtain⟨a,b⟩:=h;unfold jf at a;split at a;·omega
 ·rename_i d;split at a;·cases a
  ·rename_i c;exact⟨γj.1 d,γj.1 c,b⟩
theorem Ve {p:bn} {f:List Int} (h:j4 p f=true):Sz 1000002 (jg p f):=by
 have a:=afM h;have c:=@Bh p a.1 f f.length a.2.1;rw[ψ] at c;have d:Sz 1 ((gA p f:Int):Rat):=by
  unfold Sz;rw[Rat.num_intCast,Rat.den_intCast];omega
 have b:Sz 1000000 (dA p f).value:=((Ez a).wo (oD a).1).2.2.2;exact(AA d b).mono (by omega)
end Go.Vi
