/-
  Plain law: the first best list is found offer by offer.
  Conditions: none.
-/
import Derived.Test.YtbnhiekmnpikhaaGreatDP06
import Derived.Test.YtbnhiekmnpikhaaGreatDP07
import Derived.Test.YtbnhiekmnpikhaaGreatDP12
import Derived.Test.YtbnhiekmnpikhaaGreatDP08
import Derived.Test.YtbnhiekmnpikhaaGreatDP10
import Derived.Test.YtbnhiekmnpikhaaGreatDP09
import Derived.Test.YtbnhiekmnpikhaaGreatDP11
set_option maxRecDepth 100000
set_option maxHeartbeats 4000000
set_option linter.all false
open Bool renaming eq_false_iff->δH,false_eq_true->χ,and_eq_true->θ
open Classical renaming not_not->γg
open Go.Vi.SV renaming si->γh,row->Ψ,ia->θa,bl->δc,sb->γv,il->γx,ow->γZ,ptr->γO
open Int renaming toNat_natCast->γl,toNat->ζq
open IntCast renaming intCast->κ
open List renaming pairwise_cons->γA,mem_cons_of_mem->γT,append_assoc->γU,cons_append->γG,replicate->δ,filter_eq_nil_iff->δ7,filter_eq_self->εu,mem_map->Ω,mem_filter->γs,length_filter_le->δd,length_drop->εs,append_nil->γ1,take->Δ,length->γc,all_eq_true->φ,all_append->ζI,take_length->ψ,range->ω,ext_getElem->γ8,count_pos_iff->δR,mem_range->γy,length_take->γu,length_set->Φ
open List.Perm renaming append_left->ζJ
open Nat renaming pow_le_pow_right->δp,le_refl->ξ
open Rat renaming add_zero->ζK
namespace Go.Vi
theorem EY {a b c:Alloc} (h:¬mI a b) (k:¬mI b c):¬mI a c:=λd=>by
 grind[QP,aaU]
theorem UL {a b:Alloc}:¬mI a (better a b)/\¬mI b (better a b):=by
 unfold better;split
 ·rename_i h;have h:mI a b:=h;grind[DD,QP]
 ·rename_i h;exact⟨h,DD⟩
theorem Bn {p:bn}:∀{k:Nat} {i:Int} {a b:Alloc},¬mI b (lD p k i a b)
 |0,_,_,b=>by grind[lD,DD];|k+1,i,a,b=>by
  simp only[lD];refine EY ?_ Bn;split;·exact EY UL.2 Bn
  ·exact DD
theorem K1 {p:bn} (o:Good p):∀{k:Nat} {i:Int} {a b:Alloc} {t:List Int},0<=i->i+k<=p.offers.length->t≠[]->ny i k t->lB p (a.chosen++t)=true->¬mI ⟨a.chosen++t,a.value+cJ (cV p t)⟩ (lD p k i a b)
 |0,i,a,b,t,_,_,r,c,_=>by
  cases t with
  |nil=>simp_all;|cons j t=>
   have:=c.2 j (by simp);omega
 |k+1,i,a,b,t,y,x,r,c,s=>by
  cases t with
  |nil=>simp_all;|cons j t=>
   have w:=c.2 j (by simp);have u:=γA.1 c.1;simp only[lD];by_cases n:j=i
   ·subst n;have g:Dv p t:=λm l=>by
     have:=c.2 m (by simp[l]);omega
    have d:lB p (a.chosen++[j]++t)=true:=by simp_all
    have q:lB p (a.chosen++[j])=true:=Qk o g d;rw[if_pos q];refine EY ?_ Bn;rw[sK];simp only[cJ];cases t with
    |nil=>
     grind[EY,Bn,UL,cJ,cV,lC];|cons h f=>
     have:=K1 o (k:=k) (i:=j+1) (a:=⟨a.chosen++[j],a.value+lC p j⟩) (b:=better ⟨a.chosen++[j],a.value+lC p j⟩ b) (t:=h::f) (by omega) (by omega) (by simp) ⟨u.2,λm l=>by
      have v:=c.2 m (γT _ l);grind⟩ d;have e:(⟨a.chosen++j::h::f,a.value+((bj p.offers j.toNat bp.off.dflt).value+cJ (cV p (h::f)))⟩:Alloc)=⟨a.chosen++[j]++h::f,a.value+lC p j+cJ (cV p (h::f))⟩:=by
      simp only[Alloc.mk.injEq,γU,γG,List.nil_append,lC,true_and];omega
     simp_all
   ·exact K1 o (by omega) (by omega) (by simp) ⟨c.1,λm l=>by
     have v:=c.2 m l;grind⟩ s
theorem ae4 {p:bn} (e:Good p) {t:List Int} (d:rK p t):¬mI ⟨t,cJ (cV p t)⟩ (cz p):=by
 rw[Ie];by_cases c:t=[]
 ·subst c;exact Bn
 ·have:=K1 e (k:=p.offers.length) (i:=0) (a:=⟨[],0⟩) (b:=⟨[],0⟩) (t:=t) (by omega) (by omega) c d.1 (by simpa[lB] using d.2);simp_all
theorem UM:∀{c a b:List Int},cmpL (c++a) (c++b)=cmpL a b
 |[],_,_=>rfl
 |x::c,a,b=>by
  simp only[γG,cmpL,Int.lt_irrefl,if_false];exact UM
noncomputable def qM (p:bn) (a:Int) (u:jz) (i:Int):jz:=
 if u.value=a then u else if ji p u (oI p i)=true then(if j6 (gR p (fe p u i) (i+1).toNat) (a - (fe p u i).value) 65536=true then fe p u i else u) else u
noncomputable def j7 (p:bn) (a:Int):Nat->jz
 |0=>⟨p.supply,p.opn,[],0,δ 8 false⟩
 |n+1=>qM p a (j7 p a n) n
theorem good_start {p:bn} (d:bz p=0):rL p ⟨p.supply,p.opn,[],0,δ 8 false⟩:=by
 have a:=dQ d;refine⟨aeH a,rfl,λk c=>?_,λk c=>?_,rfl,λb f e=>?_⟩
 ·show _=_ - (dU (([]:List Off).map Off.want)).at k;grind[oo]
 ·show _=min (_ - (dU (([]:List Off).map (yP p))).at k) _;simp_all[oo,wE,min]
 ·show _=decide (b∈([]:List Int));grind[cY]
theorem UN {i:Int}:∀{L:List Int},L.Pairwise (·<·)->L=L.filter (λj=>decide (j<i))++L.filter (λj=>!decide (j<i))
 |[],_=>rfl
 |x::L,h=>by
  have a:=γA.1 h;have c:=UN (i:=i) a.2;by_cases d:x<i;·grind
  ·have e:L.filter (λj=>decide (j<i))=[]:=δ7.2 λj b=>by grind
   grind
theorem ae5 {i:Int} {L:List Int} (h:i∉L):L.filter (λj=>decide (j<i+1))=L.filter (λj=>decide (j<i)):=by
 refine List.filter_congr λj a=>?_;grind
theorem ae6 {i:Int} {L:List Int} (b:L.Pairwise (·<·)) (h:i∈L):L.filter (λj=>decide (j<i+1))=L.filter (λj=>decide (j<i))++[i]/\L=L.filter (λj=>decide (j<i))++i::L.filter (λj=>decide (i<j)):=by
 induction L with
 |nil=>cases h;|cons x L f=>
  have g:=γA.1 b;by_cases c:x=i
  ·subst c;have e:L.filter (λj=>decide (j<x))=[]:=δ7.2 λj a=>by grind
   have k:L.filter (λj=>decide (j<x+1))=[]:=δ7.2 λj a=>by grind
   have d:L.filter (λj=>decide (x<j))=L:=εu.2 λj a=>by simp_all
   grind
  grind
theorem ae7 {p:bn} (a:Good p):∀{L:List Off},(∀x∈L,x∈p.offers)->L≠[]->0<cJ L
 |[],_,h=>absurd rfl h
 |x::L,h,_=>by
  have c:=(a.2.2.2.2 x (h x (List.mem_cons_self ..))).2.2.2.1;have d:=(sJ a (l:=L) λy b=>h y (γT _ b)).1;grind[cJ]
theorem ae8 {p:bn} (i:bz p=0) {k:Nat} (d:k<=p.offers.length) {M:List Off} (g:∀x∈M,x∈p.offers.drop k) (c:M.Nodup):∃t:List Int,t.Pairwise (·<·)/\(∀j∈t,(k:Int)<=j/\j<p.offers.length)/\(cV p t).Perm M:=by
 obtain⟨t,b,h,a⟩:=Ij (λx=>decide (x∈M)) (p.offers.drop k) (p.offers.take k);have e:(p.offers.take k).length=k:=by simp_all
 refine⟨t,b,λj f=>?_,?_⟩;·grind
 ·rw[List.take_append_drop] at a;unfold cV;rw[a];refine(List.perm_ext_iff_of_nodup ?_ c).2 λx=>?_;·grind[Qu]
  simp_all
theorem Bo {p:bn} (d:bz p=0):rK p (cz p).chosen/\(cz p).value=cJ (cV p (cz p).chosen):=by
 obtain⟨_,a,b,c⟩:=QJ d;exact⟨⟨b,a⟩,c⟩
theorem K2 {p:bn} (m:bz p=0) (W:p.offers.length<=15):∀n:Nat,n<=p.offers.length->rL p (j7 p (cz p).value n)/\(j7 p (cz p).value n).chosen=(cz p).chosen.filter λ(j:Int)=>decide (j<(n:Int))
 |0,_=>⟨good_start m,by
   have h:=(Bo m).1.1.2;exact(δ7.2 λj g=>by simp_all).symm⟩
 |n+1,hn=>by
  obtain⟨G,P⟩:=K2 m W n (by omega);have o:=dQ m;obtain⟨⟨⟨hs,hr⟩,hF⟩,hv⟩:=Bo m;have a7:rK p (cz p).chosen:=⟨⟨hs,hr⟩,hF⟩;have I:∀j∈(j7 p (cz p).value n).chosen,j<(n:Int):=λj g=>by
   simp_all
  have N:((n:Nat):Int)+1=((n+1:Nat):Int):=by omega
  have J:(0:Int)<=n/\(n:Int)<p.offers.length:=by omega
  have q:oI p n∈p.offers:=dr (by omega);have a4:=UN (i:=(n:Int)) hs;show rL p (qM p (cz p).value (j7 p (cz p).value n) n)/\(qM p (cz p).value (j7 p (cz p).value n) n).chosen=_;generalize j7 p (cz p).value n=u at*;have C:∀{t:List Int},(∀j∈t,j∈(cz p).chosen)->∀x∈cV p t,x∈p.offers:=λht x q=>by
   obtain⟨j,g,rfl⟩:=Ω.1 q;have:=hr j (ht j g);exact dr (by omega)
  by_cases e:u.value=(cz p).value
  ·unfold qM;rw[if_pos e];refine⟨G,?_⟩;have R:(cz p).chosen.filter (λj=>!decide (j<(n:Int)))=[]:=by
    refine Classical.byContradiction λU=>?_;have S:=ae7 o (L:=cV p ((cz p).chosen.filter (λj=>!decide (j<(n:Int))))) (C λj g=>(γs.1 g).1) (by unfold cV;simpa using U);rw[G.v,P,hv] at e;grind[ug,pN]
   have a1:∀j∈(cz p).chosen,j<(n:Int):=λj g=>by
    grind
   rw[P,εu.2 λj g=>by grind];exact(εu.2 λj g=>by grind).symm
  ·by_cases K:(n:Int)∈(cz p).chosen
   ·obtain⟨f1,f2⟩:=ae6 hs K;rw[<-P] at f1 f2;have A:jo p (cV p u.chosen++[oI p n]++cV p ((cz p).chosen.filter λj=>decide ((n:Int)<j))):=by
     have:cV p u.chosen++[oI p n]++cV p ((cz p).chosen.filter λj=>decide ((n:Int)<j))=cV p (cz p).chosen:=by
      conv=>rhs;rw[f2]
      rw[ug,sK,γU];rfl
     grind
    have B:=C (t:=(cz p).chosen.filter λj=>decide ((n:Int)<j)) λj g=>(γs.1 g).1;have Q:ji p u (oI p n)=true:=(EW m G q).2 (Ia o B A);have c:=G.next m I J Q;have z:=EX (k:=((n:Int)+1).toNat) m c;have r:cV p (fe p u n).chosen=cV p u.chosen++[oI p n]:=by
     show cV p (u.chosen++[(n:Int)])=_;rw[ug];rfl
    have O:∀x∈cV p ((cz p).chosen.filter λj=>decide ((n:Int)<j)),ji p (fe p u n) x=true:=λx w=>by
     refine(EW m c (B x w)).2 ?_;rw[r];obtain⟨s,t,a0⟩:=List.append_of_mem w;have F:(cV p u.chosen++[oI p n]++cV p ((cz p).chosen.filter λj=>decide ((n:Int)<j))).Perm (cV p u.chosen++[oI p n]++[x]++(s++t)):=by
      rw[a0,γU (cV p u.chosen++[oI p n])];refine ζJ _ ?_;exact List.perm_middle
     refine Ia o (M:=s++t) (λy hy=>B y ?_) (Ii F A);grind
    have Y:=(K0 (k:=((n:Int)+1).toNat) m c B O).2 (by grind);have Z:∀x∈cV p ((cz p).chosen.filter λj=>decide ((n:Int)<j)),x∈(gR p (fe p u n) ((n:Int)+1).toNat).offers:=λx w=>by
     refine γs.2 ⟨?_,O x w⟩;obtain⟨j,g,rfl⟩:=Ω.1 w;obtain⟨V,a8⟩:=γs.1 g;have h3:=hr j V;have h4:(n:Int)<j:=by grind
     rw[cY (by omega)];rw[List.mem_iff_getElem];exact⟨j.toNat - ((n:Int)+1).toNat,by grind,by rw[List.getElem_drop];congr 1;omega⟩
    have H:=aeI z Y Z;rw[DC z] at H;have a2:(cz p).value=(fe p u n).value+cJ (cV p ((cz p).chosen.filter λj=>decide ((n:Int)<j))):=by
     rw[c.v,r,hv];conv=>lhs;rw[f2,ug,sK,pN]
     rw[pN];grind[cJ,oI]
    have T:(gR p (fe p u n) ((n:Int)+1).toNat).offers.length<=15:=by
     have S:=δd (ji p (fe p u n)) (p.offers.drop ((n:Int)+1).toNat);rw[εs] at S;show((p.offers.drop _).filter _).length<=15;omega
    have l:jh (gR p (fe p u n) ((n:Int)+1).toNat) ((cz p).value - (fe p u n).value) 65536=0:=KF z (by omega) (by
     have:2^((gR p (fe p u n) ((n:Int)+1).toNat).offers.length+1)<=2^16:=δp (by omega) (by omega);omega);have E:j6 (gR p (fe p u n) ((n:Int)+1).toNat) ((cz p).value - (fe p u n).value) 65536=true:=(Uw z l).2 (by omega);unfold qM;rw[if_neg e,if_pos Q,if_pos E];refine⟨c,?_⟩;rw[<-N,f1];rfl
   ·rw[<-N,ae5 K,<-P];unfold qM;rw[if_neg e];split
    ·rename_i Q;split
     ·rename_i E;exfalso;have c:=G.next m I J Q;have z:=EX (k:=((n:Int)+1).toNat) m c;have r:cV p (fe p u n).chosen=cV p u.chosen++[oI p n]:=by
       show cV p (u.chosen++[(n:Int)])=_;rw[ug];rfl
      have T:(gR p (fe p u n) ((n:Int)+1).toNat).offers.length<=15:=by
       have S:=δd (ji p (fe p u n)) (p.offers.drop ((n:Int)+1).toNat);rw[εs] at S;show((p.offers.drop _).filter _).length<=15;omega
      have l:jh (gR p (fe p u n) ((n:Int)+1).toNat) ((cz p).value - (fe p u n).value) 65536=0:=KF z (by omega) (by
       have:2^((gR p (fe p u n) ((n:Int)+1).toNat).offers.length+1)<=2^16:=δp (by omega) (by omega);omega);have a6:=(Uw z l).1 E;obtain⟨M,m1,m2,m3⟩:=aeJ z;rw[DC z] at m3;have D:∀x∈M,x∈p.offers.drop ((n:Int)+1).toNat/\ji p (fe p u n) x=true:=λx q=>γs.1 (m2 x q);have A:=(K0 m c (λx q=>List.mem_of_mem_drop (D x q).1) λx q=>(D x q).2).1 m1;obtain⟨t,t1,t2,t3⟩:=ae8 m (k:=((n:Int)+1).toNat) (by omega) (λx q=>(D x q).1) (Dz Off.bX m1.1);have hT:rK p (u.chosen++(n:Int)::t):=by
       refine⟨⟨?_,?_⟩,?_⟩
       ·rw[List.pairwise_append];refine⟨G.f.1.1,γA.2 ⟨λj g=>by grind,t1⟩,λa ha b hb=>?_⟩;grind
       ·intro j g;rcases List.mem_append.1 g with h|h;·grind
        ·rcases List.mem_cons.1 h with rfl|h<;>grind
       ·rw[ug,sK];refine Ii ?_ A;rw[r,γU];exact ζJ _ (List.Perm.cons _ t3.symm)
      have a3:cJ (cV p (u.chosen++(n:Int)::t))=(fe p u n).value+cJ M:=by
       rw[c.v,r,ug,sK,pN,pN,<-Qs t3];grind[cJ,oI]
      have H:=If o hT.1 (decide_eq_true hT.2);refine ae4 o hT (.inr ⟨(show cJ (cV p (u.chosen++(n:Int)::t))=(cz p).value by omega),?_⟩);show cmpL (u.chosen++(n:Int)::t) (cz p).chosen<0;have R:(cz p).chosen=u.chosen++(cz p).chosen.filter (λj=>!decide (j<(n:Int))):=by grind
      have a5:(cz p).chosen.filter (λj=>!decide (j<(n:Int)))≠[]:=λh=>by
       rw[h,γ1] at R;refine e ?_;rw[G.v,<-R,hv]
      have X:∀j∈(cz p).chosen.filter (λj=>!decide (j<(n:Int))),(n:Int)<j:=λj g=>by
       grind
      rw[R];generalize (cz p).chosen.filter (λj=>!decide (j<(n:Int)))=d at*;cases d with
      |nil=>grind;|cons j d=>
       rw[UM];have:=X j (by simp);simp only[cmpL];omega
     grind
    grind
theorem UO {p:bn} (b:bz p=0) (a:p.offers.length<=15):(j7 p (cz p).value p.offers.length).chosen=(cz p).chosen:=by
 rw[(K2 b a p.offers.length (ξ _)).2];have h:=(Bo b).1.1.2;simp_all
open Go.Proofs.YtbnhiekmnpikhaaGreat.Ir
open Go.Proofs
def ae9 (p:bn):Int:=ry p (allM p)
theorem afa {p:bn} (a:bz p=0):rK p (cz p).chosen/\ei p (cz p).chosen=(cz p).value/\(cz p).value=ae9 p:=by
 obtain⟨_,d,b,e⟩:=QJ a;have c:rK p (cz p).chosen:=⟨b,d⟩;exact⟨c,by grind[KA],(DC a).symm⟩
def ofV (n:di):SV:=.ite (decide (n.1=1)) (.ia 204 (encS bE n)) (.ite (decide (n.1=2)) (.ia 205 (encS bE n)) (.ite (decide (n.1=3)) (.ia 206 (encS bE n)) (.ia 208 [])))
def EZ:bM:=⟨86,di,.one (eh bE),λ_=>True,ofV⟩
theorem h485:Holds Tryz.prog EZ:=by
 refine cF (L:=[]) EZ lk (by simp) ?_;rintro⟨k,o,a,b,y⟩ _;refine bO (let c:=γh .i64;let d:=(1:Int);let e:=(2:Int);let f:=(3:Int);let i:=decide (k=d);let g:=[c k,c o,c a,c b,Ψ sF y];let n:=θa 204 g;let j:=decide (k=e);let p:=θa 205 g;let l:=decide (k=f);let q:=θa 206 g;let h:=θa 208 [];let m:=λ(u:Int) (u_1:Nat) ↦decide (k=u)=true->(i=true->(θa u_1 g).same n)/\(i=false->(j=true->(θa u_1 g).same p)/\(j=false->(l=true->(θa u_1 g).same q)/\(l=false->(θa u_1 g).same h)));m d 204/\(decide (k=d)=false->m e 205/\(decide (k=e)=false->m f 206/\(decide (k=f)=false->(i=true->h.same n)/\(i=false->(j=true->h.same p)/\(j=false->(l=true->h.same q)/\(l=false->h.same h))))))) (by kernel_rfl) ?_;simp only[vcs];repeat' (first|refine And.intro ?_ ?_|intro _)
 all_goals first|trivial|omega
def rM (n:di):Bool:=decide (n.2.1=0)&&decide (n.2.2.1=0)&&decide (n.2.2.2.1=0)
def E0:bM:=⟨211,di,.one (eh bE),λ_=>True,λn=> .sb (rM n)⟩
theorem h495:Holds Tryz.prog E0:=by
 refine cF (L:=[]) E0 lk (by simp) ?_;rintro⟨k,o,a,b,y⟩ _;refine bO (let f:=δc false;let g:=(0:Int);let e:=decide (o=g);let d:=decide (a=g);let c:=γv (rM (k,o,a,b,y));(e=true->(d=true->(γv (decide (b=g))).same c)/\(d=false->(f).same c))/\(e=false->(f).same c)) (by kernel_rfl) ?_;simp_all[rM]
def wf1 (n:di):Bool:=rM n&&decide (n.2.2.2.2.length<=40)&&n.2.2.2.2.all okF
def K3:bM:=⟨209,di,.one (eh bE),λn=>∀x∈n.2.2.2.2,iW x,λn=> .sb (wf1 n)⟩
def afc (n:di):Nat->cE
 |4=> .inv Int (λi=>⟨[(18,.row sF n.2.2.2.2),(19,.si .i64 n.2.2.2.2.length),(20,.si .i64 i)],[.cells (encS bE n) 204 5 false]⟩) (λs=>iS s 20)
  (λi=>0<=i/\i<=n.2.2.2.2.length/\(n.2.2.2.2.take i.toNat).all okF=true) (λi=>(n.2.2.2.2.length - i).toNat) λ_ _=> .look
 |_=> .look
theorem h493:Holds Tryz.prog K3:=by
 refine cF (L:=[E0,uz]) K3 afc (by simpa using⟨h495,h407⟩) ?_;rintro⟨k,o,a,b,y⟩ hy;have hy:∀x∈y,iW x:=hy;refine bO (let c:=γh .i64;let d:=(0:Int);let e:=δc false;let f:=Ψ;let p:=!rM (k,o,a,b,y);let j:=γv (wf1 (k,o,a,b,y));let m:=(↑y.length:Int);let q:=decide ((40:Int)<m);let g:=(↑y.length:Int);let n:=c g;let l:=bq.cells [c k,c o,c a,c b,f sF y] 204 5 false;True/\(p=true->(e).same j)/\(p=false->(q=true->(e).same j)/\(q=false->((((f sF y).same (f sF y)/\(c m).same n/\(γx .i64 0).same (c 0)/\True)/\l.same l/\True)/\d<=d/\d<=g/\true=true)/\∀(x:Int),let h:=bj y x.toNat sF.dflt;let i:=x+(1:Int);let r:=c i;let s:=λ(u:Bool) ↦(!okF (h.fst,h.snd.fst,h.snd.snd))=u;d<=x/\x<=g/\(Δ x.toNat y).all okF=true->(decide (x<g)=true->d<=x/\x<m/\x.toNat<y.length/\((bA h.snd.fst/\bA h.snd.snd)/\γc h.snd.fst<=10000000/\γc h.snd.snd<=10000000)/\(s true->(e).same j)/\(s false->cq .i64 i/\(((f sF y).same (f sF y)/\n.same n/\r.same r/\True)/\l.same l/\True)/\(d<=i/\i<=g/\(Δ i.toNat y).all okF=true)/\(g - i).toNat<(g - x).toNat))/\(decide (x<g)=false->(δc true).same j)))) (by kernel_rfl) ?_;simp only[vcs];refine⟨λh=>by simp[wf1,h],λhp=>⟨λh40=>?_,λh40=>⟨⟨by omega,by omega⟩,?_⟩⟩⟩
 ·have:¬y.length<=40:=by omega
  simp[wf1,this]
 rintro i ⟨i0,i1,hi⟩;refine⟨λhlt=>?_,λhge=>?_⟩
 ·have hm:=dr (d:=sF.dflt) (show i.toNat<y.length by omega);have et:=jX (d:=sF.dflt) i0 hlt;refine⟨i0,hlt,by omega,hy _ hm,λh=>?_,λh=>⟨⟨by omega,by omega⟩,⟨by omega,by omega,?_⟩,by omega⟩⟩
  ·have h:okF (bj y i.toNat sF.dflt)=false:=h;have:y.all okF=false:=by
    rw[δH];intro ha;have:=φ.1 ha _ hm;rw[h] at this;cases this
   simp[wf1,this]
  ·have h:okF (bj y i.toNat sF.dflt)=true:=h;rw[et,ζI,hi];simp[h]
 ·rw[show i.toNat=y.length by omega,ψ] at hi;have:y.length<=40:=by omega
  simp[wf1,hp,hi,this]
def oJ (k:Int):Bool:=decide (0<=k)&&decide (k<=65536)
def wf2 (n:di):Bool:=oJ n.2.1&&oJ n.2.2.1&&oJ n.2.2.2.1&&decide (n.2.2.2.2=[])
def K4:bM:=⟨215,di,.one (eh bE),λ_=>True,λn=> .sb (wf2 n)⟩
theorem h499:Holds Tryz.prog K4:=by
 refine cF (L:=[]) K4 (λ_ _=> .qo 4) (by simp) ?_;rintro⟨k,o,a,b,y⟩ _;refine bO (let r:=(0:Int);let s:=δc false;let t:=(65536:Int);let u:=(3:Int);let v:=γv;let j:=bj [o,a,b] 0 r;let g:=decide (j<r);let c:=v (wf2 (k,o,a,b,y));let m:=decide (t<j);let n:=bj [o,a,b] 1 r;let q:=decide (n<r);let i:=decide (t<n);let p:=bj [o,a,b] 2 r;let l:=decide (p<r);let h:=decide (t<p);let f:=bj [o,a,b] 3 r;let d:=decide (f<r);let e:=decide (t<f);(true=true->r<=r/\r<u/\0<3/\(g=true->(s).same c)/\(g=false->(m=true->(s).same c)/\(m=false->(true=true->r<=(1:Int)/\(1:Int)<u/\1<3/\(q=true->(s).same c)/\(q=false->(i=true->(s).same c)/\(i=false->(true=true->r<=(2:Int)/\(2:Int)<u/\2<3/\(l=true->(s).same c)/\(l=false->(h=true->(s).same c)/\(h=false->(false=true->r<=u/\u<u/\3<3/\(d=true->(s).same c)/\(d=false->(e=true->(s).same c)/\(e=false->False)))/\(false=false->(v (decide ((↑y.length:Int)=r))).same c))))/\(true=false->(v (decide ((↑y.length:Int)=r))).same c))))/\(true=false->(v (decide ((↑y.length:Int)=r))).same c))))/\(true=false->(v (decide ((↑y.length:Int)=r))).same c)) (by kernel_rfl) ?_;simp_all[bj,oJ,decide_eq_false,wf2]
def uJ (n:di):Bool:=rM n&&decide (n.2.2.2.2=[])
def K5:bM:=⟨219,di,.one (eh bE),λ_=>True,λn=> .sb (uJ n)⟩
theorem h503:Holds Tryz.prog K5:=by
 refine cF (L:=[E0]) K5 lk (by grind[h495]) ?_;rintro⟨k,o,a,b,y⟩ _;refine bO (let d:=rM (k,o,a,b,y);let c:=γv (uJ (k,o,a,b,y));True/\(d=true->(γv (decide ((↑y.length:Int)=(0:Int)))).same c)/\(d=false->(δc false).same c)) (by kernel_rfl) ?_;simp_all[uJ]
def K6:qs Unit where
 put _:=.agg [];dec
  | .agg []=>some ()
  |_=>none;ok v a h:=by
  grind
 inj a b h:=rfl
def K7:bM:=⟨223,Unit,.one K6,λ_=>True,λ_=> .sb false⟩
theorem h507:Holds Tryz.prog K7:=by
 refine cF (L:=[]) K7 lk (by simp) ?_;rintro _ _;refine bO ((δc false).same (γv false)) (by kernel_rfl) ?_;rfl
def K8:bM:=⟨207,di,.one (eh bE),λ_=>True,λ_=> .row (.i .i64) []⟩
theorem h491:Holds Tryz.prog K8:=by
 refine cF (L:=[]) K8 lk (by simp) ?_;rintro⟨k,o,a,b,y⟩ _;refine bO (let c:=Ψ (bp.i .i64) [];c.same c) (by kernel_rfl) ?_;simp_all
def K9:bM:=⟨213,di,.one (eh bE),λ_=>True,λn=> .row (.i .i64) [n.2.2.1,n.2.2.2.1]⟩
theorem h497:Holds Tryz.prog K9:=by
 refine cF (L:=[]) K9 lk (by simp) ?_;rintro⟨k,o,a,b,y⟩ _;refine bO (let c:=Ψ (bp.i .i64) [a,b];c.same c) (by kernel_rfl) ?_;simp_all
def La:bM:=⟨217,di,.one (eh bE),λ_=>True,λ_=> .row (.i .i64) []⟩
theorem h501:Holds Tryz.prog La:=by
 refine cF (L:=[]) La lk (by simp) ?_;rintro⟨k,o,a,b,y⟩ _;refine bO (let c:=Ψ (bp.i .i64) [];c.same c) (by kernel_rfl) ?_;simp_all
def r505:bM:=⟨221,Unit,.one K6,λ_=>True,λ_=> .row (.i .i64) []⟩
theorem h505:Holds Tryz.prog r505:=by
 refine cF (L:=[]) r505 lk (by simp) ?_;rintro _ _;refine bO (let a:=Ψ (bp.i .i64) [];a.same a) (by kernel_rfl) ?_;simp_all
def jA (n:di):List Int:=if n.1=2 then[n.2.2.1,n.2.2.2.1] else[]
def s8 (n:di):Bool:=if n.1=1 then wf1 n else if n.1=2 then wf2 n else if n.1=3 then uJ n else false
def ic (t:List di) (i:Nat):List Int:=(t.take i).flatMap jA
def lp (n:Nat) (c:List Int):List Int:=(dm n).map λk=>(c.count k:Int)
def uK (n:Nat) (i:Int) (c:List Int):List Int->Bool
 |[]=>true
 |x::r=>decide (i<x/\x<n)&&decide (x∉c)&&uK n i (c++[x]) r
def kT (t:List di) (i:Nat):Bool:=s8 (bj t i bE.dflt)&&uK t.length i (ic t i) (jA (bj t i bE.dflt))
def dT (t:List di):Bool:=decide (1<=t.length/\t.length<=65536)&&((ω t.length).all (kT t)&&(ω (t.length - 1)).all λk=>decide (((k:Int)+1)∈ic t t.length))
theorem yR {n:Nat} {c:List Int}:(lp n c).length=n:=by simp[lp,iP]
theorem yS {n j:Nat} {c:List Int} (h:j<n):bj (lp n c) j 0=(c.count (j:Int):Nat):=by
 grind[lp,cY,dm]
theorem UP {n:Nat} {c:List Int} {x:Int} (l:0<=x) (g:x<n):(lp n c).set x.toNat (bj (lp n c) x.toNat 0+1)=lp n (c++[x]):=by
 refine γ8 (by grind[yR]) λj h i=>?_;have a:j<n:=by grind[yR]
 have e:x.toNat<n:=by omega
 have b:=@yS n j (c++[x]) a;rw[cY (by omega)] at b;rw[b,List.getElem_set];have k:=@yS n x.toNat c e;by_cases f:x.toNat=j;·grind
 ·rw[if_neg f];have d:=@yS n j c a;rw[cY (by simp_all)] at d;grind
theorem afd {n:Nat}:lp n []=δ n 0:=by
 refine γ8 (by grind[yR]) λj b a=>?_;simp[lp]
theorem UQ {t:List di} {i:Int} (b:0<=i) (a:i<t.length):ic t (i+1).toNat=ic t i.toNat++jA (bj t i.toNat bE.dflt):=by
 grind[ic,jX]
theorem afe {t:List di} {i:Nat} (h:i<t.length) (a:kT t i=false):dT t=false:=by
 grind[dT]
theorem aff {t:List di} {k:Nat} (h:k<t.length - 1) (a:((k:Int)+1)∉ic t t.length):dT t=false:=by
 unfold dT;grind
def Lc:bM:=⟨60,List di,.one (dF bE),λt=>∀n∈(show List di from t),∀x∈n.2.2.2.2,iW x,λt=> .sb (dT t)⟩
def afg (t:List di):Nat->cE
 |5=> .inv Int (λi=>⟨[(0,.row bE t),(3,.ow 0 t.length 1),(22,.row bE t),(23,.si .i64 t.length),(24,.si .i64 i)],[.row (.i .i64) (lp t.length (ic t i.toNat)) 3 true]⟩) (λs=>iS s 24)
  (λi=>0<=i/\i<=t.length/\∀j:Nat,j<i->kT t j=true) (λi=>(t.length - i).toNat) λ_=>λ
   |11=> .qo 3
   |_=> .look
 |19=> .inv Int (λi=>⟨[(66,.os 0 1 (t.length - 1) t.length 1),(67,.si .i64 (t.length - 1:Nat)),(68,.si .i64 i)],[.row (.i .i64) (lp t.length (ic t t.length)) 3 true]⟩) (λs=>iS s 68)
  (λi=>0<=i/\i<=(t.length - 1:Nat)/\∀j:Nat,j<i->((j:Int)+1)∈ic t t.length) (λi=>((t.length - 1:Nat) - i).toNat) λ_ _=> .look
 |_=> .look
theorem h480:Holds Tryz.prog Lc:=by
 refine cF (L:=[EZ,K3,K4,K5,K7,K8,K9,La,r505]) Lc afg (by simpa using⟨h485,h493,h499,h503,h507,h491,h497,h501,h505⟩) ?_;intro(t:List di) ht;refine bO (let a:=(0:Int);let b:=δc false;let c:=(1:Int);let d:=Ψ;let e:=γv;let f:=cq .i64;let g:=γh .i64;let h:=bq.row;let k:=(2:Int);let l:=γx .i64 0;let p:=(↑t.length:Int);let a9:=decide (p<c);let aa:=decide ((65536:Int)<p);let s:=γZ 0 t.length 1;let o:=(↑t.length:Int);let v:=g o;let C:=bp.i .i64;let E:=decide (p<=a);let R:=t.length - 1;let P:=SV.os 0 1 R t.length 1;let z:=(↑R:Int);let Q:=g z;let M:=lp t.length (ic t t.length);let S:=h C M 3 true;(a9=true->(b).same (e (dT t)))/\(a9=false->(aa=true->(b).same (e (dT t)))/\(aa=false->a<=p/\p<=p/\p*(8:Int)<=(140737488355328:Int)/\p<=(1000000000000:Int)/\((((d bE t).same (d bE t)/\(γZ 0 p.toNat 1).same s/\(d bE t).same (d bE t)/\(g p).same v/\(l).same (g 0)/\True)/\(h C (δ p.toNat a) 3 true).same (h C (lp t.length (ic t 0)) 3 true)/\True)/\a<=a/\a<=o/\∀(j:Nat),(↑j:Int)<a->kT t j=true)/\∀(x:Int),let F:=decide (a<=x);let G:=lp t.length (ic t x.toNat);let n:=G.length;let T:=bj G 0 a;let ab:=decide (a<T);let q:=G.set 0 (T+c);let U:=bj q 0 a;let ac:=decide (a<U);let r:=q.set 0 (U+c);let ad:=bj r 0 a;let ae:=decide (a<ad);let m:=x+c;let y:=g m;let N:=h C (lp t.length (ic t m.toNat)) 3 true;let V:=h C G 3 true;let w:=bj t x.toNat bE.dflt;let W:=[w.snd.snd.fst,w.snd.snd.snd.fst];let D:=bj W 2 a;let A:=bj W 0 a;let X:=bj G A.toNat a;let H:=G.set A.toNat (X+c);let B:=bj W 1 a;let Y:=bj H B.toNat a;let O:=H.set B.toNat (Y+c);let af:=decide (w.fst=c);let I:=(w.fst,w.snd.fst,w.snd.snd.fst,w.snd.snd.snd.fst,w.snd.snd.snd.snd);let ag:=decide (w.fst=k);let ah:=decide (a<X);let ai:=decide (a<Y);let aj:=bj O D.toNat a;let ak:=decide (a<aj);let al:=decide (w.fst=(3:Int));let Z:=let am:=λ(u:List Int) ↦false=false->f m/\(((d bE t).same (d bE t)/\s.same s/\(d bE t).same (d bE t)/\v.same v/\y.same y/\True)/\(h C u 3 true).same N/\True)/\(a<=m/\m<=o/\∀(j:Nat),(↑j:Int)<m->kT t j=true)/\(o - m).toNat<(o - x).toNat;True/\(false=true->a<=a/\a<a/\0<0/\(F=true->(b).same (e (dT t)))/\(F=false->(E=true->(b).same (e (dT t)))/\(E=false->t.length=n/\a<=a/\a<(↑n:Int)/\t.length=n/\0<n/\(ab=true->(b).same (e (dT t)))/\(ab=false->t.length=n/\a<=a/\a<(↑n:Int)/\t.length=n/\0<n/\f (T+c)/\t.length=n/\a<=a/\a<(↑n:Int)/\t.length=n/\0<n/\(false=true->a<=c/\c<a/\1<0/\(F=true->(b).same (e (dT t)))/\(F=false->(E=true->(b).same (e (dT t)))/\(E=false->t.length=q.length/\a<=a/\a<(↑q.length:Int)/\t.length=q.length/\0<q.length/\(ac=true->(b).same (e (dT t)))/\(ac=false->t.length=q.length/\a<=a/\a<(↑q.length:Int)/\t.length=q.length/\0<q.length/\f (U+c)/\t.length=q.length/\a<=a/\a<(↑q.length:Int)/\t.length=q.length/\0<q.length/\(false=true->a<=k/\k<a/\2<0/\(F=true->(b).same (e (dT t)))/\(F=false->(E=true->(b).same (e (dT t)))/\(E=false->t.length=r.length/\a<=a/\a<(↑r.length:Int)/\t.length=r.length/\0<r.length/\(ae=true->(b).same (e (dT t)))/\(ae=false->t.length=r.length/\a<=a/\a<(↑r.length:Int)/\t.length=r.length/\0<r.length/\f (ad+c)/\t.length=r.length/\a<=a/\a<(↑r.length:Int)/\t.length=r.length/\0<r.length/\False))))/\am r))))/\am q))))/\(false=false->f m/\(((d bE t).same (d bE t)/\s.same s/\(d bE t).same (d bE t)/\v.same v/\y.same y/\True)/\V.same N/\True)/\(a<=m/\m<=o/\∀(j:Nat),(↑j:Int)<m->kT t j=true)/\(o - m).toNat<(o - x).toNat);let a0:=D<(↑O.length:Int);let a1:=D.toNat<O.length;let J:=t.length=O.length;let a2:=B<(↑H.length:Int);let a3:=B.toNat<H.length;let K:=t.length=H.length;let a4:=A<(↑n:Int);let a5:=A.toNat<n;let a6:=a<=D;let a7:=a<=A;let a8:=a<=B;(a<=x/\x<=o/\∀(j:Nat),(↑j:Int)<x->kT t j=true)->(decide (x<o)=true->a<=x/\x<p/\x.toNat<t.length/\True/\(af=true->(∀(x:bL),x∈w.snd.snd.snd.snd->iW x)/\((!wf1 I)=true->(b).same (e (dT t)))/\((!wf1 I)=false->Z))/\(af=false->(ag=true->True/\((!wf2 I)=true->(b).same (e (dT t)))/\((!wf2 I)=false->True/\(true=true->a<=a/\a<k/\0<2/\(decide (A<=x)=true->(b).same (e (dT t)))/\(decide (A<=x)=false->(decide (p<=A)=true->(b).same (e (dT t)))/\(decide (p<=A)=false->t.length=n/\a7/\a4/\t.length=n/\a5/\(ah=true->(b).same (e (dT t)))/\(ah=false->t.length=n/\a7/\a4/\t.length=n/\a5/\f (X+c)/\t.length=n/\a7/\a4/\t.length=n/\a5/\(true=true->a<=c/\c<k/\1<2/\(decide (B<=x)=true->(b).same (e (dT t)))/\(decide (B<=x)=false->(decide (p<=B)=true->(b).same (e (dT t)))/\(decide (p<=B)=false->K/\a8/\a2/\K/\a3/\(ai=true->(b).same (e (dT t)))/\(ai=false->K/\a8/\a2/\K/\a3/\f (Y+c)/\K/\a8/\a2/\K/\a3/\(false=true->a<=k/\k<k/\2<2/\(decide (D<=x)=true->(b).same (e (dT t)))/\(decide (D<=x)=false->(decide (p<=D)=true->(b).same (e (dT t)))/\(decide (p<=D)=false->J/\a6/\a0/\J/\a1/\(ak=true->(b).same (e (dT t)))/\(ak=false->J/\a6/\a0/\J/\a1/\f (aj+c)/\J/\a6/\a0/\J/\a1/\False))))/\(false=false->f m/\(((d bE t).same (d bE t)/\s.same s/\(d bE t).same (d bE t)/\v.same v/\y.same y/\True)/\(h C O 3 true).same N/\True)/\(a<=m/\m<=o/\∀(j:Nat),(↑j:Int)<m->kT t j=true)/\(o - m).toNat<(o - x).toNat)))))/\(true=false->f m/\(((d bE t).same (d bE t)/\s.same s/\(d bE t).same (d bE t)/\v.same v/\y.same y/\True)/\(h C H 3 true).same N/\True)/\(a<=m/\m<=o/\∀(j:Nat),(↑j:Int)<m->kT t j=true)/\(o - m).toNat<(o - x).toNat)))))/\(true=false->f m/\(((d bE t).same (d bE t)/\s.same s/\(d bE t).same (d bE t)/\v.same v/\y.same y/\True)/\V.same N/\True)/\(a<=m/\m<=o/\∀(j:Nat),(↑j:Int)<m->kT t j=true)/\(o - m).toNat<(o - x).toNat)))/\(ag=false->(al=true->True/\((!uJ I)=true->(b).same (e (dT t)))/\((!uJ I)=false->Z))/\(al=false->True/\(true=true->(b).same (e (dT t)))/\(true=false->Z)))))/\(decide (x<o)=false->t.length=n/\1<=t.length/\t.length<=t.length/\(((P.same P/\Q.same Q/\(l).same (g 0)/\True)/\V.same S/\True)/\a<=a/\a<=z/\∀(j:Nat),(↑j:Int)<a->(↑j:Int)+c∈ic t t.length)/\∀(x:Int),let an:=decide (bj M (1+x.toNat) 0=a);let L:=x+c;let ao:=g L;(a<=x/\x<=z/\∀(j:Nat),(↑j:Int)<x->(↑j:Int)+c∈ic t t.length)->(decide (x<z)=true->t.length=M.length/\a<=x/\x<z/\1+R<=t.length/\t.length=M.length/\1+x.toNat<M.length/\(an=true->(b).same (e (dT t)))/\(an=false->f L/\((P.same P/\Q.same Q/\ao.same ao/\True)/\S.same S/\True)/\(a<=L/\L<=z/\∀(j:Nat),(↑j:Int)<L->(↑j:Int)+c∈ic t t.length)/\(z - L).toNat<(z - x).toNat))/\(decide (x<z)=false->(δc true).same (e (dT t))))))) (by kernel_rfl) ?_;simp only[vcs];refine⟨λh=>?_,λh1=>⟨λh=>?_,λh2=>?_⟩⟩
 ·have:¬(1<=t.length/\t.length<=65536):=by omega
  simp[dT,this]
 ·have:¬(1<=t.length/\t.length<=65536):=by omega
  simp[dT,this]
 have hrow:∀{x y:List Int},x=y->(bq.row (.i .i64) x 3 true).same (bq.row (.i .i64) y 3 true):=by rintro _ _ rfl;rfl
 have how:∀{x y:Nat},x=y->(γZ 0 x 1).same (γZ 0 y 1):=by rintro _ _ rfl;rfl
 refine⟨by omega,by omega,by omega,by omega,⟨⟨how (by omega),hrow ?_⟩,by omega,by omega,λj hj=>by omega⟩,?_⟩;·rw[show ic t 0=[] from rfl,afd];simp
 rintro i ⟨i0,i1,hi⟩;refine⟨λhlt=>?_,λhge=>?_⟩
 ·have hil:i.toNat<t.length:=by omega
  have hm:=ht _ (dr (d:=bE.dflt) hil);have hs:=UQ i0 hlt;have hg:kT t i.toNat=(s8 (bj t i.toNat bE.dflt)&&uK t.length i (ic t i.toNat) (jA (bj t i.toNat bE.dflt))):=by
   unfold kT;rw[show((i.toNat:Nat):Int)=i by omega]
  generalize bj t i.toNat bE.dflt=N at*;obtain⟨k,o,a,b,y⟩:=N;generalize hc:ic t i.toNat=c at*;have no:kT t i.toNat=false->false=dT t:=λh=>(afe hil h).symm;have fin:kT t i.toNat=true->(∀j:Nat,(j:Int)<i+1->kT t j=true):=λh j hj=>by
   by_cases h2:(j:Int)<i;·exact hi j h2
   ·rw[show j=i.toNat by omega];exact h
  have hl:=@yR t.length c;have w1:k=1->s8 (k,o,a,b,y)=wf1 (k,o,a,b,y):=λh=>if_pos h;have w2:¬k=1->k=2->s8 (k,o,a,b,y)=wf2 (k,o,a,b,y):=λh h'=>(if_neg h).trans (if_pos h');have w3:¬k=1->¬k=2->k=3->s8 (k,o,a,b,y)=uJ (k,o,a,b,y):=λh h' h''=>(if_neg h).trans ((if_neg h').trans (if_pos h''));have w4:¬k=1->¬k=2->¬k=3->s8 (k,o,a,b,y)=false:=λh h' h''=>(if_neg h).trans ((if_neg h').trans (if_neg h''));have E1:¬k=2->jA (k,o,a,b,y)=[]:=λh=>if_neg h;have UR:k=2->jA (k,o,a,b,y)=[a,b]:=λh=>if_pos h;have ea:bj [a,b] 0 0=a:=rfl;have eb:bj [a,b] 1 0=b:=rfl;dsimp only;simp only[ea,eb];refine⟨i0,hlt,hil,λh1=>⟨hm,λhw=>no ?_,λhw=>⟨λh=>(by cases h),λ_=>⟨⟨by omega,by omega⟩,hrow ?_,⟨by omega,by omega,fin ?_⟩,by omega⟩⟩⟩,λh1=>⟨λh2=>?_,λh2=>⟨λh3=>⟨λhw=>no ?_,λhw=>⟨λh=>(by cases h),λ_=>⟨⟨by omega,by omega⟩,hrow ?_,⟨by omega,by omega,fin ?_⟩,by omega⟩⟩⟩,λh3=>⟨λ_=>no ?_,λh=>(by cases h)⟩⟩⟩⟩;·rw[hg,w1 h1,hw];rfl
  ·rw[hs,E1 (by omega),γ1]
  ·rw[hg,w1 h1,E1 (by omega),hw];rfl
  ·have hg2:kT t i.toNat=(wf2 (k,o,a,b,y)&&(decide (i<a/\a<t.length)&&decide (a∉c)&&(decide (i<b/\b<t.length)&&decide (b∉c++[a])&&true))):=by rw[hg,w2 h1 h2,UR h2];rfl
   rw[UR h2] at hs;refine⟨λhw=>no ?_,λhw=>⟨λ_=>⟨by omega,by omega,by omega,λha=>no ?_,λha=>⟨λhb=>no ?_,λhb=>?_⟩⟩,λh=>(by cases h)⟩⟩;·rw[hg2,hw];rfl
   ·rw[hg2,decide_eq_false (p:=i<a/\a<t.length) (by omega)];simp
   ·rw[hg2,decide_eq_false (p:=i<a/\a<t.length) (by omega)];simp
   have hat:a.toNat<t.length:=by omega
   have ca:=@yS t.length a.toNat c hat;rw[show((a.toNat:Nat):Int)=a by omega] at ca;have pa:=@UP t.length c a (by omega) (by omega);have la:0<=a/\a<(lp t.length c).length:=by rw[hl];omega
   have Ld:a.toNat<(lp t.length c).length:=by rw[hl];exact hat
   refine⟨hl.symm,la.1,la.2,hl.symm,Ld,λhc1=>no ?_,λhc1=>⟨hl.symm,la.1,la.2,hl.symm,Ld,⟨by omega,by omega⟩,hl.symm,la.1,la.2,hl.symm,Ld,λ_=>?_,λh=>(by cases h)⟩⟩
   ·have:a∈c:=δR.1 (by omega);rw[hg2,decide_eq_false (p:=a∉c) (by simpa using this)];simp
   have hac:a∉c:=λh=>by have:=δR.2 h;omega
   simp only[pa];have hl2:=@yR t.length (c++[a]);refine⟨by omega,by omega,by omega,λhb1=>no ?_,λhb1=>⟨λhb2=>no ?_,λhb2=>?_⟩⟩;·rw[hg2,decide_eq_false (p:=i<b/\b<t.length) (by omega)];simp
   ·rw[hg2,decide_eq_false (p:=i<b/\b<t.length) (by omega)];simp
   have hbt:b.toNat<t.length:=by omega
   have cb:=@yS t.length b.toNat (c++[a]) hbt;rw[show((b.toNat:Nat):Int)=b by omega] at cb;have pb:=@UP t.length (c++[a]) b (by omega) (by omega);have lb:0<=b/\b<(lp t.length (c++[a])).length:=by rw[hl2];omega
   have Le:b.toNat<(lp t.length (c++[a])).length:=by rw[hl2];exact hbt
   refine⟨hl2.symm,lb.1,lb.2,hl2.symm,Le,λhc2=>no ?_,λhc2=>⟨hl2.symm,lb.1,lb.2,hl2.symm,Le,⟨by omega,by omega⟩,hl2.symm,lb.1,lb.2,hl2.symm,Le,λh=>(by cases h),λ_=>⟨⟨by omega,by omega⟩,hrow ?_,⟨by omega,by omega,fin ?_⟩,by omega⟩⟩⟩
   ·have:b∈c++[a]:=δR.1 (by omega);rw[hg2,decide_eq_false (p:=b∉c++[a]) λh=>h this];simp
   ·rw[pb,hs,γU];rfl
   ·have hbc:b∉c++[a]:=λh=>by have:=δR.2 h;omega
    rw[hg2,hw,decide_eq_true (p:=i<a/\a<t.length) (by omega),decide_eq_true (p:=i<b/\b<t.length) (by omega),decide_eq_true hac,decide_eq_true hbc];rfl
  ·rw[hg,w3 h1 h2 h3,hw];rfl
  ·rw[hs,E1 h2,γ1]
  ·rw[hg,w3 h1 h2 h3,E1 h2,hw];rfl
  ·rw[hg,w4 h1 h2 h3];rfl
 ·rw[show i.toNat=t.length by omega];have hl:=@yR t.length (ic t t.length);refine⟨hl.symm,by omega,by omega,⟨hrow rfl,by omega,by omega,λj hj=>by omega⟩,?_⟩;rintro x ⟨x0,x1,hx⟩;refine⟨λhlt=>?_,λDp=>?_⟩
  ·have cx:=@yS t.length (1+x.toNat) (ic t t.length) (by omega);rw[show(((1+x.toNat:Nat)):Int)=(x.toNat:Int)+1 by omega] at cx;refine⟨hl.symm,x0,hlt,by omega,hl.symm,by rw[hl];omega,λh=>?_,λh=>⟨⟨by omega,by omega⟩,⟨by omega,by omega,λj hj=>?_⟩,by omega⟩⟩;·exact(aff (k:=x.toNat) (by omega) λhm=>by have:=δR.2 hm;omega).symm
   ·by_cases hj2:(j:Int)<x;·exact hx j hj2
    ·rw[show j=x.toNat by omega];exact δR.1 (by omega)
  ·symm;unfold dT;rw[decide_eq_true (by omega),φ.2 λk hk=>hi k (by have:=γy.1 hk;omega),φ.2 λk hk=>decide_eq_true (hx k (by have:=γy.1 hk;omega))];rfl
theorem rN {W:Int} (a: -9223372036854775808<=W) (b:W<=9223372036854775807):Sz 2 (W:Rat):=by
 unfold Sz;simp;omega
def jj (p:bn) (y:List Rat) (r:Nat) (i:Int):Rat:=((oI p i).value:Rat) - bP r λk=>bj y k 0*((dW p k (oI p i):Int):Rat)
def kU (p:bn) (f:List Int) (y:List Rat) (r:Nat):Rat:=((gA p f:Int):Rat)+bP r λk=>bj y k 0*((dj p k - cT p ((bD f 1).map (oI p)) k:Int):Rat)
def mT (p:bn) (f:List Int) (r:Int) (k:Nat):Int:=dj p r - cT p ((bD (f.take k) 1).map (oI p)) r
theorem afh {a:Type} {n j:Nat} (g:Int->a) (d:a) (h:j<n):bj ((dm n).map g) j d=g j:=by
 grind[cY,dm]
theorem Lh {c:Type} {a b:List c} (d:c) (e:a.length=b.length) (h:∀j,j<a.length->bj a j d=bj b j d):a=b:=by
 refine γ8 e λj f g=>?_;grind[cY]
theorem afi {p:bn} {f:List Int} {y:List Rat}:kU p f y 0=((gA p f:Int):Rat):=by
 grind[kU,bP]
theorem US {p:bn} {f:List Int} {y:List Rat} {r:Nat}:kU p f y (r+1)=kU p f y r+bj y r 0*((dj p r - cT p ((bD f 1).map (oI p)) r:Int):Rat):=by
 grind[kU,bP]
theorem Lj {p:bn} {y:List Rat} {r:Nat} {i:Int}:jj p y (r+1) i=jj p y r i - bj y r 0*((dW p r (oI p i):Int):Rat):=by
 grind[jj,bP]
theorem UT {p:bn} {r:Int}:(iz p r p.offers.length).length=p.offers.length:=by grind[iz]
theorem afj {p:bn} {r i:Int} (h:0<=i/\i<p.offers.length):bj (iz p r p.offers.length) i.toNat 0=dW p r (oI p i):=by
 grind[iz,cY,oI]
theorem afk {p:bn} {f:List Int} {r:Int}:mT p f r 0=dj p r:=by
 simp_all[mT,bD,dm,cT]
theorem afl {p:bn} {f:List Int} {r k:Int} (a:0<=k) (h:k<f.length):mT p f r (k+1).toNat=mT p f r k.toNat - if bj f k.toNat 0=1 then dW p r (oI p k) else 0:=by
 grind[mT,Bd,cT]
theorem UU {p:bn} {f:List Int} {r:Int}:mT p f r f.length=dj p r - cT p ((bD f 1).map (oI p)) r:=by
 grind[mT]
theorem UW {p:bn} {f:List Int} {r:Int} {k:Nat} (a:bz p=0) (j:f.length=p.offers.length): -640<=mT p f r k/\mT p f r k<=4:=by
 have g:=@AG p a r;have b:=@sG p r ((bD (f.take k) 1).map (oI p)) λx d=>by
  obtain⟨i,e,rfl⟩:=Ω.1 d;have:=(kP.1 e).1;rw[γu] at this;exact(kQ a (i:=i) (by omega)).2.2.1
 have c:=@uH (f.take k) 1;rw[List.length_map] at b;rw[γu] at c;have h:=(dQ a).2.1;grind[mT]
section
variable {p:bn} {f:List Int}
theorem afm (h:eV p f) {i:Int} (c:0<=i/\i<f.length) (d:bj f i.toNat 0=0):jj p (iC p f) (mF p) i<=0:=by
 have a:i∈bD f 0:=kP.2 ⟨c,d⟩;have b:(bD f 0).idxOf i<nF f:=List.idxOf_lt_length_of_mem a;have g:=ael h b;have e:bj (bD f 0) ((bD f 0).idxOf i) 0=i:=by grind[cY]
 grind[A8,dL,yt,jj]
theorem afn (h:eV p f):kU p f (iC p f) (mF p)=jf p f:=by
 grind[kU,jf,Uh,dL,yu]
end
def oK (p:bn) (f:List Int) (y:List Rat) (r k:Nat) (i:Int):Rat:=if bj f i.toNat 0=0 then jj p y (if i<(k:Int) then r+1 else r) i else(((oI p i).value:Int):Rat)
def ig (p:bn) (f:List Int) (y:List Rat) (r k:Nat):List bL:=(dm p.offers.length).map λ(i:Int)=>bu (oK p f y r k i)
def jk (p:bn) (f:List Int) (y:List Rat) (i:Nat):Rat:=kU p f y (mF p)+bP i λk=>if bj f k 0=0/\0<jj p y (mF p) k then jj p y (mF p) k else 0
def rO (n:Nat) (K:Nat->Nat):Nat:=match n with
 |0=>0
 |n+1=>rO n K+K n
def yT (p:bn) (y:List Rat):Prop:=∃K:Nat->Nat,(∀k,k<mF p->Sz (K k) (bj y k 0))/\rO (mF p) K<=9000000
def wF (p:bn) (f:List Int) (x:List bL):Prop:=(bz p=0/\f.length=p.offers.length/\jN f=true)/\∃y,x=fL y/\y.length=mF p/\yT p y
def posB (x:List bL):Bool:=x.all λe=>!e.1
theorem yU {p:bn} {f:List Int} {y:List Rat} {r k:Nat}:(ig p f y r k).length=p.offers.length:=by grind[ig,iP]
theorem yV {p:bn} {f:List Int} {y:List Rat} {r k j:Nat} (h:j<p.offers.length) {d:bL}:bj (ig p f y r k) j d=bu (oK p f y r k j):=afh _ _ h
theorem Ll {p:bn} {f:List Int} {y:List Rat} {r k a b:Nat} (h:∀j:Nat,j<p.offers.length->oK p f y r k j=oK p f y a b j):ig p f y r k=ig p f y a b:=by
 refine Lh (false,([],[])) (by grind[yU]) λj c=>?_;grind[yU,yV]
theorem afo {p:bn} {f:List Int} {y:List Rat} {i:Int} (a:0<=i):oK p f y 0 0 i=(((oI p i).value:Int):Rat):=by
 unfold oK;rw[if_neg (show ¬i<((0:Nat):Int) by omega)];grind[jj,bP]
theorem afp {p:bn} {f:List Int} {y:List Rat} {r:Nat}:ig p f y r p.offers.length=ig p f y (r+1) 0:=Ll λj a=>by
 simp_all[oK,if_neg]
theorem Lm {p:bn} {f:List Int} {y:List Rat} {r:Nat} {k:Int} (c:0<=k) (h:bj f k.toNat 0≠0\/dW p r (oI p k)=0\/bj y r 0=0):ig p f y r k.toNat=ig p f y r (k+1).toNat:=Ll λj a=>by
 unfold oK;by_cases a:(j:Int)=k
 ·rw[if_neg (show ¬(j:Int)<((k.toNat:Nat):Int) by omega),if_pos (show(j:Int)<(((k+1).toNat:Nat):Int) by omega),a];split
  ·rename_i b;rw[Lj];rcases h with h|h|h;·omega
   ·rw[h];grind
   ·rw[h];grind
  ·rfl
 grind
theorem afq {p:bn} {f:List Int} {y:List Rat} {r:Nat} (h:bj y r 0=0):ig p f y r 0=ig p f y (r+1) 0:=Ll λj a=>by
 unfold oK;rw[if_neg (show ¬(j:Int)<((0:Nat):Int) by omega),if_neg (show ¬(j:Int)<((0:Nat):Int) by omega),Lj,h];split<;>grind
theorem afr {p:bn} {f:List Int} {y:List Rat} {r:Nat} {k:Int} (c:0<=k) (h:k<p.offers.length) (b:bj f k.toNat 0=0):(ig p f y r k.toNat).set k.toNat (bu (jj p y (r+1) k))=ig p f y r (k+1).toNat:=by
 refine Lh (false,([],[])) (by grind[yU]) λj a=>?_;rw[Φ,yU] at a;rw[iT (by grind[yU]),yV a,yV a];unfold oK;grind
theorem afs {p:bn} {f:List Int} {y:List Rat} {r:Nat} {k:Int} (b:0<=k) (a:bj f k.toNat 0=0):oK p f y r k.toNat k=jj p y r k:=by
 unfold oK;grind
theorem aft {p:bn} {f:List Int} {y:List Rat} {r:Nat} (h:bj y r 0=0):kU p f y r=kU p f y (r+1):=by
 grind[US]
theorem UX {p:bn} {f:List Int} {y:List Rat}:jk p f y 0=kU p f y (mF p):=by
 grind[jk,bP]
theorem UY {p:bn} {f:List Int} {y:List Rat} {i:Int} (a:0<=i):jk p f y (i+1).toNat=jk p f y i.toNat+if bj f i.toNat 0=0/\0<jj p y (mF p) i then jj p y (mF p) i else 0:=by
 rw[show(i+1).toNat=i.toNat+1 by omega];grind[jk,bP]
section
variable {p:bn} {f:List Int} {y:List Rat}
theorem UZ {K:Nat->Nat}:∀{n k:Nat},k<n->K k<=rO n K
 |0,_,h=>by omega;|n+1,k,h=>by
  simp only[rO];by_cases e:k=n;·rw[e];omega
  ·have:=@UZ K n k (by omega);omega
theorem U0 {g:Nat->Rat} {K:Nat->Nat} {c:Nat}:∀{n:Nat},(∀k,k<n->Sz (K k+c) (g k))->Sz (rO n K+n*(c+1)+1) (bP n g)
 |0,_=>by
  simp only[bP];exact(show Sz 1 0 by simp_all[Sz]).mono (by omega);|n+1,h=>by
  simp only[bP,rO];have a:Sz (rO n K+n*(c+1)+1) (bP n g):=U0 λk b=>h k (by omega);exact(A0 a (h n (by omega))).mono (by grind)
theorem U1 (h:yT p y) {k:Nat} (a:k<mF p):Sz 9000000 (bj y k 0):=by
 obtain⟨K,b,c⟩:=h;exact(b k a).mono (by have:=@UZ K _ _ a;omega)
def pV (y:List Rat) (m:Nat) (C:Int) (q:Rat):Prop:=∃(c:Int) (z:Nat->Int),(-C<=c/\c<=C)/\(∀r,r<m-> -C<=z r/\z r<=C)/\q=(c:Rat)+bP m λr=>bj y r 0*((z r:Int):Rat)
theorem afu {m:Nat} {C D:Int} {q b:Rat} (h:pV y m C q) (j:pV y m D b):pV y m (C+D) (q+b):=by
 obtain⟨c,z,l,o,n⟩:=h;obtain⟨f,a,g,d,i⟩:=j;refine⟨c+f,λr=>z r+a r,by omega,λr k=>?_,?_⟩;·grind
 ·have e:(bP m λr=>bj y r 0*(((z r+a r:Int)):Rat))=(bP m λr=>bj y r 0*((z r:Int):Rat))+bP m λr=>bj y r 0*((a r:Int):Rat):=by
   simp_all[yg,Rat.mul_add]
  grind
theorem afv {m:Nat} {C D:Int} {q:Rat} (h:pV y m C q) (f:C<=D):pV y m D q:=by
 obtain⟨c,z,b,e,a⟩:=h;exact⟨c,z,by omega,λr d=>by grind,a⟩
theorem afw {m:Nat} {C:Int} (a:0<=C):pV y m C 0:=⟨0,λ_=>0,by omega,λ_ _=>⟨by simp_all,a⟩,by
 simp_all[iR,ζK]⟩
theorem Ln {C:Int} {q:Rat} (h:pV y (mF p) C q) (g:C<=9223372036854775807) (b:yT p y) (j:mF p<=20):Sz 9000100 q:=by
 obtain⟨c,z,k,f,rfl⟩:=h;obtain⟨K,i,d⟩:=b;have a:Sz (rO (mF p) K+mF p*3+1) (bP (mF p) λr=>bj y r 0*((z r:Int):Rat)):=U0 (c:=2) λr e=>by
  grind[uA,rN]
 refine(A0 (rN (W:=c) (by omega) (by omega)) a).mono ?_;omega
theorem U2 {g:Nat->Rat} {r:Nat}:∀{m:Nat},r<=m->(bP m λk=>if k<r then g k else 0)=bP r g
 |0,h=>by rw[show r=0 by omega];rfl;|m+1,h=>by
  by_cases e:r=m+1;·simp_all[dL]
  ·simp only[bP];rw[if_neg (by omega),ζK];exact U2 (by omega)
theorem U3 {r m:Nat} (a:r<=m) {C c:Int} {z:Nat->Int} (b: -C<=c/\c<=C) (e:∀k,k<r-> -C<=z k/\z k<=C):pV y m C ((c:Rat)+bP r λk=>bj y k 0*((z k:Int):Rat)):=by
 refine⟨c,λk=>if k<r then z k else 0,b,λk d=>?_,?_⟩;·grind
 ·rw[<-U2 a];congr 1;refine dL λk _=>?_;show _=bj y k 0*(((if k<r then z k else 0:Int)):Rat);split<;>simp_all
theorem U4 (d:bz p=0) {r:Nat} (a:r<=mF p) {i:Int} (c:0<=i/\i<p.offers.length):pV y (mF p) 1000000 (jj p y r i):=by
 have b:=kQ d c;have h:=@U3 y r (mF p) a 1000000 (oI p i).value (λk=> -dW p k (oI p i)) (by omega) λk _=>by
  have:=@pM p k _ b.2.2.1;omega
 have e:jj p y r i=(((oI p i).value:Int):Rat)+bP r λk=>bj y k 0*(((-dW p k (oI p i):Int)):Rat):=by
  unfold jj;rw[Rat.sub_eq_add_neg];congr 1;rw[show(-(bP r λk=>bj y k 0*((dW p k (oI p i):Int):Rat)))=(-1)*(bP r λk=>bj y k 0*((dW p k (oI p i):Int):Rat)) by grind,<-v8];grind
 simp_all
theorem U5 (b:bz p=0) (a:f.length=p.offers.length) {r:Nat} (d:r<=mF p):pV y (mF p) 1000000000 (kU p f y r):=by
 have c:=@Be p b f f.length a;rw[ψ] at c;unfold kU;refine U3 d (by omega) λk _=>?_;have e:=@UW p f k f.length b a;grind[UU]
theorem U6 (e:bz p=0) (c:f.length=p.offers.length):∀{i:Nat},i<=f.length->pV y (mF p) (1000000000+1000000*i) (jk p f y i)
 |0,_=>by grind[UX,U5];|i+1,h=>by
  have a:=@UY p f y i (by omega);rw[show((i:Int)+1).toNat=i+1 by omega,γl] at a;rw[a];have b:=U6 e c (i:=i) (by omega);have d:pV y (mF p) 1000000 (if bj f i 0=0/\0<jj p y (mF p) i then jj p y (mF p) i else 0):=by
   grind[U4,afw]
  exact afv (afu b d) (by omega)
theorem E2 (a:bz p=0):mF p<=20:=by have:=(dQ a).1;grind
theorem U7 (a:bz p=0) (d:yT p y) {r:Nat} (b:r<=mF p) {i:Int} (c:0<=i/\i<p.offers.length):Sz 9000100 (jj p y r i):=Ln (U4 a b c) (by omega) d (E2 a)
theorem afx (a:bz p=0) (c:f.length=p.offers.length) (d:yT p y) {r:Nat} (b:r<=mF p):Sz 9000100 (kU p f y r):=Ln (U5 a c b) (by omega) d (E2 a)
theorem U8 (a:bz p=0) (c:f.length=p.offers.length) (b:yT p y) {i:Nat} (d:i<=f.length):Sz 9000100 (jk p f y i):=Ln (U6 a c d) (by have:=(dQ a).2.1;omega) b (E2 a)
end
def afy (f:FuncId) {c:Type} (A:qt c) (e:c->Prop) (d:c->SV):dH where
 f:=f;α:=c;put:=A.put;st _:=[];dec v o:=match o with
  |[]=>A.dec v
  |_=>none;ok v o a h:=by
  split at h;·exact⟨A.ok _ _ h,rfl⟩
  ·cases h
 inj a b h _:=A.inj _ _ h;dom:=e;res:=d;out _:=[]
def Lq:dH:=afy 135 (.cons dK (.one (dF (.i .i64)))) (λ(a:bn×List Int)=>bz a.1=0/\a.2.length=a.1.offers.length) λa=>pS (κ (gA a.1 a.2))
def afz (p:bn) (f:List Int):Nat->cE
 |3=> .inv Int (λi=>⟨[(2,.ptr 0 0 20),(4,.ptr 1 0 3),(5,.si .i64 (gA p (f.take i.toNat))),(8,.row (.i .i64) f),(9,.si .i64 f.length),(10,.si .i64 i)],[.cells p.ss 27 20 false,.cells [.bl false,.sc (.slice none 0 0),.sc (.slice none 0 0)] 177 3 false]⟩)
   (λs=>iS s 10) (λi=>0<=i/\i<=f.length) (λi=>(f.length - i).toNat) λ_ _=> .look
 |_=> .look
theorem h396o:ec Tryz.prog Lq:=by
 refine Bh (L:=[oC]) (W:=[]) Lq (λa=>afz a.1 a.2) (by simp) (by simpa using h94) ?_;rintro⟨p,f⟩ ⟨hc,hl⟩;simp only at hc hl;refine bO (let a:=γh .i64;let b:=(0:Int);let c:=Ψ;let h:=γO 0 0 20;let j:=γO 1 0 3;let s:=γx .i64 0;let k:=c (bp.i .i64) f;let d:=(↑f.length:Int);let o:=a d;let l:=bq.cells (bn.ss p) 27 20 false;let t:=SV.sc (Value.slice none 0 0);let m:=bq.cells [δc false,t,t] 177 3 false;let n:=bp.i .u32;let q:=bu (κ (gA p f));(((h.same h/\j.same j/\s.same (a (gA p []))/\k.same k/\(a (↑f.length:Int)).same o/\s.same (a 0)/\True)/\l.same l/\m.same m/\True)/\b<=b/\b<=d)/\∀(x:Int),let e:=x+(1:Int);let v:=a e;let w:=decide (bj f x.toNat b=(1:Int));let g:=gA p (Δ x.toNat f);let y:=g+(bj p.offers x.toNat bp.off.dflt).value;let r:=bu (κ g);let z:=λ(u:Int) ↦cq .i64 e/\((h.same h/\j.same j/\(a u).same (a (gA p (Δ e.toNat f)))/\k.same k/\o.same o/\v.same v/\True)/\l.same l/\m.same m/\True)/\(b<=e/\e<=d)/\(d - e).toNat<(d - x).toNat;b<=x/\x<=d->(decide (x<d)=true->b<=x/\x<(↑f.length:Int)/\x.toNat<f.length/\(w=true->b<=x/\x<(↑p.offers.length:Int)/\x.toNat<p.offers.length/\cq .i64 y/\z y)/\(w=false->z g))/\(decide (x<d)=false->((-9223372036854775808:Int)<=g/\g<=(9223372036854775807:Int))/\(SV.agg [γv r.fst,c n r.snd.fst,c n r.snd.snd]).same (SV.agg [γv q.fst,c n q.snd.fst,c n q.snd.snd])/\True)) (by kernel_rfl) ?_;simp only[vcs];have h160:=(dQ hc).2.1;refine⟨⟨by simp[gA,bD,dm,cJ],by omega,by omega⟩,?_⟩;rintro i ⟨i0,i1⟩;have hb:=@Be p hc f i.toNat hl;refine⟨λhi=>?_,λhi=>?_⟩
 ·have hs:=@TU p f i i0 hi;have ho:=kQ hc (i:=i) ⟨i0,by omega⟩;have hv:(bj p.offers i.toNat bp.off.dflt).value=(oI p i).value:=rfl;rw[hv];refine⟨i0,hi,by omega,λh1=>?_,λh1=>?_⟩
  ·rw[if_pos h1] at hs;refine⟨i0,?_,?_,?_,?_,?_,?_,?_⟩<;>omega
  ·rw[if_neg h1] at hs;refine⟨?_,?_,?_,?_⟩<;>omega
 ·rw[show f.take i.toNat=f by rw[show i.toNat=f.length by omega,ψ]] at hb ⊢;exact⟨by omega,rfl⟩
def fsN (p:bn) (f:List Int) (x:List bL):SV:=.agg [.sb (if posB x=true then(bu (jk p f (vL x) f.length)).1 else false),.row (.i .u32) (if posB x=true then(bu (jk p f (vL x) f.length)).2.1 else[]),.row (.i .u32) (if posB x=true then(bu (jk p f (vL x) f.length)).2.2 else[])]
def Lr:bM:=⟨210,bn×List Int×List bL,.cons dK (.cons (dF (.i .i64)) (.one (dF sF))),λa=>wF a.1 a.2.1 a.2.2,λa=> .bI [fsN a.1 a.2.1 a.2.2,.si .i64 (if posB a.2.2=true then 0 else 4)]⟩
def E3 (p:bn) (q:Rat) (ex:List bL):bZ:=[.cells p.ss 27 20 false,.cells [.bl false,.sc (.slice none 0 0),.sc (.slice none 0 0)] 177 3 false,.cells [.sb (bu q).1,.row (.i .u32) (bu q).2.1,.row (.i .u32) (bu q).2.2] 177 3 false,.row sF ex 177 true]
noncomputable def afB (p:bn) (f:List Int) (x:List bL):Nat->cE
 |7=> .inv Int (λi=>⟨[(1,.row (.i .i64) f),(2,.row sF x),(3,.ptr 0 0 20),(6,.ptr 1 0 3),(35,.row sF x),(36,.si .i64 x.length),(37,.si .i64 i)],[.cells p.ss 27 20 false,.cells [.bl false,.sc (.slice none 0 0),.sc (.slice none 0 0)] 177 3 false]⟩)
   (λs=>iS s 37) (λi=>0<=i/\i<=x.length/\posB (x.take i.toNat)=true) (λi=>(x.length - i).toNat) λ_ _=> .look
 |17=> .inv Int (λi=>⟨[(1,.row (.i .i64) f),(2,.row sF x),(3,.ptr 0 0 20),(6,.ptr 1 0 3),(11,.ptr 2 0 3),(12,.ow 3 f.length 3),(57,.si .i64 f.length),(58,.si .i64 i)],E3 p (κ (gA p f)) (eU (ig p f (vL x) 0 0) i.toNat (false,([],[])))⟩)
   (λs=>iS s 58) (λi=>0<=i/\i<=f.length) (λi=>(f.length - i).toNat) λ_ _=> .look
 |22=> .inv Int (λr=>⟨[(1,.row (.i .i64) f),(3,.ptr 0 0 20),(6,.ptr 1 0 3),(11,.ptr 2 0 3),(12,.ow 3 f.length 3),(72,.row sF x),(73,.si .i64 x.length),(74,.si .i64 r)],E3 p (kU p f (vL x) r.toNat) (ig p f (vL x) r.toNat 0)⟩)
   (λs=>iS s 74) (λr=>0<=r/\r<=x.length) (λr=>(x.length - r).toNat) λr k=>match k with
   |27=> .inv Int (λk=>⟨[(1,.row (.i .i64) f),(3,.ptr 0 0 20),(6,.ptr 1 0 3),(11,.ptr 2 0 3),(12,.ow 3 f.length 3),(15,.ptr 4 0 3),(17,.si .i64 (mT p f r k.toNat)),(72,.row sF x),(73,.si .i64 x.length),(74,.si .i64 r),(88,.row (.i .i64) (iz p r p.offers.length)),(89,.si .i64 f.length),(90,.si .i64 k)],
      E3 p (kU p f (vL x) r.toNat) (ig p f (vL x) r.toNat k.toNat)++[.cells [.sb (bj x r.toNat sF.dflt).1,.row (.i .u32) (bj x r.toNat sF.dflt).2.1,.row (.i .u32) (bj x r.toNat sF.dflt).2.2] 177 3 false]⟩)
     (λs=>iS s 90) (λk=>0<=k/\k<=f.length) (λk=>(f.length - k).toNat) λ_ _=> .look
   |_=> .look
 |38=> .inv Int (λi=>⟨[(6,.ptr 1 0 3),(11,.ptr 2 0 3),(12,.ow 3 f.length 3),(133,.row (.i .i64) f),(134,.si .i64 f.length),(135,.si .i64 i)],E3 p (jk p f (vL x) i.toNat) (ig p f (vL x) (mF p) 0)⟩)
   (λs=>iS s 135) (λi=>0<=i/\i<=f.length) (λi=>(f.length - i).toNat) λ_ _=> .look
 |_=> .look
theorem h494:Holds Tryz.prog Lr:=by
 refine con (L:=[Ez,ya,uz,sT,oC,DO,A6,A5,wq]) (W:=gK [Lq]) Lr (λa=>afB a.1 a.2.1 a.2.2) (kZ (by simpa using h396o)) (by simpa using⟨h393,h335,h407,h99,h94,h336,h410,h95,h129⟩) ?_;rintro⟨p,f,x⟩ ⟨⟨hc,hl,hr⟩,y,hx,hyl,hy⟩;simp only at hc hl hr hx hyl hy;refine bO (let a:=Ψ;let c:=γh .i64;let d:=(0:Int);let e:=bq.cells;let g:=bq.row;let h:=(-9223372036854775808:Int);let j:=(9223372036854775807:Int);let k:=cq .i64;let l:=γv;let m:=(1:Int);let n:=γx .i64;let o:=sF.dflt;let q:=SV.bI;let r:=γO;let s:=δc false;let t:=SV.agg;let v:=bp.i .i64;let am:=t [s,a v [],a v []];let an:=bu (jk p f (vL x) f.length);let w:=bp.i .u32;let ad:=q [t [l (if posB x=true then an.fst else false),a w (if posB x=true then an.snd.fst else[]),a w (if posB x=true then an.snd.snd else[])],c (if posB x=true then d else(4:Int))];let T:=(↑x.length:Int);let aK:=if bz p=d then de p else d;let E:=r 0 0 20;let z:=r 1 0 3;let F:=(↑x.length:Int);let G:=c F;let U:=n 0;let A:=e [c p.supply.a0,c p.supply.a1,c p.supply.a2,c p.supply.a3,c p.supply.a4,c p.supply.a5,c p.opn.a0,c p.opn.a1,c p.opn.a2,c p.opn.a3,c p.opn.a4,c p.opn.a5,c p.cls.a0,c p.cls.a1,c p.cls.a2,c p.cls.a3,c p.cls.a4,c p.cls.a5,a v p.classes,a bp.off p.offers] 27 20 false;let aL:=SV.sc (Value.slice none 0 0);let B:=e [s,aL,aL] 177 3 false;let aM:=p.offers.length;let I:=(↑f.length:Int);let C:=r 2 0 3;let D:=γZ 3 f.length 3;let y:=(↑f.length:Int);let H:=c y;let V:=bu (κ (gA p f));let ae:=e [l V.fst,a w V.snd.fst,a w V.snd.snd] 177 3 false;let af:=(false,[],[]);let ag:=ig p f (vL x) 0 0;let ao:=bu (kU p f (vL x) 0);let W:=r 4 0 3;let bg:=bu (jk p f (vL x) 0);let ap:=ig p f (vL x) (mF p) 0;let aa:=g sF ap 177 true;let O:=ap.length;let aN:=λ(u u_1:Int) (u_2:SV) ↦decide (u≠u_1)=true->(q [am,u_2]).same ad;f.length<=1000000000000/\aN (je p f) d (c (je p f))/\(decide (je p f≠d)=false->True/\aN T aK (n 3)/\(decide (T≠aK)=false->((((a v f).same (a v f)/\(a sF x).same (a sF x)/\E.same E/\z.same z/\(a sF x).same (a sF x)/\(c T).same G/\U.same (c 0)/\True)/\A.same A/\B.same B/\True)/\d<=d/\d<=F/\posB []=true)/\∀(x_1:Int),let Q:=bj x x_1.toNat o;let aq:=(Q.fst,Q.snd.fst,Q.snd.snd);let X:=x_1+m;let aO:=c X;let aP:=λ(u:Bool) ↦decide (jL (bV aq)<d)=u;let aQ:=λ(u:Bool) ↦(!okF aq)=u;d<=x_1/\x_1<=F/\posB (Δ x_1.toNat x)=true->(decide (x_1<F)=true->d<=x_1/\x_1<T/\x_1.toNat<x.length/\((bA Q.snd.fst/\bA Q.snd.snd)/\γc Q.snd.fst<=10000000/\γc Q.snd.snd<=10000000)/\(aQ true->(q [am,n 2]).same ad)/\(aQ false->cC aq/\(aP true->(q [am,n 4]).same ad)/\(aP false->k X/\(((a v f).same (a v f)/\(a sF x).same (a sF x)/\E.same E/\z.same z/\(a sF x).same (a sF x)/\G.same G/\aO.same aO/\True)/\A.same A/\B.same B/\True)/\(d<=X/\X<=F/\posB (Δ X.toNat x)=true)/\(F - X).toNat<(F - x_1).toNat)))/\(decide (x_1<F)=false->(bz p=d/\f.length=aM)/\d<=I/\I<=I/\I*(56:Int)<=(140737488355328:Int)/\I<=(1000000000000:Int)/\((((a v f).same (a v f)/\(a sF x).same (a sF x)/\E.same E/\z.same z/\C.same C/\(γZ 3 I.toNat 3).same D/\(c (↑I.toNat:Int)).same H/\U.same (c 0)/\True)/\A.same A/\B.same B/\(e [l V.fst,a w V.snd.fst,a w V.snd.snd] 177 3 false).same ae/\(g (bp.b.pair (w.bF.pair w.bF)) (δ I.toNat af) 177 true).same (g sF (eU ag 0 af) 177 true)/\True)/\d<=d/\d<=y)/\∀(x_2:Int),let ar:=(bj p.offers x_2.toNat bp.off.dflt).value;let Y:=eU ag x_2.toNat af;let Z:=x_2+m;let aR:=c Z;let au:=bu (κ ar);d<=x_2/\x_2<=y->(decide (x_2<y)=true->d<=x_2/\x_2<(↑p.offers.length:Int)/\x_2.toNat<p.offers.length/\(h<=ar/\ar<=j)/\f.length=Y.length/\d<=x_2/\x_2<(↑Y.length:Int)/\f.length=Y.length/\x_2.toNat<Y.length/\k Z/\(((a v f).same (a v f)/\(a sF x).same (a sF x)/\E.same E/\z.same z/\C.same C/\D.same D/\H.same H/\aR.same aR/\True)/\A.same A/\B.same B/\ae.same ae/\(g sF (Y.set x_2.toNat (au.fst,au.snd.fst,au.snd.snd)) 177 true).same (g sF (eU ag Z.toNat af) 177 true)/\True)/\(d<=Z/\Z<=y)/\(y - Z).toNat<(y - x_2).toNat)/\(decide (x_2<y)=false->((((a v f).same (a v f)/\E.same E/\z.same z/\C.same C/\D.same D/\(a sF x).same (a sF x)/\(c T).same G/\U.same (c 0)/\True)/\A.same A/\B.same B/\ae.same (e [l ao.fst,a w ao.snd.fst,a w ao.snd.snd] 177 3 false)/\(g sF Y 177 true).same (g sF ag 177 true)/\True)/\d<=d/\d<=F)/\∀(x_3:Int),let a6:=bu (kU p f (vL x) x_3.toNat);let R:=e [l a6.fst,a w a6.snd.fst,a w a6.snd.snd] 177 3 false;let av:=g sF (ig p f (vL x) x_3.toNat 0) 177 true;let a7:=bj x x_3.toNat o;let aS:=(a7.fst,a7.snd.fst,a7.snd.snd);let J:=x_3+m;let ah:=c J;let ai:=bu (kU p f (vL x) J.toNat);let aT:=g sF (ig p f (vL x) J.toNat 0) 177 true;let M:=iz p x_3 aM;let a8:=bj x x_3.toNat o;let ab:=e [l a8.fst,a w a8.snd.fst,a w a8.snd.snd] 177 3 false;let ac:=(a8.fst,a8.snd.fst,a8.snd.snd);let aU:=(a6.fst,a6.snd.fst,a6.snd.snd);let aV:=λ(u:bL) (u_1:bq) ↦R.same (e [l u.fst,a w u.snd.fst,a w u.snd.snd] 177 3 false)/\av.same u_1/\True;let aW:=λ(u:Bool) ↦decide (jL (bV aS)=d)=u;d<=x_3/\x_3<=F->(decide (x_3<F)=true->d<=x_3/\x_3<T/\x_3.toNat<x.length/\cC aS/\(aW true->k J/\(((a v f).same (a v f)/\E.same E/\z.same z/\C.same C/\D.same D/\(a sF x).same (a sF x)/\G.same G/\ah.same ah/\True)/\A.same A/\B.same B/\aV ai aT)/\(d<=J/\J<=F)/\(F - J).toNat<(F - x_3).toNat)/\(aW false->(bz p=d/\d<=x_3/\x_3<de p)/\((((a v f).same (a v f)/\E.same E/\z.same z/\C.same C/\D.same D/\W.same W/\(c (dj p x_3)).same (c (mT p f x_3 0))/\(a sF x).same (a sF x)/\G.same G/\(c x_3).same (c x_3)/\(a v M).same (a v M)/\(c (↑M.length:Int)).same H/\U.same (c 0)/\True)/\A.same A/\B.same B/\R.same R/\av.same av/\(e [l a7.fst,a w a7.snd.fst,a w a7.snd.snd] 177 3 false).same ab/\True)/\d<=d/\d<=y)/\∀(ew:Int),let K:=ew+m;let P:=mT p f x_3 ew.toNat;let aX:=c (mT p f x_3 K.toNat);let aj:=c x_3;let ak:=c K;let L:=ig p f (vL x) x_3.toNat ew.toNat;let aw:=g sF L 177 true;let aY:=g sF (ig p f (vL x) x_3.toNat K.toNat) 177 true;let S:=bj M ew.toNat d;let aZ:=decide (S=d);let b0:=bj f ew.toNat d;let b1:=decide (b0=m);let b2:=decide (b0=d);let ax:=bu (κ S);let b3:=(ax.fst,ax.snd.fst,ax.snd.snd);let ay:=bj L ew.toNat o;let b4:=(ay.fst,ay.snd.fst,ay.snd.snd);let az:=bu (bV ac*bV b3);let aA:=bu (bV b4 - bV (az.fst,az.snd.fst,az.snd.snd));let aB:=bu (κ P);let b5:=(aB.fst,aB.snd.fst,aB.snd.snd);let aC:=bu (bV ac*bV b5);let aD:=bu (bV aU+bV (aC.fst,aC.snd.fst,aC.snd.snd));let b6:=k K/\(((a v f).same (a v f)/\E.same E/\z.same z/\C.same C/\D.same D/\W.same W/\(c P).same aX/\(a sF x).same (a sF x)/\G.same G/\aj.same aj/\(a v M).same (a v M)/\H.same H/\ak.same ak/\True)/\A.same A/\B.same B/\R.same R/\aw.same aY/\ab.same ab/\True)/\(d<=K/\K<=y)/\(y - K).toNat<(y - ew).toNat;let b7:=λ(u:Int) (u_1:bq) ↦k K/\(((a v f).same (a v f)/\E.same E/\z.same z/\C.same C/\D.same D/\W.same W/\(c u).same aX/\(a sF x).same (a sF x)/\G.same G/\aj.same aj/\(a v M).same (a v M)/\H.same H/\ak.same ak/\True)/\A.same A/\B.same B/\R.same R/\u_1.same aY/\ab.same ab/\True)/\(d<=K/\K<=y)/\(y - K).toNat<(y - ew).toNat;let b8:=λ(u:Bool×List Int×List Int) (u_1:Int) ↦let aE:=bu (κ u_1);let aF:=bu (bV ac*bV (aE.fst,aE.snd.fst,aE.snd.snd));cC u/\cC (aF.fst,aF.snd.fst,aF.snd.snd);d<=ew/\ew<=y->(decide (ew<y)=true->d<=ew/\ew<(↑M.length:Int)/\ew.toNat<M.length/\(aZ=true->b6)/\(aZ=false->d<=ew/\ew<I/\ew.toNat<f.length/\(b1=true->k (P - S)/\b7 (P - S) aw)/\(b1=false->d<=ew/\ew<I/\ew.toNat<f.length/\(b2=true->f.length=L.length/\d<=ew/\ew<(↑L.length:Int)/\f.length=L.length/\ew.toNat<L.length/\(h<=S/\S<=j)/\(cC ac/\cC b3)/\b8 b4 S/\f.length=L.length/\d<=ew/\ew<(↑L.length:Int)/\f.length=L.length/\ew.toNat<L.length/\b7 P (g sF (L.set ew.toNat (aA.fst,aA.snd.fst,aA.snd.snd)) 177 true))/\(b2=false->b6))))/\(decide (ew<y)=false->(h<=P/\P<=j)/\(cC ac/\cC b5)/\b8 aU P/\k J/\(((a v f).same (a v f)/\E.same E/\z.same z/\C.same C/\D.same D/\(a sF x).same (a sF x)/\G.same G/\ah.same ah/\True)/\A.same A/\B.same B/\(e [l aD.fst,a w aD.snd.fst,a w aD.snd.snd] 177 3 false).same (e [l ai.fst,a w ai.snd.fst,a w ai.snd.snd] 177 3 false)/\aw.same aT/\True)/\(d<=J/\J<=F)/\(F - J).toNat<(F - x_3).toNat)))/\(decide (x_3<F)=false->(((z.same z/\C.same C/\D.same D/\(a v f).same (a v f)/\(c I).same H/\U.same (c 0)/\True)/\A.same A/\B.same B/\aV bg aa)/\d<=d/\d<=y)/\∀(ew:Int),let N:=ew+m;let al:=c N;let a9:=bu (jk p f (vL x) ew.toNat);let b9:=[l a9.fst,a w a9.snd.fst,a w a9.snd.snd];let aG:=bu (jk p f (vL x) N.toNat);let ba:=e [l aG.fst,a w aG.snd.fst,a w aG.snd.snd] 177 3 false;let aH:=bj ap ew.toNat o;let aI:=(aH.fst,aH.snd.fst,aH.snd.snd);let bb:=decide (bj f ew.toNat d=d);let bc:=(a9.fst,a9.snd.fst,a9.snd.snd);let aJ:=bu (bV bc+bV aI);let bd:=k N/\((z.same z/\C.same C/\D.same D/\(a v f).same (a v f)/\H.same H/\al.same al/\True)/\A.same A/\B.same B/\(e b9 177 3 false).same ba/\aa.same aa/\True)/\(d<=N/\N<=y)/\(y - N).toNat<(y - ew).toNat;let be:=cC aI;let bf:=λ(u:Bool) ↦decide (d<jL (bV aI))=u;d<=ew/\ew<=y->(decide (ew<y)=true->d<=ew/\ew<I/\ew.toNat<f.length/\(bb=true->f.length=O/\d<=ew/\ew<(↑O:Int)/\f.length=O/\ew.toNat<O/\be/\(bf true->f.length=O/\d<=ew/\ew<(↑O:Int)/\f.length=O/\ew.toNat<O/\(cC bc/\be)/\k N/\((z.same z/\C.same C/\D.same D/\(a v f).same (a v f)/\H.same H/\al.same al/\True)/\A.same A/\B.same B/\(e [l aJ.fst,a w aJ.snd.fst,a w aJ.snd.snd] 177 3 false).same ba/\aa.same aa/\True)/\(d<=N/\N<=y)/\(y - N).toNat<(y - ew).toNat)/\(bf false->bd))/\(bb=false->bd))/\(decide (ew<y)=false->(q [t b9,U]).same ad))))))) (by kernel_rfl) ?_;simp only[vcs];have hgo:=dQ hc;have h160:=hgo.2.1;have hfe:je p f=0:=by simp[je,hc,hl,hr]
 have hnr:de p=mF p:=by unfold de mF;omega
 have hxl:x.length=mF p:=by rw[hx,fE,hyl]
 have hvl:vL x=y:=by rw[hx,kN]
 have aic:mF p<=20:=by have:=hgo.1;unfold mF;omega
 have hxn:∀r:Int,0<=r->r<mF p->bj x r.toNat sF.dflt=bu (bj y r.toNat 0):=λr h0 h1=>by rw[hx];exact jv (by rw[hyl];omega)
 have wG:∀{q q':Rat},q=q'->(bq.cells [.sb (bu q).1,.row (.i .u32) (bu q).2.1,.row (.i .u32) (bu q).2.2] 177 3 false).same (bq.cells [.sb (bu q').1,.row (.i .u32) (bu q').2.1,.row (.i .u32) (bu q').2.2] 177 3 false):=by rintro _ _ rfl;rfl
 have rP:∀{a b:List bL},a=b->(bq.row sF a 177 true).same (bq.row sF b 177 true):=by rintro _ _ rfl;rfl
 have yM:∀{a b:Nat},a=b->(γZ 3 a 3).same (γZ 3 b 3):=by rintro _ _ rfl;rfl
 have hval:∀i:Int,(bj p.offers i.toNat bp.off.dflt).value=(oI p i).value:=λi=>rfl;have hel:∀r k,(ig p f y r k).length=f.length:=λr k=>by rw[yU,hl]
 rw[if_pos hc,hnr,hvl];simp only[jM,eC,hval,γl];refine⟨by omega,λh=>absurd hfe h,λ_=>⟨λh=>absurd (by rw[hxl]) h,λ_=>⟨⟨by omega,by omega,rfl⟩,?_⟩⟩⟩;rintro i ⟨i0,i1,hall⟩;have et:=λh=>jX (d:=sF.dflt) (l:=x) i0 h;refine⟨λhi=>?_,λhge=>?_⟩
 ·have hys:=U1 hy (k:=i.toNat) (by omega);have hm:=dr (d:=sF.dflt) (show i.toNat<x.length by omega);have et:=et hi;have hok:=ER (bj y i.toNat 0);obtain⟨s1,⟨u1,u2,u3⟩,⟨u4,u5,u6⟩⟩:=mj (bj y i.toNat 0);obtain⟨m1,m2⟩:=pn hys;rw[hxn i i0 (by omega)] at hm et ⊢;refine⟨i0,hi,by omega,⟨⟨u1,u4⟩,by omega,by omega⟩,(λh=>by rw[hok] at h;cases h),λ_=>⟨dP hys (by omega),λh=>?_,λh=>⟨by omega,⟨by omega,by omega,?_⟩,by omega⟩⟩⟩
  ·have hn:bj y i.toNat 0<0:=A7.1 (by rwa [eC] at h);have hp:posB x=false:=by
    rw[δH];intro ha;have:=φ.1 ha _ hm;have e:(bu (bj y i.toNat 0)).1=true:=decide_eq_true hn;rw[e] at this;cases this
   simp only[hp,χ,if_false];first|exact rfl|exact⟨rfl,rfl⟩|exact⟨rfl,trivial⟩|(unfold SV.same;exact⟨rfl,rfl⟩)
  ·have hn:¬bj y i.toNat 0<0:=λhh=>h (by rw[eC];exact A7.2 hh);have e:(bu (bj y i.toNat 0)).1=false:=decide_eq_false hn;unfold posB at hall ⊢;rw[et,ζI,hall];simp[e]
 have hpos:posB x=true:=by rwa [show i.toNat=x.length by omega,ψ] at hall
 simp only[hpos,if_true];refine⟨⟨hc,hl⟩,by omega,by omega,by omega,by omega,⟨⟨⟨yM rfl,trivial⟩,rP ?_⟩,by omega,by omega⟩,?_⟩;·rw[yx,hel]
 rintro i ⟨i0,i1⟩;have oV:=@yw (ig p f y 0 0) i.toNat (false,([],[])) (by rw[hel];omega);rw[hel] at oV;refine⟨λhi=>?_,λhi=>?_⟩
 ·have ho:=kQ hc (i:=i) ⟨i0,by omega⟩;have hE:bj (ig p f y 0 0) i.toNat (false,([],[]))=bu (κ (oI p i).value):=by
   rw[yV (by omega),show((i.toNat:Nat):Int)=i by omega,afo i0]
  exact⟨i0,by omega,by omega,by omega,by omega,by omega,by omega,by omega,by omega,by omega,rP (by rw[yA (by rw[hel];omega) hE.symm,show(i+1).toNat=i.toNat+1 by omega]),by omega,by omega⟩
 rw[show i.toNat=(ig p f y 0 0).length by rw[hel];omega,yz];refine⟨⟨⟨wG afi.symm,rP rfl⟩,by omega,by omega⟩,?_⟩;rintro r ⟨r0,r1⟩;refine⟨λhr1=>?_,λhr1=>?_⟩
 ·have hys:=U1 hy (k:=r.toNat) (by omega);have hx1:=hxn r r0 (by omega);have gy:cC (bu (bj y r.toNat 0)):=dP hys (by omega);have hrr:((r.toNat:Nat):Int)=r:=by omega
  have hrt:(r+1).toNat=r.toNat+1:=by omega
  simp only[hx1,eC];refine⟨r0,hr1,by omega,gy,λh0=>?_,λh0=>⟨⟨hc,r0,by omega⟩,⟨⟨afk.symm,by rw[UT];omega⟩,by omega,by omega⟩,?_⟩⟩
  ·have h0:=JK.1 h0;exact⟨by omega,⟨wG (by rw[hrt,aft h0]),rP (by rw[hrt,afq h0])⟩,by omega,by omega⟩
  rintro k ⟨k0,k1⟩;have hbd:=@UW p f r k.toNat hc hl;have hrl:=@UT p r;refine⟨λhk=>?_,λhk=>?_⟩
  ·have ho:=kQ hc (i:=k) ⟨k0,by omega⟩;have hcb:=@pM p r _ ho.2.2.1;have hrn:=@afj p r k ⟨k0,by omega⟩;have hbs:=@afl p f r k k0 (by omega);rw[hrn];refine⟨k0,by omega,by omega,λh1=>?_,λh1=>⟨k0,by omega,by omega,λh2=>?_,λh2=>⟨k0,by omega,by omega,λh3=>?_,λh3=>?_⟩⟩⟩
   ·have hb2:mT p f r k.toNat=mT p f r (k+1).toNat:=by rw[hbs,h1];split<;>omega
    exact⟨by omega,⟨hb2,rP (Lm k0 (.inr (.inl (by rw[hrr];exact h1))))⟩,by omega,by omega⟩
   ·rw[if_pos h2] at hbs;exact⟨by omega,by omega,⟨by omega,rP (Lm k0 (.inl (by omega)))⟩,by omega,by omega⟩
   ·rw[if_neg h2] at hbs;have hen:=@yV p f y r.toNat k.toNat k.toNat (by omega) sF.dflt;rw[show((k.toNat:Nat):Int)=k by omega,afs k0 h3] at hen;have gx:cC (bu (jj p y r.toNat k)):=dP (U7 hc hy (by omega) ⟨k0,by omega⟩) (by omega);have gc:cC (bu (κ (dW p r (oI p k)))):=dP (rN (W:=dW p r (oI p k)) (by omega) (by omega)) (by omega);have gm:cC (bu (bj y r.toNat 0*κ (dW p r (oI p k)))):=dP (uA hys (rN (W:=dW p r (oI p k)) (by omega) (by omega))) (by omega);have hset:=@afr p f y r.toNat k k0 (by omega) h3;rw[Lj,hrr] at hset;have afC:(ig p f y r.toNat k.toNat).set k.toNat (bu (jj p y r.toNat k - bj y r.toNat 0*κ (dW p r (oI p k))))=ig p f y r.toNat (k+1).toNat:=hset;rw[hen];simp only[eC];rw[afC,hel];refine⟨rfl,k0,?_,rfl,?_,?_,⟨gy,gc⟩,⟨gx,gm⟩,rfl,k0,?_,rfl,?_,?_,⟨?_,rP rfl⟩,?_,?_⟩<;>omega
   ·rw[if_neg h2] at hbs;refine⟨?_,⟨?_,rP (Lm k0 (.inl h3))⟩,?_,?_⟩<;>omega
  ·have hk2:k.toNat=f.length:=by omega
   rw[hk2,UU] at hbd ⊢;have gb:cC (bu (κ (dj p r - cT p ((bD f 1).map (oI p)) r))):=dP (rN (W:=dj p r - cT p ((bD f 1).map (oI p)) r) (by omega) (by omega)) (by omega);have gs:cC (bu (kU p f y r.toNat)):=dP (afx hc hl hy (by omega)) (by omega);have gm:cC (bu (bj y r.toNat 0*κ (dj p r - cT p ((bD f 1).map (oI p)) r))):=dP (uA hys (rN (W:=dj p r - cT p ((bD f 1).map (oI p)) r) (by omega) (by omega))) (by omega);refine⟨by omega,⟨gy,gb⟩,⟨gs,gm⟩,by omega,⟨wG ?_,rP ?_⟩,by omega,by omega⟩;·rw[hrt,US,hrr]
   ·rw[hrt,hl];exact afp
 ·have hr2:r.toNat=mF p:=by omega
  rw[hr2];refine⟨⟨⟨wG UX.symm,rP rfl⟩,by omega,by omega⟩,?_⟩;rintro i ⟨i0,i1⟩;refine⟨λhi=>?_,λhi=>?_⟩
  ·have hs:=@UY p f y i i0;refine⟨i0,hi,by omega,λh0=>?_,λh0=>?_⟩
   ·have hen:=@yV p f y (mF p) 0 i.toNat (by omega) sF.dflt;have he0:oK p f y (mF p) 0 i=jj p y (mF p) i:=by
     unfold oK;rw[if_pos h0,if_neg (show ¬i<((0:Nat):Int) by omega)]
    rw[show((i.toNat:Nat):Int)=i by omega,he0] at hen;have gx:cC (bu (jj p y (mF p) i)):=dP (U7 hc hy (ξ _) ⟨i0,by omega⟩) (by omega);have gs:cC (bu (jk p f y i.toNat)):=dP (U8 hc hl hy (by omega)) (by omega);rw[hen,hel];simp only[eC];refine⟨trivial,i0,by omega,trivial,by omega,gx,λh1=>⟨trivial,i0,by omega,trivial,by omega,⟨gs,gx⟩,by omega,wG ?_,by omega,by omega⟩,λh1=>⟨by omega,wG ?_,by omega,by omega⟩⟩;·rw[hs,if_pos ⟨h0,uD.1 h1⟩]
    ·rw[hs,if_neg (λh=>h1 (uD.2 h.2))];exact(ζK _).symm
   ·refine⟨by omega,wG ?_,by omega,by omega⟩;rw[hs,if_neg (λh=>h0 h.1)];exact(ζK _).symm
  ·rw[show i.toNat=f.length by omega];first|exact rfl|exact⟨rfl,rfl⟩|exact⟨rfl,trivial⟩
def Ls:bM:=⟨208,di×bn×Int×List Int,.cons (eh bE) (.cons dK (.cons (eZ .i64) (.one (dF (.i .i64))))),λa=>wF a.2.1 a.2.2.2 a.1.2.2.2.2/\ -9223372036854775808<=a.2.2.1/\a.2.2.1<=9223372036854775807,
 λa=> .sb (posB a.1.2.2.2.2&&decide (jk a.2.1 a.2.2.2 (vL a.1.2.2.2.2) a.2.2.2.length<κ a.2.2.1+1))⟩
theorem h492:Holds Tryz.prog Ls:=by
 refine cF (L:=[Lr,oC,wq,yq]) Ls lk (by grind[h494,h94,h129,h97]) ?_;rintro⟨⟨k,o,a,b,x⟩,p,v,f⟩ ⟨c,i,g⟩;simp only at c i g;have d:=c;obtain⟨⟨H,J,M⟩,y,K,I,G⟩:=d;have C:=U8 H J G (ξ f.length);have q:vL x=y:=by rw[K,kN]
 rw[<-q] at C;have F:(κ 1:Rat)=1:=rfl;have s:Sz 2 (κ v:Rat):=rN i g;have t:Sz 2 (1:Rat):=rN (W:=1) (by omega) (by omega);refine bO (let a:=(-9223372036854775808:Int);let b:=(9223372036854775807:Int);let c:=(1:Int);let d:=(0:Int);let j:=jk p f (vL x) f.length;let n:=bu (κ v);let D:=(n.fst,n.snd.fst,n.snd.snd);let r:=bu (κ c);let A:=(r.fst,r.snd.fst,r.snd.snd);let z:=(if posB x=true then(bu j).fst else false,if posB x=true then(bu j).snd.fst else[],if posB x=true then(bu j).snd.snd else[]);let l:=bu (bV D+bV A);let E:=(l.fst,l.snd.fst,l.snd.snd);let B:=λ(u:SV) ↦u.same (γv (posB x&&decide (j<κ v+(1:Rat))));let w:=λ(u:Bool) ↦decide ((if posB x=true then d else(4:Int))=d)=u;wF p f x/\(a<=v/\v<=b)/\(a<=c/\c<=b)/\(cC D/\cC A)/\(w true->(cC z/\cC E)/\B (γv (decide (iU (bV z) (bV E)<d))))/\(w false->B (δc false))) (by kernel_rfl) ?_;simp only[jM,eC,F];by_cases m:posB x=true
 ·simp only[m,if_true,Bool.true_and,jM,eC];refine⟨c,⟨i,g⟩,by omega,⟨dP s (by omega),dP t (by omega)⟩,λ_=>⟨⟨dP C (by omega),dP (A0 s t) (by omega)⟩,?_⟩,λh=>by cases h⟩;have e:decide (iU (jk p f (vL x) f.length) (κ v+1)<0)=decide (jk p f (vL x) f.length<κ v+1):=decide_eq_decide.2 s7;rw[e];rfl
 ·have m:posB x=false:=by simp_all
  simp only[m,χ,if_false,Bool.false_and];exact⟨c,⟨i,g⟩,by omega,⟨dP s (by omega),dP t (by omega)⟩,(λh=>by cases h),λ_=>rfl⟩
def Lt:bM:=⟨214,di×bn×Int×List Int,.cons (eh bE) (.cons dK (.cons (eZ .i64) (.one (dF (.i .i64))))),λa=>0<=a.1.2.1,λa=> .sb (decide (a.1.2.1<a.2.2.2.length)&&decide (bj a.2.2.2 a.1.2.1.toNat 0=0))⟩
theorem h498:Holds Tryz.prog Lt:=by
 refine cF (L:=[]) Lt lk (by simp) ?_;rintro⟨⟨k,o,a,b,x⟩,p,v,f⟩ (e:0<=o);refine bO (let a:=(0:Int);let c:=decide (o<(↑f.length:Int));let d:=λ(u:SV) ↦u.same (γv (decide (o<(↑f.length:Int))&&decide (bj f o.toNat a=a)));(c=true->a<=o/\o<(↑f.length:Int)/\o.toNat<f.length/\d (γv (decide (bj f o.toNat a=a))))/\(c=false->d (δc false))) (by kernel_rfl) ?_;simp_all[decide_eq_false]
def Lu:bM:=⟨218,di×bn×Int×List Int,.cons (eh bE) (.cons dK (.cons (eZ .i64) (.one (dF (.i .i64))))),λa=>a.2.2.2.length<=1000000,λa=> .sb (decide (dh a.2.1 (bD a.2.2.2 1)≠0))⟩
def afD (n:di) (p:bn) (f:List Int):Nat->cE
 |3=> .inv Int (λi=>⟨[(5,.ptr 1 0 20),(9,.ow 2 (bD (f.take i.toNat) 1).length 1),(12,.row (.i .i64) f),(13,.si .i64 f.length),(14,.si .i64 i)],[.cells (encS bE n) 206 5 false,.cells p.ss 27 20 false,.row (.i .i64) (bD (f.take i.toNat) 1) 3 true]⟩)
   (λs=>iS s 14) (λi=>0<=i/\i<=f.length) (λi=>(f.length - i).toNat) λ_ _=> .look
 |_=> .look
theorem h502:Holds Tryz.prog Lu:=by
 refine cF (L:=[xN]) Lu (λa=>afD a.1 a.2.1 a.2.2.2) (by simpa using h100) ?_;rintro⟨⟨k,o,a,b,x⟩,p,v,f⟩ (hl:f.length<=1000000);refine bO (let c:=γh .i64;let d:=(0:Int);let e:=(1:Int);let g:=bq.row;let h:=Ψ;let j:=γZ;let r:=γO 1 0 20;let m:=bp.i .i64;let n:=(↑f.length:Int);let v:=c n;let s:=bq.cells [c k,c o,c a,c b,h sF x] 206 5 false;let t:=bq.cells [c p.supply.a0,c p.supply.a1,c p.supply.a2,c p.supply.a3,c p.supply.a4,c p.supply.a5,c p.opn.a0,c p.opn.a1,c p.opn.a2,c p.opn.a3,c p.opn.a4,c p.opn.a5,c p.cls.a0,c p.cls.a1,c p.cls.a2,c p.cls.a3,c p.cls.a4,c p.cls.a5,h m p.classes,h bp.off p.offers] 27 20 false;(((r.same r/\(j 2 0 1).same (j 2 (bD [] e).length 1)/\(h m f).same (h m f)/\(c (↑f.length:Int)).same v/\(γx .i64 0).same (c 0)/\True)/\s.same s/\t.same t/\(g m [] 3 true).same (g m (bD [] e) 3 true)/\True)/\d<=d/\d<=n)/\∀(x_1:Int),let q:=x_1+e;let w:=bD (Δ q.toNat f) e;let y:=c q;let z:=decide (bj f x_1.toNat d=e);let l:=bD (Δ x_1.toNat f) e;let A:=l.length+1;let B:=λ(u:Nat) (u_1:bq) ↦cq .i64 q/\((r.same r/\(j 2 u 1).same (j 2 w.length 1)/\(h m f).same (h m f)/\v.same v/\y.same y/\True)/\s.same s/\t.same t/\u_1.same (g m w 3 true)/\True)/\(d<=q/\q<=n)/\(n - q).toNat<(n - x_1).toNat;d<=x_1/\x_1<=n->(decide (x_1<n)=true->d<=x_1/\x_1<(↑f.length:Int)/\x_1.toNat<f.length/\(z=true->l.length=l.length/\A*8<=140737488355328/\A<=1000000000000/\B (l++[x_1]).length (g m (l++[x_1]) 3 true))/\(z=false->B l.length (g m l 3 true)))/\(decide (x_1<n)=false->l.length=l.length/\l.length<=9223372036854775807/\(γv (decide (dh p l≠d))).same (γv (decide (dh p (bD f e)≠d))))) (by kernel_rfl) ?_;simp only[vcs];have how:∀{x y:Nat},x=y->(γZ 2 x 1).same (γZ 2 y 1):=by rintro _ _ rfl;rfl
 have hrow:∀{x y:List Int},x=y->(bq.row (.i .i64) x 3 true).same (bq.row (.i .i64) y 3 true):=by rintro _ _ rfl;rfl
 refine⟨⟨⟨how rfl,hrow rfl⟩,by omega,by omega⟩,?_⟩;rintro i ⟨i0,i1⟩;have hd:=@uH (f.take i.toNat) 1;rw[γu] at hd;refine⟨λhi=>?_,λhi=>?_⟩
 ·have hs:=Bd (d:=1) i0 hi;refine⟨i0,hi,by omega,λh1=>?_,λh1=>?_⟩
  ·rw[if_pos h1] at hs;rw[hs];refine⟨?_,?_,?_,⟨how rfl,hrow rfl⟩,?_,?_⟩<;>omega
  ·rw[if_neg h1,γ1] at hs;rw[hs];refine⟨?_,⟨how rfl,hrow rfl⟩,?_,?_⟩<;>omega
 ·rw[show f.take i.toNat=f by rw[show i.toNat=f.length by omega,ψ]] at hd ⊢;exact⟨by omega,rfl⟩
def Lx:bM:=⟨222,Unit×bn×Int×List Int,.cons K6 (.cons dK (.cons (eZ .i64) (.one (dF (.i .i64))))),λ_=>True,λ_=> .sb false⟩
theorem h506:Holds Tryz.prog Lx:=by
 refine cF (L:=[]) Lx lk (by simp) ?_;rintro⟨_,p,v,f⟩ _;refine bO ((δc false).same (γv false)) (by kernel_rfl) ?_;rfl
@[reducible] def rQ:bp:=.pair (.i .i64) .b
def eT (t:List di):Nat->List (Int×Bool)
 |0=>δ t.length (0,false)
 |i+1=>if(bj t i bE.dflt).1=2 then((eT t i).set (bj t i bE.dflt).2.2.1.toNat ((i:Int),false)).set (bj t i bE.dflt).2.2.2.1.toNat ((i:Int),true) else eT t i
def oL (t:List di) (u:List (Int×Bool)) (k:Int) (f:List Int):List Int:=
 if(bj t (bj u k.toNat (0,false)).1.toNat bE.dflt).2.1<f.length then f.set (bj t (bj u k.toNat (0,false)).1.toNat bE.dflt).2.1.toNat (if(bj u k.toNat (0,false)).2 then 1 else -1) else f
def iE (t:List di) (u:List (Int×Bool)):Nat->Int->List Int->List Int
 |0,_,f=>f
 |m+1,k,f=>if 0<k then iE t u m (bj u k.toNat (0,false)).1 (oL t u k f) else f
def iY (p:bn) (t:List di) (i:Nat):List Int:=iE t (eT t i) i i (δ p.offers.length 0)
def rR (p:bn) (v:Int) (f:List Int) (n:di):Bool:=
 if n.1=1 then posB n.2.2.2.2&&decide (jk p f (vL n.2.2.2.2) f.length<κ v+1) else if n.1=2 then decide (n.2.1<f.length)&&decide (bj f n.2.1.toNat 0=0) else if n.1=3 then decide (dh p (bD f 1)≠0) else false
def rT (p:bn) (v:Int) (t:List di):Bool:=(ω t.length).all λi=>rR p v (iY p t i) (bj t i bE.dflt)
def Ly (t:List di) (u:List (Int×Bool)):Prop:=u.length=t.length/\∀k,k<t.length->0<=(bj u k (0,false)).1/\(0<k->(bj u k (0,false)).1<k)
def LA (p:bn) (v:Int) (t:List di):Prop:=(bz p=0/\dT t=true)/\(-9223372036854775808<=v/\v<=9223372036854775807)/\∀i,i<t.length->(bj t i bE.dflt).1=1->wF p (iY p t i) (bj t i bE.dflt).2.2.2.2
theorem U9 {t:List di} {u:List (Int×Bool)} {k:Int} {f:List Int}:(oL t u k f).length=f.length:=by
 grind[oL]
theorem Va {t:List di} {u:List (Int×Bool)}:∀{m:Nat} {k:Int} {f:List Int},(iE t u m k f).length=f.length
 |0,_,_=>rfl
 |m+1,k,f=>by
  unfold iE;split;·rw[Va,U9]
  ·rfl
theorem LC {t:List di} {u:List (Int×Bool)} (a:Ly t u):∀{m:Nat} {k:Int} {f:List Int},0<=k->k<t.length->k<=m->iE t u m k f=iE t u k.toNat k f
 |0,k,f,g,d,e=>by grind;|m+1,k,f,g,d,e=>by
  by_cases c:0<k
  ·have b:=a.2 k.toNat (by omega);have h:=b.2 (by omega);rw[show k.toNat=(k.toNat - 1)+1 by omega];unfold iE;rw[if_pos c,if_pos c,LC a b.1 (by omega) (by omega)];exact(LC a b.1 (by omega) (by omega)).symm
  ·rw[show k=0 by omega];rfl
theorem Vb {t:List di} {u:List (Int×Bool)} (b:Ly t u) {k:Int} {f:List Int} (a:0<k) (e:k<t.length):iE t u k.toNat k f=iE t u (bj u k.toNat (0,false)).1.toNat (bj u k.toNat (0,false)).1 (oL t u k f):=by
 have c:=b.2 k.toNat (by omega);have d:=c.2 (by omega);rw[show iE t u k.toNat k f=iE t u ((k.toNat - 1)+1) k f by grind];conv=>lhs;unfold iE
 rw[if_pos a];grind[LC]
theorem s9 {t:List di}:∀{i:Nat},(eT t i).length=t.length
 |0=>by simp[eT];|i+1=>by
  unfold eT;split;·rw[Φ,Φ,s9]
  ·exact s9
theorem LD {t:List di} (h:dT t=true) {i:Nat} (c:i<t.length):0<=(bj t i bE.dflt).2.1/\((bj t i bE.dflt).1=2->((i:Int)<(bj t i bE.dflt).2.2.1/\(bj t i bE.dflt).2.2.1<t.length)/\((i:Int)<(bj t i bE.dflt).2.2.2.1/\(bj t i bE.dflt).2.2.2.1<t.length)):=by
 unfold dT at h;simp only[θ,φ,γy] at h;have b:=h.2.1 i c;unfold kT at b;simp only[θ] at b;obtain⟨a,d⟩:=b;refine⟨?_,λe=>?_⟩
 ·unfold s8 at a;split at a;·simp_all[wf1,rM]
  ·split at a;all_goals simp_all[wf2,oJ,uJ,rM]
 simp_all[jA,uK]
theorem LG {t:List di} (h:dT t=true):∀{i:Nat},i<=t.length->Ly t (eT t i)
 |0,_=>⟨s9,λk a=>by
   grind[eT,cY]⟩
 |i+1,g=>⟨s9,λk a=>by
   have b:=(LG h (i:=i) (by omega)).2 k a;unfold eT;split
   ·rename_i c;obtain⟨⟨j,f⟩,d,e⟩:=(LD h (i:=i) (by omega)).2 c;grind[s9,iT]
   ·exact b⟩
def LH:bM:=⟨62,bn×Int×List di,.cons dK (.cons (eZ .i64) (.one (dF bE))),λa=>LA a.1 a.2.1 a.2.2,λa=> .si .i64 (if rT a.1 a.2.1 a.2.2 then 0 else 13)⟩
noncomputable def afE (p:bn) (v:Int) (t:List di):Nat->cE
 |3=> .inv Int (λi=>⟨[(1,.si .i64 v),(2,.row bE t),(3,.ptr 0 0 20),(7,.ow 1 t.length 2),(16,.row bE t),(17,.si .i64 t.length),(18,.si .i64 i)],[.cells p.ss 27 20 false,.row rQ (eT t i.toNat) 159 true]⟩)
   (λs=>iS s 18) (λi=>0<=i/\i<=t.length/\∀j:Nat,j<i->rR p v (iY p t j) (bj t j bE.dflt)=true) (λi=>(t.length - i).toNat) λi k=>match k with
   |7=> .inv (Int×List Int) (λx=>⟨[(1,.si .i64 v),(2,.row bE t),(3,.ptr 0 0 20),(7,.ow 1 t.length 2),(8,.si .i64 i),(9,.ptr 2 0 5),(10,.ow 3 p.offers.length 1),(11,.si .i64 x.1),(16,.row bE t),(17,.si .i64 t.length),(18,.si .i64 i)],
      [.cells p.ss 27 20 false,.row rQ (eT t i.toNat) 159 true,.cells (encS bE (bj t i.toNat bE.dflt)) 108 5 false,.row (.i .i64) x.2 3 true]⟩)
     (λs=>(iS s 11,oS (.i .i64) s 3)) (λx=>(0<=x.1/\x.1<=i)/\x.2.length=p.offers.length/\iE t (eT t i.toNat) x.1.toNat x.1 x.2=iY p t i.toNat) (λx=>x.1.toNat) λ_ _=> .look
   |_=> .look
 |_=> .look
theorem h481:Holds Tryz.prog LH:=by
 refine cF (L:=[EZ,Ls,Lt,Lu,Lx]) LH (λa=>afE a.1 a.2.1 a.2.2) (by simpa using⟨h485,h492,h498,h502,h506⟩) ?_;rintro⟨p,v,t⟩ ⟨⟨hc,ht⟩,⟨v0,v1⟩,hb⟩;simp only at hc ht v0 v1 hb;refine bO (let a:=γh .i64;let c:=(0:Int);let d:=Ψ;let e:=bq.row;let f:=γx .i64;let g:=(140737488355328:Int);let h:=(1000000000000:Int);let k:=(1:Int);let l:=γZ;let o:=(↑t.length:Int);let w:=γO 0 0 20;let C:=l 1 t.length 2;let y:=(↑t.length:Int);let D:=a y;let a9:=f 0;let K:=bp.i .i64;let q:=bq.cells [a p.supply.a0,a p.supply.a1,a p.supply.a2,a p.supply.a3,a p.supply.a4,a p.supply.a5,a p.opn.a0,a p.opn.a1,a p.opn.a2,a p.opn.a3,a p.opn.a4,a p.opn.a5,a p.cls.a0,a p.cls.a1,a p.cls.a2,a p.cls.a3,a p.cls.a4,a p.cls.a5,d K p.classes,d bp.off p.offers] 27 20 false;let E:=(↑p.offers.length:Int);let S:=γO 2 0 5;let n:=p.offers.length;let Z:=l 3 n 1;let a6:=δ E.toNat c;let aa:=e K a6 3 true;let L:=a (if rT p v t=true then c else(13:Int));c<=o/\o<=o/\o*(16:Int)<=g/\o<=h/\((((a v).same (a v)/\(d bE t).same (d bE t)/\w.same w/\(l 1 o.toNat 2).same C/\(d bE t).same (d bE t)/\(a o).same D/\a9.same (a 0)/\True)/\q.same q/\(e (K.pair bp.b) (δ o.toNat (c,false)) 159 true).same (e rQ (eT t 0) 159 true)/\True)/\c<=c/\c<=y/\∀(j:Nat),(↑j:Int)<c->rR p v (iY p t j) (bj t j bE.dflt)=true)/\∀(x:Int),let z:=eT t x.toNat;let F:=e rQ z 159 true;let s:=bj t x.toNat bE.dflt;let T:=s.snd.fst;let M:=s.snd.snd.fst;let N:=s.snd.snd.snd.fst;let U:=s.snd.snd.snd.snd;let H:=bq.cells [a s.fst,a T,a M,a N,d sF U] 108 5 false;let V:=iY p t x.toNat;let m:=z.length;let O:=(↑m:Int);let ab:=decide (s.fst=k);let ac:=decide (s.fst=(2:Int));let P:=z.set (ζq M) (x,false);let G:=x+k;let ad:=a G;let ar:=e rQ (eT t G.toNat) 159 true;let ae:=decide (s.fst=(2:Int));let af:=decide (s.fst=(3:Int));(c<=x/\x<=y/\∀(j:Nat),(↑j:Int)<x->rR p v (iY p t j) (bj t j bE.dflt)=true)->(decide (x<y)=true->c<=x/\x<o/\x.toNat<t.length/\c<=E/\E<=E/\E*(8:Int)<=g/\E<=h/\((((a v).same (a v)/\(d bE t).same (d bE t)/\w.same w/\C.same C/\(a x).same (a x)/\S.same S/\(l 3 E.toNat 1).same Z/\(a x).same (a x)/\(d bE t).same (d bE t)/\D.same D/\(a x).same (a x)/\True)/\q.same q/\F.same F/\H.same H/\aa.same aa/\True)/\(c<=x/\x<=x)/\a6.length=n/\iE t z x.toNat x a6=V)/\∀(x_1:Int×List Int),let W:=a x;let A:=x_1.fst.toNat;let a7:=bj z A rQ.dflt;let r:=a7.fst;let ag:=a r;let I:=ζq r;let J:=(bj t I bE.dflt).snd.fst;let X:=ζq J;let Q:=x_1.snd.length;let ah:=decide (c<x_1.fst);let B:=x_1.snd.length;let R:=x_1.snd.set X (-1:Int);let ai:=e K x_1.snd 3 true;let Y:=let aj:=λ(u:bq) ↦cq .i64 G/\(((a v).same (a v)/\(d bE t).same (d bE t)/\w.same w/\C.same C/\(d bE t).same (d bE t)/\D.same D/\ad.same ad/\True)/\q.same q/\u.same ar/\True)/\(c<=G/\G<=y/\∀(j:Nat),(↑j:Int)<G->rR p v (iY p t j) (bj t j bE.dflt)=true)/\(y - G).toNat<(y - x).toNat;(ac=true->t.length=m/\c<=M/\M<O/\t.length=m/\ζq M<m/\t.length=P.length/\c<=N/\N<(↑P.length:Int)/\t.length=P.length/\ζq N<P.length/\aj (e rQ (P.set (ζq N) (x,true)) 159 true))/\(ac=false->aj F);let ak:=(a v).same (a v)/\(d bE t).same (d bE t)/\w.same w/\C.same C/\W.same W/\S.same S/\Z.same Z/\ag.same ag/\(d bE t).same (d bE t)/\D.same D/\W.same W/\True;let al:=λ(u:List Int) (u_1:Int) ↦let a8:=u.set X u_1;let am:=e K a8 3 true;t.length=m/\c<=x_1.fst/\x_1.fst<O/\t.length=m/\A<m/\(ak/\q.same q/\F.same F/\H.same H/\am.same am/\True)/\((c<=r/\r<=x)/\a8.length=n/\iE t z I r a8=V)/\I<A;let an:=λ(u:Bool) ↦(!(posB U&&decide (jk p x_1.snd (vL U) Q<κ v+(1:Rat))))=u;let ao:=λ(u:Bool) ↦(!(decide (T<(↑Q:Int))&&decide (bj x_1.snd (ζq T) 0=c)))=u;let ap:=λ(u:Bool) ↦(!decide (dh p (bD x_1.snd k)≠c))=u;let aq:=λ(u:Bool) ↦decide (J<(↑n:Int))=u;(c<=x_1.fst/\x_1.fst<=x)/\Q=n/\iE t z A x_1.fst x_1.snd=V->(ah=true->t.length=m/\c<=x_1.fst/\x_1.fst<O/\t.length=m/\A<m/\c<=r/\r<o/\I<t.length/\(aq true->n=B/\c<=J/\J<(↑B:Int)/\n=B/\X<B/\t.length=m/\c<=x_1.fst/\x_1.fst<O/\t.length=m/\A<m/\(a7.snd=true->n=R.length/\c<=J/\J<(↑R.length:Int)/\n=R.length/\X<R.length/\al R k)/\(a7.snd=false->al x_1.snd (-1:Int)))/\(aq false->t.length=m/\c<=x_1.fst/\x_1.fst<O/\t.length=m/\A<m/\(ak/\q.same q/\F.same F/\H.same H/\ai.same ai/\True)/\((c<=r/\r<=x)/\Q=n/\iE t z I r x_1.snd=V)/\I<A))/\(ah=false->True/\(ab=true->n=B/\(wF p x_1.snd U/\(-9223372036854775808:Int)<=v/\v<=(9223372036854775807:Int))/\(an true->(f 13).same L)/\(an false->Y))/\(ab=false->(ae=true->n=B/\c<=T/\(ao true->(f 13).same L)/\(ao false->Y))/\(ae=false->(af=true->n=B/\Q<=1000000/\(ap true->(f 13).same L)/\(ap false->Y))/\(af=false->n=B/\True/\(true=true->(f 13).same L)/\(true=false->Y))))))/\(decide (x<y)=false->a9.same L)) (by kernel_rfl) ?_;simp only[vcs];have h160:=(dQ hc).2.1;have htn:1<=t.length/\t.length<=65536:=by
  unfold dT at ht;simp only[θ,decide_eq_true_eq] at ht;exact ht.1
 have hw:∀i,t.length=(eT t i).length:=λi=>s9.symm;have how:∀{x y:Nat},x=y->(γZ 1 x 2).same (γZ 1 y 2):=by rintro _ _ rfl;rfl
 have hof:∀{x y:Nat},x=y->(γZ 3 x 1).same (γZ 3 y 1):=by rintro _ _ rfl;rfl
 have hrow:∀{x y:List (Int×Bool)},x=y->(bq.row rQ x 159 true).same (bq.row rQ y 159 true):=by rintro _ _ rfl;rfl
 have hd:(rQ.dflt:Int×Bool)=(0,false):=rfl;simp only[γl,hd];refine⟨by omega,by omega,by omega,by omega,⟨⟨how rfl,hrow rfl⟩,by omega,by omega,λj hj=>by omega⟩,?_⟩;rintro i ⟨i0,i1,hall⟩;refine⟨λhi=>?_,λhi=>?_⟩
 ·have hu:=LG ht (i:=i.toNat) (by omega);have hlu:=@s9 t i.toNat;have hno:=LD ht (i:=i.toNat) (by omega);refine⟨i0,hi,by omega,by omega,by omega,by omega,by omega,⟨hof rfl,⟨i0,Int.le_refl _⟩,List.length_replicate,?_⟩,?_⟩
  ·unfold iY;rw[show((i.toNat:Nat):Int)=i by omega]
  rintro⟨k,f⟩ ⟨⟨k0,k1⟩,hfl,hfx⟩;simp only at k0 k1 hfl hfx ⊢;refine⟨λhk=>?_,λhk=>?_⟩
  ·have q:=hu.2 k.toNat (by omega);have q1:=q.2 (by omega);have ho:=(LD ht (i:=(bj (eT t i.toNat) k.toNat (0,false)).1.toNat) (by omega)).1;have hs:=@Vb t (eT t i.toNat) hu k f hk (by omega);rw[hfx] at hs;unfold oL at hs;rw[hfl] at hs;have qq:=q.1;clear q;generalize bj (eT t i.toNat) k.toNat (0,false)=s at qq q1 ho hs ⊢;generalize (bj t s.1.toNat bE.dflt).2.1=o at ho hs ⊢;refine⟨hw _,k0,by omega,hw _,by omega,qq,by omega,by omega,λh=>?_,λh=>?_⟩
   ·rw[if_pos h] at hs;have l1:(f.set o.toNat (-1)).length=p.offers.length:=by rw[Φ,hfl]
    refine⟨by omega,ho,by omega,by omega,by omega,hw _,k0,by omega,hw _,by omega,λh2=>?_,λh2=>?_⟩
    ·rw[if_pos h2] at hs;exact⟨by omega,ho,by omega,by omega,by omega,hw _,k0,by omega,hw _,by omega,⟨⟨qq,by omega⟩,by rw[Φ];exact l1,by rw[List.set_set];exact hs.symm⟩,by omega⟩
    ·rw[if_neg (by rw[h2];exact Bool.false_ne_true)] at hs;refine⟨hw _,k0,?_,hw _,?_,⟨⟨qq,?_⟩,l1,hs.symm⟩,?_⟩<;>omega
   ·rw[if_neg h] at hs;refine⟨hw _,k0,?_,hw _,?_,⟨⟨qq,?_⟩,hfl,hs.symm⟩,?_⟩<;>omega
  ·have hk0:k=0:=by omega
   have hf:f=iY p t i.toNat:=by rw[<-hfx,hk0];rfl
   have hbi:=hb i.toNat (by omega);rw[<-hf] at hbi;have no:rR p v f (bj t i.toNat bE.dflt)=false->(13:Int)=if rT p v t=true then 0 else 13:=λh=>by
    have:rT p v t=false:=by
     unfold rT;rw[δH];intro ha;have:=φ.1 ha i.toNat (γy.2 (by omega));rw[<-hf,h] at this;cases this
    rw[this];rfl
   have next:rR p v f (bj t i.toNat bE.dflt)=true->∀j:Nat,(j:Int)<i+1->rR p v (iY p t j) (bj t j bE.dflt)=true:=λh j hj=>by
    by_cases h2:(j:Int)<i;·exact hall j h2
    ·rw[show j=i.toNat by omega,<-hf];exact h
   have hup:eT t (i+1).toNat=if(bj t i.toNat bE.dflt).1=2 then((eT t i.toNat).set (bj t i.toNat bE.dflt).2.2.1.toNat (i,false)).set (bj t i.toNat bE.dflt).2.2.2.1.toNat (i,true) else eT t i.toNat:=by
    rw[show(i+1).toNat=i.toNat+1 by omega];conv=>lhs;unfold eT
    rw[show((i.toNat:Nat):Int)=i by omega]
   rw[hup];unfold rR at no next;have hsl:∀(j:Nat) (z:Int×Bool),((eT t i.toNat).set j z).length=t.length:=λj z=>by rw[Φ,hlu]
   generalize bj t i.toNat bE.dflt=n at no next hno hbi ⊢;refine⟨λh1=>⟨hfl.symm,⟨hbi h1,v0,v1⟩,λh=>no (by rw[if_pos h1];exact h),λh=>?_⟩,λh1=>⟨λh3=>⟨hfl.symm,hno.1,λh=>no (by rw[if_neg h1,if_pos h3];exact h),λh=>?_⟩,λh3=>⟨λh4=>⟨hfl.symm,by omega,λh=>no (by rw[if_neg h1,if_neg h3,if_pos h4];exact decide_eq_false h),λh=>?_⟩,λh4=>?_⟩⟩⟩;·exact⟨λh2=>by
      obtain⟨⟨a1,a2⟩,b1,b2⟩:=hno.2 h2;have s1:=hsl n.2.2.1.toNat (i,false);exact⟨hw _,by omega,by omega,hw _,by omega,s1.symm,by omega,by omega,s1.symm,by omega,by omega,hrow (if_pos h2).symm,⟨by omega,by omega,next (by rw[if_pos h1,h.1,decide_eq_true h.2];rfl)⟩,by omega⟩,λh2=>⟨by omega,hrow (if_neg h2).symm,⟨by omega,by omega,next (by rw[if_pos h1,h.1,decide_eq_true h.2];rfl)⟩,by omega⟩⟩
   ·exact⟨λh2=>by
      obtain⟨⟨a1,a2⟩,b1,b2⟩:=hno.2 h2;have s1:=hsl n.2.2.1.toNat (i,false);exact⟨hw _,by omega,by omega,hw _,by omega,s1.symm,by omega,by omega,s1.symm,by omega,by omega,hrow (if_pos h2).symm,⟨by omega,by omega,next (by rw[if_neg h1,if_pos h3,decide_eq_true h.1,decide_eq_true h.2];rfl)⟩,by omega⟩,λh2=>⟨by omega,hrow (if_neg h2).symm,⟨by omega,by omega,next (by rw[if_neg h1,if_pos h3,decide_eq_true h.1,decide_eq_true h.2];rfl)⟩,by omega⟩⟩
   ·exact⟨λh2=>by
      obtain⟨⟨a1,a2⟩,b1,b2⟩:=hno.2 h2;have s1:=hsl n.2.2.1.toNat (i,false);exact⟨hw _,by omega,by omega,hw _,by omega,s1.symm,by omega,by omega,s1.symm,by omega,by omega,hrow (if_pos h2).symm,⟨by omega,by omega,next (by rw[if_neg h1,if_neg h3,if_pos h4];exact decide_eq_true h)⟩,by omega⟩,λh2=>⟨by omega,hrow (if_neg h2).symm,⟨by omega,by omega,next (by rw[if_neg h1,if_neg h3,if_pos h4];exact decide_eq_true h)⟩,by omega⟩⟩
   ·have:=no (by rw[if_neg h1,if_neg h3,if_neg h4]);exact⟨hfl.symm,λ_=>this,λh=>by cases h⟩
 ·have:rT p v t=true:=φ.2 λj hj=>hall j (by have:=γy.1 hj;omega);rw[this];rfl
def my (p:bn) (n:di):Bool:=!(decide (n.1=1)&&decide ((n.2.2.2.2.length:Int)≠de p))
def uL (p:bn) (v:Int) (t:List di):Int:=
 if bz p≠0 then bz p else if t.length=0 then 1 else if 65536<t.length then 3 else if dT t=false then 2 else if t.all (my p)=false then 2 else if rT p v t=true then 0 else 13
def wH (p:bn) (v:Int) (t:List di):Prop:=(∀n∈t,∀x∈n.2.2.2.2,iW x)/\t.length<=1000000000000/\(bz p=0->dT t=true->t.all (my p)=true->LA p v t)
def LI:bM:=⟨39,bn×Int×List di,.cons dK (.cons (eZ .i64) (.one (dF bE))),λa=>wH a.1 a.2.1 a.2.2,λa=> .si .i64 (uL a.1 a.2.1 a.2.2)⟩
def afG (p:bn) (v:Int) (t:List di):Nat->cE
 |12=> .inv Int (λi=>⟨[(1,.si .i64 v),(2,.row bE t),(3,.ptr 0 0 20),(8,.si .i64 (de p)),(30,.row bE t),(31,.si .i64 t.length),(32,.si .i64 i)],[.cells p.ss 27 20 false]⟩)
   (λs=>iS s 32) (λi=>0<=i/\i<=t.length/\∀j:Nat,j<i->my p (bj t j bE.dflt)=true) (λi=>(t.length - i).toNat) λ_ _=> .look
 |_=> .look
theorem h473:Holds Tryz.prog LI:=by
 refine cF (L:=[o7,Lc,ya,LH]) LI (λa=>afG a.1 a.2.1 a.2.2) (by grind[h79,h480,h335,h481]) ?_;rintro⟨p,v,t⟩ ⟨hdg,htl,hok⟩;simp only at hdg htl hok;refine bO (let a:=γh .i64;let b:=(0:Int);let c:=γx .i64;let d:=Ψ;let o:=decide (bz p≠b);let f:=a (uL p v t);let h:=(↑t.length:Int);let q:=decide (h=b);let r:=decide ((65536:Int)<h);let i:=γO 0 0 20;let l:=a (de p);let e:=(↑t.length:Int);let m:=a e;let k:=bq.cells (bn.ss p) 27 20 false;True/\(o=true->(a (bz p)).same f)/\(o=false->(q=true->(c 1).same f)/\(q=false->(r=true->(c 3).same f)/\(r=false->(∀(n:di),n∈t->∀(x:bL),x∈n.snd.snd.snd.snd->iW x)/\((!dT t)=true->(c 2).same f)/\((!dT t)=false->True/\((((a v).same (a v)/\(d bE t).same (d bE t)/\i.same i/\(a (if bz p=b then de p else b)).same l/\(d bE t).same (d bE t)/\(a h).same m/\(c 0).same (a 0)/\True)/\k.same k/\True)/\b<=b/\b<=e/\∀(j:Nat),(↑j:Int)<b->my p (bj t j bE.dflt)=true)/\∀(x:Int),let g:=x+(1:Int);let s:=a g;let w:=bj t x.toNat bE.dflt;let y:=cq .i64 g/\(((a v).same (a v)/\(d bE t).same (d bE t)/\i.same i/\l.same l/\(d bE t).same (d bE t)/\m.same m/\s.same s/\True)/\k.same k/\True)/\(b<=g/\g<=e/\∀(j:Nat),(↑j:Int)<g->my p (bj t j bE.dflt)=true)/\(e - g).toNat<(e - x).toNat;let z:=λ(u:Bool) ↦decide ((↑(γc w.snd.snd.snd.snd):Int)≠de p)=u;let A:=λ(u:Bool) ↦decide (w.fst=(1:Int))=u;(b<=x/\x<=e/\∀(j:Nat),(↑j:Int)<x->my p (bj t j bE.dflt)=true)->(decide (x<e)=true->b<=x/\x<h/\x.toNat<t.length/\(A true->(z true->(c 2).same f)/\(z false->y))/\(A false->y))/\(decide (x<e)=false->LA p v t/\(a (if rT p v t=true then b else(13:Int))).same f)))))) (by kernel_rfl) ?_;simp only[vcs];unfold uL;refine⟨λh=>by rw[if_pos h],λh=>?_⟩;rw[if_neg h];have hc:bz p=0:=γg.1 h;refine⟨λh1=>by omega,λh1=>?_⟩;rw[if_neg (show ¬t.length=0 by omega)];refine⟨λh2=>by omega,λh2=>?_⟩;rw[if_neg (show ¬65536<t.length by omega)];refine⟨hdg,λh3=>by rw[if_pos h3],λh3=>?_⟩;have hnt:¬dT t=false:=by simp_all
 rw[if_neg hnt,if_pos hc];refine⟨⟨rfl,by omega,by omega,λj hj=>by omega⟩,?_⟩;rintro i ⟨i0,i1,hall⟩;refine⟨λhi=>?_,λhi=>?_⟩
 ·have hm:=dr (d:=bE.dflt) (show i.toNat<t.length by omega);have next:my p (bj t i.toNat bE.dflt)=true->∀j:Nat,(j:Int)<i+1->my p (bj t j bE.dflt)=true:=λhr j hj=>by
   grind
  have no:my p (bj t i.toNat bE.dflt)=false->t.all (my p)=false:=λhr=>by
   grind
  refine⟨i0,hi,by omega,λh4=>⟨λh5=>?_,λh5=>⟨by omega,⟨by omega,by omega,next ?_⟩,by omega⟩⟩,λh4=>⟨by omega,⟨by omega,by omega,next ?_⟩,by omega⟩⟩;·simp_all[my]
  all_goals grind[my]
 ·have ha:t.all (my p)=true:=φ.2 λn hn=>by
   obtain⟨j,hj,rfl⟩:=List.getElem_of_mem hn;grind[cY]
  simp_all
@[reducible] def sRs:bp:=.pair (.bF (.i .i64)) (.pair (.i .i64) (.bF bE))
def uM (p:bn) (r:List Int×Int×List di):Int:=if dh p r.1≠0 then dh p r.1 else if ei p r.1≠r.2.1 then 13 else uL p r.2.1 r.2.2
def LJ:bM:=⟨22,bn×List Int×Int×List di,.cons dK (.one (eh sRs)),λa=>a.2.1.length<=1000000000000/\(dh a.1 a.2.1=0->ei a.1 a.2.1=a.2.2.1->wH a.1 a.2.2.1 a.2.2.2),λa=> .si .i64 (uM a.1 a.2)⟩
theorem h474:Holds Tryz.prog LJ:=by
 refine cF (L:=[xN,EP,LI]) LJ lk (by grind[h100,h437,h473]) ?_;rintro⟨p,c,w,t⟩ ⟨g,a⟩;simp only at g a;refine bO (let a:=γh .i64;let d:=decide (dh p c≠(0:Int));let b:=a (uM p (c,w,t));let e:=decide (ei p c≠w);c.length<=9223372036854775807/\(d=true->(a (dh p c)).same b)/\(d=false->(bz p=(0:Int)/\c.length<=9223372036854775807)/\(e=true->(γx .i64 13).same b)/\(e=false->wH p w t/\(a (uL p w t)).same b))) (by kernel_rfl) ?_;simp only[vcs];unfold uM;refine⟨by omega,λh=>by rw[if_pos h],λh=>?_⟩;rw[if_neg h];have f:dh p c=0:=γg.1 h;have i:bz p=0:=by
  unfold dh at f;omega
 grind
theorem afI {p:bn} {f:List Int} {d:Int} (h:f.length=p.offers.length):eM p.offers.length (bD f d):=⟨uG,λi a=>by grind[kP]⟩
theorem yW {a:Type} {l:List a} {i:Nat} {x d:a} (h:l[i]?=some x):bj l i d=x/\i<l.length:=by
 grind[bj]
theorem jg.top {p:bn} {v:Int} {t:List di} {a lo b:Nat} {f:List Int} (h:jg p v t a f lo b):a<t.length/\(lo<b->b<=t.length):=by
 induction h with
 |bnd c _ _=>grind;|con c _=>grind;|@sZ a f lo d b k c _ _ _ g e i j=>
  omega
theorem afJ {p:bn} {f:List Int} (h:j4 p f=true):eV p f:=by
 unfold j4 at h;rw[θ,decide_eq_true_eq] at h;obtain⟨a,b⟩:=h;unfold je at a;split at a;·omega
 ·rename_i d;split at a;·cases a
  ·rename_i c;exact⟨γg.1 d,γg.1 c,b⟩
theorem Vd {p:bn} {f:List Int} (h:j4 p f=true):Sz 1000002 (jf p f):=by
 have a:=afJ h;have c:=@Be p a.1 f f.length a.2.1;rw[ψ] at c;have d:Sz 1 ((gA p f:Int):Rat):=by
  unfold Sz;rw[Rat.num_intCast,Rat.den_intCast];omega
 have b:Sz 1000000 (dy p f).value:=((En a).wu (oD a).1).2.2.2;exact(A0 d b).mono (by omega)
end Go.Vi
