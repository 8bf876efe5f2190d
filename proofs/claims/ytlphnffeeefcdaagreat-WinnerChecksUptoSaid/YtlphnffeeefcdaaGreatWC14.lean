/-
  Plain law: the first best list is found offer by offer.
  Conditions: none.
-/
import Derived.Test.YtlphnffeeefcdaaGreatWC06
import Derived.Test.YtlphnffeeefcdaaGreatWC07
import Derived.Test.YtlphnffeeefcdaaGreatWC08
import Derived.Test.YtlphnffeeefcdaaGreatWC09
import Derived.Test.YtlphnffeeefcdaaGreatWC11
import Derived.Test.YtlphnffeeefcdaaGreatWC10
import Derived.Test.YtlphnffeeefcdaaGreatWC12
import Derived.Test.YtlphnffeeefcdaaGreatWC13
set_option maxRecDepth 100000
set_option maxHeartbeats 4000000
set_option linter.all false
open Bool renaming and_eq_true->θ,false_eq_true->Γ
open Go.Vi.SV renaming si->Ω,sb->γn,row->Δ,bl->γ0,ptr->γU,agg->γF,il->γo,ow->γz,ia->ζW
open Int renaming toNat_natCast->γb
open IntCast renaming intCast->ζ
open List renaming pairwise_cons->γx,mem_cons_of_mem->δt,append_assoc->γ4,cons_append->γC,replicate->δ,filter_eq_nil_iff->δ8,filter_eq_self->εw,mem_map->γf,mem_filter->γJ,length_filter_le->γ8,length_drop->εR,append_nil->γ6,take_length->χ,take->τ,length->Φ,range->Θ,ext_getElem->δc,count_pos_iff->δX,all_eq_true->ξ,mem_range->γp
open List.Perm renaming append_left->ζy
open List.cons renaming injEq->Ξ
open Nat renaming pow_le_pow_right->δu,le_refl->ψ
open Option.some renaming injEq->γ
open Rat renaming add_zero->εN
namespace Go.Vi
theorem Fh {a b c:Alloc} (h:¬mP a b) (k:¬mP b c):¬mP a c:=λd=>by
 grind[Q6,aaI]
theorem U5 {a b:Alloc}:¬mP a (better a b)/\¬mP b (better a b):=by
 unfold better;split
 ·rename_i h;have h:mP a b:=h;grind[DJ,Q6]
 ·rename_i h;exact⟨h,DJ⟩
theorem Bo {p:bz}:∀{k:Nat} {i:Int} {a b:Alloc},¬mP b (lJ p k i a b)
 |0,_,_,b=>by grind[lJ,DJ];|k+1,i,a,b=>by
  simp only[lJ];refine Fh ?_ Bo;split;·exact Fh U5.2 Bo
  ·exact DJ
theorem LK {p:bz} (o:Good p):∀{k:Nat} {i:Int} {a b:Alloc} {t:List Int},0<=i->i+k<=p.offers.length->t≠[]->pe i k t->lH p (a.chosen++t)=true->¬mP ⟨a.chosen++t,a.value+cK (dd p t)⟩ (lJ p k i a b)
 |0,i,a,b,t,_,_,r,c,_=>by
  cases t with
  |nil=>simp_all;|cons j t=>
   have:=c.2 j (by simp);omega
 |k+1,i,a,b,t,y,x,r,c,s=>by
  cases t with
  |nil=>simp_all;|cons j t=>
   have w:=c.2 j (by simp);have u:=γx.1 c.1;simp only[lJ];by_cases n:j=i
   ·subst n;have g:DC p t:=λm l=>by
     have:=c.2 m (by simp[l]);omega
    have d:lH p (a.chosen++[j]++t)=true:=by simp_all
    have q:lH p (a.chosen++[j])=true:=Qx o g d;rw[if_pos q];refine Fh ?_ Bo;rw[sM];simp only[cK];cases t with
    |nil=>
     grind[Fh,Bo,U5,cK,dd,lI];|cons h f=>
     have:=LK o (k:=k) (i:=j+1) (a:=⟨a.chosen++[j],a.value+lI p j⟩) (b:=better ⟨a.chosen++[j],a.value+lI p j⟩ b) (t:=h::f) (by omega) (by omega) (by simp) ⟨u.2,λm l=>by
      have v:=c.2 m (δt _ l);grind⟩ d;have e:(⟨a.chosen++j::h::f,a.value+((bp p.offers j.toNat bw.off.dflt).value+cK (dd p (h::f)))⟩:Alloc)=⟨a.chosen++[j]++h::f,a.value+lI p j+cK (dd p (h::f))⟩:=by
      simp only[Alloc.mk.injEq,γ4,γC,List.nil_append,lI,true_and];omega
     simp_all
   ·exact LK o (by omega) (by omega) (by simp) ⟨c.1,λm l=>by
     have v:=c.2 m l;grind⟩ s
theorem aeX {p:bz} (e:Good p) {t:List Int} (d:rE p t):¬mP ⟨t,cK (dd p t)⟩ (cY p):=by
 rw[Ih];by_cases c:t=[]
 ·subst c;exact Bo
 ·have:=LK e (k:=p.offers.length) (i:=0) (a:=⟨[],0⟩) (b:=⟨[],0⟩) (t:=t) (by omega) (by omega) c d.1 (by simpa[lH] using d.2);simp_all
theorem U6:∀{c a b:List Int},cmpL (c++a) (c++b)=cmpL a b
 |[],_,_=>rfl
 |x::c,a,b=>by
  simp only[γC,cmpL,Int.lt_irrefl,if_false];exact U6
noncomputable def rW (p:bz) (a:Int) (u:jD) (i:Int):jD:=
 if u.value=a then u else if jm p u (oI p i)=true then(if kh (gY p (fp p u i) (i+1).toNat) (a - (fp p u i).value) 65536=true then fp p u i else u) else u
noncomputable def ki (p:bz) (a:Int):Nat->jD
 |0=>⟨p.supply,p.opn,[],0,δ 8 false⟩
 |n+1=>rW p a (ki p a n) n
theorem good_start {p:bz} (d:bH p=0):rV p ⟨p.supply,p.opn,[],0,δ 8 false⟩:=by
 have a:=dR d;refine⟨aaE a,rfl,λk c=>?_,λk c=>?_,rfl,λb f e=>?_⟩
 ·show _=_ - (eh (([]:List Off).map Off.want)).at k;grind[og]
 ·show _=min (_ - (eh (([]:List Off).map (yS p))).at k) _;simp_all[og,wB,min]
 ·show _=decide (b∈([]:List Int));grind[dj]
theorem U7 {i:Int}:∀{L:List Int},L.Pairwise (·<·)->L=L.filter (λj=>decide (j<i))++L.filter (λj=>!decide (j<i))
 |[],_=>rfl
 |x::L,h=>by
  have a:=γx.1 h;have c:=U7 (i:=i) a.2;by_cases d:x<i;·grind
  ·have e:L.filter (λj=>decide (j<i))=[]:=δ8.2 λj b=>by grind
   grind
theorem aeY {i:Int} {L:List Int} (h:i∉L):L.filter (λj=>decide (j<i+1))=L.filter (λj=>decide (j<i)):=by
 refine List.filter_congr λj a=>?_;grind
theorem aeZ {i:Int} {L:List Int} (b:L.Pairwise (·<·)) (h:i∈L):L.filter (λj=>decide (j<i+1))=L.filter (λj=>decide (j<i))++[i]/\L=L.filter (λj=>decide (j<i))++i::L.filter (λj=>decide (i<j)):=by
 induction L with
 |nil=>cases h;|cons x L f=>
  have g:=γx.1 b;by_cases c:x=i
  ·subst c;have e:L.filter (λj=>decide (j<x))=[]:=δ8.2 λj a=>by grind
   have k:L.filter (λj=>decide (j<x+1))=[]:=δ8.2 λj a=>by grind
   have d:L.filter (λj=>decide (x<j))=L:=εw.2 λj a=>by simp_all
   grind
  grind
theorem ae0 {p:bz} (a:Good p):∀{L:List Off},(∀x∈L,x∈p.offers)->L≠[]->0<cK L
 |[],_,h=>absurd rfl h
 |x::L,h,_=>by
  have c:=(a.2.2.2.2 x (h x (List.mem_cons_self ..))).2.2.2.1;have d:=(qG a (l:=L) λy b=>h y (δt _ b)).1;grind[cK]
theorem ae1 {p:bz} (i:bH p=0) {k:Nat} (d:k<=p.offers.length) {M:List Off} (g:∀x∈M,x∈p.offers.drop k) (c:M.Nodup):∃t:List Int,t.Pairwise (·<·)/\(∀j∈t,(k:Int)<=j/\j<p.offers.length)/\(dd p t).Perm M:=by
 obtain⟨t,b,h,a⟩:=Im (λx=>decide (x∈M)) (p.offers.drop k) (p.offers.take k);have e:(p.offers.take k).length=k:=by simp_all
 refine⟨t,b,λj f=>?_,?_⟩;·grind
 ·rw[List.take_append_drop] at a;unfold dd;rw[a];refine(List.perm_ext_iff_of_nodup ?_ c).2 λx=>?_;·grind[QE]
  simp_all
theorem Fj {p:bz} (d:bH p=0):rE p (cY p).chosen/\(cY p).value=cK (dd p (cY p).chosen):=by
 obtain⟨_,a,b,c⟩:=QV d;exact⟨⟨b,a⟩,c⟩
theorem LL {p:bz} (m:bH p=0) (W:p.offers.length<=15):∀n:Nat,n<=p.offers.length->rV p (ki p (cY p).value n)/\(ki p (cY p).value n).chosen=(cY p).chosen.filter λ(j:Int)=>decide (j<(n:Int))
 |0,_=>⟨good_start m,by
   have h:=(Fj m).1.1.2;exact(δ8.2 λj g=>by simp_all).symm⟩
 |n+1,hn=>by
  obtain⟨G,P⟩:=LL m W n (by omega);have o:=dR m;obtain⟨⟨⟨hs,hr⟩,hF⟩,hv⟩:=Fj m;have a7:rE p (cY p).chosen:=⟨⟨hs,hr⟩,hF⟩;have I:∀j∈(ki p (cY p).value n).chosen,j<(n:Int):=λj g=>by
   simp_all
  have N:((n:Nat):Int)+1=((n+1:Nat):Int):=by omega
  have J:(0:Int)<=n/\(n:Int)<p.offers.length:=by omega
  have q:oI p n∈p.offers:=dn (by omega);have a4:=U7 (i:=(n:Int)) hs;show rV p (rW p (cY p).value (ki p (cY p).value n) n)/\(rW p (cY p).value (ki p (cY p).value n) n).chosen=_;generalize ki p (cY p).value n=u at*;have C:∀{t:List Int},(∀j∈t,j∈(cY p).chosen)->∀x∈dd p t,x∈p.offers:=λht x q=>by
   obtain⟨j,g,rfl⟩:=γf.1 q;have:=hr j (ht j g);exact dn (by omega)
  by_cases e:u.value=(cY p).value
  ·unfold rW;rw[if_pos e];refine⟨G,?_⟩;have R:(cY p).chosen.filter (λj=>!decide (j<(n:Int)))=[]:=by
    refine Classical.byContradiction λU=>?_;have S:=ae0 o (L:=dd p ((cY p).chosen.filter (λj=>!decide (j<(n:Int))))) (C λj g=>(γJ.1 g).1) (by unfold dd;simpa using U);rw[G.v,P,hv] at e;grind[uf,pS]
   have a1:∀j∈(cY p).chosen,j<(n:Int):=λj g=>by
    grind
   rw[P,εw.2 λj g=>by grind];exact(εw.2 λj g=>by grind).symm
  ·by_cases K:(n:Int)∈(cY p).chosen
   ·obtain⟨f1,f2⟩:=aeZ hs K;rw[<-P] at f1 f2;have A:jr p (dd p u.chosen++[oI p n]++dd p ((cY p).chosen.filter λj=>decide ((n:Int)<j))):=by
     have:dd p u.chosen++[oI p n]++dd p ((cY p).chosen.filter λj=>decide ((n:Int)<j))=dd p (cY p).chosen:=by
      conv=>rhs;rw[f2]
      rw[uf,sM,γ4];rfl
     grind
    have B:=C (t:=(cY p).chosen.filter λj=>decide ((n:Int)<j)) λj g=>(γJ.1 g).1;have Q:jm p u (oI p n)=true:=(Ff m G q).2 (Ie o B A);have c:=G.next m I J Q;have z:=Fg (k:=((n:Int)+1).toNat) m c;have r:dd p (fp p u n).chosen=dd p u.chosen++[oI p n]:=by
     show dd p (u.chosen++[(n:Int)])=_;rw[uf];rfl
    have O:∀x∈dd p ((cY p).chosen.filter λj=>decide ((n:Int)<j)),jm p (fp p u n) x=true:=λx w=>by
     refine(Ff m c (B x w)).2 ?_;rw[r];obtain⟨s,t,a0⟩:=List.append_of_mem w;have F:(dd p u.chosen++[oI p n]++dd p ((cY p).chosen.filter λj=>decide ((n:Int)<j))).Perm (dd p u.chosen++[oI p n]++[x]++(s++t)):=by
      rw[a0,γ4 (dd p u.chosen++[oI p n])];refine ζy _ ?_;exact List.perm_middle
     refine Ie o (M:=s++t) (λy hy=>B y ?_) (Il F A);grind
    have Y:=(LI (k:=((n:Int)+1).toNat) m c B O).2 (by grind);have Z:∀x∈dd p ((cY p).chosen.filter λj=>decide ((n:Int)<j)),x∈(gY p (fp p u n) ((n:Int)+1).toNat).offers:=λx w=>by
     refine γJ.2 ⟨?_,O x w⟩;obtain⟨j,g,rfl⟩:=γf.1 w;obtain⟨V,a8⟩:=γJ.1 g;have h3:=hr j V;have h4:(n:Int)<j:=by grind
     rw[dj (by omega)];rw[List.mem_iff_getElem];exact⟨j.toNat - ((n:Int)+1).toNat,by grind,by rw[List.getElem_drop];congr 1;omega⟩
    have H:=aaF z Y Z;rw[DI z] at H;have a2:(cY p).value=(fp p u n).value+cK (dd p ((cY p).chosen.filter λj=>decide ((n:Int)<j))):=by
     rw[c.v,r,hv];conv=>lhs;rw[f2,uf,sM,pS]
     rw[pS];grind[cK,oI]
    have T:(gY p (fp p u n) ((n:Int)+1).toNat).offers.length<=15:=by
     have S:=γ8 (jm p (fp p u n)) (p.offers.drop ((n:Int)+1).toNat);rw[εR] at S;show((p.offers.drop _).filter _).length<=15;omega
    have l:jl (gY p (fp p u n) ((n:Int)+1).toNat) ((cY p).value - (fp p u n).value) 65536=0:=LJ z (by omega) (by
     have:2^((gY p (fp p u n) ((n:Int)+1).toNat).offers.length+1)<=2^16:=δu (by omega) (by omega);omega);have E:kh (gY p (fp p u n) ((n:Int)+1).toNat) ((cY p).value - (fp p u n).value) 65536=true:=(U4 z l).2 (by omega);unfold rW;rw[if_neg e,if_pos Q,if_pos E];refine⟨c,?_⟩;rw[<-N,f1];rfl
   ·rw[<-N,aeY K,<-P];unfold rW;rw[if_neg e];split
    ·rename_i Q;split
     ·rename_i E;exfalso;have c:=G.next m I J Q;have z:=Fg (k:=((n:Int)+1).toNat) m c;have r:dd p (fp p u n).chosen=dd p u.chosen++[oI p n]:=by
       show dd p (u.chosen++[(n:Int)])=_;rw[uf];rfl
      have T:(gY p (fp p u n) ((n:Int)+1).toNat).offers.length<=15:=by
       have S:=γ8 (jm p (fp p u n)) (p.offers.drop ((n:Int)+1).toNat);rw[εR] at S;show((p.offers.drop _).filter _).length<=15;omega
      have l:jl (gY p (fp p u n) ((n:Int)+1).toNat) ((cY p).value - (fp p u n).value) 65536=0:=LJ z (by omega) (by
       have:2^((gY p (fp p u n) ((n:Int)+1).toNat).offers.length+1)<=2^16:=δu (by omega) (by omega);omega);have a6:=(U4 z l).1 E;obtain⟨M,m1,m2,m3⟩:=aaG z;rw[DI z] at m3;have D:∀x∈M,x∈p.offers.drop ((n:Int)+1).toNat/\jm p (fp p u n) x=true:=λx q=>γJ.1 (m2 x q);have A:=(LI m c (λx q=>List.mem_of_mem_drop (D x q).1) λx q=>(D x q).2).1 m1;obtain⟨t,t1,t2,t3⟩:=ae1 m (k:=((n:Int)+1).toNat) (by omega) (λx q=>(D x q).1) (DD Off.ck m1.1);have hT:rE p (u.chosen++(n:Int)::t):=by
       refine⟨⟨?_,?_⟩,?_⟩
       ·rw[List.pairwise_append];refine⟨G.f.1.1,γx.2 ⟨λj g=>by grind,t1⟩,λa ha b hb=>?_⟩;grind
       ·intro j g;rcases List.mem_append.1 g with h|h;·grind
        ·rcases List.mem_cons.1 h with rfl|h<;>grind
       ·rw[uf,sM];refine Il ?_ A;rw[r,γ4];exact ζy _ (List.Perm.cons _ t3.symm)
      have a3:cK (dd p (u.chosen++(n:Int)::t))=(fp p u n).value+cK M:=by
       rw[c.v,r,uf,sM,pS,pS,<-QC t3];grind[cK,oI]
      have H:=Ii o hT.1 (decide_eq_true hT.2);refine aeX o hT (.inr ⟨(show cK (dd p (u.chosen++(n:Int)::t))=(cY p).value by omega),?_⟩);show cmpL (u.chosen++(n:Int)::t) (cY p).chosen<0;have R:(cY p).chosen=u.chosen++(cY p).chosen.filter (λj=>!decide (j<(n:Int))):=by grind
      have a5:(cY p).chosen.filter (λj=>!decide (j<(n:Int)))≠[]:=λh=>by
       rw[h,γ6] at R;refine e ?_;rw[G.v,<-R,hv]
      have X:∀j∈(cY p).chosen.filter (λj=>!decide (j<(n:Int))),(n:Int)<j:=λj g=>by
       grind
      rw[R];generalize (cY p).chosen.filter (λj=>!decide (j<(n:Int)))=d at*;cases d with
      |nil=>grind;|cons j d=>
       rw[U6];have:=X j (by simp);simp only[cmpL];omega
     grind
    grind
theorem U8 {p:bz} (b:bH p=0) (a:p.offers.length<=15):(ki p (cY p).value p.offers.length).chosen=(cY p).chosen:=by
 rw[(LL b a p.offers.length (ψ _)).2];have h:=(Fj b).1.1.2;simp_all
open Go.Proofs.YtlphnffeeefcdaaGreat.Ir
open Go.Proofs
abbrev yU:=bG×(bG×(List Int×(Int×(Bool×(Bool×(Bool×(Bool×(Bool×(Bool×(Bool×Bool))))))))))
@[reducible] def rX:bw:=.pair .eL (.pair .eL (.pair (.bP (.i .i64)) (.pair (.i .i64) (.pair .b (.pair .b (.pair .b (.pair .b (.pair .b (.pair .b (.pair .b .b))))))))))
def xP (d:yU):jD:=⟨d.1,d.2.1,d.2.2.1,d.2.2.2.1,[d.2.2.2.2.1,d.2.2.2.2.2.1,d.2.2.2.2.2.2.1,d.2.2.2.2.2.2.2.1,d.2.2.2.2.2.2.2.2.1,d.2.2.2.2.2.2.2.2.2.1,d.2.2.2.2.2.2.2.2.2.2.1,d.2.2.2.2.2.2.2.2.2.2.2]⟩
def fP (u:jD):yU:=(u.left,(u.opn,(u.chosen,(u.value,(bp u.won 0 false,(bp u.won 1 false,(bp u.won 2 false,(bp u.won 3 false,(bp u.won 4 false,(bp u.won 5 false,(bp u.won 6 false,bp u.won 7 false)))))))))))
theorem U9 {u:jD} (h:u.won.length=8):xP (fP u)=u:=by
 obtain⟨l,o,c,v,w⟩:=u;simp only at h;match w,h with
 |[a,b,c,d,e,f,g,i],_=>rfl
def zX:jD:=⟨bG.zero,bG.zero,[],0,δ 8 false⟩
def pk (k j:Int) (a b:Int):Bool:=decide (k<=j)||(decide (0<=a)&&decide (0<=b))
def jR (a b:bG) (k:Int):Bool:=pk k 0 a.a0 b.a0&&(pk k 1 a.a1 b.a1&&(pk k 2 a.a2 b.a2&&(pk k 3 a.a3 b.a3&&(pk k 4 a.a4 b.a4&&pk k 5 a.a5 b.a5))))
def LM:dD where
 f:=88;α:=yU×bz×Off;put a:=[.ptr 0 0 22,dO.put a.2.1,(dZ .off).put a.2.2];st a:=[.cells (encS rX a.1) 103 22 false];dec v o:=match v,o with
  |[.ptr 0 0 22,p,x],[.cells j 103 22 false]=>match jU rX j,dO.dec p,(dZ .off).dec x with
   |some d,some p,some x=>some (d,p,x)
   |_,_,_=>none
  |_,_=>none;ok v o a h:=by
  split at h
  ·split at h
   ·rename_i c e n;simp only[γ] at h;subst h;refine⟨by simp only[gL,dO.ok _ _ e,(dZ .off).ok _ _ n],?_⟩;grind[gO,bA.g,gn,nU,tO]
   ·cases h
  ·cases h
 inj a b c e:=by
  obtain⟨d,p,x⟩:=a;obtain⟨m,l,i⟩:=b;simp only[gL,Ξ,and_true,true_and] at c;simp only[gO,List.map_cons,List.map_nil,bA.g,Ξ,bW.cells.injEq,and_true,gn,tO] at e;rw[xH rX d m e,dO.inj p l c.1,(dZ .off).inj x i c.2]
 dom a:=((∀k,k<6->(-1000<=a.1.1.at k/\a.1.1.at k<=1000)/\(-1000<=a.1.2.1.at k/\a.1.2.1.at k<=1000))/\a.2.2.want.ok=true)/\0<=a.2.2.ck/\a.2.2.ck<a.2.1.classes.length;res a:=.sb ((a.1.1.sub a.2.2.want).pos&&(gQ a.2.1 (xP a.1) a.2.2).pos);out a:=[.cells (encS rX (a.1.1.sub a.2.2.want,(gQ a.2.1 (xP a.1) a.2.2,a.1.2.2))) 103 22 false]
def ae2 (d:yU) (p:bz) (x:Off):Nat->cC
 |3=> .inv Int (λk=>⟨[(0,.ptr 0 0 22),(4,.ptr 1 0 20),(5,.ptr 2 0 8),(7,.sb (jR (d.1.sub x.want) (gQ p (xP d) x) k)),(11,.agg (encS .eL x.want)),(12,.si .i64 k)],
   [.cells (encS rX (iH d.1 (d.1.sub x.want) k,(iH d.2.1 (gQ p (xP d) x) k,d.2.2))) 103 22 false,.cells p.ss 27 20 false,.cells (encS .off x) 55 8 false]⟩)
   (λs=>iS s 12) (λk=>0<=k/\k<=6) (λk=>(6 - k).toNat) λ_ _=> .look
 |_=> .look
theorem h450:eu Tryz.prog LM:=by
 refine lp (L:=[]) (W:=[]) LM (λa=>ae2 a.1 a.2.1 a.2.2) (by simp) (by simp) ?_;rintro⟨d,p,x⟩ ⟨⟨hb,Q⟩,e7,f0⟩;simp only at hb Q e7 f0;refine bQ (let a:=Ω .i64;let g:=(0:Int);let h:=(6:Int);let j:=bA.cells;let k:=γn;let q:=bU .i64;let w:=Δ;let G:=γ0 false;let H:=γU;let M:=H 0 0 22;let K:=H 1 0 20;let J:=H 2 0 8;let z:=d.fst.sub x.want;let E:=gQ p (xP d) x;let L:=a x.want.a0;let O:=a x.want.a1;let Q:=a x.want.a2;let W:=a x.want.a3;let aa:=a x.want.a4;let d4:=a x.want.a5;let l:=γF [L,O,Q,W,aa,d4];let a6:=bw.i .i64;let B:=d.snd.snd.snd.snd.snd;let d7:=B.snd.snd.snd.snd.snd;let u:=iH d.fst z g;let D:=iH d.snd.fst E g;let C:=d.snd.snd.snd.snd.snd;let b5:=C.snd.snd.snd.snd.snd;let r:=[w a6 d.snd.snd.fst,a d.snd.snd.snd.fst,k d.snd.snd.snd.snd.fst,k C.fst,k C.snd.fst,k C.snd.snd.fst,k C.snd.snd.snd.fst,k C.snd.snd.snd.snd.fst,k b5.fst,k b5.snd];let m:=j [a p.supply.a0,a p.supply.a1,a p.supply.a2,a p.supply.a3,a p.supply.a4,a p.supply.a5,a p.opn.a0,a p.opn.a1,a p.opn.a2,a p.opn.a3,a p.opn.a4,a p.opn.a5,a p.cls.a0,a p.cls.a1,a p.cls.a2,a p.cls.a3,a p.cls.a4,a p.cls.a5,w a6 p.classes,w bw.off p.offers] 27 20 false;let n:=j [a x.ck,L,O,Q,W,aa,d4,a x.value] 55 8 false;let e9:=[x.want.a0,x.want.a1,x.want.a2,x.want.a3,x.want.a4,x.want.a5];let e6:=[p.cls.a0,p.cls.a1,p.cls.a2,p.cls.a3,p.cls.a4,p.cls.a5];(((M.same M/\K.same K/\J.same J/\(γ0 true).same (k (jR z E g))/\l.same l/\(γo .i64 0).same (a 0)/\True)/\(j [a d.fst.a0,a d.fst.a1,a d.fst.a2,a d.fst.a3,a d.fst.a4,a d.fst.a5,a d.snd.fst.a0,a d.snd.fst.a1,a d.snd.fst.a2,a d.snd.fst.a3,a d.snd.fst.a4,a d.snd.fst.a5,w a6 d.snd.snd.fst,a d.snd.snd.snd.fst,k d.snd.snd.snd.snd.fst,k B.fst,k B.snd.fst,k B.snd.snd.fst,k B.snd.snd.snd.fst,k B.snd.snd.snd.snd.fst,k d7.fst,k d7.snd] 103 22 false).same (j (a u.a0::a u.a1::a u.a2::a u.a3::a u.a4::a u.a5::a D.a0::a D.a1::a D.a2::a D.a3::a D.a4::a D.a5::r) 103 22 false)/\m.same m/\n.same n/\True)/\g<=g/\g<=h)/\∀(b:Int),let I:=jR z E b;let f:=iH d.fst z b;let e1:=bp e9 b.toNat g;let t:=bp [f.a0,f.a1,f.a2,f.a3,f.a4,f.a5] b.toNat g - e1;let b7:=if b.toNat=0 then t else f.a0;let e2:=if b.toNat=1 then t else f.a1;let c9:=if b.toNat=2 then t else f.a2;let c7:=if b.toNat=3 then t else f.a3;let d9:=if b.toNat=4 then t else f.a4;let c8:=if b.toNat=5 then t else f.a5;let V:=bp [b7,e2,c9,c7,d9,c8] b.toNat g;let P:=decide (g<=V);let e:=b+(1:Int);let c:=iH d.snd.fst E b;let d3:=bp [c.a0,c.a1,c.a2,c.a3,c.a4,c.a5] b.toNat g;let s:=d3 - e1;let d8:=if b.toNat=0 then s else c.a0;let c5:=if b.toNat=1 then s else c.a1;let b8:=if b.toNat=2 then s else c.a2;let b9:=if b.toNat=3 then s else c.a3;let e0:=if b.toNat=4 then s else c.a4;let d0:=if b.toNat=5 then s else c.a5;let y:=min (bp [d8,c5,b8,b9,e0,d0] b.toNat g) V;let a9:=if b.toNat=0 then y else d8;let b4:=if b.toNat=1 then y else c5;let S:=if b.toNat=2 then y else b8;let a7:=if b.toNat=3 then y else b9;let b3:=if b.toNat=4 then y else e0;let b0:=if b.toNat=5 then y else d0;let N:=k (jR z E e);let o:=a e;let R:=a b7;let Z:=a e2;let T:=a c9;let U:=a c7;let a8:=a d9;let Y:=a c8;let F:=iH d.fst z e;let v:=iH d.snd.fst E e;let X:=j (a F.a0::a F.a1::a F.a2::a F.a3::a F.a4::a F.a5::a v.a0::a v.a1::a v.a2::a v.a3::a v.a4::a v.a5::r) 103 22 false;let A:=min d3 V;let c1:=if b.toNat=0 then A else c.a0;let c2:=if b.toNat=1 then A else c.a1;let d1:=if b.toNat=2 then A else c.a2;let c0:=if b.toNat=3 then A else c.a3;let d5:=if b.toNat=4 then A else c.a4;let e3:=if b.toNat=5 then A else c.a5;let c4:=decide (b<h);let d6:=bp e6 b.toNat g;let c3:=decide (d6=g);let d2:=decide (d6≠bp p.classes x.ck.toNat g);let e8:=let e4:=q e/\((M.same M/\K.same K/\J.same J/\(G).same N/\l.same l/\o.same o/\True)/\(j (R::Z::T::U::a8::Y::a a9::a b4::a S::a a7::a b3::a b0::r) 103 22 false).same X/\m.same m/\n.same n/\True)/\(g<=e/\e<=h)/\(h - e).toNat<(h - b).toNat;b.toNat<6/\g<=b/\b<h/\b.toNat<6/\g<=b/\b<h/\b.toNat<6/\(I=true->g<=b/\b<h/\b.toNat<6/\(P=true->g<=b/\b<h/\b.toNat<6/\q e/\((M.same M/\K.same K/\J.same J/\(k (decide (g<=bp [a9,b4,S,a7,b3,b0] b.toNat g))).same N/\l.same l/\o.same o/\True)/\(j (R::Z::T::U::a8::Y::a a9::a b4::a S::a a7::a b3::a b0::r) 103 22 false).same X/\m.same m/\n.same n/\True)/\(g<=e/\e<=h)/\(h - e).toNat<(h - b).toNat)/\(P=false->e4))/\(I=false->e4);let c6:=(j (R::Z::T::U::a8::Y::a c1::a c2::a d1::a c0::a d5::a e3::r) 103 22 false).same X;let e5:=g<=b/\b<h/\b.toNat<6/\q s/\g<=b/\b<h/\b.toNat<6/\g<=b/\b<h/\e8;let b6:=q e/\((M.same M/\K.same K/\J.same J/\(G).same N/\l.same l/\o.same o/\True)/\c6/\m.same m/\n.same n/\True)/\(g<=e/\e<=h)/\(h - e).toNat<(h - b).toNat;g<=b/\b<=h->(c4=true->g<=b/\b<h/\g<=b/\b<h/\b.toNat<6/\q t/\g<=b/\b<h/\b.toNat<6/\g<=b/\b<h/\b.toNat<6/\(c3=true->e5)/\(c3=false->g<=b/\b<h/\b.toNat<6/\g<=x.ck/\x.ck<(↑p.classes.length:Int)/\x.ck.toNat<p.classes.length/\(d2=true->e5)/\(d2=false->g<=b/\b<h/\b.toNat<6/\g<=b/\b<h/\b.toNat<6/\g<=b/\b<h/\b.toNat<6/\(I=true->g<=b/\b<h/\b.toNat<6/\(P=true->g<=b/\b<h/\b.toNat<6/\q e/\((M.same M/\K.same K/\J.same J/\(k (decide (g<=bp [c1,c2,d1,c0,d5,e3] b.toNat g))).same N/\l.same l/\o.same o/\True)/\c6/\m.same m/\n.same n/\True)/\(g<=e/\e<=h)/\(h - e).toNat<(h - b).toNat)/\(P=false->b6))/\(I=false->b6))))/\(c4=false->(k I).same (k (z.pos&&E.pos))/\(j (a f.a0::a f.a1::a f.a2::a f.a3::a f.a4::a f.a5::a c.a0::a c.a1::a c.a2::a c.a3::a c.a4::a c.a5::r) 103 22 false).same (j (a z.a0::a z.a1::a z.a2::a z.a3::a z.a4::a z.a5::a E.a0::a E.a1::a E.a2::a E.a3::a E.a4::a E.a5::r) 103 22 false)/\True)) (by kernel_rfl) ?_;simp only[vcs];refine⟨⟨⟨rfl,rfl⟩,by omega,by omega⟩,?_⟩;rintro k ⟨k0,k6⟩;simp only[show bp p.classes x.ck.toNat 0=mg p x from rfl];generalize w:mg p x=G at*;constructor
 ·intro hk;rcases(show k=0\/k=1\/k=2\/k=3\/k=4\/k=5 by omega) with rfl|rfl|rfl|rfl|rfl|rfl
  ·have g:=hb 0 (by omega);have H:0<=x.want.a0/\x.want.a0<=4:=by have:=bG.jM.1 Q;omega
   have b1: -1000<=d.1.a0/\d.1.a0<=1000:=g.1;have b2: -1000<=d.2.1.a0/\d.2.1.a0<=1000:=g.2;have j:(gQ p (xP d) x).a0=min (d.2.1.a0 - nd p.cls.a0 x.want.a0 G) (d.1.a0 - x.want.a0):=by rw[<-w];rfl
   generalize gQ p (xP d) x=O at*;by_cases h:p.cls.a0=0;·simp[iH,bp,bG.sub,jR,pk,j,nd,h,lq];grind
   ·by_cases q:p.cls.a0=G
    ·subst q;simp[iH,bp,bG.sub,jR,pk,j,nd,h,lq];grind
    ·simp[iH,bp,bG.sub,jR,pk,j,nd,h,q,lq];grind
  ·have g:=hb 1 (by omega);have H:0<=x.want.a1/\x.want.a1<=4:=by have:=bG.jM.1 Q;omega
   have b1: -1000<=d.1.a1/\d.1.a1<=1000:=g.1;have b2: -1000<=d.2.1.a1/\d.2.1.a1<=1000:=g.2;have j:(gQ p (xP d) x).a1=min (d.2.1.a1 - nd p.cls.a1 x.want.a1 G) (d.1.a1 - x.want.a1):=by rw[<-w];rfl
   generalize gQ p (xP d) x=O at*;by_cases h:p.cls.a1=0;·simp[iH,bp,bG.sub,jR,pk,j,nd,h,lq];grind
   ·by_cases q:p.cls.a1=G
    ·subst q;simp[iH,bp,bG.sub,jR,pk,j,nd,h,lq];grind
    ·simp[iH,bp,bG.sub,jR,pk,j,nd,h,q,lq];grind
  ·have g:=hb 2 (by omega);have H:0<=x.want.a2/\x.want.a2<=4:=by have:=bG.jM.1 Q;omega
   have b1: -1000<=d.1.a2/\d.1.a2<=1000:=g.1;have b2: -1000<=d.2.1.a2/\d.2.1.a2<=1000:=g.2;have j:(gQ p (xP d) x).a2=min (d.2.1.a2 - nd p.cls.a2 x.want.a2 G) (d.1.a2 - x.want.a2):=by rw[<-w];rfl
   generalize gQ p (xP d) x=O at*;by_cases h:p.cls.a2=0;·simp[iH,bp,bG.sub,jR,pk,j,nd,h,lq];grind
   ·by_cases q:p.cls.a2=G
    ·subst q;simp[iH,bp,bG.sub,jR,pk,j,nd,h,lq];grind
    ·simp[iH,bp,bG.sub,jR,pk,j,nd,h,q,lq];grind
  ·have g:=hb 3 (by omega);have H:0<=x.want.a3/\x.want.a3<=4:=by have:=bG.jM.1 Q;omega
   have b1: -1000<=d.1.a3/\d.1.a3<=1000:=g.1;have b2: -1000<=d.2.1.a3/\d.2.1.a3<=1000:=g.2;have j:(gQ p (xP d) x).a3=min (d.2.1.a3 - nd p.cls.a3 x.want.a3 G) (d.1.a3 - x.want.a3):=by rw[<-w];rfl
   generalize gQ p (xP d) x=O at*;by_cases h:p.cls.a3=0;·simp[iH,bp,bG.sub,jR,pk,j,nd,h,lq];grind
   ·by_cases q:p.cls.a3=G
    ·subst q;simp[iH,bp,bG.sub,jR,pk,j,nd,h,lq];grind
    ·simp[iH,bp,bG.sub,jR,pk,j,nd,h,q,lq];grind
  ·have g:=hb 4 (by omega);have H:0<=x.want.a4/\x.want.a4<=4:=by have:=bG.jM.1 Q;omega
   have b1: -1000<=d.1.a4/\d.1.a4<=1000:=g.1;have b2: -1000<=d.2.1.a4/\d.2.1.a4<=1000:=g.2;have j:(gQ p (xP d) x).a4=min (d.2.1.a4 - nd p.cls.a4 x.want.a4 G) (d.1.a4 - x.want.a4):=by rw[<-w];rfl
   generalize gQ p (xP d) x=O at*;by_cases h:p.cls.a4=0;·simp[iH,bp,bG.sub,jR,pk,j,nd,h,lq];grind
   ·by_cases q:p.cls.a4=G
    ·subst q;simp[iH,bp,bG.sub,jR,pk,j,nd,h,lq];grind
    ·simp[iH,bp,bG.sub,jR,pk,j,nd,h,q,lq];grind
  ·have g:=hb 5 (by omega);have H:0<=x.want.a5/\x.want.a5<=4:=by have:=bG.jM.1 Q;omega
   have b1: -1000<=d.1.a5/\d.1.a5<=1000:=g.1;have b2: -1000<=d.2.1.a5/\d.2.1.a5<=1000:=g.2;have j:(gQ p (xP d) x).a5=min (d.2.1.a5 - nd p.cls.a5 x.want.a5 G) (d.1.a5 - x.want.a5):=by rw[<-w];rfl
   generalize gQ p (xP d) x=O at*;by_cases h:p.cls.a5=0;·simp[iH,bp,bG.sub,jR,pk,j,nd,h,lq];grind
   ·by_cases q:p.cls.a5=G
    ·subst q;simp[iH,bp,bG.sub,jR,pk,j,nd,h,lq];grind
    ·simp[iH,bp,bG.sub,jR,pk,j,nd,h,q,lq];grind
 ·intro hk;have:k=6:=by omega
  subst this;simp[iH,bG.sub,jR,pk,bG.pos,Bool.and_assoc];exact⟨by ac_rfl,rfl⟩
noncomputable def Fo (L:List bL) (W:mO) (a:Nat->Option (Nat×Nat×Nat)):ja:=⟨⟨vD L,W.C⟩,qD,qE,a,iQ,λ_=>false⟩
theorem agO {L:List bL} {W:mO} (e:Nat->Option (Nat×Nat×Nat)) (c:bL) (g:c.α->Nat->cC) (i:pP Tryz.prog W) (k:∀c∈L,Holds Tryz.prog c)
  
  (h:∀a,c.dom a->Vc (sE (Fo L W e) (g a) (fG c.f) (c.A.put a) λv=>v.rm (c.res a))) (l:(iQ c.f).isSome=true:=by kernel_rfl) (d:oY c.f L=none:=by kernel_rfl) (b:∀a,(c.A.put a).length=(fG c.f).params:=by intro _;kernel_rfl):Holds Tryz.prog c:=
 λa j=>C2 (p:=Fo L W e) (Λ:=g a) (t6 i k rB) (t7 i) (λ_ _ h=>h) (vG l) (C4 d) (b a) (λ_ h=>xG h) (h a j).out
theorem ae3 {L:List bL} {W:mO} (e:Nat->Option (Nat×Nat×Nat)) (c:bL) (F:fE) (g:c.α->Nat->cC) (i:pP Tryz.prog W) (k:∀c∈L,Holds Tryz.prog c)
  
  (h:∀a,c.dom a->Vc (sE (Fo L W e) (g a) F (c.A.put a) λv=>v.rm (c.res a))) (l:iQ c.f=some F:=by kernel_rfl) (d:oY c.f L=none:=by kernel_rfl) (b:∀a,(c.A.put a).length=F.params:=by intro _;kernel_rfl):Holds Tryz.prog c:=
 λa j=>C2 (p:=Fo L W e) (Λ:=g a) (t6 i k rB) (t7 i) (λ_ _ h=>h) l (C4 d) (b a) (λ_ h=>xG h) (h a j).out
def qc (p:bz) (u:jD) (i:Int):jD:=if jm p u (oI p i)=true then fp p u i else zX
def Bq (u:jD):Prop:=(∀k,k<6->(-1000<=u.left.at k/\u.left.at k<=1000)/\(-1000<=u.opn.at k/\u.opn.at k<=1000))/\(0<=u.value/\u.value<=160000000)/\u.chosen.length<=1000
def Fp:bL:=⟨55,yU×bz×Int,.cons (dZ rX) (.cons dO (.one (ef .i64))),λa=>bH a.2.1=0/\Bq (xP a.1)/\0<=a.2.2/\a.2.2<a.2.1.offers.length,
 λa=> .bN [.agg (encS rX (fP (qc a.2.1 (xP a.1) a.2.2))),.sb (jm a.2.1 (xP a.1) (oI a.2.1 a.2.2))]⟩
def ae4 (n:Nat):Option (Nat×Nat×Nat):=if n=2 then some (3,0,8) else none
theorem h443:Holds Tryz.prog Fp:=by
 refine ae3 (L:=[]) (W:=gC [LM]) ae4 Fp (fG 55) lk (lj (by grind[h450])) (by simp) ?_;rintro⟨⟨l,o,c,v,R,S,V,U,w4,Z,w6,w7⟩,p,i⟩ ⟨hc,hd,i0,i1⟩;simp only at hc hd i0 i1;refine bQ (let b:=Ω .i64;let e:=γn;let h:=(-1000:Int);let r:=(1000:Int);let w:=γF;let x:=SV.bN;let y:=(0:Int);let L:=γ0 true;let W:=bU .i64;let aa:=(1:Int);let ab:=(2:Int);let ac:=(3:Int);let ad:=(4:Int);let ae:=(5:Int);let af:=(6:Int);let ag:=(7:Int);let ah:=Δ;let Q:=γo .i64 0;let al:=bw.i .i64;let ai:=ah al [];let Y:=γ0 false;let T:=xP (l,o,c,v,R,S,V,U,w4,Z,w6,w7);let aj:=(fP (qc p T i)).fst;let X:=(fP (qc p T i)).snd;let ak:=X.snd.snd.snd.snd.snd;let z:=x [w [b aj.a0,b aj.a1,b aj.a2,b aj.a3,b aj.a4,b aj.a5,b X.fst.a0,b X.fst.a1,b X.fst.a2,b X.fst.a3,b X.fst.a4,b X.fst.a5,ah al X.snd.fst,b X.snd.snd.fst,e X.snd.snd.snd.fst,e X.snd.snd.snd.snd.fst,e ak.fst,e ak.snd.fst,e ak.snd.snd.fst,e ak.snd.snd.snd.fst,e ak.snd.snd.snd.snd.fst,e ak.snd.snd.snd.snd.snd],e (jm p T (oI p i))];let e4:=bp p.offers i.toNat bw.off.dflt;let A:=e4.ck;let q:=e4.want;let K:=(↑p.classes.length:Int);let P:=l.sub q;let t:=P.pos;let s:=e4.value;let J:=gQ p T (Off.mk y q s);let j:=b P.a0;let n:=b P.a1;let g:=b P.a2;let f:=b P.a3;let m:=b P.a4;let d:=b P.a5;let e9:=b J.a0;let d3:=b J.a1;let g4:=b J.a2;let d2:=b J.a3;let f0:=b J.a4;let e3:=b J.a5;let N:=b (v+s);let g0:=[e w6,e w7];let c3:=e w4::e Z::g0;let g5:=e V::e U::c3;let f8:=N::L::e S::g5;let a:=[L];let D:=ah al [i];let u:=c.length+1;let I:=ah al (c++[i]);let C:=gQ p T (Off.mk aa q s);let f9:=b C.a0;let e8:=b C.a1;let b9:=b C.a2;let e7:=b C.a3;let b5:=b C.a4;let d0:=b C.a5;let a6:=N::e R::L::g5;let B:=gQ p T (Off.mk ab q s);let f4:=b B.a0;let d8:=b B.a1;let d6:=b B.a2;let e5:=b B.a3;let f6:=b B.a4;let d5:=b B.a5;let e0:=N::e R::e S::L::e U::c3;let G:=gQ p T (Off.mk ac q s);let e1:=b G.a0;let f3:=b G.a1;let d1:=b G.a2;let c7:=b G.a3;let c2:=b G.a4;let b4:=b G.a5;let c5:=N::e R::e S::e V::L::c3;let H:=gQ p T (Off.mk ad q s);let c0:=b H.a0;let c1:=b H.a1;let c9:=b H.a2;let b6:=b H.a3;let e6:=b H.a4;let b7:=b H.a5;let c8:=N::e R::e S::e V::e U::L::e Z::g0;let E:=gQ p T (Off.mk ae q s);let b1:=b E.a0;let a8:=b E.a1;let g1:=b E.a2;let d9:=b E.a3;let d7:=b E.a4;let a9:=b E.a5;let b2:=N::e R::e S::e V::e U::e w4::L::g0;let M:=gQ p T (Off.mk af q s);let f5:=b M.a0;let g2:=b M.a1;let b0:=b M.a2;let b3:=b M.a3;let g3:=b M.a4;let c6:=b M.a5;let f7:=[N,e R,e S,e V,e U,e w4,e Z,L,e w7];let F:=gQ p T (Off.mk ag q s);let b8:=b F.a0;let f1:=b F.a1;let d4:=b F.a2;let f2:=b F.a3;let c4:=b F.a4;let a7:=b F.a5;let e2:=N::e R::e S::e V::e U::e w4::e Z::e w6::a;let O:=(x [w [Q,Q,Q,Q,Q,Q,Q,Q,Q,Q,Q,Q,ai,Q,Y,Y,Y,Y,Y,Y,Y,Y],Y]).same z;y<=i/\i<(↑p.offers.length:Int)/\i.toNat<p.offers.length/\(A=y->(R=true->O)/\(R=false->(((∀(k:Nat),k<6->(h<=l.at k/\l.at k<=r)/\h<=o.at k/\o.at k<=r)/\q.ok=true)/\y<=y/\y<K)/\((!(t&&J.pos))=true->O)/\((!(t&&J.pos))=false->W (v+s)/\(c.length=0->(1=0->(x (w (j::n::g::f::m::d::e9::d3::g4::d2::f0::e3::ai::f8)::a)).same z)/\(1≠0->8<=140737488355328/\1<=1000000000000/\1=1/\(x (w (j::n::g::f::m::d::e9::d3::g4::d2::f0::e3::D::f8)::a)).same z))/\(c.length≠0->c.length*8<=140737488355328/\c.length<=1000000000000/\c.length=c.length/\u*8<=140737488355328/\u<=1000000000000/\(c++[i]).length=(c++[i]).length/\(x (w (j::n::g::f::m::d::e9::d3::g4::d2::f0::e3::I::f8)::a)).same z))))/\(A=aa->(S=true->O)/\(S=false->(((∀(k:Nat),k<6->(h<=l.at k/\l.at k<=r)/\h<=o.at k/\o.at k<=r)/\q.ok=true)/\y<=aa/\aa<K)/\((!(t&&C.pos))=true->O)/\((!(t&&C.pos))=false->W (v+s)/\(c.length=0->(1=0->(x (w (j::n::g::f::m::d::f9::e8::b9::e7::b5::d0::ai::a6)::a)).same z)/\(1≠0->8<=140737488355328/\1<=1000000000000/\1=1/\(x (w (j::n::g::f::m::d::f9::e8::b9::e7::b5::d0::D::a6)::a)).same z))/\(c.length≠0->c.length*8<=140737488355328/\c.length<=1000000000000/\c.length=c.length/\u*8<=140737488355328/\u<=1000000000000/\(c++[i]).length=(c++[i]).length/\(x (w (j::n::g::f::m::d::f9::e8::b9::e7::b5::d0::I::a6)::a)).same z))))/\(A=ab->(V=true->O)/\(V=false->(((∀(k:Nat),k<6->(h<=l.at k/\l.at k<=r)/\h<=o.at k/\o.at k<=r)/\q.ok=true)/\y<=ab/\ab<K)/\((!(t&&B.pos))=true->O)/\((!(t&&B.pos))=false->W (v+s)/\(c.length=0->(1=0->(x (w (j::n::g::f::m::d::f4::d8::d6::e5::f6::d5::ai::e0)::a)).same z)/\(1≠0->8<=140737488355328/\1<=1000000000000/\1=1/\(x (w (j::n::g::f::m::d::f4::d8::d6::e5::f6::d5::D::e0)::a)).same z))/\(c.length≠0->c.length*8<=140737488355328/\c.length<=1000000000000/\c.length=c.length/\u*8<=140737488355328/\u<=1000000000000/\(c++[i]).length=(c++[i]).length/\(x (w (j::n::g::f::m::d::f4::d8::d6::e5::f6::d5::I::e0)::a)).same z))))/\(A=ac->(U=true->O)/\(U=false->(((∀(k:Nat),k<6->(h<=l.at k/\l.at k<=r)/\h<=o.at k/\o.at k<=r)/\q.ok=true)/\y<=ac/\ac<K)/\((!(t&&G.pos))=true->O)/\((!(t&&G.pos))=false->W (v+s)/\(c.length=0->(1=0->(x (w (j::n::g::f::m::d::e1::f3::d1::c7::c2::b4::ai::c5)::a)).same z)/\(1≠0->8<=140737488355328/\1<=1000000000000/\1=1/\(x (w (j::n::g::f::m::d::e1::f3::d1::c7::c2::b4::D::c5)::a)).same z))/\(c.length≠0->c.length*8<=140737488355328/\c.length<=1000000000000/\c.length=c.length/\u*8<=140737488355328/\u<=1000000000000/\(c++[i]).length=(c++[i]).length/\(x (w (j::n::g::f::m::d::e1::f3::d1::c7::c2::b4::I::c5)::a)).same z))))/\(A=ad->(w4=true->O)/\(w4=false->(((∀(k:Nat),k<6->(h<=l.at k/\l.at k<=r)/\h<=o.at k/\o.at k<=r)/\q.ok=true)/\y<=ad/\ad<K)/\((!(t&&H.pos))=true->O)/\((!(t&&H.pos))=false->W (v+s)/\(c.length=0->(1=0->(x (w (j::n::g::f::m::d::c0::c1::c9::b6::e6::b7::ai::c8)::a)).same z)/\(1≠0->8<=140737488355328/\1<=1000000000000/\1=1/\(x (w (j::n::g::f::m::d::c0::c1::c9::b6::e6::b7::D::c8)::a)).same z))/\(c.length≠0->c.length*8<=140737488355328/\c.length<=1000000000000/\c.length=c.length/\u*8<=140737488355328/\u<=1000000000000/\(c++[i]).length=(c++[i]).length/\(x (w (j::n::g::f::m::d::c0::c1::c9::b6::e6::b7::I::c8)::a)).same z))))/\(A=ae->(Z=true->O)/\(Z=false->(((∀(k:Nat),k<6->(h<=l.at k/\l.at k<=r)/\h<=o.at k/\o.at k<=r)/\q.ok=true)/\y<=ae/\ae<K)/\((!(t&&E.pos))=true->O)/\((!(t&&E.pos))=false->W (v+s)/\(c.length=0->(1=0->(x (w (j::n::g::f::m::d::b1::a8::g1::d9::d7::a9::ai::b2)::a)).same z)/\(1≠0->8<=140737488355328/\1<=1000000000000/\1=1/\(x (w (j::n::g::f::m::d::b1::a8::g1::d9::d7::a9::D::b2)::a)).same z))/\(c.length≠0->c.length*8<=140737488355328/\c.length<=1000000000000/\c.length=c.length/\u*8<=140737488355328/\u<=1000000000000/\(c++[i]).length=(c++[i]).length/\(x (w (j::n::g::f::m::d::b1::a8::g1::d9::d7::a9::I::b2)::a)).same z))))/\(A=af->(w6=true->O)/\(w6=false->(((∀(k:Nat),k<6->(h<=l.at k/\l.at k<=r)/\h<=o.at k/\o.at k<=r)/\q.ok=true)/\y<=af/\af<K)/\((!(t&&M.pos))=true->O)/\((!(t&&M.pos))=false->W (v+s)/\(c.length=0->(1=0->(x (w (j::n::g::f::m::d::f5::g2::b0::b3::g3::c6::ai::f7)::a)).same z)/\(1≠0->8<=140737488355328/\1<=1000000000000/\1=1/\(x (w (j::n::g::f::m::d::f5::g2::b0::b3::g3::c6::D::f7)::a)).same z))/\(c.length≠0->c.length*8<=140737488355328/\c.length<=1000000000000/\c.length=c.length/\u*8<=140737488355328/\u<=1000000000000/\(c++[i]).length=(c++[i]).length/\(x (w (j::n::g::f::m::d::f5::g2::b0::b3::g3::c6::I::f7)::a)).same z))))/\(A=ag->(w7=true->O)/\(w7=false->(((∀(k:Nat),k<6->(h<=l.at k/\l.at k<=r)/\h<=o.at k/\o.at k<=r)/\q.ok=true)/\y<=ag/\ag<K)/\((!(t&&F.pos))=true->O)/\((!(t&&F.pos))=false->W (v+s)/\(c.length=0->(1=0->(x (w (j::n::g::f::m::d::b8::f1::d4::f2::c4::a7::ai::e2)::a)).same z)/\(1≠0->8<=140737488355328/\1<=1000000000000/\1=1/\(x (w (j::n::g::f::m::d::b8::f1::d4::f2::c4::a7::D::e2)::a)).same z))/\(c.length≠0->c.length*8<=140737488355328/\c.length<=1000000000000/\c.length=c.length/\u*8<=140737488355328/\u<=1000000000000/\(c++[i]).length=(c++[i]).length/\(x (w (j::n::g::f::m::d::b8::f1::d4::f2::c4::a7::I::e2)::a)).same z))))/\y<=A/\A<(8:Int)) (by kernel_rfl) ?_;simp only[vcs];have hg:=(dR hc).2.2.2.2 (oI p i) (dn (by omega));have g8:=(dR hc).1;obtain⟨h1,h2,h3⟩:=hd;have g6:∀k,k<6->(-1000<=l.at k/\l.at k<=1000)/\(-1000<=o.at k/\o.at k<=1000):=h1;have g7:0<=v/\v<=160000000:=h2;have g9:c.length<=1000:=h3;refine⟨i0,i1,by omega,?_⟩;have eo:bp p.offers i.toNat bw.off.dflt=oI p i:=rfl;simp only[eo];generalize hr:fP (qc p (xP (l,o,c,v,R,S,V,U,w4,Z,w6,w7)) i)=r;simp only[qc,fp] at hr;generalize hW:jm p (xP (l,o,c,v,R,S,V,U,w4,Z,w6,w7)) (oI p i)=W at*;simp only[jm] at hW;generalize oI p i=x at*;obtain⟨b,w,y⟩:=x;simp only at hg hW hr ⊢;refine⟨?_,?_,?_,?_,?_,?_,?_,?_,?_⟩;case refine_9=>
  omega
 all_goals
  rintro rfl;refine⟨λhw=>?_,λhw=>⟨⟨⟨g6,hg.2.2.1⟩,by omega,by omega⟩,λhq=>?_,λhq=>⟨by omega,λhl=>⟨λh=>absurd h (by decide),λ_=>⟨by omega,by omega,?_⟩⟩,λhl=>⟨by omega,by omega,by omega,by omega,?_⟩⟩⟩⟩;all_goals subst hw
  ·have e:W=false:=hW.symm;subst e;subst hr;exact⟨rfl,rfl⟩
  ·have e:W=false:=hW.symm.trans hq;subst e;subst hr;exact⟨rfl,rfl⟩
  ·have e:W=true:=hW.symm.trans (by simp only[θ];exact⟨rfl,hq⟩);subst e;subst hr;have:=List.eq_nil_of_length_eq_zero hl;subst this;exact⟨rfl,rfl⟩
  ·have e:W=true:=hW.symm.trans (by simp only[θ];exact⟨rfl,hq⟩);subst e;subst hr;exact⟨rfl,rfl⟩
def LN:bL:=⟨57,yU×bz×Int,.cons (dZ rX) (.cons dO (.one (ef .i64))),λa=>bH a.2.1=0/\Bq (xP a.1)/\0<=a.2.2/\a.2.2<=a.2.1.offers.length,
 λa=> .agg (gY a.2.1 (xP a.1) a.2.2.toNat).ss⟩
def pA (p:bz) (u:jD) (i k:Nat):List Off:=((p.offers.take k).drop i).filter (jm p u)
theorem ae5 {p:bz} {u:jD} {i:Nat}:pA p u i i=[]:=by
 grind[pA]
theorem ae6 {p:bz} {u:jD} {i k:Nat} (b:i<=k) (a:k<p.offers.length):pA p u i (k+1)=pA p u i k++if jm p u (oI p k)=true then[oI p k] else[]:=by
 unfold pA;have e:oI p k=p.offers[k]:=dj (by omega);rw[List.take_succ_eq_append_getElem a,List.drop_append_of_le_length (by grind),List.filter_append,e];grind
theorem ae7 {p:bz} {u:jD} {i k:Nat}:(pA p u i k).length<=p.offers.length:=by
 grind[pA]
def ae8 (l o:bG) (c:List Int) (v:Int) (j e g b h a d f:Bool) (p:bz) (i:Int):Nat->cC
 |3=> .inv Int (λk=>⟨[(3,.ptr 0 0 22),(4,.ptr 1 0 20),(6,.ptr 2 0 20),(7,.ptr 3 0 20),(8,.si .i64 k)],
   [.cells (encS rX (l,o,c,v,j,e,g,b,h,a,d,f)) 103 22 false,.cells p.ss 27 20 false,
    .cells [.il .i64 0,.il .i64 0,.il .i64 0,.il .i64 0,.il .i64 0,.il .i64 0,.il .i64 0,.il .i64 0,.il .i64 0,.il .i64 0,.il .i64 0,.il .i64 0,.il .i64 0,.il .i64 0,.il .i64 0,.il .i64 0,.il .i64 0,.il .i64 0,.sc (.slice none 0 0),.sc (.slice none 0 0)] 27 20 false,
    .cells [.si .i64 l.a0,.si .i64 l.a1,.si .i64 l.a2,.si .i64 l.a3,.si .i64 l.a4,.si .i64 l.a5,.si .i64 o.a0,.si .i64 o.a1,.si .i64 o.a2,.si .i64 o.a3,.si .i64 o.a4,.si .i64 o.a5,
     .si .i64 p.cls.a0,.si .i64 p.cls.a1,.si .i64 p.cls.a2,.si .i64 p.cls.a3,.si .i64 p.cls.a4,.si .i64 p.cls.a5,.row (.i .i64) p.classes,.ow 4 (pA p (xP (l,o,c,v,j,e,g,b,h,a,d,f)) i.toNat k.toNat).length 8] 27 20 false,
    .row .off (pA p (xP (l,o,c,v,j,e,g,b,h,a,d,f)) i.toNat k.toNat) 55 true]⟩)
   (λs=>iS s 8) (λk=>i<=k/\k<=p.offers.length) (λk=>(p.offers.length - k).toNat) λ_ _=> .look
 |_=> .look
theorem h444:Holds Tryz.prog LN:=by
 refine cq (L:=[Fp]) LN (λa=>ae8 a.1.1 a.1.2.1 a.1.2.2.1 a.1.2.2.2.1 a.1.2.2.2.2.1 a.1.2.2.2.2.2.1 a.1.2.2.2.2.2.2.1 a.1.2.2.2.2.2.2.2.1 a.1.2.2.2.2.2.2.2.2.1 a.1.2.2.2.2.2.2.2.2.2.1 a.1.2.2.2.2.2.2.2.2.2.2.1 a.1.2.2.2.2.2.2.2.2.2.2.2 a.2.1 a.2.2) (by grind[h443]) ?_;rintro⟨⟨l,o,c,v,w0,w1,w2,w3,w4,w5,w6,w7⟩,p,i⟩ ⟨hc,hd,i0,i1⟩;simp only at hc hd i0 i1;refine bQ (let a:=Ω .i64;let k:=bA.cells;let L:=bA.row;let aa:=γn;let ab:=Δ;let ac:=γU;let ad:=(0:Int);let ae:=γz;let af:=a p.cls.a0;let ag:=a p.cls.a1;let V:=a p.cls.a2;let Z:=a p.cls.a3;let X:=a p.cls.a4;let S:=a p.cls.a5;let aj:=bw.i .i64;let ah:=ab aj p.classes;let ai:=ac 0 0 22;let B:=ac 1 0 20;let J:=ac 2 0 20;let t:=ac 3 0 20;let r:=a l.a0;let G:=a l.a1;let I:=a l.a2;let E:=a l.a3;let z:=a l.a4;let F:=a l.a5;let w:=a o.a0;let H:=a o.a1;let s:=a o.a2;let K:=a o.a3;let A:=a o.a4;let C:=a o.a5;let D:=k [r,G,I,E,z,F,w,H,s,K,A,C,ab aj c,a v,aa w0,aa w1,aa w2,aa w3,aa w4,aa w5,aa w6,aa w7] 103 22 false;let M:=ab bw.off p.offers;let b:=γo .i64 0;let b1:=SV.sc (Value.slice none 0 0);let y:=k [b,b,b,b,b,b,b,b,b,b,b,b,b,b,b,b,b,b,b1,b1] 27 20 false;let h:=xP (l,o,c,v,w0,w1,w2,w3,w4,w5,w6,w7);let b4:=pA p h i.toNat i.toNat;let n:=(↑p.offers.length:Int);let N:=(↑p.offers.length:Int);let q:=gY p h i.toNat;let f:=q.supply;let j:=q.opn;let g:=q.cls;let ak:=λ(u e:bG) (b8 b9:SV) ↦let T:=a u.a0;let Q:=a u.a1;let b0:=a u.a2;let P:=a u.a3;let b6:=a u.a4;let b7:=a u.a5;let b5:=a e.a0;let O:=a e.a1;let Y:=a e.a2;let b2:=a e.a3;let W:=a e.a4;let a7:=a e.a5;(k [T,Q,b0,P,b6,b7,b5,O,Y,b2,W,a7,af,ag,V,Z,X,S,ah,b8] 27 20 false).same (k [T,Q,b0,P,b6,b7,b5,O,Y,b2,W,a7,af,ag,V,Z,X,S,ah,b9] 27 20 false);(((ai.same ai/\B.same B/\J.same J/\t.same t/\(a i).same (a i)/\True)/\D.same D/\ak p.supply p.opn M M/\y.same y/\ak l o (ae 4 0 8) (ae 4 b4.length 8)/\(L bw.off [] 55 true).same (L bw.off b4 55 true)/\True)/\i<=i/\i<=n)/\∀(x:Int),let m:=x+(1:Int);let a8:=a m;let R:=pA p h i.toNat m.toNat;let b3:=jm p h (oI p x);let d:=pA p h i.toNat x.toNat;let a9:=d.length+1;let U:=d++[bp p.offers x.toNat bw.off.dflt];let a6:=λ(u:Nat) (e:bA) ↦bU .i64 m/\((ai.same ai/\B.same B/\J.same J/\t.same t/\a8.same a8/\True)/\D.same D/\ak p.supply p.opn M M/\y.same y/\(k [r,G,I,E,z,F,w,H,s,K,A,C,af,ag,V,Z,X,S,ah,ae 4 u 8] 27 20 false).same (k [r,G,I,E,z,F,w,H,s,K,A,C,af,ag,V,Z,X,S,ah,ae 4 R.length 8] 27 20 false)/\e.same (L bw.off R 55 true)/\True)/\(i<=m/\m<=n)/\(n - m).toNat<(n - x).toNat;i<=x/\x<=n->(decide (x<N)=true->(bH p=ad/\Bq h/\ad<=x/\x<n)/\(b3=true->ad<=x/\x<N/\x.toNat<p.offers.length/\1=1/\d.length=d.length/\a9*64<=140737488355328/\a9<=1000000000000/\a6 U.length (L bw.off U 55 true))/\(b3=false->a6 d.length (L bw.off d 55 true)))/\(decide (x<N)=false->d.length=d.length/\(γF [r,G,I,E,z,F,w,H,s,K,A,C,af,ag,V,Z,X,S,ah,ab bw.off d]).same (γF [a f.a0,a f.a1,a f.a2,a f.a3,a f.a4,a f.a5,a j.a0,a j.a1,a j.a2,a j.a3,a j.a4,a j.a5,a g.a0,a g.a1,a g.a2,a g.a3,a g.a4,a g.a5,ab aj q.classes,ab bw.off q.offers]))) (by kernel_rfl) ?_;simp only[vcs];have hl:p.offers.length<=160:=(dR hc).2.1;generalize hu:xP (l,o,c,v,w0,w1,w2,w3,w4,w5,w6,w7)=u at*;have e0:=@ae5 p u i.toNat;refine⟨⟨⟨by rw[e0];rfl,by rw[e0];rfl⟩,by omega,by omega⟩,?_⟩;rintro k ⟨k0,k1⟩;have c0:=@ae7 p u i.toNat k.toNat;refine⟨λhk=>?_,λhk=>?_⟩
 ·have eS:=@ae6 p u i.toNat k.toNat (by omega) (by omega);rw[show((k.toNat:Nat):Int)=k by omega] at eS;have eo:bp p.offers k.toNat bw.off.dflt=oI p k:=rfl;rw[show(k+1).toNat=k.toNat+1 by omega,eS,eo];refine⟨⟨hc,hd,by omega,by omega⟩,λhw=>?_,λhw=>?_⟩
  ·rw[if_pos hw];refine⟨?_,?_,?_,?_,?_,?_,⟨rfl,rfl⟩,?_,?_⟩<;>omega
  ·rw[if_neg (by rw[hw];simp),γ6];refine⟨?_,⟨rfl,rfl⟩,?_,?_⟩<;>omega
 ·rw[show k.toNat=p.offers.length by omega];subst hu;unfold pA;rw[χ];rfl
noncomputable def LO:bL:=⟨29,bz×Int,.cons dO (.one (ef .i64)),λa=>(bH a.1=0/\a.1.offers.length<=15)/\a.2=(cY a.1).value,
 λa=> .bN [.row (.i .i64) (cY a.1).chosen,.si .i64 0]⟩
noncomputable def ae9 (p:bz) (m:Int):Nat->cC
 |3=> .inv Int (λk=>⟨[(1,.si .i64 m),(2,.ptr 0 0 20),(6,.ptr 1 0 22),(21,.si .i64 p.offers.length),(22,.si .i64 k)],
   [.cells p.ss 27 20 false,.cells (encS rX (fP (ki p m k.toNat))) 103 22 false,.dead]⟩)
   (λs=>iS s 22) (λk=>0<=k/\k<=p.offers.length) (λk=>(p.offers.length - k).toNat) λ_ _=> .look
 |_=> .look
theorem afa {b a:Type} (x:b×a):(x.1,x.2)=x:=rfl
theorem Va {p:bz} {m:Int} {k:Nat} (h:(ki p m k).value=m):∀n,ki p m (k+n)=ki p m k
 |0=>rfl
 |n+1=>by
  have a:=Va h n;simp_all[rW,ki]
theorem afb {p:bz} {u:jD} {i:Int} (h:u.won.length=8):(qc p u i).won.length=8:=by
 unfold qc;split
 ·show(u.won.set _ true).length=8;simp_all
 ·rfl
theorem Vb {p:bz} {u:jD} (e:bH p=0) (d:rV p u):Bq u:=by
 have g:=Fg e d (k:=0);have j:=yT.1 (vH (vI g).1).1;have i:∀k,k<6->0<=u.opn.at k/\u.opn.at k<=u.left.at k:=λk c=>⟨(wB g c).2.2.1,(wB g c).2.2.2.1⟩;have h:=(xU e).2 d.f;obtain⟨m,q,n⟩:=s8 e h;have o:u.value=dJ p u.chosen:=by rw[d.v,Is e d.f]
 refine⟨λk c=>?_,by omega,by omega⟩;have a:=j k c;have b:=i k c;have l:0<=u.left.at k/\u.left.at k<=4:=a;omega
theorem h436:Holds Tryz.prog LO:=by
 refine cq (L:=[Fp,LN,Ll]) LO (λa=>ae9 a.1 a.2) (by grind[h443,h444,h434]) ?_;rintro⟨p,m⟩ ⟨⟨H,b6⟩,hm⟩;simp only at H b6 hm;refine bQ (let a:=Ω .i64;let e:=γn;let h:=(0:Int);let j:=bA.cells;let k:=Δ;let H:=bU .i64;let L:=(65536:Int);let O:=SV.bN;let R:=γU 0 0 20;let Q:=γU 1 0 22;let F:=(↑p.offers.length:Int);let W:=a F;let aa:=γo .i64 0;let ab:=a 0;let ac:=a p.supply.a0;let ad:=a p.supply.a1;let ae:=a p.supply.a2;let af:=a p.supply.a3;let b0:=a p.supply.a4;let a8:=a p.supply.a5;let T:=a p.opn.a0;let V:=a p.opn.a1;let c1:=a p.opn.a2;let b4:=a p.opn.a3;let b7:=a p.opn.a4;let Z:=a p.opn.a5;let f:=bw.i .i64;let B:=j [ac,ad,ae,af,b0,a8,T,V,c1,b4,b7,Z,a p.cls.a0,a p.cls.a1,a p.cls.a2,a p.cls.a3,a p.cls.a4,a p.cls.a5,k f p.classes,k bw.off p.offers] 27 20 false;let g:=γ0 false;let z:=fP (ki p m 0);let G:=z.fst;let v:=z.snd.fst;let y:=z.snd.snd.snd.snd.snd;let b5:=y.snd.snd.snd.snd.snd;let c7:=O [k f (cY p).chosen,ab];0=0/\((((a m).same (a m)/\R.same R/\Q.same Q/\(a (↑p.offers.length:Int)).same W/\aa.same ab/\True)/\B.same B/\(j [ac,ad,ae,af,b0,a8,T,V,c1,b4,b7,Z,k f [],aa,g,g,g,g,g,g,g,g] 103 22 false).same (j [a G.a0,a G.a1,a G.a2,a G.a3,a G.a4,a G.a5,a v.a0,a v.a1,a v.a2,a v.a3,a v.a4,a v.a5,k f z.snd.snd.fst,a z.snd.snd.snd.fst,e z.snd.snd.snd.snd.fst,e y.fst,e y.snd.fst,e y.snd.snd.fst,e y.snd.snd.snd.fst,e y.snd.snd.snd.snd.fst,e b5.fst,e b5.snd] 103 22 false)/\bA.dead.same bA.dead/\True)/\h<=h/\h<=F)/\∀(x:Int),let b:=x+(1:Int);let K:=a b;let o:=fP (ki p m x.toNat);let s:=o.fst;let n:=o.snd.fst;let S:=k f o.snd.snd.fst;let M:=o.snd.snd.snd.fst;let b3:=o.snd.snd.snd.snd.fst;let c:=o.snd.snd.snd.snd.snd;let b2:=c.snd.snd.snd.snd.fst;let J:=c.snd.snd.snd.snd.snd;let A:=fP (ki p m b.toNat);let E:=A.fst;let C:=A.snd.fst;let D:=A.snd.snd.snd.snd.snd;let a7:=D.snd.snd.snd.snd.snd;let b8:=j [a E.a0,a E.a1,a E.a2,a E.a3,a E.a4,a E.a5,a C.a0,a C.a1,a C.a2,a C.a3,a C.a4,a C.a5,k f A.snd.snd.fst,a A.snd.snd.snd.fst,e A.snd.snd.snd.snd.fst,e D.fst,e D.snd.fst,e D.snd.snd.fst,e D.snd.snd.snd.fst,e D.snd.snd.snd.snd.fst,e a7.fst,e a7.snd] 103 22 false;let I:=xP (s,n,o.snd.snd.fst,M,b3,c.fst,c.snd.fst,c.snd.snd.fst,c.snd.snd.snd.fst,b2,J.fst,J.snd);let t:=(fP (qc p I x)).fst;let l:=(fP (qc p I x)).snd;let q:=l.fst;let r:=l.snd.snd.fst;let c3:=l.snd.snd.snd.snd.fst;let d:=l.snd.snd.snd.snd.snd;let Y:=d.snd.snd.snd.snd.fst;let U:=d.snd.snd.snd.snd.snd;let N:=gY p (xP (t,q,l.snd.fst,r,l.snd.snd.snd.fst,c3,d.fst,d.snd.fst,d.snd.snd.fst,d.snd.snd.snd.fst,Y,U)) b.toNat;let a9:=jl N (m - r) L;let a6:=H b/\(((a m).same (a m)/\R.same R/\Q.same Q/\W.same W/\K.same K/\True)/\B.same B/\(j [a s.a0,a s.a1,a s.a2,a s.a3,a s.a4,a s.a5,a n.a0,a n.a1,a n.a2,a n.a3,a n.a4,a n.a5,S,a M,e b3,e c.fst,e c.snd.fst,e c.snd.snd.fst,e c.snd.snd.snd.fst,e b2,e J.fst,e J.snd] 103 22 false).same b8/\bA.dead.same bA.dead/\True)/\(h<=b/\b<=F)/\(F - b).toNat<(F - x).toNat;let c4:=(O [S,aa]).same c7;let b1:=λ(u:Bool) ↦kh N (m - r) L=u;let c0:=λ(u:Bool) ↦decide (a9≠h)=u;let c5:=λ(u:jD) ↦let w:=(fP u).snd.snd.snd.snd;let P:=w.snd.snd.snd.snd.snd;Bq (xP ((fP u).fst,(fP u).snd.fst,(fP u).snd.snd.fst,(fP u).snd.snd.snd.fst,w.fst,w.snd.fst,w.snd.snd.fst,w.snd.snd.snd.fst,w.snd.snd.snd.snd.fst,P.fst,P.snd.fst,P.snd.snd));let c6:=λ(u:Bool) ↦(!jm p I (oI p x))=u;let X:=λ(u:Bool) ↦decide (M=m)=u;h<=x/\x<=F->(decide (x<F)=true->(X true->c4)/\(X false->(bH p=h/\c5 (ki p m x.toNat)/\h<=x/\x<F)/\(c6 true->a6)/\(c6 false->H b/\(bH p=h/\c5 (qc p I x)/\h<=b/\b<=F)/\H (m - r)/\(N.offers.length<=20/\(-9223372036854775808:Int)<=m - r/\m - r<=(9223372036854775807:Int))/\(c0 true->(O [k f [],a a9]).same c7)/\(c0 false->(b1 true->H b/\(((a m).same (a m)/\R.same R/\Q.same Q/\W.same W/\K.same K/\True)/\B.same B/\(j [a t.a0,a t.a1,a t.a2,a t.a3,a t.a4,a t.a5,a q.a0,a q.a1,a q.a2,a q.a3,a q.a4,a q.a5,k f l.snd.fst,a r,e l.snd.snd.snd.fst,e c3,e d.fst,e d.snd.fst,e d.snd.snd.fst,e d.snd.snd.snd.fst,e Y,e U] 103 22 false).same b8/\bA.dead.same bA.dead/\True)/\(h<=b/\b<=F)/\(F - b).toNat<(F - x).toNat)/\(b1 false->a6)))))/\(decide (x<F)=false->c4)) (by kernel_rfl) ?_;simp only[vcs];simp only[afa];refine⟨⟨rfl,by omega,by omega⟩,?_⟩;rintro k ⟨k0,k1⟩;obtain⟨hG,hC⟩:=LL H b6 k.toNat (by omega);rw[<-hm] at hG hC;generalize hu:ki p m k.toNat=u at*;have hW:=@afb p u k hG.wl;simp only[U9 hG.wl,U9 hW];have c9:ki p m (k+1).toNat=rW p m u k:=by
  rw[show(k+1).toNat=k.toNat+1 by omega];grind[ki]
 have hD:=Vb H hG;refine⟨λhk=>⟨λhv=>?_,λc2=>⟨⟨H,hD,by omega,by omega⟩,λhw=>?_,λhw=>?_⟩⟩,λhk=>?_⟩
 ·have h1:=@Va p m k.toNat (by rw[hu];exact hv) (p.offers.length - k.toNat);rw[show k.toNat+(p.offers.length - k.toNat)=p.offers.length by omega,hu] at h1;show u.chosen=_;grind[U8]
 ·have hv:¬u.value=m:=c2;have e:ki p m (k+1).toNat=u:=by simp_all[rW]
  rw[e];refine⟨?_,rfl,?_,?_⟩<;>omega
 ·have hv:¬u.value=m:=c2;have hy:qc p u k=fp p u k:=by simp_all[qc]
  rw[hy];have c8:∀j∈u.chosen,j<k:=λj hj=>by
   grind
  have b9:=hG.next H c8 ⟨by omega,by omega⟩ hw;have W:=Vb H b9;have hq:=Fg H b9 (k:=(k+1).toNat);have d0:(gY p (fp p u k) (k+1).toNat).offers.length<=15:=by
   have h1:=γ8 (jm p (fp p u k)) (p.offers.drop (k+1).toNat);rw[εR] at h1;show((p.offers.drop _).filter _).length<=15;omega
  have O:jl (gY p (fp p u k) (k+1).toNat) (m - (fp p u k).value) 65536=0:=LJ hq (by omega) (by
   have:2^((gY p (fp p u k) (k+1).toNat).offers.length+1)<=2^16:=δu (by omega) (by omega);omega);have d1:0<=m/\m<=160000000:=by
   obtain⟨f1,f2⟩:=Fj H;have:=s8 H ((xU H).2 f1);grind[Is]
  have d2:0<=(fp p u k).value/\(fp p u k).value<=160000000:=W.2.1;have ev:(fP (fp p u k)).2.2.2.1=(fp p u k).value:=rfl;rw[ev,O];have er:ki p m (k+1).toNat=if kh (gY p (fp p u k) (k+1).toNat) (m - (fp p u k).value) 65536=true then fp p u k else u:=by
   simp_all[rW]
  refine⟨by omega,⟨H,W,by omega,by omega⟩,by omega,⟨by omega,by omega,by omega⟩,λh=>absurd rfl h,λ_=>⟨λhb=>?_,λhb=>?_⟩⟩
  ·rw[er,if_pos hb];refine⟨?_,rfl,?_,?_⟩<;>omega
  ·rw[er,if_neg (by rw[hb];simp)];refine⟨?_,rfl,?_,?_⟩<;>omega
 ·show u.chosen=_;grind[U8]
noncomputable def pB (p:bz):List cB:=(iL p (gJ p (jW p)).chosen 65536).prf
noncomputable def LP:bL:=⟨12,bz,.one dO,λp=>bH p≠0\/p.offers.length<=15,
 λp=> .bN [.agg [.row (.i .i64) (if bH p=0 then(cY p).chosen else[]),.si .i64 (if bH p=0 then(cY p).value else 0),.row bD (if bH p=0 then pB p else[])],.si .i64 (bH p)]⟩
theorem h427:Holds Tryz.prog LP:=by
 refine cq (L:=[qF,AS,AW,Lj,LO]) LP lk (by grind[h79,h312,h315,h429,h436]) ?_;rintro(p:bz) (y:bH p≠0\/p.offers.length<=15);refine bQ (let a:=(0:Int);let b:=Ω .i64;let d:=Δ;let h:=(65536:Int);let l:=SV.bN;let o:=γF;let k:=bw.i .i64;let w:=[b (bH p)];let m:=l (o [d k (if bH p=a then(cY p).chosen else[]),b (if bH p=a then(cY p).value else a),d bD (if bH p=a then pB p else[])]::w);let t:=γo .i64 0;let v:=o [d k [],t,d k []];let x:=decide (bH p≠a);let q:=(gJ p (jW p)).chosen;let j:=kJ p q h;let f:=decide (j≠a);let g:=iL p q h;let e:=if j=a then g.val else a;let B:=λ(u c:Bool) (n:List SV) ↦u=c->(l n).same m;let r:=λ(u:Bool) (c:Int) ↦u=true->(l [v,b c]).same m;True/\(x=true->(l (v::w)).same m)/\(x=false->p.offers.length<=20/\(jW p).length<=9223372036854775807/\(p.offers.length<=20/\q.length<=9223372036854775807)/\r f j/\(f=false->((bH p=a/\p.offers.length<=15)/\e=(cY p).value)/\r false a/\B false false [o [d k (cY p).chosen,b e,d bD (if j=a then g.prf else[])],t]))) (by kernel_rfl) ?_;simp only[vcs];by_cases a:bH p=0
 ·have l:p.offers.length<=15:=y.resolve_left λh=>h a;obtain⟨o,_⟩:=yP a;have D:=Lh a;have A:=(s8 a o).2.2;have b:((1+2^(p.offers.length+1):Nat):Int)<=65536+2:=by
   have:2^(p.offers.length+1)<=2^16:=δu (by omega) (by omega);omega
  have d:kJ p (gJ p (jW p)).chosen 65536=0:=aeW a o (by omega) b;obtain⟨_,C,z⟩:=Ld a o (most:=65536) (by omega);have s:=(C (z b)).2.1;simp only[d,a,if_true];refine⟨λh=>absurd rfl h,λ_=>⟨by omega,by omega,⟨by omega,by omega⟩,λh=>absurd rfl h,λ_=>⟨⟨⟨trivial,l⟩,s⟩,λh=>(by cases h),λ_=>⟨?_,trivial⟩⟩⟩⟩;rw[s];rfl
 ·refine⟨λ_=>?_,λh=>absurd a h⟩;rw[if_neg a,if_neg a,if_neg a];rfl
section
variable {p:bz}
end
theorem afc {p:bz} (a:bH p=0):rE p (cY p).chosen/\dJ p (cY p).chosen=(cY p).value/\(cY p).value=aaH p:=by
 obtain⟨_,d,b,e⟩:=QV a;have c:rE p (cY p).chosen:=⟨b,d⟩;exact⟨c,by grind[Is],(DI a).symm⟩
def ofV (n:cB):SV:=.ite (decide (n.1=1)) (.ia 154 (encS bD n)) (.ite (decide (n.1=2)) (.ia 155 (encS bD n)) (.ite (decide (n.1=3)) (.ia 156 (encS bD n)) (.ia 158 [])))
def Fq:bL:=⟨58,cB,.one (dZ bD),λ_=>True,ofV⟩
theorem h485:Holds Tryz.prog Fq:=by
 refine cq (L:=[]) Fq lk (by simp) ?_;rintro⟨k,o,a,b,y⟩ _;refine bQ (let n:=Ω .i64;let p:=(1:Int);let q:=(2:Int);let r:=(3:Int);let f:=decide (k=p);let d:=[n k,n o,n a,n b,Δ sF y];let j:=ζW 154 d;let g:=decide (k=q);let l:=ζW 155 d;let h:=decide (k=r);let m:=ζW 156 d;let e:=ζW 158 [];let i:=λ(u:Int) (c:Nat) ↦decide (k=u)=true->(f=true->(ζW c d).same j)/\(f=false->(g=true->(ζW c d).same l)/\(g=false->(h=true->(ζW c d).same m)/\(h=false->(ζW c d).same e)));i p 154/\(decide (k=p)=false->i q 155/\(decide (k=q)=false->i r 156/\(decide (k=r)=false->(f=true->e.same j)/\(f=false->(g=true->e.same l)/\(g=false->(h=true->e.same m)/\(h=false->e.same e))))))) (by kernel_rfl) ?_;simp_all[vcs]
def oG (n:cB):Bool:=decide (n.2.1=0)&&decide (n.2.2.1=0)&&decide (n.2.2.2.1=0)
def Ft:bL:=⟨212,cB,.one (dZ bD),λ_=>True,λn=> .sb (oG n)⟩
theorem h495:Holds Tryz.prog Ft:=by
 refine cq (L:=[]) Ft lk (by simp) ?_;rintro⟨k,o,a,b,y⟩ _;refine bQ (let f:=γ0 false;let g:=(0:Int);let e:=decide (o=g);let d:=decide (a=g);let c:=γn (oG (k,o,a,b,y));(e=true->(d=true->(γn (decide (b=g))).same c)/\(d=false->(f).same c))/\(e=false->(f).same c)) (by kernel_rfl) ?_;simp_all[oG]
def wf1 (n:cB):Bool:=oG n&&decide (n.2.2.2.2.length<=40)&&n.2.2.2.2.all okF
def LQ:bL:=⟨210,cB,.one (dZ bD),λn=>∀x∈n.2.2.2.2,gK x,λn=> .sb (wf1 n)⟩
def afe (n:cB):Nat->cC
 |4=> .inv Int (λi=>⟨[(18,.row sF n.2.2.2.2),(19,.si .i64 n.2.2.2.2.length),(20,.si .i64 i)],[.cells (encS bD n) 154 5 false]⟩) (λs=>iS s 20)
  (λi=>0<=i/\i<=n.2.2.2.2.length/\(n.2.2.2.2.take i.toNat).all okF=true) (λi=>(n.2.2.2.2.length - i).toNat) λ_ _=> .look
 |_=> .look
theorem h493:Holds Tryz.prog LQ:=by
 refine cq (L:=[Ft,uE]) LQ afe (by grind[h495,h407]) ?_;rintro⟨k,o,a,b,y⟩ q;have q:∀x∈y,gK x:=q;refine bQ (let d:=Ω .i64;let h:=(0:Int);let i:=γ0 false;let j:=Δ;let t:=!oG (k,o,a,b,y);let l:=γn (wf1 (k,o,a,b,y));let r:=(↑y.length:Int);let v:=decide ((40:Int)<r);let c:=(↑y.length:Int);let p:=d c;let m:=bA.cells [d k,d o,d a,d b,j sF y] 154 5 false;True/\(t=true->(i).same l)/\(t=false->(v=true->(i).same l)/\(v=false->((((j sF y).same (j sF y)/\(d r).same p/\(γo .i64 0).same (d 0)/\True)/\m.same m/\True)/\h<=h/\h<=c/\true=true)/\∀(x:Int),let e:=bp y x.toNat sF.dflt;let f:=x+(1:Int);let g:=d f;let s:=λ(u:Bool) ↦(!okF (e.fst,e.snd.fst,e.snd.snd))=u;h<=x/\x<=c/\(τ x.toNat y).all okF=true->(decide (x<c)=true->h<=x/\x<r/\x.toNat<y.length/\((bB e.snd.fst/\bB e.snd.snd)/\Φ e.snd.fst<=10000000/\Φ e.snd.snd<=10000000)/\(s true->(i).same l)/\(s false->bU .i64 f/\(((j sF y).same (j sF y)/\p.same p/\g.same g/\True)/\m.same m/\True)/\(h<=f/\f<=c/\(τ f.toNat y).all okF=true)/\(c - f).toNat<(c - x).toNat))/\(decide (x<c)=false->(γ0 true).same l)))) (by kernel_rfl) ?_;simp only[vcs];refine⟨λh=>by simp[wf1,h],λD=>⟨λn=>?_,λn=>⟨⟨by omega,by omega⟩,?_⟩⟩⟩;·grind[wf1]
 rintro i ⟨w,E,A⟩;refine⟨λj=>?_,λB=>?_⟩
 ·have z:=dn (d:=sF.dflt) (show i.toNat<y.length by omega);have C:=jN (d:=sF.dflt) w j;refine⟨w,j,by omega,q _ z,λh=>?_,λh=>⟨⟨by omega,by omega⟩,⟨by omega,by omega,?_⟩,by omega⟩⟩<;>grind[okF,bp,wf1]
 ·rw[show i.toNat=y.length by omega,χ] at A;grind[wf1]
def iq (k:Int):Bool:=decide (0<=k)&&decide (k<=65536)
def wf2 (n:cB):Bool:=iq n.2.1&&iq n.2.2.1&&iq n.2.2.2.1&&decide (n.2.2.2.2=[])
def LS:bL:=⟨216,cB,.one (dZ bD),λ_=>True,λn=> .sb (wf2 n)⟩
theorem h499:Holds Tryz.prog LS:=by
 refine cq (L:=[]) LS (λ_ _=> .ry 4) (by simp) ?_;rintro⟨k,o,a,b,y⟩ _;refine bQ (let r:=(0:Int);let s:=γ0 false;let t:=(65536:Int);let u:=(3:Int);let v:=γn;let j:=bp [o,a,b] 0 r;let g:=decide (j<r);let c:=v (wf2 (k,o,a,b,y));let m:=decide (t<j);let n:=bp [o,a,b] 1 r;let q:=decide (n<r);let i:=decide (t<n);let p:=bp [o,a,b] 2 r;let l:=decide (p<r);let h:=decide (t<p);let f:=bp [o,a,b] 3 r;let d:=decide (f<r);let e:=decide (t<f);(true=true->r<=r/\r<u/\0<3/\(g=true->(s).same c)/\(g=false->(m=true->(s).same c)/\(m=false->(true=true->r<=(1:Int)/\(1:Int)<u/\1<3/\(q=true->(s).same c)/\(q=false->(i=true->(s).same c)/\(i=false->(true=true->r<=(2:Int)/\(2:Int)<u/\2<3/\(l=true->(s).same c)/\(l=false->(h=true->(s).same c)/\(h=false->(false=true->r<=u/\u<u/\3<3/\(d=true->(s).same c)/\(d=false->(e=true->(s).same c)/\(e=false->False)))/\(false=false->(v (decide ((↑y.length:Int)=r))).same c))))/\(true=false->(v (decide ((↑y.length:Int)=r))).same c))))/\(true=false->(v (decide ((↑y.length:Int)=r))).same c))))/\(true=false->(v (decide ((↑y.length:Int)=r))).same c)) (by kernel_rfl) ?_;simp_all[bp,iq,decide_eq_false,wf2]
def rY (n:cB):Bool:=oG n&&decide (n.2.2.2.2=[])
def LU:bL:=⟨220,cB,.one (dZ bD),λ_=>True,λn=> .sb (rY n)⟩
theorem h503:Holds Tryz.prog LU:=by
 refine cq (L:=[Ft]) LU lk (by grind[h495]) ?_;rintro⟨k,o,a,b,y⟩ _;refine bQ (let d:=oG (k,o,a,b,y);let c:=γn (rY (k,o,a,b,y));True/\(d=true->(γn (decide ((↑y.length:Int)=(0:Int)))).same c)/\(d=false->(γ0 false).same c)) (by kernel_rfl) ?_;simp_all[rY]
def LV:qA Unit where
 put _:=.agg [];dec
  | .agg []=>some ()
  |_=>none;ok v a h:=by
  grind
 inj a b h:=rfl
def LW:bL:=⟨224,Unit,.one LV,λ_=>True,λ_=> .sb false⟩
theorem h507:Holds Tryz.prog LW:=by
 refine cq (L:=[]) LW lk (by simp) ?_;rintro _ _;refine bQ ((γ0 false).same (γn false)) (by kernel_rfl) ?_;rfl
def LX:bL:=⟨208,cB,.one (dZ bD),λ_=>True,λ_=> .row (.i .i64) []⟩
theorem h491:Holds Tryz.prog LX:=by
 refine cq (L:=[]) LX lk (by simp) ?_;rintro⟨k,o,a,b,y⟩ _;refine bQ (let c:=Δ (bw.i .i64) [];c.same c) (by kernel_rfl) ?_;simp_all
def LY:bL:=⟨214,cB,.one (dZ bD),λ_=>True,λn=> .row (.i .i64) [n.2.2.1,n.2.2.2.1]⟩
theorem h497:Holds Tryz.prog LY:=by
 refine cq (L:=[]) LY lk (by simp) ?_;rintro⟨k,o,a,b,y⟩ _;refine bQ (let c:=Δ (bw.i .i64) [a,b];c.same c) (by kernel_rfl) ?_;simp_all
def LZ:bL:=⟨218,cB,.one (dZ bD),λ_=>True,λ_=> .row (.i .i64) []⟩
theorem h501:Holds Tryz.prog LZ:=by
 refine cq (L:=[]) LZ lk (by simp) ?_;rintro⟨k,o,a,b,y⟩ _;refine bQ (let c:=Δ (bw.i .i64) [];c.same c) (by kernel_rfl) ?_;simp_all
def r505:bL:=⟨222,Unit,.one LV,λ_=>True,λ_=> .row (.i .i64) []⟩
theorem h505:Holds Tryz.prog r505:=by
 refine cq (L:=[]) r505 lk (by simp) ?_;rintro _ _;refine bQ (let a:=Δ (bw.i .i64) [];a.same a) (by kernel_rfl) ?_;simp_all
def eV (n:cB):List Int:=if n.1=2 then[n.2.2.1,n.2.2.2.1] else[]
def jS (n:cB):Bool:=if n.1=1 then wf1 n else if n.1=2 then wf2 n else if n.1=3 then rY n else false
def eZ (t:List cB) (i:Nat):List Int:=(t.take i).flatMap eV
def lz (n:Nat) (c:List Int):List Int:=(dL n).map λk=>(c.count k:Int)
def rZ (n:Nat) (i:Int) (c:List Int):List Int->Bool
 |[]=>true
 |x::r=>decide (i<x/\x<n)&&decide (x∉c)&&rZ n i (c++[x]) r
def iM (t:List cB) (i:Nat):Bool:=jS (bp t i bD.dflt)&&rZ t.length i (eZ t i) (eV (bp t i bD.dflt))
def de (t:List cB):Bool:=decide (1<=t.length/\t.length<=65536)&&((Θ t.length).all (iM t)&&(Θ (t.length - 1)).all λk=>decide (((k:Int)+1)∈eZ t t.length))
theorem yV {n:Nat} {c:List Int}:(lz n c).length=n:=by simp[lz,jw]
theorem yW {n j:Nat} {c:List Int} (h:j<n):bp (lz n c) j 0=(c.count (j:Int):Nat):=by
 grind[lz,dj,dL]
theorem Vd {n:Nat} {c:List Int} {x:Int} (l:0<=x) (g:x<n):(lz n c).set x.toNat (bp (lz n c) x.toNat 0+1)=lz n (c++[x]):=by
 refine δc (by grind[yV]) λj h i=>?_;have a:j<n:=by grind[yV]
 have e:x.toNat<n:=by omega
 have b:=@yW n j (c++[x]) a;rw[dj (by omega)] at b;rw[b,List.getElem_set];have k:=@yW n x.toNat c e;by_cases f:x.toNat=j;·grind
 ·rw[if_neg f];have d:=@yW n j c a;rw[dj (by simp_all)] at d;grind
theorem aff {n:Nat}:lz n []=δ n 0:=by
 refine δc (by grind[yV]) λj b a=>?_;simp[lz]
theorem wC {t:List cB} {i:Int} (b:0<=i) (a:i<t.length):eZ t (i+1).toNat=eZ t i.toNat++eV (bp t i.toNat bD.dflt):=by
 grind[eZ,jN]
theorem afg {t:List cB} {i:Nat} (h:i<t.length) (a:iM t i=false):de t=false:=by
 grind[de]
theorem afh {t:List cB} {k:Nat} (h:k<t.length - 1) (a:((k:Int)+1)∉eZ t t.length):de t=false:=by
 unfold de;grind
def L0:bL:=⟨31,List cB,.one (cV bD),λt=>∀n∈(show List cB from t),∀x∈n.2.2.2.2,gK x,λt=> .sb (de t)⟩
def afi (t:List cB):Nat->cC
 |5=> .inv Int (λi=>⟨[(0,.row bD t),(3,.ow 0 t.length 1),(22,.row bD t),(23,.si .i64 t.length),(24,.si .i64 i)],[.row (.i .i64) (lz t.length (eZ t i.toNat)) 3 true]⟩) (λs=>iS s 24)
  (λi=>0<=i/\i<=t.length/\∀j:Nat,j<i->iM t j=true) (λi=>(t.length - i).toNat) λ_=>λ
   |11=> .ry 3
   |_=> .look
 |19=> .inv Int (λi=>⟨[(66,.os 0 1 (t.length - 1) t.length 1),(67,.si .i64 (t.length - 1:Nat)),(68,.si .i64 i)],[.row (.i .i64) (lz t.length (eZ t t.length)) 3 true]⟩) (λs=>iS s 68)
  (λi=>0<=i/\i<=(t.length - 1:Nat)/\∀j:Nat,j<i->((j:Int)+1)∈eZ t t.length) (λi=>((t.length - 1:Nat) - i).toNat) λ_ _=> .look
 |_=> .look
theorem h480:Holds Tryz.prog L0:=by
 refine cq (L:=[Fq,LQ,LS,LU,LW,LX,LY,LZ,r505]) L0 afi (by simpa using⟨h485,h493,h499,h503,h507,h491,h497,h501,h505⟩) ?_;intro(t:List cB) ht;refine bQ (let a:=(0:Int);let b:=γ0 false;let c:=Δ;let d:=(1:Int);let h:=γn;let k:=bU .i64;let o:=Ω .i64;let p:=bA.row;let y:=(2:Int);let z:=γo .i64 0;let v:=(↑t.length:Int);let L:=decide (v<d);let N:=decide ((65536:Int)<v);let I:=γz 0 t.length 1;let n:=(↑t.length:Int);let M:=o n;let U:=bw.i .i64;let A:=decide (v<=a);let J:=t.length - 1;let B:=SV.os 0 1 J t.length 1;let s:=(↑J:Int);let W:=o s;let Q:=lz t.length (eZ t t.length);let b5:=p U Q 3 true;(L=true->(b).same (h (de t)))/\(L=false->(N=true->(b).same (h (de t)))/\(N=false->a<=v/\v<=v/\v*(8:Int)<=(140737488355328:Int)/\v<=(1000000000000:Int)/\((((c bD t).same (c bD t)/\(γz 0 v.toNat 1).same I/\(c bD t).same (c bD t)/\(o v).same M/\(z).same (o 0)/\True)/\(p U (δ v.toNat a) 3 true).same (p U (lz t.length (eZ t 0)) 3 true)/\True)/\a<=a/\a<=n/\∀(j:Nat),(↑j:Int)<a->iM t j=true)/\∀(x:Int),let O:=decide (a<=x);let E:=lz t.length (eZ t x.toNat);let f:=E.length;let b6:=bp E 0 a;let d0:=decide (a<b6);let g:=E.set 0 (b6+d);let b0:=bp g 0 a;let c4:=decide (a<b0);let l:=g.set 0 (b0+d);let c7:=bp l 0 a;let d3:=decide (a<c7);let e:=x+d;let m:=o e;let G:=p U (lz t.length (eZ t e.toNat)) 3 true;let a0:=p U E 3 true;let q:=bp t x.toNat bD.dflt;let a7:=[q.snd.snd.fst,q.snd.snd.snd.fst];let w:=bp a7 2 a;let r:=bp a7 0 a;let Z:=bp E r.toNat a;let D:=E.set r.toNat (Z+d);let u:=bp a7 1 a;let b9:=bp D u.toNat a;let S:=D.set u.toNat (b9+d);let c1:=decide (q.fst=d);let F:=(q.fst,q.snd.fst,q.snd.snd.fst,q.snd.snd.snd.fst,q.snd.snd.snd.snd);let d4:=decide (q.fst=y);let c8:=decide (a<Z);let c9:=decide (a<b9);let c2:=bp S w.toNat a;let d1:=decide (a<c2);let d2:=decide (q.fst=(3:Int));let b8:=True/\(false=true->a<=a/\a<a/\0<0/\(O=true->(b).same (h (de t)))/\(O=false->(A=true->(b).same (h (de t)))/\(A=false->t.length=f/\a<=a/\a<(↑f:Int)/\t.length=f/\0<f/\(d0=true->(b).same (h (de t)))/\(d0=false->t.length=f/\a<=a/\a<(↑f:Int)/\t.length=f/\0<f/\k (b6+d)/\t.length=f/\a<=a/\a<(↑f:Int)/\t.length=f/\0<f/\(false=true->a<=d/\d<a/\1<0/\(O=true->(b).same (h (de t)))/\(O=false->(A=true->(b).same (h (de t)))/\(A=false->t.length=g.length/\a<=a/\a<(↑g.length:Int)/\t.length=g.length/\0<g.length/\(c4=true->(b).same (h (de t)))/\(c4=false->t.length=g.length/\a<=a/\a<(↑g.length:Int)/\t.length=g.length/\0<g.length/\k (b0+d)/\t.length=g.length/\a<=a/\a<(↑g.length:Int)/\t.length=g.length/\0<g.length/\(false=true->a<=y/\y<a/\2<0/\(O=true->(b).same (h (de t)))/\(O=false->(A=true->(b).same (h (de t)))/\(A=false->t.length=l.length/\a<=a/\a<(↑l.length:Int)/\t.length=l.length/\0<l.length/\(d3=true->(b).same (h (de t)))/\(d3=false->t.length=l.length/\a<=a/\a<(↑l.length:Int)/\t.length=l.length/\0<l.length/\k (c7+d)/\t.length=l.length/\a<=a/\a<(↑l.length:Int)/\t.length=l.length/\0<l.length/\False))))/\(false=false->k e/\(((c bD t).same (c bD t)/\I.same I/\(c bD t).same (c bD t)/\M.same M/\m.same m/\True)/\(p U l 3 true).same G/\True)/\(a<=e/\e<=n/\∀(j:Nat),(↑j:Int)<e->iM t j=true)/\(n - e).toNat<(n - x).toNat)))))/\(false=false->k e/\(((c bD t).same (c bD t)/\I.same I/\(c bD t).same (c bD t)/\M.same M/\m.same m/\True)/\(p U g 3 true).same G/\True)/\(a<=e/\e<=n/\∀(j:Nat),(↑j:Int)<e->iM t j=true)/\(n - e).toNat<(n - x).toNat)))))/\(false=false->k e/\(((c bD t).same (c bD t)/\I.same I/\(c bD t).same (c bD t)/\M.same M/\m.same m/\True)/\a0.same G/\True)/\(a<=e/\e<=n/\∀(j:Nat),(↑j:Int)<e->iM t j=true)/\(n - e).toNat<(n - x).toNat);let a4:=w<(↑S.length:Int);let b3:=w.toNat<S.length;let H:=t.length=S.length;let a1:=u<(↑D.length:Int);let a2:=u.toNat<D.length;let K:=t.length=D.length;let b2:=r<(↑f:Int);let c0:=r.toNat<f;let a6:=a<=w;let b4:=a<=r;let b7:=a<=u;(a<=x/\x<=n/\∀(j:Nat),(↑j:Int)<x->iM t j=true)->(decide (x<n)=true->a<=x/\x<v/\x.toNat<t.length/\True/\(c1=true->(∀(x:bM),x∈q.snd.snd.snd.snd->gK x)/\((!wf1 F)=true->(b).same (h (de t)))/\((!wf1 F)=false->b8))/\(c1=false->(d4=true->True/\((!wf2 F)=true->(b).same (h (de t)))/\((!wf2 F)=false->True/\(true=true->a<=a/\a<y/\0<2/\(decide (r<=x)=true->(b).same (h (de t)))/\(decide (r<=x)=false->(decide (v<=r)=true->(b).same (h (de t)))/\(decide (v<=r)=false->t.length=f/\b4/\b2/\t.length=f/\c0/\(c8=true->(b).same (h (de t)))/\(c8=false->t.length=f/\b4/\b2/\t.length=f/\c0/\k (Z+d)/\t.length=f/\b4/\b2/\t.length=f/\c0/\(true=true->a<=d/\d<y/\1<2/\(decide (u<=x)=true->(b).same (h (de t)))/\(decide (u<=x)=false->(decide (v<=u)=true->(b).same (h (de t)))/\(decide (v<=u)=false->K/\b7/\a1/\K/\a2/\(c9=true->(b).same (h (de t)))/\(c9=false->K/\b7/\a1/\K/\a2/\k (b9+d)/\K/\b7/\a1/\K/\a2/\(false=true->a<=y/\y<y/\2<2/\(decide (w<=x)=true->(b).same (h (de t)))/\(decide (w<=x)=false->(decide (v<=w)=true->(b).same (h (de t)))/\(decide (v<=w)=false->H/\a6/\a4/\H/\b3/\(d1=true->(b).same (h (de t)))/\(d1=false->H/\a6/\a4/\H/\b3/\k (c2+d)/\H/\a6/\a4/\H/\b3/\False))))/\(false=false->k e/\(((c bD t).same (c bD t)/\I.same I/\(c bD t).same (c bD t)/\M.same M/\m.same m/\True)/\(p U S 3 true).same G/\True)/\(a<=e/\e<=n/\∀(j:Nat),(↑j:Int)<e->iM t j=true)/\(n - e).toNat<(n - x).toNat)))))/\(true=false->k e/\(((c bD t).same (c bD t)/\I.same I/\(c bD t).same (c bD t)/\M.same M/\m.same m/\True)/\(p U D 3 true).same G/\True)/\(a<=e/\e<=n/\∀(j:Nat),(↑j:Int)<e->iM t j=true)/\(n - e).toNat<(n - x).toNat)))))/\(true=false->k e/\(((c bD t).same (c bD t)/\I.same I/\(c bD t).same (c bD t)/\M.same M/\m.same m/\True)/\a0.same G/\True)/\(a<=e/\e<=n/\∀(j:Nat),(↑j:Int)<e->iM t j=true)/\(n - e).toNat<(n - x).toNat)))/\(d4=false->(d2=true->True/\((!rY F)=true->(b).same (h (de t)))/\((!rY F)=false->b8))/\(d2=false->True/\(true=true->(b).same (h (de t)))/\(true=false->b8)))))/\(decide (x<n)=false->t.length=f/\1<=t.length/\t.length<=t.length/\(((B.same B/\W.same W/\(z).same (o 0)/\True)/\a0.same b5/\True)/\a<=a/\a<=s/\∀(j:Nat),(↑j:Int)<a->(↑j:Int)+d∈eZ t t.length)/\∀(x:Int),let c5:=decide (bp Q (1+x.toNat) 0=a);let C:=x+d;let d5:=o C;(a<=x/\x<=s/\∀(j:Nat),(↑j:Int)<x->(↑j:Int)+d∈eZ t t.length)->(decide (x<s)=true->t.length=Q.length/\a<=x/\x<s/\1+J<=t.length/\t.length=Q.length/\1+x.toNat<Q.length/\(c5=true->(b).same (h (de t)))/\(c5=false->k C/\((B.same B/\W.same W/\d5.same d5/\True)/\b5.same b5/\True)/\(a<=C/\C<=s/\∀(j:Nat),(↑j:Int)<C->(↑j:Int)+d∈eZ t t.length)/\(s - C).toNat<(s - x).toNat))/\(decide (x<s)=false->(γ0 true).same (h (de t))))))) (by kernel_rfl) ?_;simp only[vcs];refine⟨λh=>?_,λY=>⟨λh=>?_,λP=>?_⟩⟩
 ·have:¬(1<=t.length/\t.length<=65536):=by omega
  simp[de,this]
 ·have:¬(1<=t.length/\t.length<=65536):=by omega
  simp[de,this]
 have B:∀{x y:List Int},x=y->(bA.row (.i .i64) x 3 true).same (bA.row (.i .i64) y 3 true):=by rintro _ _ rfl;rfl
 have e0:∀{x y:Nat},x=y->(γz 0 x 1).same (γz 0 y 1):=by rintro _ _ rfl;rfl
 refine⟨by omega,by omega,by omega,by omega,⟨⟨e0 (by omega),B ?_⟩,by omega,by omega,λj hj=>by omega⟩,?_⟩;·rw[show eZ t 0=[] from rfl,aff];simp
 rintro i ⟨i0,i1,hi⟩;refine⟨λX=>?_,λe6=>?_⟩
 ·have a3:i.toNat<t.length:=by omega
  have hm:=ht _ (dn (d:=bD.dflt) a3);have hs:=wC i0 X;have hg:iM t i.toNat=(jS (bp t i.toNat bD.dflt)&&rZ t.length i (eZ t i.toNat) (eV (bp t i.toNat bD.dflt))):=by
   unfold iM;rw[show((i.toNat:Nat):Int)=i by omega]
  generalize bp t i.toNat bD.dflt=N at*;obtain⟨k,o,a,b,y⟩:=N;generalize hc:eZ t i.toNat=c at*;have T:iM t i.toNat=false->false=de t:=λh=>(afg a3 h).symm;have b1:iM t i.toNat=true->(∀j:Nat,(j:Int)<i+1->iM t j=true):=λh j hj=>by
   by_cases P:(j:Int)<i;·exact hi j P
   ·rw[show j=i.toNat by omega];exact h
  have J:=@yV t.length c;have w1:k=1->jS (k,o,a,b,y)=wf1 (k,o,a,b,y):=λh=>if_pos h;have w2:¬k=1->k=2->jS (k,o,a,b,y)=wf2 (k,o,a,b,y):=λh h'=>(if_neg h).trans (if_pos h');have w3:¬k=1->¬k=2->k=3->jS (k,o,a,b,y)=rY (k,o,a,b,y):=λh h' a5=>(if_neg h).trans ((if_neg h').trans (if_pos a5));have w4:¬k=1->¬k=2->¬k=3->jS (k,o,a,b,y)=false:=λh h' a5=>(if_neg h).trans ((if_neg h').trans (if_neg a5));have V:¬k=2->eV (k,o,a,b,y)=[]:=λh=>if_neg h;have d6:k=2->eV (k,o,a,b,y)=[a,b]:=λh=>if_pos h;have ea:bp [a,b] 0 0=a:=rfl;have eb:bp [a,b] 1 0=b:=rfl;dsimp only;simp only[ea,eb];refine⟨i0,X,a3,λY=>⟨hm,λR=>T ?_,λR=>⟨λh=>(by cases h),λ_=>⟨⟨by omega,by omega⟩,B ?_,⟨by omega,by omega,b1 ?_⟩,by omega⟩⟩⟩,λY=>⟨λP=>?_,λP=>⟨λh3=>⟨λR=>T ?_,λR=>⟨λh=>(by cases h),λ_=>⟨⟨by omega,by omega⟩,B ?_,⟨by omega,by omega,b1 ?_⟩,by omega⟩⟩⟩,λh3=>⟨λ_=>T ?_,λh=>(by cases h)⟩⟩⟩⟩;·rw[hg,w1 Y,R];rfl
  ·rw[hs,V (by omega),γ6]
  ·rw[hg,w1 Y,V (by omega),R];rfl
  ·have A:iM t i.toNat=(wf2 (k,o,a,b,y)&&(decide (i<a/\a<t.length)&&decide (a∉c)&&(decide (i<b/\b<t.length)&&decide (b∉c++[a])&&true))):=by rw[hg,w2 Y P,d6 P];rfl
   rw[d6 P] at hs;refine⟨λR=>T ?_,λR=>⟨λ_=>⟨by omega,by omega,by omega,λha=>T ?_,λha=>⟨λhb=>T ?_,λhb=>?_⟩⟩,λh=>(by cases h)⟩⟩;·rw[A,R];rfl
   ·rw[A,decide_eq_false (p:=i<a/\a<t.length) (by omega)];simp
   ·rw[A,decide_eq_false (p:=i<a/\a<t.length) (by omega)];simp
   have c3:a.toNat<t.length:=by omega
   have ca:=@yW t.length a.toNat c c3;rw[show((a.toNat:Nat):Int)=a by omega] at ca;have pa:=@Vd t.length c a (by omega) (by omega);have la:0<=a/\a<(lz t.length c).length:=by rw[J];omega
   have a8:a.toNat<(lz t.length c).length:=by rw[J];exact c3
   refine⟨J.symm,la.1,la.2,J.symm,a8,λe4=>T ?_,λe4=>⟨J.symm,la.1,la.2,J.symm,a8,⟨by omega,by omega⟩,J.symm,la.1,la.2,J.symm,a8,λ_=>?_,λh=>(by cases h)⟩⟩
   ·have:a∈c:=δX.1 (by omega);rw[A,decide_eq_false (p:=a∉c) (by simpa using this)];simp
   have e2:a∉c:=λh=>by have:=δX.2 h;omega
   simp only[pa];have z:=@yV t.length (c++[a]);refine⟨by omega,by omega,by omega,λd9=>T ?_,λd9=>⟨λe1=>T ?_,λe1=>?_⟩⟩;·rw[A,decide_eq_false (p:=i<b/\b<t.length) (by omega)];simp
   ·rw[A,decide_eq_false (p:=i<b/\b<t.length) (by omega)];simp
   have c6:b.toNat<t.length:=by omega
   have cb:=@yW t.length b.toNat (c++[a]) c6;rw[show((b.toNat:Nat):Int)=b by omega] at cb;have pb:=@Vd t.length (c++[a]) b (by omega) (by omega);have lb:0<=b/\b<(lz t.length (c++[a])).length:=by rw[z];omega
   have a9:b.toNat<(lz t.length (c++[a])).length:=by rw[z];exact c6
   refine⟨z.symm,lb.1,lb.2,z.symm,a9,λd8=>T ?_,λd8=>⟨z.symm,lb.1,lb.2,z.symm,a9,⟨by omega,by omega⟩,z.symm,lb.1,lb.2,z.symm,a9,λh=>(by cases h),λ_=>⟨⟨by omega,by omega⟩,B ?_,⟨by omega,by omega,b1 ?_⟩,by omega⟩⟩⟩
   ·have:b∈c++[a]:=δX.1 (by omega);rw[A,decide_eq_false (p:=b∉c++[a]) λh=>h this];simp
   ·rw[pb,hs,γ4];rfl
   ·have e3:b∉c++[a]:=λh=>by have:=δX.2 h;omega
    rw[A,R,decide_eq_true (p:=i<a/\a<t.length) (by omega),decide_eq_true (p:=i<b/\b<t.length) (by omega),decide_eq_true e2,decide_eq_true e3];rfl
  ·rw[hg,w3 Y P h3,R];rfl
  ·rw[hs,V P,γ6]
  ·rw[hg,w3 Y P h3,V P,R];rfl
  ·rw[hg,w4 Y P h3];rfl
 ·rw[show i.toNat=t.length by omega];have J:=@yV t.length (eZ t t.length);refine⟨J.symm,by omega,by omega,⟨B rfl,by omega,by omega,λj hj=>by omega⟩,?_⟩;rintro x ⟨x0,x1,hx⟩;refine⟨λX=>?_,λe5=>?_⟩
  ·have cx:=@yW t.length (1+x.toNat) (eZ t t.length) (by omega);rw[show(((1+x.toNat:Nat)):Int)=(x.toNat:Int)+1 by omega] at cx;refine⟨J.symm,x0,X,by omega,J.symm,by rw[J];omega,λh=>?_,λh=>⟨⟨by omega,by omega⟩,⟨by omega,by omega,λj hj=>?_⟩,by omega⟩⟩;·exact(afh (k:=x.toNat) (by omega) λhm=>by have:=δX.2 hm;omega).symm
   ·by_cases d7:(j:Int)<x;·exact hx j d7
    ·rw[show j=x.toNat by omega];exact δX.1 (by omega)
  ·symm;unfold de;rw[decide_eq_true (by omega),ξ.2 λk hk=>hi k (by have:=γp.1 hk;omega),ξ.2 λk hk=>decide_eq_true (hx k (by have:=γp.1 hk;omega))];rfl
def oH (p:bz) (f:List Int) (y:List Rat) (r k:Nat) (i:Int):Rat:=if bp f i.toNat 0=0 then gi p y (if i<(k:Int) then r+1 else r) i else(((oI p i).value:Int):Rat)
def iu (p:bz) (f:List Int) (y:List Rat) (r k:Nat):List bM:=(dL p.offers.length).map λ(i:Int)=>bu (oH p f y r k i)
def fY (p:bz) (f:List Int) (y:List Rat) (i:Nat):Rat:=iZ p f y (mF p)+bV i λk=>if bp f k 0=0/\0<gi p y (mF p) k then gi p y (mF p) k else 0
def pC (n:Nat) (K:Nat->Nat):Nat:=match n with
 |0=>0
 |n+1=>pC n K+K n
def yX (p:bz) (y:List Rat):Prop:=∃K:Nat->Nat,(∀k,k<mF p->Sz (K k) (bp y k 0))/\pC (mF p) K<=9000000
def qU (p:bz) (f:List Int) (x:List bM):Prop:=(bH p=0/\f.length=p.offers.length/\fQ f=true)/\∃y,x=fL y/\y.length=mF p/\yX p y
def posB (x:List bM):Bool:=x.all λe=>!e.1
theorem yY {p:bz} {f:List Int} {y:List Rat} {r k:Nat}:(iu p f y r k).length=p.offers.length:=by grind[iu,jw]
theorem yZ {p:bz} {f:List Int} {y:List Rat} {r k j:Nat} (h:j<p.offers.length) {d:bM}:bp (iu p f y r k) j d=bu (oH p f y r k j):=Lr _ _ h
theorem L1 {p:bz} {f:List Int} {y:List Rat} {r k a b:Nat} (h:∀j:Nat,j<p.offers.length->oH p f y r k j=oH p f y a b j):iu p f y r k=iu p f y a b:=by
 refine yR (false,([],[])) (by grind[yY]) λj c=>?_;grind[yY,yZ]
theorem afj {p:bz} {f:List Int} {y:List Rat} {i:Int} (a:0<=i):oH p f y 0 0 i=(((oI p i).value:Int):Rat):=by
 unfold oH;rw[if_neg (show ¬i<((0:Nat):Int) by omega)];grind[gi,bV]
theorem afk {p:bz} {f:List Int} {y:List Rat} {r:Nat}:iu p f y r p.offers.length=iu p f y (r+1) 0:=L1 λj a=>by
 simp_all[oH,if_neg]
theorem L9 {p:bz} {f:List Int} {y:List Rat} {r:Nat} {k:Int} (c:0<=k) (h:bp f k.toNat 0≠0\/dW p r (oI p k)=0\/bp y r 0=0):iu p f y r k.toNat=iu p f y r (k+1).toNat:=L1 λj a=>by
 unfold oH;by_cases a:(j:Int)=k
 ·rw[if_neg (show ¬(j:Int)<((k.toNat:Nat):Int) by omega),if_pos (show(j:Int)<(((k+1).toNat:Nat):Int) by omega),a];split
  ·rename_i b;rw[E9];rcases h with h|h|h;·omega
   ·rw[h];grind
   ·rw[h];grind
  ·rfl
 grind
theorem afl {p:bz} {f:List Int} {y:List Rat} {r:Nat} (h:bp y r 0=0):iu p f y r 0=iu p f y (r+1) 0:=L1 λj a=>by
 unfold oH;rw[if_neg (show ¬(j:Int)<((0:Nat):Int) by omega),if_neg (show ¬(j:Int)<((0:Nat):Int) by omega),E9,h];split<;>grind
theorem afm {p:bz} {f:List Int} {y:List Rat} {r:Nat} {k:Int} (c:0<=k) (h:k<p.offers.length) (b:bp f k.toNat 0=0):(iu p f y r k.toNat).set k.toNat (bu (gi p y (r+1) k))=iu p f y r (k+1).toNat:=by
 refine yR (false,([],[])) (by grind[yY]) λj a=>?_;rw[List.length_set,yY] at a;rw[iV (by grind[yY]),yZ a,yZ a];unfold oH;grind
theorem afn {p:bz} {f:List Int} {y:List Rat} {r:Nat} {k:Int} (b:0<=k) (a:bp f k.toNat 0=0):oH p f y r k.toNat k=gi p y r k:=by
 unfold oH;grind
theorem afo {p:bz} {f:List Int} {y:List Rat} {r:Nat} (h:bp y r 0=0):iZ p f y r=iZ p f y (r+1):=by
 grind[Ls]
theorem Mc {p:bz} {f:List Int} {y:List Rat}:fY p f y 0=iZ p f y (mF p):=by
 grind[fY,bV]
theorem Me {p:bz} {f:List Int} {y:List Rat} {i:Int} (a:0<=i):fY p f y (i+1).toNat=fY p f y i.toNat+if bp f i.toNat 0=0/\0<gi p y (mF p) i then gi p y (mF p) i else 0:=by
 rw[show(i+1).toNat=i.toNat+1 by omega];grind[fY,bV]
section
variable {p:bz} {f:List Int} {y:List Rat}
theorem Ve {K:Nat->Nat}:∀{n k:Nat},k<n->K k<=pC n K
 |0,_,h=>by omega;|n+1,k,h=>by
  simp only[pC];by_cases e:k=n;·rw[e];omega
  ·have:=@Ve K n k (by omega);omega
theorem Vf {g:Nat->Rat} {K:Nat->Nat} {c:Nat}:∀{n:Nat},(∀k,k<n->Sz (K k+c) (g k))->Sz (pC n K+n*(c+1)+1) (bV n g)
 |0,_=>by
  simp only[bV];exact(show Sz 1 0 by simp_all[Sz]).mono (by omega);|n+1,h=>by
  simp only[bV,pC];have a:Sz (pC n K+n*(c+1)+1) (bV n g):=Vf λk b=>h k (by omega);exact(vQ a (h n (by omega))).mono (by grind)
theorem Fv (h:yX p y) {k:Nat} (a:k<mF p):Sz 9000000 (bp y k 0):=by
 obtain⟨K,b,c⟩:=h;exact(b k a).mono (by have:=@Ve K _ _ a;omega)
def qd (y:List Rat) (m:Nat) (C:Int) (q:Rat):Prop:=∃(c:Int) (z:Nat->Int),(-C<=c/\c<=C)/\(∀r,r<m-> -C<=z r/\z r<=C)/\q=(c:Rat)+bV m λr=>bp y r 0*((z r:Int):Rat)
theorem afp {m:Nat} {C D:Int} {q b:Rat} (h:qd y m C q) (j:qd y m D b):qd y m (C+D) (q+b):=by
 obtain⟨c,z,l,o,n⟩:=h;obtain⟨f,a,g,d,i⟩:=j;refine⟨c+f,λr=>z r+a r,by omega,λr k=>?_,?_⟩;·grind
 ·have e:(bV m λr=>bp y r 0*(((z r+a r:Int)):Rat))=(bV m λr=>bp y r 0*((z r:Int):Rat))+bV m λr=>bp y r 0*((a r:Int):Rat):=by
   simp_all[yq,Rat.mul_add]
  grind
theorem afq {m:Nat} {C D:Int} {q:Rat} (h:qd y m C q) (f:C<=D):qd y m D q:=by
 obtain⟨c,z,b,e,a⟩:=h;exact⟨c,z,by omega,λr d=>by grind,a⟩
theorem afr {m:Nat} {C:Int} (a:0<=C):qd y m C 0:=⟨0,λ_=>0,by omega,λ_ _=>⟨by simp_all,a⟩,by
 simp_all[iU,εN]⟩
theorem MA {C:Int} {q:Rat} (h:qd y (mF p) C q) (g:C<=9223372036854775807) (b:yX p y) (j:mF p<=20):Sz 9000100 q:=by
 obtain⟨c,z,k,f,rfl⟩:=h;obtain⟨K,i,d⟩:=b;have a:Sz (pC (mF p) K+mF p*3+1) (bV (mF p) λr=>bp y r 0*((z r:Int):Rat)):=Vf (c:=2) λr e=>by
  grind[rO,lN]
 refine(vQ (lN (W:=c) (by omega) (by omega)) a).mono ?_;omega
theorem Vg {g:Nat->Rat} {r:Nat}:∀{m:Nat},r<=m->(bV m λk=>if k<r then g k else 0)=bV r g
 |0,h=>by rw[show r=0 by omega];rfl;|m+1,h=>by
  by_cases e:r=m+1;·simp_all[dM]
  ·simp only[bV];rw[if_neg (by omega),εN];exact Vg (by omega)
theorem Vh {r m:Nat} (a:r<=m) {C c:Int} {z:Nat->Int} (b: -C<=c/\c<=C) (e:∀k,k<r-> -C<=z k/\z k<=C):qd y m C ((c:Rat)+bV r λk=>bp y k 0*((z k:Int):Rat)):=by
 refine⟨c,λk=>if k<r then z k else 0,b,λk d=>?_,?_⟩;·grind
 ·rw[<-Vg a];congr 1;refine dM λk _=>?_;show _=bp y k 0*(((if k<r then z k else 0:Int)):Rat);split<;>simp_all
theorem Vj (d:bH p=0) {r:Nat} (a:r<=mF p) {i:Int} (c:0<=i/\i<p.offers.length):qd y (mF p) 1000000 (gi p y r i):=by
 have b:=kC d c;have h:=@Vh y r (mF p) a 1000000 (oI p i).value (λk=> -dW p k (oI p i)) (by omega) λk _=>by
  have:=@o6 p k _ b.2.2.1;omega
 have e:gi p y r i=(((oI p i).value:Int):Rat)+bV r λk=>bp y k 0*(((-dW p k (oI p i):Int)):Rat):=by
  unfold gi;rw[Rat.sub_eq_add_neg];congr 1;rw[show(-(bV r λk=>bp y k 0*((dW p k (oI p i):Int):Rat)))=(-1)*(bV r λk=>bp y k 0*((dW p k (oI p i):Int):Rat)) by grind,<-wh];grind
 simp_all
theorem Vk (b:bH p=0) (a:f.length=p.offers.length) {r:Nat} (d:r<=mF p):qd y (mF p) 1000000000 (iZ p f y r):=by
 have c:=@yG p b f f.length a;rw[χ] at c;unfold iZ;refine Vh d (by omega) λk _=>?_;have e:=@Lu p f k f.length b a;grind[Fa]
theorem Vl (e:bH p=0) (c:f.length=p.offers.length):∀{i:Nat},i<=f.length->qd y (mF p) (1000000000+1000000*i) (fY p f y i)
 |0,_=>by grind[Mc,Vk];|i+1,h=>by
  have a:=@Me p f y i (by omega);rw[show((i:Int)+1).toNat=i+1 by omega,γb] at a;rw[a];have b:=Vl e c (i:=i) (by omega);have d:qd y (mF p) 1000000 (if bp f i 0=0/\0<gi p y (mF p) i then gi p y (mF p) i else 0):=by
   grind[Vj,afr]
  exact afq (afp b d) (by omega)
theorem Fz (a:bH p=0):mF p<=20:=by have:=(dR a).1;grind
theorem Br (a:bH p=0) (d:yX p y) {r:Nat} (b:r<=mF p) {i:Int} (c:0<=i/\i<p.offers.length):Sz 9000100 (gi p y r i):=MA (Vj a b c) (by omega) d (Fz a)
theorem Vm (a:bH p=0) (c:f.length=p.offers.length) (d:yX p y) {r:Nat} (b:r<=mF p):Sz 9000100 (iZ p f y r):=MA (Vk a c b) (by omega) d (Fz a)
theorem FA (a:bH p=0) (c:f.length=p.offers.length) (b:yX p y) {i:Nat} (d:i<=f.length):Sz 9000100 (fY p f y i):=MA (Vl a c d) (by have:=(dR a).2.1;omega) b (Fz a)
end
def afs (f:FuncId) {c:Type} (A:qB c) (e:c->Prop) (d:c->SV):dD where
 f:=f;α:=c;put:=A.put;st _:=[];dec v o:=match o with
  |[]=>A.dec v
  |_=>none;ok v o a h:=by
  split at h;·exact⟨A.ok _ _ h,rfl⟩
  ·cases h
 inj a b h _:=A.inj _ _ h;dom:=e;res:=d;out _:=[]
def MB:dD:=afs 108 (.cons dO (.one (cV (.i .i64)))) (λ(a:bz×List Int)=>bH a.1=0/\a.2.length=a.1.offers.length) λa=>lr (ζ (fj a.1 a.2))
def aft (p:bz) (f:List Int):Nat->cC
 |3=> .inv Int (λi=>⟨[(2,.ptr 0 0 20),(4,.ptr 1 0 3),(5,.si .i64 (fj p (f.take i.toNat))),(8,.row (.i .i64) f),(9,.si .i64 f.length),(10,.si .i64 i)],[.cells p.ss 27 20 false,.cells [.bl false,.sc (.slice none 0 0),.sc (.slice none 0 0)] 126 3 false]⟩)
   (λs=>iS s 10) (λi=>0<=i/\i<=f.length) (λi=>(f.length - i).toNat) λ_ _=> .look
 |_=> .look
theorem h396o:eu Tryz.prog MB:=by
 refine Be (L:=[oo]) (W:=[]) MB (λa=>aft a.1 a.2) (by simp) (by grind[h94]) ?_;rintro⟨p,f⟩ ⟨m,w⟩;simp only at m w;refine bQ (let a:=Ω .i64;let m:=(0:Int);let w:=Δ;let s:=γU 0 0 20;let o:=γU 1 0 3;let B:=γo .i64 0;let q:=w (bw.i .i64) f;let d:=(↑f.length:Int);let v:=a d;let r:=bA.cells (bz.ss p) 27 20 false;let z:=SV.sc (Value.slice none 0 0);let t:=bA.cells [γ0 false,z,z] 126 3 false;let n:=bw.i .u32;let g:=bu (ζ (fj p f));(((s.same s/\o.same o/\B.same (a (fj p []))/\q.same q/\(a (↑f.length:Int)).same v/\B.same (a 0)/\True)/\r.same r/\t.same t/\True)/\m<=m/\m<=d)/\∀(x:Int),let b:=x+(1:Int);let h:=a b;let j:=decide (bp f x.toNat m=(1:Int));let c:=fj p (τ x.toNat f);let k:=c+(bp p.offers x.toNat bw.off.dflt).value;let e:=bu (ζ c);let l:=λ(u:Int) ↦bU .i64 b/\((s.same s/\o.same o/\(a u).same (a (fj p (τ b.toNat f)))/\q.same q/\v.same v/\h.same h/\True)/\r.same r/\t.same t/\True)/\(m<=b/\b<=d)/\(d - b).toNat<(d - x).toNat;m<=x/\x<=d->(decide (x<d)=true->m<=x/\x<(↑f.length:Int)/\x.toNat<f.length/\(j=true->m<=x/\x<(↑p.offers.length:Int)/\x.toNat<p.offers.length/\bU .i64 k/\l k)/\(j=false->l c))/\(decide (x<d)=false->((-9223372036854775808:Int)<=c/\c<=(9223372036854775807:Int))/\(γF [γn e.fst,w n e.snd.fst,w n e.snd.snd]).same (γF [γn g.fst,w n g.snd.fst,w n g.snd.snd])/\True)) (by kernel_rfl) ?_;simp only[vcs];have C:=(dR m).2.1;refine⟨⟨by simp[fj,bE,dL,cK],by omega,by omega⟩,?_⟩;rintro i ⟨y,G⟩;have D:=@yG p m f i.toNat w;refine⟨λA=>?_,λA=>?_⟩
 ·have H:=@KH p f i y A;have F:=kC m (i:=i) ⟨y,by omega⟩;have E:(bp p.offers i.toNat bw.off.dflt).value=(oI p i).value:=rfl;grind
 ·rw[show f.take i.toNat=f by rw[show i.toNat=f.length by omega,χ]] at D ⊢;exact⟨by omega,rfl⟩
def Vn (p:bz) (f:List Int) (x:List bM):SV:=.agg [.sb (if posB x=true then(bu (fY p f (vL x) f.length)).1 else false),.row (.i .u32) (if posB x=true then(bu (fY p f (vL x) f.length)).2.1 else[]),.row (.i .u32) (if posB x=true then(bu (fY p f (vL x) f.length)).2.2 else[])]
def MC:bL:=⟨211,bz×List Int×List bM,.cons dO (.cons (cV (.i .i64)) (.one (cV sF))),λa=>qU a.1 a.2.1 a.2.2,λa=> .bN [Vn a.1 a.2.1 a.2.2,.si .i64 (if posB a.2.2=true then 0 else 4)]⟩
def FB (p:bz) (q:Rat) (a:List bM):cu:=[.cells p.ss 27 20 false,.cells [.bl false,.sc (.slice none 0 0),.sc (.slice none 0 0)] 126 3 false,.cells [.sb (bu q).1,.row (.i .u32) (bu q).2.1,.row (.i .u32) (bu q).2.2] 126 3 false,.row sF a 126 true]
noncomputable def afu (p:bz) (f:List Int) (x:List bM):Nat->cC
 |7=> .inv Int (λi=>⟨[(1,.row (.i .i64) f),(2,.row sF x),(3,.ptr 0 0 20),(6,.ptr 1 0 3),(35,.row sF x),(36,.si .i64 x.length),(37,.si .i64 i)],[.cells p.ss 27 20 false,.cells [.bl false,.sc (.slice none 0 0),.sc (.slice none 0 0)] 126 3 false]⟩)
   (λs=>iS s 37) (λi=>0<=i/\i<=x.length/\posB (x.take i.toNat)=true) (λi=>(x.length - i).toNat) λ_ _=> .look
 |17=> .inv Int (λi=>⟨[(1,.row (.i .i64) f),(2,.row sF x),(3,.ptr 0 0 20),(6,.ptr 1 0 3),(11,.ptr 2 0 3),(12,.ow 3 f.length 3),(57,.si .i64 f.length),(58,.si .i64 i)],FB p (ζ (fj p f)) (eY (iu p f (vL x) 0 0) i.toNat (false,([],[])))⟩)
   (λs=>iS s 58) (λi=>0<=i/\i<=f.length) (λi=>(f.length - i).toNat) λ_ _=> .look
 |22=> .inv Int (λr=>⟨[(1,.row (.i .i64) f),(3,.ptr 0 0 20),(6,.ptr 1 0 3),(11,.ptr 2 0 3),(12,.ow 3 f.length 3),(72,.row sF x),(73,.si .i64 x.length),(74,.si .i64 r)],FB p (iZ p f (vL x) r.toNat) (iu p f (vL x) r.toNat 0)⟩)
   (λs=>iS s 74) (λr=>0<=r/\r<=x.length) (λr=>(x.length - r).toNat) λr k=>match k with
   |27=> .inv Int (λk=>⟨[(1,.row (.i .i64) f),(3,.ptr 0 0 20),(6,.ptr 1 0 3),(11,.ptr 2 0 3),(12,.ow 3 f.length 3),(15,.ptr 4 0 3),(17,.si .i64 (kZ p f r k.toNat)),(72,.row sF x),(73,.si .i64 x.length),(74,.si .i64 r),(88,.row (.i .i64) (eM p r p.offers.length)),(89,.si .i64 f.length),(90,.si .i64 k)],
      FB p (iZ p f (vL x) r.toNat) (iu p f (vL x) r.toNat k.toNat)++[.cells [.sb (bp x r.toNat sF.dflt).1,.row (.i .u32) (bp x r.toNat sF.dflt).2.1,.row (.i .u32) (bp x r.toNat sF.dflt).2.2] 126 3 false]⟩)
     (λs=>iS s 90) (λk=>0<=k/\k<=f.length) (λk=>(f.length - k).toNat) λ_ _=> .look
   |_=> .look
 |38=> .inv Int (λi=>⟨[(6,.ptr 1 0 3),(11,.ptr 2 0 3),(12,.ow 3 f.length 3),(133,.row (.i .i64) f),(134,.si .i64 f.length),(135,.si .i64 i)],FB p (fY p f (vL x) i.toNat) (iu p f (vL x) (mF p) 0)⟩)
   (λs=>iS s 135) (λi=>0<=i/\i<=f.length) (λi=>(f.length - i).toNat) λ_ _=> .look
 |_=> .look
theorem h494:Holds Tryz.prog MC:=by
 refine con (L:=[EP,yi,uE,sQ,oo,Ek,A6,Av,vU]) (W:=gC [MB]) MC (λa=>afu a.1 a.2.1 a.2.2) (lj (by grind[h396o])) (by simpa using⟨h393,h335,h407,h99,h94,h336,h410,h95,h129⟩) ?_;rintro⟨p,f,x⟩ ⟨⟨hc,hl,hr⟩,y,hx,j6,hy⟩;simp only at hc hl hr hx j6 hy;refine bQ (let a:=Δ;let d:=Ω .i64;let h:=(0:Int);let k:=bA.cells;let l:=bA.row;let q:=(-9223372036854775808:Int);let r:=(9223372036854775807:Int);let y:=bU .i64;let H:=γn;let L:=(1:Int);let R:=γo .i64;let T:=sF.dflt;let W:=SV.bN;let aa:=γU;let ab:=γ0 false;let ac:=γF;let t:=bw.i .i64;let af:=ac [ab,a t [],a t []];let ag:=bu (fY p f (vL x) f.length);let z:=bw.i .u32;let ae:=W [ac [H (if posB x=true then ag.fst else false),a z (if posB x=true then ag.snd.fst else[]),a z (if posB x=true then ag.snd.snd else[])],d (if posB x=true then h else(4:Int))];let ad:=(↑x.length:Int);let ah:=if bH p=h then cE p else h;let K:=aa 0 0 20;let B:=aa 1 0 3;let s:=(↑x.length:Int);let w:=d s;let U:=R 0;let g:=k [d p.supply.a0,d p.supply.a1,d p.supply.a2,d p.supply.a3,d p.supply.a4,d p.supply.a5,d p.opn.a0,d p.opn.a1,d p.opn.a2,d p.opn.a3,d p.opn.a4,d p.opn.a5,d p.cls.a0,d p.cls.a1,d p.cls.a2,d p.cls.a3,d p.cls.a4,d p.cls.a5,a t p.classes,a bw.off p.offers] 27 20 false;let i6:=SV.sc (Value.slice none 0 0);let j:=k [ab,i6,i6] 126 3 false;let h5:=p.offers.length;let C:=(↑f.length:Int);let n:=aa 2 0 3;let o:=γz 3 f.length 3;let e:=(↑f.length:Int);let A:=d e;let b0:=bu (ζ (fj p f));let c7:=k [H b0.fst,a z b0.snd.fst,a z b0.snd.snd] 126 3 false;let c1:=(false,[],[]);let c5:=iu p f (vL x) 0 0;let d0:=bu (iZ p f (vL x) 0);let a9:=aa 4 0 3;let k3:=bu (fY p f (vL x) 0);let d5:=iu p f (vL x) (mF p) 0;let b7:=l sF d5 126 true;let M:=d5.length;let ai:=λ(u P:Int) (j8:SV) ↦decide (u≠P)=true->(W [af,j8]).same ae;f.length<=1000000000000/\ai (fz p f) h (d (fz p f))/\(decide (fz p f≠h)=false->True/\ai ad ah (R 3)/\(decide (ad≠ah)=false->((((a t f).same (a t f)/\(a sF x).same (a sF x)/\K.same K/\B.same B/\(a sF x).same (a sF x)/\(d ad).same w/\U.same (d 0)/\True)/\g.same g/\j.same j/\True)/\h<=h/\h<=s/\posB []=true)/\∀(G:Int),let O:=bp x G.toNat T;let e5:=(O.fst,O.snd.fst,O.snd.snd);let Y:=G+L;let i3:=d Y;let i9:=λ(u:Bool) ↦decide (gG (bK e5)<h)=u;let h4:=λ(u:Bool) ↦(!okF e5)=u;h<=G/\G<=s/\posB (τ G.toNat x)=true->(decide (G<s)=true->h<=G/\G<ad/\G.toNat<x.length/\((bB O.snd.fst/\bB O.snd.snd)/\Φ O.snd.fst<=10000000/\Φ O.snd.snd<=10000000)/\(h4 true->(W [af,R 2]).same ae)/\(h4 false->cF e5/\(i9 true->(W [af,R 4]).same ae)/\(i9 false->y Y/\(((a t f).same (a t f)/\(a sF x).same (a sF x)/\K.same K/\B.same B/\(a sF x).same (a sF x)/\w.same w/\i3.same i3/\True)/\g.same g/\j.same j/\True)/\(h<=Y/\Y<=s/\posB (τ Y.toNat x)=true)/\(s - Y).toNat<(s - G).toNat)))/\(decide (G<s)=false->(bH p=h/\f.length=h5)/\h<=C/\C<=C/\C*(56:Int)<=(140737488355328:Int)/\C<=(1000000000000:Int)/\((((a t f).same (a t f)/\(a sF x).same (a sF x)/\K.same K/\B.same B/\n.same n/\(γz 3 C.toNat 3).same o/\(d (↑C.toNat:Int)).same A/\U.same (d 0)/\True)/\g.same g/\j.same j/\(k [H b0.fst,a z b0.snd.fst,a z b0.snd.snd] 126 3 false).same c7/\(l (bw.b.pair (z.bP.pair z.bP)) (δ C.toNat c1) 126 true).same (l sF (eY c5 0 c1) 126 true)/\True)/\h<=h/\h<=e)/\∀(v:Int),let e0:=(bp p.offers v.toNat bw.off.dflt).value;let V:=eY c5 v.toNat c1;let a7:=v+L;let g9:=d a7;let d3:=bu (ζ e0);h<=v/\v<=e->(decide (v<e)=true->h<=v/\v<(↑p.offers.length:Int)/\v.toNat<p.offers.length/\(q<=e0/\e0<=r)/\f.length=V.length/\h<=v/\v<(↑V.length:Int)/\f.length=V.length/\v.toNat<V.length/\y a7/\(((a t f).same (a t f)/\(a sF x).same (a sF x)/\K.same K/\B.same B/\n.same n/\o.same o/\A.same A/\g9.same g9/\True)/\g.same g/\j.same j/\c7.same c7/\(l sF (V.set v.toNat (d3.fst,d3.snd.fst,d3.snd.snd)) 126 true).same (l sF (eY c5 a7.toNat c1) 126 true)/\True)/\(h<=a7/\a7<=e)/\(e - a7).toNat<(e - v).toNat)/\(decide (v<e)=false->((((a t f).same (a t f)/\K.same K/\B.same B/\n.same n/\o.same o/\(a sF x).same (a sF x)/\(d ad).same w/\U.same (d 0)/\True)/\g.same g/\j.same j/\c7.same (k [H d0.fst,a z d0.snd.fst,a z d0.snd.snd] 126 3 false)/\(l sF V 126 true).same (l sF c5 126 true)/\True)/\h<=h/\h<=s)/\∀(m:Int),let a6:=bu (iZ p f (vL x) m.toNat);let Q:=k [H a6.fst,a z a6.snd.fst,a z a6.snd.snd] 126 3 false;let e6:=l sF (iu p f (vL x) m.toNat 0) 126 true;let a8:=bp x m.toNat T;let j1:=(a8.fst,a8.snd.fst,a8.snd.snd);let D:=m+L;let b9:=d D;let c0:=bu (iZ p f (vL x) D.toNat);let g0:=l sF (iu p f (vL x) D.toNat 0) 126 true;let I:=eM p m h5;let Z:=bp x m.toNat T;let b6:=k [H Z.fst,a z Z.snd.fst,a z Z.snd.snd] 126 3 false;let b4:=(Z.fst,Z.snd.fst,Z.snd.snd);let g1:=(a6.fst,a6.snd.fst,a6.snd.snd);let i4:=λ(u:bM) (P:bA) ↦Q.same (k [H u.fst,a z u.snd.fst,a z u.snd.snd] 126 3 false)/\e6.same P/\True;let g8:=λ(u:Bool) ↦decide (gG (bK j1)=h)=u;h<=m/\m<=s->(decide (m<s)=true->h<=m/\m<ad/\m.toNat<x.length/\cF j1/\(g8 true->y D/\(((a t f).same (a t f)/\K.same K/\B.same B/\n.same n/\o.same o/\(a sF x).same (a sF x)/\w.same w/\b9.same b9/\True)/\g.same g/\j.same j/\i4 c0 g0)/\(h<=D/\D<=s)/\(s - D).toNat<(s - m).toNat)/\(g8 false->(bH p=h/\h<=m/\m<cE p)/\((((a t f).same (a t f)/\K.same K/\B.same B/\n.same n/\o.same o/\a9.same a9/\(d (di p m)).same (d (kZ p f m 0))/\(a sF x).same (a sF x)/\w.same w/\(d m).same (d m)/\(a t I).same (a t I)/\(d (↑I.length:Int)).same A/\U.same (d 0)/\True)/\g.same g/\j.same j/\Q.same Q/\e6.same e6/\(k [H a8.fst,a z a8.snd.fst,a z a8.snd.snd] 126 3 false).same b6/\True)/\h<=h/\h<=e)/\∀(c:Int),let F:=c+L;let N:=kZ p f m c.toNat;let i7:=d (kZ p f m F.toNat);let c2:=d m;let b8:=d F;let E:=iu p f (vL x) m.toNat c.toNat;let e8:=l sF E 126 true;let f7:=l sF (iu p f (vL x) m.toNat F.toNat) 126 true;let S:=bp I c.toNat h;let f3:=decide (S=h);let f4:=bp f c.toNat h;let f6:=decide (f4=L);let j0:=decide (f4=h);let e9:=bu (ζ S);let h6:=(e9.fst,e9.snd.fst,e9.snd.snd);let d2:=bp E c.toNat T;let g4:=(d2.fst,d2.snd.fst,d2.snd.snd);let d8:=bu (bK b4*bK h6);let e7:=bu (bK g4 - bK (d8.fst,d8.snd.fst,d8.snd.snd));let d9:=bu (ζ N);let h9:=(d9.fst,d9.snd.fst,d9.snd.snd);let d4:=bu (bK b4*bK h9);let e1:=bu (bK g1+bK (d4.fst,d4.snd.fst,d4.snd.snd));let f0:=y F/\(((a t f).same (a t f)/\K.same K/\B.same B/\n.same n/\o.same o/\a9.same a9/\(d N).same i7/\(a sF x).same (a sF x)/\w.same w/\c2.same c2/\(a t I).same (a t I)/\A.same A/\b8.same b8/\True)/\g.same g/\j.same j/\Q.same Q/\e8.same f7/\b6.same b6/\True)/\(h<=F/\F<=e)/\(e - F).toNat<(e - c).toNat;let i5:=λ(u:Int) (P:bA) ↦y F/\(((a t f).same (a t f)/\K.same K/\B.same B/\n.same n/\o.same o/\a9.same a9/\(d u).same i7/\(a sF x).same (a sF x)/\w.same w/\c2.same c2/\(a t I).same (a t I)/\A.same A/\b8.same b8/\True)/\g.same g/\j.same j/\Q.same Q/\P.same f7/\b6.same b6/\True)/\(h<=F/\F<=e)/\(e - F).toNat<(e - c).toNat;let i2:=λ(u:Bool×List Int×List Int) (P:Int) ↦let d1:=bu (ζ P);let e4:=bu (bK b4*bK (d1.fst,d1.snd.fst,d1.snd.snd));cF u/\cF (e4.fst,e4.snd.fst,e4.snd.snd);h<=c/\c<=e->(decide (c<e)=true->h<=c/\c<(↑I.length:Int)/\c.toNat<I.length/\(f3=true->f0)/\(f3=false->h<=c/\c<C/\c.toNat<f.length/\(f6=true->y (N - S)/\i5 (N - S) e8)/\(f6=false->h<=c/\c<C/\c.toNat<f.length/\(j0=true->f.length=E.length/\h<=c/\c<(↑E.length:Int)/\f.length=E.length/\c.toNat<E.length/\(q<=S/\S<=r)/\(cF b4/\cF h6)/\i2 g4 S/\f.length=E.length/\h<=c/\c<(↑E.length:Int)/\f.length=E.length/\c.toNat<E.length/\i5 N (l sF (E.set c.toNat (e7.fst,e7.snd.fst,e7.snd.snd)) 126 true))/\(j0=false->f0))))/\(decide (c<e)=false->(q<=N/\N<=r)/\(cF b4/\cF h9)/\i2 g1 N/\y D/\(((a t f).same (a t f)/\K.same K/\B.same B/\n.same n/\o.same o/\(a sF x).same (a sF x)/\w.same w/\b9.same b9/\True)/\g.same g/\j.same j/\(k [H e1.fst,a z e1.snd.fst,a z e1.snd.snd] 126 3 false).same (k [H c0.fst,a z c0.snd.fst,a z c0.snd.snd] 126 3 false)/\e8.same g0/\True)/\(h<=D/\D<=s)/\(s - D).toNat<(s - m).toNat)))/\(decide (m<s)=false->(((B.same B/\n.same n/\o.same o/\(a t f).same (a t f)/\(d C).same A/\U.same (d 0)/\True)/\g.same g/\j.same j/\i4 k3 b7)/\h<=h/\h<=e)/\∀(c:Int),let J:=c+L;let c3:=d J;let X:=bu (fY p f (vL x) c.toNat);let g3:=[H X.fst,a z X.snd.fst,a z X.snd.snd];let d7:=bu (fY p f (vL x) J.toNat);let h8:=k [H d7.fst,a z d7.snd.fst,a z d7.snd.snd] 126 3 false;let e3:=bp d5 c.toNat T;let c9:=(e3.fst,e3.snd.fst,e3.snd.snd);let f5:=decide (bp f c.toNat h=h);let g7:=(X.fst,X.snd.fst,X.snd.snd);let b5:=bu (bK g7+bK c9);let g5:=y J/\((B.same B/\n.same n/\o.same o/\(a t f).same (a t f)/\A.same A/\c3.same c3/\True)/\g.same g/\j.same j/\(k g3 126 3 false).same h8/\b7.same b7/\True)/\(h<=J/\J<=e)/\(e - J).toNat<(e - c).toNat;let h7:=cF c9;let i8:=λ(u:Bool) ↦decide (h<gG (bK c9))=u;h<=c/\c<=e->(decide (c<e)=true->h<=c/\c<C/\c.toNat<f.length/\(f5=true->f.length=M/\h<=c/\c<(↑M:Int)/\f.length=M/\c.toNat<M/\h7/\(i8 true->f.length=M/\h<=c/\c<(↑M:Int)/\f.length=M/\c.toNat<M/\(cF g7/\h7)/\y J/\((B.same B/\n.same n/\o.same o/\(a t f).same (a t f)/\A.same A/\c3.same c3/\True)/\g.same g/\j.same j/\(k [H b5.fst,a z b5.snd.fst,a z b5.snd.snd] 126 3 false).same h8/\b7.same b7/\True)/\(h<=J/\J<=e)/\(e - J).toNat<(e - c).toNat)/\(i8 false->g5))/\(f5=false->g5))/\(decide (c<e)=false->(W [ac g3,U]).same ae))))))) (by kernel_rfl) ?_;simp only[vcs];have f8:=dR hc;have l1:=f8.2.1;have k6:fz p f=0:=by grind[fz]
 have k2:cE p=mF p:=by simp_all[cE]
 have k7:x.length=mF p:=by grind[fy]
 have j9:vL x=y:=by rw[hx,jY]
 have l0:mF p<=20:=by have:=f8.1;grind
 have g2:∀r:Int,0<=r->r<mF p->bp x r.toNat sF.dflt=bu (bp y r.toNat 0):=λr h0 h1=>by grind[jj]
 have R:∀{q q':Rat},q=q'->(bA.cells [.sb (bu q).1,.row (.i .u32) (bu q).2.1,.row (.i .u32) (bu q).2.2] 126 3 false).same (bA.cells [.sb (bu q').1,.row (.i .u32) (bu q').2.1,.row (.i .u32) (bu q').2.2] 126 3 false):=by rintro _ _ rfl;rfl
 have H:∀{a b:List bM},a=b->(bA.row sF a 126 true).same (bA.row sF b 126 true):=by rintro _ _ rfl;rfl
 have k8:∀{a b:Nat},a=b->(γz 3 a 3).same (γz 3 b 3):=by rintro _ _ rfl;rfl
 have g6:∀i:Int,(bp p.offers i.toNat bw.off.dflt).value=(oI p i).value:=λi=>rfl;have b1:∀r k,(iu p f y r k).length=f.length:=λr k=>by rw[yY,hl]
 rw[if_pos hc,k2,j9];simp only[ji,dU,g6,γb];refine⟨by omega,λh=>absurd k6 h,λ_=>⟨λh=>absurd (by rw[k7]) h,λ_=>⟨⟨by omega,by omega,rfl⟩,?_⟩⟩⟩;rintro i ⟨i0,i1,f2⟩;have et:=λh=>jN (d:=sF.dflt) (l:=x) i0 h;refine⟨λhi=>?_,λl2=>?_⟩
 ·have b2:=Fv hy (k:=i.toNat) (by omega);have hm:=dn (d:=sF.dflt) (show i.toNat<x.length by omega);have et:=et hi;have l3:=Bg (bp y i.toNat 0);obtain⟨s1,⟨u1,u2,u3⟩,⟨u4,u5,u6⟩⟩:=jg (bp y i.toNat 0);obtain⟨m1,m2⟩:=lM b2;rw[g2 i i0 (by omega)] at hm et ⊢;refine⟨i0,hi,by omega,⟨⟨u1,u4⟩,by omega,by omega⟩,(λh=>by simp_all),λ_=>⟨dP b2 (by omega),λh=>?_,λh=>⟨by omega,⟨by omega,by omega,?_⟩,by omega⟩⟩⟩
  ·have hn:bp y i.toNat 0<0:=A7.1 (by rwa [dU] at h);have hp:posB x=false:=by
    rw[Bool.eq_false_iff];intro ha;have:=ξ.1 ha _ hm;simp_all
   simp only[hp,Γ,if_false];first|exact rfl|exact⟨rfl,rfl⟩|exact⟨rfl,trivial⟩|(unfold SV.same;exact⟨rfl,rfl⟩)
  ·have hn:¬bp y i.toNat 0<0:=λhh=>h (by simp_all[dU,A7]);grind[posB]
 have f1:posB x=true:=by rwa [show i.toNat=x.length by omega,χ] at f2
 simp only[f1,if_true];refine⟨⟨hc,hl⟩,by omega,by omega,by omega,by omega,⟨⟨⟨k8 rfl,trivial⟩,H ?_⟩,by omega,by omega⟩,?_⟩;·rw[yA,b1]
 rintro i ⟨i0,i1⟩;have j3:=@yz (iu p f y 0 0) i.toNat (false,([],[])) (by rw[b1];omega);rw[b1] at j3;refine⟨λhi=>?_,λhi=>?_⟩
 ·have ho:=kC hc (i:=i) ⟨i0,by omega⟩;have hE:bp (iu p f y 0 0) i.toNat (false,([],[]))=bu (ζ (oI p i).value):=by
   grind[yZ,afj]
  exact⟨i0,by omega,by omega,by omega,by omega,by omega,by omega,by omega,by omega,by omega,H (by grind[yC]),by omega,by omega⟩
 rw[show i.toNat=(iu p f y 0 0).length by rw[b1];omega,yB];refine⟨⟨⟨R UY.symm,H rfl⟩,by omega,by omega⟩,?_⟩;rintro r ⟨r0,r1⟩;refine⟨λf9=>?_,λf9=>?_⟩
 ·have b2:=Fv hy (k:=r.toNat) (by omega);have k9:=g2 r r0 (by omega);have gy:cF (bu (bp y r.toNat 0)):=dP b2 (by omega);have d6:((r.toNat:Nat):Int)=r:=by omega
  have c6:(r+1).toNat=r.toNat+1:=by omega
  simp only[k9,dU];refine⟨r0,f9,by omega,gy,λh0=>?_,λh0=>⟨⟨hc,r0,by omega⟩,⟨⟨U0.symm,by rw[Lt];omega⟩,by omega,by omega⟩,?_⟩⟩
  ·have h0:=Kp.1 h0;exact⟨by omega,⟨R (by rw[c6,afo h0]),H (by rw[c6,afl h0])⟩,by omega,by omega⟩
  rintro k ⟨T,k1⟩;have k4:=@Lu p f r k.toNat hc hl;have l5:=@Lt p r;refine⟨λhk=>?_,λhk=>?_⟩
  ·have ho:=kC hc (i:=k) ⟨T,by omega⟩;have l4:=@o6 p r _ ho.2.2.1;have k5:=@UZ p r k ⟨T,by omega⟩;have c4:=@U1 p f r k T (by omega);rw[k5];refine⟨T,by omega,by omega,λh1=>?_,λh1=>⟨T,by omega,by omega,λh2=>?_,λh2=>⟨T,by omega,by omega,λh3=>?_,λh3=>?_⟩⟩⟩
   ·have j4:kZ p f r k.toNat=kZ p f r (k+1).toNat:=by rw[c4,h1];split<;>omega
    exact⟨by omega,⟨j4,H (L9 T (.inr (.inl (by rw[d6];exact h1))))⟩,by omega,by omega⟩
   ·rw[if_pos h2] at c4;exact⟨by omega,by omega,⟨by omega,H (L9 T (.inl (by omega)))⟩,by omega,by omega⟩
   ·rw[if_neg h2] at c4;have b3:=@yZ p f y r.toNat k.toNat k.toNat (by omega) sF.dflt;rw[show((k.toNat:Nat):Int)=k by omega,afn T h3] at b3;have gx:cF (bu (gi p y r.toNat k)):=dP (Br hc hy (by omega) ⟨T,by omega⟩) (by omega);have gc:cF (bu (ζ (dW p r (oI p k)))):=dP (lN (W:=dW p r (oI p k)) (by omega) (by omega)) (by omega);have gm:cF (bu (bp y r.toNat 0*ζ (dW p r (oI p k)))):=dP (rO b2 (lN (W:=dW p r (oI p k)) (by omega) (by omega))) (by omega);have c8:=@afm p f y r.toNat k T (by omega) h3;rw[E9,d6] at c8;have e2:(iu p f y r.toNat k.toNat).set k.toNat (bu (gi p y r.toNat k - bp y r.toNat 0*ζ (dW p r (oI p k))))=iu p f y r.toNat (k+1).toNat:=c8;rw[b3];simp only[dU];rw[e2,b1];refine⟨rfl,T,?_,rfl,?_,?_,⟨gy,gc⟩,⟨gx,gm⟩,rfl,T,?_,rfl,?_,?_,⟨?_,H rfl⟩,?_,?_⟩<;>omega
   ·rw[if_neg h2] at c4;refine⟨?_,⟨?_,H (L9 T (.inl h3))⟩,?_,?_⟩<;>omega
  ·have j2:k.toNat=f.length:=by omega
   rw[j2,Fa] at k4 ⊢;have gb:cF (bu (ζ (di p r - cT p ((bE f 1).map (oI p)) r))):=dP (lN (W:=di p r - cT p ((bE f 1).map (oI p)) r) (by omega) (by omega)) (by omega);have gs:cF (bu (iZ p f y r.toNat)):=dP (Vm hc hl hy (by omega)) (by omega);have gm:cF (bu (bp y r.toNat 0*ζ (di p r - cT p ((bE f 1).map (oI p)) r))):=dP (rO b2 (lN (W:=di p r - cT p ((bE f 1).map (oI p)) r) (by omega) (by omega))) (by omega);refine⟨by omega,⟨gy,gb⟩,⟨gs,gm⟩,by omega,⟨R ?_,H ?_⟩,by omega,by omega⟩;·rw[c6,Ls,d6]
   ·rw[c6,hl];exact afk
 ·have j7:r.toNat=mF p:=by omega
  rw[j7];refine⟨⟨⟨R Mc.symm,H rfl⟩,by omega,by omega⟩,?_⟩;rintro i ⟨i0,i1⟩;refine⟨λhi=>?_,λhi=>?_⟩
  ·have hs:=@Me p f y i i0;refine⟨i0,hi,by omega,λh0=>?_,λh0=>?_⟩
   ·have b3:=@yZ p f y (mF p) 0 i.toNat (by omega) sF.dflt;have j5:oH p f y (mF p) 0 i=gi p y (mF p) i:=by
     unfold oH;rw[if_pos h0,if_neg (show ¬i<((0:Nat):Int) by omega)]
    rw[show((i.toNat:Nat):Int)=i by omega,j5] at b3;have gx:cF (bu (gi p y (mF p) i)):=dP (Br hc hy (ψ _) ⟨i0,by omega⟩) (by omega);have gs:cF (bu (fY p f y i.toNat)):=dP (FA hc hl hy (by omega)) (by omega);rw[b3,b1];simp only[dU];refine⟨trivial,i0,by omega,trivial,by omega,gx,λh1=>⟨trivial,i0,by omega,trivial,by omega,⟨gs,gx⟩,by omega,R ?_,by omega,by omega⟩,λh1=>⟨by omega,R ?_,by omega,by omega⟩⟩;·rw[hs,if_pos ⟨h0,rP.1 h1⟩]
    ·rw[hs,if_neg (λh=>h1 (rP.2 h.2))];exact(εN _).symm
   ·refine⟨by omega,R ?_,by omega,by omega⟩;rw[hs,if_neg (λh=>h0 h.1)];exact(εN _).symm
  ·rw[show i.toNat=f.length by omega];first|exact rfl|exact⟨rfl,rfl⟩|exact⟨rfl,trivial⟩
def MD:bL:=⟨209,cB×bz×Int×List Int,.cons (dZ bD) (.cons dO (.cons (ef .i64) (.one (cV (.i .i64))))),λa=>qU a.2.1 a.2.2.2 a.1.2.2.2.2/\ -9223372036854775808<=a.2.2.1/\a.2.2.1<=9223372036854775807,
 λa=> .sb (posB a.1.2.2.2.2&&decide (fY a.2.1 a.2.2.2 (vL a.1.2.2.2.2) a.2.2.2.length<ζ a.2.2.1+1))⟩
theorem h492:Holds Tryz.prog MD:=by
 refine cq (L:=[MC,oo,vU,ye]) MD lk (by grind[h494,h94,h129,h97]) ?_;rintro⟨⟨k,o,a,b,x⟩,p,v,f⟩ ⟨c,i,g⟩;simp only at c i g;have d:=c;obtain⟨⟨H,J,M⟩,y,K,I,G⟩:=d;have C:=FA H J G (ψ f.length);have q:vL x=y:=by rw[K,jY]
 rw[<-q] at C;have F:(ζ 1:Rat)=1:=rfl;have s:Sz 2 (ζ v:Rat):=lN i g;have t:Sz 2 (1:Rat):=lN (W:=1) (by omega) (by omega);refine bQ (let a:=(-9223372036854775808:Int);let b:=(9223372036854775807:Int);let c:=(1:Int);let d:=(0:Int);let j:=fY p f (vL x) f.length;let n:=bu (ζ v);let D:=(n.fst,n.snd.fst,n.snd.snd);let r:=bu (ζ c);let A:=(r.fst,r.snd.fst,r.snd.snd);let z:=(if posB x=true then(bu j).fst else false,if posB x=true then(bu j).snd.fst else[],if posB x=true then(bu j).snd.snd else[]);let l:=bu (bK D+bK A);let E:=(l.fst,l.snd.fst,l.snd.snd);let B:=λ(u:SV) ↦u.same (γn (posB x&&decide (j<ζ v+(1:Rat))));let w:=λ(u:Bool) ↦decide ((if posB x=true then d else(4:Int))=d)=u;qU p f x/\(a<=v/\v<=b)/\(a<=c/\c<=b)/\(cF D/\cF A)/\(w true->(cF z/\cF E)/\B (γn (decide (gI (bK z) (bK E)<d))))/\(w false->B (γ0 false))) (by kernel_rfl) ?_;simp only[ji,dU,F];by_cases m:posB x=true
 ·simp only[m,if_true,Bool.true_and,ji,dU];refine⟨c,⟨i,g⟩,by omega,⟨dP s (by omega),dP t (by omega)⟩,λ_=>⟨⟨dP C (by omega),dP (vQ s t) (by omega)⟩,?_⟩,λh=>by cases h⟩;have e:decide (gI (fY p f (vL x) f.length) (ζ v+1)<0)=decide (fY p f (vL x) f.length<ζ v+1):=decide_eq_decide.2 rJ;rw[e];rfl
 ·have m:posB x=false:=by simp_all
  simp only[m,Γ,if_false,Bool.false_and];exact⟨c,⟨i,g⟩,by omega,⟨dP s (by omega),dP t (by omega)⟩,(λh=>by cases h),λ_=>rfl⟩
def ME:bL:=⟨215,cB×bz×Int×List Int,.cons (dZ bD) (.cons dO (.cons (ef .i64) (.one (cV (.i .i64))))),λa=>0<=a.1.2.1,λa=> .sb (decide (a.1.2.1<a.2.2.2.length)&&decide (bp a.2.2.2 a.1.2.1.toNat 0=0))⟩
theorem h498:Holds Tryz.prog ME:=by
 refine cq (L:=[]) ME lk (by simp) ?_;rintro⟨⟨k,o,a,b,x⟩,p,v,f⟩ (e:0<=o);refine bQ (let a:=(0:Int);let c:=decide (o<(↑f.length:Int));let d:=λ(u:SV) ↦u.same (γn (decide (o<(↑f.length:Int))&&decide (bp f o.toNat a=a)));(c=true->a<=o/\o<(↑f.length:Int)/\o.toNat<f.length/\d (γn (decide (bp f o.toNat a=a))))/\(c=false->d (γ0 false))) (by kernel_rfl) ?_;simp_all[decide_eq_false]
def MF:bL:=⟨219,cB×bz×Int×List Int,.cons (dZ bD) (.cons dO (.cons (ef .i64) (.one (cV (.i .i64))))),λa=>a.2.2.2.length<=1000000,λa=> .sb (decide (cH a.2.1 (bE a.2.2.2 1)≠0))⟩
def afv (n:cB) (p:bz) (f:List Int):Nat->cC
 |3=> .inv Int (λi=>⟨[(5,.ptr 1 0 20),(9,.ow 2 (bE (f.take i.toNat) 1).length 1),(12,.row (.i .i64) f),(13,.si .i64 f.length),(14,.si .i64 i)],[.cells (encS bD n) 156 5 false,.cells p.ss 27 20 false,.row (.i .i64) (bE (f.take i.toNat) 1) 3 true]⟩)
   (λs=>iS s 14) (λi=>0<=i/\i<=f.length) (λi=>(f.length - i).toNat) λ_ _=> .look
 |_=> .look
theorem h502:Holds Tryz.prog MF:=by
 refine cq (L:=[ub]) MF (λa=>afv a.1 a.2.1 a.2.2.2) (by grind[h100]) ?_;rintro⟨⟨k,o,a,b,x⟩,p,v,f⟩ (H:f.length<=1000000);refine bQ (let d:=Ω .i64;let n:=(0:Int);let t:=(1:Int);let v:=bA.row;let y:=Δ;let D:=γz;let q:=γU 1 0 20;let g:=bw.i .i64;let h:=(↑f.length:Int);let z:=d h;let r:=bA.cells [d k,d o,d a,d b,y sF x] 156 5 false;let s:=bA.cells [d p.supply.a0,d p.supply.a1,d p.supply.a2,d p.supply.a3,d p.supply.a4,d p.supply.a5,d p.opn.a0,d p.opn.a1,d p.opn.a2,d p.opn.a3,d p.opn.a4,d p.opn.a5,d p.cls.a0,d p.cls.a1,d p.cls.a2,d p.cls.a3,d p.cls.a4,d p.cls.a5,y g p.classes,y bw.off p.offers] 27 20 false;(((q.same q/\(D 2 0 1).same (D 2 (bE [] t).length 1)/\(y g f).same (y g f)/\(d (↑f.length:Int)).same z/\(γo .i64 0).same (d 0)/\True)/\r.same r/\s.same s/\(v g [] 3 true).same (v g (bE [] t) 3 true)/\True)/\n<=n/\n<=h)/\∀(c:Int),let j:=c+t;let B:=bE (τ j.toNat f) t;let C:=d j;let l:=decide (bp f c.toNat n=t);let e:=bE (τ c.toNat f) t;let m:=e.length+1;let A:=λ(u:Nat) (w:bA) ↦bU .i64 j/\((q.same q/\(D 2 u 1).same (D 2 B.length 1)/\(y g f).same (y g f)/\z.same z/\C.same C/\True)/\r.same r/\s.same s/\w.same (v g B 3 true)/\True)/\(n<=j/\j<=h)/\(h - j).toNat<(h - c).toNat;n<=c/\c<=h->(decide (c<h)=true->n<=c/\c<(↑f.length:Int)/\c.toNat<f.length/\(l=true->e.length=e.length/\m*8<=140737488355328/\m<=1000000000000/\A (e++[c]).length (v g (e++[c]) 3 true))/\(l=false->A e.length (v g e 3 true)))/\(decide (c<h)=false->e.length=e.length/\e.length<=9223372036854775807/\(γn (decide (cH p e≠n))).same (γn (decide (cH p (bE f t)≠n))))) (by kernel_rfl) ?_;simp only[vcs];have t:∀{x y:Nat},x=y->(γz 2 x 1).same (γz 2 y 1):=by rintro _ _ rfl;rfl
 have n:∀{x y:List Int},x=y->(bA.row (.i .i64) x 3 true).same (bA.row (.i .i64) y 3 true):=by rintro _ _ rfl;rfl
 refine⟨⟨⟨t rfl,n rfl⟩,by omega,by omega⟩,?_⟩;rintro i ⟨E,I⟩;have F:=@rQ (f.take i.toNat) 1;rw[List.length_take] at F;refine⟨λD=>?_,λD=>?_⟩
 ·have G:=yF (d:=1) E D;grind
 grind
def MG:bL:=⟨223,Unit×bz×Int×List Int,.cons LV (.cons dO (.cons (ef .i64) (.one (cV (.i .i64))))),λ_=>True,λ_=> .sb false⟩
theorem h506:Holds Tryz.prog MG:=by
 refine cq (L:=[]) MG lk (by simp) ?_;rintro⟨_,p,v,f⟩ _;refine bQ ((γ0 false).same (γn false)) (by kernel_rfl) ?_;rfl
end Go.Vi
