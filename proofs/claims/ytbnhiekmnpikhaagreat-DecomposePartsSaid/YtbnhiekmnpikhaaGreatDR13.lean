import Derived.Test.YtbnhiekmnpikhaaGreatDR12
set_option maxRecDepth 100000
set_option maxHeartbeats 4000000
set_option linter.all false
open Bool renaming eq_false_iff->δK,false_eq_true->φ,and_eq_true->θ
open Classical renaming not_not->γc
open Go.Vi.SV renaming si->γf,row->Ψ,ptr->γK,il->γv,agg->γJ,ia->θc,bl->δd,sb->γy,ow->γW
open Int renaming toNat_natCast->γm,toNat->ζs
open IntCast renaming intCast->κ
open List renaming pairwise_cons->γB,mem_cons_of_mem->γz,append_assoc->γC,cons_append->γI,replicate->δ,filter_eq_nil_iff->δP,filter_eq_self->εx,mem_map->Ω,mem_filter->γt,length_filter_le->δg,length_drop->εv,pairwise_append->δG,mem_append->γi,append_nil->γR,mem_singleton->δc,take->Γ,length->γb,all_eq_true->χ,all_append->ζK,take_length->ψ,range->ω,ext_getElem->γ8,count_pos_iff->δU,mem_range->γq,length_take->γx,length_set->Φ
open List.Pairwise renaming nil->δv
open List.Perm renaming append_left->ζL
open Nat renaming pow_le_pow_right->δs,le_refl->ξ
open Rat renaming add_zero->ζM
namespace Go.Vi
theorem BR {a b c:bB} (h:¬lC a b) (k:¬lC b c):¬lC a c:=λd=>by
 grind[L9,Wr]
theorem KN {a b:bB}:¬lC a (cw a b)/\¬lC b (cw a b):=by
 unfold cw;split
 ·rename_i h;have h:lC a b:=h;grind[A6,L9]
 ·rename_i h;exact⟨h,A6⟩
theorem xi {p:cj}:∀{k:Nat} {i:Int} {a b:bB},¬lC b (jw p k i a b)
 |0,_,_,b=>by grind[jw,A6];|k+1,i,a,b=>by
  simp only[jw];refine BR ?_ xi;split;·exact BR KN.2 xi
  ·exact A6
theorem Ea {p:cj} (o:Good p):∀{k:Nat} {i:Int} {a b:bB} {t:List Int},0<=i->i+k<=p.bj.length->t≠[]->kY i k t->jW p (a.bn++t)=true->¬lC ⟨a.bn++t,a.value+bJ (bW p t)⟩ (jw p k i a b)
 |0,i,a,b,t,_,_,r,c,_=>by
  cases t with
  |nil=>simp_all;|cons j t=>
   have:=c.2 j (by simp);omega
 |k+1,i,a,b,t,y,x,r,c,s=>by
  cases t with
  |nil=>simp_all;|cons j t=>
   have w:=c.2 j (by simp);have u:=γB.1 c.1;simp only[jw];by_cases n:j=i
   ·subst n;have g:Bb p t:=λm l=>by
     have:=c.2 m (by simp[l]);omega
    have d:jW p (a.bn++[j]++t)=true:=by simp_all
    have q:jW p (a.bn++[j])=true:=Ns o g d;rw[if_pos q];refine BR ?_ xi;rw[qp];simp only[bJ];cases t with
    |nil=>
     grind[BR,xi,KN,bJ,bW,jU];|cons h f=>
     have:=Ea o (k:=k) (i:=j+1) (a:=⟨a.bn++[j],a.value+jU p j⟩) (b:=cw ⟨a.bn++[j],a.value+jU p j⟩ b) (t:=h::f) (by omega) (by omega) (by simp) ⟨u.2,λm l=>by
      have v:=c.2 m (γz _ l);grind⟩ d;have e:(⟨a.bn++j::h::f,a.value+((bN p.bj j.toNat ew.bu.bw).value+bJ (bW p (h::f)))⟩:bB)=⟨a.bn++[j]++h::f,a.value+jU p j+bJ (bW p (h::f))⟩:=by
      simp only[bB.mk.injEq,γC,γI,List.nil_append,jU,true_and];omega
     simp_all
   ·exact Ea o (by omega) (by omega) (by simp) ⟨c.1,λm l=>by
     have v:=c.2 m l;grind⟩ s
theorem SZ {p:cj} (e:Good p) {t:List Int} (d:pv p t):¬lC ⟨t,bJ (bW p t)⟩ (VL p):=by
 rw[FN];by_cases c:t=[]
 ·subst c;exact xi
 ·have:=Ea e (k:=p.bj.length) (i:=0) (a:=⟨[],0⟩) (b:=⟨[],0⟩) (t:=t) (by omega) (by omega) c d.1 (by simpa[jW] using d.2);simp_all
theorem xh:∀{c a b:List Int},bD (c++a) (c++b)=bD a b
 |[],_,_=>rfl
 |x::c,a,b=>by
  simp only[γI,bD,Int.lt_irrefl,if_false];exact xh
noncomputable def oT (p:cj) (a:Int) (u:iK) (i:Int):iK:=
 if u.value=a then u else if ik p u (oI p i)=true then(if jf (fR p (d_ p u i) (i+1).toNat) (a - (d_ p u i).value) 65536=true then d_ p u i else u) else u
noncomputable def je (p:cj) (a:Int):Nat->iK
 |0=>⟨p.bm,p.bs,[],0,δ 8 false⟩
 |n+1=>oT p a (je p a n) n
theorem mh {p:cj} (d:nW p=0):pt p ⟨p.bm,p.bs,[],0,δ 8 false⟩:=by
 have a:=cT d;refine⟨Kz a,rfl,λk c=>?_,λk c=>?_,rfl,λb f e=>?_⟩
 ·show _=_ - (dq (([]:List bC).map bC.bx)).at k;grind[mP]
 ·show _=min (_ - (dq (([]:List bC).map (uv p))).at k) _;simp_all[mP,s8,min]
 ·show _=decide (b∈([]:List Int));grind[b_]
theorem KM {i:Int}:∀{L:List Int},L.Pairwise (·<·)->L=L.filter (λj=>decide (j<i))++L.filter (λj=>!decide (j<i))
 |[],_=>rfl
 |x::L,h=>by
  have a:=γB.1 h;have c:=KM (i:=i) a.2;by_cases d:x<i;·grind
  ·have e:L.filter (λj=>decide (j<i))=[]:=δP.2 λj b=>by grind
   grind
theorem SY {i:Int} {L:List Int} (h:i∉L):L.filter (λj=>decide (j<i+1))=L.filter (λj=>decide (j<i)):=by
 refine List.filter_congr λj a=>?_;grind
theorem SX {i:Int} {L:List Int} (b:L.Pairwise (·<·)) (h:i∈L):L.filter (λj=>decide (j<i+1))=L.filter (λj=>decide (j<i))++[i]/\L=L.filter (λj=>decide (j<i))++i::L.filter (λj=>decide (i<j)):=by
 induction L with
 |nil=>cases h;|cons x L f=>
  have g:=γB.1 b;by_cases c:x=i
  ·subst c;have e:L.filter (λj=>decide (j<x))=[]:=δP.2 λj a=>by grind
   have k:L.filter (λj=>decide (j<x+1))=[]:=δP.2 λj a=>by grind
   have d:L.filter (λj=>decide (x<j))=L:=εx.2 λj a=>by simp_all
   grind
  grind
theorem SU {p:cj} (a:Good p):∀{L:List bC},(∀x∈L,x∈p.bj)->L≠[]->0<bJ L
 |[],_,h=>absurd rfl h
 |x::L,h,_=>by
  have c:=(a.2.2.2.2 x (h x (List.mem_cons_self ..))).2.2.2.1;have d:=(oq a (l:=L) λy b=>h y (γz _ b)).1;grind[bJ]
theorem SS {p:cj} (i:nW p=0) {k:Nat} (d:k<=p.bj.length) {M:List bC} (g:∀x∈M,x∈p.bj.drop k) (c:M.Nodup):∃t:List Int,t.Pairwise (·<·)/\(∀j∈t,(k:Int)<=j/\j<p.bj.length)/\(bW p t).Perm M:=by
 obtain⟨t,b,h,a⟩:=FI (λx=>decide (x∈M)) (p.bj.drop k) (p.bj.take k);have e:(p.bj.take k).length=k:=by simp_all
 refine⟨t,b,λj f=>?_,?_⟩;·grind
 ·rw[List.take_append_drop] at a;unfold bW;rw[a];refine(List.perm_ext_iff_of_nodup ?_ c).2 λx=>?_;·grind[NV]
  simp_all
theorem xg {p:cj} (d:nW p=0):pv p (VL p).bn/\(VL p).value=bJ (bW p (VL p).bn):=by
 obtain⟨_,a,b,c⟩:=Me d;exact⟨⟨b,a⟩,c⟩
theorem D_ {p:cj} (m:nW p=0) (W:p.bj.length<=15):∀n:Nat,n<=p.bj.length->pt p (je p (VL p).value n)/\(je p (VL p).value n).bn=(VL p).bn.filter λ(j:Int)=>decide (j<(n:Int))
 |0,_=>⟨mh m,by
   have h:=(xg m).1.1.2;exact(δP.2 λj g=>by simp_all).symm⟩
 |n+1,hn=>by
  obtain⟨G,P⟩:=D_ m W n (by omega);have o:=cT m;obtain⟨⟨⟨hs,hr⟩,hF⟩,hv⟩:=xg m;have a7:pv p (VL p).bn:=⟨⟨hs,hr⟩,hF⟩;have I:∀j∈(je p (VL p).value n).bn,j<(n:Int):=λj g=>by
   simp_all
  have N:((n:Nat):Int)+1=((n+1:Nat):Int):=by omega
  have J:(0:Int)<=n/\(n:Int)<p.bj.length:=by omega
  have q:oI p n∈p.bj:=cE (by omega);have a4:=KM (i:=(n:Int)) hs;show pt p (oT p (VL p).value (je p (VL p).value n) n)/\(oT p (VL p).value (je p (VL p).value n) n).bn=_;generalize je p (VL p).value n=u at*;have C:∀{t:List Int},(∀j∈t,j∈(VL p).bn)->∀x∈bW p t,x∈p.bj:=λht x q=>by
   obtain⟨j,g,rfl⟩:=Ω.1 q;have:=hr j (ht j g);exact cE (by omega)
  by_cases e:u.value=(VL p).value
  ·unfold oT;rw[if_pos e];refine⟨G,?_⟩;have R:(VL p).bn.filter (λj=>!decide (j<(n:Int)))=[]:=by
    refine Classical.byContradiction λU=>?_;have S:=SU o (L:=bW p ((VL p).bn.filter (λj=>!decide (j<(n:Int))))) (C λj g=>(γt.1 g).1) (by unfold bW;simpa using U);rw[G.v,P,hv] at e;grind[rE,mY]
   have a1:∀j∈(VL p).bn,j<(n:Int):=λj g=>by
    grind
   rw[P,εx.2 λj g=>by grind];exact(εx.2 λj g=>by grind).symm
  ·by_cases K:(n:Int)∈(VL p).bn
   ·obtain⟨f1,f2⟩:=SX hs K;rw[<-P] at f1 f2;have A:iH p (bW p u.bn++[oI p n]++bW p ((VL p).bn.filter λj=>decide ((n:Int)<j))):=by
     have:bW p u.bn++[oI p n]++bW p ((VL p).bn.filter λj=>decide ((n:Int)<j))=bW p (VL p).bn:=by
      conv=>rhs;rw[f2]
      rw[rE,qp,γC];rfl
     grind
    have B:=C (t:=(VL p).bn.filter λj=>decide ((n:Int)<j)) λj g=>(γt.1 g).1;have Q:ik p u (oI p n)=true:=(BT m G q).2 (FQ o B A);have c:=G.next m I J Q;have z:=BS (k:=((n:Int)+1).toNat) m c;have r:bW p (d_ p u n).bn=bW p u.bn++[oI p n]:=by
     show bW p (u.bn++[(n:Int)])=_;rw[rE];rfl
    have O:∀x∈bW p ((VL p).bn.filter λj=>decide ((n:Int)<j)),ik p (d_ p u n) x=true:=λx w=>by
     refine(BT m c (B x w)).2 ?_;rw[r];obtain⟨s,t,a0⟩:=List.append_of_mem w;have F:(bW p u.bn++[oI p n]++bW p ((VL p).bn.filter λj=>decide ((n:Int)<j))).Perm (bW p u.bn++[oI p n]++[x]++(s++t)):=by
      rw[a0,γC (bW p u.bn++[oI p n])];refine ζL _ ?_;exact List.perm_middle
     refine FQ o (M:=s++t) (λy hy=>B y ?_) (FJ F A);grind
    have Y:=(Eb (k:=((n:Int)+1).toNat) m c B O).2 (by grind);have Z:∀x∈bW p ((VL p).bn.filter λj=>decide ((n:Int)<j)),x∈(fR p (d_ p u n) ((n:Int)+1).toNat).bj:=λx w=>by
     refine γt.2 ⟨?_,O x w⟩;obtain⟨j,g,rfl⟩:=Ω.1 w;obtain⟨V,a8⟩:=γt.1 g;have h3:=hr j V;have h4:(n:Int)<j:=by grind
     rw[b_ (by omega)];rw[List.mem_iff_getElem];exact⟨j.toNat - ((n:Int)+1).toNat,by grind,by rw[List.getElem_drop];congr 1;omega⟩
    have H:=Sw z Y Z;rw[A7 z] at H;have a2:(VL p).value=(d_ p u n).value+bJ (bW p ((VL p).bn.filter λj=>decide ((n:Int)<j))):=by
     rw[c.v,r,hv];conv=>lhs;rw[f2,rE,qp,mY]
     rw[mY];grind[bJ,oI]
    have T:(fR p (d_ p u n) ((n:Int)+1).toNat).bj.length<=15:=by
     have S:=δg (ik p (d_ p u n)) (p.bj.drop ((n:Int)+1).toNat);rw[εv] at S;show((p.bj.drop _).filter _).length<=15;omega
    have l:im (fR p (d_ p u n) ((n:Int)+1).toNat) ((VL p).value - (d_ p u n).value) 65536=0:=DU z (by omega) (by
     have:2^((fR p (d_ p u n) ((n:Int)+1).toNat).bj.length+1)<=2^16:=δs (by omega) (by omega);omega);have E:jf (fR p (d_ p u n) ((n:Int)+1).toNat) ((VL p).value - (d_ p u n).value) 65536=true:=(Ku z l).2 (by omega);unfold oT;rw[if_neg e,if_pos Q,if_pos E];refine⟨c,?_⟩;rw[<-N,f1];rfl
   ·rw[<-N,SY K,<-P];unfold oT;rw[if_neg e];split
    ·rename_i Q;split
     ·rename_i E;exfalso;have c:=G.next m I J Q;have z:=BS (k:=((n:Int)+1).toNat) m c;have r:bW p (d_ p u n).bn=bW p u.bn++[oI p n]:=by
       show bW p (u.bn++[(n:Int)])=_;rw[rE];rfl
      have T:(fR p (d_ p u n) ((n:Int)+1).toNat).bj.length<=15:=by
       have S:=δg (ik p (d_ p u n)) (p.bj.drop ((n:Int)+1).toNat);rw[εv] at S;show((p.bj.drop _).filter _).length<=15;omega
      have l:im (fR p (d_ p u n) ((n:Int)+1).toNat) ((VL p).value - (d_ p u n).value) 65536=0:=DU z (by omega) (by
       have:2^((fR p (d_ p u n) ((n:Int)+1).toNat).bj.length+1)<=2^16:=δs (by omega) (by omega);omega);have a6:=(Ku z l).1 E;obtain⟨M,m1,m2,m3⟩:=Sv z;rw[A7 z] at m3;have D:∀x∈M,x∈p.bj.drop ((n:Int)+1).toNat/\ik p (d_ p u n) x=true:=λx q=>γt.1 (m2 x q);have A:=(Eb m c (λx q=>List.mem_of_mem_drop (D x q).1) λx q=>(D x q).2).1 m1;obtain⟨t,t1,t2,t3⟩:=SS m (k:=((n:Int)+1).toNat) (by omega) (λx q=>(D x q).1) (A8 bC.OA m1.1);have hT:pv p (u.bn++(n:Int)::t):=by
       refine⟨⟨?_,?_⟩,?_⟩
       ·rw[δG];refine⟨G.f.1.1,γB.2 ⟨λj g=>by grind,t1⟩,λa ha b hb=>?_⟩;grind
       ·intro j g;rcases γi.1 g with h|h;·grind
        ·rcases List.mem_cons.1 h with rfl|h<;>grind
       ·rw[rE,qp];refine FJ ?_ A;rw[r,γC];exact ζL _ (List.Perm.cons _ t3.symm)
      have a3:bJ (bW p (u.bn++(n:Int)::t))=(d_ p u n).value+bJ M:=by
       rw[c.v,r,rE,qp,mY,mY,<-NW t3];grind[bJ,oI]
      have H:=FM o hT.1 (decide_eq_true hT.2);refine SZ o hT (.inr ⟨(show bJ (bW p (u.bn++(n:Int)::t))=(VL p).value by omega),?_⟩);show bD (u.bn++(n:Int)::t) (VL p).bn<0;have R:(VL p).bn=u.bn++(VL p).bn.filter (λj=>!decide (j<(n:Int))):=by grind
      have a5:(VL p).bn.filter (λj=>!decide (j<(n:Int)))≠[]:=λh=>by
       rw[h,γR] at R;refine e ?_;rw[G.v,<-R,hv]
      have X:∀j∈(VL p).bn.filter (λj=>!decide (j<(n:Int))),(n:Int)<j:=λj g=>by
       grind
      rw[R];generalize (VL p).bn.filter (λj=>!decide (j<(n:Int)))=d at*;cases d with
      |nil=>grind;|cons j d=>
       rw[xh];have:=X j (by simp);simp only[bD];omega
     grind
    grind
theorem KL {p:cj} (b:nW p=0) (a:p.bj.length<=15):(je p (VL p).value p.bj.length).bn=(VL p).bn:=by
 rw[(D_ b a p.bj.length (ξ _)).2];have h:=(xg b).1.1.2;simp_all
def n5 (p:cj) (c:List Int) (b:bB):bB:=if b.value<cA p c then⟨c,cA p c⟩ else b
noncomputable def ig (p:cj):Nat->Int->List Int->bB->bB
 |0,_,_,b=>b
 |k+1,i,c,b=>ig p k (i+1) c (if bR p (c++[i])=0 then ig p k (i+1) (c++[i]) (n5 p (c++[i]) b) else b)
noncomputable def jF (p:cj) (c:List Int) (i:Int) (b:bB):bB:=ig p (df p i) i c (n5 p c b)
theorem SR {c t:List Int}:¬bD (c++t) c<0:=by
 have h:=@xh c t [];rw[γR] at h;rw[h];cases t<;>simp[bD]
theorem D9 {p:cj} {Q:List Int->Prop}:∀{k:Nat} {i:Int} {c:List Int} {b:bB},(∀s,Q (c++s))->Q b.bn->Q (ig p k i c b).bn
 |0,_,_,_,_,h=>h
 |k+1,i,c,b,hs,h=>by
  simp only[ig];refine D9 hs ?_;split
  ·refine D9 (λs=>by rw[γC];exact hs _) ?_;unfold n5;split;·exact hs [i]
   ·exact h
  ·exact h
theorem D8 {p:cj} (hc:nW p=0):∀{k:Nat} {i:Int} {c:List Int} {b:bB},0<=i->i+k=p.bj.length->kY 0 i.toNat c->bR p c=0->(∀j t,i<=j->¬bD (c++j::t) b.bn<0)->jw p k i ⟨c,cA p c⟩ b=ig p k i c b
 |0,_,_,_,_,_,_,_,_=>rfl
 |k+1,i,c,b,h0,h1,hi,hf,hb=>by
  simp only[jw,ig];have hin:kY 0 p.bj.length (c++[i]):=by
   refine⟨δG.2 ⟨hi.1,List.pairwise_singleton _ _,λa ha b hb=>?_⟩,λj hj=>?_⟩
   ·rw[δc.1 hb];have:=hi.2 a ha;omega
   ·rcases γi.1 hj with hj|hj
    ·have:=hi.2 j hj;omega
    ·rw[δc.1 hj];omega
  have hcond:jW p (c++[i])=true↔bR p (c++[i])=0:=by
   rw[oU hc];unfold jW;rw[decide_eq_true_eq];exact⟨λh=>⟨hin,h⟩,λh=>h.2⟩
  have aL6:∀{b':bB},(∀j t,i+1<=j->¬bD (c++j::t) b'.bn<0)->jw p k (i+1) ⟨c,cA p c⟩ b'=ig p k (i+1) c b':=λh=>
   D8 hc (by omega) (by omega) ⟨hi.1,λj hj=>by have:=hi.2 j hj;omega⟩ hf h;by_cases h:bR p (c++[i])=0
  ·rw[if_pos (hcond.2 h),if_pos h];have hv:cA p c+jU p i=cA p (c++[i]):=by
    rw[uB hc ((oU hc).1 hf),uB hc ((oU hc).1 h)];unfold bW;rw[List.map_append,mY];simp[bJ,jU,oI]
   have hu:cw ⟨c++[i],cA p (c++[i])⟩ b=n5 p (c++[i]) b:=by
    unfold cw n5;have:=hb i [] (by omega);by_cases hw:b.value<cA p (c++[i]);·rw[if_pos (.inl hw),if_pos hw]
    ·rw[if_neg (λh=>h.elim hw λh=>this h.2),if_neg hw]
   rw[hv,hu];have hQ:∀j t,i+1<=j->¬bD (c++[i]++j::t) (n5 p (c++[i]) b).bn<0:=λj t hj=>by
    unfold n5;split;·exact SR
    ·rw[γC];exact hb i (j::t) (by omega)
   rw[D8 hc (by omega) (by omega) ⟨hin.1,λj hj=>by
    rcases γi.1 hj with hj|hj
    ·have:=hi.2 j hj;omega
    ·rw[δc.1 hj];omega⟩ h hQ];refine aL6 (D9 (Q:=λl=>∀j t,i+1<=j->¬bD (c++j::t) l<0) (λs j t hj=>?_) λj t hj=>?_)
   ·rw[γC,xh];show ¬bD (j::t) (i::s)<0;simp only[bD];rw[if_neg (by omega),if_pos (by omega)];decide
   ·unfold n5;split
    ·rw[xh];show ¬bD (j::t) [i]<0;simp only[bD];rw[if_neg (by omega),if_pos (by omega)];decide
    ·exact hb j t (by omega)
  ·rw[if_neg (λq=>h (hcond.1 q)),if_neg h];exact aL6 λj t hj=>hb j t (by omega)
theorem SQ {p:cj} (hc:nW p=0):jF p [] 0 ⟨[],0⟩=VL p:=by
 have hn:bR p []=0:=(oU hc).2 (Kz (cT hc));have hv:cA p []=0:=by rw[uB hc ((oU hc).1 hn)];rfl
 have h:=D8 hc (k:=df p 0) (i:=0) (c:=[]) (b:=⟨[],0⟩) (by omega) (by unfold df;omega) ⟨δv,λj hj=>by cases hj⟩ hn (λj t _=>by simp[bD]);have hu:n5 p [] ⟨[],0⟩=⟨[],0⟩:=by unfold n5;rw[hv];rfl
 have hb:cw ⟨[],0⟩ ⟨[],0⟩=⟨[],0⟩:=by unfold cw;simp[bD]
 unfold jF VL FW;rw[hu,hb,<-h,hv]
open Go.Proofs.YtbnhiekmnpikhaaGreat.Ir
open Go.Proofs
def ur (p:cj) (c:List Int) (i:Int) (b:bB):Prop:=nW p=0/\(0<=i/\i<=p.bj.length)/\c.length<=i/\b.bn.length<=160
noncomputable def mw (n:Nat):M9:=⟨35,cj×List Int×Int×bB,.cons cO (.cons (cL (.i .i64)) (.cons (dX .i64) (.one kr))),λa=>ur a.1 a.2.1 a.2.2.1 a.2.2.2/\df a.1 a.2.2.1<n,
 λa=>kr.put (jF a.1 a.2.1 a.2.2.1 a.2.2.2)⟩
noncomputable def M6 (n:Nat):List M9:=[mw n,Ca,Cb]
noncomputable def BQ (p:cj) (c:List Int) (f:Int) (b:bB) (dd:TN):Nat->bG
 |5=> .inv (Int×bB) (λx=>⟨[(1,.row (.i .i64) c),(4,.ptr 0 0 20),(7,.ptr 1 0 2),(8,.ptr 2 0 2),(10,.si .i64 x.1)],
   [.cells p.ss 27 20 false,.cells [.row (.i .i64) x.2.bn,.si .i64 x.2.value] 40 2 false,.cells [.sc (.slice none 0 0),.il .i64 0] 40 2 false]++dd⟩)
   (λs=>(iS s 10,aS s 1)) (λx=>f<=x.1/\x.1<=p.bj.length/\x.2.bn.length<=160/\jF p c f b=ig p (df p x.1) x.1 c x.2) (λx=>df p x.1) λ_ _=> .look
 |_=> .look
theorem D7 {p:cj} (hN:p.bj.length<=160):∀{k:Nat} {i:Int} {c:List Int} {b:bB},c.length<=i->i+k<=p.bj.length->b.bn.length<=160->(ig p k i c b).bn.length<=160
 |0,_,_,_,_,_,h=>h
 |k+1,i,c,b,h1,h2,h3=>by
  simp only[ig];refine D7 hN (by omega) (by omega) ?_;split
  ·refine D7 hN (by simp;omega) (by omega) ?_;unfold n5;split;·simp;omega
   ·exact h3
  ·exact h3
theorem KK {p:cj} (hN:p.bj.length<=160) {c:List Int} {i:Int} {b:bB} (h0:0<=i) (h1:i<=p.bj.length) (h2:c.length<=i) (h3:b.bn.length<=160):(jF p c i b).bn.length<=160:=by
 unfold jF;refine D7 hN h2 (by unfold df;omega) ?_;unfold n5;split;·simp only;omega
 ·exact h3
theorem I1 {env:_} {x0:iZ} {c:List Int} {v:Int} {n m:_} {b:Bool} {r:TN}:aS ⟨env,x0:: .cells [.row (.i .i64) c,.si .i64 v] n m b::r⟩ 1=⟨c,v⟩:=rfl
theorem SP (n:Nat) (p:cj) (c:List Int) (f:Int) (b:bB) (h:ur p c f b) (hn:df p f<n+1) (hv:b.value<cA p c):
  Vc (oj (kx (M6 n) ky.none mi ml fQ) (BQ p c f b [.dead,.dead]) (fG 35) ((mw (n+1)).A.put (p,c,f,b)) λv=>v.bi ((mw (n+1)).res (p,c,f,b))):=by
 obtain⟨d,w⟩:=b;refine NH (let a:=γf .i64;let b:=Ψ;let e:=iZ.cells;let g:=γK;let z:=(↑p.bj.length:Int);let s:=jF p c f (bB.mk d w);let t:=0+c.length;let D:=c.length+1;let h:=ew.i .i64;let m:=g 0 0 20;let o:=g 1 0 2;let q:=g 2 0 2;let r:=e [a p.bm.a0,a p.bm.a1,a p.bm.a2,a p.bm.a3,a p.bm.a4,a p.bm.a5,a p.bs.a0,a p.bs.a1,a p.bs.a2,a p.bs.a3,a p.bs.a4,a p.bs.a5,a p.bt.a0,a p.bt.a1,a p.bt.a2,a p.bt.a3,a p.bt.a4,a p.bt.a5,b h p.bk,b ew.bu p.bj] 27 20 false;let A:=(1,b h c);let k:=e [SV.sc (Value.slice none 0 0),γv .i64 0] 40 2 false;let B:=[iZ.dead,iZ.dead];let v:=a f;let E:=decide (w<cA p c);let F:=∀(x:Int×bB),let j:=x.1+(1:Int);let C:=a j;let G:=decide (x.1<(↑p.bj.length:Int));let l:=c++[x.1];let H:=decide (bR p l=(0:Int));let I:=λ(u:bB) ↦let J:=e [b h u.bn,a u.value] 40 2 false;let y:=aS (VK.mk [A,(4,m),(7,o),(8,q),(10,C)] (r::J::k::B)) 1;VI .i64 j/\(((b h c).bi (b h c)/\m.bi m/\o.bi o/\q.bi q/\C.bi C/\True)/\r.bi r/\J.bi (e [b h y.bn,a y.value] 40 2 false)/\k.bi k/\iZ.dead.bi iZ.dead/\iZ.dead.bi iZ.dead/\True)/\(f<=j/\j<=z/\y.bn.length<=160/\s=ig p (df p j) j c y)/\df p j<df p x.1;f<=x.1/\x.1<=z/\x.2.bn.length<=160/\s=ig p (df p x.1) x.1 c x.2->(G=true->0=0/\t*8<=140737488355328/\t<=1000000000000/\c.length=c.length/\D*8<=140737488355328/\D<=1000000000000/\l.length=l.length/\l.length<=9223372036854775807/\(H=true->l.length=l.length/\VI .i64 j/\(ur p l j x.2/\df p j<n)/\I (jF p l j x.2))/\(H=false->I x.2))/\(G=false->(γJ [b h x.2.bn,a x.2.value]).bi (γJ [b h s.bn,a s.value]));let K:=r.bi r;let L:=(b h c).bi (b h c)/\m.bi m/\o.bi o/\q.bi q/\v.bi v/\True;let M:=λ(u:List Int) (u_1:Int) (u_2:List iZ) ↦let N:=e [b h u,a u_1] 40 2 false;let O:=aS (VK.mk [A,(4,m),(7,o),(8,q),(10,v)] (r::N::k::u_2)) 1;N.bi (e [b h O.bn,a O.value] 40 2 false);let P:=λ(u:List Int) (u_1:Int) (u_2:List iZ) ↦let Q:=aS (VK.mk [A,(4,m),(7,o),(8,q),(10,v)] (r::e [b h u,a u_1] 40 2 false::k::u_2)) 1;f<=f/\f<=z/\Q.bn.length<=160/\s=ig p (df p f) f c Q;c.length<=9223372036854775807/\(E=true->0=0/\t*8<=140737488355328/\t<=1000000000000/\c.length=c.length/\((L/\K/\M c (cA p c) B/\k.bi k/\iZ.dead.bi iZ.dead/\iZ.dead.bi iZ.dead/\True)/\P c (cA p c) B)/\F)/\(E=false->((L/\K/\M d w []/\k.bi k/\False)/\P d w [])/\F)) (by kernel_rfl) ?_;conv=>zeta
 obtain⟨hc,hf,hcl,hdl⟩:=h;simp only at hcl hdl hv;simp only[vcs,I1];have hN:p.bj.length<=160:=(cT hc).2.1;have iw:jF p c f ⟨d,w⟩=ig p (df p f) f c (if w<cA p c then⟨c,cA p c⟩ else⟨d,w⟩):=rfl;have round:∀x:Int×bB,f<=x.1/\x.1<=p.bj.length/\x.2.bn.length<=160/\jF p c f ⟨d,w⟩=ig p (df p x.1) x.1 c x.2->x.1<p.bj.length->
   df p x.1=df p (x.1+1)+1/\df p (x.1+1)<n/\df p (x.1+1)<df p x.1/\(c++[x.1]).length=c.length+1/\
   jF p c f ⟨d,w⟩=ig p (df p (x.1+1)) (x.1+1) c (if bR p (c++[x.1])=0 then jF p (c++[x.1]) (x.1+1) x.2 else x.2):=λx hx hlt=>by
  obtain⟨h1,h2,h3,h4⟩:=hx;have hl:df p x.1=df p (x.1+1)+1:=by unfold df;omega
  have hlf:df p x.1<=df p f:=by unfold df;omega
  refine⟨hl,by omega,by omega,by simp,?_⟩;rw[h4,hl];rfl
 have len:∀{c':List Int} {i:Int} {b:bB},0<=i->i<=p.bj.length->c'.length<=i->b.bn.length<=160->(jF p c' i b).bn.length<=160:=λh0 h1 h2 h3=>KK hN h0 h1 h2 h3;refine⟨by omega,λh1=>⟨by omega,by omega,⟨by omega,by omega,by omega,?_⟩,?_⟩,λh1=>absurd hv h1⟩;·rw[iw,if_pos h1]
 ·rintro⟨i,⟨e,u⟩⟩ hx;obtain⟨hi0,hi1,hs,hi⟩:=id hx;simp only at hi0 hi1 hs hi;refine⟨λhlt=>?_,λhge=>?_⟩
  ·obtain⟨r1,r2,r3,r4,r5⟩:=round ⟨i,⟨e,u⟩⟩ hx hlt;simp only at r1 r2 r3 r5;have r4:(c++[i]).length=c.length+1:=r4;refine⟨by omega,by omega,by omega,by omega,by omega,λhr=>?_,λhr=>?_⟩
   ·rw[if_pos hr] at r5;exact⟨by omega,⟨⟨hc,by omega,by omega,hs⟩,r2⟩,by omega,⟨by omega,by omega,len (by omega) (by omega) (by omega) hs,r5⟩,r3⟩
   ·rw[if_neg hr] at r5;refine⟨?_,⟨?_,?_,hs,r5⟩,r3⟩<;>omega
  ·have hl:df p i=0:=by unfold df;omega
   rw[hl] at hi;simp only[ig] at hi;rw[hi];exact rfl
theorem SO (n:Nat) (p:cj) (c:List Int) (f:Int) (b:bB) (h:ur p c f b) (hn:df p f<n+1) (hv:¬b.value<cA p c):
  Vc (oj (kx (M6 n) ky.none mi ml fQ) (BQ p c f b []) (fG 35) ((mw (n+1)).A.put (p,c,f,b)) λv=>v.bi ((mw (n+1)).res (p,c,f,b))):=by
 obtain⟨d,w⟩:=b;refine NH (let a:=γf .i64;let b:=Ψ;let e:=iZ.cells;let g:=γK;let z:=(↑p.bj.length:Int);let s:=jF p c f (bB.mk d w);let t:=0+c.length;let C:=c.length+1;let h:=ew.i .i64;let m:=g 0 0 20;let o:=g 1 0 2;let q:=g 2 0 2;let r:=e [a p.bm.a0,a p.bm.a1,a p.bm.a2,a p.bm.a3,a p.bm.a4,a p.bm.a5,a p.bs.a0,a p.bs.a1,a p.bs.a2,a p.bs.a3,a p.bs.a4,a p.bs.a5,a p.bt.a0,a p.bt.a1,a p.bt.a2,a p.bt.a3,a p.bt.a4,a p.bt.a5,b h p.bk,b ew.bu p.bj] 27 20 false;let A:=(1,b h c);let k:=e [SV.sc (Value.slice none 0 0),γv .i64 0] 40 2 false;let v:=a f;let D:=decide (w<cA p c);let E:=[iZ.dead,iZ.dead];let F:=∀(x:Int×bB),let j:=x.1+(1:Int);let B:=a j;let G:=decide (x.1<(↑p.bj.length:Int));let l:=c++[x.1];let H:=decide (bR p l=(0:Int));let I:=λ(u:bB) ↦let J:=e [b h u.bn,a u.value] 40 2 false;let y:=aS (VK.mk [A,(4,m),(7,o),(8,q),(10,B)] [r,J,k]) 1;VI .i64 j/\(((b h c).bi (b h c)/\m.bi m/\o.bi o/\q.bi q/\B.bi B/\True)/\r.bi r/\J.bi (e [b h y.bn,a y.value] 40 2 false)/\k.bi k/\True)/\(f<=j/\j<=z/\y.bn.length<=160/\s=ig p (df p j) j c y)/\df p j<df p x.1;f<=x.1/\x.1<=z/\x.2.bn.length<=160/\s=ig p (df p x.1) x.1 c x.2->(G=true->0=0/\t*8<=140737488355328/\t<=1000000000000/\c.length=c.length/\C*8<=140737488355328/\C<=1000000000000/\l.length=l.length/\l.length<=9223372036854775807/\(H=true->l.length=l.length/\VI .i64 j/\(ur p l j x.2/\df p j<n)/\I (jF p l j x.2))/\(H=false->I x.2))/\(G=false->(γJ [b h x.2.bn,a x.2.value]).bi (γJ [b h s.bn,a s.value]));let K:=r.bi r;let L:=(b h c).bi (b h c)/\m.bi m/\o.bi o/\q.bi q/\v.bi v/\True;let M:=λ(u:List Int) (u_1:Int) (u_2:List iZ) ↦let N:=e [b h u,a u_1] 40 2 false;let O:=aS (VK.mk [A,(4,m),(7,o),(8,q),(10,v)] (r::N::k::u_2)) 1;N.bi (e [b h O.bn,a O.value] 40 2 false);let P:=λ(u:List Int) (u_1:Int) (u_2:List iZ) ↦let Q:=aS (VK.mk [A,(4,m),(7,o),(8,q),(10,v)] (r::e [b h u,a u_1] 40 2 false::k::u_2)) 1;f<=f/\f<=z/\Q.bn.length<=160/\s=ig p (df p f) f c Q;c.length<=9223372036854775807/\(D=true->0=0/\t*8<=140737488355328/\t<=1000000000000/\c.length=c.length/\((L/\K/\M c (cA p c) E/\k.bi k/\False)/\P c (cA p c) E)/\F)/\(D=false->((L/\K/\M d w []/\k.bi k/\True)/\P d w [])/\F)) (by kernel_rfl) ?_;conv=>zeta
 obtain⟨hc,hf,hcl,hdl⟩:=h;simp only at hcl hdl hv;simp only[vcs,I1];have hN:p.bj.length<=160:=(cT hc).2.1;have iw:jF p c f ⟨d,w⟩=ig p (df p f) f c (if w<cA p c then⟨c,cA p c⟩ else⟨d,w⟩):=rfl;have round:∀x:Int×bB,f<=x.1/\x.1<=p.bj.length/\x.2.bn.length<=160/\jF p c f ⟨d,w⟩=ig p (df p x.1) x.1 c x.2->x.1<p.bj.length->
   df p x.1=df p (x.1+1)+1/\df p (x.1+1)<n/\df p (x.1+1)<df p x.1/\(c++[x.1]).length=c.length+1/\
   jF p c f ⟨d,w⟩=ig p (df p (x.1+1)) (x.1+1) c (if bR p (c++[x.1])=0 then jF p (c++[x.1]) (x.1+1) x.2 else x.2):=λx hx hlt=>by
  obtain⟨h1,h2,h3,h4⟩:=hx;have hl:df p x.1=df p (x.1+1)+1:=by unfold df;omega
  have hlf:df p x.1<=df p f:=by unfold df;omega
  refine⟨hl,by omega,by omega,by simp,?_⟩;rw[h4,hl];rfl
 have len:∀{c':List Int} {i:Int} {b:bB},0<=i->i<=p.bj.length->c'.length<=i->b.bn.length<=160->(jF p c' i b).bn.length<=160:=λh0 h1 h2 h3=>KK hN h0 h1 h2 h3;refine⟨by omega,λh1=>absurd h1 hv,λh1=>⟨⟨by omega,by omega,by omega,?_⟩,?_⟩⟩;·rw[iw,if_neg h1]
 ·rintro⟨i,⟨e,u⟩⟩ hx;obtain⟨hi0,hi1,hs,hi⟩:=id hx;simp only at hi0 hi1 hs hi;refine⟨λhlt=>?_,λhge=>?_⟩
  ·obtain⟨r1,r2,r3,r4,r5⟩:=round ⟨i,⟨e,u⟩⟩ hx hlt;simp only at r1 r2 r3 r5;have r4:(c++[i]).length=c.length+1:=r4;refine⟨by omega,by omega,by omega,by omega,by omega,λhr=>?_,λhr=>?_⟩
   ·rw[if_pos hr] at r5;exact⟨by omega,⟨⟨hc,by omega,by omega,hs⟩,r2⟩,by omega,⟨by omega,by omega,len (by omega) (by omega) (by omega) hs,r5⟩,r3⟩
   ·rw[if_neg hr] at r5;refine⟨?_,⟨?_,?_,hs,r5⟩,r3⟩<;>omega
  ·have hl:df p i=0:=by unfold df;omega
   rw[hl] at hi;simp only[ig] at hi;rw[hi];exact rfl
theorem D6:∀n,Holds Tryz.prog (mw n)
 |0=>by
  rintro⟨p,c,f,b⟩ ⟨_,h⟩;exact absurd h (Nat.not_lt_zero _);|n+1=>by
  rintro⟨p,c,f,b⟩ ⟨h1,h2⟩;by_cases hc:df p f<n;·exact D6 n (p,c,f,b) ⟨h1,hc⟩
  ·have hL:∀c∈M6 n,Holds Tryz.prog c:=by
    simp only[M6,List.forall_mem_cons,List.not_mem_nil,false_implies,implies_true,and_true];exact⟨D6 n,Qe,Qf⟩
   have hfr:∀d,lD (mw (n+1)).f (M6 n)=some d->∀b2,gL ((mw (n+1)).A.put (p,c,f,b))=gL (d.A.put b2)->¬d.dom b2:=by
    intro d hd b2 hb1 hb3;have hd2:d=mw n:=by
     have:lD 35 (M6 n)=some (mw n):=rfl;have hd3:lD 35 (M6 n)=some d:=hd;rw[this] at hd3;injection hd3 with hd3;exact hd3.symm
    subst hd2;have:=(mw n).A.inj _ _ hb1;rw[<-this] at hb3;exact hc hb3.2
   by_cases hv:b.value<cA p c;·exact Nw (L:=M6 n) (mw (n+1)) (fG 35) (BQ p c f b [.dead,.dead]) (mB.none _) hL (show fQ 35=some (fG 35) by kernel_rfl) (p,c,f,b) rfl hfr (SP n p c f b h1 h2 hv)
   ·exact Nw (L:=M6 n) (mw (n+1)) (fG 35) (BQ p c f b []) (mB.none _) hL (show fQ 35=some (fG 35) by kernel_rfl) (p,c,f,b) rfl hfr (SO n p c f b h1 h2 hv)
noncomputable def D5:M9:=⟨20,cj,.one cO,λp=>nW p=0,λp=>kr.put (VL p)⟩
theorem H8:Holds Tryz.prog D5:=by
 refine bI (L:=[mw 161]) D5 lk (by simpa using D6 161) ?_;rintro(p:cj) (hc:nW p=0);refine NH (let a:=(0:Int);let b:=bB.mk [] a;let c:=jF p [] a b;(ur p [] a b/\df p a<161)/\(γJ [Ψ (ew.i .i64) c.bn,γf .i64 c.value]).bi (γJ [Ψ (ew.i .i64) (VL p).bn,γf .i64 (VL p).value])) (by kernel_rfl) ?_;conv=>zeta
 have hN:=(cT hc).2.1;refine⟨⟨⟨hc,⟨by omega,by omega⟩,by simp,by simp⟩,by unfold df;omega⟩,?_⟩;rw[SQ hc];exact rfl
def SN (p:cj):Int:=pH p (allM p)
theorem SM {p:cj} (a:nW p=0):pv p (VL p).bn/\cA p (VL p).bn=(VL p).value/\(VL p).value=SN p:=by
 obtain⟨_,d,b,e⟩:=Me a;have c:pv p (VL p).bn:=⟨b,d⟩;exact⟨c,by grind[uB],(A7 a).symm⟩
def P_ (n:cz):SV:=.ite (decide (n.1=1)) (.ia 204 (cJ Ap n)) (.ite (decide (n.1=2)) (.ia 205 (cJ Ap n)) (.ite (decide (n.1=3)) (.ia 206 (cJ Ap n)) (.ia 208 [])))
def BP:M9:=⟨86,cz,.one (dy Ap),λ_=>True,P_⟩
theorem yF:Holds Tryz.prog BP:=by
 refine bI (L:=[]) BP lk (by simp) ?_;rintro⟨k,o,a,b,y⟩ _;refine NH (let c:=γf .i64;let d:=(1:Int);let e:=(2:Int);let f:=(3:Int);let i:=decide (k=d);let g:=[c k,c o,c a,c b,Ψ sF y];let n:=θc 204 g;let j:=decide (k=e);let p:=θc 205 g;let l:=decide (k=f);let q:=θc 206 g;let h:=θc 208 [];let m:=λ(u:Int) (u_1:Nat) ↦decide (k=u)=true->(i=true->(θc u_1 g).bi n)/\(i=false->(j=true->(θc u_1 g).bi p)/\(j=false->(l=true->(θc u_1 g).bi q)/\(l=false->(θc u_1 g).bi h)));m d 204/\(decide (k=d)=false->m e 205/\(decide (k=e)=false->m f 206/\(decide (k=f)=false->(i=true->h.bi n)/\(i=false->(j=true->h.bi p)/\(j=false->(l=true->h.bi q)/\(l=false->h.bi h))))))) (by kernel_rfl) ?_;simp only[vcs];repeat' (first|refine And.intro ?_ ?_|intro _)
 all_goals first|trivial|omega
def pr (n:cz):Bool:=decide (n.2.1=0)&&decide (n.2.2.1=0)&&decide (n.2.2.2.1=0)
def BO:M9:=⟨211,cz,.one (dy Ap),λ_=>True,λn=> .sb (pr n)⟩
theorem yE:Holds Tryz.prog BO:=by
 refine bI (L:=[]) BO lk (by simp) ?_;rintro⟨k,o,a,b,y⟩ _;refine NH (let f:=δd false;let g:=(0:Int);let e:=decide (o=g);let d:=decide (a=g);let c:=γy (pr (k,o,a,b,y));(e=true->(d=true->(γy (decide (b=g))).bi c)/\(d=false->(f).bi c))/\(e=false->(f).bi c)) (by kernel_rfl) ?_;simp_all[pr]
def mV (n:cz):Bool:=pr n&&decide (n.2.2.2.2.length<=40)&&n.2.2.2.2.all okF
def D4:M9:=⟨209,cz,.one (dy Ap),λn=>∀x∈n.2.2.2.2,gK x,λn=> .sb (mV n)⟩
def SL (n:cz):Nat->bG
 |4=> .inv Int (λi=>⟨[(18,.row sF n.2.2.2.2),(19,.si .i64 n.2.2.2.2.length),(20,.si .i64 i)],[.cells (cJ Ap n) 204 5 false]⟩) (λs=>iS s 20)
  (λi=>0<=i/\i<=n.2.2.2.2.length/\(n.2.2.2.2.take i.toNat).all okF=true) (λi=>(n.2.2.2.2.length - i).toNat) λ_ _=> .look
 |_=> .look
theorem HQ:Holds Tryz.prog D4:=by
 refine bI (L:=[BO,sf]) D4 SL (by simpa using⟨yE,nE⟩) ?_;rintro⟨k,o,a,b,y⟩ hy;have hy:∀x∈y,gK x:=hy;refine NH (let c:=γf .i64;let d:=(0:Int);let e:=δd false;let f:=Ψ;let p:=!pr (k,o,a,b,y);let j:=γy (mV (k,o,a,b,y));let m:=(↑y.length:Int);let q:=decide ((40:Int)<m);let g:=(↑y.length:Int);let n:=c g;let l:=iZ.cells [c k,c o,c a,c b,f sF y] 204 5 false;True/\(p=true->(e).bi j)/\(p=false->(q=true->(e).bi j)/\(q=false->((((f sF y).bi (f sF y)/\(c m).bi n/\(γv .i64 0).bi (c 0)/\True)/\l.bi l/\True)/\d<=d/\d<=g/\true=true)/\∀(x:Int),let h:=bN y x.toNat sF.bw;let i:=x+(1:Int);let r:=c i;let s:=λ(u:Bool) ↦(!okF (h.1,h.2.1,h.2.2))=u;d<=x/\x<=g/\(Γ x.toNat y).all okF=true->(decide (x<g)=true->d<=x/\x<m/\x.toNat<y.length/\((ou h.2.1/\ou h.2.2)/\γb h.2.1<=10000000/\γb h.2.2<=10000000)/\(s true->(e).bi j)/\(s false->VI .i64 i/\(((f sF y).bi (f sF y)/\n.bi n/\r.bi r/\True)/\l.bi l/\True)/\(d<=i/\i<=g/\(Γ i.toNat y).all okF=true)/\(g - i).toNat<(g - x).toNat))/\(decide (x<g)=false->(δd true).bi j)))) (by kernel_rfl) ?_;simp only[vcs];refine⟨λh=>by simp[mV,h],λhp=>⟨λh40=>?_,λh40=>⟨⟨by omega,by omega⟩,?_⟩⟩⟩
 ·have:¬y.length<=40:=by omega
  simp[mV,this]
 rintro i ⟨i0,i1,hi⟩;refine⟨λhlt=>?_,λhge=>?_⟩
 ·have hm:=cE (d:=sF.bw) (show i.toNat<y.length by omega);have et:=jj (d:=sF.bw) i0 hlt;refine⟨i0,hlt,by omega,hy _ hm,λh=>?_,λh=>⟨⟨by omega,by omega⟩,⟨by omega,by omega,?_⟩,by omega⟩⟩
  ·have h:okF (bN y i.toNat sF.bw)=false:=h;have:y.all okF=false:=by
    rw[δK];intro ha;have:=χ.1 ha _ hm;rw[h] at this;cases this
   simp[mV,this]
  ·have h:okF (bN y i.toNat sF.bw)=true:=h;rw[et,ζK,hi];simp[h]
 ·rw[show i.toNat=y.length by omega,ψ] at hi;have:y.length<=40:=by omega
  simp[mV,hp,hi,this]
def mv (k:Int):Bool:=decide (0<=k)&&decide (k<=65536)
def pe (n:cz):Bool:=mv n.2.1&&mv n.2.2.1&&mv n.2.2.2.1&&decide (n.2.2.2.2=[])
def D3:M9:=⟨215,cz,.one (dy Ap),λ_=>True,λn=> .sb (pe n)⟩
theorem HM:Holds Tryz.prog D3:=by
 refine bI (L:=[]) D3 (λ_ _=> .apq 4) (by simp) ?_;rintro⟨k,o,a,b,y⟩ _;refine NH (let r:=(0:Int);let s:=δd false;let t:=(65536:Int);let u:=(3:Int);let v:=γy;let j:=bN [o,a,b] 0 r;let g:=decide (j<r);let c:=v (pe (k,o,a,b,y));let m:=decide (t<j);let n:=bN [o,a,b] 1 r;let q:=decide (n<r);let i:=decide (t<n);let p:=bN [o,a,b] 2 r;let l:=decide (p<r);let h:=decide (t<p);let f:=bN [o,a,b] 3 r;let d:=decide (f<r);let e:=decide (t<f);(true=true->r<=r/\r<u/\0<3/\(g=true->(s).bi c)/\(g=false->(m=true->(s).bi c)/\(m=false->(true=true->r<=(1:Int)/\(1:Int)<u/\1<3/\(q=true->(s).bi c)/\(q=false->(i=true->(s).bi c)/\(i=false->(true=true->r<=(2:Int)/\(2:Int)<u/\2<3/\(l=true->(s).bi c)/\(l=false->(h=true->(s).bi c)/\(h=false->(false=true->r<=u/\u<u/\3<3/\(d=true->(s).bi c)/\(d=false->(e=true->(s).bi c)/\(e=false->False)))/\(false=false->(v (decide ((↑y.length:Int)=r))).bi c))))/\(true=false->(v (decide ((↑y.length:Int)=r))).bi c))))/\(true=false->(v (decide ((↑y.length:Int)=r))).bi c))))/\(true=false->(v (decide ((↑y.length:Int)=r))).bi c)) (by kernel_rfl) ?_;simp_all[bN,mv,decide_eq_false,pe]
def q9 (n:cz):Bool:=pr n&&decide (n.2.2.2.2=[])
def CI:M9:=⟨219,cz,.one (dy Ap),λ_=>True,λn=> .sb (q9 n)⟩
theorem HJ:Holds Tryz.prog CI:=by
 refine bI (L:=[BO]) CI lk (by grind[yE]) ?_;rintro⟨k,o,a,b,y⟩ _;refine NH (let d:=pr (k,o,a,b,y);let c:=γy (q9 (k,o,a,b,y));True/\(d=true->(γy (decide ((↑y.length:Int)=(0:Int)))).bi c)/\(d=false->(δd false).bi c)) (by kernel_rfl) ?_;simp_all[q9]
def CH:o7 Unit where
 put _:=.agg [];dec
  | .agg []=>some ()
  |_=>none;ok v a h:=by
  grind
 inj a b h:=rfl
def CG:M9:=⟨223,Unit,.one CH,λ_=>True,λ_=> .sb false⟩
theorem HG:Holds Tryz.prog CG:=by
 refine bI (L:=[]) CG lk (by simp) ?_;rintro _ _;refine NH ((δd false).bi (γy false)) (by kernel_rfl) ?_;rfl
def CF:M9:=⟨207,cz,.one (dy Ap),λ_=>True,λ_=> .row (.i .i64) []⟩
theorem HS:Holds Tryz.prog CF:=by
 refine bI (L:=[]) CF lk (by simp) ?_;rintro⟨k,o,a,b,y⟩ _;refine NH (let c:=Ψ (ew.i .i64) [];c.bi c) (by kernel_rfl) ?_;simp_all
def CE:M9:=⟨213,cz,.one (dy Ap),λ_=>True,λn=> .row (.i .i64) [n.2.2.1,n.2.2.2.1]⟩
theorem HO:Holds Tryz.prog CE:=by
 refine bI (L:=[]) CE lk (by simp) ?_;rintro⟨k,o,a,b,y⟩ _;refine NH (let c:=Ψ (ew.i .i64) [a,b];c.bi c) (by kernel_rfl) ?_;simp_all
def CD:M9:=⟨217,cz,.one (dy Ap),λ_=>True,λ_=> .row (.i .i64) []⟩
theorem HL:Holds Tryz.prog CD:=by
 refine bI (L:=[]) CD lk (by simp) ?_;rintro⟨k,o,a,b,y⟩ _;refine NH (let c:=Ψ (ew.i .i64) [];c.bi c) (by kernel_rfl) ?_;simp_all
def r505:M9:=⟨221,Unit,.one CH,λ_=>True,λ_=> .row (.i .i64) []⟩
theorem HI:Holds Tryz.prog r505:=by
 refine bI (L:=[]) r505 lk (by simp) ?_;rintro _ _;refine NH (let a:=Ψ (ew.i .i64) [];a.bi a) (by kernel_rfl) ?_;simp_all
def iC (n:cz):List Int:=if n.1=2 then[n.2.2.1,n.2.2.2.1] else[]
def p_ (n:cz):Bool:=if n.1=1 then mV n else if n.1=2 then pe n else if n.1=3 then q9 n else false
def fY (t:List cz) (i:Nat):List Int:=(t.take i).flatMap iC
def j6 (n:Nat) (c:List Int):List Int:=(bP n).map λk=>(c.count k:Int)
def rf (n:Nat) (i:Int) (c:List Int):List Int->Bool
 |[]=>true
 |x::r=>decide (i<x/\x<n)&&decide (x∉c)&&rf n i (c++[x]) r
def jM (t:List cz) (i:Nat):Bool:=p_ (bN t i Ap.bw)&&rf t.length i (fY t i) (iC (bN t i Ap.bw))
def dn (t:List cz):Bool:=decide (1<=t.length/\t.length<=65536)&&((ω t.length).all (jM t)&&(ω (t.length - 1)).all λk=>decide (((k:Int)+1)∈fY t t.length))
theorem uq {n:Nat} {c:List Int}:(j6 n c).length=n:=by simp[j6,eY]
theorem uX {n j:Nat} {c:List Int} (h:j<n):bN (j6 n c) j 0=(c.count (j:Int):Nat):=by
 grind[j6,b_,bP]
theorem KJ {n:Nat} {c:List Int} {x:Int} (l:0<=x) (g:x<n):(j6 n c).set x.toNat (bN (j6 n c) x.toNat 0+1)=j6 n (c++[x]):=by
 refine γ8 (by grind[uq]) λj h i=>?_;have a:j<n:=by grind[uq]
 have e:x.toNat<n:=by omega
 have b:=@uX n j (c++[x]) a;rw[b_ (by omega)] at b;rw[b,List.getElem_set];have k:=@uX n x.toNat c e;by_cases f:x.toNat=j;·grind
 ·rw[if_neg f];have d:=@uX n j c a;rw[b_ (by simp_all)] at d;grind
theorem SK {n:Nat}:j6 n []=δ n 0:=by
 refine γ8 (by grind[uq]) λj b a=>?_;simp[j6]
theorem Jy {t:List cz} {i:Int} (b:0<=i) (a:i<t.length):fY t (i+1).toNat=fY t i.toNat++iC (bN t i.toNat Ap.bw):=by
 grind[fY,jj]
theorem SJ {t:List cz} {i:Nat} (h:i<t.length) (a:jM t i=false):dn t=false:=by
 grind[dn]
theorem SI {t:List cz} {k:Nat} (h:k<t.length - 1) (a:((k:Int)+1)∉fY t t.length):dn t=false:=by
 unfold dn;grind
def CC:M9:=⟨60,List cz,.one (cL Ap),λt=>∀n∈(show List cz from t),∀x∈n.2.2.2.2,gK x,λt=> .sb (dn t)⟩
def SH (t:List cz):Nat->bG
 |5=> .inv Int (λi=>⟨[(0,.row Ap t),(3,.ow 0 t.length 1),(22,.row Ap t),(23,.si .i64 t.length),(24,.si .i64 i)],[.row (.i .i64) (j6 t.length (fY t i.toNat)) 3 true]⟩) (λs=>iS s 24)
  (λi=>0<=i/\i<=t.length/\∀j:Nat,j<i->jM t j=true) (λi=>(t.length - i).toNat) λ_=>λ
   |11=> .apq 3
   |_=> .look
 |19=> .inv Int (λi=>⟨[(66,.os 0 1 (t.length - 1) t.length 1),(67,.si .i64 (t.length - 1:Nat)),(68,.si .i64 i)],[.row (.i .i64) (j6 t.length (fY t t.length)) 3 true]⟩) (λs=>iS s 68)
  (λi=>0<=i/\i<=(t.length - 1:Nat)/\∀j:Nat,j<i->((j:Int)+1)∈fY t t.length) (λi=>((t.length - 1:Nat) - i).toNat) λ_ _=> .look
 |_=> .look
theorem HU:Holds Tryz.prog CC:=by
 refine bI (L:=[BP,D4,D3,CI,CG,CF,CE,CD,r505]) CC SH (by simpa using⟨yF,HQ,HM,HJ,HG,HS,HO,HL,HI⟩) ?_;intro(t:List cz) ht;refine NH (let a:=(0:Int);let b:=δd false;let c:=(1:Int);let d:=Ψ;let e:=γy;let f:=VI .i64;let g:=γf .i64;let h:=iZ.row;let k:=(2:Int);let l:=γv .i64 0;let p:=(↑t.length:Int);let a9:=decide (p<c);let aa:=decide ((65536:Int)<p);let s:=γW 0 t.length 1;let o:=(↑t.length:Int);let v:=g o;let C:=ew.i .i64;let E:=decide (p<=a);let R:=t.length - 1;let P:=SV.os 0 1 R t.length 1;let z:=(↑R:Int);let Q:=g z;let M:=j6 t.length (fY t t.length);let S:=h C M 3 true;(a9=true->(b).bi (e (dn t)))/\(a9=false->(aa=true->(b).bi (e (dn t)))/\(aa=false->a<=p/\p<=p/\p*(8:Int)<=(140737488355328:Int)/\p<=(1000000000000:Int)/\((((d Ap t).bi (d Ap t)/\(γW 0 p.toNat 1).bi s/\(d Ap t).bi (d Ap t)/\(g p).bi v/\(l).bi (g 0)/\True)/\(h C (δ p.toNat a) 3 true).bi (h C (j6 t.length (fY t 0)) 3 true)/\True)/\a<=a/\a<=o/\∀(j:Nat),(↑j:Int)<a->jM t j=true)/\∀(x:Int),let F:=decide (a<=x);let G:=j6 t.length (fY t x.toNat);let n:=G.length;let T:=bN G 0 a;let ab:=decide (a<T);let q:=G.set 0 (T+c);let U:=bN q 0 a;let ac:=decide (a<U);let r:=q.set 0 (U+c);let ad:=bN r 0 a;let ae:=decide (a<ad);let m:=x+c;let y:=g m;let N:=h C (j6 t.length (fY t m.toNat)) 3 true;let V:=h C G 3 true;let w:=bN t x.toNat Ap.bw;let W:=[w.2.2.1,w.2.2.2.1];let D:=bN W 2 a;let A:=bN W 0 a;let X:=bN G A.toNat a;let H:=G.set A.toNat (X+c);let B:=bN W 1 a;let Y:=bN H B.toNat a;let O:=H.set B.toNat (Y+c);let af:=decide (w.1=c);let I:=(w.1,w.2.1,w.2.2.1,w.2.2.2.1,w.2.2.2.2);let ag:=decide (w.1=k);let ah:=decide (a<X);let ai:=decide (a<Y);let aj:=bN O D.toNat a;let ak:=decide (a<aj);let al:=decide (w.1=(3:Int));let Z:=let am:=λ(u:List Int) ↦false=false->f m/\(((d Ap t).bi (d Ap t)/\s.bi s/\(d Ap t).bi (d Ap t)/\v.bi v/\y.bi y/\True)/\(h C u 3 true).bi N/\True)/\(a<=m/\m<=o/\∀(j:Nat),(↑j:Int)<m->jM t j=true)/\(o - m).toNat<(o - x).toNat;True/\(false=true->a<=a/\a<a/\0<0/\(F=true->(b).bi (e (dn t)))/\(F=false->(E=true->(b).bi (e (dn t)))/\(E=false->t.length=n/\a<=a/\a<(↑n:Int)/\t.length=n/\0<n/\(ab=true->(b).bi (e (dn t)))/\(ab=false->t.length=n/\a<=a/\a<(↑n:Int)/\t.length=n/\0<n/\f (T+c)/\t.length=n/\a<=a/\a<(↑n:Int)/\t.length=n/\0<n/\(false=true->a<=c/\c<a/\1<0/\(F=true->(b).bi (e (dn t)))/\(F=false->(E=true->(b).bi (e (dn t)))/\(E=false->t.length=q.length/\a<=a/\a<(↑q.length:Int)/\t.length=q.length/\0<q.length/\(ac=true->(b).bi (e (dn t)))/\(ac=false->t.length=q.length/\a<=a/\a<(↑q.length:Int)/\t.length=q.length/\0<q.length/\f (U+c)/\t.length=q.length/\a<=a/\a<(↑q.length:Int)/\t.length=q.length/\0<q.length/\(false=true->a<=k/\k<a/\2<0/\(F=true->(b).bi (e (dn t)))/\(F=false->(E=true->(b).bi (e (dn t)))/\(E=false->t.length=r.length/\a<=a/\a<(↑r.length:Int)/\t.length=r.length/\0<r.length/\(ae=true->(b).bi (e (dn t)))/\(ae=false->t.length=r.length/\a<=a/\a<(↑r.length:Int)/\t.length=r.length/\0<r.length/\f (ad+c)/\t.length=r.length/\a<=a/\a<(↑r.length:Int)/\t.length=r.length/\0<r.length/\False))))/\am r))))/\am q))))/\(false=false->f m/\(((d Ap t).bi (d Ap t)/\s.bi s/\(d Ap t).bi (d Ap t)/\v.bi v/\y.bi y/\True)/\V.bi N/\True)/\(a<=m/\m<=o/\∀(j:Nat),(↑j:Int)<m->jM t j=true)/\(o - m).toNat<(o - x).toNat);let a0:=D<(↑O.length:Int);let a1:=D.toNat<O.length;let J:=t.length=O.length;let a2:=B<(↑H.length:Int);let a3:=B.toNat<H.length;let K:=t.length=H.length;let a4:=A<(↑n:Int);let a5:=A.toNat<n;let a6:=a<=D;let a7:=a<=A;let a8:=a<=B;(a<=x/\x<=o/\∀(j:Nat),(↑j:Int)<x->jM t j=true)->(decide (x<o)=true->a<=x/\x<p/\x.toNat<t.length/\True/\(af=true->(∀(x:NG),x∈w.2.2.2.2->gK x)/\((!mV I)=true->(b).bi (e (dn t)))/\((!mV I)=false->Z))/\(af=false->(ag=true->True/\((!pe I)=true->(b).bi (e (dn t)))/\((!pe I)=false->True/\(true=true->a<=a/\a<k/\0<2/\(decide (A<=x)=true->(b).bi (e (dn t)))/\(decide (A<=x)=false->(decide (p<=A)=true->(b).bi (e (dn t)))/\(decide (p<=A)=false->t.length=n/\a7/\a4/\t.length=n/\a5/\(ah=true->(b).bi (e (dn t)))/\(ah=false->t.length=n/\a7/\a4/\t.length=n/\a5/\f (X+c)/\t.length=n/\a7/\a4/\t.length=n/\a5/\(true=true->a<=c/\c<k/\1<2/\(decide (B<=x)=true->(b).bi (e (dn t)))/\(decide (B<=x)=false->(decide (p<=B)=true->(b).bi (e (dn t)))/\(decide (p<=B)=false->K/\a8/\a2/\K/\a3/\(ai=true->(b).bi (e (dn t)))/\(ai=false->K/\a8/\a2/\K/\a3/\f (Y+c)/\K/\a8/\a2/\K/\a3/\(false=true->a<=k/\k<k/\2<2/\(decide (D<=x)=true->(b).bi (e (dn t)))/\(decide (D<=x)=false->(decide (p<=D)=true->(b).bi (e (dn t)))/\(decide (p<=D)=false->J/\a6/\a0/\J/\a1/\(ak=true->(b).bi (e (dn t)))/\(ak=false->J/\a6/\a0/\J/\a1/\f (aj+c)/\J/\a6/\a0/\J/\a1/\False))))/\(false=false->f m/\(((d Ap t).bi (d Ap t)/\s.bi s/\(d Ap t).bi (d Ap t)/\v.bi v/\y.bi y/\True)/\(h C O 3 true).bi N/\True)/\(a<=m/\m<=o/\∀(j:Nat),(↑j:Int)<m->jM t j=true)/\(o - m).toNat<(o - x).toNat)))))/\(true=false->f m/\(((d Ap t).bi (d Ap t)/\s.bi s/\(d Ap t).bi (d Ap t)/\v.bi v/\y.bi y/\True)/\(h C H 3 true).bi N/\True)/\(a<=m/\m<=o/\∀(j:Nat),(↑j:Int)<m->jM t j=true)/\(o - m).toNat<(o - x).toNat)))))/\(true=false->f m/\(((d Ap t).bi (d Ap t)/\s.bi s/\(d Ap t).bi (d Ap t)/\v.bi v/\y.bi y/\True)/\V.bi N/\True)/\(a<=m/\m<=o/\∀(j:Nat),(↑j:Int)<m->jM t j=true)/\(o - m).toNat<(o - x).toNat)))/\(ag=false->(al=true->True/\((!q9 I)=true->(b).bi (e (dn t)))/\((!q9 I)=false->Z))/\(al=false->True/\(true=true->(b).bi (e (dn t)))/\(true=false->Z)))))/\(decide (x<o)=false->t.length=n/\1<=t.length/\t.length<=t.length/\(((P.bi P/\Q.bi Q/\(l).bi (g 0)/\True)/\V.bi S/\True)/\a<=a/\a<=z/\∀(j:Nat),(↑j:Int)<a->(↑j:Int)+c∈fY t t.length)/\∀(x:Int),let an:=decide (bN M (1+x.toNat) 0=a);let L:=x+c;let ao:=g L;(a<=x/\x<=z/\∀(j:Nat),(↑j:Int)<x->(↑j:Int)+c∈fY t t.length)->(decide (x<z)=true->t.length=M.length/\a<=x/\x<z/\1+R<=t.length/\t.length=M.length/\1+x.toNat<M.length/\(an=true->(b).bi (e (dn t)))/\(an=false->f L/\((P.bi P/\Q.bi Q/\ao.bi ao/\True)/\S.bi S/\True)/\(a<=L/\L<=z/\∀(j:Nat),(↑j:Int)<L->(↑j:Int)+c∈fY t t.length)/\(z - L).toNat<(z - x).toNat))/\(decide (x<z)=false->(δd true).bi (e (dn t))))))) (by kernel_rfl) ?_;simp only[vcs];refine⟨λh=>?_,λh1=>⟨λh=>?_,λh2=>?_⟩⟩
 ·have:¬(1<=t.length/\t.length<=65536):=by omega
  simp[dn,this]
 ·have:¬(1<=t.length/\t.length<=65536):=by omega
  simp[dn,this]
 have hrow:∀{x y:List Int},x=y->(iZ.row (.i .i64) x 3 true).bi (iZ.row (.i .i64) y 3 true):=by rintro _ _ rfl;rfl
 have how:∀{x y:Nat},x=y->(γW 0 x 1).bi (γW 0 y 1):=by rintro _ _ rfl;rfl
 refine⟨by omega,by omega,by omega,by omega,⟨⟨how (by omega),hrow ?_⟩,by omega,by omega,λj hj=>by omega⟩,?_⟩;·rw[show fY t 0=[] from rfl,SK];simp
 rintro i ⟨i0,i1,hi⟩;refine⟨λhlt=>?_,λhge=>?_⟩
 ·have hil:i.toNat<t.length:=by omega
  have hm:=ht _ (cE (d:=Ap.bw) hil);have hs:=Jy i0 hlt;have hg:jM t i.toNat=(p_ (bN t i.toNat Ap.bw)&&rf t.length i (fY t i.toNat) (iC (bN t i.toNat Ap.bw))):=by
   unfold jM;rw[show((i.toNat:Nat):Int)=i by omega]
  generalize bN t i.toNat Ap.bw=N at*;obtain⟨k,o,a,b,y⟩:=N;generalize hc:fY t i.toNat=c at*;have no:jM t i.toNat=false->false=dn t:=λh=>(SJ hil h).symm;have fin:jM t i.toNat=true->(∀j:Nat,(j:Int)<i+1->jM t j=true):=λh j hj=>by
   by_cases h2:(j:Int)<i;·exact hi j h2
   ·rw[show j=i.toNat by omega];exact h
  have hl:=@uq t.length c;have w1:k=1->p_ (k,o,a,b,y)=mV (k,o,a,b,y):=λh=>if_pos h;have w2:¬k=1->k=2->p_ (k,o,a,b,y)=pe (k,o,a,b,y):=λh h'=>(if_neg h).trans (if_pos h');have w3:¬k=1->¬k=2->k=3->p_ (k,o,a,b,y)=q9 (k,o,a,b,y):=λh h' h''=>(if_neg h).trans ((if_neg h').trans (if_pos h''));have w4:¬k=1->¬k=2->¬k=3->p_ (k,o,a,b,y)=false:=λh h' h''=>(if_neg h).trans ((if_neg h').trans (if_neg h''));have kd1:¬k=2->iC (k,o,a,b,y)=[]:=λh=>if_neg h;have kd2:k=2->iC (k,o,a,b,y)=[a,b]:=λh=>if_pos h;have ea:bN [a,b] 0 0=a:=rfl;have eb:bN [a,b] 1 0=b:=rfl;dsimp only;simp only[ea,eb];refine⟨i0,hlt,hil,λh1=>⟨hm,λhw=>no ?_,λhw=>⟨λh=>(by cases h),λ_=>⟨⟨by omega,by omega⟩,hrow ?_,⟨by omega,by omega,fin ?_⟩,by omega⟩⟩⟩,λh1=>⟨λh2=>?_,λh2=>⟨λh3=>⟨λhw=>no ?_,λhw=>⟨λh=>(by cases h),λ_=>⟨⟨by omega,by omega⟩,hrow ?_,⟨by omega,by omega,fin ?_⟩,by omega⟩⟩⟩,λh3=>⟨λ_=>no ?_,λh=>(by cases h)⟩⟩⟩⟩;·rw[hg,w1 h1,hw];rfl
  ·rw[hs,kd1 (by omega),γR]
  ·rw[hg,w1 h1,kd1 (by omega),hw];rfl
  ·have hg2:jM t i.toNat=(pe (k,o,a,b,y)&&(decide (i<a/\a<t.length)&&decide (a∉c)&&(decide (i<b/\b<t.length)&&decide (b∉c++[a])&&true))):=by rw[hg,w2 h1 h2,kd2 h2];rfl
   rw[kd2 h2] at hs;refine⟨λhw=>no ?_,λhw=>⟨λ_=>⟨by omega,by omega,by omega,λha=>no ?_,λha=>⟨λhb=>no ?_,λhb=>?_⟩⟩,λh=>(by cases h)⟩⟩;·rw[hg2,hw];rfl
   ·rw[hg2,decide_eq_false (p:=i<a/\a<t.length) (by omega)];simp
   ·rw[hg2,decide_eq_false (p:=i<a/\a<t.length) (by omega)];simp
   have hat:a.toNat<t.length:=by omega
   have ca:=@uX t.length a.toNat c hat;rw[show((a.toNat:Nat):Int)=a by omega] at ca;have pa:=@KJ t.length c a (by omega) (by omega);have la:0<=a/\a<(j6 t.length c).length:=by rw[hl];omega
   have la2:a.toNat<(j6 t.length c).length:=by rw[hl];exact hat
   refine⟨hl.symm,la.1,la.2,hl.symm,la2,λhc1=>no ?_,λhc1=>⟨hl.symm,la.1,la.2,hl.symm,la2,⟨by omega,by omega⟩,hl.symm,la.1,la.2,hl.symm,la2,λ_=>?_,λh=>(by cases h)⟩⟩
   ·have:a∈c:=δU.1 (by omega);rw[hg2,decide_eq_false (p:=a∉c) (by simpa using this)];simp
   have hac:a∉c:=λh=>by have:=δU.2 h;omega
   simp only[pa];have hl2:=@uq t.length (c++[a]);refine⟨by omega,by omega,by omega,λhb1=>no ?_,λhb1=>⟨λhb2=>no ?_,λhb2=>?_⟩⟩;·rw[hg2,decide_eq_false (p:=i<b/\b<t.length) (by omega)];simp
   ·rw[hg2,decide_eq_false (p:=i<b/\b<t.length) (by omega)];simp
   have hbt:b.toNat<t.length:=by omega
   have cb:=@uX t.length b.toNat (c++[a]) hbt;rw[show((b.toNat:Nat):Int)=b by omega] at cb;have pb:=@KJ t.length (c++[a]) b (by omega) (by omega);have lb:0<=b/\b<(j6 t.length (c++[a])).length:=by rw[hl2];omega
   have lb2:b.toNat<(j6 t.length (c++[a])).length:=by rw[hl2];exact hbt
   refine⟨hl2.symm,lb.1,lb.2,hl2.symm,lb2,λhc2=>no ?_,λhc2=>⟨hl2.symm,lb.1,lb.2,hl2.symm,lb2,⟨by omega,by omega⟩,hl2.symm,lb.1,lb.2,hl2.symm,lb2,λh=>(by cases h),λ_=>⟨⟨by omega,by omega⟩,hrow ?_,⟨by omega,by omega,fin ?_⟩,by omega⟩⟩⟩
   ·have:b∈c++[a]:=δU.1 (by omega);rw[hg2,decide_eq_false (p:=b∉c++[a]) λh=>h this];simp
   ·rw[pb,hs,γC];rfl
   ·have hbc:b∉c++[a]:=λh=>by have:=δU.2 h;omega
    rw[hg2,hw,decide_eq_true (p:=i<a/\a<t.length) (by omega),decide_eq_true (p:=i<b/\b<t.length) (by omega),decide_eq_true hac,decide_eq_true hbc];rfl
  ·rw[hg,w3 h1 h2 h3,hw];rfl
  ·rw[hs,kd1 h2,γR]
  ·rw[hg,w3 h1 h2 h3,kd1 h2,hw];rfl
  ·rw[hg,w4 h1 h2 h3];rfl
 ·rw[show i.toNat=t.length by omega];have hl:=@uq t.length (fY t t.length);refine⟨hl.symm,by omega,by omega,⟨hrow rfl,by omega,by omega,λj hj=>by omega⟩,?_⟩;rintro x ⟨x0,x1,hx⟩;refine⟨λhlt=>?_,λayY=>?_⟩
  ·have cx:=@uX t.length (1+x.toNat) (fY t t.length) (by omega);rw[show(((1+x.toNat:Nat)):Int)=(x.toNat:Int)+1 by omega] at cx;refine⟨hl.symm,x0,hlt,by omega,hl.symm,by rw[hl];omega,λh=>?_,λh=>⟨⟨by omega,by omega⟩,⟨by omega,by omega,λj hj=>?_⟩,by omega⟩⟩;·exact(SI (k:=x.toNat) (by omega) λhm=>by have:=δU.2 hm;omega).symm
   ·by_cases hj2:(j:Int)<x;·exact hx j hj2
    ·rw[show j=x.toNat by omega];exact δU.1 (by omega)
  ·symm;unfold dn;rw[decide_eq_true (by omega),χ.2 λk hk=>hi k (by have:=γq.1 hk;omega),χ.2 λk hk=>decide_eq_true (hx k (by have:=γq.1 hk;omega))];rfl
theorem pf {W:Int} (a: -9223372036854775808<=W) (b:W<=9223372036854775807):Sz 2 (W:Rat):=by
 unfold Sz;simp;omega
def gW (p:cj) (y:List Rat) (r:Nat) (i:Int):Rat:=((oI p i).value:Rat) - Oq r λk=>bN y k 0*((dv p k (oI p i):Int):Rat)
def jJ (p:cj) (f:List Int) (y:List Rat) (r:Nat):Rat:=((fJ p f:Int):Rat)+Oq r λk=>bN y k 0*((cB p k - bZ p ((Ao f 1).map (oI p)) k:Int):Rat)
def ln (p:cj) (f:List Int) (r:Int) (k:Nat):Int:=cB p r - bZ p ((Ao (f.take k) 1).map (oI p)) r
theorem SG {a:Type} {n j:Nat} (g:Int->a) (d:a) (h:j<n):bN ((bP n).map g) j d=g j:=by
 grind[b_,bP]
theorem CB {c:Type} {a b:List c} (d:c) (e:a.length=b.length) (h:∀j,j<a.length->bN a j d=bN b j d):a=b:=by
 refine γ8 e λj f g=>?_;grind[b_]
theorem SF {p:cj} {f:List Int} {y:List Rat}:jJ p f y 0=((fJ p f:Int):Rat):=by
 grind[jJ,Oq]
theorem Jx {p:cj} {f:List Int} {y:List Rat} {r:Nat}:jJ p f y (r+1)=jJ p f y r+bN y r 0*((cB p r - bZ p ((Ao f 1).map (oI p)) r:Int):Rat):=by
 grind[jJ,Oq]
theorem CA {p:cj} {y:List Rat} {r:Nat} {i:Int}:gW p y (r+1) i=gW p y r i - bN y r 0*((dv p r (oI p i):Int):Rat):=by
 grind[gW,Oq]
theorem Jw {p:cj} {r:Int}:(gv p r p.bj.length).length=p.bj.length:=by grind[gv]
theorem SE {p:cj} {r i:Int} (h:0<=i/\i<p.bj.length):bN (gv p r p.bj.length) i.toNat 0=dv p r (oI p i):=by
 grind[gv,b_,oI]
theorem SD {p:cj} {f:List Int} {r:Int}:ln p f r 0=cB p r:=by
 simp_all[ln,Ao,bP,bZ]
theorem Te {p:cj} {f:List Int} {r k:Int} (a:0<=k) (h:k<f.length):ln p f r (k+1).toNat=ln p f r k.toNat - if bN f k.toNat 0=1 then dv p r (oI p k) else 0:=by
 grind[ln,wM,bZ]
theorem Jv {p:cj} {f:List Int} {r:Int}:ln p f r f.length=cB p r - bZ p ((Ao f 1).map (oI p)) r:=by
 grind[ln]
theorem Ju {p:cj} {f:List Int} {r:Int} {k:Nat} (a:nW p=0) (j:f.length=p.bj.length): -640<=ln p f r k/\ln p f r k<=4:=by
 have g:=@yc p a r;have b:=@qt p r ((Ao (f.take k) 1).map (oI p)) λx d=>by
  obtain⟨i,e,rfl⟩:=Ω.1 d;have:=(jQ.1 e).1;rw[γx] at this;exact(jP a (i:=i) (by omega)).2.2.1
 have c:=@rh (f.take k) 1;rw[List.length_map] at b;rw[γx] at c;have h:=(cT a).2.1;grind[ln]
section
variable {p:cj} {f:List Int}
theorem Td (h:dV p f) {i:Int} (c:0<=i/\i<f.length) (d:bN f i.toNat 0=0):gW p (gu p f) (mF p) i<=0:=by
 have a:i∈Ao f 0:=jQ.2 ⟨c,d⟩;have b:(Ao f 0).idxOf i<nF f:=List.idxOf_lt_length_of_mem a;have g:=Tx h b;have e:bN (Ao f 0) ((Ao f 0).idxOf i) 0=i:=by grind[b_]
 grind[wP,cW,vU,gW]
theorem Tc (h:dV p f):jJ p f (gu p f) (mF p)=gY p f:=by
 grind[jJ,gY,KI,cW,uO]
end
def mq (p:cj) (f:List Int) (y:List Rat) (r k:Nat) (i:Int):Rat:=if bN f i.toNat 0=0 then gW p y (if i<(k:Int) then r+1 else r) i else(((oI p i).value:Int):Rat)
def fX (p:cj) (f:List Int) (y:List Rat) (r k:Nat):List NG:=(bP p.bj.length).map λ(i:Int)=>nf (mq p f y r k i)
def gV (p:cj) (f:List Int) (y:List Rat) (i:Nat):Rat:=jJ p f y (mF p)+Oq i λk=>if bN f k 0=0/\0<gW p y (mF p) k then gW p y (mF p) k else 0
def pq (n:Nat) (K:Nat->Nat):Nat:=match n with
 |0=>0
 |n+1=>pq n K+K n
def uh (p:cj) (y:List Rat):Prop:=∃K:Nat->Nat,(∀k,k<mF p->Sz (K k) (bN y k 0))/\pq (mF p) K<=9000000
def sy (p:cj) (f:List Int) (x:List NG):Prop:=(nW p=0/\f.length=p.bj.length/\iW f=true)/\∃y,x=fL y/\y.length=mF p/\uh p y
def dg (x:List NG):Bool:=x.all λe=>!e.1
theorem uW {p:cj} {f:List Int} {y:List Rat} {r k:Nat}:(fX p f y r k).length=p.bj.length:=by grind[fX,eY]
theorem uV {p:cj} {f:List Int} {y:List Rat} {r k j:Nat} (h:j<p.bj.length) {d:NG}:bN (fX p f y r k) j d=nf (mq p f y r k j):=SG _ _ h
theorem Cz {p:cj} {f:List Int} {y:List Rat} {r k a b:Nat} (h:∀j:Nat,j<p.bj.length->mq p f y r k j=mq p f y a b j):fX p f y r k=fX p f y a b:=by
 refine CB (false,([],[])) (by grind[uW]) λj c=>?_;grind[uW,uV]
theorem Ta {p:cj} {f:List Int} {y:List Rat} {i:Int} (a:0<=i):mq p f y 0 0 i=(((oI p i).value:Int):Rat):=by
 unfold mq;rw[if_neg (show ¬i<((0:Nat):Int) by omega)];grind[gW,Oq]
theorem S_ {p:cj} {f:List Int} {y:List Rat} {r:Nat}:fX p f y r p.bj.length=fX p f y (r+1) 0:=Cz λj a=>by
 simp_all[mq,if_neg]
theorem Cy {p:cj} {f:List Int} {y:List Rat} {r:Nat} {k:Int} (c:0<=k) (h:bN f k.toNat 0≠0\/dv p r (oI p k)=0\/bN y r 0=0):fX p f y r k.toNat=fX p f y r (k+1).toNat:=Cz λj a=>by
 unfold mq;by_cases a:(j:Int)=k
 ·rw[if_neg (show ¬(j:Int)<((k.toNat:Nat):Int) by omega),if_pos (show(j:Int)<(((k+1).toNat:Nat):Int) by omega),a];split
  ·rename_i b;rw[CA];rcases h with h|h|h;·omega
   ·rw[h];grind
   ·rw[h];grind
  ·rfl
 grind
theorem S9 {p:cj} {f:List Int} {y:List Rat} {r:Nat} (h:bN y r 0=0):fX p f y r 0=fX p f y (r+1) 0:=Cz λj a=>by
 unfold mq;rw[if_neg (show ¬(j:Int)<((0:Nat):Int) by omega),if_neg (show ¬(j:Int)<((0:Nat):Int) by omega),CA,h];split<;>grind
theorem S8 {p:cj} {f:List Int} {y:List Rat} {r:Nat} {k:Int} (c:0<=k) (h:k<p.bj.length) (b:bN f k.toNat 0=0):(fX p f y r k.toNat).set k.toNat (nf (gW p y (r+1) k))=fX p f y r (k+1).toNat:=by
 refine CB (false,([],[])) (by grind[uW]) λj a=>?_;rw[Φ,uW] at a;rw[gC (by grind[uW]),uV a,uV a];unfold mq;grind
theorem S7 {p:cj} {f:List Int} {y:List Rat} {r:Nat} {k:Int} (b:0<=k) (a:bN f k.toNat 0=0):mq p f y r k.toNat k=gW p y r k:=by
 unfold mq;grind
theorem S6 {p:cj} {f:List Int} {y:List Rat} {r:Nat} (h:bN y r 0=0):jJ p f y r=jJ p f y (r+1):=by
 grind[Jx]
theorem Jt {p:cj} {f:List Int} {y:List Rat}:gV p f y 0=jJ p f y (mF p):=by
 grind[gV,Oq]
theorem Js {p:cj} {f:List Int} {y:List Rat} {i:Int} (a:0<=i):gV p f y (i+1).toNat=gV p f y i.toNat+if bN f i.toNat 0=0/\0<gW p y (mF p) i then gW p y (mF p) i else 0:=by
 rw[show(i+1).toNat=i.toNat+1 by omega];grind[gV,Oq]
section
variable {p:cj} {f:List Int} {y:List Rat}
theorem Jr {K:Nat->Nat}:∀{n k:Nat},k<n->K k<=pq n K
 |0,_,h=>by omega;|n+1,k,h=>by
  simp only[pq];by_cases e:k=n;·rw[e];omega
  ·have:=@Jr K n k (by omega);omega
theorem Jq {g:Nat->Rat} {K:Nat->Nat} {c:Nat}:∀{n:Nat},(∀k,k<n->Sz (K k+c) (g k))->Sz (pq n K+n*(c+1)+1) (Oq n g)
 |0,_=>by
  simp only[Oq];exact(show Sz 1 0 by simp_all[Sz]).mono (by omega);|n+1,h=>by
  simp only[Oq,pq];have a:Sz (pq n K+n*(c+1)+1) (Oq n g):=Jq λk b=>h k (by omega);exact(wU a (h n (by omega))).mono (by grind)
theorem Jp (h:uh p y) {k:Nat} (a:k<mF p):Sz 9000000 (bN y k 0):=by
 obtain⟨K,b,c⟩:=h;exact(b k a).mono (by have:=@Jr K _ _ a;omega)
def og (y:List Rat) (m:Nat) (C:Int) (q:Rat):Prop:=∃(c:Int) (z:Nat->Int),(-C<=c/\c<=C)/\(∀r,r<m-> -C<=z r/\z r<=C)/\q=(c:Rat)+Oq m λr=>bN y r 0*((z r:Int):Rat)
theorem S5 {m:Nat} {C D:Int} {q b:Rat} (h:og y m C q) (j:og y m D b):og y m (C+D) (q+b):=by
 obtain⟨c,z,l,o,n⟩:=h;obtain⟨f,a,g,d,i⟩:=j;refine⟨c+f,λr=>z r+a r,by omega,λr k=>?_,?_⟩;·grind
 ·have e:(Oq m λr=>bN y r 0*(((z r+a r:Int)):Rat))=(Oq m λr=>bN y r 0*((z r:Int):Rat))+Oq m λr=>bN y r 0*((a r:Int):Rat):=by
   simp_all[vA,Rat.mul_add]
  grind
theorem RJ {m:Nat} {C D:Int} {q:Rat} (h:og y m C q) (f:C<=D):og y m D q:=by
 obtain⟨c,z,b,e,a⟩:=h;exact⟨c,z,by omega,λr d=>by grind,a⟩
theorem RI {m:Nat} {C:Int} (a:0<=C):og y m C 0:=⟨0,λ_=>0,by omega,λ_ _=>⟨by simp_all,a⟩,by
 simp_all[gP,ζM]⟩
theorem Cx {C:Int} {q:Rat} (h:og y (mF p) C q) (g:C<=9223372036854775807) (b:uh p y) (j:mF p<=20):Sz 9000100 q:=by
 obtain⟨c,z,k,f,rfl⟩:=h;obtain⟨K,i,d⟩:=b;have a:Sz (pq (mF p) K+mF p*3+1) (Oq (mF p) λr=>bN y r 0*((z r:Int):Rat)):=Jq (c:=2) λr e=>by
  grind[sd,pf]
 refine(wU (pf (W:=c) (by omega) (by omega)) a).mono ?_;omega
theorem Jo {g:Nat->Rat} {r:Nat}:∀{m:Nat},r<=m->(Oq m λk=>if k<r then g k else 0)=Oq r g
 |0,h=>by rw[show r=0 by omega];rfl;|m+1,h=>by
  by_cases e:r=m+1;·simp_all[cW]
  ·simp only[Oq];rw[if_neg (by omega),ζM];exact Jo (by omega)
theorem Jn {r m:Nat} (a:r<=m) {C c:Int} {z:Nat->Int} (b: -C<=c/\c<=C) (e:∀k,k<r-> -C<=z k/\z k<=C):og y m C ((c:Rat)+Oq r λk=>bN y k 0*((z k:Int):Rat)):=by
 refine⟨c,λk=>if k<r then z k else 0,b,λk d=>?_,?_⟩;·grind
 ·rw[<-Jo a];congr 1;refine cW λk _=>?_;show _=bN y k 0*(((if k<r then z k else 0:Int)):Rat);split<;>simp_all
theorem Jm (d:nW p=0) {r:Nat} (a:r<=mF p) {i:Int} (c:0<=i/\i<p.bj.length):og y (mF p) 1000000 (gW p y r i):=by
 have b:=jP d c;have h:=@Jn y r (mF p) a 1000000 (oI p i).value (λk=> -dv p k (oI p i)) (by omega) λk _=>by
  have:=@nL p k _ b.2.2.1;omega
 have e:gW p y r i=(((oI p i).value:Int):Rat)+Oq r λk=>bN y k 0*(((-dv p k (oI p i):Int)):Rat):=by
  unfold gW;rw[Rat.sub_eq_add_neg];congr 1;rw[show(-(Oq r λk=>bN y k 0*((dv p k (oI p i):Int):Rat)))=(-1)*(Oq r λk=>bN y k 0*((dv p k (oI p i):Int):Rat)) by grind,<-sM];grind
 simp_all
theorem Jl (b:nW p=0) (a:f.length=p.bj.length) {r:Nat} (d:r<=mF p):og y (mF p) 1000000000 (jJ p f y r):=by
 have c:=@wL p b f f.length a;rw[ψ] at c;unfold jJ;refine Jn d (by omega) λk _=>?_;have e:=@Ju p f k f.length b a;grind[Jv]
theorem Jk (e:nW p=0) (c:f.length=p.bj.length):∀{i:Nat},i<=f.length->og y (mF p) (1000000000+1000000*i) (gV p f y i)
 |0,_=>by grind[Jt,Jl];|i+1,h=>by
  have a:=@Js p f y i (by omega);rw[show((i:Int)+1).toNat=i+1 by omega,γm] at a;rw[a];have b:=Jk e c (i:=i) (by omega);have d:og y (mF p) 1000000 (if bN f i 0=0/\0<gW p y (mF p) i then gW p y (mF p) i else 0):=by
   grind[Jm,RI]
  exact RJ (S5 b d) (by omega)
theorem BN (a:nW p=0):mF p<=20:=by have:=(cT a).1;grind
theorem Jj (a:nW p=0) (d:uh p y) {r:Nat} (b:r<=mF p) {i:Int} (c:0<=i/\i<p.bj.length):Sz 9000100 (gW p y r i):=Cx (Jm a b c) (by omega) d (BN a)
theorem RG (a:nW p=0) (c:f.length=p.bj.length) (d:uh p y) {r:Nat} (b:r<=mF p):Sz 9000100 (jJ p f y r):=Cx (Jl a c b) (by omega) d (BN a)
theorem Ji (a:nW p=0) (c:f.length=p.bj.length) (b:uh p y) {i:Nat} (d:i<=f.length):Sz 9000100 (gV p f y i):=Cx (Jk a c d) (by have:=(cT a).2.1;omega) b (BN a)
end
def RF (f:FuncId) {c:Type} (A:ox c) (e:c->Prop) (d:c->SV):cU where
 f:=f;α:=c;put:=A.put;st _:=[];dec v o:=match o with
  |[]=>A.dec v
  |_=>none;ok v o a h:=by
  split at h;·exact⟨A.ok _ _ h,rfl⟩
  ·cases h
 inj a b h _:=A.inj _ _ h;dom:=e;res:=d;out _:=[]
def Cw:cU:=RF 135 (.cons cO (.one (cL (.i .i64)))) (λ(a:cj×List Int)=>nW a.1=0/\a.2.length=a.1.bj.length) λa=>nI (κ (fJ a.1 a.2))
def RE (p:cj) (f:List Int):Nat->bG
 |3=> .inv Int (λi=>⟨[(2,.ptr 0 0 20),(4,.ptr 1 0 3),(5,.si .i64 (fJ p (f.take i.toNat))),(8,.row (.i .i64) f),(9,.si .i64 f.length),(10,.si .i64 i)],[.cells p.ss 27 20 false,.cells [.bl false,.sc (.slice none 0 0),.sc (.slice none 0 0)] 177 3 false]⟩)
   (λs=>iS s 10) (λi=>0<=i/\i<=f.length) (λi=>(f.length - i).toNat) λ_ _=> .look
 |_=> .look
theorem yY:dA Tryz.prog Cw:=by
 refine wI (L:=[mj]) (W:=[]) Cw (λa=>RE a.1 a.2) (by simp) (by simpa using nH) ?_;rintro⟨p,f⟩ ⟨hc,hl⟩;simp only at hc hl;refine NH (let a:=γf .i64;let b:=(0:Int);let c:=Ψ;let h:=γK 0 0 20;let j:=γK 1 0 3;let s:=γv .i64 0;let k:=c (ew.i .i64) f;let d:=(↑f.length:Int);let o:=a d;let l:=iZ.cells (cj.ss p) 27 20 false;let t:=SV.sc (Value.slice none 0 0);let m:=iZ.cells [δd false,t,t] 177 3 false;let n:=ew.i .u32;let q:=nf (κ (fJ p f));(((h.bi h/\j.bi j/\s.bi (a (fJ p []))/\k.bi k/\(a (↑f.length:Int)).bi o/\s.bi (a 0)/\True)/\l.bi l/\m.bi m/\True)/\b<=b/\b<=d)/\∀(x:Int),let e:=x+(1:Int);let v:=a e;let w:=decide (bN f x.toNat b=(1:Int));let g:=fJ p (Γ x.toNat f);let y:=g+(bN p.bj x.toNat ew.bu.bw).value;let r:=nf (κ g);let z:=λ(u:Int) ↦VI .i64 e/\((h.bi h/\j.bi j/\(a u).bi (a (fJ p (Γ e.toNat f)))/\k.bi k/\o.bi o/\v.bi v/\True)/\l.bi l/\m.bi m/\True)/\(b<=e/\e<=d)/\(d - e).toNat<(d - x).toNat;b<=x/\x<=d->(decide (x<d)=true->b<=x/\x<(↑f.length:Int)/\x.toNat<f.length/\(w=true->b<=x/\x<(↑p.bj.length:Int)/\x.toNat<p.bj.length/\VI .i64 y/\z y)/\(w=false->z g))/\(decide (x<d)=false->((-9223372036854775808:Int)<=g/\g<=(9223372036854775807:Int))/\(γJ [γy r.1,c n r.2.1,c n r.2.2]).bi (γJ [γy q.1,c n q.2.1,c n q.2.2])/\True)) (by kernel_rfl) ?_;simp only[vcs];have h160:=(cT hc).2.1;refine⟨⟨by simp[fJ,Ao,bP,bJ],by omega,by omega⟩,?_⟩;rintro i ⟨i0,i1⟩;have hb:=@wL p hc f i.toNat hl;refine⟨λhi=>?_,λhi=>?_⟩
 ·have hs:=@Ke p f i i0 hi;have ho:=jP hc (i:=i) ⟨i0,by omega⟩;have hv:(bN p.bj i.toNat ew.bu.bw).value=(oI p i).value:=rfl;rw[hv];refine⟨i0,hi,by omega,λh1=>?_,λh1=>?_⟩
  ·rw[if_pos h1] at hs;refine⟨i0,?_,?_,?_,?_,?_,?_,?_⟩<;>omega
  ·rw[if_neg h1] at hs;refine⟨?_,?_,?_,?_⟩<;>omega
 ·rw[show f.take i.toNat=f by rw[show i.toNat=f.length by omega,ψ]] at hb ⊢;exact⟨by omega,rfl⟩
def Qg (p:cj) (f:List Int) (x:List NG):SV:=.agg [.sb (if dg x=true then(nf (gV p f (vL x) f.length)).1 else false),.row (.i .u32) (if dg x=true then(nf (gV p f (vL x) f.length)).2.1 else[]),.row (.i .u32) (if dg x=true then(nf (gV p f (vL x) f.length)).2.2 else[])]
def Cv:M9:=⟨210,cj×List Int×List NG,.cons cO (.cons (cL (.i .i64)) (.one (cL sF))),λa=>sy a.1 a.2.1 a.2.2,λa=> .Gz [Qg a.1 a.2.1 a.2.2,.si .i64 (if dg a.2.2=true then 0 else 4)]⟩
def BM (p:cj) (q:Rat) (ex:List NG):TN:=[.cells p.ss 27 20 false,.cells [.bl false,.sc (.slice none 0 0),.sc (.slice none 0 0)] 177 3 false,.cells [.sb (nf q).1,.row (.i .u32) (nf q).2.1,.row (.i .u32) (nf q).2.2] 177 3 false,.row sF ex 177 true]
noncomputable def RD (p:cj) (f:List Int) (x:List NG):Nat->bG
 |7=> .inv Int (λi=>⟨[(1,.row (.i .i64) f),(2,.row sF x),(3,.ptr 0 0 20),(6,.ptr 1 0 3),(35,.row sF x),(36,.si .i64 x.length),(37,.si .i64 i)],[.cells p.ss 27 20 false,.cells [.bl false,.sc (.slice none 0 0),.sc (.slice none 0 0)] 177 3 false]⟩)
   (λs=>iS s 37) (λi=>0<=i/\i<=x.length/\dg (x.take i.toNat)=true) (λi=>(x.length - i).toNat) λ_ _=> .look
 |17=> .inv Int (λi=>⟨[(1,.row (.i .i64) f),(2,.row sF x),(3,.ptr 0 0 20),(6,.ptr 1 0 3),(11,.ptr 2 0 3),(12,.ow 3 f.length 3),(57,.si .i64 f.length),(58,.si .i64 i)],BM p (κ (fJ p f)) (dT (fX p f (vL x) 0 0) i.toNat (false,([],[])))⟩)
   (λs=>iS s 58) (λi=>0<=i/\i<=f.length) (λi=>(f.length - i).toNat) λ_ _=> .look
 |22=> .inv Int (λr=>⟨[(1,.row (.i .i64) f),(3,.ptr 0 0 20),(6,.ptr 1 0 3),(11,.ptr 2 0 3),(12,.ow 3 f.length 3),(72,.row sF x),(73,.si .i64 x.length),(74,.si .i64 r)],BM p (jJ p f (vL x) r.toNat) (fX p f (vL x) r.toNat 0)⟩)
   (λs=>iS s 74) (λr=>0<=r/\r<=x.length) (λr=>(x.length - r).toNat) λr k=>match k with
   |27=> .inv Int (λk=>⟨[(1,.row (.i .i64) f),(3,.ptr 0 0 20),(6,.ptr 1 0 3),(11,.ptr 2 0 3),(12,.ow 3 f.length 3),(15,.ptr 4 0 3),(17,.si .i64 (ln p f r k.toNat)),(72,.row sF x),(73,.si .i64 x.length),(74,.si .i64 r),(88,.row (.i .i64) (gv p r p.bj.length)),(89,.si .i64 f.length),(90,.si .i64 k)],
      BM p (jJ p f (vL x) r.toNat) (fX p f (vL x) r.toNat k.toNat)++[.cells [.sb (bN x r.toNat sF.bw).1,.row (.i .u32) (bN x r.toNat sF.bw).2.1,.row (.i .u32) (bN x r.toNat sF.bw).2.2] 177 3 false]⟩)
     (λs=>iS s 90) (λk=>0<=k/\k<=f.length) (λk=>(f.length - k).toNat) λ_ _=> .look
   |_=> .look
 |38=> .inv Int (λi=>⟨[(6,.ptr 1 0 3),(11,.ptr 2 0 3),(12,.ow 3 f.length 3),(133,.row (.i .i64) f),(134,.si .i64 f.length),(135,.si .i64 i)],BM p (gV p f (vL x) i.toNat) (fX p f (vL x) (mF p) 0)⟩)
   (λs=>iS s 135) (λi=>0<=i/\i<=f.length) (λi=>(f.length - i).toNat) λ_ _=> .look
 |_=> .look
theorem HP:Holds Tryz.prog Cv:=by
 refine j9 (L:=[zH,vG,sf,qb,mj,zw,wR,wC,sE]) (W:=fT [Cw]) Cv (λa=>RD a.1 a.2.1 a.2.2) (kf (by simpa using yY)) (by simpa using⟨yL,qP,nE,sA,nH,yN,tZ,Ci,o8⟩) ?_;rintro⟨p,f,x⟩ ⟨⟨hc,hl,hr⟩,y,hx,hyl,hy⟩;simp only at hc hl hr hx hyl hy;refine NH (let a:=Ψ;let c:=γf .i64;let d:=(0:Int);let e:=iZ.cells;let g:=iZ.row;let h:=(-9223372036854775808:Int);let j:=(9223372036854775807:Int);let k:=VI .i64;let l:=γy;let m:=(1:Int);let n:=γv .i64;let o:=sF.bw;let q:=SV.Gz;let r:=γK;let s:=δd false;let t:=γJ;let v:=ew.i .i64;let am:=t [s,a v [],a v []];let an:=nf (gV p f (vL x) f.length);let w:=ew.i .u32;let ad:=q [t [l (if dg x=true then an.1 else false),a w (if dg x=true then an.2.1 else[]),a w (if dg x=true then an.2.2 else[])],c (if dg x=true then d else(4:Int))];let T:=(↑x.length:Int);let aK:=if nW p=d then cr p else d;let E:=r 0 0 20;let z:=r 1 0 3;let F:=(↑x.length:Int);let G:=c F;let U:=n 0;let A:=e [c p.bm.a0,c p.bm.a1,c p.bm.a2,c p.bm.a3,c p.bm.a4,c p.bm.a5,c p.bs.a0,c p.bs.a1,c p.bs.a2,c p.bs.a3,c p.bs.a4,c p.bs.a5,c p.bt.a0,c p.bt.a1,c p.bt.a2,c p.bt.a3,c p.bt.a4,c p.bt.a5,a v p.bk,a ew.bu p.bj] 27 20 false;let aL:=SV.sc (Value.slice none 0 0);let B:=e [s,aL,aL] 177 3 false;let aM:=p.bj.length;let I:=(↑f.length:Int);let C:=r 2 0 3;let D:=γW 3 f.length 3;let y:=(↑f.length:Int);let H:=c y;let V:=nf (κ (fJ p f));let ae:=e [l V.1,a w V.2.1,a w V.2.2] 177 3 false;let af:=(false,[],[]);let ag:=fX p f (vL x) 0 0;let ao:=nf (jJ p f (vL x) 0);let W:=r 4 0 3;let bg:=nf (gV p f (vL x) 0);let ap:=fX p f (vL x) (mF p) 0;let aa:=g sF ap 177 true;let O:=ap.length;let aN:=λ(u u_1:Int) (u_2:SV) ↦decide (u≠u_1)=true->(q [am,u_2]).bi ad;f.length<=1000000000000/\aN (gZ p f) d (c (gZ p f))/\(decide (gZ p f≠d)=false->True/\aN T aK (n 3)/\(decide (T≠aK)=false->((((a v f).bi (a v f)/\(a sF x).bi (a sF x)/\E.bi E/\z.bi z/\(a sF x).bi (a sF x)/\(c T).bi G/\U.bi (c 0)/\True)/\A.bi A/\B.bi B/\True)/\d<=d/\d<=F/\dg []=true)/\∀(x_1:Int),let Q:=bN x x_1.toNat o;let aq:=(Q.1,Q.2.1,Q.2.2);let X:=x_1+m;let aO:=c X;let aP:=λ(u:Bool) ↦decide (iY (TL aq)<d)=u;let aQ:=λ(u:Bool) ↦(!okF aq)=u;d<=x_1/\x_1<=F/\dg (Γ x_1.toNat x)=true->(decide (x_1<F)=true->d<=x_1/\x_1<T/\x_1.toNat<x.length/\((ou Q.2.1/\ou Q.2.2)/\γb Q.2.1<=10000000/\γb Q.2.2<=10000000)/\(aQ true->(q [am,n 2]).bi ad)/\(aQ false->bL aq/\(aP true->(q [am,n 4]).bi ad)/\(aP false->k X/\(((a v f).bi (a v f)/\(a sF x).bi (a sF x)/\E.bi E/\z.bi z/\(a sF x).bi (a sF x)/\G.bi G/\aO.bi aO/\True)/\A.bi A/\B.bi B/\True)/\(d<=X/\X<=F/\dg (Γ X.toNat x)=true)/\(F - X).toNat<(F - x_1).toNat)))/\(decide (x_1<F)=false->(nW p=d/\f.length=aM)/\d<=I/\I<=I/\I*(56:Int)<=(140737488355328:Int)/\I<=(1000000000000:Int)/\((((a v f).bi (a v f)/\(a sF x).bi (a sF x)/\E.bi E/\z.bi z/\C.bi C/\(γW 3 I.toNat 3).bi D/\(c (↑I.toNat:Int)).bi H/\U.bi (c 0)/\True)/\A.bi A/\B.bi B/\(e [l V.1,a w V.2.1,a w V.2.2] 177 3 false).bi ae/\(g (ew.b.pair (w.qE.pair w.qE)) (δ I.toNat af) 177 true).bi (g sF (dT ag 0 af) 177 true)/\True)/\d<=d/\d<=y)/\∀(x_2:Int),let ar:=(bN p.bj x_2.toNat ew.bu.bw).value;let Y:=dT ag x_2.toNat af;let Z:=x_2+m;let aR:=c Z;let au:=nf (κ ar);d<=x_2/\x_2<=y->(decide (x_2<y)=true->d<=x_2/\x_2<(↑p.bj.length:Int)/\x_2.toNat<p.bj.length/\(h<=ar/\ar<=j)/\f.length=Y.length/\d<=x_2/\x_2<(↑Y.length:Int)/\f.length=Y.length/\x_2.toNat<Y.length/\k Z/\(((a v f).bi (a v f)/\(a sF x).bi (a sF x)/\E.bi E/\z.bi z/\C.bi C/\D.bi D/\H.bi H/\aR.bi aR/\True)/\A.bi A/\B.bi B/\ae.bi ae/\(g sF (Y.set x_2.toNat (au.1,au.2.1,au.2.2)) 177 true).bi (g sF (dT ag Z.toNat af) 177 true)/\True)/\(d<=Z/\Z<=y)/\(y - Z).toNat<(y - x_2).toNat)/\(decide (x_2<y)=false->((((a v f).bi (a v f)/\E.bi E/\z.bi z/\C.bi C/\D.bi D/\(a sF x).bi (a sF x)/\(c T).bi G/\U.bi (c 0)/\True)/\A.bi A/\B.bi B/\ae.bi (e [l ao.1,a w ao.2.1,a w ao.2.2] 177 3 false)/\(g sF Y 177 true).bi (g sF ag 177 true)/\True)/\d<=d/\d<=F)/\∀(x_3:Int),let a6:=nf (jJ p f (vL x) x_3.toNat);let R:=e [l a6.1,a w a6.2.1,a w a6.2.2] 177 3 false;let av:=g sF (fX p f (vL x) x_3.toNat 0) 177 true;let a7:=bN x x_3.toNat o;let aS:=(a7.1,a7.2.1,a7.2.2);let J:=x_3+m;let ah:=c J;let ai:=nf (jJ p f (vL x) J.toNat);let aT:=g sF (fX p f (vL x) J.toNat 0) 177 true;let M:=gv p x_3 aM;let a8:=bN x x_3.toNat o;let ab:=e [l a8.1,a w a8.2.1,a w a8.2.2] 177 3 false;let ac:=(a8.1,a8.2.1,a8.2.2);let aU:=(a6.1,a6.2.1,a6.2.2);let aV:=λ(u:NG) (u_1:iZ) ↦R.bi (e [l u.1,a w u.2.1,a w u.2.2] 177 3 false)/\av.bi u_1/\True;let aW:=λ(u:Bool) ↦decide (iY (TL aS)=d)=u;d<=x_3/\x_3<=F->(decide (x_3<F)=true->d<=x_3/\x_3<T/\x_3.toNat<x.length/\bL aS/\(aW true->k J/\(((a v f).bi (a v f)/\E.bi E/\z.bi z/\C.bi C/\D.bi D/\(a sF x).bi (a sF x)/\G.bi G/\ah.bi ah/\True)/\A.bi A/\B.bi B/\aV ai aT)/\(d<=J/\J<=F)/\(F - J).toNat<(F - x_3).toNat)/\(aW false->(nW p=d/\d<=x_3/\x_3<cr p)/\((((a v f).bi (a v f)/\E.bi E/\z.bi z/\C.bi C/\D.bi D/\W.bi W/\(c (cB p x_3)).bi (c (ln p f x_3 0))/\(a sF x).bi (a sF x)/\G.bi G/\(c x_3).bi (c x_3)/\(a v M).bi (a v M)/\(c (↑M.length:Int)).bi H/\U.bi (c 0)/\True)/\A.bi A/\B.bi B/\R.bi R/\av.bi av/\(e [l a7.1,a w a7.2.1,a w a7.2.2] 177 3 false).bi ab/\True)/\d<=d/\d<=y)/\∀(x_4:Int),let K:=x_4+m;let P:=ln p f x_3 x_4.toNat;let aX:=c (ln p f x_3 K.toNat);let aj:=c x_3;let ak:=c K;let L:=fX p f (vL x) x_3.toNat x_4.toNat;let aw:=g sF L 177 true;let aY:=g sF (fX p f (vL x) x_3.toNat K.toNat) 177 true;let S:=bN M x_4.toNat d;let aZ:=decide (S=d);let b0:=bN f x_4.toNat d;let b1:=decide (b0=m);let b2:=decide (b0=d);let ax:=nf (κ S);let b3:=(ax.1,ax.2.1,ax.2.2);let ay:=bN L x_4.toNat o;let b4:=(ay.1,ay.2.1,ay.2.2);let az:=nf (TL ac*TL b3);let aA:=nf (TL b4 - TL (az.1,az.2.1,az.2.2));let aB:=nf (κ P);let b5:=(aB.1,aB.2.1,aB.2.2);let aC:=nf (TL ac*TL b5);let aD:=nf (TL aU+TL (aC.1,aC.2.1,aC.2.2));let b6:=k K/\(((a v f).bi (a v f)/\E.bi E/\z.bi z/\C.bi C/\D.bi D/\W.bi W/\(c P).bi aX/\(a sF x).bi (a sF x)/\G.bi G/\aj.bi aj/\(a v M).bi (a v M)/\H.bi H/\ak.bi ak/\True)/\A.bi A/\B.bi B/\R.bi R/\aw.bi aY/\ab.bi ab/\True)/\(d<=K/\K<=y)/\(y - K).toNat<(y - x_4).toNat;let b7:=λ(u:Int) (u_1:iZ) ↦k K/\(((a v f).bi (a v f)/\E.bi E/\z.bi z/\C.bi C/\D.bi D/\W.bi W/\(c u).bi aX/\(a sF x).bi (a sF x)/\G.bi G/\aj.bi aj/\(a v M).bi (a v M)/\H.bi H/\ak.bi ak/\True)/\A.bi A/\B.bi B/\R.bi R/\u_1.bi aY/\ab.bi ab/\True)/\(d<=K/\K<=y)/\(y - K).toNat<(y - x_4).toNat;let b8:=λ(u:Bool×List Int×List Int) (u_1:Int) ↦let aE:=nf (κ u_1);let aF:=nf (TL ac*TL (aE.1,aE.2.1,aE.2.2));bL u/\bL (aF.1,aF.2.1,aF.2.2);d<=x_4/\x_4<=y->(decide (x_4<y)=true->d<=x_4/\x_4<(↑M.length:Int)/\x_4.toNat<M.length/\(aZ=true->b6)/\(aZ=false->d<=x_4/\x_4<I/\x_4.toNat<f.length/\(b1=true->k (P - S)/\b7 (P - S) aw)/\(b1=false->d<=x_4/\x_4<I/\x_4.toNat<f.length/\(b2=true->f.length=L.length/\d<=x_4/\x_4<(↑L.length:Int)/\f.length=L.length/\x_4.toNat<L.length/\(h<=S/\S<=j)/\(bL ac/\bL b3)/\b8 b4 S/\f.length=L.length/\d<=x_4/\x_4<(↑L.length:Int)/\f.length=L.length/\x_4.toNat<L.length/\b7 P (g sF (L.set x_4.toNat (aA.1,aA.2.1,aA.2.2)) 177 true))/\(b2=false->b6))))/\(decide (x_4<y)=false->(h<=P/\P<=j)/\(bL ac/\bL b5)/\b8 aU P/\k J/\(((a v f).bi (a v f)/\E.bi E/\z.bi z/\C.bi C/\D.bi D/\(a sF x).bi (a sF x)/\G.bi G/\ah.bi ah/\True)/\A.bi A/\B.bi B/\(e [l aD.1,a w aD.2.1,a w aD.2.2] 177 3 false).bi (e [l ai.1,a w ai.2.1,a w ai.2.2] 177 3 false)/\aw.bi aT/\True)/\(d<=J/\J<=F)/\(F - J).toNat<(F - x_3).toNat)))/\(decide (x_3<F)=false->(((z.bi z/\C.bi C/\D.bi D/\(a v f).bi (a v f)/\(c I).bi H/\U.bi (c 0)/\True)/\A.bi A/\B.bi B/\aV bg aa)/\d<=d/\d<=y)/\∀(x_4:Int),let N:=x_4+m;let al:=c N;let a9:=nf (gV p f (vL x) x_4.toNat);let b9:=[l a9.1,a w a9.2.1,a w a9.2.2];let aG:=nf (gV p f (vL x) N.toNat);let ba:=e [l aG.1,a w aG.2.1,a w aG.2.2] 177 3 false;let aH:=bN ap x_4.toNat o;let aI:=(aH.1,aH.2.1,aH.2.2);let bb:=decide (bN f x_4.toNat d=d);let bc:=(a9.1,a9.2.1,a9.2.2);let aJ:=nf (TL bc+TL aI);let bd:=k N/\((z.bi z/\C.bi C/\D.bi D/\(a v f).bi (a v f)/\H.bi H/\al.bi al/\True)/\A.bi A/\B.bi B/\(e b9 177 3 false).bi ba/\aa.bi aa/\True)/\(d<=N/\N<=y)/\(y - N).toNat<(y - x_4).toNat;let be:=bL aI;let bf:=λ(u:Bool) ↦decide (d<iY (TL aI))=u;d<=x_4/\x_4<=y->(decide (x_4<y)=true->d<=x_4/\x_4<I/\x_4.toNat<f.length/\(bb=true->f.length=O/\d<=x_4/\x_4<(↑O:Int)/\f.length=O/\x_4.toNat<O/\be/\(bf true->f.length=O/\d<=x_4/\x_4<(↑O:Int)/\f.length=O/\x_4.toNat<O/\(bL bc/\be)/\k N/\((z.bi z/\C.bi C/\D.bi D/\(a v f).bi (a v f)/\H.bi H/\al.bi al/\True)/\A.bi A/\B.bi B/\(e [l aJ.1,a w aJ.2.1,a w aJ.2.2] 177 3 false).bi ba/\aa.bi aa/\True)/\(d<=N/\N<=y)/\(y - N).toNat<(y - x_4).toNat)/\(bf false->bd))/\(bb=false->bd))/\(decide (x_4<y)=false->(q [t b9,U]).bi ad))))))) (by kernel_rfl) ?_;simp only[vcs];have hgo:=cT hc;have h160:=hgo.2.1;have hfe:gZ p f=0:=by simp[gZ,hc,hl,hr]
 have hnr:cr p=mF p:=by unfold cr mF;omega
 have hxl:x.length=mF p:=by rw[hx,eA,hyl]
 have hvl:vL x=y:=by rw[hx,jR]
 have aYY:mF p<=20:=by have:=hgo.1;unfold mF;omega
 have hxn:∀r:Int,0<=r->r<mF p->bN x r.toNat sF.bw=nf (bN y r.toNat 0):=λr h0 h1=>by rw[hx];exact iD (by rw[hyl];omega)
 have hrC:∀{q q':Rat},q=q'->(iZ.cells [.sb (nf q).1,.row (.i .u32) (nf q).2.1,.row (.i .u32) (nf q).2.2] 177 3 false).bi (iZ.cells [.sb (nf q').1,.row (.i .u32) (nf q').2.1,.row (.i .u32) (nf q').2.2] 177 3 false):=by rintro _ _ rfl;rfl
 have hrL:∀{a b:List NG},a=b->(iZ.row sF a 177 true).bi (iZ.row sF b 177 true):=by rintro _ _ rfl;rfl
 have hrO:∀{a b:Nat},a=b->(γW 3 a 3).bi (γW 3 b 3):=by rintro _ _ rfl;rfl
 have hval:∀i:Int,(bN p.bj i.toNat ew.bu.bw).value=(oI p i).value:=λi=>rfl;have hel:∀r k,(fX p f y r k).length=f.length:=λr k=>by rw[uW,hl]
 rw[if_pos hc,hnr,hvl];simp only[iX,dH,hval,γm];refine⟨by omega,λh=>absurd hfe h,λ_=>⟨λh=>absurd (by rw[hxl]) h,λ_=>⟨⟨by omega,by omega,rfl⟩,?_⟩⟩⟩;rintro i ⟨i0,i1,hall⟩;have et:=λh=>jj (d:=sF.bw) (l:=x) i0 h;refine⟨λhi=>?_,λhge=>?_⟩
 ·have hys:=Jp hy (k:=i.toNat) (by omega);have hm:=cE (d:=sF.bw) (show i.toNat<x.length by omega);have et:=et hi;have hok:=BY (bN y i.toNat 0);obtain⟨s1,⟨u1,u2,u3⟩,⟨u4,u5,u6⟩⟩:=kP (bN y i.toNat 0);obtain⟨m1,m2⟩:=ny hys;rw[hxn i i0 (by omega)] at hm et ⊢;refine⟨i0,hi,by omega,⟨⟨u1,u4⟩,by omega,by omega⟩,(λh=>by rw[hok] at h;cases h),λ_=>⟨c_ hys (by omega),λh=>?_,λh=>⟨by omega,⟨by omega,by omega,?_⟩,by omega⟩⟩⟩
  ·have hn:bN y i.toNat 0<0:=wQ.1 (by rwa [dH] at h);have hp:dg x=false:=by
    rw[δK];intro ha;have:=χ.1 ha _ hm;have e:(nf (bN y i.toNat 0)).1=true:=decide_eq_true hn;rw[e] at this;cases this
   simp only[hp,φ,if_false];first|exact rfl|exact⟨rfl,rfl⟩|exact⟨rfl,trivial⟩|(unfold SV.bi;exact⟨rfl,rfl⟩)
  ·have hn:¬bN y i.toNat 0<0:=λhh=>h (by rw[dH];exact wQ.2 hh);have e:(nf (bN y i.toNat 0)).1=false:=decide_eq_false hn;unfold dg at hall ⊢;rw[et,ζK,hall];simp[e]
 have hpos:dg x=true:=by rwa [show i.toNat=x.length by omega,ψ] at hall
 simp only[hpos,if_true];refine⟨⟨hc,hl⟩,by omega,by omega,by omega,by omega,⟨⟨⟨hrO rfl,trivial⟩,hrL ?_⟩,by omega,by omega⟩,?_⟩;·rw[uL,hel]
 rintro i ⟨i0,i1⟩;have hru:=@uM (fX p f y 0 0) i.toNat (false,([],[])) (by rw[hel];omega);rw[hel] at hru;refine⟨λhi=>?_,λhi=>?_⟩
 ·have ho:=jP hc (i:=i) ⟨i0,by omega⟩;have hE:bN (fX p f y 0 0) i.toNat (false,([],[]))=nf (κ (oI p i).value):=by
   rw[uV (by omega),show((i.toNat:Nat):Int)=i by omega,Ta i0]
  exact⟨i0,by omega,by omega,by omega,by omega,by omega,by omega,by omega,by omega,by omega,hrL (by rw[uJ (by rw[hel];omega) hE.symm,show(i+1).toNat=i.toNat+1 by omega]),by omega,by omega⟩
 rw[show i.toNat=(fX p f y 0 0).length by rw[hel];omega,uK];refine⟨⟨⟨hrC SF.symm,hrL rfl⟩,by omega,by omega⟩,?_⟩;rintro r ⟨r0,r1⟩;refine⟨λhr1=>?_,λhr1=>?_⟩
 ·have hys:=Jp hy (k:=r.toNat) (by omega);have hx1:=hxn r r0 (by omega);have gy:bL (nf (bN y r.toNat 0)):=c_ hys (by omega);have hrr:((r.toNat:Nat):Int)=r:=by omega
  have hrt:(r+1).toNat=r.toNat+1:=by omega
  simp only[hx1,dH];refine⟨r0,hr1,by omega,gy,λh0=>?_,λh0=>⟨⟨hc,r0,by omega⟩,⟨⟨SD.symm,by rw[Jw];omega⟩,by omega,by omega⟩,?_⟩⟩
  ·have h0:=E4.1 h0;exact⟨by omega,⟨hrC (by rw[hrt,S6 h0]),hrL (by rw[hrt,S9 h0])⟩,by omega,by omega⟩
  rintro k ⟨k0,k1⟩;have hbd:=@Ju p f r k.toNat hc hl;have hrl:=@Jw p r;refine⟨λhk=>?_,λhk=>?_⟩
  ·have ho:=jP hc (i:=k) ⟨k0,by omega⟩;have hcb:=@nL p r _ ho.2.2.1;have hrn:=@SE p r k ⟨k0,by omega⟩;have hbs:=@Te p f r k k0 (by omega);rw[hrn];refine⟨k0,by omega,by omega,λh1=>?_,λh1=>⟨k0,by omega,by omega,λh2=>?_,λh2=>⟨k0,by omega,by omega,λh3=>?_,λh3=>?_⟩⟩⟩
   ·have hb2:ln p f r k.toNat=ln p f r (k+1).toNat:=by rw[hbs,h1];split<;>omega
    exact⟨by omega,⟨hb2,hrL (Cy k0 (.inr (.inl (by rw[hrr];exact h1))))⟩,by omega,by omega⟩
   ·rw[if_pos h2] at hbs;exact⟨by omega,by omega,⟨by omega,hrL (Cy k0 (.inl (by omega)))⟩,by omega,by omega⟩
   ·rw[if_neg h2] at hbs;have hen:=@uV p f y r.toNat k.toNat k.toNat (by omega) sF.bw;rw[show((k.toNat:Nat):Int)=k by omega,S7 k0 h3] at hen;have gx:bL (nf (gW p y r.toNat k)):=c_ (Jj hc hy (by omega) ⟨k0,by omega⟩) (by omega);have gc:bL (nf (κ (dv p r (oI p k)))):=c_ (pf (W:=dv p r (oI p k)) (by omega) (by omega)) (by omega);have gm:bL (nf (bN y r.toNat 0*κ (dv p r (oI p k)))):=c_ (sd hys (pf (W:=dv p r (oI p k)) (by omega) (by omega))) (by omega);have hset:=@S8 p f y r.toNat k k0 (by omega) h3;rw[CA,hrr] at hset;have aWh:(fX p f y r.toNat k.toNat).set k.toNat (nf (gW p y r.toNat k - bN y r.toNat 0*κ (dv p r (oI p k))))=fX p f y r.toNat (k+1).toNat:=hset;rw[hen];simp only[dH];rw[aWh,hel];refine⟨rfl,k0,?_,rfl,?_,?_,⟨gy,gc⟩,⟨gx,gm⟩,rfl,k0,?_,rfl,?_,?_,⟨?_,hrL rfl⟩,?_,?_⟩<;>omega
   ·rw[if_neg h2] at hbs;refine⟨?_,⟨?_,hrL (Cy k0 (.inl h3))⟩,?_,?_⟩<;>omega
  ·have hk2:k.toNat=f.length:=by omega
   rw[hk2,Jv] at hbd ⊢;have gb:bL (nf (κ (cB p r - bZ p ((Ao f 1).map (oI p)) r))):=c_ (pf (W:=cB p r - bZ p ((Ao f 1).map (oI p)) r) (by omega) (by omega)) (by omega);have gs:bL (nf (jJ p f y r.toNat)):=c_ (RG hc hl hy (by omega)) (by omega);have gm:bL (nf (bN y r.toNat 0*κ (cB p r - bZ p ((Ao f 1).map (oI p)) r))):=c_ (sd hys (pf (W:=cB p r - bZ p ((Ao f 1).map (oI p)) r) (by omega) (by omega))) (by omega);refine⟨by omega,⟨gy,gb⟩,⟨gs,gm⟩,by omega,⟨hrC ?_,hrL ?_⟩,by omega,by omega⟩;·rw[hrt,Jx,hrr]
   ·rw[hrt,hl];exact S_
 ·have hr2:r.toNat=mF p:=by omega
  rw[hr2];refine⟨⟨⟨hrC Jt.symm,hrL rfl⟩,by omega,by omega⟩,?_⟩;rintro i ⟨i0,i1⟩;refine⟨λhi=>?_,λhi=>?_⟩
  ·have hs:=@Js p f y i i0;refine⟨i0,hi,by omega,λh0=>?_,λh0=>?_⟩
   ·have hen:=@uV p f y (mF p) 0 i.toNat (by omega) sF.bw;have he0:mq p f y (mF p) 0 i=gW p y (mF p) i:=by
     unfold mq;rw[if_pos h0,if_neg (show ¬i<((0:Nat):Int) by omega)]
    rw[show((i.toNat:Nat):Int)=i by omega,he0] at hen;have gx:bL (nf (gW p y (mF p) i)):=c_ (Jj hc hy (ξ _) ⟨i0,by omega⟩) (by omega);have gs:bL (nf (gV p f y i.toNat)):=c_ (Ji hc hl hy (by omega)) (by omega);rw[hen,hel];simp only[dH];refine⟨trivial,i0,by omega,trivial,by omega,gx,λh1=>⟨trivial,i0,by omega,trivial,by omega,⟨gs,gx⟩,by omega,hrC ?_,by omega,by omega⟩,λh1=>⟨by omega,hrC ?_,by omega,by omega⟩⟩;·rw[hs,if_pos ⟨h0,rl.1 h1⟩]
    ·rw[hs,if_neg (λh=>h1 (rl.2 h.2))];exact(ζM _).symm
   ·refine⟨by omega,hrC ?_,by omega,by omega⟩;rw[hs,if_neg (λh=>h0 h.1)];exact(ζM _).symm
  ·rw[show i.toNat=f.length by omega];first|exact rfl|exact⟨rfl,rfl⟩|exact⟨rfl,trivial⟩
def Cu:M9:=⟨208,cz×cj×Int×List Int,.cons (dy Ap) (.cons cO (.cons (dX .i64) (.one (cL (.i .i64))))),λa=>sy a.2.1 a.2.2.2 a.1.2.2.2.2/\ -9223372036854775808<=a.2.2.1/\a.2.2.1<=9223372036854775807,
 λa=> .sb (dg a.1.2.2.2.2&&decide (gV a.2.1 a.2.2.2 (vL a.1.2.2.2.2) a.2.2.2.length<κ a.2.2.1+1))⟩
theorem HR:Holds Tryz.prog Cu:=by
 refine bI (L:=[Cv,mj,sE,uj]) Cu lk (by grind[HP,nH,o8,y9]) ?_;rintro⟨⟨k,o,a,b,x⟩,p,v,f⟩ ⟨c,i,g⟩;simp only at c i g;have d:=c;obtain⟨⟨H,J,M⟩,y,K,I,G⟩:=d;have C:=Ji H J G (ξ f.length);have q:vL x=y:=by rw[K,jR]
 rw[<-q] at C;have F:(κ 1:Rat)=1:=rfl;have s:Sz 2 (κ v:Rat):=pf i g;have t:Sz 2 (1:Rat):=pf (W:=1) (by omega) (by omega);refine NH (let a:=(-9223372036854775808:Int);let b:=(9223372036854775807:Int);let c:=(1:Int);let d:=(0:Int);let j:=gV p f (vL x) f.length;let n:=nf (κ v);let D:=(n.1,n.2.1,n.2.2);let r:=nf (κ c);let A:=(r.1,r.2.1,r.2.2);let z:=(if dg x=true then(nf j).1 else false,if dg x=true then(nf j).2.1 else[],if dg x=true then(nf j).2.2 else[]);let l:=nf (TL D+TL A);let E:=(l.1,l.2.1,l.2.2);let B:=λ(u:SV) ↦u.bi (γy (dg x&&decide (j<κ v+(1:Rat))));let w:=λ(u:Bool) ↦decide ((if dg x=true then d else(4:Int))=d)=u;sy p f x/\(a<=v/\v<=b)/\(a<=c/\c<=b)/\(bL D/\bL A)/\(w true->(bL z/\bL E)/\B (γy (decide (gN (TL z) (TL E)<d))))/\(w false->B (δd false))) (by kernel_rfl) ?_;simp only[iX,dH,F];by_cases m:dg x=true
 ·simp only[m,if_true,Bool.true_and,iX,dH];refine⟨c,⟨i,g⟩,by omega,⟨c_ s (by omega),c_ t (by omega)⟩,λ_=>⟨⟨c_ C (by omega),c_ (wU s t) (by omega)⟩,?_⟩,λh=>by cases h⟩;have e:decide (gN (gV p f (vL x) f.length) (κ v+1)<0)=decide (gV p f (vL x) f.length<κ v+1):=decide_eq_decide.2 qH;rw[e];rfl
 ·have m:dg x=false:=by simp_all
  simp only[m,φ,if_false,Bool.false_and];exact⟨c,⟨i,g⟩,by omega,⟨c_ s (by omega),c_ t (by omega)⟩,(λh=>by cases h),λ_=>rfl⟩
def Ct:M9:=⟨214,cz×cj×Int×List Int,.cons (dy Ap) (.cons cO (.cons (dX .i64) (.one (cL (.i .i64))))),λa=>0<=a.1.2.1,λa=> .sb (decide (a.1.2.1<a.2.2.2.length)&&decide (bN a.2.2.2 a.1.2.1.toNat 0=0))⟩
theorem HN:Holds Tryz.prog Ct:=by
 refine bI (L:=[]) Ct lk (by simp) ?_;rintro⟨⟨k,o,a,b,x⟩,p,v,f⟩ (e:0<=o);refine NH (let a:=(0:Int);let c:=decide (o<(↑f.length:Int));let d:=λ(u:SV) ↦u.bi (γy (decide (o<(↑f.length:Int))&&decide (bN f o.toNat a=a)));(c=true->a<=o/\o<(↑f.length:Int)/\o.toNat<f.length/\d (γy (decide (bN f o.toNat a=a))))/\(c=false->d (δd false))) (by kernel_rfl) ?_;simp_all[decide_eq_false]
def Cs:M9:=⟨218,cz×cj×Int×List Int,.cons (dy Ap) (.cons cO (.cons (dX .i64) (.one (cL (.i .i64))))),λa=>a.2.2.2.length<=1000000,λa=> .sb (decide (bR a.2.1 (Ao a.2.2.2 1)≠0))⟩
def RC (n:cz) (p:cj) (f:List Int):Nat->bG
 |3=> .inv Int (λi=>⟨[(5,.ptr 1 0 20),(9,.ow 2 (Ao (f.take i.toNat) 1).length 1),(12,.row (.i .i64) f),(13,.si .i64 f.length),(14,.si .i64 i)],[.cells (cJ Ap n) 206 5 false,.cells p.ss 27 20 false,.row (.i .i64) (Ao (f.take i.toNat) 1) 3 true]⟩)
   (λs=>iS s 14) (λi=>0<=i/\i<=f.length) (λi=>(f.length - i).toNat) λ_ _=> .look
 |_=> .look
theorem HK:Holds Tryz.prog Cs:=by
 refine bI (L:=[vP]) Cs (λa=>RC a.1 a.2.1 a.2.2.2) (by simpa using qZ) ?_;rintro⟨⟨k,o,a,b,x⟩,p,v,f⟩ (hl:f.length<=1000000);refine NH (let c:=γf .i64;let d:=(0:Int);let e:=(1:Int);let g:=iZ.row;let h:=Ψ;let j:=γW;let r:=γK 1 0 20;let m:=ew.i .i64;let n:=(↑f.length:Int);let v:=c n;let s:=iZ.cells [c k,c o,c a,c b,h sF x] 206 5 false;let t:=iZ.cells [c p.bm.a0,c p.bm.a1,c p.bm.a2,c p.bm.a3,c p.bm.a4,c p.bm.a5,c p.bs.a0,c p.bs.a1,c p.bs.a2,c p.bs.a3,c p.bs.a4,c p.bs.a5,c p.bt.a0,c p.bt.a1,c p.bt.a2,c p.bt.a3,c p.bt.a4,c p.bt.a5,h m p.bk,h ew.bu p.bj] 27 20 false;(((r.bi r/\(j 2 0 1).bi (j 2 (Ao [] e).length 1)/\(h m f).bi (h m f)/\(c (↑f.length:Int)).bi v/\(γv .i64 0).bi (c 0)/\True)/\s.bi s/\t.bi t/\(g m [] 3 true).bi (g m (Ao [] e) 3 true)/\True)/\d<=d/\d<=n)/\∀(x_1:Int),let q:=x_1+e;let w:=Ao (Γ q.toNat f) e;let y:=c q;let z:=decide (bN f x_1.toNat d=e);let l:=Ao (Γ x_1.toNat f) e;let A:=l.length+1;let B:=λ(u:Nat) (u_1:iZ) ↦VI .i64 q/\((r.bi r/\(j 2 u 1).bi (j 2 w.length 1)/\(h m f).bi (h m f)/\v.bi v/\y.bi y/\True)/\s.bi s/\t.bi t/\u_1.bi (g m w 3 true)/\True)/\(d<=q/\q<=n)/\(n - q).toNat<(n - x_1).toNat;d<=x_1/\x_1<=n->(decide (x_1<n)=true->d<=x_1/\x_1<(↑f.length:Int)/\x_1.toNat<f.length/\(z=true->l.length=l.length/\A*8<=140737488355328/\A<=1000000000000/\B (l++[x_1]).length (g m (l++[x_1]) 3 true))/\(z=false->B l.length (g m l 3 true)))/\(decide (x_1<n)=false->l.length=l.length/\l.length<=9223372036854775807/\(γy (decide (bR p l≠d))).bi (γy (decide (bR p (Ao f e)≠d))))) (by kernel_rfl) ?_;simp only[vcs];have how:∀{x y:Nat},x=y->(γW 2 x 1).bi (γW 2 y 1):=by rintro _ _ rfl;rfl
 have hrow:∀{x y:List Int},x=y->(iZ.row (.i .i64) x 3 true).bi (iZ.row (.i .i64) y 3 true):=by rintro _ _ rfl;rfl
 refine⟨⟨⟨how rfl,hrow rfl⟩,by omega,by omega⟩,?_⟩;rintro i ⟨i0,i1⟩;have hd:=@rh (f.take i.toNat) 1;rw[γx] at hd;refine⟨λhi=>?_,λhi=>?_⟩
 ·have hs:=wM (d:=1) i0 hi;refine⟨i0,hi,by omega,λh1=>?_,λh1=>?_⟩
  ·rw[if_pos h1] at hs;rw[hs];refine⟨?_,?_,?_,⟨how rfl,hrow rfl⟩,?_,?_⟩<;>omega
  ·rw[if_neg h1,γR] at hs;rw[hs];refine⟨?_,⟨how rfl,hrow rfl⟩,?_,?_⟩<;>omega
 ·rw[show f.take i.toNat=f by rw[show i.toNat=f.length by omega,ψ]] at hd ⊢;exact⟨by omega,rfl⟩
def Cr:M9:=⟨222,Unit×cj×Int×List Int,.cons CH (.cons cO (.cons (dX .i64) (.one (cL (.i .i64))))),λ_=>True,λ_=> .sb false⟩
theorem HH:Holds Tryz.prog Cr:=by
 refine bI (L:=[]) Cr lk (by simp) ?_;rintro⟨_,p,v,f⟩ _;refine NH ((δd false).bi (γy false)) (by kernel_rfl) ?_;rfl
@[reducible] def po:ew:=.pair (.i .i64) .b
def dQ (t:List cz):Nat->List (Int×Bool)
 |0=>δ t.length (0,false)
 |i+1=>if(bN t i Ap.bw).1=2 then((dQ t i).set (bN t i Ap.bw).2.2.1.toNat ((i:Int),false)).set (bN t i Ap.bw).2.2.2.1.toNat ((i:Int),true) else dQ t i
def mn (t:List cz) (u:List (Int×Bool)) (k:Int) (f:List Int):List Int:=
 if(bN t (bN u k.toNat (0,false)).1.toNat Ap.bw).2.1<f.length then f.set (bN t (bN u k.toNat (0,false)).1.toNat Ap.bw).2.1.toNat (if(bN u k.toNat (0,false)).2 then 1 else -1) else f
def gj (t:List cz) (u:List (Int×Bool)):Nat->Int->List Int->List Int
 |0,_,f=>f
 |m+1,k,f=>if 0<k then gj t u m (bN u k.toNat (0,false)).1 (mn t u k f) else f
def gJ (p:cj) (t:List cz) (i:Nat):List Int:=gj t (dQ t i) i i (δ p.bj.length 0)
def pn (p:cj) (v:Int) (f:List Int) (n:cz):Bool:=
 if n.1=1 then dg n.2.2.2.2&&decide (gV p f (vL n.2.2.2.2) f.length<κ v+1) else if n.1=2 then decide (n.2.1<f.length)&&decide (bN f n.2.1.toNat 0=0) else if n.1=3 then decide (bR p (Ao f 1)≠0) else false
def pj (p:cj) (v:Int) (t:List cz):Bool:=(ω t.length).all λi=>pn p v (gJ p t i) (bN t i Ap.bw)
def Cq (t:List cz) (u:List (Int×Bool)):Prop:=u.length=t.length/\∀k,k<t.length->0<=(bN u k (0,false)).1/\(0<k->(bN u k (0,false)).1<k)
def Cp (p:cj) (v:Int) (t:List cz):Prop:=(nW p=0/\dn t=true)/\(-9223372036854775808<=v/\v<=9223372036854775807)/\∀i,i<t.length->(bN t i Ap.bw).1=1->sy p (gJ p t i) (bN t i Ap.bw).2.2.2.2
theorem Jh {t:List cz} {u:List (Int×Bool)} {k:Int} {f:List Int}:(mn t u k f).length=f.length:=by
 grind[mn]
theorem Jg {t:List cz} {u:List (Int×Bool)}:∀{m:Nat} {k:Int} {f:List Int},(gj t u m k f).length=f.length
 |0,_,_=>rfl
 |m+1,k,f=>by
  unfold gj;split;·rw[Jg,Jh]
  ·rfl
theorem Co {t:List cz} {u:List (Int×Bool)} (a:Cq t u):∀{m:Nat} {k:Int} {f:List Int},0<=k->k<t.length->k<=m->gj t u m k f=gj t u k.toNat k f
 |0,k,f,g,d,e=>by grind;|m+1,k,f,g,d,e=>by
  by_cases c:0<k
  ·have b:=a.2 k.toNat (by omega);have h:=b.2 (by omega);rw[show k.toNat=(k.toNat - 1)+1 by omega];unfold gj;rw[if_pos c,if_pos c,Co a b.1 (by omega) (by omega)];exact(Co a b.1 (by omega) (by omega)).symm
  ·rw[show k=0 by omega];rfl
theorem Jf {t:List cz} {u:List (Int×Bool)} (b:Cq t u) {k:Int} {f:List Int} (a:0<k) (e:k<t.length):gj t u k.toNat k f=gj t u (bN u k.toNat (0,false)).1.toNat (bN u k.toNat (0,false)).1 (mn t u k f):=by
 have c:=b.2 k.toNat (by omega);have d:=c.2 (by omega);rw[show gj t u k.toNat k f=gj t u ((k.toNat - 1)+1) k f by grind];conv=>lhs;unfold gj
 rw[if_pos a];grind[Co]
theorem qk {t:List cz}:∀{i:Nat},(dQ t i).length=t.length
 |0=>by simp[dQ];|i+1=>by
  unfold dQ;split;·rw[Φ,Φ,qk]
  ·exact qk
theorem Cm {t:List cz} (h:dn t=true) {i:Nat} (c:i<t.length):0<=(bN t i Ap.bw).2.1/\((bN t i Ap.bw).1=2->((i:Int)<(bN t i Ap.bw).2.2.1/\(bN t i Ap.bw).2.2.1<t.length)/\((i:Int)<(bN t i Ap.bw).2.2.2.1/\(bN t i Ap.bw).2.2.2.1<t.length)):=by
 unfold dn at h;simp only[θ,χ,γq] at h;have b:=h.2.1 i c;unfold jM at b;simp only[θ] at b;obtain⟨a,d⟩:=b;refine⟨?_,λe=>?_⟩
 ·unfold p_ at a;split at a;·simp_all[mV,pr]
  ·split at a;all_goals simp_all[pe,mv,q9,pr]
 simp_all[iC,rf]
theorem Cl {t:List cz} (h:dn t=true):∀{i:Nat},i<=t.length->Cq t (dQ t i)
 |0,_=>⟨qk,λk a=>by
   grind[dQ,b_]⟩
 |i+1,g=>⟨qk,λk a=>by
   have b:=(Cl h (i:=i) (by omega)).2 k a;unfold dQ;split
   ·rename_i c;obtain⟨⟨j,f⟩,d,e⟩:=(Cm h (i:=i) (by omega)).2 c;grind[qk,gC]
   ·exact b⟩
def C6:M9:=⟨62,cj×Int×List cz,.cons cO (.cons (dX .i64) (.one (cL Ap))),λa=>Cp a.1 a.2.1 a.2.2,λa=> .si .i64 (if pj a.1 a.2.1 a.2.2 then 0 else 13)⟩
noncomputable def RB (p:cj) (v:Int) (t:List cz):Nat->bG
 |3=> .inv Int (λi=>⟨[(1,.si .i64 v),(2,.row Ap t),(3,.ptr 0 0 20),(7,.ow 1 t.length 2),(16,.row Ap t),(17,.si .i64 t.length),(18,.si .i64 i)],[.cells p.ss 27 20 false,.row po (dQ t i.toNat) 159 true]⟩)
   (λs=>iS s 18) (λi=>0<=i/\i<=t.length/\∀j:Nat,j<i->pn p v (gJ p t j) (bN t j Ap.bw)=true) (λi=>(t.length - i).toNat) λi k=>match k with
   |7=> .inv (Int×List Int) (λx=>⟨[(1,.si .i64 v),(2,.row Ap t),(3,.ptr 0 0 20),(7,.ow 1 t.length 2),(8,.si .i64 i),(9,.ptr 2 0 5),(10,.ow 3 p.bj.length 1),(11,.si .i64 x.1),(16,.row Ap t),(17,.si .i64 t.length),(18,.si .i64 i)],
      [.cells p.ss 27 20 false,.row po (dQ t i.toNat) 159 true,.cells (cJ Ap (bN t i.toNat Ap.bw)) 108 5 false,.row (.i .i64) x.2 3 true]⟩)
     (λs=>(iS s 11,oS (.i .i64) s 3)) (λx=>(0<=x.1/\x.1<=i)/\x.2.length=p.bj.length/\gj t (dQ t i.toNat) x.1.toNat x.1 x.2=gJ p t i.toNat) (λx=>x.1.toNat) λ_ _=> .look
   |_=> .look
 |_=> .look
theorem HT:Holds Tryz.prog C6:=by
 refine bI (L:=[BP,Cu,Ct,Cs,Cr]) C6 (λa=>RB a.1 a.2.1 a.2.2) (by simpa using⟨yF,HR,HN,HK,HH⟩) ?_;rintro⟨p,v,t⟩ ⟨⟨hc,ht⟩,⟨v0,v1⟩,hb⟩;simp only at hc ht v0 v1 hb;refine NH (let a:=γf .i64;let c:=(0:Int);let d:=Ψ;let e:=iZ.row;let f:=γv .i64;let g:=(140737488355328:Int);let h:=(1000000000000:Int);let k:=(1:Int);let l:=γW;let o:=(↑t.length:Int);let w:=γK 0 0 20;let C:=l 1 t.length 2;let y:=(↑t.length:Int);let D:=a y;let a9:=f 0;let K:=ew.i .i64;let q:=iZ.cells [a p.bm.a0,a p.bm.a1,a p.bm.a2,a p.bm.a3,a p.bm.a4,a p.bm.a5,a p.bs.a0,a p.bs.a1,a p.bs.a2,a p.bs.a3,a p.bs.a4,a p.bs.a5,a p.bt.a0,a p.bt.a1,a p.bt.a2,a p.bt.a3,a p.bt.a4,a p.bt.a5,d K p.bk,d ew.bu p.bj] 27 20 false;let E:=(↑p.bj.length:Int);let S:=γK 2 0 5;let n:=p.bj.length;let Z:=l 3 n 1;let a6:=δ E.toNat c;let aa:=e K a6 3 true;let L:=a (if pj p v t=true then c else(13:Int));c<=o/\o<=o/\o*(16:Int)<=g/\o<=h/\((((a v).bi (a v)/\(d Ap t).bi (d Ap t)/\w.bi w/\(l 1 o.toNat 2).bi C/\(d Ap t).bi (d Ap t)/\(a o).bi D/\a9.bi (a 0)/\True)/\q.bi q/\(e (K.pair ew.b) (δ o.toNat (c,false)) 159 true).bi (e po (dQ t 0) 159 true)/\True)/\c<=c/\c<=y/\∀(j:Nat),(↑j:Int)<c->pn p v (gJ p t j) (bN t j Ap.bw)=true)/\∀(x:Int),let z:=dQ t x.toNat;let F:=e po z 159 true;let s:=bN t x.toNat Ap.bw;let T:=s.2.1;let M:=s.2.2.1;let N:=s.2.2.2.1;let U:=s.2.2.2.2;let H:=iZ.cells [a s.1,a T,a M,a N,d sF U] 108 5 false;let V:=gJ p t x.toNat;let m:=z.length;let O:=(↑m:Int);let ab:=decide (s.1=k);let ac:=decide (s.1=(2:Int));let P:=z.set (ζs M) (x,false);let G:=x+k;let ad:=a G;let ar:=e po (dQ t G.toNat) 159 true;let ae:=decide (s.1=(2:Int));let af:=decide (s.1=(3:Int));(c<=x/\x<=y/\∀(j:Nat),(↑j:Int)<x->pn p v (gJ p t j) (bN t j Ap.bw)=true)->(decide (x<y)=true->c<=x/\x<o/\x.toNat<t.length/\c<=E/\E<=E/\E*(8:Int)<=g/\E<=h/\((((a v).bi (a v)/\(d Ap t).bi (d Ap t)/\w.bi w/\C.bi C/\(a x).bi (a x)/\S.bi S/\(l 3 E.toNat 1).bi Z/\(a x).bi (a x)/\(d Ap t).bi (d Ap t)/\D.bi D/\(a x).bi (a x)/\True)/\q.bi q/\F.bi F/\H.bi H/\aa.bi aa/\True)/\(c<=x/\x<=x)/\a6.length=n/\gj t z x.toNat x a6=V)/\∀(x_1:Int×List Int),let W:=a x;let A:=x_1.1.toNat;let a7:=bN z A po.bw;let r:=a7.1;let ag:=a r;let I:=ζs r;let J:=(bN t I Ap.bw).2.1;let X:=ζs J;let Q:=x_1.2.length;let ah:=decide (c<x_1.1);let B:=x_1.2.length;let R:=x_1.2.set X (-1:Int);let ai:=e K x_1.2 3 true;let Y:=let aj:=λ(u:iZ) ↦VI .i64 G/\(((a v).bi (a v)/\(d Ap t).bi (d Ap t)/\w.bi w/\C.bi C/\(d Ap t).bi (d Ap t)/\D.bi D/\ad.bi ad/\True)/\q.bi q/\u.bi ar/\True)/\(c<=G/\G<=y/\∀(j:Nat),(↑j:Int)<G->pn p v (gJ p t j) (bN t j Ap.bw)=true)/\(y - G).toNat<(y - x).toNat;(ac=true->t.length=m/\c<=M/\M<O/\t.length=m/\ζs M<m/\t.length=P.length/\c<=N/\N<(↑P.length:Int)/\t.length=P.length/\ζs N<P.length/\aj (e po (P.set (ζs N) (x,true)) 159 true))/\(ac=false->aj F);let ak:=(a v).bi (a v)/\(d Ap t).bi (d Ap t)/\w.bi w/\C.bi C/\W.bi W/\S.bi S/\Z.bi Z/\ag.bi ag/\(d Ap t).bi (d Ap t)/\D.bi D/\W.bi W/\True;let al:=λ(u:List Int) (u_1:Int) ↦let a8:=u.set X u_1;let am:=e K a8 3 true;t.length=m/\c<=x_1.1/\x_1.1<O/\t.length=m/\A<m/\(ak/\q.bi q/\F.bi F/\H.bi H/\am.bi am/\True)/\((c<=r/\r<=x)/\a8.length=n/\gj t z I r a8=V)/\I<A;let an:=λ(u:Bool) ↦(!(dg U&&decide (gV p x_1.2 (vL U) Q<κ v+(1:Rat))))=u;let ao:=λ(u:Bool) ↦(!(decide (T<(↑Q:Int))&&decide (bN x_1.2 (ζs T) 0=c)))=u;let ap:=λ(u:Bool) ↦(!decide (bR p (Ao x_1.2 k)≠c))=u;let aq:=λ(u:Bool) ↦decide (J<(↑n:Int))=u;(c<=x_1.1/\x_1.1<=x)/\Q=n/\gj t z A x_1.1 x_1.2=V->(ah=true->t.length=m/\c<=x_1.1/\x_1.1<O/\t.length=m/\A<m/\c<=r/\r<o/\I<t.length/\(aq true->n=B/\c<=J/\J<(↑B:Int)/\n=B/\X<B/\t.length=m/\c<=x_1.1/\x_1.1<O/\t.length=m/\A<m/\(a7.2=true->n=R.length/\c<=J/\J<(↑R.length:Int)/\n=R.length/\X<R.length/\al R k)/\(a7.2=false->al x_1.2 (-1:Int)))/\(aq false->t.length=m/\c<=x_1.1/\x_1.1<O/\t.length=m/\A<m/\(ak/\q.bi q/\F.bi F/\H.bi H/\ai.bi ai/\True)/\((c<=r/\r<=x)/\Q=n/\gj t z I r x_1.2=V)/\I<A))/\(ah=false->True/\(ab=true->n=B/\(sy p x_1.2 U/\(-9223372036854775808:Int)<=v/\v<=(9223372036854775807:Int))/\(an true->(f 13).bi L)/\(an false->Y))/\(ab=false->(ae=true->n=B/\c<=T/\(ao true->(f 13).bi L)/\(ao false->Y))/\(ae=false->(af=true->n=B/\Q<=1000000/\(ap true->(f 13).bi L)/\(ap false->Y))/\(af=false->n=B/\True/\(true=true->(f 13).bi L)/\(true=false->Y))))))/\(decide (x<y)=false->a9.bi L)) (by kernel_rfl) ?_;simp only[vcs];have h160:=(cT hc).2.1;have htn:1<=t.length/\t.length<=65536:=by
  unfold dn at ht;simp only[θ,decide_eq_true_eq] at ht;exact ht.1
 have hw:∀i,t.length=(dQ t i).length:=λi=>qk.symm;have how:∀{x y:Nat},x=y->(γW 1 x 2).bi (γW 1 y 2):=by rintro _ _ rfl;rfl
 have hof:∀{x y:Nat},x=y->(γW 3 x 1).bi (γW 3 y 1):=by rintro _ _ rfl;rfl
 have hrow:∀{x y:List (Int×Bool)},x=y->(iZ.row po x 159 true).bi (iZ.row po y 159 true):=by rintro _ _ rfl;rfl
 have hd:(po.bw:Int×Bool)=(0,false):=rfl;simp only[γm,hd];refine⟨by omega,by omega,by omega,by omega,⟨⟨how rfl,hrow rfl⟩,by omega,by omega,λj hj=>by omega⟩,?_⟩;rintro i ⟨i0,i1,hall⟩;refine⟨λhi=>?_,λhi=>?_⟩
 ·have hu:=Cl ht (i:=i.toNat) (by omega);have hlu:=@qk t i.toNat;have hno:=Cm ht (i:=i.toNat) (by omega);refine⟨i0,hi,by omega,by omega,by omega,by omega,by omega,⟨hof rfl,⟨i0,Int.le_refl _⟩,List.length_replicate,?_⟩,?_⟩
  ·unfold gJ;rw[show((i.toNat:Nat):Int)=i by omega]
  rintro⟨k,f⟩ ⟨⟨k0,k1⟩,hfl,hfx⟩;simp only at k0 k1 hfl hfx ⊢;refine⟨λhk=>?_,λhk=>?_⟩
  ·have q:=hu.2 k.toNat (by omega);have q1:=q.2 (by omega);have ho:=(Cm ht (i:=(bN (dQ t i.toNat) k.toNat (0,false)).1.toNat) (by omega)).1;have hs:=@Jf t (dQ t i.toNat) hu k f hk (by omega);rw[hfx] at hs;unfold mn at hs;rw[hfl] at hs;have qq:=q.1;clear q;generalize bN (dQ t i.toNat) k.toNat (0,false)=s at qq q1 ho hs ⊢;generalize (bN t s.1.toNat Ap.bw).2.1=o at ho hs ⊢;refine⟨hw _,k0,by omega,hw _,by omega,qq,by omega,by omega,λh=>?_,λh=>?_⟩
   ·rw[if_pos h] at hs;have l1:(f.set o.toNat (-1)).length=p.bj.length:=by rw[Φ,hfl]
    refine⟨by omega,ho,by omega,by omega,by omega,hw _,k0,by omega,hw _,by omega,λh2=>?_,λh2=>?_⟩
    ·rw[if_pos h2] at hs;exact⟨by omega,ho,by omega,by omega,by omega,hw _,k0,by omega,hw _,by omega,⟨⟨qq,by omega⟩,by rw[Φ];exact l1,by rw[List.set_set];exact hs.symm⟩,by omega⟩
    ·rw[if_neg (by rw[h2];exact Bool.false_ne_true)] at hs;refine⟨hw _,k0,?_,hw _,?_,⟨⟨qq,?_⟩,l1,hs.symm⟩,?_⟩<;>omega
   ·rw[if_neg h] at hs;refine⟨hw _,k0,?_,hw _,?_,⟨⟨qq,?_⟩,hfl,hs.symm⟩,?_⟩<;>omega
  ·have hk0:k=0:=by omega
   have hf:f=gJ p t i.toNat:=by rw[<-hfx,hk0];rfl
   have hbi:=hb i.toNat (by omega);rw[<-hf] at hbi;have no:pn p v f (bN t i.toNat Ap.bw)=false->(13:Int)=if pj p v t=true then 0 else 13:=λh=>by
    have:pj p v t=false:=by
     unfold pj;rw[δK];intro ha;have:=χ.1 ha i.toNat (γq.2 (by omega));rw[<-hf,h] at this;cases this
    rw[this];rfl
   have next:pn p v f (bN t i.toNat Ap.bw)=true->∀j:Nat,(j:Int)<i+1->pn p v (gJ p t j) (bN t j Ap.bw)=true:=λh j hj=>by
    by_cases h2:(j:Int)<i;·exact hall j h2
    ·rw[show j=i.toNat by omega,<-hf];exact h
   have hup:dQ t (i+1).toNat=if(bN t i.toNat Ap.bw).1=2 then((dQ t i.toNat).set (bN t i.toNat Ap.bw).2.2.1.toNat (i,false)).set (bN t i.toNat Ap.bw).2.2.2.1.toNat (i,true) else dQ t i.toNat:=by
    rw[show(i+1).toNat=i.toNat+1 by omega];conv=>lhs;unfold dQ
    rw[show((i.toNat:Nat):Int)=i by omega]
   rw[hup];unfold pn at no next;have hsl:∀(j:Nat) (z:Int×Bool),((dQ t i.toNat).set j z).length=t.length:=λj z=>by rw[Φ,hlu]
   generalize bN t i.toNat Ap.bw=n at no next hno hbi ⊢;refine⟨λh1=>⟨hfl.symm,⟨hbi h1,v0,v1⟩,λh=>no (by rw[if_pos h1];exact h),λh=>?_⟩,λh1=>⟨λh3=>⟨hfl.symm,hno.1,λh=>no (by rw[if_neg h1,if_pos h3];exact h),λh=>?_⟩,λh3=>⟨λh4=>⟨hfl.symm,by omega,λh=>no (by rw[if_neg h1,if_neg h3,if_pos h4];exact decide_eq_false h),λh=>?_⟩,λh4=>?_⟩⟩⟩;·exact⟨λh2=>by
      obtain⟨⟨a1,a2⟩,b1,b2⟩:=hno.2 h2;have s1:=hsl n.2.2.1.toNat (i,false);exact⟨hw _,by omega,by omega,hw _,by omega,s1.symm,by omega,by omega,s1.symm,by omega,by omega,hrow (if_pos h2).symm,⟨by omega,by omega,next (by rw[if_pos h1,h.1,decide_eq_true h.2];rfl)⟩,by omega⟩,λh2=>⟨by omega,hrow (if_neg h2).symm,⟨by omega,by omega,next (by rw[if_pos h1,h.1,decide_eq_true h.2];rfl)⟩,by omega⟩⟩
   ·exact⟨λh2=>by
      obtain⟨⟨a1,a2⟩,b1,b2⟩:=hno.2 h2;have s1:=hsl n.2.2.1.toNat (i,false);exact⟨hw _,by omega,by omega,hw _,by omega,s1.symm,by omega,by omega,s1.symm,by omega,by omega,hrow (if_pos h2).symm,⟨by omega,by omega,next (by rw[if_neg h1,if_pos h3,decide_eq_true h.1,decide_eq_true h.2];rfl)⟩,by omega⟩,λh2=>⟨by omega,hrow (if_neg h2).symm,⟨by omega,by omega,next (by rw[if_neg h1,if_pos h3,decide_eq_true h.1,decide_eq_true h.2];rfl)⟩,by omega⟩⟩
   ·exact⟨λh2=>by
      obtain⟨⟨a1,a2⟩,b1,b2⟩:=hno.2 h2;have s1:=hsl n.2.2.1.toNat (i,false);exact⟨hw _,by omega,by omega,hw _,by omega,s1.symm,by omega,by omega,s1.symm,by omega,by omega,hrow (if_pos h2).symm,⟨by omega,by omega,next (by rw[if_neg h1,if_neg h3,if_pos h4];exact decide_eq_true h)⟩,by omega⟩,λh2=>⟨by omega,hrow (if_neg h2).symm,⟨by omega,by omega,next (by rw[if_neg h1,if_neg h3,if_pos h4];exact decide_eq_true h)⟩,by omega⟩⟩
   ·have:=no (by rw[if_neg h1,if_neg h3,if_neg h4]);exact⟨hfl.symm,λ_=>this,λh=>by cases h⟩
 ·have:pj p v t=true:=χ.2 λj hj=>hall j (by have:=γq.1 hj;omega);rw[this];rfl
def kM (p:cj) (n:cz):Bool:=!(decide (n.1=1)&&decide ((n.2.2.2.2.length:Int)≠cr p))
def re (p:cj) (v:Int) (t:List cz):Int:=
 if nW p≠0 then nW p else if t.length=0 then 1 else if 65536<t.length then 3 else if dn t=false then 2 else if t.all (kM p)=false then 2 else if pj p v t=true then 0 else 13
def rb (p:cj) (v:Int) (t:List cz):Prop:=(∀n∈t,∀x∈n.2.2.2.2,gK x)/\t.length<=1000000000000/\(nW p=0->dn t=true->t.all (kM p)=true->Cp p v t)
def C5:M9:=⟨39,cj×Int×List cz,.cons cO (.cons (dX .i64) (.one (cL Ap))),λa=>rb a.1 a.2.1 a.2.2,λa=> .si .i64 (re a.1 a.2.1 a.2.2)⟩
def RA (p:cj) (v:Int) (t:List cz):Nat->bG
 |12=> .inv Int (λi=>⟨[(1,.si .i64 v),(2,.row Ap t),(3,.ptr 0 0 20),(8,.si .i64 (cr p)),(30,.row Ap t),(31,.si .i64 t.length),(32,.si .i64 i)],[.cells p.ss 27 20 false]⟩)
   (λs=>iS s 32) (λi=>0<=i/\i<=t.length/\∀j:Nat,j<i->kM p (bN t j Ap.bw)=true) (λi=>(t.length - i).toNat) λ_ _=> .look
 |_=> .look
theorem HV:Holds Tryz.prog C5:=by
 refine bI (L:=[mW,CC,vG,C6]) C5 (λa=>RA a.1 a.2.1 a.2.2) (by grind[oi,HU,qP,HT]) ?_;rintro⟨p,v,t⟩ ⟨hdg,htl,hok⟩;simp only at hdg htl hok;refine NH (let a:=γf .i64;let b:=(0:Int);let c:=γv .i64;let d:=Ψ;let o:=decide (nW p≠b);let f:=a (re p v t);let h:=(↑t.length:Int);let q:=decide (h=b);let r:=decide ((65536:Int)<h);let i:=γK 0 0 20;let l:=a (cr p);let e:=(↑t.length:Int);let m:=a e;let k:=iZ.cells (cj.ss p) 27 20 false;True/\(o=true->(a (nW p)).bi f)/\(o=false->(q=true->(c 1).bi f)/\(q=false->(r=true->(c 3).bi f)/\(r=false->(∀(n:cz),n∈t->∀(x:NG),x∈n.2.2.2.2->gK x)/\((!dn t)=true->(c 2).bi f)/\((!dn t)=false->True/\((((a v).bi (a v)/\(d Ap t).bi (d Ap t)/\i.bi i/\(a (if nW p=b then cr p else b)).bi l/\(d Ap t).bi (d Ap t)/\(a h).bi m/\(c 0).bi (a 0)/\True)/\k.bi k/\True)/\b<=b/\b<=e/\∀(j:Nat),(↑j:Int)<b->kM p (bN t j Ap.bw)=true)/\∀(x:Int),let g:=x+(1:Int);let s:=a g;let w:=bN t x.toNat Ap.bw;let y:=VI .i64 g/\(((a v).bi (a v)/\(d Ap t).bi (d Ap t)/\i.bi i/\l.bi l/\(d Ap t).bi (d Ap t)/\m.bi m/\s.bi s/\True)/\k.bi k/\True)/\(b<=g/\g<=e/\∀(j:Nat),(↑j:Int)<g->kM p (bN t j Ap.bw)=true)/\(e - g).toNat<(e - x).toNat;let z:=λ(u:Bool) ↦decide ((↑(γb w.2.2.2.2):Int)≠cr p)=u;let A:=λ(u:Bool) ↦decide (w.1=(1:Int))=u;(b<=x/\x<=e/\∀(j:Nat),(↑j:Int)<x->kM p (bN t j Ap.bw)=true)->(decide (x<e)=true->b<=x/\x<h/\x.toNat<t.length/\(A true->(z true->(c 2).bi f)/\(z false->y))/\(A false->y))/\(decide (x<e)=false->Cp p v t/\(a (if pj p v t=true then b else(13:Int))).bi f)))))) (by kernel_rfl) ?_;simp only[vcs];unfold re;refine⟨λh=>by rw[if_pos h],λh=>?_⟩;rw[if_neg h];have hc:nW p=0:=γc.1 h;refine⟨λh1=>by omega,λh1=>?_⟩;rw[if_neg (show ¬t.length=0 by omega)];refine⟨λh2=>by omega,λh2=>?_⟩;rw[if_neg (show ¬65536<t.length by omega)];refine⟨hdg,λh3=>by rw[if_pos h3],λh3=>?_⟩;have hnt:¬dn t=false:=by simp_all
 rw[if_neg hnt,if_pos hc];refine⟨⟨rfl,by omega,by omega,λj hj=>by omega⟩,?_⟩;rintro i ⟨i0,i1,hall⟩;refine⟨λhi=>?_,λhi=>?_⟩
 ·have hm:=cE (d:=Ap.bw) (show i.toNat<t.length by omega);have next:kM p (bN t i.toNat Ap.bw)=true->∀j:Nat,(j:Int)<i+1->kM p (bN t j Ap.bw)=true:=λhr j hj=>by
   grind
  have no:kM p (bN t i.toNat Ap.bw)=false->t.all (kM p)=false:=λhr=>by
   grind
  refine⟨i0,hi,by omega,λh4=>⟨λh5=>?_,λh5=>⟨by omega,⟨by omega,by omega,next ?_⟩,by omega⟩⟩,λh4=>⟨by omega,⟨by omega,by omega,next ?_⟩,by omega⟩⟩;·simp_all[kM]
  all_goals grind[kM]
 ·have ha:t.all (kM p)=true:=χ.2 λn hn=>by
   obtain⟨j,hj,rfl⟩:=List.getElem_of_mem hn;grind[b_]
  simp_all
@[reducible] def P6:ew:=.pair (.qE (.i .i64)) (.pair (.i .i64) (.qE Ap))
def qj (p:cj) (r:List Int×Int×List cz):Int:=if bR p r.1≠0 then bR p r.1 else if cA p r.1≠r.2.1 then 13 else re p r.2.1 r.2.2
def BL:M9:=⟨22,cj×List Int×Int×List cz,.cons cO (.one (dy P6)),λa=>a.2.1.length<=1000000000000/\(bR a.1 a.2.1=0->cA a.1 a.2.1=a.2.2.1->rb a.1 a.2.2.1 a.2.2.2),λa=> .si .i64 (qj a.1 a.2)⟩
theorem yG:Holds Tryz.prog BL:=by
 refine bI (L:=[vP,z6,C5]) BL lk (by grind[qZ,yI,HV]) ?_;rintro⟨p,c,w,t⟩ ⟨g,a⟩;simp only at g a;refine NH (let a:=γf .i64;let d:=decide (bR p c≠(0:Int));let b:=a (qj p (c,w,t));let e:=decide (cA p c≠w);c.length<=9223372036854775807/\(d=true->(a (bR p c)).bi b)/\(d=false->(nW p=(0:Int)/\c.length<=9223372036854775807)/\(e=true->(γv .i64 13).bi b)/\(e=false->rb p w t/\(a (re p w t)).bi b))) (by kernel_rfl) ?_;simp only[vcs];unfold qj;refine⟨by omega,λh=>by rw[if_pos h],λh=>?_⟩;rw[if_neg h];have f:bR p c=0:=γc.1 h;have i:nW p=0:=by
  unfold bR at f;omega
 grind
theorem Rz {p:cj} {f:List Int} {d:Int} (h:f.length=p.bj.length):dO p.bj.length (Ao f d):=⟨ri,λi a=>by grind[jQ]⟩
theorem uU {a:Type} {l:List a} {i:Nat} {x d:a} (h:l[i]?=some x):bN l i d=x/\i<l.length:=by
 grind[bN]
theorem iq.top {p:cj} {v:Int} {t:List cz} {a lo b:Nat} {f:List Int} (h:iq p v t a f lo b):a<t.length/\(lo<b->b<=t.length):=by
 induction h with
 |dZ c _ _=>grind;|j9 c _=>grind;|@bra a f lo d b k c _ _ _ g e i j=>
  omega
theorem Ry {p:cj} {f:List Int} (h:jb p f=true):dV p f:=by
 unfold jb at h;rw[θ,decide_eq_true_eq] at h;obtain⟨a,b⟩:=h;unfold gZ at a;split at a;·omega
 ·rename_i d;split at a;·cases a
  ·rename_i c;exact⟨γc.1 d,γc.1 c,b⟩
theorem Je {p:cj} {f:List Int} (h:jb p f=true):Sz 1000002 (gY p f):=by
 have a:=Ry h;have c:=@wL p a.1 f f.length a.2.1;rw[ψ] at c;have d:Sz 1 ((fJ p f:Int):Rat):=by
  unfold Sz;rw[Rat.num_intCast,Rat.den_intCast];omega
 have b:Sz 1000000 (cG p f).value:=((zO a).sw (mA a).1).2.2.2;exact(wU d b).mono (by omega)
end Go.Vi
