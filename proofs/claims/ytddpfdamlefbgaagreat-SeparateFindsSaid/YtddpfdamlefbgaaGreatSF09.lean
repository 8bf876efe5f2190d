/-
  Contracts: the reference's table of the worths of all coalitions.
  Conditions: none.
-/
import Derived.Test.YtddpfdamlefbgaaGreatSF06
import Derived.Test.YtddpfdamlefbgaaGreatSF07
import Derived.Test.YtddpfdamlefbgaaGreatSF08
import Derived.KernelRfl
set_option maxRecDepth 100000
set_option maxHeartbeats 4000000
set_option linter.all false
namespace Go.Vi
open Go.Proofs.YtddpfdamlefbgaaGreat.Ir
open Go.Proofs
def inM (p:Prob) (m i:Int):Prop:=bitI m (nthD p.offers i.toNat SId.off.dflt).bidder=1
instance (p:Prob) (m i:Int):Decidable (inM p m i):=by unfold inM;infer_instance
def srcL (p:Prob) (m:Int):Nat→Int→List Int→Int→Alloc→Alloc
 |0,_,c,v,b=>if b.value<v then⟨c,v⟩ else b
 |k+1,i,c,v,b=>srcL p m k (i+1) c v (if inM p m i then(if feasE p (c++[i])=0 then srcL p m k (i+1) (c++[i]) (v+valI p i) b else b) else b)
abbrev SrA:=Prob×Int×Int×List Int×Int×Alloc
def srD (p:Prob) (m i:Int) (c:List Int) (v:Int) (b:Alloc):Prop:=Good p∧(0≤m∧m<256)∧(0≤i∧i≤p.offers.length)∧(c.length:Int)≤i∧(0≤v∧v≤1000000*i)∧b.chosen.length≤160
def srcC (n:Nat):SCtr:=⟨99,SrA,.cons codP (.cons (codI .i64) (.cons (codI .i64) (.cons (codR (.i .i64)) (.cons (codI .i64) (.one codA))))),
 fun a=>srD a.1 a.2.1 a.2.2.1 a.2.2.2.1 a.2.2.2.2.1 a.2.2.2.2.2∧leftN a.1 a.2.2.1<n,fun a=>codA.put (srcL a.1 a.2.1 (leftN a.1 a.2.2.1) a.2.2.1 a.2.2.2.1 a.2.2.2.2.1 a.2.2.2.2.2)⟩
theorem srcL_len {p:Prob} {m:Int}:∀{k:Nat} {i:Int} {c:List Int} {v:Int} {b:Alloc},(c.length:Int)≤i→i+k≤160→b.chosen.length≤160→(srcL p m k i c v b).chosen.length≤160
 |0,i,c,v,b,h1,h2,h3=>by
  simp only[srcL]
  by_cases h:b.value<v
  ·rw[if_pos h]
   show c.length≤160
   omega
  ·rw[if_neg h]
   exact h3
 |k+1,i,c,v,b,h1,h2,h3=>by
  simp only[srcL]
  have h4:=@srcL_len p m k (i+1) (c++[i]) (v+valI p i) b (by simp only[List.length_append,List.length_singleton];omega) (by omega) h3
  refine srcL_len (by omega) (by omega) ?_
  by_cases hm:inM p m i
  ·rw[if_pos hm]
   by_cases hf:feasE p (c++[i])=0
   ·rw[if_pos hf];exact h4
   ·rw[if_neg hf];exact h3
  ·rw[if_neg hm];exact h3
def MS (n:Nat):List SCtr:=[srcC n,r55]
theorem srcX (n:Nat) (p:Prob) (m i:Int) (c:List Int) (v:Int) (b:Alloc) (h:srD p m i c v b) (hn:leftN p i<n+1):
  Vc (fnK (parL (MS n) OwnT.none tyN mtN fnN) (fun _=> .look) (fG 99) ((srcC (n+1)).A.put (p,m,i,c,v,b)) fun z=>z.same ((srcC (n+1)).res (p,m,i,c,v,b))):=by
 obtain⟨bc,bv⟩:=b
 obtain⟨hg,⟨m0,m1⟩,⟨i0,i1⟩,hc,⟨v0,v1⟩,hb⟩:=h
 simp only at hb
 refine vcOf (let z0:=(↑p.offers.length:Int);let z1:=0+c.length;let z2:=SId.i .i64;let z3:=Alloc.mk bc bv;let z4:=srcL p m (leftN p i) i c v z3;let z5:=SV.agg [SV.row z2 z4.chosen,SV.si .i64 z4.value];let z6:=nthD p.offers i.toNat SId.off.dflt;let z7:=z6.bidder;let z8:=decide (binK.andI .i64 (m / (2:Int)^z7.toNat) (1:Int)=(1:Int));let z9:=c.length+1;let z10:=decide (feasE p (c++[i])=(0:Int));let z11:=i+(1:Int);let z12:=v+z6.value;let z13:=leftN p z11;let z14:=srcL p m z13 z11 (c++[i]) z12 z3;let z15:=srcL p m z13 z11 c v z14;let z16:=srcL p m z13 z11 c v z3;(decide (i=z0)=true→(decide (bv<v)=true→0=0∧z1*8≤140737488355328∧z1≤1000000000000∧c.length=c.length∧(SV.agg [SV.row z2 c,SV.si .i64 v]).same z5)∧(decide (bv<v)=false→(SV.agg [SV.row z2 bc,SV.si .i64 bv]).same z5))∧(decide (i=z0)=false→(0:Int)≤i∧i<z0∧i.toNat<p.offers.length∧inR .u64 z7∧(0:Int)≤z7∧z7≤(64:Int)∧(z8=true→0=0∧z1*8≤140737488355328∧z1≤1000000000000∧c.length=c.length∧z9*8≤140737488355328∧z9≤1000000000000∧(c++[i]).length=(c++[i]).length∧(c++[i]).length≤9223372036854775807∧(z10=true→(c++[i]).length=(c++[i]).length∧inR .i64 z11∧inR .i64 z12∧(srD p m z11 (c++[i]) z12 z3∧z13<n)∧inR .i64 z11∧(srD p m z11 c v z14∧z13<n)∧(SV.agg [SV.row z2 z15.chosen,SV.si .i64 z15.value]).same z5)∧(z10=false→inR .i64 z11∧(srD p m z11 c v z3∧z13<n)∧(SV.agg [SV.row z2 z16.chosen,SV.si .i64 z16.value]).same z5))∧(z8=false→inR .i64 z11∧(srD p m z11 c v z3∧z13<n)∧(SV.agg [SV.row z2 z16.chosen,SV.si .i64 z16.value]).same z5))) (by kernel_rfl) ?_
 simp only[vcs]
 have hN:=hg.2.1
 refine⟨fun he=>?_,fun hne=>?_⟩
 ·have hl:leftN p i=0:=by unfold leftN;omega
  rw[hl]
  simp only[srcL]
  refine⟨fun hlt=>?_,fun hge=>?_⟩
  ·rw[if_pos hlt]
   repeat' refine And.intro ?_ ?_
   all_goals first|omega|rfl
  ·rw[if_neg hge]
   rfl
 ·have hl:leftN p i=leftN p (i+1)+1:=by unfold leftN;omega
  have hx:=hg.2.2.2.2 _ (nthD_mem (d:=SId.off.dflt) (show i.toNat<p.offers.length by omega))
  have h8:=hg.1
  have hlb:leftN p (i+1)<n:=by omega
  have d1:srD p m (i+1) (c++[i]) (v+valI p i) ⟨bc,bv⟩:=⟨hg,⟨m0,m1⟩,⟨by omega,by omega⟩,by simp only[List.length_append,List.length_singleton];omega,⟨by unfold valI;omega,by unfold valI;omega⟩,hb⟩
  have hlen:=@srcL_len p m (leftN p (i+1)) (i+1) (c++[i]) (v+valI p i) ⟨bc,bv⟩ (by simp only[List.length_append,List.length_singleton];omega) (by unfold leftN;omega) hb
  have d2:srD p m (i+1) c v (srcL p m (leftN p (i+1)) (i+1) (c++[i]) (v+valI p i) ⟨bc,bv⟩):=⟨hg,⟨m0,m1⟩,⟨by omega,by omega⟩,by omega,⟨by omega,by omega⟩,hlen⟩
  have d3:srD p m (i+1) c v ⟨bc,bv⟩:=⟨hg,⟨m0,m1⟩,⟨by omega,by omega⟩,by omega,⟨by omega,by omega⟩,hb⟩
  rw[hl]
  simp only[srcL]
  have hv:(nthD p.offers i.toNat SId.off.dflt).value=valI p i:=rfl
  have hi:inR .u64 (nthD p.offers i.toNat SId.off.dflt).bidder:=u64_in hx.1 (by omega)
  rw[hv]
  have hcl:(c++[i]).length=c.length+1:=by simp
  refine⟨i0,by omega,by omega,hi,hx.1,by omega,fun hm=>?_,fun hm=>?_⟩
  ·have hM:inM p m i:=hm
   rw[if_pos hM]
   refine⟨by omega,by omega,by omega,by omega,by omega,fun hf=>?_,fun hf=>?_⟩
   ·rw[if_pos hf]
    have:1≤valI p i∧valI p i≤1000000:=⟨by unfold valI;omega,by unfold valI;omega⟩
    exact⟨by omega,by omega,⟨d1,hlb⟩,by omega,⟨d2,hlb⟩,rfl⟩
   ·rw[if_neg hf]
    exact⟨by omega,⟨d3,hlb⟩,rfl⟩
  ·have hM:¬inM p m i:=hm
   rw[if_neg hM]
   exact⟨by omega,⟨d3,hlb⟩,rfl⟩
theorem hSrc:∀n,Holds Tryz.prog (srcC n)
 |0=>by
  rintro⟨p,m,i,c,v,b⟩ ⟨_,h⟩
  exact absurd h (Nat.not_lt_zero _)
 |n+1=>by
  rintro⟨p,m,i,c,v,b⟩ ⟨h1,h2⟩
  by_cases hc:leftN p i<n
  ·exact hSrc n (p,m,i,c,v,b) ⟨h1,hc⟩
  ·refine conR (L:=MS n) (srcC (n+1)) (fG 99) (fun _=> .look) (OwnOK.none _) (by simp only[MS,List.forall_mem_cons,List.not_mem_nil,false_implies,implies_true,and_true];exact⟨hSrc n,h55⟩)
    (show fnN 99=some (fG 99) by kernel_rfl) (p,m,i,c,v,b) rfl ?_ (srcX n p m i c v b h1 h2)
   intro d hd b2 hb1 hb3
   have hd2:d=srcC n:=by
    have:findC 99 (MS n)=some (srcC n):=rfl
    have hd3:findC 99 (MS n)=some d:=hd
    rw[this] at hd3
    injection hd3 with hd3
    exact hd3.symm
   subst hd2
   have hb:(p,m,i,c,v,b)=b2:=(srcC n).A.inj (p,m,i,c,v,b) b2 hb1
   subst hb
   exact hc hb3.2
theorem perm_V {L M:List Off} (h:L.Perm M):sumV L=sumV M:=by
 induction h<;>grind[sumV,swap,trans]
theorem perm_B {L M:List Bun} (h:L.Perm M):sumB L=sumB M:=by
 induction h<;>grind[sumB_cons,swap,Bun.add,Bun.mk.injEq,trans]
theorem perm_F {p:Prob} {L M:List Off} (h:L.Perm M) (b:FeasL p L):FeasL p M:=by
 obtain⟨a,c,d⟩:=b
 refine⟨((h.map _).nodup_iff).1 a,?_,?_⟩<;>grind[perm_B]
theorem idx_filter (q:Off→Bool):∀(O a:List Off),∃t:List Int,t.Pairwise (·<·)∧(∀j∈t,(a.length:Int)≤j∧j<a.length+O.length)∧(t.map fun j=>nthD (a++O) j.toNat SId.off.dflt)=O.filter q
 |[],a=>⟨[],by simp,by simp,by simp⟩
 |x::O,a=>by
  obtain⟨t,c,g,d⟩:=idx_filter q O (a++[x])
  have e:a++[x]++O=a++x::O:=by simp
  rw[e] at d
  have h:((a++[x]).length:Int)=a.length+1:=by simp
  have f:∀j∈t,(a.length:Int)+1≤j∧j<a.length+1+O.length:=fun j b=>by
   simp_all
  by_cases i:q x=true
  ·refine⟨(a.length:Int)::t,List.pairwise_cons.2 ⟨fun j b=>by grind,c⟩,fun j b=>?_,?_⟩
   ·grind
   simp_all[nthD_eq]
  grind
theorem keys_nodup {p:Prob}:∀{l:List Off} {a:List BKey},checkL p a l=0→(l.map Off.key).Nodup∧∀x∈l,x.key∉a
 |[],_,_=>by simp
 |o::r,a,h=>by
  simp only[checkL] at h
  split at h
  ·omega
  ·split at h
   ·cases h
   ·rename_i d b
    obtain⟨c,e⟩:=keys_nodup h
    simp_all
theorem nodup_of_map {a b:Type} (f:a→b):∀{l:List a},(l.map f).Nodup→l.Nodup
 |[],_=>by simp
 |x::l,h=>by
  rw[List.map_cons,List.nodup_cons] at h
  exact List.nodup_cons.2 ⟨fun c=>h.1 (List.mem_map_of_mem c),nodup_of_map f h.2⟩
theorem offers_nodup {p:Prob} (h:checkE p=0):p.offers.Nodup:=by
 unfold checkE at h
 split at h
 ·omega
 ·exact nodup_of_map _ (keys_nodup h).1
theorem mem_nodup (m:Int):(memL m).Nodup:=by
 unfold memL
 exact List.Nodup.sublist List.filter_sublist (by decide)
theorem le_of_at {a b:Bun} (h:∀k,k<6→a.at k≤b.at k):a.le b=true:=by
 have i:=h 0 (by omega)
 have c:=h 1 (by omega)
 have d:=h 2 (by omega)
 have f:=h 3 (by omega)
 have g:=h 4 (by omega)
 have e:=h 5 (by omega)
 simp_all[Bun.at,nthD,Bun.le_iff]
theorem feasL_of {p:Prob} {L:List Off} (d:(L.map Off.bidder).Nodup) (c:fitsB p L=true):FeasL p L:=by
 refine⟨d,le_of_at fun k a=>?_,le_of_at fun k a=>?_⟩
 ·have h:=fits_iff.1 c (p.classes.length+k) (by grind[nrows])
  rw[show(((p.classes.length+k:Nat)):Int)=p.classes.length+k by omega,bound_w a] at h
  rw[at_sum,List.map_map]
  have:sumS p L (p.classes.length+k)=(L.map ((fun b=>Bun.at b k)∘Off.want)).sum:=by
   unfold sumS
   congr 1
   simp_all[coef_w]
  omega
 ·have h:=fits_iff.1 c (p.classes.length+6+k) (by grind[nrows])
  rw[show(((p.classes.length+6+k:Nat)):Int)=p.classes.length+6+k by omega,bound_o a] at h
  rw[at_sum,List.map_map]
  have:sumS p L (p.classes.length+6+k)=(L.map ((fun b=>Bun.at b k)∘outS p)).sum:=by
   unfold sumS
   congr 1
   simp_all[coef_o]
  omega
theorem pick_some_inc {l:List Off}:∀{t:List Int} {a:Int} {r:List Off}, -1≤a→pickGo l a t=some r→t.Pairwise (·<·)∧∀j∈t,a<j∧j<l.length
 |[],_,_,_,_=>by simp
 |i::t,a,r,g,h=>by
  simp only[pickGo] at h
  split at h
  ·cases h
  ·rename_i k
   obtain⟨f,d,rfl⟩:=Option.map_eq_some_iff.1 h
   obtain⟨e,c⟩:=pick_some_inc (by omega) d
   refine⟨List.pairwise_cons.2 ⟨fun j b=>(c j b).1,e⟩,fun j b=>?_⟩
   grind
def FeasI (p:Prob) (t:List Int):Prop:=IncR 0 p.offers.length t∧FeasL p (offsI p t)
theorem feas_iff {p:Prob} (c:checkE p=0) {t:List Int}:feasE p t=0↔FeasI p t:=by
 refine⟨fun h=>?_,fun h=>feas_of c h.1 h.2⟩
 have e:=feas_nd h
 obtain⟨i,a,l,m,o⟩:=feas_ok h
 obtain⟨r,d⟩:=Option.isSome_iff_exists.1 a
 obtain⟨f,g⟩:=pick_some_inc (by omega) d
 have n:pickL p t=offsI p t:=by grind[pickL,pick_offs]
 have b:fitsB p (offsI p t)=true:=by
  simp_all[feasE]
 exact⟨⟨f,fun j k=>by simp_all⟩,feasL_of e b⟩
theorem feasI_pre {p:Prob} (c:Good p) {l m:List Int} (h:FeasI p (l++m)):FeasI p l:=by
 obtain⟨⟨b,d⟩,a⟩:=h
 rw[offsI_append] at a
 refine⟨⟨(List.pairwise_append.1 b).1,fun j e=>d j (by simp[e])⟩,feas_pre c (fun x f=>?_) a⟩
 grind[offs_ok]
theorem to_idx {p:Prob} (d:checkE p=0) {L:List Off} (c:FeasL p L) (l:∀x∈L,x∈p.offers):∃t,FeasI p t∧(offsI p t).Perm L:=by
 have g:=offers_nodup d
 obtain⟨t,h,k,e⟩:=idx_filter (fun x=>decide (x∈L)) p.offers []
 have f:offsI p t=p.offers.filter fun x=>decide (x∈L):=e
 have b:(p.offers.filter fun x=>decide (x∈L)).Nodup:=List.Nodup.sublist List.filter_sublist g
 have a:L.Perm (offsI p t):=by
  rw[f]
  refine(List.perm_ext_iff_of_nodup (nodup_of_map _ c.1) b).2 fun x=>?_
  simp_all
 exact⟨t,⟨⟨h,fun j i=>by simp_all⟩,perm_F a c⟩,a.symm⟩
def sumI (p:Prob) (t:List Int):Int:=sumV (offsI p t)
def Ext2 (p:Prob) (m i:Int) (k:Nat) (c t:List Int):Prop:=IncR i k t∧(∀j∈t,inM p m j)∧(t≠[]→FeasI p (c++t))
theorem incR_wide {i:Int} {k:Nat} {t:List Int} (h:IncR (i+1) k t):IncR i (k+1) t:=⟨h.1,fun j hj=>by have:=h.2 j hj;omega⟩
theorem incR_cons {i:Int} {k:Nat} {t:List Int} (h:IncR (i+1) k t):IncR i (k+1) (i::t):=⟨List.pairwise_cons.2 ⟨fun j hj=>by have:=h.2 j hj;omega,h.1⟩,fun j hj=>by
 rcases List.mem_cons.1 hj with rfl|hj
 ·omega
 ·have:=h.2 j hj;omega⟩
theorem sumI_cons {p:Prob} {i:Int} {t:List Int}:sumI p (i::t)=valI p i+sumI p t:=by
 unfold sumI offsI valI
 simp[sumV]
theorem src_ge {p:Prob} {m:Int} (hc:checkE p=0):∀{k:Nat} {i:Int} {c:List Int} {v:Int} {b:Alloc},b.value≤(srcL p m k i c v b).value∧∀t,Ext2 p m i k c t→v+sumI p t≤(srcL p m k i c v b).value
 |0,i,c,v,b=>by
  simp only[srcL]
  have e:b.value≤(if b.value<v then(⟨c,v⟩:Alloc) else b).value∧v≤(if b.value<v then(⟨c,v⟩:Alloc) else b).value:=by
   by_cases h:b.value<v
   ·rw[if_pos h]
    exact⟨by show b.value≤v;omega,by show v≤v;omega⟩
   ·rw[if_neg h];omega
  refine⟨e.1,fun t ht=>?_⟩
  have:t=[]:=by
   cases t with
   |nil=>rfl
   |cons j t=>have:=ht.1.2 j (by simp);omega
  subst this
  have h0:sumI p []=0:=rfl
  rw[h0]
  omega
 |k+1,i,c,v,b=>by
  have hg:=good_of hc
  simp only[srcL]
  generalize hb2:(if inM p m i then(if feasE p (c++[i])=0 then srcL p m k (i+1) (c++[i]) (v+valI p i) b else b) else b)=b2
  obtain⟨k1,k2⟩:=@src_ge p m hc k (i+1) c v b2
  obtain⟨k3,k4⟩:=@src_ge p m hc k (i+1) (c++[i]) (v+valI p i) b
  have hbb:b.value≤b2.value:=by
   rw[←hb2]
   split
   ·split
    ·exact k3
    ·exact Int.le_refl _
   ·exact Int.le_refl _
  refine⟨by omega,fun t ht=>?_⟩
  cases t with
  |nil=>exact k2 [] ⟨⟨by simp,by simp⟩,by simp,fun h=>absurd rfl h⟩
  |cons j t=>
   have hj:=ht.1.2 j (by simp)
   have hp:=List.pairwise_cons.1 ht.1.1
   have hF:=ht.2.2 (by simp)
   by_cases hji:j=i
   ·subst hji
    have h5:FeasI p ((c++[j])++t):=by simpa using hF
    rw[if_pos (ht.2.1 j (by simp)),if_pos ((feas_iff hc).2 (feasI_pre hg h5))] at hb2
    have:=k4 t ⟨⟨hp.2,fun n hn=>by have a:=hp.1 n hn;have b:=ht.1.2 n (by simp[hn]);omega⟩,fun n hn=>ht.2.1 n (by simp[hn]),fun _=>h5⟩
    rw[hb2] at this
    rw[sumI_cons]
    omega
   ·refine k2 (j::t) ⟨⟨ht.1.1,fun n hn=>?_⟩,ht.2.1,ht.2.2⟩
    have b:=ht.1.2 n hn
    rcases List.mem_cons.1 hn with rfl|hn
    ·omega
    ·have a:=hp.1 n hn;omega
theorem src_hit {p:Prob} {m:Int} (hc:checkE p=0):∀{k:Nat} {i:Int} {c:List Int} {v:Int} {b:Alloc},(srcL p m k i c v b).value=b.value∨∃t,Ext2 p m i k c t∧(srcL p m k i c v b).value=v+sumI p t
 |0,i,c,v,b=>by
  simp only[srcL]
  split
  ·exact .inr ⟨[],⟨⟨by simp,by simp⟩,by simp,fun h=>absurd rfl h⟩,by show v=v+0;omega⟩
  ·exact .inl rfl
 |k+1,i,c,v,b=>by
  simp only[srcL]
  generalize hb2:(if inM p m i then(if feasE p (c++[i])=0 then srcL p m k (i+1) (c++[i]) (v+valI p i) b else b) else b)=b2
  rcases @src_hit p m hc k (i+1) c v b2 with h|⟨t,h1,h2⟩
  ·rw[h,←hb2]
   split
   ·rename_i hm
    split
    ·rename_i hf
     rcases @src_hit p m hc k (i+1) (c++[i]) (v+valI p i) b with h3|⟨t,h3,h4⟩
     ·exact .inl h3
     ·refine .inr ⟨i::t,⟨incR_cons h3.1,fun j hj=>?_,fun _=>?_⟩,by rw[h4,sumI_cons];omega⟩
      ·rcases List.mem_cons.1 hj with rfl|hj
       ·exact hm
       ·exact h3.2.1 j hj
      ·by_cases ht:t=[]
       ·subst ht;exact(feas_iff hc).1 hf
       ·simpa using h3.2.2 ht
    ·exact .inl rfl
   ·exact .inl rfl
  ·exact .inr ⟨t,⟨incR_wide h1.1,h1.2.1,h1.2.2⟩,h2⟩
theorem bitI_one {m f:Int} (hm:0≤m) (hm2:m<256) (hf:0≤f) (hf2:f<8):bitI m f=1↔f∈memL m:=by
 have h:=(bit_del hm hm2 hf hf2).1
 have hin:f∈([0,1,2,3,4,5,6,7]:List Int):=by
  have:f=0∨f=1∨f=2∨f=3∨f=4∨f=5∨f=6∨f=7:=by omega
  simpa using this
 unfold memL
 rw[List.mem_filter,decide_eq_true_eq]
 constructor
 ·intro h1
  exact⟨hin,by omega⟩
 ·rintro⟨_,h1⟩
  rcases h with h|h
  ·exact absurd h h1
  ·exact h
theorem incR_mem {p:Prob} {t:List Int} (h:IncR 0 p.offers.length t) {x:Off} (hx:x∈offsI p t):∃j∈t,x=nthD p.offers j.toNat SId.off.dflt∧x∈p.offers:=by
 unfold offsI at hx
 obtain⟨j,hj,rfl⟩:=List.mem_map.1 hx
 have:=h.2 j hj
 exact⟨j,hj,rfl,nthD_mem (by omega)⟩
theorem src_worth {p:Prob} {m:Int} (hc:checkE p=0) (m0:0≤m) (m1:m<2^p.classes.length):(srcL p m p.offers.length 0 [] 0 ⟨[],0⟩).value=bestS p ⟨m,p.supply,p.opn⟩:=by
 have hg:=good_of hc
 have h2:=pow_n hg.1
 have h8:=hg.1
 have q1:=Bun.ok_iff.1 hg.2.2.1
 have q2:=Bun.ok_iff.1 hg.2.2.2.1
 have z1:Bun.zero.le p.supply=true:=by rw[Bun.le_iff];simp only[Bun.zero];omega
 have z2:Bun.zero.le p.opn=true:=by rw[Bun.le_iff];simp only[Bun.zero];omega
 have hb:bestS p ⟨m,p.supply,p.opn⟩=valL p (memL m) p.supply p.opn:=rfl
 rw[hb]
 have hmem:∀x∈p.offers,bitI m x.bidder=1↔x.bidder∈memL m:=fun x hx=>by
  have:=hg.2.2.2.2 x hx
  exact bitI_one m0 (by omega) this.1 (by omega)
 apply Int.le_antisymm
 ·have hfit:∀t,Ext2 p m 0 p.offers.length [] t→sumI p t≤valL p (memL m) p.supply p.opn:=fun t ht=>by
   by_cases h0:t=[]
   ·subst h0
    exact fit_le hg (L:=[]) ⟨by simp,by simp,z1,z2⟩
   ·have hF:FeasI p t:=by simpa using ht.2.2 h0
    refine fit_le hg ⟨hF.2.1,fun x hx=>?_,hF.2.2.1,hF.2.2.2⟩
    obtain⟨j,hj,hxj,hxo⟩:=incR_mem hF.1 hx
    have hm:=ht.2.1 j hj
    unfold inM at hm
    rw[←hxj] at hm
    exact⟨hxo,(hmem x hxo).1 hm⟩
  rcases @src_hit p m hc p.offers.length 0 [] 0 ⟨[],0⟩ with h|⟨t,h1,h3⟩
  ·rw[h]
   exact hfit [] ⟨⟨by simp,by simp⟩,by simp,fun h=>absurd rfl h⟩
  ·rw[h3,Int.zero_add]
   exact hfit t h1
 ·obtain⟨L,hL,hv⟩:=fit_at hg (mem_nodup m) z1 z2
  rw[←hv]
  obtain⟨t,ht,hperm⟩:=to_idx hc (L:=L) ⟨hL.nd,hL.w,hL.o⟩ (fun x hx=>(hL.mem x hx).1)
  have hs:sumV L=sumI p t:=(perm_V hperm).symm
  rw[hs]
  have:=(@src_ge p m hc p.offers.length 0 [] 0 ⟨[],0⟩).2 t ⟨ht.1,fun j hj=>?_,fun _=>by simpa using ht⟩
  ·omega
  ·have hx:nthD p.offers j.toNat SId.off.dflt∈L:=hperm.mem_iff.1 (List.mem_map.2 ⟨j,hj,rfl⟩)
   have h1:=hL.mem _ hx
   exact(hmem _ h1.1).2 h1.2
theorem howO {i u v:Nat} (h:u=v):(SV.ow i u 1).same (SV.ow i v 1):=by subst h;rfl
theorem valsL {p:Prob}:∀{c l:List Int},(c.foldl (setV p) l).length=l.length
 |[],l=>rfl
 |i::c,l=>by
  rw[List.foldl_cons,valsL]
  grind[setV]
theorem vals_lenN {p:Prob} {c:List Int}:(valsS p c).length=p.classes.length:=by
 grind[valsS,valsL]
theorem vals_succ {p:Prob} {c:List Int} {i:Nat} (h:i<c.length):valsS p (c.take (i+1))=setV p (valsS p (c.take i)) (nthD c i 0):=by
 grind[take_snoc,valsS]
def srcA (p:Prob) (m:Int):Alloc:=if faultE p m=0 then srcL p m p.offers.length 0 [] 0 ⟨[],0⟩ else⟨[],0⟩
def r150:SCtr:=⟨70,Prob×Int,.cons codP (.one (codI .i64)),fun _=>True,fun a=> .tup [codA.put (srcA a.1 a.2),.si .i64 (faultE a.1 a.2)]⟩
theorem h150:Holds Tryz.prog r150:=by
 refine con0 (L:=[r24,srcC 161]) r150 lk (by simpa using⟨h24,hSrc 161⟩) ?_
 rintro⟨p,m⟩ -
 refine vcOf (let z0:=decide (checkE p≠(0:Int));let z1:=SId.i .i64;let z2:=[SV.il .i64 0];let z3:=SV.agg (SV.row z1 []::z2);let z4:=SV.tup [SV.agg [SV.row z1 (srcA p m).chosen,SV.si .i64 (srcA p m).value],SV.si .i64 (faultE p m)];let z5:=decide (m<(0:Int));let z6:=(↑p.classes.length:Int);let z7:=(1:Int)*(2:Int)^z6.toNat;let z8:=Alloc.mk [] (0:Int);let z9:=srcL p m (leftN p (0:Int)) (0:Int) [] (0:Int) z8;True∧(z0=true→(SV.tup [z3,SV.si .i64 (checkE p)]).same z4)∧(z0=false→(z5=true→(SV.tup [z3,SV.il .i64 4]).same z4)∧(z5=false→(0:Int)≤z6∧z6≤(64:Int)∧inR .i64 z7∧(decide (z7≤m)=true→(SV.tup [z3,SV.il .i64 4]).same z4)∧(decide (z7≤m)=false→(srD p m (0:Int) [] (0:Int) z8∧leftN p (0:Int)<161)∧(SV.tup (SV.agg [SV.row z1 z9.chosen,SV.si .i64 z9.value]::z2)).same z4)))) (by kernel_rfl) ?_
 simp only[vcs]
 refine⟨fun hne=>?_,fun hz=>?_⟩
 ·have hf:faultE p m=checkE p:=by unfold faultE;rw[if_pos hne]
  unfold srcA
  rw[hf,if_neg hne]
  exact⟨rfl,rfl⟩
 have hz:checkE p=0:=by simpa using hz
 have hg:=good_of hz
 have h2:=pow_n hg.1
 have h8:=hg.1
 have e0:(1:Int)*2^((p.classes.length:Int)).toNat=2^p.classes.length:=by rw[Int.one_mul,Int.toNat_natCast]
 rw[e0]
 have four:(m<0∨2^p.classes.length≤m)→faultE p m=4∧srcA p m=⟨[],0⟩:=fun h=>by
  have hf:faultE p m=4:=by unfold faultE;rw[if_neg (by omega),if_pos h]
  refine⟨hf,?_⟩
  unfold srcA
  rw[hf]
  rfl
 refine⟨fun hm=>?_,fun hm=>⟨by omega,by omega,by omega,fun hm2=>?_,fun hm2=>?_⟩⟩
 ·obtain⟨w1,w2⟩:=four (.inl hm)
  rw[w1,w2]
  exact⟨rfl,rfl⟩
 ·obtain⟨w1,w2⟩:=four (.inr hm2)
  rw[w1,w2]
  exact⟨rfl,rfl⟩
 ·have hf:faultE p m=0:=by unfold faultE;rw[if_neg (by omega),if_neg (by omega)]
  have hl:leftN p 0=p.offers.length:=by unfold leftN;omega
  have hN:=hg.2.1
  have e:srcA p m=srcL p m p.offers.length 0 [] 0 ⟨[],0⟩:=by unfold srcA;rw[if_pos hf]
  rw[hf,e,hl]
  exact⟨⟨⟨hg,⟨by omega,by omega⟩,⟨by omega,by omega⟩,by simp,⟨by omega,by omega⟩,by simp⟩,by omega⟩,rfl,rfl⟩
def r123:SCtr:=⟨45,Prob×Int,.cons codP (.one (codI .i64)),fun _=>True,fun a=> .tup [.si .i64 (srcA a.1 a.2).value,.si .i64 (faultE a.1 a.2)]⟩
theorem h123:Holds Tryz.prog r123:=by
 refine con0 (L:=[r150]) r123 lk (by simpa using h150) ?_
 rintro⟨p,m⟩ -
 refine vcOf (let z0:=SV.tup [SV.si .i64 (srcA p m).value,SV.si .i64 (faultE p m)];True∧z0.same z0) (by kernel_rfl) ?_
 simp only[vcs]
def r90:SCtr:=⟨23,Prob,.one codP,fun _=>True,fun p=> .tup [.row (.i .i64) (if checkE p=0 then tabS p else[]),.si .i64 (checkE p)]⟩
def Λ90 (p:Prob):Nat→LoopAnn
 |6=> .inv (Int×List Int) (fun x=>⟨[(1,.ptr 0 0 20),(5,.ow 1 x.2.length 1),(6,.si .i64 x.1)],[.cells p.ss 27 20 false,.row (.i .i64) x.2 2 true]⟩) (fun s=>(iS s 6,oS (.i .i64) s 1))
  (fun x=>(0≤x.1∧x.1≤2^p.classes.length)∧x.2=tabP p x.1.toNat) (fun x=>(2^p.classes.length - x.1).toNat) fun _ _=> .look
 |_=> .look
theorem h90:Holds Tryz.prog r90:=by
 refine con0 (L:=[r24,r123]) r90 Λ90 (by simpa using⟨h24,h123⟩) ?_
 rintro(p:Prob) -
 refine vcOf (let z0:=decide (checkE p≠(0:Int));let z1:=SId.i .i64;let z2:=[SV.si .i64 (checkE p)];let z3:=SV.tup (SV.row z1 (if checkE p=(0:Int) then tabS p else[])::z2);let z4:=SV.ptr 0 0 20;let z5:=SV.ow 1 0 1;let z6:=SV.il .i64 0;let z7:=SObj.cells [SV.si .i64 p.supply.a0,SV.si .i64 p.supply.a1,SV.si .i64 p.supply.a2,SV.si .i64 p.supply.a3,SV.si .i64 p.supply.a4,SV.si .i64 p.supply.a5,SV.si .i64 p.opn.a0,SV.si .i64 p.opn.a1,SV.si .i64 p.opn.a2,SV.si .i64 p.opn.a3,SV.si .i64 p.opn.a4,SV.si .i64 p.opn.a5,SV.si .i64 p.cls.a0,SV.si .i64 p.cls.a1,SV.si .i64 p.cls.a2,SV.si .i64 p.cls.a3,SV.si .i64 p.cls.a4,SV.si .i64 p.cls.a5,SV.row z1 p.classes,SV.row SId.off p.offers] 27 20 false;let z8:=SObj.row z1 [] 2 true;let z9:=(2:Int)^p.classes.length;let z10:=(↑p.classes.length:Int);let z11:=(1:Int)*(2:Int)^z10.toNat;True∧(z0=true→(SV.tup (SV.row z1 []::z2)).same z3)∧(z0=false→(((z4.same z4∧z5.same z5∧z6.same (SV.si .i64 0)∧True)∧z7.same z7∧z8.same z8∧True)∧((0:Int)≤(0:Int)∧(0:Int)≤z9)∧[]=tabP p 0)∧∀(x:Int×List Int),let z12:=decide (x.fst<z11);let z13:=x.snd.length+1;let z14:=x.fst+(1:Int);let z15:=x.snd++[(srcA p x.fst).value];let z16:=SV.si .i64 z14;let z17:=SObj.row z1 z15 2 true;((0:Int)≤x.fst∧x.fst≤z9)∧x.snd=tabP p x.fst.toNat→(0:Int)≤z10∧z10≤(64:Int)∧inR .i64 z11∧(z12=true→True∧x.snd.length=x.snd.length∧z13*8≤140737488355328∧z13≤1000000000000∧inR .i64 z14∧((z4.same z4∧(SV.ow 1 z15.length 1).same (SV.ow 1 z15.length 1)∧z16.same z16∧True)∧z7.same z7∧z17.same z17∧True)∧(((0:Int)≤z14∧z14≤z9)∧z15=tabP p z14.toNat)∧(z9 - z14).toNat<(z9 - x.fst).toNat)∧(z12=false→x.snd.length=x.snd.length∧(SV.tup [SV.row z1 x.snd,z6]).same z3))) (by kernel_rfl) ?_
 simp only[vcs]
 refine⟨fun hne=>?_,fun hz=>?_⟩
 ·rw[if_neg hne]
 have hz:checkE p=0:=by simpa using hz
 have hg:=good_of hz
 have h2:=pow_n hg.1
 have h8:=hg.1
 have e0:(1:Int)*2^((p.classes.length:Int)).toNat=2^p.classes.length:=by rw[Int.one_mul,Int.toNat_natCast]
 have c0:((2^p.classes.length:Nat):Int)=2^p.classes.length:=by push_cast;rfl
 rw[e0]
 refine⟨⟨⟨by omega,by omega⟩,rfl⟩,?_⟩
 rintro⟨i,out⟩ ⟨⟨i0,i1⟩,ho⟩
 simp only at i0 i1 ho ⊢
 subst ho
 have hol:(tabP p i.toNat).length=i.toNat:=by simp[tabP]
 refine⟨by omega,by omega,by omega,fun hi=>?_,fun hi=>?_⟩
 ·have hf:faultE p i=0:=by unfold faultE;rw[if_neg (by omega),if_neg (by omega)]
  have hsv:(srcA p i).value=bestS p ⟨i,p.supply,p.opn⟩:=by
   unfold srcA
   rw[if_pos hf]
   exact src_worth hz i0 hi
  have hsucc:tabP p (i+1).toNat=tabP p i.toNat++[bestS p ⟨i,p.supply,p.opn⟩]:=by
   unfold tabP
   rw[show(i+1).toNat=i.toNat+1 by omega,List.range_succ,List.map_append,List.map_cons,List.map_nil,show((i.toNat:Nat):Int)=i by omega]
  rw[hsv]
  repeat' refine And.intro ?_ ?_
  all_goals first|omega|exact hsucc.symm|rfl|trivial
 ·rw[if_pos hz,hz]
  have:i.toNat=2^p.classes.length:=by omega
  unfold tabS
  rw[this]
  repeat' refine And.intro ?_ ?_
  all_goals first|omega|rfl
def Λ101 (a:Prob×Alloc):Nat→LoopAnn
 |5=> .inv (Int×List Int) (fun x=>⟨[(2,.ptr 0 0 20),(5,.ow 2 x.2.length 1),(18,.row (.i .i64) a.2.chosen),(19,.si .i64 a.2.chosen.length),(20,.si .i64 x.1)],[.cells a.1.ss 27 20 false,.cells [.row (.i .i64) a.2.chosen,.si .i64 a.2.value] 29 2 false,.row (.i .i64) x.2 2 true]⟩) (fun s=>(iS s 20,oS (.i .i64) s 2))
  (fun x=>(0≤x.1∧x.1≤a.2.chosen.length)∧x.2=valsS a.1 (a.2.chosen.take x.1.toNat)) (fun x=>(a.2.chosen.length - x.1).toNat) fun _ _=> .look
 |_=> .look
def r101:SCtr:=⟨18,Prob×Alloc,.cons codP (.one codA),fun a=>a.2.chosen.length≤9223372036854775807,fun a=> .row (.i .i64) (if feasE a.1 a.2.chosen=0 then valsS a.1 a.2.chosen else[])⟩
theorem h101:Holds Tryz.prog r101:=by
 refine con0 (L:=[r100]) r101 Λ101 (by simpa using h100) ?_
 rintro⟨p,⟨c,v⟩⟩ h
 refine vcOf (let z0:=decide (feasE p c≠(0:Int));let z1:=SId.i .i64;let z2:=SV.row z1 (if feasE p c=(0:Int) then valsS p c else[]);let z3:=(↑p.classes.length:Int);let z4:=SV.ptr 0 0 20;let z5:=List.replicate z3.toNat (0:Int);let z6:=(↑c.length:Int);let z7:=SV.si .i64 z6;let z8:=SObj.cells [SV.si .i64 p.supply.a0,SV.si .i64 p.supply.a1,SV.si .i64 p.supply.a2,SV.si .i64 p.supply.a3,SV.si .i64 p.supply.a4,SV.si .i64 p.supply.a5,SV.si .i64 p.opn.a0,SV.si .i64 p.opn.a1,SV.si .i64 p.opn.a2,SV.si .i64 p.opn.a3,SV.si .i64 p.opn.a4,SV.si .i64 p.opn.a5,SV.si .i64 p.cls.a0,SV.si .i64 p.cls.a1,SV.si .i64 p.cls.a2,SV.si .i64 p.cls.a3,SV.si .i64 p.cls.a4,SV.si .i64 p.cls.a5,SV.row z1 p.classes,SV.row SId.off p.offers] 27 20 false;let z9:=SObj.cells [SV.row z1 c,SV.si .i64 v] 29 2 false;let z10:=SObj.row z1 z5 2 true;c.length≤9223372036854775807∧(z0=true→(SV.row z1 []).same z2)∧(z0=false→(0:Int)≤z3∧z3≤z3∧z3*(8:Int)≤(140737488355328:Int)∧z3≤(1000000000000:Int)∧(((z4.same z4∧(SV.ow 2 z3.toNat 1).same (SV.ow 2 z5.length 1)∧(SV.row z1 c).same (SV.row z1 c)∧(SV.si .i64 (↑c.length:Int)).same z7∧(SV.il .i64 0).same (SV.si .i64 0)∧True)∧z8.same z8∧z9.same z9∧z10.same z10∧True)∧((0:Int)≤(0:Int)∧(0:Int)≤z6)∧z5=valsS p [])∧∀(x:Int×List Int),let z11:=nthD c x.fst.toNat (0:Int);let z12:=x.snd.length;let z13:=nthD p.offers z11.toNat SId.off.dflt;let z14:=x.fst+(1:Int);let z15:=x.snd.set z13.bidder.toNat z13.value;let z16:=SV.si .i64 z14;let z17:=SObj.row z1 z15 2 true;((0:Int)≤x.fst∧x.fst≤z6)∧x.snd=valsS p (List.take x.fst.toNat c)→(decide (x.fst<z6)=true→(0:Int)≤x.fst∧x.fst<(↑c.length:Int)∧x.fst.toNat<c.length∧(0:Int)≤z11∧z11<(↑p.offers.length:Int)∧z11.toNat<p.offers.length∧(0:Int)≤z11∧z11<(↑p.offers.length:Int)∧z11.toNat<p.offers.length∧x.snd.length=z12∧(0:Int)≤z13.bidder∧z13.bidder<(↑z12:Int)∧x.snd.length=z12∧z13.bidder.toNat<z12∧inR .i64 z14∧((z4.same z4∧(SV.ow 2 x.snd.length 1).same (SV.ow 2 z15.length 1)∧(SV.row z1 c).same (SV.row z1 c)∧z7.same z7∧z16.same z16∧True)∧z8.same z8∧z9.same z9∧z17.same z17∧True)∧(((0:Int)≤z14∧z14≤z6)∧z15=valsS p (List.take z14.toNat c))∧(z6 - z14).toNat<(z6 - x.fst).toNat)∧(decide (x.fst<z6)=false→x.snd.length=z12∧(SV.row z1 x.snd).same z2))) (by kernel_rfl) ?_
 simp only[vcs]
 have hc1:c.length≤9223372036854775807:=h
 refine⟨hc1,fun hne=>?_,fun hz=>?_⟩
 ·rw[if_neg hne]
 have hz:feasE p c=0:=by simpa using hz
 obtain⟨_,_,hg,hcl,hix⟩:=feas_ok hz
 have h8:=hg.1
 have hN:=hg.2.1
 rw[if_pos hz]
 refine⟨by omega,by omega,by omega,by omega,?_,?_⟩
 ·repeat' refine And.intro ?_ ?_
  all_goals first|omega|exact howO (by simp)|rfl|trivial
 rintro⟨i,out⟩ ⟨⟨i0,i1⟩,ho⟩
 simp only at i0 i1 ho ⊢
 subst ho
 have hl:=@vals_lenN p (c.take i.toNat)
 refine⟨fun hi=>?_,fun hi=>?_⟩
 ·have hj:=hix (nthD c i.toNat 0) (nthD_mem (by omega))
  have hx:=hg.2.2.2.2 _ (nthD_mem (d:=SId.off.dflt) (show(nthD c i.toNat 0).toNat<p.offers.length by omega))
  have hs:=vals_succ (p:=p) (show i.toNat<c.length by omega)
  have e:(i+1).toNat=i.toNat+1:=by omega
  rw[e,hs]
  repeat' refine And.intro ?_ ?_
  all_goals first|omega|exact howO (by simp)|rfl|trivial
 ·have:i.toNat=c.length:=by omega
  rw[this,List.take_length]
  repeat' refine And.intro ?_ ?_
  all_goals first|omega|rfl
theorem and_one {p:Int} (p0:0≤p) (p1:p<9223372036854775808):binK.andI .i64 p 1=p % 2:=by
 obtain⟨m,rfl⟩:=Int.eq_ofNat_of_zero_le p0
 have h1:(BitVec.ofInt 64 ((m:Nat):Int)).toNat=m:=by rw[BitVec.toNat_ofInt];omega
 have h2:(BitVec.ofInt 64 1).toNat=1:=by rw[BitVec.toNat_ofInt];rfl
 have h3:(BitVec.ofInt 64 ((m:Nat):Int) &&&BitVec.ofInt 64 1).toNat=m % 2:=by
  rw[BitVec.toNat_and,h1,h2]
  exact Nat.and_two_pow_sub_one_eq_mod m 1
 show wrapI .i64 ((BitVec.ofInt 64 ((m:Nat):Int) &&&BitVec.ofInt 64 1).toNat:Nat)=_
 rw[h3,wrapI_eq]
 simp only[IntKind.wrap,IntKind.bits,IntKind.signed]
 simp
 omega
def hasI (m b:Int):Bool:=decide (m / 2^b.toNat % 2=1)
theorem half_nn {m:Int} {i:Nat} (h:0≤m):0≤m / 2^i∧m / 2^i≤m:=by
 refine⟨Int.ediv_nonneg h (Int.pow_nonneg (by omega)),Int.ediv_le_self _ h⟩
def payU (vals:List Int) (m:Int) (n:Nat):Int:=(List.range n).foldl (fun(s:Int) (j:Nat)=>if 0<nthD vals j 0∧hasI m j=false then s+2^j else s) 0
def leastU (vals:List Int) (m w:Int) (n:Nat):Int:=(List.range n).foldl (fun(s:Int) (j:Nat)=>if hasI m j=true then s - nthD vals j 0 else s) w
theorem payU_succ {vals:List Int} {m:Int} {n:Nat}:payU vals m (n+1)=if 0<nthD vals n 0∧hasI m n=false then payU vals m n+2^n else payU vals m n:=by
 unfold payU
 rw[List.range_succ,List.foldl_append]
 rfl
theorem leastU_succ {vals:List Int} {m w:Int} {n:Nat}:leastU vals m w (n+1)=if hasI m n=true then leastU vals m w n - nthD vals n 0 else leastU vals m w n:=by
 unfold leastU
 rw[List.range_succ,List.foldl_append]
 rfl
theorem payU_bd {vals:List Int} {m:Int}:∀{n:Nat},0≤payU vals m n∧payU vals m n<2^n
 |0=>by simp[payU]
 |n+1=>by
  have:=@payU_bd vals m n
  rw[payU_succ,Int.pow_succ]
  split<;>omega
theorem pow8 {n:Nat} (h:n≤8):(2:Int)^n≤256∧1≤(2:Int)^n:=by
 have:n=0∨n=1∨n=2∨n=3∨n=4∨n=5∨n=6∨n=7∨n=8:=by omega
 rcases this with rfl|rfl|rfl|rfl|rfl|rfl|rfl|rfl|rfl<;>decide
theorem leastU_bd {vals:List Int} {m w:Int} (h:∀v∈vals,0≤v∧v≤1000000000000000):∀{n:Nat},n≤vals.length→w - 1000000000000000*n≤leastU vals m w n∧leastU vals m w n≤w
 |0,_=>by simp[leastU]
 |n+1,hn=>by
  have:=@leastU_bd vals m w h n (by omega)
  have hv:=h _ (nthD_mem (d:=0) (show n<vals.length by omega))
  rw[leastU_succ]
  split<;>omega
theorem setV_mem {p:Prob} {l:List Int} {i v:Int} (h:v∈setV p l i):v∈l∨v=(nthD p.offers i.toNat SId.off.dflt).value:=by
 unfold setV at h
 rcases List.mem_or_eq_of_mem_set h with h|h
 ·exact .inl h
 ·exact .inr h
theorem vals_ok {p:Prob} (hg:Good p):∀{c:List Int} {l:List Int},(∀i∈c,0≤i∧i<p.offers.length)→(∀v∈l,0≤v∧v≤1000000000000000)→∀v∈c.foldl (setV p) l,0≤v∧v≤1000000000000000
 |[],l,_,hl,v,hv=>hl v hv
 |i::c,l,hc,hl,v,hv=>by
  refine vals_ok hg (c:=c) (l:=setV p l i) (fun j hj=>hc j (List.mem_cons_of_mem _ hj)) (fun u hu=>?_) v hv
  rcases setV_mem hu with h|h
  ·exact hl u h
  ·have hi:=hc i (by simp)
   have:=hg.2.2.2.2 _ (nthD_mem (d:=SId.off.dflt) (show i.toNat<p.offers.length by omega))
   omega
theorem vals_good {p:Prob} {c:List Int} (h:feasE p c=0):(valsS p c).length=p.classes.length∧p.classes.length≤8∧∀v∈valsS p c,0≤v∧v≤1000000000000000:=by
 obtain⟨_,_,hg,hcl,hix⟩:=feas_ok h
 refine⟨vals_lenN,hg.1,?_⟩
 unfold valsS
 exact vals_ok hg hix fun v hv=>by
  have:=(List.mem_replicate.1 hv).2
  omega
def pU (V:List Int) (m:Int):Int:=payU V m V.length
def lU (V:List Int) (m w:Int):Int:=leastU V m w V.length
theorem or_pow {x:Int} {i:Nat} (x0:0≤x) (x1:x<2^i) (hi:i≤8):binK.orI .i64 x (1*2^i)=x+2^i:=by
 obtain⟨m,rfl⟩:=Int.eq_ofNat_of_zero_le x0
 have hp:=pow8 hi
 have hpn:((2^i:Nat):Int)=2^i:=by push_cast;rfl
 have h1:(BitVec.ofInt 64 ((m:Nat):Int)).toNat=m:=by rw[BitVec.toNat_ofInt];omega
 have h2:(BitVec.ofInt 64 (1*2^i)).toNat=2^i*1:=by rw[BitVec.toNat_ofInt];omega
 have h3:(BitVec.ofInt 64 ((m:Nat):Int) |||BitVec.ofInt 64 (1*2^i)).toNat=2^i+m:=by
  rw[BitVec.toNat_or,h1,h2,Nat.or_comm,←Nat.two_pow_add_eq_or_of_lt (by omega)]
  omega
 show wrapI .i64 ((BitVec.ofInt 64 ((m:Nat):Int) |||BitVec.ofInt 64 (1*2^i)).toNat:Nat)=_
 rw[h3,wrapI_eq]
 simp only[IntKind.wrap,IntKind.bits,IntKind.signed]
 simp
 omega
def paidQ (l:List Fra) (m:Int) (n:Nat):Rat:=(List.range n).foldl (fun(s:Rat) (j:Nat)=>if hasI m j=true then s+valF (nthD l j sF.dflt) else s) 0
theorem paidQ_succ {l:List Fra} {m:Int} {n:Nat}:paidQ l m (n+1)=if hasI m n=true then paidQ l m n+valF (nthD l n sF.dflt) else paidQ l m n:=by
 unfold paidQ
 rw[List.range_succ,List.foldl_append]
 rfl
theorem sz_zero:Sz 1 0:=by unfold Sz;decide
def gainQ (V:List Int) (l:List Fra) (m w:Int):Rat:=(lU V m w:Rat) - paidQ l (pU V m) l.length
def fCells (x:Fra):SObj:=.cells [.sb x.1,.row (.i .u32) x.2.1,.row (.i .u32) x.2.2] 47 3 false
def nilF:SObj:=.cells [.bl false,.sc (.slice none 0 0),.sc (.slice none 0 0)] 47 3 false
def Λ46 (a:Fra×Fra):Nat→LoopAnn
 |4=> .inv Int (fun x=>⟨[(2,.ptr 0 0 3),(3,.ptr 1 0 3),(5,.si .i64 x)],[fCells a.1,fCells a.2]⟩) (fun s=>iS s 5) (fun x=>(0≤x∧x≤a.1.2.1.length)∧∀j:Nat,(j:Int)<x→nthD a.1.2.1 j 0=nthD a.2.2.1 j 0) (fun x=>(a.1.2.1.length - x).toNat) fun _ _=> .look
 |9=> .inv Int (fun x=>⟨[(2,.ptr 0 0 3),(3,.ptr 1 0 3),(6,.si .i64 x)],[fCells a.1,fCells a.2]⟩) (fun s=>iS s 6) (fun x=>((0≤x∧x≤a.1.2.2.length)∧a.1.2.1=a.2.2.1)∧∀j:Nat,(j:Int)<x→nthD a.1.2.2 j 0=nthD a.2.2.2 j 0) (fun x=>(a.1.2.2.length - x).toNat) fun _ _=> .look
 |_=> .look
def r46:SCtr:=⟨15,Fra×Fra,.cons (codE sF) (.one (codE sF)),fun a=>(a.1.2.1.length≤1000000000∧a.1.2.2.length≤1000000000)∧a.2.2.1.length≤1000000000∧a.2.2.2.length≤1000000000,fun a=> .sb (decide (a.1=a.2))⟩
theorem h46:Holds Tryz.prog r46:=by
 refine con0 (L:=[]) r46 Λ46 (by simp) ?_
 rintro⟨⟨s,n,d⟩,⟨s',n',d'⟩⟩ ⟨⟨hn,hd⟩,hn',hd'⟩
 refine vcOf (let z0:=SV.sb (decide ((s,n,d)=(s',n',d')));let z1:=(↑n.length:Int);let z2:=decide (z1≠(↑n'.length:Int));let z3:=(↑d.length:Int);let z4:=decide (z3≠(↑d'.length:Int));let z5:=SV.ptr 0 0 3;let z6:=SV.ptr 1 0 3;let z7:=SId.i .u32;let z8:=SObj.cells [SV.sb s,SV.row z7 n,SV.row z7 d] 47 3 false;let z9:=SObj.cells [SV.sb s',SV.row z7 n',SV.row z7 d'] 47 3 false;let z10:=(↑n.length:Int);let z11:=(↑d.length:Int);((!s==s')=true→(SV.bl false).same z0)∧((!s==s')=false→(z2=true→(SV.bl false).same z0)∧(z2=false→(z4=true→(SV.bl false).same z0)∧(z4=false→(((z5.same z5∧z6.same z6∧(SV.il .i64 0).same (SV.si .i64 0)∧True)∧z8.same z8∧z9.same z9∧True)∧((0:Int)≤(0:Int)∧(0:Int)≤z10)∧∀(j:Nat),(↑j:Int)<(0:Int)→nthD n j (0:Int)=nthD n' j (0:Int))∧∀(x:Int),let z12:=decide (nthD n x.toNat (0:Int)≠nthD n' x.toNat (0:Int));let z13:=x+(1:Int);let z14:=SV.si .i64 z13;(((0:Int)≤x∧x≤z10)∧∀(j:Nat),(↑j:Int)<x→nthD n j (0:Int)=nthD n' j (0:Int))→(decide (x<z1)=true→(0:Int)≤x∧x<z1∧x.toNat<n.length∧(0:Int)≤x∧x<(↑n'.length:Int)∧x.toNat<n'.length∧(z12=true→(SV.bl false).same z0)∧(z12=false→inR .i64 z13∧((z5.same z5∧z6.same z6∧z14.same z14∧True)∧z8.same z8∧z9.same z9∧True)∧(((0:Int)≤z13∧z13≤z10)∧∀(j:Nat),(↑j:Int)<z13→nthD n j (0:Int)=nthD n' j (0:Int))∧(z10 - z13).toNat<(z10 - x).toNat))∧(decide (x<z1)=false→(((z5.same z5∧z6.same z6∧(SV.il .i64 0).same (SV.si .i64 0)∧True)∧z8.same z8∧z9.same z9∧True)∧(((0:Int)≤(0:Int)∧(0:Int)≤z11)∧n=n')∧∀(j:Nat),(↑j:Int)<(0:Int)→nthD d j (0:Int)=nthD d' j (0:Int))∧∀(x:Int),let z15:=decide (nthD d x.toNat (0:Int)≠nthD d' x.toNat (0:Int));let z16:=x+(1:Int);let z17:=SV.si .i64 z16;((((0:Int)≤x∧x≤z11)∧n=n')∧∀(j:Nat),(↑j:Int)<x→nthD d j (0:Int)=nthD d' j (0:Int))→(decide (x<z3)=true→(0:Int)≤x∧x<z3∧x.toNat<d.length∧(0:Int)≤x∧x<(↑d'.length:Int)∧x.toNat<d'.length∧(z15=true→(SV.bl false).same z0)∧(z15=false→inR .i64 z16∧((z5.same z5∧z6.same z6∧z17.same z17∧True)∧z8.same z8∧z9.same z9∧True)∧((((0:Int)≤z16∧z16≤z11)∧n=n')∧∀(j:Nat),(↑j:Int)<z16→nthD d j (0:Int)=nthD d' j (0:Int))∧(z11 - z16).toNat<(z11 - x).toNat))∧(decide (x<z3)=false→(SV.bl true).same z0)))))) (by kernel_rfl) ?_
 simp only[vcs]
 have hn:n.length≤1000000000:=hn
 have hd:d.length≤1000000000:=hd
 have hn':n'.length≤1000000000:=hn'
 have hd':d'.length≤1000000000:=hd'
 have ext:∀{a b:List Int},a.length=b.length→(∀j:Nat,(j:Int)<a.length→nthD a j 0=nthD b j 0)→a=b:=fun hl hj=>
  List.ext_getElem hl fun j h1 h2=>by
   have:=hj j (by omega)
   simpa[nthD,h1,h2] using this
 have nope:∀{b:Bool},¬((s,n,d)=(s',n',d'))→b=false→b=decide ((s,n,d)=(s',n',d')):=fun h hb=>by
  rw[hb,decide_eq_false h]
 refine⟨fun h1=>nope (fun h=>?_) rfl,fun h1=>⟨fun h2=>nope (fun h=>?_) rfl,fun h2=>⟨fun h3=>nope (fun h=>?_) rfl,fun h3=>⟨⟨⟨by omega,by omega⟩,fun j hj=>by omega⟩,?_⟩⟩⟩⟩
 ·injection h with h4 h5
  subst h4
  simp at h1
 ·injection h with h4 h5
  injection h5 with h5 h6
  subst h5
  omega
 ·injection h with h4 h5
  injection h5 with h5 h6
  subst h6
  omega
 rintro x ⟨⟨x0,x1⟩,hx⟩
 refine⟨fun hi=>⟨by omega,by omega,by omega,by omega,by omega,by omega,fun hne=>nope (fun h=>?_) rfl,fun he=>⟨by omega,⟨⟨by omega,by omega⟩,fun j hj=>?_⟩,by omega⟩⟩,fun hi=>?_⟩
 ·injection h with h4 h5
  injection h5 with h5 h6
  subst h5
  exact hne rfl
 ·by_cases hji:(j:Int)<x
  ·exact hx j hji
  ·have:j=x.toNat:=by omega
   subst this
   simpa using he
 ·have hnn:n=n':=ext (by omega) fun j hj=>hx j (by omega)
  refine⟨⟨⟨⟨by omega,by omega⟩,hnn⟩,fun j hj=>by omega⟩,?_⟩
  rintro y ⟨⟨⟨y0,y1⟩,_⟩,hy⟩
  refine⟨fun hi2=>⟨by omega,by omega,by omega,by omega,by omega,by omega,fun hne=>nope (fun h=>?_) rfl,fun he=>⟨by omega,⟨⟨⟨by omega,by omega⟩,hnn⟩,fun j hj=>?_⟩,by omega⟩⟩,fun hi2=>?_⟩
  ·injection h with h4 h5
   injection h5 with h5 h6
   subst h6
   exact hne rfl
  ·by_cases hji:(j:Int)<y
   ·exact hy j hji
   ·have:j=y.toNat:=by omega
    subst this
    simpa using he
  ·have hdd:d=d':=ext (by omega) fun j hj=>hy j (by omega)
   have hs:s=s':=by simpa using h1
   rw[hs,hnn,hdd]
   simp
def r128:SCtr:=⟨50,Int,.one (codI .u64),fun x=>0≤(show Int from x)∧(show Int from x)<18446744073709551616,fun x=> .row (.i .u32) (natL x)⟩
theorem h128:Holds Tryz.prog r128:=by
 refine con0 (L:=[r152]) r128 lk (by grind[h152]) ?_
 intro(x:Int) h
 obtain⟨b,a⟩:0≤x∧x<18446744073709551616:=h
 refine vcOf ((0:Int)≤(32:Int)∧(32:Int)≤(64:Int)∧2≤1000000000000∧(SV.row (SId.i .u32) (trimN [x % (4294967296:Int),x / (4294967296:Int) % (4294967296:Int)])).same (SV.row (SId.i .u32) (natL x))) (by kernel_rfl) ?_
 simp only[vcs]
 grind[Dig,trim_eq,valN]
def QD:List SCtr:=[r152,r132,r154,r167,r128,r168p]
theorem hQD:∀c∈QD,Holds Tryz.prog c:=by
 simp only[QD,List.forall_mem_cons,List.not_mem_nil,false_implies,implies_true,and_true]
 grind[h152,h132,h154,h167,h128,h168p]
def WD:List OCtr:=[r168,r169]
theorem hWD:∀c∈WD,HoldsO Tryz.prog c:=by
 simp_all[WD,h168,h169]
def r166g:SCtr:=⟨73,List Int×List Int,.cons (codR (.i .u32)) (.one (codR (.i .u32))),fun a=>(Dig a.1∧Dig a.2)∧(a.1.length≤10000000000∧a.2.length≤10000000000)∧0<valN a.2,
 fun a=> .tup [.row (.i .u32) (natL (valN a.1 / valN a.2)),.row (.i .u32) (natL (valN a.1 % valN a.2)),.si .i64 0]⟩
def dvS (a:List Int×List Int) (s:Int):Prop:=(0≤s∧s≤31)∧nthD (trimN a.2) ((trimN a.2).length - 1) 0*2^s.toNat<4294967296∧2147483648≤nthD (trimN a.2) ((trimN a.2).length - 1) 0*2^s.toNat
def Λ166 (a:List Int×List Int):Nat→LoopAnn
 |10=> .inv Int (fun s=>⟨[(0,.row (.i .u32) (trimN a.1)),(1,.row (.i .u32) (trimN a.2)),(9,.si .u64 s)],[]⟩) (fun s=>iS s 9)
  (fun s=>(0≤s∧s≤31)∧nthD (trimN a.2) ((trimN a.2).length - 1) 0*2^s.toNat<4294967296) (fun s=>(32 - s).toNat) fun _ _=> .look
 |17=> .inv (Int×Int×List Int×List Int) (fun x=>⟨[(4,.ow 1 x.2.2.2.length 1),(9,.si .u64 x.2.1),(10,.ow 0 x.2.2.1.length 1),(11,.row (.i .u32) (trimN (shl (trimN a.2) x.2.1.toNat))),(12,.si .i64 (trimN (shl (trimN a.2) x.2.1.toNat)).length),
   (13,.si .i64 ((trimN a.1).length - (trimN a.2).length)),(74,.si .i64 ((trimN a.1).length - (trimN a.2).length+1)),(75,.si .i64 x.1)],[.row (.i .u32) x.2.2.1 90 false,.row (.i .u32) x.2.2.2 90 true]⟩)
  (fun s=>(iS s 75,iS s 9,oS (.i .u32) s 0,oS (.i .u32) s 1))
  (fun x=>(0≤x.1∧x.1≤(trimN a.1).length - (trimN a.2).length+1)∧dvS a x.2.1∧(Dig x.2.2.1∧x.2.2.1.length=(trimN a.1).length+1)∧(Dig x.2.2.2∧x.2.2.2.length=(trimN a.1).length - (trimN a.2).length+1)∧
   (∀j:Nat,(j:Int)<(trimN a.1).length - (trimN a.2).length+1 - x.1→nthD x.2.2.2 j 0=0)∧
   valN x.2.2.1+valN (trimN (shl (trimN a.2) x.2.1.toNat))*valN x.2.2.2=valN (trimN a.1)*2^x.2.1.toNat∧
   valN (x.2.2.1.drop (((trimN a.1).length - (trimN a.2).length+1 - x.1:Int).toNat))<valN (trimN (shl (trimN a.2) x.2.1.toNat)))
  (fun x=>((trimN a.1).length - (trimN a.2).length+1 - x.1:Int).toNat) fun _ _=> .look
 |24=> .inv (Int×Int×List Int×List Int×List Int) (fun x=>⟨[(4,.ow 1 x.2.2.2.1.length 1),(5,.ow 2 x.2.2.2.2.length 1),(9,.si .u64 x.2.1),(10,.ow 0 x.2.2.1.length 1),(100,.si .i64 (trimN (shl (trimN a.2) x.2.1.toNat)).length),(101,.si .i64 x.1)],
   [.row (.i .u32) x.2.2.1 90 false,.row (.i .u32) x.2.2.2.1 90 true,.row (.i .u32) x.2.2.2.2 90 true]⟩)
  (fun s=>(iS s 101,iS s 9,oS (.i .u32) s 0,oS (.i .u32) s 1,oS (.i .u32) s 2))
  (fun x=>(0≤x.1∧x.1≤(trimN (shl (trimN a.2) x.2.1.toNat)).length)∧dvS a x.2.1∧(Dig x.2.2.1∧x.2.2.1.length=(trimN a.1).length+1)∧(Dig x.2.2.2.1∧x.2.2.2.1.length=(trimN a.1).length - (trimN a.2).length+1)∧
   valN x.2.2.1+valN (trimN (shl (trimN a.2) x.2.1.toNat))*valN x.2.2.2.1=valN (trimN a.1)*2^x.2.1.toNat∧valN x.2.2.1<valN (trimN (shl (trimN a.2) x.2.1.toNat))∧
   (Dig x.2.2.2.2∧x.2.2.2.2.length=(trimN (shl (trimN a.2) x.2.1.toNat)).length)∧(∀j,x.1.toNat≤j→nthD x.2.2.2.2 j 0=0)∧
   2^x.2.1.toNat*valN x.2.2.2.2=valN (x.2.2.1.take x.1.toNat) - nthD x.2.2.1 0 0 % 2^x.2.1.toNat+4294967296^x.1.toNat*(nthD x.2.2.1 x.1.toNat 0 % 2^x.2.1.toNat))
  (fun x=>((trimN (shl (trimN a.2) x.2.1.toNat)).length - x.1).toNat) fun _ _=> .look
 |_=> .look
theorem h166g:Holds Tryz.prog r166g:=by
 refine con (L:=QD) (W:=ownT WD) r166g Λ166 (ownT_ok hWD) hQD ?_
 rintro⟨a,b⟩ ⟨⟨ha,hb⟩,⟨hla,hlb⟩,b0⟩
 simp only at ha hb hla hlb b0
 refine vcOf (let z0:Nat:=(trimN b).length;let z1:=(↑z0:Int);let z2:=decide (z1=(0:Int));let z3:=SV.row (SId.i .i64) [];let z4:=SId.i .u32;let z5:=SV.si .i64 0;let z6:=SV.tup [SV.row z4 (natL (valN a / valN b)),SV.row z4 (natL (valN a % valN b)),z5];let z7:Nat:=(trimN a).length;let z8:Nat:=(trimN b).length;let z9:=valN (trimN a);let z10:=decide (cmpN z9 (valN (trimN b))<(0:Int));let z11:=SV.il .i64 0;let z12:=decide (z1=(1:Int));let z13:=nthD (trimN b) 0 (0:Int);let z14:=z9 % z13 % (18446744073709551616:Int);let z15:=nthD (trimN b) (z8 - 1) (0:Int);let z16:=z1 - (1:Int);let z17:=(↑(trimN a).length:Int) - z1;let z18:=z17+(1:Int);let z19:=List.replicate z18.toNat (0:Int);let z20:=(↑z7:Int) - (↑z8:Int);let z21:=SV.si .i64 z20;let z22:=z20+(1:Int);let z23:=SV.si .i64 z22;let z24:=SObj.row z4 z19 90 true;let z25:=z7+1;let z26:=z7 - z8+1;a.length≤1000000000000∧b.length≤1000000000000∧(z2=true→(SV.tup [z3,z3,SV.il .i64 8]).same z6)∧(z2=false→((Dig (trimN a)∧Dig (trimN b))∧z7≤1000000000000∧z8≤1000000000000)∧(z10=true→((Dig (trimN a)∧Dig [])∧z7≤100000000000∧0≤100000000000)∧(SV.tup [z3,SV.row z4 (natL (z9+valN [])),z11]).same z6)∧(z10=false→(z12=true→(0:Int)≤(0:Int)∧(0:Int)<z1∧0<z0∧(Dig (trimN a)∧z7≤100000000000∧(0:Int)<z13∧z13<(4294967296:Int))∧((0:Int)≤z14∧z14<(18446744073709551616:Int))∧(SV.tup [SV.row z4 (natL (z9 / z13)),SV.row z4 (natL z14),z11]).same z6)∧(z12=false→((((SV.row z4 (trimN a)).same (SV.row z4 (trimN a))∧(SV.row z4 (trimN b)).same (SV.row z4 (trimN b))∧(SV.il .u64 0).same (SV.si .u64 0)∧True)∧True)∧((0:Int)≤(0:Int)∧(0:Int)≤(31:Int))∧z15*(1:Int)<(4294967296:Int))∧∀(x:Int),let z27:=(2:Int)^x.toNat;let z28:=decide (nthD (trimN b) z16.toNat (0:Int)*z27 % (4294967296:Int)<(2147483648:Int));let z29:=(x+(1:Int)) % (18446744073709551616:Int);let z30:=SV.si .u64 z29;let z31:=shl (trimN b) x.toNat;let z32:=shl (trimN a) x.toNat;let z33:=SV.ow 0 z32.length 1;let z34:=trimN z31;let z35:=SObj.row z4 z32 90 false;((0:Int)≤x∧x≤(31:Int))∧z15*z27<(4294967296:Int)→inR .i64 z16∧(0:Int)≤z16∧z16<z1∧z16.toNat<z0∧(0:Int)≤x∧x≤(32:Int)∧(z28=true→(((SV.row z4 (trimN a)).same (SV.row z4 (trimN a))∧(SV.row z4 (trimN b)).same (SV.row z4 (trimN b))∧z30.same z30∧True)∧True)∧(((0:Int)≤z29∧z29≤(31:Int))∧z15*(2:Int)^z29.toNat<(4294967296:Int))∧((32:Int) - z29).toNat<((32:Int) - x).toNat)∧(z28=false→shD (trimN a,x)∧shD (trimN b,x)∧z31.length≤1000000000000∧inR .i64 z17∧inR .i64 z18∧(0:Int)≤z18∧z18≤z18∧z18*(4:Int)≤(140737488355328:Int)∧z18≤(1000000000000:Int)∧inR .i64 z18∧((((SV.ow 1 z18.toNat 1).same (SV.ow 1 z19.length 1)∧(SV.si .u64 x).same (SV.si .u64 x)∧z33.same z33∧(SV.row z4 z34).same (SV.row z4 z34)∧(SV.si .i64 (↑z34.length:Int)).same (SV.si .i64 (↑z34.length:Int))∧(SV.si .i64 z17).same z21∧(SV.si .i64 z18).same z23∧z11.same z5∧True)∧z35.same z35∧z24.same z24∧True)∧((0:Int)≤(0:Int)∧(0:Int)≤z22)∧dvS (a,b) x∧(Dig z32∧z32.length=z25)∧(Dig z19∧z19.length=z26)∧(∀(j:Nat),(↑j:Int)<z22 - (0:Int)→nthD z19 j (0:Int)=(0:Int))∧valN z32+valN z34*valN z19=z9*z27∧valN (List.drop (z22 - (0:Int)).toNat z32)<valN z34)∧∀(x:Int×Int×List Int×List Int),let z36:=x.snd.snd.fst;let z37:=z36.length;let z38:=x.snd.snd.snd;let z39:=trimN (shl (trimN b) x.snd.fst.toNat);let z40:=valN z39;let z41:=(2:Int)^x.snd.fst.toNat;let z42:=decide (x.fst<z22);let z43:=z20 - x.fst;let z44:=(↑z39.length:Int);let z45:=z43+z44+(1:Int);let z46:=z43.toNat;let z47:=z45.toNat;let z48:=DgA.mk z36 z46 (z47 - z46) z37 z39;let z49:=x.fst+(1:Int);let z50:=SV.ow 1 z38.length 1;let z51:=z38.set z46 (z48.x / z40);let z52:=SV.si .u64 x.snd.fst;let z53:=SV.ow 0 z37 1;let z54:=SV.si .i64 z44;let z55:=SV.si .i64 z49;let z56:=SObj.row z4 z48.row 90 false;let z57:=SObj.row z4 z51 90 true;let z58:=List.replicate z44.toNat (0:Int);let z59:=SObj.row z4 z36 90 false;let z60:=SObj.row z4 z38 90 true;let z61:=SObj.row z4 z58 90 true;let z62:=nthD z36 0 (0:Int) % z41;((0:Int)≤x.fst∧x.fst≤z22)∧dvS (a,b) x.snd.fst∧(Dig z36∧z37=z25)∧(Dig z38∧z38.length=z26)∧(∀(j:Nat),(↑j:Int)<z22 - x.fst→nthD z38 j (0:Int)=(0:Int))∧valN z36+z40*valN z38=z9*z41∧valN (List.drop (z22 - x.fst).toNat z36)<z40→(z42=true→inR .i64 z43∧inR .i64 (z43+z44)∧inR .i64 z45∧inR .i64 (z43+z44)∧inR .i64 z45∧z37=z36.length∧(0:Int)≤z43∧(0:Int)≤z45∧(0:Int)≤z45∧z46≤z47∧z47≤z47∧z47≤z37∧z48.ok∧z38.length=z38.length∧(0:Int)≤z43∧z43<(↑z38.length:Int)∧z38.length=z38.length∧z46<z38.length∧inR .i64 z49∧((z50.same (SV.ow 1 z51.length 1)∧z52.same z52∧z53.same (SV.ow 0 z48.row.length 1)∧(SV.row z4 z39).same (SV.row z4 z39)∧z54.same z54∧z21.same z21∧z23.same z23∧z55.same z55∧True)∧z56.same z56∧z57.same z57∧True)∧(((0:Int)≤z49∧z49≤z22)∧dvS (a,b) x.snd.fst∧(Dig z48.row∧z48.row.length=z25)∧(Dig z51∧z51.length=z26)∧(∀(j:Nat),(↑j:Int)<z22 - z49→nthD z51 j (0:Int)=(0:Int))∧valN z48.row+z40*valN z51=z9*z41∧valN (List.drop (z22 - z49).toNat z48.row)<z40)∧(z22 - z49).toNat<(z22 - x.fst).toNat)∧(z42=false→(0:Int)≤z44∧z44≤z44∧z44*(4:Int)≤(140737488355328:Int)∧z44≤(1000000000000:Int)∧(((z50.same z50∧(SV.ow 2 z44.toNat 1).same (SV.ow 2 z58.length 1)∧z52.same z52∧z53.same z53∧z54.same z54∧z11.same z5∧True)∧z59.same z59∧z60.same z60∧z61.same z61∧True)∧((0:Int)≤(0:Int)∧(0:Int)≤z44)∧dvS (a,b) x.snd.fst∧(Dig z36∧z37=z25)∧(Dig z38∧z38.length=z26)∧valN z36+z40*valN z38=z9*z41∧valN z36<z40∧(Dig z58∧z58.length=z39.length)∧(∀(j:Nat),0≤j→nthD z58 j (0:Int)=(0:Int))∧z41*valN z58=valN [] - z62+(1:Int)*z62)∧∀(x:Int×Int×List Int×List Int×List Int),let z63:=trimN (shl (trimN b) x.snd.fst.toNat);let z64:=z63.length;let z65:=(↑z64:Int);let z66:=x.snd.snd.fst;let z67:=x.snd.snd.snd.fst;let z68:=z67.length;let z69:=(2:Int)^x.snd.fst.toNat;let z70:=x.snd.snd.snd.snd;let z71:=z70.length;let z72:=x.fst.toNat;let z73:=nthD z66 0 (0:Int) % z69;let z74:=nthD z66 z72 (0:Int);let z75:=decide (x.fst<z65);let z76:=z66.length;let z77:=decide ((0:Int)<x.snd.fst);let z78:=z70.set z72 (z74 / z69);let z79:=x.fst+(1:Int);let z80:=z79.toNat;let z81:=((32:Int) - x.snd.fst) % (18446744073709551616:Int);let z82:=SV.ow 1 z68 1;let z83:=SV.ow 2 z71 1;let z84:=nthD z66 z80 (0:Int);let z85:=z78.set z72 (binK.orI .u32 (nthD z78 z72 (0:Int)) (z84*(2:Int)^z81.toNat % (4294967296:Int)));let z86:=SV.si .u64 x.snd.fst;let z87:=SV.ow 0 z66.length 1;let z88:=SV.si .i64 z65;let z89:=SV.si .i64 z79;let z90:=SObj.row z4 z66 90 false;let z91:=SObj.row z4 z67 90 true;let z92:=SObj.row z4 z85 90 true;let z93:=valN (List.take z80 z66) - z73+(4294967296:Int)^z80*(z84 % z69);let z94:=SObj.row z4 z78 90 true;((0:Int)≤x.fst∧x.fst≤z65)∧dvS (a,b) x.snd.fst∧(Dig z66∧z66.length=z25)∧(Dig z67∧z68=z26)∧valN z66+valN z63*valN z67=z9*z69∧valN z66<valN z63∧(Dig z70∧z71=z64)∧(∀(j:Nat),z72≤j→nthD z70 j (0:Int)=(0:Int))∧z69*valN z70=valN (List.take z72 z66) - z73+(4294967296:Int)^z72*(z74 % z69)→(z75=true→z66.length=z76∧(0:Int)≤x.fst∧x.fst<(↑z76:Int)∧z66.length=z76∧z72<z76∧(0:Int)≤x.snd.fst∧x.snd.fst≤(32:Int)∧z71=z70.length∧(0:Int)≤x.fst∧x.fst<(↑z70.length:Int)∧z71=z70.length∧z72<z70.length∧(z77=true→z71=z78.length∧(0:Int)≤x.fst∧x.fst<(↑z78.length:Int)∧z71=z78.length∧z72<z78.length∧inR .i64 z79∧z66.length=z76∧(0:Int)≤z79∧z79<(↑z76:Int)∧z66.length=z76∧z80<z76∧(0:Int)≤z81∧z81≤(32:Int)∧z71=z78.length∧(0:Int)≤x.fst∧x.fst<(↑z78.length:Int)∧z71=z78.length∧z72<z78.length∧inR .i64 z79∧((z82.same z82∧z83.same (SV.ow 2 z85.length 1)∧z86.same z86∧z87.same z87∧z88.same z88∧z89.same z89∧True)∧z90.same z90∧z91.same z91∧z92.same z92∧True)∧(((0:Int)≤z79∧z79≤z65)∧dvS (a,b) x.snd.fst∧(Dig z66∧z66.length=z25)∧(Dig z67∧z68=z26)∧valN z66+valN z63*valN z67=z9*z69∧valN z66<valN z63∧(Dig z85∧z85.length=z64)∧(∀(j:Nat),z80≤j→nthD z85 j (0:Int)=(0:Int))∧z69*valN z85=z93)∧(z65 - z79).toNat<(z65 - x.fst).toNat)∧(z77=false→inR .i64 z79∧((z82.same z82∧z83.same (SV.ow 2 z78.length 1)∧z86.same z86∧z87.same z87∧z88.same z88∧z89.same z89∧True)∧z90.same z90∧z91.same z91∧z94.same z94∧True)∧(((0:Int)≤z79∧z79≤z65)∧dvS (a,b) x.snd.fst∧(Dig z66∧z66.length=z25)∧(Dig z67∧z68=z26)∧valN z66+valN z63*valN z67=z9*z69∧valN z66<valN z63∧(Dig z78∧z78.length=z64)∧(∀(j:Nat),z80≤j→nthD z78 j (0:Int)=(0:Int))∧z69*valN z78=z93)∧(z65 - z79).toNat<(z65 - x.fst).toNat))∧(z75=false→z68=z67.length∧z71=z70.length∧z68≤1000000000000∧z71≤1000000000000∧(SV.tup [SV.row z4 (trimN z67),SV.row z4 (trimN z70),z11]).same z6))))))) (by kernel_rfl) ?_
 simp only[vcs]
 obtain⟨va,na⟩:=@trim_val a
 obtain⟨vb,nb⟩:=@trim_val b
 have da:=trim_dig ha
 have db:=trim_dig hb
 have la:=@trim_len a
 have lb:=@trim_len b
 have p0:=val_nonneg da
 have d0:Dig []:=by simp[Dig]
 simp only[dvS]
 rw[←va,←vb]
 rw[←vb] at b0
 generalize trimN a=S at*
 generalize trimN b=T at*
 have hm:=Int.emod_nonneg (valN S) (show valN T≠0 by omega)
 have hl:=Int.emod_lt_of_pos (valN S) b0
 have hT1:T.length≠0:=by
  intro h
  rw[List.eq_nil_of_length_eq_zero h] at b0
  exact absurd b0 (by decide)
 refine⟨by omega,by omega,fun h0=>by omega,fun h0=>⟨⟨⟨da,db⟩,by omega,by omega⟩,fun hlt=>⟨⟨⟨da,d0⟩,by omega,by omega⟩,?_⟩,fun hge=>⟨fun h1=>?_,fun h1=>⟨?_,?_⟩⟩⟩⟩
 ·have hab:valN S<valN T:=by unfold cmpN at hlt;split at hlt<;>(try split at hlt)<;>omega
  have hdv:valN S / valN T=0:=Int.ediv_eq_zero_of_lt p0 hab
  have hmv:valN S % valN T=valN S:=Int.emod_eq_of_lt p0 hab
  refine⟨nilN (by rw[hdv];rfl),?_⟩
  rw[hmv]
  simp[valN]
 ·obtain⟨d,rfl⟩:∃d,T=[d]:=List.length_eq_one_iff.1 (by omega)
  have hd:=(dig_cons.1 db).1
  have hnth:nthD [d] 0 0=d:=rfl
  have hv:valN [d]=d:=by simp[valN]
  rw[hv] at b0 hm hl ⊢
  rw[hnth]
  have hmm:valN S % d % 18446744073709551616=valN S % d:=by omega
  rw[hmm]
  repeat' refine And.intro ?_ ?_
  all_goals first|omega|exact da|rfl|(simp;done)
 ·have:=dig_nth db (T.length - 1)
  repeat' refine And.intro ?_ ?_
  all_goals omega
 have hge2:valN T≤valN S:=by unfold cmpN at hge;split at hge<;>(try split at hge)<;>omega
 have hlen:T.length≤S.length:=by
  by_cases h:S.length<T.length
  ·have:=len_lt da db nb h
   omega
  ·omega
 have hTn:2≤T.length:=by omega
 clear hge h0 h1 hT1 va vb d0
 rintro s ⟨⟨s0,s1⟩,hs⟩
 have t1:((T.length:Int) - 1).toNat=T.length - 1:=by omega
 have hxt:=dig_nth db (T.length - 1)
 have hps:(0:Int)<2^s.toNat:=Int.pow_pos (by decide)
 have hnn:0≤nthD T (T.length - 1) 0*2^s.toNat:=Int.mul_nonneg hxt.1 (Int.le_of_lt hps)
 have hmod:nthD T (T.length - 1) 0*2^s.toNat % 4294967296=nthD T (T.length - 1) 0*2^s.toNat:=by omega
 rw[t1,hmod]
 repeat refine And.intro (by omega) ?_
 refine⟨fun hc=>?_,fun hc=>?_⟩
 ·have htop:1≤nthD T (T.length - 1) 0:=by
   by_cases h:1≤nthD T (T.length - 1) 0
   ·exact h
   ·exfalso
    have h4:=nrm_ge db nb (by rintro rfl;simp at hTn)
    have h5:valN T=valN (T.take (T.length - 1))+4294967296^(T.length - 1)*nthD T (T.length - 1) 0:=by
     have:=@take_snoc0 T (T.length - 1)
     rwa [show T.length - 1+1=T.length by omega,List.take_length] at this
    have h6:=val_bdN (dig_take db (T.length - 1))
    rw[List.length_take,Nat.min_eq_left (by omega)] at h6
    rw[show nthD T (T.length - 1) 0=0 by omega,Int.mul_zero] at h5
    omega
  have h31:s≤30:=by
   by_cases h:s≤30
   ·exact h
   ·have hs31:s.toNat=31:=by omega
    rw[hs31,show(2:Int)^31=2147483648 from rfl] at hc
    omega
  have e:((s+1) % 18446744073709551616)=s+1:=by omega
  have e2:(s+1).toNat=s.toNat+1:=by omega
  rw[e,e2,Int.pow_succ,←Int.mul_assoc]
  repeat' refine And.intro ?_ ?_
  all_goals omega
 ·obtain⟨dw,lw,vw,tw,ttop⟩:=sh_trim db (by omega) (show s.toNat≤31 by omega) hs (by omega)
  obtain⟨ds,ls,vs,hst⟩:=dv_start da db (show s.toNat≤31 by omega) hlen (by omega) ttop
  have hds:∀z,shD (z,s)↔(Dig z∧z.length≤100000000000):=fun z=>⟨fun h=>⟨h.1,h.2.1⟩,fun h=>⟨h.1,h.2,s0,s1⟩⟩
  have lst:(shl T s.toNat).length=T.length+1:=digK_len
  have bits:(0≤s∧s≤31)∧nthD T (T.length - 1) 0*2^s.toNat<4294967296∧2147483648≤nthD T (T.length - 1) 0*2^s.toNat:=⟨⟨s0,s1⟩,hs,by omega⟩
  rw[hds,hds,lst,ls]
  refine⟨⟨da,by omega⟩,⟨db,by omega⟩,?_⟩
  repeat refine And.intro (by omega) ?_
  refine⟨?_,?_⟩
  ·repeat' refine And.intro ?_ ?_
   all_goals first|omega|exact howN (by simp)|exact howN (by omega)|exact ds|exact rep_dig|exact fun j _=>rep_nth|(simp;omega)|(rw[rep_val,Int.mul_zero,Int.add_zero];exact vs)|(rw[vw,show((S.length:Int) - T.length+1 - 0).toNat=S.length - T.length+1 by omega];exact hst)
  clear hst vs ls ds bits hds hmod hnn hps hxt ttop tw vw lw dw lst t1 hc hs s0 s1
  clear s
  rintro⟨i,s,U,q⟩ ⟨⟨i0,i1⟩,⟨⟨s0,s1⟩,hs,hs2⟩,⟨hU,hUl⟩,⟨hq,hql⟩,hz,he,hlt⟩
  simp only at i0 i1 s0 s1 hs hs2 hU hUl hq hql hz he hlt ⊢
  obtain⟨dw,lw,vw,tw,ttop⟩:=sh_trim db (by omega) (show s.toNat≤31 by omega) hs (by omega)
  generalize hw:trimN (shl T s.toNat)=w at*
  have hw0:0<valN w:=by
   rw[vw]
   exact Int.mul_pos b0 (Int.pow_pos (by decide))
  refine⟨fun ilt=>?_,fun ige=>?_⟩
  ·obtain⟨j,hj⟩:∃j:Nat,(S.length:Int) - T.length - i=j:=⟨((S.length:Int) - T.length - i).toNat,by omega⟩
   have e1:((j:Int)+w.length+1).toNat - j=w.length+1:=by omega
   have e2:((S.length:Int) - T.length+1 - i).toNat=j+1:=by omega
   rw[e2] at hlt
   obtain⟨k1,⟨k2,k3⟩,⟨k4,k5⟩,k6,k7⟩:=dv_step (j:=j) (m:=S.length - T.length) hU dw hq (by omega) (by omega) (by omega) (by omega) hw0 (hz j (by omega)) he hlt
   have e3:((S.length:Int) - T.length+1 - (i+1)).toNat=j:=by omega
   simp only[hj,e1,e3,Int.toNat_natCast,DgA.row,DgA.x,DgA.ok]
   repeat' refine And.intro ?_ ?_
   all_goals first|omega|exact howN (by simp)|exact howN k3.symm|exact trivial|exact hU|exact dw|exact k1|exact k2|exact k6|exact k7|exact dig_set hq k4 k5|(simp;omega)|(rw[lw];exact tw)|exact fun p hp=>by rw[nth_set_ne (by omega)];exact hz p (by omega)
  ·have e2:((S.length:Int) - T.length+1 - i).toNat=0:=by omega
   rw[e2,List.drop_zero] at hlt
   repeat refine And.intro (by omega) ?_
   refine⟨?_,?_⟩
   ·have h1:=@take_snoc0 U 0
    simp only[List.take_zero,valN,Int.pow_zero,Int.one_mul]
    repeat' refine And.intro ?_ ?_
    all_goals first|omega|exact howN (by simp)|exact hU|exact hq|exact he|exact hlt|exact rep_dig|exact fun j _=>rep_nth|(simp;done)|(rw[rep_val];omega)
   clear hlt hz e2 ige i0 i1 tw ttop hw0 hs hs2 s0 s1 he hU hUl hq hql
   clear hw dw lw vw
   clear w s i U q
   rintro⟨i,s,U,q,r⟩ ⟨⟨i0,i1⟩,⟨⟨s0,s1⟩,hs,hs2⟩,⟨hU,hUl⟩,⟨hq,hql⟩,he,hlt,⟨hr,hrl⟩,hz,hv⟩
   simp only at i0 i1 s0 s1 hs hs2 hU hUl hq hql he hlt hr hrl hz hv ⊢
   obtain⟨dw,lw,vw,tw,ttop⟩:=sh_trim db (by omega) (show s.toNat≤31 by omega) hs (by omega)
   generalize hw:trimN (shl T s.toNat)=w at*
   refine⟨fun ilt=>?_,fun ige=>?_⟩
   ·have x0:=dig_nth hU i.toNat
    have x1:=dig_nth hU (i.toNat+1)
    have e1:(i+1).toNat=i.toNat+1:=by omega
    have x2:=dig_nth hr i.toNat
    have hps:(0:Int)<2^s.toNat:=Int.pow_pos (by decide)
    have y0:0≤nthD U i.toNat 0 / 2^s.toNat:=Int.ediv_nonneg x0.1 (Int.le_of_lt hps)
    have y1:nthD U i.toNat 0 / 2^s.toNat≤nthD U i.toNat 0:=Int.ediv_le_self _ x0.1
    have e2:((32 - s) % 18446744073709551616).toNat=32 - s.toNat:=by omega
    have e3:(r.set i.toNat (nthD U i.toNat 0 / 2^s.toNat)).set i.toNat=r.set i.toNat:=by funext z;rw[List.set_set]
    simp only[e1,e2,e3,nth_set_self (show i.toNat<r.length by omega),List.length_set]
    repeat refine And.intro (by omega) ?_
    refine⟨fun hs0=>?_,fun hs0=>?_⟩
    ·obtain⟨d,hd1,hd2,hd3⟩:=rs_digit (s:=s.toNat) x0.1 x0.2 x1.1 x1.2 (by omega) (by omega)
     obtain⟨k1,k2,k3,k4⟩:=rs_step hU hr (show i.toNat<r.length by omega) hz hd2 hd3 hv
     rw[hd1]
     repeat' refine And.intro ?_ ?_
     all_goals first|omega|exact howN (by simp)|exact hU|exact hq|exact k1|exact k3|exact k4|exact he|exact hlt|trivial
    ·have hs00:s.toNat=0:=by omega
     obtain⟨k1,k2,k3,k4⟩:=rs_step (s:=s.toNat) (d:=nthD U i.toNat 0 / 2^s.toNat) hU hr (show i.toNat<r.length by omega) hz ⟨y0,by omega⟩ (by rw[hs00];simp) hv
     repeat' refine And.intro ?_ ?_
     all_goals first|omega|exact howN (by simp)|exact hU|exact hq|exact k1|exact k3|exact k4|exact he|exact hlt|trivial
   ·have hi:i.toNat=w.length:=by omega
    rw[hi] at hv
    obtain⟨w1,w2⟩:=rs_fin hU hr dw rfl hlt vw b0 he (show s.toNat≤31 by omega) (by omega) hv
    rw[trim_eq hq,trim_eq hr,w1,w2]
    repeat' refine And.intro ?_ ?_
    all_goals first|omega|rfl|trivial
theorem len_of {a b:List Int} (d:Dig a) (c:Dig b) (f:Nrm a) (h:valN a≤valN b):a.length≤b.length:=by
 by_cases e:a.length≤b.length
 ·exact e
 ·have:=len_lt c d f (by omega)
  omega
def r165g:SCtr:=⟨49,List Int×List Int,.cons (codR (.i .u32)) (.one (codR (.i .u32))),fun a=>(Dig a.1∧Dig a.2)∧(a.1.length≤1000000000∧a.2.length≤1000000000),
 fun a=> .row (.i .u32) (natL (gcdN (valN a.1) (valN a.2)))⟩
def Λ165g (a:List Int×List Int):Nat→LoopAnn
 |2=> .inv (List Int×List Int) (fun x=>⟨[(0,.row (.i .u32) x.1),(1,.row (.i .u32) x.2)],[]⟩) (fun s=>(rS (.i .u32) s 0,rS (.i .u32) s 1))
  (fun x=>(Dig x.1∧Dig x.2)∧(Nrm x.1∧Nrm x.2)∧(x.1.length≤1000000000∧x.2.length≤1000000000)∧gcdN (valN x.1) (valN x.2)=gcdN (valN a.1) (valN a.2)) (fun x=>(valN x.2).toNat) fun _ _=> .look
 |_=> .look
theorem h165g:Holds Tryz.prog r165g:=by
 refine con0 (L:=[r154,r166g]) r165g Λ165g (by grind[h154,h166g]) ?_
 rintro⟨a,b⟩ ⟨⟨l,k⟩,⟨n,m⟩⟩
 simp only at l k n m
 refine vcOf (let c:=SId.i .u32;let f:=natL (valN a+valN []);let e:=natL (valN b+valN []);let g:=gcdN (valN a) (valN b);((Dig a∧Dig [])∧a.length≤100000000000∧0≤100000000000)∧((Dig b∧Dig [])∧b.length≤100000000000∧0≤100000000000)∧((((SV.row c f).same (SV.row c f)∧(SV.row c e).same (SV.row c e)∧True)∧True)∧(Dig f∧Dig e)∧(Nrm f∧Nrm e)∧(f.length≤1000000000∧e.length≤1000000000)∧gcdN (valN f) (valN e)=g)∧∀(x:List Int×List Int),let v:=decide ((0:Int)<(↑x.snd.length:Int));let d:=natL (valN x.fst % valN x.snd);(Dig x.fst∧Dig x.snd)∧(Nrm x.fst∧Nrm x.snd)∧(x.fst.length≤1000000000∧x.snd.length≤1000000000)∧gcdN (valN x.fst) (valN x.snd)=g→(v=true→((Dig x.fst∧Dig x.snd)∧(x.fst.length≤10000000000∧x.snd.length≤10000000000)∧(0:Int)<valN x.snd)∧(false=true→(SV.row c x.fst).same (SV.row c (natL g)))∧(false=false→(((SV.row c x.snd).same (SV.row c x.snd)∧(SV.row c d).same (SV.row c d)∧True)∧True)∧((Dig x.snd∧Dig d)∧(Nrm x.snd∧Nrm d)∧(x.snd.length≤1000000000∧d.length≤1000000000)∧gcdN (valN x.snd) (valN d)=g)∧(valN d).toNat<(valN x.snd).toNat))∧(v=false→(SV.row c x.fst).same (SV.row c (natL g)))) (by kernel_rfl) ?_
 simp only[vcs]
 have r:Dig []:=by simp[Dig]
 have N:=val_nonneg l
 have E:=val_nonneg k
 have z:valN []=0:=rfl
 rw[z,Int.add_zero,Int.add_zero]
 obtain⟨Q,y,D⟩:=natL_ok N
 obtain⟨o,w,H⟩:=natL_ok E
 have p:(natL (valN a)).length≤1000000000:=by
  rw[←trim_eq l]
  grind[trim_len]
 have j:(natL (valN b)).length≤1000000000:=by
  rw[←trim_eq k]
  grind[trim_len]
 refine⟨⟨⟨l,r⟩,by omega,by omega⟩,⟨⟨k,r⟩,by omega,by omega⟩,⟨⟨y,w⟩,⟨D,H⟩,⟨p,j⟩,by rw[Q,o]⟩,?_⟩
 rintro⟨s,t⟩ ⟨⟨u,q⟩,⟨J,C⟩,⟨O,G⟩,F⟩
 simp only at u q J C G O F ⊢
 have T:=val_nonneg u
 have U:=val_nonneg q
 refine⟨fun B=>?_,fun B=>?_⟩
 ·have h:0<valN t:=by
   grind[val_zero]
  have K:=Int.emod_nonneg (valN s) (show valN t≠0 by omega)
  have A:=Int.emod_lt_of_pos (valN s) h
  obtain⟨I,M,S⟩:=natL_ok K
  have P:=len_of M q S (by rw[I];omega)
  grind[gcdN_step]
 ·have R:t=[]:=List.eq_nil_of_length_eq_zero (by omega)
  grind[gcdN_zero,natL_val]
def frS (q:Rat):SV:=.agg (encS sF (frE q))
def isF (x:Fra):Prop:=∃q k,x=frE q∧Sz k q∧k≤100000000
def mkF (s:Bool) (n d:Int):Rat:=mkRat (if s then -n else n) d.toNat
def r127:SCtr:=⟨53,Int,.one (codI .i64),fun n=> -9223372036854775808≤(show Int from n)∧(show Int from n)≤9223372036854775807,fun n=> .row (.i .u32) (natL ((show Int from n).natAbs:Int))⟩
theorem h127:Holds Tryz.prog r127:=by
 refine con0 (L:=[r128]) r127 lk (by grind[h128]) ?_
 intro(n:Int) h
 obtain⟨e,f⟩: -9223372036854775808≤n∧n≤9223372036854775807:=h
 refine vcOf (let d:=decide (n<(0:Int));let a:=(-(n+(1:Int))+(1:Int)) % (18446744073709551616:Int);let b:=SId.i .u32;let c:=SV.row b (natL (↑n.natAbs:Int));(d=true→inR .i64 (n+(1:Int))∧inR .i64 (-(n+(1:Int)))∧inR .u64 (-(n+(1:Int)))∧((0:Int)≤a∧a<(18446744073709551616:Int))∧(SV.row b (natL a)).same c)∧(d=false→inR .u64 n∧((0:Int)≤n∧n<(18446744073709551616:Int))∧(SV.row b (natL n)).same c)) (by kernel_rfl) ?_
 simp only[vcs]
 grind[u64_in]
def r151:SCtr:=⟨78,Bool×(List Int×List Int),.cons codB (.cons (codR (.i .u32)) (.one (codR (.i .u32)))),fun a=>(Dig a.2.1∧Dig a.2.2)∧(a.2.1.length≤1000000000∧a.2.2.length≤1000000000)∧0<valN a.2.2,
 fun a=> .tup [frS (mkF a.1 (valN a.2.1) (valN a.2.2)),.si .i64 0]⟩
theorem h151:Holds Tryz.prog r151:=by
 refine con0 (L:=[r165g,r166g]) r151 lk (by simpa using⟨h165g,h166g⟩) ?_
 rintro⟨s,n,d⟩ ⟨⟨hn,hd⟩,⟨hln,hld⟩,d0⟩
 simp only at hn hd hln hld d0
 refine vcOf (let z0:=decide ((↑d.length:Int)=(0:Int));let z1:=SV.row (SId.i .i64) [];let z2:=frE (mkF s (valN n) (valN d));let z3:=SId.i .u32;let z4:=SV.tup [SV.agg [SV.sb z2.fst,SV.row z3 z2.snd.fst,SV.row z3 z2.snd.snd],SV.si .i64 0];let z5:=natL (gcdN (valN n) (valN d));let z6:=natL (valN n / valN z5);let z7:=[SV.row z3 z6,SV.row z3 (natL (valN d / valN z5))];let z8:=[SV.il .i64 0];(z0=true→(SV.tup [SV.agg [SV.bl false,z1,z1],SV.il .i64 8]).same z4)∧(z0=false→((Dig n∧Dig d)∧n.length≤1000000000∧d.length≤1000000000)∧((Dig n∧Dig z5)∧(n.length≤10000000000∧z5.length≤10000000000)∧(0:Int)<valN z5)∧((Dig d∧Dig z5)∧(d.length≤10000000000∧z5.length≤10000000000)∧(0:Int)<valN z5)∧(false=true→(SV.tup [SV.agg [SV.bl false,z1,z1],SV.il .i64 8]).same z4)∧(false=false→(false=true→(SV.tup [SV.agg [SV.bl false,z1,z1],SV.il .i64 8]).same z4)∧(false=false→(s=true→(SV.tup (SV.agg (SV.sb (decide ((0:Int)<(↑z6.length:Int)))::z7)::z8)).same z4)∧(s=false→(SV.tup (SV.agg (SV.bl false::z7)::z8)).same z4))))) (by kernel_rfl) ?_
 simp only[vcs]
 have n0:=val_nonneg hn
 have g0:0<gcdN (valN n) (valN d):=by
  unfold gcdN
  have:=Nat.gcd_pos_of_pos_right (valN n).toNat (show 0<(valN d).toNat by omega)
  omega
 have gle:gcdN (valN n) (valN d)≤valN d:=by
  unfold gcdN
  have:=Nat.gcd_le_right (valN n).toNat (show 0<(valN d).toNat by omega)
  omega
 have gdv:gcdN (valN n) (valN d)∣valN n:=by
  unfold gcdN
  have:=Nat.gcd_dvd_left (valN n).toNat (valN d).toNat
  have h2:=Int.natCast_dvd_natCast.2 this
  rwa [Int.toNat_of_nonneg n0] at h2
 obtain⟨a1,a2,a3⟩:=natL_ok (Int.le_of_lt g0)
 have hgl:=len_of a2 (trim_dig hd) a3 (by rw[a1,trim_val.1];exact gle)
 have htl:=@trim_len d
 have hq0:0≤valN n / gcdN (valN n) (valN d):=Int.ediv_nonneg n0 (Int.le_of_lt g0)
 obtain⟨b1,b2,b3⟩:=natL_ok hq0
 have hpos:(0<((natL (valN n / gcdN (valN n) (valN d))).length:Int))↔0<valN n:=by
  obtain⟨m,hm⟩:=gdv
  have hmm:valN n / gcdN (valN n) (valN d)=m:=by
   conv=>lhs;arg 1;rw[hm]
   rw[Int.mul_ediv_cancel_left _ (by omega)]
  rw[hmm] at b1 b2 b3 ⊢
  have hm0:0<valN n↔0<m:=by
   generalize gcdN (valN n) (valN d)=g at*
   rw[hm]
   constructor
   ·intro h
    by_cases h2:0<m
    ·exact h2
    ·have:=Int.mul_nonpos_of_nonneg_of_nonpos (Int.le_of_lt g0) (show m≤0 by omega)
     omega
   ·intro h;exact Int.mul_pos g0 h
  rw[hm0]
  constructor
  ·intro h
   by_cases hm:m=0
   ·rw[hm] at h;exact absurd h (by decide)
   ·omega
  ·intro h
   by_cases hl:(natL m).length=0
   ·rw[List.eq_nil_of_length_eq_zero hl] at b1
    simp only[valN] at b1
    omega
   ·omega
 have hd0:d.length≠0:=by
  intro h
  rw[List.eq_nil_of_length_eq_zero h] at d0
  exact absurd d0 (by decide)
 unfold mkF
 rw[frE_mk n0 d0,a1]
 simp only
 refine⟨fun h=>absurd h (by omega),fun _=>⟨⟨⟨hn,hd⟩,by omega,by omega⟩,⟨⟨hn,a2⟩,by omega,g0⟩,⟨⟨hd,a2⟩,by omega,g0⟩,?_⟩⟩
 have hb:decide (0<((natL (valN n / gcdN (valN n) (valN d))).length:Int))=decide (0<valN n):=by
  rw[decide_eq_decide];exact hpos
 refine⟨fun h=>absurd h (by decide),fun _=>⟨fun h=>absurd h (by decide),fun _=>⟨fun hs=>?_,fun hs=>?_⟩⟩⟩
 ·rw[hs,hb]
  rfl
 ·rw[hs]
  rfl
def r126:SCtr:=⟨52,Bool×(List Int×List Int),.cons codB (.cons (codR (.i .u32)) (.one (codR (.i .u32)))),fun a=>(Dig a.2.1∧Dig a.2.2)∧(a.2.1.length≤1000000000∧a.2.2.length≤1000000000)∧0<valN a.2.2,
 fun a=>frS (mkF a.1 (valN a.2.1) (valN a.2.2))⟩
theorem h126:Holds Tryz.prog r126:=by
 refine con0 (L:=[r151]) r126 lk (by grind[h151]) ?_
 rintro⟨s,n,d⟩ ⟨⟨h,g⟩,⟨a,c⟩,f⟩
 simp only at h g a c f
 refine vcOf (let b:=frE (mkF s (valN n) (valN d));let e:=SV.agg [SV.sb b.fst,SV.row (SId.i .u32) b.snd.fst,SV.row (SId.i .u32) b.snd.snd];((Dig n∧Dig d)∧(n.length≤1000000000∧d.length≤1000000000)∧(0:Int)<valN d)∧e.same e) (by kernel_rfl) ?_
 simp_all[vcs]
def r94:SCtr:=⟨26,Int,.one (codI .i64),fun n=> -9223372036854775808≤(show Int from n)∧(show Int from n)≤9223372036854775807,fun n=>frS ((show Int from n):Rat)⟩
theorem h94:Holds Tryz.prog r94:=by
 refine con0 (L:=[r127,r128,r126]) r94 lk (by grind[h127,h128,h126]) ?_
 intro(n:Int) h
 obtain⟨o,p⟩: -9223372036854775808≤n∧n≤9223372036854775807:=h
 refine vcOf (let c:=natL (↑n.natAbs:Int);let b:=natL (1:Int);let f:=frE (mkF (decide (n<(0:Int))) (valN c) (valN b));let a:=SId.i .u32;let d:=frE (IntCast.intCast n);((-9223372036854775808:Int)≤n∧n≤(9223372036854775807:Int))∧((0:Int)≤(1:Int)∧(1:Int)<(18446744073709551616:Int))∧((Dig c∧Dig b)∧(c.length≤1000000000∧b.length≤1000000000)∧(0:Int)<valN b)∧(SV.agg [SV.sb f.fst,SV.row a f.snd.fst,SV.row a f.snd.snd]).same (SV.agg [SV.sb d.fst,SV.row a d.snd.fst,SV.row a d.snd.snd])) (by kernel_rfl) ?_
 conv=>zeta
 obtain⟨j,g,t⟩:=natL_ok (show(0:Int)≤(n.natAbs:Int) by omega)
 obtain⟨l,m,s⟩:=natL_ok (show(0:Int)≤1 by omega)
 have u:=natL_len (k:=2) (show(0:Int)≤(n.natAbs:Int) by omega) (by omega)
 have q:=natL_len (k:=1) (show(0:Int)≤1 by omega) (by decide)
 refine⟨⟨o,p⟩,⟨by omega,by omega⟩,⟨⟨g,m⟩,⟨by omega,by omega⟩,by omega⟩,?_⟩
 have e:mkF (decide (n<0)) (valN (natL (n.natAbs:Int))) (valN (natL 1))=IntCast.intCast n:=by
  rw[j,l]
  unfold mkF
  have r:(if decide (n<0)=true then -(n.natAbs:Int) else(n.natAbs:Int))=n:=by
   grind
  grind[Rat.mkRat_one]
 rw[e]
 rfl
def sgnQ (q:Rat):Int:=if q<0 then -1 else if 0<q then 1 else 0
def r99:SCtr:=⟨28,Fra,.one (codE sF),isF,fun x=> .si .i64 (sgnQ (valF x))⟩
theorem h99:Holds Tryz.prog r99:=by
 refine con0 (L:=[]) r99 lk (by simp) ?_
 intro(x:Fra) h
 obtain⟨q,k,rfl,m,f⟩:isF x:=h
 refine vcOf (let b:=decide ((↑(List.length (frE q).snd.fst):Int)=(0:Int));let a:=SV.si .i64 (sgnQ (valF (frE q)));(b=true→(SV.il .i64 0).same a)∧(b=false→((frE q).fst=true→(SV.il .i64 (-1:Int)).same a)∧((frE q).fst=false→(SV.il .i64 1).same a))) (by kernel_rfl) ?_
 simp only[vcs]
 rw[valF_frE]
 have e:((frE q).2.1.length:Int)=0↔q.num=0:=by
  unfold frE
  simp only
  obtain⟨d,j,i⟩:=natL_ok (show(0:Int)≤(q.num.natAbs:Int) by omega)
  constructor
  ·intro h
   rw[List.eq_nil_of_length_eq_zero (by omega:(natL (q.num.natAbs:Int)).length=0)] at d
   grind[valN]
  ·intro h
   rw[h]
   rfl
 have c:(frE q).1=decide (q<0):=rfl
 have n:=@Rat.num_nonneg q
 have l:q<0↔q.num<0:=by
  grind
 have g:0<q↔0<q.num:=by
  grind[Rat.num_eq_zero]
 rw[e,c]
 simp only[decide_eq_true_eq,decide_eq_false_iff_not]
 unfold sgnQ
 grind
def digF (x:Fra):Prop:=(Dig x.2.1∧Dig x.2.2)∧x.2.1.length≤100000000∧x.2.2.length≤100000000
def r131:SCtr:=⟨56,Fra×Fra,.cons (codE sF) (.one (codE sF)),fun a=>digF a.1∧digF a.2,fun a=> .tup [.row (.i .u32) (natL (valN a.1.2.1*valN a.2.2.2)),.row (.i .u32) (natL (valN a.2.2.1*valN a.1.2.2))]⟩
theorem h131:Holds Tryz.prog r131:=by
 refine con0 (L:=[r153]) r131 lk (by grind[h153]) ?_
 rintro⟨⟨s,n,d⟩,⟨o,b,a⟩⟩ ⟨⟨⟨e,j⟩,g,f⟩,⟨⟨k,h⟩,l,m⟩⟩
 simp only at e j g f k h l m
 refine vcOf (let c:=SV.tup [SV.row (SId.i .u32) (natL (valN n*valN a)),SV.row (SId.i .u32) (natL (valN b*valN d))];((Dig n∧Dig a)∧n.length≤100000000000∧a.length≤100000000000)∧((Dig b∧Dig d)∧b.length≤100000000000∧d.length≤100000000000)∧c.same c) (by kernel_rfl) ?_
 simp only[vcs]
 grind
theorem frS_eq {p q:Rat} (h:p=q):(SV.agg [.sb (frE p).1,.row (.i .u32) (frE p).2.1,.row (.i .u32) (frE p).2.2]).same (.agg [.sb (frE q).1,.row (.i .u32) (frE q).2.1,.row (.i .u32) (frE q).2.2]):=by subst h;rfl
theorem num_sgn (q:Rat):q.num=if decide (q<0) then -(q.num.natAbs:Int) else(q.num.natAbs:Int):=by
 have a:=@Rat.num_nonneg q
 grind
theorem frE_ok (q:Rat):(frE q).1=decide (q<0)∧(Dig (frE q).2.1∧Nrm (frE q).2.1∧valN (frE q).2.1=(q.num.natAbs:Int))∧(Dig (frE q).2.2∧Nrm (frE q).2.2∧valN (frE q).2.2=(q.den:Int)):=by
 obtain⟨f,e,d⟩:=natL_ok (show(0:Int)≤(q.num.natAbs:Int) by omega)
 obtain⟨b,c,a⟩:=natL_ok (show(0:Int)≤(q.den:Int) by omega)
 exact⟨rfl,⟨e,d,f⟩,⟨c,a,b⟩⟩
theorem frE_len {q:Rat} {k:Nat} (h:Sz k q):(frE q).2.1.length≤k∧(frE q).2.2.length≤k:=
 ⟨natL_len (by omega) h.1,natL_len (by omega) h.2⟩
theorem mkF_neg (q:Rat):mkF (!decide (q<0)) (q.num.natAbs:Int) (q.den:Int)= -q:=by
 unfold mkF
 have h:=num_sgn q
 have e:(if(!decide (q<0))=true then -(q.num.natAbs:Int) else(q.num.natAbs:Int))= -q.num:=by
  grind
 grind[Rat.mkRat_self,Rat.neg_mkRat]
def r130:SCtr:=⟨55,Fra,.one (codE sF),isF,fun x=>frS (-(valF x))⟩
theorem h130:Holds Tryz.prog r130:=by
 refine con0 (L:=[r126]) r130 lk (by grind[h126]) ?_
 intro(x:Fra) h
 obtain⟨q,k,rfl,f,g⟩:isF x:=h
 refine vcOf (let c:=(frE q).snd.fst;let a:=(frE q).snd.snd;let d:=frE (mkF (!(frE q).fst) (valN c) (valN a));let b:=SId.i .u32;let e:=(frE (-valF (frE q))).snd;((Dig c∧Dig a)∧(List.length c≤1000000000∧List.length a≤1000000000)∧(0:Int)<valN a)∧(SV.agg [SV.sb d.fst,SV.row b d.snd.fst,SV.row b d.snd.snd]).same (SV.agg [SV.sb (frE (-valF (frE q))).fst,SV.row b e.fst,SV.row b e.snd])) (by kernel_rfl) ?_
 conv=>zeta
 obtain⟨s,⟨r,p,u⟩,⟨o,l,n⟩⟩:=frE_ok q
 obtain⟨j,m⟩:=frE_len f
 have t:=q.den_pos
 grind[frS_eq,valF_frE,mkF_neg]
theorem mul_lt_pow {a b:Int} {i j:Nat} (e:0≤a) (c:a<4294967296^i) (d:b<4294967296^j):a*b<4294967296^(i+j):=by
 rw[Int.pow_add]
 exact Int.lt_of_le_of_lt (Int.mul_le_mul_of_nonneg_left (Int.le_of_lt d) e) (Int.mul_lt_mul_of_pos_right c (pow_pos _))
theorem cross_ok {p q:Rat} {i j:Nat} (c:Sz i p) (b:Sz j q):∃X Y D:Int,valN (frE p).2.1*valN (frE q).2.2=X∧valN (frE q).2.1*valN (frE p).2.2=Y∧valN (frE p).2.2*valN (frE q).2.2=D∧0≤X∧0≤Y∧0<D∧
  (natL X).length≤i+j∧(natL Y).length≤i+j∧(natL (X+Y)).length≤i+j+1∧(natL (X - Y)).length≤i+j∧(natL (Y - X)).length≤i+j∧(natL D).length≤i+j∧p.num*q.den=(if decide (p<0) then -X else X)∧q.num*p.den=(if decide (q<0) then -Y else Y)∧((p.den*q.den:Nat):Int)=D:=by
 obtain⟨_,⟨_,_,l⟩,⟨_,_,r⟩⟩:=frE_ok p
 obtain⟨_,⟨_,_,n⟩,⟨_,_,m⟩⟩:=frE_ok q
 rw[l,r,n,m]
 have s:=p.den_pos
 have t:=q.den_pos
 have k:=mul_lt_pow (a:=(p.num.natAbs:Int)) (by omega) c.1 b.2
 have d:=mul_lt_pow (a:=(q.num.natAbs:Int)) (by omega) b.1 c.2
 rw[Nat.add_comm j i] at d
 have o:=mul_lt_pow (a:=(p.den:Int)) (by omega) c.2 b.2
 have f:0≤(p.num.natAbs:Int)*q.den:=Int.mul_nonneg (by omega) (by omega)
 have e:0≤(q.num.natAbs:Int)*p.den:=Int.mul_nonneg (by omega) (by omega)
 have g:0<(p.den:Int)*q.den:=Int.mul_pos (by omega) (by omega)
 have v:=num_sgn p
 have u:=num_sgn q
 refine⟨_,_,_,rfl,rfl,rfl,f,e,g,natL_len f k,natL_len e d,natL_len (by omega) ?_,?_,?_,natL_len (by omega) o,?_,?_,by push_cast;rfl⟩
 ·omega
 ·by_cases h:(p.num.natAbs:Int)*q.den - (q.num.natAbs:Int)*p.den≤0
  ·grind[natL_neg]
  ·exact natL_len (by omega) (by omega)
 ·by_cases h:(q.num.natAbs:Int)*p.den - (p.num.natAbs:Int)*q.den≤0
  ·grind[natL_neg]
  ·exact natL_len (by omega) (by omega)
 all_goals grind
theorem add_mkF {p q:Rat} {s:Bool} {n D:Int} (a:((p.den*q.den:Nat):Int)=D) (h:p.num*q.den+q.num*p.den=if s then -n else n):mkF s n D=p+q:=by
 rw[add_mk]
 grind[mkF]
theorem digF_ok {p:Rat} {k:Nat} (h:Sz k p) (c:k≤100000000):digF (frE p):=by
 obtain⟨_,⟨a,_,_⟩,⟨b,_,_⟩⟩:=frE_ok p
 have:=frE_len h
 exact⟨⟨a,b⟩,by omega,by omega⟩
def cmpQ (p q:Rat):Int:=if p<q then -1 else if q<p then 1 else 0
def r97:SCtr:=⟨29,Fra×Fra,.cons (codE sF) (.one (codE sF)),fun a=>isF a.1∧isF a.2,fun a=> .si .i64 (cmpQ (valF a.1) (valF a.2))⟩
theorem h97:Holds Tryz.prog r97:=by
 refine con0 (L:=[r131,r132]) r97 lk (by simpa using⟨h131,h132⟩) ?_
 rintro⟨x,y⟩ ⟨⟨p,i,hx,hz,hi⟩,⟨q,j,hy,hw,hj⟩⟩
 simp only at hx hy
 subst hx hy
 refine vcOf (let z0:=(frE p).fst;let z1:=SV.si .i64 (cmpQ (valF (frE p)) (valF (frE q)));let z2:=natL (valN (frE q).snd.fst*valN (frE p).snd.snd);let z3:=natL (valN (frE p).snd.fst*valN (frE q).snd.snd);((!z0==(frE q).fst)=true→(z0=true→(SV.il .i64 (-1:Int)).same z1)∧(z0=false→(SV.il .i64 1).same z1))∧((!z0==(frE q).fst)=false→(digF (z0,(frE p).snd.fst,(frE p).snd.snd)∧digF ((frE q).fst,(frE q).snd.fst,(frE q).snd.snd))∧(z0=true→((Dig z2∧Dig z3)∧z2.length≤1000000000000∧z3.length≤1000000000000)∧(SV.si .i64 (cmpN (valN z2) (valN z3))).same z1)∧(z0=false→((Dig z3∧Dig z2)∧z3.length≤1000000000000∧z2.length≤1000000000000)∧(SV.si .i64 (cmpN (valN z3) (valN z2))).same z1))) (by kernel_rfl) ?_
 conv=>zeta
 obtain⟨e1,_,_⟩:=frE_ok p
 obtain⟨e2,_,_⟩:=frE_ok q
 obtain⟨X,Y,D,hX,hY,hD,X0,Y0,D0,l1,l2,l3,l4,l5,l6,n1,n2,n3⟩:=cross_ok hz hw
 obtain⟨c1,c2,c3⟩:=natL_ok X0
 obtain⟨c4,c5,c6⟩:=natL_ok Y0
 simp only[valF_frE,hX,hY,c1,c4,e1,e2]
 simp only[vcs]
 have hl:p<q↔p.num*q.den<q.num*p.den:=Rat.lt_iff p q
 have hl2:q<p↔q.num*p.den<p.num*q.den:=Rat.lt_iff q p
 have hp0:=@Rat.num_nonneg p
 have hq0:=@Rat.num_nonneg q
 have hc:∀{z:Int},(z=if p.num*q.den<q.num*p.den then -1 else if q.num*p.den<p.num*q.den then 1 else 0)→z=cmpQ p q:=fun h=>by
  unfold cmpQ
  simp only[hl,hl2]
  exact h
 have hXp:p<0→0<X:=fun h=>by
  rw[if_pos (by simpa using h)] at n1
  have h1:p.num<0:=by rw[←Rat.not_le,←hp0] at h;omega
  have:=Int.mul_neg_of_neg_of_pos h1 (show(0:Int)<q.den by have:=q.den_pos;omega)
  omega
 have hYq:q<0→0<Y:=fun h=>by
  rw[if_pos (by simpa using h)] at n2
  have h1:q.num<0:=by rw[←Rat.not_le,←hq0] at h;omega
  have:=Int.mul_neg_of_neg_of_pos h1 (show(0:Int)<p.den by have:=p.den_pos;omega)
  omega
 rw[n1,n2] at hc
 refine⟨fun hne=>⟨fun hp=>?_,fun hp=>?_⟩,fun he=>⟨⟨digF_ok hz hi,digF_ok hw hj⟩,fun hp=>⟨⟨⟨c5,c2⟩,by omega,by omega⟩,?_⟩,fun hp=>⟨⟨⟨c2,c5⟩,by omega,by omega⟩,?_⟩⟩⟩
 ·apply hc
  have hq:¬q<0:=fun hq=>by simp[hp,hq] at hne
  simp only[decide_eq_true_eq,hp,hq,if_true,if_false]
  have:=hXp hp
  rw[if_pos (by omega)]
 ·apply hc
  have hq:q<0:=by
   by_cases hq:q<0
   ·exact hq
   ·simp[hp,hq] at hne
  simp only[decide_eq_true_eq,hp,hq,if_true,if_false]
  have:=hYq hq
  rw[if_neg (by omega),if_pos (by omega)]
 ·apply hc
  have hq:q<0:=by
   by_cases hq:q<0
   ·exact hq
   ·simp[hp,hq] at he
  simp only[decide_eq_true_eq,hp,hq,if_true,if_false]
  simp only[Int.neg_lt_neg_iff]
  rfl
 ·apply hc
  have hq:¬q<0:=fun hq=>by simp[hp,hq] at he
  simp only[decide_eq_true_eq,hp,hq,if_true,if_false]
  rfl
def r129:SCtr:=⟨54,Fra×Fra,.cons (codE sF) (.one (codE sF)),fun a=>isF a.1∧isF a.2,fun a=>frS (valF a.1+valF a.2)⟩
theorem h129:Holds Tryz.prog r129:=by
 refine con0 (L:=[r131,r153,r154,r155,r126]) r129 lk (by simpa using⟨h131,h153,h154,h155,h126⟩) ?_
 rintro⟨x,y⟩ ⟨⟨p,i,hx,hz,hi⟩,⟨q,j,hy,hw,hj⟩⟩
 simp only at hx hy
 subst hx hy
 refine vcOf (let z0:=(frE p).fst;let z1:=(frE p).snd.snd;let z2:=(frE q).snd.snd;let z3:=natL (valN (frE p).snd.fst*valN z2);let z4:=natL (valN (frE q).snd.fst*valN z1);let z5:=natL (valN z3+valN z4);let z6:=natL (valN z1*valN z2);let z7:=frE (mkF z0 (valN z5) (valN z6));let z8:=SId.i .u32;let z9:=frE (valF (frE p)+valF (frE q));let z10:=SV.agg [SV.sb z9.fst,SV.row z8 z9.snd.fst,SV.row z8 z9.snd.snd];let z11:=decide (valN z4≤valN z3);let z12:=natL (valN z3 - valN z4);let z13:=frE (mkF z0 (valN z12) (valN z6));let z14:=natL (valN z4 - valN z3);let z15:=frE (mkF (frE q).fst (valN z14) (valN z6));(digF (z0,(frE p).snd.fst,z1)∧digF ((frE q).fst,(frE q).snd.fst,z2))∧((Dig z1∧Dig z2)∧List.length z1≤100000000000∧List.length z2≤100000000000)∧((z0==(frE q).fst)=true→((Dig z3∧Dig z4)∧z3.length≤100000000000∧z4.length≤100000000000)∧((Dig z5∧Dig z6)∧(z5.length≤1000000000∧z6.length≤1000000000)∧(0:Int)<valN z6)∧(SV.agg [SV.sb z7.fst,SV.row z8 z7.snd.fst,SV.row z8 z7.snd.snd]).same z10)∧((z0==(frE q).fst)=false→((Dig z3∧Dig z4)∧z3.length≤100000000000∧z4.length≤100000000000)∧(z11=true→((Dig z12∧Dig z6)∧(z12.length≤1000000000∧z6.length≤1000000000)∧(0:Int)<valN z6)∧(SV.agg [SV.sb z13.fst,SV.row z8 z13.snd.fst,SV.row z8 z13.snd.snd]).same z10)∧(z11=false→((Dig z4∧Dig z3)∧z4.length≤100000000000∧z3.length≤100000000000)∧((Dig z14∧Dig z6)∧(z14.length≤1000000000∧z6.length≤1000000000)∧(0:Int)<valN z6)∧(SV.agg [SV.sb z15.fst,SV.row z8 z15.snd.fst,SV.row z8 z15.snd.snd]).same z10))) (by kernel_rfl) ?_
 conv=>zeta
 obtain⟨e1,⟨u1,_,_⟩,⟨u2,_,_⟩⟩:=frE_ok p
 obtain⟨e2,⟨u3,_,_⟩,⟨u4,_,_⟩⟩:=frE_ok q
 obtain⟨m1,m2⟩:=frE_len hz
 obtain⟨m3,m4⟩:=frE_len hw
 obtain⟨X,Y,D,hX,hY,hD,X0,Y0,D0,l1,l2,l3,l4,l5,l6,n1,n2,n3⟩:=cross_ok hz hw
 obtain⟨c1,c2,c3⟩:=natL_ok X0
 obtain⟨c4,c5,c6⟩:=natL_ok Y0
 obtain⟨c7,c8,c9⟩:=natL_ok (Int.le_of_lt D0)
 obtain⟨s1,s2,s3⟩:=natL_ok (show 0≤X+Y by omega)
 simp only[valF_frE,hX,hY,hD,c1,c4,c7,s1,e1,e2]
 simp only[vcs]
 have fin:∀{s:Bool} {n:Int},(p.num*q.den+q.num*p.den=if s then -n else n)→(SV.agg [.sb (frE (mkF s n D)).1,.row (.i .u32) (frE (mkF s n D)).2.1,.row (.i .u32) (frE (mkF s n D)).2.2]).same (.agg [.sb (frE (p+q)).1,.row (.i .u32) (frE (p+q)).2.1,.row (.i .u32) (frE (p+q)).2.2]):=
  fun h=>frS_eq (add_mkF n3 h)
 rw[n1,n2] at fin
 refine⟨⟨digF_ok hz hi,digF_ok hw hj⟩,⟨⟨u2,u4⟩,by omega,by omega⟩,fun he=>⟨⟨⟨c2,c5⟩,by omega,by omega⟩,⟨⟨s2,c8⟩,⟨by omega,by omega⟩,D0⟩,fin ?_⟩,fun he=>⟨⟨⟨c2,c5⟩,by omega,by omega⟩,fun hle=>?_,fun hle=>?_⟩⟩
 ·by_cases hp:p<0<;>by_cases hq:q<0<;>simp[hp,hq] at he ⊢<;>omega
 ·obtain⟨t1,t2,t3⟩:=natL_ok (show 0≤X - Y by omega)
  rw[t1]
  refine⟨⟨⟨t2,c8⟩,⟨by omega,by omega⟩,D0⟩,fin ?_⟩
  by_cases hp:p<0<;>by_cases hq:q<0<;>simp[hp,hq] at he ⊢<;>omega
 ·obtain⟨t1,t2,t3⟩:=natL_ok (show 0≤Y - X by omega)
  rw[t1]
  refine⟨⟨⟨c5,c2⟩,by omega,by omega⟩,⟨⟨t2,c8⟩,⟨by omega,by omega⟩,D0⟩,fin ?_⟩
  by_cases hp:p<0<;>by_cases hq:q<0<;>simp[hp,hq] at he ⊢<;>omega
def r95:SCtr:=⟨27,Fra×Fra,.cons (codE sF) (.one (codE sF)),fun a=>isF a.1∧isF a.2,fun a=>frS (valF a.1 - valF a.2)⟩
theorem h95:Holds Tryz.prog r95:=by
 refine con0 (L:=[r130,r129]) r95 lk (by grind[h130,h129]) ?_
 rintro⟨x,y⟩ ⟨⟨p,i,k,m,n⟩,⟨q,j,g,l,o⟩⟩
 simp only at k g
 subst k g
 refine vcOf (let b:=((frE q).fst,(frE q).snd.fst,(frE q).snd.snd);let e:=((frE p).fst,(frE p).snd.fst,(frE p).snd.snd);let h:=(frE (-valF b)).snd;let f:=((frE (-valF b)).fst,h.fst,h.snd);let d:=frE (valF e+valF f);let a:=SId.i .u32;let c:=frE (valF (frE p) - valF (frE q));isF b∧(isF e∧isF f)∧(SV.agg [SV.sb d.fst,SV.row a d.snd.fst,SV.row a d.snd.snd]).same (SV.agg [SV.sb c.fst,SV.row a c.snd.fst,SV.row a c.snd.snd])) (by kernel_rfl) ?_
 grind[isF,sz_neg,frS_eq,valF_frE]
theorem val_tl (a:List Int):valN a=nthD a 0 0+4294967296*valN a.tail:=by
 cases a<;>grind[valN,nthD]
theorem nth_tl (a:List Int) (j:Nat):nthD a (j+1) 0=nthD a.tail j 0:=by
 grind[nthD]
theorem dig_tl {a:List Int} (h:Dig a):Dig a.tail:=fun d b=>h d (List.mem_of_mem_tail b)
theorem val_ext:∀(n:Nat) {a b:List Int},a.length≤n→b.length≤n→(∀j,nthD a j 0=nthD b j 0)→valN a=valN b
 |0,a,b,c,d,_=>by simp_all
 |n+1,a,b,c,d,h=>by
  rw[val_tl a,val_tl b,h 0]
  have:=val_ext n (a:=a.tail) (b:=b.tail) (by simp_all) (by simp_all) (fun j=>by rw[←nth_tl,←nth_tl];exact h (j+1))
  rw[this]
theorem cmp_dig:∀{k:Nat} {a b:List Int},Dig a→Dig b→(∀j,k<j→nthD a j 0=nthD b j 0)→nthD a k 0<nthD b k 0→valN a<valN b
 |0,a,b,e,c,h,d=>by
  have:=val_ext (max a.length b.length) (a:=a.tail) (b:=b.tail) (by grind) (by grind) (fun j=>by rw[←nth_tl,←nth_tl];simp_all)
  grind[val_tl]
 |k+1,a,b,e,c,h,d=>by
  rw[nth_tl,nth_tl] at d
  have:=cmp_dig (k:=k) (dig_tl e) (dig_tl c) (fun j g=>by rw[←nth_tl,←nth_tl];simp_all) d
  have i:=dig_nth e 0
  have f:=dig_nth c 0
  grind[val_tl]
def trL (a:List Int):SV:=.row (.i .u32) (natL (valN a))
def r140:SCtr:=⟨82,List Int,.one (codR (.i .u32)),fun a=>Dig a∧a.length≤100000000000,fun a=>trL a⟩
def Λ140 (a:List Int):Nat→LoopAnn
 |1=> .inv (List Int) (fun l=>⟨[(0,.row (.i .u32) l)],[]⟩) (fun s=>rS (.i .u32) s 0) (fun l=>Dig l∧valN l=valN a∧l.length≤a.length) (fun l=>l.length) fun _ _=> .look
 |_=> .look
theorem tr_last {l:List Int} (h:l.length≠0) (a:nthD l (l.length - 1) 0=0):valN (l.take (l.length - 1))=valN l:=by
 grind[take_snoc0]
theorem nrm_of {l:List Int} (h:l.length=0∨nthD l (l.length - 1) 0≠0):Nrm l:=by
 rcases h with h|h
 ·rw[List.eq_nil_of_length_eq_zero h];trivial
 ·by_cases b:l.length=0
  ·rw[List.eq_nil_of_length_eq_zero b];trivial
  ·have c:=take_snoc (a:=l) (n:=l.length - 1) (by omega)
   grind[nrm_snoc]
theorem h140:Holds Tryz.prog r140:=by
 refine con0 (L:=[]) r140 Λ140 (by simp) ?_
 intro(a:List Int) h
 obtain⟨ha,hl⟩:Dig a∧a.length≤100000000000:=h
 refine vcOf (let z0:=SId.i .u32;let z1:=SV.row z0 (natL (valN a));((((SV.row z0 a).same (SV.row z0 a)∧True)∧True)∧Dig a∧valN a=valN a∧a.length≤a.length)∧∀(x:List Int),let z2:=(↑x.length:Int);let z3:=decide ((0:Int)<z2);let z4:=z2 - (1:Int);let z5:=z4.toNat;let z6:=decide (nthD x z5 (0:Int)=(0:Int));let z7:=List.take (z5 - 0) x;let z8:=0+x.length;Dig x∧valN x=valN a∧x.length≤a.length→(z3=true→inR .i64 z4∧(0:Int)≤z4∧z4<z2∧z5<x.length∧(z6=true→inR .i64 z4∧(0:Int)≤z4∧0≤z5∧z5≤x.length∧(((SV.row z0 z7).same (SV.row z0 z7)∧True)∧True)∧(Dig z7∧valN z7=valN a∧z7.length≤a.length)∧z7.length<x.length)∧(z6=false→0=0∧z8*4≤140737488355328∧z8≤1000000000000∧x.length=x.length∧(SV.row z0 x).same z1))∧(z3=false→0=0∧z8*4≤140737488355328∧z8≤1000000000000∧x.length=x.length∧(SV.row z0 x).same z1)) (by kernel_rfl) ?_
 simp only[vcs]
 refine⟨⟨ha,by omega⟩,?_⟩
 rintro l ⟨dl,hv,hll⟩
 have t1:((l.length:Int) - 1).toNat - 0=l.length - 1:=by omega
 have t2:((l.length:Int) - 1).toNat=l.length - 1:=by omega
 rw[t1,t2]
 have fin:(l.length=0∨nthD l (l.length - 1) 0≠0)→(SV.row (.i .u32) l).same (SV.row (.i .u32) (natL (valN a))):=fun h=>rowN (by rw[←hv,natL_val dl (nrm_of h)])
 refine⟨fun hl0=>⟨by omega,by omega,by omega,by omega,fun hz=>?_,fun hz=>?_⟩,fun hl0=>?_⟩
 ·have:=tr_last (by omega) hz
  repeat' refine And.intro ?_ ?_
  all_goals first|omega|exact dig_take dl _|(rw[this];exact hv)|(simp;omega)
 ·repeat' refine And.intro ?_ ?_
  all_goals first|omega|exact natL_val dl (nrm_of (.inr hz))▸hv▸rfl|exact fin (.inr hz)|(rw[←hv,natL_val dl (nrm_of (.inr hz))])
 ·have h0:l.length=0:=by omega
  repeat' refine And.intro ?_ ?_
  all_goals first|omega|exact fin (.inl h0)|(rw[←hv,natL_val dl (nrm_of (.inl h0))])
def r139:SCtr:=⟨120,List Int×Int,.cons (codR (.i .u32)) (.one (codI .i64)),fun a=>Dig a.1∧0≤a.2,fun a=> .si .u64 (nthD a.1 a.2.toNat 0)⟩
theorem h139:Holds Tryz.prog r139:=by
 refine con0 (L:=[]) r139 lk (by simp) ?_
 rintro⟨a,i⟩ ⟨c,f⟩
 simp only at c f
 refine vcOf (let d:=decide (i<(↑a.length:Int));let b:=nthD a i.toNat (0:Int);let e:=SV.si .u64 b;(d=true→(0:Int)≤i∧i<(↑a.length:Int)∧i.toNat<a.length∧(SV.si .u64 (b % (18446744073709551616:Int))).same e)∧(d=false→(SV.il .u64 0).same e)) (by kernel_rfl) ?_
 simp only[vcs]
 have g:=dig_nth c i.toNat
 grind[nth_out]
def r141:SCtr:=⟨109,List Int×List Int,.cons (codR (.i .u32)) (.one (codR (.i .u32))),fun a=>(Dig a.1∧Dig a.2)∧a.1.length≤1000000000000∧a.2.length≤1000000000000,fun a=> .si .i64 (cmpN (valN a.1) (valN a.2))⟩
def Λ141 (a:List Int×List Int):Nat→LoopAnn
 |2=> .inv Int (fun i=>⟨[(0,.row (.i .u32) a.1),(1,.row (.i .u32) a.2),(5,.si .i64 i)],[]⟩) (fun s=>iS s 5)
  (fun i=> -1≤i∧i<max (a.1.length:Int) a.2.length∧∀j:Nat,i<j→nthD a.1 j 0=nthD a.2 j 0) (fun i=>(i+1).toNat) fun _ _=> .look
 |_=> .look
theorem h141:Holds Tryz.prog r141:=by
 refine con0 (L:=[r139]) r141 Λ141 (by grind[h139]) ?_
 rintro⟨a,b⟩ ⟨⟨f,g⟩,r,t⟩
 simp only at f g r t
 refine vcOf (let e:=max (↑a.length:Int) (↑b.length:Int) - (1:Int);let m:=SV.row (SId.i .u32) a;let l:=SV.row (SId.i .u32) b;let y:=SV.si .i64 e;let u:=max (↑a.length:Int) (↑b.length:Int);let p:=SV.si .i64 (cmpN (valN a) (valN b));inR .i64 e∧(((m.same m∧l.same l∧y.same y∧True)∧True)∧(-1:Int)≤e∧e<u∧∀(j:Nat),e<(↑j:Int)→nthD a j (0:Int)=nthD b j (0:Int))∧∀(x:Int),let v:=decide ((0:Int)≤x);let n:=nthD a x.toNat (0:Int);let o:=nthD b x.toNat (0:Int);let c:=x - (1:Int);let d:=SV.si .i64 c;((-1:Int)≤x∧x<u∧∀(j:Nat),x<(↑j:Int)→nthD a j (0:Int)=nthD b j (0:Int))→(v=true→(Dig a∧(0:Int)≤x)∧(Dig b∧(0:Int)≤x)∧(decide (n<o)=true→(SV.il .i64 (-1:Int)).same p)∧(decide (n<o)=false→(Dig a∧(0:Int)≤x)∧(Dig b∧(0:Int)≤x)∧(decide (o<n)=true→(SV.il .i64 1).same p)∧(decide (o<n)=false→inR .i64 c∧((m.same m∧l.same l∧d.same d∧True)∧True)∧((-1:Int)≤c∧c<u∧∀(j:Nat),c<(↑j:Int)→nthD a j (0:Int)=nthD b j (0:Int))∧(c+(1:Int)).toNat<(x+(1:Int)).toNat)))∧(v=false→(SV.il .i64 0).same p)) (by kernel_rfl) ?_
 simp only[vcs]
 refine⟨by omega,⟨by omega,by omega,fun j s=>by grind[nth_out]⟩,?_⟩
 rintro i ⟨z,A,q⟩
 refine⟨fun k=>⟨⟨f,k⟩,⟨g,k⟩,fun h=>?_,fun h=>⟨⟨f,k⟩,⟨g,k⟩,fun w=>?_,fun w=>⟨by omega,⟨by omega,by omega,fun j s=>?_⟩,by omega⟩⟩⟩,fun k=>?_⟩
 ·have:=cmp_dig f g (fun j s=>q j (by omega)) h
  simp_all[cmpN]
 ·have:=cmp_dig g f (fun j s=>(q j (by omega)).symm) w
  unfold cmpN
  omega
 ·grind
 ·have:=val_ext (max a.length b.length) (a:=a) (b:=b) (by omega) (by omega) (fun j=>q j (by omega))
  simp_all[cmpN]
def r106:SCtr:=⟨106,List Int×List Int,.cons (codR (.i .u32)) (.one (codR (.i .u32))),fun a=>(Dig a.1∧Dig a.2)∧a.1.length≤10000000000∧a.2.length≤10000000000,fun a=> .row (.i .u32) (natL (valN a.1+valN a.2))⟩
def Λ106 (a:List Int×List Int):Nat→LoopAnn
 |4=> .inv (Int×Int×List Int) (fun x=>⟨[(0,.row (.i .u32) a.1),(1,.row (.i .u32) a.2),(5,.ow 0 x.2.2.length 1),(6,.si .u64 x.2.1),(7,.si .i64 x.1)],[.row (.i .u32) x.2.2 90 true]⟩)
  (fun s=>(iS s 7,iS s 6,oS (.i .u32) s 0))
  (fun x=>(0≤x.1∧x.1≤max (a.1.length:Int) a.2.length+1)∧(0≤x.2.1∧x.2.1≤1)∧(Dig x.2.2∧(x.2.2.length:Int)=x.1)∧valN x.2.2+4294967296^x.1.toNat*x.2.1=valN (a.1.take x.1.toNat)+valN (a.2.take x.1.toNat))
  (fun x=>(max (a.1.length:Int) a.2.length+1 - x.1).toNat) fun _ _=> .look
 |_=> .look
theorem h106:Holds Tryz.prog r106:=by
 refine con0 (L:=[r139,r140]) r106 Λ106 (by simpa using⟨h139,h140⟩) ?_
 rintro⟨a,b⟩ ⟨⟨ha,hb⟩,hla,hlb⟩
 simp only at ha hb hla hlb
 refine vcOf (let z0:=SId.i .u32;let z1:=SV.ow 0 0 1;let z2:=SObj.row z0 [] 90 true;let z3:=max (↑a.length:Int) (↑b.length:Int)+(1:Int);((((SV.row z0 a).same (SV.row z0 a)∧(SV.row z0 b).same (SV.row z0 b)∧z1.same z1∧(SV.il .u64 0).same (SV.si .u64 0)∧(SV.il .i64 0).same (SV.si .i64 0)∧True)∧z2.same z2∧True)∧((0:Int)≤(0:Int)∧(0:Int)≤z3)∧((0:Int)≤(0:Int)∧(0:Int)≤(1:Int))∧(Dig []∧(0:Int)=(0:Int))∧(0:Int)=(0:Int))∧∀(x:Int×Int×List Int),let z4:=x.snd.snd.length;let z5:=x.fst.toNat;let z6:=decide (x.fst≤max (↑a.length:Int) (↑b.length:Int));let z7:=x.snd.snd.length+1;let z8:=((nthD a z5 (0:Int)+nthD b z5 (0:Int)) % (18446744073709551616:Int)+x.snd.fst) % (18446744073709551616:Int);let z9:=z8.tdiv (4294967296:Int);let z10:=x.fst+(1:Int);let z11:=x.snd.snd++[z8.tmod (4294967296:Int) % (4294967296:Int)];let z12:=SV.si .u64 z9;let z13:=SV.si .i64 z10;let z14:=SObj.row z0 z11 90 true;((0:Int)≤x.fst∧x.fst≤z3)∧((0:Int)≤x.snd.fst∧x.snd.fst≤(1:Int))∧(Dig x.snd.snd∧(↑z4:Int)=x.fst)∧valN x.snd.snd+(4294967296:Int)^z5*x.snd.fst=valN (List.take z5 a)+valN (List.take z5 b)→(z6=true→(Dig a∧(0:Int)≤x.fst)∧(Dig b∧(0:Int)≤x.fst)∧(4294967296:Int)≠(0:Int)∧z4=x.snd.snd.length∧z7*4≤140737488355328∧z7≤1000000000000∧(4294967296:Int)≠(0:Int)∧inR .u64 z9∧inR .i64 z10∧(((SV.row z0 a).same (SV.row z0 a)∧(SV.row z0 b).same (SV.row z0 b)∧(SV.ow 0 z11.length 1).same (SV.ow 0 z11.length 1)∧z12.same z12∧z13.same z13∧True)∧z14.same z14∧True)∧(((0:Int)≤z10∧z10≤z3)∧((0:Int)≤z9∧z9≤(1:Int))∧(Dig z11∧(↑z11.length:Int)=z10)∧valN z11+(4294967296:Int)^z10.toNat*z9=valN (List.take z10.toNat a)+valN (List.take z10.toNat b))∧(z3 - z10).toNat<(z3 - x.fst).toNat)∧(z6=false→z4=x.snd.snd.length∧(Dig x.snd.snd∧z4≤100000000000)∧(SV.row z0 (natL (valN x.snd.snd))).same (SV.row z0 (natL (valN a+valN b))))) (by kernel_rfl) ?_
 simp only[vcs]
 refine⟨⟨by omega,by omega,by simp[Dig]⟩,?_⟩
 rintro⟨i,c,out⟩ ⟨⟨i0,i1⟩,⟨c0,c1⟩,⟨ho,hlo⟩,hv⟩
 simp only at i0 i1 c0 c1 ho hlo hv ⊢
 refine⟨fun hi=>?_,fun hi=>?_⟩
 ·have x:=dig_nth ha i.toNat
  have y:=dig_nth hb i.toNat
  have e1:((nthD a i.toNat 0+nthD b i.toNat 0) % 18446744073709551616+c) % 18446744073709551616=nthD a i.toNat 0+nthD b i.toNat 0+c:=by omega
  have e2:(i+1).toNat=i.toNat+1:=by omega
  rw[e1,e2,Int.tdiv_eq_ediv_of_nonneg (by omega),Int.tmod_eq_emod_of_nonneg (by omega)]
  have hval:valN (out++[(nthD a i.toNat 0+nthD b i.toNat 0+c) % 4294967296 % 4294967296])+4294967296^(i.toNat+1)*((nthD a i.toNat 0+nthD b i.toNat 0+c) / 4294967296)=valN (a.take (i.toNat+1))+valN (b.take (i.toNat+1)):=by
   rw[val_snoc,take_snoc0,take_snoc0,show out.length=i.toNat by omega,Int.pow_succ]
   generalize (4294967296:Int)^i.toNat=B at*
   generalize hs:nthD a i.toNat 0+nthD b i.toNat 0+c=s at*
   have e:B*4294967296*(s / 4294967296)=B*(nthD a i.toNat 0+nthD b i.toNat 0+c - s % 4294967296 % 4294967296):=by rw[Int.mul_assoc];congr 1;omega
   rw[e]
   simp only[Int.mul_add,Int.mul_sub]
   omega
  have hdg:Dig (out++[(nthD a i.toNat 0+nthD b i.toNat 0+c) % 4294967296 % 4294967296]):=dig_app ho (dig_one (by omega) (by omega))
  repeat' refine And.intro ?_ ?_
  all_goals first|omega|exact ha|exact hb|exact u64_in (by omega) (by omega)|exact hval|exact hdg|(simp;omega)
 ·have hi2:i.toNat=max a.length b.length+1:=by omega
  rw[List.take_of_length_le (by omega),List.take_of_length_le (by omega)] at hv
  have b1:=val_bdN ha
  have b2:=val_bdN hb
  have b3:=pow_mono (show a.length≤max a.length b.length by omega)
  have b4:=pow_mono (show b.length≤max a.length b.length by omega)
  have hn:=val_nonneg ho
  rw[hi2,Int.pow_succ] at hv
  have hP:=pow_pos (max a.length b.length)
  have hc:c=0:=by
   by_cases h:c=0
   ·exact h
   ·have:c=1:=by omega
    subst this
    omega
  rw[hc,Int.mul_zero,Int.add_zero] at hv
  rw[hv]
  repeat' refine And.intro ?_ ?_
  all_goals first|omega|exact ho|rfl
def r107:SCtr:=⟨110,List Int×List Int,.cons (codR (.i .u32)) (.one (codR (.i .u32))),fun a=>(Dig a.1∧Dig a.2)∧a.1.length≤10000000000∧a.2.length≤10000000000,fun a=>sbO (valN a.1) (valN a.2)⟩
def Λ107 (a:List Int×List Int):Nat→LoopAnn
 |6=> .inv (Int×Int×List Int) (fun x=>⟨[(0,.row (.i .u32) a.1),(1,.row (.i .u32) a.2),(6,.ow 0 x.2.2.length 1),(7,.si .u64 x.2.1),(8,.si .i64 x.1)],[.row (.i .u32) x.2.2 90 true]⟩)
  (fun s=>(iS s 8,iS s 7,oS (.i .u32) s 0))
  (fun x=>(0≤x.1∧x.1≤a.1.length)∧(0≤x.2.1∧x.2.1≤1)∧(Dig x.2.2∧(x.2.2.length:Int)=x.1)∧valN x.2.2 - 4294967296^x.1.toNat*x.2.1=valN (a.1.take x.1.toNat) - valN (a.2.take x.1.toNat))
  (fun x=>(a.1.length - x.1).toNat) fun _ _=> .look
 |_=> .look
theorem h107:Holds Tryz.prog r107:=by
 refine con0 (L:=[r139,r140,r141]) r107 Λ107 (by simpa using⟨h139,h140,h141⟩) ?_
 rintro⟨a,b⟩ ⟨⟨ha,hb⟩,hla,hlb⟩
 simp only at ha hb hla hlb
 refine vcOf (let z0:=decide (cmpN (valN a) (valN b)<(0:Int));let z1:=SId.i .u32;let z2:=SV.tup [SV.row z1 (natL (valN a - valN b)),SV.sb (decide (valN b≤valN a))];let z3:=SV.ow 0 0 1;let z4:=SObj.row z1 [] 90 true;let z5:=(↑a.length:Int);((Dig a∧Dig b)∧a.length≤1000000000000∧b.length≤1000000000000)∧(z0=true→(SV.tup [SV.row (SId.i .i64) [],SV.bl false]).same z2)∧(z0=false→((((SV.row z1 a).same (SV.row z1 a)∧(SV.row z1 b).same (SV.row z1 b)∧z3.same z3∧(SV.il .u64 0).same (SV.si .u64 0)∧(SV.il .i64 0).same (SV.si .i64 0)∧True)∧z4.same z4∧True)∧((0:Int)≤(0:Int)∧(0:Int)≤z5)∧((0:Int)≤(0:Int)∧(0:Int)≤(1:Int))∧(Dig []∧(0:Int)=(0:Int))∧(0:Int)=(0:Int))∧∀(x:Int×Int×List Int),let z6:=x.snd.snd.length;let z7:=x.fst.toNat;let z8:=decide (x.fst<(↑a.length:Int));let z9:=x.snd.snd.length+1;let z10:=((((4294967296:Int)+nthD a z7 (0:Int)) % (18446744073709551616:Int) - nthD b z7 (0:Int)) % (18446744073709551616:Int) - x.snd.fst) % (18446744073709551616:Int);let z11:=z10.tdiv (4294967296:Int);let z12:=x.fst+(1:Int);let z13:=x.snd.snd++[z10.tmod (4294967296:Int) % (4294967296:Int)];let z14:=((1:Int) - z11) % (18446744073709551616:Int);let z15:=SV.si .u64 z14;let z16:=SV.si .i64 z12;let z17:=SObj.row z1 z13 90 true;((0:Int)≤x.fst∧x.fst≤z5)∧((0:Int)≤x.snd.fst∧x.snd.fst≤(1:Int))∧(Dig x.snd.snd∧(↑z6:Int)=x.fst)∧valN x.snd.snd - (4294967296:Int)^z7*x.snd.fst=valN (List.take z7 a) - valN (List.take z7 b)→(z8=true→(Dig a∧(0:Int)≤x.fst)∧(Dig b∧(0:Int)≤x.fst)∧(4294967296:Int)≠(0:Int)∧z6=x.snd.snd.length∧z9*4≤140737488355328∧z9≤1000000000000∧(4294967296:Int)≠(0:Int)∧inR .u64 z11∧inR .i64 z12∧(((SV.row z1 a).same (SV.row z1 a)∧(SV.row z1 b).same (SV.row z1 b)∧(SV.ow 0 z13.length 1).same (SV.ow 0 z13.length 1)∧z15.same z15∧z16.same z16∧True)∧z17.same z17∧True)∧(((0:Int)≤z12∧z12≤z5)∧((0:Int)≤z14∧z14≤(1:Int))∧(Dig z13∧(↑z13.length:Int)=z12)∧valN z13 - (4294967296:Int)^z12.toNat*z14=valN (List.take z12.toNat a) - valN (List.take z12.toNat b))∧(z5 - z12).toNat<(z5 - x.fst).toNat)∧(z8=false→z6=x.snd.snd.length∧(Dig x.snd.snd∧z6≤100000000000)∧(SV.tup [SV.row z1 (natL (valN x.snd.snd)),SV.bl true]).same z2))) (by kernel_rfl) ?_
 simp only[vcs]
 have pa:=val_nonneg ha
 have pb:=val_nonneg hb
 refine⟨⟨⟨ha,hb⟩,by omega,by omega⟩,fun hlt=>?_,fun hge=>?_⟩
 ·have hlt2:valN a<valN b:=by unfold cmpN at hlt;split at hlt<;>(try split at hlt)<;>omega
  refine⟨nilN (natL_neg (by omega)),?_⟩
  rw[eq_comm,decide_eq_false_iff_not]
  omega
 have hge2:valN b≤valN a:=by unfold cmpN at hge;split at hge<;>(try split at hge)<;>omega
 refine⟨⟨by omega,by omega,by simp[Dig]⟩,?_⟩
 rintro⟨i,c,out⟩ ⟨⟨i0,i1⟩,⟨c0,c1⟩,⟨ho,hlo⟩,hv⟩
 simp only at i0 i1 c0 c1 ho hlo hv ⊢
 refine⟨fun hi=>?_,fun hi=>?_⟩
 ·have x:=dig_nth ha i.toNat
  have y:=dig_nth hb i.toNat
  have e1:(((4294967296+nthD a i.toNat 0) % 18446744073709551616 - nthD b i.toNat 0) % 18446744073709551616 - c) % 18446744073709551616=4294967296+nthD a i.toNat 0 - nthD b i.toNat 0 - c:=by omega
  have e2:(i+1).toNat=i.toNat+1:=by omega
  rw[e1,e2,Int.tdiv_eq_ediv_of_nonneg (by omega),Int.tmod_eq_emod_of_nonneg (by omega)]
  have e3:(1 - (4294967296+nthD a i.toNat 0 - nthD b i.toNat 0 - c) / 4294967296) % 18446744073709551616=1 - (4294967296+nthD a i.toNat 0 - nthD b i.toNat 0 - c) / 4294967296:=by omega
  rw[e3]
  have hval:valN (out++[(4294967296+nthD a i.toNat 0 - nthD b i.toNat 0 - c) % 4294967296 % 4294967296]) - 4294967296^(i.toNat+1)*(1 - (4294967296+nthD a i.toNat 0 - nthD b i.toNat 0 - c) / 4294967296)=valN (a.take (i.toNat+1)) - valN (b.take (i.toNat+1)):=by
   rw[val_snoc,take_snoc0,take_snoc0,show out.length=i.toNat by omega,Int.pow_succ]
   generalize (4294967296:Int)^i.toNat=B at*
   generalize hs:4294967296+nthD a i.toNat 0 - nthD b i.toNat 0 - c=s at*
   have e:B*4294967296*(1 - s / 4294967296)=B*(s % 4294967296 % 4294967296 - (nthD a i.toNat 0 - nthD b i.toNat 0 - c)):=by rw[Int.mul_assoc];congr 1;omega
   rw[e]
   simp only[Int.mul_add,Int.mul_sub]
   omega
  have hdg:Dig (out++[(4294967296+nthD a i.toNat 0 - nthD b i.toNat 0 - c) % 4294967296 % 4294967296]):=dig_app ho (dig_one (by omega) (by omega))
  repeat' refine And.intro ?_ ?_
  all_goals first|omega|exact ha|exact hb|exact u64_in (by omega) (by omega)|exact hval|exact hdg|(simp;omega)
 ·have hi2:i.toNat=a.length:=by omega
  rw[hi2,List.take_length] at hv
  have b1:=val_bdN ha
  have hbt:valN (b.take a.length)=valN b:=by
   by_cases h:b.length≤a.length
   ·rw[List.take_of_length_le h]
   ·have h1:=val_split (U:=b) (j:=a.length) (by omega)
    have h2:=val_nonneg (dig_take hb a.length)
    have h3:=val_nonneg (dig_drop hb a.length)
    by_cases hz:valN (b.drop a.length)=0
    ·rw[hz,Int.mul_zero] at h1;omega
    ·have:=Int.mul_le_mul_of_nonneg_left (show(1:Int)≤valN (b.drop a.length) by omega) (Int.le_of_lt (pow_pos a.length))
     rw[Int.mul_one] at this
     omega
  rw[hbt] at hv
  have hn:=val_bdN ho
  rw[show out.length=a.length by omega] at hn
  have hc:c=0:=by
   by_cases h:c=0
   ·exact h
   ·have:c=1:=by omega
    subst this
    omega
  rw[hc,Int.mul_zero,Int.sub_zero] at hv
  rw[hv]
  refine⟨⟨ho,by omega⟩,?_⟩
  repeat' refine And.intro ?_ ?_
  all_goals first|omega|rfl|(rw[eq_comm,decide_eq_true_eq];exact hge2)
def r159:SCtr:=⟨107,Int,.one (codI .u64),fun x=>0≤(show Int from x)∧(show Int from x)<18446744073709551616,fun x=> .row (.i .u32) (natL x)⟩
theorem h159:Holds Tryz.prog r159:=by
 refine con0 (L:=[r140]) r159 lk (by grind[h140]) ?_
 intro(x:Int) h
 obtain⟨d,c⟩:0≤x∧x<18446744073709551616:=h
 refine vcOf (let b:=x.tdiv (4294967296:Int);let a:=[x.tmod (4294967296:Int) % (4294967296:Int),b % (4294967296:Int)];(4294967296:Int)≠(0:Int)∧(4294967296:Int)≠(0:Int)∧inR .u64 b∧(Dig a∧2≤100000000000)∧(SV.row (SId.i .u32) (natL (valN a))).same (SV.row (SId.i .u32) (natL x))) (by kernel_rfl) ?_
 simp only[vcs]
 grind[Dig,dig_one,valN,u64_in]
theorem add_len {a b:List Int} {k:Nat} (d:Dig a) (c:Dig b) (f:a.length≤k) (e:b.length≤k):(natL (valN a+valN b)).length≤k+1:=by
 have i:=val_nonneg d
 have g:=val_nonneg c
 have j:=lt_of_len d f
 have h:=lt_of_len c e
 refine natL_len (by omega) ?_
 omega
theorem mul_len {x y:Int} {i j:Nat} (a:0≤x) (b:0≤y) (d:x<4294967296^i) (c:y<4294967296^j):(natL (x*y)).length≤i+j:=natL_len (Int.mul_nonneg a b) (mul_lt_pow a d c)
theorem rep_app {n:Nat} {a:List Int}:valN (List.replicate n 0++a)=valN a*4294967296^n:=by
 grind[val_app,rep_val]
def r140o:OCtr where
 f:=82
 α:=Nat×List Int
 put a:=[.ow 0 a.1 1]
 st a:=[.row (.i .u32) a.2 90 true]
 dec v o:=match v,o with
  |[.ow 0 n 1],[.row t l 90 true]=>match castL t (.i .u32) l with
   |some l=>some (n,l)
   |_=>none
  |_,_=>none
 ok v o a h:=by
  split at h
  ·split at h
   ·rename_i h2
    simp only[Option.some.injEq] at h;subst h
    obtain⟨rfl,hh⟩:=castL_eq h2
    cases hh
    exact⟨rfl,rfl⟩
   ·cases h
  ·cases h
 inj a b h1 h2:=by
  obtain⟨n,U⟩:=a
  obtain⟨n',U'⟩:=b
  simp only[gL,List.cons.injEq,and_true,SV.g,AV.os.injEq,true_and] at h1
  simp only[gO,List.map_cons,List.map_nil,SObj.g,List.cons.injEq,AObj.cells.injEq,and_true] at h2
  have hl:U=U':=by
   have hf:=congrArg List.length h2
   rw[flatA_len,flatA_len] at hf
   exact flatA_inj (.i .u32) (by simpa[SId.sz] using hf) h2
  rw[h1.1,hl]
 dom a:=a.1=a.2.length∧Dig a.2∧a.2.length≤100000000000
 res a:=trL a.2
 out a:=[.row (.i .u32) a.2 90 true]
def Λ140o (a:Nat×List Int):Nat→LoopAnn
 |1=> .inv Int (fun n=>⟨[(0,.os 0 0 n.toNat a.1 1)],[.row (.i .u32) a.2 90 true]⟩) (fun s=>match getS s.env 0 with| .os _ _ n _ _=>n| .ow _ n _=>n|_=>0) (fun n=>0≤n∧n≤a.2.length∧valN (a.2.take n.toNat)=valN a.2) (fun n=>n.toNat) fun _ _=> .look
 |_=> .look
def r136:SCtr:=⟨121,List Int×Int,.cons (codR (.i .u32)) (.one (codI .i64)),fun a=>Dig a.1∧a.1.length≤10000000000∧0≤a.2∧a.2≤10000000000,fun a=> .row (.i .u32) (natL (valN a.1*4294967296^a.2.toNat))⟩
def Λ136 (a:List Int×Int):Nat→LoopAnn
 |3=> .inv Int (fun i=>⟨[(0,.row (.i .u32) a.1),(1,.si .i64 a.2),(5,.ow 0 i.toNat 1),(6,.si .i64 i)],[.row (.i .u32) (List.replicate i.toNat 0) 90 true]⟩) (fun s=>iS s 6) (fun i=>0≤i∧i≤a.2) (fun i=>(a.2 - i).toNat) fun _ _=> .look
 |_=> .look
theorem h140o:HoldsO Tryz.prog r140o:=by
 refine conO (L:=[]) (W:=[]) r140o Λ140o (by simp) (by simp) ?_
 rintro⟨n,a⟩ ⟨hn,ha,hl⟩
 simp only at hn ha hl
 subst hn
 refine vcOf (let z0:=(↑a.length:Int);let z1:=SId.i .u32;let z2:=SObj.row z1 a 90 true;let z3:=SV.row z1 (natL (valN a));((((SV.ow 0 a.length 1).same (SV.os 0 0 z0.toNat a.length 1)∧True)∧z2.same z2∧True)∧(0:Int)≤z0∧z0≤z0∧valN (List.take z0.toNat a)=valN a)∧∀(x:Int),let z4:=List.take x.toNat a;let z5:=(↑x.toNat:Int);let z6:=decide ((0:Int)<z5);let z7:=z5 - (1:Int);let z8:=0+z7.toNat;let z9:=decide (nthD a z8 (0:Int)=(0:Int));let z10:=z7.toNat - 0;let z11:=(↑z10:Int);let z12:=0+z4.length;(0:Int)≤x∧x≤z0∧valN z4=valN a→(z6=true→inR .i64 z7∧a.length=a.length∧(0:Int)≤z7∧z7<z5∧0+x.toNat≤a.length∧a.length=a.length∧z8<a.length∧(z9=true→inR .i64 z7∧a.length=a.length∧(0:Int)≤z7∧0≤z7.toNat∧z7.toNat≤x.toNat∧(((SV.os 0 0 z10 a.length 1).same (SV.os 0 0 z11.toNat a.length 1)∧True)∧z2.same z2∧True)∧((0:Int)≤z11∧z11≤z0∧valN (List.take z11.toNat a)=valN a)∧z11.toNat<x.toNat)∧(z9=false→a.length=a.length∧0+x.toNat≤a.length∧0=0∧z12*4≤140737488355328∧z12≤1000000000000∧z4.length=z4.length∧(SV.row z1 z4).same z3∧z2.same z2∧True))∧(z6=false→a.length=a.length∧0+x.toNat≤a.length∧0=0∧z12*4≤140737488355328∧z12≤1000000000000∧z4.length=z4.length∧(SV.row z1 z4).same z3∧z2.same z2∧True)) (by kernel_rfl) ?_
 simp only[vcs]
 refine⟨⟨rfl,⟨by omega,by omega,by rw[Int.toNat_natCast,List.take_length]⟩⟩,?_⟩
 rintro n ⟨n0,n1,hv⟩
 have hll:(a.take n.toNat).length=n.toNat:=by simp;omega
 have t1:0+((n.toNat:Int) - 1).toNat=n.toNat - 1:=by omega
 have hnth:nthD a (n.toNat - 1) 0=nthD (a.take n.toNat) (n.toNat - 1) 0∨n.toNat=0:=by
  by_cases h:n.toNat=0
  ·exact .inr h
  ·left
   unfold nthD
   rw[List.getElem?_take,if_pos (by omega)]
 have dl:=dig_take ha n.toNat
 have fin:(n.toNat=0∨nthD a (n.toNat - 1) 0≠0)→a.take n.toNat=natL (valN a):=fun h=>by
  rw[←hv,natL_val dl (nrm_of ?_)]
  rw[hll]
  rcases h with h|h
  ·exact .inl h
  ·rcases hnth with h2|h2
   ·exact .inr (by rw[←h2];exact h)
   ·exact .inl h2
 rw[t1,hll]
 refine⟨fun hp=>⟨by omega,by omega,by omega,by omega,by omega,fun hz=>?_,fun hz=>?_⟩,fun hp=>?_⟩
 ·have hnl:nthD (a.take n.toNat) (n.toNat - 1) 0=0:=by
   rcases hnth with h|h
   ·rw[←h];exact hz
   ·omega
  have hlast:=tr_last (l:=a.take n.toNat) (by omega) (by rw[hll];exact hnl)
  rw[hll,List.take_take,Nat.min_eq_left (by omega),hv] at hlast
  have e:(n.toNat:Int).toNat - 1=n.toNat - 1:=by omega
  have e2:((n.toNat:Int) - 1).toNat - 0=n.toNat - 1:=by omega
  repeat' refine And.intro ?_ ?_
  all_goals first|omega|rfl|(rw[e2];rfl)|(simp only[e2];exact hlast)|skip
 ·have:=fin (.inr hz)
  repeat' refine And.intro ?_ ?_
  all_goals first|omega|exact this|(rw[this];rfl)
 ·have:=fin (.inl (by omega))
  repeat' refine And.intro ?_ ?_
  all_goals first|omega|exact this|(rw[this];rfl)
theorem h136:Holds Tryz.prog r136:=by
 refine con (L:=[]) (W:=ownT [r140o]) r136 Λ136 (ownT_ok (by simpa using h140o)) (by simp) ?_
 rintro⟨a,n⟩ ⟨ha,hl,n0,n1⟩
 simp only at ha hl n0 n1
 refine vcOf (let z0:=SId.i .u32;let z1:=SV.ow 0 0 1;let z2:=SObj.row z0 [] 90 true;((((SV.row z0 a).same (SV.row z0 a)∧(SV.si .i64 n).same (SV.si .i64 n)∧z1.same z1∧(SV.il .i64 0).same (SV.si .i64 0)∧True)∧z2.same z2∧True)∧(0:Int)≤(0:Int)∧(0:Int)≤n)∧∀(x:Int),let z3:=List.replicate x.toNat (0:Int);let z4:=z3.length+1;let z5:=x+(1:Int);let z6:=SV.si .i64 z5;let z7:=z3.length+a.length;(0:Int)≤x∧x≤n→(decide (x<n)=true→x.toNat=z3.length∧z4*4≤140737488355328∧z4≤1000000000000∧inR .i64 z5∧(((SV.row z0 a).same (SV.row z0 a)∧(SV.si .i64 n).same (SV.si .i64 n)∧(SV.ow 0 (z3++[(0:Int)]).length 1).same (SV.ow 0 z5.toNat 1)∧z6.same z6∧True)∧(SObj.row z0 (z3++[(0:Int)]) 90 true).same (SObj.row z0 (List.replicate z5.toNat (0:Int)) 90 true)∧True)∧((0:Int)≤z5∧z5≤n)∧(n - z5).toNat<(n - x).toNat)∧(decide (x<n)=false→x.toNat=z3.length∧z7*4≤140737488355328∧z7≤1000000000000∧((z3++a).length=(z3++a).length∧Dig (z3++a)∧(z3++a).length≤100000000000)∧(SV.row z0 (natL (valN (z3++a)))).same (SV.row z0 (natL (valN a*(4294967296:Int)^n.toNat))))) (by kernel_rfl) ?_
 simp only[vcs]
 refine⟨⟨by omega,by omega⟩,?_⟩
 rintro i ⟨i0,i1⟩
 have hr:(List.replicate i.toNat (0:Int)).length=i.toNat:=by simp
 have hrs:List.replicate i.toNat (0:Int)++[0]=List.replicate (i+1).toNat 0:=by rw[show(i+1).toNat=i.toNat+1 by omega,List.replicate_succ']
 have hda:(List.replicate i.toNat (0:Int)++a).length=i.toNat+a.length:=by simp
 have hl2:@List.length (SId.T (.i .u32)) a≤10000000000:=hl
 rw[hrs]
 refine⟨fun hi=>?_,fun hi=>?_⟩
 ·repeat' refine And.intro ?_ ?_
  all_goals first|omega|exact howN (by simp)|rfl
 ·rw[rep_app,hda,show i.toNat=n.toNat by omega]
  simp only[List.length_replicate]
  repeat' refine And.intro ?_ ?_
  all_goals first|omega|exact dig_app rep_dig ha|rfl|trivial
def r137:SCtr:=⟨122,List Int×Int,.cons (codR (.i .u32)) (.one (codI .u64)),fun a=>Dig a.1∧a.1.length≤10000000000∧0≤a.2∧a.2<4294967296,fun a=> .row (.i .u32) (natL (valN a.1*a.2))⟩
def Λ137 (a:List Int×Int):Nat→LoopAnn
 |4=> .inv (Int×Int×List Int) (fun x=>⟨[(0,.row (.i .u32) a.1),(1,.si .u64 a.2),(5,.ow 0 x.2.2.length 1),(6,.si .u64 x.2.1),(7,.si .i64 x.1)],[.row (.i .u32) x.2.2 90 true]⟩)
  (fun s=>(iS s 7,iS s 6,oS (.i .u32) s 0))
  (fun x=>(0≤x.1∧x.1≤(a.1.length:Int)+1)∧(0≤x.2.1∧x.2.1<4294967296)∧(Dig x.2.2∧(x.2.2.length:Int)=x.1)∧valN x.2.2+4294967296^x.1.toNat*x.2.1=valN (a.1.take x.1.toNat)*a.2)
  (fun x=>((a.1.length:Int)+1 - x.1).toNat) fun _ _=> .look
 |_=> .look
theorem h137:Holds Tryz.prog r137:=by
 refine con0 (L:=[r139,r140]) r137 Λ137 (by simpa using⟨h139,h140⟩) ?_
 rintro⟨a,d⟩ ⟨ha,hla,d0,d1⟩
 simp only at ha hla d0 d1
 refine vcOf (let z0:=SId.i .u32;let z1:=SV.ow 0 0 1;let z2:=SObj.row z0 [] 90 true;let z3:=(↑a.length:Int)+(1:Int);((((SV.row z0 a).same (SV.row z0 a)∧(SV.si .u64 d).same (SV.si .u64 d)∧z1.same z1∧(SV.il .u64 0).same (SV.si .u64 0)∧(SV.il .i64 0).same (SV.si .i64 0)∧True)∧z2.same z2∧True)∧((0:Int)≤(0:Int)∧(0:Int)≤z3)∧((0:Int)≤(0:Int)∧(0:Int)<(4294967296:Int))∧(Dig []∧(0:Int)=(0:Int))∧(0:Int)=valN []*d)∧∀(x:Int×Int×List Int),let z4:=x.snd.snd.length;let z5:=decide (x.fst≤(↑a.length:Int));let z6:=x.snd.snd.length+1;let z7:=(nthD a x.fst.toNat (0:Int)*d % (18446744073709551616:Int)+x.snd.fst) % (18446744073709551616:Int);let z8:=z7.tdiv (4294967296:Int);let z9:=x.fst+(1:Int);let z10:=x.snd.snd++[z7.tmod (4294967296:Int) % (4294967296:Int)];let z11:=SV.si .u64 z8;let z12:=SV.si .i64 z9;let z13:=SObj.row z0 z10 90 true;((0:Int)≤x.fst∧x.fst≤z3)∧((0:Int)≤x.snd.fst∧x.snd.fst<(4294967296:Int))∧(Dig x.snd.snd∧(↑z4:Int)=x.fst)∧valN x.snd.snd+(4294967296:Int)^x.fst.toNat*x.snd.fst=valN (List.take x.fst.toNat a)*d→(z5=true→(Dig a∧(0:Int)≤x.fst)∧(4294967296:Int)≠(0:Int)∧z4=x.snd.snd.length∧z6*4≤140737488355328∧z6≤1000000000000∧(4294967296:Int)≠(0:Int)∧inR .u64 z8∧inR .i64 z9∧(((SV.row z0 a).same (SV.row z0 a)∧(SV.si .u64 d).same (SV.si .u64 d)∧(SV.ow 0 z10.length 1).same (SV.ow 0 z10.length 1)∧z11.same z11∧z12.same z12∧True)∧z13.same z13∧True)∧(((0:Int)≤z9∧z9≤z3)∧((0:Int)≤z8∧z8<(4294967296:Int))∧(Dig z10∧(↑z10.length:Int)=z9)∧valN z10+(4294967296:Int)^z9.toNat*z8=valN (List.take z9.toNat a)*d)∧(z3 - z9).toNat<(z3 - x.fst).toNat)∧(z5=false→z4=x.snd.snd.length∧(Dig x.snd.snd∧z4≤100000000000)∧(SV.row z0 (natL (valN x.snd.snd))).same (SV.row z0 (natL (valN a*d))))) (by kernel_rfl) ?_
 simp only[vcs]
 refine⟨⟨by omega,by omega,by simp[Dig],by simp[valN]⟩,?_⟩
 rintro⟨i,c,out⟩ ⟨⟨i0,i1⟩,⟨c0,c1⟩,⟨ho,hlo⟩,hv⟩
 simp only at i0 i1 c0 c1 ho hlo hv ⊢
 refine⟨fun hi=>?_,fun hi=>?_⟩
 ·have x:=dig_nth ha i.toNat
  have t0:0≤nthD a i.toNat 0*d:=Int.mul_nonneg x.1 d0
  have t1:nthD a i.toNat 0*d≤4294967295*4294967295:=Int.mul_le_mul (by omega) (by omega) d0 (by omega)
  have e1:(nthD a i.toNat 0*d % 18446744073709551616+c) % 18446744073709551616=nthD a i.toNat 0*d+c:=by omega
  have e2:(i+1).toNat=i.toNat+1:=by omega
  rw[e1,e2,Int.tdiv_eq_ediv_of_nonneg (by omega),Int.tmod_eq_emod_of_nonneg (by omega)]
  have hval:valN (out++[(nthD a i.toNat 0*d+c) % 4294967296 % 4294967296])+4294967296^(i.toNat+1)*((nthD a i.toNat 0*d+c) / 4294967296)=valN (a.take (i.toNat+1))*d:=by
   rw[val_snoc,take_snoc0,show out.length=i.toNat by omega,Int.pow_succ,Int.add_mul,Int.mul_assoc (4294967296^i.toNat) (nthD a i.toNat 0) d]
   generalize (4294967296:Int)^i.toNat=B at*
   generalize hs:nthD a i.toNat 0*d=s at*
   have e:B*4294967296*((s+c) / 4294967296)=B*(s+c - (s+c) % 4294967296 % 4294967296):=by rw[Int.mul_assoc];congr 1;omega
   rw[e]
   simp only[Int.mul_add,Int.mul_sub]
   omega
  have hdg:Dig (out++[(nthD a i.toNat 0*d+c) % 4294967296 % 4294967296]):=dig_app ho (dig_one (by omega) (by omega))
  repeat' refine And.intro ?_ ?_
  all_goals first|omega|exact ha|exact u64_in (by omega) (by omega)|exact hval|exact hdg|(simp;omega)
 ·have hi2:i.toNat=a.length+1:=by omega
  rw[hi2,List.take_of_length_le (by omega)] at hv
  have hn:=val_nonneg ho
  have hb:=val_bdN ha
  have hc:c=0:=by
   by_cases h:c=0
   ·exact h
   ·have h1:=Int.mul_le_mul_of_nonneg_left (show(1:Int)≤c by omega) (Int.le_of_lt (pow_pos (a.length+1)))
    have h2:valN a*d<4294967296^a.length*4294967296:=Int.lt_of_le_of_lt (Int.mul_le_mul_of_nonneg_left (Int.le_of_lt d1) (val_nonneg ha)) (Int.mul_lt_mul_of_pos_right hb (by decide))
    rw[Int.mul_one,Int.pow_succ] at h1
    rw[Int.pow_succ] at hv
    omega
  rw[hc,Int.mul_zero,Int.add_zero] at hv
  rw[hv]
  repeat' refine And.intro ?_ ?_
  all_goals first|omega|exact ho|rfl
def r104:SCtr:=⟨111,List Int×List Int,.cons (codR (.i .u32)) (.one (codR (.i .u32))),fun a=>(Dig a.1∧Dig a.2)∧a.1.length≤1000000000∧a.2.length≤1000000000,fun a=> .row (.i .u32) (natL (valN a.1*valN a.2))⟩
def Λ104 (a:List Int×List Int):Nat→LoopAnn
 |3=> .inv (Int×List Int) (fun x=>⟨[(0,.row (.i .u32) a.1),(1,.row (.i .u32) a.2),(5,.row (.i .u32) x.2),(6,.si .i64 x.1)],[.dead]⟩)
  (fun s=>(iS s 6,rS (.i .u32) s 5))
  (fun x=>(0≤x.1∧x.1≤(a.2.length:Int))∧x.2=natL (valN a.1*valN (a.2.take x.1.toNat))) (fun x=>((a.2.length:Int) - x.1).toNat) fun _ _=> .look
 |_=> .look
theorem h104:Holds Tryz.prog r104:=by
 refine con0 (L:=[r106,r136,r137]) r104 Λ104 (by grind[h106,h136,h137]) ?_
 rintro⟨a,b⟩ ⟨⟨t,l⟩,q,s⟩
 simp only at t l q s
 refine vcOf (let c:=SId.i .u32;let f:=(↑b.length:Int);0=0∧((((SV.row c a).same (SV.row c a)∧(SV.row c b).same (SV.row c b)∧(SV.row c []).same (SV.row c [])∧(SV.il .i64 0).same (SV.si .i64 0)∧True)∧SObj.dead.same SObj.dead∧True)∧((0:Int)≤(0:Int)∧(0:Int)≤f)∧[]=natL (valN a*valN []))∧∀(x:Int×List Int),let k:=x.fst.toNat;let u:=decide (x.fst<(↑b.length:Int));let w:=nthD b k (0:Int) % (18446744073709551616:Int);let r:=natL (valN a*w);let p:=natL (valN r*(4294967296:Int)^k);let e:=x.fst+(1:Int);let n:=natL (valN x.snd+valN p);let z:=SV.si .i64 e;((0:Int)≤x.fst∧x.fst≤f)∧x.snd=natL (valN a*valN (List.take k b))→(u=true→(0:Int)≤x.fst∧x.fst<(↑b.length:Int)∧k<b.length∧(Dig a∧a.length≤10000000000∧(0:Int)≤w∧w<(4294967296:Int))∧(Dig r∧r.length≤10000000000∧(0:Int)≤x.fst∧x.fst≤(10000000000:Int))∧((Dig x.snd∧Dig p)∧x.snd.length≤10000000000∧p.length≤10000000000)∧inR .i64 e∧(((SV.row c a).same (SV.row c a)∧(SV.row c b).same (SV.row c b)∧(SV.row c n).same (SV.row c n)∧z.same z∧True)∧SObj.dead.same SObj.dead∧True)∧(((0:Int)≤e∧e≤f)∧n=natL (valN a*valN (List.take e.toNat b)))∧(f - e).toNat<(f - x.fst).toNat)∧(u=false→(SV.row c x.snd).same (SV.row c (natL (valN a*valN b))))) (by kernel_rfl) ?_
 simp only[vcs]
 have h:=val_nonneg t
 refine⟨⟨⟨by omega,by omega⟩,by simp[valN,natL,natF]⟩,?_⟩
 rintro⟨i,o⟩ ⟨⟨E,F⟩,B⟩
 simp only at E F B ⊢
 subst B
 have y:=val_nonneg (dig_take l i.toNat)
 have g:=val_bdN (dig_take l i.toNat)
 rw[List.length_take,Nat.min_eq_left (by omega)] at g
 have d:=val_bdN t
 have m:=Int.mul_nonneg h y
 obtain⟨R,I,N⟩:=natL_ok m
 have K:=mul_len h y d g
 refine⟨fun D=>?_,fun D=>?_⟩
 ·have x:=dig_nth l i.toNat
  have H:nthD b i.toNat 0 % 18446744073709551616=nthD b i.toNat 0:=by omega
  have Q:(i+1).toNat=i.toNat+1:=by omega
  have v:=Int.mul_nonneg h x.1
  obtain⟨M,J,G⟩:=natL_ok v
  have O:=mul_len (j:=1) h x.1 d (by omega)
  have C:0≤valN a*nthD b i.toNat 0*4294967296^i.toNat:=Int.mul_nonneg v (Int.le_of_lt (pow_pos _))
  obtain⟨f,k,u⟩:=natL_ok C
  have P:=mul_len (j:=i.toNat+1) v (Int.le_of_lt (pow_pos i.toNat)) (show valN a*nthD b i.toNat 0<4294967296^(a.length+1) from mul_lt_pow h d (by omega)) (by
   omega)
  have A:valN a*valN (b.take i.toNat)+valN a*nthD b i.toNat 0*4294967296^i.toNat=valN a*valN (b.take (i.toNat+1)):=by
   grind[take_snoc0]
  grind
 ·rw[show i.toNat=b.length by omega,List.take_length]
end Go.Vi
