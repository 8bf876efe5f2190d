/-
  Contracts: the reference's table of the worths of all coalitions.
  Conditions: none.
-/
import Derived.Test.YtigbjjkijfkeeaaGreatRA06
import Derived.Test.YtigbjjkijfkeeaaGreatRA07
import Derived.Test.YtigbjjkijfkeeaaGreatRA09
import Derived.KernelRfl
import Derived.Test.YtigbjjkijfkeeaaGreatRA08
set_option maxRecDepth 100000
set_option maxHeartbeats 4000000
set_option linter.unusedSimpArgs false
set_option linter.unusedVariables false
namespace Go.Vi
open Go.Proofs.YtigbjjkijfkeeaaGreat.Ir
open Go.Proofs
def inM (p:Prob) (m i:Int):Prop:=bitI m (nthD p.offers i.toNat SId.off.dflt).bidder=1
instance (p:Prob) (m i:Int):Decidable (inM p m i):=by unfold inM;infer_instance
def srcL (p:Prob) (m:Int):Nat→Int→List Int→Int→Alloc→Alloc
 |0,_,c,v,b=>if b.value<v then⟨c,v⟩ else b
 |k+1,i,c,v,b=>srcL p m k (i+1) c v (if inM p m i then(if feasE p (c++[i])=0 then srcL p m k (i+1) (c++[i]) (v+valI p i) b else b) else b)
abbrev SrA:=Prob×Int×Int×List Int×Int×Alloc
def srD (p:Prob) (m i:Int) (c:List Int) (v:Int) (b:Alloc):Prop:=Good p∧(0≤m∧m<256)∧(0≤i∧i≤p.offers.length)∧(c.length:Int)≤i∧(0≤v∧v≤1000000*i)∧b.chosen.length≤160
def srcC (n:Nat):SCtr:=⟨95,SrA,.cons codP (.cons (codI .i64) (.cons (codI .i64) (.cons (codR (.i .i64)) (.cons (codI .i64) (.one codA))))),
 fun a=>srD a.1 a.2.1 a.2.2.1 a.2.2.2.1 a.2.2.2.2.1 a.2.2.2.2.2∧leftN a.1 a.2.2.1<n,fun a=>codA.put (srcL a.1 a.2.1 (leftN a.1 a.2.2.1) a.2.2.1 a.2.2.2.1 a.2.2.2.2.1 a.2.2.2.2.2)⟩
theorem srcL_len {p:Prob} {m:Int}:∀{k:Nat} {i:Int} {c:List Int} {v:Int} {b:Alloc},(c.length:Int)≤i→i+k≤160→b.chosen.length≤160→(srcL p m k i c v b).chosen.length≤160
 |0,i,c,v,b,h1,h2,h3=>by
  simp only[srcL]
  by_cases h:b.value<v
  ·rw[if_pos h]
   show c.length≤160
   omega
  ·rw[if_neg h]
   exact h3
 |k+1,i,c,v,b,h1,h2,h3=>by
  simp only[srcL]
  have h4:=@srcL_len p m k (i+1) (c++[i]) (v+valI p i) b (by simp only[List.length_append,List.length_singleton];omega) (by omega) h3
  refine srcL_len (by omega) (by omega) ?_
  by_cases hm:inM p m i
  ·rw[if_pos hm]
   by_cases hf:feasE p (c++[i])=0
   ·rw[if_pos hf];exact h4
   ·rw[if_neg hf];exact h3
  ·rw[if_neg hm];exact h3
def MS (n:Nat):List SCtr:=[srcC n,r55]
theorem srcX (n:Nat) (p:Prob) (m i:Int) (c:List Int) (v:Int) (b:Alloc) (h:srD p m i c v b) (hn:leftN p i<n+1):
  Vc (fnK (parL (MS n) OwnT.none tyN mtN fnN) (fun _=> .look) F164 ((srcC (n+1)).A.put (p,m,i,c,v,b)) fun z=>z.same ((srcC (n+1)).res (p,m,i,c,v,b))):=by
 obtain⟨bc,bv⟩:=b
 obtain⟨hg,⟨m0,m1⟩,⟨i0,i1⟩,hc,⟨v0,v1⟩,hb⟩:=h
 simp only at hb
 refine vcOf (let z0:=(↑p.offers.length:Int);let z1:=0+c.length;let z2:=SId.i .i64;let z3:=Alloc.mk bc bv;let z4:=srcL p m (leftN p i) i c v z3;let z5:=SV.agg [SV.row z2 z4.chosen,SV.si .i64 z4.value];let z6:=nthD p.offers i.toNat SId.off.dflt;let z7:=z6.bidder;let z8:=decide (binK.andI .i64 (m / (2:Int)^z7.toNat) (1:Int)=(1:Int));let z9:=c.length+1;let z10:=decide (feasE p (c++[i])=(0:Int));let z11:=i+(1:Int);let z12:=v+z6.value;let z13:=leftN p z11;let z14:=srcL p m z13 z11 (c++[i]) z12 z3;let z15:=srcL p m z13 z11 c v z14;let z16:=srcL p m z13 z11 c v z3;(decide (i=z0)=true→(decide (bv<v)=true→0=0∧z1*8≤140737488355328∧z1≤1000000000000∧c.length=c.length∧(SV.agg [SV.row z2 c,SV.si .i64 v]).same z5)∧(decide (bv<v)=false→(SV.agg [SV.row z2 bc,SV.si .i64 bv]).same z5))∧(decide (i=z0)=false→(0:Int)≤i∧i<z0∧i.toNat<p.offers.length∧inR .u64 z7∧(0:Int)≤z7∧z7≤(64:Int)∧(z8=true→0=0∧z1*8≤140737488355328∧z1≤1000000000000∧c.length=c.length∧z9*8≤140737488355328∧z9≤1000000000000∧(c++[i]).length=(c++[i]).length∧(c++[i]).length≤9223372036854775807∧(z10=true→(c++[i]).length=(c++[i]).length∧inR .i64 z11∧inR .i64 z12∧(srD p m z11 (c++[i]) z12 z3∧z13<n)∧inR .i64 z11∧(srD p m z11 c v z14∧z13<n)∧(SV.agg [SV.row z2 z15.chosen,SV.si .i64 z15.value]).same z5)∧(z10=false→inR .i64 z11∧(srD p m z11 c v z3∧z13<n)∧(SV.agg [SV.row z2 z16.chosen,SV.si .i64 z16.value]).same z5))∧(z8=false→inR .i64 z11∧(srD p m z11 c v z3∧z13<n)∧(SV.agg [SV.row z2 z16.chosen,SV.si .i64 z16.value]).same z5))) (by kernel_rfl) ?_
 simp only[vcs]
 have hN:=hg.2.1
 refine⟨fun he=>?_,fun hne=>?_⟩
 ·have hl:leftN p i=0:=by unfold leftN;omega
  rw[hl]
  simp only[srcL]
  refine⟨fun hlt=>?_,fun hge=>?_⟩
  ·rw[if_pos hlt]
   repeat' refine And.intro ?_ ?_
   all_goals first|omega|rfl
  ·rw[if_neg hge]
   rfl
 ·have hl:leftN p i=leftN p (i+1)+1:=by unfold leftN;omega
  have hx:=hg.2.2.2.2 _ (nthD_mem (d:=SId.off.dflt) (show i.toNat<p.offers.length by omega))
  have h8:=hg.1
  have hlb:leftN p (i+1)<n:=by omega
  have d1:srD p m (i+1) (c++[i]) (v+valI p i) ⟨bc,bv⟩:=⟨hg,⟨m0,m1⟩,⟨by omega,by omega⟩,by simp only[List.length_append,List.length_singleton];omega,⟨by unfold valI;omega,by unfold valI;omega⟩,hb⟩
  have hlen:=@srcL_len p m (leftN p (i+1)) (i+1) (c++[i]) (v+valI p i) ⟨bc,bv⟩ (by simp only[List.length_append,List.length_singleton];omega) (by unfold leftN;omega) hb
  have d2:srD p m (i+1) c v (srcL p m (leftN p (i+1)) (i+1) (c++[i]) (v+valI p i) ⟨bc,bv⟩):=⟨hg,⟨m0,m1⟩,⟨by omega,by omega⟩,by omega,⟨by omega,by omega⟩,hlen⟩
  have d3:srD p m (i+1) c v ⟨bc,bv⟩:=⟨hg,⟨m0,m1⟩,⟨by omega,by omega⟩,by omega,⟨by omega,by omega⟩,hb⟩
  rw[hl]
  simp only[srcL]
  have hv:(nthD p.offers i.toNat SId.off.dflt).value=valI p i:=rfl
  have hi:inR .u64 (nthD p.offers i.toNat SId.off.dflt).bidder:=u64_in hx.1 (by omega)
  rw[hv]
  have hcl:(c++[i]).length=c.length+1:=by simp
  refine⟨i0,by omega,by omega,hi,hx.1,by omega,fun hm=>?_,fun hm=>?_⟩
  ·have hM:inM p m i:=hm
   rw[if_pos hM]
   refine⟨by omega,by omega,by omega,by omega,by omega,fun hf=>?_,fun hf=>?_⟩
   ·rw[if_pos hf]
    have:1≤valI p i∧valI p i≤1000000:=⟨by unfold valI;omega,by unfold valI;omega⟩
    exact⟨by omega,by omega,⟨d1,hlb⟩,by omega,⟨d2,hlb⟩,rfl⟩
   ·rw[if_neg hf]
    exact⟨by omega,⟨d3,hlb⟩,rfl⟩
  ·have hM:¬inM p m i:=hm
   rw[if_neg hM]
   exact⟨by omega,⟨d3,hlb⟩,rfl⟩
theorem hSrc:∀n,Holds Tryz.prog (srcC n)
 |0=>by
  rintro⟨p,m,i,c,v,b⟩ ⟨_,h⟩
  exact absurd h (Nat.not_lt_zero _)
 |n+1=>by
  rintro⟨p,m,i,c,v,b⟩ ⟨h1,h2⟩
  by_cases hc:leftN p i<n
  ·exact hSrc n (p,m,i,c,v,b) ⟨h1,hc⟩
  ·refine conR (L:=MS n) (srcC (n+1)) F164 (fun _=> .look) (OwnOK.none _) (by simp only[MS,List.forall_mem_cons,List.not_mem_nil,false_implies,implies_true,and_true];exact⟨hSrc n,h55⟩)
    (show fnN 95=some F164 by kernel_rfl) (p,m,i,c,v,b) rfl ?_ (srcX n p m i c v b h1 h2)
   intro d hd b2 hb1 hb3
   have hd2:d=srcC n:=by
    have:findC 95 (MS n)=some (srcC n):=rfl
    have hd3:findC 95 (MS n)=some d:=hd
    rw[this] at hd3
    injection hd3 with hd3
    exact hd3.symm
   subst hd2
   have hb:(p,m,i,c,v,b)=b2:=(srcC n).A.inj (p,m,i,c,v,b) b2 hb1
   subst hb
   exact hc hb3.2
theorem perm_V {L M:List Off} (h:L.Perm M):sumV L=sumV M:=by
 induction h with
 |nil=>rfl
 |cons x _ ih=>simp only[sumV];omega
 |swap x y l=>simp only[sumV];omega
 |trans _ _ a b=>omega
theorem perm_B {L M:List Bun} (h:L.Perm M):sumB L=sumB M:=by
 induction h with
 |nil=>rfl
 |cons x _ ih=>rw[sumB_cons,sumB_cons,ih]
 |swap x y l=>
  simp only[sumB_cons,Bun.add,Bun.mk.injEq]
  omega
 |trans _ _ a b=>rw[a,b]
theorem perm_F {p:Prob} {L M:List Off} (h:L.Perm M) (hF:FeasL p L):FeasL p M:=by
 obtain⟨h1,h2,h3⟩:=hF
 refine⟨((h.map _).nodup_iff).1 h1,?_,?_⟩
 ·rw[←perm_B (h.map _)];exact h2
 ·rw[←perm_B (h.map _)];exact h3
theorem idx_filter (q:Off→Bool):∀(O pre:List Off),∃t:List Int,t.Pairwise (·<·)∧(∀j∈t,(pre.length:Int)≤j∧j<pre.length+O.length)∧(t.map fun j=>nthD (pre++O) j.toNat SId.off.dflt)=O.filter q
 |[],pre=>⟨[],by simp,by simp,by simp⟩
 |x::O,pre=>by
  obtain⟨t,h1,h2,h3⟩:=idx_filter q O (pre++[x])
  have e:pre++[x]++O=pre++x::O:=by simp
  rw[e] at h3
  have hl:((pre++[x]).length:Int)=pre.length+1:=by simp
  have hr:∀j∈t,(pre.length:Int)+1≤j∧j<pre.length+1+O.length:=fun j hj=>by
   have:=h2 j hj
   omega
  by_cases hq:q x=true
  ·refine⟨(pre.length:Int)::t,List.pairwise_cons.2 ⟨fun j hj=>by have:=hr j hj;omega,h1⟩,fun j hj=>?_,?_⟩
   ·simp only[List.length_cons]
    rcases List.mem_cons.1 hj with rfl|hj
    ·omega
    ·have:=hr j hj;omega
   ·rw[List.map_cons,h3,List.filter_cons,if_pos hq]
    congr 1
    rw[nthD_eq (by simp)]
    simp
  ·refine⟨t,h1,fun j hj=>?_,?_⟩
   ·have:=hr j hj
    simp only[List.length_cons]
    omega
   ·rw[h3,List.filter_cons,if_neg hq]
theorem keys_nodup {p:Prob}:∀{l:List Off} {seen:List BKey},checkL p seen l=0→(l.map Off.key).Nodup∧∀x∈l,x.key∉seen
 |[],_,_=>by simp
 |o::r,seen,h=>by
  simp only[checkL] at h
  split at h
  ·rename_i h1;exact absurd h h1
  ·split at h
   ·cases h
   ·rename_i h1 h2
    obtain⟨k1,k2⟩:=keys_nodup h
    refine⟨?_,fun x hx=>?_⟩
    ·rw[List.map_cons,List.nodup_cons]
     refine⟨fun hm=>?_,k1⟩
     obtain⟨y,hy,he⟩:=List.mem_map.1 hm
     exact k2 y hy (by simp[he])
    ·rcases List.mem_cons.1 hx with rfl|hx
     ·exact h2
     ·exact fun hm=>k2 x hx (by simp[hm])
theorem nodup_of_map {α β:Type} (f:α→β):∀{l:List α},(l.map f).Nodup→l.Nodup
 |[],_=>by simp
 |x::l,h=>by
  rw[List.map_cons,List.nodup_cons] at h
  exact List.nodup_cons.2 ⟨fun hm=>h.1 (List.mem_map_of_mem hm),nodup_of_map f h.2⟩
theorem offers_nodup {p:Prob} (h:checkE p=0):p.offers.Nodup:=by
 unfold checkE at h
 split at h
 ·rename_i h1;exact absurd h h1
 ·exact nodup_of_map _ (keys_nodup h).1
theorem mem_nodup (m:Int):(memL m).Nodup:=by
 unfold memL
 exact List.Nodup.sublist List.filter_sublist (by decide)
theorem le_of_at {a b:Bun} (h:∀k,k<6→a.at k≤b.at k):a.le b=true:=by
 have h0:=h 0 (by omega)
 have h1:=h 1 (by omega)
 have h2:=h 2 (by omega)
 have h3:=h 3 (by omega)
 have h4:=h 4 (by omega)
 have h5:=h 5 (by omega)
 simp[Bun.at,nthD] at h0 h1 h2 h3 h4 h5
 rw[Bun.le_iff]
 exact⟨h0,h1,h2,h3,h4,h5⟩
theorem feasL_of {p:Prob} {L:List Off} (hn:(L.map Off.bidder).Nodup) (hf:fitsB p L=true):FeasL p L:=by
 refine⟨hn,le_of_at fun k hk=>?_,le_of_at fun k hk=>?_⟩
 ·have h:=fits_iff.1 hf (p.classes.length+k) (by unfold nrows;omega)
  rw[show(((p.classes.length+k:Nat)):Int)=p.classes.length+k by omega,bound_w hk] at h
  rw[at_sum,List.map_map]
  have:sumS p L (p.classes.length+k)=(L.map ((fun b=>Bun.at b k)∘Off.want)).sum:=by
   unfold sumS
   congr 1
   exact List.map_congr_left fun x _=>coef_w hk
  omega
 ·have h:=fits_iff.1 hf (p.classes.length+6+k) (by unfold nrows;omega)
  rw[show(((p.classes.length+6+k:Nat)):Int)=p.classes.length+6+k by omega,bound_o hk] at h
  rw[at_sum,List.map_map]
  have:sumS p L (p.classes.length+6+k)=(L.map ((fun b=>Bun.at b k)∘outS p)).sum:=by
   unfold sumS
   congr 1
   exact List.map_congr_left fun x _=>coef_o hk
  omega
theorem pick_some_inc {l:List Off}:∀{t:List Int} {last:Int} {r:List Off}, -1≤last→pickGo l last t=some r→t.Pairwise (·<·)∧∀j∈t,last<j∧j<l.length
 |[],_,_,_,_=>by simp
 |i::t,last,r,hl,h=>by
  simp only[pickGo] at h
  split at h
  ·cases h
  ·rename_i h1
   obtain⟨r',h2,rfl⟩:=Option.map_eq_some_iff.1 h
   obtain⟨k1,k2⟩:=pick_some_inc (by omega) h2
   refine⟨List.pairwise_cons.2 ⟨fun j hj=>(k2 j hj).1,k1⟩,fun j hj=>?_⟩
   rcases List.mem_cons.1 hj with rfl|hj
   ·omega
   ·have:=k2 j hj;omega
def FeasI (p:Prob) (t:List Int):Prop:=IncR 0 p.offers.length t∧FeasL p (offsI p t)
theorem feas_iff {p:Prob} (hc:checkE p=0) {t:List Int}:feasE p t=0↔FeasI p t:=by
 refine⟨fun h=>?_,fun h=>feas_of hc h.1 h.2⟩
 have hn:=feas_nd h
 obtain⟨q1,q2,hg,q4,q5⟩:=feas_ok h
 obtain⟨r,hr⟩:=Option.isSome_iff_exists.1 q2
 obtain⟨k1,k2⟩:=pick_some_inc (by omega) hr
 have hp:pickL p t=offsI p t:=by simp only[pickL,hr,Option.getD_some,pick_offs hr]
 have hf:fitsB p (offsI p t)=true:=by
  unfold feasE at h
  rw[if_neg (by simp[q1]),if_neg (by simp[q2]),hp] at h
  split at h
  ·cases h
  ·rename_i h1;simpa using h1
 exact⟨⟨k1,fun j hj=>by have:=k2 j hj;omega⟩,feasL_of hn hf⟩
theorem feasI_pre {p:Prob} (hg:Good p) {l m:List Int} (h:FeasI p (l++m)):FeasI p l:=by
 obtain⟨⟨h1,h2⟩,h3⟩:=h
 rw[offsI_append] at h3
 refine⟨⟨(List.pairwise_append.1 h1).1,fun j hj=>h2 j (by simp[hj])⟩,feas_pre hg (fun x hx=>?_) h3⟩
 exact offs_ok hg (l:=m) (fun j hj=>by have:=h2 j (by simp[hj]);omega) x hx
theorem to_idx {p:Prob} (hc:checkE p=0) {L:List Off} (hL:FeasL p L) (hm:∀x∈L,x∈p.offers):∃t,FeasI p t∧(offsI p t).Perm L:=by
 have hn:=offers_nodup hc
 obtain⟨t,t1,t2,t3⟩:=idx_filter (fun x=>decide (x∈L)) p.offers []
 have t4:offsI p t=p.offers.filter fun x=>decide (x∈L):=t3
 have hnd:(p.offers.filter fun x=>decide (x∈L)).Nodup:=List.Nodup.sublist List.filter_sublist hn
 have hperm:L.Perm (offsI p t):=by
  rw[t4]
  refine(List.perm_ext_iff_of_nodup (nodup_of_map _ hL.1) hnd).2 fun x=>?_
  rw[List.mem_filter,decide_eq_true_eq]
  exact⟨fun hx=>⟨hm x hx,hx⟩,fun hx=>hx.2⟩
 exact⟨t,⟨⟨t1,fun j hj=>by have:=t2 j hj;simp only[List.length_nil] at this;omega⟩,perm_F hperm hL⟩,hperm.symm⟩
def sumI (p:Prob) (t:List Int):Int:=sumV (offsI p t)
def Ext2 (p:Prob) (m i:Int) (k:Nat) (c t:List Int):Prop:=IncR i k t∧(∀j∈t,inM p m j)∧(t≠[]→FeasI p (c++t))
theorem incR_wide {i:Int} {k:Nat} {t:List Int} (h:IncR (i+1) k t):IncR i (k+1) t:=⟨h.1,fun j hj=>by have:=h.2 j hj;omega⟩
theorem incR_cons {i:Int} {k:Nat} {t:List Int} (h:IncR (i+1) k t):IncR i (k+1) (i::t):=⟨List.pairwise_cons.2 ⟨fun j hj=>by have:=h.2 j hj;omega,h.1⟩,fun j hj=>by
 rcases List.mem_cons.1 hj with rfl|hj
 ·omega
 ·have:=h.2 j hj;omega⟩
theorem sumI_cons {p:Prob} {i:Int} {t:List Int}:sumI p (i::t)=valI p i+sumI p t:=by
 unfold sumI offsI valI
 simp[sumV]
theorem src_ge {p:Prob} {m:Int} (hc:checkE p=0):∀{k:Nat} {i:Int} {c:List Int} {v:Int} {b:Alloc},b.value≤(srcL p m k i c v b).value∧∀t,Ext2 p m i k c t→v+sumI p t≤(srcL p m k i c v b).value
 |0,i,c,v,b=>by
  simp only[srcL]
  have e:b.value≤(if b.value<v then(⟨c,v⟩:Alloc) else b).value∧v≤(if b.value<v then(⟨c,v⟩:Alloc) else b).value:=by
   by_cases h:b.value<v
   ·rw[if_pos h]
    exact⟨by show b.value≤v;omega,by show v≤v;omega⟩
   ·rw[if_neg h];omega
  refine⟨e.1,fun t ht=>?_⟩
  have:t=[]:=by
   cases t with
   |nil=>rfl
   |cons j t=>have:=ht.1.2 j (by simp);omega
  subst this
  have h0:sumI p []=0:=rfl
  rw[h0]
  omega
 |k+1,i,c,v,b=>by
  have hg:=good_of hc
  simp only[srcL]
  generalize hb2:(if inM p m i then(if feasE p (c++[i])=0 then srcL p m k (i+1) (c++[i]) (v+valI p i) b else b) else b)=b2
  obtain⟨k1,k2⟩:=@src_ge p m hc k (i+1) c v b2
  obtain⟨k3,k4⟩:=@src_ge p m hc k (i+1) (c++[i]) (v+valI p i) b
  have hbb:b.value≤b2.value:=by
   rw[←hb2]
   split
   ·split
    ·exact k3
    ·exact Int.le_refl _
   ·exact Int.le_refl _
  refine⟨by omega,fun t ht=>?_⟩
  cases t with
  |nil=>exact k2 [] ⟨⟨by simp,by simp⟩,by simp,fun h=>absurd rfl h⟩
  |cons j t=>
   have hj:=ht.1.2 j (by simp)
   have hp:=List.pairwise_cons.1 ht.1.1
   have hF:=ht.2.2 (by simp)
   by_cases hji:j=i
   ·subst hji
    have h5:FeasI p ((c++[j])++t):=by simpa using hF
    rw[if_pos (ht.2.1 j (by simp)),if_pos ((feas_iff hc).2 (feasI_pre hg h5))] at hb2
    have:=k4 t ⟨⟨hp.2,fun n hn=>by have a:=hp.1 n hn;have b:=ht.1.2 n (by simp[hn]);omega⟩,fun n hn=>ht.2.1 n (by simp[hn]),fun _=>h5⟩
    rw[hb2] at this
    rw[sumI_cons]
    omega
   ·refine k2 (j::t) ⟨⟨ht.1.1,fun n hn=>?_⟩,ht.2.1,ht.2.2⟩
    have b:=ht.1.2 n hn
    rcases List.mem_cons.1 hn with rfl|hn
    ·omega
    ·have a:=hp.1 n hn;omega
theorem src_hit {p:Prob} {m:Int} (hc:checkE p=0):∀{k:Nat} {i:Int} {c:List Int} {v:Int} {b:Alloc},(srcL p m k i c v b).value=b.value∨∃t,Ext2 p m i k c t∧(srcL p m k i c v b).value=v+sumI p t
 |0,i,c,v,b=>by
  simp only[srcL]
  split
  ·exact .inr ⟨[],⟨⟨by simp,by simp⟩,by simp,fun h=>absurd rfl h⟩,by show v=v+0;omega⟩
  ·exact .inl rfl
 |k+1,i,c,v,b=>by
  simp only[srcL]
  generalize hb2:(if inM p m i then(if feasE p (c++[i])=0 then srcL p m k (i+1) (c++[i]) (v+valI p i) b else b) else b)=b2
  rcases @src_hit p m hc k (i+1) c v b2 with h|⟨t,h1,h2⟩
  ·rw[h,←hb2]
   split
   ·rename_i hm
    split
    ·rename_i hf
     rcases @src_hit p m hc k (i+1) (c++[i]) (v+valI p i) b with h3|⟨t,h3,h4⟩
     ·exact .inl h3
     ·refine .inr ⟨i::t,⟨incR_cons h3.1,fun j hj=>?_,fun _=>?_⟩,by rw[h4,sumI_cons];omega⟩
      ·rcases List.mem_cons.1 hj with rfl|hj
       ·exact hm
       ·exact h3.2.1 j hj
      ·by_cases ht:t=[]
       ·subst ht;exact(feas_iff hc).1 hf
       ·simpa using h3.2.2 ht
    ·exact .inl rfl
   ·exact .inl rfl
  ·exact .inr ⟨t,⟨incR_wide h1.1,h1.2.1,h1.2.2⟩,h2⟩
theorem bitI_one {m f:Int} (hm:0≤m) (hm2:m<256) (hf:0≤f) (hf2:f<8):bitI m f=1↔f∈memL m:=by
 have h:=(bit_del hm hm2 hf hf2).1
 have hin:f∈([0,1,2,3,4,5,6,7]:List Int):=by
  have:f=0∨f=1∨f=2∨f=3∨f=4∨f=5∨f=6∨f=7:=by omega
  simpa using this
 unfold memL
 rw[List.mem_filter,decide_eq_true_eq]
 constructor
 ·intro h1
  exact⟨hin,by omega⟩
 ·rintro⟨_,h1⟩
  rcases h with h|h
  ·exact absurd h h1
  ·exact h
theorem incR_mem {p:Prob} {t:List Int} (h:IncR 0 p.offers.length t) {x:Off} (hx:x∈offsI p t):∃j∈t,x=nthD p.offers j.toNat SId.off.dflt∧x∈p.offers:=by
 unfold offsI at hx
 obtain⟨j,hj,rfl⟩:=List.mem_map.1 hx
 have:=h.2 j hj
 exact⟨j,hj,rfl,nthD_mem (by omega)⟩
theorem src_worth {p:Prob} {m:Int} (hc:checkE p=0) (m0:0≤m) (m1:m<2^p.classes.length):(srcL p m p.offers.length 0 [] 0 ⟨[],0⟩).value=bestS p ⟨m,p.supply,p.opn⟩:=by
 have hg:=good_of hc
 have h2:=pow_n hg.1
 have h8:=hg.1
 have q1:=Bun.ok_iff.1 hg.2.2.1
 have q2:=Bun.ok_iff.1 hg.2.2.2.1
 have z1:Bun.zero.le p.supply=true:=by rw[Bun.le_iff];simp only[Bun.zero];omega
 have z2:Bun.zero.le p.opn=true:=by rw[Bun.le_iff];simp only[Bun.zero];omega
 have hb:bestS p ⟨m,p.supply,p.opn⟩=valL p (memL m) p.supply p.opn:=rfl
 rw[hb]
 have hmem:∀x∈p.offers,bitI m x.bidder=1↔x.bidder∈memL m:=fun x hx=>by
  have:=hg.2.2.2.2 x hx
  exact bitI_one m0 (by omega) this.1 (by omega)
 apply Int.le_antisymm
 ·have hfit:∀t,Ext2 p m 0 p.offers.length [] t→sumI p t≤valL p (memL m) p.supply p.opn:=fun t ht=>by
   by_cases h0:t=[]
   ·subst h0
    exact fit_le hg (L:=[]) ⟨by simp,by simp,z1,z2⟩
   ·have hF:FeasI p t:=by simpa using ht.2.2 h0
    refine fit_le hg ⟨hF.2.1,fun x hx=>?_,hF.2.2.1,hF.2.2.2⟩
    obtain⟨j,hj,hxj,hxo⟩:=incR_mem hF.1 hx
    have hm:=ht.2.1 j hj
    unfold inM at hm
    rw[←hxj] at hm
    exact⟨hxo,(hmem x hxo).1 hm⟩
  rcases @src_hit p m hc p.offers.length 0 [] 0 ⟨[],0⟩ with h|⟨t,h1,h3⟩
  ·rw[h]
   exact hfit [] ⟨⟨by simp,by simp⟩,by simp,fun h=>absurd rfl h⟩
  ·rw[h3,Int.zero_add]
   exact hfit t h1
 ·obtain⟨L,hL,hv⟩:=fit_at hg (mem_nodup m) z1 z2
  rw[←hv]
  obtain⟨t,ht,hperm⟩:=to_idx hc (L:=L) ⟨hL.nd,hL.w,hL.o⟩ (fun x hx=>(hL.mem x hx).1)
  have hs:sumV L=sumI p t:=(perm_V hperm).symm
  rw[hs]
  have:=(@src_ge p m hc p.offers.length 0 [] 0 ⟨[],0⟩).2 t ⟨ht.1,fun j hj=>?_,fun _=>by simpa using ht⟩
  ·omega
  ·have hx:nthD p.offers j.toNat SId.off.dflt∈L:=hperm.mem_iff.1 (List.mem_map.2 ⟨j,hj,rfl⟩)
   have h1:=hL.mem _ hx
   exact(hmem _ h1.1).2 h1.2
theorem howO {i u v:Nat} (h:u=v):(SV.ow i u 1).same (SV.ow i v 1):=by subst h;rfl
theorem valsL {p:Prob}:∀{c l:List Int},(c.foldl (setV p) l).length=l.length
 |[],l=>rfl
 |i::c,l=>by
  rw[List.foldl_cons,valsL]
  unfold setV
  rw[List.length_set]
theorem vals_lenN {p:Prob} {c:List Int}:(valsS p c).length=p.classes.length:=by
 unfold valsS
 rw[valsL,List.length_replicate]
theorem vals_succ {p:Prob} {c:List Int} {i:Nat} (h:i<c.length):valsS p (c.take (i+1))=setV p (valsS p (c.take i)) (nthD c i 0):=by
 rw[take_snoc h]
 unfold valsS
 rw[List.foldl_append]
 rfl
def srcA (p:Prob) (m:Int):Alloc:=if faultE p m=0 then srcL p m p.offers.length 0 [] 0 ⟨[],0⟩ else⟨[],0⟩
def r150:SCtr:=⟨87,Prob×Int,.cons codP (.one (codI .i64)),fun _=>True,fun a=> .tup [codA.put (srcA a.1 a.2),.si .i64 (faultE a.1 a.2)]⟩
theorem h150:Holds Tryz.prog r150:=by
 refine con (L:=[r24,srcC 161]) r150 F150 (fun _ _=> .look) (OwnOK.none _) (by simpa using⟨h24,hSrc 161⟩) (by kernel_rfl) (by kernel_rfl) (fun _=>rfl) ?_
 rintro⟨p,m⟩ -
 refine vcOf (let z0:=decide (checkE p≠(0:Int));let z1:=SId.i .i64;let z2:=[SV.il .i64 0];let z3:=SV.agg (SV.row z1 []::z2);let z4:=SV.tup [SV.agg [SV.row z1 (srcA p m).chosen,SV.si .i64 (srcA p m).value],SV.si .i64 (faultE p m)];let z5:=decide (m<(0:Int));let z6:=(↑p.classes.length:Int);let z7:=(1:Int)*(2:Int)^z6.toNat;let z8:=Alloc.mk [] (0:Int);let z9:=srcL p m (leftN p (0:Int)) (0:Int) [] (0:Int) z8;True∧(z0=true→(SV.tup [z3,SV.si .i64 (checkE p)]).same z4)∧(z0=false→(z5=true→(SV.tup [z3,SV.il .i64 4]).same z4)∧(z5=false→(0:Int)≤z6∧z6≤(64:Int)∧inR .i64 z7∧(decide (z7≤m)=true→(SV.tup [z3,SV.il .i64 4]).same z4)∧(decide (z7≤m)=false→(srD p m (0:Int) [] (0:Int) z8∧leftN p (0:Int)<161)∧(SV.tup (SV.agg [SV.row z1 z9.chosen,SV.si .i64 z9.value]::z2)).same z4)))) (by kernel_rfl) ?_
 simp only[vcs]
 refine⟨fun hne=>?_,fun hz=>?_⟩
 ·have hf:faultE p m=checkE p:=by unfold faultE;rw[if_pos hne]
  unfold srcA
  rw[hf,if_neg hne]
  exact⟨rfl,rfl⟩
 have hz:checkE p=0:=by simpa using hz
 have hg:=good_of hz
 have h2:=pow_n hg.1
 have h8:=hg.1
 have e0:(1:Int)*2^((p.classes.length:Int)).toNat=2^p.classes.length:=by rw[Int.one_mul,Int.toNat_natCast]
 rw[e0]
 have four:(m<0∨2^p.classes.length≤m)→faultE p m=4∧srcA p m=⟨[],0⟩:=fun h=>by
  have hf:faultE p m=4:=by unfold faultE;rw[if_neg (by omega),if_pos h]
  refine⟨hf,?_⟩
  unfold srcA
  rw[hf]
  rfl
 refine⟨fun hm=>?_,fun hm=>⟨by omega,by omega,by omega,fun hm2=>?_,fun hm2=>?_⟩⟩
 ·obtain⟨w1,w2⟩:=four (.inl hm)
  rw[w1,w2]
  exact⟨rfl,rfl⟩
 ·obtain⟨w1,w2⟩:=four (.inr hm2)
  rw[w1,w2]
  exact⟨rfl,rfl⟩
 ·have hf:faultE p m=0:=by unfold faultE;rw[if_neg (by omega),if_neg (by omega)]
  have hl:leftN p 0=p.offers.length:=by unfold leftN;omega
  have hN:=hg.2.1
  have e:srcA p m=srcL p m p.offers.length 0 [] 0 ⟨[],0⟩:=by unfold srcA;rw[if_pos hf]
  rw[hf,e,hl]
  exact⟨⟨⟨hg,⟨by omega,by omega⟩,⟨by omega,by omega⟩,by simp,⟨by omega,by omega⟩,by simp⟩,by omega⟩,rfl,rfl⟩
def r123:SCtr:=⟨59,Prob×Int,.cons codP (.one (codI .i64)),fun _=>True,fun a=> .tup [.si .i64 (srcA a.1 a.2).value,.si .i64 (faultE a.1 a.2)]⟩
theorem h123:Holds Tryz.prog r123:=by
 refine con (L:=[r150]) r123 F123 (fun _ _=> .look) (OwnOK.none _) (by simpa using h150) (by kernel_rfl) (by kernel_rfl) (fun _=>rfl) ?_
 rintro⟨p,m⟩ -
 refine vcOf (let z0:=SV.tup [SV.si .i64 (srcA p m).value,SV.si .i64 (faultE p m)];True∧z0.same z0) (by kernel_rfl) ?_
 simp only[vcs]
def r90:SCtr:=⟨37,Prob,.one codP,fun _=>True,fun p=> .tup [.row (.i .i64) (if checkE p=0 then tabS p else[]),.si .i64 (checkE p)]⟩
def Λ90 (p:Prob):Nat→LoopAnn
 |6=> .inv (Int×List Int) (fun x=>⟨[(1,.ptr 0 0 20),(5,.ow 1 x.2.length 1),(6,.si .i64 x.1)],[.cells p.ss 27 20 false,.row (.i .i64) x.2 2 true]⟩) (fun s=>(iS s 6,oS (.i .i64) s 1))
  (fun x=>(0≤x.1∧x.1≤2^p.classes.length)∧x.2=tabP p x.1.toNat) (fun x=>(2^p.classes.length - x.1).toNat) fun _ _=> .look
 |_=> .look
theorem h90:Holds Tryz.prog r90:=by
 refine con (L:=[r24,r123]) r90 F90 Λ90 (OwnOK.none _) (by simpa using⟨h24,h123⟩) (by kernel_rfl) (by kernel_rfl) (fun _=>rfl) ?_
 rintro(p:Prob) -
 refine vcOf (let z0:=decide (checkE p≠(0:Int));let z1:=SId.i .i64;let z2:=[SV.si .i64 (checkE p)];let z3:=SV.tup (SV.row z1 (if checkE p=(0:Int) then tabS p else[])::z2);let z4:=SV.ptr 0 0 20;let z5:=SV.ow 1 0 1;let z6:=SV.il .i64 0;let z7:=SObj.cells [SV.si .i64 p.supply.a0,SV.si .i64 p.supply.a1,SV.si .i64 p.supply.a2,SV.si .i64 p.supply.a3,SV.si .i64 p.supply.a4,SV.si .i64 p.supply.a5,SV.si .i64 p.opn.a0,SV.si .i64 p.opn.a1,SV.si .i64 p.opn.a2,SV.si .i64 p.opn.a3,SV.si .i64 p.opn.a4,SV.si .i64 p.opn.a5,SV.si .i64 p.cls.a0,SV.si .i64 p.cls.a1,SV.si .i64 p.cls.a2,SV.si .i64 p.cls.a3,SV.si .i64 p.cls.a4,SV.si .i64 p.cls.a5,SV.row z1 p.classes,SV.row SId.off p.offers] 27 20 false;let z8:=SObj.row z1 [] 2 true;let z9:=(2:Int)^p.classes.length;let z10:=(↑p.classes.length:Int);let z11:=(1:Int)*(2:Int)^z10.toNat;True∧(z0=true→(SV.tup (SV.row z1 []::z2)).same z3)∧(z0=false→(((z4.same z4∧z5.same z5∧z6.same (SV.si .i64 0)∧True)∧z7.same z7∧z8.same z8∧True)∧((0:Int)≤(0:Int)∧(0:Int)≤z9)∧[]=tabP p 0)∧∀(x:Int×List Int),let z12:=decide (x.fst<z11);let z13:=x.snd.length+1;let z14:=x.fst+(1:Int);let z15:=x.snd++[(srcA p x.fst).value];let z16:=SV.si .i64 z14;let z17:=SObj.row z1 z15 2 true;((0:Int)≤x.fst∧x.fst≤z9)∧x.snd=tabP p x.fst.toNat→(0:Int)≤z10∧z10≤(64:Int)∧inR .i64 z11∧(z12=true→True∧x.snd.length=x.snd.length∧z13*8≤140737488355328∧z13≤1000000000000∧inR .i64 z14∧((z4.same z4∧(SV.ow 1 z15.length 1).same (SV.ow 1 z15.length 1)∧z16.same z16∧True)∧z7.same z7∧z17.same z17∧True)∧(((0:Int)≤z14∧z14≤z9)∧z15=tabP p z14.toNat)∧(z9 - z14).toNat<(z9 - x.fst).toNat)∧(z12=false→x.snd.length=x.snd.length∧(SV.tup [SV.row z1 x.snd,z6]).same z3))) (by kernel_rfl) ?_
 simp only[vcs]
 refine⟨fun hne=>?_,fun hz=>?_⟩
 ·rw[if_neg hne]
 have hz:checkE p=0:=by simpa using hz
 have hg:=good_of hz
 have h2:=pow_n hg.1
 have h8:=hg.1
 have e0:(1:Int)*2^((p.classes.length:Int)).toNat=2^p.classes.length:=by rw[Int.one_mul,Int.toNat_natCast]
 have c0:((2^p.classes.length:Nat):Int)=2^p.classes.length:=by push_cast;rfl
 rw[e0]
 refine⟨⟨⟨by omega,by omega⟩,rfl⟩,?_⟩
 rintro⟨i,out⟩ ⟨⟨i0,i1⟩,ho⟩
 simp only at i0 i1 ho ⊢
 subst ho
 have hol:(tabP p i.toNat).length=i.toNat:=by simp[tabP]
 refine⟨by omega,by omega,by omega,fun hi=>?_,fun hi=>?_⟩
 ·have hf:faultE p i=0:=by unfold faultE;rw[if_neg (by omega),if_neg (by omega)]
  have hsv:(srcA p i).value=bestS p ⟨i,p.supply,p.opn⟩:=by
   unfold srcA
   rw[if_pos hf]
   exact src_worth hz i0 hi
  have hsucc:tabP p (i+1).toNat=tabP p i.toNat++[bestS p ⟨i,p.supply,p.opn⟩]:=by
   unfold tabP
   rw[show(i+1).toNat=i.toNat+1 by omega,List.range_succ,List.map_append,List.map_cons,List.map_nil,show((i.toNat:Nat):Int)=i by omega]
  rw[hsv]
  repeat' refine And.intro ?_ ?_
  all_goals first|omega|exact hsucc.symm|rfl|trivial
 ·rw[if_pos hz,hz]
  have:i.toNat=2^p.classes.length:=by omega
  unfold tabS
  rw[this]
  repeat' refine And.intro ?_ ?_
  all_goals first|omega|rfl
def faultC (p:Prob) (c:List Int):Int:=if feasE p c≠0 then feasE p c else checkE p
def r89:SCtr:=⟨36,Prob×Alloc,.cons codP (.one codA),fun a=>a.2.chosen.length≤9223372036854775807,fun a=> .si .i64 (faultC a.1 a.2.chosen)⟩
theorem h89:Holds Tryz.prog r89:=by
 refine con (L:=[r55,r90]) r89 F89 (fun _ _=> .look) (OwnOK.none _) (by simpa using⟨h55,h90⟩) (by kernel_rfl) (by kernel_rfl) (fun _=>rfl) ?_
 rintro⟨p,⟨c,v⟩⟩ h
 refine vcOf (let z0:=decide (feasE p c≠(0:Int));let z1:=SV.si .i64 (faultC p c);c.length≤9223372036854775807∧(z0=true→(SV.si .i64 (feasE p c)).same z1)∧(z0=false→True∧(SV.si .i64 (checkE p)).same z1)) (by kernel_rfl) ?_
 simp only[vcs]
 unfold faultC
 refine⟨h,fun hne=>by rw[if_pos hne],fun hz=>?_⟩
 rw[if_neg hz]
def Λ101 (a:Prob×Alloc):Nat→LoopAnn
 |5=> .inv (Int×List Int) (fun x=>⟨[(2,.ptr 0 0 20),(5,.ow 2 x.2.length 1),(18,.row (.i .i64) a.2.chosen),(19,.si .i64 a.2.chosen.length),(20,.si .i64 x.1)],[.cells a.1.ss 27 20 false,.cells [.row (.i .i64) a.2.chosen,.si .i64 a.2.value] 29 2 false,.row (.i .i64) x.2 2 true]⟩) (fun s=>(iS s 20,oS (.i .i64) s 2))
  (fun x=>(0≤x.1∧x.1≤a.2.chosen.length)∧x.2=valsS a.1 (a.2.chosen.take x.1.toNat)) (fun x=>(a.2.chosen.length - x.1).toNat) fun _ _=> .look
 |_=> .look
def r101:SCtr:=⟨23,Prob×Alloc,.cons codP (.one codA),fun a=>a.2.chosen.length≤9223372036854775807,fun a=> .row (.i .i64) (if feasE a.1 a.2.chosen=0 then valsS a.1 a.2.chosen else[])⟩
theorem h101:Holds Tryz.prog r101:=by
 refine con (L:=[r100]) r101 F101 Λ101 (OwnOK.none _) (by simpa using h100) (by kernel_rfl) (by kernel_rfl) (fun _=>rfl) ?_
 rintro⟨p,⟨c,v⟩⟩ h
 refine vcOf (let z0:=decide (feasE p c≠(0:Int));let z1:=SId.i .i64;let z2:=SV.row z1 (if feasE p c=(0:Int) then valsS p c else[]);let z3:=(↑p.classes.length:Int);let z4:=SV.ptr 0 0 20;let z5:=List.replicate z3.toNat (0:Int);let z6:=(↑c.length:Int);let z7:=SV.si .i64 z6;let z8:=SObj.cells [SV.si .i64 p.supply.a0,SV.si .i64 p.supply.a1,SV.si .i64 p.supply.a2,SV.si .i64 p.supply.a3,SV.si .i64 p.supply.a4,SV.si .i64 p.supply.a5,SV.si .i64 p.opn.a0,SV.si .i64 p.opn.a1,SV.si .i64 p.opn.a2,SV.si .i64 p.opn.a3,SV.si .i64 p.opn.a4,SV.si .i64 p.opn.a5,SV.si .i64 p.cls.a0,SV.si .i64 p.cls.a1,SV.si .i64 p.cls.a2,SV.si .i64 p.cls.a3,SV.si .i64 p.cls.a4,SV.si .i64 p.cls.a5,SV.row z1 p.classes,SV.row SId.off p.offers] 27 20 false;let z9:=SObj.cells [SV.row z1 c,SV.si .i64 v] 29 2 false;let z10:=SObj.row z1 z5 2 true;c.length≤9223372036854775807∧(z0=true→(SV.row z1 []).same z2)∧(z0=false→(0:Int)≤z3∧z3≤z3∧z3*(8:Int)≤(140737488355328:Int)∧z3≤(1000000000000:Int)∧(((z4.same z4∧(SV.ow 2 z3.toNat 1).same (SV.ow 2 z5.length 1)∧(SV.row z1 c).same (SV.row z1 c)∧(SV.si .i64 (↑c.length:Int)).same z7∧(SV.il .i64 0).same (SV.si .i64 0)∧True)∧z8.same z8∧z9.same z9∧z10.same z10∧True)∧((0:Int)≤(0:Int)∧(0:Int)≤z6)∧z5=valsS p [])∧∀(x:Int×List Int),let z11:=nthD c x.fst.toNat (0:Int);let z12:=x.snd.length;let z13:=nthD p.offers z11.toNat SId.off.dflt;let z14:=x.fst+(1:Int);let z15:=x.snd.set z13.bidder.toNat z13.value;let z16:=SV.si .i64 z14;let z17:=SObj.row z1 z15 2 true;((0:Int)≤x.fst∧x.fst≤z6)∧x.snd=valsS p (List.take x.fst.toNat c)→(decide (x.fst<z6)=true→(0:Int)≤x.fst∧x.fst<(↑c.length:Int)∧x.fst.toNat<c.length∧(0:Int)≤z11∧z11<(↑p.offers.length:Int)∧z11.toNat<p.offers.length∧(0:Int)≤z11∧z11<(↑p.offers.length:Int)∧z11.toNat<p.offers.length∧x.snd.length=z12∧(0:Int)≤z13.bidder∧z13.bidder<(↑z12:Int)∧x.snd.length=z12∧z13.bidder.toNat<z12∧inR .i64 z14∧((z4.same z4∧(SV.ow 2 x.snd.length 1).same (SV.ow 2 z15.length 1)∧(SV.row z1 c).same (SV.row z1 c)∧z7.same z7∧z16.same z16∧True)∧z8.same z8∧z9.same z9∧z17.same z17∧True)∧(((0:Int)≤z14∧z14≤z6)∧z15=valsS p (List.take z14.toNat c))∧(z6 - z14).toNat<(z6 - x.fst).toNat)∧(decide (x.fst<z6)=false→x.snd.length=z12∧(SV.row z1 x.snd).same z2))) (by kernel_rfl) ?_
 simp only[vcs]
 have hc1:c.length≤9223372036854775807:=h
 refine⟨hc1,fun hne=>?_,fun hz=>?_⟩
 ·rw[if_neg hne]
 have hz:feasE p c=0:=by simpa using hz
 obtain⟨_,_,hg,hcl,hix⟩:=feas_ok hz
 have h8:=hg.1
 have hN:=hg.2.1
 rw[if_pos hz]
 refine⟨by omega,by omega,by omega,by omega,?_,?_⟩
 ·repeat' refine And.intro ?_ ?_
  all_goals first|omega|exact howO (by simp)|rfl|trivial
 rintro⟨i,out⟩ ⟨⟨i0,i1⟩,ho⟩
 simp only at i0 i1 ho ⊢
 subst ho
 have hl:=@vals_lenN p (c.take i.toNat)
 refine⟨fun hi=>?_,fun hi=>?_⟩
 ·have hj:=hix (nthD c i.toNat 0) (nthD_mem (by omega))
  have hx:=hg.2.2.2.2 _ (nthD_mem (d:=SId.off.dflt) (show(nthD c i.toNat 0).toNat<p.offers.length by omega))
  have hs:=vals_succ (p:=p) (show i.toNat<c.length by omega)
  have e:(i+1).toNat=i.toNat+1:=by omega
  rw[e,hs]
  repeat' refine And.intro ?_ ?_
  all_goals first|omega|exact howO (by simp)|rfl|trivial
 ·have:i.toNat=c.length:=by omega
  rw[this,List.take_length]
  repeat' refine And.intro ?_ ?_
  all_goals first|omega|rfl
def r87:SCtr:=⟨31,Prob×Alloc,.cons codP (.one codA),fun a=>a.2.chosen.length≤9223372036854775807,fun a=> .tup [.row (.i .i64) (if faultC a.1 a.2.chosen=0 then tabS a.1 else[]),.row (.i .i64) (if faultC a.1 a.2.chosen=0 then valsS a.1 a.2.chosen else[]),.si .i64 (faultC a.1 a.2.chosen)]⟩
theorem h87:Holds Tryz.prog r87:=by
 refine con (L:=[r100,r121,r101]) r87 F87 (fun _ _=> .look) (OwnOK.none _) (by simpa using⟨h100,h121,h101⟩) (by kernel_rfl) (by kernel_rfl) (fun _=>rfl) ?_
 rintro⟨p,⟨c,v⟩⟩ h
 refine vcOf (let z0:=decide (feasE p c≠(0:Int));let z1:=SId.i .i64;let z2:=SV.row z1 [];let z3:=SV.tup [SV.row z1 (if faultC p c=(0:Int) then tabS p else[]),SV.row z1 (if faultC p c=(0:Int) then valsS p c else[]),SV.si .i64 (faultC p c)];let z4:=decide (checkE p≠(0:Int));c.length≤9223372036854775807∧(z0=true→(SV.tup [z2,z2,SV.si .i64 (feasE p c)]).same z3)∧(z0=false→True∧(z4=true→(SV.tup [z2,z2,SV.si .i64 (checkE p)]).same z3)∧(z4=false→c.length≤9223372036854775807∧(SV.tup [SV.row z1 (if checkE p=(0:Int) then tabS p else[]),SV.row z1 (if feasE p c=(0:Int) then valsS p c else[]),SV.il .i64 0]).same z3))) (by kernel_rfl) ?_
 simp only[vcs]
 unfold faultC
 refine⟨h,fun hne=>?_,fun hz=>⟨fun hne=>?_,fun hz2=>?_⟩⟩
 ·simp only[if_pos hne,if_neg hne]
  first|trivial|exact⟨trivial,trivial,trivial⟩|exact⟨rfl,rfl,rfl⟩
 ·have hz:feasE p c=0:=by simpa using hz
  obtain⟨hc,_⟩:=feas_ok hz
  exact absurd hc hne
 ·have hz:feasE p c=0:=by simpa using hz
  have hz2:checkE p=0:=by simpa using hz2
  simp only[hz,hz2,ne_eq,not_true_eq_false,if_false,if_true]
  first|exact h|exact⟨h,trivial⟩|exact⟨h,trivial,trivial⟩|exact⟨h,trivial,trivial,trivial⟩|exact⟨h,rfl,rfl,rfl⟩
def Λ57 (a:Prob×Alloc):Nat→LoopAnn
 |3=> .inv (Int×List Int) (fun x=>⟨[(2,.ptr 0 0 20),(3,.ptr 1 0 2),(5,.ow 2 x.2.length 1),(6,.si .i64 x.1)],[.cells a.1.ss 27 20 false,.cells [.row (.i .i64) a.2.chosen,.si .i64 a.2.value] 29 2 false,.row (.i .i64) x.2 2 true]⟩) (fun s=>(iS s 6,oS (.i .i64) s 2))
  (fun x=>(0≤x.1∧x.1≤a.2.chosen.length)∧x.2=valsS a.1 (a.2.chosen.take x.1.toNat)) (fun x=>(a.2.chosen.length - x.1).toNat) fun _ _=> .look
 |_=> .look
def r57:SCtr:=⟨27,Prob×Alloc,.cons codP (.one codA),fun a=>feasE a.1 a.2.chosen=0,fun a=> .row (.i .i64) (valsS a.1 a.2.chosen)⟩
theorem h57:Holds Tryz.prog r57:=by
 refine con (L:=[]) r57 F57 Λ57 (OwnOK.none _) (by simp) (by kernel_rfl) (by kernel_rfl) (fun _=>rfl) ?_
 rintro⟨p,⟨c,v⟩⟩ h
 refine vcOf (let z0:=(↑p.classes.length:Int);let z1:=SV.ptr 0 0 20;let z2:=SV.ptr 1 0 2;let z3:=List.replicate z0.toNat (0:Int);let z4:=SId.i .i64;let z5:=SObj.cells [SV.si .i64 p.supply.a0,SV.si .i64 p.supply.a1,SV.si .i64 p.supply.a2,SV.si .i64 p.supply.a3,SV.si .i64 p.supply.a4,SV.si .i64 p.supply.a5,SV.si .i64 p.opn.a0,SV.si .i64 p.opn.a1,SV.si .i64 p.opn.a2,SV.si .i64 p.opn.a3,SV.si .i64 p.opn.a4,SV.si .i64 p.opn.a5,SV.si .i64 p.cls.a0,SV.si .i64 p.cls.a1,SV.si .i64 p.cls.a2,SV.si .i64 p.cls.a3,SV.si .i64 p.cls.a4,SV.si .i64 p.cls.a5,SV.row z4 p.classes,SV.row SId.off p.offers] 27 20 false;let z6:=SObj.cells [SV.row z4 c,SV.si .i64 v] 29 2 false;let z7:=SObj.row z4 z3 2 true;let z8:=(↑c.length:Int);(0:Int)≤z0∧z0≤z0∧z0*(8:Int)≤(140737488355328:Int)∧z0≤(1000000000000:Int)∧(((z1.same z1∧z2.same z2∧(SV.ow 2 z0.toNat 1).same (SV.ow 2 z3.length 1)∧(SV.il .i64 0).same (SV.si .i64 0)∧True)∧z5.same z5∧z6.same z6∧z7.same z7∧True)∧((0:Int)≤(0:Int)∧(0:Int)≤z8)∧z3=valsS p [])∧∀(x:Int×List Int),let z9:=decide (x.fst<(↑c.length:Int));let z10:=nthD c x.fst.toNat (0:Int);let z11:=x.snd.length;let z12:=nthD p.offers z10.toNat SId.off.dflt;let z13:=x.fst+(1:Int);let z14:=x.snd.set z12.bidder.toNat z12.value;let z15:=SV.si .i64 z13;let z16:=SObj.row z4 z14 2 true;((0:Int)≤x.fst∧x.fst≤z8)∧x.snd=valsS p (List.take x.fst.toNat c)→(z9=true→(0:Int)≤x.fst∧x.fst<(↑c.length:Int)∧x.fst.toNat<c.length∧(0:Int)≤z10∧z10<(↑p.offers.length:Int)∧z10.toNat<p.offers.length∧x.snd.length=z11∧(0:Int)≤z12.bidder∧z12.bidder<(↑z11:Int)∧x.snd.length=z11∧z12.bidder.toNat<z11∧inR .i64 z13∧((z1.same z1∧z2.same z2∧(SV.ow 2 x.snd.length 1).same (SV.ow 2 z14.length 1)∧z15.same z15∧True)∧z5.same z5∧z6.same z6∧z16.same z16∧True)∧(((0:Int)≤z13∧z13≤z8)∧z14=valsS p (List.take z13.toNat c))∧(z8 - z13).toNat<(z8 - x.fst).toNat)∧(z9=false→x.snd.length=z11∧(SV.row z4 x.snd).same (SV.row z4 (valsS p c)))) (by kernel_rfl) ?_
 simp only[vcs]
 have hz:feasE p c=0:=h
 obtain⟨_,_,hg,hcl,hix⟩:=feas_ok hz
 have h8:=hg.1
 have hN:=hg.2.1
 refine⟨by omega,by omega,by omega,by omega,?_,?_⟩
 ·repeat' refine And.intro ?_ ?_
  all_goals first|omega|exact howO (by simp)|rfl|trivial
 rintro⟨i,out⟩ ⟨⟨i0,i1⟩,ho⟩
 simp only at i0 i1 ho ⊢
 subst ho
 have hl:=@vals_lenN p (c.take i.toNat)
 refine⟨fun hi=>?_,fun hi=>?_⟩
 ·have hj:=hix (nthD c i.toNat 0) (nthD_mem (by omega))
  have hx:=hg.2.2.2.2 _ (nthD_mem (d:=SId.off.dflt) (show(nthD c i.toNat 0).toNat<p.offers.length by omega))
  have hs:=vals_succ (p:=p) (show i.toNat<c.length by omega)
  have e:(i+1).toNat=i.toNat+1:=by omega
  rw[e,hs]
  repeat' refine And.intro ?_ ?_
  all_goals first|omega|exact howO (by simp)|rfl|trivial
 ·have:i.toNat=c.length:=by omega
  rw[this,List.take_length]
  repeat' refine And.intro ?_ ?_
  all_goals first|omega|rfl
theorem and_one {p:Int} (p0:0≤p) (p1:p<9223372036854775808):binK.andI .i64 p 1=p % 2:=by
 obtain⟨m,rfl⟩:=Int.eq_ofNat_of_zero_le p0
 have h1:(BitVec.ofInt 64 ((m:Nat):Int)).toNat=m:=by rw[BitVec.toNat_ofInt];omega
 have h2:(BitVec.ofInt 64 1).toNat=1:=by rw[BitVec.toNat_ofInt];rfl
 have h3:(BitVec.ofInt 64 ((m:Nat):Int) &&&BitVec.ofInt 64 1).toNat=m % 2:=by
  rw[BitVec.toNat_and,h1,h2]
  exact Nat.and_two_pow_sub_one_eq_mod m 1
 show wrapI .i64 ((BitVec.ofInt 64 ((m:Nat):Int) &&&BitVec.ofInt 64 1).toNat:Nat)=_
 rw[h3,wrapI_eq]
 simp only[IntKind.wrap,IntKind.bits,IntKind.signed]
 simp
 omega
def hasI (m b:Int):Bool:=decide (m / 2^b.toNat % 2=1)
theorem half_pow {m:Int} {i:Nat}:m / 2^i / 2=m / 2^(i+1):=by
 rw[Int.pow_succ,Int.ediv_ediv_of_nonneg (Int.pow_nonneg (by omega))]
theorem half_nn {m:Int} {i:Nat} (h:0≤m):0≤m / 2^i∧m / 2^i≤m:=by
 refine⟨Int.ediv_nonneg h (Int.pow_nonneg (by omega)),Int.ediv_le_self _ h⟩
def r102:SCtr:=⟨62,Int×Int,.cons (codI .i64) (.one (codI .i64)),fun a=>(0≤a.1∧a.1≤9223372036854775807)∧0≤a.2∧a.2≤9223372036854775806,fun a=> .sb (hasI a.1 a.2)⟩
def Λ102 (a:Int×Int):Nat→LoopAnn
 |2=> .inv Int (fun i=>⟨[(0,.si .i64 (a.1 / 2^i.toNat)),(1,.si .i64 a.2),(5,.si .i64 i)],[]⟩) (fun s=>iS s 5) (fun i=>0≤i∧i≤a.2) (fun i=>(a.2 - i).toNat) fun _ _=> .look
 |_=> .look
theorem h102:Holds Tryz.prog r102:=by
 refine con (L:=[]) r102 F102 Λ102 (OwnOK.none _) (by simp) (by kernel_rfl) (by kernel_rfl) (fun _=>rfl) ?_
 rintro⟨m,b⟩ ⟨⟨h0,h1⟩,h2,h3⟩
 refine vcOf (((((SV.si .i64 m).same (SV.si .i64 (m / (1:Int)))∧(SV.si .i64 b).same (SV.si .i64 b)∧(SV.il .i64 0).same (SV.si .i64 0)∧True)∧True)∧(0:Int)≤(0:Int)∧(0:Int)≤b)∧∀(x:Int),let z0:=m / (2:Int)^x.toNat;let z1:=x+(1:Int);let z2:=SV.si .i64 z1;(0:Int)≤x∧x≤b→(decide (x<b)=true→(2:Int)≠(0:Int)∧inR .i64 (z0.tdiv (2:Int))∧inR .i64 z1∧(((SV.si .i64 (z0.tdiv (2:Int))).same (SV.si .i64 (m / (2:Int)^z1.toNat))∧(SV.si .i64 b).same (SV.si .i64 b)∧z2.same z2∧True)∧True)∧((0:Int)≤z1∧z1≤b)∧(b - z1).toNat<(b - x).toNat)∧(decide (x<b)=false→(2:Int)≠(0:Int)∧(SV.sb (decide (z0.tmod (2:Int)=(1:Int)))).same (SV.sb (hasI m b)))) (by kernel_rfl) ?_
 simp only at h0 h1 h2 h3
 simp only[vcs]
 refine⟨⟨by simp,by omega,by omega⟩,?_⟩
 rintro i ⟨hi0,hi1⟩
 obtain⟨n0,n1⟩:=half_nn (i:=i.toNat) h0
 have hq:=half_pow (m:=m) (i:=i.toNat)
 have e:(i+1).toNat=i.toNat+1:=by omega
 refine⟨fun hlt=>?_,fun hge=>?_⟩
 ·rw[e,←hq]
  rw[Int.tdiv_eq_ediv_of_nonneg n0]
  repeat' refine And.intro ?_ ?_
  all_goals omega
 ·have:i=b:=by omega
  subst this
  unfold hasI
  rw[Int.tmod_eq_emod_of_nonneg n0]
  exact⟨by omega,rfl⟩
def payU (vals:List Int) (m:Int) (n:Nat):Int:=(List.range n).foldl (fun(s:Int) (j:Nat)=>if 0<nthD vals j 0∧hasI m j=false then s+2^j else s) 0
def leastU (vals:List Int) (m w:Int) (n:Nat):Int:=(List.range n).foldl (fun(s:Int) (j:Nat)=>if hasI m j=true then s - nthD vals j 0 else s) w
theorem payU_succ {vals:List Int} {m:Int} {n:Nat}:payU vals m (n+1)=if 0<nthD vals n 0∧hasI m n=false then payU vals m n+2^n else payU vals m n:=by
 unfold payU
 rw[List.range_succ,List.foldl_append]
 rfl
theorem leastU_succ {vals:List Int} {m w:Int} {n:Nat}:leastU vals m w (n+1)=if hasI m n=true then leastU vals m w n - nthD vals n 0 else leastU vals m w n:=by
 unfold leastU
 rw[List.range_succ,List.foldl_append]
 rfl
theorem payU_bd {vals:List Int} {m:Int}:∀{n:Nat},0≤payU vals m n∧payU vals m n<2^n
 |0=>by simp[payU]
 |n+1=>by
  have:=@payU_bd vals m n
  rw[payU_succ,Int.pow_succ]
  split<;>omega
theorem pow8 {n:Nat} (h:n≤8):(2:Int)^n≤256∧1≤(2:Int)^n:=by
 have:n=0∨n=1∨n=2∨n=3∨n=4∨n=5∨n=6∨n=7∨n=8:=by omega
 rcases this with rfl|rfl|rfl|rfl|rfl|rfl|rfl|rfl|rfl<;>decide
theorem leastU_bd {vals:List Int} {m w:Int} (h:∀v∈vals,0≤v∧v≤1000000000000000):∀{n:Nat},n≤vals.length→w - 1000000000000000*n≤leastU vals m w n∧leastU vals m w n≤w
 |0,_=>by simp[leastU]
 |n+1,hn=>by
  have:=@leastU_bd vals m w h n (by omega)
  have hv:=h _ (nthD_mem (d:=0) (show n<vals.length by omega))
  rw[leastU_succ]
  split<;>omega
theorem setV_mem {p:Prob} {l:List Int} {i v:Int} (h:v∈setV p l i):v∈l∨v=(nthD p.offers i.toNat SId.off.dflt).value:=by
 unfold setV at h
 rcases List.mem_or_eq_of_mem_set h with h|h
 ·exact .inl h
 ·exact .inr h
theorem vals_ok {p:Prob} (hg:Good p):∀{c:List Int} {l:List Int},(∀i∈c,0≤i∧i<p.offers.length)→(∀v∈l,0≤v∧v≤1000000000000000)→∀v∈c.foldl (setV p) l,0≤v∧v≤1000000000000000
 |[],l,_,hl,v,hv=>hl v hv
 |i::c,l,hc,hl,v,hv=>by
  refine vals_ok hg (c:=c) (l:=setV p l i) (fun j hj=>hc j (List.mem_cons_of_mem _ hj)) (fun u hu=>?_) v hv
  rcases setV_mem hu with h|h
  ·exact hl u h
  ·have hi:=hc i (by simp)
   have:=hg.2.2.2.2 _ (nthD_mem (d:=SId.off.dflt) (show i.toNat<p.offers.length by omega))
   omega
theorem vals_good {p:Prob} {c:List Int} (h:feasE p c=0):(valsS p c).length=p.classes.length∧p.classes.length≤8∧∀v∈valsS p c,0≤v∧v≤1000000000000000:=by
 obtain⟨_,_,hg,hcl,hix⟩:=feas_ok h
 refine⟨vals_lenN,hg.1,?_⟩
 unfold valsS
 exact vals_ok hg hix fun v hv=>by
  have:=(List.mem_replicate.1 hv).2
  omega
def r91:SCtr:=⟨61,Prob×Alloc×Int,.cons codP (.cons codA (.one (codI .i64))),fun a=>feasE a.1 a.2.1.chosen=0∧0≤a.2.2∧a.2.2≤9223372036854775807,fun a=> .si .i64 (payU (valsS a.1 a.2.1.chosen) a.2.2 a.1.classes.length)⟩
def Λ91 (a:Prob×Alloc×Int):Nat→LoopAnn
 |4=> .inv (Int×Int) (fun x=>⟨[(2,.si .i64 a.2.2),(7,.row (.i .i64) (valsS a.1 a.2.1.chosen)),(8,.si .i64 x.2),(9,.si .i64 (2^x.1.toNat)),(10,.si .i64 x.1)],[.cells a.1.ss 27 20 false,.cells [.row (.i .i64) a.2.1.chosen,.si .i64 a.2.1.value] 29 2 false]⟩) (fun s=>(iS s 10,iS s 8))
  (fun x=>(0≤x.1∧x.1≤a.1.classes.length)∧x.2=payU (valsS a.1 a.2.1.chosen) a.2.2 x.1.toNat) (fun x=>(a.1.classes.length - x.1).toNat) fun _ _=> .look
 |_=> .look
theorem h91:Holds Tryz.prog r91:=by
 refine con (L:=[r57,r102]) r91 F91 Λ91 (OwnOK.none _) (by simpa using⟨h57,h102⟩) (by kernel_rfl) (by kernel_rfl) (fun _=>rfl) ?_
 rintro⟨p,⟨c,v⟩,m⟩ ⟨hf,m0,m1⟩
 refine vcOf (let z0:=SId.i .i64;let z1:=SV.row z0 (valsS p c);let z2:=SObj.cells [SV.si .i64 p.supply.a0,SV.si .i64 p.supply.a1,SV.si .i64 p.supply.a2,SV.si .i64 p.supply.a3,SV.si .i64 p.supply.a4,SV.si .i64 p.supply.a5,SV.si .i64 p.opn.a0,SV.si .i64 p.opn.a1,SV.si .i64 p.opn.a2,SV.si .i64 p.opn.a3,SV.si .i64 p.opn.a4,SV.si .i64 p.opn.a5,SV.si .i64 p.cls.a0,SV.si .i64 p.cls.a1,SV.si .i64 p.cls.a2,SV.si .i64 p.cls.a3,SV.si .i64 p.cls.a4,SV.si .i64 p.cls.a5,SV.row z0 p.classes,SV.row SId.off p.offers] 27 20 false;let z3:=SObj.cells [SV.row z0 c,SV.si .i64 v] 29 2 false;let z4:=(↑p.classes.length:Int);let z5:=(↑(valsS p c).length:Int);feasE p c=(0:Int)∧((((SV.si .i64 m).same (SV.si .i64 m)∧z1.same z1∧(SV.il .i64 0).same (SV.si .i64 0)∧(SV.il .i64 1).same (SV.si .i64 1)∧(SV.il .i64 0).same (SV.si .i64 0)∧True)∧z2.same z2∧z3.same z3∧True)∧((0:Int)≤(0:Int)∧(0:Int)≤z4)∧(0:Int)=payU (valsS p c) m 0)∧∀(x:Int×Int),let z6:=x.fst.toNat;let z7:=decide ((0:Int)<nthD (valsS p c) z6 (0:Int));let z8:=x.snd+(2:Int)^z6;let z9:=(2:Int)*(2:Int)^z6;let z10:=x.fst+(1:Int);let z11:=SV.si .i64 z8;let z12:=SV.si .i64 z10;let z13:=payU (valsS p c) m z10.toNat;let z14:=SV.si .i64 x.snd;((0:Int)≤x.fst∧x.fst≤z4)∧x.snd=payU (valsS p c) m z6→(decide (x.fst<z5)=true→(0:Int)≤x.fst∧x.fst<z5∧z6<(valsS p c).length∧(z7=true→(((0:Int)≤m∧m≤(9223372036854775807:Int))∧(0:Int)≤x.fst∧x.fst≤(9223372036854775806:Int))∧((!hasI m x.fst)=true→inR .i64 z8∧inR .i64 z9∧inR .i64 z10∧(((SV.si .i64 m).same (SV.si .i64 m)∧z1.same z1∧z11.same z11∧(SV.si .i64 z9).same (SV.si .i64 ((2:Int)^z10.toNat))∧z12.same z12∧True)∧z2.same z2∧z3.same z3∧True)∧(((0:Int)≤z10∧z10≤z4)∧z8=z13)∧(z4 - z10).toNat<(z4 - x.fst).toNat)∧((!hasI m x.fst)=false→inR .i64 z9∧inR .i64 z10∧(((SV.si .i64 m).same (SV.si .i64 m)∧z1.same z1∧z14.same z14∧(SV.si .i64 z9).same (SV.si .i64 ((2:Int)^z10.toNat))∧z12.same z12∧True)∧z2.same z2∧z3.same z3∧True)∧(((0:Int)≤z10∧z10≤z4)∧x.snd=z13)∧(z4 - z10).toNat<(z4 - x.fst).toNat))∧(z7=false→inR .i64 z9∧inR .i64 z10∧(((SV.si .i64 m).same (SV.si .i64 m)∧z1.same z1∧z14.same z14∧(SV.si .i64 z9).same (SV.si .i64 ((2:Int)^z10.toNat))∧z12.same z12∧True)∧z2.same z2∧z3.same z3∧True)∧(((0:Int)≤z10∧z10≤z4)∧x.snd=z13)∧(z4 - z10).toNat<(z4 - x.fst).toNat))∧(decide (x.fst<z5)=false→z14.same (SV.si .i64 (payU (valsS p c) m p.classes.length)))) (by kernel_rfl) ?_
 simp only[vcs]
 simp only at hf m0 m1
 obtain⟨hl,h8,hv⟩:=vals_good hf
 generalize hV:valsS p c=V at*
 refine⟨hf,⟨⟨by omega,by omega⟩,rfl⟩,?_⟩
 rintro⟨i,s⟩ ⟨⟨i0,i1⟩,hs⟩
 simp only at i0 i1 hs ⊢
 subst hs
 have e:(i+1).toNat=i.toNat+1:=by omega
 have ei:((i.toNat:Nat):Int)=i:=by omega
 have hsu:=@payU_succ V m i.toNat
 rw[ei] at hsu
 have hb:=@payU_bd V m i.toNat
 have hp:=pow8 (n:=i.toNat) (by omega)
 have hp2:(2:Int)^(i+1).toNat=2*2^i.toNat:=by rw[e,Int.pow_succ];omega
 rw[e,hsu]
 rw[←e,hp2]
 refine⟨fun hi=>⟨by omega,by omega,by omega,fun hp0=>⟨by omega,fun hh=>?_,fun hh=>?_⟩,fun hp0=>?_⟩,fun hi=>?_⟩
 ·have:¬hasI m i=true:=by simpa using hh
  have hh:hasI m i=false:=by simpa using this
  rw[if_pos ⟨hp0,hh⟩]
  repeat' refine And.intro ?_ ?_
  all_goals first|omega|rfl
 ·have hh:hasI m i=true:=by simpa using hh
  rw[if_neg (fun h=>by rw[hh] at h;exact absurd h.2 (by decide))]
  repeat' refine And.intro ?_ ?_
  all_goals first|omega|rfl
 ·rw[if_neg (fun h=>hp0 h.1)]
  repeat' refine And.intro ?_ ?_
  all_goals first|omega|rfl
 ·rw[show i.toNat=p.classes.length by omega]
def r92:SCtr:=⟨60,Prob×Alloc×Int×Int,.cons codP (.cons codA (.cons (codI .i64) (.one (codI .i64)))),fun a=>feasE a.1 a.2.1.chosen=0∧(0≤a.2.2.1∧a.2.2.1≤9223372036854775807)∧ -1000000000000000000≤a.2.2.2∧a.2.2.2≤1000000000000000000,fun a=> .si .i64 (leastU (valsS a.1 a.2.1.chosen) a.2.2.1 a.2.2.2 a.1.classes.length)⟩
def Λ92 (a:Prob×Alloc×Int×Int):Nat→LoopAnn
 |3=> .inv (Int×Int) (fun x=>⟨[(2,.si .i64 a.2.2.1),(3,.si .i64 x.2),(9,.row (.i .i64) (valsS a.1 a.2.1.chosen)),(10,.si .i64 x.1)],[.cells a.1.ss 27 20 false,.cells [.row (.i .i64) a.2.1.chosen,.si .i64 a.2.1.value] 29 2 false]⟩) (fun s=>(iS s 10,iS s 3))
  (fun x=>(0≤x.1∧x.1≤a.1.classes.length)∧x.2=leastU (valsS a.1 a.2.1.chosen) a.2.2.1 a.2.2.2 x.1.toNat) (fun x=>(a.1.classes.length - x.1).toNat) fun _ _=> .look
 |_=> .look
theorem h92:Holds Tryz.prog r92:=by
 refine con (L:=[r57,r102]) r92 F92 Λ92 (OwnOK.none _) (by simpa using⟨h57,h102⟩) (by kernel_rfl) (by kernel_rfl) (fun _=>rfl) ?_
 rintro⟨p,⟨c,v⟩,m,w⟩ ⟨hf,⟨m0,m1⟩,w0,w1⟩
 refine vcOf (let z0:=SId.i .i64;let z1:=SV.row z0 (valsS p c);let z2:=SObj.cells [SV.si .i64 p.supply.a0,SV.si .i64 p.supply.a1,SV.si .i64 p.supply.a2,SV.si .i64 p.supply.a3,SV.si .i64 p.supply.a4,SV.si .i64 p.supply.a5,SV.si .i64 p.opn.a0,SV.si .i64 p.opn.a1,SV.si .i64 p.opn.a2,SV.si .i64 p.opn.a3,SV.si .i64 p.opn.a4,SV.si .i64 p.opn.a5,SV.si .i64 p.cls.a0,SV.si .i64 p.cls.a1,SV.si .i64 p.cls.a2,SV.si .i64 p.cls.a3,SV.si .i64 p.cls.a4,SV.si .i64 p.cls.a5,SV.row z0 p.classes,SV.row SId.off p.offers] 27 20 false;let z3:=SObj.cells [SV.row z0 c,SV.si .i64 v] 29 2 false;let z4:=(↑p.classes.length:Int);let z5:=(↑(valsS p c).length:Int);feasE p c=(0:Int)∧((((SV.si .i64 m).same (SV.si .i64 m)∧(SV.si .i64 w).same (SV.si .i64 w)∧z1.same z1∧(SV.il .i64 0).same (SV.si .i64 0)∧True)∧z2.same z2∧z3.same z3∧True)∧((0:Int)≤(0:Int)∧(0:Int)≤z4)∧w=leastU (valsS p c) m w 0)∧∀(x:Int×Int),let z6:=x.snd - nthD (valsS p c) x.fst.toNat (0:Int);let z7:=x.fst+(1:Int);let z8:=SV.si .i64 z6;let z9:=SV.si .i64 z7;let z10:=leastU (valsS p c) m w z7.toNat;let z11:=SV.si .i64 x.snd;((0:Int)≤x.fst∧x.fst≤z4)∧x.snd=leastU (valsS p c) m w x.fst.toNat→(decide (x.fst<z5)=true→(((0:Int)≤m∧m≤(9223372036854775807:Int))∧(0:Int)≤x.fst∧x.fst≤(9223372036854775806:Int))∧(hasI m x.fst=true→(0:Int)≤x.fst∧x.fst<z5∧x.fst.toNat<(valsS p c).length∧inR .i64 z6∧inR .i64 z7∧(((SV.si .i64 m).same (SV.si .i64 m)∧z8.same z8∧z1.same z1∧z9.same z9∧True)∧z2.same z2∧z3.same z3∧True)∧(((0:Int)≤z7∧z7≤z4)∧z6=z10)∧(z4 - z7).toNat<(z4 - x.fst).toNat)∧(hasI m x.fst=false→inR .i64 z7∧(((SV.si .i64 m).same (SV.si .i64 m)∧z11.same z11∧z1.same z1∧z9.same z9∧True)∧z2.same z2∧z3.same z3∧True)∧(((0:Int)≤z7∧z7≤z4)∧x.snd=z10)∧(z4 - z7).toNat<(z4 - x.fst).toNat))∧(decide (x.fst<z5)=false→z11.same (SV.si .i64 (leastU (valsS p c) m w p.classes.length)))) (by kernel_rfl) ?_
 simp only[vcs]
 simp only at hf m0 m1 w0 w1
 obtain⟨hl,h8,hv⟩:=vals_good hf
 generalize hV:valsS p c=V at*
 refine⟨hf,⟨⟨by omega,by omega⟩,rfl⟩,?_⟩
 rintro⟨i,s⟩ ⟨⟨i0,i1⟩,hs⟩
 simp only at i0 i1 hs ⊢
 subst hs
 have e:(i+1).toNat=i.toNat+1:=by omega
 have ei:((i.toNat:Nat):Int)=i:=by omega
 have hsu:=@leastU_succ V m w i.toNat
 rw[ei] at hsu
 have hb:=@leastU_bd V m w hv i.toNat (by omega)
 rw[e,hsu]
 refine⟨fun hi=>⟨⟨by omega,by omega,by omega⟩,fun hh=>?_,fun hh=>?_⟩,fun hi=>?_⟩
 ·have hx:=hv _ (nthD_mem (d:=0) (show i.toNat<V.length by omega))
  rw[if_pos hh]
  repeat' refine And.intro ?_ ?_
  all_goals first|omega|rfl
 ·rw[if_neg (fun h=>by rw[hh] at h;exact absurd h (by decide))]
  repeat' refine And.intro ?_ ?_
  all_goals first|omega|rfl
 ·rw[show i.toNat=p.classes.length by omega]
def r88:OCtr where
 f:=32
 α:=List Int×List Int
 put a:=[.row (.i .i64) a.1,.row (.i .i64) a.2]
 st _:=[]
 dec v o:=match v,o with
  |[a,b],[]=>match decRow (.i .i64) a,decRow (.i .i64) b with
   |some a,some b=>some (a,b)
   |_,_=>none
  |_,_=>none
 ok v o a h:=by
  match v,o,h with
  |[x,y],[],h=>
   simp only at h
   split at h
   ·rename_i h1 h2
    simp only[Option.some.injEq] at h;subst h
    simp only[gL,decRow_ok h1,decRow_ok h2,and_self]
   ·cases h
 inj a b h _:=by
  simp only[gL,List.cons.injEq,and_true] at h
  exact Prod.ext ((codR (.i .i64)).inj _ _ h.1) ((codR (.i .i64)).inj _ _ h.2)
 dom _:=True
 res _:=.fn (.func 54) [] [.ptr 0 0 1,.ptr 1 0 1]
 out a:=[.cells [.row (.i .i64) a.1] 59 1 false,.cells [.row (.i .i64) a.2] 59 1 false]
theorem h88:HoldsO Tryz.prog r88:=by
 refine conN (L:=[]) (W:=[]) r88 F88 (fun _=>none) (fun _ _=> .look) (by simp) (by simp) (by kernel_rfl) (fun _=>rfl) (fun _=>rfl) (by kernel_rfl) ?_
 rintro⟨a,b⟩ -
 refine vcOf (let z0:=SV.fn (Fn.func 54) [] [SV.ptr 0 0 1,SV.ptr 1 0 1];let z1:=SObj.cells [SV.row (SId.i .i64) a] 59 1 false;let z2:=SObj.cells [SV.row (SId.i .i64) b] 59 1 false;z0.same z0∧z1.same z1∧z2.same z2∧True) (by kernel_rfl) ?_
 simp only[vcs]
 repeat' refine And.intro ?_ ?_
 all_goals rfl
def pU (V:List Int) (m:Int):Int:=payU V m V.length
def lU (V:List Int) (m w:Int):Int:=leastU V m w V.length
def lstU (V T:List Int) (pay:Int) (k:Nat):Int:=(List.range k).foldl (fun(s:Int) (m:Nat)=>if pU V m=pay then max s (lU V m (nthD T m 0)) else s) 0
theorem lstU_succ {V T:List Int} {pay:Int} {k:Nat}:lstU V T pay (k+1)=if pU V k=pay then max (lstU V T pay k) (lU V k (nthD T k 0)) else lstU V T pay k:=by
 unfold lstU
 rw[List.range_succ,List.foldl_append]
 rfl
def bestU (V T:List Int) (k:Nat):List Int:=(List.range T.length).map fun(q:Nat)=>lstU V T q k
def needU (V T:List Int) (n:Nat):List Need:=(List.range n).filterMap fun(q:Nat)=>if 0<lstU V T q T.length then some ⟨(q:Int),lstU V T q T.length⟩ else none
theorem bestU_len {V T:List Int} {k:Nat}:(bestU V T k).length=T.length:=by simp[bestU]
theorem bestU_get {V T:List Int} {k q:Nat} (h:q<T.length):nthD (bestU V T k) q 0=lstU V T q k:=by
 unfold bestU nthD
 simp[h]
theorem bestU_succ {V T:List Int} {k:Nat} (h0:0≤pU V k) (h1:pU V k<T.length):(bestU V T k).set (pU V k).toNat (max (nthD (bestU V T k) (pU V k).toNat 0) (lU V k (nthD T k 0)))=bestU V T (k+1):=by
 rw[bestU_get (by omega)]
 apply List.ext_getElem
 ·simp[bestU]
 ·intro i h2 h3
  rw[List.getElem_set]
  simp only[bestU,List.getElem_map,List.getElem_range,lstU_succ]
  simp only[bestU,List.length_map,List.length_range] at h3
  by_cases he:(pU V k).toNat=i
  ·subst he
   rw[if_pos rfl,if_pos (by omega),show(((pU V k).toNat:Nat):Int)=pU V k by omega]
  ·rw[if_neg he,if_neg (by omega)]
theorem needU_succ {V T:List Int} {n:Nat}:needU V T (n+1)=if 0<lstU V T n T.length then needU V T n++[⟨(n:Int),lstU V T n T.length⟩] else needU V T n:=by
 unfold needU
 rw[List.range_succ,List.filterMap_append]
 simp only[List.filterMap_cons,List.filterMap_nil]
 by_cases h:0<lstU V T n T.length
 ·simp[h]
 ·simp[h]
theorem or_pow {x:Int} {i:Nat} (x0:0≤x) (x1:x<2^i) (hi:i≤8):binK.orI .i64 x (1*2^i)=x+2^i:=by
 obtain⟨m,rfl⟩:=Int.eq_ofNat_of_zero_le x0
 have hp:=pow8 hi
 have hpn:((2^i:Nat):Int)=2^i:=by push_cast;rfl
 have h1:(BitVec.ofInt 64 ((m:Nat):Int)).toNat=m:=by rw[BitVec.toNat_ofInt];omega
 have h2:(BitVec.ofInt 64 (1*2^i)).toNat=2^i*1:=by rw[BitVec.toNat_ofInt];omega
 have h3:(BitVec.ofInt 64 ((m:Nat):Int) |||BitVec.ofInt 64 (1*2^i)).toNat=2^i+m:=by
  rw[BitVec.toNat_or,h1,h2,Nat.or_comm,←Nat.two_pow_add_eq_or_of_lt (by omega)]
  omega
 show wrapI .i64 ((BitVec.ofInt 64 ((m:Nat):Int) |||BitVec.ofInt 64 (1*2^i)).toNat:Nat)=_
 rw[h3,wrapI_eq]
 simp only[IntKind.wrap,IntKind.bits,IntKind.signed]
 simp
 omega
def tabA (a:Prob×Alloc):List Int:=if faultC a.1 a.2.chosen=0 then tabS a.1 else[]
def valA' (a:Prob×Alloc):List Int:=if faultC a.1 a.2.chosen=0 then valsS a.1 a.2.chosen else[]
def st40 (a:Prob×Alloc) (b:List Int):SStore:=[.cells a.1.ss 27 20 false,.cells [.row (.i .i64) a.2.chosen,.si .i64 a.2.value] 29 2 false,.row (.i .i64) b 2 true,.cells [.ow 2 b.length 1] 59 1 false,
 .cells [.row (.i .i64) (if faultC a.1 a.2.chosen=0 then tabS a.1 else[])] 59 1 false,.cells [.row (.i .i64) (if faultC a.1 a.2.chosen=0 then valsS a.1 a.2.chosen else[])] 59 1 false]
theorem cowE {i u v e:Nat} (h:u=v):(SObj.cells [.ow i u 1] e 1 false).same (SObj.cells [.ow i v 1] e 1 false):=by subst h;rfl
theorem faultC_zero {p:Prob} {c:List Int} (h:faultC p c=0):feasE p c=0∧checkE p=0:=by
 unfold faultC at h
 split at h
 ·rename_i h1;exact absurd h h1
 ·rename_i h1
  exact⟨by simpa using h1,h⟩
theorem tabS_ok {p:Prob} (hg:Good p):((tabS p).length:Int)=2^p.classes.length∧∀m:Nat,0≤nthD (tabS p) m 0∧nthD (tabS p) m 0≤8000000:=by
 refine⟨by unfold tabS tabP;rw[List.length_map,List.length_range];push_cast;rfl,fun m=>?_⟩
 unfold tabS tabP nthD
 by_cases h:m<2^p.classes.length
 ·simp only[List.getElem?_map,List.getElem?_range h,Option.map_some,Option.getD_some]
  exact bestS_bd hg _
 ·rw[List.getElem?_eq_none (by simp;omega)]
  simp
def Λ40 (a:Prob×Alloc):Nat→LoopAnn
 |1001=> .inv (Int×List Int) (fun x=>⟨[(0,.fn (.yield 0) [] []),(2,.ptr 5 0 1),(9,.row (.i .i64) (if faultC a.1 a.2.chosen=0 then tabS a.1 else[])),(10,.si .i64 (if faultC a.1 a.2.chosen=0 then tabS a.1 else[]).length),(11,.si .i64 x.1)],st40 a x.2⟩)
   (fun s=>(iS s 11,oS (.i .i64) s 2)) (fun x=>(0≤x.1∧x.1≤(tabA a).length)∧x.2=bestU (valA' a) (tabA a) x.1.toNat) (fun x=>((tabA a).length - x.1).toNat) fun x k=>match k with
    |5=> .inv (Int×Int×Int) (fun y=>⟨[(0,.fn (.yield 0) [] []),(2,.ptr 5 0 1),(4,.si .i64 x.1),(6,.ptr 6 0 4),(9,.row (.i .i64) (if faultC a.1 a.2.chosen=0 then tabS a.1 else[])),(10,.si .i64 (if faultC a.1 a.2.chosen=0 then tabS a.1 else[]).length),(11,.si .i64 x.1),
      (22,.row (.i .i64) (if faultC a.1 a.2.chosen=0 then valsS a.1 a.2.chosen else[])),(23,.si .i64 (if faultC a.1 a.2.chosen=0 then valsS a.1 a.2.chosen else[]).length),(24,.si .i64 y.1)],
      st40 a x.2++[.cells [.si .i64 x.1,.si .i64 (nthD (if faultC a.1 a.2.chosen=0 then tabS a.1 else[]) x.1.toNat 0),.si .i64 y.2.1,.si .i64 y.2.2] 73 4 false]⟩)
      (fun s=>(iS s 24,cS (.i .i64) s 6 2,cS (.i .i64) s 6 3)) (fun y=>(0≤y.1∧y.1≤(valA' a).length)∧y.2.1=payU (valA' a) x.1 y.1.toNat∧y.2.2=leastU (valA' a) x.1 (nthD (tabA a) x.1.toNat 0) y.1.toNat) (fun y=>((valA' a).length - y.1).toNat) fun _ _=> .look
    |_=> .look
 |10=> .inv (Int×List Int×List Need) (fun x=>⟨[(11,.ow 6 x.2.2.length 2),(46,.ow 2 x.2.1.length 1),(47,.si .i64 x.2.1.length),(48,.si .i64 x.1)],st40 a x.2.1++[.row .need x.2.2 54 true]⟩)
   (fun s=>(iS s 48,oS (.i .i64) s 2,oS .need s 6)) (fun x=>(0≤x.1∧x.1≤(tabA a).length)∧x.2.1=bestU (valA' a) (tabA a) (tabA a).length∧x.2.2=needU (valA' a) (tabA a) x.1.toNat) (fun x=>((tabA a).length - x.1).toNat) fun _ _=> .look
 |_=> .look
def needS (p:Prob) (c:List Int):List Need:=needU (valsS p c) (tabS p) (tabS p).length
def r40:SCtr:=⟨13,Prob×Alloc,.cons codP (.one codA),fun a=>a.2.chosen.length≤9223372036854775807,fun a=> .tup [.row .need (if faultC a.1 a.2.chosen=0 then needS a.1 a.2.chosen else[]),.si .i64 (faultC a.1 a.2.chosen)]⟩
theorem h40:Holds Tryz.prog r40:=by
 refine con (L:=[r87]) (W:=ownT [r88]) r40 F40 Λ40 (ownT_ok (by simpa using h88)) (by simpa using h87) (by kernel_rfl) (by kernel_rfl) (fun _=>rfl) ?_
 rintro⟨p,⟨c,v⟩⟩ h
 refine vcOf (let z0:=decide (faultC p c≠(0:Int));let z1:=SId.i .i64;let z2:=[SV.si .i64 (faultC p c)];let z3:=SV.tup (SV.row SId.need (if faultC p c=(0:Int) then needS p c else[])::z2);let z4:=if faultC p c=(0:Int) then tabS p else[];let z5:=(↑z4.length:Int);let z6:=SV.fn (Fn.yield 0) [] [];let z7:=SV.ptr 5 0 1;let z8:=SV.row z1 z4;let z9:=if faultC p c=(0:Int) then tabS p else[];let z10:=SV.si .i64 (↑z9.length:Int);let z11:=SV.il .i64 0;let z12:=SV.si .i64 0;let z13:=SObj.cells [SV.si .i64 p.supply.a0,SV.si .i64 p.supply.a1,SV.si .i64 p.supply.a2,SV.si .i64 p.supply.a3,SV.si .i64 p.supply.a4,SV.si .i64 p.supply.a5,SV.si .i64 p.opn.a0,SV.si .i64 p.opn.a1,SV.si .i64 p.opn.a2,SV.si .i64 p.opn.a3,SV.si .i64 p.opn.a4,SV.si .i64 p.opn.a5,SV.si .i64 p.cls.a0,SV.si .i64 p.cls.a1,SV.si .i64 p.cls.a2,SV.si .i64 p.cls.a3,SV.si .i64 p.cls.a4,SV.si .i64 p.cls.a5,SV.row z1 p.classes,SV.row SId.off p.offers] 27 20 false;let z14:=SObj.cells [SV.row z1 c,SV.si .i64 v] 29 2 false;let z15:=List.replicate z5.toNat (0:Int);let z16:=SObj.row z1 z15 2 true;let z17:=SObj.cells [z8] 59 1 false;let z18:=if faultC p c=(0:Int) then valsS p c else[];let z19:=SV.row z1 z18;let z20:=SObj.cells [z19] 59 1 false;let z21:=tabA (p,Alloc.mk c v);let z22:=(↑z21.length:Int);let z23:=valA' (p,Alloc.mk c v);let z24:=SV.ptr 6 0 4;let z25:=(↑(if faultC p c=(0:Int) then valsS p c else[]).length:Int);let z26:=SV.si .i64 z25;let z27:=(↑z23.length:Int);let z28:=SV.ow 6 0 2;let z29:=SObj.row SId.need [] 54 true;let z30:=bestU z23 z21 z21.length;c.length≤9223372036854775807∧(z0=true→(SV.tup (SV.row z1 []::z2)).same z3)∧(z0=false→(0:Int)≤z5∧z5≤z5∧z5*(8:Int)≤(140737488355328:Int)∧z5≤(1000000000000:Int)∧True∧(((z6.same z6∧z7.same z7∧z8.same z8∧(SV.si .i64 z5).same z10∧z11.same z12∧True)∧z13.same z13∧z14.same z14∧z16.same z16∧(SObj.cells [SV.ow 2 z5.toNat 1] 59 1 false).same (SObj.cells [SV.ow 2 z15.length 1] 59 1 false)∧z17.same z17∧z20.same z20∧True)∧((0:Int)≤(0:Int)∧(0:Int)≤z22)∧z15=bestU z23 z21 0)∧∀(x:Int×List Int),let z31:=x.fst.toNat;let z32:=decide (x.fst<(↑z9.length:Int));let z33:=SV.si .i64 x.fst;let z34:=SObj.row z1 x.snd 2 true;let z35:=x.snd.length;let z36:=SV.ow 2 z35 1;let z37:=SObj.cells [z36] 59 1 false;let z38:=nthD z4 z31 (0:Int);let z39:=SV.si .i64 z38;let z40:=SV.si .i64 (nthD z9 z31 (0:Int));let z41:=nthD z21 z31 (0:Int);let z42:=x.snd.length;let z43:=x.fst+(1:Int);let z44:=SV.si .i64 z43;let z45:=SV.si .i64 (↑z35:Int);((0:Int)≤x.fst∧x.fst≤z22)∧x.snd=bestU z23 z21 z31→(z32=true→(0:Int)≤x.fst∧x.fst<z5∧z31<z4.length∧(((z6.same z6∧z7.same z7∧z33.same z33∧z24.same z24∧z8.same z8∧z10.same z10∧z33.same z33∧z19.same z19∧(SV.si .i64 (↑z18.length:Int)).same z26∧z11.same z12∧True)∧z13.same z13∧z14.same z14∧z34.same z34∧z37.same z37∧z17.same z17∧z20.same z20∧(SObj.cells [z33,z39,z11,z39] 73 4 false).same (SObj.cells [z33,z40,z12,z39] 73 4 false)∧True)∧((0:Int)≤(0:Int)∧(0:Int)≤z27)∧(0:Int)=payU z23 x.fst 0∧z38=leastU z23 x.fst z41 0)∧∀(x_1:Int×Int×Int),let z46:=x_1.fst.toNat;let z47:=decide (x_1.fst<z25);let z48:=decide (binK.andI .i64 (x.fst / (2:Int)^z46) (1:Int)=(1:Int));let z49:=nthD z18 z46 (0:Int);let z50:=x_1.snd.snd - z49;let z51:=x_1.fst+(1:Int);let z52:=SV.si .i64 z51;let z53:=SV.si .i64 x_1.snd.fst;let z54:=SObj.cells [z33,z40,z53,SV.si .i64 z50] 73 4 false;let z55:=payU z23 x.fst z51.toNat;let z56:=leastU z23 x.fst z41 z51.toNat;let z57:=decide ((0:Int)<z49);let z58:=(1:Int)*(2:Int)^z46;let z59:=binK.orI .i64 x_1.snd.fst z58;let z60:=[SV.si .i64 x_1.snd.snd];let z61:=SObj.cells (z33::z40::SV.si .i64 z59::z60) 73 4 false;let z62:=SObj.cells (z33::z40::z53::z60) 73 4 false;let z63:=x_1.snd.fst.toNat;let z64:=x.snd.set z63 (max (nthD x.snd z63 (0:Int)) x_1.snd.snd);let z65:=SObj.row z1 z64 2 true;((0:Int)≤x_1.fst∧x_1.fst≤z27)∧x_1.snd.fst=payU z23 x.fst z46∧x_1.snd.snd=leastU z23 x.fst z41 z46→(z47=true→(0:Int)≤x_1.fst∧x_1.fst<(↑z18.length:Int)∧z46<z18.length∧(0:Int)≤x_1.fst∧x_1.fst≤(64:Int)∧(z48=true→inR .i64 z50∧inR .i64 z51∧((z6.same z6∧z7.same z7∧z33.same z33∧z24.same z24∧z8.same z8∧z10.same z10∧z33.same z33∧z19.same z19∧z26.same z26∧z52.same z52∧True)∧z13.same z13∧z14.same z14∧z34.same z34∧z37.same z37∧z17.same z17∧z20.same z20∧z54.same z54∧True)∧(((0:Int)≤z51∧z51≤z27)∧x_1.snd.fst=z55∧z50=z56)∧(z27 - z51).toNat<(z27 - x_1.fst).toNat)∧(z48=false→(z57=true→(0:Int)≤x_1.fst∧x_1.fst≤(64:Int)∧inR .i64 z58∧inR .i64 z51∧((z6.same z6∧z7.same z7∧z33.same z33∧z24.same z24∧z8.same z8∧z10.same z10∧z33.same z33∧z19.same z19∧z26.same z26∧z52.same z52∧True)∧z13.same z13∧z14.same z14∧z34.same z34∧z37.same z37∧z17.same z17∧z20.same z20∧z61.same z61∧True)∧(((0:Int)≤z51∧z51≤z27)∧z59=z55∧x_1.snd.snd=z56)∧(z27 - z51).toNat<(z27 - x_1.fst).toNat)∧(z57=false→inR .i64 z51∧((z6.same z6∧z7.same z7∧z33.same z33∧z24.same z24∧z8.same z8∧z10.same z10∧z33.same z33∧z19.same z19∧z26.same z26∧z52.same z52∧True)∧z13.same z13∧z14.same z14∧z34.same z34∧z37.same z37∧z17.same z17∧z20.same z20∧z62.same z62∧True)∧(((0:Int)≤z51∧z51≤z27)∧x_1.snd.fst=z55∧x_1.snd.snd=z56)∧(z27 - z51).toNat<(z27 - x_1.fst).toNat)))∧(z47=false→z35=z42∧(0:Int)≤x_1.snd.fst∧x_1.snd.fst<(↑z42:Int)∧z35=z42∧z63<z42∧z35=z42∧(0:Int)≤x_1.snd.fst∧x_1.snd.fst<(↑z42:Int)∧z35=z42∧z63<z42∧inR .i64 z43∧((z6.same z6∧z7.same z7∧z8.same z8∧z10.same z10∧z44.same z44∧True)∧z13.same z13∧z14.same z14∧z65.same z65∧z37.same (SObj.cells [SV.ow 2 z64.length 1] 59 1 false)∧z17.same z17∧z20.same z20∧True)∧(((0:Int)≤z43∧z43≤z22)∧z64=bestU z23 z21 z43.toNat)∧(z22 - z43).toNat<(z22 - x.fst).toNat))∧(z32=false→(((z28.same z28∧z36.same z36∧z45.same z45∧z11.same z12∧True)∧z13.same z13∧z14.same z14∧z34.same z34∧z37.same z37∧z17.same z17∧z20.same z20∧z29.same z29∧True)∧((0:Int)≤(0:Int)∧(0:Int)≤z22)∧x.snd=z30∧[]=needU z23 z21 0)∧∀(x:Int×List Int×List Need),let z66:=x.snd.fst.length;let z67:=decide (x.fst<(↑z66:Int));let z68:=x.snd.fst.length;let z69:=nthD x.snd.fst x.fst.toNat (0:Int);let z70:=decide ((0:Int)<z69);let z71:=x.snd.snd.length+1;let z72:=x.fst+(1:Int);let z73:=x.snd.snd++[Need.mk x.fst z69];let z74:=SV.ow 2 z66 1;let z75:=SV.si .i64 (↑z66:Int);let z76:=SV.si .i64 z72;let z77:=SObj.row z1 x.snd.fst 2 true;let z78:=SObj.cells [z74] 59 1 false;let z79:=SObj.row SId.need z73 54 true;let z80:=needU z23 z21 z72.toNat;let z81:=SV.ow 6 x.snd.snd.length 2;let z82:=SObj.row SId.need x.snd.snd 54 true;((0:Int)≤x.fst∧x.fst≤z22)∧x.snd.fst=z30∧x.snd.snd=needU z23 z21 x.fst.toNat→(z67=true→z66=z68∧(0:Int)≤x.fst∧x.fst<(↑z68:Int)∧z66=z68∧x.fst.toNat<z68∧(z70=true→x.snd.snd.length=x.snd.snd.length∧z71*16≤140737488355328∧z71≤1000000000000∧inR .i64 z72∧(((SV.ow 6 z73.length 2).same (SV.ow 6 z73.length 2)∧z74.same z74∧z75.same z75∧z76.same z76∧True)∧z13.same z13∧z14.same z14∧z77.same z77∧z78.same z78∧z17.same z17∧z20.same z20∧z79.same z79∧True)∧(((0:Int)≤z72∧z72≤z22)∧x.snd.fst=z30∧z73=z80)∧(z22 - z72).toNat<(z22 - x.fst).toNat)∧(z70=false→inR .i64 z72∧((z81.same z81∧z74.same z74∧z75.same z75∧z76.same z76∧True)∧z13.same z13∧z14.same z14∧z77.same z77∧z78.same z78∧z17.same z17∧z20.same z20∧z82.same z82∧True)∧(((0:Int)≤z72∧z72≤z22)∧x.snd.fst=z30∧x.snd.snd=z80)∧(z22 - z72).toNat<(z22 - x.fst).toNat))∧(z67=false→x.snd.snd.length=x.snd.snd.length∧(SV.tup [SV.row SId.need x.snd.snd,z11]).same z3)))) (by kernel_rfl) ?_
 simp only[vcs]
 refine⟨h,fun hne=>?_,fun hz=>?_⟩
 ·rw[if_neg hne]
  rfl
 have hz:faultC p c=0:=by simpa using hz
 obtain⟨hf,hc⟩:=faultC_zero hz
 have hg:=good_of hc
 obtain⟨hV,h8,hv⟩:=vals_good hf
 obtain⟨hT,ht⟩:=tabS_ok hg
 have hp8:=pow8 h8
 simp only[tabA,valA',hz,if_true,needS]
 generalize tabS p=T at*
 generalize valsS p c=V at*
 have b0:(List.replicate ((T.length:Nat):Int).toNat (0:Int))=bestU V T 0:=by
  apply List.ext_getElem
  ·simp[bestU]
  ·intro i h1 h2
   simp[bestU,lstU]
 refine⟨by omega,by omega,by omega,by omega,?_,?_⟩
 ·repeat' refine And.intro ?_ ?_
  all_goals first|omega|rfl|exact howO (by simp)|exact cowE (by simp)|exact b0
 rintro⟨m,b⟩ ⟨⟨m0,m1⟩,hb⟩
 simp only at m0 m1 hb ⊢
 subst hb
 have hw:=ht m.toNat
 have em:((m.toNat:Nat):Int)=m:=by omega
 have em1:(m+1).toNat=m.toNat+1:=by omega
 refine⟨fun hm=>⟨by omega,by omega,by omega,?_,?_⟩,fun hm=>?_⟩
 ·repeat' refine And.intro ?_ ?_
  all_goals first|omega|rfl
 ·rintro⟨i,q,l⟩ ⟨⟨i0,i1⟩,hq,hl⟩
  simp only at i0 i1 hq hl ⊢
  subst hq
  subst hl
  have e:(i+1).toNat=i.toNat+1:=by omega
  have ei:((i.toNat:Nat):Int)=i:=by omega
  have hsp:=@payU_succ V m i.toNat
  have hsl:=@leastU_succ V m (nthD T m.toNat 0) i.toNat
  rw[ei] at hsp hsl
  have hb:=@payU_bd V m i.toNat
  have hl:=@leastU_bd V m (nthD T m.toNat 0) hv i.toNat (by omega)
  obtain⟨n0,n1⟩:=half_nn (i:=i.toNat) m0
  have ha:binK.andI .i64 (m / 2^i.toNat) 1=m / 2^i.toNat % 2:=and_one n0 (by omega)
  have hI:hasI m i=decide (m / 2^i.toNat % 2=1):=rfl
  rw[ha]
  refine⟨fun hi=>?_,fun hi=>?_⟩
  ·have hx:=hv _ (nthD_mem (d:=0) (show i.toNat<V.length by omega))
   have hp:=pow8 (n:=i.toNat) (by omega)
   rw[e,hsp,hsl,hI]
   refine⟨by omega,by omega,by omega,by omega,by omega,fun h1=>?_,fun h1=>⟨fun h2=>?_,fun h2=>?_⟩⟩
   ·have h1':decide (m / 2^i.toNat % 2=1)=true:=by simpa using h1
    rw[if_neg (fun h=>by rw[h1'] at h;exact absurd h.2 (by decide)),if_pos h1']
    repeat' refine And.intro ?_ ?_
    all_goals first|omega|rfl
   ·have h1':decide (m / 2^i.toNat % 2=1)=false:=by simpa using h1
    have ho:=or_pow hb.1 hb.2 (show i.toNat≤8 by omega)
    rw[ho,if_pos ⟨h2,h1'⟩,if_neg (fun h=>by rw[h1'] at h;exact absurd h (by decide))]
    repeat' refine And.intro ?_ ?_
    all_goals first|omega|rfl
   ·have h1':decide (m / 2^i.toNat % 2=1)=false:=by simpa using h1
    rw[if_neg (fun h=>h2 h.1),if_neg (fun h=>by rw[h1'] at h;exact absurd h (by decide))]
    repeat' refine And.intro ?_ ?_
    all_goals first|omega|rfl
  ·have hiV:i.toNat=V.length:=by omega
   rw[hiV] at hb hl ⊢
   have hb2:payU V m V.length<T.length:=by rw[hT,←hV];exact hb.2
   have hs:=@bestU_succ V T m.toNat (by rw[em];exact hb.1) (by rw[em];exact hb2)
   rw[em] at hs
   unfold pU lU at hs
   have hbl:=@bestU_len V T m.toNat
   rw[em1,←hs]
   generalize bestU V T m.toNat=B at*
   repeat' refine And.intro ?_ ?_
   all_goals first|omega|rfl|exact cowE (by simp)
 ·have hmT:m.toNat=T.length:=by omega
  rw[hmT]
  have hbl:=@bestU_len V T T.length
  refine⟨?_,?_⟩
  ·repeat' refine And.intro ?_ ?_
   all_goals first|omega|rfl
  rintro⟨i,b,out⟩ ⟨⟨i0,i1⟩,hb,ho⟩
  simp only at i0 i1 hb ho ⊢
  subst hb
  subst ho
  have ei:((i.toNat:Nat):Int)=i:=by omega
  have e:(i+1).toNat=i.toNat+1:=by omega
  have hol:(needU V T i.toNat).length≤i.toNat:=by
   unfold needU
   refine Nat.le_trans (List.length_filterMap_le _ _) ?_
   simp
  refine⟨fun hi=>?_,fun hi=>?_⟩
  ·have hgt:=@bestU_get V T T.length i.toNat (by omega)
   have hsu:=@needU_succ V T i.toNat
   rw[ei] at hsu hgt
   rw[e,hsu,hgt]
   refine⟨by omega,by omega,by omega,fun hp=>?_,fun hp=>?_⟩
   ·rw[if_pos hp]
    repeat' refine And.intro ?_ ?_
    all_goals first|omega|rfl|(simp;omega)
   ·rw[if_neg hp]
    repeat' refine And.intro ?_ ?_
    all_goals first|omega|rfl
  ·rw[show i.toNat=T.length by omega]
   repeat' refine And.intro ?_ ?_
   all_goals first|omega|rfl|trivial
def payOk (l:List Fra):Prop:=l.length≤10∧∀x∈l,∃q,x=frE q∧Sz 3 q
def paidQ (l:List Fra) (m:Int) (n:Nat):Rat:=(List.range n).foldl (fun(s:Rat) (j:Nat)=>if hasI m j=true then s+valF (nthD l j sF.dflt) else s) 0
theorem paidQ_succ {l:List Fra} {m:Int} {n:Nat}:paidQ l m (n+1)=if hasI m n=true then paidQ l m n+valF (nthD l n sF.dflt) else paidQ l m n:=by
 unfold paidQ
 rw[List.range_succ,List.foldl_append]
 rfl
theorem payOk_get {l:List Fra} (h:payOk l) {n:Nat} (hn:n<l.length):∃q,nthD l n sF.dflt=frE q∧Sz 3 q:=h.2 _ (nthD_mem hn)
theorem sz_zero:Sz 1 0:=by unfold Sz;decide
theorem paidQ_sz {l:List Fra} {m:Int} (h:payOk l):∀{n:Nat},n≤l.length→Sz (1+4*n) (paidQ l m n)
 |0,_=>by simpa[paidQ] using sz_zero
 |n+1,hn=>by
  have h1:=@paidQ_sz l m h n (by omega)
  obtain⟨q,hq,hs⟩:=payOk_get h (show n<l.length by omega)
  rw[paidQ_succ]
  split
  ·rw[hq,valF_frE]
   exact(sz_add h1 hs).mono (by omega)
  ·exact h1.mono (by omega)
def r96:SCtr:=⟨34,List Fra×Int,.cons (codR sF) (.one (codI .i64)),fun a=>payOk a.1∧0≤a.2∧a.2≤9223372036854775807,fun a=>frS (paidQ a.1 a.2 a.1.length)⟩
def Λ96 (a:List Fra×Int):Nat→LoopAnn
 |3=> .inv (Int×Fra) (fun x=>⟨[(1,.si .i64 a.2),(4,.ptr 0 0 3),(5,.ptr 1 0 3),(9,.row sF a.1),(10,.si .i64 a.1.length),(11,.si .i64 x.1)],
   [.cells [.bl false,.sc (.slice none 0 0),.sc (.slice none 0 0)] 40 3 false,.cells [.sb x.2.1,.row (.i .u32) x.2.2.1,.row (.i .u32) x.2.2.2] 40 3 false]⟩)
   (fun s=>(iS s 11,cS sF s 1 0)) (fun x=>(0≤x.1∧x.1≤a.1.length)∧x.2=frE (paidQ a.1 a.2 x.1.toNat)) (fun x=>(a.1.length - x.1).toNat) fun _ _=> .look
 |_=> .look
theorem h96:Holds Tryz.prog r96:=by
 refine con (L:=[r94,r129]) r96 F96 Λ96 (OwnOK.none _) (by simpa using⟨h94,h129⟩) (by kernel_rfl) (by kernel_rfl) (fun _=>rfl) ?_
 rintro⟨l,m⟩ ⟨hl,m0,m1⟩
 refine vcOf (let z0:=SV.ptr 0 0 3;let z1:=SV.ptr 1 0 3;let z2:=(↑l.length:Int);let z3:=SV.si .i64 z2;let z4:=SV.sc (Value.slice none 0 0);let z5:=SObj.cells [SV.bl false,z4,z4] 40 3 false;let z6:=frE (IntCast.intCast (0:Int));let z7:=SId.i .u32;let z8:=SObj.cells [SV.sb z6.fst,SV.row z7 z6.snd.fst,SV.row z7 z6.snd.snd] 40 3 false;let z9:=frE (paidQ l m l.length);((-9223372036854775808:Int)≤(0:Int)∧(0:Int)≤(9223372036854775807:Int))∧((((SV.si .i64 m).same (SV.si .i64 m)∧z0.same z0∧z1.same z1∧(SV.row sF l).same (SV.row sF l)∧(SV.si .i64 (↑l.length:Int)).same z3∧(SV.il .i64 0).same (SV.si .i64 0)∧True)∧z5.same z5∧z8.same z8∧True)∧((0:Int)≤(0:Int)∧(0:Int)≤z2)∧(z6.fst,z6.snd.fst,z6.snd.snd)=frE (paidQ l m 0))∧∀(x:Int×Fra),let z10:=x.fst.toNat;let z11:=decide (binK.andI .i64 (m / (2:Int)^z10) (1:Int)=(1:Int));let z12:=(x.snd.fst,x.snd.snd.fst,x.snd.snd.snd);let z13:=(nthD l z10 sF.dflt).snd;let z14:=((nthD l z10 sF.dflt).fst,z13.fst,z13.snd);let z15:=x.fst+(1:Int);let z16:=SV.si .i64 z15;let z17:=frE (valF z12+valF z14);let z18:=SObj.cells [SV.sb z17.fst,SV.row z7 z17.snd.fst,SV.row z7 z17.snd.snd] 40 3 false;let z19:=frE (paidQ l m z15.toNat);let z20:=[SV.sb x.snd.fst,SV.row z7 x.snd.snd.fst,SV.row z7 x.snd.snd.snd];let z21:=SObj.cells z20 40 3 false;((0:Int)≤x.fst∧x.fst≤z2)∧x.snd=frE (paidQ l m z10)→(decide (x.fst<z2)=true→(0:Int)≤x.fst∧x.fst<(↑l.length:Int)∧z10<l.length∧(0:Int)≤x.fst∧x.fst≤(64:Int)∧(z11=true→(isF z12∧isF z14)∧inR .i64 z15∧(((SV.si .i64 m).same (SV.si .i64 m)∧z0.same z0∧z1.same z1∧(SV.row sF l).same (SV.row sF l)∧z3.same z3∧z16.same z16∧True)∧z5.same z5∧z18.same z18∧True)∧(((0:Int)≤z15∧z15≤z2)∧(z17.fst,z17.snd.fst,z17.snd.snd)=z19)∧(z2 - z15).toNat<(z2 - x.fst).toNat)∧(z11=false→inR .i64 z15∧(((SV.si .i64 m).same (SV.si .i64 m)∧z0.same z0∧z1.same z1∧(SV.row sF l).same (SV.row sF l)∧z3.same z3∧z16.same z16∧True)∧z5.same z5∧z21.same z21∧True)∧(((0:Int)≤z15∧z15≤z2)∧z12=z19)∧(z2 - z15).toNat<(z2 - x.fst).toNat))∧(decide (x.fst<z2)=false→(SV.agg z20).same (SV.agg [SV.sb z9.fst,SV.row z7 z9.snd.fst,SV.row z7 z9.snd.snd]))) (by kernel_rfl) ?_
 simp only[vcs]
 have m0:0≤m:=m0
 have m1:m≤9223372036854775807:=m1
 have hl:payOk l:=hl
 have hll:=hl.1
 have e0:(IntCast.intCast (0:Int):Rat)=paidQ l m 0:=by
  show((0:Int):Rat)=_
  simp[paidQ]
 rw[e0]
 refine⟨by omega,⟨⟨by omega,by omega⟩,rfl⟩,?_⟩
 rintro⟨i,s⟩ ⟨⟨i0,i1⟩,hs⟩
 simp only at i0 i1 hs
 subst hs
 have e:(i+1).toNat=i.toNat+1:=by omega
 have ei:((i.toNat:Nat):Int)=i:=by omega
 have hsu:=@paidQ_succ l m i.toNat
 rw[ei] at hsu
 obtain⟨n0,n1⟩:=half_nn (i:=i.toNat) m0
 have ha:binK.andI .i64 (m / 2^i.toNat) 1=m / 2^i.toNat % 2:=and_one n0 (by omega)
 have hI:hasI m i=decide (m / 2^i.toNat % 2=1):=rfl
 simp only[ha]
 refine⟨fun hi=>⟨by omega,by omega,by omega,by omega,by omega,fun h1=>?_,fun h1=>?_⟩,fun hi=>?_⟩
 ·obtain⟨q,hq,hsz⟩:=payOk_get hl (show i.toNat<l.length by omega)
  have hz:=@paidQ_sz l m hl i.toNat (by omega)
  rw[if_pos (by rw[hI];exact decide_eq_true h1)] at hsu
  have e1:valF ((frE (paidQ l m i.toNat)).1,(frE (paidQ l m i.toNat)).2.1,(frE (paidQ l m i.toNat)).2.2)+valF ((nthD l i.toNat sF.dflt).1,(nthD l i.toNat sF.dflt).2.1,(nthD l i.toNat sF.dflt).2.2)=paidQ l m (i.toNat+1):=by
   rw[hsu]
   show valF (frE (paidQ l m i.toNat))+valF (nthD l i.toNat sF.dflt)=_
   rw[valF_frE]
  refine⟨⟨⟨_,_,rfl,hz,by omega⟩,⟨q,3,hq,hsz,by omega⟩⟩,?_⟩
  rw[e,e1]
  repeat' refine And.intro ?_ ?_
  all_goals first|omega|rfl
 ·rw[if_neg (by rw[hI];simpa using h1)] at hsu
  rw[e,hsu]
  repeat' refine And.intro ?_ ?_
  all_goals first|omega|rfl
 ·rw[show i.toNat=l.length by omega]
  repeat' refine And.intro ?_ ?_
  all_goals rfl
def gainQ (V:List Int) (l:List Fra) (m w:Int):Rat:=(lU V m w:Rat) - paidQ l (pU V m) l.length
def fCells (x:Fra):SObj:=.cells [.sb x.1,.row (.i .u32) x.2.1,.row (.i .u32) x.2.2] 40 3 false
def nilF:SObj:=.cells [.bl false,.sc (.slice none 0 0),.sc (.slice none 0 0)] 40 3 false
def Λ98 (a:Prob×Alloc×List Fra×Int×Int):Nat→LoopAnn
 |4=> .inv (Int×Fra) (fun x=>⟨[(2,.row sF a.2.2.1),(10,.ptr 2 0 3),(11,.ptr 3 0 3),(12,.si .i64 (payU (valsS a.1 a.2.1.chosen) a.2.2.2.1 a.1.classes.length)),(13,.si .i64 x.1)],
   [.cells a.1.ss 27 20 false,.cells [.row (.i .i64) a.2.1.chosen,.si .i64 a.2.1.value] 29 2 false,nilF,fCells x.2]⟩)
   (fun s=>(iS s 13,cS sF s 3 0)) (fun x=>(0≤x.1∧x.1≤a.2.2.1.length)∧x.2=frE ((lU (valsS a.1 a.2.1.chosen) a.2.2.2.1 a.2.2.2.2:Rat) - paidQ a.2.2.1 (pU (valsS a.1 a.2.1.chosen) a.2.2.2.1) x.1.toNat)) (fun x=>(a.2.2.1.length - x.1).toNat) fun _ _=> .look
 |_=> .look
def r98:SCtr:=⟨38,Prob×Alloc×List Fra×Int×Int,.cons codP (.cons codA (.cons (codR sF) (.cons (codI .i64) (.one (codI .i64))))),fun a=>feasE a.1 a.2.1.chosen=0∧payOk a.2.2.1∧(0≤a.2.2.2.1∧a.2.2.2.1≤9223372036854775807)∧ -1000000000000000000≤a.2.2.2.2∧a.2.2.2.2≤1000000000000000000,fun a=>frS (gainQ (valsS a.1 a.2.1.chosen) a.2.2.1 a.2.2.2.1 a.2.2.2.2)⟩
theorem h98:Holds Tryz.prog r98:=by
 refine con (L:=[r92,r51,r91,r102,r108]) r98 F98 Λ98 (OwnOK.none _) (by simpa using⟨h92,h51,h91,h102,h108⟩) (by kernel_rfl) (by kernel_rfl) (fun _=>rfl) ?_
 rintro⟨p,⟨c,v⟩,l,m,w⟩ ⟨hf,hl,⟨m0,m1⟩,w0,w1⟩
 refine vcOf (let z0:=leastU (valsS p c) m w p.classes.length;let z1:=SV.ptr 2 0 3;let z2:=SV.ptr 3 0 3;let z3:=payU (valsS p c) m p.classes.length;let z4:=SV.si .i64 z3;let z5:=SObj.cells (Prob.ss p) 27 20 false;let z6:=SObj.cells [SV.row (SId.i .i64) c,SV.si .i64 v] 29 2 false;let z7:=SV.sc (Value.slice none 0 0);let z8:=SObj.cells [SV.bl false,z7,z7] 40 3 false;let z9:=frE (IntCast.intCast z0);let z10:=SId.i .u32;let z11:=SObj.cells [SV.sb z9.fst,SV.row z10 z9.snd.fst,SV.row z10 z9.snd.snd] 40 3 false;let z12:=(↑l.length:Int);let z13:=IntCast.intCast (lU (valsS p c) m w);let z14:=pU (valsS p c) m;let z15:=frE (gainQ (valsS p c) l m w);(feasE p c=(0:Int)∧((0:Int)≤m∧m≤(9223372036854775807:Int))∧(-1000000000000000000:Int)≤w∧w≤(1000000000000000000:Int))∧((-9223372036854775808:Int)≤z0∧z0≤(9223372036854775807:Int))∧(feasE p c=(0:Int)∧(0:Int)≤m∧m≤(9223372036854775807:Int))∧((((SV.row sF l).same (SV.row sF l)∧z1.same z1∧z2.same z2∧z4.same z4∧(SV.il .i64 0).same (SV.si .i64 0)∧True)∧z5.same z5∧z6.same z6∧z8.same z8∧z11.same z11∧True)∧((0:Int)≤(0:Int)∧(0:Int)≤z12)∧(z9.fst,z9.snd.fst,z9.snd.snd)=frE (z13 - paidQ l z14 0))∧∀(x:Int×Fra),let z16:=decide (x.fst<(↑l.length:Int));let z17:=(x.snd.fst,x.snd.snd.fst,x.snd.snd.snd);let z18:=nthD l x.fst.toNat sF.dflt;let z19:=(z18.fst,z18.snd.fst,z18.snd.snd);let z20:=x.fst+(1:Int);let z21:=SV.si .i64 z20;let z22:=frE (valF z17 - valF z19);let z23:=SObj.cells [SV.sb z22.fst,SV.row z10 z22.snd.fst,SV.row z10 z22.snd.snd] 40 3 false;let z24:=frE (z13 - paidQ l z14 z20.toNat);let z25:=[SV.sb x.snd.fst,SV.row z10 x.snd.snd.fst,SV.row z10 x.snd.snd.snd];let z26:=SObj.cells z25 40 3 false;((0:Int)≤x.fst∧x.fst≤z12)∧x.snd=frE (z13 - paidQ l z14 x.fst.toNat)→(z16=true→(((0:Int)≤z3∧z3≤(9223372036854775807:Int))∧(0:Int)≤x.fst∧x.fst≤(9223372036854775806:Int))∧(hasI z3 x.fst=true→(0:Int)≤x.fst∧x.fst<(↑l.length:Int)∧x.fst.toNat<l.length∧(isG z17∧isG z19)∧inR .i64 z20∧(((SV.row sF l).same (SV.row sF l)∧z1.same z1∧z2.same z2∧z4.same z4∧z21.same z21∧True)∧z5.same z5∧z6.same z6∧z8.same z8∧z23.same z23∧True)∧(((0:Int)≤z20∧z20≤z12)∧(z22.fst,z22.snd.fst,z22.snd.snd)=z24)∧(z12 - z20).toNat<(z12 - x.fst).toNat)∧(hasI z3 x.fst=false→inR .i64 z20∧(((SV.row sF l).same (SV.row sF l)∧z1.same z1∧z2.same z2∧z4.same z4∧z21.same z21∧True)∧z5.same z5∧z6.same z6∧z8.same z8∧z26.same z26∧True)∧(((0:Int)≤z20∧z20≤z12)∧z17=z24)∧(z12 - z20).toNat<(z12 - x.fst).toNat))∧(z16=false→(SV.agg z25).same (SV.agg [SV.sb z15.fst,SV.row z10 z15.snd.fst,SV.row z10 z15.snd.snd]))) (by kernel_rfl) ?_
 simp only[vcs]
 have hf:feasE p c=0:=hf
 have hl:payOk l:=hl
 have m0:0≤m:=m0
 have m1:m≤9223372036854775807:=m1
 have w0: -1000000000000000000≤w:=w0
 have w1:w≤1000000000000000000:=w1
 have hll:=hl.1
 obtain⟨hV,h8,hv⟩:=vals_good hf
 have hbp:=@payU_bd (valsS p c) m p.classes.length
 have hbl:=@leastU_bd (valsS p c) m w hv p.classes.length (by omega)
 have hp8:=pow8 h8
 simp only[pU,lU,hV,gainQ]
 generalize payU (valsS p c) m p.classes.length=P at*
 generalize leastU (valsS p c) m w p.classes.length=W at*
 have hW:Sz 2 (W:Rat):=by
  unfold Sz
  simp
  omega
 have e0:(W:Rat) - paidQ l P 0=(W:Rat):=by
  simp[paidQ,Rat.sub_eq_add_neg,Rat.add_zero]
 refine⟨⟨hf,by omega,by omega⟩,⟨by omega,by omega⟩,⟨hf,by omega,by omega⟩,⟨⟨by omega,by omega⟩,(congrArg frE e0).symm⟩,?_⟩
 rintro⟨i,s⟩ ⟨⟨i0,i1⟩,hs⟩
 simp only at i0 i1 hs
 subst hs
 have e:(i+1).toNat=i.toNat+1:=by omega
 have ei:((i.toNat:Nat):Int)=i:=by omega
 have hsu:=@paidQ_succ l P i.toNat
 rw[ei] at hsu
 have hz:=@paidQ_sz l P hl i.toNat (by omega)
 have hD:Sz (2+(1+4*i.toNat)+1) ((W:Rat) - paidQ l P i.toNat):=by
  rw[Rat.sub_eq_add_neg]
  exact sz_add hW (sz_neg hz)
 refine⟨fun hi=>⟨⟨⟨by omega,by omega⟩,by omega,by omega⟩,fun h1=>?_,fun h1=>?_⟩,fun hi=>?_⟩
 ·obtain⟨q,hq,hsz⟩:=payOk_get hl (show i.toNat<l.length by omega)
  rw[if_pos h1] at hsu
  have e1:valF ((frE ((W:Rat) - paidQ l P i.toNat)).1,(frE ((W:Rat) - paidQ l P i.toNat)).2.1,(frE ((W:Rat) - paidQ l P i.toNat)).2.2) - valF ((nthD l i.toNat sF.dflt).1,(nthD l i.toNat sF.dflt).2.1,(nthD l i.toNat sF.dflt).2.2)=(W:Rat) - paidQ l P (i.toNat+1):=by
   rw[hsu]
   show valF (frE ((W:Rat) - paidQ l P i.toNat)) - valF (nthD l i.toNat sF.dflt)=_
   rw[valF_frE]
   grind
  refine⟨by omega,by omega,by omega,⟨⟨_,_,rfl,hD,by omega⟩,⟨q,3,hq,hsz,by omega⟩⟩,?_⟩
  rw[e,e1]
  repeat' refine And.intro ?_ ?_
  all_goals first|omega|rfl
 ·rw[if_neg (by rw[h1];decide)] at hsu
  rw[e,hsu]
  repeat' refine And.intro ?_ ?_
  all_goals first|omega|rfl
 ·rw[show i.toNat=l.length by omega]
  repeat' refine And.intro ?_ ?_
  all_goals rfl
structure Blk where
 m:Int
 w:Int
 g:Rat
def blkU (V T:List Int) (l:List Fra) (k:Nat):Blk:=(List.range k).foldl (fun(s:Blk) (m:Nat)=>if s.g<gainQ V l m (nthD T m 0) then⟨m,nthD T m 0,gainQ V l m (nthD T m 0)⟩ else s) ⟨0,0,0⟩
theorem blkU_succ {V T:List Int} {l:List Fra} {k:Nat}:blkU V T l (k+1)=if(blkU V T l k).g<gainQ V l k (nthD T k 0) then⟨k,nthD T k 0,gainQ V l k (nthD T k 0)⟩ else blkU V T l k:=by
 unfold blkU
 rw[List.range_succ,List.foldl_append]
 rfl
def blkE (p:Prob) (c:List Int) (l:List Fra):Int:=if faultC p c≠0 then faultC p c else if l.length≠p.classes.length then 3 else 0
def blkS (p:Prob) (c:List Int) (l:List Fra):Blk:=blkU (valsS p c) (tabS p) l (tabS p).length
def r44:SCtr:=⟨14,Prob×Alloc×List Fra,.cons codP (.cons codA (.one (codR sF))),fun a=>a.2.1.chosen.length≤9223372036854775807∧payOk a.2.2,
 fun a=> .tup [.agg [.si .i64 (if blkE a.1 a.2.1.chosen a.2.2=0 then(blkS a.1 a.2.1.chosen a.2.2).m else 0),.si .i64 (if blkE a.1 a.2.1.chosen a.2.2=0 then(blkS a.1 a.2.1.chosen a.2.2).w else 0)],.agg (encS sF (if blkE a.1 a.2.1.chosen a.2.2=0 then frE (blkS a.1 a.2.1.chosen a.2.2).g else(false,([],[])))),.si .i64 (blkE a.1 a.2.1.chosen a.2.2)]⟩
def st44 (a:Prob×Alloc×List Fra) (x:Int×Int×Fra):SStore:=[.cells a.1.ss 27 20 false,.cells [.row (.i .i64) a.2.1.chosen,.si .i64 a.2.1.value] 29 2 false,.cells [.row sF a.2.2] 30 1 false,.cells [.il .i64 0,.il .i64 0] 48 2 false,nilF,
 .cells [.si .i64 x.1,.si .i64 x.2.1] 48 2 false,fCells x.2.2,
 .cells [.row (.i .i64) (if faultC a.1 a.2.1.chosen=0 then tabS a.1 else[])] 59 1 false,.cells [.row (.i .i64) (if faultC a.1 a.2.1.chosen=0 then valsS a.1 a.2.1.chosen else[])] 59 1 false]
def Λ44 (a:Prob×Alloc×List Fra):Nat→LoopAnn
 |1001=> .inv (Int×Int×Int×Fra) (fun x=>⟨[(0,.fn (.yield 0) [] []),(2,.ptr 8 0 1),(9,.row (.i .i64) (if faultC a.1 a.2.1.chosen=0 then tabS a.1 else[])),(10,.si .i64 (if faultC a.1 a.2.1.chosen=0 then tabS a.1 else[]).length),(11,.si .i64 x.1)],st44 a x.2⟩)
   (fun s=>(iS s 11,cS (.i .i64) s 5 0,cS (.i .i64) s 5 1,cS sF s 6 0)) (fun x=>(0≤x.1∧x.1≤(tabS a.1).length)∧x.2.1=(blkU (valsS a.1 a.2.1.chosen) (tabS a.1) a.2.2 x.1.toNat).m∧x.2.2.1=(blkU (valsS a.1 a.2.1.chosen) (tabS a.1) a.2.2 x.1.toNat).w∧x.2.2.2=frE (blkU (valsS a.1 a.2.1.chosen) (tabS a.1) a.2.2 x.1.toNat).g) (fun x=>((tabS a.1).length - x.1).toNat) fun x k=>match k with
    |5=> .inv (Int×Int×Int) (fun y=>⟨[(0,.fn (.yield 0) [] []),(2,.ptr 8 0 1),(4,.si .i64 x.1),(6,.ptr 9 0 4),(9,.row (.i .i64) (if faultC a.1 a.2.1.chosen=0 then tabS a.1 else[])),(10,.si .i64 (if faultC a.1 a.2.1.chosen=0 then tabS a.1 else[]).length),(11,.si .i64 x.1),
      (22,.row (.i .i64) (if faultC a.1 a.2.1.chosen=0 then valsS a.1 a.2.1.chosen else[])),(23,.si .i64 (if faultC a.1 a.2.1.chosen=0 then valsS a.1 a.2.1.chosen else[]).length),(24,.si .i64 y.1)],
      st44 a x.2++[.cells [.si .i64 x.1,.si .i64 (nthD (if faultC a.1 a.2.1.chosen=0 then tabS a.1 else[]) x.1.toNat 0),.si .i64 y.2.1,.si .i64 y.2.2] 73 4 false]⟩)
      (fun s=>(iS s 24,cS (.i .i64) s 9 2,cS (.i .i64) s 9 3)) (fun y=>(0≤y.1∧y.1≤(valsS a.1 a.2.1.chosen).length)∧y.2.1=payU (valsS a.1 a.2.1.chosen) x.1 y.1.toNat∧y.2.2=leastU (valsS a.1 a.2.1.chosen) x.1 (nthD (tabS a.1) x.1.toNat 0) y.1.toNat) (fun y=>((valsS a.1 a.2.1.chosen).length - y.1).toNat) fun _ _=> .look
    |_=> .look
 |_=> .look
theorem cmpQ_pos {p q:Rat}:0<cmpQ p q↔q<p:=by
 unfold cmpQ
 by_cases h1:p<q
 ·rw[if_pos h1]
  constructor
  ·intro h;omega
  ·intro h;exact absurd h1 (by grind)
 ·rw[if_neg h1]
  by_cases h2:q<p
  ·rw[if_pos h2];simp[h2]
  ·rw[if_neg h2];simp[h2]
theorem faultC_len {p:Prob} {c:List Int} {l:List Fra} (hz:faultC p c=0) (hl:l.length=p.classes.length):blkE p c l=0:=by
 unfold blkE
 rw[if_neg (by omega),if_neg (by omega)]
theorem szI {W:Int} (h1: -9223372036854775808≤W) (h2:W≤9223372036854775807):Sz 2 (W:Rat):=by
 unfold Sz
 simp
 omega
theorem gainQ_sz {V T:List Int} {l:List Fra} {m w:Int} (hl:payOk l) (hv:∀v∈V,0≤v∧v≤1000000000000000) (h8:V.length≤8) (w0: -1000000000000000000≤w) (w1:w≤1000000000000000000):Sz 44 (gainQ V l m w):=by
 have hll:=hl.1
 have hb:=@leastU_bd V m w hv V.length (by omega)
 unfold gainQ
 rw[Rat.sub_eq_add_neg]
 exact(sz_add (szI (W:=lU V m w) (by unfold lU;omega) (by unfold lU;omega)) (sz_neg (paidQ_sz hl (Nat.le_refl _)))).mono (by omega)
theorem blkU_sz {V T:List Int} {l:List Fra} (hl:payOk l) (hv:∀v∈V,0≤v∧v≤1000000000000000) (h8:V.length≤8) (ht:∀m:Nat,0≤nthD T m 0∧nthD T m 0≤8000000):∀{k:Nat},Sz 44 (blkU V T l k).g
 |0=>sz_zero.mono (by omega)
 |k+1=>by
  have:=@blkU_sz V T l hl hv h8 ht k
  have hk:=ht k
  rw[blkU_succ]
  split
  ·exact gainQ_sz (T:=T) hl hv h8 (by omega) (by omega)
  ·exact this
theorem h44:Holds Tryz.prog r44:=by
 refine con (L:=[r87,r94,r96,r95,r97]) (W:=ownT [r88]) r44 F44 Λ44 (ownT_ok (by simpa using h88)) (by simpa using⟨h87,h94,h96,h95,h97⟩) (by kernel_rfl) (by kernel_rfl) (fun _=>rfl) ?_
 rintro⟨p,⟨c,v⟩,l⟩ ⟨h,hl⟩
 refine vcOf (let z0:=decide (faultC p c≠(0:Int));let z1:=SV.il .i64 0;let z2:=SId.i .i64;let z3:=SV.agg [SV.bl false,SV.row z2 [],SV.row z2 []];let z4:=if blkE p c l=(0:Int) then frE (blkS p c l).g else(false,[],[]);let z5:=SId.i .u32;let z6:=SV.tup [SV.agg [SV.si .i64 (if blkE p c l=(0:Int) then(blkS p c l).m else(0:Int)),SV.si .i64 (if blkE p c l=(0:Int) then(blkS p c l).w else(0:Int))],SV.agg [SV.sb z4.fst,SV.row z5 z4.snd.fst,SV.row z5 z4.snd.snd],SV.si .i64 (blkE p c l)];let z7:=if faultC p c=(0:Int) then valsS p c else[];let z8:=decide ((↑l.length:Int)≠(↑z7.length:Int));let z9:=SV.fn (Fn.yield 0) [] [];let z10:=SV.ptr 8 0 1;let z11:=if faultC p c=(0:Int) then tabS p else[];let z12:=if faultC p c=(0:Int) then tabS p else[];let z13:=SV.row z2 z12;let z14:=if faultC p c=(0:Int) then tabS p else[];let z15:=SV.si .i64 (↑z14.length:Int);let z16:=SV.si .i64 0;let z17:=SObj.cells [SV.si .i64 p.supply.a0,SV.si .i64 p.supply.a1,SV.si .i64 p.supply.a2,SV.si .i64 p.supply.a3,SV.si .i64 p.supply.a4,SV.si .i64 p.supply.a5,SV.si .i64 p.opn.a0,SV.si .i64 p.opn.a1,SV.si .i64 p.opn.a2,SV.si .i64 p.opn.a3,SV.si .i64 p.opn.a4,SV.si .i64 p.opn.a5,SV.si .i64 p.cls.a0,SV.si .i64 p.cls.a1,SV.si .i64 p.cls.a2,SV.si .i64 p.cls.a3,SV.si .i64 p.cls.a4,SV.si .i64 p.cls.a5,SV.row z2 p.classes,SV.row SId.off p.offers] 27 20 false;let z18:=SObj.cells [SV.row z2 c,SV.si .i64 v] 29 2 false;let z19:=SObj.cells [SV.row sF l] 30 1 false;let z20:=SObj.cells [z1,z1] 48 2 false;let z21:=SV.sc (Value.slice none 0 0);let z22:=SObj.cells [SV.bl false,z21,z21] 40 3 false;let z23:=frE (IntCast.intCast (0:Int));let z24:=SObj.cells [SV.sb z23.fst,SV.row z5 z23.snd.fst,SV.row z5 z23.snd.snd] 40 3 false;let z25:=SObj.cells [z13] 59 1 false;let z26:=if faultC p c=(0:Int) then valsS p c else[];let z27:=SV.row z2 z26;let z28:=SObj.cells [z27] 59 1 false;let z29:=(↑(tabS p).length:Int);let z30:=blkU (valsS p c) (tabS p) l 0;let z31:=SV.ptr 9 0 4;let z32:=(↑(if faultC p c=(0:Int) then valsS p c else[]).length:Int);let z33:=SV.si .i64 z32;let z34:=(↑(valsS p c).length:Int);c.length≤9223372036854775807∧(z0=true→(SV.tup [SV.agg [z1,z1],z3,SV.si .i64 (faultC p c)]).same z6)∧(z0=false→(z8=true→(SV.tup [SV.agg [z1,z1],z3,SV.il .i64 3]).same z6)∧(z8=false→((-9223372036854775808:Int)≤(0:Int)∧(0:Int)≤(9223372036854775807:Int))∧True∧(((z9.same z9∧z10.same z10∧(SV.row z2 z11).same z13∧(SV.si .i64 (↑z11.length:Int)).same z15∧z1.same z16∧True)∧z17.same z17∧z18.same z18∧z19.same z19∧z20.same z20∧z22.same z22∧z20.same (SObj.cells [z16,z16] 48 2 false)∧z24.same z24∧(SObj.cells [SV.row z2 z11] 59 1 false).same z25∧(SObj.cells [SV.row z2 z7] 59 1 false).same z28∧True)∧((0:Int)≤(0:Int)∧(0:Int)≤z29)∧(0:Int)=z30.m∧(0:Int)=z30.w∧(z23.fst,z23.snd.fst,z23.snd.snd)=frE z30.g)∧∀(x:Int×Int×Int×Fra),let z35:=x.fst.toNat;let z36:=blkU (valsS p c) (tabS p) l z35;let z37:=x.snd.snd.fst;let z38:=x.snd.snd.snd;let z39:=decide (x.fst<(↑z14.length:Int));let z40:=SV.si .i64 x.fst;let z41:=[SV.si .i64 x.snd.fst,SV.si .i64 z37];let z42:=SObj.cells z41 48 2 false;let z43:=[SV.sb z38.fst,SV.row z5 z38.snd.fst,SV.row z5 z38.snd.snd];let z44:=SObj.cells z43 40 3 false;let z45:=nthD z12 z35 (0:Int);let z46:=SV.si .i64 z45;let z47:=nthD z14 z35 (0:Int);let z48:=SV.si .i64 z47;let z49:=nthD (tabS p) z35 (0:Int);let z50:=(z38.fst,z38.snd.fst,z38.snd.snd);let z51:=x.fst+(1:Int);let z52:=SV.si .i64 z51;let z53:=SObj.cells [z40,z48] 48 2 false;let z54:=blkU (valsS p c) (tabS p) l z51.toNat;((0:Int)≤x.fst∧x.fst≤z29)∧x.snd.fst=z36.m∧z37=z36.w∧z38=frE z36.g→(z39=true→(0:Int)≤x.fst∧x.fst<(↑z12.length:Int)∧z35<z12.length∧(((z9.same z9∧z10.same z10∧z40.same z40∧z31.same z31∧z13.same z13∧z15.same z15∧z40.same z40∧z27.same z27∧(SV.si .i64 (↑z26.length:Int)).same z33∧z1.same z16∧True)∧z17.same z17∧z18.same z18∧z19.same z19∧z20.same z20∧z22.same z22∧z42.same z42∧z44.same z44∧z25.same z25∧z28.same z28∧(SObj.cells [z40,z46,z1,z46] 73 4 false).same (SObj.cells [z40,z48,z16,z46] 73 4 false)∧True)∧((0:Int)≤(0:Int)∧(0:Int)≤z34)∧(0:Int)=payU (valsS p c) x.fst 0∧z45=leastU (valsS p c) x.fst z49 0)∧∀(x_1:Int×Int×Int),let z55:=x_1.fst.toNat;let z56:=decide (x_1.fst<z32);let z57:=decide (binK.andI .i64 (x.fst / (2:Int)^z55) (1:Int)=(1:Int));let z58:=nthD z26 z55 (0:Int);let z59:=x_1.snd.snd - z58;let z60:=x_1.fst+(1:Int);let z61:=SV.si .i64 z60;let z62:=SV.si .i64 x_1.snd.fst;let z63:=SObj.cells [z40,z48,z62,SV.si .i64 z59] 73 4 false;let z64:=payU (valsS p c) x.fst z60.toNat;let z65:=leastU (valsS p c) x.fst z49 z60.toNat;let z66:=decide ((0:Int)<z58);let z67:=(1:Int)*(2:Int)^z55;let z68:=binK.orI .i64 x_1.snd.fst z67;let z69:=[SV.si .i64 x_1.snd.snd];let z70:=SObj.cells (z40::z48::SV.si .i64 z68::z69) 73 4 false;let z71:=SObj.cells (z40::z48::z62::z69) 73 4 false;let z72:=frE (IntCast.intCast x_1.snd.snd);let z73:=(z72.fst,z72.snd.fst,z72.snd.snd);let z74:=frE (paidQ l x_1.snd.fst l.length);let z75:=(z74.fst,z74.snd.fst,z74.snd.snd);let z76:=frE (valF z73 - valF z75);let z77:=(z76.fst,z76.snd.fst,z76.snd.snd);let z78:=decide ((0:Int)<cmpQ (valF z77) (valF z50));let z79:=SObj.cells [SV.sb z76.fst,SV.row z5 z76.snd.fst,SV.row z5 z76.snd.snd] 40 3 false;((0:Int)≤x_1.fst∧x_1.fst≤z34)∧x_1.snd.fst=payU (valsS p c) x.fst z55∧x_1.snd.snd=leastU (valsS p c) x.fst z49 z55→(z56=true→(0:Int)≤x_1.fst∧x_1.fst<(↑z26.length:Int)∧z55<z26.length∧(0:Int)≤x_1.fst∧x_1.fst≤(64:Int)∧(z57=true→inR .i64 z59∧inR .i64 z60∧((z9.same z9∧z10.same z10∧z40.same z40∧z31.same z31∧z13.same z13∧z15.same z15∧z40.same z40∧z27.same z27∧z33.same z33∧z61.same z61∧True)∧z17.same z17∧z18.same z18∧z19.same z19∧z20.same z20∧z22.same z22∧z42.same z42∧z44.same z44∧z25.same z25∧z28.same z28∧z63.same z63∧True)∧(((0:Int)≤z60∧z60≤z34)∧x_1.snd.fst=z64∧z59=z65)∧(z34 - z60).toNat<(z34 - x_1.fst).toNat)∧(z57=false→(z66=true→(0:Int)≤x_1.fst∧x_1.fst≤(64:Int)∧inR .i64 z67∧inR .i64 z60∧((z9.same z9∧z10.same z10∧z40.same z40∧z31.same z31∧z13.same z13∧z15.same z15∧z40.same z40∧z27.same z27∧z33.same z33∧z61.same z61∧True)∧z17.same z17∧z18.same z18∧z19.same z19∧z20.same z20∧z22.same z22∧z42.same z42∧z44.same z44∧z25.same z25∧z28.same z28∧z70.same z70∧True)∧(((0:Int)≤z60∧z60≤z34)∧z68=z64∧x_1.snd.snd=z65)∧(z34 - z60).toNat<(z34 - x_1.fst).toNat)∧(z66=false→inR .i64 z60∧((z9.same z9∧z10.same z10∧z40.same z40∧z31.same z31∧z13.same z13∧z15.same z15∧z40.same z40∧z27.same z27∧z33.same z33∧z61.same z61∧True)∧z17.same z17∧z18.same z18∧z19.same z19∧z20.same z20∧z22.same z22∧z42.same z42∧z44.same z44∧z25.same z25∧z28.same z28∧z71.same z71∧True)∧(((0:Int)≤z60∧z60≤z34)∧x_1.snd.fst=z64∧x_1.snd.snd=z65)∧(z34 - z60).toNat<(z34 - x_1.fst).toNat)))∧(z56=false→((-9223372036854775808:Int)≤x_1.snd.snd∧x_1.snd.snd≤(9223372036854775807:Int))∧(payOk l∧(0:Int)≤x_1.snd.fst∧x_1.snd.fst≤(9223372036854775807:Int))∧(isF z73∧isF z75)∧(isF z77∧isF z50)∧(z78=true→inR .i64 z51∧((z9.same z9∧z10.same z10∧z13.same z13∧z15.same z15∧z52.same z52∧True)∧z17.same z17∧z18.same z18∧z19.same z19∧z20.same z20∧z22.same z22∧z53.same z53∧z79.same z79∧z25.same z25∧z28.same z28∧True)∧(((0:Int)≤z51∧z51≤z29)∧x.fst=z54.m∧z47=z54.w∧z77=frE z54.g)∧(z29 - z51).toNat<(z29 - x.fst).toNat)∧(z78=false→inR .i64 z51∧((z9.same z9∧z10.same z10∧z13.same z13∧z15.same z15∧z52.same z52∧True)∧z17.same z17∧z18.same z18∧z19.same z19∧z20.same z20∧z22.same z22∧z42.same z42∧z44.same z44∧z25.same z25∧z28.same z28∧True)∧(((0:Int)≤z51∧z51≤z29)∧x.snd.fst=z54.m∧z37=z54.w∧z50=frE z54.g)∧(z29 - z51).toNat<(z29 - x.fst).toNat)))∧(z39=false→(SV.tup [SV.agg z41,SV.agg z43,z1]).same z6)))) (by kernel_rfl) ?_
 simp only[vcs]
 have hl:payOk l:=hl
 have hll:=hl.1
 have h:c.length≤9223372036854775807:=h
 refine⟨h,fun hne=>?_,fun hz=>?_⟩
 ·have hb:blkE p c l=faultC p c:=by unfold blkE;rw[if_pos hne]
  rw[hb,if_neg hne,if_neg hne,if_neg hne]
  repeat' refine And.intro ?_ ?_
  all_goals first|rfl|trivial
 have hz:faultC p c=0:=by simpa using hz
 obtain⟨hf,hc⟩:=faultC_zero hz
 have hg:=good_of hc
 obtain⟨hV,h8,hv⟩:=vals_good hf
 obtain⟨hT,ht⟩:=tabS_ok hg
 have hp8:=pow8 h8
 simp only[hz,if_true]
 refine⟨fun hne=>?_,fun hle=>?_⟩
 ·have hb:blkE p c l=3:=by unfold blkE;rw[if_neg (by omega),if_pos (by omega)]
  rw[hb]
  repeat' refine And.intro ?_ ?_
  all_goals first|rfl|trivial
 have hle:l.length=p.classes.length:=by omega
 have hb:blkE p c l=0:=faultC_len hz hle
 have hsz:=fun k=>@blkU_sz (valsS p c) (tabS p) l hl hv (by omega) ht k
 simp only[hb,if_true,blkS]
 generalize tabS p=T at*
 generalize valsS p c=V at*
 refine⟨by omega,?_,?_⟩
 ·repeat' refine And.intro ?_ ?_
  all_goals first|omega|rfl|exact congrArg frE (show((0:Int):Rat)=(0:Rat) from rfl)|(simp[blkU];done)
 rintro⟨m,bm,bw,bg⟩ ⟨⟨m0,m1⟩,hbm,hbw,hbg⟩
 simp only at m0 m1 hbm hbw hbg ⊢
 subst hbm
 subst hbw
 subst hbg
 have hw:=ht m.toNat
 have em:((m.toNat:Nat):Int)=m:=by omega
 have em1:(m+1).toNat=m.toNat+1:=by omega
 refine⟨fun hm=>⟨by omega,by omega,by omega,?_,?_⟩,fun hm=>?_⟩
 ·repeat' refine And.intro ?_ ?_
  all_goals first|omega|rfl
 ·rintro⟨i,q,y⟩ ⟨⟨i0,i1⟩,hq,hy⟩
  simp only at i0 i1 hq hy ⊢
  subst hq
  subst hy
  have e:(i+1).toNat=i.toNat+1:=by omega
  have ei:((i.toNat:Nat):Int)=i:=by omega
  have hsp:=@payU_succ V m i.toNat
  have hsl:=@leastU_succ V m (nthD T m.toNat 0) i.toNat
  rw[ei] at hsp hsl
  have hb:=@payU_bd V m i.toNat
  have hl2:=@leastU_bd V m (nthD T m.toNat 0) hv i.toNat (by omega)
  obtain⟨n0,n1⟩:=half_nn (i:=i.toNat) m0
  have ha:binK.andI .i64 (m / 2^i.toNat) 1=m / 2^i.toNat % 2:=and_one n0 (by omega)
  have hI:hasI m i=decide (m / 2^i.toNat % 2=1):=rfl
  rw[ha]
  refine⟨fun hi=>?_,fun hi=>?_⟩
  ·have hx:=hv _ (nthD_mem (d:=0) (show i.toNat<V.length by omega))
   have hp:=pow8 (n:=i.toNat) (by omega)
   rw[e,hsp,hsl,hI]
   refine⟨by omega,by omega,by omega,by omega,by omega,fun h1=>?_,fun h1=>⟨fun h2=>?_,fun h2=>?_⟩⟩
   ·have h1':decide (m / 2^i.toNat % 2=1)=true:=by simpa using h1
    rw[if_neg (fun h=>by rw[h1'] at h;exact absurd h.2 (by decide)),if_pos h1']
    repeat' refine And.intro ?_ ?_
    all_goals first|omega|rfl
   ·have h1':decide (m / 2^i.toNat % 2=1)=false:=by simpa using h1
    have ho:=or_pow hb.1 hb.2 (show i.toNat≤8 by omega)
    rw[ho,if_pos ⟨h2,h1'⟩,if_neg (fun h=>by rw[h1'] at h;exact absurd h (by decide))]
    repeat' refine And.intro ?_ ?_
    all_goals first|omega|rfl
   ·have h1':decide (m / 2^i.toNat % 2=1)=false:=by simpa using h1
    rw[if_neg (fun h=>h2 h.1),if_neg (fun h=>by rw[h1'] at h;exact absurd h (by decide))]
    repeat' refine And.intro ?_ ?_
    all_goals first|omega|rfl
  ·have hiV:i.toNat=V.length:=by omega
   rw[hiV] at hb hl2 ⊢
   have hp9:=pow8 (n:=V.length) (by omega)
   have hP:payU V m V.length<256:=by omega
   have hgs:Sz 44 (gainQ V l m (nthD T m.toNat 0)):=gainQ_sz (T:=T) hl hv (by omega) (by omega) (by omega)
   have e1:valF ((frE (IntCast.intCast (leastU V m (nthD T m.toNat 0) V.length):Rat)).1,(frE (IntCast.intCast (leastU V m (nthD T m.toNat 0) V.length):Rat)).2.1,(frE (IntCast.intCast (leastU V m (nthD T m.toNat 0) V.length):Rat)).2.2) - valF ((frE (paidQ l (payU V m V.length) l.length)).1,(frE (paidQ l (payU V m V.length) l.length)).2.1,(frE (paidQ l (payU V m V.length) l.length)).2.2)=gainQ V l m (nthD T m.toNat 0):=by
    show valF (frE (IntCast.intCast (leastU V m (nthD T m.toNat 0) V.length):Rat)) - valF (frE (paidQ l (payU V m V.length) l.length))=_
    rw[valF_frE,valF_frE]
    rfl
   have e2:∀q:Rat,valF ((frE q).1,(frE q).2.1,(frE q).2.2)=q:=valF_frE
   have hsu:=@blkU_succ V T l m.toNat
   rw[em] at hsu
   have hs2:=hsz m.toNat
   rw[e1]
   simp only[e2,cmpQ_pos]
   rw[em1,hsu]
   refine⟨⟨by omega,by omega⟩,⟨hl,by omega,by omega⟩,⟨⟨_,2,rfl,szI (by omega) (by omega),by omega⟩,⟨_,_,rfl,paidQ_sz hl (Nat.le_refl _),by omega⟩⟩,⟨⟨_,44,rfl,hgs,by omega⟩,⟨_,44,rfl,hs2,by omega⟩⟩,fun hc2=>?_,fun hc2=>?_⟩
   ·rw[if_pos hc2]
    repeat' refine And.intro ?_ ?_
    all_goals first|omega|rfl
   ·rw[if_neg hc2]
    repeat' refine And.intro ?_ ?_
    all_goals first|omega|rfl
 ·rw[show m.toNat=T.length by omega]
  repeat' refine And.intro ?_ ?_
  all_goals first|omega|rfl|trivial
def r45:SCtr:=⟨20,Prob×Alloc×List Fra,.cons codP (.cons codA (.one (codR sF))),fun a=>a.2.1.chosen.length≤9223372036854775807∧payOk a.2.2,
 fun a=> .tup [.agg [.si .i64 (if blkE a.1 a.2.1.chosen a.2.2=0 then(blkS a.1 a.2.1.chosen a.2.2).m else 0),.si .i64 (if blkE a.1 a.2.1.chosen a.2.2=0 then(blkS a.1 a.2.1.chosen a.2.2).w else 0)],.agg (encS sF (if blkE a.1 a.2.1.chosen a.2.2=0 then frE (blkS a.1 a.2.1.chosen a.2.2).g else(false,([],[])))),.si .i64 (blkE a.1 a.2.1.chosen a.2.2)]⟩
def Λ45 (a:Prob×Alloc×List Fra):Nat→LoopAnn
 |9=> .inv (Int×Int×Int×Fra) (fun x=>⟨[(2,.row sF a.2.2),(3,.ptr 0 0 20),(4,.ptr 1 0 2),(6,.ptr 2 0 2),(7,.ptr 3 0 3),(10,.row (.i .i64) (if checkE a.1=0 then tabS a.1 else[])),(12,.ptr 4 0 2),(13,.ptr 5 0 3),(14,.si .i64 x.1)],
   [.cells a.1.ss 27 20 false,.cells [.row (.i .i64) a.2.1.chosen,.si .i64 a.2.1.value] 29 2 false,.cells [.il .i64 0,.il .i64 0] 48 2 false,nilF,.cells [.si .i64 x.2.1,.si .i64 x.2.2.1] 48 2 false,fCells x.2.2.2]⟩)
   (fun s=>(iS s 14,cS (.i .i64) s 4 0,cS (.i .i64) s 4 1,cS sF s 5 0)) (fun x=>(0≤x.1∧x.1≤(tabS a.1).length)∧x.2.1=(blkU (valsS a.1 a.2.1.chosen) (tabS a.1) a.2.2 x.1.toNat).m∧x.2.2.1=(blkU (valsS a.1 a.2.1.chosen) (tabS a.1) a.2.2 x.1.toNat).w∧x.2.2.2=frE (blkU (valsS a.1 a.2.1.chosen) (tabS a.1) a.2.2 x.1.toNat).g) (fun x=>((tabS a.1).length - x.1).toNat) fun _ _=> .look
 |_=> .look
theorem h45:Holds Tryz.prog r45:=by
 refine con (L:=[r89,r90,r51,r98,r53]) r45 F45 Λ45 (OwnOK.none _) (by simpa using⟨h89,h90,h51,h98,h53⟩) (by kernel_rfl) (by kernel_rfl) (fun _=>rfl) ?_
 rintro⟨p,⟨c,v⟩,l⟩ ⟨h,hl⟩
 refine vcOf (let z0:=decide (faultC p c≠(0:Int));let z1:=SV.il .i64 0;let z2:=SId.i .i64;let z3:=SV.agg [SV.bl false,SV.row z2 [],SV.row z2 []];let z4:=if blkE p c l=(0:Int) then frE (blkS p c l).g else(false,[],[]);let z5:=SId.i .u32;let z6:=SV.tup [SV.agg [SV.si .i64 (if blkE p c l=(0:Int) then(blkS p c l).m else(0:Int)),SV.si .i64 (if blkE p c l=(0:Int) then(blkS p c l).w else(0:Int))],SV.agg [SV.sb z4.fst,SV.row z5 z4.snd.fst,SV.row z5 z4.snd.snd],SV.si .i64 (blkE p c l)];let z7:=decide ((↑l.length:Int)≠(↑p.classes.length:Int));let z8:=SV.ptr 0 0 20;let z9:=SV.ptr 1 0 2;let z10:=SV.ptr 2 0 2;let z11:=SV.ptr 3 0 3;let z12:=if checkE p=(0:Int) then tabS p else[];let z13:=SV.row z2 z12;let z14:=SV.ptr 4 0 2;let z15:=SV.ptr 5 0 3;let z16:=SV.si .i64 0;let z17:=SObj.cells [SV.si .i64 p.supply.a0,SV.si .i64 p.supply.a1,SV.si .i64 p.supply.a2,SV.si .i64 p.supply.a3,SV.si .i64 p.supply.a4,SV.si .i64 p.supply.a5,SV.si .i64 p.opn.a0,SV.si .i64 p.opn.a1,SV.si .i64 p.opn.a2,SV.si .i64 p.opn.a3,SV.si .i64 p.opn.a4,SV.si .i64 p.opn.a5,SV.si .i64 p.cls.a0,SV.si .i64 p.cls.a1,SV.si .i64 p.cls.a2,SV.si .i64 p.cls.a3,SV.si .i64 p.cls.a4,SV.si .i64 p.cls.a5,SV.row z2 p.classes,SV.row SId.off p.offers] 27 20 false;let z18:=SObj.cells [SV.row z2 c,SV.si .i64 v] 29 2 false;let z19:=SObj.cells [z1,z1] 48 2 false;let z20:=SV.sc (Value.slice none 0 0);let z21:=SObj.cells [SV.bl false,z20,z20] 40 3 false;let z22:=frE (IntCast.intCast (0:Int));let z23:=SObj.cells [SV.sb z22.fst,SV.row z5 z22.snd.fst,SV.row z5 z22.snd.snd] 40 3 false;let z24:=(↑(tabS p).length:Int);let z25:=blkU (valsS p c) (tabS p) l 0;let z26:=(↑z12.length:Int);c.length≤9223372036854775807∧(z0=true→(SV.tup [SV.agg [z1,z1],z3,SV.si .i64 (faultC p c)]).same z6)∧(z0=false→(z7=true→(SV.tup [SV.agg [z1,z1],z3,SV.il .i64 3]).same z6)∧(z7=false→True∧((-9223372036854775808:Int)≤(0:Int)∧(0:Int)≤(9223372036854775807:Int))∧((((SV.row sF l).same (SV.row sF l)∧z8.same z8∧z9.same z9∧z10.same z10∧z11.same z11∧(SV.row z2 (if checkE p=(0:Int) then tabS p else[])).same z13∧z14.same z14∧z15.same z15∧z1.same z16∧True)∧z17.same z17∧z18.same z18∧z19.same z19∧z21.same z21∧z19.same (SObj.cells [z16,z16] 48 2 false)∧z23.same z23∧True)∧((0:Int)≤(0:Int)∧(0:Int)≤z24)∧(0:Int)=z25.m∧(0:Int)=z25.w∧(z22.fst,z22.snd.fst,z22.snd.snd)=frE z25.g)∧∀(x:Int×Int×Int×Fra),let z27:=blkU (valsS p c) (tabS p) l x.fst.toNat;let z28:=x.snd.snd.fst;let z29:=x.snd.snd.snd;let z30:=decide (x.fst<z26);let z31:=nthD z12 x.fst.toNat (0:Int);let z32:=frE (gainQ (valsS p c) l x.fst z31);let z33:=(z32.fst,z32.snd.fst,z32.snd.snd);let z34:=(z29.fst,z29.snd.fst,z29.snd.snd);let z35:=decide ((0:Int)<cmpQ (valF z33) (valF z34));let z36:=x.fst+(1:Int);let z37:=SV.si .i64 z36;let z38:=SObj.cells [SV.si .i64 x.fst,SV.si .i64 z31] 48 2 false;let z39:=SObj.cells [SV.sb z32.fst,SV.row z5 z32.snd.fst,SV.row z5 z32.snd.snd] 40 3 false;let z40:=blkU (valsS p c) (tabS p) l z36.toNat;let z41:=[SV.si .i64 x.snd.fst,SV.si .i64 z28];let z42:=SObj.cells z41 48 2 false;let z43:=[SV.sb z29.fst,SV.row z5 z29.snd.fst,SV.row z5 z29.snd.snd];let z44:=SObj.cells z43 40 3 false;((0:Int)≤x.fst∧x.fst≤z24)∧x.snd.fst=z27.m∧z28=z27.w∧z29=frE z27.g→(z30=true→(0:Int)≤x.fst∧x.fst<z26∧x.fst.toNat<z12.length∧(feasE p c=(0:Int)∧payOk l∧((0:Int)≤x.fst∧x.fst≤(9223372036854775807:Int))∧(-1000000000000000000:Int)≤z31∧z31≤(1000000000000000000:Int))∧(isG z33∧isG z34)∧(z35=true→(0:Int)≤x.fst∧x.fst<z26∧x.fst.toNat<z12.length∧inR .i64 z36∧(((SV.row sF l).same (SV.row sF l)∧z8.same z8∧z9.same z9∧z10.same z10∧z11.same z11∧z13.same z13∧z14.same z14∧z15.same z15∧z37.same z37∧True)∧z17.same z17∧z18.same z18∧z19.same z19∧z21.same z21∧z38.same z38∧z39.same z39∧True)∧(((0:Int)≤z36∧z36≤z24)∧x.fst=z40.m∧z31=z40.w∧z33=frE z40.g)∧(z24 - z36).toNat<(z24 - x.fst).toNat)∧(z35=false→inR .i64 z36∧(((SV.row sF l).same (SV.row sF l)∧z8.same z8∧z9.same z9∧z10.same z10∧z11.same z11∧z13.same z13∧z14.same z14∧z15.same z15∧z37.same z37∧True)∧z17.same z17∧z18.same z18∧z19.same z19∧z21.same z21∧z42.same z42∧z44.same z44∧True)∧(((0:Int)≤z36∧z36≤z24)∧x.snd.fst=z40.m∧z28=z40.w∧z34=frE z40.g)∧(z24 - z36).toNat<(z24 - x.fst).toNat))∧(z30=false→(SV.tup [SV.agg z41,SV.agg z43,z1]).same z6)))) (by kernel_rfl) ?_
 simp only[vcs]
 have hl:payOk l:=hl
 have hll:=hl.1
 have h:c.length≤9223372036854775807:=h
 refine⟨h,fun hne=>?_,fun hz=>?_⟩
 ·have hb:blkE p c l=faultC p c:=by unfold blkE;rw[if_pos hne]
  rw[hb,if_neg hne,if_neg hne,if_neg hne]
  repeat' refine And.intro ?_ ?_
  all_goals first|rfl|trivial
 have hz:faultC p c=0:=by simpa using hz
 obtain⟨hf,hc⟩:=faultC_zero hz
 have hg:=good_of hc
 obtain⟨hV,h8,hv⟩:=vals_good hf
 obtain⟨hT,ht⟩:=tabS_ok hg
 have hp8:=pow8 h8
 simp only[hc,if_true]
 refine⟨fun hne=>?_,fun hle=>?_⟩
 ·have hb:blkE p c l=3:=by unfold blkE;rw[if_neg (by omega),if_pos (by omega)]
  rw[hb]
  repeat' refine And.intro ?_ ?_
  all_goals first|rfl|trivial
 have hle:l.length=p.classes.length:=by omega
 have hb:blkE p c l=0:=faultC_len hz hle
 have hsz:=fun k=>@blkU_sz (valsS p c) (tabS p) l hl hv (by omega) ht k
 simp only[hb,if_true,blkS]
 generalize tabS p=T at*
 generalize valsS p c=V at*
 refine⟨by omega,?_,?_⟩
 ·repeat' refine And.intro ?_ ?_
  all_goals first|omega|rfl|exact congrArg frE (show((0:Int):Rat)=(0:Rat) from rfl)|(simp[blkU];done)
 rintro⟨m,bm,bw,bg⟩ ⟨⟨m0,m1⟩,hbm,hbw,hbg⟩
 simp only at m0 m1 hbm hbw hbg ⊢
 subst hbm
 subst hbw
 subst hbg
 have hw:=ht m.toNat
 have em:((m.toNat:Nat):Int)=m:=by omega
 have em1:(m+1).toNat=m.toNat+1:=by omega
 have hgs:Sz 44 (gainQ V l m (nthD T m.toNat 0)):=gainQ_sz (T:=T) hl hv (by omega) (by omega) (by omega)
 have e2:∀q:Rat,valF ((frE q).1,(frE q).2.1,(frE q).2.2)=q:=valF_frE
 have hsu:=@blkU_succ V T l m.toNat
 rw[em] at hsu
 have hs2:=hsz m.toNat
 simp only[e2,cmpQ_pos]
 refine⟨fun hm=>?_,fun hm=>?_⟩
 ·rw[em1,hsu]
  refine⟨by omega,by omega,by omega,⟨hf,hl,⟨by omega,by omega⟩,by omega,by omega⟩,⟨⟨_,44,rfl,hgs,by omega⟩,⟨_,44,rfl,hs2,by omega⟩⟩,fun hc2=>?_,fun hc2=>?_⟩
  ·rw[if_pos hc2]
   repeat' refine And.intro ?_ ?_
   all_goals first|omega|rfl
  ·rw[if_neg hc2]
   repeat' refine And.intro ?_ ?_
   all_goals first|omega|rfl
 ·rw[show m.toNat=T.length by omega]
  repeat' refine And.intro ?_ ?_
  all_goals first|omega|rfl|trivial
def rat1 (V:List Int) (l:List Fra) (j:Nat):Bool:=decide (0≤valF (nthD l j sF.dflt))&&decide (valF (nthD l j sF.dflt)≤((nthD V j 0:Int):Rat))
def ratB (p:Prob) (c:List Int) (l:List Fra):Bool:=decide (feasE p c=0)&&decide (l.length=p.classes.length)&&(List.range l.length).all (rat1 (valsS p c) l)
theorem ratB_iff {p:Prob} {c:List Int} {l:List Fra}:ratB p c l=true↔feasE p c=0∧l.length=p.classes.length∧∀j:Nat,j<l.length→rat1 (valsS p c) l j=true:=by
 unfold ratB
 simp only[Bool.and_eq_true,decide_eq_true_eq,List.all_eq_true,List.mem_range,and_assoc]
theorem sgn_neg {q:Rat}:sgnQ q<0↔¬0≤q:=by
 unfold sgnQ
 by_cases h1:q<0
 ·rw[if_pos h1]
  have:¬0≤q:=by grind
  simp[this]
 ·rw[if_neg h1]
  have:0≤q:=by grind
  by_cases h2:0<q
  ·rw[if_pos h2];simp[this]
  ·rw[if_neg h2];simp[this]
def r49:SCtr:=⟨9,Prob×Alloc×List Fra,.cons codP (.cons codA (.one (codR sF))),fun a=>a.2.1.chosen.length≤9223372036854775807∧payOk a.2.2,fun a=> .sb (ratB a.1 a.2.1.chosen a.2.2)⟩
def Λ49 (a:Prob×Alloc×List Fra):Nat→LoopAnn
 |7=> .inv Int (fun x=>⟨[(7,.row (.i .i64) (if feasE a.1 a.2.1.chosen=0 then valsS a.1 a.2.1.chosen else[])),(23,.row sF a.2.2),(24,.si .i64 a.2.2.length),(25,.si .i64 x)],[.cells a.1.ss 27 20 false,.cells [.row (.i .i64) a.2.1.chosen,.si .i64 a.2.1.value] 29 2 false]⟩)
   (fun s=>iS s 25) (fun x=>(0≤x∧x≤a.2.2.length)∧∀j:Nat,(j:Int)<x→rat1 (valsS a.1 a.2.1.chosen) a.2.2 j=true) (fun x=>(a.2.2.length - x).toNat) fun _ _=> .look
 |_=> .look
theorem h49:Holds Tryz.prog r49:=by
 refine con (L:=[r100,r101,r99,r94,r97]) r49 F49 Λ49 (OwnOK.none _) (by simpa using⟨h100,h101,h99,h94,h97⟩) (by kernel_rfl) (by kernel_rfl) (fun _=>rfl) ?_
 rintro⟨p,⟨c,v⟩,l⟩ ⟨h,hl⟩
 refine vcOf (let z0:=decide (feasE p c≠(0:Int));let z1:=(↑l.length:Int);let z2:=if feasE p c=(0:Int) then valsS p c else[];let z3:=decide (z1≠(↑z2.length:Int));let z4:=SId.i .i64;let z5:=if feasE p c=(0:Int) then valsS p c else[];let z6:=SV.row z4 z5;let z7:=(↑l.length:Int);let z8:=SV.si .i64 z7;let z9:=SObj.cells [SV.si .i64 p.supply.a0,SV.si .i64 p.supply.a1,SV.si .i64 p.supply.a2,SV.si .i64 p.supply.a3,SV.si .i64 p.supply.a4,SV.si .i64 p.supply.a5,SV.si .i64 p.opn.a0,SV.si .i64 p.opn.a1,SV.si .i64 p.opn.a2,SV.si .i64 p.opn.a3,SV.si .i64 p.opn.a4,SV.si .i64 p.opn.a5,SV.si .i64 p.cls.a0,SV.si .i64 p.cls.a1,SV.si .i64 p.cls.a2,SV.si .i64 p.cls.a3,SV.si .i64 p.cls.a4,SV.si .i64 p.cls.a5,SV.row z4 p.classes,SV.row SId.off p.offers] 27 20 false;let z10:=SObj.cells [SV.row z4 c,SV.si .i64 v] 29 2 false;c.length≤9223372036854775807∧(z0=true→(SV.bl false).same (SV.sb (ratB p c l)))∧(z0=false→c.length≤9223372036854775807∧(z3=true→(SV.bl false).same (SV.sb (ratB p c l)))∧(z3=false→((((SV.row z4 z2).same z6∧(SV.row sF l).same (SV.row sF l)∧(SV.si .i64 z1).same z8∧(SV.il .i64 0).same (SV.si .i64 0)∧True)∧z9.same z9∧z10.same z10∧True)∧((0:Int)≤(0:Int)∧(0:Int)≤z7)∧∀(j:Nat),(↑j:Int)<(0:Int)→rat1 (valsS p c) l j=true)∧∀(x:Int),let z11:=nthD l x.toNat sF.dflt;let z12:=(z11.fst,z11.snd.fst,z11.snd.snd);let z13:=decide (sgnQ (valF z12)<(0:Int));let z14:=nthD z5 x.toNat (0:Int);let z15:=frE (IntCast.intCast z14);let z16:=(z15.fst,z15.snd.fst,z15.snd.snd);let z17:=decide ((0:Int)<cmpQ (valF z12) (valF z16));let z18:=x+(1:Int);let z19:=SV.si .i64 z18;(((0:Int)≤x∧x≤z7)∧∀(j:Nat),(↑j:Int)<x→rat1 (valsS p c) l j=true)→(decide (x<z7)=true→(0:Int)≤x∧x<z1∧x.toNat<l.length∧isF z12∧(z13=true→(SV.bl false).same (SV.sb (ratB p c l)))∧(z13=false→(0:Int)≤x∧x<(↑z5.length:Int)∧x.toNat<z5.length∧((-9223372036854775808:Int)≤z14∧z14≤(9223372036854775807:Int))∧(isF z12∧isF z16)∧(z17=true→(SV.bl false).same (SV.sb (ratB p c l)))∧(z17=false→inR .i64 z18∧((z6.same z6∧(SV.row sF l).same (SV.row sF l)∧z8.same z8∧z19.same z19∧True)∧z9.same z9∧z10.same z10∧True)∧(((0:Int)≤z18∧z18≤z7)∧∀(j:Nat),(↑j:Int)<z18→rat1 (valsS p c) l j=true)∧(z7 - z18).toNat<(z7 - x).toNat)))∧(decide (x<z7)=false→(SV.bl true).same (SV.sb (ratB p c l)))))) (by kernel_rfl) ?_
 simp only[vcs]
 have hl:payOk l:=hl
 have hll:=hl.1
 have h:c.length≤9223372036854775807:=h
 have nope:(¬(feasE p c=0∧l.length=p.classes.length∧∀j:Nat,j<l.length→rat1 (valsS p c) l j=true))→ratB p c l=false:=fun hn=>by
  cases hb:ratB p c l with
  |false=>rfl
  |true=>exact absurd (ratB_iff.1 hb) hn
 refine⟨h,fun hne=>?_,fun hz=>?_⟩
 ·exact(nope fun h=>hne h.1).symm
 have hz:feasE p c=0:=by simpa using hz
 obtain⟨hV,h8,hv⟩:=vals_good hz
 simp only[hz,if_true]
 refine⟨h,fun hne=>?_,fun hle=>?_⟩
 ·exact(nope fun h=>by omega).symm
 have hle:l.length=p.classes.length:=by omega
 refine⟨⟨⟨by omega,by omega⟩,fun j hj=>by omega⟩,?_⟩
 rintro i ⟨⟨i0,i1⟩,hj⟩
 refine⟨fun hi=>?_,fun hi=>?_⟩
 ·obtain⟨q,hq,hsz⟩:=payOk_get hl (show i.toNat<l.length by omega)
  have hx:=hv _ (nthD_mem (d:=0) (show i.toNat<(valsS p c).length by omega))
  have e1:valF ((nthD l i.toNat sF.dflt).1,(nthD l i.toNat sF.dflt).2.1,(nthD l i.toNat sF.dflt).2.2)=valF (nthD l i.toNat sF.dflt):=rfl
  have e2:∀q:Rat,valF ((frE q).1,(frE q).2.1,(frE q).2.2)=q:=valF_frE
  simp only[e1,e2,cmpQ_pos,sgn_neg]
  have hF:isF ((nthD l i.toNat sF.dflt).1,(nthD l i.toNat sF.dflt).2.1,(nthD l i.toNat sF.dflt).2.2):=⟨q,3,hq,hsz,by omega⟩
  refine⟨by omega,by omega,by omega,hF,fun h1=>?_,fun h1=>⟨by omega,by omega,by omega,⟨by omega,by omega⟩,⟨hF,⟨_,2,rfl,szI (by omega) (by omega),by omega⟩⟩,fun h2=>?_,fun h2=>?_⟩⟩
  ·refine(nope fun h=>h1 ?_).symm
   have:=h.2.2 i.toNat (by omega)
   unfold rat1 at this
   simp only[Bool.and_eq_true,decide_eq_true_eq] at this
   exact this.1
  ·refine(nope fun h=>?_).symm
   have:=h.2.2 i.toNat (by omega)
   unfold rat1 at this
   simp only[Bool.and_eq_true,decide_eq_true_eq] at this
   have h2:((nthD (valsS p c) i.toNat 0:Int):Rat)<valF (nthD l i.toNat sF.dflt):=h2
   have h3:=this.2
   grind
  ·refine⟨by omega,⟨⟨by omega,by omega⟩,fun j hj2=>?_⟩,by omega⟩
   by_cases hji:(j:Int)<i
   ·exact hj j hji
   ·have:j=i.toNat:=by omega
    subst this
    unfold rat1
    simp only[Bool.and_eq_true,decide_eq_true_eq]
    have h1:¬¬0≤valF (nthD l i.toNat sF.dflt):=by simpa using h1
    have h2:¬((nthD (valsS p c) i.toNat 0:Int):Rat)<valF (nthD l i.toNat sF.dflt):=h2
    exact⟨by grind,by grind⟩
 ·exact(ratB_iff.2 ⟨hz,hle,fun j h=>hj j (by omega)⟩).symm
theorem blkE_zero {p:Prob} {c:List Int} {l:List Fra} (h:blkE p c l=0):faultC p c=0∧l.length=p.classes.length:=by
 unfold blkE at h
 split at h
 ·rename_i h1;exact absurd h h1
 ·rename_i h1
  split at h
  ·cases h
  ·rename_i h2
   exact⟨by omega,by omega⟩
theorem blkS_sz {p:Prob} {c:List Int} {l:List Fra} (h:blkE p c l=0) (hl:payOk l):Sz 44 (blkS p c l).g:=by
 obtain⟨hz,_⟩:=blkE_zero h
 obtain⟨hf,hc⟩:=faultC_zero hz
 obtain⟨hV,h8,hv⟩:=vals_good hf
 obtain⟨hT,ht⟩:=tabS_ok (good_of hc)
 exact blkU_sz hl hv (by omega) ht
def coreE (p:Prob) (c:List Int) (l:List Fra):Int:=if blkE p c l≠0 then blkE p c l else if ratB p c l=false then 4 else if((blkS p c l).m≠0∨(blkS p c l).w≠0)∨0<(blkS p c l).g then 13 else 0
theorem sgn_pos {q:Rat}:0<sgnQ q↔0<q:=by
 unfold sgnQ
 by_cases h1:q<0
 ·rw[if_pos h1]
  have:¬0<q:=by grind
  simp[this]
 ·rw[if_neg h1]
  by_cases h2:0<q
  ·rw[if_pos h2];simp[h2]
  ·rw[if_neg h2];simp[h2]
def r47:SCtr:=⟨7,Prob×Alloc×List Fra,.cons codP (.cons codA (.one (codR sF))),fun a=>a.2.1.chosen.length≤9223372036854775807∧payOk a.2.2,fun a=> .si .i64 (coreE a.1 a.2.1.chosen a.2.2)⟩
theorem h47:Holds Tryz.prog r47:=by
 refine con (L:=[r44,r49,r99]) r47 F47 (fun _ _=> .look) (OwnOK.none _) (by simpa using⟨h44,h49,h99⟩) (by kernel_rfl) (by kernel_rfl) (fun _=>rfl) ?_
 rintro⟨p,⟨c,v⟩,l⟩ ⟨h,hl⟩
 refine vcOf (let z0:=decide (blkE p c l≠(0:Int));let z1:=SV.si .i64 (coreE p c l);let z2:=!(decide ((if blkE p c l=(0:Int) then(blkS p c l).m else(0:Int))=(0:Int))&&(decide ((if blkE p c l=(0:Int) then(blkS p c l).w else(0:Int))=(0:Int))&&true));let z3:=if blkE p c l=(0:Int) then frE (blkS p c l).g else(false,[],[]);let z4:=(z3.fst,z3.snd.fst,z3.snd.snd);let z5:=decide ((0:Int)<sgnQ (valF z4));(c.length≤9223372036854775807∧payOk l)∧(z0=true→(SV.si .i64 (blkE p c l)).same z1)∧(z0=false→(c.length≤9223372036854775807∧payOk l)∧((!ratB p c l)=true→(SV.il .i64 4).same z1)∧((!ratB p c l)=false→(z2=true→(SV.il .i64 13).same z1)∧(z2=false→isF z4∧(z5=true→(SV.il .i64 13).same z1)∧(z5=false→(SV.il .i64 0).same z1))))) (by kernel_rfl) ?_
 simp only[vcs]
 have hl:payOk l:=hl
 have h:c.length≤9223372036854775807:=h
 refine⟨⟨h,hl⟩,fun hne=>?_,fun hz=>?_⟩
 ·unfold coreE
  rw[if_pos hne]
 have hz:blkE p c l=0:=by simpa using hz
 have hsz:=blkS_sz hz hl
 have e2:∀q:Rat,valF ((frE q).1,(frE q).2.1,(frE q).2.2)=q:=valF_frE
 simp only[hz,if_true,e2,sgn_pos]
 unfold coreE
 rw[if_neg (by omega)]
 refine⟨⟨h,hl⟩,fun h1=>?_,fun h1=>⟨fun h2=>?_,fun h2=>⟨⟨_,44,rfl,hsz,by omega⟩,fun h3=>?_,fun h3=>?_⟩⟩⟩
 ·rw[if_pos (by simpa using h1)]
 ·have h1':ratB p c l=true:=by simpa using h1
  rw[if_neg (by rw[h1'];decide),if_pos]
  by_cases hm:(blkS p c l).m=0
  ·by_cases hw:(blkS p c l).w=0
   ·simp[hm,hw] at h2
   ·exact .inl (.inr hw)
  ·exact .inl (.inl hm)
 ·have h1':ratB p c l=true:=by simpa using h1
  rw[if_neg (by rw[h1'];decide),if_pos (.inr h3)]
 ·have h1':ratB p c l=true:=by simpa using h1
  rw[if_neg (by rw[h1'];decide),if_neg]
  rintro((hm|hw)|hg)
  ·exact hm h2.1
  ·exact hw h2.2
  ·exact h3 hg
def intsF (l:List Int):List Fra:=l.map fun(n:Int)=>frE ((n:Int):Rat)
def Λ56 (a:List Int):Nat→LoopAnn
 |3=> .inv (Int×List Fra) (fun x=>⟨[(3,.ow 0 x.2.length 3),(6,.row (.i .i64) a),(7,.si .i64 a.length),(8,.si .i64 x.1)],[.row sF x.2 40 false]⟩) (fun s=>(iS s 8,oS sF s 0))
   (fun x=>(0≤x.1∧x.1≤a.length)∧x.2=intsF (a.take x.1.toNat)) (fun x=>(a.length - x.1).toNat) fun _ _=> .look
 |_=> .look
def r56:SCtr:=⟨15,List Int,.one (codR (.i .i64)),fun a=>(show List Int from a).length≤1000∧∀n∈(show List Int from a), -9223372036854775808≤n∧n≤9223372036854775807,fun a=> .row sF (intsF a)⟩
theorem h56:Holds Tryz.prog r56:=by
 refine con (L:=[r51]) r56 F56 Λ56 (OwnOK.none _) (by simpa using h51) (by kernel_rfl) (by kernel_rfl) (fun _=>rfl) ?_
 rintro(l:List Int) ⟨hl,hn⟩
 refine vcOf (let z0:=SV.ow 0 0 3;let z1:=SV.row (SId.i .i64) l;let z2:=(↑l.length:Int);let z3:=SV.si .i64 z2;let z4:=(SId.i .u32).lst;let z5:=SId.b.pair (z4.pair z4);(((z0.same z0∧z1.same z1∧(SV.si .i64 (↑l.length:Int)).same z3∧(SV.il .i64 0).same (SV.si .i64 0)∧True)∧(SObj.row z5 [] 40 false).same (SObj.row sF [] 40 false)∧True)∧((0:Int)≤(0:Int)∧(0:Int)≤z2)∧[]=intsF [])∧∀(x:Int×List Fra),let z6:=nthD l x.fst.toNat (0:Int);let z7:=x.snd.length+1;let z8:=x.fst+(1:Int);let z9:=frE (IntCast.intCast z6);let z10:=x.snd++[(z9.fst,z9.snd.fst,z9.snd.snd)];let z11:=SV.si .i64 z8;((0:Int)≤x.fst∧x.fst≤z2)∧x.snd=intsF (List.take x.fst.toNat l)→(decide (x.fst<z2)=true→(0:Int)≤x.fst∧x.fst<(↑l.length:Int)∧x.fst.toNat<l.length∧((-9223372036854775808:Int)≤z6∧z6≤(9223372036854775807:Int))∧x.snd.length=x.snd.length∧z7*56≤140737488355328∧z7≤1000000000000∧inR .i64 z8∧(((SV.ow 0 z10.length 3).same (SV.ow 0 z10.length 3)∧z1.same z1∧z3.same z3∧z11.same z11∧True)∧(SObj.row z5 z10 40 false).same (SObj.row sF z10 40 false)∧True)∧(((0:Int)≤z8∧z8≤z2)∧z10=intsF (List.take z8.toNat l))∧(z2 - z8).toNat<(z2 - x.fst).toNat)∧(decide (x.fst<z2)=false→x.snd.length=x.snd.length∧(SV.row sF x.snd).same (SV.row sF (intsF l)))) (by kernel_rfl) ?_
 simp only[vcs]
 have hl:l.length≤1000:=hl
 have hn:∀n∈l, -9223372036854775808≤n∧n≤9223372036854775807:=hn
 refine⟨⟨⟨by omega,by omega⟩,rfl⟩,?_⟩
 rintro⟨i,out⟩ ⟨⟨i0,i1⟩,ho⟩
 simp only at i0 i1 ho ⊢
 subst ho
 have hol:(intsF (l.take i.toNat)).length≤1000:=by unfold intsF;rw[List.length_map,List.length_take];omega
 refine⟨fun hi=>?_,fun hi=>?_⟩
 ·have hx:=hn _ (nthD_mem (d:=0) (show i.toNat<l.length by omega))
  have hs:intsF (l.take (i+1).toNat)=intsF (l.take i.toNat)++[frE ((nthD l i.toNat 0:Int):Rat)]:=by
   rw[show(i+1).toNat=i.toNat+1 by omega,take_snoc (show i.toNat<l.length by omega)]
   unfold intsF
   rw[List.map_append]
   rfl
  rw[hs]
  repeat' refine And.intro ?_ ?_
  all_goals first|omega|rfl
 ·rw[show i.toNat=l.length by omega,List.take_length]
  repeat' refine And.intro ?_ ?_
  all_goals first|omega|rfl
def p3:Prob:=⟨⟨1,1,0,0,0,0⟩,⟨1,1,0,0,0,0⟩,⟨0,0,0,0,0,0⟩,[0,0,0],[⟨0,⟨1,1,0,0,0,0⟩,10⟩,⟨1,⟨1,0,0,0,0,0⟩,6⟩,⟨2,⟨0,1,0,0,0,0⟩,6⟩]⟩
def r86:SCtr:=⟨12,Unit,.nil,fun _=>True,fun _=> .tup [codP.put p3,codA.put ⟨[1,2],12⟩]⟩
theorem h86:Holds Tryz.prog r86:=by
 refine con (L:=[]) r86 F86 (fun _ _=> .look) (OwnOK.none _) (by simp) (by kernel_rfl) (by kernel_rfl) (fun _=>rfl) ?_
 rintro _ -
 refine vcOf (let z0:=SV.il .i64 1;let z1:=SV.il .i64 0;let z2:=SId.i .i64;let z3:=SV.row z2 [(1:Int),(2:Int)];(SV.tup [SV.agg [z0,z0,z1,z1,z1,z1,z0,z0,z1,z1,z1,z1,z1,z1,z1,z1,z1,z1,SV.row z2 [(0:Int),(0:Int),(0:Int)],SV.row SId.off [Off.mk (0:Int) (Bun.mk (1:Int) (1:Int) (0:Int) (0:Int) (0:Int) (0:Int)) (10:Int),Off.mk (1:Int) (Bun.mk (1:Int) (0:Int) (0:Int) (0:Int) (0:Int) (0:Int)) (6:Int),Off.mk (2:Int) (Bun.mk (0:Int) (1:Int) (0:Int) (0:Int) (0:Int) (0:Int)) (6:Int)]],SV.agg [z3,SV.il .i64 12]]).same (SV.tup [SV.agg [SV.si .i64 p3.supply.a0,SV.si .i64 p3.supply.a1,SV.si .i64 p3.supply.a2,SV.si .i64 p3.supply.a3,SV.si .i64 p3.supply.a4,SV.si .i64 p3.supply.a5,SV.si .i64 p3.opn.a0,SV.si .i64 p3.opn.a1,SV.si .i64 p3.opn.a2,SV.si .i64 p3.opn.a3,SV.si .i64 p3.opn.a4,SV.si .i64 p3.opn.a5,SV.si .i64 p3.cls.a0,SV.si .i64 p3.cls.a1,SV.si .i64 p3.cls.a2,SV.si .i64 p3.cls.a3,SV.si .i64 p3.cls.a4,SV.si .i64 p3.cls.a5,SV.row z2 p3.classes,SV.row SId.off p3.offers],SV.agg [z3,SV.si .i64 12]])) (by kernel_rfl) ?_
 conv=>zeta
 rfl
def Λ46 (a:Fra×Fra):Nat→LoopAnn
 |4=> .inv Int (fun x=>⟨[(2,.ptr 0 0 3),(3,.ptr 1 0 3),(5,.si .i64 x)],[fCells a.1,fCells a.2]⟩) (fun s=>iS s 5) (fun x=>(0≤x∧x≤a.1.2.1.length)∧∀j:Nat,(j:Int)<x→nthD a.1.2.1 j 0=nthD a.2.2.1 j 0) (fun x=>(a.1.2.1.length - x).toNat) fun _ _=> .look
 |9=> .inv Int (fun x=>⟨[(2,.ptr 0 0 3),(3,.ptr 1 0 3),(6,.si .i64 x)],[fCells a.1,fCells a.2]⟩) (fun s=>iS s 6) (fun x=>((0≤x∧x≤a.1.2.2.length)∧a.1.2.1=a.2.2.1)∧∀j:Nat,(j:Int)<x→nthD a.1.2.2 j 0=nthD a.2.2.2 j 0) (fun x=>(a.1.2.2.length - x).toNat) fun _ _=> .look
 |_=> .look
def r46:SCtr:=⟨17,Fra×Fra,.cons (codE sF) (.one (codE sF)),fun a=>(a.1.2.1.length≤1000000000∧a.1.2.2.length≤1000000000)∧a.2.2.1.length≤1000000000∧a.2.2.2.length≤1000000000,fun a=> .sb (decide (a.1=a.2))⟩
theorem h46:Holds Tryz.prog r46:=by
 refine con (L:=[]) r46 F46 Λ46 (OwnOK.none _) (by simp) (by kernel_rfl) (by kernel_rfl) (fun _=>rfl) ?_
 rintro⟨⟨s,n,d⟩,⟨s',n',d'⟩⟩ ⟨⟨hn,hd⟩,hn',hd'⟩
 refine vcOf (let z0:=SV.sb (decide ((s,n,d)=(s',n',d')));let z1:=(↑n.length:Int);let z2:=decide (z1≠(↑n'.length:Int));let z3:=(↑d.length:Int);let z4:=decide (z3≠(↑d'.length:Int));let z5:=SV.ptr 0 0 3;let z6:=SV.ptr 1 0 3;let z7:=SId.i .u32;let z8:=SObj.cells [SV.sb s,SV.row z7 n,SV.row z7 d] 40 3 false;let z9:=SObj.cells [SV.sb s',SV.row z7 n',SV.row z7 d'] 40 3 false;let z10:=(↑n.length:Int);let z11:=(↑d.length:Int);((!s==s')=true→(SV.bl false).same z0)∧((!s==s')=false→(z2=true→(SV.bl false).same z0)∧(z2=false→(z4=true→(SV.bl false).same z0)∧(z4=false→(((z5.same z5∧z6.same z6∧(SV.il .i64 0).same (SV.si .i64 0)∧True)∧z8.same z8∧z9.same z9∧True)∧((0:Int)≤(0:Int)∧(0:Int)≤z10)∧∀(j:Nat),(↑j:Int)<(0:Int)→nthD n j (0:Int)=nthD n' j (0:Int))∧∀(x:Int),let z12:=decide (nthD n x.toNat (0:Int)≠nthD n' x.toNat (0:Int));let z13:=x+(1:Int);let z14:=SV.si .i64 z13;(((0:Int)≤x∧x≤z10)∧∀(j:Nat),(↑j:Int)<x→nthD n j (0:Int)=nthD n' j (0:Int))→(decide (x<z1)=true→(0:Int)≤x∧x<z1∧x.toNat<n.length∧(0:Int)≤x∧x<(↑n'.length:Int)∧x.toNat<n'.length∧(z12=true→(SV.bl false).same z0)∧(z12=false→inR .i64 z13∧((z5.same z5∧z6.same z6∧z14.same z14∧True)∧z8.same z8∧z9.same z9∧True)∧(((0:Int)≤z13∧z13≤z10)∧∀(j:Nat),(↑j:Int)<z13→nthD n j (0:Int)=nthD n' j (0:Int))∧(z10 - z13).toNat<(z10 - x).toNat))∧(decide (x<z1)=false→(((z5.same z5∧z6.same z6∧(SV.il .i64 0).same (SV.si .i64 0)∧True)∧z8.same z8∧z9.same z9∧True)∧(((0:Int)≤(0:Int)∧(0:Int)≤z11)∧n=n')∧∀(j:Nat),(↑j:Int)<(0:Int)→nthD d j (0:Int)=nthD d' j (0:Int))∧∀(x:Int),let z15:=decide (nthD d x.toNat (0:Int)≠nthD d' x.toNat (0:Int));let z16:=x+(1:Int);let z17:=SV.si .i64 z16;((((0:Int)≤x∧x≤z11)∧n=n')∧∀(j:Nat),(↑j:Int)<x→nthD d j (0:Int)=nthD d' j (0:Int))→(decide (x<z3)=true→(0:Int)≤x∧x<z3∧x.toNat<d.length∧(0:Int)≤x∧x<(↑d'.length:Int)∧x.toNat<d'.length∧(z15=true→(SV.bl false).same z0)∧(z15=false→inR .i64 z16∧((z5.same z5∧z6.same z6∧z17.same z17∧True)∧z8.same z8∧z9.same z9∧True)∧((((0:Int)≤z16∧z16≤z11)∧n=n')∧∀(j:Nat),(↑j:Int)<z16→nthD d j (0:Int)=nthD d' j (0:Int))∧(z11 - z16).toNat<(z11 - x).toNat))∧(decide (x<z3)=false→(SV.bl true).same z0)))))) (by kernel_rfl) ?_
 simp only[vcs]
 have hn:n.length≤1000000000:=hn
 have hd:d.length≤1000000000:=hd
 have hn':n'.length≤1000000000:=hn'
 have hd':d'.length≤1000000000:=hd'
 have ext:∀{a b:List Int},a.length=b.length→(∀j:Nat,(j:Int)<a.length→nthD a j 0=nthD b j 0)→a=b:=fun hl hj=>
  List.ext_getElem hl fun j h1 h2=>by
   have:=hj j (by omega)
   simpa[nthD,h1,h2] using this
 have nope:∀{b:Bool},¬((s,n,d)=(s',n',d'))→b=false→b=decide ((s,n,d)=(s',n',d')):=fun h hb=>by
  rw[hb,decide_eq_false h]
 refine⟨fun h1=>nope (fun h=>?_) rfl,fun h1=>⟨fun h2=>nope (fun h=>?_) rfl,fun h2=>⟨fun h3=>nope (fun h=>?_) rfl,fun h3=>⟨⟨⟨by omega,by omega⟩,fun j hj=>by omega⟩,?_⟩⟩⟩⟩
 ·injection h with h4 h5
  subst h4
  simp at h1
 ·injection h with h4 h5
  injection h5 with h5 h6
  subst h5
  omega
 ·injection h with h4 h5
  injection h5 with h5 h6
  subst h6
  omega
 rintro x ⟨⟨x0,x1⟩,hx⟩
 refine⟨fun hi=>⟨by omega,by omega,by omega,by omega,by omega,by omega,fun hne=>nope (fun h=>?_) rfl,fun he=>⟨by omega,⟨⟨by omega,by omega⟩,fun j hj=>?_⟩,by omega⟩⟩,fun hi=>?_⟩
 ·injection h with h4 h5
  injection h5 with h5 h6
  subst h5
  exact hne rfl
 ·by_cases hji:(j:Int)<x
  ·exact hx j hji
  ·have:j=x.toNat:=by omega
   subst this
   simpa using he
 ·have hnn:n=n':=ext (by omega) fun j hj=>hx j (by omega)
  refine⟨⟨⟨⟨by omega,by omega⟩,hnn⟩,fun j hj=>by omega⟩,?_⟩
  rintro y ⟨⟨⟨y0,y1⟩,_⟩,hy⟩
  refine⟨fun hi2=>⟨by omega,by omega,by omega,by omega,by omega,by omega,fun hne=>nope (fun h=>?_) rfl,fun he=>⟨by omega,⟨⟨⟨by omega,by omega⟩,hnn⟩,fun j hj=>?_⟩,by omega⟩⟩,fun hi2=>?_⟩
  ·injection h with h4 h5
   injection h5 with h5 h6
   subst h6
   exact hne rfl
  ·by_cases hji:(j:Int)<y
   ·exact hy j hji
   ·have:j=y.toNat:=by omega
    subst this
    simpa using he
  ·have hdd:d=d':=ext (by omega) fun j hj=>hy j (by omega)
   have hs:s=s':=by simpa using h1
   rw[hs,hnn,hdd]
   simp
def r38:SCtr:=⟨4,Prob,.one codP,fun _=>True,fun p=> .sb (decide (p.offers.length≤12)&&decide (p.classes.length≤6))⟩
theorem h38:Holds Tryz.prog r38:=by
 refine con (L:=[]) r38 F38 (fun _ _=> .look) (OwnOK.none _) (by simp) (by kernel_rfl) (by kernel_rfl) (fun _=>rfl) ?_
 rintro(p:Prob) -
 refine vcOf (let z0:=decide ((↑p.offers.length:Int)≤(12:Int));let z1:=SV.sb (decide (p.offers.length≤12)&&decide (p.classes.length≤6));(z0=true→(SV.sb (decide ((↑p.classes.length:Int)≤(6:Int)))).same z1)∧(z0=false→(SV.bl false).same z1)) (by kernel_rfl) ?_
 simp only[vcs]
 refine⟨fun h=>?_,fun h=>?_⟩
 ·have:decide (p.offers.length≤12)=true:=by simp;omega
  rw[this]
  simp
  omega
 ·have:decide (p.offers.length≤12)=false:=by simp;omega
  rw[this]
  rfl
def Λ42 (a:List Need×List Need):Nat→LoopAnn
 |4=> .inv Int (fun x=>⟨[(0,.row .need a.1),(1,.row .need a.2),(12,.si .i64 a.1.length),(13,.si .i64 x)],[]⟩) (fun s=>iS s 13) (fun x=>(0≤x∧x≤a.1.length)∧∀j:Nat,(j:Int)<x→nthD a.1 j SId.need.dflt=nthD a.2 j SId.need.dflt) (fun x=>(a.1.length - x).toNat) fun _ _=> .look
 |_=> .look
def r42:SCtr:=⟨16,List Need×List Need,.cons (codR .need) (.one (codR .need)),fun a=>a.1.length≤1000000000∧a.2.length≤1000000000,fun a=> .sb (decide (a.1=a.2))⟩
theorem h42:Holds Tryz.prog r42:=by
 refine con (L:=[]) r42 F42 Λ42 (OwnOK.none _) (by simp) (by kernel_rfl) (by kernel_rfl) (fun _=>rfl) ?_
 rintro⟨a,b⟩ ⟨ha,hb⟩
 refine vcOf (let z0:=(↑a.length:Int);let z1:=decide (z0≠(↑b.length:Int));let z2:=SV.sb (decide (a=b));let z3:=(↑a.length:Int);let z4:=SV.si .i64 z3;let z5:=SId.need.dflt;(z1=true→(SV.bl false).same z2)∧(z1=false→((((SV.row SId.need a).same (SV.row SId.need a)∧(SV.row SId.need b).same (SV.row SId.need b)∧(SV.si .i64 z0).same z4∧(SV.il .i64 0).same (SV.si .i64 0)∧True)∧True)∧((0:Int)≤(0:Int)∧(0:Int)≤z3)∧∀(j:Nat),(↑j:Int)<(0:Int)→nthD a j z5=nthD b j z5)∧∀(x:Int),let z6:=!(decide ((nthD a x.toNat z5).payers=(nthD b x.toNat z5).payers)&&(decide ((nthD a x.toNat z5).least=(nthD b x.toNat z5).least)&&true));let z7:=x+(1:Int);let z8:=SV.si .i64 z7;(((0:Int)≤x∧x≤z3)∧∀(j:Nat),(↑j:Int)<x→nthD a j z5=nthD b j z5)→(decide (x<z3)=true→(0:Int)≤x∧x<z0∧x.toNat<a.length∧(0:Int)≤x∧x<(↑b.length:Int)∧x.toNat<b.length∧(z6=true→(SV.bl false).same z2)∧(z6=false→inR .i64 z7∧(((SV.row SId.need a).same (SV.row SId.need a)∧(SV.row SId.need b).same (SV.row SId.need b)∧z4.same z4∧z8.same z8∧True)∧True)∧(((0:Int)≤z7∧z7≤z3)∧∀(j:Nat),(↑j:Int)<z7→nthD a j z5=nthD b j z5)∧(z3 - z7).toNat<(z3 - x).toNat))∧(decide (x<z3)=false→(SV.bl true).same z2))) (by kernel_rfl) ?_
 simp only[vcs]
 have ha:a.length≤1000000000:=ha
 have hb:b.length≤1000000000:=hb
 refine⟨fun hne=>?_,fun hl=>?_⟩
 ·have:¬a=b:=fun h=>by subst h;omega
  simp[this]
 refine⟨⟨⟨by omega,by omega⟩,fun j hj=>by omega⟩,?_⟩
 rintro x ⟨⟨x0,x1⟩,hx⟩
 refine⟨fun hi=>⟨by omega,by omega,by omega,by omega,by omega,by omega,fun hd=>?_,fun hd=>?_⟩,fun hi=>?_⟩
 ·have:¬a=b:=fun h=>by subst h;simp at hd
  simp[this]
 ·have he:nthD a x.toNat SId.need.dflt=nthD b x.toNat SId.need.dflt:=by
   generalize nthD a x.toNat SId.need.dflt=u at*
   generalize nthD b x.toNat SId.need.dflt=w at*
   obtain⟨u1,u2⟩:=u
   obtain⟨w1,w2⟩:=w
   simp only at hd
   rw[hd.1,hd.2]
  refine⟨by omega,⟨⟨by omega,by omega⟩,fun j hj=>?_⟩,by omega⟩
  by_cases hjx:(j:Int)<x
  ·exact hx j hjx
  ·have:j=x.toNat:=by omega
   subst this
   exact he
 ·have:a=b:=List.ext_getElem (by omega) fun j h1 h2=>by
   have:=hx j (by omega)
   simpa[nthD,h1,h2] using this
  simp[this]
theorem pay_ints {l:List Int} (h:l.length≤10) (hn:∀n∈l, -9223372036854775808≤n∧n≤9223372036854775807):payOk (intsF l):=by
 refine⟨by unfold intsF;rw[List.length_map];exact h,fun x hx=>?_⟩
 unfold intsF at hx
 obtain⟨n,hm,rfl⟩:=List.mem_map.1 hx
 exact⟨_,rfl,(szI (hn n hm).1 (hn n hm).2).mono (by omega)⟩
def r39:SCtr:=⟨6,Unit,.nil,fun _=>True,fun _=> .sb true⟩
theorem h39:Holds Tryz.prog r39:=by
 refine con (L:=[r86,r40,r56,r44,r42,r46,r51,r47,r49]) r39 F39 (fun _ _=> .look) (OwnOK.none _) (by simpa using⟨h86,h40,h56,h44,h42,h46,h51,h47,h49⟩) (by kernel_rfl) (by kernel_rfl) (fun _=>rfl) ?_
 rintro _ -
 refine vcOf (let z0:=[(0:Int),(4:Int),(4:Int)];let z1:=[(1:Int),(2:Int)];let z2:=(frE (blkS p3 z1 (intsF z0)).g).snd;let z3:=(frE (IntCast.intCast (2:Int))).snd;let z4:=[(5:Int),(5:Int)];let z5:=[(0:Int),(7:Int),(5:Int)];let z6:=[(0:Int),(6:Int),(0:Int)];let z7:=ratB p3 z1 (intsF z6);let z8:=intsF ((1:Int)::z4);True∧2≤9223372036854775807∧(3≤1000∧∀(n:Int),n∈z0→(-9223372036854775808:Int)≤n∧n≤(9223372036854775807:Int))∧(2≤9223372036854775807∧payOk (intsF z0))∧(true=true→((needS p3 z1).length≤1000000000∧3≤1000000000)∧(true=true→(true=true→(true=true→((-9223372036854775808:Int)≤(2:Int)∧(2:Int)≤(9223372036854775807:Int))∧((List.length z2.fst≤1000000000∧List.length z2.snd≤1000000000)∧List.length z3.fst≤1000000000∧List.length z3.snd≤1000000000)∧(true=true→(3≤1000∧∀(n:Int),n∈(0:Int)::z4→(-9223372036854775808:Int)≤n∧n≤(9223372036854775807:Int))∧(2≤9223372036854775807∧payOk (intsF ((0:Int)::z4)))∧(true=true→(3≤1000∧∀(n:Int),n∈z0→(-9223372036854775808:Int)≤n∧n≤(9223372036854775807:Int))∧(2≤9223372036854775807∧payOk (intsF z0))∧(true=true→(3≤1000∧∀(n:Int),n∈z5→(-9223372036854775808:Int)≤n∧n≤(9223372036854775807:Int))∧(2≤9223372036854775807∧payOk (intsF z5))∧(true=true→(3≤1000∧∀(n:Int),n∈z6→(-9223372036854775808:Int)≤n∧n≤(9223372036854775807:Int))∧(2≤9223372036854775807∧payOk (intsF z6))∧(z7=true→(3≤1000∧∀(n:Int),n∈(1:Int)::z4→(-9223372036854775808:Int)≤n∧n≤(9223372036854775807:Int))∧(2≤9223372036854775807∧payOk z8)∧(SV.sb !ratB p3 z1 z8).same (SV.sb true))∧(z7=false→(SV.bl false).same (SV.sb true)))∧(true=false→(SV.bl false).same (SV.sb true)))∧(true=false→(SV.bl false).same (SV.sb true)))∧(true=false→(SV.bl false).same (SV.sb true)))∧(true=false→(SV.bl false).same (SV.sb true)))∧(true=false→(SV.bl false).same (SV.sb true)))∧(true=false→(SV.bl false).same (SV.sb true)))∧(true=false→(SV.bl false).same (SV.sb true)))∧(true=false→(SV.bl false).same (SV.sb true))) (by kernel_rfl) ?_
 conv=>zeta
 have k1:(needS p3 [1,2]).length=3:=by kernel_rfl
 have i1:∀n∈[(0:Int),4,4], -9223372036854775808≤n∧n≤9223372036854775807:=by decide
 have i2:∀n∈[(0:Int),5,5], -9223372036854775808≤n∧n≤9223372036854775807:=by decide
 have i3:∀n∈[(0:Int),7,5], -9223372036854775808≤n∧n≤9223372036854775807:=by decide
 have i4:∀n∈[(0:Int),6,0], -9223372036854775808≤n∧n≤9223372036854775807:=by decide
 have i5:∀n∈[(1:Int),5,5], -9223372036854775808≤n∧n≤9223372036854775807:=by decide
 have k2:blkE p3 [1,2] (intsF [0,4,4])=0:=by kernel_rfl
 have k3:ratB p3 [1,2] (intsF [0,6,0])=true:=by kernel_rfl
 have k4:ratB p3 [1,2] (intsF [1,5,5])=false:=by kernel_rfl
 have s1:=frE_len (blkS_sz k2 (pay_ints (by decide) i1))
 have s2:=frE_len (szI (W:=2) (by omega) (by omega))
 have ab:∀{X:Prop},true=false→X:=fun h=>absurd h (by decide)
 rw[k1,k3,k4]
 simp only[forall_const,reduceCtorEq,false_implies,true_implies,and_true,true_and]
 repeat' refine And.intro ?_ ?_
 all_goals first|omega|exact i1|exact i2|exact i3|exact i4|exact i5|exact(pay_ints (by decide) i1).1|exact(pay_ints (by decide) i1).2|exact(pay_ints (by decide) i2).1|exact(pay_ints (by decide) i2).2|exact(pay_ints (by decide) i3).1|exact(pay_ints (by decide) i3).2|exact(pay_ints (by decide) i4).1|exact(pay_ints (by decide) i4).2|exact(pay_ints (by decide) i5).1|exact(pay_ints (by decide) i5).2|exact Nat.le_trans s2.1 (by omega)|exact Nat.le_trans s2.2 (by omega)|rfl
end Go.Vi
