/-
  Plain law: what the reference's search finds.
  Conditions: none.
-/
import Derived.Test.YtgejbpobaicgfaaGreatRK06
import Derived.KernelRfl
set_option maxRecDepth 100000
set_option maxHeartbeats 4000000
set_option linter.all false
namespace Go.Vi
open Go.Proofs
theorem aeU {p:cn} {l m:List Int}:jA p (l++m)=jA p l++jA p m:=by simp[jA]
theorem aed {p:cn} {i:Int} {l:List Int}:jA p (i::l)=bo p.offers i.toNat bD.off.dflt::jA p l:=rfl
def alu (p:cn) (l:List Int):Prop:=∀i∈l,0<=i/\i<p.offers.length
theorem aoQ {p:cn} (f:Good p) {L M:List Off} (c:∀x∈M,x∈p.offers) (h:Da p (L++M)):Da p L:=by
 obtain⟨e,d⟩:=auJ f c
 obtain⟨g,a,b⟩:=h
 rw[List.map_append,afS,dp.le_iff] at a b;simp only[dp.add,dp.bd] at a b e d
 refine⟨?_,?_,?_⟩<;>grind[dp.le_iff]
theorem auK {p:cn} (a:Good p) {l m:List Int} (b:alu p m) (h:SG p (l++m)=true):SG p l=true:=by
 unfold SG at h ⊢
 have h:=of_decide_eq_true h
 rw[aeU] at h
 exact decide_eq_true (aoQ a (aoL a b) h)
def aaP (i:Int) (k:Nat) (t:List Int):Prop:=t.Pairwise (·<·)/\∀j∈t,i<=j/\j<i+k
theorem auL {a b:Alloc}:a.value<=(better a b).value/\b.value<=(better a b).value:=by
 grind[better]
theorem auM {a b:Alloc}:better a b=a\/better a b=b:=by
 grind[better]
theorem aiY {p:cn}:∀{k:Nat} {i:Int} {a b:Alloc},b.value<=(QY p k i a b).value
 |0,_,_,b=>by simp[QY]
 |k+1,i,a,b=>by
  simp only[QY]
  refine Int.le_trans ?_ aiY
  split
  ·exact Int.le_trans auL.2 aiY
  ·omega
theorem aoR {p:cn} (h:Good p):∀{k:Nat} {i:Int} {a b:Alloc} {t:List Int},0<=i->i+k<=p.offers.length->t≠[]->aaP i k t->SG p (a.chosen++t)=true->a.value+jd (jA p t)<=(QY p k i a b).value
 |0,i,a,b,t,_,_,u,c,_=>by
  cases t with
  |nil=>simp_all
  |cons j t=>
   have:=c.2 j (by simp)
   omega
 |k+1,i,a,b,t,w,x,u,c,s=>by
  cases t with
  |nil=>simp_all
  |cons j t=>
   have v:=c.2 j (by simp)
   have q:=List.pairwise_cons.1 c.1
   simp only[QY]
   by_cases l:j=i
   ·subst l
    have d:alu p t:=fun m e=>by
     have:=c.2 m (by simp[e])
     omega
    have f:SG p (a.chosen++[j]++t)=true:=by simp_all
    have g:SG p (a.chosen++[j])=true:=auK h d f
    rw[if_pos g]
    refine Int.le_trans ?_ aiY
    rw[aed];simp only[jd]
    cases t with
    |nil=>
     refine Int.le_trans ?_ aiY
     refine Int.le_trans ?_ auL.1
     simp[jd,jA,KA]
    |cons o n=>
     have:=aoR h (k:=k) (i:=j+1) (a:=⟨a.chosen++[j],a.value+KA p j⟩) (b:=better ⟨a.chosen++[j],a.value+KA p j⟩ b) (t:=o::n) (by omega) (by omega) (by simp) ⟨q.2,fun m e=>by
      have r:=c.2 m (List.mem_cons_of_mem _ e)
      grind⟩ f
     grind[KA]
   ·exact aoR h (by omega) (by omega) (by simp) ⟨c.1,fun m e=>by
     have r:=c.2 m e
     grind⟩ s
theorem aoS {p:cn} (g:Good p):∀{k:Nat} {i:Int} {a b:Alloc},QY p k i a b=b\/∃t,t≠[]/\aaP i k t/\SG p (a.chosen++t)=true/\QY p k i a b=⟨a.chosen++t,a.value+jd (jA p t)⟩
 |0,i,a,b=> .inl rfl
 |k+1,i,a,b=>by
  have l:∀{t:List Int},aaP (i+1) k t->aaP i (k+1) t:=fun h=>⟨h.1,fun j c=>by have:=h.2 j c;omega⟩
  simp only[QY]
  rcases @aoS p g k (i+1) a (if SG p (a.chosen++[i]) then QY p k (i+1) ⟨a.chosen++[i],a.value+KA p i⟩ (better ⟨a.chosen++[i],a.value+KA p i⟩ b) else b) with h|⟨t,m,d,n,o⟩
  ·rw[h]
   split
   ·rename_i q
    have e:(⟨a.chosen++[i],a.value+KA p i⟩:Alloc)=⟨a.chosen++[i],a.value+jd (jA p [i])⟩:=by simp[jd,jA,KA]
    have f:aaP i (k+1) [i]:=⟨by simp,fun j c=>by grind⟩
    rcases @aoS p g k (i+1) ⟨a.chosen++[i],a.value+KA p i⟩ (better ⟨a.chosen++[i],a.value+KA p i⟩ b) with h|⟨t,m,d,n,o⟩
    ·grind[auM]
    ·refine .inr ⟨i::t,by simp,⟨List.pairwise_cons.2 ⟨fun j c=>by have:=d.2 j c;omega,d.1⟩,fun j c=>?_⟩,by simp_all,?_⟩
     ·rcases List.mem_cons.1 c with rfl|c
      ·omega
      ·have:=d.2 j c;omega
     grind[aed,jd,KA]
   simp_all
  grind
theorem aoT {p:cn}:jD p=QY p p.offers.length 0 ⟨[],0⟩ ⟨[],0⟩:=by
 grind[om,jD,aoM,auM]
theorem aoU {p:cn} (f:Good p) {t:List Int} (e:aaP 0 p.offers.length t) (d:SG p t=true):jd (jA p t)<=(jD p).value:=by
 rw[aoT]
 by_cases c:t=[]
 ·subst c
  exact aiY
 ·have:=aoR f (k:=p.offers.length) (i:=0) (a:=⟨[],0⟩) (b:=⟨[],0⟩) (t:=t) (by omega) (by omega) c e d
  simp_all
theorem auN {p:cn} (a:Good p):SG p []=true:=by
 have b:=dp.Kz.1 a.2.2.1
 have c:=dp.Kz.1 a.2.2.2.1
 unfold SG
 refine decide_eq_true ⟨by simp[jA],?_,?_⟩
 all_goals simp_all[dp.le_iff,jA,qM]
theorem aoV {p:cn} (a:Good p):∃t,aaP 0 p.offers.length t/\SG p t=true/\jD p=⟨t,jd (jA p t)⟩:=by
 rw[aoT]
 rcases @aoS p a p.offers.length 0 ⟨[],0⟩ ⟨[],0⟩ with h|⟨t,b,e,c,d⟩
 ·exact⟨[],⟨by simp,by simp⟩,auN a,by rw[h];rfl⟩
 grind
def auO:Bool:=(List.range 256).all fun m=>[0,1,2,3,4,5,6,7].all fun b:Int=>hasB m b==decide (b∈adu m)
theorem aCM:auO=true:=by kernel_rfl
theorem aoW {m b:Int} (h0:0<=m) (h1:m<256) (h2:0<=b) (h3:b<8):hasB m b=decide (b∈adu m):=by
 have h:=aCM
 simp only[auO,List.all_eq_true,List.mem_range] at h
 have h:=h m.toNat (by omega) b (by
  have:b=0\/b=1\/b=2\/b=3\/b=4\/b=5\/b=6\/b=7:=by omega
  rcases this with rfl|rfl|rfl|rfl|rfl|rfl|rfl|rfl<;>simp)
 rw[show((m.toNat:Nat):Int)=m by omega] at h
 simpa using h
theorem aCN {p:cn} {t:List Int} (h:aaP 0 p.offers.length t):alu p t:=fun j hj=>by
 have:=h.2 j hj
 omega
theorem aCO {p:cn} (hg:Good p) {m:Int} (h0:0<=m) (h1:m<256):afU p m<=N1 p (adu m) p.supply p.opn:=by
 obtain⟨t,ht,hr,he⟩:=aoV (aoN hg m)
 unfold afU;rw[he]
 have hF:=of_decide_eq_true hr
 refine alr hg ⟨hF.1,fun x hx=>?_,hF.2.1,hF.2.2⟩
 have hxm:=aoL (aoN hg m) (aCN ht) x hx
 have hxf:=List.mem_filter.1 hxm
 have hb:=hg.2.2.2.2 x hxf.1
 have h8:=hg.1
 refine⟨hxf.1,?_⟩
 have:=aoW h0 h1 hb.1 (by omega)
 rw[hxf.2] at this
 exact of_decide_eq_true this.symm
theorem alv {L M:List Off} (h:L.Perm M):jd L=jd M:=by
 induction h with
 |nil=>rfl
 |cons x _ ih=>simp only[jd];omega
 |swap x y l=>simp only[jd];omega
 |trans _ _ a b=>omega
theorem auP {L M:List dp} (h:L.Perm M):qM L=qM M:=by
 induction h with
 |nil=>rfl
 |cons x _ ih=>rw[afT,afT,ih]
 |swap x y l=>
  simp only[afT,dp.add,dp.mk.injEq];omega
 |trans _ _ a b=>rw[a,b]
theorem aiZ {p:cn} {L M:List Off} (h:L.Perm M) (hF:Da p L):Da p M:=by
 obtain⟨h1,h2,h3⟩:=hF
 refine⟨((h.map _).nodup_iff).1 h1,?_,?_⟩
 ·rw[<-auP (h.map _)];exact h2
 ·rw[<-auP (h.map _)];exact h3
theorem alx (q:Off->Bool):∀(O pre:List Off),∃t:List Int,t.Pairwise (·<·)/\(∀j∈t,(pre.length:Int)<=j/\j<pre.length+O.length)/\(t.map fun j=>bo (pre++O) j.toNat bD.off.dflt)=O.filter q
 |[],pre=>⟨[],by simp,by simp,by simp⟩
 |x::O,pre=>by
  obtain⟨t,h1,h2,h3⟩:=alx q O (pre++[x])
  have e:pre++[x]++O=pre++x::O:=by simp
  rw[e] at h3
  have hl:((pre++[x]).length:Int)=pre.length+1:=by simp
  have hr:∀j∈t,(pre.length:Int)+1<=j/\j<pre.length+1+O.length:=fun j hj=>by
   have:=h2 j hj
   omega
  by_cases hq:q x=true
  ·refine⟨(pre.length:Int)::t,List.pairwise_cons.2 ⟨fun j hj=>by have:=hr j hj;omega,h1⟩,fun j hj=>?_,?_⟩
   ·simp only[List.length_cons]
    rcases List.mem_cons.1 hj with rfl|hj
    ·omega
    ·have:=hr j hj;omega
   ·rw[List.map_cons,h3,List.filter_cons,if_pos hq]
    congr 1
    rw[jV (by simp)]
    simp
  ·refine⟨t,h1,fun j hj=>?_,?_⟩
   ·have:=hr j hj
    simp only[List.length_cons];omega
   ·rw[h3,List.filter_cons,if_neg hq]
theorem aly {p:cn}:∀{l:List Off} {seen:List aaH},CN p seen l=0->(l.map Off.key).Nodup/\∀x∈l,x.key∉seen
 |[],_,_=>by simp
 |o::r,seen,h=>by
  simp only[CN] at h;split at h
  ·rename_i h1;exact absurd h h1
  ·split at h
   ·cases h
   ·rename_i h1 h2
    obtain⟨k1,k2⟩:=aly h
    refine⟨?_,fun x hx=>?_⟩
    ·rw[List.map_cons,List.nodup_cons]
     refine⟨fun hm=>?_,k1⟩
     obtain⟨y,hy,he⟩:=List.mem_map.1 hm
     exact k2 y hy (by simp[he])
    ·rcases List.mem_cons.1 hx with rfl|hx
     ·exact h2
     ·exact fun hm=>k2 x hx (by simp[hm])
theorem ai0 {α β:Type} (f:α->β):∀{l:List α},(l.map f).Nodup->l.Nodup
 |[],_=>by simp
 |x::l,h=>by
  rw[List.map_cons,List.nodup_cons] at h
  exact List.nodup_cons.2 ⟨fun hm=>h.1 (List.mem_map_of_mem hm),ai0 f h.2⟩
theorem ahl {p:cn} (h:dV p=0):p.offers.Nodup:=by
 unfold dV at h;split at h
 ·rename_i h1;exact absurd h h1
 ·exact ai0 _ (aly h).1
theorem auQ (m:Int):(adu m).Nodup:=by
 unfold adu
 exact List.Nodup.sublist List.filter_sublist (by decide)
theorem aCP {p:cn} (hc:dV p=0) {m:Int} (h0:0<=m) (h1:m<256):N1 p (adu m) p.supply p.opn<=afU p m:=by
 have hg:=pz hc
 have q1:=dp.Kz.1 hg.2.2.1
 have q2:=dp.Kz.1 hg.2.2.2.1
 obtain⟨L,hL,hv⟩:=als hg (auQ m) (l:=p.supply) (o:=p.opn) (by rw[dp.le_iff];simp only[dp.zero];omega) (by rw[dp.le_iff];simp only[dp.zero];omega)
 obtain⟨t,t1,t2,t3⟩:=alx (fun x=>decide (x∈L)) (abL p m).offers []
 have t4:jA (abL p m) t=(abL p m).offers.filter fun x=>decide (x∈L):=t3
 have hLm:∀x∈L,x∈(abL p m).offers:=fun x hx=>by
  have hx1:=hL.mem x hx
  have hb:=hg.2.2.2.2 x hx1.1
  have h8:=hg.1
  refine List.mem_filter.2 ⟨hx1.1,?_⟩
  rw[aoW h0 h1 hb.1 (by omega)]
  exact decide_eq_true hx1.2
 have hnd:((abL p m).offers.filter fun x=>decide (x∈L)).Nodup:=List.Nodup.sublist (List.Sublist.trans List.filter_sublist List.filter_sublist) (ahl hc)
 have hperm:L.Perm (jA (abL p m) t):=by
  rw[t4]
  refine(List.perm_ext_iff_of_nodup (ai0 _ hL.nd) hnd).2 fun x=>?_
  rw[List.mem_filter,decide_eq_true_eq]
  exact⟨fun hx=>⟨hLm x hx,hx⟩,fun hx=>hx.2⟩
 have hF:Da (abL p m) L:=⟨hL.nd,hL.w,hL.o⟩
 have hr:SG (abL p m) t=true:=decide_eq_true (aiZ hperm hF)
 have:=aoU (aoN hg m) ⟨t1,fun j hj=>by have:=t2 j hj;simp only[List.length_nil] at this;omega⟩ hr
 rw[<-alv hperm,hv] at this;exact this
theorem aCR {p:cn} (hc:dV p=0) {m:Int} (h0:0<=m) (h1:m<256):afU p m=N1 p (adu m) p.supply p.opn:=by
 have a:=aCO (pz hc) h0 h1
 have b:=aCP hc h0 h1
 omega
theorem aCS {p:cn} (hc:dV p=0) {m:Int} (h0:0<=m) (h1:m<2^p.classes.length):adv p m=afU p m:=by
 have hf:aln p m=0:=by
  unfold aln
  rw[if_neg (by simp[hc]),if_neg (by omega)]
 have h2:=aiX (pz hc).1
 unfold adv
 rw[if_pos hf,aCR hc h0 (by omega)]
 rfl
def auR:Bool:=(List.range 9).all fun n=>decide (alq cn.zero (-1) n=2^n - 1)&&(List.range n).all fun b=>decide (alq cn.zero b n=aCy (2^n - 1) b)
theorem aCT:auR=true:=by kernel_rfl
theorem auS {p:cn} (h:p.classes.length<=8):alq p (-1) p.classes.length=allM p:=by
 have hk:=aCT
 simp only[auR,List.all_eq_true,List.mem_range,Bool.and_eq_true,decide_eq_true_eq] at hk
 exact(hk p.classes.length (by omega)).1
theorem aCU {p:cn} (hc:dV p=0):adv p (allM p)=afU p (aoP p):=by
 have hg:=pz hc
 have h2:=aiX hg.1
 unfold aoP;rw[auS hg.1]
 exact aCS hc (by unfold allM;omega) (by unfold allM;omega)
theorem alz {p:cn}:∀{c:List Int} {s:Int},c.foldl (aoE p) s=s+jd (jA p c)
 |[],s=>by simp[jA,jd]
 |i::c,s=>by
  rw[List.foldl_cons,alz,aed];simp only[jd,aoE];omega
theorem alA {p:cn}:∀{c:List Int} {a:Int} {r:List Off},rf p.offers a c=some r->r=jA p c
 |[],a,r,h=>by simp[rf] at h;subst h;rfl
 |i::c,a,r,h=>by
  simp only[rf] at h;split at h
  ·cases h
  ·obtain⟨d,b,rfl⟩:=Option.map_eq_some_iff.1 h
   rw[alA b,aed]
theorem aCV {p:cn} {c:List Int} (hz:lF p c=0):nD p c=afR p c:=by
 obtain⟨q1,q2,hg,q4,q5⟩:=aoO hz
 obtain⟨r,hr⟩:=Option.isSome_iff_exists.1 q2
 unfold nD afR;rw[if_pos q1,alz];simp only[nn,hr,Option.getD_some,alA hr];omega
theorem auT {p:cn} {x:Off} (b:0<=x.iy) (a:x.iy<p.classes.length):uu p x.iy x=1:=by
 unfold uu;omega
theorem sum_cons {p:cn} {x:Off} {L:List Off} {r:Int}:lT p (x::L) r=uu p r x+lT p L r:=by simp[lT]
theorem auU {p:cn} {r:Int}:∀{L:List Off},(∀x∈L,x.want.ok=true)->(∃x∈L,x.iy=r/\0<=r/\r<p.classes.length)->1<=lT p L r
 |[],_,h=>by simp_all
 |y::L,a,⟨x,c,e,f,d⟩=>by
  have g:=@adt p r y (a y (by simp))
  have i:=@aeS p r L fun z b=>a z (by simp[b])
  rw[sum_cons]
  rcases List.mem_cons.1 c with rfl|c
  ·grind[auT]
  ·have:=@auU p r L (fun z b=>a z (by simp[b])) ⟨x,c,e,f,d⟩
   omega
theorem auV {p:cn}:∀{L:List Off},(∀x∈L,x.want.ok=true/\0<=x.iy/\x.iy<p.classes.length)->(∀r:Int,0<=r->r<p.classes.length->lT p L r<=1)->(L.map Off.iy).Nodup
 |[],_,_=>by simp
 |x::L,e,f=>by
  have a:=e x (by simp)
  rw[List.map_cons,List.nodup_cons]
  have d:∀r:Int,0<=r->r<p.classes.length->lT p L r<=1:=fun r j b=>by
   have:=f r j b
   have:=@adt p r x a.1
   grind[sum_cons]
  refine⟨fun g=>?_,auV (fun y c=>e y (by simp[c])) d⟩
  obtain⟨y,c,h⟩:=List.mem_map.1 g
  have b:=f x.iy a.2.1 a.2.2
  have k:=@auU p x.iy L (fun z i=>(e z (by simp[i])).1) ⟨y,c,h,a.2.1,a.2.2⟩
  rw[sum_cons,auT a.2.1 a.2.2] at b;omega
theorem aCW {p:cn} {c:List Int} (e:lF p c=0):((jA p c).map Off.iy).Nodup:=by
 obtain⟨j,f,a,m,h⟩:=aoO e
 obtain⟨r,l⟩:=Option.isSome_iff_exists.1 f
 have n:nn p c=jA p c:=by grind[nn,alA]
 have d:yx p (jA p c)=true:=by
  simp_all[lF]
 refine auV (p:=p) (fun x g=>?_) fun r o i=>?_
 ·have:=a.2.2.2.2 x (aoL a h x g)
  simp_all
 ·have b:=abk.1 d r.toNat (by grind[nq])
  rw[show((r.toNat:Nat):Int)=r by omega] at b
  have k:pg p r=1:=by unfold pg;omega
  omega
def dp.at (b:dp) (k:Nat):Int:=bo [b.a0,b.a1,b.a2,b.a3,b.a4,b.a5] k 0
theorem aoX {a b:dp} (h:a.le b=true) (k:Nat):a.at k<=b.at k:=by
 grind[dp.le_iff,dp.at,bo]
theorem aaQ (k:Nat):∀(l:List dp),(qM l).at k=(l.map fun b=>b.at k).sum:=by
 intro l;unfold dp.at qM
 match k with
 |0|1|2|3|4|5=>simp only[bo,List.getElem?_cons_zero,List.getElem?_cons_succ,Option.getD_some]
 |k+6=>
  simp only[bo,List.getElem?_cons_succ,List.getElem?_nil,Option.getD_none]
  induction l<;>grind
theorem auW {p:cn} {x:Off} {k:Nat} (a:k<6):uu p (p.classes.length+k) x=x.want.at k:=by
 unfold uu
 rw[if_neg (by omega),if_pos (by omega),show((p.classes.length:Int)+k - p.classes.length).toNat=k by omega]
 rfl
theorem auX {p:cn} {x:Off} {k:Nat} (a:k<6):uu p (p.classes.length+6+k) x=(tf p x).at k:=by
 unfold uu
 rw[if_neg (by omega),if_neg (by omega),show((p.classes.length:Int)+6+k - p.classes.length - 6).toNat=k by omega]
 have:k=0\/k=1\/k=2\/k=3\/k=4\/k=5:=by omega
 rcases this with rfl|rfl|rfl|rfl|rfl|rfl<;>simp[tf,aoD,oc,MZ,dp.at,bo]
theorem auY {p:cn} {k:Nat} (a:k<6):pg p (p.classes.length+k)=p.supply.at k:=by
 unfold pg
 rw[if_neg (by omega),if_pos (by omega),show((p.classes.length:Int)+k - p.classes.length).toNat=k by omega]
 rfl
theorem auZ {p:cn} {k:Nat} (a:k<6):pg p (p.classes.length+6+k)=p.opn.at k:=by
 unfold pg
 rw[if_neg (by omega),if_neg (by omega),show((p.classes.length:Int)+6+k - p.classes.length - 6).toNat=k by omega]
 rfl
theorem au0 {p:cn} {r:Int} (a:0<=r) (b:r<p.classes.length):∀{L:List Off},(L.map Off.iy).Nodup->lT p L r<=1/\(r∉L.map Off.iy->lT p L r=0)
 |[],_=>by simp[lT]
 |x::L,h=>by
  rw[List.map_cons,List.nodup_cons] at h
  obtain⟨d,e⟩:=au0 a b h.2
  have c:uu p r x=if x.iy=r then 1 else 0:=by unfold uu;omega
  rw[sum_cons,c]
  grind
theorem au1 {p:cn} {L:List Off} (h:Da p L):yx p L=true:=by
 obtain⟨j,i,f⟩:=h
 refine abk.2 fun r g=>?_
 unfold nq at g
 by_cases l:r<p.classes.length
 ·have:=(au0 (p:=p) (r:=r) (by omega) (by omega) j).1
  have d:pg p r=1:=by unfold pg;omega
  omega
 by_cases d:r<p.classes.length+6
 ·obtain⟨k,rfl⟩:∃k:Nat,r=p.classes.length+k:=⟨r - p.classes.length,by omega⟩
  have c:k<6:=by omega
  have e:(((p.classes.length+k:Nat)):Int)=p.classes.length+k:=by omega
  rw[e,auY c]
  have a:=aoX i k
  rw[aaQ,List.map_map] at a
  have:lT p L (p.classes.length+k)=(L.map ((fun b=>dp.at b k)∘Off.want)).sum:=by
   unfold lT
   congr 1
   simp_all[auW]
  omega
 ·obtain⟨k,rfl⟩:∃k:Nat,r=p.classes.length+6+k:=⟨r - p.classes.length - 6,by omega⟩
  have c:k<6:=by omega
  have e:(((p.classes.length+6+k:Nat)):Int)=p.classes.length+6+k:=by omega
  rw[e,auZ c]
  have a:=aoX f k
  rw[aaQ,List.map_map] at a
  have:lT p L (p.classes.length+6+k)=(L.map ((fun b=>dp.at b k)∘tf p)).sum:=by
   unfold lT
   congr 1
   simp_all[auX]
  omega
theorem au2 {l:List Off}:∀{t:List Int} {a:Int},t.Pairwise (·<·)->(∀j∈t,a<j/\j<l.length)->rf l a t=some (t.map fun i=>bo l i.toNat bD.off.dflt)
 |[],_,_,_=>rfl
 |i::t,a,h,d=>by
  have e:=d i (by simp)
  have c:=List.pairwise_cons.1 h
  unfold rf
  rw[if_neg (by omega),au2 c.2 fun j b=>⟨c.1 j b,(d j (by simp[b])).2⟩]
  rfl
theorem au3 {p:cn} (e:dV p=0) {t:List Int} (a:aaP 0 p.offers.length t) (c:Da p (jA p t)):lF p t=0:=by
 have d:rf p.offers (-1) t=some (jA p t):=au2 a.1 fun j b=>by have:=a.2 j b;omega
 simp_all[lF,y5,nn,au1]
def au4:Bool:=(List.range 9).all fun n=>(List.range n).all fun b=>hasB (2^n - 1) b
theorem aCX:au4=true:=by kernel_rfl
theorem au5 {p:cn} (hg:Good p) {b:Int} (h0:0<=b) (h1:b<p.classes.length):hasB (allM p) b=true:=by
 have h:=aCX
 simp only[au4,List.all_eq_true,List.mem_range] at h
 have:=h p.classes.length (by have:=hg.1;omega) b.toNat (by omega)
 rwa [show((b.toNat:Nat):Int)=b by omega] at this
theorem aCY {p:cn} (hg:Good p):abL p (allM p)=p:=by
 unfold abL;rw[List.filter_eq_self.2 fun x hx=>au5 hg (hg.2.2.2.2 x hx).1 (hg.2.2.2.2 x hx).2.1]
theorem aeV {p:cn} (hc:dV p=0):adv p (allM p)=(jD p).value:=by
 have hg:=pz hc
 rw[aCU hc];unfold aoP afU;rw[auS hg.1,aCY hg]
theorem aCZ {p:cn} (hc:dV p=0):auB p (jD p).chosen=0/\Da p (jA p (jD p).chosen)/\aaP 0 p.offers.length (jD p).chosen/\(jD p).value=jd (jA p (jD p).chosen):=by
 have hg:=pz hc
 obtain⟨t,ht,hr,he⟩:=aoV hg
 have hF:Da p (jA p t):=of_decide_eq_true hr
 have hz:=au3 hc ht hF
 have h1:=aeV hc
 rw[he] at h1 ⊢
 refine⟨?_,hF,ht,rfl⟩
 unfold auB
 have:afR p t=jd (jA p t):=by unfold afR;rw[alz];omega
 rw[if_neg (by simp[hz]),if_neg (show ¬afR p t<adv p (allM p) by simp only at h1;omega)]
theorem aC0 {p:cn} (hg:Good p) {x:Int} (hx0:0<=x) (hx1:x<p.classes.length):x∈adu (allM p):=by
 have h8:=hg.1
 have h2:=aiX h8
 have:=aoW (m:=allM p) (b:=x) (by unfold allM;omega) (by unfold allM;omega) hx0 (by omega)
 rw[au5 hg hx0 hx1] at this
 exact of_decide_eq_true this.symm
theorem au6 {p:cn} (hc:dV p=0) {m:Int} (h0:0<=m) (h1:m<2^p.classes.length):adv p m=N1 p (adu m) p.supply p.opn:=by
 unfold adv;rw[if_pos]
 ·rfl
 ·unfold aln
  rw[if_neg (by simp[hc]),if_neg (by omega)]
def aeW (p:cn) (l:List Off):cn:={p with offers:=l}
theorem aoY {p:cn} {l0:List Off} {f:Off->Bool}:∀{l:List Off} {s t:List aaH},CN p s l=0->(∀k∈t,k∈s)->CN (aeW p l0) t (l.filter f)=0
 |[],_,_,_,_=>rfl
 |o::r,s,t,h,hs=>by
  simp only[CN] at h;split at h
  ·rename_i h1;exact absurd h h1
  ·split at h
   ·cases h
   ·rename_i h1 h2
    have hn:o.key∉t:=fun hm=>h2 (hs _ hm)
    rw[List.filter_cons];split
    ·unfold CN
     rw[if_neg (show ¬MR (aeW p l0) o≠0 from h1),if_neg hn]
     exact aoY h fun k hk=>by
      rcases List.mem_append.1 hk with hk|hk
      ·exact List.mem_append.2 (.inl (hs k hk))
      ·exact List.mem_append.2 (.inr hk)
    ·exact aoY h fun k hk=>List.mem_append.2 (.inl (hs k hk))
theorem aC1 {p:cn} {f:Off->Bool} (h:dV p=0):dV (aeW p (p.offers.filter f))=0:=by
 have hg:=pz h
 unfold dV at h;split at h
 ·rename_i h1;exact absurd h h1
 ·rename_i h1
  have hf:EH p=0:=Classical.not_not.1 h1
  obtain⟨f1,f2,f3,f4,f5⟩:=aeT hf
  have hl:=List.length_filter_le f p.offers
  have hq:EH (aeW p (p.offers.filter f))=0:=aoy (p:=aeW p (p.offers.filter f)) f1 (fun j hj=>by have h:=(abl (p:=p) (k:=j)).1 (f2 j hj);exact abl.2 h) (by simp only[aeW];omega) f5
  unfold dV
  rw[if_neg (by simp[hq])]
  exact aoY h (by simp)
theorem aoZ {a b:dp} (h:∀k,k<6->a.at k<=b.at k):a.le b=true:=by
 have i:=h 0 (by omega)
 have c:=h 1 (by omega)
 have d:=h 2 (by omega)
 have f:=h 3 (by omega)
 have g:=h 4 (by omega)
 have e:=h 5 (by omega)
 simp_all[dp.at,bo,dp.le_iff]
theorem aC2 {p:cn} {L:List Off} (d:(L.map Off.iy).Nodup) (c:yx p L=true):Da p L:=by
 refine⟨d,aoZ fun k a=>?_,aoZ fun k a=>?_⟩
 ·have h:=abk.1 c (p.classes.length+k) (by grind[nq])
  rw[show(((p.classes.length+k:Nat)):Int)=p.classes.length+k by omega,auY a] at h
  rw[aaQ,List.map_map]
  have:lT p L (p.classes.length+k)=(L.map ((fun b=>dp.at b k)∘Off.want)).sum:=by
   unfold lT
   congr 1
   simp_all[auW]
  omega
 ·have h:=abk.1 c (p.classes.length+6+k) (by grind[nq])
  rw[show(((p.classes.length+6+k:Nat)):Int)=p.classes.length+6+k by omega,auZ a] at h
  rw[aaQ,List.map_map]
  have:lT p L (p.classes.length+6+k)=(L.map ((fun b=>dp.at b k)∘tf p)).sum:=by
   unfold lT
   congr 1
   simp_all[auX]
  omega
theorem ao0 {l:List Off}:∀{t:List Int} {a:Int} {r:List Off}, -1<=a->rf l a t=some r->t.Pairwise (·<·)/\∀j∈t,a<j/\j<l.length
 |[],_,_,_,_=>by simp
 |i::t,a,r,g,h=>by
  simp only[rf] at h;split at h
  ·cases h
  ·rename_i k
   obtain⟨f,d,rfl⟩:=Option.map_eq_some_iff.1 h
   obtain⟨e,c⟩:=ao0 (by omega) d
   refine⟨List.pairwise_cons.2 ⟨fun j b=>(c j b).1,e⟩,fun j b=>?_⟩
   grind
def adw (p:cn) (t:List Int):Prop:=aaP 0 p.offers.length t/\Da p (jA p t)
theorem abM {p:cn} (c:dV p=0) {t:List Int}:lF p t=0↔adw p t:=by
 refine⟨fun h=>?_,fun h=>au3 c h.1 h.2⟩
 have e:=aCW h
 obtain⟨i,a,l,m,o⟩:=aoO h
 obtain⟨r,d⟩:=Option.isSome_iff_exists.1 a
 obtain⟨f,g⟩:=ao0 (by omega) d
 have n:nn p t=jA p t:=by grind[nn,alA]
 have b:yx p (jA p t)=true:=by
  simp_all[lF]
 exact⟨⟨f,fun j k=>by simp_all⟩,aC2 e b⟩
theorem au7 {p:cn} (a:Good p):adw p []:=⟨⟨by simp,by simp⟩,of_decide_eq_true (auN a)⟩
theorem afV {p:cn} (hc:dV p=0) {t:List Int} (h:adw p t):nD p t=jd (jA p t):=by
 have hz:=(abM hc).2 h
 rw[aCV hz];unfold afR;rw[alz];omega
theorem alB {p:cn} (hc:dV p=0) {L:List Off} (hL:Da p L) (hm:∀x∈L,x∈p.offers):jd L<=adv p (allM p):=by
 have hg:=pz hc
 have h2:=aiX hg.1
 rw[au6 hc (m:=allM p) (by unfold allM;omega) (by unfold allM;omega)]
 refine alr hg ⟨hL.1,fun x hx=>?_,hL.2.1,hL.2.2⟩
 have:=hg.2.2.2.2 x (hm x hx)
 exact⟨hm x hx,aC0 hg this.1 this.2.1⟩
theorem ao1 {p:cn} (hc:dV p=0):∃L,Da p L/\(∀x∈L,x∈p.offers)/\jd L=adv p (allM p):=by
 have hg:=pz hc
 have h2:=aiX hg.1
 rw[au6 hc (m:=allM p) (by unfold allM;omega) (by unfold allM;omega)]
 have q1:=dp.Kz.1 hg.2.2.1
 have q2:=dp.Kz.1 hg.2.2.2.1
 obtain⟨L,hL,hv⟩:=als hg (auQ (allM p)) (l:=p.supply) (o:=p.opn) (by rw[dp.le_iff];simp only[dp.zero];omega) (by rw[dp.le_iff];simp only[dp.zero];omega)
 exact⟨L,⟨hL.nd,hL.w,hL.o⟩,fun x hx=>(hL.mem x hx).1,hv⟩
theorem aC3 {p:cn} (hc:dV p=0) {L:List Off} (hL:Da p L) (hm:∀x∈L,x∈p.offers):∃t,adw p t/\(jA p t).Perm L:=by
 have hn:=ahl hc
 obtain⟨t,t1,t2,t3⟩:=alx (fun x=>decide (x∈L)) p.offers []
 have t4:jA p t=p.offers.filter fun x=>decide (x∈L):=t3
 have hnd:(p.offers.filter fun x=>decide (x∈L)).Nodup:=List.Nodup.sublist List.filter_sublist hn
 have hperm:L.Perm (jA p t):=by
  rw[t4]
  refine(List.perm_ext_iff_of_nodup (ai0 _ hL.1) hnd).2 fun x=>?_
  rw[List.mem_filter,decide_eq_true_eq]
  exact⟨fun hx=>⟨hm x hx,hx⟩,fun hx=>hx.2⟩
 exact⟨t,⟨⟨t1,fun j hj=>by have:=t2 j hj;simp only[List.length_nil] at this;omega⟩,aiZ hperm hL⟩,hperm.symm⟩
theorem aC4 {l:List Off} (hn:l.Nodup) {i j:Nat} (hi:i<l.length) (hj:j<l.length) (h:bo l i bD.off.dflt=bo l j bD.off.dflt):i=j:=by
 rw[jV hi,jV hj] at h
 have hp:=List.pairwise_iff_getElem.1 hn
 by_cases h1:i<j
 ·exact absurd h (hp i j hi hj h1)
 ·by_cases h2:j<i
  ·exact absurd h.symm (hp j i hj hi h2)
  ·omega
open Go.Proofs.YtgejbpobaicgfaaGreat.Ir
theorem au8:∀l:List Int,cmpL l l=0
 |[]=>rfl
 |a::l=>by
  simp only[cmpL,if_neg (Int.lt_irrefl a)]
  exact au8 l
theorem au9:∀{a b:List Int},cmpL a b=0->a=b
 |[],[],_=>rfl
 |[],_::_,h=>by simp[cmpL] at h
 |_::_,[],h=>by simp[cmpL] at h
 |x::a,y::b,h=>by
  simp only[cmpL] at h;split at h
  ·simp at h
  ·split at h
   ·simp at h
   ·rw[au9 h,show x=y by omega]
theorem ava:∀{a b:List Int},cmpL a b<0↔0<cmpL b a
 |[],[]=>by simp[cmpL]
 |[],_::_=>by simp[cmpL]
 |_::_,[]=>by simp[cmpL]
 |x::a,y::b=>by
  simp only[cmpL]
  by_cases h1:x<y
  ·rw[if_pos h1,if_neg (by omega),if_pos h1];simp
  ·by_cases h2:y<x
   ·rw[if_neg h1,if_pos h2,if_pos h2];simp
   ·rw[if_neg h1,if_neg h2,if_neg h2,if_neg h1]
    exact ava
theorem avc:∀{a b c:List Int},cmpL a b<0->cmpL b c<0->cmpL a c<0
 |[],[],_,h,_=>by simp[cmpL] at h
 |_::_,[],_,h,_=>by simp[cmpL] at h
 |[],_::_,[],_,h=>by simp[cmpL] at h
 |[],_::_,_::_,_,_=>by simp[cmpL]
 |_::_,_::_,[],_,h=>by simp[cmpL] at h
 |x::a,y::b,z::c,h,k=>by
  simp only[cmpL] at h k ⊢
  by_cases h1:x<y
  ·by_cases k1:y<z
   ·rw[if_pos (by omega)];omega
   ·rw[if_neg k1] at k
    by_cases k2:z<y
    ·rw[if_pos k2] at k;simp at k
    ·rw[if_pos (by omega)];omega
  ·rw[if_neg h1] at h
   by_cases h2:y<x
   ·rw[if_pos h2] at h;simp at h
   ·rw[if_neg h2] at h
    by_cases k1:y<z
    ·rw[if_pos (by omega)];omega
    ·rw[if_neg k1] at k
     by_cases k2:z<y
     ·rw[if_pos k2] at k;simp at k
     ·rw[if_neg k2] at k
      rw[if_neg (by omega),if_neg (by omega)]
      exact avc h k
def YB (a b:Alloc):Prop:=b.value<a.value\/a.value=b.value/\cmpL a.chosen b.chosen<0
theorem avd {a b c:Alloc} (h:YB a b) (k:YB b c):YB a c:=by
 rcases h with h|⟨h1,h2⟩
 ·rcases k with k|⟨k1,_⟩
  ·left;omega
  ·left;omega
 ·rcases k with k|⟨k1,k2⟩
  ·left;omega
  ·exact .inr ⟨by omega,avc h2 k2⟩
theorem ahm {a:Alloc}:¬YB a a:=by
 rintro(h|⟨_,h⟩)
 ·omega
 ·rw[au8] at h;omega
theorem aC5 {a b:Alloc} (h:¬YB a b) (k:¬YB b a):a=b:=by
 obtain⟨l,v⟩:=a
 obtain⟨m,w⟩:=b
 simp only[YB,not_or,not_and] at h k
 have hv:v=w:=by omega
 subst hv
 have h2:=h.2 rfl
 have k2:=k.2 rfl
 have:=mt ava.2 k2
 rw[au9 (show cmpL l m=0 by omega)]
def abn (a:List Int):Nat->Nat
 |0=>0
 |n+1=>if bo a n 0=0 then abn a n else n+1
def eZ (a:List Int):List Int:=a.take (abn a a.length)
def adx:fN:=⟨96,List Int,.one (qX (.i .u32)),fun a=>a.length<=1000000000000,fun a=> .row (.i .u32) (eZ a)⟩
def aC6 (a:List Int):Nat->jW
 |2=> .inv Int (fun n=>⟨[(0,.row (.i .u32) a),(3,.si .i64 n)],[]⟩) (fun s=>iS s 3) (fun n=>0<=n/\n<=a.length/\abn a n.toNat=abn a a.length) (fun n=>n.toNat) fun _ _=> .look
 |_=> .look
theorem h152:Holds Tryz.prog adx:=by
 refine lj (L:=[]) adx aC6 (by simp) ?_
 intro(a:List Int) (h:a.length<=1000000000000)
 refine gw (let e:=(0:Int);let f:=SV.row;let c:=bD.i .u32;let d:=(↑a.length:Int);let l:=SV.si .i64 d;let g:=(↑a.length:Int);let j:=abn a a.length;((((f c a).same (f c a)/\l.same l/\True)/\True)/\e<=d/\d<=g/\abn a d.toNat=j)/\∀(x:Int),let r:=decide (e<x);let b:=x - (1:Int);let o:=decide (bo a b.toNat e=e);let k:=SV.si .i64 b;e<=x/\x<=g/\abn a x.toNat=j->(r=true->iR .i64 b/\e<=b/\b<d/\b.toNat<a.length/\(o=true->iR .i64 b/\(((f c a).same (f c a)/\k.same k/\True)/\True)/\(e<=b/\b<=g/\abn a b.toNat=j)/\b.toNat<x.toNat)/\(o=false->e<=x/\e<=x/\0<=x.toNat/\x.toNat<=x.toNat/\x.toNat<=a.length/\(f c (List.take (x.toNat - 0) a)).same (f c (eZ a))))/\(r=false->e<=x/\e<=x/\0<=x.toNat/\x.toNat<=x.toNat/\x.toNat<=a.length/\(f c (List.take (x.toNat - 0) a)).same (f c (eZ a)))) (by kernel_rfl) ?_
 simp only[vcs]
 refine⟨⟨by omega,by omega,by simp⟩,?_⟩
 rintro n ⟨f,t,q⟩
 have e:(n.toNat=0\/0<n.toNat/\¬bo a (n.toNat - 1) 0=0)->List.take (n.toNat - 0) a=eZ a:=fun h=>by
  unfold eZ;rw[<-q]
  congr 1
  rcases h with h|h
  ·rw[h];rfl
  ·obtain⟨v,h⟩:=h
   obtain⟨m,u⟩:∃m,n.toNat=m+1:=⟨n.toNat - 1,by omega⟩
   simp_all[abn]
 refine⟨fun s=>⟨by omega,by omega,by omega,by omega,fun p=>⟨by omega,⟨by omega,by omega,?_⟩,by omega⟩,fun p=>⟨f,f,by omega,by omega,by omega,?_⟩⟩,fun s=>⟨f,f,by omega,by omega,by omega,e (.inl (by omega))⟩⟩
 ·rw[<-q,show n.toNat=(n - 1).toNat+1 by omega]
  rw[abn,if_pos p]
 simp_all
def bC:List Int->Int
 |[]=>0
 |d::l=>d+4294967296*bC l
def df (a:List Int):Prop:=∀d∈a,0<=d/\d<4294967296
def zp:List Int->Prop
 |[]=>True
 |d::l=>(l=[]->d≠0)/\zp l
theorem J9 {d:Int} {l:List Int}:df (d::l)↔(0<=d/\d<4294967296)/\df l:=by simp[df]
theorem aaR {a:List Int} (h:df a) (n:Nat):df (a.take n):=fun d b=>h d (List.mem_of_mem_take b)
theorem uD:∀{a:List Int},df a->0<=bC a
 |[],_=>Int.le_refl _
 |d::l,h=>by
  obtain⟨c,b⟩:=J9.1 h
  have:=uD b
  grind[bC]
theorem val_zero:∀{a:List Int},df a->zp a->bC a=0->a=[]
 |[],_,_,_=>rfl
 |d::l,h,b,f=>by
  obtain⟨g,c⟩:=J9.1 h
  have:=uD c
  simp only[bC] at f
  have e:=val_zero c b.2 (by omega)
  have:=b.1 e
  omega
theorem val_inj:∀{a b:List Int},df a->df b->zp a->zp b->bC a=bC b->a=b
 |[],b,_,i,_,c,h=>(val_zero i c h.symm).symm
 |d::l,[],f,_,g,_,h=>val_zero f g h
 |d::l,e::m,f,i,g,c,h=>by
  obtain⟨p,j⟩:=J9.1 f
  obtain⟨s,k⟩:=J9.1 i
  have r:=uD j
  have q:=uD k
  simp only[bC] at h
  have n:d=e:=by omega
  have o:bC l=bC m:=by omega
  rw[n,val_inj j k g.2 c.2 o]
theorem ahn:∀{a:List Int} {x:Int},bC (a++[x])=bC a+4294967296^a.length*x
 |[],x=>by simp[bC]
 |d::l,x=>by
  simp only[List.cons_append,bC,ahn,List.length_cons,Int.pow_succ,Int.mul_add]
  grind
theorem ao2:∀{a:List Int} {x:Int},x≠0->zp (a++[x])
 |[],x,h=>⟨fun _=>h,trivial⟩
 |d::l,x,h=>⟨fun b=>by simp at b,ao2 h⟩
theorem alC {a:List Int} {n:Nat} (h:n<a.length):a.take (n+1)=a.take n++[bo a n 0]:=by
 simp_all[jV]
theorem ave {a:List Int}:∀{n:Nat},n<=a.length->bC (a.take (abn a n))=bC (a.take n)/\zp (a.take (abn a n))
 |0,_=>by simp[abn,zp]
 |n+1,h=>by
  obtain⟨d,b⟩:=@ave a n (by omega)
  have c:=alC (show n<a.length by omega)
  unfold abn
  grind[ahn,ao2]
theorem ady {a:List Int}:bC (eZ a)=bC a/\zp (eZ a):=by
 have:=@ave a a.length (Nat.le_refl _)
 rw[List.take_length] at this;exact this
theorem aee {a:List Int} (h:df a):df (eZ a):=aaR h _
theorem aeX {a:List Int}:(eZ a).length<=a.length:=by grind[eZ]
def afW:Nat->Int->List Int
 |0,_=>[]
 |k+1,n=>if n<=0 then[] else(n % 4294967296)::afW k (n / 4294967296)
def ki (n:Int):List Int:=afW n.toNat n
theorem avf:∀{k:Nat} {n:Int},0<=n->n.toNat<=k->bC (afW k n)=n/\df (afW k n)/\zp (afW k n)
 |0,n,b,h=>by
  have:n=0:=by omega
  subst this
  exact⟨rfl,by simp[afW,df],trivial⟩
 |k+1,n,b,h=>by
  unfold afW;split
  ·have:n=0:=by omega
   subst this
   exact⟨rfl,by simp[df],trivial⟩
  ·obtain⟨d,a,c⟩:=@avf k (n / 4294967296) (by omega) (by omega)
   refine⟨by grind[bC],J9.2 ⟨by omega,a⟩,fun e f=>?_,c⟩
   grind[bC]
theorem AO {n:Int} (h:0<=n):bC (ki n)=n/\df (ki n)/\zp (ki n):=avf h (Nat.le_refl _)
theorem ai1 {a:List Int} (h:df a) (b:zp a):ki (bC a)=a:=by
 grind[AO,uD,val_inj]
theorem acU {a:List Int} (h:df a):eZ a=ki (bC a):=by
 grind[ady,ai1,aee]
theorem abo:∀{a:List Int},df a->bC a<4294967296^a.length
 |[],_=>by simp[bC]
 |d::l,h=>by
  obtain⟨c,b⟩:=J9.1 h
  have:=abo b
  grind[bC]
theorem aho:∀{a b:List Int},df a->df b->zp b->a.length<b.length->bC a<bC b
 |[],b,_,c,f,h=>by
  have n:=uD c
  grind[bC,val_zero]
 |d::l,[],_,_,_,h=>by simp at h
 |d::l,e::m,g,c,f,h=>by
  obtain⟨k,j⟩:=J9.1 g
  obtain⟨o,i⟩:=J9.1 c
  simp only[List.length_cons] at h
  have:=aho j i f.2 (by omega)
  grind[bC]
theorem ao3:∀{k:Nat} {a b:List Int},df a->df b->k<a.length->k<b.length->a.drop (k+1)=b.drop (k+1)->bo a k 0<bo b k 0->bC a<bC b
 |_,[],_,_,_,h,_,_,_=>by simp at h
 |_,_::_,[],_,_,_,h,_,_=>by simp at h
 |0,d::l,e::m,f,g,_,_,h,c=>by
  grind[bo,bC]
 |k+1,d::l,e::m,f,g,n,q,h,c=>by
  obtain⟨p,j⟩:=J9.1 f
  obtain⟨o,i⟩:=J9.1 g
  simp only[List.drop_succ_cons] at h;simp only[bo,List.getElem?_cons_succ] at c
  have:=ao3 (k:=k) j i (by simp_all) (by simp_all) h c
  grind[bC]
theorem alD {a:List Int} {k:Nat} (h:k<a.length):a.drop k=bo a k 0::a.drop (k+1):=by simp_all[jV]
def YC (x y:Int):Int:=if x<y then -1 else if y<x then 1 else 0
def ahp:fN:=⟨69,List Int×List Int,.cons (qX (.i .u32)) (.one (qX (.i .u32))),fun a=>(df a.1/\df a.2)/\a.1.length<=1000000000000/\a.2.length<=1000000000000,fun a=> .si .i64 (YC (bC a.1) (bC a.2))⟩
def aC7 (a:List Int×List Int):Nat->jW
 |7=> .inv Int (fun i=>⟨[(0,.row (.i .u32) (eZ a.1)),(1,.row (.i .u32) (eZ a.2)),(22,.si .i64 (eZ a.1).length),(23,.si .i64 i)],[]⟩) (fun s=>iS s 23)
  (fun i=>0<=i/\i<=(eZ a.1).length/\(eZ a.1).drop ((eZ a.1).length - i.toNat)=(eZ a.2).drop ((eZ a.1).length - i.toNat)) (fun i=>((eZ a.1).length - i).toNat) fun _ _=> .look
 |_=> .look
theorem h132:Holds Tryz.prog ahp:=by
 refine lj (L:=[adx]) ahp aC7 (by simpa using h152) ?_
 rintro⟨a,b⟩ ⟨⟨ha,hb⟩,hla,hlb⟩
 simp only at ha hb hla hlb
 refine gw (let c:=(0:Int);let d:=SV.si .i64;let e:=SV.il .i64;let f:=iR .i64;let z0:Nat:=(eZ a).length;let h:=(↑z0:Int);let z2:Nat:=(eZ b).length;let l:=(↑z2:Int);let n:=d (YC (bC a) (bC b));let o:=SV.row (bD.i .u32) (eZ a);let p:=SV.row (bD.i .u32) (eZ b);let z7:Nat:=(eZ a).length;let j:=(↑z7:Int);let s:=d j;let t:=e 0;let g:=h - (1:Int);a.length<=1000000000000/\b.length<=1000000000000/\(decide (h≠l)=true->(decide (h<l)=true->(e (-1:Int)).same n)/\(decide (h<l)=false->(e 1).same n))/\(decide (h≠l)=false->(((o.same o/\p.same p/\(d h).same s/\t.same (d 0)/\True)/\True)/\c<=c/\c<=j/\List.drop (z7 - 0) (eZ a)=List.drop (z7 - 0) (eZ b))/\∀(x:Int),let m:=(g - x).toNat;let q:=bo (eZ a) m c;let r:=bo (eZ b) m c;let k:=x+(1:Int);let u:=d k;c<=x/\x<=j/\List.drop (z7 - x.toNat) (eZ a)=List.drop (z7 - x.toNat) (eZ b)->(decide (x<j)=true->f g/\f (g - x)/\c<=g - x/\g - x<h/\m<z0/\c<=g - x/\g - x<l/\m<z2/\(decide (q<r)=true->(e (-1:Int)).same n)/\(decide (q<r)=false->c<=g - x/\g - x<h/\m<z0/\c<=g - x/\g - x<l/\m<z2/\(decide (r<q)=true->(e 1).same n)/\(decide (r<q)=false->f k/\((o.same o/\p.same p/\s.same s/\u.same u/\True)/\True)/\(c<=k/\k<=j/\List.drop (z7 - k.toNat) (eZ a)=List.drop (z7 - k.toNat) (eZ b))/\(j - k).toNat<(j - x).toNat)))/\(decide (x<j)=false->t.same n))) (by kernel_rfl) ?_
 simp only[vcs]
 obtain⟨va,na⟩:=@ady a
 obtain⟨vb,nb⟩:=@ady b
 have da:=aee ha
 have db:=aee hb
 have la:=@aeX a
 rw[<-va,<-vb]
 generalize eZ a=s at*
 generalize eZ b=t at*
 have lt:bC s<bC t-> -1=YC (bC s) (bC t):=fun h=>by unfold YC;rw[if_pos h]
 have gt:bC t<bC s->1=YC (bC s) (bC t):=fun h=>by unfold YC;rw[if_neg (by omega),if_pos h]
 refine⟨hla,hlb,fun hne=>⟨fun h=>lt (aho da db nb (by omega)),fun h=>gt (aho db da na (by omega))⟩,fun he=>⟨⟨by omega,by omega,?_⟩,?_⟩⟩
 ·rw[List.drop_of_length_le (by omega),List.drop_of_length_le (by omega)]
 rintro i ⟨i0,i1,hd⟩
 refine⟨fun hlt=>?_,fun hge=>?_⟩
 ·have hk:((s.length:Int) - 1 - i).toNat=s.length - 1 - i.toNat:=by omega
  have hk2:s.length - i.toNat=s.length - 1 - i.toNat+1:=by omega
  rw[hk];rw[hk2] at hd
  generalize hm:s.length - 1 - i.toNat=m at*
  refine⟨by omega,by omega,by omega,by omega,by omega,by omega,by omega,by omega,fun h=>lt (ao3 da db (by omega) (by omega) hd h),fun h=>⟨by omega,by omega,by omega,by omega,by omega,by omega,fun h2=>gt (ao3 db da (by omega) (by omega) hd.symm h2),fun h2=>⟨by omega,⟨by omega,by omega,?_⟩,by omega⟩⟩⟩
  rw[show s.length - (i+1).toNat=m by omega,alD (show m<s.length by omega),alD (show m<t.length by omega),hd,show bo s m 0=bo t m 0 by omega]
 ·have hz:s.length - i.toNat=0:=by omega
  rw[hz,List.drop_zero,List.drop_zero] at hd;subst hd;unfold YC
  rw[if_neg (by omega),if_neg (by omega)]
def ahq:fN:=⟨62,Int,.one (sj .u64),fun x=>0<=(show Int from x)/\(show Int from x)<18446744073709551616,fun x=> .row (.i .u32) (ki x)⟩
theorem h128:Holds Tryz.prog ahq:=by
 refine lj (L:=[adx]) ahq lk (by grind[h152]) ?_
 intro(x:Int) h
 obtain⟨b,a⟩:0<=x/\x<18446744073709551616:=h
 refine gw (let a:=(4294967296:Int);(0:Int)<=(32:Int)/\(32:Int)<=(64:Int)/\2<=1000000000000/\(SV.row (bD.i .u32) (eZ [x % a,x / a % a])).same (SV.row (bD.i .u32) (ki x))) (by kernel_rfl) ?_
 simp only[vcs]
 grind[df,acU,bC]
def HW (s t:List Int):Nat->Int
 |0=>0
 |i+1=>(bo s i 0+HW s t i+bo t i 0) / 4294967296
def adD (s t:List Int) (i:Nat):Int:=(bo s i 0+HW s t i+bo t i 0) % 4294967296
def adR (s t:List Int) (i:Nat):List Int:=(List.range i).map (adD s t)++List.replicate (s.length+1 - i) 0
def big (a:List Int×List Int):List Int:=if a.1.length<a.2.length then a.2 else a.1
def YD (a:List Int×List Int):List Int:=if a.1.length<a.2.length then a.1 else a.2
def ai2:fN:=⟨109,List Int×List Int,.cons (qX (.i .u32)) (.one (qX (.i .u32))),fun a=>(df a.1/\df a.2)/\a.1.length<=100000000000/\a.2.length<=100000000000,fun a=> .row (.i .u32) (ki (bC a.1+bC a.2))⟩
def aC8 (a:List Int×List Int):Nat->jW
 |6=> .inv Int (fun i=>⟨[(0,.row (.i .u32) (big a)),(1,.row (.i .u32) (YD a)),(5,.ow 0 (adR (big a) (YD a) i.toNat).length 1),(6,.si .u64 (HW (big a) (YD a) i.toNat)),(21,.si .i64 (big a).length),(22,.si .i64 i)],[.row (.i .u32) (adR (big a) (YD a) i.toNat) 161 true]⟩) (fun s=>iS s 22)
  (fun i=>0<=i/\i<=(big a).length) (fun i=>((big a).length - i).toNat) fun _ _=> .look
 |_=> .look
theorem ri {a:List Int} (h:df a) (i:Nat):0<=bo a i 0/\bo a i 0<4294967296:=by
 by_cases b:i<a.length
 ·rw[jV b];exact h _ (List.getElem_mem b)
 grind[bo]
theorem alE {a:List Int} {i:Nat} (h:a.length<=i):bo a i 0=0:=by grind[bo]
theorem ao4 {s t:List Int} (b:df s) (a:df t):∀i,0<=HW s t i/\HW s t i<=1
 |0=>by simp[HW]
 |i+1=>by
  have h:=ao4 b a i
  have c:=ri b i
  have d:=ri a i
  grind[HW]
theorem alF {s t:List Int} {i:Nat} (h:i<=s.length):(adR s t i).length=s.length+1:=by grind[adR]
theorem ao5 {s t:List Int} {i:Nat} {v:Int} (h:i<=s.length):(adR s t i).set i v=(List.range i).map (adD s t)++v::List.replicate (s.length - i) 0:=by
 unfold adR
 have a:s.length+1 - i=(s.length - i)+1:=by omega
 rw[a,List.replicate_succ]
 simp_all
theorem avg {s t:List Int} {i:Nat} (h:i<s.length):adR s t (i+1)=(adR s t i).set i (adD s t i):=by
 rw[ao5 (by omega)]
 unfold adR;rw[List.range_succ,List.map_append,List.append_assoc]
 simp_all
theorem YE {a:List Int} {i:Nat}:bC (a.take (i+1))=bC (a.take i)+4294967296^i*bo a i 0:=by
 by_cases h:i<a.length
 ·grind[alC,ahn]
 ·rw[alE (by omega),List.take_of_length_le (by omega),List.take_of_length_le (by omega)]
  simp
theorem ao6 {s t:List Int}:∀i,bC ((List.range i).map (adD s t))+4294967296^i*HW s t i=bC (s.take i)+bC (t.take i)
 |0=>by simp[HW,bC]
 |i+1=>by
  have a:=@ao6 s t i
  rw[List.range_succ,List.map_append,List.map_cons,List.map_nil,ahn,YE,YE,Int.pow_succ]
  grind[adD,HW]
theorem h154:Holds Tryz.prog ai2:=by
 refine lj (L:=[adx]) ai2 aC8 (by grind[h152]) ?_
 rintro⟨a,b⟩ ⟨⟨ha,hb⟩,U,P⟩
 simp only at ha hb U P
 refine gw (let c:=(18446744073709551616:Int);let d:=(0:Int);let e:=(4294967296:Int);let h:=SV.si .i64;let m:=SV.row;let n:=cC.row;let o:=SV.ow;let r:=(↑(big (a,b)).length:Int);let J:=(↑(big (a,b)).length:Int);let T:=(↑(YD (a,b)).length:Int);let p:=bD.i .u32;let X:=m p (big (a,b));let W:=m p (YD (a,b));let R:=h r;let q:=adR (big (a,b)) (YD (a,b)) 0;let t:=∀(x:Int),let f:=adR (big (a,b)) (YD (a,b)) x.toNat;let g:=f.length;let j:=x+(1:Int);let C:=adR (big (a,b)) (YD (a,b)) j.toNat;let K:=h j;let G:=bo (big (a,b)) x.toNat d;let w:=HW (big (a,b)) (YD (a,b)) x.toNat;let z:=f.set J.toNat (w % e);let B:=fun(u l:Int) ↦let F:=(u % c+l) % c;d<=(32:Int)/\(32:Int)<=(64:Int)/\f.length=g/\d<=x/\x<(↑g:Int)/\f.length=g/\x.toNat<g/\iR .i64 j/\((X.same X/\W.same W/\(o 0 f.length 1).same (o 0 C.length 1)/\(SV.si .u64 (F / e)).same (SV.si .u64 (HW (big (a,b)) (YD (a,b)) j.toNat))/\R.same R/\K.same K/\True)/\(n p (f.set x.toNat (F % e)) 161 true).same (n p C 161 true)/\True)/\(d<=j/\j<=r)/\(r - j).toNat<(r - x).toNat;d<=x/\x<=r->(decide (x<r)=true->d<=x/\x<J/\x.toNat<(big (a,b)).length/\(decide (x<T)=true->d<=x/\x<T/\x.toNat<(YD (a,b)).length/\B (G % c+w) (bo (YD (a,b)) x.toNat d % c))/\(decide (x<T)=false->B G w))/\(decide (x<r)=false->f.length=g/\d<=J/\J<(↑g:Int)/\f.length=g/\J.toNat<g/\f.length=z.length/\z.length<=1000000000000/\(m p (eZ z)).same (m p (ki (bC a+bC b))));let s:=fun(u:Bool) (l O:List Int) ↦let k:=(↑l.length:Int)+(1:Int);decide ((↑a.length:Int)<(↑b.length:Int))=u->iR .i64 k/\d<=k/\k<=k/\k*(4:Int)<=(140737488355328:Int)/\k<=(1000000000000:Int)/\((((m p l).same X/\(m p O).same W/\(o 0 k.toNat 1).same (o 0 q.length 1)/\(SV.il .u64 0).same (SV.si .u64 (HW (big (a,b)) (YD (a,b)) 0))/\(h (↑l.length:Int)).same R/\(SV.il .i64 0).same (h 0)/\True)/\(n p (d::List.replicate l.length d) 161 true).same (n p q 161 true)/\True)/\d<=d/\d<=r)/\t;s true b a/\s false a b) (by kernel_rfl) ?_
 simp only[vcs]
 have a0:(a.length<b.length/\big (a,b)=b/\YD (a,b)=a)\/(¬a.length<b.length/\big (a,b)=a/\YD (a,b)=b):=by
  by_cases h:a.length<b.length
  ·exact .inl ⟨h,if_pos h,if_pos h⟩
  ·exact .inr ⟨h,if_neg h,if_neg h⟩
 generalize big (a,b)=s at*
 generalize YD (a,b)=t at*
 have c:∀{u v:List Int},u=v->(cC.row (.i .u32) u 161 true).same (cC.row (.i .u32) v 161 true):=by rintro _ _ rfl;rfl
 have m:∀{u v:Nat},u=v->(SV.ow 0 u 1).same (SV.ow 0 v 1):=by rintro _ _ rfl;rfl
 have r0:∀u v:List Int,adR u v 0=0::List.replicate u.length 0:=fun u v=>rfl
 refine⟨fun h=>?_,fun h=>?_⟩
 ·obtain⟨h1,Z,V⟩:a.length<b.length/\s=b/\t=a:=by
   grind
  subst Z V
  have I:df s:=by assumption
  have H:df t:=by assumption
  have y:t.length<=s.length:=by omega
  have N:=ao4 I H
  refine⟨⟨by omega,by omega⟩,by omega,by omega,by omega,by omega,⟨⟨⟨rfl,rfl,m (by simp_all),rfl,rfl⟩,c (r0 s t).symm⟩,by omega,by omega⟩,?_⟩
  rintro i ⟨q,i1⟩
  have Y:=@alF s t i.toNat (by omega)
  have S:=N i.toNat
  have d1:=ri I i.toNat
  have d2:=ri H i.toNat
  refine⟨fun A=>?_,fun M=>?_⟩
  ·have l2:=@alF s t (i.toNat+1) (by omega)
   have e:(i+1).toNat=i.toNat+1:=by omega
   have o:=avg (s:=s) (t:=t) (show i.toNat<s.length by omega)
   refine⟨q,A,by omega,fun D=>?_,fun D=>?_⟩
   ·have n:(((bo s i.toNat 0 % 18446744073709551616+HW s t i.toNat) % 18446744073709551616+bo t i.toNat 0 % 18446744073709551616) % 18446744073709551616)=bo s i.toNat 0+HW s t i.toNat+bo t i.toNat 0:=by omega
    rw[n,e]
    exact⟨q,D,by omega,by omega,by omega,q,by omega,by omega,by omega,⟨⟨m (by omega),rfl⟩,c o.symm⟩,by omega,by omega⟩
   ·have hz:=alE (a:=t) (i:=i.toNat) (by omega)
    have n:((bo s i.toNat 0 % 18446744073709551616+HW s t i.toNat) % 18446744073709551616)=bo s i.toNat 0+HW s t i.toNat+bo t i.toNat 0:=by omega
    rw[n,e]
    exact⟨by omega,by omega,q,by omega,by omega,by omega,⟨⟨m (by omega),rfl⟩,c o.symm⟩,by omega,by omega⟩
  ·have E:i.toNat=s.length:=by omega
   have Q:HW s t i.toNat % 4294967296=HW s t i.toNat:=by omega
   rw[Q,Int.toNat_natCast,E];rw[E] at Y S
   refine⟨by omega,by omega,by omega,by simp,by simp;omega,?_⟩
   rw[ao5 (Nat.le_refl _),Nat.sub_self,List.replicate_zero,acU ?_]
   ·rw[ahn]
    have n:=@ao6 s t s.length
    rw[List.take_length,List.take_of_length_le y] at n
    grind
   ·intro d hd
    grind[adD]
 ·obtain⟨h1,Z,V⟩:¬a.length<b.length/\s=a/\t=b:=by
   grind
  subst Z V
  have I:df s:=by assumption
  have H:df t:=by assumption
  have y:t.length<=s.length:=by omega
  have N:=ao4 I H
  refine⟨⟨by omega,by omega⟩,by omega,by omega,by omega,by omega,⟨⟨⟨rfl,rfl,m (by simp_all),rfl,rfl⟩,c (r0 s t).symm⟩,by omega,by omega⟩,?_⟩
  rintro i ⟨q,i1⟩
  have Y:=@alF s t i.toNat (by omega)
  have S:=N i.toNat
  have d1:=ri I i.toNat
  have d2:=ri H i.toNat
  refine⟨fun A=>?_,fun M=>?_⟩
  ·have l2:=@alF s t (i.toNat+1) (by omega)
   have e:(i+1).toNat=i.toNat+1:=by omega
   have o:=avg (s:=s) (t:=t) (show i.toNat<s.length by omega)
   refine⟨q,A,by omega,fun D=>?_,fun D=>?_⟩
   ·have n:(((bo s i.toNat 0 % 18446744073709551616+HW s t i.toNat) % 18446744073709551616+bo t i.toNat 0 % 18446744073709551616) % 18446744073709551616)=bo s i.toNat 0+HW s t i.toNat+bo t i.toNat 0:=by omega
    rw[n,e]
    exact⟨q,D,by omega,by omega,by omega,q,by omega,by omega,by omega,⟨⟨m (by omega),rfl⟩,c o.symm⟩,by omega,by omega⟩
   ·have hz:=alE (a:=t) (i:=i.toNat) (by omega)
    have n:((bo s i.toNat 0 % 18446744073709551616+HW s t i.toNat) % 18446744073709551616)=bo s i.toNat 0+HW s t i.toNat+bo t i.toNat 0:=by omega
    rw[n,e]
    exact⟨by omega,by omega,q,by omega,by omega,by omega,⟨⟨m (by omega),rfl⟩,c o.symm⟩,by omega,by omega⟩
  ·have E:i.toNat=s.length:=by omega
   have Q:HW s t i.toNat % 4294967296=HW s t i.toNat:=by omega
   rw[Q,Int.toNat_natCast,E];rw[E] at Y S
   refine⟨by omega,by omega,by omega,by simp,by simp;omega,?_⟩
   rw[ao5 (Nat.le_refl _),Nat.sub_self,List.replicate_zero,acU ?_]
   ·rw[ahn]
    have n:=@ao6 s t s.length
    rw[List.take_length,List.take_of_length_le y] at n
    have hl:((List.range s.length).map (adD s t)).length=s.length:=by simp
    rw[hl,n]
    try rw[Int.add_comm]
   ·intro d hd
    grind[adD]
def DJ (d:Int):List Int->List Int×Int
 |[]=>([],0)
 |x::l=>(((DJ d l).2*4294967296+x) / d::(DJ d l).1,((DJ d l).2*4294967296+x) % d)
theorem avh {d:Int}:∀{a:List Int},(DJ d a).1.length=a.length
 |[]=>rfl
 |x::l=>by simp[DJ,avh]
theorem alG {d:Int} (e:0<d) (k:d<4294967296):∀{a:List Int},df a->df (DJ d a).1/\(0<=(DJ d a).2/\(DJ d a).2<d)/\bC (DJ d a).1*d+(DJ d a).2=bC a
 |[],_=>by grind[DJ,bC]
 |x::l,h=>by
  obtain⟨n,g⟩:=J9.1 h
  obtain⟨j,⟨p,s⟩,o⟩:=alG e k g
  simp only[DJ]
  generalize (DJ d l).1=q at*
  generalize (DJ d l).2=r at*
  have f:=Int.emod_nonneg (r*4294967296+x) (show d≠0 by omega)
  have i:=Int.emod_lt_of_pos (r*4294967296+x) e
  have c:0<=(r*4294967296+x) / d:=Int.ediv_nonneg (by omega) (by omega)
  have b:(r*4294967296+x) / d<4294967296:=by
   refine Int.ediv_lt_of_lt_mul e ?_
   omega
  refine⟨J9.2 ⟨⟨c,b⟩,j⟩,⟨f,i⟩,?_⟩
  simp only[bC]
  have m:=Int.mul_ediv_add_emod (r*4294967296+x) d
  grind
theorem aC9 {d:Int} (i:0<d) (h:d<4294967296) {a:List Int} (g:df a):eZ (DJ d a).1=ki (bC a / d)/\(DJ d a).2=bC a % d:=by
 obtain⟨e,⟨c,b⟩,f⟩:=alG i h g
 rw[acU e]
 have j:=uD e
 have k:bC a / d=bC (DJ d a).1:=by
  rw[<-f,Int.add_comm,Int.add_mul_ediv_right _ _ (by omega),Int.ediv_eq_zero_of_lt c b,Int.zero_add]
 have l:bC a % d=(DJ d a).2:=by
  rw[<-f,Int.add_comm,Int.add_mul_emod_self_right,Int.emod_eq_of_lt c b]
 simp_all
theorem ao7 {r x:Int} (d:0<=r) (g:r<4294967296) (a:0<=x) (e:x<4294967296):B2.orI .u64 (r*4294967296) x=r*4294967296+x:=by
 obtain⟨m,rfl⟩:=Int.eq_ofNat_of_zero_le d
 obtain⟨k,rfl⟩:=Int.eq_ofNat_of_zero_le a
 have b:(BitVec.ofInt 64 ((m:Int)*4294967296)).toNat=2^32*m:=by
  grind[BitVec.toNat_ofInt]
 have c:(BitVec.ofInt 64 (k:Int)).toNat=k:=by
  grind
 have f:(BitVec.ofInt 64 ((m:Int)*4294967296) |||BitVec.ofInt 64 (k:Int)).toNat=2^32*m+k:=by
  rw[BitVec.toNat_or,b,c,Nat.two_pow_add_eq_or_of_lt (by omega)]
 show um .u64 ((BitVec.ofInt 64 ((m:Int)*4294967296) |||BitVec.ofInt 64 (k:Int)).toNat:Nat)=_
 grind[aeB,IntKind.wrap,IntKind.bits,IntKind.signed]
def ao8:fN:=⟨166,List Int×Int,.cons (qX (.i .u32)) (.one (sj .u32)),fun a=>df a.1/\a.1.length<=100000000000/\0<a.2/\a.2<4294967296,fun a=> .eW [.row (.i .u32) (ki (bC a.1 / a.2)),.si .u32 (bC a.1 % a.2)]⟩
def YF (a:List Int) (d:Int) (i:Nat):List Int:=List.replicate (a.length - i) 0++(DJ d (a.drop (a.length - i))).1
def XA (a:List Int) (d:Int) (i:Nat):Int:=(DJ d (a.drop (a.length - i))).2
def aDa (a:List Int×Int):Nat->jW
 |4=> .inv Int (fun i=>⟨[(0,.row (.i .u32) a.1),(1,.si .u32 a.2),(6,.ow 0 (YF a.1 a.2 i.toNat).length 1),(7,.si .u64 (XA a.1 a.2 i.toNat)),(15,.si .i64 a.1.length),(16,.si .i64 i)],[.row (.i .u32) (YF a.1 a.2 i.toNat) 161 true]⟩) (fun s=>iS s 16)
  (fun i=>0<=i/\i<=a.1.length) (fun i=>(a.1.length - i).toNat) fun _ _=> .look
 |_=> .look
theorem avi {a:List Int} {d:Int} {i:Nat} (h:i<=a.length):(YF a d i).length=a.length:=by
 grind[YF,avh]
theorem drop_cons {a:List Int} {k:Nat} (h:k<a.length):a.drop k=bo a k 0::a.drop (k+1):=alD h
theorem avj {q:List Int} {y:Int}:∀k,(List.replicate (k+1) 0++q).set k y=List.replicate k 0++y::q
 |0=>by simp
 |k+1=>by
  have:=@avj q y k
  grind
theorem u64_in {n:Int} (b:0<=n) (a:n<18446744073709551616):iR .u64 n:=by
 show IntKind.u64.wrap n=n
 grind[IntKind.wrap,IntKind.bits,IntKind.signed]
theorem h167:Holds Tryz.prog ao8:=by
 refine lj (L:=[adx]) ao8 aDa (by grind[h152]) ?_
 rintro⟨a,d⟩ ⟨o,H,n,w⟩
 simp only at o H n w
 refine gw (let h:=(0:Int);let k:=(18446744073709551616:Int);let l:=(4294967296:Int);let m:=SV.si .i64;let n:=SV.row;let o:=cC.row;let p:=iR .i64;let q:=(1:Int);let s:=SV.ow;let c:=(↑a.length:Int);let e:=bD.i .u32;let f:=(↑a.length:Int);let A:=m f;let r:=d % k;h<=c/\c<=c/\c*(4:Int)<=(140737488355328:Int)/\c<=(1000000000000:Int)/\((((n e a).same (n e a)/\(SV.si .u32 d).same (SV.si .u32 d)/\(s 0 c.toNat 1).same (s 0 (YF a d 0).length 1)/\(SV.il .u64 0).same (SV.si .u64 (XA a d 0))/\(m c).same A/\(SV.il .i64 0).same (m 0)/\True)/\(o e (List.replicate c.toNat h) 161 true).same (o e (YF a d 0) 161 true)/\True)/\h<=h/\h<=f)/\∀(x:Int),let g:=c - q - x;let C:=B2.orI .u64 (XA a d x.toNat*l % k) (bo a g.toNat h % k);let b:=YF a d x.toNat;let j:=x+q;let K:=m j;h<=x/\x<=f->(decide (x<f)=true->p (c - q)/\p g/\h<=(32:Int)/\(32:Int)<=(64:Int)/\h<=g/\g<c/\g.toNat<a.length/\r≠h/\iR .u64 (C.tdiv r)/\r≠h/\b.length=b.length/\h<=g/\g<(↑b.length:Int)/\b.length=b.length/\g.toNat<b.length/\p j/\(((n e a).same (n e a)/\(SV.si .u32 d).same (SV.si .u32 d)/\(s 0 b.length 1).same (s 0 (YF a d j.toNat).length 1)/\(SV.si .u64 (C.tmod r)).same (SV.si .u64 (XA a d j.toNat))/\A.same A/\K.same K/\True)/\(o e (b.set g.toNat (C.tdiv r % l)) 161 true).same (o e (YF a d j.toNat) 161 true)/\True)/\(h<=j/\j<=f)/\(f - j).toNat<(f - x).toNat)/\(decide (x<f)=false->b.length=b.length/\b.length<=1000000000000/\(SV.eW [n e (eZ b),SV.si .u32 (XA a d x.toNat % l)]).same (SV.eW [n e (ki (bC a / d)),SV.si .u32 (bC a % d)]))) (by kernel_rfl) ?_
 simp only[vcs]
 have p:∀{u v:List Int},u=v->(cC.row (.i .u32) u 161 true).same (cC.row (.i .u32) v 161 true):=by rintro _ _ rfl;rfl
 have G:∀{u v:Nat},u=v->(SV.ow 0 u 1).same (SV.ow 0 v 1):=by rintro _ _ rfl;rfl
 have e:YF a d 0=List.replicate a.length 0:=by simp[YF,DJ]
 have f:XA a d 0=0:=by simp[XA,DJ]
 refine⟨by omega,by omega,by omega,by omega,⟨⟨⟨G (by simp_all),f.symm⟩,p (by simp_all)⟩,by omega,by omega⟩,?_⟩
 rintro i ⟨i0,Z⟩
 have l1:=@avi a d i.toNat (by omega)
 have M:=fun h=>@avi a d (i+1).toNat h
 have P:d % 18446744073709551616=d:=by omega
 refine⟨fun N=>?_,fun Q=>?_⟩
 ·have U:((a.length:Int) - 1 - i).toNat=a.length - 1 - i.toNat:=by omega
  have R:a.length - i.toNat=a.length - 1 - i.toNat+1:=by omega
  have W:a.length - (i+1).toNat=a.length - 1 - i.toNat:=by omega
  have X:YF a d i.toNat=List.replicate (a.length - 1 - i.toNat+1) 0++(DJ d (a.drop (a.length - 1 - i.toNat+1))).1:=by grind[YF]
  have I:XA a d i.toNat=(DJ d (a.drop (a.length - 1 - i.toNat+1))).2:=by grind[XA]
  have l:YF a d (i+1).toNat=List.replicate (a.length - 1 - i.toNat) 0++(DJ d (a.drop (a.length - 1 - i.toNat))).1:=by grind[YF]
  have m:XA a d (i+1).toNat=(DJ d (a.drop (a.length - 1 - i.toNat))).2:=by grind[XA]
  have E:a.length - 1 - i.toNat<a.length:=by omega
  rw[U]
  have l3:=M (by omega)
  generalize a.length - 1 - i.toNat=k at*
  have D:=drop_cons E
  have t:df (a.drop k):=fun z F=>o z (List.mem_of_mem_drop F)
  obtain⟨q1,O,q3⟩:=alG n w (a:=a.drop (k+1)) (fun z F=>o z (List.mem_of_mem_drop F))
  obtain⟨y,B,p3⟩:=alG n w t
  rw[D] at l m y B;simp only[DJ] at l m y B
  have q:=ri o k
  rw[<-I] at l m y B O
  have S:XA a d i.toNat*4294967296 % 18446744073709551616=XA a d i.toNat*4294967296:=by omega
  have V:bo a k 0 % 18446744073709551616=bo a k 0:=by omega
  rw[S,V,P,ao7 (by omega) (by omega) q.1 q.2]
  have s:0<=XA a d i.toNat*4294967296+bo a k 0:=by omega
  rw[Int.tdiv_eq_ediv_of_nonneg s,Int.tmod_eq_emod_of_nonneg s]
  have J:=(J9.1 y).1
  have T:(XA a d i.toNat*4294967296+bo a k 0) / d % 4294967296=(XA a d i.toNat*4294967296+bo a k 0) / d:=Int.emod_eq_of_lt J.1 J.2
  grind[u64_in,avj]
 ·have hi:a.length - i.toNat=0:=by omega
  have X:YF a d i.toNat=(DJ d a).1:=by grind[YF]
  have I:XA a d i.toNat=(DJ d a).2:=by grind[XA]
  obtain⟨k1,k2⟩:=aC9 n w o
  have Y:=Int.emod_nonneg (bC a) (show d≠0 by omega)
  have hl:=Int.emod_lt_of_pos (bC a) n
  grind
def sr (x y:Int):Int:=(Nat.gcd x.toNat y.toNat:Nat)
theorem aDb {x y:Int} (h0:0<=x) (h1:0<y):sr y (x % y)=sr x y:=by
 unfold sr
 congr 1
 rw[Nat.gcd_comm x.toNat,Nat.gcd_rec y.toNat x.toNat,Nat.gcd_comm,Int.toNat_emod h0 (by omega)]
theorem aDc {x:Int} (h0:0<=x):sr x 0=x:=by unfold sr;simp;omega
def ET:Nat->Int->List Int
 |0,_=>[]
 |k+1,x=>x % 4294967296::ET k (x / 4294967296)
theorem ai3:∀{k:Nat} {x:Int},(ET k x).length=k
 |0,_=>rfl
 |k+1,x=>by simp[ET,ai3]
theorem ao9:∀{k:Nat} {x:Int},df (ET k x)
 |0,_=>by simp[ET,df]
 |k+1,x=>J9.2 ⟨by omega,ao9⟩
theorem avk:∀{l:List Int},df l->ET l.length (bC l)=l
 |[],_=>rfl
 |d::l,h=>by
  obtain⟨e,b⟩:=J9.1 h
  simp only[List.length_cons,ET,bC]
  have c:(d+4294967296*bC l) % 4294967296=d:=by omega
  have a:(d+4294967296*bC l) / 4294967296=bC l:=by omega
  rw[c,a,avk b]
theorem apa {l:List Int} {k:Nat} {x:Int} (h:df l) (b:l.length=k) (a:bC l=x):l=ET k x:=by
 grind[avk]
theorem pow_pos (k:Nat):(0:Int)<4294967296^k:=Int.pow_pos (by decide)
theorem apb:∀{k:Nat} {x:Int},0<=x->x<4294967296^k->bC (ET k x)=x
 |0,x,b,a=>by grind[ET,bC]
 |k+1,x,b,a=>by
  rw[Int.pow_succ] at a;simp only[ET,bC]
  rw[apb (k:=k) (x:=x / 4294967296) (by omega) (by omega)]
  omega
theorem apc:∀{a b:List Int},bC (a++b)=bC a+4294967296^a.length*bC b
 |[],b=>by simp[bC]
 |d::l,b=>by
  simp only[List.cons_append,bC,apc,List.length_cons,Int.pow_succ,Int.mul_add]
  grind
theorem aeZ:∀{l:List Int} {j:Nat} {v:Int},j<l.length->bC (l.set j v)=bC l+4294967296^j*(v - bo l j 0)
 |[],_,_,h=>by simp at h
 |d::l,0,v,_=>by grind[bC,bo]
 |d::l,j+1,v,h=>by
  have a:=@aeZ l j v (by simpa using h)
  grind[bo,bC]
theorem aaS {l:List Int} {j:Nat} {v:Int} (h:df l) (c:0<=v) (b:v<4294967296):df (l.set j v):=by
 intro d a
 rcases List.mem_or_eq_of_mem_set a with a|rfl
 ·exact h d a
 omega
theorem ai4 {a:List Int} (h:df a) (n:Nat):df (a.drop n):=fun d b=>h d (List.mem_of_mem_drop b)
theorem avl {a b:List Int} (e:df a) (c:df b):df (a++b):=fun d f=>by
 rcases List.mem_append.1 f with h|h
 ·exact e d h
 ·exact c d h
theorem aef {l:List Int} {j:Nat} {v:Int} (h:j<l.length):bo (l.set j v) j 0=v:=by
 grind[bo]
theorem ach {l:List Int} {i j:Nat} {v:Int} (h:i≠j):bo (l.set i v) j 0=bo l j 0:=by
 grind[bo]
theorem ai5:∀{l:List Int} {i j:Nat},df l->bC l<4294967296^i->i<=j->bo l j 0=0
 |[],_,_,_,_,_=>by simp[bo]
 |d::l,0,j,h,a,c=>by
  obtain⟨e,b⟩:=J9.1 h
  have:=uD b
  simp only[bC,Int.pow_zero] at a
  have f:d=0:=by omega
  have g:bC l=0:=by omega
  cases j with
  |zero=>simp[bo,f]
  |succ j=>
   have:=ai5 (l:=l) (i:=0) (j:=j) b (by simp;omega) (by omega)
   grind[bo]
 |d::l,i+1,j,h,a,c=>by
  obtain⟨e,b⟩:=J9.1 h
  cases j with
  |zero=>omega
  |succ j=>
   rw[Int.pow_succ] at a;simp only[bC] at a
   have:=ai5 (l:=l) (i:=i) (j:=j) b (by omega) (by omega)
   grind[bo]
def Fj (o b:List Int) (x:Int) (i:Nat):Nat->List Int×Int
 |0=>(o,0)
 |k+1=>((Fj o b x i k).1.set (i+k) ((x*bo b k 0+bo (Fj o b x i k).1 (i+k) 0+(Fj o b x i k).2) % 4294967296),(x*bo b k 0+bo (Fj o b x i k).1 (i+k) 0+(Fj o b x i k).2) / 4294967296)
theorem avm {o b:List Int} {x:Int} {i:Nat} (d:df o) (g:df b) (f:0<=x) (m:x<4294967296):∀{k:Nat},i+k<=o.length->
  df (Fj o b x i k).1/\(Fj o b x i k).1.length=o.length/\(0<=(Fj o b x i k).2/\(Fj o b x i k).2<4294967296)/\(∀j,i+k<=j->bo (Fj o b x i k).1 j 0=bo o j 0)/\
  bC (Fj o b x i k).1+4294967296^(i+k)*(Fj o b x i k).2=bC o+4294967296^i*(x*bC (b.take k))
 |0,h=>by simp[Fj,d,bC]
 |k+1,h=>by
  obtain⟨l,t,⟨v,s⟩,u,r⟩:=@avm o b x i d g f m k (by omega)
  simp only[Fj]
  generalize (Fj o b x i k).1=p at*
  generalize (Fj o b x i k).2=c at*
  have a:=ri g k
  have q:=ri l (i+k)
  have n:0<=x*bo b k 0:=Int.mul_nonneg f a.1
  have e:x*bo b k 0<=4294967295*4294967295:=Int.mul_le_mul (by omega) (by omega) a.1 (by omega)
  grind[aaS,aeZ,YE,bo]
theorem YP {i u v:Nat} (h:u=v):(SV.ow i u 1).same (SV.ow i v 1):=by subst h;rfl
theorem avn {l:List Int} (h:l=[]):(SV.row (.i .i64) []).same (SV.row (.i .u32) l):=by subst h;rfl
def sbO (x y:Int):SV:=.eW [.row (.i .u32) (ki (x - y)),.sb (decide (y<=x))]
theorem apd {n:Int} (h:n<=0):ki n=[]:=by
 unfold ki
 rw[show n.toNat=0 by omega]
 rfl
def ape:fN:=⟨110,List Int×List Int,.cons (qX (.i .u32)) (.one (qX (.i .u32))),fun a=>(df a.1/\df a.2)/\a.1.length<=100000000000/\a.2.length<=100000000000,
 fun a=>sbO (bC a.1) (bC a.2)⟩
def aDe (a:List Int×List Int):Nat->jW
 |7=> .inv (Int×Int×List Int) (fun x=>⟨[(0,.row (.i .u32) (eZ a.1)),(1,.row (.i .u32) (eZ a.2)),(6,.ow 0 x.2.2.length 1),(7,.si .u64 x.2.1),(22,.si .i64 (eZ a.1).length),(23,.si .i64 x.1)],[.row (.i .u32) x.2.2 161 true]⟩)
  (fun s=>(iS s 23,iS s 7,oS (.i .u32) s 0))
  (fun x=>(0<=x.1/\x.1<=(eZ a.1).length)/\(0<=x.2.1/\x.2.1<=1)/\df x.2.2/\x.2.2.length=(eZ a.1).length/\(∀j,x.1.toNat<=j->bo x.2.2 j 0=0)/\
   bC x.2.2 - 4294967296^x.1.toNat*x.2.1=bC ((eZ a.1).take x.1.toNat) - bC ((eZ a.2).take x.1.toNat)) (fun x=>((eZ a.1).length - x.1).toNat) fun _ _=> .look
 |_=> .look
theorem avo {s t row:List Int} {i:Nat} {br d v c:Int} (hs:df s) (ht:df t) (hr:df row) (hl:row.length=s.length) (hz:∀j,i<=j->bo row j 0=0)
  (hv:bC row - 4294967296^i*br=bC (s.take i) - bC (t.take i)) (hi:i<s.length) (hd:d=bo s i 0 - br - bo t i 0) (h0:0<=v/\v<4294967296) (hc:v - 4294967296*c=d):
  df (row.set i v)/\(row.set i v).length=s.length/\(∀j,i+1<=j->bo (row.set i v) j 0=0)/\bC (row.set i v) - 4294967296^(i+1)*c=bC (s.take (i+1)) - bC (t.take (i+1)):=by
 refine⟨aaS hr h0.1 h0.2,by simp[hl],fun j hj=>by rw[ach (by omega)];exact hz j (by omega),?_⟩
 rw[aeZ (by omega),YE,YE,hz i (Nat.le_refl _),Int.pow_succ,Int.sub_zero]
 have h1:(4294967296:Int)^i*(v - 4294967296*c)=4294967296^i*(bo s i 0 - br - bo t i 0):=by rw[hc,hd]
 simp only[Int.mul_sub] at h1;rw[<-Int.mul_assoc] at h1;omega
theorem h155:Holds Tryz.prog ape:=by
 refine lj (L:=[adx,ahp]) ape aDe (by simpa using⟨h152,h132⟩) ?_
 rintro⟨a,b⟩ ⟨⟨ha,hb⟩,hla,hlb⟩
 simp only at ha hb hla hlb
 refine gw (let c:=(0:Int);let d:=(18446744073709551616:Int);let e:=SV.row;let f:=(4294967296:Int);let g:=SV.si .i64;let h:=(1:Int);let k:=SV.ow;let l:=SV.eW;let z0:Nat:=(eZ a).length;let B:=decide (YC (bC (eZ a)) (bC (eZ b))<c);let m:=bD.i .u32;let C:=l [e m (ki (bC a - bC b)),SV.sb (decide (bC b<=bC a))];let o:=(↑(eZ a).length:Int);let q:=List.replicate o.toNat c;let p:=(↑z0:Int);let z:=g p;let D:=cC.row m q 161 true;let A:=(↑(eZ b).length:Int);a.length<=1000000000000/\b.length<=1000000000000/\((df (eZ a)/\df (eZ b))/\z0<=1000000000000/\(eZ b).length<=1000000000000)/\(B=true->(l [e (bD.i .i64) [],SV.bl false]).same C)/\(B=false->c<=o/\o<=o/\o*(4:Int)<=(140737488355328:Int)/\o<=(1000000000000:Int)/\((((e m (eZ a)).same (e m (eZ a))/\(e m (eZ b)).same (e m (eZ b))/\(k 0 o.toNat 1).same (k 0 q.length 1)/\(SV.il .u64 0).same (SV.si .u64 0)/\(g o).same z/\(SV.il .i64 0).same (g 0)/\True)/\D.same D/\True)/\(c<=c/\c<=p)/\(c<=c/\c<=h)/\df q/\q.length=z0/\(∀(j:Nat),0<=j->bo q j c=c)/\bC q - c=c)/\∀(x:Int×Int×List Int),let r:=x.snd.snd.length;let v:=x.snd.snd.length;let n:=x.fst.toNat;let s:=x.fst+h;let E:=g s;let w:=s.toNat;let F:=bo (eZ a) n c;let G:=fun(u u_1:Int) ↦let H:=(u % d - u_1) % d;let t:=x.snd.snd.set n (H % f);let y:=H / (9223372036854775808:Int);let I:=SV.si .u64 y;let J:=cC.row m t 161 true;c<=(63:Int)/\(63:Int)<=(64:Int)/\r=v/\c<=x.fst/\x.fst<(↑v:Int)/\r=v/\n<v/\iR .i64 s/\(((e m (eZ a)).same (e m (eZ a))/\(e m (eZ b)).same (e m (eZ b))/\(k 0 r 1).same (k 0 t.length 1)/\I.same I/\z.same z/\E.same E/\True)/\J.same J/\True)/\((c<=s/\s<=p)/\(c<=y/\y<=h)/\df t/\t.length=z0/\(∀(j:Nat),w<=j->bo t j c=c)/\bC t - f^w*y=bC (List.take w (eZ a)) - bC (List.take w (eZ b)))/\(p - s).toNat<(p - x.fst).toNat;(c<=x.fst/\x.fst<=p)/\(c<=x.snd.fst/\x.snd.fst<=h)/\df x.snd.snd/\r=z0/\(∀(j:Nat),n<=j->bo x.snd.snd j c=c)/\bC x.snd.snd - f^n*x.snd.fst=bC (List.take n (eZ a)) - bC (List.take n (eZ b))->(decide (x.fst<p)=true->c<=x.fst/\x.fst<o/\n<(eZ a).length/\(decide (x.fst<A)=true->c<=x.fst/\x.fst<A/\n<(eZ b).length/\G (F % d - x.snd.fst) (bo (eZ b) n c % d))/\(decide (x.fst<A)=false->G F x.snd.fst))/\(decide (x.fst<p)=false->r=v/\r<=1000000000000/\(l [e m (eZ x.snd.snd),SV.bl true]).same C))) (by kernel_rfl) ?_
 simp only[vcs]
 obtain⟨va,na⟩:=@ady a
 obtain⟨vb,nb⟩:=@ady b
 have da:=aee ha
 have db:=aee hb
 have la:=@aeX a
 have lb:=@aeX b
 have pa:=uD da
 have pb:=uD db
 rw[<-va,<-vb]
 generalize eZ a=s at*
 generalize eZ b=t at*
 have hr0:∀n j,bo (List.replicate n (0:Int)) j 0=0:=fun n j=>by
  unfold bo;rw[List.getElem?_replicate]
  split<;>rfl
 have hd0:∀n,df (List.replicate n 0):=fun n d hd=>by
  have:=List.eq_of_mem_replicate hd
  omega
 have hv0:∀n,bC (List.replicate n 0)=0:=fun n=>by
  induction n with
  |zero=>rfl
  |succ n ih=>simp only[List.replicate_succ,bC,ih];omega
 refine⟨by omega,by omega,⟨⟨da,db⟩,by omega,by omega⟩,fun hlt=>?_,fun hge=>⟨by omega,by omega,by omega,by omega,?_,?_⟩⟩
 ·have hlt2:bC s<bC t:=by unfold YC at hlt;split at hlt<;>(try split at hlt)<;>omega
  refine⟨avn (apd (by omega)),?_⟩
  rw[eq_comm,decide_eq_false_iff_not];omega
 ·repeat' refine And.intro ?_ ?_
  all_goals first|omega|exact YP (by simp)|exact hd0 _|exact fun j _=>hr0 _ j|(simp;done)|(rw[hv0];rfl)
 have avp:bC t<=bC s:=by unfold YC at hge;split at hge<;>(try split at hge)<;>omega
 rintro⟨i,br,row⟩ ⟨⟨i0,i1⟩,⟨b0,b1⟩,hr,hl,hz,hv⟩
 simp only at i0 i1 b0 b1 hr hl hz hv ⊢
 refine⟨fun ilt=>?_,fun ige=>?_⟩
 ·have d1:=ri da i.toNat
  have d2:=ri db i.toNat
  have e:(i+1).toNat=i.toNat+1:=by omega
  refine⟨i0,ilt,by omega,fun ht=>?_,fun ht=>?_⟩
  ·generalize hq:((bo s i.toNat 0 % 18446744073709551616 - br) % 18446744073709551616 - bo t i.toNat 0 % 18446744073709551616) % 18446744073709551616=q
   obtain⟨k1,k2,k3,k4⟩:=avo (v:=q % 4294967296) (c:=q / 9223372036854775808) da db hr hl hz hv (by omega) rfl (by omega) (by omega)
   rw[e]
   repeat' refine And.intro ?_ ?_
   all_goals first|omega|exact YP (by simp)|exact k1|exact k2|exact k3|exact k4
  ·have hz2:=alE (a:=t) (i:=i.toNat) (by omega)
   generalize hq:(bo s i.toNat 0 % 18446744073709551616 - br) % 18446744073709551616=q
   obtain⟨k1,k2,k3,k4⟩:=avo (v:=q % 4294967296) (c:=q / 9223372036854775808) da db hr hl hz hv (by omega) rfl (by omega) (by omega)
   rw[e]
   repeat' refine And.intro ?_ ?_
   all_goals first|omega|exact YP (by simp)|exact k1|exact k2|exact k3|exact k4
 ·have hi:i.toNat=s.length:=by omega
  have hlen:t.length<=s.length:=by
   by_cases h:s.length<t.length
   ·have:=aho da db nb h
    omega
   ·omega
  rw[hi,List.take_length,List.take_of_length_le hlen] at hv
  have hbd:=abo hr
  have hp:=pow_pos s.length
  rw[hl] at hbd
  have hb0:br=0:=by
   by_cases h:br=0
   ·exact h
   ·have:br=1:=by omega
    subst this;omega
  rw[hb0,Int.mul_zero,Int.sub_zero] at hv
  refine⟨by omega,?_,?_⟩
  ·rw[acU hr,hv]
  ·rw[eq_comm,decide_eq_true_eq]
   exact avp
theorem avq {n j:Nat}:bo (List.replicate n (0:Int)) j 0=0:=by
 unfold bo;rw[List.getElem?_replicate]
 split<;>rfl
theorem ai6 {n:Nat}:df (List.replicate n 0):=fun d hd=>by
 have:=List.eq_of_mem_replicate hd
 omega
theorem ahr:∀{n:Nat},bC (List.replicate n 0)=0
 |0=>rfl
 |n+1=>by simp only[List.replicate_succ,bC,@ahr n];omega
theorem aDf {o b:List Int} {x:Int} {i k:Nat}:Fj o b x i (k+1)=((Fj o b x i k).1.set (i+k) ((x*bo b k 0+bo (Fj o b x i k).1 (i+k) 0+(Fj o b x i k).2) % 4294967296),(x*bo b k 0+bo (Fj o b x i k).1 (i+k) 0+(Fj o b x i k).2) / 4294967296):=rfl
def ahs:fN:=⟨108,List Int×List Int,.cons (qX (.i .u32)) (.one (qX (.i .u32))),fun a=>(df a.1/\df a.2)/\a.1.length<=100000000000/\a.2.length<=100000000000,
 fun a=> .row (.i .u32) (ki (bC a.1*bC a.2))⟩
def stM (a:List Int×List Int) (row:List Int):ie:=[.row (.i .u32) row 161 true]
def aDg (a:List Int×List Int):Nat->jW
 |3=> .inv (Int×List Int) (fun x=>⟨[(0,.row (.i .u32) a.1),(1,.row (.i .u32) a.2),(5,.ow 0 x.2.length 1),(17,.si .i64 a.1.length),(18,.si .i64 x.1)],stM a x.2⟩)
  (fun s=>(iS s 18,oS (.i .u32) s 0))
  (fun x=>(0<=x.1/\x.1<=a.1.length)/\df x.2/\x.2.length=a.1.length+a.2.length/\bC x.2=bC (a.1.take x.1.toNat)*bC a.2) (fun x=>(a.1.length - x.1).toNat)
  fun x=>fun
   |7=> .inv (Int×Int×List Int) (fun y=>⟨[(0,.row (.i .u32) a.1),(1,.row (.i .u32) a.2),(5,.ow 0 y.2.2.length 1),(6,.si .i64 x.1),(7,.si .u64 y.2.1),(17,.si .i64 a.1.length),(18,.si .i64 x.1),(22,.si .i64 a.2.length),(23,.si .i64 y.1)],stM a y.2.2⟩)
    (fun s=>(iS s 23,iS s 7,oS (.i .u32) s 0))
    (fun y=>(0<=y.1/\y.1<=a.2.length)/\y.2.2=(Fj x.2 a.2 (bo a.1 x.1.toNat 0) x.1.toNat y.1.toNat).1/\y.2.1=(Fj x.2 a.2 (bo a.1 x.1.toNat 0) x.1.toNat y.1.toNat).2) (fun y=>(a.2.length - y.1).toNat) fun _ _=> .look
   |_=> .look
 |_=> .look
theorem h153:Holds Tryz.prog ahs:=by
 refine lj (L:=[adx]) ahs aDg (by simpa using h152) ?_
 rintro⟨a,b⟩ ⟨⟨ha,hb⟩,hla,hlb⟩
 simp only at ha hb hla hlb
 refine gw (let c:=(18446744073709551616:Int);let d:=(0:Int);let e:=SV.row;let f:=SV.si .i64;let g:=(4294967296:Int);let h:=iR .i64;let j:=SV.ow;let k:=SV.il .i64 0;let l:=cC.row;let F:=(↑a.length:Int);let z:=(↑b.length:Int);let p:=F+z;let m:=bD.i .u32;let A:=List.replicate p.toNat d;let q:=(↑a.length:Int);let t:=f q;let J:=l m A 161 true;let G:=a.length+b.length;let r:=(↑b.length:Int);let H:=f r;h p/\d<=p/\p<=p/\p*(4:Int)<=(140737488355328:Int)/\p<=(1000000000000:Int)/\((((e m a).same (e m a)/\(e m b).same (e m b)/\(j 0 p.toNat 1).same (j 0 A.length 1)/\(f F).same t/\(k).same (f 0)/\True)/\J.same J/\True)/\(d<=d/\d<=q)/\df A/\A.length=G/\bC A=bC []*bC b)/\∀(x:Int×List Int),let C:=x.snd.length;let v:=x.fst.toNat;let K:=j 0 C 1;let s:=f x.fst;let L:=l m x.snd 161 true;let D:=bo a v d;let M:=Fj x.snd b D v 0;let w:=x.fst+(1:Int);let N:=f w;(d<=x.fst/\x.fst<=q)/\df x.snd/\C=G/\bC x.snd=bC (List.take v a)*bC b->(decide (x.fst<q)=true->((((e m a).same (e m a)/\(e m b).same (e m b)/\K.same K/\s.same s/\(SV.il .u64 0).same (SV.si .u64 0)/\t.same t/\s.same s/\(f z).same H/\(k).same (f 0)/\True)/\L.same L/\True)/\(d<=d/\d<=r)/\x.snd=M.fst/\d=M.snd)/\∀(x_1:Int×Int×List Int),let O:=Fj x.snd b D v x_1.fst.toNat;let o:=x.fst+x_1.fst;let n:=x_1.snd.snd.length;let y:=x_1.fst+(1:Int);let P:=j 0 x_1.snd.snd.length 1;let I:=((D % c*(bo b x_1.fst.toNat d % c) % c+bo x_1.snd.snd o.toNat d % c) % c+x_1.snd.fst) % c;let Q:=x_1.snd.snd.set o.toNat (I % g);let R:=I / g;let S:=SV.si .u64 R;let T:=f y;let U:=Fj x.snd b D v y.toNat;let B:=x.fst+z;let E:=x_1.snd.snd.set B.toNat (x_1.snd.fst % g);let V:=fun(u u_1:Int) ↦let W:=l m (x_1.snd.snd.set (x.fst+u).toNat (u_1 % g)) 161 true;W.same W/\True;(d<=x_1.fst/\x_1.fst<=r)/\x_1.snd.snd=O.fst/\x_1.snd.fst=O.snd->(decide (x_1.fst<r)=true->d<=x.fst/\x.fst<F/\v<a.length/\d<=x_1.fst/\x_1.fst<z/\x_1.fst.toNat<b.length/\h o/\x_1.snd.snd.length=n/\d<=o/\o<(↑n:Int)/\x_1.snd.snd.length=n/\o.toNat<n/\h o/\d<=(32:Int)/\(32:Int)<=(64:Int)/\x_1.snd.snd.length=n/\d<=o/\o<(↑n:Int)/\x_1.snd.snd.length=n/\o.toNat<n/\h y/\(((e m a).same (e m a)/\(e m b).same (e m b)/\P.same (j 0 Q.length 1)/\s.same s/\S.same S/\t.same t/\s.same s/\H.same H/\T.same T/\True)/\V x_1.fst I)/\((d<=y/\y<=r)/\Q=U.fst/\R=U.snd)/\(r - y).toNat<(r - x_1.fst).toNat)/\(decide (x_1.fst<r)=false->h B/\x_1.snd.snd.length=n/\d<=B/\B<(↑n:Int)/\x_1.snd.snd.length=n/\B.toNat<n/\h w/\(((e m a).same (e m a)/\(e m b).same (e m b)/\P.same (j 0 E.length 1)/\t.same t/\N.same N/\True)/\V z x_1.snd.fst)/\((d<=w/\w<=q)/\df E/\E.length=G/\bC E=bC (List.take w.toNat a)*bC b)/\(q - w).toNat<(q - x.fst).toNat))/\(decide (x.fst<q)=false->C=x.snd.length/\C<=1000000000000/\(e m (eZ x.snd)).same (e m (ki (bC a*bC b))))) (by kernel_rfl) ?_
 simp only[vcs]
 refine⟨by omega,by omega,by omega,by omega,by omega,?_,?_⟩
 ·repeat' refine And.intro ?_ ?_
  all_goals first|omega|exact YP (by simp)|exact ai6|(simp;omega)|(rw[ahr];simp[bC])
 rintro⟨i,row⟩ ⟨⟨i0,i1⟩,hr,hl,hv⟩
 simp only at i0 i1 hr hl hv ⊢
 refine⟨fun ilt=>⟨⟨⟨by omega,by omega⟩,rfl,rfl⟩,?_⟩,fun ige=>?_⟩
 ·rintro⟨k,c,ro⟩ ⟨⟨k0,k1⟩,e1,e2⟩
  simp only at k0 k1 e1 e2 ⊢
  have x1:=ri ha i.toNat
  obtain⟨m1,m2,⟨m3,m4⟩,m5,m6⟩:=@avm row b (bo a i.toNat 0) i.toNat hr hb x1.1 x1.2 k.toNat (by omega)
  have hp:=@aDf row b (bo a i.toNat 0) i.toNat k.toNat
  generalize Fj row b (bo a i.toNat 0) i.toNat k.toNat=M at*
  obtain⟨p,q⟩:=M
  simp only at e1 e2 m1 m2 m3 m4 m5 m6 hp
  subst e1 e2
  have hik:(i+k).toNat=i.toNat+k.toNat:=by omega
  have hk1:(k+1).toNat=k.toNat+1:=by omega
  have hi1:(i+1).toNat=i.toNat+1:=by omega
  refine⟨fun klt=>?_,fun kge=>?_⟩
  ·have x2:=ri hb k.toNat
   have x3:=ri m1 (i.toNat+k.toNat)
   have hxb:0<=bo a i.toNat 0*bo b k.toNat 0:=Int.mul_nonneg x1.1 x2.1
   have aHO:bo a i.toNat 0*bo b k.toNat 0<=4294967295*4294967295:=Int.mul_le_mul (by omega) (by omega) x2.1 (by omega)
   rw[hik,hk1,hp]
   have hq:(((bo a i.toNat 0 % 18446744073709551616*(bo b k.toNat 0 % 18446744073709551616) % 18446744073709551616+bo ro (i.toNat+k.toNat) 0 % 18446744073709551616) % 18446744073709551616+c) % 18446744073709551616)=bo a i.toNat 0*bo b k.toNat 0+bo ro (i.toNat+k.toNat) 0+c:=by
    rw[Int.emod_eq_of_lt (a:=bo a i.toNat 0) (by omega) (by omega),Int.emod_eq_of_lt (a:=bo b k.toNat 0) (by omega) (by omega)]
    omega
   rw[hq]
   repeat' refine And.intro ?_ ?_
   all_goals first|omega|exact YP (by simp)|rfl
  ·have hkl:k.toNat=b.length:=by omega
   rw[show(i+(b.length:Int)).toNat=i.toNat+b.length by omega]
   rw[hkl,List.take_length] at m6;rw[hkl] at m5
   have hz:bo ro (i.toNat+b.length) 0=0:=by
    rw[m5 _ (Nat.le_refl _)]
    refine ai5 hr (i:=i.toNat+b.length) ?_ (Nat.le_refl _)
    rw[hv,Int.pow_add]
    have t1:=abo (aaR ha i.toNat)
    rw[List.length_take,Nat.min_eq_left (by omega)] at t1
    have t2:=abo hb
    have t3:=uD (aaR ha i.toNat)
    have t4:=uD hb
    exact Int.lt_of_le_of_lt (Int.mul_le_mul_of_nonneg_left (Int.le_of_lt t2) t3) (Int.mul_lt_mul_of_pos_right t1 (pow_pos _))
   have hc:c % 4294967296=c:=by omega
   rw[hc,hi1]
   have hfin:bC (ro.set (i.toNat+b.length) c)=bC (a.take (i.toNat+1))*bC b:=by
    rw[aeZ (by omega),hz,Int.sub_zero,m6,hv,YE,Int.add_mul,Int.mul_assoc]
   repeat' refine And.intro ?_ ?_
   all_goals first|omega|exact YP (by simp)|exact aaS m1 m3 m4|exact hfin|(rw[List.length_set];omega)
 ·have hi:i.toNat=a.length:=by omega
  rw[hi,List.take_length] at hv
  refine⟨by omega,?_⟩
  rw[acU hr,hv]
theorem avr {x m:Int} {k:Nat} (p:0<=x) (t:x<2^k) (o:0<=m) (j:m*2^k<4294967296) (u:x<4294967296):B2.orI .u32 x (m*2^k)=x+m*2^k:=by
 obtain⟨a,rfl⟩:=Int.eq_ofNat_of_zero_le p
 obtain⟨b,rfl⟩:=Int.eq_ofNat_of_zero_le o
 have e:((b:Int)*2^k)=((2^k*b:Nat):Int):=by grind
 have h:a<2^k:=by grind
 rw[e] at j ⊢
 generalize i:2^k*b=c at*
 have d:c<4294967296:=by omega
 have f:a<4294967296:=by omega
 have q:(BitVec.ofInt 32 ((a:Nat):Int)).toNat=a:=by simp_all
 have r:(BitVec.ofInt 32 ((c:Nat):Int)).toNat=c:=by simp_all
 have g:a |||c=a+c:=by
  rw[Nat.or_comm,<-i,<-Nat.two_pow_add_eq_or_of_lt h];omega
 have l:a+c<4294967296:=by
  rw[<-g]
  exact Nat.or_lt_two_pow (n:=32) f d
 have s:(BitVec.ofInt 32 ((a:Nat):Int) |||BitVec.ofInt 32 ((c:Nat):Int)).toNat=a+c:=by
  grind
 show um .u32 ((BitVec.ofInt 32 ((a:Nat):Int) |||BitVec.ofInt 32 ((c:Nat):Int)).toNat:Nat)=_
 grind[aeB,IntKind.wrap,IntKind.bits,IntKind.signed]
theorem apf:∀{l:List Int} {i:Nat},df l->4294967296^i*bo l i 0<=bC l
 |[],i,_=>by simp[bo,bC]
 |d::l,0,h=>by
  obtain⟨b,a⟩:=J9.1 h
  have:=uD a
  grind[bo,bC]
 |d::l,i+1,h=>by
  obtain⟨b,a⟩:=J9.1 h
  have:=@apf l i a
  have e:bo (d::l) (i+1) 0=bo l i 0:=by simp[bo]
  rw[e,Int.pow_succ,Int.mul_comm (4294967296^i),Int.mul_assoc]
  grind[bC]
theorem avt {a b:List Int} {i k:Nat} (n:df a) (e:df b) (F:b.length=a.length+1) (G:i<a.length) (u:k<=31) (q:bC b=bC (a.take i)*2^k):
  df ((b.set i (B2.orI .u32 (bo b i 0) (bo a i 0 % 18446744073709551616*2^k % 18446744073709551616 % 4294967296))).set (i+1) (bo a i 0 % 18446744073709551616*2^k % 18446744073709551616 / 4294967296 % 4294967296))/\
  bC ((b.set i (B2.orI .u32 (bo b i 0) (bo a i 0 % 18446744073709551616*2^k % 18446744073709551616 % 4294967296))).set (i+1) (bo a i 0 % 18446744073709551616*2^k % 18446744073709551616 / 4294967296 % 4294967296))=bC (a.take (i+1))*2^k:=by
 have x:=ri n i
 have r:=ri e i
 have c:(0:Int)<2^k:=Int.pow_pos (by decide)
 have A:(2:Int)^k<=2147483648:=by
  have D:(2:Nat)^k<=2^31:=Nat.pow_le_pow_right (by decide) u
  grind
 have w:(4294967296:Int)=2^(32 - k)*2^k:=by
  rw[<-Int.pow_add,show 32 - k+k=32 by omega]
  decide
 have B:(0:Int)<2^(32 - k):=Int.pow_pos (by decide)
 have v:0<=bo a i 0*2^k:=Int.mul_nonneg x.1 (Int.le_of_lt c)
 have H:bo a i 0*2^k<4294967296*2^k:=Int.mul_lt_mul_of_pos_right x.2 c
 have z:bo a i 0 % 18446744073709551616*2^k % 18446744073709551616=bo a i 0*2^k:=by
  rw[Int.emod_eq_of_lt (a:=bo a i 0) (by omega) (by omega),Int.emod_eq_of_lt v (by omega)]
 have o:bo a i 0*2^k % 4294967296=(bo a i 0 % 2^(32 - k))*2^k:=by
  conv=>lhs;rw[w]
  rw[Int.mul_comm (bo a i 0),Int.mul_comm (2^(32 - k)),Int.mul_emod_mul_of_pos _ _ c,Int.mul_comm]
 have p:=Int.emod_nonneg (bo a i 0) (show(2:Int)^(32 - k)≠0 by omega)
 have E:=Int.emod_lt_of_pos (bo a i 0) B
 have s:=pow_pos i
 have d:bC b<4294967296^i*2^k:=by
  rw[q]
  have:=abo (aaR n i)
  rw[List.length_take,Nat.min_eq_left (by omega)] at this
  simp_all
 have h:bo b i 0<2^k:=Int.lt_of_mul_lt_mul_left (Int.lt_of_le_of_lt (apf e) d) (Int.le_of_lt s)
 have m:bo b (i+1) 0=0:=by
  refine ai5 e (i:=i+1) ?_ (Nat.le_refl _)
  rw[Int.pow_succ]
  exact Int.lt_of_lt_of_le d (Int.mul_le_mul_of_nonneg_left (by omega) (Int.le_of_lt s))
 have f:(bo a i 0 % 2^(32 - k))*2^k+2^k<=4294967296:=by
  have:(bo a i 0 % 2^(32 - k)+1)*2^k<=2^(32 - k)*2^k:=Int.mul_le_mul_of_nonneg_right (by omega) (Int.le_of_lt c)
  grind
 have l:0<=(bo a i 0 % 2^(32 - k))*2^k:=Int.mul_nonneg p (Int.le_of_lt c)
 have g:=avr (k:=k) r.1 h p (by omega) r.2
 rw[z,o,g]
 generalize y:bo a i 0*2^k=t at*
 have j:(bo a i 0 % 2^(32 - k))*2^k=t % 4294967296:=o.symm
 rw[j] at f l ⊢
 refine⟨aaS (aaS e (by omega) (by omega)) (by omega) (by omega),?_⟩
 rw[aeZ (by simp;omega),aeZ (by omega),ach (by omega),m,YE,Int.add_mul,Int.mul_assoc,y,q,Int.pow_succ]
 have C:t / 4294967296 % 4294967296=t / 4294967296:=by omega
 grind
def shl (a:List Int) (k:Nat):List Int:=ET (a.length+1) (bC a*2^k)
abbrev ShA:=List Int×Int
def shD (a:ShA):Prop:=df a.1/\a.1.length<=100000000000/\0<=a.2/\a.2<=31
def apg:fN:=⟨167,List Int×Int,.cons (qX (.i .u32)) (.one (sj .u64)),shD,fun a=> .row (.i .u32) (shl a.1 a.2.toNat)⟩
def aph:ob where
 f:=167
 α:=List Int×Int
 put a:=[.row (.i .u32) a.1,.si .u64 a.2]
 st _:=[]
 dec v o:=match v,o with
  |[v,m],[]=>match J6 (.i .u32) v,m.int .u64 with
   |some p,some m=>some (p,m)
   |_,_=>none
  |_,_=>none
 ok v o a h:=by
  split at h
  ·split at h
   ·rename_i d c
    simp only[Option.some.injEq] at h;subst h
    exact⟨by simp only[gL,abH d,EG c];rfl,rfl⟩
   ·cases h
  ·cases h
 inj a b h _:=by
  simp only[gL,List.cons.injEq,and_true] at h
  have c:=h.2
  simp only[SV.g,AV.sc.injEq,Value.int.injEq,true_and] at c
  exact Prod.ext ((qX (.i .u32)).inj _ _ h.1) c
 dom:=shD
 res a:=.ow 0 (shl a.1 a.2.toNat).length 1
 out a:=[.row (.i .u32) (shl a.1 a.2.toNat) 161 false]
def avv (a:ShA):Nat->jW
 |3=> .inv (Int×List Int) (fun x=>⟨[(0,.row (.i .u32) a.1),(1,.si .u64 a.2),(5,.ow 0 x.2.length 1),(13,.si .i64 a.1.length),(14,.si .i64 x.1)],[.row (.i .u32) x.2 161 false]⟩)
  (fun s=>(iS s 14,oS (.i .u32) s 0))
  (fun x=>(0<=x.1/\x.1<=a.1.length)/\df x.2/\x.2.length=a.1.length+1/\bC x.2=bC (a.1.take x.1.toNat)*2^a.2.toNat) (fun x=>(a.1.length - x.1).toNat) fun _ _=> .look
 |_=> .look
theorem h168:qH Tryz.prog aph:=by
 refine aos (L:=[]) (W:=[]) aph (fun _=>none) avv (by simp) (by simp) ?_
 rintro⟨a,s⟩ ⟨E,v,G,M⟩
 simp only at E v G M
 refine gw (let e:=(0:Int);let p:=(18446744073709551616:Int);let t:=(4294967296:Int);let v:=SV.si .i64;let z:=cC.row;let A:=iR .i64;let B:=SV.row;let E:=SV.ow;let w:=(↑a.length:Int);let l:=w+(1:Int);let k:=bD.i .u32;let q:=e::List.replicate a.length e;let j:=(↑a.length:Int);let C:=v j;let F:=z k q 161 false;let y:=a.length+1;let u:=(2:Int)^s.toNat;A l/\e<=l/\l<=l/\l*(4:Int)<=(140737488355328:Int)/\l<=(1000000000000:Int)/\((((B k a).same (B k a)/\(SV.si .u64 s).same (SV.si .u64 s)/\(E 0 l.toNat 1).same (E 0 q.length 1)/\(v w).same C/\(SV.il .i64 0).same (v 0)/\True)/\F.same F/\True)/\(e<=e/\e<=j)/\df q/\q.length=y/\bC q=bC []*u)/\∀(x:Int×List Int),let f:=x.snd.length;let d:=x.fst.toNat;let n:=bo a d e % p*u % p;let h:=x.snd.set d (B2.orI .u32 (bo x.snd d e) (n % t));let c:=x.snd.length;let b:=x.fst+(1:Int);let r:=E 0 f 1;let g:=h.set b.toNat (n / t % t);let m:=v b;let o:=z k g 161 false;let D:=f=h.length;(e<=x.fst/\x.fst<=j)/\df x.snd/\f=y/\bC x.snd=bC (List.take d a)*u->(decide (x.fst<j)=true->e<=x.fst/\x.fst<w/\d<a.length/\e<=s/\s<=(64:Int)/\f=c/\e<=x.fst/\x.fst<(↑c:Int)/\f=c/\d<c/\f=c/\e<=x.fst/\x.fst<(↑c:Int)/\f=c/\d<c/\A b/\e<=(32:Int)/\(32:Int)<=(64:Int)/\D/\e<=b/\b<(↑h.length:Int)/\D/\b.toNat<h.length/\A b/\(((B k a).same (B k a)/\(SV.si .u64 s).same (SV.si .u64 s)/\r.same (E 0 g.length 1)/\C.same C/\m.same m/\True)/\o.same o/\True)/\((e<=b/\b<=j)/\df g/\g.length=y/\bC g=bC (List.take b.toNat a)*u)/\(j - b).toNat<(j - x.fst).toNat)/\(decide (x.fst<j)=false->r.same (E 0 (shl a s.toNat).length 1)/\(z k x.snd 161 false).same (z k (shl a s.toNat) 161 false)/\True)) (by kernel_rfl) ?_
 simp only[vcs]
 refine⟨by omega,by omega,by omega,by omega,by omega,?_,?_⟩
 ·grind[YP,J9,ai6,bC,ahr]
 rintro⟨i,A⟩ ⟨⟨K,N⟩,z,B,t⟩
 simp only at K N z B t ⊢
 refine⟨fun I=>?_,fun H=>?_⟩
 ·obtain⟨P,O⟩:=avt E z B (show i.toNat<a.length by omega) (show s.toNat<=31 by omega) t
  have e:(i+1).toNat=i.toNat+1:=by omega
  grind[YP]
 ·have J:i.toNat=a.length:=by omega
  rw[J,List.take_length] at t
  have p:A=shl a s.toNat:=apa z B t
  rw[p]
  exact⟨rfl,rfl⟩
theorem h168p:Holds Tryz.prog apg:=by
 refine lj (L:=[]) apg avv (by simp) ?_
 rintro⟨a,s⟩ ⟨C,u,H,E⟩
 simp only at C u H E
 refine gw (let e:=(0:Int);let u:=(18446744073709551616:Int);let z:=(4294967296:Int);let A:=SV.si .i64;let B:=SV.row;let C:=iR .i64;let D:=SV.ow;let r:=(↑a.length:Int);let l:=r+(1:Int);let k:=bD.i .u32;let p:=e::List.replicate a.length e;let j:=(↑a.length:Int);let v:=A j;let w:=cC.row k p 161 false;let t:=a.length+1;let q:=(2:Int)^s.toNat;C l/\e<=l/\l<=l/\l*(4:Int)<=(140737488355328:Int)/\l<=(1000000000000:Int)/\((((B k a).same (B k a)/\(SV.si .u64 s).same (SV.si .u64 s)/\(D 0 l.toNat 1).same (D 0 p.length 1)/\(A r).same v/\(SV.il .i64 0).same (A 0)/\True)/\w.same w/\True)/\(e<=e/\e<=j)/\df p/\p.length=t/\bC p=bC []*q)/\∀(x:Int×List Int),let d:=x.snd.length;let f:=x.fst.toNat;let o:=bo a f e % u*q % u;let h:=x.snd.set f (B2.orI .u32 (bo x.snd f e) (o % z));let c:=x.snd.length;let b:=x.fst+(1:Int);let g:=h.set b.toNat (o / z % z);let m:=A b;let n:=cC.row k g 161 false;let y:=d=h.length;(e<=x.fst/\x.fst<=j)/\df x.snd/\d=t/\bC x.snd=bC (List.take f a)*q->(decide (x.fst<j)=true->e<=x.fst/\x.fst<r/\f<a.length/\e<=s/\s<=(64:Int)/\d=c/\e<=x.fst/\x.fst<(↑c:Int)/\d=c/\f<c/\d=c/\e<=x.fst/\x.fst<(↑c:Int)/\d=c/\f<c/\C b/\e<=(32:Int)/\(32:Int)<=(64:Int)/\y/\e<=b/\b<(↑h.length:Int)/\y/\b.toNat<h.length/\C b/\(((B k a).same (B k a)/\(SV.si .u64 s).same (SV.si .u64 s)/\(D 0 d 1).same (D 0 g.length 1)/\v.same v/\m.same m/\True)/\n.same n/\True)/\((e<=b/\b<=j)/\df g/\g.length=t/\bC g=bC (List.take b.toNat a)*q)/\(j - b).toNat<(j - x.fst).toNat)/\(decide (x.fst<j)=false->d=c/\(B k x.snd).same (B k (shl a s.toNat)))) (by kernel_rfl) ?_
 simp only[vcs]
 refine⟨by omega,by omega,by omega,by omega,by omega,?_,?_⟩
 ·grind[YP,J9,ai6,bC,ahr]
 rintro⟨i,F⟩ ⟨⟨J,I⟩,A,z,B⟩
 simp only at J I A z B ⊢
 refine⟨fun D=>?_,fun G=>?_⟩
 ·obtain⟨M,K⟩:=avt C A z (show i.toNat<a.length by omega) (show s.toNat<=31 by omega) B
  have e:(i+1).toNat=i.toNat+1:=by omega
  grind[YP]
 ·have N:i.toNat=a.length:=by omega
  grind[shl,apa]
def prt (U:List Int) (j k:Nat):List Int:=(U.drop j).take k
theorem avw {U:List Int} {j k:Nat}:bo (U.drop j) k 0=bo U (j+k) 0:=by
 grind[bo]
theorem YQ {U:List Int} {j k:Nat}:bC (prt U j (k+1))=bC (prt U j k)+4294967296^k*bo U (j+k) 0:=by
 grind[prt,YE,avw]
theorem ae0 {U:List Int} {j k i:Nat} {d:Int} (h:k<=i):prt (U.set (j+i) d) j k=prt U j k:=by
 unfold prt
 apply List.ext_getElem?
 grind
theorem ae1 {U:List Int} (h:df U) {j k:Nat}:df (prt U j k):=aaR (ai4 h j) k
theorem aDh {U:List Int} {j k:Nat} (h:j+k<=U.length):(prt U j k).length=k:=by
 grind[prt]
theorem afX {U:List Int} (h:df U) {j k:Nat}:bC (prt U j k)<4294967296^k:=by
 have g:=abo (ae1 h (j:=j) (k:=k))
 have e:(prt U j k).length<=k:=by grind[prt]
 have i:(4294967296:Int)^(prt U j k).length<=4294967296^k:=by
  have d:∀{a b:Nat},a<=b->(4294967296:Int)^a<=4294967296^b:=fun {a b} c=>by
   obtain⟨m,rfl⟩:=Nat.exists_eq_add_of_le c
   rw[Int.pow_add]
   have f:=pow_pos a
   have l:=pow_pos m
   have:=Int.mul_le_mul_of_nonneg_left (show(1:Int)<=4294967296^m by omega) (Int.le_of_lt f)
   omega
  exact d e
 omega
def Ko (U:List Int) (j:Nat) (l:List Int):List Int:=U.take j++(l++U.drop (j+l.length))
theorem aDi {a b:List Int} (c:a.length=b.length) (h:∀m,bo a m 0=bo b m 0):a=b:=by
 apply List.ext_getElem c
 intro m d e
 have:=h m
 grind[jV]
theorem avx {U l:List Int} {j:Nat} (h:j+l.length<=U.length):(Ko U j l).length=U.length:=by
 grind[Ko]
theorem aDj {U l:List Int} {j m:Nat} (h:j+l.length<=U.length):bo (Ko U j l) m 0=if m<j then bo U m 0 else if m<j+l.length then bo l (m - j) 0 else bo U m 0:=by
 unfold Ko bo
 grind
theorem aht {U W:List Int} {j k:Nat} {x:Int} (d:df W) (f:W.length=U.length) (g:j+k<=U.length) (e:∀m,(m<j\/j+k<=m)->bo W m 0=bo U m 0) (a:bC (prt W j k)=x):W=Ko U j (ET k x):=by
 have b:prt W j k=ET k x:=apa (ae1 d) (aDh (by omega)) a
 have c:=@ai3 k x
 apply aDi
 ·grind[avx]
 ·intro m
  rw[aDj (by omega),c]
  split
  ·simp_all
  ·split
   ·rw[<-b]
    unfold prt
    have:bo ((W.drop j).take k) (m - j) 0=bo (W.drop j) (m - j) 0:=by
     unfold bo
     grind
    grind[avw]
   simp_all
section
variable {P V X v1 v2 u2 top rv ru g r:Int}
theorem aDk (e:0<P) (n:V=rv+P*(v2+4294967296*v1)) (l:X=ru+P*(u2+4294967296*top)) (a:0<=rv) (f:ru<P) (d:X<4294967296*V) (b:0<=V)
  (c:0<=g) (j:g*v1+r=top) (h:4294967296<=g\/r*4294967296+u2<g*v2):X<g*V:=by
 rcases h with h|h
 ·exact Int.lt_of_lt_of_le d (Int.mul_le_mul_of_nonneg_right h b)
 ·have k:g*V=g*rv+P*(g*v2+4294967296*(top - r)):=by
   grind
  have i:P*(u2+1+4294967296*top)<=P*(g*v2+4294967296*(top - r)):=Int.mul_le_mul_of_nonneg_left (by omega) (Int.le_of_lt e)
  have m:0<=g*rv:=Int.mul_nonneg c a
  grind
theorem avy (c:0<P) (k:V=rv+P*(v2+4294967296*v1)) (n:X=ru+P*(u2+4294967296*top)) (a:0<=rv) (b:rv<P) (f:0<=ru) (e:2147483648<=v1) (j:0<=v2)
  (i:0<=g) (d:g<4294967296) (o:g*v1+r=top) (h:g*v2<=r*4294967296+u2):g*V<X+V:=by
 have m:g*V=g*rv+P*(g*v2+4294967296*(top - r)):=by
  grind
 have q:P*(g*v2+4294967296*(top - r))<=P*(u2+4294967296*top):=Int.mul_le_mul_of_nonneg_left (by omega) (Int.le_of_lt c)
 have p:g*rv<=4294967295*rv:=Int.mul_le_mul_of_nonneg_right (by omega) a
 have l:P*4294967296<=P*(v2+4294967296*v1):=Int.mul_le_mul_of_nonneg_left (by omega) (Int.le_of_lt c)
 omega
theorem aDl (c:0<P) (p:V=rv+P*(v2+4294967296*v1)) (k:X=ru+P*(u2+4294967296*top)) (b:0<=rv) (e:ru<P) (a:0<=v2) (f:u2<4294967296)
  (d:0<=g) (o:g*v1+r=top) (l:r<v1):X<(g+1)*V:=by
 have n:(g+1)*V=(g+1)*rv+((g+1)*(P*v2)+P*(4294967296*((g+1)*v1))):=by
  grind
 have j:0<=(g+1)*rv:=Int.mul_nonneg (by omega) b
 have h:0<=(g+1)*(P*v2):=Int.mul_nonneg (by omega) (Int.mul_nonneg (Int.le_of_lt c) a)
 have i:top+1<=(g+1)*v1:=by grind
 have m:P*(u2+1+4294967296*top)<=P*(4294967296*((g+1)*v1)):=Int.mul_le_mul_of_nonneg_left (by omega) (Int.le_of_lt c)
 grind
theorem aDm {b a:Int} (c:0<P) (l:V=rv+P*(v2+4294967296*v1)) (k:X=ru+P*(u2+4294967296*(b+4294967296*a))) (d:rv<P) (f:0<=ru) (e:0<=u2) (i:0<=b) (j:v2<4294967296)
  (g:X<4294967296*V):a<=v1:=by
 by_cases h:a<=v1
 ·exact h
 ·exfalso
  have m:P*(4294967296*(4294967296*(v1+1)))<=P*(u2+4294967296*(b+4294967296*a)):=Int.mul_le_mul_of_nonneg_left (by omega) (Int.le_of_lt c)
  have n:P*(v2+4294967296*v1)<=P*(4294967296*(v1+1) - 1):=Int.mul_le_mul_of_nonneg_left (by omega) (Int.le_of_lt c)
  grind
theorem afY {X V q:Int} (e:q*V<=X) (c:X<(q+1)*V):X / V=q/\X % V=X - q*V:=by
 rw[Int.add_mul,Int.one_mul] at c
 have d:0<V:=by omega
 have b:X=(X - q*V)+V*q:=by grind
 have a:X / V=q:=by
  conv=>lhs;rw[b]
  rw[Int.add_mul_ediv_left _ _ (by omega),Int.ediv_eq_zero_of_lt (by omega) (by omega),Int.zero_add]
 refine⟨a,?_⟩
 rw[Int.emod_def,a,Int.mul_comm]
end
theorem apj {p:Int} (a:0<=p) (e:p<18446744073709551616):B2.afC .u64 p 4294967295=p % 4294967296:=by
 obtain⟨m,rfl⟩:=Int.eq_ofNat_of_zero_le a
 have b:(BitVec.ofInt 64 ((m:Nat):Int)).toNat=m:=by grind
 have c:(BitVec.ofInt 64 4294967295).toNat=4294967295:=by simp_all
 have d:(BitVec.ofInt 64 ((m:Nat):Int) &&&BitVec.ofInt 64 4294967295).toNat=m % 4294967296:=by
  rw[BitVec.toNat_and,b,c]
  exact Nat.and_two_pow_sub_one_eq_mod m 32
 show um .u64 ((BitVec.ofInt 64 ((m:Nat):Int) &&&BitVec.ofInt 64 4294967295).toNat:Nat)=_
 grind[aeB,IntKind.wrap,IntKind.bits]
theorem apk {U W v:List Int} {j i:Nat} {g c b d e:Int} (n:df W) (f:W.length=U.length) (o:df v) (h:0<=g) (r:g<4294967296) (y:0<=c) (t:c<4294967296) (s:0<=b) (q:b<=1) (u:j+i<U.length)
  (l:∀m,(m<j\/j+i<=m)->bo W m 0=bo U m 0)
  (k:bC (prt W j i)=bC (prt U j i) - g*bC (v.take i)+4294967296^i*(c+b))
  (a:0<=d/\d<4294967296) (w:d - 4294967296*e=bo W (j+i) 0 - (g*bo v i 0+c) % 4294967296 - b):
  df (W.set (j+i) d)/\(W.set (j+i) d).length=U.length/\(0<=(g*bo v i 0+c) / 4294967296/\(g*bo v i 0+c) / 4294967296<4294967296)/\
  (∀m,(m<j\/j+(i+1)<=m)->bo (W.set (j+i) d) m 0=bo U m 0)/\
  bC (prt (W.set (j+i) d) j (i+1))=bC (prt U j (i+1)) - g*bC (v.take (i+1))+4294967296^(i+1)*((g*bo v i 0+c) / 4294967296+e):=by
 have x:=ri o i
 have z:0<=g*bo v i 0:=Int.mul_nonneg h x.1
 have p:g*bo v i 0<=4294967295*4294967295:=Int.mul_le_mul (by omega) (by omega) x.1 (by omega)
 refine⟨aaS n a.1 a.2,by simp[f],by omega,fun m A=>by grind[ach],?_⟩
 have B:=l (j+i) (.inr (Nat.le_refl _))
 rw[YQ,YQ,ae0 (Nat.le_refl _),aef (by omega),k,YE,Int.pow_succ]
 grind
theorem apl {U W v:List Int} {j i:Nat} {c s:Int} (a:df W) (d:W.length=U.length) (b:df v) (n:0<=c) (l:c<=1) (h:j+i<U.length) (g:df U)
  (e:∀m,(m<j\/j+i<=m)->bo W m 0=bo U m 0)
  (k:bC (prt W j i)+4294967296^i*c=bC (prt U j i)+bC (v.take i)) (o:s=bo W (j+i) 0+bo v i 0+c):
  df (W.set (j+i) (s % 4294967296))/\(W.set (j+i) (s % 4294967296)).length=U.length/\(0<=s / 4294967296/\s / 4294967296<=1)/\
  (∀m,(m<j\/j+(i+1)<=m)->bo (W.set (j+i) (s % 4294967296)) m 0=bo U m 0)/\
  bC (prt (W.set (j+i) (s % 4294967296)) j (i+1))+4294967296^(i+1)*(s / 4294967296)=bC (prt U j (i+1))+bC (v.take (i+1)):=by
 have x:=ri b i
 have y:=ri a (j+i)
 refine⟨aaS a (by omega) (by omega),by simp[d],by omega,fun m p=>by grind[ach],?_⟩
 have f:=e (j+i) (.inr (Nat.le_refl _))
 rw[YQ,YQ,ae0 (Nat.le_refl _),aef (by omega),YE,Int.pow_succ]
 grind
theorem aDn {v:List Int} {n:Nat} (a:2<=n) (b:v.length=n):bC v=bC (v.take (n - 2))+4294967296^(n - 2)*(bo v (n - 2) 0+4294967296*bo v (n - 1) 0):=by
 obtain⟨m,rfl⟩:∃m,n=m+2:=⟨n - 2,by omega⟩
 grind[YE]
theorem aDo {U:List Int} {j n:Nat} (a:2<=n):bC (prt U j (n+1))=bC (prt U j (n - 2))+4294967296^(n - 2)*(bo U (j+(n - 2)) 0+4294967296*(bo U (j+(n - 1)) 0+4294967296*bo U (j+n) 0)):=by
 obtain⟨m,rfl⟩:∃m,n=m+2:=⟨n - 2,by omega⟩
 grind[YQ]
end Go.Vi
