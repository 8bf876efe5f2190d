/-
  Plain law: the payments of the two sides agree.
  Conditions: none.
-/
import Derived.Test.YtjcmncmajmoiiaaGreatTX06
import Derived.Test.YtjcmncmajmoiiaaGreatTX07
import Derived.KernelRfl
set_option maxRecDepth 100000
set_option maxHeartbeats 4000000
set_option linter.all false
open And renaming intro->γj
open BitVec renaming ofInt->γt
open Go.Vi.SV renaming row->Φ,si->γe,ow->γ8,il->γq
open Int renaming pow_succ->γQ,mul_add->εz,toNat_natCast->γz,add_comm->ζG,emod_nonneg->δT,emod_lt_of_pos->δu,ediv_nonneg->εa,mul_ediv_add_emod->εn,ediv_eq_zero_of_lt->εM,emod_eq_of_lt->δQ,eq_ofNat_of_zero_le->δL,tdiv_eq_ediv_of_nonneg->ζb,tmod_eq_emod_of_nonneg->ζc,mul_nonneg->γA,mul_le_mul->δN,pow_add->εg,mul_le_mul_of_nonneg_left->Δ,le_of_lt->γl,mul_le_mul_of_nonneg_right->γT,one_mul->δ3,mul_comm->εd,sub_mul->ζN,mul_assoc->δl,mul_sub->εP,mul_zero->δO,add_zero->εp,mul_one->ε6,sub_zero->ζh
open List renaming foldl_cons->γw,getElem?_cons_succ->γP,map_cons->ι,map_map->δo,pairwise_cons->γE,range->τ,all_eq_true->Θ,mem_range->γM,mem_append->ω,mem_filter->γi,take->γd,cons_append->γB,length_cons->γv,take_length->χ,replicate->ε,replicate_succ->δm,range_succ->δR,map_append->γa,take_of_length_le->γn,map_nil->γs,replicate_zero->ε3,mem_map->γf,mem_singleton->γJ,drop->δi,drop_of_length_le->εi,drop_zero->δM,mem_of_mem_drop->γL,length_take->Ξ,getElem?_replicate->εF,eq_of_mem_replicate->δ9
open List.cons renaming injEq->π
open Nat renaming le_refl->ψ,min_eq_left->εo
open Option.some renaming injEq->γ
namespace Go.Vi
open Go.Proofs
theorem Qw {p:bp} (hg:Good p) {b:Int} (h0:0<=b) (h1:b<p.classes.length):∀{c v:List Int} {s:Int×Int},vx p c->v.length=p.classes.length->bj v b.toNat 0=s.1->bj (c.foldl (tX p) v) b.toNat 0=(c.foldl (Dl p b) s).1
 |[],v,s,_,_,h=>h
 |i::c,v,s,hc,hl,h=>by
  rw[γw,γw]
  have hi:=hc i (by simp)
  have hx:=hg.2.2.2.2 _ (de (d:=bn.off.dflt) (show i.toNat<p.offers.length by omega))
  refine Qw hg h0 h1 (λj hj=>hc j (by simp[hj])) (by simp[tX,hl]) ?_
  unfold tX Dl
  rw[cO (by simp;omega),List.getElem_set]
  by_cases hb:(bj p.offers i.toNat bn.off.dflt).bF=b
  ·rw[if_pos (by omega),if_pos hb]
  ·rw[if_neg (by omega),if_neg hb]
   rw[cO (by omega)] at h
   exact h
theorem aaF {p:bp} {c:List Int} (hg:Good p) (hi:vx p c) {b:Int} (h0:0<=b) (h1:b<p.classes.length):bj (ng p c) b.toNat 0=(zC p c b).1:=
 Qw hg h0 h1 (s:=(0,0)) hi (by simp) (by rw[cO (by simp;omega)];simp)
def bz.at (b:bz) (k:Nat):Int:=bj [b.a0,b.a1,b.a2,b.a3,b.a4,b.a5] k 0
theorem Dv {a b:bz} (h:a.le b=true) (k:Nat):a.at k<=b.at k:=by
 grind[bz.le_iff,bz.at,bj]
theorem mD (k:Nat):∀(l:List bz),(dS l).at k=(l.map λb=>b.at k).sum:=by
 intro l;unfold bz.at dS
 match k with
 |0|1|2|3|4|5=>simp only[bj,List.getElem?_cons_zero,γP,Option.getD_some]
 |k+6=>
  simp only[bj,γP,List.getElem?_nil,Option.getD_none]
  induction l<;>grind
theorem Qx {p:bp} {x:Off} {k:Nat} (a:k<6):eL p (p.classes.length+k) x=x.want.at k:=by
 unfold eL
 rw[if_neg (by omega),if_pos (by omega),show((p.classes.length:Int)+k - p.classes.length).toNat=k by omega]
 rfl
theorem Qy {p:bp} {x:Off} {k:Nat} (a:k<6):eL p (p.classes.length+6+k) x=(dR p x).at k:=by
 unfold eL
 rw[if_neg (by omega),if_neg (by omega),show((p.classes.length:Int)+6+k - p.classes.length - 6).toNat=k by omega]
 have:k=0\/k=1\/k=2\/k=3\/k=4\/k=5:=by omega
 rcases this with rfl|rfl|rfl|rfl|rfl|rfl<;>simp[dR,eJ,oc,iE,bz.at,bj]
theorem Qz {p:bp} {k:Nat} (a:k<6):dA p (p.classes.length+k)=p.supply.at k:=by
 unfold dA
 rw[if_neg (by omega),if_pos (by omega),show((p.classes.length:Int)+k - p.classes.length).toNat=k by omega]
 rfl
theorem QA {p:bp} {k:Nat} (a:k<6):dA p (p.classes.length+6+k)=p.opn.at k:=by
 unfold dA
 rw[if_neg (by omega),if_neg (by omega),show((p.classes.length:Int)+6+k - p.classes.length - 6).toNat=k by omega]
 rfl
theorem QB {p:bp} {r:Int} (a:0<=r) (b:r<p.classes.length):∀{L:List Off},(L.map Off.bF).Nodup->cQ p L r<=1/\(r∉L.map Off.bF->cQ p L r=0)
 |[],_=>by simp[cQ]
 |x::L,h=>by
  rw[ι,List.nodup_cons] at h
  obtain⟨d,e⟩:=QB a b h.2
  have c:eL p r x=if x.bF=r then 1 else 0:=by unfold eL;omega
  rw[sum_cons,c]
  grind
theorem QC {p:bp} {L:List Off} (h:gy p L):fN p L=true:=by
 obtain⟨j,i,f⟩:=h
 refine oM.2 λr g=>?_
 unfold di at g
 by_cases l:r<p.classes.length
 ·have:=(QB (p:=p) (r:=r) (by omega) (by omega) j).1
  have d:dA p r=1:=by unfold dA;omega
  omega
 by_cases d:r<p.classes.length+6
 ·obtain⟨k,rfl⟩:∃k:Nat,r=p.classes.length+k:=⟨r - p.classes.length,by omega⟩
  have c:k<6:=by omega
  have e:(((p.classes.length+k:Nat)):Int)=p.classes.length+k:=by omega
  rw[e,Qz c]
  have a:=Dv i k
  rw[mD,δo] at a
  have:cQ p L (p.classes.length+k)=(L.map ((λb=>bz.at b k)∘Off.want)).sum:=by
   unfold cQ
   congr 1
   simp_all[Qx]
  omega
 ·obtain⟨k,rfl⟩:∃k:Nat,r=p.classes.length+6+k:=⟨r - p.classes.length - 6,by omega⟩
  have c:k<6:=by omega
  have e:(((p.classes.length+6+k:Nat)):Int)=p.classes.length+6+k:=by omega
  rw[e,QA c]
  have a:=Dv f k
  rw[mD,δo] at a
  have:cQ p L (p.classes.length+6+k)=(L.map ((λb=>bz.at b k)∘dR p)).sum:=by
   unfold cQ
   congr 1
   simp_all[Qy]
  omega
theorem QE {l:List Off}:∀{t:List Int} {a:Int},t.Pairwise (·<·)->(∀j∈t,a<j/\j<l.length)->eA l a t=some (t.map λi=>bj l i.toNat bn.off.dflt)
 |[],_,_,_=>rfl
 |i::t,a,h,d=>by
  have e:=d i (by simp)
  have c:=γE.1 h
  unfold eA
  rw[if_neg (by omega),QE c.2 λj b=>⟨c.1 j b,(d j (by simp[b])).2⟩]
  rfl
theorem QF {p:bp} (e:bC p=0) {t:List Int} (a:oQ 0 p.offers.length t) (c:gy p (cy p t)):cM p t=0:=by
 have d:eA p.offers (-1) t=some (cy p t):=QE a.1 λj b=>by have:=a.2 j b;omega
 simp_all[cM,fO,dQ,QC]
def QG:Bool:=(τ 9).all λn=>(τ n).all λb=>hasB (2^n - 1) b
theorem aaG:QG=true:=by kernel_rfl
theorem QH {p:bp} (hg:Good p) {b:Int} (h0:0<=b) (h1:b<p.classes.length):hasB (allM p) b=true:=by
 have h:=aaG
 simp only[QG,Θ,γM] at h
 have:=h p.classes.length (by have:=hg.1;omega) b.toNat (by omega)
 rwa [show((b.toNat:Nat):Int)=b by omega] at this
theorem aaH {p:bp} (hg:Good p):oP p (allM p)=p:=by
 unfold oP;rw[List.filter_eq_self.2 λx hx=>QH hg (hg.2.2.2.2 x hx).1 (hg.2.2.2.2 x hx).2.1]
theorem Dw {p:bp} (hc:bC p=0):iW p (allM p)=(bZ p).value:=by
 have hg:=dL hc
 rw[Qq hc];unfold Dm tY;rw[Qp hg.1,aaH hg]
theorem xx {p:bp} (hc:bC p=0):gl p (bZ p).chosen=0/\gy p (cy p (bZ p).chosen)/\oQ 0 p.offers.length (bZ p).chosen/\(bZ p).value=ck (cy p (bZ p).chosen):=by
 have hg:=dL hc
 obtain⟨t,ht,hr,he⟩:=Iw hg
 have hF:gy p (cy p t):=of_decide_eq_true hr
 have hz:=QF hc ht hF
 have h1:=Dw hc
 rw[he] at h1 ⊢
 refine⟨?_,hF,ht,rfl⟩
 unfold gl
 have:iY p t=ck (cy p t):=by unfold iY;rw[zG];omega
 rw[if_neg (by simp[hz]),if_neg (show ¬iY p t<iW p (allM p) by simp only at h1;omega)]
def QI:Bool:=(τ 9).all λn=>(τ n).all λb=>(τ 8).all λx=>decide ((x:Int)∈fu (iK (2^n - 1) b))==(decide (x<n)&&decide (x≠b))
theorem aaI:QI=true:=by kernel_rfl
theorem aaJ {p:bp} (hg:Good p) {b x:Int} (h0:0<=b) (h1:b<p.classes.length) (hx0:0<=x) (hx1:x<p.classes.length) (hne:x≠b):x∈fu (iK (allM p) b):=by
 have h:=aaI
 simp only[QI,Θ,γM] at h
 have h8:=hg.1
 have:=h p.classes.length (by omega) b.toNat (by omega) x.toNat (by omega)
 rw[show((b.toNat:Nat):Int)=b by omega,show((x.toNat:Nat):Int)=x by omega] at this
 have e1:decide (x.toNat<p.classes.length)=true:=decide_eq_true (by omega)
 have e2:decide (x.toNat≠b.toNat)=true:=decide_eq_true (by omega)
 rw[e1,e2] at this
 simpa[allM] using this
theorem QJ {p:bp} (hg:Good p) {x:Int} (hx0:0<=x) (hx1:x<p.classes.length):x∈fu (allM p):=by
 have h8:=hg.1
 have h2:=sw h8
 have:=Ix (m:=allM p) (b:=x) (by unfold allM;omega) (by unfold allM;omega) hx0 (by omega)
 rw[QH hg hx0 hx1] at this
 exact of_decide_eq_true this.symm
theorem IE {p:bp} (hc:bC p=0) {m:Int} (h0:0<=m) (h1:m<2^p.classes.length):iW p m=gx p (fu m) p.supply p.opn:=by
 unfold iW;rw[if_pos]
 ·rfl
 ·unfold jW
  rw[if_neg (by simp[hc]),if_neg (by omega)]
theorem aaK {p:bp} (hg:Good p) {b:Int} (h0:0<=b) (h1:b<p.classes.length):0<=iK (allM p) b/\iK (allM p) b<2^p.classes.length:=by
 rw[<-aaC hg.1 h0 h1]
 exact Qd p b p.classes.length
open Go.Proofs.YtjcmncmajmoiiaaGreat.Ir
def aaL (p:bp) (b k:Int):Bool:=decide (p.cls.at k.toNat≠0/\p.cls.at k.toNat≠bj p.classes b.toNat 0)
def QK (p:bp) (x:Off) (k:Nat):Prop:=x.want.at k<=p.supply.at k/\(aaL p x.bF k=true->x.want.at k<=p.opn.at k)
instance (p:bp) (x:Off) (k:Nat):Decidable (QK p x k):=by unfold QK;infer_instance
def bss (a b c:bz):List SV:=[.si .i64 a.a0,.si .i64 a.a1,.si .i64 a.a2,.si .i64 a.a3,.si .i64 a.a4,.si .i64 a.a5,.si .i64 b.a0,.si .i64 b.a1,.si .i64 b.a2,.si .i64 b.a3,.si .i64 b.a4,.si .i64 b.a5,.si .i64 c.a0,.si .i64 c.a1,.si .i64 c.a2,.si .i64 c.a3,.si .i64 c.a4,.si .i64 c.a5]
def zss:List SV:=[.il .i64 0,.il .i64 0,.il .i64 0,.il .i64 0,.il .i64 0,.il .i64 0,.il .i64 0,.il .i64 0,.il .i64 0,.il .i64 0,.il .i64 0,.il .i64 0,.il .i64 0,.il .i64 0,.il .i64 0,.il .i64 0,.il .i64 0,.il .i64 0,.sc (.slice none 0 0),.sc (.slice none 0 0)]
theorem QL {α:Type} {a:α} {l:List α} {d:α}:bj (a::l) 0 d=a:=rfl
theorem QM {α:Type} {a:α} {l:List α} {n:Nat} {d:α}:bj (a::l) (n+1) d=bj l n d:=by simp[bj]
def jG (p:bp):Int:=iW p (allM p)
def qq (p:bp) (l:List Off):bp:={p with offers:=l}
theorem IG {p:bp} {l0:List Off} {f:Off->Bool}:∀{l:List Off} {s t:List mV},gK p s l=0->(∀k∈t,k∈s)->gK (qq p l0) t (l.filter f)=0
 |[],_,_,_,_=>rfl
 |o::r,s,t,h,hs=>by
  simp only[gK] at h;split at h
  ·rename_i h1;exact absurd h h1
  ·split at h
   ·cases h
   ·rename_i h1 h2
    have hn:o.key∉t:=λhm=>h2 (hs _ hm)
    rw[List.filter_cons];split
    ·unfold gK
     rw[if_neg (show ¬jF (qq p l0) o≠0 from h1),if_neg hn]
     exact IG h λk hk=>by
      rcases ω.1 hk with hk|hk
      ·exact ω.2 (.inl (hs k hk))
      ·exact ω.2 (.inr hk)
    ·exact IG h λk hk=>ω.2 (.inl (hs k hk))
theorem II {p:bp} {f:Off->Bool} (h:bC p=0):bC (qq p (p.offers.filter f))=0:=by
 have hg:=dL h
 unfold bC at h;split at h
 ·rename_i h1;exact absurd h h1
 ·rename_i h1
  have hf:gY p=0:=Classical.not_not.1 h1
  obtain⟨f1,f2,f3,f4,f5⟩:=sr hf
  have hl:=List.length_filter_le f p.offers
  have hq:gY (qq p (p.offers.filter f))=0:=Hz (p:=qq p (p.offers.filter f)) f1 (λj hj=>by have h:=(nP (p:=p) (k:=j)).1 (f2 j hj);exact nP.2 h) (by simp only[qq];omega) f5
  unfold bC
  rw[if_neg (by simp[hq])]
  exact IG h (by simp)
def xy (b:Int) (s:Int×Int) (x:Off):Int×Int:=if x.bF=b then(x.value,s.2) else(s.1,s.2+x.value)
theorem QN {p:bp} {b:Int}:∀{c:List Int} {s:Int×Int},c.foldl (Dl p b) s=(cy p c).foldl (xy b) s
 |[],s=>rfl
 |i::c,s=>by rw[γw,qp,γw,QN];rfl
def qP (p:bp) (b:Int):bp:=qq p (p.offers.filter λx=>decide (x.bF≠b))
theorem Dx {a b:bz} (h:∀k,k<6->a.at k<=b.at k):a.le b=true:=by
 have i:=h 0 (by omega)
 have c:=h 1 (by omega)
 have d:=h 2 (by omega)
 have f:=h 3 (by omega)
 have g:=h 4 (by omega)
 have e:=h 5 (by omega)
 simp_all[bz.at,bj,bz.le_iff]
theorem aaN {p:bp} {L:List Off} (d:(L.map Off.bF).Nodup) (c:fN p L=true):gy p L:=by
 refine⟨d,Dx λk a=>?_,Dx λk a=>?_⟩
 ·have h:=oM.1 c (p.classes.length+k) (by grind[di])
  rw[show(((p.classes.length+k:Nat)):Int)=p.classes.length+k by omega,Qz a] at h
  rw[mD,δo]
  have:cQ p L (p.classes.length+k)=(L.map ((λb=>bz.at b k)∘Off.want)).sum:=by
   unfold cQ
   congr 1
   simp_all[Qx]
  omega
 ·have h:=oM.1 c (p.classes.length+6+k) (by grind[di])
  rw[show(((p.classes.length+6+k:Nat)):Int)=p.classes.length+6+k by omega,QA a] at h
  rw[mD,δo]
  have:cQ p L (p.classes.length+6+k)=(L.map ((λb=>bz.at b k)∘dR p)).sum:=by
   unfold cQ
   congr 1
   simp_all[Qy]
  omega
theorem QO {l:List Off}:∀{t:List Int} {a:Int} {r:List Off}, -1<=a->eA l a t=some r->t.Pairwise (·<·)/\∀j∈t,a<j/\j<l.length
 |[],_,_,_,_=>by simp
 |i::t,a,r,g,h=>by
  simp only[eA] at h;split at h
  ·cases h
  ·rename_i k
   obtain⟨f,d,rfl⟩:=Option.map_eq_some_iff.1 h
   obtain⟨e,c⟩:=QO (by omega) d
   refine⟨γE.2 ⟨λj b=>(c j b).1,e⟩,λj b=>?_⟩
   grind
def rq (p:bp) (t:List Int):Prop:=oQ 0 p.offers.length t/\gy p (cy p t)
theorem zH {p:bp} (c:bC p=0) {t:List Int}:cM p t=0↔rq p t:=by
 refine⟨λh=>?_,λh=>QF c h.1 h.2⟩
 have e:=aaE h
 obtain⟨i,a,l,m,o⟩:=zB h
 obtain⟨r,d⟩:=Option.isSome_iff_exists.1 a
 obtain⟨f,g⟩:=QO (by omega) d
 have n:dQ p t=cy p t:=by grind[dQ,Du]
 have b:fN p (cy p t)=true:=by
  simp_all[cM]
 exact⟨⟨f,λj k=>by simp_all⟩,aaN e b⟩
theorem aaO {p:bp} (a:Good p):rq p []:=⟨⟨by simp,by simp⟩,of_decide_eq_true (Qk a)⟩
theorem Dy {p:bp} (hc:bC p=0) {t:List Int} (h:rq p t):eC p t=ck (cy p t):=by
 have hz:=(zH hc).2 h
 rw[Qr hz];unfold iY;rw[zG];omega
theorem xA {p:bp} (hc:bC p=0) {L:List Off} (hL:gy p L) (hm:∀x∈L,x∈p.offers):ck L<=iW p (allM p):=by
 have hg:=dL hc
 have h2:=sw hg.1
 rw[IE hc (m:=allM p) (by unfold allM;omega) (by unfold allM;omega)]
 refine zD hg ⟨hL.1,λx hx=>?_,hL.2.1,hL.2.2⟩
 have:=hg.2.2.2.2 x (hm x hx)
 exact⟨hm x hx,QJ hg this.1 this.2.1⟩
theorem IJ {p:bp} (hc:bC p=0):∃L,gy p L/\(∀x∈L,x∈p.offers)/\ck L=iW p (allM p):=by
 have hg:=dL hc
 have h2:=sw hg.1
 rw[IE hc (m:=allM p) (by unfold allM;omega) (by unfold allM;omega)]
 have q1:=bz.fA.1 hg.2.2.1
 have q2:=bz.fA.1 hg.2.2.2.1
 obtain⟨L,hL,hv⟩:=zE hg (IB (allM p)) (l:=p.supply) (o:=p.opn) (by rw[bz.le_iff];simp only[bz.zero];omega) (by rw[bz.le_iff];simp only[bz.zero];omega)
 exact⟨L,⟨hL.nd,hL.w,hL.o⟩,λx hx=>(hL.mem x hx).1,hv⟩
theorem QP:∀l:List Int,cmpL l l=0
 |[]=>rfl
 |a::l=>by
  simp only[cmpL,if_neg (Int.lt_irrefl a)]
  exact QP l
theorem QQ:∀{a b:List Int},cmpL a b=0->a=b
 |[],[],_=>rfl
 |[],_::_,h=>by simp[cmpL] at h
 |_::_,[],h=>by simp[cmpL] at h
 |x::a,y::b,h=>by
  simp only[cmpL] at h;split at h
  ·simp at h
  ·split at h
   ·simp at h
   ·rw[QQ h,show x=y by omega]
theorem QR:∀{a b:List Int},cmpL a b<0↔0<cmpL b a
 |[],[]=>by simp[cmpL]
 |[],_::_=>by simp[cmpL]
 |_::_,[]=>by simp[cmpL]
 |x::a,y::b=>by
  simp only[cmpL]
  by_cases h1:x<y
  ·rw[if_pos h1,if_neg (by omega),if_pos h1];simp
  ·by_cases h2:y<x
   ·rw[if_neg h1,if_pos h2,if_pos h2];simp
   ·rw[if_neg h1,if_neg h2,if_neg h2,if_neg h1]
    exact QR
theorem QS:∀{a b c:List Int},cmpL a b<0->cmpL b c<0->cmpL a c<0
 |[],[],_,h,_=>by simp[cmpL] at h
 |_::_,[],_,h,_=>by simp[cmpL] at h
 |[],_::_,[],_,h=>by simp[cmpL] at h
 |[],_::_,_::_,_,_=>by simp[cmpL]
 |_::_,_::_,[],_,h=>by simp[cmpL] at h
 |x::a,y::b,z::c,h,k=>by
  simp only[cmpL] at h k ⊢
  by_cases h1:x<y
  ·by_cases k1:y<z
   ·rw[if_pos (by omega)];omega
   ·rw[if_neg k1] at k
    by_cases k2:z<y
    ·rw[if_pos k2] at k;simp at k
    ·rw[if_pos (by omega)];omega
  ·rw[if_neg h1] at h
   by_cases h2:y<x
   ·rw[if_pos h2] at h;simp at h
   ·rw[if_neg h2] at h
    by_cases k1:y<z
    ·rw[if_pos (by omega)];omega
    ·rw[if_neg k1] at k
     by_cases k2:z<y
     ·rw[if_pos k2] at k;simp at k
     ·rw[if_neg k2] at k
      rw[if_neg (by omega),if_neg (by omega)]
      exact QS h k
def lM (a b:Alloc):Prop:=b.value<a.value\/a.value=b.value/\cmpL a.chosen b.chosen<0
theorem QT {a b c:Alloc} (h:lM a b) (k:lM b c):lM a c:=by
 rcases h with h|⟨h1,h2⟩
 ·rcases k with k|⟨k1,_⟩
  ·left;omega
  ·left;omega
 ·rcases k with k|⟨k1,k2⟩
  ·left;omega
  ·exact .inr ⟨by omega,QS h2 k2⟩
theorem xB {a:Alloc}:¬lM a a:=by
 rintro(h|⟨_,h⟩)
 ·omega
 ·rw[QP] at h;omega
theorem aaP {a b:Alloc} (h:¬lM a b) (k:¬lM b a):a=b:=by
 obtain⟨l,v⟩:=a
 obtain⟨m,w⟩:=b
 simp only[lM,not_or,not_and] at h k
 have hv:v=w:=by omega
 subst hv
 have h2:=h.2 rfl
 have k2:=k.2 rfl
 have:=mt QR.2 k2
 rw[QQ (show cmpL l m=0 by omega)]
theorem aaQ {m b:Int}:b∈fu m↔(0<=b/\b<8)/\oN m b≠0:=by
 unfold fu;rw[γi,decide_eq_true_eq]
 constructor
 ·rintro⟨h1,h2⟩
  simp only[List.mem_cons,List.not_mem_nil,or_false] at h1
  exact⟨by omega,h2⟩
 ·rintro⟨h1,h2⟩
  refine⟨?_,h2⟩
  have:b=0\/b=1\/b=2\/b=3\/b=4\/b=5\/b=6\/b=7:=by omega
  rcases this with rfl|rfl|rfl|rfl|rfl|rfl|rfl|rfl<;>simp
theorem aaR {p:bp} (hg:Good p):(0<=allM p/\allM p<2^p.classes.length)/\allM p<256:=by
 have:=sw hg.1
 unfold allM;omega
theorem aaS {p:bp} (hg:Good p) {b x:Int} (h0:0<=b) (h1:b<p.classes.length) (h:x∈fu (iK (allM p) b)):x≠b:=by
 obtain⟨⟨m0,m1⟩,m2⟩:=aaR hg
 have h8:=hg.1
 have hb:=(aaQ.1 (QJ hg h0 h1)).2
 have hd:=(HK m0 m2 h0 (by omega)).2 hb
 rw[hd.2.2] at h
 simpa using(γi.1 h).2
theorem aaT {p:bp} (hc:bC p=0) {b:Int} (h0:0<=b) (h1:b<p.classes.length):jG (qP p b)=iW p (iK (allM p) b):=by
 have hg:=dL hc
 have hq:bC (qP p b)=0:=II hc
 obtain⟨d0,d1⟩:=aaK hg h0 h1
 have hqm:∀x,x∈(qP p b).offers↔x∈p.offers/\x.bF≠b:=λx=>by
  show x∈p.offers.filter _↔_
  rw[γi,decide_eq_true_eq]
 have hw:=IE hc d0 d1
 have le1:jG (qP p b)<=iW p (iK (allM p) b):=by
  obtain⟨L,hL,hm,hv⟩:=IJ hq
  have hv:ck L=jG (qP p b):=hv
  rw[<-hv,hw]
  refine zD hg ⟨hL.1,λx hx=>?_,hL.2.1,hL.2.2⟩
  have hx2:=(hqm x).1 (hm x hx)
  have hxv:=hg.2.2.2.2 x hx2.1
  exact⟨hx2.1,aaJ hg h0 h1 hxv.1 hxv.2.1 hx2.2⟩
 have le2:iW p (iK (allM p) b)<=jG (qP p b):=by
  have q1:=bz.fA.1 hg.2.2.1
  have q2:=bz.fA.1 hg.2.2.2.1
  obtain⟨L,hL,hv⟩:=zE hg (IB (iK (allM p) b)) (l:=p.supply) (o:=p.opn) (by rw[bz.le_iff];simp only[bz.zero];omega) (by rw[bz.le_iff];simp only[bz.zero];omega)
  rw[hw,<-hv]
  exact xA hq (p:=qP p b) (L:=L) ⟨hL.nd,hL.w,hL.o⟩ λx hx=>(hqm x).2 ⟨(hL.mem x hx).1,aaS hg h0 h1 (hL.mem x hx).2⟩
 omega
theorem aaU {b:bz}:b.ok=true↔∀j,j<6->0<=b.at j/\b.at j<=4:=by
 rw[bz.fA]
 constructor
 ·intro h j hj
  have:j=0\/j=1\/j=2\/j=3\/j=4\/j=5:=by omega
  rcases this with rfl|rfl|rfl|rfl|rfl|rfl<;>simp only[bz.at,QL,QM]<;>omega
 ·intro h
  have h0:=h 0 (by omega)
  have h1:=h 1 (by omega)
  have h2:=h 2 (by omega)
  have h3:=h 3 (by omega)
  have h4:=h 4 (by omega)
  have h5:=h 5 (by omega)
  simp only[bz.at,QL,QM] at h0 h1 h2 h3 h4 h5
  exact⟨h0,h1,h2,h3,h4,h5⟩
theorem aaV {c w cl j:Int} (h:j<6):oc c w cl j 6=if c=0\/c=cl then 0 else w:=by
 unfold oc
 by_cases hh:c=0\/c=cl
 ·rw[if_pos ⟨h,hh⟩,if_pos hh]
 ·rw[if_neg λq=>hh q.2,if_neg hh]
theorem IK {p:bp} {x:Off} {j:Nat} (hj:j<6):(dR p x).at j=if p.cls.at j=0\/p.cls.at j=iE p x then 0 else x.want.at j:=by
 have:j=0\/j=1\/j=2\/j=3\/j=4\/j=5:=by omega
 rcases this with rfl|rfl|rfl|rfl|rfl|rfl<;>exact aaV (by decide)
theorem IL {a b:bz}:a.le b=true↔∀j,j<6->a.at j<=b.at j:=⟨λh j _=>Dv h j,Dx⟩
theorem IP {p:bp} {L:List Off}:gy p L↔(L.map Off.bF).Nodup/\(∀j,j<6->(L.map λy=>y.want.at j).sum<=p.supply.at j)/\∀j,j<6->(L.map λy=>(dR p y).at j).sum<=p.opn.at j:=by
 unfold gy;rw[IL,IL];simp only[mD,δo,Function.comp_def]
def nS (a:List Int):Nat->Nat
 |0=>0
 |n+1=>if bj a n 0=0 then nS a n else n+1
def bI (a:List Int):List Int:=a.take (nS a a.length)
def ry:bM:=⟨195,List Int,.one (dN (.i .u32)),λa=>a.length<=1000000000000,λa=> .row (.i .u32) (bI a)⟩
def aaW (a:List Int):Nat->cB
 |2=> .inv Int (λn=>⟨[(0,.row (.i .u32) a),(3,.si .i64 n)],[]⟩) (λs=>iS s 3) (λn=>0<=n/\n<=a.length/\nS a n.toNat=nS a a.length) (λn=>n.toNat) λ_ _=> .look
 |_=> .look
theorem h152:Holds Tryz.prog ry:=by
 refine cK (L:=[]) ry aaW (by simp) ?_
 intro(a:List Int) (h:a.length<=1000000000000)
 refine bR (let e:=(0:Int);let f:=Φ;let c:=bn.i .u32;let d:=(↑a.length:Int);let l:=γe .i64 d;let g:=(↑a.length:Int);let j:=nS a a.length;((((f c a).same (f c a)/\l.same l/\True)/\True)/\e<=d/\d<=g/\nS a d.toNat=j)/\∀(x:Int),let r:=decide (e<x);let b:=x - (1:Int);let o:=decide (bj a b.toNat e=e);let k:=γe .i64 b;e<=x/\x<=g/\nS a x.toNat=j->(r=true->bX .i64 b/\e<=b/\b<d/\b.toNat<a.length/\(o=true->bX .i64 b/\(((f c a).same (f c a)/\k.same k/\True)/\True)/\(e<=b/\b<=g/\nS a b.toNat=j)/\b.toNat<x.toNat)/\(o=false->e<=x/\e<=x/\0<=x.toNat/\x.toNat<=x.toNat/\x.toNat<=a.length/\(f c (γd (x.toNat - 0) a)).same (f c (bI a))))/\(r=false->e<=x/\e<=x/\0<=x.toNat/\x.toNat<=x.toNat/\x.toNat<=a.length/\(f c (γd (x.toNat - 0) a)).same (f c (bI a)))) (by kernel_rfl) ?_
 simp only[vcs]
 refine⟨⟨by omega,by omega,by simp⟩,?_⟩
 rintro n ⟨f,t,q⟩
 have e:(n.toNat=0\/0<n.toNat/\¬bj a (n.toNat - 1) 0=0)->γd (n.toNat - 0) a=bI a:=λh=>by
  unfold bI;rw[<-q]
  congr 1
  rcases h with h|h
  ·rw[h];rfl
  ·obtain⟨v,h⟩:=h
   obtain⟨m,u⟩:∃m,n.toNat=m+1:=⟨n.toNat - 1,by omega⟩
   simp_all[nS]
 refine⟨λs=>⟨by omega,by omega,by omega,by omega,λp=>⟨by omega,⟨by omega,by omega,?_⟩,by omega⟩,λp=>⟨f,f,by omega,by omega,by omega,?_⟩⟩,λs=>⟨f,f,by omega,by omega,by omega,e (.inl (by omega))⟩⟩
 ·rw[<-q,show n.toNat=(n - 1).toNat+1 by omega]
  rw[nS,if_pos p]
 simp_all
def bk:List Int->Int
 |[]=>0
 |d::l=>d+4294967296*bk l
def bA (a:List Int):Prop:=∀d∈a,0<=d/\d<4294967296
def fD:List Int->Prop
 |[]=>True
 |d::l=>(l=[]->d≠0)/\fD l
theorem iZ {d:Int} {l:List Int}:bA (d::l)↔(0<=d/\d<4294967296)/\bA l:=by simp[bA]
theorem nh {a:List Int} (h:bA a) (n:Nat):bA (a.take n):=λd b=>h d (List.mem_of_mem_take b)
theorem eV:∀{a:List Int},bA a->0<=bk a
 |[],_=>Int.le_refl _
 |d::l,h=>by
  obtain⟨c,b⟩:=iZ.1 h
  have:=eV b
  grind[bk]
theorem val_zero:∀{a:List Int},bA a->fD a->bk a=0->a=[]
 |[],_,_,_=>rfl
 |d::l,h,b,f=>by
  obtain⟨g,c⟩:=iZ.1 h
  have:=eV c
  simp only[bk] at f
  have e:=val_zero c b.2 (by omega)
  have:=b.1 e
  omega
theorem val_inj:∀{a b:List Int},bA a->bA b->fD a->fD b->bk a=bk b->a=b
 |[],b,_,i,_,c,h=>(val_zero i c h.symm).symm
 |d::l,[],f,_,g,_,h=>val_zero f g h
 |d::l,e::m,f,i,g,c,h=>by
  obtain⟨p,j⟩:=iZ.1 f
  obtain⟨s,k⟩:=iZ.1 i
  have r:=eV j
  have q:=eV k
  simp only[bk] at h
  have n:d=e:=by omega
  have o:bk l=bk m:=by omega
  rw[n,val_inj j k g.2 c.2 o]
theorem xC:∀{a:List Int} {x:Int},bk (a++[x])=bk a+4294967296^a.length*x
 |[],x=>by simp[bk]
 |d::l,x=>by
  simp only[γB,bk,xC,γv,γQ,εz]
  grind
theorem IQ:∀{a:List Int} {x:Int},x≠0->fD (a++[x])
 |[],x,h=>⟨λ_=>h,trivial⟩
 |d::l,x,h=>⟨λb=>by simp at b,IQ h⟩
theorem Dz {a:List Int} {n:Nat} (h:n<a.length):a.take (n+1)=a.take n++[bj a n 0]:=by
 simp_all[cO]
theorem QU {a:List Int}:∀{n:Nat},n<=a.length->bk (a.take (nS a n))=bk (a.take n)/\fD (a.take (nS a n))
 |0,_=>by simp[nS,fD]
 |n+1,h=>by
  obtain⟨d,b⟩:=@QU a n (by omega)
  have c:=Dz (show n<a.length by omega)
  unfold nS
  grind[xC,IQ]
theorem rA {a:List Int}:bk (bI a)=bk a/\fD (bI a):=by
 have:=@QU a a.length (ψ _)
 rw[χ] at this;exact this
theorem sB {a:List Int} (h:bA a):bA (bI a):=nh h _
theorem t6 {a:List Int}:(bI a).length<=a.length:=by grind[bI]
def vy:Nat->Int->List Int
 |0,_=>[]
 |k+1,n=>if n<=0 then[] else(n % 4294967296)::vy k (n / 4294967296)
def cE (n:Int):List Int:=vy n.toNat n
theorem QV:∀{k:Nat} {n:Int},0<=n->n.toNat<=k->bk (vy k n)=n/\bA (vy k n)/\fD (vy k n)
 |0,n,b,h=>by
  have:n=0:=by omega
  subst this
  exact⟨rfl,by simp[vy,bA],trivial⟩
 |k+1,n,b,h=>by
  unfold vy;split
  ·have:n=0:=by omega
   subst this
   exact⟨rfl,by simp[bA],trivial⟩
  ·obtain⟨d,a,c⟩:=@QV k (n / 4294967296) (by omega) (by omega)
   refine⟨by grind[bk],iZ.2 ⟨by omega,a⟩,λe f=>?_,c⟩
   grind[bk]
theorem gd {n:Int} (h:0<=n):bk (cE n)=n/\bA (cE n)/\fD (cE n):=QV h (ψ _)
theorem zI {a:List Int} (h:bA a) (b:fD a):cE (bk a)=a:=by
 grind[gd,eV,val_inj]
theorem qs {a:List Int} (h:bA a):bI a=cE (bk a):=by
 grind[rA,zI,sB]
theorem nT:∀{a:List Int},bA a->bk a<4294967296^a.length
 |[],_=>by simp[bk]
 |d::l,h=>by
  obtain⟨c,b⟩:=iZ.1 h
  have:=nT b
  grind[bk]
def iL (s t:List Int):Nat->Int
 |0=>0
 |i+1=>(bj s i 0+iL s t i+bj t i 0) / 4294967296
def sC (s t:List Int) (i:Nat):Int:=(bj s i 0+iL s t i+bj t i 0) % 4294967296
def oR (s t:List Int) (i:Nat):List Int:=(τ i).map (sC s t)++ε (s.length+1 - i) 0
def big (a:List Int×List Int):List Int:=if a.1.length<a.2.length then a.2 else a.1
def lN (a:List Int×List Int):List Int:=if a.1.length<a.2.length then a.1 else a.2
def zJ:bM:=⟨192,List Int×List Int,.cons (dN (.i .u32)) (.one (dN (.i .u32))),λa=>(bA a.1/\bA a.2)/\a.1.length<=100000000000/\a.2.length<=100000000000,λa=> .row (.i .u32) (cE (bk a.1+bk a.2))⟩
def aaX (a:List Int×List Int):Nat->cB
 |6=> .inv Int (λi=>⟨[(0,.row (.i .u32) (big a)),(1,.row (.i .u32) (lN a)),(5,.ow 0 (oR (big a) (lN a) i.toNat).length 1),(6,.si .u64 (iL (big a) (lN a) i.toNat)),(21,.si .i64 (big a).length),(22,.si .i64 i)],[.row (.i .u32) (oR (big a) (lN a) i.toNat) 235 true]⟩) (λs=>iS s 22)
  (λi=>0<=i/\i<=(big a).length) (λi=>((big a).length - i).toNat) λ_ _=> .look
 |_=> .look
theorem dW {a:List Int} (h:bA a) (i:Nat):0<=bj a i 0/\bj a i 0<4294967296:=by
 by_cases b:i<a.length
 ·rw[cO b];exact h _ (List.getElem_mem b)
 grind[bj]
theorem DC {a:List Int} {i:Nat} (h:a.length<=i):bj a i 0=0:=by grind[bj]
theorem IU {s t:List Int} (b:bA s) (a:bA t):∀i,0<=iL s t i/\iL s t i<=1
 |0=>by simp[iL]
 |i+1=>by
  have h:=IU b a i
  have c:=dW b i
  have d:=dW a i
  grind[iL]
theorem xE {s t:List Int} {i:Nat} (h:i<=s.length):(oR s t i).length=s.length+1:=by grind[oR]
theorem IV {s t:List Int} {i:Nat} {v:Int} (h:i<=s.length):(oR s t i).set i v=(τ i).map (sC s t)++v::ε (s.length - i) 0:=by
 unfold oR
 have a:s.length+1 - i=(s.length - i)+1:=by omega
 rw[a,δm]
 simp_all
theorem QW {s t:List Int} {i:Nat} (h:i<s.length):oR s t (i+1)=(oR s t i).set i (sC s t i):=by
 rw[IV (by omega)]
 unfold oR;rw[δR,γa,List.append_assoc]
 simp_all
theorem lO {a:List Int} {i:Nat}:bk (a.take (i+1))=bk (a.take i)+4294967296^i*bj a i 0:=by
 by_cases h:i<a.length
 ·grind[Dz,xC]
 ·rw[DC (by omega),γn (by omega),γn (by omega)]
  simp
theorem IW {s t:List Int}:∀i,bk ((τ i).map (sC s t))+4294967296^i*iL s t i=bk (s.take i)+bk (t.take i)
 |0=>by simp[iL,bk]
 |i+1=>by
  have a:=@IW s t i
  rw[δR,γa,ι,γs,xC,lO,lO,γQ]
  grind[sC,iL]
theorem h154:Holds Tryz.prog zJ:=by
 refine cK (L:=[ry]) zJ aaX (by simpa using h152) ?_
 rintro⟨a,b⟩ ⟨⟨ha,hb⟩,hla,hlb⟩
 simp only at ha hb hla hlb
 refine bR (let c:=(18446744073709551616:Int);let d:=(0:Int);let e:=(4294967296:Int);let f:=γe .i64;let g:=Φ;let h:=bq.row;let j:=γ8;let m:=(↑(big (a,b)).length:Int);let q:=(↑(big (a,b)).length:Int);let r:=(↑(lN (a,b)).length:Int);let k:=bn.i .u32;let s:=g k (big (a,b));let t:=g k (lN (a,b));let v:=f m;let z:=oR (big (a,b)) (lN (a,b)) 0;let G:=∀(x:Int),let l:=oR (big (a,b)) (lN (a,b)) x.toNat;let n:=l.length;let o:=x+(1:Int);let A:=oR (big (a,b)) (lN (a,b)) o.toNat;let B:=f o;let C:=bj (big (a,b)) x.toNat d;let w:=iL (big (a,b)) (lN (a,b)) x.toNat;let y:=l.set q.toNat (w % e);let D:=λ(u u_1:Int) ↦let E:=(u % c+u_1) % c;d<=(32:Int)/\(32:Int)<=(64:Int)/\l.length=n/\d<=x/\x<(↑n:Int)/\l.length=n/\x.toNat<n/\bX .i64 o/\((s.same s/\t.same t/\(j 0 l.length 1).same (j 0 A.length 1)/\(γe .u64 (E / e)).same (γe .u64 (iL (big (a,b)) (lN (a,b)) o.toNat))/\v.same v/\B.same B/\True)/\(h k (l.set x.toNat (E % e)) 235 true).same (h k A 235 true)/\True)/\(d<=o/\o<=m)/\(m - o).toNat<(m - x).toNat;d<=x/\x<=m->(decide (x<m)=true->d<=x/\x<q/\x.toNat<(big (a,b)).length/\(decide (x<r)=true->d<=x/\x<r/\x.toNat<(lN (a,b)).length/\D (C % c+w) (bj (lN (a,b)) x.toNat d % c))/\(decide (x<r)=false->D C w))/\(decide (x<m)=false->l.length=n/\d<=q/\q<(↑n:Int)/\l.length=n/\q.toNat<n/\l.length=y.length/\y.length<=1000000000000/\(g k (bI y)).same (g k (cE (bk a+bk b))));let F:=λ(u:Bool) (u_1 u_2:List Int) ↦let p:=(↑u_1.length:Int)+(1:Int);decide ((↑a.length:Int)<(↑b.length:Int))=u->bX .i64 p/\d<=p/\p<=p/\p*(4:Int)<=(140737488355328:Int)/\p<=(1000000000000:Int)/\((((g k u_1).same s/\(g k u_2).same t/\(j 0 p.toNat 1).same (j 0 z.length 1)/\(γq .u64 0).same (γe .u64 (iL (big (a,b)) (lN (a,b)) 0))/\(f (↑u_1.length:Int)).same v/\(γq .i64 0).same (f 0)/\True)/\(h k (d::ε u_1.length d) 235 true).same (h k z 235 true)/\True)/\d<=d/\d<=m)/\G;F true b a/\F false a b) (by kernel_rfl) ?_
 simp only[vcs]
 have hbs:(a.length<b.length/\big (a,b)=b/\lN (a,b)=a)\/(¬a.length<b.length/\big (a,b)=a/\lN (a,b)=b):=by
  by_cases h:a.length<b.length
  ·exact .inl ⟨h,if_pos h,if_pos h⟩
  ·exact .inr ⟨h,if_neg h,if_neg h⟩
 generalize big (a,b)=s at*
 generalize lN (a,b)=t at*
 have hrow:∀{u v:List Int},u=v->(bq.row (.i .u32) u 235 true).same (bq.row (.i .u32) v 235 true):=by rintro _ _ rfl;rfl
 have how:∀{u v:Nat},u=v->(γ8 0 u 1).same (γ8 0 v 1):=by rintro _ _ rfl;rfl
 have r0:∀u v:List Int,oR u v 0=0::ε u.length 0:=λu v=>rfl
 refine⟨λh=>?_,λh=>?_⟩
 ·obtain⟨h1,e1,e2⟩:a.length<b.length/\s=b/\t=a:=by
   rcases hbs with h2|h2
   ·exact h2
   ·exact absurd (by omega) h2.1
  subst e1 e2
  have hS:bA s:=by assumption
  have hT:bA t:=by assumption
  have hts:t.length<=s.length:=by omega
  have bd:=IU hS hT
  refine⟨⟨by omega,by omega⟩,by omega,by omega,by omega,by omega,⟨⟨⟨rfl,rfl,how (by rw[xE (by omega)];omega),rfl,rfl⟩,hrow (r0 s t).symm⟩,by omega,by omega⟩,?_⟩
  rintro i ⟨i0,i1⟩
  have l1:=@xE s t i.toNat (by omega)
  have b1:=bd i.toNat
  have d1:=dW hS i.toNat
  have d2:=dW hT i.toNat
  refine⟨λj4=>?_,λmE=>?_⟩
  ·have l2:=@xE s t (i.toNat+1) (by omega)
   have e:(i+1).toNat=i.toNat+1:=by omega
   have hst:=QW (s:=s) (t:=t) (show i.toNat<s.length by omega)
   refine⟨i0,j4,by omega,λht=>?_,λht=>?_⟩
   ·have hv:(((bj s i.toNat 0 % 18446744073709551616+iL s t i.toNat) % 18446744073709551616+bj t i.toNat 0 % 18446744073709551616) % 18446744073709551616)=bj s i.toNat 0+iL s t i.toNat+bj t i.toNat 0:=by omega
    rw[hv,e]
    exact⟨i0,ht,by omega,by omega,by omega,i0,by omega,by omega,by omega,⟨⟨how (by omega),rfl⟩,hrow hst.symm⟩,by omega,by omega⟩
   ·have hz:=DC (a:=t) (i:=i.toNat) (by omega)
    have hv:((bj s i.toNat 0 % 18446744073709551616+iL s t i.toNat) % 18446744073709551616)=bj s i.toNat 0+iL s t i.toNat+bj t i.toNat 0:=by omega
    rw[hv,e]
    exact⟨by omega,by omega,i0,by omega,by omega,by omega,⟨⟨how (by omega),rfl⟩,hrow hst.symm⟩,by omega,by omega⟩
  ·have hi:i.toNat=s.length:=by omega
   have hc:iL s t i.toNat % 4294967296=iL s t i.toNat:=by omega
   rw[hc,γz,hi];rw[hi] at l1 b1
   refine⟨by omega,by omega,by omega,by simp,by simp;omega,?_⟩
   rw[IV (ψ _),Nat.sub_self,ε3,qs ?_]
   ·rw[xC]
    have hv:=@IW s t s.length
    rw[χ,γn hts] at hv
    have hl:((τ s.length).map (sC s t)).length=s.length:=by simp
    rw[hl,hv]
    try rw[ζG]
   ·intro d hd
    rcases ω.1 hd with hd|hd
    ·obtain⟨j,_,rfl⟩:=γf.1 hd
     unfold sC;omega
    ·rw[γJ] at hd
     omega
 ·obtain⟨h1,e1,e2⟩:¬a.length<b.length/\s=a/\t=b:=by
   rcases hbs with h2|h2
   ·exact absurd h2.1 (by omega)
   ·exact h2
  subst e1 e2
  have hS:bA s:=by assumption
  have hT:bA t:=by assumption
  have hts:t.length<=s.length:=by omega
  have bd:=IU hS hT
  refine⟨⟨by omega,by omega⟩,by omega,by omega,by omega,by omega,⟨⟨⟨rfl,rfl,how (by rw[xE (by omega)];omega),rfl,rfl⟩,hrow (r0 s t).symm⟩,by omega,by omega⟩,?_⟩
  rintro i ⟨i0,i1⟩
  have l1:=@xE s t i.toNat (by omega)
  have b1:=bd i.toNat
  have d1:=dW hS i.toNat
  have d2:=dW hT i.toNat
  refine⟨λj4=>?_,λmE=>?_⟩
  ·have l2:=@xE s t (i.toNat+1) (by omega)
   have e:(i+1).toNat=i.toNat+1:=by omega
   have hst:=QW (s:=s) (t:=t) (show i.toNat<s.length by omega)
   refine⟨i0,j4,by omega,λht=>?_,λht=>?_⟩
   ·have hv:(((bj s i.toNat 0 % 18446744073709551616+iL s t i.toNat) % 18446744073709551616+bj t i.toNat 0 % 18446744073709551616) % 18446744073709551616)=bj s i.toNat 0+iL s t i.toNat+bj t i.toNat 0:=by omega
    rw[hv,e]
    exact⟨i0,ht,by omega,by omega,by omega,i0,by omega,by omega,by omega,⟨⟨how (by omega),rfl⟩,hrow hst.symm⟩,by omega,by omega⟩
   ·have hz:=DC (a:=t) (i:=i.toNat) (by omega)
    have hv:((bj s i.toNat 0 % 18446744073709551616+iL s t i.toNat) % 18446744073709551616)=bj s i.toNat 0+iL s t i.toNat+bj t i.toNat 0:=by omega
    rw[hv,e]
    exact⟨by omega,by omega,i0,by omega,by omega,by omega,⟨⟨how (by omega),rfl⟩,hrow hst.symm⟩,by omega,by omega⟩
  ·have hi:i.toNat=s.length:=by omega
   have hc:iL s t i.toNat % 4294967296=iL s t i.toNat:=by omega
   rw[hc,γz,hi];rw[hi] at l1 b1
   refine⟨by omega,by omega,by omega,by simp,by simp;omega,?_⟩
   rw[IV (ψ _),Nat.sub_self,ε3,qs ?_]
   ·rw[xC]
    have hv:=@IW s t s.length
    rw[χ,γn hts] at hv
    have hl:((τ s.length).map (sC s t)).length=s.length:=by simp
    rw[hl,hv]
    try rw[ζG]
   ·intro d hd
    rcases ω.1 hd with hd|hd
    ·obtain⟨j,_,rfl⟩:=γf.1 hd
     unfold sC;omega
    ·rw[γJ] at hd
     omega
theorem xF:∀{a b:List Int},bA a->bA b->fD b->a.length<b.length->bk a<bk b
 |[],b,_,c,f,h=>by
  have n:=eV c
  grind[bk,val_zero]
 |d::l,[],_,_,_,h=>by simp at h
 |d::l,e::m,g,c,f,h=>by
  obtain⟨k,j⟩:=iZ.1 g
  obtain⟨o,i⟩:=iZ.1 c
  simp only[γv] at h
  have:=xF j i f.2 (by omega)
  grind[bk]
theorem IX:∀{k:Nat} {a b:List Int},bA a->bA b->k<a.length->k<b.length->a.drop (k+1)=b.drop (k+1)->bj a k 0<bj b k 0->bk a<bk b
 |_,[],_,_,_,h,_,_,_=>by simp at h
 |_,_::_,[],_,_,_,h,_,_=>by simp at h
 |0,d::l,e::m,f,g,_,_,h,c=>by
  grind[bj,bk]
 |k+1,d::l,e::m,f,g,n,q,h,c=>by
  obtain⟨p,j⟩:=iZ.1 f
  obtain⟨o,i⟩:=iZ.1 g
  simp only[List.drop_succ_cons] at h;simp only[bj,γP] at c
  have:=IX (k:=k) j i (by simp_all) (by simp_all) h c
  grind[bk]
theorem DD {a:List Int} {k:Nat} (h:k<a.length):a.drop k=bj a k 0::a.drop (k+1):=by simp_all[cO]
def lQ (x y:Int):Int:=if x<y then -1 else if y<x then 1 else 0
def xG:bM:=⟨159,List Int×List Int,.cons (dN (.i .u32)) (.one (dN (.i .u32))),λa=>(bA a.1/\bA a.2)/\a.1.length<=1000000000000/\a.2.length<=1000000000000,λa=> .si .i64 (lQ (bk a.1) (bk a.2))⟩
def aaY (a:List Int×List Int):Nat->cB
 |7=> .inv Int (λi=>⟨[(0,.row (.i .u32) (bI a.1)),(1,.row (.i .u32) (bI a.2)),(22,.si .i64 (bI a.1).length),(23,.si .i64 i)],[]⟩) (λs=>iS s 23)
  (λi=>0<=i/\i<=(bI a.1).length/\(bI a.1).drop ((bI a.1).length - i.toNat)=(bI a.2).drop ((bI a.1).length - i.toNat)) (λi=>((bI a.1).length - i).toNat) λ_ _=> .look
 |_=> .look
theorem h132:Holds Tryz.prog xG:=by
 refine cK (L:=[ry]) xG aaY (by simpa using h152) ?_
 rintro⟨a,b⟩ ⟨⟨ha,hb⟩,hla,hlb⟩
 simp only at ha hb hla hlb
 refine bR (let c:=(0:Int);let d:=γe .i64;let e:=γq .i64;let f:=bX .i64;let z0:Nat:=(bI a).length;let h:=(↑z0:Int);let z2:Nat:=(bI b).length;let l:=(↑z2:Int);let n:=d (lQ (bk a) (bk b));let o:=Φ (bn.i .u32) (bI a);let p:=Φ (bn.i .u32) (bI b);let z7:Nat:=(bI a).length;let j:=(↑z7:Int);let s:=d j;let t:=e 0;let g:=h - (1:Int);a.length<=1000000000000/\b.length<=1000000000000/\(decide (h≠l)=true->(decide (h<l)=true->(e (-1:Int)).same n)/\(decide (h<l)=false->(e 1).same n))/\(decide (h≠l)=false->(((o.same o/\p.same p/\(d h).same s/\t.same (d 0)/\True)/\True)/\c<=c/\c<=j/\δi (z7 - 0) (bI a)=δi (z7 - 0) (bI b))/\∀(x:Int),let m:=(g - x).toNat;let q:=bj (bI a) m c;let r:=bj (bI b) m c;let k:=x+(1:Int);let u:=d k;c<=x/\x<=j/\δi (z7 - x.toNat) (bI a)=δi (z7 - x.toNat) (bI b)->(decide (x<j)=true->f g/\f (g - x)/\c<=g - x/\g - x<h/\m<z0/\c<=g - x/\g - x<l/\m<z2/\(decide (q<r)=true->(e (-1:Int)).same n)/\(decide (q<r)=false->c<=g - x/\g - x<h/\m<z0/\c<=g - x/\g - x<l/\m<z2/\(decide (r<q)=true->(e 1).same n)/\(decide (r<q)=false->f k/\((o.same o/\p.same p/\s.same s/\u.same u/\True)/\True)/\(c<=k/\k<=j/\δi (z7 - k.toNat) (bI a)=δi (z7 - k.toNat) (bI b))/\(j - k).toNat<(j - x).toNat)))/\(decide (x<j)=false->t.same n))) (by kernel_rfl) ?_
 simp only[vcs]
 obtain⟨va,na⟩:=@rA a
 obtain⟨vb,nb⟩:=@rA b
 have da:=sB ha
 have db:=sB hb
 have la:=@t6 a
 rw[<-va,<-vb]
 generalize bI a=s at*
 generalize bI b=t at*
 have lt:bk s<bk t-> -1=lQ (bk s) (bk t):=λh=>by unfold lQ;rw[if_pos h]
 have gt:bk t<bk s->1=lQ (bk s) (bk t):=λh=>by unfold lQ;rw[if_neg (by omega),if_pos h]
 refine⟨hla,hlb,λhne=>⟨λh=>lt (xF da db nb (by omega)),λh=>gt (xF db da na (by omega))⟩,λhe=>⟨⟨by omega,by omega,?_⟩,?_⟩⟩
 ·rw[εi (by omega),εi (by omega)]
 rintro i ⟨i0,i1,hd⟩
 refine⟨λhlt=>?_,λhge=>?_⟩
 ·have hk:((s.length:Int) - 1 - i).toNat=s.length - 1 - i.toNat:=by omega
  have hk2:s.length - i.toNat=s.length - 1 - i.toNat+1:=by omega
  rw[hk];rw[hk2] at hd
  generalize hm:s.length - 1 - i.toNat=m at*
  refine⟨by omega,by omega,by omega,by omega,by omega,by omega,by omega,by omega,λh=>lt (IX da db (by omega) (by omega) hd h),λh=>⟨by omega,by omega,by omega,by omega,by omega,by omega,λh2=>gt (IX db da (by omega) (by omega) hd.symm h2),λh2=>⟨by omega,⟨by omega,by omega,?_⟩,by omega⟩⟩⟩
  rw[show s.length - (i+1).toNat=m by omega,DD (show m<s.length by omega),DD (show m<t.length by omega),hd,show bj s m 0=bj t m 0 by omega]
 ·have hz:s.length - i.toNat=0:=by omega
  rw[hz,δM,δM] at hd;subst hd;unfold lQ
  rw[if_neg (by omega),if_neg (by omega)]
def gP (d:Int):List Int->List Int×Int
 |[]=>([],0)
 |x::l=>(((gP d l).2*4294967296+x) / d::(gP d l).1,((gP d l).2*4294967296+x) % d)
theorem QX {d:Int}:∀{a:List Int},(gP d a).1.length=a.length
 |[]=>rfl
 |x::l=>by simp[gP,QX]
theorem DF {d:Int} (e:0<d) (k:d<4294967296):∀{a:List Int},bA a->bA (gP d a).1/\(0<=(gP d a).2/\(gP d a).2<d)/\bk (gP d a).1*d+(gP d a).2=bk a
 |[],_=>by grind[gP,bk]
 |x::l,h=>by
  obtain⟨n,g⟩:=iZ.1 h
  obtain⟨j,⟨p,s⟩,o⟩:=DF e k g
  simp only[gP]
  generalize (gP d l).1=q at*
  generalize (gP d l).2=r at*
  have f:=δT (r*4294967296+x) (show d≠0 by omega)
  have i:=δu (r*4294967296+x) e
  have c:0<=(r*4294967296+x) / d:=εa (by omega) (by omega)
  have b:(r*4294967296+x) / d<4294967296:=by
   refine Int.ediv_lt_of_lt_mul e ?_
   omega
  refine⟨iZ.2 ⟨⟨c,b⟩,j⟩,⟨f,i⟩,?_⟩
  simp only[bk]
  have m:=εn (r*4294967296+x) d
  grind
theorem aaZ {d:Int} (i:0<d) (h:d<4294967296) {a:List Int} (g:bA a):bI (gP d a).1=cE (bk a / d)/\(gP d a).2=bk a % d:=by
 obtain⟨e,⟨c,b⟩,f⟩:=DF i h g
 rw[qs e]
 have j:=eV e
 have k:bk a / d=bk (gP d a).1:=by
  rw[<-f,ζG,Int.add_mul_ediv_right _ _ (by omega),εM c b,Int.zero_add]
 have l:bk a % d=(gP d a).2:=by
  rw[<-f,ζG,Int.add_mul_emod_self_right,δQ c b]
 simp_all
theorem IY {r x:Int} (d:0<=r) (g:r<4294967296) (a:0<=x) (e:x<4294967296):fh.nJ .u64 (r*4294967296) x=r*4294967296+x:=by
 obtain⟨m,rfl⟩:=δL d
 obtain⟨k,rfl⟩:=δL a
 have b:(γt 64 ((m:Int)*4294967296)).toNat=2^32*m:=by
  grind[BitVec.toNat_ofInt]
 have c:(γt 64 (k:Int)).toNat=k:=by
  grind
 have f:(γt 64 ((m:Int)*4294967296) |||γt 64 (k:Int)).toNat=2^32*m+k:=by
  rw[BitVec.toNat_or,b,c,Nat.two_pow_add_eq_or_of_lt (by omega)]
 show eK .u64 ((γt 64 ((m:Int)*4294967296) |||γt 64 (k:Int)).toNat:Nat)=_
 grind[tc,IntKind.wrap,IntKind.bits,IntKind.signed]
def IZ:bM:=⟨233,List Int×Int,.cons (dN (.i .u32)) (.one (ez .u32)),λa=>bA a.1/\a.1.length<=100000000000/\0<a.2/\a.2<4294967296,λa=> .bH [.row (.i .u32) (cE (bk a.1 / a.2)),.si .u32 (bk a.1 % a.2)]⟩
def lR (a:List Int) (d:Int) (i:Nat):List Int:=ε (a.length - i) 0++(gP d (a.drop (a.length - i))).1
def lu (a:List Int) (d:Int) (i:Nat):Int:=(gP d (a.drop (a.length - i))).2
def aa0 (a:List Int×Int):Nat->cB
 |4=> .inv Int (λi=>⟨[(0,.row (.i .u32) a.1),(1,.si .u32 a.2),(6,.ow 0 (lR a.1 a.2 i.toNat).length 1),(7,.si .u64 (lu a.1 a.2 i.toNat)),(15,.si .i64 a.1.length),(16,.si .i64 i)],[.row (.i .u32) (lR a.1 a.2 i.toNat) 235 true]⟩) (λs=>iS s 16)
  (λi=>0<=i/\i<=a.1.length) (λi=>(a.1.length - i).toNat) λ_ _=> .look
 |_=> .look
theorem I0 {a:List Int} {d:Int} {i:Nat} (h:i<=a.length):(lR a d i).length=a.length:=by
 grind[lR,QX]
theorem drop_cons {a:List Int} {k:Nat} (h:k<a.length):a.drop k=bj a k 0::a.drop (k+1):=DD h
theorem QY {q:List Int} {y:Int}:∀k,(ε (k+1) 0++q).set k y=ε k 0++y::q
 |0=>by simp
 |k+1=>by
  have:=@QY q y k
  grind
theorem u64_in {n:Int} (b:0<=n) (a:n<18446744073709551616):bX .u64 n:=by
 show IntKind.u64.wrap n=n
 grind[IntKind.wrap,IntKind.bits,IntKind.signed]
theorem h167:Holds Tryz.prog IZ:=by
 refine cK (L:=[ry]) IZ aa0 (by simpa using h152) ?_
 rintro⟨a,d⟩ ⟨ha,hla,d0,d1⟩
 simp only at ha hla d0 d1
 refine bR (let b:=(0:Int);let c:=(18446744073709551616:Int);let e:=(4294967296:Int);let f:=γe .i64;let g:=Φ;let h:=bq.row;let j:=bX .i64;let k:=(1:Int);let l:=γ8;let n:=(↑a.length:Int);let o:=bn.i .u32;let q:=(↑a.length:Int);let t:=f q;let s:=d % c;b<=n/\n<=n/\n*(4:Int)<=(140737488355328:Int)/\n<=(1000000000000:Int)/\((((g o a).same (g o a)/\(γe .u32 d).same (γe .u32 d)/\(l 0 n.toNat 1).same (l 0 (lR a d 0).length 1)/\(γq .u64 0).same (γe .u64 (lu a d 0))/\(f n).same t/\(γq .i64 0).same (f 0)/\True)/\(h o (ε n.toNat b) 235 true).same (h o (lR a d 0) 235 true)/\True)/\b<=b/\b<=q)/\∀(x:Int),let p:=n - k - x;let u:=fh.nJ .u64 (lu a d x.toNat*e % c) (bj a p.toNat b % c);let m:=lR a d x.toNat;let r:=x+k;let v:=f r;b<=x/\x<=q->(decide (x<q)=true->j (n - k)/\j p/\b<=(32:Int)/\(32:Int)<=(64:Int)/\b<=p/\p<n/\p.toNat<a.length/\s≠b/\bX .u64 (u.tdiv s)/\s≠b/\m.length=m.length/\b<=p/\p<(↑m.length:Int)/\m.length=m.length/\p.toNat<m.length/\j r/\(((g o a).same (g o a)/\(γe .u32 d).same (γe .u32 d)/\(l 0 m.length 1).same (l 0 (lR a d r.toNat).length 1)/\(γe .u64 (u.tmod s)).same (γe .u64 (lu a d r.toNat))/\t.same t/\v.same v/\True)/\(h o (m.set p.toNat (u.tdiv s % e)) 235 true).same (h o (lR a d r.toNat) 235 true)/\True)/\(b<=r/\r<=q)/\(q - r).toNat<(q - x).toNat)/\(decide (x<q)=false->m.length=m.length/\m.length<=1000000000000/\(SV.bH [g o (bI m),γe .u32 (lu a d x.toNat % e)]).same (SV.bH [g o (cE (bk a / d)),γe .u32 (bk a % d)]))) (by kernel_rfl) ?_
 simp only[vcs]
 have hrow:∀{u v:List Int},u=v->(bq.row (.i .u32) u 235 true).same (bq.row (.i .u32) v 235 true):=by rintro _ _ rfl;rfl
 have how:∀{u v:Nat},u=v->(γ8 0 u 1).same (γ8 0 v 1):=by rintro _ _ rfl;rfl
 have z1:lR a d 0=ε a.length 0:=by simp[lR,gP]
 have z2:lu a d 0=0:=by simp[lu,gP]
 refine⟨by omega,by omega,by omega,by omega,⟨⟨⟨how (by rw[I0 (by omega)];omega),z2.symm⟩,hrow (by rw[z1,γz])⟩,by omega,by omega⟩,?_⟩
 rintro i ⟨i0,i1⟩
 have l1:=@I0 a d i.toNat (by omega)
 have l2:=λh=>@I0 a d (i+1).toNat h
 have dd:d % 18446744073709551616=d:=by omega
 refine⟨λj4=>?_,λmE=>?_⟩
 ·have hx:((a.length:Int) - 1 - i).toNat=a.length - 1 - i.toNat:=by omega
  have hk1:a.length - i.toNat=a.length - 1 - i.toNat+1:=by omega
  have hk2:a.length - (i+1).toNat=a.length - 1 - i.toNat:=by omega
  have hR:lR a d i.toNat=ε (a.length - 1 - i.toNat+1) 0++(gP d (a.drop (a.length - 1 - i.toNat+1))).1:=by unfold lR;rw[hk1]
  have hC:lu a d i.toNat=(gP d (a.drop (a.length - 1 - i.toNat+1))).2:=by unfold lu;rw[hk1]
  have hR2:lR a d (i+1).toNat=ε (a.length - 1 - i.toNat) 0++(gP d (a.drop (a.length - 1 - i.toNat))).1:=by unfold lR;rw[hk2]
  have hC2:lu a d (i+1).toNat=(gP d (a.drop (a.length - 1 - i.toNat))).2:=by unfold lu;rw[hk2]
  have hlt:a.length - 1 - i.toNat<a.length:=by omega
  rw[hx]
  have l3:=l2 (by omega)
  generalize a.length - 1 - i.toNat=k at*
  have hdr:=drop_cons hlt
  have hdig:bA (a.drop k):=λz hz=>ha z (γL hz)
  obtain⟨q1,q2,q3⟩:=DF d0 d1 (a:=a.drop (k+1)) (λz hz=>ha z (γL hz))
  obtain⟨p1,p2,p3⟩:=DF d0 d1 hdig
  rw[hdr] at hR2 hC2 p1 p2;simp only[gP] at hR2 hC2 p1 p2
  have hxd:=dW ha k
  rw[<-hC] at hR2 hC2 p1 p2 q2
  have e1:lu a d i.toNat*4294967296 % 18446744073709551616=lu a d i.toNat*4294967296:=by omega
  have e2:bj a k 0 % 18446744073709551616=bj a k 0:=by omega
  rw[e1,e2,dd,IY (by omega) (by omega) hxd.1 hxd.2]
  have hv0:0<=lu a d i.toNat*4294967296+bj a k 0:=by omega
  rw[ζb hv0,ζc hv0]
  have hq:=(iZ.1 p1).1
  have hqm:(lu a d i.toNat*4294967296+bj a k 0) / d % 4294967296=(lu a d i.toNat*4294967296+bj a k 0) / d:=δQ hq.1 hq.2
  rw[hqm]
  refine⟨by omega,by omega,by omega,by omega,by omega,by omega,by omega,by omega,u64_in hq.1 (by omega),by omega,by omega,by omega,by omega,by omega,⟨⟨how (by omega),hC2.symm⟩,hrow ?_⟩,by omega,by omega⟩
  rw[hR2,hR,QY]
 ·have hi:a.length - i.toNat=0:=by omega
  have hR:lR a d i.toNat=(gP d a).1:=by unfold lR;rw[hi];simp
  have hC:lu a d i.toNat=(gP d a).2:=by unfold lu;rw[hi];simp
  obtain⟨k1,k2⟩:=aaZ d0 d1 ha
  have hm:=δT (bk a) (show d≠0 by omega)
  have hl:=δu (bk a) d0
  refine⟨by omega,by rw[hR,k1],?_⟩
  rw[hC,k2];omega
def hJ:Nat->Int->List Int
 |0,_=>[]
 |k+1,x=>x % 4294967296::hJ k (x / 4294967296)
theorem zK:∀{k:Nat} {x:Int},(hJ k x).length=k
 |0,_=>rfl
 |k+1,x=>by simp[hJ,zK]
theorem I1:∀{k:Nat} {x:Int},bA (hJ k x)
 |0,_=>by simp[hJ,bA]
 |k+1,x=>iZ.2 ⟨by omega,I1⟩
theorem QZ:∀{l:List Int},bA l->hJ l.length (bk l)=l
 |[],_=>rfl
 |d::l,h=>by
  obtain⟨e,b⟩:=iZ.1 h
  simp only[γv,hJ,bk]
  have c:(d+4294967296*bk l) % 4294967296=d:=by omega
  have a:(d+4294967296*bk l) / 4294967296=bk l:=by omega
  rw[c,a,QZ b]
theorem I2 {l:List Int} {k:Nat} {x:Int} (h:bA l) (b:l.length=k) (a:bk l=x):l=hJ k x:=by
 grind[QZ]
theorem pow_pos (k:Nat):(0:Int)<4294967296^k:=Int.pow_pos (by decide)
theorem I3:∀{k:Nat} {x:Int},0<=x->x<4294967296^k->bk (hJ k x)=x
 |0,x,b,a=>by grind[hJ,bk]
 |k+1,x,b,a=>by
  rw[γQ] at a;simp only[hJ,bk]
  rw[I3 (k:=k) (x:=x / 4294967296) (by omega) (by omega)]
  omega
theorem I4:∀{a b:List Int},bk (a++b)=bk a+4294967296^a.length*bk b
 |[],b=>by simp[bk]
 |d::l,b=>by
  simp only[γB,bk,I4,γv,γQ,εz]
  grind
theorem t7:∀{l:List Int} {j:Nat} {v:Int},j<l.length->bk (l.set j v)=bk l+4294967296^j*(v - bj l j 0)
 |[],_,_,h=>by simp at h
 |d::l,0,v,_=>by grind[bk,bj]
 |d::l,j+1,v,h=>by
  have a:=@t7 l j v (by simpa using h)
  grind[bj,bk]
theorem ni {l:List Int} {j:Nat} {v:Int} (h:bA l) (c:0<=v) (b:v<4294967296):bA (l.set j v):=by
 intro d a
 rcases List.mem_or_eq_of_mem_set a with a|rfl
 ·exact h d a
 omega
theorem zL {a:List Int} (h:bA a) (n:Nat):bA (a.drop n):=λd b=>h d (γL b)
theorem Q0 {a b:List Int} (e:bA a) (c:bA b):bA (a++b):=λd f=>by
 rcases ω.1 f with h|h
 ·exact e d h
 ·exact c d h
theorem sD {l:List Int} {j:Nat} {v:Int} (h:j<l.length):bj (l.set j v) j 0=v:=by
 grind[bj]
theorem pH {l:List Int} {i j:Nat} {v:Int} (h:i≠j):bj (l.set i v) j 0=bj l j 0:=by
 grind[bj]
theorem zM:∀{l:List Int} {i j:Nat},bA l->bk l<4294967296^i->i<=j->bj l j 0=0
 |[],_,_,_,_,_=>by simp[bj]
 |d::l,0,j,h,a,c=>by
  obtain⟨e,b⟩:=iZ.1 h
  have:=eV b
  simp only[bk,Int.pow_zero] at a
  have f:d=0:=by omega
  have g:bk l=0:=by omega
  cases j with
  |zero=>simp[bj,f]
  |succ j=>
   have:=zM (l:=l) (i:=0) (j:=j) b (by simp;omega) (by omega)
   grind[bj]
 |d::l,i+1,j,h,a,c=>by
  obtain⟨e,b⟩:=iZ.1 h
  cases j with
  |zero=>omega
  |succ j=>
   rw[γQ] at a;simp only[bk] at a
   have:=zM (l:=l) (i:=i) (j:=j) b (by omega) (by omega)
   grind[bj]
def hZ (o b:List Int) (x:Int) (i:Nat):Nat->List Int×Int
 |0=>(o,0)
 |k+1=>((hZ o b x i k).1.set (i+k) ((x*bj b k 0+bj (hZ o b x i k).1 (i+k) 0+(hZ o b x i k).2) % 4294967296),(x*bj b k 0+bj (hZ o b x i k).1 (i+k) 0+(hZ o b x i k).2) / 4294967296)
theorem Q5 {o b:List Int} {x:Int} {i:Nat} (d:bA o) (g:bA b) (f:0<=x) (m:x<4294967296):∀{k:Nat},i+k<=o.length->
  bA (hZ o b x i k).1/\(hZ o b x i k).1.length=o.length/\(0<=(hZ o b x i k).2/\(hZ o b x i k).2<4294967296)/\(∀j,i+k<=j->bj (hZ o b x i k).1 j 0=bj o j 0)/\
  bk (hZ o b x i k).1+4294967296^(i+k)*(hZ o b x i k).2=bk o+4294967296^i*(x*bk (b.take k))
 |0,h=>by simp[hZ,d,bk]
 |k+1,h=>by
  obtain⟨l,t,⟨v,s⟩,u,r⟩:=@Q5 o b x i d g f m k (by omega)
  simp only[hZ]
  generalize (hZ o b x i k).1=p at*
  generalize (hZ o b x i k).2=c at*
  have a:=dW g k
  have q:=dW l (i+k)
  have n:0<=x*bj b k 0:=γA f a.1
  have e:x*bj b k 0<=4294967295*4294967295:=δN (by omega) (by omega) a.1 (by omega)
  grind[ni,t7,lO,bj]
def prt (U:List Int) (j k:Nat):List Int:=(U.drop j).take k
theorem Q7 {U:List Int} {j k:Nat}:bj (U.drop j) k 0=bj U (j+k) 0:=by
 grind[bj]
theorem lT {U:List Int} {j k:Nat}:bk (prt U j (k+1))=bk (prt U j k)+4294967296^k*bj U (j+k) 0:=by
 grind[prt,lO,Q7]
theorem t8 {U:List Int} {j k i:Nat} {d:Int} (h:k<=i):prt (U.set (j+i) d) j k=prt U j k:=by
 unfold prt
 apply List.ext_getElem?
 grind
theorem ua {U:List Int} (h:bA U) {j k:Nat}:bA (prt U j k):=nh (zL h j) k
theorem aa1 {U:List Int} {j k:Nat} (h:j+k<=U.length):(prt U j k).length=k:=by
 grind[prt]
theorem vz {U:List Int} (h:bA U) {j k:Nat}:bk (prt U j k)<4294967296^k:=by
 have g:=nT (ua h (j:=j) (k:=k))
 have e:(prt U j k).length<=k:=by grind[prt]
 have i:(4294967296:Int)^(prt U j k).length<=4294967296^k:=by
  have d:∀{a b:Nat},a<=b->(4294967296:Int)^a<=4294967296^b:=λ{a b} c=>by
   obtain⟨m,rfl⟩:=Nat.exists_eq_add_of_le c
   rw[εg]
   have f:=pow_pos a
   have l:=pow_pos m
   have:=Δ (show(1:Int)<=4294967296^m by omega) (γl f)
   omega
  exact d e
 omega
def i6 (U:List Int) (j:Nat) (l:List Int):List Int:=U.take j++(l++U.drop (j+l.length))
theorem aa2 {a b:List Int} (c:a.length=b.length) (h:∀m,bj a m 0=bj b m 0):a=b:=by
 apply List.ext_getElem c
 intro m d e
 have:=h m
 grind[cO]
theorem Q8 {U l:List Int} {j:Nat} (h:j+l.length<=U.length):(i6 U j l).length=U.length:=by
 grind[i6]
theorem aa3 {U l:List Int} {j m:Nat} (h:j+l.length<=U.length):bj (i6 U j l) m 0=if m<j then bj U m 0 else if m<j+l.length then bj l (m - j) 0 else bj U m 0:=by
 unfold i6 bj
 grind
theorem xH {U W:List Int} {j k:Nat} {x:Int} (d:bA W) (f:W.length=U.length) (g:j+k<=U.length) (e:∀m,(m<j\/j+k<=m)->bj W m 0=bj U m 0) (a:bk (prt W j k)=x):W=i6 U j (hJ k x):=by
 have b:prt W j k=hJ k x:=I2 (ua d) (aa1 (by omega)) a
 have c:=@zK k x
 apply aa2
 ·grind[Q8]
 ·intro m
  rw[aa3 (by omega),c]
  split
  ·simp_all
  ·split
   ·rw[<-b]
    unfold prt
    have:bj ((W.drop j).take k) (m - j) 0=bj (W.drop j) (m - j) 0:=by
     unfold bj
     grind
    grind[Q7]
   simp_all
section
variable {P V X v1 v2 u2 top rv ru g r:Int}
theorem aa4 (e:0<P) (n:V=rv+P*(v2+4294967296*v1)) (l:X=ru+P*(u2+4294967296*top)) (a:0<=rv) (f:ru<P) (d:X<4294967296*V) (b:0<=V)
  (c:0<=g) (j:g*v1+r=top) (h:4294967296<=g\/r*4294967296+u2<g*v2):X<g*V:=by
 rcases h with h|h
 ·exact Int.lt_of_lt_of_le d (γT h b)
 ·have k:g*V=g*rv+P*(g*v2+4294967296*(top - r)):=by
   grind
  have i:P*(u2+1+4294967296*top)<=P*(g*v2+4294967296*(top - r)):=Δ (by omega) (γl e)
  have m:0<=g*rv:=γA c a
  grind
theorem Q9 (c:0<P) (k:V=rv+P*(v2+4294967296*v1)) (n:X=ru+P*(u2+4294967296*top)) (a:0<=rv) (b:rv<P) (f:0<=ru) (e:2147483648<=v1) (j:0<=v2)
  (i:0<=g) (d:g<4294967296) (o:g*v1+r=top) (h:g*v2<=r*4294967296+u2):g*V<X+V:=by
 have m:g*V=g*rv+P*(g*v2+4294967296*(top - r)):=by
  grind
 have q:P*(g*v2+4294967296*(top - r))<=P*(u2+4294967296*top):=Δ (by omega) (γl c)
 have p:g*rv<=4294967295*rv:=γT (by omega) a
 have l:P*4294967296<=P*(v2+4294967296*v1):=Δ (by omega) (γl c)
 omega
theorem aa5 (c:0<P) (p:V=rv+P*(v2+4294967296*v1)) (k:X=ru+P*(u2+4294967296*top)) (b:0<=rv) (e:ru<P) (a:0<=v2) (f:u2<4294967296)
  (d:0<=g) (o:g*v1+r=top) (l:r<v1):X<(g+1)*V:=by
 have n:(g+1)*V=(g+1)*rv+((g+1)*(P*v2)+P*(4294967296*((g+1)*v1))):=by
  grind
 have j:0<=(g+1)*rv:=γA (by omega) b
 have h:0<=(g+1)*(P*v2):=γA (by omega) (γA (γl c) a)
 have i:top+1<=(g+1)*v1:=by grind
 have m:P*(u2+1+4294967296*top)<=P*(4294967296*((g+1)*v1)):=Δ (by omega) (γl c)
 grind
theorem aa6 {b a:Int} (c:0<P) (l:V=rv+P*(v2+4294967296*v1)) (k:X=ru+P*(u2+4294967296*(b+4294967296*a))) (d:rv<P) (f:0<=ru) (e:0<=u2) (i:0<=b) (j:v2<4294967296)
  (g:X<4294967296*V):a<=v1:=by
 by_cases h:a<=v1
 ·exact h
 ·exfalso
  have m:P*(4294967296*(4294967296*(v1+1)))<=P*(u2+4294967296*(b+4294967296*a)):=Δ (by omega) (γl c)
  have n:P*(v2+4294967296*v1)<=P*(4294967296*(v1+1) - 1):=Δ (by omega) (γl c)
  grind
theorem vA {X V q:Int} (e:q*V<=X) (c:X<(q+1)*V):X / V=q/\X % V=X - q*V:=by
 rw[Int.add_mul,δ3] at c
 have d:0<V:=by omega
 have b:X=(X - q*V)+V*q:=by grind
 have a:X / V=q:=by
  conv=>lhs;rw[b]
  rw[Int.add_mul_ediv_left _ _ (by omega),εM (by omega) (by omega),Int.zero_add]
 refine⟨a,?_⟩
 rw[Int.emod_def,a,εd]
end
theorem I5 {p:Int} (a:0<=p) (e:p<18446744073709551616):fh.tG .u64 p 4294967295=p % 4294967296:=by
 obtain⟨m,rfl⟩:=δL a
 have b:(γt 64 ((m:Nat):Int)).toNat=m:=by grind
 have c:(γt 64 4294967295).toNat=4294967295:=by simp_all
 have d:(γt 64 ((m:Nat):Int) &&&γt 64 4294967295).toNat=m % 4294967296:=by
  rw[BitVec.toNat_and,b,c]
  exact Nat.and_two_pow_sub_one_eq_mod m 32
 show eK .u64 ((γt 64 ((m:Nat):Int) &&&γt 64 4294967295).toNat:Nat)=_
 grind[tc,IntKind.wrap,IntKind.bits]
theorem I6 {U W v:List Int} {j i:Nat} {g c b d e:Int} (n:bA W) (f:W.length=U.length) (o:bA v) (h:0<=g) (r:g<4294967296) (y:0<=c) (t:c<4294967296) (s:0<=b) (q:b<=1) (u:j+i<U.length)
  (l:∀m,(m<j\/j+i<=m)->bj W m 0=bj U m 0)
  (k:bk (prt W j i)=bk (prt U j i) - g*bk (v.take i)+4294967296^i*(c+b))
  (a:0<=d/\d<4294967296) (w:d - 4294967296*e=bj W (j+i) 0 - (g*bj v i 0+c) % 4294967296 - b):
  bA (W.set (j+i) d)/\(W.set (j+i) d).length=U.length/\(0<=(g*bj v i 0+c) / 4294967296/\(g*bj v i 0+c) / 4294967296<4294967296)/\
  (∀m,(m<j\/j+(i+1)<=m)->bj (W.set (j+i) d) m 0=bj U m 0)/\
  bk (prt (W.set (j+i) d) j (i+1))=bk (prt U j (i+1)) - g*bk (v.take (i+1))+4294967296^(i+1)*((g*bj v i 0+c) / 4294967296+e):=by
 have x:=dW o i
 have z:0<=g*bj v i 0:=γA h x.1
 have p:g*bj v i 0<=4294967295*4294967295:=δN (by omega) (by omega) x.1 (by omega)
 refine⟨ni n a.1 a.2,by simp[f],by omega,λm A=>by grind[pH],?_⟩
 have B:=l (j+i) (.inr (ψ _))
 rw[lT,lT,t8 (ψ _),sD (by omega),k,lO,γQ]
 grind
theorem I7 {U W v:List Int} {j i:Nat} {c s:Int} (a:bA W) (d:W.length=U.length) (b:bA v) (n:0<=c) (l:c<=1) (h:j+i<U.length) (g:bA U)
  (e:∀m,(m<j\/j+i<=m)->bj W m 0=bj U m 0)
  (k:bk (prt W j i)+4294967296^i*c=bk (prt U j i)+bk (v.take i)) (o:s=bj W (j+i) 0+bj v i 0+c):
  bA (W.set (j+i) (s % 4294967296))/\(W.set (j+i) (s % 4294967296)).length=U.length/\(0<=s / 4294967296/\s / 4294967296<=1)/\
  (∀m,(m<j\/j+(i+1)<=m)->bj (W.set (j+i) (s % 4294967296)) m 0=bj U m 0)/\
  bk (prt (W.set (j+i) (s % 4294967296)) j (i+1))+4294967296^(i+1)*(s / 4294967296)=bk (prt U j (i+1))+bk (v.take (i+1)):=by
 have x:=dW b i
 have y:=dW a (j+i)
 refine⟨ni a (by omega) (by omega),by simp[d],by omega,λm p=>by grind[pH],?_⟩
 have f:=e (j+i) (.inr (ψ _))
 rw[lT,lT,t8 (ψ _),sD (by omega),lO,γQ]
 grind
theorem aa7 {v:List Int} {n:Nat} (a:2<=n) (b:v.length=n):bk v=bk (v.take (n - 2))+4294967296^(n - 2)*(bj v (n - 2) 0+4294967296*bj v (n - 1) 0):=by
 obtain⟨m,rfl⟩:∃m,n=m+2:=⟨n - 2,by omega⟩
 grind[lO]
theorem aa8 {U:List Int} {j n:Nat} (a:2<=n):bk (prt U j (n+1))=bk (prt U j (n - 2))+4294967296^(n - 2)*(bj U (j+(n - 2)) 0+4294967296*(bj U (j+(n - 1)) 0+4294967296*bj U (j+n) 0)):=by
 obtain⟨m,rfl⟩:∃m,n=m+2:=⟨n - 2,by omega⟩
 grind[lT]
structure nj where
 U:List Int
 j:Nat
 len:Nat
 n:Nat
 v:List Int
def nj.x (a:nj):Int:=bk (prt a.U a.j (a.v.length+1))
def nj.ok (a:nj):Prop:=(bA a.U/\bA a.v)/\(a.len=a.v.length+1/\a.n=a.U.length)/\(2<=a.v.length/\a.j+a.v.length+1<=a.U.length/\a.U.length<=200000000000)/\
 2147483648<=bj a.v (a.v.length - 1) 0/\a.x<4294967296*bk a.v
def nj.row (a:nj):List Int:=i6 a.U a.j (hJ (a.v.length+1) (a.x % bk a.v))
def I8:cV where
 f:=235
 α:=nj
 put a:=[.oc 0 a.j a.len a.n 1,.row (.i .u32) a.v]
 st a:=[.row (.i .u32) a.U 235 false]
 dec v o:=match v,o with
  |[.oc 0 j len n 1,v],[.row t l 235 false]=>match fW (.i .u32) v,iD t (.i .u32) l with
   |some v,some l=>some ⟨l,j,len,n,v⟩
   |_,_=>none
  |_,_=>none
 ok v o a h:=by
  split at h
  ·split at h
   ·rename_i h1 h2
    simp only[γ] at h;subst h
    obtain⟨rfl,hh⟩:=mW h2
    cases hh
    exact⟨by simp only[gL,jE h1],rfl⟩
   ·cases h
  ·cases h
 inj a b h1 h2:=by
  obtain⟨U,j,len,n,v⟩:=a
  obtain⟨U',j',len',n',v'⟩:=b
  simp only[gL,π,and_true] at h1
  obtain⟨g1,g2⟩:=h1
  have e2:=(dN (.i .u32)).inj _ _ g2
  simp only[SV.g,AV.os.injEq,true_and,bn.sz,Nat.mul_one] at g1;simp only[gO,ι,γs,bq.g,π,bP.cells.injEq,and_true] at h2
  have hl:U=U':=by
   have hf:=congrArg List.length h2
   rw[fe,fe] at hf
   exact lK (.i .u32) (by simpa[bn.sz] using hf) h2
  obtain⟨q1,q2,q3⟩:=g1
  subst q3
  have:j=j':=by omega
  rw[e2,hl,q2,this]
 dom:=nj.ok
 res a:=.si .u32 (a.x / bk a.v)
 out a:=[.row (.i .u32) a.row 235 false]
def I9 (U:List Int):bV:=[.row (.i .u32) U 235 false]
def aa9 (a:nj):Nat->cB
 |4=> .inv (Int×Int) (λx=>⟨[(0,.oc 0 a.j a.len a.n 1),(1,.row (.i .u32) a.v),(5,.si .i64 a.v.length),(7,.si .u64 x.1),(8,.si .u64 x.2)],I9 a.U⟩) (λs=>(iS s 7,iS s 8))
  (λx=>(0<=x.1/\x.1<=4294967297)/\(0<=x.2/\x.2<4294967296)/\x.1*bj a.v (a.v.length - 1) 0+x.2=bj a.U (a.j+(a.v.length - 1)) 0+4294967296*bj a.U (a.j+a.v.length) 0/\a.x<(x.1+1)*bk a.v) (λx=>x.1.toNat) λ_ _=> .look
 |10=> .inv (Int×Int×Int×Int×List Int) (λx=>⟨[(0,.oc 0 a.j a.len a.n 1),(1,.row (.i .u32) a.v),(5,.si .i64 a.v.length),(7,.si .u64 x.2.1),(9,.si .u64 x.2.2.1),(10,.si .u64 x.2.2.2.1),(82,.si .i64 a.v.length),(83,.si .i64 x.1)],I9 x.2.2.2.2⟩)
  (λs=>(iS s 83,iS s 7,iS s 9,iS s 10,oS (.i .u32) s 0))
  (λx=>(0<=x.1/\x.1<=a.v.length)/\(0<=x.2.1/\x.2.1<4294967296)/\(a.x<(x.2.1+1)*bk a.v/\x.2.1*bk a.v<a.x+bk a.v)/\(0<=x.2.2.1/\x.2.2.1<4294967296)/\(0<=x.2.2.2.1/\x.2.2.2.1<=1)/\(bA x.2.2.2.2/\x.2.2.2.2.length=a.U.length)/\
   (∀m,(m<a.j\/a.j+x.1.toNat<=m)->bj x.2.2.2.2 m 0=bj a.U m 0)/\
   bk (prt x.2.2.2.2 a.j x.1.toNat)=bk (prt a.U a.j x.1.toNat) - x.2.1*bk (a.v.take x.1.toNat)+4294967296^x.1.toNat*(x.2.2.1+x.2.2.2.1)) (λx=>(a.v.length - x.1).toNat) λ_ _=> .look
 |23=> .inv (Int×Int×Int×List Int) (λx=>⟨[(0,.oc 0 a.j a.len a.n 1),(1,.row (.i .u32) a.v),(5,.si .i64 a.v.length),(7,.si .u64 x.2.1),(9,.si .u64 x.2.2.1),(134,.si .i64 a.v.length),(135,.si .i64 x.1)],I9 x.2.2.2⟩)
  (λs=>(iS s 135,iS s 7,iS s 9,oS (.i .u32) s 0))
  (λx=>(0<=x.1/\x.1<=a.v.length)/\(0<=x.2.1/\x.2.1<4294967296)/\(a.x<x.2.1*bk a.v/\x.2.1*bk a.v<a.x+bk a.v)/\(0<=x.2.2.1/\x.2.2.1<=1)/\(bA x.2.2.2/\x.2.2.2.length=a.U.length)/\
   ∃W,(bA W/\W.length=a.U.length)/\(∀m,(m<a.j\/a.j+(a.v.length+1)<=m)->bj W m 0=bj a.U m 0)/\bk (prt W a.j (a.v.length+1))=a.x - x.2.1*bk a.v+4294967296^(a.v.length+1)/\
    (∀m,(m<a.j\/a.j+x.1.toNat<=m)->bj x.2.2.2 m 0=bj W m 0)/\bk (prt x.2.2.2 a.j x.1.toNat)+4294967296^x.1.toNat*x.2.2.1=bk (prt W a.j x.1.toNat)+bk (a.v.take x.1.toNat))
  (λx=>(a.v.length - x.1).toNat) λ_ _=> .look
 |_=> .look
theorem h169:dK Tryz.prog I8:=by
 refine jk (L:=[]) (W:=[]) I8 aa9 (by simp) (by simp) ?_
 rintro⟨U,j,len,n,v⟩ ⟨⟨hU,hv⟩,⟨e1,e2⟩,⟨hn,hj,hlU⟩,hv1,hx⟩
 simp only at hU hv hn hj hlU hv1 hx e1 e2
 subst e1 e2
 refine bR (let a:=(18446744073709551616:Int);let b:=(0:Int);let c:=(4294967296:Int);let d:=(1:Int);let e:=Φ;let f:=γe .i64;let g:=(32:Int);let h:=bX .i64;let k:=(9223372036854775808:Int);let l:=(4294967297:Int);let n:=(64:Int);let o:=bq.row;let p:=γq .i64 0;let q:=(63:Int);let r:=γq .i64;let D:=(↑v.length:Int);let y:=v.length+1;let F:=(↑y:Int);let B:=D - d;let Q:=bj v B.toNat b % a;let a7:=fh.nJ .u64 (bj U (j+D.toNat) 0 % a*c % a) (bj U (j+B.toNat) 0 % a);let K:=a7.tdiv Q;let C:=SV.oc 0 j y U.length 1;let w:=bn.i .u32;let s:=(↑v.length:Int);let t:=f s;let a8:=γe .u64 K;let R:=a7.tmod Q;let a9:=γe .u64 R;let J:=o w U 235 false;let aa:=v.length - 1;let a3:=bj v aa b;let a4:=bj U (j+aa) 0+c*bj U (j+v.length) 0;let ab:=nj.mk U j y U.length v;let E:=ab.x;let L:=s - d;let aJ:=bj v L.toNat b % a;let M:=E+bk v;let S:=bk (prt U j 0);let I:=j+s.toNat;let ac:=γe .u32 (E / bk v);let ad:=o w ab.row 235 false;let ae:=c^y;let H:=s - (2:Int);U.length=U.length/\b<=D/\D<F/\j+y<=U.length/\U.length=U.length/\j+D.toNat<U.length/\b<=g/\g<=n/\h B/\U.length=U.length/\b<=B/\B<F/\j+y<=U.length/\U.length=U.length/\j+B.toNat<U.length/\h B/\b<=B/\B<D/\B.toNat<v.length/\Q≠b/\bX .u64 K/\h B/\b<=B/\B<D/\B.toNat<v.length/\Q≠b/\(((C.same C/\(e w v).same (e w v)/\(f D).same t/\a8.same a8/\a9.same a9/\True)/\J.same J/\True)/\(b<=K/\K<=l)/\(b<=R/\R<c)/\K*a3+R=a4/\E<(K+d)*bk v)/\∀(x:Int×Int),let N:=(x.snd+aJ) % a;let af:=decide (c<=N);let G:=(x.fst - d) % a;let T:=γe .u64 G;let ag:=γe .u64 N;let ah:=decide (c<=x.fst);let ai:=γe .u64 x.fst;let aj:=∀(x:Int×Int×Int×Int×List Int),let V:=x.snd.fst*bk v;let z:=x.snd.snd.snd.snd;let X:=x.snd.snd.snd.fst;let Y:=x.snd.snd.fst;let ak:=((bj z I b % a - Y) % a - X) % a;let O:=j+x.fst.toNat;let Z:=x.fst+d;let a0:=γe .u64 x.snd.fst;let al:=(x.snd.fst*(bj v x.fst.toNat b % a) % a+Y) % a;let am:=al / c;let an:=γe .u64 am;let ao:=fh.tG .u64 al (4294967295:Int);let ap:=((bj z O b % a - ao) % a - X) % a;let aq:=ap / k;let ar:=γe .u64 aq;let au:=f Z;let P:=z.set I (ak % c);let av:=λ(u u_1 u_2:Int) (u_3:List Int) ↦(b<=u/\u<=s)/\(b<=x.snd.fst/\x.snd.fst<c)/\(E<(x.snd.fst+d)*bk v/\V<M)/\(b<=u_1/\u_1<c)/\(b<=u_2/\u_2<=d)/\(bA u_3/\u_3.length=U.length)/\(∀(m:Nat),m<j\/j+u.toNat<=m->bj u_3 m b=bj U m b)/\bk (prt u_3 j u.toNat)=bk (prt U j u.toNat) - x.snd.fst*bk (γd u.toNat v)+c^u.toNat*(u_1+u_2);let aw:=λ(u:Nat) (u_1:Int) ↦let ax:=o w (z.set u (((bj z u b % a - u_1) % a - X) % a % c)) 235 false;ax.same ax/\True;let ay:=λ(u:Bool) ↦decide (ak / k=b)=u;av x.fst Y X z->(decide (x.fst<s)=true->b<=x.fst/\x.fst<D/\x.fst.toNat<v.length/\b<=g/\g<=n/\U.length=z.length/\b<=x.fst/\x.fst<F/\j+y<=U.length/\U.length=z.length/\O<z.length/\b<=q/\q<=n/\U.length=z.length/\b<=x.fst/\x.fst<F/\j+y<=U.length/\U.length=z.length/\O<z.length/\h Z/\((C.same C/\(e w v).same (e w v)/\t.same t/\a0.same a0/\an.same an/\ar.same ar/\t.same t/\au.same au/\True)/\aw O ao)/\av Z am aq (z.set O (ap % c))/\(s - Z).toNat<(s - x.fst).toNat)/\(decide (x.fst<s)=false->U.length=z.length/\b<=s/\s<F/\j+y<=U.length/\U.length=z.length/\I<z.length/\U.length=z.length/\b<=s/\s<F/\j+y<=U.length/\U.length=z.length/\I<z.length/\b<=q/\q<=n/\(ay true->(γe .u32 (x.snd.fst % c)).same ac/\(o w P 235 false).same ad/\True)/\(ay false->(((C.same C/\(e w v).same (e w v)/\t.same t/\a0.same a0/\(γq .u64 0).same (γe .u64 0)/\t.same t/\(p).same (f 0)/\True)/\aw I Y)/\(b<=b/\b<=s)/\(b<=x.snd.fst/\x.snd.fst<c)/\(E<V/\V<M)/\(b<=b/\b<=d)/\(bA P/\P.length=U.length)/\∃(W:List Int),(bA W/\W.length=U.length)/\(∀(m:Nat),m<j\/j+y<=m->bj W m b=bj U m b)/\bk (prt W j y)=E - V+ae/\(∀(m:Nat),m<j\/j+0<=m->bj P m b=bj W m b)/\bk (prt P j 0)+b=bk (prt W j 0)+bk [])/\∀(x:Int×Int×Int×List Int),let a5:=x.snd.fst*bk v;let a6:=x.snd.snd.fst;let A:=x.snd.snd.snd;let a1:=j+x.fst.toNat;let a2:=x.fst+d;let az:=γe .u64 x.snd.fst;let aA:=((bj A a1 b % a+bj v x.fst.toNat b % a) % a+a6) % a;let aB:=aA / c;let aC:=γe .u64 aB;let aD:=f a2;let aE:=A.set a1 (aA % c);let aF:=o w aE 235 false;let aG:=λ(u u_1:Int) (u_2:List Int) ↦(b<=u/\u<=s)/\(b<=x.snd.fst/\x.snd.fst<c)/\(E<a5/\a5<M)/\(b<=u_1/\u_1<=d)/\(bA u_2/\u_2.length=U.length)/\∃(W:List Int),(bA W/\W.length=U.length)/\(∀(m:Nat),m<j\/j+y<=m->bj W m b=bj U m b)/\bk (prt W j y)=E - a5+ae/\(∀(m:Nat),m<j\/j+u.toNat<=m->bj u_2 m b=bj W m b)/\bk (prt u_2 j u.toNat)+c^u.toNat*u_1=bk (prt W j u.toNat)+bk (γd u.toNat v);aG x.fst a6 A->(decide (x.fst<s)=true->U.length=A.length/\b<=x.fst/\x.fst<F/\j+y<=U.length/\U.length=A.length/\a1<A.length/\b<=x.fst/\x.fst<D/\x.fst.toNat<v.length/\b<=g/\g<=n/\U.length=A.length/\b<=x.fst/\x.fst<F/\j+y<=U.length/\U.length=A.length/\a1<A.length/\h a2/\((C.same C/\(e w v).same (e w v)/\t.same t/\az.same az/\aC.same aC/\t.same t/\aD.same aD/\True)/\aF.same aF/\True)/\aG a2 aB aE/\(s - a2).toNat<(s - x.fst).toNat)/\(decide (x.fst<s)=false->U.length=A.length/\b<=s/\s<F/\j+y<=U.length/\U.length=A.length/\I<A.length/\U.length=A.length/\b<=s/\s<F/\j+y<=U.length/\U.length=A.length/\I<A.length/\(γe .u32 ((x.snd.fst - d) % a % c)).same ac/\(o w (A.set I ((bj A I b+a6 % c) % c)) 235 false).same ad/\True)));let aH:=h L/\b<=L/\L<D/\L.toNat<v.length/\(af=true->(((C.same C/\(e w v).same (e w v)/\t.same t/\T.same T/\(γq .u64 0).same (γe .u64 0)/\(γq .u64 0).same (γe .u64 0)/\t.same t/\(p).same (f 0)/\True)/\J.same J/\True)/\(b<=b/\b<=s)/\(b<=G/\G<c)/\(E<(G+d)*bk v/\G*bk v<M)/\(b<=b/\b<c)/\(b<=b/\b<=d)/\(bA U/\U.length=U.length)/\(∀(m:Nat),m<j\/j+0<=m->bj U m b=bj U m b)/\S=S - G*bk []+b)/\aj)/\(af=false->((C.same C/\(e w v).same (e w v)/\t.same t/\T.same T/\ag.same ag/\True)/\J.same J/\True)/\((b<=G/\G<=l)/\(b<=N/\N<c)/\G*a3+N=a4/\E<(G+d)*bk v)/\G.toNat<x.fst.toNat);let aI:=λ(u:Bool) ↦decide (fh.nJ .u64 (x.snd*c % a) (bj U (j+H.toNat) 0 % a)<x.fst*(bj v H.toNat b % a) % a)=u;(b<=x.fst/\x.fst<=l)/\(b<=x.snd/\x.snd<c)/\x.fst*a3+x.snd=a4/\E<(x.fst+d)*bk v->(ah=true->aH)/\(ah=false->h H/\b<=H/\H<D/\H.toNat<v.length/\b<=g/\g<=n/\h H/\U.length=U.length/\b<=H/\H<F/\j+y<=U.length/\U.length=U.length/\j+H.toNat<U.length/\(aI true->aH)/\(aI false->(((C.same C/\(e w v).same (e w v)/\t.same t/\ai.same ai/\(γq .u64 0).same (γe .u64 0)/\(γq .u64 0).same (γe .u64 0)/\t.same t/\(p).same (f 0)/\True)/\J.same J/\True)/\(b<=b/\b<=s)/\(b<=x.fst/\x.fst<c)/\(E<(x.fst+d)*bk v/\x.fst*bk v<M)/\(b<=b/\b<c)/\(b<=b/\b<=d)/\(bA U/\U.length=U.length)/\(∀(m:Nat),m<j\/j+0<=m->bj U m b=bj U m b)/\S=S - x.fst*bk []+b)/\aj))) (by kernel_rfl) ?_
 simp only[vcs]
 have t1:((v.length:Int) - 1).toNat=v.length - 1:=by omega
 have t2:((v.length:Int) - 2).toNat=v.length - 2:=by omega
 have t3:((v.length:Int)).toNat=v.length:=by omega
 have xI:=aa7 hn rfl
 have xJ:=@aa8 U j v.length hn
 have dv1:=dW hv (v.length - 1)
 have vB:=dW hv (v.length - 2)
 have Rb:=dW hU (j+v.length)
 have Ja:=dW hU (j+(v.length - 1))
 have DG:=dW hU (j+(v.length - 2))
 have m1:bj v (v.length - 1) 0 % 18446744073709551616=bj v (v.length - 1) 0:=by omega
 have m2:bj v (v.length - 2) 0 % 18446744073709551616=bj v (v.length - 2) 0:=by omega
 have m3:bj U (j+v.length) 0 % 18446744073709551616=bj U (j+v.length) 0:=by omega
 have m4:bj U (j+(v.length - 1)) 0 % 18446744073709551616=bj U (j+(v.length - 1)) 0:=by omega
 have m5:bj U (j+(v.length - 2)) 0 % 18446744073709551616=bj U (j+(v.length - 2)) 0:=by omega
 have m6:bj U (j+v.length) 0*4294967296 % 18446744073709551616=bj U (j+v.length) 0*4294967296:=by omega
 have hor:=IY Rb.1 Rb.2 Ja.1 Ja.2
 have htop:0<=bj U (j+v.length) 0*4294967296+bj U (j+(v.length - 1)) 0:=by omega
 have hx':bk (prt U j (v.length+1))<4294967296*bk v:=hx
 have hP:=pow_pos (v.length - 2)
 have qe:=eV (nh hv (v.length - 2))
 have zO:=nT (nh hv (v.length - 2))
 rw[Ξ,εo (by omega)] at zO
 have ox:=eV (ua hU (j:=j) (k:=v.length - 2))
 have Jb:=vz hU (j:=j) (k:=v.length - 2)
 have hV0:=eV hv
 have hX0:=eV (ua hU (j:=j) (k:=v.length+1))
 have htp:=aa6 hP xI xJ zO ox DG.1 Ja.1 vB.2 hx'
 have hax:(nj.mk U j (v.length+1) U.length v).x=bk (prt U j (v.length+1)):=rfl
 simp only[hax,t1,t2,t3,m1,m2,m3,m4,m5,m6,hor,ζb htop,ζc htop]
 generalize abe:bj v (v.length - 1) 0=v1 at*
 generalize abf:bj v (v.length - 2) 0=v2 at*
 generalize agh:bj U (j+v.length) 0=u0 at*
 generalize abg:bj U (j+(v.length - 1)) 0=u1 at*
 generalize abh:bj U (j+(v.length - 2)) 0=u2 at*
 have hqr:=εn (u0*4294967296+u1) v1
 have hr0:=δT (u0*4294967296+u1) (show v1≠0 by omega)
 have hr1:=δu (u0*4294967296+u1) (show 0<v1 by omega)
 have hg0:0<=(u0*4294967296+u1) / v1:=εa htop (by omega)
 generalize hge:(u0*4294967296+u1) / v1=g0 at*
 generalize hre:(u0*4294967296+u1) % v1=r0 at*
 have hg1:g0<=4294967297:=by
  by_cases h:g0<=4294967297
  ·exact h
  ·exfalso
   have:=Δ (show(4294967298:Int)<=g0 by omega) (show 0<=v1 by omega)
   omega
 have Re:g0*v1+r0=u1+4294967296*u0:=by rw[εd g0];omega
 have hst:=aa5 hP xI xJ qe Jb vB.1 DG.2 hg0 Re hr1
 have hin:bX .u64 g0:=u64_in hg0 (by omega)
 repeat refine γj (by omega) ?_
 clear t1 t2 t3 m1 m2 m3 m4 m5 m6 hor htop hge hre hqr hr0 hr1 hg0 hg1 Re hst hin abe abf abg abh hx
 rintro⟨g,r⟩ ⟨⟨g0',g1'⟩,⟨r0',r1'⟩,hgr,hgx⟩
 simp only at g0' g1' r0' r1' hgr hgx ⊢
 have DI:0<g+1:=by omega
 have e1:(r+v1) % 18446744073709551616=r+v1:=by omega
 have e2:r*4294967296 % 18446744073709551616=r*4294967296:=by omega
 have gv0:0<=g*v2:=γA g0' vB.1
 have gv1:g*v2<=4294967297*4294967295:=δN (by omega) (by omega) vB.1 (by omega)
 have e3:g*v2 % 18446744073709551616=g*v2:=by omega
 have hor2:=IY r0' r1' DG.1 DG.2
 have Jc:g*v1+r=u1+4294967296*u0:=hgr
 have Rf:4294967296<=r+v1->g<=4294967296:=λh=>by
  by_cases hg:g<=4294967296
  ·exact hg
  ·have:g=4294967297:=by omega
   subst this;omega
 have dec:(4294967296<=g\/r*4294967296+u2<g*v2)->(bk (prt U j (v.length+1))<g*bk v/\(g - 1) % 18446744073709551616=g - 1/\0<=g - 1/\(g - 1)*v1+(r+v1)=u1+4294967296*u0):=λh=>by
  have h1:=aa4 hP xI xJ qe Jb hx' hV0 g0' Jc h
  have h2:g≠0:=by
   rintro rfl
   omega
  refine⟨h1,by omega,by omega,?_⟩
  rw[ζN,δ3];omega
 simp only[e1,e2,e3,hor2]
 have brk:(4294967296<=g\/r*4294967296+u2<g*v2)->4294967296<=r+v1->∃gg,gg=(g - 1) % 18446744073709551616/\(0<=gg/\gg<4294967296)/\bk (prt U j (v.length+1))<(gg+1)*bk v/\gg*bk v<bk (prt U j (v.length+1))+bk v:=λh hb=>by
  obtain⟨k1,k2,k3,k4⟩:=dec h
  have k5:=Rf hb
  rw[k2]
  refine⟨_,rfl,by omega,by rw[show g - 1+1=g by omega];exact k1,Q9 hP xI xJ qe zO ox hv1 vB.1 k3 (by omega) k4 ?_⟩
  have:=δN (show g - 1<=4294967295 by omega) (show v2<=4294967295 by omega) vB.1 (by omega)
  omega
 have zQ:(4294967296<=g\/r*4294967296+u2<g*v2)->¬4294967296<=r+v1->(0<=(g - 1) % 18446744073709551616/\(g - 1) % 18446744073709551616<=4294967297)/\(g - 1) % 18446744073709551616*v1+(r+v1)=u1+4294967296*u0/\bk (prt U j (v.length+1))<((g - 1) % 18446744073709551616+1)*bk v/\((g - 1) % 18446744073709551616).toNat<g.toNat:=λh hb=>by
  obtain⟨k1,k2,k3,k4⟩:=dec h
  rw[k2]
  exact⟨by omega,k4,by rw[show g - 1+1=g by omega];exact k1,by omega⟩
 have ext:¬4294967296<=g->¬r*4294967296+u2<g*v2->∃gg,gg=g/\(0<=gg/\gg<4294967296)/\bk (prt U j (v.length+1))<(gg+1)*bk v/\gg*bk v<bk (prt U j (v.length+1))+bk v:=λh h2=>
  ⟨_,rfl,by omega,hgx,Q9 hP xI xJ qe zO ox hv1 vB.1 g0' (by omega) Jc (by omega)⟩
 clear Jc DI e1 e2 e3 gv0 gv1 hor2 xI xJ qe zO ox Jb Rf dec htp
 refine⟨λhB=>?_,λhB=>?_⟩
 ·refine⟨by omega,by omega,by omega,by omega,?_⟩
  refine⟨λhb=>?_,λhb=>?_⟩
  ·obtain⟨gg,hgg,f0,f2,f3⟩:=brk (.inl hB) hb
   rw[<-hgg]
   clear hB hb
   clear hgg brk zQ ext hgx hgr
   refine⟨?_,?_⟩
   ·repeat' refine γj ?_ ?_
    all_goals first|omega|exact hU|exact f2|exact f3|exact λ_ _=>trivial|(simp only[bk];omega)
   clear f0 f2 f3
   rintro⟨i,ga,c,b,R⟩ ⟨⟨i0,i1⟩,⟨nU,qt⟩,⟨f2,f3⟩,⟨c0,c1⟩,⟨b0,b1⟩,⟨hR,hRl⟩,ho,he⟩
   simp only at i0 i1 nU qt f2 f3 c0 c1 b0 b1 hR hRl ho he ⊢
   refine⟨λj4=>?_,λmE=>?_⟩
   ·have x:=dW hv i.toNat
    have y:=dW hR (j+i.toNat)
    have Rh:0<=ga*bj v i.toNat 0:=γA nU x.1
    have Ri:ga*bj v i.toNat 0<=4294967295*4294967295:=δN (by omega) (by omega) x.1 (by omega)
    have q1:bj v i.toNat 0 % 18446744073709551616=bj v i.toNat 0:=by omega
    have q2:bj R (j+i.toNat) 0 % 18446744073709551616=bj R (j+i.toNat) 0:=by omega
    have q3:(ga*bj v i.toNat 0 % 18446744073709551616+c) % 18446744073709551616=ga*bj v i.toNat 0+c:=by omega
    have hi1:(i+1).toNat=i.toNat+1:=by omega
    rw[q1,q2,q3,I5 (by omega) (by omega),hi1]
    generalize hq:((bj R (j+i.toNat) 0 - (ga*bj v i.toNat 0+c) % 4294967296) % 18446744073709551616 - b) % 18446744073709551616=q
    obtain⟨k1,k2,k3,k4,k5⟩:=I6 (d:=q % 4294967296) (e:=q / 9223372036854775808) hR hRl hv nU qt c0 c1 b0 b1 (show j+i.toNat<U.length by omega) ho he (by omega) (by omega)
    repeat' refine γj ?_ ?_
    all_goals first|omega|exact k1|exact k2|exact k3|exact k4|exact k5|exact f2|exact f3
   ·have hi:i.toNat=v.length:=by omega
    rw[hi,χ] at he;rw[hi] at ho
    have hun:=ho (j+v.length) (.inr (ψ _))
    have du:=dW hU (j+v.length)
    have q2:bj R (j+v.length) 0 % 18446744073709551616=bj R (j+v.length) 0:=by rw[hun];omega
    have qu:=@lT U j v.length
    rw[q2]
    generalize hq:((bj R (j+v.length) 0 - c) % 18446744073709551616 - b) % 18446744073709551616=q
    have kB:bA (R.set (j+v.length) (q % 4294967296)):=ni hR (by omega) (by omega)
    have hlen:(R.set (j+v.length) (q % 4294967296)).length=U.length:=by simp[hRl]
    have hout:∀m,(m<j\/j+(v.length+1)<=m)->bj (R.set (j+v.length) (q % 4294967296)) m 0=bj U m 0:=λm hm=>by rw[pH (by omega)];exact ho m (by omega)
    have hval:bk (prt (R.set (j+v.length) (q % 4294967296)) j (v.length+1))=bk (prt U j (v.length+1)) - ga*bk v+4294967296^(v.length+1)*(q / 9223372036854775808):=by
     rw[lT,t8 (ψ _),sD (by omega),he,qu,γQ]
     have hd:q % 4294967296 - 4294967296*(q / 9223372036854775808)=bj U (j+v.length) 0 - c - b:=by rw[hun] at hq;omega
     generalize (4294967296:Int)^v.length=B
     have e:B*4294967296*(q / 9223372036854775808)=B*(q % 4294967296+c+b - bj U (j+v.length) 0):=by rw[δl];congr 1;omega
     rw[e];simp only[εz,εP];omega
    generalize hW:R.set (j+v.length) (q % 4294967296)=W at*
    have hbd:=vz kB (j:=j) (k:=v.length+1)
    have hnn:=eV (ua kB (j:=j) (k:=v.length+1))
    have q3:0<=q/\q<18446744073709551616:=by omega
    clear hq hun du q2 he ho hR
    repeat refine γj (by omega) ?_
    refine⟨λhz=>?_,λhz=>?_⟩
    ·rw[hz,δO,εp] at hval
     obtain⟨w1,w2⟩:=vA (q:=ga) (show ga*bk v<=bk (prt U j (v.length+1)) by omega) f2
     refine⟨by rw[w1];omega,?_⟩
     have hfin:W=i6 U j (hJ (v.length+1) (bk (prt U j (v.length+1)) % bk v)):=xH kB hlen (by omega) hout (by rw[hval,w2])
     rw[hfin];rfl
    ·have hq1:q / 9223372036854775808=1:=by omega
     rw[hq1,ε6] at hval
     have f4:bk (prt U j (v.length+1))<ga*bk v:=by omega
     refine⟨?_,?_⟩
     ·repeat' refine γj ?_ ?_
      all_goals first|omega|exact kB|exact hlen|exact⟨W,⟨kB,hlen⟩,hout,hval,λ_ _=>rfl,by simp only[bk]⟩
     clear kB hlen hout hval hW hbd hnn q3 hz hq1 f4 f2 f3 c0 c1 b0 b1 i0 i1 nU qt
     rintro⟨i2,gb,c2,R2⟩ ⟨⟨i0,i1⟩,⟨zR,zS⟩,⟨f5,f6⟩,⟨c0,c1⟩,⟨hR2,qw⟩,W2,⟨hW2,ub⟩,ho2,uf,ho3,qx⟩
     simp only at i0 i1 zR zS f5 f6 c0 c1 hR2 qw ho3 qx ⊢
     refine⟨λj4=>?_,λmE=>?_⟩
     ·have x:=dW hv i2.toNat
      have y:=dW hR2 (j+i2.toNat)
      have hi1:(i2+1).toNat=i2.toNat+1:=by omega
      rw[hi1]
      have hs:((bj R2 (j+i2.toNat) 0 % 18446744073709551616+bj v i2.toNat 0 % 18446744073709551616) % 18446744073709551616+c2) % 18446744073709551616=bj R2 (j+i2.toNat) 0+bj v i2.toNat 0+c2:=by omega
      rw[hs]
      obtain⟨k1,k2,k3,k4,k5⟩:=I7 hR2 (qw.trans ub.symm) hv c0 c1 (show j+i2.toNat<W2.length by omega) hW2 ho3 qx rfl
      repeat' refine γj ?_ ?_
      all_goals first|omega|exact k1|exact f5|exact f6|exact⟨W2,⟨hW2,ub⟩,ho2,uf,k4,k5⟩
     ·have hi2:i2.toNat=v.length:=by omega
      rw[hi2,χ] at qx;rw[hi2] at ho3
      have hun:=ho3 (j+v.length) (.inr (ψ _))
      have du:=dW hW2 (j+v.length)
      have qu:=@lT W2 j v.length
      have hc2:c2 % 4294967296=c2:=by omega
      rw[hc2,hun]
      have hF:bA (R2.set (j+v.length) ((bj W2 (j+v.length) 0+c2) % 4294967296)):=ni hR2 (by omega) (by omega)
      have zT:(R2.set (j+v.length) ((bj W2 (j+v.length) 0+c2) % 4294967296)).length=U.length:=by simp[qw]
      have zU:∀m,(m<j\/j+(v.length+1)<=m)->bj (R2.set (j+v.length) ((bj W2 (j+v.length) 0+c2) % 4294967296)) m 0=bj U m 0:=λm hm=>by rw[pH (by omega),ho3 m (by omega)];exact ho2 m hm
      have qy:bk (prt (R2.set (j+v.length) ((bj W2 (j+v.length) 0+c2) % 4294967296)) j (v.length+1))=bk (prt U j (v.length+1)) - gb*bk v+4294967296^(v.length+1)+bk v - 4294967296^(v.length+1)*((bj W2 (j+v.length) 0+c2) / 4294967296):=by
       rw[lT,t8 (ψ _),sD (by omega),<-uf,qu,γQ]
       generalize (4294967296:Int)^v.length=B at*
       have e:B*4294967296*((bj W2 (j+v.length) 0+c2) / 4294967296)=B*(bj W2 (j+v.length) 0+c2 - (bj W2 (j+v.length) 0+c2) % 4294967296):=by rw[δl];congr 1;omega
       rw[e];simp only[εz,εP];omega
      have hbd:=vz hF (j:=j) (k:=v.length+1)
      have hk:(bj W2 (j+v.length) 0+c2) / 4294967296=1:=by
       by_cases h:(bj W2 (j+v.length) 0+c2) / 4294967296=1
       ·exact h
       ·have h0:(bj W2 (j+v.length) 0+c2) / 4294967296=0:=by omega
        rw[h0,δO] at qy;omega
      rw[hk,ε6] at qy
      have e1:(gb - 1)*bk v=gb*bk v - bk v:=by rw[ζN,δ3]
      obtain⟨w1,w2⟩:=vA (q:=gb - 1) (show(gb - 1)*bk v<=bk (prt U j (v.length+1)) by omega) (by rw[show gb - 1+1=gb by omega];exact f5)
      have DI:0<gb:=by
       by_cases h:0<gb
       ·exact h
       ·have:gb=0:=by omega
        subst this;omega
      have hfin:R2.set (j+v.length) ((bj W2 (j+v.length) 0+c2) % 4294967296)=i6 U j (hJ (v.length+1) (bk (prt U j (v.length+1)) % bk v)):=xH hF zT (by omega) zU (by rw[qy,w2,e1];omega)
      repeat refine γj (by omega) ?_
      rw[hfin];rfl
  ·obtain⟨k1,k2,k3,k4⟩:=zQ (.inl hB) hb
   repeat' refine γj ?_ ?_
   all_goals first|omega|exact k2|exact k3
 ·repeat refine γj (by omega) ?_
  refine⟨λhc=>?_,λhc=>?_⟩
  ·repeat refine γj (by omega) ?_
   refine⟨λhb=>?_,λhb=>?_⟩
   ·obtain⟨gg,hgg,f0,f2,f3⟩:=brk (.inr hc) hb
    rw[<-hgg]
    clear hB hb hc
    clear hgg brk zQ ext hgx hgr
    refine⟨?_,?_⟩
    ·repeat' refine γj ?_ ?_
     all_goals first|omega|exact hU|exact f2|exact f3|exact λ_ _=>trivial|(simp only[bk];omega)
    clear f0 f2 f3
    rintro⟨i,ga,c,b,R⟩ ⟨⟨i0,i1⟩,⟨nU,qt⟩,⟨f2,f3⟩,⟨c0,c1⟩,⟨b0,b1⟩,⟨hR,hRl⟩,ho,he⟩
    simp only at i0 i1 nU qt f2 f3 c0 c1 b0 b1 hR hRl ho he ⊢
    refine⟨λj4=>?_,λmE=>?_⟩
    ·have x:=dW hv i.toNat
     have y:=dW hR (j+i.toNat)
     have Rh:0<=ga*bj v i.toNat 0:=γA nU x.1
     have Ri:ga*bj v i.toNat 0<=4294967295*4294967295:=δN (by omega) (by omega) x.1 (by omega)
     have q1:bj v i.toNat 0 % 18446744073709551616=bj v i.toNat 0:=by omega
     have q2:bj R (j+i.toNat) 0 % 18446744073709551616=bj R (j+i.toNat) 0:=by omega
     have q3:(ga*bj v i.toNat 0 % 18446744073709551616+c) % 18446744073709551616=ga*bj v i.toNat 0+c:=by omega
     have hi1:(i+1).toNat=i.toNat+1:=by omega
     rw[q1,q2,q3,I5 (by omega) (by omega),hi1]
     generalize hq:((bj R (j+i.toNat) 0 - (ga*bj v i.toNat 0+c) % 4294967296) % 18446744073709551616 - b) % 18446744073709551616=q
     obtain⟨k1,k2,k3,k4,k5⟩:=I6 (d:=q % 4294967296) (e:=q / 9223372036854775808) hR hRl hv nU qt c0 c1 b0 b1 (show j+i.toNat<U.length by omega) ho he (by omega) (by omega)
     repeat' refine γj ?_ ?_
     all_goals first|omega|exact k1|exact k2|exact k3|exact k4|exact k5|exact f2|exact f3
    ·have hi:i.toNat=v.length:=by omega
     rw[hi,χ] at he;rw[hi] at ho
     have hun:=ho (j+v.length) (.inr (ψ _))
     have du:=dW hU (j+v.length)
     have q2:bj R (j+v.length) 0 % 18446744073709551616=bj R (j+v.length) 0:=by rw[hun];omega
     have qu:=@lT U j v.length
     rw[q2]
     generalize hq:((bj R (j+v.length) 0 - c) % 18446744073709551616 - b) % 18446744073709551616=q
     have kB:bA (R.set (j+v.length) (q % 4294967296)):=ni hR (by omega) (by omega)
     have hlen:(R.set (j+v.length) (q % 4294967296)).length=U.length:=by simp[hRl]
     have hout:∀m,(m<j\/j+(v.length+1)<=m)->bj (R.set (j+v.length) (q % 4294967296)) m 0=bj U m 0:=λm hm=>by rw[pH (by omega)];exact ho m (by omega)
     have hval:bk (prt (R.set (j+v.length) (q % 4294967296)) j (v.length+1))=bk (prt U j (v.length+1)) - ga*bk v+4294967296^(v.length+1)*(q / 9223372036854775808):=by
      rw[lT,t8 (ψ _),sD (by omega),he,qu,γQ]
      have hd:q % 4294967296 - 4294967296*(q / 9223372036854775808)=bj U (j+v.length) 0 - c - b:=by rw[hun] at hq;omega
      generalize (4294967296:Int)^v.length=B
      have e:B*4294967296*(q / 9223372036854775808)=B*(q % 4294967296+c+b - bj U (j+v.length) 0):=by rw[δl];congr 1;omega
      rw[e];simp only[εz,εP];omega
     generalize hW:R.set (j+v.length) (q % 4294967296)=W at*
     have hbd:=vz kB (j:=j) (k:=v.length+1)
     have hnn:=eV (ua kB (j:=j) (k:=v.length+1))
     have q3:0<=q/\q<18446744073709551616:=by omega
     clear hq hun du q2 he ho hR
     repeat refine γj (by omega) ?_
     refine⟨λhz=>?_,λhz=>?_⟩
     ·rw[hz,δO,εp] at hval
      obtain⟨w1,w2⟩:=vA (q:=ga) (show ga*bk v<=bk (prt U j (v.length+1)) by omega) f2
      refine⟨by rw[w1];omega,?_⟩
      have hfin:W=i6 U j (hJ (v.length+1) (bk (prt U j (v.length+1)) % bk v)):=xH kB hlen (by omega) hout (by rw[hval,w2])
      rw[hfin];rfl
     ·have hq1:q / 9223372036854775808=1:=by omega
      rw[hq1,ε6] at hval
      have f4:bk (prt U j (v.length+1))<ga*bk v:=by omega
      refine⟨?_,?_⟩
      ·repeat' refine γj ?_ ?_
       all_goals first|omega|exact kB|exact hlen|exact⟨W,⟨kB,hlen⟩,hout,hval,λ_ _=>rfl,by simp only[bk]⟩
      clear kB hlen hout hval hW hbd hnn q3 hz hq1 f4 f2 f3 c0 c1 b0 b1 i0 i1 nU qt
      rintro⟨i2,gb,c2,R2⟩ ⟨⟨i0,i1⟩,⟨zR,zS⟩,⟨f5,f6⟩,⟨c0,c1⟩,⟨hR2,qw⟩,W2,⟨hW2,ub⟩,ho2,uf,ho3,qx⟩
      simp only at i0 i1 zR zS f5 f6 c0 c1 hR2 qw ho3 qx ⊢
      refine⟨λj4=>?_,λmE=>?_⟩
      ·have x:=dW hv i2.toNat
       have y:=dW hR2 (j+i2.toNat)
       have hi1:(i2+1).toNat=i2.toNat+1:=by omega
       rw[hi1]
       have hs:((bj R2 (j+i2.toNat) 0 % 18446744073709551616+bj v i2.toNat 0 % 18446744073709551616) % 18446744073709551616+c2) % 18446744073709551616=bj R2 (j+i2.toNat) 0+bj v i2.toNat 0+c2:=by omega
       rw[hs]
       obtain⟨k1,k2,k3,k4,k5⟩:=I7 hR2 (qw.trans ub.symm) hv c0 c1 (show j+i2.toNat<W2.length by omega) hW2 ho3 qx rfl
       repeat' refine γj ?_ ?_
       all_goals first|omega|exact k1|exact f5|exact f6|exact⟨W2,⟨hW2,ub⟩,ho2,uf,k4,k5⟩
      ·have hi2:i2.toNat=v.length:=by omega
       rw[hi2,χ] at qx;rw[hi2] at ho3
       have hun:=ho3 (j+v.length) (.inr (ψ _))
       have du:=dW hW2 (j+v.length)
       have qu:=@lT W2 j v.length
       have hc2:c2 % 4294967296=c2:=by omega
       rw[hc2,hun]
       have hF:bA (R2.set (j+v.length) ((bj W2 (j+v.length) 0+c2) % 4294967296)):=ni hR2 (by omega) (by omega)
       have zT:(R2.set (j+v.length) ((bj W2 (j+v.length) 0+c2) % 4294967296)).length=U.length:=by simp[qw]
       have zU:∀m,(m<j\/j+(v.length+1)<=m)->bj (R2.set (j+v.length) ((bj W2 (j+v.length) 0+c2) % 4294967296)) m 0=bj U m 0:=λm hm=>by rw[pH (by omega),ho3 m (by omega)];exact ho2 m hm
       have qy:bk (prt (R2.set (j+v.length) ((bj W2 (j+v.length) 0+c2) % 4294967296)) j (v.length+1))=bk (prt U j (v.length+1)) - gb*bk v+4294967296^(v.length+1)+bk v - 4294967296^(v.length+1)*((bj W2 (j+v.length) 0+c2) / 4294967296):=by
        rw[lT,t8 (ψ _),sD (by omega),<-uf,qu,γQ]
        generalize (4294967296:Int)^v.length=B at*
        have e:B*4294967296*((bj W2 (j+v.length) 0+c2) / 4294967296)=B*(bj W2 (j+v.length) 0+c2 - (bj W2 (j+v.length) 0+c2) % 4294967296):=by rw[δl];congr 1;omega
        rw[e];simp only[εz,εP];omega
       have hbd:=vz hF (j:=j) (k:=v.length+1)
       have hk:(bj W2 (j+v.length) 0+c2) / 4294967296=1:=by
        by_cases h:(bj W2 (j+v.length) 0+c2) / 4294967296=1
        ·exact h
        ·have h0:(bj W2 (j+v.length) 0+c2) / 4294967296=0:=by omega
         rw[h0,δO] at qy;omega
       rw[hk,ε6] at qy
       have e1:(gb - 1)*bk v=gb*bk v - bk v:=by rw[ζN,δ3]
       obtain⟨w1,w2⟩:=vA (q:=gb - 1) (show(gb - 1)*bk v<=bk (prt U j (v.length+1)) by omega) (by rw[show gb - 1+1=gb by omega];exact f5)
       have DI:0<gb:=by
        by_cases h:0<gb
        ·exact h
        ·have:gb=0:=by omega
         subst this;omega
       have hfin:R2.set (j+v.length) ((bj W2 (j+v.length) 0+c2) % 4294967296)=i6 U j (hJ (v.length+1) (bk (prt U j (v.length+1)) % bk v)):=xH hF zT (by omega) zU (by rw[qy,w2,e1];omega)
       repeat refine γj (by omega) ?_
       rw[hfin];rfl
   ·obtain⟨k1,k2,k3,k4⟩:=zQ (.inr hc) hb
    repeat' refine γj ?_ ?_
    all_goals first|omega|exact k2|exact k3
  ·obtain⟨gg,hgg,f0,f2,f3⟩:=ext hB hc
   rw[<-hgg]
   clear hB hc
   clear hgg brk zQ ext hgx hgr
   refine⟨?_,?_⟩
   ·repeat' refine γj ?_ ?_
    all_goals first|omega|exact hU|exact f2|exact f3|exact λ_ _=>trivial|(simp only[bk];omega)
   clear f0 f2 f3
   rintro⟨i,ga,c,b,R⟩ ⟨⟨i0,i1⟩,⟨nU,qt⟩,⟨f2,f3⟩,⟨c0,c1⟩,⟨b0,b1⟩,⟨hR,hRl⟩,ho,he⟩
   simp only at i0 i1 nU qt f2 f3 c0 c1 b0 b1 hR hRl ho he ⊢
   refine⟨λj4=>?_,λmE=>?_⟩
   ·have x:=dW hv i.toNat
    have y:=dW hR (j+i.toNat)
    have Rh:0<=ga*bj v i.toNat 0:=γA nU x.1
    have Ri:ga*bj v i.toNat 0<=4294967295*4294967295:=δN (by omega) (by omega) x.1 (by omega)
    have q1:bj v i.toNat 0 % 18446744073709551616=bj v i.toNat 0:=by omega
    have q2:bj R (j+i.toNat) 0 % 18446744073709551616=bj R (j+i.toNat) 0:=by omega
    have q3:(ga*bj v i.toNat 0 % 18446744073709551616+c) % 18446744073709551616=ga*bj v i.toNat 0+c:=by omega
    have hi1:(i+1).toNat=i.toNat+1:=by omega
    rw[q1,q2,q3,I5 (by omega) (by omega),hi1]
    generalize hq:((bj R (j+i.toNat) 0 - (ga*bj v i.toNat 0+c) % 4294967296) % 18446744073709551616 - b) % 18446744073709551616=q
    obtain⟨k1,k2,k3,k4,k5⟩:=I6 (d:=q % 4294967296) (e:=q / 9223372036854775808) hR hRl hv nU qt c0 c1 b0 b1 (show j+i.toNat<U.length by omega) ho he (by omega) (by omega)
    repeat' refine γj ?_ ?_
    all_goals first|omega|exact k1|exact k2|exact k3|exact k4|exact k5|exact f2|exact f3
   ·have hi:i.toNat=v.length:=by omega
    rw[hi,χ] at he;rw[hi] at ho
    have hun:=ho (j+v.length) (.inr (ψ _))
    have du:=dW hU (j+v.length)
    have q2:bj R (j+v.length) 0 % 18446744073709551616=bj R (j+v.length) 0:=by rw[hun];omega
    have qu:=@lT U j v.length
    rw[q2]
    generalize hq:((bj R (j+v.length) 0 - c) % 18446744073709551616 - b) % 18446744073709551616=q
    have kB:bA (R.set (j+v.length) (q % 4294967296)):=ni hR (by omega) (by omega)
    have hlen:(R.set (j+v.length) (q % 4294967296)).length=U.length:=by simp[hRl]
    have hout:∀m,(m<j\/j+(v.length+1)<=m)->bj (R.set (j+v.length) (q % 4294967296)) m 0=bj U m 0:=λm hm=>by rw[pH (by omega)];exact ho m (by omega)
    have hval:bk (prt (R.set (j+v.length) (q % 4294967296)) j (v.length+1))=bk (prt U j (v.length+1)) - ga*bk v+4294967296^(v.length+1)*(q / 9223372036854775808):=by
     rw[lT,t8 (ψ _),sD (by omega),he,qu,γQ]
     have hd:q % 4294967296 - 4294967296*(q / 9223372036854775808)=bj U (j+v.length) 0 - c - b:=by rw[hun] at hq;omega
     generalize (4294967296:Int)^v.length=B
     have e:B*4294967296*(q / 9223372036854775808)=B*(q % 4294967296+c+b - bj U (j+v.length) 0):=by rw[δl];congr 1;omega
     rw[e];simp only[εz,εP];omega
    generalize hW:R.set (j+v.length) (q % 4294967296)=W at*
    have hbd:=vz kB (j:=j) (k:=v.length+1)
    have hnn:=eV (ua kB (j:=j) (k:=v.length+1))
    have q3:0<=q/\q<18446744073709551616:=by omega
    clear hq hun du q2 he ho hR
    repeat refine γj (by omega) ?_
    refine⟨λhz=>?_,λhz=>?_⟩
    ·rw[hz,δO,εp] at hval
     obtain⟨w1,w2⟩:=vA (q:=ga) (show ga*bk v<=bk (prt U j (v.length+1)) by omega) f2
     refine⟨by rw[w1];omega,?_⟩
     have hfin:W=i6 U j (hJ (v.length+1) (bk (prt U j (v.length+1)) % bk v)):=xH kB hlen (by omega) hout (by rw[hval,w2])
     rw[hfin];rfl
    ·have hq1:q / 9223372036854775808=1:=by omega
     rw[hq1,ε6] at hval
     have f4:bk (prt U j (v.length+1))<ga*bk v:=by omega
     refine⟨?_,?_⟩
     ·repeat' refine γj ?_ ?_
      all_goals first|omega|exact kB|exact hlen|exact⟨W,⟨kB,hlen⟩,hout,hval,λ_ _=>rfl,by simp only[bk]⟩
     clear kB hlen hout hval hW hbd hnn q3 hz hq1 f4 f2 f3 c0 c1 b0 b1 i0 i1 nU qt
     rintro⟨i2,gb,c2,R2⟩ ⟨⟨i0,i1⟩,⟨zR,zS⟩,⟨f5,f6⟩,⟨c0,c1⟩,⟨hR2,qw⟩,W2,⟨hW2,ub⟩,ho2,uf,ho3,qx⟩
     simp only at i0 i1 zR zS f5 f6 c0 c1 hR2 qw ho3 qx ⊢
     refine⟨λj4=>?_,λmE=>?_⟩
     ·have x:=dW hv i2.toNat
      have y:=dW hR2 (j+i2.toNat)
      have hi1:(i2+1).toNat=i2.toNat+1:=by omega
      rw[hi1]
      have hs:((bj R2 (j+i2.toNat) 0 % 18446744073709551616+bj v i2.toNat 0 % 18446744073709551616) % 18446744073709551616+c2) % 18446744073709551616=bj R2 (j+i2.toNat) 0+bj v i2.toNat 0+c2:=by omega
      rw[hs]
      obtain⟨k1,k2,k3,k4,k5⟩:=I7 hR2 (qw.trans ub.symm) hv c0 c1 (show j+i2.toNat<W2.length by omega) hW2 ho3 qx rfl
      repeat' refine γj ?_ ?_
      all_goals first|omega|exact k1|exact f5|exact f6|exact⟨W2,⟨hW2,ub⟩,ho2,uf,k4,k5⟩
     ·have hi2:i2.toNat=v.length:=by omega
      rw[hi2,χ] at qx;rw[hi2] at ho3
      have hun:=ho3 (j+v.length) (.inr (ψ _))
      have du:=dW hW2 (j+v.length)
      have qu:=@lT W2 j v.length
      have hc2:c2 % 4294967296=c2:=by omega
      rw[hc2,hun]
      have hF:bA (R2.set (j+v.length) ((bj W2 (j+v.length) 0+c2) % 4294967296)):=ni hR2 (by omega) (by omega)
      have zT:(R2.set (j+v.length) ((bj W2 (j+v.length) 0+c2) % 4294967296)).length=U.length:=by simp[qw]
      have zU:∀m,(m<j\/j+(v.length+1)<=m)->bj (R2.set (j+v.length) ((bj W2 (j+v.length) 0+c2) % 4294967296)) m 0=bj U m 0:=λm hm=>by rw[pH (by omega),ho3 m (by omega)];exact ho2 m hm
      have qy:bk (prt (R2.set (j+v.length) ((bj W2 (j+v.length) 0+c2) % 4294967296)) j (v.length+1))=bk (prt U j (v.length+1)) - gb*bk v+4294967296^(v.length+1)+bk v - 4294967296^(v.length+1)*((bj W2 (j+v.length) 0+c2) / 4294967296):=by
       rw[lT,t8 (ψ _),sD (by omega),<-uf,qu,γQ]
       generalize (4294967296:Int)^v.length=B at*
       have e:B*4294967296*((bj W2 (j+v.length) 0+c2) / 4294967296)=B*(bj W2 (j+v.length) 0+c2 - (bj W2 (j+v.length) 0+c2) % 4294967296):=by rw[δl];congr 1;omega
       rw[e];simp only[εz,εP];omega
      have hbd:=vz hF (j:=j) (k:=v.length+1)
      have hk:(bj W2 (j+v.length) 0+c2) / 4294967296=1:=by
       by_cases h:(bj W2 (j+v.length) 0+c2) / 4294967296=1
       ·exact h
       ·have h0:(bj W2 (j+v.length) 0+c2) / 4294967296=0:=by omega
        rw[h0,δO] at qy;omega
      rw[hk,ε6] at qy
      have e1:(gb - 1)*bk v=gb*bk v - bk v:=by rw[ζN,δ3]
      obtain⟨w1,w2⟩:=vA (q:=gb - 1) (show(gb - 1)*bk v<=bk (prt U j (v.length+1)) by omega) (by rw[show gb - 1+1=gb by omega];exact f5)
      have DI:0<gb:=by
       by_cases h:0<gb
       ·exact h
       ·have:gb=0:=by omega
        subst this;omega
      have hfin:R2.set (j+v.length) ((bj W2 (j+v.length) 0+c2) % 4294967296)=i6 U j (hJ (v.length+1) (bk (prt U j (v.length+1)) % bk v)):=xH hF zT (by omega) zU (by rw[qy,w2,e1];omega)
      repeat refine γj (by omega) ?_
      rw[hfin];rfl
def ef (x y:Int):Int:=(Nat.gcd x.toNat y.toNat:Nat)
theorem abl {x y:Int} (h0:0<=x) (h1:0<y):ef y (x % y)=ef x y:=by
 unfold ef
 congr 1
 rw[Nat.gcd_comm x.toNat,Nat.gcd_rec y.toNat x.toNat,Nat.gcd_comm,Int.toNat_emod h0 (by omega)]
theorem abm {x:Int} (h0:0<=x):ef x 0=x:=by unfold ef;simp;omega
theorem lU {i u v:Nat} (h:u=v):(γ8 i u 1).same (γ8 i v 1):=by subst h;rfl
theorem Rj {l:List Int} (h:l=[]):(Φ (.i .i64) []).same (Φ (.i .u32) l):=by subst h;rfl
def sbO (x y:Int):SV:=.bH [.row (.i .u32) (cE (x - y)),.sb (decide (y<=x))]
theorem Jd {n:Int} (h:n<=0):cE n=[]:=by
 unfold cE
 rw[show n.toNat=0 by omega]
 rfl
def Je:bM:=⟨193,List Int×List Int,.cons (dN (.i .u32)) (.one (dN (.i .u32))),λa=>(bA a.1/\bA a.2)/\a.1.length<=100000000000/\a.2.length<=100000000000,
 λa=>sbO (bk a.1) (bk a.2)⟩
def abo (a:List Int×List Int):Nat->cB
 |7=> .inv (Int×Int×List Int) (λx=>⟨[(0,.row (.i .u32) (bI a.1)),(1,.row (.i .u32) (bI a.2)),(6,.ow 0 x.2.2.length 1),(7,.si .u64 x.2.1),(22,.si .i64 (bI a.1).length),(23,.si .i64 x.1)],[.row (.i .u32) x.2.2 235 true]⟩)
  (λs=>(iS s 23,iS s 7,oS (.i .u32) s 0))
  (λx=>(0<=x.1/\x.1<=(bI a.1).length)/\(0<=x.2.1/\x.2.1<=1)/\bA x.2.2/\x.2.2.length=(bI a.1).length/\(∀j,x.1.toNat<=j->bj x.2.2 j 0=0)/\
   bk x.2.2 - 4294967296^x.1.toNat*x.2.1=bk ((bI a.1).take x.1.toNat) - bk ((bI a.2).take x.1.toNat)) (λx=>((bI a.1).length - x.1).toNat) λ_ _=> .look
 |_=> .look
theorem Rk {s t row:List Int} {i:Nat} {br d v c:Int} (hs:bA s) (ht:bA t) (hr:bA row) (hl:row.length=s.length) (hz:∀j,i<=j->bj row j 0=0)
  (hv:bk row - 4294967296^i*br=bk (s.take i) - bk (t.take i)) (hi:i<s.length) (hd:d=bj s i 0 - br - bj t i 0) (h0:0<=v/\v<4294967296) (hc:v - 4294967296*c=d):
  bA (row.set i v)/\(row.set i v).length=s.length/\(∀j,i+1<=j->bj (row.set i v) j 0=0)/\bk (row.set i v) - 4294967296^(i+1)*c=bk (s.take (i+1)) - bk (t.take (i+1)):=by
 refine⟨ni hr h0.1 h0.2,by simp[hl],λj hj=>by rw[pH (by omega)];exact hz j (by omega),?_⟩
 rw[t7 (by omega),lO,lO,hz i (ψ _),γQ,ζh]
 have h1:(4294967296:Int)^i*(v - 4294967296*c)=4294967296^i*(bj s i 0 - br - bj t i 0):=by rw[hc,hd]
 simp only[εP] at h1;rw[<-δl] at h1;omega
theorem h155:Holds Tryz.prog Je:=by
 refine cK (L:=[ry,xG]) Je abo (by simpa using⟨h152,h132⟩) ?_
 rintro⟨a,b⟩ ⟨⟨ha,hb⟩,hla,hlb⟩
 simp only at ha hb hla hlb
 refine bR (let c:=(0:Int);let d:=(18446744073709551616:Int);let e:=Φ;let f:=(4294967296:Int);let g:=γe .i64;let h:=(1:Int);let k:=γ8;let l:=SV.bH;let z0:Nat:=(bI a).length;let B:=decide (lQ (bk (bI a)) (bk (bI b))<c);let m:=bn.i .u32;let C:=l [e m (cE (bk a - bk b)),SV.sb (decide (bk b<=bk a))];let o:=(↑(bI a).length:Int);let q:=ε o.toNat c;let p:=(↑z0:Int);let z:=g p;let D:=bq.row m q 235 true;let A:=(↑(bI b).length:Int);a.length<=1000000000000/\b.length<=1000000000000/\((bA (bI a)/\bA (bI b))/\z0<=1000000000000/\(bI b).length<=1000000000000)/\(B=true->(l [e (bn.i .i64) [],SV.bl false]).same C)/\(B=false->c<=o/\o<=o/\o*(4:Int)<=(140737488355328:Int)/\o<=(1000000000000:Int)/\((((e m (bI a)).same (e m (bI a))/\(e m (bI b)).same (e m (bI b))/\(k 0 o.toNat 1).same (k 0 q.length 1)/\(γq .u64 0).same (γe .u64 0)/\(g o).same z/\(γq .i64 0).same (g 0)/\True)/\D.same D/\True)/\(c<=c/\c<=p)/\(c<=c/\c<=h)/\bA q/\q.length=z0/\(∀(j:Nat),0<=j->bj q j c=c)/\bk q - c=c)/\∀(x:Int×Int×List Int),let r:=x.snd.snd.length;let v:=x.snd.snd.length;let n:=x.fst.toNat;let s:=x.fst+h;let E:=g s;let w:=s.toNat;let F:=bj (bI a) n c;let G:=λ(u u_1:Int) ↦let H:=(u % d - u_1) % d;let t:=x.snd.snd.set n (H % f);let y:=H / (9223372036854775808:Int);let I:=γe .u64 y;let J:=bq.row m t 235 true;c<=(63:Int)/\(63:Int)<=(64:Int)/\r=v/\c<=x.fst/\x.fst<(↑v:Int)/\r=v/\n<v/\bX .i64 s/\(((e m (bI a)).same (e m (bI a))/\(e m (bI b)).same (e m (bI b))/\(k 0 r 1).same (k 0 t.length 1)/\I.same I/\z.same z/\E.same E/\True)/\J.same J/\True)/\((c<=s/\s<=p)/\(c<=y/\y<=h)/\bA t/\t.length=z0/\(∀(j:Nat),w<=j->bj t j c=c)/\bk t - f^w*y=bk (γd w (bI a)) - bk (γd w (bI b)))/\(p - s).toNat<(p - x.fst).toNat;(c<=x.fst/\x.fst<=p)/\(c<=x.snd.fst/\x.snd.fst<=h)/\bA x.snd.snd/\r=z0/\(∀(j:Nat),n<=j->bj x.snd.snd j c=c)/\bk x.snd.snd - f^n*x.snd.fst=bk (γd n (bI a)) - bk (γd n (bI b))->(decide (x.fst<p)=true->c<=x.fst/\x.fst<o/\n<(bI a).length/\(decide (x.fst<A)=true->c<=x.fst/\x.fst<A/\n<(bI b).length/\G (F % d - x.snd.fst) (bj (bI b) n c % d))/\(decide (x.fst<A)=false->G F x.snd.fst))/\(decide (x.fst<p)=false->r=v/\r<=1000000000000/\(l [e m (bI x.snd.snd),SV.bl true]).same C))) (by kernel_rfl) ?_
 simp only[vcs]
 obtain⟨va,na⟩:=@rA a
 obtain⟨vb,nb⟩:=@rA b
 have da:=sB ha
 have db:=sB hb
 have la:=@t6 a
 have lb:=@t6 b
 have pa:=eV da
 have pb:=eV db
 rw[<-va,<-vb]
 generalize bI a=s at*
 generalize bI b=t at*
 have hr0:∀n j,bj (ε n (0:Int)) j 0=0:=λn j=>by
  unfold bj;rw[εF]
  split<;>rfl
 have hd0:∀n,bA (ε n 0):=λn d hd=>by
  have:=δ9 hd
  omega
 have hv0:∀n,bk (ε n 0)=0:=λn=>by
  induction n with
  |zero=>rfl
  |succ n ih=>simp only[δm,bk,ih];omega
 refine⟨by omega,by omega,⟨⟨da,db⟩,by omega,by omega⟩,λhlt=>?_,λhge=>⟨by omega,by omega,by omega,by omega,?_,?_⟩⟩
 ·have hlt2:bk s<bk t:=by unfold lQ at hlt;split at hlt<;>(try split at hlt)<;>omega
  refine⟨Rj (Jd (by omega)),?_⟩
  rw[eq_comm,decide_eq_false_iff_not];omega
 ·repeat' refine γj ?_ ?_
  all_goals first|omega|exact lU (by simp)|exact hd0 _|exact λj _=>hr0 _ j|(simp;done)|(rw[hv0];rfl)
 have Ii:bk t<=bk s:=by unfold lQ at hge;split at hge<;>(try split at hge)<;>omega
 rintro⟨i,br,row⟩ ⟨⟨i0,i1⟩,⟨b0,b1⟩,hr,hl,hz,hv⟩
 simp only at i0 i1 b0 b1 hr hl hz hv ⊢
 refine⟨λj4=>?_,λmE=>?_⟩
 ·have d1:=dW da i.toNat
  have d2:=dW db i.toNat
  have e:(i+1).toNat=i.toNat+1:=by omega
  refine⟨i0,j4,by omega,λht=>?_,λht=>?_⟩
  ·generalize hq:((bj s i.toNat 0 % 18446744073709551616 - br) % 18446744073709551616 - bj t i.toNat 0 % 18446744073709551616) % 18446744073709551616=q
   obtain⟨k1,k2,k3,k4⟩:=Rk (v:=q % 4294967296) (c:=q / 9223372036854775808) da db hr hl hz hv (by omega) rfl (by omega) (by omega)
   rw[e]
   repeat' refine γj ?_ ?_
   all_goals first|omega|exact lU (by simp)|exact k1|exact k2|exact k3|exact k4
  ·have hz2:=DC (a:=t) (i:=i.toNat) (by omega)
   generalize hq:(bj s i.toNat 0 % 18446744073709551616 - br) % 18446744073709551616=q
   obtain⟨k1,k2,k3,k4⟩:=Rk (v:=q % 4294967296) (c:=q / 9223372036854775808) da db hr hl hz hv (by omega) rfl (by omega) (by omega)
   rw[e]
   repeat' refine γj ?_ ?_
   all_goals first|omega|exact lU (by simp)|exact k1|exact k2|exact k3|exact k4
 ·have hi:i.toNat=s.length:=by omega
  have hlen:t.length<=s.length:=by
   by_cases h:s.length<t.length
   ·have:=xF da db nb h
    omega
   ·omega
  rw[hi,χ,γn hlen] at hv
  have hbd:=nT hr
  have hp:=pow_pos s.length
  rw[hl] at hbd
  have hb0:br=0:=by
   by_cases h:br=0
   ·exact h
   ·have:br=1:=by omega
    subst this;omega
  rw[hb0,δO,ζh] at hv
  refine⟨by omega,?_,?_⟩
  ·rw[qs hr,hv]
  ·rw[eq_comm,decide_eq_true_eq]
   exact Ii
theorem Rl {n j:Nat}:bj (ε n (0:Int)) j 0=0:=by
 unfold bj;rw[εF]
 split<;>rfl
theorem zV {n:Nat}:bA (ε n 0):=λd hd=>by
 have:=δ9 hd
 omega
theorem xK:∀{n:Nat},bk (ε n 0)=0
 |0=>rfl
 |n+1=>by simp only[δm,bk,@xK n];omega
theorem abp {o b:List Int} {x:Int} {i k:Nat}:hZ o b x i (k+1)=((hZ o b x i k).1.set (i+k) ((x*bj b k 0+bj (hZ o b x i k).1 (i+k) 0+(hZ o b x i k).2) % 4294967296),(x*bj b k 0+bj (hZ o b x i k).1 (i+k) 0+(hZ o b x i k).2) / 4294967296):=rfl
def xM:bM:=⟨191,List Int×List Int,.cons (dN (.i .u32)) (.one (dN (.i .u32))),λa=>(bA a.1/\bA a.2)/\a.1.length<=100000000000/\a.2.length<=100000000000,
 λa=> .row (.i .u32) (cE (bk a.1*bk a.2))⟩
def stM (a:List Int×List Int) (row:List Int):bV:=[.row (.i .u32) row 235 true]
def abq (a:List Int×List Int):Nat->cB
 |3=> .inv (Int×List Int) (λx=>⟨[(0,.row (.i .u32) a.1),(1,.row (.i .u32) a.2),(5,.ow 0 x.2.length 1),(17,.si .i64 a.1.length),(18,.si .i64 x.1)],stM a x.2⟩)
  (λs=>(iS s 18,oS (.i .u32) s 0))
  (λx=>(0<=x.1/\x.1<=a.1.length)/\bA x.2/\x.2.length=a.1.length+a.2.length/\bk x.2=bk (a.1.take x.1.toNat)*bk a.2) (λx=>(a.1.length - x.1).toNat)
  λx=>λ
   |7=> .inv (Int×Int×List Int) (λy=>⟨[(0,.row (.i .u32) a.1),(1,.row (.i .u32) a.2),(5,.ow 0 y.2.2.length 1),(6,.si .i64 x.1),(7,.si .u64 y.2.1),(17,.si .i64 a.1.length),(18,.si .i64 x.1),(22,.si .i64 a.2.length),(23,.si .i64 y.1)],stM a y.2.2⟩)
    (λs=>(iS s 23,iS s 7,oS (.i .u32) s 0))
    (λy=>(0<=y.1/\y.1<=a.2.length)/\y.2.2=(hZ x.2 a.2 (bj a.1 x.1.toNat 0) x.1.toNat y.1.toNat).1/\y.2.1=(hZ x.2 a.2 (bj a.1 x.1.toNat 0) x.1.toNat y.1.toNat).2) (λy=>(a.2.length - y.1).toNat) λ_ _=> .look
   |_=> .look
 |_=> .look
theorem h153:Holds Tryz.prog xM:=by
 refine cK (L:=[ry]) xM abq (by simpa using h152) ?_
 rintro⟨a,b⟩ ⟨⟨ha,hb⟩,hla,hlb⟩
 simp only at ha hb hla hlb
 refine bR (let c:=(18446744073709551616:Int);let d:=(0:Int);let e:=Φ;let f:=γe .i64;let g:=(4294967296:Int);let h:=bX .i64;let j:=γ8;let k:=γq .i64 0;let l:=bq.row;let F:=(↑a.length:Int);let z:=(↑b.length:Int);let p:=F+z;let m:=bn.i .u32;let A:=ε p.toNat d;let q:=(↑a.length:Int);let t:=f q;let J:=l m A 235 true;let G:=a.length+b.length;let r:=(↑b.length:Int);let H:=f r;h p/\d<=p/\p<=p/\p*(4:Int)<=(140737488355328:Int)/\p<=(1000000000000:Int)/\((((e m a).same (e m a)/\(e m b).same (e m b)/\(j 0 p.toNat 1).same (j 0 A.length 1)/\(f F).same t/\(k).same (f 0)/\True)/\J.same J/\True)/\(d<=d/\d<=q)/\bA A/\A.length=G/\bk A=bk []*bk b)/\∀(x:Int×List Int),let C:=x.snd.length;let v:=x.fst.toNat;let K:=j 0 C 1;let s:=f x.fst;let L:=l m x.snd 235 true;let D:=bj a v d;let M:=hZ x.snd b D v 0;let w:=x.fst+(1:Int);let N:=f w;(d<=x.fst/\x.fst<=q)/\bA x.snd/\C=G/\bk x.snd=bk (γd v a)*bk b->(decide (x.fst<q)=true->((((e m a).same (e m a)/\(e m b).same (e m b)/\K.same K/\s.same s/\(γq .u64 0).same (γe .u64 0)/\t.same t/\s.same s/\(f z).same H/\(k).same (f 0)/\True)/\L.same L/\True)/\(d<=d/\d<=r)/\x.snd=M.fst/\d=M.snd)/\∀(x_1:Int×Int×List Int),let O:=hZ x.snd b D v x_1.fst.toNat;let o:=x.fst+x_1.fst;let n:=x_1.snd.snd.length;let y:=x_1.fst+(1:Int);let P:=j 0 x_1.snd.snd.length 1;let I:=((D % c*(bj b x_1.fst.toNat d % c) % c+bj x_1.snd.snd o.toNat d % c) % c+x_1.snd.fst) % c;let Q:=x_1.snd.snd.set o.toNat (I % g);let R:=I / g;let S:=γe .u64 R;let T:=f y;let U:=hZ x.snd b D v y.toNat;let B:=x.fst+z;let E:=x_1.snd.snd.set B.toNat (x_1.snd.fst % g);let V:=λ(u u_1:Int) ↦let W:=l m (x_1.snd.snd.set (x.fst+u).toNat (u_1 % g)) 235 true;W.same W/\True;(d<=x_1.fst/\x_1.fst<=r)/\x_1.snd.snd=O.fst/\x_1.snd.fst=O.snd->(decide (x_1.fst<r)=true->d<=x.fst/\x.fst<F/\v<a.length/\d<=x_1.fst/\x_1.fst<z/\x_1.fst.toNat<b.length/\h o/\x_1.snd.snd.length=n/\d<=o/\o<(↑n:Int)/\x_1.snd.snd.length=n/\o.toNat<n/\h o/\d<=(32:Int)/\(32:Int)<=(64:Int)/\x_1.snd.snd.length=n/\d<=o/\o<(↑n:Int)/\x_1.snd.snd.length=n/\o.toNat<n/\h y/\(((e m a).same (e m a)/\(e m b).same (e m b)/\P.same (j 0 Q.length 1)/\s.same s/\S.same S/\t.same t/\s.same s/\H.same H/\T.same T/\True)/\V x_1.fst I)/\((d<=y/\y<=r)/\Q=U.fst/\R=U.snd)/\(r - y).toNat<(r - x_1.fst).toNat)/\(decide (x_1.fst<r)=false->h B/\x_1.snd.snd.length=n/\d<=B/\B<(↑n:Int)/\x_1.snd.snd.length=n/\B.toNat<n/\h w/\(((e m a).same (e m a)/\(e m b).same (e m b)/\P.same (j 0 E.length 1)/\t.same t/\N.same N/\True)/\V z x_1.snd.fst)/\((d<=w/\w<=q)/\bA E/\E.length=G/\bk E=bk (γd w.toNat a)*bk b)/\(q - w).toNat<(q - x.fst).toNat))/\(decide (x.fst<q)=false->C=x.snd.length/\C<=1000000000000/\(e m (bI x.snd)).same (e m (cE (bk a*bk b))))) (by kernel_rfl) ?_
 simp only[vcs]
 refine⟨by omega,by omega,by omega,by omega,by omega,?_,?_⟩
 ·repeat' refine γj ?_ ?_
  all_goals first|omega|exact lU (by simp)|exact zV|(simp;omega)|(rw[xK];simp[bk])
 rintro⟨i,row⟩ ⟨⟨i0,i1⟩,hr,hl,hv⟩
 simp only at i0 i1 hr hl hv ⊢
 refine⟨λj4=>⟨⟨⟨by omega,by omega⟩,rfl,rfl⟩,?_⟩,λmE=>?_⟩
 ·rintro⟨k,c,ro⟩ ⟨⟨k0,k1⟩,e1,e2⟩
  simp only at k0 k1 e1 e2 ⊢
  have x1:=dW ha i.toNat
  obtain⟨m1,m2,⟨m3,m4⟩,m5,m6⟩:=@Q5 row b (bj a i.toNat 0) i.toNat hr hb x1.1 x1.2 k.toNat (by omega)
  have hp:=@abp row b (bj a i.toNat 0) i.toNat k.toNat
  generalize hZ row b (bj a i.toNat 0) i.toNat k.toNat=M at*
  obtain⟨p,q⟩:=M
  simp only at e1 e2 m1 m2 m3 m4 m5 m6 hp
  subst e1 e2
  have hik:(i+k).toNat=i.toNat+k.toNat:=by omega
  have hk1:(k+1).toNat=k.toNat+1:=by omega
  have hi1:(i+1).toNat=i.toNat+1:=by omega
  refine⟨λklt=>?_,λkge=>?_⟩
  ·have x2:=dW hb k.toNat
   have x3:=dW m1 (i.toNat+k.toNat)
   have hxb:0<=bj a i.toNat 0*bj b k.toNat 0:=γA x1.1 x2.1
   have agk:bj a i.toNat 0*bj b k.toNat 0<=4294967295*4294967295:=δN (by omega) (by omega) x2.1 (by omega)
   rw[hik,hk1,hp]
   have hq:(((bj a i.toNat 0 % 18446744073709551616*(bj b k.toNat 0 % 18446744073709551616) % 18446744073709551616+bj ro (i.toNat+k.toNat) 0 % 18446744073709551616) % 18446744073709551616+c) % 18446744073709551616)=bj a i.toNat 0*bj b k.toNat 0+bj ro (i.toNat+k.toNat) 0+c:=by
    rw[δQ (a:=bj a i.toNat 0) (by omega) (by omega),δQ (a:=bj b k.toNat 0) (by omega) (by omega)]
    omega
   rw[hq]
   repeat' refine γj ?_ ?_
   all_goals first|omega|exact lU (by simp)|rfl
  ·have hkl:k.toNat=b.length:=by omega
   rw[show(i+(b.length:Int)).toNat=i.toNat+b.length by omega]
   rw[hkl,χ] at m6;rw[hkl] at m5
   have hz:bj ro (i.toNat+b.length) 0=0:=by
    rw[m5 _ (ψ _)]
    refine zM hr (i:=i.toNat+b.length) ?_ (ψ _)
    rw[hv,εg]
    have t1:=nT (nh ha i.toNat)
    rw[Ξ,εo (by omega)] at t1
    have t2:=nT hb
    have t3:=eV (nh ha i.toNat)
    have t4:=eV hb
    exact Int.lt_of_le_of_lt (Δ (γl t2) t3) (Int.mul_lt_mul_of_pos_right t1 (pow_pos _))
   have hc:c % 4294967296=c:=by omega
   rw[hc,hi1]
   have hfin:bk (ro.set (i.toNat+b.length) c)=bk (a.take (i.toNat+1))*bk b:=by
    rw[t7 (by omega),hz,ζh,m6,hv,lO,Int.add_mul,δl]
   repeat' refine γj ?_ ?_
   all_goals first|omega|exact lU (by simp)|exact ni m1 m3 m4|exact hfin|(rw[List.length_set];omega)
 ·have hi:i.toNat=a.length:=by omega
  rw[hi,χ] at hv
  refine⟨by omega,?_⟩
  rw[qs hr,hv]
end Go.Vi
