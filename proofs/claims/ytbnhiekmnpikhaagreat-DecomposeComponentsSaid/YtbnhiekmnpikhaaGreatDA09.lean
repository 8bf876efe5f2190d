/-
  Plain law: what pivots keep: the solutions, the variables, and the determinant of the basis; Cramer's rule for the coefficients.
  Conditions: none.
-/
import Derived.Test.YtbnhiekmnpikhaaGreatDA06
import Derived.Test.YtbnhiekmnpikhaaGreatDA07
import Derived.Test.YtbnhiekmnpikhaaGreatDA08
set_option maxRecDepth 100000
set_option maxHeartbeats 4000000
set_option linter.all false
open And renaming intro->γj
open BitVec renaming ofInt->γn
open Bool renaming eq_iff_iff->θa
open Classical renaming byContradiction->δb
open Go.Vi.SV renaming ow->γZ,row->Ω,si->γg,sb->γx,il->γA,agg->γQ
open Int renaming pow_succ->γS,sub_zero->ζj,mul_assoc->δl,mul_zero->δG,mul_nonneg->γu,emod_eq_of_lt->δJ,pow_add->δ6,lt_of_le_of_lt->εL,mul_le_mul_of_nonneg_left->Θ,le_of_lt->γe,mul_lt_mul_of_pos_right->γ2,eq_ofNat_of_zero_le->δE,mul_comm->δ3,pow_pos->δM,mul_emod_mul_of_pos->ζC,emod_nonneg->δL,emod_lt_of_pos->δp,lt_of_mul_lt_mul_left->εu,lt_of_lt_of_le->εJ,mul_le_mul_of_nonneg_right->γT,add_zero->εj,ediv_nonneg->δ0,ediv_lt_of_lt_mul->εW,mul_ediv_add_emod->εh,pow_zero->ζK,one_mul->εB,toNat_natCast->γl,mul_ediv_cancel_left->ζt,natAbs_mul->εt,natAbs_natCast->ζk,mul_neg_of_neg_of_pos->εv,mul_pos->εD
open IntCast renaming intCast->κ
open List renaming length_cons->γF,nodup_append->γs,range->ω,mem_map->Ψ,getElem_of_mem->γJ,mem_append->γk,replicate->δ,take->Δ,getElem?_replicate->εG,eq_of_mem_replicate->δ1,replicate_succ->δc,take_length->ψ,length_take->γw,length_set->Φ,drop_drop->δj,take_zero->εs,drop->γ7,eq_nil_of_length_eq_zero->τ,length->γc
open Nat renaming le_refl->ν,min_eq_left->εi,pow_le_pow_right->δr,add_sub_cancel->ζX,gcd_dvd_left->ζ6
open Option.some renaming injEq->γ
open Prod renaming ext->εH
open Rat renaming mul_nonneg->δv,mkRat_self->δW,normalize_eq_mkRat->ζF
namespace Go.Vi
def mh (f:Int->Rat):List Int->Rat
 |[]=>0
 |x::l=>f x+mh f l
theorem A7 {f:Int->Rat}:∀{l k:List Int},mh f (l++k)=mh f l+mh f k
 |[],k=>by grind[mh];|x::l,k=>by simp only[List.cons_append,mh,@A7 f l k];grind
theorem JA {f:Int->Rat} {l k:List Int} (h:l.Perm k):mh f l=mh f k:=by
 induction h<;>grind[mh,swap,trans]
theorem SK:∀{n:Nat} {f:Nat->Rat},bO (n+1) f=f 0+bO n λi=>f (i+1)
 |0,f=>by grind[bO];|n+1,f=>by
  rw[bO,SK];grind[bO]
theorem qN {f:Int->Rat}:∀{l:List Int},mh f l=bO l.length λk=>f (bj l k 0)
 |[]=>rfl
 |x::l=>by
  rw[γF,SK,mh,qN];rfl
def jw (n:Nat) (t:Tb) (y:Nat->Rat) (v:Int):Rat:=if v∈t.free then y (t.free.idxOf v) else t.bd (t.basic.idxOf v) - bO n λj=>t.cf (t.basic.idxOf v) j*y j
section
variable {n m:Nat} {t t0:Tb} {r c:Nat}
theorem py {l:List Int} {i:Nat} (h:l.Nodup) (a:i<l.length):l.idxOf (bj l i 0)=i:=by
 grind[cV]
theorem mP (h:t.WF n m) (c:(t.basic++t.free).Nodup) {y:Nat->Rat} {j:Nat} (a:j<n):jw n t y (t.fv j)=y j:=by
 have b:j<t.free.length:=by rw[h.free];exact a
 unfold jw Tb.fv;rw[if_pos (by grind[cV]),py (γs.1 c).2.1 b]
theorem JB (h:t.WF n m) (b:(t.basic++t.free).Nodup) {i:Nat} (a:i<m):t.bv i∉t.free:=λc=>by
 have d:i<t.basic.length:=by rw[h.basic];exact a
 grind[Tb.bv,cV]
theorem nL (h:t.WF n m) (a:(t.basic++t.free).Nodup) {y:Nat->Rat} {i:Nat} (c:i<m):jw n t y (t.bv i)=t.bd i - bO n λj=>t.cf i j*y j:=by
 have b:i<t.basic.length:=by rw[h.basic];exact c
 have e:t.basic.idxOf (t.bv i)=i:=py (γs.1 a).1 b;unfold jw;grind
theorem asg_holds (h:t.WF n m) (a:(t.basic++t.free).Nodup) {y:Nat->Rat}:t.holds n m (jw n t y) (t.value+bO n λj=>t.cs j*y j):=by
 have e:∀f:Nat->Rat,bO n (λj=>f j*jw n t y (t.fv j))=bO n λj=>f j*y j:=λf=>dJ λj c=>by grind[mP]
 refine⟨λi b=>?_,?_⟩
 ·rw[nL h a b,e];grind
 ·rw[e]
def fW (m:Nat) (a:Tb) (v:Int) (i:Nat):Rat:=if i<m then(if v∈a.free then a.cf i (a.free.idxOf v) else if a.basic.idxOf v=i then 1 else 0) else 0
def yr (m:Nat) (a:Tb) (i:Nat):Rat:=if i<m then a.bd i else 0
def jy (m:Nat) (a t:Tb):Rat:=j4 (t.basic.map (fW m a)) (ω m)
structure Run (n m:Nat) (t0 t:Tb):Prop where
 oG:t0.WF n m
 wf:t.WF n m
 nd:(t0.basic++t0.free).Nodup
 perm:(t.basic++t.free).Perm (t0.basic++t0.free)
 mQ:∀x z,t.holds n m x z↔t0.holds n m x z
 dt:jy m t0 t≠0
theorem Run.gp (h:Run n m t0 t):(t.basic++t.free).Nodup:=h.perm.symm.nodup h.nd
theorem Run.refl (h:t0.WF n m) (a:(t0.basic++t0.free).Nodup):Run n m t0 t0:=by
 refine⟨h,h,a,List.Perm.refl _,λ_ _=>Iff.rfl,?_⟩;have e:t0.basic.map (fW m t0)=(ω m).map yp:=by
  refine List.ext_getElem (by simp[h.basic]) λi g d=>?_;simp only[List.getElem_map,List.getElem_range];have f:i<m:=by simp_all
  have b:t0.basic[i]'(by simp_all)=t0.bv i:=by grind[Tb.bv,cV]
  rw[b];funext k;have c:t0.basic.idxOf (t0.bv i)=i:=py (γs.1 a).1 (by grind);unfold fW yp;grind
 grind[jy,SE]
theorem Run.rows (h:Run n m t0 t) {x:Int->Rat} {z:Rat} (l:t.holds n m x z) {i:Nat}:bO m (λk=>fW m t0 (t.bv k) i*x (t.bv k))+bO n (λj=>fW m t0 (t.fv j) i*x (t.fv j))=yr m t0 i:=by
 have b:∀t:Tb,t.WF n m->mh (λv=>fW m t0 v i*x v) (t.basic++t.free)=bO m (λk=>fW m t0 (t.bv k) i*x (t.bv k))+bO n (λj=>fW m t0 (t.fv j) i*x (t.fv j)):=λt f=>by
  rw[A7,qN,qN,f.basic,f.free];rfl
 rw[<-b t h.wf,JA h.perm,b t0 h.oG];have p:=(h.mQ x z).1 l;unfold yr;by_cases a:i<m
 ·rw[if_pos a,<-p.1 i a];congr 1
  ·have e:bO m (λk=>fW m t0 (t0.bv k) i*x (t0.bv k))=bO m λk=>if k=i then x (t0.bv i) else 0:=dJ λk d=>by
    have c:t0.basic.idxOf (t0.bv k)=k:=py (γs.1 h.nd).1 (by rw[h.oG.basic];exact d);unfold fW;rw[if_pos a,if_neg (JB h.oG h.nd d),c];grind
   rw[e,wv,if_pos a]
  ·refine dJ λj g=>?_;have o:j<t0.free.length:=by rw[h.oG.free];exact g
   unfold fW;rw[if_pos a,if_pos (by grind[Tb.fv,cV])];have c:t0.free.idxOf (t0.fv j)=j:=py (γs.1 h.nd).2.1 o;rw[c]
 ·rw[if_neg a];have e:∀v,fW m t0 v i=0:=λv=>by simp_all[fW,if_neg]
  simp only[e];grind[iT]
theorem Run.SL (h:Run n m t0 t):yr m t0=λi=>bO m λk=>t.bd k*fW m t0 (t.bv k) i:=by
 funext i;have a:=h.rows (i:=i) (asg_holds h.wf h.gp (y:=λ_=>0));rw[<-a,dJ (n:=n) (g:=λ_=>0) λj c=>by rw[mP h.wf h.gp c];grind,iT,dJ (n:=m) (g:=λk=>t.bd k*fW m t0 (t.bv k) i) λk b=>by
  rw[nL h.wf h.gp b,dJ (g:=λ_=>0) λj _=>by grind,iT];grind];grind
theorem Run.acJ (h:Run n m t0 t) {c:Nat} (a:c<n):fW m t0 (t.fv c)=λi=>bO m λk=>t.cf k c*fW m t0 (t.bv k) i:=by
 funext i;have f:=congrFun h.SL i;have b:=h.rows (i:=i) (asg_holds h.wf h.gp (y:=λj=>if j=c then 1 else 0));rw[dJ (n:=n) (g:=λj=>if j=c then fW m t0 (t.fv c) i else 0) λj e=>by
  rw[mP h.wf h.gp e];grind,wv,if_pos a,dJ (n:=m) (g:=λk=>t.bd k*fW m t0 (t.bv k) i+(-1)*(t.cf k c*fW m t0 (t.bv k) i)) λk d=>by
   rw[nL h.wf h.gp d,dJ (g:=λj=>if j=c then t.cf k c else 0) λj _=>by
    grind,wv,if_pos a];grind,yq,wu] at b;grind
theorem getD_map {l:List Int} {f:Int->Nat->Rat} {k:Nat} (h:k<l.length):(l.map f).getD k (λ_=>0)=f (bj l k 0):=by
 grind[cV]
theorem Run.SN (h:Run n m t0 t) {y:Nat->Rat} {r:Nat} (d:r<m):j4 ((t.basic.map (fW m t0)).set r λi=>bO m λk=>y k*fW m t0 (t.bv k) i) (ω m)=y r*jy m t0 t:=by
 have b:(t.basic.map (fW m t0)).length=m:=by rw[List.length_map,h.wf.basic]
 have a:=@acI (t.basic.map (fW m t0)) (ω m) y r (by omega);unfold jy;rw[<-a,b];congr 2;funext i;refine dJ λk c=>?_;rw[getD_map (by simp_all)];rfl
theorem Run.SO (h:Run n m t0 t) {r c:Nat} (a:r<m) (b:c<n):j4 ((t.basic.map (fW m t0)).set r (fW m t0 (t.fv c))) (ω m)=t.cf r c*jy m t0 t:=by
 rw[h.acJ b];exact h.SN (y:=λk=>t.cf k c) a
theorem Run.acK (h:Run n m t0 t) {r:Nat} (a:r<m):j4 ((t.basic.map (fW m t0)).set r (yr m t0)) (ω m)=t.bd r*jy m t0 t:=by
 rw[h.SL];exact h.SN (y:=t.bd) a
theorem set_perm {l:List Int} {r:Nat} {x:Int} (a:r<l.length):(l.set r x).Perm (x::(l.take r++l.drop (r+1))):=by
 rw[List.set_eq_take_append_cons_drop,if_pos a];simp_all
theorem acL {l:List Int} {r:Nat} (a:r<l.length):(l[r]::(l.take r++l.drop (r+1))).Perm l:=by
 have h:=@set_perm l r l[r] a;grind
theorem swap_perm {l k:List Int} {r c:Nat} (a:r<l.length) (b:c<k.length):(l.set r (bj k c 0)++k.set c (bj l r 0)).Perm (l++k):=by
 grind[cV]
theorem Run.piv (h:Run n m t0 t) {r c:Nat} (a:r<m) (b:c<n) (d:t.cf r c≠0):Run n m t0 (fV t r c) where
 oG:=h.oG;wf:=SI h.wf;nd:=h.nd;perm:=(swap_perm (by rw[h.wf.basic];exact a) (by rw[h.wf.free];exact b)).trans h.perm;mQ x z:=(piv_holds h.wf a b d).trans (h.mQ x z);dt:=by
  have e:jy m t0 (fV t r c)=t.cf r c*jy m t0 t:=by
   rw[<-h.SO a b];unfold jy;congr 1;show(t.basic.set r (t.fv c)).map (fW m t0)=_;simp_all
  rw[e];have:=h.dt;grind
theorem Eg {M:Nat} (d:1<=M) (c:∀i j,i<m->j<n->fc M (t0.cf i j)) (a:t0.WF n m) {v:Int} {i:Nat}:fc M (fW m t0 v i):=by
 unfold fW;split
 ·split
  ·rename_i b e;exact c _ _ b (by rw[<-a.free];grind)
  ·split;·exact⟨1,by simp,by omega⟩
   ·exact⟨0,by simp,by simp⟩
 ·exact⟨0,by simp,by simp⟩
theorem mem_set {C:List (Nat->Rat)} {r:Nat} {c d:Nat->Rat} (h:d∈C.set r c):d∈C\/d=c:=List.mem_or_eq_of_mem_set h
theorem Run.acM (h:Run n m t0 t) {M:Nat} (a:1<=M) (c:∀i j,i<m->j<n->fc M (t0.cf i j)):fc (nK M m) (jy m t0 t):=by
 have:=@Eb M (t.basic.map (fW m t0)) (ω m) (by simp[h.wf.basic]) λd b i _=>by
  obtain⟨v,_,rfl⟩:=Ψ.1 b;exact Eg a c h.oG
 rwa [List.length_range] at this
theorem Run.cfZ (h:Run n m t0 t) {M:Nat} (e:1<=M) (b:∀i j,i<m->j<n->fc M (t0.cf i j)) {r c:Nat} (f:r<m) (g:c<n):fc (nK M m) (t.cf r c*jy m t0 t):=by
 rw[<-h.SO f g];have:=@Eb M ((t.basic.map (fW m t0)).set r (fW m t0 (t.fv c))) (ω m) (by simp[h.wf.basic]) λd a i _=>by
  rcases mem_set a with a|rfl
  ·obtain⟨v,_,rfl⟩:=Ψ.1 a;exact Eg e b h.oG
  ·exact Eg e b h.oG
 simp_all
theorem Run.bdZ (h:Run n m t0 t) {M:Nat} (b:1<=M) (c:∀i j,i<m->j<n->fc M (t0.cf i j)) (f:∀i,i<m->fc M (t0.bd i)) {r:Nat} (e:r<m):fc (nK M m) (t.bd r*jy m t0 t):=by
 rw[<-h.acK e];have:=@Eb M ((t.basic.map (fW m t0)).set r (yr m t0)) (ω m) (by simp[h.wf.basic]) λd a i g=>by
  rcases mem_set a with a|rfl
  ·obtain⟨v,_,rfl⟩:=Ψ.1 a;exact Eg b c h.oG
  simp_all[yr]
 simp_all
end
structure qO (n m:Nat) (t:Tb) (r c:Nat):Prop where
 hr:r<m
 hc:c<n
 cost:0<t.cs c
 least:∀j,j<n->0<t.cs j->t.fv c<=t.fv j
 pos:0<t.cf r c
 ratio:∀i,i<m->0<t.cf i c->t.bd r / t.cf r c<t.bd i / t.cf i c\/(t.bd r / t.cf r c=t.bd i / t.cf i c/\t.bv r<=t.bv i)
def kq (m:Nat) (t:Tb):Prop:=∀i,i<m->0<=t.bd i
section
variable {n m:Nat} {t t0:Tb} {r c:Nat}
theorem A8 (a b:Rat):a<=b\/b<a:=(Classical.em (a<=b)).imp id Rat.not_le.1
theorem div_mul {a b:Rat} (h:0<b):a / b*b=a:=by
 grind
theorem inv_pos {b:Rat} (h:0<b):0<1 / b:=by
 have c:(1 / b)*b=1:=div_mul h;rcases A8 (1 / b) 0 with a|a
 ·exfalso;have d:0<=(-(1 / b))*b:=δv (by grind) (by grind);grind
 ·exact a
theorem SQ {a b:Rat} (c:0<=a) (h:0<b):0<=a / b:=by
 grind[δv,inv_pos]
theorem qO.ge (h:qO n m t r c) (a:kq m t):0<=t.bd r / t.cf r c:=SQ (a r h.hr) h.pos
theorem qO.yt (h:qO n m t r c) (k:t.WF n m) (d:kq m t):kq m (fV t r c):=by
 intro i a;have f:=h.ge d;have e:t.bd r*(1 / t.cf r c)=t.bd r / t.cf r c:=by grind
 rw[Ef k a,e];split;·exact f
 ·rcases A8 (t.cf i c) 0 with b|b
  ·have j:0<=(-(t.cf i c))*(t.bd r / t.cf r c):=δv (by grind) f;have:=d i a;grind
  ·have j:t.bd r / t.cf r c<=t.bd i / t.cf i c:=by
    rcases h.ratio i a b with g|g<;>grind
   have g:0<=t.cf i c*(t.bd i / t.cf i c - t.bd r / t.cf r c):=δv (by grind) (by grind);grind[div_mul]
theorem qO.value:(fV t r c).value=t.value+t.cs c*(t.bd r / t.cf r c):=by
 show t.value+t.cs c*(t.bd r*(1 / t.cf r c))=_;grind
theorem JC {b:Type}:∀(L:List b) (f:Nat->b),(∀k,f k∈L)->∃i j,i<j/\f i=f j
 |[],f,h=>by simp_all;|a::L,f,h=>by
  by_cases c:∃i,f i=a
  ·obtain⟨i,g⟩:=c;by_cases e:∃j,i<j/\f j=a;·grind
   ·obtain⟨x,y,d,l⟩:=JC L (λk=>f (k+i+1)) λk=>by
     grind
    grind
  ·exact JC L f λk=>by
    simp_all
def Ba (V:List Int):Nat->List (List Int)
 |0=>[[]]
 |k+1=>(Ba V k).flatMap λl=>V.map λv=>v::l
theorem SR {V:List Int}:∀{l:List Int},(∀v∈l,v∈V)->l∈Ba V l.length
 |[],_=>by simp[Ba];|x::l,h=>by
  simp only[γF,Ba,List.mem_flatMap,Ψ];exact⟨l,SR λv a=>h v (by simp[a]),x,h x (by simp),rfl⟩
theorem acP {l:List Int} {r:Nat} {x v:Int} (a:r<l.length) (b:l.Nodup):v∈l.set r x↔v=x\/(v∈l/\v≠bj l r 0):=by
 grind[set_perm,cV,acL]
theorem SS {f:Nat->Int} {i:Nat}:∀{d:Nat},∃k,(i<=k/\k<=i+d)/\∀x,i<=x->x<=i+d->f x<=f k
 |0=>⟨i,by omega,λx a b=>by grind⟩
 |d+1=>by
  obtain⟨k,a,b⟩:=@SS f i d;by_cases h:f k<=f (i+(d+1))
  ·refine⟨i+(d+1),by omega,λx c e=>?_⟩;grind
  ·refine⟨k,by omega,λx c e=>?_⟩;grind
theorem SU:∀{n:Nat} {f:Nat->Rat},0<bO n f->∃j,j<n/\0<f j
 |0,f,h=>by grind[bO];|n+1,f,h=>by
  rcases A8 (f n) 0 with a|a
  ·obtain⟨j,c,b⟩:=@SU n f (by grind[bO]);grind
  grind
theorem wy (h:t.WF n m) {j:Nat} (a:j<n):t.fv j∈t.free:=by
 have b:j<t.free.length:=by rw[h.free];exact a
 grind[Tb.fv,cV]
theorem Bc (h:t.WF n m) {j:Nat} (a:j<m):t.bv j∈t.basic:=by
 have b:j<t.basic.length:=by rw[h.basic];exact a
 grind[Tb.bv,cV]
theorem wz (h:t.WF n m) {v:Int} (b:v∈t.free):∃j,j<n/\t.fv j=v:=by
 obtain⟨j,a,rfl⟩:=γJ b;exact⟨j,by rw[<-h.free];exact a,by grind[Tb.fv,cV]⟩
theorem yu (h:t.WF n m) {v:Int} (b:v∈t.basic):∃j,j<m/\t.bv j=v:=by
 obtain⟨j,a,rfl⟩:=γJ b;exact⟨j,by rw[<-h.basic];exact a,by grind[Tb.bv,cV]⟩
theorem JD (c:(t.basic++t.free).Nodup) {v:Int} (a:v∈t.basic) (b:v∈t.free):False:=(γs.1 c).2.2 _ a _ b rfl
theorem acQ (h:t.WF n m) (c:(t.basic++t.free).Nodup) {i j:Nat} (f:i<m) (d:j<m) (e:t.bv i=t.bv j):i=j:=by
 have a:=py (γs.1 c).1 (show i<t.basic.length by rw[h.basic];exact f);have b:=py (γs.1 c).1 (show j<t.basic.length by rw[h.basic];exact d);grind[Tb.bv]
theorem acR (h:t.WF n m) (c:(t.basic++t.free).Nodup) {i j:Nat} (f:i<n) (d:j<n) (e:t.fv i=t.fv j):i=j:=by
 have a:=py (γs.1 c).2.1 (show i<t.free.length by rw[h.free];exact f);have b:=py (γs.1 c).2.1 (show j<t.free.length by rw[h.free];exact d);grind[Tb.fv]
theorem acS {T:Nat->Tb} {r c:Nat->Nat} (p:∀k,Run n m t0 (T k)) (hF:∀k,kq m (T k)) (B:∀k,qO n m (T k) (r k) (c k)) (hT:∀k,T (k+1)=fV (T k) (r k) (c k)) {i j:Nat} (b8:i<j) (hb:(T i).basic=(T j).basic) (hf:(T i).free=(T j).free):False:=by
 have b7:(T i).value=(T j).value:=by
  have t:=((p j).mQ _ _).2 (((p i).mQ _ _).1 (asg_holds (p i).wf (p i).gp (y:=λ_=>0)));have e1:bO n (λk=>(T i).cs k*(λ_=>(0:Rat)) k)=0:=by grind[iT]
  have e2:bO n (λk=>(T j).cs k*jw n (T i) (λ_=>0) ((T j).fv k))=0:=by
   rw[dJ (g:=λ_=>0) λk hk=>by
    have:(T j).fv k=(T i).fv k:=by grind[Tb.fv]
    rw[this,mP (p i).wf (p i).gp hk];grind,iT]
  have K:=t.2;grind
 have L:∀k,(T k).value<=(T (k+1)).value:=λk=>by
  rw[hT k,qO.value];have:=δv (a:=(T k).cs (c k)) (by have:=(B k).cost;grind) ((B k).ge (hF k));grind
 have S:∀d a,(T a).value<=(T (a+d)).value:=λd=>by
  induction d<;>grind
 have H:∀k,i<=k->k<j->(T k).bd (r k)=0:=λk t K=>by
  have a1:=S (k - i) i;have a2:=S (j - (k+1)) (k+1);rw[show i+(k - i)=k by omega] at a1;rw[show k+1+(j - (k+1))=j by omega] at a2;have a3:=L k;rw[hT k] at a2 a3;rw[qO.value] at a2 a3;have h3:=(B k).ge (hF k);have hc:=(B k).cost;have h4:=@div_mul ((T k).bd (r k)) _ (B k).pos;grind[Rat.mul_eq_zero]
 have b6:∀k,i<=k->k<j->∀v,v∈(T k).basic++(T k).free->jw n (T (k+1)) (λ_=>0) v=jw n (T k) (λ_=>0) v:=λk t K v O=>by
  have hw:=(p k).wf;have G:=(p (k+1)).wf;have hx:=((p (k+1)).mQ _ _).2 (((p k).mQ _ _).1 (asg_holds hw (p k).gp (y:=λ_=>0)));have hz:∀q,q<n->jw n (T k) (λ_=>0) ((T (k+1)).fv q)=0:=λq s=>by
   rw[hT k,Jz hw (B k).hc];split
   ·rw[nL hw (p k).gp (B k).hr,H k t K,dJ (g:=λ_=>0) λj _=>by grind,iT];grind
   ·rw[mP hw (p k).gp s]
  have A:v∈(T (k+1)).basic++(T (k+1)).free:=((p (k+1)).perm.trans (p k).perm.symm).mem_iff.2 O;rcases γk.1 A with A|A
  ·obtain⟨q,s,rfl⟩:=yu G A;have:=hx.1 q s;rw[dJ (g:=λ_=>0) λj hj=>by simp_all,iT] at this;rw[nL G (p (k+1)).gp s,dJ (g:=λ_=>0) λj _=>by grind,iT];grind
  ·obtain⟨q,s,rfl⟩:=wz G A;rw[hz q s,mP G (p (k+1)).gp s]
 have w:∀a b v,v∈(T a).basic++(T a).free->v∈(T b).basic++(T b).free:=λa b v O=>((p b).perm.trans (p a).perm.symm).mem_iff.2 O;have W:∀d a,i<=a->a+d<=j->∀v,v∈(T a).basic++(T a).free->jw n (T (a+d)) (λ_=>0) v=jw n (T a) (λ_=>0) v:=λd=>by
  induction d<;>grind
 have hA:∀a b,i<=a->a<=j->i<=b->b<=j->∀v,v∈(T a).basic++(T a).free->jw n (T a) (λ_=>0) v=jw n (T b) (λ_=>0) v:=λa b t K h3 h4 v O=>by
  have e1:=W (a - i) i (by omega) (by omega) v (w _ _ v O);have e2:=W (b - i) i (by omega) (by omega) v (w _ _ v O);simp_all
 have P:∀k v,v∈(T (k+1)).basic↔v=(T k).fv (c k)\/(v∈(T k).basic/\v≠(T k).bv (r k)):=λk v=>by
  rw[hT k];exact acP (by rw[(p k).wf.basic];exact(B k).hr) (γs.1 (p k).gp).1
 have U:∀v a b,i<=a->a<=j->i<=b->b<=j->v∈(T a).basic->v∉(T b).basic->∃k,i<=k/\k<j/\(T k).fv (c k)=v:=λv a b a1 a2 b1 b2 ha a9=>by
  apply δb;intro Y;have I:∀d x,i<=x->x+d<=j->v∈(T (x+d)).basic->v∈(T x).basic:=λd=>by
   induction d<;>grind
  have t:=I (a - i) i (by omega) (by omega) (by simp_all);rw[hb] at t;exact a9 (I (j - b) b (by omega) (by omega) (by simp_all))
 obtain⟨l,⟨a6,b9⟩,a0⟩:=@SS (λk=>(T k).fv (c k)) i (j - 1 - i);have J:∀x,i<=x->x<j->(T x).fv (c x)<=(T l).fv (c l):=λx t K=>a0 x t (by omega);have c2:l<j:=by omega
 have a7:(T l).fv (c l)∈(T l).free:=wy (p l).wf (B l).hc;have c0:(T l).fv (c l)∉(T l).basic:=λh=>JD (p l).gp h a7;obtain⟨o,F,Q,hl⟩:∃o,i<=o/\o<j/\(T o).bv (r o)=(T l).fv (c l):=by
  apply δb;intro Y;have up:∀d x,i<=x->x+d<=j->(T l).fv (c l)∈(T x).basic->(T l).fv (c l)∈(T (x+d)).basic:=λd=>by
   induction d with
   |zero=>intro x _ _ h;exact h;|succ d ih=>
    intro x t K h;exact(P (x+d) _).2 (.inr ⟨ih x t (by omega) h,λe=>Y ⟨x+d,by omega,by omega,e.symm⟩⟩)
  have t:=up (j - (l+1)) (l+1) (by omega) (by omega) ((P l _).2 (.inl rfl));rw[show l+1+(j - (l+1))=j by omega,<-hb] at t;have K:=up (l - i) i (by omega) (by omega) t;simp_all
 have w1:=(p l).wf;have C:=(p o).wf;have n1:=(p l).gp;have E:=(p o).gp;have p1:=B l;have N:=B o;have x1:=(((p l).mQ _ _).2 (((p o).mQ _ _).1 (asg_holds C E (y:=λq=>if q=c o then 1 else 0)))).2;have x0:=(((p l).mQ _ _).2 (((p o).mQ _ _).1 (asg_holds C E (y:=λ_=>0)))).2;rw[dJ (f:=λq=>(T o).cs q*(λq=>if q=c o then(1:Rat) else 0) q) (g:=λq=>if q=c o then(T o).cs (c o) else 0) λq _=>by
  by_cases s:q=c o<;>grind,wv,if_pos N.hc] at x1;rw[dJ (f:=λq=>(T o).cs q*(λ_=>(0:Rat)) q) (g:=λ_=>0) λq _=>by grind,iT] at x0;have hd:0<bO n λq=>(T l).cs q*(jw n (T o) (λq=>if q=c o then 1 else 0) ((T l).fv q) - jw n (T o) (λ_=>0) ((T l).fv q)):=by
  rw[dJ (g:=λq=>(T l).cs q*jw n (T o) (λq=>if q=c o then 1 else 0) ((T l).fv q)+(-1)*((T l).cs q*jw n (T o) (λ_=>0) ((T l).fv q))) λq _=>by grind,yq,wu];have:=N.cost;grind
 obtain⟨q,s,u⟩:=SU hd;have a5:(T l).fv q∈(T l).free:=wy w1 s;have Z:=w l o _ (List.mem_append_right _ a5);rcases γk.1 Z with a4|X
 ·obtain⟨D,z,e⟩:=yu C a4;rw[<-e,nL C E z,nL C E z,dJ (f:=λj=>(T o).cf D j*(λq=>if q=c o then(1:Rat) else 0) j) (g:=λj=>if j=c o then(T o).cf D (c o) else 0) (λj _=>by
   by_cases hj:j=c o<;>grind),wv,if_pos N.hc,dJ (f:=λj=>(T o).cf D j*(λ_=>(0:Rat)) j) (g:=λ_=>0) (λj _=>by grind),iT] at u;have M:0<(T l).cs q*(-(T o).cf D (c o)):=by grind
  obtain⟨k3,b3,b5,h3⟩:=U _ o l F (by omega) a6 (by omega) a4 (λh=>JD n1 h a5);have b0:(T l).fv q<=(T l).fv (c l):=by grind
  rcases A8 ((T l).cs q) 0 with hs|hs
  ·have a8:0<(T o).cf D (c o):=by
    rcases A8 ((T o).cf D (c o)) 0 with h4|h4
    ·exfalso;have:=δv (a:= -(T l).cs q) (b:= -(T o).cf D (c o)) (by grind) (by grind);grind
    ·exact h4
   have b4:(T o).bd D=0:=by
    have V:=hA o l F (by omega) a6 (by omega) ((T l).fv q) Z;rw[mP w1 n1 s,<-e,nL C E z,dJ (g:=λ_=>0) λj _=>by grind,iT] at V;grind
   have c1:=H o F Q;have hz:∀b:Rat,(0:Rat) / b=0:=λb=>by grind
   rcases N.ratio D z a8 with h6|h6;·simp_all
   ·have h7:(T l).fv (c l)<=(T l).fv q:=by omega
    have h8:=acR w1 n1 s p1.hc (by omega);rw[h8] at hs;have:=p1.cost;grind
  ·have h7:=p1.least q s hs;have h8:D=r o:=acQ C E z N.hr (by omega);rw[h8] at M;have:=δv (a:=(T l).cs q) (b:=(T o).cf (r o) (c o)) (by grind) (by have:=N.pos;grind);grind
 ·obtain⟨q2,R,e⟩:=wz C X;rw[<-e,mP C E R,mP C E R] at u;by_cases V:q2=c o
  ·rw[if_pos V] at u;have h6:=p1.least q s (by grind);have h7:=J o F Q;rw[V] at e;have h8:(T l).fv (c l)=(T o).fv (c o):=by omega
   exact JD E (Bc C N.hr) (by grind)
  ·rw[if_neg V] at u;grind
end
open Go.Proofs.YtbnhiekmnpikhaaGreat.Ir
open Go.Proofs
def ey (x y:Int):Int:=(Nat.gcd x.toNat y.toNat:Nat)
theorem acT {x y:Int} (h0:0<=x) (h1:0<y):ey y (x % y)=ey x y:=by
 unfold ey;congr 1;rw[Nat.gcd_comm x.toNat,Nat.gcd_rec y.toNat x.toNat,Nat.gcd_comm,Int.toNat_emod h0 (by omega)]
theorem acU {x:Int} (h0:0<=x):ey x 0=x:=by unfold ey;simp;omega
theorem mj {i u v:Nat} (h:u=v):(γZ i u 1).same (γZ i v 1):=by subst h;rfl
theorem SX {l:List Int} (h:l=[]):(Ω (.i .i64) []).same (Ω (.i .u32) l):=by subst h;rfl
def sbO (x y:Int):SV:=.bI [.row (.i .u32) (cO (x - y)),.sb (decide (y<=x))]
theorem JE {n:Int} (h:n<=0):cO n=[]:=by
 unfold cO;rw[show n.toNat=0 by omega];rfl
def JF:bM:=⟨166,List Int×List Int,.cons (dL (.i .u32)) (.one (dL (.i .u32))),λa=>(bA a.1/\bA a.2)/\a.1.length<=100000000000/\a.2.length<=100000000000,
 λa=>sbO (bk a.1) (bk a.2)⟩
def acW (a:List Int×List Int):Nat->cC
 |7=> .inv (Int×Int×List Int) (λx=>⟨[(0,.row (.i .u32) (bJ a.1)),(1,.row (.i .u32) (bJ a.2)),(6,.ow 0 x.2.2.length 1),(7,.si .u64 x.2.1),(22,.si .i64 (bJ a.1).length),(23,.si .i64 x.1)],[.row (.i .u32) x.2.2 172 true]⟩)
  (λs=>(iS s 23,iS s 7,oS (.i .u32) s 0))
  (λx=>(0<=x.1/\x.1<=(bJ a.1).length)/\(0<=x.2.1/\x.2.1<=1)/\bA x.2.2/\x.2.2.length=(bJ a.1).length/\(∀j,x.1.toNat<=j->bj x.2.2 j 0=0)/\
   bk x.2.2 - 4294967296^x.1.toNat*x.2.1=bk ((bJ a.1).take x.1.toNat) - bk ((bJ a.2).take x.1.toNat)) (λx=>((bJ a.1).length - x.1).toNat) λ_ _=> .look
 |_=> .look
theorem SY {s t row:List Int} {i:Nat} {br d v c:Int} (hs:bA s) (ht:bA t) (hr:bA row) (hl:row.length=s.length) (hz:∀j,i<=j->bj row j 0=0)
  (hv:bk row - 4294967296^i*br=bk (s.take i) - bk (t.take i)) (hi:i<s.length) (hd:d=bj s i 0 - br - bj t i 0) (h0:0<=v/\v<4294967296) (hc:v - 4294967296*c=d):
  bA (row.set i v)/\(row.set i v).length=s.length/\(∀j,i+1<=j->bj (row.set i v) j 0=0)/\bk (row.set i v) - 4294967296^(i+1)*c=bk (s.take (i+1)) - bk (t.take (i+1)):=by
 refine⟨nE hr h0.1 h0.2,by simp[hl],λj hj=>by rw[pV (by omega)];exact hz j (by omega),?_⟩;rw[uz (by omega),lY,lY,hz i (ν _),γS,ζj];have h1:(4294967296:Int)^i*(v - 4294967296*c)=4294967296^i*(bj s i 0 - br - bj t i 0):=by rw[hc,hd]
 simp only[Int.mul_sub] at h1;rw[<-δl] at h1;omega
theorem h155:Holds Tryz.prog JF:=by
 refine cH (L:=[rJ,yd]) JF acW (by simpa using⟨h152,h132⟩) ?_;rintro⟨a,b⟩ ⟨⟨ha,hb⟩,hla,hlb⟩;simp only at ha hb hla hlb;refine bQ (let c:=(0:Int);let d:=(18446744073709551616:Int);let e:=Ω;let f:=(4294967296:Int);let g:=γg .i64;let h:=(1:Int);let k:=γZ;let l:=SV.bI;let z0:Nat:=(bJ a).length;let B:=decide (lW (bk (bJ a)) (bk (bJ b))<c);let m:=bp.i .u32;let C:=l [e m (cO (bk a - bk b)),γx (decide (bk b<=bk a))];let o:=(↑(bJ a).length:Int);let q:=δ o.toNat c;let p:=(↑z0:Int);let z:=g p;let D:=bq.row m q 172 true;let A:=(↑(bJ b).length:Int);a.length<=1000000000000/\b.length<=1000000000000/\((bA (bJ a)/\bA (bJ b))/\z0<=1000000000000/\(bJ b).length<=1000000000000)/\(B=true->(l [e (bp.i .i64) [],SV.bl false]).same C)/\(B=false->c<=o/\o<=o/\o*(4:Int)<=(140737488355328:Int)/\o<=(1000000000000:Int)/\((((e m (bJ a)).same (e m (bJ a))/\(e m (bJ b)).same (e m (bJ b))/\(k 0 o.toNat 1).same (k 0 q.length 1)/\(γA .u64 0).same (γg .u64 0)/\(g o).same z/\(γA .i64 0).same (g 0)/\True)/\D.same D/\True)/\(c<=c/\c<=p)/\(c<=c/\c<=h)/\bA q/\q.length=z0/\(∀(j:Nat),0<=j->bj q j c=c)/\bk q - c=c)/\∀(x:Int×Int×List Int),let r:=x.snd.snd.length;let v:=x.snd.snd.length;let n:=x.fst.toNat;let s:=x.fst+h;let E:=g s;let w:=s.toNat;let F:=bj (bJ a) n c;let G:=λ(u u_1:Int) ↦let H:=(u % d - u_1) % d;let t:=x.snd.snd.set n (H % f);let y:=H / (9223372036854775808:Int);let I:=γg .u64 y;let J:=bq.row m t 172 true;c<=(63:Int)/\(63:Int)<=(64:Int)/\r=v/\c<=x.fst/\x.fst<(↑v:Int)/\r=v/\n<v/\cq .i64 s/\(((e m (bJ a)).same (e m (bJ a))/\(e m (bJ b)).same (e m (bJ b))/\(k 0 r 1).same (k 0 t.length 1)/\I.same I/\z.same z/\E.same E/\True)/\J.same J/\True)/\((c<=s/\s<=p)/\(c<=y/\y<=h)/\bA t/\t.length=z0/\(∀(j:Nat),w<=j->bj t j c=c)/\bk t - f^w*y=bk (Δ w (bJ a)) - bk (Δ w (bJ b)))/\(p - s).toNat<(p - x.fst).toNat;(c<=x.fst/\x.fst<=p)/\(c<=x.snd.fst/\x.snd.fst<=h)/\bA x.snd.snd/\r=z0/\(∀(j:Nat),n<=j->bj x.snd.snd j c=c)/\bk x.snd.snd - f^n*x.snd.fst=bk (Δ n (bJ a)) - bk (Δ n (bJ b))->(decide (x.fst<p)=true->c<=x.fst/\x.fst<o/\n<(bJ a).length/\(decide (x.fst<A)=true->c<=x.fst/\x.fst<A/\n<(bJ b).length/\G (F % d - x.snd.fst) (bj (bJ b) n c % d))/\(decide (x.fst<A)=false->G F x.snd.fst))/\(decide (x.fst<p)=false->r=v/\r<=1000000000000/\(l [e m (bJ x.snd.snd),SV.bl true]).same C))) (by kernel_rfl) ?_;simp only[vcs];obtain⟨va,na⟩:=@rK a;obtain⟨vb,nb⟩:=@rK b;have da:=sV ha;have db:=sV hb;have la:=@uy a;have lb:=@uy b;have pa:=fi da;have pb:=fi db;rw[<-va,<-vb];generalize bJ a=s at*;generalize bJ b=t at*;have hr0:∀n j,bj (δ n (0:Int)) j 0=0:=λn j=>by
  unfold bj;rw[εG];split<;>rfl
 have hd0:∀n,bA (δ n 0):=λn d hd=>by
  have:=δ1 hd;omega
 have hv0:∀n,bk (δ n 0)=0:=λn=>by
  induction n with
  |zero=>rfl;|succ n ih=>simp only[δc,bk,ih];omega
 refine⟨by omega,by omega,⟨⟨da,db⟩,by omega,by omega⟩,λhlt=>?_,λhge=>⟨by omega,by omega,by omega,by omega,?_,?_⟩⟩
 ·have hlt2:bk s<bk t:=by unfold lW at hlt;split at hlt<;>(try split at hlt)<;>omega
  refine⟨SX (JE (by omega)),?_⟩;rw[eq_comm,decide_eq_false_iff_not];omega
 ·repeat' refine γj ?_ ?_
  all_goals first|omega|exact mj (by simp)|exact hd0 _|exact λj _=>hr0 _ j|(simp;done)|(rw[hv0];rfl)
 have DD:bk t<=bk s:=by unfold lW at hge;split at hge<;>(try split at hge)<;>omega
 rintro⟨i,br,row⟩ ⟨⟨i0,i1⟩,⟨b0,b1⟩,hr,hl,hz,hv⟩;simp only at i0 i1 b0 b1 hr hl hz hv ⊢;refine⟨λlZ=>?_,λnD=>?_⟩
 ·have d1:=eh da i.toNat;have d2:=eh db i.toNat;have e:(i+1).toNat=i.toNat+1:=by omega
  refine⟨i0,lZ,by omega,λht=>?_,λht=>?_⟩
  ·generalize hq:((bj s i.toNat 0 % 18446744073709551616 - br) % 18446744073709551616 - bj t i.toNat 0 % 18446744073709551616) % 18446744073709551616=q;obtain⟨k1,k2,k3,k4⟩:=SY (v:=q % 4294967296) (c:=q / 9223372036854775808) da db hr hl hz hv (by omega) rfl (by omega) (by omega);rw[e];repeat' refine γj ?_ ?_
   all_goals first|omega|exact mj (by simp)|exact k1|exact k2|exact k3|exact k4
  ·have hz2:=DW (a:=t) (i:=i.toNat) (by omega);generalize hq:(bj s i.toNat 0 % 18446744073709551616 - br) % 18446744073709551616=q;obtain⟨k1,k2,k3,k4⟩:=SY (v:=q % 4294967296) (c:=q / 9223372036854775808) da db hr hl hz hv (by omega) rfl (by omega) (by omega);rw[e];repeat' refine γj ?_ ?_
   all_goals first|omega|exact mj (by simp)|exact k1|exact k2|exact k3|exact k4
 ·have hi:i.toNat=s.length:=by omega
  have hlen:t.length<=s.length:=by
   by_cases h:s.length<t.length
   ·have:=yc da db nb h;omega
   ·omega
  rw[hi,ψ,List.take_of_length_le hlen] at hv;have hbd:=oz hr;have hp:=pow_pos s.length;rw[hl] at hbd;have hb0:br=0:=by
   by_cases h:br=0;·exact h
   ·have:br=1:=by omega
    subst this;omega
  rw[hb0,δG,ζj] at hv;refine⟨by omega,?_,?_⟩;·rw[qG hr,hv]
  ·rw[eq_comm,decide_eq_true_eq];exact DD
theorem SZ {n j:Nat}:bj (δ n (0:Int)) j 0=0:=by
 unfold bj;rw[εG];split<;>rfl
theorem Bd {n:Nat}:bA (δ n 0):=λd hd=>by
 have:=δ1 hd;omega
theorem yv:∀{n:Nat},bk (δ n 0)=0
 |0=>rfl
 |n+1=>by simp only[δc,bk,@yv n];omega
theorem acX {o b:List Int} {x:Int} {i k:Nat}:iz o b x i (k+1)=((iz o b x i k).1.set (i+k) ((x*bj b k 0+bj (iz o b x i k).1 (i+k) 0+(iz o b x i k).2) % 4294967296),(x*bj b k 0+bj (iz o b x i k).1 (i+k) 0+(iz o b x i k).2) / 4294967296):=rfl
def yw:bM:=⟨164,List Int×List Int,.cons (dL (.i .u32)) (.one (dL (.i .u32))),λa=>(bA a.1/\bA a.2)/\a.1.length<=100000000000/\a.2.length<=100000000000,
 λa=> .row (.i .u32) (cO (bk a.1*bk a.2))⟩
def stM (a:List Int×List Int) (row:List Int):bZ:=[.row (.i .u32) row 172 true]
def acY (a:List Int×List Int):Nat->cC
 |3=> .inv (Int×List Int) (λx=>⟨[(0,.row (.i .u32) a.1),(1,.row (.i .u32) a.2),(5,.ow 0 x.2.length 1),(17,.si .i64 a.1.length),(18,.si .i64 x.1)],stM a x.2⟩)
  (λs=>(iS s 18,oS (.i .u32) s 0))
  (λx=>(0<=x.1/\x.1<=a.1.length)/\bA x.2/\x.2.length=a.1.length+a.2.length/\bk x.2=bk (a.1.take x.1.toNat)*bk a.2) (λx=>(a.1.length - x.1).toNat)
  λx=>λ
   |7=> .inv (Int×Int×List Int) (λy=>⟨[(0,.row (.i .u32) a.1),(1,.row (.i .u32) a.2),(5,.ow 0 y.2.2.length 1),(6,.si .i64 x.1),(7,.si .u64 y.2.1),(17,.si .i64 a.1.length),(18,.si .i64 x.1),(22,.si .i64 a.2.length),(23,.si .i64 y.1)],stM a y.2.2⟩)
    (λs=>(iS s 23,iS s 7,oS (.i .u32) s 0))
    (λy=>(0<=y.1/\y.1<=a.2.length)/\y.2.2=(iz x.2 a.2 (bj a.1 x.1.toNat 0) x.1.toNat y.1.toNat).1/\y.2.1=(iz x.2 a.2 (bj a.1 x.1.toNat 0) x.1.toNat y.1.toNat).2) (λy=>(a.2.length - y.1).toNat) λ_ _=> .look
   |_=> .look
 |_=> .look
theorem h153:Holds Tryz.prog yw:=by
 refine cH (L:=[rJ]) yw acY (by simpa using h152) ?_;rintro⟨a,b⟩ ⟨⟨ha,hb⟩,hla,hlb⟩;simp only at ha hb hla hlb;refine bQ (let c:=(18446744073709551616:Int);let d:=(0:Int);let e:=Ω;let f:=γg .i64;let g:=(4294967296:Int);let h:=cq .i64;let j:=γZ;let k:=γA .i64 0;let l:=bq.row;let F:=(↑a.length:Int);let z:=(↑b.length:Int);let p:=F+z;let m:=bp.i .u32;let A:=δ p.toNat d;let q:=(↑a.length:Int);let t:=f q;let J:=l m A 172 true;let G:=a.length+b.length;let r:=(↑b.length:Int);let H:=f r;h p/\d<=p/\p<=p/\p*(4:Int)<=(140737488355328:Int)/\p<=(1000000000000:Int)/\((((e m a).same (e m a)/\(e m b).same (e m b)/\(j 0 p.toNat 1).same (j 0 A.length 1)/\(f F).same t/\(k).same (f 0)/\True)/\J.same J/\True)/\(d<=d/\d<=q)/\bA A/\A.length=G/\bk A=bk []*bk b)/\∀(x:Int×List Int),let C:=x.snd.length;let v:=x.fst.toNat;let K:=j 0 C 1;let s:=f x.fst;let L:=l m x.snd 172 true;let D:=bj a v d;let M:=iz x.snd b D v 0;let w:=x.fst+(1:Int);let N:=f w;(d<=x.fst/\x.fst<=q)/\bA x.snd/\C=G/\bk x.snd=bk (Δ v a)*bk b->(decide (x.fst<q)=true->((((e m a).same (e m a)/\(e m b).same (e m b)/\K.same K/\s.same s/\(γA .u64 0).same (γg .u64 0)/\t.same t/\s.same s/\(f z).same H/\(k).same (f 0)/\True)/\L.same L/\True)/\(d<=d/\d<=r)/\x.snd=M.fst/\d=M.snd)/\∀(x_1:Int×Int×List Int),let O:=iz x.snd b D v x_1.fst.toNat;let o:=x.fst+x_1.fst;let n:=x_1.snd.snd.length;let y:=x_1.fst+(1:Int);let P:=j 0 x_1.snd.snd.length 1;let I:=((D % c*(bj b x_1.fst.toNat d % c) % c+bj x_1.snd.snd o.toNat d % c) % c+x_1.snd.fst) % c;let Q:=x_1.snd.snd.set o.toNat (I % g);let R:=I / g;let S:=γg .u64 R;let T:=f y;let U:=iz x.snd b D v y.toNat;let B:=x.fst+z;let E:=x_1.snd.snd.set B.toNat (x_1.snd.fst % g);let V:=λ(u u_1:Int) ↦let W:=l m (x_1.snd.snd.set (x.fst+u).toNat (u_1 % g)) 172 true;W.same W/\True;(d<=x_1.fst/\x_1.fst<=r)/\x_1.snd.snd=O.fst/\x_1.snd.fst=O.snd->(decide (x_1.fst<r)=true->d<=x.fst/\x.fst<F/\v<a.length/\d<=x_1.fst/\x_1.fst<z/\x_1.fst.toNat<b.length/\h o/\x_1.snd.snd.length=n/\d<=o/\o<(↑n:Int)/\x_1.snd.snd.length=n/\o.toNat<n/\h o/\d<=(32:Int)/\(32:Int)<=(64:Int)/\x_1.snd.snd.length=n/\d<=o/\o<(↑n:Int)/\x_1.snd.snd.length=n/\o.toNat<n/\h y/\(((e m a).same (e m a)/\(e m b).same (e m b)/\P.same (j 0 Q.length 1)/\s.same s/\S.same S/\t.same t/\s.same s/\H.same H/\T.same T/\True)/\V x_1.fst I)/\((d<=y/\y<=r)/\Q=U.fst/\R=U.snd)/\(r - y).toNat<(r - x_1.fst).toNat)/\(decide (x_1.fst<r)=false->h B/\x_1.snd.snd.length=n/\d<=B/\B<(↑n:Int)/\x_1.snd.snd.length=n/\B.toNat<n/\h w/\(((e m a).same (e m a)/\(e m b).same (e m b)/\P.same (j 0 E.length 1)/\t.same t/\N.same N/\True)/\V z x_1.snd.fst)/\((d<=w/\w<=q)/\bA E/\E.length=G/\bk E=bk (Δ w.toNat a)*bk b)/\(q - w).toNat<(q - x.fst).toNat))/\(decide (x.fst<q)=false->C=x.snd.length/\C<=1000000000000/\(e m (bJ x.snd)).same (e m (cO (bk a*bk b))))) (by kernel_rfl) ?_;simp only[vcs];refine⟨by omega,by omega,by omega,by omega,by omega,?_,?_⟩
 ·repeat' refine γj ?_ ?_
  all_goals first|omega|exact mj (by simp)|exact Bd|(simp;omega)|(rw[yv];simp[bk])
 rintro⟨i,row⟩ ⟨⟨i0,i1⟩,hr,hl,hv⟩;simp only at i0 i1 hr hl hv ⊢;refine⟨λlZ=>⟨⟨⟨by omega,by omega⟩,rfl,rfl⟩,?_⟩,λnD=>?_⟩
 ·rintro⟨k,c,ro⟩ ⟨⟨k0,k1⟩,e1,e2⟩;simp only at k0 k1 e1 e2 ⊢;have x1:=eh ha i.toNat;obtain⟨m1,m2,⟨m3,m4⟩,m5,m6⟩:=@Ri row b (bj a i.toNat 0) i.toNat hr hb x1.1 x1.2 k.toNat (by omega);have hp:=@acX row b (bj a i.toNat 0) i.toNat k.toNat;generalize iz row b (bj a i.toNat 0) i.toNat k.toNat=M at*;obtain⟨p,q⟩:=M;simp only at e1 e2 m1 m2 m3 m4 m5 m6 hp;subst e1 e2;have hik:(i+k).toNat=i.toNat+k.toNat:=by omega
  have hk1:(k+1).toNat=k.toNat+1:=by omega
  have hi1:(i+1).toNat=i.toNat+1:=by omega
  refine⟨λklt=>?_,λkge=>?_⟩
  ·have x2:=eh hb k.toNat;have x3:=eh m1 (i.toNat+k.toNat);have hxb:0<=bj a i.toNat 0*bj b k.toNat 0:=γu x1.1 x2.1;have aiA:bj a i.toNat 0*bj b k.toNat 0<=4294967295*4294967295:=Int.mul_le_mul (by omega) (by omega) x2.1 (by omega);rw[hik,hk1,hp];have hq:(((bj a i.toNat 0 % 18446744073709551616*(bj b k.toNat 0 % 18446744073709551616) % 18446744073709551616+bj ro (i.toNat+k.toNat) 0 % 18446744073709551616) % 18446744073709551616+c) % 18446744073709551616)=bj a i.toNat 0*bj b k.toNat 0+bj ro (i.toNat+k.toNat) 0+c:=by
    rw[δJ (a:=bj a i.toNat 0) (by omega) (by omega),δJ (a:=bj b k.toNat 0) (by omega) (by omega)];omega
   rw[hq];repeat' refine γj ?_ ?_
   all_goals first|omega|exact mj (by simp)|rfl
  ·have hkl:k.toNat=b.length:=by omega
   rw[show(i+(b.length:Int)).toNat=i.toNat+b.length by omega];rw[hkl,ψ] at m6;rw[hkl] at m5;have hz:bj ro (i.toNat+b.length) 0=0:=by
    rw[m5 _ (ν _)];refine Az hr (i:=i.toNat+b.length) ?_ (ν _);rw[hv,δ6];have t1:=oz (nC ha i.toNat);rw[γw,εi (by omega)] at t1;have t2:=oz hb;have t3:=fi (nC ha i.toNat);have t4:=fi hb;exact εL (Θ (γe t2) t3) (γ2 t1 (pow_pos _))
   have hc:c % 4294967296=c:=by omega
   rw[hc,hi1];have hfin:bk (ro.set (i.toNat+b.length) c)=bk (a.take (i.toNat+1))*bk b:=by
    rw[uz (by omega),hz,ζj,m6,hv,lY,Int.add_mul,δl]
   repeat' refine γj ?_ ?_
   all_goals first|omega|exact mj (by simp)|exact nE m1 m3 m4|exact hfin|(rw[Φ];omega)
 ·have hi:i.toNat=a.length:=by omega
  rw[hi,ψ] at hv;refine⟨by omega,?_⟩;rw[qG hr,hv]
theorem S0 {x m:Int} {k:Nat} (p:0<=x) (t:x<2^k) (o:0<=m) (j:m*2^k<4294967296) (u:x<4294967296):gY.nZ .u32 x (m*2^k)=x+m*2^k:=by
 obtain⟨a,rfl⟩:=δE p;obtain⟨b,rfl⟩:=δE o;have e:((b:Int)*2^k)=((2^k*b:Nat):Int):=by grind
 have h:a<2^k:=by grind
 rw[e] at j ⊢;generalize i:2^k*b=c at*;have d:c<4294967296:=by omega
 have f:a<4294967296:=by omega
 have q:(γn 32 ((a:Nat):Int)).toNat=a:=by simp_all
 have r:(γn 32 ((c:Nat):Int)).toNat=c:=by simp_all
 have g:a |||c=a+c:=by
  rw[Nat.or_comm,<-i,<-Nat.two_pow_add_eq_or_of_lt h];omega
 have l:a+c<4294967296:=by
  rw[<-g];exact Nat.or_lt_two_pow (n:=32) f d
 have s:(γn 32 ((a:Nat):Int) |||γn 32 ((c:Nat):Int)).toNat=a+c:=by
  grind
 show eX .u32 ((γn 32 ((a:Nat):Int) |||γn 32 ((c:Nat):Int)).toNat:Nat)=_;grind[tW,IntKind.wrap,IntKind.bits,IntKind.signed]
theorem JG:∀{l:List Int} {i:Nat},bA l->4294967296^i*bj l i 0<=bk l
 |[],i,_=>by simp[bj,bk];|d::l,0,h=>by
  obtain⟨b,a⟩:=js.1 h;have:=fi a;grind[bj,bk];|d::l,i+1,h=>by
  obtain⟨b,a⟩:=js.1 h;have:=@JG l i a;have e:bj (d::l) (i+1) 0=bj l i 0:=by simp[bj]
  rw[e,γS,δ3 (4294967296^i),δl];grind[bk]
theorem S1 {a b:List Int} {i k:Nat} (n:bA a) (e:bA b) (F:b.length=a.length+1) (G:i<a.length) (u:k<=31) (q:bk b=bk (a.take i)*2^k):
  bA ((b.set i (gY.nZ .u32 (bj b i 0) (bj a i 0 % 18446744073709551616*2^k % 18446744073709551616 % 4294967296))).set (i+1) (bj a i 0 % 18446744073709551616*2^k % 18446744073709551616 / 4294967296 % 4294967296))/\
  bk ((b.set i (gY.nZ .u32 (bj b i 0) (bj a i 0 % 18446744073709551616*2^k % 18446744073709551616 % 4294967296))).set (i+1) (bj a i 0 % 18446744073709551616*2^k % 18446744073709551616 / 4294967296 % 4294967296))=bk (a.take (i+1))*2^k:=by
 have x:=eh n i;have r:=eh e i;have c:(0:Int)<2^k:=δM (by decide);have A:(2:Int)^k<=2147483648:=by
  have D:(2:Nat)^k<=2^31:=δr (by decide) u;grind
 have w:(4294967296:Int)=2^(32 - k)*2^k:=by
  rw[<-δ6,show 32 - k+k=32 by omega];decide
 have B:(0:Int)<2^(32 - k):=δM (by decide);have v:0<=bj a i 0*2^k:=γu x.1 (γe c);have H:bj a i 0*2^k<4294967296*2^k:=γ2 x.2 c;have z:bj a i 0 % 18446744073709551616*2^k % 18446744073709551616=bj a i 0*2^k:=by
  rw[δJ (a:=bj a i 0) (by omega) (by omega),δJ v (by omega)]
 have o:bj a i 0*2^k % 4294967296=(bj a i 0 % 2^(32 - k))*2^k:=by
  conv=>lhs;rw[w]
  rw[δ3 (bj a i 0),δ3 (2^(32 - k)),ζC _ _ c,δ3]
 have p:=δL (bj a i 0) (show(2:Int)^(32 - k)≠0 by omega);have E:=δp (bj a i 0) B;have s:=pow_pos i;have d:bk b<4294967296^i*2^k:=by
  rw[q];have:=oz (nC n i);rw[γw,εi (by omega)] at this;simp_all
 have h:bj b i 0<2^k:=εu (εL (JG e) d) (γe s);have m:bj b (i+1) 0=0:=by
  refine Az e (i:=i+1) ?_ (ν _);rw[γS];exact εJ d (Θ (by omega) (γe s))
 have f:(bj a i 0 % 2^(32 - k))*2^k+2^k<=4294967296:=by
  have:(bj a i 0 % 2^(32 - k)+1)*2^k<=2^(32 - k)*2^k:=γT (by omega) (γe c);grind
 have l:0<=(bj a i 0 % 2^(32 - k))*2^k:=γu p (γe c);have g:=S0 (k:=k) r.1 h p (by omega) r.2;rw[z,o,g];generalize y:bj a i 0*2^k=t at*;have j:(bj a i 0 % 2^(32 - k))*2^k=t % 4294967296:=o.symm;rw[j] at f l ⊢;refine⟨nE (nE e (by omega) (by omega)) (by omega) (by omega),?_⟩;rw[uz (by simp;omega),uz (by omega),pV (by omega),m,lY,Int.add_mul,δl,y,q,γS];have C:t / 4294967296 % 4294967296=t / 4294967296:=by omega
 grind
def shl (a:List Int) (k:Nat):List Int:=iy (a.length+1) (bk a*2^k)
abbrev S3:=List Int×Int
def Be (a:S3):Prop:=bA a.1/\a.1.length<=100000000000/\0<=a.2/\a.2<=31
def JH:bM:=⟨187,List Int×Int,.cons (dL (.i .u32)) (.one (eZ .u64)),Be,λa=> .row (.i .u32) (shl a.1 a.2.toNat)⟩
def JI:dG where
 f:=187;α:=List Int×Int;put a:=[.row (.i .u32) a.1,.si .u64 a.2];st _:=[];dec v o:=match v,o with
  |[v,m],[]=>match jJ (.i .u32) v,m.int .u64 with
   |some p,some m=>some (p,m)
   |_,_=>none
  |_,_=>none;ok v o a h:=by
  split at h
  ·split at h
   ·rename_i h1 h2;simp only[γ] at h;subst h;exact⟨by simp only[gL,pe h1,iP h2];rfl,rfl⟩
   ·cases h
  ·cases h
 inj a b h _:=by
  simp only[gL,List.cons.injEq,and_true] at h;have h2:=h.2;simp only[SV.g,AV.sc.injEq,Value.int.injEq,true_and] at h2;exact εH ((dL (.i .u32)).inj _ _ h.1) h2
 dom:=Be;res a:=.ow 0 (shl a.1 a.2.toNat).length 1;out a:=[.row (.i .u32) (shl a.1 a.2.toNat) 172 false]
def S4 (a:S3):Nat->cC
 |3=> .inv (Int×List Int) (λx=>⟨[(0,.row (.i .u32) a.1),(1,.si .u64 a.2),(5,.ow 0 x.2.length 1),(13,.si .i64 a.1.length),(14,.si .i64 x.1)],[.row (.i .u32) x.2 172 false]⟩)
  (λs=>(iS s 14,oS (.i .u32) s 0))
  (λx=>(0<=x.1/\x.1<=a.1.length)/\bA x.2/\x.2.length=a.1.length+1/\bk x.2=bk (a.1.take x.1.toNat)*2^a.2.toNat) (λx=>(a.1.length - x.1).toNat) λ_ _=> .look
 |_=> .look
theorem h168:ec Tryz.prog JI:=by
 refine HO (L:=[]) (W:=[]) JI (λ_=>none) S4 (by simp) (by simp) ?_;rintro⟨a,s⟩ ⟨ha,hla,s0,s1⟩;simp only at ha hla s0 s1;refine bQ (let b:=(0:Int);let c:=(18446744073709551616:Int);let d:=(4294967296:Int);let e:=γg .i64;let f:=bq.row;let g:=cq .i64;let h:=Ω;let j:=γZ;let w:=(↑a.length:Int);let o:=w+(1:Int);let l:=bp.i .u32;let r:=b::δ a.length b;let m:=(↑a.length:Int);let y:=e m;let A:=f l r 172 false;let z:=a.length+1;let u:=(2:Int)^s.toNat;g o/\b<=o/\o<=o/\o*(4:Int)<=(140737488355328:Int)/\o<=(1000000000000:Int)/\((((h l a).same (h l a)/\(γg .u64 s).same (γg .u64 s)/\(j 0 o.toNat 1).same (j 0 r.length 1)/\(e w).same y/\(γA .i64 0).same (e 0)/\True)/\A.same A/\True)/\(b<=b/\b<=m)/\bA r/\r.length=z/\bk r=bk []*u)/\∀(x:Int×List Int),let p:=x.snd.length;let q:=x.fst.toNat;let B:=bj a q b % c*u % c;let v:=x.snd.set q (gY.nZ .u32 (bj x.snd q b) (B % d));let n:=x.snd.length;let k:=x.fst+(1:Int);let C:=j 0 p 1;let t:=v.set k.toNat (B / d % d);let D:=e k;let E:=f l t 172 false;let F:=p=v.length;(b<=x.fst/\x.fst<=m)/\bA x.snd/\p=z/\bk x.snd=bk (Δ q a)*u->(decide (x.fst<m)=true->b<=x.fst/\x.fst<w/\q<a.length/\b<=s/\s<=(64:Int)/\p=n/\b<=x.fst/\x.fst<(↑n:Int)/\p=n/\q<n/\p=n/\b<=x.fst/\x.fst<(↑n:Int)/\p=n/\q<n/\g k/\b<=(32:Int)/\(32:Int)<=(64:Int)/\F/\b<=k/\k<(↑v.length:Int)/\F/\k.toNat<v.length/\g k/\(((h l a).same (h l a)/\(γg .u64 s).same (γg .u64 s)/\C.same (j 0 t.length 1)/\y.same y/\D.same D/\True)/\E.same E/\True)/\((b<=k/\k<=m)/\bA t/\t.length=z/\bk t=bk (Δ k.toNat a)*u)/\(m - k).toNat<(m - x.fst).toNat)/\(decide (x.fst<m)=false->C.same (j 0 (shl a s.toNat).length 1)/\(f l x.snd 172 false).same (f l (shl a s.toNat) 172 false)/\True)) (by kernel_rfl) ?_;simp only[vcs];refine⟨by omega,by omega,by omega,by omega,by omega,?_,?_⟩
 ·repeat' refine γj ?_ ?_
  all_goals first|omega|exact mj (by simp)|exact js.2 ⟨by omega,Bd⟩|(simp;done)|(simp only[bk,yv];omega)
 rintro⟨i,row⟩ ⟨⟨i0,i1⟩,hr,hl,hv⟩;simp only at i0 i1 hr hl hv ⊢;refine⟨λlZ=>?_,λnD=>?_⟩
 ·obtain⟨k1,k2⟩:=S1 ha hr hl (show i.toNat<a.length by omega) (show s.toNat<=31 by omega) hv;have e:(i+1).toNat=i.toNat+1:=by omega
  rw[e];repeat' refine γj ?_ ?_
  all_goals first|omega|exact mj (by simp)|(simp only[Φ];done)|(simp only[Φ];omega)|exact k1|exact k2
 ·have hi:i.toNat=a.length:=by omega
  rw[hi,ψ] at hv;have hrow:row=shl a s.toNat:=IL hr hl hv;rw[hrow];exact⟨rfl,rfl⟩
theorem h168p:Holds Tryz.prog JH:=by
 refine cH (L:=[]) JH S4 (by simp) ?_;rintro⟨a,s⟩ ⟨ha,hla,s0,s1⟩;simp only at ha hla s0 s1;refine bQ (let b:=(0:Int);let c:=(18446744073709551616:Int);let d:=(4294967296:Int);let e:=γg .i64;let f:=Ω;let g:=cq .i64;let h:=γZ;let v:=(↑a.length:Int);let o:=v+(1:Int);let l:=bp.i .u32;let q:=b::δ a.length b;let m:=(↑a.length:Int);let w:=e m;let z:=bq.row l q 172 false;let y:=a.length+1;let t:=(2:Int)^s.toNat;g o/\b<=o/\o<=o/\o*(4:Int)<=(140737488355328:Int)/\o<=(1000000000000:Int)/\((((f l a).same (f l a)/\(γg .u64 s).same (γg .u64 s)/\(h 0 o.toNat 1).same (h 0 q.length 1)/\(e v).same w/\(γA .i64 0).same (e 0)/\True)/\z.same z/\True)/\(b<=b/\b<=m)/\bA q/\q.length=y/\bk q=bk []*t)/\∀(x:Int×List Int),let n:=x.snd.length;let p:=x.fst.toNat;let A:=bj a p b % c*t % c;let u:=x.snd.set p (gY.nZ .u32 (bj x.snd p b) (A % d));let k:=x.snd.length;let j:=x.fst+(1:Int);let r:=u.set j.toNat (A / d % d);let B:=e j;let C:=bq.row l r 172 false;let D:=n=u.length;(b<=x.fst/\x.fst<=m)/\bA x.snd/\n=y/\bk x.snd=bk (Δ p a)*t->(decide (x.fst<m)=true->b<=x.fst/\x.fst<v/\p<a.length/\b<=s/\s<=(64:Int)/\n=k/\b<=x.fst/\x.fst<(↑k:Int)/\n=k/\p<k/\n=k/\b<=x.fst/\x.fst<(↑k:Int)/\n=k/\p<k/\g j/\b<=(32:Int)/\(32:Int)<=(64:Int)/\D/\b<=j/\j<(↑u.length:Int)/\D/\j.toNat<u.length/\g j/\(((f l a).same (f l a)/\(γg .u64 s).same (γg .u64 s)/\(h 0 n 1).same (h 0 r.length 1)/\w.same w/\B.same B/\True)/\C.same C/\True)/\((b<=j/\j<=m)/\bA r/\r.length=y/\bk r=bk (Δ j.toNat a)*t)/\(m - j).toNat<(m - x.fst).toNat)/\(decide (x.fst<m)=false->n=k/\(f l x.snd).same (f l (shl a s.toNat)))) (by kernel_rfl) ?_;simp only[vcs];refine⟨by omega,by omega,by omega,by omega,by omega,?_,?_⟩
 ·repeat' refine γj ?_ ?_
  all_goals first|omega|exact mj (by simp)|exact js.2 ⟨by omega,Bd⟩|(simp;done)|(simp only[bk,yv];omega)
 rintro⟨i,row⟩ ⟨⟨i0,i1⟩,hr,hl,hv⟩;simp only at i0 i1 hr hl hv ⊢;refine⟨λlZ=>?_,λnD=>?_⟩
 ·obtain⟨k1,k2⟩:=S1 ha hr hl (show i.toNat<a.length by omega) (show s.toNat<=31 by omega) hv;have e:(i+1).toNat=i.toNat+1:=by omega
  rw[e];repeat' refine γj ?_ ?_
  all_goals first|omega|exact mj (by simp)|(simp only[Φ];done)|(simp only[Φ];omega)|exact k1|exact k2
 ·have hi:i.toNat=a.length:=by omega
  rw[hi,ψ] at hv;have hrow:row=shl a s.toNat:=IL hr hl hv;rw[hrow]
theorem wA {U:List Int} {j:Nat} (h:j<=U.length):bk U=bk (U.take j)+4294967296^j*bk (U.drop j):=by
 conv=>lhs;rw[<-List.take_append_drop j U]
 grind[IQ]
theorem acZ {U l:List Int} {j:Nat} (h:j<=U.length):(ju U j l).take j=U.take j:=by
 grind[ju]
theorem ac0 {U l:List Int} {j:Nat} (h:j<=U.length):(ju U j l).drop j=l++U.drop (j+l.length):=by
 grind[ju]
theorem ac1 {U l:List Int} {j:Nat} (a:bA U) (b:bA l):bA (ju U j l):=Rh (nC a _) (Rh b (Ax a _))
theorem ac2 {U q v:List Int} {j m:Nat} {A:Int} (d:bA U) (w:bA v) (G:bA q) (H:2<=v.length) (u:U.length=m+1+v.length) (x:q.length=m+1) (J:j<=m) (p:0<bk v)
  (s:bj q j 0=0) (B:bk U+bk v*bk q=A) (D:bk (U.drop (j+1))<bk v):
  bk (prt U j (v.length+1))<4294967296*bk v/\
  (bA (ju U j (iy (v.length+1) (bk (prt U j (v.length+1)) % bk v)))/\(ju U j (iy (v.length+1) (bk (prt U j (v.length+1)) % bk v))).length=U.length)/\
  (0<=bk (prt U j (v.length+1)) / bk v/\bk (prt U j (v.length+1)) / bk v<4294967296)/\
  bk (ju U j (iy (v.length+1) (bk (prt U j (v.length+1)) % bk v)))+bk v*bk (q.set j (bk (prt U j (v.length+1)) / bk v))=A/\
  bk ((ju U j (iy (v.length+1) (bk (prt U j (v.length+1)) % bk v))).drop j)<bk v:=by
 have y:=oz w;have f:=Ax d (j+1);have l:=fi (uB d (j:=j) (k:=v.length+1));have b:bk (U.drop (j+(v.length+1)))=0:=by
  have e:bk (U.drop (j+1))=bk ((U.drop (j+1)).take v.length)+4294967296^v.length*bk ((U.drop (j+1)).drop v.length):=wA (by simp;omega);rw[δj,show j+1+v.length=j+(v.length+1) by omega] at e;have I:=fi (nC f v.length);have F:=fi (Ax d (j+(v.length+1)));by_cases h:bk (U.drop (j+(v.length+1)))=0;·exact h
  ·have:=Θ (show(1:Int)<=bk (U.drop (j+(v.length+1))) by omega) (γe (pow_pos v.length));omega
 have a:bk (U.drop j)=bk (prt U j (v.length+1)):=by
  have e:bk (U.drop j)=bk ((U.drop j).take (v.length+1))+4294967296^(v.length+1)*bk ((U.drop j).drop (v.length+1)):=wA (by simp;omega);rw[δj,b,δG,εj] at e;exact e
 have g:bk (U.drop j)=bj U j 0+4294967296*bk (U.drop (j+1)):=by
  rw[DV (show j<U.length by omega)];rfl
 have K:=eh d j;have r:bk (prt U j (v.length+1))<4294967296*bk v:=by omega
 have i:=@Aw (v.length+1) (bk (prt U j (v.length+1)) % bk v);have C:=δL (bk (prt U j (v.length+1))) (show bk v≠0 by omega);have E:=δp (bk (prt U j (v.length+1))) p;have t:bk (iy (v.length+1) (bk (prt U j (v.length+1)) % bk v))=bk (prt U j (v.length+1)) % bk v:=by
  grind[IP]
 have o:bk ((ju U j (iy (v.length+1) (bk (prt U j (v.length+1)) % bk v))).drop j)=bk (prt U j (v.length+1)) % bk v:=by
  grind[ac0,IQ]
 have c:(ju U j (iy (v.length+1) (bk (prt U j (v.length+1)) % bk v))).length=U.length:=Rk (by rw[i];omega);have n:0<=bk (prt U j (v.length+1)) / bk v:=δ0 l (by omega);refine⟨r,⟨ac1 d IK,c⟩,⟨n,εW p r⟩,?_,by omega⟩;rw[wA (U:=ju U j _) (j:=j) (by rw[c];omega),acZ (by omega),o,uz (by omega),s,ζj];rw[wA (U:=U) (j:=j) (by omega),a] at B;have z:=εh (bk (prt U j (v.length+1))) (bk v);grind
theorem S5 {a b:List Int} {s:Nat} (k:bA a) (w:bA b) (u:s<=31) (l:b.length<=a.length) (q:1<=b.length) (d:1<=bj b (b.length - 1) 0):
  bA (shl a s)/\(shl a s).length=a.length+1/\bk (shl a s)=bk a*2^s/\bk ((shl a s).drop (a.length - b.length+1))<bk b*2^s:=by
 have e:(0:Int)<2^s:=δM (by decide);have v:(2:Int)^s<=2147483648:=by
  have h:(2:Nat)^s<=2^31:=δr (by decide) u;grind
 have f:=fi k;have g:=oz k;have n:bk a*2^s<4294967296^a.length*2^s:=γ2 g e;have c:bk (shl a s)=bk a*2^s:=by
  unfold shl;refine IP (γu f (γe e)) (εJ n ?_);rw[γS];exact Θ (by omega) (γe (pow_pos _))
 have i:bA (shl a s):=IK;have t:(shl a s).length=a.length+1:=Aw;refine⟨i,t,c,?_⟩;have h:=wA (U:=shl a s) (j:=a.length - b.length+1) (by omega);have y:=fi (nC i (a.length - b.length+1));have x:4294967296^(b.length - 1)*bj b (b.length - 1) 0<=bk b:=JG w;have o:(4294967296:Int)^(b.length - 1)<=bk b:=by
  have:=Θ d (γe (pow_pos (b.length - 1)));omega
 have m:(4294967296:Int)^a.length=4294967296^(a.length - b.length+1)*4294967296^(b.length - 1):=by
  rw[<-δ6];congr 1;omega
 rw[c] at h;have p:(4294967296:Int)^(a.length - b.length+1)*bk ((shl a s).drop (a.length - b.length+1))<4294967296^(a.length - b.length+1)*(4294967296^(b.length - 1)*2^s):=by
  rw[<-δl,<-m];omega
 have r:=εu p (γe (pow_pos _));exact εJ r (γT o (γe e))
theorem ac3 {x y:Int} {s:Nat} (n:0<=x) (u:x<4294967296) (t:0<=y) (o:y<4294967296) (g:0<s) (q:s<=31):
  ∃r,gY.nZ .u32 (x / 2^s) (y*2^(32 - s) % 4294967296)=r/\(0<=r/\r<4294967296)/\2^s*r=x - x % 2^s+4294967296*(y % 2^s):=by
 have b:(0:Int)<2^s:=δM (by decide);have c:(0:Int)<2^(32 - s):=δM (by decide);have l:(4294967296:Int)=2^s*2^(32 - s):=by
  rw[<-δ6,show s+(32 - s)=32 by omega];decide
 have f:y*2^(32 - s) % 4294967296=(y % 2^s)*2^(32 - s):=by
  conv=>lhs;rw[l]
  rw[δ3 y,δ3 (2^s),ζC _ _ c,δ3]
 have d:=δL y (show(2:Int)^s≠0 by omega);have p:=δp y b;have e:0<=x / 2^s:=δ0 n (γe b);have m:x / 2^s<2^(32 - s):=εW b (by grind);have h:(y % 2^s)*2^(32 - s)+2^(32 - s)<=4294967296:=by
  have:=γT (show y % 2^s+1<=2^s by omega) (γe c);grind
 have j:0<=(y % 2^s)*2^(32 - s):=γu d (γe c);have a:=S0 (k:=32 - s) e m d (by omega) (by omega);refine⟨x / 2^s+(y % 2^s)*2^(32 - s),by rw[f,a],⟨by omega,by omega⟩,?_⟩;have i:=εh x (2^s);grind
theorem S7 {U r:List Int} {i s:Nat} {d:Int} (b:bA U) (c:bA r) (h:i<r.length) (g:∀j,i<=j->bj r j 0=0) (a:0<=d/\d<4294967296)
  (f:2^s*d=bj U i 0 - bj U i 0 % 2^s+4294967296*(bj U (i+1) 0 % 2^s))
  (e:2^s*bk r=bk (U.take i) - bj U 0 0 % 2^s+4294967296^i*(bj U i 0 % 2^s)):
  bA (r.set i d)/\(r.set i d).length=r.length/\(∀j,i+1<=j->bj (r.set i d) j 0=0)/\
  2^s*bk (r.set i d)=bk (U.take (i+1)) - bj U 0 0 % 2^s+4294967296^(i+1)*(bj U (i+1) 0 % 2^s):=by
 grind[nE,pV,uz,lY]
theorem ac4 {U r v q:List Int} {n s:Nat} {a b:Int} (f:bA U) (A:bA r) (y:bA v) (g:v.length=n) (u:bk U<bk v) (J:bk v=b*2^s) (C:0<b) (D:bk U+bk v*bk q=a*2^s)
  (G:s<=31) (x:n+1<=U.length)
  (c:2^s*bk r=bk (U.take n) - bj U 0 0 % 2^s+4294967296^n*(bj U n 0 % 2^s)):bk q=a / b/\bk r=a % b:=by
 have H:(0:Int)<2^s:=δM (by decide);have m:=oz y;rw[g] at m;have o:bj U n 0=0:=Az f (i:=n) (by omega) (ν _);have e:bk (U.take n)=bk U:=by
  have k:=wA (U:=U) (j:=n) (by omega);have p:=fi (nC f n);have w:=fi (Ax f n);by_cases h:bk (U.drop n)=0;·simp_all
  ·have:=Θ (show(1:Int)<=bk (U.drop n) by omega) (γe (pow_pos n));omega
 have d:bk U=2^s*(a - b*bk q):=by
  grind
 have l:bj U 0 0 % 2^s=0:=by
  have k:=@lY U 0;have p:=wA (U:=U) (j:=1) (by omega);have E:(4294967296:Int)=2^s*2^(32 - s):=by
   rw[<-δ6,show s+(32 - s)=32 by omega];decide
  simp only[Nat.zero_add,εs,bk,ζK,εB,Int.zero_add] at k;rw[k,γS,ζK,εB] at p;have w:bj U 0 0=2^s*(a - b*bk q - 2^(32 - s)*bk (U.drop 1)):=by
   grind
  simp_all
 rw[o,l,e,Int.zero_emod,δG,ζj,εj,d] at c;have t:bk r=a - b*bk q:=Int.eq_of_mul_eq_mul_left (by omega) c;have B:=fi A;have z:bk r<b:=by
  have:2^s*bk r<2^s*b:=by
   grind
  simp_all
 obtain⟨F,I⟩:=wb (X:=a) (V:=b) (q:=bk q) (by grind) (by grind);grind
theorem Eh:∀{w:List Int},bA w->fS w->w≠[]->4294967296^(w.length - 1)<=bk w
 |[],_,_,h=>absurd rfl h
 |[d],a,b,_=>by
  have f:=(js.1 a).1;have c:=b.1 rfl;grind[bk];|d::e::l,a,b,_=>by
  obtain⟨f,c⟩:=js.1 a;have g:=Eh c b.2 (by simp);have i:bk (d::e::l)=d+4294967296*bk (e::l):=rfl;simp only[γF,ζX] at g ⊢;omega
theorem Ei {a b:Nat} (h:a<=b):(4294967296:Int)^a<=4294967296^b:=by
 obtain⟨m,rfl⟩:=Nat.exists_eq_add_of_le h;rw[δ6];have c:=pow_pos a;have d:=pow_pos m;have:=Θ (show(1:Int)<=4294967296^m by omega) (γe c);omega
theorem JJ {t:List Int} {s:Nat} (e:bA t) (H:1<=t.length) (G:s<=31) (d:bj t (t.length - 1) 0*2^s<4294967296) (c:2147483648<=bj t (t.length - 1) 0*2^s):
  bA (bJ (shl t s))/\(bJ (shl t s)).length=t.length/\bk (bJ (shl t s))=bk t*2^s/\2147483648<=bj (bJ (shl t s)) (t.length - 1) 0/\1<=bj t (t.length - 1) 0:=by
 have o:(0:Int)<2^s:=δM (by decide);have q:=eh e (t.length - 1);have a:1<=bj t (t.length - 1) 0:=by
  grind
 obtain⟨y,N,z,_⟩:=S5 e e G (ν _) H a;obtain⟨f,E⟩:=@rK (shl t s);have i:=sV y;rw[z] at f;generalize bJ (shl t s)=w at*;obtain⟨n,A⟩:∃n,t.length=n+1:=⟨t.length - 1,by omega⟩;rw[A] at d c a q ⊢;simp only[ζX] at d c a q ⊢;have p:=pow_pos n;have v:bk t=bk (t.take n)+4294967296^n*bj t n 0:=by
  grind[lY]
 have B:=fi (nC e n);have k:=oz (nC e n);rw[γw,εi (by omega)] at k;have J:(4294967296:Int)=2^(32 - s)*2^s:=by
  rw[<-δ6,show 32 - s+s=32 by omega];decide
 have L:(0:Int)<2^(32 - s):=δM (by decide);have D:bj t n 0<2^(32 - s):=by
  simp_all
 have l:(bj t n 0+1)*2^s<=4294967296:=by
  have:=γT (show bj t n 0+1<=2^(32 - s) by omega) (γe o);omega
 have x:bk w<4294967296^(n+1):=by
  rw[f,γS];have F:bk t<4294967296^n*(bj t n 0+1):=by grind
  have M:=γ2 F o;have I:=Θ l (γe p);grind
 have u:4294967296^n*(bj t n 0*2^s)<=bk w:=by
  rw[f,<-δl];exact γT (by omega) (γe o)
 have r:(4294967296:Int)^n<=bk w:=by
  have:=Θ (show(1:Int)<=bj t n 0*2^s by omega) (γe p);omega
 have b:w.length=n+1:=by
  have K:n<w.length:=by
   by_cases h:n<w.length;·exact h
   ·have:=oz i;have:=Ei (show w.length<=n by omega);omega
  by_cases h:w.length=n+1;·exact h
  ·have j:w≠[]:=by grind
   have:=Eh i E j;have:=Ei (show n+1<=w.length - 1 by omega);omega
 refine⟨i,b,f,?_,a⟩;have C:bk w=bk (w.take n)+4294967296^n*bj w n 0:=by
  grind[lY]
 have m:=oz (nC i n);rw[γw,εi (by omega)] at m;have g:4294967296^n*(bj t n 0*2^s)<4294967296^n*(bj w n 0+1):=by grind
 have:=εu g (γe p);omega
@[reducible] def sF:bp:=.pair .b (.pair (.bD (.i .u32)) (.bD (.i .u32)))
abbrev bL:=Bool×(List Int×List Int)
def bu (q:Rat):bL:=(decide (q<0),(cO (q.num.natAbs:Int),cO (q.den:Int)))
def bW (x:bL):Rat:=mkRat (if x.1 then -bk x.2.1 else bk x.2.1) (bk x.2.2).toNat
def Sz (k:Nat) (q:Rat):Prop:=(q.num.natAbs:Int)<4294967296^k/\(q.den:Int)<4294967296^k
theorem mR {n:Int} {k:Nat} (e:0<=n) (h:n<4294967296^k):(cO n).length<=k:=by
 obtain⟨f,b,d⟩:=gn e;by_cases c:(cO n).length<=k;·exact c
 ·have a:cO n≠[]:=by grind
  have:=Eh b d a;have:=Ei (show k<=(cO n).length - 1 by omega);omega
theorem ez (q:Rat):bW (bu q)=q:=by
 unfold bW bu;have a:=(gn (show(0:Int)<=(q.num.natAbs:Int) by omega)).1;have b:=(gn (show(0:Int)<=(q.den:Int) by omega)).1;simp only[a,b,decide_eq_true_eq,γl];grind[Rat.num_nonneg,δW]
theorem S8 {N:Int} {D:Nat} (a:D≠0):(mkRat N D).num.natAbs=N.natAbs / N.natAbs.gcd D/\(mkRat N D).den=D / N.natAbs.gcd D:=by
 rw[<-ζF a,Rat.normalize_eq a];simp only;refine⟨?_,trivial⟩;have b:0<N.natAbs.gcd D:=Nat.gcd_pos_of_pos_right _ (by omega);have c:((N.natAbs.gcd D:Nat):Int)∣N:=Int.ofNat_dvd_left.2 (ζ6 _ _);generalize N.natAbs.gcd D=g at*;obtain⟨m,rfl⟩:=c;rw[ζt _ (by omega),εt,ζk,Nat.mul_div_cancel_left _ b]
theorem ac5 {N:Int} {D:Nat} (f:D≠0):mkRat N D<0↔N<0:=by
 have i:(0:Rat)=mkRat 0 D:=(Rat.zero_mkRat D).symm;have e:mkRat N D<0↔¬0<=mkRat N D:=Rat.not_le.symm;rw[e,<-Rat.num_nonneg];have g:=Rat.num_divInt_den (mkRat N D);have c:(mkRat N D).num*(D:Int)=N*((mkRat N D).den:Int):=by
  grind[Rat.mkRat_eq_iff,mkRat,δW]
 have d:(0:Int)<((mkRat N D).den:Int):=by have:=(mkRat N D).den_pos;omega
 have b:(0:Int)<(D:Int):=by omega
 constructor
 ·intro h;by_cases a:N<0;·exact a
  ·exfalso;apply h;have:0<=(mkRat N D).num*(D:Int):=by rw[c];exact γu (by omega) (by omega)
   exact Int.nonneg_of_mul_nonneg_left this b
 ·intro a h;have:0<=(mkRat N D).num*(D:Int):=γu h (by omega);rw[c] at this;have:=εv a d;omega
theorem S9 {s:Bool} {n d:Int} (n0:0<=n) (f:0<d):bu (mkRat (if s then -n else n) d.toNat)=(s&&decide (0<n),(cO (n / ey n d),cO (d / ey n d))):=by
 have e:d.toNat≠0:=by omega
 obtain⟨b,c⟩:=S8 (N:=if s then -n else n) e;have a:(if s then -n else n).natAbs=n.toNat:=by split<;>omega
 unfold bu;rw[b,c,a];have g:ey n d=((n.toNat.gcd d.toNat:Nat):Int):=rfl;refine εH ?_ (εH ?_ ?_)
 ·simp only;rw[θa];simp only[decide_eq_true_eq,Bool.and_eq_true];grind[ac5]
 all_goals grind
theorem Bf {N:Int} {D:Nat} {k:Nat} (b:D≠0) (f:(N.natAbs:Int)<4294967296^k) (e:(D:Int)<4294967296^k):Sz k (mkRat N D):=by
 obtain⟨c,a⟩:=S8 (N:=N) b;unfold Sz;rw[c,a];have g:=Nat.div_le_self N.natAbs (N.natAbs.gcd D);have d:=Nat.div_le_self D (N.natAbs.gcd D);omega
theorem Sz.mono {j k:Nat} {q:Rat} (h:Sz j q) (a:j<=k):Sz k q:=by
 have:=Ei a;exact⟨by have:=h.1;omega,by have:=h.2;omega⟩
theorem Ta (p q:Rat):p+q=mkRat (p.num*q.den+q.num*p.den) (p.den*q.den):=by
 rw[Rat.add_def,ζF]
theorem Bg {p q:Rat} {i j:Nat} (e:Sz i p) (c:Sz j q):Sz (i+j+1) (p+q):=by
 rw[Ta];have g:=p.den_pos;have l:=q.den_pos;have k:p.den*q.den≠0:=Nat.ne_of_gt (Nat.mul_pos g l);have m:∀{a b:Int} {i j:Nat},0<=a->0<=b->a<4294967296^i->b<4294967296^j->a*b<4294967296^(i+j):=by
  intro a b i j h o f d;rw[δ6];exact εL (Θ (γe d) h) (γ2 f (pow_pos _))
 have f:=m (by omega) (by omega) e.1 c.2;have d:=m (by omega) (by omega) c.1 e.2;have n:=m (by omega) (by omega) e.2 c.2;rw[Nat.add_comm j i] at d;have t:=pow_pos (i+j);refine Bf k ?_ ?_
 ·have r:(p.num*(q.den:Int)).natAbs=p.num.natAbs*q.den:=by rw[εt,ζk]
  have s:(q.num*(p.den:Int)).natAbs=q.num.natAbs*p.den:=by rw[εt,ζk]
  omega
 omega
theorem Bh {p:Rat} {i:Nat} (a:Sz i p):Sz i (-p):=by
 grind[Sz,Rat.neg_num,Rat.neg_den]
theorem Tc {l m:List Int} (h:l.Perm m):l.sum=m.sum:=by
 induction h<;>grind
theorem Td {g:Game}:∀{l c:List Int},ln g c=true->ln g (l.foldl (stepG g) c)=true
 |[],c,h=>h
 |x::l,c,h=>by
  show ln g (l.foldl (stepG g) (stepG g c x))=true;refine Td ?_;grind[stepG]
theorem ac6 {p:bn} (d:bz p=0):ln (cQ p) []=true:=by
 unfold ln;rw[List.all_eq_true];intro r b;have a:r<(cQ p).bounds.length:=List.mem_range.1 b;have c:bj (cQ p).bounds r 0=dm p r:=by
  show bj (ko p (nR p)) r 0=_;rw[cV (by exact a)];simp[ko]
 simp_all[A1,mf]
theorem ac7 {p:bn}:eL p.offers.length (j3 p):=by
 have h:=@acG p (gQ p).length;rw[ψ] at h;exact h
theorem Tf {p:bn} (a:bz p=0):di p (j3 p)=0:=(Jt a ac7).2 (Td (ac6 a))
theorem ac8 {g:Game} (i:uF g):∀{n:Nat} {c:List Int},eL g.offers.length c->ln g c=true->eL g.offers.length (mg g n c)/\ln g (mg g n c)=true/\dH g c<=dH g (mg g n c)/\((1000000000 - dH g c).toNat<=n->jf g (mg g n c)=none):=by
 intro n;induction n with
 |zero=>
  intro c a j;refine⟨a,j,Int.le_refl _,λh=>?_⟩;show jf g c=none;cases f:jf g c with
  |none=>rfl;|some t=>
   obtain⟨d,b⟩:=yn f a;have k:=rP i b;unfold nI at d;grind
 |succ n l=>
  intro c a j;cases f:jf g c with
  |none=>
   grind[mg];|some t=>
   have e:mg g (n+1) c=mg g n t:=by grind[mg]
   rw[e];obtain⟨d,b⟩:=yn f a;have k:=rP i b;unfold nI at d;grind
theorem JK {p:bn} (a:bz p=0) {c:List Int} (b:di p c=0):eL p.offers.length (gB p c).chosen/\di p (gB p c).chosen=0/\ef p (gB p c).chosen=(gB p c).value/\ef p c<=(gB p c).value/\gB p (gB p c).chosen=gB p c:=by
 obtain⟨_,d⟩:=uG b;have h:=R9 a;obtain⟨i,j,l,g⟩:=ac8 h (n:=(1000000000 - dH (cQ p) c).toNat) (c:=c) d ((Jt a d).1 b);have e:gB p c=⟨kM (cQ p) c,dH (cQ p) (kM (cQ p) c)⟩:=by simp_all[gB]
 have f:di p (kM (cQ p) c)=0:=(Jt a i).2 j;have k:kM (cQ p) (kM (cQ p) c)=kM (cQ p) c:=R7 (g (ν _));simp_all[acE,gB,kM,cQ]
def yx:bM:=⟨138,Int,.one (eZ .u64),λx=>0<=(show Int from x)/\(show Int from x)<18446744073709551616,λx=> .row (.i .u32) (cO x)⟩
theorem h128:Holds Tryz.prog yx:=by
 refine cH (L:=[rJ]) yx lk (by grind[h152]) ?_;intro(x:Int) h;obtain⟨b,a⟩:0<=x/\x<18446744073709551616:=h;refine bQ (let a:=(4294967296:Int);(0:Int)<=(32:Int)/\(32:Int)<=(64:Int)/\2<=1000000000000/\(Ω (bp.i .u32) (bJ [x % a,x / a % a])).same (Ω (bp.i .u32) (cO x))) (by kernel_rfl) ?_;simp only[vcs];grind[bA,qG,bk]
def QD:List bM:=[rJ,yd,Av,II,yx,JH]
theorem hQD:∀c∈QD,Holds Tryz.prog c:=by
 simp only[QD,List.forall_mem_cons,List.not_mem_nil,false_implies,implies_true,and_true];grind[h152,h132,h154,h167,h128,h168p]
def WD:List dG:=[JI,IX]
theorem hWD:∀c∈WD,ec Tryz.prog c:=by
 simp_all[WD,h168,h169]
def Ej:bM:=⟨182,List Int×List Int,.cons (dL (.i .u32)) (.one (dL (.i .u32))),λa=>(bA a.1/\bA a.2)/\(a.1.length<=10000000000/\a.2.length<=10000000000)/\0<bk a.2,
 λa=> .bI [.row (.i .u32) (cO (bk a.1 / bk a.2)),.row (.i .u32) (cO (bk a.1 % bk a.2)),.si .i64 0]⟩
def s8 (a:List Int×List Int) (s:Int):Prop:=(0<=s/\s<=31)/\bj (bJ a.2) ((bJ a.2).length - 1) 0*2^s.toNat<4294967296/\2147483648<=bj (bJ a.2) ((bJ a.2).length - 1) 0*2^s.toNat
def adb (a:List Int×List Int):Nat->cC
 |10=> .inv Int (λs=>⟨[(0,.row (.i .u32) (bJ a.1)),(1,.row (.i .u32) (bJ a.2)),(9,.si .u64 s)],[]⟩) (λs=>iS s 9)
  (λs=>(0<=s/\s<=31)/\bj (bJ a.2) ((bJ a.2).length - 1) 0*2^s.toNat<4294967296) (λs=>(32 - s).toNat) λ_ _=> .look
 |17=> .inv (Int×Int×List Int×List Int) (λx=>⟨[(4,.ow 1 x.2.2.2.length 1),(9,.si .u64 x.2.1),(10,.ow 0 x.2.2.1.length 1),(11,.row (.i .u32) (bJ (shl (bJ a.2) x.2.1.toNat))),(12,.si .i64 (bJ (shl (bJ a.2) x.2.1.toNat)).length),
   (13,.si .i64 ((bJ a.1).length - (bJ a.2).length)),(74,.si .i64 ((bJ a.1).length - (bJ a.2).length+1)),(75,.si .i64 x.1)],[.row (.i .u32) x.2.2.1 172 false,.row (.i .u32) x.2.2.2 172 true]⟩)
  (λs=>(iS s 75,iS s 9,oS (.i .u32) s 0,oS (.i .u32) s 1))
  (λx=>(0<=x.1/\x.1<=(bJ a.1).length - (bJ a.2).length+1)/\s8 a x.2.1/\(bA x.2.2.1/\x.2.2.1.length=(bJ a.1).length+1)/\(bA x.2.2.2/\x.2.2.2.length=(bJ a.1).length - (bJ a.2).length+1)/\
   (∀j:Nat,(j:Int)<(bJ a.1).length - (bJ a.2).length+1 - x.1->bj x.2.2.2 j 0=0)/\
   bk x.2.2.1+bk (bJ (shl (bJ a.2) x.2.1.toNat))*bk x.2.2.2=bk (bJ a.1)*2^x.2.1.toNat/\
   bk (x.2.2.1.drop (((bJ a.1).length - (bJ a.2).length+1 - x.1:Int).toNat))<bk (bJ (shl (bJ a.2) x.2.1.toNat)))
  (λx=>((bJ a.1).length - (bJ a.2).length+1 - x.1:Int).toNat) λ_ _=> .look
 |24=> .inv (Int×Int×List Int×List Int×List Int) (λx=>⟨[(4,.ow 1 x.2.2.2.1.length 1),(5,.ow 2 x.2.2.2.2.length 1),(9,.si .u64 x.2.1),(10,.ow 0 x.2.2.1.length 1),(100,.si .i64 (bJ (shl (bJ a.2) x.2.1.toNat)).length),(101,.si .i64 x.1)],
   [.row (.i .u32) x.2.2.1 172 false,.row (.i .u32) x.2.2.2.1 172 true,.row (.i .u32) x.2.2.2.2 172 true]⟩)
  (λs=>(iS s 101,iS s 9,oS (.i .u32) s 0,oS (.i .u32) s 1,oS (.i .u32) s 2))
  (λx=>(0<=x.1/\x.1<=(bJ (shl (bJ a.2) x.2.1.toNat)).length)/\s8 a x.2.1/\(bA x.2.2.1/\x.2.2.1.length=(bJ a.1).length+1)/\(bA x.2.2.2.1/\x.2.2.2.1.length=(bJ a.1).length - (bJ a.2).length+1)/\
   bk x.2.2.1+bk (bJ (shl (bJ a.2) x.2.1.toNat))*bk x.2.2.2.1=bk (bJ a.1)*2^x.2.1.toNat/\bk x.2.2.1<bk (bJ (shl (bJ a.2) x.2.1.toNat))/\
   (bA x.2.2.2.2/\x.2.2.2.2.length=(bJ (shl (bJ a.2) x.2.1.toNat)).length)/\(∀j,x.1.toNat<=j->bj x.2.2.2.2 j 0=0)/\
   2^x.2.1.toNat*bk x.2.2.2.2=bk (x.2.2.1.take x.1.toNat) - bj x.2.2.1 0 0 % 2^x.2.1.toNat+4294967296^x.1.toNat*(bj x.2.2.1 x.1.toNat 0 % 2^x.2.1.toNat))
  (λx=>((bJ (shl (bJ a.2) x.2.1.toNat)).length - x.1).toNat) λ_ _=> .look
 |_=> .look
theorem h166g:Holds Tryz.prog Ej:=by
 refine con (L:=QD) (W:=gP WD) Ej adb (lg hWD) hQD ?_;rintro⟨a,b⟩ ⟨⟨ha,hb⟩,⟨hla,hlb⟩,b0⟩;simp only at ha hb hla hlb b0;refine bQ (let c:=(0:Int);let d:=(4294967296:Int);let e:=(18446744073709551616:Int);let f:=Ω;let g:=γg .i64;let h:=cq .i64;let k:=bq.row;let l:=(1:Int);let m:=γZ;let n:=(32:Int);let o:=(140737488355328:Int);let p:=(1000000000000:Int);let q:=(2:Int);let r:=SV.bI;let s:=(31:Int);let z0:Nat:=(bJ b).length;let N:=(↑z0:Int);let av:=decide (N=c);let ag:=f (bp.i .i64) [];let t:=bp.i .u32;let ah:=g 0;let aa:=r [f t (cO (bk a / bk b)),f t (cO (bk a % bk b)),ah];let z7:Nat:=(bJ a).length;let z8:Nat:=(bJ b).length;let F:=bk (bJ a);let aw:=decide (lW F (bk (bJ b))<c);let a1:=γA .i64 0;let ax:=decide (N=l);let ab:=bj (bJ b) 0 c;let ai:=F % ab % e;let aj:=bj (bJ b) (z8 - 1) c;let a2:=N - l;let ak:=(↑(bJ a).length:Int) - N;let B:=ak+l;let O:=δ B.toNat c;let al:=(↑z7:Int) - (↑z8:Int);let am:=g al;let y:=al+l;let an:=g y;let ay:=k t O 172 true;let P:=z7+1;let Q:=z7 - z8+1;a.length<=1000000000000/\b.length<=1000000000000/\(av=true->(r [ag,ag,γA .i64 8]).same aa)/\(av=false->((bA (bJ a)/\bA (bJ b))/\z7<=1000000000000/\z8<=1000000000000)/\(aw=true->((bA (bJ a)/\bA [])/\z7<=100000000000/\0<=100000000000)/\(r [ag,f t (cO (F+bk [])),a1]).same aa)/\(aw=false->(ax=true->c<=c/\c<N/\0<z0/\(bA (bJ a)/\z7<=100000000000/\c<ab/\ab<d)/\(c<=ai/\ai<e)/\(r [f t (cO (F / ab)),f t (cO ai),a1]).same aa)/\(ax=false->((((f t (bJ a)).same (f t (bJ a))/\(f t (bJ b)).same (f t (bJ b))/\(γA .u64 0).same (γg .u64 0)/\True)/\True)/\(c<=c/\c<=s)/\aj*l<d)/\∀(x:Int),let ao:=q^x.toNat;let a3:=(x+l) % e;let az:=γg .u64 a3;let aA:=shl (bJ b) x.toNat;let R:=shl (bJ a) x.toNat;let aB:=m 0 R.length 1;let S:=bJ aA;let aC:=k t R 172 false;let aD:=λ(u:Bool) ↦decide (bj (bJ b) a2.toNat c*ao % d<(2147483648:Int))=u;(c<=x/\x<=s)/\aj*ao<d->h a2/\c<=a2/\a2<N/\a2.toNat<z0/\c<=x/\x<=n/\(aD true->(((f t (bJ a)).same (f t (bJ a))/\(f t (bJ b)).same (f t (bJ b))/\az.same az/\True)/\True)/\((c<=a3/\a3<=s)/\aj*q^a3.toNat<d)/\(n - a3).toNat<(n - x).toNat)/\(aD false->Be (bJ a,x)/\Be (bJ b,x)/\aA.length<=1000000000000/\h ak/\h B/\c<=B/\B<=B/\B*(4:Int)<=o/\B<=p/\h B/\((((m 1 B.toNat 1).same (m 1 O.length 1)/\(γg .u64 x).same (γg .u64 x)/\aB.same aB/\(f t S).same (f t S)/\(g (↑S.length:Int)).same (g (↑S.length:Int))/\(g ak).same am/\(g B).same an/\a1.same ah/\True)/\aC.same aC/\ay.same ay/\True)/\(c<=c/\c<=y)/\s8 (a,b) x/\(bA R/\R.length=P)/\(bA O/\O.length=Q)/\(∀(j:Nat),(↑j:Int)<y - c->bj O j c=c)/\bk R+bk S*bk O=F*ao/\bk (γ7 (y - c).toNat R)<bk S)/\∀(x:Int×Int×List Int×List Int),let C:=x.snd.snd.fst;let T:=bJ (shl (bJ b) x.snd.fst.toNat);let U:=bk T;let w:=x.snd.snd.snd;let ac:=q^x.snd.fst.toNat;let V:=C.length;let aE:=decide (x.fst<y);let G:=al - x.fst;let z:=(↑T.length:Int);let a4:=G+z+l;let a5:=G.toNat;let a6:=a4.toNat;let H:=nG.mk C a5 (a6 - a5) V T;let K:=x.fst+l;let ap:=m 1 w.length 1;let W:=w.set a5 (H.x / U);let ad:=γg .u64 x.snd.fst;let aq:=m 0 V 1;let ae:=g z;let aF:=g K;let aG:=k t H.row 172 false;let aH:=k t W 172 true;let X:=δ z.toNat c;let aI:=k t C 172 false;let aJ:=k t w 172 true;let aK:=k t X 172 true;let aL:=bj C 0 c % ac;let aM:=bk C+U*bk w=F*ac;(c<=x.fst/\x.fst<=y)/\s8 (a,b) x.snd.fst/\(bA C/\V=P)/\(bA w/\w.length=Q)/\(∀(j:Nat),(↑j:Int)<y - x.fst->bj w j c=c)/\aM/\bk (γ7 (y - x.fst).toNat C)<U->(aE=true->h G/\h (G+z)/\h a4/\h (G+z)/\h a4/\V=C.length/\c<=G/\c<=a4/\c<=a4/\a5<=a6/\a6<=a6/\a6<=V/\H.ok/\w.length=w.length/\c<=G/\G<(↑w.length:Int)/\w.length=w.length/\a5<w.length/\h K/\((ap.same (m 1 W.length 1)/\ad.same ad/\aq.same (m 0 H.row.length 1)/\(f t T).same (f t T)/\ae.same ae/\am.same am/\an.same an/\aF.same aF/\True)/\aG.same aG/\aH.same aH/\True)/\((c<=K/\K<=y)/\s8 (a,b) x.snd.fst/\(bA H.row/\H.row.length=P)/\(bA W/\W.length=Q)/\(∀(j:Nat),(↑j:Int)<y - K->bj W j c=c)/\bk H.row+U*bk W=F*ac/\bk (γ7 (y - K).toNat H.row)<U)/\(y - K).toNat<(y - x.fst).toNat)/\(aE=false->c<=z/\z<=z/\z*(4:Int)<=o/\z<=p/\(((ap.same ap/\(m 2 z.toNat 1).same (m 2 X.length 1)/\ad.same ad/\aq.same aq/\ae.same ae/\a1.same ah/\True)/\aI.same aI/\aJ.same aJ/\aK.same aK/\True)/\(c<=c/\c<=z)/\s8 (a,b) x.snd.fst/\(bA C/\V=P)/\(bA w/\w.length=Q)/\aM/\bk C<U/\(bA X/\X.length=T.length)/\(∀(j:Nat),0<=j->bj X j c=c)/\ac*bk X=bk [] - aL+l*aL)/\∀(x:Int×Int×List Int×List Int×List Int),let aN:=γg .u64 x.snd.fst;let v:=x.snd.snd.fst;let aO:=m 0 v.length 1;let Y:=bJ (shl (bJ b) x.snd.fst.toNat);let Z:=(↑Y.length:Int);let aP:=g Z;let E:=x.fst+l;let aQ:=g E;let A:=x.snd.snd.snd.snd;let L:=A.length;let D:=x.fst.toNat;let ar:=bj v D c;let I:=q^x.snd.fst.toNat;let a7:=A.set D (ar / I);let M:=x.snd.snd.snd.fst;let a8:=M.length;let aR:=m 1 a8 1;let aS:=k t v 172 false;let aT:=k t M 172 true;let a9:=E.toNat;let aU:=bj v 0 c % I;let aV:=bj v a9 c;let aW:=decide (x.fst<Z);let J:=v.length;let aX:=decide (c<x.snd.fst);let au:=(n - x.snd.fst) % e;let b3:=aN.same aN/\aO.same aO/\aP.same aP/\aQ.same aQ/\True;let af:=L=a7.length;let aY:=x.fst<(↑a7.length:Int);let aZ:=D<a7.length;let b0:=bk v+bk Y*bk M=F*I;let b4:=(Z - E).toNat<(Z - x.fst).toNat;let b5:=aR.same aR;let b6:=c<=E/\E<=Z;let b1:=λ(u:List Int) (u_1:Int) ↦let a0:=u.set D u_1;let b2:=k t a0 172 true;h E/\((b5/\(m 2 L 1).same (m 2 a0.length 1)/\b3)/\aS.same aS/\aT.same aT/\b2.same b2/\True)/\(b6/\s8 (a,b) x.snd.fst/\(bA v/\v.length=P)/\(bA M/\a8=Q)/\b0/\bk v<bk Y/\(bA a0/\a0.length=Y.length)/\(∀(j:Nat),a9<=j->bj a0 j c=c)/\I*bk a0=bk (Δ a9 v) - aU+d^a9*(aV % I))/\b4;(c<=x.fst/\x.fst<=Z)/\s8 (a,b) x.snd.fst/\(bA v/\v.length=P)/\(bA M/\a8=Q)/\b0/\bk v<bk Y/\(bA A/\L=Y.length)/\(∀(j:Nat),D<=j->bj A j c=c)/\I*bk A=bk (Δ D v) - aU+d^D*(ar % I)->(aW=true->v.length=J/\c<=x.fst/\x.fst<(↑J:Int)/\v.length=J/\D<J/\c<=x.snd.fst/\x.snd.fst<=n/\L=A.length/\c<=x.fst/\x.fst<(↑A.length:Int)/\L=A.length/\D<A.length/\(aX=true->af/\c<=x.fst/\aY/\af/\aZ/\h E/\v.length=J/\c<=E/\E<(↑J:Int)/\v.length=J/\a9<J/\c<=au/\au<=n/\af/\c<=x.fst/\aY/\af/\aZ/\b1 a7 (gY.nZ .u32 (bj a7 D c) (aV*q^au.toNat % d)))/\(aX=false->b1 A (ar / I)))/\(aW=false->a8=M.length/\L=A.length/\a8<=1000000000000/\L<=1000000000000/\(r [f t (bJ M),f t (bJ A),a1]).same aa))))))) (by kernel_rfl) ?_;simp only[vcs];obtain⟨va,na⟩:=@rK a;obtain⟨vb,nb⟩:=@rK b;have da:=sV ha;have db:=sV hb;have la:=@uy a;have lb:=@uy b;have p0:=fi da;have d0:bA []:=by simp[bA]
 simp only[s8];rw[<-va,<-vb];rw[<-vb] at b0;generalize bJ a=S at*;generalize bJ b=T at*;have hm:=δL (bk S) (show bk T≠0 by omega);have hl:=δp (bk S) b0;have hT1:T.length≠0:=by
  intro h;rw[τ h] at b0;exact absurd b0 (by decide)
 refine⟨by omega,by omega,λh0=>by omega,λh0=>⟨⟨⟨da,db⟩,by omega,by omega⟩,λhlt=>⟨⟨⟨da,d0⟩,by omega,by omega⟩,?_⟩,λhge=>⟨λh1=>?_,λh1=>⟨?_,?_⟩⟩⟩⟩
 ·have hab:bk S<bk T:=by unfold lW at hlt;split at hlt<;>(try split at hlt)<;>omega
  have hdv:bk S / bk T=0:=Int.ediv_eq_zero_of_lt p0 hab;have hmv:bk S % bk T=bk S:=δJ p0 hab;refine⟨SX (by rw[hdv];rfl),?_⟩;rw[hmv];simp[bk]
 ·obtain⟨d,rfl⟩:∃d,T=[d]:=List.length_eq_one_iff.1 (by omega);have hd:=(js.1 db).1;have ade:bj [d] 0 0=d:=rfl;have hv:bk [d]=d:=by simp[bk]
  rw[hv] at b0 hm hl ⊢;rw[ade];have hmm:bk S % d % 18446744073709551616=bk S % d:=by omega
  rw[hmm];repeat' refine γj ?_ ?_
  all_goals first|omega|exact da|rfl|(simp;done)
 ·have:=eh db (T.length - 1);repeat' refine γj ?_ ?_
  all_goals omega
 have DD:bk T<=bk S:=by unfold lW at hge;split at hge<;>(try split at hge)<;>omega
 have hlen:T.length<=S.length:=by
  by_cases h:S.length<T.length
  ·have:=yc da db nb h;omega
  ·omega
 have hTn:2<=T.length:=by omega
 clear hge h0 h1 hT1 va vb d0;rintro s ⟨⟨s0,s1⟩,hs⟩;have t1:((T.length:Int) - 1).toNat=T.length - 1:=by omega
 have hxt:=eh db (T.length - 1);have hps:(0:Int)<2^s.toNat:=δM (by decide);have hnn:0<=bj T (T.length - 1) 0*2^s.toNat:=γu hxt.1 (γe hps);have hmod:bj T (T.length - 1) 0*2^s.toNat % 4294967296=bj T (T.length - 1) 0*2^s.toNat:=by omega
 rw[t1,hmod];repeat refine γj (by omega) ?_
 refine⟨λhc=>?_,λhc=>?_⟩
 ·have htop:1<=bj T (T.length - 1) 0:=by
   by_cases h:1<=bj T (T.length - 1) 0;·exact h
   ·exfalso;have h4:=Eh db nb (by rintro rfl;simp at hTn);have h5:bk T=bk (T.take (T.length - 1))+4294967296^(T.length - 1)*bj T (T.length - 1) 0:=by
     have:=@lY T (T.length - 1);rwa [show T.length - 1+1=T.length by omega,ψ] at this
    have h6:=oz (nC db (T.length - 1));rw[γw,εi (by omega)] at h6;rw[show bj T (T.length - 1) 0=0 by omega,δG] at h5;omega
  have h31:s<=30:=by
   by_cases h:s<=30;·exact h
   ·have adg:s.toNat=31:=by omega
    rw[adg,show(2:Int)^31=2147483648 from rfl] at hc;omega
  have e:((s+1) % 18446744073709551616)=s+1:=by omega
  have e2:(s+1).toNat=s.toNat+1:=by omega
  rw[e,e2,γS,<-δl];repeat' refine γj ?_ ?_
  all_goals omega
 ·obtain⟨dw,lw,vw,tw,yz⟩:=JJ db (by omega) (show s.toNat<=31 by omega) hs (by omega);obtain⟨ds,ls,vs,hst⟩:=S5 da db (show s.toNat<=31 by omega) hlen (by omega) yz;have hds:∀z,Be (z,s)↔(bA z/\z.length<=100000000000):=λz=>⟨λh=>⟨h.1,h.2.1⟩,λh=>⟨h.1,h.2,s0,s1⟩⟩;have bD:(shl T s.toNat).length=T.length+1:=Aw;have bits:(0<=s/\s<=31)/\bj T (T.length - 1) 0*2^s.toNat<4294967296/\2147483648<=bj T (T.length - 1) 0*2^s.toNat:=⟨⟨s0,s1⟩,hs,by omega⟩;rw[hds,hds,bD,ls];refine⟨⟨da,by omega⟩,⟨db,by omega⟩,?_⟩;repeat refine γj (by omega) ?_
  refine⟨?_,?_⟩
  ·repeat' refine γj ?_ ?_
   all_goals first|omega|exact mj (by simp)|exact mj (by omega)|exact ds|exact Bd|exact λj _=>SZ|(simp;omega)|(rw[yv,δG,εj];exact vs)|(rw[vw,show((S.length:Int) - T.length+1 - 0).toNat=S.length - T.length+1 by omega];exact hst)
  clear hst vs ls ds bits hds hmod hnn hps hxt yz tw vw lw dw bD t1 hc hs s0 s1;clear s;rintro⟨i,s,U,q⟩ ⟨⟨i0,i1⟩,⟨⟨s0,s1⟩,hs,hs2⟩,⟨hU,Ek⟩,⟨hq,Bi⟩,hz,he,hlt⟩;simp only at i0 i1 s0 s1 hs hs2 hU Ek hq Bi hz he hlt ⊢;obtain⟨dw,lw,vw,tw,yz⟩:=JJ db (by omega) (show s.toNat<=31 by omega) hs (by omega);generalize hw:bJ (shl T s.toNat)=w at*;have hw0:0<bk w:=by
   rw[vw];exact εD b0 (δM (by decide))
  refine⟨λlZ=>?_,λnD=>?_⟩
  ·obtain⟨j,hj⟩:∃j:Nat,(S.length:Int) - T.length - i=j:=⟨((S.length:Int) - T.length - i).toNat,by omega⟩;have e1:((j:Int)+w.length+1).toNat - j=w.length+1:=by omega
   have e2:((S.length:Int) - T.length+1 - i).toNat=j+1:=by omega
   rw[e2] at hlt;obtain⟨k1,⟨k2,k3⟩,⟨k4,k5⟩,k6,k7⟩:=ac2 (j:=j) (m:=S.length - T.length) hU dw hq (by omega) (by omega) (by omega) (by omega) hw0 (hz j (by omega)) he hlt;have e3:((S.length:Int) - T.length+1 - (i+1)).toNat=j:=by omega
   simp only[hj,e1,e3,γl,nG.row,nG.x,nG.ok];repeat' refine γj ?_ ?_
   all_goals first|omega|exact mj (by simp)|exact mj k3.symm|exact trivial|exact hU|exact dw|exact k1|exact k2|exact k6|exact k7|exact nE hq k4 k5|(simp;omega)|(rw[lw];exact tw)|exact λp hp=>by rw[pV (by omega)];exact hz p (by omega)
  ·have e2:((S.length:Int) - T.length+1 - i).toNat=0:=by omega
   rw[e2,List.drop_zero] at hlt;repeat refine γj (by omega) ?_
   refine⟨?_,?_⟩
   ·have h1:=@lY U 0;simp only[εs,bk,ζK,εB];repeat' refine γj ?_ ?_
    all_goals first|omega|exact mj (by simp)|exact hU|exact hq|exact he|exact hlt|exact Bd|exact λj _=>SZ|(simp;done)|(rw[yv];omega)
   clear hlt hz e2 nD i0 i1 tw yz hw0 hs hs2 s0 s1 he hU Ek hq Bi;clear hw dw lw vw;clear w s i U q;rintro⟨i,s,U,q,r⟩ ⟨⟨i0,i1⟩,⟨⟨s0,s1⟩,hs,hs2⟩,⟨hU,Ek⟩,⟨hq,Bi⟩,he,hlt,⟨hr,hrl⟩,hz,hv⟩;simp only at i0 i1 s0 s1 hs hs2 hU Ek hq Bi he hlt hr hrl hz hv ⊢;obtain⟨dw,lw,vw,tw,yz⟩:=JJ db (by omega) (show s.toNat<=31 by omega) hs (by omega);generalize hw:bJ (shl T s.toNat)=w at*;refine⟨λlZ=>?_,λnD=>?_⟩
   ·have x0:=eh hU i.toNat;have x1:=eh hU (i.toNat+1);have e1:(i+1).toNat=i.toNat+1:=by omega
    have x2:=eh hr i.toNat;have hps:(0:Int)<2^s.toNat:=δM (by decide);have y0:0<=bj U i.toNat 0 / 2^s.toNat:=δ0 x0.1 (γe hps);have y1:bj U i.toNat 0 / 2^s.toNat<=bj U i.toNat 0:=Int.ediv_le_self _ x0.1;have e2:((32 - s) % 18446744073709551616).toNat=32 - s.toNat:=by omega
    have e3:(r.set i.toNat (bj U i.toNat 0 / 2^s.toNat)).set i.toNat=r.set i.toNat:=by funext z;rw[List.set_set]
    simp only[e1,e2,e3,sX (show i.toNat<r.length by omega),Φ];repeat refine γj (by omega) ?_
    refine⟨λhs0=>?_,λhs0=>?_⟩
    ·obtain⟨d,hd1,hd2,hd3⟩:=ac3 (s:=s.toNat) x0.1 x0.2 x1.1 x1.2 (by omega) (by omega);obtain⟨k1,k2,k3,k4⟩:=S7 hU hr (show i.toNat<r.length by omega) hz hd2 hd3 hv;rw[hd1];repeat' refine γj ?_ ?_
     all_goals first|omega|exact mj (by simp)|exact hU|exact hq|exact k1|exact k3|exact k4|exact he|exact hlt|trivial
    ·have adh:s.toNat=0:=by omega
     obtain⟨k1,k2,k3,k4⟩:=S7 (s:=s.toNat) (d:=bj U i.toNat 0 / 2^s.toNat) hU hr (show i.toNat<r.length by omega) hz ⟨y0,by omega⟩ (by rw[adh];simp) hv;repeat' refine γj ?_ ?_
     all_goals first|omega|exact mj (by simp)|exact hU|exact hq|exact k1|exact k3|exact k4|exact he|exact hlt|trivial
   ·have hi:i.toNat=w.length:=by omega
    rw[hi] at hv;obtain⟨w1,w2⟩:=ac4 hU hr dw rfl hlt vw b0 he (show s.toNat<=31 by omega) (by omega) hv;rw[qG hq,qG hr,w1,w2];repeat' refine γj ?_ ?_
    all_goals first|omega|rfl|trivial
theorem JL {a b:List Int} (d:bA a) (c:bA b) (f:fS a) (h:bk a<=bk b):a.length<=b.length:=by
 by_cases e:a.length<=b.length;·exact e
 ·have:=yc c d f (by omega);omega
def Em:bM:=⟨171,List Int×List Int,.cons (dL (.i .u32)) (.one (dL (.i .u32))),λa=>(bA a.1/\bA a.2)/\(a.1.length<=1000000000/\a.2.length<=1000000000),
 λa=> .row (.i .u32) (cO (ey (bk a.1) (bk a.2)))⟩
def adi (a:List Int×List Int):Nat->cC
 |2=> .inv (List Int×List Int) (λx=>⟨[(0,.row (.i .u32) x.1),(1,.row (.i .u32) x.2)],[]⟩) (λs=>(rS (.i .u32) s 0,rS (.i .u32) s 1))
  (λx=>(bA x.1/\bA x.2)/\(fS x.1/\fS x.2)/\(x.1.length<=1000000000/\x.2.length<=1000000000)/\ey (bk x.1) (bk x.2)=ey (bk a.1) (bk a.2)) (λx=>(bk x.2).toNat) λ_ _=> .look
 |_=> .look
theorem h165g:Holds Tryz.prog Em:=by
 refine cH (L:=[Av,Ej]) Em adi (by grind[h154,h166g]) ?_;rintro⟨a,b⟩ ⟨⟨l,k⟩,⟨n,m⟩⟩;simp only at l k n m;refine bQ (let h:=Ω;let c:=bp.i .u32;let f:=cO (bk a+bk []);let e:=cO (bk b+bk []);let g:=ey (bk a) (bk b);((bA a/\bA [])/\a.length<=100000000000/\0<=100000000000)/\((bA b/\bA [])/\b.length<=100000000000/\0<=100000000000)/\((((h c f).same (h c f)/\(h c e).same (h c e)/\True)/\True)/\(bA f/\bA e)/\(fS f/\fS e)/\(f.length<=1000000000/\e.length<=1000000000)/\ey (bk f) (bk e)=g)/\∀(x:List Int×List Int),let v:=decide ((0:Int)<(↑x.snd.length:Int));let d:=cO (bk x.fst % bk x.snd);(bA x.fst/\bA x.snd)/\(fS x.fst/\fS x.snd)/\(x.fst.length<=1000000000/\x.snd.length<=1000000000)/\ey (bk x.fst) (bk x.snd)=g->(v=true->((bA x.fst/\bA x.snd)/\(x.fst.length<=10000000000/\x.snd.length<=10000000000)/\(0:Int)<bk x.snd)/\(false=true->(h c x.fst).same (h c (cO g)))/\(false=false->(((h c x.snd).same (h c x.snd)/\(h c d).same (h c d)/\True)/\True)/\((bA x.snd/\bA d)/\(fS x.snd/\fS d)/\(x.snd.length<=1000000000/\d.length<=1000000000)/\ey (bk x.snd) (bk d)=g)/\(bk d).toNat<(bk x.snd).toNat))/\(v=false->(h c x.fst).same (h c (cO g)))) (by kernel_rfl) ?_;simp only[vcs];have r:bA []:=by simp[bA]
 have N:=fi l;have E:=fi k;have z:bk []=0:=rfl;rw[z,εj,εj];obtain⟨Q,y,D⟩:=gn N;obtain⟨o,w,H⟩:=gn E;have p:(cO (bk a)).length<=1000000000:=by
  rw[<-qG l];grind[uy]
 have j:(cO (bk b)).length<=1000000000:=by
  rw[<-qG k];grind[uy]
 refine⟨⟨⟨l,r⟩,by omega,by omega⟩,⟨⟨k,r⟩,by omega,by omega⟩,⟨⟨y,w⟩,⟨D,H⟩,⟨p,j⟩,by rw[Q,o]⟩,?_⟩;rintro⟨s,t⟩ ⟨⟨u,q⟩,⟨J,C⟩,⟨O,G⟩,F⟩;simp only at u q J C G O F ⊢;have T:=fi u;have U:=fi q;refine⟨λB=>?_,λB=>?_⟩
 ·have h:0<bk t:=by
   grind[val_zero]
  have K:=δL (bk s) (show bk t≠0 by omega);have A:=δp (bk s) h;obtain⟨I,M,S⟩:=gn K;have P:=JL M q S (by rw[I];omega);grind[acT]
 ·have R:t=[]:=τ (by omega);grind[acU,Au]
def qa (q:Rat):SV:=.agg (encS sF (bu q))
def cE (x:bL):Prop:=∃q k,x=bu q/\Sz k q/\k<=100000000
def fY (s:Bool) (n d:Int):Rat:=mkRat (if s then -n else n) d.toNat
def En:bM:=⟨137,Int,.one (eZ .i64),λn=> -9223372036854775808<=(show Int from n)/\(show Int from n)<=9223372036854775807,λn=> .row (.i .u32) (cO ((show Int from n).natAbs:Int))⟩
theorem h127:Holds Tryz.prog En:=by
 refine cH (L:=[yx]) En lk (by grind[h128]) ?_;intro(n:Int) h;obtain⟨e,f⟩: -9223372036854775808<=n/\n<=9223372036854775807:=h;refine bQ (let e:=(18446744073709551616:Int);let f:=(1:Int);let g:=(0:Int);let h:=Ω;let d:=decide (n<g);let a:=(-(n+f)+f) % e;let b:=bp.i .u32;let c:=h b (cO (↑n.natAbs:Int));(d=true->cq .i64 (n+f)/\cq .i64 (-(n+f))/\cq .u64 (-(n+f))/\(g<=a/\a<e)/\(h b (cO a)).same c)/\(d=false->cq .u64 n/\(g<=n/\n<e)/\(h b (cO n)).same c)) (by kernel_rfl) ?_;simp only[vcs];grind[u64_in]
def Bj:bM:=⟨167,Bool×(List Int×List Int),.cons P0 (.cons (dL (.i .u32)) (.one (dL (.i .u32)))),λa=>(bA a.2.1/\bA a.2.2)/\(a.2.1.length<=1000000000/\a.2.2.length<=1000000000)/\0<bk a.2.2,
 λa=> .bI [qa (fY a.1 (bk a.2.1) (bk a.2.2)),.si .i64 0]⟩
theorem h151:Holds Tryz.prog Bj:=by
 refine cH (L:=[Em,Ej]) Bj lk (by grind[h165g,h166g]) ?_;rintro⟨s,n,d⟩ ⟨⟨c,f⟩,⟨t,p⟩,j⟩;simp only at c f t p j;refine bQ (let b:=SV.bl false;let c:=γA .i64;let e:=Ω;let f:=(0:Int);let g:=γQ;let h:=SV.bI;let k:=e (bp.i .i64) [];let w:=bu (fY s (bk n) (bk d));let l:=bp.i .u32;let y:=h [g [γx w.fst,e l w.snd.fst,e l w.snd.snd],γg .i64 0];let a:=cO (ey (bk n) (bk d));let C:=cO (bk n / bk a);let B:=decide ((↑d.length:Int)=f);let F:=false=true->(h [g [b,k,k],c 8]).same y;let E:=λ(u:Bool) (v:SV) ↦s=u->(h [g [v,e l C,e l (cO (bk d / bk a))],c 0]).same y;(B=true->(h [g [b,k,k],c 8]).same y)/\(B=false->((bA n/\bA d)/\n.length<=1000000000/\d.length<=1000000000)/\((bA n/\bA a)/\(n.length<=10000000000/\a.length<=10000000000)/\f<bk a)/\((bA d/\bA a)/\(d.length<=10000000000/\a.length<=10000000000)/\f<bk a)/\F/\(false=false->F/\(false=false->E true (γx (decide (f<(↑C.length:Int))))/\E false (b))))) (by kernel_rfl) ?_;simp only[vcs];have D:=fi c;have b:0<ey (bk n) (bk d):=by
  simp_all[ey]
 have K:ey (bk n) (bk d)<=bk d:=by
  unfold ey;have:=Nat.gcd_le_right (bk n).toNat (show 0<(bk d).toNat by omega);omega
 have o:ey (bk n) (bk d)∣bk n:=by
  unfold ey;have:=ζ6 (bk n).toNat (bk d).toNat;have S:=Int.natCast_dvd_natCast.2 this;grind
 obtain⟨R,q,Q⟩:=gn (γe b);have I:=JL q (sV f) Q (by grind[rK]);have P:=@uy d;have A:0<=bk n / ey (bk n) (bk d):=δ0 D (γe b);obtain⟨N,H,M⟩:=gn A;have G:(0<((cO (bk n / ey (bk n) (bk d))).length:Int))↔0<bk n:=by
  obtain⟨m,e⟩:=o;have r:bk n / ey (bk n) (bk d)=m:=by
   conv=>lhs;arg 1;rw[e]
   rw[ζt _ (by omega)]
  rw[r] at N H M ⊢;have z:0<bk n↔0<m:=by
   generalize ey (bk n) (bk d)=g at*;rw[e];constructor;·grind
   ·intro h;exact εD b h
  rw[z];constructor
  ·intro h;by_cases e:m=0;·rw[e] at h;exact absurd h (by decide)
   ·omega
  ·intro h;by_cases T:(cO m).length=0<;>grind[cO,bk]
 have O:d.length≠0:=by
  intro h;rw[τ h] at j;exact absurd j (by decide)
 unfold fY;rw[S9 D j,R];simp only;refine⟨λh=>absurd h (by omega),λ_=>⟨⟨⟨c,f⟩,by omega,by omega⟩,⟨⟨c,q⟩,by omega,b⟩,⟨⟨f,q⟩,by omega,b⟩,?_⟩⟩;have J:decide (0<((cO (bk n / ey (bk n) (bk d))).length:Int))=decide (0<bk n):=by
  simp_all
 refine⟨λh=>absurd h (by decide),λ_=>⟨λh=>absurd h (by decide),λ_=>⟨λx=>?_,λx=>?_⟩⟩⟩
 ·rw[x,J];rfl
 ·rw[x];rfl
def yA:bM:=⟨136,Bool×(List Int×List Int),.cons P0 (.cons (dL (.i .u32)) (.one (dL (.i .u32)))),λa=>(bA a.2.1/\bA a.2.2)/\(a.2.1.length<=1000000000/\a.2.2.length<=1000000000)/\0<bk a.2.2,
 λa=>qa (fY a.1 (bk a.2.1) (bk a.2.2))⟩
theorem h126:Holds Tryz.prog yA:=by
 refine cH (L:=[Bj]) yA lk (by grind[h151]) ?_;rintro⟨s,n,d⟩ ⟨⟨h,g⟩,⟨a,c⟩,f⟩;simp only at h g a c f;refine bQ (let b:=bu (fY s (bk n) (bk d));let e:=γQ [γx b.fst,Ω (bp.i .u32) b.snd.fst,Ω (bp.i .u32) b.snd.snd];((bA n/\bA d)/\(n.length<=1000000000/\d.length<=1000000000)/\(0:Int)<bk d)/\e.same e) (by kernel_rfl) ?_;simp_all[vcs]
def oH:bM:=⟨101,Int,.one (eZ .i64),λn=> -9223372036854775808<=(show Int from n)/\(show Int from n)<=9223372036854775807,λn=>qa ((show Int from n):Rat)⟩
theorem h94:Holds Tryz.prog oH:=by
 refine cH (L:=[En,yx,yA]) oH lk (by grind[h127,h128,h126]) ?_;intro(n:Int) h;obtain⟨o,p⟩: -9223372036854775808<=n/\n<=9223372036854775807:=h;refine bQ (let e:=Ω;let g:=(1:Int);let h:=(0:Int);let c:=cO (↑n.natAbs:Int);let b:=cO g;let f:=bu (fY (decide (n<h)) (bk c) (bk b));let a:=bp.i .u32;let d:=bu (κ n);((-9223372036854775808:Int)<=n/\n<=(9223372036854775807:Int))/\(h<=g/\g<(18446744073709551616:Int))/\((bA c/\bA b)/\(c.length<=1000000000/\b.length<=1000000000)/\h<bk b)/\(γQ [γx f.fst,e a f.snd.fst,e a f.snd.snd]).same (γQ [γx d.fst,e a d.snd.fst,e a d.snd.snd])) (by kernel_rfl) ?_;conv=>zeta
 obtain⟨j,g,t⟩:=gn (show(0:Int)<=(n.natAbs:Int) by omega);obtain⟨l,m,s⟩:=gn (show(0:Int)<=1 by omega);have u:=mR (k:=2) (show(0:Int)<=(n.natAbs:Int) by omega) (by omega);have q:=mR (k:=1) (show(0:Int)<=1 by omega) (by decide);refine⟨⟨o,p⟩,⟨by omega,by omega⟩,⟨⟨g,m⟩,⟨by omega,by omega⟩,by omega⟩,?_⟩;have e:fY (decide (n<0)) (bk (cO (n.natAbs:Int))) (bk (cO 1))=κ n:=by
  rw[j,l];unfold fY;have r:(if decide (n<0)=true then -(n.natAbs:Int) else(n.natAbs:Int))=n:=by
   grind
  grind[Rat.mkRat_one]
 rw[e];rfl
def jN (q:Rat):Int:=if q<0 then -1 else if 0<q then 1 else 0
def s9:bM:=⟨142,bL,.one (dY sF),cE,λx=> .si .i64 (jN (bW x))⟩
theorem h99:Holds Tryz.prog s9:=by
 refine cH (L:=[]) s9 lk (by simp) ?_;intro(x:bL) h;obtain⟨q,k,rfl,m,f⟩:cE x:=h;refine bQ (let c:=γA .i64;let b:=decide ((↑(γc (bu q).snd.fst):Int)=(0:Int));let a:=γg .i64 (jN (bW (bu q)));(b=true->(c 0).same a)/\(b=false->((bu q).fst=true->(c (-1:Int)).same a)/\((bu q).fst=false->(c 1).same a))) (by kernel_rfl) ?_;simp only[vcs];rw[ez];have e:((bu q).2.1.length:Int)=0↔q.num=0:=by
  unfold bu;simp only;obtain⟨d,j,i⟩:=gn (show(0:Int)<=(q.num.natAbs:Int) by omega);constructor
  ·intro h;rw[τ (by omega:(cO (q.num.natAbs:Int)).length=0)] at d;grind[bk]
  ·intro h;rw[h];rfl
 have c:(bu q).1=decide (q<0):=rfl;have n:=@Rat.num_nonneg q;have l:q<0↔q.num<0:=by
  grind
 have g:0<q↔0<q.num:=by
  grind[Rat.num_eq_zero]
 rw[e,c];simp only[decide_eq_true_eq,decide_eq_false_iff_not];unfold jN;grind
def wB (x:bL):Prop:=(bA x.2.1/\bA x.2.2)/\x.2.1.length<=100000000/\x.2.2.length<=100000000
def Eo:bM:=⟨139,bL×bL,.cons (dY sF) (.one (dY sF)),λa=>wB a.1/\wB a.2,λa=> .bI [.row (.i .u32) (cO (bk a.1.2.1*bk a.2.2.2)),.row (.i .u32) (cO (bk a.2.2.1*bk a.1.2.2))]⟩
theorem h131:Holds Tryz.prog Eo:=by
 refine cH (L:=[yw]) Eo lk (by grind[h153]) ?_;rintro⟨⟨s,n,d⟩,⟨o,b,a⟩⟩ ⟨⟨⟨e,j⟩,g,f⟩,⟨⟨k,h⟩,l,m⟩⟩;simp only at e j g f k h l m;refine bQ (let c:=SV.bI [Ω (bp.i .u32) (cO (bk n*bk a)),Ω (bp.i .u32) (cO (bk b*bk d))];((bA n/\bA a)/\n.length<=100000000000/\a.length<=100000000000)/\((bA b/\bA d)/\b.length<=100000000000/\d.length<=100000000000)/\c.same c) (by kernel_rfl) ?_;simp only[vcs];grind
theorem Ep {p q:Rat} (h:p=q):(γQ [.sb (bu p).1,.row (.i .u32) (bu p).2.1,.row (.i .u32) (bu p).2.2]).same (.agg [.sb (bu q).1,.row (.i .u32) (bu q).2.1,.row (.i .u32) (bu q).2.2]):=by subst h;rfl
theorem wC (q:Rat):q.num=if decide (q<0) then -(q.num.natAbs:Int) else(q.num.natAbs:Int):=by
 have a:=@Rat.num_nonneg q;grind
theorem mq (q:Rat):(bu q).1=decide (q<0)/\(bA (bu q).2.1/\fS (bu q).2.1/\bk (bu q).2.1=(q.num.natAbs:Int))/\(bA (bu q).2.2/\fS (bu q).2.2/\bk (bu q).2.2=(q.den:Int)):=by
 obtain⟨f,e,d⟩:=gn (show(0:Int)<=(q.num.natAbs:Int) by omega);obtain⟨b,c,a⟩:=gn (show(0:Int)<=(q.den:Int) by omega);exact⟨rfl,⟨e,d,f⟩,⟨c,a,b⟩⟩
theorem pz {q:Rat} {k:Nat} (h:Sz k q):(bu q).2.1.length<=k/\(bu q).2.2.length<=k:=
 ⟨mR (by omega) h.1,mR (by omega) h.2⟩
theorem adj (q:Rat):fY (!decide (q<0)) (q.num.natAbs:Int) (q.den:Int)= -q:=by
 unfold fY;have h:=wC q;have e:(if(!decide (q<0))=true then -(q.num.natAbs:Int) else(q.num.natAbs:Int))= -q.num:=by
  grind
 grind[δW,Rat.neg_mkRat]
def yB:bM:=⟨145,bL,.one (dY sF),cE,λx=>qa (-(bW x))⟩
theorem h130:Holds Tryz.prog yB:=by
 refine cH (L:=[yA]) yB lk (by grind[h126]) ?_;intro(x:bL) h;obtain⟨q,k,rfl,f,g⟩:cE x:=h;refine bQ (let f:=Ω;let c:=(bu q).snd.fst;let a:=(bu q).snd.snd;let d:=bu (fY (!(bu q).fst) (bk c) (bk a));let b:=bp.i .u32;let e:=(bu (-bW (bu q))).snd;((bA c/\bA a)/\(γc c<=1000000000/\γc a<=1000000000)/\(0:Int)<bk a)/\(γQ [γx d.fst,f b d.snd.fst,f b d.snd.snd]).same (γQ [γx (bu (-bW (bu q))).fst,f b e.fst,f b e.snd])) (by kernel_rfl) ?_;conv=>zeta
 obtain⟨s,⟨r,p,u⟩,⟨o,l,n⟩⟩:=mq q;obtain⟨j,m⟩:=pz f;have t:=q.den_pos;grind[Ep,ez,adj]
theorem qP {a b:Int} {i j:Nat} (e:0<=a) (c:a<4294967296^i) (d:b<4294967296^j):a*b<4294967296^(i+j):=by
 rw[δ6];exact εL (Θ (γe d) e) (γ2 c (pow_pos _))
theorem Ti {p q:Rat} {i j:Nat} (c:Sz i p) (b:Sz j q):∃X Y D:Int,bk (bu p).2.1*bk (bu q).2.2=X/\bk (bu q).2.1*bk (bu p).2.2=Y/\bk (bu p).2.2*bk (bu q).2.2=D/\0<=X/\0<=Y/\0<D/\
  (cO X).length<=i+j/\(cO Y).length<=i+j/\(cO (X+Y)).length<=i+j+1/\(cO (X - Y)).length<=i+j/\(cO (Y - X)).length<=i+j/\(cO D).length<=i+j/\p.num*q.den=(if decide (p<0) then -X else X)/\q.num*p.den=(if decide (q<0) then -Y else Y)/\((p.den*q.den:Nat):Int)=D:=by
 obtain⟨_,⟨_,_,l⟩,⟨_,_,r⟩⟩:=mq p;obtain⟨_,⟨_,_,n⟩,⟨_,_,m⟩⟩:=mq q;rw[l,r,n,m];have s:=p.den_pos;have t:=q.den_pos;have k:=qP (a:=(p.num.natAbs:Int)) (by omega) c.1 b.2;have d:=qP (a:=(q.num.natAbs:Int)) (by omega) b.1 c.2;rw[Nat.add_comm j i] at d;have o:=qP (a:=(p.den:Int)) (by omega) c.2 b.2;have f:0<=(p.num.natAbs:Int)*q.den:=γu (by omega) (by omega);have e:0<=(q.num.natAbs:Int)*p.den:=γu (by omega) (by omega);have g:0<(p.den:Int)*q.den:=εD (by omega) (by omega);have v:=wC p;have u:=wC q;refine⟨_,_,_,rfl,rfl,rfl,f,e,g,mR f k,mR e d,mR (by omega) ?_,?_,?_,mR (by omega) o,?_,?_,by push_cast;rfl⟩;·omega
 ·by_cases h:(p.num.natAbs:Int)*q.den - (q.num.natAbs:Int)*p.den<=0;·grind[JE]
  ·exact mR (by omega) (by omega)
 ·by_cases h:(q.num.natAbs:Int)*p.den - (p.num.natAbs:Int)*q.den<=0;·grind[JE]
  ·exact mR (by omega) (by omega)
 all_goals grind
theorem adk {p q:Rat} {s:Bool} {n D:Int} (a:((p.den*q.den:Nat):Int)=D) (h:p.num*q.den+q.num*p.den=if s then -n else n):fY s n D=p+q:=by
 rw[Ta];grind[fY]
theorem Es {p:Rat} {k:Nat} (h:Sz k p) (c:k<=100000000):wB (bu p):=by
 obtain⟨_,⟨a,_,_⟩,⟨b,_,_⟩⟩:=mq p;have:=pz h;exact⟨⟨a,b⟩,by omega,by omega⟩
def iU (p q:Rat):Int:=if p<q then -1 else if q<p then 1 else 0
def yC:bM:=⟨102,bL×bL,.cons (dY sF) (.one (dY sF)),λa=>cE a.1/\cE a.2,λa=> .si .i64 (iU (bW a.1) (bW a.2))⟩
theorem h97:Holds Tryz.prog yC:=by
 refine cH (L:=[Eo,yd]) yC lk (by grind[h131,h132]) ?_;rintro⟨x,y⟩ ⟨⟨p,i,t,w,S⟩,⟨q,j,r,o,T⟩⟩;simp only at t r;subst t r;refine bQ (let a:=(bu p).fst;let g:=γg .i64 (iU (bW (bu p)) (bW (bu q)));let s:=λ(u:Bool) (c b:Rat) ↦let k:=cO (bk (bu c).snd.fst*bk (bu b).snd.snd);let l:=cO (bk (bu b).snd.fst*bk (bu c).snd.snd);a=u->((bA k/\bA l)/\k.length<=1000000000000/\l.length<=1000000000000)/\(γg .i64 (lW (bk k) (bk l))).same g;((!a==(bu q).fst)=true->(a=true->(γA .i64 (-1:Int)).same g)/\(a=false->(γA .i64 1).same g))/\((!a==(bu q).fst)=false->(wB (a,(bu p).snd.fst,(bu p).snd.snd)/\wB ((bu q).fst,(bu q).snd.fst,(bu q).snd.snd))/\s true q p/\s false p q)) (by kernel_rfl) ?_;conv=>zeta
 obtain⟨C,_,_⟩:=mq p;obtain⟨P,_,_⟩:=mq q;obtain⟨X,Y,D,E,M,hD,G,N,U,l1,l2,l3,l4,Z,V,B,A,W⟩:=Ti w o;obtain⟨J,v,c3⟩:=gn G;obtain⟨K,n,c6⟩:=gn N;simp only[ez,E,M,J,K,C,P];simp only[vcs];have hl:p<q↔p.num*q.den<q.num*p.den:=Rat.lt_iff p q;have R:q<p↔q.num*p.den<p.num*q.den:=Rat.lt_iff q p;have O:=@Rat.num_nonneg p;have H:=@Rat.num_nonneg q;have m:∀{z:Int},(z=if p.num*q.den<q.num*p.den then -1 else if q.num*p.den<p.num*q.den then 1 else 0)->z=iU p q:=λh=>by
  grind[iU]
 have Q:p<0->0<X:=λh=>by
  rw[if_pos (by simpa using h)] at B;have f:p.num<0:=by grind
  have:=εv f (show(0:Int)<q.den by grind);omega
 have F:q<0->0<Y:=λh=>by
  rw[if_pos (by simpa using h)] at A;have f:q.num<0:=by grind
  have:=εv f (show(0:Int)<p.den by grind);omega
 rw[B,A] at m;refine⟨λI=>⟨λd=>?_,λd=>?_⟩,λhe=>⟨⟨Es w S,Es o T⟩,λd=>⟨⟨⟨n,v⟩,by omega,by omega⟩,?_⟩,λd=>⟨⟨⟨v,n⟩,by omega,by omega⟩,?_⟩⟩⟩;·grind
 ·grind
 ·apply m;have e:q<0:=by
   grind
  simp only[decide_eq_true_eq,d,e,if_true,if_false];simp only[Int.neg_lt_neg_iff];rfl
 ·apply m;have e:¬q<0:=λe=>by grind
  simp only[decide_eq_true_eq,d,e,if_true,if_false];rfl
def wE:bM:=⟨134,bL×bL,.cons (dY sF) (.one (dY sF)),λa=>cE a.1/\cE a.2,λa=>qa (bW a.1+bW a.2)⟩
theorem h129:Holds Tryz.prog wE:=by
 refine cH (L:=[Eo,yw,Av,JF,yA]) wE lk (by grind[h131,h153,h154,h155,h126]) ?_;rintro⟨x,y⟩ ⟨⟨p,i,J,w,S⟩,⟨q,j,E,B,hj⟩⟩;simp only at J E;subst J E;refine bQ (let h:=Ω;let j:=γQ;let m:=(bu q).snd.snd;let f:=cO (bk (bu p).snd.fst*bk m);let t:=(bu p).snd.snd;let k:=cO (bk (bu q).snd.fst*bk t);let a:=cO (bk t*bk m);let g:=bp.i .u32;let z:=bu (bW (bu p)+bW (bu q));let o:=j [γx z.fst,h g z.snd.fst,h g z.snd.snd];let v:=(bu p).fst==(bu q).fst;let c:=cO (bk f+bk k);let d:=bu (fY (bu p).fst (bk c) (bk a));let I:=(bA f/\bA k)/\f.length<=100000000000/\k.length<=100000000000;let K:=λ(u r:Rat) ↦let e:=cO (bk (cO (bk (bu u).snd.fst*bk (bu r).snd.snd)) - bk (cO (bk (bu r).snd.fst*bk (bu u).snd.snd)));let b:=bu (fY (bu u).fst (bk e) (bk a));((bA e/\bA a)/\(e.length<=1000000000/\a.length<=1000000000)/\(0:Int)<bk a)/\(j [γx b.fst,h g b.snd.fst,h g b.snd.snd]).same o;let F:=λ(u:Bool) ↦decide (bk k<=bk f)=u;(wB ((bu p).fst,(bu p).snd.fst,t)/\wB ((bu q).fst,(bu q).snd.fst,m))/\((bA t/\bA m)/\γc t<=100000000000/\γc m<=100000000000)/\(v=true->I/\((bA c/\bA a)/\(c.length<=1000000000/\a.length<=1000000000)/\(0:Int)<bk a)/\(j [γx d.fst,h g d.snd.fst,h g d.snd.snd]).same o)/\(v=false->I/\(F true->K p q)/\(F false->((bA k/\bA f)/\k.length<=100000000000/\f.length<=100000000000)/\K q p))) (by kernel_rfl) ?_;conv=>zeta
 obtain⟨O,⟨u1,_,_⟩,⟨u2,_,_⟩⟩:=mq p;obtain⟨W,⟨u3,_,_⟩,⟨P,_,_⟩⟩:=mq q;obtain⟨m1,m2⟩:=pz w;obtain⟨m3,m4⟩:=pz B;obtain⟨X,Y,D,T,Q,hD,U,R,C,l1,l2,l3,l4,l5,l6,n1,n2,n3⟩:=Ti w B;obtain⟨N,H,c3⟩:=gn U;obtain⟨c4,G,c6⟩:=gn R;obtain⟨c7,V,c9⟩:=gn (γe C);obtain⟨s1,M,s3⟩:=gn (show 0<=X+Y by omega);simp only[ez,T,Q,hD,N,c4,c7,s1,O,W];simp only[vcs];have l:∀{s:Bool} {n:Int},(p.num*q.den+q.num*p.den=if s then -n else n)->(γQ [.sb (bu (fY s n D)).1,.row (.i .u32) (bu (fY s n D)).2.1,.row (.i .u32) (bu (fY s n D)).2.2]).same (.agg [.sb (bu (p+q)).1,.row (.i .u32) (bu (p+q)).2.1,.row (.i .u32) (bu (p+q)).2.2]):=
  λh=>Ep (adk n3 h);rw[n1,n2] at l;refine⟨⟨Es w S,Es B hj⟩,⟨⟨u2,P⟩,by omega,by omega⟩,λZ=>⟨⟨⟨H,G⟩,by omega,by omega⟩,⟨⟨M,V⟩,⟨by omega,by omega⟩,C⟩,l ?_⟩,λZ=>⟨⟨⟨H,G⟩,by omega,by omega⟩,λA=>?_,λA=>?_⟩⟩;all_goals grind[gn]
def Bl:bM:=⟨144,bL×bL,.cons (dY sF) (.one (dY sF)),λa=>cE a.1/\cE a.2,λa=>qa (bW a.1 - bW a.2)⟩
theorem h95:Holds Tryz.prog Bl:=by
 refine cH (L:=[yB,wE]) Bl lk (by grind[h130,h129]) ?_;rintro⟨x,y⟩ ⟨⟨p,i,k,m,n⟩,⟨q,j,g,l,o⟩⟩;simp only at k g;subst k g;refine bQ (let g:=Ω;let b:=((bu q).fst,(bu q).snd.fst,(bu q).snd.snd);let e:=((bu p).fst,(bu p).snd.fst,(bu p).snd.snd);let h:=(bu (-bW b)).snd;let f:=((bu (-bW b)).fst,h.fst,h.snd);let d:=bu (bW e+bW f);let a:=bp.i .u32;let c:=bu (bW (bu p) - bW (bu q));cE b/\(cE e/\cE f)/\(γQ [γx d.fst,g a d.snd.fst,g a d.snd.snd]).same (γQ [γx c.fst,g a c.snd.fst,g a c.snd.snd])) (by kernel_rfl) ?_;grind[cE,Bh,Ep,ez]
theorem JM {a:List Int} (h:bA a) (c:fS a) (b:a≠[]):0<bk a:=by
 have:=fi h;grind[val_zero]
def okF (x:bL):Bool:=decide (bu (bW x)=x)
theorem Tj {n d:Int} (h:0<d):0<ey n d:=by
 simp_all[ey]
theorem adl {s:Bool} {n d:List Int} (h:okF (s,(n,d))=true):fS n/\fS d/\d≠[]:=by
 have h:=of_decide_eq_true h;have b:=gn (show(0:Int)<=((bW (s,(n,d))).num.natAbs:Int) by omega);have a:=gn (show(0:Int)<=((bW (s,(n,d))).den:Int) by omega);have e:cO ((bW (s,(n,d))).num.natAbs:Int)=n:=congrArg (λx=>x.2.1) h;have c:cO ((bW (s,(n,d))).den:Int)=d:=congrArg (λx=>x.2.2) h;rw[e] at b;rw[c] at a;refine⟨b.2.2,a.2.2,λf=>?_⟩;have g:=a.1;rw[f] at g;have:=(bW (s,(n,d))).den_pos;grind[bk]
theorem okF_eq {s:Bool} {n d:List Int} (e:bA n) (m:bA d) (l:fS n) (p:fS d) (b:d≠[]):
  okF (s,(n,d))=if n=[] then !s&&decide (d=[1]) else decide (ey (bk n) (bk d)=1):=by
 have c:=JM m p b;have r:=fi e;have j:bW (s,(n,d))=mkRat (if s then -bk n else bk n) (bk d).toNat:=rfl;have o:=@S9 s (bk n) (bk d) r c;have u:=@Tj (bk n) (bk d) c;unfold okF;rw[j,o];by_cases a:n=[]
 ·rw[if_pos a,a];have i:ey (bk []) (bk d)=bk d:=by unfold ey;simp[bk];omega
  have k:cO (bk d / ey (bk []) (bk d))=[1]:=by rw[i,Int.ediv_self (by omega)];rfl
  have f:cO (bk [] / ey (bk []) (bk d))=[]:=by
   have:bk []=0:=rfl;rw[this,Int.zero_ediv];rfl
  rw[k,f];have v:decide (0<bk [])=false:=rfl;grind
 ·rw[if_neg a];have q:=JM e l a;rw[decide_eq_true (show 0<bk n from q),Bool.and_true];rw[θa,decide_eq_true_eq,decide_eq_true_eq];constructor
  ·intro h;injection h with h1 h2;injection h2 with h2 h3;have g:=(gn (show 0<=bk d / ey (bk n) (bk d) from δ0 (by omega) (by omega))).1;rw[h3] at g;by_cases t:ey (bk n) (bk d)=1;·exact t
   ·have:=Int.ediv_lt_self_of_pos_of_ne_one c (by omega:ey (bk n) (bk d)≠1);omega
  grind[Au]
theorem adn {l:List Int} (h:l.length=0\/bj l (l.length - 1) 0≠0):fS l:=by
 rcases h with h|h;·rw[τ h];trivial
 ·by_cases b:l.length=0;·rw[τ b];trivial
  ·have c:=DU (a:=l) (n:=l.length - 1) (by omega);grind[Iz]
def tc (a:List Int):Bool:=decide (a.length=0)||decide (bj a (a.length - 1) 0≠0)
theorem uH {a:List Int}:tc a=true↔fS a:=by
 unfold tc;rw[Bool.or_eq_true,decide_eq_true_eq,decide_eq_true_eq];constructor;·exact adn
 ·intro h;by_cases e:a.length=0;·exact .inl e
  ·right;have b:=DU (a:=a) (n:=a.length - 1) (by omega);rw[show a.length - 1+1=a.length by omega,ψ] at b;have:∀{l:List Int} {x:Int},fS (l++[x])->x≠0:=by
    intro l x;induction l with
    |nil=>intro h;exact h.1 rfl;|cons d l c=>intro h;exact c h.2
   grind
end Go.Vi
