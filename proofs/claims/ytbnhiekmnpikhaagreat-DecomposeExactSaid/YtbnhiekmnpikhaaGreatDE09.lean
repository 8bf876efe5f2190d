import Derived.Test.YtbnhiekmnpikhaaGreatDE08
set_option maxRecDepth 100000
set_option maxHeartbeats 4000000
set_option linter.all false
open And renaming intro->γm
open BitVec renaming ofInt->γt
open Bool renaming eq_iff_iff->θd
open Classical renaming byContradiction->δc
open Go.Vi.SV renaming ow->γ1,row->γa,si->γj,sb->γB,il->γC,agg->γN
open Int renaming pow_succ->γW,sub_zero->ζi,mul_assoc->δn,mul_zero->δM,mul_nonneg->γy,emod_eq_of_lt->δO,pow_add->δ9,lt_of_le_of_lt->εJ,mul_le_mul_of_nonneg_left->Φ,le_of_lt->γg,mul_lt_mul_of_pos_right->γ5,eq_ofNat_of_zero_le->δJ,mul_comm->δ5,pow_pos->δR,mul_emod_mul_of_pos->ζG,emod_nonneg->δQ,emod_lt_of_pos->δr,lt_of_mul_lt_mul_left->εt,lt_of_lt_of_le->εG,mul_le_mul_of_nonneg_right->γX,add_zero->εi,ediv_nonneg->δ1,ediv_lt_of_lt_mul->εV,mul_ediv_add_emod->εg,pow_zero->ζP,one_mul->εz,toNat_natCast->γk,mul_ediv_cancel_left->ζx,natAbs_mul->εs,natAbs_natCast->ζj,mul_neg_of_neg_of_pos->εu,mul_pos->εB
open IntCast renaming intCast->κ
open List renaming range->ω,length_cons->γK,nodup_append->γx,mem_map->Γ,getElem_of_mem->γJ,mem_append->γi,replicate->δ,take->Δ,getElem?_replicate->εD,eq_of_mem_replicate->δ2,replicate_succ->δo,take_length->φ,length_take->γz,length_set->Ω,drop_drop->δl,take_zero->εr,drop->γ4,eq_nil_of_length_eq_zero->χ,length->γd
open Nat renaming le_refl->π,min_eq_left->εh,pow_le_pow_right->δt,add_sub_cancel->ζ1,gcd_dvd_left->θa
open Option.some renaming injEq->γ
open Prod renaming ext->εE
open Rat renaming mul_nonneg->δx,mkRat_self->δY,normalize_eq_mkRat->ζK
namespace Go.Vi
structure Tb where
 VK:List (List Rat)
 bound:List Rat
 cost:List Rat
 value:Rat
 basic:List Int
 free:List Int
namespace Tb
def cf (t:Tb) (i j:Nat):Rat:=bN (bN t.VK i []) j 0
def bd (t:Tb) (i:Nat):Rat:=bN t.bound i 0
def cs (t:Tb) (j:Nat):Rat:=bN t.cost j 0
def bv (t:Tb) (i:Nat):Int:=bN t.basic i 0
def fv (t:Tb) (j:Nat):Int:=bN t.free j 0
structure WF (n m:Nat) (t:Tb):Prop where
 VK:t.VK.length=m
 row:∀i,i<m->(bN t.VK i []).length=n
 bound:t.bound.length=m
 cost:t.cost.length=n
 basic:t.basic.length=m
 free:t.free.length=n
def holds (n m:Nat) (t:Tb) (x:Int->Rat) (z:Rat):Prop:=
 (∀i,i<m->x (t.bv i)+Ov n (λj=>t.cf i j*x (t.fv j))=t.bd i)/\z=t.value+Ov n λj=>t.cs j*x (t.fv j)
end Tb
def ju (l:List Rat) (c:Nat) (p:List Rat):List Rat:=(ω l.length).map λj=>if j=c then -(bN l c 0*bN p j 0) else bN l j 0 - bN l c 0*bN p j 0
def jQ (l:List Rat) (c:Nat):List Rat:=(ω l.length).map λj=>if j=c then 1 / bN l c 0 else bN l j 0*(1 / bN l c 0)
def eX (t:Tb) (r c:Nat):Tb where
 VK:=(ω t.VK.length).map λi=>if i=r then jQ (bN t.VK r []) c else ju (bN t.VK i []) c (jQ (bN t.VK r []) c);bound:=(ω t.bound.length).map λi=>if i=r then t.bd r*(1 / t.cf r c) else t.bd i - t.cf i c*(t.bd r*(1 / t.cf r c));cost:=ju t.cost c (jQ (bN t.VK r []) c);value:=t.value+t.cs c*(t.bd r*(1 / t.cf r c));basic:=t.basic.set r (t.fv c);free:=t.free.set c (t.bv r)
theorem oo {a:Type} {f:Nat->a} {n i:Nat} {d:a} (h:i<n):bN ((ω n).map f) i d=f i:=by
 grind[bV]
theorem gM {a:Type} {l:List a} {r i:Nat} {x d:a} (h:r<l.length):bN (l.set r x) i d=if i=r then x else bN l i d:=by
 unfold bN;grind
section
variable {n m:Nat} {t:Tb} {r c:Nat}
theorem Lk {l:List Rat}:(jQ l c).length=l.length:=by simp[jQ]
theorem zk {l p:List Rat}:(ju l c p).length=l.length:=by simp[ju]
theorem EZ {l:List Rat} {j:Nat} (h:j<l.length):bN (jQ l c) j 0=if j=c then 1 / bN l c 0 else bN l j 0*(1 / bN l c 0):=oo h
theorem zj {l p:List Rat} {j:Nat} (h:j<l.length):bN (ju l c p) j 0=if j=c then -(bN l c 0*bN p j 0) else bN l j 0 - bN l c 0*bN p j 0:=oo h
theorem Lj (h:t.WF n m):(eX t r c).WF n m where
 VK:=by simp[eX,h.VK]
 row i a:=by
  simp only[eX];rw[oo (by rw[h.VK];exact a)];split;·rename_i e;subst e;rw[Lk,h.row _ a]
  ·rw[zk,h.row _ a]
 bound:=by simp[eX,h.bound]
 cost:=by simp only[eX];rw[zk,h.cost]
 basic:=by simp[eX,h.basic]
 free:=by simp[eX,h.free]
theorem ya (h:t.WF n m) (b:r<m) (e:c<n) {i j:Nat} (d:i<m) (a:j<n):(eX t r c).cf i j=
  if i=r then(if j=c then 1 / t.cf r c else t.cf r j*(1 / t.cf r c)) else if j=c then -(t.cf i c*(1 / t.cf r c)) else t.cf i j - t.cf i c*(t.cf r j*(1 / t.cf r c)):=by
 unfold Tb.cf;simp only[eX];rw[oo (by rw[h.VK];exact d)];split;·rw[EZ (by rw[h.row _ b];exact a)]
 ·rw[zj (by rw[h.row _ d];exact a)];rw[EZ (by rw[h.row _ b];exact a)];simp_all
theorem zh (h:t.WF n m) {i:Nat} (a:i<m):(eX t r c).bd i=if i=r then t.bd r*(1 / t.cf r c) else t.bd i - t.cf i c*(t.bd r*(1 / t.cf r c)):=by
 show bN _ i 0=_;simp only[eX];rw[oo (by rw[h.bound];exact a)]
theorem Li (h:t.WF n m) (b:r<m) {j:Nat} (a:j<n):(eX t r c).cs j=if j=c then -(t.cs c*(1 / t.cf r c)) else t.cs j - t.cs c*(t.cf r j*(1 / t.cf r c)):=by
 show bN _ j 0=_;simp only[eX];rw[zj (by rw[h.cost];exact a),EZ (by rw[h.row _ b];exact a)];split;·rfl
 ·rfl
theorem EY (h:t.WF n m) (a:r<m) {i:Nat}:(eX t r c).bv i=if i=r then t.fv c else t.bv i:=gM (by rw[h.basic];exact a)
theorem EX (h:t.WF n m) (a:c<n) {j:Nat}:(eX t r c).fv j=if j=c then t.bv r else t.fv j:=gM (by rw[h.free];exact a)
theorem piv_holds (h:t.WF n m) (b:r<m) (k:c<n) (K:t.cf r c≠0) {x:Int->Rat} {z:Rat}:(eX t r c).holds n m x z↔t.holds n m x z:=by
 have d:∀f:Nat->Rat,Ov n (λj=>f j*x (t.fv j))=f c*x (t.fv c)+Ov n (λj=>if j=c then 0 else f j*x (t.fv j)):=λf=>zl k;have e:∀f:Nat->Rat,Ov n (λj=>f j*x ((eX t r c).fv j))=f c*x (t.bv r)+Ov n (λj=>if j=c then 0 else f j*x (t.fv j)):=λf=>by
  rw[zl k,EX h k,if_pos rfl];congr 1;refine cX λj _=>?_;split;·rfl
  ·rename_i p;rw[EX h k,if_neg p]
 have I:Ov n (λj=>if j=c then 0 else(eX t r c).cf r j*x (t.fv j))=(1 / t.cf r c)*Ov n (λj=>if j=c then 0 else t.cf r j*x (t.fv j)):=by
  rw[<-sO];refine cX λj p=>?_;split;·grind
  ·rename_i l;rw[ya h b k b p,if_pos rfl,if_neg l];grind
 have E:∀f g:Nat->Rat,∀q:Rat,(∀j,j<n->j≠c->g j=f j - q*(t.cf r j*(1 / t.cf r c)))->Ov n (λj=>if j=c then 0 else g j*x (t.fv j))=Ov n (λj=>if j=c then 0 else f j*x (t.fv j))+(-(q*(1 / t.cf r c)))*Ov n (λj=>if j=c then 0 else t.cf r j*x (t.fv j)):=λf g q L=>by
  rw[<-sO,<-vB];refine cX λj p=>?_;grind
 have J:∀j,j<n->j≠c->(eX t r c).cs j=t.cs j - t.cs c*(t.cf r j*(1 / t.cf r c)):=λj p l=>by rw[Li h b p,if_neg l]
 have B:∀i,i<m->i≠r->∀j,j<n->j≠c->(eX t r c).cf i j=t.cf i j - t.cf i c*(t.cf r j*(1 / t.cf r c)):=λi o a j p l=>by rw[ya h b k o p,if_neg a,if_neg l]
 have G:=E t.cs _ _ J;have v:=Li (c:=c) h b k;rw[if_pos rfl] at v;have s:=ya h b k b k;rw[if_pos rfl,if_pos rfl] at s;have w:=zh (r:=r) (c:=c) h b;rw[if_pos rfl] at w;have u:=EY (c:=c) (i:=r) h b;rw[if_pos rfl] at u;have H:(eX t r c).value=t.value+t.cs c*(t.bd r*(1 / t.cf r c)):=rfl;unfold Tb.holds;constructor
 ·rintro⟨A,F⟩;have C:=A r b;rw[e,I,s,u,w] at C;refine⟨λi o=>?_,?_⟩
  ·by_cases a:i=r
   ·subst a;rw[d];grind
   ·have D:=A i o;have y:=ya h b k o k;rw[if_neg a,if_pos rfl] at y;rw[e,E _ _ _ (B i o a),EY h b,if_neg a,zh h o,if_neg a,y] at D;rw[d];grind
  ·rw[e,G,v,H] at F;rw[d];grind
 ·rintro⟨A,F⟩;have C:=A r b;rw[d] at C;refine⟨λi o=>?_,?_⟩
  ·by_cases a:i=r
   ·subst a;rw[e,I,s,u,w];grind
   ·have D:=A i o;have y:=ya h b k o k;rw[if_neg a,if_pos rfl] at y;rw[e,E _ _ _ (B i o a),EY h b,if_neg a,zh h o,if_neg a,y];rw[d] at D;grind
  ·rw[e,G,v,H];rw[d] at F;grind
end
def kP (f:Int->Rat):List Int->Rat
 |[]=>0
 |x::l=>f x+kP f l
theorem x_ {f:Int->Rat}:∀{l k:List Int},kP f (l++k)=kP f l+kP f k
 |[],k=>by grind[kP];|x::l,k=>by simp only[List.cons_append,kP,@x_ f l k];grind
theorem EW {f:Int->Rat} {l k:List Int} (h:l.Perm k):kP f l=kP f k:=by
 induction h<;>grind[kP,swap,trans]
theorem Lh:∀{n:Nat} {f:Nat->Rat},Ov (n+1) f=f 0+Ov n λi=>f (i+1)
 |0,f=>by grind[Ov];|n+1,f=>by
  rw[Ov,Lh];grind[Ov]
theorem oZ {f:Int->Rat}:∀{l:List Int},kP f l=Ov l.length λk=>f (bN l k 0)
 |[]=>rfl
 |x::l=>by
  rw[γK,Lh,kP,oZ];rfl
def iB (n:Nat) (t:Tb) (y:Nat->Rat) (v:Int):Rat:=if v∈t.free then y (t.free.idxOf v) else t.bd (t.basic.idxOf v) - Ov n λj=>t.cf (t.basic.idxOf v) j*y j
section
variable {n m:Nat} {t t0:Tb} {r c:Nat}
theorem m_ {l:List Int} {i:Nat} (h:l.Nodup) (a:i<l.length):l.idxOf (bN l i 0)=i:=by
 grind[bV]
theorem lC (h:t.WF n m) (c:(t.basic++t.free).Nodup) {y:Nat->Rat} {j:Nat} (a:j<n):iB n t y (t.fv j)=y j:=by
 have b:j<t.free.length:=by rw[h.free];exact a
 unfold iB Tb.fv;rw[if_pos (by grind[bV]),m_ (γx.1 c).2.1 b]
theorem EV (h:t.WF n m) (b:(t.basic++t.free).Nodup) {i:Nat} (a:i<m):t.bv i∉t.free:=λc=>by
 have d:i<t.basic.length:=by rw[h.basic];exact a
 grind[Tb.bv,bV]
theorem mc (h:t.WF n m) (a:(t.basic++t.free).Nodup) {y:Nat->Rat} {i:Nat} (c:i<m):iB n t y (t.bv i)=t.bd i - Ov n λj=>t.cf i j*y j:=by
 have b:i<t.basic.length:=by rw[h.basic];exact c
 have e:t.basic.idxOf (t.bv i)=i:=m_ (γx.1 a).1 b;unfold iB;grind
theorem asg_holds (h:t.WF n m) (a:(t.basic++t.free).Nodup) {y:Nat->Rat}:t.holds n m (iB n t y) (t.value+Ov n λj=>t.cs j*y j):=by
 have e:∀f:Nat->Rat,Ov n (λj=>f j*iB n t y (t.fv j))=Ov n λj=>f j*y j:=λf=>cX λj c=>by grind[lC]
 refine⟨λi b=>?_,?_⟩
 ·rw[mc h a b,e];grind
 ·rw[e]
def eT (m:Nat) (a:Tb) (v:Int) (i:Nat):Rat:=if i<m then(if v∈a.free then a.cf i (a.free.idxOf v) else if a.basic.idxOf v=i then 1 else 0) else 0
def vA (m:Nat) (a:Tb) (i:Nat):Rat:=if i<m then a.bd i else 0
def iE (m:Nat) (a t:Tb):Rat:=ja (t.basic.map (eT m a)) (ω m)
structure dq (n m:Nat) (t0 t:Tb):Prop where
 wf0:t0.WF n m
 wf:t.WF n m
 nd:(t0.basic++t0.free).Nodup
 perm:(t.basic++t.free).Perm (t0.basic++t0.free)
 sol:∀x z,t.holds n m x z↔t0.holds n m x z
 dt:iE m t0 t≠0
theorem dq.fm (h:dq n m t0 t):(t.basic++t.free).Nodup:=h.perm.symm.nodup h.nd
theorem dq.refl (h:t0.WF n m) (a:(t0.basic++t0.free).Nodup):dq n m t0 t0:=by
 refine⟨h,h,a,List.Perm.refl _,λ_ _=>Iff.rfl,?_⟩;have e:t0.basic.map (eT m t0)=(ω m).map vC:=by
  refine List.ext_getElem (by simp[h.basic]) λi g d=>?_;simp only[List.getElem_map,List.getElem_range];have f:i<m:=by simp_all
  have b:t0.basic[i]'(by simp_all)=t0.bv i:=by grind[Tb.bv,bV]
  rw[b];funext k;have c:t0.basic.idxOf (t0.bv i)=i:=m_ (γx.1 a).1 (by grind);unfold eT vC;grind
 grind[iE,Lm]
theorem dq.rows (h:dq n m t0 t) {x:Int->Rat} {z:Rat} (l:t.holds n m x z) {i:Nat}:Ov m (λk=>eT m t0 (t.bv k) i*x (t.bv k))+Ov n (λj=>eT m t0 (t.fv j) i*x (t.fv j))=vA m t0 i:=by
 have b:∀t:Tb,t.WF n m->kP (λv=>eT m t0 v i*x v) (t.basic++t.free)=Ov m (λk=>eT m t0 (t.bv k) i*x (t.bv k))+Ov n (λj=>eT m t0 (t.fv j) i*x (t.fv j)):=λt f=>by
  rw[x_,oZ,oZ,f.basic,f.free];rfl
 rw[<-b t h.wf,EW h.perm,b t0 h.wf0];have p:=(h.sol x z).1 l;unfold vA;by_cases a:i<m
 ·rw[if_pos a,<-p.1 i a];congr 1
  ·have e:Ov m (λk=>eT m t0 (t0.bv k) i*x (t0.bv k))=Ov m λk=>if k=i then x (t0.bv i) else 0:=cX λk d=>by
    have c:t0.basic.idxOf (t0.bv k)=k:=m_ (γx.1 h.nd).1 (by rw[h.wf0.basic];exact d);unfold eT;rw[if_pos a,if_neg (EV h.wf0 h.nd d),c];grind
   rw[e,sN,if_pos a]
  ·refine cX λj g=>?_;have o:j<t0.free.length:=by rw[h.wf0.free];exact g
   unfold eT;rw[if_pos a,if_pos (by grind[Tb.fv,bV])];have c:t0.free.idxOf (t0.fv j)=j:=m_ (γx.1 h.nd).2.1 o;rw[c]
 ·rw[if_neg a];have e:∀v,eT m t0 v i=0:=λv=>by simp_all[eT,if_neg]
  simp only[e];grind[gN]
theorem dq.Lg (h:dq n m t0 t):vA m t0=λi=>Ov m λk=>t.bd k*eT m t0 (t.bv k) i:=by
 funext i;have a:=h.rows (i:=i) (asg_holds h.wf h.fm (y:=λ_=>0));rw[<-a,cX (n:=n) (g:=λ_=>0) λj c=>by rw[lC h.wf h.fm c];grind,gN,cX (n:=m) (g:=λk=>t.bd k*eT m t0 (t.bv k) i) λk b=>by
  rw[mc h.wf h.fm b,cX (g:=λ_=>0) λj _=>by grind,gN];grind];grind
theorem dq.Uy (h:dq n m t0 t) {c:Nat} (a:c<n):eT m t0 (t.fv c)=λi=>Ov m λk=>t.cf k c*eT m t0 (t.bv k) i:=by
 funext i;have f:=congrFun h.Lg i;have b:=h.rows (i:=i) (asg_holds h.wf h.fm (y:=λj=>if j=c then 1 else 0));rw[cX (n:=n) (g:=λj=>if j=c then eT m t0 (t.fv c) i else 0) λj e=>by
  rw[lC h.wf h.fm e];grind,sN,if_pos a,cX (n:=m) (g:=λk=>t.bd k*eT m t0 (t.bv k) i+(-1)*(t.cf k c*eT m t0 (t.bv k) i)) λk d=>by
   rw[mc h.wf h.fm d,cX (g:=λj=>if j=c then t.cf k c else 0) λj _=>by
    grind,sN,if_pos a];grind,vB,sO] at b;grind
theorem getD_map {l:List Int} {f:Int->Nat->Rat} {k:Nat} (h:k<l.length):(l.map f).getD k (λ_=>0)=f (bN l k 0):=by
 grind[bV]
theorem dq.Lf (h:dq n m t0 t) {y:Nat->Rat} {r:Nat} (d:r<m):ja ((t.basic.map (eT m t0)).set r λi=>Ov m λk=>y k*eT m t0 (t.bv k) i) (ω m)=y r*iE m t0 t:=by
 have b:(t.basic.map (eT m t0)).length=m:=by rw[List.length_map,h.wf.basic]
 have a:=@Uz (t.basic.map (eT m t0)) (ω m) y r (by omega);unfold iE;rw[<-a,b];congr 2;funext i;refine cX λk c=>?_;rw[getD_map (by simp_all)];rfl
theorem dq.Le (h:dq n m t0 t) {r c:Nat} (a:r<m) (b:c<n):ja ((t.basic.map (eT m t0)).set r (eT m t0 (t.fv c))) (ω m)=t.cf r c*iE m t0 t:=by
 rw[h.Uy b];exact h.Lf (y:=λk=>t.cf k c) a
theorem dq.Ux (h:dq n m t0 t) {r:Nat} (a:r<m):ja ((t.basic.map (eT m t0)).set r (vA m t0)) (ω m)=t.bd r*iE m t0 t:=by
 rw[h.Lg];exact h.Lf (y:=t.bd) a
theorem set_perm {l:List Int} {r:Nat} {x:Int} (a:r<l.length):(l.set r x).Perm (x::(l.take r++l.drop (r+1))):=by
 rw[List.set_eq_take_append_cons_drop,if_pos a];simp_all
theorem Uw {l:List Int} {r:Nat} (a:r<l.length):(l[r]::(l.take r++l.drop (r+1))).Perm l:=by
 have h:=@set_perm l r l[r] a;grind
theorem swap_perm {l k:List Int} {r c:Nat} (a:r<l.length) (b:c<k.length):(l.set r (bN k c 0)++k.set c (bN l r 0)).Perm (l++k):=by
 grind[bV]
theorem dq.Qj (h:dq n m t0 t) {r c:Nat} (a:r<m) (b:c<n) (d:t.cf r c≠0):dq n m t0 (eX t r c) where
 wf0:=h.wf0;wf:=Lj h.wf;nd:=h.nd;perm:=(swap_perm (by rw[h.wf.basic];exact a) (by rw[h.wf.free];exact b)).trans h.perm;sol x z:=(piv_holds h.wf a b d).trans (h.sol x z);dt:=by
  have e:iE m t0 (eX t r c)=t.cf r c*iE m t0 t:=by
   rw[<-h.Le a b];unfold iE;congr 1;show(t.basic.set r (t.fv c)).map (eT m t0)=_;simp_all
  rw[e];have:=h.dt;grind
theorem zg {M:Nat} (d:1<=M) (c:∀i j,i<m->j<n->dY M (t0.cf i j)) (a:t0.WF n m) {v:Int} {i:Nat}:dY M (eT m t0 v i):=by
 unfold eT;split
 ·split
  ·rename_i b e;exact c _ _ b (by rw[<-a.free];grind)
  ·split;·exact⟨1,by simp,by omega⟩
   ·exact⟨0,by simp,by simp⟩
 ·exact⟨0,by simp,by simp⟩
theorem mem_set {C:List (Nat->Rat)} {r:Nat} {c d:Nat->Rat} (h:d∈C.set r c):d∈C\/d=c:=List.mem_or_eq_of_mem_set h
theorem dq.Uv (h:dq n m t0 t) {M:Nat} (a:1<=M) (c:∀i j,i<m->j<n->dY M (t0.cf i j)):dY (lI M m) (iE m t0 t):=by
 have:=@zm M (t.basic.map (eT m t0)) (ω m) (by simp[h.wf.basic]) λd b i _=>by
  obtain⟨v,_,rfl⟩:=Γ.1 b;exact zg a c h.wf0
 rwa [List.length_range] at this
theorem dq.Qs (h:dq n m t0 t) {M:Nat} (e:1<=M) (b:∀i j,i<m->j<n->dY M (t0.cf i j)) {r c:Nat} (f:r<m) (g:c<n):dY (lI M m) (t.cf r c*iE m t0 t):=by
 rw[<-h.Le f g];have:=@zm M ((t.basic.map (eT m t0)).set r (eT m t0 (t.fv c))) (ω m) (by simp[h.wf.basic]) λd a i _=>by
  rcases mem_set a with a|rfl
  ·obtain⟨v,_,rfl⟩:=Γ.1 a;exact zg e b h.wf0
  ·exact zg e b h.wf0
 simp_all
theorem dq.Qt (h:dq n m t0 t) {M:Nat} (b:1<=M) (c:∀i j,i<m->j<n->dY M (t0.cf i j)) (f:∀i,i<m->dY M (t0.bd i)) {r:Nat} (e:r<m):dY (lI M m) (t.bd r*iE m t0 t):=by
 rw[<-h.Ux e];have:=@zm M ((t.basic.map (eT m t0)).set r (vA m t0)) (ω m) (by simp[h.wf.basic]) λd a i g=>by
  rcases mem_set a with a|rfl
  ·obtain⟨v,_,rfl⟩:=Γ.1 a;exact zg b c h.wf0
  simp_all[vA]
 simp_all
end
structure o7 (n m:Nat) (t:Tb) (r c:Nat):Prop where
 hr:r<m
 hc:c<n
 cost:0<t.cs c
 least:∀j,j<n->0<t.cs j->t.fv c<=t.fv j
 pos:0<t.cf r c
 ratio:∀i,i<m->0<t.cf i c->t.bd r / t.cf r c<t.bd i / t.cf i c\/(t.bd r / t.cf r c=t.bd i / t.cf i c/\t.bv r<=t.bv i)
def jt (m:Nat) (t:Tb):Prop:=∀i,i<m->0<=t.bd i
section
variable {n m:Nat} {t t0:Tb} {r c:Nat}
theorem xZ (a b:Rat):a<=b\/b<a:=(Classical.em (a<=b)).imp id Rat.not_le.1
theorem div_mul {a b:Rat} (h:0<b):a / b*b=a:=by
 grind
theorem inv_pos {b:Rat} (h:0<b):0<1 / b:=by
 have c:(1 / b)*b=1:=div_mul h;rcases xZ (1 / b) 0 with a|a
 ·exfalso;have d:0<=(-(1 / b))*b:=δx (by grind) (by grind);grind
 ·exact a
theorem Ld {a b:Rat} (c:0<=a) (h:0<b):0<=a / b:=by
 grind[δx,inv_pos]
theorem o7.ge (h:o7 n m t r c) (a:jt m t):0<=t.bd r / t.cf r c:=Ld (a r h.hr) h.pos
theorem o7.vz (h:o7 n m t r c) (k:t.WF n m) (d:jt m t):jt m (eX t r c):=by
 intro i a;have f:=h.ge d;have e:t.bd r*(1 / t.cf r c)=t.bd r / t.cf r c:=by grind
 rw[zh k a,e];split;·exact f
 ·rcases xZ (t.cf i c) 0 with b|b
  ·have j:0<=(-(t.cf i c))*(t.bd r / t.cf r c):=δx (by grind) f;have:=d i a;grind
  ·have j:t.bd r / t.cf r c<=t.bd i / t.cf i c:=by
    rcases h.ratio i a b with g|g<;>grind
   have g:0<=t.cf i c*(t.bd i / t.cf i c - t.bd r / t.cf r c):=δx (by grind) (by grind);grind[div_mul]
theorem o7.value:(eX t r c).value=t.value+t.cs c*(t.bd r / t.cf r c):=by
 show t.value+t.cs c*(t.bd r*(1 / t.cf r c))=_;grind
theorem EU {b:Type}:∀(L:List b) (f:Nat->b),(∀k,f k∈L)->∃i j,i<j/\f i=f j
 |[],f,h=>by simp_all;|a::L,f,h=>by
  by_cases c:∃i,f i=a
  ·obtain⟨i,g⟩:=c;by_cases e:∃j,i<j/\f j=a;·grind
   ·obtain⟨x,y,d,l⟩:=EU L (λk=>f (k+i+1)) λk=>by
     grind
    grind
  ·exact EU L f λk=>by
    simp_all
def xY (V:List Int):Nat->List (List Int)
 |0=>[[]]
 |k+1=>(xY V k).flatMap λl=>V.map λv=>v::l
theorem Lc {V:List Int}:∀{l:List Int},(∀v∈l,v∈V)->l∈xY V l.length
 |[],_=>by simp[xY];|x::l,h=>by
  simp only[γK,xY,List.mem_flatMap,Γ];exact⟨l,Lc λv a=>h v (by simp[a]),x,h x (by simp),rfl⟩
theorem Ve {l:List Int} {r:Nat} {x v:Int} (a:r<l.length) (b:l.Nodup):v∈l.set r x↔v=x\/(v∈l/\v≠bN l r 0):=by
 grind[set_perm,bV,Uw]
theorem Lb {f:Nat->Int} {i:Nat}:∀{d:Nat},∃k,(i<=k/\k<=i+d)/\∀x,i<=x->x<=i+d->f x<=f k
 |0=>⟨i,by omega,λx a b=>by grind⟩
 |d+1=>by
  obtain⟨k,a,b⟩:=@Lb f i d;by_cases h:f k<=f (i+(d+1))
  ·refine⟨i+(d+1),by omega,λx c e=>?_⟩;grind
  ·refine⟨k,by omega,λx c e=>?_⟩;grind
theorem La:∀{n:Nat} {f:Nat->Rat},0<Ov n f->∃j,j<n/\0<f j
 |0,f,h=>by grind[Ov];|n+1,f,h=>by
  rcases xZ (f n) 0 with a|a
  ·obtain⟨j,c,b⟩:=@La n f (by grind[Ov]);grind
  grind
theorem sM (h:t.WF n m) {j:Nat} (a:j<n):t.fv j∈t.free:=by
 have b:j<t.free.length:=by rw[h.free];exact a
 grind[Tb.fv,bV]
theorem w9 (h:t.WF n m) {j:Nat} (a:j<m):t.bv j∈t.basic:=by
 have b:j<t.basic.length:=by rw[h.basic];exact a
 grind[Tb.bv,bV]
theorem sL (h:t.WF n m) {v:Int} (b:v∈t.free):∃j,j<n/\t.fv j=v:=by
 obtain⟨j,a,rfl⟩:=γJ b;exact⟨j,by rw[<-h.free];exact a,by grind[Tb.fv,bV]⟩
theorem vy (h:t.WF n m) {v:Int} (b:v∈t.basic):∃j,j<m/\t.bv j=v:=by
 obtain⟨j,a,rfl⟩:=γJ b;exact⟨j,by rw[<-h.basic];exact a,by grind[Tb.bv,bV]⟩
theorem ET (c:(t.basic++t.free).Nodup) {v:Int} (a:v∈t.basic) (b:v∈t.free):False:=(γx.1 c).2.2 _ a _ b rfl
theorem Vd (h:t.WF n m) (c:(t.basic++t.free).Nodup) {i j:Nat} (f:i<m) (d:j<m) (e:t.bv i=t.bv j):i=j:=by
 have a:=m_ (γx.1 c).1 (show i<t.basic.length by rw[h.basic];exact f);have b:=m_ (γx.1 c).1 (show j<t.basic.length by rw[h.basic];exact d);grind[Tb.bv]
theorem Vb (h:t.WF n m) (c:(t.basic++t.free).Nodup) {i j:Nat} (f:i<n) (d:j<n) (e:t.fv i=t.fv j):i=j:=by
 have a:=m_ (γx.1 c).2.1 (show i<t.free.length by rw[h.free];exact f);have b:=m_ (γx.1 c).2.1 (show j<t.free.length by rw[h.free];exact d);grind[Tb.fv]
theorem Va {T:Nat->Tb} {r c:Nat->Nat} (p:∀k,dq n m t0 (T k)) (hF:∀k,jt m (T k)) (B:∀k,o7 n m (T k) (r k) (c k)) (hT:∀k,T (k+1)=eX (T k) (r k) (c k)) {i j:Nat} (b8:i<j) (hb:(T i).basic=(T j).basic) (hf:(T i).free=(T j).free):False:=by
 have b7:(T i).value=(T j).value:=by
  have t:=((p j).sol _ _).2 (((p i).sol _ _).1 (asg_holds (p i).wf (p i).fm (y:=λ_=>0)));have e1:Ov n (λk=>(T i).cs k*(λ_=>(0:Rat)) k)=0:=by grind[gN]
  have e2:Ov n (λk=>(T j).cs k*iB n (T i) (λ_=>0) ((T j).fv k))=0:=by
   rw[cX (g:=λ_=>0) λk hk=>by
    have:(T j).fv k=(T i).fv k:=by grind[Tb.fv]
    rw[this,lC (p i).wf (p i).fm hk];grind,gN]
  have K:=t.2;grind
 have L:∀k,(T k).value<=(T (k+1)).value:=λk=>by
  rw[hT k,o7.value];have:=δx (a:=(T k).cs (c k)) (by have:=(B k).cost;grind) ((B k).ge (hF k));grind
 have S:∀d a,(T a).value<=(T (a+d)).value:=λd=>by
  induction d<;>grind
 have H:∀k,i<=k->k<j->(T k).bd (r k)=0:=λk t K=>by
  have a1:=S (k - i) i;have a2:=S (j - (k+1)) (k+1);rw[show i+(k - i)=k by omega] at a1;rw[show k+1+(j - (k+1))=j by omega] at a2;have a3:=L k;rw[hT k] at a2 a3;rw[o7.value] at a2 a3;have h3:=(B k).ge (hF k);have hc:=(B k).cost;have h4:=@div_mul ((T k).bd (r k)) _ (B k).pos;grind[Rat.mul_eq_zero]
 have b6:∀k,i<=k->k<j->∀v,v∈(T k).basic++(T k).free->iB n (T (k+1)) (λ_=>0) v=iB n (T k) (λ_=>0) v:=λk t K v O=>by
  have hw:=(p k).wf;have G:=(p (k+1)).wf;have hx:=((p (k+1)).sol _ _).2 (((p k).sol _ _).1 (asg_holds hw (p k).fm (y:=λ_=>0)));have hz:∀q,q<n->iB n (T k) (λ_=>0) ((T (k+1)).fv q)=0:=λq s=>by
   rw[hT k,EX hw (B k).hc];split
   ·rw[mc hw (p k).fm (B k).hr,H k t K,cX (g:=λ_=>0) λj _=>by grind,gN];grind
   ·rw[lC hw (p k).fm s]
  have A:v∈(T (k+1)).basic++(T (k+1)).free:=((p (k+1)).perm.trans (p k).perm.symm).mem_iff.2 O;rcases γi.1 A with A|A
  ·obtain⟨q,s,rfl⟩:=vy G A;have:=hx.1 q s;rw[cX (g:=λ_=>0) λj hj=>by simp_all,gN] at this;rw[mc G (p (k+1)).fm s,cX (g:=λ_=>0) λj _=>by grind,gN];grind
  ·obtain⟨q,s,rfl⟩:=sL G A;rw[hz q s,lC G (p (k+1)).fm s]
 have w:∀a b v,v∈(T a).basic++(T a).free->v∈(T b).basic++(T b).free:=λa b v O=>((p b).perm.trans (p a).perm.symm).mem_iff.2 O;have W:∀d a,i<=a->a+d<=j->∀v,v∈(T a).basic++(T a).free->iB n (T (a+d)) (λ_=>0) v=iB n (T a) (λ_=>0) v:=λd=>by
  induction d<;>grind
 have hA:∀a b,i<=a->a<=j->i<=b->b<=j->∀v,v∈(T a).basic++(T a).free->iB n (T a) (λ_=>0) v=iB n (T b) (λ_=>0) v:=λa b t K h3 h4 v O=>by
  have e1:=W (a - i) i (by omega) (by omega) v (w _ _ v O);have e2:=W (b - i) i (by omega) (by omega) v (w _ _ v O);simp_all
 have P:∀k v,v∈(T (k+1)).basic↔v=(T k).fv (c k)\/(v∈(T k).basic/\v≠(T k).bv (r k)):=λk v=>by
  rw[hT k];exact Ve (by rw[(p k).wf.basic];exact(B k).hr) (γx.1 (p k).fm).1
 have U:∀v a b,i<=a->a<=j->i<=b->b<=j->v∈(T a).basic->v∉(T b).basic->∃k,i<=k/\k<j/\(T k).fv (c k)=v:=λv a b a1 a2 b1 b2 ha a9=>by
  apply δc;intro Y;have I:∀d x,i<=x->x+d<=j->v∈(T (x+d)).basic->v∈(T x).basic:=λd=>by
   induction d<;>grind
  have t:=I (a - i) i (by omega) (by omega) (by simp_all);rw[hb] at t;exact a9 (I (j - b) b (by omega) (by omega) (by simp_all))
 obtain⟨l,⟨a6,b9⟩,a0⟩:=@Lb (λk=>(T k).fv (c k)) i (j - 1 - i);have J:∀x,i<=x->x<j->(T x).fv (c x)<=(T l).fv (c l):=λx t K=>a0 x t (by omega);have c2:l<j:=by omega
 have a7:(T l).fv (c l)∈(T l).free:=sM (p l).wf (B l).hc;have c0:(T l).fv (c l)∉(T l).basic:=λh=>ET (p l).fm h a7;obtain⟨o,F,Q,hl⟩:∃o,i<=o/\o<j/\(T o).bv (r o)=(T l).fv (c l):=by
  apply δc;intro Y;have up:∀d x,i<=x->x+d<=j->(T l).fv (c l)∈(T x).basic->(T l).fv (c l)∈(T (x+d)).basic:=λd=>by
   induction d with
   |zero=>intro x _ _ h;exact h;|succ d ih=>
    intro x t K h;exact(P (x+d) _).2 (.inr ⟨ih x t (by omega) h,λe=>Y ⟨x+d,by omega,by omega,e.symm⟩⟩)
  have t:=up (j - (l+1)) (l+1) (by omega) (by omega) ((P l _).2 (.inl rfl));rw[show l+1+(j - (l+1))=j by omega,<-hb] at t;have K:=up (l - i) i (by omega) (by omega) t;simp_all
 have w1:=(p l).wf;have C:=(p o).wf;have n1:=(p l).fm;have E:=(p o).fm;have p1:=B l;have N:=B o;have x1:=(((p l).sol _ _).2 (((p o).sol _ _).1 (asg_holds C E (y:=λq=>if q=c o then 1 else 0)))).2;have x0:=(((p l).sol _ _).2 (((p o).sol _ _).1 (asg_holds C E (y:=λ_=>0)))).2;rw[cX (f:=λq=>(T o).cs q*(λq=>if q=c o then(1:Rat) else 0) q) (g:=λq=>if q=c o then(T o).cs (c o) else 0) λq _=>by
  by_cases s:q=c o<;>grind,sN,if_pos N.hc] at x1;rw[cX (f:=λq=>(T o).cs q*(λ_=>(0:Rat)) q) (g:=λ_=>0) λq _=>by grind,gN] at x0;have hd:0<Ov n λq=>(T l).cs q*(iB n (T o) (λq=>if q=c o then 1 else 0) ((T l).fv q) - iB n (T o) (λ_=>0) ((T l).fv q)):=by
  rw[cX (g:=λq=>(T l).cs q*iB n (T o) (λq=>if q=c o then 1 else 0) ((T l).fv q)+(-1)*((T l).cs q*iB n (T o) (λ_=>0) ((T l).fv q))) λq _=>by grind,vB,sO];have:=N.cost;grind
 obtain⟨q,s,u⟩:=La hd;have a5:(T l).fv q∈(T l).free:=sM w1 s;have Z:=w l o _ (List.mem_append_right _ a5);rcases γi.1 Z with a4|X
 ·obtain⟨D,z,e⟩:=vy C a4;rw[<-e,mc C E z,mc C E z,cX (f:=λj=>(T o).cf D j*(λq=>if q=c o then(1:Rat) else 0) j) (g:=λj=>if j=c o then(T o).cf D (c o) else 0) (λj _=>by
   by_cases hj:j=c o<;>grind),sN,if_pos N.hc,cX (f:=λj=>(T o).cf D j*(λ_=>(0:Rat)) j) (g:=λ_=>0) (λj _=>by grind),gN] at u;have M:0<(T l).cs q*(-(T o).cf D (c o)):=by grind
  obtain⟨k3,b3,b5,h3⟩:=U _ o l F (by omega) a6 (by omega) a4 (λh=>ET n1 h a5);have b0:(T l).fv q<=(T l).fv (c l):=by grind
  rcases xZ ((T l).cs q) 0 with hs|hs
  ·have a8:0<(T o).cf D (c o):=by
    rcases xZ ((T o).cf D (c o)) 0 with h4|h4
    ·exfalso;have:=δx (a:= -(T l).cs q) (b:= -(T o).cf D (c o)) (by grind) (by grind);grind
    ·exact h4
   have b4:(T o).bd D=0:=by
    have V:=hA o l F (by omega) a6 (by omega) ((T l).fv q) Z;rw[lC w1 n1 s,<-e,mc C E z,cX (g:=λ_=>0) λj _=>by grind,gN] at V;grind
   have c1:=H o F Q;have hz:∀b:Rat,(0:Rat) / b=0:=λb=>by grind
   rcases N.ratio D z a8 with h6|h6;·simp_all
   ·have h7:(T l).fv (c l)<=(T l).fv q:=by omega
    have h8:=Vb w1 n1 s p1.hc (by omega);rw[h8] at hs;have:=p1.cost;grind
  ·have h7:=p1.least q s hs;have h8:D=r o:=Vd C E z N.hr (by omega);rw[h8] at M;have:=δx (a:=(T l).cs q) (b:=(T o).cf (r o) (c o)) (by grind) (by have:=N.pos;grind);grind
 ·obtain⟨q2,R,e⟩:=sL C X;rw[<-e,lC C E R,lC C E R] at u;by_cases V:q2=c o
  ·rw[if_pos V] at u;have h6:=p1.least q s (by grind);have h7:=J o F Q;rw[V] at e;have h8:(T l).fv (c l)=(T o).fv (c o):=by omega
   exact ET E (w9 C N.hr) (by grind)
  ·rw[if_neg V] at u;grind
end
open Go.Proofs.YtbnhiekmnpikhaaGreat.Ir
open Go.Proofs
def dK (x y:Int):Int:=(Nat.gcd x.toNat y.toNat:Nat)
theorem U_ {x y:Int} (h0:0<=x) (h1:0<y):dK y (x % y)=dK x y:=by
 unfold dK;congr 1;rw[Nat.gcd_comm x.toNat,Nat.gcd_rec y.toNat x.toNat,Nat.gcd_comm,Int.toNat_emod h0 (by omega)]
theorem U9 {x:Int} (h0:0<=x):dK x 0=x:=by unfold dK;simp;omega
theorem kO {i u v:Nat} (h:u=v):(γ1 i u 1).bi (γ1 i v 1):=by subst h;rfl
theorem K_ {l:List Int} (h:l=[]):(γa (.i .i64) []).bi (γa (.i .u32) l):=by subst h;rfl
def Qf (x y:Int):SV:=.Gz [.row (.i .u32) (bU (x - y)),.sb (decide (y<=x))]
theorem ES {n:Int} (h:n<=0):bU n=[]:=by
 unfold bU;rw[show n.toNat=0 by omega];rfl
def ER:NG:=⟨166,List Int×List Int,.cons (cO (.i .u32)) (.one (cO (.i .u32))),λa=>(ou a.1/\ou a.2)/\a.1.length<=100000000000/\a.2.length<=100000000000,
 λa=>Qf (bX a.1) (bX a.2)⟩
def U8 (a:List Int×List Int):Nat->bJ
 |7=> .inv (Int×Int×List Int) (λx=>⟨[(0,.row (.i .u32) (IL a.1)),(1,.row (.i .u32) (IL a.2)),(6,.ow 0 x.2.2.length 1),(7,.si .u64 x.2.1),(22,.si .i64 (IL a.1).length),(23,.si .i64 x.1)],[.row (.i .u32) x.2.2 172 true]⟩)
  (λs=>(iS s 23,iS s 7,oS (.i .u32) s 0))
  (λx=>(0<=x.1/\x.1<=(IL a.1).length)/\(0<=x.2.1/\x.2.1<=1)/\ou x.2.2/\x.2.2.length=(IL a.1).length/\(∀j,x.1.toNat<=j->bN x.2.2 j 0=0)/\
   bX x.2.2 - 4294967296^x.1.toNat*x.2.1=bX ((IL a.1).take x.1.toNat) - bX ((IL a.2).take x.1.toNat)) (λx=>((IL a.1).length - x.1).toNat) λ_ _=> .look
 |_=> .look
theorem LZ {s t row:List Int} {i:Nat} {br d v c:Int} (hs:ou s) (ht:ou t) (hr:ou row) (hl:row.length=s.length) (hz:∀j,i<=j->bN row j 0=0)
  (hv:bX row - 4294967296^i*br=bX (s.take i) - bX (t.take i)) (hi:i<s.length) (hd:d=bN s i 0 - br - bN t i 0) (h0:0<=v/\v<4294967296) (hc:v - 4294967296*c=d):
  ou (row.set i v)/\(row.set i v).length=s.length/\(∀j,i+1<=j->bN (row.set i v) j 0=0)/\bX (row.set i v) - 4294967296^(i+1)*c=bX (s.take (i+1)) - bX (t.take (i+1)):=by
 refine⟨lL hr h0.1 h0.2,by simp[hl],λj hj=>by rw[nN (by omega)];exact hz j (by omega),?_⟩;rw[rF (by omega),kU,kU,hz i (π _),γW,ζi];have h1:(4294967296:Int)^i*(v - 4294967296*c)=4294967296^i*(bN s i 0 - br - bN t i 0):=by rw[hc,hd]
 simp only[Int.mul_sub] at h1;rw[<-δn] at h1;omega
theorem IJ:Holds Tryz.prog ER:=by
 refine bM (L:=[pH,vN]) ER U8 (by simpa using⟨kX,qV⟩) ?_;rintro⟨a,b⟩ ⟨⟨ha,hb⟩,hla,hlb⟩;simp only at ha hb hla hlb;refine NI (let c:=(0:Int);let d:=(18446744073709551616:Int);let e:=γa;let f:=(4294967296:Int);let g:=γj .i64;let h:=(1:Int);let k:=γ1;let l:=SV.Gz;let z0:Nat:=(IL a).length;let B:=decide (kV (bX (IL a)) (bX (IL b))<c);let m:=ew.i .u32;let C:=l [e m (bU (bX a - bX b)),γB (decide (bX b<=bX a))];let o:=(↑(IL a).length:Int);let q:=δ o.toNat c;let p:=(↑z0:Int);let z:=g p;let D:=iZ.row m q 172 true;let A:=(↑(IL b).length:Int);a.length<=1000000000000/\b.length<=1000000000000/\((ou (IL a)/\ou (IL b))/\z0<=1000000000000/\(IL b).length<=1000000000000)/\(B=true->(l [e (ew.i .i64) [],SV.bl false]).bi C)/\(B=false->c<=o/\o<=o/\o*(4:Int)<=(140737488355328:Int)/\o<=(1000000000000:Int)/\((((e m (IL a)).bi (e m (IL a))/\(e m (IL b)).bi (e m (IL b))/\(k 0 o.toNat 1).bi (k 0 q.length 1)/\(γC .u64 0).bi (γj .u64 0)/\(g o).bi z/\(γC .i64 0).bi (g 0)/\True)/\D.bi D/\True)/\(c<=c/\c<=p)/\(c<=c/\c<=h)/\ou q/\q.length=z0/\(∀(j:Nat),0<=j->bN q j c=c)/\bX q - c=c)/\∀(x:Int×Int×List Int),let r:=x.2.2.length;let v:=x.2.2.length;let n:=x.1.toNat;let s:=x.1+h;let E:=g s;let w:=s.toNat;let F:=bN (IL a) n c;let G:=λ(u u_1:Int) ↦let H:=(u % d - u_1) % d;let t:=x.2.2.set n (H % f);let y:=H / (9223372036854775808:Int);let I:=γj .u64 y;let J:=iZ.row m t 172 true;c<=(63:Int)/\(63:Int)<=(64:Int)/\r=v/\c<=x.1/\x.1<(↑v:Int)/\r=v/\n<v/\VL .i64 s/\(((e m (IL a)).bi (e m (IL a))/\(e m (IL b)).bi (e m (IL b))/\(k 0 r 1).bi (k 0 t.length 1)/\I.bi I/\z.bi z/\E.bi E/\True)/\J.bi J/\True)/\((c<=s/\s<=p)/\(c<=y/\y<=h)/\ou t/\t.length=z0/\(∀(j:Nat),w<=j->bN t j c=c)/\bX t - f^w*y=bX (Δ w (IL a)) - bX (Δ w (IL b)))/\(p - s).toNat<(p - x.1).toNat;(c<=x.1/\x.1<=p)/\(c<=x.2.1/\x.2.1<=h)/\ou x.2.2/\r=z0/\(∀(j:Nat),n<=j->bN x.2.2 j c=c)/\bX x.2.2 - f^n*x.2.1=bX (Δ n (IL a)) - bX (Δ n (IL b))->(decide (x.1<p)=true->c<=x.1/\x.1<o/\n<(IL a).length/\(decide (x.1<A)=true->c<=x.1/\x.1<A/\n<(IL b).length/\G (F % d - x.2.1) (bN (IL b) n c % d))/\(decide (x.1<A)=false->G F x.2.1))/\(decide (x.1<p)=false->r=v/\r<=1000000000000/\(l [e m (IL x.2.2),SV.bl true]).bi C))) (by kernel_rfl) ?_;simp only[vcs];obtain⟨va,na⟩:=@pG a;obtain⟨vb,nb⟩:=@pG b;have da:=qs ha;have db:=qs hb;have la:=@rG a;have lb:=@rG b;have pa:=ek da;have pb:=ek db;rw[<-va,<-vb];generalize IL a=s at*;generalize IL b=t at*;have hr0:∀n j,bN (δ n (0:Int)) j 0=0:=λn j=>by
  unfold bN;rw[εD];split<;>rfl
 have hd0:∀n,ou (δ n 0):=λn d hd=>by
  have:=δ2 hd;omega
 have hv0:∀n,bX (δ n 0)=0:=λn=>by
  induction n with
  |zero=>rfl;|succ n ih=>simp only[δo,bX,ih];omega
 refine⟨by omega,by omega,⟨⟨da,db⟩,by omega,by omega⟩,λhlt=>?_,λhge=>⟨by omega,by omega,by omega,by omega,?_,?_⟩⟩
 ·have hlt2:bX s<bX t:=by unfold kV at hlt;split at hlt<;>(try split at hlt)<;>omega
  refine⟨K_ (ES (by omega)),?_⟩;rw[eq_comm,decide_eq_false_iff_not];omega
 ·repeat' refine γm ?_ ?_
  all_goals first|omega|exact kO (by simp)|exact hd0 _|exact λj _=>hr0 _ j|(simp;done)|(rw[hv0];rfl)
 have ayY:bX t<=bX s:=by unfold kV at hge;split at hge<;>(try split at hge)<;>omega
 rintro⟨i,br,row⟩ ⟨⟨i0,i1⟩,⟨b0,b1⟩,hr,hl,hz,hv⟩;simp only at i0 i1 b0 b1 hr hl hz hv ⊢;refine⟨λilt=>?_,λige=>?_⟩
 ·have d1:=dC da i.toNat;have d2:=dC db i.toNat;have e:(i+1).toNat=i.toNat+1:=by omega
  refine⟨i0,ilt,by omega,λht=>?_,λht=>?_⟩
  ·generalize hq:((bN s i.toNat 0 % 18446744073709551616 - br) % 18446744073709551616 - bN t i.toNat 0 % 18446744073709551616) % 18446744073709551616=q;obtain⟨k1,k2,k3,k4⟩:=LZ (v:=q % 4294967296) (c:=q / 9223372036854775808) da db hr hl hz hv (by omega) rfl (by omega) (by omega);rw[e];repeat' refine γm ?_ ?_
   all_goals first|omega|exact kO (by simp)|exact k1|exact k2|exact k3|exact k4
  ·have hz2:=zz (a:=t) (i:=i.toNat) (by omega);generalize hq:(bN s i.toNat 0 % 18446744073709551616 - br) % 18446744073709551616=q;obtain⟨k1,k2,k3,k4⟩:=LZ (v:=q % 4294967296) (c:=q / 9223372036854775808) da db hr hl hz hv (by omega) rfl (by omega) (by omega);rw[e];repeat' refine γm ?_ ?_
   all_goals first|omega|exact kO (by simp)|exact k1|exact k2|exact k3|exact k4
 ·have hi:i.toNat=s.length:=by omega
  have hlen:t.length<=s.length:=by
   by_cases h:s.length<t.length
   ·have:=vO da db nb h;omega
   ·omega
  rw[hi,φ,List.take_of_length_le hlen] at hv;have hbd:=mQ hr;have hp:=pow_pos s.length;rw[hl] at hbd;have hb0:br=0:=by
   by_cases h:br=0;·exact h
   ·have:br=1:=by omega
    subst this;omega
  rw[hb0,δM,ζi] at hv;refine⟨by omega,?_,?_⟩;·rw[oq hr,hv]
  ·rw[eq_comm,decide_eq_true_eq];exact ayY
theorem LY {n j:Nat}:bN (δ n (0:Int)) j 0=0:=by
 unfold bN;rw[εD];split<;>rfl
theorem w8 {n:Nat}:ou (δ n 0):=λd hd=>by
 have:=δ2 hd;omega
theorem vx:∀{n:Nat},bX (δ n 0)=0
 |0=>rfl
 |n+1=>by simp only[δo,bX,@vx n];omega
theorem U7 {o b:List Int} {x:Int} {i k:Nat}:gk o b x i (k+1)=((gk o b x i k).1.set (i+k) ((x*bN b k 0+bN (gk o b x i k).1 (i+k) 0+(gk o b x i k).2) % 4294967296),(x*bN b k 0+bN (gk o b x i k).1 (i+k) 0+(gk o b x i k).2) / 4294967296):=rfl
def vu:NG:=⟨164,List Int×List Int,.cons (cO (.i .u32)) (.one (cO (.i .u32))),λa=>(ou a.1/\ou a.2)/\a.1.length<=100000000000/\a.2.length<=100000000000,
 λa=> .row (.i .u32) (bU (bX a.1*bX a.2))⟩
def stM (a:List Int×List Int) (row:List Int):TP:=[.row (.i .u32) row 172 true]
def U6 (a:List Int×List Int):Nat->bJ
 |3=> .inv (Int×List Int) (λx=>⟨[(0,.row (.i .u32) a.1),(1,.row (.i .u32) a.2),(5,.ow 0 x.2.length 1),(17,.si .i64 a.1.length),(18,.si .i64 x.1)],stM a x.2⟩)
  (λs=>(iS s 18,oS (.i .u32) s 0))
  (λx=>(0<=x.1/\x.1<=a.1.length)/\ou x.2/\x.2.length=a.1.length+a.2.length/\bX x.2=bX (a.1.take x.1.toNat)*bX a.2) (λx=>(a.1.length - x.1).toNat)
  λx=>λ
   |7=> .inv (Int×Int×List Int) (λy=>⟨[(0,.row (.i .u32) a.1),(1,.row (.i .u32) a.2),(5,.ow 0 y.2.2.length 1),(6,.si .i64 x.1),(7,.si .u64 y.2.1),(17,.si .i64 a.1.length),(18,.si .i64 x.1),(22,.si .i64 a.2.length),(23,.si .i64 y.1)],stM a y.2.2⟩)
    (λs=>(iS s 23,iS s 7,oS (.i .u32) s 0))
    (λy=>(0<=y.1/\y.1<=a.2.length)/\y.2.2=(gk x.2 a.2 (bN a.1 x.1.toNat 0) x.1.toNat y.1.toNat).1/\y.2.1=(gk x.2 a.2 (bN a.1 x.1.toNat 0) x.1.toNat y.1.toNat).2) (λy=>(a.2.length - y.1).toNat) λ_ _=> .look
   |_=> .look
 |_=> .look
theorem qU:Holds Tryz.prog vu:=by
 refine bM (L:=[pH]) vu U6 (by simpa using kX) ?_;rintro⟨a,b⟩ ⟨⟨ha,hb⟩,hla,hlb⟩;simp only at ha hb hla hlb;refine NI (let c:=(18446744073709551616:Int);let d:=(0:Int);let e:=γa;let f:=γj .i64;let g:=(4294967296:Int);let h:=VL .i64;let j:=γ1;let k:=γC .i64 0;let l:=iZ.row;let F:=(↑a.length:Int);let z:=(↑b.length:Int);let p:=F+z;let m:=ew.i .u32;let A:=δ p.toNat d;let q:=(↑a.length:Int);let t:=f q;let J:=l m A 172 true;let G:=a.length+b.length;let r:=(↑b.length:Int);let H:=f r;h p/\d<=p/\p<=p/\p*(4:Int)<=(140737488355328:Int)/\p<=(1000000000000:Int)/\((((e m a).bi (e m a)/\(e m b).bi (e m b)/\(j 0 p.toNat 1).bi (j 0 A.length 1)/\(f F).bi t/\(k).bi (f 0)/\True)/\J.bi J/\True)/\(d<=d/\d<=q)/\ou A/\A.length=G/\bX A=bX []*bX b)/\∀(x:Int×List Int),let C:=x.2.length;let v:=x.1.toNat;let K:=j 0 C 1;let s:=f x.1;let L:=l m x.2 172 true;let D:=bN a v d;let M:=gk x.2 b D v 0;let w:=x.1+(1:Int);let N:=f w;(d<=x.1/\x.1<=q)/\ou x.2/\C=G/\bX x.2=bX (Δ v a)*bX b->(decide (x.1<q)=true->((((e m a).bi (e m a)/\(e m b).bi (e m b)/\K.bi K/\s.bi s/\(γC .u64 0).bi (γj .u64 0)/\t.bi t/\s.bi s/\(f z).bi H/\(k).bi (f 0)/\True)/\L.bi L/\True)/\(d<=d/\d<=r)/\x.2=M.1/\d=M.2)/\∀(x_1:Int×Int×List Int),let O:=gk x.2 b D v x_1.1.toNat;let o:=x.1+x_1.1;let n:=x_1.2.2.length;let y:=x_1.1+(1:Int);let P:=j 0 x_1.2.2.length 1;let I:=((D % c*(bN b x_1.1.toNat d % c) % c+bN x_1.2.2 o.toNat d % c) % c+x_1.2.1) % c;let Q:=x_1.2.2.set o.toNat (I % g);let R:=I / g;let S:=γj .u64 R;let T:=f y;let U:=gk x.2 b D v y.toNat;let B:=x.1+z;let E:=x_1.2.2.set B.toNat (x_1.2.1 % g);let V:=λ(u u_1:Int) ↦let W:=l m (x_1.2.2.set (x.1+u).toNat (u_1 % g)) 172 true;W.bi W/\True;(d<=x_1.1/\x_1.1<=r)/\x_1.2.2=O.1/\x_1.2.1=O.2->(decide (x_1.1<r)=true->d<=x.1/\x.1<F/\v<a.length/\d<=x_1.1/\x_1.1<z/\x_1.1.toNat<b.length/\h o/\x_1.2.2.length=n/\d<=o/\o<(↑n:Int)/\x_1.2.2.length=n/\o.toNat<n/\h o/\d<=(32:Int)/\(32:Int)<=(64:Int)/\x_1.2.2.length=n/\d<=o/\o<(↑n:Int)/\x_1.2.2.length=n/\o.toNat<n/\h y/\(((e m a).bi (e m a)/\(e m b).bi (e m b)/\P.bi (j 0 Q.length 1)/\s.bi s/\S.bi S/\t.bi t/\s.bi s/\H.bi H/\T.bi T/\True)/\V x_1.1 I)/\((d<=y/\y<=r)/\Q=U.1/\R=U.2)/\(r - y).toNat<(r - x_1.1).toNat)/\(decide (x_1.1<r)=false->h B/\x_1.2.2.length=n/\d<=B/\B<(↑n:Int)/\x_1.2.2.length=n/\B.toNat<n/\h w/\(((e m a).bi (e m a)/\(e m b).bi (e m b)/\P.bi (j 0 E.length 1)/\t.bi t/\N.bi N/\True)/\V z x_1.2.1)/\((d<=w/\w<=q)/\ou E/\E.length=G/\bX E=bX (Δ w.toNat a)*bX b)/\(q - w).toNat<(q - x.1).toNat))/\(decide (x.1<q)=false->C=x.2.length/\C<=1000000000000/\(e m (IL x.2)).bi (e m (bU (bX a*bX b))))) (by kernel_rfl) ?_;simp only[vcs];refine⟨by omega,by omega,by omega,by omega,by omega,?_,?_⟩
 ·repeat' refine γm ?_ ?_
  all_goals first|omega|exact kO (by simp)|exact w8|(simp;omega)|(rw[vx];simp[bX])
 rintro⟨i,row⟩ ⟨⟨i0,i1⟩,hr,hl,hv⟩;simp only at i0 i1 hr hl hv ⊢;refine⟨λilt=>⟨⟨⟨by omega,by omega⟩,rfl,rfl⟩,?_⟩,λige=>?_⟩
 ·rintro⟨k,c,ro⟩ ⟨⟨k0,k1⟩,e1,e2⟩;simp only at k0 k1 e1 e2 ⊢;have x1:=dC ha i.toNat;obtain⟨m1,m2,⟨m3,m4⟩,m5,m6⟩:=@M4 row b (bN a i.toNat 0) i.toNat hr hb x1.1 x1.2 k.toNat (by omega);have hp:=@U7 row b (bN a i.toNat 0) i.toNat k.toNat;generalize gk row b (bN a i.toNat 0) i.toNat k.toNat=M at*;obtain⟨p,q⟩:=M;simp only at e1 e2 m1 m2 m3 m4 m5 m6 hp;subst e1 e2;have hik:(i+k).toNat=i.toNat+k.toNat:=by omega
  have hk1:(k+1).toNat=k.toNat+1:=by omega
  have hi1:(i+1).toNat=i.toNat+1:=by omega
  refine⟨λklt=>?_,λkge=>?_⟩
  ·have x2:=dC hb k.toNat;have x3:=dC m1 (i.toNat+k.toNat);have hxb:0<=bN a i.toNat 0*bN b k.toNat 0:=γy x1.1 x2.1;have aY7:bN a i.toNat 0*bN b k.toNat 0<=4294967295*4294967295:=Int.mul_le_mul (by omega) (by omega) x2.1 (by omega);rw[hik,hk1,hp];have hq:(((bN a i.toNat 0 % 18446744073709551616*(bN b k.toNat 0 % 18446744073709551616) % 18446744073709551616+bN ro (i.toNat+k.toNat) 0 % 18446744073709551616) % 18446744073709551616+c) % 18446744073709551616)=bN a i.toNat 0*bN b k.toNat 0+bN ro (i.toNat+k.toNat) 0+c:=by
    rw[δO (a:=bN a i.toNat 0) (by omega) (by omega),δO (a:=bN b k.toNat 0) (by omega) (by omega)];omega
   rw[hq];repeat' refine γm ?_ ?_
   all_goals first|omega|exact kO (by simp)|rfl
  ·have hkl:k.toNat=b.length:=by omega
   rw[show(i+(b.length:Int)).toNat=i.toNat+b.length by omega];rw[hkl,φ] at m6;rw[hkl] at m5;have hz:bN ro (i.toNat+b.length) 0=0:=by
    rw[m5 _ (π _)];refine xM hr (i:=i.toNat+b.length) ?_ (π _);rw[hv,δ9];have t1:=mQ (lM ha i.toNat);rw[γz,εh (by omega)] at t1;have t2:=mQ hb;have t3:=ek (lM ha i.toNat);have t4:=ek hb;exact εJ (Φ (γg t2) t3) (γ5 t1 (pow_pos _))
   have hc:c % 4294967296=c:=by omega
   rw[hc,hi1];have hfin:bX (ro.set (i.toNat+b.length) c)=bX (a.take (i.toNat+1))*bX b:=by
    rw[rF (by omega),hz,ζi,m6,hv,kU,Int.add_mul,δn]
   repeat' refine γm ?_ ?_
   all_goals first|omega|exact kO (by simp)|exact lL m1 m3 m4|exact hfin|(rw[Ω];omega)
 ·have hi:i.toNat=a.length:=by omega
  rw[hi,φ] at hv;refine⟨by omega,?_⟩;rw[oq hr,hv]
theorem LX {x m:Int} {k:Nat} (p:0<=x) (t:x<2^k) (o:0<=m) (j:m*2^k<4294967296) (u:x<4294967296):gd.orI .u32 x (m*2^k)=x+m*2^k:=by
 obtain⟨a,rfl⟩:=δJ p;obtain⟨b,rfl⟩:=δJ o;have e:((b:Int)*2^k)=((2^k*b:Nat):Int):=by grind
 have h:a<2^k:=by grind
 rw[e] at j ⊢;generalize i:2^k*b=c at*;have d:c<4294967296:=by omega
 have f:a<4294967296:=by omega
 have q:(γt 32 ((a:Nat):Int)).toNat=a:=by simp_all
 have r:(γt 32 ((c:Nat):Int)).toNat=c:=by simp_all
 have g:a |||c=a+c:=by
  rw[Nat.or_comm,<-i,<-Nat.two_pow_add_eq_or_of_lt h];omega
 have l:a+c<4294967296:=by
  rw[<-g];exact Nat.or_lt_two_pow (n:=32) f d
 have s:(γt 32 ((a:Nat):Int) |||γt 32 ((c:Nat):Int)).toNat=a+c:=by
  grind
 show ed .u32 ((γt 32 ((a:Nat):Int) |||γt 32 ((c:Nat):Int)).toNat:Nat)=_;grind[rn,IntKind.wrap,IntKind.bits,IntKind.signed]
theorem EP:∀{l:List Int} {i:Nat},ou l->4294967296^i*bN l i 0<=bX l
 |[],i,_=>by simp[bN,bX];|d::l,0,h=>by
  obtain⟨b,a⟩:=iF.1 h;have:=ek a;grind[bN,bX];|d::l,i+1,h=>by
  obtain⟨b,a⟩:=iF.1 h;have:=@EP l i a;have e:bN (d::l) (i+1) 0=bN l i 0:=by simp[bN]
  rw[e,γW,δ5 (4294967296^i),δn];grind[bX]
theorem LW {a b:List Int} {i k:Nat} (n:ou a) (e:ou b) (F:b.length=a.length+1) (G:i<a.length) (u:k<=31) (q:bX b=bX (a.take i)*2^k):
  ou ((b.set i (gd.orI .u32 (bN b i 0) (bN a i 0 % 18446744073709551616*2^k % 18446744073709551616 % 4294967296))).set (i+1) (bN a i 0 % 18446744073709551616*2^k % 18446744073709551616 / 4294967296 % 4294967296))/\
  bX ((b.set i (gd.orI .u32 (bN b i 0) (bN a i 0 % 18446744073709551616*2^k % 18446744073709551616 % 4294967296))).set (i+1) (bN a i 0 % 18446744073709551616*2^k % 18446744073709551616 / 4294967296 % 4294967296))=bX (a.take (i+1))*2^k:=by
 have x:=dC n i;have r:=dC e i;have c:(0:Int)<2^k:=δR (by decide);have A:(2:Int)^k<=2147483648:=by
  have D:(2:Nat)^k<=2^31:=δt (by decide) u;grind
 have w:(4294967296:Int)=2^(32 - k)*2^k:=by
  rw[<-δ9,show 32 - k+k=32 by omega];decide
 have B:(0:Int)<2^(32 - k):=δR (by decide);have v:0<=bN a i 0*2^k:=γy x.1 (γg c);have H:bN a i 0*2^k<4294967296*2^k:=γ5 x.2 c;have z:bN a i 0 % 18446744073709551616*2^k % 18446744073709551616=bN a i 0*2^k:=by
  rw[δO (a:=bN a i 0) (by omega) (by omega),δO v (by omega)]
 have o:bN a i 0*2^k % 4294967296=(bN a i 0 % 2^(32 - k))*2^k:=by
  conv=>lhs;rw[w]
  rw[δ5 (bN a i 0),δ5 (2^(32 - k)),ζG _ _ c,δ5]
 have p:=δQ (bN a i 0) (show(2:Int)^(32 - k)≠0 by omega);have E:=δr (bN a i 0) B;have s:=pow_pos i;have d:bX b<4294967296^i*2^k:=by
  rw[q];have:=mQ (lM n i);rw[γz,εh (by omega)] at this;simp_all
 have h:bN b i 0<2^k:=εt (εJ (EP e) d) (γg s);have m:bN b (i+1) 0=0:=by
  refine xM e (i:=i+1) ?_ (π _);rw[γW];exact εG d (Φ (by omega) (γg s))
 have f:(bN a i 0 % 2^(32 - k))*2^k+2^k<=4294967296:=by
  have:(bN a i 0 % 2^(32 - k)+1)*2^k<=2^(32 - k)*2^k:=γX (by omega) (γg c);grind
 have l:0<=(bN a i 0 % 2^(32 - k))*2^k:=γy p (γg c);have g:=LX (k:=k) r.1 h p (by omega) r.2;rw[z,o,g];generalize y:bN a i 0*2^k=t at*;have j:(bN a i 0 % 2^(32 - k))*2^k=t % 4294967296:=o.symm;rw[j] at f l ⊢;refine⟨lL (lL e (by omega) (by omega)) (by omega) (by omega),?_⟩;rw[rF (by simp;omega),rF (by omega),nN (by omega),m,kU,Int.add_mul,δn,y,q,γW];have C:t / 4294967296 % 4294967296=t / 4294967296:=by omega
 grind
def shl (a:List Int) (k:Nat):List Int:=gl (a.length+1) (bX a*2^k)
abbrev P6:=List Int×Int
def wD (a:P6):Prop:=ou a.1/\a.1.length<=100000000000/\0<=a.2/\a.2<=31
def EO:NG:=⟨187,List Int×Int,.cons (cO (.i .u32)) (.one (dX .u64)),wD,λa=> .row (.i .u32) (shl a.1 a.2.toNat)⟩
def EN:cU where
 f:=187;α:=List Int×Int;put a:=[.row (.i .u32) a.1,.si .u64 a.2];st _:=[];dec v o:=match v,o with
  |[v,m],[]=>match iH (.i .u32) v,m.int .u64 with
   |some p,some m=>some (p,m)
   |_,_=>none
  |_,_=>none;ok v o a h:=by
  split at h
  ·split at h
   ·rename_i h1 h2;simp only[γ] at h;subst h;exact⟨by simp only[gL,nl h1,gT h2];rfl,rfl⟩
   ·cases h
  ·cases h
 inj a b h _:=by
  simp only[gL,List.cons.injEq,and_true] at h;have h2:=h.2;simp only[SV.g,AV.sc.injEq,Value.int.injEq,true_and] at h2;exact εE ((cO (.i .u32)).inj _ _ h.1) h2
 dom:=wD;res a:=.ow 0 (shl a.1 a.2.toNat).length 1;out a:=[.row (.i .u32) (shl a.1 a.2.toNat) 172 false]
def LV (a:P6):Nat->bJ
 |3=> .inv (Int×List Int) (λx=>⟨[(0,.row (.i .u32) a.1),(1,.si .u64 a.2),(5,.ow 0 x.2.length 1),(13,.si .i64 a.1.length),(14,.si .i64 x.1)],[.row (.i .u32) x.2 172 false]⟩)
  (λs=>(iS s 14,oS (.i .u32) s 0))
  (λx=>(0<=x.1/\x.1<=a.1.length)/\ou x.2/\x.2.length=a.1.length+1/\bX x.2=bX (a.1.take x.1.toNat)*2^a.2.toNat) (λx=>(a.1.length - x.1).toNat) λ_ _=> .look
 |_=> .look
theorem IG:dB Tryz.prog EN:=by
 refine Ft (L:=[]) (W:=[]) EN (λ_=>none) LV (by simp) (by simp) ?_;rintro⟨a,s⟩ ⟨ha,hla,s0,s1⟩;simp only at ha hla s0 s1;refine NI (let b:=(0:Int);let c:=(18446744073709551616:Int);let d:=(4294967296:Int);let e:=γj .i64;let f:=iZ.row;let g:=VL .i64;let h:=γa;let j:=γ1;let w:=(↑a.length:Int);let o:=w+(1:Int);let l:=ew.i .u32;let r:=b::δ a.length b;let m:=(↑a.length:Int);let y:=e m;let A:=f l r 172 false;let z:=a.length+1;let u:=(2:Int)^s.toNat;g o/\b<=o/\o<=o/\o*(4:Int)<=(140737488355328:Int)/\o<=(1000000000000:Int)/\((((h l a).bi (h l a)/\(γj .u64 s).bi (γj .u64 s)/\(j 0 o.toNat 1).bi (j 0 r.length 1)/\(e w).bi y/\(γC .i64 0).bi (e 0)/\True)/\A.bi A/\True)/\(b<=b/\b<=m)/\ou r/\r.length=z/\bX r=bX []*u)/\∀(x:Int×List Int),let p:=x.2.length;let q:=x.1.toNat;let B:=bN a q b % c*u % c;let v:=x.2.set q (gd.orI .u32 (bN x.2 q b) (B % d));let n:=x.2.length;let k:=x.1+(1:Int);let C:=j 0 p 1;let t:=v.set k.toNat (B / d % d);let D:=e k;let E:=f l t 172 false;let F:=p=v.length;(b<=x.1/\x.1<=m)/\ou x.2/\p=z/\bX x.2=bX (Δ q a)*u->(decide (x.1<m)=true->b<=x.1/\x.1<w/\q<a.length/\b<=s/\s<=(64:Int)/\p=n/\b<=x.1/\x.1<(↑n:Int)/\p=n/\q<n/\p=n/\b<=x.1/\x.1<(↑n:Int)/\p=n/\q<n/\g k/\b<=(32:Int)/\(32:Int)<=(64:Int)/\F/\b<=k/\k<(↑v.length:Int)/\F/\k.toNat<v.length/\g k/\(((h l a).bi (h l a)/\(γj .u64 s).bi (γj .u64 s)/\C.bi (j 0 t.length 1)/\y.bi y/\D.bi D/\True)/\E.bi E/\True)/\((b<=k/\k<=m)/\ou t/\t.length=z/\bX t=bX (Δ k.toNat a)*u)/\(m - k).toNat<(m - x.1).toNat)/\(decide (x.1<m)=false->C.bi (j 0 (shl a s.toNat).length 1)/\(f l x.2 172 false).bi (f l (shl a s.toNat) 172 false)/\True)) (by kernel_rfl) ?_;simp only[vcs];refine⟨by omega,by omega,by omega,by omega,by omega,?_,?_⟩
 ·repeat' refine γm ?_ ?_
  all_goals first|omega|exact kO (by simp)|exact iF.2 ⟨by omega,w8⟩|(simp;done)|(simp only[bX,vx];omega)
 rintro⟨i,row⟩ ⟨⟨i0,i1⟩,hr,hl,hv⟩;simp only at i0 i1 hr hl hv ⊢;refine⟨λilt=>?_,λige=>?_⟩
 ·obtain⟨k1,k2⟩:=LW ha hr hl (show i.toNat<a.length by omega) (show s.toNat<=31 by omega) hv;have e:(i+1).toNat=i.toNat+1:=by omega
  rw[e];repeat' refine γm ?_ ?_
  all_goals first|omega|exact kO (by simp)|(simp only[Ω];done)|(simp only[Ω];omega)|exact k1|exact k2
 ·have hi:i.toNat=a.length:=by omega
  rw[hi,φ] at hv;have hrow:row=shl a s.toNat:=FD hr hl hv;rw[hrow];exact⟨rfl,rfl⟩
theorem y7:Holds Tryz.prog EO:=by
 refine bM (L:=[]) EO LV (by simp) ?_;rintro⟨a,s⟩ ⟨ha,hla,s0,s1⟩;simp only at ha hla s0 s1;refine NI (let b:=(0:Int);let c:=(18446744073709551616:Int);let d:=(4294967296:Int);let e:=γj .i64;let f:=γa;let g:=VL .i64;let h:=γ1;let v:=(↑a.length:Int);let o:=v+(1:Int);let l:=ew.i .u32;let q:=b::δ a.length b;let m:=(↑a.length:Int);let w:=e m;let z:=iZ.row l q 172 false;let y:=a.length+1;let t:=(2:Int)^s.toNat;g o/\b<=o/\o<=o/\o*(4:Int)<=(140737488355328:Int)/\o<=(1000000000000:Int)/\((((f l a).bi (f l a)/\(γj .u64 s).bi (γj .u64 s)/\(h 0 o.toNat 1).bi (h 0 q.length 1)/\(e v).bi w/\(γC .i64 0).bi (e 0)/\True)/\z.bi z/\True)/\(b<=b/\b<=m)/\ou q/\q.length=y/\bX q=bX []*t)/\∀(x:Int×List Int),let n:=x.2.length;let p:=x.1.toNat;let A:=bN a p b % c*t % c;let u:=x.2.set p (gd.orI .u32 (bN x.2 p b) (A % d));let k:=x.2.length;let j:=x.1+(1:Int);let r:=u.set j.toNat (A / d % d);let B:=e j;let C:=iZ.row l r 172 false;let D:=n=u.length;(b<=x.1/\x.1<=m)/\ou x.2/\n=y/\bX x.2=bX (Δ p a)*t->(decide (x.1<m)=true->b<=x.1/\x.1<v/\p<a.length/\b<=s/\s<=(64:Int)/\n=k/\b<=x.1/\x.1<(↑k:Int)/\n=k/\p<k/\n=k/\b<=x.1/\x.1<(↑k:Int)/\n=k/\p<k/\g j/\b<=(32:Int)/\(32:Int)<=(64:Int)/\D/\b<=j/\j<(↑u.length:Int)/\D/\j.toNat<u.length/\g j/\(((f l a).bi (f l a)/\(γj .u64 s).bi (γj .u64 s)/\(h 0 n 1).bi (h 0 r.length 1)/\w.bi w/\B.bi B/\True)/\C.bi C/\True)/\((b<=j/\j<=m)/\ou r/\r.length=y/\bX r=bX (Δ j.toNat a)*t)/\(m - j).toNat<(m - x.1).toNat)/\(decide (x.1<m)=false->n=k/\(f l x.2).bi (f l (shl a s.toNat)))) (by kernel_rfl) ?_;simp only[vcs];refine⟨by omega,by omega,by omega,by omega,by omega,?_,?_⟩
 ·repeat' refine γm ?_ ?_
  all_goals first|omega|exact kO (by simp)|exact iF.2 ⟨by omega,w8⟩|(simp;done)|(simp only[bX,vx];omega)
 rintro⟨i,row⟩ ⟨⟨i0,i1⟩,hr,hl,hv⟩;simp only at i0 i1 hr hl hv ⊢;refine⟨λilt=>?_,λige=>?_⟩
 ·obtain⟨k1,k2⟩:=LW ha hr hl (show i.toNat<a.length by omega) (show s.toNat<=31 by omega) hv;have e:(i+1).toNat=i.toNat+1:=by omega
  rw[e];repeat' refine γm ?_ ?_
  all_goals first|omega|exact kO (by simp)|(simp only[Ω];done)|(simp only[Ω];omega)|exact k1|exact k2
 ·have hi:i.toNat=a.length:=by omega
  rw[hi,φ] at hv;have hrow:row=shl a s.toNat:=FD hr hl hv;rw[hrow]
theorem sK {U:List Int} {j:Nat} (h:j<=U.length):bX U=bX (U.take j)+4294967296^j*bX (U.drop j):=by
 conv=>lhs;rw[<-List.take_append_drop j U]
 grind[F9]
theorem U5 {U l:List Int} {j:Nat} (h:j<=U.length):(iu U j l).take j=U.take j:=by
 grind[iu]
theorem U4 {U l:List Int} {j:Nat} (h:j<=U.length):(iu U j l).drop j=l++U.drop (j+l.length):=by
 grind[iu]
theorem U3 {U l:List Int} {j:Nat} (a:ou U) (b:ou l):ou (iu U j l):=Mh (lM a _) (Mh b (xN a _))
theorem U2 {U q v:List Int} {j m:Nat} {A:Int} (d:ou U) (w:ou v) (G:ou q) (H:2<=v.length) (u:U.length=m+1+v.length) (x:q.length=m+1) (J:j<=m) (p:0<bX v)
  (s:bN q j 0=0) (B:bX U+bX v*bX q=A) (D:bX (U.drop (j+1))<bX v):
  bX (bO U j (v.length+1))<4294967296*bX v/\
  (ou (iu U j (gl (v.length+1) (bX (bO U j (v.length+1)) % bX v)))/\(iu U j (gl (v.length+1) (bX (bO U j (v.length+1)) % bX v))).length=U.length)/\
  (0<=bX (bO U j (v.length+1)) / bX v/\bX (bO U j (v.length+1)) / bX v<4294967296)/\
  bX (iu U j (gl (v.length+1) (bX (bO U j (v.length+1)) % bX v)))+bX v*bX (q.set j (bX (bO U j (v.length+1)) / bX v))=A/\
  bX ((iu U j (gl (v.length+1) (bX (bO U j (v.length+1)) % bX v))).drop j)<bX v:=by
 have y:=mQ w;have f:=xN d (j+1);have l:=ek (rD d (j:=j) (k:=v.length+1));have b:bX (U.drop (j+(v.length+1)))=0:=by
  have e:bX (U.drop (j+1))=bX ((U.drop (j+1)).take v.length)+4294967296^v.length*bX ((U.drop (j+1)).drop v.length):=sK (by simp;omega);rw[δl,show j+1+v.length=j+(v.length+1) by omega] at e;have I:=ek (lM f v.length);have F:=ek (xN d (j+(v.length+1)));by_cases h:bX (U.drop (j+(v.length+1)))=0;·exact h
  ·have:=Φ (show(1:Int)<=bX (U.drop (j+(v.length+1))) by omega) (γg (pow_pos v.length));omega
 have a:bX (U.drop j)=bX (bO U j (v.length+1)):=by
  have e:bX (U.drop j)=bX ((U.drop j).take (v.length+1))+4294967296^(v.length+1)*bX ((U.drop j).drop (v.length+1)):=sK (by simp;omega);rw[δl,b,δM,εi] at e;exact e
 have g:bX (U.drop j)=bN U j 0+4294967296*bX (U.drop (j+1)):=by
  rw[zA (show j<U.length by omega)];rfl
 have K:=dC d j;have r:bX (bO U j (v.length+1))<4294967296*bX v:=by omega
 have i:=@xO (v.length+1) (bX (bO U j (v.length+1)) % bX v);have C:=δQ (bX (bO U j (v.length+1))) (show bX v≠0 by omega);have E:=δr (bX (bO U j (v.length+1))) p;have t:bX (gl (v.length+1) (bX (bO U j (v.length+1)) % bX v))=bX (bO U j (v.length+1)) % bX v:=by
  grind[F_]
 have o:bX ((iu U j (gl (v.length+1) (bX (bO U j (v.length+1)) % bX v))).drop j)=bX (bO U j (v.length+1)) % bX v:=by
  grind[U4,F9]
 have c:(iu U j (gl (v.length+1) (bX (bO U j (v.length+1)) % bX v))).length=U.length:=MZ (by rw[i];omega);have n:0<=bX (bO U j (v.length+1)) / bX v:=δ1 l (by omega);refine⟨r,⟨U3 d FE,c⟩,⟨n,εV p r⟩,?_,by omega⟩;rw[sK (U:=iu U j _) (j:=j) (by rw[c];omega),U5 (by omega),o,rF (by omega),s,ζi];rw[sK (U:=U) (j:=j) (by omega),a] at B;have z:=εg (bX (bO U j (v.length+1))) (bX v);grind
theorem LU {a b:List Int} {s:Nat} (k:ou a) (w:ou b) (u:s<=31) (l:b.length<=a.length) (q:1<=b.length) (d:1<=bN b (b.length - 1) 0):
  ou (shl a s)/\(shl a s).length=a.length+1/\bX (shl a s)=bX a*2^s/\bX ((shl a s).drop (a.length - b.length+1))<bX b*2^s:=by
 have e:(0:Int)<2^s:=δR (by decide);have v:(2:Int)^s<=2147483648:=by
  have h:(2:Nat)^s<=2^31:=δt (by decide) u;grind
 have f:=ek k;have g:=mQ k;have n:bX a*2^s<4294967296^a.length*2^s:=γ5 g e;have c:bX (shl a s)=bX a*2^s:=by
  unfold shl;refine F_ (γy f (γg e)) (εG n ?_);rw[γW];exact Φ (by omega) (γg (pow_pos _))
 have i:ou (shl a s):=FE;have t:(shl a s).length=a.length+1:=xO;refine⟨i,t,c,?_⟩;have h:=sK (U:=shl a s) (j:=a.length - b.length+1) (by omega);have y:=ek (lM i (a.length - b.length+1));have x:4294967296^(b.length - 1)*bN b (b.length - 1) 0<=bX b:=EP w;have o:(4294967296:Int)^(b.length - 1)<=bX b:=by
  have:=Φ d (γg (pow_pos (b.length - 1)));omega
 have m:(4294967296:Int)^a.length=4294967296^(a.length - b.length+1)*4294967296^(b.length - 1):=by
  rw[<-δ9];congr 1;omega
 rw[c] at h;have p:(4294967296:Int)^(a.length - b.length+1)*bX ((shl a s).drop (a.length - b.length+1))<4294967296^(a.length - b.length+1)*(4294967296^(b.length - 1)*2^s):=by
  rw[<-δn,<-m];omega
 have r:=εt p (γg (pow_pos _));exact εG r (γX o (γg e))
theorem U1 {x y:Int} {s:Nat} (n:0<=x) (u:x<4294967296) (t:0<=y) (o:y<4294967296) (g:0<s) (q:s<=31):
  ∃r,gd.orI .u32 (x / 2^s) (y*2^(32 - s) % 4294967296)=r/\(0<=r/\r<4294967296)/\2^s*r=x - x % 2^s+4294967296*(y % 2^s):=by
 have b:(0:Int)<2^s:=δR (by decide);have c:(0:Int)<2^(32 - s):=δR (by decide);have l:(4294967296:Int)=2^s*2^(32 - s):=by
  rw[<-δ9,show s+(32 - s)=32 by omega];decide
 have f:y*2^(32 - s) % 4294967296=(y % 2^s)*2^(32 - s):=by
  conv=>lhs;rw[l]
  rw[δ5 y,δ5 (2^s),ζG _ _ c,δ5]
 have d:=δQ y (show(2:Int)^s≠0 by omega);have p:=δr y b;have e:0<=x / 2^s:=δ1 n (γg b);have m:x / 2^s<2^(32 - s):=εV b (by grind);have h:(y % 2^s)*2^(32 - s)+2^(32 - s)<=4294967296:=by
  have:=γX (show y % 2^s+1<=2^s by omega) (γg c);grind
 have j:0<=(y % 2^s)*2^(32 - s):=γy d (γg c);have a:=LX (k:=32 - s) e m d (by omega) (by omega);refine⟨x / 2^s+(y % 2^s)*2^(32 - s),by rw[f,a],⟨by omega,by omega⟩,?_⟩;have i:=εg x (2^s);grind
theorem LS {U r:List Int} {i s:Nat} {d:Int} (b:ou U) (c:ou r) (h:i<r.length) (g:∀j,i<=j->bN r j 0=0) (a:0<=d/\d<4294967296)
  (f:2^s*d=bN U i 0 - bN U i 0 % 2^s+4294967296*(bN U (i+1) 0 % 2^s))
  (e:2^s*bX r=bX (U.take i) - bN U 0 0 % 2^s+4294967296^i*(bN U i 0 % 2^s)):
  ou (r.set i d)/\(r.set i d).length=r.length/\(∀j,i+1<=j->bN (r.set i d) j 0=0)/\
  2^s*bX (r.set i d)=bX (U.take (i+1)) - bN U 0 0 % 2^s+4294967296^(i+1)*(bN U (i+1) 0 % 2^s):=by
 grind[lL,nN,rF,kU]
theorem U0 {U r v q:List Int} {n s:Nat} {a b:Int} (f:ou U) (A:ou r) (y:ou v) (g:v.length=n) (u:bX U<bX v) (J:bX v=b*2^s) (C:0<b) (D:bX U+bX v*bX q=a*2^s)
  (G:s<=31) (x:n+1<=U.length)
  (c:2^s*bX r=bX (U.take n) - bN U 0 0 % 2^s+4294967296^n*(bN U n 0 % 2^s)):bX q=a / b/\bX r=a % b:=by
 have H:(0:Int)<2^s:=δR (by decide);have m:=mQ y;rw[g] at m;have o:bN U n 0=0:=xM f (i:=n) (by omega) (π _);have e:bX (U.take n)=bX U:=by
  have k:=sK (U:=U) (j:=n) (by omega);have p:=ek (lM f n);have w:=ek (xN f n);by_cases h:bX (U.drop n)=0;·simp_all
  ·have:=Φ (show(1:Int)<=bX (U.drop n) by omega) (γg (pow_pos n));omega
 have d:bX U=2^s*(a - b*bX q):=by
  grind
 have l:bN U 0 0 % 2^s=0:=by
  have k:=@kU U 0;have p:=sK (U:=U) (j:=1) (by omega);have E:(4294967296:Int)=2^s*2^(32 - s):=by
   rw[<-δ9,show s+(32 - s)=32 by omega];decide
  simp only[Nat.zero_add,εr,bX,ζP,εz,Int.zero_add] at k;rw[k,γW,ζP,εz] at p;have w:bN U 0 0=2^s*(a - b*bX q - 2^(32 - s)*bX (U.drop 1)):=by
   grind
  simp_all
 rw[o,l,e,Int.zero_emod,δM,ζi,εi,d] at c;have t:bX r=a - b*bX q:=Int.eq_of_mul_eq_mul_left (by omega) c;have B:=ek A;have z:bX r<b:=by
  have:2^s*bX r<2^s*b:=by
   grind
  simp_all
 obtain⟨F,I⟩:=sW (X:=a) (V:=b) (q:=bX q) (by grind) (by grind);grind
theorem zf:∀{w:List Int},ou w->fe w->w≠[]->4294967296^(w.length - 1)<=bX w
 |[],_,_,h=>absurd rfl h
 |[d],a,b,_=>by
  have f:=(iF.1 a).1;have c:=b.1 rfl;grind[bX];|d::e::l,a,b,_=>by
  obtain⟨f,c⟩:=iF.1 a;have g:=zf c b.2 (by simp);have i:bX (d::e::l)=d+4294967296*bX (e::l):=rfl;simp only[γK,ζ1] at g ⊢;omega
theorem ze {a b:Nat} (h:a<=b):(4294967296:Int)^a<=4294967296^b:=by
 obtain⟨m,rfl⟩:=Nat.exists_eq_add_of_le h;rw[δ9];have c:=pow_pos a;have d:=pow_pos m;have:=Φ (show(1:Int)<=4294967296^m by omega) (γg c);omega
theorem EM {t:List Int} {s:Nat} (e:ou t) (H:1<=t.length) (G:s<=31) (d:bN t (t.length - 1) 0*2^s<4294967296) (c:2147483648<=bN t (t.length - 1) 0*2^s):
  ou (IL (shl t s))/\(IL (shl t s)).length=t.length/\bX (IL (shl t s))=bX t*2^s/\2147483648<=bN (IL (shl t s)) (t.length - 1) 0/\1<=bN t (t.length - 1) 0:=by
 have o:(0:Int)<2^s:=δR (by decide);have q:=dC e (t.length - 1);have a:1<=bN t (t.length - 1) 0:=by
  grind
 obtain⟨y,N,z,_⟩:=LU e e G (π _) H a;obtain⟨f,E⟩:=@pG (shl t s);have i:=qs y;rw[z] at f;generalize IL (shl t s)=w at*;obtain⟨n,A⟩:∃n,t.length=n+1:=⟨t.length - 1,by omega⟩;rw[A] at d c a q ⊢;simp only[ζ1] at d c a q ⊢;have p:=pow_pos n;have v:bX t=bX (t.take n)+4294967296^n*bN t n 0:=by
  grind[kU]
 have B:=ek (lM e n);have k:=mQ (lM e n);rw[γz,εh (by omega)] at k;have J:(4294967296:Int)=2^(32 - s)*2^s:=by
  rw[<-δ9,show 32 - s+s=32 by omega];decide
 have L:(0:Int)<2^(32 - s):=δR (by decide);have D:bN t n 0<2^(32 - s):=by
  simp_all
 have l:(bN t n 0+1)*2^s<=4294967296:=by
  have:=γX (show bN t n 0+1<=2^(32 - s) by omega) (γg o);omega
 have x:bX w<4294967296^(n+1):=by
  rw[f,γW];have F:bX t<4294967296^n*(bN t n 0+1):=by grind
  have M:=γ5 F o;have I:=Φ l (γg p);grind
 have u:4294967296^n*(bN t n 0*2^s)<=bX w:=by
  rw[f,<-δn];exact γX (by omega) (γg o)
 have r:(4294967296:Int)^n<=bX w:=by
  have:=Φ (show(1:Int)<=bN t n 0*2^s by omega) (γg p);omega
 have b:w.length=n+1:=by
  have K:n<w.length:=by
   by_cases h:n<w.length;·exact h
   ·have:=mQ i;have:=ze (show w.length<=n by omega);omega
  by_cases h:w.length=n+1;·exact h
  ·have j:w≠[]:=by grind
   have:=zf i E j;have:=ze (show n+1<=w.length - 1 by omega);omega
 refine⟨i,b,f,?_,a⟩;have C:bX w=bX (w.take n)+4294967296^n*bN w n 0:=by
  grind[kU]
 have m:=mQ (lM i n);rw[γz,εh (by omega)] at m;have g:4294967296^n*(bN t n 0*2^s)<4294967296^n*(bN w n 0+1):=by grind
 have:=εt g (γg p);omega
@[reducible] def sF:ew:=.pair .b (.pair (.Ap (.i .u32)) (.Ap (.i .u32)))
abbrev NH:=Bool×(List Int×List Int)
def nf (q:Rat):NH:=(decide (q<0),(bU (q.num.natAbs:Int),bU (q.den:Int)))
def TL (x:NH):Rat:=mkRat (if x.1 then -bX x.2.1 else bX x.2.1) (bX x.2.2).toNat
def Sz (k:Nat) (q:Rat):Prop:=(q.num.natAbs:Int)<4294967296^k/\(q.den:Int)<4294967296^k
theorem lB {n:Int} {k:Nat} (e:0<=n) (h:n<4294967296^k):(bU n).length<=k:=by
 obtain⟨f,b,d⟩:=fo e;by_cases c:(bU n).length<=k;·exact c
 ·have a:bU n≠[]:=by grind
  have:=zf b d a;have:=ze (show k<=(bU n).length - 1 by omega);omega
theorem dJ (q:Rat):TL (nf q)=q:=by
 unfold TL nf;have a:=(fo (show(0:Int)<=(q.num.natAbs:Int) by omega)).1;have b:=(fo (show(0:Int)<=(q.den:Int) by omega)).1;simp only[a,b,decide_eq_true_eq,γk];grind[Rat.num_nonneg,δY]
theorem LR {N:Int} {D:Nat} (a:D≠0):(mkRat N D).num.natAbs=N.natAbs / N.natAbs.gcd D/\(mkRat N D).den=D / N.natAbs.gcd D:=by
 rw[<-ζK a,Rat.normalize_eq a];simp only;refine⟨?_,trivial⟩;have b:0<N.natAbs.gcd D:=Nat.gcd_pos_of_pos_right _ (by omega);have c:((N.natAbs.gcd D:Nat):Int)∣N:=Int.ofNat_dvd_left.2 (θa _ _);generalize N.natAbs.gcd D=g at*;obtain⟨m,rfl⟩:=c;rw[ζx _ (by omega),εs,ζj,Nat.mul_div_cancel_left _ b]
theorem UZ {N:Int} {D:Nat} (f:D≠0):mkRat N D<0↔N<0:=by
 have i:(0:Rat)=mkRat 0 D:=(Rat.zero_mkRat D).symm;have e:mkRat N D<0↔¬0<=mkRat N D:=Rat.not_le.symm;rw[e,<-Rat.num_nonneg];have g:=Rat.num_divInt_den (mkRat N D);have c:(mkRat N D).num*(D:Int)=N*((mkRat N D).den:Int):=by
  grind[Rat.mkRat_eq_iff,mkRat,δY]
 have d:(0:Int)<((mkRat N D).den:Int):=by have:=(mkRat N D).den_pos;omega
 have b:(0:Int)<(D:Int):=by omega
 constructor
 ·intro h;by_cases a:N<0;·exact a
  ·exfalso;apply h;have:0<=(mkRat N D).num*(D:Int):=by rw[c];exact γy (by omega) (by omega)
   exact Int.nonneg_of_mul_nonneg_left this b
 ·intro a h;have:0<=(mkRat N D).num*(D:Int):=γy h (by omega);rw[c] at this;have:=εu a d;omega
theorem LQ {s:Bool} {n d:Int} (n0:0<=n) (f:0<d):nf (mkRat (if s then -n else n) d.toNat)=(s&&decide (0<n),(bU (n / dK n d),bU (d / dK n d))):=by
 have e:d.toNat≠0:=by omega
 obtain⟨b,c⟩:=LR (N:=if s then -n else n) e;have a:(if s then -n else n).natAbs=n.toNat:=by split<;>omega
 unfold nf;rw[b,c,a];have g:dK n d=((n.toNat.gcd d.toNat:Nat):Int):=rfl;refine εE ?_ (εE ?_ ?_)
 ·simp only;rw[θd];simp only[decide_eq_true_eq,Bool.and_eq_true];grind[UZ]
 all_goals grind
theorem wZ {N:Int} {D:Nat} {k:Nat} (b:D≠0) (f:(N.natAbs:Int)<4294967296^k) (e:(D:Int)<4294967296^k):Sz k (mkRat N D):=by
 obtain⟨c,a⟩:=LR (N:=N) b;unfold Sz;rw[c,a];have g:=Nat.div_le_self N.natAbs (N.natAbs.gcd D);have d:=Nat.div_le_self D (N.natAbs.gcd D);omega
theorem Sz.mono {j k:Nat} {q:Rat} (h:Sz j q) (a:j<=k):Sz k q:=by
 have:=ze a;exact⟨by have:=h.1;omega,by have:=h.2;omega⟩
theorem LP (p q:Rat):p+q=mkRat (p.num*q.den+q.num*p.den) (p.den*q.den):=by
 rw[Rat.add_def,ζK]
theorem wY {p q:Rat} {i j:Nat} (e:Sz i p) (c:Sz j q):Sz (i+j+1) (p+q):=by
 rw[LP];have g:=p.den_pos;have l:=q.den_pos;have k:p.den*q.den≠0:=Nat.ne_of_gt (Nat.mul_pos g l);have m:∀{a b:Int} {i j:Nat},0<=a->0<=b->a<4294967296^i->b<4294967296^j->a*b<4294967296^(i+j):=by
  intro a b i j h o f d;rw[δ9];exact εJ (Φ (γg d) h) (γ5 f (pow_pos _))
 have f:=m (by omega) (by omega) e.1 c.2;have d:=m (by omega) (by omega) c.1 e.2;have n:=m (by omega) (by omega) e.2 c.2;rw[Nat.add_comm j i] at d;have t:=pow_pos (i+j);refine wZ k ?_ ?_
 ·have r:(p.num*(q.den:Int)).natAbs=p.num.natAbs*q.den:=by rw[εs,ζj]
  have s:(q.num*(p.den:Int)).natAbs=q.num.natAbs*p.den:=by rw[εs,ζj]
  omega
 omega
theorem wX {p:Rat} {i:Nat} (a:Sz i p):Sz i (-p):=by
 grind[Sz,Rat.neg_num,Rat.neg_den]
theorem LO {l m:List Int} (h:l.Perm m):l.sum=m.sum:=by
 induction h<;>grind
theorem LN {g:bY}:∀{l c:List Int},j9 g c=true->j9 g (l.foldl (stepG g) c)=true
 |[],c,h=>h
 |x::l,c,h=>by
  show j9 g (l.foldl (stepG g) (stepG g c x))=true;refine LN ?_;grind[stepG]
theorem UY {p:cj} (d:nW p=0):j9 (bW p) []=true:=by
 unfold j9;rw[List.all_eq_true];intro r b;have a:r<(bW p).bounds.length:=List.mem_range.1 b;have c:bN (bW p).bounds r 0=cC p r:=by
  show bN (jv p (nR p)) r 0=_;rw[bV (by exact a)];simp[jv]
 simp_all[yd,kR]
theorem UX {p:cj}:dj p.bj.length (jg p):=by
 have h:=@UB p (fS p).length;rw[φ] at h;exact h
theorem LM {p:cj} (a:nW p=0):bT p (jg p)=0:=(E3 a UX).2 (LN (UY a))
theorem UW {g:bY} (i:rC g):∀{n:Nat} {c:List Int},dj g.bj.length c->j9 g c=true->dj g.bj.length (kQ g n c)/\j9 g (kQ g n c)=true/\cT g c<=cT g (kQ g n c)/\((1000000000 - cT g c).toNat<=n->gY g (kQ g n c)=none):=by
 intro n;induction n with
 |zero=>
  intro c a j;refine⟨a,j,Int.le_refl _,λh=>?_⟩;show gY g c=none;cases f:gY g c with
  |none=>rfl;|some t=>
   obtain⟨d,b⟩:=vE f a;have k:=pD i b;unfold lJ at d;grind
 |succ n l=>
  intro c a j;cases f:gY g c with
  |none=>
   grind[kQ];|some t=>
   have e:kQ g (n+1) c=kQ g n t:=by grind[kQ]
   rw[e];obtain⟨d,b⟩:=vE f a;have k:=pD i b;unfold lJ at d;grind
theorem EL {p:cj} (a:nW p=0) {c:List Int} (b:bT p c=0):dj p.bj.length (fA p c).bn/\bT p (fA p c).bn=0/\cB p (fA p c).bn=(fA p c).value/\cB p c<=(fA p c).value/\fA p (fA p c).bn=fA p c:=by
 obtain⟨_,d⟩:=rB b;have h:=Lz a;obtain⟨i,j,l,g⟩:=UW h (n:=(1000000000 - cT (bW p) c).toNat) (c:=c) d ((E3 a d).1 b);have e:fA p c=⟨jR (bW p) c,cT (bW p) (jR (bW p) c)⟩:=by simp_all[fA]
 have f:bT p (jR (bW p) c)=0:=(E3 a i).2 j;have k:jR (bW p) (jR (bW p) c)=jR (bW p) c:=M5 (g (π _));simp_all[UD,fA,jR,bW]
def vt:NG:=⟨138,Int,.one (dX .u64),λx=>0<=(show Int from x)/\(show Int from x)<18446744073709551616,λx=> .row (.i .u32) (bU x)⟩
theorem qX:Holds Tryz.prog vt:=by
 refine bM (L:=[pH]) vt lk (by grind[kX]) ?_;intro(x:Int) h;obtain⟨b,a⟩:0<=x/\x<18446744073709551616:=h;refine NI (let a:=(4294967296:Int);(0:Int)<=(32:Int)/\(32:Int)<=(64:Int)/\2<=1000000000000/\(γa (ew.i .u32) (IL [x % a,x / a % a])).bi (γa (ew.i .u32) (bU x))) (by kernel_rfl) ?_;simp only[vcs];grind[ou,oq,bX]
def QD:List NG:=[pH,vN,xQ,FG,vt,EO]
theorem Qm:∀c∈QD,Holds Tryz.prog c:=by
 simp only[QD,List.forall_mem_cons,List.not_mem_nil,false_implies,implies_true,and_true];grind[kX,qV,ub,IH,qX,y7]
def WD:List cU:=[EN,F5]
theorem Ql:∀c∈WD,dB Tryz.prog c:=by
 simp_all[WD,IG,IF]
def z_:NG:=⟨182,List Int×List Int,.cons (cO (.i .u32)) (.one (cO (.i .u32))),λa=>(ou a.1/\ou a.2)/\(a.1.length<=10000000000/\a.2.length<=10000000000)/\0<bX a.2,
 λa=> .Gz [.row (.i .u32) (bU (bX a.1 / bX a.2)),.row (.i .u32) (bU (bX a.1 % bX a.2)),.si .i64 0]⟩
def qe (a:List Int×List Int) (s:Int):Prop:=(0<=s/\s<=31)/\bN (IL a.2) ((IL a.2).length - 1) 0*2^s.toNat<4294967296/\2147483648<=bN (IL a.2) ((IL a.2).length - 1) 0*2^s.toNat
def UV (a:List Int×List Int):Nat->bJ
 |10=> .inv Int (λs=>⟨[(0,.row (.i .u32) (IL a.1)),(1,.row (.i .u32) (IL a.2)),(9,.si .u64 s)],[]⟩) (λs=>iS s 9)
  (λs=>(0<=s/\s<=31)/\bN (IL a.2) ((IL a.2).length - 1) 0*2^s.toNat<4294967296) (λs=>(32 - s).toNat) λ_ _=> .look
 |17=> .inv (Int×Int×List Int×List Int) (λx=>⟨[(4,.ow 1 x.2.2.2.length 1),(9,.si .u64 x.2.1),(10,.ow 0 x.2.2.1.length 1),(11,.row (.i .u32) (IL (shl (IL a.2) x.2.1.toNat))),(12,.si .i64 (IL (shl (IL a.2) x.2.1.toNat)).length),
   (13,.si .i64 ((IL a.1).length - (IL a.2).length)),(74,.si .i64 ((IL a.1).length - (IL a.2).length+1)),(75,.si .i64 x.1)],[.row (.i .u32) x.2.2.1 172 false,.row (.i .u32) x.2.2.2 172 true]⟩)
  (λs=>(iS s 75,iS s 9,oS (.i .u32) s 0,oS (.i .u32) s 1))
  (λx=>(0<=x.1/\x.1<=(IL a.1).length - (IL a.2).length+1)/\qe a x.2.1/\(ou x.2.2.1/\x.2.2.1.length=(IL a.1).length+1)/\(ou x.2.2.2/\x.2.2.2.length=(IL a.1).length - (IL a.2).length+1)/\
   (∀j:Nat,(j:Int)<(IL a.1).length - (IL a.2).length+1 - x.1->bN x.2.2.2 j 0=0)/\
   bX x.2.2.1+bX (IL (shl (IL a.2) x.2.1.toNat))*bX x.2.2.2=bX (IL a.1)*2^x.2.1.toNat/\
   bX (x.2.2.1.drop (((IL a.1).length - (IL a.2).length+1 - x.1:Int).toNat))<bX (IL (shl (IL a.2) x.2.1.toNat)))
  (λx=>((IL a.1).length - (IL a.2).length+1 - x.1:Int).toNat) λ_ _=> .look
 |24=> .inv (Int×Int×List Int×List Int×List Int) (λx=>⟨[(4,.ow 1 x.2.2.2.1.length 1),(5,.ow 2 x.2.2.2.2.length 1),(9,.si .u64 x.2.1),(10,.ow 0 x.2.2.1.length 1),(100,.si .i64 (IL (shl (IL a.2) x.2.1.toNat)).length),(101,.si .i64 x.1)],
   [.row (.i .u32) x.2.2.1 172 false,.row (.i .u32) x.2.2.2.1 172 true,.row (.i .u32) x.2.2.2.2 172 true]⟩)
  (λs=>(iS s 101,iS s 9,oS (.i .u32) s 0,oS (.i .u32) s 1,oS (.i .u32) s 2))
  (λx=>(0<=x.1/\x.1<=(IL (shl (IL a.2) x.2.1.toNat)).length)/\qe a x.2.1/\(ou x.2.2.1/\x.2.2.1.length=(IL a.1).length+1)/\(ou x.2.2.2.1/\x.2.2.2.1.length=(IL a.1).length - (IL a.2).length+1)/\
   bX x.2.2.1+bX (IL (shl (IL a.2) x.2.1.toNat))*bX x.2.2.2.1=bX (IL a.1)*2^x.2.1.toNat/\bX x.2.2.1<bX (IL (shl (IL a.2) x.2.1.toNat))/\
   (ou x.2.2.2.2/\x.2.2.2.2.length=(IL (shl (IL a.2) x.2.1.toNat)).length)/\(∀j,x.1.toNat<=j->bN x.2.2.2.2 j 0=0)/\
   2^x.2.1.toNat*bX x.2.2.2.2=bX (x.2.2.1.take x.1.toNat) - bN x.2.2.1 0 0 % 2^x.2.1.toNat+4294967296^x.1.toNat*(bN x.2.2.1 x.1.toNat 0 % 2^x.2.1.toNat))
  (λx=>((IL (shl (IL a.2) x.2.1.toNat)).length - x.1).toNat) λ_ _=> .look
 |_=> .look
theorem sr:Holds Tryz.prog z_:=by
 refine j6 (L:=QD) (W:=fT WD) z_ UV (kd Ql) Qm ?_;rintro⟨a,b⟩ ⟨⟨ha,hb⟩,⟨hla,hlb⟩,b0⟩;simp only at ha hb hla hlb b0;refine NI (let c:=(0:Int);let d:=(4294967296:Int);let e:=(18446744073709551616:Int);let f:=γa;let g:=γj .i64;let h:=VL .i64;let k:=iZ.row;let l:=(1:Int);let m:=γ1;let n:=(32:Int);let o:=(140737488355328:Int);let p:=(1000000000000:Int);let q:=(2:Int);let r:=SV.Gz;let s:=(31:Int);let z0:Nat:=(IL b).length;let N:=(↑z0:Int);let av:=decide (N=c);let ag:=f (ew.i .i64) [];let t:=ew.i .u32;let ah:=g 0;let aa:=r [f t (bU (bX a / bX b)),f t (bU (bX a % bX b)),ah];let z7:Nat:=(IL a).length;let z8:Nat:=(IL b).length;let F:=bX (IL a);let aw:=decide (kV F (bX (IL b))<c);let a1:=γC .i64 0;let ax:=decide (N=l);let ab:=bN (IL b) 0 c;let ai:=F % ab % e;let aj:=bN (IL b) (z8 - 1) c;let a2:=N - l;let ak:=(↑(IL a).length:Int) - N;let B:=ak+l;let O:=δ B.toNat c;let al:=(↑z7:Int) - (↑z8:Int);let am:=g al;let y:=al+l;let an:=g y;let ay:=k t O 172 true;let P:=z7+1;let Q:=z7 - z8+1;a.length<=1000000000000/\b.length<=1000000000000/\(av=true->(r [ag,ag,γC .i64 8]).bi aa)/\(av=false->((ou (IL a)/\ou (IL b))/\z7<=1000000000000/\z8<=1000000000000)/\(aw=true->((ou (IL a)/\ou [])/\z7<=100000000000/\0<=100000000000)/\(r [ag,f t (bU (F+bX [])),a1]).bi aa)/\(aw=false->(ax=true->c<=c/\c<N/\0<z0/\(ou (IL a)/\z7<=100000000000/\c<ab/\ab<d)/\(c<=ai/\ai<e)/\(r [f t (bU (F / ab)),f t (bU ai),a1]).bi aa)/\(ax=false->((((f t (IL a)).bi (f t (IL a))/\(f t (IL b)).bi (f t (IL b))/\(γC .u64 0).bi (γj .u64 0)/\True)/\True)/\(c<=c/\c<=s)/\aj*l<d)/\∀(x:Int),let ao:=q^x.toNat;let a3:=(x+l) % e;let az:=γj .u64 a3;let aA:=shl (IL b) x.toNat;let R:=shl (IL a) x.toNat;let aB:=m 0 R.length 1;let S:=IL aA;let aC:=k t R 172 false;let aD:=λ(u:Bool) ↦decide (bN (IL b) a2.toNat c*ao % d<(2147483648:Int))=u;(c<=x/\x<=s)/\aj*ao<d->h a2/\c<=a2/\a2<N/\a2.toNat<z0/\c<=x/\x<=n/\(aD true->(((f t (IL a)).bi (f t (IL a))/\(f t (IL b)).bi (f t (IL b))/\az.bi az/\True)/\True)/\((c<=a3/\a3<=s)/\aj*q^a3.toNat<d)/\(n - a3).toNat<(n - x).toNat)/\(aD false->wD (IL a,x)/\wD (IL b,x)/\aA.length<=1000000000000/\h ak/\h B/\c<=B/\B<=B/\B*(4:Int)<=o/\B<=p/\h B/\((((m 1 B.toNat 1).bi (m 1 O.length 1)/\(γj .u64 x).bi (γj .u64 x)/\aB.bi aB/\(f t S).bi (f t S)/\(g (↑S.length:Int)).bi (g (↑S.length:Int))/\(g ak).bi am/\(g B).bi an/\a1.bi ah/\True)/\aC.bi aC/\ay.bi ay/\True)/\(c<=c/\c<=y)/\qe (a,b) x/\(ou R/\R.length=P)/\(ou O/\O.length=Q)/\(∀(j:Nat),(↑j:Int)<y - c->bN O j c=c)/\bX R+bX S*bX O=F*ao/\bX (γ4 (y - c).toNat R)<bX S)/\∀(x:Int×Int×List Int×List Int),let C:=x.2.2.1;let T:=IL (shl (IL b) x.2.1.toNat);let U:=bX T;let w:=x.2.2.2;let ac:=q^x.2.1.toNat;let V:=C.length;let aE:=decide (x.1<y);let G:=al - x.1;let z:=(↑T.length:Int);let a4:=G+z+l;let a5:=G.toNat;let a6:=a4.toNat;let H:=mf.mk C a5 (a6 - a5) V T;let K:=x.1+l;let ap:=m 1 w.length 1;let W:=w.set a5 (H.x / U);let ad:=γj .u64 x.2.1;let aq:=m 0 V 1;let ae:=g z;let aF:=g K;let aG:=k t H.row 172 false;let aH:=k t W 172 true;let X:=δ z.toNat c;let aI:=k t C 172 false;let aJ:=k t w 172 true;let aK:=k t X 172 true;let aL:=bN C 0 c % ac;let aM:=bX C+U*bX w=F*ac;(c<=x.1/\x.1<=y)/\qe (a,b) x.2.1/\(ou C/\V=P)/\(ou w/\w.length=Q)/\(∀(j:Nat),(↑j:Int)<y - x.1->bN w j c=c)/\aM/\bX (γ4 (y - x.1).toNat C)<U->(aE=true->h G/\h (G+z)/\h a4/\h (G+z)/\h a4/\V=C.length/\c<=G/\c<=a4/\c<=a4/\a5<=a6/\a6<=a6/\a6<=V/\H.ok/\w.length=w.length/\c<=G/\G<(↑w.length:Int)/\w.length=w.length/\a5<w.length/\h K/\((ap.bi (m 1 W.length 1)/\ad.bi ad/\aq.bi (m 0 H.row.length 1)/\(f t T).bi (f t T)/\ae.bi ae/\am.bi am/\an.bi an/\aF.bi aF/\True)/\aG.bi aG/\aH.bi aH/\True)/\((c<=K/\K<=y)/\qe (a,b) x.2.1/\(ou H.row/\H.row.length=P)/\(ou W/\W.length=Q)/\(∀(j:Nat),(↑j:Int)<y - K->bN W j c=c)/\bX H.row+U*bX W=F*ac/\bX (γ4 (y - K).toNat H.row)<U)/\(y - K).toNat<(y - x.1).toNat)/\(aE=false->c<=z/\z<=z/\z*(4:Int)<=o/\z<=p/\(((ap.bi ap/\(m 2 z.toNat 1).bi (m 2 X.length 1)/\ad.bi ad/\aq.bi aq/\ae.bi ae/\a1.bi ah/\True)/\aI.bi aI/\aJ.bi aJ/\aK.bi aK/\True)/\(c<=c/\c<=z)/\qe (a,b) x.2.1/\(ou C/\V=P)/\(ou w/\w.length=Q)/\aM/\bX C<U/\(ou X/\X.length=T.length)/\(∀(j:Nat),0<=j->bN X j c=c)/\ac*bX X=bX [] - aL+l*aL)/\∀(x:Int×Int×List Int×List Int×List Int),let aN:=γj .u64 x.2.1;let v:=x.2.2.1;let aO:=m 0 v.length 1;let Y:=IL (shl (IL b) x.2.1.toNat);let Z:=(↑Y.length:Int);let aP:=g Z;let E:=x.1+l;let aQ:=g E;let A:=x.2.2.2.2;let L:=A.length;let D:=x.1.toNat;let ar:=bN v D c;let I:=q^x.2.1.toNat;let a7:=A.set D (ar / I);let M:=x.2.2.2.1;let a8:=M.length;let aR:=m 1 a8 1;let aS:=k t v 172 false;let aT:=k t M 172 true;let a9:=E.toNat;let aU:=bN v 0 c % I;let aV:=bN v a9 c;let aW:=decide (x.1<Z);let J:=v.length;let aX:=decide (c<x.2.1);let au:=(n - x.2.1) % e;let b3:=aN.bi aN/\aO.bi aO/\aP.bi aP/\aQ.bi aQ/\True;let af:=L=a7.length;let aY:=x.1<(↑a7.length:Int);let aZ:=D<a7.length;let b0:=bX v+bX Y*bX M=F*I;let b4:=(Z - E).toNat<(Z - x.1).toNat;let b5:=aR.bi aR;let b6:=c<=E/\E<=Z;let b1:=λ(u:List Int) (u_1:Int) ↦let a0:=u.set D u_1;let b2:=k t a0 172 true;h E/\((b5/\(m 2 L 1).bi (m 2 a0.length 1)/\b3)/\aS.bi aS/\aT.bi aT/\b2.bi b2/\True)/\(b6/\qe (a,b) x.2.1/\(ou v/\v.length=P)/\(ou M/\a8=Q)/\b0/\bX v<bX Y/\(ou a0/\a0.length=Y.length)/\(∀(j:Nat),a9<=j->bN a0 j c=c)/\I*bX a0=bX (Δ a9 v) - aU+d^a9*(aV % I))/\b4;(c<=x.1/\x.1<=Z)/\qe (a,b) x.2.1/\(ou v/\v.length=P)/\(ou M/\a8=Q)/\b0/\bX v<bX Y/\(ou A/\L=Y.length)/\(∀(j:Nat),D<=j->bN A j c=c)/\I*bX A=bX (Δ D v) - aU+d^D*(ar % I)->(aW=true->v.length=J/\c<=x.1/\x.1<(↑J:Int)/\v.length=J/\D<J/\c<=x.2.1/\x.2.1<=n/\L=A.length/\c<=x.1/\x.1<(↑A.length:Int)/\L=A.length/\D<A.length/\(aX=true->af/\c<=x.1/\aY/\af/\aZ/\h E/\v.length=J/\c<=E/\E<(↑J:Int)/\v.length=J/\a9<J/\c<=au/\au<=n/\af/\c<=x.1/\aY/\af/\aZ/\b1 a7 (gd.orI .u32 (bN a7 D c) (aV*q^au.toNat % d)))/\(aX=false->b1 A (ar / I)))/\(aW=false->a8=M.length/\L=A.length/\a8<=1000000000000/\L<=1000000000000/\(r [f t (IL M),f t (IL A),a1]).bi aa))))))) (by kernel_rfl) ?_;simp only[vcs];obtain⟨va,na⟩:=@pG a;obtain⟨vb,nb⟩:=@pG b;have da:=qs ha;have db:=qs hb;have la:=@rG a;have lb:=@rG b;have p0:=ek da;have d0:ou []:=by simp[ou]
 simp only[qe];rw[<-va,<-vb];rw[<-vb] at b0;generalize IL a=S at*;generalize IL b=T at*;have hm:=δQ (bX S) (show bX T≠0 by omega);have hl:=δr (bX S) b0;have hT1:T.length≠0:=by
  intro h;rw[χ h] at b0;exact absurd b0 (by decide)
 refine⟨by omega,by omega,λh0=>by omega,λh0=>⟨⟨⟨da,db⟩,by omega,by omega⟩,λhlt=>⟨⟨⟨da,d0⟩,by omega,by omega⟩,?_⟩,λhge=>⟨λh1=>?_,λh1=>⟨?_,?_⟩⟩⟩⟩
 ·have hab:bX S<bX T:=by unfold kV at hlt;split at hlt<;>(try split at hlt)<;>omega
  have hdv:bX S / bX T=0:=Int.ediv_eq_zero_of_lt p0 hab;have hmv:bX S % bX T=bX S:=δO p0 hab;refine⟨K_ (by rw[hdv];rfl),?_⟩;rw[hmv];simp[bX]
 ·obtain⟨d,rfl⟩:∃d,T=[d]:=List.length_eq_one_iff.1 (by omega);have hd:=(iF.1 db).1;have aTZ:bN [d] 0 0=d:=rfl;have hv:bX [d]=d:=by simp[bX]
  rw[hv] at b0 hm hl ⊢;rw[aTZ];have hmm:bX S % d % 18446744073709551616=bX S % d:=by omega
  rw[hmm];repeat' refine γm ?_ ?_
  all_goals first|omega|exact da|rfl|(simp;done)
 ·have:=dC db (T.length - 1);repeat' refine γm ?_ ?_
  all_goals omega
 have ayY:bX T<=bX S:=by unfold kV at hge;split at hge<;>(try split at hge)<;>omega
 have hlen:T.length<=S.length:=by
  by_cases h:S.length<T.length
  ·have:=vO da db nb h;omega
  ·omega
 have hTn:2<=T.length:=by omega
 clear hge h0 h1 hT1 va vb d0;rintro s ⟨⟨s0,s1⟩,hs⟩;have t1:((T.length:Int) - 1).toNat=T.length - 1:=by omega
 have hxt:=dC db (T.length - 1);have hps:(0:Int)<2^s.toNat:=δR (by decide);have hnn:0<=bN T (T.length - 1) 0*2^s.toNat:=γy hxt.1 (γg hps);have hmod:bN T (T.length - 1) 0*2^s.toNat % 4294967296=bN T (T.length - 1) 0*2^s.toNat:=by omega
 rw[t1,hmod];repeat refine γm (by omega) ?_
 refine⟨λhc=>?_,λhc=>?_⟩
 ·have htop:1<=bN T (T.length - 1) 0:=by
   by_cases h:1<=bN T (T.length - 1) 0;·exact h
   ·exfalso;have h4:=zf db nb (by rintro rfl;simp at hTn);have h5:bX T=bX (T.take (T.length - 1))+4294967296^(T.length - 1)*bN T (T.length - 1) 0:=by
     have:=@kU T (T.length - 1);rwa [show T.length - 1+1=T.length by omega,φ] at this
    have h6:=mQ (lM db (T.length - 1));rw[γz,εh (by omega)] at h6;rw[show bN T (T.length - 1) 0=0 by omega,δM] at h5;omega
  have h31:s<=30:=by
   by_cases h:s<=30;·exact h
   ·have aT1:s.toNat=31:=by omega
    rw[aT1,show(2:Int)^31=2147483648 from rfl] at hc;omega
  have e:((s+1) % 18446744073709551616)=s+1:=by omega
  have e2:(s+1).toNat=s.toNat+1:=by omega
  rw[e,e2,γW,<-δn];repeat' refine γm ?_ ?_
  all_goals omega
 ·obtain⟨dw,lw,vw,tw,auZ⟩:=EM db (by omega) (show s.toNat<=31 by omega) hs (by omega);obtain⟨ds,ls,vs,hst⟩:=LU da db (show s.toNat<=31 by omega) hlen (by omega) auZ;have hds:∀z,wD (z,s)↔(ou z/\z.length<=100000000000):=λz=>⟨λh=>⟨h.1,h.2.1⟩,λh=>⟨h.1,h.2,s0,s1⟩⟩;have Ap:(shl T s.toNat).length=T.length+1:=xO;have bits:(0<=s/\s<=31)/\bN T (T.length - 1) 0*2^s.toNat<4294967296/\2147483648<=bN T (T.length - 1) 0*2^s.toNat:=⟨⟨s0,s1⟩,hs,by omega⟩;rw[hds,hds,Ap,ls];refine⟨⟨da,by omega⟩,⟨db,by omega⟩,?_⟩;repeat refine γm (by omega) ?_
  refine⟨?_,?_⟩
  ·repeat' refine γm ?_ ?_
   all_goals first|omega|exact kO (by simp)|exact kO (by omega)|exact ds|exact w8|exact λj _=>LY|(simp;omega)|(rw[vx,δM,εi];exact vs)|(rw[vw,show((S.length:Int) - T.length+1 - 0).toNat=S.length - T.length+1 by omega];exact hst)
  clear hst vs ls ds bits hds hmod hnn hps hxt auZ tw vw lw dw Ap t1 hc hs s0 s1;clear s;rintro⟨i,s,U,q⟩ ⟨⟨i0,i1⟩,⟨⟨s0,s1⟩,hs,hs2⟩,⟨hU,hUl⟩,⟨hq,hql⟩,hz,he,hlt⟩;simp only at i0 i1 s0 s1 hs hs2 hU hUl hq hql hz he hlt ⊢;obtain⟨dw,lw,vw,tw,auZ⟩:=EM db (by omega) (show s.toNat<=31 by omega) hs (by omega);generalize hw:IL (shl T s.toNat)=w at*;have hw0:0<bX w:=by
   rw[vw];exact εB b0 (δR (by decide))
  refine⟨λilt=>?_,λige=>?_⟩
  ·obtain⟨j,hj⟩:∃j:Nat,(S.length:Int) - T.length - i=j:=⟨((S.length:Int) - T.length - i).toNat,by omega⟩;have e1:((j:Int)+w.length+1).toNat - j=w.length+1:=by omega
   have e2:((S.length:Int) - T.length+1 - i).toNat=j+1:=by omega
   rw[e2] at hlt;obtain⟨k1,⟨k2,k3⟩,⟨k4,k5⟩,k6,k7⟩:=U2 (j:=j) (m:=S.length - T.length) hU dw hq (by omega) (by omega) (by omega) (by omega) hw0 (hz j (by omega)) he hlt;have e3:((S.length:Int) - T.length+1 - (i+1)).toNat=j:=by omega
   simp only[hj,e1,e3,γk,mf.row,mf.x,mf.ok];repeat' refine γm ?_ ?_
   all_goals first|omega|exact kO (by simp)|exact kO k3.symm|exact trivial|exact hU|exact dw|exact k1|exact k2|exact k6|exact k7|exact lL hq k4 k5|(simp;omega)|(rw[lw];exact tw)|exact λp hp=>by rw[nN (by omega)];exact hz p (by omega)
  ·have e2:((S.length:Int) - T.length+1 - i).toNat=0:=by omega
   rw[e2,List.drop_zero] at hlt;repeat refine γm (by omega) ?_
   refine⟨?_,?_⟩
   ·have h1:=@kU U 0;simp only[εr,bX,ζP,εz];repeat' refine γm ?_ ?_
    all_goals first|omega|exact kO (by simp)|exact hU|exact hq|exact he|exact hlt|exact w8|exact λj _=>LY|(simp;done)|(rw[vx];omega)
   clear hlt hz e2 ige i0 i1 tw auZ hw0 hs hs2 s0 s1 he hU hUl hq hql;clear hw dw lw vw;clear w s i U q;rintro⟨i,s,U,q,r⟩ ⟨⟨i0,i1⟩,⟨⟨s0,s1⟩,hs,hs2⟩,⟨hU,hUl⟩,⟨hq,hql⟩,he,hlt,⟨hr,hrl⟩,hz,hv⟩;simp only at i0 i1 s0 s1 hs hs2 hU hUl hq hql he hlt hr hrl hz hv ⊢;obtain⟨dw,lw,vw,tw,auZ⟩:=EM db (by omega) (show s.toNat<=31 by omega) hs (by omega);generalize hw:IL (shl T s.toNat)=w at*;refine⟨λilt=>?_,λige=>?_⟩
   ·have x0:=dC hU i.toNat;have x1:=dC hU (i.toNat+1);have e1:(i+1).toNat=i.toNat+1:=by omega
    have x2:=dC hr i.toNat;have hps:(0:Int)<2^s.toNat:=δR (by decide);have y0:0<=bN U i.toNat 0 / 2^s.toNat:=δ1 x0.1 (γg hps);have y1:bN U i.toNat 0 / 2^s.toNat<=bN U i.toNat 0:=Int.ediv_le_self _ x0.1;have e2:((32 - s) % 18446744073709551616).toNat=32 - s.toNat:=by omega
    have e3:(r.set i.toNat (bN U i.toNat 0 / 2^s.toNat)).set i.toNat=r.set i.toNat:=by funext z;rw[List.set_set]
    simp only[e1,e2,e3,qp (show i.toNat<r.length by omega),Ω];repeat refine γm (by omega) ?_
    refine⟨λhs0=>?_,λhs0=>?_⟩
    ·obtain⟨d,hd1,hd2,hd3⟩:=U1 (s:=s.toNat) x0.1 x0.2 x1.1 x1.2 (by omega) (by omega);obtain⟨k1,k2,k3,k4⟩:=LS hU hr (show i.toNat<r.length by omega) hz hd2 hd3 hv;rw[hd1];repeat' refine γm ?_ ?_
     all_goals first|omega|exact kO (by simp)|exact hU|exact hq|exact k1|exact k3|exact k4|exact he|exact hlt|trivial
    ·have aT2:s.toNat=0:=by omega
     obtain⟨k1,k2,k3,k4⟩:=LS (s:=s.toNat) (d:=bN U i.toNat 0 / 2^s.toNat) hU hr (show i.toNat<r.length by omega) hz ⟨y0,by omega⟩ (by rw[aT2];simp) hv;repeat' refine γm ?_ ?_
     all_goals first|omega|exact kO (by simp)|exact hU|exact hq|exact k1|exact k3|exact k4|exact he|exact hlt|trivial
   ·have hi:i.toNat=w.length:=by omega
    rw[hi] at hv;obtain⟨w1,w2⟩:=U0 hU hr dw rfl hlt vw b0 he (show s.toNat<=31 by omega) (by omega) hv;rw[oq hq,oq hr,w1,w2];repeat' refine γm ?_ ?_
    all_goals first|omega|rfl|trivial
theorem EK {a b:List Int} (d:ou a) (c:ou b) (f:fe a) (h:bX a<=bX b):a.length<=b.length:=by
 by_cases e:a.length<=b.length;·exact e
 ·have:=vO c d f (by omega);omega
def z6:NG:=⟨171,List Int×List Int,.cons (cO (.i .u32)) (.one (cO (.i .u32))),λa=>(ou a.1/\ou a.2)/\(a.1.length<=1000000000/\a.2.length<=1000000000),
 λa=> .row (.i .u32) (bU (dK (bX a.1) (bX a.2)))⟩
def Vm (a:List Int×List Int):Nat->bJ
 |2=> .inv (List Int×List Int) (λx=>⟨[(0,.row (.i .u32) x.1),(1,.row (.i .u32) x.2)],[]⟩) (λs=>(rS (.i .u32) s 0,rS (.i .u32) s 1))
  (λx=>(ou x.1/\ou x.2)/\(fe x.1/\fe x.2)/\(x.1.length<=1000000000/\x.2.length<=1000000000)/\dK (bX x.1) (bX x.2)=dK (bX a.1) (bX a.2)) (λx=>(bX x.2).toNat) λ_ _=> .look
 |_=> .look
theorem su:Holds Tryz.prog z6:=by
 refine bM (L:=[xQ,z_]) z6 Vm (by grind[ub,sr]) ?_;rintro⟨a,b⟩ ⟨⟨l,k⟩,⟨n,m⟩⟩;simp only at l k n m;refine NI (let h:=γa;let c:=ew.i .u32;let f:=bU (bX a+bX []);let e:=bU (bX b+bX []);let g:=dK (bX a) (bX b);((ou a/\ou [])/\a.length<=100000000000/\0<=100000000000)/\((ou b/\ou [])/\b.length<=100000000000/\0<=100000000000)/\((((h c f).bi (h c f)/\(h c e).bi (h c e)/\True)/\True)/\(ou f/\ou e)/\(fe f/\fe e)/\(f.length<=1000000000/\e.length<=1000000000)/\dK (bX f) (bX e)=g)/\∀(x:List Int×List Int),let v:=decide ((0:Int)<(↑x.2.length:Int));let d:=bU (bX x.1 % bX x.2);(ou x.1/\ou x.2)/\(fe x.1/\fe x.2)/\(x.1.length<=1000000000/\x.2.length<=1000000000)/\dK (bX x.1) (bX x.2)=g->(v=true->((ou x.1/\ou x.2)/\(x.1.length<=10000000000/\x.2.length<=10000000000)/\(0:Int)<bX x.2)/\(false=true->(h c x.1).bi (h c (bU g)))/\(false=false->(((h c x.2).bi (h c x.2)/\(h c d).bi (h c d)/\True)/\True)/\((ou x.2/\ou d)/\(fe x.2/\fe d)/\(x.2.length<=1000000000/\d.length<=1000000000)/\dK (bX x.2) (bX d)=g)/\(bX d).toNat<(bX x.2).toNat))/\(v=false->(h c x.1).bi (h c (bU g)))) (by kernel_rfl) ?_;simp only[vcs];have r:ou []:=by simp[ou]
 have N:=ek l;have E:=ek k;have z:bX []=0:=rfl;rw[z,εi,εi];obtain⟨Q,y,D⟩:=fo N;obtain⟨o,w,H⟩:=fo E;have p:(bU (bX a)).length<=1000000000:=by
  rw[<-oq l];grind[rG]
 have j:(bU (bX b)).length<=1000000000:=by
  rw[<-oq k];grind[rG]
 refine⟨⟨⟨l,r⟩,by omega,by omega⟩,⟨⟨k,r⟩,by omega,by omega⟩,⟨⟨y,w⟩,⟨D,H⟩,⟨p,j⟩,by rw[Q,o]⟩,?_⟩;rintro⟨s,t⟩ ⟨⟨u,q⟩,⟨J,C⟩,⟨O,G⟩,F⟩;simp only at u q J C G O F ⊢;have T:=ek u;have U:=ek q;refine⟨λB=>?_,λB=>?_⟩
 ·have h:0<bX t:=by
   grind[val_zero]
  have K:=δQ (bX s) (show bX t≠0 by omega);have A:=δr (bX s) h;obtain⟨I,M,S⟩:=fo K;have P:=EK M q S (by rw[I];omega);grind[U_]
 ·have R:t=[]:=χ (by omega);grind[U9,xR]
def nH (q:Rat):SV:=.agg (cR sF (nf q))
def bL (x:NH):Prop:=∃q k,x=nf q/\Sz k q/\k<=100000000
def eM (s:Bool) (n d:Int):Rat:=mkRat (if s then -n else n) d.toNat
def zZ:NG:=⟨137,Int,.one (dX .i64),λn=> -9223372036854775808<=(show Int from n)/\(show Int from n)<=9223372036854775807,λn=> .row (.i .u32) (bU ((show Int from n).natAbs:Int))⟩
theorem yY:Holds Tryz.prog zZ:=by
 refine bM (L:=[vt]) zZ lk (by grind[qX]) ?_;intro(n:Int) h;obtain⟨e,f⟩: -9223372036854775808<=n/\n<=9223372036854775807:=h;refine NI (let e:=(18446744073709551616:Int);let f:=(1:Int);let g:=(0:Int);let h:=γa;let d:=decide (n<g);let a:=(-(n+f)+f) % e;let b:=ew.i .u32;let c:=h b (bU (↑n.natAbs:Int));(d=true->VL .i64 (n+f)/\VL .i64 (-(n+f))/\VL .u64 (-(n+f))/\(g<=a/\a<e)/\(h b (bU a)).bi c)/\(d=false->VL .u64 n/\(g<=n/\n<e)/\(h b (bU n)).bi c)) (by kernel_rfl) ?_;simp only[vcs];grind[u64_in]
def wW:NG:=⟨167,Bool×(List Int×List Int),.cons Nm (.cons (cO (.i .u32)) (.one (cO (.i .u32)))),λa=>(ou a.2.1/\ou a.2.2)/\(a.2.1.length<=1000000000/\a.2.2.length<=1000000000)/\0<bX a.2.2,
 λa=> .Gz [nH (eM a.1 (bX a.2.1) (bX a.2.2)),.si .i64 0]⟩
theorem uc:Holds Tryz.prog wW:=by
 refine bM (L:=[z6,z_]) wW lk (by grind[su,sr]) ?_;rintro⟨s,n,d⟩ ⟨⟨c,f⟩,⟨t,p⟩,j⟩;simp only at c f t p j;refine NI (let b:=SV.bl false;let c:=γC .i64;let e:=γa;let f:=(0:Int);let g:=γN;let h:=SV.Gz;let k:=e (ew.i .i64) [];let w:=nf (eM s (bX n) (bX d));let l:=ew.i .u32;let y:=h [g [γB w.1,e l w.2.1,e l w.2.2],γj .i64 0];let a:=bU (dK (bX n) (bX d));let C:=bU (bX n / bX a);let B:=decide ((↑d.length:Int)=f);let F:=false=true->(h [g [b,k,k],c 8]).bi y;let E:=λ(u:Bool) (v:SV) ↦s=u->(h [g [v,e l C,e l (bU (bX d / bX a))],c 0]).bi y;(B=true->(h [g [b,k,k],c 8]).bi y)/\(B=false->((ou n/\ou d)/\n.length<=1000000000/\d.length<=1000000000)/\((ou n/\ou a)/\(n.length<=10000000000/\a.length<=10000000000)/\f<bX a)/\((ou d/\ou a)/\(d.length<=10000000000/\a.length<=10000000000)/\f<bX a)/\F/\(false=false->F/\(false=false->E true (γB (decide (f<(↑C.length:Int))))/\E false (b))))) (by kernel_rfl) ?_;simp only[vcs];have D:=ek c;have b:0<dK (bX n) (bX d):=by
  simp_all[dK]
 have K:dK (bX n) (bX d)<=bX d:=by
  unfold dK;have:=Nat.gcd_le_right (bX n).toNat (show 0<(bX d).toNat by omega);omega
 have o:dK (bX n) (bX d)∣bX n:=by
  unfold dK;have:=θa (bX n).toNat (bX d).toNat;have S:=Int.natCast_dvd_natCast.2 this;grind
 obtain⟨R,q,Q⟩:=fo (γg b);have I:=EK q (qs f) Q (by grind[pG]);have P:=@rG d;have A:0<=bX n / dK (bX n) (bX d):=δ1 D (γg b);obtain⟨N,H,M⟩:=fo A;have G:(0<((bU (bX n / dK (bX n) (bX d))).length:Int))↔0<bX n:=by
  obtain⟨m,e⟩:=o;have r:bX n / dK (bX n) (bX d)=m:=by
   conv=>lhs;arg 1;rw[e]
   rw[ζx _ (by omega)]
  rw[r] at N H M ⊢;have z:0<bX n↔0<m:=by
   generalize dK (bX n) (bX d)=g at*;rw[e];constructor;·grind
   ·intro h;exact εB b h
  rw[z];constructor
  ·intro h;by_cases e:m=0;·rw[e] at h;exact absurd h (by decide)
   ·omega
  ·intro h;by_cases T:(bU m).length=0<;>grind[bU,bX]
 have O:d.length≠0:=by
  intro h;rw[χ h] at j;exact absurd j (by decide)
 unfold eM;rw[LQ D j,R];simp only;refine⟨λh=>absurd h (by omega),λ_=>⟨⟨⟨c,f⟩,by omega,by omega⟩,⟨⟨c,q⟩,by omega,b⟩,⟨⟨f,q⟩,by omega,b⟩,?_⟩⟩;have J:decide (0<((bU (bX n / dK (bX n) (bX d))).length:Int))=decide (0<bX n):=by
  simp_all
 refine⟨λh=>absurd h (by decide),λ_=>⟨λh=>absurd h (by decide),λ_=>⟨λx=>?_,λx=>?_⟩⟩⟩
 ·rw[x,J];rfl
 ·rw[x];rfl
def vZ:NG:=⟨136,Bool×(List Int×List Int),.cons Nm (.cons (cO (.i .u32)) (.one (cO (.i .u32)))),λa=>(ou a.2.1/\ou a.2.2)/\(a.2.1.length<=1000000000/\a.2.2.length<=1000000000)/\0<bX a.2.2,
 λa=>nH (eM a.1 (bX a.2.1) (bX a.2.2))⟩
theorem qY:Holds Tryz.prog vZ:=by
 refine bM (L:=[wW]) vZ lk (by grind[uc]) ?_;rintro⟨s,n,d⟩ ⟨⟨h,g⟩,⟨a,c⟩,f⟩;simp only at h g a c f;refine NI (let b:=nf (eM s (bX n) (bX d));let e:=γN [γB b.1,γa (ew.i .u32) b.2.1,γa (ew.i .u32) b.2.2];((ou n/\ou d)/\(n.length<=1000000000/\d.length<=1000000000)/\(0:Int)<bX d)/\e.bi e) (by kernel_rfl) ?_;simp_all[vcs]
def mj:NG:=⟨101,Int,.one (dX .i64),λn=> -9223372036854775808<=(show Int from n)/\(show Int from n)<=9223372036854775807,λn=>nH ((show Int from n):Rat)⟩
theorem nG:Holds Tryz.prog mj:=by
 refine bM (L:=[zZ,vt,vZ]) mj lk (by grind[yY,qX,qY]) ?_;intro(n:Int) h;obtain⟨o,p⟩: -9223372036854775808<=n/\n<=9223372036854775807:=h;refine NI (let e:=γa;let g:=(1:Int);let h:=(0:Int);let c:=bU (↑n.natAbs:Int);let b:=bU g;let f:=nf (eM (decide (n<h)) (bX c) (bX b));let a:=ew.i .u32;let d:=nf (κ n);((-9223372036854775808:Int)<=n/\n<=(9223372036854775807:Int))/\(h<=g/\g<(18446744073709551616:Int))/\((ou c/\ou b)/\(c.length<=1000000000/\b.length<=1000000000)/\h<bX b)/\(γN [γB f.1,e a f.2.1,e a f.2.2]).bi (γN [γB d.1,e a d.2.1,e a d.2.2])) (by kernel_rfl) ?_;conv=>zeta
 obtain⟨j,g,t⟩:=fo (show(0:Int)<=(n.natAbs:Int) by omega);obtain⟨l,m,s⟩:=fo (show(0:Int)<=1 by omega);have u:=lB (k:=2) (show(0:Int)<=(n.natAbs:Int) by omega) (by omega);have q:=lB (k:=1) (show(0:Int)<=1 by omega) (by decide);refine⟨⟨o,p⟩,⟨by omega,by omega⟩,⟨⟨g,m⟩,⟨by omega,by omega⟩,by omega⟩,?_⟩;have e:eM (decide (n<0)) (bX (bU (n.natAbs:Int))) (bX (bU 1))=κ n:=by
  rw[j,l];unfold eM;have r:(if decide (n<0)=true then -(n.natAbs:Int) else(n.natAbs:Int))=n:=by
   grind
  grind[Rat.mkRat_one]
 rw[e];rfl
def iP (q:Rat):Int:=if q<0 then -1 else if 0<q then 1 else 0
def p_:NG:=⟨142,NH,.one (dD sF),bL,λx=> .si .i64 (iP (TL x))⟩
theorem sA:Holds Tryz.prog p_:=by
 refine bM (L:=[]) p_ lk (by simp) ?_;intro(x:NH) h;obtain⟨q,k,rfl,m,f⟩:bL x:=h;refine NI (let c:=γC .i64;let b:=decide ((↑(γd (nf q).2.1):Int)=(0:Int));let a:=γj .i64 (iP (TL (nf q)));(b=true->(c 0).bi a)/\(b=false->((nf q).1=true->(c (-1:Int)).bi a)/\((nf q).1=false->(c 1).bi a))) (by kernel_rfl) ?_;simp only[vcs];rw[dJ];have e:((nf q).2.1.length:Int)=0↔q.num=0:=by
  unfold nf;simp only;obtain⟨d,j,i⟩:=fo (show(0:Int)<=(q.num.natAbs:Int) by omega);constructor
  ·intro h;rw[χ (by omega:(bU (q.num.natAbs:Int)).length=0)] at d;grind[bX]
  ·intro h;rw[h];rfl
 have c:(nf q).1=decide (q<0):=rfl;have n:=@Rat.num_nonneg q;have l:q<0↔q.num<0:=by
  grind
 have g:0<q↔0<q.num:=by
  grind[Rat.num_eq_zero]
 rw[e,c];simp only[decide_eq_true_eq,decide_eq_false_iff_not];unfold iP;grind
def sJ (x:NH):Prop:=(ou x.2.1/\ou x.2.2)/\x.2.1.length<=100000000/\x.2.2.length<=100000000
def zY:NG:=⟨139,NH×NH,.cons (dD sF) (.one (dD sF)),λa=>sJ a.1/\sJ a.2,λa=> .Gz [.row (.i .u32) (bU (bX a.1.2.1*bX a.2.2.2)),.row (.i .u32) (bU (bX a.2.2.1*bX a.1.2.2))]⟩
theorem yX:Holds Tryz.prog zY:=by
 refine bM (L:=[vu]) zY lk (by grind[qU]) ?_;rintro⟨⟨s,n,d⟩,⟨o,b,a⟩⟩ ⟨⟨⟨e,j⟩,g,f⟩,⟨⟨k,h⟩,l,m⟩⟩;simp only at e j g f k h l m;refine NI (let c:=SV.Gz [γa (ew.i .u32) (bU (bX n*bX a)),γa (ew.i .u32) (bU (bX b*bX d))];((ou n/\ou a)/\n.length<=100000000000/\a.length<=100000000000)/\((ou b/\ou d)/\b.length<=100000000000/\d.length<=100000000000)/\c.bi c) (by kernel_rfl) ?_;simp only[vcs];grind
theorem zW {p q:Rat} (h:p=q):(γN [.sb (nf p).1,.row (.i .u32) (nf p).2.1,.row (.i .u32) (nf p).2.2]).bi (.agg [.sb (nf q).1,.row (.i .u32) (nf q).2.1,.row (.i .u32) (nf q).2.2]):=by subst h;rfl
theorem sI (q:Rat):q.num=if decide (q<0) then -(q.num.natAbs:Int) else(q.num.natAbs:Int):=by
 have a:=@Rat.num_nonneg q;grind
theorem kN (q:Rat):(nf q).1=decide (q<0)/\(ou (nf q).2.1/\fe (nf q).2.1/\bX (nf q).2.1=(q.num.natAbs:Int))/\(ou (nf q).2.2/\fe (nf q).2.2/\bX (nf q).2.2=(q.den:Int)):=by
 obtain⟨f,e,d⟩:=fo (show(0:Int)<=(q.num.natAbs:Int) by omega);obtain⟨b,c,a⟩:=fo (show(0:Int)<=(q.den:Int) by omega);exact⟨rfl,⟨e,d,f⟩,⟨c,a,b⟩⟩
theorem mZ {q:Rat} {k:Nat} (h:Sz k q):(nf q).2.1.length<=k/\(nf q).2.2.length<=k:=
 ⟨lB (by omega) h.1,lB (by omega) h.2⟩
theorem Vl (q:Rat):eM (!decide (q<0)) (q.num.natAbs:Int) (q.den:Int)= -q:=by
 unfold eM;have h:=sI q;have e:(if(!decide (q<0))=true then -(q.num.natAbs:Int) else(q.num.natAbs:Int))= -q.num:=by
  grind
 grind[δY,Rat.neg_mkRat]
def vY:NG:=⟨145,NH,.one (dD sF),bL,λx=>nH (-(TL x))⟩
theorem qW:Holds Tryz.prog vY:=by
 refine bM (L:=[vZ]) vY lk (by grind[qY]) ?_;intro(x:NH) h;obtain⟨q,k,rfl,f,g⟩:bL x:=h;refine NI (let f:=γa;let c:=(nf q).2.1;let a:=(nf q).2.2;let d:=nf (eM (!(nf q).1) (bX c) (bX a));let b:=ew.i .u32;let e:=(nf (-TL (nf q))).2;((ou c/\ou a)/\(γd c<=1000000000/\γd a<=1000000000)/\(0:Int)<bX a)/\(γN [γB d.1,f b d.2.1,f b d.2.2]).bi (γN [γB (nf (-TL (nf q))).1,f b e.1,f b e.2])) (by kernel_rfl) ?_;conv=>zeta
 obtain⟨s,⟨r,p,u⟩,⟨o,l,n⟩⟩:=kN q;obtain⟨j,m⟩:=mZ f;have t:=q.den_pos;grind[zW,dJ,Vl]
theorem oY {a b:Int} {i j:Nat} (e:0<=a) (c:a<4294967296^i) (d:b<4294967296^j):a*b<4294967296^(i+j):=by
 rw[δ9];exact εJ (Φ (γg d) e) (γ5 c (pow_pos _))
theorem LL {p q:Rat} {i j:Nat} (c:Sz i p) (b:Sz j q):∃X Y D:Int,bX (nf p).2.1*bX (nf q).2.2=X/\bX (nf q).2.1*bX (nf p).2.2=Y/\bX (nf p).2.2*bX (nf q).2.2=D/\0<=X/\0<=Y/\0<D/\
  (bU X).length<=i+j/\(bU Y).length<=i+j/\(bU (X+Y)).length<=i+j+1/\(bU (X - Y)).length<=i+j/\(bU (Y - X)).length<=i+j/\(bU D).length<=i+j/\p.num*q.den=(if decide (p<0) then -X else X)/\q.num*p.den=(if decide (q<0) then -Y else Y)/\((p.den*q.den:Nat):Int)=D:=by
 obtain⟨_,⟨_,_,l⟩,⟨_,_,r⟩⟩:=kN p;obtain⟨_,⟨_,_,n⟩,⟨_,_,m⟩⟩:=kN q;rw[l,r,n,m];have s:=p.den_pos;have t:=q.den_pos;have k:=oY (a:=(p.num.natAbs:Int)) (by omega) c.1 b.2;have d:=oY (a:=(q.num.natAbs:Int)) (by omega) b.1 c.2;rw[Nat.add_comm j i] at d;have o:=oY (a:=(p.den:Int)) (by omega) c.2 b.2;have f:0<=(p.num.natAbs:Int)*q.den:=γy (by omega) (by omega);have e:0<=(q.num.natAbs:Int)*p.den:=γy (by omega) (by omega);have g:0<(p.den:Int)*q.den:=εB (by omega) (by omega);have v:=sI p;have u:=sI q;refine⟨_,_,_,rfl,rfl,rfl,f,e,g,lB f k,lB e d,lB (by omega) ?_,?_,?_,lB (by omega) o,?_,?_,by push_cast;rfl⟩;·omega
 ·by_cases h:(p.num.natAbs:Int)*q.den - (q.num.natAbs:Int)*p.den<=0;·grind[ES]
  ·exact lB (by omega) (by omega)
 ·by_cases h:(q.num.natAbs:Int)*p.den - (p.num.natAbs:Int)*q.den<=0;·grind[ES]
  ·exact lB (by omega) (by omega)
 all_goals grind
theorem Vk {p q:Rat} {s:Bool} {n D:Int} (a:((p.den*q.den:Nat):Int)=D) (h:p.num*q.den+q.num*p.den=if s then -n else n):eM s n D=p+q:=by
 rw[LP];grind[eM]
theorem zV {p:Rat} {k:Nat} (h:Sz k p) (c:k<=100000000):sJ (nf p):=by
 obtain⟨_,⟨a,_,_⟩,⟨b,_,_⟩⟩:=kN p;have:=mZ h;exact⟨⟨a,b⟩,by omega,by omega⟩
def gK (p q:Rat):Int:=if p<q then -1 else if q<p then 1 else 0
def uj:NG:=⟨102,NH×NH,.cons (dD sF) (.one (dD sF)),λa=>bL a.1/\bL a.2,λa=> .si .i64 (gK (TL a.1) (TL a.2))⟩
theorem zb:Holds Tryz.prog uj:=by
 refine bM (L:=[zY,vN]) uj lk (by grind[yX,qV]) ?_;rintro⟨x,y⟩ ⟨⟨p,i,t,w,S⟩,⟨q,j,r,o,T⟩⟩;simp only at t r;subst t r;refine NI (let a:=(nf p).1;let g:=γj .i64 (gK (TL (nf p)) (TL (nf q)));let s:=λ(u:Bool) (c b:Rat) ↦let k:=bU (bX (nf c).2.1*bX (nf b).2.2);let l:=bU (bX (nf b).2.1*bX (nf c).2.2);a=u->((ou k/\ou l)/\k.length<=1000000000000/\l.length<=1000000000000)/\(γj .i64 (kV (bX k) (bX l))).bi g;((!a==(nf q).1)=true->(a=true->(γC .i64 (-1:Int)).bi g)/\(a=false->(γC .i64 1).bi g))/\((!a==(nf q).1)=false->(sJ (a,(nf p).2.1,(nf p).2.2)/\sJ ((nf q).1,(nf q).2.1,(nf q).2.2))/\s true q p/\s false p q)) (by kernel_rfl) ?_;conv=>zeta
 obtain⟨C,_,_⟩:=kN p;obtain⟨P,_,_⟩:=kN q;obtain⟨X,Y,D,E,M,hD,G,N,U,l1,l2,l3,l4,Z,V,B,A,W⟩:=LL w o;obtain⟨J,v,c3⟩:=fo G;obtain⟨K,n,c6⟩:=fo N;simp only[dJ,E,M,J,K,C,P];simp only[vcs];have hl:p<q↔p.num*q.den<q.num*p.den:=Rat.lt_iff p q;have R:q<p↔q.num*p.den<p.num*q.den:=Rat.lt_iff q p;have O:=@Rat.num_nonneg p;have H:=@Rat.num_nonneg q;have m:∀{z:Int},(z=if p.num*q.den<q.num*p.den then -1 else if q.num*p.den<p.num*q.den then 1 else 0)->z=gK p q:=λh=>by
  grind[gK]
 have Q:p<0->0<X:=λh=>by
  rw[if_pos (by simpa using h)] at B;have f:p.num<0:=by grind
  have:=εu f (show(0:Int)<q.den by grind);omega
 have F:q<0->0<Y:=λh=>by
  rw[if_pos (by simpa using h)] at A;have f:q.num<0:=by grind
  have:=εu f (show(0:Int)<p.den by grind);omega
 rw[B,A] at m;refine⟨λI=>⟨λd=>?_,λd=>?_⟩,λhe=>⟨⟨zV w S,zV o T⟩,λd=>⟨⟨⟨n,v⟩,by omega,by omega⟩,?_⟩,λd=>⟨⟨⟨v,n⟩,by omega,by omega⟩,?_⟩⟩⟩;·grind
 ·grind
 ·apply m;have e:q<0:=by
   grind
  simp only[decide_eq_true_eq,d,e,if_true,if_false];simp only[Int.neg_lt_neg_iff];rfl
 ·apply m;have e:¬q<0:=λe=>by grind
  simp only[decide_eq_true_eq,d,e,if_true,if_false];rfl
def sH:NG:=⟨134,NH×NH,.cons (dD sF) (.one (dD sF)),λa=>bL a.1/\bL a.2,λa=>nH (TL a.1+TL a.2)⟩
theorem o9:Holds Tryz.prog sH:=by
 refine bM (L:=[zY,vu,xQ,ER,vZ]) sH lk (by grind[yX,qU,ub,IJ,qY]) ?_;rintro⟨x,y⟩ ⟨⟨p,i,J,w,S⟩,⟨q,j,E,B,hj⟩⟩;simp only at J E;subst J E;refine NI (let h:=γa;let j:=γN;let m:=(nf q).2.2;let f:=bU (bX (nf p).2.1*bX m);let t:=(nf p).2.2;let k:=bU (bX (nf q).2.1*bX t);let a:=bU (bX t*bX m);let g:=ew.i .u32;let z:=nf (TL (nf p)+TL (nf q));let o:=j [γB z.1,h g z.2.1,h g z.2.2];let v:=(nf p).1==(nf q).1;let c:=bU (bX f+bX k);let d:=nf (eM (nf p).1 (bX c) (bX a));let I:=(ou f/\ou k)/\f.length<=100000000000/\k.length<=100000000000;let K:=λ(u r:Rat) ↦let e:=bU (bX (bU (bX (nf u).2.1*bX (nf r).2.2)) - bX (bU (bX (nf r).2.1*bX (nf u).2.2)));let b:=nf (eM (nf u).1 (bX e) (bX a));((ou e/\ou a)/\(e.length<=1000000000/\a.length<=1000000000)/\(0:Int)<bX a)/\(j [γB b.1,h g b.2.1,h g b.2.2]).bi o;let F:=λ(u:Bool) ↦decide (bX k<=bX f)=u;(sJ ((nf p).1,(nf p).2.1,t)/\sJ ((nf q).1,(nf q).2.1,m))/\((ou t/\ou m)/\γd t<=100000000000/\γd m<=100000000000)/\(v=true->I/\((ou c/\ou a)/\(c.length<=1000000000/\a.length<=1000000000)/\(0:Int)<bX a)/\(j [γB d.1,h g d.2.1,h g d.2.2]).bi o)/\(v=false->I/\(F true->K p q)/\(F false->((ou k/\ou f)/\k.length<=100000000000/\f.length<=100000000000)/\K q p))) (by kernel_rfl) ?_;conv=>zeta
 obtain⟨O,⟨u1,_,_⟩,⟨u2,_,_⟩⟩:=kN p;obtain⟨W,⟨u3,_,_⟩,⟨P,_,_⟩⟩:=kN q;obtain⟨m1,m2⟩:=mZ w;obtain⟨m3,m4⟩:=mZ B;obtain⟨X,Y,D,T,Q,hD,U,R,C,l1,l2,l3,l4,l5,l6,n1,n2,n3⟩:=LL w B;obtain⟨N,H,c3⟩:=fo U;obtain⟨c4,G,c6⟩:=fo R;obtain⟨c7,V,c9⟩:=fo (γg C);obtain⟨s1,M,s3⟩:=fo (show 0<=X+Y by omega);simp only[dJ,T,Q,hD,N,c4,c7,s1,O,W];simp only[vcs];have l:∀{s:Bool} {n:Int},(p.num*q.den+q.num*p.den=if s then -n else n)->(γN [.sb (nf (eM s n D)).1,.row (.i .u32) (nf (eM s n D)).2.1,.row (.i .u32) (nf (eM s n D)).2.2]).bi (.agg [.sb (nf (p+q)).1,.row (.i .u32) (nf (p+q)).2.1,.row (.i .u32) (nf (p+q)).2.2]):=
  λh=>zW (Vk n3 h);rw[n1,n2] at l;refine⟨⟨zV w S,zV B hj⟩,⟨⟨u2,P⟩,by omega,by omega⟩,λZ=>⟨⟨⟨H,G⟩,by omega,by omega⟩,⟨⟨M,V⟩,⟨by omega,by omega⟩,C⟩,l ?_⟩,λZ=>⟨⟨⟨H,G⟩,by omega,by omega⟩,λA=>?_,λA=>?_⟩⟩;all_goals grind[fo]
def wE:NG:=⟨144,NH×NH,.cons (dD sF) (.one (dD sF)),λa=>bL a.1/\bL a.2,λa=>nH (TL a.1 - TL a.2)⟩
theorem Cj:Holds Tryz.prog wE:=by
 refine bM (L:=[vY,sH]) wE lk (by grind[qW,o9]) ?_;rintro⟨x,y⟩ ⟨⟨p,i,k,m,n⟩,⟨q,j,g,l,o⟩⟩;simp only at k g;subst k g;refine NI (let g:=γa;let b:=((nf q).1,(nf q).2.1,(nf q).2.2);let e:=((nf p).1,(nf p).2.1,(nf p).2.2);let h:=(nf (-TL b)).2;let f:=((nf (-TL b)).1,h.1,h.2);let d:=nf (TL e+TL f);let a:=ew.i .u32;let c:=nf (TL (nf p) - TL (nf q));bL b/\(bL e/\bL f)/\(γN [γB d.1,g a d.2.1,g a d.2.2]).bi (γN [γB c.1,g a c.2.1,g a c.2.2])) (by kernel_rfl) ?_;grind[bL,wX,zW,dJ]
theorem EJ {a:List Int} (h:ou a) (c:fe a) (b:a≠[]):0<bX a:=by
 have:=ek h;grind[val_zero]
def okF (x:NH):Bool:=decide (nf (TL x)=x)
theorem LK {n d:Int} (h:0<d):0<dK n d:=by
 simp_all[dK]
theorem Vj {s:Bool} {n d:List Int} (h:okF (s,(n,d))=true):fe n/\fe d/\d≠[]:=by
 have h:=of_decide_eq_true h;have b:=fo (show(0:Int)<=((TL (s,(n,d))).num.natAbs:Int) by omega);have a:=fo (show(0:Int)<=((TL (s,(n,d))).den:Int) by omega);have e:bU ((TL (s,(n,d))).num.natAbs:Int)=n:=congrArg (λx=>x.2.1) h;have c:bU ((TL (s,(n,d))).den:Int)=d:=congrArg (λx=>x.2.2) h;rw[e] at b;rw[c] at a;refine⟨b.2.2,a.2.2,λf=>?_⟩;have g:=a.1;rw[f] at g;have:=(TL (s,(n,d))).den_pos;grind[bX]
theorem okF_eq {s:Bool} {n d:List Int} (e:ou n) (m:ou d) (l:fe n) (p:fe d) (b:d≠[]):
  okF (s,(n,d))=if n=[] then !s&&decide (d=[1]) else decide (dK (bX n) (bX d)=1):=by
 have c:=EJ m p b;have r:=ek e;have j:TL (s,(n,d))=mkRat (if s then -bX n else bX n) (bX d).toNat:=rfl;have o:=@LQ s (bX n) (bX d) r c;have u:=@LK (bX n) (bX d) c;unfold okF;rw[j,o];by_cases a:n=[]
 ·rw[if_pos a,a];have i:dK (bX []) (bX d)=bX d:=by unfold dK;simp[bX];omega
  have k:bU (bX d / dK (bX []) (bX d))=[1]:=by rw[i,Int.ediv_self (by omega)];rfl
  have f:bU (bX [] / dK (bX []) (bX d))=[]:=by
   have:bX []=0:=rfl;rw[this,Int.zero_ediv];rfl
  rw[k,f];have v:decide (0<bX [])=false:=rfl;grind
 ·rw[if_neg a];have q:=EJ e l a;rw[decide_eq_true (show 0<bX n from q),Bool.and_true];rw[θd,decide_eq_true_eq,decide_eq_true_eq];constructor
  ·intro h;injection h with h1 h2;injection h2 with h2 h3;have g:=(fo (show 0<=bX d / dK (bX n) (bX d) from δ1 (by omega) (by omega))).1;rw[h3] at g;by_cases t:dK (bX n) (bX d)=1;·exact t
   ·have:=Int.ediv_lt_self_of_pos_of_ne_one c (by omega:dK (bX n) (bX d)≠1);omega
  grind[xR]
theorem Vh {l:List Int} (h:l.length=0\/bN l (l.length - 1) 0≠0):fe l:=by
 rcases h with h|h;·rw[χ h];trivial
 ·by_cases b:l.length=0;·rw[χ b];trivial
  ·have c:=zB (a:=l) (n:=l.length - 1) (by omega);grind[FM]
def qj (a:List Int):Bool:=decide (a.length=0)||decide (bN a (a.length - 1) 0≠0)
theorem sj {a:List Int}:qj a=true↔fe a:=by
 unfold qj;rw[Bool.or_eq_true,decide_eq_true_eq,decide_eq_true_eq];constructor;·exact Vh
 ·intro h;by_cases e:a.length=0;·exact .inl e
  ·right;have b:=zB (a:=a) (n:=a.length - 1) (by omega);rw[show a.length - 1+1=a.length by omega,φ] at b;have:∀{l:List Int} {x:Int},fe (l++[x])->x≠0:=by
    intro l x;induction l with
    |nil=>intro h;exact h.1 rfl;|cons d l c=>intro h;exact c h.2
   grind
end Go.Vi
