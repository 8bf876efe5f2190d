/-
  Plain law: what pivots keep: the solutions, the variables, and the determinant of the basis; Cramer's rule for the coefficients.
  Conditions: none.
-/
import Derived.Test.YtbnhiekmnpikhaaGreatDF06
import Derived.Test.YtbnhiekmnpikhaaGreatDF07
import Derived.Test.YtbnhiekmnpikhaaGreatDF08
import Derived.Test.YtbnhiekmnpikhaaGreatProg
import Derived.Shelf.Sort.AssemblyIn
import Derived.Shelf.SlicesE.Clone
import Derived.Shelf.SlicesE.Delete
import Derived.Shelf.SlSortCmp.NoneTotal
import Derived.KernelRfl
import Derived.Sort.EveryDepth
import Derived.Sort.OwnSortedInts
import Derived.WalkKit
import Derived.Deep.LoopGhost
import Derived.Lib.Walk
import Derived.Lib.SliceRun
import Derived.Shelf.RegionOpenPlain
set_option maxRecDepth 100000
set_option maxHeartbeats 4000000
set_option linter.all false
open And renaming intro->γl
open Bool renaming and_eq_true->θ
open Classical renaming byContradiction->δc
open Go.Vi.AV renaming sc->δe
open Go.Vi.AV.os renaming injEq->εy
open Go.Vi.AV.sc renaming injEq->δd
open Go.Vi.AV.sl renaming injEq->δ5
open Go.Vi.SV renaming g->γF,si->γd,ow->γZ,row->Ω,ptr->γQ,sb->γA,il->γB
open Int renaming toNat_natCast->γn
open List renaming cons_append->γJ,length_cons->γD,nodup_append->γw,range->ω,length_map->Φ,mem_map->Θ,getElem_of_mem->γH,mem_append->γm,range_succ->εe,length_append->γh,map_map->γO,map_congr_left->γU,map_cons->ξ,map_nil->γv,nil_append->δK,length->γc,all_eq_true->τ,mem_of_mem_take->γo,range_eq_range'->δE,mergeSort_perm->δu,append_assoc->γY,take_append_drop->γK,pairwise_append->δY,drop->γ4,mem_of_mem_drop->γX,Pairwise->ζC,replicate->δ,getElem?_cons_zero->δn,getElem?_map->γG,getElem?_eq_some_iff->ζ
open List.Perm renaming refl->ζS
open List.cons renaming injEq->Γ
open Nat renaming le_refl->π,zero_le->δ4,lt_of_lt_of_le->γj
open Option renaming map_eq_some_iff->ε
open Option.some renaming injEq->γ
open Prod renaming ext->εC
open Rat renaming not_le->ζ0,mul_nonneg->δv
namespace Go.Vi
def me (f:Int->Rat):List Int->Rat
 |[]=>0
 |x::l=>f x+me f l
theorem AX {f:Int->Rat}:∀{l k:List Int},me f (l++k)=me f l+me f k
 |[],k=>by grind[me];|x::l,k=>by simp only[γJ,me,@AX f l k];grind
theorem Jh {f:Int->Rat} {l k:List Int} (h:l.Perm k):me f l=me f k:=by
 induction h<;>grind[me,swap,trans]
theorem R9:∀{n:Nat} {f:Nat->Rat},bO (n+1) f=f 0+bO n λi=>f (i+1)
 |0,f=>by grind[bO];|n+1,f=>by
  rw[bO,R9];grind[bO]
theorem qO {f:Int->Rat}:∀{l:List Int},me f l=bO l.length λk=>f (bj l k 0)
 |[]=>rfl
 |x::l=>by
  rw[γD,R9,me,qO];rfl
def ju (n:Nat) (t:Tb) (y:Nat->Rat) (v:Int):Rat:=if v∈t.free then y (t.free.idxOf v) else t.bd (t.basic.idxOf v) - bO n λj=>t.cf (t.basic.idxOf v) j*y j
section
variable {n m:Nat} {t t0:Tb} {r c:Nat}
theorem pr {l:List Int} {i:Nat} (h:l.Nodup) (a:i<l.length):l.idxOf (bj l i 0)=i:=by
 grind[cT]
theorem mM (h:t.WF n m) (c:(t.basic++t.free).Nodup) {y:Nat->Rat} {j:Nat} (a:j<n):ju n t y (t.fv j)=y j:=by
 have b:j<t.free.length:=by rw[h.free];exact a
 unfold ju Tb.fv;rw[if_pos (by grind[cT]),pr (γw.1 c).2.1 b]
theorem Ji (h:t.WF n m) (b:(t.basic++t.free).Nodup) {i:Nat} (a:i<m):t.bv i∉t.free:=λc=>by
 have d:i<t.basic.length:=by rw[h.basic];exact a
 grind[Tb.bv,cT]
theorem nI (h:t.WF n m) (a:(t.basic++t.free).Nodup) {y:Nat->Rat} {i:Nat} (c:i<m):ju n t y (t.bv i)=t.bd i - bO n λj=>t.cf i j*y j:=by
 have b:i<t.basic.length:=by rw[h.basic];exact c
 have e:t.basic.idxOf (t.bv i)=i:=pr (γw.1 a).1 b;unfold ju;grind
theorem asg_holds (h:t.WF n m) (a:(t.basic++t.free).Nodup) {y:Nat->Rat}:t.holds n m (ju n t y) (t.value+bO n λj=>t.cs j*y j):=by
 have e:∀f:Nat->Rat,bO n (λj=>f j*ju n t y (t.fv j))=bO n λj=>f j*y j:=λf=>dK λj c=>by grind[mM]
 refine⟨λi b=>?_,?_⟩
 ·rw[nI h a b,e];grind
 ·rw[e]
def fW (m:Nat) (a:Tb) (v:Int) (i:Nat):Rat:=if i<m then(if v∈a.free then a.cf i (a.free.idxOf v) else if a.basic.idxOf v=i then 1 else 0) else 0
def yo (m:Nat) (a:Tb) (i:Nat):Rat:=if i<m then a.bd i else 0
def jv (m:Nat) (a t:Tb):Rat:=jX (t.basic.map (fW m a)) (ω m)
structure Run (n m:Nat) (t0 t:Tb):Prop where
 oC:t0.WF n m
 wf:t.WF n m
 nd:(t0.basic++t0.free).Nodup
 perm:(t.basic++t.free).Perm (t0.basic++t0.free)
 mN:∀x z,t.holds n m x z↔t0.holds n m x z
 dt:jv m t0 t≠0
theorem Run.gp (h:Run n m t0 t):(t.basic++t.free).Nodup:=h.perm.symm.nodup h.nd
theorem Run.refl (h:t0.WF n m) (a:(t0.basic++t0.free).Nodup):Run n m t0 t0:=by
 refine⟨h,h,a,ζS _,λ_ _=>Iff.rfl,?_⟩;have e:t0.basic.map (fW m t0)=(ω m).map ym:=by
  refine List.ext_getElem (by simp[h.basic]) λi g d=>?_;simp only[List.getElem_map,List.getElem_range];have f:i<m:=by simp_all
  have b:t0.basic[i]'(by simp_all)=t0.bv i:=by grind[Tb.bv,cT]
  rw[b];funext k;have c:t0.basic.idxOf (t0.bv i)=i:=pr (γw.1 a).1 (by grind);unfold fW ym;grind
 grind[jv,RX]
theorem Run.rows (h:Run n m t0 t) {x:Int->Rat} {z:Rat} (l:t.holds n m x z) {i:Nat}:bO m (λk=>fW m t0 (t.bv k) i*x (t.bv k))+bO n (λj=>fW m t0 (t.fv j) i*x (t.fv j))=yo m t0 i:=by
 have b:∀t:Tb,t.WF n m->me (λv=>fW m t0 v i*x v) (t.basic++t.free)=bO m (λk=>fW m t0 (t.bv k) i*x (t.bv k))+bO n (λj=>fW m t0 (t.fv j) i*x (t.fv j)):=λt f=>by
  rw[AX,qO,qO,f.basic,f.free];rfl
 rw[<-b t h.wf,Jh h.perm,b t0 h.oC];have p:=(h.mN x z).1 l;unfold yo;by_cases a:i<m
 ·rw[if_pos a,<-p.1 i a];congr 1
  ·have e:bO m (λk=>fW m t0 (t0.bv k) i*x (t0.bv k))=bO m λk=>if k=i then x (t0.bv i) else 0:=dK λk d=>by
    have c:t0.basic.idxOf (t0.bv k)=k:=pr (γw.1 h.nd).1 (by rw[h.oC.basic];exact d);unfold fW;rw[if_pos a,if_neg (Ji h.oC h.nd d),c];grind
   rw[e,wm,if_pos a]
  ·refine dK λj g=>?_;have o:j<t0.free.length:=by rw[h.oC.free];exact g
   unfold fW;rw[if_pos a,if_pos (by grind[Tb.fv,cT])];have c:t0.free.idxOf (t0.fv j)=j:=pr (γw.1 h.nd).2.1 o;rw[c]
 ·rw[if_neg a];have e:∀v,fW m t0 v i=0:=λv=>by simp_all[fW,if_neg]
  simp only[e];grind[iT]
theorem Run.Si (h:Run n m t0 t):yo m t0=λi=>bO m λk=>t.bd k*fW m t0 (t.bv k) i:=by
 funext i;have a:=h.rows (i:=i) (asg_holds h.wf h.gp (y:=λ_=>0));rw[<-a,dK (n:=n) (g:=λ_=>0) λj c=>by rw[mM h.wf h.gp c];grind,iT,dK (n:=m) (g:=λk=>t.bd k*fW m t0 (t.bv k) i) λk b=>by
  rw[nI h.wf h.gp b,dK (g:=λ_=>0) λj _=>by grind,iT];grind];grind
theorem Run.ach (h:Run n m t0 t) {c:Nat} (a:c<n):fW m t0 (t.fv c)=λi=>bO m λk=>t.cf k c*fW m t0 (t.bv k) i:=by
 funext i;have f:=congrFun h.Si i;have b:=h.rows (i:=i) (asg_holds h.wf h.gp (y:=λj=>if j=c then 1 else 0));rw[dK (n:=n) (g:=λj=>if j=c then fW m t0 (t.fv c) i else 0) λj e=>by
  rw[mM h.wf h.gp e];grind,wm,if_pos a,dK (n:=m) (g:=λk=>t.bd k*fW m t0 (t.bv k) i+(-1)*(t.cf k c*fW m t0 (t.bv k) i)) λk d=>by
   rw[nI h.wf h.gp d,dK (g:=λj=>if j=c then t.cf k c else 0) λj _=>by
    grind,wm,if_pos a];grind,yn,wj] at b;grind
theorem getD_map {l:List Int} {f:Int->Nat->Rat} {k:Nat} (h:k<l.length):(l.map f).getD k (λ_=>0)=f (bj l k 0):=by
 grind[cT]
theorem Run.Sj (h:Run n m t0 t) {y:Nat->Rat} {r:Nat} (d:r<m):jX ((t.basic.map (fW m t0)).set r λi=>bO m λk=>y k*fW m t0 (t.bv k) i) (ω m)=y r*jv m t0 t:=by
 have b:(t.basic.map (fW m t0)).length=m:=by rw[Φ,h.wf.basic]
 have a:=@acf (t.basic.map (fW m t0)) (ω m) y r (by omega);unfold jv;rw[<-a,b];congr 2;funext i;refine dK λk c=>?_;rw[getD_map (by simp_all)];rfl
theorem Run.Sl (h:Run n m t0 t) {r c:Nat} (a:r<m) (b:c<n):jX ((t.basic.map (fW m t0)).set r (fW m t0 (t.fv c))) (ω m)=t.cf r c*jv m t0 t:=by
 rw[h.ach b];exact h.Sj (y:=λk=>t.cf k c) a
theorem Run.aci (h:Run n m t0 t) {r:Nat} (a:r<m):jX ((t.basic.map (fW m t0)).set r (yo m t0)) (ω m)=t.bd r*jv m t0 t:=by
 rw[h.Si];exact h.Sj (y:=t.bd) a
theorem set_perm {l:List Int} {r:Nat} {x:Int} (a:r<l.length):(l.set r x).Perm (x::(l.take r++l.drop (r+1))):=by
 rw[List.set_eq_take_append_cons_drop,if_pos a];simp_all
theorem acj {l:List Int} {r:Nat} (a:r<l.length):(l[r]::(l.take r++l.drop (r+1))).Perm l:=by
 have h:=@set_perm l r l[r] a;grind
theorem swap_perm {l k:List Int} {r c:Nat} (a:r<l.length) (b:c<k.length):(l.set r (bj k c 0)++k.set c (bj l r 0)).Perm (l++k):=by
 grind[cT]
theorem Run.piv (h:Run n m t0 t) {r c:Nat} (a:r<m) (b:c<n) (d:t.cf r c≠0):Run n m t0 (fV t r c) where
 oC:=h.oC;wf:=R1 h.wf;nd:=h.nd;perm:=(swap_perm (by rw[h.wf.basic];exact a) (by rw[h.wf.free];exact b)).trans h.perm;mN x z:=(piv_holds h.wf a b d).trans (h.mN x z);dt:=by
  have e:jv m t0 (fV t r c)=t.cf r c*jv m t0 t:=by
   rw[<-h.Sl a b];unfold jv;congr 1;show(t.basic.set r (t.fv c)).map (fW m t0)=_;simp_all
  rw[e];have:=h.dt;grind
theorem Ei {M:Nat} (d:1<=M) (c:∀i j,i<m->j<n->ff M (t0.cf i j)) (a:t0.WF n m) {v:Int} {i:Nat}:ff M (fW m t0 v i):=by
 unfold fW;split
 ·split
  ·rename_i b e;exact c _ _ b (by rw[<-a.free];grind)
  ·split;·exact⟨1,by simp,by omega⟩
   ·exact⟨0,by simp,by simp⟩
 ·exact⟨0,by simp,by simp⟩
theorem mem_set {C:List (Nat->Rat)} {r:Nat} {c d:Nat->Rat} (h:d∈C.set r c):d∈C\/d=c:=List.mem_or_eq_of_mem_set h
theorem Run.acn (h:Run n m t0 t) {M:Nat} (a:1<=M) (c:∀i j,i<m->j<n->ff M (t0.cf i j)):ff (nH M m) (jv m t0 t):=by
 have:=@Ed M (t.basic.map (fW m t0)) (ω m) (by simp[h.wf.basic]) λd b i _=>by
  obtain⟨v,_,rfl⟩:=Θ.1 b;exact Ei a c h.oC
 rwa [List.length_range] at this
theorem Run.cfZ (h:Run n m t0 t) {M:Nat} (e:1<=M) (b:∀i j,i<m->j<n->ff M (t0.cf i j)) {r c:Nat} (f:r<m) (g:c<n):ff (nH M m) (t.cf r c*jv m t0 t):=by
 rw[<-h.Sl f g];have:=@Ed M ((t.basic.map (fW m t0)).set r (fW m t0 (t.fv c))) (ω m) (by simp[h.wf.basic]) λd a i _=>by
  rcases mem_set a with a|rfl
  ·obtain⟨v,_,rfl⟩:=Θ.1 a;exact Ei e b h.oC
  ·exact Ei e b h.oC
 simp_all
theorem Run.bdZ (h:Run n m t0 t) {M:Nat} (b:1<=M) (c:∀i j,i<m->j<n->ff M (t0.cf i j)) (f:∀i,i<m->ff M (t0.bd i)) {r:Nat} (e:r<m):ff (nH M m) (t.bd r*jv m t0 t):=by
 rw[<-h.aci e];have:=@Ed M ((t.basic.map (fW m t0)).set r (yo m t0)) (ω m) (by simp[h.wf.basic]) λd a i g=>by
  rcases mem_set a with a|rfl
  ·obtain⟨v,_,rfl⟩:=Θ.1 a;exact Ei b c h.oC
  simp_all[yo]
 simp_all
end
structure qP (n m:Nat) (t:Tb) (r c:Nat):Prop where
 hr:r<m
 hc:c<n
 cost:0<t.cs c
 least:∀j,j<n->0<t.cs j->t.fv c<=t.fv j
 pos:0<t.cf r c
 ratio:∀i,i<m->0<t.cf i c->t.bd r / t.cf r c<t.bd i / t.cf i c\/(t.bd r / t.cf r c=t.bd i / t.cf i c/\t.bv r<=t.bv i)
def ko (m:Nat) (t:Tb):Prop:=∀i,i<m->0<=t.bd i
section
variable {n m:Nat} {t t0:Tb} {r c:Nat}
theorem AY (a b:Rat):a<=b\/b<a:=(Classical.em (a<=b)).imp id ζ0.1
theorem div_mul {a b:Rat} (h:0<b):a / b*b=a:=by
 grind
theorem inv_pos {b:Rat} (h:0<b):0<1 / b:=by
 have c:(1 / b)*b=1:=div_mul h;rcases AY (1 / b) 0 with a|a
 ·exfalso;have d:0<=(-(1 / b))*b:=δv (by grind) (by grind);grind
 ·exact a
theorem Sm {a b:Rat} (c:0<=a) (h:0<b):0<=a / b:=by
 grind[δv,inv_pos]
theorem qP.ge (h:qP n m t r c) (a:ko m t):0<=t.bd r / t.cf r c:=Sm (a r h.hr) h.pos
theorem qP.yp (h:qP n m t r c) (k:t.WF n m) (d:ko m t):ko m (fV t r c):=by
 intro i a;have f:=h.ge d;have e:t.bd r*(1 / t.cf r c)=t.bd r / t.cf r c:=by grind
 rw[Eh k a,e];split;·exact f
 ·rcases AY (t.cf i c) 0 with b|b
  ·have j:0<=(-(t.cf i c))*(t.bd r / t.cf r c):=δv (by grind) f;have:=d i a;grind
  ·have j:t.bd r / t.cf r c<=t.bd i / t.cf i c:=by
    rcases h.ratio i a b with g|g<;>grind
   have g:0<=t.cf i c*(t.bd i / t.cf i c - t.bd r / t.cf r c):=δv (by grind) (by grind);grind[div_mul]
theorem qP.value:(fV t r c).value=t.value+t.cs c*(t.bd r / t.cf r c):=by
 show t.value+t.cs c*(t.bd r*(1 / t.cf r c))=_;grind
theorem Jj {b:Type}:∀(L:List b) (f:Nat->b),(∀k,f k∈L)->∃i j,i<j/\f i=f j
 |[],f,h=>by simp_all;|a::L,f,h=>by
  by_cases c:∃i,f i=a
  ·obtain⟨i,g⟩:=c;by_cases e:∃j,i<j/\f j=a;·grind
   ·obtain⟨x,y,d,l⟩:=Jj L (λk=>f (k+i+1)) λk=>by
     grind
    grind
  ·exact Jj L f λk=>by
    simp_all
def AZ (V:List Int):Nat->List (List Int)
 |0=>[[]]
 |k+1=>(AZ V k).flatMap λl=>V.map λv=>v::l
theorem Sr {V:List Int}:∀{l:List Int},(∀v∈l,v∈V)->l∈AZ V l.length
 |[],_=>by simp[AZ];|x::l,h=>by
  simp only[γD,AZ,List.mem_flatMap,Θ];exact⟨l,Sr λv a=>h v (by simp[a]),x,h x (by simp),rfl⟩
theorem acr {l:List Int} {r:Nat} {x v:Int} (a:r<l.length) (b:l.Nodup):v∈l.set r x↔v=x\/(v∈l/\v≠bj l r 0):=by
 grind[set_perm,cT,acj]
theorem Ss {f:Nat->Int} {i:Nat}:∀{d:Nat},∃k,(i<=k/\k<=i+d)/\∀x,i<=x->x<=i+d->f x<=f k
 |0=>⟨i,by omega,λx a b=>by grind⟩
 |d+1=>by
  obtain⟨k,a,b⟩:=@Ss f i d;by_cases h:f k<=f (i+(d+1))
  ·refine⟨i+(d+1),by omega,λx c e=>?_⟩;grind
  ·refine⟨k,by omega,λx c e=>?_⟩;grind
theorem Sv:∀{n:Nat} {f:Nat->Rat},0<bO n f->∃j,j<n/\0<f j
 |0,f,h=>by grind[bO];|n+1,f,h=>by
  rcases AY (f n) 0 with a|a
  ·obtain⟨j,c,b⟩:=@Sv n f (by grind[bO]);grind
  grind
theorem wo (h:t.WF n m) {j:Nat} (a:j<n):t.fv j∈t.free:=by
 have b:j<t.free.length:=by rw[h.free];exact a
 grind[Tb.fv,cT]
theorem A0 (h:t.WF n m) {j:Nat} (a:j<m):t.bv j∈t.basic:=by
 have b:j<t.basic.length:=by rw[h.basic];exact a
 grind[Tb.bv,cT]
theorem wq (h:t.WF n m) {v:Int} (b:v∈t.free):∃j,j<n/\t.fv j=v:=by
 obtain⟨j,a,rfl⟩:=γH b;exact⟨j,by rw[<-h.free];exact a,by grind[Tb.fv,cT]⟩
theorem yq (h:t.WF n m) {v:Int} (b:v∈t.basic):∃j,j<m/\t.bv j=v:=by
 obtain⟨j,a,rfl⟩:=γH b;exact⟨j,by rw[<-h.basic];exact a,by grind[Tb.bv,cT]⟩
theorem Jk (c:(t.basic++t.free).Nodup) {v:Int} (a:v∈t.basic) (b:v∈t.free):False:=(γw.1 c).2.2 _ a _ b rfl
theorem acs (h:t.WF n m) (c:(t.basic++t.free).Nodup) {i j:Nat} (f:i<m) (d:j<m) (e:t.bv i=t.bv j):i=j:=by
 have a:=pr (γw.1 c).1 (show i<t.basic.length by rw[h.basic];exact f);have b:=pr (γw.1 c).1 (show j<t.basic.length by rw[h.basic];exact d);grind[Tb.bv]
theorem acu (h:t.WF n m) (c:(t.basic++t.free).Nodup) {i j:Nat} (f:i<n) (d:j<n) (e:t.fv i=t.fv j):i=j:=by
 have a:=pr (γw.1 c).2.1 (show i<t.free.length by rw[h.free];exact f);have b:=pr (γw.1 c).2.1 (show j<t.free.length by rw[h.free];exact d);grind[Tb.fv]
theorem acv {T:Nat->Tb} {r c:Nat->Nat} (p:∀k,Run n m t0 (T k)) (hF:∀k,ko m (T k)) (B:∀k,qP n m (T k) (r k) (c k)) (hT:∀k,T (k+1)=fV (T k) (r k) (c k)) {i j:Nat} (b8:i<j) (hb:(T i).basic=(T j).basic) (hf:(T i).free=(T j).free):False:=by
 have b7:(T i).value=(T j).value:=by
  have t:=((p j).mN _ _).2 (((p i).mN _ _).1 (asg_holds (p i).wf (p i).gp (y:=λ_=>0)));have e1:bO n (λk=>(T i).cs k*(λ_=>(0:Rat)) k)=0:=by grind[iT]
  have e2:bO n (λk=>(T j).cs k*ju n (T i) (λ_=>0) ((T j).fv k))=0:=by
   rw[dK (g:=λ_=>0) λk hk=>by
    have:(T j).fv k=(T i).fv k:=by grind[Tb.fv]
    rw[this,mM (p i).wf (p i).gp hk];grind,iT]
  have K:=t.2;grind
 have L:∀k,(T k).value<=(T (k+1)).value:=λk=>by
  rw[hT k,qP.value];have:=δv (a:=(T k).cs (c k)) (by have:=(B k).cost;grind) ((B k).ge (hF k));grind
 have S:∀d a,(T a).value<=(T (a+d)).value:=λd=>by
  induction d<;>grind
 have H:∀k,i<=k->k<j->(T k).bd (r k)=0:=λk t K=>by
  have a1:=S (k - i) i;have a2:=S (j - (k+1)) (k+1);rw[show i+(k - i)=k by omega] at a1;rw[show k+1+(j - (k+1))=j by omega] at a2;have a3:=L k;rw[hT k] at a2 a3;rw[qP.value] at a2 a3;have h3:=(B k).ge (hF k);have hc:=(B k).cost;have h4:=@div_mul ((T k).bd (r k)) _ (B k).pos;grind[Rat.mul_eq_zero]
 have b6:∀k,i<=k->k<j->∀v,v∈(T k).basic++(T k).free->ju n (T (k+1)) (λ_=>0) v=ju n (T k) (λ_=>0) v:=λk t K v O=>by
  have hw:=(p k).wf;have G:=(p (k+1)).wf;have hx:=((p (k+1)).mN _ _).2 (((p k).mN _ _).1 (asg_holds hw (p k).gp (y:=λ_=>0)));have hz:∀q,q<n->ju n (T k) (λ_=>0) ((T (k+1)).fv q)=0:=λq s=>by
   rw[hT k,Jg hw (B k).hc];split
   ·rw[nI hw (p k).gp (B k).hr,H k t K,dK (g:=λ_=>0) λj _=>by grind,iT];grind
   ·rw[mM hw (p k).gp s]
  have A:v∈(T (k+1)).basic++(T (k+1)).free:=((p (k+1)).perm.trans (p k).perm.symm).mem_iff.2 O;rcases γm.1 A with A|A
  ·obtain⟨q,s,rfl⟩:=yq G A;have:=hx.1 q s;rw[dK (g:=λ_=>0) λj hj=>by simp_all,iT] at this;rw[nI G (p (k+1)).gp s,dK (g:=λ_=>0) λj _=>by grind,iT];grind
  ·obtain⟨q,s,rfl⟩:=wq G A;rw[hz q s,mM G (p (k+1)).gp s]
 have w:∀a b v,v∈(T a).basic++(T a).free->v∈(T b).basic++(T b).free:=λa b v O=>((p b).perm.trans (p a).perm.symm).mem_iff.2 O;have W:∀d a,i<=a->a+d<=j->∀v,v∈(T a).basic++(T a).free->ju n (T (a+d)) (λ_=>0) v=ju n (T a) (λ_=>0) v:=λd=>by
  induction d<;>grind
 have hA:∀a b,i<=a->a<=j->i<=b->b<=j->∀v,v∈(T a).basic++(T a).free->ju n (T a) (λ_=>0) v=ju n (T b) (λ_=>0) v:=λa b t K h3 h4 v O=>by
  have e1:=W (a - i) i (by omega) (by omega) v (w _ _ v O);have e2:=W (b - i) i (by omega) (by omega) v (w _ _ v O);simp_all
 have P:∀k v,v∈(T (k+1)).basic↔v=(T k).fv (c k)\/(v∈(T k).basic/\v≠(T k).bv (r k)):=λk v=>by
  rw[hT k];exact acr (by rw[(p k).wf.basic];exact(B k).hr) (γw.1 (p k).gp).1
 have U:∀v a b,i<=a->a<=j->i<=b->b<=j->v∈(T a).basic->v∉(T b).basic->∃k,i<=k/\k<j/\(T k).fv (c k)=v:=λv a b a1 a2 b1 b2 ha a9=>by
  apply δc;intro Y;have I:∀d x,i<=x->x+d<=j->v∈(T (x+d)).basic->v∈(T x).basic:=λd=>by
   induction d<;>grind
  have t:=I (a - i) i (by omega) (by omega) (by simp_all);rw[hb] at t;exact a9 (I (j - b) b (by omega) (by omega) (by simp_all))
 obtain⟨l,⟨a6,b9⟩,a0⟩:=@Ss (λk=>(T k).fv (c k)) i (j - 1 - i);have J:∀x,i<=x->x<j->(T x).fv (c x)<=(T l).fv (c l):=λx t K=>a0 x t (by omega);have c2:l<j:=by omega
 have a7:(T l).fv (c l)∈(T l).free:=wo (p l).wf (B l).hc;have c0:(T l).fv (c l)∉(T l).basic:=λh=>Jk (p l).gp h a7;obtain⟨o,F,Q,hl⟩:∃o,i<=o/\o<j/\(T o).bv (r o)=(T l).fv (c l):=by
  apply δc;intro Y;have up:∀d x,i<=x->x+d<=j->(T l).fv (c l)∈(T x).basic->(T l).fv (c l)∈(T (x+d)).basic:=λd=>by
   induction d with
   |zero=>intro x _ _ h;exact h;|succ d ih=>
    intro x t K h;exact(P (x+d) _).2 (.inr ⟨ih x t (by omega) h,λe=>Y ⟨x+d,by omega,by omega,e.symm⟩⟩)
  have t:=up (j - (l+1)) (l+1) (by omega) (by omega) ((P l _).2 (.inl rfl));rw[show l+1+(j - (l+1))=j by omega,<-hb] at t;have K:=up (l - i) i (by omega) (by omega) t;simp_all
 have w1:=(p l).wf;have C:=(p o).wf;have n1:=(p l).gp;have E:=(p o).gp;have p1:=B l;have N:=B o;have x1:=(((p l).mN _ _).2 (((p o).mN _ _).1 (asg_holds C E (y:=λq=>if q=c o then 1 else 0)))).2;have x0:=(((p l).mN _ _).2 (((p o).mN _ _).1 (asg_holds C E (y:=λ_=>0)))).2;rw[dK (f:=λq=>(T o).cs q*(λq=>if q=c o then(1:Rat) else 0) q) (g:=λq=>if q=c o then(T o).cs (c o) else 0) λq _=>by
  by_cases s:q=c o<;>grind,wm,if_pos N.hc] at x1;rw[dK (f:=λq=>(T o).cs q*(λ_=>(0:Rat)) q) (g:=λ_=>0) λq _=>by grind,iT] at x0;have hd:0<bO n λq=>(T l).cs q*(ju n (T o) (λq=>if q=c o then 1 else 0) ((T l).fv q) - ju n (T o) (λ_=>0) ((T l).fv q)):=by
  rw[dK (g:=λq=>(T l).cs q*ju n (T o) (λq=>if q=c o then 1 else 0) ((T l).fv q)+(-1)*((T l).cs q*ju n (T o) (λ_=>0) ((T l).fv q))) λq _=>by grind,yn,wj];have:=N.cost;grind
 obtain⟨q,s,u⟩:=Sv hd;have a5:(T l).fv q∈(T l).free:=wo w1 s;have Z:=w l o _ (List.mem_append_right _ a5);rcases γm.1 Z with a4|X
 ·obtain⟨D,z,e⟩:=yq C a4;rw[<-e,nI C E z,nI C E z,dK (f:=λj=>(T o).cf D j*(λq=>if q=c o then(1:Rat) else 0) j) (g:=λj=>if j=c o then(T o).cf D (c o) else 0) (λj _=>by
   by_cases hj:j=c o<;>grind),wm,if_pos N.hc,dK (f:=λj=>(T o).cf D j*(λ_=>(0:Rat)) j) (g:=λ_=>0) (λj _=>by grind),iT] at u;have M:0<(T l).cs q*(-(T o).cf D (c o)):=by grind
  obtain⟨k3,b3,b5,h3⟩:=U _ o l F (by omega) a6 (by omega) a4 (λh=>Jk n1 h a5);have b0:(T l).fv q<=(T l).fv (c l):=by grind
  rcases AY ((T l).cs q) 0 with hs|hs
  ·have a8:0<(T o).cf D (c o):=by
    rcases AY ((T o).cf D (c o)) 0 with h4|h4
    ·exfalso;have:=δv (a:= -(T l).cs q) (b:= -(T o).cf D (c o)) (by grind) (by grind);grind
    ·exact h4
   have b4:(T o).bd D=0:=by
    have V:=hA o l F (by omega) a6 (by omega) ((T l).fv q) Z;rw[mM w1 n1 s,<-e,nI C E z,dK (g:=λ_=>0) λj _=>by grind,iT] at V;grind
   have c1:=H o F Q;have hz:∀b:Rat,(0:Rat) / b=0:=λb=>by grind
   rcases N.ratio D z a8 with h6|h6;·simp_all
   ·have h7:(T l).fv (c l)<=(T l).fv q:=by omega
    have h8:=acu w1 n1 s p1.hc (by omega);rw[h8] at hs;have:=p1.cost;grind
  ·have h7:=p1.least q s hs;have h8:D=r o:=acs C E z N.hr (by omega);rw[h8] at M;have:=δv (a:=(T l).cs q) (b:=(T o).cf (r o) (c o)) (by grind) (by have:=N.pos;grind);grind
 ·obtain⟨q2,R,e⟩:=wq C X;rw[<-e,mM C E R,mM C E R] at u;by_cases V:q2=c o
  ·rw[if_pos V] at u;have h6:=p1.least q s (by grind);have h7:=J o F Q;rw[V] at e;have h8:(T l).fv (c l)=(T o).fv (c o):=by omega
   exact Jk E (A0 C N.hr) (by grind)
  ·rw[if_neg V] at u;grind
end
def eE (t:Tb):Nat->Int
 |0=> -1
 |k+1=>if 0<t.cs k/\(eE t k<0\/t.fv k<t.fv (eE t k).toNat) then(k:Int) else eE t k
def dT (t:Tb) (c:Nat):Nat->Int
 |0=> -1
 |k+1=>if t.cf k c<=0 then dT t c k
  else if 0<=dT t c k/\(t.bd (dT t c k).toNat / t.cf (dT t c k).toNat c<t.bd k / t.cf k c\/(t.bd k / t.cf k c=t.bd (dT t c k).toNat / t.cf (dT t c k).toNat c/\t.bv (dT t c k).toNat<t.bv k)) then dT t c k
  else(k:Int)
section
variable {n m:Nat} {t t0:Tb} {r c:Nat}
theorem uF:∀{k:Nat},(eE t k= -1/\∀j,j<k->¬0<t.cs j)\/(∃b:Nat,eE t k=b/\b<k/\0<t.cs b/\∀j,j<k->0<t.cs j->t.fv b<=t.fv j)
 |0=> .inl ⟨rfl,λj h=>by omega⟩
 |k+1=>by
  unfold eE;rcases @uF k with⟨a,c⟩|⟨b,a,c,d,e⟩;·grind
  ·have f:(eE t k).toNat=b:=by omega
   grind
theorem wt {c:Nat}:∀{k:Nat},(dT t c k= -1/\∀j,j<k->t.cf j c<=0)\/(∃b:Nat,dT t c k=b/\b<k/\0<t.cf b c/\∀j,j<k->0<t.cf j c->t.bd b / t.cf b c<t.bd j / t.cf j c\/(t.bd b / t.cf b c=t.bd j / t.cf j c/\t.bv b<=t.bv j))
 |0=> .inl ⟨rfl,λj h=>by omega⟩
 |k+1=>by
  unfold dT;by_cases e:t.cf k c<=0
  ·rw[if_pos e];rcases @wt c k with⟨f,a⟩|⟨b,f,a,o,n⟩<;>grind
  ·rw[if_neg e];have g:0<t.cf k c:=ζ0.1 e;rcases @wt c k with⟨f,a⟩|⟨b,f,a,o,n⟩;·grind
   ·have i:(dT t c k).toNat=b:=by omega
    rw[i];by_cases d:0<=dT t c k/\(t.bd b / t.cf b c<t.bd k / t.cf k c\/(t.bd k / t.cf k c=t.bd b / t.cf b c/\t.bv b<t.bv k));·grind
    ·rw[if_neg d];have l:¬t.bd b / t.cf b c<t.bd k / t.cf k c:=λh=>d ⟨by omega,.inl h⟩;have m:t.bd k / t.cf k c=t.bd b / t.cf b c->¬t.bv b<t.bv k:=λh a=>d ⟨by omega,.inr ⟨h,a⟩⟩;refine .inr ⟨k,rfl,by omega,g,λj p q=>?_⟩;grind
end
def stepT (n m:Nat) (t:Tb):Option Tb:=
 if eE t n<0 then none
 else if dT t (eE t n).toNat m<0 then none
 else some (fV t (dT t (eE t n).toNat m).toNat (eE t n).toNat)
def fp (n m:Nat):Nat->Tb->Bool
 |0,t=>(stepT n m t).isNone
 |k+1,t=>match stepT n m t with
  |none=>true
  |some a=>fp n m k a
def runT (n m:Nat):Nat->Tb->Tb
 |0,t=>t
 |k+1,t=>match stepT n m t with
  |none=>t
  |some a=>runT n m k a
def yr (n m N:Nat) (t:Tb):Nat:=((ω N).filter λk=>!fp n m k t).length
section
variable {n m:Nat} {t t0 t':Tb}
theorem SA (h:stepT n m t=some t'):∃r c,qP n m t r c/\t'=fV t r c/\eE t n=(c:Int)/\dT t c m=(r:Int):=by
 unfold stepT at h;split at h;·cases h
 ·rename_i p;split at h;·cases h
  ·rename_i o;injection h with h;rcases @uF t n with⟨b,_⟩|⟨c,b,d,e,k⟩;·omega
   ·have f:(eE t n).toNat=c:=by omega
    rw[f] at h o;rcases @wt t c m with⟨a,_⟩|⟨r,a,i,j,l⟩;·omega
    ·have g:(dT t c m).toNat=r:=by omega
     rw[g] at h;exact⟨r,c,⟨i,d,e,k,j,l⟩,h.symm,b,a⟩
theorem Jl (b:Run n m t0 t) (d:ko m t) (h:stepT n m t=some t'):Run n m t0 t'/\ko m t':=by
 obtain⟨r,c,a,rfl,_⟩:=SA h;exact⟨b.piv a.hr a.hc (by have:=a.pos;grind),a.yp b.wf d⟩
theorem Jm:∀{k:Nat} {t:Tb},fp n m k t=true->fp n m (k+1) t=true
 |0,t,h=>by
  grind[fp];|k+1,t,h=>by
  unfold fp at h ⊢;split;·rfl
  ·rename_i b a;rw[a] at h;exact Jm h
theorem left_step {N:Nat} (b:fp n m N t=true) (h:stepT n m t=some t'):yr n m N t'<yr n m N t:=by
 unfold yr;have e:∀k,fp n m k t'=fp n m (k+1) t:=λk=>by grind[fp]
 have c:fp n m 0 t=false:=by simp[fp,h]
 simp only[e];cases N with
 |zero=>simp_all;|succ N=>
  have a:∀f:Nat->Bool,((ω (N+1)).filter f).length=(if f 0 then 1 else 0)+((ω N).filter λk=>f (k+1)).length:=λf=>by
   rw[List.range_succ_eq_map,List.filter_cons,List.filter_map,];grind[Function.comp_def]
  rw[a (λk=>!fp n m k t),c];rw[εe,List.filter_append,γh];simp[b]
theorem SB {N:Nat} (a:fp n m N t=true) (h:stepT n m t=some t'):fp n m N t'=true:=by
 cases N<;>grind[fp,Jm]
theorem Jn (D:Run n m t0 t) (o:ko m t):∃N,fp n m N t=true:=by
 apply δc;intro u;have e:∀N,fp n m N t=false:=λN=>by
  simp_all
 let T:Nat->Tb:=λk=>Nat.rec t (λ_ s=>(stepT n m s).getD s) k;have d:∀k,T (k+1)=(stepT n m (T k)).getD (T k):=λk=>rfl;have A:∀k N,fp n m N (T k)=false:=by
  intro k;induction k with
  |zero=>exact e;|succ k l=>
   intro N;rw[d];cases z:stepT n m (T k) with
   |none=>simp_all;|some q=>
    have:=l (N+1);grind[fp]
 have w:∀k,stepT n m (T k)=some (T (k+1)):=λk=>by
  rw[d];cases z:stepT n m (T k) with
  |none=>have:=A k 0;grind[fp];|some q=>rfl
 have a:∀k,Run n m t0 (T k)/\ko m (T k):=by
  intro k;induction k with
  |zero=>exact⟨D,o⟩;|succ k l=>grind[Jl]
 have b:∀k,∃p:Nat×Nat,qP n m (T k) p.1 p.2/\T (k+1)=fV (T k) p.1 p.2:=λk=>by
  obtain⟨r,c,f,E,_⟩:=SA (w k);exact⟨(r,c),f,E⟩
 let p:Nat->Nat×Nat:=λk=>Classical.choose (b k);have h:∀k,qP n m (T k) (p k).1 (p k).2/\T (k+1)=fV (T k) (p k).1 (p k).2:=λk=>Classical.choose_spec (b k);obtain⟨i,j,g,B⟩:=Jj (AZ (t0.basic++t0.free) (m+n)) (λk=>(T k).basic++(T k).free) λk=>by
  have f:=@Sr (t0.basic++t0.free) ((T k).basic++(T k).free) λv C=>(a k).1.perm.mem_iff.1 C;rwa [γh,(a k).1.wf.basic,(a k).1.wf.free] at f
 obtain⟨y,x⟩:=List.append_inj B (by rw[(a i).1.wf.basic,(a j).1.wf.basic]);exact acv (λk=>(a k).1) (λk=>(a k).2) (λk=>(h k).1) (λk=>(h k).2) g y x
end
open Go.Proofs.YtbnhiekmnpikhaaGreat.Ir
open Go.Proofs
def fL (l:List Rat):List bL:=l.map bu
def fM (l:List (List Rat)):List (List bL):=l.map fL
def vL (l:List bL):List Rat:=l.map bV
theorem kM (l:List Rat):vL (fL l)=l:=by
 unfold vL fL;rw[γO];conv=>rhs;rw[<-List.map_id l]
 exact γU λq _=>eD q
theorem jM (x:bL):(x.1,x.2.1,x.2.2)=x:=rfl
theorem fF {l:List Rat}:(fL l).length=l.length:=Φ _
theorem Jo {l:List (List Rat)}:(fM l).length=l.length:=Φ _
theorem jw {l:List Rat} {i:Nat} (h:i<l.length) {d:bL}:bj (fL l) i d=bu (bj l i 0):=by
 grind[cT,fL]
theorem Jp {l:List (List Rat)} {i:Nat} (h:i<l.length) {d:List bL}:bj (fM l) i d=fL (bj l i []):=by
 grind[cT,fM]
structure nJ where
 n:Int
 m:Int
 k0:Nat
 k1:Nat
 k3:Nat
 k4:Nat
 cq:List (List bL)
 bound:List bL
 cost:List bL
 v:bL
 basic:List Int
 free:List Int
def nJ.gQ (x:nJ):cj:=
 [.cells [.si .i64 x.n,.si .i64 x.m,.ow 1 x.k0 1,.ow 2 x.k1 3,.row sF x.cost,.sb x.v.1,.row (.i .u32) x.v.2.1,.row (.i .u32) x.v.2.2,.ow 3 x.k3 1,.ow 4 x.k4 1] 261 10 false,
  .row (.bB sF) x.cq 106 false,.row sF x.bound 177 false,.row (.i .i64) x.basic 3 false,.row (.i .i64) x.free 3 false]
def Ej:cj->Option nJ
 |[.cells [a,b,.ow 1 k0 1,.ow 2 k1 3,c,v0,v1,v2,.ow 3 k3 1,.ow 4 k4 1] 261 10 false,.row s1 l1 106 false,.row s2 l2 177 false,.row s3 l3 3 false,.row s4 l4 3 false]=>
  match a.int .i64,b.int .i64,jH sF c,jT sF [v0,v1,v2] with
  |some a,some b,some c,some v=>match iH s1 (.bB sF) l1,iH s2 sF l2,iH s3 (.i .i64) l3,iH s4 (.i .i64) l4 with
   |some l1,some l2,some l3,some l4=>some ⟨a,b,k0,k1,k3,k4,l1,l2,c,v,l3,l4⟩
   |_,_,_,_=>none
  |_,_,_,_=>none
 |_=>none
theorem acw {o:cj} {x:nJ} (h:Ej o=some x):gO o=gO x.gQ:=by
 unfold Ej at h;split at h
 ·split at h
  ·rename_i p l c e;split at h
   ·rename_i n j k m;simp only[γ] at h;subst h;obtain⟨rfl,f⟩:=mH n;obtain⟨rfl,b⟩:=mH j;obtain⟨rfl,d⟩:=mH k;obtain⟨rfl,i⟩:=mH m;cases f;cases b;cases d;cases i;have a:=nX e;simp only[ξ,γv,dP,dy,Γ,and_true,δK,γJ] at a;simp only[nJ.gQ,gO,ξ,γv,bq.g,gL,iO p,iO l,o8 c,γF];simp only[a];rfl
   ·cases h
  ·cases h
 ·cases h
theorem pv {s:bp} {a b:List s.T} (h:cF s a=cF s b):a=b:=by
 by_cases d:s.sz=0;·exact absurd d (by
   have:∀s:bp,0<s.sz:=λs=>by
    induction s<;>simp only[bp.sz]<;>omega
   grind)
 ·have c:=congrArg γc h;rw[fe,fe] at c;exact ly s (Nat.eq_of_mul_eq_mul_right (by omega) c) h
theorem acy {x y:nJ} (h:gO x.gQ=gO y.gQ):x=y:=by
 obtain⟨n,m,B,M,G,J,c,b,g,⟨I,K,F⟩,D,C⟩:=x;obtain⟨H,L,a,p,r,l,N,E,A,⟨k,w,q⟩,j,u⟩:=y;simp only[nJ.gQ,gO,ξ,γv,bq.g,gL,γF,Γ,bR.cells.injEq,and_true,true_and,δd,Value.int.injEq,Value.bool.injEq,εy,δ5] at h;obtain⟨⟨rfl,rfl,⟨rfl,_⟩,⟨rfl,_⟩,⟨_,d⟩,rfl,⟨_,v⟩,⟨_,e⟩,⟨rfl,_⟩,⟨rfl,_⟩⟩,f,t,o,z⟩:=h;rw[pv (s:=sF) d,pv (s:=.i .u32) v,pv (s:=.i .u32) e,pv (s:=.bB sF) f,pv (s:=sF) t,pv (s:=.i .i64) o,pv (s:=.i .i64) z]
abbrev bH (n m:Int) (t:Tb):nJ:=⟨n,m,t.cq.length,t.bound.length,t.basic.length,t.free.length,fM t.cq,fL t.bound,fL t.cost,bu t.value,t.basic,t.free⟩
def nJ.t (x:nJ):Tb:=⟨x.cq.map vL,vL x.bound,vL x.cost,bV x.v,x.basic,x.free⟩
theorem sZ {n m:Int} {t:Tb}:(bH n m t).t=t:=by
 have e:(fM t.cq).map vL=t.cq:=by
  unfold fM;rw[γO];conv=>rhs;rw[<-List.map_id t.cq]
  exact γU λq _=>kM q
 simp_all[nJ.t,kM,eD]
theorem acz (x:nJ):(⟨x.n,x.m,x.k0,x.k1,x.k3,x.k4,x.cq,x.bound,x.cost,(x.v.1,x.v.2.1,x.v.2.2),x.basic,x.free⟩:nJ)=x:=rfl
theorem SC {n m:Int} {t:Tb}:(bH n m t).n=n:=rfl
theorem SD {n m:Int} {t:Tb}:(bH n m t).m=m:=rfl
def wu (k:Nat) (t:Tb):Prop:=(∀l∈t.cq,∀q∈l,Sz k q)/\(∀q∈t.bound,Sz k q)/\(∀q∈t.cost,Sz k q)/\Sz k t.value
def kN (n m:Int) (t:Tb):Prop:=((0<=n/\n<=1000)/\(0<=m/\m<=1000))/\t.WF n.toNat m.toNat/\wu 1000000 t
def uG (f:FuncId) (c:Type) (A:qC c) (i:Int->Int->Tb->c->Prop) (e:Int->Int->Tb->c->SV) (out:Int->Int->Tb->c->Tb):dH where
 f:=f;α:=nJ×c;put a:=.ptr 0 0 10::A.put a.2;st a:=a.1.gQ;dec v o:=match v with
  | .ptr 0 0 10::r=>match Ej o,A.dec r with
   |some s,some b=>some (s,b)
   |_,_=>none
  |_=>none;ok v o a h:=by
  split at h
  ·split at h
   ·rename_i d g;simp only[γ] at h;subst h;exact⟨by simp only[gL,A.ok _ _ g],acw d⟩
   ·cases h
  ·cases h
 inj a b d g:=by
  simp only[gL,Γ,true_and] at d;exact εC (acy g) (A.inj _ _ d)
 dom a:=∃n m t,a.1=bH n m t/\kN n m t/\i n m t a.2;res a:=e a.1.n a.1.m a.1.t a.2;out a:=(bH a.1.n a.1.m (out a.1.n a.1.m a.1.t a.2)).gQ
theorem dN {q:Rat} {k:Nat} (h:Sz k q) (a:k<=100000000):cE (bu q):=⟨q,k,rfl,h,a⟩
section
variable {n m:Int} {t:Tb}
theorem kN.cf (h:kN n m t) {i j:Nat} (a:i<m.toNat) (c:j<n.toNat):Sz 1000000 (t.cf i j):=by
 have b:=dn (l:=t.cq) (d:=[]) (show i<t.cq.length by rw[h.2.1.cq];exact a);exact h.2.2.1 _ b _ (dn (by rw[h.2.1.row i a];exact c))
theorem kN.bd (h:kN n m t) {i:Nat} (a:i<m.toNat):Sz 1000000 (t.bd i):=h.2.2.2.1 _ (dn (by rw[h.2.1.bound];exact a))
theorem kN.cs (h:kN n m t) {j:Nat} (a:j<n.toNat):Sz 1000000 (t.cs j):=h.2.2.2.2.1 _ (dn (by rw[h.2.1.cost];exact a))
end
theorem uH {q:Rat}:0<jL q↔0<q:=by
 grind[jL]
theorem Jq {q:Rat}:jL q=0↔q=0:=by
 grind[jL]
theorem A1 {q:Rat}:jL q<0↔q<0:=by
 grind[jL]
def Jr:dH:=uG 179 Unit .nil (λ_ _ _ _=>True) (λn _ t _=> .si .i64 (eE t n.toNat)) (λ_ _ t _=>t)
def acA (n m:Int) (t:Tb):Nat->cG
 |3=> .inv Int (λj=>⟨[(0,.ptr 0 0 10),(3,.si .i64 (eE t j.toNat)),(9,.ow 4 t.free.length 1),(10,.si .i64 t.free.length),(11,.si .i64 j)],(bH n m t).gQ⟩)
   (λs=>iS s 11) (λj=>0<=j/\j<=n) (λj=>(n - j).toNat) λ_ _=> .look
 |_=> .look
theorem h411:ef Tryz.prog Jr:=by
 refine lz (L:=[sX]) (W:=[]) Jr (λa=>acA a.1.n a.1.m a.1.t) (by simp) (by simpa using h99) ?_;rintro⟨x,u⟩ ⟨n,m,t,hx,hok, -⟩;simp only at hx;subst hx;refine bQ (let a:=γd .i64;let b:=(0:Int);let c:=bq.row;let d:=γZ;let e:=Ω;let r:=γQ 0 0 10;let s:=(bH n m t).t;let F:=d 4 (bH n m t).k4 1;let y:=s.free.length;let z:=d 4 y 1;let A:=a (↑y:Int);let g:=(bH n m t).n;let B:=bp.i .u32;let f:=bH g (bH n m t).m s;let k:=bq.cells [a f.n,a f.m,d 1 f.k0 1,d 2 f.k1 3,e sF f.cost,γA f.v.fst,e B f.v.snd.fst,e B f.v.snd.snd,d 3 f.k3 1,d 4 f.k4 1] 261 10 false;let l:=c sF.bB f.cq 106 false;let o:=c sF f.bound 177 false;let C:=bp.i .i64;let p:=c C f.basic 3 false;let q:=c C f.free 3 false;let j:=f.free.length;(((r.same r/\(γB .i64 (-1:Int)).same (a (eE s 0))/\F.same z/\(a (↑(bH n m t).k4:Int)).same A/\(γB .i64 0).same (a 0)/\True)/\(bq.cells [a g,a (bH n m t).m,d 1 (bH n m t).k0 1,d 2 (bH n m t).k1 3,e sF (bH n m t).cost,γA (bH n m t).v.fst,e B (bH n m t).v.snd.fst,e B (bH n m t).v.snd.snd,d 3 (bH n m t).k3 1,F] 261 10 false).same k/\(c sF.bB (bH n m t).cq 106 false).same l/\(c sF (bH n m t).bound 177 false).same o/\(c C (bH n m t).basic 3 false).same p/\(c C (bH n m t).free 3 false).same q/\True)/\b<=b/\b<=g)/\∀(x:Int),let h:=x+(1:Int);let w:=eE s x.toNat;let G:=a w;let H:=a (eE s h.toNat);let D:=a h;let E:=bj f.cost x.toNat sF.dflt;let I:=(E.fst,E.snd.fst,E.snd.snd);let J:=decide (x<(↑y:Int));let K:=decide (w<b);let L:=decide (bj f.free x.toNat b<bj f.free w.toNat b);let M:=cu .i64 h/\((r.same r/\G.same H/\z.same z/\A.same A/\D.same D/\True)/\k.same k/\l.same l/\o.same o/\p.same p/\q.same q/\True)/\(b<=h/\h<=g)/\(g - h).toNat<(g - x).toNat;let N:=cu .i64 h/\((r.same r/\(a x).same H/\z.same z/\A.same A/\D.same D/\True)/\k.same k/\l.same l/\o.same o/\p.same p/\q.same q/\True)/\(b<=h/\h<=g)/\(g - h).toNat<(g - x).toNat;let O:=λ(u:Bool) ↦decide (b<jL (bV I))=u;b<=x/\x<=g->(J=true->y=j/\b<=x/\x<(↑j:Int)/\y=j/\x.toNat<j/\b<=x/\x<(↑f.cost.length:Int)/\x.toNat<f.cost.length/\cE I/\(O true->(K=true->N)/\(K=false->f.k4=j/\b<=w/\w<(↑j:Int)/\f.k4=j/\w.toNat<j/\(L=true->N)/\(L=false->M)))/\(O false->M))/\(J=false->G.same (a (eE s g.toNat))/\k.same k/\l.same l/\o.same o/\p.same p/\q.same q/\True)) (by kernel_rfl) ?_;simp only[sZ];try simp only[bH]
 simp only[vcs];obtain⟨⟨⟨n0,n1⟩,m0,m1⟩,hw,hz⟩:=id hok;have hfl:=hw.free;have hcl:=hw.cost;have hfc:=@fF t.cost;refine⟨⟨rfl,by omega,by omega⟩,?_⟩;rintro j ⟨j0,j1⟩;have hs:eE t (j+1).toNat=if 0<t.cs j.toNat/\(eE t j.toNat<0\/t.fv j.toNat<t.fv (eE t j.toNat).toNat) then(j.toNat:Int) else eE t j.toNat:=by
  rw[show(j+1).toNat=j.toNat+1 by omega];rfl
 have hb:eE t j.toNat<j.toNat:=by
  rcases @uF t j.toNat with⟨h,_⟩|⟨b,h,hlt,_⟩<;>omega
 refine⟨λhj=>?_,λhj=>by rw[show j.toNat=n.toNat by omega]⟩;have hc:bj (fL t.cost) j.toNat sF.dflt=bu (t.cs j.toNat):=jw (by omega);simp only[hc,jM,eD,decide_eq_true_eq,decide_eq_false_iff_not,uH];have Ek:∀k:Nat,bj t.free k 0=t.fv k:=λk=>rfl;rw[Ek,Ek,hs];refine⟨j0,hj,by omega,j0,by omega,by omega,dN (hok.cs (by omega)) (by omega),λhp=>⟨λhn=>?_,λhn=>⟨by omega,by omega,by omega,λhl=>?_,λhl=>?_⟩⟩,λhp=>?_⟩
 ·rw[if_pos ⟨hp,.inl hn⟩];omega
 ·rw[if_pos ⟨hp,.inr hl⟩];omega
 ·rw[if_neg λh=>h.2.elim hn hl];omega
 ·rw[if_neg λh=>hp h.1];omega
def nK (t:Tb) (c k:Nat):bL:=if dT t c k<0 then(false,([],[])) else bu (t.bd (dT t c k).toNat / t.cf (dT t c k).toNat c)
def Js:dH:=uG 180 Int (.one (eU .i64)) (λn _ _ c=>0<=c/\c<n) (λ_ m t c=> .si .i64 (dT t c.toNat m.toNat)) (λ_ _ t _=>t)
def acB (n m:Int) (t:Tb) (c:Int):Nat->cG
 |4=> .inv Int (λi=>⟨[(0,.ptr 0 0 10),(1,.si .i64 c),(5,.si .i64 (dT t c.toNat i.toNat)),(6,.ptr 5 0 3),(15,.ow 1 t.cq.length 1),(16,.si .i64 t.cq.length),(17,.si .i64 i)],(bH n m t).gQ++[.cells [.sb (nK t c.toNat i.toNat).1,.row (.i .u32) (nK t c.toNat i.toNat).2.1,.row (.i .u32) (nK t c.toNat i.toNat).2.2] 177 3 false,.dead,.dead]⟩)
   (λs=>iS s 17) (λi=>0<=i/\i<=m) (λi=>(m - i).toNat) λ_ _=> .look
 |_=> .look
theorem h412:ef Tryz.prog Js:=by
 refine lz (L:=[sX,yk,Eb]) (W:=[]) Js (λa=>acB a.1.n a.1.m a.1.t a.2) (by simp) (by simpa using⟨h99,h97,h416⟩) ?_;rintro⟨x,c⟩ ⟨n,m,t,hx,hok,hd⟩;simp only at hx hd;subst hx;refine bQ (let a:=γd .i64;let b:=(0:Int);let d:=Ω;let e:=bq.cells;let f:=bq.row;let g:=γZ;let h:=γA;let A:=γQ 0 0 10;let p:=(bH n m t).t;let B:=γQ 5 0 3;let U:=g 1 (bH n m t).k0 1;let H:=p.cq.length;let I:=g 1 H 1;let J:=a (↑H:Int);let l:=(bH n m t).m;let k:=bp.i .u32;let j:=bH (bH n m t).n l p;let r:=e [a j.n,a j.m,g 1 j.k0 1,g 2 j.k1 3,d sF j.cost,h j.v.fst,d k j.v.snd.fst,d k j.v.snd.snd,g 3 j.k3 1,g 4 j.k4 1] 261 10 false;let C:=j.cq;let s:=f sF.bB C 106 false;let D:=j.bound;let w:=f sF D 177 false;let L:=bp.i .i64;let y:=f L j.basic 3 false;let z:=f L j.free 3 false;let O:=nK p c.toNat 0;let a9:=sF.bB.dflt;let q:=j.basic.length;0=0/\0=0/\(((A.same A/\(a c).same (a c)/\(γB .i64 (-1:Int)).same (a (dT p c.toNat 0))/\B.same B/\U.same I/\(a (↑(bH n m t).k0:Int)).same J/\(γB .i64 0).same (a 0)/\True)/\(e [a (bH n m t).n,a l,U,g 2 (bH n m t).k1 3,d sF (bH n m t).cost,h (bH n m t).v.fst,d k (bH n m t).v.snd.fst,d k (bH n m t).v.snd.snd,g 3 (bH n m t).k3 1,g 4 (bH n m t).k4 1] 261 10 false).same r/\(f sF.bB (bH n m t).cq 106 false).same s/\(f sF (bH n m t).bound 177 false).same w/\(f L (bH n m t).basic 3 false).same y/\(f L (bH n m t).free 3 false).same z/\(e [SV.bl false,d k [],d k []] 177 3 false).same (e [h O.fst,d k O.snd.fst,d k O.snd.snd] 177 3 false)/\bq.dead.same bq.dead/\bq.dead.same bq.dead/\True)/\b<=b/\b<=l)/\∀(x:Int),let o:=x+(1:Int);let V:=a (dT p c.toNat o.toNat);let M:=a o;let P:=bj D x.toNat sF.dflt;let W:=(P.fst,P.snd.fst,P.snd.snd);let K:=bj C x.toNat a9;let Q:=bj K c.toNat sF.dflt;let N:=(Q.fst,Q.snd.fst,Q.snd.snd);let E:=bu (bV W / bV N);let R:=nK p c.toNat o.toNat;let X:=e [h R.fst,d k R.snd.fst,d k R.snd.snd] 177 3 false;let F:=dT p c.toNat x.toNat;let Y:=a F;let G:=nK p c.toNat x.toNat;let Z:=(E.fst,E.snd.fst,E.snd.snd);let a0:=(G.fst,G.snd.fst,G.snd.snd);let a1:=iR (bV Z) (bV a0);let a2:=decide (x<(↑H:Int));let a3:=decide (b<=F);let a4:=decide (bj j.basic F.toNat b<bj j.basic x.toNat b);let S:=cu .i64 o/\((A.same A/\(a c).same (a c)/\(a x).same V/\B.same B/\I.same I/\J.same J/\M.same M/\True)/\r.same r/\s.same s/\w.same w/\y.same y/\z.same z/\(e [h E.fst,d k E.snd.fst,d k E.snd.snd] 177 3 false).same X/\bq.dead.same bq.dead/\bq.dead.same bq.dead/\True)/\(b<=o/\o<=l)/\(l - o).toNat<(l - x).toNat;let T:=cu .i64 o/\((A.same A/\(a c).same (a c)/\Y.same V/\B.same B/\I.same I/\J.same J/\M.same M/\True)/\r.same r/\s.same s/\w.same w/\y.same y/\z.same z/\(e [h G.fst,d k G.snd.fst,d k G.snd.snd] 177 3 false).same X/\bq.dead.same bq.dead/\bq.dead.same bq.dead/\True)/\(b<=o/\o<=l)/\(l - o).toNat<(l - x).toNat;let a5:=cE N;let a6:=λ(u:Bool) ↦decide (b<a1)=u;let a7:=λ(u:Bool) ↦decide (a1=b)=u;let a8:=λ(u:Bool) ↦decide (jL (bV N)<=b)=u;b<=x/\x<=l->(a2=true->H=C.length/\b<=x/\x<(↑C.length:Int)/\H=C.length/\x.toNat<C.length/\b<=c/\c<(↑K.length:Int)/\c.toNat<K.length/\a5/\(a8 true->T)/\(a8 false->j.k1=D.length/\b<=x/\x<(↑D.length:Int)/\j.k1=D.length/\x.toNat<D.length/\b<=c/\c<(↑K.length:Int)/\c.toNat<K.length/\((cE W/\a5)/\bV N≠(0:Rat))/\(a3=true->(cE Z/\cE a0)/\(a6 true->T)/\(a6 false->(a7 true->j.k3=q/\b<=x/\x<(↑q:Int)/\j.k3=q/\x.toNat<q/\j.k3=q/\b<=F/\F<(↑q:Int)/\j.k3=q/\F.toNat<q/\(a4=true->T)/\(a4=false->S))/\(a7 false->S)))/\(a3=false->S)))/\(a2=false->Y.same (a (dT p c.toNat l.toNat))/\r.same r/\s.same s/\w.same w/\y.same y/\z.same z/\True)) (by kernel_rfl) ?_;simp only[sZ];try simp only[bH]
 simp only[vcs];obtain⟨⟨⟨n0,n1⟩,m0,m1⟩,hw,hz⟩:=id hok;have hkl:=hw.cq;have hbl:=hw.bound;have hbb:=hw.basic;have hfm:=@Jo t.cq;have Jt:=@fF t.bound;have hcell:∀{x y:bL},x=y->(bq.cells [γA x.1,Ω (bp.i IntKind.u32) x.2.1,Ω (bp.i IntKind.u32) x.2.2] 177 3 false).same (bq.cells [γA y.1,Ω (bp.i IntKind.u32) y.2.1,Ω (bp.i IntKind.u32) y.2.2] 177 3 false):=by rintro _ _ rfl;rfl
 have hl0:nK t c.toNat 0=(false,([],[])):=rfl;refine⟨⟨⟨rfl,by rw[hl0];rfl⟩,by omega,by omega⟩,?_⟩;rintro i ⟨i0,i1⟩;refine⟨λhi=>?_,λhi=>by rw[show i.toNat=m.toNat by omega]⟩;have him:i.toNat<m.toNat:=by omega
 have hrow:bj (fM t.cq) i.toNat sF.bB.dflt=fL (bj t.cq i.toNat []):=Jp (by omega);have hrl:=hw.row i.toNat him;have hfr:=@fF (bj t.cq i.toNat []);have hA:bj (fL (bj t.cq i.toNat [])) c.toNat sF.dflt=bu (t.cf i.toNat c.toNat):=jw (by omega);have hB:bj (fL t.bound) i.toNat sF.dflt=bu (t.bd i.toNat):=jw (by omega);have hbv:∀k:Nat,bj t.basic k 0=t.bv k:=λk=>rfl;have hsA:=hok.cf (i:=i.toNat) (j:=c.toNat) him (by omega);have hsB:=hok.bd (i:=i.toNat) him;have hs:dT t c.toNat (i+1).toNat=if t.cf i.toNat c.toNat<=0 then dT t c.toNat i.toNat
  else if 0<=dT t c.toNat i.toNat/\(t.bd (dT t c.toNat i.toNat).toNat / t.cf (dT t c.toNat i.toNat).toNat c.toNat<t.bd i.toNat / t.cf i.toNat c.toNat\/(t.bd i.toNat / t.cf i.toNat c.toNat=t.bd (dT t c.toNat i.toNat).toNat / t.cf (dT t c.toNat i.toNat).toNat c.toNat/\t.bv (dT t c.toNat i.toNat).toNat<t.bv i.toNat)) then dT t c.toNat i.toNat
  else(i.toNat:Int):=by
  rw[show(i+1).toNat=i.toNat+1 by omega];rfl
 have hlb:dT t c.toNat i.toNat<i.toNat:=by
  rcases @wt t c.toNat i.toNat with⟨h,_⟩|⟨b,h,hlt,_⟩<;>omega
 have hlp:0<=dT t c.toNat i.toNat->0<t.cf (dT t c.toNat i.toNat).toNat c.toNat:=λh=>by
  rcases @wt t c.toNat i.toNat with⟨h2,_⟩|⟨b,h2,hlt,hp,_⟩;·omega
  ·rw[h2,γn];exact hp
 have acC:∀q:Rat,jL q<=0↔q<=0:=λq=>by
  have:=@uH q;constructor;·intro h;exact Rat.not_lt.1 λh2=>by have:=this.2 h2;omega
  ·intro h;exact Int.not_lt.1 λh2=>Rat.not_lt.2 h (this.1 h2)
 simp only[hrow,hA,hB,jM,eD,hbv,acC,ab8,ab9];have acD:0<=dT t c.toNat i.toNat->nK t c.toNat i.toNat=bu (t.bd (dT t c.toNat i.toNat).toNat / t.cf (dT t c.toNat i.toNat).toNat c.toNat):=λh=>by
  unfold nK;rw[if_neg (by omega)]
 have tail:(0<=i+1/\i+1<=m)/\(m - (i+1)).toNat<(m - i).toNat:=by omega
 have keep:dT t c.toNat (i+1).toNat=dT t c.toNat i.toNat->nK t c.toNat i.toNat=nK t c.toNat (i+1).toNat:=λh=>by
  unfold nK;rw[h]
 have new:dT t c.toNat (i+1).toNat=(i.toNat:Int)->bu (t.bd i.toNat / t.cf i.toNat c.toNat)=nK t c.toNat (i+1).toNat:=λh=>by
  unfold nK;rw[h,if_neg (by omega),γn]
 have hnz:0<t.cf i.toNat c.toNat->t.cf i.toNat c.toNat≠0:=λh=>by grind
 refine⟨by omega,i0,by omega,by omega,by omega,hd.1,by omega,by omega,dN hsA (by omega),λhle=>?_,λhgt=>?_⟩
 ·have e:dT t c.toNat (i+1).toNat=dT t c.toNat i.toNat:=by rw[hs,if_pos hle]
  exact⟨by omega,⟨e.symm,hcell (keep e)⟩,tail⟩
 ·have hp:0<t.cf i.toNat c.toNat:=ζ0.1 hgt;rw[if_neg hgt] at hs;have acE:=Ja hsB hsA (hnz hp);refine⟨by omega,i0,by omega,by omega,by omega,hd.1,by omega,by omega,⟨⟨dN hsB (by omega),dN hsA (by omega)⟩,hnz hp⟩,λh0=>?_,λh0=>?_⟩
  ·have hl:=acD h0;have hsl:=Ja (hok.bd (i:=(dT t c.toNat i.toNat).toNat) (by omega)) (hok.cf (i:=(dT t c.toNat i.toNat).toNat) (j:=c.toNat) (by omega) (by omega)) (by have:=hlp h0;grind);have hvl:bV (nK t c.toNat i.toNat)=t.bd (dT t c.toNat i.toNat).toNat / t.cf (dT t c.toNat i.toNat).toNat c.toNat:=by rw[hl,eD]
   simp only[hvl];refine⟨⟨dN acE (by omega),by rw[hl];exact dN hsl (by omega)⟩,λhlt=>?_,λhlt=>⟨λheq=>⟨i0,by omega,by omega,h0,by omega,by omega,λhbl=>?_,λhbl=>?_⟩,λheq=>?_⟩⟩
   ·rw[if_pos ⟨h0,.inl hlt⟩] at hs;exact⟨by omega,⟨hs.symm,hcell (keep hs)⟩,tail⟩
   ·rw[if_pos ⟨h0,.inr ⟨heq,hbl⟩⟩] at hs;exact⟨by omega,⟨hs.symm,hcell (keep hs)⟩,tail⟩
   ·rw[if_neg λh=>h.2.elim hlt λh2=>hbl h2.2] at hs;exact⟨by omega,⟨by omega,hcell (new hs)⟩,tail⟩
   ·rw[if_neg λh=>h.2.elim hlt λh2=>heq h2.1] at hs;exact⟨by omega,⟨by omega,hcell (new hs)⟩,tail⟩
  ·rw[if_neg λh=>h0 h.1] at hs;exact⟨by omega,⟨by omega,hcell (new hs)⟩,tail⟩
def Em (p:ja) (lo:Nat) (Λ:Nat->cG):IR->cy->(cy->Prop)->Prop
 | .skip,b,K=>K b
 | .seq x y,b,K=>wpS p lo x Λ b λc a=>match c with
  | .norm=>Em p lo Λ y a K
  |_=>False
 |_,_,_=>False
def En (p:ja) (Λ:Nat->cG) (F:fz) (args:List SV) (o:cj) (Q:SV->cj->Prop):Prop:=
 match F.body with
 | .tJ g c d a b=>Em p o.length Λ a ⟨nu 0 args,o⟩ λe=>wpS p e.o.length b Λ ⟨(d,.ud)::e.env,e.o⟩ λi j=>if rh i=true then
   (match p.it g with
    |some G=>if(c.map (jI e.env)).length=G.params/\G.res.isEmpty=true then wpS p j.o.length G.body (λn=>Λ (1000+n)) ⟨nu 0 (c.map (jI e.env)),j.o⟩ λf h=>if rh f=true then
      od ⟨j.env,h.o⟩ F.res λr=>if r.bZ o.length&&h.o.all (λx=>x.bZ o.length)&&decide (o.length<=h.o.length) then Q r (h.o.take o.length) else False
     else False else False
    |none=>False) else False
 |_=>False
section
variable {P:Program} {T:Tab} {p:ja} {Λ:Nat->cG}
theorem acF (i:pO T.K p.C) (j:∀f F,p.it f=some F->T.fn f=some F) {lo:Nat}:∀{a:IR} {st:cy} {K:cy->Prop},Em p lo Λ a st K->∃s0:cy,(∃N,∀n,N<=n->rf (exec T .plain n lo) a st.g=some s0.g)/\K s0:=by
 intro a;induction a with
 |skip=>intro st K h;exact⟨st,⟨0,λ_ _=>rfl⟩,h⟩;|seq x y _ d=>
  intro st K h;simp only[Em] at h;obtain⟨c,s,⟨N,e⟩,r,rfl,b⟩:=vP i j h;cases c with
  |norm=>
   obtain⟨s0,⟨M,m⟩,k⟩:=d b;refine⟨s0,⟨N+M,λn o=>?_⟩,k⟩;simp only[rf,e n n (by omega) (by omega)];grind;|exit q=>exact b.elim;|ret=>exact b.elim;|goto l=>exact b.elim
 |_=>intro st K h;exact h.elim
theorem acG (J:kG P T) (u:pO T.K p.C) (n:∀f F,p.it f=some F->T.fn f=some F) {f:FuncId} {F:fz} (S:T.fn f=some F) {args:List SV} {o:cj} {r:AV} {o':Store} (V:T.K f (gL args) (gO o) true=none) (B:args.length=F.params)
  {Q:SV->cj->Prop} (A:∀v s,Q v s->v.g=r/\gO s=o') (h:En p Λ F args o Q):gX P f=true/\kF P f (gL args) (gO o) r o':=by
 unfold En at h;split at h
 ·rename_i g a d ia ib Z;obtain⟨b,h1,h⟩:=acF u n h;obtain⟨O,U,h2,c,rfl,h⟩:=vP u n h;split at h
  ·rename_i k;split at h
   ·rename_i G hG;split at h
    ·rename_i Y;obtain⟨D,I,h3,i,rfl,h⟩:=vP u n h;split at h
     ·rename_i j;obtain⟨t,k1,m⟩:=xJ h;split at m
      ·rename_i y;simp only[θ,decide_eq_true_eq,τ] at y;obtain⟨⟨a2,L⟩,N⟩:=y;have R:(cy.mk (nu 0 args) o).g=⟨iw 0 (gL args),gO o⟩:=by simp[cy.g,vQ]
       have w:(gO o).length=o.length:=oh o;have a1:b.g.o.length=b.o.length:=oh b.o;have a0:c.g.o.length=c.o.length:=oh c.o;have H:a.map (eK b.g.env)=gL (a.map (jI b.env)):=by
        rw[gl,γO];refine γU λx _=>?_;show eK (gE b.env) x=_;grind[zS]
       have z:(cy.mk ((d,.ud)::b.env) b.o).g=⟨(d,.ud)::b.g.env,b.g.o⟩:=by simp[cy.g,gE,γF]
       have E:(cy.mk (nu 0 (a.map (jI b.env))) c.o).g=⟨iw 0 (gL (a.map (jI b.env))),c.g.o⟩:=by simp[cy.g,vQ]
       have W:(cy.mk c.env i.o).g=⟨c.g.env,i.g.o⟩:=rfl;have q:∀x∈gO i.o,x.bZ o.length=true:=by
        grind[gO,C2]
       have l:finish true (gO o).length t.g i.g.o=some (r,o'):=by
        simp only[finish,if_true,w];have e:lM o.length t.g i.g.o=some (t.g,(i.g.o).take o.length):=PG (by grind[zT]) q (by show o.length<=(gO i.o).length;grind[oh]);rw[e,<-(A _ _ m).1,<-(A _ _ m).2];simp_all[cy.g,gO]
       obtain⟨X,M,_⟩:=Zk J S Z (own:=true) V (by grind[jW]) (s0:=b.g) (s2:=c.g) (s3:=i.g) (by simp_all) (by simp_all) k (n g G hG) (by grind) Y.2 (by simp_all) j (by simp_all) l;exact⟨X,M⟩
      ·exact m.elim
     ·exact h.elim
    ·exact h.elim
   simp_all
  ·exact h.elim
 simp_all
end
theorem acH {P:Program} {d:FuncId->Option fz} {L:List bM} {W:List dH} (c:dH) {F:fz} {k:TypeId->Option bp} {e:List Nat×Bool->Option (bp×bp)} {Λ:c.α->Nat->cG}
  (n:kG P ⟨d,λ_ _ _ _=>none⟩) (i:∀c∈W,ef P c) (o:∀c∈L,Holds P c)
  (l:d c.f=some F) (b:∀a,(c.put a).length=F.params)
  (a:c.α) (m:oo c.f W=none)
  (h:En (om L (gP W) k e d) (Λ a) F (c.put a) (c.st a) λv s=>v.same (c.res a)/\kH s (c.out a)):
  gX P c.f=true/\kF P c.f (gL (c.put a)) (gO (c.st a)) (c.res a).g (gO (c.out a)):=by
 refine acG (p:=om L (gP W) k e d) (Λ:=Λ a) (Q:=λv s=>v.same (c.res a)/\kH s (c.out a)) (vS (kY i) o n) (vT (kY i)) (λ_ _ h=>h) l ?_ (b a) (λv s j=>⟨j.1,xI j.2⟩) h;simp_all[qD,sK,gP,um]
theorem acI {k:Nat} {r a:AV} {o mid o2:Store} (c:r.bU o (λi=>decide (k<=i))=some a) (g:jE o (λi=>decide (k<=i)) o=some mid) (e:fQ (λi=>decide (k<=i)) 0 mid=o2) (f:a.bZ k=true) (d:∀x∈o2,x.bZ k=true) (l:k<=o2.length):lM k r o=some (a,o2.take k):=by
 unfold lM;rw[c,g];simp only[e];have m:∀x∈o2.take k,x.bZ k=true:=λx h=>d x (γo h);rw[Py (by grind[ez,HB])];have j:iN.pE (ω k)=true:=by rw[δE];exact nodup_range'
 rw[if_pos j,C9 f];have b:=HA (k:=k) (o:=o2) m l (n:=k) (s:=0) (by omega);rw[<-δE,List.drop_zero] at b;rw[b]
def Eo (k:Nat) (r:SV) (o:cj) (K:SV->cj->Prop):Prop:=
 kZ o k r λb=>o9 o k 0 o λa=>if b.bZ k&&a.all (λx=>x.bZ k)&&decide (k<=a.length) then K b (a.take k) else False
theorem acJ {k:Nat} {r:SV} {o:cj} {K:SV->cj->Prop} (h:Eo k r o K):∃r' o',lM k r.g (gO o)=some (r'.g,gO o')/\K r' o':=by
 unfold Eo at h;obtain⟨l,p,f⟩:=HT h;obtain⟨c,i,n,m,a⟩:=xQ f;split at a
 ·rename_i b;simp only[θ,decide_eq_true_eq,τ] at b;obtain⟨⟨d,j⟩,e⟩:=b;refine⟨l,c.take k,?_,a⟩;simp_all[acI,zT,gO,C2]
 simp_all
def Ep (p:ja) (Λ:Nat->cG) (F:fz) (args:List SV) (o:cj) (Q:SV->cj->Prop):Prop:=
 wpS p o.length F.body Λ ⟨nu 0 args,o⟩ λa b=>match a with
  | .exit _=>False
  | .goto _=>False
  |_=>od b F.res λr=>Eo o.length r b.o Q
theorem acK {P:Program} {T:Tab} {p:ja} {Λ:Nat->cG} (A:kG P T) (t:pO T.K p.C) (y:∀f F,p.it f=some F->T.fn f=some F) {f:FuncId} {F:fz} (n:T.fn f=some F) {args:List SV} {o:cj} {r:AV} {o':Store} (z:T.K f (gL args) (gO o) true=none) (j:args.length=F.params)
  {Q:SV->cj->Prop} (D:∀v s,Q v s->v.g=r/\gO s=o') (h:Ep p Λ F args o Q):gX P f=true/\kF P f (gL args) (gO o) r o':=by
 unfold Ep at h;have e:=vP t y h;have d:(cy.mk (nu 0 args) o).g=⟨iw 0 (gL args),gO o⟩:=by simp[cy.g,vQ]
 rw[d] at e;have i:(gO o).length=o.length:=oh o;rw[<-i] at e;have x:∀(a:cy),(od a F.res λv=>Eo (gO o).length v a.o Q)->(nU a.g F.res).bind (λc=>finish true (gO o).length c a.g.o)=some (r,o'):=by
  intro a m;obtain⟨c,k,l⟩:=xJ m;obtain⟨u,q,w,E⟩:=acJ l;rw[k];simp only[Option.bind_some,finish,if_true];have:lM (gO o).length c.g a.g.o=some (u.g,gO q):=w;grind
 obtain⟨k,l,_⟩:=CN A n (o:=gO o) (own:=true) z (by grind[jW]) (v:=r) (o':=o') (e.mono λb s B=>by
  obtain⟨a,rfl,m⟩:=B;cases b<;>simp_all);simp_all
theorem acL {P:Program} {d:FuncId->Option fz} {L:List bM} {W:List dH} (c:dH) {F:fz} {k:TypeId->Option bp} {e:List Nat×Bool->Option (bp×bp)} {Λ:c.α->Nat->cG}
  (n:kG P ⟨d,λ_ _ _ _=>none⟩) (i:∀c∈W,ef P c) (o:∀c∈L,Holds P c)
  (l:d c.f=some F) (b:∀a,(c.put a).length=F.params)
  (a:c.α) (m:oo c.f W=none)
  (h:Ep (om L (gP W) k e d) (Λ a) F (c.put a) (c.st a) λv s=>v.same (c.res a)/\kH s (c.out a)):
  gX P c.f=true/\kF P c.f (gL (c.put a)) (gO (c.st a)) (c.res a).g (gO (c.out a)):=by
 refine acK (p:=om L (gP W) k e d) (Λ:=Λ a) (Q:=λv s=>v.same (c.res a)/\kH s (c.out a)) (vS (kY i) o n) (vT (kY i)) (λ_ _ h=>h) l ?_ (b a) (λv s j=>⟨j.1,xI j.2⟩) h;simp_all[qD,sK,gP,um]
def Ju:bM:=⟨150,Int,.one (eU .i64),λ_=>True,λ_=> .sb false⟩
theorem h334:Holds Tryz.prog Ju:=by
 refine cH (L:=[]) Ju lk (by simp) ?_;rintro(x:Int) -;refine bQ ((γA (decide (x≠x))).same (γA false)) (by kernel_rfl) ?_;simp_all
def yt (x y:Int):Int:=if x<y then -1 else if y<x then 1 else 0
def Jv:bM:=⟨113,Int×Int,.cons (eU .i64) (.one (eU .i64)),λ_=>True,λa=> .si .i64 (yt a.1 a.2)⟩
theorem h321:Holds Tryz.prog Jv:=by
 refine cH (L:=[Ju]) Jv lk (by grind[h334]) ?_;rintro⟨x,y⟩ -;refine bQ (let b:=γB .i64;let c:=γB .i64 0;let a:=γd .i64 (yt x y);True/\True/\(false=true->(false=true->(b 0).same a)/\(false=false->(b (-1:Int)).same a))/\(false=false->(false=true->(b 1).same a)/\(false=false->(decide (x<y)=true->(b (-1:Int)).same a)/\(decide (x<y)=false->(decide (y<x)=true->(b 1).same a)/\(decide (y<x)=false->(b 0).same a))))) (by kernel_rfl) ?_;simp_all[yt,if_neg]
def wv (b:bC):Int:=b.a0+b.a1+b.a2+b.a3+b.a4+b.a5
def Jw:bM:=⟨114,bC,.one (ei .fi),λb=>b.ok=true,λb=> .si .i64 (wv b)⟩
theorem h322:Holds Tryz.prog Jw:=by
 refine cH (L:=[]) Jw (λ_ _=> .qy 7) (by simp) ?_;rintro(b:bC) (h:b.ok=true);have h:=bC.iP.1 h;refine bQ (let d:=cu .i64;let a:=(0:Int)+b.a0+b.a1;let c:=a+b.a2+b.a3+b.a4;d ((0:Int)+b.a0)/\d a/\d (a+b.a2)/\d (a+b.a2+b.a3)/\d c/\d (c+b.a5)/\(γd .i64 (c+b.a5)).same (γd .i64 (wv b))) (by kernel_rfl) ?_;simp only[vcs];unfold wv;omega
def oI (p:bn) (i:Int):Off:=bj p.offers i.toNat bp.off.dflt
def rK (p:bn) (i:Int):Int:=(oI p i).value
def pV (p:bn) (i:Int):Int:=wv (oI p i).want
def fH (p:bn) (i:Int):Int:=rK p i*(5354228880 / pV p i)
def mO (p:bn) (i:Int):Prop:=0<=i/\i<p.offers.length
theorem A2 {p:bn} (b:bz p=0) {i:Int} (h:mO p i):(1<=rK p i/\rK p i<=1000000)/\(1<=pV p i/\pV p i<=24)/\(oI p i).want.ok=true:=by
 obtain⟨j,k⟩:=h;have c:=dn (d:=bp.off.dflt) (show i.toNat<p.offers.length by omega);have a:=(dQ b).2.2.2.2 _ c;have g:=(Dv ((uq b).2 _ c)).2.1;have e:=bC.iP.1 a.2.2.1;have f:¬((oI p i).want.a0=0/\(oI p i).want.a1=0/\(oI p i).want.a2=0/\(oI p i).want.a3=0/\(oI p i).want.a4=0/\(oI p i).want.a5=0):=λh=>g (Dk.2 h);have e:(0<=(oI p i).want.a0/\(oI p i).want.a0<=4)/\(0<=(oI p i).want.a1/\(oI p i).want.a1<=4)/\(0<=(oI p i).want.a2/\(oI p i).want.a2<=4)/\(0<=(oI p i).want.a3/\(oI p i).want.a3<=4)/\(0<=(oI p i).want.a4/\(oI p i).want.a4<=4)/\(0<=(oI p i).want.a5/\(oI p i).want.a5<=4):=e;refine⟨⟨a.2.2.2.1,a.2.2.2.2⟩,?_,a.2.2.1⟩;unfold pV wv;omega
theorem SE {t:Int} (a:1<=t) (b:t<=24):t*(5354228880 / t)=5354228880/\1<=5354228880 / t:=by
 have:t=1\/t=2\/t=3\/t=4\/t=5\/t=6\/t=7\/t=8\/t=9\/t=10\/t=11\/t=12\/t=13\/t=14\/t=15\/t=16\/t=17\/t=18\/t=19\/t=20\/t=21\/t=22\/t=23\/t=24:=by omega
 rcases this with rfl|rfl|rfl|rfl|rfl|rfl|rfl|rfl|rfl|rfl|rfl|rfl|rfl|rfl|rfl|rfl|rfl|rfl|rfl|rfl|rfl|rfl|rfl|rfl<;>decide
theorem acM {p:bn} (g:bz p=0) {x y:Int} (j:mO p x) (i:mO p y):fH p x<fH p y↔rK p x*pV p y<rK p y*pV p x:=by
 obtain⟨m,e,_⟩:=A2 g j;obtain⟨u,f,_⟩:=A2 g i;obtain⟨v,q⟩:=SE e.1 e.2;obtain⟨o,r⟩:=SE f.1 f.2;unfold fH;generalize 5354228880 / pV p x=d at*;generalize 5354228880 / pV p y=c at*;generalize rK p x=a at*;generalize rK p y=b at*;generalize pV p x=s at*;generalize pV p y=t at*;have k:0<d*c:=Int.mul_pos (by omega) (by omega);have l:(a*t)*(d*c)=(a*d)*5354228880:=by grind
 have n:(b*s)*(d*c)=(b*c)*5354228880:=by grind
 constructor
 ·intro h;have:(a*t)*(d*c)<(b*s)*(d*c):=by omega
  exact Int.lt_of_mul_lt_mul_right this (by omega)
 ·intro h;have:(a*t)*(d*c)<(b*s)*(d*c):=Int.mul_lt_mul_of_pos_right h k;omega
def A4 (p:bn) (x y:Int):Int:=yt (rK p y*pV p x) (rK p x*pV p y)
theorem acN {p:bn} (a:bz p=0) {x y:Int} (c:mO p x) (b:mO p y):A4 p x y<0↔fH p y<fH p x:=by
 rw[acM a b c];grind[A4,yt]
def Jx:dH where
 f:=112;α:=Int×Int×bn;put a:=[.si .i64 a.1,.si .i64 a.2.1,.ptr 0 0 20];st a:=[.cells a.2.2.ss 27 20 false];dec v o:=match v,o with
  |[x,y,.ptr 0 0 20],[.cells cs 27 20 false]=>match x.int .i64,y.int .i64,vU cs with
   |some x,some y,some p=>some (x,y,p)
   |_,_,_=>none
  |_,_=>none;ok v o a h:=by
  split at h
  ·split at h
   ·rename_i h1 h2 h3;simp only[γ] at h;subst h;refine⟨by simp only[gL,iO h1,iO h2];rfl,?_⟩;simp only[gO,ξ,γv,bq.g,Ac h3]
   ·cases h
  ·cases h
 inj a b h1 h2:=by
  simp only[gL,Γ,and_true,γF,δd,Value.int.injEq,true_and] at h1;simp only[gO,ξ,γv,bq.g,Γ,bR.cells.injEq,and_true] at h2;have h3:=dO.inj a.2.2 b.2.2 (by simp only[dO,γF,h2]);exact εC h1.1 (εC h1.2 h3)
 dom a:=bz a.2.2=0/\mO a.2.2 a.1/\mO a.2.2 a.2.1;res a:=.si .i64 (A4 a.2.2 a.1 a.2.1);out a:=[.cells a.2.2.ss 27 20 false]
theorem h320:ef Tryz.prog Jx:=by
 refine lz (L:=[Jw,Jv]) (W:=[]) Jx lk (by simp) (by grind[h322,h321]) ?_;rintro⟨x,y,p⟩ ⟨f,e,c⟩;refine bQ (let a:=bp.off.dflt;let d:=p.offers.length;let g:=bj p.offers x.toNat a;let h:=bj p.offers y.toNat a;let k:=h.value*wv g.want;let l:=g.value*wv h.want;let j:=bq.cells (bn.ss p) 27 20 false;(0:Int)<=x/\x<(↑d:Int)/\x.toNat<d/\(0:Int)<=y/\y<(↑d:Int)/\y.toNat<d/\g.want.ok=true/\cu .i64 k/\h.want.ok=true/\cu .i64 l/\True/\(γd .i64 (yt k l)).same (γd .i64 (A4 p x y))/\j.same j/\True) (by kernel_rfl) ?_;simp only[vcs];have f:bz p=0:=f;have e:mO p x:=e;have c:mO p y:=c;obtain⟨s,w,q⟩:=A2 f e;obtain⟨m,A,z⟩:=A2 f c;obtain⟨o,n⟩:=e;obtain⟨B,r⟩:=c;have i:∀{v t:Int},1<=v/\v<=1000000->1<=t/\t<=24-> -9223372036854775808<=v*t/\v*t<=9223372036854775807:=λ{v t} C u=>by
  have a:=Int.mul_nonneg (show 0<=v by omega) (show 0<=t by omega);have b:=Int.mul_le_mul C.2 u.2 (by omega) (show(0:Int)<=1000000 by omega);omega
 exact⟨o,n,by omega,B,r,by omega,q,i m w,z,i s A,rfl⟩
def kp (D:Int->Int) (x y:Int):Bool:=decide (D y<D x)||(decide (D x=D y)&&decide (x<=y))
theorem A5 {D:Int->Int} {x y:Int}:kp D x y=true↔D y<D x\/(D x=D y/\x<=y):=by grind[kp]
theorem SG {D:Int->Int} (a b c:Int) (d:kp D a b=true) (e:kp D b c=true):kp D a c=true:=by
 grind[A5]
theorem acO {D:Int->Int} (a b:Int):(kp D a b||kp D b a)=true:=by
 grind[A5]
theorem acP {D:Int->Int} {a b:Int} (c:kp D a b=true) (d:kp D b a=true):a=b:=by
 grind[A5]
abbrev uI (D:Int->Int) (l:List Int):Prop:=l.Pairwise λa b=>kp D a b=true
def dZ (D:Int->Int) (l:List Int):List Int:=l.mergeSort (kp D)
theorem A6 {D:Int->Int} {l:List Int}:(dZ D l).Perm l:=δu _ _
theorem SH {D:Int->Int} {l:List Int}:uI D (dZ D l):=List.pairwise_mergeSort SG acO l
theorem s7 {D:Int->Int} {l:List Int}:(dZ D l).length=l.length:=A6.length_eq
theorem Jy {D:Int->Int} {l:List Int} {x:Int}:x∈dZ D l↔x∈l:=A6.mem_iff
theorem SI {D:Int->Int} {l m:List Int} (e:m.Perm l) (f:uI D m):m=dZ D l:=
 List.Perm.eq_of_pairwise (λa b _ _ c d=>acP c d) f SH (e.trans A6.symm)
theorem acQ {D:Int->Int} {l:List Int} (h:uI D l):dZ D l=l:=(SI (ζS _) h).symm
def seg (l:List Int) (a b:Nat):List Int:=(l.drop a).take (b - a)
def gZ (D:Int->Int) (l:List Int) (a b:Nat):List Int:=l.take a++dZ D (seg l a b)++l.drop b
theorem wy {l:List Int} {a b:Nat} (c:a<=b) (d:b<=l.length):(seg l a b).length=b - a:=by
 grind[seg]
theorem Jz {l:List Int} {a b:Nat} (c:a<=b) (d:b<l.length):seg l a (b+1)=seg l a b++[bj l b 0]:=by
 unfold seg;rw[show b+1 - a=(b - a)+1 by omega,List.take_succ_eq_append_getElem (by grind),List.getElem_drop];grind[cT]
theorem SJ {l:List Int} {a:Nat}:seg l a a=[]:=by grind[seg]
theorem SK {D:Int->Int} {l:List Int} {a b:Nat} (c:a<=b) (d:b<=l.length):(gZ D l a b).length=l.length:=by
 grind[gZ,s7,wy]
theorem SL {l:List Int} {i:Nat} (h:i<l.length):l.drop i=bj l i 0::l.drop (i+1):=by
 simp_all[cT]
theorem SN {D:Int->Int} {l:List Int} {a:Nat}:gZ D l a a=l:=by
 simp_all[gZ,SJ,dZ]
theorem acR {D:Int->Int} {l:List Int} {a:Nat} (h:a<l.length):gZ D l a (a+1)=l:=by
 have e:seg l a (a+1)=[bj l a 0]:=by grind[Jz,SJ]
 unfold gZ;rw[e,acQ (by simp),γY];simp only[List.singleton_append];rw[<-SL h,γK]
def lg (D:Int->Int) (l:List Int) (a i j:Nat):List Int:=l.take a++((dZ D (seg l a i)).take (j - a)++bj l i 0::(dZ D (seg l a i)).drop (j - a))++l.drop (i+1)
theorem acS {D:Int->Int} {l:List Int} {a i j:Nat} (b:a<=i) (c:i<l.length):(lg D l a i j).length=l.length:=by
 grind[s7,wy,lg]
theorem acT {D:Int->Int} {l:List Int} {a i:Nat} (b:a<=i) (c:i<l.length):lg D l a i i=gZ D l a i:=by
 grind[s7,wy,lg,gZ,SL]
theorem acU {A B:List Int} {y x:Int}:((A++y::x::B).set (A.length+1) y).set A.length x=A++x::y::B:=by
 simp_all
theorem acV {A B:List Int} {y:Int}:bj (A++y::B) A.length 0=y:=by grind[bj]
theorem acW {A B:List Int} {y x:Int}:bj (A++y::x::B) (A.length+1) 0=x:=by grind[bj]
theorem acX {D:Int->Int} {l:List Int} {a i k:Nat} (c:a+k+1<=i) (d:i<l.length):
  lg D l a i (a+k+1)=(l.take a++(dZ D (seg l a i)).take k)++bj (dZ D (seg l a i)) k 0::bj l i 0::((dZ D (seg l a i)).drop (k+1)++l.drop (i+1))/\
  lg D l a i (a+k)=(l.take a++(dZ D (seg l a i)).take k)++bj l i 0::bj (dZ D (seg l a i)) k 0::((dZ D (seg l a i)).drop (k+1)++l.drop (i+1))/\
  (l.take a++(dZ D (seg l a i)).take k).length=a+k:=by
 have b:=@s7 D (seg l a i);rw[wy (by omega) (by omega)] at b;have e:k<(dZ D (seg l a i)).length:=by omega
 have g:(dZ D (seg l a i)).take (k+1)=(dZ D (seg l a i)).take k++[bj (dZ D (seg l a i)) k 0]:=by simp_all[cT]
 have f:(dZ D (seg l a i)).drop k=bj (dZ D (seg l a i)) k 0::(dZ D (seg l a i)).drop (k+1):=by simp_all[cT]
 grind[lg]
theorem acY {D:Int->Int} {l:List Int} {a i j:Nat} (g:a<j) (f:j<=i) (d:i<l.length):
  bj (lg D l a i j) j 0=bj l i 0/\bj (lg D l a i j) (j - 1) 0=bj (dZ D (seg l a i)) (j - 1 - a) 0/\
  ((lg D l a i j).set j (bj (dZ D (seg l a i)) (j - 1 - a) 0)).set (j - 1) (bj l i 0)=lg D l a i (j - 1):=by
 obtain⟨b,c,e⟩:=@acX D l a i (j - 1 - a) (by omega) d;rw[show a+(j - 1 - a)+1=j by omega] at b;rw[show a+(j - 1 - a)=j - 1 by omega] at c e;rw[b,c];generalize l.take a++(dZ D (seg l a i)).take (j - 1 - a)=A at*;generalize bj (dZ D (seg l a i)) (j - 1 - a) 0=y at*;generalize bj l i 0=x at*;grind[acW,acV,acU]
theorem acZ {D:Int->Int} {S:List Int} {x:Int} {k:Nat} (n:uI D S) (d:∀s∈S.drop k,kp D x s=true) (b:k=0\/(k<=S.length/\kp D (bj S (k - 1) 0) x=true)):uI D (S.take k++x::S.drop k):=by
 have a:uI D (S.take k++S.drop k):=by simp_all
 obtain⟨g,f,i⟩:=δY.1 a;have j:∀s∈S.take k,kp D s x=true:=by
  rcases b with rfl|⟨h,b⟩;·simp
  ·intro s l;by_cases m:k=0;·simp_all
   have c:k - 1<S.length:=by omega
   have e:S.take k=S.take (k - 1)++[bj S (k - 1) 0]:=by
    conv=>lhs;rw[show k=(k - 1)+1 by omega]
    simp_all[cT]
   grind[SG]
 rw[uI,δY];simp_all
theorem ac0 {S:List Int} {x:Int} {k:Nat}:(S.take k++x::S.drop k).Perm (S++[x]):=by
 refine(List.perm_middle).trans ?_;rw[γK];grind
theorem ac1 {D:Int->Int} {l:List Int} {a i j:Nat} (k:a<=j) (f:j<=i) (e:i<l.length) (b:∀s∈(dZ D (seg l a i)).drop (j - a),kp D (bj l i 0) s=true) (g:j=a\/kp D (bj (dZ D (seg l a i)) (j - 1 - a) 0) (bj l i 0)=true):
  lg D l a i j=gZ D l a (i+1):=by
 have c:=@s7 D (seg l a i);rw[wy (by omega) (by omega)] at c;have d:uI D ((dZ D (seg l a i)).take (j - a)++bj l i 0::(dZ D (seg l a i)).drop (j - a)):=by
  refine acZ SH b ?_;grind
 have h:((dZ D (seg l a i)).take (j - a)++bj l i 0::(dZ D (seg l a i)).drop (j - a)).Perm (seg l a (i+1)):=by
  rw[Jz (by omega) e];exact ac0.trans (List.Perm.append A6 (ζS _))
 grind[lg,gZ,SI]
def yu:Nat->List SV->Option (List Int)
 |0,[.fn (.func 112) [] [.ptr 1 0 20]]=>some []
 |k+1,x::r=>match x.int .i64,yu k r with
  |some n,some l=>some (n::l)
  |_,_=>none
 |_,_=>none
theorem SO:∀{k:Nat} {r:List SV} {l:List Int},yu k r=some l->gL r=gL (l.map (γd .i64)++[.fn (.func 112) [] [.ptr 1 0 20]])
 |0,r,l,h=>by
  unfold yu at h;split at h;·simp only[γ] at h;subst h;rfl
  ·rename_i h0;cases h0
  ·cases h;|k+1,[],l,h=>by simp[yu] at h;|k+1,x::r,l,h=>by
  simp only[yu] at h;split at h
  ·rename_i n l' h1 h2;simp only[γ] at h;subst h;simp only[gL,ξ,γJ,SO h2,iO h1];rfl
  ·cases h
theorem SQ:∀{l m:List Int} {z:List SV},l.length=m.length->gL (l.map (γd .i64)++z)=gL (m.map (γd .i64)++z)->l=m
 |[],[],_,_,_=>rfl
 |[],_::_,_,h,_=>by simp at h;|_::_,[],_,h,_=>by simp at h;|x::l,y::m,z,hl,h=>by
  simp only[ξ,γJ,gL,Γ,γF,δd,Value.int.injEq,true_and] at h;rw[h.1,SQ (by simpa using hl) h.2]
def JA (f:FuncId) (k:Nat) (β:Type) (A7:β->List Int) (SR:List Int->Option β) (h0:∀b,(A7 b).length=k) (h1:∀l b,SR l=some b->l=A7 b) (h2:∀b c,A7 b=A7 c->b=c) (dom:(Nat×List Int×bn)×β->Prop) (out:(Nat×List Int×bn)×β->List Int):dH where
 f:=f;α:=(Nat×List Int×bn)×β;put a:=.ow 0 a.1.1 1::((A7 a.2).map (γd .i64)++[.fn (.func 112) [] [.ptr 1 0 20]]);st a:=[.row (.i .i64) a.1.2.1 3 true,.cells a.1.2.2.ss 27 20 false];dec v o:=match v,o with
  | .ow 0 n 1::r,[.row t l 3 true,.cells cs 27 20 false]=>match yu k r,iH t (.i .i64) l,vU cs with
   |some xs,some l,some p=>match SR xs with
    |some b=>some ((n,l,p),b)
    |none=>none
   |_,_,_=>none
  |_,_=>none;ok v o a h:=by
  split at h
  ·split at h
   ·rename_i h3 h4 h5;split at h
    ·rename_i b hb;simp only[γ] at h;subst h;obtain⟨rfl,hh⟩:=mH h4;cases hh;have:=h1 _ _ hb;subst this;refine⟨by simp only[gL,SO h3],?_⟩;simp only[gO,ξ,γv,bq.g,Ac h5]
    ·cases h
   ·cases h
  ·cases h
 inj a b e1 e2:=by
  obtain⟨⟨n,l,p⟩,x⟩:=a;obtain⟨⟨n',l',p'⟩,x'⟩:=b;simp only[gL,Γ,γF,εy,true_and] at e1;simp only[gO,ξ,γv,bq.g,Γ,bR.cells.injEq,and_true,true_and] at e2;have h3:p=p':=dO.inj p p' (by simp only[dO,γF,e2.2]);have h4:l=l':=by
   have hf:=congrArg γc e2.1;rw[fe,fe] at hf;exact ly (.i .i64) (by simpa[bp.sz] using hf) e2.1
  have h5:x=x':=h2 _ _ (SQ (by rw[h0,h0]) e1.2);rw[e1.1.1,h3,h4,h5]
 dom:=dom;res _:=.bI [];out a:=[.row (.i .i64) (out a) 3 true,.cells a.1.2.2.ss 27 20 false]
abbrev Srg:=Nat×List Int×bn
def A8 (b:Int×Int):List Int:=[b.1,b.2]
def JB:List Int->Option (Int×Int)
 |[a,b]=>some (a,b)
 |_=>none
theorem ac3:∀l b,JB l=some b->l=A8 b:=λl b h=>by
 unfold JB at h;split at h;·simp only[γ] at h;subst h;rfl
 ·cases h
theorem ac4:∀b c,A8 b=A8 c->b=c:=λb c h=>by
 unfold A8 at h;simp only[Γ,and_true] at h;exact εC h.1 h.2
def wz (a:Srg):Prop:=(bz a.2.2=0/\a.1=a.2.1.length)/\a.2.1.length<=1000/\∀x∈a.2.1,mO a.2.2 x
def JC (l:List Int) (a b:Int):Prop:=0<=a/\a<=b/\b<=l.length
theorem SS {l m:List Int} (h:l=m):(bq.row (.i .i64) l 3 true).same (bq.row (.i .i64) m 3 true):=by subst h;rfl
def JD:dH:=JA 172 2 (Int×Int) A8 JB (λ_=>rfl) ac3 ac4 (λa=>wz a.1/\JC a.1.2.1 a.2.1 a.2.2/\(seg a.1.2.1 a.2.1.toNat a.2.2.toNat).Pairwise (·<·)) λa=>gZ (fH a.1.2.2) a.1.2.1 a.2.1.toNat a.2.2.toNat
def ac5 (n:Nat) (l:List Int) (p:bn) (a b:Int):Nat->cG
 |1=> .inv (Int×List Int) (λx=>⟨[(0,.ow 0 n 1),(1,.si .i64 a),(2,.si .i64 b),(3,.fn (.func 112) [] [.ptr 1 0 20]),(8,.si .i64 x.1)],[.row (.i .i64) x.2 3 true,.cells p.ss 27 20 false]⟩) (λs=>(iS s 8,oS (.i .i64) s 0))
   (λx=>(a<x.1/\(x.1<=b\/x.1=a+1))/\x.2=gZ (fH p) l a.toNat (if a<b then x.1 else a).toNat) (λx=>(b - x.1).toNat) λx k=>match k with
    |4=> .inv (Int×List Int) (λy=>⟨[(0,.ow 0 n 1),(1,.si .i64 a),(2,.si .i64 b),(3,.fn (.func 112) [] [.ptr 1 0 20]),(8,.si .i64 x.1),(9,.si .i64 y.1)],[.row (.i .i64) y.2 3 true,.cells p.ss 27 20 false]⟩) (λs=>(iS s 9,oS (.i .i64) s 0))
      (λy=>(a<=y.1/\y.1<=x.1)/\y.2=lg (fH p) l a.toNat x.1.toNat y.1.toNat/\∀s∈(dZ (fH p) (seg l a.toNat x.1.toNat)).drop (y.1 - a).toNat,kp (fH p) (bj l x.1.toNat 0) s=true) (λy=>(y.1 - a).toNat) λ_ _=> .look
    |_=> .look
 |_=> .look
theorem h343:ef Tryz.prog JD:=by
 refine lz (L:=[]) (W:=[Jx]) JD (λa=>ac5 a.1.1 a.1.2.1 a.1.2.2 a.2.1 a.2.2) (by simpa using h320) (by simp) ?_;rintro⟨⟨n,l,p⟩,a,b⟩ ⟨⟨⟨hc,hn⟩,hl,ho⟩,⟨a0,a1,a2⟩,hi⟩;refine bQ (let c:=γd .i64;let d:=(0:Int);let e:=cu .i64;let f:=bq.row;let g:=(1:Int);let m:=a+g;let o:=γZ 0 n 1;let q:=SV.fn (Fn.func 112) [] [γQ 1 0 20];let E:=c m;let w:=bp.i .i64;let F:=f w l 3 true;let k:=bq.cells [c p.supply.a0,c p.supply.a1,c p.supply.a2,c p.supply.a3,c p.supply.a4,c p.supply.a5,c p.opn.a0,c p.opn.a1,c p.opn.a2,c p.opn.a3,c p.opn.a4,c p.opn.a5,c p.cls.a0,c p.cls.a1,c p.cls.a2,c p.cls.a3,c p.cls.a4,c p.cls.a5,Ω w p.classes,Ω bp.off p.offers] 27 20 false;e m/\(((o.same o/\(c a).same (c a)/\(c b).same (c b)/\q.same q/\E.same E/\True)/\F.same F/\k.same k/\True)/\(a<m/\(m<=b\/m=m))/\l=gZ (fH p) l a.toNat (if a<b then m else a).toNat)/\∀(x:Int×List Int),let y:=c x.fst;let B:=f w x.snd 3 true;let r:=x.fst.toNat;let C:=dZ (fH p) (seg l a.toNat r);let t:=x.fst+g;let G:=c t;let N:=gZ (fH p) l a.toNat (if a<b then t else a).toNat;(a<x.fst/\(x.fst<=b\/x.fst=m))/\x.snd=gZ (fH p) l a.toNat (if a<b then x.fst else a).toNat->(decide (x.fst<b)=true->(((o.same o/\(c a).same (c a)/\(c b).same (c b)/\q.same q/\y.same y/\y.same y/\True)/\B.same B/\k.same k/\True)/\(a<=x.fst/\x.fst<=x.fst)/\x.snd=lg (fH p) l a.toNat r r/\∀(s:Int),s∈γ4 (x.fst - a).toNat C->kp (fH p) (bj l r d) s=true)/\∀(x_1:Int×List Int),let H:=f w x_1.snd 3 true;let v:=x_1.fst.toNat;let D:=bj x_1.snd v d;let j:=x_1.fst - g;let z:=j.toNat;let A:=bj x_1.snd z d;let h:=x_1.snd.length;let z23:Nat:=(x_1.snd.set v A).length;let I:=c j;let J:=(x_1.snd.set v A).set z D;let K:=f w J 3 true;let L:=e t/\((o.same o/\(c a).same (c a)/\(c b).same (c b)/\q.same q/\G.same G/\True)/\H.same H/\k.same k/\True)/\((a<t/\(t<=b\/t=m))/\x_1.snd=N)/\(b - t).toNat<(b - x.fst).toNat;let M:=λ(u:Bool) ↦decide (A4 p D A<d)=u;((a<=x_1.fst/\x_1.fst<=x.fst)/\x_1.snd=lg (fH p) l a.toNat r v/\∀(s:Int),s∈γ4 (x_1.fst - a).toNat C->kp (fH p) (bj l r d) s=true)->(decide (a<x_1.fst)=true->n=h/\d<=x_1.fst/\x_1.fst<(↑h:Int)/\n=h/\v<h/\e j/\n=h/\d<=j/\j<(↑h:Int)/\n=h/\z<h/\(bz p=d/\mO p D/\mO p A)/\(M true->e j/\e j/\n=h/\d<=j/\j<(↑h:Int)/\n=h/\z<h/\n=h/\d<=x_1.fst/\x_1.fst<(↑h:Int)/\n=h/\v<h/\n=h/\d<=x_1.fst/\x_1.fst<(↑h:Int)/\n=h/\v<h/\n=z23/\d<=j/\j<(↑z23:Int)/\n=z23/\z<z23/\e j/\((o.same o/\(c a).same (c a)/\(c b).same (c b)/\q.same q/\y.same y/\I.same I/\True)/\K.same K/\k.same k/\True)/\((a<=j/\j<=x.fst)/\J=lg (fH p) l a.toNat r z/\∀(s:Int),s∈γ4 (j - a).toNat C->kp (fH p) (bj l r d) s=true)/\(j - a).toNat<(x_1.fst - a).toNat)/\(M false->L))/\(decide (a<x_1.fst)=false->L))/\(decide (x.fst<b)=false->(SV.bI []).same (SV.bI [])/\B.same (f w (gZ (fH p) l a.toNat b.toNat) 3 true)/\k.same k/\True)) (by kernel_rfl) ?_;simp only[vcs];have hc:bz p=0:=hc;have hn:n=l.length:=hn;have hl:l.length<=1000:=hl;have ho:∀x∈l,mO p x:=ho;have a0:0<=a:=a0;have a1:a<=b:=a1;have a2:b<=l.length:=a2;have hi:(seg l a.toNat b.toNat).Pairwise (·<·):=hi;generalize hD:fH p=D at*;have sl:∀{i:Int},a<=i->i<=b->(gZ D l a.toNat i.toNat).length=l.length:=λh1 h2=>SK (by omega) (by omega);refine⟨by omega,⟨⟨by omega,.inr trivial⟩,?_⟩,?_⟩
 ·by_cases hab:a<b;·rw[if_pos hab,show(a+1).toNat=a.toNat+1 by omega,acR (by omega)]
  ·rw[if_neg hab,SN]
 rintro⟨i,m⟩ ⟨⟨i0,i1⟩,hm⟩;simp only at i0 i1 hm ⊢;refine⟨λhib=>?_,λhib=>SS ?_⟩
 ·rw[if_pos (by omega)] at hm;have hx:=ho _ (dn (d:=(0:Int)) (show i.toNat<l.length by omega));have hS:∀s∈dZ D (seg l a.toNat i.toNat),s<bj l i.toNat 0/\mO p s:=λs hs=>by
   have h1:=Jy.1 hs;have h2:(seg l a.toNat (i.toNat+1)).Pairwise (·<·):=by
    refine hi.sublist ?_;unfold seg;exact List.take_sublist_take_left (by omega)
   rw[Jz (by omega) (by omega)] at h2;refine⟨(δY.1 h2).2.2 s h1 _ (by simp),ho s ?_⟩;unfold seg at h1;exact γX (γo h1)
  have hSl:(dZ D (seg l a.toNat i.toNat)).length=i.toNat - a.toNat:=by rw[s7,wy (by omega) (by omega)]
  have il:∀{j:Nat},(lg D l a.toNat i.toNat j).length=l.length:=λ{j}=>acS (by omega) (by omega);refine⟨⟨⟨by omega,by omega⟩,?_,?_⟩,?_⟩;·rw[hm,acT (by omega) (by omega)]
  ·intro s hs;rw[List.drop_of_length_le (by omega)] at hs;simp at hs
  rintro⟨j,m2⟩ ⟨⟨j0,j1⟩,hm2,hle⟩;simp only at j0 j1 hm2 hle ⊢;subst hm2;simp only[List.length_set,il];have fin:(j=a\/kp D (bj (dZ D (seg l a.toNat i.toNat)) (j.toNat - 1 - a.toNat) 0) (bj l i.toNat 0)=true)->lg D l a.toNat i.toNat j.toNat=gZ D l a.toNat (if a<b then i+1 else a).toNat:=λh=>by
   rw[if_pos (by omega),show(i+1).toNat=i.toNat+1 by omega];refine ac1 (by omega) (by omega) (by omega) ?_ ?_;·rw[show j.toNat - a.toNat=(j - a).toNat by omega];exact hle
   ·rcases h with h|h;·exact .inl (by omega)
    ·exact .inr h
  refine⟨λhj=>?_,λhj=>?_⟩
  ·obtain⟨k1,k2,k3⟩:=@acY D l a.toNat i.toNat j.toNat (by omega) (by omega) (by omega);have ej:(j - 1).toNat=j.toNat - 1:=by omega
   rw[ej,k1,k2,k3];have hs:=dn (d:=(0:Int)) (show j.toNat - 1 - a.toNat<(dZ D (seg l a.toNat i.toNat)).length by omega);obtain⟨s1,s2⟩:=hS _ hs;have hcmp:=acN hc hx s2;rw[hD] at hcmp;rw[hcmp];refine⟨by omega,by omega,by omega,by omega,by omega,by omega,by omega,by omega,by omega,by omega,by omega,⟨hc,hx,s2⟩,λh1=>?_,λh1=>?_⟩
   ·repeat' refine γl ?_ ?_
    all_goals first|omega|rfl|skip
    intro s hs2;rw[show(j - 1 - a).toNat=j.toNat - 1 - a.toNat by omega,List.drop_eq_getElem_cons (show j.toNat - 1 - a.toNat<(dZ D (seg l a.toNat i.toNat)).length by omega)] at hs2;rcases List.mem_cons.1 hs2 with rfl|hs2
    ·rw[<-cT (d:=(0:Int))];exact A5.2 (.inl h1)
    ·refine hle s ?_;rw[show(j - a).toNat=j.toNat - 1 - a.toNat+1 by omega];exact hs2
   ·have:=fin (.inr (A5.2 (by omega)));repeat' refine γl ?_ ?_
    all_goals first|omega|exact this|rfl
  ·have:=fin (.inl (by omega));repeat' refine γl ?_ ?_
   all_goals first|omega|exact this|rfl
 ·rw[hm];by_cases hab:a<b;·rw[if_pos hab,show i=b by omega]
  ·rw[if_neg hab,show a=b by omega]
theorem ac6 {l:List Int} {a b:Nat} {x:Int} (h:x∈seg l a b):x∈l:=by
 unfold seg at h;exact γX (γo h)
theorem ac7 {D:Int->Int} {l:List Int} {a b:Nat} {x:Int} (h:x∈gZ D l a b):x∈l:=by
 unfold gZ at h;simp only[γm] at h;rcases h with(h|h)|h;·exact γo h
 ·exact ac6 (Jy.1 h)
 ·exact γX h
def Ba (b:Int):List Int:=[b]
def JE:List Int->Option Int
 |[a]=>some a
 |_=>none
theorem ac8:∀l b,JE l=some b->l=Ba b:=λl b h=>by
 unfold JE at h;split at h;·simp only[γ] at h;subst h;rfl
 ·cases h
theorem ac9:∀b c,Ba b=Ba c->b=c:=λb c h=>by
 simp_all[Ba]
def Es (_:Unit):List Int:=[]
def JF:List Int->Option Unit
 |[]=>some ()
 |_=>none
theorem ada:∀l b,JF l=some b->l=Es b:=λl b h=>by
 unfold JF at h;split at h;·rfl
 ·cases h
theorem adb:∀b c,Es b=Es c->b=c:=λ_ _ _=>rfl
theorem SU {D:Int->Int} {l:List Int} {n:Nat} (h:n=l.length):gZ D l 0 n=dZ D l:=by
 grind[gZ,seg]
theorem ade {D:Int->Int} {l:List Int} {b c d:Nat} (h:b<=c) (e:b<=l.length):seg (gZ D l 0 b) c d=seg l c d:=by
 have a:(dZ D (seg l 0 b)).length=b:=by grind[s7,wy]
 unfold gZ;have:(l.take 0++dZ D (seg l 0 b)++l.drop b).drop c=l.drop c:=by
  rw[List.take_zero,δK,List.drop_append,List.drop_eq_nil_of_le (by omega),δK,List.drop_drop,a,show b+(c - b)=c by omega]
 grind[seg]
def JG:dH:=JA 149 1 Int Ba JE (λ_=>rfl) ac8 ac9 (λa=>(wz a.1/\a.1.2.1.Pairwise (·<·))/\a.2=a.1.2.1.length/\a.1.2.1.length<=20) λa=>dZ (fH a.1.2.2) a.1.2.1
def adf (n:Nat) (l:List Int) (p:bn):Nat->cG
 |2=> .inv (Int×Int×List Int) (λx=>⟨[(0,.ow 0 n 1),(1,.si .i64 l.length),(2,.fn (.func 112) [] [.ptr 1 0 20]),(6,.si .i64 20),(7,.si .i64 x.1),(8,.si .i64 x.2.1)],[.row (.i .i64) x.2.2 3 true,.cells p.ss 27 20 false]⟩) (λs=>(iS s 7,iS s 8,oS (.i .i64) s 0))
   (λx=>x.2.1=x.1+20/\(x.1=0/\x.2.2=l\/x.1=20/\l.length=20/\x.2.2=gZ (fH p) l 0 20)) (λx=>(1000 - x.1).toNat) λ_ _=> .look
 |7=> .inv (Int×List Int) (λx=>⟨[(0,.ow 0 n 1),(1,.si .i64 l.length),(2,.fn (.func 112) [] [.ptr 1 0 20]),(6,.si .i64 x.1)],[.row (.i .i64) x.2 3 true,.cells p.ss 27 20 false]⟩) (λs=>(iS s 6,oS (.i .i64) s 0))
   (λx=>x.1=20/\x.2=dZ (fH p) l) (λx=>(1000 - x.1).toNat) λ_ _=> .look
 |_=> .look
theorem h333:ef Tryz.prog JG:=by
 refine lz (L:=[]) (W:=[JD]) JG (λa=>adf a.1.1 a.1.2.1 a.1.2.2) (by simpa using h343) (by simp) ?_;rintro⟨⟨n,l,p⟩,N⟩ ⟨⟨⟨⟨hc,hn⟩,hl,ho⟩,hi⟩,hN,h20⟩;simp only at hc hn hl ho hi hN h20;subst hN;refine bQ (let a:=γd .i64;let b:=(20:Int);let c:=bq.row;let d:=(0:Int);let e:=γB .i64;let g:=γZ 0 n 1;let h:=(↑l.length:Int);let j:=a h;let k:=SV.fn (Fn.func 112) [] [γQ 1 0 20];let m:=a 20;let v:=e 0;let o:=bp.i .i64;let w:=c o l 3 true;let f:=bq.cells [a p.supply.a0,a p.supply.a1,a p.supply.a2,a p.supply.a3,a p.supply.a4,a p.supply.a5,a p.opn.a0,a p.opn.a1,a p.opn.a2,a p.opn.a3,a p.opn.a4,a p.opn.a5,a p.cls.a0,a p.cls.a1,a p.cls.a2,a p.cls.a3,a p.cls.a4,a p.cls.a5,Ω o p.classes,Ω bp.off p.offers] 27 20 false;let s:=gZ (fH p) l 0 20;let t:=dZ (fH p) l;(((g.same g/\j.same j/\k.same k/\(e 20).same m/\v.same (a 0)/\(e 20).same m/\True)/\w.same w/\f.same f/\True)/\b=b/\(d=d/\l=l\/d=b/\l.length=20/\l=s))/\∀(x:Int×Int×List Int),let y:=decide (x.snd.fst<=h);let q:=x.fst.toNat;let r:=x.snd.fst+b;let z:=a x.snd.fst;let A:=a r;let u:=gZ (fH p) x.snd.snd q x.snd.fst.toNat;let B:=c o u 3 true;let C:=gZ (fH p) x.snd.snd q h.toNat;let D:=c o C 3 true;x.snd.fst=x.fst+b/\(x.fst=d/\x.snd.snd=l\/x.fst=b/\l.length=20/\x.snd.snd=s)->(y=true->(wz (n,x.snd.snd,p)/\JC x.snd.snd x.fst x.snd.fst/\ζC (λx1 x2 ↦x1<x2) (seg x.snd.snd q x.snd.fst.toNat))/\cu .i64 r/\((g.same g/\j.same j/\k.same k/\m.same m/\z.same z/\A.same A/\True)/\B.same B/\f.same f/\True)/\(r=r/\(x.snd.fst=d/\u=l\/x.snd.fst=b/\l.length=20/\u=s))/\((1000:Int) - x.snd.fst).toNat<((1000:Int) - x.fst).toNat)/\(y=false->(wz (n,x.snd.snd,p)/\JC x.snd.snd x.fst h/\ζC (λx1 x2 ↦x1<x2) (seg x.snd.snd q h.toNat))/\(((g.same g/\j.same j/\k.same k/\m.same m/\True)/\D.same D/\f.same f/\True)/\b=b/\C=t)/\∀(x:Int×List Int),let E:=c o x.snd 3 true;x.fst=b/\x.snd=t->(decide (x.fst<h)=true->cu .i64 ((2:Int)*x.fst)/\Look (cy.mk [(0,g),(1,j),(2,k),(6,a x.fst),(7,v),(8,a ((2:Int)*x.fst))] [E,f]))/\(decide (x.fst<h)=false->(SV.bI []).same (SV.bI [])/\E.same (c o t 3 true)/\f.same f/\True))) (by kernel_rfl) ?_;simp only[vcs];have pw:∀a b,(seg l a b).Pairwise (·<·):=λa b=>List.Pairwise.sublist ((List.take_sublist _ _).trans (List.drop_sublist _ _)) hi;have e0:((l.length:Int)).toNat=l.length:=by omega
 rw[e0];refine⟨.inl trivial,?_⟩;rintro⟨a,b,w⟩ ⟨hb,hw⟩;simp only at hb hw ⊢;subst hb;refine⟨λh=>?_,λh=>?_⟩
 ·rcases hw with⟨rfl,rfl⟩|⟨rfl,h2,rfl⟩;·refine⟨⟨⟨⟨hc,hn⟩,hl,ho⟩,⟨?_,?_,?_⟩,pw _ _⟩,?_,.inr ⟨?_,?_,rfl⟩,?_⟩<;>omega
  ·omega
 ·refine⟨?_,?_,?_⟩
  ·rcases hw with⟨rfl,rfl⟩|⟨rfl,h2,rfl⟩;·refine⟨⟨⟨hc,hn⟩,hl,ho⟩,⟨?_,?_,?_⟩,pw _ _⟩<;>omega
   ·have hw:=@SK (fH p) l 0 20 (by omega) (by omega);exact⟨⟨⟨hc,by simp only[hw];exact hn⟩,by simp only[hw];exact hl,λx hx=>ho x (ac7 hx)⟩,⟨by omega,by omega,by rw[hw];omega⟩,by rw[ade (by omega) (by omega)];exact pw _ _⟩
  ·rcases hw with⟨rfl,rfl⟩|⟨rfl,h2,rfl⟩;·exact SU rfl
   ·rw[h2];show gZ _ _ 20 20=_;rw[SN];exact SU h2.symm
  ·rintro⟨s,w⟩ hw;simp only at hw ⊢;exact⟨λh=>by omega,λh=>SS hw.2⟩
def JH:dH:=JA 111 0 Unit Es JF (λ_=>rfl) ada adb (λa=>(wz a.1/\a.1.2.1.Pairwise (·<·))/\a.1.2.1.length<=20) λa=>dZ (fH a.1.2.2) a.1.2.1
theorem h319:ef Tryz.prog JH:=by
 refine lz (L:=[]) (W:=[JG]) JH lk (by simpa using h333) (by simp) ?_;rintro⟨⟨n,l,p⟩,u⟩ ⟨⟨⟨⟨hc,hn⟩,hl,ho⟩,hi⟩,h20⟩;simp only at hc hn hl ho hi h20;refine bQ (let a:=bq.row (bp.i .i64) (dZ (fH p) l) 3 true;let b:=bq.cells (bn.ss p) 27 20 false;((wz (n,l,p)/\ζC (λx1 x2 ↦x1<x2) l)/\(↑n:Int)=(↑l.length:Int)/\l.length<=20)/\(SV.bI []).same (SV.bI [])/\a.same a/\b.same b/\True) (by kernel_rfl) ?_;simp only[vcs];exact⟨⟨⟨⟨hc,hn⟩,hl,ho⟩,hi⟩,by omega,h20⟩
def df (n:Nat):List Int:=(ω n).map λi:Nat=>(i:Int)
theorem iz {n:Nat}:(df n).length=n:=by simp[df]
theorem qQ {n:Nat}:df (n+1)=df n++[(n:Int)]:=by simp[df,εe]
theorem oD {n:Nat}:(df n).Pairwise (·<·):=by
 unfold df;rw[List.pairwise_map];exact List.pairwise_lt_range.imp λh=>by omega
theorem iV {n:Nat} {x:Int}:x∈df n↔0<=x/\x<n:=by
 unfold df;rw[Θ];constructor;·grind
 ·rintro⟨b,a⟩;exact⟨x.toNat,List.mem_range.2 (by omega),by omega⟩
def mP (n i:Nat):List Int:=df i++δ (n - i) 0
theorem SX {n i:Nat} (h:i<=n):(mP n i).length=n:=by grind[mP,iz]
theorem adg {n:Nat}:mP n 0=δ n 0:=by simp[mP,df]
theorem adh {n:Nat}:mP n n=df n:=by simp[mP]
theorem adi {n i:Nat} (h:i<n):(mP n i).set i (i:Int)=mP n (i+1):=by
 unfold mP;rw[List.set_append_right _ _ (by grind[iz]),iz,Nat.sub_self,show n - i=(n - (i+1))+1 by omega,List.replicate_succ,List.set_cons_zero,qQ,γY];rfl
def wA (p:bn):List Int:=dZ (fH p) (df p.offers.length)
def JI:bM:=⟨76,bn,.one dO,λp=>p.offers.length<=20,λp=> .row (.i .i64) (if bz p=0 then wA p else[])⟩
def adj (p:bn):Nat->cG
 |5=> .inv Int (λi=>⟨[(1,.ptr 0 0 20),(3,.ow 1 (mP p.offers.length i.toNat).length 1),(13,.si .i64 p.offers.length),(14,.si .i64 i)],[.cells p.ss 27 20 false,.row (.i .i64) (mP p.offers.length i.toNat) 3 true]⟩)
   (λs=>iS s 14) (λi=>0<=i/\i<=p.offers.length) (λi=>(p.offers.length - i).toNat) λ_ _=> .look
 |_=> .look
theorem h308:Holds Tryz.prog JI:=by
 refine con (L:=[pe]) (W:=gP [JH]) JI adj (kY (by simpa using h319)) (by simpa using h79) ?_;intro(p:bn) (hp:p.offers.length<=20);refine bQ (let a:=γd .i64;let b:=(0:Int);let c:=bq.row;let d:=Ω;let e:=γZ;let r:=decide (bz p≠b);let g:=bp.i .i64;let s:=d g (if bz p=b then wA p else[]);let h:=(↑p.offers.length:Int);let n:=γQ 0 0 20;let l:=p.offers.length;let j:=(↑l:Int);let q:=a j;let o:=bq.cells [a p.supply.a0,a p.supply.a1,a p.supply.a2,a p.supply.a3,a p.supply.a4,a p.supply.a5,a p.opn.a0,a p.opn.a1,a p.opn.a2,a p.opn.a3,a p.opn.a4,a p.opn.a5,a p.cls.a0,a p.cls.a1,a p.cls.a2,a p.cls.a3,a p.cls.a4,a p.cls.a5,d g p.classes,d bp.off p.offers] 27 20 false;True/\(r=true->(d g []).same s)/\(r=false->b<=h/\h<=h/\h*(8:Int)<=(140737488355328:Int)/\h<=(1000000000000:Int)/\(((n.same n/\(e 1 h.toNat 1).same (e 1 (mP l 0).length 1)/\(a (↑h.toNat:Int)).same q/\(γB .i64 0).same (a 0)/\True)/\o.same o/\(c g (δ h.toNat b) 3 true).same (c g (mP l 0) 3 true)/\True)/\b<=b/\b<=j)/\∀(x:Int),let f:=mP l x.toNat;let m:=f.length;let k:=x+(1:Int);let t:=a k;b<=x/\x<=j->(decide (x<j)=true->m=f.length/\b<=x/\x<(↑f.length:Int)/\m=f.length/\x.toNat<f.length/\cu .i64 k/\((n.same n/\(e 1 m 1).same (e 1 (mP l k.toNat).length 1)/\q.same q/\t.same t/\True)/\o.same o/\(c g (f.set x.toNat x) 3 true).same (c g (mP l k.toNat) 3 true)/\True)/\(b<=k/\k<=j)/\(j - k).toNat<(j - x).toNat)/\(decide (x<j)=false->((wz (m,f,p)/\ζC (λx1 x2 ↦x1<x2) f)/\m<=20)/\m=(dZ (fH p) f).length/\(d g (dZ (fH p) f)).same s))) (by kernel_rfl) ?_;simp only[vcs];refine⟨λh=>by rw[if_neg h],λh=>?_⟩;have hc:bz p=0:=Classical.not_not.1 h;rw[if_pos hc];have e0:((p.offers.length:Int)).toNat=p.offers.length:=by omega
 have how:∀{x y:Nat},x=y->(γZ 1 x 1).same (γZ 1 y 1):=by rintro _ _ rfl;rfl
 rw[e0,adg];refine⟨by omega,by omega,by omega,by omega,⟨⟨⟨how (by simp),rfl⟩,rfl⟩,by omega,by omega⟩,?_⟩;rintro i ⟨i0,i1⟩;have hL:=@SX p.offers.length i.toNat (by omega);refine⟨λhi=>?_,λhi=>?_⟩
 ·have hs:=@adi p.offers.length i.toNat (by omega);rw[show((i.toNat:Nat):Int)=i by omega] at hs;have hL2:=@SX p.offers.length (i.toNat+1) (by omega);rw[show(i+1).toNat=i.toNat+1 by omega,hs];exact⟨i0,by omega,by omega,by omega,⟨how (by omega),rfl⟩,by omega,by omega⟩
 ·rw[show i.toNat=p.offers.length by omega,adh];refine⟨⟨⟨⟨⟨hc,rfl⟩,by simp only[iz];omega,λx hx=>by have:=iV.1 hx;exact this⟩,oD⟩,by simp only[iz];omega⟩,by rw[s7],rfl⟩
end Go.Vi
namespace Go.Proofs
open Go.Shelf
def Tryz.layS_ren:Ren:=
 ⟨λ
  |189=>57
  |125=>69
  |257=>82
  |128=>98
  |129=>99
  |294=>117
  |295=>118
  |296=>119
  |297=>120
  |298=>121
  |299=>122
  |216=>123
  |300=>124
  |301=>125
  |328=>151
  |329=>127
  |330=>128
  |331=>152
  |332=>153
  |215=>154
  |343=>174
  |n=>n,
 λ
  |28=>24
  |3=>3
  |46=>55
  |0=>0
  |51=>172
  |53=>53
  |4=>4
  |183=>165
  |182=>164
  |131=>169
  |5=>5
  |9=>9
  |218=>209
  |222=>213
  |228=>246
  |229=>109
  |n=>n,
 λn=>n⟩
def Tryz.layC_ren:Ren:=
 ⟨λ
  |41=>52
  |n=>n,
 λ
  |22=>24
  |23=>3
  |4=>4
  |n=>n,
 λn=>n⟩
def Tryz.layD_ren:Ren:=
 ⟨λ
  |45=>147
  |n=>n,
 λ
  |22=>24
  |23=>3
  |3=>3
  |4=>4
  |0=>0
  |n=>n,
 λn=>n⟩
def Tryz.layR_ren:Ren:=
 ⟨λ
  |6=>50
  |15=>69
  |14=>68
  |28=>98
  |29=>99
  |20=>90
  |21=>91
  |22=>92
  |23=>93
  |24=>94
  |25=>95
  |26=>96
  |27=>97
  |46=>126
  |47=>127
  |48=>128
  |49=>129
  |50=>130
  |57=>155
  |n=>n,
 λ
  |22=>30
  |24=>24
  |25=>34
  |3=>3
  |39=>55
  |0=>0
  |53=>172
  |55=>53
  |4=>4
  |46=>165
  |45=>164
  |50=>169
  |5=>5
  |9=>9
  |66=>209
  |70=>213
  |76=>246
  |77=>109
  |n=>n,
 λn=>n⟩
theorem Tryz.layS:Lays.n189 Tryz.prog Tryz.layS_ren:={mixed:=by kernel_rfl,f125:=Tryz.func69.trans (by kernel_rfl),f128:=Tryz.func98.trans (by kernel_rfl),f129:=Tryz.func99.trans (by kernel_rfl),f189:=Tryz.func57.trans (by kernel_rfl),f215:=Tryz.func154.trans (by kernel_rfl),f216:=Tryz.func123.trans (by kernel_rfl),f257:=Tryz.func82.trans (by kernel_rfl),f294:=Tryz.func117.trans (by kernel_rfl),f295:=Tryz.func118.trans (by kernel_rfl),f296:=Tryz.func119.trans (by kernel_rfl),f297:=Tryz.func120.trans (by kernel_rfl),f298:=Tryz.func121.trans (by kernel_rfl),f299:=Tryz.func122.trans (by kernel_rfl),f300:=Tryz.func124.trans (by kernel_rfl),f301:=Tryz.func125.trans (by kernel_rfl),f328:=Tryz.func151.trans (by kernel_rfl),f329:=Tryz.func127.trans (by kernel_rfl),f330:=Tryz.func128.trans (by kernel_rfl),f331:=Tryz.func152.trans (by kernel_rfl),f332:=Tryz.func153.trans (by kernel_rfl),f343:=Tryz.func174.trans (by kernel_rfl),t0:=Tryz.underlying0,a0:=Tryz.isAgg0,z0:=Tryz.sizeOf0,v0:=Tryz.zeroValue0,t3:=Tryz.underlying3,a3:=Tryz.isAgg3,z3:=Tryz.sizeOf3,v3:=Tryz.zeroValue3,t4:=Tryz.underlying4,a4:=Tryz.isAgg4,z4:=Tryz.sizeOf4,v4:=Tryz.zeroValue4,t5:=Tryz.underlying5,a5:=Tryz.isAgg5,z5:=Tryz.sizeOf5,v5:=Tryz.zeroValue5,t9:=Tryz.underlying9,a9:=Tryz.isAgg9,z9:=Tryz.sizeOf9,v9:=Tryz.zeroValue9,t28:=Tryz.underlying24,a28:=Tryz.isAgg24,z28:=Tryz.sizeOf24,v28:=Tryz.zeroValue24,t46:=Tryz.underlying55,a46:=Tryz.isAgg55,z46:=Tryz.sizeOf55,v46:=Tryz.zeroValue55,t51:=Tryz.underlying172,a51:=Tryz.isAgg172,z51:=Tryz.sizeOf172,v51:=Tryz.zeroValue172,t53:=Tryz.underlying53,a53:=Tryz.isAgg53,z53:=Tryz.sizeOf53,v53:=Tryz.zeroValue53,t131:=Tryz.underlying169,a131:=Tryz.isAgg169,z131:=Tryz.sizeOf169,v131:=Tryz.zeroValue169,t182:=Tryz.underlying164,a182:=Tryz.isAgg164,z182:=Tryz.sizeOf164,v182:=Tryz.zeroValue164,t183:=Tryz.underlying165,a183:=Tryz.isAgg165,z183:=Tryz.sizeOf165,v183:=Tryz.zeroValue165,t218:=Tryz.underlying209,a218:=Tryz.isAgg209,z218:=Tryz.sizeOf209,v218:=Tryz.zeroValue209,t222:=Tryz.underlying213,a222:=Tryz.isAgg213,z222:=Tryz.sizeOf213,v222:=Tryz.zeroValue213,t228:=Tryz.underlying246,a228:=Tryz.isAgg246,z228:=Tryz.sizeOf246,v228:=Tryz.zeroValue246,t229:=Tryz.underlying109,a229:=Tryz.isAgg109,z229:=Tryz.sizeOf109,v229:=Tryz.zeroValue109}
theorem Tryz.layC:SlLaysE0.n41 Tryz.prog Tryz.layC_ren:={mixed:=by kernel_rfl,f41:=⟨Tryz.f52.name,by decide,Tryz.func52.trans (by kernel_rfl)⟩,t4:=Tryz.underlying4,a4:=Tryz.isAgg4,z4:=Tryz.sizeOf4,v4:=Tryz.zeroValue4,t22:=Tryz.underlying24,a22:=Tryz.isAgg24,z22:=Tryz.sizeOf24,v22:=Tryz.zeroValue24}
theorem Tryz.layD:SlLaysE.n45 Tryz.prog Tryz.layD_ren:={mixed:=by kernel_rfl,f45:=⟨Tryz.f147.name,by decide,Tryz.func147.trans (by kernel_rfl)⟩,t0:=Tryz.underlying0,a0:=Tryz.isAgg0,z0:=Tryz.sizeOf0,v0:=Tryz.zeroValue0,t3:=Tryz.underlying3,a3:=Tryz.isAgg3,z3:=Tryz.sizeOf3,v3:=Tryz.zeroValue3,t4:=Tryz.underlying4,a4:=Tryz.isAgg4,z4:=Tryz.sizeOf4,v4:=Tryz.zeroValue4,t22:=Tryz.underlying24,a22:=Tryz.isAgg24,z22:=Tryz.sizeOf24,v22:=Tryz.zeroValue24,a23:=Tryz.isAgg3,z23:=Tryz.sizeOf3}
theorem Tryz.layR:SlLaysF.n6 Tryz.prog Tryz.layR_ren:={mixed:=by kernel_rfl,f6:=⟨Tryz.f50.name,by decide,Tryz.func50.trans (by kernel_rfl)⟩,f14:=⟨Tryz.f68.name,by decide,Tryz.func68.trans (by kernel_rfl)⟩,f15:=Tryz.func69.trans (by kernel_rfl),f20:=⟨Tryz.f90.name,by decide,Tryz.func90.trans (by kernel_rfl)⟩,f21:=⟨Tryz.f91.name,by decide,Tryz.func91.trans (by kernel_rfl)⟩,f22:=⟨Tryz.f92.name,by decide,Tryz.func92.trans (by kernel_rfl)⟩,f23:=⟨Tryz.f93.name,by decide,Tryz.func93.trans (by kernel_rfl)⟩,f24:=⟨Tryz.f94.name,by decide,Tryz.func94.trans (by kernel_rfl)⟩,f25:=⟨Tryz.f95.name,by decide,Tryz.func95.trans (by kernel_rfl)⟩,f26:=⟨Tryz.f96.name,by decide,Tryz.func96.trans (by kernel_rfl)⟩,f27:=⟨Tryz.f97.name,by decide,Tryz.func97.trans (by kernel_rfl)⟩,f28:=Tryz.func98.trans (by kernel_rfl),f29:=Tryz.func99.trans (by kernel_rfl),f46:=⟨Tryz.f126.name,by decide,Tryz.func126.trans (by kernel_rfl)⟩,f47:=Tryz.func127.trans (by kernel_rfl),f48:=Tryz.func128.trans (by kernel_rfl),f49:=⟨Tryz.f129.name,by decide,Tryz.func129.trans (by kernel_rfl)⟩,f50:=⟨Tryz.f130.name,by decide,Tryz.func130.trans (by kernel_rfl)⟩,f57:=⟨Tryz.f155.name,by decide,Tryz.func155.trans (by kernel_rfl)⟩,t0:=Tryz.underlying0,a0:=Tryz.isAgg0,z0:=Tryz.sizeOf0,v0:=Tryz.zeroValue0,t3:=Tryz.underlying3,a3:=Tryz.isAgg3,z3:=Tryz.sizeOf3,v3:=Tryz.zeroValue3,t4:=Tryz.underlying4,a4:=Tryz.isAgg4,z4:=Tryz.sizeOf4,v4:=Tryz.zeroValue4,t5:=Tryz.underlying5,a5:=Tryz.isAgg5,z5:=Tryz.sizeOf5,v5:=Tryz.zeroValue5,t9:=Tryz.underlying9,a9:=Tryz.isAgg9,z9:=Tryz.sizeOf9,v9:=Tryz.zeroValue9,t22:=Tryz.underlying30,a22:=Tryz.isAgg30,z22:=Tryz.sizeOf30,v22:=Tryz.zeroValue30,a24:=Tryz.isAgg24,z24:=Tryz.sizeOf24,t25:=Tryz.underlying34,a25:=Tryz.isAgg34,z25:=Tryz.sizeOf34,v25:=Tryz.zeroValue34,t39:=Tryz.underlying55,a39:=Tryz.isAgg55,z39:=Tryz.sizeOf55,v39:=Tryz.zeroValue55,t45:=Tryz.underlying164,a45:=Tryz.isAgg164,z45:=Tryz.sizeOf164,v45:=Tryz.zeroValue164,t46:=Tryz.underlying165,a46:=Tryz.isAgg165,z46:=Tryz.sizeOf165,v46:=Tryz.zeroValue165,t50:=Tryz.underlying169,a50:=Tryz.isAgg169,z50:=Tryz.sizeOf169,v50:=Tryz.zeroValue169,t53:=Tryz.underlying172,a53:=Tryz.isAgg172,z53:=Tryz.sizeOf172,v53:=Tryz.zeroValue172,t55:=Tryz.underlying53,a55:=Tryz.isAgg53,z55:=Tryz.sizeOf53,v55:=Tryz.zeroValue53,t66:=Tryz.underlying209,a66:=Tryz.isAgg209,z66:=Tryz.sizeOf209,v66:=Tryz.zeroValue209,t70:=Tryz.underlying213,a70:=Tryz.isAgg213,z70:=Tryz.sizeOf213,v70:=Tryz.zeroValue213,t76:=Tryz.underlying246,a76:=Tryz.isAgg246,z76:=Tryz.sizeOf246,v76:=Tryz.zeroValue246,t77:=Tryz.underlying109,a77:=Tryz.isAgg109,z77:=Tryz.sizeOf109,v77:=Tryz.zeroValue109}
end Go.Proofs
namespace Go.Proofs
open Go.Shelf Go.RowKit Go.Lib
theorem SY {P:Program} {ρ:Ren} (L:SlLaysE0.n41 P ρ) (i0:TypeInfo) (z:Value) (b g:Nat) (I:P.info? (ρ.t 23)=some i0) (x:i0.zero=some z) (y:i0.size=b) (q:i0.bytes=g) (m:z.cells.size=b) (o:0<b)
  (Q:∀w,(Go.sizeOf (ρ.t 23)).run P w= .ok b w) (p:Addr) (n c:Nat) (d:List Value) (w:World) (K:d.length=n*b) (U:n<=maxLen) (B:n*g<=140737488355328)
  (C:∀j u,d[j]?=some u->w.cell? (p.add j)=some u) (E:∀u∈d,u.oneCell'=true):
  Calls P (ρ.f 41) #[.slice (some p) n c] w λe w'=>∃l,e= .returned l/\w'.ownsRow w.heap.size (ρ.t 23) b l n d/\l≠ .slice none 0 0/\Below w.heap.size w w':=by
 have v:=L.mixed;have W:=L.t4;have V:=L.a4;have T:=L.z4;have S:=L.v4;have i:=L.t22;have N:=L.a22;have O:=L.z22;have H:=L.v22;have G:∀(w:World) (a:Option Addr) (n c r s:Nat),(binOp .eql (ρ.t 22) (.slice a n c) (.slice none r s)).run P w= .ok (.bool a.isNone) w:=λw a n c r s=>Lib.run_eql_slice_nil w _ _ a n c r s L.t22;have F:∀w,Sem.run P (underlying (ρ.t 22)) w= .ok (TypeDesc.slice (ρ.t 23)) w:=run_underlying i;have A:Aside (∀j u,d[j]?=some u->w.cell? (p.add j)=some u):=C;clear C;obtain⟨_,_,M⟩:=L.f41;go_enter M,SlBodyN.n41_ntmps ρ;go_wp2_with (at_builtin;refine wpList_append_own _ rfl _ _ (ρ.t 22) rfl w.heap.size (ρ.t 23) i0 z b g i I x y q m o _ _ _ rfl (World.ownsRow_made w #[] 0 (π _) (δ4 _) (by simp)) p n c d rfl ?qc1 ?qc2 ?qc3 ?qc4 ?qc5 ?qc6 ?_);case qc1=>exact K
 case qc2=>
  intro j u J;exact Lib.cell?_alloc_some _ (A.out j u J)
 case qc3=>exact E
 case qc4=>omega
 case qc5=>simp_all
 case qc6=>simp
 intro l R D h k;go_wp2;go_ret;refine⟨l,rfl,by omega,?_,?_⟩;·exact k
 ·exact((Below.refl _ w).alloc (π _) _).grown h (by simp) (by grind[Value.ownBlock])
end Go.Proofs
namespace Go.Vi
open Go.Proofs.YtbnhiekmnpikhaaGreat.Ir
open Go.Proofs
theorem mQ (l:List Int):cF (.i .i64) l=l.map λx=>δe (.int .i64 x):=by
 unfold cF;induction l with
 |nil=>rfl;|cons x l a=>rw[List.flatMap_cons,a];rfl
theorem SZ {A:dM} {w:World} {σ:bY} {l:List Int} {e:TypeId} (d:bT A w σ [.cells (l.map λx=>δe (.int .i64 x)) e 1 true]) (s:1<=l.length):
  ∃b cap arr,σ=[some (b,cap)]/\cap<=maxLen/\w.heap[b]?=some (.cells arr e (0,0))/\arr.size=cap/\l.length<=cap/\arr.toList.take l.length=l.map (Value.int .i64):=by
 have f:=d.obj 0 _ rfl;simp only[dE] at f;obtain⟨_,_,h|⟨b,cap,arr,a,n,g,r,p,i⟩⟩:=f;·simp_all
 ·have c:=d.len;simp at c;have m:l.length<=arr.size:=by simp_all
  refine⟨b,cap,arr,?_,n,g,by omega,by omega,?_⟩;·match σ,c,a with
   |[x],_,a=>simp_all
  ·apply List.ext_getElem?;intro j;by_cases k:j<l.length
   ·obtain⟨v,o,q⟩:=i j (.sc (.int .i64 l[j])) (by simp[k]);grind[bw]
   simp_all
def ec (l:List Int):List Int:=l.mergeSort λx y=>decide (x<=y)
theorem rL {l:List Int}:(ec l).length=l.length:=(δu _ _).length_eq
def Bc:dH where
 f:=57;α:=Nat×List Int;put a:=[.ow 0 a.1 1];st a:=[.row (.i .i64) a.2 3 true];dec v o:=match v,o with
  |[.ow 0 n 1],[.row t l 3 true]=>match iH t (.i .i64) l with
   |some l=>some (n,l)
   |_=>none
  |_,_=>none;ok v o a h:=by
  split at h
  ·split at h
   ·rename_i h4;simp only[γ] at h;subst h;obtain⟨rfl,hh⟩:=mH h4;cases hh;exact⟨rfl,rfl⟩
   ·cases h
  ·cases h
 inj a b e1 e2:=by
  obtain⟨n,l⟩:=a;obtain⟨n',l'⟩:=b;simp only[gL,Γ,γF,εy,true_and] at e1;simp only[gO,ξ,γv,bq.g,Γ,bR.cells.injEq,and_true,true_and] at e2;have h4:l=l':=by
   have hf:=congrArg γc e2;rw[fe,fe] at hf;exact ly (.i .i64) (by simpa[bp.sz] using hf) e2
  rw[e1.1.1,h4]
 dom a:=a.1=a.2.length/\1<=a.2.length/\a.2.length<=1000000;res _:=.bI [];out a:=[.row (.i .i64) (ec a.2) 3 true]
theorem h337:ef Tryz.prog Bc:=by
 rintro⟨n,l⟩ ⟨E,H,V⟩;simp only at E H V;subst E;refine⟨by kernel_rfl,?_⟩;intro A w F Q q s;have C:∀m:List Int,gO [bq.row (.i .i64) m 3 true]=[bR.cells (m.map λx=>δe (.int .i64 x)) 3 1 true]:=λm=>by
  simp only[gO,ξ,γv,bq.g,mQ];rfl
 have T:gL (Bc.put (l.length,l))=[.os 0 0 l.length (l.length*1)]:=rfl;show Calls _ _ _ _ λe h=>∃u p,e= .returned u/\bT A h p (gO [bq.row (.i .i64) (ec l) 3 true])/\bw A h p (gO [bq.row (.i .i64) (ec l) 3 true]) (.bI []) u/\Ext w F (gO [bq.row (.i .i64) l 3 true]) h p (gO [bq.row (.i .i64) (ec l) 3 true]);replace q:bT A w F (gO [bq.row (.i .i64) l 3 true]):=q;replace s:bG A w F (gO [bq.row (.i .i64) l 3 true]) (gL (Bc.put (l.length,l))) Q:=s;rw[C] at q s;rw[C,C];rw[T] at s;obtain⟨b,Y,d,rfl,U,L,q4,q5,N⟩:=SZ q H;simp only[bG] at s;obtain⟨v,r,rfl,I,rfl⟩:=s;simp only[bw] at I;obtain⟨O,a,y,rfl,a0,B⟩:=I;have K:=B 1 ⟨_,_,_,rfl,by simp⟩;simp only[kE,δn] at K;obtain⟨rfl,rfl⟩:=K.2.1 trivial trivial (by omega);have P:b<w.heap.size:=q.bnd 0 b y rfl;have R:=holds_of_blockI (ss:=l) L N;have S:Calls Tryz.prog (Bc).f #[.slice (some ⟨b,0,none⟩) l.length y] w λe h=>e= .returned (.tuple #[])/\∃n z,h=Sort.grow (Sort.putRow (Value.int .i64) (Sort.ahead w n) b 0 (ec l).toArray) z:=
  calls_of_every_depth λD=>AnyS.slices_Sort_int_in Tryz.layS D b 0 y l w R P (by omega);refine Calls.mono S ?_;rintro e h ⟨rfl,n,z,rfl⟩;have t:=grownBy_sortedI (w:=w) (g:=b) (n:=n) (os:=z) (ec l).toArray;have W:=heap_sortedI (w:=w) (n:=n) (os:=z) (ec l).toArray L;have X:=take_putCellsI d (ec l) (by rw[rL];omega);have hz:(Sort.putCells (Value.int .i64) 0 (ec l).toArray d).size=d.size:=by simp[Sort.putCells]
 generalize Sort.grow (Sort.putRow (Value.int .i64) (Sort.ahead w n) b 0 (ec l).toArray) z=h at*;generalize Sort.putCells (Value.int .i64) 0 (ec l).toArray d=o at*;have hU:=q.upd (w':=h) (id:=0) (x':=.cells ((ec l).map λx=>δe (.int .i64 x)) 3 1 true) (s':=some (b,y)) rfl t.size t.os t.tape t.output
  (λk M E=>t.block k M λe=>by simp_all) (λb' c' e=>by simp_all)
  ⟨_,_,_,rfl,by simp[rL],λ_=>rfl⟩ ?_;·grind[bw,bG]
 ·intro hx;simp only[dE];refine⟨λ_=>by rw[<-mQ];grind[o6],by rw[<-mQ];grind[CU],.inr ⟨b,y,o,rfl,U,W,by omega,by grind[rL],?_⟩⟩;intro j c J;rw[γG] at J;obtain⟨x,G,rfl⟩:=ε.1 J;have Z:=(ζ.1 G).1;refine⟨.int .i64 x,?_,by simp[bw,Value.oneCell']⟩;have h9:(o.toList.take (ec l).length)[j]?=((ec l).map (Value.int .i64))[j]?:=by rw[X]
  grind
theorem S0 {A:dM} {w:World} {l:List Int} {vs:List Value} {m:FuncId} (n:m=Tryz.layC_ren.f 41) (N:bT A w [] []) (K:l.length<=1000000) (B:bG A w [] [] [.sl l.length (l.map λx=>δe (.int .i64 x))] vs):
  Calls Tryz.prog m vs.toArray w λe w'=>RowKit.Below w.heap.size w w'/\((e= .returned (.slice none 0 0)/\l=[])\/∃g cap c,e= .returned (.slice (some ⟨g,0,none⟩) l.length cap)/\w.heap.size<=g/\w'.heap[g]?=some (.cells c 3 (0,0))/\l.length<=cap/\cap<=maxLen/\c.size=cap/\c.toList.take l.length=l.map (Value.int .i64)):=by
 subst n;simp only[bG] at B;obtain⟨v,r,rfl,t,rfl⟩:=B;simp only[bw] at t;obtain⟨a,cap,rfl,q,_,C⟩:=t;cases a with
 |none=>
  have z:l=[]:=by
   cases l<;>grind[dr]
  grind[Calls.mono,AnyE.slices_Clone_nil,Tryz.layC,RowKit.Below.refl];|some p=>
  have H:∀j u,(l.map (Value.int .i64))[j]?=some u->w.cell? (p.add j)=some u:=by
   intro j u s;rw[γG] at s;obtain⟨x,F,rfl⟩:=ε.1 s;obtain⟨b,v,e,_,o,y⟩:=dr.get _ _ _ C j (.sc (.int .i64 x)) (by simp[F]);grind[bw]
  refine Calls.mono (SY Tryz.layC Tryz.t3 (.int .i64 0) 1 8 (by kernel_rfl) (by kernel_rfl) (by kernel_rfl) (by kernel_rfl) (by kernel_rfl) (by omega) Tryz.sizeOf3 p l.length cap (l.map (Value.int .i64)) w (by simp) (by grind[maxLen]) (by omega) H (by simp[Value.oneCell'])) ?_;rintro e w' ⟨L,rfl,k,E,i⟩;refine⟨i,.inr ?_⟩;obtain⟨_,h|⟨g,d,c,rfl,J,I,D,G,M,O⟩⟩:=k;·simp_all
  ·exact⟨g,d,c,rfl,J,I,D,G,by omega,by simp_all⟩
def Bd:bM:=⟨52,List Int,.one (dG (.i .i64)),λl=>l.length<=1000000,λl=> .row (.i .i64) l⟩
theorem h330:Holds Tryz.prog Bd:=by
 intro(l:List Int) (hl:l.length<=1000000);refine⟨by kernel_rfl,?_⟩;intro A w σ vs hS hR;have hσ:σ=[]:=by have:=hS.len;simpa using this
 subst hσ;have e1:gL (Bd.A.put l)=[.sl l.length (l.map λx=>δe (.int .i64 x))]:=by rw[<-mQ];rfl
 have e2:(Bd.res l).G= .sl l.length (l.map λx=>δe (.int .i64 x)):=by rw[<-mQ];rfl
 rw[e1] at hR;rw[e2];refine Calls.mono (S0 (by rfl) hS hl hR) ?_;rintro e w' ⟨hb,h⟩;have hS':bT A w' [] []:=⟨rfl,by simp,by simp,by simp,by simp,λb h=>γj (hS.jF b h) hb.size⟩;have hE:Ext w [] [] w' [] []:=⟨hb.size,λb h _=>⟨hb.block b h,λ⟨i,c,hi⟩=>by simp at hi⟩,π _,λ_ _ ⟨_,_,_,_,h,_⟩=>by simp at h,λ_ ⟨_,_,_,h⟩=>by simp at h,hb.os,hb.tape,hb.output⟩;rcases h with⟨rfl,rfl⟩|⟨g,cap,cur,rfl,h1,h2,h3,h4,h5,h6⟩;·exact⟨_,[],rfl,hS',by simp only[bw];exact⟨none,0,rfl,by simp,by rw[<-mQ];exact o6 _ _,by simp[dr]⟩,hE⟩
 ·refine⟨_,[],rfl,hS',?_,hE⟩;simp only[bw];refine⟨_,_,rfl,h3,by rw[<-mQ];exact o6 _ _,dr.kX _ _ _ λi c hi=>?_⟩;rw[γG] at hi;obtain⟨x,hx,rfl⟩:=ε.1 hi;have hil:=(ζ.1 hx).1;have h9:(cur.toList.take l.length)[i]?=(l.map (Value.int .i64))[i]?:=by rw[h6]
  rw[List.getElem?_take_of_lt hil,Array.getElem?_toList,γG,hx] at h9;refine⟨⟨g,0,none⟩,.int .i64 x,rfl,⟨λ⟨i,c,hi⟩=>by simp at hi,λhA=>by have:=hS.jF g hA;omega⟩,?_,by simp[bw,Value.oneCell']⟩;rw[Addr.add_lit];simp only[World.cell?,h2,Nat.zero_add,Option.isSome_none,Bool.false_eq_true,if_false];exact h9
def wB:dH where
 f:=52;α:=List Int;put a:=[.row (.i .i64) a];st a:=[];dec v o:=match v,o with
  |[.row t l],[]=>iH t (.i .i64) l
  |_,_=>none;ok v o a h:=by
  split at h
  ·obtain⟨rfl,hh⟩:=mH h;cases hh;exact⟨rfl,rfl⟩
  ·cases h
 inj a b e1 e2:=by
  simp only[gL,Γ,γF,δ5,and_true] at e1;exact ly (.i .i64) (by simpa using e1.1) e1.2
 dom a:=a.length<=1000000;res a:=.ow 0 a.length 1;out a:=[.row (.i .i64) a 3 true]
theorem h330o:ef Tryz.prog wB:=by
 intro(l:List Int) (E:l.length<=1000000);refine⟨by kernel_rfl,?_⟩;intro A w s G k p;replace k:bT A w s []:=k;replace p:bG A w s [] (gL (wB.put l)) G:=p;have q:s=[]:=by have:=k.len;simp_all
 subst q;have F:gL (wB.put l)=[.sl l.length (l.map λx=>δe (.int .i64 x))]:=by rw[<-mQ];rfl
 have B:(wB.res l).g= .os 0 0 l.length (l.length*1):=rfl;have D:gO (wB.out l)=[bR.cells (l.map λx=>δe (.int .i64 x)) 3 1 true]:=by rw[<-mQ];rfl
 rw[F] at p;rw[B,D];show Calls _ _ _ _ λe n=>∃u f,e= .returned u/\bT A n f [bR.cells (l.map λx=>δe (.int .i64 x)) 3 1 true]/\bw A n f [bR.cells (l.map λx=>δe (.int .i64 x)) 3 1 true] (.os 0 0 l.length (l.length*1)) u/\Ext w [] [] n f [bR.cells (l.map λx=>δe (.int .i64 x)) 3 1 true];refine Calls.mono (S0 (by rfl) k E p) ?_;rintro e n ⟨d,h⟩;have t:tN [bR.cells (l.map λx=>δe (.int .i64 x)) 3 1 true] 0 (l.length*1):=⟨_,_,_,_,rfl,by simp⟩;rcases h with⟨rfl,rfl⟩|⟨g,m,o,rfl,P,z,C,J,O,I⟩
 ·refine⟨_,[none],rfl,⟨rfl,?_,?_,?_,?_,λb h=>γj (k.jF b h) d.size⟩,?_,d.size,λb h _=>⟨d.block b h,?_⟩,δ4 _,λ_ _ ⟨_,_,_,_,h,_⟩=>by simp at h,λ_ ⟨_,_,_,h⟩=>by simp at h,d.os,d.tape,d.output⟩;·grind
  ·grind
  ·intro i x a;cases i with
   |zero=>
    simp at a;subst a;simp only[dE];exact⟨λ_=>rfl,rfl,.inl (by simp)⟩;|succ i=>simp at a
  ·grind
  ·grind[bw,kE]
  ·rintro⟨i,c,a⟩;grind
 ·have L:g<n.heap.size:=(Array.getElem?_eq_some_iff.1 z).1;refine⟨_,[some (g,m)],rfl,⟨rfl,?_,?_,?_,?_,λb h=>γj (k.jF b h) d.size⟩,?_,d.size,λb h _=>⟨d.block b h,?_⟩,δ4 _,λ_ _ ⟨_,_,_,_,h,_⟩=>by simp at h,λ_ ⟨_,_,_,h⟩=>by simp at h,d.os,d.tape,d.output⟩;·grind
  ·grind
  ·intro i x a;cases i with
   |zero=>
    simp at a;subst a;simp only[dE];refine⟨λ_=>by rw[<-mQ];grind[o6],by rw[<-mQ];grind[CU],.inr ⟨g,m,o,rfl,J,z,by omega,by simp;omega,?_⟩⟩;intro j c v;rw[γG] at v;obtain⟨x,r,rfl⟩:=ε.1 v;have H:=(ζ.1 r).1;refine⟨.int .i64 x,?_,by simp[bw,Value.oneCell']⟩;have N:(o.toList.take l.length)[j]?=(l.map (Value.int .i64))[j]?:=by rw[I]
    grind;|succ i=>simp at a
  ·intro i b c a;cases i with
   |zero=>
    simp at a;intro K;have:=k.jF b K;omega;|succ i=>simp at a
  ·simp only[bw];refine⟨t,_,_,rfl,C,λM y=>?_⟩;obtain⟨_,_,_,y,_⟩:=y;grind[kE,pI]
  ·rintro⟨i,c,a⟩;grind
def lG (l:List Int) (i j:Nat):List Int:=l.take i++l.drop j++δ (j - i) 0
theorem S1 {l:List Int} {i j:Nat} (a:i<=j) (b:j<=l.length):(lG l i j).length=l.length:=by
 grind[lG]
def wC:dH where
 f:=147;α:=(Nat×List Int)×Int×Int;put a:=[.ow 0 a.1.1 1,.si .i64 a.2.1,.si .i64 a.2.2];st a:=[.row (.i .i64) a.1.2 3 true];dec v o:=match v,o with
  |[.ow 0 n 1,x,y],[.row t l 3 true]=>match iH t (.i .i64) l,x.int .i64,y.int .i64 with
   |some l,some i,some j=>some ((n,l),i,j)
   |_,_,_=>none
  |_,_=>none;ok v o a h:=by
  split at h
  ·split at h
   ·rename_i h4 h5 h6;simp only[γ] at h;subst h;obtain⟨rfl,hh⟩:=mH h4;cases hh;refine⟨?_,rfl⟩;simp only[gL,iO h5,iO h6];rfl
   ·cases h
  ·cases h
 inj a b e1 e2:=by
  obtain⟨⟨n,l⟩,i,j⟩:=a;obtain⟨⟨n',l'⟩,i',j'⟩:=b;simp only[gL,Γ,γF,εy,true_and,and_true,δd,Value.int.injEq] at e1;simp only[gO,ξ,γv,bq.g,Γ,bR.cells.injEq,and_true,true_and] at e2;have h4:l=l':=by
   have hf:=congrArg γc e2;rw[fe,fe] at hf;exact ly (.i .i64) (by simpa[bp.sz] using hf) e2
  rw[e1.1.1,h4,e1.2.1,e1.2.2]
 dom a:=(a.1.1=a.1.2.length/\1<=a.1.2.length/\a.1.2.length<=1000000)/\0<=a.2.1/\a.2.1<=a.2.2/\a.2.2<=a.1.2.length;res a:=.os 0 0 (a.1.2.length - (a.2.2 - a.2.1).toNat) a.1.1 1;out a:=[.row (.i .i64) (lG a.1.2 a.2.1.toNat a.2.2.toNat) 3 true]
theorem h347:ef Tryz.prog wC:=by
 rintro⟨⟨n,l⟩,i,j⟩ ⟨⟨H,K,h2⟩,i0,ij,Y⟩;simp only at H K h2 i0 ij Y;subst H;obtain⟨i,rfl⟩:∃k:Nat,i=k:=⟨i.toNat,by omega⟩;obtain⟨j,rfl⟩:∃k:Nat,j=k:=⟨j.toNat,by omega⟩;refine⟨by kernel_rfl,?_⟩;intro A w F X t z;have I:∀m:List Int,gO [bq.row (.i .i64) m 3 true]=[bR.cells (m.map λx=>δe (.int .i64 x)) 3 1 true]:=λm=>by
  simp only[gO,ξ,γv,bq.g,mQ];rfl
 have V:gL (wC.put ((l.length,l),(i:Int),(j:Int)))=[.os 0 0 l.length (l.length*1),.sc (.int .i64 i),.sc (.int .i64 j)]:=rfl;have Z:(wC.res ((l.length,l),(i:Int),(j:Int))).g= .os 0 0 (l.length - (j - i)) (l.length*1):=by
  show AV.os 0 (0*1) (l.length - ((j:Int) - (i:Int)).toNat) (l.length*1)=_;simp_all
 show Calls _ _ _ _ λe h=>∃u p,e= .returned u/\bT A h p (gO [bq.row (.i .i64) (lG l i j) 3 true])/\bw A h p (gO [bq.row (.i .i64) (lG l i j) 3 true]) (wC.res ((l.length,l),(i:Int),(j:Int))).g u/\Ext w F (gO [bq.row (.i .i64) l 3 true]) h p (gO [bq.row (.i .i64) (lG l i j) 3 true]);replace t:bT A w F (gO [bq.row (.i .i64) l 3 true]):=t;replace z:bG A w F (gO [bq.row (.i .i64) l 3 true]) (gL (wC.put ((l.length,l),(i:Int),(j:Int)))) X:=z;rw[I] at t z;rw[I,I,Z];rw[V] at z;obtain⟨b,a2,d,rfl,S,Q,q4,q5,q6⟩:=SZ t K;simp only[bG] at z;obtain⟨v,r,rfl,M,v2,r2,rfl,C,v3,r3,rfl,D,rfl⟩:=z;simp only[bw] at M C D;obtain⟨a0,a,s,rfl,a3,J⟩:=M;obtain⟨rfl,_⟩:=C;obtain⟨rfl,_⟩:=D;have O:=J 1 ⟨_,_,_,rfl,by simp⟩;simp only[kE,δn] at O;obtain⟨rfl,rfl⟩:=O.2.1 trivial trivial (by omega);have hb:b<w.heap.size:=t.bnd 0 b s rfl;have W:=holds_of_blockI (ss:=l) Q q6;have T:maxLen=9223372036854775807:=rfl;have B:=@S1 l i j (by omega) (by omega);have E:Calls Tryz.prog (wC).f #[.slice (some ⟨b,0,none⟩) l.length s,.int .i64 i,.int .i64 j] w λe h=>e= .returned (.slice (some ⟨b,0,none⟩) (l.length - (j - i)) s)/\∃q,h=Sort.putRow (Value.int .i64) (Sort.ahead w q) b 0 (lG l i j).toArray:=by
  exact AnyE.slices_Delete Tryz.layD (Value.int .i64) (λ_=>rfl) 0 Tryz.zeroValue3 Tryz.t3 (by kernel_rfl) (by kernel_rfl) b 0 s i j l.toArray w W (by omega) (by omega) (by omega) (by simp;omega)
 refine Calls.mono E ?_;rintro e h ⟨rfl,q,rfl⟩;have y:=grownBy_sortedI (w:=w) (g:=b) (n:=q) (os:=#[]) (lG l i j).toArray;have L:=heap_sortedI (w:=w) (n:=q) (os:=#[]) (lG l i j).toArray Q;rw[Sort.grow_empty] at y L;have R:=take_putCellsI d (lG l i j) (by omega);have hz:(Sort.putCells (Value.int .i64) 0 (lG l i j).toArray d).size=d.size:=by simp[Sort.putCells]
 generalize Sort.putRow (Value.int .i64) (Sort.ahead w q) b 0 (lG l i j).toArray=h at*;generalize Sort.putCells (Value.int .i64) 0 (lG l i j).toArray d=o at*;have N:=t.upd (w':=h) (id:=0) (x':=.cells ((lG l i j).map λx=>δe (.int .i64 x)) 3 1 true) (s':=some (b,s)) rfl y.size y.os y.tape y.output
  (λk U H=>y.block k U λe=>by simp_all) (λb' c' e=>by simp_all)
  ⟨_,_,_,rfl,by simp[B],λ_=>rfl⟩ ?_
 ·refine⟨_,[some (b,s)],rfl,N.1,?_,N.2⟩;simp only[bw];refine⟨⟨_,_,_,_,rfl,by simp[B]⟩,_,_,rfl,by omega,λsz E=>?_⟩;obtain⟨_,_,_,E,_⟩:=E;grind[kE]
 ·intro hx;simp only[dE];refine⟨λ_=>by rw[<-mQ];exact o6 _ _,by rw[<-mQ];exact CU _ _,.inr ⟨b,s,o,rfl,S,L,by omega,by simp_all,?_⟩⟩;intro k c P;rw[γG] at P;obtain⟨x,G,rfl⟩:=ε.1 P;have a1:=(ζ.1 G).1;refine⟨.int .i64 x,?_,by simp[bw,Value.oneCell']⟩;have h9:(o.toList.take (lG l i j).length)[k]?=((lG l i j).map (Value.int .i64))[k]?:=by rw[R]
  grind
end Go.Vi
