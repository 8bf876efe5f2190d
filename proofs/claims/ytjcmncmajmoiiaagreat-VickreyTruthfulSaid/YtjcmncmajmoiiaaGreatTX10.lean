/-
  Plain law: the choice of the pivot, the run to the end, and that it ends.
  Conditions: none.
-/
import Derived.Test.YtjcmncmajmoiiaaGreatTX06
import Derived.Test.YtjcmncmajmoiiaaGreatTX07
import Derived.Test.YtjcmncmajmoiiaaGreatTX08
import Derived.Test.YtjcmncmajmoiiaaGreatTX09
import Derived.Test.YtjcmncmajmoiiaaGreatProg
import Derived.Shelf.Sort.AssemblyIn
import Derived.Shelf.SlicesE.Clone
import Derived.Shelf.SlicesE.Delete
import Derived.KernelRfl
set_option maxRecDepth 100000
set_option maxHeartbeats 4000000
set_option linter.all false
open And renaming intro->γj
open Go.Vi.AV.os renaming injEq->εO
open Go.Vi.AV.sc renaming injEq->γZ
open Go.Vi.SV renaming si->γe,ow->γ8,row->Φ,ptr->γW,sb->γI,il->γq
open Int renaming toNat_natCast->γz
open List renaming range->τ,range_succ->δR,length_append->ν,map_map->δo,map_congr_left->γ2,length_map->γx,map_cons->ι,map_nil->γs,nil_append->δp,cons_append->γB,length->γo,take_succ_eq_append_getElem->γ9,getElem_drop->εb,append_assoc->γg,take_append_drop->γc,pairwise_append->δg,perm_middle->ε1,ext_getElem->δb,length_set->γb,drop_drop->γV,drop->δi,mem_of_mem_drop->γL,mem_of_mem_take->γm,drop_eq_getElem_cons->δh,length_take->Ξ,length_drop->γH,getElem_take->εQ,append_cancel_right->δF,sublist_append_right->ζk,take_of_length_le->γn,mem_append->ω,take_zero->εS,set_append_right->εq,forall_mem_cons->γG,not_mem_nil->δk,Pairwise->ζA,replicate->ε
open List.Pairwise renaming sublist->δZ,nil->δA
open List.Perm renaming refl->ζL,append->ζZ
open List.cons renaming injEq->π
open Option.some renaming injEq->γ
open Prod renaming ext->εj
namespace Go.Vi
def eh (t:Tb):Nat->Int
 |0=> -1
 |k+1=>if 0<t.cs k/\(eh t k<0\/t.fv k<t.fv (eh t k).toNat) then(k:Int) else eh t k
def dP (t:Tb) (c:Nat):Nat->Int
 |0=> -1
 |k+1=>if t.cf k c<=0 then dP t c k
  else if 0<=dP t c k/\(t.bd (dP t c k).toNat / t.cf (dP t c k).toNat c<t.bd k / t.cf k c\/(t.bd k / t.cf k c=t.bd (dP t c k).toNat / t.cf (dP t c k).toNat c/\t.bv (dP t c k).toNat<t.bv k)) then dP t c k
  else(k:Int)
section
variable {n m:Nat} {t t0:Tb} {r c:Nat}
theorem vI:∀{k:Nat},(eh t k= -1/\∀j,j<k->¬0<t.cs j)\/(∃b:Nat,eh t k=b/\b<k/\0<t.cs b/\∀j,j<k->0<t.cs j->t.fv b<=t.fv j)
 |0=> .inl ⟨rfl,λj h=>by omega⟩
 |k+1=>by
  unfold eh
  rcases @vI k with⟨a,c⟩|⟨b,a,c,d,e⟩
  ·grind
  ·have f:(eh t k).toNat=b:=by omega
   grind
theorem vJ {c:Nat}:∀{k:Nat},(dP t c k= -1/\∀j,j<k->t.cf j c<=0)\/(∃b:Nat,dP t c k=b/\b<k/\0<t.cf b c/\∀j,j<k->0<t.cf j c->t.bd b / t.cf b c<t.bd j / t.cf j c\/(t.bd b / t.cf b c=t.bd j / t.cf j c/\t.bv b<=t.bv j))
 |0=> .inl ⟨rfl,λj h=>by omega⟩
 |k+1=>by
  unfold dP
  by_cases e:t.cf k c<=0
  ·rw[if_pos e]
   rcases @vJ c k with⟨f,a⟩|⟨b,f,a,o,n⟩<;>grind
  ·rw[if_neg e]
   have g:0<t.cf k c:=Rat.not_le.1 e
   rcases @vJ c k with⟨f,a⟩|⟨b,f,a,o,n⟩
   ·grind
   ·have i:(dP t c k).toNat=b:=by omega
    rw[i]
    by_cases d:0<=dP t c k/\(t.bd b / t.cf b c<t.bd k / t.cf k c\/(t.bd k / t.cf k c=t.bd b / t.cf b c/\t.bv b<t.bv k))
    ·grind
    ·rw[if_neg d]
     have l:¬t.bd b / t.cf b c<t.bd k / t.cf k c:=λh=>d ⟨by omega,.inl h⟩
     have m:t.bd k / t.cf k c=t.bd b / t.cf b c->¬t.bv b<t.bv k:=λh a=>d ⟨by omega,.inr ⟨h,a⟩⟩
     refine .inr ⟨k,rfl,by omega,g,λj p q=>?_⟩
     grind
end
def stepT (n m:Nat) (t:Tb):Option Tb:=
 if eh t n<0 then none
 else if dP t (eh t n).toNat m<0 then none
 else some (fF t (dP t (eh t n).toNat m).toNat (eh t n).toNat)
def eX (n m:Nat):Nat->Tb->Bool
 |0,t=>(stepT n m t).isNone
 |k+1,t=>match stepT n m t with
  |none=>true
  |some a=>eX n m k a
def runT (n m:Nat):Nat->Tb->Tb
 |0,t=>t
 |k+1,t=>match stepT n m t with
  |none=>t
  |some a=>runT n m k a
def x9 (n m N:Nat) (t:Tb):Nat:=((τ N).filter λk=>!eX n m k t).length
section
variable {n m:Nat} {t t0 t':Tb}
theorem Sv (h:stepT n m t=some t'):∃r c,qF n m t r c/\t'=fF t r c/\eh t n=(c:Int)/\dP t c m=(r:Int):=by
 unfold stepT at h;split at h
 ·cases h
 ·rename_i p
  split at h
  ·cases h
  ·rename_i o
   injection h with h
   rcases @vI t n with⟨b,_⟩|⟨c,b,d,e,k⟩
   ·omega
   ·have f:(eh t n).toNat=c:=by omega
    rw[f] at h o
    rcases @vJ t c m with⟨a,_⟩|⟨r,a,i,j,l⟩
    ·omega
    ·have g:(dP t c m).toNat=r:=by omega
     rw[g] at h
     exact⟨r,c,⟨i,d,e,k,j,l⟩,h.symm,b,a⟩
theorem Jx (b:Run n m t0 t) (d:j6 m t) (h:stepT n m t=some t'):Run n m t0 t'/\j6 m t':=by
 obtain⟨r,c,a,rfl,_⟩:=Sv h
 exact⟨b.piv a.hr a.hc (by have:=a.pos;grind),a.xX b.wf d⟩
theorem Jy:∀{k:Nat} {t:Tb},eX n m k t=true->eX n m (k+1) t=true
 |0,t,h=>by
  grind[eX]
 |k+1,t,h=>by
  unfold eX at h ⊢;split
  ·rfl
  ·rename_i b a
   rw[a] at h
   exact Jy h
theorem left_step {N:Nat} (b:eX n m N t=true) (h:stepT n m t=some t'):x9 n m N t'<x9 n m N t:=by
 unfold x9
 have e:∀k,eX n m k t'=eX n m (k+1) t:=λk=>by grind[eX]
 have c:eX n m 0 t=false:=by simp[eX,h]
 simp only[e]
 cases N with
 |zero=>simp_all
 |succ N=>
  have a:∀f:Nat->Bool,((τ (N+1)).filter f).length=(if f 0 then 1 else 0)+((τ N).filter λk=>f (k+1)).length:=λf=>by
   rw[List.range_succ_eq_map,List.filter_cons,List.filter_map,]
   grind[Function.comp_def]
  rw[a (λk=>!eX n m k t),c];rw[δR,List.filter_append,ν]
  simp[b]
theorem SA {N:Nat} (a:eX n m N t=true) (h:stepT n m t=some t'):eX n m N t'=true:=by
 cases N<;>grind[eX,Jy]
theorem Jz (D:Run n m t0 t) (o:j6 m t):∃N,eX n m N t=true:=by
 apply Classical.byContradiction
 intro u
 have e:∀N,eX n m N t=false:=λN=>by
  simp_all
 let T:Nat->Tb:=λk=>Nat.rec t (λ_ s=>(stepT n m s).getD s) k
 have d:∀k,T (k+1)=(stepT n m (T k)).getD (T k):=λk=>rfl
 have A:∀k N,eX n m N (T k)=false:=by
  intro k
  induction k with
  |zero=>exact e
  |succ k l=>
   intro N;rw[d]
   cases z:stepT n m (T k) with
   |none=>simp_all
   |some q=>
    have:=l (N+1)
    grind[eX]
 have w:∀k,stepT n m (T k)=some (T (k+1)):=λk=>by
  rw[d]
  cases z:stepT n m (T k) with
  |none=>have:=A k 0;grind[eX]
  |some q=>rfl
 have a:∀k,Run n m t0 (T k)/\j6 m (T k):=by
  intro k
  induction k with
  |zero=>exact⟨D,o⟩
  |succ k l=>grind[Jx]
 have b:∀k,∃p:Nat×Nat,qF n m (T k) p.1 p.2/\T (k+1)=fF (T k) p.1 p.2:=λk=>by
  obtain⟨r,c,f,E,_⟩:=Sv (w k)
  exact⟨(r,c),f,E⟩
 let p:Nat->Nat×Nat:=λk=>Classical.choose (b k)
 have h:∀k,qF n m (T k) (p k).1 (p k).2/\T (k+1)=fF (T k) (p k).1 (p k).2:=λk=>Classical.choose_spec (b k)
 obtain⟨i,j,g,B⟩:=Jv (Ai (t0.basic++t0.free) (m+n)) (λk=>(T k).basic++(T k).free) λk=>by
  have f:=@Sm (t0.basic++t0.free) ((T k).basic++(T k).free) λv C=>(a k).1.perm.mem_iff.1 C
  rwa [ν,(a k).1.wf.basic,(a k).1.wf.free] at f
 obtain⟨y,x⟩:=List.append_inj B (by rw[(a i).1.wf.basic,(a j).1.wf.basic])
 exact abZ (λk=>(a k).1) (λk=>(a k).2) (λk=>(h k).1) (λk=>(h k).2) g y x
end
open Go.Proofs.YtjcmncmajmoiiaaGreat.Ir
open Go.Proofs
def fL (l:List Rat):List bO:=l.map bu
def fM (l:List (List Rat)):List (List bO):=l.map fL
def vL (l:List bO):List Rat:=l.map cj
theorem lV (l:List Rat):vL (fL l)=l:=by
 unfold vL fL;rw[δo]
 conv=>rhs;rw[<-List.map_id l]
 exact γ2 λq _=>eW q
theorem kF (x:bO):(x.1,x.2.1,x.2.2)=x:=rfl
theorem fJ {l:List Rat}:(fL l).length=l.length:=γx _
theorem JA {l:List (List Rat)}:(fM l).length=l.length:=γx _
theorem jm {l:List Rat} {i:Nat} (h:i<l.length) {d:bO}:bj (fL l) i d=bu (bj l i 0):=by
 grind[cO,fL]
theorem JB {l:List (List Rat)} {i:Nat} (h:i<l.length) {d:List bO}:bj (fM l) i d=fL (bj l i []):=by
 grind[cO,fM]
structure nu where
 n:Int
 m:Int
 k0:Nat
 k1:Nat
 k3:Nat
 k4:Nat
 ca:List (List bO)
 bound:List bO
 cost:List bO
 v:bO
 basic:List Int
 free:List Int
def nu.gA (x:nu):bV:=
 [.cells [.si .i64 x.n,.si .i64 x.m,.ow 1 x.k0 1,.ow 2 x.k1 3,.row sF x.cost,.sb x.v.1,.row (.i .u32) x.v.2.1,.row (.i .u32) x.v.2.2,.ow 3 x.k3 1,.ow 4 x.k4 1] 267 10 false,
  .row (.bK sF) x.ca 91 false,.row sF x.bound 157 false,.row (.i .i64) x.basic 3 false,.row (.i .i64) x.free 3 false]
def D7:bV->Option nu
 |[.cells [a,b,.ow 1 k0 1,.ow 2 k1 3,c,v0,v1,v2,.ow 3 k3 1,.ow 4 k4 1] 267 10 false,.row s1 l1 91 false,.row s2 l2 157 false,.row s3 l3 3 false,.row s4 l4 3 false]=>
  match a.int .i64,b.int .i64,fW sF c,jB sF [v0,v1,v2] with
  |some a,some b,some c,some v=>match iD s1 (.bK sF) l1,iD s2 sF l2,iD s3 (.i .i64) l3,iD s4 (.i .i64) l4 with
   |some l1,some l2,some l3,some l4=>some ⟨a,b,k0,k1,k3,k4,l1,l2,c,v,l3,l4⟩
   |_,_,_,_=>none
  |_,_,_,_=>none
 |_=>none
theorem ab0 {o:bV} {x:nu} (h:D7 o=some x):gO o=gO x.gA:=by
 unfold D7 at h;split at h
 ·split at h
  ·rename_i p l c e
   split at h
   ·rename_i n j k m
    simp only[γ] at h;subst h
    obtain⟨rfl,f⟩:=mW n
    obtain⟨rfl,b⟩:=mW j
    obtain⟨rfl,d⟩:=mW k
    obtain⟨rfl,i⟩:=mW m
    cases f;cases b;cases d;cases i
    have a:=nI e
    simp only[ι,γs,dJ,dE,π,and_true,δp,γB] at a;simp only[nu.gA,gO,ι,γs,bq.g,gL,gX p,gX l,jE c,SV.g];simp only[a];rfl
   ·cases h
  ·cases h
 ·cases h
theorem oV {s:bn} {a b:List s.T} (h:cC s a=cC s b):a=b:=by
 by_cases d:s.sz=0
 ·exact absurd d (by
   have:∀s:bn,0<s.sz:=λs=>by
    induction s<;>simp only[bn.sz]<;>omega
   grind)
 ·have c:=congrArg γo h
  rw[fe,fe] at c
  exact lK s (Nat.eq_of_mul_eq_mul_right (by omega) c) h
theorem ab1 {x y:nu} (h:gO x.gA=gO y.gA):x=y:=by
 obtain⟨n,m,B,M,G,J,c,b,g,⟨I,K,F⟩,D,C⟩:=x
 obtain⟨H,L,a,p,r,l,N,E,A,⟨k,w,q⟩,j,u⟩:=y
 simp only[nu.gA,gO,ι,γs,bq.g,gL,SV.g,π,bP.cells.injEq,and_true,true_and,γZ,Value.int.injEq,Value.bool.injEq,εO,AV.sl.injEq] at h
 obtain⟨⟨rfl,rfl,⟨rfl,_⟩,⟨rfl,_⟩,⟨_,d⟩,rfl,⟨_,v⟩,⟨_,e⟩,⟨rfl,_⟩,⟨rfl,_⟩⟩,f,t,o,z⟩:=h
 rw[oV (s:=sF) d,oV (s:=.i .u32) v,oV (s:=.i .u32) e,oV (s:=.bK sF) f,oV (s:=sF) t,oV (s:=.i .i64) o,oV (s:=.i .i64) z]
abbrev bG (n m:Int) (t:Tb):nu:=⟨n,m,t.ca.length,t.bound.length,t.basic.length,t.free.length,fM t.ca,fL t.bound,fL t.cost,bu t.value,t.basic,t.free⟩
def nu.t (x:nu):Tb:=⟨x.ca.map vL,vL x.bound,vL x.cost,cj x.v,x.basic,x.free⟩
theorem sJ {n m:Int} {t:Tb}:(bG n m t).t=t:=by
 have e:(fM t.ca).map vL=t.ca:=by
  unfold fM;rw[δo]
  conv=>rhs;rw[<-List.map_id t.ca]
  exact γ2 λq _=>lV q
 simp_all[nu.t,lV,eW]
theorem ab2 (x:nu):(⟨x.n,x.m,x.k0,x.k1,x.k3,x.k4,x.ca,x.bound,x.cost,(x.v.1,x.v.2.1,x.v.2.2),x.basic,x.free⟩:nu)=x:=rfl
theorem SB {n m:Int} {t:Tb}:(bG n m t).n=n:=rfl
theorem SC {n m:Int} {t:Tb}:(bG n m t).m=m:=rfl
def vK (k:Nat) (t:Tb):Prop:=(∀l∈t.ca,∀q∈l,Sz k q)/\(∀q∈t.bound,Sz k q)/\(∀q∈t.cost,Sz k q)/\Sz k t.value
def kG (n m:Int) (t:Tb):Prop:=((0<=n/\n<=1000)/\(0<=m/\m<=1000))/\t.WF n.toNat m.toNat/\vK 1000000 t
def ui (f:FuncId) (c:Type) (A:qj c) (i:Int->Int->Tb->c->Prop) (e:Int->Int->Tb->c->SV) (out:Int->Int->Tb->c->Tb):cV where
 f:=f
 α:=nu×c
 put a:=.ptr 0 0 10::A.put a.2
 st a:=a.1.gA
 dec v o:=match v with
  | .ptr 0 0 10::r=>match D7 o,A.dec r with
   |some s,some b=>some (s,b)
   |_,_=>none
  |_=>none
 ok v o a h:=by
  split at h
  ·split at h
   ·rename_i d g
    simp only[γ] at h;subst h
    exact⟨by simp only[gL,A.ok _ _ g],ab0 d⟩
   ·cases h
  ·cases h
 inj a b d g:=by
  simp only[gL,π,true_and] at d
  exact εj (ab1 g) (A.inj _ _ d)
 dom a:=∃n m t,a.1=bG n m t/\kG n m t/\i n m t a.2
 res a:=e a.1.n a.1.m a.1.t a.2
 out a:=(bG a.1.n a.1.m (out a.1.n a.1.m a.1.t a.2)).gA
theorem ei {q:Rat} {k:Nat} (h:Sz k q) (a:k<=100000000):cY (bu q):=⟨q,k,rfl,h,a⟩
section
variable {n m:Int} {t:Tb}
theorem kG.cf (h:kG n m t) {i j:Nat} (a:i<m.toNat) (c:j<n.toNat):Sz 1000000 (t.cf i j):=by
 have b:=de (l:=t.ca) (d:=[]) (show i<t.ca.length by rw[h.2.1.ca];exact a)
 exact h.2.2.1 _ b _ (de (by rw[h.2.1.row i a];exact c))
theorem kG.bd (h:kG n m t) {i:Nat} (a:i<m.toNat):Sz 1000000 (t.bd i):=h.2.2.2.1 _ (de (by rw[h.2.1.bound];exact a))
theorem kG.cs (h:kG n m t) {j:Nat} (a:j<n.toNat):Sz 1000000 (t.cs j):=h.2.2.2.2.1 _ (de (by rw[h.2.1.cost];exact a))
end
theorem ya {q:Rat}:0<kC q↔0<q:=by
 grind[kC]
theorem SD {q:Rat}:kC q=0↔q=0:=by
 grind[kC]
theorem JC {q:Rat}:kC q<0↔q<0:=by
 grind[kC]
def JD:cV:=ui 220 Unit .nil (λ_ _ _ _=>True) (λn _ t _=> .si .i64 (eh t n.toNat)) (λ_ _ t _=>t)
def ab3 (n m:Int) (t:Tb):Nat->cB
 |3=> .inv Int (λj=>⟨[(0,.ptr 0 0 10),(3,.si .i64 (eh t j.toNat)),(9,.ow 4 t.free.length 1),(10,.si .i64 t.free.length),(11,.si .i64 j)],(bG n m t).gA⟩)
   (λs=>iS s 11) (λj=>0<=j/\j<=n) (λj=>(n - j).toNat) λ_ _=> .look
 |_=> .look
theorem h411:dK Tryz.prog JD:=by
 refine jk (L:=[ug]) (W:=[]) JD (λa=>ab3 a.1.n a.1.m a.1.t) (by simp) (by simpa using h99) ?_
 rintro⟨x,u⟩ ⟨n,m,t,hx,hok, -⟩
 simp only at hx
 subst hx
 refine bR (let a:=γe .i64;let b:=(0:Int);let c:=bq.row;let d:=γ8;let e:=Φ;let r:=γW 0 0 10;let s:=(bG n m t).t;let F:=d 4 (bG n m t).k4 1;let y:=s.free.length;let z:=d 4 y 1;let A:=a (↑y:Int);let g:=(bG n m t).n;let B:=bn.i .u32;let f:=bG g (bG n m t).m s;let k:=bq.cells [a f.n,a f.m,d 1 f.k0 1,d 2 f.k1 3,e sF f.cost,γI f.v.fst,e B f.v.snd.fst,e B f.v.snd.snd,d 3 f.k3 1,d 4 f.k4 1] 267 10 false;let l:=c sF.bK f.ca 91 false;let o:=c sF f.bound 157 false;let C:=bn.i .i64;let p:=c C f.basic 3 false;let q:=c C f.free 3 false;let j:=f.free.length;(((r.same r/\(γq .i64 (-1:Int)).same (a (eh s 0))/\F.same z/\(a (↑(bG n m t).k4:Int)).same A/\(γq .i64 0).same (a 0)/\True)/\(bq.cells [a g,a (bG n m t).m,d 1 (bG n m t).k0 1,d 2 (bG n m t).k1 3,e sF (bG n m t).cost,γI (bG n m t).v.fst,e B (bG n m t).v.snd.fst,e B (bG n m t).v.snd.snd,d 3 (bG n m t).k3 1,F] 267 10 false).same k/\(c sF.bK (bG n m t).ca 91 false).same l/\(c sF (bG n m t).bound 157 false).same o/\(c C (bG n m t).basic 3 false).same p/\(c C (bG n m t).free 3 false).same q/\True)/\b<=b/\b<=g)/\∀(x:Int),let h:=x+(1:Int);let w:=eh s x.toNat;let G:=a w;let H:=a (eh s h.toNat);let D:=a h;let E:=bj f.cost x.toNat sF.dflt;let I:=(E.fst,E.snd.fst,E.snd.snd);let J:=decide (x<(↑y:Int));let K:=decide (w<b);let L:=decide (bj f.free x.toNat b<bj f.free w.toNat b);let M:=bX .i64 h/\((r.same r/\G.same H/\z.same z/\A.same A/\D.same D/\True)/\k.same k/\l.same l/\o.same o/\p.same p/\q.same q/\True)/\(b<=h/\h<=g)/\(g - h).toNat<(g - x).toNat;let N:=bX .i64 h/\((r.same r/\(a x).same H/\z.same z/\A.same A/\D.same D/\True)/\k.same k/\l.same l/\o.same o/\p.same p/\q.same q/\True)/\(b<=h/\h<=g)/\(g - h).toNat<(g - x).toNat;let O:=λ(u:Bool) ↦decide (b<kC (cj I))=u;b<=x/\x<=g->(J=true->y=j/\b<=x/\x<(↑j:Int)/\y=j/\x.toNat<j/\b<=x/\x<(↑f.cost.length:Int)/\x.toNat<f.cost.length/\cY I/\(O true->(K=true->N)/\(K=false->f.k4=j/\b<=w/\w<(↑j:Int)/\f.k4=j/\w.toNat<j/\(L=true->N)/\(L=false->M)))/\(O false->M))/\(J=false->G.same (a (eh s g.toNat))/\k.same k/\l.same l/\o.same o/\p.same p/\q.same q/\True)) (by kernel_rfl) ?_
 simp only[sJ]
 try simp only[bG]
 simp only[vcs]
 obtain⟨⟨⟨n0,n1⟩,m0,m1⟩,hw,hz⟩:=id hok
 have hfl:=hw.free
 have hcl:=hw.cost
 have hfc:=@fJ t.cost
 refine⟨⟨rfl,by omega,by omega⟩,?_⟩
 rintro j ⟨j0,j1⟩
 have hs:eh t (j+1).toNat=if 0<t.cs j.toNat/\(eh t j.toNat<0\/t.fv j.toNat<t.fv (eh t j.toNat).toNat) then(j.toNat:Int) else eh t j.toNat:=by
  rw[show(j+1).toNat=j.toNat+1 by omega]
  rfl
 have hb:eh t j.toNat<j.toNat:=by
  rcases @vI t j.toNat with⟨h,_⟩|⟨b,h,hlt,_⟩<;>omega
 refine⟨λhj=>?_,λhj=>by rw[show j.toNat=n.toNat by omega]⟩
 have hc:bj (fL t.cost) j.toNat sF.dflt=bu (t.cs j.toNat):=jm (by omega)
 simp only[hc,kF,eW,decide_eq_true_eq,decide_eq_false_iff_not,ya]
 have D8:∀k:Nat,bj t.free k 0=t.fv k:=λk=>rfl
 rw[D8,D8,hs]
 refine⟨j0,hj,by omega,j0,by omega,by omega,ei (hok.cs (by omega)) (by omega),λhp=>⟨λhn=>?_,λhn=>⟨by omega,by omega,by omega,λhl=>?_,λhl=>?_⟩⟩,λhp=>?_⟩
 ·rw[if_pos ⟨hp,.inl hn⟩]
  omega
 ·rw[if_pos ⟨hp,.inr hl⟩]
  omega
 ·rw[if_neg λh=>h.2.elim hn hl]
  omega
 ·rw[if_neg λh=>hp h.1]
  omega
def ny (t:Tb) (c k:Nat):bO:=if dP t c k<0 then(false,([],[])) else bu (t.bd (dP t c k).toNat / t.cf (dP t c k).toNat c)
def JE:cV:=ui 221 Int (.one (ez .i64)) (λn _ _ c=>0<=c/\c<n) (λ_ m t c=> .si .i64 (dP t c.toNat m.toNat)) (λ_ _ t _=>t)
def ab4 (n m:Int) (t:Tb) (c:Int):Nat->cB
 |4=> .inv Int (λi=>⟨[(0,.ptr 0 0 10),(1,.si .i64 c),(5,.si .i64 (dP t c.toNat i.toNat)),(6,.ptr 5 0 3),(15,.ow 1 t.ca.length 1),(16,.si .i64 t.ca.length),(17,.si .i64 i)],(bG n m t).gA++[.cells [.sb (ny t c.toNat i.toNat).1,.row (.i .u32) (ny t c.toNat i.toNat).2.1,.row (.i .u32) (ny t c.toNat i.toNat).2.2] 157 3 false,.dead,.dead]⟩)
   (λs=>iS s 17) (λi=>0<=i/\i<=m) (λi=>(m - i).toNat) λ_ _=> .look
 |_=> .look
theorem h412:dK Tryz.prog JE:=by
 refine jk (L:=[ug,Ab,DZ]) (W:=[]) JE (λa=>ab4 a.1.n a.1.m a.1.t a.2) (by simp) (by simpa using⟨h99,h97,h416⟩) ?_
 rintro⟨x,c⟩ ⟨n,m,t,hx,hok,hd⟩
 simp only at hx hd
 subst hx
 refine bR (let a:=γe .i64;let b:=(0:Int);let d:=Φ;let e:=bq.cells;let f:=bq.row;let g:=γ8;let h:=γI;let A:=γW 0 0 10;let p:=(bG n m t).t;let B:=γW 5 0 3;let U:=g 1 (bG n m t).k0 1;let H:=p.ca.length;let I:=g 1 H 1;let J:=a (↑H:Int);let l:=(bG n m t).m;let k:=bn.i .u32;let j:=bG (bG n m t).n l p;let r:=e [a j.n,a j.m,g 1 j.k0 1,g 2 j.k1 3,d sF j.cost,h j.v.fst,d k j.v.snd.fst,d k j.v.snd.snd,g 3 j.k3 1,g 4 j.k4 1] 267 10 false;let C:=j.ca;let s:=f sF.bK C 91 false;let D:=j.bound;let w:=f sF D 157 false;let L:=bn.i .i64;let y:=f L j.basic 3 false;let z:=f L j.free 3 false;let O:=ny p c.toNat 0;let a9:=sF.bK.dflt;let q:=j.basic.length;0=0/\0=0/\(((A.same A/\(a c).same (a c)/\(γq .i64 (-1:Int)).same (a (dP p c.toNat 0))/\B.same B/\U.same I/\(a (↑(bG n m t).k0:Int)).same J/\(γq .i64 0).same (a 0)/\True)/\(e [a (bG n m t).n,a l,U,g 2 (bG n m t).k1 3,d sF (bG n m t).cost,h (bG n m t).v.fst,d k (bG n m t).v.snd.fst,d k (bG n m t).v.snd.snd,g 3 (bG n m t).k3 1,g 4 (bG n m t).k4 1] 267 10 false).same r/\(f sF.bK (bG n m t).ca 91 false).same s/\(f sF (bG n m t).bound 157 false).same w/\(f L (bG n m t).basic 3 false).same y/\(f L (bG n m t).free 3 false).same z/\(e [SV.bl false,d k [],d k []] 157 3 false).same (e [h O.fst,d k O.snd.fst,d k O.snd.snd] 157 3 false)/\bq.dead.same bq.dead/\bq.dead.same bq.dead/\True)/\b<=b/\b<=l)/\∀(x:Int),let o:=x+(1:Int);let V:=a (dP p c.toNat o.toNat);let M:=a o;let P:=bj D x.toNat sF.dflt;let W:=(P.fst,P.snd.fst,P.snd.snd);let K:=bj C x.toNat a9;let Q:=bj K c.toNat sF.dflt;let N:=(Q.fst,Q.snd.fst,Q.snd.snd);let E:=bu (cj W / cj N);let R:=ny p c.toNat o.toNat;let X:=e [h R.fst,d k R.snd.fst,d k R.snd.snd] 157 3 false;let F:=dP p c.toNat x.toNat;let Y:=a F;let G:=ny p c.toNat x.toNat;let Z:=(E.fst,E.snd.fst,E.snd.snd);let a0:=(G.fst,G.snd.fst,G.snd.snd);let a1:=i7 (cj Z) (cj a0);let a2:=decide (x<(↑H:Int));let a3:=decide (b<=F);let a4:=decide (bj j.basic F.toNat b<bj j.basic x.toNat b);let S:=bX .i64 o/\((A.same A/\(a c).same (a c)/\(a x).same V/\B.same B/\I.same I/\J.same J/\M.same M/\True)/\r.same r/\s.same s/\w.same w/\y.same y/\z.same z/\(e [h E.fst,d k E.snd.fst,d k E.snd.snd] 157 3 false).same X/\bq.dead.same bq.dead/\bq.dead.same bq.dead/\True)/\(b<=o/\o<=l)/\(l - o).toNat<(l - x).toNat;let T:=bX .i64 o/\((A.same A/\(a c).same (a c)/\Y.same V/\B.same B/\I.same I/\J.same J/\M.same M/\True)/\r.same r/\s.same s/\w.same w/\y.same y/\z.same z/\(e [h G.fst,d k G.snd.fst,d k G.snd.snd] 157 3 false).same X/\bq.dead.same bq.dead/\bq.dead.same bq.dead/\True)/\(b<=o/\o<=l)/\(l - o).toNat<(l - x).toNat;let a5:=cY N;let a6:=λ(u:Bool) ↦decide (b<a1)=u;let a7:=λ(u:Bool) ↦decide (a1=b)=u;let a8:=λ(u:Bool) ↦decide (kC (cj N)<=b)=u;b<=x/\x<=l->(a2=true->H=C.length/\b<=x/\x<(↑C.length:Int)/\H=C.length/\x.toNat<C.length/\b<=c/\c<(↑K.length:Int)/\c.toNat<K.length/\a5/\(a8 true->T)/\(a8 false->j.k1=D.length/\b<=x/\x<(↑D.length:Int)/\j.k1=D.length/\x.toNat<D.length/\b<=c/\c<(↑K.length:Int)/\c.toNat<K.length/\((cY W/\a5)/\cj N≠(0:Rat))/\(a3=true->(cY Z/\cY a0)/\(a6 true->T)/\(a6 false->(a7 true->j.k3=q/\b<=x/\x<(↑q:Int)/\j.k3=q/\x.toNat<q/\j.k3=q/\b<=F/\F<(↑q:Int)/\j.k3=q/\F.toNat<q/\(a4=true->T)/\(a4=false->S))/\(a7 false->S)))/\(a3=false->S)))/\(a2=false->Y.same (a (dP p c.toNat l.toNat))/\r.same r/\s.same s/\w.same w/\y.same y/\z.same z/\True)) (by kernel_rfl) ?_
 simp only[sJ]
 try simp only[bG]
 simp only[vcs]
 obtain⟨⟨⟨n0,n1⟩,m0,m1⟩,hw,hz⟩:=id hok
 have hkl:=hw.ca
 have hbl:=hw.bound
 have hbb:=hw.basic
 have hfm:=@JA t.ca
 have yU:=@fJ t.bound
 have hcell:∀{x y:bO},x=y->(bq.cells [γI x.1,Φ (bn.i IntKind.u32) x.2.1,Φ (bn.i IntKind.u32) x.2.2] 157 3 false).same (bq.cells [γI y.1,Φ (bn.i IntKind.u32) y.2.1,Φ (bn.i IntKind.u32) y.2.2] 157 3 false):=by rintro _ _ rfl;rfl
 have hl0:ny t c.toNat 0=(false,([],[])):=rfl
 refine⟨⟨⟨rfl,by rw[hl0];rfl⟩,by omega,by omega⟩,?_⟩
 rintro i ⟨i0,i1⟩
 refine⟨λhi=>?_,λhi=>by rw[show i.toNat=m.toNat by omega]⟩
 have him:i.toNat<m.toNat:=by omega
 have hrow:bj (fM t.ca) i.toNat sF.bK.dflt=fL (bj t.ca i.toNat []):=JB (by omega)
 have hrl:=hw.row i.toNat him
 have hfr:=@fJ (bj t.ca i.toNat [])
 have hA:bj (fL (bj t.ca i.toNat [])) c.toNat sF.dflt=bu (t.cf i.toNat c.toNat):=jm (by omega)
 have hB:bj (fL t.bound) i.toNat sF.dflt=bu (t.bd i.toNat):=jm (by omega)
 have hbv:∀k:Nat,bj t.basic k 0=t.bv k:=λk=>rfl
 have hsA:=hok.cf (i:=i.toNat) (j:=c.toNat) him (by omega)
 have hsB:=hok.bd (i:=i.toNat) him
 have hs:dP t c.toNat (i+1).toNat=if t.cf i.toNat c.toNat<=0 then dP t c.toNat i.toNat
  else if 0<=dP t c.toNat i.toNat/\(t.bd (dP t c.toNat i.toNat).toNat / t.cf (dP t c.toNat i.toNat).toNat c.toNat<t.bd i.toNat / t.cf i.toNat c.toNat\/(t.bd i.toNat / t.cf i.toNat c.toNat=t.bd (dP t c.toNat i.toNat).toNat / t.cf (dP t c.toNat i.toNat).toNat c.toNat/\t.bv (dP t c.toNat i.toNat).toNat<t.bv i.toNat)) then dP t c.toNat i.toNat
  else(i.toNat:Int):=by
  rw[show(i+1).toNat=i.toNat+1 by omega]
  rfl
 have hlb:dP t c.toNat i.toNat<i.toNat:=by
  rcases @vJ t c.toNat i.toNat with⟨h,_⟩|⟨b,h,hlt,_⟩<;>omega
 have hlp:0<=dP t c.toNat i.toNat->0<t.cf (dP t c.toNat i.toNat).toNat c.toNat:=λh=>by
  rcases @vJ t c.toNat i.toNat with⟨h2,_⟩|⟨b,h2,hlt,hp,_⟩
  ·omega
  ·rw[h2,γz];exact hp
 have ab5:∀q:Rat,kC q<=0↔q<=0:=λq=>by
  have:=@ya q
  constructor
  ·intro h;exact Rat.not_lt.1 λh2=>by have:=this.2 h2;omega
  ·intro h;exact Int.not_lt.1 λh2=>Rat.not_lt.2 h (this.1 h2)
 simp only[hrow,hA,hB,kF,eW,hbv,ab5,abM,abN]
 have ab6:0<=dP t c.toNat i.toNat->ny t c.toNat i.toNat=bu (t.bd (dP t c.toNat i.toNat).toNat / t.cf (dP t c.toNat i.toNat).toNat c.toNat):=λh=>by
  unfold ny
  rw[if_neg (by omega)]
 have tail:(0<=i+1/\i+1<=m)/\(m - (i+1)).toNat<(m - i).toNat:=by omega
 have keep:dP t c.toNat (i+1).toNat=dP t c.toNat i.toNat->ny t c.toNat i.toNat=ny t c.toNat (i+1).toNat:=λh=>by
  unfold ny;rw[h]
 have new:dP t c.toNat (i+1).toNat=(i.toNat:Int)->bu (t.bd i.toNat / t.cf i.toNat c.toNat)=ny t c.toNat (i+1).toNat:=λh=>by
  unfold ny
  rw[h,if_neg (by omega),γz]
 have hnz:0<t.cf i.toNat c.toNat->t.cf i.toNat c.toNat≠0:=λh=>by grind
 refine⟨by omega,i0,by omega,by omega,by omega,hd.1,by omega,by omega,ei hsA (by omega),λhle=>?_,λhgt=>?_⟩
 ·have e:dP t c.toNat (i+1).toNat=dP t c.toNat i.toNat:=by rw[hs,if_pos hle]
  exact⟨by omega,⟨e.symm,hcell (keep e)⟩,tail⟩
 ·have hp:0<t.cf i.toNat c.toNat:=Rat.not_le.1 hgt
  rw[if_neg hgt] at hs
  have ab7:=Jn hsB hsA (hnz hp)
  refine⟨by omega,i0,by omega,by omega,by omega,hd.1,by omega,by omega,⟨⟨ei hsB (by omega),ei hsA (by omega)⟩,hnz hp⟩,λh0=>?_,λh0=>?_⟩
  ·have hl:=ab6 h0
   have hsl:=Jn (hok.bd (i:=(dP t c.toNat i.toNat).toNat) (by omega)) (hok.cf (i:=(dP t c.toNat i.toNat).toNat) (j:=c.toNat) (by omega) (by omega)) (by have:=hlp h0;grind)
   have hvl:cj (ny t c.toNat i.toNat)=t.bd (dP t c.toNat i.toNat).toNat / t.cf (dP t c.toNat i.toNat).toNat c.toNat:=by rw[hl,eW]
   simp only[hvl]
   refine⟨⟨ei ab7 (by omega),by rw[hl];exact ei hsl (by omega)⟩,λhlt=>?_,λhlt=>⟨λheq=>⟨i0,by omega,by omega,h0,by omega,by omega,λhbl=>?_,λhbl=>?_⟩,λheq=>?_⟩⟩
   ·rw[if_pos ⟨h0,.inl hlt⟩] at hs
    exact⟨by omega,⟨hs.symm,hcell (keep hs)⟩,tail⟩
   ·rw[if_pos ⟨h0,.inr ⟨heq,hbl⟩⟩] at hs
    exact⟨by omega,⟨hs.symm,hcell (keep hs)⟩,tail⟩
   ·rw[if_neg λh=>h.2.elim hlt λh2=>hbl h2.2] at hs
    exact⟨by omega,⟨by omega,hcell (new hs)⟩,tail⟩
   ·rw[if_neg λh=>h.2.elim hlt λh2=>heq h2.1] at hs
    exact⟨by omega,⟨by omega,hcell (new hs)⟩,tail⟩
  ·rw[if_neg λh=>h0 h.1] at hs
   exact⟨by omega,⟨by omega,hcell (new hs)⟩,tail⟩
def JF:bM:=⟨169,Int,.one (ez .i64),λ_=>True,λ_=> .sb false⟩
theorem h334:Holds Tryz.prog JF:=by
 refine cK (L:=[]) JF lk (by simp) ?_
 rintro(x:Int) -
 refine bR ((γI (decide (x≠x))).same (γI false)) (by kernel_rfl) ?_
 simp_all
def yb (x y:Int):Int:=if x<y then -1 else if y<x then 1 else 0
def JG:bM:=⟨128,Int×Int,.cons (ez .i64) (.one (ez .i64)),λ_=>True,λa=> .si .i64 (yb a.1 a.2)⟩
theorem h321:Holds Tryz.prog JG:=by
 refine cK (L:=[JF]) JG lk (by grind[h334]) ?_
 rintro⟨x,y⟩ -
 refine bR (let b:=γq .i64;let c:=γq .i64 0;let a:=γe .i64 (yb x y);True/\True/\(false=true->(false=true->(b 0).same a)/\(false=false->(b (-1:Int)).same a))/\(false=false->(false=true->(b 1).same a)/\(false=false->(decide (x<y)=true->(b (-1:Int)).same a)/\(decide (x<y)=false->(decide (y<x)=true->(b 1).same a)/\(decide (y<x)=false->(b 0).same a))))) (by kernel_rfl) ?_
 simp_all[yb,if_neg]
def vM (b:bz):Int:=b.a0+b.a1+b.a2+b.a3+b.a4+b.a5
def JH:bM:=⟨129,bz,.one (eG .dX),λb=>b.ok=true,λb=> .si .i64 (vM b)⟩
theorem h322:Holds Tryz.prog JH:=by
 refine cK (L:=[]) JH (λ_ _=> .oG 7) (by simp) ?_
 rintro(b:bz) (h:b.ok=true)
 have h:=bz.fA.1 h
 refine bR (let d:=bX .i64;let a:=(0:Int)+b.a0+b.a1;let c:=a+b.a2+b.a3+b.a4;d ((0:Int)+b.a0)/\d a/\d (a+b.a2)/\d (a+b.a2+b.a3)/\d c/\d (c+b.a5)/\(γe .i64 (c+b.a5)).same (γe .i64 (vM b))) (by kernel_rfl) ?_
 simp only[vcs];unfold vM;omega
def oI (p:bp) (i:Int):Off:=bj p.offers i.toNat bn.off.dflt
def rB (p:bp) (i:Int):Int:=(oI p i).value
def pJ (p:bp) (i:Int):Int:=vM (oI p i).want
def bL (p:bp) (i:Int):Int:=rB p i*(5354228880 / pJ p i)
def iq (p:bp) (i:Int):Prop:=0<=i/\i<p.offers.length
theorem Ak {p:bp} (b:bC p=0) {i:Int} (h:iq p i):(1<=rB p i/\rB p i<=1000000)/\(1<=pJ p i/\pJ p i<=24)/\(oI p i).want.ok=true:=by
 obtain⟨j,k⟩:=h
 have c:=de (d:=bn.off.dflt) (show i.toNat<p.offers.length by omega)
 have a:=(dL b).2.2.2.2 _ c
 have g:=(xp ((rj b).2 _ c)).2.1
 have e:=bz.fA.1 a.2.2.1
 have f:¬((oI p i).want.a0=0/\(oI p i).want.a1=0/\(oI p i).want.a2=0/\(oI p i).want.a3=0/\(oI p i).want.a4=0/\(oI p i).want.a5=0):=λh=>g (CP.2 h)
 have e:(0<=(oI p i).want.a0/\(oI p i).want.a0<=4)/\(0<=(oI p i).want.a1/\(oI p i).want.a1<=4)/\(0<=(oI p i).want.a2/\(oI p i).want.a2<=4)/\(0<=(oI p i).want.a3/\(oI p i).want.a3<=4)/\(0<=(oI p i).want.a4/\(oI p i).want.a4<=4)/\(0<=(oI p i).want.a5/\(oI p i).want.a5<=4):=e
 refine⟨⟨a.2.2.2.1,a.2.2.2.2⟩,?_,a.2.2.1⟩
 unfold pJ vM;omega
theorem SE {t:Int} (a:1<=t) (b:t<=24):t*(5354228880 / t)=5354228880/\1<=5354228880 / t:=by
 have:t=1\/t=2\/t=3\/t=4\/t=5\/t=6\/t=7\/t=8\/t=9\/t=10\/t=11\/t=12\/t=13\/t=14\/t=15\/t=16\/t=17\/t=18\/t=19\/t=20\/t=21\/t=22\/t=23\/t=24:=by omega
 rcases this with rfl|rfl|rfl|rfl|rfl|rfl|rfl|rfl|rfl|rfl|rfl|rfl|rfl|rfl|rfl|rfl|rfl|rfl|rfl|rfl|rfl|rfl|rfl|rfl<;>decide
theorem ab8 {p:bp} (g:bC p=0) {x y:Int} (j:iq p x) (i:iq p y):bL p x<bL p y↔rB p x*pJ p y<rB p y*pJ p x:=by
 obtain⟨m,e,_⟩:=Ak g j
 obtain⟨u,f,_⟩:=Ak g i
 obtain⟨v,q⟩:=SE e.1 e.2
 obtain⟨o,r⟩:=SE f.1 f.2
 unfold bL
 generalize 5354228880 / pJ p x=d at*
 generalize 5354228880 / pJ p y=c at*
 generalize rB p x=a at*
 generalize rB p y=b at*
 generalize pJ p x=s at*
 generalize pJ p y=t at*
 have k:0<d*c:=Int.mul_pos (by omega) (by omega)
 have l:(a*t)*(d*c)=(a*d)*5354228880:=by grind
 have n:(b*s)*(d*c)=(b*c)*5354228880:=by grind
 constructor
 ·intro h
  have:(a*t)*(d*c)<(b*s)*(d*c):=by omega
  exact Int.lt_of_mul_lt_mul_right this (by omega)
 ·intro h
  have:(a*t)*(d*c)<(b*s)*(d*c):=Int.mul_lt_mul_of_pos_right h k
  omega
def sK (p:bp) (x y:Int):Int:=yb (rB p y*pJ p x) (rB p x*pJ p y)
theorem SG {p:bp} (a:bC p=0) {x y:Int} (c:iq p x) (b:iq p y):sK p x y<0↔bL p y<bL p x:=by
 rw[ab8 a b c]
 grind[sK,yb]
def D9:cV where
 f:=127
 α:=Int×Int×bp
 put a:=[.si .i64 a.1,.si .i64 a.2.1,.ptr 0 0 20]
 st a:=[.cells a.2.2.ss 27 20 false]
 dec v o:=match v,o with
  |[x,y,.ptr 0 0 20],[.cells cs 27 20 false]=>match x.int .i64,y.int .i64,sg cs with
   |some x,some y,some p=>some (x,y,p)
   |_,_,_=>none
  |_,_=>none
 ok v o a h:=by
  split at h
  ·split at h
   ·rename_i h1 h2 h3
    simp only[γ] at h;subst h
    refine⟨by simp only[gL,gX h1,gX h2];rfl,?_⟩
    simp only[gO,ι,γs,bq.g,vn h3]
   ·cases h
  ·cases h
 inj a b h1 h2:=by
  simp only[gL,π,and_true,SV.g,γZ,Value.int.injEq,true_and] at h1;simp only[gO,ι,γs,bq.g,π,bP.cells.injEq,and_true] at h2
  have h3:=dG.inj a.2.2 b.2.2 (by simp only[dG,SV.g,h2])
  exact εj h1.1 (εj h1.2 h3)
 dom a:=bC a.2.2=0/\iq a.2.2 a.1/\iq a.2.2 a.2.1
 res a:=.si .i64 (sK a.2.2 a.1 a.2.1)
 out a:=[.cells a.2.2.ss 27 20 false]
theorem h320:dK Tryz.prog D9:=by
 refine jk (L:=[JH,JG]) (W:=[]) D9 lk (by simp) (by grind[h322,h321]) ?_
 rintro⟨x,y,p⟩ ⟨f,e,c⟩
 refine bR (let a:=bn.off.dflt;let d:=p.offers.length;let g:=bj p.offers x.toNat a;let h:=bj p.offers y.toNat a;let k:=h.value*vM g.want;let l:=g.value*vM h.want;let j:=bq.cells (bp.ss p) 27 20 false;(0:Int)<=x/\x<(↑d:Int)/\x.toNat<d/\(0:Int)<=y/\y<(↑d:Int)/\y.toNat<d/\g.want.ok=true/\bX .i64 k/\h.want.ok=true/\bX .i64 l/\True/\(γe .i64 (yb k l)).same (γe .i64 (sK p x y))/\j.same j/\True) (by kernel_rfl) ?_
 simp only[vcs]
 have f:bC p=0:=f
 have e:iq p x:=e
 have c:iq p y:=c
 obtain⟨s,w,q⟩:=Ak f e
 obtain⟨m,A,z⟩:=Ak f c
 obtain⟨o,n⟩:=e
 obtain⟨B,r⟩:=c
 have i:∀{v t:Int},1<=v/\v<=1000000->1<=t/\t<=24-> -9223372036854775808<=v*t/\v*t<=9223372036854775807:=λ{v t} C u=>by
  have a:=Int.mul_nonneg (show 0<=v by omega) (show 0<=t by omega)
  have b:=Int.mul_le_mul C.2 u.2 (by omega) (show(0:Int)<=1000000 by omega)
  omega
 exact⟨o,n,by omega,B,r,by omega,q,i m w,z,i s A,rfl⟩
def p3:bp:=⟨⟨1,1,0,0,0,0⟩,⟨1,1,0,0,0,0⟩,⟨0,0,0,0,0,0⟩,[0,0,0],[⟨0,⟨1,1,0,0,0,0⟩,10⟩,⟨1,⟨1,0,0,0,0,0⟩,6⟩,⟨2,⟨0,1,0,0,0,0⟩,6⟩]⟩
def gm (D:Int->Int) (x y:Int):Bool:=decide (D y<D x)||(decide (D x=D y)&&decide (x<=y))
theorem oW {D:Int->Int} {x y:Int}:gm D x y=true↔D y<D x\/(D x=D y/\x<=y):=by grind[gm]
theorem SH {D:Int->Int} (a b c:Int) (d:gm D a b=true) (e:gm D b c=true):gm D a c=true:=by
 grind[oW]
theorem ab9 {D:Int->Int} (a b:Int):(gm D a b||gm D b a)=true:=by
 grind[oW]
theorem acd {D:Int->Int} {a b:Int} (c:gm D a b=true) (d:gm D b a=true):a=b:=by
 grind[oW]
abbrev iF (D:Int->Int) (l:List Int):Prop:=l.Pairwise λa b=>gm D a b=true
def cZ (D:Int->Int) (l:List Int):List Int:=l.mergeSort (gm D)
theorem rC {D:Int->Int} {l:List Int}:(cZ D l).Perm l:=List.mergeSort_perm _ _
theorem vN {D:Int->Int} {l:List Int}:iF D (cZ D l):=List.pairwise_mergeSort SH ab9 l
theorem nX {D:Int->Int} {l:List Int}:(cZ D l).length=l.length:=rC.length_eq
theorem yc {D:Int->Int} {l:List Int} {x:Int}:x∈cZ D l↔x∈l:=rC.mem_iff
theorem Am {D:Int->Int} {l m:List Int} (e:m.Perm l) (f:iF D m):m=cZ D l:=
 List.Perm.eq_of_pairwise (λa b _ _ c d=>acd c d) f vN (e.trans rC.symm)
theorem JI {D:Int->Int} {l:List Int} (h:iF D l):cZ D l=l:=(Am (ζL _) h).symm
def seg (l:List Int) (a b:Nat):List Int:=(l.drop a).take (b - a)
def df (D:Int->Int) (l:List Int) (a b:Nat):List Int:=l.take a++cZ D (seg l a b)++l.drop b
theorem kH {l:List Int} {a b:Nat} (c:a<=b) (d:b<=l.length):(seg l a b).length=b - a:=by
 grind[seg]
theorem JJ {l:List Int} {a b:Nat} (c:a<=b) (d:b<l.length):seg l a (b+1)=seg l a b++[bj l b 0]:=by
 unfold seg
 rw[show b+1 - a=(b - a)+1 by omega,γ9 (by grind),εb]
 grind[cO]
theorem An {l:List Int} {a:Nat}:seg l a a=[]:=by grind[seg]
theorem yd {D:Int->Int} {l:List Int} {a b:Nat} (c:a<=b) (d:b<=l.length):(df D l a b).length=l.length:=by
 grind[df,nX,kH]
theorem Ea {l:List Int} {i:Nat} (h:i<l.length):l.drop i=bj l i 0::l.drop (i+1):=by
 simp_all[cO]
theorem JK {D:Int->Int} {l:List Int} {a:Nat}:df D l a a=l:=by
 simp_all[df,An,cZ]
theorem ace {D:Int->Int} {l:List Int} {a:Nat} (h:a<l.length):df D l a (a+1)=l:=by
 have e:seg l a (a+1)=[bj l a 0]:=by grind[JJ,An]
 unfold df
 rw[e,JI (by simp),γg]
 simp only[List.singleton_append];rw[<-Ea h,γc]
def jo (D:Int->Int) (l:List Int) (a i j:Nat):List Int:=l.take a++((cZ D (seg l a i)).take (j - a)++bj l i 0::(cZ D (seg l a i)).drop (j - a))++l.drop (i+1)
theorem SI {D:Int->Int} {l:List Int} {a i j:Nat} (b:a<=i) (c:i<l.length):(jo D l a i j).length=l.length:=by
 grind[nX,kH,jo]
theorem SJ {D:Int->Int} {l:List Int} {a i:Nat} (b:a<=i) (c:i<l.length):jo D l a i i=df D l a i:=by
 grind[nX,kH,jo,df,Ea]
theorem acf {A B:List Int} {y x:Int}:((A++y::x::B).set (A.length+1) y).set A.length x=A++x::y::B:=by
 simp_all
theorem SK {A B:List Int} {y:Int}:bj (A++y::B) A.length 0=y:=by grind[bj]
theorem SL {A B:List Int} {y x:Int}:bj (A++y::x::B) (A.length+1) 0=x:=by grind[bj]
theorem acg {D:Int->Int} {l:List Int} {a i k:Nat} (c:a+k+1<=i) (d:i<l.length):
  jo D l a i (a+k+1)=(l.take a++(cZ D (seg l a i)).take k)++bj (cZ D (seg l a i)) k 0::bj l i 0::((cZ D (seg l a i)).drop (k+1)++l.drop (i+1))/\
  jo D l a i (a+k)=(l.take a++(cZ D (seg l a i)).take k)++bj l i 0::bj (cZ D (seg l a i)) k 0::((cZ D (seg l a i)).drop (k+1)++l.drop (i+1))/\
  (l.take a++(cZ D (seg l a i)).take k).length=a+k:=by
 have b:=@nX D (seg l a i)
 rw[kH (by omega) (by omega)] at b
 have e:k<(cZ D (seg l a i)).length:=by omega
 have g:(cZ D (seg l a i)).take (k+1)=(cZ D (seg l a i)).take k++[bj (cZ D (seg l a i)) k 0]:=by simp_all[cO]
 have f:(cZ D (seg l a i)).drop k=bj (cZ D (seg l a i)) k 0::(cZ D (seg l a i)).drop (k+1):=by simp_all[cO]
 grind[jo]
theorem SN {D:Int->Int} {l:List Int} {a i j:Nat} (g:a<j) (f:j<=i) (d:i<l.length):
  bj (jo D l a i j) j 0=bj l i 0/\bj (jo D l a i j) (j - 1) 0=bj (cZ D (seg l a i)) (j - 1 - a) 0/\
  ((jo D l a i j).set j (bj (cZ D (seg l a i)) (j - 1 - a) 0)).set (j - 1) (bj l i 0)=jo D l a i (j - 1):=by
 obtain⟨b,c,e⟩:=@acg D l a i (j - 1 - a) (by omega) d
 rw[show a+(j - 1 - a)+1=j by omega] at b
 rw[show a+(j - 1 - a)=j - 1 by omega] at c e
 rw[b,c]
 generalize l.take a++(cZ D (seg l a i)).take (j - 1 - a)=A at*
 generalize bj (cZ D (seg l a i)) (j - 1 - a) 0=y at*
 generalize bj l i 0=x at*
 grind[SL,SK,acf]
theorem SO {D:Int->Int} {S:List Int} {x:Int} {k:Nat} (n:iF D S) (d:∀s∈S.drop k,gm D x s=true) (b:k=0\/(k<=S.length/\gm D (bj S (k - 1) 0) x=true)):iF D (S.take k++x::S.drop k):=by
 have a:iF D (S.take k++S.drop k):=by simp_all
 obtain⟨g,f,i⟩:=δg.1 a
 have j:∀s∈S.take k,gm D s x=true:=by
  rcases b with rfl|⟨h,b⟩
  ·simp
  ·intro s l
   by_cases m:k=0
   ·simp_all
   have c:k - 1<S.length:=by omega
   have e:S.take k=S.take (k - 1)++[bj S (k - 1) 0]:=by
    conv=>lhs;rw[show k=(k - 1)+1 by omega]
    simp_all[cO]
   grind[SH]
 rw[iF,δg]
 simp_all
theorem ach {S:List Int} {x:Int} {k:Nat}:(S.take k++x::S.drop k).Perm (S++[x]):=by
 refine(ε1).trans ?_
 rw[γc]
 grind
theorem SQ {D:Int->Int} {l:List Int} {a i j:Nat} (k:a<=j) (f:j<=i) (e:i<l.length) (b:∀s∈(cZ D (seg l a i)).drop (j - a),gm D (bj l i 0) s=true) (g:j=a\/gm D (bj (cZ D (seg l a i)) (j - 1 - a) 0) (bj l i 0)=true):
  jo D l a i j=df D l a (i+1):=by
 have c:=@nX D (seg l a i)
 rw[kH (by omega) (by omega)] at c
 have d:iF D ((cZ D (seg l a i)).take (j - a)++bj l i 0::(cZ D (seg l a i)).drop (j - a)):=by
  refine SO vN b ?_
  grind
 have h:((cZ D (seg l a i)).take (j - a)++bj l i 0::(cZ D (seg l a i)).drop (j - a)).Perm (seg l a (i+1)):=by
  rw[JJ (by omega) e]
  exact ach.trans (ζZ rC (ζL _))
 grind[jo,df,Am]
def jq (l:List Int) (a b n:Nat):List Int:=(τ l.length).map λk=>if a<=k/\k<a+n then bj l (k - a+b) 0 else if b<=k/\k<b+n then bj l (k - b+a) 0 else bj l k 0
theorem uj {l:List Int} {a b n:Nat}:(jq l a b n).length=l.length:=by simp[jq]
theorem ye {l:List Int} {a b n k:Nat} (h:k<l.length):bj (jq l a b n) k 0=if a<=k/\k<a+n then bj l (k - a+b) 0 else if b<=k/\k<b+n then bj l (k - b+a) 0 else bj l k 0:=by
 show(((τ l.length).map _)[k]?).getD 0=_
 simp_all
theorem aci {l:List Int} {a b:Nat}:jq l a b 0=l:=by
 apply δb uj
 intro k d c
 have:=@ye l a b 0 k c
 simp_all[cO,if_neg]
theorem SR {l m:List Int} (a:l.length=m.length) (h:∀k,k<l.length->bj l k 0=bj m k 0):l=m:=
 δb a λk b c=>by
  grind[cO]
theorem SS {l:List Int} {i k:Nat} {v:Int} (h:k<l.length):bj (l.set i v) k 0=if i=k then v else bj l k 0:=by
 grind[bj]
theorem acj {l:List Int} {a b n:Nat} (g:a+n<b) (f:b+n<l.length):
  ((jq l a b n).set (a+n) (bj (jq l a b n) (b+n) 0)).set (b+n) (bj (jq l a b n) (a+n) 0)=jq l a b (n+1):=by
 have e:bj (jq l a b n) (a+n) 0=bj l (a+n) 0:=by rw[ye (by omega),if_neg (by omega),if_neg (by omega)]
 have d:bj (jq l a b n) (b+n) 0=bj l (b+n) 0:=by rw[ye (by omega),if_neg (by omega),if_neg (by omega)]
 rw[e,d]
 refine SR (by simp[uj]) λk c=>?_
 simp only[γb,uj] at c
 rw[SS (by grind[uj]),SS (by grind[uj]),ye c,ye c]
 grind
theorem acn {A B:List Int} {k:Nat}:bj (A++B) k 0=if k<A.length then bj A k 0 else bj B (k - A.length) 0:=by
 grind[bj]
theorem JL {A X M Y B:List Int} (h:X.length=Y.length):jq (A++(X++(M++(Y++B)))) A.length (A.length+X.length+M.length) X.length=A++(Y++(M++(X++B))):=by
 refine SR (by simp[uj];omega) λk a=>?_
 rw[uj] at a;rw[ye a];simp only[acn]
 grind
def rotR (l:List Int) (a m b:Nat):List Int:=l.take a++(seg l m b++(seg l a m++l.drop b))
theorem SU {l:List Int} {a m b:Nat} (g:a<=m) (f:m<=b) (e:b<=l.length):l=l.take a++(seg l a m++(seg l m b++l.drop b)):=by
 have d:l.drop a=seg l a m++l.drop m:=by
  have:=γc (m - a) (l.drop a)
  rw[γV,show a+(m - a)=m by omega] at this
  exact this.symm
 have c:l.drop m=seg l m b++l.drop b:=by
  have:=γc (b - m) (l.drop m)
  rw[γV,show m+(b - m)=b by omega] at this
  exact this.symm
 rw[<-c,<-d,γc]
def yf:Nat->List SV->Option (List Int)
 |0,[.fn (.func 127) [] [.ptr 1 0 20]]=>some []
 |k+1,x::r=>match x.int .i64,yf k r with
  |some n,some l=>some (n::l)
  |_,_=>none
 |_,_=>none
theorem SX:∀{k:Nat} {r:List SV} {l:List Int},yf k r=some l->gL r=gL (l.map (γe .i64)++[.fn (.func 127) [] [.ptr 1 0 20]])
 |0,r,l,h=>by
  unfold yf at h;split at h
  ·simp only[γ] at h;subst h;rfl
  ·rename_i h0;cases h0
  ·cases h
 |k+1,[],l,h=>by simp[yf] at h
 |k+1,x::r,l,h=>by
  simp only[yf] at h;split at h
  ·rename_i n l' h1 h2
   simp only[γ] at h;subst h
   simp only[gL,ι,γB,SX h2,gX h1];rfl
  ·cases h
theorem SY:∀{l m:List Int} {z:List SV},l.length=m.length->gL (l.map (γe .i64)++z)=gL (m.map (γe .i64)++z)->l=m
 |[],[],_,_,_=>rfl
 |[],_::_,_,h,_=>by simp at h
 |_::_,[],_,h,_=>by simp at h
 |x::l,y::m,z,hl,h=>by
  simp only[ι,γB,gL,π,SV.g,γZ,Value.int.injEq,true_and] at h
  rw[h.1,SY (by simpa using hl) h.2]
def yg (f:FuncId) (k:Nat) (β:Type) (Ao:β->List Int) (SZ:List Int->Option β) (h0:∀b,(Ao b).length=k) (h1:∀l b,SZ l=some b->l=Ao b) (h2:∀b c,Ao b=Ao c->b=c) (dom:(Nat×List Int×bp)×β->Prop) (out:(Nat×List Int×bp)×β->List Int):cV where
 f:=f
 α:=(Nat×List Int×bp)×β
 put a:=.ow 0 a.1.1 1::((Ao a.2).map (γe .i64)++[.fn (.func 127) [] [.ptr 1 0 20]])
 st a:=[.row (.i .i64) a.1.2.1 3 true,.cells a.1.2.2.ss 27 20 false]
 dec v o:=match v,o with
  | .ow 0 n 1::r,[.row t l 3 true,.cells cs 27 20 false]=>match yf k r,iD t (.i .i64) l,sg cs with
   |some xs,some l,some p=>match SZ xs with
    |some b=>some ((n,l,p),b)
    |none=>none
   |_,_,_=>none
  |_,_=>none
 ok v o a h:=by
  split at h
  ·split at h
   ·rename_i h3 h4 h5
    split at h
    ·rename_i b hb
     simp only[γ] at h;subst h
     obtain⟨rfl,hh⟩:=mW h4
     cases hh
     have:=h1 _ _ hb
     subst this
     refine⟨by simp only[gL,SX h3],?_⟩
     simp only[gO,ι,γs,bq.g,vn h5]
    ·cases h
   ·cases h
  ·cases h
 inj a b e1 e2:=by
  obtain⟨⟨n,l,p⟩,x⟩:=a
  obtain⟨⟨n',l',p'⟩,x'⟩:=b
  simp only[gL,π,SV.g,εO,true_and] at e1;simp only[gO,ι,γs,bq.g,π,bP.cells.injEq,and_true,true_and] at e2
  have h3:p=p':=dG.inj p p' (by simp only[dG,SV.g,e2.2])
  have h4:l=l':=by
   have hf:=congrArg γo e2.1
   rw[fe,fe] at hf
   exact lK (.i .i64) (by simpa[bn.sz] using hf) e2.1
  have h5:x=x':=h2 _ _ (SY (by rw[h0,h0]) e1.2)
  rw[e1.1.1,h3,h4,h5]
 dom:=dom
 res _:=.bH []
 out a:=[.row (.i .i64) (out a) 3 true,.cells a.1.2.2.ss 27 20 false]
abbrev JM:=Nat×List Int×bp
def Ap (b:Int×Int):List Int:=[b.1,b.2]
def JO:List Int->Option (Int×Int)
 |[a,b]=>some (a,b)
 |_=>none
theorem aco:∀l b,JO l=some b->l=Ap b:=λl b h=>by
 unfold JO at h;split at h
 ·simp only[γ] at h;subst h;rfl
 ·cases h
theorem acp:∀b c,Ap b=Ap c->b=c:=λb c h=>by
 unfold Ap at h;simp only[π,and_true] at h
 exact εj h.1 h.2
def vO (b:Int×Int×Int):List Int:=[b.1,b.2.1,b.2.2]
def Aq:List Int->Option (Int×Int×Int)
 |[a,b,c]=>some (a,b,c)
 |_=>none
theorem JP:∀l b,Aq l=some b->l=vO b:=λl b h=>by
 unfold Aq at h;split at h
 ·simp only[γ] at h;subst h;rfl
 ·cases h
theorem JQ:∀b c,vO b=vO c->b=c:=λb c h=>by
 unfold vO at h;simp only[π,and_true] at h
 exact εj h.1 (εj h.2.1 h.2.2)
def uk (a:JM):Prop:=(bC a.2.2=0/\a.1=a.2.1.length)/\a.2.1.length<=1000/\∀x∈a.2.1,iq a.2.2 x
def JR (l:List Int) (a b:Int):Prop:=0<=a/\a<=b/\b<=l.length
theorem sL {l m:List Int} (h:l=m):(bq.row (.i .i64) l 3 true).same (bq.row (.i .i64) m 3 true):=by subst h;rfl
def JS:cV:=yg 236 3 (Int×Int×Int) vO Aq (λ_=>rfl) JP JQ (λa=>a.1.1=a.1.2.1.length/\a.1.2.1.length<=1000/\0<=a.2.1/\0<=a.2.2.2/\a.2.1+a.2.2.2<=a.2.2.1/\a.2.2.1+a.2.2.2<=a.1.2.1.length) λa=>jq a.1.2.1 a.2.1.toNat a.2.2.1.toNat a.2.2.2.toNat
def acr (n:Nat) (l:List Int) (p:bp) (a b k:Int):Nat->cB
 |1=> .inv (Int×List Int) (λx=>⟨[(0,.ow 0 n 1),(1,.si .i64 a),(2,.si .i64 b),(3,.si .i64 k),(10,.si .i64 x.1)],[.row (.i .i64) x.2 3 true,.cells p.ss 27 20 false]⟩) (λs=>(iS s 10,oS (.i .i64) s 0))
   (λx=>(0<=x.1/\x.1<=k)/\x.2=jq l a.toNat b.toNat x.1.toNat) (λx=>(k - x.1).toNat) λ_ _=> .look
 |_=> .look
theorem h363:dK Tryz.prog JS:=by
 refine jk (L:=[]) (W:=[]) JS (λa=>acr a.1.1 a.1.2.1 a.1.2.2 a.2.1 a.2.2.1 a.2.2.2) (by simp) (by simp) ?_
 rintro⟨⟨n,l,p⟩,a,b,k⟩ ⟨hn,hl,a0,k0,h1,h2⟩
 refine bR (let c:=γe .i64;let d:=(0:Int);let e:=bX .i64;let f:=bq.row;let q:=γ8 0 n 1;let m:=bn.i .i64;let t:=f m l 3 true;let h:=bq.cells [c p.supply.a0,c p.supply.a1,c p.supply.a2,c p.supply.a3,c p.supply.a4,c p.supply.a5,c p.opn.a0,c p.opn.a1,c p.opn.a2,c p.opn.a3,c p.opn.a4,c p.opn.a5,c p.cls.a0,c p.cls.a1,c p.cls.a2,c p.cls.a3,c p.cls.a4,c p.cls.a5,Φ m p.classes,Φ bn.off p.offers] 27 20 false;(((q.same q/\(c a).same (c a)/\(c b).same (c b)/\(c k).same (c k)/\(γq .i64 0).same (c 0)/\True)/\t.same t/\h.same h/\True)/\(d<=d/\d<=k)/\l=jq l a.toNat b.toNat 0)/\∀(x:Int×List Int),let g:=x.snd.length;let r:=(b+x.fst).toNat;let s:=(a+x.fst).toNat;let o:=x.snd.set s (bj x.snd r d);let j:=x.fst+(1:Int);let u:=c j;let v:=o.set r (bj x.snd s d);let w:=f m v 3 true;(d<=x.fst/\x.fst<=k)/\x.snd=jq l a.toNat b.toNat x.fst.toNat->(decide (x.fst<k)=true->e (a+x.fst)/\e (b+x.fst)/\e (b+x.fst)/\n=g/\d<=b+x.fst/\b+x.fst<(↑g:Int)/\n=g/\r<g/\e (a+x.fst)/\n=g/\d<=a+x.fst/\a+x.fst<(↑g:Int)/\n=g/\s<g/\n=g/\d<=a+x.fst/\a+x.fst<(↑g:Int)/\n=g/\s<g/\n=o.length/\d<=b+x.fst/\b+x.fst<(↑o.length:Int)/\n=o.length/\r<o.length/\e j/\((q.same q/\(c a).same (c a)/\(c b).same (c b)/\(c k).same (c k)/\u.same u/\True)/\w.same w/\h.same h/\True)/\((d<=j/\j<=k)/\v=jq l a.toNat b.toNat j.toNat)/\(k - j).toNat<(k - x.fst).toNat)/\(decide (x.fst<k)=false->(SV.bH []).same (SV.bH [])/\(f m x.snd 3 true).same (f m (jq l a.toNat b.toNat k.toNat) 3 true)/\h.same h/\True)) (by kernel_rfl) ?_
 simp only[vcs]
 have hn:n=l.length:=hn
 have hl:l.length<=1000:=hl
 have a0:0<=a:=a0
 have k0:0<=k:=k0
 have h1:a+k<=b:=h1
 have h2:b+k<=l.length:=h2
 refine⟨⟨⟨by omega,by omega⟩,aci.symm⟩,?_⟩
 rintro⟨i,m⟩ ⟨⟨i0,i1⟩,hm⟩
 simp only at i0 i1 hm ⊢
 have hml:m.length=l.length:=by rw[hm,uj]
 have e:(i+1).toNat=i.toNat+1:=by omega
 have ea:(a+i).toNat=a.toNat+i.toNat:=by omega
 have eb:(b+i).toNat=b.toNat+i.toNat:=by omega
 simp only[γb,hml]
 refine⟨λhi=>?_,λhi=>sL ?_⟩
 ·have hs:=@acj l a.toNat b.toNat i.toNat (by omega) (by omega)
  rw[<-hm] at hs;rw[e,ea,eb,hs]
  repeat' refine γj ?_ ?_
  all_goals first|omega|rfl
 ·rw[hm,show i=k by omega]
def JU:cV:=yg 199 2 (Int×Int) Ap JO (λ_=>rfl) aco acp (λa=>uk a.1/\JR a.1.2.1 a.2.1 a.2.2/\(seg a.1.2.1 a.2.1.toNat a.2.2.toNat).Pairwise (·<·)) λa=>df (bL a.1.2.2) a.1.2.1 a.2.1.toNat a.2.2.toNat
def acs (n:Nat) (l:List Int) (p:bp) (a b:Int):Nat->cB
 |1=> .inv (Int×List Int) (λx=>⟨[(0,.ow 0 n 1),(1,.si .i64 a),(2,.si .i64 b),(3,.fn (.func 127) [] [.ptr 1 0 20]),(8,.si .i64 x.1)],[.row (.i .i64) x.2 3 true,.cells p.ss 27 20 false]⟩) (λs=>(iS s 8,oS (.i .i64) s 0))
   (λx=>(a<x.1/\(x.1<=b\/x.1=a+1))/\x.2=df (bL p) l a.toNat (if a<b then x.1 else a).toNat) (λx=>(b - x.1).toNat) λx k=>match k with
    |4=> .inv (Int×List Int) (λy=>⟨[(0,.ow 0 n 1),(1,.si .i64 a),(2,.si .i64 b),(3,.fn (.func 127) [] [.ptr 1 0 20]),(8,.si .i64 x.1),(9,.si .i64 y.1)],[.row (.i .i64) y.2 3 true,.cells p.ss 27 20 false]⟩) (λs=>(iS s 9,oS (.i .i64) s 0))
      (λy=>(a<=y.1/\y.1<=x.1)/\y.2=jo (bL p) l a.toNat x.1.toNat y.1.toNat/\∀s∈(cZ (bL p) (seg l a.toNat x.1.toNat)).drop (y.1 - a).toNat,gm (bL p) (bj l x.1.toNat 0) s=true) (λy=>(y.1 - a).toNat) λ_ _=> .look
    |_=> .look
 |_=> .look
theorem h343:dK Tryz.prog JU:=by
 refine jk (L:=[]) (W:=[D9]) JU (λa=>acs a.1.1 a.1.2.1 a.1.2.2 a.2.1 a.2.2) (by simpa using h320) (by simp) ?_
 rintro⟨⟨n,l,p⟩,a,b⟩ ⟨⟨⟨hc,hn⟩,hl,ho⟩,⟨a0,a1,a2⟩,hi⟩
 refine bR (let c:=γe .i64;let d:=(0:Int);let e:=bX .i64;let f:=bq.row;let g:=(1:Int);let m:=a+g;let o:=γ8 0 n 1;let q:=SV.fn (Fn.func 127) [] [γW 1 0 20];let E:=c m;let w:=bn.i .i64;let F:=f w l 3 true;let k:=bq.cells [c p.supply.a0,c p.supply.a1,c p.supply.a2,c p.supply.a3,c p.supply.a4,c p.supply.a5,c p.opn.a0,c p.opn.a1,c p.opn.a2,c p.opn.a3,c p.opn.a4,c p.opn.a5,c p.cls.a0,c p.cls.a1,c p.cls.a2,c p.cls.a3,c p.cls.a4,c p.cls.a5,Φ w p.classes,Φ bn.off p.offers] 27 20 false;e m/\(((o.same o/\(c a).same (c a)/\(c b).same (c b)/\q.same q/\E.same E/\True)/\F.same F/\k.same k/\True)/\(a<m/\(m<=b\/m=m))/\l=df (bL p) l a.toNat (if a<b then m else a).toNat)/\∀(x:Int×List Int),let y:=c x.fst;let B:=f w x.snd 3 true;let r:=x.fst.toNat;let C:=cZ (bL p) (seg l a.toNat r);let t:=x.fst+g;let G:=c t;let N:=df (bL p) l a.toNat (if a<b then t else a).toNat;(a<x.fst/\(x.fst<=b\/x.fst=m))/\x.snd=df (bL p) l a.toNat (if a<b then x.fst else a).toNat->(decide (x.fst<b)=true->(((o.same o/\(c a).same (c a)/\(c b).same (c b)/\q.same q/\y.same y/\y.same y/\True)/\B.same B/\k.same k/\True)/\(a<=x.fst/\x.fst<=x.fst)/\x.snd=jo (bL p) l a.toNat r r/\∀(s:Int),s∈δi (x.fst - a).toNat C->gm (bL p) (bj l r d) s=true)/\∀(x_1:Int×List Int),let H:=f w x_1.snd 3 true;let v:=x_1.fst.toNat;let D:=bj x_1.snd v d;let j:=x_1.fst - g;let z:=j.toNat;let A:=bj x_1.snd z d;let h:=x_1.snd.length;let z23:Nat:=(x_1.snd.set v A).length;let I:=c j;let J:=(x_1.snd.set v A).set z D;let K:=f w J 3 true;let L:=e t/\((o.same o/\(c a).same (c a)/\(c b).same (c b)/\q.same q/\G.same G/\True)/\H.same H/\k.same k/\True)/\((a<t/\(t<=b\/t=m))/\x_1.snd=N)/\(b - t).toNat<(b - x.fst).toNat;let M:=λ(u:Bool) ↦decide (sK p D A<d)=u;((a<=x_1.fst/\x_1.fst<=x.fst)/\x_1.snd=jo (bL p) l a.toNat r v/\∀(s:Int),s∈δi (x_1.fst - a).toNat C->gm (bL p) (bj l r d) s=true)->(decide (a<x_1.fst)=true->n=h/\d<=x_1.fst/\x_1.fst<(↑h:Int)/\n=h/\v<h/\e j/\n=h/\d<=j/\j<(↑h:Int)/\n=h/\z<h/\(bC p=d/\iq p D/\iq p A)/\(M true->e j/\e j/\n=h/\d<=j/\j<(↑h:Int)/\n=h/\z<h/\n=h/\d<=x_1.fst/\x_1.fst<(↑h:Int)/\n=h/\v<h/\n=h/\d<=x_1.fst/\x_1.fst<(↑h:Int)/\n=h/\v<h/\n=z23/\d<=j/\j<(↑z23:Int)/\n=z23/\z<z23/\e j/\((o.same o/\(c a).same (c a)/\(c b).same (c b)/\q.same q/\y.same y/\I.same I/\True)/\K.same K/\k.same k/\True)/\((a<=j/\j<=x.fst)/\J=jo (bL p) l a.toNat r z/\∀(s:Int),s∈δi (j - a).toNat C->gm (bL p) (bj l r d) s=true)/\(j - a).toNat<(x_1.fst - a).toNat)/\(M false->L))/\(decide (a<x_1.fst)=false->L))/\(decide (x.fst<b)=false->(SV.bH []).same (SV.bH [])/\B.same (f w (df (bL p) l a.toNat b.toNat) 3 true)/\k.same k/\True)) (by kernel_rfl) ?_
 simp only[vcs]
 have hc:bC p=0:=hc
 have hn:n=l.length:=hn
 have hl:l.length<=1000:=hl
 have ho:∀x∈l,iq p x:=ho
 have a0:0<=a:=a0
 have a1:a<=b:=a1
 have a2:b<=l.length:=a2
 have hi:(seg l a.toNat b.toNat).Pairwise (·<·):=hi
 generalize hD:bL p=D at*
 have sl:∀{i:Int},a<=i->i<=b->(df D l a.toNat i.toNat).length=l.length:=λh1 h2=>yd (by omega) (by omega)
 refine⟨by omega,⟨⟨by omega,.inr trivial⟩,?_⟩,?_⟩
 ·by_cases hab:a<b
  ·rw[if_pos hab,show(a+1).toNat=a.toNat+1 by omega,ace (by omega)]
  ·rw[if_neg hab,JK]
 rintro⟨i,m⟩ ⟨⟨i0,i1⟩,hm⟩
 simp only at i0 i1 hm ⊢
 refine⟨λhib=>?_,λhib=>sL ?_⟩
 ·rw[if_pos (by omega)] at hm
  have hx:=ho _ (de (d:=(0:Int)) (show i.toNat<l.length by omega))
  have hS:∀s∈cZ D (seg l a.toNat i.toNat),s<bj l i.toNat 0/\iq p s:=λs hs=>by
   have h1:=yc.1 hs
   have h2:(seg l a.toNat (i.toNat+1)).Pairwise (·<·):=by
    refine hi.sublist ?_
    unfold seg
    exact List.take_sublist_take_left (by omega)
   rw[JJ (by omega) (by omega)] at h2
   refine⟨(δg.1 h2).2.2 s h1 _ (by simp),ho s ?_⟩
   unfold seg at h1
   exact γL (γm h1)
  have hSl:(cZ D (seg l a.toNat i.toNat)).length=i.toNat - a.toNat:=by rw[nX,kH (by omega) (by omega)]
  have il:∀{j:Nat},(jo D l a.toNat i.toNat j).length=l.length:=λ{j}=>SI (by omega) (by omega)
  refine⟨⟨⟨by omega,by omega⟩,?_,?_⟩,?_⟩
  ·rw[hm,SJ (by omega) (by omega)]
  ·intro s hs
   rw[List.drop_of_length_le (by omega)] at hs
   simp at hs
  rintro⟨j,m2⟩ ⟨⟨j0,j1⟩,hm2,hle⟩
  simp only at j0 j1 hm2 hle ⊢
  subst hm2;simp only[γb,il]
  have fin:(j=a\/gm D (bj (cZ D (seg l a.toNat i.toNat)) (j.toNat - 1 - a.toNat) 0) (bj l i.toNat 0)=true)->jo D l a.toNat i.toNat j.toNat=df D l a.toNat (if a<b then i+1 else a).toNat:=λh=>by
   rw[if_pos (by omega),show(i+1).toNat=i.toNat+1 by omega]
   refine SQ (by omega) (by omega) (by omega) ?_ ?_
   ·rw[show j.toNat - a.toNat=(j - a).toNat by omega];exact hle
   ·rcases h with h|h
    ·exact .inl (by omega)
    ·exact .inr h
  refine⟨λhj=>?_,λhj=>?_⟩
  ·obtain⟨k1,k2,k3⟩:=@SN D l a.toNat i.toNat j.toNat (by omega) (by omega) (by omega)
   have ej:(j - 1).toNat=j.toNat - 1:=by omega
   rw[ej,k1,k2,k3]
   have hs:=de (d:=(0:Int)) (show j.toNat - 1 - a.toNat<(cZ D (seg l a.toNat i.toNat)).length by omega)
   obtain⟨s1,s2⟩:=hS _ hs
   have hcmp:=SG hc hx s2
   rw[hD] at hcmp;rw[hcmp]
   refine⟨by omega,by omega,by omega,by omega,by omega,by omega,by omega,by omega,by omega,by omega,by omega,⟨hc,hx,s2⟩,λh1=>?_,λh1=>?_⟩
   ·repeat' refine γj ?_ ?_
    all_goals first|omega|rfl|skip
    intro s hs2
    rw[show(j - 1 - a).toNat=j.toNat - 1 - a.toNat by omega,δh (show j.toNat - 1 - a.toNat<(cZ D (seg l a.toNat i.toNat)).length by omega)] at hs2
    rcases List.mem_cons.1 hs2 with rfl|hs2
    ·rw[<-cO (d:=(0:Int))]
     exact oW.2 (.inl h1)
    ·refine hle s ?_
     rw[show(j - a).toNat=j.toNat - 1 - a.toNat+1 by omega]
     exact hs2
   ·have:=fin (.inr (oW.2 (by omega)))
    repeat' refine γj ?_ ?_
    all_goals first|omega|exact this|rfl
  ·have:=fin (.inl (by omega))
   repeat' refine γj ?_ ?_
   all_goals first|omega|exact this|rfl
 ·rw[hm]
  by_cases hab:a<b
  ·rw[if_pos hab,show i=b by omega]
  ·rw[if_neg hab,show a=b by omega]
theorem jr {l:List Int} {a b:Nat} (h1:a<=b):l.drop a=seg l a b++l.drop b:=by
 have:=γc (b - a) (l.drop a)
 rw[γV,show a+(b - a)=b by omega] at this
 exact this.symm
theorem sM {P Q R:List Int} {a b:Nat} (ha:a=P.length) (hb:b=P.length+Q.length):seg (P++(Q++R)) a b=Q:=by
 subst ha;subst hb;unfold seg
 rw[List.drop_left,show P.length+Q.length - P.length=Q.length by omega,List.take_left]
theorem JV {D:Int->Int} {P Q R:List Int} {a b:Nat} (ha:a=P.length) (hb:b=P.length+Q.length):df D (P++(Q++R)) a b=P++(cZ D Q++R):=by
 have h:=@sM P Q R a b ha hb
 unfold df;rw[h,ha,hb,List.take_left]
 have:(P++(Q++R)).drop (P.length+Q.length)=R:=by rw[<-γg,<-ν,List.drop_left]
 rw[this]
 simp
theorem yh {l:List Int} {a b:Nat} {x:Int}:x∈seg l a b↔∃k,a<=k/\k<b/\k<l.length/\bj l k 0=x:=by
 unfold seg
 constructor
 ·intro h
  obtain⟨j,hj,rfl⟩:=List.getElem_of_mem h
  simp only[Ξ,γH] at hj
  refine⟨a+j,by omega,by omega,by omega,?_⟩
  rw[εQ,εb,cO (show a+j<l.length by omega)]
 ·rintro⟨k,h1,h2,h3,rfl⟩
  have hj:k - a<((l.drop a).take (b - a)).length:=by simp only[Ξ,γH];omega
  have:((l.drop a).take (b - a))[k - a]=bj l k 0:=by
   rw[εQ,εb,cO h3]
   congr 1
   omega
  rw[<-this]
  exact List.getElem_mem hj
theorem acu {D:Int->Int} {l:List Int} {a b:Nat} (h:iF D (seg l a b)) {i j:Nat} (h1:a<=i) (h2:i<j) (h3:j<b) (h4:b<=l.length):gm D (bj l i 0) (bj l j 0)=true:=by
 have hl:=kH (l:=l) (show a<=b by omega) h4
 have:=List.pairwise_iff_getElem.1 h (i - a) (j - a) (by omega) (by omega) (by omega)
 have e1:(seg l a b)[i - a]'(by omega)=bj l i 0:=by
  unfold seg
  rw[εQ,εb,cO (show i<l.length by omega)]
  congr 1
  omega
 have e2:(seg l a b)[j - a]'(by omega)=bj l j 0:=by
  unfold seg
  rw[εQ,εb,cO (show j<l.length by omega)]
  congr 1
  omega
 rwa [e1,e2] at this
theorem Eb {D:Int->Int} {x y:Int} (h:gm D x y=true):D y<=D x:=by rw[oW] at h;omega
theorem acv {D:Int->Int} {x:Int}:gm D x x=true:=oW.2 (by omega)
theorem Ec {D:Int->Int} {l:List Int} {a b:Nat} (h:iF D (seg l a b)) {i j:Nat} (h1:a<=i) (h2:i<=j) (h3:j<b) (h4:b<=l.length):gm D (bj l i 0) (bj l j 0)=true:=by
 by_cases hij:i=j
 ·subst hij;exact acv
 ·exact acu h h1 (by omega) h3 h4
theorem um {l:List Int} {a b c d:Nat} (h1:a<=c) (h2:d<=b):(seg l c d).Sublist (seg l a b):=by
 by_cases hcd:c<=d
 ·by_cases hb:d<=l.length
  ·have e:seg l a b=seg l a c++(seg l c d++(seg (l.take b) d b)):=by
    apply δF (bs:=l.drop b)
    have e1:=jr (l:=l) (show a<=b by omega)
    have e2:=jr (l:=l) (show a<=c by omega)
    have e3:=jr (l:=l) hcd
    have e4:=jr (l:=l) (show d<=b by omega)
    have e5:seg (l.take b) d b=seg l d b:=by
     unfold seg;rw[List.drop_take,List.take_take]
     congr 1
     omega
    rw[<-e1,e2,e3,e4,e5]
    simp
   rw[e]
   exact(List.sublist_append_left _ _).trans (ζk _ _)
  ·have e:seg l c d=l.drop c:=by unfold seg;exact γn (by rw[γH];omega)
   have e2:seg l a b=l.drop a:=by unfold seg;exact γn (by rw[γH];omega)
   rw[e,e2,jr (l:=l) h1]
   exact ζk _ _
 ·have:seg l c d=[]:=by unfold seg;rw[show d - c=0 by omega];simp
  rw[this]
  exact List.nil_sublist _
theorem S0 {l:List Int} {a m b:Nat} (h1:a<=m) (h2:m<=b) (h3:b<=l.length):(rotR l a m b).length=l.length:=by
 unfold rotR
 simp only[ν,Ξ,γH,kH h1 (show m<=l.length by omega),kH h2 h3]
 omega
theorem JW {l:List Int} {a b:Nat} {x:Int} (h:x∈seg l a b):x∈l:=by
 unfold seg at h
 exact γL (γm h)
theorem acw {l:List Int} {a m b:Nat} {x:Int} (h:x∈rotR l a m b):x∈l:=by
 unfold rotR at h;simp only[ω] at h
 rcases h with h|h|h|h
 ·exact γm h
 ·exact JW h
 ·exact JW h
 ·exact γL h
theorem Ar {D:Int->Int} {l:List Int} {a b:Nat} {x:Int} (h:x∈df D l a b):x∈l:=by
 unfold df at h;simp only[ω] at h
 rcases h with(h|h)|h
 ·exact γm h
 ·exact JW (yc.1 h)
 ·exact γL h
theorem acy {l:List Int} {a m b:Nat} (h1:a<=m) (h2:m<=b) (h3:b<=l.length) (h:a=m\/m=b):rotR l a m b=l:=by
 have:=SU h1 h2 h3
 conv=>rhs;rw[this]
 unfold rotR
 rcases h with rfl|rfl
 ·rw[An];simp
 ·rw[An];simp
theorem JX {D:Int->Int} {l:List Int} {a b:Nat} (h1:a<=b) (h:iF D (seg l a b)):df D l a b=l:=by
 unfold df;rw[JI h,γg,<-jr h1,γc]
theorem acz {D:Int->Int} {l:List Int} {a s m e b mid:Nat} (h1:a<=s) (h2:s<=m) (h3:m<=e) (h4:e<=b) (h5:b<=l.length) (hmid:mid=s+(e - m)) (hL:iF D (seg l a m)) (hR:iF D (seg l m b))
  (H1:∀x∈seg l a s,∀y∈seg l e b,gm D x y=true) (H2:∀x∈seg l m e,∀y∈seg l s m,gm D x y=true):
  (seg (rotR l s m e) a s=seg l a s/\seg (rotR l s m e) s mid=seg l m e/\seg (rotR l s m e) a mid=seg l a s++seg l m e)/\
  (seg (df D (rotR l s m e) a mid) mid e=seg l s m/\seg (df D (rotR l s m e) a mid) e b=seg l e b/\seg (df D (rotR l s m e) a mid) mid b=seg l s m++seg l e b)/\
  df D (df D (rotR l s m e) a mid) mid b=df D l a b:=by
 have la:(l.take a).length=a:=by rw[Ξ];omega
 have l1:=kH (l:=l) h1 (show s<=l.length by omega)
 have l2:=kH (l:=l) h2 (show m<=l.length by omega)
 have l3:=kH (l:=l) h3 (show e<=l.length by omega)
 have l4:=kH (l:=l) h4 h5
 have hsp:l=l.take a++(seg l a s++(seg l s m++(seg l m e++(seg l e b++l.drop b)))):=by
  rw[<-jr h4,<-jr h3,<-jr h2,<-jr h1,γc]
 have hts:l.take s=l.take a++seg l a s:=by
  conv=>lhs;rw[hsp]
  rw[<-γg]
  exact List.take_left' (by rw[ν,la,l1];omega)
 have acA:rotR l s m e=l.take a++(seg l a s++(seg l m e++(seg l s m++(seg l e b++l.drop b)))):=by
  unfold rotR;rw[hts,jr h4]
  simp
 have S1:seg l a m=seg l a s++seg l s m:=by
  have:=jr (l:=l) (show a<=m by omega)
  rw[jr h1,jr h2,<-γg] at this
  exact(δF this).symm
 have hRR:seg l m b=seg l m e++seg l e b:=by
  have:=jr (l:=l) (show m<=b by omega)
  rw[jr h3,jr h4,<-γg] at this
  exact(δF this).symm
 have hWh:seg l a b=seg l a s++(seg l s m++(seg l m e++seg l e b)):=by
  have:=jr (l:=l) (show a<=b by omega)
  rw[jr (show a<=m by omega),jr (show m<=b by omega),<-γg] at this
  rw[<-δF this,S1,hRR]
  simp
 have hsr:df D l a b=l.take a++cZ D (seg l a b)++l.drop b:=rfl
 rw[acA,hsr,hWh];rw[S1,iF,δg] at hL;rw[hRR,iF,δg] at hR
 generalize l.take a=A at*
 generalize seg l a s=X1 at*
 generalize seg l s m=X2 at*
 generalize seg l m e=Y1 at*
 generalize seg l e b=Y2 at*
 generalize l.drop b=Z at*
 have hs1:A++(X1++(Y1++(X2++(Y2++Z))))=A++((X1++Y1)++(X2++(Y2++Z))):=by simp
 have g1:df D (A++(X1++(Y1++(X2++(Y2++Z))))) a mid=A++(cZ D (X1++Y1)++(X2++(Y2++Z))):=by
  rw[hs1]
  exact JV (by omega) (by rw[ν];omega)
 have hs2:A++(cZ D (X1++Y1)++(X2++(Y2++Z)))=(A++cZ D (X1++Y1))++((X2++Y2)++Z):=by simp
 have lS:(cZ D (X1++Y1)).length=X1.length+Y1.length:=by rw[nX,ν]
 refine⟨⟨sM (by omega) (by omega),?_,?_⟩,⟨?_,?_,?_⟩,?_⟩
 ·rw[<-γg]
  exact sM (by rw[ν];omega) (by rw[ν];omega)
 ·rw[hs1]
  exact sM (by omega) (by rw[ν];omega)
 ·rw[g1,<-γg]
  exact sM (by rw[ν,lS];omega) (by rw[ν,lS];omega)
 ·rw[g1,<-γg,<-γg]
  exact sM (by rw[ν,ν,lS];omega) (by rw[ν,ν,lS];omega)
 ·rw[g1,hs2]
  exact sM (by rw[ν,lS];omega) (by rw[ν,ν,lS];omega)
 ·rw[g1,hs2,JV (by rw[ν,lS];omega) (by rw[ν,ν,lS];omega)]
  have:cZ D (X1++Y1)++cZ D (X2++Y2)=cZ D (X1++(X2++(Y1++Y2))):=by
   refine Am ?_ ?_
   ·refine(ζZ rC rC).trans ?_
    rw[γg]
    refine List.Perm.append_left X1 ?_
    rw[<-γg,<-γg]
    exact List.Perm.append_right Y2 List.perm_append_comm
   ·rw[iF,δg]
    refine⟨vN,vN,λx hx y hy=>?_⟩
    have hx:=yc.1 hx
    have hy:=yc.1 hy
    rcases ω.1 hx with hx|hx
    ·rcases ω.1 hy with hy|hy
     ·exact hL.2.2 x hx y hy
     ·exact H1 x hx y hy
    ·rcases ω.1 hy with hy|hy
     ·exact H2 x hx y hy
     ·exact hR.2.2 x hx y hy
  rw[<-this]
  simp
theorem acB {A X Y B:List Int} {i j:Nat} (hi:X.length=i) (hj:Y.length=j) (h:j<i) {m:Nat} (hm:A.length+i=m):
  jq (A++(X++(Y++B))) (m - i) m j=(A++Y)++(X.drop j++(X.take j++B)):=by
 have e:A++(X++(Y++B))=A++(X.take j++(X.drop j++(Y++B))):=by
  rw[<-γg (X.take j),γc]
 have lt:(X.take j).length=j:=by rw[Ξ];omega
 have ld:(X.drop j).length=i - j:=by rw[γH];omega
 have hs:=@JL A (X.take j) (X.drop j) Y B (by omega)
 rw[lt,ld,show A.length+j+(i - j)=m by omega] at hs
 rw[e,show m - i=A.length by omega,hs]
 simp
theorem acC {A X Y B:List Int} {i j:Nat} (hi:X.length=i) (hj:Y.length=j) (h:i<j) {m:Nat} (hm:A.length+i=m):
  jq (A++(X++(Y++B))) (m - i) (m+j - i) i=A++(Y.drop (j - i)++(Y.take (j - i)++(X++B))):=by
 have e:A++(X++(Y++B))=A++(X++(Y.take (j - i)++(Y.drop (j - i)++B))):=by
  rw[<-γg (Y.take (j - i)),γc]
 have lt:(Y.take (j - i)).length=j - i:=by rw[Ξ];omega
 have ld:(Y.drop (j - i)).length=i:=by rw[γH];omega
 have hs:=@JL A X (Y.take (j - i)) (Y.drop (j - i)) B (by omega)
 rw[hi,lt,show A.length+i+(j - i)=m+j - i by omega] at hs
 rw[e,show m - i=A.length by omega,hs]
theorem acD {A X Y B:List Int} {i:Nat} (hi:X.length=i) (hj:Y.length=i) {m:Nat} (hm:A.length+i=m):
  jq (A++(X++(Y++B))) (m - i) m i=A++(Y++(X++B)):=by
 have hs:=@JL A X [] Y B (by omega)
 simp only[δp,List.length_nil,Nat.add_zero] at hs;rw[hi,hm] at hs
 rw[show m - i=A.length by omega,hs]
theorem JY {l:List Int} {a b k:Nat} (h:k<(seg l a b).length):(seg l a b)[k]=bj l (a+k) 0:=by
 have h2:bj (seg l a b) k 0=bj l (a+k) 0:=by
  have h3:k<b - a:=by
   unfold seg at h;rw[Ξ] at h;omega
  unfold seg bj;rw[List.getElem?_take,if_pos h3,List.getElem?_drop]
 rwa [cO h] at h2
def lW (l:List Int) (a b c:Nat):List Int:=l.take a++((seg l (a+1) b).take c++bj l a 0::((seg l (a+1) b).drop c++l.drop b))
theorem acE {l:List Int} {a b:Nat} (h1:a<b) (h2:b<=l.length):lW l a b 0=l:=by
 unfold lW
 rw[εS,List.drop_zero,δp,<-jr (by omega),<-Ea (by omega),γc]
theorem acF {l:List Int} {a b c:Nat} (h1:a<b) (h2:b<=l.length):(lW l a b c).length=l.length:=by
 have:=kH (l:=l) (show a+1<=b by omega) h2
 unfold lW;simp only[ν,List.length_cons,Ξ,γH,this];omega
theorem acG {l:List Int} {a b c:Nat} (h1:a+1+c<b) (h2:b<=l.length):
  bj (lW l a b c) (a+c) 0=bj l a 0/\bj (lW l a b c) (a+c+1) 0=bj l (a+1+c) 0/\((lW l a b c).set (a+c) (bj l (a+1+c) 0)).set (a+c+1) (bj l a 0)=lW l a b (c+1):=by
 have hl:=kH (l:=l) (show a+1<=b by omega) h2
 have hc:c<(seg l (a+1) b).length:=by omega
 have hy:(seg l (a+1) b)[c]=bj l (a+1+c) 0:=JY hc
 have t1:(seg l (a+1) b).take (c+1)=(seg l (a+1) b).take c++[bj l (a+1+c) 0]:=by rw[γ9 hc,hy]
 have t2:(seg l (a+1) b).drop c=bj l (a+1+c) 0::(seg l (a+1) b).drop (c+1):=by rw[δh hc,hy]
 have f1:lW l a b c=(l.take a++(seg l (a+1) b).take c)++bj l a 0::bj l (a+1+c) 0::((seg l (a+1) b).drop (c+1)++l.drop b):=by
  unfold lW;rw[t2]
  simp
 have f2:lW l a b (c+1)=(l.take a++(seg l (a+1) b).take c)++bj l (a+1+c) 0::bj l a 0::((seg l (a+1) b).drop (c+1)++l.drop b):=by
  unfold lW;rw[t1]
  simp
 have f3:(l.take a++(seg l (a+1) b).take c).length=a+c:=by
  rw[ν,Ξ,Ξ];omega
 rw[f1,f2]
 generalize l.take a++(seg l (a+1) b).take c=A at*
 generalize (seg l (a+1) b).drop (c+1)++l.drop b=B at*
 generalize bj l a 0=x at*
 generalize bj l (a+1+c) 0=y at*
 rw[<-f3]
 refine⟨SK,SL,?_⟩
 rw[εq _ _ (by omega),εq _ _ (by omega)]
 simp
theorem acH {D:Int->Int} {l:List Int} {a b c:Nat} (h1:a+1+c<=b) (h2:b<=l.length) (hT:iF D (seg l (a+1) b)) (h3:∀s∈(seg l (a+1) b).drop c,gm D (bj l a 0) s=true) (h4:c=0\/gm D (bj l (a+c) 0) (bj l a 0)=true):lW l a b c=df D l a b:=by
 have hl:=kH (l:=l) (show a+1<=b by omega) h2
 have key:iF D ((seg l (a+1) b).take c++bj l a 0::(seg l (a+1) b).drop c):=by
  refine SO hT h3 ?_
  rcases h4 with rfl|h4
  ·exact .inl rfl
  ·by_cases hc:c=0
   ·exact .inl hc
   ·refine .inr ⟨by omega,?_⟩
    have:bj (seg l (a+1) b) (c - 1) 0=bj l (a+c) 0:=by
     rw[cO (show c - 1<(seg l (a+1) b).length by omega),JY]
     congr 1
     omega
    rw[this];exact h4
 have hs:seg l a b=bj l a 0::seg l (a+1) b:=by
  have e1:=jr (l:=l) (show a<=b by omega)
  rw[Ea (show a<l.length by omega),jr (show a+1<=b by omega),<-γB] at e1
  exact(δF e1).symm
 have hp:((seg l (a+1) b).take c++bj l a 0::(seg l (a+1) b).drop c).Perm (seg l a b):=by
  rw[hs]
  refine ε1.trans ?_
  rw[γc]
 unfold lW df;rw[<-Am hp key]
 simp
def JZ:cV:=yg 224 3 (Int×Int×Int) vO Aq (λ_=>rfl) JP JQ (λa=>a.1.1=a.1.2.1.length/\a.1.2.1.length<=1000/\0<=a.2.1/\a.2.1<a.2.2.1/\a.2.2.1<a.2.2.2/\a.2.2.2<=a.1.2.1.length) λa=>rotR a.1.2.1 a.2.1.toNat a.2.2.1.toNat a.2.2.2.toNat
def acI (n:Nat) (l:List Int) (p:bp) (a m b:Int):Nat->cB
 |2=> .inv (Int×Int×List Int) (λx=>⟨[(0,.ow 0 n 1),(2,.si .i64 m),(4,.fn (.func 127) [] [.ptr 1 0 20]),(10,.si .i64 x.1),(11,.si .i64 x.2.1)],[.row (.i .i64) x.2.2 3 true,.cells p.ss 27 20 false]⟩) (λs=>(iS s 10,iS s 11,oS (.i .i64) s 0))
   (λx=>(0<x.1/\0<x.2.1)/\∃A X Y B:List Int,x.2.2=A++(X++(Y++B))/\(A.length:Int)+x.1=m/\(X.length:Int)=x.1/\(Y.length:Int)=x.2.1/\A++(Y++(X++B))=rotR l a.toNat m.toNat b.toNat) (λx=>(x.1+x.2.1).toNat) λ_ _=> .look
 |_=> .look
theorem h351:dK Tryz.prog JZ:=by
 refine jk (L:=[]) (W:=[JS]) JZ (λa=>acI a.1.1 a.1.2.1 a.1.2.2 a.2.1 a.2.2.1 a.2.2.2) (by simpa using h363) (by simp) ?_
 rintro⟨⟨n,l,p⟩,a,m,b⟩ ⟨hn,hl,a0,h1,h2,h3⟩
 refine bR (let c:=γe .i64;let d:=bX .i64;let e:=(0:Int);let f:=bq.row;let h:=γ8 0 n 1;let j:=SV.fn (Fn.func 127) [] [γW 1 0 20];let t:=c (m - a);let v:=c (b - m);let k:=bn.i .i64;let w:=f k l 3 true;let g:=bq.cells [c p.supply.a0,c p.supply.a1,c p.supply.a2,c p.supply.a3,c p.supply.a4,c p.supply.a5,c p.opn.a0,c p.opn.a1,c p.opn.a2,c p.opn.a3,c p.opn.a4,c p.opn.a5,c p.cls.a0,c p.cls.a1,c p.cls.a2,c p.cls.a3,c p.cls.a4,c p.cls.a5,Φ k p.classes,Φ bn.off p.offers] 27 20 false;let q:=rotR l a.toNat m.toNat b.toNat;d (m - a)/\d (b - m)/\(((h.same h/\(c m).same (c m)/\j.same j/\t.same t/\v.same v/\True)/\w.same w/\g.same g/\True)/\(e<m - a/\e<b - m)/\∃(A:List Int),∃(X:List Int),∃(Y:List Int),∃(B:List Int),l=A++(X++(Y++B))/\(↑A.length:Int)+(m - a)=m/\(↑X.length:Int)=m - a/\(↑Y.length:Int)=b - m/\A++(Y++(X++B))=q)/\∀(x:Int×Int×List Int),let o:=x.snd.snd.length;let s:=(m - x.fst).toNat;let y:=(x.fst+x.snd.fst).toNat;let z:=decide (x.fst≠x.snd.fst);let C:=decide (x.snd.fst<x.fst);let r:=x.fst - x.snd.fst;let D:=c r;let E:=c x.snd.fst;let F:=jq x.snd.snd s m.toNat x.snd.fst.toNat;let G:=f k F 3 true;let H:=m+x.snd.fst - x.fst;let N:=λ(u u_1 u_2 u_3 u_4:Int) ↦let I:=c u_3;let J:=jq x.snd.snd s u_1.toNat u.toNat;let K:=f k J 3 true;(n=o/\o<=1000/\e<=m - x.fst/\e<=u/\m - x.fst+u<=u_1/\u_1+u<=(↑o:Int))/\d (u_2 - u)/\((h.same h/\(c m).same (c m)/\j.same j/\I.same I/\(c u_4).same (c u_4)/\True)/\K.same K/\g.same g/\True)/\((e<u_3/\e<u_4)/\∃(A:List Int),∃(X:List Int),∃(Y:List Int),∃(B:List Int),J=A++(X++(Y++B))/\(↑A.length:Int)+u_3=m/\(↑X.length:Int)=u_3/\(↑Y.length:Int)=u_4/\A++(Y++(X++B))=q)/\(u_3+u_4).toNat<y;let L:=λ(u:Int) (u_1:List Int) ↦(e<u/\e<x.snd.fst)/\∃(A:List Int),∃(X:List Int),∃(Y:List Int),∃(B:List Int),u_1=A++(X++(Y++B))/\(↑A.length:Int)+u=m/\(↑X.length:Int)=u/\(↑Y.length:Int)=x.snd.fst/\A++(Y++(X++B))=q;let M:=λ(u:Int) ↦n=o/\o<=1000/\e<=m - x.fst/\e<=u/\m - x.fst+u<=m/\m+u<=(↑o:Int);L x.fst x.snd.snd->(z=true->(C=true->d (m - x.fst)/\M x.snd.fst/\d r/\((h.same h/\(c m).same (c m)/\j.same j/\D.same D/\E.same E/\True)/\G.same G/\g.same g/\True)/\L r F/\(r+x.snd.fst).toNat<y)/\(C=false->d (m - x.fst)/\d (m+x.snd.fst)/\d H/\N x.fst H x.snd.fst x.fst (x.snd.fst - x.fst)))/\(z=false->d (m - x.fst)/\M x.fst/\(SV.bH []).same (SV.bH [])/\(f k (jq x.snd.snd s m.toNat x.fst.toNat) 3 true).same (f k q 3 true)/\g.same g/\True)) (by kernel_rfl) ?_
 simp only[vcs]
 have hn:n=l.length:=hn
 have hl:l.length<=1000:=hl
 have a0:0<=a:=a0
 have h1:a<m:=h1
 have h2:m<b:=h2
 have h3:b<=l.length:=h3
 have la:(l.take a.toNat).length=a.toNat:=by rw[Ξ];omega
 have l1:=kH (l:=l) (a:=a.toNat) (b:=m.toNat) (by omega) (by omega)
 have l2:=kH (l:=l) (a:=m.toNat) (b:=b.toNat) (by omega) (by omega)
 refine⟨by omega,by omega,⟨⟨by omega,by omega⟩,l.take a.toNat,seg l a.toNat m.toNat,seg l m.toNat b.toNat,l.drop b.toNat,SU (by omega) (by omega) (by omega),by omega,by omega,by omega,rfl⟩,?_⟩
 rintro⟨i,j,w⟩ ⟨⟨i0,j0⟩,A,X,Y,B,hw,hA,hX,hY,hf⟩
 simp only at i0 j0 hw hA hX hY ⊢
 have hfl:=congrArg γo hf
 rw[S0 (by omega) (by omega) (by omega)] at hfl
 simp only[ν] at hfl
 have hwl:w.length=l.length:=by rw[hw];simp only[ν];omega
 rw[hwl]
 refine⟨λhne=>⟨λhgt=>?_,λhle=>?_⟩,λheq=>?_⟩
 ·have hs:=acB (A:=A) (X:=X) (Y:=Y) (B:=B) (i:=i.toNat) (j:=j.toNat) (by omega) (by omega) (by omega) (m:=m.toNat) (by omega)
  rw[<-hw,show m.toNat - i.toNat=(m - i).toNat by omega] at hs
  refine⟨by omega,⟨by omega,by omega,by omega,by omega,by omega,by omega⟩,by omega,⟨⟨by omega,by omega⟩,A++Y,X.drop j.toNat,X.take j.toNat,B,hs,?_,?_,?_,?_⟩,by omega⟩
  ·rw[ν];omega
  ·rw[γH];omega
  ·rw[Ξ];omega
  ·rw[<-hf]
   rw[<-γg (X.take j.toNat),γc]
   simp
 ·have hs:=acC (A:=A) (X:=X) (Y:=Y) (B:=B) (i:=i.toNat) (j:=j.toNat) (by omega) (by omega) (by omega) (m:=m.toNat) (by omega)
  rw[<-hw,show m.toNat - i.toNat=(m - i).toNat by omega,show m.toNat+j.toNat - i.toNat=(m+j - i).toNat by omega] at hs
  refine⟨by omega,by omega,by omega,⟨by omega,by omega,by omega,by omega,by omega,by omega⟩,by omega,⟨⟨by omega,by omega⟩,A,Y.drop (j.toNat - i.toNat),Y.take (j.toNat - i.toNat),X++B,hs,by omega,?_,?_,?_⟩,by omega⟩
  ·rw[γH];omega
  ·rw[Ξ];omega
  ·rw[<-hf]
   rw[<-γg (Y.take (j.toNat - i.toNat)),γc]
 ·have hij:i=j:=by omega
  have hs:=acD (A:=A) (X:=X) (Y:=Y) (B:=B) (i:=i.toNat) (by omega) (by omega) (m:=m.toNat) (by omega)
  rw[<-hw,show m.toNat - i.toNat=(m - i).toNat by omega,hf] at hs
  refine⟨?_,⟨?_,?_,?_,?_,?_,?_⟩,sL hs⟩<;>omega
theorem S3 {l:List Int} {a b c:Nat}:(seg l a b).drop c=seg l (a+c) b:=by
 unfold seg
 rw[List.drop_take,γV,show b - a - c=b - (a+c) by omega]
abbrev SyA:=JM×Int×Int×Int
def pK (a:SyA):Prop:=uk a.1/\(0<=a.2.1/\a.2.1<a.2.2.1/\a.2.2.1<a.2.2.2/\a.2.2.2<=a.1.2.1.length)/\iF (bL a.1.2.2) (seg a.1.2.1 a.2.1.toNat a.2.2.1.toNat)/\iF (bL a.1.2.2) (seg a.1.2.1 a.2.2.1.toNat a.2.2.2.toNat)/\
 ∀x∈seg a.1.2.1 a.2.1.toNat a.2.2.1.toNat,∀y∈seg a.1.2.1 a.2.2.1.toNat a.2.2.2.toNat,x<y
def qG (k:Nat):cV:=yg 200 3 (Int×Int×Int) vO Aq (λ_=>rfl) JP JQ (λa=>pK a/\(a.2.2.2 - a.2.1).toNat<k) λa=>df (bL a.1.2.2) a.1.2.1 a.2.1.toNat a.2.2.2.toNat
def As (k:Nat):List cV:=[qG k,JZ,D9]
def Au (l:List Int) (p:bp):bV:=[.row (.i .i64) l 3 true,.cells p.ss 27 20 false]
def S4 (n:Nat) (l:List Int) (p:bp) (a m b:Int):Nat->cB
 |3=> .inv (Int×Int) (λx=>⟨[(0,.ow 0 n 1),(1,.si .i64 a),(4,.fn (.func 127) [] [.ptr 1 0 20]),(10,.si .i64 x.1),(11,.si .i64 x.2)],Au l p⟩) (λs=>(iS s 10,iS s 11))
   (λx=>(m<=x.1/\x.1<=x.2/\x.2<=b)/\(∀k:Nat,m<=k->(k:Int)<x.1->bL p (bj l a.toNat 0)<bL p (bj l k 0))/\∀k:Nat,x.2<=k->(k:Int)<b->¬bL p (bj l a.toNat 0)<bL p (bj l k 0)) (λx=>(x.2 - x.1).toNat) λ_ _=> .look
 |9=> .inv (Int×Int×List Int) (λx=>⟨[(0,.ow 0 n 1),(10,.si .i64 x.2.1),(13,.si .i64 x.1)],Au x.2.2 p⟩) (λs=>(iS s 13,iS s 10,oS (.i .i64) s 0))
   (λx=>(a<=x.1/\x.1<=x.2.1 - 1/\m<=x.2.1/\x.2.1<=b)/\((∀k:Nat,m<=k->(k:Int)<x.2.1->bL p (bj l a.toNat 0)<bL p (bj l k 0))/\∀k:Nat,x.2.1<=k->(k:Int)<b->¬bL p (bj l a.toNat 0)<bL p (bj l k 0))/\x.2.2=lW l a.toNat b.toNat (x.1 - a).toNat) (λx=>(x.2.1 - x.1).toNat) λ_ _=> .look
 |15=> .inv (Int×Int) (λx=>⟨[(0,.ow 0 n 1),(2,.si .i64 m),(4,.fn (.func 127) [] [.ptr 1 0 20]),(14,.si .i64 x.1),(15,.si .i64 x.2)],Au l p⟩) (λs=>(iS s 14,iS s 15))
   (λx=>(a<=x.1/\x.1<=x.2/\x.2<=m)/\(∀k:Nat,a<=k->(k:Int)<x.1->¬bL p (bj l k 0)<bL p (bj l m.toNat 0))/\∀k:Nat,x.2<=k->(k:Int)<m->bL p (bj l k 0)<bL p (bj l m.toNat 0)) (λx=>(x.2 - x.1).toNat) λ_ _=> .look
 |21=> .inv (Int×Int×List Int) (λx=>⟨[(0,.ow 0 n 1),(14,.si .i64 x.2.1),(17,.si .i64 x.1)],Au x.2.2 p⟩) (λs=>(iS s 17,iS s 14,oS (.i .i64) s 0))
   (λx=>(x.2.1<=x.1/\x.1<=m/\a<=x.2.1)/\((∀k:Nat,a<=k->(k:Int)<x.2.1->¬bL p (bj l k 0)<bL p (bj l m.toNat 0))/\∀k:Nat,x.2.1<=k->(k:Int)<m->bL p (bj l k 0)<bL p (bj l m.toNat 0))/\x.2.2=jo (bL p) l a.toNat m.toNat x.1.toNat) (λx=>(x.1 - x.2.1).toNat) λ_ _=> .look
 |33=> .inv (Int×Int) (λx=>⟨[(0,.ow 0 n 1),(1,.si .i64 a),(2,.si .i64 m),(3,.si .i64 b),(4,.fn (.func 127) [] [.ptr 1 0 20]),(18,.si .i64 ((a+b) / 2^1)),(19,.si .i64 ((a+b) / 2^1+m)),(20,.si .i64 x.1),(21,.si .i64 x.2),(22,.si .i64 ((a+b) / 2^1+m - 1))],Au l p⟩) (λs=>(iS s 20,iS s 21))
   (λx=>((if(a+b) / 2<m then(a+b) / 2+m - b else a)<=x.1/\x.1<=x.2/\x.2<=(if(a+b) / 2<m then(a+b) / 2 else m))/\(∀k:Nat,(if(a+b) / 2<m then(a+b) / 2+m - b else a)<=k->(k:Int)<x.1->¬bL p (bj l k 0)<bL p (bj l ((a+b) / 2+m - 1 - k).toNat 0))/\
    ∀k:Nat,x.2<=k->(k:Int)<(if(a+b) / 2<m then(a+b) / 2 else m)->bL p (bj l k 0)<bL p (bj l ((a+b) / 2+m - 1 - k).toNat 0)) (λx=>(x.2 - x.1).toNat) λ_ _=> .look
 |_=> .look
def Ed (D:Int->Int) (n k:Nat) (l V:List Int) (p:bp) (a b mid e:Int):Prop:=
 (mid<e->(e<b->(pK ((n,V,p),mid,e,b)/\(b - mid).toNat<k)/\(bq.row (bn.i IntKind.i64) (df D V mid.toNat b.toNat) 3 true).same (bq.row (bn.i IntKind.i64) (df D l a.toNat b.toNat) 3 true))/\
  (¬e<b->(bq.row (bn.i IntKind.i64) V 3 true).same (bq.row (bn.i IntKind.i64) (df D l a.toNat b.toNat) 3 true)))/\(¬mid<e->(bq.row (bn.i IntKind.i64) V 3 true).same (bq.row (bn.i IntKind.i64) (df D l a.toNat b.toNat) 3 true))
def Ee (D:Int->Int) (n k:Nat) (l W:List Int) (p:bp) (a b mid e s:Int):Prop:=
 (a<s->(s<mid->(pK ((n,W,p),a,s,mid)/\(mid - a).toNat<k)/\Ed D n k l (df D W a.toNat mid.toNat) p a b mid e)/\(¬s<mid->Ed D n k l W p a b mid e))/\(¬a<s->Ed D n k l W p a b mid e)
def S5 (D:Int->Int) (n k:Nat) (l:List Int) (p:bp) (a m b mid s:Int):Prop:=
 (-9223372036854775808<=mid+m - s/\mid+m - s<=9223372036854775807)/\
 (s<m->(m<mid+m - s->(n=l.length/\l.length<=1000/\0<=s/\s<m/\m<mid+m - s/\mid+m - s<=l.length)/\Ee D n k l (rotR l s.toNat m.toNat (mid+m - s).toNat) p a b mid (mid+m - s) s)/\
  (¬m<mid+m - s->Ee D n k l l p a b mid (mid+m - s) s))/\(¬s<m->Ee D n k l l p a b mid (mid+m - s) s)
theorem acK {D:Int->Int} {n k:Nat} {l:List Int} {p:bp} {a m b mid s:Int} (hD:bL p=D) (E:bC p=0) (I:n=l.length) (L:l.length<=1000) (K:∀x∈l,iq p x) (a0:0<=a) (a1:a<=s) (s1:s<=m) (sm:s<=mid) (am:a<mid) (mb:mid<b)
  (Q:m<=mid+m - s) (Y:mid+m - s<=b) (X:b<=l.length) (q:iF D (seg l a.toNat m.toNat)) (r:iF D (seg l m.toNat b.toNat)) (w:∀x∈seg l a.toNat m.toNat,∀y∈seg l m.toNat b.toNat,x<y)
  (J:∀x y,x∈seg l a.toNat s.toNat->y∈seg l (mid+m - s).toNat b.toNat->gm D x y=true) (M:∀x y,x∈seg l m.toNat (mid+m - s).toNat->y∈seg l s.toNat m.toNat->gm D x y=true) (V:(b - a).toNat<k+1):
  S5 D n k l p a m b mid s:=by
 generalize U:mid+m - s=e at*
 obtain⟨⟨G,N,W⟩,⟨O,F,y3⟩,i⟩:=@acz D l a.toNat s.toNat m.toNat e.toNat b.toNat mid.toNat (by omega) (by omega) (by omega) (by omega) (by omega) (by omega) q r (λx h y g=>J x y h g) (λx h y g=>M x y h g)
 have rl:(rotR l s.toNat m.toNat e.toNat).length=l.length:=S0 (by omega) (by omega) (by omega)
 have t:∀x∈rotR l s.toNat m.toNat e.toNat,iq p x:=λx h=>K x (acw h)
 have r0:(¬s<m\/¬m<e)->rotR l s.toNat m.toNat e.toNat=l:=λh=>acy (by omega) (by omega) (by omega) (by omega)
 generalize H:rotR l s.toNat m.toNat e.toNat=R at*
 have S:(df D R a.toNat mid.toNat).length=R.length:=yd (by omega) (by omega)
 have P:∀x∈df D R a.toNat mid.toNat,iq p x:=λx h=>t x (Ar h)
 have A:iF D (seg l a.toNat s.toNat):=δZ (um (by omega) (by omega)) q
 have B:iF D (seg l s.toNat m.toNat):=δZ (um (by omega) (by omega)) q
 have u:iF D (seg l m.toNat e.toNat):=δZ (um (by omega) (by omega)) r
 have f:iF D (seg l e.toNat b.toNat):=δZ (um (by omega) (by omega)) r
 have v:(¬a<s\/¬s<mid)->df D R a.toNat mid.toNat=R:=by
  intro h
  refine JX (by omega) ?_
  grind
 generalize Z:df D R a.toNat mid.toNat=T at*
 have z:(¬mid<e\/¬e<b)->df D T mid.toNat b.toNat=T:=by
  intro h
  refine JX (by omega) ?_
  rcases h with h|h
  ·rw[show mid.toNat=e.toNat by omega,F];exact f
  grind
 have C:Ed D n k l T p a b mid e:=by
  refine⟨λc=>⟨λd=>⟨⟨⟨⟨⟨E,by simp_all⟩,by simp_all,P⟩,⟨by grind,c,d,by simp_all⟩,?_,?_,?_⟩,by omega⟩,sL i⟩,λd=>sL ((z (.inr d)).symm.trans i)⟩,λc=>sL ((z (.inl c)).symm.trans i)⟩
  ·simp_all
  ·simp_all
  ·simp only[O,F]
   exact λx j y o=>w x ((um (by omega) (by omega)).subset j) y ((um (by omega) (by omega)).subset o)
 have hW:Ee D n k l R p a b mid e s:=by
  refine⟨λc=>⟨λd=>⟨⟨⟨⟨⟨E,by simp_all⟩,by simp_all,t⟩,⟨by omega,c,d,by grind⟩,?_,?_,?_⟩,by omega⟩,by simp_all⟩,λd=>v (.inr d)▸C⟩,λc=>v (.inl c)▸C⟩
  ·simp_all
  ·simp_all
  ·simp only[G,N]
   exact λx j y o=>w x ((um (by omega) (by omega)).subset j) y ((um (by omega) (by omega)).subset o)
 refine⟨by omega,λc=>⟨λd=>⟨⟨I,L,by omega,c,by omega,by omega⟩,by simp_all⟩,λd=>?_⟩,λc=>?_⟩
 all_goals simp_all
theorem acL (k n:Nat) (l:List Int) (p:bp) (a m b:Int) (hd:pK ((n,l,p),a,m,b)) (hk:(b - a).toNat<k+1):
  Vc (ve (lJ [] (fY (As k)) oJ oK gv) (S4 n l p a m b) (fG 200) ((qG (k+1)).put ((n,l,p),a,m,b)) ((qG (k+1)).st ((n,l,p),a,m,b)) λv t=>v.same ((qG (k+1)).res ((n,l,p),a,m,b))/\ji t ((qG (k+1)).out ((n,l,p),a,m,b))):=by
 obtain⟨⟨⟨hc,hn⟩,hl,ho⟩,⟨a0,a1,a2,a3⟩,hL,hR,hx⟩:=hd
 simp only at hc hn hl ho a0 a1 a2 a3 hL hR hx
 refine bR (let c:=γe .i64;let d:=(0:Int);let e:=bX .i64;let f:=SV.bH;let g:=(1:Int);let h:=bq.row;let j:=(64:Int);let o:=(2:Int);let r:=(a+b) / o;let v:=r+m;let L:=if r<m then v - b else a;let M:=if r<m then r else m;let z:=v - g;let N:=(↑l.length:Int);let s:=γ8 0 n 1;let G:=SV.fn (Fn.func 127) [] [γW 1 0 20];let W:=c r;let X:=c v;let Y:=c z;let t:=bn.i .i64;let O:=h t l 3 true;let q:=bq.cells [c p.supply.a0,c p.supply.a1,c p.supply.a2,c p.supply.a3,c p.supply.a4,c p.supply.a5,c p.opn.a0,c p.opn.a1,c p.opn.a2,c p.opn.a3,c p.opn.a4,c p.opn.a5,c p.cls.a0,c p.cls.a1,c p.cls.a2,c p.cls.a3,c p.cls.a4,c p.cls.a5,Φ t p.classes,Φ bn.off p.offers] 27 20 false;let P:=r.toNat;let w:=h t (df (bL p) l a.toNat b.toNat) 3 true;let Z:=df (bL p) l a.toNat P;let ad:=decide (m - a=g);let B:=bj l a.toNat d;let ae:=decide (b - m=g);let y:=bj l m.toNat d;let aT:=∀(x:Int×Int),let H:=decide (r<v - x.fst);let I:=decide (v - x.fst<b);let a6:=(r,v - x.fst,b);let Q:=rotR l x.fst.toNat m.toNat (v - x.fst).toNat;let a9:=x.fst+x.snd;let A:=a9 / o;let af:=bj l (z - A).toNat d;let ag:=bj l A.toNat d;let ah:=decide (x.fst<x.snd);let ai:=decide (m<v - x.fst);let a7:=df (bL p) Q a.toNat P;let aj:=let ak:=(H=true->(I=true->(pK ((n,l,p),a6)/\(b - r).toNat<k)/\(f []).same (f [])/\(h t (df (bL p) l P b.toNat) 3 true).same w/\q.same q/\True)/\(I=false->(f []).same (f [])/\O.same w/\q.same q/\True))/\(H=false->(f []).same (f [])/\O.same w/\q.same q/\True);(decide (a<x.fst)=true->(decide (x.fst<r)=true->(pK ((n,l,p),a,x.fst,r)/\(r - a).toNat<k)/\(H=true->(I=true->(pK ((n,Z,p),a6)/\(b - r).toNat<k)/\(f []).same (f [])/\(h t (df (bL p) Z P b.toNat) 3 true).same w/\q.same q/\True)/\(I=false->(f []).same (f [])/\(h t Z 3 true).same w/\q.same q/\True))/\(H=false->(f []).same (f [])/\(h t Z 3 true).same w/\q.same q/\True))/\(decide (x.fst<r)=false->ak))/\(decide (a<x.fst)=false->ak);let al:=(H=true->(I=true->(pK ((n,Q,p),a6)/\(b - r).toNat<k)/\(f []).same (f [])/\(h t (df (bL p) Q P b.toNat) 3 true).same w/\q.same q/\True)/\(I=false->(f []).same (f [])/\(h t Q 3 true).same w/\q.same q/\True))/\(H=false->(f []).same (f [])/\(h t Q 3 true).same w/\q.same q/\True);let am:=λ(u u_1:Int) ↦let an:=c u;((s.same s/\(c a).same (c a)/\(c m).same (c m)/\(c b).same (c b)/\G.same G/\W.same W/\X.same X/\an.same an/\(c u_1).same (c u_1)/\Y.same Y/\True)/\O.same O/\q.same q/\True)/\((L<=u/\u<=u_1/\u_1<=M)/\(∀(k:Nat),L<=(↑k:Int)->(↑k:Int)<u->bL p (bj l k d)<bL p (bj l (z - (↑k:Int)).toNat d)->False)/\∀(k:Nat),u_1<=(↑k:Int)->(↑k:Int)<M->bL p (bj l k d)<bL p (bj l (z - (↑k:Int)).toNat d))/\(u_1 - u).toNat<(x.snd - x.fst).toNat;let ao:=λ(u:Bool) ↦(!decide (sK p af ag<d))=u;((L<=x.fst/\x.fst<=x.snd/\x.snd<=M)/\(∀(k:Nat),L<=(↑k:Int)->(↑k:Int)<x.fst->bL p (bj l k d)<bL p (bj l (z - (↑k:Int)).toNat d)->False)/\∀(k:Nat),x.snd<=(↑k:Int)->(↑k:Int)<M->bL p (bj l k d)<bL p (bj l (z - (↑k:Int)).toNat d))->(ah=true->e a9/\bX .u64 a9/\d<=g/\g<=j/\e A/\e (z - A)/\n=l.length/\d<=z - A/\z - A<N/\n=l.length/\(z - A).toNat<l.length/\n=l.length/\d<=A/\A<N/\n=l.length/\A.toNat<l.length/\(bC p=d/\iq p af/\iq p ag)/\(ao true->e (A+g)/\am (A+g) x.snd)/\(ao false->am x.fst A))/\(ah=false->e (v - x.fst)/\(decide (x.fst<m)=true->(ai=true->(n=l.length/\l.length<=1000/\d<=x.fst/\x.fst<m/\m<v - x.fst/\v - x.fst<=(↑l.length:Int))/\(decide (a<x.fst)=true->(decide (x.fst<r)=true->(pK ((n,Q,p),a,x.fst,r)/\(r - a).toNat<k)/\(H=true->(I=true->(pK ((n,a7,p),a6)/\(b - r).toNat<k)/\(f []).same (f [])/\(h t (df (bL p) a7 P b.toNat) 3 true).same w/\q.same q/\True)/\(I=false->(f []).same (f [])/\(h t a7 3 true).same w/\q.same q/\True))/\(H=false->(f []).same (f [])/\(h t a7 3 true).same w/\q.same q/\True))/\(decide (x.fst<r)=false->al))/\(decide (a<x.fst)=false->al))/\(ai=false->aj))/\(decide (x.fst<m)=false->aj));let R:=O.same O/\q.same q/\True;let ap:=λ(u u_1:Int) ↦let aq:=c u;e z/\(((s.same s/\(c a).same (c a)/\(c m).same (c m)/\(c b).same (c b)/\G.same G/\W.same W/\X.same X/\aq.same aq/\(c u_1).same (c u_1)/\Y.same Y/\True)/\R)/\(L<=u/\u<=u_1/\u_1<=M)/\(∀(k:Nat),L<=(↑k:Int)->(↑k:Int)<u->bL p (bj l k d)<bL p (bj l (z - (↑k:Int)).toNat d)->False)/\∀(k:Nat),u_1<=(↑k:Int)->(↑k:Int)<M->bL p (bj l k d)<bL p (bj l (z - (↑k:Int)).toNat d))/\aT;let ar:=λ(u u_1 u_2:Int) ↦let au:=c u;let av:=c u_1;(s.same s/\au.same au/\G.same G/\av.same av/\(c u_2).same (c u_2)/\True)/\R;e (m - a)/\(ad=true->(ar a m b/\(m<=m/\m<=b/\b<=b)/\(∀(k:Nat),m<=(↑k:Int)->(↑k:Int)<m->bL p B<bL p (bj l k d))/\∀(k:Nat),b<=(↑k:Int)->(↑k:Int)<b->bL p B<bL p (bj l k d)->False)/\∀(x:Int×Int),let aa:=x.fst+x.snd;let J:=aa / o;let aw:=bj l J.toNat d;let ax:=decide (x.fst<x.snd);let ay:=c x.fst;let az:=λ(u u_1:Int) ↦let aA:=c u;((s.same s/\(c a).same (c a)/\G.same G/\aA.same aA/\(c u_1).same (c u_1)/\True)/\R)/\((m<=u/\u<=u_1/\u_1<=b)/\(∀(k:Nat),m<=(↑k:Int)->(↑k:Int)<u->bL p B<bL p (bj l k d))/\∀(k:Nat),u_1<=(↑k:Int)->(↑k:Int)<b->bL p B<bL p (bj l k d)->False)/\(u_1 - u).toNat<(x.snd - x.fst).toNat;let aB:=λ(u:Bool) ↦decide (sK p aw B<d)=u;((m<=x.fst/\x.fst<=x.snd/\x.snd<=b)/\(∀(k:Nat),m<=(↑k:Int)->(↑k:Int)<x.fst->bL p B<bL p (bj l k d))/\∀(k:Nat),x.snd<=(↑k:Int)->(↑k:Int)<b->bL p B<bL p (bj l k d)->False)->(ax=true->e aa/\bX .u64 aa/\d<=g/\g<=j/\e J/\n=l.length/\d<=J/\J<N/\n=l.length/\J.toNat<l.length/\n=l.length/\d<=a/\a<N/\n=l.length/\a.toNat<l.length/\(bC p=d/\iq p aw/\iq p B)/\(aB true->e (J+g)/\az (J+g) x.snd)/\(aB false->az x.fst J))/\(ax=false->(((s.same s/\ay.same ay/\(c a).same (c a)/\True)/\R)/\(a<=a/\a<=x.fst - g/\m<=x.fst/\x.fst<=b)/\((∀(k:Nat),m<=(↑k:Int)->(↑k:Int)<x.fst->bL p B<bL p (bj l k d))/\∀(k:Nat),x.fst<=(↑k:Int)->(↑k:Int)<b->bL p B<bL p (bj l k d)->False)/\l=lW l a.toNat b.toNat (a - a).toNat)/\∀(x:Int×Int×List Int),let ab:=x.snd.fst - g;let aC:=decide (x.fst<ab);let F:=x.fst+g;let C:=x.snd.snd.length;let a8:=F.toNat;let S:=x.snd.snd.set x.fst.toNat (bj x.snd.snd a8 d);let aD:=c x.snd.fst;let aE:=c F;let aF:=S.set a8 (bj x.snd.snd x.fst.toNat d);let aG:=h t aF 3 true;let aH:=λ(u:Int) (u_1:List Int) ↦(a<=u/\u<=ab/\m<=x.snd.fst/\x.snd.fst<=b)/\((∀(k:Nat),m<=(↑k:Int)->(↑k:Int)<x.snd.fst->bL p B<bL p (bj l k d))/\∀(k:Nat),x.snd.fst<=(↑k:Int)->(↑k:Int)<b->bL p B<bL p (bj l k d)->False)/\u_1=lW l a.toNat b.toNat (u - a).toNat;aH x.fst x.snd.snd->e ab/\(aC=true->e F/\e F/\n=C/\d<=F/\F<(↑C:Int)/\n=C/\a8<C/\n=C/\d<=x.fst/\x.fst<(↑C:Int)/\n=C/\x.fst.toNat<C/\n=C/\d<=x.fst/\x.fst<(↑C:Int)/\n=C/\x.fst.toNat<C/\n=S.length/\d<=F/\F<(↑S.length:Int)/\n=S.length/\a8<S.length/\e F/\((s.same s/\aD.same aD/\aE.same aE/\True)/\aG.same aG/\q.same q/\True)/\aH F aF/\(x.snd.fst - F).toNat<(x.snd.fst - x.fst).toNat)/\(aC=false->(f []).same (f [])/\(h t x.snd.snd 3 true).same w/\q.same q/\True)))/\(ad=false->e (b - m)/\(ae=true->(ar m a m/\(a<=a/\a<=m/\m<=m)/\(∀(k:Nat),a<=(↑k:Int)->(↑k:Int)<a->bL p (bj l k d)<bL p y->False)/\∀(k:Nat),m<=(↑k:Int)->(↑k:Int)<m->bL p (bj l k d)<bL p y)/\∀(x:Int×Int),let ac:=x.fst+x.snd;let K:=ac / o;let aI:=bj l K.toNat d;let aJ:=decide (x.fst<x.snd);let aK:=c x.fst;let aL:=λ(u u_1:Int) ↦let aM:=c u;((s.same s/\(c m).same (c m)/\G.same G/\aM.same aM/\(c u_1).same (c u_1)/\True)/\R)/\((a<=u/\u<=u_1/\u_1<=m)/\(∀(k:Nat),a<=(↑k:Int)->(↑k:Int)<u->bL p (bj l k d)<bL p y->False)/\∀(k:Nat),u_1<=(↑k:Int)->(↑k:Int)<m->bL p (bj l k d)<bL p y)/\(u_1 - u).toNat<(x.snd - x.fst).toNat;let aN:=λ(u:Bool) ↦(!decide (sK p y aI<d))=u;((a<=x.fst/\x.fst<=x.snd/\x.snd<=m)/\(∀(k:Nat),a<=(↑k:Int)->(↑k:Int)<x.fst->bL p (bj l k d)<bL p y->False)/\∀(k:Nat),x.snd<=(↑k:Int)->(↑k:Int)<m->bL p (bj l k d)<bL p y)->(aJ=true->e ac/\bX .u64 ac/\d<=g/\g<=j/\e K/\n=l.length/\d<=m/\m<N/\n=l.length/\m.toNat<l.length/\n=l.length/\d<=K/\K<N/\n=l.length/\K.toNat<l.length/\(bC p=d/\iq p y/\iq p aI)/\(aN true->e (K+g)/\aL (K+g) x.snd)/\(aN false->aL x.fst K))/\(aJ=false->(((s.same s/\aK.same aK/\(c m).same (c m)/\True)/\R)/\(x.fst<=m/\m<=m/\a<=x.fst)/\((∀(k:Nat),a<=(↑k:Int)->(↑k:Int)<x.fst->bL p (bj l k d)<bL p y->False)/\∀(k:Nat),x.fst<=(↑k:Int)->(↑k:Int)<m->bL p (bj l k d)<bL p y)/\l=jo (bL p) l a.toNat m.toNat m.toNat)/\∀(x:Int×Int×List Int),let T:=x.fst.toNat;let aO:=decide (x.snd.fst<x.fst);let D:=x.fst - g;let E:=x.snd.snd.length;let U:=D.toNat;let V:=x.snd.snd.set T (bj x.snd.snd U d);let aP:=c x.snd.fst;let aQ:=c D;let aR:=V.set U (bj x.snd.snd T d);let aS:=h t aR 3 true;(x.snd.fst<=x.fst/\x.fst<=m/\a<=x.snd.fst)/\((∀(k:Nat),a<=(↑k:Int)->(↑k:Int)<x.snd.fst->bL p (bj l k d)<bL p y->False)/\∀(k:Nat),x.snd.fst<=(↑k:Int)->(↑k:Int)<m->bL p (bj l k d)<bL p y)/\x.snd.snd=jo (bL p) l a.toNat m.toNat T->(aO=true->e D/\e D/\n=E/\d<=D/\D<(↑E:Int)/\n=E/\U<E/\n=E/\d<=x.fst/\x.fst<(↑E:Int)/\n=E/\T<E/\n=E/\d<=x.fst/\x.fst<(↑E:Int)/\n=E/\T<E/\n=V.length/\d<=D/\D<(↑V.length:Int)/\n=V.length/\U<V.length/\e D/\((s.same s/\aP.same aP/\aQ.same aQ/\True)/\aS.same aS/\q.same q/\True)/\((x.snd.fst<=D/\D<=m/\a<=x.snd.fst)/\((∀(k:Nat),a<=(↑k:Int)->(↑k:Int)<x.snd.fst->bL p (bj l k d)<bL p y->False)/\∀(k:Nat),x.snd.fst<=(↑k:Int)->(↑k:Int)<m->bL p (bj l k d)<bL p y)/\aR=jo (bL p) l a.toNat m.toNat U)/\(D - x.snd.fst).toNat<(x.fst - x.snd.fst).toNat)/\(aO=false->(f []).same (f [])/\(h t x.snd.snd 3 true).same w/\q.same q/\True)))/\(ae=false->e (a+b)/\bX .u64 (a+b)/\d<=g/\g<=j/\e r/\e v/\(decide (r<m)=true->e (v - b)/\ap (v - b) r)/\(decide (r<m)=false->ap a m)))) (by kernel_rfl) ?_
 simp only[vcs]
 have hV:∀k:Nat,k<l.length->iq p (bj l k 0):=λk hk=>ho _ (de hk)
 have hcmp:∀i j:Nat,i<l.length->j<l.length->(sK p (bj l i 0) (bj l j 0)<0↔bL p (bj l j 0)<bL p (bj l i 0)):=λi j hi hj=>SG hc (hV i hi) (hV j hj)
 have hxi:∀i j:Nat,a<=i->(i:Int)<m->m<=j->(j:Int)<b->bj l i 0<bj l j 0:=λi j h1 h2 h3 h4=>hx _ (yh.2 ⟨i,by omega,by omega,by omega,rfl⟩) _ (yh.2 ⟨j,by omega,by omega,by omega,rfl⟩)
 have u64:∀{v:Int},0<=v->v<=100000->bX .u64 v:=λh1 h2=>u64_in h1 (by omega)
 generalize hD:bL p=D at*
 refine⟨by omega,λh1=>?_,λh1=>⟨by omega,λh2=>?_,λh2=>?_⟩⟩
 ·have hm:m=a+1:=by omega
  have mono:∀i j:Nat,m<=i->i<=j->(j:Int)<b->D (bj l j 0)<=D (bj l i 0):=λi j q1 q2 q3=>Eb (Ec hR (by omega) q2 (by omega) (by omega))
  refine⟨⟨⟨by omega,by omega,by omega⟩,λk q1 q2=>by omega,λk q1 q2=>by omega⟩,?_⟩
  rintro⟨i,j⟩ ⟨⟨i0,i1,i2⟩,q1,q2⟩
  simp only at i0 i1 i2 q1 q2 ⊢
  refine⟨λhij=>?_,λhij=>⟨⟨⟨by omega,by omega,by omega,by omega⟩,⟨q1,λk w1 w2=>q2 k (by omega) w2⟩,?_⟩,?_⟩⟩
  ·rw[hcmp _ _ (by omega) (by omega)]
   generalize hh:(i+j) / 2=h
   have S7:i<=h/\h<j:=by omega
   refine⟨by omega,u64 (by omega) (by omega),by omega,by omega,by omega,by omega,by omega,by omega,by omega,by omega,by omega,by omega,by omega,by omega,by omega,⟨hc,hV _ (by omega),hV _ (by omega)⟩,λhlt=>⟨by omega,⟨⟨by omega,by omega,by omega⟩,λk w1 w2=>?_,λk w1 w2=>q2 k w1 w2⟩,by omega⟩,λhge=>⟨⟨⟨by omega,by omega,by omega⟩,λk w1 w2=>q1 k w1 w2,λk w1 w2=>?_⟩,by omega⟩⟩
   ·have:=mono k h.toNat (by omega) (by omega) (by omega)
    omega
   ·have:=mono h.toNat k (by omega) (by omega) (by omega)
    omega
  ·rw[show(a - a).toNat=0 by omega,acE (by omega) (by omega)]
  ·rintro⟨k,i',w⟩ ⟨⟨k0,k1,k2,k3⟩,⟨q1,q2⟩,hw⟩
   simp only at k0 k1 k2 k3 q1 q2 hw ⊢
   have hwl:w.length=l.length:=by rw[hw,acF (by omega) (by omega)]
   refine⟨by omega,λhk=>?_,λhk=>?_⟩
   ·obtain⟨e1,e2,e3⟩:=@acG l a.toNat b.toNat (k - a).toNat (by omega) (by omega)
    rw[<-hw] at e1 e2 e3
    rw[show a.toNat+(k - a).toNat=k.toNat by omega] at e1 e2 e3
    rw[show k.toNat+1=(k+1).toNat by omega] at e2 e3
    rw[show(k - a).toNat+1=(k+1 - a).toNat by omega] at e3
    rw[e1,e2,e3];simp only[γb,hwl]
    refine⟨by omega,by omega,by omega,by omega,by omega,by omega,by omega,by omega,by omega,by omega,by omega,by omega,by omega,by omega,by omega,by omega,by omega,by omega,by omega,by omega,by omega,by omega,by omega,⟨⟨by omega,by omega,by omega,by omega⟩,⟨q1,q2⟩,trivial⟩,by omega⟩
   ·have hki:k=i' - 1:=by omega
    refine sL ?_
    rw[hw]
    refine acH (by omega) (by omega) (by rw[show a.toNat+1=m.toNat by omega];exact hR) ?_ ?_
    ·intro s hs
     rw[S3,yh] at hs
     obtain⟨k',w1,w2,w3,rfl⟩:=hs
     have h9:¬D (bj l a.toNat 0)<D (bj l k' 0):=q2 k' (by omega) (by omega)
     have:=hxi a.toNat k' (by omega) (by omega) (by omega) (by omega)
     exact oW.2 (by omega)
    ·by_cases hka:k=a
     ·exact .inl (by omega)
     ·refine .inr (oW.2 (.inl ?_))
      rw[show a.toNat+(k - a).toNat=k.toNat by omega]
      exact q1 k.toNat (by omega) (by omega)
 ·have hb:b=m+1:=by omega
  have mono:∀i j:Nat,a<=i->i<=j->(j:Int)<m->D (bj l j 0)<=D (bj l i 0):=λi j q1 q2 q3=>Eb (Ec hL (by omega) q2 (by omega) (by omega))
  refine⟨⟨⟨by omega,by omega,by omega⟩,λk q1 q2=>by omega,λk q1 q2=>by omega⟩,?_⟩
  rintro⟨i,j⟩ ⟨⟨i0,i1,i2⟩,q1,q2⟩
  simp only at i0 i1 i2 q1 q2 ⊢
  refine⟨λhij=>?_,λhij=>⟨⟨⟨by omega,by omega,by omega⟩,⟨q1,λk w1 w2=>q2 k (by omega) w2⟩,?_⟩,?_⟩⟩
  ·rw[hcmp _ _ (by omega) (by omega)]
   generalize hh:(i+j) / 2=h
   have S7:i<=h/\h<j:=by omega
   refine⟨by omega,u64 (by omega) (by omega),by omega,by omega,by omega,by omega,by omega,by omega,by omega,by omega,by omega,by omega,by omega,by omega,by omega,⟨hc,hV _ (by omega),hV _ (by omega)⟩,λhge=>⟨by omega,⟨⟨by omega,by omega,by omega⟩,λk w1 w2=>?_,λk w1 w2=>q2 k w1 w2⟩,by omega⟩,λhlt=>⟨⟨⟨by omega,by omega,by omega⟩,λk w1 w2=>q1 k w1 w2,λk w1 w2=>?_⟩,by omega⟩⟩
   ·have:=mono k h.toNat (by omega) (by omega) (by omega)
    omega
   ·have:=mono h.toNat k (by omega) (by omega) (by omega)
    omega
  ·rw[SJ (by omega) (by omega),JX (by omega) hL]
  ·rintro⟨k,i',w⟩ ⟨⟨k0,k1,k2⟩,⟨q1,q2⟩,hw⟩
   simp only at k0 k1 k2 q1 q2 hw ⊢
   have hwl:w.length=l.length:=by rw[hw,SI (by omega) (by omega)]
   have hso:cZ D (seg l a.toNat m.toNat)=seg l a.toNat m.toNat:=JI hL
   have hsl:=kH (l:=l) (a:=a.toNat) (b:=m.toNat) (by omega) (by omega)
   refine⟨λhk=>?_,λhk=>?_⟩
   ·obtain⟨e1,e2,e3⟩:=@SN D l a.toNat m.toNat k.toNat (by omega) (by omega) (by omega)
    rw[<-hw] at e1 e2 e3
    rw[show k.toNat - 1=(k - 1).toNat by omega] at e2 e3
    rw[e1,e2,e3];simp only[γb,hwl]
    refine⟨by omega,by omega,by omega,by omega,by omega,by omega,by omega,by omega,by omega,by omega,by omega,by omega,by omega,by omega,by omega,by omega,by omega,by omega,by omega,by omega,by omega,by omega,by omega,⟨⟨by omega,by omega,by omega⟩,⟨q1,q2⟩,trivial⟩,by omega⟩
   ·have hki:k=i':=by omega
    refine sL ?_
    rw[hw,show b.toNat=m.toNat+1 by omega]
    refine SQ (by omega) (by omega) (by omega) ?_ ?_
    ·intro s hs
     rw[hso,S3,yh] at hs
     obtain⟨k',w1,w2,w3,rfl⟩:=hs
     have h9:D (bj l k' 0)<D (bj l m.toNat 0):=q2 k' (by omega) (by omega)
     exact oW.2 (by omega)
    ·by_cases hka:k=a
     ·exact .inl (by omega)
     ·refine .inr ?_
      rw[hso,cO (show k.toNat - 1 - a.toNat<(seg l a.toNat m.toNat).length by omega),JY]
      have h9:¬D (bj l (a.toNat+(k.toNat - 1 - a.toNat)) 0)<D (bj l m.toNat 0):=q1 (a.toNat+(k.toNat - 1 - a.toNat)) (by omega) (by omega)
      have:=hxi (a.toNat+(k.toNat - 1 - a.toNat)) m.toNat (by omega) (by omega) (by omega) (by omega)
      exact oW.2 (by omega)
 ·generalize hmd:(a+b) / 2=mid
  have md:2*mid<=a+b/\a+b<=2*mid+1:=by omega
  clear hmd
  have hlh:∃lo hi,lo=(if mid<m then mid+m - b else a)/\hi=(if mid<m then mid else m):=⟨_,_,rfl,rfl⟩
  obtain⟨lo,hi,Ef,Eg⟩:=hlh
  rw[<-Ef,<-Eg]
  have hlo:(mid<m/\lo=mid+m - b/\hi=mid)\/(m<=mid/\lo=a/\hi=m):=by
   rcases Int.lt_or_le mid m with h|h
   ·exact .inl ⟨h,by rw[Ef,if_pos h],by rw[Eg,if_pos h]⟩
   ·exact .inr ⟨h,by rw[Ef,if_neg (by omega)],by rw[Eg,if_neg (by omega)]⟩
  clear Ef Eg
  have Eh:∀i j:Nat,a<=i->i<=j->(j:Int)<m->D (bj l j 0)<=D (bj l i 0):=λi j q1 q2 q3=>Eb (Ec hL (by omega) q2 (by omega) (by omega))
  have Ei:∀i j:Nat,m<=i->i<=j->(j:Int)<b->D (bj l j 0)<=D (bj l i 0):=λi j q1 q2 q3=>Eb (Ec hR (by omega) q2 (by omega) (by omega))
  have tail:∀s:Int,lo<=s->s<=hi->(∀k:Nat,lo<=k->(k:Int)<s->D (bj l k 0)<D (bj l (mid+m - 1 - k).toNat 0)->False)->(∀k:Nat,s<=k->(k:Int)<hi->D (bj l k 0)<D (bj l (mid+m - 1 - k).toNat 0))->
    S5 D n k l p a m b mid s:=by
   intro s s1 s2 q1 q2
   refine acK hD hc hn hl ho a0 (by omega) (by omega) (by omega) (by omega) (by omega) (by omega) (by omega) a3 hL hR hx ?_ ?_ hk
   ·rintro x y hX hY
    rw[yh] at hX hY
    obtain⟨i,i1,i2,i3,rfl⟩:=hX
    obtain⟨j,j1,j2,j3,rfl⟩:=hY
    have h3:=q1 (s - 1).toNat (by omega) (by omega)
    rw[show(mid+m - 1 - ((s - 1).toNat:Int)).toNat=(mid+m - s).toNat by omega] at h3
    have h4:=Eh i (s - 1).toNat (by omega) (by omega) (by omega)
    have h5:=Ei (mid+m - s).toNat j (by omega) (by omega) (by omega)
    have h6:=hxi i j (by omega) (by omega) (by omega) (by omega)
    have h7:¬D (bj l (s - 1).toNat 0)<D (bj l (mid+m - s).toNat 0):=h3
    exact oW.2 (by omega)
   ·rintro x y hX hY
    rw[yh] at hX hY
    obtain⟨j,j1,j2,j3,rfl⟩:=hX
    obtain⟨i,i1,i2,i3,rfl⟩:=hY
    have h3:=q2 s.toNat (by omega) (by omega)
    have h4:=Eh s.toNat i (by omega) (by omega) (by omega)
    have h5:=Ei j (mid+m - 1 - (s.toNat:Int)).toNat (by omega) (by omega) (by omega)
    exact oW.2 (by omega)
  refine⟨by omega,u64 (by omega) (by omega),by omega,by omega,by omega,by omega,λhm=>⟨by omega,by omega,⟨⟨by omega,by omega,by omega⟩,λk w1 w2=>by omega,λk w1 w2=>by omega⟩,?_⟩,λhm=>⟨by omega,⟨⟨by omega,by omega,by omega⟩,λk w1 w2=>by omega,λk w1 w2=>by omega⟩,?_⟩⟩
  all_goals
   rintro⟨i,j⟩ ⟨⟨i0,i1,i2⟩,q1,q2⟩
   simp only at i0 i1 i2 q1 q2 ⊢
   refine⟨λhij=>?_,λhij=>?_⟩
   ·generalize hh:(i+j) / 2=h
    have S7:i<=h/\h<j:=by omega
    rw[hcmp _ _ (by omega) (by omega)]
    refine⟨by omega,u64 (by omega) (by omega),by omega,by omega,by omega,by omega,by omega,by omega,by omega,by omega,by omega,by omega,by omega,by omega,by omega,by omega,⟨hc,hV _ (by omega),hV _ (by omega)⟩,λhge=>⟨by omega,⟨⟨by omega,by omega,by omega⟩,λk w1 w2=>?_,λk w1 w2=>q2 k w1 w2⟩,by omega⟩,λhlt=>⟨⟨⟨by omega,by omega,by omega⟩,λk w1 w2=>q1 k w1 w2,λk w1 w2=>?_⟩,by omega⟩⟩
    ·have h3:=Eh k h.toNat (by omega) (by omega) (by omega)
     have h4:=Ei (mid+m - 1 - h).toNat (mid+m - 1 - (k:Int)).toNat (by omega) (by omega) (by omega)
     omega
    ·have h3:=Eh h.toNat k (by omega) (by omega) (by omega)
     have h4:=Ei (mid+m - 1 - (k:Int)).toNat (mid+m - 1 - h).toNat (by omega) (by omega) (by omega)
     omega
   ·have hij':i=j:=by omega
    have h3:=tail i i0 (by omega) q1 (λk w1 w2=>q2 k (by omega) w2)
    exact h3
theorem J0:∀n,dK Tryz.prog (qG n)
 |0=>by
  rintro⟨⟨c,l,p⟩,a,m,b⟩ ⟨_,h⟩
  exact absurd h (Nat.not_lt_zero _)
 |n+1=>by
  rintro⟨⟨c,l,p⟩,a,m,b⟩ ⟨h1,h2⟩
  by_cases hc:(b - a).toNat<n
  ·exact J0 n ⟨⟨c,l,p⟩,a,m,b⟩ ⟨h1,hc⟩
  ·refine CH (qG (n+1)) (W:=As n) (Λ:=λx=>S4 x.1.1 x.1.2.1 x.1.2.2 x.2.1 x.2.2.1 x.2.2.2) pD (by simp only[As,γG,δk,false_implies,implies_true,and_true];exact⟨J0 n,h351,h320⟩) (by simp)
    (show gv 200=some (fG 200) by kernel_rfl) (λ_=>rfl) ⟨⟨c,l,p⟩,a,m,b⟩ ?_ (acL n c l p a m b h1 h2).out
   intro d hd b' hb1 hb2 hb3
   have hd2:d=qG n:=by
    have:kR 200 (As n)=some (qG n):=rfl
    have hd3:kR 200 (As n)=some d:=hd
    rw[this] at hd3;injection hd3 with hd3;exact hd3.symm
   subst hd2
   have hb:(⟨⟨c,l,p⟩,a,m,b⟩:JM×Int×Int×Int)=b':=(qG n).inj ⟨⟨c,l,p⟩,a,m,b⟩ b' hb1 hb2
   subst hb
   exact hc hb3.2
def Av (b:Int):List Int:=[b]
def J1:List Int->Option Int
 |[a]=>some a
 |_=>none
theorem acM:∀l b,J1 l=some b->l=Av b:=λl b h=>by
 unfold J1 at h;split at h
 ·simp only[γ] at h;subst h;rfl
 ·cases h
theorem acN:∀b c,Av b=Av c->b=c:=λb c h=>by
 simp_all[Av]
def Ej (_:Unit):List Int:=[]
def J2:List Int->Option Unit
 |[]=>some ()
 |_=>none
theorem acO:∀l b,J2 l=some b->l=Ej b:=λl b h=>by
 unfold J2 at h;split at h
 ·rfl
 ·cases h
theorem acP:∀b c,Ej b=Ej c->b=c:=λ_ _ _=>rfl
theorem J3 {D:Int->Int} {l:List Int} {n:Nat} (h:n=l.length):df D l 0 n=cZ D l:=by
 grind[df,seg]
def m20 (D:Int->Int) (l:List Int):List Int:=cZ D (l.take 20)++(cZ D (l.drop 20)++[])
theorem acQ {D:Int->Int} {l:List Int} (h:20<=l.length):df D l 0 20=cZ D (l.take 20)++(l.drop 20++[]):=by
 grind[df,seg]
theorem S8 {D:Int->Int} {l:List Int} {n:Nat} (b:n=l.length) (h:20<=l.length):df D (df D l 0 20) 20 n=m20 D l:=by
 have a:(cZ D (l.take 20)).length=20:=by grind[nX]
 rw[acQ h]
 exact JV a.symm (by simp_all)
theorem Ek {D:Int->Int} {l:List Int}:(m20 D l).length=l.length:=by
 grind[m20,nX]
theorem S9 {D:Int->Int} {l:List Int}:(m20 D l).Perm l:=by
 unfold m20;rw[List.append_nil]
 refine(rC.append rC).trans ?_
 simp_all
theorem acR {D:Int->Int} {l:List Int} {n:Nat} (b:n=l.length) (h:20<=l.length):seg (m20 D l) 0 20=cZ D (l.take 20)/\seg (m20 D l) 20 n=cZ D (l.drop 20):=by
 have a:(cZ D (l.take 20)).length=20:=by grind[nX]
 refine⟨?_,?_⟩
 ·have:=@sM [] (cZ D (l.take 20)) (cZ D (l.drop 20)++[]) 0 20 rfl (by rw[a];rfl)
  exact this
 ·exact sM a.symm (by grind[nX])
theorem Ta {D:Int->Int} {l:List Int} {n:Nat} (a:n=l.length):df D (m20 D l) 0 n=cZ D l:=by
 rw[J3 (by grind[Ek])]
 exact Am (rC.trans S9) vN
theorem Tc {D:Int->Int} {l:List Int} {b c d:Nat} (h:b<=c) (e:b<=l.length):seg (df D l 0 b) c d=seg l c d:=by
 have a:(cZ D (seg l 0 b)).length=b:=by grind[nX,kH]
 unfold df
 have:(l.take 0++cZ D (seg l 0 b)++l.drop b).drop c=l.drop c:=by
  rw[εS,δp,List.drop_append,List.drop_eq_nil_of_le (by omega),δp,γV,a,show b+(c - b)=c by omega]
 grind[seg]
theorem acS {l:List Int} {p:bp} {n:Nat} (b:bC p=0) (i:n=l.length) (h:20<l.length) (g:l.length<=1000) (e:∀x∈l,iq p x) (j:l.Pairwise (·<·)):pK ((n,m20 (bL p) l,p),0,20,(l.length:Int)):=by
 obtain⟨f,d⟩:=@acR (bL p) l l.length rfl (by omega)
 refine⟨⟨⟨b,by grind[Ek]⟩,by grind[Ek],λx a=>e x (S9.mem_iff.1 a)⟩,⟨by simp_all,by simp_all,by grind,by grind[Ek]⟩,?_,?_,?_⟩
 ·simp_all[vN]
 ·simp_all[vN]
 ·show ∀x∈seg _ 0 20,∀y∈seg _ 20 _,x<y
  rw[show((l.length:Int)).toNat=l.length by omega,f,d]
  intro x a y c;rw[yc] at a c
  have:=γc 20 l
  grind
def J4:cV:=yg 168 1 Int Av J1 (λ_=>rfl) acM acN (λa=>(uk a.1/\a.1.2.1.Pairwise (·<·))/\a.2=a.1.2.1.length/\a.1.2.1.length<=40) λa=>cZ (bL a.1.2.2) a.1.2.1
def acT (n:Nat) (l:List Int) (p:bp):Nat->cB
 |2=> .inv (Int×Int×List Int) (λx=>⟨[(0,.ow 0 n 1),(1,.si .i64 l.length),(2,.fn (.func 127) [] [.ptr 1 0 20]),(6,.si .i64 20),(7,.si .i64 x.1),(8,.si .i64 x.2.1)],[.row (.i .i64) x.2.2 3 true,.cells p.ss 27 20 false]⟩) (λs=>(iS s 7,iS s 8,oS (.i .i64) s 0))
   (λx=>x.2.1=x.1+20/\(x.1=0/\x.2.2=l\/x.1=20/\20<=l.length/\x.2.2=df (bL p) l 0 20\/x.1=40/\l.length=40/\x.2.2=df (bL p) (df (bL p) l 0 20) 20 40)) (λx=>(1000 - x.1).toNat) λ_ _=> .look
 |7=> .inv (Int×List Int) (λx=>⟨[(0,.ow 0 n 1),(1,.si .i64 l.length),(2,.fn (.func 127) [] [.ptr 1 0 20]),(6,.si .i64 x.1)],[.row (.i .i64) x.2 3 true,.cells p.ss 27 20 false]⟩) (λs=>(iS s 6,oS (.i .i64) s 0))
   (λx=>x.1=20/\(l.length<=20/\x.2=cZ (bL p) l\/20<l.length/\x.2=m20 (bL p) l)\/x.1=40/\x.2=cZ (bL p) l) (λx=>(1000 - x.1).toNat) λx k=>match k with
    |9=> .inv (Int×Int×List Int) (λy=>⟨[(0,.ow 0 n 1),(1,.si .i64 l.length),(2,.fn (.func 127) [] [.ptr 1 0 20]),(6,.si .i64 x.1),(7,.si .i64 y.1),(8,.si .i64 y.2.1)],[.row (.i .i64) y.2.2 3 true,.cells p.ss 27 20 false]⟩) (λs=>(iS s 7,iS s 8,oS (.i .i64) s 0))
      (λy=>y.1=0/\y.2.1=40/\y.2.2=m20 (bL p) l\/y.1=40/\y.2.1=80/\l.length=40/\y.2.2=cZ (bL p) l) (λy=>(1000 - y.1).toNat) λ_ _=> .look
    |_=> .look
 |_=> .look
theorem h333:dK Tryz.prog J4:=by
 refine jk (L:=[]) (W:=[JU,qG 1001]) J4 (λa=>acT a.1.1 a.1.2.1 a.1.2.2) (by simp only[γG,δk,false_implies,implies_true,and_true];exact⟨h343,J0 1001⟩) (by simp) ?_
 rintro⟨⟨n,l,p⟩,N⟩ ⟨⟨⟨⟨hc,hn⟩,hl,ho⟩,hi⟩,hN,h40⟩
 simp only at hc hn hl ho hi hN h40
 subst hN
 refine bR (let a:=γe .i64;let b:=(20:Int);let c:=(40:Int);let d:=(0:Int);let e:=(1000:Int);let f:=bq.row;let g:=bX .i64;let h:=γq .i64;let j:=γq .i64 0;let k:=(80:Int);let o:=γ8 0 n 1;let q:=(↑l.length:Int);let r:=a q;let s:=SV.fn (Fn.func 127) [] [γW 1 0 20];let w:=a 20;let v:=bn.i .i64;let M:=f v l 3 true;let m:=bq.cells [a p.supply.a0,a p.supply.a1,a p.supply.a2,a p.supply.a3,a p.supply.a4,a p.supply.a5,a p.opn.a0,a p.opn.a1,a p.opn.a2,a p.opn.a3,a p.opn.a4,a p.opn.a5,a p.cls.a0,a p.cls.a1,a p.cls.a2,a p.cls.a3,a p.cls.a4,a p.cls.a5,Φ v p.classes,Φ bn.off p.offers] 27 20 false;let C:=df (bL p) l 0 20;let J:=df (bL p) C 20 40;let t:=cZ (bL p) l;let y:=m20 (bL p) l;(((o.same o/\r.same r/\s.same s/\(h 20).same w/\(h 0).same (a 0)/\(h 20).same w/\True)/\M.same M/\m.same m/\True)/\b=b/\(d=d/\l=l\/d=b/\20<=l.length/\l=C\/d=c/\l.length=40/\l=J))/\∀(x:Int×Int×List Int),let N:=decide (x.snd.fst<=q);let D:=x.fst.toNat;let E:=x.snd.fst+b;let O:=a x.snd.fst;let P:=a E;let F:=df (bL p) x.snd.snd D x.snd.fst.toNat;let Q:=f v F 3 true;let G:=df (bL p) x.snd.snd D q.toNat;let R:=f v G 3 true;x.snd.fst=x.fst+b/\(x.fst=d/\x.snd.snd=l\/x.fst=b/\20<=l.length/\x.snd.snd=C\/x.fst=c/\l.length=40/\x.snd.snd=J)->(N=true->(uk (n,x.snd.snd,p)/\JR x.snd.snd x.fst x.snd.fst/\ζA (λ(x1 x2:Int) ↦x1<x2) (seg x.snd.snd D x.snd.fst.toNat))/\g E/\((o.same o/\r.same r/\s.same s/\w.same w/\O.same O/\P.same P/\True)/\Q.same Q/\m.same m/\True)/\(E=E/\(x.snd.fst=d/\F=l\/x.snd.fst=b/\20<=l.length/\F=C\/x.snd.fst=c/\l.length=40/\F=J))/\(e - x.snd.fst).toNat<(e - x.fst).toNat)/\(N=false->(uk (n,x.snd.snd,p)/\JR x.snd.snd x.fst q/\ζA (λ(x1 x2:Int) ↦x1<x2) (seg x.snd.snd D q.toNat))/\(((o.same o/\r.same r/\s.same s/\w.same w/\True)/\R.same R/\m.same m/\True)/\(b=b/\(l.length<=20/\G=t\/20<l.length/\G=y)\/b=c/\G=t))/\∀(x:Int×List Int),let z:=(2:Int)*x.fst;let H:=a x.fst;let S:=a z;let K:=f v x.snd 3 true;let A:=x.fst*(2:Int);let T:=a A;x.fst=b/\(l.length<=20/\x.snd=t\/20<l.length/\x.snd=y)\/x.fst=c/\x.snd=t->(decide (x.fst<q)=true->g z/\(((o.same o/\r.same r/\s.same s/\H.same H/\(h 0).same (a 0)/\S.same S/\True)/\K.same K/\m.same m/\True)/\(d=d/\z=c/\x.snd=y\/d=c/\z=k/\l.length=40/\x.snd=t))/\∀(x_1:Int×Int×List Int),let B:=x_1.fst+x.fst;let U:=decide (x_1.snd.fst<=q);let I:=x_1.snd.fst+z;let V:=a x_1.snd.fst;let W:=a I;let L:=df (bL p) x_1.snd.snd x_1.fst.toNat x_1.snd.fst.toNat;let X:=f v L 3 true;let Y:=λ(u:List Int) ↦let Z:=f v u 3 true;g A/\((o.same o/\r.same r/\s.same s/\T.same T/\True)/\Z.same Z/\m.same m/\True)/\(A=b/\(l.length<=20/\u=t\/20<l.length/\u=y)\/A=c/\u=t)/\(e - A).toNat<(e - x.fst).toNat;let a6:=λ(u:Int) ↦pK ((n,x_1.snd.snd,p),x_1.fst,B,u)/\(u - x_1.fst).toNat<1001;x_1.fst=d/\x_1.snd.fst=c/\x_1.snd.snd=y\/x_1.fst=c/\x_1.snd.fst=k/\l.length=40/\x_1.snd.snd=t->(U=true->g B/\a6 x_1.snd.fst/\g z/\g I/\((o.same o/\r.same r/\s.same s/\H.same H/\V.same V/\W.same W/\True)/\X.same X/\m.same m/\True)/\(x_1.snd.fst=d/\I=c/\L=y\/x_1.snd.fst=c/\I=k/\l.length=40/\L=t)/\(e - x_1.snd.fst).toNat<(e - x_1.fst).toNat)/\(U=false->g B/\(decide (B<q)=true->a6 q/\Y (df (bL p) x_1.snd.snd x_1.fst.toNat q.toNat))/\(decide (B<q)=false->Y x_1.snd.snd)))/\(decide (x.fst<q)=false->(SV.bH []).same (SV.bH [])/\K.same (f v t 3 true)/\m.same m/\True))) (by kernel_rfl) ?_
 simp only[vcs]
 have pw:∀a b,(seg l a b).Pairwise (·<·):=λa b=>δZ ((List.take_sublist _ _).trans (List.drop_sublist _ _)) hi
 have e0:((l.length:Int)).toNat=l.length:=by omega
 rw[e0]
 refine⟨.inl trivial,?_⟩
 rintro⟨a,b,w⟩ ⟨hb,hw⟩
 simp only at hb hw ⊢
 subst hb
 refine⟨λh=>?_,λh=>?_⟩
 ·rcases hw with⟨rfl,rfl⟩|⟨rfl,h2,rfl⟩|⟨rfl,h2,rfl⟩
  ·refine⟨⟨⟨⟨hc,hn⟩,hl,ho⟩,⟨?_,?_,?_⟩,pw _ _⟩,?_,.inr (.inl ⟨?_,?_,rfl⟩),?_⟩<;>omega
  ·have hw:=@yd (bL p) l 0 20 (by omega) (by omega)
   exact⟨⟨⟨⟨hc,by simp only[hw];exact hn⟩,by simp only[hw];exact hl,λx hx=>ho x (Ar hx)⟩,⟨by omega,by omega,by rw[hw];omega⟩,by rw[Tc (by omega) (by omega)];exact pw _ _⟩,by omega,.inr (.inr ⟨by omega,by omega,rfl⟩),by omega⟩
  ·omega
 ·refine⟨?_,?_,?_⟩
  ·rcases hw with⟨rfl,rfl⟩|⟨rfl,h2,rfl⟩|⟨rfl,h2,rfl⟩
   ·refine⟨⟨⟨hc,hn⟩,hl,ho⟩,⟨?_,?_,?_⟩,pw _ _⟩<;>omega
   ·have hw:=@yd (bL p) l 0 20 (by omega) (by omega)
    exact⟨⟨⟨hc,by simp only[hw];exact hn⟩,by simp only[hw];exact hl,λx hx=>ho x (Ar hx)⟩,⟨by omega,by omega,by rw[hw];omega⟩,by rw[Tc (by omega) (by omega)];exact pw _ _⟩
   ·have hw:=@yd (bL p) l 0 20 (by omega) (by omega)
    have hw2:=@yd (bL p) (df (bL p) l 0 20) 20 40 (by omega) (by omega)
    rw[hw] at hw2
    refine⟨⟨⟨hc,by simp only[hw2];exact hn⟩,by simp only[hw2];exact hl,λx hx=>ho x (Ar (Ar hx))⟩,⟨by omega,by omega,by rw[hw2];omega⟩,?_⟩
    rw[h2]
    show(seg _ 40 40).Pairwise _
    rw[An];exact δA
  ·left
   rcases hw with⟨rfl,rfl⟩|⟨rfl,h2,rfl⟩|⟨rfl,h2,rfl⟩
   ·exact .inl ⟨by omega,J3 rfl⟩
   ·rcases Nat.lt_or_ge 20 l.length with h3|h3
    ·exact .inr ⟨h3,S8 rfl (by omega)⟩
    ·refine .inl ⟨h3,?_⟩
     rw[show l.length=20 by omega]
     show df _ _ 20 20=_
     rw[JK]
     exact J3 (by omega)
   ·refine .inr ⟨by omega,?_⟩
    rw[h2]
    show df _ _ 40 40=_
    rw[JK]
    exact S8 h2.symm (by omega)
  ·rintro⟨s,w⟩ hw
   simp only at hw ⊢
   refine⟨λh=>?_,λh=>sL ?_⟩
   ·have hs:s=20/\20<l.length/\w=m20 (bL p) l:=by
     rcases hw with⟨h1,h2|h2⟩|h2
     ·omega
     ·exact⟨h1,h2⟩
     ·omega
    obtain⟨rfl,h20,rfl⟩:=hs
    refine⟨by omega,.inl ⟨by omega,rfl⟩,?_⟩
    rintro⟨a,b,w⟩ hy
    simp only at hy ⊢
    have hd:=@acS l p n hc hn h20 hl ho hi
    rcases hy with⟨rfl,rfl,rfl⟩|⟨rfl,rfl,h4,rfl⟩
    ·refine⟨λh5=>?_,λh5=>⟨by omega,λh6=>?_,λh6=>by omega⟩⟩
     ·have h6:l.length=40:=by omega
      refine⟨by omega,⟨?_,by omega⟩,by omega,by omega,.inr ⟨by omega,by omega,h6,Ta h6.symm⟩,by omega⟩
      rw[h6] at hd;exact hd
     ·refine⟨⟨hd,?_⟩,?_,.inr ⟨?_,Ta rfl⟩,?_⟩<;>omega
    ·refine⟨λh5=>by omega,λh5=>⟨by omega,λh6=>by omega,λh6=>⟨by omega,.inr ⟨by omega,rfl⟩,by omega⟩⟩⟩
   ·rcases hw with⟨h1,h2|h2⟩|h2
    ·exact h2.2
    ·omega
    ·exact h2.2
def J5:cV:=yg 126 0 Unit Ej J2 (λ_=>rfl) acO acP (λa=>(uk a.1/\a.1.2.1.Pairwise (·<·))/\a.1.2.1.length<=40) λa=>cZ (bL a.1.2.2) a.1.2.1
theorem h319:dK Tryz.prog J5:=by
 refine jk (L:=[]) (W:=[J4]) J5 lk (by grind[h333]) (by simp) ?_
 rintro⟨⟨n,l,p⟩,u⟩ ⟨⟨⟨⟨g,h⟩,d,c⟩,e⟩,a⟩
 simp only at g h d c e a
 refine bR (let f:=bq.row (bn.i .i64) (cZ (bL p) l) 3 true;let b:=bq.cells (bp.ss p) 27 20 false;((uk (n,l,p)/\ζA (λj k ↦j<k) l)/\(↑n:Int)=(↑l.length:Int)/\l.length<=40)/\(SV.bH []).same (SV.bH [])/\f.same f/\b.same b/\True) (by kernel_rfl) ?_
 simp only[vcs]
 exact⟨⟨⟨⟨g,h⟩,d,c⟩,e⟩,by omega,a⟩
def dT (n:Nat):List Int:=(τ n).map λi:Nat=>(i:Int)
theorem js {n:Nat}:(dT n).length=n:=by simp[dT]
theorem yi {n:Nat}:dT (n+1)=dT n++[(n:Int)]:=by simp[dT,δR]
theorem Aw {n:Nat}:(dT n).Pairwise (·<·):=by
 unfold dT;rw[List.pairwise_map]
 exact List.pairwise_lt_range.imp λh=>by omega
theorem rD {n:Nat} {x:Int}:x∈dT n↔0<=x/\x<n:=by
 unfold dT;rw[List.mem_map]
 constructor
 ·grind
 ·rintro⟨b,a⟩
  exact⟨x.toNat,List.mem_range.2 (by omega),by omega⟩
def mH (n i:Nat):List Int:=dT i++ε (n - i) 0
theorem Td {n i:Nat} (h:i<=n):(mH n i).length=n:=by grind[mH,js]
theorem acU {n:Nat}:mH n 0=ε n 0:=by simp[mH,dT]
theorem acV {n:Nat}:mH n n=dT n:=by simp[mH]
theorem acW {n i:Nat} (h:i<n):(mH n i).set i (i:Int)=mH n (i+1):=by
 unfold mH
 rw[εq _ _ (by grind[js]),js,Nat.sub_self,show n - i=(n - (i+1))+1 by omega,List.replicate_succ,List.set_cons_zero,yi,γg]
 rfl
def vP (p:bp):List Int:=cZ (bL p) (dT p.offers.length)
def J6:bM:=⟨89,bp,.one dG,λp=>p.offers.length<=40,λp=> .row (.i .i64) (if bC p=0 then vP p else[])⟩
def acX (p:bp):Nat->cB
 |5=> .inv Int (λi=>⟨[(1,.ptr 0 0 20),(3,.ow 1 (mH p.offers.length i.toNat).length 1),(13,.si .i64 p.offers.length),(14,.si .i64 i)],[.cells p.ss 27 20 false,.row (.i .i64) (mH p.offers.length i.toNat) 3 true]⟩)
   (λs=>iS s 14) (λi=>0<=i/\i<=p.offers.length) (λi=>(p.offers.length - i).toNat) λ_ _=> .look
 |_=> .look
theorem h308:Holds Tryz.prog J6:=by
 refine con (L:=[ri]) (W:=fY [J5]) J6 acX (ln (by grind[h319])) (by grind[h79]) ?_
 intro(p:bp) (C:p.offers.length<=40)
 refine bR (let h:=γe .i64;let k:=(0:Int);let o:=bq.row;let s:=Φ;let t:=γ8;let q:=decide (bC p≠k);let d:=bn.i .i64;let r:=s d (if bC p=k then vP p else[]);let f:=(↑p.offers.length:Int);let m:=γW 0 0 20;let g:=p.offers.length;let e:=(↑g:Int);let n:=h e;let l:=bq.cells [h p.supply.a0,h p.supply.a1,h p.supply.a2,h p.supply.a3,h p.supply.a4,h p.supply.a5,h p.opn.a0,h p.opn.a1,h p.opn.a2,h p.opn.a3,h p.opn.a4,h p.opn.a5,h p.cls.a0,h p.cls.a1,h p.cls.a2,h p.cls.a3,h p.cls.a4,h p.cls.a5,s d p.classes,s bn.off p.offers] 27 20 false;True/\(q=true->(s d []).same r)/\(q=false->k<=f/\f<=f/\f*(8:Int)<=(140737488355328:Int)/\f<=(1000000000000:Int)/\(((m.same m/\(t 1 f.toNat 1).same (t 1 (mH g 0).length 1)/\(h (↑f.toNat:Int)).same n/\(γq .i64 0).same (h 0)/\True)/\l.same l/\(o d (ε f.toNat k) 3 true).same (o d (mH g 0) 3 true)/\True)/\k<=k/\k<=e)/\∀(x:Int),let c:=mH g x.toNat;let b:=c.length;let a:=x+(1:Int);let j:=h a;k<=x/\x<=e->(decide (x<e)=true->b=c.length/\k<=x/\x<(↑c.length:Int)/\b=c.length/\x.toNat<c.length/\bX .i64 a/\((m.same m/\(t 1 b 1).same (t 1 (mH g a.toNat).length 1)/\n.same n/\j.same j/\True)/\l.same l/\(o d (c.set x.toNat x) 3 true).same (o d (mH g a.toNat) 3 true)/\True)/\(k<=a/\a<=e)/\(e - a).toNat<(e - x).toNat)/\(decide (x<e)=false->((uk (b,c,p)/\ζA (λB v ↦B<v) c)/\b<=40)/\b=(cZ (bL p) c).length/\(s d (cZ (bL p) c)).same r))) (by kernel_rfl) ?_
 simp only[vcs]
 refine⟨λh=>by rw[if_neg h],λh=>?_⟩
 have s:bC p=0:=Classical.not_not.1 h
 rw[if_pos s]
 have A:((p.offers.length:Int)).toNat=p.offers.length:=by omega
 have k:∀{x y:Nat},x=y->(γ8 1 x 1).same (γ8 1 y 1):=by rintro _ _ rfl;rfl
 rw[A,acU]
 refine⟨by omega,by omega,by omega,by omega,⟨⟨⟨k (by simp),rfl⟩,rfl⟩,by omega,by omega⟩,?_⟩
 rintro i ⟨u,D⟩
 have E:=@Td p.offers.length i.toNat (by omega)
 refine⟨λz=>?_,λz=>?_⟩
 ·have o:=@acW p.offers.length i.toNat (by omega)
  rw[show((i.toNat:Nat):Int)=i by omega] at o
  have t:=@Td p.offers.length (i.toNat+1) (by omega)
  rw[show(i+1).toNat=i.toNat+1 by omega,o]
  exact⟨u,by omega,by omega,by omega,⟨k (by omega),rfl⟩,by omega,by omega⟩
 ·rw[show i.toNat=p.offers.length by omega,acV]
  refine⟨⟨⟨⟨⟨s,rfl⟩,by grind[js],λx w=>by have:=rD.1 w;exact this⟩,Aw⟩,by grind[js]⟩,by rw[nX],rfl⟩
end Go.Vi
namespace Go.Proofs
open Go.Shelf
def Tryz.layS_ren:Ren:=
 ⟨λ
  |189=>130
  |125=>171
  |257=>170
  |128=>210
  |129=>211
  |294=>201
  |295=>202
  |296=>203
  |297=>204
  |298=>205
  |299=>206
  |216=>207
  |300=>208
  |301=>209
  |328=>225
  |329=>226
  |330=>227
  |331=>228
  |332=>229
  |215=>230
  |343=>237
  |n=>n,
 λ
  |28=>24
  |3=>3
  |46=>245
  |0=>0
  |51=>235
  |53=>231
  |4=>4
  |183=>275
  |182=>274
  |131=>181
  |5=>5
  |9=>9
  |218=>284
  |222=>288
  |228=>297
  |229=>106
  |n=>n,
 λn=>n⟩
def Tryz.layC_ren:Ren:=
 ⟨λ
  |41=>86
  |n=>n,
 λ
  |22=>24
  |23=>3
  |4=>4
  |n=>n,
 λn=>n⟩
def Tryz.layD_ren:Ren:=
 ⟨λ
  |45=>166
  |n=>n,
 λ
  |22=>24
  |23=>3
  |3=>3
  |4=>4
  |0=>0
  |n=>n,
 λn=>n⟩
theorem Tryz.layS:Lays.n189 Tryz.prog Tryz.layS_ren:={mixed:=by kernel_rfl,f125:=Tryz.func171.trans (by kernel_rfl),f128:=Tryz.func210.trans (by kernel_rfl),f129:=Tryz.func211.trans (by kernel_rfl),f189:=Tryz.func130.trans (by kernel_rfl),f215:=Tryz.func230.trans (by kernel_rfl),f216:=Tryz.func207.trans (by kernel_rfl),f257:=Tryz.func170.trans (by kernel_rfl),f294:=Tryz.func201.trans (by kernel_rfl),f295:=Tryz.func202.trans (by kernel_rfl),f296:=Tryz.func203.trans (by kernel_rfl),f297:=Tryz.func204.trans (by kernel_rfl),f298:=Tryz.func205.trans (by kernel_rfl),f299:=Tryz.func206.trans (by kernel_rfl),f300:=Tryz.func208.trans (by kernel_rfl),f301:=Tryz.func209.trans (by kernel_rfl),f328:=Tryz.func225.trans (by kernel_rfl),f329:=Tryz.func226.trans (by kernel_rfl),f330:=Tryz.func227.trans (by kernel_rfl),f331:=Tryz.func228.trans (by kernel_rfl),f332:=Tryz.func229.trans (by kernel_rfl),f343:=Tryz.func237.trans (by kernel_rfl),t0:=Tryz.underlying0,a0:=Tryz.isAgg0,z0:=Tryz.sizeOf0,v0:=Tryz.zeroValue0,t3:=Tryz.underlying3,a3:=Tryz.isAgg3,z3:=Tryz.sizeOf3,v3:=Tryz.zeroValue3,t4:=Tryz.underlying4,a4:=Tryz.isAgg4,z4:=Tryz.sizeOf4,v4:=Tryz.zeroValue4,t5:=Tryz.underlying5,a5:=Tryz.isAgg5,z5:=Tryz.sizeOf5,v5:=Tryz.zeroValue5,t9:=Tryz.underlying9,a9:=Tryz.isAgg9,z9:=Tryz.sizeOf9,v9:=Tryz.zeroValue9,t28:=Tryz.underlying24,a28:=Tryz.isAgg24,z28:=Tryz.sizeOf24,v28:=Tryz.zeroValue24,t46:=Tryz.underlying245,a46:=Tryz.isAgg245,z46:=Tryz.sizeOf245,v46:=Tryz.zeroValue245,t51:=Tryz.underlying235,a51:=Tryz.isAgg235,z51:=Tryz.sizeOf235,v51:=Tryz.zeroValue235,t53:=Tryz.underlying231,a53:=Tryz.isAgg231,z53:=Tryz.sizeOf231,v53:=Tryz.zeroValue231,t131:=Tryz.underlying181,a131:=Tryz.isAgg181,z131:=Tryz.sizeOf181,v131:=Tryz.zeroValue181,t182:=Tryz.underlying274,a182:=Tryz.isAgg274,z182:=Tryz.sizeOf274,v182:=Tryz.zeroValue274,t183:=Tryz.underlying275,a183:=Tryz.isAgg275,z183:=Tryz.sizeOf275,v183:=Tryz.zeroValue275,t218:=Tryz.underlying284,a218:=Tryz.isAgg284,z218:=Tryz.sizeOf284,v218:=Tryz.zeroValue284,t222:=Tryz.underlying288,a222:=Tryz.isAgg288,z222:=Tryz.sizeOf288,v222:=Tryz.zeroValue288,t228:=Tryz.underlying297,a228:=Tryz.isAgg297,z228:=Tryz.sizeOf297,v228:=Tryz.zeroValue297,t229:=Tryz.underlying106,a229:=Tryz.isAgg106,z229:=Tryz.sizeOf106,v229:=Tryz.zeroValue106}
theorem Tryz.layC:SlLaysE0.n41 Tryz.prog Tryz.layC_ren:={mixed:=by kernel_rfl,f41:=⟨Tryz.f86.name,by decide,Tryz.func86.trans (by kernel_rfl)⟩,t4:=Tryz.underlying4,a4:=Tryz.isAgg4,z4:=Tryz.sizeOf4,v4:=Tryz.zeroValue4,t22:=Tryz.underlying24,a22:=Tryz.isAgg24,z22:=Tryz.sizeOf24,v22:=Tryz.zeroValue24}
theorem Tryz.layD:SlLaysE.n45 Tryz.prog Tryz.layD_ren:={mixed:=by kernel_rfl,f45:=⟨Tryz.f166.name,by decide,Tryz.func166.trans (by kernel_rfl)⟩,t0:=Tryz.underlying0,a0:=Tryz.isAgg0,z0:=Tryz.sizeOf0,v0:=Tryz.zeroValue0,t3:=Tryz.underlying3,a3:=Tryz.isAgg3,z3:=Tryz.sizeOf3,v3:=Tryz.zeroValue3,t4:=Tryz.underlying4,a4:=Tryz.isAgg4,z4:=Tryz.sizeOf4,v4:=Tryz.zeroValue4,t22:=Tryz.underlying24,a22:=Tryz.isAgg24,z22:=Tryz.sizeOf24,v22:=Tryz.zeroValue24,a23:=Tryz.isAgg3,z23:=Tryz.sizeOf3}
end Go.Proofs
