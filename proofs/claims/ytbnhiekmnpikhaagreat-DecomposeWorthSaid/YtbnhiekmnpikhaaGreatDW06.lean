import Derived.Test.YtbnhiekmnpikhaaGreatDW05
set_option maxRecDepth 100000
set_option maxHeartbeats 4000000
set_option linter.all false
open Bool renaming eq_false_iff->δO,and_eq_true->ζ
open Classical renaming choose->δU,not_not->γa
open Go.Vi.AV renaming sl->θk,sc->δe,os->θD
open Go.Vi.AV.os renaming injEq->εH
open Go.Vi.AV.sc renaming injEq->δa
open Go.Vi.AV.sl renaming injEq->δ9
open Go.Vi.SV renaming g->ε8,si->γc,ow->γZ,row->Ω,ptr->γM,sb->γA,il->γu,bl->δb,agg->γG
open Int renaming toNat_natCast->γg,le_refl->εk
open IntCast renaming intCast->κ
open List renaming range->Γ,filter_cons->θs,filter_append->δV,length_append->γF,append_inj->εM,map_map->γO,map_id->θa,map_congr_left->γI,length_map->Φ,map_cons->ν,map_nil->γv,length->γf,nodup_append->γy,getElem_of_mem->γJ,mem_append->γo,filter_sublist->γn,length_filter_le->γT,mem_map->Δ,all_eq_true->τ,mem_range->γt,mem_append_left->εw,mem_append_right->εp,replicate->δ,length_take->γx,ext_getElem->γ7,length_replicate->γD,getElem_set->ε5,getElem_map->δF,getElem_range->εP,take->Ξ,take_length->φ,map->γd,map_append->γb,length_set->γm,flatMap->θo,elem->ζ0,pairwise_cons->γp,mem_cons->γl,mem_cons_of_mem->γe,sum_cons->εt,perm_ext_iff_of_nodup->γ6,sum_append->θx,idxOf_lt_length_of_mem->γ5,getElem?_set_ne->δq,mem_of_mem_take->γj,range_eq_range'->δH,take_append_drop->γS
open List.cons renaming injEq->χ
open Nat renaming mul_le_mul->ζv,le_refl->π,one_le_two_pow->θf
open Option renaming isNone_iff_eq_none->δZ,map_eq_some_iff->ε
open Option.some renaming injEq->γ
open Prod renaming ext->εD
open Rat renaming mul_nonneg->δw
namespace Go.Vi
def dN (t:Tb):Nat->Int
 |0=> -1
 |k+1=>if 0<t.cs k/\(dN t k<0\/t.fv k<t.fv (dN t k).toNat) then(k:Int) else dN t k
def dr (t:Tb) (c:Nat):Nat->Int
 |0=> -1
 |k+1=>if t.cf k c<=0 then dr t c k
  else if 0<=dr t c k/\(t.bd (dr t c k).toNat / t.cf (dr t c k).toNat c<t.bd k / t.cf k c\/(t.bd k / t.cf k c=t.bd (dr t c k).toNat / t.cf (dr t c k).toNat c/\t.bv (dr t c k).toNat<t.bv k)) then dr t c k
  else(k:Int)
section
variable {n m:Nat} {t t0:Tb} {r c:Nat}
theorem rO:∀{k:Nat},(dN t k= -1/\∀j,j<k->¬0<t.cs j)\/(∃b:Nat,dN t k=b/\b<k/\0<t.cs b/\∀j,j<k->0<t.cs j->t.fv b<=t.fv j)
 |0=> .inl ⟨rfl,λj h=>by omega⟩
 |k+1=>by
  unfold dN;rcases @rO k with⟨a,c⟩|⟨b,a,c,d,e⟩;·grind
  ·have f:(dN t k).toNat=b:=by omega
   grind
theorem tI {c:Nat}:∀{k:Nat},(dr t c k= -1/\∀j,j<k->t.cf j c<=0)\/(∃b:Nat,dr t c k=b/\b<k/\0<t.cf b c/\∀j,j<k->0<t.cf j c->t.bd b / t.cf b c<t.bd j / t.cf j c\/(t.bd b / t.cf b c=t.bd j / t.cf j c/\t.bv b<=t.bv j))
 |0=> .inl ⟨rfl,λj h=>by omega⟩
 |k+1=>by
  unfold dr;by_cases e:t.cf k c<=0
  ·rw[if_pos e];rcases @tI c k with⟨f,a⟩|⟨b,f,a,o,n⟩<;>grind
  ·rw[if_neg e];have g:0<t.cf k c:=Rat.not_le.1 e;rcases @tI c k with⟨f,a⟩|⟨b,f,a,o,n⟩;·grind
   ·have i:(dr t c k).toNat=b:=by omega
    rw[i];by_cases d:0<=dr t c k/\(t.bd b / t.cf b c<t.bd k / t.cf k c\/(t.bd k / t.cf k c=t.bd b / t.cf b c/\t.bv b<t.bv k));·grind
    ·rw[if_neg d];have l:¬t.bd b / t.cf b c<t.bd k / t.cf k c:=λh=>d ⟨by omega,.inl h⟩;have m:t.bd k / t.cf k c=t.bd b / t.cf b c->¬t.bv b<t.bv k:=λh a=>d ⟨by omega,.inr ⟨h,a⟩⟩;refine .inr ⟨k,rfl,by omega,g,λj p q=>?_⟩;grind
end
def n' (n m:Nat) (t:Tb):Option Tb:=
 if dN t n<0 then none
 else if dr t (dN t n).toNat m<0 then none
 else some (fi t (dr t (dN t n).toNat m).toNat (dN t n).toNat)
def eC (n m:Nat):Nat->Tb->Bool
 |0,t=>(n' n m t).isNone
 |k+1,t=>match n' n m t with
  |none=>true
  |some a=>eC n m k a
def y' (n m:Nat):Nat->Tb->Tb
 |0,t=>t
 |k+1,t=>match n' n m t with
  |none=>t
  |some a=>y' n m k a
def uV (n m N:Nat) (t:Tb):Nat:=((Γ N).filter λk=>!eC n m k t).length
section
variable {n m:Nat} {t t0 t':Tb}
theorem MB (h:n' n m t=some t'):∃r c,pG n m t r c/\t'=fi t r c/\dN t n=(c:Int)/\dr t c m=(r:Int):=by
 unfold n' at h;split at h;·cases h
 ·rename_i p;split at h;·cases h
  ·rename_i o;injection h with h;rcases @rO t n with⟨b,_⟩|⟨c,b,d,e,k⟩;·omega
   ·have f:(dN t n).toNat=c:=by omega
    rw[f] at h o;rcases @tI t c m with⟨a,_⟩|⟨r,a,i,j,l⟩;·omega
    ·have g:(dr t c m).toNat=r:=by omega
     rw[g] at h;exact⟨r,c,⟨i,d,e,k,j,l⟩,h.symm,b,a⟩
theorem Fi (b:dx n m t0 t) (d:jQ m t) (h:n' n m t=some t'):dx n m t0 t'/\jQ m t':=by obtain⟨r,c,a,rfl,_⟩:=MB h;exact⟨b.Rm a.hr a.hc (by have:=a.pos;grind),a.vc b.wf d⟩
theorem Fh:∀{k:Nat} {t:Tb},eC n m k t=true->eC n m (k+1) t=true
 |0,t,h=>by
  grind[eC];|k+1,t,h=>by
  unfold eC at h ⊢;split;·rfl
  next b a=>rw[a] at h;exact Fh h
theorem n5 {N:Nat} (b:eC n m N t=true) (h:n' n m t=some t'):uV n m N t'<uV n m N t:=by
 unfold uV;have e:∀k,eC n m k t'=eC n m (k+1) t:=λk=>by grind[eC]
 have c:eC n m 0 t=false:=by simp[eC,h]
 simp only[e];cases N with
 |zero=>simp_all;|succ N=>
  have a:∀f:Nat->Bool,((Γ (N+1)).filter f).length=(if f 0 then 1 else 0)+((Γ N).filter λk=>f (k+1)).length:=λf=>by rw[List.range_succ_eq_map,θs,List.filter_map,];grind[Function.comp_def]
  rw[a (λk=>!eC n m k t),c];rw[List.range_succ,δV,γF];simp[b]
theorem MA {N:Nat} (a:eC n m N t=true) (h:n' n m t=some t'):eC n m N t'=true:=by cases N<;>grind[eC,Fh]
theorem Fg (D:dx n m t0 t) (o:jQ m t):∃N,eC n m N t=true:=by
 apply Classical.byContradiction;intro u;have e:∀N,eC n m N t=false:=λN=>by simp_all
 let T:Nat->Tb:=λk=>Nat.rec t (λ_ s=>(n' n m s).getD s) k;have d:∀k,T (k+1)=(n' n m (T k)).getD (T k):=λk=>rfl;have A:∀k N,eC n m N (T k)=false:=by
  intro k;induction k with
  |zero=>exact e;|succ k l=>
   intro N;rw[d];cases z:n' n m (T k) with
   |none=>simp_all;|some q=>
    have:=l (N+1);grind[eC]
 have w:∀k,n' n m (T k)=some (T (k+1)):=λk=>by
  rw[d];cases z:n' n m (T k) with
  |none=>have:=A k 0;grind[eC];|some q=>rfl
 have a:∀k,dx n m t0 (T k)/\jQ m (T k):=by
  intro k;induction k with
  |zero=>exact⟨D,o⟩;|succ k l=>grind[Fi]
 have b:∀k,∃p:Nat×Nat,pG n m (T k) p.1 p.2/\T (k+1)=fi (T k) p.1 p.2:=λk=>by obtain⟨r,c,f,E,_⟩:=MB (w k);exact⟨(r,c),f,E⟩
 let p:Nat->Nat×Nat:=λk=>δU (b k);have h:∀k,pG n m (T k) (p k).1 (p k).2/\T (k+1)=fi (T k) (p k).1 (p k).2:=λk=>Classical.choose_spec (b k);obtain⟨i,j,g,B⟩:=EG (xf (t0.basic++t0.free) (m+n)) (λk=>(T k).basic++(T k).free) λk=>by have f:=@L9 (t0.basic++t0.free) ((T k).basic++(T k).free) λv C=>(a k).1.perm.mem_iff.1 C;rwa [γF,(a k).1.wf.basic,(a k).1.wf.free] at f
 obtain⟨y,x⟩:=εM B (by rw[(a i).1.wf.basic,(a j).1.wf.basic]);exact Ww (λk=>(a k).1) (λk=>(a k).2) (λk=>(h k).1) (λk=>(h k).2) g y x
end
open Go.Proofs.YtbnhiekmnpikhaaGreat.Ir
open Go.Proofs
def fL (l:List Rat):List NH:=l.map nf
def fM (l:List (List Rat)):List (List NH):=l.map fL
def vL (l:List NH):List Rat:=l.map TM
theorem ku (l:List Rat):vL (fL l)=l:=by
 unfold vL fL;rw[γO];conv=>rhs;rw[<-θa l]
 exact γI λq _=>dR q
theorem jt (x:NH):(x.1,x.2.1,x.2.2)=x:=rfl
theorem ff {l:List Rat}:(fL l).length=l.length:=Φ _
theorem Ff {l:List (List Rat)}:(fM l).length=l.length:=Φ _
theorem iR {l:List Rat} {i:Nat} (h:i<l.length) {d:NH}:bN (fL l) i d=nf (bN l i 0):=by grind[bR,fL]
theorem Fe {l:List (List Rat)} {i:Nat} (h:i<l.length) {d:List NH}:bN (fM l) i d=fL (bN l i []):=by grind[bR,fM]
structure mj where
 n:Int
 m:Int
 k0:Nat
 k1:Nat
 k3:Nat
 k4:Nat
 VL:List (List NH)
 bound:List NH
 cost:List NH
 v:NH
 basic:List Int
 free:List Int
def mj.gh (x:mj):VI:=
 [.cells [.si .i64 x.n,.si .i64 x.m,.ow 1 x.k0 1,.ow 2 x.k1 3,.row sF x.cost,.sb x.v.1,.row (.i .u32) x.v.2.1,.row (.i .u32) x.v.2.2,.ow 3 x.k3 1,.ow 4 x.k4 1] 261 10 false,
  .row (.zi sF) x.VL 106 false,.row sF x.bound 177 false,.row (.i .i64) x.basic 3 false,.row (.i .i64) x.free 3 false]
def AF:VI->Option mj
 |[.cells [a,b,.ow 1 k0 1,.ow 2 k1 3,c,v0,v1,v2,.ow 3 k3 1,.ow 4 k4 1] 261 10 false,.row s1 l1 106 false,.row s2 l2 177 false,.row s3 l3 3 false,.row d l4 3 false]=>
  match a.int .i64,b.int .i64,fZ sF c,jx sF [v0,v1,v2] with
  |some a,some b,some c,some v=>match gX s1 (.zi sF) l1,gX s2 sF l2,gX s3 (.i .i64) l3,gX d (.i .i64) l4 with
   |some l1,some l2,some l3,some l4=>some ⟨a,b,k0,k1,k3,k4,l1,l2,c,v,l3,l4⟩
   |_,_,_,_=>none
  |_,_,_,_=>none
 |_=>none
theorem Vj {o:VI} {x:mj} (h:AF o=some x):gO o=gO x.gh:=by
 unfold AF at h;split at h
 ·split at h
  ·rename_i p l c e;split at h
   next n j k m=>simp only[γ] at h;subst h;obtain⟨rfl,f⟩:=lU n;obtain⟨rfl,b⟩:=lU j;obtain⟨rfl,d⟩:=lU k;obtain⟨rfl,i⟩:=lU m;cases f;cases b;cases d;cases i;have a:=ns e;simp only[ν,γv,dh,cD,χ,and_true,List.nil_append,List.cons_append] at a;simp only[mj.gh,gO,ν,γv,iZ.g,gL,iq p,iq l,jF c,ε8];simp only[a];rfl
   ·cases h
  ·cases h
 ·cases h
theorem nJ {s:cj} {a b:List s.T} (h:bO s a=bO s b):a=b:=by
 by_cases d:s.sz=0;·exact absurd d (by
   have:∀s:cj,0<s.sz:=λs=>by induction s<;>simp only[cj.sz]<;>omega
   grind)
 ·have c:=congrArg γf h;rw[eh,eh] at c;exact kK s (Nat.eq_of_mul_eq_mul_right (by omega) c) h
theorem Vh {x y:mj} (h:gO x.gh=gO y.gh):x=y:=by obtain⟨n,m,B,M,G,J,c,b,g,⟨I,K,F⟩,D,C⟩:=x;obtain⟨H,L,a,p,r,l,N,E,A,⟨k,w,q⟩,j,u⟩:=y;simp only[mj.gh,gO,ν,γv,iZ.g,gL,ε8,χ,OL.cells.injEq,and_true,true_and,δa,Value.int.injEq,Value.bool.injEq,εH,δ9] at h;obtain⟨⟨rfl,rfl,⟨rfl,_⟩,⟨rfl,_⟩,⟨_,d⟩,rfl,⟨_,v⟩,⟨_,e⟩,⟨rfl,_⟩,⟨rfl,_⟩⟩,f,t,o,z⟩:=h;rw[nJ (s:=sF) d,nJ (s:=.i .u32) v,nJ (s:=.i .u32) e,nJ (s:=.zi sF) f,nJ (s:=sF) t,nJ (s:=.i .i64) o,nJ (s:=.i .i64) z]
abbrev FV (n m:Int) (t:Tb):mj:=⟨n,m,t.VL.length,t.bound.length,t.basic.length,t.free.length,fM t.VL,fL t.bound,fL t.cost,nf t.value,t.basic,t.free⟩
def mj.t (x:mj):Tb:=⟨x.VL.map vL,vL x.bound,vL x.cost,TM x.v,x.basic,x.free⟩
theorem qM {n m:Int} {t:Tb}:(FV n m t).t=t:=by
 have e:(fM t.VL).map vL=t.VL:=by
  unfold fM;rw[γO];conv=>rhs;rw[<-θa t.VL]
  exact γI λq _=>ku q
 simp_all[mj.t,ku,dR]
theorem Vg (x:mj):(⟨x.n,x.m,x.k0,x.k1,x.k3,x.k4,x.VL,x.bound,x.cost,(x.v.1,x.v.2.1,x.v.2.2),x.basic,x.free⟩:mj)=x:=rfl
theorem Mz {n m:Int} {t:Tb}:(FV n m t).n=n:=rfl
theorem My {n m:Int} {t:Tb}:(FV n m t).m=m:=rfl
def sW (k:Nat) (t:Tb):Prop:=(∀l∈t.VL,∀q∈l,Sz k q)/\(∀q∈t.bound,Sz k q)/\(∀q∈t.cost,Sz k q)/\Sz k t.value
def jW (n m:Int) (t:Tb):Prop:=((0<=n/\n<=1000)/\(0<=m/\m<=1000))/\t.WF n.toNat m.toNat/\sW 1000000 t
def rN (f:FuncId) (c:Type) (A:oJ c) (i:Int->Int->Tb->c->Prop) (e:Int->Int->Tb->c->SV) (out:Int->Int->Tb->c->Tb):cC where
 f:=f;α:=mj×c;put a:=.ptr 0 0 10::A.put a.2;st a:=a.1.gh;dec v o:=match v with
  | .ptr 0 0 10::r=>match AF o,A.dec r with
   |some s,some b=>some (s,b)
   |_,_=>none
  |_=>none;ok v o a h:=by
  split at h
  ·split at h
   next d g=>simp only[γ] at h;subst h;exact⟨by simp only[gL,A.ok _ _ g],Vj d⟩
   ·cases h
  ·cases h
 inj a b d g:=by simp only[gL,χ,true_and] at d;exact εD (Vh g) (A.inj _ _ d)
 dom a:=∃n m t,a.1=FV n m t/\jW n m t/\i n m t a.2;res a:=e a.1.n a.1.m a.1.t a.2;out a:=(FV a.1.n a.1.m (out a.1.n a.1.m a.1.t a.2)).gh
theorem df {q:Rat} {k:Nat} (h:Sz k q) (a:k<=100000000):bP (nf q):=⟨q,k,rfl,h,a⟩
section
variable {n m:Int} {t:Tb}
theorem jW.cf (h:jW n m t) {i j:Nat} (a:i<m.toNat) (c:j<n.toNat):Sz 1000000 (t.cf i j):=by have b:=cy (l:=t.VL) (d:=[]) (show i<t.VL.length by rw[h.2.1.VL];exact a);exact h.2.2.1 _ b _ (cy (by rw[h.2.1.row i a];exact c))
theorem jW.bd (h:jW n m t) {i:Nat} (a:i<m.toNat):Sz 1000000 (t.bd i):=h.2.2.2.1 _ (cy (by rw[h.2.1.bound];exact a))
theorem jW.cs (h:jW n m t) {j:Nat} (a:j<n.toNat):Sz 1000000 (t.cs j):=h.2.2.2.2.1 _ (cy (by rw[h.2.1.cost];exact a))
end
theorem rM {q:Rat}:0<jh q↔0<q:=by grind[jh]
theorem Fc {q:Rat}:jh q=0↔q=0:=by grind[jh]
theorem xM {q:Rat}:jh q<0↔q<0:=by grind[jh]
def Fb:cC:=rN 179 Unit .nil (λ_ _ _ _=>True) (λn _ t _=> .si .i64 (dN t n.toNat)) (λ_ _ t _=>t)
def Vf (n m:Int) (t:Tb):Nat->bH
 |3=> .inv Int (λj=>⟨[(0,.ptr 0 0 10),(3,.si .i64 (dN t j.toNat)),(9,.ow 4 t.free.length 1),(10,.si .i64 t.free.length),(11,.si .i64 j)],(FV n m t).gh⟩)
   (λs=>iS s 11) (λj=>0<=j/\j<=n) (λj=>(n - j).toNat) λ_ _=> .look
 |_=> .look
theorem I4:g' Fb:=by
 refine jE (L:=[qx]) (W:=[]) Fb (λa=>Vf a.1.n a.1.m a.1.t) (by simp) (by simpa using sZ) ?_;rintro⟨x,u⟩ ⟨n,m,t,V,P, -⟩;simp only at V;subst V;refine NI (let a:=γc .i64;let b:=(0:Int);let c:=iZ.row;let d:=γZ;let e:=Ω;let r:=γM 0 0 10;let s:=(FV n m t).t;let F:=d 4 (FV n m t).k4 1;let y:=s.free.length;let z:=d 4 y 1;let A:=a (↑y:Int);let g:=(FV n m t).n;let B:=cj.i .u32;let f:=FV g (FV n m t).m s;let k:=iZ.cells [a f.n,a f.m,d 1 f.k0 1,d 2 f.k1 3,e sF f.cost,γA f.v.1,e B f.v.2.1,e B f.v.2.2,d 3 f.k3 1,d 4 f.k4 1] 261 10 false;let l:=c sF.zi f.VL 106 false;let o:=c sF f.bound 177 false;let C:=cj.i .i64;let p:=c C f.basic 3 false;let q:=c C f.free 3 false;let j:=f.free.length;(((r.bi r/\(γu .i64 (-1:Int)).bi (a (dN s 0))/\F.bi z/\(a (↑(FV n m t).k4:Int)).bi A/\(γu .i64 0).bi (a 0)/\True)/\(iZ.cells [a g,a (FV n m t).m,d 1 (FV n m t).k0 1,d 2 (FV n m t).k1 3,e sF (FV n m t).cost,γA (FV n m t).v.1,e B (FV n m t).v.2.1,e B (FV n m t).v.2.2,d 3 (FV n m t).k3 1,F] 261 10 false).bi k/\(c sF.zi (FV n m t).VL 106 false).bi l/\(c sF (FV n m t).bound 177 false).bi o/\(c C (FV n m t).basic 3 false).bi p/\(c C (FV n m t).free 3 false).bi q/\True)/\b<=b/\b<=g)/\∀(x:Int),let h:=x+(1:Int);let w:=dN s x.toNat;let G:=a w;let H:=a (dN s h.toNat);let D:=a h;let E:=bN f.cost x.toNat sF.bw;let I:=(E.1,E.2.1,E.2.2);let J:=decide (x<(↑y:Int));let K:=decide (w<b);let L:=decide (bN f.free x.toNat b<bN f.free w.toNat b);let M:=TP .i64 h/\((r.bi r/\G.bi H/\z.bi z/\A.bi A/\D.bi D/\True)/\k.bi k/\l.bi l/\o.bi o/\p.bi p/\q.bi q/\True)/\(b<=h/\h<=g)/\(g - h).toNat<(g - x).toNat;let N:=TP .i64 h/\((r.bi r/\(a x).bi H/\z.bi z/\A.bi A/\D.bi D/\True)/\k.bi k/\l.bi l/\o.bi o/\p.bi p/\q.bi q/\True)/\(b<=h/\h<=g)/\(g - h).toNat<(g - x).toNat;let O:=λ(u:Bool) ↦decide (b<jh (TM I))=u;b<=x/\x<=g->(J=true->y=j/\b<=x/\x<(↑j:Int)/\y=j/\x.toNat<j/\b<=x/\x<(↑f.cost.length:Int)/\x.toNat<f.cost.length/\bP I/\(O true->(K=true->N)/\(K=false->f.k4=j/\b<=w/\w<(↑j:Int)/\f.k4=j/\w.toNat<j/\(L=true->N)/\(L=false->M)))/\(O false->M))/\(J=false->G.bi (a (dN s g.toNat))/\k.bi k/\l.bi l/\o.bi o/\p.bi p/\q.bi q/\True)) (by kernel_rfl) ?_;simp only[qM];try simp only[FV]
 simp only[vcs];obtain⟨⟨⟨n0,n1⟩,m0,m1⟩,hw,hz⟩:=id P;have hfl:=hw.free;have hcl:=hw.cost;have hfc:=@ff t.cost;refine⟨⟨rfl,by omega⟩,?_⟩;rintro j ⟨U,j1⟩;have Y:dN t (j+1).toNat=if 0<t.cs j.toNat/\(dN t j.toNat<0\/t.fv j.toNat<t.fv (dN t j.toNat).toNat) then(j.toNat:Int) else dN t j.toNat:=by rw[show(j+1).toNat=j.toNat+1 by omega];rfl
 have hb:dN t j.toNat<j.toNat:=by rcases @rO t j.toNat with⟨h,_⟩|⟨b,h,hlt,_⟩<;>omega
 refine⟨λX=>?_,λX=>by rw[show j.toNat=n.toNat by omega]⟩;have hc:bN (fL t.cost) j.toNat sF.bw=nf (t.cs j.toNat):=iR (by omega);simp only[hc,jt,dR,decide_eq_true_eq,decide_eq_false_iff_not,rM];have Q:∀k:Nat,bN t.free k 0=t.fv k:=λk=>rfl;rw[Q,Q,Y];refine⟨U,X,by omega,U,by omega,by omega,df (P.cs (by omega)) (by omega),λR=>⟨λS=>?_,λS=>⟨by omega,by omega,by omega,λT=>?_,λT=>?_⟩⟩,λR=>?_⟩
 ·rw[if_pos ⟨R,.inl S⟩];omega
 ·rw[if_pos ⟨R,.inr T⟩];omega
 ·rw[if_neg λh=>h.2.elim S T];omega
 ·rw[if_neg λh=>R h.1];omega
def mi (t:Tb) (c k:Nat):NH:=if dr t c k<0 then(false,([],[])) else nf (t.bd (dr t c k).toNat / t.cf (dr t c k).toNat c)
def Fa:cC:=rN 180 Int (.one (dY .i64)) (λn _ _ c=>0<=c/\c<n) (λ_ m t c=> .si .i64 (dr t c.toNat m.toNat)) (λ_ _ t _=>t)
def Ve (n m:Int) (t:Tb) (c:Int):Nat->bH
 |4=> .inv Int (λi=>⟨[(0,.ptr 0 0 10),(1,.si .i64 c),(5,.si .i64 (dr t c.toNat i.toNat)),(6,.ptr 5 0 3),(15,.ow 1 t.VL.length 1),(16,.si .i64 t.VL.length),(17,.si .i64 i)],(FV n m t).gh++[.cells [.sb (mi t c.toNat i.toNat).1,.row (.i .u32) (mi t c.toNat i.toNat).2.1,.row (.i .u32) (mi t c.toNat i.toNat).2.2] 177 3 false,.dead,.dead]⟩)
   (λs=>iS s 17) (λi=>0<=i/\i<=m) (λi=>(m - i).toNat) λ_ _=> .look
 |_=> .look
theorem I3:g' Fa:=by
 refine jE (L:=[qx,uO,AG]) (W:=[]) Fa (λa=>Ve a.1.n a.1.m a.1.t a.2) (by simp) (by simpa using⟨sZ,zB,zd⟩) ?_;rintro⟨x,c⟩ ⟨n,m,t,hx,hok,hd⟩;simp only at hx hd;subst hx;refine NI (let a:=γc .i64;let b:=(0:Int);let d:=Ω;let e:=iZ.cells;let f:=iZ.row;let g:=γZ;let h:=γA;let A:=γM 0 0 10;let p:=(FV n m t).t;let B:=γM 5 0 3;let U:=g 1 (FV n m t).k0 1;let H:=p.VL.length;let I:=g 1 H 1;let J:=a (↑H:Int);let l:=(FV n m t).m;let k:=cj.i .u32;let j:=FV (FV n m t).n l p;let r:=e [a j.n,a j.m,g 1 j.k0 1,g 2 j.k1 3,d sF j.cost,h j.v.1,d k j.v.2.1,d k j.v.2.2,g 3 j.k3 1,g 4 j.k4 1] 261 10 false;let C:=j.VL;let s:=f sF.zi C 106 false;let D:=j.bound;let w:=f sF D 177 false;let L:=cj.i .i64;let y:=f L j.basic 3 false;let z:=f L j.free 3 false;let O:=mi p c.toNat 0;let a9:=sF.zi.bw;let q:=j.basic.length;0=0/\0=0/\(((A.bi A/\(a c).bi (a c)/\(γu .i64 (-1:Int)).bi (a (dr p c.toNat 0))/\B.bi B/\U.bi I/\(a (↑(FV n m t).k0:Int)).bi J/\(γu .i64 0).bi (a 0)/\True)/\(e [a (FV n m t).n,a l,U,g 2 (FV n m t).k1 3,d sF (FV n m t).cost,h (FV n m t).v.1,d k (FV n m t).v.2.1,d k (FV n m t).v.2.2,g 3 (FV n m t).k3 1,g 4 (FV n m t).k4 1] 261 10 false).bi r/\(f sF.zi (FV n m t).VL 106 false).bi s/\(f sF (FV n m t).bound 177 false).bi w/\(f L (FV n m t).basic 3 false).bi y/\(f L (FV n m t).free 3 false).bi z/\(e [δb false,d k [],d k []] 177 3 false).bi (e [h O.1,d k O.2.1,d k O.2.2] 177 3 false)/\iZ.dead.bi iZ.dead/\iZ.dead.bi iZ.dead/\True)/\b<=b/\b<=l)/\∀(x:Int),let o:=x+(1:Int);let V:=a (dr p c.toNat o.toNat);let M:=a o;let P:=bN D x.toNat sF.bw;let W:=(P.1,P.2.1,P.2.2);let K:=bN C x.toNat a9;let Q:=bN K c.toNat sF.bw;let N:=(Q.1,Q.2.1,Q.2.2);let E:=nf (TM W / TM N);let R:=mi p c.toNat o.toNat;let X:=e [h R.1,d k R.2.1,d k R.2.2] 177 3 false;let F:=dr p c.toNat x.toNat;let Y:=a F;let G:=mi p c.toNat x.toNat;let Z:=(E.1,E.2.1,E.2.2);let a0:=(G.1,G.2.1,G.2.2);let a1:=iE (TM Z) (TM a0);let a2:=decide (x<(↑H:Int));let a3:=decide (b<=F);let a4:=decide (bN j.basic F.toNat b<bN j.basic x.toNat b);let S:=TP .i64 o/\((A.bi A/\(a c).bi (a c)/\(a x).bi V/\B.bi B/\I.bi I/\J.bi J/\M.bi M/\True)/\r.bi r/\s.bi s/\w.bi w/\y.bi y/\z.bi z/\(e [h E.1,d k E.2.1,d k E.2.2] 177 3 false).bi X/\iZ.dead.bi iZ.dead/\iZ.dead.bi iZ.dead/\True)/\(b<=o/\o<=l)/\(l - o).toNat<(l - x).toNat;let T:=TP .i64 o/\((A.bi A/\(a c).bi (a c)/\Y.bi V/\B.bi B/\I.bi I/\J.bi J/\M.bi M/\True)/\r.bi r/\s.bi s/\w.bi w/\y.bi y/\z.bi z/\(e [h G.1,d k G.2.1,d k G.2.2] 177 3 false).bi X/\iZ.dead.bi iZ.dead/\iZ.dead.bi iZ.dead/\True)/\(b<=o/\o<=l)/\(l - o).toNat<(l - x).toNat;let a5:=bP N;let a6:=λ(u:Bool) ↦decide (b<a1)=u;let a7:=λ(u:Bool) ↦decide (a1=b)=u;let a8:=λ(u:Bool) ↦decide (jh (TM N)<=b)=u;b<=x/\x<=l->(a2=true->H=C.length/\b<=x/\x<(↑C.length:Int)/\H=C.length/\x.toNat<C.length/\b<=c/\c<(↑K.length:Int)/\c.toNat<K.length/\a5/\(a8 true->T)/\(a8 false->j.k1=D.length/\b<=x/\x<(↑D.length:Int)/\j.k1=D.length/\x.toNat<D.length/\b<=c/\c<(↑K.length:Int)/\c.toNat<K.length/\((bP W/\a5)/\TM N≠(0:Rat))/\(a3=true->(bP Z/\bP a0)/\(a6 true->T)/\(a6 false->(a7 true->j.k3=q/\b<=x/\x<(↑q:Int)/\j.k3=q/\x.toNat<q/\j.k3=q/\b<=F/\F<(↑q:Int)/\j.k3=q/\F.toNat<q/\(a4=true->T)/\(a4=false->S))/\(a7 false->S)))/\(a3=false->S)))/\(a2=false->Y.bi (a (dr p c.toNat l.toNat))/\r.bi r/\s.bi s/\w.bi w/\y.bi y/\z.bi z/\True)) (by kernel_rfl) ?_;simp only[qM];try simp only[FV]
 simp only[vcs];obtain⟨⟨⟨n0,n1⟩,m0,m1⟩,hw,hz⟩:=id hok;have hkl:=hw.VL;have hbl:=hw.bound;have hbb:=hw.basic;have hfm:=@Ff t.VL;have hfb:=@ff t.bound;have hcell:∀{x y:NH},x=y->(iZ.cells [γA x.1,Ω (cj.i IntKind.u32) x.2.1,Ω (cj.i IntKind.u32) x.2.2] 177 3 false).bi (iZ.cells [γA y.1,Ω (cj.i IntKind.u32) y.2.1,Ω (cj.i IntKind.u32) y.2.2] 177 3 false):=by rintro _ _ rfl;rfl
 have hl0:mi t c.toNat 0=(false,([],[])):=rfl;refine⟨⟨⟨rfl,by rw[hl0];rfl⟩,by omega⟩,?_⟩;rintro i ⟨i0,i1⟩;refine⟨λhi=>?_,λhi=>by rw[show i.toNat=m.toNat by omega]⟩;have him:i.toNat<m.toNat:=by omega
 have hrow:bN (fM t.VL) i.toNat sF.zi.bw=fL (bN t.VL i.toNat []):=Fe (by omega);have hrl:=hw.row i.toNat him;have hfr:=@ff (bN t.VL i.toNat []);have hA:bN (fL (bN t.VL i.toNat [])) c.toNat sF.bw=nf (t.cf i.toNat c.toNat):=iR (by omega);have hB:bN (fL t.bound) i.toNat sF.bw=nf (t.bd i.toNat):=iR (by omega);have hbv:∀k:Nat,bN t.basic k 0=t.bv k:=λk=>rfl;have hsA:=hok.cf (i:=i.toNat) (j:=c.toNat) him (by omega);have hsB:=hok.bd (i:=i.toNat) him;have hs:dr t c.toNat (i+1).toNat=if t.cf i.toNat c.toNat<=0 then dr t c.toNat i.toNat
  else if 0<=dr t c.toNat i.toNat/\(t.bd (dr t c.toNat i.toNat).toNat / t.cf (dr t c.toNat i.toNat).toNat c.toNat<t.bd i.toNat / t.cf i.toNat c.toNat\/(t.bd i.toNat / t.cf i.toNat c.toNat=t.bd (dr t c.toNat i.toNat).toNat / t.cf (dr t c.toNat i.toNat).toNat c.toNat/\t.bv (dr t c.toNat i.toNat).toNat<t.bv i.toNat)) then dr t c.toNat i.toNat
  else(i.toNat:Int):=by rw[show(i+1).toNat=i.toNat+1 by omega];rfl
 have hlb:dr t c.toNat i.toNat<i.toNat:=by rcases @tI t c.toNat i.toNat with⟨h,_⟩|⟨b,h,hlt,_⟩<;>omega
 have hlp:0<=dr t c.toNat i.toNat->0<t.cf (dr t c.toNat i.toNat).toNat c.toNat:=λh=>by
  rcases @tI t c.toNat i.toNat with⟨h2,_⟩|⟨b,h2,hlt,hp,_⟩;·omega
  ·rw[h2,γg];exact hp
 have aVp:∀q:Rat,jh q<=0↔q<=0:=λq=>by
  have:=@rM q;constructor;·intro h;exact Rat.not_lt.1 λh2=>by have:=this.2 h2;omega
  ·intro h;exact Int.not_lt.1 λh2=>Rat.not_lt.2 h (this.1 h2)
 simp only[hrow,hA,hB,jt,dR,hbv,aVp,Vl,Vk];have aVq:0<=dr t c.toNat i.toNat->mi t c.toNat i.toNat=nf (t.bd (dr t c.toNat i.toNat).toNat / t.cf (dr t c.toNat i.toNat).toNat c.toNat):=λh=>by unfold mi;rw[if_neg (by omega)]
 have tail:(0<=i+1/\i+1<=m)/\(m - (i+1)).toNat<(m - i).toNat:=by omega
 have keep:dr t c.toNat (i+1).toNat=dr t c.toNat i.toNat->mi t c.toNat i.toNat=mi t c.toNat (i+1).toNat:=λh=>by unfold mi;rw[h]
 have new:dr t c.toNat (i+1).toNat=(i.toNat:Int)->nf (t.bd i.toNat / t.cf i.toNat c.toNat)=mi t c.toNat (i+1).toNat:=λh=>by unfold mi;rw[h,if_neg (by omega),γg]
 have hnz:0<t.cf i.toNat c.toNat->t.cf i.toNat c.toNat≠0:=λh=>by grind
 refine⟨by omega,i0,by omega,by omega,by omega,hd.1,by omega,by omega,df hsA (by omega),λhle=>?_,λhgt=>?_⟩
 ·have e:dr t c.toNat (i+1).toNat=dr t c.toNat i.toNat:=by rw[hs,if_pos hle]
  exact⟨by omega,⟨e.symm,hcell (keep e)⟩,tail⟩
 ·have hp:0<t.cf i.toNat c.toNat:=Rat.not_le.1 hgt;rw[if_neg hgt] at hs;have aVr:=Fj hsB hsA (hnz hp);refine⟨by omega,i0,by omega,by omega,by omega,hd.1,by omega,by omega,⟨⟨df hsB (by omega),df hsA (by omega)⟩,hnz hp⟩,λh0=>?_,λh0=>?_⟩
  ·have hl:=aVq h0;have hsl:=Fj (hok.bd (i:=(dr t c.toNat i.toNat).toNat) (by omega)) (hok.cf (i:=(dr t c.toNat i.toNat).toNat) (j:=c.toNat) (by omega) (by omega)) (by have:=hlp h0;grind);have hvl:TM (mi t c.toNat i.toNat)=t.bd (dr t c.toNat i.toNat).toNat / t.cf (dr t c.toNat i.toNat).toNat c.toNat:=by rw[hl,dR]
   simp only[hvl];refine⟨⟨df aVr (by omega),by rw[hl];exact df hsl (by omega)⟩,λhlt=>?_,λhlt=>⟨λheq=>⟨i0,by omega,by omega,h0,by omega,by omega,λhbl=>?_,λhbl=>?_⟩,λheq=>?_⟩⟩
   ·rw[if_pos ⟨h0,.inl hlt⟩] at hs;exact⟨by omega,⟨hs.symm,hcell (keep hs)⟩,tail⟩
   ·rw[if_pos ⟨h0,.inr ⟨heq,hbl⟩⟩] at hs;exact⟨by omega,⟨hs.symm,hcell (keep hs)⟩,tail⟩
   ·rw[if_neg λh=>h.2.elim hlt λh2=>hbl h2.2] at hs;exact⟨by omega,⟨by omega,hcell (new hs)⟩,tail⟩
   ·rw[if_neg λh=>h.2.elim hlt λh2=>heq h2.1] at hs;exact⟨by omega,⟨by omega,hcell (new hs)⟩,tail⟩
  ·rw[if_neg λh=>h0 h.1] at hs;exact⟨by omega,⟨by omega,hcell (new hs)⟩,tail⟩
def dJ (a:Tb) (v:Int):Rat:=if v∈a.free then a.cs (a.free.idxOf v) else 0
section
variable {n m:Nat} {t t0:Tb}
theorem dx.goal (h:dx n m t0 t) {x:Int->Rat} {z:Rat} (d:t.holds n m x z):z=t0.value+(OA m (λk=>dJ t0 (t.bv k)*x (t.bv k))+OA n (λj=>dJ t0 (t.fv j)*x (t.fv j))):=by
 have a:∀t:Tb,t.WF n m->kY (λv=>dJ t0 v*x v) (t.basic++t.free)=OA m (λk=>dJ t0 (t.bv k)*x (t.bv k))+OA n (λj=>dJ t0 (t.fv j)*x (t.fv j)):=λt c=>by rw[xh,pd,pd,c.basic,c.free];rfl
 rw[<-a t h.wf,EI h.perm,a t0 h.wf0];rw[cU (n:=m) (g:=λ_=>0) λk e=>by
  unfold dJ;rw[if_neg (EH h.wf0 h.nd e)];grind,ic];rw[cU (n:=n) (g:=λj=>t0.cs j*x (t0.fv j)) λj b=>by
  have i:j<t0.free.length:=by rw[h.wf0.free];exact b
  unfold dJ;rw[if_pos (tO h.wf0 b),show t0.free.idxOf (t0.fv j)=j from nL (γy.1 h.nd).2.1 i]];have f:=(((h.sol _ _).1 d).2);rw[f];grind
theorem dx.val (h:dx n m t0 t):t.value=t0.value+OA m λk=>dJ t0 (t.bv k)*t.bd k:=by have a:=h.goal (asg_holds h.wf h.fF (y:=λ_=>0));rw[cU (n:=n) (f:=λj=>t.cs j*(λ_=>(0:Rat)) j) (g:=λ_=>0) λj _=>by grind,ic] at a;rw[cU (n:=n) (f:=λj=>dJ t0 (t.fv j)*iQ n t (λ_=>0) (t.fv j)) (g:=λ_=>0) λj c=>by rw[lN h.wf h.fF c];grind,ic] at a;rw[cU (n:=m) (g:=λk=>dJ t0 (t.bv k)*t.bd k) λk b=>by rw[ml h.wf h.fF b,cU (g:=λ_=>0) λj _=>by grind,ic];grind] at a;grind
theorem rL {n c:Nat} {q:Rat} (d:c<n):OA n (λj=>if j=c then q else 0)=q:=by
 induction n with
 |zero=>omega;|succ n b=>
  unfold OA;by_cases h:c=n
  ·subst h;rw[if_pos rfl,cU (g:=λ_=>0) λj a=>by grind,ic];grind
  grind
theorem E_ {f g:Nat->Rat}:∀{n:Nat},OA n (λj=>f j - g j)=OA n f - OA n g
 |0=>by grind[OA];|n+1=>by simp only[OA,@E_ f g n];grind
theorem dx.Vd (h:dx n m t0 t) {c:Nat} (b:c<n):t.cs c=dJ t0 (t.fv c) - OA m λk=>dJ t0 (t.bv k)*t.cf k c:=by have a:=h.goal (asg_holds h.wf h.fF (y:=λj=>if j=c then 1 else 0));rw[cU (n:=n) (f:=λj=>t.cs j*(if j=c then(1:Rat) else 0)) (g:=λj=>if j=c then t.cs c else 0) λj _=>by grind,rL b] at a;rw[cU (n:=n) (f:=λj=>dJ t0 (t.fv j)*iQ n t (λj=>if j=c then 1 else 0) (t.fv j)) (g:=λj=>if j=c then dJ t0 (t.fv c) else 0) λj e=>by rw[lN h.wf h.fF e];grind,rL b] at a;rw[cU (n:=m) (g:=λk=>dJ t0 (t.bv k)*t.bd k - dJ t0 (t.bv k)*t.cf k c) λk d=>by rw[ml h.wf h.fF d,cU (g:=λj=>if j=c then t.cf k c else 0) λj _=>by grind,rL b];grind,E_,h.val] at a;grind
end
theorem E9 {M K:Nat} {p q:Rat} (e:ee M p) (f:ee K q):ee (M*K) (p*q):=by obtain⟨a,rfl,d⟩:=e;obtain⟨b,rfl,c⟩:=f;exact⟨a*b,by simp_all,by rw[Int.natAbs_mul];exact ζv d c⟩
theorem Mx {M K:Nat} {p q:Rat} (d:ee M p) (c:ee K q):ee (M+K) (p+q):=by obtain⟨a,rfl,f⟩:=d;obtain⟨b,rfl,e⟩:=c;exact⟨a+b,by simp_all,by omega⟩
theorem Vb {M:Nat} {p:Rat} (b:ee M p):ee M (-p):=by obtain⟨a,rfl,c⟩:=b;exact⟨-a,by simp_all,by omega⟩
theorem Mw {M:Nat}:ee M 0:=⟨0,rfl,by simp⟩
theorem ee.le {M K:Nat} {p:Rat} (b:ee M p) (h:M<=K):ee K p:=by obtain⟨a,rfl,c⟩:=b;exact⟨a,rfl,by omega⟩
theorem E8 {M:Nat} {f:Nat->Rat}:∀{n:Nat},(∀k,k<n->ee M (f k))->ee (n*M) (OA n f)
 |0,_=>by grind[OA,Mw];|n+1,h=>by have a:=Mx (@E8 M f n λk b=>h k (by omega)) (h n (by omega));grind[OA]
theorem E7 {f:Nat->Rat} {d:Rat}:∀{n:Nat},OA n f*d=OA n λk=>f k*d
 |0=>by grind[OA];|n+1=>by have:=@E7 f d n;grind[OA]
theorem Va {X k:Nat} {q D:Rat} (f:ee X (q*D)) (c:ee X D) (g:D≠0) (o:X<4294967296^k):Sz k q:=by
 obtain⟨a,p,l⟩:=f;obtain⟨d,rfl,m⟩:=c;have b:d≠0:=λh=>g (by subst h;rfl);have n:((4294967296^k:Nat):Int)=(4294967296:Int)^k:=by simp_all
 have i:(X:Int)<4294967296^k:=by omega
 have e:q=mkRat (a*d.sign) d.natAbs:=by
  have f:mkRat (a*d.sign) d.natAbs=((a*d.sign:Int):Rat) / ((d.natAbs:Int):Rat):=by rw[Rat.mkRat_eq_div];rfl
  have c:((d.natAbs:Int):Rat)=(d:Rat)*(d.sign:Rat):=by rw[<-Rat.intCast_mul];simp_all
  have j:(d.sign:Rat)*(d.sign:Rat)=1:=by
   rw[<-Rat.intCast_mul];rcases Int.lt_or_lt_of_ne b with h|h;·rw[Int.sign_eq_neg_one_of_neg h];rfl
   grind
  grind
 rw[e];refine xS (by omega) ?_ (by omega);grind
structure Small (n m M G:Nat) (t0:Tb):Prop where
 wf:t0.WF n m
 nd:(t0.basic++t0.free).Nodup
 cf:∀i j,i<m->j<n->ee M (t0.cf i j)
 bd:∀i,i<m->ee M (t0.bd i)
 cs:∀j,j<n->ee G (t0.cs j)
 v:t0.value=0
 M1:1<=M
 G1:M<=G
 X:(m+2)*(G*mn M m)<4294967296^1000
theorem U_ {a b c:Nat} (h:1<=a) (d:1<=b):c<=a*(b*c):=by have e:1*(1*c)<=a*(b*c):=ζv h (ζv d (π _));omega
theorem Small.goal {n m M G:Nat} {t0:Tb} (h:Small n m M G t0) {v:Int}:ee G (dJ t0 v):=by
 unfold dJ;split
 next a=>exact h.cs _ (by rw[<-h.wf.free];grind)
 ·exact Mw
theorem Small.JK {n m M G:Nat} {t0 t:Tb} (h:Small n m M G t0) (a:dx n m t0 t):(∀i,i<m->Sz 1000 (t.bd i))/\(∀j,j<n->Sz 1000 (t.cs j))/\Sz 1000 t.value/\∀i j,i<m->j<n->Sz 1000 (t.cf i j):=by
 have y:=a.WA h.M1 h.cf;have A:=h.X;have B:1<=G:=Nat.le_trans h.M1 h.G1;have u:mn M m<=(m+2)*(G*mn M m):=U_ (by omega) B;have l:∀{q:Rat},ee ((m+2)*(G*mn M m)) (q*iT m t0 t)->Sz 1000 q:=λz=>Va z (y.le u) a.dt A;have d:∀r c,r<m->c<n->ee (mn M m) (t.cf r c*iT m t0 t):=λr c o d=>a.Ry h.M1 h.cf o d;have x:∀r,r<m->ee (mn M m) (t.bd r*iT m t0 t):=λr o=>a.Rz h.M1 h.cf h.bd o;refine⟨λi w=>l ((x i w).le u),λj b=>l ?_,l ?_,λi j w b=>l ((d i j w b).le u)⟩
 ·have e:=a.Vd b;have p:t.cs j*iT m t0 t=dJ t0 (t.fv j)*iT m t0 t+ -(OA m λk=>dJ t0 (t.bv k)*(t.cf k j*iT m t0 t)):=by rw[e,cU (f:=λk=>dJ t0 (t.bv k)*(t.cf k j*iT m t0 t)) (g:=λk=>(dJ t0 (t.bv k)*t.cf k j)*iT m t0 t) λk _=>by grind,<-E7];grind
  rw[p];refine(Mx (E9 h.goal y) (Vb (E8 λk s=>E9 h.goal (d k j s b)))).le ?_;grind
 ·have p:t.value*iT m t0 t=OA m λk=>dJ t0 (t.bv k)*(t.bd k*iT m t0 t):=by rw[a.val,h.v,cU (f:=λk=>dJ t0 (t.bv k)*(t.bd k*iT m t0 t)) (g:=λk=>(dJ t0 (t.bv k)*t.bd k)*iT m t0 t) λk _=>by grind,<-E7];grind
  rw[p];refine(E8 λk s=>E9 h.goal (x k s)).le ?_;grind
theorem Small.sW {n m M G:Nat} {t0 t:Tb} (h:Small n m M G t0) (b:dx n m t0 t):sW 1000000 t:=by
 obtain⟨g,r,k,o⟩:=h.JK b;have e:∀{f:Type} {l:List f} {P:f->Prop} {d:f},(∀i,i<l.length->P (bN l i d))->∀q∈l,P q:=λh q p=>by obtain⟨i,a,rfl⟩:=γJ p;grind[bR]
 refine⟨e (d:=[]) λi a=>?_,e (d:=0) λi a=>?_,e (d:=0) λj c=>?_,k.mono (by omega)⟩
 ·rw[b.wf.VL] at a;refine e (d:=0) λj c=>?_;rw[b.wf.row i a] at c;exact(o i j a c).mono (by omega)
 ·rw[b.wf.bound] at a;exact(g i a).mono (by omega)
 ·rw[b.wf.cost] at c;exact(r j c).mono (by omega)
theorem Mv {n m:Int} {M G:Nat} {t0 t:Tb} (h:Small n.toNat m.toNat M G t0) (a:dx n.toNat m.toNat t0 t) (c:0<=n/\n<=1000) (b:0<=m/\m<=1000):jW n m t:=⟨⟨c,b⟩,a.wf,h.sW a⟩
section
variable {n m:Nat} {t t0:Tb}
theorem Mu:∀{N:Nat} {t:Tb},dx n m t0 t->jQ m t->dx n m t0 (y' n m N t)/\jQ m (y' n m N t)
 |0,t,b,a=>⟨b,a⟩
 |N+1,t,b,a=>by
  unfold y';split;·simp_all
  next d c=>have:=Fi b a c;exact Mu this.1 this.2
theorem nw:∀{N:Nat} {t:Tb},eC n m N t=true->n' n m (y' n m N t)=none
 |0,t,h=>δZ.1 h
 |N+1,t,h=>by
  unfold eC at h;unfold y';split;·assumption
  next b a=>rw[a] at h;exact nw h
theorem M5:∀{N K:Nat} {t:Tb},eC n m N t=true->N<=K->y' n m K t=y' n m N t
 |0,K,t,h,b=>by
  have d:=δZ.1 h;cases K<;>grind[y'];|N+1,K,t,h,b=>by
  obtain⟨K,rfl⟩:∃k,K=k+1:=⟨K - 1,by omega⟩;unfold eC at h;unfold y';split;·rfl
  next c a=>rw[a] at h;exact M5 h (by omega)
theorem M4 {f:Nat->Rat}:∀{n:Nat},(∀k,k<n->f k<=0)->OA n f<=0
 |0,_=>by grind[OA];|n+1,h=>by have a:=@M4 f n λk b=>h k (by omega);grind[OA]
theorem M0 {a b:Rat} (d:a<=0) (c:0<=b):a*b<=0:=by have:=δw (a:= -a) (b:=b) (by grind) c;grind
theorem dx.JJ (h:dx n m t0 t) (d:dN t n<0) {x:Int->Rat} {z:Rat} (a:t0.holds n m x z) (b:∀j,j<n->0<=x (t.fv j)):z<=t.value:=by have c:=(((h.sol _ _).2 a).2);grind[rO,M4,M0]
theorem dx.ef (h:dx n m t0 t) (q:jQ m t) {B:Rat} (F:∀x z,t0.holds n m x z->(∀v∈t0.basic++t0.free,0<=x v)->z<=B) {c:Nat} (I:dN t n=(c:Int)) (H:dr t c m<0):False:=by
 rcases @rO t n with⟨C,d⟩|⟨a,C,d,f,G⟩;·omega
 ·have A:a=c:=by omega
  subst A;rcases @tI t a m with⟨D,w⟩|⟨r,D,_⟩;·
   have k:∀s:Rat,0<=s->t.value+s*t.cs a<=B:=λs o=>by
    have p:=asg_holds h.wf h.fF (y:=λj=>if j=a then s else 0);have e:OA n (λj=>t.cs j*(λj=>if j=a then s else 0) j)=s*t.cs a:=by rw[cU (g:=λj=>if j=a then s*t.cs a else 0) λj _=>by grind,rL d]
    rw[e] at p;refine F _ _ ((h.sol _ _).1 p) λv b=>?_;rw[<-h.perm.mem_iff,γo] at b;rcases b with b|b
    ·obtain⟨i,l,rfl⟩:=u_ h.wf b;rw[ml h.wf h.fF l];have f:OA n (λj=>t.cf i j*(if j=a then s else 0))=t.cf i a*s:=by rw[cU (g:=λj=>if j=a then t.cf i a*s else 0) λj _=>by grind,rL d]
     rw[f];have:=M0 (w i l) o;have:=q i l;grind
    ·obtain⟨j,E,rfl⟩:=tN h.wf b;rw[lN h.wf h.fF E];grind
   have u:=k 0 (by grind);have o:0<=(B - t.value+1) / t.cs a:=L_ (by grind) f;grind[div_mul]
  ·omega
end
open Classical in
noncomputable def rK (n m:Nat) (t:Tb):Nat:=if h:∃N,eC n m N t=true then δU h else 0
noncomputable def cw (n m:Nat) (t:Tb):Tb:=y' n m (rK n m t) t
section
variable {n m:Nat} {t t0 t':Tb}
theorem AE {N:Nat} (h:eC n m N t=true):cw n m t=y' n m N t:=by
 have a:∃N,eC n m N t=true:=⟨N,h⟩;have b:eC n m (rK n m t) t=true:=by unfold rK;grind
 grind[cw,M5]
theorem MZ (h:n' n m t=none):cw n m t=t:=by
 have a:eC n m 0 t=true:=by simp[eC,h]
 rw[AE a];rfl
theorem U9 (a:∃N,eC n m N t=true) (h:n' n m t=some t'):cw n m t'=cw n m t:=by obtain⟨N,a⟩:=a;have b:=MA a h;rw[AE b,AE (Fh a)];grind[y']
theorem E6 (b:dx n m t0 t) (c:jQ m t):dx n m t0 (cw n m t)/\jQ m (cw n m t)/\n' n m (cw n m t)=none:=by obtain⟨N,a⟩:=Fg b c;rw[AE a];grind[Mu,nw]
theorem MY (i:dx n m t0 t) (e:jQ m t) {B:Rat} (h:∀x z,t0.holds n m x z->(∀v∈t0.basic++t0.free,0<=x v)->z<=B):dN (cw n m t) n<0:=by
 obtain⟨j,g,a⟩:=E6 i e;rcases @rO (cw n m t) n with⟨b,d⟩|⟨c,b,d,l,k⟩;·omega
 ·exfalso;unfold n' at a;rw[if_neg (by omega),show(dN (cw n m t) n).toNat=c by omega] at a;split at a
  next f=>exact j.ef g h b f
  ·cases a
end
def Ao (f:List Int) (d:Int):List Int:=(bL f.length).filter λi=>decide (bN f i.toNat 0=d)
theorem kf {f:List Int} {d x:Int}:x∈Ao f d↔(0<=x/\x<f.length)/\bN f x.toNat 0=d:=by simp_all[Ao,ik]
theorem rJ {f:List Int} {d:Int}:(Ao f d).Pairwise (·<·):=om.sublist γn
theorem rI {f:List Int} {d:Int}:(Ao f d).length<=f.length:=by have:=γT (λi:Int=>decide (bN f i.toNat 0=d)) (bL f.length);rw[fj] at this;exact this
theorem E5 {a b:Type} {g:a->b} {l:List a} {i:Nat} {d:b} {e:a} (h:i<l.length):bN (l.map g) i d=g (bN l i e):=by grind[bR]
theorem E4 {n j:Nat} {d:Int} (h:j<n):bN (bL n) j d=j:=by grind[bL,pe]
def bQ (p:ew) (f:List Int):Tb where
 VL:=(Γ (p.bk.length+12)).map λr:Nat=>(Ao f 0).map λi=>((dE p r (oI p i):Int):Rat);bound:=(Γ (p.bk.length+12)).map λr:Nat=>((cB p r - bZ p ((Ao f 1).map (oI p)) r:Int):Rat);cost:=(Ao f 0).map λi=>(((oI p i).value:Int):Rat);value:=0;basic:=(Γ (p.bk.length+12)).map λi:Nat=>(((Ao f 0).length+i:Nat):Int);free:=bL (Ao f 0).length
def ec (p:ew) (f:List Int):Prop:=nW p=0/\f.length=p.bj.length/\fz p ((Ao f 1).map (oI p))=true
abbrev nF (f:List Int):Nat:=(Ao f 0).length
abbrev mF (p:ew):Nat:=p.bk.length+12
section
variable {p:ew} {f:List Int}
theorem kR:(bQ p f).WF (nF f) (mF p) where
 VL:=by simp[bQ]
 row i a:=by grind[bQ,pe]
 bound:=by simp[bQ]
 cost:=by simp[bQ]
 basic:=by simp[bQ]
 free:=by simp[bQ,fj]
theorem uU {i j:Nat} (b:i<mF p) (a:j<nF f):(bQ p f).cf i j=((dE p i (oI p (bN (Ao f 0) j 0)):Int):Rat):=by grind[Tb.cf,bQ,pe,E5]
theorem uT {i:Nat} (a:i<mF p):(bQ p f).bd i=((cB p i - bZ p ((Ao f 1).map (oI p)) i:Int):Rat):=by grind[Tb.bd,bQ,pe]
theorem xL {j:Nat} (a:j<nF f):(bQ p f).cs j=(((oI p (bN (Ao f 0) j 0)).value:Int):Rat):=by grind[Tb.cs,bQ,E5]
theorem AD {i:Nat} (a:i<mF p):(bQ p f).bv i=(((nF f)+i:Nat):Int):=by grind[Tb.bv,bQ,pe]
theorem tH {j:Nat} (a:j<nF f):(bQ p f).fv j=j:=by grind[Tb.fv,bQ,E4]
theorem o_:((bQ p f).basic++(bQ p f).free).Nodup:=by
 rw[γy];refine⟨?_,om.imp λh=>by omega,?_⟩
 ·simp only[bQ];refine List.Pairwise.map _ (λa b h=>?_) List.nodup_range;omega
 grind[bQ,ik]
theorem uS (h:ec p f) {j:Nat} (a:j<nF f):(0<=bN (Ao f 0) j 0/\bN (Ao f 0) j 0<p.bj.length)/\bN f (bN (Ao f 0) j 0).toNat 0=0:=by have:=kf.1 (cy (d:=0) a);rw[h.2.1] at this;exact this
theorem jP (a:nW p=0) {i:Int} (h:0<=i/\i<p.bj.length):0<=(oI p i).Gz/\(oI p i).Gz<p.bk.length/\(oI p i).bx.ok=true/\1<=(oI p i).value/\(oI p i).value<=1000000:=(cT a).2.2.2.2 _ (cy (show i.toNat<p.bj.length by omega))
theorem AC (h:ec p f) {d:Int}:∀x∈(Ao f d).map (oI p),0<=x.Gz/\x.Gz<p.bk.length/\x.bx.ok=true/\1<=x.value/\x.value<=1000000:=λx a=>by obtain⟨i,b,rfl⟩:=Δ.1 a;have:=(kf.1 b).1;rw[h.2.1] at this;exact jP h.1 this
theorem E3 {z:Int} {M:Nat} (h:z.natAbs<=M):ee M (z:Rat):=⟨z,rfl,h⟩
theorem MX (h:ec p f) {i:Nat} (b:i<mF p):0<=cB p i - bZ p ((Ao f 1).map (oI p)) i/\cB p i - bZ p ((Ao f 1).map (oI p)) i<=4:=by have c:i<p.bk.length+12:=b;have d:=nS.1 h.2.2 i (by grind[cr]);have g:=@xl p h.1 i;have e:=@qO p i ((Ao f 1).map (oI p)) λx a=>(AC h x a).2.2.1;omega
theorem U8:∀m:Nat,m<=20->(m+2)*(1000000*mn 4 m)<4294967296^1000:=by
 have h:((Γ 21).all λm=>Nat.blt ((m+2)*(1000000*mn 4 m)) (4294967296^1000))=true:=by decide+kernel
 intro m a;have:=τ.1 h m (γt.2 (by omega));rw[Nat.blt_eq] at this;exact this
theorem B3 (h:ec p f):Small (nF f) (mF p) 4 1000000 (bQ p f) where
 wf:=kR;nd:=o_;cf i j b a:=by rw[uU b a];have:=(jP h.1 (uS h a).1).2.2.1;grind[oF,E3]
 bd i b:=by rw[uT b];have:=MX h b;exact E3 (by omega)
 cs j a:=by rw[xL a];have:=jP h.1 (uS h a).1;grind[E3]
 v:=rfl;M1:=by omega
 G1:=by omega
 X:=U8 _ (by have:=(cT h.1).1;grind)
theorem B2 {z:Int} (h:0<=z):(0:Rat)<=(z:Rat):=by exact_mod_cast h
theorem E2 (h:ec p f):jQ (mF p) (bQ p f):=λi a=>by rw[uT a];exact B2 (MX h a).1
theorem MW {g:Nat->Rat}:∀{n:Nat},(∀k,k<n->0<=g k)->0<=OA n g
 |0,_=>by grind[OA];|n+1,h=>by have a:=@MW g n λk b=>h k (by omega);grind[OA]
theorem MV {g k:Nat->Rat}:∀{n:Nat},(∀i,i<n->g i<=k i)->OA n g<=OA n k
 |0,_=>by grind[OA];|n+1,h=>by have a:=@MV g k n λk b=>h k (by omega);grind[OA]
theorem U7 {g:Nat->Rat} {n j:Nat} (h:∀k,k<n->0<=g k) (a:j<n):g j<=OA n g:=by rw[Ak a];grind[MW]
theorem MU (h:ec p f) {x:Int->Rat} {z:Rat} (d:(bQ p f).holds (nF f) (mF p) x z) (e:∀v∈(bQ p f).basic++(bQ p f).free,0<=x v) {j:Nat} (b:j<nF f):x ((bQ p f).fv j)<=1:=by
 obtain⟨l,_⟩:=uS h b;have r:=jP h.1 l;have a:(oI p (bN (Ao f 0) j 0)).Gz.toNat<mF p:=by grind
 have s:=d.1 _ a;have n:=e _ (εw _ (xe kR a));have i:(bQ p f).cf (oI p (bN (Ao f 0) j 0)).Gz.toNat j=1:=by rw[uU a b];unfold dE;rw[if_pos (by omega),if_pos (by omega)];rfl
 have m:=@U7 (λk=>(bQ p f).cf (oI p (bN (Ao f 0) j 0)).Gz.toNat k*x ((bQ p f).fv k)) (nF f) j (λk c=>by
  refine δw ?_ (e _ (εp _ (tO kR c)));rw[uU a c];exact B2 (oF (jP h.1 (uS h c).1).2.2.1).1) b;simp only[i] at m;have t:(bQ p f).bd (oI p (bN (Ao f 0) j 0)).Gz.toNat<=1:=by
  rw[uT a];have o:cB p (oI p (bN (Ao f 0) j 0)).Gz.toNat=1:=by unfold cB;omega
  have q:=@qO p (oI p (bN (Ao f 0) j 0)).Gz.toNat ((Ao f 1).map (oI p)) λx d=>(AC h x d).2.2.1;have g:cB p (oI p (bN (Ao f 0) j 0)).Gz.toNat - bZ p ((Ao f 1).map (oI p)) (oI p (bN (Ao f 0) j 0)).Gz.toNat<=1:=by omega
  exact_mod_cast g
 grind
theorem MT (h:ec p f) {x:Int->Rat} {z:Rat} (c:(bQ p f).holds (nF f) (mF p) x z) (e:∀v∈(bQ p f).basic++(bQ p f).free,0<=x v):z<=OA (nF f) (bQ p f).cs:=by
 have g:=c.2;have k:(bQ p f).value=0:=rfl;have:=@MV (λj=>(bQ p f).cs j*x ((bQ p f).fv j)) (bQ p f).cs (nF f) λj a=>by
  have i:=MU h c e a;have d:0<=(bQ p f).cs j:=by rw[xL a];exact B2 (by have:=jP h.1 (uS h a).1;omega)
  have:=δw d (b:=1 - x ((bQ p f).fv j)) (by grind);grind
 grind
noncomputable def cE (p:ew) (f:List Int):Tb:=cw (nF f) (mF p) (bQ p f)
theorem m_ (h:ec p f):dx (nF f) (mF p) (bQ p f) (cE p f)/\jQ (mF p) (cE p f)/\dN (cE p f) (nF f)<0:=by have a:=dx.refl (n:=nF f) (m:=mF p) (t0:=bQ p f) kR o_;have:=E6 a (E2 h);exact⟨this.1,this.2.1,MY a (E2 h) λx z c b=>MT h c b⟩
end
def dZ (d:List NH) (j:Nat) (z:NH):List NH:=d.take j++δ (d.length - j) z
theorem uR {d:List NH} {j:Nat} {z:NH} (h:j<=d.length):(dZ d j z).length=d.length:=by grind[dZ]
theorem vM {d:List NH} {z:NH}:dZ d 0 z=δ d.length z:=by simp[dZ]
theorem vK {d:List NH} {z:NH}:dZ d d.length z=d:=by simp[dZ]
theorem vJ {d:List NH} {j:Nat} {z x:NH} (h:j<d.length) (b:x=bN d j z):(dZ d j z).set j x=dZ d (j+1) z:=by
 unfold dZ;have a:d.length - j=(d.length - (j+1))+1:=by omega
 rw[a,List.replicate_succ,List.set_append_right _ _ (by grind),γx,show j - min j d.length=0 by omega,List.set_cons_zero,List.take_succ_eq_append_getElem h,List.append_assoc,b,bR h];rfl
theorem vI {l:List Rat} {i:Nat} {q:Rat}:(fL l).set i (nf q)=fL (l.set i q):=by simp_all[fL]
theorem C' {l p:List Rat} {c:Nat} (h:bN l c 0=0) (d:c<l.length):jR l c p=l:=by refine γ7 Aj λi b a=>?_;have e:=@Ai c l p i a;grind[bR]
def D':cC where
 f:=181;α:=Int;put a:=[.si .i64 a];st _:=[];dec v o:=match v,o with
  |[v],[]=>v.int .i64
  |_,_=>none;ok v o a h:=by
  split at h;·exact⟨by simp only[gL,iq h];rfl,rfl⟩
  ·cases h
 inj a b h _:=by simpa[gL,ε8] using h
 dom n:=0<=n/\n<=1000;res n:=.ow 0 n.toNat 3;out n:=[.row sF (fL (δ n.toNat 0)) 177 false]
def U6 (n:Int):Nat->bH
 |3=> .inv Int (λj=>⟨[(3,.ow 0 n.toNat 3),(8,.si .i64 n.toNat),(9,.si .i64 j)],[.row sF (dZ (fL (δ n.toNat 0)) j.toNat (false,([],[]))) 177 true]⟩)
   (λs=>iS s 9) (λj=>0<=j/\j<=n) (λj=>(n - j).toNat) λ_ _=> .look
 |_=> .look
theorem ze:g' D':=by
 refine BB (L:=[mR]) (W:=[]) D' (λ_=>none) U6 (by simp) (by simpa using n_) ?_;rintro(n:Int) ⟨n0,B⟩;refine NI (let a:=(0:Int);let c:=iZ.row;let d:=γc .i64;let e:=γZ 0 n.toNat 3;let h:=d (↑n.toNat:Int);let m:=(cj.i .u32).zi;let j:=(false,[],[]);let k:=fL (δ n.toNat (0:Rat));let l:=nf (κ a);a<=n/\n<=n/\n*(56:Int)<=(140737488355328:Int)/\n<=(1000000000000:Int)/\(((e.bi e/\h.bi h/\(γu .i64 0).bi (d 0)/\True)/\(c (cj.b.pair (m.pair m)) (δ n.toNat j) 177 true).bi (c sF (dZ k 0 j) 177 true)/\True)/\a<=a/\a<=n)/\∀(x:Int),let o:=decide (x<(↑n.toNat:Int));let f:=dZ k x.toNat j;let g:=x+(1:Int);let p:=d g;a<=x/\x<=n->(o=true->((-9223372036854775808:Int)<=a/\a<=(9223372036854775807:Int))/\n.toNat=f.length/\a<=x/\x<(↑f.length:Int)/\n.toNat=f.length/\x.toNat<f.length/\TP .i64 g/\((e.bi e/\h.bi h/\p.bi p/\True)/\(c sF (f.set x.toNat (l.1,l.2.1,l.2.2)) 177 true).bi (c sF (dZ k g.toNat j) 177 true)/\True)/\(a<=g/\g<=n)/\(n - g).toNat<(n - x).toNat)/\(o=false->e.bi e/\(c sF f 177 false).bi (c sF k 177 false)/\True)) (by kernel_rfl) ?_;conv=>zeta
 try simp only[vcs]
 have r:∀k:Nat,((k:Nat):Int).toNat=k:=λk=>γg k;have t:(fL (δ n.toNat 0)).length=n.toNat:=by rw[ff,γD]
 have q:∀{x y:List NH},x=y->(iZ.row sF x 177 true).bi (iZ.row sF y 177 true):=by rintro _ _ rfl;rfl
 refine⟨n0,by omega,by omega,by omega,⟨q (by rw[vM,t]),by omega⟩,?_⟩;rintro j ⟨s,C⟩;have A:=@uR (fL (δ n.toNat 0)) j.toNat (false,([],[])) (by omega);refine⟨λv=>?_,λv=>?_⟩
 ·have w:bN (fL (δ n.toNat 0)) j.toNat (false,([],[]))=nf 0:=by rw[iR (by rw[γD];omega),bR (by rw[γD];omega),List.getElem_replicate]
  have z:(κ 0:Rat)=0:=rfl;simp only[z,jt];exact⟨by omega,by omega,s,by omega,by omega,by omega,by omega,q (by rw[vJ (by omega) w.symm,show(j+1).toNat=j.toNat+1 by omega]),by omega⟩
 ·rw[show j.toNat=(fL (δ n.toNat 0)).length by omega,vK];rfl
def F':NG:=⟨185,List NH×NH×Int×List NH×NH,.cons (cP sF) (.cons (dg sF) (.cons (dY .i64) (.cons (cP sF) (.one (dg sF))))),
 λa=>∃l b p c,(a.1=fL l/\a.2.1=nf b/\a.2.2.2.1=fL p/\a.2.2.2.2=nf c)/\(l.length=p.length/\l.length<=1000)/\(0<=a.2.2.1/\a.2.2.1<l.length)/\(∀q∈l,Sz 10000000 q)/\(∀q∈p,Sz 10000000 q)/\Sz 10000000 b/\Sz 10000000 c,
 λa=> .IL [.row sF (fL (jR (vL a.1) a.2.2.1.toNat (vL a.2.2.2.1))),oa (TM a.2.1 - bN (vL a.1) a.2.2.1.toNat 0*TM a.2.2.2.2)]⟩
def VM (l:List Rat) (b:Rat) (c:Int) (p:List Rat) (a:Rat):Nat->bH
 |6=> .inv Int (λj=>⟨[(2,.si .i64 c),(3,.row sF (fL p)),(6,.ptr 0 0 3),(9,.ptr 1 0 3),(11,.ptr 2 0 3),(12,.ptr 3 0 3),(13,.ow 4 l.length 3),(28,.row sF (fL l)),(29,.si .i64 l.length),(30,.si .i64 j)],
   [.cells [.sb (nf b).1,.row (.i .u32) (nf b).2.1,.row (.i .u32) (nf b).2.2] 177 3 false,.cells [.sb (nf a).1,.row (.i .u32) (nf a).2.1,.row (.i .u32) (nf a).2.2] 177 3 false,
    .cells [.bl false,.sc (.slice none 0 0),.sc (.slice none 0 0)] 177 3 false,.cells [.sb (nf (bN l c.toNat 0)).1,.row (.i .u32) (nf (bN l c.toNat 0)).2.1,.row (.i .u32) (nf (bN l c.toNat 0)).2.2] 177 3 false,
    .row sF (dZ (fL (jR l c.toNat p)) j.toNat (false,([],[]))) 177 true]⟩)
   (λs=>iS s 30) (λj=>0<=j/\j<=l.length) (λj=>(l.length - j).toNat) λ_ _=> .look
 |_=> .look
theorem I0:d' F':=by
 refine bI (L:=[qx,xN,uW,w_]) F' (λa=>VM (vL a.1) (TM a.2.1) a.2.2.1 (vL a.2.2.2.1) (TM a.2.2.2.2)) (by simpa using⟨sZ,uF,rB,CN⟩) ?_;rintro⟨l',b',c,p',pb'⟩ ⟨l,b,p,pb,⟨e1,e2,e3,e4⟩,⟨g1,g2⟩,⟨c0,c1⟩,hl,hp,hb,hpb⟩;simp only at e1 e2 e3 e4 c0 c1;subst e1 e2 e3 e4;refine NI (let a:=Ω;let d:=(0:Int);let e:=γc .i64;let f:=iZ.cells;let g:=iZ.row;let h:=γA;let j:=sF.bw;let k:=γM;let m:=γG;let n:=SV.IL;let F:=bN (fL l) c.toNat j;let a2:=(F.1,F.2.1,F.2.2);let o:=cj.i .u32;let t:=(↑(fL l).length:Int);let L:=fL (jR (vL (fL l)) c.toNat (vL (fL p)));let v:=TM (nf b);let w:=bN (vL (fL l)) c.toNat (0:Rat);let y:=TM (nf pb);let a3:=(nf (v - w*y)).2;let a4:=n [a sF L,m [h (nf (v - w*y)).1,a o a3.1,a o a3.2]];let z:=fL (vL (fL p));let G:=a sF z;let A:=k 0 0 3;let B:=k 1 0 3;let C:=k 2 0 3;let D:=k 3 0 3;let z18:Nat:=(vL (fL l)).length;let H:=γZ 4 z18 3;let I:=fL (vL (fL l));let J:=a sF I;let r:=(↑z18:Int);let K:=e r;let a5:=SV.sc (Value.slice none 0 0);let E:=f [δb false,a5,a5] 177 3 false;let M:=(false,[],[]);let N:=((nf w).1,(nf w).2.1,(nf w).2.2);let O:=f [h (nf v).1,a o (nf v).2.1,a o (nf v).2.2] 177 3 false;let P:=f [h (nf y).1,a o (nf y).2.1,a o (nf y).2.2] 177 3 false;let Q:=f [h (nf w).1,a o (nf w).2.1,a o (nf w).2.2] 177 3 false;let a6:=((nf y).1,(nf y).2.1,(nf y).2.2);let a7:=((nf v).1,(nf v).2.1,(nf v).2.2);let S:=nf (TM N*TM a6);let a8:=(S.1,S.2.1,S.2.2);let U:=nf (TM a7 - TM a8);let a9:=λ(u:Bool) ↦decide (jh (TM a2)=d)=u;let V:=λ(u:cj.b.T) (u_1:(o.zi.pair o.zi).T) (u_2:Rat) ↦(f [h u,a o u_1.1,a o u_1.2] 177 3 false).bi (f [h (nf u_2).1,a o (nf u_2).2.1,a o (nf u_2).2.2] 177 3 false);d<=c/\c<t/\c.toNat<(fL l).length/\bP a2/\(a9 true->(n [a sF (fL l),m [h (nf b).1,a o (nf b).2.1,a o (nf b).2.2]]).bi a4)/\(a9 false->d<=t/\t<=t/\t*(56:Int)<=(140737488355328:Int)/\t<=(1000000000000:Int)/\((((e c).bi (e c)/\(a sF (fL p)).bi G/\A.bi A/\B.bi B/\C.bi C/\D.bi D/\(γZ 4 t.toNat 3).bi H/\(a sF (fL l)).bi J/\(e t).bi K/\(γu .i64 0).bi (e 0)/\True)/\V (nf b).1 (nf b).2 v/\V (nf pb).1 (nf pb).2 y/\E.bi E/\V F.1 F.2 w/\(g (cj.b.pair (o.zi.pair o.zi)) (δ t.toNat M) 177 true).bi (g sF (dZ L 0 M) 177 true)/\True)/\d<=d/\d<=r)/\∀(x:Int),let W:=bN z x.toNat j;let X:=(W.1,W.2.1,W.2.2);let Y:=nf (TM N*TM X);let Z:=(Y.1,Y.2.1,Y.2.2);let q:=dZ L x.toNat M;let s:=x+(1:Int);let R:=e s;let aa:=g sF (dZ L s.toNat M) 177 true;let a0:=bN I x.toNat j;let ab:=(a0.1,a0.2.1,a0.2.2);let ac:=bP Z;let ad:=bP N/\bP X;let ae:=λ(u:Rat) ↦z18=q.length/\d<=x/\x<(↑q.length:Int)/\z18=q.length/\x.toNat<q.length/\TP .i64 s/\(((e c).bi (e c)/\G.bi G/\A.bi A/\B.bi B/\C.bi C/\D.bi D/\H.bi H/\J.bi J/\K.bi K/\R.bi R/\True)/\O.bi O/\P.bi P/\E.bi E/\Q.bi Q/\(g sF (q.set x.toNat ((nf u).1,(nf u).2.1,(nf u).2.2)) 177 true).bi aa/\True)/\(d<=s/\s<=r)/\(r - s).toNat<(r - x).toNat;let af:=λ(u:Bool) ↦decide (jh (TM X)=d)=u;let ag:=λ(u:List NH) ↦let a1:=bN u x.toNat j;bP (a1.1,a1.2.1,a1.2.2);d<=x/\x<=r->(decide (x<r)=true->d<=x/\x<(↑I.length:Int)/\x.toNat<I.length/\(decide (x=c)=true->d<=x/\x<(↑z.length:Int)/\x.toNat<z.length/\ad/\ac/\ae (-TM Z))/\(decide (x=c)=false->d<=x/\x<(↑z.length:Int)/\x.toNat<z.length/\ag z/\(af true->z18=q.length/\d<=x/\x<(↑q.length:Int)/\z18=q.length/\x.toNat<q.length/\TP .i64 s/\(((e c).bi (e c)/\G.bi G/\A.bi A/\B.bi B/\C.bi C/\D.bi D/\H.bi H/\J.bi J/\K.bi K/\R.bi R/\True)/\O.bi O/\P.bi P/\E.bi E/\Q.bi Q/\(g sF (q.set x.toNat ab) 177 true).bi aa/\True)/\(d<=s/\s<=r)/\(r - s).toNat<(r - x).toNat)/\(af false->d<=x/\x<(↑z.length:Int)/\x.toNat<z.length/\ad/\(ag I/\ac)/\ae (TM ab - TM Z))))/\(decide (x<r)=false->(bP N/\bP a6)/\(bP a7/\bP a8)/\z18=q.length/\(n [a sF q,m [h U.1,a o U.2.1,a o U.2.2]]).bi a4))) (by kernel_rfl) ?_;simp only[ku,dR];try simp only[vcs]
 have hfl:=@ff l;have hfp:=@ff p;have hel:(jR l c.toNat p).length=l.length:=Aj;have hfe:=@ff (jR l c.toNat p);have hA:bN (fL l) c.toNat sF.bw=nf (bN l c.toNat 0):=iR (by omega);have hzc:=hl _ (cy (d:=0) (show c.toNat<l.length by omega));have hcast:∀k:Nat,((k:Nat):Int).toNat=k:=λk=>γg k;have hag:∀{x y:Rat},x=y->(γG [γA (nf x).1,Ω (cj.i IntKind.u32) (nf x).2.1,Ω (cj.i IntKind.u32) (nf x).2.2]).bi (γG [γA (nf y).1,Ω (cj.i IntKind.u32) (nf y).2.1,Ω (cj.i IntKind.u32) (nf y).2.2]):=by rintro _ _ rfl;rfl
 have hrow:∀{x y:List NH},x=y->(iZ.row sF x 177 true).bi (iZ.row sF y 177 true):=by rintro _ _ rfl;rfl
 simp only[hA,jt,dR,Fc,hcast];refine⟨c0,by omega,by omega,df hzc (by omega),λhz=>⟨by rw[C' hz (by omega)],hag (by rw[hz];grind)⟩,λhz=>⟨by omega,by omega,by omega,by omega,⟨⟨⟨by rw[hfl];rfl,by omega⟩,rfl,hrow (by rw[vM,hfe,hel,hfl])⟩,by omega⟩,?_⟩⟩;rintro j ⟨j0,j1⟩;have hru:=@uR (fL (jR l c.toNat p)) j.toNat (false,([],[])) (by omega);refine⟨λhj=>?_,λhj=>?_⟩
 ·have hP:bN (fL p) j.toNat sF.bw=nf (bN p j.toNat 0):=iR (by omega);have hL:bN (fL l) j.toNat sF.bw=nf (bN l j.toNat 0):=iR (by omega);have hzp:=hp _ (cy (d:=0) (show j.toNat<p.length by omega));have hzl:=hl _ (cy (d:=0) (show j.toNat<l.length by omega));have hE:bN (fL (jR l c.toNat p)) j.toNat (false,([],[]))=nf (if j.toNat=c.toNat then -(bN l c.toNat 0*bN p j.toNat 0) else bN l j.toNat 0 - bN l c.toNat 0*bN p j.toNat 0):=by rw[iR (by omega),Ai (by omega)]
  have hm:=rP hzc hzp;have tail:(0<=j+1/\j+1<=(l.length:Int))/\((l.length:Int) - (j+1)).toNat<((l.length:Int) - j).toNat:=by omega
  have step:∀{x:NH},x=bN (fL (jR l c.toNat p)) j.toNat (false,([],[]))->(iZ.row sF ((dZ (fL (jR l c.toNat p)) j.toNat (false,([],[]))).set j.toNat x) 177 true).bi (iZ.row sF (dZ (fL (jR l c.toNat p)) (j+1).toNat (false,([],[]))) 177 true):=λh=>hrow (by rw[vJ (by omega) h,show(j+1).toNat=j.toNat+1 by omega]);simp only[hP,hL,jt,dR,Fc];refine⟨j0,by omega,by omega,λhjc=>⟨j0,by omega,by omega,⟨df hzc (by omega),df hzp (by omega)⟩,df hm (by omega),by omega,j0,by omega,by omega,by omega,by omega,step ?_,tail⟩,λhjc=>⟨j0,by omega,by omega,df hzp (by omega),λhpz=>⟨by omega,j0,by omega,by omega,by omega,by omega,step ?_,tail⟩,λhpz=>⟨j0,by omega,by omega,⟨df hzc (by omega),df hzp (by omega)⟩,⟨df hzl (by omega),df hm (by omega)⟩,by omega,j0,by omega,by omega,by omega,by omega,step ?_,tail⟩⟩⟩;·rw[hE,if_pos (by omega)]
  ·rw[hE,if_neg (by omega),hpz];congr 1;grind
  ·rw[hE,if_neg (by omega)]
 ·rw[show j.toNat=(fL (jR l c.toNat p)).length by omega,vK];exact⟨⟨df hzc (by omega),df hpb (by omega)⟩,⟨df hb (by omega),df (rP hzc hpb) (by omega)⟩,by omega,rfl,rfl⟩
def G':cC:=rN 176 (Int×Int) (.cons (dY .i64) (.one (dY .i64))) (λn m t a=>(0<=a.1/\a.1<m)/\(0<=a.2/\a.2<n)/\t.cf a.1.toNat a.2.toNat≠0) (λ_ _ _ _=> .IL []) (λ_ _ t a=>fi t a.1.toNat a.2.toNat)
def nI (l:List Rat) (q:Rat):List Rat:=l.map λx=>x*q
def fC (q:Rat):iZ:=.cells [.sb (nf q).1,.row (.i .u32) (nf q).2.1,.row (.i .u32) (nf q).2.2] 177 3 false
def h_ {a:Type} (f g:Nat->a) (n r i:Nat):List a:=(Γ n).map λk=>if k<i/\k≠r then g k else f k
theorem tG {a:Type} {f g:Nat->a} {n r i:Nat}:(h_ f g n r i).length=n:=by simp[h_]
theorem Lk {a:Type} {l:List a} {g:Nat->a} {r:Nat} {d:a}:h_ (λk=>bN l k d) g l.length r 0=l:=by refine γ7 tG λi b c=>?_;grind[h_,bN]
theorem Lj {a:Type} {f g:Nat->a} {n r i:Nat} {d:a} (h:i<n):bN (h_ f g n r i) i d=f i:=by simp_all[h_,pe]
theorem Li {a:Type} {f g:Nat->a} {n r i:Nat} (h:i<n) (d:i≠r):(h_ f g n r i).set i (g i)=h_ f g n r (i+1):=by
 refine γ7 (by simp[h_]) λk b c=>?_;have e:k<n:=by grind[h_]
 rw[ε5];simp only[h_,δF,εP];grind
theorem Lh {a:Type} {f g:Nat->a} {n r:Nat}:h_ f g n r (r+1)=h_ f g n r r:=by unfold h_;grind
theorem Lg {a:Type} {f g:Nat->a} {n r:Nat} {x:a} (h:r<n):(h_ f g n r n).set r x=(Γ n).map λk=>if k=r then x else g k:=by
 refine γ7 (by simp[h_]) λk b c=>?_;have d:k<n:=by simp_all
 rw[ε5];simp only[h_,δF,εP];grind
theorem Lf {l:List (List Rat)} {i:Nat} {x:List Rat}:(fM l).set i (fL x)=fM (l.set i x):=by simp_all[fM]
theorem VH {l:List Rat} {c:Nat} (h:c<l.length):(fL (nI l (1 / bN l c 0))).set c (nf (1 / bN l c 0))=fL (kg l c):=by
 rw[vI];congr 1;refine γ7 (by simp[nI,kg]) λk d e=>?_;have b:k<l.length:=by grind[kg]
 rw[ε5];simp only[nI,kg,δF,εP];by_cases a:c=k;·simp_all
 ·rw[if_neg a,if_neg λh=>a h.symm,bR (i:=k) b]
def ko (t:Tb) (r c i:Nat):Tb:={t with
 VL:=h_ (λk=>bN t.VL k []) (λk=>jR (bN t.VL k []) c (kg (bN t.VL r []) c)) t.VL.length r i
 bound:=h_ t.bd (λk=>t.bd k - t.cf k c*(t.bd r*(1 / t.cf r c))) t.bound.length r i}
theorem VG {t:Tb} {r c:Nat}:ko t r c 0=t:=by unfold ko;have b:=@Lk (List Rat) t.VL (λk=>jR (bN t.VL k []) c (kg (bN t.VL r []) c)) r [];have d:=@Lk Rat t.bound (λk=>t.bd k - t.cf k c*(t.bd r*(1 / t.cf r c))) r 0;have a:h_ t.bd (λk=>t.bd k - t.cf k c*(t.bd r*(1 / t.cf r c))) t.bound.length r 0=t.bound:=d;rw[b,a]
def VF (n m:Int) (t:Tb) (r c:Int):Nat->bH
 |3=> .inv Int (λj=>⟨[(0,.ptr 0 0 10),(1,.si .i64 r),(2,.si .i64 c),(6,.ptr 5 0 3),(8,.ow 6 n.toNat 3),(41,.row sF (fL (bN t.VL r.toNat []))),(42,.si .i64 n),(43,.si .i64 j)],
   (FV n m t).gh++[fC (1 / t.cf r.toNat c.toNat),.row sF (dZ (fL (nI (bN t.VL r.toNat []) (1 / t.cf r.toNat c.toNat))) j.toNat (false,([],[]))) 177 true]⟩)
   (λs=>iS s 43) (λj=>0<=j/\j<=n) (λj=>(n - j).toNat) λ_ _=> .look
 |10=> .inv Int (λi=>⟨[(0,.ptr 0 0 10),(1,.si .i64 r),(2,.si .i64 c),(8,.row sF (fL (kg (bN t.VL r.toNat []) c.toNat))),(11,.ptr 7 0 3),(72,.si .i64 m),(73,.si .i64 i)],
   (FV n m (ko t r.toNat c.toNat i.toNat)).gh++[fC (1 / t.cf r.toNat c.toNat),.dead,fC (t.bd r.toNat*(1 / t.cf r.toNat c.toNat))]⟩)
   (λs=>iS s 73) (λj=>0<=j/\j<=m) (λj=>(m - j).toNat) λ_ _=> .look
 |_=> .look
theorem I5:g' G':=by
 refine jE (L:=[mR,AG,xN,F',tJ]) (W:=[]) G' (λa=>VF a.1.n a.1.m a.1.t a.2.1 a.2.2) (by simp) (by simpa using⟨n_,zd,uF,I0,pI⟩) ?_;rintro⟨x,r,c⟩ ⟨n,m,t,hx,hok,⟨r0,r1⟩,⟨c0,c1⟩,ha⟩;simp only at hx r0 r1 c0 c1 ha;subst hx;refine NI (let a:=γc .i64;let d:=iZ.row;let e:=(0:Int);let f:=Ω;let g:=γZ;let h:=iZ.cells;let j:=γA;let k:=(1:Int);let o:=sF.bw;let s:=γu .i64 0;let w:=γM;let K:=(FV n m t).VL;let a0:=bN K r.toNat sF.zi.bw;let af:=nf (κ k);let aB:=(af.1,af.2.1,af.2.2);let ag:=bN a0 c.toNat o;let ah:=(ag.1,ag.2.1,ag.2.2);let Q:=(↑(FV n m t).k4:Int);let L:=w 0 0 10;let a3:=w 5 0 3;let A:=(FV n m t).n;let ai:=g 6 A.toNat 3;let M:=(FV n m t).t;let S:=bN M.VL r.toNat [];let aj:=f sF (fL S);let a4:=a A;let G:=(FV n m t).m;let a5:=a G;let z:=cj.i .u32;let B:=FV A G M;let a6:=h [a B.n,a B.m,g 1 B.k0 1,g 2 B.k1 3,f sF B.cost,j B.v.1,f z B.v.2.1,f z B.v.2.2,g 3 B.k3 1,g 4 B.k4 1] 261 10 false;let a7:=d sF.zi B.VL 106 false;let a8:=d sF B.bound 177 false;let C:=cj.i .i64;let a9:=d C B.basic 3 false;let aa:=d C B.free 3 false;let ak:=nf (TM aB / TM ah);let N:=(1:Rat) / M.cf r.toNat c.toNat;let R:=h [j (nf N).1,f z (nf N).2.1,f z (nf N).2.2] 177 3 false;let ab:=(false,[],[]);let al:=fL (nI S N);let T:=((nf N).1,(nf N).2.1,(nf N).2.2);let ac:=B.bound.length;let am:=bN B.bound r.toNat o;let aC:=(am.1,am.2.1,am.2.2);let U:=fL (kg S c.toNat);let an:=f sF U;let ad:=w 7 0 3;let D:=FV A G (ko M r.toNat c.toNat 0);let ao:=nf (TM aC*TM T);let V:=nf (M.bd r.toNat*N);let ap:=h [j V.1,f z V.2.1,f z V.2.2] 177 3 false;let W:=(V.1,V.2.1,V.2.2);let E:=FV A G (fi M r.toNat c.toNat);((-9223372036854775808:Int)<=k/\k<=(9223372036854775807:Int))/\(FV n m t).k0=K.length/\e<=r/\r<(↑K.length:Int)/\(FV n m t).k0=K.length/\r.toNat<K.length/\e<=c/\c<(↑a0.length:Int)/\c.toNat<a0.length/\((bP aB/\bP ah)/\TM ah≠(0:Rat))/\e<=Q/\Q<=Q/\Q*(56:Int)<=(140737488355328:Int)/\Q<=(1000000000000:Int)/\(FV n m t).k0=K.length/\e<=r/\r<(↑K.length:Int)/\(FV n m t).k0=K.length/\r.toNat<K.length/\(((L.bi L/\(a r).bi (a r)/\(a c).bi (a c)/\a3.bi a3/\(g 6 Q.toNat 3).bi ai/\(f sF a0).bi aj/\(a (↑a0.length:Int)).bi a4/\(s).bi (a 0)/\True)/\(h [a4,a5,g 1 (FV n m t).k0 1,g 2 (FV n m t).k1 3,f sF (FV n m t).cost,j (FV n m t).v.1,f z (FV n m t).v.2.1,f z (FV n m t).v.2.2,g 3 (FV n m t).k3 1,g 4 (FV n m t).k4 1] 261 10 false).bi a6/\(d sF.zi K 106 false).bi a7/\(d sF (FV n m t).bound 177 false).bi a8/\(d C (FV n m t).basic 3 false).bi a9/\(d C (FV n m t).free 3 false).bi aa/\(h [j ak.1,f z ak.2.1,f z ak.2.2] 177 3 false).bi R/\(d (cj.b.pair (z.zi.pair z.zi)) (δ Q.toNat ab) 177 true).bi (d sF (dZ al 0 ab) 177 true)/\True)/\e<=e/\e<=A)/\∀(x:Int),let aq:=bN (fL S) x.toNat o;let aD:=(aq.1,aq.2.1,aq.2.2);let ae:=dZ al x.toNat ab;let O:=ae.length;let X:=x+k;let aE:=a X;let ar:=nf (TM aD*TM T);e<=x/\x<=A->(decide (x<A)=true->e<=x/\x<(↑(fL S).length:Int)/\x.toNat<(fL S).length/\(bP aD/\bP T)/\A.toNat=O/\e<=x/\x<(↑O:Int)/\A.toNat=O/\x.toNat<O/\TP .i64 X/\((L.bi L/\(a r).bi (a r)/\(a c).bi (a c)/\a3.bi a3/\ai.bi ai/\aj.bi aj/\a4.bi a4/\aE.bi aE/\True)/\a6.bi a6/\a7.bi a7/\a8.bi a8/\a9.bi a9/\aa.bi aa/\R.bi R/\(d sF (ae.set x.toNat (ar.1,ar.2.1,ar.2.2)) 177 true).bi (d sF (dZ al X.toNat ab) 177 true)/\True)/\(e<=X/\X<=A)/\(A - X).toNat<(A - x).toNat)/\(decide (x<A)=false->A.toNat=O/\e<=c/\c<(↑O:Int)/\A.toNat=O/\c.toNat<O/\B.k1=ac/\e<=r/\r<(↑ac:Int)/\B.k1=ac/\r.toNat<ac/\(bP aC/\bP T)/\A.toNat=(ae.set c.toNat T).length/\(((L.bi L/\(a r).bi (a r)/\(a c).bi (a c)/\(f sF (ae.set c.toNat T)).bi an/\ad.bi ad/\(a (↑B.k0:Int)).bi a5/\(s).bi (a 0)/\True)/\a6.bi (h [a D.n,a D.m,g 1 D.k0 1,g 2 D.k1 3,f sF D.cost,j D.v.1,f z D.v.2.1,f z D.v.2.2,g 3 D.k3 1,g 4 D.k4 1] 261 10 false)/\a7.bi (d sF.zi D.VL 106 false)/\a8.bi (d sF D.bound 177 false)/\a9.bi (d C D.basic 3 false)/\aa.bi (d C D.free 3 false)/\R.bi R/\iZ.dead.bi iZ.dead/\(h [j ao.1,f z ao.2.1,f z ao.2.2] 177 3 false).bi ap/\True)/\e<=e/\e<=G)/\∀(x:Int),let y:=FV A G (ko M r.toNat c.toNat x.toNat);let aF:=a y.n;let aG:=a y.m;let aH:=g 1 y.k0 1;let aI:=g 2 y.k1 3;let Y:=y.cost;let aJ:=[g 3 y.k3 1,g 4 y.k4 1];let Z:=x+k;let F:=FV A G (ko M r.toNat c.toNat Z.toNat);let J:=y.basic;let aK:=a Z;let a1:=y.VL;let H:=a1.length;let a2:=y.bound;let I:=a2.length;let au:=bN a1 x.toNat sF.zi.bw;let av:=bN a2 x.toNat o;let aL:=(av.1,av.2.1,av.2.2);let aw:=nf (TM aL - bN (vL au) c.toNat (0:Rat)*TM W);let ax:=(y.v.1,y.v.2.1,y.v.2.2);let ay:=bN Y c.toNat o;let aM:=(ay.1,ay.2.1,ay.2.2);let az:=nf (TM aM*TM W);let aN:=(az.1,az.2.1,az.2.2);let P:=y.free.length;let aA:=nf (TM ax+TM aN);let aP:=(h (aF::aG::aH::aI::f sF Y::j y.v.1::f z y.v.2.1::f z y.v.2.2::aJ) 261 10 false).bi (h [a F.n,a F.m,g 1 F.k0 1,g 2 F.k1 3,f sF F.cost,j F.v.1,f z F.v.2.1,f z F.v.2.2,g 3 F.k3 1,g 4 F.k4 1] 261 10 false);let aQ:=(d C J 3 false).bi (d C F.basic 3 false)/\(d C y.free 3 false).bi (d C F.free 3 false)/\R.bi R/\iZ.dead.bi iZ.dead/\ap.bi ap/\True;let aO:=λ(u u_1:iZ) ↦TP .i64 Z/\((L.bi L/\(a r).bi (a r)/\(a c).bi (a c)/\an.bi an/\ad.bi ad/\a5.bi a5/\aK.bi aK/\True)/\aP/\u.bi (d sF.zi F.VL 106 false)/\u_1.bi (d sF F.bound 177 false)/\aQ)/\(e<=Z/\Z<=G)/\(G - Z).toNat<(G - x).toNat;e<=x/\x<=G->(decide (x<G)=true->(decide (x≠r)=true->y.k0=H/\e<=x/\x<(↑H:Int)/\y.k0=H/\x.toNat<H/\y.k1=I/\e<=x/\x<(↑I:Int)/\y.k1=I/\x.toNat<I/\(∃(l:List Rat),∃(b:Rat),∃(p:List Rat),∃(pb:Rat),(au=fL l/\aL=nf b/\U=fL p/\W=nf pb)/\(l.length=p.length/\l.length<=1000)/\(e<=c/\c<(↑l.length:Int))/\(∀(q:Rat),q∈l->Sz 10000000 q)/\(∀(q:Rat),q∈p->Sz 10000000 q)/\Sz 10000000 b/\Sz 10000000 pb)/\y.k0=H/\e<=x/\x<(↑H:Int)/\y.k0=H/\x.toNat<H/\y.k1=I/\e<=x/\x<(↑I:Int)/\y.k1=I/\x.toNat<I/\aO (d sF.zi (a1.set x.toNat (fL (jR (vL au) c.toNat (vL U)))) 106 false) (d sF (a2.set x.toNat (aw.1,aw.2.1,aw.2.2)) 177 false))/\(decide (x≠r)=false->aO (d sF.zi a1 106 false) (d sF a2 177 false)))/\(decide (x<G)=false->e<=c/\c<(↑Y.length:Int)/\c.toNat<Y.length/\(∃(l:List Rat),∃(b:Rat),∃(p:List Rat),∃(pb:Rat),(Y=fL l/\ax=nf b/\U=fL p/\W=nf pb)/\(l.length=p.length/\l.length<=1000)/\(e<=c/\c<(↑l.length:Int))/\(∀(q:Rat),q∈l->Sz 10000000 q)/\(∀(q:Rat),q∈p->Sz 10000000 q)/\Sz 10000000 b/\Sz 10000000 pb)/\(bP aM/\bP W)/\(bP ax/\bP aN)/\y.k0=H/\e<=r/\r<(↑H:Int)/\y.k0=H/\r.toNat<H/\y.k1=I/\e<=r/\r<(↑I:Int)/\y.k1=I/\r.toNat<I/\y.k4=P/\e<=c/\c<(↑P:Int)/\y.k4=P/\c.toNat<P/\y.k3=J.length/\e<=r/\r<(↑J.length:Int)/\y.k3=J.length/\r.toNat<J.length/\y.k3=J.length/\e<=r/\r<(↑J.length:Int)/\y.k3=J.length/\r.toNat<J.length/\y.k4=P/\e<=c/\c<(↑P:Int)/\y.k4=P/\c.toNat<P/\(SV.IL []).bi (SV.IL [])/\(h (aF::aG::aH::aI::f sF (fL (jR (vL Y) c.toNat (vL U)))::j aA.1::f z aA.2.1::f z aA.2.2::aJ) 261 10 false).bi (h [a E.n,a E.m,g 1 E.k0 1,g 2 E.k1 3,f sF E.cost,j E.v.1,f z E.v.2.1,f z E.v.2.2,g 3 E.k3 1,g 4 E.k4 1] 261 10 false)/\(d sF.zi (a1.set r.toNat U) 106 false).bi (d sF.zi E.VL 106 false)/\(d sF (a2.set r.toNat W) 177 false).bi (d sF E.bound 177 false)/\(d C (J.set r.toNat (bN y.free c.toNat e)) 3 false).bi (d C E.basic 3 false)/\(d C (y.free.set c.toNat (bN J r.toNat e)) 3 false).bi (d C E.free 3 false)/\True))) (by kernel_rfl) ?_;conv=>zeta
 try simp only[qM]
 try simp only[FV]
 try simp only[vcs]
 obtain⟨⟨⟨n0,n1⟩,m0,m1⟩,hw,hz⟩:=id hok;have hkl:=hw.VL;have hbl:=hw.bound;have hbb:=hw.basic;have hfl:=hw.free;have hcl:=hw.cost;have hfm:=@Ff t.VL;have hfb:=@ff t.bound;have hrl:=hw.row r.toNat (by omega);have hcast:∀k:Nat,((k:Nat):Int).toNat=k:=λk=>γg k;have h1:(κ 1:Rat)=1:=rfl;have hR:bN (fM t.VL) r.toNat sF.zi.bw=fL (bN t.VL r.toNat []):=Fe (by omega);have hA:bN (fL (bN t.VL r.toNat [])) c.toNat sF.bw=nf (t.cf r.toNat c.toNat):=iR (by omega);have hB:bN (fL t.bound) r.toNat sF.bw=nf (t.bd r.toNat):=iR (by omega);simp only[hR,hA,hB,jt,dR,hcast,h1];have hsA:=hok.cf (i:=r.toNat) (j:=c.toNat) (by omega) (by omega);have hsB:=hok.bd (i:=r.toNat) (by omega);have s1:Sz 1 (1:Rat):=by unfold Sz;decide
 have hsI:=Fj s1 hsA ha;have hsP:=rP hsB hsI;have hfr:=@ff (bN t.VL r.toNat []);have hsl:(nI (bN t.VL r.toNat []) (1 / t.cf r.toNat c.toNat)).length=n.toNat:=by unfold nI;rw[Φ];exact hrl
 have hfs:=@ff (nI (bN t.VL r.toNat []) (1 / t.cf r.toNat c.toNat));have hrow:∀{x y:List NH},x=y->(iZ.row sF x 177 true).bi (iZ.row sF y 177 true):=by rintro _ _ rfl;rfl
 refine⟨by omega,by omega,r0,by omega,by omega,by omega,c0,by omega,by omega,⟨⟨df s1 (by omega),df hsA (by omega)⟩,ha⟩,by omega,by omega,by omega,by omega,by omega,r0,by omega,by omega,by omega,⟨⟨⟨by rw[hfl];rfl,trivial,by omega⟩,rfl,hrow (by rw[vM,hfs,hsl,hfl])⟩,by omega⟩,?_⟩;rintro j ⟨j0,j1⟩;have hru:=@uR (fL (nI (bN t.VL r.toNat []) (1 / t.cf r.toNat c.toNat))) j.toNat (false,([],[])) (by omega);refine⟨λhj=>?_,λhj=>?_⟩
 ·have hL:bN (fL (bN t.VL r.toNat [])) j.toNat sF.bw=nf (t.cf r.toNat j.toNat):=iR (by omega);have hS:bN (fL (nI (bN t.VL r.toNat []) (1 / t.cf r.toNat c.toNat))) j.toNat (false,([],[]))=nf (t.cf r.toNat j.toNat*(1 / t.cf r.toNat c.toNat)):=by rw[iR (by omega),bR (by omega)];unfold nI Tb.cf;rw[δF,bR (l:=bN t.VL r.toNat []) (i:=j.toNat) (by omega)]
  simp only[hL,dR];refine⟨j0,by omega,by omega,⟨df (hok.cf (by omega) (by omega)) (by omega),df hsI (by omega)⟩,by omega,j0,by omega,by omega,by omega,by omega,hrow ?_,by omega⟩;rw[vJ (by omega) hS.symm,show(j+1).toNat=j.toNat+1 by omega]
 ·have hset:(dZ (fL (nI (bN t.VL r.toNat []) (1 / t.cf r.toNat c.toNat))) j.toNat (false,([],[]))).set c.toNat (nf (1 / t.cf r.toNat c.toNat))=fL (kg (bN t.VL r.toNat []) c.toNat):=by rw[show j.toNat=(fL (nI (bN t.VL r.toNat []) (1 / t.cf r.toNat c.toNat))).length by omega,vK];exact VH (by omega)
  have hpl:(kg (bN t.VL r.toNat []) c.toNat).length=n.toNat:=by rw[Mh];exact hrl
  have hfp:=@ff (kg (bN t.VL r.toNat []) c.toNat);simp only[hset,VG];have aMg:∀q∈kg (bN t.VL r.toNat []) c.toNat,Sz 10000000 q:=λq hq=>by
   obtain⟨k,hk,rfl⟩:=Δ.1 hq;rw[γt] at hk;split;·exact hsI.mono (by omega)
   ·exact(rP (hok.cf (i:=r.toNat) (j:=k) (by omega) (by omega)) hsI).mono (by omega)
  refine⟨by omega,c0,by omega,by omega,by omega,by omega,r0,by omega,by omega,by omega,⟨df hsB (by omega),df hsI (by omega)⟩,by omega,⟨⟨⟨trivial,by omega⟩,rfl,rfl,rfl,rfl,rfl,rfl⟩,by omega⟩,?_⟩;rintro i ⟨i0,i1⟩;have ekl:(ko t r.toNat c.toNat i.toNat).VL.length=m.toNat:=by show(h_ _ _ _ _ _).length=_;rw[tG];exact hkl
  have ebl:(ko t r.toNat c.toNat i.toNat).bound.length=m.toNat:=by show(h_ _ _ _ _ _).length=_;rw[tG];exact hbl
  have efm:=@Ff (ko t r.toNat c.toNat i.toNat).VL;have efb:=@ff (ko t r.toNat c.toNat i.toNat).bound;have hfc:=@ff t.cost;have aVG:∀{a b:Tb},a.VL.length=b.VL.length->a.bound.length=b.bound.length->a.cost=b.cost->a.value=b.value->a.basic.length=b.basic.length->a.free.length=b.free.length->
    (iZ.cells [.si .i64 n,.si .i64 m,.ow 1 a.VL.length 1,.ow 2 a.bound.length 3,.row sF (fL a.cost),.sb (nf a.value).1,.row (.i .u32) (nf a.value).2.1,.row (.i .u32) (nf a.value).2.2,.ow 3 a.basic.length 1,.ow 4 a.free.length 1] 261 10 false).bi
    (iZ.cells [.si .i64 n,.si .i64 m,.ow 1 b.VL.length 1,.ow 2 b.bound.length 3,.row sF (fL b.cost),.sb (nf b.value).1,.row (.i .u32) (nf b.value).2.1,.row (.i .u32) (nf b.value).2.2,.ow 3 b.basic.length 1,.ow 4 b.free.length 1] 261 10 false):=λh1 h2 h3 h4 h5 h6=>by rw[h1,h2,h3,h4,h5,h6];rfl
  have aMh:∀{x y:List (List NH)},x=y->(iZ.row sF.zi x 106 false).bi (iZ.row sF.zi y 106 false):=by rintro _ _ rfl;rfl
  have aMi:∀{x y:List NH},x=y->(iZ.row sF x 177 false).bi (iZ.row sF y 177 false):=by rintro _ _ rfl;rfl
  have aMj:∀{x y:List Int},x=y->(iZ.row (.i .i64) x 3 false).bi (iZ.row (.i .i64) y 3 false):=by rintro _ _ rfl;rfl
  refine⟨λhi=>⟨λhir=>?_,λhir=>?_⟩,λhi=>?_⟩
  ·have hRi:bN (fM (ko t r.toNat c.toNat i.toNat).VL) i.toNat sF.zi.bw=fL (bN t.VL i.toNat []):=by rw[Fe (by omega)];congr 1;exact Lj (by omega)
   have hBi:bN (fL (ko t r.toNat c.toNat i.toNat).bound) i.toNat sF.bw=nf (t.bd i.toNat):=by rw[iR (by omega)];congr 1;exact Lj (by omega)
   have hli:=hw.row i.toNat (by omega);simp only[hRi,hBi,ku,dR];refine⟨by omega,i0,by omega,by omega,by omega,by omega,i0,by omega,by omega,by omega,⟨bN t.VL i.toNat [],t.bd i.toNat,kg (bN t.VL r.toNat []) c.toNat,t.bd r.toNat*(1 / t.cf r.toNat c.toNat),⟨rfl,rfl,rfl,rfl⟩,(by omega),⟨c0,by omega⟩,λq hq=>?_,aMg,(hok.bd (by omega)).mono (by omega),hsP.mono (by omega)⟩,by omega,i0,by omega,by omega,by omega,by omega,i0,by omega,by omega,by omega,by omega,⟨aVG ?_ ?_ rfl rfl rfl rfl,aMh ?_,aMi ?_,rfl,rfl⟩,by omega⟩;·exact(hz.1 _ (cy (d:=[]) (by omega)) q hq).mono (by omega)
   ·show(h_ _ _ _ _ _).length=(h_ _ _ _ _ _).length;rw[tG,tG]
   ·show(h_ _ _ _ _ _).length=(h_ _ _ _ _ _).length;rw[tG,tG]
   ·rw[Lf,show(i+1).toNat=i.toNat+1 by omega];congr 1;exact Li (by omega) (by omega)
   ·rw[vI,show(i+1).toNat=i.toNat+1 by omega];congr 1;exact Li (f:=t.bd) (g:=λk=>t.bd k - t.cf k c.toNat*(t.bd r.toNat*(1 / t.cf r.toNat c.toNat))) (by omega) (by omega)
  ·have e:ko t r.toNat c.toNat (i+1).toNat=ko t r.toNat c.toNat i.toNat:=by rw[show(i+1).toNat=r.toNat+1 by omega,show i.toNat=r.toNat by omega];unfold ko;rw[Lh,Lh]
   rw[e];refine⟨?_,⟨rfl,rfl,rfl,rfl,rfl⟩,?_,?_⟩<;>omega
  ·have hsC:=hok.cs (j:=c.toNat) (by omega);have hC:bN (fL t.cost) c.toNat sF.bw=nf (t.cs c.toNat):=iR (by omega);have hcc:(ko t r.toNat c.toNat i.toNat).cost=t.cost:=rfl;have hvv:(ko t r.toNat c.toNat i.toNat).value=t.value:=rfl;have hff:(ko t r.toNat c.toNat i.toNat).free=t.free:=rfl;have hbs:(ko t r.toNat c.toNat i.toNat).basic=t.basic:=rfl;simp only[hC,hcc,hvv,hff,hbs,ku,dR];refine⟨c0,by omega,by omega,⟨t.cost,t.value,kg (bN t.VL r.toNat []) c.toNat,t.bd r.toNat*(1 / t.cf r.toNat c.toNat),⟨rfl,rfl,rfl,rfl⟩,(by omega),⟨c0,by omega⟩,λq hq=>(hz.2.2.1 q hq).mono (by omega),aMg,hz.2.2.2.mono (by omega),hsP.mono (by omega)⟩,⟨df hsC (by omega),df hsP (by omega)⟩,⟨df hz.2.2.2 (by omega),df (rP hsC hsP) (by omega)⟩,
    by omega,r0,by omega,by omega,by omega,by omega,r0,by omega,by omega,by omega,c0,by omega,by omega,r0,by omega,by omega,r0,by omega,by omega,c0,by omega,by omega,?_,aMh ?_,aMi ?_,aMj rfl,aMj rfl⟩
   ·have hpw:=Mg (r:=r.toNat) (c:=c.toNat) hw;rw[ekl,ebl,hbb,hfl,hpw.VL,hpw.bound,hpw.basic,hpw.free];rfl
   ·rw[Lf,show i.toNat=t.VL.length by omega];congr 1;exact Lg (by omega)
   ·rw[vI,show i.toNat=t.bound.length by omega];congr 1;exact Lg (by omega)
def qy (n m:Nat) (t:Tb):Prop:=∃a M G,Small n m M G a/\dx n m a t/\jQ m t
theorem VE {n m:Nat} {t:Tb} (h:qy n m t):eC n m (rK n m t) t=true:=by obtain⟨e,M,G,c,b,a⟩:=h;have d:=Fg b a;unfold rK;grind
noncomputable def E1:cC:=rN 160 Unit .nil (λn m t _=>qy n.toNat m.toNat t) (λn m t _=> .IL [.si .i64 (if dN (cw n.toNat m.toNat t) n.toNat<0 then 0 else dN (cw n.toNat m.toNat t) n.toNat),.sb (decide (dN (cw n.toNat m.toNat t) n.toNat<0))]) (λn m t _=>cw n.toNat m.toNat t)
def tS (t:Tb) (s:bF):Tb:=match AF s.o with
 |some x=>x.t
 |none=>t
noncomputable def VD (n m:Int) (t:Tb):Nat->bH
 |1=> .inv Tb (λx=>⟨[(0,.ptr 0 0 10)],(FV n m x).gh⟩) (tS t) (λx=>qy n.toNat m.toNat x/\cw n.toNat m.toNat x=cw n.toNat m.toNat t/\eC n.toNat m.toNat (rK n.toNat m.toNat t) x=true) (λx=>uV n.toNat m.toNat (rK n.toNat m.toNat t) x) λ_ _=> .look
 |_=> .look
theorem VC {n m:Int} {t:Tb} (h:qy n.toNat m.toNat t) (e:0<=n/\n<=1000) (f:0<=m/\m<=1000):jW n m t:=by obtain⟨c,M,G,a,b,d⟩:=h;grind[Mv]
theorem I9:g' E1:=by
 refine jE (L:=[]) (W:=[Fb,Fa,G']) E1 (λa=>VD a.1.n a.1.m a.1.t) (by simpa using⟨I4,I3,I5⟩) (by simp) ?_;rintro⟨x,u⟩ ⟨n,m,t,hx,hok,hd⟩;simp only at hx hd;subst hx;refine NI (let a:=iZ.row;let b:=γc .i64;let c:=γZ;let d:=Ω;let e:=iZ.cells;let f:=(0:Int);let g:=γA;let h:=SV.IL;let I:=γM 0 0 10;let D:=(FV n m t).n;let E:=(FV n m t).m;let r:=cj.i .u32;let F:=(FV n m t).t;let l:=FV D E F;let o:=cj.i .i64;let k:=D.toNat;let s:=E.toNat;let B:=cw k s F;let G:=rK k s F;let K:=h [b (if dN B k<f then f else dN B k),g (decide (dN B k<f))];let p:=FV D E B;let L:=e [b p.n,b p.m,c 1 p.k0 1,c 2 p.k1 3,d sF p.cost,g p.v.1,d r p.v.2.1,d r p.v.2.2,c 3 p.k3 1,c 4 p.k4 1] 261 10 false;let M:=a sF.zi p.VL 106 false;let N:=a sF p.bound 177 false;let O:=a o p.basic 3 false;let P:=a o p.free 3 false;(((I.bi I/\True)/\(e [b D,b E,c 1 (FV n m t).k0 1,c 2 (FV n m t).k1 3,d sF (FV n m t).cost,g (FV n m t).v.1,d r (FV n m t).v.2.1,d r (FV n m t).v.2.2,c 3 (FV n m t).k3 1,c 4 (FV n m t).k4 1] 261 10 false).bi (e [b l.n,b l.m,c 1 l.k0 1,c 2 l.k1 3,d sF l.cost,g l.v.1,d r l.v.2.1,d r l.v.2.2,c 3 l.k3 1,c 4 l.k4 1] 261 10 false)/\(a sF.zi (FV n m t).VL 106 false).bi (a sF.zi l.VL 106 false)/\(a sF (FV n m t).bound 177 false).bi (a sF l.bound 177 false)/\(a o (FV n m t).basic 3 false).bi (a o l.basic 3 false)/\(a o (FV n m t).free 3 false).bi (a o l.free 3 false)/\True)/\qy k s F/\B=B/\eC k s G F=true)/\∀(x:Tb),let y:=FV D E x;let z:=dN y.t y.n.toNat;let Q:=decide (z<f);let j:=FV y.n y.m y.t;let H:=dr j.t z.toNat j.m.toNat;let R:=decide (H<f);let C:=FV j.n j.m j.t;let S:=fi C.t H.toNat z.toNat;let A:=FV C.n C.m S;let q:=FV D E A.t;let T:=λ(u u_1:Int) (u_2 u_3:Tb) (u_4:iZ) ↦let J:=FV u u_1 u_2;let U:=FV J.n J.m J.t;let w:=FV U.n U.m u_3;(e [b w.n,b w.m,c 1 w.k0 1,c 2 w.k1 3,d sF w.cost,g w.v.1,d r w.v.2.1,d r w.v.2.2,c 3 w.k3 1,c 4 w.k4 1] 261 10 false).bi u_4;qy k s x/\cw k s x=B/\eC k s G x=true->(∃(n:Int),∃(m:Int),∃(t:Tb),y=FV n m t/\jW n m t/\True)/\(Q=true->(h [γu .i64 0,δb true]).bi K/\(e [b j.n,b j.m,c 1 j.k0 1,c 2 j.k1 3,d sF j.cost,g j.v.1,d r j.v.2.1,d r j.v.2.2,c 3 j.k3 1,c 4 j.k4 1] 261 10 false).bi L/\(a sF.zi j.VL 106 false).bi M/\(a sF j.bound 177 false).bi N/\(a o j.basic 3 false).bi O/\(a o j.free 3 false).bi P/\True)/\(Q=false->(∃(n:Int),∃(m:Int),∃(t:Tb),j=FV n m t/\jW n m t/\f<=z/\z<n)/\(R=true->(h [b z,δb false]).bi K/\T D E x j.t L/\(a sF.zi C.VL 106 false).bi M/\(a sF C.bound 177 false).bi N/\(a o C.basic 3 false).bi O/\(a o C.free 3 false).bi P/\True)/\(R=false->(∃(n:Int),∃(m:Int),∃(t:Tb),C=FV n m t/\jW n m t/\(f<=H/\H<m)/\(f<=z/\z<n)/\t.cf H.toNat z.toNat≠(0:Rat))/\0=0/\((I.bi I/\True)/\T y.n y.m y.t S (e [b q.n,b q.m,c 1 q.k0 1,c 2 q.k1 3,d sF q.cost,g q.v.1,d r q.v.2.1,d r q.v.2.2,c 3 q.k3 1,c 4 q.k4 1] 261 10 false)/\(a sF.zi A.VL 106 false).bi (a sF.zi q.VL 106 false)/\(a sF A.bound 177 false).bi (a sF q.bound 177 false)/\(a o A.basic 3 false).bi (a o q.basic 3 false)/\(a o A.free 3 false).bi (a o q.free 3 false)/\True)/\(qy k s A.t/\cw k s A.t=B/\eC k s G A.t=true)/\uV k s G A.t<uV k s G x))) (by kernel_rfl) ?_;simp only[Vg,qM,Mz,My];try simp only[vcs]
 obtain⟨⟨hn,hm⟩,hw,hz⟩:=id hok;refine⟨⟨hd,VE hd⟩,?_⟩;rintro x ⟨hx,hl,he⟩;have X:=VC hx hn hm;have V:n' n.toNat m.toNat x=if dN x n.toNat<0 then none else if dr x (dN x n.toNat).toNat m.toNat<0 then none else some (fi x (dr x (dN x n.toNat).toNat m.toNat).toNat (dN x n.toNat).toNat):=rfl;have hwx:=X.2.1;have fin:∀{y:Tb},y=cw n.toNat m.toNat t->FV n m y=FV n m (cw n.toNat m.toNat t):=by rintro _ rfl;rfl
 refine⟨⟨n,m,x,rfl,X⟩,λh0=>?_,λh0=>?_⟩
 ·rw[if_pos h0] at V;have e:=MZ V;rw[hl] at e;rw[<-e] at h0 ⊢;rw[if_pos h0,decide_eq_true h0];exact⟨⟨rfl,rfl⟩,rfl,rfl,rfl,rfl,rfl⟩
 ·have Y:¬dN x n.toNat<0:=h0;rw[if_neg Y] at V;rcases @rO x n.toNat with⟨e1,e2⟩|⟨c,e1,e2,e3,e4⟩;·omega
  ·refine⟨⟨n,m,x,rfl,X,by omega⟩,λh1=>?_,λh1=>?_⟩
   ·rw[if_pos h1] at V;have e:=MZ V;rw[hl] at e;rw[e,if_neg Y,decide_eq_false Y];exact⟨⟨rfl,rfl⟩,rfl,rfl,rfl,rfl,rfl⟩
   ·have h1':¬dr x (dN x n.toNat).toNat m.toNat<0:=h1;rw[if_neg h1'] at V;rcases @tI x (dN x n.toNat).toNat m.toNat with⟨l1,l2⟩|⟨r,l1,l2,l3,l4⟩;·omega
    ·refine⟨⟨n,m,x,rfl,X,(by omega),(by omega),?_⟩,?_⟩;·rw[l1,γg];grind
     ·obtain⟨t0,M,G,g1,g2,g3⟩:=hx;have hsr:=Fi g2 g3 V;have aVN:=Fg g2 g3;refine⟨⟨⟨t0,M,G,g1,hsr.1,hsr.2⟩,?_,MA he V⟩,n5 he V⟩;rw[U9 aVN V,hl]
def fE (t:Tb) (n:Nat):Nat->List Rat
 |0=>δ n 0
 |k+1=>if t.bv k<n then(fE t n k).set (t.bv k).toNat (t.bd k) else fE t n k
def iL (t:Tb) (n m:Nat):Nat->List Rat
 |0=>δ m 0
 |k+1=>if(n:Int)<=t.fv k/\t.fv k<n+m then(iL t n m k).set (t.fv k - n).toNat (-(t.cs k)) else iL t n m k
theorem B1 {t:Tb} {n:Nat}:∀{k:Nat},(fE t n k).length=n
 |0=>by simp[fE];|k+1=>by have:=@B1 t n k;grind[fE]
theorem B0 {t:Tb} {n m:Nat}:∀{k:Nat},(iL t n m k).length=m
 |0=>by simp[iL];|k+1=>by have:=@B0 t n m k;grind[iL]
def BZ:cC:=rN 161 Unit .nil (λ_ _ t _=>∀v∈t.basic,0<=v) (λn m t _=> .row sF (fL (fE t n.toNat m.toNat))) (λ_ _ t _=>t)
def VB (n m:Int) (t:Tb):Nat->bH
 |3=> .inv Int (λi=>⟨[(0,.ptr 0 0 10),(3,.ow 5 n.toNat 3),(14,.ow 3 t.basic.length 1),(15,.si .i64 t.basic.length),(16,.si .i64 i)],(FV n m t).gh++[.row sF (fL (fE t n.toNat i.toNat)) 177 false]⟩)
   (λs=>iS s 16) (λi=>0<=i/\i<=m) (λi=>(m - i).toNat) λ_ _=> .look
 |_=> .look
theorem I8:g' BZ:=by
 refine jE (L:=[]) (W:=[D']) BZ (λa=>VB a.1.n a.1.m a.1.t) (by simpa using ze) (by simp) ?_;rintro⟨x,u⟩ ⟨n,m,t,S,P,T⟩;simp only at S T;subst S;refine NI (let a:=iZ.row;let b:=γc .i64;let c:=(0:Int);let d:=Ω;let e:=γZ;let p:=(FV n m t).n;let B:=γM 0 0 10;let g:=p.toNat;let C:=e 5 g 3;let J:=e 3 (FV n m t).k3 1;let k:=(FV n m t).t;let q:=k.basic.length;let G:=e 3 q 1;let H:=b (↑q:Int);let h:=(FV n m t).m;let D:=cj.i .u32;let f:=FV p h k;let r:=iZ.cells [b f.n,b f.m,e 1 f.k0 1,e 2 f.k1 3,d sF f.cost,γA f.v.1,d D f.v.2.1,d D f.v.2.2,e 3 f.k3 1,e 4 f.k4 1] 261 10 false;let s:=a sF.zi f.VL 106 false;let w:=a sF f.bound 177 false;let E:=cj.i .i64;let l:=f.basic;let y:=a E l 3 false;let z:=a E f.free 3 false;let F:=f.bound.length;(c<=p/\p<=(1000:Int))/\(((B.bi B/\C.bi C/\J.bi G/\(b (↑(FV n m t).k3:Int)).bi H/\(γu .i64 0).bi (b 0)/\True)/\(iZ.cells [b p,b h,e 1 (FV n m t).k0 1,e 2 (FV n m t).k1 3,d sF (FV n m t).cost,γA (FV n m t).v.1,d D (FV n m t).v.2.1,d D (FV n m t).v.2.2,J,e 4 (FV n m t).k4 1] 261 10 false).bi r/\(a sF.zi (FV n m t).VL 106 false).bi s/\(a sF (FV n m t).bound 177 false).bi w/\(a E (FV n m t).basic 3 false).bi y/\(a E (FV n m t).free 3 false).bi z/\(a sF (fL (δ g (0:Rat))) 177 false).bi (a sF (fL (fE k g 0)) 177 false)/\True)/\c<=c/\c<=h)/\∀(x:Int),let o:=x+(1:Int);let K:=b o;let L:=decide (x<(↑q:Int));let A:=bN l x.toNat c;let M:=decide (A<f.n);let j:=fL (fE k g x.toNat);let I:=bN f.bound x.toNat sF.bw;let N:=λ(u:iZ) ↦TP .i64 o/\((B.bi B/\C.bi C/\G.bi G/\H.bi H/\K.bi K/\True)/\r.bi r/\s.bi s/\w.bi w/\y.bi y/\z.bi z/\u.bi (a sF (fL (fE k g o.toNat)) 177 false)/\True)/\(c<=o/\o<=h)/\(h - o).toNat<(h - x).toNat;c<=x/\x<=h->(L=true->q=l.length/\c<=x/\x<(↑l.length:Int)/\q=l.length/\x.toNat<l.length/\(M=true->f.k1=F/\c<=x/\x<(↑F:Int)/\f.k1=F/\x.toNat<F/\g=j.length/\c<=A/\A<(↑j.length:Int)/\g=j.length/\A.toNat<j.length/\N (a sF (j.set A.toNat (I.1,I.2.1,I.2.2)) 177 false))/\(M=false->N (a sF j 177 false)))/\(L=false->g=j.length/\(d sF j).bi (d sF (fL (fE k g h.toNat)))/\r.bi r/\s.bi s/\w.bi w/\y.bi y/\z.bi z/\True)) (by kernel_rfl) ?_;simp only[qM];try simp only[FV]
 simp only[vcs];obtain⟨⟨⟨n0,U⟩,m0,m1⟩,hw,hz⟩:=id P;have hbb:=hw.basic;have hbl:=hw.bound;have hfb:=@ff t.bound;have R:∀k:Nat,bN t.basic k 0=t.bv k:=λk=>rfl;have O:∀{x y:List NH},x=y->(iZ.row sF x 177 false).bi (iZ.row sF y 177 false):=by rintro _ _ rfl;rfl
 refine⟨⟨n0,U⟩,⟨O rfl,by omega⟩,?_⟩;rintro i ⟨i0,i1⟩;have hpl:=@B1 t n.toNat i.toNat;have hfp:=@ff (fE t n.toNat i.toNat);refine⟨λhi=>?_,λhi=>⟨by omega,by rw[show i.toNat=m.toNat by omega]⟩⟩;have V:=T _ (xe hw (show i.toNat<m.toNat by omega));have Y:bN (fL t.bound) i.toNat sF.bw=nf (t.bd i.toNat):=iR (by omega);have X:fE t n.toNat (i+1).toNat=if t.bv i.toNat<n.toNat then(fE t n.toNat i.toNat).set (t.bv i.toNat).toNat (t.bd i.toNat) else fE t n.toNat i.toNat:=by rw[show(i+1).toNat=i.toNat+1 by omega];rfl
 simp only[R,Y,jt,X];refine⟨i0,hi,by omega,λQ=>⟨by omega,i0,by omega,by omega,by omega,by omega,V,by omega,by omega,by omega,by omega,O ?_,by omega⟩,λQ=>⟨by omega,O ?_,by omega⟩⟩;·rw[vI,if_pos (by omega)]
 ·rw[if_neg (by omega)]
def BY:cC:=rN 163 Unit .nil (λ_ _ t _=>True) (λn m t _=> .row sF (fL (iL t n.toNat m.toNat n.toNat))) (λ_ _ t _=>t)
def VA (n m:Int) (t:Tb):Nat->bH
 |3=> .inv Int (λi=>⟨[(0,.ptr 0 0 10),(3,.ow 5 m.toNat 3),(14,.ow 4 t.free.length 1),(15,.si .i64 t.free.length),(16,.si .i64 i)],(FV n m t).gh++[.row sF (fL (iL t n.toNat m.toNat i.toNat)) 177 false]⟩)
   (λs=>iS s 16) (λi=>0<=i/\i<=n) (λi=>(n - i).toNat) λ_ _=> .look
 |_=> .look
theorem I7:g' BY:=by
 refine jE (L:=[uW]) (W:=[D']) BY (λa=>VA a.1.n a.1.m a.1.t) (by simpa using ze) (by simpa using rB) ?_;rintro⟨x,u⟩ ⟨n,m,t,X,U,hd⟩;simp only at X hd;subst X;refine NI (let a:=iZ.row;let b:=γc .i64;let c:=(0:Int);let d:=Ω;let e:=γZ;let f:=TP .i64;let A:=(FV n m t).m;let u:=γM 0 0 10;let k:=A.toNat;let w:=e 5 k 3;let M:=e 4 (FV n m t).k4 1;let y:=(FV n m t).t;let B:=y.free.length;let C:=e 4 B 1;let D:=b (↑B:Int);let h:=(FV n m t).n;let G:=cj.i .u32;let g:=FV h A y;let o:=iZ.cells [b g.n,b g.m,e 1 g.k0 1,e 2 g.k1 3,d sF g.cost,γA g.v.1,d G g.v.2.1,d G g.v.2.2,e 3 g.k3 1,e 4 g.k4 1] 261 10 false;let p:=a sF.zi g.VL 106 false;let q:=a sF g.bound 177 false;let H:=cj.i .i64;let r:=a H g.basic 3 false;let z:=g.free;let s:=a H z 3 false;let E:=h.toNat;(c<=A/\A<=(1000:Int))/\(((u.bi u/\w.bi w/\M.bi C/\(b (↑(FV n m t).k4:Int)).bi D/\(γu .i64 0).bi (b 0)/\True)/\(iZ.cells [b h,b A,e 1 (FV n m t).k0 1,e 2 (FV n m t).k1 3,d sF (FV n m t).cost,γA (FV n m t).v.1,d G (FV n m t).v.2.1,d G (FV n m t).v.2.2,e 3 (FV n m t).k3 1,M] 261 10 false).bi o/\(a sF.zi (FV n m t).VL 106 false).bi p/\(a sF (FV n m t).bound 177 false).bi q/\(a H (FV n m t).basic 3 false).bi r/\(a H (FV n m t).free 3 false).bi s/\(a sF (fL (δ k (0:Rat))) 177 false).bi (a sF (fL (iL y E k 0)) 177 false)/\True)/\c<=c/\c<=h)/\∀(x:Int),let j:=x+(1:Int);let I:=b j;let l:=fL (iL y E k x.toNat);let N:=a sF (fL (iL y E k j.toNat)) 177 false;let O:=decide (x<(↑B:Int));let J:=bN z x.toNat c;let P:=decide (g.n<=J);let Q:=decide (J<g.n+g.m);let F:=J - g.n;let K:=bN g.cost x.toNat sF.bw;let L:=(K.1,K.2.1,K.2.2);let R:=(nf (-TM L)).2;let S:=f j/\((u.bi u/\w.bi w/\C.bi C/\D.bi D/\I.bi I/\True)/\o.bi o/\p.bi p/\q.bi q/\r.bi r/\s.bi s/\(a sF l 177 false).bi N/\True)/\(c<=j/\j<=h)/\(h - j).toNat<(h - x).toNat;c<=x/\x<=h->(O=true->B=z.length/\c<=x/\x<(↑z.length:Int)/\B=z.length/\x.toNat<z.length/\(P=true->f (g.n+g.m)/\(Q=true->f F/\c<=x/\x<(↑g.cost.length:Int)/\x.toNat<g.cost.length/\bP L/\k=l.length/\c<=F/\F<(↑l.length:Int)/\k=l.length/\F.toNat<l.length/\f j/\((u.bi u/\w.bi w/\C.bi C/\D.bi D/\I.bi I/\True)/\o.bi o/\p.bi p/\q.bi q/\r.bi r/\s.bi s/\(a sF (l.set F.toNat ((nf (-TM L)).1,R.1,R.2)) 177 false).bi N/\True)/\(c<=j/\j<=h)/\(h - j).toNat<(h - x).toNat)/\(Q=false->S))/\(P=false->S))/\(O=false->k=l.length/\(d sF l).bi (d sF (fL (iL y E k E)))/\o.bi o/\p.bi p/\q.bi q/\r.bi r/\s.bi s/\True)) (by kernel_rfl) ?_;simp only[qM];try simp only[FV]
 simp only[vcs];obtain⟨⟨⟨n0,n1⟩,m0,m1⟩,hw,hz⟩:=id U;have hfl:=hw.free;have hcl:=hw.cost;have hfc:=@ff t.cost;have V:∀k:Nat,bN t.free k 0=t.fv k:=λk=>rfl;have T:∀{x y:List NH},x=y->(iZ.row sF x 177 false).bi (iZ.row sF y 177 false):=by rintro _ _ rfl;rfl
 refine⟨⟨m0,m1⟩,⟨T rfl,by omega⟩,?_⟩;rintro i ⟨i0,i1⟩;have hpl:=@B0 t n.toNat m.toNat i.toNat;have hfp:=@ff (iL t n.toNat m.toNat i.toNat);refine⟨λhi=>?_,λhi=>⟨by omega,by rw[show i.toNat=n.toNat by omega]⟩⟩;have hC:bN (fL t.cost) i.toNat sF.bw=nf (t.cs i.toNat):=iR (by omega);have Y:iL t n.toNat m.toNat (i+1).toNat=if(n.toNat:Int)<=t.fv i.toNat/\t.fv i.toNat<n.toNat+m.toNat then(iL t n.toNat m.toNat i.toNat).set (t.fv i.toNat - n.toNat).toNat (-(t.cs i.toNat)) else iL t n.toNat m.toNat i.toNat:=by rw[show(i+1).toNat=i.toNat+1 by omega];rfl
 simp only[V,hC,jt,Y,dR];refine⟨i0,hi,by omega,λh1=>⟨by omega,λh2=>⟨by omega,i0,by omega,by omega,df (U.cs (by omega)) (by omega),by omega,by omega,by omega,by omega,by omega,by omega,T ?_,by omega⟩,λh2=>⟨by omega,T ?_,by omega⟩⟩,λh1=>⟨by omega,T ?_,by omega⟩⟩;·rw[vI,if_pos (by omega),show(n.toNat:Int)=n by omega]
 ·rw[if_neg (by omega)]
 ·rw[if_neg (by omega)]
@[reducible] def sR:cj:=.pair (.zi sF) sF
abbrev rl:=List NH×List (List NH×NH)
def vH:pH rl where
 put a:=.agg [.row sF a.1,.row sR a.2];dec
  | .agg [r,v]=>match fZ sF r,fZ sR v with
   |some c,some v=>some (c,v)
   |_,_=>none
  |_=>none;ok v a h:=by grind[ε8,gL,jF]
 inj a b h:=by obtain⟨c,v⟩:=a;obtain⟨f,i⟩:=b;simp only[ε8,gL,AV.agg.injEq,χ,and_true,δ9] at h;have e:=kK sF h.1.1 h.1.2;have d:=kK sR h.2.1 h.2.2;rw[e,d]
def hJ (x:NH):Prop:=(ou x.2.1/\ou x.2.2)/\x.2.1.length<=10000000/\x.2.2.length<=10000000
def E0:NG:=⟨175,List NH,.one (cP sF),λl=>(show List NH from l).length<=1000/\∀x∈(show List NH from l),hJ x,λl=> .sb ((show List NH from l).all okF)⟩
def Vz (l:List NH):Nat->bH
 |2=> .inv Int (λi=>⟨[(5,.row sF l),(6,.si .i64 l.length),(7,.si .i64 i)],[]⟩)
   (λs=>iS s 7) (λi=>(0<=i/\i<=l.length)/\(l.take i.toNat).all okF=true) (λi=>(l.length - i).toNat) λ_ _=> .look
 |_=> .look
theorem I6:d' E0:=by
 refine bI (L:=[rQ]) E0 Vz (by grind[n4]) ?_;rintro(l:List NH) ⟨(q:l.length<=1000),(n:∀x∈l,hJ x)⟩;refine NI (let d:=(0:Int);let e:=γc .i64;let g:=Ω;let a:=(↑l.length:Int);let f:=e a;((((g sF l).bi (g sF l)/\(e (↑l.length:Int)).bi f/\(γu .i64 0).bi (e 0)/\True)/\True)/\(d<=d/\d<=a)/\true=true)/\∀(x:Int),let b:=bN l x.toNat sF.bw;let c:=x+(1:Int);let k:=e c;let m:=λ(u:Bool) ↦(!okF (b.1,b.2.1,b.2.2))=u;(d<=x/\x<=a)/\(Ξ x.toNat l).all okF=true->(decide (x<a)=true->d<=x/\x<(↑l.length:Int)/\x.toNat<l.length/\((ou b.2.1/\ou b.2.2)/\γf b.2.1<=10000000/\γf b.2.2<=10000000)/\(m true->(δb false).bi (γA (l.all okF)))/\(m false->TP .i64 c/\(((g sF l).bi (g sF l)/\f.bi f/\k.bi k/\True)/\True)/\((d<=c/\c<=a)/\(Ξ c.toNat l).all okF=true)/\(a - c).toNat<(a - x).toNat))/\(decide (x<a)=false->(δb true).bi (γA (l.all okF)))) (by kernel_rfl) ?_;simp only[vcs];refine⟨(by omega),?_⟩;rintro i ⟨⟨j,t⟩,e⟩;refine⟨λh=>?_,λh=>?_⟩
 ·have p:=cy (d:=sF.bw) (show i.toNat<l.length by omega);have r:=iG (d:=sF.bw) j h;have g:=n _ p;have o:okF ((bN l i.toNat sF.bw).1,(bN l i.toNat sF.bw).2.1,(bN l i.toNat sF.bw).2.2)=okF (bN l i.toNat sF.bw):=rfl;rw[o];refine⟨j,h,by omega,⟨g.1,g.2.1,g.2.2⟩,λs=>?_,λv=>⟨by omega,⟨(by omega),?_⟩,by omega⟩⟩;all_goals grind
 ·rw[show i.toNat=l.length by omega,φ] at e;simp_all
def EZ:NG:=⟨156,rl,.one vH,λa=>(a.1.length<=160/\a.2.length<=40)/\(∀x∈a.1,hJ x/\okF x=true)/\∀r∈a.2,r.1.length=a.1.length/\(∀x∈r.1,hJ x/\okF x=true)/\hJ r.2/\okF r.2=true,λ_=> .si .i64 0⟩
def Vy (a:rl):Nat->bH
 |6=> .inv Int (λi=>⟨[(1,.ptr 0 0 2),(20,.row sR a.2),(21,.si .i64 a.2.length),(22,.si .i64 i)],[.cells [.row sF a.1,.row sR a.2] 217 2 false]⟩)
   (λs=>iS s 22) (λi=>0<=i/\i<=a.2.length) (λi=>(a.2.length - i).toNat) λ_ _=> .look
 |_=> .look
theorem Jc:d' EZ:=by
 refine bI (L:=[E0,rQ]) EZ Vy (by simpa using⟨I6,n4⟩) ?_;rintro⟨g,y⟩ ⟨⟨D,C⟩,B,hr⟩;simp only at D C B hr;refine NI (let a:=γu .i64;let b:=(0:Int);let c:=γc .i64;let d:=γu .i64 0;let q:=decide ((160:Int)<(↑g.length:Int));let e:=c 0;let m:=(↑y.length:Int);let r:=decide ((40:Int)<m);let k:=γM 0 0 2;let i:=Ω sR y;let f:=(↑y.length:Int);let n:=c f;let l:=iZ.cells [Ω sF g,i] 217 2 false;(q=true->(a 3).bi e)/\(q=false->(r=true->(a 3).bi e)/\(r=false->(g.length<=1000/\∀(x:NH),x∈g->hJ x)/\((!g.all okF)=true->(a 2).bi e)/\((!g.all okF)=false->(((k.bi k/\i.bi i/\(c m).bi n/\(a 0).bi e/\True)/\l.bi l/\True)/\b<=b/\b<=f)/\∀(x:Int),let h:=bN y x.toNat sR.bw;let o:=h.2.2.1;let p:=h.2.2.2;let s:=!List.all h.1 okF;let j:=x+(1:Int);let t:=c j;let v:=λ(u:Bool) ↦(!okF (h.2.1,o,p))=u;let w:=λ(u:Bool) ↦decide ((↑(γf h.1):Int)≠(↑g.length:Int))=u;b<=x/\x<=f->(decide (x<f)=true->b<=x/\x<m/\x.toNat<y.length/\(w true->(a 2).bi e)/\(w false->(γf h.1<=1000/\∀(x:NH),x∈h.1->hJ x)/\(s=true->(a 2).bi e)/\(s=false->((ou o/\ou p)/\γf o<=10000000/\γf p<=10000000)/\(v true->(a 2).bi e)/\(v false->TP .i64 j/\((k.bi k/\i.bi i/\n.bi n/\t.bi t/\True)/\l.bi l/\True)/\(b<=j/\j<=f)/\(f - j).toNat<(f - x).toNat))))/\(decide (x<f)=false->(a 0).bi e))))) (by kernel_rfl) ?_;simp only[vcs];have z:∀{l:List NH},(∀x∈l,hJ x/\okF x=true)->l.all okF=true:=λh=>τ.2 λx A=>(h x A).2;refine⟨λh=>by omega,λ_=>⟨λh=>by omega,λ_=>⟨⟨by omega,λx A=>(B x A).1⟩,λh=>(by rw[z B] at h;cases h),λ_=>⟨(by omega),?_⟩⟩⟩⟩;rintro i ⟨i0,i1⟩;refine⟨λhi=>?_,λ_=>trivial⟩;have hm:=hr _ (cy (d:=sR.bw) (show i.toNat<y.length by omega));have E:okF ((bN y i.toNat sR.bw).2.1,(bN y i.toNat sR.bw).2.2.1,(bN y i.toNat sR.bw).2.2.2)=okF (bN y i.toNat sR.bw).2:=rfl;rw[E];refine⟨i0,hi,by omega,λh=>absurd (by rw[hm.1]) h,λ_=>⟨⟨by have:=hm.1;omega,λx A=>(hm.2.1 x A).1⟩,λh=>?_,λ_=>⟨⟨hm.2.2.1.1,hm.2.2.1.2.1,hm.2.2.1.2.2⟩,λh=>?_,λ_=>⟨by omega,(by omega),by omega⟩⟩⟩⟩
 ·have:=z hm.2.1;rw[show List.all (bN y i.toNat sR.bw).1 okF=true from this] at h;cases h
 ·rw[hm.2.2.2] at h;cases h
def xK (a:rl):mj:=⟨a.1.length,a.2.length,a.2.length,a.2.length,a.2.length,a.1.length,a.2.map (·.1),a.2.map (·.2),δ a.1.length (nf 0),nf 0,(bL a.2.length).map λi=>a.1.length+i,bL a.1.length⟩
def EY:cC where
 f:=157;α:=rl;put a:=[vH.put a];st _:=[];dec v o:=match v,o with
  |[v],[]=>vH.dec v
  |_,_=>none;ok v o a h:=by
  split at h;·exact⟨by simp only[gL,vH.ok _ _ h],rfl⟩
  ·cases h
 inj a b h _:=vH.inj a b (by simpa[gL] using h);dom a:=a.1.length<=1000/\a.2.length<=1000/\∀r∈a.2,r.1.length<=1000;res a:=.ptr 0 0 10;out a:=(xK a).gh
def Le (a:rl) (k0 k1 k2 k3 k4:Nat) (co:List (List NH)) (c b:List NH) (d fr:List Int):VI:=
 [.cells [.row sF a.1,.row sR a.2] 217 2 false,.cells [.si .i64 a.1.length,.si .i64 a.2.length,.ow 2 k0 1,.ow 3 k1 3,.ow 4 k2 3,.sb (nf 0).1,.row (.i .u32) (nf 0).2.1,.row (.i .u32) (nf 0).2.2,.ow 5 k3 1,.ow 6 k4 1] 261 10 false,
  .row (.zi sF) co 106 false,.row sF c 177 false,.row sF b 177 true,.row (.i .i64) d 3 false,.row (.i .i64) fr 3 false]
def Vx (a:rl):Nat->bH
 |3=> .inv Int (λj=>⟨[(1,.ptr 0 0 2),(3,.ptr 1 0 10),(18,.si .i64 a.1.length),(19,.si .i64 j)],Le a 0 0 j.toNat 0 j.toNat [] [] (δ j.toNat (nf 0)) [] (bL j.toNat)⟩)
   (λs=>iS s 19) (λj=>0<=j/\j<=a.1.length) (λj=>(a.1.length - j).toNat) λ_ _=> .look
 |9=> .inv Int (λi=>⟨[(3,.ptr 1 0 10),(44,.row sR a.2),(45,.si .i64 a.2.length),(46,.si .i64 i)],Le a i.toNat i.toNat a.1.length i.toNat a.1.length ((a.2.take i.toNat).map (·.1)) ((a.2.take i.toNat).map (·.2)) (δ a.1.length (nf 0)) ((bL i.toNat).map λi=>a.1.length+i) (bL a.1.length)⟩)
   (λs=>iS s 46) (λi=>0<=i/\i<=a.2.length) (λi=>(a.2.length - i).toNat) λ_ _=> .look
 |_=> .look
theorem Jb:g' EY:=by
 refine BB (L:=[mR]) (W:=[]) EY (λ_=>none) Vx (by simp) (by simpa using n_) ?_;rintro⟨g,rs⟩ ⟨hg,hr,hrr⟩;simp only at hg hr hrr;refine NI (let a:=iZ.row;let c:=γZ;let d:=iZ.cells;let e:=(0:Int);let f:=γc .i64;let h:=(-9223372036854775808:Int);let j:=Ω;let k:=(9223372036854775807:Int);let l:=γu .i64 0;let o:=TP .i64;let p:=γM;let V:=p 0 0 2;let w:=p 1 0 10;let a6:=f (↑g.length:Int);let r:=(↑g.length:Int);let s:=f r;let N:=j sR rs;let y:=d [j sF g,N] 217 2 false;let a7:=f (↑rs.length:Int);let G:=c 2 0 1;let H:=c 3 0 3;let a8:=c 4 0 3;let I:=nf (κ e);let z:=cj.i .u32;let O:=c 5 0 1;let a9:=[O,c 6 0 1];let A:=(↑rs.length:Int);let t:=f A;let J:=nf (0:Rat);let B:=γA J.1;let C:=j z J.2.1;let D:=j z J.2.2;let P:=cj.b.pair (z.zi.pair z.zi);let Q:=a sF.zi [] 106 false;let R:=a sF [] 177 false;let u:=cj.i .i64;let F:=a u [] 3 false;let a1:=c 4 g.length 3;let a2:=[c 6 g.length 1];let a3:=δ g.length J;let a4:=a sF a3 177 true;let W:=a u (bL g.length) 3 false;let aa:=p 0 0 10;let q:=xK (g,rs);(h<=e/\e<=k)/\(((V.bi V/\w.bi w/\a6.bi s/\(l).bi (f 0)/\True)/\y.bi y/\(d (a6::a7::G::H::a8::γA I.1::j z I.2.1::j z I.2.2::a9) 261 10 false).bi (d (s::t::G::H::a8::B::C::D::a9) 261 10 false)/\(a P.zi [] 106 false).bi Q/\(a P [] 177 false).bi R/\(a P [] 177 true).bi (a sF [] 177 true)/\F.bi F/\F.bi (a u (bL 0) 3 false)/\True)/\e<=e/\e<=r)/\∀(x:Int),let S:=bL x.toNat;let ab:=S.length+1;let X:=δ x.toNat J;let ac:=X.length+1;let K:=x+(1:Int);let ad:=f K;let ae:=X++[(I.1,I.2.1,I.2.2)];let Y:=K.toNat;e<=x/\x<=r->(decide (x<r)=true->1=1/\x.toNat=S.length/\ab*8<=140737488355328/\ab<=1000000000000/\(h<=e/\e<=k)/\1=1/\x.toNat=X.length/\ac*56<=140737488355328/\ac<=1000000000000/\o K/\((V.bi V/\w.bi w/\s.bi s/\ad.bi ad/\True)/\y.bi y/\(d [s,t,G,H,c 4 ae.length 3,B,C,D,O,c 6 (S++[x]).length 1] 261 10 false).bi (d [s,t,G,H,c 4 Y 3,B,C,D,O,c 6 Y 1] 261 10 false)/\Q.bi Q/\R.bi R/\(a P ae 177 true).bi (a sF (δ Y J) 177 true)/\F.bi F/\(a u (S++[x]) 3 false).bi (a u (bL Y) 3 false)/\True)/\(e<=K/\K<=r)/\(r - K).toNat<(r - x).toNat)/\(decide (x<r)=false->(((w.bi w/\N.bi N/\a7.bi t/\(l).bi (f 0)/\True)/\y.bi y/\(d [s,t,G,H,c 4 x.toNat 3,B,C,D,O,c 6 x.toNat 1] 261 10 false).bi (d (s::t::G::H::a1::B::C::D::O::a2) 261 10 false)/\Q.bi Q/\R.bi R/\(a sF X 177 true).bi a4/\F.bi F/\(a u S 3 false).bi W/\True)/\e<=e/\e<=A)/\∀(x:Int),let T:=bN rs x.toNat sR.bw;let E:=γf T.1;let af:=Ξ x.toNat rs;let Z:=γd (λx ↦x.1) af;let a5:=Z.length+1;let a0:=γd (λx ↦x.2) af;let ag:=a0.length+1;let U:=γd (λi ↦(↑(g,rs).1.length:Int)+i) (bL x.toNat);let ah:=U.length+1;let L:=x+(1:Int);let ai:=f L;let aj:=a0++[(T.2.1,T.2.2.1,T.2.2.2)];let M:=L.toNat;e<=x/\x<=A->(decide (x<A)=true->e<=x/\x<(↑rs.length:Int)/\x.toNat<rs.length/\0=0/\(0+E)*56<=140737488355328/\0+E<=1000000000000/\x.toNat=Z.length/\a5*24<=140737488355328/\a5<=1000000000000/\E=E/\E=E/\E=E/\1=1/\x.toNat=a0.length/\ag*56<=140737488355328/\ag<=1000000000000/\o (r+x)/\1=1/\x.toNat=U.length/\ah*8<=140737488355328/\ah<=1000000000000/\o L/\((w.bi w/\N.bi N/\t.bi t/\ai.bi ai/\True)/\y.bi y/\(d (s::t::c 2 a5 1::c 3 aj.length 3::a1::B::C::D::c 5 (U++[r+x]).length 1::a2) 261 10 false).bi (d (s::t::c 2 M 1::c 3 M 3::a1::B::C::D::c 5 M 1::a2) 261 10 false)/\(a sF.zi (Z++[T.1]) 106 false).bi (a sF.zi (γd (λx ↦x.1) (Ξ M rs)) 106 false)/\(a P aj 177 false).bi (a sF (γd (λx ↦x.2) (Ξ M rs)) 177 false)/\a4.bi a4/\(a u (U++[r+x]) 3 false).bi (a u (γd (λi ↦(↑(g,rs).1.length:Int)+i) (bL M)) 3 false)/\W.bi W/\True)/\(e<=L/\L<=A)/\(A - L).toNat<(A - x).toNat)/\(decide (x<A)=false->g.length=a3.length/\aa.bi aa/\(d [s,t,c 1 x.toNat 1,c 2 x.toNat 3,j sF a3,B,C,D,c 3 x.toNat 1,c 4 g.length 1] 261 10 false).bi (d [f q.n,f q.m,c 1 q.k0 1,c 2 q.k1 3,j sF q.cost,γA q.v.1,j z q.v.2.1,j z q.v.2.2,c 3 q.k3 1,c 4 q.k4 1] 261 10 false)/\(a sF.zi Z 106 false).bi (a sF.zi q.VL 106 false)/\(a sF a0 177 false).bi (a sF q.bound 177 false)/\(a u U 3 false).bi (a u q.basic 3 false)/\W.bi (a u q.free 3 false)/\True))) (by kernel_rfl) ?_;simp only[vcs];have h0:(κ 0:Rat)=0:=rfl;simp only[h0,jt];have hcell:∀{a b a' b' c d e a2 b2 c2 d2 e2:Nat},a=a2->b=b2->c=c2->d=d2->e=e2->(iZ.cells [.si .i64 a',.si .i64 b',.ow 2 a 1,.ow 3 b 3,.ow 4 c 3,.sb (nf 0).1,.row (.i .u32) (nf 0).2.1,.row (.i .u32) (nf 0).2.2,.ow 5 d 1,.ow 6 e 1] 261 10 false).bi
   (iZ.cells [.si .i64 a',.si .i64 b',.ow 2 a2 1,.ow 3 b2 3,.ow 4 c2 3,.sb (nf 0).1,.row (.i .u32) (nf 0).2.1,.row (.i .u32) (nf 0).2.2,.ow 5 d2 1,.ow 6 e2 1] 261 10 false):=by rintro _ _ _ _ _ _ _ _ _ _ _ _ rfl rfl rfl rfl rfl;rfl
 have hrF:∀{x y:List NH},x=y->(iZ.row sF x 177 false).bi (iZ.row sF y 177 false):=by rintro _ _ rfl;rfl
 have hrT:∀{x y:List NH},x=y->(iZ.row sF x 177 true).bi (iZ.row sF y 177 true):=by rintro _ _ rfl;rfl
 have hrM:∀{x y:List (List NH)},x=y->(iZ.row (.zi sF) x 106 false).bi (iZ.row (.zi sF) y 106 false):=by rintro _ _ rfl;rfl
 have hrI:∀{x y:List Int},x=y->(iZ.row (.i .i64) x 3 false).bi (iZ.row (.i .i64) y 3 false):=by rintro _ _ rfl;rfl
 have hcast:∀k:Nat,((k:Nat):Int).toNat=k:=λk=>γg k;refine⟨by omega,⟨⟨rfl,hrI rfl⟩,by omega⟩,?_⟩;rintro j ⟨j0,j1⟩;have l1:=@fj j.toNat;have l2:(δ j.toNat (nf 0)).length=j.toNat:=γD;refine⟨λhj=>?_,λhj=>?_⟩
 ·have e1:bL j.toNat++[j]=bL (j+1).toNat:=by rw[show(j+1).toNat=j.toNat+1 by omega,oo,show((j.toNat:Nat):Int)=j by omega]
  have e2:δ j.toNat (nf 0)++[nf 0]=δ (j+1).toNat (nf 0):=by rw[show(j+1).toNat=j.toNat+1 by omega,List.replicate_succ']
  rw[e1,e2,fj,γD];rw[fj,γD];refine⟨rfl,?_,?_,?_,rfl,?_,?_,?_,⟨hcell rfl rfl rfl rfl rfl,hrT rfl,hrI rfl⟩,?_,?_⟩<;>omega
 ·rw[show j.toNat=g.length by omega];refine⟨⟨⟨hcell rfl rfl rfl rfl rfl,hrT rfl,hrI rfl⟩,by omega⟩,?_⟩;rintro i ⟨i0,i1⟩;have l3:(γd (λx:List NH×NH=>x.1) (Ξ i.toNat rs)).length=i.toNat:=by rw[Φ,γx];omega
  have l4:(γd (λx:List NH×NH=>x.2) (Ξ i.toNat rs)).length=i.toNat:=by rw[Φ,γx];omega
  have l5:(γd (λi:Int=>(g.length:Int)+i) (bL i.toNat)).length=i.toNat:=by rw[Φ,fj]
  refine⟨λhi=>?_,λhi=>?_⟩
  ·have hm:=hrr _ (cy (d:=sR.bw) (show i.toNat<rs.length by omega));have et:=iG (d:=sR.bw) i0 hi;have e1:γd (λx:List NH×NH=>x.1) (Ξ i.toNat rs)++[(bN rs i.toNat sR.bw).1]=γd (λx:List NH×NH=>x.1) (Ξ (i+1).toNat rs):=by rw[et,γb];rfl
   have e2:γd (λx:List NH×NH=>x.2) (Ξ i.toNat rs)++[(bN rs i.toNat sR.bw).2]=γd (λx:List NH×NH=>x.2) (Ξ (i+1).toNat rs):=by rw[et,γb];rfl
   have e3:γd (λi:Int=>(g.length:Int)+i) (bL i.toNat)++[(g.length:Int)+i]=γd (λi:Int=>(g.length:Int)+i) (bL (i+1).toNat):=by rw[show(i+1).toNat=i.toNat+1 by omega,oo,γb,show((i.toNat:Nat):Int)=i by omega];rfl
   have l6:(γd (λx:List NH×NH=>x.2) (Ξ (i+1).toNat rs)).length=(i+1).toNat:=by rw[Φ,γx];omega
   have l7:(γd (λi:Int=>(g.length:Int)+i) (bL (i+1).toNat)).length=(i+1).toNat:=by rw[Φ,fj]
   refine⟨i0,hi,by omega,by omega,by omega,l3.symm,by omega,by omega,l4.symm,by omega,by omega,by omega,l5.symm,by omega,by omega,by omega,⟨hcell ?_ ?_ rfl ?_ rfl,hrM e1,hrF e2,hrI e3⟩,by omega⟩;·omega
   ·exact(congrArg γf e2).trans l6
   ·exact(congrArg γf e3).trans l7
  ·have e:i.toNat=rs.length:=by omega
   rw[e,φ];exact⟨γD.symm,rfl,rfl,rfl,rfl,rfl⟩
def H':cC:=rN 158 Unit .nil (λ_ m t _=>jQ m.toNat t) (λ_ _ _ _=> .IL [.sc (.slice none 0 0),.sb true]) (λ_ _ t _=>t)
def Vw (n m:Int) (t:Tb):Nat->bH
 |3=> .inv Int (λi=>⟨[(0,.ptr 0 0 10),(4,.si .i64 (-1)),(12,.ow 2 t.bound.length 3),(13,.si .i64 t.bound.length),(14,.si .i64 i)],(FV n m t).gh⟩)
   (λs=>iS s 14) (λi=>0<=i/\i<=m) (λi=>(m - i).toNat) λ_ _=> .look
 |_=> .look
theorem Ja:g' H':=by
 refine jE (L:=[qx]) (W:=[]) H' (λa=>Vw a.1.n a.1.m a.1.t) (by simp) (by simpa using sZ) ?_;rintro⟨x,u⟩ ⟨n,m,t,P,N,Q⟩;simp only at P Q;subst P;refine NI (let a:=γc .i64;let b:=iZ.row;let c:=(0:Int);let d:=γZ;let e:=Ω;let f:=(-1:Int);let w:=γM 0 0 10;let A:=a f;let E:=d 2 (FV n m t).k1 3;let k:=(FV n m t).t.bound.length;let B:=d 2 k 3;let C:=a (↑k:Int);let j:=(FV n m t).m;let y:=cj.i .u32;let g:=FV (FV n m t).n j (FV n m t).t;let l:=iZ.cells [a g.n,a g.m,d 1 g.k0 1,d 2 g.k1 3,e sF g.cost,γA g.v.1,e y g.v.2.1,e y g.v.2.2,d 3 g.k3 1,d 4 g.k4 1] 261 10 false;let o:=b sF.zi g.VL 106 false;let p:=b sF g.bound 177 false;let z:=cj.i .i64;let q:=b z g.basic 3 false;let r:=b z g.free 3 false;let h:=g.bound.length;let F:=SV.sc (Value.slice none 0 0);(((w.bi w/\(γu .i64 f).bi A/\E.bi B/\(a (↑(FV n m t).k1:Int)).bi C/\(γu .i64 0).bi (a 0)/\True)/\(iZ.cells [a (FV n m t).n,a j,d 1 (FV n m t).k0 1,E,e sF (FV n m t).cost,γA (FV n m t).v.1,e y (FV n m t).v.2.1,e y (FV n m t).v.2.2,d 3 (FV n m t).k3 1,d 4 (FV n m t).k4 1] 261 10 false).bi l/\(b sF.zi (FV n m t).VL 106 false).bi o/\(b sF (FV n m t).bound 177 false).bi p/\(b z (FV n m t).basic 3 false).bi q/\(b z (FV n m t).free 3 false).bi r/\True)/\c<=c/\c<=j)/\∀(x:Int),let D:=bN g.bound x.toNat sF.bw;let G:=(D.1,D.2.1,D.2.2);let s:=x+(1:Int);let H:=a s;let I:=decide (x<(↑k:Int));let J:=λ(u:Bool) ↦decide (jh (TM G)<c)=u;let K:=λ(u:SV) ↦TP .i64 s/\((w.bi w/\u.bi A/\B.bi B/\C.bi C/\H.bi H/\True)/\l.bi l/\o.bi o/\p.bi p/\q.bi q/\r.bi r/\True)/\(c<=s/\s<=j)/\(j - s).toNat<(j - x).toNat;c<=x/\x<=j->(I=true->k=h/\c<=x/\x<(↑h:Int)/\k=h/\x.toNat<h/\bP G/\(J true->(true=true->K (a x))/\(true=false->g.k1=h/\c<=f/\f<(↑h:Int)/\g.k1=h/\0<h/\False))/\(J false->K A))/\(I=false->(true=true->(SV.IL [F,δb true]).bi (SV.IL [F,γA true])/\l.bi l/\o.bi o/\p.bi p/\q.bi q/\r.bi r/\True)/\(true=false->False))) (by kernel_rfl) ?_;simp only[qM];try simp only[FV]
 simp only[vcs];obtain⟨⟨⟨n0,V⟩,m0,m1⟩,hw,X⟩:=id N;have U:=hw.bound;have T:=@ff t.bound;refine⟨(by omega),?_⟩;rintro i ⟨i0,i1⟩;refine⟨λhi=>?_,λhi=>⟨λ_=>trivial,λh=>by cases h⟩⟩;have S:bN (fL t.bound) i.toNat sF.bw=nf (t.bd i.toNat):=iR (by omega);have R:=Q i.toNat (by omega);have O:¬jh (t.bd i.toNat)<0:=λh=>by have:=xM.1 h;grind
 simp only[S,jt,dR];exact⟨by omega,i0,by omega,by omega,by omega,df (N.bd (by omega)) (by omega),λh=>absurd h O,λ_=>(by omega)⟩
def EX:cC:=rN 159 (List NH) (.one (cP sF)) (λn m t a=>∃g:List Rat,a=fL g/\g.length=n.toNat/\t.free=bL n.toNat/\∀v∈t.basic,n<=v) (λ_ _ _ _=> .IL []) (λ_ _ t a=>{t with cost:=vL a,value:=0})
def Vv (n m:Int) (t:Tb) (a:List NH):Nat->bH
 |3=> .inv Int (λj=>⟨[(0,.ptr 0 0 10),(1,.row sF a),(4,.ow 5 n.toNat 3),(24,.ow 4 t.free.length 1),(25,.si .i64 t.free.length),(26,.si .i64 j)],(FV n m {t with value:=0}).gh++[.row sF (dZ a j.toNat (false,([],[]))) 177 true]⟩)
   (λs=>iS s 26) (λi=>0<=i/\i<=n) (λi=>(n - i).toNat) λ_ _=> .look
 |10=> .inv Int (λi=>⟨[(0,.ptr 0 0 10),(1,.row sF a),(4,.ow 5 n.toNat 3),(52,.ow 3 t.basic.length 1),(53,.si .i64 t.basic.length),(54,.si .i64 i)],(FV n m {t with value:=0}).gh++[.row sF a 177 true]⟩)
   (λs=>iS s 54) (λi=>0<=i/\i<=m) (λi=>(m - i).toNat) λ_ _=> .look
 |_=> .look
theorem I_:g' EX:=by
 refine jE (L:=[mR]) (W:=[]) EX (λa=>Vv a.1.n a.1.m a.1.t a.2) (by simp) (by simpa using n_) ?_;rintro⟨x,a⟩ ⟨n,m,t,hx,hok,g,ha,hgl,hfr,hbs⟩;simp only at hx ha;subst hx ha;refine NI (let a:=(0:Int);let c:=γc .i64;let d:=iZ.row;let e:=γZ;let f:=(-9223372036854775808:Int);let h:=Ω;let j:=(9223372036854775807:Int);let k:=iZ.cells;let l:=γu .i64 0;let w:=(↑(FV n m t).k4:Int);let y:=γM 0 0 10;let s:=h sF (fL g);let p:=(FV n m t).n;let F:=e 5 p.toNat 3;let a0:=e 4 (FV n m t).k4 1;let r:=(FV n m t).t;let N:=r.free.length;let U:=e 4 N 1;let V:=c (↑N:Int);let z:=(FV n m t).m;let H:=nf (κ a);let A:=cj.i .u32;let o:=FV p z (Tb.mk r.VL r.bound r.cost (0:Rat) r.basic r.free);let a1:=c o.n;let a2:=c o.m;let a3:=e 1 o.k0 1;let a4:=e 2 o.k1 3;let a5:=e 3 o.k3 1;let a6:=[γA o.v.1,h A o.v.2.1,h A o.v.2.2,a5,e 4 o.k4 1];let G:=k (a1::a2::a3::a4::h sF o.cost::a6) 261 10 false;let B:=d sF.zi o.VL 106 false;let C:=d sF o.bound 177 false;let I:=cj.i .i64;let J:=o.basic;let D:=d I J 3 false;let E:=d I o.free 3 false;let R:=(false,[],[]);let S:=o.free.length;let z29:Nat:=(fL g).length;let O:=r.basic.length;let W:=e 3 O 1;let X:=c (↑O:Int);let Y:=d sF (fL g) 177 true;let q:=FV p z (Tb.mk r.VL r.bound (vL (fL g)) (0:Rat) r.basic r.free);(f<=a/\a<=j)/\a<=w/\w<=w/\w*(56:Int)<=(140737488355328:Int)/\w<=(1000000000000:Int)/\(((y.bi y/\s.bi s/\(e 5 w.toNat 3).bi F/\a0.bi U/\(c w).bi V/\(l).bi (c 0)/\True)/\(k [c p,c z,e 1 (FV n m t).k0 1,e 2 (FV n m t).k1 3,h sF (FV n m t).cost,γA H.1,h A H.2.1,h A H.2.2,e 3 (FV n m t).k3 1,a0] 261 10 false).bi G/\(d sF.zi (FV n m t).VL 106 false).bi B/\(d sF (FV n m t).bound 177 false).bi C/\(d I (FV n m t).basic 3 false).bi D/\(d I (FV n m t).free 3 false).bi E/\(d (cj.b.pair (A.zi.pair A.zi)) (δ w.toNat R) 177 true).bi (d sF (dZ (fL g) 0 R) 177 true)/\True)/\a<=a/\a<=p)/\∀(x:Int),let K:=x+(1:Int);let a7:=c K;let a8:=decide (x<(↑N:Int));let L:=dZ (fL g) x.toNat R;let P:=bN o.free x.toNat a;let a9:=decide (P<o.n);let M:=L.set x.toNat (H.1,H.2.1,H.2.2);let Z:=bN (fL g) P.toNat sF.bw;let aa:=λ(u:List (Bool×List Int×List Int)) ↦TP .i64 K/\((y.bi y/\s.bi s/\F.bi F/\U.bi U/\V.bi V/\a7.bi a7/\True)/\G.bi G/\B.bi B/\C.bi C/\D.bi D/\E.bi E/\(d sF u 177 true).bi (d sF (dZ (fL g) K.toNat R) 177 true)/\True)/\(a<=K/\K<=p)/\(p - K).toNat<(p - x).toNat;a<=x/\x<=p->(a8=true->N=S/\a<=x/\x<(↑S:Int)/\N=S/\x.toNat<S/\(f<=a/\a<=j)/\p.toNat=L.length/\a<=x/\x<(↑L.length:Int)/\p.toNat=L.length/\x.toNat<L.length/\(a9=true->a<=P/\P<(↑z29:Int)/\P.toNat<z29/\p.toNat=M.length/\a<=x/\x<(↑M.length:Int)/\p.toNat=M.length/\x.toNat<M.length/\aa (M.set x.toNat (Z.1,Z.2.1,Z.2.2)))/\(a9=false->aa M))/\(a8=false->(((y.bi y/\s.bi s/\F.bi F/\a5.bi W/\(c (↑o.k3:Int)).bi X/\(l).bi (c 0)/\True)/\G.bi G/\B.bi B/\C.bi C/\D.bi D/\E.bi E/\(d sF L 177 true).bi Y/\True)/\a<=a/\a<=z)/\∀(x:Int),let ab:=decide (x<(↑O:Int));let T:=bN J x.toNat a;let ac:=decide (o.n<=T);let Q:=x+(1:Int);let ad:=c Q;a<=x/\x<=z->(ab=true->O=J.length/\a<=x/\x<(↑J.length:Int)/\O=J.length/\x.toNat<J.length/\(ac=true->TP .i64 Q/\((y.bi y/\s.bi s/\F.bi F/\W.bi W/\X.bi X/\ad.bi ad/\True)/\G.bi G/\B.bi B/\C.bi C/\D.bi D/\E.bi E/\Y.bi Y/\True)/\(a<=Q/\Q<=z)/\(z - Q).toNat<(z - x).toNat)/\(ac=false->a<=T/\T<(↑z29:Int)/\T.toNat<z29/\False))/\(ab=false->p.toNat=z29/\(SV.IL []).bi (SV.IL [])/\(k (a1::a2::a3::a4::s::a6) 261 10 false).bi (k [c q.n,c q.m,e 1 q.k0 1,e 2 q.k1 3,h sF q.cost,γA q.v.1,h A q.v.2.1,h A q.v.2.2,e 3 q.k3 1,e 4 q.k4 1] 261 10 false)/\B.bi (d sF.zi q.VL 106 false)/\C.bi (d sF q.bound 177 false)/\D.bi (d I q.basic 3 false)/\E.bi (d I q.free 3 false)/\True))) (by kernel_rfl) ?_;simp only[qM];try simp only[FV]
 simp only[vcs];obtain⟨⟨⟨n0,n1⟩,m0,m1⟩,hw,hz⟩:=id hok;have hbb:=hw.basic;have hfl:=hw.free;have hfg:=@ff g;have h0:(κ 0:Rat)=0:=rfl;have hrow:∀{x y:List NH},x=y->(iZ.row sF x 177 true).bi (iZ.row sF y 177 true):=by rintro _ _ rfl;rfl
 simp only[h0,jt];refine⟨by omega,by omega,by omega,by omega,by omega,⟨⟨?_,?_,?_⟩,by omega⟩,?_⟩;·rw[hfl];rfl
 ·rfl
 ·exact hrow (by rw[vM,hfg,hgl,hfl];rfl)
 rintro j ⟨j0,j1⟩;have hru:=@uR (fL g) j.toNat (false,([],[])) (by omega);refine⟨λhj=>?_,λhj=>?_⟩
 ·have hv:bN t.free j.toNat 0=j:=by rw[hfr,E4 (by omega)];omega
  rw[hv];have hset:((dZ (fL g) j.toNat (false,([],[]))).set j.toNat (nf 0)).set j.toNat (bN (fL g) j.toNat sF.bw)=dZ (fL g) (j+1).toNat (false,([],[])):=by have e:=vJ (d:=fL g) (j:=j.toNat) (z:=(false,([],[]))) (x:=bN (fL g) j.toNat sF.bw) (by omega) rfl;rw[List.set_set,show(j+1).toNat=j.toNat+1 by omega];exact e
  rw[γm];exact⟨j0,by omega,by omega,by omega,by omega,j0,by omega,by omega,by omega,λ_=>⟨j0,by omega,by omega,by omega,j0,by omega,by omega,by omega,by omega,hrow hset,by omega⟩,λh=>(h (by omega)).elim⟩
 ·have e:j.toNat=(fL g).length:=by omega
  rw[e,vK];refine⟨⟨hrow rfl,by omega⟩,?_⟩;rintro i ⟨i0,i1⟩;refine⟨λhi=>⟨i0,hi,by omega,λ_=>(by omega),λh=>absurd (hbs _ (cy (by omega))) h⟩,λhi=>⟨by omega,?_⟩⟩;rw[ku];rfl
abbrev Lp:=List Rat×List (List Rat×Rat)
def gT (a:Lp):rl:=(fL a.1,a.2.map λr=>(fL r.1,nf r.2))
def kr (a:Lp):Tb:=⟨a.2.map (·.1),a.2.map (·.2),a.1,0,(bL a.2.length).map λi=>a.1.length+i,bL a.1.length⟩
def pR (a:Lp):Tb:={kr a with cost:=δ a.1.length 0}
theorem Vu {a:Lp}:xK (gT a)=FV a.1.length a.2.length (pR a):=by unfold xK gT FV pR kr;simp_all[fj,fM,fL]
structure xJ (a:Lp):Prop where
 n:a.1.length<=160
 m:a.2.length<=40
 small:∃M G,Small a.1.length a.2.length M G (kr a)
 vc:jQ a.2.length (kr a)
 ef:∃B,∀x z,(kr a).holds a.1.length a.2.length x z->(∀v∈(kr a).basic++(kr a).free,0<=x v)->z<=B
noncomputable def l9 (a:Lp):Tb:=cw a.1.length a.2.length (kr a)
theorem Vt {a:Lp} (h:xJ a):qy a.1.length a.2.length (kr a):=by obtain⟨M,G,b⟩:=h.small;exact⟨kr a,M,G,b,dx.refl b.wf b.nd,h.vc⟩
theorem Vs {a:Lp} (h:xJ a):dx a.1.length a.2.length (kr a) (l9 a)/\jQ a.2.length (l9 a)/\dN (l9 a) a.1.length<0:=by obtain⟨M,G,c⟩:=h.small;obtain⟨B,d⟩:=h.ef;have b:=dx.refl c.wf c.nd;have:=E6 b h.vc;exact⟨this.1,this.2.1,MY b h.vc d⟩
noncomputable def Fw:NG:=⟨133,rl,.one vH,λx=>∃a:Lp,x=gT a/\xJ a,λx=>
 let a:Lp:=(vL x.1,x.2.map λr=>(vL r.1,TM r.2));.IL [.agg [.si .i64 1,.sb (nf (l9 a).value).1,.row (.i .u32) (nf (l9 a).value).2.1,.row (.i .u32) (nf (l9 a).value).2.2,.row sF (fL (fE (l9 a) a.1.length a.2.length)),.row sF (fL (iL (l9 a) a.1.length a.2.length a.1.length)),.row sF []],.si .i64 0]⟩
theorem Vr {a:Lp}:((vL (gT a).1,(gT a).2.map λr=>(vL r.1,TM r.2)):Lp)=a:=by
 obtain⟨g,b⟩:=a;unfold gT;simp only[ku,γO];congr 1;conv=>rhs;rw[<-θa b]
 refine γI λr _=>?_;grind[ku,dR]
theorem VX {a:Lp}:((gT a).1,(gT a).2)=gT a:=rfl
theorem Ld {a:Lp}:vL (gT a).1=a.1:=ku _
theorem Lc {a:Lp}:(gT a).2.map (λr=>(vL r.1,TM r.2))=a.2:=congrArg Prod.snd (@Vr a)
theorem VV {a:Lp}:({VL:=(pR a).VL,bound:=(pR a).bound,cost:=a.1,value:=0,basic:=(pR a).basic,free:=(pR a).free}:Tb)=kr a:=rfl
theorem VU {a:Lp}:(gT a).1.length=a.1.length:=ff
theorem VT {a:Lp}:(gT a).2.length=a.2.length:=Φ _
theorem Lb {q:Rat} (h:Sz 1000000 q):hJ (nf q)/\okF (nf q)=true:=by obtain⟨g,⟨a,_,c⟩,⟨b,_,e⟩⟩:=kW q;obtain⟨d,f⟩:=nK h;refine⟨⟨⟨a,b⟩,by omega⟩,?_⟩;grind[okF,dR]
theorem VS {o:a_} {d:Nat} {acc:List Nat} {l:List NH}:b_ o d (γd (λx:NH=>dh cj.b x.1++dh ((cj.i .u32).zi.pair (cj.i .u32).zi) x.2) l).flatten acc=acc:=yA λa c=>mH (s:=sF) (l:=l) c
theorem VR {o:a_} {d:Nat} {acc:List Nat} {l:List (List NH)}:b_ o d (γd (λx:List NH=>[θk (γf x) (θo (dh sF) x)]) l).flatten acc=acc:=yA λa b=>mH (s:=sF.zi) (l:=l) b
theorem VQ {o:a_} {d:Nat} {acc:List Nat} {l:List Int}:b_ o d (γd (λx:Int=>γd δe (cD (cj.i .i64) x)) l).flatten acc=acc:=yA λa b=>mH (s:=cj.i .i64) (l:=l) b
theorem Jd:d' Fw:=by
 refine ZD (L:=[EZ]) (W:=fH [EY,H',EX,E1,BZ,BY]) Fw (λf=>Nat.beq f BZ.f||Nat.beq f BY.f) lk (j6 (by simpa using⟨Jb,Ja,I_,I9,I8,I7⟩)) (by simpa using Jc) ?_;rintro x ⟨a,hx,hok⟩;subst hx;refine NI (let c:=Ω;let d:=iZ.row;let e:=γc .i64;let f:=γZ;let h:=iZ.cells;let j:=γu .i64;let k:=(0:Int);let l:=γA;let o:=δb false;let p:=γG;let q:=SV.IL;let B:=(gT a).1;let C:=(gT a).2;let J:=h [c sF B,c sR C] 217 2 false;let Q:=j 0;let a1:=Value.slice none 0 0;let G:=SV.sc a1;let K:=h [Q,o,G,G,G,G,G] 221 7 false;let L:=xK (B,C);let D:=FV L.n L.m L.t;let E:=FV D.n D.m (Tb.mk D.t.VL D.t.bound (vL B) (0:Rat) D.t.basic D.t.free);let a2:=cw E.n.toNat E.m.toNat E.t;let s:=FV E.n E.m a2;let y:=cj.i .u32;let M:=s.v.2.1;let N:=s.v.2.2;let w:=FV s.n s.m s.t;let R:=w.v.2.1;let S:=w.v.2.2;let a3:=h [e w.n,e w.m,f 3 w.k0 1,f 4 w.k1 3,c sF w.cost,l w.v.1,c y R,c y S,f 5 w.k3 1,f 6 w.k4 1] 261 10 false;let a4:=d sF.zi w.VL 106 false;let a5:=d sF w.bound 177 false;let z:=cj.i .i64;let a6:=d z w.basic 3 false;let a7:=d z w.free 3 false;let F:=c z [];let U:=γd (λ(r:List NH×NH) ↦(vL r.1,TM r.2)) C;let H:=l9 (vL B,U);let z31:Nat:=(vL B).length;let a8:=e 0;let a9:=q [p [e 1,l (nf H.value).1,c y (nf H.value).2.1,c y (nf H.value).2.2,c sF (fL (fE H z31 U.length)),c sF (fL (iL H z31 U.length z31)),c sF []],a8];let A:=FV w.n w.m w.t;let aa:=OL.cells [θk B.length (γd (λ(x:sF.T) ↦dh cj.b x.1++dh (y.zi.pair y.zi) x.2) B).flatten,θk C.length (γd (λ(x:sR.T) ↦dh sF.zi x.1++dh sF x.2) C).flatten] 217 2 false;let I:=δe a1;let ab:=OL.cells [δe (Value.int .i64 k),δe (Value.bool false),I,I,I,I,I] 221 7 false;let ac:=(γd (λ(x:sF.zi.T) ↦[θk (γf x) (θo (dh sF) x)]) s.VL).flatten;let ad:=(γd (λ(x:sF.T) ↦dh cj.b x.1++dh (y.zi.pair y.zi) x.2) s.bound).flatten;let ae:=(γd (λ(x:z.T) ↦γd δe (cD z x)) s.basic).flatten;let af:=(γd (λ(x:z.T) ↦γd δe (cD z x)) s.free).flatten;let O:=[aa,ab,OL.cells [δe (Value.int .i64 s.n),δe (Value.int .i64 s.m),θD 3 0 s.k0 (s.k0*1),θD 4 0 s.k1 (s.k1*3),θk s.cost.length (γd (λ(x:sF.T) ↦dh cj.b x.1++dh (y.zi.pair y.zi) x.2) s.cost).flatten,δe (Value.bool s.v.1),θk M.length (γd (λ(x:y.T) ↦γd δe (cD y x)) M).flatten,θk N.length (γd (λ(x:y.T) ↦γd δe (cD y x)) N).flatten,θD 5 0 s.k3 (s.k3*1),θD 6 0 s.k4 (s.k4*1)] 261 10 false,OL.cells ac 106 1 false,OL.cells ad 177 3 false,OL.cells ae 3 1 false,OL.cells af 3 1 false];let ag:=[2,3];let V:=b_ O (nat_lit 396) ac ag;let W:=if ζ0 4 V=true then V else b_ O (nat_lit 395) ad (V++[4]);let X:=if ζ0 5 W=true then W else b_ O (nat_lit 390) ae (W++[5]);let ah:=(γd (λ(x:sF.zi.T) ↦[θk (γf x) (θo (dh sF) x)]) w.VL).flatten;let ai:=(γd (λ(x:sF.T) ↦dh cj.b x.1++dh (y.zi.pair y.zi) x.2) w.bound).flatten;let aj:=(γd (λ(x:z.T) ↦γd δe (cD z x)) w.basic).flatten;let ak:=(γd (λ(x:z.T) ↦γd δe (cD z x)) w.free).flatten;let P:=[aa,ab,OL.cells [δe (Value.int .i64 w.n),δe (Value.int .i64 w.m),θD 3 0 w.k0 (w.k0*1),θD 4 0 w.k1 (w.k1*3),θk w.cost.length (γd (λ(x:sF.T) ↦dh cj.b x.1++dh (y.zi.pair y.zi) x.2) w.cost).flatten,δe (Value.bool w.v.1),θk R.length (γd (λ(x:y.T) ↦γd δe (cD y x)) R).flatten,θk S.length (γd (λ(x:y.T) ↦γd δe (cD y x)) S).flatten,θD 5 0 w.k3 (w.k3*1),θD 6 0 w.k4 (w.k4*1)] 261 10 false,OL.cells ah 106 1 false,OL.cells ai 177 3 false,OL.cells aj 3 1 false,OL.cells ak 3 1 false];let Y:=b_ P (nat_lit 396) ah ag;let Z:=if ζ0 4 Y=true then Y else b_ P (nat_lit 395) ai (Y++[4]);let a0:=if ζ0 5 Z=true then Z else b_ P (nat_lit 390) aj (Z++[5]);let al:=J.bi J/\K.bi K/\(h [e s.n,e s.m,f 3 s.k0 1,f 4 s.k1 3,c sF s.cost,l s.v.1,c y M,c y N,f 5 s.k3 1,f 6 s.k4 1] 261 10 false).bi a3/\(d sF.zi s.VL 106 false).bi a4/\(d sF s.bound 177 false).bi a5/\(d z s.basic 3 false).bi a6/\(d z s.free 3 false).bi a7/\True;let am:=∃(n:Int),∃(m:Int),∃(t:Tb),s=FV n m t/\jW n m t/\∀(v:Int),v∈t.basic->k<=v;let an:=λ(u:Bool) ↦(!decide (dN a2 E.n.toNat<k))=u;let ao:=λ(u:Int) (u_1:SV) ↦false=true->(q [p [j u,o,F,F,F,F,F],u_1]).bi a9;((B.length<=160/\C.length<=40)/\(∀(x:NH),x∈B->hJ x/\okF x=true)/\∀(r:List NH×NH),r∈C->r.1.length=B.length/\(∀(x:NH),x∈r.1->hJ x/\okF x=true)/\hJ r.2/\okF r.2=true)/\ao k a8/\(false=false->(B.length<=1000/\C.length<=1000/\∀(r:List NH×NH),r∈C->r.1.length<=1000)/\(∃(n:Int),∃(m:Int),∃(t:Tb),L=FV n m t/\jW n m t/\jQ m.toNat t)/\ao (2:Int) Q/\(false=false->(∃(n:Int),∃(m:Int),∃(t:Tb),D=FV n m t/\jW n m t/\∃(g:List Rat),B=fL g/\g.length=n.toNat/\t.free=bL n.toNat/\∀(v:Int),v∈t.basic->n<=v)/\(∃(n:Int),∃(m:Int),∃(t:Tb),E=FV n m t/\jW n m t/\qy n.toNat m.toNat t)/\(an true->am/\al/\False)/\(an false->am/\al/\(∃(n:Int),∃(m:Int),∃(t:Tb),w=FV n m t/\jW n m t/\True)/\(J.bi J/\K.bi K/\a3.bi (h [e A.n,e A.m,f 3 A.k0 1,f 4 A.k1 3,c sF A.cost,l A.v.1,c y A.v.2.1,c y A.v.2.2,f 5 A.k3 1,f 6 A.k4 1] 261 10 false)/\a4.bi (d sF.zi A.VL 106 false)/\a5.bi (d sF A.bound 177 false)/\a6.bi (d z A.basic 3 false)/\a7.bi (d z A.free 3 false)/\True)/\if(((if ζ0 6 X=true then X else b_ O (nat_lit 389) af (X++[6])).all λ(i:Nat) ↦decide (i<7))&&(((if ζ0 6 a0=true then a0 else b_ P (nat_lit 389) ak (a0++[6])).all λ(i:Nat) ↦decide (i<7))&&true))=true then(q [p [j 1,l s.v.1,c y M,c y N,c sF (fL (fE s.t s.n.toNat s.m.toNat)),c sF (fL (iL w.t w.n.toNat w.m.toNat w.n.toNat)),F],Q]).bi a9 else False)))) (by kernel_rfl) ?_;simp only[VX,Vu,qM,Mz,My,Ld,Lc,VV,VU,VT,γg];try simp only[vcs]
 obtain⟨M,G,hs⟩:=hok.small;obtain⟨r1,r2,r3⟩:=Vs hok;have hw:=hs.wf;have hz:=hs.sW (dx.refl hs.wf hs.nd);have hn:=hok.n;have hm:=hok.m;have hO:=Vt hok;have k1:jW a.1.length a.2.length (kr a):=⟨(by omega),by simpa using hw,hz⟩;have k0:jW a.1.length a.2.length (pR a):=by refine⟨(by omega),⟨hw.VL,hw.row,hw.bound,by simp[pR],hw.basic,hw.free⟩,hz.1,hz.2.1,λq hq=>?_,hz.2.2.2⟩;rw[(List.mem_replicate.1 hq).2];exact hz.2.2.2
 have k2:jW a.1.length a.2.length (l9 a):=Mv hs (by simpa using r1) (by omega) (by omega);have hl:cw a.1.length a.2.length (kr a)=l9 a:=rfl;have aE1:((a.1,a.2):Lp)=a:=rfl;simp only[hl,aE1,VS,VR,VQ];have mem2:∀i,i<a.2.length->bN a.2 i ([],0)∈a.2:=λi hi=>cy hi;have hrow:∀r∈a.2,r.1.length=a.1.length/\(∀q∈r.1,Sz 1000000 q)/\Sz 1000000 r.2:=λr hr=>by
  obtain⟨i,hi,rfl⟩:=γJ hr;have h1:=hw.row i hi;have e:bN (kr a).VL i []=a.2[i].1:=by show bN (a.2.map (·.1)) i []=_;rw[bR (by rw[Φ];exact hi),δF]
  rw[e] at h1;refine⟨h1,hz.1 _ (Δ.2 ⟨a.2[i],hr,rfl⟩),hz.2.1 _ (Δ.2 ⟨a.2[i],hr,rfl⟩)⟩
 have hg:∀q∈a.1,Sz 1000000 q:=hz.2.2.1;have hF:∀{l:List Rat},(∀q∈l,Sz 1000000 q)->∀x∈fL l,hJ x/\okF x=true:=λh x hx=>by obtain⟨q,hq,rfl⟩:=Δ.1 hx;exact Lb (h q hq)
 have hdg:(∀x∈(gT a).1,hJ x/\okF x=true)/\∀r∈(gT a).2,r.1.length=a.1.length/\(∀x∈r.1,hJ x/\okF x=true)/\hJ r.2/\okF r.2=true:=by refine⟨hF hg,λr hr=>?_⟩;obtain⟨r0,hr0,rfl⟩:=Δ.1 hr;obtain⟨h1,h2,h3⟩:=hrow r0 hr0;exact⟨by rw[<-h1];exact ff,hF h2,Lb h3⟩
 have hb0:∀v∈(l9 a).basic,0<=v:=λv hv=>by
  have:=r1.perm.mem_iff.1 (εw _ hv);simp only[kr,γo,Δ,ik] at this;rcases this with⟨i,hi,rfl⟩|h;·omega
  ·exact h.1
 have hbn:∀v∈(pR a).basic,(a.1.length:Int)<=v:=λv hv=>by simp only[pR,kr,Δ,ik] at hv;obtain⟨i,hi,rfl⟩:=hv;omega
 refine⟨⟨⟨hn,hm⟩,hdg.1,hdg.2⟩,λh=>(by cases h),λ_=>⟨⟨by omega,by omega,λr hr=>by have:=(hdg.2 r hr).1;omega⟩,⟨_,_,_,rfl,k0,by rw[γg];exact hok.vc⟩,λh=>(by cases h),λ_=>⟨⟨_,_,_,rfl,k0,a.1,rfl,by simp,rfl,hbn⟩,⟨_,_,_,rfl,k1,by simpa using hO⟩,λh=>absurd r3 h,λ_=>⟨⟨_,_,_,rfl,k2,hb0⟩,⟨_,_,_,rfl,k2⟩,?_⟩⟩⟩⟩;rw[if_pos (by decide)];rfl
theorem xI {f:List Int} {d:Int} {i:Int} (h:0<=i) (c:i<f.length):Ao (f.take (i+1).toNat) d=Ao (f.take i.toNat) d++if bN f i.toNat 0=d then[i] else[]:=by
 have a:(f.take (i+1).toNat).length=i.toNat+1:=by grind
 have b:(f.take i.toNat).length=i.toNat:=by grind
 unfold Ao;rw[a,b,oo,δV];have e:∀{k:Nat} {m:Nat},k<m->m<=f.length->bN (f.take m) k 0=bN f k 0:=λ{k m} c j=>by grind[bR]
 congr 1
 ·refine List.filter_congr λx g=>?_;grind[ik]
 grind
def jg (f:List Int):Bool:=f.all λx=>decide (-1<=x)&&decide (x<=1)
def iD (p:ew) (f:List Int):Int:=if nW p≠0 then nW p else if f.length≠p.bj.length then 3 else if jg f=true then 0 else 4
def BX:NG:=⟨131,ew×List Int,.cons cI (.one (cP (.i .i64))),λa=>a.2.length<=1000000000000,λa=> .si .i64 (iD a.1 a.2)⟩
def VP (p:ew) (f:List Int):Nat->bH
 |7=> .inv Int (λi=>⟨[(19,.row (.i .i64) f),(20,.si .i64 f.length),(21,.si .i64 i)],[.cells p.ss 27 20 false]⟩)
   (λs=>iS s 21) (λi=>(0<=i/\i<=f.length)/\jg (f.take i.toNat)=true) (λi=>(f.length - i).toNat) λ_ _=> .look
 |_=> .look
theorem zf:d' BX:=by
 refine bI (L:=[nz]) BX (λa=>VP a.1 a.2) (by grind[oT]) ?_;rintro⟨p,f⟩ (D:f.length<=1000000000000);refine NI (let a:=γc .i64;let d:=(0:Int);let g:=γu .i64;let v:=decide (nW p≠d);let e:=a (iD p f);let q:=(↑f.length:Int);let r:=decide (q≠(↑p.bj.length:Int));let n:=Ω (cj.i .i64) f;let c:=(↑f.length:Int);let o:=a c;let w:=g 0;let m:=iZ.cells (ew.ss p) 27 20 false;True/\(v=true->(a (nW p)).bi e)/\(v=false->(r=true->(g 3).bi e)/\(r=false->(((n.bi n/\(a q).bi o/\w.bi (a 0)/\True)/\m.bi m/\True)/\(d<=d/\d<=c)/\jg []=true)/\∀(x:Int),let s:=bN f x.toNat d;let l:=decide (s<(-1:Int));let j:=decide ((1:Int)<s);let b:=x+(1:Int);let k:=a b;(d<=x/\x<=c)/\jg (Ξ x.toNat f)=true->(decide (x<c)=true->d<=x/\x<q/\x.toNat<f.length/\(l=true->(g 4).bi e)/\(l=false->(j=true->(g 4).bi e)/\(j=false->TP .i64 b/\((n.bi n/\o.bi o/\k.bi k/\True)/\m.bi m/\True)/\((d<=b/\b<=c)/\jg (Ξ b.toNat f)=true)/\(c - b).toNat<(c - x).toNat)))/\(decide (x<c)=false->w.bi e)))) (by kernel_rfl) ?_;simp only[vcs];refine⟨λh=>by simp[iD,h],λh=>?_⟩;have F:nW p=0:=γa.1 h;refine⟨λy=>by grind[iD],λy=>⟨⟨(by omega),rfl⟩,?_⟩⟩;have u:f.length=p.bj.length:=by omega
 rintro i ⟨⟨A,G⟩,g⟩;refine⟨λt=>?_,λt=>?_⟩
 ·have B:=cy (d:=0) (show i.toNat<f.length by omega);have H:=iG (d:=0) A t;have z:¬(-1<=bN f i.toNat 0/\bN f i.toNat 0<=1)->(4:Int)=iD p f:=λE=>by
   have:jg f=false:=by rw[δO];intro C;have:=τ.1 C _ B;grind
   grind[iD]
  grind[jg]
 ·rw[show i.toNat=f.length by omega,φ] at g;grind[iD]
def fX (p:ew) (f:List Int):Int:=bE ((Ao f 1).map (oI p))
theorem xH {p:ew} (c:nW p=0) {f:List Int} {k:Nat} (g:f.length=p.bj.length):0<=fX p (f.take k)/\fX p (f.take k)<=160000000:=by
 have a:=cT c;have e:=@rI (f.take k) 1;have h:(f.take k).length<=f.length:=by grind
 have j:=@pg p a ((Ao (f.take k) 1).map (oI p)) λx b=>by obtain⟨i,d,rfl⟩:=Δ.1 b;have:=(kf.1 d).1;exact cy (by omega)
 have l:=a.2.1;grind[fX]
theorem La {p:ew} {f:List Int} {i:Int} (b:0<=i) (a:i<f.length):fX p (f.take (i+1).toNat)=fX p (f.take i.toNat)+if bN f i.toNat 0=1 then(oI p i).value else 0:=by unfold fX;rw[xI b a,γb,nO];grind[bE]
def je (p:ew) (f:List Int):Lp:=((bQ p f).cost,(bL (mF p)).map λr=>((Ao f 0).map λi=>((dE p r (oI p i):Int):Rat),((cB p r - bZ p ((Ao f 1).map (oI p)) r:Int):Rat)))
theorem BW {p:ew} {f:List Int}:kr (je p f)=bQ p f:=by simp_all[kr,je,bQ,bL]
def lA (p:ew) (f:List Int) (j:Nat):List NH:=fL (((Ao f 0).take j).map λi=>(((oI p i).value:Int):Rat))
def mh (p:ew) (f:List Int) (r:Int) (j:Nat):List NH:=fL (((Ao f 0).take j).map λi=>((dE p r (oI p i):Int):Rat))
def mM (p:ew) (f:List Int) (k:Nat):List (List NH×NH):=(bL k).map λr=>(mh p f r (Ao f 0).length,nf ((cB p r - bZ p ((Ao f 1).map (oI p)) r:Int):Rat))
theorem K_ {p:ew} {f:List Int}:lA p f (Ao f 0).length=(gT (je p f)).1:=by unfold lA;rw[φ];rfl
theorem K9 {p:ew} {f:List Int}:mM p f (mF p)=(gT (je p f)).2:=by simp_all[mM,gT,je,mh]
theorem Fv {p:ew} {f:List Int} {j:Nat} (h:j<=(Ao f 0).length):(lA p f j).length=j:=by grind[lA,ff]
theorem K8 {p:ew} {f:List Int} {r:Int} {j:Nat} (h:j<=(Ao f 0).length):(mh p f r j).length=j:=by grind[mh,ff]
theorem K7 {p:ew} {f:List Int} {k:Nat}:(mM p f k).length=k:=by grind[mM,fj]
theorem K6 {l m:List Rat}:fL (l++m)=fL l++fL m:=γb
theorem VO {p:ew} {f:List Int} {j:Int} (a:0<=j) (h:j<(Ao f 0).length):lA p f (j+1).toNat=lA p f j.toNat++[nf (((oI p (bN (Ao f 0) j.toNat 0)).value:Int):Rat)]:=by unfold lA;rw[iG (d:=0) a h,γb,K6];rfl
theorem VN {p:ew} {f:List Int} {r j:Int} (a:0<=j) (h:j<(Ao f 0).length):mh p f r (j+1).toNat=mh p f r j.toNat++[nf ((dE p r (oI p (bN (Ao f 0) j.toNat 0)):Int):Rat)]:=by unfold mh;rw[iG (d:=0) a h,γb,K6];rfl
theorem UE {p:ew} {f:List Int} {r:Int} (a:0<=r):mM p f (r+1).toNat=mM p f r.toNat++[(mh p f r (Ao f 0).length,nf ((cB p r - bZ p ((Ao f 1).map (oI p)) r:Int):Rat))]:=by unfold mM;rw[show(r+1).toNat=r.toNat+1 by omega,oo,γb,show((r.toNat:Nat):Int)=r by omega];rfl
def gF (p:ew) (f:List Int):Bool:=fz p ((Ao f 1).map (oI p))
def lL (p:ew) (f:List Int):List NH×(List (List NH×NH)×List Int):=if gF p f=true then((gT (je p f)).1,((gT (je p f)).2,Ao f 0)) else([],([],[]))
theorem UD {p:ew} {f:List Int} (h:ec p f):xJ (je p f):=by
 have a:=cT h.1;have c:(je p f).1.length=nF f:=by show((Ao f 0).map _).length=_;simp_all
 have b:(je p f).2.length=mF p:=by show((bL (mF p)).map _).length=_;grind[fj]
 have g:=@rI f 0;have i:mF p=p.bk.length+12:=rfl;refine⟨?_,?_,?_,?_,?_⟩;·rw[c];have:=h.2.1;have:=a.2.1;grind
 ·rw[b];have:=a.1;omega
 ·grind[BW,B3]
 ·grind[BW,E2]
 ·rw[c,b,BW];exact⟨_,λx z d e=>MT h d e⟩
theorem UC {p:ew} {f:List Int}:l9 (je p f)=cE p f:=by
 have b:(je p f).1.length=nF f:=by show((Ao f 0).map _).length=_;simp_all
 have a:(je p f).2.length=mF p:=by show((bL (mF p)).map _).length=_;grind[fj]
 grind[l9,cE,BW]
noncomputable def js (p:ew) (f:List Int) (k:Nat):List Rat:=(bL f.length).map λi=>if bN f i.toNat 0=1 then 1 else if i∈(Ao f 0).take k then bN (fE (cE p f) (nF f) (mF p)) ((Ao f 0).idxOf i) 0 else 0
noncomputable def jO (p:ew) (f:List Int):Rat:=((fX p f:Int):Rat)+(cE p f).value
noncomputable def gS (p:ew) (f:List Int):List Rat:=iL (cE p f) (nF f) (mF p) (nF f)
theorem vG {p:ew} {f:List Int} {k:Nat}:(js p f k).length=f.length:=by grind[js,fj]
theorem BV {p:ew} {f:List Int} {k i:Nat} (h:i<f.length):bN (js p f k) i 0=if bN f i 0=1 then 1 else if(i:Int)∈(Ao f 0).take k then bN (fE (cE p f) (nF f) (mF p)) ((Ao f 0).idxOf (i:Int)) 0 else 0:=by unfold js;rw[E5 (e:=0) (by grind[fj]),E4 h,γg]
theorem UB {l m:List Rat} (a:l.length=m.length) (h:∀i,i<m.length->bN l i 0=bN m i 0):l=m:=γ7 a λi b c=>by grind[bR]
theorem UA {p:ew} {f:List Int} {k:Nat} (b:k<nF f):(js p f k).set (bN (Ao f 0) k 0).toNat (bN (fE (cE p f) (nF f) (mF p)) k 0)=js p f (k+1):=by
 have g:=kf.1 (cy (d:=0) b);refine UB (by grind[vG]) λi a=>?_;rw[vG] at a;have c:(Ao f 0).idxOf (bN (Ao f 0) k 0)=k:=nL (rJ.imp λh=>by omega) b;have e:(Ao f 0).take (k+1)=(Ao f 0).take k++[bN (Ao f 0) k 0]:=by simp_all[bR]
 rw[gU (by grind[vG]),BV a,BV a,e];grind
theorem Uz {p:ew} {f:List Int} {i:Nat} (h:i<f.length):bN (js p f 0) i 0=if bN f i 0=1 then 1 else 0:=by grind[BV]
def jn (p:ew) (f:List Int):Bool:=decide (iD p f=0)&&gF p f
noncomputable def kq (p:ew) (f:List Int):NH:=if jn p f=true then nf (jO p f) else(false,([],[]))
noncomputable def qL (p:ew) (f:List Int):List NH:=if jn p f=true then fL (gS p f) else[]
noncomputable def kp (p:ew) (f:List Int):List NH:=if jn p f=true then fL (js p f (nF f)) else[]
noncomputable def Uy (p:ew) (f:List Int):SV:=.agg [.sb (jn p f),.sb (kq p f).1,.row (.i .u32) (kq p f).2.1,.row (.i .u32) (kq p f).2.2,.row sF (qL p f),.row sF (kp p f)]
theorem xG:∀{l m:List Int},l.Pairwise (·<·)->m.Pairwise (·<·)->(∀x,x∈l↔x∈m)->l=m
 |[],[],_,_,_=>rfl
 |[],y::m,_,_,h=>by have:=(h y).2 (by simp);simp at this;|x::l,[],_,_,h=>by have:=(h x).1 (by simp);simp at this;|x::l,y::m,b,hm,h=>by
  rw[γp] at b hm;have e:x=y:=by
   rcases γl.1 ((h x).1 (by simp)) with h1|h1;·exact h1
   ·rcases γl.1 ((h y).2 (by simp)) with c|c;·exact c.symm
    ·have:=b.1 y c;have:=hm.1 x h1;omega
  subst e;congr 1;refine xG b.2 hm.2 λz=>?_;constructor
  ·intro a;rcases γl.1 ((h z).1 (γe _ a)) with h1|h1;·have:=b.1 z a;omega
   ·exact h1
  ·intro a;rcases γl.1 ((h z).2 (γe _ a)) with h1|h1;·have:=hm.1 z a;omega
   ·exact h1
theorem Fu {t:List Int} {g:Int->Int}:∀{l:List Int},((l.filter λx=>decide (x∈t)).map g).sum=(l.map λx=>if x∈t then g x else 0).sum
 |[]=>rfl
 |x::l=>by
  simp only[θs,ν,εt];by_cases h:x∈t;·rw[if_pos (decide_eq_true h),if_pos h,ν,εt,Fu]
  ·rw[if_neg (by simpa using h),if_neg h,Fu];omega
theorem Ft {t:List Int} {g:Int->Int}:∀{l:List Int},kY (λx=>((g x:Int):Rat)*(if x∈t then 1 else 0)) l=(((l.map λx=>if x∈t then g x else 0).sum:Int):Rat)
 |[]=>rfl
 |x::l=>by have:=@Ft t g l;simp only[kY,this,ν,εt,Rat.intCast_add];congr 1;split<;>simp_all
theorem BU {p:ew}:∀{l:List Int},bE (l.map (oI p))=(l.map λi=>(oI p i).value).sum
 |[]=>rfl
 |x::l=>by have:=@BU p l;grind[bE]
section
variable {p:ew} {f t:List Int}
theorem K5 (k:jg f=true) (u:f.length=p.bj.length) (e:dm p.bj.length t) (j:∀i∈t,bN f i.toNat 0≠ -1) (r:∀i∈Ao f 1,i∈t) (g:Int->Int):
  (t.map g).sum=((Ao f 1).map g).sum+((Ao f 0).map λx=>if x∈t then g x else 0).sum:=by
 have l:t.Perm (Ao f 1++(Ao f 0).filter λx=>decide (x∈t)):=by
  refine(γ6 (vi e) ?_).2 λx=>?_
  ·rw[γy];refine⟨rJ.imp λh=>by omega,(rJ.sublist γn).imp λh=>by omega,λa s b o m=>?_⟩;grind[kf]
  ·rw[γo,List.mem_filter,decide_eq_true_eq];constructor
   ·intro c;have v:=e.2 x c;have q:=j x c;have n:=τ.1 k _ (cy (d:=0) (show x.toNat<f.length by omega));simp only[ζ,decide_eq_true_eq] at n;grind[kf]
   grind
 rw[MJ (l.map g),γb,θx,Fu]
theorem tF (l:List Int) (r:Int):bZ p (l.map (oI p)) r=(l.map λi=>dE p r (oI p i)).sum:=by unfold bZ;rw[γO];rfl
theorem If (h:ec p f) (s:jg f=true) (z:dm p.bj.length t) (a:fz p (t.map (oI p))=true) (u:∀i∈t,bN f i.toNat 0≠ -1) (A:∀i∈Ao f 1,i∈t):((bE (t.map (oI p)):Int):Rat)<=jO p f:=by
 obtain⟨l,E,r⟩:=m_ h;have d:∀g:Int->Int,OA (nF f) (λj=>((g (bN (Ao f 0) j 0):Int):Rat)*(if bN (Ao f 0) j 0∈t then(1:Rat) else 0))=(((t.map g).sum - ((Ao f 1).map g).sum:Int):Rat):=λg=>by have e:=@pd (λx=>((g x:Int):Rat)*(if x∈t then(1:Rat) else 0)) (Ao f 0);rw[Ft] at e;rw[K5 s h.2.1 z u A g];grind
 have q:=asg_holds (n:=nF f) (m:=mF p) (t:=bQ p f) kR o_ (y:=λj=>if bN (Ao f 0) j 0∈t then(1:Rat) else 0);have B:(bQ p f).value+OA (nF f) (λj=>(bQ p f).cs j*(if bN (Ao f 0) j 0∈t then(1:Rat) else 0))=((bE (t.map (oI p)) - fX p f:Int):Rat):=by grind[bQ,cU,xL,fX,BU]
 rw[B] at q;have o:∀v∈(bQ p f).basic++(bQ p f).free,0<=iQ (nF f) (bQ p f) (λj=>if bN (Ao f 0) j 0∈t then(1:Rat) else 0) v:=λv b=>by
  rcases γo.1 b with b|b
  ·obtain⟨i,k,rfl⟩:=u_ kR b;rw[ml kR o_ k,uT k,cU (g:=λj=>((dE p i (oI p (bN (Ao f 0) j 0)):Int):Rat)*(if bN (Ao f 0) j 0∈t then(1:Rat) else 0)) λj c=>by rw[uU k c],d λx=>dE p i (oI p x),<-tF,<-tF];have C:=nS.1 a i (by grind[cr]);have w:0<=(cB p i - bZ p ((Ao f 1).map (oI p)) i) - (bZ p (t.map (oI p)) i - bZ p ((Ao f 1).map (oI p)) i):=by omega
   have D:=B2 w;simp_all
  grind[tN,kR,lN,o_]
 have:=l.JJ r q λj c=>o _ (l.perm.mem_iff.1 (εp _ (tO l.wf c)));grind[jO]
end
theorem K4 {t:Tb} {n j:Nat} (b:j<n):∀{k:Nat},(∀i,i<k->0<=t.bv i)->(∃i,i<k/\t.bv i=j/\bN (fE t n k) j 0=t.bd i)\/((∀i,i<k->t.bv i≠j)/\bN (fE t n k) j 0=0)
 |0,_=> .inr ⟨λi a=>by omega,by grind[fE,bR]⟩
 |k+1,h=>by
  have e:=h k (by omega);have d:=@K4 t n j b k λi a=>h i (by omega);unfold fE;by_cases c:t.bv k<n
  ·rw[if_pos c,gU (by grind[B1])];grind
  grind
theorem K3 {t:Tb} {n m r:Nat} (a:r<m):∀{k:Nat},(∃j,j<k/\t.fv j=((n+r:Nat):Int)/\bN (iL t n m k) r 0= -(t.cs j))\/((∀j,j<k->t.fv j≠((n+r:Nat):Int))/\bN (iL t n m k) r 0=0)
 |0=> .inr ⟨λi d=>by omega,by grind[iL,bR]⟩
 |k+1=>by
  have c:=@K3 t n m r a k;unfold iL;by_cases b:(n:Int)<=t.fv k/\t.fv k<n+m
  ·rw[if_pos b,gU (by grind[B0])];grind
  grind
theorem K2 {n m:Nat} {t:Tb} (h:t.WF n m) (c:(t.basic++t.free).Nodup) {j:Nat} (a:j<n):dJ t (t.fv j)=t.cs j:=by
 have b:j<t.free.length:=by rw[h.free];exact a
 unfold dJ;rw[if_pos (tO h a),show t.free.idxOf (t.fv j)=j from nL (γy.1 c).2.1 b]
theorem Ux {n m:Nat} {t:Tb} (h:t.WF n m) (b:(t.basic++t.free).Nodup) {j:Nat} (a:j<m):dJ t (t.bv j)=0:=by unfold dJ;rw[if_neg (EH h b a)]
section
variable {p:ew} {f:List Int}
noncomputable def oi (p:ew) (f:List Int):Int->Rat:=iQ (nF f) (cE p f) λ_=>0
theorem B' (h:ec p f):(bQ p f).holds (nF f) (mF p) (oi p f) (cE p f).value:=by obtain⟨a,_,_⟩:=m_ h;have b:=asg_holds a.wf a.fF (y:=λ_=>0);rw[cU (g:=λ_=>0) λj _=>by grind,ic] at b;have c:=(a.sol _ _).1 b;rwa [show(cE p f).value+0=(cE p f).value by grind] at c
theorem Fs (h:ec p f) {i:Nat} (b:i<mF p):oi p f ((cE p f).bv i)=(cE p f).bd i:=by obtain⟨a,_,_⟩:=m_ h;unfold oi;rw[ml a.wf a.fF b,cU (g:=λ_=>0) λj _=>by grind,ic];grind
theorem Fq (h:ec p f) {j:Nat} (b:j<nF f):oi p f ((cE p f).fv j)=0:=by obtain⟨a,_,_⟩:=m_ h;unfold oi;rw[lN a.wf a.fF b]
theorem BT (h:ec p f) {v:Int} (a:v∈(bQ p f).basic++(bQ p f).free):(∃i,i<mF p/\(cE p f).bv i=v)\/∃j,j<nF f/\(cE p f).fv j=v:=by
 obtain⟨b,_,_⟩:=m_ h;rw[<-b.perm.mem_iff,γo] at a;rcases a with a|a;·exact .inl (u_ b.wf a)
 ·exact .inr (tN b.wf a)
theorem Fp (h:ec p f) {v:Int} (c:v∈(bQ p f).basic++(bQ p f).free):0<=oi p f v:=by
 obtain⟨_,b,_⟩:=m_ h;rcases BT h c with⟨i,a,rfl⟩|⟨j,d,rfl⟩
 ·rw[Fs h a];exact b i a
 grind[Fq]
theorem Fo {j:Nat} (a:j<nF f):(j:Int)∈(bQ p f).basic++(bQ p f).free:=by have:=tO (n:=nF f) (m:=mF p) (t:=bQ p f) kR a;grind[tH]
theorem Uw (h:ec p f) {i:Nat} (b:i<mF p):0<=(cE p f).bv i:=by obtain⟨a,_,_⟩:=m_ h;have c:=a.perm.mem_iff.1 (εw _ (xe a.wf b));grind[u_,kR,AD,tN,tH]
theorem Uv (h:ec p f) {j:Nat} (c:j<nF f):bN (fE (cE p f) (nF f) (mF p)) j 0=oi p f j:=by
 rcases @K4 (cE p f) (nF f) j c (mF p) λi b=>Uw h b with⟨i,d,a,g⟩|⟨d,a⟩;·grind[Fs]
 ·rw[a];rcases BT h (Fo c) with⟨i,b,e⟩|⟨k,l,e⟩<;>grind[BT,Fo,Fq]
theorem Uu (h:ec p f) {j:Nat} (a:j<nF f):oi p f j<=1:=by have:=MU h (B' h) (λv b=>Fp h b) a;grind[tH]
theorem K1 (h:ec p f):(∀i,i<mF p->Sz 1000 ((cE p f).bd i))/\(∀j,j<nF f->Sz 1000 ((cE p f).cs j))/\Sz 1000 (cE p f).value:=have a:=(B3 h).JK (m_ h).1;⟨a.1,a.2.1,a.2.2.1⟩
theorem Fm (q:Rat) (h:q=0\/q=1):Sz 1000 q:=by
 have a:Sz 1 q:=by rcases h with rfl|rfl<;>exact⟨by decide,by decide⟩
 exact a.mono (by omega)
theorem Ut (h:ec p f) {v:Int} (a:v∈(bQ p f).basic++(bQ p f).free):Sz 1000 (oi p f v):=by grind[BT,Fs,K1,Fq,Fm]
noncomputable def dz (p:ew) (f:List Int):List Rat:=js p f (nF f)
theorem qK:(dz p f).length=f.length:=vG
theorem xF (h:ec p f) (c:jg f=true) {i:Nat} (b:i<f.length):(bN f i 0=1/\bN (dz p f) i 0=1)\/(bN f i 0= -1/\bN (dz p f) i 0=0)\/(bN f i 0=0/\(i:Int)∈Ao f 0/\(Ao f 0).idxOf (i:Int)<nF f/\bN (dz p f) i 0=oi p f ((Ao f 0).idxOf (i:Int))):=by
 have g:=τ.1 c _ (cy (d:=0) b);simp only[ζ,decide_eq_true_eq] at g;unfold dz;rw[BV b,φ];rcases(show bN f i 0=1\/bN f i 0= -1\/bN f i 0=0 by omega) with a|a|a;·simp_all
 ·simp_all[kf]
 ·have e:(i:Int)∈Ao f 0:=kf.2 ⟨by omega,by simp_all⟩;have j:(Ao f 0).idxOf (i:Int)<nF f:=γ5 e;simp_all[Uv]
theorem DX (h:ec p f) (a:jg f=true) {i:Nat} (b:i<f.length):0<=bN (dz p f) i 0/\bN (dz p f) i 0<=1/\Sz 1000 (bN (dz p f) i 0):=by rcases xF h a b with⟨_,e⟩|⟨_,e⟩|⟨_,_,c,e⟩;all_goals grind[Fm,Fp,Fo,Uu,Ut]
theorem BS (h:ec p f) (c:jg f=true) {i:Nat} (b:i<f.length) (d:0<bN (dz p f) i 0) (a:bN (dz p f) i 0<1):bN f i 0=0:=by grind[xF]
def eA (x:List Rat):List Int:=(bL x.length).filter λi=>decide (0<bN x i.toNat 0)
theorem vF {x:List Rat} {i:Int}:i∈eA x↔(0<=i/\i<x.length)/\0<bN x i.toNat 0:=by simp_all[eA,ik]
theorem LL {x:List Rat}:dm x.length (eA x):=⟨om.sublist γn,λi a=>(vF.1 a).1⟩
def lK (x:List Rat):Bool:=x.all λq=>decide (q.den=1)
theorem Us {q:Rat} (h:q.den=1):q=(q.num:Rat):=by grind[Rat.mkRat_self,Rat.mkRat_one]
theorem Ur {q:Rat} (c:q.den=1) (b:0<=q) (a:q<=1):q=0\/q=1:=by
 rw[Us c] at b a ⊢;have f:0<=q.num:=by exact_mod_cast b
 have d:q.num<=1:=by exact_mod_cast a
 rcases(show q.num=0\/q.num=1 by omega) with e|e<;>simp_all
theorem Uq {t:List Int} (a:jg f=true) (c:f.length=p.bj.length) (h:dm p.bj.length t) (b:∀i∈t,bN f i.toNat 0≠ -1) (d:∀i∈Ao f 1,i∈t) (g:Int->Int):OA (nF f) (λj=>((g (bN (Ao f 0) j 0):Int):Rat)*(if bN (Ao f 0) j 0∈t then(1:Rat) else 0))=(((t.map g).sum - ((Ao f 1).map g).sum:Int):Rat):=by have e:=@pd (λx=>((g x:Int):Rat)*(if x∈t then(1:Rat) else 0)) (Ao f 0);rw[Ft] at e;rw[K5 a c h b d g];grind
theorem LK (h:ec p f) (t:jg f=true) (F:lK (dz p f)=true):fz p ((eA (dz p f)).map (oI p))=true/\((bE ((eA (dz p f)).map (oI p)):Int):Rat)=jO p f:=by
 have n:=h.2.1;have z:=@qK p f;have q:∀i:Nat,i<f.length->bN (dz p f) i 0=0\/bN (dz p f) i 0=1:=λi o=>by obtain⟨O,J,_⟩:=DX h t o;have:=τ.1 F _ (cy (d:=0) (show i<(dz p f).length by omega));simp_all[Ur]
 have B:dm p.bj.length (eA (dz p f)):=by grind[LL]
 have A:∀i∈eA (dz p f),bN f i.toNat 0≠ -1:=λi x K=>by grind[vF,xF]
 have D:∀i∈Ao f 1,i∈eA (dz p f):=λi x=>by grind[kf,vF,xF]
 have G:∀j,j<nF f->(if bN (Ao f 0) j 0∈eA (dz p f) then(1:Rat) else 0)=oi p f ((bQ p f).fv j):=λj c=>by
  obtain⟨C,L⟩:=uS h c;have E:(Ao f 0).idxOf (bN (Ao f 0) j 0)=j:=nL (rJ.imp λh=>by omega) c;have M:((((bN (Ao f 0) j 0).toNat:Nat)):Int)=bN (Ao f 0) j 0:=by omega
  have e:bN (dz p f) (bN (Ao f 0) j 0).toNat 0=oi p f j:=by grind[xF]
  rw[tH c,<-e];rcases q (bN (Ao f 0) j 0).toNat (by omega) with l|l;·simp_all[vF]
  ·rw[l,if_pos];grind[vF]
 obtain⟨v,w⟩:=B' h;have k:=Uq t n B A D;refine⟨nS.2 λy b=>?_,?_⟩
 ·obtain⟨r,m⟩:∃r:Int,r=(y:Int):=⟨_,rfl⟩;rw[<-m] at b ⊢;have I:0<=r:=by omega
  have a:r.toNat<mF p:=by unfold cr at b;grind
  have s:=v r.toNat a;rw[cU (g:=λj=>((dE p r (oI p (bN (Ao f 0) j 0)):Int):Rat)*(if bN (Ao f 0) j 0∈eA (dz p f) then(1:Rat) else 0)) λj c=>by grind[uU],k λi=>dE p r (oI p i),uT a,show((r.toNat:Nat):Int)=r by omega] at s;have N:=Fp h (εw _ (xe kR a));rw[<-tF,<-tF] at s;have l:((bZ p ((eA (dz p f)).map (oI p)) r - bZ p ((Ao f 1).map (oI p)) r:Int):Rat)<=((cB p r - bZ p ((Ao f 1).map (oI p)) r:Int):Rat):=by grind
  have H:bZ p ((eA (dz p f)).map (oI p)) r - bZ p ((Ao f 1).map (oI p)) r<=cB p r - bZ p ((Ao f 1).map (oI p)) r:=by exact_mod_cast l
  omega
 ·have u:(bQ p f).value=0:=rfl;rw[u,cU (g:=λj=>(((oI p (bN (Ao f 0) j 0)).value:Int):Rat)*(if bN (Ao f 0) j 0∈eA (dz p f) then(1:Rat) else 0)) λj c=>by grind[xL],k λi=>(oI p i).value] at w;grind[jO,fX,BU]
theorem LJ (h:ec p f) {x:Int->Rat} {z:Rat} (l:(bQ p f).holds (nF f) (mF p) x z):z=(cE p f).value+(OA (mF p) (λk=>dJ (cE p f) ((nF f+k:Nat):Int)*x ((nF f+k:Nat):Int))+OA (nF f) λj=>dJ (cE p f) (j:Int)*x (j:Int)):=by
 obtain⟨a,_,_⟩:=m_ h;have i:=((a.sol _ _).2 l).2;have m:OA (nF f) (λj=>(cE p f).cs j*x ((cE p f).fv j))=kY (λv=>dJ (cE p f) v*x v) ((cE p f).basic++(cE p f).free):=by rw[xh,pd,pd,a.wf.basic,a.wf.free];rw[cU (n:=mF p) (g:=λ_=>0) λk b=>by show dJ (cE p f) ((cE p f).bv k)*x ((cE p f).bv k)=0;rw[Ux a.wf a.fF b];grind,ic];rw[cU (n:=nF f) (f:=λk=>dJ (cE p f) (bN (cE p f).free k 0)*x (bN (cE p f).free k 0)) (g:=λj=>(cE p f).cs j*x ((cE p f).fv j)) λj e=>by show dJ (cE p f) ((cE p f).fv j)*x ((cE p f).fv j)=_;rw[K2 a.wf a.fF e]];grind
 have d:kY (λv=>dJ (cE p f) v*x v) ((bQ p f).basic++(bQ p f).free)=OA (mF p) (λk=>dJ (cE p f) ((nF f+k:Nat):Int)*x ((nF f+k:Nat):Int))+OA (nF f) λj=>dJ (cE p f) (j:Int)*x (j:Int):=by
  have c:=@kR p f;rw[xh,pd,pd,c.basic,c.free];congr 1
  ·refine cU λk b=>?_;show dJ (cE p f) ((bQ p f).bv k)*x ((bQ p f).bv k)=_;rw[AD b]
  ·refine cU λk b=>?_;show dJ (cE p f) ((bQ p f).fv k)*x ((bQ p f).fv k)=_;rw[tH b]
 rw[i,m,EI a.perm,d]
theorem LI (h:ec p f) {v:Int}:dJ (cE p f) v<=0:=by
 obtain⟨d,_,e⟩:=m_ h;unfold dJ;split
 ·rename_i g;have k:(cE p f).free.idxOf v<nF f:=by rw[<-d.wf.free];grind
  rcases @rO (cE p f) (nF f) with⟨a,b⟩|⟨c,a,b,i,j⟩<;>grind
 ·decide
theorem BR (h:ec p f) {r:Nat} (g:r<mF p):bN (gS p f) r 0= -(dJ (cE p f) ((nF f+r:Nat):Int)):=by
 obtain⟨a,_,_⟩:=m_ h;unfold gS;rcases @K3 (cE p f) (nF f) (mF p) r g (nF f) with⟨j,c,b,i⟩|⟨c,b⟩;·rw[i,<-b,K2 a.wf a.fF c]
 ·rw[b];unfold dJ;rw[if_neg];·decide
  ·intro d;obtain⟨j,k,e⟩:=tN a.wf d;simp_all
theorem BQ:(gS p f).length=mF p:=B0
theorem DW (h:ec p f) {r:Nat} (a:r<mF p):0<=bN (gS p f) r 0/\Sz 1000 (bN (gS p f) r 0):=by
 obtain⟨c,_,_⟩:=m_ h;have d:=@LI p f h ((nF f+r:Nat):Int);refine⟨by grind[BR],?_⟩;rw[BR h a];refine xQ ?_;unfold dJ;split
 next b=>exact(K1 h).2.1 _ (by have:=γ5 b;rw[c.wf.free] at this;exact this)
 grind[Fm]
theorem LH (h:ec p f):(cE p f).value=OA (mF p) λr=>bN (gS p f) r 0*(bQ p f).bd r:=by have c:=asg_holds (n:=nF f) (m:=mF p) (t:=bQ p f) kR o_ (y:=λ_=>0);have a:=LJ h c;have d:(bQ p f).value=0:=rfl;rw[d,cU (n:=nF f) (f:=λj=>(bQ p f).cs j*(λ_=>(0:Rat)) j) (g:=λ_=>0) λj _=>by grind,ic] at a;rw[cU (n:=nF f) (f:=λj=>dJ (cE p f) (j:Int)*iQ (nF f) (bQ p f) (λ_=>0) (j:Int)) (g:=λ_=>0) λj b=>by have e:=lN (n:=nF f) (m:=mF p) (t:=bQ p f) kR o_ (y:=λ_=>0) b;grind[tH],ic] at a;rw[cU (n:=mF p) (g:=λk=>(-1:Rat)*(bN (gS p f) k 0*(bQ p f).bd k)) λk i=>by have e:=ml (n:=nF f) (m:=mF p) (t:=bQ p f) kR o_ (y:=λ_=>0) i;grind[AD,ic,BR],tQ] at a;grind
theorem Up (h:ec p f) {j:Nat} (b:j<nF f):(bQ p f).cs j<=OA (mF p) λr=>bN (gS p f) r 0*(bQ p f).cf r j:=by have l:=asg_holds (n:=nF f) (m:=mF p) (t:=bQ p f) kR o_ (y:=λi=>if i=j then 1 else 0);have a:=LJ h l;have o:(bQ p f).value=0:=rfl;rw[o,cU (n:=nF f) (f:=λi=>(bQ p f).cs i*(if i=j then(1:Rat) else 0)) (g:=λi=>if i=j then(bQ p f).cs j else 0) λi _=>by grind,rL b] at a;rw[cU (n:=nF f) (f:=λi=>dJ (cE p f) (i:Int)*iQ (nF f) (bQ p f) (λi=>if i=j then 1 else 0) (i:Int)) (g:=λi=>if i=j then dJ (cE p f) (j:Int) else 0) λi d=>by have e:=lN (n:=nF f) (m:=mF p) (t:=bQ p f) kR o_ (y:=λi=>if i=j then(1:Rat) else 0) d;rw[tH d] at e;grind,rL b] at a;rw[cU (n:=mF p) (g:=λk=>bN (gS p f) k 0*(bQ p f).cf k j - bN (gS p f) k 0*(bQ p f).bd k) λk c=>by have e:=ml (n:=nF f) (m:=mF p) (t:=bQ p f) kR o_ (y:=λi=>if i=j then(1:Rat) else 0) c;rw[AD c,cU (g:=λi=>if i=j then(bQ p f).cf k j else 0) λi _=>by grind,rL b] at e;grind[BR],E_] at a;grind[LH,LI]
end
abbrev cA:=Int×(Int×(Int×(Int×List NH)))
@[reducible] def Ap:cj:=.pair (.i .i64) (.pair (.i .i64) (.pair (.i .i64) (.pair (.i .i64) (.zi sF))))
def zN:cA:=(0,(0,(0,(0,[]))))
def zC:cA:=(3,(0,(0,(0,[]))))
noncomputable def o9 (p:ew) (f:List Int):cA:=(1,(0,(0,(0,fL (gS p f)))))
def tE (k o:Int):cA:=(2,(k,(o,(o+1,[]))))
structure cu where
 ch:List Int
 val:Int
 bp:Bool
 bq:List cA
 i':Int
def dF (b:Int->Bool) (s:cu) (a:bC):cu:=if s.val<a.value then⟨a.bn,a.value,s.bp||b a.value,s.bq,s.i'⟩ else s
def lJ (q:Rat):Rat:=if q<0 then -q else q
def iO (x:List Rat):Nat->Option (Int×Rat)
 |0=>none
 |k+1=>if 0<bN x k 0/\bN x k 0<1 then(match iO x k with
   |none=>some ((k:Int),lJ (bN x k 0 - 1 / 2))
   |some (i,l)=>if lJ (bN x k 0 - 1 / 2)<l then some ((k:Int),lJ (bN x k 0 - 1 / 2)) else some (i,l)) else iO x k
def jb (x:List Rat):Option Int:=(iO x x.length).map (·.1)
theorem DV {x:List Rat}:∀{k:Nat} {i:Int} {l:Rat},iO x k=some (i,l)->(0<=i/\i<k)/\(0<bN x i.toNat 0/\bN x i.toNat 0<1)/\l=lJ (bN x i.toNat 0 - 1 / 2)
 |0,i,l,h=>by cases h;|k+1,i,l,h=>by
  unfold iO at h;have b:some ((k:Int),lJ (bN x k 0 - 1 / 2))=some (i,l)->(0<bN x k 0/\bN x k 0<1)->(0<=i/\i<((k+1:Nat):Int))/\(0<bN x i.toNat 0/\bN x i.toNat 0<1)/\l=lJ (bN x i.toNat 0 - 1 / 2):=λh f=>by grind
  have a:iO x k=some (i,l)->(0<=i/\i<((k+1:Nat):Int))/\(0<bN x i.toNat 0/\bN x i.toNat 0<1)/\l=lJ (bN x i.toNat 0 - 1 / 2):=λh=>by obtain⟨c,d,e⟩:=DV h;grind
  grind
theorem LG {x:List Rat}:∀{k:Nat},iO x k=none->∀i,i<k->¬(0<bN x i 0/\bN x i 0<1)
 |0,_,i,a=>by omega;|k+1,h,i,a=>by
  unfold iO at h;split at h;·grind
  ·rename_i b;by_cases e:i=k;·simp_all
   ·exact LG h i (by omega)
theorem BP {x:List Rat} {k:Int} (h:jb x=some k):(0<=k/\k<x.length)/\0<bN x k.toNat 0/\bN x k.toNat 0<1:=by unfold jb at h;obtain⟨⟨i,l⟩,b,a⟩:=ε.1 h;simp only at a;subst a;obtain⟨c,d,_⟩:=DV b;simp_all
theorem Uo {x:List Rat} (h:jb x=none):∀i,i<x.length->¬(0<bN x i 0/\bN x i 0<1):=LG (Option.map_eq_none_iff.1 h)
noncomputable def oh (p:ew) (f:List Int):bC:=⟨eA (dz p f),bE ((eA (dz p f)).map (oI p))⟩
noncomputable def cO (p:ew) (a:Int->Bool) (s:cu) (f:List Int):cu:=if((s.val+1:Int):Rat)<=jO p f/\lK (dz p f)=true then dF a s (oh p f) else s
def jN (s:cu) (a k:Int):cu:={s with bq:=(s.bq++[zN,zN]).set a.toNat (tE k s.bq.length)}
noncomputable def eE (p:ew) (en:Int->Bool) (bz:Int) (b:cu->Int->List Int->cu) (s:cu) (a:Int) (f:List Int):cu:=
 if s.i'≠0\/s.bp=true then s
 else if gF p f=false then {s with bq:=s.bq.set a.toNat zC}
 else if jO p f<(((cO p en s f).val+1:Int):Rat) then {cO p en s f with bq:=(cO p en s f).bq.set a.toNat (o9 p f)}
 else match jb (dz p f) with
  |none=>{cO p en s f with i':=12}
  |some k=>if bz<(cO p en s f).bq.length+2 then {cO p en s f with i':=12}
   else b (b (jN (cO p en s f) a k) ((cO p en s f).bq.length+1) (f.set k.toNat 1)) (cO p en s f).bq.length (f.set k.toNat (-1))
noncomputable def dc (p:ew) (b:Int->Bool) (a:Int):Nat->cu->Int->List Int->cu
 |0=>eE p b a λs _ _=>s
 |n+1=>eE p b a (dc p b a n)
structure dT (p:ew) (f:List Int):Prop where
 c:nW p=0
 l:f.length=p.bj.length
 r:jg f=true
theorem dT.ok {p:ew} {f:List Int} (h:dT p f) (a:gF p f=true):ec p f:=⟨h.c,h.l,a⟩
theorem dT.e {p:ew} {f:List Int} (h:dT p f):iD p f=0:=by unfold iD;rw[if_neg (by simp[h.c]),if_neg (by simp[h.l]),if_pos h.r]
theorem dT.jn {p:ew} {f:List Int} (h:dT p f):jn p f=gF p f:=by unfold Go.Vi.jn;rw[h.e];simp
theorem LF {f:List Int} {k:Nat} {d:Int} (h:jg f=true) (a: -1<=d/\d<=1):jg (f.set k d)=true:=by grind[jg]
theorem dT.set {p:ew} {f:List Int} (h:dT p f) {k:Nat} {d:Int} (a: -1<=d/\d<=1):dT p (f.set k d):=⟨h.c,by rw[γm];exact h.l,LF h.r a⟩
theorem tD {f:List Int} {k d:Int} (i:0<=k/\k<f.length) (l:bN f k.toNat 0=0) (g:d≠0):nF f=nF (f.set k.toNat d)+1:=by
 have c:(Ao f 0).Perm (k::Ao (f.set k.toNat d) 0):=by
  refine(γ6 (rJ.imp λh=>by omega) ?_).2 λx=>?_
  ·rw[List.nodup_cons];refine⟨λj=>?_,rJ.imp λh=>by omega⟩;simp_all[kf,gU]
  ·rw[γl,kf,kf,γm];constructor
   ·rintro⟨a,b⟩;by_cases e:x=k;·exact .inl e
    ·exact .inr ⟨a,by rw[gU (by omega),if_neg (by omega)];exact b⟩
   grind[gU]
 have:=c.length_eq;omega
theorem DU {en:Int->Bool} {s:cu} {a:bC}:(dF en s a).bq=s.bq/\(dF en s a).i'=s.i'/\s.val<=(dF en s a).val/\((dF en s a).val=s.val\/(dF en s a).val=a.value)/\((dF en s a).ch=s.ch\/(dF en s a).ch=a.bn):=by grind[dF]
theorem BO {p:ew} {en:Int->Bool} {s:cu} {f:List Int}:(cO p en s f).bq=s.bq/\(cO p en s f).i'=s.i'/\s.val<=(cO p en s f).val/\((cO p en s f).val=s.val\/(cO p en s f).val=(oh p f).value)/\((cO p en s f).ch=s.ch\/(cO p en s f).ch=(oh p f).bn):=by grind[cO,DU]
theorem Un {x:List Rat}:(eA x).length<=x.length:=by have:=γT (λi:Int=>decide (0<bN x i.toNat 0)) (bL x.length);rw[fj] at this;exact this
theorem Um {p:ew} {f:List Int} (b:f.length=p.bj.length):∀x∈(eA (dz p f)).map (oI p),x∈p.bj:=λx a=>by obtain⟨i,c,rfl⟩:=Δ.1 a;have:=(vF.1 c).1;rw[qK,b] at this;exact cy (by omega)
theorem LD {p:ew} {f:List Int} (h:dT p f):0<=(oh p f).value/\(oh p f).value<=160000000/\(oh p f).bn.length<=160:=by
 have a:=cT h.c;have b:=@pg p a ((eA (dz p f)).map (oI p)) (Um h.l);have d:=@Un (dz p f);rw[qK,h.l] at d;have e:=a.2.1;rw[Φ] at b;refine⟨b.1,?_,?_⟩
 ·show bE _<=_;omega
 ·show(eA (dz p f)).length<=160;omega
theorem DT {p:ew} (a:nW p=0) {c:List Int} (h:dm p.bj.length c):cq p c=0↔fz p (c.map (oI p))=true:=by simp_all[Am,eT,cK,cq]
theorem vE {p:ew} (a:nW p=0) {c:List Int} (h:dm p.bj.length c):dA p c=bE (c.map (oI p)):=by simp_all[cK,Am,dA]
theorem xE {p:ew} {en:Int->Bool} {bz:Int}:∀{n:Nat} {s:cu} {a:Int} {f:List Int},dT p f->s.bq.length<=(dc p en bz n s a f).bq.length/\((dc p en bz n s a f).bq.length<=bz\/(dc p en bz n s a f).bq.length=s.bq.length)/\s.val<=(dc p en bz n s a f).val/\((dc p en bz n s a f).val=s.val\/(dc p en bz n s a f).val<=160000000)/\((dc p en bz n s a f).ch=s.ch\/(dc p en bz n s a f).ch.length<=160)/\((dc p en bz n s a f).i'=s.i'\/(dc p en bz n s a f).i'=12):=by
 have d:∀{b:cu->Int->List Int->cu},(∀{s:cu} {a:Int} {f:List Int},dT p f->s.bq.length<=(b s a f).bq.length/\((b s a f).bq.length<=bz\/(b s a f).bq.length=s.bq.length)/\s.val<=(b s a f).val/\((b s a f).val=s.val\/(b s a f).val<=160000000)/\((b s a f).ch=s.ch\/(b s a f).ch.length<=160)/\((b s a f).i'=s.i'\/(b s a f).i'=12))->
   ∀{s:cu} {a:Int} {f:List Int},dT p f->s.bq.length<=(eE p en bz b s a f).bq.length/\((eE p en bz b s a f).bq.length<=bz\/(eE p en bz b s a f).bq.length=s.bq.length)/\s.val<=(eE p en bz b s a f).val/\((eE p en bz b s a f).val=s.val\/(eE p en bz b s a f).val<=160000000)/\((eE p en bz b s a f).ch=s.ch\/(eE p en bz b s a f).ch.length<=160)/\((eE p en bz b s a f).i'=s.i'\/(eE p en bz b s a f).i'=12):=by
  intro b c s a f h;obtain⟨v,j,E,l,r⟩:=@BO p en s f;obtain⟨H,A,L⟩:=LD h;have w:(cO p en s f).ch=s.ch\/(cO p en s f).ch.length<=160:=r.imp id λh=>by simp_all
  have x:(cO p en s f).val=s.val\/(cO p en s f).val<=160000000:=l.imp id λh=>by omega
  unfold eE;split;·simp_all
  split;·simp_all
  split;·simp_all
  split;·simp_all
  rename_i k J;split;·simp_all
  rename_i o;have F:(jN (cO p en s f) a k).bq.length=s.bq.length+2:=by simp_all[jN]
  obtain⟨D,K,u,z,e,t⟩:=@c (jN (cO p en s f) a k) ((cO p en s f).bq.length+1) (f.set k.toNat 1) (h.set (by omega));obtain⟨B,C,G,I,g,M⟩:=@c (b (jN (cO p en s f) a k) ((cO p en s f).bq.length+1) (f.set k.toNat 1)) (cO p en s f).bq.length (f.set k.toNat (-1)) (h.set (by omega));have i:(jN (cO p en s f) a k).val=(cO p en s f).val:=rfl;have m:(jN (cO p en s f) a k).ch=(cO p en s f).ch:=rfl;have q:(jN (cO p en s f) a k).i'=(cO p en s f).i':=rfl;rw[v] at o;rw[i] at u z;rw[m] at e;rw[q,j] at t;refine⟨by omega,.inl (by omega),by omega,by omega,?_,?_⟩
  ·rcases g with g|g
   ·rw[g];rcases e with e|e<;>simp_all
   omega
  omega
 intro n;induction n with
 |zero=>exact d λ{s a f} _=>⟨π _,.inr rfl,εk _,.inl rfl,.inl rfl,.inl rfl⟩;|succ n y=>exact d λh=>y h
inductive iC (p:ew) (v:Int) (t:List cA):Nat->List Int->Nat->Nat->Prop
 |ef {a:Nat} {f:List Int} {lo:Nat}:t[a]?=some (o9 p f)->gF p f=true->jO p f<((v+1:Int):Rat)->iC p v t a f lo lo
 |jY {a:Nat} {f:List Int} {lo:Nat}:t[a]?=some zC->gF p f=false->iC p v t a f lo lo
 |bra {a:Nat} {f:List Int} {lo mid hi:Nat} {k:Int}:t[a]?=some (tE k lo)->a<lo->(0<=k/\k<f.length)->bN f k.toNat 0=0->iC p v t (lo+1) (f.set k.toNat 1) (lo+2) mid->iC p v t lo (f.set k.toNat (-1)) mid hi->iC p v t a f lo hi
section
variable {p:ew} {v v':Int} {t t':List cA} {a lo hi:Nat} {f:List Int}
theorem iC.le (h:iC p v t a f lo hi):lo<=hi:=by
 induction h with
 |ef _ _ _=>omega;|jY _ _=>omega;|bra _ _ _ _ _ _ b c=>omega
theorem iC.mono (h:iC p v t a f lo hi) (q:v<=v') (e:∀i,i=a\/(lo<=i/\i<hi)->t'[i]?=t[i]?):iC p v' t' a f lo hi:=by
 induction h with
 |ef c b d=>
  refine .ef (by simp_all) b ?_;have:((v+1:Int):Rat)<=((v'+1:Int):Rat):=by exact_mod_cast (show v+1<=v'+1 by omega)
  grind;|jY c b=>exact .jY (by simp_all) b;|bra c b d l k g m j=>
  have o:=k.le;have n:=g.le;exact .bra (by simp_all) b d l (m λi hi=>e i (by omega)) (j λi hi=>e i (by omega))
def BN (f:List Int) (l:List Int):Prop:=(∀i∈l,bN f i.toNat 0≠ -1)/\∀i∈Ao f 1,i∈l
theorem LC {l:List Int} {k d:Int} (g:0<=k/\k<f.length) (m:bN f k.toNat 0=0) (e:∀i∈l,0<=i) (h:BN f l) (j:(d=1/\k∈l)\/(d= -1/\k∉l)):BN (f.set k.toNat d) l:=by obtain⟨b,c⟩:=h;refine⟨λi a=>?_,λi a=>?_⟩<;>grind[gU,kf]
theorem Ul {l m:List Int} (e:nW p=0) (f:∀i∈l,0<=i/\i<p.bj.length) (q:m.Nodup) (j:∀i∈m,i∈l) (o:l.Nodup) (h:fz p (l.map (oI p))=true):fz p (m.map (oI p))=true:=by
 refine nS.2 λr b=>?_;have d:=nS.1 h r b;have a:l.Perm (m++l.filter λi=>decide (i∉m)):=by grind
 have g:bZ p (l.map (oI p)) r=bZ p (m.map (oI p)) r+bZ p ((l.filter λi=>decide (i∉m)).map (oI p)) r:=by rw[tF,tF,tF,MJ (a.map _),γb,θx]
 have n:=@qO p r ((l.filter λi=>decide (i∉m)).map (oI p)) λx c=>by obtain⟨i,k,rfl⟩:=Δ.1 c;simp_all[jP]
 omega
theorem iC.sound (h:iC p v t a f lo hi) (e:dT p f) {l:List Int} (d:dm p.bj.length l) (b:fz p (l.map (oI p))=true) (g:BN f l):bE (l.map (oI p))<=v:=by
 induction h with
 |ef o n m=>
  have j:=If (e.ok n) e.r d b g.1 g.2;have s:((bE (l.map (oI p)):Int):Rat)<((v+1:Int):Rat):=by grind
  have u:bE (l.map (oI p))<v+1:=by exact_mod_cast s
  omega;|jY o n=>
  exfalso;have:=Ul e.c d.2 (rJ.imp λh=>by omega) g.2 (vi d) b;grind[gF];|@bra a f lo y hi k o n m j s u x w=>
  by_cases q:k∈l;·exact x (e.set (by omega)) (LC m j (λi hi=>(d.2 i hi).1) g (.inl ⟨rfl,q⟩))
  ·exact w (e.set (by omega)) (LC m j (λi hi=>(d.2 i hi).1) g (.inr ⟨rfl,q⟩))
end
theorem LB {p:ew} {en:Int->Bool} {bz:Int}:∀{n:Nat} {s:cu} {a:Int} {f:List Int},dT p f->nF f<=n->(0<=a/\a<s.bq.length)->(dc p en bz n s a f).i'=0->(dc p en bz n s a f).bp=false->
  iC p (dc p en bz n s a f).val (dc p en bz n s a f).bq a.toNat f s.bq.length (dc p en bz n s a f).bq.length/\(∀i:Nat,i<s.bq.length->i≠a.toNat->(dc p en bz n s a f).bq[i]?=s.bq[i]?)/\s.i'=0/\s.bp=false:=by
 have y:∀{b:cu->Int->List Int->cu} {s:cu} {a:Int} {f:List Int},dT p f->(0<=a/\a<s.bq.length)->
   (∀{s:cu} {a:Int} {g:List Int},dT p g->nF f=nF g+1->(0<=a/\a<s.bq.length)->s.bq.length<=(b s a g).bq.length/\s.val<=(b s a g).val/\((b s a g).i'=0->(b s a g).bp=false->iC p (b s a g).val (b s a g).bq a.toNat g s.bq.length (b s a g).bq.length/\(∀i:Nat,i<s.bq.length->i≠a.toNat->(b s a g).bq[i]?=s.bq[i]?)/\s.i'=0/\s.bp=false))->
   (eE p en bz b s a f).i'=0->(eE p en bz b s a f).bp=false->iC p (eE p en bz b s a f).val (eE p en bz b s a f).bq a.toNat f s.bq.length (eE p en bz b s a f).bq.length/\(∀i:Nat,i<s.bq.length->i≠a.toNat->(eE p en bz b s a f).bq[i]?=s.bq[i]?)/\s.i'=0/\s.bp=false:=by
  intro b s a f t C q e c;obtain⟨D,e2,e3,e4,e5⟩:=@BO p en s f;have B:a.toNat<s.bq.length:=by omega
  unfold eE at e c ⊢;split at e;·simp_all
  rename_i x;have G:s.i'=0/\s.bp=false:=by simpa using x
  rw[if_neg x] at c ⊢;split at e
  ·rename_i m;rw[if_pos m];refine⟨?_,λi u j=>?_,G⟩
   ·rw[γm];exact .jY (by simp_all) m
   ·show(s.bq.set a.toNat zC)[i]?=_;rw[δq (λh=>j h.symm)]
  rename_i m;rw[if_neg m] at c ⊢;have O:gF p f=true:=by simpa using m
  split at e
  ·rename_i w;rw[if_pos w];refine⟨?_,λi u j=>?_,G⟩
   ·rw[γm,D];refine .ef ?_ O w;simp_all
   ·show((cO p en s f).bq.set a.toNat _)[i]?=_;rw[δq (λh=>j h.symm),D]
  rename_i w;rw[if_neg w] at c ⊢;cases A:jb (dz p f) with
  |none=>simp_all;|some k=>
  rw[A] at e c;simp only at e c ⊢;split at e;·simp at e
  rename_i Q;rw[if_neg Q] at c ⊢;obtain⟨l,K,L⟩:=BP A;rw[qK] at l;have v:bN f k.toNat 0=0:=BS (t.ok O) t.r (by omega) K L;have n1:=tD l v (d:=1) (by omega);have Y:=tD l v (d:= -1) (by omega);have T:dT p (f.set k.toNat 1):=t.set (by omega);have f2:dT p (f.set k.toNat (-1)):=t.set (by omega);have S:(jN (cO p en s f) a k).bq.length=s.bq.length+2:=by simp_all[jN]
  rw[D] at e c ⊢;obtain⟨l1,v1,t1⟩:=@q (jN (cO p en s f) a k) ((s.bq.length:Int)+1) (f.set k.toNat 1) T n1 (by omega);generalize R:b (jN (cO p en s f) a k) ((s.bq.length:Int)+1) (f.set k.toNat 1)=I at*;obtain⟨l2,V,Z⟩:=@q I (s.bq.length:Int) (f.set k.toNat (-1)) f2 Y (by omega);generalize X:b I (s.bq.length:Int) (f.set k.toNat (-1))=P at*;obtain⟨N,F,U,w2⟩:=Z e c;obtain⟨J,H,w3,w4⟩:=t1 U w2;have M:∀i:Nat,i<s.bq.length+2->(jN (cO p en s f) a k).bq[i]?=if i=a.toNat then some (tE k s.bq.length) else(s.bq++[zN,zN])[i]?:=λi u=>by
   unfold jN;simp only[D];rw[List.getElem?_set];by_cases h:a.toNat=i;·simp_all
   ·rw[if_neg h,if_neg (λm=>h m.symm)]
  have E:((s.bq.length:Int)).toNat=s.bq.length:=by omega
  have z:((s.bq.length:Int)+1).toNat=s.bq.length+1:=by omega
  rw[E] at N F;rw[z] at J H;rw[S] at J H;have o:∀i:Nat,i<s.bq.length->P.bq[i]?=(jN (cO p en s f) a k).bq[i]?:=λi u=>by rw[F i (by omega) (by omega),H i (by omega) (by omega)]
  refine⟨.bra (k:=k) (mid:=I.bq.length) ?_ B l v ?_ N,λi u j=>?_,G⟩;·rw[o _ B,M _ (by omega),if_pos rfl]
  ·exact J.mono V λi u=>F i (by omega) (by omega)
  ·rw[o i u,M i (by omega),if_neg j,List.getElem?_append_left u]
 intro n;induction n with
 |zero=>
  intro s a f t W C e c;exact y t C (λ{s a g} _ h _=>by omega) e c;|succ n ih=>
  intro s a f t W C e c;refine y t C (λ{s a g} x m w=>?_) e c;have A:=@xE p en bz n s a g x;exact⟨A.1,A.2.2.1,λe c=>ih x (by omega) w e c⟩
theorem LA {p:ew} {en:Int->Bool} {bz:Int} {G:List Int->Int->Bool->Prop} (u:∀c w b q w',G c w b->cq p q=0->dA p q=w'->w<w'->G q w' (b||en w')):
  ∀{n:Nat} {s:cu} {a:Int} {f:List Int},dT p f->G s.ch s.val s.bp->G (dc p en bz n s a f).ch (dc p en bz n s a f).val (dc p en bz n s a f).bp:=by
 have k:∀{d:cu->Int->List Int->cu},(∀{s:cu} {a:Int} {f:List Int},dT p f->G s.ch s.val s.bp->G (d s a f).ch (d s a f).val (d s a f).bp)->
   ∀{s:cu} {a:Int} {f:List Int},dT p f->G s.ch s.val s.bp->G (eE p en bz d s a f).ch (eE p en bz d s a f).val (eE p en bz d s a f).bp:=by
  intro d e s a f i j;unfold eE;split;·exact j
  split;·exact j
  rename_i t;have y:gF p f=true:=by simp_all
  have m:G (cO p en s f).ch (cO p en s f).val (cO p en s f).bp:=by
   unfold cO;split
   ·rename_i A;unfold dF;split
    ·rename_i o;obtain⟨z,B⟩:=LK (i.ok y) i.r A.2;have g:dm p.bj.length (eA (dz p f)):=by have:=@LL (dz p f);rw[qK,i.l] at this;exact this
     refine u _ _ _ _ _ j ?_ ?_ o;·exact(DT i.c g).2 z
     ·exact vE i.c g
    ·exact j
   ·exact j
  split;·exact m
  split;·exact m
  split;·exact m
  ·exact e (i.set (by omega)) (e (i.set (by omega)) m)
 intro n;induction n with
 |zero=>exact k λ_ h=>h;|succ n x=>exact k λv t=>x v t
theorem Lz {p:ew} {en:Int->Bool} {bz:Int}:∀{n:Nat} {s:cu} {a:Int} {f:List Int},dT p f->nF f<=n->s.i'=0->((s.bq.length+2^(nF f+1):Nat):Int)<=bz+2->(dc p en bz n s a f).i'=0/\(dc p en bz n s a f).bq.length+2<=s.bq.length+2^(nF f+1):=by
 have l:∀{c:cu->Int->List Int->cu} {s:cu} {a:Int} {f:List Int},dT p f->s.i'=0->((s.bq.length+2^(nF f+1):Nat):Int)<=bz+2->
   (∀{s:cu} {a:Int} {g:List Int},dT p g->nF f=nF g+1->s.i'=0->((s.bq.length+2^(nF g+1):Nat):Int)<=bz+2->(c s a g).i'=0/\(c s a g).bq.length+2<=s.bq.length+2^(nF g+1))->
   (eE p en bz c s a f).i'=0/\(eE p en bz c s a f).bq.length+2<=s.bq.length+2^(nF f+1):=by
  intro c s a f b t u C;obtain⟨L,J,T,X,e5⟩:=@BO p en s f;have F:2<=2^(nF f+1):=by grind
  unfold eE;split;·omega
  split;·simp_all
  rename_i E N;have x:gF p f=true:=by simp_all
  split;·simp_all
  rename_i v;cases A:jb (dz p f) with
  |none=>
   exfalso;apply v;have o:lK (dz p f)=true:=by unfold lK;rw[τ];intro q H;obtain⟨i,B,rfl⟩:=γJ H;have w:=Uo A i B;obtain⟨M,I,_⟩:=DX (b.ok x) b.r (show i<f.length by grind[qK]);rw[bR B] at w M I;rcases(show(dz p f)[i]=0\/(dz p f)[i]=1 by grind) with e|e<;>simp_all
   obtain⟨Y,K⟩:=LK (b.ok x) b.r o;have P:((oh p f).value:Rat)=jO p f:=K;by_cases D:((s.val+1:Int):Rat)<=jO p f
   ·have O:s.val<(oh p f).value:=by
     rw[<-P] at D;have:s.val+1<=(oh p f).value:=by exact_mod_cast D
     omega
    have:(cO p en s f).val=(oh p f).value:=by simp_all[cO,dF]
    grind
   grind;|some k=>
   simp only;obtain⟨j,z,y⟩:=BP A;rw[qK] at j;have m:bN f k.toNat 0=0:=BS (b.ok x) b.r (by omega) z y;have n1:=tD j m (d:=1) (by omega);have n2:=tD j m (d:= -1) (by omega);have W:dT p (f.set k.toNat 1):=b.set (by omega);have Z:dT p (f.set k.toNat (-1)):=b.set (by omega);have V:(jN (cO p en s f) a k).bq.length=s.bq.length+2:=by grind[jN]
   have U:2^(nF f+1)=2^(nF (f.set k.toNat 1)+1)+2^(nF (f.set k.toNat 1)+1):=by grind
   have ne:nF (f.set k.toNat (-1))=nF (f.set k.toNat 1):=by omega
   have Q:2<=2^(nF (f.set k.toNat 1)+1):=by omega
   rw[if_neg (by rw[L];omega)];have S:(jN (cO p en s f) a k).i'=0:=by show(cO p en s f).i'=0;rw[J,t]
   grind
 intro n;induction n with
 |zero=>
  intro s a f b G t u;exact l b t u λ{s a g} _ h _ _=>by omega;|succ n R=>
  intro s a f b G t u;exact l b t u λ{s a g} E N v w=>R E (by omega) v w
def BM (p:iI) (lo:Nat) (Λ:Nat->bH):IR->bF->(bF->Prop)->Prop
 | .skip,b,K=>K b
 | .seq x y,b,K=>wpS p lo x Λ b λc a=>match c with
  | .norm=>BM p lo Λ y a K
  |_=>False
 |_,_,_=>False
def BL (p:iI) (Λ:Nat->bH) (F:eL) (args:List SV) (o:VI) (Q:SV->VI->Prop):Prop:=
 match F.body with
 | .dfr g c d a b=>BM p o.length Λ a ⟨mE 0 args,o⟩ λe=>wpS p e.o.length b Λ ⟨(d,.ud)::e.env,e.o⟩ λi j=>if qe i=true then
   (match p.it g with
    |some G=>if(c.map (i_ e.env)).length=G.params/\G.res.isEmpty=true then wpS p j.o.length G.body (λn=>Λ (1000+n)) ⟨mE 0 (c.map (i_ e.env)),j.o⟩ λf h=>if qe f=true then
      nn ⟨j.env,h.o⟩ F.res λr=>if r.VJ o.length&&h.o.all (λx=>x.VJ o.length)&&decide (o.length<=h.o.length) then Q r (h.o.take o.length) else False
     else False else False
    |none=>False) else False
 |_=>False
section
variable {P:Program} {T:jy} {p:iI} {Λ:Nat->bH}
theorem Uk (i:oK T.K p.C) (j:∀f F,p.it f=some F->T.fn f=some F) {lo:Nat}:∀{a:IR} {st:bF} {K:bF->Prop},BM p lo Λ a st K->∃s0:bF,(∃N,∀n,N<=n->qf (exec T .plain n lo) a st.g=some s0.g)/\K s0:=by
 intro a;induction a with
 |skip=>intro st K h;exact⟨st,⟨0,λ_ _=>rfl⟩,h⟩;|seq x y _ d=>
  intro st K h;simp only[BM] at h;obtain⟨c,s,⟨N,e⟩,r,rfl,b⟩:=tj i j h;cases c with
  |norm=>
   obtain⟨s0,⟨M,m⟩,k⟩:=d b;refine⟨s0,⟨N+M,λn o=>?_⟩,k⟩;simp only[qf,e n n (by omega) (by omega)];grind;|exit q=>exact b.elim;|ret=>exact b.elim;|goto l=>exact b.elim
 |_=>intro st K h;exact h.elim
theorem Uj (J:j7 P T) (u:oK T.K p.C) (n:∀f F,p.it f=some F->T.fn f=some F) {f:FuncId} {F:eL} (S:T.fn f=some F) {args:List SV} {o:VI} {r:AV} {o':a_} (V:T.K f (gL args) (gO o) true=none) (B:args.length=F.params)
  {Q:SV->VI->Prop} (A:∀v s,Q v s->v.g=r/\gO s=o') (h:BL p Λ F args o Q):gv P f=true/\j8 P f (gL args) (gO o) r o':=by
 unfold BL at h;split at h
 ·rename_i g a d ia ib Z;obtain⟨b,h1,h⟩:=Uk u n h;obtain⟨O,U,h2,c,rfl,h⟩:=tj u n h;split at h
  ·rename_i k;split at h
   ·rename_i G hG;split at h
    ·rename_i Y;obtain⟨D,I,h3,i,rfl,h⟩:=tj u n h;split at h
     ·rename_i j;obtain⟨t,k1,m⟩:=wD h;split at m
      ·rename_i y;simp only[ζ,decide_eq_true_eq,τ] at y;obtain⟨⟨a2,L⟩,N⟩:=y;have R:(bF.mk (mE 0 args) o).g=⟨gK 0 (gL args),gO o⟩:=by simp[bF.g,ti]
       have w:(gO o).length=o.length:=nj o;have a1:b.g.o.length=b.o.length:=nj b.o;have a0:c.g.o.length=c.o.length:=nj c.o;have H:a.map (dS b.g.env)=gL (a.map (i_ b.env)):=by rw[fJ,γO];refine γI λx _=>?_;show dS (gE b.env) x=_;grind[yK]
       have z:(bF.mk ((d,.ud)::b.env) b.o).g=⟨(d,.ud)::b.g.env,b.g.o⟩:=by simp[bF.g,gE,ε8]
       have E:(bF.mk (mE 0 (a.map (i_ b.env))) c.o).g=⟨gK 0 (gL (a.map (i_ b.env))),c.g.o⟩:=by simp[bF.g,ti]
       have W:(bF.mk c.env i.o).g=⟨c.g.env,i.g.o⟩:=rfl;have q:∀x∈gO i.o,x.VJ o.length=true:=by grind[gO,Bg]
       have l:finish true (gO o).length t.g i.g.o=some (r,o'):=by simp only[finish,if_true,w];have e:lr o.length t.g i.g.o=some (t.g,(i.g.o).take o.length):=PZ (by grind[yJ]) q (by show o.length<=(gO i.o).length;grind[nj]);rw[e,<-(A _ _ m).1,<-(A _ _ m).2];simp_all[bF.g,gO]
       obtain⟨X,M,_⟩:=Y6 J S Z (own:=true) V (by grind[jv]) (s0:=b.g) (s2:=c.g) (s3:=i.g) (by simp_all) (by simp_all) k (n g G hG) (by grind) Y.2 (by simp_all) j (by simp_all) l;exact⟨X,M⟩
      ·exact m.elim
     ·exact h.elim
    ·exact h.elim
   simp_all
  ·exact h.elim
 simp_all
end
theorem Ui {P:Program} {d:FuncId->Option eL} {L:List NG} {W:List cC} (c:cC) {F:eL} {k:TypeId->Option cj} {e:List Nat×Bool->Option (cj×cj)} {Λ:c.α->Nat->bH}
  (n:j7 P ⟨d,λ_ _ _ _=>none⟩) (i:∀c∈W,dp P c) (o:∀c∈L,Holds P c)
  (l:d c.f=some F) (b:∀a,(c.put a).length=F.params)
  (a:c.α) (m:lS c.f W=none)
  (h:BL (mB L (fH W) k e d) (Λ a) F (c.put a) (c.st a) λv s=>v.bi (c.res a)/\jG s (c.out a)):
  gv P c.f=true/\j8 P c.f (gL (c.put a)) (gO (c.st a)) (c.res a).g (gO (c.out a)):=by refine Uj (p:=mB L (fH W) k e d) (Λ:=Λ a) (Q:=λv s=>v.bi (c.res a)/\jG s (c.out a)) (tg (j6 i) o n) (tf (j6 i)) (λ_ _ h=>h) l ?_ (b a) (λv s j=>⟨j.1,wE j.2⟩) h;simp_all[po,qQ,fH,sL]
theorem Uh {k:Nat} {r a:AV} {o mid o2:a_} (c:r.TL o (λi=>decide (k<=i))=some a) (g:jj o (λi=>decide (k<=i)) o=some mid) (e:fo (λi=>decide (k<=i)) 0 mid=o2) (f:a.VJ k=true) (d:∀x∈o2,x.VJ k=true) (l:k<=o2.length):lr k r o=some (a,o2.take k):=by
 unfold lr;rw[c,g];simp only[e];have m:∀x∈o2.take k,x.VJ k=true:=λx h=>d x (γj h);rw[Pv (by grind[dK,Gv])];have j:ir.aoV (Γ k)=true:=by rw[δH];exact nodup_range'
 rw[if_pos j,Bb f];have b:=Gw (k:=k) (o:=o2) m l (n:=k) (s:=0) (by omega);rw[<-δH,List.drop_zero] at b;rw[b]
def BK (k:Nat) (r:SV) (o:VI) (K:SV->VI->Prop):Prop:=
 kB o k r λb=>nT o k 0 o λa=>if b.VJ k&&a.all (λx=>x.VJ k)&&decide (k<=a.length) then K b (a.take k) else False
theorem Ug {k:Nat} {r:SV} {o:VI} {K:SV->VI->Prop} (h:BK k r o K):∃q o',lr k r.g (gO o)=some (q.g,gO o')/\K q o':=by
 unfold BK at h;obtain⟨l,p,f⟩:=G4 h;obtain⟨c,i,n,m,a⟩:=wx f;split at a
 next b=>simp only[ζ,decide_eq_true_eq,τ] at b;obtain⟨⟨d,j⟩,e⟩:=b;refine⟨l,c.take k,?_,a⟩;simp_all[Uh,yJ,gO,Bg]
 simp_all
def BJ (p:iI) (Λ:Nat->bH) (F:eL) (args:List SV) (o:VI) (Q:SV->VI->Prop):Prop:=
 wpS p o.length F.body Λ ⟨mE 0 args,o⟩ λa b=>match a with
  | .exit _=>False
  | .goto _=>False
  |_=>nn b F.res λr=>BK o.length r b.o Q
theorem Uf {P:Program} {T:jy} {p:iI} {Λ:Nat->bH} (A:j7 P T) (t:oK T.K p.C) (y:∀f F,p.it f=some F->T.fn f=some F) {f:FuncId} {F:eL} (n:T.fn f=some F) {args:List SV} {o:VI} {r:AV} {o':a_} (z:T.K f (gL args) (gO o) true=none) (j:args.length=F.params)
  {Q:SV->VI->Prop} (D:∀v s,Q v s->v.g=r/\gO s=o') (h:BJ p Λ F args o Q):gv P f=true/\j8 P f (gL args) (gO o) r o':=by
 unfold BJ at h;have e:=tj t y h;have d:(bF.mk (mE 0 args) o).g=⟨gK 0 (gL args),gO o⟩:=by simp[bF.g,ti]
 rw[d] at e;have i:(gO o).length=o.length:=nj o;rw[<-i] at e;have x:∀(a:bF),(nn a F.res λv=>BK (gO o).length v a.o Q)->(nv a.g F.res).bind (λc=>finish true (gO o).length c a.g.o)=some (r,o'):=by intro a m;obtain⟨c,k,l⟩:=wD m;obtain⟨u,q,w,E⟩:=Ug l;rw[k];simp only[Option.bind_some,finish,if_true];have:lr (gO o).length c.g a.g.o=some (u.g,gO q):=w;grind
 obtain⟨k,l,_⟩:=Bq A n (o:=gO o) (own:=true) z (by grind[jv]) (v:=r) (o':=o') (e.mono λb s B=>by obtain⟨a,rfl,m⟩:=B;cases b<;>simp_all);simp_all
theorem UW {P:Program} {d:FuncId->Option eL} {L:List NG} {W:List cC} (c:cC) {F:eL} {k:TypeId->Option cj} {e:List Nat×Bool->Option (cj×cj)} {Λ:c.α->Nat->bH}
  (n:j7 P ⟨d,λ_ _ _ _=>none⟩) (i:∀c∈W,dp P c) (o:∀c∈L,Holds P c)
  (l:d c.f=some F) (b:∀a,(c.put a).length=F.params)
  (a:c.α) (m:lS c.f W=none)
  (h:BJ (mB L (fH W) k e d) (Λ a) F (c.put a) (c.st a) λv s=>v.bi (c.res a)/\jG s (c.out a)):
  gv P c.f=true/\j8 P c.f (gL (c.put a)) (gO (c.st a)) (c.res a).g (gO (c.out a)):=by refine Uf (p:=mB L (fH W) k e d) (Λ:=Λ a) (Q:=λv s=>v.bi (c.res a)/\jG s (c.out a)) (tg (j6 i) o n) (tf (j6 i)) (λ_ _ h=>h) l ?_ (b a) (λv s j=>⟨j.1,wE j.2⟩) h;simp_all[po,qQ,fH,sL]
structure cV where
 p:ew
 ch:List Int
 val:Int
 bp:Bool
 en:Option Int
 k1:Nat
 k2:Nat
 bz:Int
 i':Int
 bq:List cA
 fx:List Int
def cV.cs (x:cV) (e:SV) (i j:Nat):List SV:=[.row (.i .i64) x.ch,.si .i64 x.val,.sb x.bp,e,.ow i x.k1 5,.ow j x.k2 1,.si .i64 x.bz,.si .i64 x.i']
def cV.vD (x:cV):VI:=[.cells (x.p.ss++x.cs (.fn (.func 70) [] []) 1 2) 126 28 false,.row Ap x.bq 108 true,.row (.i .i64) x.fx 3 true]
def cV.vC (x:cV) (m:Int):VI:=[.cells (x.p.ss++x.cs (.fn (.func 116) [] [.ptr 1 0 1]) 2 3) 126 28 false,.cells [.si .i64 m] 2 1 false,.row Ap x.bq 108 true,.row (.i .i64) x.fx 3 true]
def cV.gh (x:cV):VI:=match x.en with
 |none=>x.vD
 |some m=>x.vC m
def DS:VI->Option cV
 |[.cells cs 126 28 false,.row s1 l1 108 true,.row s2 l2 3 true]=>match cs.drop 20 with
  |[c,v,b,.fn (.func 70) [] [],.ow 1 k1 5,.ow 2 k2 1,a,d]=>match sM (cs.take 20),fZ (.i .i64) c,v.int .i64,b.pQ,a.int .i64,d.int .i64 with
   |some p,some c,some v,some b,some a,some d=>match gX s1 Ap l1,gX s2 (.i .i64) l2 with
    |some l1,some l2=>some ⟨p,c,v,b,none,k1,k2,a,d,l1,l2⟩
    |_,_=>none
   |_,_,_,_,_,_=>none
  |_=>none
 |[.cells cs 126 28 false,.cells [m] 2 1 false,.row s1 l1 108 true,.row s2 l2 3 true]=>match cs.drop 20 with
  |[c,v,b,.fn (.func 116) [] [.ptr 1 0 1],.ow 2 k1 5,.ow 3 k2 1,a,d]=>match sM (cs.take 20),fZ (.i .i64) c,v.int .i64,b.pQ,a.int .i64,d.int .i64 with
   |some p,some c,some v,some b,some a,some d=>match gX s1 Ap l1,gX s2 (.i .i64) l2,m.int .i64 with
    |some l1,some l2,some m=>some ⟨p,c,v,b,some m,k1,k2,a,d,l1,l2⟩
    |_,_,_=>none
   |_,_,_,_,_,_=>none
  |_=>none
 |_=>none
theorem UV {o:VI} {x:cV} (h:DS o=some x):gO o=gO x.gh:=by
 unfold DS at h;split at h
 ·rename_i cs s1 l1 s2 l2;split at h
  ·rename_i c v b k1 k2 a l d;split at h
   ·rename_i p y v' z s w h1 k j i f e;split at h
    ·rename_i u t g1 g2;simp only[γ] at h;subst h;obtain⟨rfl,r⟩:=lU g1;obtain⟨rfl,q⟩:=lU g2;cases r;cases q;have n:gL cs=gL p.ss++gL [c,v,b,.fn (.func 70) [] [],.ow 1 k1 5,.ow 2 k2 1,a,l]:=by rw[<-d,<-wB h1,<-sO,γS]
     simp only[cV.gh,cV.vD,cV.cs,gO,ν,γv,iZ.g,sO,n];simp only[gL,jF k,iq j,uq i,iq f,iq e,ε8]
    ·cases h
   ·cases h
  ·cases h
 ·rename_i cs m s1 l1 s2 l2;split at h
  ·rename_i c v b k1 k2 a l d;split at h
   ·rename_i p y v' z s w h1 k j i f e;split at h
    ·rename_i u t A g1 g2 g3;simp only[γ] at h;subst h;obtain⟨rfl,r⟩:=lU g1;obtain⟨rfl,q⟩:=lU g2;cases r;cases q;have n:gL cs=gL p.ss++gL [c,v,b,.fn (.func 116) [] [.ptr 1 0 1],.ow 2 k1 5,.ow 3 k2 1,a,l]:=by rw[<-d,<-wB h1,<-sO,γS]
     simp only[cV.gh,cV.vC,cV.cs,gO,ν,γv,iZ.g,sO,n];simp only[gL,jF k,iq j,uq i,iq f,iq e,iq g3,ε8]
    ·cases h
   ·cases h
  ·cases h
 ·cases h
theorem UU {p q:ew} (h:gL p.ss=gL q.ss):p=q:=cI.inj p q (by grind[cI,ε8])
theorem UT {x y:cV} (h:gO x.gh=gO y.gh):x=y:=by
 obtain⟨p,E,u,b,J,H,G,k,o,A,L⟩:=x;obtain⟨B,n,d,a,l,r,v,c,f,q,C⟩:=y;have w:∀{e I:SV} {i j:Nat},gL (p.ss++(cV.mk p E u b J H G k o A L).cs e i j)=gL (B.ss++(cV.mk B n d a l r v c f q C).cs I i j)->p=B/\E=n/\u=d/\b=a/\H=r/\G=v/\k=c/\o=f:=by intro e I i j h;rw[sO,sO] at h;obtain⟨z,t⟩:=εM h (by rw[jv,jv];rfl);simp only[cV.cs,gL,ε8,χ,δa,Value.int.injEq,Value.bool.injEq,εH,δ9,and_true,true_and] at t;grind[UU,nJ]
 cases J with
 |none=>
  cases l with
  |none=>
   simp only[cV.gh,cV.vD,gO,ν,γv,iZ.g,χ,OL.cells.injEq,and_true] at h;obtain⟨z,t,D⟩:=h;obtain⟨rfl,rfl,rfl,rfl,rfl,rfl,rfl,rfl⟩:=w z;rw[nJ (s:=Ap) t,nJ (s:=.i .i64) D];|some K=>
   have:=congrArg γf h;simp_all[cV.gh,cV.vD,cV.vC,gO]
 |some m=>
  cases l with
  |none=>
   have:=congrArg γf h;simp_all[cV.gh,cV.vD,cV.vC,gO];|some K=>
   simp only[cV.gh,cV.vC,gO,ν,γv,iZ.g,χ,OL.cells.injEq,and_true] at h;obtain⟨z,F,t,D⟩:=h;obtain⟨rfl,rfl,rfl,rfl,rfl,rfl,rfl,rfl⟩:=w z;simp only[gL,ε8,χ,δa,Value.int.injEq,and_true,true_and] at F;subst F;rw[nJ (s:=Ap) t,nJ (s:=.i .i64) D]
def BI (f:FuncId) (c:Type) (A:oJ c) (i:cV->c->Prop) (e:cV->c->SV) (out:cV->c->cV):cC where
 f:=f;α:=cV×c;put a:=.ptr 0 0 28::A.put a.2;st a:=a.1.gh;dec v o:=match v with
  | .ptr 0 0 28::r=>match DS o,A.dec r with
   |some s,some b=>some (s,b)
   |_,_=>none
  |_=>none;ok v o a h:=by
  split at h
  ·split at h
   next d g=>simp only[γ] at h;subst h;exact⟨by simp only[gL,A.ok _ _ g],UV d⟩
   ·cases h
  ·cases h
 inj a b d g:=by simp only[gL,χ,true_and] at d;exact εD (UT g) (A.inj _ _ d)
 dom a:=i a.1 a.2;res a:=e a.1 a.2;out a:=(out a.1 a.2).gh
def bW (e:Option Int) (v:Int):Bool:=match e with
 |none=>false
 |some m=>decide (m<=v)
def cV.s (x:cV):cu:=⟨x.ch,x.val,x.bp,x.bq,x.i'⟩
def cV.kj (x:cV) (s:cu):cV:=⟨x.p,s.ch,s.val,s.bp,x.en,s.bq.length,x.k2,x.bz,s.i',s.bq,x.fx⟩
structure fQ (x:cV):Prop where
 f:dT x.p x.fx
 k1:x.k1=x.bq.length
 k2:x.k2=x.fx.length
 v0:0<=x.val
 v1:x.val<=9223372036854775806
 m0:1<=x.bz
 m1:x.bz<=65536
 l:x.bq.length<=65536
 c:x.ch.length<=9223372036854775807
def DR:cC where
 f:=70;α:=bC;put a:=[mA.put a];st _:=[];dec v o:=match v,o with
  |[a],[]=>mA.dec a
  |_,_=>none;ok v o a h:=by
  split at h;·exact⟨by simp only[gL,mA.ok _ _ h],rfl⟩
  ·cases h
 inj a b h1 _:=by simp only[gL,χ,and_true] at h1;exact mA.inj _ _ h1
 dom _:=True;res _:=.sb false;out _:=[]
theorem IV:g' DR:=by refine jE (L:=[]) (W:=[]) DR lk (by simp) (by simp) ?_;rintro(a:bC) -;refine NI ((δb false).bi (γA false)/\True) (by kernel_rfl) ?_;simp_all
def DQ:cC where
 f:=116;α:=bC×Int;put a:=[mA.put a.1,.ptr 0 0 1];st a:=[.cells [.si .i64 a.2] 2 1 false];dec v o:=match v,o with
  |[a,.ptr 0 0 1],[.cells [m] 2 1 false]=>match mA.dec a,m.int .i64 with
   |some a,some m=>some (a,m)
   |_,_=>none
  |_,_=>none;ok v o a h:=by
  split at h
  ·split at h
   next h1 c=>simp only[γ] at h;subst h;exact⟨by simp only[gL,mA.ok _ _ h1],by simp only[gO,ν,γv,iZ.g,gL,iq c,ε8]⟩
   ·cases h
  ·cases h
 inj a b h1 c:=by simp only[gL,χ,and_true] at h1;simp only[gO,ν,γv,iZ.g,gL,ε8,χ,OL.cells.injEq,δa,Value.int.injEq,and_true,true_and] at c;exact εD (mA.inj _ _ h1) c
 dom _:=True;res a:=.sb (decide (a.2<=a.1.value));out a:=[.cells [.si .i64 a.2] 2 1 false]
theorem IU:g' DQ:=by
 refine jE (L:=[]) (W:=[]) DQ lk (by simp) (by simp) ?_;rintro⟨a,m⟩ -;refine NI (let b:=iZ.cells [γc .i64 m] 2 1 false;(γA (decide (m<=a.value))).bi (γA (decide (m<=a.value)))/\b.bi b/\True) (by kernel_rfl) ?_;conv=>zeta
 exact⟨rfl,rfl,trivial⟩
def xD:cC:=BI 71 bC (.one mA) (λx _=>x.k1=x.bq.length) (λ_ _=> .IL []) λx a=>x.kj (dF (bW x.en) x.s a)
theorem uE:g' xD:=by
 refine jE (L:=[]) (W:=[DR,DQ]) xD lk (by simpa using⟨IV,IU⟩) (by simp) ?_;rintro⟨⟨p,ch,val,bp,en,k1,k2,bz,i',bq,fx⟩,a⟩ hk;have hk:k1=bq.length:=hk;subst hk;have T:∀en:Int->Bool,val<a.value->dF en ⟨ch,val,bp,bq,i'⟩ a=⟨a.bn,a.value,bp||en a.value,bq,i'⟩:=λen h=>if_pos h;have S:∀en:Int->Bool,¬val<a.value->dF en ⟨ch,val,bp,bq,i'⟩ a=⟨ch,val,bp,bq,i'⟩:=λen h=>if_neg h;cases en with
 |none=>
  refine NI (let b:=γc .i64;let c:=iZ.row;let d:=iZ.cells;let e:=Ω;let f:=SV.IL;let k:=b p.bm.a0;let l:=b p.bm.a1;let m:=b p.bm.a2;let n:=b p.bm.a3;let o:=b p.bm.a4;let q:=b p.bm.a5;let r:=b p.bs.a0;let s:=b p.bs.a1;let t:=b p.bs.a2;let v:=b p.bs.a3;let w:=b p.bs.a4;let x:=b p.bs.a5;let y:=b p.bt.a0;let z:=b p.bt.a1;let A:=b p.bt.a2;let B:=b p.bt.a3;let C:=b p.bt.a4;let D:=b p.bt.a5;let h:=cj.i .i64;let E:=e h p.bk;let F:=e cj.bu p.bj;let G:=SV.fn (Fn.func 70) [] [];let H:=γZ 2 k2 1;let I:=b bz;let J:=[G,γZ 1 bq.length 5,H,I,b i'];let g:=dF (bW none) (cu.mk ch val bp bq i') a;let K:=d [k,l,m,n,o,q,r,s,t,v,w,x,y,z,A,B,C,D,E,F,e h g.ch,b g.val,γA g.bp,G,γZ 1 g.bq.length 5,H,I,b g.i'] 126 28 false;let j:=c h fx 3 true;let L:=decide (val<a.value);let M:=λ(u R:Bool) (Q:List Int) (P:Int) (O:SV) ↦u=R->(f []).bi (f [])/\(d (k::l::m::n::o::q::r::s::t::v::w::x::y::z::A::B::C::D::E::F::e h Q::b P::O::J) 126 28 false).bi K/\(c Ap bq 108 true).bi (c Ap g.bq 108 true)/\j.bi j/\True;(L=true->M bp true a.bn a.value (δb true)/\(bp=false->True/\(f []).bi (f [])/\(d (k::l::m::n::o::q::r::s::t::v::w::x::y::z::A::B::C::D::E::F::e h a.bn::b a.value::γA false::J) 126 28 false).bi K/\(c Ap bq 108 true).bi (c Ap g.bq 108 true)/\j.bi j/\True))/\M L false ch val (γA bp)) (by kernel_rfl) ?_;conv=>zeta
  refine⟨λh=>?_,λh=>?_⟩
  ·simp only[T _ (of_decide_eq_true h)];refine⟨λN=>?_,λN=>?_⟩
   ·subst N;exact⟨rfl,rfl,rfl,rfl,trivial⟩
   ·subst N;exact⟨trivial,rfl,rfl,rfl,rfl,trivial⟩
  ·simp only[S _ (of_decide_eq_false h)];exact⟨rfl,rfl,rfl,rfl,trivial⟩;|some m=>
  refine NI (let b:=γc .i64;let c:=cj.i .i64;let d:=iZ.cells;let e:=Ω;let f:=iZ.row;let g:=γZ;let h:=γM;let j:=SV.IL;let k:=γA;(decide (val<a.value)=true->(bp=true->(j []).bi (j [])/\(d [b p.bm.a0,b p.bm.a1,b p.bm.a2,b p.bm.a3,b p.bm.a4,b p.bm.a5,b p.bs.a0,b p.bs.a1,b p.bs.a2,b p.bs.a3,b p.bs.a4,b p.bs.a5,b p.bt.a0,b p.bt.a1,b p.bt.a2,b p.bt.a3,b p.bt.a4,b p.bt.a5,e (c) p.bk,e cj.bu p.bj,e (c) a.bn,b a.value,δb true,SV.fn (Fn.func 116) [] [h 1 0 1],g 2 bq.length 5,g 3 k2 1,b bz,b i'] 126 28 false).bi (d [b p.bm.a0,b p.bm.a1,b p.bm.a2,b p.bm.a3,b p.bm.a4,b p.bm.a5,b p.bs.a0,b p.bs.a1,b p.bs.a2,b p.bs.a3,b p.bs.a4,b p.bs.a5,b p.bt.a0,b p.bt.a1,b p.bt.a2,b p.bt.a3,b p.bt.a4,b p.bt.a5,e (c) p.bk,e cj.bu p.bj,e (c) (dF (bW (some m)) (cu.mk ch val bp bq i') a).ch,b (dF (bW (some m)) (cu.mk ch val bp bq i') a).val,k (dF (bW (some m)) (cu.mk ch val bp bq i') a).bp,SV.fn (Fn.func 116) [] [h 1 0 1],g 2 (dF (bW (some m)) (cu.mk ch val bp bq i') a).bq.length 5,g 3 k2 1,b bz,b (dF (bW (some m)) (cu.mk ch val bp bq i') a).i'] 126 28 false)/\(d [b m] 2 1 false).bi (d [b m] 2 1 false)/\(f Ap bq 108 true).bi (f Ap (dF (bW (some m)) (cu.mk ch val bp bq i') a).bq 108 true)/\(f (c) fx 3 true).bi (f (c) fx 3 true)/\True)/\(bp=false->True/\(j []).bi (j [])/\(d [b p.bm.a0,b p.bm.a1,b p.bm.a2,b p.bm.a3,b p.bm.a4,b p.bm.a5,b p.bs.a0,b p.bs.a1,b p.bs.a2,b p.bs.a3,b p.bs.a4,b p.bs.a5,b p.bt.a0,b p.bt.a1,b p.bt.a2,b p.bt.a3,b p.bt.a4,b p.bt.a5,e (c) p.bk,e cj.bu p.bj,e (c) a.bn,b a.value,k (decide (m<=a.value)),SV.fn (Fn.func 116) [] [h 1 0 1],g 2 bq.length 5,g 3 k2 1,b bz,b i'] 126 28 false).bi (d [b p.bm.a0,b p.bm.a1,b p.bm.a2,b p.bm.a3,b p.bm.a4,b p.bm.a5,b p.bs.a0,b p.bs.a1,b p.bs.a2,b p.bs.a3,b p.bs.a4,b p.bs.a5,b p.bt.a0,b p.bt.a1,b p.bt.a2,b p.bt.a3,b p.bt.a4,b p.bt.a5,e (c) p.bk,e cj.bu p.bj,e (c) (dF (bW (some m)) (cu.mk ch val bp bq i') a).ch,b (dF (bW (some m)) (cu.mk ch val bp bq i') a).val,k (dF (bW (some m)) (cu.mk ch val bp bq i') a).bp,SV.fn (Fn.func 116) [] [h 1 0 1],g 2 (dF (bW (some m)) (cu.mk ch val bp bq i') a).bq.length 5,g 3 k2 1,b bz,b (dF (bW (some m)) (cu.mk ch val bp bq i') a).i'] 126 28 false)/\(d [b m] 2 1 false).bi (d [b m] 2 1 false)/\(f Ap bq 108 true).bi (f Ap (dF (bW (some m)) (cu.mk ch val bp bq i') a).bq 108 true)/\(f (c) fx 3 true).bi (f (c) fx 3 true)/\True))/\(decide (val<a.value)=false->(j []).bi (j [])/\(d [b p.bm.a0,b p.bm.a1,b p.bm.a2,b p.bm.a3,b p.bm.a4,b p.bm.a5,b p.bs.a0,b p.bs.a1,b p.bs.a2,b p.bs.a3,b p.bs.a4,b p.bs.a5,b p.bt.a0,b p.bt.a1,b p.bt.a2,b p.bt.a3,b p.bt.a4,b p.bt.a5,e (c) p.bk,e cj.bu p.bj,e (c) ch,b val,k bp,SV.fn (Fn.func 116) [] [h 1 0 1],g 2 bq.length 5,g 3 k2 1,b bz,b i'] 126 28 false).bi (d [b p.bm.a0,b p.bm.a1,b p.bm.a2,b p.bm.a3,b p.bm.a4,b p.bm.a5,b p.bs.a0,b p.bs.a1,b p.bs.a2,b p.bs.a3,b p.bs.a4,b p.bs.a5,b p.bt.a0,b p.bt.a1,b p.bt.a2,b p.bt.a3,b p.bt.a4,b p.bt.a5,e (c) p.bk,e cj.bu p.bj,e (c) (dF (bW (some m)) (cu.mk ch val bp bq i') a).ch,b (dF (bW (some m)) (cu.mk ch val bp bq i') a).val,k (dF (bW (some m)) (cu.mk ch val bp bq i') a).bp,SV.fn (Fn.func 116) [] [h 1 0 1],g 2 (dF (bW (some m)) (cu.mk ch val bp bq i') a).bq.length 5,g 3 k2 1,b bz,b (dF (bW (some m)) (cu.mk ch val bp bq i') a).i'] 126 28 false)/\(d [b m] 2 1 false).bi (d [b m] 2 1 false)/\(f Ap bq 108 true).bi (f Ap (dF (bW (some m)) (cu.mk ch val bp bq i') a).bq 108 true)/\(f (c) fx 3 true).bi (f (c) fx 3 true)/\True)) (by kernel_rfl) ?_;refine⟨λh=>?_,λh=>?_⟩
  ·simp only[T _ (of_decide_eq_true h)];refine⟨λN=>?_,λN=>?_⟩
   ·subst N;exact⟨rfl,rfl,rfl,rfl,rfl,trivial⟩
   ·subst N;exact⟨trivial,rfl,rfl,rfl,rfl,rfl,trivial⟩
  ·simp only[S _ (of_decide_eq_false h)];exact⟨rfl,rfl,rfl,rfl,rfl,trivial⟩
theorem BH {a b:oz} (h:∀k,k<6->a.at k<=b.at k):a.le b=true:=by have i:=h 0 (by omega);have c:=h 1 (by omega);have d:=h 2 (by omega);have f:=h 3 (by omega);have g:=h 4 (by omega);have e:=h 5 (by omega);simp_all[oz.at,bN,oz.le_iff]
theorem US {p:ew} {L:List bA} (d:(L.map bA.Gz).Nodup) (c:fz p L=true):fS p L:=by
 refine⟨d,BH λk a=>?_,BH λk a=>?_⟩
 ·have h:=nS.1 c (p.bk.length+k) (by grind[cr]);rw[show(((p.bk.length+k:Nat)):Int)=p.bk.length+k by omega,Nt a] at h;rw[mw,γO];have:bZ p L (p.bk.length+k)=(L.map ((λb=>oz.at b k)∘bA.bx)).sum:=by unfold bZ;congr 1;simp_all[Nv]
  omega
 ·have h:=nS.1 c (p.bk.length+6+k) (by grind[cr]);rw[show(((p.bk.length+6+k:Nat)):Int)=p.bk.length+6+k by omega,Ns a] at h;rw[mw,γO];have:bZ p L (p.bk.length+6+k)=(L.map ((λb=>oz.at b k)∘dD p)).sum:=by unfold bZ;congr 1;simp_all[Nu]
  omega
theorem Ly {l:List bA}:∀{t:List Int} {a:Int} {r:List bA}, -1<=a->dG l a t=some r->t.Pairwise (·<·)/\∀j∈t,a<j/\j<l.length
 |[],_,_,_,_=>by simp;|i::t,a,r,g,h=>by
  simp only[dG] at h;split at h;·cases h
  next k=>obtain⟨f,d,rfl⟩:=ε.1 h;obtain⟨e,c⟩:=Ly (by omega) d;refine⟨γp.2 ⟨λj b=>(c j b).1,e⟩,λj b=>?_⟩;grind
def og (p:ew) (t:List Int):Prop:=my 0 p.bj.length t/\fS p (VK p t)
theorem vB {p:ew} (c:nW p=0) {t:List Int}:cq p t=0↔og p t:=by
 refine⟨λh=>?_,λh=>No c h.1 h.2⟩;have e:=YA h;obtain⟨i,a,l,m,o⟩:=FL h;obtain⟨r,d⟩:=Option.isSome_iff_exists.1 a;obtain⟨f,g⟩:=Ly (by omega) d;have n:cK p t=VK p t:=by grind[cK,zL]
 have b:fz p (VK p t)=true:=by simp_all[cq]
 exact⟨⟨f,λj k=>by simp_all⟩,US e b⟩
theorem UR {p:ew} (a:Good p):og p []:=⟨⟨by simp,by simp⟩,of_decide_eq_true (O4 a)⟩
theorem DP {p:ew} (a:nW p=0) {t:List Int} (h:og p t):dA p t=bE (VK p t):=by grind[vB,YB,yu,zM]
theorem UQ {p:ew} (c:nW p=0) {L:List bA} (b:fS p L) (d:∀x∈L,x∈p.bj):bE L<=lh p (allM p):=by have a:=cT c;have f:=wW a.1;rw[Nk c (m:=allM p) (by grind[allM]) (by grind[allM])];refine zR a ⟨b.1,λx e=>?_,b.2.1,b.2.2⟩;have:=a.2.2.2.2 x (d x e);grind[Xb]
theorem UP {p:ew} (c:nW p=0):∃L,fS p L/\(∀x∈L,x∈p.bj)/\bE L=lh p (allM p):=by have a:=cT c;have f:=wW a.1;rw[Nk c (m:=allM p) (by grind[allM]) (by grind[allM])];have h:=oz.fA.1 a.2.2.1;have g:=oz.fA.1 a.2.2.2.1;obtain⟨L,b,e⟩:=zQ a (O0 (allM p)) (l:=p.bm) (o:=p.bs) (by grind[oz.le_iff,oz.zero]) (by grind[oz.le_iff,oz.zero]);exact⟨L,⟨b.nd,b.w,b.o⟩,λx d=>(b.mem x d).1,e⟩
def gB (p:ew):List Int:=δ p.bj.length 0
theorem vA {n:Nat}:nF (δ n 0)=n:=by
 have e:Ao (δ n 0) 0=bL n:=by simp_all[Ao,ik,bR]
 grind[fj]
theorem mZ {p:ew} (a:nW p=0):dT p (gB p) where
 c:=a;l:=γD;r:=by unfold jg;rw[τ];intro x b;rw[List.eq_of_mem_replicate b];decide
def ke (p:ew) (c:List Int):cu:=dF (bW none) (dF (bW none) ⟨c,dA p c,false,[zN],0⟩ (fY p c)) (fY p (ju p))
noncomputable def gR (p:ew) (c:List Int) (a:Int):cu:=dc p (bW none) a p.bj.length (ke p c) 0 (gB p)
noncomputable def jM (p:ew) (c:List Int) (a:Int):Int:=if cq p c≠0 then cq p c else if a<1\/65536<a then 4 else(gR p c a).i'
def kd (p:ew) (m:Int):cu:=dF (bW (some m)) ⟨[],m - 1,false,[zN],0⟩ (fY p (ju p))
noncomputable def fy (p:ew) (m a:Int):cu:=dc p (bW (some m)) a p.bj.length (kd p m) 0 (gB p)
noncomputable def iB (p:ew) (m a:Int):Int:=if nW p≠0 then nW p else if a<1\/65536<a then 4 else if m<=0 then 0 else if(fy p m a).bp=true then 0 else(fy p m a).i'
noncomputable def jr (p:ew) (m a:Int):Bool:=decide (iB p m a=0)&&(decide (m<=0)||(fy p m a).bp)
noncomputable def mY (p:ew) (m a:Int):bC:=if jr p m a=true/\0<m then⟨(fy p m a).ch,(fy p m a).val⟩ else⟨[],0⟩
theorem Lx {p:ew} (a:nW p=0) {t:List Int} (h:cq p t=0):dA p t<=(Oq p).value:=by have b:=(vB a).1 h;obtain⟨_,d⟩:=rT h;have c:=yV (cT a) b.1 (decide_eq_true b.2);rw[vE a d];exact c
theorem Lw {p:ew} (a:nW p=0):∃t,cq p t=0/\dA p t=(Oq p).value:=by obtain⟨t,c,f,e⟩:=FG (cT a);have b:cq p t=0:=(vB a).2 ⟨c,of_decide_eq_true f⟩;obtain⟨_,d⟩:=rT b;refine⟨t,b,?_⟩;rw[vE a d,e];rfl
theorem UO {p:ew} {l:List Int} (h:dm p.bj.length l):BN (gB p) l:=by
 have b:∀i:Int,0<=i/\i<p.bj.length->bN (gB p) i.toNat 0=0:=λi a=>by grind[gB,bR]
 refine⟨λi a=>by rw[b i (h.2 i a)];omega,λi a=>?_⟩;grind[kf,gB]
theorem Lv {p:ew} {v:Int} {t:List cA} {a lo f:Nat} (b:nW p=0) (h:iC p v t a (gB p) lo f):(Oq p).value<=v:=by obtain⟨l,d,e⟩:=Lw b;obtain⟨_,c⟩:=rT d;rw[<-e,vE b c];exact h.sound (mZ b) c ((DT b c).1 d) (UO c)
theorem vz {en:Int->Bool} {G:List Int->Int->Bool->Prop} {p:ew} (h:∀c w b d w',G c w b->cq p d=0->dA p d=w'->w<w'->G d w' (b||en w')) {s:cu} {a:bC} (e:G s.ch s.val s.bp) (f:cq p a.bn=0) (g:dA p a.bn=a.value):G (dF en s a).ch (dF en s a).val (dF en s a).bp:=by grind[dF]
theorem vy {p:ew} (a:nW p=0):cq p (fY p (ju p)).bn=0/\dA p (fY p (ju p)).bn=(fY p (ju p)).value:=by simp_all[Ey,MH]
theorem DO {p:ew} (d:nW p=0) {c:List Int} (h:cq p c=0) {bz:Int} {G:List Int->Int->Bool->Prop} (a:∀c w b e w',G c w b->cq p e=0->dA p e=w'->w<w'->G e w' (b||bW none w')) (i:G c (dA p c) false):G (gR p c bz).ch (gR p c bz).val (gR p c bz).bp:=by have f:=Ey d h;have g:=vy d;exact LA a (mZ d) (vz a (vz a i f.2.1 f.2.2.1) g.1 g.2)
theorem DN {p:ew} {c:List Int}:(ke p c).bq=[zN]/\(ke p c).i'=0/\dA p c<=(ke p c).val:=by grind[ke,dF]
theorem DM {p:ew} (d:nW p=0) {c:List Int} (i:cq p c=0) {bz:Int} (C:1<=bz):
  ((gR p c bz).i'=0\/(gR p c bz).i'=12)/\((gR p c bz).i'=0->(cq p (gR p c bz).ch=0/\dA p (gR p c bz).ch=(gR p c bz).val)/\(gR p c bz).val=(Oq p).value/\(gR p c bz).bq.length<=bz/\iC p (Oq p).value (gR p c bz).bq 0 (gB p) 1 (gR p c bz).bq.length/\(dA p c=(Oq p).value->(gR p c bz).ch=c))/\
   (((1+2^(p.bj.length+1):Nat):Int)<=bz+2->(gR p c bz).i'=0):=by
 obtain⟨y,l,A⟩:=@DN p c;have t:(ke p c).bq.length=1:=by rw[y];rfl
 have q:=@xE p (bW none) bz p.bj.length (ke p c) 0 (gB p) (mZ d);have j:(gR p c bz).bp=false:=by refine(DO d i (bz:=bz) (G:=λ_ _ b=>b=false) (λc w b g o h _ _ _=>?_) rfl);rw[h];rfl
 refine⟨?_,λx=>?_,λB=>?_⟩
 ·have:=q.2.2.2.2.2;rw[l] at this;exact this
 ·have v:=DO d i (bz:=bz) (G:=λc w _=>cq p c=0/\dA p c=w) (λc w b g o _ k m _=>⟨k,m⟩) ⟨i,rfl⟩;have u:=DO d i (bz:=bz) (G:=λg w _=>dA p c<=w/\(w=dA p c->g=c)) (λD w b g o h _ _ r=>⟨by omega,λe=>by omega⟩) ⟨εk _,λ_=>rfl⟩;have z:=LB (p:=p) (en:=bW none) (bz:=bz) (n:=p.bj.length) (s:=ke p c) (a:=0) (mZ d) (by show nF (δ _ 0)<=_;grind[vA]) (by rw[t];omega) x j;have k:=Lv d z.1;have m:=Lx d v.1;grind[gR]
 ·refine(Lz (p:=p) (en:=bW none) (bz:=bz) (n:=p.bj.length) (s:=ke p c) (a:=0) (f:=gB p) (mZ d) ?_ l ?_).1;all_goals simp_all[vA,gB]
theorem UN {p:ew} (i:nW p=0) {m bz:Int}:((fy p m bz).bp=false->(fy p m bz).ch=[]/\(fy p m bz).val=m - 1)/\((fy p m bz).bp=true->cq p (fy p m bz).ch=0/\dA p (fy p m bz).ch=(fy p m bz).val/\m<=(fy p m bz).val):=by
 have j:=vy i;have g:∀(c:List Int) (w:Int) (b:Bool) (e:List Int) (d:Int),((m - 1<=w)/\(b=false->c=[]/\w=m - 1)/\(b=true->cq p c=0/\dA p c=w/\m<=w))->cq p e=0->dA p e=d->w<d->((m - 1<=d)/\((b||bW (some m) d)=false->e=[]/\d=m - 1)/\((b||bW (some m) d)=true->cq p e=0/\dA p e=d/\m<=d)):=by
  intro c w b e d h l q k;have o:bW (some m) d=true:=by show decide (m<=d)=true;grind
  grind
 have:=LA (p:=p) (en:=bW (some m)) (bz:=bz) g (n:=p.bj.length) (s:=kd p m) (a:=0) (f:=gB p) (mZ i) (vz g (s:=⟨[],m - 1,false,[zN],0⟩) ⟨εk _,λ_=>⟨rfl,rfl⟩,(λh=>by cases h)⟩ j.1 j.2);exact this.2
theorem DL {p:ew} {m:Int}:(kd p m).bq=[zN]/\(kd p m).i'=0:=by grind[kd,DU]
theorem Lu {p:ew} (b:nW p=0) {m bz:Int}:
  ((fy p m bz).i'=0\/(fy p m bz).i'=12)/\((fy p m bz).bp=true->m<=(Oq p).value)/\((fy p m bz).bp=false->(fy p m bz).i'=0->(Oq p).value<m)/\
   (((1+2^(p.bj.length+1):Nat):Int)<=bz+2->(fy p m bz).i'=0):=by
 obtain⟨i,d⟩:=@DL p m;have h:(kd p m).bq.length=1:=by rw[i];rfl
 have g:=@xE p (bW (some m)) bz p.bj.length (kd p m) 0 (gB p) (mZ b);obtain⟨r,l⟩:=@UN p b m bz;refine⟨?_,λc=>?_,λc k=>?_,λo=>?_⟩
 ·have:=g.2.2.2.2.2;rw[d] at this;exact this
 ·obtain⟨e,q,t⟩:=l c;have:=Lx b e;omega
 ·have j:=LB (p:=p) (en:=bW (some m)) (bz:=bz) (n:=p.bj.length) (s:=kd p m) (a:=0) (mZ b) (by show nF (δ _ 0)<=_;grind[vA]) (by rw[h];omega) k c;have e:(Oq p).value<=(fy p m bz).val:=Lv b j.1;grind
 ·refine(Lz (p:=p) (en:=bW (some m)) (bz:=bz) (n:=p.bj.length) (s:=kd p m) (a:=0) (f:=gB p) (mZ b) ?_ d ?_).1;all_goals simp_all[vA,gB]
theorem UM {p:ew} {c:List Int} {m:Int} (b:cq p c=0) (a:1<=m/\m<=65536):jM p c m=(gR p c m).i':=by simp_all[jM,if_neg]
theorem UL {p:ew} (d:nW p=0) {c:List Int} {m:Int} (b:cq p c=0) (e:m<=65536) (f:((1+2^(p.bj.length+1):Nat):Int)<=m+2):jM p c m=0:=by have a:=θf (n:=p.bj.length+1);grind[UM,DM]
theorem DK {p:ew} (a:nW p=0) {m k:Int} (d:k<=65536) (b:((1+2^(p.bj.length+1):Nat):Int)<=k+2):iB p m k=0:=by
 have c:2<=2^(p.bj.length+1):=by grind
 unfold iB;rw[if_neg (by simp[a]),if_neg (by omega)];grind[Lu]
theorem Lt {p:ew} (a:nW p=0) {m k:Int} (b:iB p m k=0):jr p m k=true↔m<=(Oq p).value:=by
 have j:0<=(Oq p).value:=by obtain⟨t,d,e⟩:=Lw a;obtain⟨_,c⟩:=rT d;rw[<-e,vE a c];exact(pg (cT a) (l:=t.map (oI p)) λx g=>by obtain⟨i,f,rfl⟩:=Δ.1 g;have:=c.2 i f;exact cy (by omega)).1
 have h:=@Lu p a m k;unfold jr;rw[b,decide_eq_true rfl,Bool.true_and,Bool.or_eq_true,decide_eq_true_eq];unfold iB at b;grind
theorem sd {p q:Rat}:iE p q<0↔p<q:=by unfold iE;grind
def Cr:NG:=⟨38,ew×List Int,.cons cI (.one (cP (.i .i64))),λa=>nW a.1=0/\a.2.length<=9223372036854775807,λa=> .si .i64 (dA a.1 a.2)⟩
def UK (p:ew) (c:List Int):Nat->bH
 |6=> .inv Int (λi=>⟨[(7,.si .i64 (bE ((cK p c).take i.toNat))),(23,.row .bu (cK p c)),(24,.si .i64 (cK p c).length),(25,.si .i64 i)],[.cells p.ss 27 20 false]⟩)
   (λs=>iS s 25) (λi=>0<=i/\i<=(cK p c).length) (λi=>((cK p c).length - i).toNat) λ_ _=> .look
 |_=> .look
theorem zc:d' Cr:=by
 refine bI (L:=[zZ,nz]) Cr (λa=>UK a.1 a.2) (by grind[zo,oT]) ?_;rintro⟨p,c⟩ ⟨f,A⟩;simp only at f A;refine NI (let a:=γc .i64;let f:=(0:Int);let k:=γu .i64 0;let m:=a (dA p c);let z:=decide (nW p≠f);let j:=Ω cj.bu (cK p c);let B:=(↑(cK p c).length:Int);let d:=(↑(cK p c).length:Int);let r:=a d;let g:=iZ.cells (ew.ss p) 27 20 false;(c.length<=9223372036854775807/\p.bj.length<=1000)/\((!eT p c)=true->k.bi m)/\((!eT p c)=false->True/\(z=true->k.bi m)/\(z=false->(((k.bi (a (bE []))/\j.bi j/\(a B).bi r/\k.bi (a 0)/\True)/\g.bi g/\True)/\f<=f/\f<=d)/\∀(x:Int),let w:=bE (Ξ x.toNat (cK p c));let y:=w+(bN (cK p c) x.toNat cj.bu.bw).value;let b:=x+(1:Int);let e:=a b;f<=x/\x<=d->(decide (x<d)=true->f<=x/\x<B/\x.toNat<(cK p c).length/\TP .i64 y/\TP .i64 b/\(((a y).bi (a (bE (Ξ b.toNat (cK p c))))/\j.bi j/\r.bi r/\e.bi e/\True)/\g.bi g/\True)/\(f<=b/\b<=d)/\(d - b).toNat<(d - x).toNat)/\(decide (x<d)=false->(a w).bi m)))) (by kernel_rfl) ?_;simp only[vcs];have t:=cT f;obtain⟨G,v⟩:=OH (c:=c) f;have u:=t.2.1;have q:eT p c=false->0=dA p c:=λh=>by unfold dA;rw[if_pos f];unfold cK;unfold eT at h;rw[Option.isSome_eq_false_iff,δZ] at h;rw[h];rfl
 refine⟨⟨A,by omega⟩,q,λ_=>⟨λh=>absurd f h,λ_=>⟨⟨by simp[bE],by omega⟩,?_⟩⟩⟩;rintro i ⟨n,D⟩;refine⟨λo=>?_,λE=>?_⟩
 ·have H:=OI n o;have F:=pg t (l:=(cK p c).take i.toNat) λx s=>v x (γj s);have C:=pg t (l:=(cK p c).take (i+1).toNat) λx s=>v x (γj s);grind
 ·rw[show i.toNat=(cK p c).length from by omega,φ];grind[dA]
def DJ:NG:=⟨143,Int×Int,.cons (dY .i64) (.one (dY .i64)),λa=>(-9223372036854775808<=a.1/\a.1<=9223372036854775807)/\0<a.2/\a.2<=9223372036854775807,λa=> .IL [oa (fe (decide (a.1<0)) (a.1.natAbs:Int) a.2),.si .i64 0]⟩
theorem IM:d' DJ:=by
 refine bI (L:=[AK,xO]) DJ lk (by grind[zq,uK]) ?_;rintro⟨n,d⟩ ⟨⟨u,w⟩,q,r⟩;simp only at u w q r;refine NI (let e:=(-9223372036854775808:Int);let h:=(9223372036854775807:Int);let k:=(0:Int);let l:=Ω;let g:=bU (↑n.natAbs:Int);let b:=bU (↑d.natAbs:Int);let f:=nf (fe (!decide (n<k)==decide (d<k)) (bX g) (bX b));let a:=cj.i .u32;let j:=[γc .i64 0];let c:=nf (fe (decide (n<k)) (↑n.natAbs:Int) d);(e<=n/\n<=h)/\(e<=d/\d<=h)/\((ou g/\ou b)/\(g.length<=1000000000/\b.length<=1000000000)/\k<bX b)/\(SV.IL (γG [γA f.1,l a f.2.1,l a f.2.2]::j)).bi (SV.IL (γG [γA c.1,l a c.2.1,l a c.2.2]::j))) (by kernel_rfl) ?_;simp only[vcs];obtain⟨v,s,t⟩:=fR (show(0:Int)<=(n.natAbs:Int) by omega);obtain⟨o,l,h⟩:=fR (show(0:Int)<=(d.natAbs:Int) by omega);have x:=lM (k:=2) (show(0:Int)<=(n.natAbs:Int) by omega) (by omega);have p:=lM (k:=2) (show(0:Int)<=(d.natAbs:Int) by omega) (by omega);have e:(d.natAbs:Int)=d:=by omega
 have m:(!(decide (n<0)==decide (d<0)))=decide (n<0):=by grind
 rw[m,v,o,e];rw[e] at l h p;repeat' refine And.intro ?_ ?_
 all_goals first|omega|exact s|exact l|exact t|exact h|rfl
def n9 (x:List NH):Prop:=∃l,x=fL l/\x.length<=1000000/\∀q∈l,Sz 1000 q
theorem UJ (q:Rat):q.den=1↔(nf q).2.2=[1]:=by
 have c:bU 1=[1]:=by decide
 constructor
 ·intro h;show bU (q.den:Int)=[1];simp_all
 ·intro h;have a:=(fR (show(0:Int)<=(q.den:Int) by omega)).1;have b:bU (q.den:Int)=[1]:=h;grind[bX]
theorem Cq (q:Rat):okF (nf q)=true:=decide_eq_true (by rw[dR])
def DI:NG:=⟨103,List NH,.one (cP sF),n9,λx=> .sb (lK (vL x))⟩
def UI (x:List NH):Nat->bH
 |2=> .inv Int (λi=>⟨[(5,.row sF x),(6,.si .i64 x.length),(7,.si .i64 i)],[]⟩)
   (λs=>iS s 7) (λi=>(0<=i/\i<=x.length)/\lK ((vL x).take i.toNat)=true) (λi=>(x.length - i).toNat) λ_ _=> .look
 |_=> .look
theorem IS:d' DI:=by
 refine bI (L:=[rQ]) DI UI (by grind[n4]) ?_;rintro(x:List NH) ⟨l,v,G,H⟩;refine NI (let c:=(0:Int);let d:=γc .i64;let f:=δb false;let h:=Ω;let i:=(1:Int);let b:=(↑x.length:Int);let w:=d b;((((h sF x).bi (h sF x)/\(d (↑x.length:Int)).bi w/\(γu .i64 0).bi (d 0)/\True)/\True)/\(c<=c/\c<=b)/\lK []=true)/\∀(a:Int),let p:=bN x a.toNat sF.bw;let e:=p.2.2;let C:=(↑(γf e):Int);let r:=γA (lK (vL x));let g:=a+i;let o:=d g;let A:=λ(u:Bool) ↦decide (bN e 0 c≠i)=u;let D:=λ(u:Bool) ↦decide (C≠i)=u;let E:=λ(u:Bool) ↦(!okF (p.1,p.2.1,e))=u;(c<=a/\a<=b)/\lK (Ξ a.toNat (vL x))=true->(decide (a<b)=true->c<=a/\a<(↑x.length:Int)/\a.toNat<x.length/\((ou p.2.1/\ou e)/\γf p.2.1<=10000000/\γf e<=10000000)/\(E true->(f).bi r)/\(E false->(D true->(f).bi r)/\(D false->c<=c/\c<C/\0<γf e/\(A true->(f).bi r)/\(A false->TP .i64 g/\(((h sF x).bi (h sF x)/\w.bi w/\o.bi o/\True)/\True)/\((c<=g/\g<=b)/\lK (Ξ g.toNat (vL x))=true)/\(b - g).toNat<(b - a).toNat))))/\(decide (a<b)=false->(δb true).bi r)) (by kernel_rfl) ?_;simp only[vcs];subst v;rw[ff] at G ⊢;rw[ku];have s:∀k:Nat,((k:Nat):Int).toNat=k:=λk=>γg k;refine⟨⟨(by omega),rfl⟩,?_⟩;rintro i ⟨⟨z,T⟩,c⟩;refine⟨λy=>?_,λy=>?_⟩
 ·have J:bN (fL l) i.toNat sF.bw=nf (bN l i.toNat 0):=iR (by omega);have B:=cy (d:=0) (show i.toNat<l.length by omega);have N:=H _ B;have K:=iG (d:=0) z y;rw[J];generalize bN l i.toNat 0=q at*;obtain⟨_,⟨I,U,V⟩,⟨M,P,W⟩⟩:=kW q;obtain⟨R,S⟩:=nK N;have m:=UJ q;have j:q.den≠1->false=lK l:=λQ=>by refine(δO.2 λf=>?_).symm;have:=τ.1 f _ B;simp_all
  have t:=Cq q;refine⟨z,y,by omega,⟨⟨I,M⟩,by omega⟩,λh=>absurd t (by simp_all),λ_=>⟨λh=>j λf=>h ?_,λh=>⟨by omega,by omega,by omega,λf=>j λO=>f ?_,λf=>⟨by omega,⟨by omega,?_⟩,by omega⟩⟩⟩⟩;·simp_all
  ·rw[(m.1 O)];rfl
  ·rw[K];unfold lK at c ⊢;rw[List.all_append,c];have:q.den=1:=m.2 (by
    have n:(nf q).2.2.length=1:=by omega
    have F:bN (nf q).2.2 0 0=1:=γa.1 f;match v:(nf q).2.2,n with
    |[x],_=>
     rw[v] at F;have:x=1:=F;rw[this]);simp[this]
 grind
end Go.Vi
