/-
  Contracts: the reference's bound from prices.
  Conditions: none.
-/
import Derived.Test.YtbnhiekmnpikhaaGreatDA11
import Derived.Test.YtbnhiekmnpikhaaGreatDA06
import Derived.Test.YtbnhiekmnpikhaaGreatDA07
import Derived.Test.YtbnhiekmnpikhaaGreatDA08
import Derived.Test.YtbnhiekmnpikhaaGreatDA10
import Derived.Test.YtbnhiekmnpikhaaGreatDA09
import Derived.Test.YtbnhiekmnpikhaaGreatDA12
set_option maxRecDepth 100000
set_option maxHeartbeats 4000000
set_option linter.all false
open Bool renaming eq_false_iff->δI,false_eq_true->χ,and_eq_true->θ
open Classical renaming not_not->γf
open Go.Vi.SV renaming si->γg,row->Ω,ptr->γP,il->γA,bl->δf,agg->γQ,sb->γx,ow->γZ
open Int renaming toNat_natCast->γl,toNat->ζu,ofNat_lt->εX
open IntCast renaming intCast->κ
open List renaming mem_map->Ψ,length_take->γw,length_set->Φ,take_length->ψ,take->Δ,length->γc,replicate->δ,all_eq_true->φ,mem_range->γp,length_replicate->γC,getElem_of_mem->γJ,length_append->γi,map_cons->π,map_nil->γr
open List.cons renaming injEq->Γ
open Nat renaming le_refl->ν,lt_of_lt_of_le->γh
open Option renaming isSome_eq_false_iff->γ5,isNone_iff_eq_none->γN,isSome_iff_exists->γq,getD_some->γ6
open Option.some renaming injEq->γ
open Rat renaming add_zero->ζO,not_lt->ε4
namespace Go.Vi
open Go.Proofs.YtbnhiekmnpikhaaGreat.Ir
open Go.Proofs
def jl (p:bn) (y:List Rat) (r:Nat) (i:Int):Rat:=((oI p i).value:Rat) - bO r λk=>bj y k 0*((dW p k (oI p i):Int):Rat)
def kV (p:bn) (f:List Int) (y:List Rat) (r:Nat):Rat:=((gC p f:Int):Rat)+bO r λk=>bj y k 0*((dm p k - cY p ((bE f 1).map (oI p)) k:Int):Rat)
def mW (p:bn) (f:List Int) (r:Int) (k:Nat):Int:=dm p r - cY p ((bE (f.take k) 1).map (oI p)) r
theorem afw {a:Type} {n j:Nat} (g:Int->a) (d:a) (h:j<n):bj ((cG n).map g) j d=g j:=by
 grind[cV,cG]
theorem Ly {c:Type} {a b:List c} (d:c) (e:a.length=b.length) (h:∀j,j<a.length->bj a j d=bj b j d):a=b:=by
 refine List.ext_getElem e λj f g=>?_;grind[cV]
theorem afx {p:bn} {f:List Int} {y:List Rat}:kV p f y 0=((gC p f:Int):Rat):=by
 grind[kV,bO]
theorem U6 {p:bn} {f:List Int} {y:List Rat} {r:Nat}:kV p f y (r+1)=kV p f y r+bj y r 0*((dm p r - cY p ((bE f 1).map (oI p)) r:Int):Rat):=by
 grind[kV,bO]
theorem LA {p:bn} {y:List Rat} {r:Nat} {i:Int}:jl p y (r+1) i=jl p y r i - bj y r 0*((dW p r (oI p i):Int):Rat):=by
 grind[jl,bO]
theorem U7 {p:bn} {r:Int}:(iC p r p.offers.length).length=p.offers.length:=by grind[iC]
theorem afy {p:bn} {r i:Int} (h:0<=i/\i<p.offers.length):bj (iC p r p.offers.length) i.toNat 0=dW p r (oI p i):=by
 grind[iC,cV,oI]
theorem afz {p:bn} {f:List Int} {r:Int}:mW p f r 0=dm p r:=by
 simp_all[mW,bE,cG,cY]
theorem afA {p:bn} {f:List Int} {r k:Int} (a:0<=k) (h:k<f.length):mW p f r (k+1).toNat=mW p f r k.toNat - if bj f k.toNat 0=1 then dW p r (oI p k) else 0:=by
 grind[mW,Bt,cY]
theorem U8 {p:bn} {f:List Int} {r:Int}:mW p f r f.length=dm p r - cY p ((bE f 1).map (oI p)) r:=by
 grind[mW]
theorem U9 {p:bn} {f:List Int} {r:Int} {k:Nat} (a:bz p=0) (j:f.length=p.offers.length): -640<=mW p f r k/\mW p f r k<=4:=by
 have g:=@A1 p a r;have b:=@sS p r ((bE (f.take k) 1).map (oI p)) λx d=>by
  obtain⟨i,e,rfl⟩:=Ψ.1 d;have:=(kQ.1 e).1;rw[γw] at this;exact(kR a (i:=i) (by omega)).2.2.1
 have c:=@uQ (f.take k) 1;rw[List.length_map] at b;rw[γw] at c;have h:=(dQ a).2.1;grind[mW]
section
variable {p:bn} {f:List Int}
theorem afB (h:eV p f) {i:Int} (c:0<=i/\i<f.length) (d:bj f i.toNat 0=0):jl p (iD p f) (mF p) i<=0:=by
 have a:i∈bE f 0:=kQ.2 ⟨c,d⟩;have b:(bE f 0).idxOf i<nF f:=List.idxOf_lt_length_of_mem a;have g:=aeC h b;have e:bj (bE f 0) ((bE f 0).idxOf i) 0=i:=by grind[cV]
 grind[Bo,dJ,yE,jl]
theorem afC (h:eV p f):kV p f (iD p f) (mF p)=jh p f:=by
 grind[kV,jh,Uw,dJ,yF]
end
def oN (p:bn) (f:List Int) (y:List Rat) (r k:Nat) (i:Int):Rat:=if bj f i.toNat 0=0 then jl p y (if i<(k:Int) then r+1 else r) i else(((oI p i).value:Int):Rat)
def ik (p:bn) (f:List Int) (y:List Rat) (r k:Nat):List bL:=(cG p.offers.length).map λ(i:Int)=>bu (oN p f y r k i)
def jm (p:bn) (f:List Int) (y:List Rat) (i:Nat):Rat:=kV p f y (mF p)+bO i λk=>if bj f k 0=0/\0<jl p y (mF p) k then jl p y (mF p) k else 0
def rY (n:Nat) (K:Nat->Nat):Nat:=match n with
 |0=>0
 |n+1=>rY n K+K n
def y9 (p:bn) (y:List Rat):Prop:=∃K:Nat->Nat,(∀k,k<mF p->Sz (K k) (bj y k 0))/\rY (mF p) K<=9000000
def wP (p:bn) (f:List Int) (x:List bL):Prop:=(bz p=0/\f.length=p.offers.length/\jP f=true)/\∃y,x=fL y/\y.length=mF p/\y9 p y
def posB (x:List bL):Bool:=x.all λe=>!e.1
theorem za {p:bn} {f:List Int} {y:List Rat} {r k:Nat}:(ik p f y r k).length=p.offers.length:=by grind[ik,fU]
theorem zb {p:bn} {f:List Int} {y:List Rat} {r k j:Nat} (h:j<p.offers.length) {d:bL}:bj (ik p f y r k) j d=bu (oN p f y r k j):=afw _ _ h
theorem LC {p:bn} {f:List Int} {y:List Rat} {r k a b:Nat} (h:∀j:Nat,j<p.offers.length->oN p f y r k j=oN p f y a b j):ik p f y r k=ik p f y a b:=by
 refine Ly (false,([],[])) (by grind[za]) λj c=>?_;grind[za,zb]
theorem afD {p:bn} {f:List Int} {y:List Rat} {i:Int} (a:0<=i):oN p f y 0 0 i=(((oI p i).value:Int):Rat):=by
 unfold oN;rw[if_neg (show ¬i<((0:Nat):Int) by omega)];grind[jl,bO]
theorem afE {p:bn} {f:List Int} {y:List Rat} {r:Nat}:ik p f y r p.offers.length=ik p f y (r+1) 0:=LC λj a=>by
 simp_all[oN,if_neg]
theorem LD {p:bn} {f:List Int} {y:List Rat} {r:Nat} {k:Int} (c:0<=k) (h:bj f k.toNat 0≠0\/dW p r (oI p k)=0\/bj y r 0=0):ik p f y r k.toNat=ik p f y r (k+1).toNat:=LC λj a=>by
 unfold oN;by_cases a:(j:Int)=k
 ·rw[if_neg (show ¬(j:Int)<((k.toNat:Nat):Int) by omega),if_pos (show(j:Int)<(((k+1).toNat:Nat):Int) by omega),a];split
  ·rename_i b;rw[LA];rcases h with h|h|h;·omega
   ·rw[h];grind
   ·rw[h];grind
  ·rfl
 grind
theorem afF {p:bn} {f:List Int} {y:List Rat} {r:Nat} (h:bj y r 0=0):ik p f y r 0=ik p f y (r+1) 0:=LC λj a=>by
 unfold oN;rw[if_neg (show ¬(j:Int)<((0:Nat):Int) by omega),if_neg (show ¬(j:Int)<((0:Nat):Int) by omega),LA,h];split<;>grind
theorem afG {p:bn} {f:List Int} {y:List Rat} {r:Nat} {k:Int} (c:0<=k) (h:k<p.offers.length) (b:bj f k.toNat 0=0):(ik p f y r k.toNat).set k.toNat (bu (jl p y (r+1) k))=ik p f y r (k+1).toNat:=by
 refine Ly (false,([],[])) (by grind[za]) λj a=>?_;rw[Φ,za] at a;rw[iK (by grind[za]),zb a,zb a];unfold oN;grind
theorem afH {p:bn} {f:List Int} {y:List Rat} {r:Nat} {k:Int} (b:0<=k) (a:bj f k.toNat 0=0):oN p f y r k.toNat k=jl p y r k:=by
 unfold oN;grind
theorem afI {p:bn} {f:List Int} {y:List Rat} {r:Nat} (h:bj y r 0=0):kV p f y r=kV p f y (r+1):=by
 grind[U6]
theorem Va {p:bn} {f:List Int} {y:List Rat}:jm p f y 0=kV p f y (mF p):=by
 grind[jm,bO]
theorem Vb {p:bn} {f:List Int} {y:List Rat} {i:Int} (a:0<=i):jm p f y (i+1).toNat=jm p f y i.toNat+if bj f i.toNat 0=0/\0<jl p y (mF p) i then jl p y (mF p) i else 0:=by
 rw[show(i+1).toNat=i.toNat+1 by omega];grind[jm,bO]
section
variable {p:bn} {f:List Int} {y:List Rat}
theorem Vd {K:Nat->Nat}:∀{n k:Nat},k<n->K k<=rY n K
 |0,_,h=>by omega;|n+1,k,h=>by
  simp only[rY];by_cases e:k=n;·rw[e];omega
  ·have:=@Vd K n k (by omega);omega
theorem Ve {g:Nat->Rat} {K:Nat->Nat} {c:Nat}:∀{n:Nat},(∀k,k<n->Sz (K k+c) (g k))->Sz (rY n K+n*(c+1)+1) (bO n g)
 |0,_=>by
  simp only[bO];exact(show Sz 1 0 by simp_all[Sz]).mono (by omega);|n+1,h=>by
  simp only[bO,rY];have a:Sz (rY n K+n*(c+1)+1) (bO n g):=Ve λk b=>h k (by omega);exact(Bg a (h n (by omega))).mono (by grind)
theorem Vf (h:y9 p y) {k:Nat} (a:k<mF p):Sz 9000000 (bj y k 0):=by
 obtain⟨K,b,c⟩:=h;exact(b k a).mono (by have:=@Vd K _ _ a;omega)
def qd (y:List Rat) (m:Nat) (C:Int) (q:Rat):Prop:=∃(c:Int) (z:Nat->Int),(-C<=c/\c<=C)/\(∀r,r<m-> -C<=z r/\z r<=C)/\q=(c:Rat)+bO m λr=>bj y r 0*((z r:Int):Rat)
theorem afJ {m:Nat} {C D:Int} {q b:Rat} (h:qd y m C q) (j:qd y m D b):qd y m (C+D) (q+b):=by
 obtain⟨c,z,l,o,n⟩:=h;obtain⟨f,a,g,d,i⟩:=j;refine⟨c+f,λr=>z r+a r,by omega,λr k=>?_,?_⟩;·grind
 ·have e:(bO m λr=>bj y r 0*(((z r+a r:Int)):Rat))=(bO m λr=>bj y r 0*((z r:Int):Rat))+bO m λr=>bj y r 0*((a r:Int):Rat):=by
   simp_all[yq,Rat.mul_add]
  grind
theorem afK {m:Nat} {C D:Int} {q:Rat} (h:qd y m C q) (f:C<=D):qd y m D q:=by
 obtain⟨c,z,b,e,a⟩:=h;exact⟨c,z,by omega,λr d=>by grind,a⟩
theorem afL {m:Nat} {C:Int} (a:0<=C):qd y m C 0:=⟨0,λ_=>0,by omega,λ_ _=>⟨by simp_all,a⟩,by
 simp_all[iT,ζO]⟩
theorem LG {C:Int} {q:Rat} (h:qd y (mF p) C q) (g:C<=9223372036854775807) (b:y9 p y) (j:mF p<=20):Sz 9000100 q:=by
 obtain⟨c,z,k,f,rfl⟩:=h;obtain⟨K,i,d⟩:=b;have a:Sz (rY (mF p) K+mF p*3+1) (bO (mF p) λr=>bj y r 0*((z r:Int):Rat)):=Ve (c:=2) λr e=>by
  grind[uJ,rX]
 refine(Bg (rX (W:=c) (by omega) (by omega)) a).mono ?_;omega
theorem Vg {g:Nat->Rat} {r:Nat}:∀{m:Nat},r<=m->(bO m λk=>if k<r then g k else 0)=bO r g
 |0,h=>by rw[show r=0 by omega];rfl;|m+1,h=>by
  by_cases e:r=m+1;·simp_all[dJ]
  ·simp only[bO];rw[if_neg (by omega),ζO];exact Vg (by omega)
theorem Vh {r m:Nat} (a:r<=m) {C c:Int} {z:Nat->Int} (b: -C<=c/\c<=C) (e:∀k,k<r-> -C<=z k/\z k<=C):qd y m C ((c:Rat)+bO r λk=>bj y k 0*((z k:Int):Rat)):=by
 refine⟨c,λk=>if k<r then z k else 0,b,λk d=>?_,?_⟩;·grind
 ·rw[<-Vg a];congr 1;refine dJ λk _=>?_;show _=bj y k 0*(((if k<r then z k else 0:Int)):Rat);split<;>simp_all
theorem Vj (d:bz p=0) {r:Nat} (a:r<=mF p) {i:Int} (c:0<=i/\i<p.offers.length):qd y (mF p) 1000000 (jl p y r i):=by
 have b:=kR d c;have h:=@Vh y r (mF p) a 1000000 (oI p i).value (λk=> -dW p k (oI p i)) (by omega) λk _=>by
  have:=@pT p k _ b.2.2.1;omega
 have e:jl p y r i=(((oI p i).value:Int):Rat)+bO r λk=>bj y k 0*(((-dW p k (oI p i):Int)):Rat):=by
  unfold jl;rw[Rat.sub_eq_add_neg];congr 1;rw[show(-(bO r λk=>bj y k 0*((dW p k (oI p i):Int):Rat)))=(-1)*(bO r λk=>bj y k 0*((dW p k (oI p i):Int):Rat)) by grind,<-wu];grind
 simp_all
theorem Vk (b:bz p=0) (a:f.length=p.offers.length) {r:Nat} (d:r<=mF p):qd y (mF p) 1000000000 (kV p f y r):=by
 have c:=@Bv p b f f.length a;rw[ψ] at c;unfold kV;refine Vh d (by omega) λk _=>?_;have e:=@U9 p f k f.length b a;grind[U8]
theorem Vl (e:bz p=0) (c:f.length=p.offers.length):∀{i:Nat},i<=f.length->qd y (mF p) (1000000000+1000000*i) (jm p f y i)
 |0,_=>by grind[Va,Vk];|i+1,h=>by
  have a:=@Vb p f y i (by omega);rw[show((i:Int)+1).toNat=i+1 by omega,γl] at a;rw[a];have b:=Vl e c (i:=i) (by omega);have d:qd y (mF p) 1000000 (if bj f i 0=0/\0<jl p y (mF p) i then jl p y (mF p) i else 0):=by
   grind[Vj,afL]
  exact afK (afJ b d) (by omega)
theorem Fe (a:bz p=0):mF p<=20:=by have:=(dQ a).1;grind
theorem Vm (a:bz p=0) (d:y9 p y) {r:Nat} (b:r<=mF p) {i:Int} (c:0<=i/\i<p.offers.length):Sz 9000100 (jl p y r i):=LG (Vj a b c) (by omega) d (Fe a)
theorem afM (a:bz p=0) (c:f.length=p.offers.length) (d:y9 p y) {r:Nat} (b:r<=mF p):Sz 9000100 (kV p f y r):=LG (Vk a c b) (by omega) d (Fe a)
theorem Vn (a:bz p=0) (c:f.length=p.offers.length) (b:y9 p y) {i:Nat} (d:i<=f.length):Sz 9000100 (jm p f y i):=LG (Vl a c d) (by have:=(dQ a).2.1;omega) b (Fe a)
end
def afN (f:FuncId) {c:Type} (A:qC c) (e:c->Prop) (d:c->SV):dG where
 f:=f;α:=c;put:=A.put;st _:=[];dec v o:=match o with
  |[]=>A.dec v
  |_=>none;ok v o a h:=by
  split at h;·exact⟨A.ok _ _ h,rfl⟩
  ·cases h
 inj a b h _:=A.inj _ _ h;dom:=e;res:=d;out _:=[]
def LH:dG:=afN 135 (.cons dO (.one (dL (.i .i64)))) (λ(a:bn×List Int)=>bz a.1=0/\a.2.length=a.1.offers.length) λa=>qa (κ (gC a.1 a.2))
def afO (p:bn) (f:List Int):Nat->cC
 |3=> .inv Int (λi=>⟨[(2,.ptr 0 0 20),(4,.ptr 1 0 3),(5,.si .i64 (gC p (f.take i.toNat))),(8,.row (.i .i64) f),(9,.si .i64 f.length),(10,.si .i64 i)],[.cells p.ss 27 20 false,.cells [.bl false,.sc (.slice none 0 0),.sc (.slice none 0 0)] 177 3 false]⟩)
   (λs=>iS s 10) (λi=>0<=i/\i<=f.length) (λi=>(f.length - i).toNat) λ_ _=> .look
 |_=> .look
theorem h396o:ec Tryz.prog LH:=by
 refine Bz (L:=[oH]) (W:=[]) LH (λa=>afO a.1 a.2) (by simp) (by simpa using h94) ?_;rintro⟨p,f⟩ ⟨hc,hl⟩;simp only at hc hl;refine bQ (let a:=γg .i64;let b:=(0:Int);let c:=Ω;let h:=γP 0 0 20;let j:=γP 1 0 3;let s:=γA .i64 0;let k:=c (bp.i .i64) f;let d:=(↑f.length:Int);let o:=a d;let l:=bq.cells (bn.ss p) 27 20 false;let t:=SV.sc (Value.slice none 0 0);let m:=bq.cells [δf false,t,t] 177 3 false;let n:=bp.i .u32;let q:=bu (κ (gC p f));(((h.same h/\j.same j/\s.same (a (gC p []))/\k.same k/\(a (↑f.length:Int)).same o/\s.same (a 0)/\True)/\l.same l/\m.same m/\True)/\b<=b/\b<=d)/\∀(x:Int),let e:=x+(1:Int);let v:=a e;let w:=decide (bj f x.toNat b=(1:Int));let g:=gC p (Δ x.toNat f);let y:=g+(bj p.offers x.toNat bp.off.dflt).value;let r:=bu (κ g);let z:=λ(u:Int) ↦cq .i64 e/\((h.same h/\j.same j/\(a u).same (a (gC p (Δ e.toNat f)))/\k.same k/\o.same o/\v.same v/\True)/\l.same l/\m.same m/\True)/\(b<=e/\e<=d)/\(d - e).toNat<(d - x).toNat;b<=x/\x<=d->(decide (x<d)=true->b<=x/\x<(↑f.length:Int)/\x.toNat<f.length/\(w=true->b<=x/\x<(↑p.offers.length:Int)/\x.toNat<p.offers.length/\cq .i64 y/\z y)/\(w=false->z g))/\(decide (x<d)=false->((-9223372036854775808:Int)<=g/\g<=(9223372036854775807:Int))/\(γQ [γx r.fst,c n r.snd.fst,c n r.snd.snd]).same (γQ [γx q.fst,c n q.snd.fst,c n q.snd.snd])/\True)) (by kernel_rfl) ?_;simp only[vcs];have h160:=(dQ hc).2.1;refine⟨⟨by simp[gC,bE,cG,cM],by omega,by omega⟩,?_⟩;rintro i ⟨i0,i1⟩;have hb:=@Bv p hc f i.toNat hl;refine⟨λhi=>?_,λhi=>?_⟩
 ·have hs:=@Uf p f i i0 hi;have ho:=kR hc (i:=i) ⟨i0,by omega⟩;have hv:(bj p.offers i.toNat bp.off.dflt).value=(oI p i).value:=rfl;rw[hv];refine⟨i0,hi,by omega,λh1=>?_,λh1=>?_⟩
  ·rw[if_pos h1] at hs;refine⟨i0,?_,?_,?_,?_,?_,?_,?_⟩<;>omega
  ·rw[if_neg h1] at hs;refine⟨?_,?_,?_,?_⟩<;>omega
 ·rw[show f.take i.toNat=f by rw[show i.toNat=f.length by omega,ψ]] at hb ⊢;exact⟨by omega,rfl⟩
def fsN (p:bn) (f:List Int) (x:List bL):SV:=.agg [.sb (if posB x=true then(bu (jm p f (vL x) f.length)).1 else false),.row (.i .u32) (if posB x=true then(bu (jm p f (vL x) f.length)).2.1 else[]),.row (.i .u32) (if posB x=true then(bu (jm p f (vL x) f.length)).2.2 else[])]
def LI:bM:=⟨210,bn×List Int×List bL,.cons dO (.cons (dL (.i .i64)) (.one (dL sF))),λa=>wP a.1 a.2.1 a.2.2,λa=> .bI [fsN a.1 a.2.1 a.2.2,.si .i64 (if posB a.2.2=true then 0 else 4)]⟩
def Ff (p:bn) (q:Rat) (ex:List bL):bZ:=[.cells p.ss 27 20 false,.cells [.bl false,.sc (.slice none 0 0),.sc (.slice none 0 0)] 177 3 false,.cells [.sb (bu q).1,.row (.i .u32) (bu q).2.1,.row (.i .u32) (bu q).2.2] 177 3 false,.row sF ex 177 true]
noncomputable def afQ (p:bn) (f:List Int) (x:List bL):Nat->cC
 |7=> .inv Int (λi=>⟨[(1,.row (.i .i64) f),(2,.row sF x),(3,.ptr 0 0 20),(6,.ptr 1 0 3),(35,.row sF x),(36,.si .i64 x.length),(37,.si .i64 i)],[.cells p.ss 27 20 false,.cells [.bl false,.sc (.slice none 0 0),.sc (.slice none 0 0)] 177 3 false]⟩)
   (λs=>iS s 37) (λi=>0<=i/\i<=x.length/\posB (x.take i.toNat)=true) (λi=>(x.length - i).toNat) λ_ _=> .look
 |17=> .inv Int (λi=>⟨[(1,.row (.i .i64) f),(2,.row sF x),(3,.ptr 0 0 20),(6,.ptr 1 0 3),(11,.ptr 2 0 3),(12,.ow 3 f.length 3),(57,.si .i64 f.length),(58,.si .i64 i)],Ff p (κ (gC p f)) (eT (ik p f (vL x) 0 0) i.toNat (false,([],[])))⟩)
   (λs=>iS s 58) (λi=>0<=i/\i<=f.length) (λi=>(f.length - i).toNat) λ_ _=> .look
 |22=> .inv Int (λr=>⟨[(1,.row (.i .i64) f),(3,.ptr 0 0 20),(6,.ptr 1 0 3),(11,.ptr 2 0 3),(12,.ow 3 f.length 3),(72,.row sF x),(73,.si .i64 x.length),(74,.si .i64 r)],Ff p (kV p f (vL x) r.toNat) (ik p f (vL x) r.toNat 0)⟩)
   (λs=>iS s 74) (λr=>0<=r/\r<=x.length) (λr=>(x.length - r).toNat) λr k=>match k with
   |27=> .inv Int (λk=>⟨[(1,.row (.i .i64) f),(3,.ptr 0 0 20),(6,.ptr 1 0 3),(11,.ptr 2 0 3),(12,.ow 3 f.length 3),(15,.ptr 4 0 3),(17,.si .i64 (mW p f r k.toNat)),(72,.row sF x),(73,.si .i64 x.length),(74,.si .i64 r),(88,.row (.i .i64) (iC p r p.offers.length)),(89,.si .i64 f.length),(90,.si .i64 k)],
      Ff p (kV p f (vL x) r.toNat) (ik p f (vL x) r.toNat k.toNat)++[.cells [.sb (bj x r.toNat sF.dflt).1,.row (.i .u32) (bj x r.toNat sF.dflt).2.1,.row (.i .u32) (bj x r.toNat sF.dflt).2.2] 177 3 false]⟩)
     (λs=>iS s 90) (λk=>0<=k/\k<=f.length) (λk=>(f.length - k).toNat) λ_ _=> .look
   |_=> .look
 |38=> .inv Int (λi=>⟨[(6,.ptr 1 0 3),(11,.ptr 2 0 3),(12,.ow 3 f.length 3),(133,.row (.i .i64) f),(134,.si .i64 f.length),(135,.si .i64 i)],Ff p (jm p f (vL x) i.toNat) (ik p f (vL x) (mF p) 0)⟩)
   (λs=>iS s 135) (λi=>0<=i/\i<=f.length) (λi=>(f.length - i).toNat) λ_ _=> .look
 |_=> .look
theorem h494:Holds Tryz.prog LI:=by
 refine con (L:=[EJ,yk,uI,s9,oH,D2,Bm,Bl,wE]) (W:=gP [LH]) LI (λa=>afQ a.1 a.2.1 a.2.2) (lg (by simpa using h396o)) (by simpa using⟨h393,h335,h407,h99,h94,h336,h410,h95,h129⟩) ?_;rintro⟨p,f,x⟩ ⟨⟨hc,hl,hr⟩,y,hx,hyl,hy⟩;simp only at hc hl hr hx hyl hy;refine bQ (let a:=Ω;let c:=γg .i64;let d:=(0:Int);let e:=bq.cells;let g:=bq.row;let h:=(-9223372036854775808:Int);let j:=(9223372036854775807:Int);let k:=cq .i64;let l:=γx;let m:=(1:Int);let n:=γA .i64;let o:=sF.dflt;let q:=SV.bI;let r:=γP;let s:=δf false;let t:=γQ;let v:=bp.i .i64;let am:=t [s,a v [],a v []];let an:=bu (jm p f (vL x) f.length);let w:=bp.i .u32;let ad:=q [t [l (if posB x=true then an.fst else false),a w (if posB x=true then an.snd.fst else[]),a w (if posB x=true then an.snd.snd else[])],c (if posB x=true then d else(4:Int))];let T:=(↑x.length:Int);let aK:=if bz p=d then df p else d;let E:=r 0 0 20;let z:=r 1 0 3;let F:=(↑x.length:Int);let G:=c F;let U:=n 0;let A:=e [c p.supply.a0,c p.supply.a1,c p.supply.a2,c p.supply.a3,c p.supply.a4,c p.supply.a5,c p.opn.a0,c p.opn.a1,c p.opn.a2,c p.opn.a3,c p.opn.a4,c p.opn.a5,c p.cls.a0,c p.cls.a1,c p.cls.a2,c p.cls.a3,c p.cls.a4,c p.cls.a5,a v p.classes,a bp.off p.offers] 27 20 false;let aL:=SV.sc (Value.slice none 0 0);let B:=e [s,aL,aL] 177 3 false;let aM:=p.offers.length;let I:=(↑f.length:Int);let C:=r 2 0 3;let D:=γZ 3 f.length 3;let y:=(↑f.length:Int);let H:=c y;let V:=bu (κ (gC p f));let ae:=e [l V.fst,a w V.snd.fst,a w V.snd.snd] 177 3 false;let af:=(false,[],[]);let ag:=ik p f (vL x) 0 0;let ao:=bu (kV p f (vL x) 0);let W:=r 4 0 3;let bg:=bu (jm p f (vL x) 0);let ap:=ik p f (vL x) (mF p) 0;let aa:=g sF ap 177 true;let O:=ap.length;let aN:=λ(u u_1:Int) (u_2:SV) ↦decide (u≠u_1)=true->(q [am,u_2]).same ad;f.length<=1000000000000/\aN (jg p f) d (c (jg p f))/\(decide (jg p f≠d)=false->True/\aN T aK (n 3)/\(decide (T≠aK)=false->((((a v f).same (a v f)/\(a sF x).same (a sF x)/\E.same E/\z.same z/\(a sF x).same (a sF x)/\(c T).same G/\U.same (c 0)/\True)/\A.same A/\B.same B/\True)/\d<=d/\d<=F/\posB []=true)/\∀(x_1:Int),let Q:=bj x x_1.toNat o;let aq:=(Q.fst,Q.snd.fst,Q.snd.snd);let X:=x_1+m;let aO:=c X;let aP:=λ(u:Bool) ↦decide (jN (bW aq)<d)=u;let aQ:=λ(u:Bool) ↦(!okF aq)=u;d<=x_1/\x_1<=F/\posB (Δ x_1.toNat x)=true->(decide (x_1<F)=true->d<=x_1/\x_1<T/\x_1.toNat<x.length/\((bA Q.snd.fst/\bA Q.snd.snd)/\γc Q.snd.fst<=10000000/\γc Q.snd.snd<=10000000)/\(aQ true->(q [am,n 2]).same ad)/\(aQ false->cE aq/\(aP true->(q [am,n 4]).same ad)/\(aP false->k X/\(((a v f).same (a v f)/\(a sF x).same (a sF x)/\E.same E/\z.same z/\(a sF x).same (a sF x)/\G.same G/\aO.same aO/\True)/\A.same A/\B.same B/\True)/\(d<=X/\X<=F/\posB (Δ X.toNat x)=true)/\(F - X).toNat<(F - x_1).toNat)))/\(decide (x_1<F)=false->(bz p=d/\f.length=aM)/\d<=I/\I<=I/\I*(56:Int)<=(140737488355328:Int)/\I<=(1000000000000:Int)/\((((a v f).same (a v f)/\(a sF x).same (a sF x)/\E.same E/\z.same z/\C.same C/\(γZ 3 I.toNat 3).same D/\(c (↑I.toNat:Int)).same H/\U.same (c 0)/\True)/\A.same A/\B.same B/\(e [l V.fst,a w V.snd.fst,a w V.snd.snd] 177 3 false).same ae/\(g (bp.b.pair (w.bD.pair w.bD)) (δ I.toNat af) 177 true).same (g sF (eT ag 0 af) 177 true)/\True)/\d<=d/\d<=y)/\∀(x_2:Int),let ar:=(bj p.offers x_2.toNat bp.off.dflt).value;let Y:=eT ag x_2.toNat af;let Z:=x_2+m;let aR:=c Z;let au:=bu (κ ar);d<=x_2/\x_2<=y->(decide (x_2<y)=true->d<=x_2/\x_2<(↑p.offers.length:Int)/\x_2.toNat<p.offers.length/\(h<=ar/\ar<=j)/\f.length=Y.length/\d<=x_2/\x_2<(↑Y.length:Int)/\f.length=Y.length/\x_2.toNat<Y.length/\k Z/\(((a v f).same (a v f)/\(a sF x).same (a sF x)/\E.same E/\z.same z/\C.same C/\D.same D/\H.same H/\aR.same aR/\True)/\A.same A/\B.same B/\ae.same ae/\(g sF (Y.set x_2.toNat (au.fst,au.snd.fst,au.snd.snd)) 177 true).same (g sF (eT ag Z.toNat af) 177 true)/\True)/\(d<=Z/\Z<=y)/\(y - Z).toNat<(y - x_2).toNat)/\(decide (x_2<y)=false->((((a v f).same (a v f)/\E.same E/\z.same z/\C.same C/\D.same D/\(a sF x).same (a sF x)/\(c T).same G/\U.same (c 0)/\True)/\A.same A/\B.same B/\ae.same (e [l ao.fst,a w ao.snd.fst,a w ao.snd.snd] 177 3 false)/\(g sF Y 177 true).same (g sF ag 177 true)/\True)/\d<=d/\d<=F)/\∀(x_3:Int),let a6:=bu (kV p f (vL x) x_3.toNat);let R:=e [l a6.fst,a w a6.snd.fst,a w a6.snd.snd] 177 3 false;let av:=g sF (ik p f (vL x) x_3.toNat 0) 177 true;let a7:=bj x x_3.toNat o;let aS:=(a7.fst,a7.snd.fst,a7.snd.snd);let J:=x_3+m;let ah:=c J;let ai:=bu (kV p f (vL x) J.toNat);let aT:=g sF (ik p f (vL x) J.toNat 0) 177 true;let M:=iC p x_3 aM;let a8:=bj x x_3.toNat o;let ab:=e [l a8.fst,a w a8.snd.fst,a w a8.snd.snd] 177 3 false;let ac:=(a8.fst,a8.snd.fst,a8.snd.snd);let aU:=(a6.fst,a6.snd.fst,a6.snd.snd);let aV:=λ(u:bL) (u_1:bq) ↦R.same (e [l u.fst,a w u.snd.fst,a w u.snd.snd] 177 3 false)/\av.same u_1/\True;let aW:=λ(u:Bool) ↦decide (jN (bW aS)=d)=u;d<=x_3/\x_3<=F->(decide (x_3<F)=true->d<=x_3/\x_3<T/\x_3.toNat<x.length/\cE aS/\(aW true->k J/\(((a v f).same (a v f)/\E.same E/\z.same z/\C.same C/\D.same D/\(a sF x).same (a sF x)/\G.same G/\ah.same ah/\True)/\A.same A/\B.same B/\aV ai aT)/\(d<=J/\J<=F)/\(F - J).toNat<(F - x_3).toNat)/\(aW false->(bz p=d/\d<=x_3/\x_3<df p)/\((((a v f).same (a v f)/\E.same E/\z.same z/\C.same C/\D.same D/\W.same W/\(c (dm p x_3)).same (c (mW p f x_3 0))/\(a sF x).same (a sF x)/\G.same G/\(c x_3).same (c x_3)/\(a v M).same (a v M)/\(c (↑M.length:Int)).same H/\U.same (c 0)/\True)/\A.same A/\B.same B/\R.same R/\av.same av/\(e [l a7.fst,a w a7.snd.fst,a w a7.snd.snd] 177 3 false).same ab/\True)/\d<=d/\d<=y)/\∀(ek:Int),let K:=ek+m;let P:=mW p f x_3 ek.toNat;let aX:=c (mW p f x_3 K.toNat);let aj:=c x_3;let ak:=c K;let L:=ik p f (vL x) x_3.toNat ek.toNat;let aw:=g sF L 177 true;let aY:=g sF (ik p f (vL x) x_3.toNat K.toNat) 177 true;let S:=bj M ek.toNat d;let aZ:=decide (S=d);let b0:=bj f ek.toNat d;let b1:=decide (b0=m);let b2:=decide (b0=d);let ax:=bu (κ S);let b3:=(ax.fst,ax.snd.fst,ax.snd.snd);let ay:=bj L ek.toNat o;let b4:=(ay.fst,ay.snd.fst,ay.snd.snd);let az:=bu (bW ac*bW b3);let aA:=bu (bW b4 - bW (az.fst,az.snd.fst,az.snd.snd));let aB:=bu (κ P);let b5:=(aB.fst,aB.snd.fst,aB.snd.snd);let aC:=bu (bW ac*bW b5);let aD:=bu (bW aU+bW (aC.fst,aC.snd.fst,aC.snd.snd));let b6:=k K/\(((a v f).same (a v f)/\E.same E/\z.same z/\C.same C/\D.same D/\W.same W/\(c P).same aX/\(a sF x).same (a sF x)/\G.same G/\aj.same aj/\(a v M).same (a v M)/\H.same H/\ak.same ak/\True)/\A.same A/\B.same B/\R.same R/\aw.same aY/\ab.same ab/\True)/\(d<=K/\K<=y)/\(y - K).toNat<(y - ek).toNat;let b7:=λ(u:Int) (u_1:bq) ↦k K/\(((a v f).same (a v f)/\E.same E/\z.same z/\C.same C/\D.same D/\W.same W/\(c u).same aX/\(a sF x).same (a sF x)/\G.same G/\aj.same aj/\(a v M).same (a v M)/\H.same H/\ak.same ak/\True)/\A.same A/\B.same B/\R.same R/\u_1.same aY/\ab.same ab/\True)/\(d<=K/\K<=y)/\(y - K).toNat<(y - ek).toNat;let b8:=λ(u:Bool×List Int×List Int) (u_1:Int) ↦let aE:=bu (κ u_1);let aF:=bu (bW ac*bW (aE.fst,aE.snd.fst,aE.snd.snd));cE u/\cE (aF.fst,aF.snd.fst,aF.snd.snd);d<=ek/\ek<=y->(decide (ek<y)=true->d<=ek/\ek<(↑M.length:Int)/\ek.toNat<M.length/\(aZ=true->b6)/\(aZ=false->d<=ek/\ek<I/\ek.toNat<f.length/\(b1=true->k (P - S)/\b7 (P - S) aw)/\(b1=false->d<=ek/\ek<I/\ek.toNat<f.length/\(b2=true->f.length=L.length/\d<=ek/\ek<(↑L.length:Int)/\f.length=L.length/\ek.toNat<L.length/\(h<=S/\S<=j)/\(cE ac/\cE b3)/\b8 b4 S/\f.length=L.length/\d<=ek/\ek<(↑L.length:Int)/\f.length=L.length/\ek.toNat<L.length/\b7 P (g sF (L.set ek.toNat (aA.fst,aA.snd.fst,aA.snd.snd)) 177 true))/\(b2=false->b6))))/\(decide (ek<y)=false->(h<=P/\P<=j)/\(cE ac/\cE b5)/\b8 aU P/\k J/\(((a v f).same (a v f)/\E.same E/\z.same z/\C.same C/\D.same D/\(a sF x).same (a sF x)/\G.same G/\ah.same ah/\True)/\A.same A/\B.same B/\(e [l aD.fst,a w aD.snd.fst,a w aD.snd.snd] 177 3 false).same (e [l ai.fst,a w ai.snd.fst,a w ai.snd.snd] 177 3 false)/\aw.same aT/\True)/\(d<=J/\J<=F)/\(F - J).toNat<(F - x_3).toNat)))/\(decide (x_3<F)=false->(((z.same z/\C.same C/\D.same D/\(a v f).same (a v f)/\(c I).same H/\U.same (c 0)/\True)/\A.same A/\B.same B/\aV bg aa)/\d<=d/\d<=y)/\∀(ek:Int),let N:=ek+m;let al:=c N;let a9:=bu (jm p f (vL x) ek.toNat);let b9:=[l a9.fst,a w a9.snd.fst,a w a9.snd.snd];let aG:=bu (jm p f (vL x) N.toNat);let ba:=e [l aG.fst,a w aG.snd.fst,a w aG.snd.snd] 177 3 false;let aH:=bj ap ek.toNat o;let aI:=(aH.fst,aH.snd.fst,aH.snd.snd);let bb:=decide (bj f ek.toNat d=d);let bc:=(a9.fst,a9.snd.fst,a9.snd.snd);let aJ:=bu (bW bc+bW aI);let bd:=k N/\((z.same z/\C.same C/\D.same D/\(a v f).same (a v f)/\H.same H/\al.same al/\True)/\A.same A/\B.same B/\(e b9 177 3 false).same ba/\aa.same aa/\True)/\(d<=N/\N<=y)/\(y - N).toNat<(y - ek).toNat;let be:=cE aI;let bf:=λ(u:Bool) ↦decide (d<jN (bW aI))=u;d<=ek/\ek<=y->(decide (ek<y)=true->d<=ek/\ek<I/\ek.toNat<f.length/\(bb=true->f.length=O/\d<=ek/\ek<(↑O:Int)/\f.length=O/\ek.toNat<O/\be/\(bf true->f.length=O/\d<=ek/\ek<(↑O:Int)/\f.length=O/\ek.toNat<O/\(cE bc/\be)/\k N/\((z.same z/\C.same C/\D.same D/\(a v f).same (a v f)/\H.same H/\al.same al/\True)/\A.same A/\B.same B/\(e [l aJ.fst,a w aJ.snd.fst,a w aJ.snd.snd] 177 3 false).same ba/\aa.same aa/\True)/\(d<=N/\N<=y)/\(y - N).toNat<(y - ek).toNat)/\(bf false->bd))/\(bb=false->bd))/\(decide (ek<y)=false->(q [t b9,U]).same ad))))))) (by kernel_rfl) ?_;simp only[vcs];have hgo:=dQ hc;have h160:=hgo.2.1;have hfe:jg p f=0:=by simp[jg,hc,hl,hr]
 have hnr:df p=mF p:=by unfold df mF;omega
 have hxl:x.length=mF p:=by rw[hx,fF,hyl]
 have hvl:vL x=y:=by rw[hx,kO]
 have aiG:mF p<=20:=by have:=hgo.1;unfold mF;omega
 have hxn:∀r:Int,0<=r->r<mF p->bj x r.toNat sF.dflt=bu (bj y r.toNat 0):=λr h0 h1=>by rw[hx];exact jz (by rw[hyl];omega)
 have wQ:∀{q q':Rat},q=q'->(bq.cells [.sb (bu q).1,.row (.i .u32) (bu q).2.1,.row (.i .u32) (bu q).2.2] 177 3 false).same (bq.cells [.sb (bu q').1,.row (.i .u32) (bu q').2.1,.row (.i .u32) (bu q').2.2] 177 3 false):=by rintro _ _ rfl;rfl
 have rZ:∀{a b:List bL},a=b->(bq.row sF a 177 true).same (bq.row sF b 177 true):=by rintro _ _ rfl;rfl
 have yW:∀{a b:Nat},a=b->(γZ 3 a 3).same (γZ 3 b 3):=by rintro _ _ rfl;rfl
 have hval:∀i:Int,(bj p.offers i.toNat bp.off.dflt).value=(oI p i).value:=λi=>rfl;have hel:∀r k,(ik p f y r k).length=f.length:=λr k=>by rw[za,hl]
 rw[if_pos hc,hnr,hvl];simp only[jO,ez,hval,γl];refine⟨by omega,λh=>absurd hfe h,λ_=>⟨λh=>absurd (by rw[hxl]) h,λ_=>⟨⟨by omega,by omega,rfl⟩,?_⟩⟩⟩;rintro i ⟨i0,i1,hall⟩;have et:=λh=>jZ (d:=sF.dflt) (l:=x) i0 h;refine⟨λhi=>?_,λhge=>?_⟩
 ·have hys:=Vf hy (k:=i.toNat) (by omega);have hm:=dq (d:=sF.dflt) (show i.toNat<x.length by omega);have et:=et hi;have hok:=E1 (bj y i.toNat 0);obtain⟨s1,⟨u1,u2,u3⟩,⟨u4,u5,u6⟩⟩:=mq (bj y i.toNat 0);obtain⟨m1,m2⟩:=pz hys;rw[hxn i i0 (by omega)] at hm et ⊢;refine⟨i0,hi,by omega,⟨⟨u1,u4⟩,by omega,by omega⟩,(λh=>by rw[hok] at h;cases h),λ_=>⟨dN hys (by omega),λh=>?_,λh=>⟨by omega,⟨by omega,by omega,?_⟩,by omega⟩⟩⟩
  ·have hn:bj y i.toNat 0<0:=Bn.1 (by rwa [ez] at h);have hp:posB x=false:=by
    rw[δI];intro ha;have:=φ.1 ha _ hm;have e:(bu (bj y i.toNat 0)).1=true:=decide_eq_true hn;rw[e] at this;cases this
   simp only[hp,χ,if_false];first|exact rfl|exact⟨rfl,rfl⟩|exact⟨rfl,trivial⟩|(unfold SV.same;exact⟨rfl,rfl⟩)
  ·have hn:¬bj y i.toNat 0<0:=λhh=>h (by rw[ez];exact Bn.2 hh);have e:(bu (bj y i.toNat 0)).1=false:=decide_eq_false hn;unfold posB at hall ⊢;rw[et,List.all_append,hall];simp[e]
 have hpos:posB x=true:=by rwa [show i.toNat=x.length by omega,ψ] at hall
 simp only[hpos,if_true];refine⟨⟨hc,hl⟩,by omega,by omega,by omega,by omega,⟨⟨⟨yW rfl,trivial⟩,rZ ?_⟩,by omega,by omega⟩,?_⟩;·rw[yI,hel]
 rintro i ⟨i0,i1⟩;have o7:=@yH (ik p f y 0 0) i.toNat (false,([],[])) (by rw[hel];omega);rw[hel] at o7;refine⟨λhi=>?_,λhi=>?_⟩
 ·have ho:=kR hc (i:=i) ⟨i0,by omega⟩;have hE:bj (ik p f y 0 0) i.toNat (false,([],[]))=bu (κ (oI p i).value):=by
   rw[zb (by omega),show((i.toNat:Nat):Int)=i by omega,afD i0]
  exact⟨i0,by omega,by omega,by omega,by omega,by omega,by omega,by omega,by omega,by omega,rZ (by rw[yK (by rw[hel];omega) hE.symm,show(i+1).toNat=i.toNat+1 by omega]),by omega,by omega⟩
 rw[show i.toNat=(ik p f y 0 0).length by rw[hel];omega,yJ];refine⟨⟨⟨wQ afx.symm,rZ rfl⟩,by omega,by omega⟩,?_⟩;rintro r ⟨r0,r1⟩;refine⟨λhr1=>?_,λhr1=>?_⟩
 ·have hys:=Vf hy (k:=r.toNat) (by omega);have hx1:=hxn r r0 (by omega);have gy:cE (bu (bj y r.toNat 0)):=dN hys (by omega);have hrr:((r.toNat:Nat):Int)=r:=by omega
  have hrt:(r+1).toNat=r.toNat+1:=by omega
  simp only[hx1,ez];refine⟨r0,hr1,by omega,gy,λh0=>?_,λh0=>⟨⟨hc,r0,by omega⟩,⟨⟨afz.symm,by rw[U7];omega⟩,by omega,by omega⟩,?_⟩⟩
  ·have h0:=JX.1 h0;exact⟨by omega,⟨wQ (by rw[hrt,afI h0]),rZ (by rw[hrt,afF h0])⟩,by omega,by omega⟩
  rintro k ⟨k0,k1⟩;have hbd:=@U9 p f r k.toNat hc hl;have hrl:=@U7 p r;refine⟨λhk=>?_,λhk=>?_⟩
  ·have ho:=kR hc (i:=k) ⟨k0,by omega⟩;have hcb:=@pT p r _ ho.2.2.1;have hrn:=@afy p r k ⟨k0,by omega⟩;have hbs:=@afA p f r k k0 (by omega);rw[hrn];refine⟨k0,by omega,by omega,λh1=>?_,λh1=>⟨k0,by omega,by omega,λh2=>?_,λh2=>⟨k0,by omega,by omega,λh3=>?_,λh3=>?_⟩⟩⟩
   ·have hb2:mW p f r k.toNat=mW p f r (k+1).toNat:=by rw[hbs,h1];split<;>omega
    exact⟨by omega,⟨hb2,rZ (LD k0 (.inr (.inl (by rw[hrr];exact h1))))⟩,by omega,by omega⟩
   ·rw[if_pos h2] at hbs;exact⟨by omega,by omega,⟨by omega,rZ (LD k0 (.inl (by omega)))⟩,by omega,by omega⟩
   ·rw[if_neg h2] at hbs;have hen:=@zb p f y r.toNat k.toNat k.toNat (by omega) sF.dflt;rw[show((k.toNat:Nat):Int)=k by omega,afH k0 h3] at hen;have gx:cE (bu (jl p y r.toNat k)):=dN (Vm hc hy (by omega) ⟨k0,by omega⟩) (by omega);have gc:cE (bu (κ (dW p r (oI p k)))):=dN (rX (W:=dW p r (oI p k)) (by omega) (by omega)) (by omega);have gm:cE (bu (bj y r.toNat 0*κ (dW p r (oI p k)))):=dN (uJ hys (rX (W:=dW p r (oI p k)) (by omega) (by omega))) (by omega);have hset:=@afG p f y r.toNat k k0 (by omega) h3;rw[LA,hrr] at hset;have afR:(ik p f y r.toNat k.toNat).set k.toNat (bu (jl p y r.toNat k - bj y r.toNat 0*κ (dW p r (oI p k))))=ik p f y r.toNat (k+1).toNat:=hset;rw[hen];simp only[ez];rw[afR,hel];refine⟨rfl,k0,?_,rfl,?_,?_,⟨gy,gc⟩,⟨gx,gm⟩,rfl,k0,?_,rfl,?_,?_,⟨?_,rZ rfl⟩,?_,?_⟩<;>omega
   ·rw[if_neg h2] at hbs;refine⟨?_,⟨?_,rZ (LD k0 (.inl h3))⟩,?_,?_⟩<;>omega
  ·have hk2:k.toNat=f.length:=by omega
   rw[hk2,U8] at hbd ⊢;have gb:cE (bu (κ (dm p r - cY p ((bE f 1).map (oI p)) r))):=dN (rX (W:=dm p r - cY p ((bE f 1).map (oI p)) r) (by omega) (by omega)) (by omega);have gs:cE (bu (kV p f y r.toNat)):=dN (afM hc hl hy (by omega)) (by omega);have gm:cE (bu (bj y r.toNat 0*κ (dm p r - cY p ((bE f 1).map (oI p)) r))):=dN (uJ hys (rX (W:=dm p r - cY p ((bE f 1).map (oI p)) r) (by omega) (by omega))) (by omega);refine⟨by omega,⟨gy,gb⟩,⟨gs,gm⟩,by omega,⟨wQ ?_,rZ ?_⟩,by omega,by omega⟩;·rw[hrt,U6,hrr]
   ·rw[hrt,hl];exact afE
 ·have hr2:r.toNat=mF p:=by omega
  rw[hr2];refine⟨⟨⟨wQ Va.symm,rZ rfl⟩,by omega,by omega⟩,?_⟩;rintro i ⟨i0,i1⟩;refine⟨λhi=>?_,λhi=>?_⟩
  ·have hs:=@Vb p f y i i0;refine⟨i0,hi,by omega,λh0=>?_,λh0=>?_⟩
   ·have hen:=@zb p f y (mF p) 0 i.toNat (by omega) sF.dflt;have he0:oN p f y (mF p) 0 i=jl p y (mF p) i:=by
     unfold oN;rw[if_pos h0,if_neg (show ¬i<((0:Nat):Int) by omega)]
    rw[show((i.toNat:Nat):Int)=i by omega,he0] at hen;have gx:cE (bu (jl p y (mF p) i)):=dN (Vm hc hy (ν _) ⟨i0,by omega⟩) (by omega);have gs:cE (bu (jm p f y i.toNat)):=dN (Vn hc hl hy (by omega)) (by omega);rw[hen,hel];simp only[ez];refine⟨trivial,i0,by omega,trivial,by omega,gx,λh1=>⟨trivial,i0,by omega,trivial,by omega,⟨gs,gx⟩,by omega,wQ ?_,by omega,by omega⟩,λh1=>⟨by omega,wQ ?_,by omega,by omega⟩⟩;·rw[hs,if_pos ⟨h0,uM.1 h1⟩]
    ·rw[hs,if_neg (λh=>h1 (uM.2 h.2))];exact(ζO _).symm
   ·refine⟨by omega,wQ ?_,by omega,by omega⟩;rw[hs,if_neg (λh=>h0 h.1)];exact(ζO _).symm
  ·rw[show i.toNat=f.length by omega];first|exact rfl|exact⟨rfl,rfl⟩|exact⟨rfl,trivial⟩
def LJ:bM:=⟨208,dj×bn×Int×List Int,.cons (dY bF) (.cons dO (.cons (eZ .i64) (.one (dL (.i .i64))))),λa=>wP a.2.1 a.2.2.2 a.1.2.2.2.2/\ -9223372036854775808<=a.2.2.1/\a.2.2.1<=9223372036854775807,
 λa=> .sb (posB a.1.2.2.2.2&&decide (jm a.2.1 a.2.2.2 (vL a.1.2.2.2.2) a.2.2.2.length<κ a.2.2.1+1))⟩
theorem h492:Holds Tryz.prog LJ:=by
 refine cH (L:=[LI,oH,wE,yC]) LJ lk (by grind[h494,h94,h129,h97]) ?_;rintro⟨⟨k,o,a,b,x⟩,p,v,f⟩ ⟨c,i,g⟩;simp only at c i g;have d:=c;obtain⟨⟨H,J,M⟩,y,K,I,G⟩:=d;have C:=Vn H J G (ν f.length);have q:vL x=y:=by rw[K,kO]
 rw[<-q] at C;have F:(κ 1:Rat)=1:=rfl;have s:Sz 2 (κ v:Rat):=rX i g;have t:Sz 2 (1:Rat):=rX (W:=1) (by omega) (by omega);refine bQ (let a:=(-9223372036854775808:Int);let b:=(9223372036854775807:Int);let c:=(1:Int);let d:=(0:Int);let j:=jm p f (vL x) f.length;let n:=bu (κ v);let D:=(n.fst,n.snd.fst,n.snd.snd);let r:=bu (κ c);let A:=(r.fst,r.snd.fst,r.snd.snd);let z:=(if posB x=true then(bu j).fst else false,if posB x=true then(bu j).snd.fst else[],if posB x=true then(bu j).snd.snd else[]);let l:=bu (bW D+bW A);let E:=(l.fst,l.snd.fst,l.snd.snd);let B:=λ(u:SV) ↦u.same (γx (posB x&&decide (j<κ v+(1:Rat))));let w:=λ(u:Bool) ↦decide ((if posB x=true then d else(4:Int))=d)=u;wP p f x/\(a<=v/\v<=b)/\(a<=c/\c<=b)/\(cE D/\cE A)/\(w true->(cE z/\cE E)/\B (γx (decide (iU (bW z) (bW E)<d))))/\(w false->B (δf false))) (by kernel_rfl) ?_;simp only[jO,ez,F];by_cases m:posB x=true
 ·simp only[m,if_true,Bool.true_and,jO,ez];refine⟨c,⟨i,g⟩,by omega,⟨dN s (by omega),dN t (by omega)⟩,λ_=>⟨⟨dN C (by omega),dN (Bg s t) (by omega)⟩,?_⟩,λh=>by cases h⟩;have e:decide (iU (jm p f (vL x) f.length) (κ v+1)<0)=decide (jm p f (vL x) f.length<κ v+1):=decide_eq_decide.2 tq;rw[e];rfl
 ·have m:posB x=false:=by simp_all
  simp only[m,χ,if_false,Bool.false_and];exact⟨c,⟨i,g⟩,by omega,⟨dN s (by omega),dN t (by omega)⟩,(λh=>by cases h),λ_=>rfl⟩
def LK:bM:=⟨214,dj×bn×Int×List Int,.cons (dY bF) (.cons dO (.cons (eZ .i64) (.one (dL (.i .i64))))),λa=>0<=a.1.2.1,λa=> .sb (decide (a.1.2.1<a.2.2.2.length)&&decide (bj a.2.2.2 a.1.2.1.toNat 0=0))⟩
theorem h498:Holds Tryz.prog LK:=by
 refine cH (L:=[]) LK lk (by simp) ?_;rintro⟨⟨k,o,a,b,x⟩,p,v,f⟩ (e:0<=o);refine bQ (let a:=(0:Int);let c:=decide (o<(↑f.length:Int));let d:=λ(u:SV) ↦u.same (γx (decide (o<(↑f.length:Int))&&decide (bj f o.toNat a=a)));(c=true->a<=o/\o<(↑f.length:Int)/\o.toNat<f.length/\d (γx (decide (bj f o.toNat a=a))))/\(c=false->d (δf false))) (by kernel_rfl) ?_;simp_all[decide_eq_false]
def LL:bM:=⟨218,dj×bn×Int×List Int,.cons (dY bF) (.cons dO (.cons (eZ .i64) (.one (dL (.i .i64))))),λa=>a.2.2.2.length<=1000000,λa=> .sb (decide (di a.2.1 (bE a.2.2.2 1)≠0))⟩
def afS (n:dj) (p:bn) (f:List Int):Nat->cC
 |3=> .inv Int (λi=>⟨[(5,.ptr 1 0 20),(9,.ow 2 (bE (f.take i.toNat) 1).length 1),(12,.row (.i .i64) f),(13,.si .i64 f.length),(14,.si .i64 i)],[.cells (encS bF n) 206 5 false,.cells p.ss 27 20 false,.row (.i .i64) (bE (f.take i.toNat) 1) 3 true]⟩)
   (λs=>iS s 14) (λi=>0<=i/\i<=f.length) (λi=>(f.length - i).toNat) λ_ _=> .look
 |_=> .look
theorem h502:Holds Tryz.prog LL:=by
 refine cH (L:=[ya]) LL (λa=>afS a.1 a.2.1 a.2.2.2) (by simpa using h100) ?_;rintro⟨⟨k,o,a,b,x⟩,p,v,f⟩ (hl:f.length<=1000000);refine bQ (let c:=γg .i64;let d:=(0:Int);let e:=(1:Int);let g:=bq.row;let h:=Ω;let j:=γZ;let r:=γP 1 0 20;let m:=bp.i .i64;let n:=(↑f.length:Int);let v:=c n;let s:=bq.cells [c k,c o,c a,c b,h sF x] 206 5 false;let t:=bq.cells [c p.supply.a0,c p.supply.a1,c p.supply.a2,c p.supply.a3,c p.supply.a4,c p.supply.a5,c p.opn.a0,c p.opn.a1,c p.opn.a2,c p.opn.a3,c p.opn.a4,c p.opn.a5,c p.cls.a0,c p.cls.a1,c p.cls.a2,c p.cls.a3,c p.cls.a4,c p.cls.a5,h m p.classes,h bp.off p.offers] 27 20 false;(((r.same r/\(j 2 0 1).same (j 2 (bE [] e).length 1)/\(h m f).same (h m f)/\(c (↑f.length:Int)).same v/\(γA .i64 0).same (c 0)/\True)/\s.same s/\t.same t/\(g m [] 3 true).same (g m (bE [] e) 3 true)/\True)/\d<=d/\d<=n)/\∀(x_1:Int),let q:=x_1+e;let w:=bE (Δ q.toNat f) e;let y:=c q;let z:=decide (bj f x_1.toNat d=e);let l:=bE (Δ x_1.toNat f) e;let A:=l.length+1;let B:=λ(u:Nat) (u_1:bq) ↦cq .i64 q/\((r.same r/\(j 2 u 1).same (j 2 w.length 1)/\(h m f).same (h m f)/\v.same v/\y.same y/\True)/\s.same s/\t.same t/\u_1.same (g m w 3 true)/\True)/\(d<=q/\q<=n)/\(n - q).toNat<(n - x_1).toNat;d<=x_1/\x_1<=n->(decide (x_1<n)=true->d<=x_1/\x_1<(↑f.length:Int)/\x_1.toNat<f.length/\(z=true->l.length=l.length/\A*8<=140737488355328/\A<=1000000000000/\B (l++[x_1]).length (g m (l++[x_1]) 3 true))/\(z=false->B l.length (g m l 3 true)))/\(decide (x_1<n)=false->l.length=l.length/\l.length<=9223372036854775807/\(γx (decide (di p l≠d))).same (γx (decide (di p (bE f e)≠d))))) (by kernel_rfl) ?_;simp only[vcs];have how:∀{x y:Nat},x=y->(γZ 2 x 1).same (γZ 2 y 1):=by rintro _ _ rfl;rfl
 have hrow:∀{x y:List Int},x=y->(bq.row (.i .i64) x 3 true).same (bq.row (.i .i64) y 3 true):=by rintro _ _ rfl;rfl
 refine⟨⟨⟨how rfl,hrow rfl⟩,by omega,by omega⟩,?_⟩;rintro i ⟨i0,i1⟩;have hd:=@uQ (f.take i.toNat) 1;rw[γw] at hd;refine⟨λhi=>?_,λhi=>?_⟩
 ·have hs:=Bt (d:=1) i0 hi;refine⟨i0,hi,by omega,λh1=>?_,λh1=>?_⟩
  ·rw[if_pos h1] at hs;rw[hs];refine⟨?_,?_,?_,⟨how rfl,hrow rfl⟩,?_,?_⟩<;>omega
  ·rw[if_neg h1,List.append_nil] at hs;rw[hs];refine⟨?_,⟨how rfl,hrow rfl⟩,?_,?_⟩<;>omega
 ·rw[show f.take i.toNat=f by rw[show i.toNat=f.length by omega,ψ]] at hd ⊢;exact⟨by omega,rfl⟩
def LM:bM:=⟨222,Unit×bn×Int×List Int,.cons Lm (.cons dO (.cons (eZ .i64) (.one (dL (.i .i64))))),λ_=>True,λ_=> .sb false⟩
theorem h506:Holds Tryz.prog LM:=by
 refine cH (L:=[]) LM lk (by simp) ?_;rintro⟨_,p,v,f⟩ _;refine bQ ((δf false).same (γx false)) (by kernel_rfl) ?_;rfl
@[reducible] def sd:bp:=.pair (.i .i64) .b
def eQ (t:List dj):Nat->List (Int×Bool)
 |0=>δ t.length (0,false)
 |i+1=>if(bj t i bF.dflt).1=2 then((eQ t i).set (bj t i bF.dflt).2.2.1.toNat ((i:Int),false)).set (bj t i bF.dflt).2.2.2.1.toNat ((i:Int),true) else eQ t i
def oO (t:List dj) (u:List (Int×Bool)) (k:Int) (f:List Int):List Int:=
 if(bj t (bj u k.toNat (0,false)).1.toNat bF.dflt).2.1<f.length then f.set (bj t (bj u k.toNat (0,false)).1.toNat bF.dflt).2.1.toNat (if(bj u k.toNat (0,false)).2 then 1 else -1) else f
def iF (t:List dj) (u:List (Int×Bool)):Nat->Int->List Int->List Int
 |0,_,f=>f
 |m+1,k,f=>if 0<k then iF t u m (bj u k.toNat (0,false)).1 (oO t u k f) else f
def iY (p:bn) (t:List dj) (i:Nat):List Int:=iF t (eQ t i) i i (δ p.offers.length 0)
def sf (p:bn) (v:Int) (f:List Int) (n:dj):Bool:=
 if n.1=1 then posB n.2.2.2.2&&decide (jm p f (vL n.2.2.2.2) f.length<κ v+1) else if n.1=2 then decide (n.2.1<f.length)&&decide (bj f n.2.1.toNat 0=0) else if n.1=3 then decide (di p (bE f 1)≠0) else false
def sg (p:bn) (v:Int) (t:List dj):Bool:=(List.range t.length).all λi=>sf p v (iY p t i) (bj t i bF.dflt)
def LN (t:List dj) (u:List (Int×Bool)):Prop:=u.length=t.length/\∀k,k<t.length->0<=(bj u k (0,false)).1/\(0<k->(bj u k (0,false)).1<k)
def LO (p:bn) (v:Int) (t:List dj):Prop:=(bz p=0/\dT t=true)/\(-9223372036854775808<=v/\v<=9223372036854775807)/\∀i,i<t.length->(bj t i bF.dflt).1=1->wP p (iY p t i) (bj t i bF.dflt).2.2.2.2
theorem Vo {t:List dj} {u:List (Int×Bool)} {k:Int} {f:List Int}:(oO t u k f).length=f.length:=by
 grind[oO]
theorem Vp {t:List dj} {u:List (Int×Bool)}:∀{m:Nat} {k:Int} {f:List Int},(iF t u m k f).length=f.length
 |0,_,_=>rfl
 |m+1,k,f=>by
  unfold iF;split;·rw[Vp,Vo]
  ·rfl
theorem LP {t:List dj} {u:List (Int×Bool)} (a:LN t u):∀{m:Nat} {k:Int} {f:List Int},0<=k->k<t.length->k<=m->iF t u m k f=iF t u k.toNat k f
 |0,k,f,g,d,e=>by grind;|m+1,k,f,g,d,e=>by
  by_cases c:0<k
  ·have b:=a.2 k.toNat (by omega);have h:=b.2 (by omega);rw[show k.toNat=(k.toNat - 1)+1 by omega];unfold iF;rw[if_pos c,if_pos c,LP a b.1 (by omega) (by omega)];exact(LP a b.1 (by omega) (by omega)).symm
  ·rw[show k=0 by omega];rfl
theorem Vq {t:List dj} {u:List (Int×Bool)} (b:LN t u) {k:Int} {f:List Int} (a:0<k) (e:k<t.length):iF t u k.toNat k f=iF t u (bj u k.toNat (0,false)).1.toNat (bj u k.toNat (0,false)).1 (oO t u k f):=by
 have c:=b.2 k.toNat (by omega);have d:=c.2 (by omega);rw[show iF t u k.toNat k f=iF t u ((k.toNat - 1)+1) k f by grind];conv=>lhs;unfold iF
 rw[if_pos a];grind[LP]
theorem tu {t:List dj}:∀{i:Nat},(eQ t i).length=t.length
 |0=>by simp[eQ];|i+1=>by
  unfold eQ;split;·rw[Φ,Φ,tu]
  ·exact tu
theorem LQ {t:List dj} (h:dT t=true) {i:Nat} (c:i<t.length):0<=(bj t i bF.dflt).2.1/\((bj t i bF.dflt).1=2->((i:Int)<(bj t i bF.dflt).2.2.1/\(bj t i bF.dflt).2.2.1<t.length)/\((i:Int)<(bj t i bF.dflt).2.2.2.1/\(bj t i bF.dflt).2.2.2.1<t.length)):=by
 unfold dT at h;simp only[θ,φ,γp] at h;have b:=h.2.1 i c;unfold kU at b;simp only[θ] at b;obtain⟨a,d⟩:=b;refine⟨?_,λe=>?_⟩
 ·unfold tt at a;split at a;·simp_all[wf1,rW]
  ·split at a;all_goals simp_all[wf2,oM,uS,rW]
 simp_all[jE,uT]
theorem LR {t:List dj} (h:dT t=true):∀{i:Nat},i<=t.length->LN t (eQ t i)
 |0,_=>⟨tu,λk a=>by
   grind[eQ,cV]⟩
 |i+1,g=>⟨tu,λk a=>by
   have b:=(LR h (i:=i) (by omega)).2 k a;unfold eQ;split
   ·rename_i c;obtain⟨⟨j,f⟩,d,e⟩:=(LQ h (i:=i) (by omega)).2 c;grind[tu,iK]
   ·exact b⟩
def LS:bM:=⟨62,bn×Int×List dj,.cons dO (.cons (eZ .i64) (.one (dL bF))),λa=>LO a.1 a.2.1 a.2.2,λa=> .si .i64 (if sg a.1 a.2.1 a.2.2 then 0 else 13)⟩
noncomputable def afT (p:bn) (v:Int) (t:List dj):Nat->cC
 |3=> .inv Int (λi=>⟨[(1,.si .i64 v),(2,.row bF t),(3,.ptr 0 0 20),(7,.ow 1 t.length 2),(16,.row bF t),(17,.si .i64 t.length),(18,.si .i64 i)],[.cells p.ss 27 20 false,.row sd (eQ t i.toNat) 159 true]⟩)
   (λs=>iS s 18) (λi=>0<=i/\i<=t.length/\∀j:Nat,j<i->sf p v (iY p t j) (bj t j bF.dflt)=true) (λi=>(t.length - i).toNat) λi k=>match k with
   |7=> .inv (Int×List Int) (λx=>⟨[(1,.si .i64 v),(2,.row bF t),(3,.ptr 0 0 20),(7,.ow 1 t.length 2),(8,.si .i64 i),(9,.ptr 2 0 5),(10,.ow 3 p.offers.length 1),(11,.si .i64 x.1),(16,.row bF t),(17,.si .i64 t.length),(18,.si .i64 i)],
      [.cells p.ss 27 20 false,.row sd (eQ t i.toNat) 159 true,.cells (encS bF (bj t i.toNat bF.dflt)) 108 5 false,.row (.i .i64) x.2 3 true]⟩)
     (λs=>(iS s 11,oS (.i .i64) s 3)) (λx=>(0<=x.1/\x.1<=i)/\x.2.length=p.offers.length/\iF t (eQ t i.toNat) x.1.toNat x.1 x.2=iY p t i.toNat) (λx=>x.1.toNat) λ_ _=> .look
   |_=> .look
 |_=> .look
theorem h481:Holds Tryz.prog LS:=by
 refine cH (L:=[E9,LJ,LK,LL,LM]) LS (λa=>afT a.1 a.2.1 a.2.2) (by simpa using⟨h485,h492,h498,h502,h506⟩) ?_;rintro⟨p,v,t⟩ ⟨⟨hc,ht⟩,⟨v0,v1⟩,hb⟩;simp only at hc ht v0 v1 hb;refine bQ (let a:=γg .i64;let c:=(0:Int);let d:=Ω;let e:=bq.row;let f:=γA .i64;let g:=(140737488355328:Int);let h:=(1000000000000:Int);let k:=(1:Int);let l:=γZ;let o:=(↑t.length:Int);let w:=γP 0 0 20;let C:=l 1 t.length 2;let y:=(↑t.length:Int);let D:=a y;let a9:=f 0;let K:=bp.i .i64;let q:=bq.cells [a p.supply.a0,a p.supply.a1,a p.supply.a2,a p.supply.a3,a p.supply.a4,a p.supply.a5,a p.opn.a0,a p.opn.a1,a p.opn.a2,a p.opn.a3,a p.opn.a4,a p.opn.a5,a p.cls.a0,a p.cls.a1,a p.cls.a2,a p.cls.a3,a p.cls.a4,a p.cls.a5,d K p.classes,d bp.off p.offers] 27 20 false;let E:=(↑p.offers.length:Int);let S:=γP 2 0 5;let n:=p.offers.length;let Z:=l 3 n 1;let a6:=δ E.toNat c;let aa:=e K a6 3 true;let L:=a (if sg p v t=true then c else(13:Int));c<=o/\o<=o/\o*(16:Int)<=g/\o<=h/\((((a v).same (a v)/\(d bF t).same (d bF t)/\w.same w/\(l 1 o.toNat 2).same C/\(d bF t).same (d bF t)/\(a o).same D/\a9.same (a 0)/\True)/\q.same q/\(e (K.pair bp.b) (δ o.toNat (c,false)) 159 true).same (e sd (eQ t 0) 159 true)/\True)/\c<=c/\c<=y/\∀(j:Nat),(↑j:Int)<c->sf p v (iY p t j) (bj t j bF.dflt)=true)/\∀(x:Int),let z:=eQ t x.toNat;let F:=e sd z 159 true;let s:=bj t x.toNat bF.dflt;let T:=s.snd.fst;let M:=s.snd.snd.fst;let N:=s.snd.snd.snd.fst;let U:=s.snd.snd.snd.snd;let H:=bq.cells [a s.fst,a T,a M,a N,d sF U] 108 5 false;let V:=iY p t x.toNat;let m:=z.length;let O:=(↑m:Int);let ab:=decide (s.fst=k);let ac:=decide (s.fst=(2:Int));let P:=z.set (ζu M) (x,false);let G:=x+k;let ad:=a G;let ar:=e sd (eQ t G.toNat) 159 true;let ae:=decide (s.fst=(2:Int));let af:=decide (s.fst=(3:Int));(c<=x/\x<=y/\∀(j:Nat),(↑j:Int)<x->sf p v (iY p t j) (bj t j bF.dflt)=true)->(decide (x<y)=true->c<=x/\x<o/\x.toNat<t.length/\c<=E/\E<=E/\E*(8:Int)<=g/\E<=h/\((((a v).same (a v)/\(d bF t).same (d bF t)/\w.same w/\C.same C/\(a x).same (a x)/\S.same S/\(l 3 E.toNat 1).same Z/\(a x).same (a x)/\(d bF t).same (d bF t)/\D.same D/\(a x).same (a x)/\True)/\q.same q/\F.same F/\H.same H/\aa.same aa/\True)/\(c<=x/\x<=x)/\a6.length=n/\iF t z x.toNat x a6=V)/\∀(x_1:Int×List Int),let W:=a x;let A:=x_1.fst.toNat;let a7:=bj z A sd.dflt;let r:=a7.fst;let ag:=a r;let I:=ζu r;let J:=(bj t I bF.dflt).snd.fst;let X:=ζu J;let Q:=x_1.snd.length;let ah:=decide (c<x_1.fst);let B:=x_1.snd.length;let R:=x_1.snd.set X (-1:Int);let ai:=e K x_1.snd 3 true;let Y:=let aj:=λ(u:bq) ↦cq .i64 G/\(((a v).same (a v)/\(d bF t).same (d bF t)/\w.same w/\C.same C/\(d bF t).same (d bF t)/\D.same D/\ad.same ad/\True)/\q.same q/\u.same ar/\True)/\(c<=G/\G<=y/\∀(j:Nat),(↑j:Int)<G->sf p v (iY p t j) (bj t j bF.dflt)=true)/\(y - G).toNat<(y - x).toNat;(ac=true->t.length=m/\c<=M/\M<O/\t.length=m/\ζu M<m/\t.length=P.length/\c<=N/\N<(↑P.length:Int)/\t.length=P.length/\ζu N<P.length/\aj (e sd (P.set (ζu N) (x,true)) 159 true))/\(ac=false->aj F);let ak:=(a v).same (a v)/\(d bF t).same (d bF t)/\w.same w/\C.same C/\W.same W/\S.same S/\Z.same Z/\ag.same ag/\(d bF t).same (d bF t)/\D.same D/\W.same W/\True;let al:=λ(u:List Int) (u_1:Int) ↦let a8:=u.set X u_1;let am:=e K a8 3 true;t.length=m/\c<=x_1.fst/\x_1.fst<O/\t.length=m/\A<m/\(ak/\q.same q/\F.same F/\H.same H/\am.same am/\True)/\((c<=r/\r<=x)/\a8.length=n/\iF t z I r a8=V)/\I<A;let an:=λ(u:Bool) ↦(!(posB U&&decide (jm p x_1.snd (vL U) Q<κ v+(1:Rat))))=u;let ao:=λ(u:Bool) ↦(!(decide (T<(↑Q:Int))&&decide (bj x_1.snd (ζu T) 0=c)))=u;let ap:=λ(u:Bool) ↦(!decide (di p (bE x_1.snd k)≠c))=u;let aq:=λ(u:Bool) ↦decide (J<(↑n:Int))=u;(c<=x_1.fst/\x_1.fst<=x)/\Q=n/\iF t z A x_1.fst x_1.snd=V->(ah=true->t.length=m/\c<=x_1.fst/\x_1.fst<O/\t.length=m/\A<m/\c<=r/\r<o/\I<t.length/\(aq true->n=B/\c<=J/\J<(↑B:Int)/\n=B/\X<B/\t.length=m/\c<=x_1.fst/\x_1.fst<O/\t.length=m/\A<m/\(a7.snd=true->n=R.length/\c<=J/\J<(↑R.length:Int)/\n=R.length/\X<R.length/\al R k)/\(a7.snd=false->al x_1.snd (-1:Int)))/\(aq false->t.length=m/\c<=x_1.fst/\x_1.fst<O/\t.length=m/\A<m/\(ak/\q.same q/\F.same F/\H.same H/\ai.same ai/\True)/\((c<=r/\r<=x)/\Q=n/\iF t z I r x_1.snd=V)/\I<A))/\(ah=false->True/\(ab=true->n=B/\(wP p x_1.snd U/\(-9223372036854775808:Int)<=v/\v<=(9223372036854775807:Int))/\(an true->(f 13).same L)/\(an false->Y))/\(ab=false->(ae=true->n=B/\c<=T/\(ao true->(f 13).same L)/\(ao false->Y))/\(ae=false->(af=true->n=B/\Q<=1000000/\(ap true->(f 13).same L)/\(ap false->Y))/\(af=false->n=B/\True/\(true=true->(f 13).same L)/\(true=false->Y))))))/\(decide (x<y)=false->a9.same L)) (by kernel_rfl) ?_;simp only[vcs];have h160:=(dQ hc).2.1;have htn:1<=t.length/\t.length<=65536:=by
  unfold dT at ht;simp only[θ,decide_eq_true_eq] at ht;exact ht.1
 have hw:∀i,t.length=(eQ t i).length:=λi=>tu.symm;have how:∀{x y:Nat},x=y->(γZ 1 x 2).same (γZ 1 y 2):=by rintro _ _ rfl;rfl
 have hof:∀{x y:Nat},x=y->(γZ 3 x 1).same (γZ 3 y 1):=by rintro _ _ rfl;rfl
 have hrow:∀{x y:List (Int×Bool)},x=y->(bq.row sd x 159 true).same (bq.row sd y 159 true):=by rintro _ _ rfl;rfl
 have hd:(sd.dflt:Int×Bool)=(0,false):=rfl;simp only[γl,hd];refine⟨by omega,by omega,by omega,by omega,⟨⟨how rfl,hrow rfl⟩,by omega,by omega,λj hj=>by omega⟩,?_⟩;rintro i ⟨i0,i1,hall⟩;refine⟨λhi=>?_,λhi=>?_⟩
 ·have hu:=LR ht (i:=i.toNat) (by omega);have hlu:=@tu t i.toNat;have hno:=LQ ht (i:=i.toNat) (by omega);refine⟨i0,hi,by omega,by omega,by omega,by omega,by omega,⟨hof rfl,⟨i0,Int.le_refl _⟩,γC,?_⟩,?_⟩
  ·unfold iY;rw[show((i.toNat:Nat):Int)=i by omega]
  rintro⟨k,f⟩ ⟨⟨k0,k1⟩,hfl,hfx⟩;simp only at k0 k1 hfl hfx ⊢;refine⟨λhk=>?_,λhk=>?_⟩
  ·have q:=hu.2 k.toNat (by omega);have q1:=q.2 (by omega);have ho:=(LQ ht (i:=(bj (eQ t i.toNat) k.toNat (0,false)).1.toNat) (by omega)).1;have hs:=@Vq t (eQ t i.toNat) hu k f hk (by omega);rw[hfx] at hs;unfold oO at hs;rw[hfl] at hs;have qq:=q.1;clear q;generalize bj (eQ t i.toNat) k.toNat (0,false)=s at qq q1 ho hs ⊢;generalize (bj t s.1.toNat bF.dflt).2.1=o at ho hs ⊢;refine⟨hw _,k0,by omega,hw _,by omega,qq,by omega,by omega,λh=>?_,λh=>?_⟩
   ·rw[if_pos h] at hs;have l1:(f.set o.toNat (-1)).length=p.offers.length:=by rw[Φ,hfl]
    refine⟨by omega,ho,by omega,by omega,by omega,hw _,k0,by omega,hw _,by omega,λh2=>?_,λh2=>?_⟩
    ·rw[if_pos h2] at hs;exact⟨by omega,ho,by omega,by omega,by omega,hw _,k0,by omega,hw _,by omega,⟨⟨qq,by omega⟩,by rw[Φ];exact l1,by rw[List.set_set];exact hs.symm⟩,by omega⟩
    ·rw[if_neg (by rw[h2];exact Bool.false_ne_true)] at hs;refine⟨hw _,k0,?_,hw _,?_,⟨⟨qq,?_⟩,l1,hs.symm⟩,?_⟩<;>omega
   ·rw[if_neg h] at hs;refine⟨hw _,k0,?_,hw _,?_,⟨⟨qq,?_⟩,hfl,hs.symm⟩,?_⟩<;>omega
  ·have hk0:k=0:=by omega
   have hf:f=iY p t i.toNat:=by rw[<-hfx,hk0];rfl
   have hbi:=hb i.toNat (by omega);rw[<-hf] at hbi;have no:sf p v f (bj t i.toNat bF.dflt)=false->(13:Int)=if sg p v t=true then 0 else 13:=λh=>by
    have:sg p v t=false:=by
     unfold sg;rw[δI];intro ha;have:=φ.1 ha i.toNat (γp.2 (by omega));rw[<-hf,h] at this;cases this
    rw[this];rfl
   have next:sf p v f (bj t i.toNat bF.dflt)=true->∀j:Nat,(j:Int)<i+1->sf p v (iY p t j) (bj t j bF.dflt)=true:=λh j hj=>by
    by_cases h2:(j:Int)<i;·exact hall j h2
    ·rw[show j=i.toNat by omega,<-hf];exact h
   have hup:eQ t (i+1).toNat=if(bj t i.toNat bF.dflt).1=2 then((eQ t i.toNat).set (bj t i.toNat bF.dflt).2.2.1.toNat (i,false)).set (bj t i.toNat bF.dflt).2.2.2.1.toNat (i,true) else eQ t i.toNat:=by
    rw[show(i+1).toNat=i.toNat+1 by omega];conv=>lhs;unfold eQ
    rw[show((i.toNat:Nat):Int)=i by omega]
   rw[hup];unfold sf at no next;have hsl:∀(j:Nat) (z:Int×Bool),((eQ t i.toNat).set j z).length=t.length:=λj z=>by rw[Φ,hlu]
   generalize bj t i.toNat bF.dflt=n at no next hno hbi ⊢;refine⟨λh1=>⟨hfl.symm,⟨hbi h1,v0,v1⟩,λh=>no (by rw[if_pos h1];exact h),λh=>?_⟩,λh1=>⟨λh3=>⟨hfl.symm,hno.1,λh=>no (by rw[if_neg h1,if_pos h3];exact h),λh=>?_⟩,λh3=>⟨λh4=>⟨hfl.symm,by omega,λh=>no (by rw[if_neg h1,if_neg h3,if_pos h4];exact decide_eq_false h),λh=>?_⟩,λh4=>?_⟩⟩⟩;·exact⟨λh2=>by
      obtain⟨⟨a1,a2⟩,b1,b2⟩:=hno.2 h2;have s1:=hsl n.2.2.1.toNat (i,false);exact⟨hw _,by omega,by omega,hw _,by omega,s1.symm,by omega,by omega,s1.symm,by omega,by omega,hrow (if_pos h2).symm,⟨by omega,by omega,next (by rw[if_pos h1,h.1,decide_eq_true h.2];rfl)⟩,by omega⟩,λh2=>⟨by omega,hrow (if_neg h2).symm,⟨by omega,by omega,next (by rw[if_pos h1,h.1,decide_eq_true h.2];rfl)⟩,by omega⟩⟩
   ·exact⟨λh2=>by
      obtain⟨⟨a1,a2⟩,b1,b2⟩:=hno.2 h2;have s1:=hsl n.2.2.1.toNat (i,false);exact⟨hw _,by omega,by omega,hw _,by omega,s1.symm,by omega,by omega,s1.symm,by omega,by omega,hrow (if_pos h2).symm,⟨by omega,by omega,next (by rw[if_neg h1,if_pos h3,decide_eq_true h.1,decide_eq_true h.2];rfl)⟩,by omega⟩,λh2=>⟨by omega,hrow (if_neg h2).symm,⟨by omega,by omega,next (by rw[if_neg h1,if_pos h3,decide_eq_true h.1,decide_eq_true h.2];rfl)⟩,by omega⟩⟩
   ·exact⟨λh2=>by
      obtain⟨⟨a1,a2⟩,b1,b2⟩:=hno.2 h2;have s1:=hsl n.2.2.1.toNat (i,false);exact⟨hw _,by omega,by omega,hw _,by omega,s1.symm,by omega,by omega,s1.symm,by omega,by omega,hrow (if_pos h2).symm,⟨by omega,by omega,next (by rw[if_neg h1,if_neg h3,if_pos h4];exact decide_eq_true h)⟩,by omega⟩,λh2=>⟨by omega,hrow (if_neg h2).symm,⟨by omega,by omega,next (by rw[if_neg h1,if_neg h3,if_pos h4];exact decide_eq_true h)⟩,by omega⟩⟩
   ·have:=no (by rw[if_neg h1,if_neg h3,if_neg h4]);exact⟨hfl.symm,λ_=>this,λh=>by cases h⟩
 ·have:sg p v t=true:=φ.2 λj hj=>hall j (by have:=γp.1 hj;omega);rw[this];rfl
def mA (p:bn) (n:dj):Bool:=!(decide (n.1=1)&&decide ((n.2.2.2.2.length:Int)≠df p))
def uU (p:bn) (v:Int) (t:List dj):Int:=
 if bz p≠0 then bz p else if t.length=0 then 1 else if 65536<t.length then 3 else if dT t=false then 2 else if t.all (mA p)=false then 2 else if sg p v t=true then 0 else 13
def wR (p:bn) (v:Int) (t:List dj):Prop:=(∀n∈t,∀x∈n.2.2.2.2,iW x)/\t.length<=1000000000000/\(bz p=0->dT t=true->t.all (mA p)=true->LO p v t)
def LU:bM:=⟨39,bn×Int×List dj,.cons dO (.cons (eZ .i64) (.one (dL bF))),λa=>wR a.1 a.2.1 a.2.2,λa=> .si .i64 (uU a.1 a.2.1 a.2.2)⟩
def afV (p:bn) (v:Int) (t:List dj):Nat->cC
 |12=> .inv Int (λi=>⟨[(1,.si .i64 v),(2,.row bF t),(3,.ptr 0 0 20),(8,.si .i64 (df p)),(30,.row bF t),(31,.si .i64 t.length),(32,.si .i64 i)],[.cells p.ss 27 20 false]⟩)
   (λs=>iS s 32) (λi=>0<=i/\i<=t.length/\∀j:Nat,j<i->mA p (bj t j bF.dflt)=true) (λi=>(t.length - i).toNat) λ_ _=> .look
 |_=> .look
theorem h473:Holds Tryz.prog LU:=by
 refine cH (L:=[po,Lt,yk,LS]) LU (λa=>afV a.1 a.2.1 a.2.2) (by grind[h79,h480,h335,h481]) ?_;rintro⟨p,v,t⟩ ⟨hdg,htl,hok⟩;simp only at hdg htl hok;refine bQ (let a:=γg .i64;let b:=(0:Int);let c:=γA .i64;let d:=Ω;let o:=decide (bz p≠b);let f:=a (uU p v t);let h:=(↑t.length:Int);let q:=decide (h=b);let r:=decide ((65536:Int)<h);let i:=γP 0 0 20;let l:=a (df p);let e:=(↑t.length:Int);let m:=a e;let k:=bq.cells (bn.ss p) 27 20 false;True/\(o=true->(a (bz p)).same f)/\(o=false->(q=true->(c 1).same f)/\(q=false->(r=true->(c 3).same f)/\(r=false->(∀(n:dj),n∈t->∀(x:bL),x∈n.snd.snd.snd.snd->iW x)/\((!dT t)=true->(c 2).same f)/\((!dT t)=false->True/\((((a v).same (a v)/\(d bF t).same (d bF t)/\i.same i/\(a (if bz p=b then df p else b)).same l/\(d bF t).same (d bF t)/\(a h).same m/\(c 0).same (a 0)/\True)/\k.same k/\True)/\b<=b/\b<=e/\∀(j:Nat),(↑j:Int)<b->mA p (bj t j bF.dflt)=true)/\∀(x:Int),let g:=x+(1:Int);let s:=a g;let w:=bj t x.toNat bF.dflt;let y:=cq .i64 g/\(((a v).same (a v)/\(d bF t).same (d bF t)/\i.same i/\l.same l/\(d bF t).same (d bF t)/\m.same m/\s.same s/\True)/\k.same k/\True)/\(b<=g/\g<=e/\∀(j:Nat),(↑j:Int)<g->mA p (bj t j bF.dflt)=true)/\(e - g).toNat<(e - x).toNat;let z:=λ(u:Bool) ↦decide ((↑(γc w.snd.snd.snd.snd):Int)≠df p)=u;let A:=λ(u:Bool) ↦decide (w.fst=(1:Int))=u;(b<=x/\x<=e/\∀(j:Nat),(↑j:Int)<x->mA p (bj t j bF.dflt)=true)->(decide (x<e)=true->b<=x/\x<h/\x.toNat<t.length/\(A true->(z true->(c 2).same f)/\(z false->y))/\(A false->y))/\(decide (x<e)=false->LO p v t/\(a (if sg p v t=true then b else(13:Int))).same f)))))) (by kernel_rfl) ?_;simp only[vcs];unfold uU;refine⟨λh=>by rw[if_pos h],λh=>?_⟩;rw[if_neg h];have hc:bz p=0:=γf.1 h;refine⟨λh1=>by omega,λh1=>?_⟩;rw[if_neg (show ¬t.length=0 by omega)];refine⟨λh2=>by omega,λh2=>?_⟩;rw[if_neg (show ¬65536<t.length by omega)];refine⟨hdg,λh3=>by rw[if_pos h3],λh3=>?_⟩;have hnt:¬dT t=false:=by simp_all
 rw[if_neg hnt,if_pos hc];refine⟨⟨rfl,by omega,by omega,λj hj=>by omega⟩,?_⟩;rintro i ⟨i0,i1,hall⟩;refine⟨λhi=>?_,λhi=>?_⟩
 ·have hm:=dq (d:=bF.dflt) (show i.toNat<t.length by omega);have next:mA p (bj t i.toNat bF.dflt)=true->∀j:Nat,(j:Int)<i+1->mA p (bj t j bF.dflt)=true:=λhr j hj=>by
   grind
  have no:mA p (bj t i.toNat bF.dflt)=false->t.all (mA p)=false:=λhr=>by
   grind
  refine⟨i0,hi,by omega,λh4=>⟨λh5=>?_,λh5=>⟨by omega,⟨by omega,by omega,next ?_⟩,by omega⟩⟩,λh4=>⟨by omega,⟨by omega,by omega,next ?_⟩,by omega⟩⟩;·simp_all[mA]
  all_goals grind[mA]
 ·have ha:t.all (mA p)=true:=φ.2 λn hn=>by
   obtain⟨j,hj,rfl⟩:=γJ hn;grind[cV]
  simp_all
@[reducible] def sRs:bp:=.pair (.bD (.i .i64)) (.pair (.i .i64) (.bD bF))
def uV (p:bn) (r:List Int×Int×List dj):Int:=if di p r.1≠0 then di p r.1 else if ef p r.1≠r.2.1 then 13 else uU p r.2.1 r.2.2
def LV:bM:=⟨22,bn×List Int×Int×List dj,.cons dO (.one (dY sRs)),λa=>a.2.1.length<=1000000000000/\(di a.1 a.2.1=0->ef a.1 a.2.1=a.2.2.1->wR a.1 a.2.2.1 a.2.2.2),λa=> .si .i64 (uV a.1 a.2)⟩
theorem h474:Holds Tryz.prog LV:=by
 refine cH (L:=[ya,E0,LU]) LV lk (by grind[h100,h437,h473]) ?_;rintro⟨p,c,w,t⟩ ⟨g,a⟩;simp only at g a;refine bQ (let a:=γg .i64;let d:=decide (di p c≠(0:Int));let b:=a (uV p (c,w,t));let e:=decide (ef p c≠w);c.length<=9223372036854775807/\(d=true->(a (di p c)).same b)/\(d=false->(bz p=(0:Int)/\c.length<=9223372036854775807)/\(e=true->(γA .i64 13).same b)/\(e=false->wR p w t/\(a (uU p w t)).same b))) (by kernel_rfl) ?_;simp only[vcs];unfold uV;refine⟨by omega,λh=>by rw[if_pos h],λh=>?_⟩;rw[if_neg h];have f:di p c=0:=γf.1 h;have i:bz p=0:=by
  unfold di at f;omega
 grind
theorem afX {p:bn} {f:List Int} {d:Int} (h:f.length=p.offers.length):eL p.offers.length (bE f d):=⟨uP,λi a=>by grind[kQ]⟩
theorem zc {a:Type} {l:List a} {i:Nat} {x d:a} (h:l[i]?=some x):bj l i d=x/\i<l.length:=by
 grind[bj]
theorem ji.top {p:bn} {v:Int} {t:List dj} {a lo b:Nat} {f:List Int} (h:ji p v t a f lo b):a<t.length/\(lo<b->b<=t.length):=by
 induction h with
 |bnd c _ _=>grind;|con c _=>grind;|@tn a f lo d b k c _ _ _ g e i j=>
  omega
theorem afY {p:bn} {f:List Int} (h:j6 p f=true):eV p f:=by
 unfold j6 at h;rw[θ,decide_eq_true_eq] at h;obtain⟨a,b⟩:=h;unfold jg at a;split at a;·omega
 ·rename_i d;split at a;·cases a
  ·rename_i c;exact⟨γf.1 d,γf.1 c,b⟩
theorem Vr {p:bn} {f:List Int} (h:j6 p f=true):Sz 1000002 (jh p f):=by
 have a:=afY h;have c:=@Bv p a.1 f f.length a.2.1;rw[ψ] at c;have d:Sz 1 ((gC p f:Int):Rat):=by
  unfold Sz;rw[Rat.num_intCast,Rat.den_intCast];omega
 have b:Sz 1000000 (dx p f).value:=((EB a).wG (oJ a).1).2.2.2;exact(Bg d b).mono (by omega)
theorem afZ {n:Nat} (hD:ec Tryz.prog (E3 n)):ec Tryz.prog (wM (n+1)):=by
 refine Z5 (L:=[oH,yC,KV,K2]) (W:=[K0,K1,By,E3 n]) (wM (n+1)) (fG 72) lk (by simpa using⟨h390w,h446,h439,hD⟩) (by simpa using⟨h94,h97,h445,h447⟩) ?_;rintro⟨⟨p,ch,val,found,en,k1,k2,most,err,prf,fx⟩,a⟩ ⟨hok,ha,hn⟩;simp only at hok ha hn;have e1:k1=prf.length:=hok.k1;have e2:k2=fx.length:=hok.k2;subst e1;subst e2;have hf:eJ p fx:=hok.f;have h160:=(dQ hf.c).2.1;have hfl:fx.length=p.offers.length:=hf.l;have hfe:=hf.e;have hfo:=hf.j6;have hv0:0<=val:=hok.v0;have hv1:val<=9223372036854775806:=hok.v1;have hm0:1<=most:=hok.m0;have hm1:most<=65536:=hok.m1;have hpl:prf.length<=65536:=hok.l;rcases en with _|m
 ·refine bQ (let b:=γg .i64;let c:=(0:Int);let d:=(1:Int);let e:=bq.cells;let f:=SV.bI;let g:=bq.row;let h:=cq .i64;let j:=(-9223372036854775808:Int);let k:=(-1:Int);let l:=(9223372036854775807:Int);let m:=(2:Int);let o:=Ω;let q:=γx;let r:=γZ;let v:=vL (ku p fx);let x:=b p.supply.a0;let y:=b p.supply.a1;let z:=b p.supply.a2;let A:=b p.supply.a3;let B:=b p.supply.a4;let C:=b p.supply.a5;let D:=b p.opn.a0;let E:=b p.opn.a1;let F:=b p.opn.a2;let G:=b p.opn.a3;let H:=b p.opn.a4;let I:=b p.opn.a5;let J:=b p.cls.a0;let K:=b p.cls.a1;let L:=b p.cls.a2;let M:=b p.cls.a3;let N:=b p.cls.a4;let O:=b p.cls.a5;let U:=bp.i .i64;let P:=o U p.classes;let Q:=o bp.off p.offers;let ag:=o U ch;let ah:=b val;let R:=SV.fn (Fn.func 70) [] [];let ai:=r 1 prf.length 5;let V:=r 2 fx.length 1;let W:=b most;let aw:=[V,W,γA .i64 12];let ax:=dc.mk ch val found prf err;let a7:=dF p (cy none) most (nF fx) ax a fx;let X:=e [x,y,z,A,B,C,D,E,F,G,H,I,J,K,L,M,N,O,P,Q,o U a7.ch,b a7.val,q a7.found,R,r 1 a7.prf.length 5,V,W,b a7.err] 126 28 false;let an:=g bF prf 108 true;let Y:=g bF a7.prf 108 true;let t:=g U fx 3 true;let Z:=(↑prf.length:Int);let ay:=decide (most<Z+m);let az:=prf.length+2;let a8:=Z+d;let ao:=(c,c,c,[]);let aj:=[(c,ao),(c,ao)];let z53:Nat:=(prf++aj).length;let w:=(jR v).getD c;let ap:=(prf++aj).set a.toNat (m,w,Z,a8,[]);let a9:=w.toNat;let ac:=fx.set a9 d;let S:=dF p (cy none) most (nF ac) (dc.mk ch val found ap err) a8 ac;let ad:=fx.set a9 k;let aa:=dF p (cy none) most (nF ad) S Z ad;let ak:=((kr p fx).fst,(kr p fx).snd.fst,(kr p fx).snd.snd);let al:=val+d;let aq:=bu (κ al);let aA:=(aq.fst,aq.snd.fst,aq.snd.snd);let aB:=iU (bW ak) (bW aA);let aC:=decide (aB<c);let aD:=(d,c,c,c,qR p fx);let s:=dV (cy none) ax (Alloc.mk (eE v) (cM (List.map (oI p) (eE v))));let z69:Nat:=(s.prf++aj).length;let ae:=s.prf.length;let am:=s.val+d;let ar:=bu (κ am);let ab:=(↑ae:Int);let aE:=decide (err≠c);let aF:=decide (jg p fx≠c);let a6:=s.prf.length;let af:=ab+d;let au:=(s.prf++aj).set a.toNat (m,w,ab,af,[]);let T:=dF p (cy none) most (nF ac) (dc.mk s.ch s.val s.found au s.err) af ac;let aG:=dF p (cy none) most (nF ad) T ab ad;let aT:=let aH:=(f []).same (f [])/\(e (x::y::z::A::B::C::D::E::F::G::H::I::J::K::L::M::N::O::P::Q::ag::ah::q found::R::ai::aw) 126 28 false).same X/\an.same Y/\t.same t/\True;pD (ku p fx)/\((!(jR v).isSome)=true->aH)/\((!(jR v).isSome)=false->h (Z+m)/\(ay=true->aH)/\(ay=false->2=2/\prf.length=prf.length/\az*56<=140737488355328/\az<=1000000000000/\h a8/\z53=z53/\c<=a/\a<(↑z53:Int)/\z53=z53/\a.toNat<z53/\h a8/\(fp (dI.mk p ch val found none z53 fx.length most err ap fx)/\(c<=a8/\a8<(↑ap.length:Int))/\(c<=w/\w<(↑fx.length:Int))/\bj fx a9 c=c/\(d=d\/d=k)/\nF ac<n)/\(fp (dI.mk p S.ch S.val S.found none S.prf.length fx.length most S.err S.prf fx)/\(c<=Z/\Z<(↑S.prf.length:Int))/\(c<=w/\w<(↑fx.length:Int))/\bj fx a9 c=c/\(k=d\/k=k)/\nF ad<n)/\(f []).same (f [])/\(e [x,y,z,A,B,C,D,E,F,G,H,I,J,K,L,M,N,O,P,Q,o U aa.ch,b aa.val,q aa.found,R,r 1 aa.prf.length 5,V,W,b aa.err] 126 28 false).same X/\(g bF aa.prf 108 true).same Y/\t.same t/\True));let aI:=(cE ak/\cE aA)/\(aC=true->prf.length=prf.length/\c<=a/\a<(↑prf.length:Int)/\prf.length=prf.length/\a.toNat<prf.length/\(f []).same (f [])/\(e [x,y,z,A,B,C,D,E,F,G,H,I,J,K,L,M,N,O,P,Q,ag,ah,q found,R,ai,V,W,b err] 126 28 false).same X/\(g bF (prf.set a.toNat aD) 108 true).same Y/\t.same t/\True)/\(aC=false->aT);let aJ:=z69=z69;let aK:=(f []).same (f [])/\(e (x::y::z::A::B::C::D::E::F::G::H::I::J::K::L::M::N::O::P::Q::o U s.ch::b s.val::q s.found::R::r 1 ae 5::aw) 126 28 false).same X/\(g bF s.prf 108 true).same Y/\t.same t/\True;let aL:=(f []).same (f [])/\(e [x,y,z,A,B,C,D,E,F,G,H,I,J,K,L,M,N,O,P,Q,ag,ah,q found,R,ai,V,W,b err] 126 28 false).same X/\an.same Y/\t.same t/\True;let aM:=λ(u:dc) (u_1:bq) ↦(f []).same (f [])/\(e [x,y,z,A,B,C,D,E,F,G,H,I,J,K,L,M,N,O,P,Q,o U u.ch,b u.val,q u.found,R,r 1 u.prf.length 5,V,W,b u.err] 126 28 false).same X/\u_1.same Y/\t.same t/\True;let aN:=λ(u:dI) (u_1:Int) (u_2:Nat) (u_3:Int) ↦fp u/\(c<=u_1/\u_1<(↑u_2:Int))/\(c<=w/\w<(↑fx.length:Int))/\bj fx a9 c=c/\(u_3=d\/u_3=k)/\nF (fx.set a9 u_3)<n;let aO:=λ(u:Int) (u_1:bq) ↦(f []).same (f [])/\(e [x,y,z,A,B,C,D,E,F,G,H,I,J,K,L,M,N,O,P,Q,ag,ah,q found,R,ai,V,W,b u] 126 28 false).same X/\u_1.same Y/\t.same t/\True;let aP:=λ(u:Bool) ↦decide (iU (bW ak) (bW (ar.fst,ar.snd.fst,ar.snd.snd))<c)=u;let aQ:=λ(u:Bool) ↦decide (c<=aB)=u;let aR:=λ(u:Int) ↦let av:=bu (κ (u+d));cE ak/\cE (av.fst,av.snd.fst,av.snd.snd);let aS:=λ(u:Bool) ↦decide (most<ab+m)=u;(aE=true->aL)/\(aE=false->(found=true->aL)/\(found=false->(fx.length=fx.length/\fx.length<=1000000000000)/\(aF=true->aO (jg p fx) an)/\(aF=false->((!j6 p fx)=true->prf.length=prf.length/\c<=a/\a<(↑prf.length:Int)/\prf.length=prf.length/\a.toNat<prf.length/\aO err (g bF (prf.set a.toNat ((3:Int),ao)) 108 true))/\((!j6 p fx)=false->h al/\(j<=al/\al<=l)/\aR val/\(aQ true->pD (ku p fx)/\(mU v=true->(fp (dI.mk p ch val found none prf.length fx.length most err prf fx)/\pD (ku p fx)/\(ku p fx).length=p.offers.length)/\prf.length=prf.length/\h am/\(j<=am/\am<=l)/\aR s.val/\(aP true->ae=a6/\c<=a/\a<(↑a6:Int)/\ae=a6/\a.toNat<a6/\aM s (g bF (s.prf.set a.toNat aD) 108 true))/\(aP false->pD (ku p fx)/\((!(jR v).isSome)=true->aK)/\((!(jR v).isSome)=false->h (ab+m)/\(aS true->aK)/\(aS false->2=2/\ae=a6/\(a6+2)*56<=140737488355328/\a6+2<=1000000000000/\h af/\aJ/\c<=a/\a<(↑z69:Int)/\aJ/\a.toNat<z69/\h af/\aN (dI.mk p s.ch s.val s.found none z69 fx.length most s.err au fx) af au.length d/\aN (dI.mk p T.ch T.val T.found none T.prf.length fx.length most T.err T.prf fx) ab T.prf.length k/\aM aG (g bF aG.prf 108 true)))))/\(mU v=false->aI))/\(aQ false->aI)))))) (by kernel_rfl) ?_;simp only[vcs];refine⟨λh=>by rw[BE hf (.inl h)];exact⟨rfl,rfl⟩,λh0=>⟨λh=>by rw[BE hf (.inr h)];exact⟨rfl,rfl⟩,λh1=>⟨by omega,λh=>absurd hfe h,λ_=>⟨λh=>?_,λhb=>?_⟩⟩⟩⟩
  ·have hs:¬((⟨ch,val,found,prf,err⟩:dc).err≠0\/(⟨ch,val,found,prf,err⟩:dc).found=true):=by
    rintro(h|h);·exact h0 h
    ·rw[show found=true from h] at h1;cases h1
   rw[UT hf hs (by rw[<-hfo];exact h)];refine⟨ha.1,ha.2,by omega,?_,rfl⟩;simp only[Φ];rfl
  ·have hs:¬((⟨ch,val,found,prf,err⟩:dc).err≠0\/(⟨ch,val,found,prf,err⟩:dc).found=true):=by
    rintro(h|h);·exact h0 h
    ·rw[show found=true from h] at h1;cases h1
   have hbf:ic p fx=true:=by rw[<-hfo];exact hb
   have hfix:=hf.ok hbf;have eB:kr p fx=bu (jh p fx):=by unfold kr;rw[if_pos hb]
   have eS:ku p fx=fL (dD p fx):=by unfold ku dD;rw[if_pos hb]
   have eP:qR p fx=fL (iD p fx):=by unfold qR;rw[if_pos hb]
   have hsl:(dD p fx).length=fx.length:=rR;have oS:pD (fL (dD p fx)):=⟨dD p fx,rfl,by rw[fF];omega,λq hq=>by
    obtain⟨i,hi,rfl⟩:=γJ hq;have:=(EN hfix hf.r (i:=i) (by omega)).2.2;rwa [cV hi] at this⟩;have fB:cE (bu (jh p fx)):=dN (Vr hb) (by omega);have fI:∀v:Int,0<=v->v<=9223372036854775807->cE (bu (κ v)):=λv h0 h1=>dN (rX (by omega) h1) (by omega);have hcv:∀v:Int,iU (jh p fx) (κ v)<0↔jh p fx<((v:Int):Rat):=λv=>tq;simp only[eB,eS,eP,kO,jO,ez];have hcm:eE (dD p fx)=(pC p fx).chosen:=rfl;refine⟨by omega,by omega,⟨fB,fI _ (by omega) (by omega)⟩,λhge=>⟨oS,λhi=>?_,λhi=>?_⟩,λhlt=>?_⟩
   ·have hO:dp p (cy none) ⟨ch,val,found,prf,err⟩ fx=dV (cy none) ⟨ch,val,found,prf,err⟩ ⟨eE (dD p fx),cM ((eE (dD p fx)).map (oI p))⟩:=by
     unfold dp;rw[if_pos ⟨ε4.1 λh=>absurd ((hcv (val+1)).2 h) (Int.not_lt.2 hge),hi⟩];rfl
    have hok':fp (dI.upd ⟨p,ch,val,found,none,prf.length,fx.length,most,err,prf,fx⟩ (dp p (cy none) ⟨ch,val,found,prf,err⟩ fx)):=hok.UU;rw[hO] at hok';obtain⟨e1,e2,_⟩:=@ES (cy none) ⟨ch,val,found,prf,err⟩ ⟨eE (dD p fx),cM ((eE (dD p fx)).map (oI p))⟩;generalize dV (cy none) ⟨ch,val,found,prf,err⟩ ⟨eE (dD p fx),cM ((eE (dD p fx)).map (oI p))⟩=O at*;obtain⟨ch',val',found',prf',tB⟩:=O;have e1:prf=prf':=Eq.symm e1;have e2:err=tB:=Eq.symm e2;subst e1;subst e2;have w0:0<=val':=hok'.v0;have w1:val'<=9223372036854775806:=hok'.v1;dsimp only;refine⟨⟨hok,oS,by rw[fF];omega⟩,by omega,by omega,⟨fB,fI _ (by omega) (by omega)⟩,?_⟩;refine⟨λh=>?_,λh=>⟨oS,λhk=>?_,λhk=>⟨by omega,λhm=>?_,λhm=>?_⟩⟩⟩
    ·rw[yX hf hs hbf hO ((hcv _).1 h)];refine⟨ha.1,ha.2,by omega,?_,rfl⟩;simp only[Φ];rfl
    ·rw[qc hf hs hbf hO (λh'=>h ((hcv _).2 h')) (.inl (γ5.1 hk |>γN.1))];exact⟨rfl,rfl⟩
    ·rw[qc hf hs hbf hO (λh'=>h ((hcv _).2 h')) (.inr hm)];exact⟨rfl,rfl⟩
    ·obtain⟨k,hk'⟩:=γq.1 hk;rw[yY hf hs hbf hO (λh'=>h ((hcv _).2 h')) hk' hm];simp only[hk',γ6];obtain⟨hk1,hk2,hk3⟩:=tj hk';rw[hsl] at hk1;have hk0:bj fx k.toNat 0=0:=tg hfix hf.r (by omega) hk2 hk3;have n1:=my hk1 hk0 (d:=1) (by omega);have n2:=my hk1 hk0 (d:= -1) (by omega);have hl2:((prf++[zN,zN]).set a.toNat (j7 k prf.length)).length=prf.length+2:=by rw[Φ,γi];rfl
     have hl1:(prf++[zN,zN]).length=prf.length+2:=by rw[γi];rfl
     have o1:=fp.spl (x:=⟨p,ch',val',found',none,prf.length,fx.length,most,tB,prf,fx⟩) hok' (k:=(prf++[zN,zN]).length) (l:=(prf++[zN,zN]).set a.toNat (j7 k prf.length)) hm (by rw[hl1,hl2]) hl2;have o2:=o1.vis (f:=fx.set k.toNat 1) (hf.set (by omega)) (n:=nF (fx.set k.toNat 1)) (a:=(prf.length:Int)+1);have o3:=(@rT p (cy none) most (nF (fx.set k.toNat 1)) (gG ⟨ch',val',found',prf,tB⟩ a k) ((prf.length:Int)+1) (fx.set k.toNat 1) (hf.set (by omega))).1;have o4:prf.length+2<=(dF p (cy none) most (nF (fx.set k.toNat 1)) (gG ⟨ch',val',found',prf,tB⟩ a k) ((prf.length:Int)+1) (fx.set k.toNat 1)).prf.length:=by rw[<-hl2];exact o3
     have q1:a<((prf++[zN,zN]).length:Int):=by omega
     have q3:(prf.length:Int)+1<(((prf++[zN,zN]).set a.toNat (j7 k prf.length)).length:Int):=by rw[hl2];omega
     have q2:a.toNat<(prf++[zN,zN]).length:=by omega
     exact⟨by omega,by omega,by omega,ha.1,q1,q2,by omega,⟨o1,⟨by omega,q3⟩,hk1,hk0,.inl trivial,by omega⟩,⟨o2,⟨by omega,εX.2 (γh (by omega) o4)⟩,hk1,hk0,.inr trivial,by omega⟩,rfl,rfl⟩
   ·have hO:dp p (cy none) ⟨ch,val,found,prf,err⟩ fx=⟨ch,val,found,prf,err⟩:=by
     unfold dp;rw[if_neg (λh=>by rw[h.2] at hi;cases hi)]
    refine⟨⟨fB,fI _ (by omega) (by omega)⟩,?_⟩;refine⟨λh=>?_,λh=>⟨oS,λhk=>?_,λhk=>⟨by omega,λhm=>?_,λhm=>?_⟩⟩⟩
    ·rw[yX hf hs hbf hO ((hcv _).1 h)];refine⟨ha.1,ha.2,by omega,?_,rfl⟩;simp only[Φ];rfl
    ·rw[qc hf hs hbf hO (λh'=>h ((hcv _).2 h')) (.inl (γ5.1 hk |>γN.1))];exact⟨rfl,rfl⟩
    ·rw[qc hf hs hbf hO (λh'=>h ((hcv _).2 h')) (.inr hm)];exact⟨rfl,rfl⟩
    ·obtain⟨k,hk'⟩:=γq.1 hk;rw[yY hf hs hbf hO (λh'=>h ((hcv _).2 h')) hk' hm];simp only[hk',γ6];obtain⟨hk1,hk2,hk3⟩:=tj hk';rw[hsl] at hk1;have hk0:bj fx k.toNat 0=0:=tg hfix hf.r (by omega) hk2 hk3;have n1:=my hk1 hk0 (d:=1) (by omega);have n2:=my hk1 hk0 (d:= -1) (by omega);have hl2:((prf++[zN,zN]).set a.toNat (j7 k prf.length)).length=prf.length+2:=by rw[Φ,γi];rfl
     have hl1:(prf++[zN,zN]).length=prf.length+2:=by rw[γi];rfl
     have o1:=fp.spl hok (k:=(prf++[zN,zN]).length) (l:=(prf++[zN,zN]).set a.toNat (j7 k prf.length)) hm (by rw[hl1,hl2]) hl2;have o2:=o1.vis (f:=fx.set k.toNat 1) (hf.set (by omega)) (n:=nF (fx.set k.toNat 1)) (a:=(prf.length:Int)+1);have o3:=(@rT p (cy none) most (nF (fx.set k.toNat 1)) (gG ⟨ch,val,found,prf,err⟩ a k) ((prf.length:Int)+1) (fx.set k.toNat 1) (hf.set (by omega))).1;have o4:prf.length+2<=(dF p (cy none) most (nF (fx.set k.toNat 1)) (gG ⟨ch,val,found,prf,err⟩ a k) ((prf.length:Int)+1) (fx.set k.toNat 1)).prf.length:=by rw[<-hl2];exact o3
     have q1:a<((prf++[zN,zN]).length:Int):=by omega
     have q3:(prf.length:Int)+1<(((prf++[zN,zN]).set a.toNat (j7 k prf.length)).length:Int):=by rw[hl2];omega
     have q2:a.toNat<(prf++[zN,zN]).length:=by omega
     exact⟨by omega,by omega,by omega,ha.1,q1,q2,by omega,⟨o1,⟨by omega,q3⟩,hk1,hk0,.inl trivial,by omega⟩,⟨o2,⟨by omega,εX.2 (γh (by omega) o4)⟩,hk1,hk0,.inr trivial,by omega⟩,rfl,rfl⟩
   ·have hO:dp p (cy none) ⟨ch,val,found,prf,err⟩ fx=⟨ch,val,found,prf,err⟩:=by
     unfold dp;rw[if_neg (λh=>ε4.2 h.1 ((hcv (val+1)).1 (Int.not_le.1 hlt)))]
    refine⟨⟨fB,fI _ (by omega) (by omega)⟩,?_⟩;refine⟨λh=>?_,λh=>⟨oS,λhk=>?_,λhk=>⟨by omega,λhm=>?_,λhm=>?_⟩⟩⟩
    ·rw[yX hf hs hbf hO ((hcv _).1 h)];refine⟨ha.1,ha.2,by omega,?_,rfl⟩;simp only[Φ];rfl
    ·rw[qc hf hs hbf hO (λh'=>h ((hcv _).2 h')) (.inl (γ5.1 hk |>γN.1))];exact⟨rfl,rfl⟩
    ·rw[qc hf hs hbf hO (λh'=>h ((hcv _).2 h')) (.inr hm)];exact⟨rfl,rfl⟩
    ·obtain⟨k,hk'⟩:=γq.1 hk;rw[yY hf hs hbf hO (λh'=>h ((hcv _).2 h')) hk' hm];simp only[hk',γ6];obtain⟨hk1,hk2,hk3⟩:=tj hk';rw[hsl] at hk1;have hk0:bj fx k.toNat 0=0:=tg hfix hf.r (by omega) hk2 hk3;have n1:=my hk1 hk0 (d:=1) (by omega);have n2:=my hk1 hk0 (d:= -1) (by omega);have hl2:((prf++[zN,zN]).set a.toNat (j7 k prf.length)).length=prf.length+2:=by rw[Φ,γi];rfl
     have hl1:(prf++[zN,zN]).length=prf.length+2:=by rw[γi];rfl
     have o1:=fp.spl hok (k:=(prf++[zN,zN]).length) (l:=(prf++[zN,zN]).set a.toNat (j7 k prf.length)) hm (by rw[hl1,hl2]) hl2;have o2:=o1.vis (f:=fx.set k.toNat 1) (hf.set (by omega)) (n:=nF (fx.set k.toNat 1)) (a:=(prf.length:Int)+1);have o3:=(@rT p (cy none) most (nF (fx.set k.toNat 1)) (gG ⟨ch,val,found,prf,err⟩ a k) ((prf.length:Int)+1) (fx.set k.toNat 1) (hf.set (by omega))).1;have o4:prf.length+2<=(dF p (cy none) most (nF (fx.set k.toNat 1)) (gG ⟨ch,val,found,prf,err⟩ a k) ((prf.length:Int)+1) (fx.set k.toNat 1)).prf.length:=by rw[<-hl2];exact o3
     have q1:a<((prf++[zN,zN]).length:Int):=by omega
     have q3:(prf.length:Int)+1<(((prf++[zN,zN]).set a.toNat (j7 k prf.length)).length:Int):=by rw[hl2];omega
     have q2:a.toNat<(prf++[zN,zN]).length:=by omega
     exact⟨by omega,by omega,by omega,ha.1,q1,q2,by omega,⟨o1,⟨by omega,q3⟩,hk1,hk0,.inl trivial,by omega⟩,⟨o2,⟨by omega,εX.2 (γh (by omega) o4)⟩,hk1,hk0,.inr trivial,by omega⟩,rfl,rfl⟩
 ·refine bQ (let b:=γg .i64;let c:=(0:Int);let d:=bq.cells;let e:=(1:Int);let f:=SV.bI;let g:=bq.row;let h:=cq .i64;let j:=(-9223372036854775808:Int);let k:=(-1:Int);let l:=(9223372036854775807:Int);let o:=(2:Int);let q:=Ω;let r:=γx;let s:=γZ;let ai:=((kr p fx).fst,(kr p fx).snd.fst,(kr p fx).snd.snd);let aj:=val+e;let ap:=bu (κ aj);let ay:=(ap.fst,ap.snd.fst,ap.snd.snd);let az:=iU (bW ai) (bW ay);let aA:=decide (az<c);let z:=b p.supply.a0;let A:=b p.supply.a1;let B:=b p.supply.a2;let C:=b p.supply.a3;let D:=b p.supply.a4;let E:=b p.supply.a5;let F:=b p.opn.a0;let G:=b p.opn.a1;let H:=b p.opn.a2;let I:=b p.opn.a3;let J:=b p.opn.a4;let K:=b p.opn.a5;let L:=b p.cls.a0;let M:=b p.cls.a1;let N:=b p.cls.a2;let O:=b p.cls.a3;let P:=b p.cls.a4;let Q:=b p.cls.a5;let W:=bp.i .i64;let R:=q W p.classes;let S:=q bp.off p.offers;let ak:=q W ch;let al:=b val;let T:=SV.fn (Fn.func 116) [] [γP 1 0 1];let am:=s 2 prf.length 5;let X:=s 3 fx.length 1;let Y:=b most;let aB:=dc.mk ch val found prf err;let a9:=dF p (cy (some m)) most (nF fx) aB a fx;let Z:=d [z,A,B,C,D,E,F,G,H,I,J,K,L,M,N,O,P,Q,R,S,q W a9.ch,b a9.val,r a9.found,T,s 2 a9.prf.length 5,X,Y,b a9.err] 126 28 false;let v:=d [b m] 2 1 false;let aC:=(e,c,c,c,qR p fx);let a6:=g bF a9.prf 108 true;let w:=g W fx 3 true;let x:=vL (ku p fx);let aD:=[X,Y,γA .i64 12];let aq:=g bF prf 108 true;let a7:=(↑prf.length:Int);let aE:=decide (most<a7+o);let aF:=prf.length+2;let aa:=a7+e;let ar:=(c,c,c,[]);let an:=[(c,ar),(c,ar)];let z61:Nat:=(prf++an).length;let y:=(jR x).getD c;let au:=(prf++an).set a.toNat (o,y,a7,aa,[]);let ab:=y.toNat;let ae:=fx.set ab e;let U:=dF p (cy (some m)) most (nF ae) (dc.mk ch val found au err) aa ae;let af:=fx.set ab k;let ac:=dF p (cy (some m)) most (nF af) U a7 af;let t:=dV (cy (some m)) aB (Alloc.mk (eE x) (cM (List.map (oI p) (eE x))));let ag:=t.prf.length;let z71:Nat:=(t.prf++an).length;let ao:=t.val+e;let av:=bu (κ ao);let ad:=(↑ag:Int);let aG:=decide (err≠c);let aH:=decide (jg p fx≠c);let a8:=t.prf.length;let ah:=ad+e;let aw:=(t.prf++an).set a.toNat (o,y,ad,ah,[]);let V:=dF p (cy (some m)) most (nF ae) (dc.mk t.ch t.val t.found aw t.err) ah ae;let aI:=dF p (cy (some m)) most (nF af) V ad af;let aV:=let aJ:=(f []).same (f [])/\(d (z::A::B::C::D::E::F::G::H::I::J::K::L::M::N::O::P::Q::R::S::ak::al::r found::T::am::aD) 126 28 false).same Z/\v.same v/\aq.same a6/\w.same w/\True;(aA=true->prf.length=prf.length/\c<=a/\a<(↑prf.length:Int)/\prf.length=prf.length/\a.toNat<prf.length/\(f []).same (f [])/\(d [z,A,B,C,D,E,F,G,H,I,J,K,L,M,N,O,P,Q,R,S,ak,al,r found,T,am,X,Y,b err] 126 28 false).same Z/\v.same v/\(g bF (prf.set a.toNat aC) 108 true).same a6/\w.same w/\True)/\(aA=false->pD (ku p fx)/\((!(jR x).isSome)=true->aJ)/\((!(jR x).isSome)=false->h (a7+o)/\(aE=true->aJ)/\(aE=false->2=2/\prf.length=prf.length/\aF*56<=140737488355328/\aF<=1000000000000/\h aa/\z61=z61/\c<=a/\a<(↑z61:Int)/\z61=z61/\a.toNat<z61/\h aa/\(fp (dI.mk p ch val found (some m) z61 fx.length most err au fx)/\(c<=aa/\aa<(↑au.length:Int))/\(c<=y/\y<(↑fx.length:Int))/\bj fx ab c=c/\(e=e\/e=k)/\nF ae<n)/\(fp (dI.mk p U.ch U.val U.found (some m) U.prf.length fx.length most U.err U.prf fx)/\(c<=a7/\a7<(↑U.prf.length:Int))/\(c<=y/\y<(↑fx.length:Int))/\bj fx ab c=c/\(k=e\/k=k)/\nF af<n)/\(f []).same (f [])/\(d [z,A,B,C,D,E,F,G,H,I,J,K,L,M,N,O,P,Q,R,S,q W ac.ch,b ac.val,r ac.found,T,s 2 ac.prf.length 5,X,Y,b ac.err] 126 28 false).same Z/\v.same v/\(g bF ac.prf 108 true).same a6/\w.same w/\True)));let aK:=(f []).same (f [])/\(d (z::A::B::C::D::E::F::G::H::I::J::K::L::M::N::O::P::Q::R::S::q W t.ch::b t.val::r t.found::T::s 2 ag 5::aD) 126 28 false).same Z/\v.same v/\(g bF t.prf 108 true).same a6/\w.same w/\True;let aL:=z71=z71;let aM:=(f []).same (f [])/\(d [z,A,B,C,D,E,F,G,H,I,J,K,L,M,N,O,P,Q,R,S,ak,al,r found,T,am,X,Y,b err] 126 28 false).same Z/\v.same v/\aq.same a6/\w.same w/\True;let aN:=(cE ai/\cE ay)/\aV;let aO:=λ(u:dc) (u_1:bq) ↦(f []).same (f [])/\(d [z,A,B,C,D,E,F,G,H,I,J,K,L,M,N,O,P,Q,R,S,q W u.ch,b u.val,r u.found,T,s 2 u.prf.length 5,X,Y,b u.err] 126 28 false).same Z/\v.same v/\u_1.same a6/\w.same w/\True;let aP:=λ(u:dI) (u_1:Int) (u_2:Nat) (u_3:Int) ↦fp u/\(c<=u_1/\u_1<(↑u_2:Int))/\(c<=y/\y<(↑fx.length:Int))/\bj fx ab c=c/\(u_3=e\/u_3=k)/\nF (fx.set ab u_3)<n;let aQ:=λ(u:Int) (u_1:bq) ↦(f []).same (f [])/\(d [z,A,B,C,D,E,F,G,H,I,J,K,L,M,N,O,P,Q,R,S,ak,al,r found,T,am,X,Y,b u] 126 28 false).same Z/\v.same v/\u_1.same a6/\w.same w/\True;let aR:=λ(u:Bool) ↦decide (iU (bW ai) (bW (av.fst,av.snd.fst,av.snd.snd))<c)=u;let aS:=λ(u:Bool) ↦decide (c<=az)=u;let aT:=λ(u:Int) ↦let ax:=bu (κ (u+e));cE ai/\cE (ax.fst,ax.snd.fst,ax.snd.snd);let aU:=λ(u:Bool) ↦decide (most<ad+o)=u;(aG=true->aM)/\(aG=false->(found=true->aM)/\(found=false->(fx.length=fx.length/\fx.length<=1000000000000)/\(aH=true->aQ (jg p fx) aq)/\(aH=false->((!j6 p fx)=true->prf.length=prf.length/\c<=a/\a<(↑prf.length:Int)/\prf.length=prf.length/\a.toNat<prf.length/\aQ err (g bF (prf.set a.toNat ((3:Int),ar)) 108 true))/\((!j6 p fx)=false->h aj/\(j<=aj/\aj<=l)/\aT val/\(aS true->pD (ku p fx)/\(mU x=true->(fp (dI.mk p ch val found (some m) prf.length fx.length most err prf fx)/\pD (ku p fx)/\(ku p fx).length=p.offers.length)/\prf.length=prf.length/\h ao/\(j<=ao/\ao<=l)/\aT t.val/\(aR true->ag=a8/\c<=a/\a<(↑a8:Int)/\ag=a8/\a.toNat<a8/\aO t (g bF (t.prf.set a.toNat aC) 108 true))/\(aR false->pD (ku p fx)/\((!(jR x).isSome)=true->aK)/\((!(jR x).isSome)=false->h (ad+o)/\(aU true->aK)/\(aU false->2=2/\ag=a8/\(a8+2)*56<=140737488355328/\a8+2<=1000000000000/\h ah/\aL/\c<=a/\a<(↑z71:Int)/\aL/\a.toNat<z71/\h ah/\aP (dI.mk p t.ch t.val t.found (some m) z71 fx.length most t.err aw fx) ah aw.length e/\aP (dI.mk p V.ch V.val V.found (some m) V.prf.length fx.length most V.err V.prf fx) ad V.prf.length k/\aO aI (g bF aI.prf 108 true)))))/\(mU x=false->aN))/\(aS false->aN)))))) (by kernel_rfl) ?_;simp only[vcs];refine⟨λh=>by rw[BE hf (.inl h)];exact⟨rfl,rfl⟩,λh0=>⟨λh=>by rw[BE hf (.inr h)];exact⟨rfl,rfl⟩,λh1=>⟨by omega,λh=>absurd hfe h,λ_=>⟨λh=>?_,λhb=>?_⟩⟩⟩⟩
  ·have hs:¬((⟨ch,val,found,prf,err⟩:dc).err≠0\/(⟨ch,val,found,prf,err⟩:dc).found=true):=by
    rintro(h|h);·exact h0 h
    ·rw[show found=true from h] at h1;cases h1
   rw[UT hf hs (by rw[<-hfo];exact h)];refine⟨ha.1,ha.2,by omega,?_,rfl⟩;simp only[Φ];rfl
  ·have hs:¬((⟨ch,val,found,prf,err⟩:dc).err≠0\/(⟨ch,val,found,prf,err⟩:dc).found=true):=by
    rintro(h|h);·exact h0 h
    ·rw[show found=true from h] at h1;cases h1
   have hbf:ic p fx=true:=by rw[<-hfo];exact hb
   have hfix:=hf.ok hbf;have eB:kr p fx=bu (jh p fx):=by unfold kr;rw[if_pos hb]
   have eS:ku p fx=fL (dD p fx):=by unfold ku dD;rw[if_pos hb]
   have eP:qR p fx=fL (iD p fx):=by unfold qR;rw[if_pos hb]
   have hsl:(dD p fx).length=fx.length:=rR;have oS:pD (fL (dD p fx)):=⟨dD p fx,rfl,by rw[fF];omega,λq hq=>by
    obtain⟨i,hi,rfl⟩:=γJ hq;have:=(EN hfix hf.r (i:=i) (by omega)).2.2;rwa [cV hi] at this⟩;have fB:cE (bu (jh p fx)):=dN (Vr hb) (by omega);have fI:∀v:Int,0<=v->v<=9223372036854775807->cE (bu (κ v)):=λv h0 h1=>dN (rX (by omega) h1) (by omega);have hcv:∀v:Int,iU (jh p fx) (κ v)<0↔jh p fx<((v:Int):Rat):=λv=>tq;simp only[eB,eS,eP,kO,jO,ez];have hcm:eE (dD p fx)=(pC p fx).chosen:=rfl;refine⟨by omega,by omega,⟨fB,fI _ (by omega) (by omega)⟩,λhge=>⟨oS,λhi=>?_,λhi=>?_⟩,λhlt=>?_⟩
   ·have hO:dp p (cy (some m)) ⟨ch,val,found,prf,err⟩ fx=dV (cy (some m)) ⟨ch,val,found,prf,err⟩ ⟨eE (dD p fx),cM ((eE (dD p fx)).map (oI p))⟩:=by
     unfold dp;rw[if_pos ⟨ε4.1 λh=>absurd ((hcv (val+1)).2 h) (Int.not_lt.2 hge),hi⟩];rfl
    have hok':fp (dI.upd ⟨p,ch,val,found,(some m),prf.length,fx.length,most,err,prf,fx⟩ (dp p (cy (some m)) ⟨ch,val,found,prf,err⟩ fx)):=hok.UU;rw[hO] at hok';obtain⟨e1,e2,_⟩:=@ES (cy (some m)) ⟨ch,val,found,prf,err⟩ ⟨eE (dD p fx),cM ((eE (dD p fx)).map (oI p))⟩;generalize dV (cy (some m)) ⟨ch,val,found,prf,err⟩ ⟨eE (dD p fx),cM ((eE (dD p fx)).map (oI p))⟩=O at*;obtain⟨ch',val',found',prf',tB⟩:=O;have e1:prf=prf':=Eq.symm e1;have e2:err=tB:=Eq.symm e2;subst e1;subst e2;have w0:0<=val':=hok'.v0;have w1:val'<=9223372036854775806:=hok'.v1;dsimp only;refine⟨⟨hok,oS,by rw[fF];omega⟩,by omega,by omega,⟨fB,fI _ (by omega) (by omega)⟩,?_⟩;refine⟨λh=>?_,λh=>⟨oS,λhk=>?_,λhk=>⟨by omega,λhm=>?_,λhm=>?_⟩⟩⟩
    ·rw[yX hf hs hbf hO ((hcv _).1 h)];refine⟨ha.1,ha.2,by omega,?_,rfl⟩;simp only[Φ];rfl
    ·rw[qc hf hs hbf hO (λh'=>h ((hcv _).2 h')) (.inl (γ5.1 hk |>γN.1))];exact⟨rfl,rfl⟩
    ·rw[qc hf hs hbf hO (λh'=>h ((hcv _).2 h')) (.inr hm)];exact⟨rfl,rfl⟩
    ·obtain⟨k,hk'⟩:=γq.1 hk;rw[yY hf hs hbf hO (λh'=>h ((hcv _).2 h')) hk' hm];simp only[hk',γ6];obtain⟨hk1,hk2,hk3⟩:=tj hk';rw[hsl] at hk1;have hk0:bj fx k.toNat 0=0:=tg hfix hf.r (by omega) hk2 hk3;have n1:=my hk1 hk0 (d:=1) (by omega);have n2:=my hk1 hk0 (d:= -1) (by omega);have hl2:((prf++[zN,zN]).set a.toNat (j7 k prf.length)).length=prf.length+2:=by rw[Φ,γi];rfl
     have hl1:(prf++[zN,zN]).length=prf.length+2:=by rw[γi];rfl
     have o1:=fp.spl (x:=⟨p,ch',val',found',(some m),prf.length,fx.length,most,tB,prf,fx⟩) hok' (k:=(prf++[zN,zN]).length) (l:=(prf++[zN,zN]).set a.toNat (j7 k prf.length)) hm (by rw[hl1,hl2]) hl2;have o2:=o1.vis (f:=fx.set k.toNat 1) (hf.set (by omega)) (n:=nF (fx.set k.toNat 1)) (a:=(prf.length:Int)+1);have o3:=(@rT p (cy (some m)) most (nF (fx.set k.toNat 1)) (gG ⟨ch',val',found',prf,tB⟩ a k) ((prf.length:Int)+1) (fx.set k.toNat 1) (hf.set (by omega))).1;have o4:prf.length+2<=(dF p (cy (some m)) most (nF (fx.set k.toNat 1)) (gG ⟨ch',val',found',prf,tB⟩ a k) ((prf.length:Int)+1) (fx.set k.toNat 1)).prf.length:=by rw[<-hl2];exact o3
     have q1:a<((prf++[zN,zN]).length:Int):=by omega
     have q3:(prf.length:Int)+1<(((prf++[zN,zN]).set a.toNat (j7 k prf.length)).length:Int):=by rw[hl2];omega
     have q2:a.toNat<(prf++[zN,zN]).length:=by omega
     exact⟨by omega,by omega,by omega,ha.1,q1,q2,by omega,⟨o1,⟨by omega,q3⟩,hk1,hk0,.inl trivial,by omega⟩,⟨o2,⟨by omega,εX.2 (γh (by omega) o4)⟩,hk1,hk0,.inr trivial,by omega⟩,rfl,rfl⟩
   ·have hO:dp p (cy (some m)) ⟨ch,val,found,prf,err⟩ fx=⟨ch,val,found,prf,err⟩:=by
     unfold dp;rw[if_neg (λh=>by rw[h.2] at hi;cases hi)]
    refine⟨⟨fB,fI _ (by omega) (by omega)⟩,?_⟩;refine⟨λh=>?_,λh=>⟨oS,λhk=>?_,λhk=>⟨by omega,λhm=>?_,λhm=>?_⟩⟩⟩
    ·rw[yX hf hs hbf hO ((hcv _).1 h)];refine⟨ha.1,ha.2,by omega,?_,rfl⟩;simp only[Φ];rfl
    ·rw[qc hf hs hbf hO (λh'=>h ((hcv _).2 h')) (.inl (γ5.1 hk |>γN.1))];exact⟨rfl,rfl⟩
    ·rw[qc hf hs hbf hO (λh'=>h ((hcv _).2 h')) (.inr hm)];exact⟨rfl,rfl⟩
    ·obtain⟨k,hk'⟩:=γq.1 hk;rw[yY hf hs hbf hO (λh'=>h ((hcv _).2 h')) hk' hm];simp only[hk',γ6];obtain⟨hk1,hk2,hk3⟩:=tj hk';rw[hsl] at hk1;have hk0:bj fx k.toNat 0=0:=tg hfix hf.r (by omega) hk2 hk3;have n1:=my hk1 hk0 (d:=1) (by omega);have n2:=my hk1 hk0 (d:= -1) (by omega);have hl2:((prf++[zN,zN]).set a.toNat (j7 k prf.length)).length=prf.length+2:=by rw[Φ,γi];rfl
     have hl1:(prf++[zN,zN]).length=prf.length+2:=by rw[γi];rfl
     have o1:=fp.spl hok (k:=(prf++[zN,zN]).length) (l:=(prf++[zN,zN]).set a.toNat (j7 k prf.length)) hm (by rw[hl1,hl2]) hl2;have o2:=o1.vis (f:=fx.set k.toNat 1) (hf.set (by omega)) (n:=nF (fx.set k.toNat 1)) (a:=(prf.length:Int)+1);have o3:=(@rT p (cy (some m)) most (nF (fx.set k.toNat 1)) (gG ⟨ch,val,found,prf,err⟩ a k) ((prf.length:Int)+1) (fx.set k.toNat 1) (hf.set (by omega))).1;have o4:prf.length+2<=(dF p (cy (some m)) most (nF (fx.set k.toNat 1)) (gG ⟨ch,val,found,prf,err⟩ a k) ((prf.length:Int)+1) (fx.set k.toNat 1)).prf.length:=by rw[<-hl2];exact o3
     have q1:a<((prf++[zN,zN]).length:Int):=by omega
     have q3:(prf.length:Int)+1<(((prf++[zN,zN]).set a.toNat (j7 k prf.length)).length:Int):=by rw[hl2];omega
     have q2:a.toNat<(prf++[zN,zN]).length:=by omega
     exact⟨by omega,by omega,by omega,ha.1,q1,q2,by omega,⟨o1,⟨by omega,q3⟩,hk1,hk0,.inl trivial,by omega⟩,⟨o2,⟨by omega,εX.2 (γh (by omega) o4)⟩,hk1,hk0,.inr trivial,by omega⟩,rfl,rfl⟩
   ·have hO:dp p (cy (some m)) ⟨ch,val,found,prf,err⟩ fx=⟨ch,val,found,prf,err⟩:=by
     unfold dp;rw[if_neg (λh=>ε4.2 h.1 ((hcv (val+1)).1 (Int.not_le.1 hlt)))]
    refine⟨⟨fB,fI _ (by omega) (by omega)⟩,?_⟩;refine⟨λh=>?_,λh=>⟨oS,λhk=>?_,λhk=>⟨by omega,λhm=>?_,λhm=>?_⟩⟩⟩
    ·rw[yX hf hs hbf hO ((hcv _).1 h)];refine⟨ha.1,ha.2,by omega,?_,rfl⟩;simp only[Φ];rfl
    ·rw[qc hf hs hbf hO (λh'=>h ((hcv _).2 h')) (.inl (γ5.1 hk |>γN.1))];exact⟨rfl,rfl⟩
    ·rw[qc hf hs hbf hO (λh'=>h ((hcv _).2 h')) (.inr hm)];exact⟨rfl,rfl⟩
    ·obtain⟨k,hk'⟩:=γq.1 hk;rw[yY hf hs hbf hO (λh'=>h ((hcv _).2 h')) hk' hm];simp only[hk',γ6];obtain⟨hk1,hk2,hk3⟩:=tj hk';rw[hsl] at hk1;have hk0:bj fx k.toNat 0=0:=tg hfix hf.r (by omega) hk2 hk3;have n1:=my hk1 hk0 (d:=1) (by omega);have n2:=my hk1 hk0 (d:= -1) (by omega);have hl2:((prf++[zN,zN]).set a.toNat (j7 k prf.length)).length=prf.length+2:=by rw[Φ,γi];rfl
     have hl1:(prf++[zN,zN]).length=prf.length+2:=by rw[γi];rfl
     have o1:=fp.spl hok (k:=(prf++[zN,zN]).length) (l:=(prf++[zN,zN]).set a.toNat (j7 k prf.length)) hm (by rw[hl1,hl2]) hl2;have o2:=o1.vis (f:=fx.set k.toNat 1) (hf.set (by omega)) (n:=nF (fx.set k.toNat 1)) (a:=(prf.length:Int)+1);have o3:=(@rT p (cy (some m)) most (nF (fx.set k.toNat 1)) (gG ⟨ch,val,found,prf,err⟩ a k) ((prf.length:Int)+1) (fx.set k.toNat 1) (hf.set (by omega))).1;have o4:prf.length+2<=(dF p (cy (some m)) most (nF (fx.set k.toNat 1)) (gG ⟨ch,val,found,prf,err⟩ a k) ((prf.length:Int)+1) (fx.set k.toNat 1)).prf.length:=by rw[<-hl2];exact o3
     have q1:a<((prf++[zN,zN]).length:Int):=by omega
     have q3:(prf.length:Int)+1<(((prf++[zN,zN]).set a.toNat (j7 k prf.length)).length:Int):=by rw[hl2];omega
     have q2:a.toNat<(prf++[zN,zN]).length:=by omega
     exact⟨by omega,by omega,by omega,ha.1,q1,q2,by omega,⟨o1,⟨by omega,q3⟩,hk1,hk0,.inl trivial,by omega⟩,⟨o2,⟨by omega,εX.2 (γh (by omega) o4)⟩,hk1,hk0,.inr trivial,by omega⟩,rfl,rfl⟩
theorem LW:∀n,ec Tryz.prog (wM n)
 |0=>λa b=>absurd b.2.2 (by omega)
 |n+1=>afZ (afi (LW n))
theorem uW {p:bn} (a:bz p=0) {c:List Int} (f:di p c=0):0<=ef p c/\ef p c<=160000000/\c.length<=160:=by
 obtain⟨_,b⟩:=uG f;have d:=(dQ a).2.1;have j:c.length<=p.offers.length:=s7 b;have h:=sT (dQ a) (l:=c.map (oI p)) λx g=>by
  obtain⟨i,e,rfl⟩:=Ψ.1 g;have:=b.2 i e;exact dq (by omega)
 grind[yP]
theorem LX {p:bn} (a:bz p=0):(j3 p).length<=160:=(uW a (Tf a)).2.2
theorem af0 {p:bn} {c:List Int} {a:Int} {k:Nat} (e:bz p=0) (h:di p c=0) (l:1<=a) (m:a<=65536) (i:k=p.offers.length):fp ⟨p,(kS p c).ch,(kS p c).val,(kS p c).found,none,(kS p c).prf.length,k,a,(kS p c).err,(kS p c).prf,iE p⟩:=by
 have b:=JK e h;have d:=yV e;have f:di p (kS p c).ch=0/\ef p (kS p c).ch=(kS p c).val:=
  yU (G:=λc w _=>di p c=0/\ef p c=w) (λ_ _ _ _ _ _ b d _=>⟨b,d⟩) (yU (G:=λc w _=>di p c=0/\ef p c=w) (λ_ _ _ _ _ _ b d _=>⟨b,d⟩) (s:=⟨c,ef p c,false,[zN],0⟩) ⟨h,rfl⟩ b.2.1 b.2.2.1) d.1 d.2;obtain⟨g,j,n⟩:=uW e f.1;obtain⟨o,_,_⟩:=@KP p c;rw[f.2] at g j;exact⟨oK e,rfl,by rw[i];exact(γC).symm,g,by grind,l,m,by simp_all,by grind⟩
theorem af2 {p:bn} {m a:Int} {k:Nat} (b:bz p=0) (q:0<m/\m<=9223372036854775807) (h:1<=a) (i:a<=65536) (g:k=p.offers.length):fp ⟨p,(kT p m).ch,(kT p m).val,(kT p m).found,some m,(kT p m).prf.length,k,a,(kT p m).err,(kT p m).prf,iE p⟩:=by
 have d:=yV b;have e:(0<=(kT p m).val/\(kT p m).val<=9223372036854775806)/\(kT p m).ch.length<=160:=
  yU (G:=λc w _=>(0<=w/\w<=9223372036854775806)/\c.length<=160) (λ_ _ _ t l _ f d _=>by
   obtain⟨j,n,o⟩:=uW b f;omega) (s:=⟨[],m - 1,false,[zN],0⟩) ⟨⟨by grind,by grind⟩,by simp_all⟩ d.1 d.2;obtain⟨r,_⟩:=@KR p m;exact⟨oK b,rfl,by rw[g];exact(γC).symm,e.1.1,e.1.2,h,i,by simp_all,by grind⟩
noncomputable def LY:bM:=⟨53,bn×Alloc×Int,.cons dO (.cons nA (.one (eZ .i64))),λa=>a.1.offers.length<=20/\a.2.1.chosen.length<=9223372036854775807,
 λa=> .bI [.agg [.row (.i .i64) (if kx a.1 a.2.1.chosen a.2.2=0 then(iM a.1 a.2.1.chosen a.2.2).ch else[]),.si .i64 (if kx a.1 a.2.1.chosen a.2.2=0 then(iM a.1 a.2.1.chosen a.2.2).val else 0)],.row bF (if kx a.1 a.2.1.chosen a.2.2=0 then(iM a.1 a.2.1.chosen a.2.2).prf else[]),.si .i64 (kx a.1 a.2.1.chosen a.2.2)]⟩
theorem h429:Holds Tryz.prog LY:=by
 refine con (L:=[ya,E0,A5,A2]) (W:=gP [By,wM 161]) LY lk (lg (by grind[h439,LW])) (by grind[h100,h437,h315,h312]) ?_;rintro⟨p,⟨c,v⟩,a⟩ ⟨o,f⟩;simp only at o f;refine bQ (let e:=(0:Int);let f:=γg .i64;let h:=(140737488355328:Int);let k:=(1000000000000:Int);let o:=(1:Int);let v:=Ω;let w:=γQ;let z:=SV.bI;let D:=bp.i .i64;let s:=v D [];let t:=γA .i64 0;let A:=iM p c a;let E:=z [w [v D (if kx p c a=e then A.ch else[]),f (if kx p c a=e then A.val else e)],v bF (if kx p c a=e then A.prf else[]),f (kx p c a)];let g:=(↑p.offers.length:Int);let r:=δ g.toNat e;let j:=dV (cy none) (dc.mk c (ef p c) false [(e,e,e,e,[])] e) (gB p c);let b:=dV (cy none) j (gB p (j3 p));let d:=dF p (cy none) a (nF r) b e r;let m:=decide (di p c≠e);let n:=decide (a<o);let q:=decide ((65536:Int)<a);let l:=0+c.length;let G:=(z [w [s,t],s,γA .i64 4]).same E;let x:=λ(u:List Int) (y B C:SV) ↦(z [w [v D u,y],B,C]).same E;let F:=λ(u:Bool) ↦decide (d.err≠e)=u;c.length<=9223372036854775807/\(m=true->x [] t s (f (di p c)))/\(m=false->(n=true->G)/\(n=false->(q=true->G)/\(q=false->0=0/\l*8<=140737488355328/\l<=1000000000000/\(bz p=e/\c.length<=9223372036854775807)/\e<=o/\o<=o/\(56:Int)<=h/\o<=k/\e<=g/\g<=g/\g*(8:Int)<=h/\g<=k/\c.length=c.length/\c.length=c.length/\c.length<=9223372036854775807/\1=1/\p.offers.length<=20/\(j3 p).length<=9223372036854775807/\j.prf.length=j.prf.length/\(fp (dI.mk p b.ch b.val b.found none b.prf.length g.toNat a b.err b.prf r)/\(e<=e/\e<(↑b.prf.length:Int))/\nF r<161)/\(F true->x [] t s (f d.err))/\(F false->d.prf.length=d.prf.length/\x d.ch (f d.val) (v bF d.prf) t))))) (by kernel_rfl) ?_;simp only[vcs];have M:(δ ((p.offers.length:Int)).toNat 0:List Int)=iE p:=by grind[iE]
 have P:dV (cy none) (dV (cy none) ⟨c,ef p c,false,[(0,(0,(0,(0,[]))))],0⟩ (gB p c)) (gB p (j3 p))=kS p c:=rfl;have J:nF (iE p)=p.offers.length:=yT;simp only[M,P,J];refine⟨f,λh=>?_,λh=>⟨λH=>?_,λH=>⟨λN=>?_,λN=>?_⟩⟩⟩
 ·have e:kx p c a=di p c:=by simp_all[kx]
  rw[e,if_neg h,if_neg h,if_neg h];exact⟨rfl,rfl,rfl⟩
 ·have e:kx p c a=4:=by simp_all[kx]
  rw[e];exact⟨rfl,rfl,rfl⟩
 ·have e:kx p c a=4:=by simp_all[kx]
  rw[e];exact⟨rfl,rfl,rfl⟩
 ·have z:di p c=0:=γf.1 h;have w:bz p=0:=(uG z).1;obtain⟨Q,T,U⟩:=uW w z;obtain⟨I,R,S⟩:=@KP p c;have e:kx p c a=(iM p c a).err:=by simp_all[kx,if_neg]
  have O:dF p (cy none) a p.offers.length (kS p c) 0 (iE p)=iM p c a:=rfl;have K:=LX w;rw[O,e];refine⟨by omega,by omega,⟨w,f⟩,by omega,by omega,by omega,by omega,by omega,by omega,by omega,by omega,f,o,by omega,⟨af0 w z (by omega) (by omega) (by omega),⟨by omega,by rw[I];decide⟩,by omega⟩,λk=>?_,λk=>?_⟩
  ·rw[if_neg k,if_neg k,if_neg k];exact⟨rfl,rfl,rfl⟩
  ·rw[γf] at k;rw[k];exact⟨rfl,rfl,rfl⟩
noncomputable def LZ:bM:=⟨80,bn×Int×Int,.cons dO (.cons (eZ .i64) (.one (eZ .i64))),λa=>a.1.offers.length<=20/\ -9223372036854775808<=a.2.1/\a.2.1<=9223372036854775807,
 λa=> .bI [.agg [.row (.i .i64) (oL a.1 a.2.1 a.2.2).chosen,.si .i64 (oL a.1 a.2.1 a.2.2).value],.sb (j8 a.1 a.2.1 a.2.2),.si .i64 (jj a.1 a.2.1 a.2.2)]⟩
theorem h434:Holds Tryz.prog LZ:=by
 refine con (L:=[po,A5,A2]) (W:=gP [By,wM 161]) LZ lk (lg (by grind[h439,LW])) (by grind[h79,h315,h312]) ?_;rintro⟨p,m,b⟩ ⟨x,H,G⟩;simp only at x H G;refine bQ (let a:=(0:Int);let c:=γg .i64;let e:=(1:Int);let f:=(140737488355328:Int);let h:=SV.bI;let l:=(1000000000000:Int);let v:=γA .i64;let x:=Ω;let y:=γQ;let w:=bp.i .i64;let t:=[v 0];let k:=h [y [x w (oL p m b).chosen,c (oL p m b).value],γx (j8 p m b),c (jj p m b)];let n:=y (x w []::t);let s:=δf false;let g:=dV (cy (some m)) (dc.mk [] (m - e) false [(a,a,a,a,[])] a) (gB p (j3 p));let A:=decide (bz p≠a);let C:=decide (b<e);let r:=decide ((65536:Int)<b);let q:=decide (m<=a);let d:=(↑p.offers.length:Int);let j:=δ d.toNat a;let z:=λ(u:dc) ↦let o:=decide (u.err≠a);(u.found=true->(h (y [x w u.ch,c u.val]::δf true::t)).same k)/\(u.found=false->(o=true->(h [n,s,c u.err]).same k)/\(o=false->(h (n::s::t)).same k));let B:=λ(u:Bool) ↦(!g.found)=u;True/\(A=true->(h [n,s,c (bz p)]).same k)/\(A=false->(C=true->(h [n,s,v 4]).same k)/\(C=false->(r=true->(h [n,s,v 4]).same k)/\(r=false->(q=true->(h (n::δf true::t)).same k)/\(q=false->cq .i64 (m - e)/\a<=e/\e<=e/\(56:Int)<=f/\e<=l/\a<=d/\d<=d/\d*(8:Int)<=f/\d<=l/\0=0/\p.offers.length<=20/\(j3 p).length<=9223372036854775807/\1=1/\(B true->(fp (dI.mk p g.ch g.val g.found (some m) g.prf.length d.toNat b g.err g.prf j)/\(a<=a/\a<(↑g.prf.length:Int))/\nF j<161)/\z (dF p (cy (some m)) b (nF j) g a j))/\(B false->z g)))))) (by kernel_rfl) ?_;simp only[vcs];have P:(δ ((p.offers.length:Int)).toNat 0:List Int)=iE p:=by grind[iE]
 have O:dV (cy (some m)) ⟨[],m - 1,false,[(0,(0,(0,(0,[]))))],0⟩ (gB p (j3 p))=kT p m:=rfl;have K:nF (iE p)=p.offers.length:=yT;simp only[P,O,K];have I:∀e:Int,jj p m b=e->j8 p m b=(decide (e=0)&&(decide (m<=0)||(fZ p m b).found)):=λe h=>by grind[j8]
 have c:j8 p m b=false\/m<=0->oL p m b=⟨[],0⟩:=λh=>by
  unfold oL;grind
 refine⟨λh=>?_,λh=>⟨λM=>?_,λM=>⟨λN=>?_,λN=>⟨λE=>?_,λE=>?_⟩⟩⟩⟩
 ·have e:jj p m b=bz p:=by simp_all[jj]
  have f:j8 p m b=false:=by simp_all
  rw[e,f,c (.inl f)];exact⟨rfl,rfl,rfl⟩
 ·have e:jj p m b=4:=by simp_all[jj]
  have f:j8 p m b=false:=by simp_all
  rw[e,f,c (.inl f)];exact⟨rfl,rfl,rfl⟩
 ·have e:jj p m b=4:=by simp_all[jj]
  have f:j8 p m b=false:=by simp_all
  rw[e,f,c (.inl f)];exact⟨rfl,rfl,rfl⟩
 ·have e:jj p m b=0:=by simp_all[jj]
  have f:j8 p m b=true:=by simp_all
  rw[e,f,c (.inr E)];exact⟨rfl,rfl,rfl⟩
 ·have J:bz p=0:=γf.1 h;obtain⟨R,Q⟩:=@KR p m;have S:dF p (cy (some m)) b p.offers.length (kT p m) 0 (iE p)=fZ p m b:=rfl;have F:=LX J;have l:jj p m b=if(fZ p m b).found=true then 0 else(fZ p m b).err:=by simp_all[jj,if_neg]
  have y:((fZ p m b).found=true->(γQ [Ω (bp.i .i64) (fZ p m b).ch,γg .i64 (fZ p m b).val]).same (γQ [Ω (bp.i .i64) (oL p m b).chosen,γg .i64 (oL p m b).value])/\true=j8 p m b/\0=jj p m b)/\
    ((fZ p m b).found=false->((fZ p m b).err≠0->(γQ [Ω (bp.i .i64) [],γA .i64 0]).same (γQ [Ω (bp.i .i64) (oL p m b).chosen,γg .i64 (oL p m b).value])/\false=j8 p m b/\(fZ p m b).err=jj p m b)/\
     (¬(fZ p m b).err≠0->(γQ [Ω (bp.i .i64) [],γA .i64 0]).same (γQ [Ω (bp.i .i64) (oL p m b).chosen,γg .i64 (oL p m b).value])/\false=j8 p m b/\0=jj p m b)):=by
   refine⟨λv=>?_,λv=>⟨λD=>?_,λD=>?_⟩⟩
   ·rw[if_pos v] at l;have f:j8 p m b=true:=by simp_all
    have a:oL p m b=⟨(fZ p m b).ch,(fZ p m b).val⟩:=by simp_all[oL]
    rw[l,f,a];exact⟨rfl,rfl,rfl⟩
   ·rw[if_neg (by rw[v];simp)] at l;have f:j8 p m b=false:=by simp_all
    rw[l,f,c (.inl f)];exact⟨rfl,rfl,rfl⟩
   ·rw[if_neg (by rw[v];simp),γf.1 D] at l;have f:j8 p m b=false:=by simp_all
    rw[l,f,c (.inl f)];exact⟨rfl,rfl,rfl⟩
  grind[af2,BE,oK]
abbrev zd:=bC×(bC×(List Int×(Int×(Bool×(Bool×(Bool×(Bool×(Bool×(Bool×(Bool×Bool))))))))))
@[reducible] def sj:bp:=.pair .ff (.pair .ff (.pair (.bD (.i .i64)) (.pair (.i .i64) (.pair .b (.pair .b (.pair .b (.pair .b (.pair .b (.pair .b (.pair .b .b))))))))))
def xP (d:zd):jD:=⟨d.1,d.2.1,d.2.2.1,d.2.2.2.1,[d.2.2.2.2.1,d.2.2.2.2.2.1,d.2.2.2.2.2.2.1,d.2.2.2.2.2.2.2.1,d.2.2.2.2.2.2.2.2.1,d.2.2.2.2.2.2.2.2.2.1,d.2.2.2.2.2.2.2.2.2.2.1,d.2.2.2.2.2.2.2.2.2.2.2]⟩
def fP (u:jD):zd:=(u.left,(u.opn,(u.chosen,(u.value,(bj u.won 0 false,(bj u.won 1 false,(bj u.won 2 false,(bj u.won 3 false,(bj u.won 4 false,(bj u.won 5 false,(bj u.won 6 false,bj u.won 7 false)))))))))))
theorem Vs {u:jD} (h:u.won.length=8):xP (fP u)=u:=by
 obtain⟨l,o,c,v,w⟩:=u;simp only at h;match w,h with
 |[a,b,c,d,e,f,g,i],_=>rfl
def zX:jD:=⟨bC.zero,bC.zero,[],0,δ 8 false⟩
def pk (k j:Int) (a b:Int):Bool:=decide (k<=j)||(decide (0<=a)&&decide (0<=b))
def jS (a b:bC) (k:Int):Bool:=pk k 0 a.a0 b.a0&&(pk k 1 a.a1 b.a1&&(pk k 2 a.a2 b.a2&&(pk k 3 a.a3 b.a3&&(pk k 4 a.a4 b.a4&&pk k 5 a.a5 b.a5))))
def L0:dG where
 f:=115;α:=zd×bn×Off;put a:=[.ptr 0 0 22,dO.put a.2.1,(dY .off).put a.2.2];st a:=[.cells (encS sj a.1) 142 22 false];dec v o:=match v,o with
  |[.ptr 0 0 22,p,x],[.cells cs 142 22 false]=>match jW sj cs,dO.dec p,(dY .off).dec x with
   |some d,some p,some x=>some (d,p,x)
   |_,_,_=>none
  |_,_=>none;ok v o a h:=by
  split at h
  ·split at h
   ·rename_i h1 h2 h3;simp only[γ] at h;subst h;refine⟨by simp only[gL,dO.ok _ _ h2,(dY .off).ok _ _ h3],?_⟩;simp only[gO,π,γr,bq.g,gk,nY h1,ub]
   ·cases h
  ·cases h
 inj a b h1 h2:=by
  obtain⟨d,p,x⟩:=a;obtain⟨d',p',x'⟩:=b;simp only[gL,Γ,and_true,true_and] at h1;simp only[gO,π,γr,bq.g,Γ,bR.cells.injEq,and_true,gk,ub] at h2;rw[xQ sj d d' h2,dO.inj p p' h1.1,(dY .off).inj x x' h1.2]
 dom a:=((∀k,k<6->(-1000<=a.1.1.at k/\a.1.1.at k<=1000)/\(-1000<=a.1.2.1.at k/\a.1.2.1.at k<=1000))/\a.2.2.want.ok=true)/\0<=a.2.2.bT/\a.2.2.bT<a.2.1.classes.length;res a:=.sb ((a.1.1.sub a.2.2.want).pos&&(gI a.2.1 (xP a.1) a.2.2).pos);out a:=[.cells (encS sj (a.1.1.sub a.2.2.want,(gI a.2.1 (xP a.1) a.2.2,a.1.2.2))) 142 22 false]
def af4 (d:zd) (p:bn) (x:Off):Nat->cC
 |3=> .inv Int (λk=>⟨[(0,.ptr 0 0 22),(4,.ptr 1 0 20),(5,.ptr 2 0 8),(7,.sb (jS (d.1.sub x.want) (gI p (xP d) x) k)),(11,.agg (encS .ff x.want)),(12,.si .i64 k)],
   [.cells (encS sj (iJ d.1 (d.1.sub x.want) k,(iJ d.2.1 (gI p (xP d) x) k,d.2.2))) 142 22 false,.cells p.ss 27 20 false,.cells (encS .off x) 65 8 false]⟩)
   (λs=>iS s 12) (λk=>0<=k/\k<=6) (λk=>(6 - k).toNat) λ_ _=> .look
 |_=> .look
theorem h450:ec Tryz.prog L0:=by
 refine lB (L:=[]) (W:=[]) L0 (λa=>af4 a.1 a.2.1 a.2.2) (by simp) (by simp) ?_;rintro⟨d,p,x⟩ ⟨⟨hb,hw⟩,hx0,hx1⟩;simp only at hb hw hx0 hx1;refine bQ (let a:=γg .i64;let b:=(0:Int);let c:=(6:Int);let e:=bq.cells;let f:=γx;let g:=cq .i64;let h:=Ω;let j:=δf false;let k:=γP;let r:=k 0 0 22;let s:=k 1 0 20;let t:=k 2 0 8;let o:=d.fst.sub x.want;let q:=gI p (xP d) x;let a9:=a x.want.a0;let aa:=a x.want.a1;let ab:=a x.want.a2;let ac:=a x.want.a3;let ad:=a x.want.a4;let ae:=a x.want.a5;let v:=γQ [a9,aa,ab,ac,ad,ae];let N:=bp.i .i64;let D:=d.snd.snd.snd.snd.snd;let af:=D.snd.snd.snd.snd.snd;let E:=iJ d.fst o b;let F:=iJ d.snd.fst q b;let G:=d.snd.snd.snd.snd.snd;let ag:=G.snd.snd.snd.snd.snd;let A:=[h N d.snd.snd.fst,a d.snd.snd.snd.fst,f d.snd.snd.snd.snd.fst,f G.fst,f G.snd.fst,f G.snd.snd.fst,f G.snd.snd.snd.fst,f G.snd.snd.snd.snd.fst,f ag.fst,f ag.snd];let w:=e [a p.supply.a0,a p.supply.a1,a p.supply.a2,a p.supply.a3,a p.supply.a4,a p.supply.a5,a p.opn.a0,a p.opn.a1,a p.opn.a2,a p.opn.a3,a p.opn.a4,a p.opn.a5,a p.cls.a0,a p.cls.a1,a p.cls.a2,a p.cls.a3,a p.cls.a4,a p.cls.a5,h N p.classes,h bp.off p.offers] 27 20 false;let y:=e [a x.bT,a9,aa,ab,ac,ad,ae,a x.value] 65 8 false;let aM:=[x.want.a0,x.want.a1,x.want.a2,x.want.a3,x.want.a4,x.want.a5];let aN:=[p.cls.a0,p.cls.a1,p.cls.a2,p.cls.a3,p.cls.a4,p.cls.a5];(((r.same r/\s.same s/\t.same t/\(δf true).same (f (jS o q b))/\v.same v/\(γA .i64 0).same (a 0)/\True)/\(e [a d.fst.a0,a d.fst.a1,a d.fst.a2,a d.fst.a3,a d.fst.a4,a d.fst.a5,a d.snd.fst.a0,a d.snd.fst.a1,a d.snd.fst.a2,a d.snd.fst.a3,a d.snd.fst.a4,a d.snd.fst.a5,h N d.snd.snd.fst,a d.snd.snd.snd.fst,f d.snd.snd.snd.snd.fst,f D.fst,f D.snd.fst,f D.snd.snd.fst,f D.snd.snd.snd.fst,f D.snd.snd.snd.snd.fst,f af.fst,f af.snd] 142 22 false).same (e (a E.a0::a E.a1::a E.a2::a E.a3::a E.a4::a E.a5::a F.a0::a F.a1::a F.a2::a F.a3::a F.a4::a F.a5::A) 142 22 false)/\w.same w/\y.same y/\True)/\b<=b/\b<=c)/\∀(x_1:Int),let L:=jS o q x_1;let n:=iJ d.fst o x_1;let ah:=bj aM x_1.toNat b;let B:=bj [n.a0,n.a1,n.a2,n.a3,n.a4,n.a5] x_1.toNat b - ah;let ai:=if x_1.toNat=0 then B else n.a0;let aj:=if x_1.toNat=1 then B else n.a1;let ak:=if x_1.toNat=2 then B else n.a2;let al:=if x_1.toNat=3 then B else n.a3;let am:=if x_1.toNat=4 then B else n.a4;let an:=if x_1.toNat=5 then B else n.a5;let O:=bj [ai,aj,ak,al,am,an] x_1.toNat b;let P:=decide (b<=O);let m:=x_1+(1:Int);let l:=iJ d.snd.fst q x_1;let ao:=bj [l.a0,l.a1,l.a2,l.a3,l.a4,l.a5] x_1.toNat b;let C:=ao - ah;let ap:=if x_1.toNat=0 then C else l.a0;let aq:=if x_1.toNat=1 then C else l.a1;let ar:=if x_1.toNat=2 then C else l.a2;let au:=if x_1.toNat=3 then C else l.a3;let av:=if x_1.toNat=4 then C else l.a4;let aw:=if x_1.toNat=5 then C else l.a5;let H:=min (bj [ap,aq,ar,au,av,aw] x_1.toNat b) O;let Q:=if x_1.toNat=0 then H else ap;let R:=if x_1.toNat=1 then H else aq;let S:=if x_1.toNat=2 then H else ar;let T:=if x_1.toNat=3 then H else au;let U:=if x_1.toNat=4 then H else av;let V:=if x_1.toNat=5 then H else aw;let M:=f (jS o q m);let z:=a m;let W:=a ai;let X:=a aj;let Y:=a ak;let Z:=a al;let a6:=a am;let a7:=a an;let I:=iJ d.fst o m;let J:=iJ d.snd.fst q m;let a8:=e (a I.a0::a I.a1::a I.a2::a I.a3::a I.a4::a I.a5::a J.a0::a J.a1::a J.a2::a J.a3::a J.a4::a J.a5::A) 142 22 false;let K:=min ao O;let ax:=if x_1.toNat=0 then K else l.a0;let ay:=if x_1.toNat=1 then K else l.a1;let az:=if x_1.toNat=2 then K else l.a2;let aA:=if x_1.toNat=3 then K else l.a3;let aB:=if x_1.toNat=4 then K else l.a4;let aC:=if x_1.toNat=5 then K else l.a5;let aD:=decide (x_1<c);let aE:=bj aN x_1.toNat b;let aF:=decide (aE=b);let aG:=decide (aE≠bj p.classes x.bT.toNat b);let aO:=let aH:=g m/\((r.same r/\s.same s/\t.same t/\(j).same M/\v.same v/\z.same z/\True)/\(e (W::X::Y::Z::a6::a7::a Q::a R::a S::a T::a U::a V::A) 142 22 false).same a8/\w.same w/\y.same y/\True)/\(b<=m/\m<=c)/\(c - m).toNat<(c - x_1).toNat;x_1.toNat<6/\b<=x_1/\x_1<c/\x_1.toNat<6/\b<=x_1/\x_1<c/\x_1.toNat<6/\(L=true->b<=x_1/\x_1<c/\x_1.toNat<6/\(P=true->b<=x_1/\x_1<c/\x_1.toNat<6/\g m/\((r.same r/\s.same s/\t.same t/\(f (decide (b<=bj [Q,R,S,T,U,V] x_1.toNat b))).same M/\v.same v/\z.same z/\True)/\(e (W::X::Y::Z::a6::a7::a Q::a R::a S::a T::a U::a V::A) 142 22 false).same a8/\w.same w/\y.same y/\True)/\(b<=m/\m<=c)/\(c - m).toNat<(c - x_1).toNat)/\(P=false->aH))/\(L=false->aH);let aI:=(e (W::X::Y::Z::a6::a7::a ax::a ay::a az::a aA::a aB::a aC::A) 142 22 false).same a8;let aJ:=b<=x_1/\x_1<c/\x_1.toNat<6/\g C/\b<=x_1/\x_1<c/\x_1.toNat<6/\b<=x_1/\x_1<c/\aO;let aK:=g m/\((r.same r/\s.same s/\t.same t/\(j).same M/\v.same v/\z.same z/\True)/\aI/\w.same w/\y.same y/\True)/\(b<=m/\m<=c)/\(c - m).toNat<(c - x_1).toNat;let aL:=λ(u:Bool) ↦P=u;b<=x_1/\x_1<=c->(aD=true->b<=x_1/\x_1<c/\b<=x_1/\x_1<c/\x_1.toNat<6/\g B/\b<=x_1/\x_1<c/\x_1.toNat<6/\b<=x_1/\x_1<c/\x_1.toNat<6/\(aF=true->aJ)/\(aF=false->b<=x_1/\x_1<c/\x_1.toNat<6/\b<=x.bT/\x.bT<(↑p.classes.length:Int)/\x.bT.toNat<p.classes.length/\(aG=true->aJ)/\(aG=false->b<=x_1/\x_1<c/\x_1.toNat<6/\b<=x_1/\x_1<c/\x_1.toNat<6/\b<=x_1/\x_1<c/\x_1.toNat<6/\(L=true->b<=x_1/\x_1<c/\x_1.toNat<6/\(aL true->b<=x_1/\x_1<c/\x_1.toNat<6/\g m/\((r.same r/\s.same s/\t.same t/\(f (decide (b<=bj [ax,ay,az,aA,aB,aC] x_1.toNat b))).same M/\v.same v/\z.same z/\True)/\aI/\w.same w/\y.same y/\True)/\(b<=m/\m<=c)/\(c - m).toNat<(c - x_1).toNat)/\(aL false->aK))/\(L=false->aK))))/\(aD=false->(f L).same (f (o.pos&&q.pos))/\(e (a n.a0::a n.a1::a n.a2::a n.a3::a n.a4::a n.a5::a l.a0::a l.a1::a l.a2::a l.a3::a l.a4::a l.a5::A) 142 22 false).same (e (a o.a0::a o.a1::a o.a2::a o.a3::a o.a4::a o.a5::a q.a0::a q.a1::a q.a2::a q.a3::a q.a4::a q.a5::A) 142 22 false)/\True)) (by kernel_rfl) ?_;simp only[vcs];refine⟨⟨⟨rfl,rfl⟩,by omega,by omega⟩,?_⟩;rintro k ⟨k0,k6⟩;simp only[show bj p.classes x.bT.toNat 0=lV p x from rfl];generalize hcl:lV p x=cl at*;constructor
 ·intro hk;rcases(show k=0\/k=1\/k=2\/k=3\/k=4\/k=5 by omega) with rfl|rfl|rfl|rfl|rfl|rfl
  ·have hb0:=hb 0 (by omega);have hw0:0<=x.want.a0/\x.want.a0<=4:=by have:=bC.jb.1 hw;omega
   have b1: -1000<=d.1.a0/\d.1.a0<=1000:=hb0.1;have b2: -1000<=d.2.1.a0/\d.2.1.a0<=1000:=hb0.2;have eo:(gI p (xP d) x).a0=min (d.2.1.a0 - nd p.cls.a0 x.want.a0 cl) (d.1.a0 - x.want.a0):=by rw[<-hcl];rfl
   generalize gI p (xP d) x=O at*;by_cases h1:p.cls.a0=0;·simp[iJ,bj,bC.sub,jS,pk,eo,nd,h1,li];grind
   ·by_cases h2:p.cls.a0=cl
    ·subst h2;simp[iJ,bj,bC.sub,jS,pk,eo,nd,h1,li];grind
    ·simp[iJ,bj,bC.sub,jS,pk,eo,nd,h1,h2,li];grind
  ·have hb0:=hb 1 (by omega);have hw0:0<=x.want.a1/\x.want.a1<=4:=by have:=bC.jb.1 hw;omega
   have b1: -1000<=d.1.a1/\d.1.a1<=1000:=hb0.1;have b2: -1000<=d.2.1.a1/\d.2.1.a1<=1000:=hb0.2;have eo:(gI p (xP d) x).a1=min (d.2.1.a1 - nd p.cls.a1 x.want.a1 cl) (d.1.a1 - x.want.a1):=by rw[<-hcl];rfl
   generalize gI p (xP d) x=O at*;by_cases h1:p.cls.a1=0;·simp[iJ,bj,bC.sub,jS,pk,eo,nd,h1,li];grind
   ·by_cases h2:p.cls.a1=cl
    ·subst h2;simp[iJ,bj,bC.sub,jS,pk,eo,nd,h1,li];grind
    ·simp[iJ,bj,bC.sub,jS,pk,eo,nd,h1,h2,li];grind
  ·have hb0:=hb 2 (by omega);have hw0:0<=x.want.a2/\x.want.a2<=4:=by have:=bC.jb.1 hw;omega
   have b1: -1000<=d.1.a2/\d.1.a2<=1000:=hb0.1;have b2: -1000<=d.2.1.a2/\d.2.1.a2<=1000:=hb0.2;have eo:(gI p (xP d) x).a2=min (d.2.1.a2 - nd p.cls.a2 x.want.a2 cl) (d.1.a2 - x.want.a2):=by rw[<-hcl];rfl
   generalize gI p (xP d) x=O at*;by_cases h1:p.cls.a2=0;·simp[iJ,bj,bC.sub,jS,pk,eo,nd,h1,li];grind
   ·by_cases h2:p.cls.a2=cl
    ·subst h2;simp[iJ,bj,bC.sub,jS,pk,eo,nd,h1,li];grind
    ·simp[iJ,bj,bC.sub,jS,pk,eo,nd,h1,h2,li];grind
  ·have hb0:=hb 3 (by omega);have hw0:0<=x.want.a3/\x.want.a3<=4:=by have:=bC.jb.1 hw;omega
   have b1: -1000<=d.1.a3/\d.1.a3<=1000:=hb0.1;have b2: -1000<=d.2.1.a3/\d.2.1.a3<=1000:=hb0.2;have eo:(gI p (xP d) x).a3=min (d.2.1.a3 - nd p.cls.a3 x.want.a3 cl) (d.1.a3 - x.want.a3):=by rw[<-hcl];rfl
   generalize gI p (xP d) x=O at*;by_cases h1:p.cls.a3=0;·simp[iJ,bj,bC.sub,jS,pk,eo,nd,h1,li];grind
   ·by_cases h2:p.cls.a3=cl
    ·subst h2;simp[iJ,bj,bC.sub,jS,pk,eo,nd,h1,li];grind
    ·simp[iJ,bj,bC.sub,jS,pk,eo,nd,h1,h2,li];grind
  ·have hb0:=hb 4 (by omega);have hw0:0<=x.want.a4/\x.want.a4<=4:=by have:=bC.jb.1 hw;omega
   have b1: -1000<=d.1.a4/\d.1.a4<=1000:=hb0.1;have b2: -1000<=d.2.1.a4/\d.2.1.a4<=1000:=hb0.2;have eo:(gI p (xP d) x).a4=min (d.2.1.a4 - nd p.cls.a4 x.want.a4 cl) (d.1.a4 - x.want.a4):=by rw[<-hcl];rfl
   generalize gI p (xP d) x=O at*;by_cases h1:p.cls.a4=0;·simp[iJ,bj,bC.sub,jS,pk,eo,nd,h1,li];grind
   ·by_cases h2:p.cls.a4=cl
    ·subst h2;simp[iJ,bj,bC.sub,jS,pk,eo,nd,h1,li];grind
    ·simp[iJ,bj,bC.sub,jS,pk,eo,nd,h1,h2,li];grind
  ·have hb0:=hb 5 (by omega);have hw0:0<=x.want.a5/\x.want.a5<=4:=by have:=bC.jb.1 hw;omega
   have b1: -1000<=d.1.a5/\d.1.a5<=1000:=hb0.1;have b2: -1000<=d.2.1.a5/\d.2.1.a5<=1000:=hb0.2;have eo:(gI p (xP d) x).a5=min (d.2.1.a5 - nd p.cls.a5 x.want.a5 cl) (d.1.a5 - x.want.a5):=by rw[<-hcl];rfl
   generalize gI p (xP d) x=O at*;by_cases h1:p.cls.a5=0;·simp[iJ,bj,bC.sub,jS,pk,eo,nd,h1,li];grind
   ·by_cases h2:p.cls.a5=cl
    ·subst h2;simp[iJ,bj,bC.sub,jS,pk,eo,nd,h1,li];grind
    ·simp[iJ,bj,bC.sub,jS,pk,eo,nd,h1,h2,li];grind
 ·intro hk;have:k=6:=by omega
  subst this;simp[iJ,bC.sub,jS,pk,bC.pos,Bool.and_assoc];exact⟨by ac_rfl,rfl⟩
end Go.Vi
