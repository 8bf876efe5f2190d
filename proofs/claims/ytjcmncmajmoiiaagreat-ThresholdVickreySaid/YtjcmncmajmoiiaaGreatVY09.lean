/-
  Plain law: digits of natural numbers, of a fixed length; setting a digit.
  Conditions: none.
-/
import Derived.Test.YtjcmncmajmoiiaaGreatVY06
import Derived.Test.YtjcmncmajmoiiaaGreatVY07
import Derived.Test.YtjcmncmajmoiiaaGreatVY08
set_option maxRecDepth 100000
set_option maxHeartbeats 4000000
set_option linter.all false
open And renaming intro->γj
open BitVec renaming ofInt->γs
open Go.Vi.SV renaming row->Φ,si->Θ,il->γp,ow->γ6
open Int renaming pow_pos->δF,pow_succ->γP,mul_add->εt,pow_zero->ζx,mul_nonneg->γz,mul_le_mul->δM,pow_add->δ7,mul_le_mul_of_nonneg_left->Γ,le_of_lt->γi,lt_of_lt_of_le->εE,mul_le_mul_of_nonneg_right->γT,add_mul->ζS,one_mul->δG,ediv_eq_zero_of_lt->εH,mul_comm->δ2,eq_ofNat_of_zero_le->δL,mul_ediv_add_emod->εe,emod_nonneg->δP,emod_lt_of_pos->δs,ediv_nonneg->δ0,sub_mul->ζF,mul_assoc->δj,mul_sub->εM,mul_zero->δN,add_zero->εg,mul_one->εZ,sub_zero->ε8,emod_eq_of_lt->δO,lt_of_le_of_lt->εF,mul_lt_mul_of_pos_right->γ0,mul_emod_mul_of_pos->ζn,lt_of_mul_lt_mul_left->εn,ediv_lt_of_lt_mul->εT,toNat_natCast->γk,natAbs_mul->εo,natAbs_natCast->ε9
open List renaming length_cons->γB,take->γa,length_take->Ψ,take_length->ψ,replicate->ε,getElem?_replicate->εB,eq_of_mem_replicate->εA,replicate_succ->δk,length_set->γb,drop_drop->γV,take_zero->εP,drop->γ5,eq_nil_of_length_eq_zero->φ
open List.cons renaming injEq->ξ
open Nat renaming exists_eq_add_of_le->ζm,le_refl->τ,min_eq_left->εf,pow_le_pow_right->δt,add_sub_cancel->ζJ
open Option.some renaming injEq->γ
open Prod renaming ext->δ5
open Rat renaming mkRat_self->δW,normalize_eq_mkRat->ζq
namespace Go.Vi
def iq:Nat->Int->List Int
 |0,_=>[]
 |k+1,x=>x % 4294967296::iq k (x / 4294967296)
theorem Ai:∀{k:Nat} {x:Int},(iq k x).length=k
 |0,_=>rfl
 |k+1,x=>by simp[iq,Ai]
theorem JD:∀{k:Nat} {x:Int},bA (iq k x)
 |0,_=>by simp[iq,bA];|k+1,x=>ja.2 ⟨by omega,JD⟩
theorem R7:∀{l:List Int},bA l->iq l.length (bn l)=l
 |[],_=>rfl
 |d::l,h=>by
  obtain⟨e,b⟩:=ja.1 h;simp only[γB,iq,bn];have c:(d+4294967296*bn l) % 4294967296=d:=by omega
  have a:(d+4294967296*bn l) / 4294967296=bn l:=by omega
  rw[c,a,R7 b]
theorem JE {l:List Int} {k:Nat} {x:Int} (h:bA l) (b:l.length=k) (a:bn l=x):l=iq k x:=by
 grind[R7]
theorem pow_pos (k:Nat):(0:Int)<4294967296^k:=δF (by decide)
theorem JF:∀{k:Nat} {x:Int},0<=x->x<4294967296^k->bn (iq k x)=x
 |0,x,b,a=>by grind[iq,bn];|k+1,x,b,a=>by
  rw[γP] at a;simp only[iq,bn];rw[JF (k:=k) (x:=x / 4294967296) (by omega) (by omega)];omega
theorem JG:∀{a b:List Int},bn (a++b)=bn a+4294967296^a.length*bn b
 |[],b=>by simp[bn];|d::l,b=>by
  simp only[List.cons_append,bn,JG,γB,γP,εt];grind
theorem uz:∀{l:List Int} {j:Nat} {v:Int},j<l.length->bn (l.set j v)=bn l+4294967296^j*(v - bj l j 0)
 |[],_,_,h=>by simp at h;|d::l,0,v,_=>by grind[bn,bj];|d::l,j+1,v,h=>by
  have a:=@uz l j v (by simpa using h);grind[bj,bn]
theorem nH {l:List Int} {j:Nat} {v:Int} (h:bA l) (c:0<=v) (b:v<4294967296):bA (l.set j v):=by
 intro d a;rcases List.mem_or_eq_of_mem_set a with a|rfl;·exact h d a
 omega
theorem Aj {a:List Int} (h:bA a) (n:Nat):bA (a.drop n):=λd b=>h d (List.mem_of_mem_drop b)
theorem R9 {a b:List Int} (e:bA a) (c:bA b):bA (a++b):=λd f=>by
 rcases List.mem_append.1 f with h|h;·exact e d h
 ·exact c d h
theorem sW {l:List Int} {j:Nat} {v:Int} (h:j<l.length):bj (l.set j v) j 0=v:=by
 grind[bj]
theorem qa {l:List Int} {i j:Nat} {v:Int} (h:i≠j):bj (l.set i v) j 0=bj l j 0:=by
 grind[bj]
theorem Ak:∀{l:List Int} {i j:Nat},bA l->bn l<4294967296^i->i<=j->bj l j 0=0
 |[],_,_,_,_,_=>by simp[bj];|d::l,0,j,h,a,c=>by
  obtain⟨e,b⟩:=ja.1 h;have:=fa b;simp only[bn,ζx] at a;have f:d=0:=by omega
  have g:bn l=0:=by omega
  cases j with
  |zero=>simp[bj,f];|succ j=>
   have:=Ak (l:=l) (i:=0) (j:=j) b (by simp;omega) (by omega);grind[bj]
 |d::l,i+1,j,h,a,c=>by
  obtain⟨e,b⟩:=ja.1 h;cases j with
  |zero=>omega;|succ j=>
   rw[γP] at a;simp only[bn] at a;have:=Ak (l:=l) (i:=i) (j:=j) b (by omega) (by omega);grind[bj]
def iu (o b:List Int) (x:Int) (i:Nat):Nat->List Int×Int
 |0=>(o,0)
 |k+1=>((iu o b x i k).1.set (i+k) ((x*bj b k 0+bj (iu o b x i k).1 (i+k) 0+(iu o b x i k).2) % 4294967296),(x*bj b k 0+bj (iu o b x i k).1 (i+k) 0+(iu o b x i k).2) / 4294967296)
theorem Si {o b:List Int} {x:Int} {i:Nat} (d:bA o) (g:bA b) (f:0<=x) (m:x<4294967296):∀{k:Nat},i+k<=o.length->
  bA (iu o b x i k).1/\(iu o b x i k).1.length=o.length/\(0<=(iu o b x i k).2/\(iu o b x i k).2<4294967296)/\(∀j,i+k<=j->bj (iu o b x i k).1 j 0=bj o j 0)/\
  bn (iu o b x i k).1+4294967296^(i+k)*(iu o b x i k).2=bn o+4294967296^i*(x*bn (b.take k))
 |0,h=>by simp[iu,d,bn];|k+1,h=>by
  obtain⟨l,t,⟨v,s⟩,u,r⟩:=@Si o b x i d g f m k (by omega);simp only[iu];generalize (iu o b x i k).1=p at*;generalize (iu o b x i k).2=c at*;have a:=dX g k;have q:=dX l (i+k);have n:0<=x*bj b k 0:=γz f a.1;have e:x*bj b k 0<=4294967295*4294967295:=δM (by omega) (by omega) a.1 (by omega);grind[nH,uz,mh,bj]
def prt (U:List Int) (j k:Nat):List Int:=(U.drop j).take k
theorem Sj {U:List Int} {j k:Nat}:bj (U.drop j) k 0=bj U (j+k) 0:=by
 grind[bj]
theorem mr {U:List Int} {j k:Nat}:bn (prt U j (k+1))=bn (prt U j k)+4294967296^k*bj U (j+k) 0:=by
 grind[prt,mh,Sj]
theorem uA {U:List Int} {j k i:Nat} {d:Int} (h:k<=i):prt (U.set (j+i) d) j k=prt U j k:=by
 unfold prt;apply List.ext_getElem?;grind
theorem uB {U:List Int} (h:bA U) {j k:Nat}:bA (prt U j k):=nG (Aj h j) k
theorem abY {U:List Int} {j k:Nat} (h:j+k<=U.length):(prt U j k).length=k:=by
 grind[prt]
theorem vS {U:List Int} (h:bA U) {j k:Nat}:bn (prt U j k)<4294967296^k:=by
 have g:=ot (uB h (j:=j) (k:=k));have e:(prt U j k).length<=k:=by grind[prt]
 have i:(4294967296:Int)^(prt U j k).length<=4294967296^k:=by
  have d:∀{a b:Nat},a<=b->(4294967296:Int)^a<=4294967296^b:=λ{a b} c=>by
   obtain⟨m,rfl⟩:=ζm c;rw[δ7];have f:=pow_pos a;have l:=pow_pos m;have:=Γ (show(1:Int)<=4294967296^m by omega) (γi f);omega
  exact d e
 omega
def jb (U:List Int) (j:Nat) (l:List Int):List Int:=U.take j++(l++U.drop (j+l.length))
theorem abZ {a b:List Int} (c:a.length=b.length) (h:∀m,bj a m 0=bj b m 0):a=b:=by
 apply List.ext_getElem c;intro m d e;have:=h m;grind[cM]
theorem Sl {U l:List Int} {j:Nat} (h:j+l.length<=U.length):(jb U j l).length=U.length:=by
 grind[jb]
theorem ab0 {U l:List Int} {j m:Nat} (h:j+l.length<=U.length):bj (jb U j l) m 0=if m<j then bj U m 0 else if m<j+l.length then bj l (m - j) 0 else bj U m 0:=by
 unfold jb bj;grind
theorem yd {U W:List Int} {j k:Nat} {x:Int} (d:bA W) (f:W.length=U.length) (g:j+k<=U.length) (e:∀m,(m<j\/j+k<=m)->bj W m 0=bj U m 0) (a:bn (prt W j k)=x):W=jb U j (iq k x):=by
 have b:prt W j k=iq k x:=JE (uB d) (abY (by omega)) a;have c:=@Ai k x;apply abZ;·grind[Sl]
 ·intro m;rw[ab0 (by omega),c];split;·simp_all
  ·split
   ·rw[<-b];unfold prt;have:bj ((W.drop j).take k) (m - j) 0=bj (W.drop j) (m - j) 0:=by
     unfold bj;grind
    grind[Sj]
   simp_all
section
variable {P V X v1 v2 u2 top rv ru g r:Int}
theorem ab1 (e:0<P) (n:V=rv+P*(v2+4294967296*v1)) (l:X=ru+P*(u2+4294967296*top)) (a:0<=rv) (f:ru<P) (d:X<4294967296*V) (b:0<=V)
  (c:0<=g) (j:g*v1+r=top) (h:4294967296<=g\/r*4294967296+u2<g*v2):X<g*V:=by
 rcases h with h|h;·exact εE d (γT h b)
 ·have k:g*V=g*rv+P*(g*v2+4294967296*(top - r)):=by
   grind
  have i:P*(u2+1+4294967296*top)<=P*(g*v2+4294967296*(top - r)):=Γ (by omega) (γi e);have m:0<=g*rv:=γz c a;grind
theorem Sm (c:0<P) (k:V=rv+P*(v2+4294967296*v1)) (n:X=ru+P*(u2+4294967296*top)) (a:0<=rv) (b:rv<P) (f:0<=ru) (e:2147483648<=v1) (j:0<=v2)
  (i:0<=g) (d:g<4294967296) (o:g*v1+r=top) (h:g*v2<=r*4294967296+u2):g*V<X+V:=by
 have m:g*V=g*rv+P*(g*v2+4294967296*(top - r)):=by
  grind
 have q:P*(g*v2+4294967296*(top - r))<=P*(u2+4294967296*top):=Γ (by omega) (γi c);have p:g*rv<=4294967295*rv:=γT (by omega) a;have l:P*4294967296<=P*(v2+4294967296*v1):=Γ (by omega) (γi c);omega
theorem ab2 (c:0<P) (p:V=rv+P*(v2+4294967296*v1)) (k:X=ru+P*(u2+4294967296*top)) (b:0<=rv) (e:ru<P) (a:0<=v2) (f:u2<4294967296)
  (d:0<=g) (o:g*v1+r=top) (l:r<v1):X<(g+1)*V:=by
 have n:(g+1)*V=(g+1)*rv+((g+1)*(P*v2)+P*(4294967296*((g+1)*v1))):=by
  grind
 have j:0<=(g+1)*rv:=γz (by omega) b;have h:0<=(g+1)*(P*v2):=γz (by omega) (γz (γi c) a);have i:top+1<=(g+1)*v1:=by grind
 have m:P*(u2+1+4294967296*top)<=P*(4294967296*((g+1)*v1)):=Γ (by omega) (γi c);grind
theorem ab3 {b a:Int} (c:0<P) (l:V=rv+P*(v2+4294967296*v1)) (k:X=ru+P*(u2+4294967296*(b+4294967296*a))) (d:rv<P) (f:0<=ru) (e:0<=u2) (i:0<=b) (j:v2<4294967296)
  (g:X<4294967296*V):a<=v1:=by
 by_cases h:a<=v1;·exact h
 ·exfalso;have m:P*(4294967296*(4294967296*(v1+1)))<=P*(u2+4294967296*(b+4294967296*a)):=Γ (by omega) (γi c);have n:P*(v2+4294967296*v1)<=P*(4294967296*(v1+1) - 1):=Γ (by omega) (γi c);grind
theorem vT {X V q:Int} (e:q*V<=X) (c:X<(q+1)*V):X / V=q/\X % V=X - q*V:=by
 rw[ζS,δG] at c;have d:0<V:=by omega
 have b:X=(X - q*V)+V*q:=by grind
 have a:X / V=q:=by
  conv=>lhs;rw[b]
  rw[Int.add_mul_ediv_left _ _ (by omega),εH (by omega) (by omega),Int.zero_add]
 refine⟨a,?_⟩;rw[Int.emod_def,a,δ2]
end
theorem JH {p:Int} (a:0<=p) (e:p<18446744073709551616):eJ.rG .u64 p 4294967295=p % 4294967296:=by
 obtain⟨m,rfl⟩:=δL a;have b:(γs 64 ((m:Nat):Int)).toNat=m:=by grind
 have c:(γs 64 4294967295).toNat=4294967295:=by simp_all
 have d:(γs 64 ((m:Nat):Int) &&&γs 64 4294967295).toNat=m % 4294967296:=by
  rw[BitVec.toNat_and,b,c];exact Nat.and_two_pow_sub_one_eq_mod m 32
 show eQ .u64 ((γs 64 ((m:Nat):Int) &&&γs 64 4294967295).toNat:Nat)=_;grind[tJ,IntKind.wrap,IntKind.bits]
theorem JI {U W v:List Int} {j i:Nat} {g c b d e:Int} (n:bA W) (f:W.length=U.length) (o:bA v) (h:0<=g) (r:g<4294967296) (y:0<=c) (t:c<4294967296) (s:0<=b) (q:b<=1) (u:j+i<U.length)
  (l:∀m,(m<j\/j+i<=m)->bj W m 0=bj U m 0)
  (k:bn (prt W j i)=bn (prt U j i) - g*bn (v.take i)+4294967296^i*(c+b))
  (a:0<=d/\d<4294967296) (w:d - 4294967296*e=bj W (j+i) 0 - (g*bj v i 0+c) % 4294967296 - b):
  bA (W.set (j+i) d)/\(W.set (j+i) d).length=U.length/\(0<=(g*bj v i 0+c) / 4294967296/\(g*bj v i 0+c) / 4294967296<4294967296)/\
  (∀m,(m<j\/j+(i+1)<=m)->bj (W.set (j+i) d) m 0=bj U m 0)/\
  bn (prt (W.set (j+i) d) j (i+1))=bn (prt U j (i+1)) - g*bn (v.take (i+1))+4294967296^(i+1)*((g*bj v i 0+c) / 4294967296+e):=by
 have x:=dX o i;have z:0<=g*bj v i 0:=γz h x.1;have p:g*bj v i 0<=4294967295*4294967295:=δM (by omega) (by omega) x.1 (by omega);refine⟨nH n a.1 a.2,by simp[f],by omega,λm A=>by grind[qa],?_⟩;have B:=l (j+i) (.inr (τ _));rw[mr,mr,uA (τ _),sW (by omega),k,mh,γP];grind
theorem JJ {U W v:List Int} {j i:Nat} {c s:Int} (a:bA W) (d:W.length=U.length) (b:bA v) (n:0<=c) (l:c<=1) (h:j+i<U.length) (g:bA U)
  (e:∀m,(m<j\/j+i<=m)->bj W m 0=bj U m 0)
  (k:bn (prt W j i)+4294967296^i*c=bn (prt U j i)+bn (v.take i)) (o:s=bj W (j+i) 0+bj v i 0+c):
  bA (W.set (j+i) (s % 4294967296))/\(W.set (j+i) (s % 4294967296)).length=U.length/\(0<=s / 4294967296/\s / 4294967296<=1)/\
  (∀m,(m<j\/j+(i+1)<=m)->bj (W.set (j+i) (s % 4294967296)) m 0=bj U m 0)/\
  bn (prt (W.set (j+i) (s % 4294967296)) j (i+1))+4294967296^(i+1)*(s / 4294967296)=bn (prt U j (i+1))+bn (v.take (i+1)):=by
 have x:=dX b i;have y:=dX a (j+i);refine⟨nH a (by omega) (by omega),by simp[d],by omega,λm p=>by grind[qa],?_⟩;have f:=e (j+i) (.inr (τ _));rw[mr,mr,uA (τ _),sW (by omega),mh,γP];grind
theorem ab4 {v:List Int} {n:Nat} (a:2<=n) (b:v.length=n):bn v=bn (v.take (n - 2))+4294967296^(n - 2)*(bj v (n - 2) 0+4294967296*bj v (n - 1) 0):=by
 obtain⟨m,rfl⟩:∃m,n=m+2:=⟨n - 2,by omega⟩;grind[mh]
theorem ab5 {U:List Int} {j n:Nat} (a:2<=n):bn (prt U j (n+1))=bn (prt U j (n - 2))+4294967296^(n - 2)*(bj U (j+(n - 2)) 0+4294967296*(bj U (j+(n - 1)) 0+4294967296*bj U (j+n) 0)):=by
 obtain⟨m,rfl⟩:∃m,n=m+2:=⟨n - 2,by omega⟩;grind[mr]
open Go.Proofs.YtjcmncmajmoiiaaGreat.Ir
open Go.Proofs
structure nI where
 U:List Int
 j:Nat
 len:Nat
 n:Nat
 v:List Int
def nI.x (a:nI):Int:=bn (prt a.U a.j (a.v.length+1))
def nI.ok (a:nI):Prop:=(bA a.U/\bA a.v)/\(a.len=a.v.length+1/\a.n=a.U.length)/\(2<=a.v.length/\a.j+a.v.length+1<=a.U.length/\a.U.length<=200000000000)/\
 2147483648<=bj a.v (a.v.length - 1) 0/\a.x<4294967296*bn a.v
def nI.row (a:nI):List Int:=jb a.U a.j (iq (a.v.length+1) (a.x % bn a.v))
def JK:cZ where
 f:=235;α:=nI;put a:=[.oc 0 a.j a.len a.n 1,.row (.i .u32) a.v];st a:=[.row (.i .u32) a.U 235 false];dec v o:=match v,o with
  |[.oc 0 j len n 1,v],[.row t l 235 false]=>match gj (.i .u32) v,iI t (.i .u32) l with
   |some v,some l=>some ⟨l,j,len,n,v⟩
   |_,_=>none
  |_,_=>none;ok v o a h:=by
  split at h
  ·split at h
   ·rename_i h1 h2;simp only[γ] at h;subst h;obtain⟨rfl,hh⟩:=nu h2;cases hh;exact⟨by simp only[gL,jK h1],rfl⟩
   ·cases h
  ·cases h
 inj a b h1 h2:=by
  obtain⟨U,j,len,n,v⟩:=a;obtain⟨U',j',len',n',v'⟩:=b;simp only[gL,ξ,and_true] at h1;obtain⟨g1,g2⟩:=h1;have e2:=(dW (.i .u32)).inj _ _ g2;simp only[SV.g,AV.os.injEq,true_and,bk.sz,Nat.mul_one] at g1;simp only[gO,List.map_cons,List.map_nil,bq.g,ξ,bP.cells.injEq,and_true] at h2;have hl:U=U':=by
   have hf:=congrArg List.length h2;rw[ft,ft] at hf;exact l8 (.i .u32) (by simpa[bk.sz] using hf) h2
  obtain⟨q1,q2,q3⟩:=g1;subst q3;have:j=j':=by omega
  rw[e2,hl,q2,this]
 dom:=nI.ok;res a:=.si .u32 (a.x / bn a.v);out a:=[.row (.i .u32) a.row 235 false]
def JL (U:List Int):bW:=[.row (.i .u32) U 235 false]
def ab6 (a:nI):Nat->cB
 |4=> .inv (Int×Int) (λx=>⟨[(0,.oc 0 a.j a.len a.n 1),(1,.row (.i .u32) a.v),(5,.si .i64 a.v.length),(7,.si .u64 x.1),(8,.si .u64 x.2)],JL a.U⟩) (λs=>(iS s 7,iS s 8))
  (λx=>(0<=x.1/\x.1<=4294967297)/\(0<=x.2/\x.2<4294967296)/\x.1*bj a.v (a.v.length - 1) 0+x.2=bj a.U (a.j+(a.v.length - 1)) 0+4294967296*bj a.U (a.j+a.v.length) 0/\a.x<(x.1+1)*bn a.v) (λx=>x.1.toNat) λ_ _=> .look
 |10=> .inv (Int×Int×Int×Int×List Int) (λx=>⟨[(0,.oc 0 a.j a.len a.n 1),(1,.row (.i .u32) a.v),(5,.si .i64 a.v.length),(7,.si .u64 x.2.1),(9,.si .u64 x.2.2.1),(10,.si .u64 x.2.2.2.1),(82,.si .i64 a.v.length),(83,.si .i64 x.1)],JL x.2.2.2.2⟩)
  (λs=>(iS s 83,iS s 7,iS s 9,iS s 10,oS (.i .u32) s 0))
  (λx=>(0<=x.1/\x.1<=a.v.length)/\(0<=x.2.1/\x.2.1<4294967296)/\(a.x<(x.2.1+1)*bn a.v/\x.2.1*bn a.v<a.x+bn a.v)/\(0<=x.2.2.1/\x.2.2.1<4294967296)/\(0<=x.2.2.2.1/\x.2.2.2.1<=1)/\(bA x.2.2.2.2/\x.2.2.2.2.length=a.U.length)/\
   (∀m,(m<a.j\/a.j+x.1.toNat<=m)->bj x.2.2.2.2 m 0=bj a.U m 0)/\
   bn (prt x.2.2.2.2 a.j x.1.toNat)=bn (prt a.U a.j x.1.toNat) - x.2.1*bn (a.v.take x.1.toNat)+4294967296^x.1.toNat*(x.2.2.1+x.2.2.2.1)) (λx=>(a.v.length - x.1).toNat) λ_ _=> .look
 |23=> .inv (Int×Int×Int×List Int) (λx=>⟨[(0,.oc 0 a.j a.len a.n 1),(1,.row (.i .u32) a.v),(5,.si .i64 a.v.length),(7,.si .u64 x.2.1),(9,.si .u64 x.2.2.1),(134,.si .i64 a.v.length),(135,.si .i64 x.1)],JL x.2.2.2⟩)
  (λs=>(iS s 135,iS s 7,iS s 9,oS (.i .u32) s 0))
  (λx=>(0<=x.1/\x.1<=a.v.length)/\(0<=x.2.1/\x.2.1<4294967296)/\(a.x<x.2.1*bn a.v/\x.2.1*bn a.v<a.x+bn a.v)/\(0<=x.2.2.1/\x.2.2.1<=1)/\(bA x.2.2.2/\x.2.2.2.length=a.U.length)/\
   ∃W,(bA W/\W.length=a.U.length)/\(∀m,(m<a.j\/a.j+(a.v.length+1)<=m)->bj W m 0=bj a.U m 0)/\bn (prt W a.j (a.v.length+1))=a.x - x.2.1*bn a.v+4294967296^(a.v.length+1)/\
    (∀m,(m<a.j\/a.j+x.1.toNat<=m)->bj x.2.2.2 m 0=bj W m 0)/\bn (prt x.2.2.2 a.j x.1.toNat)+4294967296^x.1.toNat*x.2.2.1=bn (prt W a.j x.1.toNat)+bn (a.v.take x.1.toNat))
  (λx=>(a.v.length - x.1).toNat) λ_ _=> .look
 |_=> .look
theorem h169:dK Tryz.prog JK:=by
 refine jm (L:=[]) (W:=[]) JK ab6 (by simp) (by simp) ?_;rintro⟨U,j,len,n,v⟩ ⟨⟨hU,hv⟩,⟨e1,e2⟩,⟨hn,hj,hlU⟩,hv1,hx⟩;simp only at hU hv hn hj hlU hv1 hx e1 e2;subst e1 e2;refine bN (let a:=(18446744073709551616:Int);let b:=(0:Int);let c:=(4294967296:Int);let d:=(1:Int);let e:=Φ;let f:=Θ .i64;let g:=(32:Int);let h:=bV .i64;let k:=(9223372036854775808:Int);let l:=(4294967297:Int);let n:=(64:Int);let o:=bq.row;let p:=γp .i64 0;let q:=(63:Int);let r:=γp .i64;let D:=(↑v.length:Int);let y:=v.length+1;let F:=(↑y:Int);let B:=D - d;let Q:=bj v B.toNat b % a;let a7:=eJ.nZ .u64 (bj U (j+D.toNat) 0 % a*c % a) (bj U (j+B.toNat) 0 % a);let K:=a7.tdiv Q;let C:=SV.oc 0 j y U.length 1;let w:=bk.i .u32;let s:=(↑v.length:Int);let t:=f s;let a8:=Θ .u64 K;let R:=a7.tmod Q;let a9:=Θ .u64 R;let J:=o w U 235 false;let aa:=v.length - 1;let a3:=bj v aa b;let a4:=bj U (j+aa) 0+c*bj U (j+v.length) 0;let ab:=nI.mk U j y U.length v;let E:=ab.x;let L:=s - d;let aJ:=bj v L.toNat b % a;let M:=E+bn v;let S:=bn (prt U j 0);let I:=j+s.toNat;let ac:=Θ .u32 (E / bn v);let ad:=o w ab.row 235 false;let ae:=c^y;let H:=s - (2:Int);U.length=U.length/\b<=D/\D<F/\j+y<=U.length/\U.length=U.length/\j+D.toNat<U.length/\b<=g/\g<=n/\h B/\U.length=U.length/\b<=B/\B<F/\j+y<=U.length/\U.length=U.length/\j+B.toNat<U.length/\h B/\b<=B/\B<D/\B.toNat<v.length/\Q≠b/\bV .u64 K/\h B/\b<=B/\B<D/\B.toNat<v.length/\Q≠b/\(((C.same C/\(e w v).same (e w v)/\(f D).same t/\a8.same a8/\a9.same a9/\True)/\J.same J/\True)/\(b<=K/\K<=l)/\(b<=R/\R<c)/\K*a3+R=a4/\E<(K+d)*bn v)/\∀(x:Int×Int),let N:=(x.snd+aJ) % a;let af:=decide (c<=N);let G:=(x.fst - d) % a;let T:=Θ .u64 G;let ag:=Θ .u64 N;let ah:=decide (c<=x.fst);let ai:=Θ .u64 x.fst;let aj:=∀(x:Int×Int×Int×Int×List Int),let V:=x.snd.fst*bn v;let z:=x.snd.snd.snd.snd;let X:=x.snd.snd.snd.fst;let Y:=x.snd.snd.fst;let ak:=((bj z I b % a - Y) % a - X) % a;let O:=j+x.fst.toNat;let Z:=x.fst+d;let a0:=Θ .u64 x.snd.fst;let al:=(x.snd.fst*(bj v x.fst.toNat b % a) % a+Y) % a;let am:=al / c;let an:=Θ .u64 am;let ao:=eJ.rG .u64 al (4294967295:Int);let ap:=((bj z O b % a - ao) % a - X) % a;let aq:=ap / k;let ar:=Θ .u64 aq;let au:=f Z;let P:=z.set I (ak % c);let av:=λ(u u_1 u_2:Int) (u_3:List Int) ↦(b<=u/\u<=s)/\(b<=x.snd.fst/\x.snd.fst<c)/\(E<(x.snd.fst+d)*bn v/\V<M)/\(b<=u_1/\u_1<c)/\(b<=u_2/\u_2<=d)/\(bA u_3/\u_3.length=U.length)/\(∀(m:Nat),m<j\/j+u.toNat<=m->bj u_3 m b=bj U m b)/\bn (prt u_3 j u.toNat)=bn (prt U j u.toNat) - x.snd.fst*bn (γa u.toNat v)+c^u.toNat*(u_1+u_2);let aw:=λ(u:Nat) (u_1:Int) ↦let ax:=o w (z.set u (((bj z u b % a - u_1) % a - X) % a % c)) 235 false;ax.same ax/\True;let ay:=λ(u:Bool) ↦decide (ak / k=b)=u;av x.fst Y X z->(decide (x.fst<s)=true->b<=x.fst/\x.fst<D/\x.fst.toNat<v.length/\b<=g/\g<=n/\U.length=z.length/\b<=x.fst/\x.fst<F/\j+y<=U.length/\U.length=z.length/\O<z.length/\b<=q/\q<=n/\U.length=z.length/\b<=x.fst/\x.fst<F/\j+y<=U.length/\U.length=z.length/\O<z.length/\h Z/\((C.same C/\(e w v).same (e w v)/\t.same t/\a0.same a0/\an.same an/\ar.same ar/\t.same t/\au.same au/\True)/\aw O ao)/\av Z am aq (z.set O (ap % c))/\(s - Z).toNat<(s - x.fst).toNat)/\(decide (x.fst<s)=false->U.length=z.length/\b<=s/\s<F/\j+y<=U.length/\U.length=z.length/\I<z.length/\U.length=z.length/\b<=s/\s<F/\j+y<=U.length/\U.length=z.length/\I<z.length/\b<=q/\q<=n/\(ay true->(Θ .u32 (x.snd.fst % c)).same ac/\(o w P 235 false).same ad/\True)/\(ay false->(((C.same C/\(e w v).same (e w v)/\t.same t/\a0.same a0/\(γp .u64 0).same (Θ .u64 0)/\t.same t/\(p).same (f 0)/\True)/\aw I Y)/\(b<=b/\b<=s)/\(b<=x.snd.fst/\x.snd.fst<c)/\(E<V/\V<M)/\(b<=b/\b<=d)/\(bA P/\P.length=U.length)/\∃(W:List Int),(bA W/\W.length=U.length)/\(∀(m:Nat),m<j\/j+y<=m->bj W m b=bj U m b)/\bn (prt W j y)=E - V+ae/\(∀(m:Nat),m<j\/j+0<=m->bj P m b=bj W m b)/\bn (prt P j 0)+b=bn (prt W j 0)+bn [])/\∀(x:Int×Int×Int×List Int),let a5:=x.snd.fst*bn v;let a6:=x.snd.snd.fst;let A:=x.snd.snd.snd;let a1:=j+x.fst.toNat;let a2:=x.fst+d;let az:=Θ .u64 x.snd.fst;let aA:=((bj A a1 b % a+bj v x.fst.toNat b % a) % a+a6) % a;let aB:=aA / c;let aC:=Θ .u64 aB;let aD:=f a2;let aE:=A.set a1 (aA % c);let aF:=o w aE 235 false;let aG:=λ(u u_1:Int) (u_2:List Int) ↦(b<=u/\u<=s)/\(b<=x.snd.fst/\x.snd.fst<c)/\(E<a5/\a5<M)/\(b<=u_1/\u_1<=d)/\(bA u_2/\u_2.length=U.length)/\∃(W:List Int),(bA W/\W.length=U.length)/\(∀(m:Nat),m<j\/j+y<=m->bj W m b=bj U m b)/\bn (prt W j y)=E - a5+ae/\(∀(m:Nat),m<j\/j+u.toNat<=m->bj u_2 m b=bj W m b)/\bn (prt u_2 j u.toNat)+c^u.toNat*u_1=bn (prt W j u.toNat)+bn (γa u.toNat v);aG x.fst a6 A->(decide (x.fst<s)=true->U.length=A.length/\b<=x.fst/\x.fst<F/\j+y<=U.length/\U.length=A.length/\a1<A.length/\b<=x.fst/\x.fst<D/\x.fst.toNat<v.length/\b<=g/\g<=n/\U.length=A.length/\b<=x.fst/\x.fst<F/\j+y<=U.length/\U.length=A.length/\a1<A.length/\h a2/\((C.same C/\(e w v).same (e w v)/\t.same t/\az.same az/\aC.same aC/\t.same t/\aD.same aD/\True)/\aF.same aF/\True)/\aG a2 aB aE/\(s - a2).toNat<(s - x.fst).toNat)/\(decide (x.fst<s)=false->U.length=A.length/\b<=s/\s<F/\j+y<=U.length/\U.length=A.length/\I<A.length/\U.length=A.length/\b<=s/\s<F/\j+y<=U.length/\U.length=A.length/\I<A.length/\(Θ .u32 ((x.snd.fst - d) % a % c)).same ac/\(o w (A.set I ((bj A I b+a6 % c) % c)) 235 false).same ad/\True)));let aH:=h L/\b<=L/\L<D/\L.toNat<v.length/\(af=true->(((C.same C/\(e w v).same (e w v)/\t.same t/\T.same T/\(γp .u64 0).same (Θ .u64 0)/\(γp .u64 0).same (Θ .u64 0)/\t.same t/\(p).same (f 0)/\True)/\J.same J/\True)/\(b<=b/\b<=s)/\(b<=G/\G<c)/\(E<(G+d)*bn v/\G*bn v<M)/\(b<=b/\b<c)/\(b<=b/\b<=d)/\(bA U/\U.length=U.length)/\(∀(m:Nat),m<j\/j+0<=m->bj U m b=bj U m b)/\S=S - G*bn []+b)/\aj)/\(af=false->((C.same C/\(e w v).same (e w v)/\t.same t/\T.same T/\ag.same ag/\True)/\J.same J/\True)/\((b<=G/\G<=l)/\(b<=N/\N<c)/\G*a3+N=a4/\E<(G+d)*bn v)/\G.toNat<x.fst.toNat);let aI:=λ(u:Bool) ↦decide (eJ.nZ .u64 (x.snd*c % a) (bj U (j+H.toNat) 0 % a)<x.fst*(bj v H.toNat b % a) % a)=u;(b<=x.fst/\x.fst<=l)/\(b<=x.snd/\x.snd<c)/\x.fst*a3+x.snd=a4/\E<(x.fst+d)*bn v->(ah=true->aH)/\(ah=false->h H/\b<=H/\H<D/\H.toNat<v.length/\b<=g/\g<=n/\h H/\U.length=U.length/\b<=H/\H<F/\j+y<=U.length/\U.length=U.length/\j+H.toNat<U.length/\(aI true->aH)/\(aI false->(((C.same C/\(e w v).same (e w v)/\t.same t/\ai.same ai/\(γp .u64 0).same (Θ .u64 0)/\(γp .u64 0).same (Θ .u64 0)/\t.same t/\(p).same (f 0)/\True)/\J.same J/\True)/\(b<=b/\b<=s)/\(b<=x.fst/\x.fst<c)/\(E<(x.fst+d)*bn v/\x.fst*bn v<M)/\(b<=b/\b<c)/\(b<=b/\b<=d)/\(bA U/\U.length=U.length)/\(∀(m:Nat),m<j\/j+0<=m->bj U m b=bj U m b)/\S=S - x.fst*bn []+b)/\aj))) (by kernel_rfl) ?_;simp only[vcs];have t1:((v.length:Int) - 1).toNat=v.length - 1:=by omega
 have t2:((v.length:Int) - 2).toNat=v.length - 2:=by omega
 have t3:((v.length:Int)).toNat=v.length:=by omega
 have ye:=ab4 hn rfl;have yf:=@ab5 U j v.length hn;have dv1:=dX hv (v.length - 1);have vU:=dX hv (v.length - 2);have Sr:=dX hU (j+v.length);have JM:=dX hU (j+(v.length - 1));have Eg:=dX hU (j+(v.length - 2));have m1:bj v (v.length - 1) 0 % 18446744073709551616=bj v (v.length - 1) 0:=by omega
 have m2:bj v (v.length - 2) 0 % 18446744073709551616=bj v (v.length - 2) 0:=by omega
 have m3:bj U (j+v.length) 0 % 18446744073709551616=bj U (j+v.length) 0:=by omega
 have m4:bj U (j+(v.length - 1)) 0 % 18446744073709551616=bj U (j+(v.length - 1)) 0:=by omega
 have m5:bj U (j+(v.length - 2)) 0 % 18446744073709551616=bj U (j+(v.length - 2)) 0:=by omega
 have m6:bj U (j+v.length) 0*4294967296 % 18446744073709551616=bj U (j+v.length) 0*4294967296:=by omega
 have hor:=JA Sr.1 Sr.2 JM.1 JM.2;have htop:0<=bj U (j+v.length) 0*4294967296+bj U (j+(v.length - 1)) 0:=by omega
 have hx':bn (prt U j (v.length+1))<4294967296*bn v:=hx;have hP:=pow_pos (v.length - 2);have Am:=fa (nG hv (v.length - 2));have An:=ot (nG hv (v.length - 2));rw[Ψ,εf (by omega)] at An;have qC:=fa (uB hU (j:=j) (k:=v.length - 2));have JO:=vS hU (j:=j) (k:=v.length - 2);have hV0:=fa hv;have hX0:=fa (uB hU (j:=j) (k:=v.length+1));have htp:=ab3 hP ye yf An qC Eg.1 JM.1 vU.2 hx';have hax:(nI.mk U j (v.length+1) U.length v).x=bn (prt U j (v.length+1)):=rfl;simp only[hax,t1,t2,t3,m1,m2,m3,m4,m5,m6,hor,Int.tdiv_eq_ediv_of_nonneg htop,Int.tmod_eq_emod_of_nonneg htop];generalize ab9:bj v (v.length - 1) 0=v1 at*;generalize acd:bj v (v.length - 2) 0=v2 at*;generalize ag7:bj U (j+v.length) 0=u0 at*;generalize ace:bj U (j+(v.length - 1)) 0=u1 at*;generalize acf:bj U (j+(v.length - 2)) 0=u2 at*;have hqr:=εe (u0*4294967296+u1) v1;have hr0:=δP (u0*4294967296+u1) (show v1≠0 by omega);have hr1:=δs (u0*4294967296+u1) (show 0<v1 by omega);have hg0:0<=(u0*4294967296+u1) / v1:=δ0 htop (by omega);generalize hge:(u0*4294967296+u1) / v1=g0 at*;generalize hre:(u0*4294967296+u1) % v1=r0 at*;have hg1:g0<=4294967297:=by
  by_cases h:g0<=4294967297;·exact h
  ·exfalso;have:=Γ (show(4294967298:Int)<=g0 by omega) (show 0<=v1 by omega);omega
 have Ss:g0*v1+r0=u1+4294967296*u0:=by rw[δ2 g0];omega
 have hst:=ab2 hP ye yf Am JO vU.1 Eg.2 hg0 Ss hr1;have hin:bV .u64 g0:=u64_in hg0 (by omega);repeat refine γj (by omega) ?_
 clear t1 t2 t3 m1 m2 m3 m4 m5 m6 hor htop hge hre hqr hr0 hr1 hg0 hg1 Ss hst hin ab9 acd ace acf hx;rintro⟨g,r⟩ ⟨⟨g0',g1'⟩,⟨r0',r1'⟩,hgr,hgx⟩;simp only at g0' g1' r0' r1' hgr hgx ⊢;have Eh:0<g+1:=by omega
 have e1:(r+v1) % 18446744073709551616=r+v1:=by omega
 have e2:r*4294967296 % 18446744073709551616=r*4294967296:=by omega
 have gv0:0<=g*v2:=γz g0' vU.1;have gv1:g*v2<=4294967297*4294967295:=δM (by omega) (by omega) vU.1 (by omega);have e3:g*v2 % 18446744073709551616=g*v2:=by omega
 have hor2:=JA r0' r1' Eg.1 Eg.2;have JP:g*v1+r=u1+4294967296*u0:=hgr;have Sv:4294967296<=r+v1->g<=4294967296:=λh=>by
  by_cases hg:g<=4294967296;·exact hg
  ·have:g=4294967297:=by omega
   subst this;omega
 have dec:(4294967296<=g\/r*4294967296+u2<g*v2)->(bn (prt U j (v.length+1))<g*bn v/\(g - 1) % 18446744073709551616=g - 1/\0<=g - 1/\(g - 1)*v1+(r+v1)=u1+4294967296*u0):=λh=>by
  have h1:=ab1 hP ye yf Am JO hx' hV0 g0' JP h;have h2:g≠0:=by
   rintro rfl;omega
  refine⟨h1,by omega,by omega,?_⟩;rw[ζF,δG];omega
 simp only[e1,e2,e3,hor2];have brk:(4294967296<=g\/r*4294967296+u2<g*v2)->4294967296<=r+v1->∃gg,gg=(g - 1) % 18446744073709551616/\(0<=gg/\gg<4294967296)/\bn (prt U j (v.length+1))<(gg+1)*bn v/\gg*bn v<bn (prt U j (v.length+1))+bn v:=λh hb=>by
  obtain⟨k1,k2,k3,k4⟩:=dec h;have k5:=Sv hb;rw[k2];refine⟨_,rfl,by omega,by rw[show g - 1+1=g by omega];exact k1,Sm hP ye yf Am An qC hv1 vU.1 k3 (by omega) k4 ?_⟩;have:=δM (show g - 1<=4294967295 by omega) (show v2<=4294967295 by omega) vU.1 (by omega);omega
 have Ao:(4294967296<=g\/r*4294967296+u2<g*v2)->¬4294967296<=r+v1->(0<=(g - 1) % 18446744073709551616/\(g - 1) % 18446744073709551616<=4294967297)/\(g - 1) % 18446744073709551616*v1+(r+v1)=u1+4294967296*u0/\bn (prt U j (v.length+1))<((g - 1) % 18446744073709551616+1)*bn v/\((g - 1) % 18446744073709551616).toNat<g.toNat:=λh hb=>by
  obtain⟨k1,k2,k3,k4⟩:=dec h;rw[k2];exact⟨by omega,k4,by rw[show g - 1+1=g by omega];exact k1,by omega⟩
 have ext:¬4294967296<=g->¬r*4294967296+u2<g*v2->∃gg,gg=g/\(0<=gg/\gg<4294967296)/\bn (prt U j (v.length+1))<(gg+1)*bn v/\gg*bn v<bn (prt U j (v.length+1))+bn v:=λh h2=>
  ⟨_,rfl,by omega,hgx,Sm hP ye yf Am An qC hv1 vU.1 g0' (by omega) JP (by omega)⟩;clear JP Eh e1 e2 e3 gv0 gv1 hor2 ye yf Am An qC JO Sv dec htp;refine⟨λhB=>?_,λhB=>?_⟩
 ·refine⟨by omega,by omega,by omega,by omega,?_⟩;refine⟨λhb=>?_,λhb=>?_⟩
  ·obtain⟨gg,hgg,f0,f2,f3⟩:=brk (.inl hB) hb;rw[<-hgg];clear hB hb;clear hgg brk Ao ext hgx hgr;refine⟨?_,?_⟩
   ·repeat' refine γj ?_ ?_
    all_goals first|omega|exact hU|exact f2|exact f3|exact λ_ _=>trivial|(simp only[bn];omega)
   clear f0 f2 f3;rintro⟨i,ga,c,b,R⟩ ⟨⟨i0,i1⟩,⟨ou,qO⟩,⟨f2,f3⟩,⟨c0,c1⟩,⟨b0,b1⟩,⟨hR,hRl⟩,ho,he⟩;simp only at i0 i1 ou qO f2 f3 c0 c1 b0 b1 hR hRl ho he ⊢;refine⟨λkg=>?_,λme=>?_⟩
   ·have x:=dX hv i.toNat;have y:=dX hR (j+i.toNat);have SA:0<=ga*bj v i.toNat 0:=γz ou x.1;have SB:ga*bj v i.toNat 0<=4294967295*4294967295:=δM (by omega) (by omega) x.1 (by omega);have q1:bj v i.toNat 0 % 18446744073709551616=bj v i.toNat 0:=by omega
    have q2:bj R (j+i.toNat) 0 % 18446744073709551616=bj R (j+i.toNat) 0:=by omega
    have q3:(ga*bj v i.toNat 0 % 18446744073709551616+c) % 18446744073709551616=ga*bj v i.toNat 0+c:=by omega
    have hi1:(i+1).toNat=i.toNat+1:=by omega
    rw[q1,q2,q3,JH (by omega) (by omega),hi1];generalize hq:((bj R (j+i.toNat) 0 - (ga*bj v i.toNat 0+c) % 4294967296) % 18446744073709551616 - b) % 18446744073709551616=q;obtain⟨k1,k2,k3,k4,k5⟩:=JI (d:=q % 4294967296) (e:=q / 9223372036854775808) hR hRl hv ou qO c0 c1 b0 b1 (show j+i.toNat<U.length by omega) ho he (by omega) (by omega);repeat' refine γj ?_ ?_
    all_goals first|omega|exact k1|exact k2|exact k3|exact k4|exact k5|exact f2|exact f3
   ·have hi:i.toNat=v.length:=by omega
    rw[hi,ψ] at he;rw[hi] at ho;have hun:=ho (j+v.length) (.inr (τ _));have du:=dX hU (j+v.length);have q2:bj R (j+v.length) 0 % 18446744073709551616=bj R (j+v.length) 0:=by rw[hun];omega
    have qQ:=@mr U j v.length;rw[q2];generalize hq:((bj R (j+v.length) 0 - c) % 18446744073709551616 - b) % 18446744073709551616=q;have kM:bA (R.set (j+v.length) (q % 4294967296)):=nH hR (by omega) (by omega);have hlen:(R.set (j+v.length) (q % 4294967296)).length=U.length:=by simp[hRl]
    have hout:∀m,(m<j\/j+(v.length+1)<=m)->bj (R.set (j+v.length) (q % 4294967296)) m 0=bj U m 0:=λm hm=>by rw[qa (by omega)];exact ho m (by omega)
    have hval:bn (prt (R.set (j+v.length) (q % 4294967296)) j (v.length+1))=bn (prt U j (v.length+1)) - ga*bn v+4294967296^(v.length+1)*(q / 9223372036854775808):=by
     rw[mr,uA (τ _),sW (by omega),he,qQ,γP];have hd:q % 4294967296 - 4294967296*(q / 9223372036854775808)=bj U (j+v.length) 0 - c - b:=by rw[hun] at hq;omega
     generalize (4294967296:Int)^v.length=B;have e:B*4294967296*(q / 9223372036854775808)=B*(q % 4294967296+c+b - bj U (j+v.length) 0):=by rw[δj];congr 1;omega
     rw[e];simp only[εt,εM];omega
    generalize hW:R.set (j+v.length) (q % 4294967296)=W at*;have hbd:=vS kM (j:=j) (k:=v.length+1);have hnn:=fa (uB kM (j:=j) (k:=v.length+1));have q3:0<=q/\q<18446744073709551616:=by omega
    clear hq hun du q2 he ho hR;repeat refine γj (by omega) ?_
    refine⟨λhz=>?_,λhz=>?_⟩
    ·rw[hz,δN,εg] at hval;obtain⟨w1,w2⟩:=vT (q:=ga) (show ga*bn v<=bn (prt U j (v.length+1)) by omega) f2;refine⟨by rw[w1];omega,?_⟩;have hfin:W=jb U j (iq (v.length+1) (bn (prt U j (v.length+1)) % bn v)):=yd kM hlen (by omega) hout (by rw[hval,w2]);rw[hfin];rfl
    ·have hq1:q / 9223372036854775808=1:=by omega
     rw[hq1,εZ] at hval;have f4:bn (prt U j (v.length+1))<ga*bn v:=by omega
     refine⟨?_,?_⟩
     ·repeat' refine γj ?_ ?_
      all_goals first|omega|exact kM|exact hlen|exact⟨W,⟨kM,hlen⟩,hout,hval,λ_ _=>rfl,by simp only[bn]⟩
     clear kM hlen hout hval hW hbd hnn q3 hz hq1 f4 f2 f3 c0 c1 b0 b1 i0 i1 ou qO;rintro⟨i2,gb,c2,R2⟩ ⟨⟨i0,i1⟩,⟨Ap,Aq⟩,⟨f5,f6⟩,⟨c0,c1⟩,⟨hR2,qR⟩,W2,⟨hW2,uC⟩,ho2,uD,ho3,qS⟩;simp only at i0 i1 Ap Aq f5 f6 c0 c1 hR2 qR ho3 qS ⊢;refine⟨λkg=>?_,λme=>?_⟩
     ·have x:=dX hv i2.toNat;have y:=dX hR2 (j+i2.toNat);have hi1:(i2+1).toNat=i2.toNat+1:=by omega
      rw[hi1];have hs:((bj R2 (j+i2.toNat) 0 % 18446744073709551616+bj v i2.toNat 0 % 18446744073709551616) % 18446744073709551616+c2) % 18446744073709551616=bj R2 (j+i2.toNat) 0+bj v i2.toNat 0+c2:=by omega
      rw[hs];obtain⟨k1,k2,k3,k4,k5⟩:=JJ hR2 (qR.trans uC.symm) hv c0 c1 (show j+i2.toNat<W2.length by omega) hW2 ho3 qS rfl;repeat' refine γj ?_ ?_
      all_goals first|omega|exact k1|exact f5|exact f6|exact⟨W2,⟨hW2,uC⟩,ho2,uD,k4,k5⟩
     ·have hi2:i2.toNat=v.length:=by omega
      rw[hi2,ψ] at qS;rw[hi2] at ho3;have hun:=ho3 (j+v.length) (.inr (τ _));have du:=dX hW2 (j+v.length);have qQ:=@mr W2 j v.length;have hc2:c2 % 4294967296=c2:=by omega
      rw[hc2,hun];have hF:bA (R2.set (j+v.length) ((bj W2 (j+v.length) 0+c2) % 4294967296)):=nH hR2 (by omega) (by omega);have Ar:(R2.set (j+v.length) ((bj W2 (j+v.length) 0+c2) % 4294967296)).length=U.length:=by simp[qR]
      have As:∀m,(m<j\/j+(v.length+1)<=m)->bj (R2.set (j+v.length) ((bj W2 (j+v.length) 0+c2) % 4294967296)) m 0=bj U m 0:=λm hm=>by rw[qa (by omega),ho3 m (by omega)];exact ho2 m hm
      have qT:bn (prt (R2.set (j+v.length) ((bj W2 (j+v.length) 0+c2) % 4294967296)) j (v.length+1))=bn (prt U j (v.length+1)) - gb*bn v+4294967296^(v.length+1)+bn v - 4294967296^(v.length+1)*((bj W2 (j+v.length) 0+c2) / 4294967296):=by
       rw[mr,uA (τ _),sW (by omega),<-uD,qQ,γP];generalize (4294967296:Int)^v.length=B at*;have e:B*4294967296*((bj W2 (j+v.length) 0+c2) / 4294967296)=B*(bj W2 (j+v.length) 0+c2 - (bj W2 (j+v.length) 0+c2) % 4294967296):=by rw[δj];congr 1;omega
       rw[e];simp only[εt,εM];omega
      have hbd:=vS hF (j:=j) (k:=v.length+1);have hk:(bj W2 (j+v.length) 0+c2) / 4294967296=1:=by
       by_cases h:(bj W2 (j+v.length) 0+c2) / 4294967296=1;·exact h
       ·have h0:(bj W2 (j+v.length) 0+c2) / 4294967296=0:=by omega
        rw[h0,δN] at qT;omega
      rw[hk,εZ] at qT;have e1:(gb - 1)*bn v=gb*bn v - bn v:=by rw[ζF,δG]
      obtain⟨w1,w2⟩:=vT (q:=gb - 1) (show(gb - 1)*bn v<=bn (prt U j (v.length+1)) by omega) (by rw[show gb - 1+1=gb by omega];exact f5);have Eh:0<gb:=by
       by_cases h:0<gb;·exact h
       ·have:gb=0:=by omega
        subst this;omega
      have hfin:R2.set (j+v.length) ((bj W2 (j+v.length) 0+c2) % 4294967296)=jb U j (iq (v.length+1) (bn (prt U j (v.length+1)) % bn v)):=yd hF Ar (by omega) As (by rw[qT,w2,e1];omega);repeat refine γj (by omega) ?_
      rw[hfin];rfl
  ·obtain⟨k1,k2,k3,k4⟩:=Ao (.inl hB) hb;repeat' refine γj ?_ ?_
   all_goals first|omega|exact k2|exact k3
 ·repeat refine γj (by omega) ?_
  refine⟨λhc=>?_,λhc=>?_⟩
  ·repeat refine γj (by omega) ?_
   refine⟨λhb=>?_,λhb=>?_⟩
   ·obtain⟨gg,hgg,f0,f2,f3⟩:=brk (.inr hc) hb;rw[<-hgg];clear hB hb hc;clear hgg brk Ao ext hgx hgr;refine⟨?_,?_⟩
    ·repeat' refine γj ?_ ?_
     all_goals first|omega|exact hU|exact f2|exact f3|exact λ_ _=>trivial|(simp only[bn];omega)
    clear f0 f2 f3;rintro⟨i,ga,c,b,R⟩ ⟨⟨i0,i1⟩,⟨ou,qO⟩,⟨f2,f3⟩,⟨c0,c1⟩,⟨b0,b1⟩,⟨hR,hRl⟩,ho,he⟩;simp only at i0 i1 ou qO f2 f3 c0 c1 b0 b1 hR hRl ho he ⊢;refine⟨λkg=>?_,λme=>?_⟩
    ·have x:=dX hv i.toNat;have y:=dX hR (j+i.toNat);have SA:0<=ga*bj v i.toNat 0:=γz ou x.1;have SB:ga*bj v i.toNat 0<=4294967295*4294967295:=δM (by omega) (by omega) x.1 (by omega);have q1:bj v i.toNat 0 % 18446744073709551616=bj v i.toNat 0:=by omega
     have q2:bj R (j+i.toNat) 0 % 18446744073709551616=bj R (j+i.toNat) 0:=by omega
     have q3:(ga*bj v i.toNat 0 % 18446744073709551616+c) % 18446744073709551616=ga*bj v i.toNat 0+c:=by omega
     have hi1:(i+1).toNat=i.toNat+1:=by omega
     rw[q1,q2,q3,JH (by omega) (by omega),hi1];generalize hq:((bj R (j+i.toNat) 0 - (ga*bj v i.toNat 0+c) % 4294967296) % 18446744073709551616 - b) % 18446744073709551616=q;obtain⟨k1,k2,k3,k4,k5⟩:=JI (d:=q % 4294967296) (e:=q / 9223372036854775808) hR hRl hv ou qO c0 c1 b0 b1 (show j+i.toNat<U.length by omega) ho he (by omega) (by omega);repeat' refine γj ?_ ?_
     all_goals first|omega|exact k1|exact k2|exact k3|exact k4|exact k5|exact f2|exact f3
    ·have hi:i.toNat=v.length:=by omega
     rw[hi,ψ] at he;rw[hi] at ho;have hun:=ho (j+v.length) (.inr (τ _));have du:=dX hU (j+v.length);have q2:bj R (j+v.length) 0 % 18446744073709551616=bj R (j+v.length) 0:=by rw[hun];omega
     have qQ:=@mr U j v.length;rw[q2];generalize hq:((bj R (j+v.length) 0 - c) % 18446744073709551616 - b) % 18446744073709551616=q;have kM:bA (R.set (j+v.length) (q % 4294967296)):=nH hR (by omega) (by omega);have hlen:(R.set (j+v.length) (q % 4294967296)).length=U.length:=by simp[hRl]
     have hout:∀m,(m<j\/j+(v.length+1)<=m)->bj (R.set (j+v.length) (q % 4294967296)) m 0=bj U m 0:=λm hm=>by rw[qa (by omega)];exact ho m (by omega)
     have hval:bn (prt (R.set (j+v.length) (q % 4294967296)) j (v.length+1))=bn (prt U j (v.length+1)) - ga*bn v+4294967296^(v.length+1)*(q / 9223372036854775808):=by
      rw[mr,uA (τ _),sW (by omega),he,qQ,γP];have hd:q % 4294967296 - 4294967296*(q / 9223372036854775808)=bj U (j+v.length) 0 - c - b:=by rw[hun] at hq;omega
      generalize (4294967296:Int)^v.length=B;have e:B*4294967296*(q / 9223372036854775808)=B*(q % 4294967296+c+b - bj U (j+v.length) 0):=by rw[δj];congr 1;omega
      rw[e];simp only[εt,εM];omega
     generalize hW:R.set (j+v.length) (q % 4294967296)=W at*;have hbd:=vS kM (j:=j) (k:=v.length+1);have hnn:=fa (uB kM (j:=j) (k:=v.length+1));have q3:0<=q/\q<18446744073709551616:=by omega
     clear hq hun du q2 he ho hR;repeat refine γj (by omega) ?_
     refine⟨λhz=>?_,λhz=>?_⟩
     ·rw[hz,δN,εg] at hval;obtain⟨w1,w2⟩:=vT (q:=ga) (show ga*bn v<=bn (prt U j (v.length+1)) by omega) f2;refine⟨by rw[w1];omega,?_⟩;have hfin:W=jb U j (iq (v.length+1) (bn (prt U j (v.length+1)) % bn v)):=yd kM hlen (by omega) hout (by rw[hval,w2]);rw[hfin];rfl
     ·have hq1:q / 9223372036854775808=1:=by omega
      rw[hq1,εZ] at hval;have f4:bn (prt U j (v.length+1))<ga*bn v:=by omega
      refine⟨?_,?_⟩
      ·repeat' refine γj ?_ ?_
       all_goals first|omega|exact kM|exact hlen|exact⟨W,⟨kM,hlen⟩,hout,hval,λ_ _=>rfl,by simp only[bn]⟩
      clear kM hlen hout hval hW hbd hnn q3 hz hq1 f4 f2 f3 c0 c1 b0 b1 i0 i1 ou qO;rintro⟨i2,gb,c2,R2⟩ ⟨⟨i0,i1⟩,⟨Ap,Aq⟩,⟨f5,f6⟩,⟨c0,c1⟩,⟨hR2,qR⟩,W2,⟨hW2,uC⟩,ho2,uD,ho3,qS⟩;simp only at i0 i1 Ap Aq f5 f6 c0 c1 hR2 qR ho3 qS ⊢;refine⟨λkg=>?_,λme=>?_⟩
      ·have x:=dX hv i2.toNat;have y:=dX hR2 (j+i2.toNat);have hi1:(i2+1).toNat=i2.toNat+1:=by omega
       rw[hi1];have hs:((bj R2 (j+i2.toNat) 0 % 18446744073709551616+bj v i2.toNat 0 % 18446744073709551616) % 18446744073709551616+c2) % 18446744073709551616=bj R2 (j+i2.toNat) 0+bj v i2.toNat 0+c2:=by omega
       rw[hs];obtain⟨k1,k2,k3,k4,k5⟩:=JJ hR2 (qR.trans uC.symm) hv c0 c1 (show j+i2.toNat<W2.length by omega) hW2 ho3 qS rfl;repeat' refine γj ?_ ?_
       all_goals first|omega|exact k1|exact f5|exact f6|exact⟨W2,⟨hW2,uC⟩,ho2,uD,k4,k5⟩
      ·have hi2:i2.toNat=v.length:=by omega
       rw[hi2,ψ] at qS;rw[hi2] at ho3;have hun:=ho3 (j+v.length) (.inr (τ _));have du:=dX hW2 (j+v.length);have qQ:=@mr W2 j v.length;have hc2:c2 % 4294967296=c2:=by omega
       rw[hc2,hun];have hF:bA (R2.set (j+v.length) ((bj W2 (j+v.length) 0+c2) % 4294967296)):=nH hR2 (by omega) (by omega);have Ar:(R2.set (j+v.length) ((bj W2 (j+v.length) 0+c2) % 4294967296)).length=U.length:=by simp[qR]
       have As:∀m,(m<j\/j+(v.length+1)<=m)->bj (R2.set (j+v.length) ((bj W2 (j+v.length) 0+c2) % 4294967296)) m 0=bj U m 0:=λm hm=>by rw[qa (by omega),ho3 m (by omega)];exact ho2 m hm
       have qT:bn (prt (R2.set (j+v.length) ((bj W2 (j+v.length) 0+c2) % 4294967296)) j (v.length+1))=bn (prt U j (v.length+1)) - gb*bn v+4294967296^(v.length+1)+bn v - 4294967296^(v.length+1)*((bj W2 (j+v.length) 0+c2) / 4294967296):=by
        rw[mr,uA (τ _),sW (by omega),<-uD,qQ,γP];generalize (4294967296:Int)^v.length=B at*;have e:B*4294967296*((bj W2 (j+v.length) 0+c2) / 4294967296)=B*(bj W2 (j+v.length) 0+c2 - (bj W2 (j+v.length) 0+c2) % 4294967296):=by rw[δj];congr 1;omega
        rw[e];simp only[εt,εM];omega
       have hbd:=vS hF (j:=j) (k:=v.length+1);have hk:(bj W2 (j+v.length) 0+c2) / 4294967296=1:=by
        by_cases h:(bj W2 (j+v.length) 0+c2) / 4294967296=1;·exact h
        ·have h0:(bj W2 (j+v.length) 0+c2) / 4294967296=0:=by omega
         rw[h0,δN] at qT;omega
       rw[hk,εZ] at qT;have e1:(gb - 1)*bn v=gb*bn v - bn v:=by rw[ζF,δG]
       obtain⟨w1,w2⟩:=vT (q:=gb - 1) (show(gb - 1)*bn v<=bn (prt U j (v.length+1)) by omega) (by rw[show gb - 1+1=gb by omega];exact f5);have Eh:0<gb:=by
        by_cases h:0<gb;·exact h
        ·have:gb=0:=by omega
         subst this;omega
       have hfin:R2.set (j+v.length) ((bj W2 (j+v.length) 0+c2) % 4294967296)=jb U j (iq (v.length+1) (bn (prt U j (v.length+1)) % bn v)):=yd hF Ar (by omega) As (by rw[qT,w2,e1];omega);repeat refine γj (by omega) ?_
       rw[hfin];rfl
   ·obtain⟨k1,k2,k3,k4⟩:=Ao (.inr hc) hb;repeat' refine γj ?_ ?_
    all_goals first|omega|exact k2|exact k3
  ·obtain⟨gg,hgg,f0,f2,f3⟩:=ext hB hc;rw[<-hgg];clear hB hc;clear hgg brk Ao ext hgx hgr;refine⟨?_,?_⟩
   ·repeat' refine γj ?_ ?_
    all_goals first|omega|exact hU|exact f2|exact f3|exact λ_ _=>trivial|(simp only[bn];omega)
   clear f0 f2 f3;rintro⟨i,ga,c,b,R⟩ ⟨⟨i0,i1⟩,⟨ou,qO⟩,⟨f2,f3⟩,⟨c0,c1⟩,⟨b0,b1⟩,⟨hR,hRl⟩,ho,he⟩;simp only at i0 i1 ou qO f2 f3 c0 c1 b0 b1 hR hRl ho he ⊢;refine⟨λkg=>?_,λme=>?_⟩
   ·have x:=dX hv i.toNat;have y:=dX hR (j+i.toNat);have SA:0<=ga*bj v i.toNat 0:=γz ou x.1;have SB:ga*bj v i.toNat 0<=4294967295*4294967295:=δM (by omega) (by omega) x.1 (by omega);have q1:bj v i.toNat 0 % 18446744073709551616=bj v i.toNat 0:=by omega
    have q2:bj R (j+i.toNat) 0 % 18446744073709551616=bj R (j+i.toNat) 0:=by omega
    have q3:(ga*bj v i.toNat 0 % 18446744073709551616+c) % 18446744073709551616=ga*bj v i.toNat 0+c:=by omega
    have hi1:(i+1).toNat=i.toNat+1:=by omega
    rw[q1,q2,q3,JH (by omega) (by omega),hi1];generalize hq:((bj R (j+i.toNat) 0 - (ga*bj v i.toNat 0+c) % 4294967296) % 18446744073709551616 - b) % 18446744073709551616=q;obtain⟨k1,k2,k3,k4,k5⟩:=JI (d:=q % 4294967296) (e:=q / 9223372036854775808) hR hRl hv ou qO c0 c1 b0 b1 (show j+i.toNat<U.length by omega) ho he (by omega) (by omega);repeat' refine γj ?_ ?_
    all_goals first|omega|exact k1|exact k2|exact k3|exact k4|exact k5|exact f2|exact f3
   ·have hi:i.toNat=v.length:=by omega
    rw[hi,ψ] at he;rw[hi] at ho;have hun:=ho (j+v.length) (.inr (τ _));have du:=dX hU (j+v.length);have q2:bj R (j+v.length) 0 % 18446744073709551616=bj R (j+v.length) 0:=by rw[hun];omega
    have qQ:=@mr U j v.length;rw[q2];generalize hq:((bj R (j+v.length) 0 - c) % 18446744073709551616 - b) % 18446744073709551616=q;have kM:bA (R.set (j+v.length) (q % 4294967296)):=nH hR (by omega) (by omega);have hlen:(R.set (j+v.length) (q % 4294967296)).length=U.length:=by simp[hRl]
    have hout:∀m,(m<j\/j+(v.length+1)<=m)->bj (R.set (j+v.length) (q % 4294967296)) m 0=bj U m 0:=λm hm=>by rw[qa (by omega)];exact ho m (by omega)
    have hval:bn (prt (R.set (j+v.length) (q % 4294967296)) j (v.length+1))=bn (prt U j (v.length+1)) - ga*bn v+4294967296^(v.length+1)*(q / 9223372036854775808):=by
     rw[mr,uA (τ _),sW (by omega),he,qQ,γP];have hd:q % 4294967296 - 4294967296*(q / 9223372036854775808)=bj U (j+v.length) 0 - c - b:=by rw[hun] at hq;omega
     generalize (4294967296:Int)^v.length=B;have e:B*4294967296*(q / 9223372036854775808)=B*(q % 4294967296+c+b - bj U (j+v.length) 0):=by rw[δj];congr 1;omega
     rw[e];simp only[εt,εM];omega
    generalize hW:R.set (j+v.length) (q % 4294967296)=W at*;have hbd:=vS kM (j:=j) (k:=v.length+1);have hnn:=fa (uB kM (j:=j) (k:=v.length+1));have q3:0<=q/\q<18446744073709551616:=by omega
    clear hq hun du q2 he ho hR;repeat refine γj (by omega) ?_
    refine⟨λhz=>?_,λhz=>?_⟩
    ·rw[hz,δN,εg] at hval;obtain⟨w1,w2⟩:=vT (q:=ga) (show ga*bn v<=bn (prt U j (v.length+1)) by omega) f2;refine⟨by rw[w1];omega,?_⟩;have hfin:W=jb U j (iq (v.length+1) (bn (prt U j (v.length+1)) % bn v)):=yd kM hlen (by omega) hout (by rw[hval,w2]);rw[hfin];rfl
    ·have hq1:q / 9223372036854775808=1:=by omega
     rw[hq1,εZ] at hval;have f4:bn (prt U j (v.length+1))<ga*bn v:=by omega
     refine⟨?_,?_⟩
     ·repeat' refine γj ?_ ?_
      all_goals first|omega|exact kM|exact hlen|exact⟨W,⟨kM,hlen⟩,hout,hval,λ_ _=>rfl,by simp only[bn]⟩
     clear kM hlen hout hval hW hbd hnn q3 hz hq1 f4 f2 f3 c0 c1 b0 b1 i0 i1 ou qO;rintro⟨i2,gb,c2,R2⟩ ⟨⟨i0,i1⟩,⟨Ap,Aq⟩,⟨f5,f6⟩,⟨c0,c1⟩,⟨hR2,qR⟩,W2,⟨hW2,uC⟩,ho2,uD,ho3,qS⟩;simp only at i0 i1 Ap Aq f5 f6 c0 c1 hR2 qR ho3 qS ⊢;refine⟨λkg=>?_,λme=>?_⟩
     ·have x:=dX hv i2.toNat;have y:=dX hR2 (j+i2.toNat);have hi1:(i2+1).toNat=i2.toNat+1:=by omega
      rw[hi1];have hs:((bj R2 (j+i2.toNat) 0 % 18446744073709551616+bj v i2.toNat 0 % 18446744073709551616) % 18446744073709551616+c2) % 18446744073709551616=bj R2 (j+i2.toNat) 0+bj v i2.toNat 0+c2:=by omega
      rw[hs];obtain⟨k1,k2,k3,k4,k5⟩:=JJ hR2 (qR.trans uC.symm) hv c0 c1 (show j+i2.toNat<W2.length by omega) hW2 ho3 qS rfl;repeat' refine γj ?_ ?_
      all_goals first|omega|exact k1|exact f5|exact f6|exact⟨W2,⟨hW2,uC⟩,ho2,uD,k4,k5⟩
     ·have hi2:i2.toNat=v.length:=by omega
      rw[hi2,ψ] at qS;rw[hi2] at ho3;have hun:=ho3 (j+v.length) (.inr (τ _));have du:=dX hW2 (j+v.length);have qQ:=@mr W2 j v.length;have hc2:c2 % 4294967296=c2:=by omega
      rw[hc2,hun];have hF:bA (R2.set (j+v.length) ((bj W2 (j+v.length) 0+c2) % 4294967296)):=nH hR2 (by omega) (by omega);have Ar:(R2.set (j+v.length) ((bj W2 (j+v.length) 0+c2) % 4294967296)).length=U.length:=by simp[qR]
      have As:∀m,(m<j\/j+(v.length+1)<=m)->bj (R2.set (j+v.length) ((bj W2 (j+v.length) 0+c2) % 4294967296)) m 0=bj U m 0:=λm hm=>by rw[qa (by omega),ho3 m (by omega)];exact ho2 m hm
      have qT:bn (prt (R2.set (j+v.length) ((bj W2 (j+v.length) 0+c2) % 4294967296)) j (v.length+1))=bn (prt U j (v.length+1)) - gb*bn v+4294967296^(v.length+1)+bn v - 4294967296^(v.length+1)*((bj W2 (j+v.length) 0+c2) / 4294967296):=by
       rw[mr,uA (τ _),sW (by omega),<-uD,qQ,γP];generalize (4294967296:Int)^v.length=B at*;have e:B*4294967296*((bj W2 (j+v.length) 0+c2) / 4294967296)=B*(bj W2 (j+v.length) 0+c2 - (bj W2 (j+v.length) 0+c2) % 4294967296):=by rw[δj];congr 1;omega
       rw[e];simp only[εt,εM];omega
      have hbd:=vS hF (j:=j) (k:=v.length+1);have hk:(bj W2 (j+v.length) 0+c2) / 4294967296=1:=by
       by_cases h:(bj W2 (j+v.length) 0+c2) / 4294967296=1;·exact h
       ·have h0:(bj W2 (j+v.length) 0+c2) / 4294967296=0:=by omega
        rw[h0,δN] at qT;omega
      rw[hk,εZ] at qT;have e1:(gb - 1)*bn v=gb*bn v - bn v:=by rw[ζF,δG]
      obtain⟨w1,w2⟩:=vT (q:=gb - 1) (show(gb - 1)*bn v<=bn (prt U j (v.length+1)) by omega) (by rw[show gb - 1+1=gb by omega];exact f5);have Eh:0<gb:=by
       by_cases h:0<gb;·exact h
       ·have:gb=0:=by omega
        subst this;omega
      have hfin:R2.set (j+v.length) ((bj W2 (j+v.length) 0+c2) % 4294967296)=jb U j (iq (v.length+1) (bn (prt U j (v.length+1)) % bn v)):=yd hF Ar (by omega) As (by rw[qT,w2,e1];omega);repeat refine γj (by omega) ?_
      rw[hfin];rfl
def ef (x y:Int):Int:=(Nat.gcd x.toNat y.toNat:Nat)
theorem aci {x y:Int} (h0:0<=x) (h1:0<y):ef y (x % y)=ef x y:=by
 unfold ef;congr 1;rw[Nat.gcd_comm x.toNat,Nat.gcd_rec y.toNat x.toNat,Nat.gcd_comm,Int.toNat_emod h0 (by omega)]
theorem acj {x:Int} (h0:0<=x):ef x 0=x:=by unfold ef;simp;omega
theorem my {i u v:Nat} (h:u=v):(γ6 i u 1).same (γ6 i v 1):=by subst h;rfl
theorem SC {l:List Int} (h:l=[]):(Φ (.i .i64) []).same (Φ (.i .u32) l):=by subst h;rfl
def sbO (x y:Int):SV:=.bH [.row (.i .u32) (cG (x - y)),.sb (decide (y<=x))]
theorem JQ {n:Int} (h:n<=0):cG n=[]:=by
 unfold cG;rw[show n.toNat=0 by omega];rfl
def JR:bL:=⟨193,List Int×List Int,.cons (dW (.i .u32)) (.one (dW (.i .u32))),λa=>(bA a.1/\bA a.2)/\a.1.length<=100000000000/\a.2.length<=100000000000,
 λa=>sbO (bn a.1) (bn a.2)⟩
def aco (a:List Int×List Int):Nat->cB
 |7=> .inv (Int×Int×List Int) (λx=>⟨[(0,.row (.i .u32) (bI a.1)),(1,.row (.i .u32) (bI a.2)),(6,.ow 0 x.2.2.length 1),(7,.si .u64 x.2.1),(22,.si .i64 (bI a.1).length),(23,.si .i64 x.1)],[.row (.i .u32) x.2.2 235 true]⟩)
  (λs=>(iS s 23,iS s 7,oS (.i .u32) s 0))
  (λx=>(0<=x.1/\x.1<=(bI a.1).length)/\(0<=x.2.1/\x.2.1<=1)/\bA x.2.2/\x.2.2.length=(bI a.1).length/\(∀j,x.1.toNat<=j->bj x.2.2 j 0=0)/\
   bn x.2.2 - 4294967296^x.1.toNat*x.2.1=bn ((bI a.1).take x.1.toNat) - bn ((bI a.2).take x.1.toNat)) (λx=>((bI a.1).length - x.1).toNat) λ_ _=> .look
 |_=> .look
theorem SD {s t row:List Int} {i:Nat} {br d v c:Int} (hs:bA s) (ht:bA t) (hr:bA row) (hl:row.length=s.length) (hz:∀j,i<=j->bj row j 0=0)
  (hv:bn row - 4294967296^i*br=bn (s.take i) - bn (t.take i)) (hi:i<s.length) (hd:d=bj s i 0 - br - bj t i 0) (h0:0<=v/\v<4294967296) (hc:v - 4294967296*c=d):
  bA (row.set i v)/\(row.set i v).length=s.length/\(∀j,i+1<=j->bj (row.set i v) j 0=0)/\bn (row.set i v) - 4294967296^(i+1)*c=bn (s.take (i+1)) - bn (t.take (i+1)):=by
 refine⟨nH hr h0.1 h0.2,by simp[hl],λj hj=>by rw[qa (by omega)];exact hz j (by omega),?_⟩;rw[uz (by omega),mh,mh,hz i (τ _),γP,ε8];have h1:(4294967296:Int)^i*(v - 4294967296*c)=4294967296^i*(bj s i 0 - br - bj t i 0):=by rw[hc,hd]
 simp only[εM] at h1;rw[<-δj] at h1;omega
theorem h155:Holds Tryz.prog JR:=by
 refine cF (L:=[rQ,yc]) JR aco (by simpa using⟨h152,h132⟩) ?_;rintro⟨a,b⟩ ⟨⟨ha,hb⟩,hla,hlb⟩;simp only at ha hb hla hlb;refine bN (let c:=(0:Int);let d:=(18446744073709551616:Int);let e:=Φ;let f:=(4294967296:Int);let g:=Θ .i64;let h:=(1:Int);let k:=γ6;let l:=SV.bH;let z0:Nat:=(bI a).length;let B:=decide (mj (bn (bI a)) (bn (bI b))<c);let m:=bk.i .u32;let C:=l [e m (cG (bn a - bn b)),SV.sb (decide (bn b<=bn a))];let o:=(↑(bI a).length:Int);let q:=ε o.toNat c;let p:=(↑z0:Int);let z:=g p;let D:=bq.row m q 235 true;let A:=(↑(bI b).length:Int);a.length<=1000000000000/\b.length<=1000000000000/\((bA (bI a)/\bA (bI b))/\z0<=1000000000000/\(bI b).length<=1000000000000)/\(B=true->(l [e (bk.i .i64) [],SV.bl false]).same C)/\(B=false->c<=o/\o<=o/\o*(4:Int)<=(140737488355328:Int)/\o<=(1000000000000:Int)/\((((e m (bI a)).same (e m (bI a))/\(e m (bI b)).same (e m (bI b))/\(k 0 o.toNat 1).same (k 0 q.length 1)/\(γp .u64 0).same (Θ .u64 0)/\(g o).same z/\(γp .i64 0).same (g 0)/\True)/\D.same D/\True)/\(c<=c/\c<=p)/\(c<=c/\c<=h)/\bA q/\q.length=z0/\(∀(j:Nat),0<=j->bj q j c=c)/\bn q - c=c)/\∀(x:Int×Int×List Int),let r:=x.snd.snd.length;let v:=x.snd.snd.length;let n:=x.fst.toNat;let s:=x.fst+h;let E:=g s;let w:=s.toNat;let F:=bj (bI a) n c;let G:=λ(u u_1:Int) ↦let H:=(u % d - u_1) % d;let t:=x.snd.snd.set n (H % f);let y:=H / (9223372036854775808:Int);let I:=Θ .u64 y;let J:=bq.row m t 235 true;c<=(63:Int)/\(63:Int)<=(64:Int)/\r=v/\c<=x.fst/\x.fst<(↑v:Int)/\r=v/\n<v/\bV .i64 s/\(((e m (bI a)).same (e m (bI a))/\(e m (bI b)).same (e m (bI b))/\(k 0 r 1).same (k 0 t.length 1)/\I.same I/\z.same z/\E.same E/\True)/\J.same J/\True)/\((c<=s/\s<=p)/\(c<=y/\y<=h)/\bA t/\t.length=z0/\(∀(j:Nat),w<=j->bj t j c=c)/\bn t - f^w*y=bn (γa w (bI a)) - bn (γa w (bI b)))/\(p - s).toNat<(p - x.fst).toNat;(c<=x.fst/\x.fst<=p)/\(c<=x.snd.fst/\x.snd.fst<=h)/\bA x.snd.snd/\r=z0/\(∀(j:Nat),n<=j->bj x.snd.snd j c=c)/\bn x.snd.snd - f^n*x.snd.fst=bn (γa n (bI a)) - bn (γa n (bI b))->(decide (x.fst<p)=true->c<=x.fst/\x.fst<o/\n<(bI a).length/\(decide (x.fst<A)=true->c<=x.fst/\x.fst<A/\n<(bI b).length/\G (F % d - x.snd.fst) (bj (bI b) n c % d))/\(decide (x.fst<A)=false->G F x.snd.fst))/\(decide (x.fst<p)=false->r=v/\r<=1000000000000/\(l [e m (bI x.snd.snd),SV.bl true]).same C))) (by kernel_rfl) ?_;simp only[vcs];obtain⟨va,na⟩:=@rR a;obtain⟨vb,nb⟩:=@rR b;have da:=sU ha;have db:=sU hb;have la:=@uy a;have lb:=@uy b;have pa:=fa da;have pb:=fa db;rw[<-va,<-vb];generalize bI a=s at*;generalize bI b=t at*;have hr0:∀n j,bj (ε n (0:Int)) j 0=0:=λn j=>by
  unfold bj;rw[εB];split<;>rfl
 have hd0:∀n,bA (ε n 0):=λn d hd=>by
  have:=εA hd;omega
 have hv0:∀n,bn (ε n 0)=0:=λn=>by
  induction n with
  |zero=>rfl;|succ n ih=>simp only[δk,bn,ih];omega
 refine⟨by omega,by omega,⟨⟨da,db⟩,by omega,by omega⟩,λhlt=>?_,λhge=>⟨by omega,by omega,by omega,by omega,?_,?_⟩⟩
 ·have hlt2:bn s<bn t:=by unfold mj at hlt;split at hlt<;>(try split at hlt)<;>omega
  refine⟨SC (JQ (by omega)),?_⟩;rw[eq_comm,decide_eq_false_iff_not];omega
 ·repeat' refine γj ?_ ?_
  all_goals first|omega|exact my (by simp)|exact hd0 _|exact λj _=>hr0 _ j|(simp;done)|(rw[hv0];rfl)
 have IG:bn t<=bn s:=by unfold mj at hge;split at hge<;>(try split at hge)<;>omega
 rintro⟨i,br,row⟩ ⟨⟨i0,i1⟩,⟨b0,b1⟩,hr,hl,hz,hv⟩;simp only at i0 i1 b0 b1 hr hl hz hv ⊢;refine⟨λkg=>?_,λme=>?_⟩
 ·have d1:=dX da i.toNat;have d2:=dX db i.toNat;have e:(i+1).toNat=i.toNat+1:=by omega
  refine⟨i0,kg,by omega,λht=>?_,λht=>?_⟩
  ·generalize hq:((bj s i.toNat 0 % 18446744073709551616 - br) % 18446744073709551616 - bj t i.toNat 0 % 18446744073709551616) % 18446744073709551616=q;obtain⟨k1,k2,k3,k4⟩:=SD (v:=q % 4294967296) (c:=q / 9223372036854775808) da db hr hl hz hv (by omega) rfl (by omega) (by omega);rw[e];repeat' refine γj ?_ ?_
   all_goals first|omega|exact my (by simp)|exact k1|exact k2|exact k3|exact k4
  ·have hz2:=Ed (a:=t) (i:=i.toNat) (by omega);generalize hq:(bj s i.toNat 0 % 18446744073709551616 - br) % 18446744073709551616=q;obtain⟨k1,k2,k3,k4⟩:=SD (v:=q % 4294967296) (c:=q / 9223372036854775808) da db hr hl hz hv (by omega) rfl (by omega) (by omega);rw[e];repeat' refine γj ?_ ?_
   all_goals first|omega|exact my (by simp)|exact k1|exact k2|exact k3|exact k4
 ·have hi:i.toNat=s.length:=by omega
  have hlen:t.length<=s.length:=by
   by_cases h:s.length<t.length
   ·have:=yb da db nb h;omega
   ·omega
  rw[hi,ψ,List.take_of_length_le hlen] at hv;have hbd:=ot hr;have hp:=pow_pos s.length;rw[hl] at hbd;have hb0:br=0:=by
   by_cases h:br=0;·exact h
   ·have:br=1:=by omega
    subst this;omega
  rw[hb0,δN,ε8] at hv;refine⟨by omega,?_,?_⟩;·rw[qN hr,hv]
  ·rw[eq_comm,decide_eq_true_eq];exact IG
theorem SE {n j:Nat}:bj (ε n (0:Int)) j 0=0:=by
 unfold bj;rw[εB];split<;>rfl
theorem Au {n:Nat}:bA (ε n 0):=λd hd=>by
 have:=εA hd;omega
theorem yg:∀{n:Nat},bn (ε n 0)=0
 |0=>rfl
 |n+1=>by simp only[δk,bn,@yg n];omega
theorem acp {o b:List Int} {x:Int} {i k:Nat}:iu o b x i (k+1)=((iu o b x i k).1.set (i+k) ((x*bj b k 0+bj (iu o b x i k).1 (i+k) 0+(iu o b x i k).2) % 4294967296),(x*bj b k 0+bj (iu o b x i k).1 (i+k) 0+(iu o b x i k).2) / 4294967296):=rfl
def yh:bL:=⟨191,List Int×List Int,.cons (dW (.i .u32)) (.one (dW (.i .u32))),λa=>(bA a.1/\bA a.2)/\a.1.length<=100000000000/\a.2.length<=100000000000,
 λa=> .row (.i .u32) (cG (bn a.1*bn a.2))⟩
def stM (a:List Int×List Int) (row:List Int):bW:=[.row (.i .u32) row 235 true]
def acr (a:List Int×List Int):Nat->cB
 |3=> .inv (Int×List Int) (λx=>⟨[(0,.row (.i .u32) a.1),(1,.row (.i .u32) a.2),(5,.ow 0 x.2.length 1),(17,.si .i64 a.1.length),(18,.si .i64 x.1)],stM a x.2⟩)
  (λs=>(iS s 18,oS (.i .u32) s 0))
  (λx=>(0<=x.1/\x.1<=a.1.length)/\bA x.2/\x.2.length=a.1.length+a.2.length/\bn x.2=bn (a.1.take x.1.toNat)*bn a.2) (λx=>(a.1.length - x.1).toNat)
  λx=>λ
   |7=> .inv (Int×Int×List Int) (λy=>⟨[(0,.row (.i .u32) a.1),(1,.row (.i .u32) a.2),(5,.ow 0 y.2.2.length 1),(6,.si .i64 x.1),(7,.si .u64 y.2.1),(17,.si .i64 a.1.length),(18,.si .i64 x.1),(22,.si .i64 a.2.length),(23,.si .i64 y.1)],stM a y.2.2⟩)
    (λs=>(iS s 23,iS s 7,oS (.i .u32) s 0))
    (λy=>(0<=y.1/\y.1<=a.2.length)/\y.2.2=(iu x.2 a.2 (bj a.1 x.1.toNat 0) x.1.toNat y.1.toNat).1/\y.2.1=(iu x.2 a.2 (bj a.1 x.1.toNat 0) x.1.toNat y.1.toNat).2) (λy=>(a.2.length - y.1).toNat) λ_ _=> .look
   |_=> .look
 |_=> .look
theorem h153:Holds Tryz.prog yh:=by
 refine cF (L:=[rQ]) yh acr (by simpa using h152) ?_;rintro⟨a,b⟩ ⟨⟨ha,hb⟩,hla,hlb⟩;simp only at ha hb hla hlb;refine bN (let c:=(18446744073709551616:Int);let d:=(0:Int);let e:=Φ;let f:=Θ .i64;let g:=(4294967296:Int);let h:=bV .i64;let j:=γ6;let k:=γp .i64 0;let l:=bq.row;let F:=(↑a.length:Int);let z:=(↑b.length:Int);let p:=F+z;let m:=bk.i .u32;let A:=ε p.toNat d;let q:=(↑a.length:Int);let t:=f q;let J:=l m A 235 true;let G:=a.length+b.length;let r:=(↑b.length:Int);let H:=f r;h p/\d<=p/\p<=p/\p*(4:Int)<=(140737488355328:Int)/\p<=(1000000000000:Int)/\((((e m a).same (e m a)/\(e m b).same (e m b)/\(j 0 p.toNat 1).same (j 0 A.length 1)/\(f F).same t/\(k).same (f 0)/\True)/\J.same J/\True)/\(d<=d/\d<=q)/\bA A/\A.length=G/\bn A=bn []*bn b)/\∀(x:Int×List Int),let C:=x.snd.length;let v:=x.fst.toNat;let K:=j 0 C 1;let s:=f x.fst;let L:=l m x.snd 235 true;let D:=bj a v d;let M:=iu x.snd b D v 0;let w:=x.fst+(1:Int);let N:=f w;(d<=x.fst/\x.fst<=q)/\bA x.snd/\C=G/\bn x.snd=bn (γa v a)*bn b->(decide (x.fst<q)=true->((((e m a).same (e m a)/\(e m b).same (e m b)/\K.same K/\s.same s/\(γp .u64 0).same (Θ .u64 0)/\t.same t/\s.same s/\(f z).same H/\(k).same (f 0)/\True)/\L.same L/\True)/\(d<=d/\d<=r)/\x.snd=M.fst/\d=M.snd)/\∀(x_1:Int×Int×List Int),let O:=iu x.snd b D v x_1.fst.toNat;let o:=x.fst+x_1.fst;let n:=x_1.snd.snd.length;let y:=x_1.fst+(1:Int);let P:=j 0 x_1.snd.snd.length 1;let I:=((D % c*(bj b x_1.fst.toNat d % c) % c+bj x_1.snd.snd o.toNat d % c) % c+x_1.snd.fst) % c;let Q:=x_1.snd.snd.set o.toNat (I % g);let R:=I / g;let S:=Θ .u64 R;let T:=f y;let U:=iu x.snd b D v y.toNat;let B:=x.fst+z;let E:=x_1.snd.snd.set B.toNat (x_1.snd.fst % g);let V:=λ(u u_1:Int) ↦let W:=l m (x_1.snd.snd.set (x.fst+u).toNat (u_1 % g)) 235 true;W.same W/\True;(d<=x_1.fst/\x_1.fst<=r)/\x_1.snd.snd=O.fst/\x_1.snd.fst=O.snd->(decide (x_1.fst<r)=true->d<=x.fst/\x.fst<F/\v<a.length/\d<=x_1.fst/\x_1.fst<z/\x_1.fst.toNat<b.length/\h o/\x_1.snd.snd.length=n/\d<=o/\o<(↑n:Int)/\x_1.snd.snd.length=n/\o.toNat<n/\h o/\d<=(32:Int)/\(32:Int)<=(64:Int)/\x_1.snd.snd.length=n/\d<=o/\o<(↑n:Int)/\x_1.snd.snd.length=n/\o.toNat<n/\h y/\(((e m a).same (e m a)/\(e m b).same (e m b)/\P.same (j 0 Q.length 1)/\s.same s/\S.same S/\t.same t/\s.same s/\H.same H/\T.same T/\True)/\V x_1.fst I)/\((d<=y/\y<=r)/\Q=U.fst/\R=U.snd)/\(r - y).toNat<(r - x_1.fst).toNat)/\(decide (x_1.fst<r)=false->h B/\x_1.snd.snd.length=n/\d<=B/\B<(↑n:Int)/\x_1.snd.snd.length=n/\B.toNat<n/\h w/\(((e m a).same (e m a)/\(e m b).same (e m b)/\P.same (j 0 E.length 1)/\t.same t/\N.same N/\True)/\V z x_1.snd.fst)/\((d<=w/\w<=q)/\bA E/\E.length=G/\bn E=bn (γa w.toNat a)*bn b)/\(q - w).toNat<(q - x.fst).toNat))/\(decide (x.fst<q)=false->C=x.snd.length/\C<=1000000000000/\(e m (bI x.snd)).same (e m (cG (bn a*bn b))))) (by kernel_rfl) ?_;simp only[vcs];refine⟨by omega,by omega,by omega,by omega,by omega,?_,?_⟩
 ·repeat' refine γj ?_ ?_
  all_goals first|omega|exact my (by simp)|exact Au|(simp;omega)|(rw[yg];simp[bn])
 rintro⟨i,row⟩ ⟨⟨i0,i1⟩,hr,hl,hv⟩;simp only at i0 i1 hr hl hv ⊢;refine⟨λkg=>⟨⟨⟨by omega,by omega⟩,rfl,rfl⟩,?_⟩,λme=>?_⟩
 ·rintro⟨k,c,ro⟩ ⟨⟨k0,k1⟩,e1,e2⟩;simp only at k0 k1 e1 e2 ⊢;have x1:=dX ha i.toNat;obtain⟨m1,m2,⟨m3,m4⟩,m5,m6⟩:=@Si row b (bj a i.toNat 0) i.toNat hr hb x1.1 x1.2 k.toNat (by omega);have hp:=@acp row b (bj a i.toNat 0) i.toNat k.toNat;generalize iu row b (bj a i.toNat 0) i.toNat k.toNat=M at*;obtain⟨p,q⟩:=M;simp only at e1 e2 m1 m2 m3 m4 m5 m6 hp;subst e1 e2;have hik:(i+k).toNat=i.toNat+k.toNat:=by omega
  have hk1:(k+1).toNat=k.toNat+1:=by omega
  have hi1:(i+1).toNat=i.toNat+1:=by omega
  refine⟨λklt=>?_,λkge=>?_⟩
  ·have x2:=dX hb k.toNat;have x3:=dX m1 (i.toNat+k.toNat);have hxb:0<=bj a i.toNat 0*bj b k.toNat 0:=γz x1.1 x2.1;have aha:bj a i.toNat 0*bj b k.toNat 0<=4294967295*4294967295:=δM (by omega) (by omega) x2.1 (by omega);rw[hik,hk1,hp];have hq:(((bj a i.toNat 0 % 18446744073709551616*(bj b k.toNat 0 % 18446744073709551616) % 18446744073709551616+bj ro (i.toNat+k.toNat) 0 % 18446744073709551616) % 18446744073709551616+c) % 18446744073709551616)=bj a i.toNat 0*bj b k.toNat 0+bj ro (i.toNat+k.toNat) 0+c:=by
    rw[δO (a:=bj a i.toNat 0) (by omega) (by omega),δO (a:=bj b k.toNat 0) (by omega) (by omega)];omega
   rw[hq];repeat' refine γj ?_ ?_
   all_goals first|omega|exact my (by simp)|rfl
  ·have hkl:k.toNat=b.length:=by omega
   rw[show(i+(b.length:Int)).toNat=i.toNat+b.length by omega];rw[hkl,ψ] at m6;rw[hkl] at m5;have hz:bj ro (i.toNat+b.length) 0=0:=by
    rw[m5 _ (τ _)];refine Ak hr (i:=i.toNat+b.length) ?_ (τ _);rw[hv,δ7];have t1:=ot (nG ha i.toNat);rw[Ψ,εf (by omega)] at t1;have t2:=ot hb;have t3:=fa (nG ha i.toNat);have t4:=fa hb;exact εF (Γ (γi t2) t3) (γ0 t1 (pow_pos _))
   have hc:c % 4294967296=c:=by omega
   rw[hc,hi1];have hfin:bn (ro.set (i.toNat+b.length) c)=bn (a.take (i.toNat+1))*bn b:=by
    rw[uz (by omega),hz,ε8,m6,hv,mh,ζS,δj]
   repeat' refine γj ?_ ?_
   all_goals first|omega|exact my (by simp)|exact nH m1 m3 m4|exact hfin|(rw[γb];omega)
 ·have hi:i.toNat=a.length:=by omega
  rw[hi,ψ] at hv;refine⟨by omega,?_⟩;rw[qN hr,hv]
theorem SG {x m:Int} {k:Nat} (p:0<=x) (t:x<2^k) (o:0<=m) (j:m*2^k<4294967296) (u:x<4294967296):eJ.nZ .u32 x (m*2^k)=x+m*2^k:=by
 obtain⟨a,rfl⟩:=δL p;obtain⟨b,rfl⟩:=δL o;have e:((b:Int)*2^k)=((2^k*b:Nat):Int):=by grind
 have h:a<2^k:=by grind
 rw[e] at j ⊢;generalize i:2^k*b=c at*;have d:c<4294967296:=by omega
 have f:a<4294967296:=by omega
 have q:(γs 32 ((a:Nat):Int)).toNat=a:=by simp_all
 have r:(γs 32 ((c:Nat):Int)).toNat=c:=by simp_all
 have g:a |||c=a+c:=by
  rw[Nat.or_comm,<-i,<-Nat.two_pow_add_eq_or_of_lt h];omega
 have l:a+c<4294967296:=by
  rw[<-g];exact Nat.or_lt_two_pow (n:=32) f d
 have s:(γs 32 ((a:Nat):Int) |||γs 32 ((c:Nat):Int)).toNat=a+c:=by
  grind
 show eQ .u32 ((γs 32 ((a:Nat):Int) |||γs 32 ((c:Nat):Int)).toNat:Nat)=_;grind[tJ,IntKind.wrap,IntKind.bits,IntKind.signed]
theorem JS:∀{l:List Int} {i:Nat},bA l->4294967296^i*bj l i 0<=bn l
 |[],i,_=>by simp[bj,bn];|d::l,0,h=>by
  obtain⟨b,a⟩:=ja.1 h;have:=fa a;grind[bj,bn];|d::l,i+1,h=>by
  obtain⟨b,a⟩:=ja.1 h;have:=@JS l i a;have e:bj (d::l) (i+1) 0=bj l i 0:=by simp[bj]
  rw[e,γP,δ2 (4294967296^i),δj];grind[bn]
theorem SH {a b:List Int} {i k:Nat} (n:bA a) (e:bA b) (F:b.length=a.length+1) (G:i<a.length) (u:k<=31) (q:bn b=bn (a.take i)*2^k):
  bA ((b.set i (eJ.nZ .u32 (bj b i 0) (bj a i 0 % 18446744073709551616*2^k % 18446744073709551616 % 4294967296))).set (i+1) (bj a i 0 % 18446744073709551616*2^k % 18446744073709551616 / 4294967296 % 4294967296))/\
  bn ((b.set i (eJ.nZ .u32 (bj b i 0) (bj a i 0 % 18446744073709551616*2^k % 18446744073709551616 % 4294967296))).set (i+1) (bj a i 0 % 18446744073709551616*2^k % 18446744073709551616 / 4294967296 % 4294967296))=bn (a.take (i+1))*2^k:=by
 have x:=dX n i;have r:=dX e i;have c:(0:Int)<2^k:=δF (by decide);have A:(2:Int)^k<=2147483648:=by
  have D:(2:Nat)^k<=2^31:=δt (by decide) u;grind
 have w:(4294967296:Int)=2^(32 - k)*2^k:=by
  rw[<-δ7,show 32 - k+k=32 by omega];decide
 have B:(0:Int)<2^(32 - k):=δF (by decide);have v:0<=bj a i 0*2^k:=γz x.1 (γi c);have H:bj a i 0*2^k<4294967296*2^k:=γ0 x.2 c;have z:bj a i 0 % 18446744073709551616*2^k % 18446744073709551616=bj a i 0*2^k:=by
  rw[δO (a:=bj a i 0) (by omega) (by omega),δO v (by omega)]
 have o:bj a i 0*2^k % 4294967296=(bj a i 0 % 2^(32 - k))*2^k:=by
  conv=>lhs;rw[w]
  rw[δ2 (bj a i 0),δ2 (2^(32 - k)),ζn _ _ c,δ2]
 have p:=δP (bj a i 0) (show(2:Int)^(32 - k)≠0 by omega);have E:=δs (bj a i 0) B;have s:=pow_pos i;have d:bn b<4294967296^i*2^k:=by
  rw[q];have:=ot (nG n i);rw[Ψ,εf (by omega)] at this;simp_all
 have h:bj b i 0<2^k:=εn (εF (JS e) d) (γi s);have m:bj b (i+1) 0=0:=by
  refine Ak e (i:=i+1) ?_ (τ _);rw[γP];exact εE d (Γ (by omega) (γi s))
 have f:(bj a i 0 % 2^(32 - k))*2^k+2^k<=4294967296:=by
  have:(bj a i 0 % 2^(32 - k)+1)*2^k<=2^(32 - k)*2^k:=γT (by omega) (γi c);grind
 have l:0<=(bj a i 0 % 2^(32 - k))*2^k:=γz p (γi c);have g:=SG (k:=k) r.1 h p (by omega) r.2;rw[z,o,g];generalize y:bj a i 0*2^k=t at*;have j:(bj a i 0 % 2^(32 - k))*2^k=t % 4294967296:=o.symm;rw[j] at f l ⊢;refine⟨nH (nH e (by omega) (by omega)) (by omega) (by omega),?_⟩;rw[uz (by simp;omega),uz (by omega),qa (by omega),m,mh,ζS,δj,y,q,γP];have C:t / 4294967296 % 4294967296=t / 4294967296:=by omega
 grind
def shl (a:List Int) (k:Nat):List Int:=iq (a.length+1) (bn a*2^k)
abbrev SI:=List Int×Int
def Av (a:SI):Prop:=bA a.1/\a.1.length<=100000000000/\0<=a.2/\a.2<=31
def JU:bL:=⟨234,List Int×Int,.cons (dW (.i .u32)) (.one (dV .u64)),Av,λa=> .row (.i .u32) (shl a.1 a.2.toNat)⟩
def JV:cZ where
 f:=234;α:=List Int×Int;put a:=[.row (.i .u32) a.1,.si .u64 a.2];st _:=[];dec v o:=match v,o with
  |[v,m],[]=>match gj (.i .u32) v,m.int .u64 with
   |some p,some m=>some (p,m)
   |_,_=>none
  |_,_=>none;ok v o a h:=by
  split at h
  ·split at h
   ·rename_i h1 h2;simp only[γ] at h;subst h;exact⟨by simp only[gL,jK h1,gU h2];rfl,rfl⟩
   ·cases h
  ·cases h
 inj a b h _:=by
  simp only[gL,ξ,and_true] at h;have h2:=h.2;simp only[SV.g,AV.sc.injEq,Value.int.injEq,true_and] at h2;exact δ5 ((dW (.i .u32)).inj _ _ h.1) h2
 dom:=Av;res a:=.ow 0 (shl a.1 a.2.toNat).length 1;out a:=[.row (.i .u32) (shl a.1 a.2.toNat) 235 false]
def SJ (a:SI):Nat->cB
 |3=> .inv (Int×List Int) (λx=>⟨[(0,.row (.i .u32) a.1),(1,.si .u64 a.2),(5,.ow 0 x.2.length 1),(13,.si .i64 a.1.length),(14,.si .i64 x.1)],[.row (.i .u32) x.2 235 false]⟩)
  (λs=>(iS s 14,oS (.i .u32) s 0))
  (λx=>(0<=x.1/\x.1<=a.1.length)/\bA x.2/\x.2.length=a.1.length+1/\bn x.2=bn (a.1.take x.1.toNat)*2^a.2.toNat) (λx=>(a.1.length - x.1).toNat) λ_ _=> .look
 |_=> .look
theorem h168:dK Tryz.prog JV:=by
 refine zM (L:=[]) (W:=[]) JV (λ_=>none) SJ (by simp) (by simp) ?_;rintro⟨a,s⟩ ⟨ha,hla,s0,s1⟩;simp only at ha hla s0 s1;refine bN (let b:=(0:Int);let c:=(18446744073709551616:Int);let d:=(4294967296:Int);let e:=Θ .i64;let f:=bq.row;let g:=bV .i64;let h:=Φ;let j:=γ6;let w:=(↑a.length:Int);let o:=w+(1:Int);let l:=bk.i .u32;let r:=b::ε a.length b;let m:=(↑a.length:Int);let y:=e m;let A:=f l r 235 false;let z:=a.length+1;let u:=(2:Int)^s.toNat;g o/\b<=o/\o<=o/\o*(4:Int)<=(140737488355328:Int)/\o<=(1000000000000:Int)/\((((h l a).same (h l a)/\(Θ .u64 s).same (Θ .u64 s)/\(j 0 o.toNat 1).same (j 0 r.length 1)/\(e w).same y/\(γp .i64 0).same (e 0)/\True)/\A.same A/\True)/\(b<=b/\b<=m)/\bA r/\r.length=z/\bn r=bn []*u)/\∀(x:Int×List Int),let p:=x.snd.length;let q:=x.fst.toNat;let B:=bj a q b % c*u % c;let v:=x.snd.set q (eJ.nZ .u32 (bj x.snd q b) (B % d));let n:=x.snd.length;let k:=x.fst+(1:Int);let C:=j 0 p 1;let t:=v.set k.toNat (B / d % d);let D:=e k;let E:=f l t 235 false;let F:=p=v.length;(b<=x.fst/\x.fst<=m)/\bA x.snd/\p=z/\bn x.snd=bn (γa q a)*u->(decide (x.fst<m)=true->b<=x.fst/\x.fst<w/\q<a.length/\b<=s/\s<=(64:Int)/\p=n/\b<=x.fst/\x.fst<(↑n:Int)/\p=n/\q<n/\p=n/\b<=x.fst/\x.fst<(↑n:Int)/\p=n/\q<n/\g k/\b<=(32:Int)/\(32:Int)<=(64:Int)/\F/\b<=k/\k<(↑v.length:Int)/\F/\k.toNat<v.length/\g k/\(((h l a).same (h l a)/\(Θ .u64 s).same (Θ .u64 s)/\C.same (j 0 t.length 1)/\y.same y/\D.same D/\True)/\E.same E/\True)/\((b<=k/\k<=m)/\bA t/\t.length=z/\bn t=bn (γa k.toNat a)*u)/\(m - k).toNat<(m - x.fst).toNat)/\(decide (x.fst<m)=false->C.same (j 0 (shl a s.toNat).length 1)/\(f l x.snd 235 false).same (f l (shl a s.toNat) 235 false)/\True)) (by kernel_rfl) ?_;simp only[vcs];refine⟨by omega,by omega,by omega,by omega,by omega,?_,?_⟩
 ·repeat' refine γj ?_ ?_
  all_goals first|omega|exact my (by simp)|exact ja.2 ⟨by omega,Au⟩|(simp;done)|(simp only[bn,yg];omega)
 rintro⟨i,row⟩ ⟨⟨i0,i1⟩,hr,hl,hv⟩;simp only at i0 i1 hr hl hv ⊢;refine⟨λkg=>?_,λme=>?_⟩
 ·obtain⟨k1,k2⟩:=SH ha hr hl (show i.toNat<a.length by omega) (show s.toNat<=31 by omega) hv;have e:(i+1).toNat=i.toNat+1:=by omega
  rw[e];repeat' refine γj ?_ ?_
  all_goals first|omega|exact my (by simp)|(simp only[γb];done)|(simp only[γb];omega)|exact k1|exact k2
 ·have hi:i.toNat=a.length:=by omega
  rw[hi,ψ] at hv;have hrow:row=shl a s.toNat:=JE hr hl hv;rw[hrow];exact⟨rfl,rfl⟩
theorem h168p:Holds Tryz.prog JU:=by
 refine cF (L:=[]) JU SJ (by simp) ?_;rintro⟨a,s⟩ ⟨ha,hla,s0,s1⟩;simp only at ha hla s0 s1;refine bN (let b:=(0:Int);let c:=(18446744073709551616:Int);let d:=(4294967296:Int);let e:=Θ .i64;let f:=Φ;let g:=bV .i64;let h:=γ6;let v:=(↑a.length:Int);let o:=v+(1:Int);let l:=bk.i .u32;let q:=b::ε a.length b;let m:=(↑a.length:Int);let w:=e m;let z:=bq.row l q 235 false;let y:=a.length+1;let t:=(2:Int)^s.toNat;g o/\b<=o/\o<=o/\o*(4:Int)<=(140737488355328:Int)/\o<=(1000000000000:Int)/\((((f l a).same (f l a)/\(Θ .u64 s).same (Θ .u64 s)/\(h 0 o.toNat 1).same (h 0 q.length 1)/\(e v).same w/\(γp .i64 0).same (e 0)/\True)/\z.same z/\True)/\(b<=b/\b<=m)/\bA q/\q.length=y/\bn q=bn []*t)/\∀(x:Int×List Int),let n:=x.snd.length;let p:=x.fst.toNat;let A:=bj a p b % c*t % c;let u:=x.snd.set p (eJ.nZ .u32 (bj x.snd p b) (A % d));let k:=x.snd.length;let j:=x.fst+(1:Int);let r:=u.set j.toNat (A / d % d);let B:=e j;let C:=bq.row l r 235 false;let D:=n=u.length;(b<=x.fst/\x.fst<=m)/\bA x.snd/\n=y/\bn x.snd=bn (γa p a)*t->(decide (x.fst<m)=true->b<=x.fst/\x.fst<v/\p<a.length/\b<=s/\s<=(64:Int)/\n=k/\b<=x.fst/\x.fst<(↑k:Int)/\n=k/\p<k/\n=k/\b<=x.fst/\x.fst<(↑k:Int)/\n=k/\p<k/\g j/\b<=(32:Int)/\(32:Int)<=(64:Int)/\D/\b<=j/\j<(↑u.length:Int)/\D/\j.toNat<u.length/\g j/\(((f l a).same (f l a)/\(Θ .u64 s).same (Θ .u64 s)/\(h 0 n 1).same (h 0 r.length 1)/\w.same w/\B.same B/\True)/\C.same C/\True)/\((b<=j/\j<=m)/\bA r/\r.length=y/\bn r=bn (γa j.toNat a)*t)/\(m - j).toNat<(m - x.fst).toNat)/\(decide (x.fst<m)=false->n=k/\(f l x.snd).same (f l (shl a s.toNat)))) (by kernel_rfl) ?_;simp only[vcs];refine⟨by omega,by omega,by omega,by omega,by omega,?_,?_⟩
 ·repeat' refine γj ?_ ?_
  all_goals first|omega|exact my (by simp)|exact ja.2 ⟨by omega,Au⟩|(simp;done)|(simp only[bn,yg];omega)
 rintro⟨i,row⟩ ⟨⟨i0,i1⟩,hr,hl,hv⟩;simp only at i0 i1 hr hl hv ⊢;refine⟨λkg=>?_,λme=>?_⟩
 ·obtain⟨k1,k2⟩:=SH ha hr hl (show i.toNat<a.length by omega) (show s.toNat<=31 by omega) hv;have e:(i+1).toNat=i.toNat+1:=by omega
  rw[e];repeat' refine γj ?_ ?_
  all_goals first|omega|exact my (by simp)|(simp only[γb];done)|(simp only[γb];omega)|exact k1|exact k2
 ·have hi:i.toNat=a.length:=by omega
  rw[hi,ψ] at hv;have hrow:row=shl a s.toNat:=JE hr hl hv;rw[hrow]
theorem vV {U:List Int} {j:Nat} (h:j<=U.length):bn U=bn (U.take j)+4294967296^j*bn (U.drop j):=by
 conv=>lhs;rw[<-List.take_append_drop j U]
 grind[JG]
theorem acs {U l:List Int} {j:Nat} (h:j<=U.length):(jb U j l).take j=U.take j:=by
 grind[jb]
theorem acu {U l:List Int} {j:Nat} (h:j<=U.length):(jb U j l).drop j=l++U.drop (j+l.length):=by
 grind[jb]
theorem acv {U l:List Int} {j:Nat} (a:bA U) (b:bA l):bA (jb U j l):=R9 (nG a _) (R9 b (Aj a _))
theorem acw {U q v:List Int} {j m:Nat} {A:Int} (d:bA U) (w:bA v) (G:bA q) (H:2<=v.length) (u:U.length=m+1+v.length) (x:q.length=m+1) (J:j<=m) (p:0<bn v)
  (s:bj q j 0=0) (B:bn U+bn v*bn q=A) (D:bn (U.drop (j+1))<bn v):
  bn (prt U j (v.length+1))<4294967296*bn v/\
  (bA (jb U j (iq (v.length+1) (bn (prt U j (v.length+1)) % bn v)))/\(jb U j (iq (v.length+1) (bn (prt U j (v.length+1)) % bn v))).length=U.length)/\
  (0<=bn (prt U j (v.length+1)) / bn v/\bn (prt U j (v.length+1)) / bn v<4294967296)/\
  bn (jb U j (iq (v.length+1) (bn (prt U j (v.length+1)) % bn v)))+bn v*bn (q.set j (bn (prt U j (v.length+1)) / bn v))=A/\
  bn ((jb U j (iq (v.length+1) (bn (prt U j (v.length+1)) % bn v))).drop j)<bn v:=by
 have y:=ot w;have f:=Aj d (j+1);have l:=fa (uB d (j:=j) (k:=v.length+1));have b:bn (U.drop (j+(v.length+1)))=0:=by
  have e:bn (U.drop (j+1))=bn ((U.drop (j+1)).take v.length)+4294967296^v.length*bn ((U.drop (j+1)).drop v.length):=vV (by simp;omega);rw[γV,show j+1+v.length=j+(v.length+1) by omega] at e;have I:=fa (nG f v.length);have F:=fa (Aj d (j+(v.length+1)));by_cases h:bn (U.drop (j+(v.length+1)))=0;·exact h
  ·have:=Γ (show(1:Int)<=bn (U.drop (j+(v.length+1))) by omega) (γi (pow_pos v.length));omega
 have a:bn (U.drop j)=bn (prt U j (v.length+1)):=by
  have e:bn (U.drop j)=bn ((U.drop j).take (v.length+1))+4294967296^(v.length+1)*bn ((U.drop j).drop (v.length+1)):=vV (by simp;omega);rw[γV,b,δN,εg] at e;exact e
 have g:bn (U.drop j)=bj U j 0+4294967296*bn (U.drop (j+1)):=by
  rw[Ee (show j<U.length by omega)];rfl
 have K:=dX d j;have r:bn (prt U j (v.length+1))<4294967296*bn v:=by omega
 have i:=@Ai (v.length+1) (bn (prt U j (v.length+1)) % bn v);have C:=δP (bn (prt U j (v.length+1))) (show bn v≠0 by omega);have E:=δs (bn (prt U j (v.length+1))) p;have t:bn (iq (v.length+1) (bn (prt U j (v.length+1)) % bn v))=bn (prt U j (v.length+1)) % bn v:=by
  grind[JF]
 have o:bn ((jb U j (iq (v.length+1) (bn (prt U j (v.length+1)) % bn v))).drop j)=bn (prt U j (v.length+1)) % bn v:=by
  grind[acu,JG]
 have c:(jb U j (iq (v.length+1) (bn (prt U j (v.length+1)) % bn v))).length=U.length:=Sl (by rw[i];omega);have n:0<=bn (prt U j (v.length+1)) / bn v:=δ0 l (by omega);refine⟨r,⟨acv d JD,c⟩,⟨n,εT p r⟩,?_,by omega⟩;rw[vV (U:=jb U j _) (j:=j) (by rw[c];omega),acs (by omega),o,uz (by omega),s,ε8];rw[vV (U:=U) (j:=j) (by omega),a] at B;have z:=εe (bn (prt U j (v.length+1))) (bn v);grind
theorem SK {a b:List Int} {s:Nat} (k:bA a) (w:bA b) (u:s<=31) (l:b.length<=a.length) (q:1<=b.length) (d:1<=bj b (b.length - 1) 0):
  bA (shl a s)/\(shl a s).length=a.length+1/\bn (shl a s)=bn a*2^s/\bn ((shl a s).drop (a.length - b.length+1))<bn b*2^s:=by
 have e:(0:Int)<2^s:=δF (by decide);have v:(2:Int)^s<=2147483648:=by
  have h:(2:Nat)^s<=2^31:=δt (by decide) u;grind
 have f:=fa k;have g:=ot k;have n:bn a*2^s<4294967296^a.length*2^s:=γ0 g e;have c:bn (shl a s)=bn a*2^s:=by
  unfold shl;refine JF (γz f (γi e)) (εE n ?_);rw[γP];exact Γ (by omega) (γi (pow_pos _))
 have i:bA (shl a s):=JD;have t:(shl a s).length=a.length+1:=Ai;refine⟨i,t,c,?_⟩;have h:=vV (U:=shl a s) (j:=a.length - b.length+1) (by omega);have y:=fa (nG i (a.length - b.length+1));have x:4294967296^(b.length - 1)*bj b (b.length - 1) 0<=bn b:=JS w;have o:(4294967296:Int)^(b.length - 1)<=bn b:=by
  have:=Γ d (γi (pow_pos (b.length - 1)));omega
 have m:(4294967296:Int)^a.length=4294967296^(a.length - b.length+1)*4294967296^(b.length - 1):=by
  rw[<-δ7];congr 1;omega
 rw[c] at h;have p:(4294967296:Int)^(a.length - b.length+1)*bn ((shl a s).drop (a.length - b.length+1))<4294967296^(a.length - b.length+1)*(4294967296^(b.length - 1)*2^s):=by
  rw[<-δj,<-m];omega
 have r:=εn p (γi (pow_pos _));exact εE r (γT o (γi e))
theorem acy {x y:Int} {s:Nat} (n:0<=x) (u:x<4294967296) (t:0<=y) (o:y<4294967296) (g:0<s) (q:s<=31):
  ∃r,eJ.nZ .u32 (x / 2^s) (y*2^(32 - s) % 4294967296)=r/\(0<=r/\r<4294967296)/\2^s*r=x - x % 2^s+4294967296*(y % 2^s):=by
 have b:(0:Int)<2^s:=δF (by decide);have c:(0:Int)<2^(32 - s):=δF (by decide);have l:(4294967296:Int)=2^s*2^(32 - s):=by
  rw[<-δ7,show s+(32 - s)=32 by omega];decide
 have f:y*2^(32 - s) % 4294967296=(y % 2^s)*2^(32 - s):=by
  conv=>lhs;rw[l]
  rw[δ2 y,δ2 (2^s),ζn _ _ c,δ2]
 have d:=δP y (show(2:Int)^s≠0 by omega);have p:=δs y b;have e:0<=x / 2^s:=δ0 n (γi b);have m:x / 2^s<2^(32 - s):=εT b (by grind);have h:(y % 2^s)*2^(32 - s)+2^(32 - s)<=4294967296:=by
  have:=γT (show y % 2^s+1<=2^s by omega) (γi c);grind
 have j:0<=(y % 2^s)*2^(32 - s):=γz d (γi c);have a:=SG (k:=32 - s) e m d (by omega) (by omega);refine⟨x / 2^s+(y % 2^s)*2^(32 - s),by rw[f,a],⟨by omega,by omega⟩,?_⟩;have i:=εe x (2^s);grind
theorem SL {U r:List Int} {i s:Nat} {d:Int} (b:bA U) (c:bA r) (h:i<r.length) (g:∀j,i<=j->bj r j 0=0) (a:0<=d/\d<4294967296)
  (f:2^s*d=bj U i 0 - bj U i 0 % 2^s+4294967296*(bj U (i+1) 0 % 2^s))
  (e:2^s*bn r=bn (U.take i) - bj U 0 0 % 2^s+4294967296^i*(bj U i 0 % 2^s)):
  bA (r.set i d)/\(r.set i d).length=r.length/\(∀j,i+1<=j->bj (r.set i d) j 0=0)/\
  2^s*bn (r.set i d)=bn (U.take (i+1)) - bj U 0 0 % 2^s+4294967296^(i+1)*(bj U (i+1) 0 % 2^s):=by
 grind[nH,qa,uz,mh]
theorem acz {U r v q:List Int} {n s:Nat} {a b:Int} (f:bA U) (A:bA r) (y:bA v) (g:v.length=n) (u:bn U<bn v) (J:bn v=b*2^s) (C:0<b) (D:bn U+bn v*bn q=a*2^s)
  (G:s<=31) (x:n+1<=U.length)
  (c:2^s*bn r=bn (U.take n) - bj U 0 0 % 2^s+4294967296^n*(bj U n 0 % 2^s)):bn q=a / b/\bn r=a % b:=by
 have H:(0:Int)<2^s:=δF (by decide);have m:=ot y;rw[g] at m;have o:bj U n 0=0:=Ak f (i:=n) (by omega) (τ _);have e:bn (U.take n)=bn U:=by
  have k:=vV (U:=U) (j:=n) (by omega);have p:=fa (nG f n);have w:=fa (Aj f n);by_cases h:bn (U.drop n)=0;·simp_all
  ·have:=Γ (show(1:Int)<=bn (U.drop n) by omega) (γi (pow_pos n));omega
 have d:bn U=2^s*(a - b*bn q):=by
  grind
 have l:bj U 0 0 % 2^s=0:=by
  have k:=@mh U 0;have p:=vV (U:=U) (j:=1) (by omega);have E:(4294967296:Int)=2^s*2^(32 - s):=by
   rw[<-δ7,show s+(32 - s)=32 by omega];decide
  simp only[Nat.zero_add,εP,bn,ζx,δG,Int.zero_add] at k;rw[k,γP,ζx,δG] at p;have w:bj U 0 0=2^s*(a - b*bn q - 2^(32 - s)*bn (U.drop 1)):=by
   grind
  simp_all
 rw[o,l,e,Int.zero_emod,δN,ε8,εg,d] at c;have t:bn r=a - b*bn q:=Int.eq_of_mul_eq_mul_left (by omega) c;have B:=fa A;have z:bn r<b:=by
  have:2^s*bn r<2^s*b:=by
   grind
  simp_all
 obtain⟨F,I⟩:=vT (X:=a) (V:=b) (q:=bn q) (by grind) (by grind);grind
theorem Ei:∀{w:List Int},bA w->fJ w->w≠[]->4294967296^(w.length - 1)<=bn w
 |[],_,_,h=>absurd rfl h
 |[d],a,b,_=>by
  have f:=(ja.1 a).1;have c:=b.1 rfl;grind[bn];|d::e::l,a,b,_=>by
  obtain⟨f,c⟩:=ja.1 a;have g:=Ei c b.2 (by simp);have i:bn (d::e::l)=d+4294967296*bn (e::l):=rfl;simp only[γB,ζJ] at g ⊢;omega
theorem Ej {a b:Nat} (h:a<=b):(4294967296:Int)^a<=4294967296^b:=by
 obtain⟨m,rfl⟩:=ζm h;rw[δ7];have c:=pow_pos a;have d:=pow_pos m;have:=Γ (show(1:Int)<=4294967296^m by omega) (γi c);omega
theorem JW {t:List Int} {s:Nat} (e:bA t) (H:1<=t.length) (G:s<=31) (d:bj t (t.length - 1) 0*2^s<4294967296) (c:2147483648<=bj t (t.length - 1) 0*2^s):
  bA (bI (shl t s))/\(bI (shl t s)).length=t.length/\bn (bI (shl t s))=bn t*2^s/\2147483648<=bj (bI (shl t s)) (t.length - 1) 0/\1<=bj t (t.length - 1) 0:=by
 have o:(0:Int)<2^s:=δF (by decide);have q:=dX e (t.length - 1);have a:1<=bj t (t.length - 1) 0:=by
  grind
 obtain⟨y,N,z,_⟩:=SK e e G (τ _) H a;obtain⟨f,E⟩:=@rR (shl t s);have i:=sU y;rw[z] at f;generalize bI (shl t s)=w at*;obtain⟨n,A⟩:∃n,t.length=n+1:=⟨t.length - 1,by omega⟩;rw[A] at d c a q ⊢;simp only[ζJ] at d c a q ⊢;have p:=pow_pos n;have v:bn t=bn (t.take n)+4294967296^n*bj t n 0:=by
  grind[mh]
 have B:=fa (nG e n);have k:=ot (nG e n);rw[Ψ,εf (by omega)] at k;have J:(4294967296:Int)=2^(32 - s)*2^s:=by
  rw[<-δ7,show 32 - s+s=32 by omega];decide
 have L:(0:Int)<2^(32 - s):=δF (by decide);have D:bj t n 0<2^(32 - s):=by
  simp_all
 have l:(bj t n 0+1)*2^s<=4294967296:=by
  have:=γT (show bj t n 0+1<=2^(32 - s) by omega) (γi o);omega
 have x:bn w<4294967296^(n+1):=by
  rw[f,γP];have F:bn t<4294967296^n*(bj t n 0+1):=by grind
  have M:=γ0 F o;have I:=Γ l (γi p);grind
 have u:4294967296^n*(bj t n 0*2^s)<=bn w:=by
  rw[f,<-δj];exact γT (by omega) (γi o)
 have r:(4294967296:Int)^n<=bn w:=by
  have:=Γ (show(1:Int)<=bj t n 0*2^s by omega) (γi p);omega
 have b:w.length=n+1:=by
  have K:n<w.length:=by
   by_cases h:n<w.length;·exact h
   ·have:=ot i;have:=Ej (show w.length<=n by omega);omega
  by_cases h:w.length=n+1;·exact h
  ·have j:w≠[]:=by grind
   have:=Ei i E j;have:=Ej (show n+1<=w.length - 1 by omega);omega
 refine⟨i,b,f,?_,a⟩;have C:bn w=bn (w.take n)+4294967296^n*bj w n 0:=by
  grind[mh]
 have m:=ot (nG i n);rw[Ψ,εf (by omega)] at m;have g:4294967296^n*(bj t n 0*2^s)<4294967296^n*(bj w n 0+1):=by grind
 have:=εn g (γi p);omega
@[reducible] def sF:bk:=.pair .b (.pair (.bJ (.i .u32)) (.bJ (.i .u32)))
abbrev bO:=Bool×(List Int×List Int)
def bu (q:Rat):bO:=(decide (q<0),(cG (q.num.natAbs:Int),cG (q.den:Int)))
def ck (x:bO):Rat:=mkRat (if x.1 then -bn x.2.1 else bn x.2.1) (bn x.2.2).toNat
def Sz (k:Nat) (q:Rat):Prop:=(q.num.natAbs:Int)<4294967296^k/\(q.den:Int)<4294967296^k
theorem mX {n:Int} {k:Nat} (e:0<=n) (h:n<4294967296^k):(cG n).length<=k:=by
 obtain⟨f,b,d⟩:=gm e;by_cases c:(cG n).length<=k;·exact c
 ·have a:cG n≠[]:=by grind
  have:=Ei b d a;have:=Ej (show k<=(cG n).length - 1 by omega);omega
theorem fb (q:Rat):ck (bu q)=q:=by
 unfold ck bu;have a:=(gm (show(0:Int)<=(q.num.natAbs:Int) by omega)).1;have b:=(gm (show(0:Int)<=(q.den:Int) by omega)).1;simp only[a,b,decide_eq_true_eq,γk];grind[Rat.num_nonneg,δW]
theorem SN {N:Int} {D:Nat} (a:D≠0):(mkRat N D).num.natAbs=N.natAbs / N.natAbs.gcd D/\(mkRat N D).den=D / N.natAbs.gcd D:=by
 rw[<-ζq a,Rat.normalize_eq a];simp only;refine⟨?_,trivial⟩;have b:0<N.natAbs.gcd D:=Nat.gcd_pos_of_pos_right _ (by omega);have c:((N.natAbs.gcd D:Nat):Int)∣N:=Int.ofNat_dvd_left.2 (Nat.gcd_dvd_left _ _);generalize N.natAbs.gcd D=g at*;obtain⟨m,rfl⟩:=c;rw[Int.mul_ediv_cancel_left _ (by omega),εo,ε9,Nat.mul_div_cancel_left _ b]
theorem acA {N:Int} {D:Nat} (f:D≠0):mkRat N D<0↔N<0:=by
 have i:(0:Rat)=mkRat 0 D:=(Rat.zero_mkRat D).symm;have e:mkRat N D<0↔¬0<=mkRat N D:=Rat.not_le.symm;rw[e,<-Rat.num_nonneg];have g:=Rat.num_divInt_den (mkRat N D);have c:(mkRat N D).num*(D:Int)=N*((mkRat N D).den:Int):=by
  grind[Rat.mkRat_eq_iff,mkRat,δW]
 have d:(0:Int)<((mkRat N D).den:Int):=by have:=(mkRat N D).den_pos;omega
 have b:(0:Int)<(D:Int):=by omega
 constructor
 ·intro h;by_cases a:N<0;·exact a
  ·exfalso;apply h;have:0<=(mkRat N D).num*(D:Int):=by rw[c];exact γz (by omega) (by omega)
   exact Int.nonneg_of_mul_nonneg_left this b
 ·intro a h;have:0<=(mkRat N D).num*(D:Int):=γz h (by omega);rw[c] at this;have:=Int.mul_neg_of_neg_of_pos a d;omega
theorem SO {s:Bool} {n d:Int} (n0:0<=n) (f:0<d):bu (mkRat (if s then -n else n) d.toNat)=(s&&decide (0<n),(cG (n / ef n d),cG (d / ef n d))):=by
 have e:d.toNat≠0:=by omega
 obtain⟨b,c⟩:=SN (N:=if s then -n else n) e;have a:(if s then -n else n).natAbs=n.toNat:=by split<;>omega
 unfold bu;rw[b,c,a];have g:ef n d=((n.toNat.gcd d.toNat:Nat):Int):=rfl;refine δ5 ?_ (δ5 ?_ ?_)
 ·simp only;rw[Bool.eq_iff_iff];simp only[decide_eq_true_eq,Bool.and_eq_true];grind[acA]
 all_goals grind
theorem Aw {N:Int} {D:Nat} {k:Nat} (b:D≠0) (f:(N.natAbs:Int)<4294967296^k) (e:(D:Int)<4294967296^k):Sz k (mkRat N D):=by
 obtain⟨c,a⟩:=SN (N:=N) b;unfold Sz;rw[c,a];have g:=Nat.div_le_self N.natAbs (N.natAbs.gcd D);have d:=Nat.div_le_self D (N.natAbs.gcd D);omega
theorem Sz.mono {j k:Nat} {q:Rat} (h:Sz j q) (a:j<=k):Sz k q:=by
 have:=Ej a;exact⟨by have:=h.1;omega,by have:=h.2;omega⟩
theorem SQ (p q:Rat):p+q=mkRat (p.num*q.den+q.num*p.den) (p.den*q.den):=by
 rw[Rat.add_def,ζq]
theorem SR {p q:Rat} {i j:Nat} (e:Sz i p) (c:Sz j q):Sz (i+j+1) (p+q):=by
 rw[SQ];have g:=p.den_pos;have l:=q.den_pos;have k:p.den*q.den≠0:=Nat.ne_of_gt (Nat.mul_pos g l);have m:∀{a b:Int} {i j:Nat},0<=a->0<=b->a<4294967296^i->b<4294967296^j->a*b<4294967296^(i+j):=by
  intro a b i j h o f d;rw[δ7];exact εF (Γ (γi d) h) (γ0 f (pow_pos _))
 have f:=m (by omega) (by omega) e.1 c.2;have d:=m (by omega) (by omega) c.1 e.2;have n:=m (by omega) (by omega) e.2 c.2;rw[Nat.add_comm j i] at d;have t:=pow_pos (i+j);refine Aw k ?_ ?_
 ·have r:(p.num*(q.den:Int)).natAbs=p.num.natAbs*q.den:=by rw[εo,ε9]
  have s:(q.num*(p.den:Int)).natAbs=q.num.natAbs*p.den:=by rw[εo,ε9]
  omega
 omega
theorem Ek {p:Rat} {i:Nat} (a:Sz i p):Sz i (-p):=by
 grind[Sz,Rat.neg_num,Rat.neg_den]
def yi:bL:=⟨157,Int,.one (dV .u64),λx=>0<=(show Int from x)/\(show Int from x)<18446744073709551616,λx=> .row (.i .u32) (cG x)⟩
theorem h128:Holds Tryz.prog yi:=by
 refine cF (L:=[rQ]) yi lk (by grind[h152]) ?_;intro(x:Int) h;obtain⟨b,a⟩:0<=x/\x<18446744073709551616:=h;refine bN (let a:=(4294967296:Int);(0:Int)<=(32:Int)/\(32:Int)<=(64:Int)/\2<=1000000000000/\(Φ (bk.i .u32) (bI [x % a,x / a % a])).same (Φ (bk.i .u32) (cG x))) (by kernel_rfl) ?_;simp only[vcs];grind[bA,qN,bn]
def QD:List bL:=[rQ,yc,Ah,JB,yi,JU]
theorem hQD:∀c∈QD,Holds Tryz.prog c:=by
 simp only[QD,List.forall_mem_cons,List.not_mem_nil,false_implies,implies_true,and_true];grind[h152,h132,h154,h167,h128,h168p]
def WD:List cZ:=[JV,JK]
theorem hWD:∀c∈WD,dK Tryz.prog c:=by
 simp_all[WD,h168,h169]
def Em:bL:=⟨223,List Int×List Int,.cons (dW (.i .u32)) (.one (dW (.i .u32))),λa=>(bA a.1/\bA a.2)/\(a.1.length<=10000000000/\a.2.length<=10000000000)/\0<bn a.2,
 λa=> .bH [.row (.i .u32) (cG (bn a.1 / bn a.2)),.row (.i .u32) (cG (bn a.1 % bn a.2)),.si .i64 0]⟩
def sX (a:List Int×List Int) (s:Int):Prop:=(0<=s/\s<=31)/\bj (bI a.2) ((bI a.2).length - 1) 0*2^s.toNat<4294967296/\2147483648<=bj (bI a.2) ((bI a.2).length - 1) 0*2^s.toNat
def acD (a:List Int×List Int):Nat->cB
 |10=> .inv Int (λs=>⟨[(0,.row (.i .u32) (bI a.1)),(1,.row (.i .u32) (bI a.2)),(9,.si .u64 s)],[]⟩) (λs=>iS s 9)
  (λs=>(0<=s/\s<=31)/\bj (bI a.2) ((bI a.2).length - 1) 0*2^s.toNat<4294967296) (λs=>(32 - s).toNat) λ_ _=> .look
 |17=> .inv (Int×Int×List Int×List Int) (λx=>⟨[(4,.ow 1 x.2.2.2.length 1),(9,.si .u64 x.2.1),(10,.ow 0 x.2.2.1.length 1),(11,.row (.i .u32) (bI (shl (bI a.2) x.2.1.toNat))),(12,.si .i64 (bI (shl (bI a.2) x.2.1.toNat)).length),
   (13,.si .i64 ((bI a.1).length - (bI a.2).length)),(74,.si .i64 ((bI a.1).length - (bI a.2).length+1)),(75,.si .i64 x.1)],[.row (.i .u32) x.2.2.1 235 false,.row (.i .u32) x.2.2.2 235 true]⟩)
  (λs=>(iS s 75,iS s 9,oS (.i .u32) s 0,oS (.i .u32) s 1))
  (λx=>(0<=x.1/\x.1<=(bI a.1).length - (bI a.2).length+1)/\sX a x.2.1/\(bA x.2.2.1/\x.2.2.1.length=(bI a.1).length+1)/\(bA x.2.2.2/\x.2.2.2.length=(bI a.1).length - (bI a.2).length+1)/\
   (∀j:Nat,(j:Int)<(bI a.1).length - (bI a.2).length+1 - x.1->bj x.2.2.2 j 0=0)/\
   bn x.2.2.1+bn (bI (shl (bI a.2) x.2.1.toNat))*bn x.2.2.2=bn (bI a.1)*2^x.2.1.toNat/\
   bn (x.2.2.1.drop (((bI a.1).length - (bI a.2).length+1 - x.1:Int).toNat))<bn (bI (shl (bI a.2) x.2.1.toNat)))
  (λx=>((bI a.1).length - (bI a.2).length+1 - x.1:Int).toNat) λ_ _=> .look
 |24=> .inv (Int×Int×List Int×List Int×List Int) (λx=>⟨[(4,.ow 1 x.2.2.2.1.length 1),(5,.ow 2 x.2.2.2.2.length 1),(9,.si .u64 x.2.1),(10,.ow 0 x.2.2.1.length 1),(100,.si .i64 (bI (shl (bI a.2) x.2.1.toNat)).length),(101,.si .i64 x.1)],
   [.row (.i .u32) x.2.2.1 235 false,.row (.i .u32) x.2.2.2.1 235 true,.row (.i .u32) x.2.2.2.2 235 true]⟩)
  (λs=>(iS s 101,iS s 9,oS (.i .u32) s 0,oS (.i .u32) s 1,oS (.i .u32) s 2))
  (λx=>(0<=x.1/\x.1<=(bI (shl (bI a.2) x.2.1.toNat)).length)/\sX a x.2.1/\(bA x.2.2.1/\x.2.2.1.length=(bI a.1).length+1)/\(bA x.2.2.2.1/\x.2.2.2.1.length=(bI a.1).length - (bI a.2).length+1)/\
   bn x.2.2.1+bn (bI (shl (bI a.2) x.2.1.toNat))*bn x.2.2.2.1=bn (bI a.1)*2^x.2.1.toNat/\bn x.2.2.1<bn (bI (shl (bI a.2) x.2.1.toNat))/\
   (bA x.2.2.2.2/\x.2.2.2.2.length=(bI (shl (bI a.2) x.2.1.toNat)).length)/\(∀j,x.1.toNat<=j->bj x.2.2.2.2 j 0=0)/\
   2^x.2.1.toNat*bn x.2.2.2.2=bn (x.2.2.1.take x.1.toNat) - bj x.2.2.1 0 0 % 2^x.2.1.toNat+4294967296^x.1.toNat*(bj x.2.2.1 x.1.toNat 0 % 2^x.2.1.toNat))
  (λx=>((bI (shl (bI a.2) x.2.1.toNat)).length - x.1).toNat) λ_ _=> .look
 |_=> .look
theorem h166g:Holds Tryz.prog Em:=by
 refine con (L:=QD) (W:=fU WD) Em acD (lg hWD) hQD ?_;rintro⟨a,b⟩ ⟨⟨ha,hb⟩,⟨hla,hlb⟩,b0⟩;simp only at ha hb hla hlb b0;refine bN (let c:=(0:Int);let d:=(4294967296:Int);let e:=(18446744073709551616:Int);let f:=Φ;let g:=Θ .i64;let h:=bV .i64;let k:=bq.row;let l:=(1:Int);let m:=γ6;let n:=(32:Int);let o:=(140737488355328:Int);let p:=(1000000000000:Int);let q:=(2:Int);let r:=SV.bH;let s:=(31:Int);let z0:Nat:=(bI b).length;let N:=(↑z0:Int);let av:=decide (N=c);let ag:=f (bk.i .i64) [];let t:=bk.i .u32;let ah:=g 0;let aa:=r [f t (cG (bn a / bn b)),f t (cG (bn a % bn b)),ah];let z7:Nat:=(bI a).length;let z8:Nat:=(bI b).length;let F:=bn (bI a);let aw:=decide (mj F (bn (bI b))<c);let a1:=γp .i64 0;let ax:=decide (N=l);let ab:=bj (bI b) 0 c;let ai:=F % ab % e;let aj:=bj (bI b) (z8 - 1) c;let a2:=N - l;let ak:=(↑(bI a).length:Int) - N;let B:=ak+l;let O:=ε B.toNat c;let al:=(↑z7:Int) - (↑z8:Int);let am:=g al;let y:=al+l;let an:=g y;let ay:=k t O 235 true;let P:=z7+1;let Q:=z7 - z8+1;a.length<=1000000000000/\b.length<=1000000000000/\(av=true->(r [ag,ag,γp .i64 8]).same aa)/\(av=false->((bA (bI a)/\bA (bI b))/\z7<=1000000000000/\z8<=1000000000000)/\(aw=true->((bA (bI a)/\bA [])/\z7<=100000000000/\0<=100000000000)/\(r [ag,f t (cG (F+bn [])),a1]).same aa)/\(aw=false->(ax=true->c<=c/\c<N/\0<z0/\(bA (bI a)/\z7<=100000000000/\c<ab/\ab<d)/\(c<=ai/\ai<e)/\(r [f t (cG (F / ab)),f t (cG ai),a1]).same aa)/\(ax=false->((((f t (bI a)).same (f t (bI a))/\(f t (bI b)).same (f t (bI b))/\(γp .u64 0).same (Θ .u64 0)/\True)/\True)/\(c<=c/\c<=s)/\aj*l<d)/\∀(x:Int),let ao:=q^x.toNat;let a3:=(x+l) % e;let az:=Θ .u64 a3;let aA:=shl (bI b) x.toNat;let R:=shl (bI a) x.toNat;let aB:=m 0 R.length 1;let S:=bI aA;let aC:=k t R 235 false;let aD:=λ(u:Bool) ↦decide (bj (bI b) a2.toNat c*ao % d<(2147483648:Int))=u;(c<=x/\x<=s)/\aj*ao<d->h a2/\c<=a2/\a2<N/\a2.toNat<z0/\c<=x/\x<=n/\(aD true->(((f t (bI a)).same (f t (bI a))/\(f t (bI b)).same (f t (bI b))/\az.same az/\True)/\True)/\((c<=a3/\a3<=s)/\aj*q^a3.toNat<d)/\(n - a3).toNat<(n - x).toNat)/\(aD false->Av (bI a,x)/\Av (bI b,x)/\aA.length<=1000000000000/\h ak/\h B/\c<=B/\B<=B/\B*(4:Int)<=o/\B<=p/\h B/\((((m 1 B.toNat 1).same (m 1 O.length 1)/\(Θ .u64 x).same (Θ .u64 x)/\aB.same aB/\(f t S).same (f t S)/\(g (↑S.length:Int)).same (g (↑S.length:Int))/\(g ak).same am/\(g B).same an/\a1.same ah/\True)/\aC.same aC/\ay.same ay/\True)/\(c<=c/\c<=y)/\sX (a,b) x/\(bA R/\R.length=P)/\(bA O/\O.length=Q)/\(∀(j:Nat),(↑j:Int)<y - c->bj O j c=c)/\bn R+bn S*bn O=F*ao/\bn (γ5 (y - c).toNat R)<bn S)/\∀(x:Int×Int×List Int×List Int),let C:=x.snd.snd.fst;let T:=bI (shl (bI b) x.snd.fst.toNat);let U:=bn T;let w:=x.snd.snd.snd;let ac:=q^x.snd.fst.toNat;let V:=C.length;let aE:=decide (x.fst<y);let G:=al - x.fst;let z:=(↑T.length:Int);let a4:=G+z+l;let a5:=G.toNat;let a6:=a4.toNat;let H:=nI.mk C a5 (a6 - a5) V T;let K:=x.fst+l;let ap:=m 1 w.length 1;let W:=w.set a5 (H.x / U);let ad:=Θ .u64 x.snd.fst;let aq:=m 0 V 1;let ae:=g z;let aF:=g K;let aG:=k t H.row 235 false;let aH:=k t W 235 true;let X:=ε z.toNat c;let aI:=k t C 235 false;let aJ:=k t w 235 true;let aK:=k t X 235 true;let aL:=bj C 0 c % ac;let aM:=bn C+U*bn w=F*ac;(c<=x.fst/\x.fst<=y)/\sX (a,b) x.snd.fst/\(bA C/\V=P)/\(bA w/\w.length=Q)/\(∀(j:Nat),(↑j:Int)<y - x.fst->bj w j c=c)/\aM/\bn (γ5 (y - x.fst).toNat C)<U->(aE=true->h G/\h (G+z)/\h a4/\h (G+z)/\h a4/\V=C.length/\c<=G/\c<=a4/\c<=a4/\a5<=a6/\a6<=a6/\a6<=V/\H.ok/\w.length=w.length/\c<=G/\G<(↑w.length:Int)/\w.length=w.length/\a5<w.length/\h K/\((ap.same (m 1 W.length 1)/\ad.same ad/\aq.same (m 0 H.row.length 1)/\(f t T).same (f t T)/\ae.same ae/\am.same am/\an.same an/\aF.same aF/\True)/\aG.same aG/\aH.same aH/\True)/\((c<=K/\K<=y)/\sX (a,b) x.snd.fst/\(bA H.row/\H.row.length=P)/\(bA W/\W.length=Q)/\(∀(j:Nat),(↑j:Int)<y - K->bj W j c=c)/\bn H.row+U*bn W=F*ac/\bn (γ5 (y - K).toNat H.row)<U)/\(y - K).toNat<(y - x.fst).toNat)/\(aE=false->c<=z/\z<=z/\z*(4:Int)<=o/\z<=p/\(((ap.same ap/\(m 2 z.toNat 1).same (m 2 X.length 1)/\ad.same ad/\aq.same aq/\ae.same ae/\a1.same ah/\True)/\aI.same aI/\aJ.same aJ/\aK.same aK/\True)/\(c<=c/\c<=z)/\sX (a,b) x.snd.fst/\(bA C/\V=P)/\(bA w/\w.length=Q)/\aM/\bn C<U/\(bA X/\X.length=T.length)/\(∀(j:Nat),0<=j->bj X j c=c)/\ac*bn X=bn [] - aL+l*aL)/\∀(x:Int×Int×List Int×List Int×List Int),let aN:=Θ .u64 x.snd.fst;let v:=x.snd.snd.fst;let aO:=m 0 v.length 1;let Y:=bI (shl (bI b) x.snd.fst.toNat);let Z:=(↑Y.length:Int);let aP:=g Z;let E:=x.fst+l;let aQ:=g E;let A:=x.snd.snd.snd.snd;let L:=A.length;let D:=x.fst.toNat;let ar:=bj v D c;let I:=q^x.snd.fst.toNat;let a7:=A.set D (ar / I);let M:=x.snd.snd.snd.fst;let a8:=M.length;let aR:=m 1 a8 1;let aS:=k t v 235 false;let aT:=k t M 235 true;let a9:=E.toNat;let aU:=bj v 0 c % I;let aV:=bj v a9 c;let aW:=decide (x.fst<Z);let J:=v.length;let aX:=decide (c<x.snd.fst);let au:=(n - x.snd.fst) % e;let b3:=aN.same aN/\aO.same aO/\aP.same aP/\aQ.same aQ/\True;let af:=L=a7.length;let aY:=x.fst<(↑a7.length:Int);let aZ:=D<a7.length;let b0:=bn v+bn Y*bn M=F*I;let b4:=(Z - E).toNat<(Z - x.fst).toNat;let b5:=aR.same aR;let b6:=c<=E/\E<=Z;let b1:=λ(u:List Int) (u_1:Int) ↦let a0:=u.set D u_1;let b2:=k t a0 235 true;h E/\((b5/\(m 2 L 1).same (m 2 a0.length 1)/\b3)/\aS.same aS/\aT.same aT/\b2.same b2/\True)/\(b6/\sX (a,b) x.snd.fst/\(bA v/\v.length=P)/\(bA M/\a8=Q)/\b0/\bn v<bn Y/\(bA a0/\a0.length=Y.length)/\(∀(j:Nat),a9<=j->bj a0 j c=c)/\I*bn a0=bn (γa a9 v) - aU+d^a9*(aV % I))/\b4;(c<=x.fst/\x.fst<=Z)/\sX (a,b) x.snd.fst/\(bA v/\v.length=P)/\(bA M/\a8=Q)/\b0/\bn v<bn Y/\(bA A/\L=Y.length)/\(∀(j:Nat),D<=j->bj A j c=c)/\I*bn A=bn (γa D v) - aU+d^D*(ar % I)->(aW=true->v.length=J/\c<=x.fst/\x.fst<(↑J:Int)/\v.length=J/\D<J/\c<=x.snd.fst/\x.snd.fst<=n/\L=A.length/\c<=x.fst/\x.fst<(↑A.length:Int)/\L=A.length/\D<A.length/\(aX=true->af/\c<=x.fst/\aY/\af/\aZ/\h E/\v.length=J/\c<=E/\E<(↑J:Int)/\v.length=J/\a9<J/\c<=au/\au<=n/\af/\c<=x.fst/\aY/\af/\aZ/\b1 a7 (eJ.nZ .u32 (bj a7 D c) (aV*q^au.toNat % d)))/\(aX=false->b1 A (ar / I)))/\(aW=false->a8=M.length/\L=A.length/\a8<=1000000000000/\L<=1000000000000/\(r [f t (bI M),f t (bI A),a1]).same aa))))))) (by kernel_rfl) ?_;simp only[vcs];obtain⟨va,na⟩:=@rR a;obtain⟨vb,nb⟩:=@rR b;have da:=sU ha;have db:=sU hb;have la:=@uy a;have lb:=@uy b;have p0:=fa da;have d0:bA []:=by simp[bA]
 simp only[sX];rw[<-va,<-vb];rw[<-vb] at b0;generalize bI a=S at*;generalize bI b=T at*;have hm:=δP (bn S) (show bn T≠0 by omega);have hl:=δs (bn S) b0;have hT1:T.length≠0:=by
  intro h;rw[φ h] at b0;exact absurd b0 (by decide)
 refine⟨by omega,by omega,λh0=>by omega,λh0=>⟨⟨⟨da,db⟩,by omega,by omega⟩,λhlt=>⟨⟨⟨da,d0⟩,by omega,by omega⟩,?_⟩,λhge=>⟨λh1=>?_,λh1=>⟨?_,?_⟩⟩⟩⟩
 ·have hab:bn S<bn T:=by unfold mj at hlt;split at hlt<;>(try split at hlt)<;>omega
  have hdv:bn S / bn T=0:=εH p0 hab;have hmv:bn S % bn T=bn S:=δO p0 hab;refine⟨SC (by rw[hdv];rfl),?_⟩;rw[hmv];simp[bn]
 ·obtain⟨d,rfl⟩:∃d,T=[d]:=List.length_eq_one_iff.1 (by omega);have hd:=(ja.1 db).1;have acE:bj [d] 0 0=d:=rfl;have hv:bn [d]=d:=by simp[bn]
  rw[hv] at b0 hm hl ⊢;rw[acE];have hmm:bn S % d % 18446744073709551616=bn S % d:=by omega
  rw[hmm];repeat' refine γj ?_ ?_
  all_goals first|omega|exact da|rfl|(simp;done)
 ·have:=dX db (T.length - 1);repeat' refine γj ?_ ?_
  all_goals omega
 have IG:bn T<=bn S:=by unfold mj at hge;split at hge<;>(try split at hge)<;>omega
 have hlen:T.length<=S.length:=by
  by_cases h:S.length<T.length
  ·have:=yb da db nb h;omega
  ·omega
 have hTn:2<=T.length:=by omega
 clear hge h0 h1 hT1 va vb d0;rintro s ⟨⟨s0,s1⟩,hs⟩;have t1:((T.length:Int) - 1).toNat=T.length - 1:=by omega
 have hxt:=dX db (T.length - 1);have hps:(0:Int)<2^s.toNat:=δF (by decide);have hnn:0<=bj T (T.length - 1) 0*2^s.toNat:=γz hxt.1 (γi hps);have hmod:bj T (T.length - 1) 0*2^s.toNat % 4294967296=bj T (T.length - 1) 0*2^s.toNat:=by omega
 rw[t1,hmod];repeat refine γj (by omega) ?_
 refine⟨λhc=>?_,λhc=>?_⟩
 ·have htop:1<=bj T (T.length - 1) 0:=by
   by_cases h:1<=bj T (T.length - 1) 0;·exact h
   ·exfalso;have h4:=Ei db nb (by rintro rfl;simp at hTn);have h5:bn T=bn (T.take (T.length - 1))+4294967296^(T.length - 1)*bj T (T.length - 1) 0:=by
     have:=@mh T (T.length - 1);rwa [show T.length - 1+1=T.length by omega,ψ] at this
    have h6:=ot (nG db (T.length - 1));rw[Ψ,εf (by omega)] at h6;rw[show bj T (T.length - 1) 0=0 by omega,δN] at h5;omega
  have h31:s<=30:=by
   by_cases h:s<=30;·exact h
   ·have acG:s.toNat=31:=by omega
    rw[acG,show(2:Int)^31=2147483648 from rfl] at hc;omega
  have e:((s+1) % 18446744073709551616)=s+1:=by omega
  have e2:(s+1).toNat=s.toNat+1:=by omega
  rw[e,e2,γP,<-δj];repeat' refine γj ?_ ?_
  all_goals omega
 ·obtain⟨dw,lw,vw,tw,Ax⟩:=JW db (by omega) (show s.toNat<=31 by omega) hs (by omega);obtain⟨ds,ls,vs,hst⟩:=SK da db (show s.toNat<=31 by omega) hlen (by omega) Ax;have hds:∀z,Av (z,s)↔(bA z/\z.length<=100000000000):=λz=>⟨λh=>⟨h.1,h.2.1⟩,λh=>⟨h.1,h.2,s0,s1⟩⟩;have bJ:(shl T s.toNat).length=T.length+1:=Ai;have bits:(0<=s/\s<=31)/\bj T (T.length - 1) 0*2^s.toNat<4294967296/\2147483648<=bj T (T.length - 1) 0*2^s.toNat:=⟨⟨s0,s1⟩,hs,by omega⟩;rw[hds,hds,bJ,ls];refine⟨⟨da,by omega⟩,⟨db,by omega⟩,?_⟩;repeat refine γj (by omega) ?_
  refine⟨?_,?_⟩
  ·repeat' refine γj ?_ ?_
   all_goals first|omega|exact my (by simp)|exact my (by omega)|exact ds|exact Au|exact λj _=>SE|(simp;omega)|(rw[yg,δN,εg];exact vs)|(rw[vw,show((S.length:Int) - T.length+1 - 0).toNat=S.length - T.length+1 by omega];exact hst)
  clear hst vs ls ds bits hds hmod hnn hps hxt Ax tw vw lw dw bJ t1 hc hs s0 s1;clear s;rintro⟨i,s,U,q⟩ ⟨⟨i0,i1⟩,⟨⟨s0,s1⟩,hs,hs2⟩,⟨hU,En⟩,⟨hq,Eo⟩,hz,he,hlt⟩;simp only at i0 i1 s0 s1 hs hs2 hU En hq Eo hz he hlt ⊢;obtain⟨dw,lw,vw,tw,Ax⟩:=JW db (by omega) (show s.toNat<=31 by omega) hs (by omega);generalize hw:bI (shl T s.toNat)=w at*;have hw0:0<bn w:=by
   rw[vw];exact Int.mul_pos b0 (δF (by decide))
  refine⟨λkg=>?_,λme=>?_⟩
  ·obtain⟨j,hj⟩:∃j:Nat,(S.length:Int) - T.length - i=j:=⟨((S.length:Int) - T.length - i).toNat,by omega⟩;have e1:((j:Int)+w.length+1).toNat - j=w.length+1:=by omega
   have e2:((S.length:Int) - T.length+1 - i).toNat=j+1:=by omega
   rw[e2] at hlt;obtain⟨k1,⟨k2,k3⟩,⟨k4,k5⟩,k6,k7⟩:=acw (j:=j) (m:=S.length - T.length) hU dw hq (by omega) (by omega) (by omega) (by omega) hw0 (hz j (by omega)) he hlt;have e3:((S.length:Int) - T.length+1 - (i+1)).toNat=j:=by omega
   simp only[hj,e1,e3,γk,nI.row,nI.x,nI.ok];repeat' refine γj ?_ ?_
   all_goals first|omega|exact my (by simp)|exact my k3.symm|exact trivial|exact hU|exact dw|exact k1|exact k2|exact k6|exact k7|exact nH hq k4 k5|(simp;omega)|(rw[lw];exact tw)|exact λp hp=>by rw[qa (by omega)];exact hz p (by omega)
  ·have e2:((S.length:Int) - T.length+1 - i).toNat=0:=by omega
   rw[e2,List.drop_zero] at hlt;repeat refine γj (by omega) ?_
   refine⟨?_,?_⟩
   ·have h1:=@mh U 0;simp only[εP,bn,ζx,δG];repeat' refine γj ?_ ?_
    all_goals first|omega|exact my (by simp)|exact hU|exact hq|exact he|exact hlt|exact Au|exact λj _=>SE|(simp;done)|(rw[yg];omega)
   clear hlt hz e2 me i0 i1 tw Ax hw0 hs hs2 s0 s1 he hU En hq Eo;clear hw dw lw vw;clear w s i U q;rintro⟨i,s,U,q,r⟩ ⟨⟨i0,i1⟩,⟨⟨s0,s1⟩,hs,hs2⟩,⟨hU,En⟩,⟨hq,Eo⟩,he,hlt,⟨hr,hrl⟩,hz,hv⟩;simp only at i0 i1 s0 s1 hs hs2 hU En hq Eo he hlt hr hrl hz hv ⊢;obtain⟨dw,lw,vw,tw,Ax⟩:=JW db (by omega) (show s.toNat<=31 by omega) hs (by omega);generalize hw:bI (shl T s.toNat)=w at*;refine⟨λkg=>?_,λme=>?_⟩
   ·have x0:=dX hU i.toNat;have x1:=dX hU (i.toNat+1);have e1:(i+1).toNat=i.toNat+1:=by omega
    have x2:=dX hr i.toNat;have hps:(0:Int)<2^s.toNat:=δF (by decide);have y0:0<=bj U i.toNat 0 / 2^s.toNat:=δ0 x0.1 (γi hps);have y1:bj U i.toNat 0 / 2^s.toNat<=bj U i.toNat 0:=Int.ediv_le_self _ x0.1;have e2:((32 - s) % 18446744073709551616).toNat=32 - s.toNat:=by omega
    have e3:(r.set i.toNat (bj U i.toNat 0 / 2^s.toNat)).set i.toNat=r.set i.toNat:=by funext z;rw[List.set_set]
    simp only[e1,e2,e3,sW (show i.toNat<r.length by omega),γb];repeat refine γj (by omega) ?_
    refine⟨λhs0=>?_,λhs0=>?_⟩
    ·obtain⟨d,hd1,hd2,hd3⟩:=acy (s:=s.toNat) x0.1 x0.2 x1.1 x1.2 (by omega) (by omega);obtain⟨k1,k2,k3,k4⟩:=SL hU hr (show i.toNat<r.length by omega) hz hd2 hd3 hv;rw[hd1];repeat' refine γj ?_ ?_
     all_goals first|omega|exact my (by simp)|exact hU|exact hq|exact k1|exact k3|exact k4|exact he|exact hlt|trivial
    ·have acH:s.toNat=0:=by omega
     obtain⟨k1,k2,k3,k4⟩:=SL (s:=s.toNat) (d:=bj U i.toNat 0 / 2^s.toNat) hU hr (show i.toNat<r.length by omega) hz ⟨y0,by omega⟩ (by rw[acH];simp) hv;repeat' refine γj ?_ ?_
     all_goals first|omega|exact my (by simp)|exact hU|exact hq|exact k1|exact k3|exact k4|exact he|exact hlt|trivial
   ·have hi:i.toNat=w.length:=by omega
    rw[hi] at hv;obtain⟨w1,w2⟩:=acz hU hr dw rfl hlt vw b0 he (show s.toNat<=31 by omega) (by omega) hv;rw[qN hq,qN hr,w1,w2];repeat' refine γj ?_ ?_
    all_goals first|omega|rfl|trivial
theorem JX {a b:List Int} (d:bA a) (c:bA b) (f:fJ a) (h:bn a<=bn b):a.length<=b.length:=by
 by_cases e:a.length<=b.length;·exact e
 ·have:=yb c d f (by omega);omega
def Ep:bL:=⟨198,List Int×List Int,.cons (dW (.i .u32)) (.one (dW (.i .u32))),λa=>(bA a.1/\bA a.2)/\(a.1.length<=1000000000/\a.2.length<=1000000000),
 λa=> .row (.i .u32) (cG (ef (bn a.1) (bn a.2)))⟩
def acI (a:List Int×List Int):Nat->cB
 |2=> .inv (List Int×List Int) (λx=>⟨[(0,.row (.i .u32) x.1),(1,.row (.i .u32) x.2)],[]⟩) (λs=>(rS (.i .u32) s 0,rS (.i .u32) s 1))
  (λx=>(bA x.1/\bA x.2)/\(fJ x.1/\fJ x.2)/\(x.1.length<=1000000000/\x.2.length<=1000000000)/\ef (bn x.1) (bn x.2)=ef (bn a.1) (bn a.2)) (λx=>(bn x.2).toNat) λ_ _=> .look
 |_=> .look
theorem h165g:Holds Tryz.prog Ep:=by
 refine cF (L:=[Ah,Em]) Ep acI (by grind[h154,h166g]) ?_;rintro⟨a,b⟩ ⟨⟨l,k⟩,⟨n,m⟩⟩;simp only at l k n m;refine bN (let h:=Φ;let c:=bk.i .u32;let f:=cG (bn a+bn []);let e:=cG (bn b+bn []);let g:=ef (bn a) (bn b);((bA a/\bA [])/\a.length<=100000000000/\0<=100000000000)/\((bA b/\bA [])/\b.length<=100000000000/\0<=100000000000)/\((((h c f).same (h c f)/\(h c e).same (h c e)/\True)/\True)/\(bA f/\bA e)/\(fJ f/\fJ e)/\(f.length<=1000000000/\e.length<=1000000000)/\ef (bn f) (bn e)=g)/\∀(x:List Int×List Int),let v:=decide ((0:Int)<(↑x.snd.length:Int));let d:=cG (bn x.fst % bn x.snd);(bA x.fst/\bA x.snd)/\(fJ x.fst/\fJ x.snd)/\(x.fst.length<=1000000000/\x.snd.length<=1000000000)/\ef (bn x.fst) (bn x.snd)=g->(v=true->((bA x.fst/\bA x.snd)/\(x.fst.length<=10000000000/\x.snd.length<=10000000000)/\(0:Int)<bn x.snd)/\(false=true->(h c x.fst).same (h c (cG g)))/\(false=false->(((h c x.snd).same (h c x.snd)/\(h c d).same (h c d)/\True)/\True)/\((bA x.snd/\bA d)/\(fJ x.snd/\fJ d)/\(x.snd.length<=1000000000/\d.length<=1000000000)/\ef (bn x.snd) (bn d)=g)/\(bn d).toNat<(bn x.snd).toNat))/\(v=false->(h c x.fst).same (h c (cG g)))) (by kernel_rfl) ?_;simp only[vcs];have r:bA []:=by simp[bA]
 have N:=fa l;have E:=fa k;have z:bn []=0:=rfl;rw[z,εg,εg];obtain⟨Q,y,D⟩:=gm N;obtain⟨o,w,H⟩:=gm E;have p:(cG (bn a)).length<=1000000000:=by
  rw[<-qN l];grind[uy]
 have j:(cG (bn b)).length<=1000000000:=by
  rw[<-qN k];grind[uy]
 refine⟨⟨⟨l,r⟩,by omega,by omega⟩,⟨⟨k,r⟩,by omega,by omega⟩,⟨⟨y,w⟩,⟨D,H⟩,⟨p,j⟩,by rw[Q,o]⟩,?_⟩;rintro⟨s,t⟩ ⟨⟨u,q⟩,⟨J,C⟩,⟨O,G⟩,F⟩;simp only at u q J C G O F ⊢;have T:=fa u;have U:=fa q;refine⟨λB=>?_,λB=>?_⟩
 ·have h:0<bn t:=by
   grind[val_zero]
  have K:=δP (bn s) (show bn t≠0 by omega);have A:=δs (bn s) h;obtain⟨I,M,S⟩:=gm K;have P:=JX M q S (by rw[I];omega);grind[aci]
 ·have R:t=[]:=φ (by omega);grind[acj,Ag]
end Go.Vi
