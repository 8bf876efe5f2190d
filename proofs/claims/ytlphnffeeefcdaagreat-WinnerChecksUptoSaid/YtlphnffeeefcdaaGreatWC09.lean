/-
  Contracts: the reference's natural numbers: trim, digit, Cmp, Add, Sub, FromUint.
  Conditions: none.
-/
import Derived.Test.YtlphnffeeefcdaaGreatWC06
import Derived.Test.YtlphnffeeefcdaaGreatWC07
import Derived.Test.YtlphnffeeefcdaaGreatWC08
import Derived.Test.YtlphnffeeefcdaaGreatProg
import Derived.Shelf.Sort.AssemblyIn
import Derived.Shelf.SlicesE.Clone
import Derived.Shelf.SlicesE.Delete
import Derived.KernelRfl
set_option maxRecDepth 100000
set_option maxHeartbeats 4000000
set_option linter.all false
open And renaming intro->γe
open Bool renaming eq_iff_iff->ζu
open Go.Vi.AV.sc renaming injEq->γ7
open Go.Vi.SV renaming row->Δ,si->Ω,il->γo,ow->γz,sb->γn,bl->γ0,agg->γF,ptr->γU
open Int renaming tdiv_eq_ediv_of_nonneg->γQ,tmod_eq_emod_of_nonneg->γR,pow_succ->γs,mul_assoc->γO,mul_le_mul_of_nonneg_left->ν,le_of_lt->ω,mul_nonneg->γh,mul_le_mul->δy,mul_lt_mul_of_pos_right->γN,mul_comm->δL,ediv_ediv_of_nonneg->δs,pow_add->δf,pow_pos->γS,mul_ediv_add_emod->δb,emod_nonneg->γ9,emod_lt_of_pos->γM,emod_eq_of_lt->δp,ediv_eq_zero_of_lt->δQ,ediv_nonneg->δa,ediv_le_self->εP,ediv_lt_of_lt_mul->δC,pow_zero->εf,mul_one->δ5
open List renaming eq_nil_of_length_eq_zero->π,take->τ,take_of_length_le->γc,take_length->χ,replicate->δ,map_cons->φ,map_nil->γv,length->Φ,append_assoc->γ4,take_append_drop->γK,pairwise_append->δ1,cons_append->γC,drop->γ3,mem_of_mem_drop->γW,mem_of_mem_take->γi,nil_append->δO,Pairwise->ζl
open List.Perm renaming refl->ζC
open List.cons renaming injEq->Ξ
open Nat renaming min_eq_left->δP,exists_eq_add_of_le->δJ
open Option.some renaming injEq->γ
open Prod renaming ext->εS
namespace Go.Vi
open Go.Proofs.YtlphnffeeefcdaaGreat.Ir
open Go.Proofs
theorem yf (a:List Int):bq a=bp a 0 0+4294967296*bq a.tail:=by
 cases a<;>grind[bq,bp]
theorem sS (a:List Int) (j:Nat):bp a (j+1) 0=bp a.tail j 0:=by
 grind[bp]
theorem I5 {a:List Int} (h:bB a):bB a.tail:=λd b=>h d (List.mem_of_mem_tail b)
theorem I6:∀(n:Nat) {a b:List Int},a.length<=n->b.length<=n->(∀j,bp a j 0=bp b j 0)->bq a=bq b
 |0,a,b,c,d,_=>by simp_all;|n+1,a,b,c,d,h=>by
  rw[yf a,yf b,h 0];have:=I6 n (a:=a.tail) (b:=b.tail) (by simp_all) (by simp_all) (λj=>by rw[<-sS,<-sS];exact h (j+1));rw[this]
theorem I7:∀{k:Nat} {a b:List Int},bB a->bB b->(∀j,k<j->bp a j 0=bp b j 0)->bp a k 0<bp b k 0->bq a<bq b
 |0,a,b,e,c,h,d=>by
  have:=I6 (max a.length b.length) (a:=a.tail) (b:=b.tail) (by grind) (by grind) (λj=>by rw[<-sS,<-sS];simp_all);grind[yf];|k+1,a,b,e,c,h,d=>by
  rw[sS,sS] at d;have:=I7 (k:=k) (I5 e) (I5 c) (λj g=>by rw[<-sS,<-sS];simp_all) d;have i:=dK e 0;have f:=dK c 0;grind[yf]
def RN (a:List Int):SV:=.row (.i .u32) (bO (bq a))
def uz:bL:=⟨133,List Int,.one (cV (.i .u32)),λa=>bB a/\a.length<=100000000000,λa=>RN a⟩
def abt (a:List Int):Nat->cC
 |1=> .inv (List Int) (λl=>⟨[(0,.row (.i .u32) l)],[]⟩) (λs=>rS (.i .u32) s 0) (λl=>bB l/\bq l=bq a/\l.length<=a.length) (λl=>l.length) λ_ _=> .look
 |_=> .look
theorem RO {l:List Int} (h:l.length≠0) (a:bp l (l.length - 1) 0=0):bq (l.take (l.length - 1))=bq l:=by
 grind[js]
theorem D3 {l:List Int} (h:l.length=0\/bp l (l.length - 1) 0≠0):dS l:=by
 rcases h with h|h;·rw[π h];trivial
 ·by_cases b:l.length=0;·rw[π b];trivial
  ·have c:=Ad (a:=l) (n:=l.length - 1) (by omega);grind[Iu]
theorem h140:Holds Tryz.prog uz:=by
 refine cq (L:=[]) uz abt (by simp) ?_;intro(a:List Int) h;obtain⟨p,u⟩:bB a/\a.length<=100000000000:=h;refine bQ (let h:=(0:Int);let l:=Δ;let d:=bw.i .u32;let n:=l d (bO (bq a));((((l d a).same (l d a)/\True)/\True)/\bB a/\bq a=bq a/\a.length<=a.length)/\∀(x:List Int),let g:=0+x.length;let f:=(↑x.length:Int);let m:=decide (h<f);let c:=f - (1:Int);let e:=c.toNat;let j:=decide (bp x e h=h);let b:=τ (e - 0) x;let k:=0=0/\g*4<=140737488355328/\g<=1000000000000/\x.length=x.length/\(l d x).same n;bB x/\bq x=bq a/\x.length<=a.length->(m=true->bU .i64 c/\h<=c/\c<f/\e<x.length/\(j=true->bU .i64 c/\h<=c/\0<=e/\e<=x.length/\(((l d b).same (l d b)/\True)/\True)/\(bB b/\bq b=bq a/\b.length<=a.length)/\b.length<x.length)/\(j=false->k))/\(m=false->k)) (by kernel_rfl) ?_;simp only[vcs];refine⟨⟨p,by omega⟩,?_⟩;rintro l ⟨v,t,s⟩;have o:((l.length:Int) - 1).toNat - 0=l.length - 1:=by omega
 have q:((l.length:Int) - 1).toNat=l.length - 1:=by omega
 rw[o,q];have r:(l.length=0\/bp l (l.length - 1) 0≠0)->(Δ (.i .u32) l).same (Δ (.i .u32) (bO (bq a))):=λh=>aaO (by grind[sO,D3]);grind[RO,kR,sO,D3]
def uA:bL:=⟨132,List Int×Int,.cons (cV (.i .u32)) (.one (ef .i64)),λa=>bB a.1/\0<=a.2,λa=> .si .u64 (bp a.1 a.2.toNat 0)⟩
theorem h139:Holds Tryz.prog uA:=by
 refine cq (L:=[]) uA lk (by simp) ?_;rintro⟨a,i⟩ ⟨c,f⟩;simp only at c f;refine bQ (let d:=decide (i<(↑a.length:Int));let b:=bp a i.toNat (0:Int);let e:=Ω .u64 b;(d=true->(0:Int)<=i/\i<(↑a.length:Int)/\i.toNat<a.length/\(Ω .u64 (b % (18446744073709551616:Int))).same e)/\(d=false->(γo .u64 0).same e)) (by kernel_rfl) ?_;simp only[vcs];have g:=dK c i.toNat;grind[xZ]
def D4:bL:=⟨134,List Int×List Int,.cons (cV (.i .u32)) (.one (cV (.i .u32))),λa=>(bB a.1/\bB a.2)/\a.1.length<=1000000000000/\a.2.length<=1000000000000,λa=> .si .i64 (iI (bq a.1) (bq a.2))⟩
def abu (a:List Int×List Int):Nat->cC
 |2=> .inv Int (λi=>⟨[(0,.row (.i .u32) a.1),(1,.row (.i .u32) a.2),(5,.si .i64 i)],[]⟩) (λs=>iS s 5)
  (λi=> -1<=i/\i<max (a.1.length:Int) a.2.length/\∀j:Nat,i<j->bp a.1 j 0=bp a.2 j 0) (λi=>(i+1).toNat) λ_ _=> .look
 |_=> .look
theorem h141:Holds Tryz.prog D4:=by
 refine cq (L:=[uA]) D4 abu (by grind[h139]) ?_;rintro⟨a,b⟩ ⟨⟨f,g⟩,r,t⟩;simp only at f g r t;refine bQ (let f:=(0:Int);let g:=(-1:Int);let h:=Ω .i64;let k:=γo .i64;let q:=(1:Int);let e:=max (↑a.length:Int) (↑b.length:Int) - q;let m:=Δ (bw.i .u32) a;let l:=Δ (bw.i .u32) b;let y:=h e;let u:=max (↑a.length:Int) (↑b.length:Int);let p:=h (iI (bq a) (bq b));bU .i64 e/\(((m.same m/\l.same l/\y.same y/\True)/\True)/\g<=e/\e<u/\∀(j:Nat),e<(↑j:Int)->bp a j f=bp b j f)/\∀(x:Int),let v:=decide (f<=x);let n:=bp a x.toNat f;let o:=bp b x.toNat f;let c:=x - q;let d:=h c;(g<=x/\x<u/\∀(j:Nat),x<(↑j:Int)->bp a j f=bp b j f)->(v=true->(bB a/\f<=x)/\(bB b/\f<=x)/\(decide (n<o)=true->(k g).same p)/\(decide (n<o)=false->(bB a/\f<=x)/\(bB b/\f<=x)/\(decide (o<n)=true->(k 1).same p)/\(decide (o<n)=false->bU .i64 c/\((m.same m/\l.same l/\d.same d/\True)/\True)/\(g<=c/\c<u/\∀(j:Nat),c<(↑j:Int)->bp a j f=bp b j f)/\(c+q).toNat<(x+q).toNat)))/\(v=false->(k 0).same p)) (by kernel_rfl) ?_;simp only[vcs];refine⟨by omega,⟨by omega,by omega,λj s=>by grind[xZ]⟩,?_⟩;rintro i ⟨z,A,q⟩;refine⟨λk=>⟨⟨f,k⟩,⟨g,k⟩,λh=>?_,λh=>⟨⟨f,k⟩,⟨g,k⟩,λw=>?_,λw=>⟨by omega,⟨by omega,by omega,λj s=>?_⟩,by omega⟩⟩⟩,λk=>?_⟩
 ·have:=I7 f g (λj s=>q j (by omega)) h;simp_all[iI]
 ·have:=I7 g f (λj s=>(q j (by omega)).symm) w;unfold iI;omega
 ·grind
 ·have:=I6 (max a.length b.length) (a:=a) (b:=b) (by omega) (by omega) (λj=>q j (by omega));simp_all[iI]
def Aw:bL:=⟨101,List Int×List Int,.cons (cV (.i .u32)) (.one (cV (.i .u32))),λa=>(bB a.1/\bB a.2)/\a.1.length<=10000000000/\a.2.length<=10000000000,λa=> .row (.i .u32) (bO (bq a.1+bq a.2))⟩
def abv (a:List Int×List Int):Nat->cC
 |4=> .inv (Int×Int×List Int) (λx=>⟨[(0,.row (.i .u32) a.1),(1,.row (.i .u32) a.2),(5,.ow 0 x.2.2.length 1),(6,.si .u64 x.2.1),(7,.si .i64 x.1)],[.row (.i .u32) x.2.2 187 true]⟩)
  (λs=>(iS s 7,iS s 6,oS (.i .u32) s 0))
  (λx=>(0<=x.1/\x.1<=max (a.1.length:Int) a.2.length+1)/\(0<=x.2.1/\x.2.1<=1)/\(bB x.2.2/\(x.2.2.length:Int)=x.1)/\bq x.2.2+4294967296^x.1.toNat*x.2.1=bq (a.1.take x.1.toNat)+bq (a.2.take x.1.toNat))
  (λx=>(max (a.1.length:Int) a.2.length+1 - x.1).toNat) λ_ _=> .look
 |_=> .look
theorem h106:Holds Tryz.prog Aw:=by
 refine cq (L:=[uA,uz]) Aw abv (by grind[h139,h140]) ?_;rintro⟨a,b⟩ ⟨⟨t,r⟩,D,z⟩;simp only at t r D z;refine bQ (let c:=(0:Int);let e:=(4294967296:Int);let h:=(18446744073709551616:Int);let o:=Δ;let r:=(1:Int);let g:=bw.i .u32;let H:=γz 0 0 1;let G:=bA.row g [] 187 true;let n:=max (↑a.length:Int) (↑b.length:Int)+r;((((o g a).same (o g a)/\(o g b).same (o g b)/\H.same H/\(γo .u64 0).same (Ω .u64 0)/\(γo .i64 0).same (Ω .i64 0)/\True)/\G.same G/\True)/\(c<=c/\c<=n)/\(c<=c/\c<=r)/\(bB []/\c=c)/\c=c)/\∀(x:Int×Int×List Int),let q:=x.snd.snd.length;let l:=x.fst.toNat;let E:=decide (x.fst<=max (↑a.length:Int) (↑b.length:Int));let I:=x.snd.snd.length+1;let F:=((bp a l c+bp b l c) % h+x.snd.fst) % h;let k:=F.tdiv e;let d:=x.fst+r;let f:=x.snd.snd++[F.tmod e % e];let m:=Ω .u64 k;let j:=Ω .i64 d;let p:=bA.row g f 187 true;(c<=x.fst/\x.fst<=n)/\(c<=x.snd.fst/\x.snd.fst<=r)/\(bB x.snd.snd/\(↑q:Int)=x.fst)/\bq x.snd.snd+e^l*x.snd.fst=bq (τ l a)+bq (τ l b)->(E=true->(bB a/\c<=x.fst)/\(bB b/\c<=x.fst)/\e≠c/\q=x.snd.snd.length/\I*4<=140737488355328/\I<=1000000000000/\e≠c/\bU .u64 k/\bU .i64 d/\(((o g a).same (o g a)/\(o g b).same (o g b)/\(γz 0 f.length 1).same (γz 0 f.length 1)/\m.same m/\j.same j/\True)/\p.same p/\True)/\((c<=d/\d<=n)/\(c<=k/\k<=r)/\(bB f/\(↑f.length:Int)=d)/\bq f+e^d.toNat*k=bq (τ d.toNat a)+bq (τ d.toNat b))/\(n - d).toNat<(n - x.fst).toNat)/\(E=false->q=x.snd.snd.length/\(bB x.snd.snd/\q<=100000000000)/\(o g (bO (bq x.snd.snd))).same (o g (bO (bq a+bq b))))) (by kernel_rfl) ?_;simp only[vcs];refine⟨⟨by omega,by omega,by simp[bB]⟩,?_⟩;rintro⟨i,c,h⟩ ⟨⟨P,Q⟩,⟨N,M⟩,⟨C,A⟩,w⟩;simp only at P Q N M C A w ⊢;refine⟨λK=>?_,λK=>?_⟩
 ·have x:=dK t i.toNat;have y:=dK r i.toNat;have J:((bp a i.toNat 0+bp b i.toNat 0) % 18446744073709551616+c) % 18446744073709551616=bp a i.toNat 0+bp b i.toNat 0+c:=by omega
  have O:(i+1).toNat=i.toNat+1:=by omega
  rw[J,O,γQ (by omega),γR (by omega)];have o:bq (h++[(bp a i.toNat 0+bp b i.toNat 0+c) % 4294967296 % 4294967296])+4294967296^(i.toNat+1)*((bp a i.toNat 0+bp b i.toNat 0+c) / 4294967296)=bq (a.take (i.toNat+1))+bq (b.take (i.toNat+1)):=by
   rw[rG,js,js,show h.length=i.toNat by omega,γs];generalize (4294967296:Int)^i.toNat=B at*;generalize S:bp a i.toNat 0+bp b i.toNat 0+c=s at*;have e:B*4294967296*(s / 4294967296)=B*(bp a i.toNat 0+bp b i.toNat 0+c - s % 4294967296 % 4294967296):=by rw[γO];congr 1;omega
   grind
  have v:bB (h++[(bp a i.toNat 0+bp b i.toNat 0+c) % 4294967296 % 4294967296]):=vK C (Ah (by omega) (by omega));repeat' refine γe ?_ ?_
  all_goals first|omega|exact t|exact r|exact u64_in (by omega) (by omega)|exact o|exact v|(simp;omega)
 ·have u:i.toNat=max a.length b.length+1:=by omega
  rw[γc (by omega),γc (by omega)] at w;have R:=je t;have T:=je r;have X:=uw (show a.length<=max a.length b.length by omega);have U:=uw (show b.length<=max a.length b.length by omega);have V:=dX C;rw[u,γs] at w;have Y:=pow_pos (max a.length b.length);have W:c=0:=by
   grind
  grind
def D5:bL:=⟨102,List Int×List Int,.cons (cV (.i .u32)) (.one (cV (.i .u32))),λa=>(bB a.1/\bB a.2)/\a.1.length<=10000000000/\a.2.length<=10000000000,λa=>Rl (bq a.1) (bq a.2)⟩
def abw (a:List Int×List Int):Nat->cC
 |6=> .inv (Int×Int×List Int) (λx=>⟨[(0,.row (.i .u32) a.1),(1,.row (.i .u32) a.2),(6,.ow 0 x.2.2.length 1),(7,.si .u64 x.2.1),(8,.si .i64 x.1)],[.row (.i .u32) x.2.2 187 true]⟩)
  (λs=>(iS s 8,iS s 7,oS (.i .u32) s 0))
  (λx=>(0<=x.1/\x.1<=a.1.length)/\(0<=x.2.1/\x.2.1<=1)/\(bB x.2.2/\(x.2.2.length:Int)=x.1)/\bq x.2.2 - 4294967296^x.1.toNat*x.2.1=bq (a.1.take x.1.toNat) - bq (a.2.take x.1.toNat))
  (λx=>(a.1.length - x.1).toNat) λ_ _=> .look
 |_=> .look
theorem h107:Holds Tryz.prog D5:=by
 refine cq (L:=[uA,uz,D4]) D5 abw (by grind[h139,h140,h141]) ?_;rintro⟨a,b⟩ ⟨⟨n,m⟩,E,I⟩;simp only at n m E I;refine bQ (let c:=(0:Int);let e:=(4294967296:Int);let h:=(18446744073709551616:Int);let j:=Δ;let l:=(1:Int);let m:=SV.bN;let P:=decide (iI (bq a) (bq b)<c);let g:=bw.i .u32;let N:=m [j g (bO (bq a - bq b)),γn (decide (bq b<=bq a))];let M:=γz 0 0 1;let O:=bA.row g [] 187 true;let r:=(↑a.length:Int);((bB a/\bB b)/\a.length<=1000000000000/\b.length<=1000000000000)/\(P=true->(m [j (bw.i .i64) [],γ0 false]).same N)/\(P=false->((((j g a).same (j g a)/\(j g b).same (j g b)/\M.same M/\(γo .u64 0).same (Ω .u64 0)/\(γo .i64 0).same (Ω .i64 0)/\True)/\O.same O/\True)/\(c<=c/\c<=r)/\(c<=c/\c<=l)/\(bB []/\c=c)/\c=c)/\∀(x:Int×Int×List Int),let z:=x.snd.snd.length;let t:=x.fst.toNat;let J:=decide (x.fst<(↑a.length:Int));let R:=x.snd.snd.length+1;let o:=(((e+bp a t c) % h - bp b t c) % h - x.snd.fst) % h;let u:=o.tdiv e;let d:=x.fst+l;let f:=x.snd.snd++[o.tmod e % e];let k:=(l - u) % h;let w:=Ω .u64 k;let q:=Ω .i64 d;let v:=bA.row g f 187 true;(c<=x.fst/\x.fst<=r)/\(c<=x.snd.fst/\x.snd.fst<=l)/\(bB x.snd.snd/\(↑z:Int)=x.fst)/\bq x.snd.snd - e^t*x.snd.fst=bq (τ t a) - bq (τ t b)->(J=true->(bB a/\c<=x.fst)/\(bB b/\c<=x.fst)/\e≠c/\z=x.snd.snd.length/\R*4<=140737488355328/\R<=1000000000000/\e≠c/\bU .u64 u/\bU .i64 d/\(((j g a).same (j g a)/\(j g b).same (j g b)/\(γz 0 f.length 1).same (γz 0 f.length 1)/\w.same w/\q.same q/\True)/\v.same v/\True)/\((c<=d/\d<=r)/\(c<=k/\k<=l)/\(bB f/\(↑f.length:Int)=d)/\bq f - e^d.toNat*k=bq (τ d.toNat a) - bq (τ d.toNat b))/\(r - d).toNat<(r - x.fst).toNat)/\(J=false->z=x.snd.snd.length/\(bB x.snd.snd/\z<=100000000000)/\(m [j g (bO (bq x.snd.snd)),γ0 true]).same N))) (by kernel_rfl) ?_;simp only[vcs];have pa:=dX n;have pb:=dX m;refine⟨⟨⟨n,m⟩,by omega,by omega⟩,λa0=>?_,λW=>?_⟩
 ·have Q:bq a<bq b:=by grind[iI]
  refine⟨II (DO (by omega)),?_⟩;simp_all
 have K:bq b<=bq a:=by grind[iI]
 refine⟨⟨by omega,by omega,by simp[bB]⟩,?_⟩;rintro⟨i,c,l⟩ ⟨⟨i0,S⟩,⟨X,Y⟩,⟨G,C⟩,D⟩;simp only at i0 S X Y G C D ⊢;refine⟨λZ=>?_,λZ=>?_⟩
 ·have x:=dK n i.toNat;have y:=dK m i.toNat;have e1:(((4294967296+bp a i.toNat 0) % 18446744073709551616 - bp b i.toNat 0) % 18446744073709551616 - c) % 18446744073709551616=4294967296+bp a i.toNat 0 - bp b i.toNat 0 - c:=by omega
  have V:(i+1).toNat=i.toNat+1:=by omega
  rw[e1,V,γQ (by omega),γR (by omega)];have e3:(1 - (4294967296+bp a i.toNat 0 - bp b i.toNat 0 - c) / 4294967296) % 18446744073709551616=1 - (4294967296+bp a i.toNat 0 - bp b i.toNat 0 - c) / 4294967296:=by omega
  rw[e3];have p:bq (l++[(4294967296+bp a i.toNat 0 - bp b i.toNat 0 - c) % 4294967296 % 4294967296]) - 4294967296^(i.toNat+1)*(1 - (4294967296+bp a i.toNat 0 - bp b i.toNat 0 - c) / 4294967296)=bq (a.take (i.toNat+1)) - bq (b.take (i.toNat+1)):=by
   rw[rG,js,js,show l.length=i.toNat by omega,γs];generalize (4294967296:Int)^i.toNat=B at*;generalize hs:4294967296+bp a i.toNat 0 - bp b i.toNat 0 - c=s at*;have e:B*4294967296*(1 - s / 4294967296)=B*(s % 4294967296 % 4294967296 - (bp a i.toNat 0 - bp b i.toNat 0 - c)):=by rw[γO];congr 1;omega
   grind
  have H:bB (l++[(4294967296+bp a i.toNat 0 - bp b i.toNat 0 - c) % 4294967296 % 4294967296]):=vK G (Ah (by omega) (by omega));repeat' refine γe ?_ ?_
  all_goals first|omega|exact n|exact m|exact u64_in (by omega) (by omega)|exact p|exact H|(simp;omega)
 ·have A:i.toNat=a.length:=by omega
  rw[A,χ] at D;have b1:=je n;have F:bq (b.take a.length)=bq b:=by
   by_cases h:b.length<=a.length;·rw[γc h]
   ·have h1:=uv (U:=b) (j:=a.length) (by omega);have h2:=dX (kR m a.length);have h3:=dX (x5 m a.length);by_cases hz:bq (b.drop a.length)=0;·simp_all
    ·have:=ν (show(1:Int)<=bq (b.drop a.length) by omega) (ω (pow_pos a.length));omega
  rw[F] at D;have T:=je G;rw[show l.length=a.length by omega] at T;have hc:c=0:=by
   grind
  grind
def D6:bL:=⟨167,Int,.one (ef .u64),λx=>0<=(show Int from x)/\(show Int from x)<18446744073709551616,λx=> .row (.i .u32) (bO x)⟩
theorem h159:Holds Tryz.prog D6:=by
 refine cq (L:=[uz]) D6 lk (by grind[h140]) ?_;intro(x:Int) h;obtain⟨d,c⟩:0<=x/\x<18446744073709551616:=h;refine bQ (let c:=(4294967296:Int);let b:=x.tdiv c;let a:=[x.tmod c % c,b % c];c≠(0:Int)/\c≠(0:Int)/\bU .u64 b/\(bB a/\2<=100000000000)/\(Δ (bw.i .u32) (bO (bq a))).same (Δ (bw.i .u32) (bO x))) (by kernel_rfl) ?_;simp only[vcs];grind[bB,Ah,bq,u64_in]
theorem I8 {a b:List Int} {k:Nat} (d:bB a) (c:bB b) (f:a.length<=k) (e:b.length<=k):(bO (bq a+bq b)).length<=k+1:=by
 have i:=dX d;have g:=dX c;have j:=I2 d f;have h:=I2 c e;refine jv (by omega) ?_;omega
theorem I9 {x y:Int} {i j:Nat} (a:0<=x) (b:0<=y) (d:x<4294967296^i) (c:y<4294967296^j):(bO (x*y)).length<=i+j:=jv (γh a b) (nB a d c)
theorem abx {n:Nat} {a:List Int}:bq (δ n 0++a)=bq a*4294967296^n:=by
 grind[DN,vM]
def Ja:dD where
 f:=133;α:=Nat×List Int;put a:=[.ow 0 a.1 1];st a:=[.row (.i .u32) a.2 187 true];dec v o:=match v,o with
  |[.ow 0 n 1],[.row t l 187 true]=>match iF t (.i .u32) l with
   |some l=>some (n,l)
   |_=>none
  |_,_=>none;ok v o a h:=by
  grind[mM]
 inj a b h1 h2:=by
  obtain⟨n,U⟩:=a;obtain⟨n',U'⟩:=b;simp only[gL,Ξ,and_true,SV.g,AV.os.injEq,true_and] at h1;simp only[gO,φ,γv,bA.g,Ξ,bW.cells.injEq,and_true] at h2;have hl:U=U':=by
   have hf:=congrArg Φ h2;rw[ff,ff] at hf;exact lG (.i .u32) (by grind[bw.sz]) h2
  rw[h1.1,hl]
 dom a:=a.1=a.2.length/\bB a.2/\a.2.length<=100000000000;res a:=RN a.2;out a:=[.row (.i .u32) a.2 187 true]
def aby (a:Nat×List Int):Nat->cC
 |1=> .inv Int (λn=>⟨[(0,.os 0 0 n.toNat a.1 1)],[.row (.i .u32) a.2 187 true]⟩) (λs=>match jI s.env 0 with| .os _ _ n _ _=>n| .ow _ n _=>n|_=>0) (λn=>0<=n/\n<=a.2.length/\bq (a.2.take n.toNat)=bq a.2) (λn=>n.toNat) λ_ _=> .look
 |_=> .look
def Jb:bL:=⟨129,List Int×Int,.cons (cV (.i .u32)) (.one (ef .i64)),λa=>bB a.1/\a.1.length<=10000000000/\0<=a.2/\a.2<=10000000000,λa=> .row (.i .u32) (bO (bq a.1*4294967296^a.2.toNat))⟩
def abz (a:List Int×Int):Nat->cC
 |3=> .inv Int (λi=>⟨[(0,.row (.i .u32) a.1),(1,.si .i64 a.2),(5,.ow 0 i.toNat 1),(6,.si .i64 i)],[.row (.i .u32) (δ i.toNat 0) 187 true]⟩) (λs=>iS s 6) (λi=>0<=i/\i<=a.2) (λi=>(a.2 - i).toNat) λ_ _=> .look
 |_=> .look
theorem h140o:eu Tryz.prog Ja:=by
 refine lp (L:=[]) (W:=[]) Ja aby (by simp) (by simp) ?_;rintro⟨n,a⟩ ⟨v,y,E⟩;simp only at v y E;subst v;refine bQ (let d:=(0:Int);let f:=(↑a.length:Int);let r:=bw.i .u32;let g:=bA.row r a 187 true;let H:=Δ r (bO (bq a));((((γz 0 a.length 1).same (SV.os 0 0 f.toNat a.length 1)/\True)/\g.same g/\True)/\d<=f/\f<=f/\bq (τ f.toNat a)=bq a)/\∀(x:Int),let k:=τ x.toNat a;let t:=0+k.length;let q:=(↑x.toNat:Int);let c:=q - (1:Int);let p:=0+c.toNat;let m:=decide (d<q);let j:=c.toNat - 0;let b:=(↑j:Int);let w:=a.length=a.length/\0+x.toNat<=a.length/\0=0/\t*4<=140737488355328/\t<=1000000000000/\k.length=k.length/\(Δ r k).same H/\g.same g/\True;let z:=λ(u:Bool) ↦decide (bp a p d=d)=u;d<=x/\x<=f/\bq k=bq a->(m=true->bU .i64 c/\a.length=a.length/\d<=c/\c<q/\0+x.toNat<=a.length/\a.length=a.length/\p<a.length/\(z true->bU .i64 c/\a.length=a.length/\d<=c/\0<=c.toNat/\c.toNat<=x.toNat/\(((SV.os 0 0 j a.length 1).same (SV.os 0 0 b.toNat a.length 1)/\True)/\g.same g/\True)/\(d<=b/\b<=f/\bq (τ b.toNat a)=bq a)/\b.toNat<x.toNat)/\(z false->w))/\(m=false->w)) (by kernel_rfl) ?_;simp only[vcs];refine⟨⟨rfl,⟨by omega,by omega,by simp_all⟩⟩,?_⟩;rintro n ⟨M,K,F⟩;have o:(a.take n.toNat).length=n.toNat:=by simp;omega
 have I:0+((n.toNat:Int) - 1).toNat=n.toNat - 1:=by omega
 have s:bp a (n.toNat - 1) 0=bp (a.take n.toNat) (n.toNat - 1) 0\/n.toNat=0:=by
  by_cases h:n.toNat=0;·exact .inr h
  ·left;unfold bp;grind
 have J:=kR y n.toNat;have B:(n.toNat=0\/bp a (n.toNat - 1) 0≠0)->a.take n.toNat=bO (bq a):=λh=>by
  grind[sO,D3]
 rw[I,o];refine⟨λA=>⟨by omega,by omega,by omega,by omega,by omega,λC=>?_,λC=>?_⟩,λA=>?_⟩
 ·have G:bp (a.take n.toNat) (n.toNat - 1) 0=0:=by
   omega
  have d:=RO (l:=a.take n.toNat) (by omega) (by simp_all);rw[o,List.take_take,δP (by omega),F] at d;have e:(n.toNat:Int).toNat - 1=n.toNat - 1:=by omega
  have D:((n.toNat:Int) - 1).toNat - 0=n.toNat - 1:=by omega
  repeat' refine γe ?_ ?_
  all_goals first|omega|rfl|(rw[D];rfl)|simp_all|skip
 all_goals grind
theorem h136:Holds Tryz.prog Jb:=by
 refine con (L:=[]) (W:=gC [Ja]) Jb abz (lj (by grind[h140o])) (by simp) ?_;rintro⟨a,n⟩ ⟨q,g,r,p⟩;simp only at q g r p;refine bQ (let e:=(0:Int);let g:=Ω .i64;let m:=Δ;let o:=bA.row;let c:=bw.i .u32;let l:=γz 0 0 1;let f:=o c [] 187 true;((((m c a).same (m c a)/\(g n).same (g n)/\l.same l/\(γo .i64 0).same (g 0)/\True)/\f.same f/\True)/\e<=e/\e<=n)/\∀(x:Int),let b:=δ x.toNat e;let j:=b.length+1;let d:=x+(1:Int);let k:=g d;let h:=b.length+a.length;e<=x/\x<=n->(decide (x<n)=true->x.toNat=b.length/\j*4<=140737488355328/\j<=1000000000000/\bU .i64 d/\(((m c a).same (m c a)/\(g n).same (g n)/\(γz 0 (b++[e]).length 1).same (γz 0 d.toNat 1)/\k.same k/\True)/\(o c (b++[e]) 187 true).same (o c (δ d.toNat e) 187 true)/\True)/\(e<=d/\d<=n)/\(n - d).toNat<(n - x).toNat)/\(decide (x<n)=false->x.toNat=b.length/\h*4<=140737488355328/\h<=1000000000000/\((b++a).length=(b++a).length/\bB (b++a)/\(b++a).length<=100000000000)/\(m c (bO (bq (b++a)))).same (m c (bO (bq a*(4294967296:Int)^n.toNat))))) (by kernel_rfl) ?_;simp only[vcs];refine⟨⟨by omega,by omega⟩,?_⟩;rintro i ⟨t,v⟩;have u:(δ i.toNat (0:Int)).length=i.toNat:=by simp
 have e:δ i.toNat (0:Int)++[0]=δ (i+1).toNat 0:=by rw[show(i+1).toNat=i.toNat+1 by omega,List.replicate_succ']
 have m:(δ i.toNat (0:Int)++a).length=i.toNat+a.length:=by simp
 have o:@List.length (bw.T (.i .u32)) a<=10000000000:=g;rw[e];refine⟨λs=>?_,λs=>?_⟩
 ·repeat' refine γe ?_ ?_
  all_goals first|omega|exact lL (by simp)|rfl
 grind[abx,vK,x6]
def Jc:bL:=⟨130,List Int×Int,.cons (cV (.i .u32)) (.one (ef .u64)),λa=>bB a.1/\a.1.length<=10000000000/\0<=a.2/\a.2<4294967296,λa=> .row (.i .u32) (bO (bq a.1*a.2))⟩
def abA (a:List Int×Int):Nat->cC
 |4=> .inv (Int×Int×List Int) (λx=>⟨[(0,.row (.i .u32) a.1),(1,.si .u64 a.2),(5,.ow 0 x.2.2.length 1),(6,.si .u64 x.2.1),(7,.si .i64 x.1)],[.row (.i .u32) x.2.2 187 true]⟩)
  (λs=>(iS s 7,iS s 6,oS (.i .u32) s 0))
  (λx=>(0<=x.1/\x.1<=(a.1.length:Int)+1)/\(0<=x.2.1/\x.2.1<4294967296)/\(bB x.2.2/\(x.2.2.length:Int)=x.1)/\bq x.2.2+4294967296^x.1.toNat*x.2.1=bq (a.1.take x.1.toNat)*a.2)
  (λx=>((a.1.length:Int)+1 - x.1).toNat) λ_ _=> .look
 |_=> .look
theorem h137:Holds Tryz.prog Jc:=by
 refine cq (L:=[uA,uz]) Jc abA (by grind[h139,h140]) ?_;rintro⟨a,d⟩ ⟨o,z,t,H⟩;simp only at o z t H;refine bQ (let c:=(4294967296:Int);let e:=(0:Int);let h:=(18446744073709551616:Int);let j:=Δ;let g:=bw.i .u32;let D:=γz 0 0 1;let C:=bA.row g [] 187 true;let l:=(↑a.length:Int)+(1:Int);((((j g a).same (j g a)/\(Ω .u64 d).same (Ω .u64 d)/\D.same D/\(γo .u64 0).same (Ω .u64 0)/\(γo .i64 0).same (Ω .i64 0)/\True)/\C.same C/\True)/\(e<=e/\e<=l)/\(e<=e/\e<c)/\(bB []/\e=e)/\e=bq []*d)/\∀(x:Int×Int×List Int),let r:=x.snd.snd.length;let E:=decide (x.fst<=(↑a.length:Int));let F:=x.snd.snd.length+1;let A:=(bp a x.fst.toNat e*d % h+x.snd.fst) % h;let m:=A.tdiv c;let f:=x.fst+(1:Int);let b:=x.snd.snd++[A.tmod c % c];let p:=Ω .u64 m;let n:=Ω .i64 f;let k:=bA.row g b 187 true;(e<=x.fst/\x.fst<=l)/\(e<=x.snd.fst/\x.snd.fst<c)/\(bB x.snd.snd/\(↑r:Int)=x.fst)/\bq x.snd.snd+c^x.fst.toNat*x.snd.fst=bq (τ x.fst.toNat a)*d->(E=true->(bB a/\e<=x.fst)/\c≠e/\r=x.snd.snd.length/\F*4<=140737488355328/\F<=1000000000000/\c≠e/\bU .u64 m/\bU .i64 f/\(((j g a).same (j g a)/\(Ω .u64 d).same (Ω .u64 d)/\(γz 0 b.length 1).same (γz 0 b.length 1)/\p.same p/\n.same n/\True)/\k.same k/\True)/\((e<=f/\f<=l)/\(e<=m/\m<c)/\(bB b/\(↑b.length:Int)=f)/\bq b+c^f.toNat*m=bq (τ f.toNat a)*d)/\(l - f).toNat<(l - x.fst).toNat)/\(E=false->r=x.snd.snd.length/\(bB x.snd.snd/\r<=100000000000)/\(j g (bO (bq x.snd.snd))).same (j g (bO (bq a*d))))) (by kernel_rfl) ?_;simp only[vcs];refine⟨⟨by omega,by omega,by simp[bB],by simp[bq]⟩,?_⟩;rintro⟨i,c,j⟩ ⟨⟨Q,I⟩,⟨N,M⟩,⟨y,u⟩,G⟩;simp only at Q I N M y u G ⊢;refine⟨λP=>?_,λP=>?_⟩
 ·have x:=dK o i.toNat;have T:0<=bp a i.toNat 0*d:=γh x.1 t;have R:bp a i.toNat 0*d<=4294967295*4294967295:=δy (by omega) (by omega) t (by omega);have O:(bp a i.toNat 0*d % 18446744073709551616+c) % 18446744073709551616=bp a i.toNat 0*d+c:=by omega
  have K:(i+1).toNat=i.toNat+1:=by omega
  rw[O,K,γQ (by omega),γR (by omega)];have q:bq (j++[(bp a i.toNat 0*d+c) % 4294967296 % 4294967296])+4294967296^(i.toNat+1)*((bp a i.toNat 0*d+c) / 4294967296)=bq (a.take (i.toNat+1))*d:=by
   rw[rG,js,show j.length=i.toNat by omega,γs,Int.add_mul,γO (4294967296^i.toNat) (bp a i.toNat 0) d];generalize (4294967296:Int)^i.toNat=B at*;generalize S:bp a i.toNat 0*d=s at*;have e:B*4294967296*((s+c) / 4294967296)=B*(s+c - (s+c) % 4294967296 % 4294967296):=by rw[γO];congr 1;omega
   grind
  have v:bB (j++[(bp a i.toNat 0*d+c) % 4294967296 % 4294967296]):=vK y (Ah (by omega) (by omega));repeat' refine γe ?_ ?_
  all_goals first|omega|exact o|exact u64_in (by omega) (by omega)|exact q|exact v|(simp;omega)
 ·have w:i.toNat=a.length+1:=by omega
  rw[w,γc (by omega)] at G;have U:=dX y;have J:=je o;have V:c=0:=by
   by_cases h:c=0;·exact h
   ·have X:=ν (show(1:Int)<=c by omega) (ω (pow_pos (a.length+1)));have W:bq a*d<4294967296^a.length*4294967296:=Int.lt_of_le_of_lt (ν (ω H) (dX o)) (γN J (by decide));omega
  grind
def D7:bL:=⟨99,List Int×List Int,.cons (cV (.i .u32)) (.one (cV (.i .u32))),λa=>(bB a.1/\bB a.2)/\a.1.length<=1000000000/\a.2.length<=1000000000,λa=> .row (.i .u32) (bO (bq a.1*bq a.2))⟩
def abB (a:List Int×List Int):Nat->cC
 |3=> .inv (Int×List Int) (λx=>⟨[(0,.row (.i .u32) a.1),(1,.row (.i .u32) a.2),(5,.row (.i .u32) x.2),(6,.si .i64 x.1)],[.dead]⟩)
  (λs=>(iS s 6,rS (.i .u32) s 5))
  (λx=>(0<=x.1/\x.1<=(a.2.length:Int))/\x.2=bO (bq a.1*bq (a.2.take x.1.toNat))) (λx=>((a.2.length:Int) - x.1).toNat) λ_ _=> .look
 |_=> .look
theorem h104:Holds Tryz.prog D7:=by
 refine cq (L:=[Aw,Jb,Jc]) D7 abB (by grind[h106,h136,h137]) ?_;rintro⟨a,b⟩ ⟨⟨t,l⟩,q,s⟩;simp only at t l q s;refine bQ (let d:=Δ;let g:=(0:Int);let h:=(4294967296:Int);let c:=bw.i .u32;let f:=(↑b.length:Int);0=0/\((((d c a).same (d c a)/\(d c b).same (d c b)/\(d c []).same (d c [])/\(γo .i64 0).same (Ω .i64 0)/\True)/\bA.dead.same bA.dead/\True)/\(g<=g/\g<=f)/\[]=bO (bq a*bq []))/\∀(x:Int×List Int),let k:=x.fst.toNat;let u:=decide (x.fst<(↑b.length:Int));let w:=bp b k g % (18446744073709551616:Int);let r:=bO (bq a*w);let p:=bO (bq r*h^k);let e:=x.fst+(1:Int);let n:=bO (bq x.snd+bq p);let z:=Ω .i64 e;(g<=x.fst/\x.fst<=f)/\x.snd=bO (bq a*bq (τ k b))->(u=true->g<=x.fst/\x.fst<(↑b.length:Int)/\k<b.length/\(bB a/\a.length<=10000000000/\g<=w/\w<h)/\(bB r/\r.length<=10000000000/\g<=x.fst/\x.fst<=(10000000000:Int))/\((bB x.snd/\bB p)/\x.snd.length<=10000000000/\p.length<=10000000000)/\bU .i64 e/\(((d c a).same (d c a)/\(d c b).same (d c b)/\(d c n).same (d c n)/\z.same z/\True)/\bA.dead.same bA.dead/\True)/\((g<=e/\e<=f)/\n=bO (bq a*bq (τ e.toNat b)))/\(f - e).toNat<(f - x.fst).toNat)/\(u=false->(d c x.snd).same (d c (bO (bq a*bq b))))) (by kernel_rfl) ?_;simp only[vcs];have h:=dX t;refine⟨⟨⟨by omega,by omega⟩,by simp[bq,bO,uh]⟩,?_⟩;rintro⟨i,o⟩ ⟨⟨E,F⟩,B⟩;simp only at E F B ⊢;subst B;have y:=dX (kR l i.toNat);have g:=je (kR l i.toNat);rw[List.length_take,δP (by omega)] at g;have d:=je t;have m:=γh h y;obtain⟨R,I,N⟩:=ec m;have K:=I9 h y d g;refine⟨λD=>?_,λD=>?_⟩
 ·have x:=dK l i.toNat;have H:bp b i.toNat 0 % 18446744073709551616=bp b i.toNat 0:=by omega
  have Q:(i+1).toNat=i.toNat+1:=by omega
  have v:=γh h x.1;obtain⟨M,J,G⟩:=ec v;have O:=I9 (j:=1) h x.1 d (by omega);have C:0<=bq a*bp b i.toNat 0*4294967296^i.toNat:=γh v (ω (pow_pos _));obtain⟨f,k,u⟩:=ec C;have P:=I9 (j:=i.toNat+1) v (ω (pow_pos i.toNat)) (show bq a*bp b i.toNat 0<4294967296^(a.length+1) from nB h d (by omega)) (by
   omega);have A:bq a*bq (b.take i.toNat)+bq a*bp b i.toNat 0*4294967296^i.toNat=bq a*bq (b.take (i.toNat+1)):=by
   grind[js]
  grind
 ·rw[show i.toNat=b.length by omega,χ]
theorem D8:∀{j:Nat} {a:List Int},bB a->bq a / 4294967296^j % 4294967296=bp a j 0
 |0,a,h=>by
  have:=dK h 0;grind[yf];|j+1,a,h=>by
  have c:=dK h 0;have b:=@D8 j a.tail (I5 h);have e:bq a / 4294967296=bq a.tail:=by grind[yf]
  rw[γs,δL (4294967296^j),<-δs (by decide),e,b,sS]
theorem sT {q r:Nat}:(2:Int)^(32*q+r)=4294967296^q*2^r:=by
 rw[δf,Int.pow_mul];rfl
theorem Jd {x:Int} {r m:Nat} (h:r<=m):x % 2^m / 2^r=x / 2^r % 2^(m - r):=by
 obtain⟨k,rfl⟩:=δJ h;have c:(0:Int)<2^r:=γS (by decide);have f:(0:Int)<2^k:=γS (by decide);rw[Nat.add_sub_cancel_left,δf];have j:=δb x (2^r);have n:=δb (x / 2^r) (2^k);have i:=γ9 x (show(2:Int)^r≠0 by omega);have e:=γM x c;have g:=γ9 (x / 2^r) (show(2:Int)^k≠0 by omega);have l:=γM (x / 2^r) f;generalize x / 2^r % 2^k=s at*;generalize x / 2^r / 2^k=t at*;generalize x / 2^r=y at*;generalize x % 2^r=u at*;have d:x=(2^r*s+u)+(2^r*2^k)*t:=by
  grind
 have b:2^r*s+u<2^r*2^k:=by
  have:=ν (show s+1<=2^k by omega) (ω c);grind
 have a:0<=2^r*s+u:=by
  have:=γh (ω c) g;omega
 rw[d,Int.add_mul_emod_self_left,δp a b,Int.add_comm,Int.add_mul_ediv_left _ _ (by omega),δQ i e,Int.zero_add]
theorem RP {x:Int} {j k:Nat} (h:j<=k):x % 2^k % 2^j=x % 2^j:=by
 obtain⟨m,rfl⟩:=δJ h;rw[δf];simp_all
def oq (v:Int) (i:Nat):Int:=v / 2^i % 2
theorem abC {a:List Int} {i:Nat} (h:bB a):bp a (i / 32) 0 / 2^(i % 32) % 2=oq (bq a) i:=by
 unfold oq;have e:(2:Int)^i=4294967296^(i / 32)*2^(i % 32):=by
  rw[<-sT];congr 1;omega
 have b:(0:Int)<4294967296^(i / 32):=pow_pos _;rw[e,<-δs (ω b),<-D8 h];have:=Jd (x:=bq a / 4294967296^(i / 32)) (r:=i % 32) (m:=32) (by omega);rw[show(2:Int)^32=4294967296 from rfl] at this;rw[this];have c:=RP (x:=bq a / 4294967296^(i / 32) / 2^(i % 32)) (j:=1) (k:=32 - i % 32) (by omega);omega
theorem abD {a:List Int} {i r:Nat} (h:bB a) (d:r<32):(bp a i 0+bp a (i+1) 0*4294967296) / 2^r % 4294967296=bq a / 2^(32*i+r) % 4294967296:=by
 have b:(0:Int)<4294967296^i:=pow_pos _;rw[sT,<-δs (ω b),<-D8 h,<-D8 h,γs,<-δs (ω b)];generalize bq a / 4294967296^i=y;have e:y % 4294967296+y / 4294967296 % 4294967296*4294967296=y % 18446744073709551616:=by omega
 rw[e];have:=Jd (x:=y) (r:=r) (m:=64) (by omega);rw[show(2:Int)^64=18446744073709551616 from rfl] at this;rw[this];have c:=RP (x:=y / 2^r) (j:=32) (k:=64 - r) (by omega);omega
def jh (v:Int):Int:=if v=0 then 0 else(v.toNat.log2+1:Nat)
theorem vV {a b:Nat} (h:a<=b):(2:Int)^a<=2^b:=by
 obtain⟨m,rfl⟩:=δJ h;rw[δf];have c:(0:Int)<2^a:=γS (by decide);have d:(0:Int)<2^m:=γS (by decide);have:=ν (show(1:Int)<=2^m by omega) (ω c);omega
theorem D9 {v:Int} (h:0<=v):0<=jh v/\v<2^(jh v).toNat/\(jh v=0\/2^((jh v).toNat - 1)<=v):=by
 unfold jh;split;·simp_all
 ·rename_i c;have a:=@Nat.lt_log2_self v.toNat;have b:=Nat.log2_self_le (show v.toNat≠0 by omega);grind
theorem RR {v:Int} {n:Nat} (d:0<=v) (f:v<2^n) (b:n=0\/2^(n - 1)<=v):(n:Int)=jh v:=by
 obtain⟨g,h,a⟩:=D9 d;by_cases e:n<(jh v).toNat
 ·rcases a with a|a;·omega
  ·have:=vV (show n<=(jh v).toNat - 1 by omega);omega
 ·by_cases c:(jh v).toNat<n
  ·rcases b with b|b;·omega
   ·have:=vV (show(jh v).toNat<=n - 1 by omega);omega
  ·omega
def Ea:bL:=⟨168,List Int×Int,.cons (cV (.i .u32)) (.one (ef .i64)),λa=>bB a.1/\0<=a.2/\a.2<=1000000000000,λa=> .si .u64 (oq (bq a.1) a.2.toNat)⟩
theorem h162:Holds Tryz.prog Ea:=by
 refine cq (L:=[uA]) Ea lk (by grind[h139]) ?_;rintro⟨a,i⟩ ⟨g,e,d⟩;simp only at g e d;refine bQ (let d:=(0:Int);let e:=(32:Int);let f:=(2:Int);let b:=i.tdiv e;let c:=i.tmod e;let k:=(1:Int)*f^c.toNat % (18446744073709551616:Int);let j:=(bp a b.toNat d).tdiv k;e≠d/\bU .i64 b/\(bB a/\d<=b)/\e≠d/\d<=c/\c<=(64:Int)/\k≠d/\bU .u64 j/\f≠d/\(Ω .u64 (j.tmod f)).same (Ω .u64 (oq (bq a) i.toNat))) (by kernel_rfl) ?_;simp only[vcs];rw[γQ e,γR e];have n:(i / 32).toNat=i.toNat / 32:=by omega
 have o:(i % 32).toNat=i.toNat % 32:=by omega
 have l:(0:Int)<2^(i.toNat % 32):=γS (by decide);have f:=vV (show i.toNat % 32<=32 by omega);rw[show(2:Int)^32=4294967296 from rfl] at f;have q:1*2^(i.toNat % 32) % 18446744073709551616=(2:Int)^(i.toNat % 32):=by omega
 have h:=dK g (i.toNat / 32);have p:0<=bp a (i.toNat / 32) 0 / 2^(i.toNat % 32):=δa h.1 (ω l);have m:bp a (i.toNat / 32) 0 / 2^(i.toNat % 32)<=bp a (i.toNat / 32) 0:=εP _ h.1;grind[abC,u64_in]
def Je:bL:=⟨165,List Int,.one (cV (.i .u32)),λa=>bB a/\a.length<=10000000000,λa=> .si .i64 (jh (bq a))⟩
def abE (a:List Int):Nat->cC
 |2=> .inv Int (λn=>⟨[(0,.row (.i .u32) a),(3,.si .i64 n)],[]⟩) (λs=>iS s 3) (λn=>0<=n/\n<=32*(a.length:Int)/\bq a<2^n.toNat) (λn=>n.toNat) λ_ _=> .look
 |_=> .look
theorem h160:Holds Tryz.prog Je:=by
 refine cq (L:=[Ea]) Je abE (by grind[h162]) ?_;intro(a:List Int) h;obtain⟨f,w⟩:bB a/\a.length<=10000000000:=h;refine bQ (let e:=Ω .i64;let f:=(0:Int);let g:=bU .i64;let h:=(2:Int);let c:=(32:Int)*(↑a.length:Int);let d:=Δ (bw.i .u32) a;let o:=e c;let j:=(32:Int)*(↑a.length:Int);let t:=e (jh (bq a));g c/\(((d.same d/\o.same o/\True)/\True)/\f<=c/\c<=j/\bq a<h^c.toNat)/\∀(x:Int),let q:=decide (f<x);let b:=x - (1:Int);let p:=decide (oq (bq a) b.toNat=f);let r:=e b;f<=x/\x<=j/\bq a<h^x.toNat->(q=true->g b/\(bB a/\f<=b/\b<=(1000000000000:Int))/\(p=true->g b/\((d.same d/\r.same r/\True)/\True)/\(f<=b/\b<=j/\bq a<h^b.toNat)/\b.toNat<x.toNat)/\(p=false->(e x).same t))/\(q=false->(e x).same t)) (by kernel_rfl) ?_;simp only[vcs];have l:=dX f;refine⟨by omega,⟨by omega,by omega,?_⟩,?_⟩
 ·have:=je f;have e:(32*(a.length:Int)).toNat=32*a.length+0:=by omega
  rw[e,sT];omega
 rintro n ⟨z,C,s⟩;refine⟨λu=>⟨by omega,⟨f,by omega,by omega⟩,λk=>⟨by omega,⟨by omega,by omega,?_⟩,by omega⟩,λk=>?_⟩,λu=>?_⟩
 ·have e:n.toNat=(n - 1).toNat+1:=by omega
  rw[e,γs] at s;unfold oq at k;generalize (n - 1).toNat=m at*;have g:(0:Int)<2^m:=γS (by decide);have v:bq a / 2^m<2:=δC g (by omega);have A:0<=bq a / 2^m:=δa l (ω g);have D:bq a / 2^m=0:=by omega
  have B:=δb (bq a) (2^m);have y:=γM (bq a) g;simp_all
 ·have:=RR l s (.inr ?_);·omega
  ·by_cases h:2^(n.toNat - 1)<=bq a;·exact h
   ·exfalso;apply k;unfold oq;rw[show(n - 1).toNat=n.toNat - 1 by omega,δQ l (by omega)];rfl
 grind[RR]
def Jf:bL:=⟨166,List Int×Int,.cons (cV (.i .u32)) (.one (ef .i64)),λa=>(bB a.1/\a.1.length<=10000000000)/\0<=a.2/\a.2<=1000000000000,λa=> .row (.i .u32) (bO (bq a.1 / 2^a.2.toNat))⟩
def abG (a:List Int×Int):Nat->cC
 |3=> .inv (Int×List Int) (λx=>⟨[(0,.row (.i .u32) a.1),(1,.si .i64 a.2),(5,.ow 0 x.2.length 1),(6,.si .i64 x.1)],[.row (.i .u32) x.2 187 true]⟩) (λs=>(iS s 6,oS (.i .u32) s 0))
  (λx=>(a.2 / 32<=x.1/\x.1<=max (a.2 / 32) a.1.length)/\bB x.2/\(x.2.length:Int)=x.1 - a.2 / 32/\bq x.2=bq a.1 / 2^a.2.toNat % 4294967296^x.2.length) (λx=>(max (a.2 / 32) a.1.length - x.1).toNat) λ_ _=> .look
 |_=> .look
theorem h161:Holds Tryz.prog Jf:=by
 refine cq (L:=[uA,uz]) Jf abG (by grind[h139,h140]) ?_;rintro⟨a,k⟩ ⟨⟨l,C⟩,z,k1⟩;simp only at l C z k1;refine bQ (let b:=(4294967296:Int);let g:=(18446744073709551616:Int);let h:=(0:Int);let l:=Ω .i64;let m:=(32:Int);let r:=Δ;let w:=bU .i64;let y:=(1:Int);let q:=k.tdiv m;let f:=bw.i .u32;let K:=γz 0 0 1;let F:=l q;let N:=bA.row f [] 187 true;let j:=k / m;let n:=max j (↑a.length:Int);let v:=bq a / (2:Int)^k.toNat;let A:=k.tmod m;let G:=y*(2:Int)^A.toNat % g;m≠h/\w q/\((((r f a).same (r f a)/\(l k).same (l k)/\K.same K/\F.same F/\True)/\N.same N/\True)/\(j<=q/\q<=n)/\bB []/\h=q - j/\bq []=v % y)/\∀(x:Int×List Int),let e:=x.snd.length;let p:=decide (x.fst<(↑a.length:Int));let c:=x.fst+y;let t:=((bp a x.fst.toNat h+bp a c.toNat h*b % g) % g).tdiv G;let s:=x.snd.length+1;let d:=x.snd++[t.tmod b % b];let o:=l c;let u:=bA.row f d 187 true;(j<=x.fst/\x.fst<=n)/\bB x.snd/\(↑e:Int)=x.fst - j/\bq x.snd=v % b^e->(p=true->(bB a/\h<=x.fst)/\w c/\(bB a/\h<=c)/\m≠h/\h<=A/\A<=(64:Int)/\G≠h/\bU .u64 t/\b≠h/\e=x.snd.length/\s*4<=140737488355328/\s<=1000000000000/\w c/\(((r f a).same (r f a)/\(l k).same (l k)/\(γz 0 d.length 1).same (γz 0 d.length 1)/\o.same o/\True)/\u.same u/\True)/\((j<=c/\c<=n)/\bB d/\(↑d.length:Int)=c - j/\bq d=v % b^d.length)/\(n - c).toNat<(n - x.fst).toNat)/\(p=false->e=x.snd.length/\(bB x.snd/\e<=100000000000)/\(r f (bO (bq x.snd))).same (r f (bO v)))) (by kernel_rfl) ?_;simp only[vcs];rw[γQ z,γR z];have V:=dX l;have Y:(k % 32).toNat=k.toNat % 32:=by omega
 have W:(0:Int)<2^(k.toNat % 32):=γS (by decide);have E:=vV (show k.toNat % 32<=32 by omega);rw[show(2:Int)^32=4294967296 from rfl] at E;have Q:1*2^(k.toNat % 32) % 18446744073709551616=(2:Int)^(k.toNat % 32):=by omega
 have g:(0:Int)<2^k.toNat:=γS (by decide);have pX:0<=bq a / 2^k.toNat:=δa V (ω g);refine⟨by omega,by omega,⟨⟨by omega,by omega⟩,by simp[bB],by omega,by rw[Int.emod_one];rfl⟩,?_⟩;rintro⟨i,b⟩ ⟨⟨i0,O⟩,ho,B,D⟩;simp only at i0 O ho B D ⊢;rw[Y,Q];refine⟨λhi=>?_,λhi=>?_⟩
 ·have x:=dK l i.toNat;have y:=dK l (i.toNat+1);have R:(i+1).toNat=i.toNat+1:=by omega
  have Z:(bp a i.toNat 0+bp a (i.toNat+1) 0*4294967296 % 18446744073709551616) % 18446744073709551616=bp a i.toNat 0+bp a (i.toNat+1) 0*4294967296:=by omega
  have h:0<=bp a i.toNat 0+bp a (i.toNat+1) 0*4294967296:=by omega
  have H:0<=(bp a i.toNat 0+bp a (i.toNat+1) 0*4294967296) / 2^(k.toNat % 32):=δa h (ω W);have P:(bp a i.toNat 0+bp a (i.toNat+1) 0*4294967296) / 2^(k.toNat % 32)<=bp a i.toNat 0+bp a (i.toNat+1) 0*4294967296:=εP _ h;have w:=abD (i:=i.toNat) (r:=k.toNat % 32) l (by omega);have a0:bU .u64 ((bp a i.toNat 0+bp a (i.toNat+1) 0*4294967296) / 2^(k.toNat % 32)):=u64_in H (by omega);rw[R,Z,γQ h,γR H,w];have T:bq a / 2^(32*i.toNat+k.toNat % 32) % 4294967296 % 4294967296=bq a / 2^k.toNat / 4294967296^b.length % 4294967296:=by
   rw[Int.emod_emod_of_dvd _ (Int.dvd_refl _)];have e3:(2:Int)^(32*i.toNat+k.toNat % 32)=2^k.toNat*4294967296^b.length:=by
    rw[sT];have:(2:Int)^k.toNat=4294967296^(k.toNat / 32)*2^(k.toNat % 32):=by rw[<-sT];congr 1;omega
    rw[this,show i.toNat=k.toNat / 32+b.length by omega,δf,γO,δL (4294967296^b.length),<-γO]
   rw[e3,<-δs (ω g)]
  rw[T];have S:=γ9 (bq a / 2^k.toNat / 4294967296^b.length) (show(4294967296:Int)≠0 by decide);have X:=γM (bq a / 2^k.toNat / 4294967296^b.length) (show(0:Int)<4294967296 by decide);have M:bq (b++[bq a / 2^k.toNat / 4294967296^b.length % 4294967296])=bq a / 2^k.toNat % 4294967296^(b.length+1):=by
   rw[rG,D];have:=Jd (x:=bq a / 2^k.toNat) (r:=32*b.length+0) (m:=32*(b.length+1)+0) (by omega);rw[sT,sT,εf,δ5,δ5,show 32*(b.length+1)+0 - (32*b.length+0)=32 by omega,show(2:Int)^32=4294967296 from rfl] at this;rw[<-this];have U:=δb (bq a / 2^k.toNat % 4294967296^(b.length+1)) (4294967296^b.length);have I:bq a / 2^k.toNat % 4294967296^(b.length+1) % 4294967296^b.length=bq a / 2^k.toNat % 4294967296^b.length:=by
    rw[γs];simp_all
   omega
  have J:(b++[bq a / 2^k.toNat / 4294967296^b.length % 4294967296]).length=b.length+1:=by simp
  grind[vK,Ah]
 ·have hX:bq a / 2^k.toNat<4294967296^b.length:=by
   refine δC g ?_;have U:=je l;have I:=uw (show a.length<=k.toNat / 32+b.length by omega);rw[δf] at I;have h3:(4294967296:Int)^(k.toNat / 32)<=2^k.toNat:=by
    have:=vV (show 32*(k.toNat / 32)+0<=k.toNat by omega);rwa [sT,εf,δ5] at this
   have h4:=Int.mul_le_mul_of_nonneg_right h3 (ω (pow_pos b.length));grind
  rw[δp pX hX] at D;grind
theorem RS {a:List Int} (h:bB a):jh (bq a)<=32*(a.length:Int):=by
 obtain⟨g,f,b⟩:=D9 (dX h);by_cases d:jh (bq a)<=32*(a.length:Int);·exact d
 ·rcases b with b|b;·omega
  ·have e:=je h;have c:=vV (show 32*a.length+0<=(jh (bq a)).toNat - 1 by omega);rw[sT,εf,δ5] at c;omega
def LR:List bL:=[Je,Jf,Ea,Aw,D5,D4,D6]
theorem hLR:∀c∈LR,Holds Tryz.prog c:=by
 simp only[LR,List.forall_mem_cons,List.not_mem_nil,false_implies,implies_true,and_true];grind[h160,h161,h162,h106,h107,h141,h159]
def Eb:bL:=⟨131,List Int×List Int,.cons (cV (.i .u32)) (.one (cV (.i .u32))),λa=>(bB a.1/\bB a.2)/\(a.1.length<=1000000000/\a.2.length<=1000000000)/\0<bq a.2,
 λa=> .bN [.row (.i .u32) (bO (bq a.1 / bq a.2)),.row (.i .u32) (bO (bq a.1 % bq a.2)),.si .i64 0]⟩
def abI (a:List Int×List Int):Nat->cC
 |7=> .inv (Int×List Int×List Int) (λx=>⟨[(0,.row (.i .u32) a.1),(1,.row (.i .u32) a.2),(8,.row (.i .u32) x.2.1),(9,.row (.i .u32) x.2.2),(10,.si .i64 x.1)],[.dead]⟩) (λs=>(iS s 10,rS (.i .u32) s 8,rS (.i .u32) s 9))
  (λx=>(-1<=x.1/\x.1<=100000000000)/\(bB x.2.1/\dS x.2.1)/\(bB x.2.2/\dS x.2.2)/\bq x.2.1*bq a.2+bq x.2.2=bq a.1 / 2^(x.1+1).toNat/\bq x.2.2<bq a.2) (λx=>(x.1+1).toNat) λ_ _=> .look
 |_=> .look
theorem h138:Holds Tryz.prog Eb:=by
 refine cq (L:=LR) Eb abI hLR ?_;rintro⟨a,b⟩ ⟨⟨t,O⟩,⟨a0,a1⟩,M⟩;simp only at t O a0 a1 M;refine bQ (let h:=Δ;let k:=(1:Int);let n:=(100000000000:Int);let q:=(18446744073709551616:Int);let r:=(0:Int);let t:=(1000000000000:Int);let v:=bU .i64;let w:=Ω .i64;let y:=(2:Int);let z:=(-1:Int);let C:=SV.bN;let K:=decide ((↑b.length:Int)=r);let Z:=h (bw.i .i64) [];let c:=bw.i .u32;let T:=C [h c (bO (bq a / bq b)),h c (bO (bq a % bq b)),w 0];let Y:=jh (bq a) - max k (jh (bq b));let N:=max r (Y+k);let H:=N - k;let s:=bO (bq a / y^N.toNat);let L:=w H;let G:=bO k;(K=true->(C [Z,Z,γo .i64 8]).same T)/\(K=false->(bB a/\a.length<=10000000000)/\(bB b/\b.length<=10000000000)/\v Y/\v (Y+k)/\0=0/\((bB a/\a.length<=10000000000)/\r<=N/\N<=t)/\v H/\((((h c a).same (h c a)/\(h c b).same (h c b)/\(h c []).same (h c [])/\(h c s).same (h c s)/\L.same L/\True)/\bA.dead.same bA.dead/\True)/\(z<=H/\H<=n)/\(bB []/\dS [])/\(bB s/\dS s)/\bq []*bq b+bq s=bq a / y^(H+k).toNat/\bq s<bq b)/\∀(x:Int×List Int×List Int),let j:=x.fst - k;let I:=w j;let B:=(j+k).toNat;let E:=(x.fst+k).toNat;let l:=bq x.snd.snd;let p:=bO (l+l);let e:=oq (bq a) x.fst.toNat;let f:=bq p+bq (bO e);let o:=bq x.snd.fst;let J:=decide (r<=x.fst);let m:=bO (o+o);let F:=λ(u R:List Int) (d:Int) ↦let g:=bO (bq u+bq R);v j/\(((h c a).same (h c a)/\(h c b).same (h c b)/\(h c g).same (h c g)/\(h c (bO d)).same (h c (bO d))/\I.same I/\True)/\bA.dead.same bA.dead/\True)/\((z<=j/\j<=n)/\(bB g/\dS g)/\(bB (bO d)/\dS (bO d))/\bq g*bq b+bq (bO d)=bq a / y^B/\bq (bO d)<bq b)/\B<E;let A:=λ(u:Nat) ↦(bB (bO f)/\bB b)/\(bO f).length<=u/\b.length<=u;let D:=λ(u:Bool) ↦decide (r<=iI (bq (bO f)) (bq b))=u;(z<=x.fst/\x.fst<=n)/\(bB x.snd.fst/\dS x.snd.fst)/\(bB x.snd.snd/\dS x.snd.snd)/\o*bq b+l=bq a / y^E/\l<bq b->(J=true->((bB x.snd.fst/\bB x.snd.fst)/\x.snd.fst.length<=10000000000/\x.snd.fst.length<=10000000000)/\((bB x.snd.snd/\bB x.snd.snd)/\x.snd.snd.length<=10000000000/\x.snd.snd.length<=10000000000)/\(bB a/\r<=x.fst/\x.fst<=t)/\(r<=e/\e<q)/\((bB p/\bB (bO e))/\p.length<=10000000000/\(bO e).length<=10000000000)/\A 1000000000000/\(D true->A 10000000000/\(r<=k/\k<q)/\((bB m/\bB G)/\m.length<=10000000000/\G.length<=10000000000)/\F m G (bq (bO f) - bq b))/\(D false->F x.snd.fst x.snd.fst f))/\(J=false->(C [h c x.snd.fst,h c x.snd.snd,γo .i64 0]).same T))) (by kernel_rfl) ?_;simp only[vcs];have W:=dX t;have a5:b.length≠0:=by
  intro h;rw[π h] at M;exact absurd M (by decide)
 obtain⟨A0,A1,A2⟩:=D9 W;obtain⟨B0,B1,B2⟩:=D9 (ω M);have Ab:=RS t;have Bb:=RS O;have a7:1<=jh (bq b):=by
  grind
 have hm:max 1 (jh (bq b))=jh (bq b):=by omega
 rw[hm];obtain⟨K,hK⟩:∃K,K=max 0 (jh (bq a) - jh (bq b)+1):=⟨_,rfl⟩;rw[<-hK];have a4:0<=K:=by omega
 have S:(0:Int)<2^K.toNat:=γS (by decide);have U:bq a / 2^K.toNat<bq b:=by
  refine δC S ?_;have h1:=vV (show(jh (bq a)).toNat<=K.toNat+((jh (bq b)).toNat - 1) by omega);rw[δf] at h1;have h2:(2:Int)^((jh (bq b)).toNat - 1)<=bq b:=by omega
  have h3:=ν h2 (ω S);grind
 have pq:0<=bq a / 2^K.toNat:=δa W (ω S);obtain⟨q1,q2,q3⟩:=ec pq;have eK:(K - 1+1).toNat=K.toNat:=by omega
 rw[eK,q1];clear A1 A2 B1 B2 hm;refine⟨λh=>absurd h (by omega),λ_=>⟨⟨t,by omega⟩,⟨O,by omega⟩,by omega,by omega,⟨⟨t,by omega⟩,by omega,by omega⟩,by omega,⟨⟨by omega,by omega⟩,⟨by simp[bB],trivial⟩,⟨q2,q3⟩,by simp[bq],U⟩,?_⟩⟩;rintro⟨i,q,r⟩ ⟨⟨i0,i1⟩,⟨C,nq⟩,⟨w,nr⟩,Q,z⟩;simp only at i0 i1 C nq w nr Q z ⊢;have a2:=dX C;have a3:=dX w;have G:=vP w O nr (ω z);have a8:(0:Int)<2^(i+1).toNat:=γS (by decide);have a6:bq a / 2^(i+1).toNat<=bq a:=εP _ W;have v:q.length<=a.length:=by
  refine vP C t nq ?_;have:=ν (show(1:Int)<=bq b by omega) a2;omega
 refine⟨λhi=>?_,λhi=>?_⟩
 ·have e1:(i+1).toNat=i.toNat+1:=by omega
  have e2:(i - 1+1).toNat=i.toNat:=by omega
  have y:0<=oq (bq a) i.toNat/\oq (bq a) i.toNat<=1:=by grind[oq]
  have n:bq a / 2^i.toNat=2*(bq a / 2^(i+1).toNat)+oq (bq a) i.toNat:=by
   have P:(0:Int)<2^i.toNat:=γS (by decide);rw[e1,γs,<-δs (ω P)];grind[oq]
  rw[<-Q] at n;obtain⟨u1,u2,u3⟩:=ec (show 0<=bq r+bq r by omega);obtain⟨w1,w2,w3⟩:=ec y.1;obtain⟨x1,x2,x3⟩:=ec (show 0<=bq r+bq r+oq (bq a) i.toNat by omega);obtain⟨y1,y2,y3⟩:=ec (show 0<=bq q+bq q by omega);obtain⟨Z,c,T⟩:=ec (show(0:Int)<=1 by omega);obtain⟨s1,s2,s3⟩:=ec (show 0<=bq q+bq q+1 by omega);have ul:=I8 w w G G;have wl:=jv (k:=1) y.1 (by omega);have xl:=I8 (k:=b.length+2) u2 w2 (by omega) (by omega);have yl:=I8 C C v v;have zl:=jv (k:=1) (show(0:Int)<=1 by omega) (by decide);grind[iI,ec]
 ·have e0:(i+1).toNat=0:=by omega
  rw[e0,εf,Int.ediv_one] at Q;obtain⟨w1,w2⟩:=uo (X:=bq a) (V:=bq b) (q:=bq q) (by omega) (by grind);grind[sO]
def Ec:bL:=⟨127,List Int×List Int,.cons (cV (.i .u32)) (.one (cV (.i .u32))),λa=>(bB a.1/\bB a.2)/\(a.1.length<=100000000/\a.2.length<=100000000)/\dS a.2,
 λa=> .row (.i .u32) (bO (dV (bq a.1) (bq a.2)))⟩
def abJ (a:List Int×List Int):Nat->cC
 |1=> .inv (List Int×List Int) (λx=>⟨[(0,.row (.i .u32) x.1),(1,.row (.i .u32) x.2)],[]⟩) (λs=>(rS (.i .u32) s 0,rS (.i .u32) s 1))
  (λx=>(bB x.1/\bB x.2)/\dS x.2/\(x.1.length<=100000000/\x.2.length<=100000000)/\dV (bq x.1) (bq x.2)=dV (bq a.1) (bq a.2)) (λx=>(bq x.2).toNat) λ_ _=> .look
 |_=> .look
theorem h125:Holds Tryz.prog Ec:=by
 refine cq (L:=[Eb,uz]) Ec abJ (by grind[h138,h140]) ?_;rintro⟨a,b⟩ ⟨⟨p,l⟩,⟨g,h⟩,m⟩;simp only at p l g h m;refine bQ (let e:=Δ;let c:=bw.i .u32;let f:=dV (bq a) (bq b);((((e c a).same (e c a)/\(e c b).same (e c b)/\True)/\True)/\(bB a/\bB b)/\dS b/\(a.length<=100000000/\b.length<=100000000)/\f=f)/\∀(x:List Int×List Int),let j:=x.fst.length;let n:=decide ((0:Int)<(↑x.snd.length:Int));let d:=bO (bq x.fst % bq x.snd);(bB x.fst/\bB x.snd)/\dS x.snd/\(j<=100000000/\x.snd.length<=100000000)/\dV (bq x.fst) (bq x.snd)=f->(n=true->((bB x.fst/\bB x.snd)/\(j<=1000000000/\x.snd.length<=1000000000)/\(0:Int)<bq x.snd)/\(((e c x.snd).same (e c x.snd)/\(e c d).same (e c d)/\True)/\True)/\((bB x.snd/\bB d)/\dS d/\(x.snd.length<=100000000/\d.length<=100000000)/\dV (bq x.snd) (bq d)=f)/\(bq d).toNat<(bq x.snd).toNat)/\(n=false->(bB x.fst/\j<=100000000000)/\(e c (bO (bq x.fst))).same (e c (bO f)))) (by kernel_rfl) ?_;simp only[vcs];refine⟨⟨⟨p,l⟩,m,⟨g,h⟩⟩,?_⟩;rintro⟨s,t⟩ ⟨⟨o,k⟩,B,⟨q,C⟩,u⟩;simp only at o k B C q u ⊢;have G:=dX o;have F:=dX k;refine⟨λy=>?_,λy=>?_⟩
 ·have e:0<bq t:=by
   grind[val_zero]
  have r:=γ9 (bq s) (show bq t≠0 by omega);have v:=γM (bq s) e;obtain⟨A,z,E⟩:=ec r;have w:=vP z k E (by rw[A];omega);grind[Rh]
 ·have D:t=[]:=π (by omega);grind[bq,Ri]
def mq (a:List Int):Bool:=decide (a.length=0)||decide (bp a (a.length - 1) 0≠0)
theorem ot {a:List Int}:mq a=true↔dS a:=by
 unfold mq;rw[Bool.or_eq_true,decide_eq_true_eq,decide_eq_true_eq];constructor;·exact D3
 ·intro h;by_cases e:a.length=0;·exact .inl e
  ·right;have b:=Ad (a:=a) (n:=a.length - 1) (by omega);rw[show a.length - 1+1=a.length by omega,χ] at b;have:∀{l:List Int} {x:Int},dS (l++[x])->x≠0:=by
    intro l x;induction l with
    |nil=>intro h;exact h.1 rfl;|cons d l c=>intro h;exact c h.2
   grind
def Jg:bL:=⟨126,List Int,.one (cV (.i .u32)),λa=>a.length<=1000000000,λa=> .sb (mq a)⟩
theorem h124:Holds Tryz.prog Jg:=by
 refine cq (L:=[]) Jg lk (by simp) ?_;intro(a:List Int) h;have h:a.length<=1000000000:=h;refine bQ (let e:=(0:Int);let c:=(↑a.length:Int);let d:=decide (c=e);let b:=c - (1:Int);(d=true->(γ0 true).same (γn (mq a)))/\(d=false->bU .i64 b/\e<=b/\b<c/\b.toNat<a.length/\(γn (decide (bp a b.toNat e≠e))).same (γn (mq a)))) (by kernel_rfl) ?_;simp only[vcs];grind[mq]
def Jh:bL:=⟨135,Int,.one (ef .i64),λn=> -9223372036854775808<=(show Int from n)/\(show Int from n)<=9223372036854775807,λn=> .row (.i .u32) (bO ((show Int from n).natAbs:Int))⟩
theorem h135:Holds Tryz.prog Jh:=by
 refine cq (L:=[D6]) Jh lk (by grind[h159]) ?_;intro(n:Int) h;obtain⟨e,f⟩: -9223372036854775808<=n/\n<=9223372036854775807:=h;refine bQ (let e:=(18446744073709551616:Int);let f:=(1:Int);let g:=(0:Int);let h:=Δ;let d:=decide (n<g);let a:=(-(n+f)+f) % e;let b:=bw.i .u32;let c:=h b (bO (↑n.natAbs:Int));(d=true->bU .i64 (n+f)/\bU .i64 (-(n+f))/\bU .u64 (-(n+f))/\(g<=a/\a<e)/\(h b (bO a)).same c)/\(d=false->bU .u64 n/\(g<=n/\n<e)/\(h b (bO n)).same c)) (by kernel_rfl) ?_;simp only[vcs];grind[u64_in]
def Ax:bL:=⟨100,Bool×(List Int×List Int),.cons HG (.cons (cV (.i .u32)) (.one (cV (.i .u32)))),λa=>(bB a.2.1/\bB a.2.2)/\(a.2.1.length<=100000000/\a.2.2.length<=100000000)/\(dS a.2.1/\dS a.2.2)/\0<bq a.2.2,
 λa=> .bN [lr (ey a.1 (bq a.2.1) (bq a.2.2)),.si .i64 0]⟩
theorem h105:Holds Tryz.prog Ax:=by
 refine cq (L:=[Ec,Eb]) Ax lk (by grind[h125,h138]) ?_;rintro⟨s,n,d⟩ ⟨⟨e,f⟩,⟨k,j⟩,⟨B,r⟩,b⟩;simp only at e f k j b B r;refine bQ (let b:=Δ;let e:=(0:Int);let f:=γ0 false;let g:=γF;let h:=SV.bN;let c:=bw.i .u32;let a:=bO (dV (bq n) (bq d));let p:=bu (ey s (bq n) (bq d));let x:=h [g [γn p.fst,b c p.snd.fst,b c p.snd.snd],Ω .i64 0];let w:=decide ((↑d.length:Int)=e);let q:=b (bw.i .i64) [];let t:=λ(u:Bool) (m:SV) ↦s=u->(h [g [m,b c (bO (bq n / bq a)),b c (bO (bq d / bq a))],γo .i64 0]).same x;(w=true->(h [g [f,q,q],γo .i64 8]).same x)/\(w=false->((bB n/\bB d)/\(n.length<=100000000/\d.length<=100000000)/\dS d)/\((bB n/\bB a)/\(n.length<=1000000000/\a.length<=1000000000)/\e<bq a)/\((bB d/\bB a)/\(d.length<=1000000000/\a.length<=1000000000)/\e<bq a)/\t true (γn (decide (e<(↑n.length:Int))))/\t false (f))) (by kernel_rfl) ?_;simp only[vcs];have C:=dX e;have l:0<dV (bq n) (bq d):=by
  simp_all[dV]
 have A:dV (bq n) (bq d)<=bq d:=by
  unfold dV;have:=Nat.gcd_le_right (bq n).toNat (show 0<(bq d).toNat by omega);omega
 obtain⟨F,o,z⟩:=ec (ω l);have D:=vP o f z (by omega);have v:(0<(n.length:Int))↔0<bq n:=by
  constructor;·grind[val_zero]
  ·intro h;by_cases E:n.length=0
   ·rw[π E] at h;exact absurd h (by decide)
   ·omega
 have y:decide (0<(n.length:Int))=decide (0<bq n):=by simp_all
 have G:d.length≠0:=by
  intro h;rw[π h] at b;exact absurd b (by decide)
 unfold ey;rw[I3 C b,F];simp only;refine⟨λh=>absurd h (by omega),λ_=>⟨⟨⟨e,f⟩,⟨by omega,by omega⟩,r⟩,⟨⟨e,o⟩,⟨by omega,by omega⟩,l⟩,⟨⟨f,o⟩,⟨by omega,by omega⟩,l⟩,λg=>?_,λg=>?_⟩⟩
 ·rw[g,y];rfl
 ·rw[g];rfl
def Ji:bL:=⟨103,Int×Int,.cons (ef .i64) (.one (ef .i64)),λa=>(-9223372036854775808<=a.1/\a.1<=9223372036854775807)/\0<a.2/\a.2<=9223372036854775807,λa=> .bN [lr (ey (decide (a.1<0)) (a.1.natAbs:Int) a.2),.si .i64 0]⟩
theorem h103:Holds Tryz.prog Ji:=by
 refine cq (L:=[Jh,Ax]) Ji lk (by grind[h135,h105]) ?_;rintro⟨n,d⟩ ⟨⟨u,w⟩,q,t⟩;simp only at u w q t;refine bQ (let e:=(-9223372036854775808:Int);let h:=(9223372036854775807:Int);let j:=(0:Int);let k:=Δ;let c:=bO (↑n.natAbs:Int);let a:=bO (↑d.natAbs:Int);let g:=bu (ey (!decide (n<j)==decide (d<j)) (bq c) (bq a));let b:=bw.i .u32;let l:=[Ω .i64 0];let f:=bu (ey (decide (n<j)) (↑n.natAbs:Int) d);(e<=n/\n<=h)/\(e<=d/\d<=h)/\((bB c/\bB a)/\(c.length<=100000000/\a.length<=100000000)/\(dS c/\dS a)/\j<bq a)/\(SV.bN (γF [γn g.fst,k b g.snd.fst,k b g.snd.snd]::l)).same (SV.bN (γF [γn f.fst,k b f.snd.fst,k b f.snd.snd]::l))) (by kernel_rfl) ?_;simp only[vcs];obtain⟨v,s,m⟩:=ec (show(0:Int)<=(n.natAbs:Int) by omega);obtain⟨o,j,h⟩:=ec (show(0:Int)<=(d.natAbs:Int) by omega);have x:=jv (k:=2) (show(0:Int)<=(n.natAbs:Int) by omega) (by omega);have p:=jv (k:=2) (show(0:Int)<=(d.natAbs:Int) by omega) (by omega);have e:(d.natAbs:Int)=d:=by omega
 have r:(!(decide (n<0)==decide (d<0)))=decide (n<0):=by
  grind
 rw[r,v,o,e];rw[e] at j h p;repeat' refine γe ?_ ?_
 all_goals first|omega|exact s|exact j|exact m|exact h|rfl
def Ed:bL:=⟨68,Int,.one (ef .i64),λn=> -9223372036854775808<=(show Int from n)/\(show Int from n)<=9223372036854775807,λn=>lr ((show Int from n):Rat)⟩
theorem abK (n:Int):ey (decide (n<0)) (n.natAbs:Int) 1=(n:Rat):=by
 unfold ey;have a:(if decide (n<0)=true then -(n.natAbs:Int) else(n.natAbs:Int))=n:=by
  grind
 grind[Rat.mkRat_one]
theorem h51:Holds Tryz.prog Ed:=by
 refine cq (L:=[Ji]) Ed lk (by grind[h103]) ?_;intro(n:Int) h;obtain⟨e,d⟩: -9223372036854775808<=n/\n<=9223372036854775807:=h;refine bQ (let d:=(9223372036854775807:Int);let e:=Δ;let f:=(1:Int);let c:=bu (ey (decide (n<(0:Int))) (↑n.natAbs:Int) f);let a:=bw.i .u32;let b:=bu (IntCast.intCast n);(((-9223372036854775808:Int)<=n/\n<=d)/\(0:Int)<f/\f<=d)/\(γF [γn c.fst,e a c.snd.fst,e a c.snd.snd]).same (γF [γn b.fst,e a b.snd.fst,e a b.snd.snd])) (by kernel_rfl) ?_;grind[uy,abK]
def eW (x:bM):Prop:=∃q k,x=bu q/\Sz k q/\k<=10000000
theorem abL (q:Rat):bu (-q)=(!(bu q).1&&decide (0<((bu q).2.1.length:Int)),(bu q).2):=by
 have d:0<((bu q).2.1.length:Int)↔q.num≠0:=by
  obtain⟨_,⟨g,e,f⟩,_⟩:=jg q;constructor;·grind[val_zero]
  ·intro h;by_cases c:(bu q).2.1.length=0<;>grind[bu,bq]
 unfold bu;refine εS ?_ (εS ?_ ?_)
 ·simp only;rw[ζu];simp only[decide_eq_true_eq,Bool.and_eq_true,Bool.not_eq_true',decide_eq_false_iff_not];have c:=@Rat.num_nonneg q;have a:=@Rat.num_nonneg (-q);rw[Rat.neg_num] at a;have b:(0:Int)<(bO (q.num.natAbs:Int)).length↔q.num≠0:=d;grind
 all_goals simp_all
def Jj:bL:=⟨128,bM,.one (dZ sF),cF,λx=>lr (-(bK x))⟩
theorem h142:Holds Tryz.prog Jj:=by
 refine cq (L:=[]) Jj lk (by simp) ?_;intro(x:bM) h;obtain⟨q,k,rfl,g,f⟩:cF x:=h;refine bQ (let e:=Δ;let a:=bw.i .u32;let c:=(bu (-bK (bu q))).snd;let d:=λ(u:Bool) (b:SV) ↦(!(bu q).fst)=u->(γF [b,e a (bu q).snd.fst,e a (bu q).snd.snd]).same (γF [γn (bu (-bK (bu q))).fst,e a c.fst,e a c.snd]);d true (γn (decide ((0:Int)<(↑(Φ (bu q).snd.fst):Int))))/\d false (γ0 false)) (by kernel_rfl) ?_;conv=>zeta
 have e:=abL q;rw[dU];refine⟨λh=>?_,λh=>?_⟩
 ·rw[e,h];rfl
 ·rw[e,h];rfl
def Az:bL:=⟨67,bM×bM,.cons (dZ sF) (.one (dZ sF)),λa=>eW a.1/\eW a.2,λa=>lr (bK a.1+bK a.2)⟩
theorem h52:Holds Tryz.prog Az:=by
 refine cq (L:=[D7,Aw,D5,Ax]) Az lk (by grind[h104,h106,h107,h105]) ?_;rintro⟨x,y⟩ ⟨⟨p,i,E,B,hi⟩,⟨q,j,N,F,hj⟩⟩;simp only at E N;subst E N;refine bQ (let h:=Δ;let j:=γF;let v:=(bu p).snd.fst;let l:=(bu q).snd.snd;let e:=bO (bq v*bq l);let w:=(bu q).snd.fst;let m:=(bu p).snd.snd;let d:=bO (bq w*bq m);let b:=bO (bq m*bq l);let a:=bw.i .u32;let k:=bu (bK (bu p)+bK (bu q));let r:=j [γn k.fst,h a k.snd.fst,h a k.snd.snd];let o:=(bu p).fst==(bu q).fst;let c:=bO (bq d - bq e);let g:=bu (ey (bu q).fst (bq c) (bq b));let C:=(bB e/\bB d)/\e.length<=10000000000/\d.length<=10000000000;let M:=λ(u:Int) ↦let f:=bu (ey (bu p).fst (bq (bO u)) (bq b));((bB (bO u)/\bB b)/\((bO u).length<=100000000/\b.length<=100000000)/\(dS (bO u)/\dS b)/\(0:Int)<bq b)/\(j [γn f.fst,h a f.snd.fst,h a f.snd.snd]).same r;let H:=λ(u:Bool) ↦decide (bq d<=bq e)=u;((bB v/\bB l)/\Φ v<=1000000000/\Φ l<=1000000000)/\((bB w/\bB m)/\Φ w<=1000000000/\Φ m<=1000000000)/\((bB m/\bB l)/\Φ m<=1000000000/\Φ l<=1000000000)/\(o=true->C/\M (bq e+bq d))/\(o=false->C/\(H true->M (bq e - bq d))/\(H false->((bB d/\bB e)/\d.length<=10000000000/\e.length<=10000000000)/\((bB c/\bB b)/\(c.length<=100000000/\b.length<=100000000)/\(dS c/\dS b)/\(0:Int)<bq b)/\(j [γn g.fst,h a g.snd.fst,h a g.snd.snd]).same r))) (by kernel_rfl) ?_;conv=>zeta
 obtain⟨e1,⟨u1,_,_⟩,⟨K,_,_⟩⟩:=jg p;obtain⟨W,⟨u3,_,_⟩,⟨G,_,_⟩⟩:=jg q;obtain⟨m1,m2⟩:=lM B;obtain⟨m3,m4⟩:=lM F;obtain⟨X,Y,D,T,Q,hD,V,S,A,l1,l2,l3,l4,l5,l6,n1,n2,n3⟩:=I4 B F;obtain⟨R,J,c3⟩:=ec V;obtain⟨c4,I,c6⟩:=ec S;obtain⟨c7,U,Z⟩:=ec (ω A);obtain⟨s1,O,s3⟩:=ec (show 0<=X+Y by omega);simp only[dU,T,Q,hD,R,c4,c7,s1,e1,W];simp only[vcs];have t:∀{s:Bool} {n:Int},(p.num*q.den+q.num*p.den=if s then -n else n)->(γF [.sb (bu (ey s n D)).1,.row (.i .u32) (bu (ey s n D)).2.1,.row (.i .u32) (bu (ey s n D)).2.2]).same (.agg [.sb (bu (p+q)).1,.row (.i .u32) (bu (p+q)).2.1,.row (.i .u32) (bu (p+q)).2.2]):=
  λh=>uy (RL n3 h);rw[n1,n2] at t;refine⟨⟨⟨u1,G⟩,by omega,by omega⟩,⟨⟨u3,K⟩,by omega,by omega⟩,⟨⟨K,G⟩,by omega,by omega⟩,λP=>⟨⟨⟨J,I⟩,by omega,by omega⟩,⟨⟨O,U⟩,⟨by omega,by omega⟩,⟨s3,Z⟩,A⟩,t ?_⟩,λP=>⟨⟨⟨J,I⟩,by omega,by omega⟩,λz=>?_,λz=>?_⟩⟩;all_goals grind[ec]
def Ee:bL:=⟨96,bM×bM,.cons (dZ sF) (.one (dZ sF)),λa=>eW a.1/\eW a.2,λa=>lr (bK a.1 - bK a.2)⟩
theorem h108:Holds Tryz.prog Ee:=by
 refine cq (L:=[Jj,Az]) Ee lk (by grind[h142,h52]) ?_;rintro⟨x,y⟩ ⟨⟨p,i,h,m,n⟩,⟨q,j,g,k,o⟩⟩;simp only at h g;subst h g;refine bQ (let g:=Δ;let b:=((bu q).fst,(bu q).snd.fst,(bu q).snd.snd);let e:=((bu p).fst,(bu p).snd.fst,(bu p).snd.snd);let l:=(bu (-bK b)).snd;let f:=((bu (-bK b)).fst,l.fst,l.snd);let d:=bu (bK e+bK f);let a:=bw.i .u32;let c:=bu (bK (bu p) - bK (bu q));cF b/\(eW e/\eW f)/\(γF [γn d.fst,g a d.snd.fst,g a d.snd.snd]).same (γF [γn c.fst,g a c.snd.fst,g a c.snd.snd])) (by kernel_rfl) ?_;conv=>zeta
 have r:eW (bu (-q)):=⟨-q,j,rfl,vR k,o⟩;refine⟨⟨q,j,rfl,k,by omega⟩,⟨⟨p,i,rfl,m,n⟩,?_⟩,uy ?_⟩;all_goals grind[dU]
def Ef:bL:=⟨98,bM,.one (dZ sF),cF,λx=> .si .i64 (gG (bK x))⟩
theorem h48:Holds Tryz.prog Ef:=by
 refine cq (L:=[]) Ef lk (by simp) ?_;intro(x:bM) h;obtain⟨q,k,rfl,m,f⟩:cF x:=h;refine bQ (let c:=γo .i64;let a:=Ω .i64 (gG (bK (bu q)));let b:=decide ((↑(Φ (bu q).snd.fst):Int)=(0:Int));((bu q).fst=true->(c (-1:Int)).same a)/\((bu q).fst=false->(b=true->(c 0).same a)/\(b=false->(c 1).same a))) (by kernel_rfl) ?_;simp only[vcs];rw[dU];obtain⟨c,⟨j,i,d⟩,_⟩:=jg q;have e:((bu q).2.1.length:Int)=0↔q.num=0:=by
  constructor
  ·intro h;rw[π (by omega:(bu q).2.1.length=0)] at d;grind[bq]
  grind[val_zero]
 have n:=@Rat.num_nonneg q;have l:q<0↔q.num<0:=by
  grind
 have g:0<q↔0<q.num:=by
  grind[Rat.num_eq_zero]
 rw[e,c];simp only[decide_eq_true_eq,decide_eq_false_iff_not];unfold gG;grind
def Jk:bL:=⟨69,bM×bM,.cons (dZ sF) (.one (dZ sF)),λa=>eW a.1/\eW a.2,λa=> .si .i64 (gI (bK a.1) (bK a.2))⟩
theorem abM (p q:Rat):gG (p - q)=gI p q:=by
 grind[gG,gI]
theorem h53:Holds Tryz.prog Jk:=by
 refine cq (L:=[Ee,Ef]) Jk lk (by grind[h108,h48]) ?_;rintro⟨x,y⟩ ⟨⟨p,i,h,g,m⟩,⟨q,j,c,d,l⟩⟩;simp only at h c;subst h c;refine bQ (let e:=((bu p).fst,(bu p).snd.fst,(bu p).snd.snd);let b:=((bu q).fst,(bu q).snd.fst,(bu q).snd.snd);let a:=bu (bK e - bK b);let f:=(a.fst,a.snd.fst,a.snd.snd);(eW e/\eW b)/\cF f/\(Ω .i64 (gG (bK f))).same (Ω .i64 (gI (bK (bu p)) (bK (bu q))))) (by kernel_rfl) ?_;conv=>zeta
 have k:bK (bu p) - bK (bu q)=p - q:=by grind[dU]
 refine⟨⟨⟨p,i,rfl,g,m⟩,⟨q,j,rfl,d,l⟩⟩,?_,?_⟩
 ·show cF (bu (bK (bu p) - bK (bu q)));rw[k,Rat.sub_eq_add_neg];exact⟨_,_,rfl,vQ g (vR d),by omega⟩
 ·show(Ω IntKind.i64 (gG (bK (bu (bK (bu p) - bK (bu q)))))).same _;simp_all[dU,abM]
theorem RU {i u v:Nat} (h:u=v):(γz i u 1).same (γz i v 1):=by subst h;rfl
theorem RV {p:bz}:∀{c l:List Int},(c.foldl (xR p) l).length=l.length
 |[],l=>rfl
 |i::c,l=>by
  rw[List.foldl_cons,RV];grind[xR]
theorem abN {p:bz} {c:List Int}:(od p c).length=p.classes.length:=by
 grind[od,RV]
theorem abO {p:bz} {c:List Int} {i:Nat} (h:i<c.length):od p (c.take (i+1))=xR p (od p (c.take i)) (bp c i 0):=by
 grind[Ad,od]
def abP (a:bz×Alloc):Nat->cC
 |5=> .inv (Int×List Int) (λx=>⟨[(2,.ptr 0 0 20),(5,.ow 2 x.2.length 1),(18,.row (.i .i64) a.2.chosen),(19,.si .i64 a.2.chosen.length),(20,.si .i64 x.1)],[.cells a.1.ss 27 20 false,.cells [.row (.i .i64) a.2.chosen,.si .i64 a.2.value] 31 2 false,.row (.i .i64) x.2 2 true]⟩) (λs=>(iS s 20,oS (.i .i64) s 2))
  (λx=>(0<=x.1/\x.1<=a.2.chosen.length)/\x.2=od a.1 (a.2.chosen.take x.1.toNat)) (λx=>(a.2.chosen.length - x.1).toNat) λ_ _=> .look
 |_=> .look
def Jl:bL:=⟨22,bz×Alloc,.cons dO (.one mf),λa=>a.2.chosen.length<=9223372036854775807,λa=> .row (.i .i64) (if cH a.1 a.2.chosen=0 then od a.1 a.2.chosen else[])⟩
theorem h101:Holds Tryz.prog Jl:=by
 refine cq (L:=[ub]) Jl abP (by grind[h100]) ?_;rintro⟨p,⟨c,v⟩⟩ h;refine bQ (let d:=Ω .i64;let e:=(0:Int);let h:=Δ;let u:=γz;let D:=decide (cH p c≠e);let j:=bw.i .i64;let C:=h j (if cH p c=e then od p c else[]);let m:=(↑p.classes.length:Int);let t:=γU 0 0 20;let w:=δ m.toNat e;let k:=(↑c.length:Int);let z:=d k;let r:=bA.cells [d p.supply.a0,d p.supply.a1,d p.supply.a2,d p.supply.a3,d p.supply.a4,d p.supply.a5,d p.opn.a0,d p.opn.a1,d p.opn.a2,d p.opn.a3,d p.opn.a4,d p.opn.a5,d p.cls.a0,d p.cls.a1,d p.cls.a2,d p.cls.a3,d p.cls.a4,d p.cls.a5,h j p.classes,h bw.off p.offers] 27 20 false;let s:=bA.cells [h j c,d v] 31 2 false;let n:=bA.row j w 2 true;c.length<=9223372036854775807/\(D=true->(h j []).same C)/\(D=false->e<=m/\m<=m/\m*(8:Int)<=(140737488355328:Int)/\m<=(1000000000000:Int)/\(((t.same t/\(u 2 m.toNat 1).same (u 2 w.length 1)/\(h j c).same (h j c)/\(d (↑c.length:Int)).same z/\(γo .i64 0).same (d 0)/\True)/\r.same r/\s.same s/\n.same n/\True)/\(e<=e/\e<=k)/\w=od p [])/\∀(x:Int×List Int),let a:=bp c x.fst.toNat e;let g:=x.snd.length;let f:=bp p.offers a.toNat bw.off.dflt;let b:=x.fst+(1:Int);let l:=x.snd.set f.ck.toNat f.value;let o:=d b;let q:=bA.row j l 2 true;(e<=x.fst/\x.fst<=k)/\x.snd=od p (τ x.fst.toNat c)->(decide (x.fst<k)=true->e<=x.fst/\x.fst<(↑c.length:Int)/\x.fst.toNat<c.length/\e<=a/\a<(↑p.offers.length:Int)/\a.toNat<p.offers.length/\e<=a/\a<(↑p.offers.length:Int)/\a.toNat<p.offers.length/\x.snd.length=g/\e<=f.ck/\f.ck<(↑g:Int)/\x.snd.length=g/\f.ck.toNat<g/\bU .i64 b/\((t.same t/\(u 2 x.snd.length 1).same (u 2 l.length 1)/\(h j c).same (h j c)/\z.same z/\o.same o/\True)/\r.same r/\s.same s/\q.same q/\True)/\((e<=b/\b<=k)/\l=od p (τ b.toNat c))/\(k - b).toNat<(k - x.fst).toNat)/\(decide (x.fst<k)=false->x.snd.length=g/\(h j x.snd).same C))) (by kernel_rfl) ?_;simp only[vcs];have A:c.length<=9223372036854775807:=h;refine⟨A,λI=>?_,λB=>?_⟩;·simp_all
 have B:cH p c=0:=by omega
 obtain⟨_,_,u,K,y⟩:=Dx B;have R:=u.1;have N:=u.2.1;rw[if_pos B];refine⟨by omega,by omega,by omega,by omega,?_,?_⟩
 ·repeat' refine γe ?_ ?_
  all_goals first|omega|exact RU (by simp)|rfl|trivial
 rintro⟨i,F⟩ ⟨⟨G,M⟩,E⟩;simp only at G M E ⊢;subst E;have P:=@abN p (c.take i.toNat);refine⟨λH=>?_,λH=>?_⟩
 ·have O:=y (bp c i.toNat 0) (dn (by omega));have Q:=u.2.2.2.2 _ (dn (d:=bw.off.dflt) (show(bp c i.toNat 0).toNat<p.offers.length by omega));have J:=abO (p:=p) (show i.toNat<c.length by omega);have e:(i+1).toNat=i.toNat+1:=by omega
  rw[e,J];repeat' refine γe ?_ ?_
  all_goals first|omega|exact RU (by simp)|rfl|trivial
 ·have:i.toNat=c.length:=by omega
  rw[this,χ];repeat' refine γe ?_ ?_
  all_goals first|omega|rfl
theorem lN {W:Int} (a: -9223372036854775808<=W) (b:W<=9223372036854775807):Sz 2 (W:Rat):=by
 unfold Sz;simp;omega
theorem RX {g:Int} (h:0<=g):bO g=[1]↔g=1:=by
 constructor;·grind[ec,bq]
 ·rintro rfl;rfl
theorem Eg {a:List Int} (h:bB a) (c:dS a) (b:a≠[]):0<bq a:=by
 have:=dX h;grind[val_zero]
def okF (x:bM):Bool:=decide (bu (bK x)=x)
theorem Jm {n d:Int} (h:0<d):0<dV n d:=by
 simp_all[dV]
theorem RY {s:Bool} {n d:List Int} (h:okF (s,(n,d))=true):dS n/\dS d/\d≠[]:=by
 have h:=of_decide_eq_true h;have b:=ec (show(0:Int)<=((bK (s,(n,d))).num.natAbs:Int) by omega);have a:=ec (show(0:Int)<=((bK (s,(n,d))).den:Int) by omega);have e:bO ((bK (s,(n,d))).num.natAbs:Int)=n:=congrArg (λx=>x.2.1) h;have c:bO ((bK (s,(n,d))).den:Int)=d:=congrArg (λx=>x.2.2) h;rw[e] at b;rw[c] at a;refine⟨b.2.2,a.2.2,λf=>?_⟩;have g:=a.1;rw[f] at g;have:=(bK (s,(n,d))).den_pos;grind[bq]
theorem okF_eq {s:Bool} {n d:List Int} (e:bB n) (m:bB d) (l:dS n) (p:dS d) (b:d≠[]):
  okF (s,(n,d))=if n=[] then !s&&decide (d=[1]) else decide (dV (bq n) (bq d)=1):=by
 have c:=Eg m p b;have r:=dX e;have j:bK (s,(n,d))=mkRat (if s then -bq n else bq n) (bq d).toNat:=rfl;have o:=@I3 s (bq n) (bq d) r c;have u:=@Jm (bq n) (bq d) c;unfold okF;rw[j,o];by_cases a:n=[]
 ·rw[if_pos a,a];have i:dV (bq []) (bq d)=bq d:=by unfold dV;simp[bq];omega
  have k:bO (bq d / dV (bq []) (bq d))=[1]:=by rw[i,Int.ediv_self (by omega)];rfl
  have f:bO (bq [] / dV (bq []) (bq d))=[]:=by
   have:bq []=0:=rfl;rw[this,Int.zero_ediv];rfl
  rw[k,f];have v:decide (0<bq [])=false:=rfl;grind
 ·rw[if_neg a];have q:=Eg e l a;rw[decide_eq_true (show 0<bq n from q),Bool.and_true];rw[ζu,decide_eq_true_eq,decide_eq_true_eq];constructor
  ·intro h;injection h with h1 h2;injection h2 with h2 h3;have g:=(ec (show 0<=bq d / dV (bq n) (bq d) from δa (by omega) (by omega))).1;rw[h3] at g;by_cases t:dV (bq n) (bq d)=1;·exact t
   ·have:=Int.ediv_lt_self_of_pos_of_ne_one c (by omega:dV (bq n) (bq d)≠1);omega
  grind[sO]
def Eh:bL:=⟨93,bM,.one (dZ sF),λx=>(bB x.2.1/\bB x.2.2)/\x.2.1.length<=10000000/\x.2.2.length<=10000000,λx=> .sb (okF x)⟩
theorem h93:Holds Tryz.prog Eh:=by
 refine cq (L:=[Jg,Ec]) Eh lk (by grind[h124,h125]) ?_;rintro⟨s,n,d⟩ ⟨⟨m,k⟩,i,j⟩;refine bQ (let a:=γ0 false;let b:=(0:Int);let g:=γn (okF (s,n,d));let v:=decide ((↑d.length:Int)=b);let y:=decide ((↑n.length:Int)=b);let p:=λ(u:List Int) ↦let w:=decide ((↑u.length:Int)=(1:Int));(w=true->b<=b/\b<(↑u.length:Int)/\0<u.length/\(γn (decide (bp u 0 b=(1:Int)))).same g)/\(w=false->(a).same g);n.length<=1000000000/\((!mq n)=true->(a).same g)/\((!mq n)=false->d.length<=1000000000/\((!mq d)=true->(a).same g)/\((!mq d)=false->(v=true->(a).same g)/\(v=false->(y=true->((!s)=true->p d)/\((!s)=false->(a).same g))/\(y=false->((bB n/\bB d)/\(n.length<=100000000/\d.length<=100000000)/\dS d)/\p (bO (dV (bq n) (bq d)))))))) (by kernel_rfl) ?_;simp only[vcs];have m:bB n:=m;have k:bB d:=k;have i:n.length<=10000000:=i;have j:d.length<=10000000:=j;have c:¬(dS n/\dS d/\d≠[])->false=okF (s,n,d):=λh=>by
  grind[RY]
 have e:∀{a:List Int},((a.length:Nat):Int)=0->a=[]:=λh=>π (by omega);have b:∀{a:List Int},¬((a.length:Nat):Int)=0->a≠[]:=λh f=>h (by rw[f];rfl);refine⟨by omega,λt=>c λh=>?_,λt=>⟨by omega,λf=>c λh=>?_,λf=>⟨λl=>c λh=>h.2.2 (e l),λl=>?_⟩⟩⟩;·grind[ot]
 ·grind[ot]
 have z:=okF_eq (s:=s) m k (ot.1 t) (ot.1 f) (b l);have A:=@Jm (bq n) (bq d) (Eg k (ot.1 f) (b l));obtain⟨F,E,C⟩:=ec (show 0<=dV (bq n) (bq d) by omega);rw[z];have o:∀{a:List Int},((a.length:Nat):Int)=1->a=[bp a 0 0]:=λ{a} h=>by
  match a,h with
  |[x],_=>rfl;|[],h=>simp at h;|_::_::_,h=>grind
 refine⟨λq=>?_,λq=>?_⟩;·grind
 ·rw[if_neg (b q)];refine⟨⟨⟨m,k⟩,⟨by omega,by omega⟩,ot.1 f⟩,λr=>⟨by omega,by omega,by omega,?_⟩,λr=>?_⟩
  ·have B:=o r;have D:=@RX (dV (bq n) (bq d)) (by omega);grind
  grind[RX]
theorem rJ {p q:Rat}:gI p q<0↔p<q:=by
 unfold gI;grind
def ky (D:Int->Int) (x y:Int):Bool:=decide (D y<D x)||(decide (D x=D y)&&decide (x<=y))
theorem AA {D:Int->Int} {x y:Int}:ky D x y=true↔D y<D x\/(D x=D y/\x<=y):=by grind[ky]
theorem RZ {D:Int->Int} (a b c:Int) (d:ky D a b=true) (e:ky D b c=true):ky D a c=true:=by
 grind[AA]
theorem abQ {D:Int->Int} (a b:Int):(ky D a b||ky D b a)=true:=by
 grind[AA]
theorem abR {D:Int->Int} {a b:Int} (c:ky D a b=true) (d:ky D b a=true):a=b:=by
 grind[AA]
abbrev uB (D:Int->Int) (l:List Int):Prop:=l.Pairwise λa b=>ky D a b=true
def ew (D:Int->Int) (l:List Int):List Int:=l.mergeSort (ky D)
theorem AB {D:Int->Int} {l:List Int}:(ew D l).Perm l:=List.mergeSort_perm _ _
theorem R1 {D:Int->Int} {l:List Int}:uB D (ew D l):=List.pairwise_mergeSort RZ abQ l
theorem sU {D:Int->Int} {l:List Int}:(ew D l).length=l.length:=AB.length_eq
theorem Jn {D:Int->Int} {l:List Int} {x:Int}:x∈ew D l↔x∈l:=AB.mem_iff
theorem R7 {D:Int->Int} {l m:List Int} (e:m.Perm l) (f:uB D m):m=ew D l:=
 List.Perm.eq_of_pairwise (λa b _ _ c d=>abR c d) f R1 (e.trans AB.symm)
theorem abS {D:Int->Int} {l:List Int} (h:uB D l):ew D l=l:=(R7 (ζC _) h).symm
def seg (l:List Int) (a b:Nat):List Int:=(l.drop a).take (b - a)
def ik (D:Int->Int) (l:List Int) (a b:Nat):List Int:=l.take a++ew D (seg l a b)++l.drop b
theorem vW {l:List Int} {a b:Nat} (c:a<=b) (d:b<=l.length):(seg l a b).length=b - a:=by
 grind[seg]
theorem Jo {l:List Int} {a b:Nat} (c:a<=b) (d:b<l.length):seg l a (b+1)=seg l a b++[bp l b 0]:=by
 unfold seg;rw[show b+1 - a=(b - a)+1 by omega,List.take_succ_eq_append_getElem (by grind),List.getElem_drop];grind[dj]
theorem R9 {l:List Int} {a:Nat}:seg l a a=[]:=by grind[seg]
theorem Si {D:Int->Int} {l:List Int} {a b:Nat} (c:a<=b) (d:b<=l.length):(ik D l a b).length=l.length:=by
 grind[ik,sU,vW]
theorem Sj {l:List Int} {i:Nat} (h:i<l.length):l.drop i=bp l i 0::l.drop (i+1):=by
 simp_all[dj]
theorem Sl {D:Int->Int} {l:List Int} {a:Nat}:ik D l a a=l:=by
 simp_all[ik,R9,ew]
theorem abT {D:Int->Int} {l:List Int} {a:Nat} (h:a<l.length):ik D l a (a+1)=l:=by
 have e:seg l a (a+1)=[bp l a 0]:=by grind[Jo,R9]
 unfold ik;rw[e,abS (by simp),γ4];simp only[List.singleton_append];rw[<-Sj h,γK]
def lu (D:Int->Int) (l:List Int) (a i j:Nat):List Int:=l.take a++((ew D (seg l a i)).take (j - a)++bp l i 0::(ew D (seg l a i)).drop (j - a))++l.drop (i+1)
theorem abU {D:Int->Int} {l:List Int} {a i j:Nat} (b:a<=i) (c:i<l.length):(lu D l a i j).length=l.length:=by
 grind[sU,vW,lu]
theorem abV {D:Int->Int} {l:List Int} {a i:Nat} (b:a<=i) (c:i<l.length):lu D l a i i=ik D l a i:=by
 grind[sU,vW,lu,ik,Sj]
theorem abW {A B:List Int} {y x:Int}:((A++y::x::B).set (A.length+1) y).set A.length x=A++x::y::B:=by
 simp_all
theorem abX {A B:List Int} {y:Int}:bp (A++y::B) A.length 0=y:=by grind[bp]
theorem abY {A B:List Int} {y x:Int}:bp (A++y::x::B) (A.length+1) 0=x:=by grind[bp]
theorem abZ {D:Int->Int} {l:List Int} {a i k:Nat} (c:a+k+1<=i) (d:i<l.length):
  lu D l a i (a+k+1)=(l.take a++(ew D (seg l a i)).take k)++bp (ew D (seg l a i)) k 0::bp l i 0::((ew D (seg l a i)).drop (k+1)++l.drop (i+1))/\
  lu D l a i (a+k)=(l.take a++(ew D (seg l a i)).take k)++bp l i 0::bp (ew D (seg l a i)) k 0::((ew D (seg l a i)).drop (k+1)++l.drop (i+1))/\
  (l.take a++(ew D (seg l a i)).take k).length=a+k:=by
 have b:=@sU D (seg l a i);rw[vW (by omega) (by omega)] at b;have e:k<(ew D (seg l a i)).length:=by omega
 have g:(ew D (seg l a i)).take (k+1)=(ew D (seg l a i)).take k++[bp (ew D (seg l a i)) k 0]:=by simp_all[dj]
 have f:(ew D (seg l a i)).drop k=bp (ew D (seg l a i)) k 0::(ew D (seg l a i)).drop (k+1):=by simp_all[dj]
 grind[lu]
theorem ab0 {D:Int->Int} {l:List Int} {a i j:Nat} (g:a<j) (f:j<=i) (d:i<l.length):
  bp (lu D l a i j) j 0=bp l i 0/\bp (lu D l a i j) (j - 1) 0=bp (ew D (seg l a i)) (j - 1 - a) 0/\
  ((lu D l a i j).set j (bp (ew D (seg l a i)) (j - 1 - a) 0)).set (j - 1) (bp l i 0)=lu D l a i (j - 1):=by
 obtain⟨b,c,e⟩:=@abZ D l a i (j - 1 - a) (by omega) d;rw[show a+(j - 1 - a)+1=j by omega] at b;rw[show a+(j - 1 - a)=j - 1 by omega] at c e;rw[b,c];generalize l.take a++(ew D (seg l a i)).take (j - 1 - a)=A at*;generalize bp (ew D (seg l a i)) (j - 1 - a) 0=y at*;generalize bp l i 0=x at*;grind[abY,abX,abW]
theorem ab1 {D:Int->Int} {S:List Int} {x:Int} {k:Nat} (n:uB D S) (d:∀s∈S.drop k,ky D x s=true) (b:k=0\/(k<=S.length/\ky D (bp S (k - 1) 0) x=true)):uB D (S.take k++x::S.drop k):=by
 have a:uB D (S.take k++S.drop k):=by simp_all
 obtain⟨g,f,i⟩:=δ1.1 a;have j:∀s∈S.take k,ky D s x=true:=by
  rcases b with rfl|⟨h,b⟩;·simp
  ·intro s l;by_cases m:k=0;·simp_all
   have c:k - 1<S.length:=by omega
   have e:S.take k=S.take (k - 1)++[bp S (k - 1) 0]:=by
    conv=>lhs;rw[show k=(k - 1)+1 by omega]
    simp_all[dj]
   grind[RZ]
 rw[uB,δ1];simp_all
theorem ab2 {S:List Int} {x:Int} {k:Nat}:(S.take k++x::S.drop k).Perm (S++[x]):=by
 refine(List.perm_middle).trans ?_;rw[γK];grind
theorem ab3 {D:Int->Int} {l:List Int} {a i j:Nat} (k:a<=j) (f:j<=i) (e:i<l.length) (b:∀s∈(ew D (seg l a i)).drop (j - a),ky D (bp l i 0) s=true) (g:j=a\/ky D (bp (ew D (seg l a i)) (j - 1 - a) 0) (bp l i 0)=true):
  lu D l a i j=ik D l a (i+1):=by
 have c:=@sU D (seg l a i);rw[vW (by omega) (by omega)] at c;have d:uB D ((ew D (seg l a i)).take (j - a)++bp l i 0::(ew D (seg l a i)).drop (j - a)):=by
  refine ab1 R1 b ?_;grind
 have h:((ew D (seg l a i)).take (j - a)++bp l i 0::(ew D (seg l a i)).drop (j - a)).Perm (seg l a (i+1)):=by
  rw[Jo (by omega) e];exact ab2.trans (List.Perm.append AB (ζC _))
 grind[lu,ik,R7]
def Jp:bL:=⟨123,Int,.one (ef .i64),λ_=>True,λ_=> .sb false⟩
theorem h334:Holds Tryz.prog Jp:=by
 refine cq (L:=[]) Jp lk (by simp) ?_;rintro(x:Int) -;refine bQ ((γn (decide (x≠x))).same (γn false)) (by kernel_rfl) ?_;simp_all
def yg (x y:Int):Int:=if x<y then -1 else if y<x then 1 else 0
def Jq:bL:=⟨85,Int×Int,.cons (ef .i64) (.one (ef .i64)),λ_=>True,λa=> .si .i64 (yg a.1 a.2)⟩
theorem h321:Holds Tryz.prog Jq:=by
 refine cq (L:=[Jp]) Jq lk (by grind[h334]) ?_;rintro⟨x,y⟩ -;refine bQ (let b:=γo .i64;let c:=γo .i64 0;let a:=Ω .i64 (yg x y);True/\True/\(false=true->(false=true->(b 0).same a)/\(false=false->(b (-1:Int)).same a))/\(false=false->(false=true->(b 1).same a)/\(false=false->(decide (x<y)=true->(b (-1:Int)).same a)/\(decide (x<y)=false->(decide (y<x)=true->(b 1).same a)/\(decide (y<x)=false->(b 0).same a))))) (by kernel_rfl) ?_;simp_all[yg,if_neg]
def vX (b:bG):Int:=b.a0+b.a1+b.a2+b.a3+b.a4+b.a5
def Jr:bL:=⟨86,bG,.one (dZ .eL),λb=>b.ok=true,λb=> .si .i64 (vX b)⟩
theorem h322:Holds Tryz.prog Jr:=by
 refine cq (L:=[]) Jr (λ_ _=> .ry 7) (by simp) ?_;rintro(b:bG) (h:b.ok=true);have h:=bG.jM.1 h;refine bQ (let d:=bU .i64;let a:=(0:Int)+b.a0+b.a1;let c:=a+b.a2+b.a3+b.a4;d ((0:Int)+b.a0)/\d a/\d (a+b.a2)/\d (a+b.a2+b.a3)/\d c/\d (c+b.a5)/\(Ω .i64 (c+b.a5)).same (Ω .i64 (vX b))) (by kernel_rfl) ?_;simp only[vcs];unfold vX;omega
def oI (p:bz) (i:Int):Off:=bp p.offers i.toNat bw.off.dflt
def rK (p:bz) (i:Int):Int:=(oI p i).value
def pW (p:bz) (i:Int):Int:=vX (oI p i).want
def fJ (p:bz) (i:Int):Int:=rK p i*(5354228880 / pW p i)
def mQ (p:bz) (i:Int):Prop:=0<=i/\i<p.offers.length
theorem AE {p:bz} (b:bH p=0) {i:Int} (h:mQ p i):(1<=rK p i/\rK p i<=1000000)/\(1<=pW p i/\pW p i<=24)/\(oI p i).want.ok=true:=by
 obtain⟨j,k⟩:=h;have c:=dn (d:=bw.off.dflt) (show i.toNat<p.offers.length by omega);have a:=(dR b).2.2.2.2 _ c;have g:=(Dm ((vI b).2 _ c)).2.1;have e:=bG.jM.1 a.2.2.1;have f:¬((oI p i).want.a0=0/\(oI p i).want.a1=0/\(oI p i).want.a2=0/\(oI p i).want.a3=0/\(oI p i).want.a4=0/\(oI p i).want.a5=0):=λh=>g (Db.2 h);have e:(0<=(oI p i).want.a0/\(oI p i).want.a0<=4)/\(0<=(oI p i).want.a1/\(oI p i).want.a1<=4)/\(0<=(oI p i).want.a2/\(oI p i).want.a2<=4)/\(0<=(oI p i).want.a3/\(oI p i).want.a3<=4)/\(0<=(oI p i).want.a4/\(oI p i).want.a4<=4)/\(0<=(oI p i).want.a5/\(oI p i).want.a5<=4):=e;refine⟨⟨a.2.2.2.1,a.2.2.2.2⟩,?_,a.2.2.1⟩;unfold pW vX;omega
theorem Sm {t:Int} (a:1<=t) (b:t<=24):t*(5354228880 / t)=5354228880/\1<=5354228880 / t:=by
 have:t=1\/t=2\/t=3\/t=4\/t=5\/t=6\/t=7\/t=8\/t=9\/t=10\/t=11\/t=12\/t=13\/t=14\/t=15\/t=16\/t=17\/t=18\/t=19\/t=20\/t=21\/t=22\/t=23\/t=24:=by omega
 rcases this with rfl|rfl|rfl|rfl|rfl|rfl|rfl|rfl|rfl|rfl|rfl|rfl|rfl|rfl|rfl|rfl|rfl|rfl|rfl|rfl|rfl|rfl|rfl|rfl<;>decide
theorem ab4 {p:bz} (g:bH p=0) {x y:Int} (j:mQ p x) (i:mQ p y):fJ p x<fJ p y↔rK p x*pW p y<rK p y*pW p x:=by
 obtain⟨m,e,_⟩:=AE g j;obtain⟨u,f,_⟩:=AE g i;obtain⟨v,q⟩:=Sm e.1 e.2;obtain⟨o,r⟩:=Sm f.1 f.2;unfold fJ;generalize 5354228880 / pW p x=d at*;generalize 5354228880 / pW p y=c at*;generalize rK p x=a at*;generalize rK p y=b at*;generalize pW p x=s at*;generalize pW p y=t at*;have k:0<d*c:=Int.mul_pos (by omega) (by omega);have l:(a*t)*(d*c)=(a*d)*5354228880:=by grind
 have n:(b*s)*(d*c)=(b*c)*5354228880:=by grind
 constructor
 ·intro h;have:(a*t)*(d*c)<(b*s)*(d*c):=by omega
  exact Int.lt_of_mul_lt_mul_right this (by omega)
 ·intro h;have:(a*t)*(d*c)<(b*s)*(d*c):=γN h k;omega
def AG (p:bz) (x y:Int):Int:=yg (rK p y*pW p x) (rK p x*pW p y)
theorem ab5 {p:bz} (a:bH p=0) {x y:Int} (c:mQ p x) (b:mQ p y):AG p x y<0↔fJ p y<fJ p x:=by
 rw[ab4 a b c];grind[AG,yg]
def Js:dD where
 f:=84;α:=Int×Int×bz;put a:=[.si .i64 a.1,.si .i64 a.2.1,.ptr 0 0 20];st a:=[.cells a.2.2.ss 27 20 false];dec v o:=match v,o with
  |[x,y,.ptr 0 0 20],[.cells e 27 20 false]=>match x.int .i64,y.int .i64,vE e with
   |some x,some y,some p=>some (x,y,p)
   |_,_,_=>none
  |_,_=>none;ok v o a h:=by
  split at h
  ·split at h
   ·rename_i c d i;simp only[γ] at h;subst h;refine⟨by simp only[gL,iP c,iP d];rfl,?_⟩;grind[gO,bA.g,zQ]
   ·cases h
  ·cases h
 inj a b c d:=by
  simp only[gL,Ξ,and_true,SV.g,γ7,Value.int.injEq,true_and] at c;simp only[gO,φ,γv,bA.g,Ξ,bW.cells.injEq,and_true] at d;grind[dO,SV.g]
 dom a:=bH a.2.2=0/\mQ a.2.2 a.1/\mQ a.2.2 a.2.1;res a:=.si .i64 (AG a.2.2 a.1 a.2.1);out a:=[.cells a.2.2.ss 27 20 false]
theorem h320:eu Tryz.prog Js:=by
 refine lp (L:=[Jr,Jq]) (W:=[]) Js lk (by simp) (by grind[h322,h321]) ?_;rintro⟨x,y,p⟩ ⟨f,e,c⟩;refine bQ (let a:=bw.off.dflt;let d:=p.offers.length;let g:=bp p.offers x.toNat a;let h:=bp p.offers y.toNat a;let k:=h.value*vX g.want;let l:=g.value*vX h.want;let j:=bA.cells (bz.ss p) 27 20 false;(0:Int)<=x/\x<(↑d:Int)/\x.toNat<d/\(0:Int)<=y/\y<(↑d:Int)/\y.toNat<d/\g.want.ok=true/\bU .i64 k/\h.want.ok=true/\bU .i64 l/\True/\(Ω .i64 (yg k l)).same (Ω .i64 (AG p x y))/\j.same j/\True) (by kernel_rfl) ?_;simp only[vcs];have f:bH p=0:=f;have e:mQ p x:=e;have c:mQ p y:=c;obtain⟨s,w,q⟩:=AE f e;obtain⟨m,A,z⟩:=AE f c;obtain⟨o,n⟩:=e;obtain⟨B,r⟩:=c;have i:∀{v t:Int},1<=v/\v<=1000000->1<=t/\t<=24-> -9223372036854775808<=v*t/\v*t<=9223372036854775807:=λ{v t} C u=>by
  have a:=γh (show 0<=v by omega) (show 0<=t by omega);have b:=δy C.2 u.2 (by omega) (show(0:Int)<=1000000 by omega);omega
 exact⟨o,n,by omega,B,r,by omega,q,i m w,z,i s A,rfl⟩
def yh:Nat->List SV->Option (List Int)
 |0,[.fn (.func 84) [] [.ptr 1 0 20]]=>some []
 |k+1,x::r=>match x.int .i64,yh k r with
  |some n,some l=>some (n::l)
  |_,_=>none
 |_,_=>none
theorem Sr:∀{k:Nat} {r:List SV} {l:List Int},yh k r=some l->gL r=gL (l.map (Ω .i64)++[.fn (.func 84) [] [.ptr 1 0 20]])
 |0,r,l,h=>by
  unfold yh at h;split at h;·simp only[γ] at h;subst h;rfl
  ·rename_i h0;cases h0
  ·cases h;|k+1,[],l,h=>by simp[yh] at h;|k+1,x::r,l,h=>by
  simp only[yh] at h;split at h
  ·rename_i n l' h1 h2;simp only[γ] at h;subst h;simp only[gL,φ,γC,Sr h2,iP h1];rfl
  ·cases h
theorem Ss:∀{l m:List Int} {z:List SV},l.length=m.length->gL (l.map (Ω .i64)++z)=gL (m.map (Ω .i64)++z)->l=m
 |[],[],_,_,_=>rfl
 |[],_::_,_,h,_=>by simp at h;|_::_,[],_,h,_=>by simp at h;|x::l,y::m,z,hl,h=>by
  simp only[φ,γC,gL,Ξ,SV.g,γ7,Value.int.injEq,true_and] at h;rw[h.1,Ss (by simpa using hl) h.2]
def Jt (f:FuncId) (k:Nat) (β:Type) (AH:β->List Int) (Sv:List Int->Option β) (h0:∀b,(AH b).length=k) (h1:∀l b,Sv l=some b->l=AH b) (h2:∀b c,AH b=AH c->b=c) (dom:(Nat×List Int×bz)×β->Prop) (out:(Nat×List Int×bz)×β->List Int):dD where
 f:=f;α:=(Nat×List Int×bz)×β;put a:=.ow 0 a.1.1 1::((AH a.2).map (Ω .i64)++[.fn (.func 84) [] [.ptr 1 0 20]]);st a:=[.row (.i .i64) a.1.2.1 3 true,.cells a.1.2.2.ss 27 20 false];dec v o:=match v,o with
  | .ow 0 n 1::r,[.row t l 3 true,.cells cs 27 20 false]=>match yh k r,iF t (.i .i64) l,vE cs with
   |some xs,some l,some p=>match Sv xs with
    |some b=>some ((n,l,p),b)
    |none=>none
   |_,_,_=>none
  |_,_=>none;ok v o a h:=by
  split at h
  ·split at h
   ·rename_i h3 h4 h5;split at h
    ·rename_i b hb;simp only[γ] at h;subst h;obtain⟨rfl,hh⟩:=mM h4;cases hh;have:=h1 _ _ hb;subst this;refine⟨by simp only[gL,Sr h3],?_⟩;simp only[gO,φ,γv,bA.g,zQ h5]
    ·cases h
   ·cases h
  ·cases h
 inj a b e1 e2:=by
  obtain⟨⟨n,l,p⟩,x⟩:=a;obtain⟨⟨n',l',p'⟩,x'⟩:=b;simp only[gL,Ξ,SV.g,AV.os.injEq,true_and] at e1;simp only[gO,φ,γv,bA.g,Ξ,bW.cells.injEq,and_true,true_and] at e2;have h3:p=p':=dO.inj p p' (by simp only[dO,SV.g,e2.2]);have h4:l=l':=by
   have hf:=congrArg Φ e2.1;rw[ff,ff] at hf;exact lG (.i .i64) (by simpa[bw.sz] using hf) e2.1
  have h5:x=x':=h2 _ _ (Ss (by rw[h0,h0]) e1.2);rw[e1.1.1,h3,h4,h5]
 dom:=dom;res _:=.bN [];out a:=[.row (.i .i64) (out a) 3 true,.cells a.1.2.2.ss 27 20 false]
abbrev Srg:=Nat×List Int×bz
def AI (b:Int×Int):List Int:=[b.1,b.2]
def Ju:List Int->Option (Int×Int)
 |[a,b]=>some (a,b)
 |_=>none
theorem ab7:∀l b,Ju l=some b->l=AI b:=λl b h=>by
 unfold Ju at h;split at h;·simp only[γ] at h;subst h;rfl
 ·cases h
theorem ab8:∀b c,AI b=AI c->b=c:=λb c h=>by
 unfold AI at h;simp only[Ξ,and_true] at h;exact εS h.1 h.2
def vY (a:Srg):Prop:=(bH a.2.2=0/\a.1=a.2.1.length)/\a.2.1.length<=1000/\∀x∈a.2.1,mQ a.2.2 x
def Jv (l:List Int) (a b:Int):Prop:=0<=a/\a<=b/\b<=l.length
theorem SA {l m:List Int} (h:l=m):(bA.row (.i .i64) l 3 true).same (bA.row (.i .i64) m 3 true):=by subst h;rfl
def Jw:dD:=Jt 152 2 (Int×Int) AI Ju (λ_=>rfl) ab7 ab8 (λa=>vY a.1/\Jv a.1.2.1 a.2.1 a.2.2/\(seg a.1.2.1 a.2.1.toNat a.2.2.toNat).Pairwise (·<·)) λa=>ik (fJ a.1.2.2) a.1.2.1 a.2.1.toNat a.2.2.toNat
def ab9 (n:Nat) (l:List Int) (p:bz) (a b:Int):Nat->cC
 |1=> .inv (Int×List Int) (λx=>⟨[(0,.ow 0 n 1),(1,.si .i64 a),(2,.si .i64 b),(3,.fn (.func 84) [] [.ptr 1 0 20]),(8,.si .i64 x.1)],[.row (.i .i64) x.2 3 true,.cells p.ss 27 20 false]⟩) (λs=>(iS s 8,oS (.i .i64) s 0))
   (λx=>(a<x.1/\(x.1<=b\/x.1=a+1))/\x.2=ik (fJ p) l a.toNat (if a<b then x.1 else a).toNat) (λx=>(b - x.1).toNat) λx k=>match k with
    |4=> .inv (Int×List Int) (λy=>⟨[(0,.ow 0 n 1),(1,.si .i64 a),(2,.si .i64 b),(3,.fn (.func 84) [] [.ptr 1 0 20]),(8,.si .i64 x.1),(9,.si .i64 y.1)],[.row (.i .i64) y.2 3 true,.cells p.ss 27 20 false]⟩) (λs=>(iS s 9,oS (.i .i64) s 0))
      (λy=>(a<=y.1/\y.1<=x.1)/\y.2=lu (fJ p) l a.toNat x.1.toNat y.1.toNat/\∀s∈(ew (fJ p) (seg l a.toNat x.1.toNat)).drop (y.1 - a).toNat,ky (fJ p) (bp l x.1.toNat 0) s=true) (λy=>(y.1 - a).toNat) λ_ _=> .look
    |_=> .look
 |_=> .look
theorem h343:eu Tryz.prog Jw:=by
 refine lp (L:=[]) (W:=[Js]) Jw (λa=>ab9 a.1.1 a.1.2.1 a.1.2.2 a.2.1 a.2.2) (by simpa using h320) (by simp) ?_;rintro⟨⟨n,l,p⟩,a,b⟩ ⟨⟨⟨hc,hn⟩,hl,ho⟩,⟨a0,a1,a2⟩,hi⟩;refine bQ (let c:=Ω .i64;let d:=(0:Int);let e:=bU .i64;let f:=bA.row;let g:=(1:Int);let m:=a+g;let o:=γz 0 n 1;let q:=SV.fn (Fn.func 84) [] [γU 1 0 20];let E:=c m;let w:=bw.i .i64;let F:=f w l 3 true;let k:=bA.cells [c p.supply.a0,c p.supply.a1,c p.supply.a2,c p.supply.a3,c p.supply.a4,c p.supply.a5,c p.opn.a0,c p.opn.a1,c p.opn.a2,c p.opn.a3,c p.opn.a4,c p.opn.a5,c p.cls.a0,c p.cls.a1,c p.cls.a2,c p.cls.a3,c p.cls.a4,c p.cls.a5,Δ w p.classes,Δ bw.off p.offers] 27 20 false;e m/\(((o.same o/\(c a).same (c a)/\(c b).same (c b)/\q.same q/\E.same E/\True)/\F.same F/\k.same k/\True)/\(a<m/\(m<=b\/m=m))/\l=ik (fJ p) l a.toNat (if a<b then m else a).toNat)/\∀(x:Int×List Int),let y:=c x.fst;let B:=f w x.snd 3 true;let r:=x.fst.toNat;let C:=ew (fJ p) (seg l a.toNat r);let t:=x.fst+g;let G:=c t;let N:=ik (fJ p) l a.toNat (if a<b then t else a).toNat;(a<x.fst/\(x.fst<=b\/x.fst=m))/\x.snd=ik (fJ p) l a.toNat (if a<b then x.fst else a).toNat->(decide (x.fst<b)=true->(((o.same o/\(c a).same (c a)/\(c b).same (c b)/\q.same q/\y.same y/\y.same y/\True)/\B.same B/\k.same k/\True)/\(a<=x.fst/\x.fst<=x.fst)/\x.snd=lu (fJ p) l a.toNat r r/\∀(s:Int),s∈γ3 (x.fst - a).toNat C->ky (fJ p) (bp l r d) s=true)/\∀(x_1:Int×List Int),let H:=f w x_1.snd 3 true;let v:=x_1.fst.toNat;let D:=bp x_1.snd v d;let j:=x_1.fst - g;let z:=j.toNat;let A:=bp x_1.snd z d;let h:=x_1.snd.length;let z23:Nat:=(x_1.snd.set v A).length;let I:=c j;let J:=(x_1.snd.set v A).set z D;let K:=f w J 3 true;let L:=e t/\((o.same o/\(c a).same (c a)/\(c b).same (c b)/\q.same q/\G.same G/\True)/\H.same H/\k.same k/\True)/\((a<t/\(t<=b\/t=m))/\x_1.snd=N)/\(b - t).toNat<(b - x.fst).toNat;let M:=λ(u:Bool) ↦decide (AG p D A<d)=u;((a<=x_1.fst/\x_1.fst<=x.fst)/\x_1.snd=lu (fJ p) l a.toNat r v/\∀(s:Int),s∈γ3 (x_1.fst - a).toNat C->ky (fJ p) (bp l r d) s=true)->(decide (a<x_1.fst)=true->n=h/\d<=x_1.fst/\x_1.fst<(↑h:Int)/\n=h/\v<h/\e j/\n=h/\d<=j/\j<(↑h:Int)/\n=h/\z<h/\(bH p=d/\mQ p D/\mQ p A)/\(M true->e j/\e j/\n=h/\d<=j/\j<(↑h:Int)/\n=h/\z<h/\n=h/\d<=x_1.fst/\x_1.fst<(↑h:Int)/\n=h/\v<h/\n=h/\d<=x_1.fst/\x_1.fst<(↑h:Int)/\n=h/\v<h/\n=z23/\d<=j/\j<(↑z23:Int)/\n=z23/\z<z23/\e j/\((o.same o/\(c a).same (c a)/\(c b).same (c b)/\q.same q/\y.same y/\I.same I/\True)/\K.same K/\k.same k/\True)/\((a<=j/\j<=x.fst)/\J=lu (fJ p) l a.toNat r z/\∀(s:Int),s∈γ3 (j - a).toNat C->ky (fJ p) (bp l r d) s=true)/\(j - a).toNat<(x_1.fst - a).toNat)/\(M false->L))/\(decide (a<x_1.fst)=false->L))/\(decide (x.fst<b)=false->(SV.bN []).same (SV.bN [])/\B.same (f w (ik (fJ p) l a.toNat b.toNat) 3 true)/\k.same k/\True)) (by kernel_rfl) ?_;simp only[vcs];have hc:bH p=0:=hc;have hn:n=l.length:=hn;have hl:l.length<=1000:=hl;have ho:∀x∈l,mQ p x:=ho;have a0:0<=a:=a0;have a1:a<=b:=a1;have a2:b<=l.length:=a2;have hi:(seg l a.toNat b.toNat).Pairwise (·<·):=hi;generalize hD:fJ p=D at*;have sl:∀{i:Int},a<=i->i<=b->(ik D l a.toNat i.toNat).length=l.length:=λh1 h2=>Si (by omega) (by omega);refine⟨by omega,⟨⟨by omega,.inr trivial⟩,?_⟩,?_⟩
 ·by_cases hab:a<b;·rw[if_pos hab,show(a+1).toNat=a.toNat+1 by omega,abT (by omega)]
  ·rw[if_neg hab,Sl]
 rintro⟨i,m⟩ ⟨⟨i0,i1⟩,hm⟩;simp only at i0 i1 hm ⊢;refine⟨λhib=>?_,λhib=>SA ?_⟩
 ·rw[if_pos (by omega)] at hm;have hx:=ho _ (dn (d:=(0:Int)) (show i.toNat<l.length by omega));have hS:∀s∈ew D (seg l a.toNat i.toNat),s<bp l i.toNat 0/\mQ p s:=λs hs=>by
   have h1:=Jn.1 hs;have h2:(seg l a.toNat (i.toNat+1)).Pairwise (·<·):=by
    refine hi.sublist ?_;unfold seg;exact List.take_sublist_take_left (by omega)
   rw[Jo (by omega) (by omega)] at h2;refine⟨(δ1.1 h2).2.2 s h1 _ (by simp),ho s ?_⟩;unfold seg at h1;exact γW (γi h1)
  have hSl:(ew D (seg l a.toNat i.toNat)).length=i.toNat - a.toNat:=by rw[sU,vW (by omega) (by omega)]
  have il:∀{j:Nat},(lu D l a.toNat i.toNat j).length=l.length:=λ{j}=>abU (by omega) (by omega);refine⟨⟨⟨by omega,by omega⟩,?_,?_⟩,?_⟩;·rw[hm,abV (by omega) (by omega)]
  ·intro s hs;rw[List.drop_of_length_le (by omega)] at hs;simp at hs
  rintro⟨j,m2⟩ ⟨⟨j0,j1⟩,hm2,hle⟩;simp only at j0 j1 hm2 hle ⊢;subst hm2;simp only[List.length_set,il];have fin:(j=a\/ky D (bp (ew D (seg l a.toNat i.toNat)) (j.toNat - 1 - a.toNat) 0) (bp l i.toNat 0)=true)->lu D l a.toNat i.toNat j.toNat=ik D l a.toNat (if a<b then i+1 else a).toNat:=λh=>by
   rw[if_pos (by omega),show(i+1).toNat=i.toNat+1 by omega];refine ab3 (by omega) (by omega) (by omega) ?_ ?_;·rw[show j.toNat - a.toNat=(j - a).toNat by omega];exact hle
   ·rcases h with h|h;·exact .inl (by omega)
    ·exact .inr h
  refine⟨λhj=>?_,λhj=>?_⟩
  ·obtain⟨k1,k2,k3⟩:=@ab0 D l a.toNat i.toNat j.toNat (by omega) (by omega) (by omega);have ej:(j - 1).toNat=j.toNat - 1:=by omega
   rw[ej,k1,k2,k3];have hs:=dn (d:=(0:Int)) (show j.toNat - 1 - a.toNat<(ew D (seg l a.toNat i.toNat)).length by omega);obtain⟨s1,s2⟩:=hS _ hs;have hcmp:=ab5 hc hx s2;rw[hD] at hcmp;rw[hcmp];refine⟨by omega,by omega,by omega,by omega,by omega,by omega,by omega,by omega,by omega,by omega,by omega,⟨hc,hx,s2⟩,λh1=>?_,λh1=>?_⟩
   ·repeat' refine γe ?_ ?_
    all_goals first|omega|rfl|skip
    intro s hs2;rw[show(j - 1 - a).toNat=j.toNat - 1 - a.toNat by omega,List.drop_eq_getElem_cons (show j.toNat - 1 - a.toNat<(ew D (seg l a.toNat i.toNat)).length by omega)] at hs2;rcases List.mem_cons.1 hs2 with rfl|hs2
    ·rw[<-dj (d:=(0:Int))];exact AA.2 (.inl h1)
    ·refine hle s ?_;rw[show(j - a).toNat=j.toNat - 1 - a.toNat+1 by omega];exact hs2
   ·have:=fin (.inr (AA.2 (by omega)));repeat' refine γe ?_ ?_
    all_goals first|omega|exact this|rfl
  ·have:=fin (.inl (by omega));repeat' refine γe ?_ ?_
   all_goals first|omega|exact this|rfl
 ·rw[hm];by_cases hab:a<b;·rw[if_pos hab,show i=b by omega]
  ·rw[if_neg hab,show a=b by omega]
theorem acd {l:List Int} {a b:Nat} {x:Int} (h:x∈seg l a b):x∈l:=by
 unfold seg at h;exact γW (γi h)
theorem ace {D:Int->Int} {l:List Int} {a b:Nat} {x:Int} (h:x∈ik D l a b):x∈l:=by
 unfold ik at h;simp only[List.mem_append] at h;rcases h with(h|h)|h;·exact γi h
 ·exact acd (Jn.1 h)
 ·exact γW h
def AK (b:Int):List Int:=[b]
def Jx:List Int->Option Int
 |[a]=>some a
 |_=>none
theorem acf:∀l b,Jx l=some b->l=AK b:=λl b h=>by
 unfold Jx at h;split at h;·simp only[γ] at h;subst h;rfl
 ·cases h
theorem acg:∀b c,AK b=AK c->b=c:=λb c h=>by
 simp_all[AK]
def Ei (_:Unit):List Int:=[]
def Jy:List Int->Option Unit
 |[]=>some ()
 |_=>none
theorem ach:∀l b,Jy l=some b->l=Ei b:=λl b h=>by
 unfold Jy at h;split at h;·rfl
 ·cases h
theorem aci:∀b c,Ei b=Ei c->b=c:=λ_ _ _=>rfl
theorem SB {D:Int->Int} {l:List Int} {n:Nat} (h:n=l.length):ik D l 0 n=ew D l:=by
 grind[ik,seg]
theorem acj {D:Int->Int} {l:List Int} {b c d:Nat} (h:b<=c) (e:b<=l.length):seg (ik D l 0 b) c d=seg l c d:=by
 have a:(ew D (seg l 0 b)).length=b:=by grind[sU,vW]
 unfold ik;have:(l.take 0++ew D (seg l 0 b)++l.drop b).drop c=l.drop c:=by
  rw[List.take_zero,δO,List.drop_append,List.drop_eq_nil_of_le (by omega),δO,List.drop_drop,a,show b+(c - b)=c by omega]
 grind[seg]
def Jz:dD:=Jt 122 1 Int AK Jx (λ_=>rfl) acf acg (λa=>(vY a.1/\a.1.2.1.Pairwise (·<·))/\a.2=a.1.2.1.length/\a.1.2.1.length<=20) λa=>ew (fJ a.1.2.2) a.1.2.1
def acn (n:Nat) (l:List Int) (p:bz):Nat->cC
 |2=> .inv (Int×Int×List Int) (λx=>⟨[(0,.ow 0 n 1),(1,.si .i64 l.length),(2,.fn (.func 84) [] [.ptr 1 0 20]),(6,.si .i64 20),(7,.si .i64 x.1),(8,.si .i64 x.2.1)],[.row (.i .i64) x.2.2 3 true,.cells p.ss 27 20 false]⟩) (λs=>(iS s 7,iS s 8,oS (.i .i64) s 0))
   (λx=>x.2.1=x.1+20/\(x.1=0/\x.2.2=l\/x.1=20/\l.length=20/\x.2.2=ik (fJ p) l 0 20)) (λx=>(1000 - x.1).toNat) λ_ _=> .look
 |7=> .inv (Int×List Int) (λx=>⟨[(0,.ow 0 n 1),(1,.si .i64 l.length),(2,.fn (.func 84) [] [.ptr 1 0 20]),(6,.si .i64 x.1)],[.row (.i .i64) x.2 3 true,.cells p.ss 27 20 false]⟩) (λs=>(iS s 6,oS (.i .i64) s 0))
   (λx=>x.1=20/\x.2=ew (fJ p) l) (λx=>(1000 - x.1).toNat) λ_ _=> .look
 |_=> .look
theorem h333:eu Tryz.prog Jz:=by
 refine lp (L:=[]) (W:=[Jw]) Jz (λa=>acn a.1.1 a.1.2.1 a.1.2.2) (by simpa using h343) (by simp) ?_;rintro⟨⟨n,l,p⟩,N⟩ ⟨⟨⟨⟨hc,hn⟩,hl,ho⟩,hi⟩,hN,h20⟩;simp only at hc hn hl ho hi hN h20;subst hN;refine bQ (let a:=Ω .i64;let b:=(20:Int);let c:=bA.row;let d:=(0:Int);let e:=γo .i64;let g:=γz 0 n 1;let h:=(↑l.length:Int);let j:=a h;let k:=SV.fn (Fn.func 84) [] [γU 1 0 20];let m:=a 20;let v:=e 0;let o:=bw.i .i64;let w:=c o l 3 true;let f:=bA.cells [a p.supply.a0,a p.supply.a1,a p.supply.a2,a p.supply.a3,a p.supply.a4,a p.supply.a5,a p.opn.a0,a p.opn.a1,a p.opn.a2,a p.opn.a3,a p.opn.a4,a p.opn.a5,a p.cls.a0,a p.cls.a1,a p.cls.a2,a p.cls.a3,a p.cls.a4,a p.cls.a5,Δ o p.classes,Δ bw.off p.offers] 27 20 false;let s:=ik (fJ p) l 0 20;let t:=ew (fJ p) l;(((g.same g/\j.same j/\k.same k/\(e 20).same m/\v.same (a 0)/\(e 20).same m/\True)/\w.same w/\f.same f/\True)/\b=b/\(d=d/\l=l\/d=b/\l.length=20/\l=s))/\∀(x:Int×Int×List Int),let y:=decide (x.snd.fst<=h);let q:=x.fst.toNat;let r:=x.snd.fst+b;let z:=a x.snd.fst;let A:=a r;let u:=ik (fJ p) x.snd.snd q x.snd.fst.toNat;let B:=c o u 3 true;let C:=ik (fJ p) x.snd.snd q h.toNat;let D:=c o C 3 true;x.snd.fst=x.fst+b/\(x.fst=d/\x.snd.snd=l\/x.fst=b/\l.length=20/\x.snd.snd=s)->(y=true->(vY (n,x.snd.snd,p)/\Jv x.snd.snd x.fst x.snd.fst/\ζl (λx1 x2 ↦x1<x2) (seg x.snd.snd q x.snd.fst.toNat))/\bU .i64 r/\((g.same g/\j.same j/\k.same k/\m.same m/\z.same z/\A.same A/\True)/\B.same B/\f.same f/\True)/\(r=r/\(x.snd.fst=d/\u=l\/x.snd.fst=b/\l.length=20/\u=s))/\((1000:Int) - x.snd.fst).toNat<((1000:Int) - x.fst).toNat)/\(y=false->(vY (n,x.snd.snd,p)/\Jv x.snd.snd x.fst h/\ζl (λx1 x2 ↦x1<x2) (seg x.snd.snd q h.toNat))/\(((g.same g/\j.same j/\k.same k/\m.same m/\True)/\D.same D/\f.same f/\True)/\b=b/\C=t)/\∀(x:Int×List Int),let E:=c o x.snd 3 true;x.fst=b/\x.snd=t->(decide (x.fst<h)=true->bU .i64 ((2:Int)*x.fst)/\Look (cG.mk [(0,g),(1,j),(2,k),(6,a x.fst),(7,v),(8,a ((2:Int)*x.fst))] [E,f]))/\(decide (x.fst<h)=false->(SV.bN []).same (SV.bN [])/\E.same (c o t 3 true)/\f.same f/\True))) (by kernel_rfl) ?_;simp only[vcs];have pw:∀a b,(seg l a b).Pairwise (·<·):=λa b=>List.Pairwise.sublist ((List.take_sublist _ _).trans (List.drop_sublist _ _)) hi;have e0:((l.length:Int)).toNat=l.length:=by omega
 rw[e0];refine⟨.inl trivial,?_⟩;rintro⟨a,b,w⟩ ⟨hb,hw⟩;simp only at hb hw ⊢;subst hb;refine⟨λh=>?_,λh=>?_⟩
 ·rcases hw with⟨rfl,rfl⟩|⟨rfl,h2,rfl⟩;·refine⟨⟨⟨⟨hc,hn⟩,hl,ho⟩,⟨?_,?_,?_⟩,pw _ _⟩,?_,.inr ⟨?_,?_,rfl⟩,?_⟩<;>omega
  ·omega
 ·refine⟨?_,?_,?_⟩
  ·rcases hw with⟨rfl,rfl⟩|⟨rfl,h2,rfl⟩;·refine⟨⟨⟨hc,hn⟩,hl,ho⟩,⟨?_,?_,?_⟩,pw _ _⟩<;>omega
   ·have hw:=@Si (fJ p) l 0 20 (by omega) (by omega);exact⟨⟨⟨hc,by simp only[hw];exact hn⟩,by simp only[hw];exact hl,λx hx=>ho x (ace hx)⟩,⟨by omega,by omega,by rw[hw];omega⟩,by rw[acj (by omega) (by omega)];exact pw _ _⟩
  ·rcases hw with⟨rfl,rfl⟩|⟨rfl,h2,rfl⟩;·exact SB rfl
   ·rw[h2];show ik _ _ 20 20=_;rw[Sl];exact SB h2.symm
  ·rintro⟨s,w⟩ hw;simp only at hw ⊢;exact⟨λh=>by omega,λh=>SA hw.2⟩
def JA:dD:=Jt 83 0 Unit Ei Jy (λ_=>rfl) ach aci (λa=>(vY a.1/\a.1.2.1.Pairwise (·<·))/\a.1.2.1.length<=20) λa=>ew (fJ a.1.2.2) a.1.2.1
theorem h319:eu Tryz.prog JA:=by
 refine lp (L:=[]) (W:=[Jz]) JA lk (by simpa using h333) (by simp) ?_;rintro⟨⟨n,l,p⟩,u⟩ ⟨⟨⟨⟨hc,hn⟩,hl,ho⟩,hi⟩,h20⟩;simp only at hc hn hl ho hi h20;refine bQ (let a:=bA.row (bw.i .i64) (ew (fJ p) l) 3 true;let b:=bA.cells (bz.ss p) 27 20 false;((vY (n,l,p)/\ζl (λx1 x2 ↦x1<x2) l)/\(↑n:Int)=(↑l.length:Int)/\l.length<=20)/\(SV.bN []).same (SV.bN [])/\a.same a/\b.same b/\True) (by kernel_rfl) ?_;simp only[vcs];exact⟨⟨⟨⟨hc,hn⟩,hl,ho⟩,hi⟩,by omega,h20⟩
def dL (n:Nat):List Int:=(List.range n).map λi:Nat=>(i:Int)
theorem jw {n:Nat}:(dL n).length=n:=by simp[dL]
theorem vZ {n:Nat}:dL (n+1)=dL n++[(n:Int)]:=by simp[dL,List.range_succ]
theorem AL {n:Nat}:(dL n).Pairwise (·<·):=by
 unfold dL;rw[List.pairwise_map];exact List.pairwise_lt_range.imp λh=>by omega
theorem rL {n:Nat} {x:Int}:x∈dL n↔0<=x/\x<n:=by
 unfold dL;rw[List.mem_map];constructor;·grind
 ·rintro⟨b,a⟩;exact⟨x.toNat,List.mem_range.2 (by omega),by omega⟩
def mR (n i:Nat):List Int:=dL i++δ (n - i) 0
theorem SC {n i:Nat} (h:i<=n):(mR n i).length=n:=by grind[mR,jw]
theorem aco {n:Nat}:mR n 0=δ n 0:=by simp[mR,dL]
theorem acp {n:Nat}:mR n n=dL n:=by simp[mR]
theorem acr {n i:Nat} (h:i<n):(mR n i).set i (i:Int)=mR n (i+1):=by
 unfold mR;rw[List.set_append_right _ _ (by grind[jw]),jw,Nat.sub_self,show n - i=(n - (i+1))+1 by omega,List.replicate_succ,List.set_cons_zero,vZ,γ4];rfl
def v7 (p:bz):List Int:=ew (fJ p) (dL p.offers.length)
def JB:bL:=⟨52,bz,.one dO,λp=>p.offers.length<=20,λp=> .row (.i .i64) (if bH p=0 then v7 p else[])⟩
def acs (p:bz):Nat->cC
 |5=> .inv Int (λi=>⟨[(1,.ptr 0 0 20),(3,.ow 1 (mR p.offers.length i.toNat).length 1),(13,.si .i64 p.offers.length),(14,.si .i64 i)],[.cells p.ss 27 20 false,.row (.i .i64) (mR p.offers.length i.toNat) 3 true]⟩)
   (λs=>iS s 14) (λi=>0<=i/\i<=p.offers.length) (λi=>(p.offers.length - i).toNat) λ_ _=> .look
 |_=> .look
theorem h308:Holds Tryz.prog JB:=by
 refine con (L:=[qF]) (W:=gC [JA]) JB acs (lj (by simpa using h319)) (by simpa using h79) ?_;intro(p:bz) (hp:p.offers.length<=20);refine bQ (let a:=Ω .i64;let b:=(0:Int);let c:=bA.row;let d:=Δ;let e:=γz;let r:=decide (bH p≠b);let g:=bw.i .i64;let s:=d g (if bH p=b then v7 p else[]);let h:=(↑p.offers.length:Int);let n:=γU 0 0 20;let l:=p.offers.length;let j:=(↑l:Int);let q:=a j;let o:=bA.cells [a p.supply.a0,a p.supply.a1,a p.supply.a2,a p.supply.a3,a p.supply.a4,a p.supply.a5,a p.opn.a0,a p.opn.a1,a p.opn.a2,a p.opn.a3,a p.opn.a4,a p.opn.a5,a p.cls.a0,a p.cls.a1,a p.cls.a2,a p.cls.a3,a p.cls.a4,a p.cls.a5,d g p.classes,d bw.off p.offers] 27 20 false;True/\(r=true->(d g []).same s)/\(r=false->b<=h/\h<=h/\h*(8:Int)<=(140737488355328:Int)/\h<=(1000000000000:Int)/\(((n.same n/\(e 1 h.toNat 1).same (e 1 (mR l 0).length 1)/\(a (↑h.toNat:Int)).same q/\(γo .i64 0).same (a 0)/\True)/\o.same o/\(c g (δ h.toNat b) 3 true).same (c g (mR l 0) 3 true)/\True)/\b<=b/\b<=j)/\∀(x:Int),let f:=mR l x.toNat;let m:=f.length;let k:=x+(1:Int);let t:=a k;b<=x/\x<=j->(decide (x<j)=true->m=f.length/\b<=x/\x<(↑f.length:Int)/\m=f.length/\x.toNat<f.length/\bU .i64 k/\((n.same n/\(e 1 m 1).same (e 1 (mR l k.toNat).length 1)/\q.same q/\t.same t/\True)/\o.same o/\(c g (f.set x.toNat x) 3 true).same (c g (mR l k.toNat) 3 true)/\True)/\(b<=k/\k<=j)/\(j - k).toNat<(j - x).toNat)/\(decide (x<j)=false->((vY (m,f,p)/\ζl (λx1 x2 ↦x1<x2) f)/\m<=20)/\m=(ew (fJ p) f).length/\(d g (ew (fJ p) f)).same s))) (by kernel_rfl) ?_;simp only[vcs];refine⟨λh=>by rw[if_neg h],λh=>?_⟩;have hc:bH p=0:=Classical.not_not.1 h;rw[if_pos hc];have e0:((p.offers.length:Int)).toNat=p.offers.length:=by omega
 have how:∀{x y:Nat},x=y->(γz 1 x 1).same (γz 1 y 1):=by rintro _ _ rfl;rfl
 rw[e0,aco];refine⟨by omega,by omega,by omega,by omega,⟨⟨⟨how (by simp),rfl⟩,rfl⟩,by omega,by omega⟩,?_⟩;rintro i ⟨i0,i1⟩;have hL:=@SC p.offers.length i.toNat (by omega);refine⟨λhi=>?_,λhi=>?_⟩
 ·have hs:=@acr p.offers.length i.toNat (by omega);rw[show((i.toNat:Nat):Int)=i by omega] at hs;have hL2:=@SC p.offers.length (i.toNat+1) (by omega);rw[show(i+1).toNat=i.toNat+1 by omega,hs];exact⟨i0,by omega,by omega,by omega,⟨how (by omega),rfl⟩,by omega,by omega⟩
 ·rw[show i.toNat=p.offers.length by omega,acp];refine⟨⟨⟨⟨⟨hc,rfl⟩,by simp only[jw];omega,λx hx=>by have:=rL.1 hx;exact this⟩,AL⟩,by simp only[jw];omega⟩,by rw[sU],rfl⟩
end Go.Vi
namespace Go.Proofs
open Go.Shelf
def Tryz.layS_ren:Ren:=
 ⟨λ
  |189=>87
  |125=>125
  |257=>124
  |128=>163
  |129=>164
  |294=>154
  |295=>155
  |296=>156
  |297=>157
  |298=>158
  |299=>159
  |216=>160
  |300=>161
  |301=>162
  |328=>178
  |329=>179
  |330=>180
  |331=>181
  |332=>182
  |215=>183
  |343=>190
  |n=>n,
 λ
  |28=>24
  |3=>3
  |46=>197
  |0=>0
  |51=>187
  |53=>183
  |4=>4
  |183=>227
  |182=>226
  |131=>140
  |5=>5
  |9=>9
  |218=>237
  |222=>241
  |228=>250
  |229=>119
  |n=>n,
 λn=>n⟩
def Tryz.layC_ren:Ren:=
 ⟨λ
  |41=>49
  |n=>n,
 λ
  |22=>24
  |23=>3
  |4=>4
  |n=>n,
 λn=>n⟩
def Tryz.layD_ren:Ren:=
 ⟨λ
  |45=>120
  |n=>n,
 λ
  |22=>24
  |23=>3
  |3=>3
  |4=>4
  |0=>0
  |n=>n,
 λn=>n⟩
theorem Tryz.layS:Lays.n189 Tryz.prog Tryz.layS_ren:={mixed:=by kernel_rfl,f125:=Tryz.func125.trans (by kernel_rfl),f128:=Tryz.func163.trans (by kernel_rfl),f129:=Tryz.func164.trans (by kernel_rfl),f189:=Tryz.func87.trans (by kernel_rfl),f215:=Tryz.func183.trans (by kernel_rfl),f216:=Tryz.func160.trans (by kernel_rfl),f257:=Tryz.func124.trans (by kernel_rfl),f294:=Tryz.func154.trans (by kernel_rfl),f295:=Tryz.func155.trans (by kernel_rfl),f296:=Tryz.func156.trans (by kernel_rfl),f297:=Tryz.func157.trans (by kernel_rfl),f298:=Tryz.func158.trans (by kernel_rfl),f299:=Tryz.func159.trans (by kernel_rfl),f300:=Tryz.func161.trans (by kernel_rfl),f301:=Tryz.func162.trans (by kernel_rfl),f328:=Tryz.func178.trans (by kernel_rfl),f329:=Tryz.func179.trans (by kernel_rfl),f330:=Tryz.func180.trans (by kernel_rfl),f331:=Tryz.func181.trans (by kernel_rfl),f332:=Tryz.func182.trans (by kernel_rfl),f343:=Tryz.func190.trans (by kernel_rfl),t0:=Tryz.underlying0,a0:=Tryz.isAgg0,z0:=Tryz.sizeOf0,v0:=Tryz.zeroValue0,t3:=Tryz.underlying3,a3:=Tryz.isAgg3,z3:=Tryz.sizeOf3,v3:=Tryz.zeroValue3,t4:=Tryz.underlying4,a4:=Tryz.isAgg4,z4:=Tryz.sizeOf4,v4:=Tryz.zeroValue4,t5:=Tryz.underlying5,a5:=Tryz.isAgg5,z5:=Tryz.sizeOf5,v5:=Tryz.zeroValue5,t9:=Tryz.underlying9,a9:=Tryz.isAgg9,z9:=Tryz.sizeOf9,v9:=Tryz.zeroValue9,t28:=Tryz.underlying24,a28:=Tryz.isAgg24,z28:=Tryz.sizeOf24,v28:=Tryz.zeroValue24,t46:=Tryz.underlying197,a46:=Tryz.isAgg197,z46:=Tryz.sizeOf197,v46:=Tryz.zeroValue197,t51:=Tryz.underlying187,a51:=Tryz.isAgg187,z51:=Tryz.sizeOf187,v51:=Tryz.zeroValue187,t53:=Tryz.underlying183,a53:=Tryz.isAgg183,z53:=Tryz.sizeOf183,v53:=Tryz.zeroValue183,t131:=Tryz.underlying140,a131:=Tryz.isAgg140,z131:=Tryz.sizeOf140,v131:=Tryz.zeroValue140,t182:=Tryz.underlying226,a182:=Tryz.isAgg226,z182:=Tryz.sizeOf226,v182:=Tryz.zeroValue226,t183:=Tryz.underlying227,a183:=Tryz.isAgg227,z183:=Tryz.sizeOf227,v183:=Tryz.zeroValue227,t218:=Tryz.underlying237,a218:=Tryz.isAgg237,z218:=Tryz.sizeOf237,v218:=Tryz.zeroValue237,t222:=Tryz.underlying241,a222:=Tryz.isAgg241,z222:=Tryz.sizeOf241,v222:=Tryz.zeroValue241,t228:=Tryz.underlying250,a228:=Tryz.isAgg250,z228:=Tryz.sizeOf250,v228:=Tryz.zeroValue250,t229:=Tryz.underlying119,a229:=Tryz.isAgg119,z229:=Tryz.sizeOf119,v229:=Tryz.zeroValue119}
theorem Tryz.layC:SlLaysE0.n41 Tryz.prog Tryz.layC_ren:={mixed:=by kernel_rfl,f41:=⟨Tryz.f49.name,by decide,Tryz.func49.trans (by kernel_rfl)⟩,t4:=Tryz.underlying4,a4:=Tryz.isAgg4,z4:=Tryz.sizeOf4,v4:=Tryz.zeroValue4,t22:=Tryz.underlying24,a22:=Tryz.isAgg24,z22:=Tryz.sizeOf24,v22:=Tryz.zeroValue24}
theorem Tryz.layD:SlLaysE.n45 Tryz.prog Tryz.layD_ren:={mixed:=by kernel_rfl,f45:=⟨Tryz.f120.name,by decide,Tryz.func120.trans (by kernel_rfl)⟩,t0:=Tryz.underlying0,a0:=Tryz.isAgg0,z0:=Tryz.sizeOf0,v0:=Tryz.zeroValue0,t3:=Tryz.underlying3,a3:=Tryz.isAgg3,z3:=Tryz.sizeOf3,v3:=Tryz.zeroValue3,t4:=Tryz.underlying4,a4:=Tryz.isAgg4,z4:=Tryz.sizeOf4,v4:=Tryz.zeroValue4,t22:=Tryz.underlying24,a22:=Tryz.isAgg24,z22:=Tryz.sizeOf24,v22:=Tryz.zeroValue24,a23:=Tryz.isAgg3,z23:=Tryz.sizeOf3}
end Go.Proofs
