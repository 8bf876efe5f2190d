/-
  Contracts: natural numbers of any size: shifted.
  Conditions: none.
-/
import Derived.Test.YtlphnffeeefcdaaGreatWC06
import Derived.Test.YtlphnffeeefcdaaGreatWC07
set_option maxRecDepth 100000
set_option maxHeartbeats 4000000
set_option linter.all false
open And renaming intro->γe
open BitVec renaming ofInt->γl
open Go.Vi.SV renaming si->Ω,row->Δ,il->γo,agg->γF,sb->γn
open Int renaming eq_ofNat_of_zero_le->δI,pow_succ->γs,mul_comm->δL,mul_assoc->γO,pow_pos->γS,pow_add->δf,mul_nonneg->γh,le_of_lt->ω,mul_lt_mul_of_pos_right->γN,emod_eq_of_lt->δp,mul_emod_mul_of_pos->ζk,emod_nonneg->γ9,emod_lt_of_pos->γM,lt_of_mul_lt_mul_left->εp,lt_of_le_of_lt->εa,lt_of_lt_of_le->εF,mul_le_mul_of_nonneg_left->ν,mul_le_mul_of_nonneg_right->γE,one_mul->εy,ediv_eq_zero_of_lt->δQ,mul_le_mul->δy,mul_ediv_add_emod->δb,ediv_nonneg->δa,sub_mul->ζE,mul_add->εx,mul_sub->εI,mul_zero->δK,add_zero->εg,mul_one->δ5,ediv_lt_of_lt_mul->δC,sub_zero->ε5,pow_zero->εf,mul_pos->εh,toNat_natCast->γb,mul_ediv_cancel_left->ζg,natAbs_mul->εq,natAbs_natCast->ε6,mul_neg_of_neg_of_pos->εr
open IntCast renaming intCast->ζ
open List renaming length_take->γG,replicate->δ,take->τ,length_set->Ψ,take_length->χ,length->Φ,drop_drop->δi,drop->γ3,eq_nil_of_length_eq_zero->π
open List.cons renaming injEq->Ξ
open Nat renaming pow_le_pow_right->δu,min_eq_left->δP,le_refl->ψ,exists_eq_add_of_le->δJ,add_sub_cancel->ζJ,gcd_dvd_left->ζQ
open Option.some renaming injEq->γ
open Prod renaming ext->εS
open Rat renaming mkRat_self->δY,normalize_eq_mkRat->ζn
namespace Go.Vi
open Go.Proofs.YtlphnffeeefcdaaGreat.Ir
open Go.Proofs
theorem Rq {x m:Int} {k:Nat} (p:0<=x) (t:x<2^k) (o:0<=m) (j:m*2^k<4294967296) (u:x<4294967296):ie.nV .u32 x (m*2^k)=x+m*2^k:=by
 obtain⟨a,rfl⟩:=δI p;obtain⟨b,rfl⟩:=δI o;have e:((b:Int)*2^k)=((2^k*b:Nat):Int):=by grind
 have h:a<2^k:=by grind
 rw[e] at j ⊢;generalize i:2^k*b=c at*;have d:c<4294967296:=by omega
 have f:a<4294967296:=by omega
 have q:(γl 32 ((a:Nat):Int)).toNat=a:=by simp_all
 have r:(γl 32 ((c:Nat):Int)).toNat=c:=by simp_all
 have g:a |||c=a+c:=by
  rw[Nat.or_comm,<-i,<-Nat.two_pow_add_eq_or_of_lt h];omega
 have l:a+c<4294967296:=by
  rw[<-g];exact Nat.or_lt_two_pow (n:=32) f d
 have s:(γl 32 ((a:Nat):Int) |||γl 32 ((c:Nat):Int)).toNat=a+c:=by
  grind
 show fe .u32 ((γl 32 ((a:Nat):Int) |||γl 32 ((c:Nat):Int)).toNat:Nat)=_;grind[tC,IntKind.wrap,IntKind.bits,IntKind.signed]
theorem IK:∀{l:List Int} {i:Nat},bB l->4294967296^i*bp l i 0<=bq l
 |[],i,_=>by simp[bp,bq];|d::l,0,h=>by
  obtain⟨b,a⟩:=jd.1 h;have:=dX a;grind[bp,bq];|d::l,i+1,h=>by
  obtain⟨b,a⟩:=jd.1 h;have:=@IK l i a;have e:bp (d::l) (i+1) 0=bp l i 0:=by simp[bp]
  rw[e,γs,δL (4294967296^i),γO];grind[bq]
theorem Rr {a b:List Int} {i k:Nat} (n:bB a) (e:bB b) (F:b.length=a.length+1) (G:i<a.length) (u:k<=31) (q:bq b=bq (a.take i)*2^k):
  bB ((b.set i (ie.nV .u32 (bp b i 0) (bp a i 0 % 18446744073709551616*2^k % 18446744073709551616 % 4294967296))).set (i+1) (bp a i 0 % 18446744073709551616*2^k % 18446744073709551616 / 4294967296 % 4294967296))/\
  bq ((b.set i (ie.nV .u32 (bp b i 0) (bp a i 0 % 18446744073709551616*2^k % 18446744073709551616 % 4294967296))).set (i+1) (bp a i 0 % 18446744073709551616*2^k % 18446744073709551616 / 4294967296 % 4294967296))=bq (a.take (i+1))*2^k:=by
 have x:=dK n i;have r:=dK e i;have c:(0:Int)<2^k:=γS (by decide);have A:(2:Int)^k<=2147483648:=by
  have D:(2:Nat)^k<=2^31:=δu (by decide) u;grind
 have w:(4294967296:Int)=2^(32 - k)*2^k:=by
  rw[<-δf,show 32 - k+k=32 by omega];decide
 have B:(0:Int)<2^(32 - k):=γS (by decide);have v:0<=bp a i 0*2^k:=γh x.1 (ω c);have H:bp a i 0*2^k<4294967296*2^k:=γN x.2 c;have z:bp a i 0 % 18446744073709551616*2^k % 18446744073709551616=bp a i 0*2^k:=by
  rw[δp (a:=bp a i 0) (by omega) (by omega),δp v (by omega)]
 have o:bp a i 0*2^k % 4294967296=(bp a i 0 % 2^(32 - k))*2^k:=by
  conv=>lhs;rw[w]
  rw[δL (bp a i 0),δL (2^(32 - k)),ζk _ _ c,δL]
 have p:=γ9 (bp a i 0) (show(2:Int)^(32 - k)≠0 by omega);have E:=γM (bp a i 0) B;have s:=pow_pos i;have d:bq b<4294967296^i*2^k:=by
  rw[q];have:=je (kR n i);rw[γG,δP (by omega)] at this;simp_all
 have h:bp b i 0<2^k:=εp (εa (IK e) d) (ω s);have m:bp b (i+1) 0=0:=by
  refine Ai e (i:=i+1) ?_ (ψ _);rw[γs];exact εF d (ν (by omega) (ω s))
 have f:(bp a i 0 % 2^(32 - k))*2^k+2^k<=4294967296:=by
  have:(bp a i 0 % 2^(32 - k)+1)*2^k<=2^(32 - k)*2^k:=γE (by omega) (ω c);grind
 have l:0<=(bp a i 0 % 2^(32 - k))*2^k:=γh p (ω c);have g:=Rq (k:=k) r.1 h p (by omega) r.2;rw[z,o,g];generalize y:bp a i 0*2^k=t at*;have j:(bp a i 0 % 2^(32 - k))*2^k=t % 4294967296:=o.symm;rw[j] at f l ⊢;refine⟨nz (nz e (by omega) (by omega)) (by omega) (by omega),?_⟩;rw[uj (by simp;omega),uj (by omega),pT (by omega),m,js,Int.add_mul,γO,y,q,γs];have C:t / 4294967296 % 4294967296=t / 4294967296:=by omega
 grind
def shl (a:List Int) (k:Nat):List Int:=iC (a.length+1) (bq a*2^k)
abbrev Rt:=List Int×Int
def Aj (a:Rt):Prop:=bB a.1/\a.1.length<=100000000000/\0<=a.2/\a.2<=31
def IL:bL:=⟨187,List Int×Int,.cons (cV (.i .u32)) (.one (ef .u64)),Aj,λa=> .row (.i .u32) (shl a.1 a.2.toNat)⟩
def IP:dD where
 f:=187;α:=List Int×Int;put a:=[.row (.i .u32) a.1,.si .u64 a.2];st _:=[];dec v o:=match v,o with
  |[v,m],[]=>match jH (.i .u32) v,m.int .u64 with
   |some p,some m=>some (p,m)
   |_,_=>none
  |_,_=>none;ok v o a h:=by
  split at h
  ·split at h
   ·rename_i h1 h2;simp only[γ] at h;subst h;exact⟨by simp only[gL,oZ h1,iP h2];rfl,rfl⟩
   ·cases h
  ·cases h
 inj a b h _:=by
  simp only[gL,Ξ,and_true] at h;have h2:=h.2;simp only[SV.g,AV.sc.injEq,Value.int.injEq,true_and] at h2;exact εS ((cV (.i .u32)).inj _ _ h.1) h2
 dom:=Aj;res a:=.ow 0 (shl a.1 a.2.toNat).length 1;out a:=[.row (.i .u32) (shl a.1 a.2.toNat) 187 false]
def Ru (a:Rt):Nat->cC
 |3=> .inv (Int×List Int) (λx=>⟨[(0,.row (.i .u32) a.1),(1,.si .u64 a.2),(5,.ow 0 x.2.length 1),(13,.si .i64 a.1.length),(14,.si .i64 x.1)],[.row (.i .u32) x.2 187 false]⟩)
  (λs=>(iS s 14,oS (.i .u32) s 0))
  (λx=>(0<=x.1/\x.1<=a.1.length)/\bB x.2/\x.2.length=a.1.length+1/\bq x.2=bq (a.1.take x.1.toNat)*2^a.2.toNat) (λx=>(a.1.length - x.1).toNat) λ_ _=> .look
 |_=> .look
theorem h168:eu Tryz.prog IP:=by
 refine HO (L:=[]) (W:=[]) IP (λ_=>none) Ru (by simp) (by simp) ?_;rintro⟨a,s⟩ ⟨ha,hla,s0,s1⟩;simp only at ha hla s0 s1;refine bQ (let b:=(0:Int);let c:=(18446744073709551616:Int);let d:=(4294967296:Int);let e:=Ω .i64;let f:=bA.row;let g:=bU .i64;let h:=Δ;let j:=SV.ow;let w:=(↑a.length:Int);let o:=w+(1:Int);let l:=bw.i .u32;let r:=b::δ a.length b;let m:=(↑a.length:Int);let y:=e m;let A:=f l r 187 false;let z:=a.length+1;let u:=(2:Int)^s.toNat;g o/\b<=o/\o<=o/\o*(4:Int)<=(140737488355328:Int)/\o<=(1000000000000:Int)/\((((h l a).same (h l a)/\(Ω .u64 s).same (Ω .u64 s)/\(j 0 o.toNat 1).same (j 0 r.length 1)/\(e w).same y/\(γo .i64 0).same (e 0)/\True)/\A.same A/\True)/\(b<=b/\b<=m)/\bB r/\r.length=z/\bq r=bq []*u)/\∀(x:Int×List Int),let p:=x.snd.length;let q:=x.fst.toNat;let B:=bp a q b % c*u % c;let v:=x.snd.set q (ie.nV .u32 (bp x.snd q b) (B % d));let n:=x.snd.length;let k:=x.fst+(1:Int);let C:=j 0 p 1;let t:=v.set k.toNat (B / d % d);let D:=e k;let E:=f l t 187 false;let F:=p=v.length;(b<=x.fst/\x.fst<=m)/\bB x.snd/\p=z/\bq x.snd=bq (τ q a)*u->(decide (x.fst<m)=true->b<=x.fst/\x.fst<w/\q<a.length/\b<=s/\s<=(64:Int)/\p=n/\b<=x.fst/\x.fst<(↑n:Int)/\p=n/\q<n/\p=n/\b<=x.fst/\x.fst<(↑n:Int)/\p=n/\q<n/\g k/\b<=(32:Int)/\(32:Int)<=(64:Int)/\F/\b<=k/\k<(↑v.length:Int)/\F/\k.toNat<v.length/\g k/\(((h l a).same (h l a)/\(Ω .u64 s).same (Ω .u64 s)/\C.same (j 0 t.length 1)/\y.same y/\D.same D/\True)/\E.same E/\True)/\((b<=k/\k<=m)/\bB t/\t.length=z/\bq t=bq (τ k.toNat a)*u)/\(m - k).toNat<(m - x.fst).toNat)/\(decide (x.fst<m)=false->C.same (j 0 (shl a s.toNat).length 1)/\(f l x.snd 187 false).same (f l (shl a s.toNat) 187 false)/\True)) (by kernel_rfl) ?_;simp only[vcs];refine⟨by omega,by omega,by omega,by omega,by omega,?_,?_⟩
 ·repeat' refine γe ?_ ?_
  all_goals first|omega|exact lL (by simp)|exact jd.2 ⟨by omega,x6⟩|(simp;done)|(simp only[bq,vM];omega)
 rintro⟨i,row⟩ ⟨⟨i0,i1⟩,hr,hl,hv⟩;simp only at i0 i1 hr hl hv ⊢;refine⟨λpU=>?_,λpV=>?_⟩
 ·obtain⟨k1,k2⟩:=Rr ha hr hl (show i.toNat<a.length by omega) (show s.toNat<=31 by omega) hv;have e:(i+1).toNat=i.toNat+1:=by omega
  rw[e];repeat' refine γe ?_ ?_
  all_goals first|omega|exact lL (by simp)|(simp only[Ψ];done)|(simp only[Ψ];omega)|exact k1|exact k2
 ·have hi:i.toNat=a.length:=by omega
  rw[hi,χ] at hv;have hrow:row=shl a s.toNat:=IE hr hl hv;rw[hrow];exact⟨rfl,rfl⟩
theorem h168p:Holds Tryz.prog IL:=by
 refine cq (L:=[]) IL Ru (by simp) ?_;rintro⟨a,s⟩ ⟨ha,hla,s0,s1⟩;simp only at ha hla s0 s1;refine bQ (let b:=(0:Int);let c:=(18446744073709551616:Int);let d:=(4294967296:Int);let e:=Ω .i64;let f:=Δ;let g:=bU .i64;let h:=SV.ow;let v:=(↑a.length:Int);let o:=v+(1:Int);let l:=bw.i .u32;let q:=b::δ a.length b;let m:=(↑a.length:Int);let w:=e m;let z:=bA.row l q 187 false;let y:=a.length+1;let t:=(2:Int)^s.toNat;g o/\b<=o/\o<=o/\o*(4:Int)<=(140737488355328:Int)/\o<=(1000000000000:Int)/\((((f l a).same (f l a)/\(Ω .u64 s).same (Ω .u64 s)/\(h 0 o.toNat 1).same (h 0 q.length 1)/\(e v).same w/\(γo .i64 0).same (e 0)/\True)/\z.same z/\True)/\(b<=b/\b<=m)/\bB q/\q.length=y/\bq q=bq []*t)/\∀(x:Int×List Int),let n:=x.snd.length;let p:=x.fst.toNat;let A:=bp a p b % c*t % c;let u:=x.snd.set p (ie.nV .u32 (bp x.snd p b) (A % d));let k:=x.snd.length;let j:=x.fst+(1:Int);let r:=u.set j.toNat (A / d % d);let B:=e j;let C:=bA.row l r 187 false;let D:=n=u.length;(b<=x.fst/\x.fst<=m)/\bB x.snd/\n=y/\bq x.snd=bq (τ p a)*t->(decide (x.fst<m)=true->b<=x.fst/\x.fst<v/\p<a.length/\b<=s/\s<=(64:Int)/\n=k/\b<=x.fst/\x.fst<(↑k:Int)/\n=k/\p<k/\n=k/\b<=x.fst/\x.fst<(↑k:Int)/\n=k/\p<k/\g j/\b<=(32:Int)/\(32:Int)<=(64:Int)/\D/\b<=j/\j<(↑u.length:Int)/\D/\j.toNat<u.length/\g j/\(((f l a).same (f l a)/\(Ω .u64 s).same (Ω .u64 s)/\(h 0 n 1).same (h 0 r.length 1)/\w.same w/\B.same B/\True)/\C.same C/\True)/\((b<=j/\j<=m)/\bB r/\r.length=y/\bq r=bq (τ j.toNat a)*t)/\(m - j).toNat<(m - x.fst).toNat)/\(decide (x.fst<m)=false->n=k/\(f l x.snd).same (f l (shl a s.toNat)))) (by kernel_rfl) ?_;simp only[vcs];refine⟨by omega,by omega,by omega,by omega,by omega,?_,?_⟩
 ·repeat' refine γe ?_ ?_
  all_goals first|omega|exact lL (by simp)|exact jd.2 ⟨by omega,x6⟩|(simp;done)|(simp only[bq,vM];omega)
 rintro⟨i,row⟩ ⟨⟨i0,i1⟩,hr,hl,hv⟩;simp only at i0 i1 hr hl hv ⊢;refine⟨λpU=>?_,λpV=>?_⟩
 ·obtain⟨k1,k2⟩:=Rr ha hr hl (show i.toNat<a.length by omega) (show s.toNat<=31 by omega) hv;have e:(i+1).toNat=i.toNat+1:=by omega
  rw[e];repeat' refine γe ?_ ?_
  all_goals first|omega|exact lL (by simp)|(simp only[Ψ];done)|(simp only[Ψ];omega)|exact k1|exact k2
 ·have hi:i.toNat=a.length:=by omega
  rw[hi,χ] at hv;have hrow:row=shl a s.toNat:=IE hr hl hv;rw[hrow]
def prt (U:List Int) (j k:Nat):List Int:=(U.drop j).take k
theorem Rw {U:List Int} {j k:Nat}:bp (U.drop j) k 0=bp U (j+k) 0:=by
 grind[bp]
theorem mo {U:List Int} {j k:Nat}:bq (prt U j (k+1))=bq (prt U j k)+4294967296^k*bp U (j+k) 0:=by
 grind[prt,js,Rw]
theorem uk {U:List Int} {j k i:Nat} {d:Int} (h:k<=i):prt (U.set (j+i) d) j k=prt U j k:=by
 unfold prt;apply List.ext_getElem?;grind
theorem um {U:List Int} (h:bB U) {j k:Nat}:bB (prt U j k):=kR (x5 h j) k
theorem aaS {U:List Int} {j k:Nat} (h:j+k<=U.length):(prt U j k).length=k:=by
 grind[prt]
theorem vN {U:List Int} (h:bB U) {j k:Nat}:bq (prt U j k)<4294967296^k:=by
 have g:=je (um h (j:=j) (k:=k));have e:(prt U j k).length<=k:=by grind[prt]
 have i:(4294967296:Int)^(prt U j k).length<=4294967296^k:=by
  have d:∀{a b:Nat},a<=b->(4294967296:Int)^a<=4294967296^b:=λ{a b} c=>by
   obtain⟨m,rfl⟩:=δJ c;rw[δf];have f:=pow_pos a;have l:=pow_pos m;have:=ν (show(1:Int)<=4294967296^m by omega) (ω f);omega
  exact d e
 omega
def ju (U:List Int) (j:Nat) (l:List Int):List Int:=U.take j++(l++U.drop (j+l.length))
theorem aaT {a b:List Int} (c:a.length=b.length) (h:∀m,bp a m 0=bp b m 0):a=b:=by
 apply List.ext_getElem c;intro m d e;have:=h m;grind[dj]
theorem Rx {U l:List Int} {j:Nat} (h:j+l.length<=U.length):(ju U j l).length=U.length:=by
 grind[ju]
theorem aaU {U l:List Int} {j m:Nat} (h:j+l.length<=U.length):bp (ju U j l) m 0=if m<j then bp U m 0 else if m<j+l.length then bp l (m - j) 0 else bp U m 0:=by
 unfold ju bp;grind
theorem x8 {U W:List Int} {j k:Nat} {x:Int} (d:bB W) (f:W.length=U.length) (g:j+k<=U.length) (e:∀m,(m<j\/j+k<=m)->bp W m 0=bp U m 0) (a:bq (prt W j k)=x):W=ju U j (iC k x):=by
 have b:prt W j k=iC k x:=IE (um d) (aaS (by omega)) a;have c:=@Ag k x;apply aaT;·grind[Rx]
 ·intro m;rw[aaU (by omega),c];split;·simp_all
  ·split
   ·rw[<-b];unfold prt;have:bp ((W.drop j).take k) (m - j) 0=bp (W.drop j) (m - j) 0:=by
     unfold bp;grind
    grind[Rw]
   simp_all
section
variable {P V X v1 v2 u2 top rv ru g r:Int}
theorem aaV (e:0<P) (n:V=rv+P*(v2+4294967296*v1)) (l:X=ru+P*(u2+4294967296*top)) (a:0<=rv) (f:ru<P) (d:X<4294967296*V) (b:0<=V)
  (c:0<=g) (j:g*v1+r=top) (h:4294967296<=g\/r*4294967296+u2<g*v2):X<g*V:=by
 rcases h with h|h;·exact εF d (γE h b)
 ·have k:g*V=g*rv+P*(g*v2+4294967296*(top - r)):=by
   grind
  have i:P*(u2+1+4294967296*top)<=P*(g*v2+4294967296*(top - r)):=ν (by omega) (ω e);have m:0<=g*rv:=γh c a;grind
theorem Ry (c:0<P) (k:V=rv+P*(v2+4294967296*v1)) (n:X=ru+P*(u2+4294967296*top)) (a:0<=rv) (b:rv<P) (f:0<=ru) (e:2147483648<=v1) (j:0<=v2)
  (i:0<=g) (d:g<4294967296) (o:g*v1+r=top) (h:g*v2<=r*4294967296+u2):g*V<X+V:=by
 have m:g*V=g*rv+P*(g*v2+4294967296*(top - r)):=by
  grind
 have q:P*(g*v2+4294967296*(top - r))<=P*(u2+4294967296*top):=ν (by omega) (ω c);have p:g*rv<=4294967295*rv:=γE (by omega) a;have l:P*4294967296<=P*(v2+4294967296*v1):=ν (by omega) (ω c);omega
theorem aaW (c:0<P) (p:V=rv+P*(v2+4294967296*v1)) (k:X=ru+P*(u2+4294967296*top)) (b:0<=rv) (e:ru<P) (a:0<=v2) (f:u2<4294967296)
  (d:0<=g) (o:g*v1+r=top) (l:r<v1):X<(g+1)*V:=by
 have n:(g+1)*V=(g+1)*rv+((g+1)*(P*v2)+P*(4294967296*((g+1)*v1))):=by
  grind
 have j:0<=(g+1)*rv:=γh (by omega) b;have h:0<=(g+1)*(P*v2):=γh (by omega) (γh (ω c) a);have i:top+1<=(g+1)*v1:=by grind
 have m:P*(u2+1+4294967296*top)<=P*(4294967296*((g+1)*v1)):=ν (by omega) (ω c);grind
theorem aaX {b a:Int} (c:0<P) (l:V=rv+P*(v2+4294967296*v1)) (k:X=ru+P*(u2+4294967296*(b+4294967296*a))) (d:rv<P) (f:0<=ru) (e:0<=u2) (i:0<=b) (j:v2<4294967296)
  (g:X<4294967296*V):a<=v1:=by
 by_cases h:a<=v1;·exact h
 ·exfalso;have m:P*(4294967296*(4294967296*(v1+1)))<=P*(u2+4294967296*(b+4294967296*a)):=ν (by omega) (ω c);have n:P*(v2+4294967296*v1)<=P*(4294967296*(v1+1) - 1):=ν (by omega) (ω c);grind
theorem uo {X V q:Int} (e:q*V<=X) (c:X<(q+1)*V):X / V=q/\X % V=X - q*V:=by
 rw[Int.add_mul,εy] at c;have d:0<V:=by omega
 have b:X=(X - q*V)+V*q:=by grind
 have a:X / V=q:=by
  conv=>lhs;rw[b]
  rw[Int.add_mul_ediv_left _ _ (by omega),δQ (by omega) (by omega),Int.zero_add]
 refine⟨a,?_⟩;rw[Int.emod_def,a,δL]
end
theorem IQ {p:Int} (a:0<=p) (e:p<18446744073709551616):ie.vp .u64 p 4294967295=p % 4294967296:=by
 obtain⟨m,rfl⟩:=δI a;have b:(γl 64 ((m:Nat):Int)).toNat=m:=by grind
 have c:(γl 64 4294967295).toNat=4294967295:=by simp_all
 have d:(γl 64 ((m:Nat):Int) &&&γl 64 4294967295).toNat=m % 4294967296:=by
  rw[BitVec.toNat_and,b,c];exact Nat.and_two_pow_sub_one_eq_mod m 32
 show fe .u64 ((γl 64 ((m:Nat):Int) &&&γl 64 4294967295).toNat:Nat)=_;grind[tC,IntKind.wrap,IntKind.bits]
theorem IU {U W v:List Int} {j i:Nat} {g c b d e:Int} (n:bB W) (f:W.length=U.length) (o:bB v) (h:0<=g) (r:g<4294967296) (y:0<=c) (t:c<4294967296) (s:0<=b) (q:b<=1) (u:j+i<U.length)
  (l:∀m,(m<j\/j+i<=m)->bp W m 0=bp U m 0)
  (k:bq (prt W j i)=bq (prt U j i) - g*bq (v.take i)+4294967296^i*(c+b))
  (a:0<=d/\d<4294967296) (w:d - 4294967296*e=bp W (j+i) 0 - (g*bp v i 0+c) % 4294967296 - b):
  bB (W.set (j+i) d)/\(W.set (j+i) d).length=U.length/\(0<=(g*bp v i 0+c) / 4294967296/\(g*bp v i 0+c) / 4294967296<4294967296)/\
  (∀m,(m<j\/j+(i+1)<=m)->bp (W.set (j+i) d) m 0=bp U m 0)/\
  bq (prt (W.set (j+i) d) j (i+1))=bq (prt U j (i+1)) - g*bq (v.take (i+1))+4294967296^(i+1)*((g*bp v i 0+c) / 4294967296+e):=by
 have x:=dK o i;have z:0<=g*bp v i 0:=γh h x.1;have p:g*bp v i 0<=4294967295*4294967295:=δy (by omega) (by omega) x.1 (by omega);refine⟨nz n a.1 a.2,by simp[f],by omega,λm A=>by grind[pT],?_⟩;have B:=l (j+i) (.inr (ψ _));rw[mo,mo,uk (ψ _),sP (by omega),k,js,γs];grind
theorem IV {U W v:List Int} {j i:Nat} {c s:Int} (a:bB W) (d:W.length=U.length) (b:bB v) (n:0<=c) (l:c<=1) (h:j+i<U.length) (g:bB U)
  (e:∀m,(m<j\/j+i<=m)->bp W m 0=bp U m 0)
  (k:bq (prt W j i)+4294967296^i*c=bq (prt U j i)+bq (v.take i)) (o:s=bp W (j+i) 0+bp v i 0+c):
  bB (W.set (j+i) (s % 4294967296))/\(W.set (j+i) (s % 4294967296)).length=U.length/\(0<=s / 4294967296/\s / 4294967296<=1)/\
  (∀m,(m<j\/j+(i+1)<=m)->bp (W.set (j+i) (s % 4294967296)) m 0=bp U m 0)/\
  bq (prt (W.set (j+i) (s % 4294967296)) j (i+1))+4294967296^(i+1)*(s / 4294967296)=bq (prt U j (i+1))+bq (v.take (i+1)):=by
 have x:=dK b i;have y:=dK a (j+i);refine⟨nz a (by omega) (by omega),by simp[d],by omega,λm p=>by grind[pT],?_⟩;have f:=e (j+i) (.inr (ψ _));rw[mo,mo,uk (ψ _),sP (by omega),js,γs];grind
theorem aaY {v:List Int} {n:Nat} (a:2<=n) (b:v.length=n):bq v=bq (v.take (n - 2))+4294967296^(n - 2)*(bp v (n - 2) 0+4294967296*bp v (n - 1) 0):=by
 obtain⟨m,rfl⟩:∃m,n=m+2:=⟨n - 2,by omega⟩;grind[js]
theorem aaZ {U:List Int} {j n:Nat} (a:2<=n):bq (prt U j (n+1))=bq (prt U j (n - 2))+4294967296^(n - 2)*(bp U (j+(n - 2)) 0+4294967296*(bp U (j+(n - 1)) 0+4294967296*bp U (j+n) 0)):=by
 obtain⟨m,rfl⟩:∃m,n=m+2:=⟨n - 2,by omega⟩;grind[mo]
structure nA where
 U:List Int
 j:Nat
 len:Nat
 n:Nat
 v:List Int
def nA.x (a:nA):Int:=bq (prt a.U a.j (a.v.length+1))
def nA.ok (a:nA):Prop:=(bB a.U/\bB a.v)/\(a.len=a.v.length+1/\a.n=a.U.length)/\(2<=a.v.length/\a.j+a.v.length+1<=a.U.length/\a.U.length<=200000000000)/\
 2147483648<=bp a.v (a.v.length - 1) 0/\a.x<4294967296*bq a.v
def nA.row (a:nA):List Int:=ju a.U a.j (iC (a.v.length+1) (a.x % bq a.v))
def IW:dD where
 f:=188;α:=nA;put a:=[.oc 0 a.j a.len a.n 1,.row (.i .u32) a.v];st a:=[.row (.i .u32) a.U 187 false];dec v o:=match v,o with
  |[.oc 0 j len n 1,v],[.row t l 187 false]=>match jH (.i .u32) v,iF t (.i .u32) l with
   |some v,some l=>some ⟨l,j,len,n,v⟩
   |_,_=>none
  |_,_=>none;ok v o a h:=by
  split at h
  ·split at h
   ·rename_i h1 h2;simp only[γ] at h;subst h;obtain⟨rfl,hh⟩:=mM h2;cases hh;exact⟨by simp only[gL,oZ h1],rfl⟩
   ·cases h
  ·cases h
 inj a b h1 h2:=by
  obtain⟨U,j,len,n,v⟩:=a;obtain⟨U',j',len',n',v'⟩:=b;simp only[gL,Ξ,and_true] at h1;obtain⟨g1,g2⟩:=h1;have e2:=(cV (.i .u32)).inj _ _ g2;simp only[SV.g,AV.os.injEq,true_and,bw.sz,Nat.mul_one] at g1;simp only[gO,List.map_cons,List.map_nil,bA.g,Ξ,bW.cells.injEq,and_true] at h2;have hl:U=U':=by
   have hf:=congrArg Φ h2;rw[ff,ff] at hf;exact lG (.i .u32) (by simpa[bw.sz] using hf) h2
  obtain⟨q1,q2,q3⟩:=g1;subst q3;have:j=j':=by omega
  rw[e2,hl,q2,this]
 dom:=nA.ok;res a:=.si .u32 (a.x / bq a.v);out a:=[.row (.i .u32) a.row 187 false]
def IX (U:List Int):cu:=[.row (.i .u32) U 187 false]
def aa0 (a:nA):Nat->cC
 |4=> .inv (Int×Int) (λx=>⟨[(0,.oc 0 a.j a.len a.n 1),(1,.row (.i .u32) a.v),(5,.si .i64 a.v.length),(7,.si .u64 x.1),(8,.si .u64 x.2)],IX a.U⟩) (λs=>(iS s 7,iS s 8))
  (λx=>(0<=x.1/\x.1<=4294967297)/\(0<=x.2/\x.2<4294967296)/\x.1*bp a.v (a.v.length - 1) 0+x.2=bp a.U (a.j+(a.v.length - 1)) 0+4294967296*bp a.U (a.j+a.v.length) 0/\a.x<(x.1+1)*bq a.v) (λx=>x.1.toNat) λ_ _=> .look
 |10=> .inv (Int×Int×Int×Int×List Int) (λx=>⟨[(0,.oc 0 a.j a.len a.n 1),(1,.row (.i .u32) a.v),(5,.si .i64 a.v.length),(7,.si .u64 x.2.1),(9,.si .u64 x.2.2.1),(10,.si .u64 x.2.2.2.1),(82,.si .i64 a.v.length),(83,.si .i64 x.1)],IX x.2.2.2.2⟩)
  (λs=>(iS s 83,iS s 7,iS s 9,iS s 10,oS (.i .u32) s 0))
  (λx=>(0<=x.1/\x.1<=a.v.length)/\(0<=x.2.1/\x.2.1<4294967296)/\(a.x<(x.2.1+1)*bq a.v/\x.2.1*bq a.v<a.x+bq a.v)/\(0<=x.2.2.1/\x.2.2.1<4294967296)/\(0<=x.2.2.2.1/\x.2.2.2.1<=1)/\(bB x.2.2.2.2/\x.2.2.2.2.length=a.U.length)/\
   (∀m,(m<a.j\/a.j+x.1.toNat<=m)->bp x.2.2.2.2 m 0=bp a.U m 0)/\
   bq (prt x.2.2.2.2 a.j x.1.toNat)=bq (prt a.U a.j x.1.toNat) - x.2.1*bq (a.v.take x.1.toNat)+4294967296^x.1.toNat*(x.2.2.1+x.2.2.2.1)) (λx=>(a.v.length - x.1).toNat) λ_ _=> .look
 |23=> .inv (Int×Int×Int×List Int) (λx=>⟨[(0,.oc 0 a.j a.len a.n 1),(1,.row (.i .u32) a.v),(5,.si .i64 a.v.length),(7,.si .u64 x.2.1),(9,.si .u64 x.2.2.1),(134,.si .i64 a.v.length),(135,.si .i64 x.1)],IX x.2.2.2⟩)
  (λs=>(iS s 135,iS s 7,iS s 9,oS (.i .u32) s 0))
  (λx=>(0<=x.1/\x.1<=a.v.length)/\(0<=x.2.1/\x.2.1<4294967296)/\(a.x<x.2.1*bq a.v/\x.2.1*bq a.v<a.x+bq a.v)/\(0<=x.2.2.1/\x.2.2.1<=1)/\(bB x.2.2.2/\x.2.2.2.length=a.U.length)/\
   ∃W,(bB W/\W.length=a.U.length)/\(∀m,(m<a.j\/a.j+(a.v.length+1)<=m)->bp W m 0=bp a.U m 0)/\bq (prt W a.j (a.v.length+1))=a.x - x.2.1*bq a.v+4294967296^(a.v.length+1)/\
    (∀m,(m<a.j\/a.j+x.1.toNat<=m)->bp x.2.2.2 m 0=bp W m 0)/\bq (prt x.2.2.2 a.j x.1.toNat)+4294967296^x.1.toNat*x.2.2.1=bq (prt W a.j x.1.toNat)+bq (a.v.take x.1.toNat))
  (λx=>(a.v.length - x.1).toNat) λ_ _=> .look
 |_=> .look
theorem h169:eu Tryz.prog IW:=by
 refine lp (L:=[]) (W:=[]) IW aa0 (by simp) (by simp) ?_;rintro⟨U,j,len,n,v⟩ ⟨⟨hU,hv⟩,⟨e1,e2⟩,⟨hn,hj,hlU⟩,hv1,hx⟩;simp only at hU hv hn hj hlU hv1 hx e1 e2;subst e1 e2;refine bQ (let a:=(18446744073709551616:Int);let b:=(0:Int);let c:=(4294967296:Int);let d:=(1:Int);let e:=Δ;let f:=Ω .i64;let g:=(32:Int);let h:=bU .i64;let k:=(9223372036854775808:Int);let l:=(4294967297:Int);let n:=(64:Int);let o:=bA.row;let p:=γo .i64 0;let q:=(63:Int);let r:=γo .i64;let D:=(↑v.length:Int);let y:=v.length+1;let F:=(↑y:Int);let B:=D - d;let Q:=bp v B.toNat b % a;let a7:=ie.nV .u64 (bp U (j+D.toNat) 0 % a*c % a) (bp U (j+B.toNat) 0 % a);let K:=a7.tdiv Q;let C:=SV.oc 0 j y U.length 1;let w:=bw.i .u32;let s:=(↑v.length:Int);let t:=f s;let a8:=Ω .u64 K;let R:=a7.tmod Q;let a9:=Ω .u64 R;let J:=o w U 187 false;let aa:=v.length - 1;let a3:=bp v aa b;let a4:=bp U (j+aa) 0+c*bp U (j+v.length) 0;let ab:=nA.mk U j y U.length v;let E:=ab.x;let L:=s - d;let aJ:=bp v L.toNat b % a;let M:=E+bq v;let S:=bq (prt U j 0);let I:=j+s.toNat;let ac:=Ω .u32 (E / bq v);let ad:=o w ab.row 187 false;let ae:=c^y;let H:=s - (2:Int);U.length=U.length/\b<=D/\D<F/\j+y<=U.length/\U.length=U.length/\j+D.toNat<U.length/\b<=g/\g<=n/\h B/\U.length=U.length/\b<=B/\B<F/\j+y<=U.length/\U.length=U.length/\j+B.toNat<U.length/\h B/\b<=B/\B<D/\B.toNat<v.length/\Q≠b/\bU .u64 K/\h B/\b<=B/\B<D/\B.toNat<v.length/\Q≠b/\(((C.same C/\(e w v).same (e w v)/\(f D).same t/\a8.same a8/\a9.same a9/\True)/\J.same J/\True)/\(b<=K/\K<=l)/\(b<=R/\R<c)/\K*a3+R=a4/\E<(K+d)*bq v)/\∀(x:Int×Int),let N:=(x.snd+aJ) % a;let af:=decide (c<=N);let G:=(x.fst - d) % a;let T:=Ω .u64 G;let ag:=Ω .u64 N;let ah:=decide (c<=x.fst);let ai:=Ω .u64 x.fst;let aj:=∀(x:Int×Int×Int×Int×List Int),let V:=x.snd.fst*bq v;let z:=x.snd.snd.snd.snd;let X:=x.snd.snd.snd.fst;let Y:=x.snd.snd.fst;let ak:=((bp z I b % a - Y) % a - X) % a;let O:=j+x.fst.toNat;let Z:=x.fst+d;let a0:=Ω .u64 x.snd.fst;let al:=(x.snd.fst*(bp v x.fst.toNat b % a) % a+Y) % a;let am:=al / c;let an:=Ω .u64 am;let ao:=ie.vp .u64 al (4294967295:Int);let ap:=((bp z O b % a - ao) % a - X) % a;let aq:=ap / k;let ar:=Ω .u64 aq;let au:=f Z;let P:=z.set I (ak % c);let av:=λ(u u_1 u_2:Int) (u_3:List Int) ↦(b<=u/\u<=s)/\(b<=x.snd.fst/\x.snd.fst<c)/\(E<(x.snd.fst+d)*bq v/\V<M)/\(b<=u_1/\u_1<c)/\(b<=u_2/\u_2<=d)/\(bB u_3/\u_3.length=U.length)/\(∀(m:Nat),m<j\/j+u.toNat<=m->bp u_3 m b=bp U m b)/\bq (prt u_3 j u.toNat)=bq (prt U j u.toNat) - x.snd.fst*bq (τ u.toNat v)+c^u.toNat*(u_1+u_2);let aw:=λ(u:Nat) (u_1:Int) ↦let ax:=o w (z.set u (((bp z u b % a - u_1) % a - X) % a % c)) 187 false;ax.same ax/\True;let ay:=λ(u:Bool) ↦decide (ak / k=b)=u;av x.fst Y X z->(decide (x.fst<s)=true->b<=x.fst/\x.fst<D/\x.fst.toNat<v.length/\b<=g/\g<=n/\U.length=z.length/\b<=x.fst/\x.fst<F/\j+y<=U.length/\U.length=z.length/\O<z.length/\b<=q/\q<=n/\U.length=z.length/\b<=x.fst/\x.fst<F/\j+y<=U.length/\U.length=z.length/\O<z.length/\h Z/\((C.same C/\(e w v).same (e w v)/\t.same t/\a0.same a0/\an.same an/\ar.same ar/\t.same t/\au.same au/\True)/\aw O ao)/\av Z am aq (z.set O (ap % c))/\(s - Z).toNat<(s - x.fst).toNat)/\(decide (x.fst<s)=false->U.length=z.length/\b<=s/\s<F/\j+y<=U.length/\U.length=z.length/\I<z.length/\U.length=z.length/\b<=s/\s<F/\j+y<=U.length/\U.length=z.length/\I<z.length/\b<=q/\q<=n/\(ay true->(Ω .u32 (x.snd.fst % c)).same ac/\(o w P 187 false).same ad/\True)/\(ay false->(((C.same C/\(e w v).same (e w v)/\t.same t/\a0.same a0/\(γo .u64 0).same (Ω .u64 0)/\t.same t/\(p).same (f 0)/\True)/\aw I Y)/\(b<=b/\b<=s)/\(b<=x.snd.fst/\x.snd.fst<c)/\(E<V/\V<M)/\(b<=b/\b<=d)/\(bB P/\P.length=U.length)/\∃(W:List Int),(bB W/\W.length=U.length)/\(∀(m:Nat),m<j\/j+y<=m->bp W m b=bp U m b)/\bq (prt W j y)=E - V+ae/\(∀(m:Nat),m<j\/j+0<=m->bp P m b=bp W m b)/\bq (prt P j 0)+b=bq (prt W j 0)+bq [])/\∀(x:Int×Int×Int×List Int),let a5:=x.snd.fst*bq v;let a6:=x.snd.snd.fst;let A:=x.snd.snd.snd;let a1:=j+x.fst.toNat;let a2:=x.fst+d;let az:=Ω .u64 x.snd.fst;let aA:=((bp A a1 b % a+bp v x.fst.toNat b % a) % a+a6) % a;let aB:=aA / c;let aC:=Ω .u64 aB;let aD:=f a2;let aE:=A.set a1 (aA % c);let aF:=o w aE 187 false;let aG:=λ(u u_1:Int) (u_2:List Int) ↦(b<=u/\u<=s)/\(b<=x.snd.fst/\x.snd.fst<c)/\(E<a5/\a5<M)/\(b<=u_1/\u_1<=d)/\(bB u_2/\u_2.length=U.length)/\∃(W:List Int),(bB W/\W.length=U.length)/\(∀(m:Nat),m<j\/j+y<=m->bp W m b=bp U m b)/\bq (prt W j y)=E - a5+ae/\(∀(m:Nat),m<j\/j+u.toNat<=m->bp u_2 m b=bp W m b)/\bq (prt u_2 j u.toNat)+c^u.toNat*u_1=bq (prt W j u.toNat)+bq (τ u.toNat v);aG x.fst a6 A->(decide (x.fst<s)=true->U.length=A.length/\b<=x.fst/\x.fst<F/\j+y<=U.length/\U.length=A.length/\a1<A.length/\b<=x.fst/\x.fst<D/\x.fst.toNat<v.length/\b<=g/\g<=n/\U.length=A.length/\b<=x.fst/\x.fst<F/\j+y<=U.length/\U.length=A.length/\a1<A.length/\h a2/\((C.same C/\(e w v).same (e w v)/\t.same t/\az.same az/\aC.same aC/\t.same t/\aD.same aD/\True)/\aF.same aF/\True)/\aG a2 aB aE/\(s - a2).toNat<(s - x.fst).toNat)/\(decide (x.fst<s)=false->U.length=A.length/\b<=s/\s<F/\j+y<=U.length/\U.length=A.length/\I<A.length/\U.length=A.length/\b<=s/\s<F/\j+y<=U.length/\U.length=A.length/\I<A.length/\(Ω .u32 ((x.snd.fst - d) % a % c)).same ac/\(o w (A.set I ((bp A I b+a6 % c) % c)) 187 false).same ad/\True)));let aH:=h L/\b<=L/\L<D/\L.toNat<v.length/\(af=true->(((C.same C/\(e w v).same (e w v)/\t.same t/\T.same T/\(γo .u64 0).same (Ω .u64 0)/\(γo .u64 0).same (Ω .u64 0)/\t.same t/\(p).same (f 0)/\True)/\J.same J/\True)/\(b<=b/\b<=s)/\(b<=G/\G<c)/\(E<(G+d)*bq v/\G*bq v<M)/\(b<=b/\b<c)/\(b<=b/\b<=d)/\(bB U/\U.length=U.length)/\(∀(m:Nat),m<j\/j+0<=m->bp U m b=bp U m b)/\S=S - G*bq []+b)/\aj)/\(af=false->((C.same C/\(e w v).same (e w v)/\t.same t/\T.same T/\ag.same ag/\True)/\J.same J/\True)/\((b<=G/\G<=l)/\(b<=N/\N<c)/\G*a3+N=a4/\E<(G+d)*bq v)/\G.toNat<x.fst.toNat);let aI:=λ(u:Bool) ↦decide (ie.nV .u64 (x.snd*c % a) (bp U (j+H.toNat) 0 % a)<x.fst*(bp v H.toNat b % a) % a)=u;(b<=x.fst/\x.fst<=l)/\(b<=x.snd/\x.snd<c)/\x.fst*a3+x.snd=a4/\E<(x.fst+d)*bq v->(ah=true->aH)/\(ah=false->h H/\b<=H/\H<D/\H.toNat<v.length/\b<=g/\g<=n/\h H/\U.length=U.length/\b<=H/\H<F/\j+y<=U.length/\U.length=U.length/\j+H.toNat<U.length/\(aI true->aH)/\(aI false->(((C.same C/\(e w v).same (e w v)/\t.same t/\ai.same ai/\(γo .u64 0).same (Ω .u64 0)/\(γo .u64 0).same (Ω .u64 0)/\t.same t/\(p).same (f 0)/\True)/\J.same J/\True)/\(b<=b/\b<=s)/\(b<=x.fst/\x.fst<c)/\(E<(x.fst+d)*bq v/\x.fst*bq v<M)/\(b<=b/\b<c)/\(b<=b/\b<=d)/\(bB U/\U.length=U.length)/\(∀(m:Nat),m<j\/j+0<=m->bp U m b=bp U m b)/\S=S - x.fst*bq []+b)/\aj))) (by kernel_rfl) ?_;simp only[vcs];have t1:((v.length:Int) - 1).toNat=v.length - 1:=by omega
 have t2:((v.length:Int) - 2).toNat=v.length - 2:=by omega
 have t3:((v.length:Int)).toNat=v.length:=by omega
 have x9:=aaY hn rfl;have ya:=@aaZ U j v.length hn;have dv1:=dK hv (v.length - 1);have vO:=dK hv (v.length - 2);have Rz:=dK hU (j+v.length);have IY:=dK hU (j+(v.length - 1));have DR:=dK hU (j+(v.length - 2));have m1:bp v (v.length - 1) 0 % 18446744073709551616=bp v (v.length - 1) 0:=by omega
 have m2:bp v (v.length - 2) 0 % 18446744073709551616=bp v (v.length - 2) 0:=by omega
 have m3:bp U (j+v.length) 0 % 18446744073709551616=bp U (j+v.length) 0:=by omega
 have m4:bp U (j+(v.length - 1)) 0 % 18446744073709551616=bp U (j+(v.length - 1)) 0:=by omega
 have m5:bp U (j+(v.length - 2)) 0 % 18446744073709551616=bp U (j+(v.length - 2)) 0:=by omega
 have m6:bp U (j+v.length) 0*4294967296 % 18446744073709551616=bp U (j+v.length) 0*4294967296:=by omega
 have hor:=IA Rz.1 Rz.2 IY.1 IY.2;have htop:0<=bp U (j+v.length) 0*4294967296+bp U (j+(v.length - 1)) 0:=by omega
 have hx':bq (prt U j (v.length+1))<4294967296*bq v:=hx;have hP:=pow_pos (v.length - 2);have Ak:=dX (kR hv (v.length - 2));have Am:=je (kR hv (v.length - 2));rw[γG,δP (by omega)] at Am;have xk:=dX (um hU (j:=j) (k:=v.length - 2));have IZ:=vN hU (j:=j) (k:=v.length - 2);have hV0:=dX hv;have hX0:=dX (um hU (j:=j) (k:=v.length+1));have htp:=aaX hP x9 ya Am xk DR.1 IY.1 vO.2 hx';have hax:(nA.mk U j (v.length+1) U.length v).x=bq (prt U j (v.length+1)):=rfl;simp only[hax,t1,t2,t3,m1,m2,m3,m4,m5,m6,hor,Int.tdiv_eq_ediv_of_nonneg htop,Int.tmod_eq_emod_of_nonneg htop];generalize aa3:bp v (v.length - 1) 0=v1 at*;generalize aa4:bp v (v.length - 2) 0=v2 at*;generalize agI:bp U (j+v.length) 0=u0 at*;generalize aa5:bp U (j+(v.length - 1)) 0=u1 at*;generalize aa6:bp U (j+(v.length - 2)) 0=u2 at*;have hqr:=δb (u0*4294967296+u1) v1;have hr0:=γ9 (u0*4294967296+u1) (show v1≠0 by omega);have hr1:=γM (u0*4294967296+u1) (show 0<v1 by omega);have hg0:0<=(u0*4294967296+u1) / v1:=δa htop (by omega);generalize hge:(u0*4294967296+u1) / v1=g0 at*;generalize hre:(u0*4294967296+u1) % v1=r0 at*;have hg1:g0<=4294967297:=by
  by_cases h:g0<=4294967297;·exact h
  ·exfalso;have:=ν (show(4294967298:Int)<=g0 by omega) (show 0<=v1 by omega);omega
 have RA:g0*v1+r0=u1+4294967296*u0:=by rw[δL g0];omega
 have hst:=aaW hP x9 ya Ak IZ vO.1 DR.2 hg0 RA hr1;have hin:bU .u64 g0:=u64_in hg0 (by omega);repeat refine γe (by omega) ?_
 clear t1 t2 t3 m1 m2 m3 m4 m5 m6 hor htop hge hre hqr hr0 hr1 hg0 hg1 RA hst hin aa3 aa4 aa5 aa6 hx;rintro⟨g,r⟩ ⟨⟨g0',g1'⟩,⟨r0',r1'⟩,hgr,hgx⟩;simp only at g0' g1' r0' r1' hgr hgx ⊢;have DT:0<g+1:=by omega
 have e1:(r+v1) % 18446744073709551616=r+v1:=by omega
 have e2:r*4294967296 % 18446744073709551616=r*4294967296:=by omega
 have gv0:0<=g*v2:=γh g0' vO.1;have gv1:g*v2<=4294967297*4294967295:=δy (by omega) (by omega) vO.1 (by omega);have e3:g*v2 % 18446744073709551616=g*v2:=by omega
 have hor2:=IA r0' r1' DR.1 DR.2;have I0:g*v1+r=u1+4294967296*u0:=hgr;have RB:4294967296<=r+v1->g<=4294967296:=λh=>by
  by_cases hg:g<=4294967296;·exact hg
  ·have:g=4294967297:=by omega
   subst this;omega
 have dec:(4294967296<=g\/r*4294967296+u2<g*v2)->(bq (prt U j (v.length+1))<g*bq v/\(g - 1) % 18446744073709551616=g - 1/\0<=g - 1/\(g - 1)*v1+(r+v1)=u1+4294967296*u0):=λh=>by
  have h1:=aaV hP x9 ya Ak IZ hx' hV0 g0' I0 h;have h2:g≠0:=by
   rintro rfl;omega
  refine⟨h1,by omega,by omega,?_⟩;rw[ζE,εy];omega
 simp only[e1,e2,e3,hor2];have brk:(4294967296<=g\/r*4294967296+u2<g*v2)->4294967296<=r+v1->∃gg,gg=(g - 1) % 18446744073709551616/\(0<=gg/\gg<4294967296)/\bq (prt U j (v.length+1))<(gg+1)*bq v/\gg*bq v<bq (prt U j (v.length+1))+bq v:=λh hb=>by
  obtain⟨k1,k2,k3,k4⟩:=dec h;have k5:=RB hb;rw[k2];refine⟨_,rfl,by omega,by rw[show g - 1+1=g by omega];exact k1,Ry hP x9 ya Ak Am xk hv1 vO.1 k3 (by omega) k4 ?_⟩;have:=δy (show g - 1<=4294967295 by omega) (show v2<=4294967295 by omega) vO.1 (by omega);omega
 have An:(4294967296<=g\/r*4294967296+u2<g*v2)->¬4294967296<=r+v1->(0<=(g - 1) % 18446744073709551616/\(g - 1) % 18446744073709551616<=4294967297)/\(g - 1) % 18446744073709551616*v1+(r+v1)=u1+4294967296*u0/\bq (prt U j (v.length+1))<((g - 1) % 18446744073709551616+1)*bq v/\((g - 1) % 18446744073709551616).toNat<g.toNat:=λh hb=>by
  obtain⟨k1,k2,k3,k4⟩:=dec h;rw[k2];exact⟨by omega,k4,by rw[show g - 1+1=g by omega];exact k1,by omega⟩
 have ext:¬4294967296<=g->¬r*4294967296+u2<g*v2->∃gg,gg=g/\(0<=gg/\gg<4294967296)/\bq (prt U j (v.length+1))<(gg+1)*bq v/\gg*bq v<bq (prt U j (v.length+1))+bq v:=λh h2=>
  ⟨_,rfl,by omega,hgx,Ry hP x9 ya Ak Am xk hv1 vO.1 g0' (by omega) I0 (by omega)⟩;clear I0 DT e1 e2 e3 gv0 gv1 hor2 x9 ya Ak Am xk IZ RB dec htp;refine⟨λhB=>?_,λhB=>?_⟩
 ·refine⟨by omega,by omega,by omega,by omega,?_⟩;refine⟨λhb=>?_,λhb=>?_⟩
  ·obtain⟨gg,hgg,f0,f2,f3⟩:=brk (.inl hB) hb;rw[<-hgg];clear hB hb;clear hgg brk An ext hgx hgr;refine⟨?_,?_⟩
   ·repeat' refine γe ?_ ?_
    all_goals first|omega|exact hU|exact f2|exact f3|exact λ_ _=>trivial|(simp only[bq];omega)
   clear f0 f2 f3;rintro⟨i,ga,c,b,R⟩ ⟨⟨i0,i1⟩,⟨om,qI⟩,⟨f2,f3⟩,⟨c0,c1⟩,⟨b0,b1⟩,⟨hR,hRl⟩,ho,he⟩;simp only at i0 i1 om qI f2 f3 c0 c1 b0 b1 hR hRl ho he ⊢;refine⟨λpU=>?_,λpV=>?_⟩
   ·have x:=dK hv i.toNat;have y:=dK hR (j+i.toNat);have RD:0<=ga*bp v i.toNat 0:=γh om x.1;have RE:ga*bp v i.toNat 0<=4294967295*4294967295:=δy (by omega) (by omega) x.1 (by omega);have q1:bp v i.toNat 0 % 18446744073709551616=bp v i.toNat 0:=by omega
    have q2:bp R (j+i.toNat) 0 % 18446744073709551616=bp R (j+i.toNat) 0:=by omega
    have q3:(ga*bp v i.toNat 0 % 18446744073709551616+c) % 18446744073709551616=ga*bp v i.toNat 0+c:=by omega
    have hi1:(i+1).toNat=i.toNat+1:=by omega
    rw[q1,q2,q3,IQ (by omega) (by omega),hi1];generalize hq:((bp R (j+i.toNat) 0 - (ga*bp v i.toNat 0+c) % 4294967296) % 18446744073709551616 - b) % 18446744073709551616=q;obtain⟨k1,k2,k3,k4,k5⟩:=IU (d:=q % 4294967296) (e:=q / 9223372036854775808) hR hRl hv om qI c0 c1 b0 b1 (show j+i.toNat<U.length by omega) ho he (by omega) (by omega);repeat' refine γe ?_ ?_
    all_goals first|omega|exact k1|exact k2|exact k3|exact k4|exact k5|exact f2|exact f3
   ·have hi:i.toNat=v.length:=by omega
    rw[hi,χ] at he;rw[hi] at ho;have hun:=ho (j+v.length) (.inr (ψ _));have du:=dK hU (j+v.length);have q2:bp R (j+v.length) 0 % 18446744073709551616=bp R (j+v.length) 0:=by rw[hun];omega
    have qJ:=@mo U j v.length;rw[q2];generalize hq:((bp R (j+v.length) 0 - c) % 18446744073709551616 - b) % 18446744073709551616=q;have kS:bB (R.set (j+v.length) (q % 4294967296)):=nz hR (by omega) (by omega);have hlen:(R.set (j+v.length) (q % 4294967296)).length=U.length:=by simp[hRl]
    have hout:∀m,(m<j\/j+(v.length+1)<=m)->bp (R.set (j+v.length) (q % 4294967296)) m 0=bp U m 0:=λm hm=>by rw[pT (by omega)];exact ho m (by omega)
    have hval:bq (prt (R.set (j+v.length) (q % 4294967296)) j (v.length+1))=bq (prt U j (v.length+1)) - ga*bq v+4294967296^(v.length+1)*(q / 9223372036854775808):=by
     rw[mo,uk (ψ _),sP (by omega),he,qJ,γs];have hd:q % 4294967296 - 4294967296*(q / 9223372036854775808)=bp U (j+v.length) 0 - c - b:=by rw[hun] at hq;omega
     generalize (4294967296:Int)^v.length=B;have e:B*4294967296*(q / 9223372036854775808)=B*(q % 4294967296+c+b - bp U (j+v.length) 0):=by rw[γO];congr 1;omega
     rw[e];simp only[εx,εI];omega
    generalize hW:R.set (j+v.length) (q % 4294967296)=W at*;have hbd:=vN kS (j:=j) (k:=v.length+1);have hnn:=dX (um kS (j:=j) (k:=v.length+1));have q3:0<=q/\q<18446744073709551616:=by omega
    clear hq hun du q2 he ho hR;repeat refine γe (by omega) ?_
    refine⟨λhz=>?_,λhz=>?_⟩
    ·rw[hz,δK,εg] at hval;obtain⟨w1,w2⟩:=uo (q:=ga) (show ga*bq v<=bq (prt U j (v.length+1)) by omega) f2;refine⟨by rw[w1];omega,?_⟩;have hfin:W=ju U j (iC (v.length+1) (bq (prt U j (v.length+1)) % bq v)):=x8 kS hlen (by omega) hout (by rw[hval,w2]);rw[hfin];rfl
    ·have hq1:q / 9223372036854775808=1:=by omega
     rw[hq1,δ5] at hval;have f4:bq (prt U j (v.length+1))<ga*bq v:=by omega
     refine⟨?_,?_⟩
     ·repeat' refine γe ?_ ?_
      all_goals first|omega|exact kS|exact hlen|exact⟨W,⟨kS,hlen⟩,hout,hval,λ_ _=>rfl,by simp only[bq]⟩
     clear kS hlen hout hval hW hbd hnn q3 hz hq1 f4 f2 f3 c0 c1 b0 b1 i0 i1 om qI;rintro⟨i2,gb,c2,R2⟩ ⟨⟨i0,i1⟩,⟨Ao,Ap⟩,⟨f5,f6⟩,⟨c0,c1⟩,⟨hR2,qK⟩,W2,⟨hW2,uq⟩,ho2,uu,ho3,qL⟩;simp only at i0 i1 Ao Ap f5 f6 c0 c1 hR2 qK ho3 qL ⊢;refine⟨λpU=>?_,λpV=>?_⟩
     ·have x:=dK hv i2.toNat;have y:=dK hR2 (j+i2.toNat);have hi1:(i2+1).toNat=i2.toNat+1:=by omega
      rw[hi1];have hs:((bp R2 (j+i2.toNat) 0 % 18446744073709551616+bp v i2.toNat 0 % 18446744073709551616) % 18446744073709551616+c2) % 18446744073709551616=bp R2 (j+i2.toNat) 0+bp v i2.toNat 0+c2:=by omega
      rw[hs];obtain⟨k1,k2,k3,k4,k5⟩:=IV hR2 (qK.trans uq.symm) hv c0 c1 (show j+i2.toNat<W2.length by omega) hW2 ho3 qL rfl;repeat' refine γe ?_ ?_
      all_goals first|omega|exact k1|exact f5|exact f6|exact⟨W2,⟨hW2,uq⟩,ho2,uu,k4,k5⟩
     ·have hi2:i2.toNat=v.length:=by omega
      rw[hi2,χ] at qL;rw[hi2] at ho3;have hun:=ho3 (j+v.length) (.inr (ψ _));have du:=dK hW2 (j+v.length);have qJ:=@mo W2 j v.length;have hc2:c2 % 4294967296=c2:=by omega
      rw[hc2,hun];have hF:bB (R2.set (j+v.length) ((bp W2 (j+v.length) 0+c2) % 4294967296)):=nz hR2 (by omega) (by omega);have Aq:(R2.set (j+v.length) ((bp W2 (j+v.length) 0+c2) % 4294967296)).length=U.length:=by simp[qK]
      have Ar:∀m,(m<j\/j+(v.length+1)<=m)->bp (R2.set (j+v.length) ((bp W2 (j+v.length) 0+c2) % 4294967296)) m 0=bp U m 0:=λm hm=>by rw[pT (by omega),ho3 m (by omega)];exact ho2 m hm
      have qM:bq (prt (R2.set (j+v.length) ((bp W2 (j+v.length) 0+c2) % 4294967296)) j (v.length+1))=bq (prt U j (v.length+1)) - gb*bq v+4294967296^(v.length+1)+bq v - 4294967296^(v.length+1)*((bp W2 (j+v.length) 0+c2) / 4294967296):=by
       rw[mo,uk (ψ _),sP (by omega),<-uu,qJ,γs];generalize (4294967296:Int)^v.length=B at*;have e:B*4294967296*((bp W2 (j+v.length) 0+c2) / 4294967296)=B*(bp W2 (j+v.length) 0+c2 - (bp W2 (j+v.length) 0+c2) % 4294967296):=by rw[γO];congr 1;omega
       rw[e];simp only[εx,εI];omega
      have hbd:=vN hF (j:=j) (k:=v.length+1);have hk:(bp W2 (j+v.length) 0+c2) / 4294967296=1:=by
       by_cases h:(bp W2 (j+v.length) 0+c2) / 4294967296=1;·exact h
       ·have h0:(bp W2 (j+v.length) 0+c2) / 4294967296=0:=by omega
        rw[h0,δK] at qM;omega
      rw[hk,δ5] at qM;have e1:(gb - 1)*bq v=gb*bq v - bq v:=by rw[ζE,εy]
      obtain⟨w1,w2⟩:=uo (q:=gb - 1) (show(gb - 1)*bq v<=bq (prt U j (v.length+1)) by omega) (by rw[show gb - 1+1=gb by omega];exact f5);have DT:0<gb:=by
       by_cases h:0<gb;·exact h
       ·have:gb=0:=by omega
        subst this;omega
      have hfin:R2.set (j+v.length) ((bp W2 (j+v.length) 0+c2) % 4294967296)=ju U j (iC (v.length+1) (bq (prt U j (v.length+1)) % bq v)):=x8 hF Aq (by omega) Ar (by rw[qM,w2,e1];omega);repeat refine γe (by omega) ?_
      rw[hfin];rfl
  ·obtain⟨k1,k2,k3,k4⟩:=An (.inl hB) hb;repeat' refine γe ?_ ?_
   all_goals first|omega|exact k2|exact k3
 ·repeat refine γe (by omega) ?_
  refine⟨λhc=>?_,λhc=>?_⟩
  ·repeat refine γe (by omega) ?_
   refine⟨λhb=>?_,λhb=>?_⟩
   ·obtain⟨gg,hgg,f0,f2,f3⟩:=brk (.inr hc) hb;rw[<-hgg];clear hB hb hc;clear hgg brk An ext hgx hgr;refine⟨?_,?_⟩
    ·repeat' refine γe ?_ ?_
     all_goals first|omega|exact hU|exact f2|exact f3|exact λ_ _=>trivial|(simp only[bq];omega)
    clear f0 f2 f3;rintro⟨i,ga,c,b,R⟩ ⟨⟨i0,i1⟩,⟨om,qI⟩,⟨f2,f3⟩,⟨c0,c1⟩,⟨b0,b1⟩,⟨hR,hRl⟩,ho,he⟩;simp only at i0 i1 om qI f2 f3 c0 c1 b0 b1 hR hRl ho he ⊢;refine⟨λpU=>?_,λpV=>?_⟩
    ·have x:=dK hv i.toNat;have y:=dK hR (j+i.toNat);have RD:0<=ga*bp v i.toNat 0:=γh om x.1;have RE:ga*bp v i.toNat 0<=4294967295*4294967295:=δy (by omega) (by omega) x.1 (by omega);have q1:bp v i.toNat 0 % 18446744073709551616=bp v i.toNat 0:=by omega
     have q2:bp R (j+i.toNat) 0 % 18446744073709551616=bp R (j+i.toNat) 0:=by omega
     have q3:(ga*bp v i.toNat 0 % 18446744073709551616+c) % 18446744073709551616=ga*bp v i.toNat 0+c:=by omega
     have hi1:(i+1).toNat=i.toNat+1:=by omega
     rw[q1,q2,q3,IQ (by omega) (by omega),hi1];generalize hq:((bp R (j+i.toNat) 0 - (ga*bp v i.toNat 0+c) % 4294967296) % 18446744073709551616 - b) % 18446744073709551616=q;obtain⟨k1,k2,k3,k4,k5⟩:=IU (d:=q % 4294967296) (e:=q / 9223372036854775808) hR hRl hv om qI c0 c1 b0 b1 (show j+i.toNat<U.length by omega) ho he (by omega) (by omega);repeat' refine γe ?_ ?_
     all_goals first|omega|exact k1|exact k2|exact k3|exact k4|exact k5|exact f2|exact f3
    ·have hi:i.toNat=v.length:=by omega
     rw[hi,χ] at he;rw[hi] at ho;have hun:=ho (j+v.length) (.inr (ψ _));have du:=dK hU (j+v.length);have q2:bp R (j+v.length) 0 % 18446744073709551616=bp R (j+v.length) 0:=by rw[hun];omega
     have qJ:=@mo U j v.length;rw[q2];generalize hq:((bp R (j+v.length) 0 - c) % 18446744073709551616 - b) % 18446744073709551616=q;have kS:bB (R.set (j+v.length) (q % 4294967296)):=nz hR (by omega) (by omega);have hlen:(R.set (j+v.length) (q % 4294967296)).length=U.length:=by simp[hRl]
     have hout:∀m,(m<j\/j+(v.length+1)<=m)->bp (R.set (j+v.length) (q % 4294967296)) m 0=bp U m 0:=λm hm=>by rw[pT (by omega)];exact ho m (by omega)
     have hval:bq (prt (R.set (j+v.length) (q % 4294967296)) j (v.length+1))=bq (prt U j (v.length+1)) - ga*bq v+4294967296^(v.length+1)*(q / 9223372036854775808):=by
      rw[mo,uk (ψ _),sP (by omega),he,qJ,γs];have hd:q % 4294967296 - 4294967296*(q / 9223372036854775808)=bp U (j+v.length) 0 - c - b:=by rw[hun] at hq;omega
      generalize (4294967296:Int)^v.length=B;have e:B*4294967296*(q / 9223372036854775808)=B*(q % 4294967296+c+b - bp U (j+v.length) 0):=by rw[γO];congr 1;omega
      rw[e];simp only[εx,εI];omega
     generalize hW:R.set (j+v.length) (q % 4294967296)=W at*;have hbd:=vN kS (j:=j) (k:=v.length+1);have hnn:=dX (um kS (j:=j) (k:=v.length+1));have q3:0<=q/\q<18446744073709551616:=by omega
     clear hq hun du q2 he ho hR;repeat refine γe (by omega) ?_
     refine⟨λhz=>?_,λhz=>?_⟩
     ·rw[hz,δK,εg] at hval;obtain⟨w1,w2⟩:=uo (q:=ga) (show ga*bq v<=bq (prt U j (v.length+1)) by omega) f2;refine⟨by rw[w1];omega,?_⟩;have hfin:W=ju U j (iC (v.length+1) (bq (prt U j (v.length+1)) % bq v)):=x8 kS hlen (by omega) hout (by rw[hval,w2]);rw[hfin];rfl
     ·have hq1:q / 9223372036854775808=1:=by omega
      rw[hq1,δ5] at hval;have f4:bq (prt U j (v.length+1))<ga*bq v:=by omega
      refine⟨?_,?_⟩
      ·repeat' refine γe ?_ ?_
       all_goals first|omega|exact kS|exact hlen|exact⟨W,⟨kS,hlen⟩,hout,hval,λ_ _=>rfl,by simp only[bq]⟩
      clear kS hlen hout hval hW hbd hnn q3 hz hq1 f4 f2 f3 c0 c1 b0 b1 i0 i1 om qI;rintro⟨i2,gb,c2,R2⟩ ⟨⟨i0,i1⟩,⟨Ao,Ap⟩,⟨f5,f6⟩,⟨c0,c1⟩,⟨hR2,qK⟩,W2,⟨hW2,uq⟩,ho2,uu,ho3,qL⟩;simp only at i0 i1 Ao Ap f5 f6 c0 c1 hR2 qK ho3 qL ⊢;refine⟨λpU=>?_,λpV=>?_⟩
      ·have x:=dK hv i2.toNat;have y:=dK hR2 (j+i2.toNat);have hi1:(i2+1).toNat=i2.toNat+1:=by omega
       rw[hi1];have hs:((bp R2 (j+i2.toNat) 0 % 18446744073709551616+bp v i2.toNat 0 % 18446744073709551616) % 18446744073709551616+c2) % 18446744073709551616=bp R2 (j+i2.toNat) 0+bp v i2.toNat 0+c2:=by omega
       rw[hs];obtain⟨k1,k2,k3,k4,k5⟩:=IV hR2 (qK.trans uq.symm) hv c0 c1 (show j+i2.toNat<W2.length by omega) hW2 ho3 qL rfl;repeat' refine γe ?_ ?_
       all_goals first|omega|exact k1|exact f5|exact f6|exact⟨W2,⟨hW2,uq⟩,ho2,uu,k4,k5⟩
      ·have hi2:i2.toNat=v.length:=by omega
       rw[hi2,χ] at qL;rw[hi2] at ho3;have hun:=ho3 (j+v.length) (.inr (ψ _));have du:=dK hW2 (j+v.length);have qJ:=@mo W2 j v.length;have hc2:c2 % 4294967296=c2:=by omega
       rw[hc2,hun];have hF:bB (R2.set (j+v.length) ((bp W2 (j+v.length) 0+c2) % 4294967296)):=nz hR2 (by omega) (by omega);have Aq:(R2.set (j+v.length) ((bp W2 (j+v.length) 0+c2) % 4294967296)).length=U.length:=by simp[qK]
       have Ar:∀m,(m<j\/j+(v.length+1)<=m)->bp (R2.set (j+v.length) ((bp W2 (j+v.length) 0+c2) % 4294967296)) m 0=bp U m 0:=λm hm=>by rw[pT (by omega),ho3 m (by omega)];exact ho2 m hm
       have qM:bq (prt (R2.set (j+v.length) ((bp W2 (j+v.length) 0+c2) % 4294967296)) j (v.length+1))=bq (prt U j (v.length+1)) - gb*bq v+4294967296^(v.length+1)+bq v - 4294967296^(v.length+1)*((bp W2 (j+v.length) 0+c2) / 4294967296):=by
        rw[mo,uk (ψ _),sP (by omega),<-uu,qJ,γs];generalize (4294967296:Int)^v.length=B at*;have e:B*4294967296*((bp W2 (j+v.length) 0+c2) / 4294967296)=B*(bp W2 (j+v.length) 0+c2 - (bp W2 (j+v.length) 0+c2) % 4294967296):=by rw[γO];congr 1;omega
        rw[e];simp only[εx,εI];omega
       have hbd:=vN hF (j:=j) (k:=v.length+1);have hk:(bp W2 (j+v.length) 0+c2) / 4294967296=1:=by
        by_cases h:(bp W2 (j+v.length) 0+c2) / 4294967296=1;·exact h
        ·have h0:(bp W2 (j+v.length) 0+c2) / 4294967296=0:=by omega
         rw[h0,δK] at qM;omega
       rw[hk,δ5] at qM;have e1:(gb - 1)*bq v=gb*bq v - bq v:=by rw[ζE,εy]
       obtain⟨w1,w2⟩:=uo (q:=gb - 1) (show(gb - 1)*bq v<=bq (prt U j (v.length+1)) by omega) (by rw[show gb - 1+1=gb by omega];exact f5);have DT:0<gb:=by
        by_cases h:0<gb;·exact h
        ·have:gb=0:=by omega
         subst this;omega
       have hfin:R2.set (j+v.length) ((bp W2 (j+v.length) 0+c2) % 4294967296)=ju U j (iC (v.length+1) (bq (prt U j (v.length+1)) % bq v)):=x8 hF Aq (by omega) Ar (by rw[qM,w2,e1];omega);repeat refine γe (by omega) ?_
       rw[hfin];rfl
   ·obtain⟨k1,k2,k3,k4⟩:=An (.inr hc) hb;repeat' refine γe ?_ ?_
    all_goals first|omega|exact k2|exact k3
  ·obtain⟨gg,hgg,f0,f2,f3⟩:=ext hB hc;rw[<-hgg];clear hB hc;clear hgg brk An ext hgx hgr;refine⟨?_,?_⟩
   ·repeat' refine γe ?_ ?_
    all_goals first|omega|exact hU|exact f2|exact f3|exact λ_ _=>trivial|(simp only[bq];omega)
   clear f0 f2 f3;rintro⟨i,ga,c,b,R⟩ ⟨⟨i0,i1⟩,⟨om,qI⟩,⟨f2,f3⟩,⟨c0,c1⟩,⟨b0,b1⟩,⟨hR,hRl⟩,ho,he⟩;simp only at i0 i1 om qI f2 f3 c0 c1 b0 b1 hR hRl ho he ⊢;refine⟨λpU=>?_,λpV=>?_⟩
   ·have x:=dK hv i.toNat;have y:=dK hR (j+i.toNat);have RD:0<=ga*bp v i.toNat 0:=γh om x.1;have RE:ga*bp v i.toNat 0<=4294967295*4294967295:=δy (by omega) (by omega) x.1 (by omega);have q1:bp v i.toNat 0 % 18446744073709551616=bp v i.toNat 0:=by omega
    have q2:bp R (j+i.toNat) 0 % 18446744073709551616=bp R (j+i.toNat) 0:=by omega
    have q3:(ga*bp v i.toNat 0 % 18446744073709551616+c) % 18446744073709551616=ga*bp v i.toNat 0+c:=by omega
    have hi1:(i+1).toNat=i.toNat+1:=by omega
    rw[q1,q2,q3,IQ (by omega) (by omega),hi1];generalize hq:((bp R (j+i.toNat) 0 - (ga*bp v i.toNat 0+c) % 4294967296) % 18446744073709551616 - b) % 18446744073709551616=q;obtain⟨k1,k2,k3,k4,k5⟩:=IU (d:=q % 4294967296) (e:=q / 9223372036854775808) hR hRl hv om qI c0 c1 b0 b1 (show j+i.toNat<U.length by omega) ho he (by omega) (by omega);repeat' refine γe ?_ ?_
    all_goals first|omega|exact k1|exact k2|exact k3|exact k4|exact k5|exact f2|exact f3
   ·have hi:i.toNat=v.length:=by omega
    rw[hi,χ] at he;rw[hi] at ho;have hun:=ho (j+v.length) (.inr (ψ _));have du:=dK hU (j+v.length);have q2:bp R (j+v.length) 0 % 18446744073709551616=bp R (j+v.length) 0:=by rw[hun];omega
    have qJ:=@mo U j v.length;rw[q2];generalize hq:((bp R (j+v.length) 0 - c) % 18446744073709551616 - b) % 18446744073709551616=q;have kS:bB (R.set (j+v.length) (q % 4294967296)):=nz hR (by omega) (by omega);have hlen:(R.set (j+v.length) (q % 4294967296)).length=U.length:=by simp[hRl]
    have hout:∀m,(m<j\/j+(v.length+1)<=m)->bp (R.set (j+v.length) (q % 4294967296)) m 0=bp U m 0:=λm hm=>by rw[pT (by omega)];exact ho m (by omega)
    have hval:bq (prt (R.set (j+v.length) (q % 4294967296)) j (v.length+1))=bq (prt U j (v.length+1)) - ga*bq v+4294967296^(v.length+1)*(q / 9223372036854775808):=by
     rw[mo,uk (ψ _),sP (by omega),he,qJ,γs];have hd:q % 4294967296 - 4294967296*(q / 9223372036854775808)=bp U (j+v.length) 0 - c - b:=by rw[hun] at hq;omega
     generalize (4294967296:Int)^v.length=B;have e:B*4294967296*(q / 9223372036854775808)=B*(q % 4294967296+c+b - bp U (j+v.length) 0):=by rw[γO];congr 1;omega
     rw[e];simp only[εx,εI];omega
    generalize hW:R.set (j+v.length) (q % 4294967296)=W at*;have hbd:=vN kS (j:=j) (k:=v.length+1);have hnn:=dX (um kS (j:=j) (k:=v.length+1));have q3:0<=q/\q<18446744073709551616:=by omega
    clear hq hun du q2 he ho hR;repeat refine γe (by omega) ?_
    refine⟨λhz=>?_,λhz=>?_⟩
    ·rw[hz,δK,εg] at hval;obtain⟨w1,w2⟩:=uo (q:=ga) (show ga*bq v<=bq (prt U j (v.length+1)) by omega) f2;refine⟨by rw[w1];omega,?_⟩;have hfin:W=ju U j (iC (v.length+1) (bq (prt U j (v.length+1)) % bq v)):=x8 kS hlen (by omega) hout (by rw[hval,w2]);rw[hfin];rfl
    ·have hq1:q / 9223372036854775808=1:=by omega
     rw[hq1,δ5] at hval;have f4:bq (prt U j (v.length+1))<ga*bq v:=by omega
     refine⟨?_,?_⟩
     ·repeat' refine γe ?_ ?_
      all_goals first|omega|exact kS|exact hlen|exact⟨W,⟨kS,hlen⟩,hout,hval,λ_ _=>rfl,by simp only[bq]⟩
     clear kS hlen hout hval hW hbd hnn q3 hz hq1 f4 f2 f3 c0 c1 b0 b1 i0 i1 om qI;rintro⟨i2,gb,c2,R2⟩ ⟨⟨i0,i1⟩,⟨Ao,Ap⟩,⟨f5,f6⟩,⟨c0,c1⟩,⟨hR2,qK⟩,W2,⟨hW2,uq⟩,ho2,uu,ho3,qL⟩;simp only at i0 i1 Ao Ap f5 f6 c0 c1 hR2 qK ho3 qL ⊢;refine⟨λpU=>?_,λpV=>?_⟩
     ·have x:=dK hv i2.toNat;have y:=dK hR2 (j+i2.toNat);have hi1:(i2+1).toNat=i2.toNat+1:=by omega
      rw[hi1];have hs:((bp R2 (j+i2.toNat) 0 % 18446744073709551616+bp v i2.toNat 0 % 18446744073709551616) % 18446744073709551616+c2) % 18446744073709551616=bp R2 (j+i2.toNat) 0+bp v i2.toNat 0+c2:=by omega
      rw[hs];obtain⟨k1,k2,k3,k4,k5⟩:=IV hR2 (qK.trans uq.symm) hv c0 c1 (show j+i2.toNat<W2.length by omega) hW2 ho3 qL rfl;repeat' refine γe ?_ ?_
      all_goals first|omega|exact k1|exact f5|exact f6|exact⟨W2,⟨hW2,uq⟩,ho2,uu,k4,k5⟩
     ·have hi2:i2.toNat=v.length:=by omega
      rw[hi2,χ] at qL;rw[hi2] at ho3;have hun:=ho3 (j+v.length) (.inr (ψ _));have du:=dK hW2 (j+v.length);have qJ:=@mo W2 j v.length;have hc2:c2 % 4294967296=c2:=by omega
      rw[hc2,hun];have hF:bB (R2.set (j+v.length) ((bp W2 (j+v.length) 0+c2) % 4294967296)):=nz hR2 (by omega) (by omega);have Aq:(R2.set (j+v.length) ((bp W2 (j+v.length) 0+c2) % 4294967296)).length=U.length:=by simp[qK]
      have Ar:∀m,(m<j\/j+(v.length+1)<=m)->bp (R2.set (j+v.length) ((bp W2 (j+v.length) 0+c2) % 4294967296)) m 0=bp U m 0:=λm hm=>by rw[pT (by omega),ho3 m (by omega)];exact ho2 m hm
      have qM:bq (prt (R2.set (j+v.length) ((bp W2 (j+v.length) 0+c2) % 4294967296)) j (v.length+1))=bq (prt U j (v.length+1)) - gb*bq v+4294967296^(v.length+1)+bq v - 4294967296^(v.length+1)*((bp W2 (j+v.length) 0+c2) / 4294967296):=by
       rw[mo,uk (ψ _),sP (by omega),<-uu,qJ,γs];generalize (4294967296:Int)^v.length=B at*;have e:B*4294967296*((bp W2 (j+v.length) 0+c2) / 4294967296)=B*(bp W2 (j+v.length) 0+c2 - (bp W2 (j+v.length) 0+c2) % 4294967296):=by rw[γO];congr 1;omega
       rw[e];simp only[εx,εI];omega
      have hbd:=vN hF (j:=j) (k:=v.length+1);have hk:(bp W2 (j+v.length) 0+c2) / 4294967296=1:=by
       by_cases h:(bp W2 (j+v.length) 0+c2) / 4294967296=1;·exact h
       ·have h0:(bp W2 (j+v.length) 0+c2) / 4294967296=0:=by omega
        rw[h0,δK] at qM;omega
      rw[hk,δ5] at qM;have e1:(gb - 1)*bq v=gb*bq v - bq v:=by rw[ζE,εy]
      obtain⟨w1,w2⟩:=uo (q:=gb - 1) (show(gb - 1)*bq v<=bq (prt U j (v.length+1)) by omega) (by rw[show gb - 1+1=gb by omega];exact f5);have DT:0<gb:=by
       by_cases h:0<gb;·exact h
       ·have:gb=0:=by omega
        subst this;omega
      have hfin:R2.set (j+v.length) ((bp W2 (j+v.length) 0+c2) % 4294967296)=ju U j (iC (v.length+1) (bq (prt U j (v.length+1)) % bq v)):=x8 hF Aq (by omega) Ar (by rw[qM,w2,e1];omega);repeat refine γe (by omega) ?_
      rw[hfin];rfl
theorem uv {U:List Int} {j:Nat} (h:j<=U.length):bq U=bq (U.take j)+4294967296^j*bq (U.drop j):=by
 conv=>lhs;rw[<-List.take_append_drop j U]
 grind[DN]
theorem aa9 {U l:List Int} {j:Nat} (h:j<=U.length):(ju U j l).take j=U.take j:=by
 grind[ju]
theorem abb {U l:List Int} {j:Nat} (h:j<=U.length):(ju U j l).drop j=l++U.drop (j+l.length):=by
 grind[ju]
theorem abd {U l:List Int} {j:Nat} (a:bB U) (b:bB l):bB (ju U j l):=vK (kR a _) (vK b (x5 a _))
theorem abe {U q v:List Int} {j m:Nat} {A:Int} (d:bB U) (w:bB v) (G:bB q) (H:2<=v.length) (u:U.length=m+1+v.length) (x:q.length=m+1) (J:j<=m) (p:0<bq v)
  (s:bp q j 0=0) (B:bq U+bq v*bq q=A) (D:bq (U.drop (j+1))<bq v):
  bq (prt U j (v.length+1))<4294967296*bq v/\
  (bB (ju U j (iC (v.length+1) (bq (prt U j (v.length+1)) % bq v)))/\(ju U j (iC (v.length+1) (bq (prt U j (v.length+1)) % bq v))).length=U.length)/\
  (0<=bq (prt U j (v.length+1)) / bq v/\bq (prt U j (v.length+1)) / bq v<4294967296)/\
  bq (ju U j (iC (v.length+1) (bq (prt U j (v.length+1)) % bq v)))+bq v*bq (q.set j (bq (prt U j (v.length+1)) / bq v))=A/\
  bq ((ju U j (iC (v.length+1) (bq (prt U j (v.length+1)) % bq v))).drop j)<bq v:=by
 have y:=je w;have f:=x5 d (j+1);have l:=dX (um d (j:=j) (k:=v.length+1));have b:bq (U.drop (j+(v.length+1)))=0:=by
  have e:bq (U.drop (j+1))=bq ((U.drop (j+1)).take v.length)+4294967296^v.length*bq ((U.drop (j+1)).drop v.length):=uv (by simp;omega);rw[δi,show j+1+v.length=j+(v.length+1) by omega] at e;have I:=dX (kR f v.length);have F:=dX (x5 d (j+(v.length+1)));by_cases h:bq (U.drop (j+(v.length+1)))=0;·exact h
  ·have:=ν (show(1:Int)<=bq (U.drop (j+(v.length+1))) by omega) (ω (pow_pos v.length));omega
 have a:bq (U.drop j)=bq (prt U j (v.length+1)):=by
  have e:bq (U.drop j)=bq ((U.drop j).take (v.length+1))+4294967296^(v.length+1)*bq ((U.drop j).drop (v.length+1)):=uv (by simp;omega);rw[δi,b,δK,εg] at e;exact e
 have g:bq (U.drop j)=bp U j 0+4294967296*bq (U.drop (j+1)):=by
  rw[DK (show j<U.length by omega)];rfl
 have K:=dK d j;have r:bq (prt U j (v.length+1))<4294967296*bq v:=by omega
 have i:=@Ag (v.length+1) (bq (prt U j (v.length+1)) % bq v);have C:=γ9 (bq (prt U j (v.length+1))) (show bq v≠0 by omega);have E:=γM (bq (prt U j (v.length+1))) p;have t:bq (iC (v.length+1) (bq (prt U j (v.length+1)) % bq v))=bq (prt U j (v.length+1)) % bq v:=by
  grind[IG]
 have o:bq ((ju U j (iC (v.length+1) (bq (prt U j (v.length+1)) % bq v))).drop j)=bq (prt U j (v.length+1)) % bq v:=by
  grind[abb,DN]
 have c:(ju U j (iC (v.length+1) (bq (prt U j (v.length+1)) % bq v))).length=U.length:=Rx (by rw[i];omega);have n:0<=bq (prt U j (v.length+1)) / bq v:=δa l (by omega);refine⟨r,⟨abd d IC,c⟩,⟨n,δC p r⟩,?_,by omega⟩;rw[uv (U:=ju U j _) (j:=j) (by rw[c];omega),aa9 (by omega),o,uj (by omega),s,ε5];rw[uv (U:=U) (j:=j) (by omega),a] at B;have z:=δb (bq (prt U j (v.length+1))) (bq v);grind
theorem RF {a b:List Int} {s:Nat} (k:bB a) (w:bB b) (u:s<=31) (l:b.length<=a.length) (q:1<=b.length) (d:1<=bp b (b.length - 1) 0):
  bB (shl a s)/\(shl a s).length=a.length+1/\bq (shl a s)=bq a*2^s/\bq ((shl a s).drop (a.length - b.length+1))<bq b*2^s:=by
 have e:(0:Int)<2^s:=γS (by decide);have v:(2:Int)^s<=2147483648:=by
  have h:(2:Nat)^s<=2^31:=δu (by decide) u;grind
 have f:=dX k;have g:=je k;have n:bq a*2^s<4294967296^a.length*2^s:=γN g e;have c:bq (shl a s)=bq a*2^s:=by
  unfold shl;refine IG (γh f (ω e)) (εF n ?_);rw[γs];exact ν (by omega) (ω (pow_pos _))
 have i:bB (shl a s):=IC;have t:(shl a s).length=a.length+1:=Ag;refine⟨i,t,c,?_⟩;have h:=uv (U:=shl a s) (j:=a.length - b.length+1) (by omega);have y:=dX (kR i (a.length - b.length+1));have x:4294967296^(b.length - 1)*bp b (b.length - 1) 0<=bq b:=IK w;have o:(4294967296:Int)^(b.length - 1)<=bq b:=by
  have:=ν d (ω (pow_pos (b.length - 1)));omega
 have m:(4294967296:Int)^a.length=4294967296^(a.length - b.length+1)*4294967296^(b.length - 1):=by
  rw[<-δf];congr 1;omega
 rw[c] at h;have p:(4294967296:Int)^(a.length - b.length+1)*bq ((shl a s).drop (a.length - b.length+1))<4294967296^(a.length - b.length+1)*(4294967296^(b.length - 1)*2^s):=by
  rw[<-γO,<-m];omega
 have r:=εp p (ω (pow_pos _));exact εF r (γE o (ω e))
theorem abf {x y:Int} {s:Nat} (n:0<=x) (u:x<4294967296) (t:0<=y) (o:y<4294967296) (g:0<s) (q:s<=31):
  ∃r,ie.nV .u32 (x / 2^s) (y*2^(32 - s) % 4294967296)=r/\(0<=r/\r<4294967296)/\2^s*r=x - x % 2^s+4294967296*(y % 2^s):=by
 have b:(0:Int)<2^s:=γS (by decide);have c:(0:Int)<2^(32 - s):=γS (by decide);have l:(4294967296:Int)=2^s*2^(32 - s):=by
  rw[<-δf,show s+(32 - s)=32 by omega];decide
 have f:y*2^(32 - s) % 4294967296=(y % 2^s)*2^(32 - s):=by
  conv=>lhs;rw[l]
  rw[δL y,δL (2^s),ζk _ _ c,δL]
 have d:=γ9 y (show(2:Int)^s≠0 by omega);have p:=γM y b;have e:0<=x / 2^s:=δa n (ω b);have m:x / 2^s<2^(32 - s):=δC b (by grind);have h:(y % 2^s)*2^(32 - s)+2^(32 - s)<=4294967296:=by
  have:=γE (show y % 2^s+1<=2^s by omega) (ω c);grind
 have j:0<=(y % 2^s)*2^(32 - s):=γh d (ω c);have a:=Rq (k:=32 - s) e m d (by omega) (by omega);refine⟨x / 2^s+(y % 2^s)*2^(32 - s),by rw[f,a],⟨by omega,by omega⟩,?_⟩;have i:=δb x (2^s);grind
theorem RG {U r:List Int} {i s:Nat} {d:Int} (b:bB U) (c:bB r) (h:i<r.length) (g:∀j,i<=j->bp r j 0=0) (a:0<=d/\d<4294967296)
  (f:2^s*d=bp U i 0 - bp U i 0 % 2^s+4294967296*(bp U (i+1) 0 % 2^s))
  (e:2^s*bq r=bq (U.take i) - bp U 0 0 % 2^s+4294967296^i*(bp U i 0 % 2^s)):
  bB (r.set i d)/\(r.set i d).length=r.length/\(∀j,i+1<=j->bp (r.set i d) j 0=0)/\
  2^s*bq (r.set i d)=bq (U.take (i+1)) - bp U 0 0 % 2^s+4294967296^(i+1)*(bp U (i+1) 0 % 2^s):=by
 grind[nz,pT,uj,js]
theorem abg {U r v q:List Int} {n s:Nat} {a b:Int} (f:bB U) (A:bB r) (y:bB v) (g:v.length=n) (u:bq U<bq v) (J:bq v=b*2^s) (C:0<b) (D:bq U+bq v*bq q=a*2^s)
  (G:s<=31) (x:n+1<=U.length)
  (c:2^s*bq r=bq (U.take n) - bp U 0 0 % 2^s+4294967296^n*(bp U n 0 % 2^s)):bq q=a / b/\bq r=a % b:=by
 have H:(0:Int)<2^s:=γS (by decide);have m:=je y;rw[g] at m;have o:bp U n 0=0:=Ai f (i:=n) (by omega) (ψ _);have e:bq (U.take n)=bq U:=by
  have k:=uv (U:=U) (j:=n) (by omega);have p:=dX (kR f n);have w:=dX (x5 f n);by_cases h:bq (U.drop n)=0;·simp_all
  ·have:=ν (show(1:Int)<=bq (U.drop n) by omega) (ω (pow_pos n));omega
 have d:bq U=2^s*(a - b*bq q):=by
  grind
 have l:bp U 0 0 % 2^s=0:=by
  have k:=@js U 0;have p:=uv (U:=U) (j:=1) (by omega);have E:(4294967296:Int)=2^s*2^(32 - s):=by
   rw[<-δf,show s+(32 - s)=32 by omega];decide
  simp only[Nat.zero_add,List.take_zero,bq,εf,εy,Int.zero_add] at k;rw[k,γs,εf,εy] at p;have w:bp U 0 0=2^s*(a - b*bq q - 2^(32 - s)*bq (U.drop 1)):=by
   grind
  simp_all
 rw[o,l,e,Int.zero_emod,δK,ε5,εg,d] at c;have t:bq r=a - b*bq q:=Int.eq_of_mul_eq_mul_left (by omega) c;have B:=dX A;have z:bq r<b:=by
  have:2^s*bq r<2^s*b:=by
   grind
  simp_all
 obtain⟨F,I⟩:=uo (X:=a) (V:=b) (q:=bq q) (by grind) (by grind);grind
theorem DU:∀{w:List Int},bB w->dS w->w≠[]->4294967296^(w.length - 1)<=bq w
 |[],_,_,h=>absurd rfl h
 |[d],a,b,_=>by
  have f:=(jd.1 a).1;have c:=b.1 rfl;grind[bq];|d::e::l,a,b,_=>by
  obtain⟨f,c⟩:=jd.1 a;have g:=DU c b.2 (by simp);have i:bq (d::e::l)=d+4294967296*bq (e::l):=rfl;simp only[List.length_cons,ζJ] at g ⊢;omega
theorem uw {a b:Nat} (h:a<=b):(4294967296:Int)^a<=4294967296^b:=by
 obtain⟨m,rfl⟩:=δJ h;rw[δf];have c:=pow_pos a;have d:=pow_pos m;have:=ν (show(1:Int)<=4294967296^m by omega) (ω c);omega
theorem I1 {t:List Int} {s:Nat} (e:bB t) (H:1<=t.length) (G:s<=31) (d:bp t (t.length - 1) 0*2^s<4294967296) (c:2147483648<=bp t (t.length - 1) 0*2^s):
  bB (bR (shl t s))/\(bR (shl t s)).length=t.length/\bq (bR (shl t s))=bq t*2^s/\2147483648<=bp (bR (shl t s)) (t.length - 1) 0/\1<=bp t (t.length - 1) 0:=by
 have o:(0:Int)<2^s:=γS (by decide);have q:=dK e (t.length - 1);have a:1<=bp t (t.length - 1) 0:=by
  grind
 obtain⟨y,N,z,_⟩:=RF e e G (ψ _) H a;obtain⟨f,E⟩:=@rH (shl t s);have i:=sN y;rw[z] at f;generalize bR (shl t s)=w at*;obtain⟨n,A⟩:∃n,t.length=n+1:=⟨t.length - 1,by omega⟩;rw[A] at d c a q ⊢;simp only[ζJ] at d c a q ⊢;have p:=pow_pos n;have v:bq t=bq (t.take n)+4294967296^n*bp t n 0:=by
  grind[js]
 have B:=dX (kR e n);have k:=je (kR e n);rw[γG,δP (by omega)] at k;have J:(4294967296:Int)=2^(32 - s)*2^s:=by
  rw[<-δf,show 32 - s+s=32 by omega];decide
 have L:(0:Int)<2^(32 - s):=γS (by decide);have D:bp t n 0<2^(32 - s):=by
  simp_all
 have l:(bp t n 0+1)*2^s<=4294967296:=by
  have:=γE (show bp t n 0+1<=2^(32 - s) by omega) (ω o);omega
 have x:bq w<4294967296^(n+1):=by
  rw[f,γs];have F:bq t<4294967296^n*(bp t n 0+1):=by grind
  have M:=γN F o;have I:=ν l (ω p);grind
 have u:4294967296^n*(bp t n 0*2^s)<=bq w:=by
  rw[f,<-γO];exact γE (by omega) (ω o)
 have r:(4294967296:Int)^n<=bq w:=by
  have:=ν (show(1:Int)<=bp t n 0*2^s by omega) (ω p);omega
 have b:w.length=n+1:=by
  have K:n<w.length:=by
   by_cases h:n<w.length;·exact h
   ·have:=je i;have:=uw (show w.length<=n by omega);omega
  by_cases h:w.length=n+1;·exact h
  ·have j:w≠[]:=by grind
   have:=DU i E j;have:=uw (show n+1<=w.length - 1 by omega);omega
 refine⟨i,b,f,?_,a⟩;have C:bq w=bq (w.take n)+4294967296^n*bp w n 0:=by
  grind[js]
 have m:=je (kR i n);rw[γG,δP (by omega)] at m;have g:4294967296^n*(bp t n 0*2^s)<4294967296^n*(bp w n 0+1):=by grind
 have:=εp g (ω p);omega
def QD:List bL:=[rF,xX,Ae,IB,xY,IL]
theorem hQD:∀c∈QD,Holds Tryz.prog c:=by
 simp only[QD,List.forall_mem_cons,List.not_mem_nil,false_implies,implies_true,and_true];grind[h152,h132,h154,h167,h128,h168p]
def WD:List dD:=[IP,IW]
theorem hWD:∀c∈WD,eu Tryz.prog c:=by
 simp_all[WD,h168,h169]
def DV:bL:=⟨176,List Int×List Int,.cons (cV (.i .u32)) (.one (cV (.i .u32))),λa=>(bB a.1/\bB a.2)/\(a.1.length<=10000000000/\a.2.length<=10000000000)/\0<bq a.2,
 λa=> .bN [.row (.i .u32) (bO (bq a.1 / bq a.2)),.row (.i .u32) (bO (bq a.1 % bq a.2)),.si .i64 0]⟩
def rI (a:List Int×List Int) (s:Int):Prop:=(0<=s/\s<=31)/\bp (bR a.2) ((bR a.2).length - 1) 0*2^s.toNat<4294967296/\2147483648<=bp (bR a.2) ((bR a.2).length - 1) 0*2^s.toNat
def abk (a:List Int×List Int):Nat->cC
 |10=> .inv Int (λs=>⟨[(0,.row (.i .u32) (bR a.1)),(1,.row (.i .u32) (bR a.2)),(9,.si .u64 s)],[]⟩) (λs=>iS s 9)
  (λs=>(0<=s/\s<=31)/\bp (bR a.2) ((bR a.2).length - 1) 0*2^s.toNat<4294967296) (λs=>(32 - s).toNat) λ_ _=> .look
 |17=> .inv (Int×Int×List Int×List Int) (λx=>⟨[(4,.ow 1 x.2.2.2.length 1),(9,.si .u64 x.2.1),(10,.ow 0 x.2.2.1.length 1),(11,.row (.i .u32) (bR (shl (bR a.2) x.2.1.toNat))),(12,.si .i64 (bR (shl (bR a.2) x.2.1.toNat)).length),
   (13,.si .i64 ((bR a.1).length - (bR a.2).length)),(74,.si .i64 ((bR a.1).length - (bR a.2).length+1)),(75,.si .i64 x.1)],[.row (.i .u32) x.2.2.1 187 false,.row (.i .u32) x.2.2.2 187 true]⟩)
  (λs=>(iS s 75,iS s 9,oS (.i .u32) s 0,oS (.i .u32) s 1))
  (λx=>(0<=x.1/\x.1<=(bR a.1).length - (bR a.2).length+1)/\rI a x.2.1/\(bB x.2.2.1/\x.2.2.1.length=(bR a.1).length+1)/\(bB x.2.2.2/\x.2.2.2.length=(bR a.1).length - (bR a.2).length+1)/\
   (∀j:Nat,(j:Int)<(bR a.1).length - (bR a.2).length+1 - x.1->bp x.2.2.2 j 0=0)/\
   bq x.2.2.1+bq (bR (shl (bR a.2) x.2.1.toNat))*bq x.2.2.2=bq (bR a.1)*2^x.2.1.toNat/\
   bq (x.2.2.1.drop (((bR a.1).length - (bR a.2).length+1 - x.1:Int).toNat))<bq (bR (shl (bR a.2) x.2.1.toNat)))
  (λx=>((bR a.1).length - (bR a.2).length+1 - x.1:Int).toNat) λ_ _=> .look
 |24=> .inv (Int×Int×List Int×List Int×List Int) (λx=>⟨[(4,.ow 1 x.2.2.2.1.length 1),(5,.ow 2 x.2.2.2.2.length 1),(9,.si .u64 x.2.1),(10,.ow 0 x.2.2.1.length 1),(100,.si .i64 (bR (shl (bR a.2) x.2.1.toNat)).length),(101,.si .i64 x.1)],
   [.row (.i .u32) x.2.2.1 187 false,.row (.i .u32) x.2.2.2.1 187 true,.row (.i .u32) x.2.2.2.2 187 true]⟩)
  (λs=>(iS s 101,iS s 9,oS (.i .u32) s 0,oS (.i .u32) s 1,oS (.i .u32) s 2))
  (λx=>(0<=x.1/\x.1<=(bR (shl (bR a.2) x.2.1.toNat)).length)/\rI a x.2.1/\(bB x.2.2.1/\x.2.2.1.length=(bR a.1).length+1)/\(bB x.2.2.2.1/\x.2.2.2.1.length=(bR a.1).length - (bR a.2).length+1)/\
   bq x.2.2.1+bq (bR (shl (bR a.2) x.2.1.toNat))*bq x.2.2.2.1=bq (bR a.1)*2^x.2.1.toNat/\bq x.2.2.1<bq (bR (shl (bR a.2) x.2.1.toNat))/\
   (bB x.2.2.2.2/\x.2.2.2.2.length=(bR (shl (bR a.2) x.2.1.toNat)).length)/\(∀j,x.1.toNat<=j->bp x.2.2.2.2 j 0=0)/\
   2^x.2.1.toNat*bq x.2.2.2.2=bq (x.2.2.1.take x.1.toNat) - bp x.2.2.1 0 0 % 2^x.2.1.toNat+4294967296^x.1.toNat*(bp x.2.2.1 x.1.toNat 0 % 2^x.2.1.toNat))
  (λx=>((bR (shl (bR a.2) x.2.1.toNat)).length - x.1).toNat) λ_ _=> .look
 |_=> .look
theorem h166g:Holds Tryz.prog DV:=by
 refine con (L:=QD) (W:=gC WD) DV abk (lj hWD) hQD ?_;rintro⟨a,b⟩ ⟨⟨ha,hb⟩,⟨hla,hlb⟩,b0⟩;simp only at ha hb hla hlb b0;refine bQ (let c:=(0:Int);let d:=(4294967296:Int);let e:=(18446744073709551616:Int);let f:=Δ;let g:=Ω .i64;let h:=bU .i64;let k:=bA.row;let l:=(1:Int);let m:=SV.ow;let n:=(32:Int);let o:=(140737488355328:Int);let p:=(1000000000000:Int);let q:=(2:Int);let r:=SV.bN;let s:=(31:Int);let z0:Nat:=(bR b).length;let Q:=(↑z0:Int);let ay:=decide (Q=c);let aj:=f (bw.i .i64) [];let t:=bw.i .u32;let ak:=g 0;let aa:=r [f t (bO (bq a / bq b)),f t (bO (bq a % bq b)),ak];let z7:Nat:=(bR a).length;let z8:Nat:=(bR b).length;let G:=bq (bR a);let az:=decide (iI G (bq (bR b))<c);let a3:=γo .i64 0;let aA:=decide (Q=l);let ab:=bp (bR b) 0 c;let al:=G % ab % e;let am:=bp (bR b) (z8 - 1) c;let a4:=Q - l;let an:=(↑(bR a).length:Int) - Q;let C:=an+l;let R:=δ C.toNat c;let ao:=(↑z7:Int) - (↑z8:Int);let ap:=g ao;let y:=ao+l;let aq:=g y;let aB:=k t R 187 true;let M:=z7+1;let N:=z7 - z8+1;a.length<=1000000000000/\b.length<=1000000000000/\(ay=true->(r [aj,aj,γo .i64 8]).same aa)/\(ay=false->((bB (bR a)/\bB (bR b))/\z7<=1000000000000/\z8<=1000000000000)/\(az=true->((bB (bR a)/\bB [])/\z7<=100000000000/\0<=100000000000)/\(r [aj,f t (bO (G+bq [])),a3]).same aa)/\(az=false->(aA=true->c<=c/\c<Q/\0<z0/\(bB (bR a)/\z7<=100000000000/\c<ab/\ab<d)/\(c<=al/\al<e)/\(r [f t (bO (G / ab)),f t (bO al),a3]).same aa)/\(aA=false->((((f t (bR a)).same (f t (bR a))/\(f t (bR b)).same (f t (bR b))/\(γo .u64 0).same (Ω .u64 0)/\True)/\True)/\(c<=c/\c<=s)/\am*l<d)/\∀(x:Int),let ar:=q^x.toNat;let a5:=(x+l) % e;let aC:=Ω .u64 a5;let aD:=shl (bR b) x.toNat;let S:=shl (bR a) x.toNat;let aE:=m 0 S.length 1;let T:=bR aD;let aF:=k t S 187 false;let aG:=λ(u:Bool) ↦decide (bp (bR b) a4.toNat c*ar % d<(2147483648:Int))=u;(c<=x/\x<=s)/\am*ar<d->h a4/\c<=a4/\a4<Q/\a4.toNat<z0/\c<=x/\x<=n/\(aG true->(((f t (bR a)).same (f t (bR a))/\(f t (bR b)).same (f t (bR b))/\aC.same aC/\True)/\True)/\((c<=a5/\a5<=s)/\am*q^a5.toNat<d)/\(n - a5).toNat<(n - x).toNat)/\(aG false->Aj (bR a,x)/\Aj (bR b,x)/\aD.length<=1000000000000/\h an/\h C/\c<=C/\C<=C/\C*(4:Int)<=o/\C<=p/\h C/\((((m 1 C.toNat 1).same (m 1 R.length 1)/\(Ω .u64 x).same (Ω .u64 x)/\aE.same aE/\(f t T).same (f t T)/\(g (↑T.length:Int)).same (g (↑T.length:Int))/\(g an).same ap/\(g C).same aq/\a3.same ak/\True)/\aF.same aF/\aB.same aB/\True)/\(c<=c/\c<=y)/\rI (a,b) x/\(bB S/\S.length=M)/\(bB R/\R.length=N)/\(∀(j:Nat),(↑j:Int)<y - c->bp R j c=c)/\bq S+bq T*bq R=G*ar/\bq (γ3 (y - c).toNat S)<bq T)/\∀(x:Int×Int×List Int×List Int),let D:=x.snd.snd.fst;let U:=bR (shl (bR b) x.snd.fst.toNat);let V:=bq U;let w:=x.snd.snd.snd;let ac:=q^x.snd.fst.toNat;let W:=D.length;let aH:=decide (x.fst<y);let H:=ao - x.fst;let z:=(↑U.length:Int);let a6:=H+z+l;let a7:=H.toNat;let a8:=a6.toNat;let I:=nA.mk D a7 (a8 - a7) W U;let O:=x.fst+l;let au:=m 1 w.length 1;let X:=w.set a7 (I.x / V);let ad:=Ω .u64 x.snd.fst;let av:=m 0 W 1;let ae:=g z;let aI:=g O;let aJ:=k t I.row 187 false;let aK:=k t X 187 true;let Y:=δ z.toNat c;let aL:=k t D 187 false;let aM:=k t w 187 true;let aN:=k t Y 187 true;let aO:=bp D 0 c % ac;let aP:=bq D+V*bq w=G*ac;(c<=x.fst/\x.fst<=y)/\rI (a,b) x.snd.fst/\(bB D/\W=M)/\(bB w/\w.length=N)/\(∀(j:Nat),(↑j:Int)<y - x.fst->bp w j c=c)/\aP/\bq (γ3 (y - x.fst).toNat D)<V->(aH=true->h H/\h (H+z)/\h a6/\h (H+z)/\h a6/\W=D.length/\c<=H/\c<=a6/\c<=a6/\a7<=a8/\a8<=a8/\a8<=W/\I.ok/\w.length=w.length/\c<=H/\H<(↑w.length:Int)/\w.length=w.length/\a7<w.length/\h O/\((au.same (m 1 X.length 1)/\ad.same ad/\av.same (m 0 I.row.length 1)/\(f t U).same (f t U)/\ae.same ae/\ap.same ap/\aq.same aq/\aI.same aI/\True)/\aJ.same aJ/\aK.same aK/\True)/\((c<=O/\O<=y)/\rI (a,b) x.snd.fst/\(bB I.row/\I.row.length=M)/\(bB X/\X.length=N)/\(∀(j:Nat),(↑j:Int)<y - O->bp X j c=c)/\bq I.row+V*bq X=G*ac/\bq (γ3 (y - O).toNat I.row)<V)/\(y - O).toNat<(y - x.fst).toNat)/\(aH=false->c<=z/\z<=z/\z*(4:Int)<=o/\z<=p/\(((au.same au/\(m 2 z.toNat 1).same (m 2 Y.length 1)/\ad.same ad/\av.same av/\ae.same ae/\a3.same ak/\True)/\aL.same aL/\aM.same aM/\aN.same aN/\True)/\(c<=c/\c<=z)/\rI (a,b) x.snd.fst/\(bB D/\W=M)/\(bB w/\w.length=N)/\aP/\bq D<V/\(bB Y/\Y.length=U.length)/\(∀(j:Nat),0<=j->bp Y j c=c)/\ac*bq Y=bq [] - aO+l*aO)/\∀(x:Int×Int×List Int×List Int×List Int),let aQ:=Ω .u64 x.snd.fst;let v:=x.snd.snd.fst;let aR:=m 0 v.length 1;let a9:=bR (shl (bR b) x.snd.fst.toNat);let af:=a9.length;let Z:=(↑af:Int);let aS:=g Z;let E:=x.fst+l;let aT:=g E;let A:=x.snd.snd.snd.snd;let P:=A.length;let F:=x.fst.toNat;let aU:=bp v F c;let J:=q^x.snd.fst.toNat;let B:=A.set F (aU / J);let K:=x.snd.snd.snd.fst;let a0:=K.length;let aV:=m 1 a0 1;let aW:=bp v 0 c % J;let aX:=decide (x.fst<Z);let L:=v.length;let aY:=decide (c<x.snd.fst);let a1:=E.toNat;let aw:=(n - x.snd.fst) % e;let aZ:=m 2 P 1;let b0:=bp v a1 c;let a2:=B.set F (ie.nV .u32 (bp B F c) (b0*q^aw.toNat % d));let ag:=k t v 187 false;let ah:=k t K 187 true;let b1:=k t a2 187 true;let b2:=bq (τ a1 v) - aW+d^a1*(b0 % J);let b3:=k t B 187 true;let b4:=aQ.same aQ/\aR.same aR/\aS.same aS/\aT.same aT/\True;let ai:=P=B.length;let b5:=x.fst<(↑B.length:Int);let b6:=F<B.length;let ax:=bq v+bq a9*bq K=G*J;let b7:=(Z - E).toNat<(Z - x.fst).toNat;let b8:=aV.same aV;let b9:=c<=E/\E<=Z;(c<=x.fst/\x.fst<=Z)/\rI (a,b) x.snd.fst/\(bB v/\v.length=M)/\(bB K/\a0=N)/\ax/\bq v<bq a9/\(bB A/\P=af)/\(∀(j:Nat),F<=j->bp A j c=c)/\J*bq A=bq (τ F v) - aW+d^F*(aU % J)->(aX=true->v.length=L/\c<=x.fst/\x.fst<(↑L:Int)/\v.length=L/\F<L/\c<=x.snd.fst/\x.snd.fst<=n/\P=A.length/\c<=x.fst/\x.fst<(↑A.length:Int)/\P=A.length/\F<A.length/\(aY=true->ai/\c<=x.fst/\b5/\ai/\b6/\h E/\v.length=L/\c<=E/\E<(↑L:Int)/\v.length=L/\a1<L/\c<=aw/\aw<=n/\ai/\c<=x.fst/\b5/\ai/\b6/\h E/\((b8/\aZ.same (m 2 a2.length 1)/\b4)/\ag.same ag/\ah.same ah/\b1.same b1/\True)/\(b9/\rI (a,b) x.snd.fst/\(bB v/\v.length=M)/\(bB K/\a0=N)/\ax/\bq v<bq a9/\(bB a2/\a2.length=af)/\(∀(j:Nat),a1<=j->bp a2 j c=c)/\J*bq a2=b2)/\b7)/\(aY=false->h E/\((b8/\aZ.same (m 2 B.length 1)/\b4)/\ag.same ag/\ah.same ah/\b3.same b3/\True)/\(b9/\rI (a,b) x.snd.fst/\(bB v/\v.length=M)/\(bB K/\a0=N)/\ax/\bq v<bq a9/\(bB B/\B.length=af)/\(∀(j:Nat),a1<=j->bp B j c=c)/\J*bq B=b2)/\b7))/\(aX=false->a0=K.length/\P=A.length/\a0<=1000000000000/\P<=1000000000000/\(r [f t (bR K),f t (bR A),a3]).same aa))))))) (by kernel_rfl) ?_;simp only[vcs];obtain⟨va,na⟩:=@rH a;obtain⟨vb,nb⟩:=@rH b;have da:=sN ha;have db:=sN hb;have la:=@ug a;have lb:=@ug b;have p0:=dX da;have d0:bB []:=by simp[bB]
 simp only[rI];rw[<-va,<-vb];rw[<-vb] at b0;generalize bR a=S at*;generalize bR b=T at*;have hm:=γ9 (bq S) (show bq T≠0 by omega);have hl:=γM (bq S) b0;have hT1:T.length≠0:=by
  intro h;rw[π h] at b0;exact absurd b0 (by decide)
 refine⟨by omega,by omega,λh0=>by omega,λh0=>⟨⟨⟨da,db⟩,by omega,by omega⟩,λhlt=>⟨⟨⟨da,d0⟩,by omega,by omega⟩,?_⟩,λhge=>⟨λh1=>?_,λh1=>⟨?_,?_⟩⟩⟩⟩
 ·have hab:bq S<bq T:=by unfold iI at hlt;split at hlt<;>(try split at hlt)<;>omega
  have hdv:bq S / bq T=0:=δQ p0 hab;have hmv:bq S % bq T=bq S:=δp p0 hab;refine⟨II (by rw[hdv];rfl),?_⟩;rw[hmv];simp[bq]
 ·obtain⟨d,rfl⟩:∃d,T=[d]:=List.length_eq_one_iff.1 (by omega);have hd:=(jd.1 db).1;have abl:bp [d] 0 0=d:=rfl;have hv:bq [d]=d:=by simp[bq]
  rw[hv] at b0 hm hl ⊢;rw[abl];have hmm:bq S % d % 18446744073709551616=bq S % d:=by omega
  rw[hmm];repeat' refine γe ?_ ?_
  all_goals first|omega|exact da|rfl|(simp;done)
 ·have:=dK db (T.length - 1);repeat' refine γe ?_ ?_
  all_goals omega
 have Rn:bq T<=bq S:=by unfold iI at hge;split at hge<;>(try split at hge)<;>omega
 have hlen:T.length<=S.length:=by
  by_cases h:S.length<T.length
  ·have:=xW da db nb h;omega
  ·omega
 have hTn:2<=T.length:=by omega
 clear hge h0 h1 hT1 va vb d0;rintro s ⟨⟨s0,s1⟩,hs⟩;have t1:((T.length:Int) - 1).toNat=T.length - 1:=by omega
 have hxt:=dK db (T.length - 1);have hps:(0:Int)<2^s.toNat:=γS (by decide);have hnn:0<=bp T (T.length - 1) 0*2^s.toNat:=γh hxt.1 (ω hps);have hmod:bp T (T.length - 1) 0*2^s.toNat % 4294967296=bp T (T.length - 1) 0*2^s.toNat:=by omega
 rw[t1,hmod];repeat refine γe (by omega) ?_
 refine⟨λhc=>?_,λhc=>?_⟩
 ·have htop:1<=bp T (T.length - 1) 0:=by
   by_cases h:1<=bp T (T.length - 1) 0;·exact h
   ·exfalso;have h4:=DU db nb (by rintro rfl;simp at hTn);have h5:bq T=bq (T.take (T.length - 1))+4294967296^(T.length - 1)*bp T (T.length - 1) 0:=by
     have:=@js T (T.length - 1);rwa [show T.length - 1+1=T.length by omega,χ] at this
    have h6:=je (kR db (T.length - 1));rw[γG,δP (by omega)] at h6;rw[show bp T (T.length - 1) 0=0 by omega,δK] at h5;omega
  have h31:s<=30:=by
   by_cases h:s<=30;·exact h
   ·have abn:s.toNat=31:=by omega
    rw[abn,show(2:Int)^31=2147483648 from rfl] at hc;omega
  have e:((s+1) % 18446744073709551616)=s+1:=by omega
  have e2:(s+1).toNat=s.toNat+1:=by omega
  rw[e,e2,γs,<-γO];repeat' refine γe ?_ ?_
  all_goals omega
 ·obtain⟨dw,lw,vw,tw,yb⟩:=I1 db (by omega) (show s.toNat<=31 by omega) hs (by omega);obtain⟨ds,ls,vs,hst⟩:=RF da db (show s.toNat<=31 by omega) hlen (by omega) yb;have hds:∀z,Aj (z,s)↔(bB z/\z.length<=100000000000):=λz=>⟨λh=>⟨h.1,h.2.1⟩,λh=>⟨h.1,h.2,s0,s1⟩⟩;have bP:(shl T s.toNat).length=T.length+1:=Ag;have bits:(0<=s/\s<=31)/\bp T (T.length - 1) 0*2^s.toNat<4294967296/\2147483648<=bp T (T.length - 1) 0*2^s.toNat:=⟨⟨s0,s1⟩,hs,by omega⟩;rw[hds,hds,bP,ls];refine⟨⟨da,by omega⟩,⟨db,by omega⟩,?_⟩;repeat refine γe (by omega) ?_
  refine⟨?_,?_⟩
  ·repeat' refine γe ?_ ?_
   all_goals first|omega|exact lL (by simp)|exact lL (by omega)|exact ds|exact x6|exact λj _=>Ro|(simp;omega)|(rw[vM,δK,εg];exact vs)|(rw[vw,show((S.length:Int) - T.length+1 - 0).toNat=S.length - T.length+1 by omega];exact hst)
  clear hst vs ls ds bits hds hmod hnn hps hxt yb tw vw lw dw bP t1 hc hs s0 s1;clear s;rintro⟨i,s,U,q⟩ ⟨⟨i0,i1⟩,⟨⟨s0,s1⟩,hs,hs2⟩,⟨hU,DW⟩,⟨hq,DX⟩,hz,he,hlt⟩;simp only at i0 i1 s0 s1 hs hs2 hU DW hq DX hz he hlt ⊢;obtain⟨dw,lw,vw,tw,yb⟩:=I1 db (by omega) (show s.toNat<=31 by omega) hs (by omega);generalize hw:bR (shl T s.toNat)=w at*;have hw0:0<bq w:=by
   rw[vw];exact εh b0 (γS (by decide))
  refine⟨λpU=>?_,λpV=>?_⟩
  ·obtain⟨j,hj⟩:∃j:Nat,(S.length:Int) - T.length - i=j:=⟨((S.length:Int) - T.length - i).toNat,by omega⟩;have e1:((j:Int)+w.length+1).toNat - j=w.length+1:=by omega
   have e2:((S.length:Int) - T.length+1 - i).toNat=j+1:=by omega
   rw[e2] at hlt;obtain⟨k1,⟨k2,k3⟩,⟨k4,k5⟩,k6,k7⟩:=abe (j:=j) (m:=S.length - T.length) hU dw hq (by omega) (by omega) (by omega) (by omega) hw0 (hz j (by omega)) he hlt;have e3:((S.length:Int) - T.length+1 - (i+1)).toNat=j:=by omega
   simp only[hj,e1,e3,γb,nA.row,nA.x,nA.ok];repeat' refine γe ?_ ?_
   all_goals first|omega|exact lL (by simp)|exact lL k3.symm|exact trivial|exact hU|exact dw|exact k1|exact k2|exact k6|exact k7|exact nz hq k4 k5|(simp;omega)|(rw[lw];exact tw)|exact λp hp=>by rw[pT (by omega)];exact hz p (by omega)
  ·have e2:((S.length:Int) - T.length+1 - i).toNat=0:=by omega
   rw[e2,List.drop_zero] at hlt;repeat refine γe (by omega) ?_
   refine⟨?_,?_⟩
   ·have h1:=@js U 0;simp only[List.take_zero,bq,εf,εy];repeat' refine γe ?_ ?_
    all_goals first|omega|exact lL (by simp)|exact hU|exact hq|exact he|exact hlt|exact x6|exact λj _=>Ro|(simp;done)|(rw[vM];omega)
   clear hlt hz e2 pV i0 i1 tw yb hw0 hs hs2 s0 s1 he hU DW hq DX;clear hw dw lw vw;clear w s i U q;rintro⟨i,s,U,q,r⟩ ⟨⟨i0,i1⟩,⟨⟨s0,s1⟩,hs,hs2⟩,⟨hU,DW⟩,⟨hq,DX⟩,he,hlt,⟨hr,hrl⟩,hz,hv⟩;simp only at i0 i1 s0 s1 hs hs2 hU DW hq DX he hlt hr hrl hz hv ⊢;obtain⟨dw,lw,vw,tw,yb⟩:=I1 db (by omega) (show s.toNat<=31 by omega) hs (by omega);generalize hw:bR (shl T s.toNat)=w at*;refine⟨λpU=>?_,λpV=>?_⟩
   ·have x0:=dK hU i.toNat;have x1:=dK hU (i.toNat+1);have e1:(i+1).toNat=i.toNat+1:=by omega
    have x2:=dK hr i.toNat;have hps:(0:Int)<2^s.toNat:=γS (by decide);have y0:0<=bp U i.toNat 0 / 2^s.toNat:=δa x0.1 (ω hps);have y1:bp U i.toNat 0 / 2^s.toNat<=bp U i.toNat 0:=Int.ediv_le_self _ x0.1;have e2:((32 - s) % 18446744073709551616).toNat=32 - s.toNat:=by omega
    have e3:(r.set i.toNat (bp U i.toNat 0 / 2^s.toNat)).set i.toNat=r.set i.toNat:=by funext z;rw[List.set_set]
    simp only[e1,e2,e3,sP (show i.toNat<r.length by omega),Ψ];repeat refine γe (by omega) ?_
    refine⟨λhs0=>?_,λhs0=>?_⟩
    ·obtain⟨d,hd1,hd2,hd3⟩:=abf (s:=s.toNat) x0.1 x0.2 x1.1 x1.2 (by omega) (by omega);obtain⟨k1,k2,k3,k4⟩:=RG hU hr (show i.toNat<r.length by omega) hz hd2 hd3 hv;rw[hd1];repeat' refine γe ?_ ?_
     all_goals first|omega|exact lL (by simp)|exact hU|exact hq|exact k1|exact k3|exact k4|exact he|exact hlt|trivial
    ·have abo:s.toNat=0:=by omega
     obtain⟨k1,k2,k3,k4⟩:=RG (s:=s.toNat) (d:=bp U i.toNat 0 / 2^s.toNat) hU hr (show i.toNat<r.length by omega) hz ⟨y0,by omega⟩ (by rw[abo];simp) hv;repeat' refine γe ?_ ?_
     all_goals first|omega|exact lL (by simp)|exact hU|exact hq|exact k1|exact k3|exact k4|exact he|exact hlt|trivial
   ·have hi:i.toNat=w.length:=by omega
    rw[hi] at hv;obtain⟨w1,w2⟩:=abg hU hr dw rfl hlt vw b0 he (show s.toNat<=31 by omega) (by omega) hv;rw[qH hq,qH hr,w1,w2];repeat' refine γe ?_ ?_
    all_goals first|omega|rfl|trivial
theorem vP {a b:List Int} (d:bB a) (c:bB b) (f:dS a) (h:bq a<=bq b):a.length<=b.length:=by
 by_cases e:a.length<=b.length;·exact e
 ·have:=xW c d f (by omega);omega
def DY:bL:=⟨151,List Int×List Int,.cons (cV (.i .u32)) (.one (cV (.i .u32))),λa=>(bB a.1/\bB a.2)/\(a.1.length<=1000000000/\a.2.length<=1000000000),
 λa=> .row (.i .u32) (bO (dV (bq a.1) (bq a.2)))⟩
def abp (a:List Int×List Int):Nat->cC
 |2=> .inv (List Int×List Int) (λx=>⟨[(0,.row (.i .u32) x.1),(1,.row (.i .u32) x.2)],[]⟩) (λs=>(rS (.i .u32) s 0,rS (.i .u32) s 1))
  (λx=>(bB x.1/\bB x.2)/\(dS x.1/\dS x.2)/\(x.1.length<=1000000000/\x.2.length<=1000000000)/\dV (bq x.1) (bq x.2)=dV (bq a.1) (bq a.2)) (λx=>(bq x.2).toNat) λ_ _=> .look
 |_=> .look
theorem h165g:Holds Tryz.prog DY:=by
 refine cq (L:=[Ae,DV]) DY abp (by grind[h154,h166g]) ?_;rintro⟨a,b⟩ ⟨⟨l,k⟩,⟨n,m⟩⟩;simp only at l k n m;refine bQ (let h:=Δ;let c:=bw.i .u32;let f:=bO (bq a+bq []);let e:=bO (bq b+bq []);let g:=dV (bq a) (bq b);((bB a/\bB [])/\a.length<=100000000000/\0<=100000000000)/\((bB b/\bB [])/\b.length<=100000000000/\0<=100000000000)/\((((h c f).same (h c f)/\(h c e).same (h c e)/\True)/\True)/\(bB f/\bB e)/\(dS f/\dS e)/\(f.length<=1000000000/\e.length<=1000000000)/\dV (bq f) (bq e)=g)/\∀(x:List Int×List Int),let v:=decide ((0:Int)<(↑x.snd.length:Int));let d:=bO (bq x.fst % bq x.snd);(bB x.fst/\bB x.snd)/\(dS x.fst/\dS x.snd)/\(x.fst.length<=1000000000/\x.snd.length<=1000000000)/\dV (bq x.fst) (bq x.snd)=g->(v=true->((bB x.fst/\bB x.snd)/\(x.fst.length<=10000000000/\x.snd.length<=10000000000)/\(0:Int)<bq x.snd)/\(false=true->(h c x.fst).same (h c (bO g)))/\(false=false->(((h c x.snd).same (h c x.snd)/\(h c d).same (h c d)/\True)/\True)/\((bB x.snd/\bB d)/\(dS x.snd/\dS d)/\(x.snd.length<=1000000000/\d.length<=1000000000)/\dV (bq x.snd) (bq d)=g)/\(bq d).toNat<(bq x.snd).toNat))/\(v=false->(h c x.fst).same (h c (bO g)))) (by kernel_rfl) ?_;simp only[vcs];have r:bB []:=by simp[bB]
 have N:=dX l;have E:=dX k;have z:bq []=0:=rfl;rw[z,εg,εg];obtain⟨Q,y,D⟩:=ec N;obtain⟨o,w,H⟩:=ec E;have p:(bO (bq a)).length<=1000000000:=by
  rw[<-qH l];grind[ug]
 have j:(bO (bq b)).length<=1000000000:=by
  rw[<-qH k];grind[ug]
 refine⟨⟨⟨l,r⟩,by omega,by omega⟩,⟨⟨k,r⟩,by omega,by omega⟩,⟨⟨y,w⟩,⟨D,H⟩,⟨p,j⟩,by rw[Q,o]⟩,?_⟩;rintro⟨s,t⟩ ⟨⟨u,q⟩,⟨J,C⟩,⟨O,G⟩,F⟩;simp only at u q J C G O F ⊢;have T:=dX u;have U:=dX q;refine⟨λB=>?_,λB=>?_⟩
 ·have h:0<bq t:=by
   grind[val_zero]
  have K:=γ9 (bq s) (show bq t≠0 by omega);have A:=γM (bq s) h;obtain⟨I,M,S⟩:=ec K;have P:=vP M q S (by rw[I];omega);grind[Rh]
 ·have R:t=[]:=π (by omega);grind[Ri,sO]
@[reducible] def sF:bw:=.pair .b (.pair (.bP (.i .u32)) (.bP (.i .u32)))
abbrev bM:=Bool×(List Int×List Int)
def bu (q:Rat):bM:=(decide (q<0),(bO (q.num.natAbs:Int),bO (q.den:Int)))
def bK (x:bM):Rat:=mkRat (if x.1 then -bq x.2.1 else bq x.2.1) (bq x.2.2).toNat
def Sz (k:Nat) (q:Rat):Prop:=(q.num.natAbs:Int)<4294967296^k/\(q.den:Int)<4294967296^k
theorem jv {n:Int} {k:Nat} (e:0<=n) (h:n<4294967296^k):(bO n).length<=k:=by
 obtain⟨f,b,d⟩:=ec e;by_cases c:(bO n).length<=k;·exact c
 ·have a:bO n≠[]:=by grind
  have:=DU b d a;have:=uw (show k<=(bO n).length - 1 by omega);omega
theorem I2 {a:List Int} {k:Nat} (h:bB a) (b:a.length<=k):bq a<4294967296^k:=by
 have:=je h;have:=uw b;omega
theorem dU (q:Rat):bK (bu q)=q:=by
 unfold bK bu;have a:=(ec (show(0:Int)<=(q.num.natAbs:Int) by omega)).1;have b:=(ec (show(0:Int)<=(q.den:Int) by omega)).1;simp only[a,b,decide_eq_true_eq,γb];grind[Rat.num_nonneg,δY]
theorem RI {N:Int} {D:Nat} (a:D≠0):(mkRat N D).num.natAbs=N.natAbs / N.natAbs.gcd D/\(mkRat N D).den=D / N.natAbs.gcd D:=by
 rw[<-ζn a,Rat.normalize_eq a];simp only;refine⟨?_,trivial⟩;have b:0<N.natAbs.gcd D:=Nat.gcd_pos_of_pos_right _ (by omega);have c:((N.natAbs.gcd D:Nat):Int)∣N:=Int.ofNat_dvd_left.2 (ζQ _ _);generalize N.natAbs.gcd D=g at*;obtain⟨m,rfl⟩:=c;rw[ζg _ (by omega),εq,ε6,Nat.mul_div_cancel_left _ b]
theorem abq {N:Int} {D:Nat} (f:D≠0):mkRat N D<0↔N<0:=by
 have i:(0:Rat)=mkRat 0 D:=(Rat.zero_mkRat D).symm;have e:mkRat N D<0↔¬0<=mkRat N D:=Rat.not_le.symm;rw[e,<-Rat.num_nonneg];have g:=Rat.num_divInt_den (mkRat N D);have c:(mkRat N D).num*(D:Int)=N*((mkRat N D).den:Int):=by
  grind[Rat.mkRat_eq_iff,mkRat,δY]
 have d:(0:Int)<((mkRat N D).den:Int):=by have:=(mkRat N D).den_pos;omega
 have b:(0:Int)<(D:Int):=by omega
 constructor
 ·intro h;by_cases a:N<0;·exact a
  ·exfalso;apply h;have:0<=(mkRat N D).num*(D:Int):=by rw[c];exact γh (by omega) (by omega)
   exact Int.nonneg_of_mul_nonneg_left this b
 ·intro a h;have:0<=(mkRat N D).num*(D:Int):=γh h (by omega);rw[c] at this;have:=εr a d;omega
theorem I3 {s:Bool} {n d:Int} (n0:0<=n) (f:0<d):bu (mkRat (if s then -n else n) d.toNat)=(s&&decide (0<n),(bO (n / dV n d),bO (d / dV n d))):=by
 have e:d.toNat≠0:=by omega
 obtain⟨b,c⟩:=RI (N:=if s then -n else n) e;have a:(if s then -n else n).natAbs=n.toNat:=by split<;>omega
 unfold bu;rw[b,c,a];have g:dV n d=((n.toNat.gcd d.toNat:Nat):Int):=rfl;refine εS ?_ (εS ?_ ?_)
 ·simp only;rw[Bool.eq_iff_iff];simp only[decide_eq_true_eq,Bool.and_eq_true];grind[abq]
 all_goals grind
theorem As {N:Int} {D:Nat} {k:Nat} (b:D≠0) (f:(N.natAbs:Int)<4294967296^k) (e:(D:Int)<4294967296^k):Sz k (mkRat N D):=by
 obtain⟨c,a⟩:=RI (N:=N) b;unfold Sz;rw[c,a];have g:=Nat.div_le_self N.natAbs (N.natAbs.gcd D);have d:=Nat.div_le_self D (N.natAbs.gcd D);omega
theorem Sz.mono {j k:Nat} {q:Rat} (h:Sz j q) (a:j<=k):Sz k q:=by
 have:=uw a;exact⟨by have:=h.1;omega,by have:=h.2;omega⟩
theorem RJ (p q:Rat):p+q=mkRat (p.num*q.den+q.num*p.den) (p.den*q.den):=by
 rw[Rat.add_def,ζn]
theorem vQ {p q:Rat} {i j:Nat} (e:Sz i p) (c:Sz j q):Sz (i+j+1) (p+q):=by
 rw[RJ];have g:=p.den_pos;have l:=q.den_pos;have k:p.den*q.den≠0:=Nat.ne_of_gt (Nat.mul_pos g l);have m:∀{a b:Int} {i j:Nat},0<=a->0<=b->a<4294967296^i->b<4294967296^j->a*b<4294967296^(i+j):=by
  intro a b i j h o f d;rw[δf];exact εa (ν (ω d) h) (γN f (pow_pos _))
 have f:=m (by omega) (by omega) e.1 c.2;have d:=m (by omega) (by omega) c.1 e.2;have n:=m (by omega) (by omega) e.2 c.2;rw[Nat.add_comm j i] at d;have t:=pow_pos (i+j);refine As k ?_ ?_
 ·have r:(p.num*(q.den:Int)).natAbs=p.num.natAbs*q.den:=by rw[εq,ε6]
  have s:(q.num*(p.den:Int)).natAbs=q.num.natAbs*p.den:=by rw[εq,ε6]
  omega
 omega
theorem vR {p:Rat} {i:Nat} (a:Sz i p):Sz i (-p):=by
 grind[Sz,Rat.neg_num,Rat.neg_den]
def lr (q:Rat):SV:=.agg (encS sF (bu q))
def cF (x:bM):Prop:=∃q k,x=bu q/\Sz k q/\k<=100000000
def ey (s:Bool) (n d:Int):Rat:=mkRat (if s then -n else n) d.toNat
def DZ:bL:=⟨110,Int,.one (ef .i64),λn=> -9223372036854775808<=(show Int from n)/\(show Int from n)<=9223372036854775807,λn=> .row (.i .u32) (bO ((show Int from n).natAbs:Int))⟩
theorem h127:Holds Tryz.prog DZ:=by
 refine cq (L:=[xY]) DZ lk (by grind[h128]) ?_;intro(n:Int) h;obtain⟨e,f⟩: -9223372036854775808<=n/\n<=9223372036854775807:=h;refine bQ (let e:=(18446744073709551616:Int);let f:=(1:Int);let g:=(0:Int);let h:=Δ;let d:=decide (n<g);let a:=(-(n+f)+f) % e;let b:=bw.i .u32;let c:=h b (bO (↑n.natAbs:Int));(d=true->bU .i64 (n+f)/\bU .i64 (-(n+f))/\bU .u64 (-(n+f))/\(g<=a/\a<e)/\(h b (bO a)).same c)/\(d=false->bU .u64 n/\(g<=n/\n<e)/\(h b (bO n)).same c)) (by kernel_rfl) ?_;simp only[vcs];grind[u64_in]
def Au:bL:=⟨147,Bool×(List Int×List Int),.cons HG (.cons (cV (.i .u32)) (.one (cV (.i .u32)))),λa=>(bB a.2.1/\bB a.2.2)/\(a.2.1.length<=1000000000/\a.2.2.length<=1000000000)/\0<bq a.2.2,
 λa=> .bN [lr (ey a.1 (bq a.2.1) (bq a.2.2)),.si .i64 0]⟩
theorem h151:Holds Tryz.prog Au:=by
 refine cq (L:=[DY,DV]) Au lk (by grind[h165g,h166g]) ?_;rintro⟨s,n,d⟩ ⟨⟨c,f⟩,⟨t,p⟩,j⟩;simp only at c f t p j;refine bQ (let b:=SV.bl false;let c:=γo .i64;let e:=Δ;let f:=(0:Int);let g:=γF;let h:=SV.bN;let k:=e (bw.i .i64) [];let w:=bu (ey s (bq n) (bq d));let l:=bw.i .u32;let y:=h [g [γn w.fst,e l w.snd.fst,e l w.snd.snd],Ω .i64 0];let a:=bO (dV (bq n) (bq d));let C:=bO (bq n / bq a);let B:=decide ((↑d.length:Int)=f);let F:=false=true->(h [g [b,k,k],c 8]).same y;let E:=λ(u:Bool) (v:SV) ↦s=u->(h [g [v,e l C,e l (bO (bq d / bq a))],c 0]).same y;(B=true->(h [g [b,k,k],c 8]).same y)/\(B=false->((bB n/\bB d)/\n.length<=1000000000/\d.length<=1000000000)/\((bB n/\bB a)/\(n.length<=10000000000/\a.length<=10000000000)/\f<bq a)/\((bB d/\bB a)/\(d.length<=10000000000/\a.length<=10000000000)/\f<bq a)/\F/\(false=false->F/\(false=false->E true (γn (decide (f<(↑C.length:Int))))/\E false (b))))) (by kernel_rfl) ?_;simp only[vcs];have D:=dX c;have b:0<dV (bq n) (bq d):=by
  simp_all[dV]
 have K:dV (bq n) (bq d)<=bq d:=by
  unfold dV;have:=Nat.gcd_le_right (bq n).toNat (show 0<(bq d).toNat by omega);omega
 have o:dV (bq n) (bq d)∣bq n:=by
  unfold dV;have:=ζQ (bq n).toNat (bq d).toNat;have S:=Int.natCast_dvd_natCast.2 this;grind
 obtain⟨R,q,Q⟩:=ec (ω b);have I:=vP q (sN f) Q (by grind[rH]);have P:=@ug d;have A:0<=bq n / dV (bq n) (bq d):=δa D (ω b);obtain⟨N,H,M⟩:=ec A;have G:(0<((bO (bq n / dV (bq n) (bq d))).length:Int))↔0<bq n:=by
  obtain⟨m,e⟩:=o;have r:bq n / dV (bq n) (bq d)=m:=by
   conv=>lhs;arg 1;rw[e]
   rw[ζg _ (by omega)]
  rw[r] at N H M ⊢;have z:0<bq n↔0<m:=by
   generalize dV (bq n) (bq d)=g at*;rw[e];constructor;·grind
   ·intro h;exact εh b h
  rw[z];constructor
  ·intro h;by_cases e:m=0;·rw[e] at h;exact absurd h (by decide)
   ·omega
  ·intro h;by_cases T:(bO m).length=0<;>grind[bO,bq]
 have O:d.length≠0:=by
  intro h;rw[π h] at j;exact absurd j (by decide)
 unfold ey;rw[I3 D j,R];simp only;refine⟨λh=>absurd h (by omega),λ_=>⟨⟨⟨c,f⟩,by omega,by omega⟩,⟨⟨c,q⟩,by omega,b⟩,⟨⟨f,q⟩,by omega,b⟩,?_⟩⟩;have J:decide (0<((bO (bq n / dV (bq n) (bq d))).length:Int))=decide (0<bq n):=by
  simp_all
 refine⟨λh=>absurd h (by decide),λ_=>⟨λh=>absurd h (by decide),λ_=>⟨λx=>?_,λx=>?_⟩⟩⟩
 ·rw[x,J];rfl
 ·rw[x];rfl
def yc:bL:=⟨109,Bool×(List Int×List Int),.cons HG (.cons (cV (.i .u32)) (.one (cV (.i .u32)))),λa=>(bB a.2.1/\bB a.2.2)/\(a.2.1.length<=1000000000/\a.2.2.length<=1000000000)/\0<bq a.2.2,
 λa=>lr (ey a.1 (bq a.2.1) (bq a.2.2))⟩
theorem h126:Holds Tryz.prog yc:=by
 refine cq (L:=[Au]) yc lk (by grind[h151]) ?_;rintro⟨s,n,d⟩ ⟨⟨h,g⟩,⟨a,c⟩,f⟩;simp only at h g a c f;refine bQ (let b:=bu (ey s (bq n) (bq d));let e:=γF [γn b.fst,Δ (bw.i .u32) b.snd.fst,Δ (bw.i .u32) b.snd.snd];((bB n/\bB d)/\(n.length<=1000000000/\d.length<=1000000000)/\(0:Int)<bq d)/\e.same e) (by kernel_rfl) ?_;simp_all[vcs]
def oo:bL:=⟨73,Int,.one (ef .i64),λn=> -9223372036854775808<=(show Int from n)/\(show Int from n)<=9223372036854775807,λn=>lr ((show Int from n):Rat)⟩
theorem h94:Holds Tryz.prog oo:=by
 refine cq (L:=[DZ,xY,yc]) oo lk (by grind[h127,h128,h126]) ?_;intro(n:Int) h;obtain⟨o,p⟩: -9223372036854775808<=n/\n<=9223372036854775807:=h;refine bQ (let e:=Δ;let g:=(1:Int);let h:=(0:Int);let c:=bO (↑n.natAbs:Int);let b:=bO g;let f:=bu (ey (decide (n<h)) (bq c) (bq b));let a:=bw.i .u32;let d:=bu (ζ n);((-9223372036854775808:Int)<=n/\n<=(9223372036854775807:Int))/\(h<=g/\g<(18446744073709551616:Int))/\((bB c/\bB b)/\(c.length<=1000000000/\b.length<=1000000000)/\h<bq b)/\(γF [γn f.fst,e a f.snd.fst,e a f.snd.snd]).same (γF [γn d.fst,e a d.snd.fst,e a d.snd.snd])) (by kernel_rfl) ?_;conv=>zeta
 obtain⟨j,g,t⟩:=ec (show(0:Int)<=(n.natAbs:Int) by omega);obtain⟨l,m,s⟩:=ec (show(0:Int)<=1 by omega);have u:=jv (k:=2) (show(0:Int)<=(n.natAbs:Int) by omega) (by omega);have q:=jv (k:=1) (show(0:Int)<=1 by omega) (by decide);refine⟨⟨o,p⟩,⟨by omega,by omega⟩,⟨⟨g,m⟩,⟨by omega,by omega⟩,by omega⟩,?_⟩;have e:ey (decide (n<0)) (bq (bO (n.natAbs:Int))) (bq (bO 1))=ζ n:=by
  rw[j,l];unfold ey;have r:(if decide (n<0)=true then -(n.natAbs:Int) else(n.natAbs:Int))=n:=by
   grind
  grind[Rat.mkRat_one]
 rw[e];rfl
def gG (q:Rat):Int:=if q<0 then -1 else if 0<q then 1 else 0
def sQ:bL:=⟨115,bM,.one (dZ sF),cF,λx=> .si .i64 (gG (bK x))⟩
theorem h99:Holds Tryz.prog sQ:=by
 refine cq (L:=[]) sQ lk (by simp) ?_;intro(x:bM) h;obtain⟨q,k,rfl,m,f⟩:cF x:=h;refine bQ (let c:=γo .i64;let b:=decide ((↑(Φ (bu q).snd.fst):Int)=(0:Int));let a:=Ω .i64 (gG (bK (bu q)));(b=true->(c 0).same a)/\(b=false->((bu q).fst=true->(c (-1:Int)).same a)/\((bu q).fst=false->(c 1).same a))) (by kernel_rfl) ?_;simp only[vcs];rw[dU];have e:((bu q).2.1.length:Int)=0↔q.num=0:=by
  unfold bu;simp only;obtain⟨d,j,i⟩:=ec (show(0:Int)<=(q.num.natAbs:Int) by omega);constructor
  ·intro h;rw[π (by omega:(bO (q.num.natAbs:Int)).length=0)] at d;grind[bq]
  ·intro h;rw[h];rfl
 have c:(bu q).1=decide (q<0):=rfl;have n:=@Rat.num_nonneg q;have l:q<0↔q.num<0:=by
  grind
 have g:0<q↔0<q.num:=by
  grind[Rat.num_eq_zero]
 rw[e,c];simp only[decide_eq_true_eq,decide_eq_false_iff_not];unfold gG;grind
def vS (x:bM):Prop:=(bB x.2.1/\bB x.2.2)/\x.2.1.length<=100000000/\x.2.2.length<=100000000
def D1:bL:=⟨112,bM×bM,.cons (dZ sF) (.one (dZ sF)),λa=>vS a.1/\vS a.2,λa=> .bN [.row (.i .u32) (bO (bq a.1.2.1*bq a.2.2.2)),.row (.i .u32) (bO (bq a.2.2.1*bq a.1.2.2))]⟩
theorem h131:Holds Tryz.prog D1:=by
 refine cq (L:=[x7]) D1 lk (by grind[h153]) ?_;rintro⟨⟨s,n,d⟩,⟨o,b,a⟩⟩ ⟨⟨⟨e,j⟩,g,f⟩,⟨⟨k,h⟩,l,m⟩⟩;simp only at e j g f k h l m;refine bQ (let c:=SV.bN [Δ (bw.i .u32) (bO (bq n*bq a)),Δ (bw.i .u32) (bO (bq b*bq d))];((bB n/\bB a)/\n.length<=100000000000/\a.length<=100000000000)/\((bB b/\bB d)/\b.length<=100000000000/\d.length<=100000000000)/\c.same c) (by kernel_rfl) ?_;simp only[vcs];grind
theorem uy {p q:Rat} (h:p=q):(γF [.sb (bu p).1,.row (.i .u32) (bu p).2.1,.row (.i .u32) (bu p).2.2]).same (.agg [.sb (bu q).1,.row (.i .u32) (bu q).2.1,.row (.i .u32) (bu q).2.2]):=by subst h;rfl
theorem vT (q:Rat):q.num=if decide (q<0) then -(q.num.natAbs:Int) else(q.num.natAbs:Int):=by
 have a:=@Rat.num_nonneg q;grind
theorem jg (q:Rat):(bu q).1=decide (q<0)/\(bB (bu q).2.1/\dS (bu q).2.1/\bq (bu q).2.1=(q.num.natAbs:Int))/\(bB (bu q).2.2/\dS (bu q).2.2/\bq (bu q).2.2=(q.den:Int)):=by
 obtain⟨f,e,d⟩:=ec (show(0:Int)<=(q.num.natAbs:Int) by omega);obtain⟨b,c,a⟩:=ec (show(0:Int)<=(q.den:Int) by omega);exact⟨rfl,⟨e,d,f⟩,⟨c,a,b⟩⟩
theorem lM {q:Rat} {k:Nat} (h:Sz k q):(bu q).2.1.length<=k/\(bu q).2.2.length<=k:=
 ⟨jv (by omega) h.1,jv (by omega) h.2⟩
theorem abr (q:Rat):ey (!decide (q<0)) (q.num.natAbs:Int) (q.den:Int)= -q:=by
 unfold ey;have h:=vT q;have e:(if(!decide (q<0))=true then -(q.num.natAbs:Int) else(q.num.natAbs:Int))= -q.num:=by
  grind
 grind[δY,Rat.neg_mkRat]
def yd:bL:=⟨118,bM,.one (dZ sF),cF,λx=>lr (-(bK x))⟩
theorem h130:Holds Tryz.prog yd:=by
 refine cq (L:=[yc]) yd lk (by grind[h126]) ?_;intro(x:bM) h;obtain⟨q,k,rfl,f,g⟩:cF x:=h;refine bQ (let f:=Δ;let c:=(bu q).snd.fst;let a:=(bu q).snd.snd;let d:=bu (ey (!(bu q).fst) (bq c) (bq a));let b:=bw.i .u32;let e:=(bu (-bK (bu q))).snd;((bB c/\bB a)/\(Φ c<=1000000000/\Φ a<=1000000000)/\(0:Int)<bq a)/\(γF [γn d.fst,f b d.snd.fst,f b d.snd.snd]).same (γF [γn (bu (-bK (bu q))).fst,f b e.fst,f b e.snd])) (by kernel_rfl) ?_;conv=>zeta
 obtain⟨s,⟨r,p,u⟩,⟨o,l,n⟩⟩:=jg q;obtain⟨j,m⟩:=lM f;have t:=q.den_pos;grind[uy,dU,abr]
theorem nB {a b:Int} {i j:Nat} (e:0<=a) (c:a<4294967296^i) (d:b<4294967296^j):a*b<4294967296^(i+j):=by
 rw[δf];exact εa (ν (ω d) e) (γN c (pow_pos _))
theorem I4 {p q:Rat} {i j:Nat} (c:Sz i p) (b:Sz j q):∃X Y D:Int,bq (bu p).2.1*bq (bu q).2.2=X/\bq (bu q).2.1*bq (bu p).2.2=Y/\bq (bu p).2.2*bq (bu q).2.2=D/\0<=X/\0<=Y/\0<D/\
  (bO X).length<=i+j/\(bO Y).length<=i+j/\(bO (X+Y)).length<=i+j+1/\(bO (X - Y)).length<=i+j/\(bO (Y - X)).length<=i+j/\(bO D).length<=i+j/\p.num*q.den=(if decide (p<0) then -X else X)/\q.num*p.den=(if decide (q<0) then -Y else Y)/\((p.den*q.den:Nat):Int)=D:=by
 obtain⟨_,⟨_,_,l⟩,⟨_,_,r⟩⟩:=jg p;obtain⟨_,⟨_,_,n⟩,⟨_,_,m⟩⟩:=jg q;rw[l,r,n,m];have s:=p.den_pos;have t:=q.den_pos;have k:=nB (a:=(p.num.natAbs:Int)) (by omega) c.1 b.2;have d:=nB (a:=(q.num.natAbs:Int)) (by omega) b.1 c.2;rw[Nat.add_comm j i] at d;have o:=nB (a:=(p.den:Int)) (by omega) c.2 b.2;have f:0<=(p.num.natAbs:Int)*q.den:=γh (by omega) (by omega);have e:0<=(q.num.natAbs:Int)*p.den:=γh (by omega) (by omega);have g:0<(p.den:Int)*q.den:=εh (by omega) (by omega);have v:=vT p;have u:=vT q;refine⟨_,_,_,rfl,rfl,rfl,f,e,g,jv f k,jv e d,jv (by omega) ?_,?_,?_,jv (by omega) o,?_,?_,by push_cast;rfl⟩;·omega
 ·by_cases h:(p.num.natAbs:Int)*q.den - (q.num.natAbs:Int)*p.den<=0;·grind[DO]
  ·exact jv (by omega) (by omega)
 ·by_cases h:(q.num.natAbs:Int)*p.den - (p.num.natAbs:Int)*q.den<=0;·grind[DO]
  ·exact jv (by omega) (by omega)
 all_goals grind
theorem RL {p q:Rat} {s:Bool} {n D:Int} (a:((p.den*q.den:Nat):Int)=D) (h:p.num*q.den+q.num*p.den=if s then -n else n):ey s n D=p+q:=by
 rw[RJ];grind[ey]
theorem D2 {p:Rat} {k:Nat} (h:Sz k p) (c:k<=100000000):vS (bu p):=by
 obtain⟨_,⟨a,_,_⟩,⟨b,_,_⟩⟩:=jg p;have:=lM h;exact⟨⟨a,b⟩,by omega,by omega⟩
def gI (p q:Rat):Int:=if p<q then -1 else if q<p then 1 else 0
def ye:bL:=⟨74,bM×bM,.cons (dZ sF) (.one (dZ sF)),λa=>cF a.1/\cF a.2,λa=> .si .i64 (gI (bK a.1) (bK a.2))⟩
theorem h97:Holds Tryz.prog ye:=by
 refine cq (L:=[D1,xX]) ye lk (by grind[h131,h132]) ?_;rintro⟨x,y⟩ ⟨⟨p,i,t,w,S⟩,⟨q,j,r,o,T⟩⟩;simp only at t r;subst t r;refine bQ (let a:=(bu p).fst;let g:=Ω .i64 (gI (bK (bu p)) (bK (bu q)));let s:=λ(u:Bool) (c b:Rat) ↦let k:=bO (bq (bu c).snd.fst*bq (bu b).snd.snd);let l:=bO (bq (bu b).snd.fst*bq (bu c).snd.snd);a=u->((bB k/\bB l)/\k.length<=1000000000000/\l.length<=1000000000000)/\(Ω .i64 (iI (bq k) (bq l))).same g;((!a==(bu q).fst)=true->(a=true->(γo .i64 (-1:Int)).same g)/\(a=false->(γo .i64 1).same g))/\((!a==(bu q).fst)=false->(vS (a,(bu p).snd.fst,(bu p).snd.snd)/\vS ((bu q).fst,(bu q).snd.fst,(bu q).snd.snd))/\s true q p/\s false p q)) (by kernel_rfl) ?_;conv=>zeta
 obtain⟨C,_,_⟩:=jg p;obtain⟨P,_,_⟩:=jg q;obtain⟨X,Y,D,E,M,hD,G,N,U,l1,l2,l3,l4,Z,V,B,A,W⟩:=I4 w o;obtain⟨J,v,c3⟩:=ec G;obtain⟨K,n,c6⟩:=ec N;simp only[dU,E,M,J,K,C,P];simp only[vcs];have hl:p<q↔p.num*q.den<q.num*p.den:=Rat.lt_iff p q;have R:q<p↔q.num*p.den<p.num*q.den:=Rat.lt_iff q p;have O:=@Rat.num_nonneg p;have H:=@Rat.num_nonneg q;have m:∀{z:Int},(z=if p.num*q.den<q.num*p.den then -1 else if q.num*p.den<p.num*q.den then 1 else 0)->z=gI p q:=λh=>by
  grind[gI]
 have Q:p<0->0<X:=λh=>by
  rw[if_pos (by simpa using h)] at B;have f:p.num<0:=by grind
  have:=εr f (show(0:Int)<q.den by grind);omega
 have F:q<0->0<Y:=λh=>by
  rw[if_pos (by simpa using h)] at A;have f:q.num<0:=by grind
  have:=εr f (show(0:Int)<p.den by grind);omega
 rw[B,A] at m;refine⟨λI=>⟨λd=>?_,λd=>?_⟩,λhe=>⟨⟨D2 w S,D2 o T⟩,λd=>⟨⟨⟨n,v⟩,by omega,by omega⟩,?_⟩,λd=>⟨⟨⟨v,n⟩,by omega,by omega⟩,?_⟩⟩⟩;·grind
 ·grind
 ·apply m;have e:q<0:=by
   grind
  simp only[decide_eq_true_eq,d,e,if_true,if_false];simp only[Int.neg_lt_neg_iff];rfl
 ·apply m;have e:¬q<0:=λe=>by grind
  simp only[decide_eq_true_eq,d,e,if_true,if_false];rfl
def vU:bL:=⟨107,bM×bM,.cons (dZ sF) (.one (dZ sF)),λa=>cF a.1/\cF a.2,λa=>lr (bK a.1+bK a.2)⟩
theorem h129:Holds Tryz.prog vU:=by
 refine cq (L:=[D1,x7,Ae,IJ,yc]) vU lk (by grind[h131,h153,h154,h155,h126]) ?_;rintro⟨x,y⟩ ⟨⟨p,i,J,w,S⟩,⟨q,j,E,B,hj⟩⟩;simp only at J E;subst J E;refine bQ (let h:=Δ;let j:=γF;let m:=(bu q).snd.snd;let f:=bO (bq (bu p).snd.fst*bq m);let t:=(bu p).snd.snd;let k:=bO (bq (bu q).snd.fst*bq t);let a:=bO (bq t*bq m);let g:=bw.i .u32;let z:=bu (bK (bu p)+bK (bu q));let o:=j [γn z.fst,h g z.snd.fst,h g z.snd.snd];let v:=(bu p).fst==(bu q).fst;let c:=bO (bq f+bq k);let d:=bu (ey (bu p).fst (bq c) (bq a));let I:=(bB f/\bB k)/\f.length<=100000000000/\k.length<=100000000000;let K:=λ(u r:Rat) ↦let e:=bO (bq (bO (bq (bu u).snd.fst*bq (bu r).snd.snd)) - bq (bO (bq (bu r).snd.fst*bq (bu u).snd.snd)));let b:=bu (ey (bu u).fst (bq e) (bq a));((bB e/\bB a)/\(e.length<=1000000000/\a.length<=1000000000)/\(0:Int)<bq a)/\(j [γn b.fst,h g b.snd.fst,h g b.snd.snd]).same o;let F:=λ(u:Bool) ↦decide (bq k<=bq f)=u;(vS ((bu p).fst,(bu p).snd.fst,t)/\vS ((bu q).fst,(bu q).snd.fst,m))/\((bB t/\bB m)/\Φ t<=100000000000/\Φ m<=100000000000)/\(v=true->I/\((bB c/\bB a)/\(c.length<=1000000000/\a.length<=1000000000)/\(0:Int)<bq a)/\(j [γn d.fst,h g d.snd.fst,h g d.snd.snd]).same o)/\(v=false->I/\(F true->K p q)/\(F false->((bB k/\bB f)/\k.length<=100000000000/\f.length<=100000000000)/\K q p))) (by kernel_rfl) ?_;conv=>zeta
 obtain⟨O,⟨u1,_,_⟩,⟨u2,_,_⟩⟩:=jg p;obtain⟨W,⟨u3,_,_⟩,⟨P,_,_⟩⟩:=jg q;obtain⟨m1,m2⟩:=lM w;obtain⟨m3,m4⟩:=lM B;obtain⟨X,Y,D,T,Q,hD,U,R,C,l1,l2,l3,l4,l5,l6,n1,n2,n3⟩:=I4 w B;obtain⟨N,H,c3⟩:=ec U;obtain⟨c4,G,c6⟩:=ec R;obtain⟨c7,V,c9⟩:=ec (ω C);obtain⟨s1,M,s3⟩:=ec (show 0<=X+Y by omega);simp only[dU,T,Q,hD,N,c4,c7,s1,O,W];simp only[vcs];have l:∀{s:Bool} {n:Int},(p.num*q.den+q.num*p.den=if s then -n else n)->(γF [.sb (bu (ey s n D)).1,.row (.i .u32) (bu (ey s n D)).2.1,.row (.i .u32) (bu (ey s n D)).2.2]).same (.agg [.sb (bu (p+q)).1,.row (.i .u32) (bu (p+q)).2.1,.row (.i .u32) (bu (p+q)).2.2]):=
  λh=>uy (RL n3 h);rw[n1,n2] at l;refine⟨⟨D2 w S,D2 B hj⟩,⟨⟨u2,P⟩,by omega,by omega⟩,λZ=>⟨⟨⟨H,G⟩,by omega,by omega⟩,⟨⟨M,V⟩,⟨by omega,by omega⟩,C⟩,l ?_⟩,λZ=>⟨⟨⟨H,G⟩,by omega,by omega⟩,λA=>?_,λA=>?_⟩⟩;all_goals grind[ec]
def Av:bL:=⟨117,bM×bM,.cons (dZ sF) (.one (dZ sF)),λa=>cF a.1/\cF a.2,λa=>lr (bK a.1 - bK a.2)⟩
theorem h95:Holds Tryz.prog Av:=by
 refine cq (L:=[yd,vU]) Av lk (by grind[h130,h129]) ?_;rintro⟨x,y⟩ ⟨⟨p,i,k,m,n⟩,⟨q,j,g,l,o⟩⟩;simp only at k g;subst k g;refine bQ (let g:=Δ;let b:=((bu q).fst,(bu q).snd.fst,(bu q).snd.snd);let e:=((bu p).fst,(bu p).snd.fst,(bu p).snd.snd);let h:=(bu (-bK b)).snd;let f:=((bu (-bK b)).fst,h.fst,h.snd);let d:=bu (bK e+bK f);let a:=bw.i .u32;let c:=bu (bK (bu p) - bK (bu q));cF b/\(cF e/\cF f)/\(γF [γn d.fst,g a d.snd.fst,g a d.snd.snd]).same (γF [γn c.fst,g a c.snd.fst,g a c.snd.snd])) (by kernel_rfl) ?_;grind[cF,vR,uy,dU]
end Go.Vi
