/-
  Contracts: natural numbers of any size: shifted.
  Conditions: none.
-/
import Derived.Test.YtgejbpobaicgfaaGreatBX06
import Derived.Test.YtgejbpobaicgfaaGreatBX07
import Derived.Test.YtgejbpobaicgfaaGreatBX08
set_option maxRecDepth 100000
set_option maxHeartbeats 4000000
set_option linter.all false
open BitVec renaming ofInt->γq
open Bool renaming and_eq_true->μ
open Classical renaming not_not->Ψ
open Go.Vi.AV.sc renaming injEq->γ6
open Go.Vi.SV renaming si->γa,row->Ξ,ow->γQ,il->γu,ptr->γ5,sb->γv
open Int renaming eq_ofNat_of_zero_le->δI,pow_succ->γx,mul_comm->δr,mul_assoc->γI,pow_pos->γU,pow_add->δg,mul_nonneg->γh,le_of_lt->φ,mul_lt_mul_of_pos_right->γP,emod_eq_of_lt->δm,mul_emod_mul_of_pos->ζt,emod_nonneg->γ8,emod_lt_of_pos->γO,lt_of_mul_lt_mul_left->εt,lt_of_le_of_lt->εb,lt_of_lt_of_le->εM,mul_le_mul_of_nonneg_left->ν,mul_le_mul_of_nonneg_right->γG,mul_zero->δL,add_zero->εk,ediv_nonneg->γ9,ediv_lt_of_lt_mul->δy,sub_zero->ζc,mul_ediv_add_emod->δa,pow_zero->εj,one_mul->εz,natAbs_mul->εu,natAbs_natCast->ζd
open List renaming length_take->γd,replicate->δ,take->ω,take_length->τ,take_append_drop->γc,drop_drop->γW,length_append->θ,append_assoc->γl,length_set->χ,nil_append->δw,Pairwise->ζu,range->Φ,mem_map->γk,mem_range->δh,take_of_length_le->Ω,mergeSort_perm->εx,mem_append->γt,map_cons->ψ,map_nil->γy,pairwise_cons->γH,exists_of_findSome?_eq_some->δ1
open List.Pairwise renaming sublist->δY,nil->δM
open List.cons renaming injEq->Δ
open Nat renaming pow_le_pow_right->εq,min_eq_left->δO,le_refl->Θ,add_sub_cancel->ζO
open Option.some renaming injEq->γ
open Prod renaming ext->εa
open Rat renaming mkRat_self->δZ,normalize_eq_mkRat->ζy
namespace Go.Vi
open Go.Proofs.YtgejbpobaicgfaaGreat.Ir
open Go.Proofs
theorem awx {x m:Int} {k:Nat} (p:0<=x) (t:x<2^k) (o:0<=m) (j:m*2^k<4294967296) (u:x<4294967296):J9.orI .u32 x (m*2^k)=x+m*2^k:=by
 obtain⟨a,rfl⟩:=δI p
 obtain⟨b,rfl⟩:=δI o
 have e:((b:Int)*2^k)=((2^k*b:Nat):Int):=by grind
 have h:a<2^k:=by grind
 rw[e] at j ⊢
 generalize i:2^k*b=c at*
 have d:c<4294967296:=by omega
 have f:a<4294967296:=by omega
 have q:(γq 32 ((a:Nat):Int)).toNat=a:=by simp_all
 have r:(γq 32 ((c:Nat):Int)).toNat=c:=by simp_all
 have g:a |||c=a+c:=by
  rw[Nat.or_comm,<-i,<-Nat.two_pow_add_eq_or_of_lt h];omega
 have l:a+c<4294967296:=by
  rw[<-g]
  exact Nat.or_lt_two_pow (n:=32) f d
 have s:(γq 32 ((a:Nat):Int) |||γq 32 ((c:Nat):Int)).toNat=a+c:=by
  grind
 show x5 .u32 ((γq 32 ((a:Nat):Int) |||γq 32 ((c:Nat):Int)).toNat:Nat)=_
 grind[aeN,IntKind.wrap,IntKind.bits,IntKind.signed]
theorem aqa:∀{l:List Int} {i:Nat},cQ l->4294967296^i*bC l i 0<=bD l
 |[],i,_=>by simp[bC,bD]
 |d::l,0,h=>by
  obtain⟨b,a⟩:=Kt.1 h
  have:=rf a
  grind[bC,bD]
 |d::l,i+1,h=>by
  obtain⟨b,a⟩:=Kt.1 h
  have:=@aqa l i a
  have e:bC (d::l) (i+1) 0=bC l i 0:=by simp[bC]
  rw[e,γx,δr (4294967296^i),γI]
  grind[bD]
theorem awy {a b:List Int} {i k:Nat} (n:cQ a) (e:cQ b) (F:b.length=a.length+1) (G:i<a.length) (u:k<=31) (q:bD b=bD (a.take i)*2^k):
  cQ ((b.set i (J9.orI .u32 (bC b i 0) (bC a i 0 % 18446744073709551616*2^k % 18446744073709551616 % 4294967296))).set (i+1) (bC a i 0 % 18446744073709551616*2^k % 18446744073709551616 / 4294967296 % 4294967296))/\
  bD ((b.set i (J9.orI .u32 (bC b i 0) (bC a i 0 % 18446744073709551616*2^k % 18446744073709551616 % 4294967296))).set (i+1) (bC a i 0 % 18446744073709551616*2^k % 18446744073709551616 / 4294967296 % 4294967296))=bD (a.take (i+1))*2^k:=by
 have x:=qb n i
 have r:=qb e i
 have c:(0:Int)<2^k:=γU (by decide)
 have A:(2:Int)^k<=2147483648:=by
  have D:(2:Nat)^k<=2^31:=εq (by decide) u
  grind
 have w:(4294967296:Int)=2^(32 - k)*2^k:=by
  rw[<-δg,show 32 - k+k=32 by omega]
  decide
 have B:(0:Int)<2^(32 - k):=γU (by decide)
 have v:0<=bC a i 0*2^k:=γh x.1 (φ c)
 have H:bC a i 0*2^k<4294967296*2^k:=γP x.2 c
 have z:bC a i 0 % 18446744073709551616*2^k % 18446744073709551616=bC a i 0*2^k:=by
  rw[δm (a:=bC a i 0) (by omega) (by omega),δm v (by omega)]
 have o:bC a i 0*2^k % 4294967296=(bC a i 0 % 2^(32 - k))*2^k:=by
  conv=>lhs;rw[w]
  rw[δr (bC a i 0),δr (2^(32 - k)),ζt _ _ c,δr]
 have p:=γ8 (bC a i 0) (show(2:Int)^(32 - k)≠0 by omega)
 have E:=γO (bC a i 0) B
 have s:=pow_pos i
 have d:bD b<4294967296^i*2^k:=by
  rw[q]
  have:=Ku (SU n i)
  rw[γd,δO (by omega)] at this
  simp_all
 have h:bC b i 0<2^k:=εt (εb (aqa e) d) (φ s)
 have m:bC b (i+1) 0=0:=by
  refine ajs e (i:=i+1) ?_ (Θ _)
  rw[γx]
  exact εM d (ν (by omega) (φ s))
 have f:(bC a i 0 % 2^(32 - k))*2^k+2^k<=4294967296:=by
  have:(bC a i 0 % 2^(32 - k)+1)*2^k<=2^(32 - k)*2^k:=γG (by omega) (φ c)
  grind
 have l:0<=(bC a i 0 % 2^(32 - k))*2^k:=γh p (φ c)
 have g:=awx (k:=k) r.1 h p (by omega) r.2
 rw[z,o,g]
 generalize y:bC a i 0*2^k=t at*
 have j:(bC a i 0 % 2^(32 - k))*2^k=t % 4294967296:=o.symm
 rw[j] at f l ⊢
 refine⟨aa2 (aa2 e (by omega) (by omega)) (by omega) (by omega),?_⟩
 rw[ae9 (by simp;omega),ae9 (by omega),acB (by omega),m,KE,Int.add_mul,γI,y,q,γx]
 have C:t / 4294967296 % 4294967296=t / 4294967296:=by omega
 grind
def shl (a:List Int) (k:Nat):List Int:=HH (a.length+1) (bD a*2^k)
abbrev ShA:=List Int×Int
def shD (a:ShA):Prop:=cQ a.1/\a.1.length<=100000000000/\0<=a.2/\a.2<=31
def aqb:fN:=⟨167,List Int×Int,.cons (mA (.i .u32)) (.one (sx .u64)),shD,λa=> .row (.i .u32) (shl a.1 a.2.toNat)⟩
def aqc:og where
 f:=167
 α:=List Int×Int
 put a:=[.row (.i .u32) a.1,.si .u64 a.2]
 st _:=[]
 dec v o:=match v,o with
  |[v,m],[]=>match Kz (.i .u32) v,m.int .u64 with
   |some p,some m=>some (p,m)
   |_,_=>none
  |_,_=>none
 ok v o a h:=by
  split at h
  ·split at h
   ·rename_i d c
    simp only[γ] at h;subst h
    exact⟨by simp only[gL,aaW d,F2 c];rfl,rfl⟩
   ·cases h
  ·cases h
 inj a b h _:=by
  simp only[gL,Δ,and_true] at h
  have c:=h.2
  simp only[SV.g,γ6,Value.int.injEq,true_and] at c
  exact εa ((mA (.i .u32)).inj _ _ h.1) c
 dom:=shD
 res a:=.ow 0 (shl a.1 a.2.toNat).length 1
 out a:=[.row (.i .u32) (shl a.1 a.2.toNat) 161 false]
def awC (a:ShA):Nat->jY
 |3=> .inv (Int×List Int) (λx=>⟨[(0,.row (.i .u32) a.1),(1,.si .u64 a.2),(5,.ow 0 x.2.length 1),(13,.si .i64 a.1.length),(14,.si .i64 x.1)],[.row (.i .u32) x.2 161 false]⟩)
  (λs=>(iS s 14,oS (.i .u32) s 0))
  (λx=>(0<=x.1/\x.1<=a.1.length)/\cQ x.2/\x.2.length=a.1.length+1/\bD x.2=bD (a.1.take x.1.toNat)*2^a.2.toNat) (λx=>(a.1.length - x.1).toNat) λ_ _=> .look
 |_=> .look
theorem h168:sd Tryz.prog aqc:=by
 refine ao2 (L:=[]) (W:=[]) aqc (λ_=>none) awC (by simp) (by simp) ?_
 rintro⟨a,s⟩ ⟨E,v,G,M⟩
 simp only at E v G M
 refine gp (let e:=(0:Int);let p:=(18446744073709551616:Int);let t:=(4294967296:Int);let v:=γa .i64;let z:=cJ.row;let A:=ie .i64;let B:=Ξ;let E:=γQ;let w:=(↑a.length:Int);let l:=w+(1:Int);let k:=cn.i .u32;let q:=e::δ a.length e;let j:=(↑a.length:Int);let C:=v j;let F:=z k q 161 false;let y:=a.length+1;let u:=(2:Int)^s.toNat;A l/\e<=l/\l<=l/\l*(4:Int)<=(140737488355328:Int)/\l<=(1000000000000:Int)/\((((B k a).same (B k a)/\(γa .u64 s).same (γa .u64 s)/\(E 0 l.toNat 1).same (E 0 q.length 1)/\(v w).same C/\(γu .i64 0).same (v 0)/\True)/\F.same F/\True)/\(e<=e/\e<=j)/\cQ q/\q.length=y/\bD q=bD []*u)/\∀(x:Int×List Int),let f:=x.snd.length;let d:=x.fst.toNat;let n:=bC a d e % p*u % p;let h:=x.snd.set d (J9.orI .u32 (bC x.snd d e) (n % t));let c:=x.snd.length;let b:=x.fst+(1:Int);let r:=E 0 f 1;let g:=h.set b.toNat (n / t % t);let m:=v b;let o:=z k g 161 false;let D:=f=h.length;(e<=x.fst/\x.fst<=j)/\cQ x.snd/\f=y/\bD x.snd=bD (ω d a)*u->(decide (x.fst<j)=true->e<=x.fst/\x.fst<w/\d<a.length/\e<=s/\s<=(64:Int)/\f=c/\e<=x.fst/\x.fst<(↑c:Int)/\f=c/\d<c/\f=c/\e<=x.fst/\x.fst<(↑c:Int)/\f=c/\d<c/\A b/\e<=(32:Int)/\(32:Int)<=(64:Int)/\D/\e<=b/\b<(↑h.length:Int)/\D/\b.toNat<h.length/\A b/\(((B k a).same (B k a)/\(γa .u64 s).same (γa .u64 s)/\r.same (E 0 g.length 1)/\C.same C/\m.same m/\True)/\o.same o/\True)/\((e<=b/\b<=j)/\cQ g/\g.length=y/\bD g=bD (ω b.toNat a)*u)/\(j - b).toNat<(j - x.fst).toNat)/\(decide (x.fst<j)=false->r.same (E 0 (shl a s.toNat).length 1)/\(z k x.snd 161 false).same (z k (shl a s.toNat) 161 false)/\True)) (by kernel_rfl) ?_
 simp only[vcs]
 refine⟨by omega,by omega,by omega,by omega,by omega,?_,?_⟩
 ·grind[Yo,Kt,ah0,bD,agt]
 rintro⟨i,A⟩ ⟨⟨K,N⟩,z,B,t⟩
 simp only at K N z B t ⊢
 refine⟨λI=>?_,λH=>?_⟩
 ·obtain⟨P,O⟩:=awy E z B (show i.toNat<a.length by omega) (show s.toNat<=31 by omega) t
  have e:(i+1).toNat=i.toNat+1:=by omega
  grind[Yo]
 ·have J:i.toNat=a.length:=by omega
  rw[J,τ] at t
  have p:A=shl a s.toNat:=apF z B t
  rw[p]
  exact⟨rfl,rfl⟩
theorem h168p:Holds Tryz.prog aqb:=by
 refine kh (L:=[]) aqb awC (by simp) ?_
 rintro⟨a,s⟩ ⟨C,u,H,E⟩
 simp only at C u H E
 refine gp (let e:=(0:Int);let u:=(18446744073709551616:Int);let z:=(4294967296:Int);let A:=γa .i64;let B:=Ξ;let C:=ie .i64;let D:=γQ;let r:=(↑a.length:Int);let l:=r+(1:Int);let k:=cn.i .u32;let p:=e::δ a.length e;let j:=(↑a.length:Int);let v:=A j;let w:=cJ.row k p 161 false;let t:=a.length+1;let q:=(2:Int)^s.toNat;C l/\e<=l/\l<=l/\l*(4:Int)<=(140737488355328:Int)/\l<=(1000000000000:Int)/\((((B k a).same (B k a)/\(γa .u64 s).same (γa .u64 s)/\(D 0 l.toNat 1).same (D 0 p.length 1)/\(A r).same v/\(γu .i64 0).same (A 0)/\True)/\w.same w/\True)/\(e<=e/\e<=j)/\cQ p/\p.length=t/\bD p=bD []*q)/\∀(x:Int×List Int),let d:=x.snd.length;let f:=x.fst.toNat;let o:=bC a f e % u*q % u;let h:=x.snd.set f (J9.orI .u32 (bC x.snd f e) (o % z));let c:=x.snd.length;let b:=x.fst+(1:Int);let g:=h.set b.toNat (o / z % z);let m:=A b;let n:=cJ.row k g 161 false;let y:=d=h.length;(e<=x.fst/\x.fst<=j)/\cQ x.snd/\d=t/\bD x.snd=bD (ω f a)*q->(decide (x.fst<j)=true->e<=x.fst/\x.fst<r/\f<a.length/\e<=s/\s<=(64:Int)/\d=c/\e<=x.fst/\x.fst<(↑c:Int)/\d=c/\f<c/\d=c/\e<=x.fst/\x.fst<(↑c:Int)/\d=c/\f<c/\C b/\e<=(32:Int)/\(32:Int)<=(64:Int)/\y/\e<=b/\b<(↑h.length:Int)/\y/\b.toNat<h.length/\C b/\(((B k a).same (B k a)/\(γa .u64 s).same (γa .u64 s)/\(D 0 d 1).same (D 0 g.length 1)/\v.same v/\m.same m/\True)/\n.same n/\True)/\((e<=b/\b<=j)/\cQ g/\g.length=t/\bD g=bD (ω b.toNat a)*q)/\(j - b).toNat<(j - x.fst).toNat)/\(decide (x.fst<j)=false->d=c/\(B k x.snd).same (B k (shl a s.toNat)))) (by kernel_rfl) ?_
 simp only[vcs]
 refine⟨by omega,by omega,by omega,by omega,by omega,?_,?_⟩
 ·grind[Yo,Kt,ah0,bD,agt]
 rintro⟨i,F⟩ ⟨⟨J,I⟩,A,z,B⟩
 simp only at J I A z B ⊢
 refine⟨λD=>?_,λG=>?_⟩
 ·obtain⟨M,K⟩:=awy C A z (show i.toNat<a.length by omega) (show s.toNat<=31 by omega) B
  have e:(i+1).toNat=i.toNat+1:=by omega
  grind[Yo]
 ·have N:i.toNat=a.length:=by omega
  grind[shl,apF]
theorem afj {U:List Int} {j:Nat} (h:j<=U.length):bD U=bD (U.take j)+4294967296^j*bD (U.drop j):=by
 conv=>lhs;rw[<-γc j U]
 grind[al1]
theorem aEh {U l:List Int} {j:Nat} (h:j<=U.length):(Ln U j l).take j=U.take j:=by
 grind[Ln]
theorem aEi {U l:List Int} {j:Nat} (h:j<=U.length):(Ln U j l).drop j=l++U.drop (j+l.length):=by
 grind[Ln]
theorem aEj {U l:List Int} {j:Nat} (a:cQ U) (b:cQ l):cQ (Ln U j l):=agm (SU a _) (agm b (ahP a _))
theorem aEk {U q v:List Int} {j m:Nat} {A:Int} (d:cQ U) (w:cQ v) (G:cQ q) (H:2<=v.length) (u:U.length=m+1+v.length) (x:q.length=m+1) (J:j<=m) (p:0<bD v)
  (s:bC q j 0=0) (B:bD U+bD v*bD q=A) (D:bD (U.drop (j+1))<bD v):
  bD (prt U j (v.length+1))<4294967296*bD v/\
  (cQ (Ln U j (HH (v.length+1) (bD (prt U j (v.length+1)) % bD v)))/\(Ln U j (HH (v.length+1) (bD (prt U j (v.length+1)) % bD v))).length=U.length)/\
  (0<=bD (prt U j (v.length+1)) / bD v/\bD (prt U j (v.length+1)) / bD v<4294967296)/\
  bD (Ln U j (HH (v.length+1) (bD (prt U j (v.length+1)) % bD v)))+bD v*bD (q.set j (bD (prt U j (v.length+1)) / bD v))=A/\
  bD ((Ln U j (HH (v.length+1) (bD (prt U j (v.length+1)) % bD v))).drop j)<bD v:=by
 have y:=Ku w
 have f:=ahP d (j+1)
 have l:=rf (afb d (j:=j) (k:=v.length+1))
 have b:bD (U.drop (j+(v.length+1)))=0:=by
  have e:bD (U.drop (j+1))=bD ((U.drop (j+1)).take v.length)+4294967296^v.length*bD ((U.drop (j+1)).drop v.length):=afj (by simp;omega)
  rw[γW,show j+1+v.length=j+(v.length+1) by omega] at e
  have I:=rf (SU f v.length)
  have F:=rf (ahP d (j+(v.length+1)))
  by_cases h:bD (U.drop (j+(v.length+1)))=0
  ·exact h
  ·have:=ν (show(1:Int)<=bD (U.drop (j+(v.length+1))) by omega) (φ (pow_pos v.length))
   omega
 have a:bD (U.drop j)=bD (prt U j (v.length+1)):=by
  have e:bD (U.drop j)=bD ((U.drop j).take (v.length+1))+4294967296^(v.length+1)*bD ((U.drop j).drop (v.length+1)):=afj (by simp;omega)
  rw[γW,b,δL,εk] at e;exact e
 have g:bD (U.drop j)=bC U j 0+4294967296*bD (U.drop (j+1)):=by
  rw[alZ (show j<U.length by omega)]
  rfl
 have K:=qb d j
 have r:bD (prt U j (v.length+1))<4294967296*bD v:=by omega
 have i:=@ajq (v.length+1) (bD (prt U j (v.length+1)) % bD v)
 have C:=γ8 (bD (prt U j (v.length+1))) (show bD v≠0 by omega)
 have E:=γO (bD (prt U j (v.length+1))) p
 have t:bD (HH (v.length+1) (bD (prt U j (v.length+1)) % bD v))=bD (prt U j (v.length+1)) % bD v:=by
  grind[apG]
 have o:bD ((Ln U j (HH (v.length+1) (bD (prt U j (v.length+1)) % bD v))).drop j)=bD (prt U j (v.length+1)) % bD v:=by
  grind[aEi,al1]
 have c:(Ln U j (HH (v.length+1) (bD (prt U j (v.length+1)) % bD v))).length=U.length:=avX (by rw[i];omega)
 have n:0<=bD (prt U j (v.length+1)) / bD v:=γ9 l (by omega)
 refine⟨r,⟨aEj d apE,c⟩,⟨n,δy p r⟩,?_,by omega⟩
 rw[afj (U:=Ln U j _) (j:=j) (by rw[c];omega),aEh (by omega),o,ae9 (by omega),s,ζc]
 rw[afj (U:=U) (j:=j) (by omega),a] at B
 have z:=δa (bD (prt U j (v.length+1))) (bD v)
 grind
theorem awD {a b:List Int} {s:Nat} (k:cQ a) (w:cQ b) (u:s<=31) (l:b.length<=a.length) (q:1<=b.length) (d:1<=bC b (b.length - 1) 0):
  cQ (shl a s)/\(shl a s).length=a.length+1/\bD (shl a s)=bD a*2^s/\bD ((shl a s).drop (a.length - b.length+1))<bD b*2^s:=by
 have e:(0:Int)<2^s:=γU (by decide)
 have v:(2:Int)^s<=2147483648:=by
  have h:(2:Nat)^s<=2^31:=εq (by decide) u
  grind
 have f:=rf k
 have g:=Ku k
 have n:bD a*2^s<4294967296^a.length*2^s:=γP g e
 have c:bD (shl a s)=bD a*2^s:=by
  unfold shl
  refine apG (γh f (φ e)) (εM n ?_)
  rw[γx]
  exact ν (by omega) (φ (pow_pos _))
 have i:cQ (shl a s):=apE
 have t:(shl a s).length=a.length+1:=ajq
 refine⟨i,t,c,?_⟩
 have h:=afj (U:=shl a s) (j:=a.length - b.length+1) (by omega)
 have y:=rf (SU i (a.length - b.length+1))
 have x:4294967296^(b.length - 1)*bC b (b.length - 1) 0<=bD b:=aqa w
 have o:(4294967296:Int)^(b.length - 1)<=bD b:=by
  have:=ν d (φ (pow_pos (b.length - 1)))
  omega
 have m:(4294967296:Int)^a.length=4294967296^(a.length - b.length+1)*4294967296^(b.length - 1):=by
  rw[<-δg]
  congr 1
  omega
 rw[c] at h
 have p:(4294967296:Int)^(a.length - b.length+1)*bD ((shl a s).drop (a.length - b.length+1))<4294967296^(a.length - b.length+1)*(4294967296^(b.length - 1)*2^s):=by
  rw[<-γI,<-m];omega
 have r:=εt p (φ (pow_pos _))
 exact εM r (γG o (φ e))
theorem aEl {x y:Int} {s:Nat} (n:0<=x) (u:x<4294967296) (t:0<=y) (o:y<4294967296) (g:0<s) (q:s<=31):
  ∃r,J9.orI .u32 (x / 2^s) (y*2^(32 - s) % 4294967296)=r/\(0<=r/\r<4294967296)/\2^s*r=x - x % 2^s+4294967296*(y % 2^s):=by
 have b:(0:Int)<2^s:=γU (by decide)
 have c:(0:Int)<2^(32 - s):=γU (by decide)
 have l:(4294967296:Int)=2^s*2^(32 - s):=by
  rw[<-δg,show s+(32 - s)=32 by omega]
  decide
 have f:y*2^(32 - s) % 4294967296=(y % 2^s)*2^(32 - s):=by
  conv=>lhs;rw[l]
  rw[δr y,δr (2^s),ζt _ _ c,δr]
 have d:=γ8 y (show(2:Int)^s≠0 by omega)
 have p:=γO y b
 have e:0<=x / 2^s:=γ9 n (φ b)
 have m:x / 2^s<2^(32 - s):=δy b (by grind)
 have h:(y % 2^s)*2^(32 - s)+2^(32 - s)<=4294967296:=by
  have:=γG (show y % 2^s+1<=2^s by omega) (φ c)
  grind
 have j:0<=(y % 2^s)*2^(32 - s):=γh d (φ c)
 have a:=awx (k:=32 - s) e m d (by omega) (by omega)
 refine⟨x / 2^s+(y % 2^s)*2^(32 - s),by rw[f,a],⟨by omega,by omega⟩,?_⟩
 have i:=δa x (2^s)
 grind
theorem awE {U r:List Int} {i s:Nat} {d:Int} (b:cQ U) (c:cQ r) (h:i<r.length) (g:∀j,i<=j->bC r j 0=0) (a:0<=d/\d<4294967296)
  (f:2^s*d=bC U i 0 - bC U i 0 % 2^s+4294967296*(bC U (i+1) 0 % 2^s))
  (e:2^s*bD r=bD (U.take i) - bC U 0 0 % 2^s+4294967296^i*(bC U i 0 % 2^s)):
  cQ (r.set i d)/\(r.set i d).length=r.length/\(∀j,i+1<=j->bC (r.set i d) j 0=0)/\
  2^s*bD (r.set i d)=bD (U.take (i+1)) - bC U 0 0 % 2^s+4294967296^(i+1)*(bC U (i+1) 0 % 2^s):=by
 grind[aa2,acB,ae9,KE]
theorem aEm {U r v q:List Int} {n s:Nat} {a b:Int} (f:cQ U) (A:cQ r) (y:cQ v) (g:v.length=n) (u:bD U<bD v) (J:bD v=b*2^s) (C:0<b) (D:bD U+bD v*bD q=a*2^s)
  (G:s<=31) (x:n+1<=U.length)
  (c:2^s*bD r=bD (U.take n) - bC U 0 0 % 2^s+4294967296^n*(bC U n 0 % 2^s)):bD q=a / b/\bD r=a % b:=by
 have H:(0:Int)<2^s:=γU (by decide)
 have m:=Ku y
 rw[g] at m
 have o:bC U n 0=0:=ajs f (i:=n) (by omega) (Θ _)
 have e:bD (U.take n)=bD U:=by
  have k:=afj (U:=U) (j:=n) (by omega)
  have p:=rf (SU f n)
  have w:=rf (ahP f n)
  by_cases h:bD (U.drop n)=0
  ·simp_all
  ·have:=ν (show(1:Int)<=bD (U.drop n) by omega) (φ (pow_pos n))
   omega
 have d:bD U=2^s*(a - b*bD q):=by
  grind
 have l:bC U 0 0 % 2^s=0:=by
  have k:=@KE U 0
  have p:=afj (U:=U) (j:=1) (by omega)
  have E:(4294967296:Int)=2^s*2^(32 - s):=by
   rw[<-δg,show s+(32 - s)=32 by omega]
   decide
  simp only[Nat.zero_add,List.take_zero,bD,εj,εz,Int.zero_add] at k;rw[k,γx,εj,εz] at p
  have w:bC U 0 0=2^s*(a - b*bD q - 2^(32 - s)*bD (U.drop 1)):=by
   grind
  simp_all
 rw[o,l,e,Int.zero_emod,δL,ζc,εk,d] at c
 have t:bD r=a - b*bD q:=Int.eq_of_mul_eq_mul_left (by omega) c
 have B:=rf A
 have z:bD r<b:=by
  have:2^s*bD r<2^s*b:=by
   grind
  simp_all
 obtain⟨F,I⟩:=afc (X:=a) (V:=b) (q:=bD q) (by grind) (by grind)
 grind
theorem amd:∀{w:List Int},cQ w->qH w->w≠[]->4294967296^(w.length - 1)<=bD w
 |[],_,_,h=>absurd rfl h
 |[d],a,b,_=>by
  have f:=(Kt.1 a).1
  have c:=b.1 rfl
  grind[bD]
 |d::e::l,a,b,_=>by
  obtain⟨f,c⟩:=Kt.1 a
  have g:=amd c b.2 (by simp)
  have i:bD (d::e::l)=d+4294967296*bD (e::l):=rfl
  simp only[List.length_cons,ζO] at g ⊢;omega
theorem afk {a b:Nat} (h:a<=b):(4294967296:Int)^a<=4294967296^b:=by
 obtain⟨m,rfl⟩:=Nat.exists_eq_add_of_le h
 rw[δg]
 have c:=pow_pos a
 have d:=pow_pos m
 have:=ν (show(1:Int)<=4294967296^m by omega) (φ c)
 omega
theorem aqd {t:List Int} {s:Nat} (e:cQ t) (H:1<=t.length) (G:s<=31) (d:bC t (t.length - 1) 0*2^s<4294967296) (c:2147483648<=bC t (t.length - 1) 0*2^s):
  cQ (eZ (shl t s))/\(eZ (shl t s)).length=t.length/\bD (eZ (shl t s))=bD t*2^s/\2147483648<=bC (eZ (shl t s)) (t.length - 1) 0/\1<=bC t (t.length - 1) 0:=by
 have o:(0:Int)<2^s:=γU (by decide)
 have q:=qb e (t.length - 1)
 have a:1<=bC t (t.length - 1) 0:=by
  grind
 obtain⟨y,N,z,_⟩:=awD e e G (Θ _) H a
 obtain⟨f,E⟩:=@adJ (shl t s)
 have i:=aej y
 rw[z] at f
 generalize eZ (shl t s)=w at*
 obtain⟨n,A⟩:∃n,t.length=n+1:=⟨t.length - 1,by omega⟩
 rw[A] at d c a q ⊢;simp only[ζO] at d c a q ⊢
 have p:=pow_pos n
 have v:bD t=bD (t.take n)+4294967296^n*bC t n 0:=by
  grind[KE]
 have B:=rf (SU e n)
 have k:=Ku (SU e n)
 rw[γd,δO (by omega)] at k
 have J:(4294967296:Int)=2^(32 - s)*2^s:=by
  rw[<-δg,show 32 - s+s=32 by omega]
  decide
 have L:(0:Int)<2^(32 - s):=γU (by decide)
 have D:bC t n 0<2^(32 - s):=by
  simp_all
 have l:(bC t n 0+1)*2^s<=4294967296:=by
  have:=γG (show bC t n 0+1<=2^(32 - s) by omega) (φ o)
  omega
 have x:bD w<4294967296^(n+1):=by
  rw[f,γx]
  have F:bD t<4294967296^n*(bC t n 0+1):=by grind
  have M:=γP F o
  have I:=ν l (φ p)
  grind
 have u:4294967296^n*(bC t n 0*2^s)<=bD w:=by
  rw[f,<-γI]
  exact γG (by omega) (φ o)
 have r:(4294967296:Int)^n<=bD w:=by
  have:=ν (show(1:Int)<=bC t n 0*2^s by omega) (φ p)
  omega
 have b:w.length=n+1:=by
  have K:n<w.length:=by
   by_cases h:n<w.length
   ·exact h
   ·have:=Ku i
    have:=afk (show w.length<=n by omega)
    omega
  by_cases h:w.length=n+1
  ·exact h
  ·have j:w≠[]:=by grind
   have:=amd i E j
   have:=afk (show n+1<=w.length - 1 by omega)
   omega
 refine⟨i,b,f,?_,a⟩
 have C:bD w=bD (w.take n)+4294967296^n*bC w n 0:=by
  grind[KE]
 have m:=Ku (SU i n)
 rw[γd,δO (by omega)] at m
 have g:4294967296^n*(bC t n 0*2^s)<4294967296^n*(bC w n 0+1):=by grind
 have:=εt g (φ p)
 omega
@[reducible] def sF:cn:=.pair .b (.pair (.fK (.i .u32)) (.fK (.i .u32)))
abbrev fi:=Bool×(List Int×List Int)
def cC (q:Rat):fi:=(decide (q<0),(ey (q.num.natAbs:Int),ey (q.den:Int)))
def fa (x:fi):Rat:=mkRat (if x.1 then -bD x.2.1 else bD x.2.1) (bD x.2.2).toNat
def Sz (k:Nat) (q:Rat):Prop:=(q.num.natAbs:Int)<4294967296^k/\(q.den:Int)<4294967296^k
theorem Lq {n:Int} {k:Nat} (e:0<=n) (h:n<4294967296^k):(ey n).length<=k:=by
 obtain⟨f,b,d⟩:=ri e
 by_cases c:(ey n).length<=k
 ·exact c
 ·have a:ey n≠[]:=by grind
  have:=amd b d a
  have:=afk (show k<=(ey n).length - 1 by omega)
  omega
theorem awF {a:List Int} {k:Nat} (h:cQ a) (b:a.length<=k):bD a<4294967296^k:=by
 have:=Ku h
 have:=afk b
 omega
theorem sy (q:Rat):fa (cC q)=q:=by
 unfold fa cC
 have a:=(ri (show(0:Int)<=(q.num.natAbs:Int) by omega)).1
 have b:=(ri (show(0:Int)<=(q.den:Int) by omega)).1
 simp only[a,b,decide_eq_true_eq,Int.toNat_natCast]
 grind[Rat.num_nonneg,δZ]
theorem awG {N:Int} {D:Nat} (a:D≠0):(mkRat N D).num.natAbs=N.natAbs / N.natAbs.gcd D/\(mkRat N D).den=D / N.natAbs.gcd D:=by
 rw[<-ζy a,Rat.normalize_eq a]
 simp only
 refine⟨?_,trivial⟩
 have b:0<N.natAbs.gcd D:=Nat.gcd_pos_of_pos_right _ (by omega)
 have c:((N.natAbs.gcd D:Nat):Int)∣N:=Int.ofNat_dvd_left.2 (Nat.gcd_dvd_left _ _)
 generalize N.natAbs.gcd D=g at*
 obtain⟨m,rfl⟩:=c
 rw[Int.mul_ediv_cancel_left _ (by omega),εu,ζd,Nat.mul_div_cancel_left _ b]
theorem aEn {N:Int} {D:Nat} (f:D≠0):mkRat N D<0↔N<0:=by
 have i:(0:Rat)=mkRat 0 D:=(Rat.zero_mkRat D).symm
 have e:mkRat N D<0↔¬0<=mkRat N D:=Rat.not_le.symm
 rw[e,<-Rat.num_nonneg]
 have g:=Rat.num_divInt_den (mkRat N D)
 have c:(mkRat N D).num*(D:Int)=N*((mkRat N D).den:Int):=by
  grind[Rat.mkRat_eq_iff,mkRat,δZ]
 have d:(0:Int)<((mkRat N D).den:Int):=by have:=(mkRat N D).den_pos;omega
 have b:(0:Int)<(D:Int):=by omega
 constructor
 ·intro h
  by_cases a:N<0
  ·exact a
  ·exfalso
   apply h
   have:0<=(mkRat N D).num*(D:Int):=by rw[c];exact γh (by omega) (by omega)
   exact Int.nonneg_of_mul_nonneg_left this b
 ·intro a h
  have:0<=(mkRat N D).num*(D:Int):=γh h (by omega)
  rw[c] at this
  have:=Int.mul_neg_of_neg_of_pos a d
  omega
theorem aqe {s:Bool} {n d:Int} (n0:0<=n) (f:0<d):cC (mkRat (if s then -n else n) d.toNat)=(s&&decide (0<n),(ey (n / q9 n d),ey (d / q9 n d))):=by
 have e:d.toNat≠0:=by omega
 obtain⟨b,c⟩:=awG (N:=if s then -n else n) e
 have a:(if s then -n else n).natAbs=n.toNat:=by split<;>omega
 unfold cC;rw[b,c,a]
 have g:q9 n d=((n.toNat.gcd d.toNat:Nat):Int):=rfl
 refine εa ?_ (εa ?_ ?_)
 ·simp only
  rw[Bool.eq_iff_iff];simp only[decide_eq_true_eq,μ]
  grind[aEn]
 all_goals grind
theorem ajJ {N:Int} {D:Nat} {k:Nat} (b:D≠0) (f:(N.natAbs:Int)<4294967296^k) (e:(D:Int)<4294967296^k):Sz k (mkRat N D):=by
 obtain⟨c,a⟩:=awG (N:=N) b
 unfold Sz;rw[c,a]
 have g:=Nat.div_le_self N.natAbs (N.natAbs.gcd D)
 have d:=Nat.div_le_self D (N.natAbs.gcd D)
 omega
theorem Sz.mono {j k:Nat} {q:Rat} (h:Sz j q) (a:j<=k):Sz k q:=by
 have:=afk a
 exact⟨by have:=h.1;omega,by have:=h.2;omega⟩
theorem awH (p q:Rat):p+q=mkRat (p.num*q.den+q.num*p.den) (p.den*q.den):=by
 rw[Rat.add_def,ζy]
theorem ah2 {p q:Rat} {i j:Nat} (e:Sz i p) (c:Sz j q):Sz (i+j+1) (p+q):=by
 rw[awH]
 have g:=p.den_pos
 have l:=q.den_pos
 have k:p.den*q.den≠0:=Nat.ne_of_gt (Nat.mul_pos g l)
 have m:∀{a b:Int} {i j:Nat},0<=a->0<=b->a<4294967296^i->b<4294967296^j->a*b<4294967296^(i+j):=by
  intro a b i j h o f d;rw[δg]
  exact εb (ν (φ d) h) (γP f (pow_pos _))
 have f:=m (by omega) (by omega) e.1 c.2
 have d:=m (by omega) (by omega) c.1 e.2
 have n:=m (by omega) (by omega) e.2 c.2
 rw[Nat.add_comm j i] at d
 have t:=pow_pos (i+j)
 refine ajJ k ?_ ?_
 ·have r:(p.num*(q.den:Int)).natAbs=p.num.natAbs*q.den:=by rw[εu,ζd]
  have s:(q.num*(p.den:Int)).natAbs=q.num.natAbs*p.den:=by rw[εu,ζd]
  omega
 omega
theorem afl {p:Rat} {i:Nat} (a:Sz i p):Sz i (-p):=by
 grind[Sz,Rat.neg_num,Rat.neg_den]
def aqf:og:=ahY 191 3 (Int×Int×Int) to3 of3 (λ_=>rfl) apZ ap0 (λa=>a.1.1=a.1.2.1.length/\a.1.2.1.length<=1000/\0<=a.2.1/\a.2.1<a.2.2.1/\a.2.2.1<a.2.2.2/\a.2.2.2<=a.1.2.1.length) λa=>rotR a.1.2.1 a.2.1.toNat a.2.2.1.toNat a.2.2.2.toNat
def aEo (n:Nat) (l:List Int) (p:dd) (a m b:Int):Nat->jY
 |2=> .inv (Int×Int×List Int) (λx=>⟨[(0,.ow 0 n 1),(2,.si .i64 m),(4,.fn (.func 121) [] [.ptr 1 0 20]),(10,.si .i64 x.1),(11,.si .i64 x.2.1)],[.row (.i .i64) x.2.2 3 true,.cells p.ss 27 20 false]⟩) (λs=>(iS s 10,iS s 11,oS (.i .i64) s 0))
   (λx=>(0<x.1/\0<x.2.1)/\∃A X Y B:List Int,x.2.2=A++(X++(Y++B))/\(A.length:Int)+x.1=m/\(X.length:Int)=x.1/\(Y.length:Int)=x.2.1/\A++(Y++(X++B))=rotR l a.toNat m.toNat b.toNat) (λx=>(x.1+x.2.1).toNat) λ_ _=> .look
 |_=> .look
theorem h351:sd Tryz.prog aqf:=by
 refine Sj (L:=[]) (W:=[ap2]) aqf (λa=>aEo a.1.1 a.1.2.1 a.1.2.2 a.2.1 a.2.2.1 a.2.2.2) (by grind[h363]) (by simp) ?_
 rintro⟨⟨n,l,p⟩,a,m,b⟩ ⟨hn,T,a0,R,h2,U⟩
 refine gp (let j:=γa .i64;let q:=ie .i64;let w:=(0:Int);let K:=cJ.row;let s:=γQ 0 n 1;let r:=SV.fn (Fn.func 121) [] [γ5 1 0 20];let L:=j (m - a);let Z:=j (b - m);let o:=cn.i .i64;let V:=K o l 3 true;let h:=cJ.cells [j p.supply.a0,j p.supply.a1,j p.supply.a2,j p.supply.a3,j p.supply.a4,j p.supply.a5,j p.opn.a0,j p.opn.a1,j p.opn.a2,j p.opn.a3,j p.opn.a4,j p.opn.a5,j p.cls.a0,j p.cls.a1,j p.cls.a2,j p.cls.a3,j p.cls.a4,j p.cls.a5,Ξ o p.classes,Ξ cn.off p.offers] 27 20 false;let M:=rotR l a.toNat m.toNat b.toNat;q (m - a)/\q (b - m)/\(((s.same s/\(j m).same (j m)/\r.same r/\L.same L/\Z.same Z/\True)/\V.same V/\h.same h/\True)/\(w<m - a/\w<b - m)/\∃(A:List Int),∃(X:List Int),∃(Y:List Int),∃(B:List Int),l=A++(X++(Y++B))/\(↑A.length:Int)+(m - a)=m/\(↑X.length:Int)=m - a/\(↑Y.length:Int)=b - m/\A++(Y++(X++B))=M)/\∀(x:Int×Int×List Int),let c:=x.snd.snd.length;let k:=(m - x.fst).toNat;let D:=(x.fst+x.snd.fst).toNat;let C:=decide (x.fst≠x.snd.fst);let J:=decide (x.snd.fst<x.fst);let g:=x.fst - x.snd.fst;let v:=j g;let I:=j x.snd.fst;let G:=PU x.snd.snd k m.toNat x.snd.fst.toNat;let z:=K o G 3 true;let y:=m+x.snd.fst - x.fst;let O:=λ(u d N f e:Int) ↦let H:=j f;let F:=PU x.snd.snd k d.toNat u.toNat;let E:=K o F 3 true;(n=c/\c<=1000/\w<=m - x.fst/\w<=u/\m - x.fst+u<=d/\d+u<=(↑c:Int))/\q (N - u)/\((s.same s/\(j m).same (j m)/\r.same r/\H.same H/\(j e).same (j e)/\True)/\E.same E/\h.same h/\True)/\((w<f/\w<e)/\∃(A:List Int),∃(X:List Int),∃(Y:List Int),∃(B:List Int),F=A++(X++(Y++B))/\(↑A.length:Int)+f=m/\(↑X.length:Int)=f/\(↑Y.length:Int)=e/\A++(Y++(X++B))=M)/\(f+e).toNat<D;let S:=λ(u:Int) (d:List Int) ↦(w<u/\w<x.snd.fst)/\∃(A:List Int),∃(X:List Int),∃(Y:List Int),∃(B:List Int),d=A++(X++(Y++B))/\(↑A.length:Int)+u=m/\(↑X.length:Int)=u/\(↑Y.length:Int)=x.snd.fst/\A++(Y++(X++B))=M;let t:=λ(u:Int) ↦n=c/\c<=1000/\w<=m - x.fst/\w<=u/\m - x.fst+u<=m/\m+u<=(↑c:Int);S x.fst x.snd.snd->(C=true->(J=true->q (m - x.fst)/\t x.snd.fst/\q g/\((s.same s/\(j m).same (j m)/\r.same r/\v.same v/\I.same I/\True)/\z.same z/\h.same h/\True)/\S g G/\(g+x.snd.fst).toNat<D)/\(J=false->q (m - x.fst)/\q (m+x.snd.fst)/\q y/\O x.fst y x.snd.fst x.fst (x.snd.fst - x.fst)))/\(C=false->q (m - x.fst)/\t x.fst/\(SV.eW []).same (SV.eW [])/\(K o (PU x.snd.snd k m.toNat x.fst.toNat) 3 true).same (K o M 3 true)/\h.same h/\True)) (by kernel_rfl) ?_
 simp only[vcs]
 have hn:n=l.length:=hn
 have T:l.length<=1000:=T
 have a0:0<=a:=a0
 have R:a<m:=R
 have h2:m<b:=h2
 have U:b<=l.length:=U
 have la:(l.take a.toNat).length=a.toNat:=by grind
 have l1:=S1 (l:=l) (a:=a.toNat) (b:=m.toNat) (by omega) (by omega)
 have l2:=S1 (l:=l) (a:=m.toNat) (b:=b.toNat) (by omega) (by omega)
 refine⟨by omega,by omega,⟨⟨by omega,by omega⟩,l.take a.toNat,seg l a.toNat m.toNat,seg l m.toNat b.toNat,l.drop b.toNat,awj (by omega) (by omega) (by omega),by omega,by omega,by omega,rfl⟩,?_⟩
 rintro⟨i,j,w⟩ ⟨⟨i0,j0⟩,A,X,Y,B,P,hA,hX,hY,O⟩
 simp only at i0 j0 P hA hX hY ⊢
 have K:=congrArg List.length O
 rw[awp (by omega) (by omega) (by omega)] at K
 simp only[θ] at K
 have Q:w.length=l.length:=by grind
 rw[Q]
 refine⟨λa7=>⟨λa8=>?_,λa9=>?_⟩,λb0=>?_⟩
 ·have q:=aD6 (A:=A) (X:=X) (Y:=Y) (B:=B) (i:=i.toNat) (j:=j.toNat) (by omega) (by omega) (by omega) (m:=m.toNat) (by omega)
  rw[<-P,show m.toNat - i.toNat=(m - i).toNat by omega] at q
  refine⟨by omega,⟨by omega,by omega,by omega,by omega,by omega,by omega⟩,by omega,⟨⟨by omega,by omega⟩,A++Y,X.drop j.toNat,X.take j.toNat,B,q,?_,?_,?_,?_⟩,by omega⟩
  ·grind
  ·grind
  ·grind
  ·rw[<-O]
   rw[<-γl (X.take j.toNat),γc]
   simp
 ·have q:=aD7 (A:=A) (X:=X) (Y:=Y) (B:=B) (i:=i.toNat) (j:=j.toNat) (by omega) (by omega) (by omega) (m:=m.toNat) (by omega)
  rw[<-P,show m.toNat - i.toNat=(m - i).toNat by omega,show m.toNat+j.toNat - i.toNat=(m+j - i).toNat by omega] at q
  refine⟨by omega,by omega,by omega,⟨by omega,by omega,by omega,by omega,by omega,by omega⟩,by omega,⟨⟨by omega,by omega⟩,A,Y.drop (j.toNat - i.toNat),Y.take (j.toNat - i.toNat),X++B,q,by omega,?_,?_,?_⟩,by omega⟩
  ·grind
  ·grind
  ·rw[<-O]
   rw[<-γl (Y.take (j.toNat - i.toNat)),γc]
 ·have a6:i=j:=by omega
  have q:=aD8 (A:=A) (X:=X) (Y:=Y) (B:=B) (i:=i.toNat) (by omega) (by omega) (m:=m.toNat) (by omega)
  grind[aen]
theorem awI {l:List Int} {a b c:Nat}:(seg l a b).drop c=seg l (a+c) b:=by
 unfold seg
 rw[List.drop_take,γW,show b - a - c=b - (a+c) by omega]
abbrev SyA:=Srg×Int×Int×Int
def acE (a:SyA):Prop:=afh a.1/\(0<=a.2.1/\a.2.1<a.2.2.1/\a.2.2.1<a.2.2.2/\a.2.2.2<=a.1.2.1.length)/\Kp (gB a.1.2.2) (seg a.1.2.1 a.2.1.toNat a.2.2.1.toNat)/\Kp (gB a.1.2.2) (seg a.1.2.1 a.2.2.1.toNat a.2.2.2.toNat)/\
 ∀x∈seg a.1.2.1 a.2.1.toNat a.2.2.1.toNat,∀y∈seg a.1.2.1 a.2.2.1.toNat a.2.2.2.toNat,x<y
def ac5 (k:Nat):og:=ahY 180 3 (Int×Int×Int) to3 of3 (λ_=>rfl) apZ ap0 (λa=>acE a/\(a.2.2.2 - a.2.1).toNat<k) λa=>od (gB a.1.2.2) a.1.2.1 a.2.1.toNat a.2.2.2.toNat
def ajK (k:Nat):List og:=[ac5 k,aqf,al9]
def ajL (l:List Int) (p:dd):jr:=[.row (.i .i64) l 3 true,.cells p.ss 27 20 false]
def awJ (n:Nat) (l:List Int) (p:dd) (a m b:Int):Nat->jY
 |3=> .inv (Int×Int) (λx=>⟨[(0,.ow 0 n 1),(1,.si .i64 a),(4,.fn (.func 121) [] [.ptr 1 0 20]),(10,.si .i64 x.1),(11,.si .i64 x.2)],ajL l p⟩) (λs=>(iS s 10,iS s 11))
   (λx=>(m<=x.1/\x.1<=x.2/\x.2<=b)/\(∀k:Nat,m<=k->(k:Int)<x.1->gB p (bC l a.toNat 0)<gB p (bC l k 0))/\∀k:Nat,x.2<=k->(k:Int)<b->¬gB p (bC l a.toNat 0)<gB p (bC l k 0)) (λx=>(x.2 - x.1).toNat) λ_ _=> .look
 |9=> .inv (Int×Int×List Int) (λx=>⟨[(0,.ow 0 n 1),(10,.si .i64 x.2.1),(13,.si .i64 x.1)],ajL x.2.2 p⟩) (λs=>(iS s 13,iS s 10,oS (.i .i64) s 0))
   (λx=>(a<=x.1/\x.1<=x.2.1 - 1/\m<=x.2.1/\x.2.1<=b)/\((∀k:Nat,m<=k->(k:Int)<x.2.1->gB p (bC l a.toNat 0)<gB p (bC l k 0))/\∀k:Nat,x.2.1<=k->(k:Int)<b->¬gB p (bC l a.toNat 0)<gB p (bC l k 0))/\x.2.2=ZV l a.toNat b.toNat (x.1 - a).toNat) (λx=>(x.2.1 - x.1).toNat) λ_ _=> .look
 |15=> .inv (Int×Int) (λx=>⟨[(0,.ow 0 n 1),(2,.si .i64 m),(4,.fn (.func 121) [] [.ptr 1 0 20]),(14,.si .i64 x.1),(15,.si .i64 x.2)],ajL l p⟩) (λs=>(iS s 14,iS s 15))
   (λx=>(a<=x.1/\x.1<=x.2/\x.2<=m)/\(∀k:Nat,a<=k->(k:Int)<x.1->¬gB p (bC l k 0)<gB p (bC l m.toNat 0))/\∀k:Nat,x.2<=k->(k:Int)<m->gB p (bC l k 0)<gB p (bC l m.toNat 0)) (λx=>(x.2 - x.1).toNat) λ_ _=> .look
 |21=> .inv (Int×Int×List Int) (λx=>⟨[(0,.ow 0 n 1),(14,.si .i64 x.2.1),(17,.si .i64 x.1)],ajL x.2.2 p⟩) (λs=>(iS s 17,iS s 14,oS (.i .i64) s 0))
   (λx=>(x.2.1<=x.1/\x.1<=m/\a<=x.2.1)/\((∀k:Nat,a<=k->(k:Int)<x.2.1->¬gB p (bC l k 0)<gB p (bC l m.toNat 0))/\∀k:Nat,x.2.1<=k->(k:Int)<m->gB p (bC l k 0)<gB p (bC l m.toNat 0))/\x.2.2=N2 (gB p) l a.toNat m.toNat x.1.toNat) (λx=>(x.1 - x.2.1).toNat) λ_ _=> .look
 |33=> .inv (Int×Int) (λx=>⟨[(0,.ow 0 n 1),(1,.si .i64 a),(2,.si .i64 m),(3,.si .i64 b),(4,.fn (.func 121) [] [.ptr 1 0 20]),(18,.si .i64 ((a+b) / 2^1)),(19,.si .i64 ((a+b) / 2^1+m)),(20,.si .i64 x.1),(21,.si .i64 x.2),(22,.si .i64 ((a+b) / 2^1+m - 1))],ajL l p⟩) (λs=>(iS s 20,iS s 21))
   (λx=>((if(a+b) / 2<m then(a+b) / 2+m - b else a)<=x.1/\x.1<=x.2/\x.2<=(if(a+b) / 2<m then(a+b) / 2 else m))/\(∀k:Nat,(if(a+b) / 2<m then(a+b) / 2+m - b else a)<=k->(k:Int)<x.1->¬gB p (bC l k 0)<gB p (bC l ((a+b) / 2+m - 1 - k).toNat 0))/\
    ∀k:Nat,x.2<=k->(k:Int)<(if(a+b) / 2<m then(a+b) / 2 else m)->gB p (bC l k 0)<gB p (bC l ((a+b) / 2+m - 1 - k).toNat 0)) (λx=>(x.2 - x.1).toNat) λ_ _=> .look
 |_=> .look
def ame (D:Int->Int) (n k:Nat) (l V:List Int) (p:dd) (a b mid e:Int):Prop:=
 (mid<e->(e<b->(acE ((n,V,p),mid,e,b)/\(b - mid).toNat<k)/\(cJ.row (cn.i IntKind.i64) (od D V mid.toNat b.toNat) 3 true).same (cJ.row (cn.i IntKind.i64) (od D l a.toNat b.toNat) 3 true))/\
  (¬e<b->(cJ.row (cn.i IntKind.i64) V 3 true).same (cJ.row (cn.i IntKind.i64) (od D l a.toNat b.toNat) 3 true)))/\(¬mid<e->(cJ.row (cn.i IntKind.i64) V 3 true).same (cJ.row (cn.i IntKind.i64) (od D l a.toNat b.toNat) 3 true))
def amf (D:Int->Int) (n k:Nat) (l W:List Int) (p:dd) (a b mid e s:Int):Prop:=
 (a<s->(s<mid->(acE ((n,W,p),a,s,mid)/\(mid - a).toNat<k)/\ame D n k l (od D W a.toNat mid.toNat) p a b mid e)/\(¬s<mid->ame D n k l W p a b mid e))/\(¬a<s->ame D n k l W p a b mid e)
def awK (D:Int->Int) (n k:Nat) (l:List Int) (p:dd) (a m b mid s:Int):Prop:=
 (-9223372036854775808<=mid+m - s/\mid+m - s<=9223372036854775807)/\
 (s<m->(m<mid+m - s->(n=l.length/\l.length<=1000/\0<=s/\s<m/\m<mid+m - s/\mid+m - s<=l.length)/\amf D n k l (rotR l s.toNat m.toNat (mid+m - s).toNat) p a b mid (mid+m - s) s)/\
  (¬m<mid+m - s->amf D n k l l p a b mid (mid+m - s) s))/\(¬s<m->amf D n k l l p a b mid (mid+m - s) s)
theorem aEq {D:Int->Int} {n k:Nat} {l:List Int} {p:dd} {a m b mid s:Int} (hD:gB p=D) (E:fO p=0) (I:n=l.length) (L:l.length<=1000) (K:∀x∈l,JI p x) (a0:0<=a) (a1:a<=s) (s1:s<=m) (sm:s<=mid) (am:a<mid) (mb:mid<b)
  (Q:m<=mid+m - s) (Y:mid+m - s<=b) (X:b<=l.length) (q:Kp D (seg l a.toNat m.toNat)) (r:Kp D (seg l m.toNat b.toNat)) (w:∀x∈seg l a.toNat m.toNat,∀y∈seg l m.toNat b.toNat,x<y)
  (J:∀x y,x∈seg l a.toNat s.toNat->y∈seg l (mid+m - s).toNat b.toNat->ET D x y=true) (M:∀x y,x∈seg l m.toNat (mid+m - s).toNat->y∈seg l s.toNat m.toNat->ET D x y=true) (V:(b - a).toNat<k+1):
  awK D n k l p a m b mid s:=by
 generalize U:mid+m - s=e at*
 obtain⟨⟨G,N,W⟩,⟨O,F,y3⟩,i⟩:=@aD4 D l a.toNat s.toNat m.toNat e.toNat b.toNat mid.toNat (by omega) (by omega) (by omega) (by omega) (by omega) (by omega) q r (λx h y g=>J x y h g) (λx h y g=>M x y h g)
 have rl:(rotR l s.toNat m.toNat e.toNat).length=l.length:=awp (by omega) (by omega) (by omega)
 have t:∀x∈rotR l s.toNat m.toNat e.toNat,JI p x:=λx h=>K x (aD2 h)
 have r0:(¬s<m\/¬m<e)->rotR l s.toNat m.toNat e.toNat=l:=λh=>aD3 (by omega) (by omega) (by omega) (by omega)
 generalize H:rotR l s.toNat m.toNat e.toNat=R at*
 have S:(od D R a.toNat mid.toNat).length=R.length:=ahV (by omega) (by omega)
 have P:∀x∈od D R a.toNat mid.toNat,JI p x:=λx h=>t x (ajH h)
 have A:Kp D (seg l a.toNat s.toNat):=δY (afi (by omega) (by omega)) q
 have B:Kp D (seg l s.toNat m.toNat):=δY (afi (by omega) (by omega)) q
 have u:Kp D (seg l m.toNat e.toNat):=δY (afi (by omega) (by omega)) r
 have f:Kp D (seg l e.toNat b.toNat):=δY (afi (by omega) (by omega)) r
 have v:(¬a<s\/¬s<mid)->od D R a.toNat mid.toNat=R:=by
  intro h
  refine ap6 (by omega) ?_
  grind
 generalize Z:od D R a.toNat mid.toNat=T at*
 have z:(¬mid<e\/¬e<b)->od D T mid.toNat b.toNat=T:=by
  intro h
  refine ap6 (by omega) ?_
  rcases h with h|h
  ·rw[show mid.toNat=e.toNat by omega,F];exact f
  grind
 have C:ame D n k l T p a b mid e:=by
  refine⟨λc=>⟨λd=>⟨⟨⟨⟨⟨E,by simp_all⟩,by simp_all,P⟩,⟨by grind,c,d,by simp_all⟩,?_,?_,?_⟩,by omega⟩,aen i⟩,λd=>aen ((z (.inr d)).symm.trans i)⟩,λc=>aen ((z (.inl c)).symm.trans i)⟩
  ·simp_all
  ·simp_all
  ·simp only[O,F]
   exact λx j y o=>w x ((afi (by omega) (by omega)).subset j) y ((afi (by omega) (by omega)).subset o)
 have hW:amf D n k l R p a b mid e s:=by
  refine⟨λc=>⟨λd=>⟨⟨⟨⟨⟨E,by simp_all⟩,by simp_all,t⟩,⟨by omega,c,d,by grind⟩,?_,?_,?_⟩,by omega⟩,by simp_all⟩,λd=>v (.inr d)▸C⟩,λc=>v (.inl c)▸C⟩
  ·simp_all
  ·simp_all
  ·simp only[G,N]
   exact λx j y o=>w x ((afi (by omega) (by omega)).subset j) y ((afi (by omega) (by omega)).subset o)
 refine⟨by omega,λc=>⟨λd=>⟨⟨I,L,by omega,c,by omega,by omega⟩,by simp_all⟩,λd=>?_⟩,λc=>?_⟩
 all_goals simp_all
theorem aEr (k n:Nat) (l:List Int) (p:dd) (a m b:Int) (hd:acE ((n,l,p),a,m,b)) (hk:(b - a).toNat<k+1):
  Vc (afZ (SR [] (CN (ajK k)) tyN mtN Da) (awJ n l p a m b) (fG 180) ((ac5 (k+1)).put ((n,l,p),a,m,b)) ((ac5 (k+1)).st ((n,l,p),a,m,b)) λv t=>v.same ((ac5 (k+1)).res ((n,l,p),a,m,b))/\N1 t ((ac5 (k+1)).out ((n,l,p),a,m,b))):=by
 obtain⟨⟨⟨hc,hn⟩,hl,ho⟩,⟨a0,a1,a2,a3⟩,hL,hR,hx⟩:=hd
 simp only at hc hn hl ho a0 a1 a2 a3 hL hR hx
 refine gp (let e:=γa .i64;let h:=(0:Int);let j:=ie .i64;let o:=SV.eW;let r:=(1:Int);let s:=cJ.row;let t:=(64:Int);let v:=(2:Int);let I:=(a+b) / v;let Q:=I+m;let w:=if I<m then Q - b else a;let y:=if I<m then I else m;let R:=Q - r;let A:=(↑l.length:Int);let f:=γQ 0 n 1;let K:=SV.fn (Fn.func 121) [] [γ5 1 0 20];let b1:=e I;let b2:=e Q;let b5:=e R;let g:=cn.i .i64;let S:=s g l 3 true;let c:=cJ.cells [e p.supply.a0,e p.supply.a1,e p.supply.a2,e p.supply.a3,e p.supply.a4,e p.supply.a5,e p.opn.a0,e p.opn.a1,e p.opn.a2,e p.opn.a3,e p.opn.a4,e p.opn.a5,e p.cls.a0,e p.cls.a1,e p.cls.a2,e p.cls.a3,e p.cls.a4,e p.cls.a5,Ξ g p.classes,Ξ cn.off p.offers] 27 20 false;let U:=I.toNat;let z:=s g (od (gB p) l a.toNat b.toNat) 3 true;let b3:=od (gB p) l a.toNat U;let c6:=decide (m - a=r);let H:=bC l a.toNat h;let d2:=decide (b - m=r);let q:=bC l m.toNat h;let Y:=∀(x:Int×Int),let P:=decide (I<Q - x.fst);let O:=decide (Q - x.fst<b);let b4:=(I,Q - x.fst,b);let T:=rotR l x.fst.toNat m.toNat (Q - x.fst).toNat;let c0:=x.fst+x.snd;let B:=c0 / v;let f2:=bC l (R - B).toNat h;let g1:=bC l B.toNat h;let c9:=decide (x.fst<x.snd);let f5:=decide (m<Q - x.fst);let a7:=od (gB p) T a.toNat U;let f3:=let g8:=(P=true->(O=true->(acE ((n,l,p),b4)/\(b - I).toNat<k)/\(o []).same (o [])/\(s g (od (gB p) l U b.toNat) 3 true).same z/\c.same c/\True)/\(O=false->(o []).same (o [])/\S.same z/\c.same c/\True))/\(P=false->(o []).same (o [])/\S.same z/\c.same c/\True);(decide (a<x.fst)=true->(decide (x.fst<I)=true->(acE ((n,l,p),a,x.fst,I)/\(I - a).toNat<k)/\(P=true->(O=true->(acE ((n,b3,p),b4)/\(b - I).toNat<k)/\(o []).same (o [])/\(s g (od (gB p) b3 U b.toNat) 3 true).same z/\c.same c/\True)/\(O=false->(o []).same (o [])/\(s g b3 3 true).same z/\c.same c/\True))/\(P=false->(o []).same (o [])/\(s g b3 3 true).same z/\c.same c/\True))/\(decide (x.fst<I)=false->g8))/\(decide (a<x.fst)=false->g8);let h7:=(P=true->(O=true->(acE ((n,T,p),b4)/\(b - I).toNat<k)/\(o []).same (o [])/\(s g (od (gB p) T U b.toNat) 3 true).same z/\c.same c/\True)/\(O=false->(o []).same (o [])/\(s g T 3 true).same z/\c.same c/\True))/\(P=false->(o []).same (o [])/\(s g T 3 true).same z/\c.same c/\True);let g7:=λ(u d:Int) ↦let f0:=e u;((f.same f/\(e a).same (e a)/\(e m).same (e m)/\(e b).same (e b)/\K.same K/\b1.same b1/\b2.same b2/\f0.same f0/\(e d).same (e d)/\b5.same b5/\True)/\S.same S/\c.same c/\True)/\((w<=u/\u<=d/\d<=y)/\(∀(k:Nat),w<=(↑k:Int)->(↑k:Int)<u->gB p (bC l k h)<gB p (bC l (R - (↑k:Int)).toNat h)->False)/\∀(k:Nat),d<=(↑k:Int)->(↑k:Int)<y->gB p (bC l k h)<gB p (bC l (R - (↑k:Int)).toNat h))/\(d - u).toNat<(x.snd - x.fst).toNat;let g4:=λ(u:Bool) ↦(!decide (aem p f2 g1<h))=u;((w<=x.fst/\x.fst<=x.snd/\x.snd<=y)/\(∀(k:Nat),w<=(↑k:Int)->(↑k:Int)<x.fst->gB p (bC l k h)<gB p (bC l (R - (↑k:Int)).toNat h)->False)/\∀(k:Nat),x.snd<=(↑k:Int)->(↑k:Int)<y->gB p (bC l k h)<gB p (bC l (R - (↑k:Int)).toNat h))->(c9=true->j c0/\ie .u64 c0/\h<=r/\r<=t/\j B/\j (R - B)/\n=l.length/\h<=R - B/\R - B<A/\n=l.length/\(R - B).toNat<l.length/\n=l.length/\h<=B/\B<A/\n=l.length/\B.toNat<l.length/\(fO p=h/\JI p f2/\JI p g1)/\(g4 true->j (B+r)/\g7 (B+r) x.snd)/\(g4 false->g7 x.fst B))/\(c9=false->j (Q - x.fst)/\(decide (x.fst<m)=true->(f5=true->(n=l.length/\l.length<=1000/\h<=x.fst/\x.fst<m/\m<Q - x.fst/\Q - x.fst<=(↑l.length:Int))/\(decide (a<x.fst)=true->(decide (x.fst<I)=true->(acE ((n,T,p),a,x.fst,I)/\(I - a).toNat<k)/\(P=true->(O=true->(acE ((n,a7,p),b4)/\(b - I).toNat<k)/\(o []).same (o [])/\(s g (od (gB p) a7 U b.toNat) 3 true).same z/\c.same c/\True)/\(O=false->(o []).same (o [])/\(s g a7 3 true).same z/\c.same c/\True))/\(P=false->(o []).same (o [])/\(s g a7 3 true).same z/\c.same c/\True))/\(decide (x.fst<I)=false->h7))/\(decide (a<x.fst)=false->h7))/\(f5=false->f3))/\(decide (x.fst<m)=false->f3));let C:=S.same S/\c.same c/\True;let D:=λ(u d:Int) ↦let e7:=e u;j R/\(((f.same f/\(e a).same (e a)/\(e m).same (e m)/\(e b).same (e b)/\K.same K/\b1.same b1/\b2.same b2/\e7.same e7/\(e d).same (e d)/\b5.same b5/\True)/\C)/\(w<=u/\u<=d/\d<=y)/\(∀(k:Nat),w<=(↑k:Int)->(↑k:Int)<u->gB p (bC l k h)<gB p (bC l (R - (↑k:Int)).toNat h)->False)/\∀(k:Nat),d<=(↑k:Int)->(↑k:Int)<y->gB p (bC l k h)<gB p (bC l (R - (↑k:Int)).toNat h))/\Y;let N:=λ(u d d5:Int) ↦let e9:=e u;let f9:=e d;(f.same f/\e9.same e9/\K.same K/\f9.same f9/\(e d5).same (e d5)/\True)/\C;j (m - a)/\(c6=true->(N a m b/\(m<=m/\m<=b/\b<=b)/\(∀(k:Nat),m<=(↑k:Int)->(↑k:Int)<m->gB p H<gB p (bC l k h))/\∀(k:Nat),b<=(↑k:Int)->(↑k:Int)<b->gB p H<gB p (bC l k h)->False)/\∀(x:Int×Int),let c1:=x.fst+x.snd;let M:=c1 / v;let d6:=bC l M.toNat h;let f8:=decide (x.fst<x.snd);let d3:=e x.fst;let c7:=λ(u d:Int) ↦let g2:=e u;((f.same f/\(e a).same (e a)/\K.same K/\g2.same g2/\(e d).same (e d)/\True)/\C)/\((m<=u/\u<=d/\d<=b)/\(∀(k:Nat),m<=(↑k:Int)->(↑k:Int)<u->gB p H<gB p (bC l k h))/\∀(k:Nat),d<=(↑k:Int)->(↑k:Int)<b->gB p H<gB p (bC l k h)->False)/\(d - u).toNat<(x.snd - x.fst).toNat;let g0:=λ(u:Bool) ↦decide (aem p d6 H<h)=u;((m<=x.fst/\x.fst<=x.snd/\x.snd<=b)/\(∀(k:Nat),m<=(↑k:Int)->(↑k:Int)<x.fst->gB p H<gB p (bC l k h))/\∀(k:Nat),x.snd<=(↑k:Int)->(↑k:Int)<b->gB p H<gB p (bC l k h)->False)->(f8=true->j c1/\ie .u64 c1/\h<=r/\r<=t/\j M/\n=l.length/\h<=M/\M<A/\n=l.length/\M.toNat<l.length/\n=l.length/\h<=a/\a<A/\n=l.length/\a.toNat<l.length/\(fO p=h/\JI p d6/\JI p H)/\(g0 true->j (M+r)/\c7 (M+r) x.snd)/\(g0 false->c7 x.fst M))/\(f8=false->(((f.same f/\d3.same d3/\(e a).same (e a)/\True)/\C)/\(a<=a/\a<=x.fst - r/\m<=x.fst/\x.fst<=b)/\((∀(k:Nat),m<=(↑k:Int)->(↑k:Int)<x.fst->gB p H<gB p (bC l k h))/\∀(k:Nat),x.fst<=(↑k:Int)->(↑k:Int)<b->gB p H<gB p (bC l k h)->False)/\l=ZV l a.toNat b.toNat (a - a).toNat)/\∀(x:Int×Int×List Int),let b9:=x.snd.fst - r;let e4:=decide (x.fst<b9);let J:=x.fst+r;let E:=x.snd.snd.length;let a9:=J.toNat;let a6:=x.snd.snd.set x.fst.toNat (bC x.snd.snd a9 h);let g5:=e x.snd.fst;let e5:=e J;let f1:=a6.set a9 (bC x.snd.snd x.fst.toNat h);let c8:=s g f1 3 true;let d1:=λ(u:Int) (d:List Int) ↦(a<=u/\u<=b9/\m<=x.snd.fst/\x.snd.fst<=b)/\((∀(k:Nat),m<=(↑k:Int)->(↑k:Int)<x.snd.fst->gB p H<gB p (bC l k h))/\∀(k:Nat),x.snd.fst<=(↑k:Int)->(↑k:Int)<b->gB p H<gB p (bC l k h)->False)/\d=ZV l a.toNat b.toNat (u - a).toNat;d1 x.fst x.snd.snd->j b9/\(e4=true->j J/\j J/\n=E/\h<=J/\J<(↑E:Int)/\n=E/\a9<E/\n=E/\h<=x.fst/\x.fst<(↑E:Int)/\n=E/\x.fst.toNat<E/\n=E/\h<=x.fst/\x.fst<(↑E:Int)/\n=E/\x.fst.toNat<E/\n=a6.length/\h<=J/\J<(↑a6.length:Int)/\n=a6.length/\a9<a6.length/\j J/\((f.same f/\g5.same g5/\e5.same e5/\True)/\c8.same c8/\c.same c/\True)/\d1 J f1/\(x.snd.fst - J).toNat<(x.snd.fst - x.fst).toNat)/\(e4=false->(o []).same (o [])/\(s g x.snd.snd 3 true).same z/\c.same c/\True)))/\(c6=false->j (b - m)/\(d2=true->(N m a m/\(a<=a/\a<=m/\m<=m)/\(∀(k:Nat),a<=(↑k:Int)->(↑k:Int)<a->gB p (bC l k h)<gB p q->False)/\∀(k:Nat),m<=(↑k:Int)->(↑k:Int)<m->gB p (bC l k h)<gB p q)/\∀(x:Int×Int),let c2:=x.fst+x.snd;let L:=c2 / v;let e8:=bC l L.toNat h;let f4:=decide (x.fst<x.snd);let c5:=e x.fst;let e0:=λ(u d:Int) ↦let d8:=e u;((f.same f/\(e m).same (e m)/\K.same K/\d8.same d8/\(e d).same (e d)/\True)/\C)/\((a<=u/\u<=d/\d<=m)/\(∀(k:Nat),a<=(↑k:Int)->(↑k:Int)<u->gB p (bC l k h)<gB p q->False)/\∀(k:Nat),d<=(↑k:Int)->(↑k:Int)<m->gB p (bC l k h)<gB p q)/\(d - u).toNat<(x.snd - x.fst).toNat;let e6:=λ(u:Bool) ↦(!decide (aem p q e8<h))=u;((a<=x.fst/\x.fst<=x.snd/\x.snd<=m)/\(∀(k:Nat),a<=(↑k:Int)->(↑k:Int)<x.fst->gB p (bC l k h)<gB p q->False)/\∀(k:Nat),x.snd<=(↑k:Int)->(↑k:Int)<m->gB p (bC l k h)<gB p q)->(f4=true->j c2/\ie .u64 c2/\h<=r/\r<=t/\j L/\n=l.length/\h<=m/\m<A/\n=l.length/\m.toNat<l.length/\n=l.length/\h<=L/\L<A/\n=l.length/\L.toNat<l.length/\(fO p=h/\JI p q/\JI p e8)/\(e6 true->j (L+r)/\e0 (L+r) x.snd)/\(e6 false->e0 x.fst L))/\(f4=false->(((f.same f/\c5.same c5/\(e m).same (e m)/\True)/\C)/\(x.fst<=m/\m<=m/\a<=x.fst)/\((∀(k:Nat),a<=(↑k:Int)->(↑k:Int)<x.fst->gB p (bC l k h)<gB p q->False)/\∀(k:Nat),x.fst<=(↑k:Int)->(↑k:Int)<m->gB p (bC l k h)<gB p q)/\l=N2 (gB p) l a.toNat m.toNat m.toNat)/\∀(x:Int×Int×List Int),let X:=x.fst.toNat;let d0:=decide (x.snd.fst<x.fst);let F:=x.fst - r;let G:=x.snd.snd.length;let W:=F.toNat;let V:=x.snd.snd.set X (bC x.snd.snd W h);let d9:=e x.snd.fst;let h0:=e F;let f7:=V.set W (bC x.snd.snd X h);let g9:=s g f7 3 true;(x.snd.fst<=x.fst/\x.fst<=m/\a<=x.snd.fst)/\((∀(k:Nat),a<=(↑k:Int)->(↑k:Int)<x.snd.fst->gB p (bC l k h)<gB p q->False)/\∀(k:Nat),x.snd.fst<=(↑k:Int)->(↑k:Int)<m->gB p (bC l k h)<gB p q)/\x.snd.snd=N2 (gB p) l a.toNat m.toNat X->(d0=true->j F/\j F/\n=G/\h<=F/\F<(↑G:Int)/\n=G/\W<G/\n=G/\h<=x.fst/\x.fst<(↑G:Int)/\n=G/\X<G/\n=G/\h<=x.fst/\x.fst<(↑G:Int)/\n=G/\X<G/\n=V.length/\h<=F/\F<(↑V.length:Int)/\n=V.length/\W<V.length/\j F/\((f.same f/\d9.same d9/\h0.same h0/\True)/\g9.same g9/\c.same c/\True)/\((x.snd.fst<=F/\F<=m/\a<=x.snd.fst)/\((∀(k:Nat),a<=(↑k:Int)->(↑k:Int)<x.snd.fst->gB p (bC l k h)<gB p q->False)/\∀(k:Nat),x.snd.fst<=(↑k:Int)->(↑k:Int)<m->gB p (bC l k h)<gB p q)/\f7=N2 (gB p) l a.toNat m.toNat W)/\(F - x.snd.fst).toNat<(x.fst - x.snd.fst).toNat)/\(d0=false->(o []).same (o [])/\(s g x.snd.snd 3 true).same z/\c.same c/\True)))/\(d2=false->j (a+b)/\ie .u64 (a+b)/\h<=r/\r<=t/\j I/\j Q/\(decide (I<m)=true->j (Q - b)/\D (Q - b) I)/\(decide (I<m)=false->D a m)))) (by kernel_rfl) ?_
 simp only[vcs]
 have hV:∀k:Nat,k<l.length->JI p (bC l k 0):=λk hk=>ho _ (pz hk)
 have Y:∀i j:Nat,i<l.length->j<l.length->(aem p (bC l i 0) (bC l j 0)<0↔gB p (bC l j 0)<gB p (bC l i 0)):=λi j hi hj=>awl hc (hV i hi) (hV j hj)
 have b7:∀i j:Nat,a<=i->(i:Int)<m->m<=j->(j:Int)<b->bC l i 0<bC l j 0:=λi j h1 h2 h3 h4=>hx _ (ahZ.2 ⟨i,by omega,by omega,by omega,rfl⟩) _ (ahZ.2 ⟨j,by omega,by omega,by omega,rfl⟩)
 have b6:∀{v:Int},0<=v->v<=100000->ie .u64 v:=λh1 h2=>u64_in h1 (by omega)
 generalize hD:gB p=D at*
 refine⟨by omega,λh1=>?_,λh1=>⟨by omega,λh2=>?_,λh2=>?_⟩⟩
 ·have hm:m=a+1:=by omega
  have N:∀i j:Nat,m<=i->i<=j->(j:Int)<b->D (bC l j 0)<=D (bC l i 0):=λi j A o q3=>ama (amb hR (by omega) o (by omega) (by omega))
  refine⟨⟨⟨by omega,by omega,by omega⟩,λk A o=>by omega,λk A o=>by omega⟩,?_⟩
  rintro⟨i,j⟩ ⟨⟨i0,i1,i2⟩,A,o⟩
  simp only at i0 i1 i2 A o ⊢
  refine⟨λZ=>?_,λZ=>⟨⟨⟨by omega,by omega,by omega,by omega⟩,⟨A,λk C r=>o k (by omega) r⟩,?_⟩,?_⟩⟩
  ·rw[Y _ _ (by omega) (by omega)]
   generalize hh:(i+j) / 2=h
   have d7:i<=h/\h<j:=by omega
   refine⟨by omega,b6 (by omega) (by omega),by omega,by omega,by omega,by omega,by omega,by omega,by omega,by omega,by omega,by omega,by omega,by omega,by omega,⟨hc,hV _ (by omega),hV _ (by omega)⟩,λc3=>⟨by omega,⟨⟨by omega,by omega,by omega⟩,λk C r=>?_,λk C r=>o k C r⟩,by omega⟩,λf6=>⟨⟨⟨by omega,by omega,by omega⟩,λk C r=>A k C r,λk C r=>?_⟩,by omega⟩⟩
   ·have:=N k h.toNat (by omega) (by omega) (by omega)
    omega
   ·have:=N h.toNat k (by omega) (by omega) (by omega)
    omega
  ·rw[show(a - a).toNat=0 by omega,aD9 (by omega) (by omega)]
  ·rintro⟨k,i',w⟩ ⟨⟨k0,k1,k2,k3⟩,⟨A,o⟩,hw⟩
   simp only at k0 k1 k2 k3 A o hw ⊢
   have b8:w.length=l.length:=by rw[hw,aEa (by omega) (by omega)]
   refine⟨by omega,λhk=>?_,λhk=>?_⟩
   ·obtain⟨e1,e2,e3⟩:=@aEb l a.toNat b.toNat (k - a).toNat (by omega) (by omega)
    rw[<-hw] at e1 e2 e3
    rw[show a.toNat+(k - a).toNat=k.toNat by omega] at e1 e2 e3
    rw[show k.toNat+1=(k+1).toNat by omega] at e2 e3
    rw[show(k - a).toNat+1=(k+1 - a).toNat by omega] at e3
    rw[e1,e2,e3];simp only[χ,b8]
    refine⟨by omega,by omega,by omega,by omega,by omega,by omega,by omega,by omega,by omega,by omega,by omega,by omega,by omega,by omega,by omega,by omega,by omega,by omega,by omega,by omega,by omega,by omega,by omega,⟨⟨by omega,by omega,by omega,by omega⟩,⟨A,o⟩,trivial⟩,by omega⟩
   ·have h8:k=i' - 1:=by omega
    refine aen ?_
    rw[hw]
    refine aEc (by omega) (by omega) (by rw[show a.toNat+1=m.toNat by omega];exact hR) ?_ ?_
    ·intro s hs
     rw[awI,ahZ] at hs
     obtain⟨k',C,r,w3,rfl⟩:=hs
     have h9:¬D (bC l a.toNat 0)<D (bC l k' 0):=o k' (by omega) (by omega)
     have:=b7 a.toNat k' (by omega) (by omega) (by omega) (by omega)
     exact abB.2 (by omega)
    ·by_cases i4:k=a
     ·omega
     ·refine .inr (abB.2 (.inl ?_))
      rw[show a.toNat+(k - a).toNat=k.toNat by omega]
      exact A k.toNat (by omega) (by omega)
 ·have hb:b=m+1:=by omega
  have N:∀i j:Nat,a<=i->i<=j->(j:Int)<m->D (bC l j 0)<=D (bC l i 0):=λi j A o q3=>ama (amb hL (by omega) o (by omega) (by omega))
  refine⟨⟨⟨by omega,by omega,by omega⟩,λk A o=>by omega,λk A o=>by omega⟩,?_⟩
  rintro⟨i,j⟩ ⟨⟨i0,i1,i2⟩,A,o⟩
  simp only at i0 i1 i2 A o ⊢
  refine⟨λZ=>?_,λZ=>⟨⟨⟨by omega,by omega,by omega⟩,⟨A,λk C r=>o k (by omega) r⟩,?_⟩,?_⟩⟩
  ·rw[Y _ _ (by omega) (by omega)]
   generalize hh:(i+j) / 2=h
   have d7:i<=h/\h<j:=by omega
   refine⟨by omega,b6 (by omega) (by omega),by omega,by omega,by omega,by omega,by omega,by omega,by omega,by omega,by omega,by omega,by omega,by omega,by omega,⟨hc,hV _ (by omega),hV _ (by omega)⟩,λf6=>⟨by omega,⟨⟨by omega,by omega,by omega⟩,λk C r=>?_,λk C r=>o k C r⟩,by omega⟩,λc3=>⟨⟨⟨by omega,by omega,by omega⟩,λk C r=>A k C r,λk C r=>?_⟩,by omega⟩⟩
   ·have:=N k h.toNat (by omega) (by omega) (by omega)
    omega
   ·have:=N h.toNat k (by omega) (by omega) (by omega)
    omega
  ·rw[av9 (by omega) (by omega),ap6 (by omega) hL]
  ·rintro⟨k,i',w⟩ ⟨⟨k0,k1,k2⟩,⟨A,o⟩,hw⟩
   simp only at k0 k1 k2 A o hw ⊢
   have b8:w.length=l.length:=by rw[hw,av8 (by omega) (by omega)]
   have c4:nA D (seg l a.toNat m.toNat)=seg l a.toNat m.toNat:=apR hL
   have i8:=S1 (l:=l) (a:=a.toNat) (b:=m.toNat) (by omega) (by omega)
   refine⟨λhk=>?_,λhk=>?_⟩
   ·obtain⟨e1,e2,e3⟩:=@awe D l a.toNat m.toNat k.toNat (by omega) (by omega) (by omega)
    rw[<-hw] at e1 e2 e3
    rw[show k.toNat - 1=(k - 1).toNat by omega] at e2 e3
    rw[e1,e2,e3];simp only[χ,b8]
    refine⟨by omega,by omega,by omega,by omega,by omega,by omega,by omega,by omega,by omega,by omega,by omega,by omega,by omega,by omega,by omega,by omega,by omega,by omega,by omega,by omega,by omega,by omega,by omega,⟨⟨by omega,by omega,by omega⟩,⟨A,o⟩,trivial⟩,by omega⟩
   ·have h8:k=i':=by omega
    refine aen ?_
    rw[hw,show b.toNat=m.toNat+1 by omega]
    refine awg (by omega) (by omega) (by omega) ?_ ?_
    ·intro s hs
     rw[c4,awI,ahZ] at hs
     obtain⟨k',C,r,w3,rfl⟩:=hs
     have h9:D (bC l k' 0)<D (bC l m.toNat 0):=o k' (by omega) (by omega)
     exact abB.2 (by omega)
    ·by_cases i4:k=a
     ·omega
     ·refine .inr ?_
      rw[c4,my (show k.toNat - 1 - a.toNat<(seg l a.toNat m.toNat).length by omega),ap7]
      have h9:¬D (bC l (a.toNat+(k.toNat - 1 - a.toNat)) 0)<D (bC l m.toNat 0):=A (a.toNat+(k.toNat - 1 - a.toNat)) (by omega) (by omega)
      have:=b7 (a.toNat+(k.toNat - 1 - a.toNat)) m.toNat (by omega) (by omega) (by omega) (by omega)
      exact abB.2 (by omega)
 ·generalize i6:(a+b) / 2=e
  have md:2*e<=a+b/\a+b<=2*e+1:=by omega
  clear i6
  have i5:∃lo hi,lo=(if e<m then e+m - b else a)/\hi=(if e<m then e else m):=⟨_,_,rfl,rfl⟩
  obtain⟨lo,hi,g3,g6⟩:=i5
  rw[<-g3,<-g6]
  have i9:(e<m/\lo=e+m - b/\hi=e)\/(m<=e/\lo=a/\hi=m):=by
   omega
  clear g3 g6
  have b0:∀i j:Nat,a<=i->i<=j->(j:Int)<m->D (bC l j 0)<=D (bC l i 0):=λi j A o q3=>ama (amb hL (by omega) o (by omega) (by omega))
  have a8:∀i j:Nat,m<=i->i<=j->(j:Int)<b->D (bC l j 0)<=D (bC l i 0):=λi j A o q3=>ama (amb hR (by omega) o (by omega) (by omega))
  have d4:∀s:Int,lo<=s->s<=hi->(∀k:Nat,lo<=k->(k:Int)<s->D (bC l k 0)<D (bC l (e+m - 1 - k).toNat 0)->False)->(∀k:Nat,s<=k->(k:Int)<hi->D (bC l k 0)<D (bC l (e+m - 1 - k).toNat 0))->
    awK D n k l p a m b e s:=by
   intro s s1 s2 A o
   refine aEq hD hc hn hl ho a0 (by omega) (by omega) (by omega) (by omega) (by omega) (by omega) (by omega) a3 hL hR hx ?_ ?_ hk
   ·rintro x y hX hY
    rw[ahZ] at hX hY
    obtain⟨i,i1,i2,i3,rfl⟩:=hX
    obtain⟨j,j1,j2,j3,rfl⟩:=hY
    have h3:=A (s - 1).toNat (by omega) (by omega)
    rw[show(e+m - 1 - ((s - 1).toNat:Int)).toNat=(e+m - s).toNat by omega] at h3
    have h4:=b0 i (s - 1).toNat (by omega) (by omega) (by omega)
    have h5:=a8 (e+m - s).toNat j (by omega) (by omega) (by omega)
    have h6:=b7 i j (by omega) (by omega) (by omega) (by omega)
    grind[abB]
   ·rintro x y hX hY
    rw[ahZ] at hX hY
    obtain⟨j,j1,j2,j3,rfl⟩:=hX
    obtain⟨i,i1,i2,i3,rfl⟩:=hY
    have h3:=o s.toNat (by omega) (by omega)
    have h4:=b0 s.toNat i (by omega) (by omega) (by omega)
    have h5:=a8 j (e+m - 1 - (s.toNat:Int)).toNat (by omega) (by omega) (by omega)
    exact abB.2 (by omega)
  refine⟨by omega,b6 (by omega) (by omega),by omega,by omega,by omega,by omega,λhm=>⟨by omega,by omega,⟨⟨by omega,by omega,by omega⟩,λk C r=>by omega,λk C r=>by omega⟩,?_⟩,λhm=>⟨by omega,⟨⟨by omega,by omega,by omega⟩,λk C r=>by omega,λk C r=>by omega⟩,?_⟩⟩
  all_goals
   rintro⟨i,j⟩ ⟨⟨i0,i1,i2⟩,A,o⟩
   simp only at i0 i1 i2 A o ⊢
   refine⟨λZ=>?_,λZ=>?_⟩
   ·generalize hh:(i+j) / 2=h
    have d7:i<=h/\h<j:=by omega
    rw[Y _ _ (by omega) (by omega)]
    refine⟨by omega,b6 (by omega) (by omega),by omega,by omega,by omega,by omega,by omega,by omega,by omega,by omega,by omega,by omega,by omega,by omega,by omega,by omega,⟨hc,hV _ (by omega),hV _ (by omega)⟩,λf6=>⟨by omega,⟨⟨by omega,by omega,by omega⟩,λk C r=>?_,λk C r=>o k C r⟩,by omega⟩,λc3=>⟨⟨⟨by omega,by omega,by omega⟩,λk C r=>A k C r,λk C r=>?_⟩,by omega⟩⟩
    ·have h3:=b0 k h.toNat (by omega) (by omega) (by omega)
     have h4:=a8 (e+m - 1 - h).toNat (e+m - 1 - (k:Int)).toNat (by omega) (by omega) (by omega)
     omega
    ·have h3:=b0 h.toNat k (by omega) (by omega) (by omega)
     have h4:=a8 (e+m - 1 - (k:Int)).toNat (e+m - 1 - h).toNat (by omega) (by omega) (by omega)
     omega
   ·have i7:i=j:=by omega
    have h3:=d4 i i0 (by omega) A (λk C r=>o k (by omega) r)
    exact h3
theorem aqg:∀n,sd Tryz.prog (ac5 n)
 |0=>by
  rintro⟨⟨c,l,p⟩,a,m,b⟩ ⟨_,h⟩
  omega
 |n+1=>by
  rintro⟨⟨c,l,p⟩,a,m,b⟩ ⟨j,r⟩
  by_cases o:(b - a).toNat<n
  ·exact aqg n ⟨⟨c,l,p⟩,a,m,b⟩ ⟨j,o⟩
  ·refine alr (ac5 (n+1)) (W:=ajK n) (Λ:=λx=>awJ x.1.1 x.1.2.1 x.1.2.2 x.2.1 x.2.2.1 x.2.2.2) acY (by simp only[ajK,List.forall_mem_cons,List.not_mem_nil,false_implies,implies_true,and_true];exact⟨aqg n,h351,h320⟩) (by simp)
    (show Da 180=some (fG 180) by kernel_rfl) (λ_=>rfl) ⟨⟨c,l,p⟩,a,m,b⟩ ?_ (aEr n c l p a m b j r).out
   intro d q k i e g
   have f:d=ac5 n:=by
    have:Xm 180 (ajK n)=some (ac5 n):=rfl
    have s:Xm 180 (ajK n)=some d:=q
    simp_all
   subst f
   have t:(⟨⟨c,l,p⟩,a,m,b⟩:Srg×Int×Int×Int)=k:=(ac5 n).inj ⟨⟨c,l,p⟩,a,m,b⟩ k i e
   subst t
   exact o g.2
def to1 (b:Int):List Int:=[b]
def of1:List Int->Option Int
 |[a]=>some a
 |_=>none
theorem aEs:∀l b,of1 l=some b->l=to1 b:=λl b h=>by
 unfold of1 at h;split at h
 ·simp only[γ] at h;subst h;rfl
 ·cases h
theorem aEt:∀b c,to1 b=to1 c->b=c:=λb c h=>by
 simp_all[to1]
def to0 (_:Unit):List Int:=[]
def of0:List Int->Option Unit
 |[]=>some ()
 |_=>none
theorem aEu:∀l b,of0 l=some b->l=to0 b:=λl b h=>by
 unfold of0 at h;split at h
 ·rfl
 ·cases h
theorem aEv:∀b c,to0 b=to0 c->b=c:=λ_ _ _=>rfl
theorem awL {D:Int->Int} {l:List Int} {n:Nat} (h:n=l.length):od D l 0 n=nA D l:=by
 grind[od,seg]
def m20 (D:Int->Int) (l:List Int):List Int:=nA D (l.take 20)++(nA D (l.drop 20)++[])
theorem aEw {D:Int->Int} {l:List Int} (h:20<=l.length):od D l 0 20=nA D (l.take 20)++(l.drop 20++[]):=by
 grind[od,seg]
theorem aEx {D:Int->Int} {l:List Int} {n:Nat} (b:n=l.length) (h:20<=l.length):od D (od D l 0 20) 20 n=m20 D l:=by
 have a:(nA D (l.take 20)).length=20:=by grind[abC]
 rw[aEw h]
 exact ap4 a.symm (by simp_all)
theorem amh {D:Int->Int} {l:List Int}:(m20 D l).length=l.length:=by
 grind[m20,abC]
theorem awM {D:Int->Int} {l:List Int}:(m20 D l).Perm l:=by
 unfold m20;rw[List.append_nil]
 refine(adM.append adM).trans ?_
 simp_all
theorem aEy {D:Int->Int} {l:List Int} {n:Nat} (b:n=l.length) (h:20<=l.length):seg (m20 D l) 0 20=nA D (l.take 20)/\seg (m20 D l) 20 n=nA D (l.drop 20):=by
 have a:(nA D (l.take 20)).length=20:=by grind[abC]
 refine⟨?_,?_⟩
 ·have:=@aeo [] (nA D (l.take 20)) (nA D (l.drop 20)++[]) 0 20 rfl (by rw[a];rfl)
  exact this
 ·exact aeo a.symm (by grind[abC])
theorem aEz {D:Int->Int} {l:List Int} {n:Nat} (a:n=l.length):od D (m20 D l) 0 n=nA D l:=by
 rw[awL (by grind[amh])]
 exact ajB (adM.trans awM) agq
theorem awN {D:Int->Int} {l:List Int} {b c d:Nat} (h:b<=c) (e:b<=l.length):seg (od D l 0 b) c d=seg l c d:=by
 have a:(nA D (seg l 0 b)).length=b:=by grind[abC,S1]
 unfold od
 have:(l.take 0++nA D (seg l 0 b)++l.drop b).drop c=l.drop c:=by
  rw[List.take_zero,δw,List.drop_append,List.drop_eq_nil_of_le (by omega),δw,γW,a,show b+(c - b)=c by omega]
 grind[seg]
theorem aEA {l:List Int} {p:dd} {n:Nat} (b:fO p=0) (i:n=l.length) (h:20<l.length) (g:l.length<=1000) (e:∀x∈l,JI p x) (j:l.Pairwise (·<·)):acE ((n,m20 (gB p) l,p),0,20,(l.length:Int)):=by
 obtain⟨f,d⟩:=@aEy (gB p) l l.length rfl (by omega)
 refine⟨⟨⟨b,by grind[amh]⟩,by grind[amh],λx a=>e x (awM.mem_iff.1 a)⟩,⟨by simp_all,by simp_all,by grind,by grind[amh]⟩,?_,?_,?_⟩
 ·simp_all[agq]
 ·simp_all[agq]
 ·show ∀x∈seg _ 0 20,∀y∈seg _ 20 _,x<y
  rw[show((l.length:Int)).toNat=l.length by omega,f,d]
  intro x a y c;rw[ahU] at a c
  have:=γc 20 l
  grind
def aqj:og:=ahY 157 1 Int to1 of1 (λ_=>rfl) aEs aEt (λa=>(afh a.1/\a.1.2.1.Pairwise (·<·))/\a.2=a.1.2.1.length/\a.1.2.1.length<=40) λa=>nA (gB a.1.2.2) a.1.2.1
def aEB (n:Nat) (l:List Int) (p:dd):Nat->jY
 |2=> .inv (Int×Int×List Int) (λx=>⟨[(0,.ow 0 n 1),(1,.si .i64 l.length),(2,.fn (.func 121) [] [.ptr 1 0 20]),(6,.si .i64 20),(7,.si .i64 x.1),(8,.si .i64 x.2.1)],[.row (.i .i64) x.2.2 3 true,.cells p.ss 27 20 false]⟩) (λs=>(iS s 7,iS s 8,oS (.i .i64) s 0))
   (λx=>x.2.1=x.1+20/\(x.1=0/\x.2.2=l\/x.1=20/\20<=l.length/\x.2.2=od (gB p) l 0 20\/x.1=40/\l.length=40/\x.2.2=od (gB p) (od (gB p) l 0 20) 20 40)) (λx=>(1000 - x.1).toNat) λ_ _=> .look
 |7=> .inv (Int×List Int) (λx=>⟨[(0,.ow 0 n 1),(1,.si .i64 l.length),(2,.fn (.func 121) [] [.ptr 1 0 20]),(6,.si .i64 x.1)],[.row (.i .i64) x.2 3 true,.cells p.ss 27 20 false]⟩) (λs=>(iS s 6,oS (.i .i64) s 0))
   (λx=>x.1=20/\(l.length<=20/\x.2=nA (gB p) l\/20<l.length/\x.2=m20 (gB p) l)\/x.1=40/\x.2=nA (gB p) l) (λx=>(1000 - x.1).toNat) λx k=>match k with
    |9=> .inv (Int×Int×List Int) (λy=>⟨[(0,.ow 0 n 1),(1,.si .i64 l.length),(2,.fn (.func 121) [] [.ptr 1 0 20]),(6,.si .i64 x.1),(7,.si .i64 y.1),(8,.si .i64 y.2.1)],[.row (.i .i64) y.2.2 3 true,.cells p.ss 27 20 false]⟩) (λs=>(iS s 7,iS s 8,oS (.i .i64) s 0))
      (λy=>y.1=0/\y.2.1=40/\y.2.2=m20 (gB p) l\/y.1=40/\y.2.1=80/\l.length=40/\y.2.2=nA (gB p) l) (λy=>(1000 - y.1).toNat) λ_ _=> .look
    |_=> .look
 |_=> .look
theorem h333:sd Tryz.prog aqj:=by
 refine Sj (L:=[]) (W:=[ap3,ac5 1001]) aqj (λa=>aEB a.1.1 a.1.2.1 a.1.2.2) (by simp_all[h343,aqg]) (by simp) ?_
 rintro⟨⟨n,l,p⟩,N⟩ ⟨⟨⟨⟨H,hn⟩,hl,F⟩,hi⟩,hN,a9⟩
 simp only at H hn hl F hi hN a9
 subst hN
 refine gp (let a:=γa .i64;let b:=(20:Int);let h:=(40:Int);let j:=(0:Int);let s:=(1000:Int);let w:=cJ.row;let F:=ie .i64;let H:=γu .i64;let L:=γu .i64 0;let M:=(80:Int);let m:=γQ 0 n 1;let q:=(↑l.length:Int);let o:=a q;let k:=SV.fn (Fn.func 121) [] [γ5 1 0 20];let I:=a 20;let D:=cn.i .i64;let W:=w D l 3 true;let e:=cJ.cells [a p.supply.a0,a p.supply.a1,a p.supply.a2,a p.supply.a3,a p.supply.a4,a p.supply.a5,a p.opn.a0,a p.opn.a1,a p.opn.a2,a p.opn.a3,a p.opn.a4,a p.opn.a5,a p.cls.a0,a p.cls.a1,a p.cls.a2,a p.cls.a3,a p.cls.a4,a p.cls.a5,Ξ D p.classes,Ξ cn.off p.offers] 27 20 false;let N:=od (gB p) l 0 20;let U:=od (gB p) N 20 40;let d:=nA (gB p) l;let f:=m20 (gB p) l;(((m.same m/\o.same o/\k.same k/\(H 20).same I/\(H 0).same (a 0)/\(H 20).same I/\True)/\W.same W/\e.same e/\True)/\b=b/\(j=j/\l=l\/j=b/\20<=l.length/\l=N\/j=h/\l.length=40/\l=U))/\∀(x:Int×Int×List Int),let Q:=decide (x.snd.fst<=q);let v:=x.fst.toNat;let y:=x.snd.fst+b;let a8:=a x.snd.fst;let S:=a y;let C:=od (gB p) x.snd.snd v x.snd.fst.toNat;let a6:=w D C 3 true;let A:=od (gB p) x.snd.snd v q.toNat;let Y:=w D A 3 true;x.snd.fst=x.fst+b/\(x.fst=j/\x.snd.snd=l\/x.fst=b/\20<=l.length/\x.snd.snd=N\/x.fst=h/\l.length=40/\x.snd.snd=U)->(Q=true->(afh (n,x.snd.snd,p)/\ap1 x.snd.snd x.fst x.snd.fst/\ζu (λ(x1 x2:Int) ↦x1<x2) (seg x.snd.snd v x.snd.fst.toNat))/\F y/\((m.same m/\o.same o/\k.same k/\I.same I/\a8.same a8/\S.same S/\True)/\a6.same a6/\e.same e/\True)/\(y=y/\(x.snd.fst=j/\C=l\/x.snd.fst=b/\20<=l.length/\C=N\/x.snd.fst=h/\l.length=40/\C=U))/\(s - x.snd.fst).toNat<(s - x.fst).toNat)/\(Q=false->(afh (n,x.snd.snd,p)/\ap1 x.snd.snd x.fst q/\ζu (λ(x1 x2:Int) ↦x1<x2) (seg x.snd.snd v q.toNat))/\(((m.same m/\o.same o/\k.same k/\I.same I/\True)/\Y.same Y/\e.same e/\True)/\(b=b/\(l.length<=20/\A=d\/20<l.length/\A=f)\/b=h/\A=d))/\∀(x:Int×List Int),let g:=(2:Int)*x.fst;let B:=a x.fst;let K:=a g;let E:=w D x.snd 3 true;let t:=x.fst*(2:Int);let J:=a t;x.fst=b/\(l.length<=20/\x.snd=d\/20<l.length/\x.snd=f)\/x.fst=h/\x.snd=d->(decide (x.fst<q)=true->F g/\(((m.same m/\o.same o/\k.same k/\B.same B/\(H 0).same (a 0)/\K.same K/\True)/\E.same E/\e.same e/\True)/\(j=j/\g=h/\x.snd=f\/j=h/\g=M/\l.length=40/\x.snd=d))/\∀(c:Int×Int×List Int),let r:=c.fst+x.fst;let T:=decide (c.snd.fst<=q);let z:=c.snd.fst+g;let P:=a c.snd.fst;let X:=a z;let G:=od (gB p) c.snd.snd c.fst.toNat c.snd.fst.toNat;let O:=w D G 3 true;let a7:=λ(u:List Int) ↦let R:=w D u 3 true;F t/\((m.same m/\o.same o/\k.same k/\J.same J/\True)/\R.same R/\e.same e/\True)/\(t=b/\(l.length<=20/\u=d\/20<l.length/\u=f)\/t=h/\u=d)/\(s - t).toNat<(s - x.fst).toNat;let V:=λ(u:Int) ↦acE ((n,c.snd.snd,p),c.fst,r,u)/\(u - c.fst).toNat<1001;c.fst=j/\c.snd.fst=h/\c.snd.snd=f\/c.fst=h/\c.snd.fst=M/\l.length=40/\c.snd.snd=d->(T=true->F r/\V c.snd.fst/\F g/\F z/\((m.same m/\o.same o/\k.same k/\B.same B/\P.same P/\X.same X/\True)/\O.same O/\e.same e/\True)/\(c.snd.fst=j/\z=h/\G=f\/c.snd.fst=h/\z=M/\l.length=40/\G=d)/\(s - c.snd.fst).toNat<(s - c.fst).toNat)/\(T=false->F r/\(decide (r<q)=true->V q/\a7 (od (gB p) c.snd.snd c.fst.toNat q.toNat))/\(decide (r<q)=false->a7 c.snd.snd)))/\(decide (x.fst<q)=false->(SV.eW []).same (SV.eW [])/\E.same (w D d 3 true)/\e.same e/\True))) (by kernel_rfl) ?_
 simp only[vcs]
 have pw:∀a b,(seg l a b).Pairwise (·<·):=λa b=>δY ((List.take_sublist _ _).trans (List.drop_sublist _ _)) hi
 have e0:((l.length:Int)).toNat=l.length:=by omega
 rw[e0]
 refine⟨.inl trivial,?_⟩
 rintro⟨a,b,w⟩ ⟨hb,j⟩
 simp only at hb j ⊢
 subst hb
 refine⟨λh=>?_,λh=>?_⟩
 ·rcases j with⟨rfl,rfl⟩|⟨rfl,Z,rfl⟩|⟨rfl,Z,rfl⟩
  ·refine⟨⟨⟨⟨H,hn⟩,hl,F⟩,⟨?_,?_,?_⟩,pw _ _⟩,?_,.inr (.inl ⟨?_,?_,rfl⟩),?_⟩<;>omega
  ·have j:=@ahV (gB p) l 0 20 (by omega) (by omega)
   exact⟨⟨⟨⟨H,by simp_all⟩,by simp_all,λx M=>F x (ajH M)⟩,⟨by omega,by omega,by rw[j];omega⟩,by grind[awN]⟩,by omega,.inr (.inr ⟨by omega,by omega,rfl⟩),by omega⟩
  ·omega
 ·refine⟨?_,?_,?_⟩
  ·rcases j with⟨rfl,rfl⟩|⟨rfl,Z,rfl⟩|⟨rfl,Z,rfl⟩
   ·refine⟨⟨⟨H,hn⟩,hl,F⟩,⟨?_,?_,?_⟩,pw _ _⟩<;>omega
   ·have j:=@ahV (gB p) l 0 20 (by omega) (by omega)
    exact⟨⟨⟨H,by simp_all⟩,by simp_all,λx M=>F x (ajH M)⟩,⟨by omega,by omega,by rw[j];omega⟩,by grind[awN]⟩
   ·have j:=@ahV (gB p) l 0 20 (by omega) (by omega)
    have U:=@ahV (gB p) (od (gB p) l 0 20) 20 40 (by omega) (by omega)
    rw[j] at U
    refine⟨⟨⟨H,by simp_all⟩,by simp_all,λx M=>F x (ajH (ajH M))⟩,⟨by omega,by omega,by rw[U];omega⟩,?_⟩
    simp_all[ajC]
  ·left
   rcases j with⟨rfl,rfl⟩|⟨rfl,Z,rfl⟩|⟨rfl,Z,rfl⟩<;>grind[awL,aEx,od,av7]
  ·rintro⟨s,w⟩ j
   simp only at j ⊢
   refine⟨λh=>?_,λh=>aen ?_⟩
   ·have hs:s=20/\20<l.length/\w=m20 (gB p) l:=by
     grind
    obtain⟨rfl,b0,rfl⟩:=hs
    refine⟨by omega,.inl ⟨by omega,rfl⟩,?_⟩
    rintro⟨a,b,w⟩ hy
    simp only at hy ⊢
    have hd:=@aEA l p n H hn b0 hl F hi
    rcases hy with⟨rfl,rfl,rfl⟩|⟨rfl,rfl,h4,rfl⟩<;>grind[aEz]
   grind
def aqk:og:=ahY 120 0 Unit to0 of0 (λ_=>rfl) aEu aEv (λa=>(afh a.1/\a.1.2.1.Pairwise (·<·))/\a.1.2.1.length<=40) λa=>nA (gB a.1.2.2) a.1.2.1
theorem h319:sd Tryz.prog aqk:=by
 refine Sj (L:=[]) (W:=[aqj]) aqk lk (by grind[h333]) (by simp) ?_
 rintro⟨⟨n,l,p⟩,u⟩ ⟨⟨⟨⟨g,h⟩,d,c⟩,e⟩,a⟩
 simp only at g h d c e a
 refine gp (let f:=cJ.row (cn.i .i64) (nA (gB p) l) 3 true;let b:=cJ.cells (dd.ss p) 27 20 false;((afh (n,l,p)/\ζu (λj k ↦j<k) l)/\(↑n:Int)=(↑l.length:Int)/\l.length<=40)/\(SV.eW []).same (SV.eW [])/\f.same f/\b.same b/\True) (by kernel_rfl) ?_
 simp only[vcs]
 exact⟨⟨⟨⟨g,h⟩,d,c⟩,e⟩,by omega,a⟩
def rb (n:Nat):List Int:=(Φ n).map λi:Nat=>(i:Int)
theorem Qk {n:Nat}:(rb n).length=n:=by simp[rb]
theorem agu {n:Nat}:rb (n+1)=rb n++[(n:Int)]:=by simp[rb,List.range_succ]
theorem ajN {n:Nat}:(rb n).Pairwise (·<·):=by
 unfold rb;rw[List.pairwise_map]
 exact List.pairwise_lt_range.imp λh=>by omega
theorem adO {n:Nat} {x:Int}:x∈rb n↔0<=x/\x<n:=by
 unfold rb;rw[γk]
 constructor
 ·grind
 ·rintro⟨b,a⟩
  exact⟨x.toNat,δh.2 (by omega),by omega⟩
def aaC (n i:Nat):List Int:=rb i++δ (n - i) 0
theorem awO {n i:Nat} (h:i<=n):(aaC n i).length=n:=by grind[aaC,Qk]
theorem aEC {n:Nat}:aaC n 0=δ n 0:=by simp[aaC,rb]
theorem aED {n:Nat}:aaC n n=rb n:=by simp[aaC]
theorem aEE {n i:Nat} (h:i<n):(aaC n i).set i (i:Int)=aaC n (i+1):=by
 unfold aaC
 rw[List.set_append_right _ _ (by grind[Qk]),Qk,Nat.sub_self,show n - i=(n - (i+1))+1 by omega,List.replicate_succ,List.set_cons_zero,agu,γl]
 rfl
def agv (p:dd):List Int:=nA (gB p) (rb p.offers.length)
def aql:fN:=⟨80,dd,.one qa,λp=>p.offers.length<=40,λp=> .row (.i .i64) (if fO p=0 then agv p else[])⟩
def aEF (p:dd):Nat->jY
 |5=> .inv Int (λi=>⟨[(1,.ptr 0 0 20),(3,.ow 1 (aaC p.offers.length i.toNat).length 1),(13,.si .i64 p.offers.length),(14,.si .i64 i)],[.cells p.ss 27 20 false,.row (.i .i64) (aaC p.offers.length i.toNat) 3 true]⟩)
   (λs=>iS s 14) (λi=>0<=i/\i<=p.offers.length) (λi=>(p.offers.length - i).toNat) λ_ _=> .look
 |_=> .look
theorem h308:Holds Tryz.prog aql:=by
 refine con (L:=[r79]) (W:=CN [aqk]) aql aEF (XX (by grind[h319])) (by grind[h79]) ?_
 intro(p:dd) (C:p.offers.length<=40)
 refine gp (let h:=γa .i64;let k:=(0:Int);let o:=cJ.row;let s:=Ξ;let t:=γQ;let q:=decide (fO p≠k);let d:=cn.i .i64;let r:=s d (if fO p=k then agv p else[]);let f:=(↑p.offers.length:Int);let m:=γ5 0 0 20;let g:=p.offers.length;let e:=(↑g:Int);let n:=h e;let l:=cJ.cells [h p.supply.a0,h p.supply.a1,h p.supply.a2,h p.supply.a3,h p.supply.a4,h p.supply.a5,h p.opn.a0,h p.opn.a1,h p.opn.a2,h p.opn.a3,h p.opn.a4,h p.opn.a5,h p.cls.a0,h p.cls.a1,h p.cls.a2,h p.cls.a3,h p.cls.a4,h p.cls.a5,s d p.classes,s cn.off p.offers] 27 20 false;True/\(q=true->(s d []).same r)/\(q=false->k<=f/\f<=f/\f*(8:Int)<=(140737488355328:Int)/\f<=(1000000000000:Int)/\(((m.same m/\(t 1 f.toNat 1).same (t 1 (aaC g 0).length 1)/\(h (↑f.toNat:Int)).same n/\(γu .i64 0).same (h 0)/\True)/\l.same l/\(o d (δ f.toNat k) 3 true).same (o d (aaC g 0) 3 true)/\True)/\k<=k/\k<=e)/\∀(x:Int),let c:=aaC g x.toNat;let b:=c.length;let a:=x+(1:Int);let j:=h a;k<=x/\x<=e->(decide (x<e)=true->b=c.length/\k<=x/\x<(↑c.length:Int)/\b=c.length/\x.toNat<c.length/\ie .i64 a/\((m.same m/\(t 1 b 1).same (t 1 (aaC g a.toNat).length 1)/\n.same n/\j.same j/\True)/\l.same l/\(o d (c.set x.toNat x) 3 true).same (o d (aaC g a.toNat) 3 true)/\True)/\(k<=a/\a<=e)/\(e - a).toNat<(e - x).toNat)/\(decide (x<e)=false->((afh (b,c,p)/\ζu (λB v ↦B<v) c)/\b<=40)/\b=(nA (gB p) c).length/\(s d (nA (gB p) c)).same r))) (by kernel_rfl) ?_
 simp only[vcs]
 refine⟨λh=>by rw[if_neg h],λh=>?_⟩
 have s:fO p=0:=Ψ.1 h
 rw[if_pos s]
 have A:((p.offers.length:Int)).toNat=p.offers.length:=by omega
 have k:∀{x y:Nat},x=y->(γQ 1 x 1).same (γQ 1 y 1):=by rintro _ _ rfl;rfl
 rw[A,aEC]
 refine⟨by omega,by omega,by omega,by omega,⟨⟨⟨k (by simp),rfl⟩,rfl⟩,by omega,by omega⟩,?_⟩
 rintro i ⟨u,D⟩
 have E:=@awO p.offers.length i.toNat (by omega)
 refine⟨λz=>?_,λz=>?_⟩
 ·have o:=@aEE p.offers.length i.toNat (by omega)
  rw[show((i.toNat:Nat):Int)=i by omega] at o
  have t:=@awO p.offers.length (i.toNat+1) (by omega)
  rw[show(i+1).toNat=i.toNat+1 by omega,o]
  exact⟨u,by omega,by omega,by omega,⟨k (by omega),rfl⟩,by omega,by omega⟩
 ·rw[show i.toNat=p.offers.length by omega,aED]
  refine⟨⟨⟨⟨⟨s,rfl⟩,by grind[Qk],λx w=>by have:=adO.1 w;exact this⟩,ajN⟩,by grind[Qk]⟩,by rw[abC],rfl⟩
def ami:fN:=⟨81,List Int×List Int,.cons (mA (.i .i64)) (.one (mA (.i .i64))),λa=>a.1.length<=1000/\1<=a.2.length/\a.2.length<=1000,λa=> .row (.i .i64) (ym (a.1++a.2))⟩
theorem h326:Holds Tryz.prog ami:=by
 refine con (L:=[]) (W:=CN [agk,ajo]) ami lk (XX (by simpa using⟨h330o,h337⟩)) (by simp) ?_
 rintro⟨s,x⟩ ⟨h1,h2,h3⟩
 simp only at h1 h2 h3
 refine gp (let z0:Nat:=(s++x).length;s.length<=1000000/\s.length=s.length/\(s.length+x.length)*8<=140737488355328/\s.length+x.length<=1000000000000/\((s++x).length=z0/\1<=z0/\z0<=1000000)/\(s++x).length=(ym (s++x)).length/\(Ξ (cn.i .i64) (ym (s++x))).same (Ξ (cn.i .i64) (ym (s++x)))) (by kernel_rfl) ?_
 conv=>zeta
 try simp only[vcs]
 have:=@agj (s++x)
 rw[θ] at this ⊢;omega
def aqm:fN:=⟨118,List Int×Int,.cons (mA (.i .i64)) (.one (sx .i64)),λa=>a.1.length<=1000/\0<=a.2/\a.2<a.1.length,λa=> .row (.i .i64) (a.1.take a.2.toNat++a.1.drop (a.2+1).toNat)⟩
theorem h339:Holds Tryz.prog aqm:=by
 refine con (L:=[]) (W:=CN [agk,agl]) aqm lk (XX (by grind[h330o,h347])) (by simp) ?_
 rintro⟨s,i⟩ ⟨d,e,f⟩
 simp only at d e f
 refine gp (let a:=i+(1:Int);let c:=Yf s i.toNat a.toNat;let b:=s.length - (a - i).toNat;s.length<=1000000/\ie .i64 a/\((s.length=s.length/\1<=s.length/\s.length<=1000000)/\(0:Int)<=i/\i<=a/\a<=(↑s.length:Int))/\s.length=c.length/\0+b<=s.length/\(Ξ (cn.i .i64) (ω b c)).same (Ξ (cn.i .i64) (ω i.toNat s++List.drop a.toNat s))) (by kernel_rfl) ?_
 conv=>zeta
 try simp only[vcs]
 have g:=@avN s i.toNat (i+1).toNat (by omega) (by omega)
 refine⟨by omega,by omega,by omega,g.symm,by omega,?_⟩
 unfold Yf
 rw[List.take_append_of_le_length (by grind),Ω (by grind)]
def aep (c:List Int) (x:Int):Int:=if x∈c then(c.idxOf x:Int) else -1
theorem aEG {c:List Int} {x:Int} {k:Nat} (h:k<c.length) (b:∀j:Nat,j<k->bC c j 0≠x) (a:bC c k 0=x):aep c x=k:=by
 unfold aep;rw[if_pos (a▸pz h)]
 congr 1
 rw[my h] at a;rw[List.idxOf,List.findIdx_eq h]
 grind[my]
theorem aEH {c:List Int} {x:Int} (a:∀j:Nat,j<c.length->bC c j 0≠x):aep c x= -1:=by
 unfold aep;rw[if_neg];intro h
 obtain⟨k,b,rfl⟩:=List.getElem_of_mem h
 grind[my]
theorem aEI {c:List Int} {x:Int}:0<=aep c x↔x∈c:=by
 grind[aep]
def aqn:fN:=⟨156,List Int×Int,.cons (mA (.i .i64)) (.one (sx .i64)),λa=>a.1.length<=1000,λa=> .si .i64 (aep a.1 a.2)⟩
def aEJ (c:List Int) (x:Int):Nat->jY
 |2=> .inv Int (λi=>⟨[(0,.row (.i .i64) c),(1,.si .i64 x),(7,.si .i64 c.length),(8,.si .i64 i)],[]⟩)
   (λs=>iS s 8) (λi=>(0<=i/\i<=c.length)/\∀k:Nat,(k:Int)<i->bC c k 0≠x) (λi=>(c.length - i).toNat) λ_ _=> .look
 |_=> .look
theorem h348:Holds Tryz.prog aqn:=by
 refine kh (L:=[]) aqn (λa=>aEJ a.1 a.2) (by simp) ?_
 rintro⟨c,x⟩ o
 replace o:c.length<=1000:=o
 refine gp (let a:=γa .i64;let h:=(0:Int);let f:=Ξ (cn.i .i64) c;let d:=(↑c.length:Int);let g:=a d;let n:=a (aep c x);(((f.same f/\(a x).same (a x)/\(a (↑c.length:Int)).same g/\(γu .i64 0).same (a 0)/\True)/\True)/\(h<=h/\h<=d)/\∀(k:Nat),(↑k:Int)<h->bC c k h≠x)/\∀(b:Int),let l:=decide (x=bC c b.toNat h);let e:=b+(1:Int);let j:=a x;let m:=a e;((h<=b/\b<=d)/\∀(k:Nat),(↑k:Int)<b->bC c k h≠x)->(decide (b<d)=true->h<=b/\b<(↑c.length:Int)/\b.toNat<c.length/\(l=true->(a b).same n)/\(l=false->ie .i64 e/\((f.same f/\j.same j/\g.same g/\m.same m/\True)/\True)/\((h<=e/\e<=d)/\∀(k:Nat),(↑k:Int)<e->bC c k h≠x)/\(d - e).toNat<(d - b).toNat))/\(decide (b<d)=false->(γu .i64 (-1:Int)).same n)) (by kernel_rfl) ?_
 conv=>zeta
 try simp only[vcs]
 refine⟨⟨by omega,λk h=>by omega⟩,?_⟩
 grind[aEG,aEH]
def aqo:fN:=⟨119,List Int×Int,.cons (mA (.i .i64)) (.one (sx .i64)),λa=>a.1.length<=1000,λa=> .sb (decide (a.2∈a.1))⟩
theorem h340:Holds Tryz.prog aqo:=by
 refine kh (L:=[aqn]) aqo lk (by grind[h348]) ?_
 rintro⟨c,x⟩ a
 replace a:c.length<=1000:=a
 refine gp (c.length<=1000/\(γv (decide ((0:Int)<=aep c x))).same (γv (decide (x∈c)))) (by kernel_rfl) ?_
 simp_all[aEI]
theorem ajO {p:dd} (a:fO p=0) {r:Int}:0<=nn p r/\nn p r<=4:=by
 obtain⟨_,_,b,c,_⟩:=uw a
 unfold nn;split
 ·omega
 ·split
  all_goals simp_all[ao7]
theorem awP {p:dd} (h:p.offers.length<=1000):aa4 (lF p):=by
 have j:nR p<=20:=by
  unfold nR;split
  ·rename_i a
   have:=(uw a).1
   omega
  ·omega
 have d:0<nR p->fO p=0:=by
  grind[nR]
 refine⟨⟨?_,?_,h⟩,λr f=>?_,λb g=>?_⟩
 ·show(Zo p (nR p)).length=(Ss p (nR p)).length
  rw[av4,al5]
 ·show(Ss p (nR p)).length<=1000
  grind[al5]
 ·obtain⟨k,c,rfl⟩:=γk.1 (show r∈Zo p (nR p) from f)
  rw[δh] at c
  have a:=d (by omega)
  refine⟨by simp[uD,lF],λx i=>?_⟩
  obtain⟨o,e,rfl⟩:=γk.1 (show x∈uD p k p.offers.length from i)
  have:=acA (p:=p) (r:=k) ((uw a).2.2.2.2 o (List.mem_of_mem_take e)).2.2.1
  omega
 ·obtain⟨k,c,rfl⟩:=γk.1 (show b∈Ss p (nR p) from g)
  rw[δh] at c
  have:=ajO (d (by omega)) (r:=k)
  omega
def stepG (g:Game) (c:List Int) (x:Int):List Int:=if Xz g (ym (c++[x]))=true then ym (c++[x]) else c
def abD (g:Game) (l:List Int):List Int:=l.foldl (stepG g) []
def Gj (p:dd):List Int:=if fO p=0 then agv p else[]
def YA (p:dd):List Int:=abD (lF p) (Gj p)
theorem amj {l:List Int} {x:Int}:x∈ym l↔x∈l:=(εx _ _).mem_iff
theorem awQ {g:Game} {c:List Int} {x y:Int} (h:y∈stepG g c x):y∈c\/y=x:=by
 grind[stepG,amj]
theorem aEK {g:Game} {c:List Int} {x:Int}:(stepG g c x).length<=c.length+1:=by
 grind[stepG,agj]
theorem awR {g:Game} {l:List Int}:∀{c:List Int} {y:Int},y∈l.foldl (stepG g) c->y∈c\/y∈l:=by
 induction l<;>grind[awQ]
theorem aEL {g:Game} {l:List Int}:∀{c:List Int},(l.foldl (stepG g) c).length<=c.length+l.length:=by
 induction l<;>grind[stepG,aEK]
theorem aEM {g:Game} {l:List Int}:(abD g l).length<=l.length:=by
 grind[aEL,abD]
theorem aEN {g:Game} {l:List Int} {i:Int} (a:0<=i) (h:i<l.length):abD g (l.take (i+1).toNat)=stepG g (abD g (l.take i.toNat)) (bC l i.toNat 0):=by
 grind[abD,Xx]
theorem aqp {p:dd} {x:Int} (h:x∈Gj p):fO p=0/\JI p x:=by
 unfold Gj at h;split at h
 ·rename_i a
  rw[agv,ahU,adO] at h
  exact⟨a,h⟩
 ·simp at h
theorem awS {p:dd}:(Gj p).length<=p.offers.length:=by
 grind[Gj,agv,abC,Qk]
theorem aEO {p:dd} (d:p.offers.length<=40) {k:Nat}:(abD (lF p) ((Gj p).take k)).length<=40/\∀x∈abD (lF p) ((Gj p).take k),fO p=0/\JI p x:=by
 have b:=@aEM (lF p) ((Gj p).take k)
 have c:=@awS p
 rw[γd] at b
 refine⟨by omega,λx a=>?_⟩
 rcases awR a with h|h<;>grind[awR,aqp]
def amk:fN:=⟨48,dd,.one qa,λp=>p.offers.length<=40,λp=>Xh.put ⟨YA p,pI (lF p) (YA p)⟩⟩
def aEP (p:dd):Nat->jY
 |4=> .inv Int (λi=>⟨[(2,.ptr 1 0 2),(3,.ptr 2 0 3),(4,.row (.i .i64) (abD (lF p) ((Gj p).take i.toNat))),(11,.row (.i .i64) (Gj p)),(12,.si .i64 (Gj p).length),(13,.si .i64 i)],[.cells p.ss 27 20 false,.cells [.sc (.slice none 0 0),.il .i64 0] 37 2 false,.cells [.row (.fK (.i .i64)) (lF p).rows,.row (.i .i64) (lF p).bounds,.row .off (lF p).offers] 130 3 false,.dead]⟩)
   (λs=>iS s 13) (λi=>0<=i/\i<=(Gj p).length) (λi=>((Gj p).length - i).toNat) λ_ _=> .look
 |_=> .look
theorem h312:Holds Tryz.prog amk:=by
 refine kh (L:=[al6,aql,ami,al7,ahT]) amk aEP (by grind[h325,h308,h326,h327,h328]) ?_
 intro(p:dd) (D:p.offers.length<=40)
 refine gp (let c:=γa .i64;let d:=Ξ;let e:=(0:Int);let h:=cJ.cells;let q:=γ5 1 0 2;let o:=γ5 2 0 3;let f:=cn.i .i64;let C:=if fO p=e then agv p else[];let y:=d f (Gj p);let k:=(↑(Gj p).length:Int);let t:=c k;let B:=γu .i64 0;let r:=h [c p.supply.a0,c p.supply.a1,c p.supply.a2,c p.supply.a3,c p.supply.a4,c p.supply.a5,c p.opn.a0,c p.opn.a1,c p.opn.a2,c p.opn.a3,c p.opn.a4,c p.opn.a5,c p.cls.a0,c p.cls.a1,c p.cls.a2,c p.cls.a3,c p.cls.a4,c p.cls.a5,d f p.classes,d cn.off p.offers] 27 20 false;let s:=h [SV.sc (Value.slice none 0 0),B] 37 2 false;let g:=h [d f.fK (lF p).rows,d f (lF p).bounds,d cn.off (lF p).offers] 130 3 false;True/\0=0/\p.offers.length<=40/\(((q.same q/\o.same o/\(d f []).same (d f (abD (lF p) []))/\(d f C).same y/\(c (↑C.length:Int)).same t/\B.same (c 0)/\True)/\r.same r/\s.same s/\g.same g/\cJ.dead.same cJ.dead/\True)/\e<=e/\e<=k)/\∀(x:Int),let a:=abD (lF p) (ω x.toNat (Gj p));let l:=ym (a++[bC (Gj p) x.toNat e]);let b:=x+(1:Int);let m:=c b;let n:=λ(u:Bool) (w:List Int) ↦Xz (lF p) l=u->ie .i64 b/\((q.same q/\o.same o/\(d f w).same (d f (abD (lF p) (ω b.toNat (Gj p))))/\y.same y/\t.same t/\m.same m/\True)/\r.same r/\s.same s/\g.same g/\cJ.dead.same cJ.dead/\True)/\(e<=b/\b<=k)/\(k - b).toNat<(k - x).toNat;e<=x/\x<=k->(decide (x<k)=true->e<=x/\x<(↑(Gj p).length:Int)/\x.toNat<(Gj p).length/\(a.length<=1000/\1<=1/\1<=1000)/\(aa4 (lF p)/\ab3 (lF p) l)/\n true l/\n false a)/\(decide (x<k)=false->(aa4 (lF p)/\ab3 (lF p) a/\acC (lF p) a)/\(SV.agg [d f a,c (pI (lF p) a)]).same (SV.agg [d f (YA p),c (pI (lF p) (YA p))]))) (by kernel_rfl) ?_
 conv=>zeta
 try simp only[vcs]
 have F:=@awP p (by omega)
 have K:=@awS p
 have H:(if fO p=0 then agv p else[])=Gj p:=rfl
 rw[H]
 refine⟨D,⟨⟨rfl,rfl,rfl⟩,by omega,by omega⟩,?_⟩
 ·rintro i ⟨E,M⟩
  obtain⟨v,j⟩:=@aEO p D i.toNat
  refine⟨λz=>?_,λz=>?_⟩
  ·have G:=@aEN (lF p) (Gj p) i E z
   have A:=aqp (pz (d:=0) (show i.toNat<(Gj p).length by omega))
   rw[G]
   generalize abD (lF p) ((Gj p).take i.toNat)=c at*
   refine⟨E,z,by omega,⟨by omega,by omega,by omega⟩,⟨F,by grind[agj],λx h=>?_⟩,λh=>⟨by omega,by simp_all[stepG],by omega,by omega⟩,λh=>⟨by omega,by simp_all[stepG],by omega,by omega⟩⟩
   rw[amj,γt] at h
   rcases h with h|h
   ·exact(j x h).2
   ·rw[List.mem_singleton] at h
    rw[h];exact A.2
  ·have J:(Gj p).take i.toNat=Gj p:=Ω (by omega)
   rw[J] at v j ⊢
   refine⟨⟨F,⟨by omega,λx h=>(j x h).2⟩,λx h=>?_⟩,rfl⟩
   obtain⟨I,A⟩:=j x h
   have:=(ajD I A).1
   have e:(bC (lF p).offers x.toNat cn.off.dflt).value=adN p x:=rfl
   omega
def gSS (g:Game):List SV:=[.row (.fK (.i .i64)) g.rows,.row (.i .i64) g.bounds,.row .off g.offers]
def aqr:List SV->Option Game
 |[r,v,x]=>match Kz (.fK (.i .i64)) r,Kz (.i .i64) v,Kz .off x with
  |some c,some v,some x=>some ⟨c,v,x⟩
  |_,_,_=>none
 |_=>none
theorem aEQ {cs:List SV} {g:Game} (h:aqr cs=some g):gL cs=gL (gSS g):=by
 unfold aqr at h
 grind[gSS,gL,aaW]
theorem aER {g a:Game} (h:gL (gSS g)=gL (gSS a)):g=a:=ajA.inj g a (by
 show AV.agg (gL (gSS g))=AV.agg (gL (gSS a))
 rw[h])
def aa5 (g:Game) (v:Int) (c:List Int):Bool:=decide (v<pI g c)&&Xz g c
def aqs:og where
 f:=117
 α:=List Int×Game×Int
 put a:=[.row (.i .i64) a.1,.ptr 0 0 3,.ptr 1 0 1]
 st a:=[.cells (gSS a.2.1) 130 3 false,.cells [.si .i64 a.2.2] 2 1 false]
 dec v o:=match v,o with
  |[x,.ptr 0 0 3,.ptr 1 0 1],[.cells j 130 3 false,.cells [y] 2 1 false]=>match Kz (.i .i64) x,aqr j,y.int .i64 with
   |some x,some g,some y=>some (x,g,y)
   |_,_,_=>none
  |_,_=>none
 ok v o a h:=by
  split at h
  ·split at h
   ·rename_i d c e
    simp only[γ] at h;subst h
    refine⟨by grind[gL,aaW],?_⟩
    simp only[gO,ψ,γy,cJ.g,aEQ c,gL,F2 e];rfl
   ·cases h
  ·cases h
 inj a b d c:=by
  simp only[gL,Δ,and_true,SV.g,AV.sl.injEq] at d;simp only[gO,ψ,γy,cJ.g,Δ,ig.cells.injEq,and_true,gL,SV.g,γ6,Value.int.injEq,true_and] at c
  have e:=aER c.1
  have k:=XV (.i .i64) d.1 d.2
  grind
 dom a:=aa4 a.2.1/\ab3 a.2.1 a.1/\acC a.2.1 a.1
 res a:=.sb (aa5 a.2.1 a.2.2 a.1)
 out a:=[.cells (gSS a.2.1) 130 3 false,.cells [.si .i64 a.2.2] 2 1 false]
theorem h338:sd Tryz.prog aqs:=by
 refine Sj (L:=[al7,ahT]) (W:=[]) aqs lk (by simp) (by grind[h327,h328]) ?_
 rintro⟨c,g,v⟩ ⟨j,f,h⟩
 simp only at j f h
 refine gp (let f:=Ξ;let e:=cJ.cells [f (cn.i .i64).fK g.rows,f (cn.i .i64) g.bounds,f cn.off g.offers] 130 3 false;let a:=cJ.cells [γa .i64 v] 2 1 false;let b:=decide (v<pI g c);let d:=e.same e/\a.same a/\True;(aa4 g/\ab3 g c/\acC g c)/\(b=true->(aa4 g/\ab3 g c)/\(γv (Xz g c)).same (γv (aa5 g v c))/\d)/\(b=false->(SV.bl false).same (γv (aa5 g v c))/\d)) (by kernel_rfl) ?_
 simp_all[vcs,aa5,decide_eq_false]
def ex3 (g:Game) (c:List Int) (v:Int) (a:List Int) (o k:Int):Option (List Int):=if k<=o\/k∈c then none else if aa5 g v (ym (a++[o,k]))=true then some (ym (a++[o,k])) else none
def ex2 (g:Game) (c:List Int) (v:Int) (a:List Int) (o:Int):Option (List Int):=if o∈c then none else if aa5 g v (ym (a++[o]))=true then some (ym (a++[o])) else(Φ g.offers.length).findSome? λk:Nat=>ex3 g c v a o k
def Kq (c:List Int) (i:Nat):List Int:=c.take i++c.drop (i+1)
def ex1 (g:Game) (c:List Int) (v:Int) (i:Nat):Option (List Int):=(Φ g.offers.length).findSome? λo:Nat=>ex2 g c v (Kq c i) o
def Lr (g:Game) (c:List Int):Option (List Int):=(Φ c.length).findSome? λi=>ex1 g c (pI g c) i
theorem awT {n:Nat} {f:Nat->Option (List Int)} (h:∀i,i<n->f i=none):(Φ n).findSome? f=none:=by
 simp_all
theorem aml {n i:Nat} {f:Nat->Option (List Int)} {t:List Int} (c:i<n) (h:∀j,j<i->f j=none) (b:f i=some t):(Φ n).findSome? f=some t:=by
 have e:Φ n=Φ i++(i::(Φ (n - (i+1))).map λk=>i+1+k):=by
  have a:=@List.range_add i (n - i)
  rw[show i+(n - i)=n by omega] at a
  rw[a,show n - i=(n - (i+1))+1 by omega,List.range_succ_eq_map]
  simp only[ψ,List.map_map,Nat.add_zero]
  congr 2
  apply List.map_congr_left
  grind
 simp_all[awT]
def afm (g:Game):Prop:=aa4 g/\∀o∈g.offers,0<=o.value/\o.value<=1000000
def aqt:fN:=⟨78,Game×List Int,.cons ajA (.one (mA (.i .i64))),λa=>afm a.1/\(a.2.length<=900/\∀x∈a.2,0<=x/\x<a.1.offers.length),λa=> .eW [.row (.i .i64) ((Lr a.1 a.2).getD []),.sb (Lr a.1 a.2).isSome]⟩
def aqu (g:Game) (c:List Int):jr:=[.cells (gSS g) 130 3 false,.cells [.si .i64 (pI g c)] 2 1 false]
def aES (g:Game) (c:List Int):Nat->jY
 |4=> .inv Int (λi=>⟨[(1,.row (.i .i64) c),(2,.ptr 0 0 3),(7,.fn (.func 117) [] [.ptr 0 0 3,.ptr 1 0 1]),(19,.si .i64 c.length),(20,.si .i64 i)],aqu g c⟩)
   (λs=>iS s 20) (λi=>(0<=i/\i<=c.length)/\∀k:Nat,(k:Int)<i->ex1 g c (pI g c) k=none) (λi=>(c.length - i).toNat) λi k=>match k with
   |8=> .inv Int (λo=>⟨[(1,.row (.i .i64) c),(2,.ptr 0 0 3),(7,.fn (.func 117) [] [.ptr 0 0 3,.ptr 1 0 1]),(9,.row (.i .i64) (Kq c i.toNat)),(19,.si .i64 c.length),(20,.si .i64 i),(28,.si .i64 g.offers.length),(29,.si .i64 o)],aqu g c⟩)
     (λs=>iS s 29) (λo=>(0<=o/\o<=g.offers.length)/\∀k:Nat,(k:Int)<o->ex2 g c (pI g c) (Kq c i.toNat) k=none) (λo=>(g.offers.length - o).toNat) λo k=>match k with
     |15=> .inv Int (λz=>⟨[(1,.row (.i .i64) c),(2,.ptr 0 0 3),(7,.fn (.func 117) [] [.ptr 0 0 3,.ptr 1 0 1]),(9,.row (.i .i64) (Kq c i.toNat)),(10,.si .i64 o),(12,.si .i64 z),(19,.si .i64 c.length),(20,.si .i64 i),(28,.si .i64 g.offers.length),(29,.si .i64 o)],aqu g c⟩)
       (λs=>iS s 12) (λz=>(o<z/\z<=g.offers.length)/\∀k:Nat,(k:Int)<z->ex3 g c (pI g c) (Kq c i.toNat) o k=none) (λz=>(g.offers.length - z).toNat) λ_ _=> .look
     |_=> .look
   |_=> .look
 |_=> .look
theorem h331:Holds Tryz.prog aqt:=by
 refine con (L:=[ami,ahT,aqm,aqo]) (W:=CN [aqs]) aqt (λa=>aES a.1 a.2) (XX (by grind[h338])) (by grind[h326,h328,h339,h340]) ?_
 rintro⟨g,c⟩ ⟨⟨Z,hv⟩,a1,M⟩
 simp only at Z hv a1 M
 refine gp (let a:=γa .i64;let d:=Ξ;let f:=(0:Int);let h:=ie .i64;let j:=γu .i64 0;let o:=SV.eW;let t:=(1:Int);let m:=cn.i .i64;let q:=γ5 0 0 3;let w:=SV.fn (Fn.func 117) [] [q,γ5 1 0 1];let H:=(↑c.length:Int);let A:=a H;let v:=cJ.cells [d m.fK g.rows,d m g.bounds,d cn.off g.offers] 130 3 false;let y:=cJ.cells [a (pI g c)] 2 1 false;let u:=(↑g.offers.length:Int);let r:=(↑g.offers.length:Int);let E:=a r;let N:=o [d m ((Lr g c).getD []),γv (Lr g c).isSome];(aa4 g/\ab3 g c/\acC g c)/\((((d m c).same (d m c)/\q.same q/\w.same w/\(a (↑c.length:Int)).same A/\(j).same (a 0)/\True)/\v.same v/\y.same y/\True)/\(f<=f/\f<=H)/\∀(k:Nat),(↑k:Int)<f->ex1 g c (pI g c) k=none)/\∀(x:Int),let s:=x+t;let l:=Kq c x.toNat;let n:=d m l;let P:=a s;((f<=x/\x<=H)/\∀(k:Nat),(↑k:Int)<x->ex1 g c (pI g c) k=none)->(decide (x<H)=true->(c.length<=1000/\f<=x/\x<H)/\((((d m c).same (d m c)/\q.same q/\w.same w/\(d m (ω x.toNat c++List.drop s.toNat c)).same n/\A.same A/\(a x).same (a x)/\(a u).same E/\(j).same (a 0)/\True)/\v.same v/\y.same y/\True)/\(f<=f/\f<=r)/\∀(k:Nat),(↑k:Int)<f->ex2 g c (pI g c) l (↑k:Int)=none)/\∀(b:Int),let e:=b+t;let p:=a x;let C:=a e;let G:=ym (l++[b]);let V:=aa5 g (pI g c) G;((f<=b/\b<=r)/\∀(k:Nat),(↑k:Int)<b->ex2 g c (pI g c) l (↑k:Int)=none)->(decide (b<r)=true->c.length<=1000/\(decide (b∈c)=true->h e/\(((d m c).same (d m c)/\q.same q/\w.same w/\n.same n/\A.same A/\p.same p/\E.same E/\C.same C/\True)/\v.same v/\y.same y/\True)/\((f<=e/\e<=r)/\∀(k:Nat),(↑k:Int)<e->ex2 g c (pI g c) l (↑k:Int)=none)/\(r - e).toNat<(r - b).toNat)/\(decide (b∈c)=false->(l.length<=1000/\1<=1/\1<=1000)/\(aa4 g/\ab3 g G/\acC g G)/\(V=true->(o [d m G,SV.bl true]).same N)/\(V=false->h e/\((((d m c).same (d m c)/\q.same q/\w.same w/\n.same n/\(a b).same (a b)/\C.same C/\A.same A/\p.same p/\E.same E/\(a b).same (a b)/\True)/\v.same v/\y.same y/\True)/\(b<e/\e<=r)/\∀(k:Nat),(↑k:Int)<e->ex3 g c (pI g c) l b (↑k:Int)=none)/\∀(x:Int),let B:=x+t;let I:=a b;let T:=a B;let F:=ym (l++[b,x]);let R:=aa5 g (pI g c) F;let U:=h B/\(((d m c).same (d m c)/\q.same q/\w.same w/\n.same n/\I.same I/\T.same T/\A.same A/\p.same p/\E.same E/\I.same I/\True)/\v.same v/\y.same y/\True)/\((b<B/\B<=r)/\∀(k:Nat),(↑k:Int)<B->ex3 g c (pI g c) l b (↑k:Int)=none)/\(r - B).toNat<(r - x).toNat;((b<x/\x<=r)/\∀(k:Nat),(↑k:Int)<x->ex3 g c (pI g c) l b (↑k:Int)=none)->(decide (x<u)=true->c.length<=1000/\(decide (x∈c)=true->U)/\(decide (x∈c)=false->(l.length<=1000/\1<=2/\2<=1000)/\(aa4 g/\ab3 g F/\acC g F)/\(R=true->(o [d m F,SV.bl true]).same N)/\(R=false->U)))/\(decide (x<u)=false->h e/\(((d m c).same (d m c)/\q.same q/\w.same w/\n.same n/\A.same A/\p.same p/\E.same E/\C.same C/\True)/\v.same v/\y.same y/\True)/\((f<=e/\e<=r)/\∀(k:Nat),(↑k:Int)<e->ex2 g c (pI g c) l (↑k:Int)=none)/\(r - e).toNat<(r - b).toNat))))/\(decide (b<r)=false->h s/\(((d m c).same (d m c)/\q.same q/\w.same w/\A.same A/\P.same P/\True)/\v.same v/\y.same y/\True)/\((f<=s/\s<=H)/\∀(k:Nat),(↑k:Int)<s->ex1 g c (pI g c) k=none)/\(H - s).toNat<(H - x).toNat))/\(decide (x<H)=false->(o [d m [],SV.bl false]).same N)) (by kernel_rfl) ?_
 conv=>zeta
 try simp only[vcs]
 have S:∀d:List Int,(∀x∈d,0<=x/\x<g.offers.length)->acC g d:=λd hd x hx=>hv _ (pz (by simp_all))
 have J:∀i:Nat,(Kq c i).length<=900/\∀x∈Kq c i,x∈c:=λi=>by
  grind[Kq]
 have K:∀(i:Nat) (d:List Int),d.length<=2->(∀x∈d,0<=x/\x<g.offers.length)->aa4 g/\ab3 g (ym (Kq c i++d))/\acC g (ym (Kq c i++d)):=λi d hd hx=>by
  have u:∀x∈ym (Kq c i++d),0<=x/\x<g.offers.length:=λx h=>by
   grind[amj]
  have:=(J i).1
  exact⟨Z,⟨by grind[agj],u⟩,S _ u⟩
 have a4:=Z.1
 refine⟨⟨Z,⟨by omega,M⟩,S c M⟩,⟨by omega,λk h=>by omega⟩,?_⟩
 rintro i ⟨⟨i0,i1⟩,hi⟩
 refine⟨λY=>⟨⟨by omega,i0,Y⟩,⟨by grind[Kq],by omega,λk h=>by omega⟩,?_⟩,λY=>?_⟩
 ·have ho:=J i.toNat
  have D:∀t,ex1 g c (pI g c) i.toNat=some t->Lr g c=some t:=λt ht=>aml (i:=i.toNat) (by omega) (λj hj=>hi j (by omega)) ht
  rintro o ⟨⟨o0,o1⟩,Q⟩
  refine⟨λa3=>⟨by omega,λX=>⟨by omega,⟨by omega,λk h=>?_⟩,by omega⟩,λX=>⟨by omega,K _ _ (by simp) (by simp;omega),λhb=>?_,λhb=>⟨by omega,⟨by omega,λk h=>?_⟩,?_⟩⟩⟩,λa3=>⟨by omega,⟨by omega,λk h=>?_⟩,by omega⟩⟩
  ·by_cases u:(k:Int)<o
   ·exact Q k u
   ·rw[show(k:Int)=o by omega]
    simp_all[ex2]
  ·have u:ex2 g c (pI g c) (Kq c i.toNat) o=some (ym (Kq c i.toNat++[o])):=by
    simp_all[ex2]
   have h3:=D _ (aml (f:=λo:Nat=>ex2 g c (pI g c) (Kq c i.toNat) o) (i:=o.toNat) (by omega) (λj hj=>Q j (by omega)) (by simp only[show((o.toNat:Nat):Int)=o by omega];exact u))
   simp_all
  ·unfold ex3
   grind
  ·rintro z ⟨⟨m,q⟩,hz⟩
   refine⟨λa0=>⟨by omega,λO=>⟨by omega,⟨by omega,λk h=>?_⟩,by omega⟩,λO=>⟨by omega,K _ _ (by simp) (by simp;omega),λa2=>?_,λa2=>⟨by omega,⟨by omega,λk h=>?_⟩,by omega⟩⟩⟩,λa0=>⟨by omega,⟨by omega,λk h=>?_⟩,by omega⟩⟩
   ·by_cases u:(k:Int)<z
    ·exact hz k u
    ·rw[show(k:Int)=z by omega]
     simp_all[ex3]
   ·have h4:¬z<=o:=by omega
    have h5:ex3 g c (pI g c) (Kq c i.toNat) o z=some (ym (Kq c i.toNat++[o,z])):=by
     simp_all[ex3]
    have u:ex2 g c (pI g c) (Kq c i.toNat) o=some (ym (Kq c i.toNat++[o,z])):=by
     unfold ex2
     rw[if_neg X,if_neg (by rw[hb];simp)]
     exact aml (f:=λk:Nat=>ex3 g c (pI g c) (Kq c i.toNat) o k) (i:=z.toNat) (by omega) (λj hj=>hz j (by omega)) (by grind)
    have h3:=D _ (aml (f:=λo:Nat=>ex2 g c (pI g c) (Kq c i.toNat) o) (i:=o.toNat) (by omega) (λj hj=>Q j (by omega)) (by simp only[show((o.toNat:Nat):Int)=o by omega];exact u))
    simp_all
   ·grind[ex3]
   ·by_cases u:(k:Int)<o
    ·exact Q k u
    ·rw[show(k:Int)=o by omega]
     unfold ex2
     grind
  ·by_cases u:(k:Int)<i
   ·exact hi k u
   ·rw[show k=i.toNat by omega]
    exact awT λj hj=>Q j (by omega)
 grind[Lr]
def zc (n:Nat) (c:List Int):Prop:=c.Pairwise (·<·)/\∀x∈c,0<=x/\x<n
theorem awU {n:Nat}:∀{c:List Int} {a:Int},a<=n->c.Pairwise (·<·)->(∀x∈c,a<=x/\x<n)->(c.length:Int)<=n - a
 |[],a,e,_,_=>by simp;omega
 |x::c,a,e,h,b=>by
  have f:=b x (by simp)
  rw[γH] at h
  have:=@awU n c (x+1) (by omega) h.2 λy d=>⟨by grind,(b y (by simp[d])).2⟩
  grind
theorem ah4 {n:Nat} {c:List Int} (h:zc n c):c.length<=n:=by
 have:=awU (n:=n) (a:=0) (by omega) h.1 h.2
 omega
theorem aqv {n:Nat} {c:List Int} (f:c.Nodup) (e:∀x∈c,0<=x/\x<n):zc n (ym c):=by
 refine⟨?_,λx i=>e x (amj.1 i)⟩
 have g:(ym c).Pairwise (·<=·):=by
  have:=List.pairwise_mergeSort (le:=λx y:Int=>decide (x<=y)) (λa b d f e=>by grind) (λa b=>by simp;omega) c
  exact this.imp λh=>of_decide_eq_true h
 have j:(ym c).Pairwise (·≠·):=(εx _ _).symm.nodup f
 exact(g.and j).imp λh=>by omega
theorem amm {n:Nat} {c:List Int} (h:zc n c):c.Nodup:=h.1.imp λh=>by omega
theorem awV {c:List Int} {i:Nat}:(Kq c i).Sublist c:=by
 unfold Kq;rw[List.drop_add_one_eq_tail_drop]
 have:=(List.Sublist.refl (c.take i)).append (List.tail_sublist (c.drop i))
 simp_all
theorem ah5 {g:Game} {c t:List Int} (h:Lr g c=some t) (d:zc g.offers.length c):aa5 g (pI g c) t=true/\zc g.offers.length t:=by
 obtain⟨i,l,h⟩:=δ1 h
 obtain⟨o,m,h⟩:=δ1 h
 rw[δh] at l m
 have f:(Kq c i).Nodup:=(amm d).sublist awV
 have b:∀x∈Kq c i,x∈c:=λx a=>awV.subset a
 unfold ex2 at h;split at h
 ·cases h
 ·rename_i p
  split at h
  ·rename_i e
   injection h with h;subst h
   refine⟨e,aqv ?_ λx a=>?_⟩
   ·grind
   ·rw[γt] at a
    rcases a with a|a
    ·exact d.2 x (b x a)
    simp_all
  ·obtain⟨k,j,h⟩:=δ1 h
   rw[δh] at j;unfold ex3 at h;split at h
   ·cases h
   ·rename_i n
    split at h
    ·rename_i e
     injection h with h;subst h
     refine⟨e,aqv ?_ λx a=>?_⟩
     ·grind
     ·rw[γt] at a
      rcases a with a|a
      ·exact d.2 x (b x a)
      grind
    ·cases h
def ZW (g:Game):Nat->List Int->List Int
 |0,c=>c
 |n+1,c=>match Lr g c with
  |some t=>ZW g n t
  |none=>c
def TR (g:Game) (c:List Int):List Int:=ZW g (1000000000 - pI g c).toNat c
theorem adQ {g:Game} (a:afm g) {c:List Int} (h:zc g.offers.length c):0<=pI g c/\pI g c<=1000000000:=by
 have d:=apQ (f:=λx=>(bC g.offers x.toNat cn.off.dflt).value) (c:=c) (k:=c.length) (m:=1000000) (by omega) λx b=>a.2 _ (pz (by have:=h.2 x b;omega))
 rw[τ] at d
 have e:=ah4 h
 have i:=a.1.1.2.2
 grind[pI]
theorem aET {g:Game} (d:afm g):∀{n m:Nat} {c:List Int},zc g.offers.length c->(1000000000 - pI g c).toNat<=n->(1000000000 - pI g c).toNat<=m->ZW g n c=ZW g m c:=by
 intro n
 induction n with
 |zero=>
  intro m c a k j
  have h:=adQ d a
  cases m with
  |zero=>rfl
  |succ m=>
   unfold ZW
   cases f:Lr g c with
   |none=>rfl
   |some t=>
    obtain⟨b,e⟩:=ah5 f a
    have i:=adQ d e
    unfold aa5 at b
    grind
 |succ n l=>
  intro m c a k j
  have h:=adQ d a
  cases f:Lr g c with
  |none=>
   cases m<;>grind[ZW]
  |some t=>
   obtain⟨b,e⟩:=ah5 f a
   have i:=adQ d e
   unfold aa5 at b;simp only[μ,decide_eq_true_eq] at b
   cases m<;>grind[ZW]
theorem aEU {g:Game} (d:afm g) {c t:List Int} (b:zc g.offers.length c) (h:Lr g c=some t):TR g c=TR g t:=by
 obtain⟨a,e⟩:=ah5 h b
 have f:=adQ d b
 have i:=adQ d e
 unfold aa5 at a;simp only[μ,decide_eq_true_eq] at a;unfold TR
 rw[show(1000000000 - pI g c).toNat=((1000000000 - pI g c).toNat - 1)+1 by omega]
 grind[ZW,aET]
theorem awW {g:Game} {c:List Int} (h:Lr g c=none):TR g c=c:=by
 unfold TR
 generalize (1000000000 - pI g c).toNat=n
 cases n<;>grind[ZW]
def aEV (p:dd) (c:List Int):Prop:=fO p=0/\zc p.offers.length c
theorem awX {p:dd} (c:fO p=0):afm (lF p):=by
 have a:=uw c
 refine⟨awP (by have:=a.2.1;omega),λo b=>?_⟩
 have:=a.2.2.2.2 o b
 omega
theorem awY {l:List Off}:∀{c:List Int} {a:Int}, -1<=a->(uv l a c).isSome=true->c.Pairwise (·<·)/\∀x∈c,a<x/\x<l.length
 |[],a,_,_=>⟨δM,by simp⟩
 |i::c,a,f,h=>by
  simp only[uv] at h;split at h
  ·simp at h
  ·rename_i g
   rw[Option.isSome_map] at h
   obtain⟨d,e⟩:=@awY l c i (by omega) h
   refine⟨γH.2 ⟨λx b=>(e x b).1,d⟩,λx b=>?_⟩
   grind
theorem aa7 {p:dd} {c:List Int} (h:lj p c=0):aEV p c:=by
 unfold lj at h;split at h
 ·omega
 ·rename_i b
  split at h
  ·cases h
  ·rename_i d
   have a:=@awY p.offers c (-1) (by omega) (by grind[EH])
   exact⟨Ψ.1 b,a.1,λx e=>by grind⟩
def HU (p:dd) (c:List Int):Alloc:=if lj p c=0 then⟨TR (lF p) c,pI (lF p) (TR (lF p) c)⟩ else⟨[],0⟩
def amn:fN:=⟨47,dd×Alloc,.cons qa (.one Xh),λa=>a.2.chosen.length<=9223372036854775807,λa=>Xh.put (HU a.1 a.2.chosen)⟩
def aEW (p:dd) (a:Alloc):Nat->jY
 |6=> .inv (List Int×List Int×Bool) (λx=>⟨[(4,.ptr 2 0 2),(5,.ptr 3 0 3),(6,.row (.i .i64) x.1),(7,.row (.i .i64) x.2.1),(8,.sb x.2.2)],[.cells p.ss 27 20 false,.cells [.row (.i .i64) a.chosen,.si .i64 a.value] 37 2 false,.cells [.sc (.slice none 0 0),.il .i64 0] 37 2 false,.cells (gSS (lF p)) 130 3 false]⟩)
   (λs=>(rS (.i .i64) s 6,rS (.i .i64) s 7,bS s 8)) (λx=>zc p.offers.length x.1/\(x.2.1=(Lr (lF p) x.1).getD []/\x.2.2=(Lr (lF p) x.1).isSome)/\TR (lF p) x.1=TR (lF p) a.chosen) (λx=>(1000000000 - pI (lF p) x.1).toNat) λ_ _=> .look
 |_=> .look
theorem h315:Holds Tryz.prog amn:=by
 refine kh (L:=[alH,al6,alW,aqt,ahT]) amn (λa=>aEW a.1 a.2) (by grind[h100,h325,h330,h331,h328]) ?_
 rintro⟨p,⟨c,v⟩⟩ N
 replace N:c.length<=9223372036854775807:=N
 refine gp (let a:=γa .i64;let b:=Ξ;let d:=cJ.cells;let g:=(1000000000:Int);let h:=(0:Int);let m:=γv;let r:=SV.agg;let O:=decide (lj p c≠h);let f:=cn.i .i64;let P:=[γu .i64 0];let R:=r [b f (HU p c).chosen,a (HU p c).value];let B:=γ5 2 0 2;let C:=γ5 3 0 3;let D:=(Lr (lF p) c).getD [];let E:=(Lr (lF p) c).isSome;let w:=d [a p.supply.a0,a p.supply.a1,a p.supply.a2,a p.supply.a3,a p.supply.a4,a p.supply.a5,a p.opn.a0,a p.opn.a1,a p.opn.a2,a p.opn.a3,a p.opn.a4,a p.opn.a5,a p.cls.a0,a p.cls.a1,a p.cls.a2,a p.cls.a3,a p.cls.a4,a p.cls.a5,b f p.classes,b cn.off p.offers] 27 20 false;let F:=d [b f c,a v] 37 2 false;let j:=d (SV.sc (Value.slice none 0 0)::P) 37 2 false;let k:=d [b f.fK (lF p).rows,b f (lF p).bounds,b cn.off (lF p).offers] 130 3 false;let o:=p.offers.length;let l:=TR (lF p) c;c.length<=9223372036854775807/\(O=true->(r (b f []::P)).same R)/\(O=false->True/\c.length<=1000000/\(afm (lF p)/\c.length<=900/\∀(x:Int),x∈c->h<=x/\x<(↑(lF p).offers.length:Int))/\(((B.same B/\C.same C/\(b f c).same (b f c)/\(b f D).same (b f D)/\(m E).same (m E)/\True)/\w.same w/\F.same F/\j.same j/\k.same k/\True)/\zc o c/\(D=D/\E=E)/\l=l)/\∀(x:List Int×List Int×Bool),let e:=Lr (lF p) x.snd.fst;let u:=b f (e.getD []);let q:=pI (lF p) x.fst;zc o x.fst/\(x.snd.fst=(Lr (lF p) x.fst).getD []/\x.snd.snd=(Lr (lF p) x.fst).isSome)/\TR (lF p) x.fst=l->(x.snd.snd=true->(afm (lF p)/\x.snd.fst.length<=900/\∀(n:Int),n∈x.snd.fst->h<=n/\n<(↑(lF p).offers.length:Int))/\((B.same B/\C.same C/\(b f x.snd.fst).same (b f x.snd.fst)/\u.same u/\(m e.isSome).same (m e.isSome)/\True)/\w.same w/\F.same F/\j.same j/\k.same k/\True)/\(zc o x.snd.fst/\(e.getD []=e.getD []/\e.isSome=e.isSome)/\TR (lF p) x.snd.fst=l)/\(g - pI (lF p) x.snd.fst).toNat<(g - q).toNat)/\(x.snd.snd=false->(aa4 (lF p)/\ab3 (lF p) x.fst/\acC (lF p) x.fst)/\(r [b f x.fst,a q]).same R))) (by kernel_rfl) ?_
 conv=>zeta
 try simp only[vcs]
 refine⟨by omega,λh=>by simp only[HU,if_neg h];rfl,λh=>?_⟩
 have M:lj p c=0:=Ψ.1 h
 obtain⟨S,H⟩:=aa7 M
 have m:=awX S
 have T:=(uw S).2.1
 have s:∀d,zc p.offers.length d->aa4 (lF p)/\ab3 (lF p) d/\acC (lF p) d:=λd g=>by
  have r:=ah4 g
  exact⟨m.1,⟨by omega,g.2⟩,λx U=>m.2 _ (pz (by have:=g.2 x U;show x.toNat<p.offers.length;omega))⟩
 have Q:=ah4 H
 refine⟨by omega,⟨m,by omega,H.2⟩,H,?_⟩
 rintro⟨d,t,b⟩ ⟨g,⟨A,G⟩,K⟩
 simp only at g A G K ⊢
 have Z:=ah4 g
 refine⟨λJ=>?_,λI=>?_⟩
 ·rw[J] at G
  obtain⟨t',z⟩:=Option.isSome_iff_exists.1 G.symm
  rw[z] at A;simp only[Option.getD_some] at A;subst A
  obtain⟨r,y⟩:=ah5 z g
  have Y:=ah4 y
  have V:t.length<=p.offers.length:=Y
  have X:=adQ m y
  have W:=adQ m (c:=d) g
  unfold aa5 at r;simp only[μ,decide_eq_true_eq] at r
  exact⟨⟨m,by omega,y.2⟩,⟨y,by rw[<-aEU m g z];exact K⟩,by omega⟩
 ·rw[I] at G
  have z:Lr (lF p) d=none:=by
   simp_all
  refine⟨s d g,?_⟩
  have r:TR (lF p) c=d:=by grind[awW]
  simp only[HU,if_pos M,r];rfl
def ah6:fN:=⟨62,Int,.one (sx .u64),λx=>0<=(show Int from x)/\(show Int from x)<18446744073709551616,λx=> .row (.i .u32) (ey x)⟩
theorem h128:Holds Tryz.prog ah6:=by
 refine kh (L:=[adH]) ah6 lk (by grind[h152]) ?_
 intro(x:Int) h
 obtain⟨b,a⟩:0<=x/\x<18446744073709551616:=h
 refine gp (let a:=(4294967296:Int);(0:Int)<=(32:Int)/\(32:Int)<=(64:Int)/\2<=1000000000000/\(Ξ (cn.i .u32) (eZ [x % a,x / a % a])).same (Ξ (cn.i .u32) (ey x))) (by kernel_rfl) ?_
 simp only[vcs]
 grind[cQ,acZ,bD]
end Go.Vi
