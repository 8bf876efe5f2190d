/-
  Contracts: natural numbers of any size: shifted.
  Conditions: none.
-/
import Derived.Test.YtjcmncmajmoiiaaGreatTX06
import Derived.Test.YtjcmncmajmoiiaaGreatTX08
import Derived.Test.YtjcmncmajmoiiaaGreatTX07
import Derived.Test.YtjcmncmajmoiiaaGreatTX04
set_option maxRecDepth 100000
set_option maxHeartbeats 4000000
set_option linter.all false
open And renaming intro->γj
open BitVec renaming ofInt->γt
open Bool renaming eq_iff_iff->ε5
open Classical renaming byContradiction->δ5
open Go.Vi.SV renaming si->γe,row->Φ,il->γq,agg->γK,sb->γI
open Int renaming eq_ofNat_of_zero_le->δL,pow_succ->γQ,mul_comm->εd,mul_assoc->δl,pow_pos->δG,pow_add->εg,mul_nonneg->γA,le_of_lt->γl,mul_lt_mul_of_pos_right->γ0,emod_eq_of_lt->δQ,mul_emod_mul_of_pos->ζz,emod_nonneg->δT,emod_lt_of_pos->δu,lt_of_mul_lt_mul_left->εt,lt_of_le_of_lt->εJ,lt_of_lt_of_le->εI,mul_le_mul_of_nonneg_left->Δ,mul_le_mul_of_nonneg_right->γT,mul_zero->δO,add_zero->εp,ediv_nonneg->εa,ediv_lt_of_lt_mul->εV,sub_zero->ζh,mul_ediv_add_emod->εn,pow_zero->ζH,one_mul->δ3,toNat_natCast->γz,mul_ediv_cancel_left->ζt,natAbs_mul->εu,natAbs_natCast->ζi,mul_neg_of_neg_of_pos->εv,mul_pos->εA,toNat_of_nonneg->εB
open IntCast renaming intCast->Ω
open List renaming length_take->Ξ,replicate->ε,take->γd,length_set->γb,take_length->χ,take_append_drop->γc,drop_drop->γV,take_zero->εS,length_cons->γv,drop->δi,eq_nil_of_length_eq_zero->Ψ,length->γo,foldr_cons->ε8,foldr->ζ3,set_eq_take_append_cons_drop->εK,getElem_cons_drop->ζC,range->τ,nodup_append->γu,mem_map->γf,getElem_of_mem->δa,mem_append->ω
open Nat renaming pow_le_pow_right->δK,min_eq_left->εo,le_refl->ψ,add_sub_cancel->ζR,gcd_dvd_left->ζX,gcd_le_right->ζY
open Option.some renaming injEq->γ
open Prod renaming ext->εj
open Rat renaming mkRat_self->δ4,normalize_eq_mkRat->ζB,num_eq_zero->ζI,mkRat_eq_div->δH,intCast_natCast->ε7,mul_nonneg->δB
namespace Go.Vi
open Go.Proofs.YtjcmncmajmoiiaaGreat.Ir
open Go.Proofs
theorem Rm {x m:Int} {k:Nat} (p:0<=x) (t:x<2^k) (o:0<=m) (j:m*2^k<4294967296) (u:x<4294967296):fh.nJ .u32 x (m*2^k)=x+m*2^k:=by
 obtain⟨a,rfl⟩:=δL p
 obtain⟨b,rfl⟩:=δL o
 have e:((b:Int)*2^k)=((2^k*b:Nat):Int):=by grind
 have h:a<2^k:=by grind
 rw[e] at j ⊢
 generalize i:2^k*b=c at*
 have d:c<4294967296:=by omega
 have f:a<4294967296:=by omega
 have q:(γt 32 ((a:Nat):Int)).toNat=a:=by simp_all
 have r:(γt 32 ((c:Nat):Int)).toNat=c:=by simp_all
 have g:a |||c=a+c:=by
  rw[Nat.or_comm,<-i,<-Nat.two_pow_add_eq_or_of_lt h];omega
 have l:a+c<4294967296:=by
  rw[<-g]
  exact Nat.or_lt_two_pow (n:=32) f d
 have s:(γt 32 ((a:Nat):Int) |||γt 32 ((c:Nat):Int)).toNat=a+c:=by
  grind
 show eK .u32 ((γt 32 ((a:Nat):Int) |||γt 32 ((c:Nat):Int)).toNat:Nat)=_
 grind[tc,IntKind.wrap,IntKind.bits,IntKind.signed]
theorem Jf:∀{l:List Int} {i:Nat},bA l->4294967296^i*bj l i 0<=bk l
 |[],i,_=>by simp[bj,bk]
 |d::l,0,h=>by
  obtain⟨b,a⟩:=iZ.1 h
  have:=eV a
  grind[bj,bk]
 |d::l,i+1,h=>by
  obtain⟨b,a⟩:=iZ.1 h
  have:=@Jf l i a
  have e:bj (d::l) (i+1) 0=bj l i 0:=by simp[bj]
  rw[e,γQ,εd (4294967296^i),δl]
  grind[bk]
theorem Rn {a b:List Int} {i k:Nat} (n:bA a) (e:bA b) (F:b.length=a.length+1) (G:i<a.length) (u:k<=31) (q:bk b=bk (a.take i)*2^k):
  bA ((b.set i (fh.nJ .u32 (bj b i 0) (bj a i 0 % 18446744073709551616*2^k % 18446744073709551616 % 4294967296))).set (i+1) (bj a i 0 % 18446744073709551616*2^k % 18446744073709551616 / 4294967296 % 4294967296))/\
  bk ((b.set i (fh.nJ .u32 (bj b i 0) (bj a i 0 % 18446744073709551616*2^k % 18446744073709551616 % 4294967296))).set (i+1) (bj a i 0 % 18446744073709551616*2^k % 18446744073709551616 / 4294967296 % 4294967296))=bk (a.take (i+1))*2^k:=by
 have x:=dW n i
 have r:=dW e i
 have c:(0:Int)<2^k:=δG (by decide)
 have A:(2:Int)^k<=2147483648:=by
  have D:(2:Nat)^k<=2^31:=δK (by decide) u
  grind
 have w:(4294967296:Int)=2^(32 - k)*2^k:=by
  rw[<-εg,show 32 - k+k=32 by omega]
  decide
 have B:(0:Int)<2^(32 - k):=δG (by decide)
 have v:0<=bj a i 0*2^k:=γA x.1 (γl c)
 have H:bj a i 0*2^k<4294967296*2^k:=γ0 x.2 c
 have z:bj a i 0 % 18446744073709551616*2^k % 18446744073709551616=bj a i 0*2^k:=by
  rw[δQ (a:=bj a i 0) (by omega) (by omega),δQ v (by omega)]
 have o:bj a i 0*2^k % 4294967296=(bj a i 0 % 2^(32 - k))*2^k:=by
  conv=>lhs;rw[w]
  rw[εd (bj a i 0),εd (2^(32 - k)),ζz _ _ c,εd]
 have p:=δT (bj a i 0) (show(2:Int)^(32 - k)≠0 by omega)
 have E:=δu (bj a i 0) B
 have s:=pow_pos i
 have d:bk b<4294967296^i*2^k:=by
  rw[q]
  have:=nT (nh n i)
  rw[Ξ,εo (by omega)] at this
  simp_all
 have h:bj b i 0<2^k:=εt (εJ (Jf e) d) (γl s)
 have m:bj b (i+1) 0=0:=by
  refine zM e (i:=i+1) ?_ (ψ _)
  rw[γQ]
  exact εI d (Δ (by omega) (γl s))
 have f:(bj a i 0 % 2^(32 - k))*2^k+2^k<=4294967296:=by
  have:(bj a i 0 % 2^(32 - k)+1)*2^k<=2^(32 - k)*2^k:=γT (by omega) (γl c)
  grind
 have l:0<=(bj a i 0 % 2^(32 - k))*2^k:=γA p (γl c)
 have g:=Rm (k:=k) r.1 h p (by omega) r.2
 rw[z,o,g]
 generalize y:bj a i 0*2^k=t at*
 have j:(bj a i 0 % 2^(32 - k))*2^k=t % 4294967296:=o.symm
 rw[j] at f l ⊢
 refine⟨ni (ni e (by omega) (by omega)) (by omega) (by omega),?_⟩
 rw[t7 (by simp;omega),t7 (by omega),pH (by omega),m,lO,Int.add_mul,δl,y,q,γQ]
 have C:t / 4294967296 % 4294967296=t / 4294967296:=by omega
 grind
def shl (a:List Int) (k:Nat):List Int:=hJ (a.length+1) (bk a*2^k)
abbrev Ro:=List Int×Int
def zW (a:Ro):Prop:=bA a.1/\a.1.length<=100000000000/\0<=a.2/\a.2<=31
def Jg:bM:=⟨234,List Int×Int,.cons (dN (.i .u32)) (.one (ez .u64)),zW,λa=> .row (.i .u32) (shl a.1 a.2.toNat)⟩
def Jh:cV where
 f:=234
 α:=List Int×Int
 put a:=[.row (.i .u32) a.1,.si .u64 a.2]
 st _:=[]
 dec v o:=match v,o with
  |[v,m],[]=>match fW (.i .u32) v,m.int .u64 with
   |some p,some m=>some (p,m)
   |_,_=>none
  |_,_=>none
 ok v o a h:=by
  split at h
  ·split at h
   ·rename_i h1 h2
    simp only[γ] at h;subst h
    exact⟨by simp only[gL,jE h1,gX h2];rfl,rfl⟩
   ·cases h
  ·cases h
 inj a b h _:=by
  simp only[gL,List.cons.injEq,and_true] at h
  have h2:=h.2
  simp only[SV.g,AV.sc.injEq,Value.int.injEq,true_and] at h2
  exact εj ((dN (.i .u32)).inj _ _ h.1) h2
 dom:=zW
 res a:=.ow 0 (shl a.1 a.2.toNat).length 1
 out a:=[.row (.i .u32) (shl a.1 a.2.toNat) 235 false]
def Rq (a:Ro):Nat->cB
 |3=> .inv (Int×List Int) (λx=>⟨[(0,.row (.i .u32) a.1),(1,.si .u64 a.2),(5,.ow 0 x.2.length 1),(13,.si .i64 a.1.length),(14,.si .i64 x.1)],[.row (.i .u32) x.2 235 false]⟩)
  (λs=>(iS s 14,oS (.i .u32) s 0))
  (λx=>(0<=x.1/\x.1<=a.1.length)/\bA x.2/\x.2.length=a.1.length+1/\bk x.2=bk (a.1.take x.1.toNat)*2^a.2.toNat) (λx=>(a.1.length - x.1).toNat) λ_ _=> .look
 |_=> .look
theorem h168:dK Tryz.prog Jh:=by
 refine CN (L:=[]) (W:=[]) Jh (λ_=>none) Rq (by simp) (by simp) ?_
 rintro⟨a,s⟩ ⟨ha,hla,s0,s1⟩
 simp only at ha hla s0 s1
 refine bR (let b:=(0:Int);let c:=(18446744073709551616:Int);let d:=(4294967296:Int);let e:=γe .i64;let f:=bq.row;let g:=bX .i64;let h:=Φ;let j:=SV.ow;let w:=(↑a.length:Int);let o:=w+(1:Int);let l:=bn.i .u32;let r:=b::ε a.length b;let m:=(↑a.length:Int);let y:=e m;let A:=f l r 235 false;let z:=a.length+1;let u:=(2:Int)^s.toNat;g o/\b<=o/\o<=o/\o*(4:Int)<=(140737488355328:Int)/\o<=(1000000000000:Int)/\((((h l a).same (h l a)/\(γe .u64 s).same (γe .u64 s)/\(j 0 o.toNat 1).same (j 0 r.length 1)/\(e w).same y/\(γq .i64 0).same (e 0)/\True)/\A.same A/\True)/\(b<=b/\b<=m)/\bA r/\r.length=z/\bk r=bk []*u)/\∀(x:Int×List Int),let p:=x.snd.length;let q:=x.fst.toNat;let B:=bj a q b % c*u % c;let v:=x.snd.set q (fh.nJ .u32 (bj x.snd q b) (B % d));let n:=x.snd.length;let k:=x.fst+(1:Int);let C:=j 0 p 1;let t:=v.set k.toNat (B / d % d);let D:=e k;let E:=f l t 235 false;let F:=p=v.length;(b<=x.fst/\x.fst<=m)/\bA x.snd/\p=z/\bk x.snd=bk (γd q a)*u->(decide (x.fst<m)=true->b<=x.fst/\x.fst<w/\q<a.length/\b<=s/\s<=(64:Int)/\p=n/\b<=x.fst/\x.fst<(↑n:Int)/\p=n/\q<n/\p=n/\b<=x.fst/\x.fst<(↑n:Int)/\p=n/\q<n/\g k/\b<=(32:Int)/\(32:Int)<=(64:Int)/\F/\b<=k/\k<(↑v.length:Int)/\F/\k.toNat<v.length/\g k/\(((h l a).same (h l a)/\(γe .u64 s).same (γe .u64 s)/\C.same (j 0 t.length 1)/\y.same y/\D.same D/\True)/\E.same E/\True)/\((b<=k/\k<=m)/\bA t/\t.length=z/\bk t=bk (γd k.toNat a)*u)/\(m - k).toNat<(m - x.fst).toNat)/\(decide (x.fst<m)=false->C.same (j 0 (shl a s.toNat).length 1)/\(f l x.snd 235 false).same (f l (shl a s.toNat) 235 false)/\True)) (by kernel_rfl) ?_
 simp only[vcs]
 refine⟨by omega,by omega,by omega,by omega,by omega,?_,?_⟩
 ·repeat' refine γj ?_ ?_
  all_goals first|omega|exact lU (by simp)|exact iZ.2 ⟨by omega,zV⟩|(simp;done)|(simp only[bk,xK];omega)
 rintro⟨i,row⟩ ⟨⟨i0,i1⟩,hr,hl,hv⟩
 simp only at i0 i1 hr hl hv ⊢
 refine⟨λj4=>?_,λmE=>?_⟩
 ·obtain⟨k1,k2⟩:=Rn ha hr hl (show i.toNat<a.length by omega) (show s.toNat<=31 by omega) hv
  have e:(i+1).toNat=i.toNat+1:=by omega
  rw[e]
  repeat' refine γj ?_ ?_
  all_goals first|omega|exact lU (by simp)|(simp only[γb];done)|(simp only[γb];omega)|exact k1|exact k2
 ·have hi:i.toNat=a.length:=by omega
  rw[hi,χ] at hv
  have hrow:row=shl a s.toNat:=I2 hr hl hv
  rw[hrow]
  exact⟨rfl,rfl⟩
theorem h168p:Holds Tryz.prog Jg:=by
 refine cK (L:=[]) Jg Rq (by simp) ?_
 rintro⟨a,s⟩ ⟨ha,hla,s0,s1⟩
 simp only at ha hla s0 s1
 refine bR (let b:=(0:Int);let c:=(18446744073709551616:Int);let d:=(4294967296:Int);let e:=γe .i64;let f:=Φ;let g:=bX .i64;let h:=SV.ow;let v:=(↑a.length:Int);let o:=v+(1:Int);let l:=bn.i .u32;let q:=b::ε a.length b;let m:=(↑a.length:Int);let w:=e m;let z:=bq.row l q 235 false;let y:=a.length+1;let t:=(2:Int)^s.toNat;g o/\b<=o/\o<=o/\o*(4:Int)<=(140737488355328:Int)/\o<=(1000000000000:Int)/\((((f l a).same (f l a)/\(γe .u64 s).same (γe .u64 s)/\(h 0 o.toNat 1).same (h 0 q.length 1)/\(e v).same w/\(γq .i64 0).same (e 0)/\True)/\z.same z/\True)/\(b<=b/\b<=m)/\bA q/\q.length=y/\bk q=bk []*t)/\∀(x:Int×List Int),let n:=x.snd.length;let p:=x.fst.toNat;let A:=bj a p b % c*t % c;let u:=x.snd.set p (fh.nJ .u32 (bj x.snd p b) (A % d));let k:=x.snd.length;let j:=x.fst+(1:Int);let r:=u.set j.toNat (A / d % d);let B:=e j;let C:=bq.row l r 235 false;let D:=n=u.length;(b<=x.fst/\x.fst<=m)/\bA x.snd/\n=y/\bk x.snd=bk (γd p a)*t->(decide (x.fst<m)=true->b<=x.fst/\x.fst<v/\p<a.length/\b<=s/\s<=(64:Int)/\n=k/\b<=x.fst/\x.fst<(↑k:Int)/\n=k/\p<k/\n=k/\b<=x.fst/\x.fst<(↑k:Int)/\n=k/\p<k/\g j/\b<=(32:Int)/\(32:Int)<=(64:Int)/\D/\b<=j/\j<(↑u.length:Int)/\D/\j.toNat<u.length/\g j/\(((f l a).same (f l a)/\(γe .u64 s).same (γe .u64 s)/\(h 0 n 1).same (h 0 r.length 1)/\w.same w/\B.same B/\True)/\C.same C/\True)/\((b<=j/\j<=m)/\bA r/\r.length=y/\bk r=bk (γd j.toNat a)*t)/\(m - j).toNat<(m - x.fst).toNat)/\(decide (x.fst<m)=false->n=k/\(f l x.snd).same (f l (shl a s.toNat)))) (by kernel_rfl) ?_
 simp only[vcs]
 refine⟨by omega,by omega,by omega,by omega,by omega,?_,?_⟩
 ·repeat' refine γj ?_ ?_
  all_goals first|omega|exact lU (by simp)|exact iZ.2 ⟨by omega,zV⟩|(simp;done)|(simp only[bk,xK];omega)
 rintro⟨i,row⟩ ⟨⟨i0,i1⟩,hr,hl,hv⟩
 simp only at i0 i1 hr hl hv ⊢
 refine⟨λj4=>?_,λmE=>?_⟩
 ·obtain⟨k1,k2⟩:=Rn ha hr hl (show i.toNat<a.length by omega) (show s.toNat<=31 by omega) hv
  have e:(i+1).toNat=i.toNat+1:=by omega
  rw[e]
  repeat' refine γj ?_ ?_
  all_goals first|omega|exact lU (by simp)|(simp only[γb];done)|(simp only[γb];omega)|exact k1|exact k2
 ·have hi:i.toNat=a.length:=by omega
  rw[hi,χ] at hv
  have hrow:row=shl a s.toNat:=I2 hr hl hv
  rw[hrow]
theorem vC {U:List Int} {j:Nat} (h:j<=U.length):bk U=bk (U.take j)+4294967296^j*bk (U.drop j):=by
 conv=>lhs;rw[<-γc j U]
 grind[I4]
theorem abr {U l:List Int} {j:Nat} (h:j<=U.length):(i6 U j l).take j=U.take j:=by
 grind[i6]
theorem abt {U l:List Int} {j:Nat} (h:j<=U.length):(i6 U j l).drop j=l++U.drop (j+l.length):=by
 grind[i6]
theorem abu {U l:List Int} {j:Nat} (a:bA U) (b:bA l):bA (i6 U j l):=Q0 (nh a _) (Q0 b (zL a _))
theorem abv {U q v:List Int} {j m:Nat} {A:Int} (d:bA U) (w:bA v) (G:bA q) (H:2<=v.length) (u:U.length=m+1+v.length) (x:q.length=m+1) (J:j<=m) (p:0<bk v)
  (s:bj q j 0=0) (B:bk U+bk v*bk q=A) (D:bk (U.drop (j+1))<bk v):
  bk (prt U j (v.length+1))<4294967296*bk v/\
  (bA (i6 U j (hJ (v.length+1) (bk (prt U j (v.length+1)) % bk v)))/\(i6 U j (hJ (v.length+1) (bk (prt U j (v.length+1)) % bk v))).length=U.length)/\
  (0<=bk (prt U j (v.length+1)) / bk v/\bk (prt U j (v.length+1)) / bk v<4294967296)/\
  bk (i6 U j (hJ (v.length+1) (bk (prt U j (v.length+1)) % bk v)))+bk v*bk (q.set j (bk (prt U j (v.length+1)) / bk v))=A/\
  bk ((i6 U j (hJ (v.length+1) (bk (prt U j (v.length+1)) % bk v))).drop j)<bk v:=by
 have y:=nT w
 have f:=zL d (j+1)
 have l:=eV (ua d (j:=j) (k:=v.length+1))
 have b:bk (U.drop (j+(v.length+1)))=0:=by
  have e:bk (U.drop (j+1))=bk ((U.drop (j+1)).take v.length)+4294967296^v.length*bk ((U.drop (j+1)).drop v.length):=vC (by simp;omega)
  rw[γV,show j+1+v.length=j+(v.length+1) by omega] at e
  have I:=eV (nh f v.length)
  have F:=eV (zL d (j+(v.length+1)))
  by_cases h:bk (U.drop (j+(v.length+1)))=0
  ·exact h
  ·have:=Δ (show(1:Int)<=bk (U.drop (j+(v.length+1))) by omega) (γl (pow_pos v.length))
   omega
 have a:bk (U.drop j)=bk (prt U j (v.length+1)):=by
  have e:bk (U.drop j)=bk ((U.drop j).take (v.length+1))+4294967296^(v.length+1)*bk ((U.drop j).drop (v.length+1)):=vC (by simp;omega)
  rw[γV,b,δO,εp] at e;exact e
 have g:bk (U.drop j)=bj U j 0+4294967296*bk (U.drop (j+1)):=by
  rw[DD (show j<U.length by omega)]
  rfl
 have K:=dW d j
 have r:bk (prt U j (v.length+1))<4294967296*bk v:=by omega
 have i:=@zK (v.length+1) (bk (prt U j (v.length+1)) % bk v)
 have C:=δT (bk (prt U j (v.length+1))) (show bk v≠0 by omega)
 have E:=δu (bk (prt U j (v.length+1))) p
 have t:bk (hJ (v.length+1) (bk (prt U j (v.length+1)) % bk v))=bk (prt U j (v.length+1)) % bk v:=by
  grind[I3]
 have o:bk ((i6 U j (hJ (v.length+1) (bk (prt U j (v.length+1)) % bk v))).drop j)=bk (prt U j (v.length+1)) % bk v:=by
  grind[abt,I4]
 have c:(i6 U j (hJ (v.length+1) (bk (prt U j (v.length+1)) % bk v))).length=U.length:=Q8 (by rw[i];omega)
 have n:0<=bk (prt U j (v.length+1)) / bk v:=εa l (by omega)
 refine⟨r,⟨abu d I1,c⟩,⟨n,εV p r⟩,?_,by omega⟩
 rw[vC (U:=i6 U j _) (j:=j) (by rw[c];omega),abr (by omega),o,t7 (by omega),s,ζh]
 rw[vC (U:=U) (j:=j) (by omega),a] at B
 have z:=εn (bk (prt U j (v.length+1))) (bk v)
 grind
theorem Rr {a b:List Int} {s:Nat} (k:bA a) (w:bA b) (u:s<=31) (l:b.length<=a.length) (q:1<=b.length) (d:1<=bj b (b.length - 1) 0):
  bA (shl a s)/\(shl a s).length=a.length+1/\bk (shl a s)=bk a*2^s/\bk ((shl a s).drop (a.length - b.length+1))<bk b*2^s:=by
 have e:(0:Int)<2^s:=δG (by decide)
 have v:(2:Int)^s<=2147483648:=by
  have h:(2:Nat)^s<=2^31:=δK (by decide) u
  grind
 have f:=eV k
 have g:=nT k
 have n:bk a*2^s<4294967296^a.length*2^s:=γ0 g e
 have c:bk (shl a s)=bk a*2^s:=by
  unfold shl
  refine I3 (γA f (γl e)) (εI n ?_)
  rw[γQ]
  exact Δ (by omega) (γl (pow_pos _))
 have i:bA (shl a s):=I1
 have t:(shl a s).length=a.length+1:=zK
 refine⟨i,t,c,?_⟩
 have h:=vC (U:=shl a s) (j:=a.length - b.length+1) (by omega)
 have y:=eV (nh i (a.length - b.length+1))
 have x:4294967296^(b.length - 1)*bj b (b.length - 1) 0<=bk b:=Jf w
 have o:(4294967296:Int)^(b.length - 1)<=bk b:=by
  have:=Δ d (γl (pow_pos (b.length - 1)))
  omega
 have m:(4294967296:Int)^a.length=4294967296^(a.length - b.length+1)*4294967296^(b.length - 1):=by
  rw[<-εg]
  congr 1
  omega
 rw[c] at h
 have p:(4294967296:Int)^(a.length - b.length+1)*bk ((shl a s).drop (a.length - b.length+1))<4294967296^(a.length - b.length+1)*(4294967296^(b.length - 1)*2^s):=by
  rw[<-δl,<-m];omega
 have r:=εt p (γl (pow_pos _))
 exact εI r (γT o (γl e))
theorem abw {x y:Int} {s:Nat} (n:0<=x) (u:x<4294967296) (t:0<=y) (o:y<4294967296) (g:0<s) (q:s<=31):
  ∃r,fh.nJ .u32 (x / 2^s) (y*2^(32 - s) % 4294967296)=r/\(0<=r/\r<4294967296)/\2^s*r=x - x % 2^s+4294967296*(y % 2^s):=by
 have b:(0:Int)<2^s:=δG (by decide)
 have c:(0:Int)<2^(32 - s):=δG (by decide)
 have l:(4294967296:Int)=2^s*2^(32 - s):=by
  rw[<-εg,show s+(32 - s)=32 by omega]
  decide
 have f:y*2^(32 - s) % 4294967296=(y % 2^s)*2^(32 - s):=by
  conv=>lhs;rw[l]
  rw[εd y,εd (2^s),ζz _ _ c,εd]
 have d:=δT y (show(2:Int)^s≠0 by omega)
 have p:=δu y b
 have e:0<=x / 2^s:=εa n (γl b)
 have m:x / 2^s<2^(32 - s):=εV b (by grind)
 have h:(y % 2^s)*2^(32 - s)+2^(32 - s)<=4294967296:=by
  have:=γT (show y % 2^s+1<=2^s by omega) (γl c)
  grind
 have j:0<=(y % 2^s)*2^(32 - s):=γA d (γl c)
 have a:=Rm (k:=32 - s) e m d (by omega) (by omega)
 refine⟨x / 2^s+(y % 2^s)*2^(32 - s),by rw[f,a],⟨by omega,by omega⟩,?_⟩
 have i:=εn x (2^s)
 grind
theorem Rt {U r:List Int} {i s:Nat} {d:Int} (b:bA U) (c:bA r) (h:i<r.length) (g:∀j,i<=j->bj r j 0=0) (a:0<=d/\d<4294967296)
  (f:2^s*d=bj U i 0 - bj U i 0 % 2^s+4294967296*(bj U (i+1) 0 % 2^s))
  (e:2^s*bk r=bk (U.take i) - bj U 0 0 % 2^s+4294967296^i*(bj U i 0 % 2^s)):
  bA (r.set i d)/\(r.set i d).length=r.length/\(∀j,i+1<=j->bj (r.set i d) j 0=0)/\
  2^s*bk (r.set i d)=bk (U.take (i+1)) - bj U 0 0 % 2^s+4294967296^(i+1)*(bj U (i+1) 0 % 2^s):=by
 grind[ni,pH,t7,lO]
theorem abx {U r v q:List Int} {n s:Nat} {a b:Int} (f:bA U) (A:bA r) (y:bA v) (g:v.length=n) (u:bk U<bk v) (J:bk v=b*2^s) (C:0<b) (D:bk U+bk v*bk q=a*2^s)
  (G:s<=31) (x:n+1<=U.length)
  (c:2^s*bk r=bk (U.take n) - bj U 0 0 % 2^s+4294967296^n*(bj U n 0 % 2^s)):bk q=a / b/\bk r=a % b:=by
 have H:(0:Int)<2^s:=δG (by decide)
 have m:=nT y
 rw[g] at m
 have o:bj U n 0=0:=zM f (i:=n) (by omega) (ψ _)
 have e:bk (U.take n)=bk U:=by
  have k:=vC (U:=U) (j:=n) (by omega)
  have p:=eV (nh f n)
  have w:=eV (zL f n)
  by_cases h:bk (U.drop n)=0
  ·simp_all
  ·have:=Δ (show(1:Int)<=bk (U.drop n) by omega) (γl (pow_pos n))
   omega
 have d:bk U=2^s*(a - b*bk q):=by
  grind
 have l:bj U 0 0 % 2^s=0:=by
  have k:=@lO U 0
  have p:=vC (U:=U) (j:=1) (by omega)
  have E:(4294967296:Int)=2^s*2^(32 - s):=by
   rw[<-εg,show s+(32 - s)=32 by omega]
   decide
  simp only[Nat.zero_add,εS,bk,ζH,δ3,Int.zero_add] at k;rw[k,γQ,ζH,δ3] at p
  have w:bj U 0 0=2^s*(a - b*bk q - 2^(32 - s)*bk (U.drop 1)):=by
   grind
  simp_all
 rw[o,l,e,Int.zero_emod,δO,ζh,εp,d] at c
 have t:bk r=a - b*bk q:=Int.eq_of_mul_eq_mul_left (by omega) c
 have B:=eV A
 have z:bk r<b:=by
  have:2^s*bk r<2^s*b:=by
   grind
  simp_all
 obtain⟨F,I⟩:=vA (X:=a) (V:=b) (q:=bk q) (by grind) (by grind)
 grind
theorem DJ:∀{w:List Int},bA w->fD w->w≠[]->4294967296^(w.length - 1)<=bk w
 |[],_,_,h=>absurd rfl h
 |[d],a,b,_=>by
  have f:=(iZ.1 a).1
  have c:=b.1 rfl
  grind[bk]
 |d::e::l,a,b,_=>by
  obtain⟨f,c⟩:=iZ.1 a
  have g:=DJ c b.2 (by simp)
  have i:bk (d::e::l)=d+4294967296*bk (e::l):=rfl
  simp only[γv,ζR] at g ⊢;omega
theorem DK {a b:Nat} (h:a<=b):(4294967296:Int)^a<=4294967296^b:=by
 obtain⟨m,rfl⟩:=Nat.exists_eq_add_of_le h
 rw[εg]
 have c:=pow_pos a
 have d:=pow_pos m
 have:=Δ (show(1:Int)<=4294967296^m by omega) (γl c)
 omega
theorem Ji {t:List Int} {s:Nat} (e:bA t) (H:1<=t.length) (G:s<=31) (d:bj t (t.length - 1) 0*2^s<4294967296) (c:2147483648<=bj t (t.length - 1) 0*2^s):
  bA (bI (shl t s))/\(bI (shl t s)).length=t.length/\bk (bI (shl t s))=bk t*2^s/\2147483648<=bj (bI (shl t s)) (t.length - 1) 0/\1<=bj t (t.length - 1) 0:=by
 have o:(0:Int)<2^s:=δG (by decide)
 have q:=dW e (t.length - 1)
 have a:1<=bj t (t.length - 1) 0:=by
  grind
 obtain⟨y,N,z,_⟩:=Rr e e G (ψ _) H a
 obtain⟨f,E⟩:=@rA (shl t s)
 have i:=sB y
 rw[z] at f
 generalize bI (shl t s)=w at*
 obtain⟨n,A⟩:∃n,t.length=n+1:=⟨t.length - 1,by omega⟩
 rw[A] at d c a q ⊢;simp only[ζR] at d c a q ⊢
 have p:=pow_pos n
 have v:bk t=bk (t.take n)+4294967296^n*bj t n 0:=by
  grind[lO]
 have B:=eV (nh e n)
 have k:=nT (nh e n)
 rw[Ξ,εo (by omega)] at k
 have J:(4294967296:Int)=2^(32 - s)*2^s:=by
  rw[<-εg,show 32 - s+s=32 by omega]
  decide
 have L:(0:Int)<2^(32 - s):=δG (by decide)
 have D:bj t n 0<2^(32 - s):=by
  simp_all
 have l:(bj t n 0+1)*2^s<=4294967296:=by
  have:=γT (show bj t n 0+1<=2^(32 - s) by omega) (γl o)
  omega
 have x:bk w<4294967296^(n+1):=by
  rw[f,γQ]
  have F:bk t<4294967296^n*(bj t n 0+1):=by grind
  have M:=γ0 F o
  have I:=Δ l (γl p)
  grind
 have u:4294967296^n*(bj t n 0*2^s)<=bk w:=by
  rw[f,<-δl]
  exact γT (by omega) (γl o)
 have r:(4294967296:Int)^n<=bk w:=by
  have:=Δ (show(1:Int)<=bj t n 0*2^s by omega) (γl p)
  omega
 have b:w.length=n+1:=by
  have K:n<w.length:=by
   by_cases h:n<w.length
   ·exact h
   ·have:=nT i
    have:=DK (show w.length<=n by omega)
    omega
  by_cases h:w.length=n+1
  ·exact h
  ·have j:w≠[]:=by grind
   have:=DJ i E j
   have:=DK (show n+1<=w.length - 1 by omega)
   omega
 refine⟨i,b,f,?_,a⟩
 have C:bk w=bk (w.take n)+4294967296^n*bj w n 0:=by
  grind[lO]
 have m:=nT (nh i n)
 rw[Ξ,εo (by omega)] at m
 have g:4294967296^n*(bj t n 0*2^s)<4294967296^n*(bj w n 0+1):=by grind
 have:=εt g (γl p)
 omega
@[reducible] def sF:bn:=.pair .b (.pair (.bK (.i .u32)) (.bK (.i .u32)))
abbrev bO:=Bool×(List Int×List Int)
def bu (q:Rat):bO:=(decide (q<0),(cE (q.num.natAbs:Int),cE (q.den:Int)))
def cj (x:bO):Rat:=mkRat (if x.1 then -bk x.2.1 else bk x.2.1) (bk x.2.2).toNat
def Sz (k:Nat) (q:Rat):Prop:=(q.num.natAbs:Int)<4294967296^k/\(q.den:Int)<4294967296^k
theorem mG {n:Int} {k:Nat} (e:0<=n) (h:n<4294967296^k):(cE n).length<=k:=by
 obtain⟨f,b,d⟩:=gd e
 by_cases c:(cE n).length<=k
 ·exact c
 ·have a:cE n≠[]:=by grind
  have:=DJ b d a
  have:=DK (show k<=(cE n).length - 1 by omega)
  omega
theorem eW (q:Rat):cj (bu q)=q:=by
 unfold cj bu
 have a:=(gd (show(0:Int)<=(q.num.natAbs:Int) by omega)).1
 have b:=(gd (show(0:Int)<=(q.den:Int) by omega)).1
 simp only[a,b,decide_eq_true_eq,γz]
 grind[Rat.num_nonneg,δ4]
theorem Ru {N:Int} {D:Nat} (a:D≠0):(mkRat N D).num.natAbs=N.natAbs / N.natAbs.gcd D/\(mkRat N D).den=D / N.natAbs.gcd D:=by
 rw[<-ζB a,Rat.normalize_eq a]
 simp only
 refine⟨?_,trivial⟩
 have b:0<N.natAbs.gcd D:=Nat.gcd_pos_of_pos_right _ (by omega)
 have c:((N.natAbs.gcd D:Nat):Int)∣N:=Int.ofNat_dvd_left.2 (ζX _ _)
 generalize N.natAbs.gcd D=g at*
 obtain⟨m,rfl⟩:=c
 rw[ζt _ (by omega),εu,ζi,Nat.mul_div_cancel_left _ b]
theorem aby {N:Int} {D:Nat} (f:D≠0):mkRat N D<0↔N<0:=by
 have i:(0:Rat)=mkRat 0 D:=(Rat.zero_mkRat D).symm
 have e:mkRat N D<0↔¬0<=mkRat N D:=Rat.not_le.symm
 rw[e,<-Rat.num_nonneg]
 have g:=Rat.num_divInt_den (mkRat N D)
 have c:(mkRat N D).num*(D:Int)=N*((mkRat N D).den:Int):=by
  grind[Rat.mkRat_eq_iff,mkRat,δ4]
 have d:(0:Int)<((mkRat N D).den:Int):=by have:=(mkRat N D).den_pos;omega
 have b:(0:Int)<(D:Int):=by omega
 constructor
 ·intro h
  by_cases a:N<0
  ·exact a
  ·exfalso
   apply h
   have:0<=(mkRat N D).num*(D:Int):=by rw[c];exact γA (by omega) (by omega)
   exact Int.nonneg_of_mul_nonneg_left this b
 ·intro a h
  have:0<=(mkRat N D).num*(D:Int):=γA h (by omega)
  rw[c] at this
  have:=εv a d
  omega
theorem Rw {s:Bool} {n d:Int} (n0:0<=n) (f:0<d):bu (mkRat (if s then -n else n) d.toNat)=(s&&decide (0<n),(cE (n / ef n d),cE (d / ef n d))):=by
 have e:d.toNat≠0:=by omega
 obtain⟨b,c⟩:=Ru (N:=if s then -n else n) e
 have a:(if s then -n else n).natAbs=n.toNat:=by split<;>omega
 unfold bu;rw[b,c,a]
 have g:ef n d=((n.toNat.gcd d.toNat:Nat):Int):=rfl
 refine εj ?_ (εj ?_ ?_)
 ·simp only
  rw[ε5];simp only[decide_eq_true_eq,Bool.and_eq_true]
  grind[aby]
 all_goals grind
theorem zY {N:Int} {D:Nat} {k:Nat} (b:D≠0) (f:(N.natAbs:Int)<4294967296^k) (e:(D:Int)<4294967296^k):Sz k (mkRat N D):=by
 obtain⟨c,a⟩:=Ru (N:=N) b
 unfold Sz;rw[c,a]
 have g:=Nat.div_le_self N.natAbs (N.natAbs.gcd D)
 have d:=Nat.div_le_self D (N.natAbs.gcd D)
 omega
theorem Sz.mono {j k:Nat} {q:Rat} (h:Sz j q) (a:j<=k):Sz k q:=by
 have:=DK a
 exact⟨by have:=h.1;omega,by have:=h.2;omega⟩
theorem Rx (p q:Rat):p+q=mkRat (p.num*q.den+q.num*p.den) (p.den*q.den):=by
 rw[Rat.add_def,ζB]
theorem Ry {p q:Rat} {i j:Nat} (e:Sz i p) (c:Sz j q):Sz (i+j+1) (p+q):=by
 rw[Rx]
 have g:=p.den_pos
 have l:=q.den_pos
 have k:p.den*q.den≠0:=Nat.ne_of_gt (Nat.mul_pos g l)
 have m:∀{a b:Int} {i j:Nat},0<=a->0<=b->a<4294967296^i->b<4294967296^j->a*b<4294967296^(i+j):=by
  intro a b i j h o f d;rw[εg]
  exact εJ (Δ (γl d) h) (γ0 f (pow_pos _))
 have f:=m (by omega) (by omega) e.1 c.2
 have d:=m (by omega) (by omega) c.1 e.2
 have n:=m (by omega) (by omega) e.2 c.2
 rw[Nat.add_comm j i] at d
 have t:=pow_pos (i+j)
 refine zY k ?_ ?_
 ·have r:(p.num*(q.den:Int)).natAbs=p.num.natAbs*q.den:=by rw[εu,ζi]
  have s:(q.num*(p.den:Int)).natAbs=q.num.natAbs*p.den:=by rw[εu,ζi]
  omega
 omega
theorem DL {p:Rat} {i:Nat} (a:Sz i p):Sz i (-p):=by
 grind[Sz,Rat.neg_num,Rat.neg_den]
def xN:bM:=⟨157,Int,.one (ez .u64),λx=>0<=(show Int from x)/\(show Int from x)<18446744073709551616,λx=> .row (.i .u32) (cE x)⟩
theorem h128:Holds Tryz.prog xN:=by
 refine cK (L:=[ry]) xN lk (by grind[h152]) ?_
 intro(x:Int) h
 obtain⟨b,a⟩:0<=x/\x<18446744073709551616:=h
 refine bR (let a:=(4294967296:Int);(0:Int)<=(32:Int)/\(32:Int)<=(64:Int)/\2<=1000000000000/\(Φ (bn.i .u32) (bI [x % a,x / a % a])).same (Φ (bn.i .u32) (cE x))) (by kernel_rfl) ?_
 simp only[vcs]
 grind[bA,qs,bk]
def QD:List bM:=[ry,xG,zJ,IZ,xN,Jg]
theorem hQD:∀c∈QD,Holds Tryz.prog c:=by
 simp only[QD,List.forall_mem_cons,List.not_mem_nil,false_implies,implies_true,and_true]
 grind[h152,h132,h154,h167,h128,h168p]
def WD:List cV:=[Jh,I8]
theorem hWD:∀c∈WD,dK Tryz.prog c:=by
 simp_all[WD,h168,h169]
def DN:bM:=⟨223,List Int×List Int,.cons (dN (.i .u32)) (.one (dN (.i .u32))),λa=>(bA a.1/\bA a.2)/\(a.1.length<=10000000000/\a.2.length<=10000000000)/\0<bk a.2,
 λa=> .bH [.row (.i .u32) (cE (bk a.1 / bk a.2)),.row (.i .u32) (cE (bk a.1 % bk a.2)),.si .i64 0]⟩
def sE (a:List Int×List Int) (s:Int):Prop:=(0<=s/\s<=31)/\bj (bI a.2) ((bI a.2).length - 1) 0*2^s.toNat<4294967296/\2147483648<=bj (bI a.2) ((bI a.2).length - 1) 0*2^s.toNat
def abB (a:List Int×List Int):Nat->cB
 |10=> .inv Int (λs=>⟨[(0,.row (.i .u32) (bI a.1)),(1,.row (.i .u32) (bI a.2)),(9,.si .u64 s)],[]⟩) (λs=>iS s 9)
  (λs=>(0<=s/\s<=31)/\bj (bI a.2) ((bI a.2).length - 1) 0*2^s.toNat<4294967296) (λs=>(32 - s).toNat) λ_ _=> .look
 |17=> .inv (Int×Int×List Int×List Int) (λx=>⟨[(4,.ow 1 x.2.2.2.length 1),(9,.si .u64 x.2.1),(10,.ow 0 x.2.2.1.length 1),(11,.row (.i .u32) (bI (shl (bI a.2) x.2.1.toNat))),(12,.si .i64 (bI (shl (bI a.2) x.2.1.toNat)).length),
   (13,.si .i64 ((bI a.1).length - (bI a.2).length)),(74,.si .i64 ((bI a.1).length - (bI a.2).length+1)),(75,.si .i64 x.1)],[.row (.i .u32) x.2.2.1 235 false,.row (.i .u32) x.2.2.2 235 true]⟩)
  (λs=>(iS s 75,iS s 9,oS (.i .u32) s 0,oS (.i .u32) s 1))
  (λx=>(0<=x.1/\x.1<=(bI a.1).length - (bI a.2).length+1)/\sE a x.2.1/\(bA x.2.2.1/\x.2.2.1.length=(bI a.1).length+1)/\(bA x.2.2.2/\x.2.2.2.length=(bI a.1).length - (bI a.2).length+1)/\
   (∀j:Nat,(j:Int)<(bI a.1).length - (bI a.2).length+1 - x.1->bj x.2.2.2 j 0=0)/\
   bk x.2.2.1+bk (bI (shl (bI a.2) x.2.1.toNat))*bk x.2.2.2=bk (bI a.1)*2^x.2.1.toNat/\
   bk (x.2.2.1.drop (((bI a.1).length - (bI a.2).length+1 - x.1:Int).toNat))<bk (bI (shl (bI a.2) x.2.1.toNat)))
  (λx=>((bI a.1).length - (bI a.2).length+1 - x.1:Int).toNat) λ_ _=> .look
 |24=> .inv (Int×Int×List Int×List Int×List Int) (λx=>⟨[(4,.ow 1 x.2.2.2.1.length 1),(5,.ow 2 x.2.2.2.2.length 1),(9,.si .u64 x.2.1),(10,.ow 0 x.2.2.1.length 1),(100,.si .i64 (bI (shl (bI a.2) x.2.1.toNat)).length),(101,.si .i64 x.1)],
   [.row (.i .u32) x.2.2.1 235 false,.row (.i .u32) x.2.2.2.1 235 true,.row (.i .u32) x.2.2.2.2 235 true]⟩)
  (λs=>(iS s 101,iS s 9,oS (.i .u32) s 0,oS (.i .u32) s 1,oS (.i .u32) s 2))
  (λx=>(0<=x.1/\x.1<=(bI (shl (bI a.2) x.2.1.toNat)).length)/\sE a x.2.1/\(bA x.2.2.1/\x.2.2.1.length=(bI a.1).length+1)/\(bA x.2.2.2.1/\x.2.2.2.1.length=(bI a.1).length - (bI a.2).length+1)/\
   bk x.2.2.1+bk (bI (shl (bI a.2) x.2.1.toNat))*bk x.2.2.2.1=bk (bI a.1)*2^x.2.1.toNat/\bk x.2.2.1<bk (bI (shl (bI a.2) x.2.1.toNat))/\
   (bA x.2.2.2.2/\x.2.2.2.2.length=(bI (shl (bI a.2) x.2.1.toNat)).length)/\(∀j,x.1.toNat<=j->bj x.2.2.2.2 j 0=0)/\
   2^x.2.1.toNat*bk x.2.2.2.2=bk (x.2.2.1.take x.1.toNat) - bj x.2.2.1 0 0 % 2^x.2.1.toNat+4294967296^x.1.toNat*(bj x.2.2.1 x.1.toNat 0 % 2^x.2.1.toNat))
  (λx=>((bI (shl (bI a.2) x.2.1.toNat)).length - x.1).toNat) λ_ _=> .look
 |_=> .look
theorem h166g:Holds Tryz.prog DN:=by
 refine con (L:=QD) (W:=fY WD) DN abB (ln hWD) hQD ?_
 rintro⟨a,b⟩ ⟨⟨ha,hb⟩,⟨hla,hlb⟩,b0⟩
 simp only at ha hb hla hlb b0
 refine bR (let c:=(0:Int);let d:=(4294967296:Int);let e:=(18446744073709551616:Int);let f:=Φ;let g:=γe .i64;let h:=bX .i64;let k:=bq.row;let l:=(1:Int);let m:=SV.ow;let n:=(32:Int);let o:=(140737488355328:Int);let p:=(1000000000000:Int);let q:=(2:Int);let r:=SV.bH;let s:=(31:Int);let z0:Nat:=(bI b).length;let N:=(↑z0:Int);let av:=decide (N=c);let ag:=f (bn.i .i64) [];let t:=bn.i .u32;let ah:=g 0;let aa:=r [f t (cE (bk a / bk b)),f t (cE (bk a % bk b)),ah];let z7:Nat:=(bI a).length;let z8:Nat:=(bI b).length;let F:=bk (bI a);let aw:=decide (lQ F (bk (bI b))<c);let a1:=γq .i64 0;let ax:=decide (N=l);let ab:=bj (bI b) 0 c;let ai:=F % ab % e;let aj:=bj (bI b) (z8 - 1) c;let a2:=N - l;let ak:=(↑(bI a).length:Int) - N;let B:=ak+l;let O:=ε B.toNat c;let al:=(↑z7:Int) - (↑z8:Int);let am:=g al;let y:=al+l;let an:=g y;let ay:=k t O 235 true;let P:=z7+1;let Q:=z7 - z8+1;a.length<=1000000000000/\b.length<=1000000000000/\(av=true->(r [ag,ag,γq .i64 8]).same aa)/\(av=false->((bA (bI a)/\bA (bI b))/\z7<=1000000000000/\z8<=1000000000000)/\(aw=true->((bA (bI a)/\bA [])/\z7<=100000000000/\0<=100000000000)/\(r [ag,f t (cE (F+bk [])),a1]).same aa)/\(aw=false->(ax=true->c<=c/\c<N/\0<z0/\(bA (bI a)/\z7<=100000000000/\c<ab/\ab<d)/\(c<=ai/\ai<e)/\(r [f t (cE (F / ab)),f t (cE ai),a1]).same aa)/\(ax=false->((((f t (bI a)).same (f t (bI a))/\(f t (bI b)).same (f t (bI b))/\(γq .u64 0).same (γe .u64 0)/\True)/\True)/\(c<=c/\c<=s)/\aj*l<d)/\∀(x:Int),let ao:=q^x.toNat;let a3:=(x+l) % e;let az:=γe .u64 a3;let aA:=shl (bI b) x.toNat;let R:=shl (bI a) x.toNat;let aB:=m 0 R.length 1;let S:=bI aA;let aC:=k t R 235 false;let aD:=λ(u:Bool) ↦decide (bj (bI b) a2.toNat c*ao % d<(2147483648:Int))=u;(c<=x/\x<=s)/\aj*ao<d->h a2/\c<=a2/\a2<N/\a2.toNat<z0/\c<=x/\x<=n/\(aD true->(((f t (bI a)).same (f t (bI a))/\(f t (bI b)).same (f t (bI b))/\az.same az/\True)/\True)/\((c<=a3/\a3<=s)/\aj*q^a3.toNat<d)/\(n - a3).toNat<(n - x).toNat)/\(aD false->zW (bI a,x)/\zW (bI b,x)/\aA.length<=1000000000000/\h ak/\h B/\c<=B/\B<=B/\B*(4:Int)<=o/\B<=p/\h B/\((((m 1 B.toNat 1).same (m 1 O.length 1)/\(γe .u64 x).same (γe .u64 x)/\aB.same aB/\(f t S).same (f t S)/\(g (↑S.length:Int)).same (g (↑S.length:Int))/\(g ak).same am/\(g B).same an/\a1.same ah/\True)/\aC.same aC/\ay.same ay/\True)/\(c<=c/\c<=y)/\sE (a,b) x/\(bA R/\R.length=P)/\(bA O/\O.length=Q)/\(∀(j:Nat),(↑j:Int)<y - c->bj O j c=c)/\bk R+bk S*bk O=F*ao/\bk (δi (y - c).toNat R)<bk S)/\∀(x:Int×Int×List Int×List Int),let C:=x.snd.snd.fst;let T:=bI (shl (bI b) x.snd.fst.toNat);let U:=bk T;let w:=x.snd.snd.snd;let ac:=q^x.snd.fst.toNat;let V:=C.length;let aE:=decide (x.fst<y);let G:=al - x.fst;let z:=(↑T.length:Int);let a4:=G+z+l;let a5:=G.toNat;let a6:=a4.toNat;let H:=nj.mk C a5 (a6 - a5) V T;let K:=x.fst+l;let ap:=m 1 w.length 1;let W:=w.set a5 (H.x / U);let ad:=γe .u64 x.snd.fst;let aq:=m 0 V 1;let ae:=g z;let aF:=g K;let aG:=k t H.row 235 false;let aH:=k t W 235 true;let X:=ε z.toNat c;let aI:=k t C 235 false;let aJ:=k t w 235 true;let aK:=k t X 235 true;let aL:=bj C 0 c % ac;let aM:=bk C+U*bk w=F*ac;(c<=x.fst/\x.fst<=y)/\sE (a,b) x.snd.fst/\(bA C/\V=P)/\(bA w/\w.length=Q)/\(∀(j:Nat),(↑j:Int)<y - x.fst->bj w j c=c)/\aM/\bk (δi (y - x.fst).toNat C)<U->(aE=true->h G/\h (G+z)/\h a4/\h (G+z)/\h a4/\V=C.length/\c<=G/\c<=a4/\c<=a4/\a5<=a6/\a6<=a6/\a6<=V/\H.ok/\w.length=w.length/\c<=G/\G<(↑w.length:Int)/\w.length=w.length/\a5<w.length/\h K/\((ap.same (m 1 W.length 1)/\ad.same ad/\aq.same (m 0 H.row.length 1)/\(f t T).same (f t T)/\ae.same ae/\am.same am/\an.same an/\aF.same aF/\True)/\aG.same aG/\aH.same aH/\True)/\((c<=K/\K<=y)/\sE (a,b) x.snd.fst/\(bA H.row/\H.row.length=P)/\(bA W/\W.length=Q)/\(∀(j:Nat),(↑j:Int)<y - K->bj W j c=c)/\bk H.row+U*bk W=F*ac/\bk (δi (y - K).toNat H.row)<U)/\(y - K).toNat<(y - x.fst).toNat)/\(aE=false->c<=z/\z<=z/\z*(4:Int)<=o/\z<=p/\(((ap.same ap/\(m 2 z.toNat 1).same (m 2 X.length 1)/\ad.same ad/\aq.same aq/\ae.same ae/\a1.same ah/\True)/\aI.same aI/\aJ.same aJ/\aK.same aK/\True)/\(c<=c/\c<=z)/\sE (a,b) x.snd.fst/\(bA C/\V=P)/\(bA w/\w.length=Q)/\aM/\bk C<U/\(bA X/\X.length=T.length)/\(∀(j:Nat),0<=j->bj X j c=c)/\ac*bk X=bk [] - aL+l*aL)/\∀(x:Int×Int×List Int×List Int×List Int),let aN:=γe .u64 x.snd.fst;let v:=x.snd.snd.fst;let aO:=m 0 v.length 1;let Y:=bI (shl (bI b) x.snd.fst.toNat);let Z:=(↑Y.length:Int);let aP:=g Z;let E:=x.fst+l;let aQ:=g E;let A:=x.snd.snd.snd.snd;let L:=A.length;let D:=x.fst.toNat;let ar:=bj v D c;let I:=q^x.snd.fst.toNat;let a7:=A.set D (ar / I);let M:=x.snd.snd.snd.fst;let a8:=M.length;let aR:=m 1 a8 1;let aS:=k t v 235 false;let aT:=k t M 235 true;let a9:=E.toNat;let aU:=bj v 0 c % I;let aV:=bj v a9 c;let aW:=decide (x.fst<Z);let J:=v.length;let aX:=decide (c<x.snd.fst);let au:=(n - x.snd.fst) % e;let b3:=aN.same aN/\aO.same aO/\aP.same aP/\aQ.same aQ/\True;let af:=L=a7.length;let aY:=x.fst<(↑a7.length:Int);let aZ:=D<a7.length;let b0:=bk v+bk Y*bk M=F*I;let b4:=(Z - E).toNat<(Z - x.fst).toNat;let b5:=aR.same aR;let b6:=c<=E/\E<=Z;let b1:=λ(u:List Int) (u_1:Int) ↦let a0:=u.set D u_1;let b2:=k t a0 235 true;h E/\((b5/\(m 2 L 1).same (m 2 a0.length 1)/\b3)/\aS.same aS/\aT.same aT/\b2.same b2/\True)/\(b6/\sE (a,b) x.snd.fst/\(bA v/\v.length=P)/\(bA M/\a8=Q)/\b0/\bk v<bk Y/\(bA a0/\a0.length=Y.length)/\(∀(j:Nat),a9<=j->bj a0 j c=c)/\I*bk a0=bk (γd a9 v) - aU+d^a9*(aV % I))/\b4;(c<=x.fst/\x.fst<=Z)/\sE (a,b) x.snd.fst/\(bA v/\v.length=P)/\(bA M/\a8=Q)/\b0/\bk v<bk Y/\(bA A/\L=Y.length)/\(∀(j:Nat),D<=j->bj A j c=c)/\I*bk A=bk (γd D v) - aU+d^D*(ar % I)->(aW=true->v.length=J/\c<=x.fst/\x.fst<(↑J:Int)/\v.length=J/\D<J/\c<=x.snd.fst/\x.snd.fst<=n/\L=A.length/\c<=x.fst/\x.fst<(↑A.length:Int)/\L=A.length/\D<A.length/\(aX=true->af/\c<=x.fst/\aY/\af/\aZ/\h E/\v.length=J/\c<=E/\E<(↑J:Int)/\v.length=J/\a9<J/\c<=au/\au<=n/\af/\c<=x.fst/\aY/\af/\aZ/\b1 a7 (fh.nJ .u32 (bj a7 D c) (aV*q^au.toNat % d)))/\(aX=false->b1 A (ar / I)))/\(aW=false->a8=M.length/\L=A.length/\a8<=1000000000000/\L<=1000000000000/\(r [f t (bI M),f t (bI A),a1]).same aa))))))) (by kernel_rfl) ?_
 simp only[vcs]
 obtain⟨va,na⟩:=@rA a
 obtain⟨vb,nb⟩:=@rA b
 have da:=sB ha
 have db:=sB hb
 have la:=@t6 a
 have lb:=@t6 b
 have p0:=eV da
 have d0:bA []:=by simp[bA]
 simp only[sE];rw[<-va,<-vb];rw[<-vb] at b0
 generalize bI a=S at*
 generalize bI b=T at*
 have hm:=δT (bk S) (show bk T≠0 by omega)
 have hl:=δu (bk S) b0
 have hT1:T.length≠0:=by
  intro h;rw[Ψ h] at b0
  exact absurd b0 (by decide)
 refine⟨by omega,by omega,λh0=>by omega,λh0=>⟨⟨⟨da,db⟩,by omega,by omega⟩,λhlt=>⟨⟨⟨da,d0⟩,by omega,by omega⟩,?_⟩,λhge=>⟨λh1=>?_,λh1=>⟨?_,?_⟩⟩⟩⟩
 ·have hab:bk S<bk T:=by unfold lQ at hlt;split at hlt<;>(try split at hlt)<;>omega
  have hdv:bk S / bk T=0:=Int.ediv_eq_zero_of_lt p0 hab
  have hmv:bk S % bk T=bk S:=δQ p0 hab
  refine⟨Rj (by rw[hdv];rfl),?_⟩
  rw[hmv]
  simp[bk]
 ·obtain⟨d,rfl⟩:∃d,T=[d]:=List.length_eq_one_iff.1 (by omega)
  have hd:=(iZ.1 db).1
  have abC:bj [d] 0 0=d:=rfl
  have hv:bk [d]=d:=by simp[bk]
  rw[hv] at b0 hm hl ⊢;rw[abC]
  have hmm:bk S % d % 18446744073709551616=bk S % d:=by omega
  rw[hmm]
  repeat' refine γj ?_ ?_
  all_goals first|omega|exact da|rfl|(simp;done)
 ·have:=dW db (T.length - 1)
  repeat' refine γj ?_ ?_
  all_goals omega
 have Ii:bk T<=bk S:=by unfold lQ at hge;split at hge<;>(try split at hge)<;>omega
 have hlen:T.length<=S.length:=by
  by_cases h:S.length<T.length
  ·have:=xF da db nb h
   omega
  ·omega
 have hTn:2<=T.length:=by omega
 clear hge h0 h1 hT1 va vb d0
 rintro s ⟨⟨s0,s1⟩,hs⟩
 have t1:((T.length:Int) - 1).toNat=T.length - 1:=by omega
 have hxt:=dW db (T.length - 1)
 have hps:(0:Int)<2^s.toNat:=δG (by decide)
 have hnn:0<=bj T (T.length - 1) 0*2^s.toNat:=γA hxt.1 (γl hps)
 have hmod:bj T (T.length - 1) 0*2^s.toNat % 4294967296=bj T (T.length - 1) 0*2^s.toNat:=by omega
 rw[t1,hmod]
 repeat refine γj (by omega) ?_
 refine⟨λhc=>?_,λhc=>?_⟩
 ·have htop:1<=bj T (T.length - 1) 0:=by
   by_cases h:1<=bj T (T.length - 1) 0
   ·exact h
   ·exfalso
    have h4:=DJ db nb (by rintro rfl;simp at hTn)
    have h5:bk T=bk (T.take (T.length - 1))+4294967296^(T.length - 1)*bj T (T.length - 1) 0:=by
     have:=@lO T (T.length - 1)
     rwa [show T.length - 1+1=T.length by omega,χ] at this
    have h6:=nT (nh db (T.length - 1))
    rw[Ξ,εo (by omega)] at h6
    rw[show bj T (T.length - 1) 0=0 by omega,δO] at h5
    omega
  have h31:s<=30:=by
   by_cases h:s<=30
   ·exact h
   ·have abE:s.toNat=31:=by omega
    rw[abE,show(2:Int)^31=2147483648 from rfl] at hc;omega
  have e:((s+1) % 18446744073709551616)=s+1:=by omega
  have e2:(s+1).toNat=s.toNat+1:=by omega
  rw[e,e2,γQ,<-δl]
  repeat' refine γj ?_ ?_
  all_goals omega
 ·obtain⟨dw,lw,vw,tw,zZ⟩:=Ji db (by omega) (show s.toNat<=31 by omega) hs (by omega)
  obtain⟨ds,ls,vs,hst⟩:=Rr da db (show s.toNat<=31 by omega) hlen (by omega) zZ
  have hds:∀z,zW (z,s)↔(bA z/\z.length<=100000000000):=λz=>⟨λh=>⟨h.1,h.2.1⟩,λh=>⟨h.1,h.2,s0,s1⟩⟩
  have bK:(shl T s.toNat).length=T.length+1:=zK
  have bits:(0<=s/\s<=31)/\bj T (T.length - 1) 0*2^s.toNat<4294967296/\2147483648<=bj T (T.length - 1) 0*2^s.toNat:=⟨⟨s0,s1⟩,hs,by omega⟩
  rw[hds,hds,bK,ls]
  refine⟨⟨da,by omega⟩,⟨db,by omega⟩,?_⟩
  repeat refine γj (by omega) ?_
  refine⟨?_,?_⟩
  ·repeat' refine γj ?_ ?_
   all_goals first|omega|exact lU (by simp)|exact lU (by omega)|exact ds|exact zV|exact λj _=>Rl|(simp;omega)|(rw[xK,δO,εp];exact vs)|(rw[vw,show((S.length:Int) - T.length+1 - 0).toNat=S.length - T.length+1 by omega];exact hst)
  clear hst vs ls ds bits hds hmod hnn hps hxt zZ tw vw lw dw bK t1 hc hs s0 s1
  clear s
  rintro⟨i,s,U,q⟩ ⟨⟨i0,i1⟩,⟨⟨s0,s1⟩,hs,hs2⟩,⟨hU,DO⟩,⟨hq,vD⟩,hz,he,hlt⟩
  simp only at i0 i1 s0 s1 hs hs2 hU DO hq vD hz he hlt ⊢
  obtain⟨dw,lw,vw,tw,zZ⟩:=Ji db (by omega) (show s.toNat<=31 by omega) hs (by omega)
  generalize hw:bI (shl T s.toNat)=w at*
  have hw0:0<bk w:=by
   rw[vw]
   exact εA b0 (δG (by decide))
  refine⟨λj4=>?_,λmE=>?_⟩
  ·obtain⟨j,hj⟩:∃j:Nat,(S.length:Int) - T.length - i=j:=⟨((S.length:Int) - T.length - i).toNat,by omega⟩
   have e1:((j:Int)+w.length+1).toNat - j=w.length+1:=by omega
   have e2:((S.length:Int) - T.length+1 - i).toNat=j+1:=by omega
   rw[e2] at hlt
   obtain⟨k1,⟨k2,k3⟩,⟨k4,k5⟩,k6,k7⟩:=abv (j:=j) (m:=S.length - T.length) hU dw hq (by omega) (by omega) (by omega) (by omega) hw0 (hz j (by omega)) he hlt
   have e3:((S.length:Int) - T.length+1 - (i+1)).toNat=j:=by omega
   simp only[hj,e1,e3,γz,nj.row,nj.x,nj.ok]
   repeat' refine γj ?_ ?_
   all_goals first|omega|exact lU (by simp)|exact lU k3.symm|exact trivial|exact hU|exact dw|exact k1|exact k2|exact k6|exact k7|exact ni hq k4 k5|(simp;omega)|(rw[lw];exact tw)|exact λp hp=>by rw[pH (by omega)];exact hz p (by omega)
  ·have e2:((S.length:Int) - T.length+1 - i).toNat=0:=by omega
   rw[e2,List.drop_zero] at hlt
   repeat refine γj (by omega) ?_
   refine⟨?_,?_⟩
   ·have h1:=@lO U 0
    simp only[εS,bk,ζH,δ3]
    repeat' refine γj ?_ ?_
    all_goals first|omega|exact lU (by simp)|exact hU|exact hq|exact he|exact hlt|exact zV|exact λj _=>Rl|(simp;done)|(rw[xK];omega)
   clear hlt hz e2 mE i0 i1 tw zZ hw0 hs hs2 s0 s1 he hU DO hq vD
   clear hw dw lw vw
   clear w s i U q
   rintro⟨i,s,U,q,r⟩ ⟨⟨i0,i1⟩,⟨⟨s0,s1⟩,hs,hs2⟩,⟨hU,DO⟩,⟨hq,vD⟩,he,hlt,⟨hr,hrl⟩,hz,hv⟩
   simp only at i0 i1 s0 s1 hs hs2 hU DO hq vD he hlt hr hrl hz hv ⊢
   obtain⟨dw,lw,vw,tw,zZ⟩:=Ji db (by omega) (show s.toNat<=31 by omega) hs (by omega)
   generalize hw:bI (shl T s.toNat)=w at*
   refine⟨λj4=>?_,λmE=>?_⟩
   ·have x0:=dW hU i.toNat
    have x1:=dW hU (i.toNat+1)
    have e1:(i+1).toNat=i.toNat+1:=by omega
    have x2:=dW hr i.toNat
    have hps:(0:Int)<2^s.toNat:=δG (by decide)
    have y0:0<=bj U i.toNat 0 / 2^s.toNat:=εa x0.1 (γl hps)
    have y1:bj U i.toNat 0 / 2^s.toNat<=bj U i.toNat 0:=Int.ediv_le_self _ x0.1
    have e2:((32 - s) % 18446744073709551616).toNat=32 - s.toNat:=by omega
    have e3:(r.set i.toNat (bj U i.toNat 0 / 2^s.toNat)).set i.toNat=r.set i.toNat:=by funext z;rw[List.set_set]
    simp only[e1,e2,e3,sD (show i.toNat<r.length by omega),γb]
    repeat refine γj (by omega) ?_
    refine⟨λhs0=>?_,λhs0=>?_⟩
    ·obtain⟨d,hd1,hd2,hd3⟩:=abw (s:=s.toNat) x0.1 x0.2 x1.1 x1.2 (by omega) (by omega)
     obtain⟨k1,k2,k3,k4⟩:=Rt hU hr (show i.toNat<r.length by omega) hz hd2 hd3 hv
     rw[hd1]
     repeat' refine γj ?_ ?_
     all_goals first|omega|exact lU (by simp)|exact hU|exact hq|exact k1|exact k3|exact k4|exact he|exact hlt|trivial
    ·have abG:s.toNat=0:=by omega
     obtain⟨k1,k2,k3,k4⟩:=Rt (s:=s.toNat) (d:=bj U i.toNat 0 / 2^s.toNat) hU hr (show i.toNat<r.length by omega) hz ⟨y0,by omega⟩ (by rw[abG];simp) hv
     repeat' refine γj ?_ ?_
     all_goals first|omega|exact lU (by simp)|exact hU|exact hq|exact k1|exact k3|exact k4|exact he|exact hlt|trivial
   ·have hi:i.toNat=w.length:=by omega
    rw[hi] at hv
    obtain⟨w1,w2⟩:=abx hU hr dw rfl hlt vw b0 he (show s.toNat<=31 by omega) (by omega) hv
    rw[qs hq,qs hr,w1,w2]
    repeat' refine γj ?_ ?_
    all_goals first|omega|rfl|trivial
theorem Jj {a b:List Int} (d:bA a) (c:bA b) (f:fD a) (h:bk a<=bk b):a.length<=b.length:=by
 by_cases e:a.length<=b.length
 ·exact e
 ·have:=xF c d f (by omega)
  omega
def DR:bM:=⟨198,List Int×List Int,.cons (dN (.i .u32)) (.one (dN (.i .u32))),λa=>(bA a.1/\bA a.2)/\(a.1.length<=1000000000/\a.2.length<=1000000000),
 λa=> .row (.i .u32) (cE (ef (bk a.1) (bk a.2)))⟩
def abH (a:List Int×List Int):Nat->cB
 |2=> .inv (List Int×List Int) (λx=>⟨[(0,.row (.i .u32) x.1),(1,.row (.i .u32) x.2)],[]⟩) (λs=>(rS (.i .u32) s 0,rS (.i .u32) s 1))
  (λx=>(bA x.1/\bA x.2)/\(fD x.1/\fD x.2)/\(x.1.length<=1000000000/\x.2.length<=1000000000)/\ef (bk x.1) (bk x.2)=ef (bk a.1) (bk a.2)) (λx=>(bk x.2).toNat) λ_ _=> .look
 |_=> .look
theorem h165g:Holds Tryz.prog DR:=by
 refine cK (L:=[zJ,DN]) DR abH (by grind[h154,h166g]) ?_
 rintro⟨a,b⟩ ⟨⟨l,k⟩,⟨n,m⟩⟩
 simp only at l k n m
 refine bR (let h:=Φ;let c:=bn.i .u32;let f:=cE (bk a+bk []);let e:=cE (bk b+bk []);let g:=ef (bk a) (bk b);((bA a/\bA [])/\a.length<=100000000000/\0<=100000000000)/\((bA b/\bA [])/\b.length<=100000000000/\0<=100000000000)/\((((h c f).same (h c f)/\(h c e).same (h c e)/\True)/\True)/\(bA f/\bA e)/\(fD f/\fD e)/\(f.length<=1000000000/\e.length<=1000000000)/\ef (bk f) (bk e)=g)/\∀(x:List Int×List Int),let v:=decide ((0:Int)<(↑x.snd.length:Int));let d:=cE (bk x.fst % bk x.snd);(bA x.fst/\bA x.snd)/\(fD x.fst/\fD x.snd)/\(x.fst.length<=1000000000/\x.snd.length<=1000000000)/\ef (bk x.fst) (bk x.snd)=g->(v=true->((bA x.fst/\bA x.snd)/\(x.fst.length<=10000000000/\x.snd.length<=10000000000)/\(0:Int)<bk x.snd)/\(false=true->(h c x.fst).same (h c (cE g)))/\(false=false->(((h c x.snd).same (h c x.snd)/\(h c d).same (h c d)/\True)/\True)/\((bA x.snd/\bA d)/\(fD x.snd/\fD d)/\(x.snd.length<=1000000000/\d.length<=1000000000)/\ef (bk x.snd) (bk d)=g)/\(bk d).toNat<(bk x.snd).toNat))/\(v=false->(h c x.fst).same (h c (cE g)))) (by kernel_rfl) ?_
 simp only[vcs]
 have r:bA []:=by simp[bA]
 have N:=eV l
 have E:=eV k
 have z:bk []=0:=rfl
 rw[z,εp,εp]
 obtain⟨Q,y,D⟩:=gd N
 obtain⟨o,w,H⟩:=gd E
 have p:(cE (bk a)).length<=1000000000:=by
  rw[<-qs l]
  grind[t6]
 have j:(cE (bk b)).length<=1000000000:=by
  rw[<-qs k]
  grind[t6]
 refine⟨⟨⟨l,r⟩,by omega,by omega⟩,⟨⟨k,r⟩,by omega,by omega⟩,⟨⟨y,w⟩,⟨D,H⟩,⟨p,j⟩,by rw[Q,o]⟩,?_⟩
 rintro⟨s,t⟩ ⟨⟨u,q⟩,⟨J,C⟩,⟨O,G⟩,F⟩
 simp only at u q J C G O F ⊢
 have T:=eV u
 have U:=eV q
 refine⟨λB=>?_,λB=>?_⟩
 ·have h:0<bk t:=by
   grind[val_zero]
  have K:=δT (bk s) (show bk t≠0 by omega)
  have A:=δu (bk s) h
  obtain⟨I,M,S⟩:=gd K
  have P:=Jj M q S (by rw[I];omega)
  grind[abl]
 ·have R:t=[]:=Ψ (by omega)
  grind[abm,zI]
def qA (q:Rat):SV:=.agg (encS sF (bu q))
def cY (x:bO):Prop:=∃q k,x=bu q/\Sz k q/\k<=100000000
def fE (s:Bool) (n d:Int):Rat:=mkRat (if s then -n else n) d.toNat
def DT:bM:=⟨156,Int,.one (ez .i64),λn=> -9223372036854775808<=(show Int from n)/\(show Int from n)<=9223372036854775807,λn=> .row (.i .u32) (cE ((show Int from n).natAbs:Int))⟩
theorem h127:Holds Tryz.prog DT:=by
 refine cK (L:=[xN]) DT lk (by grind[h128]) ?_
 intro(n:Int) h
 obtain⟨e,f⟩: -9223372036854775808<=n/\n<=9223372036854775807:=h
 refine bR (let e:=(18446744073709551616:Int);let f:=(1:Int);let g:=(0:Int);let h:=Φ;let d:=decide (n<g);let a:=(-(n+f)+f) % e;let b:=bn.i .u32;let c:=h b (cE (↑n.natAbs:Int));(d=true->bX .i64 (n+f)/\bX .i64 (-(n+f))/\bX .u64 (-(n+f))/\(g<=a/\a<e)/\(h b (cE a)).same c)/\(d=false->bX .u64 n/\(g<=n/\n<e)/\(h b (cE n)).same c)) (by kernel_rfl) ?_
 simp only[vcs]
 grind[u64_in]
def Aa:bM:=⟨194,Bool×(List Int×List Int),.cons O4 (.cons (dN (.i .u32)) (.one (dN (.i .u32)))),λa=>(bA a.2.1/\bA a.2.2)/\(a.2.1.length<=1000000000/\a.2.2.length<=1000000000)/\0<bk a.2.2,
 λa=> .bH [qA (fE a.1 (bk a.2.1) (bk a.2.2)),.si .i64 0]⟩
theorem h151:Holds Tryz.prog Aa:=by
 refine cK (L:=[DR,DN]) Aa lk (by grind[h165g,h166g]) ?_
 rintro⟨s,n,d⟩ ⟨⟨c,f⟩,⟨t,p⟩,j⟩
 simp only at c f t p j
 refine bR (let b:=SV.bl false;let c:=γq .i64;let e:=Φ;let f:=(0:Int);let g:=γK;let h:=SV.bH;let k:=e (bn.i .i64) [];let w:=bu (fE s (bk n) (bk d));let l:=bn.i .u32;let y:=h [g [γI w.fst,e l w.snd.fst,e l w.snd.snd],γe .i64 0];let a:=cE (ef (bk n) (bk d));let C:=cE (bk n / bk a);let B:=decide ((↑d.length:Int)=f);let F:=false=true->(h [g [b,k,k],c 8]).same y;let E:=λ(u:Bool) (v:SV) ↦s=u->(h [g [v,e l C,e l (cE (bk d / bk a))],c 0]).same y;(B=true->(h [g [b,k,k],c 8]).same y)/\(B=false->((bA n/\bA d)/\n.length<=1000000000/\d.length<=1000000000)/\((bA n/\bA a)/\(n.length<=10000000000/\a.length<=10000000000)/\f<bk a)/\((bA d/\bA a)/\(d.length<=10000000000/\a.length<=10000000000)/\f<bk a)/\F/\(false=false->F/\(false=false->E true (γI (decide (f<(↑C.length:Int))))/\E false (b))))) (by kernel_rfl) ?_
 simp only[vcs]
 have D:=eV c
 have b:0<ef (bk n) (bk d):=by
  simp_all[ef]
 have K:ef (bk n) (bk d)<=bk d:=by
  unfold ef
  have:=ζY (bk n).toNat (show 0<(bk d).toNat by omega)
  omega
 have o:ef (bk n) (bk d)∣bk n:=by
  unfold ef
  have:=ζX (bk n).toNat (bk d).toNat
  have S:=Int.natCast_dvd_natCast.2 this
  grind
 obtain⟨R,q,Q⟩:=gd (γl b)
 have I:=Jj q (sB f) Q (by grind[rA])
 have P:=@t6 d
 have A:0<=bk n / ef (bk n) (bk d):=εa D (γl b)
 obtain⟨N,H,M⟩:=gd A
 have G:(0<((cE (bk n / ef (bk n) (bk d))).length:Int))↔0<bk n:=by
  obtain⟨m,e⟩:=o
  have r:bk n / ef (bk n) (bk d)=m:=by
   conv=>lhs;arg 1;rw[e]
   rw[ζt _ (by omega)]
  rw[r] at N H M ⊢
  have z:0<bk n↔0<m:=by
   generalize ef (bk n) (bk d)=g at*
   rw[e]
   constructor
   ·grind
   ·intro h;exact εA b h
  rw[z]
  constructor
  ·intro h
   by_cases e:m=0
   ·rw[e] at h;exact absurd h (by decide)
   ·omega
  ·intro h
   by_cases T:(cE m).length=0<;>grind[cE,bk]
 have O:d.length≠0:=by
  intro h;rw[Ψ h] at j
  exact absurd j (by decide)
 unfold fE;rw[Rw D j,R]
 simp only
 refine⟨λh=>absurd h (by omega),λ_=>⟨⟨⟨c,f⟩,by omega,by omega⟩,⟨⟨c,q⟩,by omega,b⟩,⟨⟨f,q⟩,by omega,b⟩,?_⟩⟩
 have J:decide (0<((cE (bk n / ef (bk n) (bk d))).length:Int))=decide (0<bk n):=by
  simp_all
 refine⟨λh=>absurd h (by decide),λ_=>⟨λh=>absurd h (by decide),λ_=>⟨λx=>?_,λx=>?_⟩⟩⟩
 ·rw[x,J]
  rfl
 ·rw[x]
  rfl
def xO:bM:=⟨155,Bool×(List Int×List Int),.cons O4 (.cons (dN (.i .u32)) (.one (dN (.i .u32)))),λa=>(bA a.2.1/\bA a.2.2)/\(a.2.1.length<=1000000000/\a.2.2.length<=1000000000)/\0<bk a.2.2,
 λa=>qA (fE a.1 (bk a.2.1) (bk a.2.2))⟩
theorem h126:Holds Tryz.prog xO:=by
 refine cK (L:=[Aa]) xO lk (by grind[h151]) ?_
 rintro⟨s,n,d⟩ ⟨⟨h,g⟩,⟨a,c⟩,f⟩
 simp only at h g a c f
 refine bR (let b:=bu (fE s (bk n) (bk d));let e:=γK [γI b.fst,Φ (bn.i .u32) b.snd.fst,Φ (bn.i .u32) b.snd.snd];((bA n/\bA d)/\(n.length<=1000000000/\d.length<=1000000000)/\(0:Int)<bk d)/\e.same e) (by kernel_rfl) ?_
 simp_all[vcs]
def qB:bM:=⟨116,Int,.one (ez .i64),λn=> -9223372036854775808<=(show Int from n)/\(show Int from n)<=9223372036854775807,λn=>qA ((show Int from n):Rat)⟩
theorem h94:Holds Tryz.prog qB:=by
 refine cK (L:=[DT,xN,xO]) qB lk (by grind[h127,h128,h126]) ?_
 intro(n:Int) h
 obtain⟨o,p⟩: -9223372036854775808<=n/\n<=9223372036854775807:=h
 refine bR (let e:=Φ;let g:=(1:Int);let h:=(0:Int);let c:=cE (↑n.natAbs:Int);let b:=cE g;let f:=bu (fE (decide (n<h)) (bk c) (bk b));let a:=bn.i .u32;let d:=bu (Ω n);((-9223372036854775808:Int)<=n/\n<=(9223372036854775807:Int))/\(h<=g/\g<(18446744073709551616:Int))/\((bA c/\bA b)/\(c.length<=1000000000/\b.length<=1000000000)/\h<bk b)/\(γK [γI f.fst,e a f.snd.fst,e a f.snd.snd]).same (γK [γI d.fst,e a d.snd.fst,e a d.snd.snd])) (by kernel_rfl) ?_
 conv=>zeta
 obtain⟨j,g,t⟩:=gd (show(0:Int)<=(n.natAbs:Int) by omega)
 obtain⟨l,m,s⟩:=gd (show(0:Int)<=1 by omega)
 have u:=mG (k:=2) (show(0:Int)<=(n.natAbs:Int) by omega) (by omega)
 have q:=mG (k:=1) (show(0:Int)<=1 by omega) (by decide)
 refine⟨⟨o,p⟩,⟨by omega,by omega⟩,⟨⟨g,m⟩,⟨by omega,by omega⟩,by omega⟩,?_⟩
 have e:fE (decide (n<0)) (bk (cE (n.natAbs:Int))) (bk (cE 1))=Ω n:=by
  rw[j,l];unfold fE
  have r:(if decide (n<0)=true then -(n.natAbs:Int) else(n.natAbs:Int))=n:=by
   grind
  grind[Rat.mkRat_one]
 rw[e];rfl
def kC (q:Rat):Int:=if q<0 then -1 else if 0<q then 1 else 0
def ug:bM:=⟨161,bO,.one (eG sF),cY,λx=> .si .i64 (kC (cj x))⟩
theorem h99:Holds Tryz.prog ug:=by
 refine cK (L:=[]) ug lk (by simp) ?_
 intro(x:bO) h
 obtain⟨q,k,rfl,m,f⟩:cY x:=h
 refine bR (let c:=γq .i64;let b:=decide ((↑(γo (bu q).snd.fst):Int)=(0:Int));let a:=γe .i64 (kC (cj (bu q)));(b=true->(c 0).same a)/\(b=false->((bu q).fst=true->(c (-1:Int)).same a)/\((bu q).fst=false->(c 1).same a))) (by kernel_rfl) ?_
 simp only[vcs];rw[eW]
 have e:((bu q).2.1.length:Int)=0↔q.num=0:=by
  unfold bu
  simp only
  obtain⟨d,j,i⟩:=gd (show(0:Int)<=(q.num.natAbs:Int) by omega)
  constructor
  ·intro h
   rw[Ψ (by omega:(cE (q.num.natAbs:Int)).length=0)] at d
   grind[bk]
  ·intro h
   rw[h];rfl
 have c:(bu q).1=decide (q<0):=rfl
 have n:=@Rat.num_nonneg q
 have l:q<0↔q.num<0:=by
  grind
 have g:0<q↔0<q.num:=by
  grind[ζI]
 rw[e,c];simp only[decide_eq_true_eq,decide_eq_false_iff_not];unfold kC
 grind
def vE (x:bO):Prop:=(bA x.2.1/\bA x.2.2)/\x.2.1.length<=100000000/\x.2.2.length<=100000000
def DU:bM:=⟨158,bO×bO,.cons (eG sF) (.one (eG sF)),λa=>vE a.1/\vE a.2,λa=> .bH [.row (.i .u32) (cE (bk a.1.2.1*bk a.2.2.2)),.row (.i .u32) (cE (bk a.2.2.1*bk a.1.2.2))]⟩
theorem h131:Holds Tryz.prog DU:=by
 refine cK (L:=[xM]) DU lk (by grind[h153]) ?_
 rintro⟨⟨s,n,d⟩,⟨o,b,a⟩⟩ ⟨⟨⟨e,j⟩,g,f⟩,⟨⟨k,h⟩,l,m⟩⟩
 simp only at e j g f k h l m
 refine bR (let c:=SV.bH [Φ (bn.i .u32) (cE (bk n*bk a)),Φ (bn.i .u32) (cE (bk b*bk d))];((bA n/\bA a)/\n.length<=100000000000/\a.length<=100000000000)/\((bA b/\bA d)/\b.length<=100000000000/\d.length<=100000000000)/\c.same c) (by kernel_rfl) ?_
 simp only[vcs]
 grind
theorem DV {p q:Rat} (h:p=q):(γK [.sb (bu p).1,.row (.i .u32) (bu p).2.1,.row (.i .u32) (bu p).2.2]).same (.agg [.sb (bu q).1,.row (.i .u32) (bu q).2.1,.row (.i .u32) (bu q).2.2]):=by subst h;rfl
theorem vF (q:Rat):q.num=if decide (q<0) then -(q.num.natAbs:Int) else(q.num.natAbs:Int):=by
 have a:=@Rat.num_nonneg q
 grind
theorem nk (q:Rat):(bu q).1=decide (q<0)/\(bA (bu q).2.1/\fD (bu q).2.1/\bk (bu q).2.1=(q.num.natAbs:Int))/\(bA (bu q).2.2/\fD (bu q).2.2/\bk (bu q).2.2=(q.den:Int)):=by
 obtain⟨f,e,d⟩:=gd (show(0:Int)<=(q.num.natAbs:Int) by omega)
 obtain⟨b,c,a⟩:=gd (show(0:Int)<=(q.den:Int) by omega)
 exact⟨rfl,⟨e,d,f⟩,⟨c,a,b⟩⟩
theorem qC {q:Rat} {k:Nat} (h:Sz k q):(bu q).2.1.length<=k/\(bu q).2.2.length<=k:=
 ⟨mG (by omega) h.1,mG (by omega) h.2⟩
theorem abI (q:Rat):fE (!decide (q<0)) (q.num.natAbs:Int) (q.den:Int)= -q:=by
 unfold fE
 have h:=vF q
 have e:(if(!decide (q<0))=true then -(q.num.natAbs:Int) else(q.num.natAbs:Int))= -q.num:=by
  grind
 grind[δ4,Rat.neg_mkRat]
def xQ:bM:=⟨164,bO,.one (eG sF),cY,λx=>qA (-(cj x))⟩
theorem h130:Holds Tryz.prog xQ:=by
 refine cK (L:=[xO]) xQ lk (by grind[h126]) ?_
 intro(x:bO) h
 obtain⟨q,k,rfl,f,g⟩:cY x:=h
 refine bR (let f:=Φ;let c:=(bu q).snd.fst;let a:=(bu q).snd.snd;let d:=bu (fE (!(bu q).fst) (bk c) (bk a));let b:=bn.i .u32;let e:=(bu (-cj (bu q))).snd;((bA c/\bA a)/\(γo c<=1000000000/\γo a<=1000000000)/\(0:Int)<bk a)/\(γK [γI d.fst,f b d.snd.fst,f b d.snd.snd]).same (γK [γI (bu (-cj (bu q))).fst,f b e.fst,f b e.snd])) (by kernel_rfl) ?_
 conv=>zeta
 obtain⟨s,⟨r,p,u⟩,⟨o,l,n⟩⟩:=nk q
 obtain⟨j,m⟩:=qC f
 have t:=q.den_pos
 grind[DV,eW,abI]
theorem qD {a b:Int} {i j:Nat} (e:0<=a) (c:a<4294967296^i) (d:b<4294967296^j):a*b<4294967296^(i+j):=by
 rw[εg]
 exact εJ (Δ (γl d) e) (γ0 c (pow_pos _))
theorem Rz {p q:Rat} {i j:Nat} (c:Sz i p) (b:Sz j q):∃X Y D:Int,bk (bu p).2.1*bk (bu q).2.2=X/\bk (bu q).2.1*bk (bu p).2.2=Y/\bk (bu p).2.2*bk (bu q).2.2=D/\0<=X/\0<=Y/\0<D/\
  (cE X).length<=i+j/\(cE Y).length<=i+j/\(cE (X+Y)).length<=i+j+1/\(cE (X - Y)).length<=i+j/\(cE (Y - X)).length<=i+j/\(cE D).length<=i+j/\p.num*q.den=(if decide (p<0) then -X else X)/\q.num*p.den=(if decide (q<0) then -Y else Y)/\((p.den*q.den:Nat):Int)=D:=by
 obtain⟨_,⟨_,_,l⟩,⟨_,_,r⟩⟩:=nk p
 obtain⟨_,⟨_,_,n⟩,⟨_,_,m⟩⟩:=nk q
 rw[l,r,n,m]
 have s:=p.den_pos
 have t:=q.den_pos
 have k:=qD (a:=(p.num.natAbs:Int)) (by omega) c.1 b.2
 have d:=qD (a:=(q.num.natAbs:Int)) (by omega) b.1 c.2
 rw[Nat.add_comm j i] at d
 have o:=qD (a:=(p.den:Int)) (by omega) c.2 b.2
 have f:0<=(p.num.natAbs:Int)*q.den:=γA (by omega) (by omega)
 have e:0<=(q.num.natAbs:Int)*p.den:=γA (by omega) (by omega)
 have g:0<(p.den:Int)*q.den:=εA (by omega) (by omega)
 have v:=vF p
 have u:=vF q
 refine⟨_,_,_,rfl,rfl,rfl,f,e,g,mG f k,mG e d,mG (by omega) ?_,?_,?_,mG (by omega) o,?_,?_,by push_cast;rfl⟩
 ·omega
 ·by_cases h:(p.num.natAbs:Int)*q.den - (q.num.natAbs:Int)*p.den<=0
  ·grind[Jd]
  ·exact mG (by omega) (by omega)
 ·by_cases h:(q.num.natAbs:Int)*p.den - (p.num.natAbs:Int)*q.den<=0
  ·grind[Jd]
  ·exact mG (by omega) (by omega)
 all_goals grind
theorem abJ {p q:Rat} {s:Bool} {n D:Int} (a:((p.den*q.den:Nat):Int)=D) (h:p.num*q.den+q.num*p.den=if s then -n else n):fE s n D=p+q:=by
 rw[Rx]
 grind[fE]
theorem DW {p:Rat} {k:Nat} (h:Sz k p) (c:k<=100000000):vE (bu p):=by
 obtain⟨_,⟨a,_,_⟩,⟨b,_,_⟩⟩:=nk p
 have:=qC h
 exact⟨⟨a,b⟩,by omega,by omega⟩
def i7 (p q:Rat):Int:=if p<q then -1 else if q<p then 1 else 0
def Ab:bM:=⟨117,bO×bO,.cons (eG sF) (.one (eG sF)),λa=>cY a.1/\cY a.2,λa=> .si .i64 (i7 (cj a.1) (cj a.2))⟩
theorem h97:Holds Tryz.prog Ab:=by
 refine cK (L:=[DU,xG]) Ab lk (by grind[h131,h132]) ?_
 rintro⟨x,y⟩ ⟨⟨p,i,t,w,S⟩,⟨q,j,r,o,T⟩⟩
 simp only at t r
 subst t r
 refine bR (let a:=(bu p).fst;let g:=γe .i64 (i7 (cj (bu p)) (cj (bu q)));let s:=λ(u:Bool) (c b:Rat) ↦let k:=cE (bk (bu c).snd.fst*bk (bu b).snd.snd);let l:=cE (bk (bu b).snd.fst*bk (bu c).snd.snd);a=u->((bA k/\bA l)/\k.length<=1000000000000/\l.length<=1000000000000)/\(γe .i64 (lQ (bk k) (bk l))).same g;((!a==(bu q).fst)=true->(a=true->(γq .i64 (-1:Int)).same g)/\(a=false->(γq .i64 1).same g))/\((!a==(bu q).fst)=false->(vE (a,(bu p).snd.fst,(bu p).snd.snd)/\vE ((bu q).fst,(bu q).snd.fst,(bu q).snd.snd))/\s true q p/\s false p q)) (by kernel_rfl) ?_
 conv=>zeta
 obtain⟨C,_,_⟩:=nk p
 obtain⟨P,_,_⟩:=nk q
 obtain⟨X,Y,D,E,M,hD,G,N,U,l1,l2,l3,l4,Z,V,B,A,W⟩:=Rz w o
 obtain⟨J,v,c3⟩:=gd G
 obtain⟨K,n,c6⟩:=gd N
 simp only[eW,E,M,J,K,C,P];simp only[vcs]
 have hl:p<q↔p.num*q.den<q.num*p.den:=Rat.lt_iff p q
 have R:q<p↔q.num*p.den<p.num*q.den:=Rat.lt_iff q p
 have O:=@Rat.num_nonneg p
 have H:=@Rat.num_nonneg q
 have m:∀{z:Int},(z=if p.num*q.den<q.num*p.den then -1 else if q.num*p.den<p.num*q.den then 1 else 0)->z=i7 p q:=λh=>by
  grind[i7]
 have Q:p<0->0<X:=λh=>by
  rw[if_pos (by simpa using h)] at B
  have f:p.num<0:=by grind
  have:=εv f (show(0:Int)<q.den by grind)
  omega
 have F:q<0->0<Y:=λh=>by
  rw[if_pos (by simpa using h)] at A
  have f:q.num<0:=by grind
  have:=εv f (show(0:Int)<p.den by grind)
  omega
 rw[B,A] at m
 refine⟨λI=>⟨λd=>?_,λd=>?_⟩,λhe=>⟨⟨DW w S,DW o T⟩,λd=>⟨⟨⟨n,v⟩,by omega,by omega⟩,?_⟩,λd=>⟨⟨⟨v,n⟩,by omega,by omega⟩,?_⟩⟩⟩
 ·grind
 ·grind
 ·apply m
  have e:q<0:=by
   grind
  simp only[decide_eq_true_eq,d,e,if_true,if_false];simp only[Int.neg_lt_neg_iff];rfl
 ·apply m
  have e:¬q<0:=λe=>by grind
  simp only[decide_eq_true_eq,d,e,if_true,if_false];rfl
def Ac:bM:=⟨153,bO×bO,.cons (eG sF) (.one (eG sF)),λa=>cY a.1/\cY a.2,λa=>qA (cj a.1+cj a.2)⟩
theorem h129:Holds Tryz.prog Ac:=by
 refine cK (L:=[DU,xM,zJ,Je,xO]) Ac lk (by grind[h131,h153,h154,h155,h126]) ?_
 rintro⟨x,y⟩ ⟨⟨p,i,J,w,S⟩,⟨q,j,E,B,hj⟩⟩
 simp only at J E
 subst J E
 refine bR (let h:=Φ;let j:=γK;let m:=(bu q).snd.snd;let f:=cE (bk (bu p).snd.fst*bk m);let t:=(bu p).snd.snd;let k:=cE (bk (bu q).snd.fst*bk t);let a:=cE (bk t*bk m);let g:=bn.i .u32;let z:=bu (cj (bu p)+cj (bu q));let o:=j [γI z.fst,h g z.snd.fst,h g z.snd.snd];let v:=(bu p).fst==(bu q).fst;let c:=cE (bk f+bk k);let d:=bu (fE (bu p).fst (bk c) (bk a));let I:=(bA f/\bA k)/\f.length<=100000000000/\k.length<=100000000000;let K:=λ(u r:Rat) ↦let e:=cE (bk (cE (bk (bu u).snd.fst*bk (bu r).snd.snd)) - bk (cE (bk (bu r).snd.fst*bk (bu u).snd.snd)));let b:=bu (fE (bu u).fst (bk e) (bk a));((bA e/\bA a)/\(e.length<=1000000000/\a.length<=1000000000)/\(0:Int)<bk a)/\(j [γI b.fst,h g b.snd.fst,h g b.snd.snd]).same o;let F:=λ(u:Bool) ↦decide (bk k<=bk f)=u;(vE ((bu p).fst,(bu p).snd.fst,t)/\vE ((bu q).fst,(bu q).snd.fst,m))/\((bA t/\bA m)/\γo t<=100000000000/\γo m<=100000000000)/\(v=true->I/\((bA c/\bA a)/\(c.length<=1000000000/\a.length<=1000000000)/\(0:Int)<bk a)/\(j [γI d.fst,h g d.snd.fst,h g d.snd.snd]).same o)/\(v=false->I/\(F true->K p q)/\(F false->((bA k/\bA f)/\k.length<=100000000000/\f.length<=100000000000)/\K q p))) (by kernel_rfl) ?_
 conv=>zeta
 obtain⟨O,⟨u1,_,_⟩,⟨u2,_,_⟩⟩:=nk p
 obtain⟨W,⟨u3,_,_⟩,⟨P,_,_⟩⟩:=nk q
 obtain⟨m1,m2⟩:=qC w
 obtain⟨m3,m4⟩:=qC B
 obtain⟨X,Y,D,T,Q,hD,U,R,C,l1,l2,l3,l4,l5,l6,n1,n2,n3⟩:=Rz w B
 obtain⟨N,H,c3⟩:=gd U
 obtain⟨c4,G,c6⟩:=gd R
 obtain⟨c7,V,c9⟩:=gd (γl C)
 obtain⟨s1,M,s3⟩:=gd (show 0<=X+Y by omega)
 simp only[eW,T,Q,hD,N,c4,c7,s1,O,W];simp only[vcs]
 have l:∀{s:Bool} {n:Int},(p.num*q.den+q.num*p.den=if s then -n else n)->(γK [.sb (bu (fE s n D)).1,.row (.i .u32) (bu (fE s n D)).2.1,.row (.i .u32) (bu (fE s n D)).2.2]).same (.agg [.sb (bu (p+q)).1,.row (.i .u32) (bu (p+q)).2.1,.row (.i .u32) (bu (p+q)).2.2]):=
  λh=>DV (abJ n3 h)
 rw[n1,n2] at l
 refine⟨⟨DW w S,DW B hj⟩,⟨⟨u2,P⟩,by omega,by omega⟩,λZ=>⟨⟨⟨H,G⟩,by omega,by omega⟩,⟨⟨M,V⟩,⟨by omega,by omega⟩,C⟩,l ?_⟩,λZ=>⟨⟨⟨H,G⟩,by omega,by omega⟩,λA=>?_,λA=>?_⟩⟩
 all_goals grind[gd]
def DX:bM:=⟨163,bO×bO,.cons (eG sF) (.one (eG sF)),λa=>cY a.1/\cY a.2,λa=>qA (cj a.1 - cj a.2)⟩
theorem h95:Holds Tryz.prog DX:=by
 refine cK (L:=[xQ,Ac]) DX lk (by grind[h130,h129]) ?_
 rintro⟨x,y⟩ ⟨⟨p,i,k,m,n⟩,⟨q,j,g,l,o⟩⟩
 simp only at k g
 subst k g
 refine bR (let g:=Φ;let b:=((bu q).fst,(bu q).snd.fst,(bu q).snd.snd);let e:=((bu p).fst,(bu p).snd.fst,(bu p).snd.snd);let h:=(bu (-cj b)).snd;let f:=((bu (-cj b)).fst,h.fst,h.snd);let d:=bu (cj e+cj f);let a:=bn.i .u32;let c:=bu (cj (bu p) - cj (bu q));cY b/\(cY e/\cY f)/\(γK [γI d.fst,g a d.snd.fst,g a d.snd.snd]).same (γK [γI c.fst,g a c.snd.fst,g a c.snd.snd])) (by kernel_rfl) ?_
 grind[cY,DL,DV,eW]
theorem Jk {a:List Int} (h:bA a) (c:fD a) (b:a≠[]):0<bk a:=by
 have:=eV h
 grind[val_zero]
def okF (x:bO):Bool:=decide (bu (cj x)=x)
theorem RA {n d:Int} (h:0<d):0<ef n d:=by
 simp_all[ef]
theorem abK {s:Bool} {n d:List Int} (h:okF (s,(n,d))=true):fD n/\fD d/\d≠[]:=by
 have h:=of_decide_eq_true h
 have b:=gd (show(0:Int)<=((cj (s,(n,d))).num.natAbs:Int) by omega)
 have a:=gd (show(0:Int)<=((cj (s,(n,d))).den:Int) by omega)
 have e:cE ((cj (s,(n,d))).num.natAbs:Int)=n:=congrArg (λx=>x.2.1) h
 have c:cE ((cj (s,(n,d))).den:Int)=d:=congrArg (λx=>x.2.2) h
 rw[e] at b;rw[c] at a
 refine⟨b.2.2,a.2.2,λf=>?_⟩
 have g:=a.1
 rw[f] at g
 have:=(cj (s,(n,d))).den_pos
 grind[bk]
theorem okF_eq {s:Bool} {n d:List Int} (e:bA n) (m:bA d) (l:fD n) (p:fD d) (b:d≠[]):
  okF (s,(n,d))=if n=[] then !s&&decide (d=[1]) else decide (ef (bk n) (bk d)=1):=by
 have c:=Jk m p b
 have r:=eV e
 have j:cj (s,(n,d))=mkRat (if s then -bk n else bk n) (bk d).toNat:=rfl
 have o:=@Rw s (bk n) (bk d) r c
 have u:=@RA (bk n) (bk d) c
 unfold okF;rw[j,o]
 by_cases a:n=[]
 ·rw[if_pos a,a]
  have i:ef (bk []) (bk d)=bk d:=by unfold ef;simp[bk];omega
  have k:cE (bk d / ef (bk []) (bk d))=[1]:=by rw[i,Int.ediv_self (by omega)];rfl
  have f:cE (bk [] / ef (bk []) (bk d))=[]:=by
   have:bk []=0:=rfl
   rw[this,Int.zero_ediv];rfl
  rw[k,f]
  have v:decide (0<bk [])=false:=rfl
  grind
 ·rw[if_neg a]
  have q:=Jk e l a
  rw[decide_eq_true (show 0<bk n from q),Bool.and_true];rw[ε5,decide_eq_true_eq,decide_eq_true_eq]
  constructor
  ·intro h
   injection h with h1 h2;injection h2 with h2 h3
   have g:=(gd (show 0<=bk d / ef (bk n) (bk d) from εa (by omega) (by omega))).1
   rw[h3] at g
   by_cases t:ef (bk n) (bk d)=1
   ·exact t
   ·have:=Int.ediv_lt_self_of_pos_of_ne_one c (by omega:ef (bk n) (bk d)≠1)
    omega
  grind[zI]
theorem abL {l:List Int} (h:l.length=0\/bj l (l.length - 1) 0≠0):fD l:=by
 rcases h with h|h
 ·rw[Ψ h];trivial
 ·by_cases b:l.length=0
  ·rw[Ψ b];trivial
  ·have c:=Dz (a:=l) (n:=l.length - 1) (by omega)
   grind[IQ]
def sG (a:List Int):Bool:=decide (a.length=0)||decide (bj a (a.length - 1) 0≠0)
theorem uh {a:List Int}:sG a=true↔fD a:=by
 unfold sG;rw[Bool.or_eq_true,decide_eq_true_eq,decide_eq_true_eq]
 constructor
 ·exact abL
 ·intro h
  by_cases e:a.length=0
  ·exact .inl e
  ·right
   have b:=Dz (a:=a) (n:=a.length - 1) (by omega)
   rw[show a.length - 1+1=a.length by omega,χ] at b
   have:∀{l:List Int} {x:Int},fD (l++[x])->x≠0:=by
    intro l x
    induction l with
    |nil=>intro h;exact h.1 rfl
    |cons d l c=>intro h;exact c h.2
   grind
theorem RB (p q:Rat):(if(!(decide (p<0)==decide (q<0)))=true then -((p.num.natAbs:Int)*(q.num.natAbs:Int)) else(p.num.natAbs:Int)*(q.num.natAbs:Int))=p.num*q.num:=by
 have a:=vF p
 have b:=vF q
 grind
theorem RD (p q:Rat):fE (!(decide (p<0)==decide (q<0))) ((p.num.natAbs:Int)*(q.num.natAbs:Int)) ((p.den:Int)*(q.den:Int))=p*q:=by
 unfold fE
 rw[RB,show((p.den:Int)*(q.den:Int)).toNat=p.den*q.den by omega,δH]
 have a:(p.num:Rat) / (p.den:Rat)=p:=by rw[<-δH,δ4]
 have b:(q.num:Rat) / (q.den:Rat)=q:=by rw[<-δH,δ4]
 grind
theorem RE {p q:Rat} (a:q≠0):fE (!(decide (p<0)==decide (q<0))) ((p.num.natAbs:Int)*(q.den:Int)) ((p.den:Int)*(q.num.natAbs:Int))=p / q:=by
 unfold fE
 rw[show((p.den:Int)*(q.num.natAbs:Int)).toNat=p.den*q.num.natAbs by omega,δH]
 have k:(p.num:Rat) / (p.den:Rat)=p:=by rw[<-δH,δ4]
 have d:(q.num:Rat) / (q.den:Rat)=q:=by rw[<-δH,δ4]
 have m:(p.den:Rat)≠0:=by have:=p.den_nz;simp_all
 have o:(q.den:Rat)≠0:=by grind
 have e:=vF p
 have g:=vF q
 have n:(q.num:Rat)≠0:=λh=>a (by grind)
 rw[Rat.natCast_mul]
 conv=>rhs;rw[<-k,<-d]
 have f:((p.num.natAbs:Int):Rat)=(p.num.natAbs:Rat):=ε7 _
 have c:((q.num.natAbs:Int):Rat)=(q.num.natAbs:Rat):=ε7 _
 have i:((q.den:Int):Rat)=(q.den:Rat):=ε7 _
 have j:(p.num:Rat)=if decide (p<0)=true then -(p.num.natAbs:Rat) else(p.num.natAbs:Rat):=by
  rw[<-f];conv=>lhs;rw[e]
  split<;>grind
 have b:(q.num:Rat)=if decide (q<0)=true then -(q.num.natAbs:Rat) else(q.num.natAbs:Rat):=by
  rw[<-c];conv=>lhs;rw[g]
  split<;>grind
 have l:((if(!(decide (p<0)==decide (q<0)))=true then -((p.num.natAbs:Int)*(q.den:Int)) else(p.num.natAbs:Int)*(q.den:Int):Int):Rat)=if(!(decide (p<0)==decide (q<0)))=true then -((p.num.natAbs:Rat)*(q.den:Rat)) else(p.num.natAbs:Rat)*(q.den:Rat):=by
  split<;>grind
 grind
def DY:bM:=⟨219,bO×bO,.cons (eG sF) (.one (eG sF)),λa=>cY a.1/\cY a.2,λa=>qA (cj a.1*cj a.2)⟩
theorem h410:Holds Tryz.prog DY:=by
 refine cK (L:=[xM,xO]) DY lk (by grind[h153,h126]) ?_
 rintro⟨x,y⟩ ⟨⟨p,i,n,f,M⟩,⟨q,j,o,l,G⟩⟩
 simp only at n o
 subst n o
 refine bR (let f:=Φ;let c:=(bu p).snd.fst;let k:=(bu q).snd.fst;let g:=(bu p).snd.snd;let h:=(bu q).snd.snd;let m:=cE (bk c*bk k);let b:=cE (bk g*bk h);let d:=bu (fE (!(bu p).fst==(bu q).fst) (bk m) (bk b));let a:=bn.i .u32;let e:=bu (cj (bu p)*cj (bu q));((bA c/\bA k)/\γo c<=100000000000/\γo k<=100000000000)/\((bA g/\bA h)/\γo g<=100000000000/\γo h<=100000000000)/\((bA m/\bA b)/\(m.length<=1000000000/\b.length<=1000000000)/\(0:Int)<bk b)/\(γK [γI d.fst,f a d.snd.fst,f a d.snd.snd]).same (γK [γI e.fst,f a e.snd.fst,f a e.snd.snd])) (by kernel_rfl) ?_
 conv=>zeta
 obtain⟨t,⟨P,_,s⟩,⟨E,_,v⟩⟩:=nk p
 obtain⟨u,⟨J,_,z⟩,⟨I,_,A⟩⟩:=nk q
 obtain⟨D,F⟩:=qC f
 obtain⟨O,N⟩:=qC l
 have C:=p.den_pos
 have K:=q.den_pos
 rw[s,v,z,A,t,u,eW,eW]
 have r:0<=(p.num.natAbs:Int)*(q.num.natAbs:Int):=γA (by omega) (by omega)
 have w:0<(p.den:Int)*(q.den:Int):=εA (by omega) (by omega)
 have H:=mG r (qD (by omega) f.1 l.1)
 have B:=mG (γl w) (qD (by omega) f.2 l.2)
 grind[gd,DV,RD]
def DZ:bM:=⟨231,bO×bO,.cons (eG sF) (.one (eG sF)),λa=>(cY a.1/\cY a.2)/\cj a.2≠0,λa=> .bH [qA (cj a.1 / cj a.2),.si .i64 0]⟩
theorem h416:Holds Tryz.prog DZ:=by
 refine cK (L:=[xM,Aa]) DZ lk (by grind[h153,h151]) ?_
 rintro⟨x,y⟩ ⟨⟨⟨p,i,v,f,X⟩,⟨q,j,u,m,Q⟩⟩,a⟩
 simp only at v u a
 subst v u
 refine bR (let a:=Φ;let g:=(bu p).snd.fst;let d:=(bu q).snd.snd;let r:=(bu p).snd.snd;let e:=(bu q).snd.fst;let k:=cE (bk g*bk d);let c:=cE (bk r*bk e);let l:=bu (fE (!(bu p).fst==(bu q).fst) (bk k) (bk c));let b:=bn.i .u32;let t:=[γe .i64 0];let o:=bu (cj (bu p) / cj (bu q));((bA g/\bA d)/\γo g<=100000000000/\γo d<=100000000000)/\((bA r/\bA e)/\γo r<=100000000000/\γo e<=100000000000)/\((bA k/\bA c)/\(k.length<=1000000000/\c.length<=1000000000)/\(0:Int)<bk c)/\(SV.bH (γK [γI l.fst,a b l.snd.fst,a b l.snd.snd]::t)).same (SV.bH (γK [γI o.fst,a b o.snd.fst,a b o.snd.snd]::t))) (by kernel_rfl) ?_
 conv=>zeta
 rw[eW] at a
 obtain⟨E,⟨C,_,M⟩,⟨K,_,I⟩⟩:=nk p
 obtain⟨B,⟨z,_,J⟩,⟨F,_,A⟩⟩:=nk q
 obtain⟨V,O⟩:=qC f
 obtain⟨S,W⟩:=qC m
 have T:=p.den_pos
 have Z:=q.den_pos
 have R:q.num≠0:=λh=>a (ζI.1 h)
 rw[M,I,J,A,E,B,eW,eW]
 have s:0<=(p.num.natAbs:Int)*(q.den:Int):=γA (by omega) (by omega)
 have n:0<(p.den:Int)*(q.num.natAbs:Int):=εA (by omega) (by omega)
 have Y:=mG s (qD (by omega) f.1 m.2)
 have N:=mG (γl n) (qD (by omega) f.2 m.1)
 obtain⟨G,H,P⟩:=gd s
 obtain⟨w,D,U⟩:=gd (γl n)
 rw[G,w,RE a]
 refine⟨⟨⟨C,F⟩,?_,?_⟩,⟨⟨K,z⟩,?_,?_⟩,⟨⟨H,D⟩,⟨?_,?_⟩,n⟩,rfl⟩<;>omega
def Jl:bM:=⟨196,List Int,.one (dN (.i .u32)),λa=>bA (show List Int from a)/\(show List Int from a).length<=1000000000,λa=> .sb (sG a)⟩
theorem h414:Holds Tryz.prog Jl:=by
 refine cK (L:=[ry]) Jl lk (by grind[h152]) ?_
 rintro(a:List Int) h
 refine bR (a.length<=1000000000000/\(γI (decide ((↑(bI a).length:Int)=(↑a.length:Int)))).same (γI (sG a))) (by kernel_rfl) ?_
 simp only[vcs]
 obtain⟨f,d⟩:bA a/\a.length<=1000000000:=h
 refine⟨by omega,?_⟩
 cases c:sG a with
 |true=>
  grind[qs,zI,uh]
 |false=>
  refine decide_eq_false λb=>?_
  have e:bI a=a:=by
   unfold bI at b ⊢;rw[Ξ] at b
   exact List.take_of_length_le (by omega)
  grind[rA,uh]
def Jm:bM:=⟨197,bO,.one (eG sF),λx=>x.2.1.length<=1000000000,λx=> .agg [.sb x.1,.sb (decide (x.2.1=[]))]⟩
theorem h415:Holds Tryz.prog Jm:=by
 refine cK (L:=[]) Jm lk (by simp) ?_
 rintro⟨s,n,d⟩ h
 refine bR (let a:=γI;(γK [a s,a (decide ((↑n.length:Int)=(0:Int)))]).same (γK [a s,a (decide (n=[]))])) (by kernel_rfl) ?_
 have e:decide ((n.length:Int)=0)=decide (n=[]):=by
  simp_all
 rw[e];rfl
def xR:bM:=⟨160,bO,.one (eG sF),λx=>(bA x.2.1/\bA x.2.2)/\x.2.1.length<=1000000/\x.2.2.length<=1000000,λx=> .sb (okF x)⟩
theorem h407:Holds Tryz.prog xR:=by
 refine cK (L:=[Jl,Jm,DR,xN,xG]) xR lk (by grind[h414,h415,h165g,h128,h132]) ?_
 rintro⟨s,n,d⟩ ⟨⟨m,f⟩,j,k⟩
 refine bR (let a:=SV.bl false;let b:=(0:Int);let c:=(1:Int);let l:=γI (okF (s,n,d));let w:=decide ((↑d.length:Int)=b);let x:=s==true&&(decide (n=[])==true&&true);let p:=cE (ef (bk n) (bk d));let t:=cE c;(bA n/\n.length<=1000000000)/\((!sG n)=true->(a).same l)/\((!sG n)=false->(bA d/\d.length<=1000000000)/\((!sG d)=true->(a).same l)/\((!sG d)=false->(w=true->(a).same l)/\(w=false->n.length<=1000000000/\(x=true->(a).same l)/\(x=false->((bA n/\bA d)/\n.length<=1000000000/\d.length<=1000000000)/\(b<=c/\c<(18446744073709551616:Int))/\((bA p/\bA t)/\p.length<=1000000000000/\t.length<=1000000000000)/\(γI (decide (lQ (bk p) (bk t)=b))).same l))))) (by kernel_rfl) ?_
 simp only[vcs]
 have m:bA n:=m
 have f:bA d:=f
 have j:n.length<=1000000:=j
 have k:d.length<=1000000:=k
 have c:¬(fD n/\fD d/\d≠[])->false=okF (s,n,d):=λh=>by
  grind[abK]
 have e:∀{a:List Int},((a.length:Nat):Int)=0->a=[]:=λh=>Ψ (by omega)
 have b:∀{a:List Int},¬((a.length:Nat):Int)=0->a≠[]:=λh i=>h (by rw[i];rfl)
 refine⟨⟨m,by omega⟩,λu=>c λh=>?_,λu=>⟨⟨f,by omega⟩,λi=>c λh=>?_,λi=>⟨λo=>c λh=>h.2.2 (e o),λo=>⟨by omega,λC=>?_,λC=>?_⟩⟩⟩⟩
 ·grind[uh]
 ·grind[uh]
 all_goals
  have E:=okF_eq (s:=s) m f (uh.1 u) (uh.1 i) (b o)
  have D:=Jk f (uh.1 i) (b o)
  have J:=@RA (bk n) (bk d) D
  obtain⟨H,v,A⟩:=gd (show 0<=ef (bk n) (bk d) by omega)
  obtain⟨B,G,I⟩:=gd (show(0:Int)<=1 by omega)
  have y:ef (bk n) (bk d)<=bk d:=by
   unfold ef
   have:=ζY (bk n).toNat (show 0<(bk d).toNat by omega)
   omega
  rw[E]
 ·simp_all
 ·have F:=Jj v f A (by omega)
  refine⟨⟨⟨m,f⟩,by omega,by omega⟩,by omega,⟨⟨v,G⟩,by omega,by decide⟩,?_⟩
  rw[H,B]
  have r:(lQ (ef (bk n) (bk d)) 1=0)=(ef (bk n) (bk d)=1):=by
   grind[lQ]
  simp only[r]
  by_cases g:n=[]
  ·rw[if_pos g]
   have z:s=false:=by
    simp_all
   have q:ef (bk n) (bk d)=bk d:=by
    rw[g];unfold ef;simp[bk];omega
   rw[q,z,Bool.not_false,Bool.true_and,decide_eq_decide]
   constructor
   ·intro h
    rw[<-zI f (uh.1 i),h];rfl
   ·intro h
    rw[h];rfl
  ·rw[if_neg g]
theorem Ad {p q:Rat} {i j:Nat} (b:Sz i p) (a:Sz j q):Sz (i+j) (p*q):=by
 rw[<-RD];unfold fE;rw[RB]
 have c:=p.den_pos
 have d:=q.den_pos
 have e:0<(p.den:Int)*(q.den:Int):=εA (by omega) (by omega)
 refine zY (by omega) ?_ ?_
 ·rw[εu,Int.natCast_mul]
  exact qD (by omega) b.1 a.1
 ·rw[εB (by omega)]
  exact qD (by omega) b.2 a.2
theorem Jn {p q:Rat} {i j:Nat} (c:Sz i p) (b:Sz j q) (d:q≠0):Sz (i+j) (p / q):=by
 rw[<-RE d];unfold fE
 have e:=p.den_pos
 have f:=q.den_pos
 have l:q.num≠0:=λh=>d (ζI.1 h)
 have k:0<(p.den:Int)*(q.num.natAbs:Int):=εA (by omega) (by omega)
 have g:=qD (a:=(p.num.natAbs:Int)) (by omega) c.1 b.2
 refine zY (by omega) ?_ ?_
 ·grind
 ·rw[εB (by omega)]
  exact qD (by omega) c.2 b.1
theorem abM {p q:Rat}:0<i7 p q↔q<p:=by
 grind[i7]
theorem abN {p q:Rat}:i7 p q=0↔p=q:=by
 grind[i7]
def wed (c:Nat->Rat):(List Nat->Rat)->List Nat->Rat
 |_,[]=>0
 |f,i::R=>c i*f R - wed c (λl=>f (i::l)) R
theorem Jo {c:Nat->Rat}:∀{R:List Nat},wed c (λ_=>0) R=0
 |[]=>rfl
 |i::R=>by simp only[wed,Jo];grind
theorem Jp {c:Nat->Rat} {p q:Rat}:∀{R:List Nat} {f g:List Nat->Rat},wed c (λl=>p*f l+q*g l) R=p*wed c f R+q*wed c g R
 |[],_,_=>by grind[wed]
 |i::R,f,g=>by
  simp only[wed,@Jp c p q R]
  grind
theorem RF {c d:Nat->Rat} {p q:Rat}:∀{R:List Nat} {f:List Nat->Rat},wed (λi=>p*c i+q*d i) f R=p*wed c f R+q*wed d f R
 |[],_=>by grind[wed]
 |i::R,f=>by
  simp only[wed,@RF c d p q R]
  grind
theorem RG {c:Nat->Rat} {p:Rat} {R:List Nat} {f g:List Nat->Rat}:wed c (λl=>p*f l - g l) R=p*wed c f R - wed c g R:=by
 have:=@Jp c p (-1) R f g
 grind
theorem Jq {a b:Nat->Rat}:∀{R:List Nat} {f:List Nat->Rat},wed a (wed b f) R= - wed b (wed a f) R
 |[],_=>by grind[wed]
 |i::R,f=>by
  have d:wed a (λl=>wed b f (i::l)) R=b i*wed a f R - wed a (wed b λl=>f (i::l)) R:=RG
  have c:wed b (λl=>wed a f (i::l)) R=a i*wed b f R - wed b (wed a λl=>f (i::l)) R:=RG
  have h:=@Jq a b R λl=>f (i::l)
  grind[wed]
theorem abO {a:Nat->Rat} {f:List Nat->Rat}:wed a (wed a f)=λ_=>0:=by
 grind[Jq]
def xT (R:List Nat):Rat:=if R=[] then 1 else 0
def jH (cs:List (Nat->Rat)):List Nat->Rat:=cs.foldr wed xT
theorem RI {c:Nat->Rat} {cs:List (Nat->Rat)}:jH (c::cs)=wed c (jH cs):=rfl
theorem RJ {a:Nat->Rat}:∀{cs:List (Nat->Rat)} {f:List Nat->Rat},wed a (cs.foldr wed (wed a f))=λ_=>0
 |[],f=>abO
 |c::cs,f=>by
  funext R
  simp only[ε8];rw[Jq,@RJ a cs f,Jo];rfl
theorem fold_zero:∀{cs:List (Nat->Rat)},cs.foldr wed (λ_=>0)=λ_=>0
 |[]=>rfl
 |c::cs=>by
  rw[ε8,fold_zero]
  grind[Jo]
theorem RL {a:Nat->Rat} {p m q:List (Nat->Rat)}:jH (p++a::(m++a::q))=λ_=>0:=by
 grind[jH,RJ,fold_zero]
theorem RN {p q:Rat}:∀{cs:List (Nat->Rat)} {f g:List Nat->Rat} {R:List Nat},cs.foldr wed (λl=>p*f l+q*g l) R=p*cs.foldr wed f R+q*cs.foldr wed g R
 |[],_,_,_=>rfl
 |c::cs,f,g,R=>by
  simp only[ε8];rw[<-Jp]
  congr 1
  funext l
  exact RN
theorem RO {c d:Nat->Rat} {p q:Rat} {a b:List (Nat->Rat)} {R:List Nat}:jH (a++(λi=>p*c i+q*d i)::b) R=p*jH (a++c::b) R+q*jH (a++d::b) R:=by
 unfold jH;simp only[List.foldr_append,ε8];rw[<-RN]
 have e:wed (λi=>p*c i+q*d i) (ζ3 wed xT b)=λl=>p*wed c (ζ3 wed xT b) l+q*wed d (ζ3 wed xT b) l:=by
  grind[RF]
 rw[e]
def eM (M:Nat) (q:Rat):Prop:=∃z:Int,q=(z:Rat)/\z.natAbs<=M
theorem RP {c:Nat->Rat} {M K:Nat}:∀{R:List Nat} {f:List Nat->Rat},(∀i∈R,eM M (c i))->(∀l,l.length+1=R.length->(∀i∈l,i∈R)->eM K (f l))->eM (R.length*(M*K)) (wed c f R)
 |[],_,_,_=>⟨0,by simp[wed],by simp⟩
 |i::R,f,e,g=>by
  simp only[wed,γv]
  obtain⟨y,q,h⟩:=@RP c M K R (λl=>f (i::l)) (λj a=>e j (by simp[a])) λl n p=>g _ (by simp_all) λj a=>by
   grind
  obtain⟨u,o,b⟩:=e i (by simp)
  obtain⟨v,k,d⟩:=g R (by simp) λj a=>by simp[a]
  refine⟨u*v - y,?_,?_⟩
  ·simp_all
  ·have m:(u*v).natAbs<=M*K:=by
    rw[εu]
    exact Nat.mul_le_mul b d
   grind
def nn (M:Nat):Nat->Nat
 |0=>1
 |n+1=>(n+1)*(M*nn M n)
theorem D1 {M:Nat}:∀{cs:List (Nat->Rat)} {R:List Nat},cs.length=R.length->(∀c∈cs,∀i∈R,eM M (c i))->eM (nn M R.length) (jH cs R)
 |[],R,b,_=>by
  have:R=[]:=Ψ (by simp_all)
  subst this
  exact⟨1,by simp[jH,xT],by simp[nn]⟩
 |c::cs,R,b,e=>by
  rw[RI]
  cases R with
  |nil=>simp at b
  |cons i R=>
   simp only[γv,nn]
   refine RP (e c (by simp)) λl a g=>?_
   simp only[γv] at b a
   rw[show R.length=l.length by omega]
   exact D1 (by omega) λd f j h=>e d (by simp[f]) j (g j h)
def xU (k:Nat):Nat->Rat:=λi=>if i=k then 1 else 0
theorem RR {c:Nat->Rat}:∀{R:List Nat} {f:List Nat->Rat},(∀i∈R,c i=0)->wed c f R=0
 |[],_,_=>rfl
 |i::R,f,h=>by
  simp only[wed]
  rw[h i (by simp),RR λj a=>h j (by simp[a])]
  grind
theorem RS:∀{R:List Nat},R.Nodup->jH (R.map xU) R=1
 |[],_=>by simp[jH,xT]
 |i::R,h=>by
  rw[List.nodup_cons] at h;rw[List.map_cons,RI];simp only[wed]
  rw[RR (c:=xU i) (R:=R) λj a=>by
   unfold xU
   grind]
  rw[RS h.2];unfold xU
  grind
def cu (n:Nat) (f:Nat->Rat):Rat:=match n with
 |0=>0
 |n+1=>cu n f+f n
theorem dY:∀{n:Nat} {f g:Nat->Rat},(∀i,i<n->f i=g i)->cu n f=cu n g
 |0,_,_,_=>rfl
 |n+1,f,g,h=>by simp only[cu];rw[dY λi a=>h i (by omega),h n (by omega)]
theorem Ae:∀{n:Nat} {f g:Nat->Rat},cu n (λi=>f i+g i)=cu n f+cu n g
 |0,_,_=>by grind[cu]
 |n+1,f,g=>by simp only[cu];rw[Ae];grind
theorem Af {c:Rat}:∀{n:Nat} {f:Nat->Rat},cu n (λi=>c*f i)=c*cu n f
 |0,_=>by grind[cu]
 |n+1,f=>by simp only[cu];rw[Af];grind
theorem kD:∀{n:Nat},cu n (λ_=>0)=0
 |0=>rfl
 |n+1=>by simp only[cu];rw[kD];grind
theorem vG {k:Nat} {x:Rat}:∀{n:Nat},cu n (λi=>if i=k then x else 0)=if k<n then x else 0
 |0=>by simp[cu]
 |n+1=>by
  simp only[cu];rw[vG]
  grind
theorem D2 {n k:Nat} {f:Nat->Rat} (h:k<n):cu n f=f k+cu n λi=>if i=k then 0 else f i:=by
 have a:=@vG k (f k) n
 rw[if_pos h] at a;rw[<-a,<-Ae]
 grind[dY]
theorem RU {a b:List (Nat->Rat)} {R:List Nat} {y:Nat->Rat} {T:Nat->Nat->Rat}:∀{n:Nat},jH (a++(λi=>cu n λk=>y k*T k i)::b) R=cu n λk=>y k*jH (a++T k::b) R
 |0=>by
  have e:(λi:Nat=>cu 0 λk=>y k*T k i)=λi=>(0:Rat)*(λ_=>0) i+0*(λ_=>0) i:=by grind[cu]
  rw[e,RO]
  grind[cu]
 |n+1=>by
  have e:(λi:Nat=>cu (n+1) λk=>y k*T k i)=λi=>(1:Rat)*(λi=>cu n λk=>y k*T k i) i+y n*T n i:=by
   grind[cu]
  rw[e,RO,RU]
  grind[cu]
theorem abP {C:List (Nat->Rat)} {R:List Nat} {y:Nat->Rat} {r:Nat} (f:r<C.length):jH (C.set r (λi=>cu C.length λk=>y k*(C.getD k (λ_=>0)) i)) R=y r*jH C R:=by
 have a:∀c:Nat->Rat,C.set r c=C.take r++c::C.drop (r+1):=λc=>by rw[εK,if_pos f]
 rw[a,RU,D2 f]
 have m:∀k,k<C.length->(if k=r then(0:Rat) else y k*jH (C.take r++C.getD k (λ_=>0)::C.drop (r+1)) R)=0:=by
  intro k g;split
  ·rfl
  ·rename_i e
   have o:jH (C.take r++C.getD k (λ_=>0)::C.drop (r+1)) R=0:=by
    have n:C.getD k (λ_=>0)=C[k]:=by simp_all
    rw[n]
    rcases Nat.lt_or_gt_of_ne e with h|h
    ·have j:C.take r=C.take k++C[k]::(C.drop (k+1)).take (r - (k+1)):=by
      have b:C[k]::C.drop (k+1)=C.drop k:=ζC g
      obtain⟨d,rfl⟩:∃d,r=k+(d+1):=⟨r - (k+1),by omega⟩
      rw[List.take_add,<-b,List.take_succ_cons,show k+(d+1) - (k+1)=d by omega]
     grind[RL]
    ·have j:C.drop (r+1)=(C.drop (r+1)).take (k - (r+1))++C[k]::C.drop (k+1):=by
      have b:C[k]::C.drop (k+1)=C.drop k:=ζC g
      rw[b]
      have l:=γc (k - (r+1)) (C.drop (r+1))
      rw[γV,show r+1+(k - (r+1))=k by omega] at l
      exact l.symm
     rw[j,RL]
   simp_all
 rw[dY m,kD]
 have b:C.take r++C.getD r (λ_=>0)::C.drop (r+1)=C:=by
  simp_all
 rw[b]
 grind
structure Tb where
 ca:List (List Rat)
 bound:List Rat
 cost:List Rat
 value:Rat
 basic:List Int
 free:List Int
namespace Tb
def cf (t:Tb) (i j:Nat):Rat:=bj (bj t.ca i []) j 0
def bd (t:Tb) (i:Nat):Rat:=bj t.bound i 0
def cs (t:Tb) (j:Nat):Rat:=bj t.cost j 0
def bv (t:Tb) (i:Nat):Int:=bj t.basic i 0
def fv (t:Tb) (j:Nat):Int:=bj t.free j 0
structure WF (n m:Nat) (t:Tb):Prop where
 ca:t.ca.length=m
 row:∀i,i<m->(bj t.ca i []).length=n
 bound:t.bound.length=m
 cost:t.cost.length=n
 basic:t.basic.length=m
 free:t.free.length=n
def holds (n m:Nat) (t:Tb) (x:Int->Rat) (z:Rat):Prop:=
 (∀i,i<m->x (t.bv i)+cu n (λj=>t.cf i j*x (t.fv j))=t.bd i)/\z=t.value+cu n λj=>t.cs j*x (t.fv j)
end Tb
def j5 (l:List Rat) (c:Nat) (p:List Rat):List Rat:=(τ l.length).map λj=>if j=c then -(bj l c 0*bj p j 0) else bj l j 0 - bj l c 0*bj p j 0
def kE (l:List Rat) (c:Nat):List Rat:=(τ l.length).map λj=>if j=c then 1 / bj l c 0 else bj l j 0*(1 / bj l c 0)
def fF (t:Tb) (r c:Nat):Tb where
 ca:=(τ t.ca.length).map λi=>if i=r then kE (bj t.ca r []) c else j5 (bj t.ca i []) c (kE (bj t.ca r []) c)
 bound:=(τ t.bound.length).map λi=>if i=r then t.bd r*(1 / t.cf r c) else t.bd i - t.cf i c*(t.bd r*(1 / t.cf r c))
 cost:=j5 t.cost c (kE (bj t.ca r []) c)
 value:=t.value+t.cs c*(t.bd r*(1 / t.cf r c))
 basic:=t.basic.set r (t.fv c)
 free:=t.free.set c (t.bv r)
theorem qE {a:Type} {f:Nat->a} {n i:Nat} {d:a} (h:i<n):bj ((τ n).map f) i d=f i:=by
 grind[cO]
theorem sH {a:Type} {l:List a} {r i:Nat} {x d:a} (h:r<l.length):bj (l.set r x) i d=if i=r then x else bj l i d:=by
 unfold bj
 grind
section
variable {n m:Nat} {t:Tb} {r c:Nat}
theorem RV {l:List Rat}:(kE l c).length=l.length:=by simp[kE]
theorem D3 {l p:List Rat}:(j5 l c p).length=l.length:=by simp[j5]
theorem Jr {l:List Rat} {j:Nat} (h:j<l.length):bj (kE l c) j 0=if j=c then 1 / bj l c 0 else bj l j 0*(1 / bj l c 0):=qE h
theorem D4 {l p:List Rat} {j:Nat} (h:j<l.length):bj (j5 l c p) j 0=if j=c then -(bj l c 0*bj p j 0) else bj l j 0 - bj l c 0*bj p j 0:=qE h
theorem RX (h:t.WF n m):(fF t r c).WF n m where
 ca:=by simp[fF,h.ca]
 row i a:=by
  simp only[fF]
  rw[qE (by rw[h.ca];exact a)]
  split
  ·rename_i e;subst e;rw[RV,h.row _ a]
  ·rw[D3,h.row _ a]
 bound:=by simp[fF,h.bound]
 cost:=by simp only[fF];rw[D3,h.cost]
 basic:=by simp[fF,h.basic]
 free:=by simp[fF,h.free]
theorem Ag (h:t.WF n m) (b:r<m) (e:c<n) {i j:Nat} (d:i<m) (a:j<n):(fF t r c).cf i j=
  if i=r then(if j=c then 1 / t.cf r c else t.cf r j*(1 / t.cf r c)) else if j=c then -(t.cf i c*(1 / t.cf r c)) else t.cf i j - t.cf i c*(t.cf r j*(1 / t.cf r c)):=by
 unfold Tb.cf;simp only[fF]
 rw[qE (by rw[h.ca];exact d)]
 split
 ·rw[Jr (by rw[h.row _ b];exact a)]
 ·rw[D4 (by rw[h.row _ d];exact a)]
  rw[Jr (by rw[h.row _ b];exact a)]
  simp_all
theorem D5 (h:t.WF n m) {i:Nat} (a:i<m):(fF t r c).bd i=if i=r then t.bd r*(1 / t.cf r c) else t.bd i - t.cf i c*(t.bd r*(1 / t.cf r c)):=by
 show bj _ i 0=_
 simp only[fF]
 rw[qE (by rw[h.bound];exact a)]
theorem RY (h:t.WF n m) (b:r<m) {j:Nat} (a:j<n):(fF t r c).cs j=if j=c then -(t.cs c*(1 / t.cf r c)) else t.cs j - t.cs c*(t.cf r j*(1 / t.cf r c)):=by
 show bj _ j 0=_
 simp only[fF]
 rw[D4 (by rw[h.cost];exact a),Jr (by rw[h.row _ b];exact a)]
 split
 ·rfl
 ·rfl
theorem Js (h:t.WF n m) (a:r<m) {i:Nat}:(fF t r c).bv i=if i=r then t.fv c else t.bv i:=sH (by rw[h.basic];exact a)
theorem Jt (h:t.WF n m) (a:c<n) {j:Nat}:(fF t r c).fv j=if j=c then t.bv r else t.fv j:=sH (by rw[h.free];exact a)
theorem piv_holds (h:t.WF n m) (b:r<m) (k:c<n) (K:t.cf r c≠0) {x:Int->Rat} {z:Rat}:(fF t r c).holds n m x z↔t.holds n m x z:=by
 have d:∀f:Nat->Rat,cu n (λj=>f j*x (t.fv j))=f c*x (t.fv c)+cu n (λj=>if j=c then 0 else f j*x (t.fv j)):=λf=>D2 k
 have e:∀f:Nat->Rat,cu n (λj=>f j*x ((fF t r c).fv j))=f c*x (t.bv r)+cu n (λj=>if j=c then 0 else f j*x (t.fv j)):=λf=>by
  rw[D2 k,Jt h k,if_pos rfl]
  congr 1
  refine dY λj _=>?_
  split
  ·rfl
  ·rename_i p;rw[Jt h k,if_neg p]
 have I:cu n (λj=>if j=c then 0 else(fF t r c).cf r j*x (t.fv j))=(1 / t.cf r c)*cu n (λj=>if j=c then 0 else t.cf r j*x (t.fv j)):=by
  rw[<-Af]
  refine dY λj p=>?_
  split
  ·grind
  ·rename_i l
   rw[Ag h b k b p,if_pos rfl,if_neg l]
   grind
 have E:∀f g:Nat->Rat,∀q:Rat,(∀j,j<n->j≠c->g j=f j - q*(t.cf r j*(1 / t.cf r c)))->cu n (λj=>if j=c then 0 else g j*x (t.fv j))=cu n (λj=>if j=c then 0 else f j*x (t.fv j))+(-(q*(1 / t.cf r c)))*cu n (λj=>if j=c then 0 else t.cf r j*x (t.fv j)):=λf g q L=>by
  rw[<-Af,<-Ae]
  refine dY λj p=>?_
  grind
 have J:∀j,j<n->j≠c->(fF t r c).cs j=t.cs j - t.cs c*(t.cf r j*(1 / t.cf r c)):=λj p l=>by rw[RY h b p,if_neg l]
 have B:∀i,i<m->i≠r->∀j,j<n->j≠c->(fF t r c).cf i j=t.cf i j - t.cf i c*(t.cf r j*(1 / t.cf r c)):=λi o a j p l=>by rw[Ag h b k o p,if_neg a,if_neg l]
 have G:=E t.cs _ _ J
 have v:=RY (c:=c) h b k
 rw[if_pos rfl] at v
 have s:=Ag h b k b k
 rw[if_pos rfl,if_pos rfl] at s
 have w:=D5 (r:=r) (c:=c) h b
 rw[if_pos rfl] at w
 have u:=Js (c:=c) (i:=r) h b
 rw[if_pos rfl] at u
 have H:(fF t r c).value=t.value+t.cs c*(t.bd r*(1 / t.cf r c)):=rfl
 unfold Tb.holds
 constructor
 ·rintro⟨A,F⟩
  have C:=A r b
  rw[e,I,s,u,w] at C
  refine⟨λi o=>?_,?_⟩
  ·by_cases a:i=r
   ·subst a
    rw[d]
    grind
   ·have D:=A i o
    have y:=Ag h b k o k
    rw[if_neg a,if_pos rfl] at y;rw[e,E _ _ _ (B i o a),Js h b,if_neg a,D5 h o,if_neg a,y] at D;rw[d]
    grind
  ·rw[e,G,v,H] at F
   rw[d]
   grind
 ·rintro⟨A,F⟩
  have C:=A r b
  rw[d] at C
  refine⟨λi o=>?_,?_⟩
  ·by_cases a:i=r
   ·subst a
    rw[e,I,s,u,w]
    grind
   ·have D:=A i o
    have y:=Ag h b k o k
    rw[if_neg a,if_pos rfl] at y;rw[e,E _ _ _ (B i o a),Js h b,if_neg a,D5 h o,if_neg a,y];rw[d] at D
    grind
  ·rw[e,G,v,H]
   rw[d] at F
   grind
end
def np (f:Int->Rat):List Int->Rat
 |[]=>0
 |x::l=>f x+np f l
theorem Ju {f:Int->Rat}:∀{l k:List Int},np f (l++k)=np f l+np f k
 |[],k=>by grind[np]
 |x::l,k=>by simp only[List.cons_append,np,@Ju f l k];grind
theorem RZ {f:Int->Rat} {l k:List Int} (h:l.Perm k):np f l=np f k:=by
 induction h<;>grind[np,swap,trans]
theorem R1:∀{n:Nat} {f:Nat->Rat},cu (n+1) f=f 0+cu n λi=>f (i+1)
 |0,f=>by grind[cu]
 |n+1,f=>by
  rw[cu,R1]
  grind[cu]
theorem vH {f:Int->Rat}:∀{l:List Int},np f l=cu l.length λk=>f (bj l k 0)
 |[]=>rfl
 |x::l=>by
  rw[γv,R1,np,vH];rfl
def jI (n:Nat) (t:Tb) (y:Nat->Rat) (v:Int):Rat:=if v∈t.free then y (t.free.idxOf v) else t.bd (t.basic.idxOf v) - cu n λj=>t.cf (t.basic.idxOf v) j*y j
section
variable {n m:Nat} {t t0:Tb} {r c:Nat}
theorem pI {l:List Int} {i:Nat} (h:l.Nodup) (a:i<l.length):l.idxOf (bj l i 0)=i:=by
 grind[cO]
theorem nV (h:t.WF n m) (c:(t.basic++t.free).Nodup) {y:Nat->Rat} {j:Nat} (a:j<n):jI n t y (t.fv j)=y j:=by
 have b:j<t.free.length:=by rw[h.free];exact a
 unfold jI Tb.fv
 rw[if_pos (by grind[cO]),pI (γu.1 c).2.1 b]
theorem R7 (h:t.WF n m) (b:(t.basic++t.free).Nodup) {i:Nat} (a:i<m):t.bv i∉t.free:=λc=>by
 have d:i<t.basic.length:=by rw[h.basic];exact a
 grind[Tb.bv,cO]
theorem oU (h:t.WF n m) (a:(t.basic++t.free).Nodup) {y:Nat->Rat} {i:Nat} (c:i<m):jI n t y (t.bv i)=t.bd i - cu n λj=>t.cf i j*y j:=by
 have b:i<t.basic.length:=by rw[h.basic];exact c
 have e:t.basic.idxOf (t.bv i)=i:=pI (γu.1 a).1 b
 unfold jI
 grind
theorem asg_holds (h:t.WF n m) (a:(t.basic++t.free).Nodup) {y:Nat->Rat}:t.holds n m (jI n t y) (t.value+cu n λj=>t.cs j*y j):=by
 have e:∀f:Nat->Rat,cu n (λj=>f j*jI n t y (t.fv j))=cu n λj=>f j*y j:=λf=>dY λj c=>by grind[nV]
 refine⟨λi b=>?_,?_⟩
 ·rw[oU h a b,e]
  grind
 ·rw[e]
def fH (m:Nat) (t0:Tb) (v:Int) (i:Nat):Rat:=if i<m then(if v∈t0.free then t0.cf i (t0.free.idxOf v) else if t0.basic.idxOf v=i then 1 else 0) else 0
def xW (m:Nat) (t0:Tb) (i:Nat):Rat:=if i<m then t0.bd i else 0
def ja (m:Nat) (t0 t:Tb):Rat:=jH (t.basic.map (fH m t0)) (τ m)
structure Run (n m:Nat) (t0 t:Tb):Prop where
 nW:t0.WF n m
 wf:t.WF n m
 nd:(t0.basic++t0.free).Nodup
 perm:(t.basic++t.free).Perm (t0.basic++t0.free)
 nq:∀x z,t.holds n m x z↔t0.holds n m x z
 dt:ja m t0 t≠0
theorem Run.gQ (h:Run n m t0 t):(t.basic++t.free).Nodup:=h.perm.symm.nodup h.nd
theorem Run.refl (h:t0.WF n m) (a:(t0.basic++t0.free).Nodup):Run n m t0 t0:=by
 refine⟨h,h,a,List.Perm.refl _,λ_ _=>Iff.rfl,?_⟩
 have e:t0.basic.map (fH m t0)=(τ m).map xU:=by
  refine List.ext_getElem (by simp[h.basic]) λi g d=>?_
  simp only[List.getElem_map,List.getElem_range]
  have f:i<m:=by simp_all
  have b:t0.basic[i]'(by simp_all)=t0.bv i:=by grind[Tb.bv,cO]
  rw[b]
  funext k
  have c:t0.basic.idxOf (t0.bv i)=i:=pI (γu.1 a).1 (by grind)
  unfold fH xU
  grind
 grind[ja,RS]
theorem Run.rows (h:Run n m t0 t) {x:Int->Rat} {z:Rat} (l:t.holds n m x z) {i:Nat}:cu m (λk=>fH m t0 (t.bv k) i*x (t.bv k))+cu n (λj=>fH m t0 (t.fv j) i*x (t.fv j))=xW m t0 i:=by
 have b:∀t:Tb,t.WF n m->np (λv=>fH m t0 v i*x v) (t.basic++t.free)=cu m (λk=>fH m t0 (t.bv k) i*x (t.bv k))+cu n (λj=>fH m t0 (t.fv j) i*x (t.fv j)):=λt f=>by
  rw[Ju,vH,vH,f.basic,f.free];rfl
 rw[<-b t h.wf,RZ h.perm,b t0 h.nW]
 have p:=(h.nq x z).1 l
 unfold xW
 by_cases a:i<m
 ·rw[if_pos a,<-p.1 i a]
  congr 1
  ·have e:cu m (λk=>fH m t0 (t0.bv k) i*x (t0.bv k))=cu m λk=>if k=i then x (t0.bv i) else 0:=dY λk d=>by
    have c:t0.basic.idxOf (t0.bv k)=k:=pI (γu.1 h.nd).1 (by rw[h.nW.basic];exact d)
    unfold fH;rw[if_pos a,if_neg (R7 h.nW h.nd d),c]
    grind
   rw[e,vG,if_pos a]
  ·refine dY λj g=>?_
   have o:j<t0.free.length:=by rw[h.nW.free];exact g
   unfold fH
   rw[if_pos a,if_pos (by grind[Tb.fv,cO])]
   have c:t0.free.idxOf (t0.fv j)=j:=pI (γu.1 h.nd).2.1 o
   rw[c]
 ·rw[if_neg a]
  have e:∀v,fH m t0 v i=0:=λv=>by simp_all[fH,if_neg]
  simp only[e]
  grind[kD]
theorem Run.R9 (h:Run n m t0 t):xW m t0=λi=>cu m λk=>t.bd k*fH m t0 (t.bv k) i:=by
 funext i
 have a:=h.rows (i:=i) (asg_holds h.wf h.gQ (y:=λ_=>0))
 rw[<-a,dY (n:=n) (g:=λ_=>0) λj c=>by rw[nV h.wf h.gQ c];grind,kD,dY (n:=m) (g:=λk=>t.bd k*fH m t0 (t.bv k) i) λk b=>by
  rw[oU h.wf h.gQ b,dY (g:=λ_=>0) λj _=>by grind,kD]
  grind]
 grind
theorem Run.abQ (h:Run n m t0 t) {c:Nat} (a:c<n):fH m t0 (t.fv c)=λi=>cu m λk=>t.cf k c*fH m t0 (t.bv k) i:=by
 funext i
 have f:=congrFun h.R9 i
 have b:=h.rows (i:=i) (asg_holds h.wf h.gQ (y:=λj=>if j=c then 1 else 0))
 rw[dY (n:=n) (g:=λj=>if j=c then fH m t0 (t.fv c) i else 0) λj e=>by
  rw[nV h.wf h.gQ e]
  grind,vG,if_pos a,dY (n:=m) (g:=λk=>t.bd k*fH m t0 (t.bv k) i+(-1)*(t.cf k c*fH m t0 (t.bv k) i)) λk d=>by
   rw[oU h.wf h.gQ d,dY (g:=λj=>if j=c then t.cf k c else 0) λj _=>by
    grind,vG,if_pos a]
   grind,Ae,Af] at b
 grind
theorem getD_map {l:List Int} {f:Int->Nat->Rat} {k:Nat} (h:k<l.length):(l.map f).getD k (λ_=>0)=f (bj l k 0):=by
 grind[cO]
theorem Run.Si (h:Run n m t0 t) {y:Nat->Rat} {r:Nat} (d:r<m):jH ((t.basic.map (fH m t0)).set r λi=>cu m λk=>y k*fH m t0 (t.bv k) i) (τ m)=y r*ja m t0 t:=by
 have b:(t.basic.map (fH m t0)).length=m:=by rw[List.length_map,h.wf.basic]
 have a:=@abP (t.basic.map (fH m t0)) (τ m) y r (by omega)
 unfold ja;rw[<-a,b]
 congr 2
 funext i
 refine dY λk c=>?_
 rw[getD_map (by simp_all)]
 rfl
theorem Run.Sj (h:Run n m t0 t) {r c:Nat} (a:r<m) (b:c<n):jH ((t.basic.map (fH m t0)).set r (fH m t0 (t.fv c))) (τ m)=t.cf r c*ja m t0 t:=by
 rw[h.abQ b]
 exact h.Si (y:=λk=>t.cf k c) a
theorem Run.abR (h:Run n m t0 t) {r:Nat} (a:r<m):jH ((t.basic.map (fH m t0)).set r (xW m t0)) (τ m)=t.bd r*ja m t0 t:=by
 rw[h.R9]
 exact h.Si (y:=t.bd) a
theorem set_perm {l:List Int} {r:Nat} {x:Int} (a:r<l.length):(l.set r x).Perm (x::(l.take r++l.drop (r+1))):=by
 rw[εK,if_pos a]
 simp_all
theorem abS {l:List Int} {r:Nat} (a:r<l.length):(l[r]::(l.take r++l.drop (r+1))).Perm l:=by
 have h:=@set_perm l r l[r] a
 grind
theorem swap_perm {l k:List Int} {r c:Nat} (a:r<l.length) (b:c<k.length):(l.set r (bj k c 0)++k.set c (bj l r 0)).Perm (l++k):=by
 grind[cO]
theorem Run.piv (h:Run n m t0 t) {r c:Nat} (a:r<m) (b:c<n) (d:t.cf r c≠0):Run n m t0 (fF t r c) where
 nW:=h.nW
 wf:=RX h.wf
 nd:=h.nd
 perm:=(swap_perm (by rw[h.wf.basic];exact a) (by rw[h.wf.free];exact b)).trans h.perm
 nq x z:=(piv_holds h.wf a b d).trans (h.nq x z)
 dt:=by
  have e:ja m t0 (fF t r c)=t.cf r c*ja m t0 t:=by
   rw[<-h.Sj a b];unfold ja
   congr 1
   show(t.basic.set r (t.fv c)).map (fH m t0)=_
   simp_all
  rw[e]
  have:=h.dt
  grind
theorem D6 {M:Nat} (d:1<=M) (c:∀i j,i<m->j<n->eM M (t0.cf i j)) (a:t0.WF n m) {v:Int} {i:Nat}:eM M (fH m t0 v i):=by
 unfold fH;split
 ·split
  ·rename_i b e
   exact c _ _ b (by rw[<-a.free];grind)
  ·split
   ·exact⟨1,by simp,by omega⟩
   ·exact⟨0,by simp,by simp⟩
 ·exact⟨0,by simp,by simp⟩
theorem mem_set {C:List (Nat->Rat)} {r:Nat} {c d:Nat->Rat} (h:d∈C.set r c):d∈C\/d=c:=List.mem_or_eq_of_mem_set h
theorem Run.abT (h:Run n m t0 t) {M:Nat} (a:1<=M) (c:∀i j,i<m->j<n->eM M (t0.cf i j)):eM (nn M m) (ja m t0 t):=by
 have:=@D1 M (t.basic.map (fH m t0)) (τ m) (by simp[h.wf.basic]) λd b i _=>by
  obtain⟨v,_,rfl⟩:=γf.1 b
  exact D6 a c h.nW
 rwa [List.length_range] at this
theorem Run.cfZ (h:Run n m t0 t) {M:Nat} (e:1<=M) (b:∀i j,i<m->j<n->eM M (t0.cf i j)) {r c:Nat} (f:r<m) (g:c<n):eM (nn M m) (t.cf r c*ja m t0 t):=by
 rw[<-h.Sj f g]
 have:=@D1 M ((t.basic.map (fH m t0)).set r (fH m t0 (t.fv c))) (τ m) (by simp[h.wf.basic]) λd a i _=>by
  rcases mem_set a with a|rfl
  ·obtain⟨v,_,rfl⟩:=γf.1 a
   exact D6 e b h.nW
  ·exact D6 e b h.nW
 simp_all
theorem Run.bdZ (h:Run n m t0 t) {M:Nat} (b:1<=M) (c:∀i j,i<m->j<n->eM M (t0.cf i j)) (f:∀i,i<m->eM M (t0.bd i)) {r:Nat} (e:r<m):eM (nn M m) (t.bd r*ja m t0 t):=by
 rw[<-h.abR e]
 have:=@D1 M ((t.basic.map (fH m t0)).set r (xW m t0)) (τ m) (by simp[h.wf.basic]) λd a i g=>by
  rcases mem_set a with a|rfl
  ·obtain⟨v,_,rfl⟩:=γf.1 a
   exact D6 b c h.nW
  simp_all[xW]
 simp_all
end
structure qF (n m:Nat) (t:Tb) (r c:Nat):Prop where
 hr:r<m
 hc:c<n
 cost:0<t.cs c
 least:∀j,j<n->0<t.cs j->t.fv c<=t.fv j
 pos:0<t.cf r c
 ratio:∀i,i<m->0<t.cf i c->t.bd r / t.cf r c<t.bd i / t.cf i c\/(t.bd r / t.cf r c=t.bd i / t.cf i c/\t.bv r<=t.bv i)
def j6 (m:Nat) (t:Tb):Prop:=∀i,i<m->0<=t.bd i
section
variable {n m:Nat} {t t0:Tb} {r c:Nat}
theorem Ah (a b:Rat):a<=b\/b<a:=(Classical.em (a<=b)).imp id Rat.not_le.1
theorem div_mul {a b:Rat} (h:0<b):a / b*b=a:=by
 grind
theorem inv_pos {b:Rat} (h:0<b):0<1 / b:=by
 have c:(1 / b)*b=1:=div_mul h
 rcases Ah (1 / b) 0 with a|a
 ·exfalso
  have d:0<=(-(1 / b))*b:=δB (by grind) (by grind)
  grind
 ·exact a
theorem Sl {a b:Rat} (c:0<=a) (h:0<b):0<=a / b:=by
 grind[δB,inv_pos]
theorem qF.ge (h:qF n m t r c) (a:j6 m t):0<=t.bd r / t.cf r c:=Sl (a r h.hr) h.pos
theorem qF.xX (h:qF n m t r c) (k:t.WF n m) (d:j6 m t):j6 m (fF t r c):=by
 intro i a
 have f:=h.ge d
 have e:t.bd r*(1 / t.cf r c)=t.bd r / t.cf r c:=by grind
 rw[D5 k a,e];split
 ·exact f
 ·rcases Ah (t.cf i c) 0 with b|b
  ·have j:0<=(-(t.cf i c))*(t.bd r / t.cf r c):=δB (by grind) f
   have:=d i a
   grind
  ·have j:t.bd r / t.cf r c<=t.bd i / t.cf i c:=by
    rcases h.ratio i a b with g|g<;>grind
   have g:0<=t.cf i c*(t.bd i / t.cf i c - t.bd r / t.cf r c):=δB (by grind) (by grind)
   grind[div_mul]
theorem qF.value:(fF t r c).value=t.value+t.cs c*(t.bd r / t.cf r c):=by
 show t.value+t.cs c*(t.bd r*(1 / t.cf r c))=_
 grind
theorem Jv {b:Type}:∀(L:List b) (f:Nat->b),(∀k,f k∈L)->∃i j,i<j/\f i=f j
 |[],f,h=>by simp_all
 |a::L,f,h=>by
  by_cases c:∃i,f i=a
  ·obtain⟨i,g⟩:=c
   by_cases e:∃j,i<j/\f j=a
   ·grind
   ·obtain⟨x,y,d,l⟩:=Jv L (λk=>f (k+i+1)) λk=>by
     grind
    grind
  ·exact Jv L f λk=>by
    simp_all
def Ai (V:List Int):Nat->List (List Int)
 |0=>[[]]
 |k+1=>(Ai V k).flatMap λl=>V.map λv=>v::l
theorem Sm {V:List Int}:∀{l:List Int},(∀v∈l,v∈V)->l∈Ai V l.length
 |[],_=>by simp[Ai]
 |x::l,h=>by
  simp only[γv,Ai,List.mem_flatMap,γf]
  exact⟨l,Sm λv a=>h v (by simp[a]),x,h x (by simp),rfl⟩
theorem abW {l:List Int} {r:Nat} {x v:Int} (a:r<l.length) (b:l.Nodup):v∈l.set r x↔v=x\/(v∈l/\v≠bj l r 0):=by
 grind[set_perm,cO,abS]
theorem Sr {f:Nat->Int} {i:Nat}:∀{d:Nat},∃k,(i<=k/\k<=i+d)/\∀x,i<=x->x<=i+d->f x<=f k
 |0=>⟨i,by omega,λx a b=>by grind⟩
 |d+1=>by
  obtain⟨k,a,b⟩:=@Sr f i d
  by_cases h:f k<=f (i+(d+1))
  ·refine⟨i+(d+1),by omega,λx c e=>?_⟩
   grind
  ·refine⟨k,by omega,λx c e=>?_⟩
   grind
theorem Ss:∀{n:Nat} {f:Nat->Rat},0<cu n f->∃j,j<n/\0<f j
 |0,f,h=>by grind[cu]
 |n+1,f,h=>by
  rcases Ah (f n) 0 with a|a
  ·obtain⟨j,c,b⟩:=@Ss n f (by grind[cu])
   grind
  grind
theorem xY (h:t.WF n m) {j:Nat} (a:j<n):t.fv j∈t.free:=by
 have b:j<t.free.length:=by rw[h.free];exact a
 grind[Tb.fv,cO]
theorem Aj (h:t.WF n m) {j:Nat} (a:j<m):t.bv j∈t.basic:=by
 have b:j<t.basic.length:=by rw[h.basic];exact a
 grind[Tb.bv,cO]
theorem xZ (h:t.WF n m) {v:Int} (b:v∈t.free):∃j,j<n/\t.fv j=v:=by
 obtain⟨j,a,rfl⟩:=δa b
 exact⟨j,by rw[<-h.free];exact a,by grind[Tb.fv,cO]⟩
theorem x8 (h:t.WF n m) {v:Int} (b:v∈t.basic):∃j,j<m/\t.bv j=v:=by
 obtain⟨j,a,rfl⟩:=δa b
 exact⟨j,by rw[<-h.basic];exact a,by grind[Tb.bv,cO]⟩
theorem Jw (c:(t.basic++t.free).Nodup) {v:Int} (a:v∈t.basic) (b:v∈t.free):False:=(γu.1 c).2.2 _ a _ b rfl
theorem abX (h:t.WF n m) (c:(t.basic++t.free).Nodup) {i j:Nat} (f:i<m) (d:j<m) (e:t.bv i=t.bv j):i=j:=by
 have a:=pI (γu.1 c).1 (show i<t.basic.length by rw[h.basic];exact f)
 have b:=pI (γu.1 c).1 (show j<t.basic.length by rw[h.basic];exact d)
 grind[Tb.bv]
theorem abY (h:t.WF n m) (c:(t.basic++t.free).Nodup) {i j:Nat} (f:i<n) (d:j<n) (e:t.fv i=t.fv j):i=j:=by
 have a:=pI (γu.1 c).2.1 (show i<t.free.length by rw[h.free];exact f)
 have b:=pI (γu.1 c).2.1 (show j<t.free.length by rw[h.free];exact d)
 grind[Tb.fv]
theorem abZ {T:Nat->Tb} {r c:Nat->Nat} (p:∀k,Run n m t0 (T k)) (hF:∀k,j6 m (T k)) (B:∀k,qF n m (T k) (r k) (c k)) (hT:∀k,T (k+1)=fF (T k) (r k) (c k)) {i j:Nat} (b8:i<j) (hb:(T i).basic=(T j).basic) (hf:(T i).free=(T j).free):False:=by
 have b7:(T i).value=(T j).value:=by
  have t:=((p j).nq _ _).2 (((p i).nq _ _).1 (asg_holds (p i).wf (p i).gQ (y:=λ_=>0)))
  have e1:cu n (λk=>(T i).cs k*(λ_=>(0:Rat)) k)=0:=by grind[kD]
  have e2:cu n (λk=>(T j).cs k*jI n (T i) (λ_=>0) ((T j).fv k))=0:=by
   rw[dY (g:=λ_=>0) λk hk=>by
    have:(T j).fv k=(T i).fv k:=by grind[Tb.fv]
    rw[this,nV (p i).wf (p i).gQ hk]
    grind,kD]
  have K:=t.2
  grind
 have L:∀k,(T k).value<=(T (k+1)).value:=λk=>by
  rw[hT k,qF.value]
  have:=δB (a:=(T k).cs (c k)) (by have:=(B k).cost;grind) ((B k).ge (hF k))
  grind
 have S:∀d a,(T a).value<=(T (a+d)).value:=λd=>by
  induction d<;>grind
 have H:∀k,i<=k->k<j->(T k).bd (r k)=0:=λk t K=>by
  have a1:=S (k - i) i
  have a2:=S (j - (k+1)) (k+1)
  rw[show i+(k - i)=k by omega] at a1
  rw[show k+1+(j - (k+1))=j by omega] at a2
  have a3:=L k
  rw[hT k] at a2 a3;rw[qF.value] at a2 a3
  have h3:=(B k).ge (hF k)
  have hc:=(B k).cost
  have h4:=@div_mul ((T k).bd (r k)) _ (B k).pos
  grind[Rat.mul_eq_zero]
 have b6:∀k,i<=k->k<j->∀v,v∈(T k).basic++(T k).free->jI n (T (k+1)) (λ_=>0) v=jI n (T k) (λ_=>0) v:=λk t K v O=>by
  have hw:=(p k).wf
  have G:=(p (k+1)).wf
  have hx:=((p (k+1)).nq _ _).2 (((p k).nq _ _).1 (asg_holds hw (p k).gQ (y:=λ_=>0)))
  have hz:∀q,q<n->jI n (T k) (λ_=>0) ((T (k+1)).fv q)=0:=λq s=>by
   rw[hT k,Jt hw (B k).hc];split
   ·rw[oU hw (p k).gQ (B k).hr,H k t K,dY (g:=λ_=>0) λj _=>by grind,kD]
    grind
   ·rw[nV hw (p k).gQ s]
  have A:v∈(T (k+1)).basic++(T (k+1)).free:=((p (k+1)).perm.trans (p k).perm.symm).mem_iff.2 O
  rcases ω.1 A with A|A
  ·obtain⟨q,s,rfl⟩:=x8 G A
   have:=hx.1 q s
   rw[dY (g:=λ_=>0) λj hj=>by simp_all,kD] at this
   rw[oU G (p (k+1)).gQ s,dY (g:=λ_=>0) λj _=>by grind,kD]
   grind
  ·obtain⟨q,s,rfl⟩:=xZ G A
   rw[hz q s,nV G (p (k+1)).gQ s]
 have w:∀a b v,v∈(T a).basic++(T a).free->v∈(T b).basic++(T b).free:=λa b v O=>((p b).perm.trans (p a).perm.symm).mem_iff.2 O
 have W:∀d a,i<=a->a+d<=j->∀v,v∈(T a).basic++(T a).free->jI n (T (a+d)) (λ_=>0) v=jI n (T a) (λ_=>0) v:=λd=>by
  induction d<;>grind
 have hA:∀a b,i<=a->a<=j->i<=b->b<=j->∀v,v∈(T a).basic++(T a).free->jI n (T a) (λ_=>0) v=jI n (T b) (λ_=>0) v:=λa b t K h3 h4 v O=>by
  have e1:=W (a - i) i (by omega) (by omega) v (w _ _ v O)
  have e2:=W (b - i) i (by omega) (by omega) v (w _ _ v O)
  simp_all
 have P:∀k v,v∈(T (k+1)).basic↔v=(T k).fv (c k)\/(v∈(T k).basic/\v≠(T k).bv (r k)):=λk v=>by
  rw[hT k]
  exact abW (by rw[(p k).wf.basic];exact(B k).hr) (γu.1 (p k).gQ).1
 have U:∀v a b,i<=a->a<=j->i<=b->b<=j->v∈(T a).basic->v∉(T b).basic->∃k,i<=k/\k<j/\(T k).fv (c k)=v:=λv a b a1 a2 b1 b2 ha a9=>by
  apply δ5
  intro Y
  have I:∀d x,i<=x->x+d<=j->v∈(T (x+d)).basic->v∈(T x).basic:=λd=>by
   induction d<;>grind
  have t:=I (a - i) i (by omega) (by omega) (by simp_all)
  rw[hb] at t
  exact a9 (I (j - b) b (by omega) (by omega) (by simp_all))
 obtain⟨l,⟨a6,b9⟩,a0⟩:=@Sr (λk=>(T k).fv (c k)) i (j - 1 - i)
 have J:∀x,i<=x->x<j->(T x).fv (c x)<=(T l).fv (c l):=λx t K=>a0 x t (by omega)
 have c2:l<j:=by omega
 have a7:(T l).fv (c l)∈(T l).free:=xY (p l).wf (B l).hc
 have c0:(T l).fv (c l)∉(T l).basic:=λh=>Jw (p l).gQ h a7
 obtain⟨o,F,Q,hl⟩:∃o,i<=o/\o<j/\(T o).bv (r o)=(T l).fv (c l):=by
  apply δ5
  intro Y
  have up:∀d x,i<=x->x+d<=j->(T l).fv (c l)∈(T x).basic->(T l).fv (c l)∈(T (x+d)).basic:=λd=>by
   induction d with
   |zero=>intro x _ _ h;exact h
   |succ d ih=>
    intro x t K h
    exact(P (x+d) _).2 (.inr ⟨ih x t (by omega) h,λe=>Y ⟨x+d,by omega,by omega,e.symm⟩⟩)
  have t:=up (j - (l+1)) (l+1) (by omega) (by omega) ((P l _).2 (.inl rfl))
  rw[show l+1+(j - (l+1))=j by omega,<-hb] at t
  have K:=up (l - i) i (by omega) (by omega) t
  simp_all
 have w1:=(p l).wf
 have C:=(p o).wf
 have n1:=(p l).gQ
 have E:=(p o).gQ
 have p1:=B l
 have N:=B o
 have x1:=(((p l).nq _ _).2 (((p o).nq _ _).1 (asg_holds C E (y:=λq=>if q=c o then 1 else 0)))).2
 have x0:=(((p l).nq _ _).2 (((p o).nq _ _).1 (asg_holds C E (y:=λ_=>0)))).2
 rw[dY (f:=λq=>(T o).cs q*(λq=>if q=c o then(1:Rat) else 0) q) (g:=λq=>if q=c o then(T o).cs (c o) else 0) λq _=>by
  by_cases s:q=c o<;>grind,vG,if_pos N.hc] at x1
 rw[dY (f:=λq=>(T o).cs q*(λ_=>(0:Rat)) q) (g:=λ_=>0) λq _=>by grind,kD] at x0
 have hd:0<cu n λq=>(T l).cs q*(jI n (T o) (λq=>if q=c o then 1 else 0) ((T l).fv q) - jI n (T o) (λ_=>0) ((T l).fv q)):=by
  rw[dY (g:=λq=>(T l).cs q*jI n (T o) (λq=>if q=c o then 1 else 0) ((T l).fv q)+(-1)*((T l).cs q*jI n (T o) (λ_=>0) ((T l).fv q))) λq _=>by grind,Ae,Af]
  have:=N.cost
  grind
 obtain⟨q,s,u⟩:=Ss hd
 have a5:(T l).fv q∈(T l).free:=xY w1 s
 have Z:=w l o _ (List.mem_append_right _ a5)
 rcases ω.1 Z with a4|X
 ·obtain⟨D,z,e⟩:=x8 C a4
  rw[<-e,oU C E z,oU C E z,dY (f:=λj=>(T o).cf D j*(λq=>if q=c o then(1:Rat) else 0) j) (g:=λj=>if j=c o then(T o).cf D (c o) else 0) (λj _=>by
   by_cases hj:j=c o<;>grind),vG,if_pos N.hc,dY (f:=λj=>(T o).cf D j*(λ_=>(0:Rat)) j) (g:=λ_=>0) (λj _=>by grind),kD] at u
  have M:0<(T l).cs q*(-(T o).cf D (c o)):=by grind
  obtain⟨k3,b3,b5,h3⟩:=U _ o l F (by omega) a6 (by omega) a4 (λh=>Jw n1 h a5)
  have b0:(T l).fv q<=(T l).fv (c l):=by grind
  rcases Ah ((T l).cs q) 0 with hs|hs
  ·have a8:0<(T o).cf D (c o):=by
    rcases Ah ((T o).cf D (c o)) 0 with h4|h4
    ·exfalso
     have:=δB (a:= -(T l).cs q) (b:= -(T o).cf D (c o)) (by grind) (by grind)
     grind
    ·exact h4
   have b4:(T o).bd D=0:=by
    have V:=hA o l F (by omega) a6 (by omega) ((T l).fv q) Z
    rw[nV w1 n1 s,<-e,oU C E z,dY (g:=λ_=>0) λj _=>by grind,kD] at V
    grind
   have c1:=H o F Q
   have hz:∀b:Rat,(0:Rat) / b=0:=λb=>by grind
   rcases N.ratio D z a8 with h6|h6
   ·simp_all
   ·have h7:(T l).fv (c l)<=(T l).fv q:=by omega
    have h8:=abY w1 n1 s p1.hc (by omega)
    rw[h8] at hs
    have:=p1.cost
    grind
  ·have h7:=p1.least q s hs
   have h8:D=r o:=abX C E z N.hr (by omega)
   rw[h8] at M
   have:=δB (a:=(T l).cs q) (b:=(T o).cf (r o) (c o)) (by grind) (by have:=N.pos;grind)
   grind
 ·obtain⟨q2,R,e⟩:=xZ C X
  rw[<-e,nV C E R,nV C E R] at u
  by_cases V:q2=c o
  ·rw[if_pos V] at u
   have h6:=p1.least q s (by grind)
   have h7:=J o F Q
   rw[V] at e
   have h8:(T l).fv (c l)=(T o).fv (c o):=by omega
   exact Jw E (Aj C N.hr) (by grind)
  ·rw[if_neg V] at u
   grind
end
end Go.Vi
