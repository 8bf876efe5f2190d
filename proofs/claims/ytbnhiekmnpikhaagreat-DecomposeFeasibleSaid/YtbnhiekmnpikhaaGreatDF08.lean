/-
  Contracts: natural numbers of any size: Sub.
  Conditions: none.
-/
import Derived.Test.YtbnhiekmnpikhaaGreatDF06
import Derived.Test.YtbnhiekmnpikhaaGreatDF07
import Derived.Test.YtbnhiekmnpikhaaGreatDF04
set_option maxRecDepth 100000
set_option maxHeartbeats 4000000
set_option linter.all false
open And renaming intro->γl
open BitVec renaming ofInt->γi
open Bool renaming eq_iff_iff->ζL
open Go.Vi.SV renaming ow->γZ,row->Ω,si->γd,sb->γA,il->γB,agg->γR
open Int renaming pow_succ->γV,sub_zero->ζf,mul_assoc->δl,mul_zero->δG,mul_nonneg->γx,emod_eq_of_lt->δJ,pow_add->δ7,lt_of_le_of_lt->εF,mul_le_mul_of_nonneg_left->Ξ,le_of_lt->γg,mul_lt_mul_of_pos_right->γ5,eq_ofNat_of_zero_le->δp,mul_comm->δ3,pow_pos->δN,mul_emod_mul_of_pos->ζB,emod_nonneg->δL,emod_lt_of_pos->δo,lt_of_mul_lt_mul_left->εq,lt_of_lt_of_le->εE,mul_le_mul_of_nonneg_right->γW,add_zero->εh,ediv_nonneg->δM,ediv_lt_of_lt_mul->εR,mul_ediv_add_emod->εf,pow_zero->ζK,one_mul->εx,toNat_natCast->γn,mul_ediv_cancel_left->ζs,natAbs_mul->εr,natAbs_natCast->ζg,mul_neg_of_neg_of_pos->εs,mul_pos->εz,toNat_of_nonneg->εA
open IntCast renaming intCast->κ
open List renaming replicate->δ,take->Δ,getElem?_replicate->εB,eq_of_mem_replicate->δ0,replicate_succ->δm,take_length->φ,take_of_length_le->γq,length_take->γy,length_set->Ψ,take_append_drop->γK,drop_drop->δj,take_zero->εp,length_cons->γD,drop->γ4,eq_nil_of_length_eq_zero->χ,length->γc,foldr_cons->ε2,foldr->θa,getElem_cons_drop->ζF,range->ω
open Nat renaming le_refl->π,min_eq_left->εg,pow_le_pow_right->δr,add_sub_cancel->ζY,gcd_dvd_left->ζ6,gcd_le_right->ζ7
open Option.some renaming injEq->γ
open Prod renaming ext->εC
open Rat renaming mkRat_self->δW,normalize_eq_mkRat->ζE,num_eq_zero->ζM,mkRat_eq_div->δC,intCast_natCast->ε1
namespace Go.Vi
open Go.Proofs.YtbnhiekmnpikhaaGreat.Ir
open Go.Proofs
theorem l8 {i u v:Nat} (h:u=v):(γZ i u 1).same (γZ i v 1):=by subst h;rfl
theorem Ri {l:List Int} (h:l=[]):(Ω (.i .i64) []).same (Ω (.i .u32) l):=by subst h;rfl
def sbO (x y:Int):SV:=.bI [.row (.i .u32) (cQ (x - y)),.sb (decide (y<=x))]
theorem I0 {n:Int} (h:n<=0):cQ n=[]:=by
 unfold cQ;rw[show n.toNat=0 by omega];rfl
def I1:bM:=⟨166,List Int×List Int,.cons (dG (.i .u32)) (.one (dG (.i .u32))),λa=>(bA a.1/\bA a.2)/\a.1.length<=100000000000/\a.2.length<=100000000000,
 λa=>sbO (bk a.1) (bk a.2)⟩
def abM (a:List Int×List Int):Nat->cG
 |7=> .inv (Int×Int×List Int) (λx=>⟨[(0,.row (.i .u32) (bJ a.1)),(1,.row (.i .u32) (bJ a.2)),(6,.ow 0 x.2.2.length 1),(7,.si .u64 x.2.1),(22,.si .i64 (bJ a.1).length),(23,.si .i64 x.1)],[.row (.i .u32) x.2.2 172 true]⟩)
  (λs=>(iS s 23,iS s 7,oS (.i .u32) s 0))
  (λx=>(0<=x.1/\x.1<=(bJ a.1).length)/\(0<=x.2.1/\x.2.1<=1)/\bA x.2.2/\x.2.2.length=(bJ a.1).length/\(∀j,x.1.toNat<=j->bj x.2.2 j 0=0)/\
   bk x.2.2 - 4294967296^x.1.toNat*x.2.1=bk ((bJ a.1).take x.1.toNat) - bk ((bJ a.2).take x.1.toNat)) (λx=>((bJ a.1).length - x.1).toNat) λ_ _=> .look
 |_=> .look
theorem Rj {s t row:List Int} {i:Nat} {br d v c:Int} (hs:bA s) (ht:bA t) (hr:bA row) (hl:row.length=s.length) (hz:∀j,i<=j->bj row j 0=0)
  (hv:bk row - 4294967296^i*br=bk (s.take i) - bk (t.take i)) (hi:i<s.length) (hd:d=bj s i 0 - br - bj t i 0) (h0:0<=v/\v<4294967296) (hc:v - 4294967296*c=d):
  bA (row.set i v)/\(row.set i v).length=s.length/\(∀j,i+1<=j->bj (row.set i v) j 0=0)/\bk (row.set i v) - 4294967296^(i+1)*c=bk (s.take (i+1)) - bk (t.take (i+1)):=by
 refine⟨nE hr h0.1 h0.2,by simp[hl],λj hj=>by rw[pT (by omega)];exact hz j (by omega),?_⟩;rw[uw (by omega),lV,lV,hz i (π _),γV,ζf];have h1:(4294967296:Int)^i*(v - 4294967296*c)=4294967296^i*(bj s i 0 - br - bj t i 0):=by rw[hc,hd]
 simp only[Int.mul_sub] at h1;rw[<-δl] at h1;omega
theorem h155:Holds Tryz.prog I1:=by
 refine cH (L:=[rI,ya]) I1 abM (by simpa using⟨h152,h132⟩) ?_;rintro⟨a,b⟩ ⟨⟨ha,hb⟩,hla,hlb⟩;simp only at ha hb hla hlb;refine bQ (let c:=(0:Int);let d:=(18446744073709551616:Int);let e:=Ω;let f:=(4294967296:Int);let g:=γd .i64;let h:=(1:Int);let k:=γZ;let l:=SV.bI;let z0:Nat:=(bJ a).length;let B:=decide (lX (bk (bJ a)) (bk (bJ b))<c);let m:=bp.i .u32;let C:=l [e m (cQ (bk a - bk b)),γA (decide (bk b<=bk a))];let o:=(↑(bJ a).length:Int);let q:=δ o.toNat c;let p:=(↑z0:Int);let z:=g p;let D:=bq.row m q 172 true;let A:=(↑(bJ b).length:Int);a.length<=1000000000000/\b.length<=1000000000000/\((bA (bJ a)/\bA (bJ b))/\z0<=1000000000000/\(bJ b).length<=1000000000000)/\(B=true->(l [e (bp.i .i64) [],SV.bl false]).same C)/\(B=false->c<=o/\o<=o/\o*(4:Int)<=(140737488355328:Int)/\o<=(1000000000000:Int)/\((((e m (bJ a)).same (e m (bJ a))/\(e m (bJ b)).same (e m (bJ b))/\(k 0 o.toNat 1).same (k 0 q.length 1)/\(γB .u64 0).same (γd .u64 0)/\(g o).same z/\(γB .i64 0).same (g 0)/\True)/\D.same D/\True)/\(c<=c/\c<=p)/\(c<=c/\c<=h)/\bA q/\q.length=z0/\(∀(j:Nat),0<=j->bj q j c=c)/\bk q - c=c)/\∀(x:Int×Int×List Int),let r:=x.snd.snd.length;let v:=x.snd.snd.length;let n:=x.fst.toNat;let s:=x.fst+h;let E:=g s;let w:=s.toNat;let F:=bj (bJ a) n c;let G:=λ(u u_1:Int) ↦let H:=(u % d - u_1) % d;let t:=x.snd.snd.set n (H % f);let y:=H / (9223372036854775808:Int);let I:=γd .u64 y;let J:=bq.row m t 172 true;c<=(63:Int)/\(63:Int)<=(64:Int)/\r=v/\c<=x.fst/\x.fst<(↑v:Int)/\r=v/\n<v/\cu .i64 s/\(((e m (bJ a)).same (e m (bJ a))/\(e m (bJ b)).same (e m (bJ b))/\(k 0 r 1).same (k 0 t.length 1)/\I.same I/\z.same z/\E.same E/\True)/\J.same J/\True)/\((c<=s/\s<=p)/\(c<=y/\y<=h)/\bA t/\t.length=z0/\(∀(j:Nat),w<=j->bj t j c=c)/\bk t - f^w*y=bk (Δ w (bJ a)) - bk (Δ w (bJ b)))/\(p - s).toNat<(p - x.fst).toNat;(c<=x.fst/\x.fst<=p)/\(c<=x.snd.fst/\x.snd.fst<=h)/\bA x.snd.snd/\r=z0/\(∀(j:Nat),n<=j->bj x.snd.snd j c=c)/\bk x.snd.snd - f^n*x.snd.fst=bk (Δ n (bJ a)) - bk (Δ n (bJ b))->(decide (x.fst<p)=true->c<=x.fst/\x.fst<o/\n<(bJ a).length/\(decide (x.fst<A)=true->c<=x.fst/\x.fst<A/\n<(bJ b).length/\G (F % d - x.snd.fst) (bj (bJ b) n c % d))/\(decide (x.fst<A)=false->G F x.snd.fst))/\(decide (x.fst<p)=false->r=v/\r<=1000000000000/\(l [e m (bJ x.snd.snd),SV.bl true]).same C))) (by kernel_rfl) ?_;simp only[vcs];obtain⟨va,na⟩:=@rJ a;obtain⟨vb,nb⟩:=@rJ b;have da:=sT ha;have db:=sT hb;have la:=@uv a;have lb:=@uv b;have pa:=fj da;have pb:=fj db;rw[<-va,<-vb];generalize bJ a=s at*;generalize bJ b=t at*;have hr0:∀n j,bj (δ n (0:Int)) j 0=0:=λn j=>by
  unfold bj;rw[εB];split<;>rfl
 have hd0:∀n,bA (δ n 0):=λn d hd=>by
  have:=δ0 hd;omega
 have hv0:∀n,bk (δ n 0)=0:=λn=>by
  induction n with
  |zero=>rfl;|succ n ih=>simp only[δm,bk,ih];omega
 refine⟨by omega,by omega,⟨⟨da,db⟩,by omega,by omega⟩,λhlt=>?_,λhge=>⟨by omega,by omega,by omega,by omega,?_,?_⟩⟩
 ·have hlt2:bk s<bk t:=by unfold lX at hlt;split at hlt<;>(try split at hlt)<;>omega
  refine⟨Ri (I0 (by omega)),?_⟩;rw[eq_comm,decide_eq_false_iff_not];omega
 ·repeat' refine γl ?_ ?_
  all_goals first|omega|exact l8 (by simp)|exact hd0 _|exact λj _=>hr0 _ j|(simp;done)|(rw[hv0];rfl)
 have DC:bk t<=bk s:=by unfold lX at hge;split at hge<;>(try split at hge)<;>omega
 rintro⟨i,br,row⟩ ⟨⟨i0,i1⟩,⟨b0,b1⟩,hr,hl,hz,hv⟩;simp only at i0 i1 b0 b1 hr hl hz hv ⊢;refine⟨λlW=>?_,λnD=>?_⟩
 ·have d1:=eu da i.toNat;have d2:=eu db i.toNat;have e:(i+1).toNat=i.toNat+1:=by omega
  refine⟨i0,lW,by omega,λht=>?_,λht=>?_⟩
  ·generalize hq:((bj s i.toNat 0 % 18446744073709551616 - br) % 18446744073709551616 - bj t i.toNat 0 % 18446744073709551616) % 18446744073709551616=q;obtain⟨k1,k2,k3,k4⟩:=Rj (v:=q % 4294967296) (c:=q / 9223372036854775808) da db hr hl hz hv (by omega) rfl (by omega) (by omega);rw[e];repeat' refine γl ?_ ?_
   all_goals first|omega|exact l8 (by simp)|exact k1|exact k2|exact k3|exact k4
  ·have hz2:=DW (a:=t) (i:=i.toNat) (by omega);generalize hq:(bj s i.toNat 0 % 18446744073709551616 - br) % 18446744073709551616=q;obtain⟨k1,k2,k3,k4⟩:=Rj (v:=q % 4294967296) (c:=q / 9223372036854775808) da db hr hl hz hv (by omega) rfl (by omega) (by omega);rw[e];repeat' refine γl ?_ ?_
   all_goals first|omega|exact l8 (by simp)|exact k1|exact k2|exact k3|exact k4
 ·have hi:i.toNat=s.length:=by omega
  have hlen:t.length<=s.length:=by
   by_cases h:s.length<t.length
   ·have:=xZ da db nb h;omega
   ·omega
  rw[hi,φ,γq hlen] at hv;have hbd:=ou hr;have hp:=pow_pos s.length;rw[hl] at hbd;have hb0:br=0:=by
   by_cases h:br=0;·exact h
   ·have:br=1:=by omega
    subst this;omega
  rw[hb0,δG,ζf] at hv;refine⟨by omega,?_,?_⟩;·rw[qG hr,hv]
  ·rw[eq_comm,decide_eq_true_eq];exact DC
theorem Rk {n j:Nat}:bj (δ n (0:Int)) j 0=0:=by
 unfold bj;rw[εB];split<;>rfl
theorem AG {n:Nat}:bA (δ n 0):=λd hd=>by
 have:=δ0 hd;omega
theorem ye:∀{n:Nat},bk (δ n 0)=0
 |0=>rfl
 |n+1=>by simp only[δm,bk,@ye n];omega
theorem abN {o b:List Int} {x:Int} {i k:Nat}:iy o b x i (k+1)=((iy o b x i k).1.set (i+k) ((x*bj b k 0+bj (iy o b x i k).1 (i+k) 0+(iy o b x i k).2) % 4294967296),(x*bj b k 0+bj (iy o b x i k).1 (i+k) 0+(iy o b x i k).2) / 4294967296):=rfl
def yf:bM:=⟨164,List Int×List Int,.cons (dG (.i .u32)) (.one (dG (.i .u32))),λa=>(bA a.1/\bA a.2)/\a.1.length<=100000000000/\a.2.length<=100000000000,
 λa=> .row (.i .u32) (cQ (bk a.1*bk a.2))⟩
def stM (a:List Int×List Int) (row:List Int):cj:=[.row (.i .u32) row 172 true]
def abO (a:List Int×List Int):Nat->cG
 |3=> .inv (Int×List Int) (λx=>⟨[(0,.row (.i .u32) a.1),(1,.row (.i .u32) a.2),(5,.ow 0 x.2.length 1),(17,.si .i64 a.1.length),(18,.si .i64 x.1)],stM a x.2⟩)
  (λs=>(iS s 18,oS (.i .u32) s 0))
  (λx=>(0<=x.1/\x.1<=a.1.length)/\bA x.2/\x.2.length=a.1.length+a.2.length/\bk x.2=bk (a.1.take x.1.toNat)*bk a.2) (λx=>(a.1.length - x.1).toNat)
  λx=>λ
   |7=> .inv (Int×Int×List Int) (λy=>⟨[(0,.row (.i .u32) a.1),(1,.row (.i .u32) a.2),(5,.ow 0 y.2.2.length 1),(6,.si .i64 x.1),(7,.si .u64 y.2.1),(17,.si .i64 a.1.length),(18,.si .i64 x.1),(22,.si .i64 a.2.length),(23,.si .i64 y.1)],stM a y.2.2⟩)
    (λs=>(iS s 23,iS s 7,oS (.i .u32) s 0))
    (λy=>(0<=y.1/\y.1<=a.2.length)/\y.2.2=(iy x.2 a.2 (bj a.1 x.1.toNat 0) x.1.toNat y.1.toNat).1/\y.2.1=(iy x.2 a.2 (bj a.1 x.1.toNat 0) x.1.toNat y.1.toNat).2) (λy=>(a.2.length - y.1).toNat) λ_ _=> .look
   |_=> .look
 |_=> .look
theorem h153:Holds Tryz.prog yf:=by
 refine cH (L:=[rI]) yf abO (by simpa using h152) ?_;rintro⟨a,b⟩ ⟨⟨ha,hb⟩,hla,hlb⟩;simp only at ha hb hla hlb;refine bQ (let c:=(18446744073709551616:Int);let d:=(0:Int);let e:=Ω;let f:=γd .i64;let g:=(4294967296:Int);let h:=cu .i64;let j:=γZ;let k:=γB .i64 0;let l:=bq.row;let F:=(↑a.length:Int);let z:=(↑b.length:Int);let p:=F+z;let m:=bp.i .u32;let A:=δ p.toNat d;let q:=(↑a.length:Int);let t:=f q;let J:=l m A 172 true;let G:=a.length+b.length;let r:=(↑b.length:Int);let H:=f r;h p/\d<=p/\p<=p/\p*(4:Int)<=(140737488355328:Int)/\p<=(1000000000000:Int)/\((((e m a).same (e m a)/\(e m b).same (e m b)/\(j 0 p.toNat 1).same (j 0 A.length 1)/\(f F).same t/\(k).same (f 0)/\True)/\J.same J/\True)/\(d<=d/\d<=q)/\bA A/\A.length=G/\bk A=bk []*bk b)/\∀(x:Int×List Int),let C:=x.snd.length;let v:=x.fst.toNat;let K:=j 0 C 1;let s:=f x.fst;let L:=l m x.snd 172 true;let D:=bj a v d;let M:=iy x.snd b D v 0;let w:=x.fst+(1:Int);let N:=f w;(d<=x.fst/\x.fst<=q)/\bA x.snd/\C=G/\bk x.snd=bk (Δ v a)*bk b->(decide (x.fst<q)=true->((((e m a).same (e m a)/\(e m b).same (e m b)/\K.same K/\s.same s/\(γB .u64 0).same (γd .u64 0)/\t.same t/\s.same s/\(f z).same H/\(k).same (f 0)/\True)/\L.same L/\True)/\(d<=d/\d<=r)/\x.snd=M.fst/\d=M.snd)/\∀(x_1:Int×Int×List Int),let O:=iy x.snd b D v x_1.fst.toNat;let o:=x.fst+x_1.fst;let n:=x_1.snd.snd.length;let y:=x_1.fst+(1:Int);let P:=j 0 x_1.snd.snd.length 1;let I:=((D % c*(bj b x_1.fst.toNat d % c) % c+bj x_1.snd.snd o.toNat d % c) % c+x_1.snd.fst) % c;let Q:=x_1.snd.snd.set o.toNat (I % g);let R:=I / g;let S:=γd .u64 R;let T:=f y;let U:=iy x.snd b D v y.toNat;let B:=x.fst+z;let E:=x_1.snd.snd.set B.toNat (x_1.snd.fst % g);let V:=λ(u u_1:Int) ↦let W:=l m (x_1.snd.snd.set (x.fst+u).toNat (u_1 % g)) 172 true;W.same W/\True;(d<=x_1.fst/\x_1.fst<=r)/\x_1.snd.snd=O.fst/\x_1.snd.fst=O.snd->(decide (x_1.fst<r)=true->d<=x.fst/\x.fst<F/\v<a.length/\d<=x_1.fst/\x_1.fst<z/\x_1.fst.toNat<b.length/\h o/\x_1.snd.snd.length=n/\d<=o/\o<(↑n:Int)/\x_1.snd.snd.length=n/\o.toNat<n/\h o/\d<=(32:Int)/\(32:Int)<=(64:Int)/\x_1.snd.snd.length=n/\d<=o/\o<(↑n:Int)/\x_1.snd.snd.length=n/\o.toNat<n/\h y/\(((e m a).same (e m a)/\(e m b).same (e m b)/\P.same (j 0 Q.length 1)/\s.same s/\S.same S/\t.same t/\s.same s/\H.same H/\T.same T/\True)/\V x_1.fst I)/\((d<=y/\y<=r)/\Q=U.fst/\R=U.snd)/\(r - y).toNat<(r - x_1.fst).toNat)/\(decide (x_1.fst<r)=false->h B/\x_1.snd.snd.length=n/\d<=B/\B<(↑n:Int)/\x_1.snd.snd.length=n/\B.toNat<n/\h w/\(((e m a).same (e m a)/\(e m b).same (e m b)/\P.same (j 0 E.length 1)/\t.same t/\N.same N/\True)/\V z x_1.snd.fst)/\((d<=w/\w<=q)/\bA E/\E.length=G/\bk E=bk (Δ w.toNat a)*bk b)/\(q - w).toNat<(q - x.fst).toNat))/\(decide (x.fst<q)=false->C=x.snd.length/\C<=1000000000000/\(e m (bJ x.snd)).same (e m (cQ (bk a*bk b))))) (by kernel_rfl) ?_;simp only[vcs];refine⟨by omega,by omega,by omega,by omega,by omega,?_,?_⟩
 ·repeat' refine γl ?_ ?_
  all_goals first|omega|exact l8 (by simp)|exact AG|(simp;omega)|(rw[ye];simp[bk])
 rintro⟨i,row⟩ ⟨⟨i0,i1⟩,hr,hl,hv⟩;simp only at i0 i1 hr hl hv ⊢;refine⟨λlW=>⟨⟨⟨by omega,by omega⟩,rfl,rfl⟩,?_⟩,λnD=>?_⟩
 ·rintro⟨k,c,ro⟩ ⟨⟨k0,k1⟩,e1,e2⟩;simp only at k0 k1 e1 e2 ⊢;have x1:=eu ha i.toNat;obtain⟨m1,m2,⟨m3,m4⟩,m5,m6⟩:=@Q5 row b (bj a i.toNat 0) i.toNat hr hb x1.1 x1.2 k.toNat (by omega);have hp:=@abN row b (bj a i.toNat 0) i.toNat k.toNat;generalize iy row b (bj a i.toNat 0) i.toNat k.toNat=M at*;obtain⟨p,q⟩:=M;simp only at e1 e2 m1 m2 m3 m4 m5 m6 hp;subst e1 e2;have hik:(i+k).toNat=i.toNat+k.toNat:=by omega
  have hk1:(k+1).toNat=k.toNat+1:=by omega
  have hi1:(i+1).toNat=i.toNat+1:=by omega
  refine⟨λklt=>?_,λkge=>?_⟩
  ·have x2:=eu hb k.toNat;have x3:=eu m1 (i.toNat+k.toNat);have hxb:0<=bj a i.toNat 0*bj b k.toNat 0:=γx x1.1 x2.1;have aiK:bj a i.toNat 0*bj b k.toNat 0<=4294967295*4294967295:=Int.mul_le_mul (by omega) (by omega) x2.1 (by omega);rw[hik,hk1,hp];have hq:(((bj a i.toNat 0 % 18446744073709551616*(bj b k.toNat 0 % 18446744073709551616) % 18446744073709551616+bj ro (i.toNat+k.toNat) 0 % 18446744073709551616) % 18446744073709551616+c) % 18446744073709551616)=bj a i.toNat 0*bj b k.toNat 0+bj ro (i.toNat+k.toNat) 0+c:=by
    rw[δJ (a:=bj a i.toNat 0) (by omega) (by omega),δJ (a:=bj b k.toNat 0) (by omega) (by omega)];omega
   rw[hq];repeat' refine γl ?_ ?_
   all_goals first|omega|exact l8 (by simp)|rfl
  ·have hkl:k.toNat=b.length:=by omega
   rw[show(i+(b.length:Int)).toNat=i.toNat+b.length by omega];rw[hkl,φ] at m6;rw[hkl] at m5;have hz:bj ro (i.toNat+b.length) 0=0:=by
    rw[m5 _ (π _)];refine Au hr (i:=i.toNat+b.length) ?_ (π _);rw[hv,δ7];have t1:=ou (nC ha i.toNat);rw[γy,εg (by omega)] at t1;have t2:=ou hb;have t3:=fj (nC ha i.toNat);have t4:=fj hb;exact εF (Ξ (γg t2) t3) (γ5 t1 (pow_pos _))
   have hc:c % 4294967296=c:=by omega
   rw[hc,hi1];have hfin:bk (ro.set (i.toNat+b.length) c)=bk (a.take (i.toNat+1))*bk b:=by
    rw[uw (by omega),hz,ζf,m6,hv,lV,Int.add_mul,δl]
   repeat' refine γl ?_ ?_
   all_goals first|omega|exact l8 (by simp)|exact nE m1 m3 m4|exact hfin|(rw[Ψ];omega)
 ·have hi:i.toNat=a.length:=by omega
  rw[hi,φ] at hv;refine⟨by omega,?_⟩;rw[qG hr,hv]
theorem Rl {x m:Int} {k:Nat} (p:0<=x) (t:x<2^k) (o:0<=m) (j:m*2^k<4294967296) (u:x<4294967296):fY.nY .u32 x (m*2^k)=x+m*2^k:=by
 obtain⟨a,rfl⟩:=δp p;obtain⟨b,rfl⟩:=δp o;have e:((b:Int)*2^k)=((2^k*b:Nat):Int):=by grind
 have h:a<2^k:=by grind
 rw[e] at j ⊢;generalize i:2^k*b=c at*;have d:c<4294967296:=by omega
 have f:a<4294967296:=by omega
 have q:(γi 32 ((a:Nat):Int)).toNat=a:=by simp_all
 have r:(γi 32 ((c:Nat):Int)).toNat=c:=by simp_all
 have g:a |||c=a+c:=by
  rw[Nat.or_comm,<-i,<-Nat.two_pow_add_eq_or_of_lt h];omega
 have l:a+c<4294967296:=by
  rw[<-g];exact Nat.or_lt_two_pow (n:=32) f d
 have s:(γi 32 ((a:Nat):Int) |||γi 32 ((c:Nat):Int)).toNat=a+c:=by
  grind
 show eY .u32 ((γi 32 ((a:Nat):Int) |||γi 32 ((c:Nat):Int)).toNat:Nat)=_;grind[sy,IntKind.wrap,IntKind.bits,IntKind.signed]
theorem I2:∀{l:List Int} {i:Nat},bA l->4294967296^i*bj l i 0<=bk l
 |[],i,_=>by simp[bj,bk];|d::l,0,h=>by
  obtain⟨b,a⟩:=jr.1 h;have:=fj a;grind[bj,bk];|d::l,i+1,h=>by
  obtain⟨b,a⟩:=jr.1 h;have:=@I2 l i a;have e:bj (d::l) (i+1) 0=bj l i 0:=by simp[bj]
  rw[e,γV,δ3 (4294967296^i),δl];grind[bk]
theorem Rm {a b:List Int} {i k:Nat} (n:bA a) (e:bA b) (F:b.length=a.length+1) (G:i<a.length) (u:k<=31) (q:bk b=bk (a.take i)*2^k):
  bA ((b.set i (fY.nY .u32 (bj b i 0) (bj a i 0 % 18446744073709551616*2^k % 18446744073709551616 % 4294967296))).set (i+1) (bj a i 0 % 18446744073709551616*2^k % 18446744073709551616 / 4294967296 % 4294967296))/\
  bk ((b.set i (fY.nY .u32 (bj b i 0) (bj a i 0 % 18446744073709551616*2^k % 18446744073709551616 % 4294967296))).set (i+1) (bj a i 0 % 18446744073709551616*2^k % 18446744073709551616 / 4294967296 % 4294967296))=bk (a.take (i+1))*2^k:=by
 have x:=eu n i;have r:=eu e i;have c:(0:Int)<2^k:=δN (by decide);have A:(2:Int)^k<=2147483648:=by
  have D:(2:Nat)^k<=2^31:=δr (by decide) u;grind
 have w:(4294967296:Int)=2^(32 - k)*2^k:=by
  rw[<-δ7,show 32 - k+k=32 by omega];decide
 have B:(0:Int)<2^(32 - k):=δN (by decide);have v:0<=bj a i 0*2^k:=γx x.1 (γg c);have H:bj a i 0*2^k<4294967296*2^k:=γ5 x.2 c;have z:bj a i 0 % 18446744073709551616*2^k % 18446744073709551616=bj a i 0*2^k:=by
  rw[δJ (a:=bj a i 0) (by omega) (by omega),δJ v (by omega)]
 have o:bj a i 0*2^k % 4294967296=(bj a i 0 % 2^(32 - k))*2^k:=by
  conv=>lhs;rw[w]
  rw[δ3 (bj a i 0),δ3 (2^(32 - k)),ζB _ _ c,δ3]
 have p:=δL (bj a i 0) (show(2:Int)^(32 - k)≠0 by omega);have E:=δo (bj a i 0) B;have s:=pow_pos i;have d:bk b<4294967296^i*2^k:=by
  rw[q];have:=ou (nC n i);rw[γy,εg (by omega)] at this;simp_all
 have h:bj b i 0<2^k:=εq (εF (I2 e) d) (γg s);have m:bj b (i+1) 0=0:=by
  refine Au e (i:=i+1) ?_ (π _);rw[γV];exact εE d (Ξ (by omega) (γg s))
 have f:(bj a i 0 % 2^(32 - k))*2^k+2^k<=4294967296:=by
  have:(bj a i 0 % 2^(32 - k)+1)*2^k<=2^(32 - k)*2^k:=γW (by omega) (γg c);grind
 have l:0<=(bj a i 0 % 2^(32 - k))*2^k:=γx p (γg c);have g:=Rl (k:=k) r.1 h p (by omega) r.2;rw[z,o,g];generalize y:bj a i 0*2^k=t at*;have j:(bj a i 0 % 2^(32 - k))*2^k=t % 4294967296:=o.symm;rw[j] at f l ⊢;refine⟨nE (nE e (by omega) (by omega)) (by omega) (by omega),?_⟩;rw[uw (by simp;omega),uw (by omega),pT (by omega),m,lV,Int.add_mul,δl,y,q,γV];have C:t / 4294967296 % 4294967296=t / 4294967296:=by omega
 grind
def shl (a:List Int) (k:Nat):List Int:=ix (a.length+1) (bk a*2^k)
abbrev Rn:=List Int×Int
def AH (a:Rn):Prop:=bA a.1/\a.1.length<=100000000000/\0<=a.2/\a.2<=31
def I3:bM:=⟨187,List Int×Int,.cons (dG (.i .u32)) (.one (eU .u64)),AH,λa=> .row (.i .u32) (shl a.1 a.2.toNat)⟩
def I4:dH where
 f:=187;α:=List Int×Int;put a:=[.row (.i .u32) a.1,.si .u64 a.2];st _:=[];dec v o:=match v,o with
  |[v,m],[]=>match jH (.i .u32) v,m.int .u64 with
   |some p,some m=>some (p,m)
   |_,_=>none
  |_,_=>none;ok v o a h:=by
  split at h
  ·split at h
   ·rename_i h1 h2;simp only[γ] at h;subst h;exact⟨by simp only[gL,o8 h1,iO h2];rfl,rfl⟩
   ·cases h
  ·cases h
 inj a b h _:=by
  simp only[gL,List.cons.injEq,and_true] at h;have h2:=h.2;simp only[SV.g,AV.sc.injEq,Value.int.injEq,true_and] at h2;exact εC ((dG (.i .u32)).inj _ _ h.1) h2
 dom:=AH;res a:=.ow 0 (shl a.1 a.2.toNat).length 1;out a:=[.row (.i .u32) (shl a.1 a.2.toNat) 172 false]
def Ro (a:Rn):Nat->cG
 |3=> .inv (Int×List Int) (λx=>⟨[(0,.row (.i .u32) a.1),(1,.si .u64 a.2),(5,.ow 0 x.2.length 1),(13,.si .i64 a.1.length),(14,.si .i64 x.1)],[.row (.i .u32) x.2 172 false]⟩)
  (λs=>(iS s 14,oS (.i .u32) s 0))
  (λx=>(0<=x.1/\x.1<=a.1.length)/\bA x.2/\x.2.length=a.1.length+1/\bk x.2=bk (a.1.take x.1.toNat)*2^a.2.toNat) (λx=>(a.1.length - x.1).toNat) λ_ _=> .look
 |_=> .look
theorem h168:ef Tryz.prog I4:=by
 refine HV (L:=[]) (W:=[]) I4 (λ_=>none) Ro (by simp) (by simp) ?_;rintro⟨a,s⟩ ⟨ha,hla,s0,s1⟩;simp only at ha hla s0 s1;refine bQ (let b:=(0:Int);let c:=(18446744073709551616:Int);let d:=(4294967296:Int);let e:=γd .i64;let f:=bq.row;let g:=cu .i64;let h:=Ω;let j:=γZ;let w:=(↑a.length:Int);let o:=w+(1:Int);let l:=bp.i .u32;let r:=b::δ a.length b;let m:=(↑a.length:Int);let y:=e m;let A:=f l r 172 false;let z:=a.length+1;let u:=(2:Int)^s.toNat;g o/\b<=o/\o<=o/\o*(4:Int)<=(140737488355328:Int)/\o<=(1000000000000:Int)/\((((h l a).same (h l a)/\(γd .u64 s).same (γd .u64 s)/\(j 0 o.toNat 1).same (j 0 r.length 1)/\(e w).same y/\(γB .i64 0).same (e 0)/\True)/\A.same A/\True)/\(b<=b/\b<=m)/\bA r/\r.length=z/\bk r=bk []*u)/\∀(x:Int×List Int),let p:=x.snd.length;let q:=x.fst.toNat;let B:=bj a q b % c*u % c;let v:=x.snd.set q (fY.nY .u32 (bj x.snd q b) (B % d));let n:=x.snd.length;let k:=x.fst+(1:Int);let C:=j 0 p 1;let t:=v.set k.toNat (B / d % d);let D:=e k;let E:=f l t 172 false;let F:=p=v.length;(b<=x.fst/\x.fst<=m)/\bA x.snd/\p=z/\bk x.snd=bk (Δ q a)*u->(decide (x.fst<m)=true->b<=x.fst/\x.fst<w/\q<a.length/\b<=s/\s<=(64:Int)/\p=n/\b<=x.fst/\x.fst<(↑n:Int)/\p=n/\q<n/\p=n/\b<=x.fst/\x.fst<(↑n:Int)/\p=n/\q<n/\g k/\b<=(32:Int)/\(32:Int)<=(64:Int)/\F/\b<=k/\k<(↑v.length:Int)/\F/\k.toNat<v.length/\g k/\(((h l a).same (h l a)/\(γd .u64 s).same (γd .u64 s)/\C.same (j 0 t.length 1)/\y.same y/\D.same D/\True)/\E.same E/\True)/\((b<=k/\k<=m)/\bA t/\t.length=z/\bk t=bk (Δ k.toNat a)*u)/\(m - k).toNat<(m - x.fst).toNat)/\(decide (x.fst<m)=false->C.same (j 0 (shl a s.toNat).length 1)/\(f l x.snd 172 false).same (f l (shl a s.toNat) 172 false)/\True)) (by kernel_rfl) ?_;simp only[vcs];refine⟨by omega,by omega,by omega,by omega,by omega,?_,?_⟩
 ·repeat' refine γl ?_ ?_
  all_goals first|omega|exact l8 (by simp)|exact jr.2 ⟨by omega,AG⟩|(simp;done)|(simp only[bk,ye];omega)
 rintro⟨i,row⟩ ⟨⟨i0,i1⟩,hr,hl,hv⟩;simp only at i0 i1 hr hl hv ⊢;refine⟨λlW=>?_,λnD=>?_⟩
 ·obtain⟨k1,k2⟩:=Rm ha hr hl (show i.toNat<a.length by omega) (show s.toNat<=31 by omega) hv;have e:(i+1).toNat=i.toNat+1:=by omega
  rw[e];repeat' refine γl ?_ ?_
  all_goals first|omega|exact l8 (by simp)|(simp only[Ψ];done)|(simp only[Ψ];omega)|exact k1|exact k2
 ·have hi:i.toNat=a.length:=by omega
  rw[hi,φ] at hv;have hrow:row=shl a s.toNat:=IJ hr hl hv;rw[hrow];exact⟨rfl,rfl⟩
theorem h168p:Holds Tryz.prog I3:=by
 refine cH (L:=[]) I3 Ro (by simp) ?_;rintro⟨a,s⟩ ⟨ha,hla,s0,s1⟩;simp only at ha hla s0 s1;refine bQ (let b:=(0:Int);let c:=(18446744073709551616:Int);let d:=(4294967296:Int);let e:=γd .i64;let f:=Ω;let g:=cu .i64;let h:=γZ;let v:=(↑a.length:Int);let o:=v+(1:Int);let l:=bp.i .u32;let q:=b::δ a.length b;let m:=(↑a.length:Int);let w:=e m;let z:=bq.row l q 172 false;let y:=a.length+1;let t:=(2:Int)^s.toNat;g o/\b<=o/\o<=o/\o*(4:Int)<=(140737488355328:Int)/\o<=(1000000000000:Int)/\((((f l a).same (f l a)/\(γd .u64 s).same (γd .u64 s)/\(h 0 o.toNat 1).same (h 0 q.length 1)/\(e v).same w/\(γB .i64 0).same (e 0)/\True)/\z.same z/\True)/\(b<=b/\b<=m)/\bA q/\q.length=y/\bk q=bk []*t)/\∀(x:Int×List Int),let n:=x.snd.length;let p:=x.fst.toNat;let A:=bj a p b % c*t % c;let u:=x.snd.set p (fY.nY .u32 (bj x.snd p b) (A % d));let k:=x.snd.length;let j:=x.fst+(1:Int);let r:=u.set j.toNat (A / d % d);let B:=e j;let C:=bq.row l r 172 false;let D:=n=u.length;(b<=x.fst/\x.fst<=m)/\bA x.snd/\n=y/\bk x.snd=bk (Δ p a)*t->(decide (x.fst<m)=true->b<=x.fst/\x.fst<v/\p<a.length/\b<=s/\s<=(64:Int)/\n=k/\b<=x.fst/\x.fst<(↑k:Int)/\n=k/\p<k/\n=k/\b<=x.fst/\x.fst<(↑k:Int)/\n=k/\p<k/\g j/\b<=(32:Int)/\(32:Int)<=(64:Int)/\D/\b<=j/\j<(↑u.length:Int)/\D/\j.toNat<u.length/\g j/\(((f l a).same (f l a)/\(γd .u64 s).same (γd .u64 s)/\(h 0 n 1).same (h 0 r.length 1)/\w.same w/\B.same B/\True)/\C.same C/\True)/\((b<=j/\j<=m)/\bA r/\r.length=y/\bk r=bk (Δ j.toNat a)*t)/\(m - j).toNat<(m - x.fst).toNat)/\(decide (x.fst<m)=false->n=k/\(f l x.snd).same (f l (shl a s.toNat)))) (by kernel_rfl) ?_;simp only[vcs];refine⟨by omega,by omega,by omega,by omega,by omega,?_,?_⟩
 ·repeat' refine γl ?_ ?_
  all_goals first|omega|exact l8 (by simp)|exact jr.2 ⟨by omega,AG⟩|(simp;done)|(simp only[bk,ye];omega)
 rintro⟨i,row⟩ ⟨⟨i0,i1⟩,hr,hl,hv⟩;simp only at i0 i1 hr hl hv ⊢;refine⟨λlW=>?_,λnD=>?_⟩
 ·obtain⟨k1,k2⟩:=Rm ha hr hl (show i.toNat<a.length by omega) (show s.toNat<=31 by omega) hv;have e:(i+1).toNat=i.toNat+1:=by omega
  rw[e];repeat' refine γl ?_ ?_
  all_goals first|omega|exact l8 (by simp)|(simp only[Ψ];done)|(simp only[Ψ];omega)|exact k1|exact k2
 ·have hi:i.toNat=a.length:=by omega
  rw[hi,φ] at hv;have hrow:row=shl a s.toNat:=IJ hr hl hv;rw[hrow]
theorem v8 {U:List Int} {j:Nat} (h:j<=U.length):bk U=bk (U.take j)+4294967296^j*bk (U.drop j):=by
 conv=>lhs;rw[<-γK j U]
 grind[IL]
theorem abP {U l:List Int} {j:Nat} (h:j<=U.length):(js U j l).take j=U.take j:=by
 grind[js]
theorem abQ {U l:List Int} {j:Nat} (h:j<=U.length):(js U j l).drop j=l++U.drop (j+l.length):=by
 grind[js]
theorem abR {U l:List Int} {j:Nat} (a:bA U) (b:bA l):bA (js U j l):=Q0 (nC a _) (Q0 b (As a _))
theorem abS {U q v:List Int} {j m:Nat} {A:Int} (d:bA U) (w:bA v) (G:bA q) (H:2<=v.length) (u:U.length=m+1+v.length) (x:q.length=m+1) (J:j<=m) (p:0<bk v)
  (s:bj q j 0=0) (B:bk U+bk v*bk q=A) (D:bk (U.drop (j+1))<bk v):
  bk (prt U j (v.length+1))<4294967296*bk v/\
  (bA (js U j (ix (v.length+1) (bk (prt U j (v.length+1)) % bk v)))/\(js U j (ix (v.length+1) (bk (prt U j (v.length+1)) % bk v))).length=U.length)/\
  (0<=bk (prt U j (v.length+1)) / bk v/\bk (prt U j (v.length+1)) / bk v<4294967296)/\
  bk (js U j (ix (v.length+1) (bk (prt U j (v.length+1)) % bk v)))+bk v*bk (q.set j (bk (prt U j (v.length+1)) / bk v))=A/\
  bk ((js U j (ix (v.length+1) (bk (prt U j (v.length+1)) % bk v))).drop j)<bk v:=by
 have y:=ou w;have f:=As d (j+1);have l:=fj (uz d (j:=j) (k:=v.length+1));have b:bk (U.drop (j+(v.length+1)))=0:=by
  have e:bk (U.drop (j+1))=bk ((U.drop (j+1)).take v.length)+4294967296^v.length*bk ((U.drop (j+1)).drop v.length):=v8 (by simp;omega);rw[δj,show j+1+v.length=j+(v.length+1) by omega] at e;have I:=fj (nC f v.length);have F:=fj (As d (j+(v.length+1)));by_cases h:bk (U.drop (j+(v.length+1)))=0;·exact h
  ·have:=Ξ (show(1:Int)<=bk (U.drop (j+(v.length+1))) by omega) (γg (pow_pos v.length));omega
 have a:bk (U.drop j)=bk (prt U j (v.length+1)):=by
  have e:bk (U.drop j)=bk ((U.drop j).take (v.length+1))+4294967296^(v.length+1)*bk ((U.drop j).drop (v.length+1)):=v8 (by simp;omega);rw[δj,b,δG,εh] at e;exact e
 have g:bk (U.drop j)=bj U j 0+4294967296*bk (U.drop (j+1)):=by
  rw[DX (show j<U.length by omega)];rfl
 have K:=eu d j;have r:bk (prt U j (v.length+1))<4294967296*bk v:=by omega
 have i:=@Ar (v.length+1) (bk (prt U j (v.length+1)) % bk v);have C:=δL (bk (prt U j (v.length+1))) (show bk v≠0 by omega);have E:=δo (bk (prt U j (v.length+1))) p;have t:bk (ix (v.length+1) (bk (prt U j (v.length+1)) % bk v))=bk (prt U j (v.length+1)) % bk v:=by
  grind[IK]
 have o:bk ((js U j (ix (v.length+1) (bk (prt U j (v.length+1)) % bk v))).drop j)=bk (prt U j (v.length+1)) % bk v:=by
  grind[abQ,IL]
 have c:(js U j (ix (v.length+1) (bk (prt U j (v.length+1)) % bk v))).length=U.length:=Q7 (by rw[i];omega);have n:0<=bk (prt U j (v.length+1)) / bk v:=δM l (by omega);refine⟨r,⟨abR d II,c⟩,⟨n,εR p r⟩,?_,by omega⟩;rw[v8 (U:=js U j _) (j:=j) (by rw[c];omega),abP (by omega),o,uw (by omega),s,ζf];rw[v8 (U:=U) (j:=j) (by omega),a] at B;have z:=εf (bk (prt U j (v.length+1))) (bk v);grind
theorem Rq {a b:List Int} {s:Nat} (k:bA a) (w:bA b) (u:s<=31) (l:b.length<=a.length) (q:1<=b.length) (d:1<=bj b (b.length - 1) 0):
  bA (shl a s)/\(shl a s).length=a.length+1/\bk (shl a s)=bk a*2^s/\bk ((shl a s).drop (a.length - b.length+1))<bk b*2^s:=by
 have e:(0:Int)<2^s:=δN (by decide);have v:(2:Int)^s<=2147483648:=by
  have h:(2:Nat)^s<=2^31:=δr (by decide) u;grind
 have f:=fj k;have g:=ou k;have n:bk a*2^s<4294967296^a.length*2^s:=γ5 g e;have c:bk (shl a s)=bk a*2^s:=by
  unfold shl;refine IK (γx f (γg e)) (εE n ?_);rw[γV];exact Ξ (by omega) (γg (pow_pos _))
 have i:bA (shl a s):=II;have t:(shl a s).length=a.length+1:=Ar;refine⟨i,t,c,?_⟩;have h:=v8 (U:=shl a s) (j:=a.length - b.length+1) (by omega);have y:=fj (nC i (a.length - b.length+1));have x:4294967296^(b.length - 1)*bj b (b.length - 1) 0<=bk b:=I2 w;have o:(4294967296:Int)^(b.length - 1)<=bk b:=by
  have:=Ξ d (γg (pow_pos (b.length - 1)));omega
 have m:(4294967296:Int)^a.length=4294967296^(a.length - b.length+1)*4294967296^(b.length - 1):=by
  rw[<-δ7];congr 1;omega
 rw[c] at h;have p:(4294967296:Int)^(a.length - b.length+1)*bk ((shl a s).drop (a.length - b.length+1))<4294967296^(a.length - b.length+1)*(4294967296^(b.length - 1)*2^s):=by
  rw[<-δl,<-m];omega
 have r:=εq p (γg (pow_pos _));exact εE r (γW o (γg e))
theorem abT {x y:Int} {s:Nat} (n:0<=x) (u:x<4294967296) (t:0<=y) (o:y<4294967296) (g:0<s) (q:s<=31):
  ∃r,fY.nY .u32 (x / 2^s) (y*2^(32 - s) % 4294967296)=r/\(0<=r/\r<4294967296)/\2^s*r=x - x % 2^s+4294967296*(y % 2^s):=by
 have b:(0:Int)<2^s:=δN (by decide);have c:(0:Int)<2^(32 - s):=δN (by decide);have l:(4294967296:Int)=2^s*2^(32 - s):=by
  rw[<-δ7,show s+(32 - s)=32 by omega];decide
 have f:y*2^(32 - s) % 4294967296=(y % 2^s)*2^(32 - s):=by
  conv=>lhs;rw[l]
  rw[δ3 y,δ3 (2^s),ζB _ _ c,δ3]
 have d:=δL y (show(2:Int)^s≠0 by omega);have p:=δo y b;have e:0<=x / 2^s:=δM n (γg b);have m:x / 2^s<2^(32 - s):=εR b (by grind);have h:(y % 2^s)*2^(32 - s)+2^(32 - s)<=4294967296:=by
  have:=γW (show y % 2^s+1<=2^s by omega) (γg c);grind
 have j:0<=(y % 2^s)*2^(32 - s):=γx d (γg c);have a:=Rl (k:=32 - s) e m d (by omega) (by omega);refine⟨x / 2^s+(y % 2^s)*2^(32 - s),by rw[f,a],⟨by omega,by omega⟩,?_⟩;have i:=εf x (2^s);grind
theorem Rr {U r:List Int} {i s:Nat} {d:Int} (b:bA U) (c:bA r) (h:i<r.length) (g:∀j,i<=j->bj r j 0=0) (a:0<=d/\d<4294967296)
  (f:2^s*d=bj U i 0 - bj U i 0 % 2^s+4294967296*(bj U (i+1) 0 % 2^s))
  (e:2^s*bk r=bk (U.take i) - bj U 0 0 % 2^s+4294967296^i*(bj U i 0 % 2^s)):
  bA (r.set i d)/\(r.set i d).length=r.length/\(∀j,i+1<=j->bj (r.set i d) j 0=0)/\
  2^s*bk (r.set i d)=bk (U.take (i+1)) - bj U 0 0 % 2^s+4294967296^(i+1)*(bj U (i+1) 0 % 2^s):=by
 grind[nE,pT,uw,lV]
theorem abU {U r v q:List Int} {n s:Nat} {a b:Int} (f:bA U) (A:bA r) (y:bA v) (g:v.length=n) (u:bk U<bk v) (J:bk v=b*2^s) (C:0<b) (D:bk U+bk v*bk q=a*2^s)
  (G:s<=31) (x:n+1<=U.length)
  (c:2^s*bk r=bk (U.take n) - bj U 0 0 % 2^s+4294967296^n*(bj U n 0 % 2^s)):bk q=a / b/\bk r=a % b:=by
 have H:(0:Int)<2^s:=δN (by decide);have m:=ou y;rw[g] at m;have o:bj U n 0=0:=Au f (i:=n) (by omega) (π _);have e:bk (U.take n)=bk U:=by
  have k:=v8 (U:=U) (j:=n) (by omega);have p:=fj (nC f n);have w:=fj (As f n);by_cases h:bk (U.drop n)=0;·simp_all
  ·have:=Ξ (show(1:Int)<=bk (U.drop n) by omega) (γg (pow_pos n));omega
 have d:bk U=2^s*(a - b*bk q):=by
  grind
 have l:bj U 0 0 % 2^s=0:=by
  have k:=@lV U 0;have p:=v8 (U:=U) (j:=1) (by omega);have E:(4294967296:Int)=2^s*2^(32 - s):=by
   rw[<-δ7,show s+(32 - s)=32 by omega];decide
  simp only[Nat.zero_add,εp,bk,ζK,εx,Int.zero_add] at k;rw[k,γV,ζK,εx] at p;have w:bj U 0 0=2^s*(a - b*bk q - 2^(32 - s)*bk (U.drop 1)):=by
   grind
  simp_all
 rw[o,l,e,Int.zero_emod,δG,ζf,εh,d] at c;have t:bk r=a - b*bk q:=Int.eq_of_mul_eq_mul_left (by omega) c;have B:=fj A;have z:bk r<b:=by
  have:2^s*bk r<2^s*b:=by
   grind
  simp_all
 obtain⟨F,I⟩:=vZ (X:=a) (V:=b) (q:=bk q) (by grind) (by grind);grind
theorem D2:∀{w:List Int},bA w->fS w->w≠[]->4294967296^(w.length - 1)<=bk w
 |[],_,_,h=>absurd rfl h
 |[d],a,b,_=>by
  have f:=(jr.1 a).1;have c:=b.1 rfl;grind[bk];|d::e::l,a,b,_=>by
  obtain⟨f,c⟩:=jr.1 a;have g:=D2 c b.2 (by simp);have i:bk (d::e::l)=d+4294967296*bk (e::l):=rfl;simp only[γD,ζY] at g ⊢;omega
theorem D3 {a b:Nat} (h:a<=b):(4294967296:Int)^a<=4294967296^b:=by
 obtain⟨m,rfl⟩:=Nat.exists_eq_add_of_le h;rw[δ7];have c:=pow_pos a;have d:=pow_pos m;have:=Ξ (show(1:Int)<=4294967296^m by omega) (γg c);omega
theorem I5 {t:List Int} {s:Nat} (e:bA t) (H:1<=t.length) (G:s<=31) (d:bj t (t.length - 1) 0*2^s<4294967296) (c:2147483648<=bj t (t.length - 1) 0*2^s):
  bA (bJ (shl t s))/\(bJ (shl t s)).length=t.length/\bk (bJ (shl t s))=bk t*2^s/\2147483648<=bj (bJ (shl t s)) (t.length - 1) 0/\1<=bj t (t.length - 1) 0:=by
 have o:(0:Int)<2^s:=δN (by decide);have q:=eu e (t.length - 1);have a:1<=bj t (t.length - 1) 0:=by
  grind
 obtain⟨y,N,z,_⟩:=Rq e e G (π _) H a;obtain⟨f,E⟩:=@rJ (shl t s);have i:=sT y;rw[z] at f;generalize bJ (shl t s)=w at*;obtain⟨n,A⟩:∃n,t.length=n+1:=⟨t.length - 1,by omega⟩;rw[A] at d c a q ⊢;simp only[ζY] at d c a q ⊢;have p:=pow_pos n;have v:bk t=bk (t.take n)+4294967296^n*bj t n 0:=by
  grind[lV]
 have B:=fj (nC e n);have k:=ou (nC e n);rw[γy,εg (by omega)] at k;have J:(4294967296:Int)=2^(32 - s)*2^s:=by
  rw[<-δ7,show 32 - s+s=32 by omega];decide
 have L:(0:Int)<2^(32 - s):=δN (by decide);have D:bj t n 0<2^(32 - s):=by
  simp_all
 have l:(bj t n 0+1)*2^s<=4294967296:=by
  have:=γW (show bj t n 0+1<=2^(32 - s) by omega) (γg o);omega
 have x:bk w<4294967296^(n+1):=by
  rw[f,γV];have F:bk t<4294967296^n*(bj t n 0+1):=by grind
  have M:=γ5 F o;have I:=Ξ l (γg p);grind
 have u:4294967296^n*(bj t n 0*2^s)<=bk w:=by
  rw[f,<-δl];exact γW (by omega) (γg o)
 have r:(4294967296:Int)^n<=bk w:=by
  have:=Ξ (show(1:Int)<=bj t n 0*2^s by omega) (γg p);omega
 have b:w.length=n+1:=by
  have K:n<w.length:=by
   by_cases h:n<w.length;·exact h
   ·have:=ou i;have:=D3 (show w.length<=n by omega);omega
  by_cases h:w.length=n+1;·exact h
  ·have j:w≠[]:=by grind
   have:=D2 i E j;have:=D3 (show n+1<=w.length - 1 by omega);omega
 refine⟨i,b,f,?_,a⟩;have C:bk w=bk (w.take n)+4294967296^n*bj w n 0:=by
  grind[lV]
 have m:=ou (nC i n);rw[γy,εg (by omega)] at m;have g:4294967296^n*(bj t n 0*2^s)<4294967296^n*(bj w n 0+1):=by grind
 have:=εq g (γg p);omega
@[reducible] def sF:bp:=.pair .b (.pair (.bB (.i .u32)) (.bB (.i .u32)))
abbrev bL:=Bool×(List Int×List Int)
def bu (q:Rat):bL:=(decide (q<0),(cQ (q.num.natAbs:Int),cQ (q.den:Int)))
def bV (x:bL):Rat:=mkRat (if x.1 then -bk x.2.1 else bk x.2.1) (bk x.2.2).toNat
def Sz (k:Nat) (q:Rat):Prop:=(q.num.natAbs:Int)<4294967296^k/\(q.den:Int)<4294967296^k
theorem mK {n:Int} {k:Nat} (e:0<=n) (h:n<4294967296^k):(cQ n).length<=k:=by
 obtain⟨f,b,d⟩:=gn e;by_cases c:(cQ n).length<=k;·exact c
 ·have a:cQ n≠[]:=by grind
  have:=D2 b d a;have:=D3 (show k<=(cQ n).length - 1 by omega);omega
theorem eD (q:Rat):bV (bu q)=q:=by
 unfold bV bu;have a:=(gn (show(0:Int)<=(q.num.natAbs:Int) by omega)).1;have b:=(gn (show(0:Int)<=(q.den:Int) by omega)).1;simp only[a,b,decide_eq_true_eq,γn];grind[Rat.num_nonneg,δW]
theorem Rt {N:Int} {D:Nat} (a:D≠0):(mkRat N D).num.natAbs=N.natAbs / N.natAbs.gcd D/\(mkRat N D).den=D / N.natAbs.gcd D:=by
 rw[<-ζE a,Rat.normalize_eq a];simp only;refine⟨?_,trivial⟩;have b:0<N.natAbs.gcd D:=Nat.gcd_pos_of_pos_right _ (by omega);have c:((N.natAbs.gcd D:Nat):Int)∣N:=Int.ofNat_dvd_left.2 (ζ6 _ _);generalize N.natAbs.gcd D=g at*;obtain⟨m,rfl⟩:=c;rw[ζs _ (by omega),εr,ζg,Nat.mul_div_cancel_left _ b]
theorem abV {N:Int} {D:Nat} (f:D≠0):mkRat N D<0↔N<0:=by
 have i:(0:Rat)=mkRat 0 D:=(Rat.zero_mkRat D).symm;have e:mkRat N D<0↔¬0<=mkRat N D:=Rat.not_le.symm;rw[e,<-Rat.num_nonneg];have g:=Rat.num_divInt_den (mkRat N D);have c:(mkRat N D).num*(D:Int)=N*((mkRat N D).den:Int):=by
  grind[Rat.mkRat_eq_iff,mkRat,δW]
 have d:(0:Int)<((mkRat N D).den:Int):=by have:=(mkRat N D).den_pos;omega
 have b:(0:Int)<(D:Int):=by omega
 constructor
 ·intro h;by_cases a:N<0;·exact a
  ·exfalso;apply h;have:0<=(mkRat N D).num*(D:Int):=by rw[c];exact γx (by omega) (by omega)
   exact Int.nonneg_of_mul_nonneg_left this b
 ·intro a h;have:0<=(mkRat N D).num*(D:Int):=γx h (by omega);rw[c] at this;have:=εs a d;omega
theorem Ru {s:Bool} {n d:Int} (n0:0<=n) (f:0<d):bu (mkRat (if s then -n else n) d.toNat)=(s&&decide (0<n),(cQ (n / eC n d),cQ (d / eC n d))):=by
 have e:d.toNat≠0:=by omega
 obtain⟨b,c⟩:=Rt (N:=if s then -n else n) e;have a:(if s then -n else n).natAbs=n.toNat:=by split<;>omega
 unfold bu;rw[b,c,a];have g:eC n d=((n.toNat.gcd d.toNat:Nat):Int):=rfl;refine εC ?_ (εC ?_ ?_)
 ·simp only;rw[ζL];simp only[decide_eq_true_eq,Bool.and_eq_true];grind[abV]
 all_goals grind
theorem AI {N:Int} {D:Nat} {k:Nat} (b:D≠0) (f:(N.natAbs:Int)<4294967296^k) (e:(D:Int)<4294967296^k):Sz k (mkRat N D):=by
 obtain⟨c,a⟩:=Rt (N:=N) b;unfold Sz;rw[c,a];have g:=Nat.div_le_self N.natAbs (N.natAbs.gcd D);have d:=Nat.div_le_self D (N.natAbs.gcd D);omega
theorem Sz.mono {j k:Nat} {q:Rat} (h:Sz j q) (a:j<=k):Sz k q:=by
 have:=D3 a;exact⟨by have:=h.1;omega,by have:=h.2;omega⟩
theorem Rw (p q:Rat):p+q=mkRat (p.num*q.den+q.num*p.den) (p.den*q.den):=by
 rw[Rat.add_def,ζE]
theorem AK {p q:Rat} {i j:Nat} (e:Sz i p) (c:Sz j q):Sz (i+j+1) (p+q):=by
 rw[Rw];have g:=p.den_pos;have l:=q.den_pos;have k:p.den*q.den≠0:=Nat.ne_of_gt (Nat.mul_pos g l);have m:∀{a b:Int} {i j:Nat},0<=a->0<=b->a<4294967296^i->b<4294967296^j->a*b<4294967296^(i+j):=by
  intro a b i j h o f d;rw[δ7];exact εF (Ξ (γg d) h) (γ5 f (pow_pos _))
 have f:=m (by omega) (by omega) e.1 c.2;have d:=m (by omega) (by omega) c.1 e.2;have n:=m (by omega) (by omega) e.2 c.2;rw[Nat.add_comm j i] at d;have t:=pow_pos (i+j);refine AI k ?_ ?_
 ·have r:(p.num*(q.den:Int)).natAbs=p.num.natAbs*q.den:=by rw[εr,ζg]
  have s:(q.num*(p.den:Int)).natAbs=q.num.natAbs*p.den:=by rw[εr,ζg]
  omega
 omega
theorem AL {p:Rat} {i:Nat} (a:Sz i p):Sz i (-p):=by
 grind[Sz,Rat.neg_num,Rat.neg_den]
def yg:bM:=⟨138,Int,.one (eU .u64),λx=>0<=(show Int from x)/\(show Int from x)<18446744073709551616,λx=> .row (.i .u32) (cQ x)⟩
theorem h128:Holds Tryz.prog yg:=by
 refine cH (L:=[rI]) yg lk (by grind[h152]) ?_;intro(x:Int) h;obtain⟨b,a⟩:0<=x/\x<18446744073709551616:=h;refine bQ (let a:=(4294967296:Int);(0:Int)<=(32:Int)/\(32:Int)<=(64:Int)/\2<=1000000000000/\(Ω (bp.i .u32) (bJ [x % a,x / a % a])).same (Ω (bp.i .u32) (cQ x))) (by kernel_rfl) ?_;simp only[vcs];grind[bA,qG,bk]
def QD:List bM:=[rI,ya,Aq,IE,yg,I3]
theorem hQD:∀c∈QD,Holds Tryz.prog c:=by
 simp only[QD,List.forall_mem_cons,List.not_mem_nil,false_implies,implies_true,and_true];grind[h152,h132,h154,h167,h128,h168p]
def WD:List dH:=[I4,IV]
theorem hWD:∀c∈WD,ef Tryz.prog c:=by
 simp_all[WD,h168,h169]
def D4:bM:=⟨182,List Int×List Int,.cons (dG (.i .u32)) (.one (dG (.i .u32))),λa=>(bA a.1/\bA a.2)/\(a.1.length<=10000000000/\a.2.length<=10000000000)/\0<bk a.2,
 λa=> .bI [.row (.i .u32) (cQ (bk a.1 / bk a.2)),.row (.i .u32) (cQ (bk a.1 % bk a.2)),.si .i64 0]⟩
def sW (a:List Int×List Int) (s:Int):Prop:=(0<=s/\s<=31)/\bj (bJ a.2) ((bJ a.2).length - 1) 0*2^s.toNat<4294967296/\2147483648<=bj (bJ a.2) ((bJ a.2).length - 1) 0*2^s.toNat
def abY (a:List Int×List Int):Nat->cG
 |10=> .inv Int (λs=>⟨[(0,.row (.i .u32) (bJ a.1)),(1,.row (.i .u32) (bJ a.2)),(9,.si .u64 s)],[]⟩) (λs=>iS s 9)
  (λs=>(0<=s/\s<=31)/\bj (bJ a.2) ((bJ a.2).length - 1) 0*2^s.toNat<4294967296) (λs=>(32 - s).toNat) λ_ _=> .look
 |17=> .inv (Int×Int×List Int×List Int) (λx=>⟨[(4,.ow 1 x.2.2.2.length 1),(9,.si .u64 x.2.1),(10,.ow 0 x.2.2.1.length 1),(11,.row (.i .u32) (bJ (shl (bJ a.2) x.2.1.toNat))),(12,.si .i64 (bJ (shl (bJ a.2) x.2.1.toNat)).length),
   (13,.si .i64 ((bJ a.1).length - (bJ a.2).length)),(74,.si .i64 ((bJ a.1).length - (bJ a.2).length+1)),(75,.si .i64 x.1)],[.row (.i .u32) x.2.2.1 172 false,.row (.i .u32) x.2.2.2 172 true]⟩)
  (λs=>(iS s 75,iS s 9,oS (.i .u32) s 0,oS (.i .u32) s 1))
  (λx=>(0<=x.1/\x.1<=(bJ a.1).length - (bJ a.2).length+1)/\sW a x.2.1/\(bA x.2.2.1/\x.2.2.1.length=(bJ a.1).length+1)/\(bA x.2.2.2/\x.2.2.2.length=(bJ a.1).length - (bJ a.2).length+1)/\
   (∀j:Nat,(j:Int)<(bJ a.1).length - (bJ a.2).length+1 - x.1->bj x.2.2.2 j 0=0)/\
   bk x.2.2.1+bk (bJ (shl (bJ a.2) x.2.1.toNat))*bk x.2.2.2=bk (bJ a.1)*2^x.2.1.toNat/\
   bk (x.2.2.1.drop (((bJ a.1).length - (bJ a.2).length+1 - x.1:Int).toNat))<bk (bJ (shl (bJ a.2) x.2.1.toNat)))
  (λx=>((bJ a.1).length - (bJ a.2).length+1 - x.1:Int).toNat) λ_ _=> .look
 |24=> .inv (Int×Int×List Int×List Int×List Int) (λx=>⟨[(4,.ow 1 x.2.2.2.1.length 1),(5,.ow 2 x.2.2.2.2.length 1),(9,.si .u64 x.2.1),(10,.ow 0 x.2.2.1.length 1),(100,.si .i64 (bJ (shl (bJ a.2) x.2.1.toNat)).length),(101,.si .i64 x.1)],
   [.row (.i .u32) x.2.2.1 172 false,.row (.i .u32) x.2.2.2.1 172 true,.row (.i .u32) x.2.2.2.2 172 true]⟩)
  (λs=>(iS s 101,iS s 9,oS (.i .u32) s 0,oS (.i .u32) s 1,oS (.i .u32) s 2))
  (λx=>(0<=x.1/\x.1<=(bJ (shl (bJ a.2) x.2.1.toNat)).length)/\sW a x.2.1/\(bA x.2.2.1/\x.2.2.1.length=(bJ a.1).length+1)/\(bA x.2.2.2.1/\x.2.2.2.1.length=(bJ a.1).length - (bJ a.2).length+1)/\
   bk x.2.2.1+bk (bJ (shl (bJ a.2) x.2.1.toNat))*bk x.2.2.2.1=bk (bJ a.1)*2^x.2.1.toNat/\bk x.2.2.1<bk (bJ (shl (bJ a.2) x.2.1.toNat))/\
   (bA x.2.2.2.2/\x.2.2.2.2.length=(bJ (shl (bJ a.2) x.2.1.toNat)).length)/\(∀j,x.1.toNat<=j->bj x.2.2.2.2 j 0=0)/\
   2^x.2.1.toNat*bk x.2.2.2.2=bk (x.2.2.1.take x.1.toNat) - bj x.2.2.1 0 0 % 2^x.2.1.toNat+4294967296^x.1.toNat*(bj x.2.2.1 x.1.toNat 0 % 2^x.2.1.toNat))
  (λx=>((bJ (shl (bJ a.2) x.2.1.toNat)).length - x.1).toNat) λ_ _=> .look
 |_=> .look
theorem h166g:Holds Tryz.prog D4:=by
 refine con (L:=QD) (W:=gP WD) D4 abY (kY hWD) hQD ?_;rintro⟨a,b⟩ ⟨⟨ha,hb⟩,⟨hla,hlb⟩,b0⟩;simp only at ha hb hla hlb b0;refine bQ (let c:=(0:Int);let d:=(4294967296:Int);let e:=(18446744073709551616:Int);let f:=Ω;let g:=γd .i64;let h:=cu .i64;let k:=bq.row;let l:=(1:Int);let m:=γZ;let n:=(32:Int);let o:=(140737488355328:Int);let p:=(1000000000000:Int);let q:=(2:Int);let r:=SV.bI;let s:=(31:Int);let z0:Nat:=(bJ b).length;let N:=(↑z0:Int);let av:=decide (N=c);let ag:=f (bp.i .i64) [];let t:=bp.i .u32;let ah:=g 0;let aa:=r [f t (cQ (bk a / bk b)),f t (cQ (bk a % bk b)),ah];let z7:Nat:=(bJ a).length;let z8:Nat:=(bJ b).length;let F:=bk (bJ a);let aw:=decide (lX F (bk (bJ b))<c);let a1:=γB .i64 0;let ax:=decide (N=l);let ab:=bj (bJ b) 0 c;let ai:=F % ab % e;let aj:=bj (bJ b) (z8 - 1) c;let a2:=N - l;let ak:=(↑(bJ a).length:Int) - N;let B:=ak+l;let O:=δ B.toNat c;let al:=(↑z7:Int) - (↑z8:Int);let am:=g al;let y:=al+l;let an:=g y;let ay:=k t O 172 true;let P:=z7+1;let Q:=z7 - z8+1;a.length<=1000000000000/\b.length<=1000000000000/\(av=true->(r [ag,ag,γB .i64 8]).same aa)/\(av=false->((bA (bJ a)/\bA (bJ b))/\z7<=1000000000000/\z8<=1000000000000)/\(aw=true->((bA (bJ a)/\bA [])/\z7<=100000000000/\0<=100000000000)/\(r [ag,f t (cQ (F+bk [])),a1]).same aa)/\(aw=false->(ax=true->c<=c/\c<N/\0<z0/\(bA (bJ a)/\z7<=100000000000/\c<ab/\ab<d)/\(c<=ai/\ai<e)/\(r [f t (cQ (F / ab)),f t (cQ ai),a1]).same aa)/\(ax=false->((((f t (bJ a)).same (f t (bJ a))/\(f t (bJ b)).same (f t (bJ b))/\(γB .u64 0).same (γd .u64 0)/\True)/\True)/\(c<=c/\c<=s)/\aj*l<d)/\∀(x:Int),let ao:=q^x.toNat;let a3:=(x+l) % e;let az:=γd .u64 a3;let aA:=shl (bJ b) x.toNat;let R:=shl (bJ a) x.toNat;let aB:=m 0 R.length 1;let S:=bJ aA;let aC:=k t R 172 false;let aD:=λ(u:Bool) ↦decide (bj (bJ b) a2.toNat c*ao % d<(2147483648:Int))=u;(c<=x/\x<=s)/\aj*ao<d->h a2/\c<=a2/\a2<N/\a2.toNat<z0/\c<=x/\x<=n/\(aD true->(((f t (bJ a)).same (f t (bJ a))/\(f t (bJ b)).same (f t (bJ b))/\az.same az/\True)/\True)/\((c<=a3/\a3<=s)/\aj*q^a3.toNat<d)/\(n - a3).toNat<(n - x).toNat)/\(aD false->AH (bJ a,x)/\AH (bJ b,x)/\aA.length<=1000000000000/\h ak/\h B/\c<=B/\B<=B/\B*(4:Int)<=o/\B<=p/\h B/\((((m 1 B.toNat 1).same (m 1 O.length 1)/\(γd .u64 x).same (γd .u64 x)/\aB.same aB/\(f t S).same (f t S)/\(g (↑S.length:Int)).same (g (↑S.length:Int))/\(g ak).same am/\(g B).same an/\a1.same ah/\True)/\aC.same aC/\ay.same ay/\True)/\(c<=c/\c<=y)/\sW (a,b) x/\(bA R/\R.length=P)/\(bA O/\O.length=Q)/\(∀(j:Nat),(↑j:Int)<y - c->bj O j c=c)/\bk R+bk S*bk O=F*ao/\bk (γ4 (y - c).toNat R)<bk S)/\∀(x:Int×Int×List Int×List Int),let C:=x.snd.snd.fst;let T:=bJ (shl (bJ b) x.snd.fst.toNat);let U:=bk T;let w:=x.snd.snd.snd;let ac:=q^x.snd.fst.toNat;let V:=C.length;let aE:=decide (x.fst<y);let G:=al - x.fst;let z:=(↑T.length:Int);let a4:=G+z+l;let a5:=G.toNat;let a6:=a4.toNat;let H:=nG.mk C a5 (a6 - a5) V T;let K:=x.fst+l;let ap:=m 1 w.length 1;let W:=w.set a5 (H.x / U);let ad:=γd .u64 x.snd.fst;let aq:=m 0 V 1;let ae:=g z;let aF:=g K;let aG:=k t H.row 172 false;let aH:=k t W 172 true;let X:=δ z.toNat c;let aI:=k t C 172 false;let aJ:=k t w 172 true;let aK:=k t X 172 true;let aL:=bj C 0 c % ac;let aM:=bk C+U*bk w=F*ac;(c<=x.fst/\x.fst<=y)/\sW (a,b) x.snd.fst/\(bA C/\V=P)/\(bA w/\w.length=Q)/\(∀(j:Nat),(↑j:Int)<y - x.fst->bj w j c=c)/\aM/\bk (γ4 (y - x.fst).toNat C)<U->(aE=true->h G/\h (G+z)/\h a4/\h (G+z)/\h a4/\V=C.length/\c<=G/\c<=a4/\c<=a4/\a5<=a6/\a6<=a6/\a6<=V/\H.ok/\w.length=w.length/\c<=G/\G<(↑w.length:Int)/\w.length=w.length/\a5<w.length/\h K/\((ap.same (m 1 W.length 1)/\ad.same ad/\aq.same (m 0 H.row.length 1)/\(f t T).same (f t T)/\ae.same ae/\am.same am/\an.same an/\aF.same aF/\True)/\aG.same aG/\aH.same aH/\True)/\((c<=K/\K<=y)/\sW (a,b) x.snd.fst/\(bA H.row/\H.row.length=P)/\(bA W/\W.length=Q)/\(∀(j:Nat),(↑j:Int)<y - K->bj W j c=c)/\bk H.row+U*bk W=F*ac/\bk (γ4 (y - K).toNat H.row)<U)/\(y - K).toNat<(y - x.fst).toNat)/\(aE=false->c<=z/\z<=z/\z*(4:Int)<=o/\z<=p/\(((ap.same ap/\(m 2 z.toNat 1).same (m 2 X.length 1)/\ad.same ad/\aq.same aq/\ae.same ae/\a1.same ah/\True)/\aI.same aI/\aJ.same aJ/\aK.same aK/\True)/\(c<=c/\c<=z)/\sW (a,b) x.snd.fst/\(bA C/\V=P)/\(bA w/\w.length=Q)/\aM/\bk C<U/\(bA X/\X.length=T.length)/\(∀(j:Nat),0<=j->bj X j c=c)/\ac*bk X=bk [] - aL+l*aL)/\∀(x:Int×Int×List Int×List Int×List Int),let aN:=γd .u64 x.snd.fst;let v:=x.snd.snd.fst;let aO:=m 0 v.length 1;let Y:=bJ (shl (bJ b) x.snd.fst.toNat);let Z:=(↑Y.length:Int);let aP:=g Z;let E:=x.fst+l;let aQ:=g E;let A:=x.snd.snd.snd.snd;let L:=A.length;let D:=x.fst.toNat;let ar:=bj v D c;let I:=q^x.snd.fst.toNat;let a7:=A.set D (ar / I);let M:=x.snd.snd.snd.fst;let a8:=M.length;let aR:=m 1 a8 1;let aS:=k t v 172 false;let aT:=k t M 172 true;let a9:=E.toNat;let aU:=bj v 0 c % I;let aV:=bj v a9 c;let aW:=decide (x.fst<Z);let J:=v.length;let aX:=decide (c<x.snd.fst);let au:=(n - x.snd.fst) % e;let b3:=aN.same aN/\aO.same aO/\aP.same aP/\aQ.same aQ/\True;let af:=L=a7.length;let aY:=x.fst<(↑a7.length:Int);let aZ:=D<a7.length;let b0:=bk v+bk Y*bk M=F*I;let b4:=(Z - E).toNat<(Z - x.fst).toNat;let b5:=aR.same aR;let b6:=c<=E/\E<=Z;let b1:=λ(u:List Int) (u_1:Int) ↦let a0:=u.set D u_1;let b2:=k t a0 172 true;h E/\((b5/\(m 2 L 1).same (m 2 a0.length 1)/\b3)/\aS.same aS/\aT.same aT/\b2.same b2/\True)/\(b6/\sW (a,b) x.snd.fst/\(bA v/\v.length=P)/\(bA M/\a8=Q)/\b0/\bk v<bk Y/\(bA a0/\a0.length=Y.length)/\(∀(j:Nat),a9<=j->bj a0 j c=c)/\I*bk a0=bk (Δ a9 v) - aU+d^a9*(aV % I))/\b4;(c<=x.fst/\x.fst<=Z)/\sW (a,b) x.snd.fst/\(bA v/\v.length=P)/\(bA M/\a8=Q)/\b0/\bk v<bk Y/\(bA A/\L=Y.length)/\(∀(j:Nat),D<=j->bj A j c=c)/\I*bk A=bk (Δ D v) - aU+d^D*(ar % I)->(aW=true->v.length=J/\c<=x.fst/\x.fst<(↑J:Int)/\v.length=J/\D<J/\c<=x.snd.fst/\x.snd.fst<=n/\L=A.length/\c<=x.fst/\x.fst<(↑A.length:Int)/\L=A.length/\D<A.length/\(aX=true->af/\c<=x.fst/\aY/\af/\aZ/\h E/\v.length=J/\c<=E/\E<(↑J:Int)/\v.length=J/\a9<J/\c<=au/\au<=n/\af/\c<=x.fst/\aY/\af/\aZ/\b1 a7 (fY.nY .u32 (bj a7 D c) (aV*q^au.toNat % d)))/\(aX=false->b1 A (ar / I)))/\(aW=false->a8=M.length/\L=A.length/\a8<=1000000000000/\L<=1000000000000/\(r [f t (bJ M),f t (bJ A),a1]).same aa))))))) (by kernel_rfl) ?_;simp only[vcs];obtain⟨va,na⟩:=@rJ a;obtain⟨vb,nb⟩:=@rJ b;have da:=sT ha;have db:=sT hb;have la:=@uv a;have lb:=@uv b;have p0:=fj da;have d0:bA []:=by simp[bA]
 simp only[sW];rw[<-va,<-vb];rw[<-vb] at b0;generalize bJ a=S at*;generalize bJ b=T at*;have hm:=δL (bk S) (show bk T≠0 by omega);have hl:=δo (bk S) b0;have hT1:T.length≠0:=by
  intro h;rw[χ h] at b0;exact absurd b0 (by decide)
 refine⟨by omega,by omega,λh0=>by omega,λh0=>⟨⟨⟨da,db⟩,by omega,by omega⟩,λhlt=>⟨⟨⟨da,d0⟩,by omega,by omega⟩,?_⟩,λhge=>⟨λh1=>?_,λh1=>⟨?_,?_⟩⟩⟩⟩
 ·have hab:bk S<bk T:=by unfold lX at hlt;split at hlt<;>(try split at hlt)<;>omega
  have hdv:bk S / bk T=0:=Int.ediv_eq_zero_of_lt p0 hab;have hmv:bk S % bk T=bk S:=δJ p0 hab;refine⟨Ri (by rw[hdv];rfl),?_⟩;rw[hmv];simp[bk]
 ·obtain⟨d,rfl⟩:∃d,T=[d]:=List.length_eq_one_iff.1 (by omega);have hd:=(jr.1 db).1;have abZ:bj [d] 0 0=d:=rfl;have hv:bk [d]=d:=by simp[bk]
  rw[hv] at b0 hm hl ⊢;rw[abZ];have hmm:bk S % d % 18446744073709551616=bk S % d:=by omega
  rw[hmm];repeat' refine γl ?_ ?_
  all_goals first|omega|exact da|rfl|(simp;done)
 ·have:=eu db (T.length - 1);repeat' refine γl ?_ ?_
  all_goals omega
 have DC:bk T<=bk S:=by unfold lX at hge;split at hge<;>(try split at hge)<;>omega
 have hlen:T.length<=S.length:=by
  by_cases h:S.length<T.length
  ·have:=xZ da db nb h;omega
  ·omega
 have hTn:2<=T.length:=by omega
 clear hge h0 h1 hT1 va vb d0;rintro s ⟨⟨s0,s1⟩,hs⟩;have t1:((T.length:Int) - 1).toNat=T.length - 1:=by omega
 have hxt:=eu db (T.length - 1);have hps:(0:Int)<2^s.toNat:=δN (by decide);have hnn:0<=bj T (T.length - 1) 0*2^s.toNat:=γx hxt.1 (γg hps);have hmod:bj T (T.length - 1) 0*2^s.toNat % 4294967296=bj T (T.length - 1) 0*2^s.toNat:=by omega
 rw[t1,hmod];repeat refine γl (by omega) ?_
 refine⟨λhc=>?_,λhc=>?_⟩
 ·have htop:1<=bj T (T.length - 1) 0:=by
   by_cases h:1<=bj T (T.length - 1) 0;·exact h
   ·exfalso;have h4:=D2 db nb (by rintro rfl;simp at hTn);have h5:bk T=bk (T.take (T.length - 1))+4294967296^(T.length - 1)*bj T (T.length - 1) 0:=by
     have:=@lV T (T.length - 1);rwa [show T.length - 1+1=T.length by omega,φ] at this
    have h6:=ou (nC db (T.length - 1));rw[γy,εg (by omega)] at h6;rw[show bj T (T.length - 1) 0=0 by omega,δG] at h5;omega
  have h31:s<=30:=by
   by_cases h:s<=30;·exact h
   ·have ab1:s.toNat=31:=by omega
    rw[ab1,show(2:Int)^31=2147483648 from rfl] at hc;omega
  have e:((s+1) % 18446744073709551616)=s+1:=by omega
  have e2:(s+1).toNat=s.toNat+1:=by omega
  rw[e,e2,γV,<-δl];repeat' refine γl ?_ ?_
  all_goals omega
 ·obtain⟨dw,lw,vw,tw,yh⟩:=I5 db (by omega) (show s.toNat<=31 by omega) hs (by omega);obtain⟨ds,ls,vs,hst⟩:=Rq da db (show s.toNat<=31 by omega) hlen (by omega) yh;have hds:∀z,AH (z,s)↔(bA z/\z.length<=100000000000):=λz=>⟨λh=>⟨h.1,h.2.1⟩,λh=>⟨h.1,h.2,s0,s1⟩⟩;have bB:(shl T s.toNat).length=T.length+1:=Ar;have bits:(0<=s/\s<=31)/\bj T (T.length - 1) 0*2^s.toNat<4294967296/\2147483648<=bj T (T.length - 1) 0*2^s.toNat:=⟨⟨s0,s1⟩,hs,by omega⟩;rw[hds,hds,bB,ls];refine⟨⟨da,by omega⟩,⟨db,by omega⟩,?_⟩;repeat refine γl (by omega) ?_
  refine⟨?_,?_⟩
  ·repeat' refine γl ?_ ?_
   all_goals first|omega|exact l8 (by simp)|exact l8 (by omega)|exact ds|exact AG|exact λj _=>Rk|(simp;omega)|(rw[ye,δG,εh];exact vs)|(rw[vw,show((S.length:Int) - T.length+1 - 0).toNat=S.length - T.length+1 by omega];exact hst)
  clear hst vs ls ds bits hds hmod hnn hps hxt yh tw vw lw dw bB t1 hc hs s0 s1;clear s;rintro⟨i,s,U,q⟩ ⟨⟨i0,i1⟩,⟨⟨s0,s1⟩,hs,hs2⟩,⟨hU,D5⟩,⟨hq,AO⟩,hz,he,hlt⟩;simp only at i0 i1 s0 s1 hs hs2 hU D5 hq AO hz he hlt ⊢;obtain⟨dw,lw,vw,tw,yh⟩:=I5 db (by omega) (show s.toNat<=31 by omega) hs (by omega);generalize hw:bJ (shl T s.toNat)=w at*;have hw0:0<bk w:=by
   rw[vw];exact εz b0 (δN (by decide))
  refine⟨λlW=>?_,λnD=>?_⟩
  ·obtain⟨j,hj⟩:∃j:Nat,(S.length:Int) - T.length - i=j:=⟨((S.length:Int) - T.length - i).toNat,by omega⟩;have e1:((j:Int)+w.length+1).toNat - j=w.length+1:=by omega
   have e2:((S.length:Int) - T.length+1 - i).toNat=j+1:=by omega
   rw[e2] at hlt;obtain⟨k1,⟨k2,k3⟩,⟨k4,k5⟩,k6,k7⟩:=abS (j:=j) (m:=S.length - T.length) hU dw hq (by omega) (by omega) (by omega) (by omega) hw0 (hz j (by omega)) he hlt;have e3:((S.length:Int) - T.length+1 - (i+1)).toNat=j:=by omega
   simp only[hj,e1,e3,γn,nG.row,nG.x,nG.ok];repeat' refine γl ?_ ?_
   all_goals first|omega|exact l8 (by simp)|exact l8 k3.symm|exact trivial|exact hU|exact dw|exact k1|exact k2|exact k6|exact k7|exact nE hq k4 k5|(simp;omega)|(rw[lw];exact tw)|exact λp hp=>by rw[pT (by omega)];exact hz p (by omega)
  ·have e2:((S.length:Int) - T.length+1 - i).toNat=0:=by omega
   rw[e2,List.drop_zero] at hlt;repeat refine γl (by omega) ?_
   refine⟨?_,?_⟩
   ·have h1:=@lV U 0;simp only[εp,bk,ζK,εx];repeat' refine γl ?_ ?_
    all_goals first|omega|exact l8 (by simp)|exact hU|exact hq|exact he|exact hlt|exact AG|exact λj _=>Rk|(simp;done)|(rw[ye];omega)
   clear hlt hz e2 nD i0 i1 tw yh hw0 hs hs2 s0 s1 he hU D5 hq AO;clear hw dw lw vw;clear w s i U q;rintro⟨i,s,U,q,r⟩ ⟨⟨i0,i1⟩,⟨⟨s0,s1⟩,hs,hs2⟩,⟨hU,D5⟩,⟨hq,AO⟩,he,hlt,⟨hr,hrl⟩,hz,hv⟩;simp only at i0 i1 s0 s1 hs hs2 hU D5 hq AO he hlt hr hrl hz hv ⊢;obtain⟨dw,lw,vw,tw,yh⟩:=I5 db (by omega) (show s.toNat<=31 by omega) hs (by omega);generalize hw:bJ (shl T s.toNat)=w at*;refine⟨λlW=>?_,λnD=>?_⟩
   ·have x0:=eu hU i.toNat;have x1:=eu hU (i.toNat+1);have e1:(i+1).toNat=i.toNat+1:=by omega
    have x2:=eu hr i.toNat;have hps:(0:Int)<2^s.toNat:=δN (by decide);have y0:0<=bj U i.toNat 0 / 2^s.toNat:=δM x0.1 (γg hps);have y1:bj U i.toNat 0 / 2^s.toNat<=bj U i.toNat 0:=Int.ediv_le_self _ x0.1;have e2:((32 - s) % 18446744073709551616).toNat=32 - s.toNat:=by omega
    have e3:(r.set i.toNat (bj U i.toNat 0 / 2^s.toNat)).set i.toNat=r.set i.toNat:=by funext z;rw[List.set_set]
    simp only[e1,e2,e3,sV (show i.toNat<r.length by omega),Ψ];repeat refine γl (by omega) ?_
    refine⟨λhs0=>?_,λhs0=>?_⟩
    ·obtain⟨d,hd1,hd2,hd3⟩:=abT (s:=s.toNat) x0.1 x0.2 x1.1 x1.2 (by omega) (by omega);obtain⟨k1,k2,k3,k4⟩:=Rr hU hr (show i.toNat<r.length by omega) hz hd2 hd3 hv;rw[hd1];repeat' refine γl ?_ ?_
     all_goals first|omega|exact l8 (by simp)|exact hU|exact hq|exact k1|exact k3|exact k4|exact he|exact hlt|trivial
    ·have ab2:s.toNat=0:=by omega
     obtain⟨k1,k2,k3,k4⟩:=Rr (s:=s.toNat) (d:=bj U i.toNat 0 / 2^s.toNat) hU hr (show i.toNat<r.length by omega) hz ⟨y0,by omega⟩ (by rw[ab2];simp) hv;repeat' refine γl ?_ ?_
     all_goals first|omega|exact l8 (by simp)|exact hU|exact hq|exact k1|exact k3|exact k4|exact he|exact hlt|trivial
   ·have hi:i.toNat=w.length:=by omega
    rw[hi] at hv;obtain⟨w1,w2⟩:=abU hU hr dw rfl hlt vw b0 he (show s.toNat<=31 by omega) (by omega) hv;rw[qG hq,qG hr,w1,w2];repeat' refine γl ?_ ?_
    all_goals first|omega|rfl|trivial
theorem I6 {a b:List Int} (d:bA a) (c:bA b) (f:fS a) (h:bk a<=bk b):a.length<=b.length:=by
 by_cases e:a.length<=b.length;·exact e
 ·have:=xZ c d f (by omega);omega
def D6:bM:=⟨171,List Int×List Int,.cons (dG (.i .u32)) (.one (dG (.i .u32))),λa=>(bA a.1/\bA a.2)/\(a.1.length<=1000000000/\a.2.length<=1000000000),
 λa=> .row (.i .u32) (cQ (eC (bk a.1) (bk a.2)))⟩
def ab3 (a:List Int×List Int):Nat->cG
 |2=> .inv (List Int×List Int) (λx=>⟨[(0,.row (.i .u32) x.1),(1,.row (.i .u32) x.2)],[]⟩) (λs=>(rS (.i .u32) s 0,rS (.i .u32) s 1))
  (λx=>(bA x.1/\bA x.2)/\(fS x.1/\fS x.2)/\(x.1.length<=1000000000/\x.2.length<=1000000000)/\eC (bk x.1) (bk x.2)=eC (bk a.1) (bk a.2)) (λx=>(bk x.2).toNat) λ_ _=> .look
 |_=> .look
theorem h165g:Holds Tryz.prog D6:=by
 refine cH (L:=[Aq,D4]) D6 ab3 (by grind[h154,h166g]) ?_;rintro⟨a,b⟩ ⟨⟨l,k⟩,⟨n,m⟩⟩;simp only at l k n m;refine bQ (let h:=Ω;let c:=bp.i .u32;let f:=cQ (bk a+bk []);let e:=cQ (bk b+bk []);let g:=eC (bk a) (bk b);((bA a/\bA [])/\a.length<=100000000000/\0<=100000000000)/\((bA b/\bA [])/\b.length<=100000000000/\0<=100000000000)/\((((h c f).same (h c f)/\(h c e).same (h c e)/\True)/\True)/\(bA f/\bA e)/\(fS f/\fS e)/\(f.length<=1000000000/\e.length<=1000000000)/\eC (bk f) (bk e)=g)/\∀(x:List Int×List Int),let v:=decide ((0:Int)<(↑x.snd.length:Int));let d:=cQ (bk x.fst % bk x.snd);(bA x.fst/\bA x.snd)/\(fS x.fst/\fS x.snd)/\(x.fst.length<=1000000000/\x.snd.length<=1000000000)/\eC (bk x.fst) (bk x.snd)=g->(v=true->((bA x.fst/\bA x.snd)/\(x.fst.length<=10000000000/\x.snd.length<=10000000000)/\(0:Int)<bk x.snd)/\(false=true->(h c x.fst).same (h c (cQ g)))/\(false=false->(((h c x.snd).same (h c x.snd)/\(h c d).same (h c d)/\True)/\True)/\((bA x.snd/\bA d)/\(fS x.snd/\fS d)/\(x.snd.length<=1000000000/\d.length<=1000000000)/\eC (bk x.snd) (bk d)=g)/\(bk d).toNat<(bk x.snd).toNat))/\(v=false->(h c x.fst).same (h c (cQ g)))) (by kernel_rfl) ?_;simp only[vcs];have r:bA []:=by simp[bA]
 have N:=fj l;have E:=fj k;have z:bk []=0:=rfl;rw[z,εh,εh];obtain⟨Q,y,D⟩:=gn N;obtain⟨o,w,H⟩:=gn E;have p:(cQ (bk a)).length<=1000000000:=by
  rw[<-qG l];grind[uv]
 have j:(cQ (bk b)).length<=1000000000:=by
  rw[<-qG k];grind[uv]
 refine⟨⟨⟨l,r⟩,by omega,by omega⟩,⟨⟨k,r⟩,by omega,by omega⟩,⟨⟨y,w⟩,⟨D,H⟩,⟨p,j⟩,by rw[Q,o]⟩,?_⟩;rintro⟨s,t⟩ ⟨⟨u,q⟩,⟨J,C⟩,⟨O,G⟩,F⟩;simp only at u q J C G O F ⊢;have T:=fj u;have U:=fj q;refine⟨λB=>?_,λB=>?_⟩
 ·have h:0<bk t:=by
   grind[val_zero]
  have K:=δL (bk s) (show bk t≠0 by omega);have A:=δo (bk s) h;obtain⟨I,M,S⟩:=gn K;have P:=I6 M q S (by rw[I];omega);grind[abJ]
 ·have R:t=[]:=χ (by omega);grind[abK,Ap]
def pU (q:Rat):SV:=.agg (encS sF (bu q))
def cE (x:bL):Prop:=∃q k,x=bu q/\Sz k q/\k<=100000000
def fU (s:Bool) (n d:Int):Rat:=mkRat (if s then -n else n) d.toNat
def D7:bM:=⟨137,Int,.one (eU .i64),λn=> -9223372036854775808<=(show Int from n)/\(show Int from n)<=9223372036854775807,λn=> .row (.i .u32) (cQ ((show Int from n).natAbs:Int))⟩
theorem h127:Holds Tryz.prog D7:=by
 refine cH (L:=[yg]) D7 lk (by grind[h128]) ?_;intro(n:Int) h;obtain⟨e,f⟩: -9223372036854775808<=n/\n<=9223372036854775807:=h;refine bQ (let e:=(18446744073709551616:Int);let f:=(1:Int);let g:=(0:Int);let h:=Ω;let d:=decide (n<g);let a:=(-(n+f)+f) % e;let b:=bp.i .u32;let c:=h b (cQ (↑n.natAbs:Int));(d=true->cu .i64 (n+f)/\cu .i64 (-(n+f))/\cu .u64 (-(n+f))/\(g<=a/\a<e)/\(h b (cQ a)).same c)/\(d=false->cu .u64 n/\(g<=n/\n<e)/\(h b (cQ n)).same c)) (by kernel_rfl) ?_;simp only[vcs];grind[u64_in]
def AP:bM:=⟨167,Bool×(List Int×List Int),.cons PT (.cons (dG (.i .u32)) (.one (dG (.i .u32)))),λa=>(bA a.2.1/\bA a.2.2)/\(a.2.1.length<=1000000000/\a.2.2.length<=1000000000)/\0<bk a.2.2,
 λa=> .bI [pU (fU a.1 (bk a.2.1) (bk a.2.2)),.si .i64 0]⟩
theorem h151:Holds Tryz.prog AP:=by
 refine cH (L:=[D6,D4]) AP lk (by grind[h165g,h166g]) ?_;rintro⟨s,n,d⟩ ⟨⟨c,f⟩,⟨t,p⟩,j⟩;simp only at c f t p j;refine bQ (let b:=SV.bl false;let c:=γB .i64;let e:=Ω;let f:=(0:Int);let g:=γR;let h:=SV.bI;let k:=e (bp.i .i64) [];let w:=bu (fU s (bk n) (bk d));let l:=bp.i .u32;let y:=h [g [γA w.fst,e l w.snd.fst,e l w.snd.snd],γd .i64 0];let a:=cQ (eC (bk n) (bk d));let C:=cQ (bk n / bk a);let B:=decide ((↑d.length:Int)=f);let F:=false=true->(h [g [b,k,k],c 8]).same y;let E:=λ(u:Bool) (v:SV) ↦s=u->(h [g [v,e l C,e l (cQ (bk d / bk a))],c 0]).same y;(B=true->(h [g [b,k,k],c 8]).same y)/\(B=false->((bA n/\bA d)/\n.length<=1000000000/\d.length<=1000000000)/\((bA n/\bA a)/\(n.length<=10000000000/\a.length<=10000000000)/\f<bk a)/\((bA d/\bA a)/\(d.length<=10000000000/\a.length<=10000000000)/\f<bk a)/\F/\(false=false->F/\(false=false->E true (γA (decide (f<(↑C.length:Int))))/\E false (b))))) (by kernel_rfl) ?_;simp only[vcs];have D:=fj c;have b:0<eC (bk n) (bk d):=by
  simp_all[eC]
 have K:eC (bk n) (bk d)<=bk d:=by
  unfold eC;have:=ζ7 (bk n).toNat (show 0<(bk d).toNat by omega);omega
 have o:eC (bk n) (bk d)∣bk n:=by
  unfold eC;have:=ζ6 (bk n).toNat (bk d).toNat;have S:=Int.natCast_dvd_natCast.2 this;grind
 obtain⟨R,q,Q⟩:=gn (γg b);have I:=I6 q (sT f) Q (by grind[rJ]);have P:=@uv d;have A:0<=bk n / eC (bk n) (bk d):=δM D (γg b);obtain⟨N,H,M⟩:=gn A;have G:(0<((cQ (bk n / eC (bk n) (bk d))).length:Int))↔0<bk n:=by
  obtain⟨m,e⟩:=o;have r:bk n / eC (bk n) (bk d)=m:=by
   conv=>lhs;arg 1;rw[e]
   rw[ζs _ (by omega)]
  rw[r] at N H M ⊢;have z:0<bk n↔0<m:=by
   generalize eC (bk n) (bk d)=g at*;rw[e];constructor;·grind
   ·intro h;exact εz b h
  rw[z];constructor
  ·intro h;by_cases e:m=0;·rw[e] at h;exact absurd h (by decide)
   ·omega
  ·intro h;by_cases T:(cQ m).length=0<;>grind[cQ,bk]
 have O:d.length≠0:=by
  intro h;rw[χ h] at j;exact absurd j (by decide)
 unfold fU;rw[Ru D j,R];simp only;refine⟨λh=>absurd h (by omega),λ_=>⟨⟨⟨c,f⟩,by omega,by omega⟩,⟨⟨c,q⟩,by omega,b⟩,⟨⟨f,q⟩,by omega,b⟩,?_⟩⟩;have J:decide (0<((cQ (bk n / eC (bk n) (bk d))).length:Int))=decide (0<bk n):=by
  simp_all
 refine⟨λh=>absurd h (by decide),λ_=>⟨λh=>absurd h (by decide),λ_=>⟨λx=>?_,λx=>?_⟩⟩⟩
 ·rw[x,J];rfl
 ·rw[x];rfl
def yi:bM:=⟨136,Bool×(List Int×List Int),.cons PT (.cons (dG (.i .u32)) (.one (dG (.i .u32)))),λa=>(bA a.2.1/\bA a.2.2)/\(a.2.1.length<=1000000000/\a.2.2.length<=1000000000)/\0<bk a.2.2,
 λa=>pU (fU a.1 (bk a.2.1) (bk a.2.2))⟩
theorem h126:Holds Tryz.prog yi:=by
 refine cH (L:=[AP]) yi lk (by grind[h151]) ?_;rintro⟨s,n,d⟩ ⟨⟨h,g⟩,⟨a,c⟩,f⟩;simp only at h g a c f;refine bQ (let b:=bu (fU s (bk n) (bk d));let e:=γR [γA b.fst,Ω (bp.i .u32) b.snd.fst,Ω (bp.i .u32) b.snd.snd];((bA n/\bA d)/\(n.length<=1000000000/\d.length<=1000000000)/\(0:Int)<bk d)/\e.same e) (by kernel_rfl) ?_;simp_all[vcs]
def oz:bM:=⟨101,Int,.one (eU .i64),λn=> -9223372036854775808<=(show Int from n)/\(show Int from n)<=9223372036854775807,λn=>pU ((show Int from n):Rat)⟩
theorem h94:Holds Tryz.prog oz:=by
 refine cH (L:=[D7,yg,yi]) oz lk (by grind[h127,h128,h126]) ?_;intro(n:Int) h;obtain⟨o,p⟩: -9223372036854775808<=n/\n<=9223372036854775807:=h;refine bQ (let e:=Ω;let g:=(1:Int);let h:=(0:Int);let c:=cQ (↑n.natAbs:Int);let b:=cQ g;let f:=bu (fU (decide (n<h)) (bk c) (bk b));let a:=bp.i .u32;let d:=bu (κ n);((-9223372036854775808:Int)<=n/\n<=(9223372036854775807:Int))/\(h<=g/\g<(18446744073709551616:Int))/\((bA c/\bA b)/\(c.length<=1000000000/\b.length<=1000000000)/\h<bk b)/\(γR [γA f.fst,e a f.snd.fst,e a f.snd.snd]).same (γR [γA d.fst,e a d.snd.fst,e a d.snd.snd])) (by kernel_rfl) ?_;conv=>zeta
 obtain⟨j,g,t⟩:=gn (show(0:Int)<=(n.natAbs:Int) by omega);obtain⟨l,m,s⟩:=gn (show(0:Int)<=1 by omega);have u:=mK (k:=2) (show(0:Int)<=(n.natAbs:Int) by omega) (by omega);have q:=mK (k:=1) (show(0:Int)<=1 by omega) (by decide);refine⟨⟨o,p⟩,⟨by omega,by omega⟩,⟨⟨g,m⟩,⟨by omega,by omega⟩,by omega⟩,?_⟩;have e:fU (decide (n<0)) (bk (cQ (n.natAbs:Int))) (bk (cQ 1))=κ n:=by
  rw[j,l];unfold fU;have r:(if decide (n<0)=true then -(n.natAbs:Int) else(n.natAbs:Int))=n:=by
   grind
  grind[Rat.mkRat_one]
 rw[e];rfl
def jL (q:Rat):Int:=if q<0 then -1 else if 0<q then 1 else 0
def sX:bM:=⟨142,bL,.one (ei sF),cE,λx=> .si .i64 (jL (bV x))⟩
theorem h99:Holds Tryz.prog sX:=by
 refine cH (L:=[]) sX lk (by simp) ?_;intro(x:bL) h;obtain⟨q,k,rfl,m,f⟩:cE x:=h;refine bQ (let c:=γB .i64;let b:=decide ((↑(γc (bu q).snd.fst):Int)=(0:Int));let a:=γd .i64 (jL (bV (bu q)));(b=true->(c 0).same a)/\(b=false->((bu q).fst=true->(c (-1:Int)).same a)/\((bu q).fst=false->(c 1).same a))) (by kernel_rfl) ?_;simp only[vcs];rw[eD];have e:((bu q).2.1.length:Int)=0↔q.num=0:=by
  unfold bu;simp only;obtain⟨d,j,i⟩:=gn (show(0:Int)<=(q.num.natAbs:Int) by omega);constructor
  ·intro h;rw[χ (by omega:(cQ (q.num.natAbs:Int)).length=0)] at d;grind[bk]
  ·intro h;rw[h];rfl
 have c:(bu q).1=decide (q<0):=rfl;have n:=@Rat.num_nonneg q;have l:q<0↔q.num<0:=by
  grind
 have g:0<q↔0<q.num:=by
  grind[ζM]
 rw[e,c];simp only[decide_eq_true_eq,decide_eq_false_iff_not];unfold jL;grind
def wb (x:bL):Prop:=(bA x.2.1/\bA x.2.2)/\x.2.1.length<=100000000/\x.2.2.length<=100000000
def D8:bM:=⟨139,bL×bL,.cons (ei sF) (.one (ei sF)),λa=>wb a.1/\wb a.2,λa=> .bI [.row (.i .u32) (cQ (bk a.1.2.1*bk a.2.2.2)),.row (.i .u32) (cQ (bk a.2.2.1*bk a.1.2.2))]⟩
theorem h131:Holds Tryz.prog D8:=by
 refine cH (L:=[yf]) D8 lk (by grind[h153]) ?_;rintro⟨⟨s,n,d⟩,⟨o,b,a⟩⟩ ⟨⟨⟨e,j⟩,g,f⟩,⟨⟨k,h⟩,l,m⟩⟩;simp only at e j g f k h l m;refine bQ (let c:=SV.bI [Ω (bp.i .u32) (cQ (bk n*bk a)),Ω (bp.i .u32) (cQ (bk b*bk d))];((bA n/\bA a)/\n.length<=100000000000/\a.length<=100000000000)/\((bA b/\bA d)/\b.length<=100000000000/\d.length<=100000000000)/\c.same c) (by kernel_rfl) ?_;simp only[vcs];grind
theorem D9 {p q:Rat} (h:p=q):(γR [.sb (bu p).1,.row (.i .u32) (bu p).2.1,.row (.i .u32) (bu p).2.2]).same (.agg [.sb (bu q).1,.row (.i .u32) (bu q).2.1,.row (.i .u32) (bu q).2.2]):=by subst h;rfl
theorem wh (q:Rat):q.num=if decide (q<0) then -(q.num.natAbs:Int) else(q.num.natAbs:Int):=by
 have a:=@Rat.num_nonneg q;grind
theorem l9 (q:Rat):(bu q).1=decide (q<0)/\(bA (bu q).2.1/\fS (bu q).2.1/\bk (bu q).2.1=(q.num.natAbs:Int))/\(bA (bu q).2.2/\fS (bu q).2.2/\bk (bu q).2.2=(q.den:Int)):=by
 obtain⟨f,e,d⟩:=gn (show(0:Int)<=(q.num.natAbs:Int) by omega);obtain⟨b,c,a⟩:=gn (show(0:Int)<=(q.den:Int) by omega);exact⟨rfl,⟨e,d,f⟩,⟨c,a,b⟩⟩
theorem pq {q:Rat} {k:Nat} (h:Sz k q):(bu q).2.1.length<=k/\(bu q).2.2.length<=k:=
 ⟨mK (by omega) h.1,mK (by omega) h.2⟩
theorem ab4 (q:Rat):fU (!decide (q<0)) (q.num.natAbs:Int) (q.den:Int)= -q:=by
 unfold fU;have h:=wh q;have e:(if(!decide (q<0))=true then -(q.num.natAbs:Int) else(q.num.natAbs:Int))= -q.num:=by
  grind
 grind[δW,Rat.neg_mkRat]
def yj:bM:=⟨145,bL,.one (ei sF),cE,λx=>pU (-(bV x))⟩
theorem h130:Holds Tryz.prog yj:=by
 refine cH (L:=[yi]) yj lk (by grind[h126]) ?_;intro(x:bL) h;obtain⟨q,k,rfl,f,g⟩:cE x:=h;refine bQ (let f:=Ω;let c:=(bu q).snd.fst;let a:=(bu q).snd.snd;let d:=bu (fU (!(bu q).fst) (bk c) (bk a));let b:=bp.i .u32;let e:=(bu (-bV (bu q))).snd;((bA c/\bA a)/\(γc c<=1000000000/\γc a<=1000000000)/\(0:Int)<bk a)/\(γR [γA d.fst,f b d.snd.fst,f b d.snd.snd]).same (γR [γA (bu (-bV (bu q))).fst,f b e.fst,f b e.snd])) (by kernel_rfl) ?_;conv=>zeta
 obtain⟨s,⟨r,p,u⟩,⟨o,l,n⟩⟩:=l9 q;obtain⟨j,m⟩:=pq f;have t:=q.den_pos;grind[D9,eD,ab4]
theorem qM {a b:Int} {i j:Nat} (e:0<=a) (c:a<4294967296^i) (d:b<4294967296^j):a*b<4294967296^(i+j):=by
 rw[δ7];exact εF (Ξ (γg d) e) (γ5 c (pow_pos _))
theorem Rx {p q:Rat} {i j:Nat} (c:Sz i p) (b:Sz j q):∃X Y D:Int,bk (bu p).2.1*bk (bu q).2.2=X/\bk (bu q).2.1*bk (bu p).2.2=Y/\bk (bu p).2.2*bk (bu q).2.2=D/\0<=X/\0<=Y/\0<D/\
  (cQ X).length<=i+j/\(cQ Y).length<=i+j/\(cQ (X+Y)).length<=i+j+1/\(cQ (X - Y)).length<=i+j/\(cQ (Y - X)).length<=i+j/\(cQ D).length<=i+j/\p.num*q.den=(if decide (p<0) then -X else X)/\q.num*p.den=(if decide (q<0) then -Y else Y)/\((p.den*q.den:Nat):Int)=D:=by
 obtain⟨_,⟨_,_,l⟩,⟨_,_,r⟩⟩:=l9 p;obtain⟨_,⟨_,_,n⟩,⟨_,_,m⟩⟩:=l9 q;rw[l,r,n,m];have s:=p.den_pos;have t:=q.den_pos;have k:=qM (a:=(p.num.natAbs:Int)) (by omega) c.1 b.2;have d:=qM (a:=(q.num.natAbs:Int)) (by omega) b.1 c.2;rw[Nat.add_comm j i] at d;have o:=qM (a:=(p.den:Int)) (by omega) c.2 b.2;have f:0<=(p.num.natAbs:Int)*q.den:=γx (by omega) (by omega);have e:0<=(q.num.natAbs:Int)*p.den:=γx (by omega) (by omega);have g:0<(p.den:Int)*q.den:=εz (by omega) (by omega);have v:=wh p;have u:=wh q;refine⟨_,_,_,rfl,rfl,rfl,f,e,g,mK f k,mK e d,mK (by omega) ?_,?_,?_,mK (by omega) o,?_,?_,by push_cast;rfl⟩;·omega
 ·by_cases h:(p.num.natAbs:Int)*q.den - (q.num.natAbs:Int)*p.den<=0;·grind[I0]
  ·exact mK (by omega) (by omega)
 ·by_cases h:(q.num.natAbs:Int)*p.den - (p.num.natAbs:Int)*q.den<=0;·grind[I0]
  ·exact mK (by omega) (by omega)
 all_goals grind
theorem ab5 {p q:Rat} {s:Bool} {n D:Int} (a:((p.den*q.den:Nat):Int)=D) (h:p.num*q.den+q.num*p.den=if s then -n else n):fU s n D=p+q:=by
 rw[Rw];grind[fU]
theorem Ea {p:Rat} {k:Nat} (h:Sz k p) (c:k<=100000000):wb (bu p):=by
 obtain⟨_,⟨a,_,_⟩,⟨b,_,_⟩⟩:=l9 p;have:=pq h;exact⟨⟨a,b⟩,by omega,by omega⟩
def iR (p q:Rat):Int:=if p<q then -1 else if q<p then 1 else 0
def yk:bM:=⟨102,bL×bL,.cons (ei sF) (.one (ei sF)),λa=>cE a.1/\cE a.2,λa=> .si .i64 (iR (bV a.1) (bV a.2))⟩
theorem h97:Holds Tryz.prog yk:=by
 refine cH (L:=[D8,ya]) yk lk (by grind[h131,h132]) ?_;rintro⟨x,y⟩ ⟨⟨p,i,t,w,S⟩,⟨q,j,r,o,T⟩⟩;simp only at t r;subst t r;refine bQ (let a:=(bu p).fst;let g:=γd .i64 (iR (bV (bu p)) (bV (bu q)));let s:=λ(u:Bool) (c b:Rat) ↦let k:=cQ (bk (bu c).snd.fst*bk (bu b).snd.snd);let l:=cQ (bk (bu b).snd.fst*bk (bu c).snd.snd);a=u->((bA k/\bA l)/\k.length<=1000000000000/\l.length<=1000000000000)/\(γd .i64 (lX (bk k) (bk l))).same g;((!a==(bu q).fst)=true->(a=true->(γB .i64 (-1:Int)).same g)/\(a=false->(γB .i64 1).same g))/\((!a==(bu q).fst)=false->(wb (a,(bu p).snd.fst,(bu p).snd.snd)/\wb ((bu q).fst,(bu q).snd.fst,(bu q).snd.snd))/\s true q p/\s false p q)) (by kernel_rfl) ?_;conv=>zeta
 obtain⟨C,_,_⟩:=l9 p;obtain⟨P,_,_⟩:=l9 q;obtain⟨X,Y,D,E,M,hD,G,N,U,l1,l2,l3,l4,Z,V,B,A,W⟩:=Rx w o;obtain⟨J,v,c3⟩:=gn G;obtain⟨K,n,c6⟩:=gn N;simp only[eD,E,M,J,K,C,P];simp only[vcs];have hl:p<q↔p.num*q.den<q.num*p.den:=Rat.lt_iff p q;have R:q<p↔q.num*p.den<p.num*q.den:=Rat.lt_iff q p;have O:=@Rat.num_nonneg p;have H:=@Rat.num_nonneg q;have m:∀{z:Int},(z=if p.num*q.den<q.num*p.den then -1 else if q.num*p.den<p.num*q.den then 1 else 0)->z=iR p q:=λh=>by
  grind[iR]
 have Q:p<0->0<X:=λh=>by
  rw[if_pos (by simpa using h)] at B;have f:p.num<0:=by grind
  have:=εs f (show(0:Int)<q.den by grind);omega
 have F:q<0->0<Y:=λh=>by
  rw[if_pos (by simpa using h)] at A;have f:q.num<0:=by grind
  have:=εs f (show(0:Int)<p.den by grind);omega
 rw[B,A] at m;refine⟨λI=>⟨λd=>?_,λd=>?_⟩,λhe=>⟨⟨Ea w S,Ea o T⟩,λd=>⟨⟨⟨n,v⟩,by omega,by omega⟩,?_⟩,λd=>⟨⟨⟨v,n⟩,by omega,by omega⟩,?_⟩⟩⟩;·grind
 ·grind
 ·apply m;have e:q<0:=by
   grind
  simp only[decide_eq_true_eq,d,e,if_true,if_false];simp only[Int.neg_lt_neg_iff];rfl
 ·apply m;have e:¬q<0:=λe=>by grind
  simp only[decide_eq_true_eq,d,e,if_true,if_false];rfl
def wi:bM:=⟨134,bL×bL,.cons (ei sF) (.one (ei sF)),λa=>cE a.1/\cE a.2,λa=>pU (bV a.1+bV a.2)⟩
theorem h129:Holds Tryz.prog wi:=by
 refine cH (L:=[D8,yf,Aq,I1,yi]) wi lk (by grind[h131,h153,h154,h155,h126]) ?_;rintro⟨x,y⟩ ⟨⟨p,i,J,w,S⟩,⟨q,j,E,B,hj⟩⟩;simp only at J E;subst J E;refine bQ (let h:=Ω;let j:=γR;let m:=(bu q).snd.snd;let f:=cQ (bk (bu p).snd.fst*bk m);let t:=(bu p).snd.snd;let k:=cQ (bk (bu q).snd.fst*bk t);let a:=cQ (bk t*bk m);let g:=bp.i .u32;let z:=bu (bV (bu p)+bV (bu q));let o:=j [γA z.fst,h g z.snd.fst,h g z.snd.snd];let v:=(bu p).fst==(bu q).fst;let c:=cQ (bk f+bk k);let d:=bu (fU (bu p).fst (bk c) (bk a));let I:=(bA f/\bA k)/\f.length<=100000000000/\k.length<=100000000000;let K:=λ(u r:Rat) ↦let e:=cQ (bk (cQ (bk (bu u).snd.fst*bk (bu r).snd.snd)) - bk (cQ (bk (bu r).snd.fst*bk (bu u).snd.snd)));let b:=bu (fU (bu u).fst (bk e) (bk a));((bA e/\bA a)/\(e.length<=1000000000/\a.length<=1000000000)/\(0:Int)<bk a)/\(j [γA b.fst,h g b.snd.fst,h g b.snd.snd]).same o;let F:=λ(u:Bool) ↦decide (bk k<=bk f)=u;(wb ((bu p).fst,(bu p).snd.fst,t)/\wb ((bu q).fst,(bu q).snd.fst,m))/\((bA t/\bA m)/\γc t<=100000000000/\γc m<=100000000000)/\(v=true->I/\((bA c/\bA a)/\(c.length<=1000000000/\a.length<=1000000000)/\(0:Int)<bk a)/\(j [γA d.fst,h g d.snd.fst,h g d.snd.snd]).same o)/\(v=false->I/\(F true->K p q)/\(F false->((bA k/\bA f)/\k.length<=100000000000/\f.length<=100000000000)/\K q p))) (by kernel_rfl) ?_;conv=>zeta
 obtain⟨O,⟨u1,_,_⟩,⟨u2,_,_⟩⟩:=l9 p;obtain⟨W,⟨u3,_,_⟩,⟨P,_,_⟩⟩:=l9 q;obtain⟨m1,m2⟩:=pq w;obtain⟨m3,m4⟩:=pq B;obtain⟨X,Y,D,T,Q,hD,U,R,C,l1,l2,l3,l4,l5,l6,n1,n2,n3⟩:=Rx w B;obtain⟨N,H,c3⟩:=gn U;obtain⟨c4,G,c6⟩:=gn R;obtain⟨c7,V,c9⟩:=gn (γg C);obtain⟨s1,M,s3⟩:=gn (show 0<=X+Y by omega);simp only[eD,T,Q,hD,N,c4,c7,s1,O,W];simp only[vcs];have l:∀{s:Bool} {n:Int},(p.num*q.den+q.num*p.den=if s then -n else n)->(γR [.sb (bu (fU s n D)).1,.row (.i .u32) (bu (fU s n D)).2.1,.row (.i .u32) (bu (fU s n D)).2.2]).same (.agg [.sb (bu (p+q)).1,.row (.i .u32) (bu (p+q)).2.1,.row (.i .u32) (bu (p+q)).2.2]):=
  λh=>D9 (ab5 n3 h);rw[n1,n2] at l;refine⟨⟨Ea w S,Ea B hj⟩,⟨⟨u2,P⟩,by omega,by omega⟩,λZ=>⟨⟨⟨H,G⟩,by omega,by omega⟩,⟨⟨M,V⟩,⟨by omega,by omega⟩,C⟩,l ?_⟩,λZ=>⟨⟨⟨H,G⟩,by omega,by omega⟩,λA=>?_,λA=>?_⟩⟩;all_goals grind[gn]
def AQ:bM:=⟨144,bL×bL,.cons (ei sF) (.one (ei sF)),λa=>cE a.1/\cE a.2,λa=>pU (bV a.1 - bV a.2)⟩
theorem h95:Holds Tryz.prog AQ:=by
 refine cH (L:=[yj,wi]) AQ lk (by grind[h130,h129]) ?_;rintro⟨x,y⟩ ⟨⟨p,i,k,m,n⟩,⟨q,j,g,l,o⟩⟩;simp only at k g;subst k g;refine bQ (let g:=Ω;let b:=((bu q).fst,(bu q).snd.fst,(bu q).snd.snd);let e:=((bu p).fst,(bu p).snd.fst,(bu p).snd.snd);let h:=(bu (-bV b)).snd;let f:=((bu (-bV b)).fst,h.fst,h.snd);let d:=bu (bV e+bV f);let a:=bp.i .u32;let c:=bu (bV (bu p) - bV (bu q));cE b/\(cE e/\cE f)/\(γR [γA d.fst,g a d.snd.fst,g a d.snd.snd]).same (γR [γA c.fst,g a c.snd.fst,g a c.snd.snd])) (by kernel_rfl) ?_;grind[cE,AL,D9,eD]
theorem I7 {a:List Int} (h:bA a) (c:fS a) (b:a≠[]):0<bk a:=by
 have:=fj h;grind[val_zero]
def okF (x:bL):Bool:=decide (bu (bV x)=x)
theorem Ry {n d:Int} (h:0<d):0<eC n d:=by
 simp_all[eC]
theorem ab6 {s:Bool} {n d:List Int} (h:okF (s,(n,d))=true):fS n/\fS d/\d≠[]:=by
 have h:=of_decide_eq_true h;have b:=gn (show(0:Int)<=((bV (s,(n,d))).num.natAbs:Int) by omega);have a:=gn (show(0:Int)<=((bV (s,(n,d))).den:Int) by omega);have e:cQ ((bV (s,(n,d))).num.natAbs:Int)=n:=congrArg (λx=>x.2.1) h;have c:cQ ((bV (s,(n,d))).den:Int)=d:=congrArg (λx=>x.2.2) h;rw[e] at b;rw[c] at a;refine⟨b.2.2,a.2.2,λf=>?_⟩;have g:=a.1;rw[f] at g;have:=(bV (s,(n,d))).den_pos;grind[bk]
theorem okF_eq {s:Bool} {n d:List Int} (e:bA n) (m:bA d) (l:fS n) (p:fS d) (b:d≠[]):
  okF (s,(n,d))=if n=[] then !s&&decide (d=[1]) else decide (eC (bk n) (bk d)=1):=by
 have c:=I7 m p b;have r:=fj e;have j:bV (s,(n,d))=mkRat (if s then -bk n else bk n) (bk d).toNat:=rfl;have o:=@Ru s (bk n) (bk d) r c;have u:=@Ry (bk n) (bk d) c;unfold okF;rw[j,o];by_cases a:n=[]
 ·rw[if_pos a,a];have i:eC (bk []) (bk d)=bk d:=by unfold eC;simp[bk];omega
  have k:cQ (bk d / eC (bk []) (bk d))=[1]:=by rw[i,Int.ediv_self (by omega)];rfl
  have f:cQ (bk [] / eC (bk []) (bk d))=[]:=by
   have:bk []=0:=rfl;rw[this,Int.zero_ediv];rfl
  rw[k,f];have v:decide (0<bk [])=false:=rfl;grind
 ·rw[if_neg a];have q:=I7 e l a;rw[decide_eq_true (show 0<bk n from q),Bool.and_true];rw[ζL,decide_eq_true_eq,decide_eq_true_eq];constructor
  ·intro h;injection h with h1 h2;injection h2 with h2 h3;have g:=(gn (show 0<=bk d / eC (bk n) (bk d) from δM (by omega) (by omega))).1;rw[h3] at g;by_cases t:eC (bk n) (bk d)=1;·exact t
   ·have:=Int.ediv_lt_self_of_pos_of_ne_one c (by omega:eC (bk n) (bk d)≠1);omega
  grind[Ap]
theorem ab7 {l:List Int} (h:l.length=0\/bj l (l.length - 1) 0≠0):fS l:=by
 rcases h with h|h;·rw[χ h];trivial
 ·by_cases b:l.length=0;·rw[χ b];trivial
  ·have c:=DV (a:=l) (n:=l.length - 1) (by omega);grind[Ix]
def sY (a:List Int):Bool:=decide (a.length=0)||decide (bj a (a.length - 1) 0≠0)
theorem uC {a:List Int}:sY a=true↔fS a:=by
 unfold sY;rw[Bool.or_eq_true,decide_eq_true_eq,decide_eq_true_eq];constructor;·exact ab7
 ·intro h;by_cases e:a.length=0;·exact .inl e
  ·right;have b:=DV (a:=a) (n:=a.length - 1) (by omega);rw[show a.length - 1+1=a.length by omega,φ] at b;have:∀{l:List Int} {x:Int},fS (l++[x])->x≠0:=by
    intro l x;induction l with
    |nil=>intro h;exact h.1 rfl;|cons d l c=>intro h;exact c h.2
   grind
theorem Rz (p q:Rat):(if(!(decide (p<0)==decide (q<0)))=true then -((p.num.natAbs:Int)*(q.num.natAbs:Int)) else(p.num.natAbs:Int)*(q.num.natAbs:Int))=p.num*q.num:=by
 have a:=wh p;have b:=wh q;grind
theorem RA (p q:Rat):fU (!(decide (p<0)==decide (q<0))) ((p.num.natAbs:Int)*(q.num.natAbs:Int)) ((p.den:Int)*(q.den:Int))=p*q:=by
 unfold fU;rw[Rz,show((p.den:Int)*(q.den:Int)).toNat=p.den*q.den by omega,δC];have a:(p.num:Rat) / (p.den:Rat)=p:=by rw[<-δC,δW]
 have b:(q.num:Rat) / (q.den:Rat)=q:=by rw[<-δC,δW]
 grind
theorem RB {p q:Rat} (a:q≠0):fU (!(decide (p<0)==decide (q<0))) ((p.num.natAbs:Int)*(q.den:Int)) ((p.den:Int)*(q.num.natAbs:Int))=p / q:=by
 unfold fU;rw[show((p.den:Int)*(q.num.natAbs:Int)).toNat=p.den*q.num.natAbs by omega,δC];have k:(p.num:Rat) / (p.den:Rat)=p:=by rw[<-δC,δW]
 have d:(q.num:Rat) / (q.den:Rat)=q:=by rw[<-δC,δW]
 have m:(p.den:Rat)≠0:=by have:=p.den_nz;simp_all
 have o:(q.den:Rat)≠0:=by grind
 have e:=wh p;have g:=wh q;have n:(q.num:Rat)≠0:=λh=>a (by grind);rw[Rat.natCast_mul];conv=>rhs;rw[<-k,<-d]
 have f:((p.num.natAbs:Int):Rat)=(p.num.natAbs:Rat):=ε1 _;have c:((q.num.natAbs:Int):Rat)=(q.num.natAbs:Rat):=ε1 _;have i:((q.den:Int):Rat)=(q.den:Rat):=ε1 _;have j:(p.num:Rat)=if decide (p<0)=true then -(p.num.natAbs:Rat) else(p.num.natAbs:Rat):=by
  rw[<-f];conv=>lhs;rw[e]
  split<;>grind
 have b:(q.num:Rat)=if decide (q<0)=true then -(q.num.natAbs:Rat) else(q.num.natAbs:Rat):=by
  rw[<-c];conv=>lhs;rw[g]
  split<;>grind
 have l:((if(!(decide (p<0)==decide (q<0)))=true then -((p.num.natAbs:Int)*(q.den:Int)) else(p.num.natAbs:Int)*(q.den:Int):Int):Rat)=if(!(decide (p<0)==decide (q<0)))=true then -((p.num.natAbs:Rat)*(q.den:Rat)) else(p.num.natAbs:Rat)*(q.den:Rat):=by
  split<;>grind
 grind
def AS:bM:=⟨178,bL×bL,.cons (ei sF) (.one (ei sF)),λa=>cE a.1/\cE a.2,λa=>pU (bV a.1*bV a.2)⟩
theorem h410:Holds Tryz.prog AS:=by
 refine cH (L:=[yf,yi]) AS lk (by grind[h153,h126]) ?_;rintro⟨x,y⟩ ⟨⟨p,i,n,f,M⟩,⟨q,j,o,l,G⟩⟩;simp only at n o;subst n o;refine bQ (let f:=Ω;let c:=(bu p).snd.fst;let k:=(bu q).snd.fst;let g:=(bu p).snd.snd;let h:=(bu q).snd.snd;let m:=cQ (bk c*bk k);let b:=cQ (bk g*bk h);let d:=bu (fU (!(bu p).fst==(bu q).fst) (bk m) (bk b));let a:=bp.i .u32;let e:=bu (bV (bu p)*bV (bu q));((bA c/\bA k)/\γc c<=100000000000/\γc k<=100000000000)/\((bA g/\bA h)/\γc g<=100000000000/\γc h<=100000000000)/\((bA m/\bA b)/\(m.length<=1000000000/\b.length<=1000000000)/\(0:Int)<bk b)/\(γR [γA d.fst,f a d.snd.fst,f a d.snd.snd]).same (γR [γA e.fst,f a e.snd.fst,f a e.snd.snd])) (by kernel_rfl) ?_;conv=>zeta
 obtain⟨t,⟨P,_,s⟩,⟨E,_,v⟩⟩:=l9 p;obtain⟨u,⟨J,_,z⟩,⟨I,_,A⟩⟩:=l9 q;obtain⟨D,F⟩:=pq f;obtain⟨O,N⟩:=pq l;have C:=p.den_pos;have K:=q.den_pos;rw[s,v,z,A,t,u,eD,eD];have r:0<=(p.num.natAbs:Int)*(q.num.natAbs:Int):=γx (by omega) (by omega);have w:0<(p.den:Int)*(q.den:Int):=εz (by omega) (by omega);have H:=mK r (qM (by omega) f.1 l.1);have B:=mK (γg w) (qM (by omega) f.2 l.2);grind[gn,D9,RA]
def Eb:bM:=⟨184,bL×bL,.cons (ei sF) (.one (ei sF)),λa=>(cE a.1/\cE a.2)/\bV a.2≠0,λa=> .bI [pU (bV a.1 / bV a.2),.si .i64 0]⟩
theorem h416:Holds Tryz.prog Eb:=by
 refine cH (L:=[yf,AP]) Eb lk (by grind[h153,h151]) ?_;rintro⟨x,y⟩ ⟨⟨⟨p,i,v,f,X⟩,⟨q,j,u,m,Q⟩⟩,a⟩;simp only at v u a;subst v u;refine bQ (let a:=Ω;let g:=(bu p).snd.fst;let d:=(bu q).snd.snd;let r:=(bu p).snd.snd;let e:=(bu q).snd.fst;let k:=cQ (bk g*bk d);let c:=cQ (bk r*bk e);let l:=bu (fU (!(bu p).fst==(bu q).fst) (bk k) (bk c));let b:=bp.i .u32;let t:=[γd .i64 0];let o:=bu (bV (bu p) / bV (bu q));((bA g/\bA d)/\γc g<=100000000000/\γc d<=100000000000)/\((bA r/\bA e)/\γc r<=100000000000/\γc e<=100000000000)/\((bA k/\bA c)/\(k.length<=1000000000/\c.length<=1000000000)/\(0:Int)<bk c)/\(SV.bI (γR [γA l.fst,a b l.snd.fst,a b l.snd.snd]::t)).same (SV.bI (γR [γA o.fst,a b o.snd.fst,a b o.snd.snd]::t))) (by kernel_rfl) ?_;conv=>zeta
 rw[eD] at a;obtain⟨E,⟨C,_,M⟩,⟨K,_,I⟩⟩:=l9 p;obtain⟨B,⟨z,_,J⟩,⟨F,_,A⟩⟩:=l9 q;obtain⟨V,O⟩:=pq f;obtain⟨S,W⟩:=pq m;have T:=p.den_pos;have Z:=q.den_pos;have R:q.num≠0:=λh=>a (ζM.1 h);rw[M,I,J,A,E,B,eD,eD];have s:0<=(p.num.natAbs:Int)*(q.den:Int):=γx (by omega) (by omega);have n:0<(p.den:Int)*(q.num.natAbs:Int):=εz (by omega) (by omega);have Y:=mK s (qM (by omega) f.1 m.2);have N:=mK (γg n) (qM (by omega) f.2 m.1);obtain⟨G,H,P⟩:=gn s;obtain⟨w,D,U⟩:=gn (γg n);rw[G,w,RB a];refine⟨⟨⟨C,F⟩,?_,?_⟩,⟨⟨K,z⟩,?_,?_⟩,⟨⟨H,D⟩,⟨?_,?_⟩,n⟩,rfl⟩<;>omega
def I8:bM:=⟨169,List Int,.one (dG (.i .u32)),λa=>bA (show List Int from a)/\(show List Int from a).length<=1000000000,λa=> .sb (sY a)⟩
theorem h414:Holds Tryz.prog I8:=by
 refine cH (L:=[rI]) I8 lk (by grind[h152]) ?_;rintro(a:List Int) h;refine bQ (a.length<=1000000000000/\(γA (decide ((↑(bJ a).length:Int)=(↑a.length:Int)))).same (γA (sY a))) (by kernel_rfl) ?_;simp only[vcs];obtain⟨f,d⟩:bA a/\a.length<=1000000000:=h;refine⟨by omega,?_⟩;cases c:sY a with
 |true=>
  grind[qG,Ap,uC];|false=>
  refine decide_eq_false λb=>?_;have e:bJ a=a:=by
   unfold bJ at b ⊢;rw[γy] at b;exact γq (by omega)
  grind[rJ,uC]
def I9:bM:=⟨170,bL,.one (ei sF),λx=>x.2.1.length<=1000000000,λx=> .agg [.sb x.1,.sb (decide (x.2.1=[]))]⟩
theorem h415:Holds Tryz.prog I9:=by
 refine cH (L:=[]) I9 lk (by simp) ?_;rintro⟨s,n,d⟩ h;refine bQ (let a:=γA;(γR [a s,a (decide ((↑n.length:Int)=(0:Int)))]).same (γR [a s,a (decide (n=[]))])) (by kernel_rfl) ?_;have e:decide ((n.length:Int)=0)=decide (n=[]):=by
  simp_all
 rw[e];rfl
def uD:bM:=⟨141,bL,.one (ei sF),λx=>(bA x.2.1/\bA x.2.2)/\x.2.1.length<=10000000/\x.2.2.length<=10000000,λx=> .sb (okF x)⟩
theorem h407:Holds Tryz.prog uD:=by
 refine cH (L:=[I8,I9,D6,yg,ya]) uD lk (by grind[h414,h415,h165g,h128,h132]) ?_;rintro⟨s,n,d⟩ ⟨⟨m,f⟩,j,k⟩;refine bQ (let a:=SV.bl false;let b:=(0:Int);let c:=(1:Int);let l:=γA (okF (s,n,d));let w:=decide ((↑d.length:Int)=b);let x:=s==true&&(decide (n=[])==true&&true);let p:=cQ (eC (bk n) (bk d));let t:=cQ c;(bA n/\n.length<=1000000000)/\((!sY n)=true->(a).same l)/\((!sY n)=false->(bA d/\d.length<=1000000000)/\((!sY d)=true->(a).same l)/\((!sY d)=false->(w=true->(a).same l)/\(w=false->n.length<=1000000000/\(x=true->(a).same l)/\(x=false->((bA n/\bA d)/\n.length<=1000000000/\d.length<=1000000000)/\(b<=c/\c<(18446744073709551616:Int))/\((bA p/\bA t)/\p.length<=1000000000000/\t.length<=1000000000000)/\(γA (decide (lX (bk p) (bk t)=b))).same l))))) (by kernel_rfl) ?_;simp only[vcs];have m:bA n:=m;have f:bA d:=f;have j:n.length<=10000000:=j;have k:d.length<=10000000:=k;have c:¬(fS n/\fS d/\d≠[])->false=okF (s,n,d):=λh=>by
  grind[ab6]
 have e:∀{a:List Int},((a.length:Nat):Int)=0->a=[]:=λh=>χ (by omega);have b:∀{a:List Int},¬((a.length:Nat):Int)=0->a≠[]:=λh i=>h (by rw[i];rfl);refine⟨⟨m,by omega⟩,λu=>c λh=>?_,λu=>⟨⟨f,by omega⟩,λi=>c λh=>?_,λi=>⟨λo=>c λh=>h.2.2 (e o),λo=>⟨by omega,λC=>?_,λC=>?_⟩⟩⟩⟩;·grind[uC]
 ·grind[uC]
 all_goals
  have E:=okF_eq (s:=s) m f (uC.1 u) (uC.1 i) (b o);have D:=I7 f (uC.1 i) (b o);have J:=@Ry (bk n) (bk d) D;obtain⟨H,v,A⟩:=gn (show 0<=eC (bk n) (bk d) by omega);obtain⟨B,G,I⟩:=gn (show(0:Int)<=1 by omega);have y:eC (bk n) (bk d)<=bk d:=by
   unfold eC;have:=ζ7 (bk n).toNat (show 0<(bk d).toNat by omega);omega
  rw[E]
 ·simp_all
 ·have F:=I6 v f A (by omega);refine⟨⟨⟨m,f⟩,by omega,by omega⟩,by omega,⟨⟨v,G⟩,by omega,by decide⟩,?_⟩;rw[H,B];have r:(lX (eC (bk n) (bk d)) 1=0)=(eC (bk n) (bk d)=1):=by
   grind[lX]
  simp only[r];by_cases g:n=[]
  ·rw[if_pos g];have z:s=false:=by
    simp_all
   have q:eC (bk n) (bk d)=bk d:=by
    rw[g];unfold eC;simp[bk];omega
   rw[q,z,Bool.not_false,Bool.true_and,decide_eq_decide];constructor
   ·intro h;rw[<-Ap f (uC.1 i),h];rfl
   ·intro h;rw[h];rfl
  ·rw[if_neg g]
theorem uE {p q:Rat} {i j:Nat} (b:Sz i p) (a:Sz j q):Sz (i+j) (p*q):=by
 rw[<-RA];unfold fU;rw[Rz];have c:=p.den_pos;have d:=q.den_pos;have e:0<(p.den:Int)*(q.den:Int):=εz (by omega) (by omega);refine AI (by omega) ?_ ?_
 ·rw[εr,Int.natCast_mul];exact qM (by omega) b.1 a.1
 ·rw[εA (by omega)];exact qM (by omega) b.2 a.2
theorem Ja {p q:Rat} {i j:Nat} (c:Sz i p) (b:Sz j q) (d:q≠0):Sz (i+j) (p / q):=by
 rw[<-RB d];unfold fU;have e:=p.den_pos;have f:=q.den_pos;have l:q.num≠0:=λh=>d (ζM.1 h);have k:0<(p.den:Int)*(q.num.natAbs:Int):=εz (by omega) (by omega);have g:=qM (a:=(p.num.natAbs:Int)) (by omega) c.1 b.2;refine AI (by omega) ?_ ?_;·grind
 ·rw[εA (by omega)];exact qM (by omega) c.2 b.1
theorem ab8 {p q:Rat}:0<iR p q↔q<p:=by
 grind[iR]
theorem ab9 {p q:Rat}:iR p q=0↔p=q:=by
 grind[iR]
theorem RD:∀l:List Int,cmpL l l=0
 |[]=>rfl
 |a::l=>by
  simp only[cmpL,if_neg (Int.lt_irrefl a)];exact RD l
theorem RE:∀{a b:List Int},cmpL a b=0->a=b
 |[],[],_=>rfl
 |[],_::_,h=>by grind[cmpL];|_::_,[],h=>by grind[cmpL];|x::a,y::b,h=>by
  simp only[cmpL] at h;split at h;·simp at h
  ·split at h;·simp at h
   ·rw[RE h,show x=y by omega]
theorem RF:∀{a b:List Int},cmpL a b<0↔0<cmpL b a
 |[],[]=>by simp[cmpL];|[],_::_=>by simp[cmpL];|_::_,[]=>by simp[cmpL];|x::a,y::b=>by
  simp only[cmpL];by_cases c:x<y;·omega
  ·by_cases d:y<x;·omega
   ·rw[if_neg c,if_neg d,if_neg d,if_neg c];exact RF
theorem RG:∀{a b c:List Int},cmpL a b<0->cmpL b c<0->cmpL a c<0
 |[],[],_,h,_=>by omega;|_::_,[],_,h,_=>by grind[cmpL];|[],_::_,[],_,h=>by grind[cmpL];|[],_::_,_::_,_,_=>by simp[cmpL];|_::_,_::_,[],_,h=>by grind[cmpL];|x::a,y::b,z::c,h,k=>by
  simp only[cmpL] at h k ⊢;by_cases g:x<y;·omega
  ·rw[if_neg g] at h;by_cases e:y<x;·omega
   ·rw[if_neg e] at h;by_cases f:y<z;·omega
    ·rw[if_neg f] at k;by_cases d:z<y;·omega
     ·rw[if_neg d] at k;rw[if_neg (by omega),if_neg (by omega)];exact RG h k
def mL (a b:Alloc):Prop:=b.value<a.value\/a.value=b.value/\cmpL a.chosen b.chosen<0
theorem RI {a b c:Alloc} (h:mL a b) (k:mL b c):mL a c:=by
 rcases h with h|⟨g,e⟩
 ·rcases k with k|⟨f,_⟩;·left;omega
  ·left;omega
 ·rcases k with k|⟨f,d⟩;·left;omega
  ·exact .inr ⟨by omega,RG e d⟩
theorem Ec {a:Alloc}:¬mL a a:=by
 rintro(h|⟨_,h⟩)<;>grind[RD]
theorem acd {a b:Alloc} (h:¬mL a b) (k:¬mL b a):a=b:=by
 obtain⟨l,v⟩:=a;obtain⟨m,w⟩:=b;simp only[mL,not_or,not_and] at h k;have d:v=w:=by omega
 subst d;have e:=h.2 rfl;have c:=k.2 rfl;have:=mt RF.2 c;grind[RE]
def wed (c:Nat->Rat):(List Nat->Rat)->List Nat->Rat
 |_,[]=>0
 |f,i::R=>c i*f R - wed c (λl=>f (i::l)) R
theorem Jb {c:Nat->Rat}:∀{R:List Nat},wed c (λ_=>0) R=0
 |[]=>rfl
 |i::R=>by simp only[wed,Jb];grind
theorem Jc {c:Nat->Rat} {p q:Rat}:∀{R:List Nat} {f g:List Nat->Rat},wed c (λl=>p*f l+q*g l) R=p*wed c f R+q*wed c g R
 |[],_,_=>by grind[wed];|i::R,f,g=>by
  simp only[wed,@Jc c p q R];grind
theorem RJ {c d:Nat->Rat} {p q:Rat}:∀{R:List Nat} {f:List Nat->Rat},wed (λi=>p*c i+q*d i) f R=p*wed c f R+q*wed d f R
 |[],_=>by grind[wed];|i::R,f=>by
  simp only[wed,@RJ c d p q R];grind
theorem RL {c:Nat->Rat} {p:Rat} {R:List Nat} {f g:List Nat->Rat}:wed c (λl=>p*f l - g l) R=p*wed c f R - wed c g R:=by
 have:=@Jc c p (-1) R f g;grind
theorem Jd {a b:Nat->Rat}:∀{R:List Nat} {f:List Nat->Rat},wed a (wed b f) R= - wed b (wed a f) R
 |[],_=>by grind[wed];|i::R,f=>by
  have d:wed a (λl=>wed b f (i::l)) R=b i*wed a f R - wed a (wed b λl=>f (i::l)) R:=RL;have c:wed b (λl=>wed a f (i::l)) R=a i*wed b f R - wed b (wed a λl=>f (i::l)) R:=RL;have h:=@Jd a b R λl=>f (i::l);grind[wed]
theorem ace {a:Nat->Rat} {f:List Nat->Rat}:wed a (wed a f)=λ_=>0:=by
 grind[Jd]
def yl (R:List Nat):Rat:=if R=[] then 1 else 0
def jX (a:List (Nat->Rat)):List Nat->Rat:=a.foldr wed yl
theorem RN {c:Nat->Rat} {a:List (Nat->Rat)}:jX (c::a)=wed c (jX a):=rfl
theorem RO {a:Nat->Rat}:∀{b:List (Nat->Rat)} {f:List Nat->Rat},wed a (b.foldr wed (wed a f))=λ_=>0
 |[],f=>ace
 |c::b,f=>by
  funext R;simp only[ε2];rw[Jd,@RO a b f,Jb];rfl
theorem fold_zero:∀{cs:List (Nat->Rat)},cs.foldr wed (λ_=>0)=λ_=>0
 |[]=>rfl
 |c::cs=>by
  rw[ε2,fold_zero];grind[Jb]
theorem RP {a:Nat->Rat} {p m q:List (Nat->Rat)}:jX (p++a::(m++a::q))=λ_=>0:=by
 grind[jX,RO,fold_zero]
theorem RR {p q:Rat}:∀{a:List (Nat->Rat)} {f g:List Nat->Rat} {R:List Nat},a.foldr wed (λl=>p*f l+q*g l) R=p*a.foldr wed f R+q*a.foldr wed g R
 |[],_,_,_=>rfl
 |c::a,f,g,R=>by
  simp only[ε2];rw[<-Jc];congr 1;funext l;exact RR
theorem RS {c d:Nat->Rat} {p q:Rat} {a b:List (Nat->Rat)} {R:List Nat}:jX (a++(λi=>p*c i+q*d i)::b) R=p*jX (a++c::b) R+q*jX (a++d::b) R:=by
 unfold jX;simp only[List.foldr_append,ε2];rw[<-RR];have e:wed (λi=>p*c i+q*d i) (θa wed yl b)=λl=>p*wed c (θa wed yl b) l+q*wed d (θa wed yl b) l:=by
  grind[RJ]
 rw[e]
def ff (M:Nat) (q:Rat):Prop:=∃z:Int,q=(z:Rat)/\z.natAbs<=M
theorem RU {c:Nat->Rat} {M K:Nat}:∀{R:List Nat} {f:List Nat->Rat},(∀i∈R,ff M (c i))->(∀l,l.length+1=R.length->(∀i∈l,i∈R)->ff K (f l))->ff (R.length*(M*K)) (wed c f R)
 |[],_,_,_=>⟨0,by simp[wed],by simp⟩
 |i::R,f,e,g=>by
  simp only[wed,γD];obtain⟨y,q,h⟩:=@RU c M K R (λl=>f (i::l)) (λj a=>e j (by simp[a])) λl n p=>g _ (by simp_all) λj a=>by
   grind
  obtain⟨u,o,b⟩:=e i (by simp);obtain⟨v,k,d⟩:=g R (by simp) λj a=>by simp[a]
  refine⟨u*v - y,?_,?_⟩;·simp_all
  ·have m:(u*v).natAbs<=M*K:=by
    rw[εr];exact Nat.mul_le_mul b d
   grind
def nH (M:Nat):Nat->Nat
 |0=>1
 |n+1=>(n+1)*(M*nH M n)
theorem Ed {M:Nat}:∀{cs:List (Nat->Rat)} {R:List Nat},cs.length=R.length->(∀c∈cs,∀i∈R,ff M (c i))->ff (nH M R.length) (jX cs R)
 |[],R,b,_=>by
  have:R=[]:=χ (by simp_all);subst this;exact⟨1,by simp[jX,yl],by simp[nH]⟩;|c::cs,R,b,e=>by
  rw[RN];cases R with
  |nil=>simp at b;|cons i R=>
   simp only[γD,nH];refine RU (e c (by simp)) λl a g=>?_;simp only[γD] at b a;rw[show R.length=l.length by omega];exact Ed (by omega) λd f j h=>e d (by simp[f]) j (g j h)
def ym (k:Nat):Nat->Rat:=λi=>if i=k then 1 else 0
theorem RV {c:Nat->Rat}:∀{R:List Nat} {f:List Nat->Rat},(∀i∈R,c i=0)->wed c f R=0
 |[],_,_=>rfl
 |i::R,f,h=>by
  simp only[wed];rw[h i (by simp),RV λj a=>h j (by simp[a])];grind
theorem RX:∀{R:List Nat},R.Nodup->jX (R.map ym) R=1
 |[],_=>by simp[jX,yl];|i::R,h=>by
  rw[List.nodup_cons] at h;rw[List.map_cons,RN];simp only[wed];rw[RV (c:=ym i) (R:=R) λj a=>by
   unfold ym;grind];rw[RX h.2];unfold ym;grind
def bO (n:Nat) (f:Nat->Rat):Rat:=match n with
 |0=>0
 |n+1=>bO n f+f n
theorem dK:∀{n:Nat} {f g:Nat->Rat},(∀i,i<n->f i=g i)->bO n f=bO n g
 |0,_,_,_=>rfl
 |n+1,f,g,h=>by simp only[bO];rw[dK λi a=>h i (by omega),h n (by omega)]
theorem yn:∀{n:Nat} {f g:Nat->Rat},bO n (λi=>f i+g i)=bO n f+bO n g
 |0,_,_=>by grind[bO];|n+1,f,g=>by simp only[bO];rw[yn];grind
theorem wj {c:Rat}:∀{n:Nat} {f:Nat->Rat},bO n (λi=>c*f i)=c*bO n f
 |0,_=>by grind[bO];|n+1,f=>by simp only[bO];rw[wj];grind
theorem iT:∀{n:Nat},bO n (λ_=>0)=0
 |0=>rfl
 |n+1=>by simp only[bO];rw[iT];grind
theorem wm {k:Nat} {x:Rat}:∀{n:Nat},bO n (λi=>if i=k then x else 0)=if k<n then x else 0
 |0=>by simp[bO];|n+1=>by
  simp only[bO];rw[wm];grind
theorem Ee {n k:Nat} {f:Nat->Rat} (h:k<n):bO n f=f k+bO n λi=>if i=k then 0 else f i:=by
 have a:=@wm k (f k) n;rw[if_pos h] at a;rw[<-a,<-yn];grind[dK]
theorem RY {a b:List (Nat->Rat)} {R:List Nat} {y:Nat->Rat} {T:Nat->Nat->Rat}:∀{n:Nat},jX (a++(λi=>bO n λk=>y k*T k i)::b) R=bO n λk=>y k*jX (a++T k::b) R
 |0=>by
  have e:(λi:Nat=>bO 0 λk=>y k*T k i)=λi=>(0:Rat)*(λ_=>0) i+0*(λ_=>0) i:=by grind[bO]
  rw[e,RS];grind[bO];|n+1=>by
  have e:(λi:Nat=>bO (n+1) λk=>y k*T k i)=λi=>(1:Rat)*(λi=>bO n λk=>y k*T k i) i+y n*T n i:=by
   grind[bO]
  rw[e,RS,RY];grind[bO]
theorem acf {C:List (Nat->Rat)} {R:List Nat} {y:Nat->Rat} {r:Nat} (f:r<C.length):jX (C.set r (λi=>bO C.length λk=>y k*(C.getD k (λ_=>0)) i)) R=y r*jX C R:=by
 have a:∀c:Nat->Rat,C.set r c=C.take r++c::C.drop (r+1):=λc=>by rw[List.set_eq_take_append_cons_drop,if_pos f]
 rw[a,RY,Ee f];have m:∀k,k<C.length->(if k=r then(0:Rat) else y k*jX (C.take r++C.getD k (λ_=>0)::C.drop (r+1)) R)=0:=by
  intro k g;split;·rfl
  ·rename_i e;have o:jX (C.take r++C.getD k (λ_=>0)::C.drop (r+1)) R=0:=by
    have n:C.getD k (λ_=>0)=C[k]:=by simp_all
    rw[n];rcases Nat.lt_or_gt_of_ne e with h|h
    ·have j:C.take r=C.take k++C[k]::(C.drop (k+1)).take (r - (k+1)):=by
      have b:C[k]::C.drop (k+1)=C.drop k:=ζF g;obtain⟨d,rfl⟩:∃d,r=k+(d+1):=⟨r - (k+1),by omega⟩;rw[List.take_add,<-b,List.take_succ_cons,show k+(d+1) - (k+1)=d by omega]
     grind[RP]
    ·have j:C.drop (r+1)=(C.drop (r+1)).take (k - (r+1))++C[k]::C.drop (k+1):=by
      have b:C[k]::C.drop (k+1)=C.drop k:=ζF g;rw[b];have l:=γK (k - (r+1)) (C.drop (r+1));rw[δj,show r+1+(k - (r+1))=k by omega] at l;exact l.symm
     rw[j,RP]
   simp_all
 rw[dK m,iT];have b:C.take r++C.getD r (λ_=>0)::C.drop (r+1)=C:=by
  simp_all
 rw[b];grind
structure Tb where
 cq:List (List Rat)
 bound:List Rat
 cost:List Rat
 value:Rat
 basic:List Int
 free:List Int
namespace Tb
def cf (t:Tb) (i j:Nat):Rat:=bj (bj t.cq i []) j 0
def bd (t:Tb) (i:Nat):Rat:=bj t.bound i 0
def cs (t:Tb) (j:Nat):Rat:=bj t.cost j 0
def bv (t:Tb) (i:Nat):Int:=bj t.basic i 0
def fv (t:Tb) (j:Nat):Int:=bj t.free j 0
structure WF (n m:Nat) (t:Tb):Prop where
 cq:t.cq.length=m
 row:∀i,i<m->(bj t.cq i []).length=n
 bound:t.bound.length=m
 cost:t.cost.length=n
 basic:t.basic.length=m
 free:t.free.length=n
def holds (n m:Nat) (t:Tb) (x:Int->Rat) (z:Rat):Prop:=
 (∀i,i<m->x (t.bv i)+bO n (λj=>t.cf i j*x (t.fv j))=t.bd i)/\z=t.value+bO n λj=>t.cs j*x (t.fv j)
end Tb
def kn (l:List Rat) (c:Nat) (p:List Rat):List Rat:=(ω l.length).map λj=>if j=c then -(bj l c 0*bj p j 0) else bj l j 0 - bj l c 0*bj p j 0
def kL (l:List Rat) (c:Nat):List Rat:=(ω l.length).map λj=>if j=c then 1 / bj l c 0 else bj l j 0*(1 / bj l c 0)
def fV (t:Tb) (r c:Nat):Tb where
 cq:=(ω t.cq.length).map λi=>if i=r then kL (bj t.cq r []) c else kn (bj t.cq i []) c (kL (bj t.cq r []) c);bound:=(ω t.bound.length).map λi=>if i=r then t.bd r*(1 / t.cf r c) else t.bd i - t.cf i c*(t.bd r*(1 / t.cf r c));cost:=kn t.cost c (kL (bj t.cq r []) c);value:=t.value+t.cs c*(t.bd r*(1 / t.cf r c));basic:=t.basic.set r (t.fv c);free:=t.free.set c (t.bv r)
theorem qN {a:Type} {f:Nat->a} {n i:Nat} {d:a} (h:i<n):bj ((ω n).map f) i d=f i:=by
 grind[cT]
theorem iU {a:Type} {l:List a} {r i:Nat} {x d:a} (h:r<l.length):bj (l.set r x) i d=if i=r then x else bj l i d:=by
 unfold bj;grind
section
variable {n m:Nat} {t:Tb} {r c:Nat}
theorem RZ {l:List Rat}:(kL l c).length=l.length:=by simp[kL]
theorem Ef {l p:List Rat}:(kn l c p).length=l.length:=by simp[kn]
theorem Je {l:List Rat} {j:Nat} (h:j<l.length):bj (kL l c) j 0=if j=c then 1 / bj l c 0 else bj l j 0*(1 / bj l c 0):=qN h
theorem Eg {l p:List Rat} {j:Nat} (h:j<l.length):bj (kn l c p) j 0=if j=c then -(bj l c 0*bj p j 0) else bj l j 0 - bj l c 0*bj p j 0:=qN h
theorem R1 (h:t.WF n m):(fV t r c).WF n m where
 cq:=by simp[fV,h.cq]
 row i a:=by
  simp only[fV];rw[qN (by rw[h.cq];exact a)];split;·rename_i e;subst e;rw[RZ,h.row _ a]
  ·rw[Ef,h.row _ a]
 bound:=by simp[fV,h.bound]
 cost:=by simp only[fV];rw[Ef,h.cost]
 basic:=by simp[fV,h.basic]
 free:=by simp[fV,h.free]
theorem AW (h:t.WF n m) (b:r<m) (e:c<n) {i j:Nat} (d:i<m) (a:j<n):(fV t r c).cf i j=
  if i=r then(if j=c then 1 / t.cf r c else t.cf r j*(1 / t.cf r c)) else if j=c then -(t.cf i c*(1 / t.cf r c)) else t.cf i j - t.cf i c*(t.cf r j*(1 / t.cf r c)):=by
 unfold Tb.cf;simp only[fV];rw[qN (by rw[h.cq];exact d)];split;·rw[Je (by rw[h.row _ b];exact a)]
 ·rw[Eg (by rw[h.row _ d];exact a)];rw[Je (by rw[h.row _ b];exact a)];simp_all
theorem Eh (h:t.WF n m) {i:Nat} (a:i<m):(fV t r c).bd i=if i=r then t.bd r*(1 / t.cf r c) else t.bd i - t.cf i c*(t.bd r*(1 / t.cf r c)):=by
 show bj _ i 0=_;simp only[fV];rw[qN (by rw[h.bound];exact a)]
theorem R7 (h:t.WF n m) (b:r<m) {j:Nat} (a:j<n):(fV t r c).cs j=if j=c then -(t.cs c*(1 / t.cf r c)) else t.cs j - t.cs c*(t.cf r j*(1 / t.cf r c)):=by
 show bj _ j 0=_;simp only[fV];rw[Eg (by rw[h.cost];exact a),Je (by rw[h.row _ b];exact a)];split;·rfl
 ·rfl
theorem Jf (h:t.WF n m) (a:r<m) {i:Nat}:(fV t r c).bv i=if i=r then t.fv c else t.bv i:=iU (by rw[h.basic];exact a)
theorem Jg (h:t.WF n m) (a:c<n) {j:Nat}:(fV t r c).fv j=if j=c then t.bv r else t.fv j:=iU (by rw[h.free];exact a)
theorem piv_holds (h:t.WF n m) (b:r<m) (k:c<n) (K:t.cf r c≠0) {x:Int->Rat} {z:Rat}:(fV t r c).holds n m x z↔t.holds n m x z:=by
 have d:∀f:Nat->Rat,bO n (λj=>f j*x (t.fv j))=f c*x (t.fv c)+bO n (λj=>if j=c then 0 else f j*x (t.fv j)):=λf=>Ee k;have e:∀f:Nat->Rat,bO n (λj=>f j*x ((fV t r c).fv j))=f c*x (t.bv r)+bO n (λj=>if j=c then 0 else f j*x (t.fv j)):=λf=>by
  rw[Ee k,Jg h k,if_pos rfl];congr 1;refine dK λj _=>?_;split;·rfl
  ·rename_i p;rw[Jg h k,if_neg p]
 have I:bO n (λj=>if j=c then 0 else(fV t r c).cf r j*x (t.fv j))=(1 / t.cf r c)*bO n (λj=>if j=c then 0 else t.cf r j*x (t.fv j)):=by
  rw[<-wj];refine dK λj p=>?_;split;·grind
  ·rename_i l;rw[AW h b k b p,if_pos rfl,if_neg l];grind
 have E:∀f g:Nat->Rat,∀q:Rat,(∀j,j<n->j≠c->g j=f j - q*(t.cf r j*(1 / t.cf r c)))->bO n (λj=>if j=c then 0 else g j*x (t.fv j))=bO n (λj=>if j=c then 0 else f j*x (t.fv j))+(-(q*(1 / t.cf r c)))*bO n (λj=>if j=c then 0 else t.cf r j*x (t.fv j)):=λf g q L=>by
  rw[<-wj,<-yn];refine dK λj p=>?_;grind
 have J:∀j,j<n->j≠c->(fV t r c).cs j=t.cs j - t.cs c*(t.cf r j*(1 / t.cf r c)):=λj p l=>by rw[R7 h b p,if_neg l]
 have B:∀i,i<m->i≠r->∀j,j<n->j≠c->(fV t r c).cf i j=t.cf i j - t.cf i c*(t.cf r j*(1 / t.cf r c)):=λi o a j p l=>by rw[AW h b k o p,if_neg a,if_neg l]
 have G:=E t.cs _ _ J;have v:=R7 (c:=c) h b k;rw[if_pos rfl] at v;have s:=AW h b k b k;rw[if_pos rfl,if_pos rfl] at s;have w:=Eh (r:=r) (c:=c) h b;rw[if_pos rfl] at w;have u:=Jf (c:=c) (i:=r) h b;rw[if_pos rfl] at u;have H:(fV t r c).value=t.value+t.cs c*(t.bd r*(1 / t.cf r c)):=rfl;unfold Tb.holds;constructor
 ·rintro⟨A,F⟩;have C:=A r b;rw[e,I,s,u,w] at C;refine⟨λi o=>?_,?_⟩
  ·by_cases a:i=r
   ·subst a;rw[d];grind
   ·have D:=A i o;have y:=AW h b k o k;rw[if_neg a,if_pos rfl] at y;rw[e,E _ _ _ (B i o a),Jf h b,if_neg a,Eh h o,if_neg a,y] at D;rw[d];grind
  ·rw[e,G,v,H] at F;rw[d];grind
 ·rintro⟨A,F⟩;have C:=A r b;rw[d] at C;refine⟨λi o=>?_,?_⟩
  ·by_cases a:i=r
   ·subst a;rw[e,I,s,u,w];grind
   ·have D:=A i o;have y:=AW h b k o k;rw[if_neg a,if_pos rfl] at y;rw[e,E _ _ _ (B i o a),Jf h b,if_neg a,Eh h o,if_neg a,y];rw[d] at D;grind
  ·rw[e,G,v,H];rw[d] at F;grind
end
end Go.Vi
