/-
  Contracts: natural numbers of any size: digit.
  Conditions: none.
-/
import Derived.Test.YtbnhiekmnpikhaaGreatDK06
import Derived.Test.YtbnhiekmnpikhaaGreatDK07
set_option maxRecDepth 100000
set_option maxHeartbeats 4000000
set_option linter.all false
open And renaming intro->γh
open BitVec renaming ofInt->γn
open Bool renaming eq_iff_iff->ζ6
open Go.Vi.SV renaming row->Ω,si->γi,il->γy,ow->γ1,sb->γw,agg->γN
open Int renaming mul_ediv_add_emod->εg,emod_nonneg->δx,emod_lt_of_pos->δh,ediv_nonneg->δZ,mul_le_mul_of_nonneg_left->Ξ,mul_comm->δ3,mul_nonneg->γu,mul_le_mul->δF,sub_mul->ζR,one_mul->εy,pow_succ->γP,mul_assoc->δk,mul_add->εx,mul_sub->εN,mul_zero->δG,add_zero->εi,mul_one->ε3,sub_zero->ζf,emod_eq_of_lt->δJ,pow_add->δ6,lt_of_le_of_lt->εH,le_of_lt->γe,mul_lt_mul_of_pos_right->γ2,eq_ofNat_of_zero_le->δE,pow_pos->δL,mul_emod_mul_of_pos->ζy,lt_of_mul_lt_mul_left->εr,lt_of_lt_of_le->εG,mul_le_mul_of_nonneg_right->γQ,ediv_lt_of_lt_mul->εU,pow_zero->ζH,toNat_natCast->γl,mul_ediv_cancel_left->ζq,natAbs_mul->εs,natAbs_natCast->ζg,mul_neg_of_neg_of_pos->εt,mul_pos->εA
open IntCast renaming intCast->κ
open List renaming length->γc,take->ω,length_take->γq,take_length->ψ,replicate->δ,getElem?_replicate->εD,eq_of_mem_replicate->δ0,replicate_succ->δl,length_set->Φ,drop_drop->δi,take_zero->εq,drop->γU,eq_nil_of_length_eq_zero->τ
open List.cons renaming injEq->Θ
open Nat renaming min_eq_left->εh,le_refl->ξ,pow_le_pow_right->δp,add_sub_cancel->ζV,gcd_dvd_left->ζ3
open Option.some renaming injEq->γ
open Prod renaming ext->εE
open Rat renaming mkRat_self->δV,normalize_eq_mkRat->ζB
namespace Go.Vi
open Go.Proofs.YtbnhiekmnpikhaaGreat.Ir
open Go.Proofs
structure nC where
 U:List Int
 j:Nat
 len:Nat
 n:Nat
 v:List Int
def nC.x (a:nC):Int:=bk (prt a.U a.j (a.v.length+1))
def nC.ok (a:nC):Prop:=(bA a.U/\bA a.v)/\(a.len=a.v.length+1/\a.n=a.U.length)/\(2<=a.v.length/\a.j+a.v.length+1<=a.U.length/\a.U.length<=200000000000)/\
 2147483648<=bj a.v (a.v.length - 1) 0/\a.x<4294967296*bk a.v
def nC.row (a:nC):List Int:=js a.U a.j (ix (a.v.length+1) (a.x % bk a.v))
def IJ:dH where
 f:=188;α:=nC;put a:=[.oc 0 a.j a.len a.n 1,.row (.i .u32) a.v];st a:=[.row (.i .u32) a.U 172 false];dec v o:=match v,o with
  |[.oc 0 j len n 1,v],[.row t l 172 false]=>match jH (.i .u32) v,iG t (.i .u32) l with
   |some v,some l=>some ⟨l,j,len,n,v⟩
   |_,_=>none
  |_,_=>none;ok v o a h:=by
  split at h
  ·split at h
   ·rename_i h1 h2;simp only[γ] at h;subst h;obtain⟨rfl,hh⟩:=mE h2;cases hh;exact⟨by simp only[gL,o6 h1],rfl⟩
   ·cases h
  ·cases h
 inj a b h1 h2:=by
  obtain⟨U,j,len,n,v⟩:=a;obtain⟨U',j',len',n',v'⟩:=b;simp only[gL,Θ,and_true] at h1;obtain⟨g1,g2⟩:=h1;have e2:=(dM (.i .u32)).inj _ _ g2;simp only[SV.g,AV.os.injEq,true_and,bp.sz,Nat.mul_one] at g1;simp only[gO,List.map_cons,List.map_nil,bq.g,Θ,bQ.cells.injEq,and_true] at h2;have hl:U=U':=by
   have hf:=congrArg γc h2;rw[fe,fe] at hf;exact ly (.i .u32) (by simpa[bp.sz] using hf) h2
  obtain⟨q1,q2,q3⟩:=g1;subst q3;have:j=j':=by omega
  rw[e2,hl,q2,this]
 dom:=nC.ok;res a:=.si .u32 (a.x / bk a.v);out a:=[.row (.i .u32) a.row 172 false]
def IK (U:List Int):bZ:=[.row (.i .u32) U 172 false]
def aa8 (a:nC):Nat->cF
 |4=> .inv (Int×Int) (λx=>⟨[(0,.oc 0 a.j a.len a.n 1),(1,.row (.i .u32) a.v),(5,.si .i64 a.v.length),(7,.si .u64 x.1),(8,.si .u64 x.2)],IK a.U⟩) (λs=>(iS s 7,iS s 8))
  (λx=>(0<=x.1/\x.1<=4294967297)/\(0<=x.2/\x.2<4294967296)/\x.1*bj a.v (a.v.length - 1) 0+x.2=bj a.U (a.j+(a.v.length - 1)) 0+4294967296*bj a.U (a.j+a.v.length) 0/\a.x<(x.1+1)*bk a.v) (λx=>x.1.toNat) λ_ _=> .look
 |10=> .inv (Int×Int×Int×Int×List Int) (λx=>⟨[(0,.oc 0 a.j a.len a.n 1),(1,.row (.i .u32) a.v),(5,.si .i64 a.v.length),(7,.si .u64 x.2.1),(9,.si .u64 x.2.2.1),(10,.si .u64 x.2.2.2.1),(82,.si .i64 a.v.length),(83,.si .i64 x.1)],IK x.2.2.2.2⟩)
  (λs=>(iS s 83,iS s 7,iS s 9,iS s 10,oS (.i .u32) s 0))
  (λx=>(0<=x.1/\x.1<=a.v.length)/\(0<=x.2.1/\x.2.1<4294967296)/\(a.x<(x.2.1+1)*bk a.v/\x.2.1*bk a.v<a.x+bk a.v)/\(0<=x.2.2.1/\x.2.2.1<4294967296)/\(0<=x.2.2.2.1/\x.2.2.2.1<=1)/\(bA x.2.2.2.2/\x.2.2.2.2.length=a.U.length)/\
   (∀m,(m<a.j\/a.j+x.1.toNat<=m)->bj x.2.2.2.2 m 0=bj a.U m 0)/\
   bk (prt x.2.2.2.2 a.j x.1.toNat)=bk (prt a.U a.j x.1.toNat) - x.2.1*bk (a.v.take x.1.toNat)+4294967296^x.1.toNat*(x.2.2.1+x.2.2.2.1)) (λx=>(a.v.length - x.1).toNat) λ_ _=> .look
 |23=> .inv (Int×Int×Int×List Int) (λx=>⟨[(0,.oc 0 a.j a.len a.n 1),(1,.row (.i .u32) a.v),(5,.si .i64 a.v.length),(7,.si .u64 x.2.1),(9,.si .u64 x.2.2.1),(134,.si .i64 a.v.length),(135,.si .i64 x.1)],IK x.2.2.2⟩)
  (λs=>(iS s 135,iS s 7,iS s 9,oS (.i .u32) s 0))
  (λx=>(0<=x.1/\x.1<=a.v.length)/\(0<=x.2.1/\x.2.1<4294967296)/\(a.x<x.2.1*bk a.v/\x.2.1*bk a.v<a.x+bk a.v)/\(0<=x.2.2.1/\x.2.2.1<=1)/\(bA x.2.2.2/\x.2.2.2.length=a.U.length)/\
   ∃W,(bA W/\W.length=a.U.length)/\(∀m,(m<a.j\/a.j+(a.v.length+1)<=m)->bj W m 0=bj a.U m 0)/\bk (prt W a.j (a.v.length+1))=a.x - x.2.1*bk a.v+4294967296^(a.v.length+1)/\
    (∀m,(m<a.j\/a.j+x.1.toNat<=m)->bj x.2.2.2 m 0=bj W m 0)/\bk (prt x.2.2.2 a.j x.1.toNat)+4294967296^x.1.toNat*x.2.2.1=bk (prt W a.j x.1.toNat)+bk (a.v.take x.1.toNat))
  (λx=>(a.v.length - x.1).toNat) λ_ _=> .look
 |_=> .look
theorem h169:ec Tryz.prog IJ:=by
 refine lz (L:=[]) (W:=[]) IJ aa8 (by simp) (by simp) ?_;rintro⟨U,j,len,n,v⟩ ⟨⟨hU,hv⟩,⟨e1,e2⟩,⟨hn,hj,hlU⟩,hv1,hx⟩;simp only at hU hv hn hj hlU hv1 hx e1 e2;subst e1 e2;refine bR (let a:=(18446744073709551616:Int);let b:=(0:Int);let c:=(4294967296:Int);let d:=(1:Int);let e:=Ω;let f:=γi .i64;let g:=(32:Int);let h:=cu .i64;let k:=(9223372036854775808:Int);let l:=(4294967297:Int);let n:=(64:Int);let o:=bq.row;let p:=γy .i64 0;let q:=(63:Int);let r:=γy .i64;let D:=(↑v.length:Int);let y:=v.length+1;let F:=(↑y:Int);let B:=D - d;let Q:=bj v B.toNat b % a;let a7:=gX.nW .u64 (bj U (j+D.toNat) 0 % a*c % a) (bj U (j+B.toNat) 0 % a);let K:=a7.tdiv Q;let C:=SV.oc 0 j y U.length 1;let w:=bp.i .u32;let s:=(↑v.length:Int);let t:=f s;let a8:=γi .u64 K;let R:=a7.tmod Q;let a9:=γi .u64 R;let J:=o w U 172 false;let aa:=v.length - 1;let a3:=bj v aa b;let a4:=bj U (j+aa) 0+c*bj U (j+v.length) 0;let ab:=nC.mk U j y U.length v;let E:=ab.x;let L:=s - d;let aJ:=bj v L.toNat b % a;let M:=E+bk v;let S:=bk (prt U j 0);let I:=j+s.toNat;let ac:=γi .u32 (E / bk v);let ad:=o w ab.row 172 false;let ae:=c^y;let H:=s - (2:Int);U.length=U.length/\b<=D/\D<F/\j+y<=U.length/\U.length=U.length/\j+D.toNat<U.length/\b<=g/\g<=n/\h B/\U.length=U.length/\b<=B/\B<F/\j+y<=U.length/\U.length=U.length/\j+B.toNat<U.length/\h B/\b<=B/\B<D/\B.toNat<v.length/\Q≠b/\cu .u64 K/\h B/\b<=B/\B<D/\B.toNat<v.length/\Q≠b/\(((C.same C/\(e w v).same (e w v)/\(f D).same t/\a8.same a8/\a9.same a9/\True)/\J.same J/\True)/\(b<=K/\K<=l)/\(b<=R/\R<c)/\K*a3+R=a4/\E<(K+d)*bk v)/\∀(x:Int×Int),let N:=(x.snd+aJ) % a;let af:=decide (c<=N);let G:=(x.fst - d) % a;let T:=γi .u64 G;let ag:=γi .u64 N;let ah:=decide (c<=x.fst);let ai:=γi .u64 x.fst;let aj:=∀(x:Int×Int×Int×Int×List Int),let V:=x.snd.fst*bk v;let z:=x.snd.snd.snd.snd;let X:=x.snd.snd.snd.fst;let Y:=x.snd.snd.fst;let ak:=((bj z I b % a - Y) % a - X) % a;let O:=j+x.fst.toNat;let Z:=x.fst+d;let a0:=γi .u64 x.snd.fst;let al:=(x.snd.fst*(bj v x.fst.toNat b % a) % a+Y) % a;let am:=al / c;let an:=γi .u64 am;let ao:=gX.vB .u64 al (4294967295:Int);let ap:=((bj z O b % a - ao) % a - X) % a;let aq:=ap / k;let ar:=γi .u64 aq;let au:=f Z;let P:=z.set I (ak % c);let av:=λ(u u_1 u_2:Int) (u_3:List Int) ↦(b<=u/\u<=s)/\(b<=x.snd.fst/\x.snd.fst<c)/\(E<(x.snd.fst+d)*bk v/\V<M)/\(b<=u_1/\u_1<c)/\(b<=u_2/\u_2<=d)/\(bA u_3/\u_3.length=U.length)/\(∀(m:Nat),m<j\/j+u.toNat<=m->bj u_3 m b=bj U m b)/\bk (prt u_3 j u.toNat)=bk (prt U j u.toNat) - x.snd.fst*bk (ω u.toNat v)+c^u.toNat*(u_1+u_2);let aw:=λ(u:Nat) (u_1:Int) ↦let ax:=o w (z.set u (((bj z u b % a - u_1) % a - X) % a % c)) 172 false;ax.same ax/\True;let ay:=λ(u:Bool) ↦decide (ak / k=b)=u;av x.fst Y X z->(decide (x.fst<s)=true->b<=x.fst/\x.fst<D/\x.fst.toNat<v.length/\b<=g/\g<=n/\U.length=z.length/\b<=x.fst/\x.fst<F/\j+y<=U.length/\U.length=z.length/\O<z.length/\b<=q/\q<=n/\U.length=z.length/\b<=x.fst/\x.fst<F/\j+y<=U.length/\U.length=z.length/\O<z.length/\h Z/\((C.same C/\(e w v).same (e w v)/\t.same t/\a0.same a0/\an.same an/\ar.same ar/\t.same t/\au.same au/\True)/\aw O ao)/\av Z am aq (z.set O (ap % c))/\(s - Z).toNat<(s - x.fst).toNat)/\(decide (x.fst<s)=false->U.length=z.length/\b<=s/\s<F/\j+y<=U.length/\U.length=z.length/\I<z.length/\U.length=z.length/\b<=s/\s<F/\j+y<=U.length/\U.length=z.length/\I<z.length/\b<=q/\q<=n/\(ay true->(γi .u32 (x.snd.fst % c)).same ac/\(o w P 172 false).same ad/\True)/\(ay false->(((C.same C/\(e w v).same (e w v)/\t.same t/\a0.same a0/\(γy .u64 0).same (γi .u64 0)/\t.same t/\(p).same (f 0)/\True)/\aw I Y)/\(b<=b/\b<=s)/\(b<=x.snd.fst/\x.snd.fst<c)/\(E<V/\V<M)/\(b<=b/\b<=d)/\(bA P/\P.length=U.length)/\∃(W:List Int),(bA W/\W.length=U.length)/\(∀(m:Nat),m<j\/j+y<=m->bj W m b=bj U m b)/\bk (prt W j y)=E - V+ae/\(∀(m:Nat),m<j\/j+0<=m->bj P m b=bj W m b)/\bk (prt P j 0)+b=bk (prt W j 0)+bk [])/\∀(x:Int×Int×Int×List Int),let a5:=x.snd.fst*bk v;let a6:=x.snd.snd.fst;let A:=x.snd.snd.snd;let a1:=j+x.fst.toNat;let a2:=x.fst+d;let az:=γi .u64 x.snd.fst;let aA:=((bj A a1 b % a+bj v x.fst.toNat b % a) % a+a6) % a;let aB:=aA / c;let aC:=γi .u64 aB;let aD:=f a2;let aE:=A.set a1 (aA % c);let aF:=o w aE 172 false;let aG:=λ(u u_1:Int) (u_2:List Int) ↦(b<=u/\u<=s)/\(b<=x.snd.fst/\x.snd.fst<c)/\(E<a5/\a5<M)/\(b<=u_1/\u_1<=d)/\(bA u_2/\u_2.length=U.length)/\∃(W:List Int),(bA W/\W.length=U.length)/\(∀(m:Nat),m<j\/j+y<=m->bj W m b=bj U m b)/\bk (prt W j y)=E - a5+ae/\(∀(m:Nat),m<j\/j+u.toNat<=m->bj u_2 m b=bj W m b)/\bk (prt u_2 j u.toNat)+c^u.toNat*u_1=bk (prt W j u.toNat)+bk (ω u.toNat v);aG x.fst a6 A->(decide (x.fst<s)=true->U.length=A.length/\b<=x.fst/\x.fst<F/\j+y<=U.length/\U.length=A.length/\a1<A.length/\b<=x.fst/\x.fst<D/\x.fst.toNat<v.length/\b<=g/\g<=n/\U.length=A.length/\b<=x.fst/\x.fst<F/\j+y<=U.length/\U.length=A.length/\a1<A.length/\h a2/\((C.same C/\(e w v).same (e w v)/\t.same t/\az.same az/\aC.same aC/\t.same t/\aD.same aD/\True)/\aF.same aF/\True)/\aG a2 aB aE/\(s - a2).toNat<(s - x.fst).toNat)/\(decide (x.fst<s)=false->U.length=A.length/\b<=s/\s<F/\j+y<=U.length/\U.length=A.length/\I<A.length/\U.length=A.length/\b<=s/\s<F/\j+y<=U.length/\U.length=A.length/\I<A.length/\(γi .u32 ((x.snd.fst - d) % a % c)).same ac/\(o w (A.set I ((bj A I b+a6 % c) % c)) 172 false).same ad/\True)));let aH:=h L/\b<=L/\L<D/\L.toNat<v.length/\(af=true->(((C.same C/\(e w v).same (e w v)/\t.same t/\T.same T/\(γy .u64 0).same (γi .u64 0)/\(γy .u64 0).same (γi .u64 0)/\t.same t/\(p).same (f 0)/\True)/\J.same J/\True)/\(b<=b/\b<=s)/\(b<=G/\G<c)/\(E<(G+d)*bk v/\G*bk v<M)/\(b<=b/\b<c)/\(b<=b/\b<=d)/\(bA U/\U.length=U.length)/\(∀(m:Nat),m<j\/j+0<=m->bj U m b=bj U m b)/\S=S - G*bk []+b)/\aj)/\(af=false->((C.same C/\(e w v).same (e w v)/\t.same t/\T.same T/\ag.same ag/\True)/\J.same J/\True)/\((b<=G/\G<=l)/\(b<=N/\N<c)/\G*a3+N=a4/\E<(G+d)*bk v)/\G.toNat<x.fst.toNat);let aI:=λ(u:Bool) ↦decide (gX.nW .u64 (x.snd*c % a) (bj U (j+H.toNat) 0 % a)<x.fst*(bj v H.toNat b % a) % a)=u;(b<=x.fst/\x.fst<=l)/\(b<=x.snd/\x.snd<c)/\x.fst*a3+x.snd=a4/\E<(x.fst+d)*bk v->(ah=true->aH)/\(ah=false->h H/\b<=H/\H<D/\H.toNat<v.length/\b<=g/\g<=n/\h H/\U.length=U.length/\b<=H/\H<F/\j+y<=U.length/\U.length=U.length/\j+H.toNat<U.length/\(aI true->aH)/\(aI false->(((C.same C/\(e w v).same (e w v)/\t.same t/\ai.same ai/\(γy .u64 0).same (γi .u64 0)/\(γy .u64 0).same (γi .u64 0)/\t.same t/\(p).same (f 0)/\True)/\J.same J/\True)/\(b<=b/\b<=s)/\(b<=x.fst/\x.fst<c)/\(E<(x.fst+d)*bk v/\x.fst*bk v<M)/\(b<=b/\b<c)/\(b<=b/\b<=d)/\(bA U/\U.length=U.length)/\(∀(m:Nat),m<j\/j+0<=m->bj U m b=bj U m b)/\S=S - x.fst*bk []+b)/\aj))) (by kernel_rfl) ?_;simp only[vcs];have t1:((v.length:Int) - 1).toNat=v.length - 1:=by omega
 have t2:((v.length:Int) - 2).toNat=v.length - 2:=by omega
 have t3:((v.length:Int)).toNat=v.length:=by omega
 have ya:=aa6 hn rfl;have yb:=@aa7 U j v.length hn;have dv1:=ei hv (v.length - 1);have vX:=ei hv (v.length - 2);have QX:=ei hU (j+v.length);have IL:=ei hU (j+(v.length - 1));have DO:=ei hU (j+(v.length - 2));have m1:bj v (v.length - 1) 0 % 18446744073709551616=bj v (v.length - 1) 0:=by omega
 have m2:bj v (v.length - 2) 0 % 18446744073709551616=bj v (v.length - 2) 0:=by omega
 have m3:bj U (j+v.length) 0 % 18446744073709551616=bj U (j+v.length) 0:=by omega
 have m4:bj U (j+(v.length - 1)) 0 % 18446744073709551616=bj U (j+(v.length - 1)) 0:=by omega
 have m5:bj U (j+(v.length - 2)) 0 % 18446744073709551616=bj U (j+(v.length - 2)) 0:=by omega
 have m6:bj U (j+v.length) 0*4294967296 % 18446744073709551616=bj U (j+v.length) 0*4294967296:=by omega
 have hor:=Iw QX.1 QX.2 IL.1 IL.2;have htop:0<=bj U (j+v.length) 0*4294967296+bj U (j+(v.length - 1)) 0:=by omega
 have hx':bk (prt U j (v.length+1))<4294967296*bk v:=hx;have hP:=pow_pos (v.length - 2);have Ao:=fp (nz hv (v.length - 2));have Ap:=ot (nz hv (v.length - 2));rw[γq,εh (by omega)] at Ap;have oW:=fp (uv hU (j:=j) (k:=v.length - 2));have IP:=vV hU (j:=j) (k:=v.length - 2);have hV0:=fp hv;have hX0:=fp (uv hU (j:=j) (k:=v.length+1));have htp:=aa5 hP ya yb Ap oW DO.1 IL.1 vX.2 hx';have hax:(nC.mk U j (v.length+1) U.length v).x=bk (prt U j (v.length+1)):=rfl;simp only[hax,t1,t2,t3,m1,m2,m3,m4,m5,m6,hor,Int.tdiv_eq_ediv_of_nonneg htop,Int.tmod_eq_emod_of_nonneg htop];generalize abd:bj v (v.length - 1) 0=v1 at*;generalize abe:bj v (v.length - 2) 0=v2 at*;generalize ah5:bj U (j+v.length) 0=u0 at*;generalize abf:bj U (j+(v.length - 1)) 0=u1 at*;generalize abg:bj U (j+(v.length - 2)) 0=u2 at*;have hqr:=εg (u0*4294967296+u1) v1;have hr0:=δx (u0*4294967296+u1) (show v1≠0 by omega);have hr1:=δh (u0*4294967296+u1) (show 0<v1 by omega);have hg0:0<=(u0*4294967296+u1) / v1:=δZ htop (by omega);generalize hge:(u0*4294967296+u1) / v1=g0 at*;generalize hre:(u0*4294967296+u1) % v1=r0 at*;have hg1:g0<=4294967297:=by
  by_cases h:g0<=4294967297;·exact h
  ·exfalso;have:=Ξ (show(4294967298:Int)<=g0 by omega) (show 0<=v1 by omega);omega
 have QY:g0*v1+r0=u1+4294967296*u0:=by rw[δ3 g0];omega
 have hst:=aa4 hP ya yb Ao IP vX.1 DO.2 hg0 QY hr1;have hin:cu .u64 g0:=u64_in hg0 (by omega);repeat refine γh (by omega) ?_
 clear t1 t2 t3 m1 m2 m3 m4 m5 m6 hor htop hge hre hqr hr0 hr1 hg0 hg1 QY hst hin abd abe abf abg hx;rintro⟨g,r⟩ ⟨⟨g0',g1'⟩,⟨r0',r1'⟩,hgr,hgx⟩;simp only at g0' g1' r0' r1' hgr hgx ⊢;have DR:0<g+1:=by omega
 have e1:(r+v1) % 18446744073709551616=r+v1:=by omega
 have e2:r*4294967296 % 18446744073709551616=r*4294967296:=by omega
 have gv0:0<=g*v2:=γu g0' vX.1;have gv1:g*v2<=4294967297*4294967295:=δF (by omega) (by omega) vX.1 (by omega);have e3:g*v2 % 18446744073709551616=g*v2:=by omega
 have hor2:=Iw r0' r1' DO.1 DO.2;have IQ:g*v1+r=u1+4294967296*u0:=hgr;have QZ:4294967296<=r+v1->g<=4294967296:=λh=>by
  by_cases hg:g<=4294967296;·exact hg
  ·have:g=4294967297:=by omega
   subst this;omega
 have dec:(4294967296<=g\/r*4294967296+u2<g*v2)->(bk (prt U j (v.length+1))<g*bk v/\(g - 1) % 18446744073709551616=g - 1/\0<=g - 1/\(g - 1)*v1+(r+v1)=u1+4294967296*u0):=λh=>by
  have h1:=aa3 hP ya yb Ao IP hx' hV0 g0' IQ h;have h2:g≠0:=by
   rintro rfl;omega
  refine⟨h1,by omega,by omega,?_⟩;rw[ζR,εy];omega
 simp only[e1,e2,e3,hor2];have brk:(4294967296<=g\/r*4294967296+u2<g*v2)->4294967296<=r+v1->∃gg,gg=(g - 1) % 18446744073709551616/\(0<=gg/\gg<4294967296)/\bk (prt U j (v.length+1))<(gg+1)*bk v/\gg*bk v<bk (prt U j (v.length+1))+bk v:=λh hb=>by
  obtain⟨k1,k2,k3,k4⟩:=dec h;have k5:=QZ hb;rw[k2];refine⟨_,rfl,by omega,by rw[show g - 1+1=g by omega];exact k1,QW hP ya yb Ao Ap oW hv1 vX.1 k3 (by omega) k4 ?_⟩;have:=δF (show g - 1<=4294967295 by omega) (show v2<=4294967295 by omega) vX.1 (by omega);omega
 have Aq:(4294967296<=g\/r*4294967296+u2<g*v2)->¬4294967296<=r+v1->(0<=(g - 1) % 18446744073709551616/\(g - 1) % 18446744073709551616<=4294967297)/\(g - 1) % 18446744073709551616*v1+(r+v1)=u1+4294967296*u0/\bk (prt U j (v.length+1))<((g - 1) % 18446744073709551616+1)*bk v/\((g - 1) % 18446744073709551616).toNat<g.toNat:=λh hb=>by
  obtain⟨k1,k2,k3,k4⟩:=dec h;rw[k2];exact⟨by omega,k4,by rw[show g - 1+1=g by omega];exact k1,by omega⟩
 have ext:¬4294967296<=g->¬r*4294967296+u2<g*v2->∃gg,gg=g/\(0<=gg/\gg<4294967296)/\bk (prt U j (v.length+1))<(gg+1)*bk v/\gg*bk v<bk (prt U j (v.length+1))+bk v:=λh h2=>
  ⟨_,rfl,by omega,hgx,QW hP ya yb Ao Ap oW hv1 vX.1 g0' (by omega) IQ (by omega)⟩;clear IQ DR e1 e2 e3 gv0 gv1 hor2 ya yb Ao Ap oW IP QZ dec htp;refine⟨λhB=>?_,λhB=>?_⟩
 ·refine⟨by omega,by omega,by omega,by omega,?_⟩;refine⟨λhb=>?_,λhb=>?_⟩
  ·obtain⟨gg,hgg,f0,f2,f3⟩:=brk (.inl hB) hb;rw[<-hgg];clear hB hb;clear hgg brk Aq ext hgx hgr;refine⟨?_,?_⟩
   ·repeat' refine γh ?_ ?_
    all_goals first|omega|exact hU|exact f2|exact f3|exact λ_ _=>trivial|(simp only[bk];omega)
   clear f0 f2 f3;rintro⟨i,ga,c,b,R⟩ ⟨⟨i0,i1⟩,⟨ou,qE⟩,⟨f2,f3⟩,⟨c0,c1⟩,⟨b0,b1⟩,⟨hR,hRl⟩,ho,he⟩;simp only at i0 i1 ou qE f2 f3 c0 c1 b0 b1 hR hRl ho he ⊢;refine⟨λlW=>?_,λnA=>?_⟩
   ·have x:=ei hv i.toNat;have y:=ei hR (j+i.toNat);have Q0:0<=ga*bj v i.toNat 0:=γu ou x.1;have Q5:ga*bj v i.toNat 0<=4294967295*4294967295:=δF (by omega) (by omega) x.1 (by omega);have q1:bj v i.toNat 0 % 18446744073709551616=bj v i.toNat 0:=by omega
    have q2:bj R (j+i.toNat) 0 % 18446744073709551616=bj R (j+i.toNat) 0:=by omega
    have q3:(ga*bj v i.toNat 0 % 18446744073709551616+c) % 18446744073709551616=ga*bj v i.toNat 0+c:=by omega
    have hi1:(i+1).toNat=i.toNat+1:=by omega
    rw[q1,q2,q3,IE (by omega) (by omega),hi1];generalize hq:((bj R (j+i.toNat) 0 - (ga*bj v i.toNat 0+c) % 4294967296) % 18446744073709551616 - b) % 18446744073709551616=q;obtain⟨k1,k2,k3,k4,k5⟩:=IG (d:=q % 4294967296) (e:=q / 9223372036854775808) hR hRl hv ou qE c0 c1 b0 b1 (show j+i.toNat<U.length by omega) ho he (by omega) (by omega);repeat' refine γh ?_ ?_
    all_goals first|omega|exact k1|exact k2|exact k3|exact k4|exact k5|exact f2|exact f3
   ·have hi:i.toNat=v.length:=by omega
    rw[hi,ψ] at he;rw[hi] at ho;have hun:=ho (j+v.length) (.inr (ξ _));have du:=ei hU (j+v.length);have q2:bj R (j+v.length) 0 % 18446744073709551616=bj R (j+v.length) 0:=by rw[hun];omega
    have qF:=@lZ U j v.length;rw[q2];generalize hq:((bj R (j+v.length) 0 - c) % 18446744073709551616 - b) % 18446744073709551616=q;have kG:bA (R.set (j+v.length) (q % 4294967296)):=nB hR (by omega) (by omega);have hlen:(R.set (j+v.length) (q % 4294967296)).length=U.length:=by simp[hRl]
    have hout:∀m,(m<j\/j+(v.length+1)<=m)->bj (R.set (j+v.length) (q % 4294967296)) m 0=bj U m 0:=λm hm=>by rw[pQ (by omega)];exact ho m (by omega)
    have hval:bk (prt (R.set (j+v.length) (q % 4294967296)) j (v.length+1))=bk (prt U j (v.length+1)) - ga*bk v+4294967296^(v.length+1)*(q / 9223372036854775808):=by
     rw[lZ,uu (ξ _),sS (by omega),he,qF,γP];have hd:q % 4294967296 - 4294967296*(q / 9223372036854775808)=bj U (j+v.length) 0 - c - b:=by rw[hun] at hq;omega
     generalize (4294967296:Int)^v.length=B;have e:B*4294967296*(q / 9223372036854775808)=B*(q % 4294967296+c+b - bj U (j+v.length) 0):=by rw[δk];congr 1;omega
     rw[e];simp only[εx,εN];omega
    generalize hW:R.set (j+v.length) (q % 4294967296)=W at*;have hbd:=vV kG (j:=j) (k:=v.length+1);have hnn:=fp (uv kG (j:=j) (k:=v.length+1));have q3:0<=q/\q<18446744073709551616:=by omega
    clear hq hun du q2 he ho hR;repeat refine γh (by omega) ?_
    refine⟨λhz=>?_,λhz=>?_⟩
    ·rw[hz,δG,εi] at hval;obtain⟨w1,w2⟩:=vW (q:=ga) (show ga*bk v<=bk (prt U j (v.length+1)) by omega) f2;refine⟨by rw[w1];omega,?_⟩;have hfin:W=js U j (ix (v.length+1) (bk (prt U j (v.length+1)) % bk v)):=xZ kG hlen (by omega) hout (by rw[hval,w2]);rw[hfin];rfl
    ·have hq1:q / 9223372036854775808=1:=by omega
     rw[hq1,ε3] at hval;have f4:bk (prt U j (v.length+1))<ga*bk v:=by omega
     refine⟨?_,?_⟩
     ·repeat' refine γh ?_ ?_
      all_goals first|omega|exact kG|exact hlen|exact⟨W,⟨kG,hlen⟩,hout,hval,λ_ _=>rfl,by simp only[bk]⟩
     clear kG hlen hout hval hW hbd hnn q3 hz hq1 f4 f2 f3 c0 c1 b0 b1 i0 i1 ou qE;rintro⟨i2,gb,c2,R2⟩ ⟨⟨i0,i1⟩,⟨Ar,As⟩,⟨f5,f6⟩,⟨c0,c1⟩,⟨hR2,qG⟩,W2,⟨hW2,uw⟩,ho2,uy,ho3,qH⟩;simp only at i0 i1 Ar As f5 f6 c0 c1 hR2 qG ho3 qH ⊢;refine⟨λlW=>?_,λnA=>?_⟩
     ·have x:=ei hv i2.toNat;have y:=ei hR2 (j+i2.toNat);have hi1:(i2+1).toNat=i2.toNat+1:=by omega
      rw[hi1];have hs:((bj R2 (j+i2.toNat) 0 % 18446744073709551616+bj v i2.toNat 0 % 18446744073709551616) % 18446744073709551616+c2) % 18446744073709551616=bj R2 (j+i2.toNat) 0+bj v i2.toNat 0+c2:=by omega
      rw[hs];obtain⟨k1,k2,k3,k4,k5⟩:=II hR2 (qG.trans uw.symm) hv c0 c1 (show j+i2.toNat<W2.length by omega) hW2 ho3 qH rfl;repeat' refine γh ?_ ?_
      all_goals first|omega|exact k1|exact f5|exact f6|exact⟨W2,⟨hW2,uw⟩,ho2,uy,k4,k5⟩
     ·have hi2:i2.toNat=v.length:=by omega
      rw[hi2,ψ] at qH;rw[hi2] at ho3;have hun:=ho3 (j+v.length) (.inr (ξ _));have du:=ei hW2 (j+v.length);have qF:=@lZ W2 j v.length;have hc2:c2 % 4294967296=c2:=by omega
      rw[hc2,hun];have hF:bA (R2.set (j+v.length) ((bj W2 (j+v.length) 0+c2) % 4294967296)):=nB hR2 (by omega) (by omega);have Au:(R2.set (j+v.length) ((bj W2 (j+v.length) 0+c2) % 4294967296)).length=U.length:=by simp[qG]
      have Av:∀m,(m<j\/j+(v.length+1)<=m)->bj (R2.set (j+v.length) ((bj W2 (j+v.length) 0+c2) % 4294967296)) m 0=bj U m 0:=λm hm=>by rw[pQ (by omega),ho3 m (by omega)];exact ho2 m hm
      have qI:bk (prt (R2.set (j+v.length) ((bj W2 (j+v.length) 0+c2) % 4294967296)) j (v.length+1))=bk (prt U j (v.length+1)) - gb*bk v+4294967296^(v.length+1)+bk v - 4294967296^(v.length+1)*((bj W2 (j+v.length) 0+c2) / 4294967296):=by
       rw[lZ,uu (ξ _),sS (by omega),<-uy,qF,γP];generalize (4294967296:Int)^v.length=B at*;have e:B*4294967296*((bj W2 (j+v.length) 0+c2) / 4294967296)=B*(bj W2 (j+v.length) 0+c2 - (bj W2 (j+v.length) 0+c2) % 4294967296):=by rw[δk];congr 1;omega
       rw[e];simp only[εx,εN];omega
      have hbd:=vV hF (j:=j) (k:=v.length+1);have hk:(bj W2 (j+v.length) 0+c2) / 4294967296=1:=by
       by_cases h:(bj W2 (j+v.length) 0+c2) / 4294967296=1;·exact h
       ·have h0:(bj W2 (j+v.length) 0+c2) / 4294967296=0:=by omega
        rw[h0,δG] at qI;omega
      rw[hk,ε3] at qI;have e1:(gb - 1)*bk v=gb*bk v - bk v:=by rw[ζR,εy]
      obtain⟨w1,w2⟩:=vW (q:=gb - 1) (show(gb - 1)*bk v<=bk (prt U j (v.length+1)) by omega) (by rw[show gb - 1+1=gb by omega];exact f5);have DR:0<gb:=by
       by_cases h:0<gb;·exact h
       ·have:gb=0:=by omega
        subst this;omega
      have hfin:R2.set (j+v.length) ((bj W2 (j+v.length) 0+c2) % 4294967296)=js U j (ix (v.length+1) (bk (prt U j (v.length+1)) % bk v)):=xZ hF Au (by omega) Av (by rw[qI,w2,e1];omega);repeat refine γh (by omega) ?_
      rw[hfin];rfl
  ·obtain⟨k1,k2,k3,k4⟩:=Aq (.inl hB) hb;repeat' refine γh ?_ ?_
   all_goals first|omega|exact k2|exact k3
 ·repeat refine γh (by omega) ?_
  refine⟨λhc=>?_,λhc=>?_⟩
  ·repeat refine γh (by omega) ?_
   refine⟨λhb=>?_,λhb=>?_⟩
   ·obtain⟨gg,hgg,f0,f2,f3⟩:=brk (.inr hc) hb;rw[<-hgg];clear hB hb hc;clear hgg brk Aq ext hgx hgr;refine⟨?_,?_⟩
    ·repeat' refine γh ?_ ?_
     all_goals first|omega|exact hU|exact f2|exact f3|exact λ_ _=>trivial|(simp only[bk];omega)
    clear f0 f2 f3;rintro⟨i,ga,c,b,R⟩ ⟨⟨i0,i1⟩,⟨ou,qE⟩,⟨f2,f3⟩,⟨c0,c1⟩,⟨b0,b1⟩,⟨hR,hRl⟩,ho,he⟩;simp only at i0 i1 ou qE f2 f3 c0 c1 b0 b1 hR hRl ho he ⊢;refine⟨λlW=>?_,λnA=>?_⟩
    ·have x:=ei hv i.toNat;have y:=ei hR (j+i.toNat);have Q0:0<=ga*bj v i.toNat 0:=γu ou x.1;have Q5:ga*bj v i.toNat 0<=4294967295*4294967295:=δF (by omega) (by omega) x.1 (by omega);have q1:bj v i.toNat 0 % 18446744073709551616=bj v i.toNat 0:=by omega
     have q2:bj R (j+i.toNat) 0 % 18446744073709551616=bj R (j+i.toNat) 0:=by omega
     have q3:(ga*bj v i.toNat 0 % 18446744073709551616+c) % 18446744073709551616=ga*bj v i.toNat 0+c:=by omega
     have hi1:(i+1).toNat=i.toNat+1:=by omega
     rw[q1,q2,q3,IE (by omega) (by omega),hi1];generalize hq:((bj R (j+i.toNat) 0 - (ga*bj v i.toNat 0+c) % 4294967296) % 18446744073709551616 - b) % 18446744073709551616=q;obtain⟨k1,k2,k3,k4,k5⟩:=IG (d:=q % 4294967296) (e:=q / 9223372036854775808) hR hRl hv ou qE c0 c1 b0 b1 (show j+i.toNat<U.length by omega) ho he (by omega) (by omega);repeat' refine γh ?_ ?_
     all_goals first|omega|exact k1|exact k2|exact k3|exact k4|exact k5|exact f2|exact f3
    ·have hi:i.toNat=v.length:=by omega
     rw[hi,ψ] at he;rw[hi] at ho;have hun:=ho (j+v.length) (.inr (ξ _));have du:=ei hU (j+v.length);have q2:bj R (j+v.length) 0 % 18446744073709551616=bj R (j+v.length) 0:=by rw[hun];omega
     have qF:=@lZ U j v.length;rw[q2];generalize hq:((bj R (j+v.length) 0 - c) % 18446744073709551616 - b) % 18446744073709551616=q;have kG:bA (R.set (j+v.length) (q % 4294967296)):=nB hR (by omega) (by omega);have hlen:(R.set (j+v.length) (q % 4294967296)).length=U.length:=by simp[hRl]
     have hout:∀m,(m<j\/j+(v.length+1)<=m)->bj (R.set (j+v.length) (q % 4294967296)) m 0=bj U m 0:=λm hm=>by rw[pQ (by omega)];exact ho m (by omega)
     have hval:bk (prt (R.set (j+v.length) (q % 4294967296)) j (v.length+1))=bk (prt U j (v.length+1)) - ga*bk v+4294967296^(v.length+1)*(q / 9223372036854775808):=by
      rw[lZ,uu (ξ _),sS (by omega),he,qF,γP];have hd:q % 4294967296 - 4294967296*(q / 9223372036854775808)=bj U (j+v.length) 0 - c - b:=by rw[hun] at hq;omega
      generalize (4294967296:Int)^v.length=B;have e:B*4294967296*(q / 9223372036854775808)=B*(q % 4294967296+c+b - bj U (j+v.length) 0):=by rw[δk];congr 1;omega
      rw[e];simp only[εx,εN];omega
     generalize hW:R.set (j+v.length) (q % 4294967296)=W at*;have hbd:=vV kG (j:=j) (k:=v.length+1);have hnn:=fp (uv kG (j:=j) (k:=v.length+1));have q3:0<=q/\q<18446744073709551616:=by omega
     clear hq hun du q2 he ho hR;repeat refine γh (by omega) ?_
     refine⟨λhz=>?_,λhz=>?_⟩
     ·rw[hz,δG,εi] at hval;obtain⟨w1,w2⟩:=vW (q:=ga) (show ga*bk v<=bk (prt U j (v.length+1)) by omega) f2;refine⟨by rw[w1];omega,?_⟩;have hfin:W=js U j (ix (v.length+1) (bk (prt U j (v.length+1)) % bk v)):=xZ kG hlen (by omega) hout (by rw[hval,w2]);rw[hfin];rfl
     ·have hq1:q / 9223372036854775808=1:=by omega
      rw[hq1,ε3] at hval;have f4:bk (prt U j (v.length+1))<ga*bk v:=by omega
      refine⟨?_,?_⟩
      ·repeat' refine γh ?_ ?_
       all_goals first|omega|exact kG|exact hlen|exact⟨W,⟨kG,hlen⟩,hout,hval,λ_ _=>rfl,by simp only[bk]⟩
      clear kG hlen hout hval hW hbd hnn q3 hz hq1 f4 f2 f3 c0 c1 b0 b1 i0 i1 ou qE;rintro⟨i2,gb,c2,R2⟩ ⟨⟨i0,i1⟩,⟨Ar,As⟩,⟨f5,f6⟩,⟨c0,c1⟩,⟨hR2,qG⟩,W2,⟨hW2,uw⟩,ho2,uy,ho3,qH⟩;simp only at i0 i1 Ar As f5 f6 c0 c1 hR2 qG ho3 qH ⊢;refine⟨λlW=>?_,λnA=>?_⟩
      ·have x:=ei hv i2.toNat;have y:=ei hR2 (j+i2.toNat);have hi1:(i2+1).toNat=i2.toNat+1:=by omega
       rw[hi1];have hs:((bj R2 (j+i2.toNat) 0 % 18446744073709551616+bj v i2.toNat 0 % 18446744073709551616) % 18446744073709551616+c2) % 18446744073709551616=bj R2 (j+i2.toNat) 0+bj v i2.toNat 0+c2:=by omega
       rw[hs];obtain⟨k1,k2,k3,k4,k5⟩:=II hR2 (qG.trans uw.symm) hv c0 c1 (show j+i2.toNat<W2.length by omega) hW2 ho3 qH rfl;repeat' refine γh ?_ ?_
       all_goals first|omega|exact k1|exact f5|exact f6|exact⟨W2,⟨hW2,uw⟩,ho2,uy,k4,k5⟩
      ·have hi2:i2.toNat=v.length:=by omega
       rw[hi2,ψ] at qH;rw[hi2] at ho3;have hun:=ho3 (j+v.length) (.inr (ξ _));have du:=ei hW2 (j+v.length);have qF:=@lZ W2 j v.length;have hc2:c2 % 4294967296=c2:=by omega
       rw[hc2,hun];have hF:bA (R2.set (j+v.length) ((bj W2 (j+v.length) 0+c2) % 4294967296)):=nB hR2 (by omega) (by omega);have Au:(R2.set (j+v.length) ((bj W2 (j+v.length) 0+c2) % 4294967296)).length=U.length:=by simp[qG]
       have Av:∀m,(m<j\/j+(v.length+1)<=m)->bj (R2.set (j+v.length) ((bj W2 (j+v.length) 0+c2) % 4294967296)) m 0=bj U m 0:=λm hm=>by rw[pQ (by omega),ho3 m (by omega)];exact ho2 m hm
       have qI:bk (prt (R2.set (j+v.length) ((bj W2 (j+v.length) 0+c2) % 4294967296)) j (v.length+1))=bk (prt U j (v.length+1)) - gb*bk v+4294967296^(v.length+1)+bk v - 4294967296^(v.length+1)*((bj W2 (j+v.length) 0+c2) / 4294967296):=by
        rw[lZ,uu (ξ _),sS (by omega),<-uy,qF,γP];generalize (4294967296:Int)^v.length=B at*;have e:B*4294967296*((bj W2 (j+v.length) 0+c2) / 4294967296)=B*(bj W2 (j+v.length) 0+c2 - (bj W2 (j+v.length) 0+c2) % 4294967296):=by rw[δk];congr 1;omega
        rw[e];simp only[εx,εN];omega
       have hbd:=vV hF (j:=j) (k:=v.length+1);have hk:(bj W2 (j+v.length) 0+c2) / 4294967296=1:=by
        by_cases h:(bj W2 (j+v.length) 0+c2) / 4294967296=1;·exact h
        ·have h0:(bj W2 (j+v.length) 0+c2) / 4294967296=0:=by omega
         rw[h0,δG] at qI;omega
       rw[hk,ε3] at qI;have e1:(gb - 1)*bk v=gb*bk v - bk v:=by rw[ζR,εy]
       obtain⟨w1,w2⟩:=vW (q:=gb - 1) (show(gb - 1)*bk v<=bk (prt U j (v.length+1)) by omega) (by rw[show gb - 1+1=gb by omega];exact f5);have DR:0<gb:=by
        by_cases h:0<gb;·exact h
        ·have:gb=0:=by omega
         subst this;omega
       have hfin:R2.set (j+v.length) ((bj W2 (j+v.length) 0+c2) % 4294967296)=js U j (ix (v.length+1) (bk (prt U j (v.length+1)) % bk v)):=xZ hF Au (by omega) Av (by rw[qI,w2,e1];omega);repeat refine γh (by omega) ?_
       rw[hfin];rfl
   ·obtain⟨k1,k2,k3,k4⟩:=Aq (.inr hc) hb;repeat' refine γh ?_ ?_
    all_goals first|omega|exact k2|exact k3
  ·obtain⟨gg,hgg,f0,f2,f3⟩:=ext hB hc;rw[<-hgg];clear hB hc;clear hgg brk Aq ext hgx hgr;refine⟨?_,?_⟩
   ·repeat' refine γh ?_ ?_
    all_goals first|omega|exact hU|exact f2|exact f3|exact λ_ _=>trivial|(simp only[bk];omega)
   clear f0 f2 f3;rintro⟨i,ga,c,b,R⟩ ⟨⟨i0,i1⟩,⟨ou,qE⟩,⟨f2,f3⟩,⟨c0,c1⟩,⟨b0,b1⟩,⟨hR,hRl⟩,ho,he⟩;simp only at i0 i1 ou qE f2 f3 c0 c1 b0 b1 hR hRl ho he ⊢;refine⟨λlW=>?_,λnA=>?_⟩
   ·have x:=ei hv i.toNat;have y:=ei hR (j+i.toNat);have Q0:0<=ga*bj v i.toNat 0:=γu ou x.1;have Q5:ga*bj v i.toNat 0<=4294967295*4294967295:=δF (by omega) (by omega) x.1 (by omega);have q1:bj v i.toNat 0 % 18446744073709551616=bj v i.toNat 0:=by omega
    have q2:bj R (j+i.toNat) 0 % 18446744073709551616=bj R (j+i.toNat) 0:=by omega
    have q3:(ga*bj v i.toNat 0 % 18446744073709551616+c) % 18446744073709551616=ga*bj v i.toNat 0+c:=by omega
    have hi1:(i+1).toNat=i.toNat+1:=by omega
    rw[q1,q2,q3,IE (by omega) (by omega),hi1];generalize hq:((bj R (j+i.toNat) 0 - (ga*bj v i.toNat 0+c) % 4294967296) % 18446744073709551616 - b) % 18446744073709551616=q;obtain⟨k1,k2,k3,k4,k5⟩:=IG (d:=q % 4294967296) (e:=q / 9223372036854775808) hR hRl hv ou qE c0 c1 b0 b1 (show j+i.toNat<U.length by omega) ho he (by omega) (by omega);repeat' refine γh ?_ ?_
    all_goals first|omega|exact k1|exact k2|exact k3|exact k4|exact k5|exact f2|exact f3
   ·have hi:i.toNat=v.length:=by omega
    rw[hi,ψ] at he;rw[hi] at ho;have hun:=ho (j+v.length) (.inr (ξ _));have du:=ei hU (j+v.length);have q2:bj R (j+v.length) 0 % 18446744073709551616=bj R (j+v.length) 0:=by rw[hun];omega
    have qF:=@lZ U j v.length;rw[q2];generalize hq:((bj R (j+v.length) 0 - c) % 18446744073709551616 - b) % 18446744073709551616=q;have kG:bA (R.set (j+v.length) (q % 4294967296)):=nB hR (by omega) (by omega);have hlen:(R.set (j+v.length) (q % 4294967296)).length=U.length:=by simp[hRl]
    have hout:∀m,(m<j\/j+(v.length+1)<=m)->bj (R.set (j+v.length) (q % 4294967296)) m 0=bj U m 0:=λm hm=>by rw[pQ (by omega)];exact ho m (by omega)
    have hval:bk (prt (R.set (j+v.length) (q % 4294967296)) j (v.length+1))=bk (prt U j (v.length+1)) - ga*bk v+4294967296^(v.length+1)*(q / 9223372036854775808):=by
     rw[lZ,uu (ξ _),sS (by omega),he,qF,γP];have hd:q % 4294967296 - 4294967296*(q / 9223372036854775808)=bj U (j+v.length) 0 - c - b:=by rw[hun] at hq;omega
     generalize (4294967296:Int)^v.length=B;have e:B*4294967296*(q / 9223372036854775808)=B*(q % 4294967296+c+b - bj U (j+v.length) 0):=by rw[δk];congr 1;omega
     rw[e];simp only[εx,εN];omega
    generalize hW:R.set (j+v.length) (q % 4294967296)=W at*;have hbd:=vV kG (j:=j) (k:=v.length+1);have hnn:=fp (uv kG (j:=j) (k:=v.length+1));have q3:0<=q/\q<18446744073709551616:=by omega
    clear hq hun du q2 he ho hR;repeat refine γh (by omega) ?_
    refine⟨λhz=>?_,λhz=>?_⟩
    ·rw[hz,δG,εi] at hval;obtain⟨w1,w2⟩:=vW (q:=ga) (show ga*bk v<=bk (prt U j (v.length+1)) by omega) f2;refine⟨by rw[w1];omega,?_⟩;have hfin:W=js U j (ix (v.length+1) (bk (prt U j (v.length+1)) % bk v)):=xZ kG hlen (by omega) hout (by rw[hval,w2]);rw[hfin];rfl
    ·have hq1:q / 9223372036854775808=1:=by omega
     rw[hq1,ε3] at hval;have f4:bk (prt U j (v.length+1))<ga*bk v:=by omega
     refine⟨?_,?_⟩
     ·repeat' refine γh ?_ ?_
      all_goals first|omega|exact kG|exact hlen|exact⟨W,⟨kG,hlen⟩,hout,hval,λ_ _=>rfl,by simp only[bk]⟩
     clear kG hlen hout hval hW hbd hnn q3 hz hq1 f4 f2 f3 c0 c1 b0 b1 i0 i1 ou qE;rintro⟨i2,gb,c2,R2⟩ ⟨⟨i0,i1⟩,⟨Ar,As⟩,⟨f5,f6⟩,⟨c0,c1⟩,⟨hR2,qG⟩,W2,⟨hW2,uw⟩,ho2,uy,ho3,qH⟩;simp only at i0 i1 Ar As f5 f6 c0 c1 hR2 qG ho3 qH ⊢;refine⟨λlW=>?_,λnA=>?_⟩
     ·have x:=ei hv i2.toNat;have y:=ei hR2 (j+i2.toNat);have hi1:(i2+1).toNat=i2.toNat+1:=by omega
      rw[hi1];have hs:((bj R2 (j+i2.toNat) 0 % 18446744073709551616+bj v i2.toNat 0 % 18446744073709551616) % 18446744073709551616+c2) % 18446744073709551616=bj R2 (j+i2.toNat) 0+bj v i2.toNat 0+c2:=by omega
      rw[hs];obtain⟨k1,k2,k3,k4,k5⟩:=II hR2 (qG.trans uw.symm) hv c0 c1 (show j+i2.toNat<W2.length by omega) hW2 ho3 qH rfl;repeat' refine γh ?_ ?_
      all_goals first|omega|exact k1|exact f5|exact f6|exact⟨W2,⟨hW2,uw⟩,ho2,uy,k4,k5⟩
     ·have hi2:i2.toNat=v.length:=by omega
      rw[hi2,ψ] at qH;rw[hi2] at ho3;have hun:=ho3 (j+v.length) (.inr (ξ _));have du:=ei hW2 (j+v.length);have qF:=@lZ W2 j v.length;have hc2:c2 % 4294967296=c2:=by omega
      rw[hc2,hun];have hF:bA (R2.set (j+v.length) ((bj W2 (j+v.length) 0+c2) % 4294967296)):=nB hR2 (by omega) (by omega);have Au:(R2.set (j+v.length) ((bj W2 (j+v.length) 0+c2) % 4294967296)).length=U.length:=by simp[qG]
      have Av:∀m,(m<j\/j+(v.length+1)<=m)->bj (R2.set (j+v.length) ((bj W2 (j+v.length) 0+c2) % 4294967296)) m 0=bj U m 0:=λm hm=>by rw[pQ (by omega),ho3 m (by omega)];exact ho2 m hm
      have qI:bk (prt (R2.set (j+v.length) ((bj W2 (j+v.length) 0+c2) % 4294967296)) j (v.length+1))=bk (prt U j (v.length+1)) - gb*bk v+4294967296^(v.length+1)+bk v - 4294967296^(v.length+1)*((bj W2 (j+v.length) 0+c2) / 4294967296):=by
       rw[lZ,uu (ξ _),sS (by omega),<-uy,qF,γP];generalize (4294967296:Int)^v.length=B at*;have e:B*4294967296*((bj W2 (j+v.length) 0+c2) / 4294967296)=B*(bj W2 (j+v.length) 0+c2 - (bj W2 (j+v.length) 0+c2) % 4294967296):=by rw[δk];congr 1;omega
       rw[e];simp only[εx,εN];omega
      have hbd:=vV hF (j:=j) (k:=v.length+1);have hk:(bj W2 (j+v.length) 0+c2) / 4294967296=1:=by
       by_cases h:(bj W2 (j+v.length) 0+c2) / 4294967296=1;·exact h
       ·have h0:(bj W2 (j+v.length) 0+c2) / 4294967296=0:=by omega
        rw[h0,δG] at qI;omega
      rw[hk,ε3] at qI;have e1:(gb - 1)*bk v=gb*bk v - bk v:=by rw[ζR,εy]
      obtain⟨w1,w2⟩:=vW (q:=gb - 1) (show(gb - 1)*bk v<=bk (prt U j (v.length+1)) by omega) (by rw[show gb - 1+1=gb by omega];exact f5);have DR:0<gb:=by
       by_cases h:0<gb;·exact h
       ·have:gb=0:=by omega
        subst this;omega
      have hfin:R2.set (j+v.length) ((bj W2 (j+v.length) 0+c2) % 4294967296)=js U j (ix (v.length+1) (bk (prt U j (v.length+1)) % bk v)):=xZ hF Au (by omega) Av (by rw[qI,w2,e1];omega);repeat refine γh (by omega) ?_
      rw[hfin];rfl
def eC (x y:Int):Int:=(Nat.gcd x.toNat y.toNat:Nat)
theorem abk {x y:Int} (h0:0<=x) (h1:0<y):eC y (x % y)=eC x y:=by
 unfold eC;congr 1;rw[Nat.gcd_comm x.toNat,Nat.gcd_rec y.toNat x.toNat,Nat.gcd_comm,Int.toNat_emod h0 (by omega)]
theorem abl {x:Int} (h0:0<=x):eC x 0=x:=by unfold eC;simp;omega
theorem l8 {i u v:Nat} (h:u=v):(γ1 i u 1).same (γ1 i v 1):=by subst h;rfl
theorem Q6 {l:List Int} (h:l=[]):(Ω (.i .i64) []).same (Ω (.i .u32) l):=by subst h;rfl
def sbO (x y:Int):SV:=.bI [.row (.i .u32) (cM (x - y)),.sb (decide (y<=x))]
theorem IU {n:Int} (h:n<=0):cM n=[]:=by
 unfold cM;rw[show n.toNat=0 by omega];rfl
def IV:bM:=⟨166,List Int×List Int,.cons (dM (.i .u32)) (.one (dM (.i .u32))),λa=>(bA a.1/\bA a.2)/\a.1.length<=100000000000/\a.2.length<=100000000000,
 λa=>sbO (bk a.1) (bk a.2)⟩
def abn (a:List Int×List Int):Nat->cF
 |7=> .inv (Int×Int×List Int) (λx=>⟨[(0,.row (.i .u32) (bJ a.1)),(1,.row (.i .u32) (bJ a.2)),(6,.ow 0 x.2.2.length 1),(7,.si .u64 x.2.1),(22,.si .i64 (bJ a.1).length),(23,.si .i64 x.1)],[.row (.i .u32) x.2.2 172 true]⟩)
  (λs=>(iS s 23,iS s 7,oS (.i .u32) s 0))
  (λx=>(0<=x.1/\x.1<=(bJ a.1).length)/\(0<=x.2.1/\x.2.1<=1)/\bA x.2.2/\x.2.2.length=(bJ a.1).length/\(∀j,x.1.toNat<=j->bj x.2.2 j 0=0)/\
   bk x.2.2 - 4294967296^x.1.toNat*x.2.1=bk ((bJ a.1).take x.1.toNat) - bk ((bJ a.2).take x.1.toNat)) (λx=>((bJ a.1).length - x.1).toNat) λ_ _=> .look
 |_=> .look
theorem Q7 {s t row:List Int} {i:Nat} {br d v c:Int} (hs:bA s) (ht:bA t) (hr:bA row) (hl:row.length=s.length) (hz:∀j,i<=j->bj row j 0=0)
  (hv:bk row - 4294967296^i*br=bk (s.take i) - bk (t.take i)) (hi:i<s.length) (hd:d=bj s i 0 - br - bj t i 0) (h0:0<=v/\v<4294967296) (hc:v - 4294967296*c=d):
  bA (row.set i v)/\(row.set i v).length=s.length/\(∀j,i+1<=j->bj (row.set i v) j 0=0)/\bk (row.set i v) - 4294967296^(i+1)*c=bk (s.take (i+1)) - bk (t.take (i+1)):=by
 refine⟨nB hr h0.1 h0.2,by simp[hl],λj hj=>by rw[pQ (by omega)];exact hz j (by omega),?_⟩;rw[uq (by omega),lV,lV,hz i (ξ _),γP,ζf];have h1:(4294967296:Int)^i*(v - 4294967296*c)=4294967296^i*(bj s i 0 - br - bj t i 0):=by rw[hc,hd]
 simp only[εN] at h1;rw[<-δk] at h1;omega
theorem h155:Holds Tryz.prog IV:=by
 refine cH (L:=[rF,xY]) IV abn (by simpa using⟨h152,h132⟩) ?_;rintro⟨a,b⟩ ⟨⟨ha,hb⟩,hla,hlb⟩;simp only at ha hb hla hlb;refine bR (let c:=(0:Int);let d:=(18446744073709551616:Int);let e:=Ω;let f:=(4294967296:Int);let g:=γi .i64;let h:=(1:Int);let k:=γ1;let l:=SV.bI;let z0:Nat:=(bJ a).length;let B:=decide (lX (bk (bJ a)) (bk (bJ b))<c);let m:=bp.i .u32;let C:=l [e m (cM (bk a - bk b)),γw (decide (bk b<=bk a))];let o:=(↑(bJ a).length:Int);let q:=δ o.toNat c;let p:=(↑z0:Int);let z:=g p;let D:=bq.row m q 172 true;let A:=(↑(bJ b).length:Int);a.length<=1000000000000/\b.length<=1000000000000/\((bA (bJ a)/\bA (bJ b))/\z0<=1000000000000/\(bJ b).length<=1000000000000)/\(B=true->(l [e (bp.i .i64) [],SV.bl false]).same C)/\(B=false->c<=o/\o<=o/\o*(4:Int)<=(140737488355328:Int)/\o<=(1000000000000:Int)/\((((e m (bJ a)).same (e m (bJ a))/\(e m (bJ b)).same (e m (bJ b))/\(k 0 o.toNat 1).same (k 0 q.length 1)/\(γy .u64 0).same (γi .u64 0)/\(g o).same z/\(γy .i64 0).same (g 0)/\True)/\D.same D/\True)/\(c<=c/\c<=p)/\(c<=c/\c<=h)/\bA q/\q.length=z0/\(∀(j:Nat),0<=j->bj q j c=c)/\bk q - c=c)/\∀(x:Int×Int×List Int),let r:=x.snd.snd.length;let v:=x.snd.snd.length;let n:=x.fst.toNat;let s:=x.fst+h;let E:=g s;let w:=s.toNat;let F:=bj (bJ a) n c;let G:=λ(u u_1:Int) ↦let H:=(u % d - u_1) % d;let t:=x.snd.snd.set n (H % f);let y:=H / (9223372036854775808:Int);let I:=γi .u64 y;let J:=bq.row m t 172 true;c<=(63:Int)/\(63:Int)<=(64:Int)/\r=v/\c<=x.fst/\x.fst<(↑v:Int)/\r=v/\n<v/\cu .i64 s/\(((e m (bJ a)).same (e m (bJ a))/\(e m (bJ b)).same (e m (bJ b))/\(k 0 r 1).same (k 0 t.length 1)/\I.same I/\z.same z/\E.same E/\True)/\J.same J/\True)/\((c<=s/\s<=p)/\(c<=y/\y<=h)/\bA t/\t.length=z0/\(∀(j:Nat),w<=j->bj t j c=c)/\bk t - f^w*y=bk (ω w (bJ a)) - bk (ω w (bJ b)))/\(p - s).toNat<(p - x.fst).toNat;(c<=x.fst/\x.fst<=p)/\(c<=x.snd.fst/\x.snd.fst<=h)/\bA x.snd.snd/\r=z0/\(∀(j:Nat),n<=j->bj x.snd.snd j c=c)/\bk x.snd.snd - f^n*x.snd.fst=bk (ω n (bJ a)) - bk (ω n (bJ b))->(decide (x.fst<p)=true->c<=x.fst/\x.fst<o/\n<(bJ a).length/\(decide (x.fst<A)=true->c<=x.fst/\x.fst<A/\n<(bJ b).length/\G (F % d - x.snd.fst) (bj (bJ b) n c % d))/\(decide (x.fst<A)=false->G F x.snd.fst))/\(decide (x.fst<p)=false->r=v/\r<=1000000000000/\(l [e m (bJ x.snd.snd),SV.bl true]).same C))) (by kernel_rfl) ?_;simp only[vcs];obtain⟨va,na⟩:=@rG a;obtain⟨vb,nb⟩:=@rG b;have da:=sP ha;have db:=sP hb;have la:=@uo a;have lb:=@uo b;have pa:=fp da;have pb:=fp db;rw[<-va,<-vb];generalize bJ a=s at*;generalize bJ b=t at*;have hr0:∀n j,bj (δ n (0:Int)) j 0=0:=λn j=>by
  unfold bj;rw[εD];split<;>rfl
 have hd0:∀n,bA (δ n 0):=λn d hd=>by
  have:=δ0 hd;omega
 have hv0:∀n,bk (δ n 0)=0:=λn=>by
  induction n with
  |zero=>rfl;|succ n ih=>simp only[δl,bk,ih];omega
 refine⟨by omega,by omega,⟨⟨da,db⟩,by omega,by omega⟩,λhlt=>?_,λhge=>⟨by omega,by omega,by omega,by omega,?_,?_⟩⟩
 ·have hlt2:bk s<bk t:=by unfold lX at hlt;split at hlt<;>(try split at hlt)<;>omega
  refine⟨Q6 (IU (by omega)),?_⟩;rw[eq_comm,decide_eq_false_iff_not];omega
 ·repeat' refine γh ?_ ?_
  all_goals first|omega|exact l8 (by simp)|exact hd0 _|exact λj _=>hr0 _ j|(simp;done)|(rw[hv0];rfl)
 have Dv:bk t<=bk s:=by unfold lX at hge;split at hge<;>(try split at hge)<;>omega
 rintro⟨i,br,row⟩ ⟨⟨i0,i1⟩,⟨b0,b1⟩,hr,hl,hz,hv⟩;simp only at i0 i1 b0 b1 hr hl hz hv ⊢;refine⟨λlW=>?_,λnA=>?_⟩
 ·have d1:=ei da i.toNat;have d2:=ei db i.toNat;have e:(i+1).toNat=i.toNat+1:=by omega
  refine⟨i0,lW,by omega,λht=>?_,λht=>?_⟩
  ·generalize hq:((bj s i.toNat 0 % 18446744073709551616 - br) % 18446744073709551616 - bj t i.toNat 0 % 18446744073709551616) % 18446744073709551616=q;obtain⟨k1,k2,k3,k4⟩:=Q7 (v:=q % 4294967296) (c:=q / 9223372036854775808) da db hr hl hz hv (by omega) rfl (by omega) (by omega);rw[e];repeat' refine γh ?_ ?_
   all_goals first|omega|exact l8 (by simp)|exact k1|exact k2|exact k3|exact k4
  ·have hz2:=DK (a:=t) (i:=i.toNat) (by omega);generalize hq:(bj s i.toNat 0 % 18446744073709551616 - br) % 18446744073709551616=q;obtain⟨k1,k2,k3,k4⟩:=Q7 (v:=q % 4294967296) (c:=q / 9223372036854775808) da db hr hl hz hv (by omega) rfl (by omega) (by omega);rw[e];repeat' refine γh ?_ ?_
   all_goals first|omega|exact l8 (by simp)|exact k1|exact k2|exact k3|exact k4
 ·have hi:i.toNat=s.length:=by omega
  have hlen:t.length<=s.length:=by
   by_cases h:s.length<t.length
   ·have:=xX da db nb h;omega
   ·omega
  rw[hi,ψ,List.take_of_length_le hlen] at hv;have hbd:=ot hr;have hp:=pow_pos s.length;rw[hl] at hbd;have hb0:br=0:=by
   by_cases h:br=0;·exact h
   ·have:br=1:=by omega
    subst this;omega
  rw[hb0,δG,ζf] at hv;refine⟨by omega,?_,?_⟩;·rw[qD hr,hv]
  ·rw[eq_comm,decide_eq_true_eq];exact Dv
theorem Q8 {n j:Nat}:bj (δ n (0:Int)) j 0=0:=by
 unfold bj;rw[εD];split<;>rfl
theorem Aw {n:Nat}:bA (δ n 0):=λd hd=>by
 have:=δ0 hd;omega
theorem yc:∀{n:Nat},bk (δ n 0)=0
 |0=>rfl
 |n+1=>by simp only[δl,bk,@yc n];omega
theorem abo {o b:List Int} {x:Int} {i k:Nat}:iy o b x i (k+1)=((iy o b x i k).1.set (i+k) ((x*bj b k 0+bj (iy o b x i k).1 (i+k) 0+(iy o b x i k).2) % 4294967296),(x*bj b k 0+bj (iy o b x i k).1 (i+k) 0+(iy o b x i k).2) / 4294967296):=rfl
def yd:bM:=⟨164,List Int×List Int,.cons (dM (.i .u32)) (.one (dM (.i .u32))),λa=>(bA a.1/\bA a.2)/\a.1.length<=100000000000/\a.2.length<=100000000000,
 λa=> .row (.i .u32) (cM (bk a.1*bk a.2))⟩
def stM (a:List Int×List Int) (row:List Int):bZ:=[.row (.i .u32) row 172 true]
def abp (a:List Int×List Int):Nat->cF
 |3=> .inv (Int×List Int) (λx=>⟨[(0,.row (.i .u32) a.1),(1,.row (.i .u32) a.2),(5,.ow 0 x.2.length 1),(17,.si .i64 a.1.length),(18,.si .i64 x.1)],stM a x.2⟩)
  (λs=>(iS s 18,oS (.i .u32) s 0))
  (λx=>(0<=x.1/\x.1<=a.1.length)/\bA x.2/\x.2.length=a.1.length+a.2.length/\bk x.2=bk (a.1.take x.1.toNat)*bk a.2) (λx=>(a.1.length - x.1).toNat)
  λx=>λ
   |7=> .inv (Int×Int×List Int) (λy=>⟨[(0,.row (.i .u32) a.1),(1,.row (.i .u32) a.2),(5,.ow 0 y.2.2.length 1),(6,.si .i64 x.1),(7,.si .u64 y.2.1),(17,.si .i64 a.1.length),(18,.si .i64 x.1),(22,.si .i64 a.2.length),(23,.si .i64 y.1)],stM a y.2.2⟩)
    (λs=>(iS s 23,iS s 7,oS (.i .u32) s 0))
    (λy=>(0<=y.1/\y.1<=a.2.length)/\y.2.2=(iy x.2 a.2 (bj a.1 x.1.toNat 0) x.1.toNat y.1.toNat).1/\y.2.1=(iy x.2 a.2 (bj a.1 x.1.toNat 0) x.1.toNat y.1.toNat).2) (λy=>(a.2.length - y.1).toNat) λ_ _=> .look
   |_=> .look
 |_=> .look
theorem h153:Holds Tryz.prog yd:=by
 refine cH (L:=[rF]) yd abp (by simpa using h152) ?_;rintro⟨a,b⟩ ⟨⟨ha,hb⟩,hla,hlb⟩;simp only at ha hb hla hlb;refine bR (let c:=(18446744073709551616:Int);let d:=(0:Int);let e:=Ω;let f:=γi .i64;let g:=(4294967296:Int);let h:=cu .i64;let j:=γ1;let k:=γy .i64 0;let l:=bq.row;let F:=(↑a.length:Int);let z:=(↑b.length:Int);let p:=F+z;let m:=bp.i .u32;let A:=δ p.toNat d;let q:=(↑a.length:Int);let t:=f q;let J:=l m A 172 true;let G:=a.length+b.length;let r:=(↑b.length:Int);let H:=f r;h p/\d<=p/\p<=p/\p*(4:Int)<=(140737488355328:Int)/\p<=(1000000000000:Int)/\((((e m a).same (e m a)/\(e m b).same (e m b)/\(j 0 p.toNat 1).same (j 0 A.length 1)/\(f F).same t/\(k).same (f 0)/\True)/\J.same J/\True)/\(d<=d/\d<=q)/\bA A/\A.length=G/\bk A=bk []*bk b)/\∀(x:Int×List Int),let C:=x.snd.length;let v:=x.fst.toNat;let K:=j 0 C 1;let s:=f x.fst;let L:=l m x.snd 172 true;let D:=bj a v d;let M:=iy x.snd b D v 0;let w:=x.fst+(1:Int);let N:=f w;(d<=x.fst/\x.fst<=q)/\bA x.snd/\C=G/\bk x.snd=bk (ω v a)*bk b->(decide (x.fst<q)=true->((((e m a).same (e m a)/\(e m b).same (e m b)/\K.same K/\s.same s/\(γy .u64 0).same (γi .u64 0)/\t.same t/\s.same s/\(f z).same H/\(k).same (f 0)/\True)/\L.same L/\True)/\(d<=d/\d<=r)/\x.snd=M.fst/\d=M.snd)/\∀(x_1:Int×Int×List Int),let O:=iy x.snd b D v x_1.fst.toNat;let o:=x.fst+x_1.fst;let n:=x_1.snd.snd.length;let y:=x_1.fst+(1:Int);let P:=j 0 x_1.snd.snd.length 1;let I:=((D % c*(bj b x_1.fst.toNat d % c) % c+bj x_1.snd.snd o.toNat d % c) % c+x_1.snd.fst) % c;let Q:=x_1.snd.snd.set o.toNat (I % g);let R:=I / g;let S:=γi .u64 R;let T:=f y;let U:=iy x.snd b D v y.toNat;let B:=x.fst+z;let E:=x_1.snd.snd.set B.toNat (x_1.snd.fst % g);let V:=λ(u u_1:Int) ↦let W:=l m (x_1.snd.snd.set (x.fst+u).toNat (u_1 % g)) 172 true;W.same W/\True;(d<=x_1.fst/\x_1.fst<=r)/\x_1.snd.snd=O.fst/\x_1.snd.fst=O.snd->(decide (x_1.fst<r)=true->d<=x.fst/\x.fst<F/\v<a.length/\d<=x_1.fst/\x_1.fst<z/\x_1.fst.toNat<b.length/\h o/\x_1.snd.snd.length=n/\d<=o/\o<(↑n:Int)/\x_1.snd.snd.length=n/\o.toNat<n/\h o/\d<=(32:Int)/\(32:Int)<=(64:Int)/\x_1.snd.snd.length=n/\d<=o/\o<(↑n:Int)/\x_1.snd.snd.length=n/\o.toNat<n/\h y/\(((e m a).same (e m a)/\(e m b).same (e m b)/\P.same (j 0 Q.length 1)/\s.same s/\S.same S/\t.same t/\s.same s/\H.same H/\T.same T/\True)/\V x_1.fst I)/\((d<=y/\y<=r)/\Q=U.fst/\R=U.snd)/\(r - y).toNat<(r - x_1.fst).toNat)/\(decide (x_1.fst<r)=false->h B/\x_1.snd.snd.length=n/\d<=B/\B<(↑n:Int)/\x_1.snd.snd.length=n/\B.toNat<n/\h w/\(((e m a).same (e m a)/\(e m b).same (e m b)/\P.same (j 0 E.length 1)/\t.same t/\N.same N/\True)/\V z x_1.snd.fst)/\((d<=w/\w<=q)/\bA E/\E.length=G/\bk E=bk (ω w.toNat a)*bk b)/\(q - w).toNat<(q - x.fst).toNat))/\(decide (x.fst<q)=false->C=x.snd.length/\C<=1000000000000/\(e m (bJ x.snd)).same (e m (cM (bk a*bk b))))) (by kernel_rfl) ?_;simp only[vcs];refine⟨by omega,by omega,by omega,by omega,by omega,?_,?_⟩
 ·repeat' refine γh ?_ ?_
  all_goals first|omega|exact l8 (by simp)|exact Aw|(simp;omega)|(rw[yc];simp[bk])
 rintro⟨i,row⟩ ⟨⟨i0,i1⟩,hr,hl,hv⟩;simp only at i0 i1 hr hl hv ⊢;refine⟨λlW=>⟨⟨⟨by omega,by omega⟩,rfl,rfl⟩,?_⟩,λnA=>?_⟩
 ·rintro⟨k,c,ro⟩ ⟨⟨k0,k1⟩,e1,e2⟩;simp only at k0 k1 e1 e2 ⊢;have x1:=ei ha i.toNat;obtain⟨m1,m2,⟨m3,m4⟩,m5,m6⟩:=@QT row b (bj a i.toNat 0) i.toNat hr hb x1.1 x1.2 k.toNat (by omega);have hp:=@abo row b (bj a i.toNat 0) i.toNat k.toNat;generalize iy row b (bj a i.toNat 0) i.toNat k.toNat=M at*;obtain⟨p,q⟩:=M;simp only at e1 e2 m1 m2 m3 m4 m5 m6 hp;subst e1 e2;have hik:(i+k).toNat=i.toNat+k.toNat:=by omega
  have hk1:(k+1).toNat=k.toNat+1:=by omega
  have hi1:(i+1).toNat=i.toNat+1:=by omega
  refine⟨λklt=>?_,λkge=>?_⟩
  ·have x2:=ei hb k.toNat;have x3:=ei m1 (i.toNat+k.toNat);have hxb:0<=bj a i.toNat 0*bj b k.toNat 0:=γu x1.1 x2.1;have ah8:bj a i.toNat 0*bj b k.toNat 0<=4294967295*4294967295:=δF (by omega) (by omega) x2.1 (by omega);rw[hik,hk1,hp];have hq:(((bj a i.toNat 0 % 18446744073709551616*(bj b k.toNat 0 % 18446744073709551616) % 18446744073709551616+bj ro (i.toNat+k.toNat) 0 % 18446744073709551616) % 18446744073709551616+c) % 18446744073709551616)=bj a i.toNat 0*bj b k.toNat 0+bj ro (i.toNat+k.toNat) 0+c:=by
    rw[δJ (a:=bj a i.toNat 0) (by omega) (by omega),δJ (a:=bj b k.toNat 0) (by omega) (by omega)];omega
   rw[hq];repeat' refine γh ?_ ?_
   all_goals first|omega|exact l8 (by simp)|rfl
  ·have hkl:k.toNat=b.length:=by omega
   rw[show(i+(b.length:Int)).toNat=i.toNat+b.length by omega];rw[hkl,ψ] at m6;rw[hkl] at m5;have hz:bj ro (i.toNat+b.length) 0=0:=by
    rw[m5 _ (ξ _)];refine An hr (i:=i.toNat+b.length) ?_ (ξ _);rw[hv,δ6];have t1:=ot (nz ha i.toNat);rw[γq,εh (by omega)] at t1;have t2:=ot hb;have t3:=fp (nz ha i.toNat);have t4:=fp hb;exact εH (Ξ (γe t2) t3) (γ2 t1 (pow_pos _))
   have hc:c % 4294967296=c:=by omega
   rw[hc,hi1];have hfin:bk (ro.set (i.toNat+b.length) c)=bk (a.take (i.toNat+1))*bk b:=by
    rw[uq (by omega),hz,ζf,m6,hv,lV,Int.add_mul,δk]
   repeat' refine γh ?_ ?_
   all_goals first|omega|exact l8 (by simp)|exact nB m1 m3 m4|exact hfin|(rw[Φ];omega)
 ·have hi:i.toNat=a.length:=by omega
  rw[hi,ψ] at hv;refine⟨by omega,?_⟩;rw[qD hr,hv]
theorem Q9 {x m:Int} {k:Nat} (p:0<=x) (t:x<2^k) (o:0<=m) (j:m*2^k<4294967296) (u:x<4294967296):gX.nW .u32 x (m*2^k)=x+m*2^k:=by
 obtain⟨a,rfl⟩:=δE p;obtain⟨b,rfl⟩:=δE o;have e:((b:Int)*2^k)=((2^k*b:Nat):Int):=by grind
 have h:a<2^k:=by grind
 rw[e] at j ⊢;generalize i:2^k*b=c at*;have d:c<4294967296:=by omega
 have f:a<4294967296:=by omega
 have q:(γn 32 ((a:Nat):Int)).toNat=a:=by simp_all
 have r:(γn 32 ((c:Nat):Int)).toNat=c:=by simp_all
 have g:a |||c=a+c:=by
  rw[Nat.or_comm,<-i,<-Nat.two_pow_add_eq_or_of_lt h];omega
 have l:a+c<4294967296:=by
  rw[<-g];exact Nat.or_lt_two_pow (n:=32) f d
 have s:(γn 32 ((a:Nat):Int) |||γn 32 ((c:Nat):Int)).toNat=a+c:=by
  grind
 show fc .u32 ((γn 32 ((a:Nat):Int) |||γn 32 ((c:Nat):Int)).toNat:Nat)=_;grind[tN,IntKind.wrap,IntKind.bits,IntKind.signed]
theorem IW:∀{l:List Int} {i:Nat},bA l->4294967296^i*bj l i 0<=bk l
 |[],i,_=>by simp[bj,bk];|d::l,0,h=>by
  obtain⟨b,a⟩:=jr.1 h;have:=fp a;grind[bj,bk];|d::l,i+1,h=>by
  obtain⟨b,a⟩:=jr.1 h;have:=@IW l i a;have e:bj (d::l) (i+1) 0=bj l i 0:=by simp[bj]
  rw[e,γP,δ3 (4294967296^i),δk];grind[bk]
theorem Rb {a b:List Int} {i k:Nat} (n:bA a) (e:bA b) (F:b.length=a.length+1) (G:i<a.length) (u:k<=31) (q:bk b=bk (a.take i)*2^k):
  bA ((b.set i (gX.nW .u32 (bj b i 0) (bj a i 0 % 18446744073709551616*2^k % 18446744073709551616 % 4294967296))).set (i+1) (bj a i 0 % 18446744073709551616*2^k % 18446744073709551616 / 4294967296 % 4294967296))/\
  bk ((b.set i (gX.nW .u32 (bj b i 0) (bj a i 0 % 18446744073709551616*2^k % 18446744073709551616 % 4294967296))).set (i+1) (bj a i 0 % 18446744073709551616*2^k % 18446744073709551616 / 4294967296 % 4294967296))=bk (a.take (i+1))*2^k:=by
 have x:=ei n i;have r:=ei e i;have c:(0:Int)<2^k:=δL (by decide);have A:(2:Int)^k<=2147483648:=by
  have D:(2:Nat)^k<=2^31:=δp (by decide) u;grind
 have w:(4294967296:Int)=2^(32 - k)*2^k:=by
  rw[<-δ6,show 32 - k+k=32 by omega];decide
 have B:(0:Int)<2^(32 - k):=δL (by decide);have v:0<=bj a i 0*2^k:=γu x.1 (γe c);have H:bj a i 0*2^k<4294967296*2^k:=γ2 x.2 c;have z:bj a i 0 % 18446744073709551616*2^k % 18446744073709551616=bj a i 0*2^k:=by
  rw[δJ (a:=bj a i 0) (by omega) (by omega),δJ v (by omega)]
 have o:bj a i 0*2^k % 4294967296=(bj a i 0 % 2^(32 - k))*2^k:=by
  conv=>lhs;rw[w]
  rw[δ3 (bj a i 0),δ3 (2^(32 - k)),ζy _ _ c,δ3]
 have p:=δx (bj a i 0) (show(2:Int)^(32 - k)≠0 by omega);have E:=δh (bj a i 0) B;have s:=pow_pos i;have d:bk b<4294967296^i*2^k:=by
  rw[q];have:=ot (nz n i);rw[γq,εh (by omega)] at this;simp_all
 have h:bj b i 0<2^k:=εr (εH (IW e) d) (γe s);have m:bj b (i+1) 0=0:=by
  refine An e (i:=i+1) ?_ (ξ _);rw[γP];exact εG d (Ξ (by omega) (γe s))
 have f:(bj a i 0 % 2^(32 - k))*2^k+2^k<=4294967296:=by
  have:(bj a i 0 % 2^(32 - k)+1)*2^k<=2^(32 - k)*2^k:=γQ (by omega) (γe c);grind
 have l:0<=(bj a i 0 % 2^(32 - k))*2^k:=γu p (γe c);have g:=Q9 (k:=k) r.1 h p (by omega) r.2;rw[z,o,g];generalize y:bj a i 0*2^k=t at*;have j:(bj a i 0 % 2^(32 - k))*2^k=t % 4294967296:=o.symm;rw[j] at f l ⊢;refine⟨nB (nB e (by omega) (by omega)) (by omega) (by omega),?_⟩;rw[uq (by simp;omega),uq (by omega),pQ (by omega),m,lV,Int.add_mul,δk,y,q,γP];have C:t / 4294967296 % 4294967296=t / 4294967296:=by omega
 grind
def shl (a:List Int) (k:Nat):List Int:=ix (a.length+1) (bk a*2^k)
abbrev Re:=List Int×Int
def Ax (a:Re):Prop:=bA a.1/\a.1.length<=100000000000/\0<=a.2/\a.2<=31
def IX:bM:=⟨187,List Int×Int,.cons (dM (.i .u32)) (.one (eA .u64)),Ax,λa=> .row (.i .u32) (shl a.1 a.2.toNat)⟩
def IY:dH where
 f:=187;α:=List Int×Int;put a:=[.row (.i .u32) a.1,.si .u64 a.2];st _:=[];dec v o:=match v,o with
  |[v,m],[]=>match jH (.i .u32) v,m.int .u64 with
   |some p,some m=>some (p,m)
   |_,_=>none
  |_,_=>none;ok v o a h:=by
  split at h
  ·split at h
   ·rename_i h1 h2;simp only[γ] at h;subst h;exact⟨by simp only[gL,o6 h1,iN h2];rfl,rfl⟩
   ·cases h
  ·cases h
 inj a b h _:=by
  simp only[gL,Θ,and_true] at h;have h2:=h.2;simp only[SV.g,AV.sc.injEq,Value.int.injEq,true_and] at h2;exact εE ((dM (.i .u32)).inj _ _ h.1) h2
 dom:=Ax;res a:=.ow 0 (shl a.1 a.2.toNat).length 1;out a:=[.row (.i .u32) (shl a.1 a.2.toNat) 172 false]
def Rf (a:Re):Nat->cF
 |3=> .inv (Int×List Int) (λx=>⟨[(0,.row (.i .u32) a.1),(1,.si .u64 a.2),(5,.ow 0 x.2.length 1),(13,.si .i64 a.1.length),(14,.si .i64 x.1)],[.row (.i .u32) x.2 172 false]⟩)
  (λs=>(iS s 14,oS (.i .u32) s 0))
  (λx=>(0<=x.1/\x.1<=a.1.length)/\bA x.2/\x.2.length=a.1.length+1/\bk x.2=bk (a.1.take x.1.toNat)*2^a.2.toNat) (λx=>(a.1.length - x.1).toNat) λ_ _=> .look
 |_=> .look
theorem h168:ec Tryz.prog IY:=by
 refine HG (L:=[]) (W:=[]) IY (λ_=>none) Rf (by simp) (by simp) ?_;rintro⟨a,s⟩ ⟨ha,hla,s0,s1⟩;simp only at ha hla s0 s1;refine bR (let b:=(0:Int);let c:=(18446744073709551616:Int);let d:=(4294967296:Int);let e:=γi .i64;let f:=bq.row;let g:=cu .i64;let h:=Ω;let j:=γ1;let w:=(↑a.length:Int);let o:=w+(1:Int);let l:=bp.i .u32;let r:=b::δ a.length b;let m:=(↑a.length:Int);let y:=e m;let A:=f l r 172 false;let z:=a.length+1;let u:=(2:Int)^s.toNat;g o/\b<=o/\o<=o/\o*(4:Int)<=(140737488355328:Int)/\o<=(1000000000000:Int)/\((((h l a).same (h l a)/\(γi .u64 s).same (γi .u64 s)/\(j 0 o.toNat 1).same (j 0 r.length 1)/\(e w).same y/\(γy .i64 0).same (e 0)/\True)/\A.same A/\True)/\(b<=b/\b<=m)/\bA r/\r.length=z/\bk r=bk []*u)/\∀(x:Int×List Int),let p:=x.snd.length;let q:=x.fst.toNat;let B:=bj a q b % c*u % c;let v:=x.snd.set q (gX.nW .u32 (bj x.snd q b) (B % d));let n:=x.snd.length;let k:=x.fst+(1:Int);let C:=j 0 p 1;let t:=v.set k.toNat (B / d % d);let D:=e k;let E:=f l t 172 false;let F:=p=v.length;(b<=x.fst/\x.fst<=m)/\bA x.snd/\p=z/\bk x.snd=bk (ω q a)*u->(decide (x.fst<m)=true->b<=x.fst/\x.fst<w/\q<a.length/\b<=s/\s<=(64:Int)/\p=n/\b<=x.fst/\x.fst<(↑n:Int)/\p=n/\q<n/\p=n/\b<=x.fst/\x.fst<(↑n:Int)/\p=n/\q<n/\g k/\b<=(32:Int)/\(32:Int)<=(64:Int)/\F/\b<=k/\k<(↑v.length:Int)/\F/\k.toNat<v.length/\g k/\(((h l a).same (h l a)/\(γi .u64 s).same (γi .u64 s)/\C.same (j 0 t.length 1)/\y.same y/\D.same D/\True)/\E.same E/\True)/\((b<=k/\k<=m)/\bA t/\t.length=z/\bk t=bk (ω k.toNat a)*u)/\(m - k).toNat<(m - x.fst).toNat)/\(decide (x.fst<m)=false->C.same (j 0 (shl a s.toNat).length 1)/\(f l x.snd 172 false).same (f l (shl a s.toNat) 172 false)/\True)) (by kernel_rfl) ?_;simp only[vcs];refine⟨by omega,by omega,by omega,by omega,by omega,?_,?_⟩
 ·repeat' refine γh ?_ ?_
  all_goals first|omega|exact l8 (by simp)|exact jr.2 ⟨by omega,Aw⟩|(simp;done)|(simp only[bk,yc];omega)
 rintro⟨i,row⟩ ⟨⟨i0,i1⟩,hr,hl,hv⟩;simp only at i0 i1 hr hl hv ⊢;refine⟨λlW=>?_,λnA=>?_⟩
 ·obtain⟨k1,k2⟩:=Rb ha hr hl (show i.toNat<a.length by omega) (show s.toNat<=31 by omega) hv;have e:(i+1).toNat=i.toNat+1:=by omega
  rw[e];repeat' refine γh ?_ ?_
  all_goals first|omega|exact l8 (by simp)|(simp only[Φ];done)|(simp only[Φ];omega)|exact k1|exact k2
 ·have hi:i.toNat=a.length:=by omega
  rw[hi,ψ] at hv;have hrow:row=shl a s.toNat:=IA hr hl hv;rw[hrow];exact⟨rfl,rfl⟩
theorem h168p:Holds Tryz.prog IX:=by
 refine cH (L:=[]) IX Rf (by simp) ?_;rintro⟨a,s⟩ ⟨ha,hla,s0,s1⟩;simp only at ha hla s0 s1;refine bR (let b:=(0:Int);let c:=(18446744073709551616:Int);let d:=(4294967296:Int);let e:=γi .i64;let f:=Ω;let g:=cu .i64;let h:=γ1;let v:=(↑a.length:Int);let o:=v+(1:Int);let l:=bp.i .u32;let q:=b::δ a.length b;let m:=(↑a.length:Int);let w:=e m;let z:=bq.row l q 172 false;let y:=a.length+1;let t:=(2:Int)^s.toNat;g o/\b<=o/\o<=o/\o*(4:Int)<=(140737488355328:Int)/\o<=(1000000000000:Int)/\((((f l a).same (f l a)/\(γi .u64 s).same (γi .u64 s)/\(h 0 o.toNat 1).same (h 0 q.length 1)/\(e v).same w/\(γy .i64 0).same (e 0)/\True)/\z.same z/\True)/\(b<=b/\b<=m)/\bA q/\q.length=y/\bk q=bk []*t)/\∀(x:Int×List Int),let n:=x.snd.length;let p:=x.fst.toNat;let A:=bj a p b % c*t % c;let u:=x.snd.set p (gX.nW .u32 (bj x.snd p b) (A % d));let k:=x.snd.length;let j:=x.fst+(1:Int);let r:=u.set j.toNat (A / d % d);let B:=e j;let C:=bq.row l r 172 false;let D:=n=u.length;(b<=x.fst/\x.fst<=m)/\bA x.snd/\n=y/\bk x.snd=bk (ω p a)*t->(decide (x.fst<m)=true->b<=x.fst/\x.fst<v/\p<a.length/\b<=s/\s<=(64:Int)/\n=k/\b<=x.fst/\x.fst<(↑k:Int)/\n=k/\p<k/\n=k/\b<=x.fst/\x.fst<(↑k:Int)/\n=k/\p<k/\g j/\b<=(32:Int)/\(32:Int)<=(64:Int)/\D/\b<=j/\j<(↑u.length:Int)/\D/\j.toNat<u.length/\g j/\(((f l a).same (f l a)/\(γi .u64 s).same (γi .u64 s)/\(h 0 n 1).same (h 0 r.length 1)/\w.same w/\B.same B/\True)/\C.same C/\True)/\((b<=j/\j<=m)/\bA r/\r.length=y/\bk r=bk (ω j.toNat a)*t)/\(m - j).toNat<(m - x.fst).toNat)/\(decide (x.fst<m)=false->n=k/\(f l x.snd).same (f l (shl a s.toNat)))) (by kernel_rfl) ?_;simp only[vcs];refine⟨by omega,by omega,by omega,by omega,by omega,?_,?_⟩
 ·repeat' refine γh ?_ ?_
  all_goals first|omega|exact l8 (by simp)|exact jr.2 ⟨by omega,Aw⟩|(simp;done)|(simp only[bk,yc];omega)
 rintro⟨i,row⟩ ⟨⟨i0,i1⟩,hr,hl,hv⟩;simp only at i0 i1 hr hl hv ⊢;refine⟨λlW=>?_,λnA=>?_⟩
 ·obtain⟨k1,k2⟩:=Rb ha hr hl (show i.toNat<a.length by omega) (show s.toNat<=31 by omega) hv;have e:(i+1).toNat=i.toNat+1:=by omega
  rw[e];repeat' refine γh ?_ ?_
  all_goals first|omega|exact l8 (by simp)|(simp only[Φ];done)|(simp only[Φ];omega)|exact k1|exact k2
 ·have hi:i.toNat=a.length:=by omega
  rw[hi,ψ] at hv;have hrow:row=shl a s.toNat:=IA hr hl hv;rw[hrow]
theorem vY {U:List Int} {j:Nat} (h:j<=U.length):bk U=bk (U.take j)+4294967296^j*bk (U.drop j):=by
 conv=>lhs;rw[<-List.take_append_drop j U]
 grind[IC]
theorem abq {U l:List Int} {j:Nat} (h:j<=U.length):(js U j l).take j=U.take j:=by
 grind[js]
theorem abr {U l:List Int} {j:Nat} (h:j<=U.length):(js U j l).drop j=l++U.drop (j+l.length):=by
 grind[js]
theorem abt {U l:List Int} {j:Nat} (a:bA U) (b:bA l):bA (js U j l):=QS (nz a _) (QS b (Am a _))
theorem abu {U q v:List Int} {j m:Nat} {A:Int} (d:bA U) (w:bA v) (G:bA q) (H:2<=v.length) (u:U.length=m+1+v.length) (x:q.length=m+1) (J:j<=m) (p:0<bk v)
  (s:bj q j 0=0) (B:bk U+bk v*bk q=A) (D:bk (U.drop (j+1))<bk v):
  bk (prt U j (v.length+1))<4294967296*bk v/\
  (bA (js U j (ix (v.length+1) (bk (prt U j (v.length+1)) % bk v)))/\(js U j (ix (v.length+1) (bk (prt U j (v.length+1)) % bk v))).length=U.length)/\
  (0<=bk (prt U j (v.length+1)) / bk v/\bk (prt U j (v.length+1)) / bk v<4294967296)/\
  bk (js U j (ix (v.length+1) (bk (prt U j (v.length+1)) % bk v)))+bk v*bk (q.set j (bk (prt U j (v.length+1)) / bk v))=A/\
  bk ((js U j (ix (v.length+1) (bk (prt U j (v.length+1)) % bk v))).drop j)<bk v:=by
 have y:=ot w;have f:=Am d (j+1);have l:=fp (uv d (j:=j) (k:=v.length+1));have b:bk (U.drop (j+(v.length+1)))=0:=by
  have e:bk (U.drop (j+1))=bk ((U.drop (j+1)).take v.length)+4294967296^v.length*bk ((U.drop (j+1)).drop v.length):=vY (by simp;omega);rw[δi,show j+1+v.length=j+(v.length+1) by omega] at e;have I:=fp (nz f v.length);have F:=fp (Am d (j+(v.length+1)));by_cases h:bk (U.drop (j+(v.length+1)))=0;·exact h
  ·have:=Ξ (show(1:Int)<=bk (U.drop (j+(v.length+1))) by omega) (γe (pow_pos v.length));omega
 have a:bk (U.drop j)=bk (prt U j (v.length+1)):=by
  have e:bk (U.drop j)=bk ((U.drop j).take (v.length+1))+4294967296^(v.length+1)*bk ((U.drop j).drop (v.length+1)):=vY (by simp;omega);rw[δi,b,δG,εi] at e;exact e
 have g:bk (U.drop j)=bj U j 0+4294967296*bk (U.drop (j+1)):=by
  rw[DL (show j<U.length by omega)];rfl
 have K:=ei d j;have r:bk (prt U j (v.length+1))<4294967296*bk v:=by omega
 have i:=@Ak (v.length+1) (bk (prt U j (v.length+1)) % bk v);have C:=δx (bk (prt U j (v.length+1))) (show bk v≠0 by omega);have E:=δh (bk (prt U j (v.length+1))) p;have t:bk (ix (v.length+1) (bk (prt U j (v.length+1)) % bk v))=bk (prt U j (v.length+1)) % bk v:=by
  grind[IB]
 have o:bk ((js U j (ix (v.length+1) (bk (prt U j (v.length+1)) % bk v))).drop j)=bk (prt U j (v.length+1)) % bk v:=by
  grind[abr,IC]
 have c:(js U j (ix (v.length+1) (bk (prt U j (v.length+1)) % bk v))).length=U.length:=QV (by rw[i];omega);have n:0<=bk (prt U j (v.length+1)) / bk v:=δZ l (by omega);refine⟨r,⟨abt d Iz,c⟩,⟨n,εU p r⟩,?_,by omega⟩;rw[vY (U:=js U j _) (j:=j) (by rw[c];omega),abq (by omega),o,uq (by omega),s,ζf];rw[vY (U:=U) (j:=j) (by omega),a] at B;have z:=εg (bk (prt U j (v.length+1))) (bk v);grind
theorem Rh {a b:List Int} {s:Nat} (k:bA a) (w:bA b) (u:s<=31) (l:b.length<=a.length) (q:1<=b.length) (d:1<=bj b (b.length - 1) 0):
  bA (shl a s)/\(shl a s).length=a.length+1/\bk (shl a s)=bk a*2^s/\bk ((shl a s).drop (a.length - b.length+1))<bk b*2^s:=by
 have e:(0:Int)<2^s:=δL (by decide);have v:(2:Int)^s<=2147483648:=by
  have h:(2:Nat)^s<=2^31:=δp (by decide) u;grind
 have f:=fp k;have g:=ot k;have n:bk a*2^s<4294967296^a.length*2^s:=γ2 g e;have c:bk (shl a s)=bk a*2^s:=by
  unfold shl;refine IB (γu f (γe e)) (εG n ?_);rw[γP];exact Ξ (by omega) (γe (pow_pos _))
 have i:bA (shl a s):=Iz;have t:(shl a s).length=a.length+1:=Ak;refine⟨i,t,c,?_⟩;have h:=vY (U:=shl a s) (j:=a.length - b.length+1) (by omega);have y:=fp (nz i (a.length - b.length+1));have x:4294967296^(b.length - 1)*bj b (b.length - 1) 0<=bk b:=IW w;have o:(4294967296:Int)^(b.length - 1)<=bk b:=by
  have:=Ξ d (γe (pow_pos (b.length - 1)));omega
 have m:(4294967296:Int)^a.length=4294967296^(a.length - b.length+1)*4294967296^(b.length - 1):=by
  rw[<-δ6];congr 1;omega
 rw[c] at h;have p:(4294967296:Int)^(a.length - b.length+1)*bk ((shl a s).drop (a.length - b.length+1))<4294967296^(a.length - b.length+1)*(4294967296^(b.length - 1)*2^s):=by
  rw[<-δk,<-m];omega
 have r:=εr p (γe (pow_pos _));exact εG r (γQ o (γe e))
theorem abv {x y:Int} {s:Nat} (n:0<=x) (u:x<4294967296) (t:0<=y) (o:y<4294967296) (g:0<s) (q:s<=31):
  ∃r,gX.nW .u32 (x / 2^s) (y*2^(32 - s) % 4294967296)=r/\(0<=r/\r<4294967296)/\2^s*r=x - x % 2^s+4294967296*(y % 2^s):=by
 have b:(0:Int)<2^s:=δL (by decide);have c:(0:Int)<2^(32 - s):=δL (by decide);have l:(4294967296:Int)=2^s*2^(32 - s):=by
  rw[<-δ6,show s+(32 - s)=32 by omega];decide
 have f:y*2^(32 - s) % 4294967296=(y % 2^s)*2^(32 - s):=by
  conv=>lhs;rw[l]
  rw[δ3 y,δ3 (2^s),ζy _ _ c,δ3]
 have d:=δx y (show(2:Int)^s≠0 by omega);have p:=δh y b;have e:0<=x / 2^s:=δZ n (γe b);have m:x / 2^s<2^(32 - s):=εU b (by grind);have h:(y % 2^s)*2^(32 - s)+2^(32 - s)<=4294967296:=by
  have:=γQ (show y % 2^s+1<=2^s by omega) (γe c);grind
 have j:0<=(y % 2^s)*2^(32 - s):=γu d (γe c);have a:=Q9 (k:=32 - s) e m d (by omega) (by omega);refine⟨x / 2^s+(y % 2^s)*2^(32 - s),by rw[f,a],⟨by omega,by omega⟩,?_⟩;have i:=εg x (2^s);grind
theorem Ri {U r:List Int} {i s:Nat} {d:Int} (b:bA U) (c:bA r) (h:i<r.length) (g:∀j,i<=j->bj r j 0=0) (a:0<=d/\d<4294967296)
  (f:2^s*d=bj U i 0 - bj U i 0 % 2^s+4294967296*(bj U (i+1) 0 % 2^s))
  (e:2^s*bk r=bk (U.take i) - bj U 0 0 % 2^s+4294967296^i*(bj U i 0 % 2^s)):
  bA (r.set i d)/\(r.set i d).length=r.length/\(∀j,i+1<=j->bj (r.set i d) j 0=0)/\
  2^s*bk (r.set i d)=bk (U.take (i+1)) - bj U 0 0 % 2^s+4294967296^(i+1)*(bj U (i+1) 0 % 2^s):=by
 grind[nB,pQ,uq,lV]
theorem abw {U r v q:List Int} {n s:Nat} {a b:Int} (f:bA U) (A:bA r) (y:bA v) (g:v.length=n) (u:bk U<bk v) (J:bk v=b*2^s) (C:0<b) (D:bk U+bk v*bk q=a*2^s)
  (G:s<=31) (x:n+1<=U.length)
  (c:2^s*bk r=bk (U.take n) - bj U 0 0 % 2^s+4294967296^n*(bj U n 0 % 2^s)):bk q=a / b/\bk r=a % b:=by
 have H:(0:Int)<2^s:=δL (by decide);have m:=ot y;rw[g] at m;have o:bj U n 0=0:=An f (i:=n) (by omega) (ξ _);have e:bk (U.take n)=bk U:=by
  have k:=vY (U:=U) (j:=n) (by omega);have p:=fp (nz f n);have w:=fp (Am f n);by_cases h:bk (U.drop n)=0;·simp_all
  ·have:=Ξ (show(1:Int)<=bk (U.drop n) by omega) (γe (pow_pos n));omega
 have d:bk U=2^s*(a - b*bk q):=by
  grind
 have l:bj U 0 0 % 2^s=0:=by
  have k:=@lV U 0;have p:=vY (U:=U) (j:=1) (by omega);have E:(4294967296:Int)=2^s*2^(32 - s):=by
   rw[<-δ6,show s+(32 - s)=32 by omega];decide
  simp only[Nat.zero_add,εq,bk,ζH,εy,Int.zero_add] at k;rw[k,γP,ζH,εy] at p;have w:bj U 0 0=2^s*(a - b*bk q - 2^(32 - s)*bk (U.drop 1)):=by
   grind
  simp_all
 rw[o,l,e,Int.zero_emod,δG,ζf,εi,d] at c;have t:bk r=a - b*bk q:=Int.eq_of_mul_eq_mul_left (by omega) c;have B:=fp A;have z:bk r<b:=by
  have:2^s*bk r<2^s*b:=by
   grind
  simp_all
 obtain⟨F,I⟩:=vW (X:=a) (V:=b) (q:=bk q) (by grind) (by grind);grind
theorem DT:∀{w:List Int},bA w->fS w->w≠[]->4294967296^(w.length - 1)<=bk w
 |[],_,_,h=>absurd rfl h
 |[d],a,b,_=>by
  have f:=(jr.1 a).1;have c:=b.1 rfl;grind[bk];|d::e::l,a,b,_=>by
  obtain⟨f,c⟩:=jr.1 a;have g:=DT c b.2 (by simp);have i:bk (d::e::l)=d+4294967296*bk (e::l):=rfl;simp only[List.length_cons,ζV] at g ⊢;omega
theorem DU {a b:Nat} (h:a<=b):(4294967296:Int)^a<=4294967296^b:=by
 obtain⟨m,rfl⟩:=Nat.exists_eq_add_of_le h;rw[δ6];have c:=pow_pos a;have d:=pow_pos m;have:=Ξ (show(1:Int)<=4294967296^m by omega) (γe c);omega
theorem IZ {t:List Int} {s:Nat} (e:bA t) (H:1<=t.length) (G:s<=31) (d:bj t (t.length - 1) 0*2^s<4294967296) (c:2147483648<=bj t (t.length - 1) 0*2^s):
  bA (bJ (shl t s))/\(bJ (shl t s)).length=t.length/\bk (bJ (shl t s))=bk t*2^s/\2147483648<=bj (bJ (shl t s)) (t.length - 1) 0/\1<=bj t (t.length - 1) 0:=by
 have o:(0:Int)<2^s:=δL (by decide);have q:=ei e (t.length - 1);have a:1<=bj t (t.length - 1) 0:=by
  grind
 obtain⟨y,N,z,_⟩:=Rh e e G (ξ _) H a;obtain⟨f,E⟩:=@rG (shl t s);have i:=sP y;rw[z] at f;generalize bJ (shl t s)=w at*;obtain⟨n,A⟩:∃n,t.length=n+1:=⟨t.length - 1,by omega⟩;rw[A] at d c a q ⊢;simp only[ζV] at d c a q ⊢;have p:=pow_pos n;have v:bk t=bk (t.take n)+4294967296^n*bj t n 0:=by
  grind[lV]
 have B:=fp (nz e n);have k:=ot (nz e n);rw[γq,εh (by omega)] at k;have J:(4294967296:Int)=2^(32 - s)*2^s:=by
  rw[<-δ6,show 32 - s+s=32 by omega];decide
 have L:(0:Int)<2^(32 - s):=δL (by decide);have D:bj t n 0<2^(32 - s):=by
  simp_all
 have l:(bj t n 0+1)*2^s<=4294967296:=by
  have:=γQ (show bj t n 0+1<=2^(32 - s) by omega) (γe o);omega
 have x:bk w<4294967296^(n+1):=by
  rw[f,γP];have F:bk t<4294967296^n*(bj t n 0+1):=by grind
  have M:=γ2 F o;have I:=Ξ l (γe p);grind
 have u:4294967296^n*(bj t n 0*2^s)<=bk w:=by
  rw[f,<-δk];exact γQ (by omega) (γe o)
 have r:(4294967296:Int)^n<=bk w:=by
  have:=Ξ (show(1:Int)<=bj t n 0*2^s by omega) (γe p);omega
 have b:w.length=n+1:=by
  have K:n<w.length:=by
   by_cases h:n<w.length;·exact h
   ·have:=ot i;have:=DU (show w.length<=n by omega);omega
  by_cases h:w.length=n+1;·exact h
  ·have j:w≠[]:=by grind
   have:=DT i E j;have:=DU (show n+1<=w.length - 1 by omega);omega
 refine⟨i,b,f,?_,a⟩;have C:bk w=bk (w.take n)+4294967296^n*bj w n 0:=by
  grind[lV]
 have m:=ot (nz i n);rw[γq,εh (by omega)] at m;have g:4294967296^n*(bj t n 0*2^s)<4294967296^n*(bj w n 0+1):=by grind
 have:=εr g (γe p);omega
@[reducible] def sF:bp:=.pair .b (.pair (.bE (.i .u32)) (.bE (.i .u32)))
abbrev bL:=Bool×(List Int×List Int)
def bu (q:Rat):bL:=(decide (q<0),(cM (q.num.natAbs:Int),cM (q.den:Int)))
def bV (x:bL):Rat:=mkRat (if x.1 then -bk x.2.1 else bk x.2.1) (bk x.2.2).toNat
def Sz (k:Nat) (q:Rat):Prop:=(q.num.natAbs:Int)<4294967296^k/\(q.den:Int)<4294967296^k
theorem mH {n:Int} {k:Nat} (e:0<=n) (h:n<4294967296^k):(cM n).length<=k:=by
 obtain⟨f,b,d⟩:=gl e;by_cases c:(cM n).length<=k;·exact c
 ·have a:cM n≠[]:=by grind
  have:=DT b d a;have:=DU (show k<=(cM n).length - 1 by omega);omega
theorem eD (q:Rat):bV (bu q)=q:=by
 unfold bV bu;have a:=(gl (show(0:Int)<=(q.num.natAbs:Int) by omega)).1;have b:=(gl (show(0:Int)<=(q.den:Int) by omega)).1;simp only[a,b,decide_eq_true_eq,γl];grind[Rat.num_nonneg,δV]
theorem Rj {N:Int} {D:Nat} (a:D≠0):(mkRat N D).num.natAbs=N.natAbs / N.natAbs.gcd D/\(mkRat N D).den=D / N.natAbs.gcd D:=by
 rw[<-ζB a,Rat.normalize_eq a];simp only;refine⟨?_,trivial⟩;have b:0<N.natAbs.gcd D:=Nat.gcd_pos_of_pos_right _ (by omega);have c:((N.natAbs.gcd D:Nat):Int)∣N:=Int.ofNat_dvd_left.2 (ζ3 _ _);generalize N.natAbs.gcd D=g at*;obtain⟨m,rfl⟩:=c;rw[ζq _ (by omega),εs,ζg,Nat.mul_div_cancel_left _ b]
theorem abx {N:Int} {D:Nat} (f:D≠0):mkRat N D<0↔N<0:=by
 have i:(0:Rat)=mkRat 0 D:=(Rat.zero_mkRat D).symm;have e:mkRat N D<0↔¬0<=mkRat N D:=Rat.not_le.symm;rw[e,<-Rat.num_nonneg];have g:=Rat.num_divInt_den (mkRat N D);have c:(mkRat N D).num*(D:Int)=N*((mkRat N D).den:Int):=by
  grind[Rat.mkRat_eq_iff,mkRat,δV]
 have d:(0:Int)<((mkRat N D).den:Int):=by have:=(mkRat N D).den_pos;omega
 have b:(0:Int)<(D:Int):=by omega
 constructor
 ·intro h;by_cases a:N<0;·exact a
  ·exfalso;apply h;have:0<=(mkRat N D).num*(D:Int):=by rw[c];exact γu (by omega) (by omega)
   exact Int.nonneg_of_mul_nonneg_left this b
 ·intro a h;have:0<=(mkRat N D).num*(D:Int):=γu h (by omega);rw[c] at this;have:=εt a d;omega
theorem Rk {s:Bool} {n d:Int} (n0:0<=n) (f:0<d):bu (mkRat (if s then -n else n) d.toNat)=(s&&decide (0<n),(cM (n / eC n d),cM (d / eC n d))):=by
 have e:d.toNat≠0:=by omega
 obtain⟨b,c⟩:=Rj (N:=if s then -n else n) e;have a:(if s then -n else n).natAbs=n.toNat:=by split<;>omega
 unfold bu;rw[b,c,a];have g:eC n d=((n.toNat.gcd d.toNat:Nat):Int):=rfl;refine εE ?_ (εE ?_ ?_)
 ·simp only;rw[ζ6];simp only[decide_eq_true_eq,Bool.and_eq_true];grind[abx]
 all_goals grind
theorem Az {N:Int} {D:Nat} {k:Nat} (b:D≠0) (f:(N.natAbs:Int)<4294967296^k) (e:(D:Int)<4294967296^k):Sz k (mkRat N D):=by
 obtain⟨c,a⟩:=Rj (N:=N) b;unfold Sz;rw[c,a];have g:=Nat.div_le_self N.natAbs (N.natAbs.gcd D);have d:=Nat.div_le_self D (N.natAbs.gcd D);omega
theorem Sz.mono {j k:Nat} {q:Rat} (h:Sz j q) (a:j<=k):Sz k q:=by
 have:=DU a;exact⟨by have:=h.1;omega,by have:=h.2;omega⟩
theorem Rl (p q:Rat):p+q=mkRat (p.num*q.den+q.num*p.den) (p.den*q.den):=by
 rw[Rat.add_def,ζB]
theorem AA {p q:Rat} {i j:Nat} (e:Sz i p) (c:Sz j q):Sz (i+j+1) (p+q):=by
 rw[Rl];have g:=p.den_pos;have l:=q.den_pos;have k:p.den*q.den≠0:=Nat.ne_of_gt (Nat.mul_pos g l);have m:∀{a b:Int} {i j:Nat},0<=a->0<=b->a<4294967296^i->b<4294967296^j->a*b<4294967296^(i+j):=by
  intro a b i j h o f d;rw[δ6];exact εH (Ξ (γe d) h) (γ2 f (pow_pos _))
 have f:=m (by omega) (by omega) e.1 c.2;have d:=m (by omega) (by omega) c.1 e.2;have n:=m (by omega) (by omega) e.2 c.2;rw[Nat.add_comm j i] at d;have t:=pow_pos (i+j);refine Az k ?_ ?_
 ·have r:(p.num*(q.den:Int)).natAbs=p.num.natAbs*q.den:=by rw[εs,ζg]
  have s:(q.num*(p.den:Int)).natAbs=q.num.natAbs*p.den:=by rw[εs,ζg]
  omega
 omega
theorem AB {p:Rat} {i:Nat} (a:Sz i p):Sz i (-p):=by
 grind[Sz,Rat.neg_num,Rat.neg_den]
def ye:bM:=⟨138,Int,.one (eA .u64),λx=>0<=(show Int from x)/\(show Int from x)<18446744073709551616,λx=> .row (.i .u32) (cM x)⟩
theorem h128:Holds Tryz.prog ye:=by
 refine cH (L:=[rF]) ye lk (by grind[h152]) ?_;intro(x:Int) h;obtain⟨b,a⟩:0<=x/\x<18446744073709551616:=h;refine bR (let a:=(4294967296:Int);(0:Int)<=(32:Int)/\(32:Int)<=(64:Int)/\2<=1000000000000/\(Ω (bp.i .u32) (bJ [x % a,x / a % a])).same (Ω (bp.i .u32) (cM x))) (by kernel_rfl) ?_;simp only[vcs];grind[bA,qD,bk]
def QD:List bM:=[rF,xY,Aj,Ix,ye,IX]
theorem hQD:∀c∈QD,Holds Tryz.prog c:=by
 simp only[QD,List.forall_mem_cons,List.not_mem_nil,false_implies,implies_true,and_true];grind[h152,h132,h154,h167,h128,h168p]
def WD:List dH:=[IY,IJ]
theorem hWD:∀c∈WD,ec Tryz.prog c:=by
 simp_all[WD,h168,h169]
def DV:bM:=⟨182,List Int×List Int,.cons (dM (.i .u32)) (.one (dM (.i .u32))),λa=>(bA a.1/\bA a.2)/\(a.1.length<=10000000000/\a.2.length<=10000000000)/\0<bk a.2,
 λa=> .bI [.row (.i .u32) (cM (bk a.1 / bk a.2)),.row (.i .u32) (cM (bk a.1 % bk a.2)),.si .i64 0]⟩
def sT (a:List Int×List Int) (s:Int):Prop:=(0<=s/\s<=31)/\bj (bJ a.2) ((bJ a.2).length - 1) 0*2^s.toNat<4294967296/\2147483648<=bj (bJ a.2) ((bJ a.2).length - 1) 0*2^s.toNat
def abA (a:List Int×List Int):Nat->cF
 |10=> .inv Int (λs=>⟨[(0,.row (.i .u32) (bJ a.1)),(1,.row (.i .u32) (bJ a.2)),(9,.si .u64 s)],[]⟩) (λs=>iS s 9)
  (λs=>(0<=s/\s<=31)/\bj (bJ a.2) ((bJ a.2).length - 1) 0*2^s.toNat<4294967296) (λs=>(32 - s).toNat) λ_ _=> .look
 |17=> .inv (Int×Int×List Int×List Int) (λx=>⟨[(4,.ow 1 x.2.2.2.length 1),(9,.si .u64 x.2.1),(10,.ow 0 x.2.2.1.length 1),(11,.row (.i .u32) (bJ (shl (bJ a.2) x.2.1.toNat))),(12,.si .i64 (bJ (shl (bJ a.2) x.2.1.toNat)).length),
   (13,.si .i64 ((bJ a.1).length - (bJ a.2).length)),(74,.si .i64 ((bJ a.1).length - (bJ a.2).length+1)),(75,.si .i64 x.1)],[.row (.i .u32) x.2.2.1 172 false,.row (.i .u32) x.2.2.2 172 true]⟩)
  (λs=>(iS s 75,iS s 9,oS (.i .u32) s 0,oS (.i .u32) s 1))
  (λx=>(0<=x.1/\x.1<=(bJ a.1).length - (bJ a.2).length+1)/\sT a x.2.1/\(bA x.2.2.1/\x.2.2.1.length=(bJ a.1).length+1)/\(bA x.2.2.2/\x.2.2.2.length=(bJ a.1).length - (bJ a.2).length+1)/\
   (∀j:Nat,(j:Int)<(bJ a.1).length - (bJ a.2).length+1 - x.1->bj x.2.2.2 j 0=0)/\
   bk x.2.2.1+bk (bJ (shl (bJ a.2) x.2.1.toNat))*bk x.2.2.2=bk (bJ a.1)*2^x.2.1.toNat/\
   bk (x.2.2.1.drop (((bJ a.1).length - (bJ a.2).length+1 - x.1:Int).toNat))<bk (bJ (shl (bJ a.2) x.2.1.toNat)))
  (λx=>((bJ a.1).length - (bJ a.2).length+1 - x.1:Int).toNat) λ_ _=> .look
 |24=> .inv (Int×Int×List Int×List Int×List Int) (λx=>⟨[(4,.ow 1 x.2.2.2.1.length 1),(5,.ow 2 x.2.2.2.2.length 1),(9,.si .u64 x.2.1),(10,.ow 0 x.2.2.1.length 1),(100,.si .i64 (bJ (shl (bJ a.2) x.2.1.toNat)).length),(101,.si .i64 x.1)],
   [.row (.i .u32) x.2.2.1 172 false,.row (.i .u32) x.2.2.2.1 172 true,.row (.i .u32) x.2.2.2.2 172 true]⟩)
  (λs=>(iS s 101,iS s 9,oS (.i .u32) s 0,oS (.i .u32) s 1,oS (.i .u32) s 2))
  (λx=>(0<=x.1/\x.1<=(bJ (shl (bJ a.2) x.2.1.toNat)).length)/\sT a x.2.1/\(bA x.2.2.1/\x.2.2.1.length=(bJ a.1).length+1)/\(bA x.2.2.2.1/\x.2.2.2.1.length=(bJ a.1).length - (bJ a.2).length+1)/\
   bk x.2.2.1+bk (bJ (shl (bJ a.2) x.2.1.toNat))*bk x.2.2.2.1=bk (bJ a.1)*2^x.2.1.toNat/\bk x.2.2.1<bk (bJ (shl (bJ a.2) x.2.1.toNat))/\
   (bA x.2.2.2.2/\x.2.2.2.2.length=(bJ (shl (bJ a.2) x.2.1.toNat)).length)/\(∀j,x.1.toNat<=j->bj x.2.2.2.2 j 0=0)/\
   2^x.2.1.toNat*bk x.2.2.2.2=bk (x.2.2.1.take x.1.toNat) - bj x.2.2.1 0 0 % 2^x.2.1.toNat+4294967296^x.1.toNat*(bj x.2.2.1 x.1.toNat 0 % 2^x.2.1.toNat))
  (λx=>((bJ (shl (bJ a.2) x.2.1.toNat)).length - x.1).toNat) λ_ _=> .look
 |_=> .look
theorem h166g:Holds Tryz.prog DV:=by
 refine con (L:=QD) (W:=gK WD) DV abA (kY hWD) hQD ?_;rintro⟨a,b⟩ ⟨⟨ha,hb⟩,⟨hla,hlb⟩,b0⟩;simp only at ha hb hla hlb b0;refine bR (let c:=(0:Int);let d:=(4294967296:Int);let e:=(18446744073709551616:Int);let f:=Ω;let g:=γi .i64;let h:=cu .i64;let k:=bq.row;let l:=(1:Int);let m:=γ1;let n:=(32:Int);let o:=(140737488355328:Int);let p:=(1000000000000:Int);let q:=(2:Int);let r:=SV.bI;let s:=(31:Int);let z0:Nat:=(bJ b).length;let N:=(↑z0:Int);let av:=decide (N=c);let ag:=f (bp.i .i64) [];let t:=bp.i .u32;let ah:=g 0;let aa:=r [f t (cM (bk a / bk b)),f t (cM (bk a % bk b)),ah];let z7:Nat:=(bJ a).length;let z8:Nat:=(bJ b).length;let F:=bk (bJ a);let aw:=decide (lX F (bk (bJ b))<c);let a1:=γy .i64 0;let ax:=decide (N=l);let ab:=bj (bJ b) 0 c;let ai:=F % ab % e;let aj:=bj (bJ b) (z8 - 1) c;let a2:=N - l;let ak:=(↑(bJ a).length:Int) - N;let B:=ak+l;let O:=δ B.toNat c;let al:=(↑z7:Int) - (↑z8:Int);let am:=g al;let y:=al+l;let an:=g y;let ay:=k t O 172 true;let P:=z7+1;let Q:=z7 - z8+1;a.length<=1000000000000/\b.length<=1000000000000/\(av=true->(r [ag,ag,γy .i64 8]).same aa)/\(av=false->((bA (bJ a)/\bA (bJ b))/\z7<=1000000000000/\z8<=1000000000000)/\(aw=true->((bA (bJ a)/\bA [])/\z7<=100000000000/\0<=100000000000)/\(r [ag,f t (cM (F+bk [])),a1]).same aa)/\(aw=false->(ax=true->c<=c/\c<N/\0<z0/\(bA (bJ a)/\z7<=100000000000/\c<ab/\ab<d)/\(c<=ai/\ai<e)/\(r [f t (cM (F / ab)),f t (cM ai),a1]).same aa)/\(ax=false->((((f t (bJ a)).same (f t (bJ a))/\(f t (bJ b)).same (f t (bJ b))/\(γy .u64 0).same (γi .u64 0)/\True)/\True)/\(c<=c/\c<=s)/\aj*l<d)/\∀(x:Int),let ao:=q^x.toNat;let a3:=(x+l) % e;let az:=γi .u64 a3;let aA:=shl (bJ b) x.toNat;let R:=shl (bJ a) x.toNat;let aB:=m 0 R.length 1;let S:=bJ aA;let aC:=k t R 172 false;let aD:=λ(u:Bool) ↦decide (bj (bJ b) a2.toNat c*ao % d<(2147483648:Int))=u;(c<=x/\x<=s)/\aj*ao<d->h a2/\c<=a2/\a2<N/\a2.toNat<z0/\c<=x/\x<=n/\(aD true->(((f t (bJ a)).same (f t (bJ a))/\(f t (bJ b)).same (f t (bJ b))/\az.same az/\True)/\True)/\((c<=a3/\a3<=s)/\aj*q^a3.toNat<d)/\(n - a3).toNat<(n - x).toNat)/\(aD false->Ax (bJ a,x)/\Ax (bJ b,x)/\aA.length<=1000000000000/\h ak/\h B/\c<=B/\B<=B/\B*(4:Int)<=o/\B<=p/\h B/\((((m 1 B.toNat 1).same (m 1 O.length 1)/\(γi .u64 x).same (γi .u64 x)/\aB.same aB/\(f t S).same (f t S)/\(g (↑S.length:Int)).same (g (↑S.length:Int))/\(g ak).same am/\(g B).same an/\a1.same ah/\True)/\aC.same aC/\ay.same ay/\True)/\(c<=c/\c<=y)/\sT (a,b) x/\(bA R/\R.length=P)/\(bA O/\O.length=Q)/\(∀(j:Nat),(↑j:Int)<y - c->bj O j c=c)/\bk R+bk S*bk O=F*ao/\bk (γU (y - c).toNat R)<bk S)/\∀(x:Int×Int×List Int×List Int),let C:=x.snd.snd.fst;let T:=bJ (shl (bJ b) x.snd.fst.toNat);let U:=bk T;let w:=x.snd.snd.snd;let ac:=q^x.snd.fst.toNat;let V:=C.length;let aE:=decide (x.fst<y);let G:=al - x.fst;let z:=(↑T.length:Int);let a4:=G+z+l;let a5:=G.toNat;let a6:=a4.toNat;let H:=nC.mk C a5 (a6 - a5) V T;let K:=x.fst+l;let ap:=m 1 w.length 1;let W:=w.set a5 (H.x / U);let ad:=γi .u64 x.snd.fst;let aq:=m 0 V 1;let ae:=g z;let aF:=g K;let aG:=k t H.row 172 false;let aH:=k t W 172 true;let X:=δ z.toNat c;let aI:=k t C 172 false;let aJ:=k t w 172 true;let aK:=k t X 172 true;let aL:=bj C 0 c % ac;let aM:=bk C+U*bk w=F*ac;(c<=x.fst/\x.fst<=y)/\sT (a,b) x.snd.fst/\(bA C/\V=P)/\(bA w/\w.length=Q)/\(∀(j:Nat),(↑j:Int)<y - x.fst->bj w j c=c)/\aM/\bk (γU (y - x.fst).toNat C)<U->(aE=true->h G/\h (G+z)/\h a4/\h (G+z)/\h a4/\V=C.length/\c<=G/\c<=a4/\c<=a4/\a5<=a6/\a6<=a6/\a6<=V/\H.ok/\w.length=w.length/\c<=G/\G<(↑w.length:Int)/\w.length=w.length/\a5<w.length/\h K/\((ap.same (m 1 W.length 1)/\ad.same ad/\aq.same (m 0 H.row.length 1)/\(f t T).same (f t T)/\ae.same ae/\am.same am/\an.same an/\aF.same aF/\True)/\aG.same aG/\aH.same aH/\True)/\((c<=K/\K<=y)/\sT (a,b) x.snd.fst/\(bA H.row/\H.row.length=P)/\(bA W/\W.length=Q)/\(∀(j:Nat),(↑j:Int)<y - K->bj W j c=c)/\bk H.row+U*bk W=F*ac/\bk (γU (y - K).toNat H.row)<U)/\(y - K).toNat<(y - x.fst).toNat)/\(aE=false->c<=z/\z<=z/\z*(4:Int)<=o/\z<=p/\(((ap.same ap/\(m 2 z.toNat 1).same (m 2 X.length 1)/\ad.same ad/\aq.same aq/\ae.same ae/\a1.same ah/\True)/\aI.same aI/\aJ.same aJ/\aK.same aK/\True)/\(c<=c/\c<=z)/\sT (a,b) x.snd.fst/\(bA C/\V=P)/\(bA w/\w.length=Q)/\aM/\bk C<U/\(bA X/\X.length=T.length)/\(∀(j:Nat),0<=j->bj X j c=c)/\ac*bk X=bk [] - aL+l*aL)/\∀(x:Int×Int×List Int×List Int×List Int),let aN:=γi .u64 x.snd.fst;let v:=x.snd.snd.fst;let aO:=m 0 v.length 1;let Y:=bJ (shl (bJ b) x.snd.fst.toNat);let Z:=(↑Y.length:Int);let aP:=g Z;let E:=x.fst+l;let aQ:=g E;let A:=x.snd.snd.snd.snd;let L:=A.length;let D:=x.fst.toNat;let ar:=bj v D c;let I:=q^x.snd.fst.toNat;let a7:=A.set D (ar / I);let M:=x.snd.snd.snd.fst;let a8:=M.length;let aR:=m 1 a8 1;let aS:=k t v 172 false;let aT:=k t M 172 true;let a9:=E.toNat;let aU:=bj v 0 c % I;let aV:=bj v a9 c;let aW:=decide (x.fst<Z);let J:=v.length;let aX:=decide (c<x.snd.fst);let au:=(n - x.snd.fst) % e;let b3:=aN.same aN/\aO.same aO/\aP.same aP/\aQ.same aQ/\True;let af:=L=a7.length;let aY:=x.fst<(↑a7.length:Int);let aZ:=D<a7.length;let b0:=bk v+bk Y*bk M=F*I;let b4:=(Z - E).toNat<(Z - x.fst).toNat;let b5:=aR.same aR;let b6:=c<=E/\E<=Z;let b1:=λ(u:List Int) (u_1:Int) ↦let a0:=u.set D u_1;let b2:=k t a0 172 true;h E/\((b5/\(m 2 L 1).same (m 2 a0.length 1)/\b3)/\aS.same aS/\aT.same aT/\b2.same b2/\True)/\(b6/\sT (a,b) x.snd.fst/\(bA v/\v.length=P)/\(bA M/\a8=Q)/\b0/\bk v<bk Y/\(bA a0/\a0.length=Y.length)/\(∀(j:Nat),a9<=j->bj a0 j c=c)/\I*bk a0=bk (ω a9 v) - aU+d^a9*(aV % I))/\b4;(c<=x.fst/\x.fst<=Z)/\sT (a,b) x.snd.fst/\(bA v/\v.length=P)/\(bA M/\a8=Q)/\b0/\bk v<bk Y/\(bA A/\L=Y.length)/\(∀(j:Nat),D<=j->bj A j c=c)/\I*bk A=bk (ω D v) - aU+d^D*(ar % I)->(aW=true->v.length=J/\c<=x.fst/\x.fst<(↑J:Int)/\v.length=J/\D<J/\c<=x.snd.fst/\x.snd.fst<=n/\L=A.length/\c<=x.fst/\x.fst<(↑A.length:Int)/\L=A.length/\D<A.length/\(aX=true->af/\c<=x.fst/\aY/\af/\aZ/\h E/\v.length=J/\c<=E/\E<(↑J:Int)/\v.length=J/\a9<J/\c<=au/\au<=n/\af/\c<=x.fst/\aY/\af/\aZ/\b1 a7 (gX.nW .u32 (bj a7 D c) (aV*q^au.toNat % d)))/\(aX=false->b1 A (ar / I)))/\(aW=false->a8=M.length/\L=A.length/\a8<=1000000000000/\L<=1000000000000/\(r [f t (bJ M),f t (bJ A),a1]).same aa))))))) (by kernel_rfl) ?_;simp only[vcs];obtain⟨va,na⟩:=@rG a;obtain⟨vb,nb⟩:=@rG b;have da:=sP ha;have db:=sP hb;have la:=@uo a;have lb:=@uo b;have p0:=fp da;have d0:bA []:=by simp[bA]
 simp only[sT];rw[<-va,<-vb];rw[<-vb] at b0;generalize bJ a=S at*;generalize bJ b=T at*;have hm:=δx (bk S) (show bk T≠0 by omega);have hl:=δh (bk S) b0;have hT1:T.length≠0:=by
  intro h;rw[τ h] at b0;exact absurd b0 (by decide)
 refine⟨by omega,by omega,λh0=>by omega,λh0=>⟨⟨⟨da,db⟩,by omega,by omega⟩,λhlt=>⟨⟨⟨da,d0⟩,by omega,by omega⟩,?_⟩,λhge=>⟨λh1=>?_,λh1=>⟨?_,?_⟩⟩⟩⟩
 ·have hab:bk S<bk T:=by unfold lX at hlt;split at hlt<;>(try split at hlt)<;>omega
  have hdv:bk S / bk T=0:=Int.ediv_eq_zero_of_lt p0 hab;have hmv:bk S % bk T=bk S:=δJ p0 hab;refine⟨Q6 (by rw[hdv];rfl),?_⟩;rw[hmv];simp[bk]
 ·obtain⟨d,rfl⟩:∃d,T=[d]:=List.length_eq_one_iff.1 (by omega);have hd:=(jr.1 db).1;have abB:bj [d] 0 0=d:=rfl;have hv:bk [d]=d:=by simp[bk]
  rw[hv] at b0 hm hl ⊢;rw[abB];have hmm:bk S % d % 18446744073709551616=bk S % d:=by omega
  rw[hmm];repeat' refine γh ?_ ?_
  all_goals first|omega|exact da|rfl|(simp;done)
 ·have:=ei db (T.length - 1);repeat' refine γh ?_ ?_
  all_goals omega
 have Dv:bk T<=bk S:=by unfold lX at hge;split at hge<;>(try split at hge)<;>omega
 have hlen:T.length<=S.length:=by
  by_cases h:S.length<T.length
  ·have:=xX da db nb h;omega
  ·omega
 have hTn:2<=T.length:=by omega
 clear hge h0 h1 hT1 va vb d0;rintro s ⟨⟨s0,s1⟩,hs⟩;have t1:((T.length:Int) - 1).toNat=T.length - 1:=by omega
 have hxt:=ei db (T.length - 1);have hps:(0:Int)<2^s.toNat:=δL (by decide);have hnn:0<=bj T (T.length - 1) 0*2^s.toNat:=γu hxt.1 (γe hps);have hmod:bj T (T.length - 1) 0*2^s.toNat % 4294967296=bj T (T.length - 1) 0*2^s.toNat:=by omega
 rw[t1,hmod];repeat refine γh (by omega) ?_
 refine⟨λhc=>?_,λhc=>?_⟩
 ·have htop:1<=bj T (T.length - 1) 0:=by
   by_cases h:1<=bj T (T.length - 1) 0;·exact h
   ·exfalso;have h4:=DT db nb (by rintro rfl;simp at hTn);have h5:bk T=bk (T.take (T.length - 1))+4294967296^(T.length - 1)*bj T (T.length - 1) 0:=by
     have:=@lV T (T.length - 1);rwa [show T.length - 1+1=T.length by omega,ψ] at this
    have h6:=ot (nz db (T.length - 1));rw[γq,εh (by omega)] at h6;rw[show bj T (T.length - 1) 0=0 by omega,δG] at h5;omega
  have h31:s<=30:=by
   by_cases h:s<=30;·exact h
   ·have abD:s.toNat=31:=by omega
    rw[abD,show(2:Int)^31=2147483648 from rfl] at hc;omega
  have e:((s+1) % 18446744073709551616)=s+1:=by omega
  have e2:(s+1).toNat=s.toNat+1:=by omega
  rw[e,e2,γP,<-δk];repeat' refine γh ?_ ?_
  all_goals omega
 ·obtain⟨dw,lw,vw,tw,yf⟩:=IZ db (by omega) (show s.toNat<=31 by omega) hs (by omega);obtain⟨ds,ls,vs,hst⟩:=Rh da db (show s.toNat<=31 by omega) hlen (by omega) yf;have hds:∀z,Ax (z,s)↔(bA z/\z.length<=100000000000):=λz=>⟨λh=>⟨h.1,h.2.1⟩,λh=>⟨h.1,h.2,s0,s1⟩⟩;have bE:(shl T s.toNat).length=T.length+1:=Ak;have bits:(0<=s/\s<=31)/\bj T (T.length - 1) 0*2^s.toNat<4294967296/\2147483648<=bj T (T.length - 1) 0*2^s.toNat:=⟨⟨s0,s1⟩,hs,by omega⟩;rw[hds,hds,bE,ls];refine⟨⟨da,by omega⟩,⟨db,by omega⟩,?_⟩;repeat refine γh (by omega) ?_
  refine⟨?_,?_⟩
  ·repeat' refine γh ?_ ?_
   all_goals first|omega|exact l8 (by simp)|exact l8 (by omega)|exact ds|exact Aw|exact λj _=>Q8|(simp;omega)|(rw[yc,δG,εi];exact vs)|(rw[vw,show((S.length:Int) - T.length+1 - 0).toNat=S.length - T.length+1 by omega];exact hst)
  clear hst vs ls ds bits hds hmod hnn hps hxt yf tw vw lw dw bE t1 hc hs s0 s1;clear s;rintro⟨i,s,U,q⟩ ⟨⟨i0,i1⟩,⟨⟨s0,s1⟩,hs,hs2⟩,⟨hU,DW⟩,⟨hq,AE⟩,hz,he,hlt⟩;simp only at i0 i1 s0 s1 hs hs2 hU DW hq AE hz he hlt ⊢;obtain⟨dw,lw,vw,tw,yf⟩:=IZ db (by omega) (show s.toNat<=31 by omega) hs (by omega);generalize hw:bJ (shl T s.toNat)=w at*;have hw0:0<bk w:=by
   rw[vw];exact εA b0 (δL (by decide))
  refine⟨λlW=>?_,λnA=>?_⟩
  ·obtain⟨j,hj⟩:∃j:Nat,(S.length:Int) - T.length - i=j:=⟨((S.length:Int) - T.length - i).toNat,by omega⟩;have e1:((j:Int)+w.length+1).toNat - j=w.length+1:=by omega
   have e2:((S.length:Int) - T.length+1 - i).toNat=j+1:=by omega
   rw[e2] at hlt;obtain⟨k1,⟨k2,k3⟩,⟨k4,k5⟩,k6,k7⟩:=abu (j:=j) (m:=S.length - T.length) hU dw hq (by omega) (by omega) (by omega) (by omega) hw0 (hz j (by omega)) he hlt;have e3:((S.length:Int) - T.length+1 - (i+1)).toNat=j:=by omega
   simp only[hj,e1,e3,γl,nC.row,nC.x,nC.ok];repeat' refine γh ?_ ?_
   all_goals first|omega|exact l8 (by simp)|exact l8 k3.symm|exact trivial|exact hU|exact dw|exact k1|exact k2|exact k6|exact k7|exact nB hq k4 k5|(simp;omega)|(rw[lw];exact tw)|exact λp hp=>by rw[pQ (by omega)];exact hz p (by omega)
  ·have e2:((S.length:Int) - T.length+1 - i).toNat=0:=by omega
   rw[e2,List.drop_zero] at hlt;repeat refine γh (by omega) ?_
   refine⟨?_,?_⟩
   ·have h1:=@lV U 0;simp only[εq,bk,ζH,εy];repeat' refine γh ?_ ?_
    all_goals first|omega|exact l8 (by simp)|exact hU|exact hq|exact he|exact hlt|exact Aw|exact λj _=>Q8|(simp;done)|(rw[yc];omega)
   clear hlt hz e2 nA i0 i1 tw yf hw0 hs hs2 s0 s1 he hU DW hq AE;clear hw dw lw vw;clear w s i U q;rintro⟨i,s,U,q,r⟩ ⟨⟨i0,i1⟩,⟨⟨s0,s1⟩,hs,hs2⟩,⟨hU,DW⟩,⟨hq,AE⟩,he,hlt,⟨hr,hrl⟩,hz,hv⟩;simp only at i0 i1 s0 s1 hs hs2 hU DW hq AE he hlt hr hrl hz hv ⊢;obtain⟨dw,lw,vw,tw,yf⟩:=IZ db (by omega) (show s.toNat<=31 by omega) hs (by omega);generalize hw:bJ (shl T s.toNat)=w at*;refine⟨λlW=>?_,λnA=>?_⟩
   ·have x0:=ei hU i.toNat;have x1:=ei hU (i.toNat+1);have e1:(i+1).toNat=i.toNat+1:=by omega
    have x2:=ei hr i.toNat;have hps:(0:Int)<2^s.toNat:=δL (by decide);have y0:0<=bj U i.toNat 0 / 2^s.toNat:=δZ x0.1 (γe hps);have y1:bj U i.toNat 0 / 2^s.toNat<=bj U i.toNat 0:=Int.ediv_le_self _ x0.1;have e2:((32 - s) % 18446744073709551616).toNat=32 - s.toNat:=by omega
    have e3:(r.set i.toNat (bj U i.toNat 0 / 2^s.toNat)).set i.toNat=r.set i.toNat:=by funext z;rw[List.set_set]
    simp only[e1,e2,e3,sS (show i.toNat<r.length by omega),Φ];repeat refine γh (by omega) ?_
    refine⟨λhs0=>?_,λhs0=>?_⟩
    ·obtain⟨d,hd1,hd2,hd3⟩:=abv (s:=s.toNat) x0.1 x0.2 x1.1 x1.2 (by omega) (by omega);obtain⟨k1,k2,k3,k4⟩:=Ri hU hr (show i.toNat<r.length by omega) hz hd2 hd3 hv;rw[hd1];repeat' refine γh ?_ ?_
     all_goals first|omega|exact l8 (by simp)|exact hU|exact hq|exact k1|exact k3|exact k4|exact he|exact hlt|trivial
    ·have abE:s.toNat=0:=by omega
     obtain⟨k1,k2,k3,k4⟩:=Ri (s:=s.toNat) (d:=bj U i.toNat 0 / 2^s.toNat) hU hr (show i.toNat<r.length by omega) hz ⟨y0,by omega⟩ (by rw[abE];simp) hv;repeat' refine γh ?_ ?_
     all_goals first|omega|exact l8 (by simp)|exact hU|exact hq|exact k1|exact k3|exact k4|exact he|exact hlt|trivial
   ·have hi:i.toNat=w.length:=by omega
    rw[hi] at hv;obtain⟨w1,w2⟩:=abw hU hr dw rfl hlt vw b0 he (show s.toNat<=31 by omega) (by omega) hv;rw[qD hq,qD hr,w1,w2];repeat' refine γh ?_ ?_
    all_goals first|omega|rfl|trivial
theorem I0 {a b:List Int} (d:bA a) (c:bA b) (f:fS a) (h:bk a<=bk b):a.length<=b.length:=by
 by_cases e:a.length<=b.length;·exact e
 ·have:=xX c d f (by omega);omega
def DX:bM:=⟨171,List Int×List Int,.cons (dM (.i .u32)) (.one (dM (.i .u32))),λa=>(bA a.1/\bA a.2)/\(a.1.length<=1000000000/\a.2.length<=1000000000),
 λa=> .row (.i .u32) (cM (eC (bk a.1) (bk a.2)))⟩
def abG (a:List Int×List Int):Nat->cF
 |2=> .inv (List Int×List Int) (λx=>⟨[(0,.row (.i .u32) x.1),(1,.row (.i .u32) x.2)],[]⟩) (λs=>(rS (.i .u32) s 0,rS (.i .u32) s 1))
  (λx=>(bA x.1/\bA x.2)/\(fS x.1/\fS x.2)/\(x.1.length<=1000000000/\x.2.length<=1000000000)/\eC (bk x.1) (bk x.2)=eC (bk a.1) (bk a.2)) (λx=>(bk x.2).toNat) λ_ _=> .look
 |_=> .look
theorem h165g:Holds Tryz.prog DX:=by
 refine cH (L:=[Aj,DV]) DX abG (by grind[h154,h166g]) ?_;rintro⟨a,b⟩ ⟨⟨l,k⟩,⟨n,m⟩⟩;simp only at l k n m;refine bR (let h:=Ω;let c:=bp.i .u32;let f:=cM (bk a+bk []);let e:=cM (bk b+bk []);let g:=eC (bk a) (bk b);((bA a/\bA [])/\a.length<=100000000000/\0<=100000000000)/\((bA b/\bA [])/\b.length<=100000000000/\0<=100000000000)/\((((h c f).same (h c f)/\(h c e).same (h c e)/\True)/\True)/\(bA f/\bA e)/\(fS f/\fS e)/\(f.length<=1000000000/\e.length<=1000000000)/\eC (bk f) (bk e)=g)/\∀(x:List Int×List Int),let v:=decide ((0:Int)<(↑x.snd.length:Int));let d:=cM (bk x.fst % bk x.snd);(bA x.fst/\bA x.snd)/\(fS x.fst/\fS x.snd)/\(x.fst.length<=1000000000/\x.snd.length<=1000000000)/\eC (bk x.fst) (bk x.snd)=g->(v=true->((bA x.fst/\bA x.snd)/\(x.fst.length<=10000000000/\x.snd.length<=10000000000)/\(0:Int)<bk x.snd)/\(false=true->(h c x.fst).same (h c (cM g)))/\(false=false->(((h c x.snd).same (h c x.snd)/\(h c d).same (h c d)/\True)/\True)/\((bA x.snd/\bA d)/\(fS x.snd/\fS d)/\(x.snd.length<=1000000000/\d.length<=1000000000)/\eC (bk x.snd) (bk d)=g)/\(bk d).toNat<(bk x.snd).toNat))/\(v=false->(h c x.fst).same (h c (cM g)))) (by kernel_rfl) ?_;simp only[vcs];have r:bA []:=by simp[bA]
 have N:=fp l;have E:=fp k;have z:bk []=0:=rfl;rw[z,εi,εi];obtain⟨Q,y,D⟩:=gl N;obtain⟨o,w,H⟩:=gl E;have p:(cM (bk a)).length<=1000000000:=by
  rw[<-qD l];grind[uo]
 have j:(cM (bk b)).length<=1000000000:=by
  rw[<-qD k];grind[uo]
 refine⟨⟨⟨l,r⟩,by omega,by omega⟩,⟨⟨k,r⟩,by omega,by omega⟩,⟨⟨y,w⟩,⟨D,H⟩,⟨p,j⟩,by rw[Q,o]⟩,?_⟩;rintro⟨s,t⟩ ⟨⟨u,q⟩,⟨J,C⟩,⟨O,G⟩,F⟩;simp only at u q J C G O F ⊢;have T:=fp u;have U:=fp q;refine⟨λB=>?_,λB=>?_⟩
 ·have h:0<bk t:=by
   grind[val_zero]
  have K:=δx (bk s) (show bk t≠0 by omega);have A:=δh (bk s) h;obtain⟨I,M,S⟩:=gl K;have P:=I0 M q S (by rw[I];omega);grind[abk]
 ·have R:t=[]:=τ (by omega);grind[abl,Ai]
def pR (q:Rat):SV:=.agg (encS sF (bu q))
def cC (x:bL):Prop:=∃q k,x=bu q/\Sz k q/\k<=100000000
def fU (s:Bool) (n d:Int):Rat:=mkRat (if s then -n else n) d.toNat
def DY:bM:=⟨137,Int,.one (eA .i64),λn=> -9223372036854775808<=(show Int from n)/\(show Int from n)<=9223372036854775807,λn=> .row (.i .u32) (cM ((show Int from n).natAbs:Int))⟩
theorem h127:Holds Tryz.prog DY:=by
 refine cH (L:=[ye]) DY lk (by grind[h128]) ?_;intro(n:Int) h;obtain⟨e,f⟩: -9223372036854775808<=n/\n<=9223372036854775807:=h;refine bR (let e:=(18446744073709551616:Int);let f:=(1:Int);let g:=(0:Int);let h:=Ω;let d:=decide (n<g);let a:=(-(n+f)+f) % e;let b:=bp.i .u32;let c:=h b (cM (↑n.natAbs:Int));(d=true->cu .i64 (n+f)/\cu .i64 (-(n+f))/\cu .u64 (-(n+f))/\(g<=a/\a<e)/\(h b (cM a)).same c)/\(d=false->cu .u64 n/\(g<=n/\n<e)/\(h b (cM n)).same c)) (by kernel_rfl) ?_;simp only[vcs];grind[u64_in]
def AG:bM:=⟨167,Bool×(List Int×List Int),.cons PI (.cons (dM (.i .u32)) (.one (dM (.i .u32)))),λa=>(bA a.2.1/\bA a.2.2)/\(a.2.1.length<=1000000000/\a.2.2.length<=1000000000)/\0<bk a.2.2,
 λa=> .bI [pR (fU a.1 (bk a.2.1) (bk a.2.2)),.si .i64 0]⟩
theorem h151:Holds Tryz.prog AG:=by
 refine cH (L:=[DX,DV]) AG lk (by grind[h165g,h166g]) ?_;rintro⟨s,n,d⟩ ⟨⟨c,f⟩,⟨t,p⟩,j⟩;simp only at c f t p j;refine bR (let b:=SV.bl false;let c:=γy .i64;let e:=Ω;let f:=(0:Int);let g:=γN;let h:=SV.bI;let k:=e (bp.i .i64) [];let w:=bu (fU s (bk n) (bk d));let l:=bp.i .u32;let y:=h [g [γw w.fst,e l w.snd.fst,e l w.snd.snd],γi .i64 0];let a:=cM (eC (bk n) (bk d));let C:=cM (bk n / bk a);let B:=decide ((↑d.length:Int)=f);let F:=false=true->(h [g [b,k,k],c 8]).same y;let E:=λ(u:Bool) (v:SV) ↦s=u->(h [g [v,e l C,e l (cM (bk d / bk a))],c 0]).same y;(B=true->(h [g [b,k,k],c 8]).same y)/\(B=false->((bA n/\bA d)/\n.length<=1000000000/\d.length<=1000000000)/\((bA n/\bA a)/\(n.length<=10000000000/\a.length<=10000000000)/\f<bk a)/\((bA d/\bA a)/\(d.length<=10000000000/\a.length<=10000000000)/\f<bk a)/\F/\(false=false->F/\(false=false->E true (γw (decide (f<(↑C.length:Int))))/\E false (b))))) (by kernel_rfl) ?_;simp only[vcs];have D:=fp c;have b:0<eC (bk n) (bk d):=by
  simp_all[eC]
 have K:eC (bk n) (bk d)<=bk d:=by
  unfold eC;have:=Nat.gcd_le_right (bk n).toNat (show 0<(bk d).toNat by omega);omega
 have o:eC (bk n) (bk d)∣bk n:=by
  unfold eC;have:=ζ3 (bk n).toNat (bk d).toNat;have S:=Int.natCast_dvd_natCast.2 this;grind
 obtain⟨R,q,Q⟩:=gl (γe b);have I:=I0 q (sP f) Q (by grind[rG]);have P:=@uo d;have A:0<=bk n / eC (bk n) (bk d):=δZ D (γe b);obtain⟨N,H,M⟩:=gl A;have G:(0<((cM (bk n / eC (bk n) (bk d))).length:Int))↔0<bk n:=by
  obtain⟨m,e⟩:=o;have r:bk n / eC (bk n) (bk d)=m:=by
   conv=>lhs;arg 1;rw[e]
   rw[ζq _ (by omega)]
  rw[r] at N H M ⊢;have z:0<bk n↔0<m:=by
   generalize eC (bk n) (bk d)=g at*;rw[e];constructor;·grind
   ·intro h;exact εA b h
  rw[z];constructor
  ·intro h;by_cases e:m=0;·rw[e] at h;exact absurd h (by decide)
   ·omega
  ·intro h;by_cases T:(cM m).length=0<;>grind[cM,bk]
 have O:d.length≠0:=by
  intro h;rw[τ h] at j;exact absurd j (by decide)
 unfold fU;rw[Rk D j,R];simp only;refine⟨λh=>absurd h (by omega),λ_=>⟨⟨⟨c,f⟩,by omega,by omega⟩,⟨⟨c,q⟩,by omega,b⟩,⟨⟨f,q⟩,by omega,b⟩,?_⟩⟩;have J:decide (0<((cM (bk n / eC (bk n) (bk d))).length:Int))=decide (0<bk n):=by
  simp_all
 refine⟨λh=>absurd h (by decide),λ_=>⟨λh=>absurd h (by decide),λ_=>⟨λx=>?_,λx=>?_⟩⟩⟩
 ·rw[x,J];rfl
 ·rw[x];rfl
def yg:bM:=⟨136,Bool×(List Int×List Int),.cons PI (.cons (dM (.i .u32)) (.one (dM (.i .u32)))),λa=>(bA a.2.1/\bA a.2.2)/\(a.2.1.length<=1000000000/\a.2.2.length<=1000000000)/\0<bk a.2.2,
 λa=>pR (fU a.1 (bk a.2.1) (bk a.2.2))⟩
theorem h126:Holds Tryz.prog yg:=by
 refine cH (L:=[AG]) yg lk (by grind[h151]) ?_;rintro⟨s,n,d⟩ ⟨⟨h,g⟩,⟨a,c⟩,f⟩;simp only at h g a c f;refine bR (let b:=bu (fU s (bk n) (bk d));let e:=γN [γw b.fst,Ω (bp.i .u32) b.snd.fst,Ω (bp.i .u32) b.snd.snd];((bA n/\bA d)/\(n.length<=1000000000/\d.length<=1000000000)/\(0:Int)<bk d)/\e.same e) (by kernel_rfl) ?_;simp_all[vcs]
def ox:bM:=⟨101,Int,.one (eA .i64),λn=> -9223372036854775808<=(show Int from n)/\(show Int from n)<=9223372036854775807,λn=>pR ((show Int from n):Rat)⟩
theorem h94:Holds Tryz.prog ox:=by
 refine cH (L:=[DY,ye,yg]) ox lk (by grind[h127,h128,h126]) ?_;intro(n:Int) h;obtain⟨o,p⟩: -9223372036854775808<=n/\n<=9223372036854775807:=h;refine bR (let e:=Ω;let g:=(1:Int);let h:=(0:Int);let c:=cM (↑n.natAbs:Int);let b:=cM g;let f:=bu (fU (decide (n<h)) (bk c) (bk b));let a:=bp.i .u32;let d:=bu (κ n);((-9223372036854775808:Int)<=n/\n<=(9223372036854775807:Int))/\(h<=g/\g<(18446744073709551616:Int))/\((bA c/\bA b)/\(c.length<=1000000000/\b.length<=1000000000)/\h<bk b)/\(γN [γw f.fst,e a f.snd.fst,e a f.snd.snd]).same (γN [γw d.fst,e a d.snd.fst,e a d.snd.snd])) (by kernel_rfl) ?_;conv=>zeta
 obtain⟨j,g,t⟩:=gl (show(0:Int)<=(n.natAbs:Int) by omega);obtain⟨l,m,s⟩:=gl (show(0:Int)<=1 by omega);have u:=mH (k:=2) (show(0:Int)<=(n.natAbs:Int) by omega) (by omega);have q:=mH (k:=1) (show(0:Int)<=1 by omega) (by decide);refine⟨⟨o,p⟩,⟨by omega,by omega⟩,⟨⟨g,m⟩,⟨by omega,by omega⟩,by omega⟩,?_⟩;have e:fU (decide (n<0)) (bk (cM (n.natAbs:Int))) (bk (cM 1))=κ n:=by
  rw[j,l];unfold fU;have r:(if decide (n<0)=true then -(n.natAbs:Int) else(n.natAbs:Int))=n:=by
   grind
  grind[Rat.mkRat_one]
 rw[e];rfl
def jL (q:Rat):Int:=if q<0 then -1 else if 0<q then 1 else 0
def sU:bM:=⟨142,bL,.one (eh sF),cC,λx=> .si .i64 (jL (bV x))⟩
theorem h99:Holds Tryz.prog sU:=by
 refine cH (L:=[]) sU lk (by simp) ?_;intro(x:bL) h;obtain⟨q,k,rfl,m,f⟩:cC x:=h;refine bR (let c:=γy .i64;let b:=decide ((↑(γc (bu q).snd.fst):Int)=(0:Int));let a:=γi .i64 (jL (bV (bu q)));(b=true->(c 0).same a)/\(b=false->((bu q).fst=true->(c (-1:Int)).same a)/\((bu q).fst=false->(c 1).same a))) (by kernel_rfl) ?_;simp only[vcs];rw[eD];have e:((bu q).2.1.length:Int)=0↔q.num=0:=by
  unfold bu;simp only;obtain⟨d,j,i⟩:=gl (show(0:Int)<=(q.num.natAbs:Int) by omega);constructor
  ·intro h;rw[τ (by omega:(cM (q.num.natAbs:Int)).length=0)] at d;grind[bk]
  ·intro h;rw[h];rfl
 have c:(bu q).1=decide (q<0):=rfl;have n:=@Rat.num_nonneg q;have l:q<0↔q.num<0:=by
  grind
 have g:0<q↔0<q.num:=by
  grind[Rat.num_eq_zero]
 rw[e,c];simp only[decide_eq_true_eq,decide_eq_false_iff_not];unfold jL;grind
def vZ (x:bL):Prop:=(bA x.2.1/\bA x.2.2)/\x.2.1.length<=100000000/\x.2.2.length<=100000000
def DZ:bM:=⟨139,bL×bL,.cons (eh sF) (.one (eh sF)),λa=>vZ a.1/\vZ a.2,λa=> .bI [.row (.i .u32) (cM (bk a.1.2.1*bk a.2.2.2)),.row (.i .u32) (cM (bk a.2.2.1*bk a.1.2.2))]⟩
theorem h131:Holds Tryz.prog DZ:=by
 refine cH (L:=[yd]) DZ lk (by grind[h153]) ?_;rintro⟨⟨s,n,d⟩,⟨o,b,a⟩⟩ ⟨⟨⟨e,j⟩,g,f⟩,⟨⟨k,h⟩,l,m⟩⟩;simp only at e j g f k h l m;refine bR (let c:=SV.bI [Ω (bp.i .u32) (cM (bk n*bk a)),Ω (bp.i .u32) (cM (bk b*bk d))];((bA n/\bA a)/\n.length<=100000000000/\a.length<=100000000000)/\((bA b/\bA d)/\b.length<=100000000000/\d.length<=100000000000)/\c.same c) (by kernel_rfl) ?_;simp only[vcs];grind
theorem D1 {p q:Rat} (h:p=q):(γN [.sb (bu p).1,.row (.i .u32) (bu p).2.1,.row (.i .u32) (bu p).2.2]).same (.agg [.sb (bu q).1,.row (.i .u32) (bu q).2.1,.row (.i .u32) (bu q).2.2]):=by subst h;rfl
theorem v7 (q:Rat):q.num=if decide (q<0) then -(q.num.natAbs:Int) else(q.num.natAbs:Int):=by
 have a:=@Rat.num_nonneg q;grind
theorem l9 (q:Rat):(bu q).1=decide (q<0)/\(bA (bu q).2.1/\fS (bu q).2.1/\bk (bu q).2.1=(q.num.natAbs:Int))/\(bA (bu q).2.2/\fS (bu q).2.2/\bk (bu q).2.2=(q.den:Int)):=by
 obtain⟨f,e,d⟩:=gl (show(0:Int)<=(q.num.natAbs:Int) by omega);obtain⟨b,c,a⟩:=gl (show(0:Int)<=(q.den:Int) by omega);exact⟨rfl,⟨e,d,f⟩,⟨c,a,b⟩⟩
theorem pn {q:Rat} {k:Nat} (h:Sz k q):(bu q).2.1.length<=k/\(bu q).2.2.length<=k:=
 ⟨mH (by omega) h.1,mH (by omega) h.2⟩
theorem abH (q:Rat):fU (!decide (q<0)) (q.num.natAbs:Int) (q.den:Int)= -q:=by
 unfold fU;have h:=v7 q;have e:(if(!decide (q<0))=true then -(q.num.natAbs:Int) else(q.num.natAbs:Int))= -q.num:=by
  grind
 grind[δV,Rat.neg_mkRat]
def yh:bM:=⟨145,bL,.one (eh sF),cC,λx=>pR (-(bV x))⟩
theorem h130:Holds Tryz.prog yh:=by
 refine cH (L:=[yg]) yh lk (by grind[h126]) ?_;intro(x:bL) h;obtain⟨q,k,rfl,f,g⟩:cC x:=h;refine bR (let f:=Ω;let c:=(bu q).snd.fst;let a:=(bu q).snd.snd;let d:=bu (fU (!(bu q).fst) (bk c) (bk a));let b:=bp.i .u32;let e:=(bu (-bV (bu q))).snd;((bA c/\bA a)/\(γc c<=1000000000/\γc a<=1000000000)/\(0:Int)<bk a)/\(γN [γw d.fst,f b d.snd.fst,f b d.snd.snd]).same (γN [γw (bu (-bV (bu q))).fst,f b e.fst,f b e.snd])) (by kernel_rfl) ?_;conv=>zeta
 obtain⟨s,⟨r,p,u⟩,⟨o,l,n⟩⟩:=l9 q;obtain⟨j,m⟩:=pn f;have t:=q.den_pos;grind[D1,eD,abH]
theorem qJ {a b:Int} {i j:Nat} (e:0<=a) (c:a<4294967296^i) (d:b<4294967296^j):a*b<4294967296^(i+j):=by
 rw[δ6];exact εH (Ξ (γe d) e) (γ2 c (pow_pos _))
theorem Rm {p q:Rat} {i j:Nat} (c:Sz i p) (b:Sz j q):∃X Y D:Int,bk (bu p).2.1*bk (bu q).2.2=X/\bk (bu q).2.1*bk (bu p).2.2=Y/\bk (bu p).2.2*bk (bu q).2.2=D/\0<=X/\0<=Y/\0<D/\
  (cM X).length<=i+j/\(cM Y).length<=i+j/\(cM (X+Y)).length<=i+j+1/\(cM (X - Y)).length<=i+j/\(cM (Y - X)).length<=i+j/\(cM D).length<=i+j/\p.num*q.den=(if decide (p<0) then -X else X)/\q.num*p.den=(if decide (q<0) then -Y else Y)/\((p.den*q.den:Nat):Int)=D:=by
 obtain⟨_,⟨_,_,l⟩,⟨_,_,r⟩⟩:=l9 p;obtain⟨_,⟨_,_,n⟩,⟨_,_,m⟩⟩:=l9 q;rw[l,r,n,m];have s:=p.den_pos;have t:=q.den_pos;have k:=qJ (a:=(p.num.natAbs:Int)) (by omega) c.1 b.2;have d:=qJ (a:=(q.num.natAbs:Int)) (by omega) b.1 c.2;rw[Nat.add_comm j i] at d;have o:=qJ (a:=(p.den:Int)) (by omega) c.2 b.2;have f:0<=(p.num.natAbs:Int)*q.den:=γu (by omega) (by omega);have e:0<=(q.num.natAbs:Int)*p.den:=γu (by omega) (by omega);have g:0<(p.den:Int)*q.den:=εA (by omega) (by omega);have v:=v7 p;have u:=v7 q;refine⟨_,_,_,rfl,rfl,rfl,f,e,g,mH f k,mH e d,mH (by omega) ?_,?_,?_,mH (by omega) o,?_,?_,by push_cast;rfl⟩;·omega
 ·by_cases h:(p.num.natAbs:Int)*q.den - (q.num.natAbs:Int)*p.den<=0;·grind[IU]
  ·exact mH (by omega) (by omega)
 ·by_cases h:(q.num.natAbs:Int)*p.den - (p.num.natAbs:Int)*q.den<=0;·grind[IU]
  ·exact mH (by omega) (by omega)
 all_goals grind
theorem abI {p q:Rat} {s:Bool} {n D:Int} (a:((p.den*q.den:Nat):Int)=D) (h:p.num*q.den+q.num*p.den=if s then -n else n):fU s n D=p+q:=by
 rw[Rl];grind[fU]
theorem D2 {p:Rat} {k:Nat} (h:Sz k p) (c:k<=100000000):vZ (bu p):=by
 obtain⟨_,⟨a,_,_⟩,⟨b,_,_⟩⟩:=l9 p;have:=pn h;exact⟨⟨a,b⟩,by omega,by omega⟩
def iP (p q:Rat):Int:=if p<q then -1 else if q<p then 1 else 0
def yi:bM:=⟨102,bL×bL,.cons (eh sF) (.one (eh sF)),λa=>cC a.1/\cC a.2,λa=> .si .i64 (iP (bV a.1) (bV a.2))⟩
theorem h97:Holds Tryz.prog yi:=by
 refine cH (L:=[DZ,xY]) yi lk (by grind[h131,h132]) ?_;rintro⟨x,y⟩ ⟨⟨p,i,t,w,S⟩,⟨q,j,r,o,T⟩⟩;simp only at t r;subst t r;refine bR (let a:=(bu p).fst;let g:=γi .i64 (iP (bV (bu p)) (bV (bu q)));let s:=λ(u:Bool) (c b:Rat) ↦let k:=cM (bk (bu c).snd.fst*bk (bu b).snd.snd);let l:=cM (bk (bu b).snd.fst*bk (bu c).snd.snd);a=u->((bA k/\bA l)/\k.length<=1000000000000/\l.length<=1000000000000)/\(γi .i64 (lX (bk k) (bk l))).same g;((!a==(bu q).fst)=true->(a=true->(γy .i64 (-1:Int)).same g)/\(a=false->(γy .i64 1).same g))/\((!a==(bu q).fst)=false->(vZ (a,(bu p).snd.fst,(bu p).snd.snd)/\vZ ((bu q).fst,(bu q).snd.fst,(bu q).snd.snd))/\s true q p/\s false p q)) (by kernel_rfl) ?_;conv=>zeta
 obtain⟨C,_,_⟩:=l9 p;obtain⟨P,_,_⟩:=l9 q;obtain⟨X,Y,D,E,M,hD,G,N,U,l1,l2,l3,l4,Z,V,B,A,W⟩:=Rm w o;obtain⟨J,v,c3⟩:=gl G;obtain⟨K,n,c6⟩:=gl N;simp only[eD,E,M,J,K,C,P];simp only[vcs];have hl:p<q↔p.num*q.den<q.num*p.den:=Rat.lt_iff p q;have R:q<p↔q.num*p.den<p.num*q.den:=Rat.lt_iff q p;have O:=@Rat.num_nonneg p;have H:=@Rat.num_nonneg q;have m:∀{z:Int},(z=if p.num*q.den<q.num*p.den then -1 else if q.num*p.den<p.num*q.den then 1 else 0)->z=iP p q:=λh=>by
  grind[iP]
 have Q:p<0->0<X:=λh=>by
  rw[if_pos (by simpa using h)] at B;have f:p.num<0:=by grind
  have:=εt f (show(0:Int)<q.den by grind);omega
 have F:q<0->0<Y:=λh=>by
  rw[if_pos (by simpa using h)] at A;have f:q.num<0:=by grind
  have:=εt f (show(0:Int)<p.den by grind);omega
 rw[B,A] at m;refine⟨λI=>⟨λd=>?_,λd=>?_⟩,λhe=>⟨⟨D2 w S,D2 o T⟩,λd=>⟨⟨⟨n,v⟩,by omega,by omega⟩,?_⟩,λd=>⟨⟨⟨v,n⟩,by omega,by omega⟩,?_⟩⟩⟩;·grind
 ·grind
 ·apply m;have e:q<0:=by
   grind
  simp only[decide_eq_true_eq,d,e,if_true,if_false];simp only[Int.neg_lt_neg_iff];rfl
 ·apply m;have e:¬q<0:=λe=>by grind
  simp only[decide_eq_true_eq,d,e,if_true,if_false];rfl
def v8:bM:=⟨134,bL×bL,.cons (eh sF) (.one (eh sF)),λa=>cC a.1/\cC a.2,λa=>pR (bV a.1+bV a.2)⟩
theorem h129:Holds Tryz.prog v8:=by
 refine cH (L:=[DZ,yd,Aj,IV,yg]) v8 lk (by grind[h131,h153,h154,h155,h126]) ?_;rintro⟨x,y⟩ ⟨⟨p,i,J,w,S⟩,⟨q,j,E,B,hj⟩⟩;simp only at J E;subst J E;refine bR (let h:=Ω;let j:=γN;let m:=(bu q).snd.snd;let f:=cM (bk (bu p).snd.fst*bk m);let t:=(bu p).snd.snd;let k:=cM (bk (bu q).snd.fst*bk t);let a:=cM (bk t*bk m);let g:=bp.i .u32;let z:=bu (bV (bu p)+bV (bu q));let o:=j [γw z.fst,h g z.snd.fst,h g z.snd.snd];let v:=(bu p).fst==(bu q).fst;let c:=cM (bk f+bk k);let d:=bu (fU (bu p).fst (bk c) (bk a));let I:=(bA f/\bA k)/\f.length<=100000000000/\k.length<=100000000000;let K:=λ(u r:Rat) ↦let e:=cM (bk (cM (bk (bu u).snd.fst*bk (bu r).snd.snd)) - bk (cM (bk (bu r).snd.fst*bk (bu u).snd.snd)));let b:=bu (fU (bu u).fst (bk e) (bk a));((bA e/\bA a)/\(e.length<=1000000000/\a.length<=1000000000)/\(0:Int)<bk a)/\(j [γw b.fst,h g b.snd.fst,h g b.snd.snd]).same o;let F:=λ(u:Bool) ↦decide (bk k<=bk f)=u;(vZ ((bu p).fst,(bu p).snd.fst,t)/\vZ ((bu q).fst,(bu q).snd.fst,m))/\((bA t/\bA m)/\γc t<=100000000000/\γc m<=100000000000)/\(v=true->I/\((bA c/\bA a)/\(c.length<=1000000000/\a.length<=1000000000)/\(0:Int)<bk a)/\(j [γw d.fst,h g d.snd.fst,h g d.snd.snd]).same o)/\(v=false->I/\(F true->K p q)/\(F false->((bA k/\bA f)/\k.length<=100000000000/\f.length<=100000000000)/\K q p))) (by kernel_rfl) ?_;conv=>zeta
 obtain⟨O,⟨u1,_,_⟩,⟨u2,_,_⟩⟩:=l9 p;obtain⟨W,⟨u3,_,_⟩,⟨P,_,_⟩⟩:=l9 q;obtain⟨m1,m2⟩:=pn w;obtain⟨m3,m4⟩:=pn B;obtain⟨X,Y,D,T,Q,hD,U,R,C,l1,l2,l3,l4,l5,l6,n1,n2,n3⟩:=Rm w B;obtain⟨N,H,c3⟩:=gl U;obtain⟨c4,G,c6⟩:=gl R;obtain⟨c7,V,c9⟩:=gl (γe C);obtain⟨s1,M,s3⟩:=gl (show 0<=X+Y by omega);simp only[eD,T,Q,hD,N,c4,c7,s1,O,W];simp only[vcs];have l:∀{s:Bool} {n:Int},(p.num*q.den+q.num*p.den=if s then -n else n)->(γN [.sb (bu (fU s n D)).1,.row (.i .u32) (bu (fU s n D)).2.1,.row (.i .u32) (bu (fU s n D)).2.2]).same (.agg [.sb (bu (p+q)).1,.row (.i .u32) (bu (p+q)).2.1,.row (.i .u32) (bu (p+q)).2.2]):=
  λh=>D1 (abI n3 h);rw[n1,n2] at l;refine⟨⟨D2 w S,D2 B hj⟩,⟨⟨u2,P⟩,by omega,by omega⟩,λZ=>⟨⟨⟨H,G⟩,by omega,by omega⟩,⟨⟨M,V⟩,⟨by omega,by omega⟩,C⟩,l ?_⟩,λZ=>⟨⟨⟨H,G⟩,by omega,by omega⟩,λA=>?_,λA=>?_⟩⟩;all_goals grind[gl]
def AH:bM:=⟨144,bL×bL,.cons (eh sF) (.one (eh sF)),λa=>cC a.1/\cC a.2,λa=>pR (bV a.1 - bV a.2)⟩
theorem h95:Holds Tryz.prog AH:=by
 refine cH (L:=[yh,v8]) AH lk (by grind[h130,h129]) ?_;rintro⟨x,y⟩ ⟨⟨p,i,k,m,n⟩,⟨q,j,g,l,o⟩⟩;simp only at k g;subst k g;refine bR (let g:=Ω;let b:=((bu q).fst,(bu q).snd.fst,(bu q).snd.snd);let e:=((bu p).fst,(bu p).snd.fst,(bu p).snd.snd);let h:=(bu (-bV b)).snd;let f:=((bu (-bV b)).fst,h.fst,h.snd);let d:=bu (bV e+bV f);let a:=bp.i .u32;let c:=bu (bV (bu p) - bV (bu q));cC b/\(cC e/\cC f)/\(γN [γw d.fst,g a d.snd.fst,g a d.snd.snd]).same (γN [γw c.fst,g a c.snd.fst,g a c.snd.snd])) (by kernel_rfl) ?_;grind[cC,AB,D1,eD]
theorem I1 {a:List Int} (h:bA a) (c:fS a) (b:a≠[]):0<bk a:=by
 have:=fp h;grind[val_zero]
def okF (x:bL):Bool:=decide (bu (bV x)=x)
theorem Rn {n d:Int} (h:0<d):0<eC n d:=by
 simp_all[eC]
theorem abJ {s:Bool} {n d:List Int} (h:okF (s,(n,d))=true):fS n/\fS d/\d≠[]:=by
 have h:=of_decide_eq_true h;have b:=gl (show(0:Int)<=((bV (s,(n,d))).num.natAbs:Int) by omega);have a:=gl (show(0:Int)<=((bV (s,(n,d))).den:Int) by omega);have e:cM ((bV (s,(n,d))).num.natAbs:Int)=n:=congrArg (λx=>x.2.1) h;have c:cM ((bV (s,(n,d))).den:Int)=d:=congrArg (λx=>x.2.2) h;rw[e] at b;rw[c] at a;refine⟨b.2.2,a.2.2,λf=>?_⟩;have g:=a.1;rw[f] at g;have:=(bV (s,(n,d))).den_pos;grind[bk]
theorem okF_eq {s:Bool} {n d:List Int} (e:bA n) (m:bA d) (l:fS n) (p:fS d) (b:d≠[]):
  okF (s,(n,d))=if n=[] then !s&&decide (d=[1]) else decide (eC (bk n) (bk d)=1):=by
 have c:=I1 m p b;have r:=fp e;have j:bV (s,(n,d))=mkRat (if s then -bk n else bk n) (bk d).toNat:=rfl;have o:=@Rk s (bk n) (bk d) r c;have u:=@Rn (bk n) (bk d) c;unfold okF;rw[j,o];by_cases a:n=[]
 ·rw[if_pos a,a];have i:eC (bk []) (bk d)=bk d:=by unfold eC;simp[bk];omega
  have k:cM (bk d / eC (bk []) (bk d))=[1]:=by rw[i,Int.ediv_self (by omega)];rfl
  have f:cM (bk [] / eC (bk []) (bk d))=[]:=by
   have:bk []=0:=rfl;rw[this,Int.zero_ediv];rfl
  rw[k,f];have v:decide (0<bk [])=false:=rfl;grind
 ·rw[if_neg a];have q:=I1 e l a;rw[decide_eq_true (show 0<bk n from q),Bool.and_true];rw[ζ6,decide_eq_true_eq,decide_eq_true_eq];constructor
  ·intro h;injection h with h1 h2;injection h2 with h2 h3;have g:=(gl (show 0<=bk d / eC (bk n) (bk d) from δZ (by omega) (by omega))).1;rw[h3] at g;by_cases t:eC (bk n) (bk d)=1;·exact t
   ·have:=Int.ediv_lt_self_of_pos_of_ne_one c (by omega:eC (bk n) (bk d)≠1);omega
  grind[Ai]
end Go.Vi
