/-
  Contracts: natural numbers of any size: digit.
  Conditions: none.
-/
import Derived.Test.YtlphnffeeefcdaaGreatWD06
import Derived.Test.YtlphnffeeefcdaaGreatWD07
set_option maxRecDepth 100000
set_option maxHeartbeats 4000000
set_option linter.all false
open And renaming intro->γi
open BitVec renaming ofInt->γr
open Go.Vi.AV.os renaming injEq->εF
open Go.Vi.AV.sc renaming injEq->γ9
open Go.Vi.SV renaming row->Θ,si->γe,il->γx,ow->γS,ptr->γP
open Int renaming mul_ediv_add_emod->εf,emod_nonneg->δj,emod_lt_of_pos->γZ,ediv_nonneg->δY,mul_le_mul_of_nonneg_left->Γ,mul_comm->δ0,mul_nonneg->γv,mul_le_mul->δI,sub_mul->ζC,one_mul->εr,pow_succ->γM,mul_assoc->δk,mul_add->εq,mul_sub->εG,mul_zero->δJ,add_zero->εh,mul_one->εQ,mul_lt_mul_of_pos_right->γY,sub_zero->ε2,emod_eq_of_lt->δo,pow_add->δ6,lt_of_le_of_lt->εA,le_of_lt->γj,eq_ofNat_of_zero_le->δG,pow_pos->δL,mul_emod_mul_of_pos->ζk,lt_of_mul_lt_mul_left->εm,lt_of_lt_of_le->εz,mul_le_mul_of_nonneg_right->γN,ediv_lt_of_lt_mul->εM,natAbs_mul->εn,natAbs_natCast->ε3
open List renaming map_cons->ξ,map_nil->γs,length->γf,take->ω,length_take->γq,take_length->π,length_set->τ,replicate->δ,append_assoc->γK,take_append_drop->γH,pairwise_append->δE,cons_append->γy,drop->γ4,mem_of_mem_drop->γO,mem_of_mem_take->γd,nil_append->δp,drop_drop->δi,Pairwise->ζj,replicate_succ->δl,getElem?_replicate->δ1,eq_of_mem_replicate->δZ
open List.Perm renaming refl->ζA
open List.cons renaming injEq->Δ
open Nat renaming min_eq_left->εg,le_refl->φ,pow_le_pow_right->δq,add_sub_cancel->ζH
open Option.some renaming injEq->γ
open Prod renaming ext->εx
open Rat renaming mkRat_self->δT,normalize_eq_mkRat->ζp
namespace Go.Vi
open Go.Proofs.YtlphnffeeefcdaaGreat.Ir
open Go.Proofs
structure nj where
 U:List Int
 j:Nat
 len:Nat
 n:Nat
 v:List Int
def nj.x (a:nj):Int:=bk (prt a.U a.j (a.v.length+1))
def nj.ok (a:nj):Prop:=(bz a.U/\bz a.v)/\(a.len=a.v.length+1/\a.n=a.U.length)/\(2<=a.v.length/\a.j+a.v.length+1<=a.U.length/\a.U.length<=200000000000)/\
 2147483648<=bj a.v (a.v.length - 1) 0/\a.x<4294967296*bk a.v
def nj.row (a:nj):List Int:=ji a.U a.j (iw (a.v.length+1) (a.x % bk a.v))
def Is:dF where
 f:=188;α:=nj;put a:=[.oc 0 a.j a.len a.n 1,.row (.i .u32) a.v];st a:=[.row (.i .u32) a.U 187 false];dec v o:=match v,o with
  |[.oc 0 j len n 1,v],[.row t l 187 false]=>match jf (.i .u32) v,iJ t (.i .u32) l with
   |some v,some l=>some ⟨l,j,len,n,v⟩
   |_,_=>none
  |_,_=>none;ok v o a h:=by
  split at h
  ·split at h
   ·rename_i h1 h2;simp only[γ] at h;subst h;obtain⟨rfl,hh⟩:=mR h2;cases hh;exact⟨by simp only[gL,oL h1],rfl⟩
   ·cases h
  ·cases h
 inj a b h1 h2:=by
  obtain⟨U,j,len,n,v⟩:=a;obtain⟨U',j',len',n',v'⟩:=b;simp only[gL,Δ,and_true] at h1;obtain⟨g1,g2⟩:=h1;have e2:=(dM (.i .u32)).inj _ _ g2;simp only[SV.g,εF,true_and,bp.sz,Nat.mul_one] at g1;simp only[gO,ξ,γs,bq.g,Δ,bR.cells.injEq,and_true] at h2;have hl:U=U':=by
   have hf:=congrArg γf h2;rw[fi,fi] at hf;exact lM (.i .u32) (by simpa[bp.sz] using hf) h2
  obtain⟨q1,q2,q3⟩:=g1;subst q3;have:j=j':=by omega
  rw[e2,hl,q2,this]
 dom:=nj.ok;res a:=.si .u32 (a.x / bk a.v);out a:=[.row (.i .u32) a.row 187 false]
def Iu (U:List Int):bZ:=[.row (.i .u32) U 187 false]
def aak (a:nj):Nat->cC
 |4=> .inv (Int×Int) (λx=>⟨[(0,.oc 0 a.j a.len a.n 1),(1,.row (.i .u32) a.v),(5,.si .i64 a.v.length),(7,.si .u64 x.1),(8,.si .u64 x.2)],Iu a.U⟩) (λs=>(iS s 7,iS s 8))
  (λx=>(0<=x.1/\x.1<=4294967297)/\(0<=x.2/\x.2<4294967296)/\x.1*bj a.v (a.v.length - 1) 0+x.2=bj a.U (a.j+(a.v.length - 1)) 0+4294967296*bj a.U (a.j+a.v.length) 0/\a.x<(x.1+1)*bk a.v) (λx=>x.1.toNat) λ_ _=> .look
 |10=> .inv (Int×Int×Int×Int×List Int) (λx=>⟨[(0,.oc 0 a.j a.len a.n 1),(1,.row (.i .u32) a.v),(5,.si .i64 a.v.length),(7,.si .u64 x.2.1),(9,.si .u64 x.2.2.1),(10,.si .u64 x.2.2.2.1),(82,.si .i64 a.v.length),(83,.si .i64 x.1)],Iu x.2.2.2.2⟩)
  (λs=>(iS s 83,iS s 7,iS s 9,iS s 10,oS (.i .u32) s 0))
  (λx=>(0<=x.1/\x.1<=a.v.length)/\(0<=x.2.1/\x.2.1<4294967296)/\(a.x<(x.2.1+1)*bk a.v/\x.2.1*bk a.v<a.x+bk a.v)/\(0<=x.2.2.1/\x.2.2.1<4294967296)/\(0<=x.2.2.2.1/\x.2.2.2.1<=1)/\(bz x.2.2.2.2/\x.2.2.2.2.length=a.U.length)/\
   (∀m,(m<a.j\/a.j+x.1.toNat<=m)->bj x.2.2.2.2 m 0=bj a.U m 0)/\
   bk (prt x.2.2.2.2 a.j x.1.toNat)=bk (prt a.U a.j x.1.toNat) - x.2.1*bk (a.v.take x.1.toNat)+4294967296^x.1.toNat*(x.2.2.1+x.2.2.2.1)) (λx=>(a.v.length - x.1).toNat) λ_ _=> .look
 |23=> .inv (Int×Int×Int×List Int) (λx=>⟨[(0,.oc 0 a.j a.len a.n 1),(1,.row (.i .u32) a.v),(5,.si .i64 a.v.length),(7,.si .u64 x.2.1),(9,.si .u64 x.2.2.1),(134,.si .i64 a.v.length),(135,.si .i64 x.1)],Iu x.2.2.2⟩)
  (λs=>(iS s 135,iS s 7,iS s 9,oS (.i .u32) s 0))
  (λx=>(0<=x.1/\x.1<=a.v.length)/\(0<=x.2.1/\x.2.1<4294967296)/\(a.x<x.2.1*bk a.v/\x.2.1*bk a.v<a.x+bk a.v)/\(0<=x.2.2.1/\x.2.2.1<=1)/\(bz x.2.2.2/\x.2.2.2.length=a.U.length)/\
   ∃W,(bz W/\W.length=a.U.length)/\(∀m,(m<a.j\/a.j+(a.v.length+1)<=m)->bj W m 0=bj a.U m 0)/\bk (prt W a.j (a.v.length+1))=a.x - x.2.1*bk a.v+4294967296^(a.v.length+1)/\
    (∀m,(m<a.j\/a.j+x.1.toNat<=m)->bj x.2.2.2 m 0=bj W m 0)/\bk (prt x.2.2.2 a.j x.1.toNat)+4294967296^x.1.toNat*x.2.2.1=bk (prt W a.j x.1.toNat)+bk (a.v.take x.1.toNat))
  (λx=>(a.v.length - x.1).toNat) λ_ _=> .look
 |_=> .look
theorem h169:dZ Tryz.prog Is:=by
 refine lp (L:=[]) (W:=[]) Is aak (by simp) (by simp) ?_;rintro⟨U,j,len,n,v⟩ ⟨⟨hU,hv⟩,⟨e1,e2⟩,⟨hn,hj,hlU⟩,hv1,hx⟩;simp only at hU hv hn hj hlU hv1 hx e1 e2;subst e1 e2;refine bO (let a:=(18446744073709551616:Int);let b:=(0:Int);let c:=(4294967296:Int);let d:=(1:Int);let e:=Θ;let f:=γe .i64;let g:=(32:Int);let h:=cn .i64;let k:=(9223372036854775808:Int);let l:=(4294967297:Int);let n:=(64:Int);let o:=bq.row;let p:=γx .i64 0;let q:=(63:Int);let r:=γx .i64;let D:=(↑v.length:Int);let y:=v.length+1;let F:=(↑y:Int);let B:=D - d;let Q:=bj v B.toNat b % a;let a7:=gY.nK .u64 (bj U (j+D.toNat) 0 % a*c % a) (bj U (j+B.toNat) 0 % a);let K:=a7.tdiv Q;let C:=SV.oc 0 j y U.length 1;let w:=bp.i .u32;let s:=(↑v.length:Int);let t:=f s;let a8:=γe .u64 K;let R:=a7.tmod Q;let a9:=γe .u64 R;let J:=o w U 187 false;let aa:=v.length - 1;let a3:=bj v aa b;let a4:=bj U (j+aa) 0+c*bj U (j+v.length) 0;let ab:=nj.mk U j y U.length v;let E:=ab.x;let L:=s - d;let aJ:=bj v L.toNat b % a;let M:=E+bk v;let S:=bk (prt U j 0);let I:=j+s.toNat;let ac:=γe .u32 (E / bk v);let ad:=o w ab.row 187 false;let ae:=c^y;let H:=s - (2:Int);U.length=U.length/\b<=D/\D<F/\j+y<=U.length/\U.length=U.length/\j+D.toNat<U.length/\b<=g/\g<=n/\h B/\U.length=U.length/\b<=B/\B<F/\j+y<=U.length/\U.length=U.length/\j+B.toNat<U.length/\h B/\b<=B/\B<D/\B.toNat<v.length/\Q≠b/\cn .u64 K/\h B/\b<=B/\B<D/\B.toNat<v.length/\Q≠b/\(((C.same C/\(e w v).same (e w v)/\(f D).same t/\a8.same a8/\a9.same a9/\True)/\J.same J/\True)/\(b<=K/\K<=l)/\(b<=R/\R<c)/\K*a3+R=a4/\E<(K+d)*bk v)/\∀(x:Int×Int),let N:=(x.snd+aJ) % a;let af:=decide (c<=N);let G:=(x.fst - d) % a;let T:=γe .u64 G;let ag:=γe .u64 N;let ah:=decide (c<=x.fst);let ai:=γe .u64 x.fst;let aj:=∀(x:Int×Int×Int×Int×List Int),let V:=x.snd.fst*bk v;let z:=x.snd.snd.snd.snd;let X:=x.snd.snd.snd.fst;let Y:=x.snd.snd.fst;let ak:=((bj z I b % a - Y) % a - X) % a;let O:=j+x.fst.toNat;let Z:=x.fst+d;let a0:=γe .u64 x.snd.fst;let al:=(x.snd.fst*(bj v x.fst.toNat b % a) % a+Y) % a;let am:=al / c;let an:=γe .u64 am;let ao:=gY.vd .u64 al (4294967295:Int);let ap:=((bj z O b % a - ao) % a - X) % a;let aq:=ap / k;let ar:=γe .u64 aq;let au:=f Z;let P:=z.set I (ak % c);let av:=λ(u u_1 u_2:Int) (u_3:List Int) ↦(b<=u/\u<=s)/\(b<=x.snd.fst/\x.snd.fst<c)/\(E<(x.snd.fst+d)*bk v/\V<M)/\(b<=u_1/\u_1<c)/\(b<=u_2/\u_2<=d)/\(bz u_3/\u_3.length=U.length)/\(∀(m:Nat),m<j\/j+u.toNat<=m->bj u_3 m b=bj U m b)/\bk (prt u_3 j u.toNat)=bk (prt U j u.toNat) - x.snd.fst*bk (ω u.toNat v)+c^u.toNat*(u_1+u_2);let aw:=λ(u:Nat) (u_1:Int) ↦let ax:=o w (z.set u (((bj z u b % a - u_1) % a - X) % a % c)) 187 false;ax.same ax/\True;let ay:=λ(u:Bool) ↦decide (ak / k=b)=u;av x.fst Y X z->(decide (x.fst<s)=true->b<=x.fst/\x.fst<D/\x.fst.toNat<v.length/\b<=g/\g<=n/\U.length=z.length/\b<=x.fst/\x.fst<F/\j+y<=U.length/\U.length=z.length/\O<z.length/\b<=q/\q<=n/\U.length=z.length/\b<=x.fst/\x.fst<F/\j+y<=U.length/\U.length=z.length/\O<z.length/\h Z/\((C.same C/\(e w v).same (e w v)/\t.same t/\a0.same a0/\an.same an/\ar.same ar/\t.same t/\au.same au/\True)/\aw O ao)/\av Z am aq (z.set O (ap % c))/\(s - Z).toNat<(s - x.fst).toNat)/\(decide (x.fst<s)=false->U.length=z.length/\b<=s/\s<F/\j+y<=U.length/\U.length=z.length/\I<z.length/\U.length=z.length/\b<=s/\s<F/\j+y<=U.length/\U.length=z.length/\I<z.length/\b<=q/\q<=n/\(ay true->(γe .u32 (x.snd.fst % c)).same ac/\(o w P 187 false).same ad/\True)/\(ay false->(((C.same C/\(e w v).same (e w v)/\t.same t/\a0.same a0/\(γx .u64 0).same (γe .u64 0)/\t.same t/\(p).same (f 0)/\True)/\aw I Y)/\(b<=b/\b<=s)/\(b<=x.snd.fst/\x.snd.fst<c)/\(E<V/\V<M)/\(b<=b/\b<=d)/\(bz P/\P.length=U.length)/\∃(W:List Int),(bz W/\W.length=U.length)/\(∀(m:Nat),m<j\/j+y<=m->bj W m b=bj U m b)/\bk (prt W j y)=E - V+ae/\(∀(m:Nat),m<j\/j+0<=m->bj P m b=bj W m b)/\bk (prt P j 0)+b=bk (prt W j 0)+bk [])/\∀(x:Int×Int×Int×List Int),let a5:=x.snd.fst*bk v;let a6:=x.snd.snd.fst;let A:=x.snd.snd.snd;let a1:=j+x.fst.toNat;let a2:=x.fst+d;let az:=γe .u64 x.snd.fst;let aA:=((bj A a1 b % a+bj v x.fst.toNat b % a) % a+a6) % a;let aB:=aA / c;let aC:=γe .u64 aB;let aD:=f a2;let aE:=A.set a1 (aA % c);let aF:=o w aE 187 false;let aG:=λ(u u_1:Int) (u_2:List Int) ↦(b<=u/\u<=s)/\(b<=x.snd.fst/\x.snd.fst<c)/\(E<a5/\a5<M)/\(b<=u_1/\u_1<=d)/\(bz u_2/\u_2.length=U.length)/\∃(W:List Int),(bz W/\W.length=U.length)/\(∀(m:Nat),m<j\/j+y<=m->bj W m b=bj U m b)/\bk (prt W j y)=E - a5+ae/\(∀(m:Nat),m<j\/j+u.toNat<=m->bj u_2 m b=bj W m b)/\bk (prt u_2 j u.toNat)+c^u.toNat*u_1=bk (prt W j u.toNat)+bk (ω u.toNat v);aG x.fst a6 A->(decide (x.fst<s)=true->U.length=A.length/\b<=x.fst/\x.fst<F/\j+y<=U.length/\U.length=A.length/\a1<A.length/\b<=x.fst/\x.fst<D/\x.fst.toNat<v.length/\b<=g/\g<=n/\U.length=A.length/\b<=x.fst/\x.fst<F/\j+y<=U.length/\U.length=A.length/\a1<A.length/\h a2/\((C.same C/\(e w v).same (e w v)/\t.same t/\az.same az/\aC.same aC/\t.same t/\aD.same aD/\True)/\aF.same aF/\True)/\aG a2 aB aE/\(s - a2).toNat<(s - x.fst).toNat)/\(decide (x.fst<s)=false->U.length=A.length/\b<=s/\s<F/\j+y<=U.length/\U.length=A.length/\I<A.length/\U.length=A.length/\b<=s/\s<F/\j+y<=U.length/\U.length=A.length/\I<A.length/\(γe .u32 ((x.snd.fst - d) % a % c)).same ac/\(o w (A.set I ((bj A I b+a6 % c) % c)) 187 false).same ad/\True)));let aH:=h L/\b<=L/\L<D/\L.toNat<v.length/\(af=true->(((C.same C/\(e w v).same (e w v)/\t.same t/\T.same T/\(γx .u64 0).same (γe .u64 0)/\(γx .u64 0).same (γe .u64 0)/\t.same t/\(p).same (f 0)/\True)/\J.same J/\True)/\(b<=b/\b<=s)/\(b<=G/\G<c)/\(E<(G+d)*bk v/\G*bk v<M)/\(b<=b/\b<c)/\(b<=b/\b<=d)/\(bz U/\U.length=U.length)/\(∀(m:Nat),m<j\/j+0<=m->bj U m b=bj U m b)/\S=S - G*bk []+b)/\aj)/\(af=false->((C.same C/\(e w v).same (e w v)/\t.same t/\T.same T/\ag.same ag/\True)/\J.same J/\True)/\((b<=G/\G<=l)/\(b<=N/\N<c)/\G*a3+N=a4/\E<(G+d)*bk v)/\G.toNat<x.fst.toNat);let aI:=λ(u:Bool) ↦decide (gY.nK .u64 (x.snd*c % a) (bj U (j+H.toNat) 0 % a)<x.fst*(bj v H.toNat b % a) % a)=u;(b<=x.fst/\x.fst<=l)/\(b<=x.snd/\x.snd<c)/\x.fst*a3+x.snd=a4/\E<(x.fst+d)*bk v->(ah=true->aH)/\(ah=false->h H/\b<=H/\H<D/\H.toNat<v.length/\b<=g/\g<=n/\h H/\U.length=U.length/\b<=H/\H<F/\j+y<=U.length/\U.length=U.length/\j+H.toNat<U.length/\(aI true->aH)/\(aI false->(((C.same C/\(e w v).same (e w v)/\t.same t/\ai.same ai/\(γx .u64 0).same (γe .u64 0)/\(γx .u64 0).same (γe .u64 0)/\t.same t/\(p).same (f 0)/\True)/\J.same J/\True)/\(b<=b/\b<=s)/\(b<=x.fst/\x.fst<c)/\(E<(x.fst+d)*bk v/\x.fst*bk v<M)/\(b<=b/\b<c)/\(b<=b/\b<=d)/\(bz U/\U.length=U.length)/\(∀(m:Nat),m<j\/j+0<=m->bj U m b=bj U m b)/\S=S - x.fst*bk []+b)/\aj))) (by kernel_rfl) ?_;simp only[vcs];have t1:((v.length:Int) - 1).toNat=v.length - 1:=by omega
 have t2:((v.length:Int) - 2).toNat=v.length - 2:=by omega
 have t3:((v.length:Int)).toNat=v.length:=by omega
 have xO:=aai hn rfl;have xQ:=@aaj U j v.length hn;have dv1:=ec hv (v.length - 1);have vE:=ec hv (v.length - 2);have QH:=ec hU (j+v.length);have Iw:=ec hU (j+(v.length - 1));have Dx:=ec hU (j+(v.length - 2));have m1:bj v (v.length - 1) 0 % 18446744073709551616=bj v (v.length - 1) 0:=by omega
 have m2:bj v (v.length - 2) 0 % 18446744073709551616=bj v (v.length - 2) 0:=by omega
 have m3:bj U (j+v.length) 0 % 18446744073709551616=bj U (j+v.length) 0:=by omega
 have m4:bj U (j+(v.length - 1)) 0 % 18446744073709551616=bj U (j+(v.length - 1)) 0:=by omega
 have m5:bj U (j+(v.length - 2)) 0 % 18446744073709551616=bj U (j+(v.length - 2)) 0:=by omega
 have m6:bj U (j+v.length) 0*4294967296 % 18446744073709551616=bj U (j+v.length) 0*4294967296:=by omega
 have hor:=Ig QH.1 QH.2 Iw.1 Iw.2;have htop:0<=bj U (j+v.length) 0*4294967296+bj U (j+(v.length - 1)) 0:=by omega
 have hx':bk (prt U j (v.length+1))<4294967296*bk v:=hx;have hP:=pow_pos (v.length - 2);have zS:=fb (nf hv (v.length - 2));have zT:=ng (nf hv (v.length - 2));rw[γq,εg (by omega)] at zT;have oG:=fb (tY hU (j:=j) (k:=v.length - 2));have Ix:=vC hU (j:=j) (k:=v.length - 2);have hV0:=fb hv;have hX0:=fb (tY hU (j:=j) (k:=v.length+1));have htp:=aah hP xO xQ zT oG Dx.1 Iw.1 vE.2 hx';have hax:(nj.mk U j (v.length+1) U.length v).x=bk (prt U j (v.length+1)):=rfl;simp only[hax,t1,t2,t3,m1,m2,m3,m4,m5,m6,hor,Int.tdiv_eq_ediv_of_nonneg htop,Int.tmod_eq_emod_of_nonneg htop];generalize aan:bj v (v.length - 1) 0=v1 at*;generalize aao:bj v (v.length - 2) 0=v2 at*;generalize agC:bj U (j+v.length) 0=u0 at*;generalize aap:bj U (j+(v.length - 1)) 0=u1 at*;generalize aaq:bj U (j+(v.length - 2)) 0=u2 at*;have hqr:=εf (u0*4294967296+u1) v1;have hr0:=δj (u0*4294967296+u1) (show v1≠0 by omega);have hr1:=γZ (u0*4294967296+u1) (show 0<v1 by omega);have hg0:0<=(u0*4294967296+u1) / v1:=δY htop (by omega);generalize hge:(u0*4294967296+u1) / v1=g0 at*;generalize hre:(u0*4294967296+u1) % v1=r0 at*;have hg1:g0<=4294967297:=by
  by_cases h:g0<=4294967297;·exact h
  ·exfalso;have:=Γ (show(4294967298:Int)<=g0 by omega) (show 0<=v1 by omega);omega
 have QI:g0*v1+r0=u1+4294967296*u0:=by rw[δ0 g0];omega
 have hst:=aag hP xO xQ zS Ix vE.1 Dx.2 hg0 QI hr1;have hin:cn .u64 g0:=u64_in hg0 (by omega);repeat refine γi (by omega) ?_
 clear t1 t2 t3 m1 m2 m3 m4 m5 m6 hor htop hge hre hqr hr0 hr1 hg0 hg1 QI hst hin aan aao aap aaq hx;rintro⟨g,r⟩ ⟨⟨g0',g1'⟩,⟨r0',r1'⟩,hgr,hgx⟩;simp only at g0' g1' r0' r1' hgr hgx ⊢;have Dy:0<g+1:=by omega
 have e1:(r+v1) % 18446744073709551616=r+v1:=by omega
 have e2:r*4294967296 % 18446744073709551616=r*4294967296:=by omega
 have gv0:0<=g*v2:=γv g0' vE.1;have gv1:g*v2<=4294967297*4294967295:=δI (by omega) (by omega) vE.1 (by omega);have e3:g*v2 % 18446744073709551616=g*v2:=by omega
 have hor2:=Ig r0' r1' Dx.1 Dx.2;have Iy:g*v1+r=u1+4294967296*u0:=hgr;have QJ:4294967296<=r+v1->g<=4294967296:=λh=>by
  by_cases hg:g<=4294967296;·exact hg
  ·have:g=4294967297:=by omega
   subst this;omega
 have dec:(4294967296<=g\/r*4294967296+u2<g*v2)->(bk (prt U j (v.length+1))<g*bk v/\(g - 1) % 18446744073709551616=g - 1/\0<=g - 1/\(g - 1)*v1+(r+v1)=u1+4294967296*u0):=λh=>by
  have h1:=aaf hP xO xQ zS Ix hx' hV0 g0' Iy h;have h2:g≠0:=by
   rintro rfl;omega
  refine⟨h1,by omega,by omega,?_⟩;rw[ζC,εr];omega
 simp only[e1,e2,e3,hor2];have brk:(4294967296<=g\/r*4294967296+u2<g*v2)->4294967296<=r+v1->∃gg,gg=(g - 1) % 18446744073709551616/\(0<=gg/\gg<4294967296)/\bk (prt U j (v.length+1))<(gg+1)*bk v/\gg*bk v<bk (prt U j (v.length+1))+bk v:=λh hb=>by
  obtain⟨k1,k2,k3,k4⟩:=dec h;have k5:=QJ hb;rw[k2];refine⟨_,rfl,by omega,by rw[show g - 1+1=g by omega];exact k1,QG hP xO xQ zS zT oG hv1 vE.1 k3 (by omega) k4 ?_⟩;have:=δI (show g - 1<=4294967295 by omega) (show v2<=4294967295 by omega) vE.1 (by omega);omega
 have zU:(4294967296<=g\/r*4294967296+u2<g*v2)->¬4294967296<=r+v1->(0<=(g - 1) % 18446744073709551616/\(g - 1) % 18446744073709551616<=4294967297)/\(g - 1) % 18446744073709551616*v1+(r+v1)=u1+4294967296*u0/\bk (prt U j (v.length+1))<((g - 1) % 18446744073709551616+1)*bk v/\((g - 1) % 18446744073709551616).toNat<g.toNat:=λh hb=>by
  obtain⟨k1,k2,k3,k4⟩:=dec h;rw[k2];exact⟨by omega,k4,by rw[show g - 1+1=g by omega];exact k1,by omega⟩
 have ext:¬4294967296<=g->¬r*4294967296+u2<g*v2->∃gg,gg=g/\(0<=gg/\gg<4294967296)/\bk (prt U j (v.length+1))<(gg+1)*bk v/\gg*bk v<bk (prt U j (v.length+1))+bk v:=λh h2=>
  ⟨_,rfl,by omega,hgx,QG hP xO xQ zS zT oG hv1 vE.1 g0' (by omega) Iy (by omega)⟩;clear Iy Dy e1 e2 e3 gv0 gv1 hor2 xO xQ zS zT oG Ix QJ dec htp;refine⟨λhB=>?_,λhB=>?_⟩
 ·refine⟨by omega,by omega,by omega,by omega,?_⟩;refine⟨λhb=>?_,λhb=>?_⟩
  ·obtain⟨gg,hgg,f0,f2,f3⟩:=brk (.inl hB) hb;rw[<-hgg];clear hB hb;clear hgg brk zU ext hgx hgr;refine⟨?_,?_⟩
   ·repeat' refine γi ?_ ?_
    all_goals first|omega|exact hU|exact f2|exact f3|exact λ_ _=>trivial|(simp only[bk];omega)
   clear f0 f2 f3;rintro⟨i,ga,c,b,R⟩ ⟨⟨i0,i1⟩,⟨nX,qB⟩,⟨f2,f3⟩,⟨c0,c1⟩,⟨b0,b1⟩,⟨hR,hRl⟩,ho,he⟩;simp only at i0 i1 nX qB f2 f3 c0 c1 b0 b1 hR hRl ho he ⊢;refine⟨λlR=>?_,λnh=>?_⟩
   ·have x:=ec hv i.toNat;have y:=ec hR (j+i.toNat);have QK:0<=ga*bj v i.toNat 0:=γv nX x.1;have QL:ga*bj v i.toNat 0<=4294967295*4294967295:=δI (by omega) (by omega) x.1 (by omega);have q1:bj v i.toNat 0 % 18446744073709551616=bj v i.toNat 0:=by omega
    have q2:bj R (j+i.toNat) 0 % 18446744073709551616=bj R (j+i.toNat) 0:=by omega
    have q3:(ga*bj v i.toNat 0 % 18446744073709551616+c) % 18446744073709551616=ga*bj v i.toNat 0+c:=by omega
    have hi1:(i+1).toNat=i.toNat+1:=by omega
    rw[q1,q2,q3,Io (by omega) (by omega),hi1];generalize hq:((bj R (j+i.toNat) 0 - (ga*bj v i.toNat 0+c) % 4294967296) % 18446744073709551616 - b) % 18446744073709551616=q;obtain⟨k1,k2,k3,k4,k5⟩:=Ip (d:=q % 4294967296) (e:=q / 9223372036854775808) hR hRl hv nX qB c0 c1 b0 b1 (show j+i.toNat<U.length by omega) ho he (by omega) (by omega);repeat' refine γi ?_ ?_
    all_goals first|omega|exact k1|exact k2|exact k3|exact k4|exact k5|exact f2|exact f3
   ·have hi:i.toNat=v.length:=by omega
    rw[hi,π] at he;rw[hi] at ho;have hun:=ho (j+v.length) (.inr (φ _));have du:=ec hU (j+v.length);have q2:bj R (j+v.length) 0 % 18446744073709551616=bj R (j+v.length) 0:=by rw[hun];omega
    have qC:=@lU U j v.length;rw[q2];generalize hq:((bj R (j+v.length) 0 - c) % 18446744073709551616 - b) % 18446744073709551616=q;have kG:bz (R.set (j+v.length) (q % 4294967296)):=ni hR (by omega) (by omega);have hlen:(R.set (j+v.length) (q % 4294967296)).length=U.length:=by simp[hRl]
    have hout:∀m,(m<j\/j+(v.length+1)<=m)->bj (R.set (j+v.length) (q % 4294967296)) m 0=bj U m 0:=λm hm=>by rw[pE (by omega)];exact ho m (by omega)
    have hval:bk (prt (R.set (j+v.length) (q % 4294967296)) j (v.length+1))=bk (prt U j (v.length+1)) - ga*bk v+4294967296^(v.length+1)*(q / 9223372036854775808):=by
     rw[lU,tX (φ _),su (by omega),he,qC,γM];have hd:q % 4294967296 - 4294967296*(q / 9223372036854775808)=bj U (j+v.length) 0 - c - b:=by rw[hun] at hq;omega
     generalize (4294967296:Int)^v.length=B;have e:B*4294967296*(q / 9223372036854775808)=B*(q % 4294967296+c+b - bj U (j+v.length) 0):=by rw[δk];congr 1;omega
     rw[e];simp only[εq,εG];omega
    generalize hW:R.set (j+v.length) (q % 4294967296)=W at*;have hbd:=vC kG (j:=j) (k:=v.length+1);have hnn:=fb (tY kG (j:=j) (k:=v.length+1));have q3:0<=q/\q<18446744073709551616:=by omega
    clear hq hun du q2 he ho hR;repeat refine γi (by omega) ?_
    refine⟨λhz=>?_,λhz=>?_⟩
    ·rw[hz,δJ,εh] at hval;obtain⟨w1,w2⟩:=vD (q:=ga) (show ga*bk v<=bk (prt U j (v.length+1)) by omega) f2;refine⟨by rw[w1];omega,?_⟩;have hfin:W=ji U j (iw (v.length+1) (bk (prt U j (v.length+1)) % bk v)):=xN kG hlen (by omega) hout (by rw[hval,w2]);rw[hfin];rfl
    ·have hq1:q / 9223372036854775808=1:=by omega
     rw[hq1,εQ] at hval;have f4:bk (prt U j (v.length+1))<ga*bk v:=by omega
     refine⟨?_,?_⟩
     ·repeat' refine γi ?_ ?_
      all_goals first|omega|exact kG|exact hlen|exact⟨W,⟨kG,hlen⟩,hout,hval,λ_ _=>rfl,by simp only[bk]⟩
     clear kG hlen hout hval hW hbd hnn q3 hz hq1 f4 f2 f3 c0 c1 b0 b1 i0 i1 nX qB;rintro⟨i2,gb,c2,R2⟩ ⟨⟨i0,i1⟩,⟨zV,zW⟩,⟨f5,f6⟩,⟨c0,c1⟩,⟨hR2,qD⟩,W2,⟨hW2,tZ⟩,ho2,t6,ho3,qE⟩;simp only at i0 i1 zV zW f5 f6 c0 c1 hR2 qD ho3 qE ⊢;refine⟨λlR=>?_,λnh=>?_⟩
     ·have x:=ec hv i2.toNat;have y:=ec hR2 (j+i2.toNat);have hi1:(i2+1).toNat=i2.toNat+1:=by omega
      rw[hi1];have hs:((bj R2 (j+i2.toNat) 0 % 18446744073709551616+bj v i2.toNat 0 % 18446744073709551616) % 18446744073709551616+c2) % 18446744073709551616=bj R2 (j+i2.toNat) 0+bj v i2.toNat 0+c2:=by omega
      rw[hs];obtain⟨k1,k2,k3,k4,k5⟩:=Iq hR2 (qD.trans tZ.symm) hv c0 c1 (show j+i2.toNat<W2.length by omega) hW2 ho3 qE rfl;repeat' refine γi ?_ ?_
      all_goals first|omega|exact k1|exact f5|exact f6|exact⟨W2,⟨hW2,tZ⟩,ho2,t6,k4,k5⟩
     ·have hi2:i2.toNat=v.length:=by omega
      rw[hi2,π] at qE;rw[hi2] at ho3;have hun:=ho3 (j+v.length) (.inr (φ _));have du:=ec hW2 (j+v.length);have qC:=@lU W2 j v.length;have hc2:c2 % 4294967296=c2:=by omega
      rw[hc2,hun];have hF:bz (R2.set (j+v.length) ((bj W2 (j+v.length) 0+c2) % 4294967296)):=ni hR2 (by omega) (by omega);have zY:(R2.set (j+v.length) ((bj W2 (j+v.length) 0+c2) % 4294967296)).length=U.length:=by simp[qD]
      have zZ:∀m,(m<j\/j+(v.length+1)<=m)->bj (R2.set (j+v.length) ((bj W2 (j+v.length) 0+c2) % 4294967296)) m 0=bj U m 0:=λm hm=>by rw[pE (by omega),ho3 m (by omega)];exact ho2 m hm
      have qF:bk (prt (R2.set (j+v.length) ((bj W2 (j+v.length) 0+c2) % 4294967296)) j (v.length+1))=bk (prt U j (v.length+1)) - gb*bk v+4294967296^(v.length+1)+bk v - 4294967296^(v.length+1)*((bj W2 (j+v.length) 0+c2) / 4294967296):=by
       rw[lU,tX (φ _),su (by omega),<-t6,qC,γM];generalize (4294967296:Int)^v.length=B at*;have e:B*4294967296*((bj W2 (j+v.length) 0+c2) / 4294967296)=B*(bj W2 (j+v.length) 0+c2 - (bj W2 (j+v.length) 0+c2) % 4294967296):=by rw[δk];congr 1;omega
       rw[e];simp only[εq,εG];omega
      have hbd:=vC hF (j:=j) (k:=v.length+1);have hk:(bj W2 (j+v.length) 0+c2) / 4294967296=1:=by
       by_cases h:(bj W2 (j+v.length) 0+c2) / 4294967296=1;·exact h
       ·have h0:(bj W2 (j+v.length) 0+c2) / 4294967296=0:=by omega
        rw[h0,δJ] at qF;omega
      rw[hk,εQ] at qF;have e1:(gb - 1)*bk v=gb*bk v - bk v:=by rw[ζC,εr]
      obtain⟨w1,w2⟩:=vD (q:=gb - 1) (show(gb - 1)*bk v<=bk (prt U j (v.length+1)) by omega) (by rw[show gb - 1+1=gb by omega];exact f5);have Dy:0<gb:=by
       by_cases h:0<gb;·exact h
       ·have:gb=0:=by omega
        subst this;omega
      have hfin:R2.set (j+v.length) ((bj W2 (j+v.length) 0+c2) % 4294967296)=ji U j (iw (v.length+1) (bk (prt U j (v.length+1)) % bk v)):=xN hF zY (by omega) zZ (by rw[qF,w2,e1];omega);repeat refine γi (by omega) ?_
      rw[hfin];rfl
  ·obtain⟨k1,k2,k3,k4⟩:=zU (.inl hB) hb;repeat' refine γi ?_ ?_
   all_goals first|omega|exact k2|exact k3
 ·repeat refine γi (by omega) ?_
  refine⟨λhc=>?_,λhc=>?_⟩
  ·repeat refine γi (by omega) ?_
   refine⟨λhb=>?_,λhb=>?_⟩
   ·obtain⟨gg,hgg,f0,f2,f3⟩:=brk (.inr hc) hb;rw[<-hgg];clear hB hb hc;clear hgg brk zU ext hgx hgr;refine⟨?_,?_⟩
    ·repeat' refine γi ?_ ?_
     all_goals first|omega|exact hU|exact f2|exact f3|exact λ_ _=>trivial|(simp only[bk];omega)
    clear f0 f2 f3;rintro⟨i,ga,c,b,R⟩ ⟨⟨i0,i1⟩,⟨nX,qB⟩,⟨f2,f3⟩,⟨c0,c1⟩,⟨b0,b1⟩,⟨hR,hRl⟩,ho,he⟩;simp only at i0 i1 nX qB f2 f3 c0 c1 b0 b1 hR hRl ho he ⊢;refine⟨λlR=>?_,λnh=>?_⟩
    ·have x:=ec hv i.toNat;have y:=ec hR (j+i.toNat);have QK:0<=ga*bj v i.toNat 0:=γv nX x.1;have QL:ga*bj v i.toNat 0<=4294967295*4294967295:=δI (by omega) (by omega) x.1 (by omega);have q1:bj v i.toNat 0 % 18446744073709551616=bj v i.toNat 0:=by omega
     have q2:bj R (j+i.toNat) 0 % 18446744073709551616=bj R (j+i.toNat) 0:=by omega
     have q3:(ga*bj v i.toNat 0 % 18446744073709551616+c) % 18446744073709551616=ga*bj v i.toNat 0+c:=by omega
     have hi1:(i+1).toNat=i.toNat+1:=by omega
     rw[q1,q2,q3,Io (by omega) (by omega),hi1];generalize hq:((bj R (j+i.toNat) 0 - (ga*bj v i.toNat 0+c) % 4294967296) % 18446744073709551616 - b) % 18446744073709551616=q;obtain⟨k1,k2,k3,k4,k5⟩:=Ip (d:=q % 4294967296) (e:=q / 9223372036854775808) hR hRl hv nX qB c0 c1 b0 b1 (show j+i.toNat<U.length by omega) ho he (by omega) (by omega);repeat' refine γi ?_ ?_
     all_goals first|omega|exact k1|exact k2|exact k3|exact k4|exact k5|exact f2|exact f3
    ·have hi:i.toNat=v.length:=by omega
     rw[hi,π] at he;rw[hi] at ho;have hun:=ho (j+v.length) (.inr (φ _));have du:=ec hU (j+v.length);have q2:bj R (j+v.length) 0 % 18446744073709551616=bj R (j+v.length) 0:=by rw[hun];omega
     have qC:=@lU U j v.length;rw[q2];generalize hq:((bj R (j+v.length) 0 - c) % 18446744073709551616 - b) % 18446744073709551616=q;have kG:bz (R.set (j+v.length) (q % 4294967296)):=ni hR (by omega) (by omega);have hlen:(R.set (j+v.length) (q % 4294967296)).length=U.length:=by simp[hRl]
     have hout:∀m,(m<j\/j+(v.length+1)<=m)->bj (R.set (j+v.length) (q % 4294967296)) m 0=bj U m 0:=λm hm=>by rw[pE (by omega)];exact ho m (by omega)
     have hval:bk (prt (R.set (j+v.length) (q % 4294967296)) j (v.length+1))=bk (prt U j (v.length+1)) - ga*bk v+4294967296^(v.length+1)*(q / 9223372036854775808):=by
      rw[lU,tX (φ _),su (by omega),he,qC,γM];have hd:q % 4294967296 - 4294967296*(q / 9223372036854775808)=bj U (j+v.length) 0 - c - b:=by rw[hun] at hq;omega
      generalize (4294967296:Int)^v.length=B;have e:B*4294967296*(q / 9223372036854775808)=B*(q % 4294967296+c+b - bj U (j+v.length) 0):=by rw[δk];congr 1;omega
      rw[e];simp only[εq,εG];omega
     generalize hW:R.set (j+v.length) (q % 4294967296)=W at*;have hbd:=vC kG (j:=j) (k:=v.length+1);have hnn:=fb (tY kG (j:=j) (k:=v.length+1));have q3:0<=q/\q<18446744073709551616:=by omega
     clear hq hun du q2 he ho hR;repeat refine γi (by omega) ?_
     refine⟨λhz=>?_,λhz=>?_⟩
     ·rw[hz,δJ,εh] at hval;obtain⟨w1,w2⟩:=vD (q:=ga) (show ga*bk v<=bk (prt U j (v.length+1)) by omega) f2;refine⟨by rw[w1];omega,?_⟩;have hfin:W=ji U j (iw (v.length+1) (bk (prt U j (v.length+1)) % bk v)):=xN kG hlen (by omega) hout (by rw[hval,w2]);rw[hfin];rfl
     ·have hq1:q / 9223372036854775808=1:=by omega
      rw[hq1,εQ] at hval;have f4:bk (prt U j (v.length+1))<ga*bk v:=by omega
      refine⟨?_,?_⟩
      ·repeat' refine γi ?_ ?_
       all_goals first|omega|exact kG|exact hlen|exact⟨W,⟨kG,hlen⟩,hout,hval,λ_ _=>rfl,by simp only[bk]⟩
      clear kG hlen hout hval hW hbd hnn q3 hz hq1 f4 f2 f3 c0 c1 b0 b1 i0 i1 nX qB;rintro⟨i2,gb,c2,R2⟩ ⟨⟨i0,i1⟩,⟨zV,zW⟩,⟨f5,f6⟩,⟨c0,c1⟩,⟨hR2,qD⟩,W2,⟨hW2,tZ⟩,ho2,t6,ho3,qE⟩;simp only at i0 i1 zV zW f5 f6 c0 c1 hR2 qD ho3 qE ⊢;refine⟨λlR=>?_,λnh=>?_⟩
      ·have x:=ec hv i2.toNat;have y:=ec hR2 (j+i2.toNat);have hi1:(i2+1).toNat=i2.toNat+1:=by omega
       rw[hi1];have hs:((bj R2 (j+i2.toNat) 0 % 18446744073709551616+bj v i2.toNat 0 % 18446744073709551616) % 18446744073709551616+c2) % 18446744073709551616=bj R2 (j+i2.toNat) 0+bj v i2.toNat 0+c2:=by omega
       rw[hs];obtain⟨k1,k2,k3,k4,k5⟩:=Iq hR2 (qD.trans tZ.symm) hv c0 c1 (show j+i2.toNat<W2.length by omega) hW2 ho3 qE rfl;repeat' refine γi ?_ ?_
       all_goals first|omega|exact k1|exact f5|exact f6|exact⟨W2,⟨hW2,tZ⟩,ho2,t6,k4,k5⟩
      ·have hi2:i2.toNat=v.length:=by omega
       rw[hi2,π] at qE;rw[hi2] at ho3;have hun:=ho3 (j+v.length) (.inr (φ _));have du:=ec hW2 (j+v.length);have qC:=@lU W2 j v.length;have hc2:c2 % 4294967296=c2:=by omega
       rw[hc2,hun];have hF:bz (R2.set (j+v.length) ((bj W2 (j+v.length) 0+c2) % 4294967296)):=ni hR2 (by omega) (by omega);have zY:(R2.set (j+v.length) ((bj W2 (j+v.length) 0+c2) % 4294967296)).length=U.length:=by simp[qD]
       have zZ:∀m,(m<j\/j+(v.length+1)<=m)->bj (R2.set (j+v.length) ((bj W2 (j+v.length) 0+c2) % 4294967296)) m 0=bj U m 0:=λm hm=>by rw[pE (by omega),ho3 m (by omega)];exact ho2 m hm
       have qF:bk (prt (R2.set (j+v.length) ((bj W2 (j+v.length) 0+c2) % 4294967296)) j (v.length+1))=bk (prt U j (v.length+1)) - gb*bk v+4294967296^(v.length+1)+bk v - 4294967296^(v.length+1)*((bj W2 (j+v.length) 0+c2) / 4294967296):=by
        rw[lU,tX (φ _),su (by omega),<-t6,qC,γM];generalize (4294967296:Int)^v.length=B at*;have e:B*4294967296*((bj W2 (j+v.length) 0+c2) / 4294967296)=B*(bj W2 (j+v.length) 0+c2 - (bj W2 (j+v.length) 0+c2) % 4294967296):=by rw[δk];congr 1;omega
        rw[e];simp only[εq,εG];omega
       have hbd:=vC hF (j:=j) (k:=v.length+1);have hk:(bj W2 (j+v.length) 0+c2) / 4294967296=1:=by
        by_cases h:(bj W2 (j+v.length) 0+c2) / 4294967296=1;·exact h
        ·have h0:(bj W2 (j+v.length) 0+c2) / 4294967296=0:=by omega
         rw[h0,δJ] at qF;omega
       rw[hk,εQ] at qF;have e1:(gb - 1)*bk v=gb*bk v - bk v:=by rw[ζC,εr]
       obtain⟨w1,w2⟩:=vD (q:=gb - 1) (show(gb - 1)*bk v<=bk (prt U j (v.length+1)) by omega) (by rw[show gb - 1+1=gb by omega];exact f5);have Dy:0<gb:=by
        by_cases h:0<gb;·exact h
        ·have:gb=0:=by omega
         subst this;omega
       have hfin:R2.set (j+v.length) ((bj W2 (j+v.length) 0+c2) % 4294967296)=ji U j (iw (v.length+1) (bk (prt U j (v.length+1)) % bk v)):=xN hF zY (by omega) zZ (by rw[qF,w2,e1];omega);repeat refine γi (by omega) ?_
       rw[hfin];rfl
   ·obtain⟨k1,k2,k3,k4⟩:=zU (.inr hc) hb;repeat' refine γi ?_ ?_
    all_goals first|omega|exact k2|exact k3
  ·obtain⟨gg,hgg,f0,f2,f3⟩:=ext hB hc;rw[<-hgg];clear hB hc;clear hgg brk zU ext hgx hgr;refine⟨?_,?_⟩
   ·repeat' refine γi ?_ ?_
    all_goals first|omega|exact hU|exact f2|exact f3|exact λ_ _=>trivial|(simp only[bk];omega)
   clear f0 f2 f3;rintro⟨i,ga,c,b,R⟩ ⟨⟨i0,i1⟩,⟨nX,qB⟩,⟨f2,f3⟩,⟨c0,c1⟩,⟨b0,b1⟩,⟨hR,hRl⟩,ho,he⟩;simp only at i0 i1 nX qB f2 f3 c0 c1 b0 b1 hR hRl ho he ⊢;refine⟨λlR=>?_,λnh=>?_⟩
   ·have x:=ec hv i.toNat;have y:=ec hR (j+i.toNat);have QK:0<=ga*bj v i.toNat 0:=γv nX x.1;have QL:ga*bj v i.toNat 0<=4294967295*4294967295:=δI (by omega) (by omega) x.1 (by omega);have q1:bj v i.toNat 0 % 18446744073709551616=bj v i.toNat 0:=by omega
    have q2:bj R (j+i.toNat) 0 % 18446744073709551616=bj R (j+i.toNat) 0:=by omega
    have q3:(ga*bj v i.toNat 0 % 18446744073709551616+c) % 18446744073709551616=ga*bj v i.toNat 0+c:=by omega
    have hi1:(i+1).toNat=i.toNat+1:=by omega
    rw[q1,q2,q3,Io (by omega) (by omega),hi1];generalize hq:((bj R (j+i.toNat) 0 - (ga*bj v i.toNat 0+c) % 4294967296) % 18446744073709551616 - b) % 18446744073709551616=q;obtain⟨k1,k2,k3,k4,k5⟩:=Ip (d:=q % 4294967296) (e:=q / 9223372036854775808) hR hRl hv nX qB c0 c1 b0 b1 (show j+i.toNat<U.length by omega) ho he (by omega) (by omega);repeat' refine γi ?_ ?_
    all_goals first|omega|exact k1|exact k2|exact k3|exact k4|exact k5|exact f2|exact f3
   ·have hi:i.toNat=v.length:=by omega
    rw[hi,π] at he;rw[hi] at ho;have hun:=ho (j+v.length) (.inr (φ _));have du:=ec hU (j+v.length);have q2:bj R (j+v.length) 0 % 18446744073709551616=bj R (j+v.length) 0:=by rw[hun];omega
    have qC:=@lU U j v.length;rw[q2];generalize hq:((bj R (j+v.length) 0 - c) % 18446744073709551616 - b) % 18446744073709551616=q;have kG:bz (R.set (j+v.length) (q % 4294967296)):=ni hR (by omega) (by omega);have hlen:(R.set (j+v.length) (q % 4294967296)).length=U.length:=by simp[hRl]
    have hout:∀m,(m<j\/j+(v.length+1)<=m)->bj (R.set (j+v.length) (q % 4294967296)) m 0=bj U m 0:=λm hm=>by rw[pE (by omega)];exact ho m (by omega)
    have hval:bk (prt (R.set (j+v.length) (q % 4294967296)) j (v.length+1))=bk (prt U j (v.length+1)) - ga*bk v+4294967296^(v.length+1)*(q / 9223372036854775808):=by
     rw[lU,tX (φ _),su (by omega),he,qC,γM];have hd:q % 4294967296 - 4294967296*(q / 9223372036854775808)=bj U (j+v.length) 0 - c - b:=by rw[hun] at hq;omega
     generalize (4294967296:Int)^v.length=B;have e:B*4294967296*(q / 9223372036854775808)=B*(q % 4294967296+c+b - bj U (j+v.length) 0):=by rw[δk];congr 1;omega
     rw[e];simp only[εq,εG];omega
    generalize hW:R.set (j+v.length) (q % 4294967296)=W at*;have hbd:=vC kG (j:=j) (k:=v.length+1);have hnn:=fb (tY kG (j:=j) (k:=v.length+1));have q3:0<=q/\q<18446744073709551616:=by omega
    clear hq hun du q2 he ho hR;repeat refine γi (by omega) ?_
    refine⟨λhz=>?_,λhz=>?_⟩
    ·rw[hz,δJ,εh] at hval;obtain⟨w1,w2⟩:=vD (q:=ga) (show ga*bk v<=bk (prt U j (v.length+1)) by omega) f2;refine⟨by rw[w1];omega,?_⟩;have hfin:W=ji U j (iw (v.length+1) (bk (prt U j (v.length+1)) % bk v)):=xN kG hlen (by omega) hout (by rw[hval,w2]);rw[hfin];rfl
    ·have hq1:q / 9223372036854775808=1:=by omega
     rw[hq1,εQ] at hval;have f4:bk (prt U j (v.length+1))<ga*bk v:=by omega
     refine⟨?_,?_⟩
     ·repeat' refine γi ?_ ?_
      all_goals first|omega|exact kG|exact hlen|exact⟨W,⟨kG,hlen⟩,hout,hval,λ_ _=>rfl,by simp only[bk]⟩
     clear kG hlen hout hval hW hbd hnn q3 hz hq1 f4 f2 f3 c0 c1 b0 b1 i0 i1 nX qB;rintro⟨i2,gb,c2,R2⟩ ⟨⟨i0,i1⟩,⟨zV,zW⟩,⟨f5,f6⟩,⟨c0,c1⟩,⟨hR2,qD⟩,W2,⟨hW2,tZ⟩,ho2,t6,ho3,qE⟩;simp only at i0 i1 zV zW f5 f6 c0 c1 hR2 qD ho3 qE ⊢;refine⟨λlR=>?_,λnh=>?_⟩
     ·have x:=ec hv i2.toNat;have y:=ec hR2 (j+i2.toNat);have hi1:(i2+1).toNat=i2.toNat+1:=by omega
      rw[hi1];have hs:((bj R2 (j+i2.toNat) 0 % 18446744073709551616+bj v i2.toNat 0 % 18446744073709551616) % 18446744073709551616+c2) % 18446744073709551616=bj R2 (j+i2.toNat) 0+bj v i2.toNat 0+c2:=by omega
      rw[hs];obtain⟨k1,k2,k3,k4,k5⟩:=Iq hR2 (qD.trans tZ.symm) hv c0 c1 (show j+i2.toNat<W2.length by omega) hW2 ho3 qE rfl;repeat' refine γi ?_ ?_
      all_goals first|omega|exact k1|exact f5|exact f6|exact⟨W2,⟨hW2,tZ⟩,ho2,t6,k4,k5⟩
     ·have hi2:i2.toNat=v.length:=by omega
      rw[hi2,π] at qE;rw[hi2] at ho3;have hun:=ho3 (j+v.length) (.inr (φ _));have du:=ec hW2 (j+v.length);have qC:=@lU W2 j v.length;have hc2:c2 % 4294967296=c2:=by omega
      rw[hc2,hun];have hF:bz (R2.set (j+v.length) ((bj W2 (j+v.length) 0+c2) % 4294967296)):=ni hR2 (by omega) (by omega);have zY:(R2.set (j+v.length) ((bj W2 (j+v.length) 0+c2) % 4294967296)).length=U.length:=by simp[qD]
      have zZ:∀m,(m<j\/j+(v.length+1)<=m)->bj (R2.set (j+v.length) ((bj W2 (j+v.length) 0+c2) % 4294967296)) m 0=bj U m 0:=λm hm=>by rw[pE (by omega),ho3 m (by omega)];exact ho2 m hm
      have qF:bk (prt (R2.set (j+v.length) ((bj W2 (j+v.length) 0+c2) % 4294967296)) j (v.length+1))=bk (prt U j (v.length+1)) - gb*bk v+4294967296^(v.length+1)+bk v - 4294967296^(v.length+1)*((bj W2 (j+v.length) 0+c2) / 4294967296):=by
       rw[lU,tX (φ _),su (by omega),<-t6,qC,γM];generalize (4294967296:Int)^v.length=B at*;have e:B*4294967296*((bj W2 (j+v.length) 0+c2) / 4294967296)=B*(bj W2 (j+v.length) 0+c2 - (bj W2 (j+v.length) 0+c2) % 4294967296):=by rw[δk];congr 1;omega
       rw[e];simp only[εq,εG];omega
      have hbd:=vC hF (j:=j) (k:=v.length+1);have hk:(bj W2 (j+v.length) 0+c2) / 4294967296=1:=by
       by_cases h:(bj W2 (j+v.length) 0+c2) / 4294967296=1;·exact h
       ·have h0:(bj W2 (j+v.length) 0+c2) / 4294967296=0:=by omega
        rw[h0,δJ] at qF;omega
      rw[hk,εQ] at qF;have e1:(gb - 1)*bk v=gb*bk v - bk v:=by rw[ζC,εr]
      obtain⟨w1,w2⟩:=vD (q:=gb - 1) (show(gb - 1)*bk v<=bk (prt U j (v.length+1)) by omega) (by rw[show gb - 1+1=gb by omega];exact f5);have Dy:0<gb:=by
       by_cases h:0<gb;·exact h
       ·have:gb=0:=by omega
        subst this;omega
      have hfin:R2.set (j+v.length) ((bj W2 (j+v.length) 0+c2) % 4294967296)=ji U j (iw (v.length+1) (bk (prt U j (v.length+1)) % bk v)):=xN hF zY (by omega) zZ (by rw[qF,w2,e1];omega);repeat refine γi (by omega) ?_
      rw[hfin];rfl
theorem QM {i u v:Nat} (h:u=v):(γS i u 1).same (γS i v 1):=by subst h;rfl
theorem QN {p:bn}:∀{c l:List Int},(c.foldl (xF p) l).length=l.length
 |[],l=>rfl
 |i::c,l=>by
  rw[List.foldl_cons,QN];unfold xF;rw[τ]
theorem aat {p:bn} {c:List Int}:(gC p c).length=p.classes.length:=by
 unfold gC;rw[QN,List.length_replicate]
theorem aau {p:bn} {c:List Int} {i:Nat} (h:i<c.length):gC p (c.take (i+1))=xF p (gC p (c.take i)) (bj c i 0):=by
 rw[zK h];unfold gC;rw[List.foldl_append];rfl
def aav (a:bn×Alloc):Nat->cC
 |5=> .inv (Int×List Int) (λx=>⟨[(2,.ptr 0 0 20),(5,.ow 2 x.2.length 1),(18,.row (.i .i64) a.2.chosen),(19,.si .i64 a.2.chosen.length),(20,.si .i64 x.1)],[.cells a.1.ss 27 20 false,.cells [.row (.i .i64) a.2.chosen,.si .i64 a.2.value] 31 2 false,.row (.i .i64) x.2 2 true]⟩) (λs=>(iS s 20,oS (.i .i64) s 2))
  (λx=>(0<=x.1/\x.1<=a.2.chosen.length)/\x.2=gC a.1 (a.2.chosen.take x.1.toNat)) (λx=>(a.2.chosen.length - x.1).toNat) λ_ _=> .look
 |_=> .look
def Dz:bL:=⟨22,bn×Alloc,.cons dE (.one jZ),λa=>a.2.chosen.length<=9223372036854775807,λa=> .row (.i .i64) (if bW a.1 a.2.chosen=0 then gC a.1 a.2.chosen else[])⟩
theorem h101:Holds Tryz.prog Dz:=by
 refine cF (L:=[tO]) Dz aav (by simpa using h100) ?_;rintro⟨p,⟨c,v⟩⟩ h;refine bO (let a:=γe .i64;let b:=(0:Int);let d:=Θ;let e:=γS;let u:=decide (bW p c≠b);let f:=bp.i .i64;let w:=d f (if bW p c=b then gC p c else[]);let h:=(↑p.classes.length:Int);let n:=γP 0 0 20;let r:=δ h.toNat b;let g:=(↑c.length:Int);let s:=a g;let o:=bq.cells [a p.supply.a0,a p.supply.a1,a p.supply.a2,a p.supply.a3,a p.supply.a4,a p.supply.a5,a p.opn.a0,a p.opn.a1,a p.opn.a2,a p.opn.a3,a p.opn.a4,a p.opn.a5,a p.cls.a0,a p.cls.a1,a p.cls.a2,a p.cls.a3,a p.cls.a4,a p.cls.a5,d f p.classes,d bp.off p.offers] 27 20 false;let q:=bq.cells [d f c,a v] 31 2 false;let y:=bq.row f r 2 true;c.length<=9223372036854775807/\(u=true->(d f []).same w)/\(u=false->b<=h/\h<=h/\h*(8:Int)<=(140737488355328:Int)/\h<=(1000000000000:Int)/\(((n.same n/\(e 2 h.toNat 1).same (e 2 r.length 1)/\(d f c).same (d f c)/\(a (↑c.length:Int)).same s/\(γx .i64 0).same (a 0)/\True)/\o.same o/\q.same q/\y.same y/\True)/\(b<=b/\b<=g)/\r=gC p [])/\∀(x:Int×List Int),let j:=bj c x.fst.toNat b;let l:=x.snd.length;let m:=bj p.offers j.toNat bp.off.dflt;let k:=x.fst+(1:Int);let t:=x.snd.set m.bX.toNat m.value;let z:=a k;let A:=bq.row f t 2 true;(b<=x.fst/\x.fst<=g)/\x.snd=gC p (ω x.fst.toNat c)->(decide (x.fst<g)=true->b<=x.fst/\x.fst<(↑c.length:Int)/\x.fst.toNat<c.length/\b<=j/\j<(↑p.offers.length:Int)/\j.toNat<p.offers.length/\b<=j/\j<(↑p.offers.length:Int)/\j.toNat<p.offers.length/\x.snd.length=l/\b<=m.bX/\m.bX<(↑l:Int)/\x.snd.length=l/\m.bX.toNat<l/\cn .i64 k/\((n.same n/\(e 2 x.snd.length 1).same (e 2 t.length 1)/\(d f c).same (d f c)/\s.same s/\z.same z/\True)/\o.same o/\q.same q/\A.same A/\True)/\((b<=k/\k<=g)/\t=gC p (ω k.toNat c))/\(g - k).toNat<(g - x.fst).toNat)/\(decide (x.fst<g)=false->x.snd.length=l/\(d f x.snd).same w))) (by kernel_rfl) ?_;simp only[vcs];have hc1:c.length<=9223372036854775807:=h;refine⟨hc1,λhne=>?_,λhz=>?_⟩;·rw[if_neg hne]
 have hz:bW p c=0:=by simpa using hz
 obtain⟨_,_,hg,hcl,hix⟩:=Dc hz;have h8:=hg.1;have hN:=hg.2.1;rw[if_pos hz];refine⟨by omega,by omega,by omega,by omega,?_,?_⟩
 ·repeat' refine γi ?_ ?_
  all_goals first|omega|exact QM (by simp)|rfl|trivial
 rintro⟨i,out⟩ ⟨⟨i0,i1⟩,ho⟩;simp only at i0 i1 ho ⊢;subst ho;have hl:=@aat p (c.take i.toNat);refine⟨λhi=>?_,λhi=>?_⟩
 ·have hj:=hix (bj c i.toNat 0) (dj (by omega));have hx:=hg.2.2.2.2 _ (dj (d:=bp.off.dflt) (show(bj c i.toNat 0).toNat<p.offers.length by omega));have hs:=aau (p:=p) (show i.toNat<c.length by omega);have e:(i+1).toNat=i.toNat+1:=by omega
  rw[e,hs];repeat' refine γi ?_ ?_
  all_goals first|omega|exact QM (by simp)|rfl|trivial
 ·have:i.toNat=c.length:=by omega
  rw[this,π];repeat' refine γi ?_ ?_
  all_goals first|omega|rfl
def Iz:bL:=⟨123,Int,.one (eK .i64),λ_=>True,λ_=> .sb false⟩
theorem h334:Holds Tryz.prog Iz:=by
 refine cF (L:=[]) Iz lk (by simp) ?_;rintro(x:Int) -;refine bO ((SV.sb (decide (x≠x))).same (SV.sb false)) (by kernel_rfl) ?_;simp_all
def xR (x y:Int):Int:=if x<y then -1 else if y<x then 1 else 0
def IA:bL:=⟨85,Int×Int,.cons (eK .i64) (.one (eK .i64)),λ_=>True,λa=> .si .i64 (xR a.1 a.2)⟩
theorem h321:Holds Tryz.prog IA:=by
 refine cF (L:=[Iz]) IA lk (by grind[h334]) ?_;rintro⟨x,y⟩ -;refine bO (let b:=γx .i64;let c:=γx .i64 0;let a:=γe .i64 (xR x y);True/\True/\(false=true->(false=true->(b 0).same a)/\(false=false->(b (-1:Int)).same a))/\(false=false->(false=true->(b 1).same a)/\(false=false->(decide (x<y)=true->(b (-1:Int)).same a)/\(decide (x<y)=false->(decide (y<x)=true->(b 1).same a)/\(decide (y<x)=false->(b 0).same a))))) (by kernel_rfl) ?_;simp_all[xR,if_neg]
def vF (b:bD):Int:=b.a0+b.a1+b.a2+b.a3+b.a4+b.a5
def IB:bL:=⟨86,bD,.one (eG .dR),λb=>b.ok=true,λb=> .si .i64 (vF b)⟩
theorem h322:Holds Tryz.prog IB:=by
 refine cF (L:=[]) IB (λ_ _=> .rb 7) (by simp) ?_;rintro(b:bD) (h:b.ok=true);have h:=bD.jz.1 h;refine bO (let d:=cn .i64;let a:=(0:Int)+b.a0+b.a1;let c:=a+b.a2+b.a3+b.a4;d ((0:Int)+b.a0)/\d a/\d (a+b.a2)/\d (a+b.a2+b.a3)/\d c/\d (c+b.a5)/\(γe .i64 (c+b.a5)).same (γe .i64 (vF b))) (by kernel_rfl) ?_;simp only[vcs];unfold vF;omega
def oI (p:bn) (i:Int):Off:=bj p.offers i.toNat bp.off.dflt
def rl (p:bn) (i:Int):Int:=(oI p i).value
def pF (p:bn) (i:Int):Int:=vF (oI p i).want
def fp (p:bn) (i:Int):Int:=rl p i*(5354228880 / pF p i)
def mr (p:bn) (i:Int):Prop:=0<=i/\i<p.offers.length
theorem Aa {p:bn} (b:bB p=0) {i:Int} (h:mr p i):(1<=rl p i/\rl p i<=1000000)/\(1<=pF p i/\pF p i<=24)/\(oI p i).want.ok=true:=by
 obtain⟨j,k⟩:=h;have c:=dj (d:=bp.off.dflt) (show i.toNat<p.offers.length by omega);have a:=(dN b).2.2.2.2 _ c;have g:=(C0 ((tP b).2 _ c)).2.1;have e:=bD.jz.1 a.2.2.1;have f:¬((oI p i).want.a0=0/\(oI p i).want.a1=0/\(oI p i).want.a2=0/\(oI p i).want.a3=0/\(oI p i).want.a4=0/\(oI p i).want.a5=0):=λh=>g (CQ.2 h);have e:(0<=(oI p i).want.a0/\(oI p i).want.a0<=4)/\(0<=(oI p i).want.a1/\(oI p i).want.a1<=4)/\(0<=(oI p i).want.a2/\(oI p i).want.a2<=4)/\(0<=(oI p i).want.a3/\(oI p i).want.a3<=4)/\(0<=(oI p i).want.a4/\(oI p i).want.a4<=4)/\(0<=(oI p i).want.a5/\(oI p i).want.a5<=4):=e;refine⟨⟨a.2.2.2.1,a.2.2.2.2⟩,?_,a.2.2.1⟩;unfold pF vF;omega
theorem QO {t:Int} (a:1<=t) (b:t<=24):t*(5354228880 / t)=5354228880/\1<=5354228880 / t:=by
 have:t=1\/t=2\/t=3\/t=4\/t=5\/t=6\/t=7\/t=8\/t=9\/t=10\/t=11\/t=12\/t=13\/t=14\/t=15\/t=16\/t=17\/t=18\/t=19\/t=20\/t=21\/t=22\/t=23\/t=24:=by omega
 rcases this with rfl|rfl|rfl|rfl|rfl|rfl|rfl|rfl|rfl|rfl|rfl|rfl|rfl|rfl|rfl|rfl|rfl|rfl|rfl|rfl|rfl|rfl|rfl|rfl<;>decide
theorem aaw {p:bn} (g:bB p=0) {x y:Int} (j:mr p x) (i:mr p y):fp p x<fp p y↔rl p x*pF p y<rl p y*pF p x:=by
 obtain⟨m,e,_⟩:=Aa g j;obtain⟨u,f,_⟩:=Aa g i;obtain⟨v,q⟩:=QO e.1 e.2;obtain⟨o,r⟩:=QO f.1 f.2;unfold fp;generalize 5354228880 / pF p x=d at*;generalize 5354228880 / pF p y=c at*;generalize rl p x=a at*;generalize rl p y=b at*;generalize pF p x=s at*;generalize pF p y=t at*;have k:0<d*c:=Int.mul_pos (by omega) (by omega);have l:(a*t)*(d*c)=(a*d)*5354228880:=by grind
 have n:(b*s)*(d*c)=(b*c)*5354228880:=by grind
 constructor
 ·intro h;have:(a*t)*(d*c)<(b*s)*(d*c):=by omega
  exact Int.lt_of_mul_lt_mul_right this (by omega)
 ·intro h;have:(a*t)*(d*c)<(b*s)*(d*c):=γY h k;omega
def Ab (p:bn) (x y:Int):Int:=xR (rl p y*pF p x) (rl p x*pF p y)
theorem aax {p:bn} (a:bB p=0) {x y:Int} (c:mr p x) (b:mr p y):Ab p x y<0↔fp p y<fp p x:=by
 rw[aaw a b c];grind[Ab,xR]
def IC:dF where
 f:=84;α:=Int×Int×bn;put a:=[.si .i64 a.1,.si .i64 a.2.1,.ptr 0 0 20];st a:=[.cells a.2.2.ss 27 20 false];dec v o:=match v,o with
  |[x,y,.ptr 0 0 20],[.cells cs 27 20 false]=>match x.int .i64,y.int .i64,vq cs with
   |some x,some y,some p=>some (x,y,p)
   |_,_,_=>none
  |_,_=>none;ok v o a h:=by
  split at h
  ·split at h
   ·rename_i h1 h2 h3;simp only[γ] at h;subst h;refine⟨by simp only[gL,iK h1,iK h2];rfl,?_⟩;simp only[gO,ξ,γs,bq.g,zA h3]
   ·cases h
  ·cases h
 inj a b h1 h2:=by
  simp only[gL,Δ,and_true,SV.g,γ9,Value.int.injEq,true_and] at h1;simp only[gO,ξ,γs,bq.g,Δ,bR.cells.injEq,and_true] at h2;have h3:=dE.inj a.2.2 b.2.2 (by simp only[dE,SV.g,h2]);exact εx h1.1 (εx h1.2 h3)
 dom a:=bB a.2.2=0/\mr a.2.2 a.1/\mr a.2.2 a.2.1;res a:=.si .i64 (Ab a.2.2 a.1 a.2.1);out a:=[.cells a.2.2.ss 27 20 false]
theorem h320:dZ Tryz.prog IC:=by
 refine lp (L:=[IB,IA]) (W:=[]) IC lk (by simp) (by grind[h322,h321]) ?_;rintro⟨x,y,p⟩ ⟨f,e,c⟩;refine bO (let a:=bp.off.dflt;let d:=p.offers.length;let g:=bj p.offers x.toNat a;let h:=bj p.offers y.toNat a;let k:=h.value*vF g.want;let l:=g.value*vF h.want;let j:=bq.cells (bn.ss p) 27 20 false;(0:Int)<=x/\x<(↑d:Int)/\x.toNat<d/\(0:Int)<=y/\y<(↑d:Int)/\y.toNat<d/\g.want.ok=true/\cn .i64 k/\h.want.ok=true/\cn .i64 l/\True/\(γe .i64 (xR k l)).same (γe .i64 (Ab p x y))/\j.same j/\True) (by kernel_rfl) ?_;simp only[vcs];have f:bB p=0:=f;have e:mr p x:=e;have c:mr p y:=c;obtain⟨s,w,q⟩:=Aa f e;obtain⟨m,A,z⟩:=Aa f c;obtain⟨o,n⟩:=e;obtain⟨B,r⟩:=c;have i:∀{v t:Int},1<=v/\v<=1000000->1<=t/\t<=24-> -9223372036854775808<=v*t/\v*t<=9223372036854775807:=λ{v t} C u=>by
  have a:=γv (show 0<=v by omega) (show 0<=t by omega);have b:=δI C.2 u.2 (by omega) (show(0:Int)<=1000000 by omega);omega
 exact⟨o,n,by omega,B,r,by omega,q,i m w,z,i s A,rfl⟩
def j7 (D:Int->Int) (x y:Int):Bool:=decide (D y<D x)||(decide (D x=D y)&&decide (x<=y))
theorem Ac {D:Int->Int} {x y:Int}:j7 D x y=true↔D y<D x\/(D x=D y/\x<=y):=by grind[j7]
theorem QP {D:Int->Int} (a b c:Int) (d:j7 D a b=true) (e:j7 D b c=true):j7 D a c=true:=by
 grind[Ac]
theorem aay {D:Int->Int} (a b:Int):(j7 D a b||j7 D b a)=true:=by
 grind[Ac]
theorem aaz {D:Int->Int} {a b:Int} (c:j7 D a b=true) (d:j7 D b a=true):a=b:=by
 grind[Ac]
abbrev t7 (D:Int->Int) (l:List Int):Prop:=l.Pairwise λa b=>j7 D a b=true
def dY (D:Int->Int) (l:List Int):List Int:=l.mergeSort (j7 D)
theorem Ad {D:Int->Int} {l:List Int}:(dY D l).Perm l:=List.mergeSort_perm _ _
theorem QQ {D:Int->Int} {l:List Int}:t7 D (dY D l):=List.pairwise_mergeSort QP aay l
theorem sw {D:Int->Int} {l:List Int}:(dY D l).length=l.length:=Ad.length_eq
theorem IE {D:Int->Int} {l:List Int} {x:Int}:x∈dY D l↔x∈l:=Ad.mem_iff
theorem QR {D:Int->Int} {l m:List Int} (e:m.Perm l) (f:t7 D m):m=dY D l:=
 List.Perm.eq_of_pairwise (λa b _ _ c d=>aaz c d) f QQ (e.trans Ad.symm)
theorem aaA {D:Int->Int} {l:List Int} (h:t7 D l):dY D l=l:=(QR (ζA _) h).symm
def seg (l:List Int) (a b:Nat):List Int:=(l.drop a).take (b - a)
def hJ (D:Int->Int) (l:List Int) (a b:Nat):List Int:=l.take a++dY D (seg l a b)++l.drop b
theorem vG {l:List Int} {a b:Nat} (c:a<=b) (d:b<=l.length):(seg l a b).length=b - a:=by
 grind[seg]
theorem IG {l:List Int} {a b:Nat} (c:a<=b) (d:b<l.length):seg l a (b+1)=seg l a b++[bj l b 0]:=by
 unfold seg;rw[show b+1 - a=(b - a)+1 by omega,List.take_succ_eq_append_getElem (by grind),List.getElem_drop];grind[cV]
theorem QS {l:List Int} {a:Nat}:seg l a a=[]:=by grind[seg]
theorem QT {D:Int->Int} {l:List Int} {a b:Nat} (c:a<=b) (d:b<=l.length):(hJ D l a b).length=l.length:=by
 grind[hJ,sw,vG]
theorem QU {l:List Int} {i:Nat} (h:i<l.length):l.drop i=bj l i 0::l.drop (i+1):=by
 simp_all[cV]
theorem QV {D:Int->Int} {l:List Int} {a:Nat}:hJ D l a a=l:=by
 simp_all[hJ,QS,dY]
theorem aaB {D:Int->Int} {l:List Int} {a:Nat} (h:a<l.length):hJ D l a (a+1)=l:=by
 have e:seg l a (a+1)=[bj l a 0]:=by grind[IG,QS]
 unfold hJ;rw[e,aaA (by simp),γK];simp only[List.singleton_append];rw[<-QU h,γH]
def kU (D:Int->Int) (l:List Int) (a i j:Nat):List Int:=l.take a++((dY D (seg l a i)).take (j - a)++bj l i 0::(dY D (seg l a i)).drop (j - a))++l.drop (i+1)
theorem aaC {D:Int->Int} {l:List Int} {a i j:Nat} (b:a<=i) (c:i<l.length):(kU D l a i j).length=l.length:=by
 grind[sw,vG,kU]
theorem aaD {D:Int->Int} {l:List Int} {a i:Nat} (b:a<=i) (c:i<l.length):kU D l a i i=hJ D l a i:=by
 grind[sw,vG,kU,hJ,QU]
theorem aaE {A B:List Int} {y x:Int}:((A++y::x::B).set (A.length+1) y).set A.length x=A++x::y::B:=by
 simp_all
theorem aaF {A B:List Int} {y:Int}:bj (A++y::B) A.length 0=y:=by grind[bj]
theorem aaG {A B:List Int} {y x:Int}:bj (A++y::x::B) (A.length+1) 0=x:=by grind[bj]
theorem aaH {D:Int->Int} {l:List Int} {a i k:Nat} (c:a+k+1<=i) (d:i<l.length):
  kU D l a i (a+k+1)=(l.take a++(dY D (seg l a i)).take k)++bj (dY D (seg l a i)) k 0::bj l i 0::((dY D (seg l a i)).drop (k+1)++l.drop (i+1))/\
  kU D l a i (a+k)=(l.take a++(dY D (seg l a i)).take k)++bj l i 0::bj (dY D (seg l a i)) k 0::((dY D (seg l a i)).drop (k+1)++l.drop (i+1))/\
  (l.take a++(dY D (seg l a i)).take k).length=a+k:=by
 have b:=@sw D (seg l a i);rw[vG (by omega) (by omega)] at b;have e:k<(dY D (seg l a i)).length:=by omega
 have g:(dY D (seg l a i)).take (k+1)=(dY D (seg l a i)).take k++[bj (dY D (seg l a i)) k 0]:=by simp_all[cV]
 have f:(dY D (seg l a i)).drop k=bj (dY D (seg l a i)) k 0::(dY D (seg l a i)).drop (k+1):=by simp_all[cV]
 grind[kU]
theorem aaI {D:Int->Int} {l:List Int} {a i j:Nat} (g:a<j) (f:j<=i) (d:i<l.length):
  bj (kU D l a i j) j 0=bj l i 0/\bj (kU D l a i j) (j - 1) 0=bj (dY D (seg l a i)) (j - 1 - a) 0/\
  ((kU D l a i j).set j (bj (dY D (seg l a i)) (j - 1 - a) 0)).set (j - 1) (bj l i 0)=kU D l a i (j - 1):=by
 obtain⟨b,c,e⟩:=@aaH D l a i (j - 1 - a) (by omega) d;rw[show a+(j - 1 - a)+1=j by omega] at b;rw[show a+(j - 1 - a)=j - 1 by omega] at c e;rw[b,c];generalize l.take a++(dY D (seg l a i)).take (j - 1 - a)=A at*;generalize bj (dY D (seg l a i)) (j - 1 - a) 0=y at*;generalize bj l i 0=x at*;grind[aaG,aaF,aaE]
theorem aaJ {D:Int->Int} {S:List Int} {x:Int} {k:Nat} (n:t7 D S) (d:∀s∈S.drop k,j7 D x s=true) (b:k=0\/(k<=S.length/\j7 D (bj S (k - 1) 0) x=true)):t7 D (S.take k++x::S.drop k):=by
 have a:t7 D (S.take k++S.drop k):=by simp_all
 obtain⟨g,f,i⟩:=δE.1 a;have j:∀s∈S.take k,j7 D s x=true:=by
  rcases b with rfl|⟨h,b⟩;·simp
  ·intro s l;by_cases m:k=0;·simp_all
   have c:k - 1<S.length:=by omega
   have e:S.take k=S.take (k - 1)++[bj S (k - 1) 0]:=by
    conv=>lhs;rw[show k=(k - 1)+1 by omega]
    simp_all[cV]
   grind[QP]
 rw[t7,δE];simp_all
theorem aaK {S:List Int} {x:Int} {k:Nat}:(S.take k++x::S.drop k).Perm (S++[x]):=by
 refine(List.perm_middle).trans ?_;rw[γH];grind
theorem aaL {D:Int->Int} {l:List Int} {a i j:Nat} (k:a<=j) (f:j<=i) (e:i<l.length) (b:∀s∈(dY D (seg l a i)).drop (j - a),j7 D (bj l i 0) s=true) (g:j=a\/j7 D (bj (dY D (seg l a i)) (j - 1 - a) 0) (bj l i 0)=true):
  kU D l a i j=hJ D l a (i+1):=by
 have c:=@sw D (seg l a i);rw[vG (by omega) (by omega)] at c;have d:t7 D ((dY D (seg l a i)).take (j - a)++bj l i 0::(dY D (seg l a i)).drop (j - a)):=by
  refine aaJ QQ b ?_;grind
 have h:((dY D (seg l a i)).take (j - a)++bj l i 0::(dY D (seg l a i)).drop (j - a)).Perm (seg l a (i+1)):=by
  rw[IG (by omega) e];exact aaK.trans (List.Perm.append Ad (ζA _))
 grind[kU,hJ,QR]
def xT:Nat->List SV->Option (List Int)
 |0,[.fn (.func 84) [] [.ptr 1 0 20]]=>some []
 |k+1,x::r=>match x.int .i64,xT k r with
  |some n,some l=>some (n::l)
  |_,_=>none
 |_,_=>none
theorem QW:∀{k:Nat} {r:List SV} {l:List Int},xT k r=some l->gL r=gL (l.map (γe .i64)++[.fn (.func 84) [] [.ptr 1 0 20]])
 |0,r,l,h=>by
  unfold xT at h;split at h;·simp only[γ] at h;subst h;rfl
  ·rename_i h0;cases h0
  ·cases h;|k+1,[],l,h=>by simp[xT] at h;|k+1,x::r,l,h=>by
  simp only[xT] at h;split at h
  ·rename_i n l' h1 h2;simp only[γ] at h;subst h;simp only[gL,ξ,γy,QW h2,iK h1];rfl
  ·cases h
theorem QX:∀{l m:List Int} {z:List SV},l.length=m.length->gL (l.map (γe .i64)++z)=gL (m.map (γe .i64)++z)->l=m
 |[],[],_,_,_=>rfl
 |[],_::_,_,h,_=>by simp at h;|_::_,[],_,h,_=>by simp at h;|x::l,y::m,z,hl,h=>by
  simp only[ξ,γy,gL,Δ,SV.g,γ9,Value.int.injEq,true_and] at h;rw[h.1,QX (by simpa using hl) h.2]
def II (f:FuncId) (k:Nat) (β:Type) (Ae:β->List Int) (QY:List Int->Option β) (h0:∀b,(Ae b).length=k) (h1:∀l b,QY l=some b->l=Ae b) (h2:∀b c,Ae b=Ae c->b=c) (dom:(Nat×List Int×bn)×β->Prop) (out:(Nat×List Int×bn)×β->List Int):dF where
 f:=f;α:=(Nat×List Int×bn)×β;put a:=.ow 0 a.1.1 1::((Ae a.2).map (γe .i64)++[.fn (.func 84) [] [.ptr 1 0 20]]);st a:=[.row (.i .i64) a.1.2.1 3 true,.cells a.1.2.2.ss 27 20 false];dec v o:=match v,o with
  | .ow 0 n 1::r,[.row t l 3 true,.cells cs 27 20 false]=>match xT k r,iJ t (.i .i64) l,vq cs with
   |some xs,some l,some p=>match QY xs with
    |some b=>some ((n,l,p),b)
    |none=>none
   |_,_,_=>none
  |_,_=>none;ok v o a h:=by
  split at h
  ·split at h
   ·rename_i h3 h4 h5;split at h
    ·rename_i b hb;simp only[γ] at h;subst h;obtain⟨rfl,hh⟩:=mR h4;cases hh;have:=h1 _ _ hb;subst this;refine⟨by simp only[gL,QW h3],?_⟩;simp only[gO,ξ,γs,bq.g,zA h5]
    ·cases h
   ·cases h
  ·cases h
 inj a b e1 e2:=by
  obtain⟨⟨n,l,p⟩,x⟩:=a;obtain⟨⟨n',l',p'⟩,x'⟩:=b;simp only[gL,Δ,SV.g,εF,true_and] at e1;simp only[gO,ξ,γs,bq.g,Δ,bR.cells.injEq,and_true,true_and] at e2;have h3:p=p':=dE.inj p p' (by simp only[dE,SV.g,e2.2]);have h4:l=l':=by
   have hf:=congrArg γf e2.1;rw[fi,fi] at hf;exact lM (.i .i64) (by simpa[bp.sz] using hf) e2.1
  have h5:x=x':=h2 _ _ (QX (by rw[h0,h0]) e1.2);rw[e1.1.1,h3,h4,h5]
 dom:=dom;res _:=.bJ [];out a:=[.row (.i .i64) (out a) 3 true,.cells a.1.2.2.ss 27 20 false]
abbrev Srg:=Nat×List Int×bn
def Af (b:Int×Int):List Int:=[b.1,b.2]
def IJ:List Int->Option (Int×Int)
 |[a,b]=>some (a,b)
 |_=>none
theorem aaN:∀l b,IJ l=some b->l=Af b:=λl b h=>by
 unfold IJ at h;split at h;·simp only[γ] at h;subst h;rfl
 ·cases h
theorem aaO:∀b c,Af b=Af c->b=c:=λb c h=>by
 unfold Af at h;simp only[Δ,and_true] at h;exact εx h.1 h.2
def vH (a:Srg):Prop:=(bB a.2.2=0/\a.1=a.2.1.length)/\a.2.1.length<=1000/\∀x∈a.2.1,mr a.2.2 x
def IK (l:List Int) (a b:Int):Prop:=0<=a/\a<=b/\b<=l.length
theorem QZ {l m:List Int} (h:l=m):(bq.row (.i .i64) l 3 true).same (bq.row (.i .i64) m 3 true):=by subst h;rfl
def IL:dF:=II 152 2 (Int×Int) Af IJ (λ_=>rfl) aaN aaO (λa=>vH a.1/\IK a.1.2.1 a.2.1 a.2.2/\(seg a.1.2.1 a.2.1.toNat a.2.2.toNat).Pairwise (·<·)) λa=>hJ (fp a.1.2.2) a.1.2.1 a.2.1.toNat a.2.2.toNat
def aaP (n:Nat) (l:List Int) (p:bn) (a b:Int):Nat->cC
 |1=> .inv (Int×List Int) (λx=>⟨[(0,.ow 0 n 1),(1,.si .i64 a),(2,.si .i64 b),(3,.fn (.func 84) [] [.ptr 1 0 20]),(8,.si .i64 x.1)],[.row (.i .i64) x.2 3 true,.cells p.ss 27 20 false]⟩) (λs=>(iS s 8,oS (.i .i64) s 0))
   (λx=>(a<x.1/\(x.1<=b\/x.1=a+1))/\x.2=hJ (fp p) l a.toNat (if a<b then x.1 else a).toNat) (λx=>(b - x.1).toNat) λx k=>match k with
    |4=> .inv (Int×List Int) (λy=>⟨[(0,.ow 0 n 1),(1,.si .i64 a),(2,.si .i64 b),(3,.fn (.func 84) [] [.ptr 1 0 20]),(8,.si .i64 x.1),(9,.si .i64 y.1)],[.row (.i .i64) y.2 3 true,.cells p.ss 27 20 false]⟩) (λs=>(iS s 9,oS (.i .i64) s 0))
      (λy=>(a<=y.1/\y.1<=x.1)/\y.2=kU (fp p) l a.toNat x.1.toNat y.1.toNat/\∀s∈(dY (fp p) (seg l a.toNat x.1.toNat)).drop (y.1 - a).toNat,j7 (fp p) (bj l x.1.toNat 0) s=true) (λy=>(y.1 - a).toNat) λ_ _=> .look
    |_=> .look
 |_=> .look
theorem h343:dZ Tryz.prog IL:=by
 refine lp (L:=[]) (W:=[IC]) IL (λa=>aaP a.1.1 a.1.2.1 a.1.2.2 a.2.1 a.2.2) (by simpa using h320) (by simp) ?_;rintro⟨⟨n,l,p⟩,a,b⟩ ⟨⟨⟨hc,hn⟩,hl,ho⟩,⟨a0,a1,a2⟩,hi⟩;refine bO (let c:=γe .i64;let d:=(0:Int);let e:=cn .i64;let f:=bq.row;let g:=(1:Int);let m:=a+g;let o:=γS 0 n 1;let q:=SV.fn (Fn.func 84) [] [γP 1 0 20];let E:=c m;let w:=bp.i .i64;let F:=f w l 3 true;let k:=bq.cells [c p.supply.a0,c p.supply.a1,c p.supply.a2,c p.supply.a3,c p.supply.a4,c p.supply.a5,c p.opn.a0,c p.opn.a1,c p.opn.a2,c p.opn.a3,c p.opn.a4,c p.opn.a5,c p.cls.a0,c p.cls.a1,c p.cls.a2,c p.cls.a3,c p.cls.a4,c p.cls.a5,Θ w p.classes,Θ bp.off p.offers] 27 20 false;e m/\(((o.same o/\(c a).same (c a)/\(c b).same (c b)/\q.same q/\E.same E/\True)/\F.same F/\k.same k/\True)/\(a<m/\(m<=b\/m=m))/\l=hJ (fp p) l a.toNat (if a<b then m else a).toNat)/\∀(x:Int×List Int),let y:=c x.fst;let B:=f w x.snd 3 true;let r:=x.fst.toNat;let C:=dY (fp p) (seg l a.toNat r);let t:=x.fst+g;let G:=c t;let N:=hJ (fp p) l a.toNat (if a<b then t else a).toNat;(a<x.fst/\(x.fst<=b\/x.fst=m))/\x.snd=hJ (fp p) l a.toNat (if a<b then x.fst else a).toNat->(decide (x.fst<b)=true->(((o.same o/\(c a).same (c a)/\(c b).same (c b)/\q.same q/\y.same y/\y.same y/\True)/\B.same B/\k.same k/\True)/\(a<=x.fst/\x.fst<=x.fst)/\x.snd=kU (fp p) l a.toNat r r/\∀(s:Int),s∈γ4 (x.fst - a).toNat C->j7 (fp p) (bj l r d) s=true)/\∀(x_1:Int×List Int),let H:=f w x_1.snd 3 true;let v:=x_1.fst.toNat;let D:=bj x_1.snd v d;let j:=x_1.fst - g;let z:=j.toNat;let A:=bj x_1.snd z d;let h:=x_1.snd.length;let z23:Nat:=(x_1.snd.set v A).length;let I:=c j;let J:=(x_1.snd.set v A).set z D;let K:=f w J 3 true;let L:=e t/\((o.same o/\(c a).same (c a)/\(c b).same (c b)/\q.same q/\G.same G/\True)/\H.same H/\k.same k/\True)/\((a<t/\(t<=b\/t=m))/\x_1.snd=N)/\(b - t).toNat<(b - x.fst).toNat;let M:=λ(u:Bool) ↦decide (Ab p D A<d)=u;((a<=x_1.fst/\x_1.fst<=x.fst)/\x_1.snd=kU (fp p) l a.toNat r v/\∀(s:Int),s∈γ4 (x_1.fst - a).toNat C->j7 (fp p) (bj l r d) s=true)->(decide (a<x_1.fst)=true->n=h/\d<=x_1.fst/\x_1.fst<(↑h:Int)/\n=h/\v<h/\e j/\n=h/\d<=j/\j<(↑h:Int)/\n=h/\z<h/\(bB p=d/\mr p D/\mr p A)/\(M true->e j/\e j/\n=h/\d<=j/\j<(↑h:Int)/\n=h/\z<h/\n=h/\d<=x_1.fst/\x_1.fst<(↑h:Int)/\n=h/\v<h/\n=h/\d<=x_1.fst/\x_1.fst<(↑h:Int)/\n=h/\v<h/\n=z23/\d<=j/\j<(↑z23:Int)/\n=z23/\z<z23/\e j/\((o.same o/\(c a).same (c a)/\(c b).same (c b)/\q.same q/\y.same y/\I.same I/\True)/\K.same K/\k.same k/\True)/\((a<=j/\j<=x.fst)/\J=kU (fp p) l a.toNat r z/\∀(s:Int),s∈γ4 (j - a).toNat C->j7 (fp p) (bj l r d) s=true)/\(j - a).toNat<(x_1.fst - a).toNat)/\(M false->L))/\(decide (a<x_1.fst)=false->L))/\(decide (x.fst<b)=false->(SV.bJ []).same (SV.bJ [])/\B.same (f w (hJ (fp p) l a.toNat b.toNat) 3 true)/\k.same k/\True)) (by kernel_rfl) ?_;simp only[vcs];have hc:bB p=0:=hc;have hn:n=l.length:=hn;have hl:l.length<=1000:=hl;have ho:∀x∈l,mr p x:=ho;have a0:0<=a:=a0;have a1:a<=b:=a1;have a2:b<=l.length:=a2;have hi:(seg l a.toNat b.toNat).Pairwise (·<·):=hi;generalize hD:fp p=D at*;have sl:∀{i:Int},a<=i->i<=b->(hJ D l a.toNat i.toNat).length=l.length:=λh1 h2=>QT (by omega) (by omega);refine⟨by omega,⟨⟨by omega,.inr trivial⟩,?_⟩,?_⟩
 ·by_cases hab:a<b;·rw[if_pos hab,show(a+1).toNat=a.toNat+1 by omega,aaB (by omega)]
  ·rw[if_neg hab,QV]
 rintro⟨i,m⟩ ⟨⟨i0,i1⟩,hm⟩;simp only at i0 i1 hm ⊢;refine⟨λhib=>?_,λhib=>QZ ?_⟩
 ·rw[if_pos (by omega)] at hm;have hx:=ho _ (dj (d:=(0:Int)) (show i.toNat<l.length by omega));have hS:∀s∈dY D (seg l a.toNat i.toNat),s<bj l i.toNat 0/\mr p s:=λs hs=>by
   have h1:=IE.1 hs;have h2:(seg l a.toNat (i.toNat+1)).Pairwise (·<·):=by
    refine hi.sublist ?_;unfold seg;exact List.take_sublist_take_left (by omega)
   rw[IG (by omega) (by omega)] at h2;refine⟨(δE.1 h2).2.2 s h1 _ (by simp),ho s ?_⟩;unfold seg at h1;exact γO (γd h1)
  have hSl:(dY D (seg l a.toNat i.toNat)).length=i.toNat - a.toNat:=by rw[sw,vG (by omega) (by omega)]
  have il:∀{j:Nat},(kU D l a.toNat i.toNat j).length=l.length:=λ{j}=>aaC (by omega) (by omega);refine⟨⟨⟨by omega,by omega⟩,?_,?_⟩,?_⟩;·rw[hm,aaD (by omega) (by omega)]
  ·intro s hs;rw[List.drop_of_length_le (by omega)] at hs;simp at hs
  rintro⟨j,m2⟩ ⟨⟨j0,j1⟩,hm2,hle⟩;simp only at j0 j1 hm2 hle ⊢;subst hm2;simp only[τ,il];have fin:(j=a\/j7 D (bj (dY D (seg l a.toNat i.toNat)) (j.toNat - 1 - a.toNat) 0) (bj l i.toNat 0)=true)->kU D l a.toNat i.toNat j.toNat=hJ D l a.toNat (if a<b then i+1 else a).toNat:=λh=>by
   rw[if_pos (by omega),show(i+1).toNat=i.toNat+1 by omega];refine aaL (by omega) (by omega) (by omega) ?_ ?_;·rw[show j.toNat - a.toNat=(j - a).toNat by omega];exact hle
   ·rcases h with h|h;·exact .inl (by omega)
    ·exact .inr h
  refine⟨λhj=>?_,λhj=>?_⟩
  ·obtain⟨k1,k2,k3⟩:=@aaI D l a.toNat i.toNat j.toNat (by omega) (by omega) (by omega);have ej:(j - 1).toNat=j.toNat - 1:=by omega
   rw[ej,k1,k2,k3];have hs:=dj (d:=(0:Int)) (show j.toNat - 1 - a.toNat<(dY D (seg l a.toNat i.toNat)).length by omega);obtain⟨s1,s2⟩:=hS _ hs;have hcmp:=aax hc hx s2;rw[hD] at hcmp;rw[hcmp];refine⟨by omega,by omega,by omega,by omega,by omega,by omega,by omega,by omega,by omega,by omega,by omega,⟨hc,hx,s2⟩,λh1=>?_,λh1=>?_⟩
   ·repeat' refine γi ?_ ?_
    all_goals first|omega|rfl|skip
    intro s hs2;rw[show(j - 1 - a).toNat=j.toNat - 1 - a.toNat by omega,List.drop_eq_getElem_cons (show j.toNat - 1 - a.toNat<(dY D (seg l a.toNat i.toNat)).length by omega)] at hs2;rcases List.mem_cons.1 hs2 with rfl|hs2
    ·rw[<-cV (d:=(0:Int))];exact Ac.2 (.inl h1)
    ·refine hle s ?_;rw[show(j - a).toNat=j.toNat - 1 - a.toNat+1 by omega];exact hs2
   ·have:=fin (.inr (Ac.2 (by omega)));repeat' refine γi ?_ ?_
    all_goals first|omega|exact this|rfl
  ·have:=fin (.inl (by omega));repeat' refine γi ?_ ?_
   all_goals first|omega|exact this|rfl
 ·rw[hm];by_cases hab:a<b;·rw[if_pos hab,show i=b by omega]
  ·rw[if_neg hab,show a=b by omega]
theorem aaQ {l:List Int} {a b:Nat} {x:Int} (h:x∈seg l a b):x∈l:=by
 unfold seg at h;exact γO (γd h)
theorem aaR {D:Int->Int} {l:List Int} {a b:Nat} {x:Int} (h:x∈hJ D l a b):x∈l:=by
 unfold hJ at h;simp only[List.mem_append] at h;rcases h with(h|h)|h;·exact γd h
 ·exact aaQ (IE.1 h)
 ·exact γO h
def Ag (b:Int):List Int:=[b]
def IP:List Int->Option Int
 |[a]=>some a
 |_=>none
theorem aaS:∀l b,IP l=some b->l=Ag b:=λl b h=>by
 unfold IP at h;split at h;·simp only[γ] at h;subst h;rfl
 ·cases h
theorem aaT:∀b c,Ag b=Ag c->b=c:=λb c h=>by
 simp_all[Ag]
def DC (_:Unit):List Int:=[]
def IQ:List Int->Option Unit
 |[]=>some ()
 |_=>none
theorem aaU:∀l b,IQ l=some b->l=DC b:=λl b h=>by
 unfold IQ at h;split at h;·rfl
 ·cases h
theorem aaV:∀b c,DC b=DC c->b=c:=λ_ _ _=>rfl
theorem Q0 {D:Int->Int} {l:List Int} {n:Nat} (h:n=l.length):hJ D l 0 n=dY D l:=by
 grind[hJ,seg]
theorem aaW {D:Int->Int} {l:List Int} {b c d:Nat} (h:b<=c) (e:b<=l.length):seg (hJ D l 0 b) c d=seg l c d:=by
 have a:(dY D (seg l 0 b)).length=b:=by grind[sw,vG]
 unfold hJ;have:(l.take 0++dY D (seg l 0 b)++l.drop b).drop c=l.drop c:=by
  rw[List.take_zero,δp,List.drop_append,List.drop_eq_nil_of_le (by omega),δp,δi,a,show b+(c - b)=c by omega]
 grind[seg]
def IU:dF:=II 122 1 Int Ag IP (λ_=>rfl) aaS aaT (λa=>(vH a.1/\a.1.2.1.Pairwise (·<·))/\a.2=a.1.2.1.length/\a.1.2.1.length<=20) λa=>dY (fp a.1.2.2) a.1.2.1
def aaX (n:Nat) (l:List Int) (p:bn):Nat->cC
 |2=> .inv (Int×Int×List Int) (λx=>⟨[(0,.ow 0 n 1),(1,.si .i64 l.length),(2,.fn (.func 84) [] [.ptr 1 0 20]),(6,.si .i64 20),(7,.si .i64 x.1),(8,.si .i64 x.2.1)],[.row (.i .i64) x.2.2 3 true,.cells p.ss 27 20 false]⟩) (λs=>(iS s 7,iS s 8,oS (.i .i64) s 0))
   (λx=>x.2.1=x.1+20/\(x.1=0/\x.2.2=l\/x.1=20/\l.length=20/\x.2.2=hJ (fp p) l 0 20)) (λx=>(1000 - x.1).toNat) λ_ _=> .look
 |7=> .inv (Int×List Int) (λx=>⟨[(0,.ow 0 n 1),(1,.si .i64 l.length),(2,.fn (.func 84) [] [.ptr 1 0 20]),(6,.si .i64 x.1)],[.row (.i .i64) x.2 3 true,.cells p.ss 27 20 false]⟩) (λs=>(iS s 6,oS (.i .i64) s 0))
   (λx=>x.1=20/\x.2=dY (fp p) l) (λx=>(1000 - x.1).toNat) λ_ _=> .look
 |_=> .look
theorem h333:dZ Tryz.prog IU:=by
 refine lp (L:=[]) (W:=[IL]) IU (λa=>aaX a.1.1 a.1.2.1 a.1.2.2) (by simpa using h343) (by simp) ?_;rintro⟨⟨n,l,p⟩,N⟩ ⟨⟨⟨⟨hc,hn⟩,hl,ho⟩,hi⟩,hN,h20⟩;simp only at hc hn hl ho hi hN h20;subst hN;refine bO (let a:=γe .i64;let b:=(20:Int);let c:=bq.row;let d:=(0:Int);let e:=γx .i64;let g:=γS 0 n 1;let h:=(↑l.length:Int);let j:=a h;let k:=SV.fn (Fn.func 84) [] [γP 1 0 20];let m:=a 20;let v:=e 0;let o:=bp.i .i64;let w:=c o l 3 true;let f:=bq.cells [a p.supply.a0,a p.supply.a1,a p.supply.a2,a p.supply.a3,a p.supply.a4,a p.supply.a5,a p.opn.a0,a p.opn.a1,a p.opn.a2,a p.opn.a3,a p.opn.a4,a p.opn.a5,a p.cls.a0,a p.cls.a1,a p.cls.a2,a p.cls.a3,a p.cls.a4,a p.cls.a5,Θ o p.classes,Θ bp.off p.offers] 27 20 false;let s:=hJ (fp p) l 0 20;let t:=dY (fp p) l;(((g.same g/\j.same j/\k.same k/\(e 20).same m/\v.same (a 0)/\(e 20).same m/\True)/\w.same w/\f.same f/\True)/\b=b/\(d=d/\l=l\/d=b/\l.length=20/\l=s))/\∀(x:Int×Int×List Int),let y:=decide (x.snd.fst<=h);let q:=x.fst.toNat;let r:=x.snd.fst+b;let z:=a x.snd.fst;let A:=a r;let u:=hJ (fp p) x.snd.snd q x.snd.fst.toNat;let B:=c o u 3 true;let C:=hJ (fp p) x.snd.snd q h.toNat;let D:=c o C 3 true;x.snd.fst=x.fst+b/\(x.fst=d/\x.snd.snd=l\/x.fst=b/\l.length=20/\x.snd.snd=s)->(y=true->(vH (n,x.snd.snd,p)/\IK x.snd.snd x.fst x.snd.fst/\ζj (λx1 x2 ↦x1<x2) (seg x.snd.snd q x.snd.fst.toNat))/\cn .i64 r/\((g.same g/\j.same j/\k.same k/\m.same m/\z.same z/\A.same A/\True)/\B.same B/\f.same f/\True)/\(r=r/\(x.snd.fst=d/\u=l\/x.snd.fst=b/\l.length=20/\u=s))/\((1000:Int) - x.snd.fst).toNat<((1000:Int) - x.fst).toNat)/\(y=false->(vH (n,x.snd.snd,p)/\IK x.snd.snd x.fst h/\ζj (λx1 x2 ↦x1<x2) (seg x.snd.snd q h.toNat))/\(((g.same g/\j.same j/\k.same k/\m.same m/\True)/\D.same D/\f.same f/\True)/\b=b/\C=t)/\∀(x:Int×List Int),let E:=c o x.snd 3 true;x.fst=b/\x.snd=t->(decide (x.fst<h)=true->cn .i64 ((2:Int)*x.fst)/\Look (cq.mk [(0,g),(1,j),(2,k),(6,a x.fst),(7,v),(8,a ((2:Int)*x.fst))] [E,f]))/\(decide (x.fst<h)=false->(SV.bJ []).same (SV.bJ [])/\E.same (c o t 3 true)/\f.same f/\True))) (by kernel_rfl) ?_;simp only[vcs];have pw:∀a b,(seg l a b).Pairwise (·<·):=λa b=>List.Pairwise.sublist ((List.take_sublist _ _).trans (List.drop_sublist _ _)) hi;have e0:((l.length:Int)).toNat=l.length:=by omega
 rw[e0];refine⟨.inl trivial,?_⟩;rintro⟨a,b,w⟩ ⟨hb,hw⟩;simp only at hb hw ⊢;subst hb;refine⟨λh=>?_,λh=>?_⟩
 ·rcases hw with⟨rfl,rfl⟩|⟨rfl,h2,rfl⟩;·refine⟨⟨⟨⟨hc,hn⟩,hl,ho⟩,⟨?_,?_,?_⟩,pw _ _⟩,?_,.inr ⟨?_,?_,rfl⟩,?_⟩<;>omega
  ·omega
 ·refine⟨?_,?_,?_⟩
  ·rcases hw with⟨rfl,rfl⟩|⟨rfl,h2,rfl⟩;·refine⟨⟨⟨hc,hn⟩,hl,ho⟩,⟨?_,?_,?_⟩,pw _ _⟩<;>omega
   ·have hw:=@QT (fp p) l 0 20 (by omega) (by omega);exact⟨⟨⟨hc,by simp only[hw];exact hn⟩,by simp only[hw];exact hl,λx hx=>ho x (aaR hx)⟩,⟨by omega,by omega,by rw[hw];omega⟩,by rw[aaW (by omega) (by omega)];exact pw _ _⟩
  ·rcases hw with⟨rfl,rfl⟩|⟨rfl,h2,rfl⟩;·exact Q0 rfl
   ·rw[h2];show hJ _ _ 20 20=_;rw[QV];exact Q0 h2.symm
  ·rintro⟨s,w⟩ hw;simp only at hw ⊢;exact⟨λh=>by omega,λh=>QZ hw.2⟩
def IV:dF:=II 83 0 Unit DC IQ (λ_=>rfl) aaU aaV (λa=>(vH a.1/\a.1.2.1.Pairwise (·<·))/\a.1.2.1.length<=20) λa=>dY (fp a.1.2.2) a.1.2.1
theorem h319:dZ Tryz.prog IV:=by
 refine lp (L:=[]) (W:=[IU]) IV lk (by simpa using h333) (by simp) ?_;rintro⟨⟨n,l,p⟩,u⟩ ⟨⟨⟨⟨hc,hn⟩,hl,ho⟩,hi⟩,h20⟩;simp only at hc hn hl ho hi h20;refine bO (let a:=bq.row (bp.i .i64) (dY (fp p) l) 3 true;let b:=bq.cells (bn.ss p) 27 20 false;((vH (n,l,p)/\ζj (λx1 x2 ↦x1<x2) l)/\(↑n:Int)=(↑l.length:Int)/\l.length<=20)/\(SV.bJ []).same (SV.bJ [])/\a.same a/\b.same b/\True) (by kernel_rfl) ?_;simp only[vcs];exact⟨⟨⟨⟨hc,hn⟩,hl,ho⟩,hi⟩,by omega,h20⟩
def dH (n:Nat):List Int:=(List.range n).map λi:Nat=>(i:Int)
theorem gG {n:Nat}:(dH n).length=n:=by simp[dH]
theorem vI {n:Nat}:dH (n+1)=dH n++[(n:Int)]:=by simp[dH,List.range_succ]
theorem vJ {n:Nat}:(dH n).Pairwise (·<·):=by
 unfold dH;rw[List.pairwise_map];exact List.pairwise_lt_range.imp λh=>by omega
theorem nk {n:Nat} {x:Int}:x∈dH n↔0<=x/\x<n:=by
 unfold dH;rw[List.mem_map];constructor;·grind
 ·rintro⟨b,a⟩;exact⟨x.toNat,List.mem_range.2 (by omega),by omega⟩
def my (n i:Nat):List Int:=dH i++δ (n - i) 0
theorem Q5 {n i:Nat} (h:i<=n):(my n i).length=n:=by grind[my,gG]
theorem aaY {n:Nat}:my n 0=δ n 0:=by simp[my,dH]
theorem aaZ {n:Nat}:my n n=dH n:=by simp[my]
theorem aa0 {n i:Nat} (h:i<n):(my n i).set i (i:Int)=my n (i+1):=by
 unfold my;rw[List.set_append_right _ _ (by grind[gG]),gG,Nat.sub_self,show n - i=(n - (i+1))+1 by omega,δl,List.set_cons_zero,vI,γK];rfl
def vK (p:bn):List Int:=dY (fp p) (dH p.offers.length)
def IW:bL:=⟨52,bn,.one dE,λp=>p.offers.length<=20,λp=> .row (.i .i64) (if bB p=0 then vK p else[])⟩
def aa1 (p:bn):Nat->cC
 |5=> .inv Int (λi=>⟨[(1,.ptr 0 0 20),(3,.ow 1 (my p.offers.length i.toNat).length 1),(13,.si .i64 p.offers.length),(14,.si .i64 i)],[.cells p.ss 27 20 false,.row (.i .i64) (my p.offers.length i.toNat) 3 true]⟩)
   (λs=>iS s 14) (λi=>0<=i/\i<=p.offers.length) (λi=>(p.offers.length - i).toNat) λ_ _=> .look
 |_=> .look
theorem h308:Holds Tryz.prog IW:=by
 refine con (L:=[qs]) (W:=gB [IV]) IW aa1 (ln (by simpa using h319)) (by simpa using h79) ?_;intro(p:bn) (hp:p.offers.length<=20);refine bO (let a:=γe .i64;let b:=(0:Int);let c:=bq.row;let d:=Θ;let e:=γS;let r:=decide (bB p≠b);let g:=bp.i .i64;let s:=d g (if bB p=b then vK p else[]);let h:=(↑p.offers.length:Int);let n:=γP 0 0 20;let l:=p.offers.length;let j:=(↑l:Int);let q:=a j;let o:=bq.cells [a p.supply.a0,a p.supply.a1,a p.supply.a2,a p.supply.a3,a p.supply.a4,a p.supply.a5,a p.opn.a0,a p.opn.a1,a p.opn.a2,a p.opn.a3,a p.opn.a4,a p.opn.a5,a p.cls.a0,a p.cls.a1,a p.cls.a2,a p.cls.a3,a p.cls.a4,a p.cls.a5,d g p.classes,d bp.off p.offers] 27 20 false;True/\(r=true->(d g []).same s)/\(r=false->b<=h/\h<=h/\h*(8:Int)<=(140737488355328:Int)/\h<=(1000000000000:Int)/\(((n.same n/\(e 1 h.toNat 1).same (e 1 (my l 0).length 1)/\(a (↑h.toNat:Int)).same q/\(γx .i64 0).same (a 0)/\True)/\o.same o/\(c g (δ h.toNat b) 3 true).same (c g (my l 0) 3 true)/\True)/\b<=b/\b<=j)/\∀(x:Int),let f:=my l x.toNat;let m:=f.length;let k:=x+(1:Int);let t:=a k;b<=x/\x<=j->(decide (x<j)=true->m=f.length/\b<=x/\x<(↑f.length:Int)/\m=f.length/\x.toNat<f.length/\cn .i64 k/\((n.same n/\(e 1 m 1).same (e 1 (my l k.toNat).length 1)/\q.same q/\t.same t/\True)/\o.same o/\(c g (f.set x.toNat x) 3 true).same (c g (my l k.toNat) 3 true)/\True)/\(b<=k/\k<=j)/\(j - k).toNat<(j - x).toNat)/\(decide (x<j)=false->((vH (m,f,p)/\ζj (λx1 x2 ↦x1<x2) f)/\m<=20)/\m=(dY (fp p) f).length/\(d g (dY (fp p) f)).same s))) (by kernel_rfl) ?_;simp only[vcs];refine⟨λh=>by rw[if_neg h],λh=>?_⟩;have hc:bB p=0:=Classical.not_not.1 h;rw[if_pos hc];have e0:((p.offers.length:Int)).toNat=p.offers.length:=by omega
 have how:∀{x y:Nat},x=y->(γS 1 x 1).same (γS 1 y 1):=by rintro _ _ rfl;rfl
 rw[e0,aaY];refine⟨by omega,by omega,by omega,by omega,⟨⟨⟨how (by simp),rfl⟩,rfl⟩,by omega,by omega⟩,?_⟩;rintro i ⟨i0,i1⟩;have hL:=@Q5 p.offers.length i.toNat (by omega);refine⟨λhi=>?_,λhi=>?_⟩
 ·have hs:=@aa0 p.offers.length i.toNat (by omega);rw[show((i.toNat:Nat):Int)=i by omega] at hs;have hL2:=@Q5 p.offers.length (i.toNat+1) (by omega);rw[show(i+1).toNat=i.toNat+1 by omega,hs];exact⟨i0,by omega,by omega,by omega,⟨how (by omega),rfl⟩,by omega,by omega⟩
 ·rw[show i.toNat=p.offers.length by omega,aaZ];refine⟨⟨⟨⟨⟨hc,rfl⟩,by simp only[gG];omega,λx hx=>by have:=nk.1 hx;exact this⟩,vJ⟩,by simp only[gG];omega⟩,by rw[sw],rfl⟩
def ew (x y:Int):Int:=(Nat.gcd x.toNat y.toNat:Nat)
theorem aa2 {x y:Int} (h0:0<=x) (h1:0<y):ew y (x % y)=ew x y:=by
 unfold ew;congr 1;rw[Nat.gcd_comm x.toNat,Nat.gcd_rec y.toNat x.toNat,Nat.gcd_comm,Int.toNat_emod h0 (by omega)]
theorem aa3 {x:Int} (h0:0<=x):ew x 0=x:=by unfold ew;simp;omega
theorem lV {i u v:Nat} (h:u=v):(γS i u 1).same (γS i v 1):=by subst h;rfl
theorem Q6 {l:List Int} (h:l=[]):(Θ (.i .i64) []).same (Θ (.i .u32) l):=by subst h;rfl
def sbO (x y:Int):SV:=.bJ [.row (.i .u32) (cM (x - y)),.sb (decide (y<=x))]
theorem IX {n:Int} (h:n<=0):cM n=[]:=by
 unfold cM;rw[show n.toNat=0 by omega];rfl
def IY:bL:=⟨146,List Int×List Int,.cons (dM (.i .u32)) (.one (dM (.i .u32))),λa=>(bz a.1/\bz a.2)/\a.1.length<=100000000000/\a.2.length<=100000000000,
 λa=>sbO (bk a.1) (bk a.2)⟩
def aa5 (a:List Int×List Int):Nat->cC
 |7=> .inv (Int×Int×List Int) (λx=>⟨[(0,.row (.i .u32) (bI a.1)),(1,.row (.i .u32) (bI a.2)),(6,.ow 0 x.2.2.length 1),(7,.si .u64 x.2.1),(22,.si .i64 (bI a.1).length),(23,.si .i64 x.1)],[.row (.i .u32) x.2.2 187 true]⟩)
  (λs=>(iS s 23,iS s 7,oS (.i .u32) s 0))
  (λx=>(0<=x.1/\x.1<=(bI a.1).length)/\(0<=x.2.1/\x.2.1<=1)/\bz x.2.2/\x.2.2.length=(bI a.1).length/\(∀j,x.1.toNat<=j->bj x.2.2 j 0=0)/\
   bk x.2.2 - 4294967296^x.1.toNat*x.2.1=bk ((bI a.1).take x.1.toNat) - bk ((bI a.2).take x.1.toNat)) (λx=>((bI a.1).length - x.1).toNat) λ_ _=> .look
 |_=> .look
theorem Q7 {s t row:List Int} {i:Nat} {br d v c:Int} (hs:bz s) (ht:bz t) (hr:bz row) (hl:row.length=s.length) (hz:∀j,i<=j->bj row j 0=0)
  (hv:bk row - 4294967296^i*br=bk (s.take i) - bk (t.take i)) (hi:i<s.length) (hd:d=bj s i 0 - br - bj t i 0) (h0:0<=v/\v<4294967296) (hc:v - 4294967296*c=d):
  bz (row.set i v)/\(row.set i v).length=s.length/\(∀j,i+1<=j->bj (row.set i v) j 0=0)/\bk (row.set i v) - 4294967296^(i+1)*c=bk (s.take (i+1)) - bk (t.take (i+1)):=by
 refine⟨ni hr h0.1 h0.2,by simp[hl],λj hj=>by rw[pE (by omega)];exact hz j (by omega),?_⟩;rw[tW (by omega),lQ,lQ,hz i (φ _),γM,ε2];have h1:(4294967296:Int)^i*(v - 4294967296*c)=4294967296^i*(bj s i 0 - br - bj t i 0):=by rw[hc,hd]
 simp only[εG] at h1;rw[<-δk] at h1;omega
theorem h155:Holds Tryz.prog IY:=by
 refine cF (L:=[rj,xM]) IY aa5 (by simpa using⟨h152,h132⟩) ?_;rintro⟨a,b⟩ ⟨⟨ha,hb⟩,hla,hlb⟩;simp only at ha hb hla hlb;refine bO (let c:=(0:Int);let d:=(18446744073709551616:Int);let e:=Θ;let f:=(4294967296:Int);let g:=γe .i64;let h:=(1:Int);let k:=γS;let l:=SV.bJ;let z0:Nat:=(bI a).length;let B:=decide (lS (bk (bI a)) (bk (bI b))<c);let m:=bp.i .u32;let C:=l [e m (cM (bk a - bk b)),SV.sb (decide (bk b<=bk a))];let o:=(↑(bI a).length:Int);let q:=δ o.toNat c;let p:=(↑z0:Int);let z:=g p;let D:=bq.row m q 187 true;let A:=(↑(bI b).length:Int);a.length<=1000000000000/\b.length<=1000000000000/\((bz (bI a)/\bz (bI b))/\z0<=1000000000000/\(bI b).length<=1000000000000)/\(B=true->(l [e (bp.i .i64) [],SV.bl false]).same C)/\(B=false->c<=o/\o<=o/\o*(4:Int)<=(140737488355328:Int)/\o<=(1000000000000:Int)/\((((e m (bI a)).same (e m (bI a))/\(e m (bI b)).same (e m (bI b))/\(k 0 o.toNat 1).same (k 0 q.length 1)/\(γx .u64 0).same (γe .u64 0)/\(g o).same z/\(γx .i64 0).same (g 0)/\True)/\D.same D/\True)/\(c<=c/\c<=p)/\(c<=c/\c<=h)/\bz q/\q.length=z0/\(∀(j:Nat),0<=j->bj q j c=c)/\bk q - c=c)/\∀(x:Int×Int×List Int),let r:=x.snd.snd.length;let v:=x.snd.snd.length;let n:=x.fst.toNat;let s:=x.fst+h;let E:=g s;let w:=s.toNat;let F:=bj (bI a) n c;let G:=λ(u u_1:Int) ↦let H:=(u % d - u_1) % d;let t:=x.snd.snd.set n (H % f);let y:=H / (9223372036854775808:Int);let I:=γe .u64 y;let J:=bq.row m t 187 true;c<=(63:Int)/\(63:Int)<=(64:Int)/\r=v/\c<=x.fst/\x.fst<(↑v:Int)/\r=v/\n<v/\cn .i64 s/\(((e m (bI a)).same (e m (bI a))/\(e m (bI b)).same (e m (bI b))/\(k 0 r 1).same (k 0 t.length 1)/\I.same I/\z.same z/\E.same E/\True)/\J.same J/\True)/\((c<=s/\s<=p)/\(c<=y/\y<=h)/\bz t/\t.length=z0/\(∀(j:Nat),w<=j->bj t j c=c)/\bk t - f^w*y=bk (ω w (bI a)) - bk (ω w (bI b)))/\(p - s).toNat<(p - x.fst).toNat;(c<=x.fst/\x.fst<=p)/\(c<=x.snd.fst/\x.snd.fst<=h)/\bz x.snd.snd/\r=z0/\(∀(j:Nat),n<=j->bj x.snd.snd j c=c)/\bk x.snd.snd - f^n*x.snd.fst=bk (ω n (bI a)) - bk (ω n (bI b))->(decide (x.fst<p)=true->c<=x.fst/\x.fst<o/\n<(bI a).length/\(decide (x.fst<A)=true->c<=x.fst/\x.fst<A/\n<(bI b).length/\G (F % d - x.snd.fst) (bj (bI b) n c % d))/\(decide (x.fst<A)=false->G F x.snd.fst))/\(decide (x.fst<p)=false->r=v/\r<=1000000000000/\(l [e m (bI x.snd.snd),SV.bl true]).same C))) (by kernel_rfl) ?_;simp only[vcs];obtain⟨va,na⟩:=@rk a;obtain⟨vb,nb⟩:=@rk b;have da:=sj ha;have db:=sj hb;have la:=@tV a;have lb:=@tV b;have pa:=fb da;have pb:=fb db;rw[<-va,<-vb];generalize bI a=s at*;generalize bI b=t at*;have hr0:∀n j,bj (δ n (0:Int)) j 0=0:=λn j=>by
  unfold bj;rw[δ1];split<;>rfl
 have hd0:∀n,bz (δ n 0):=λn d hd=>by
  have:=δZ hd;omega
 have hv0:∀n,bk (δ n 0)=0:=λn=>by
  induction n with
  |zero=>rfl;|succ n ih=>simp only[δl,bk,ih];omega
 refine⟨by omega,by omega,⟨⟨da,db⟩,by omega,by omega⟩,λhlt=>?_,λhge=>⟨by omega,by omega,by omega,by omega,?_,?_⟩⟩
 ·have hlt2:bk s<bk t:=by unfold lS at hlt;split at hlt<;>(try split at hlt)<;>omega
  refine⟨Q6 (IX (by omega)),?_⟩;rw[eq_comm,decide_eq_false_iff_not];omega
 ·repeat' refine γi ?_ ?_
  all_goals first|omega|exact lV (by simp)|exact hd0 _|exact λj _=>hr0 _ j|(simp;done)|(rw[hv0];rfl)
 have C9:bk t<=bk s:=by unfold lS at hge;split at hge<;>(try split at hge)<;>omega
 rintro⟨i,br,row⟩ ⟨⟨i0,i1⟩,⟨b0,b1⟩,hr,hl,hz,hv⟩;simp only at i0 i1 b0 b1 hr hl hz hv ⊢;refine⟨λlR=>?_,λnh=>?_⟩
 ·have d1:=ec da i.toNat;have d2:=ec db i.toNat;have e:(i+1).toNat=i.toNat+1:=by omega
  refine⟨i0,lR,by omega,λht=>?_,λht=>?_⟩
  ·generalize hq:((bj s i.toNat 0 % 18446744073709551616 - br) % 18446744073709551616 - bj t i.toNat 0 % 18446744073709551616) % 18446744073709551616=q;obtain⟨k1,k2,k3,k4⟩:=Q7 (v:=q % 4294967296) (c:=q / 9223372036854775808) da db hr hl hz hv (by omega) rfl (by omega) (by omega);rw[e];repeat' refine γi ?_ ?_
   all_goals first|omega|exact lV (by simp)|exact k1|exact k2|exact k3|exact k4
  ·have hz2:=Du (a:=t) (i:=i.toNat) (by omega);generalize hq:(bj s i.toNat 0 % 18446744073709551616 - br) % 18446744073709551616=q;obtain⟨k1,k2,k3,k4⟩:=Q7 (v:=q % 4294967296) (c:=q / 9223372036854775808) da db hr hl hz hv (by omega) rfl (by omega) (by omega);rw[e];repeat' refine γi ?_ ?_
   all_goals first|omega|exact lV (by simp)|exact k1|exact k2|exact k3|exact k4
 ·have hi:i.toNat=s.length:=by omega
  have hlen:t.length<=s.length:=by
   by_cases h:s.length<t.length
   ·have:=xK da db nb h;omega
   ·omega
  rw[hi,π,List.take_of_length_le hlen] at hv;have hbd:=ng hr;have hp:=pow_pos s.length;rw[hl] at hbd;have hb0:br=0:=by
   by_cases h:br=0;·exact h
   ·have:br=1:=by omega
    subst this;omega
  rw[hb0,δJ,ε2] at hv;refine⟨by omega,?_,?_⟩;·rw[qA hr,hv]
  ·rw[eq_comm,decide_eq_true_eq];exact C9
theorem Q8 {n j:Nat}:bj (δ n (0:Int)) j 0=0:=by
 unfold bj;rw[δ1];split<;>rfl
theorem Ah {n:Nat}:bz (δ n 0):=λd hd=>by
 have:=δZ hd;omega
theorem xU:∀{n:Nat},bk (δ n 0)=0
 |0=>rfl
 |n+1=>by simp only[δl,bk,@xU n];omega
theorem aa6 {o b:List Int} {x:Int} {i k:Nat}:ix o b x i (k+1)=((ix o b x i k).1.set (i+k) ((x*bj b k 0+bj (ix o b x i k).1 (i+k) 0+(ix o b x i k).2) % 4294967296),(x*bj b k 0+bj (ix o b x i k).1 (i+k) 0+(ix o b x i k).2) / 4294967296):=rfl
def xW:bL:=⟨144,List Int×List Int,.cons (dM (.i .u32)) (.one (dM (.i .u32))),λa=>(bz a.1/\bz a.2)/\a.1.length<=100000000000/\a.2.length<=100000000000,
 λa=> .row (.i .u32) (cM (bk a.1*bk a.2))⟩
def stM (a:List Int×List Int) (row:List Int):bZ:=[.row (.i .u32) row 187 true]
def aa7 (a:List Int×List Int):Nat->cC
 |3=> .inv (Int×List Int) (λx=>⟨[(0,.row (.i .u32) a.1),(1,.row (.i .u32) a.2),(5,.ow 0 x.2.length 1),(17,.si .i64 a.1.length),(18,.si .i64 x.1)],stM a x.2⟩)
  (λs=>(iS s 18,oS (.i .u32) s 0))
  (λx=>(0<=x.1/\x.1<=a.1.length)/\bz x.2/\x.2.length=a.1.length+a.2.length/\bk x.2=bk (a.1.take x.1.toNat)*bk a.2) (λx=>(a.1.length - x.1).toNat)
  λx=>λ
   |7=> .inv (Int×Int×List Int) (λy=>⟨[(0,.row (.i .u32) a.1),(1,.row (.i .u32) a.2),(5,.ow 0 y.2.2.length 1),(6,.si .i64 x.1),(7,.si .u64 y.2.1),(17,.si .i64 a.1.length),(18,.si .i64 x.1),(22,.si .i64 a.2.length),(23,.si .i64 y.1)],stM a y.2.2⟩)
    (λs=>(iS s 23,iS s 7,oS (.i .u32) s 0))
    (λy=>(0<=y.1/\y.1<=a.2.length)/\y.2.2=(ix x.2 a.2 (bj a.1 x.1.toNat 0) x.1.toNat y.1.toNat).1/\y.2.1=(ix x.2 a.2 (bj a.1 x.1.toNat 0) x.1.toNat y.1.toNat).2) (λy=>(a.2.length - y.1).toNat) λ_ _=> .look
   |_=> .look
 |_=> .look
theorem h153:Holds Tryz.prog xW:=by
 refine cF (L:=[rj]) xW aa7 (by simpa using h152) ?_;rintro⟨a,b⟩ ⟨⟨ha,hb⟩,hla,hlb⟩;simp only at ha hb hla hlb;refine bO (let c:=(18446744073709551616:Int);let d:=(0:Int);let e:=Θ;let f:=γe .i64;let g:=(4294967296:Int);let h:=cn .i64;let j:=γS;let k:=γx .i64 0;let l:=bq.row;let F:=(↑a.length:Int);let z:=(↑b.length:Int);let p:=F+z;let m:=bp.i .u32;let A:=δ p.toNat d;let q:=(↑a.length:Int);let t:=f q;let J:=l m A 187 true;let G:=a.length+b.length;let r:=(↑b.length:Int);let H:=f r;h p/\d<=p/\p<=p/\p*(4:Int)<=(140737488355328:Int)/\p<=(1000000000000:Int)/\((((e m a).same (e m a)/\(e m b).same (e m b)/\(j 0 p.toNat 1).same (j 0 A.length 1)/\(f F).same t/\(k).same (f 0)/\True)/\J.same J/\True)/\(d<=d/\d<=q)/\bz A/\A.length=G/\bk A=bk []*bk b)/\∀(x:Int×List Int),let C:=x.snd.length;let v:=x.fst.toNat;let K:=j 0 C 1;let s:=f x.fst;let L:=l m x.snd 187 true;let D:=bj a v d;let M:=ix x.snd b D v 0;let w:=x.fst+(1:Int);let N:=f w;(d<=x.fst/\x.fst<=q)/\bz x.snd/\C=G/\bk x.snd=bk (ω v a)*bk b->(decide (x.fst<q)=true->((((e m a).same (e m a)/\(e m b).same (e m b)/\K.same K/\s.same s/\(γx .u64 0).same (γe .u64 0)/\t.same t/\s.same s/\(f z).same H/\(k).same (f 0)/\True)/\L.same L/\True)/\(d<=d/\d<=r)/\x.snd=M.fst/\d=M.snd)/\∀(x_1:Int×Int×List Int),let O:=ix x.snd b D v x_1.fst.toNat;let o:=x.fst+x_1.fst;let n:=x_1.snd.snd.length;let y:=x_1.fst+(1:Int);let P:=j 0 x_1.snd.snd.length 1;let I:=((D % c*(bj b x_1.fst.toNat d % c) % c+bj x_1.snd.snd o.toNat d % c) % c+x_1.snd.fst) % c;let Q:=x_1.snd.snd.set o.toNat (I % g);let R:=I / g;let S:=γe .u64 R;let T:=f y;let U:=ix x.snd b D v y.toNat;let B:=x.fst+z;let E:=x_1.snd.snd.set B.toNat (x_1.snd.fst % g);let V:=λ(u u_1:Int) ↦let W:=l m (x_1.snd.snd.set (x.fst+u).toNat (u_1 % g)) 187 true;W.same W/\True;(d<=x_1.fst/\x_1.fst<=r)/\x_1.snd.snd=O.fst/\x_1.snd.fst=O.snd->(decide (x_1.fst<r)=true->d<=x.fst/\x.fst<F/\v<a.length/\d<=x_1.fst/\x_1.fst<z/\x_1.fst.toNat<b.length/\h o/\x_1.snd.snd.length=n/\d<=o/\o<(↑n:Int)/\x_1.snd.snd.length=n/\o.toNat<n/\h o/\d<=(32:Int)/\(32:Int)<=(64:Int)/\x_1.snd.snd.length=n/\d<=o/\o<(↑n:Int)/\x_1.snd.snd.length=n/\o.toNat<n/\h y/\(((e m a).same (e m a)/\(e m b).same (e m b)/\P.same (j 0 Q.length 1)/\s.same s/\S.same S/\t.same t/\s.same s/\H.same H/\T.same T/\True)/\V x_1.fst I)/\((d<=y/\y<=r)/\Q=U.fst/\R=U.snd)/\(r - y).toNat<(r - x_1.fst).toNat)/\(decide (x_1.fst<r)=false->h B/\x_1.snd.snd.length=n/\d<=B/\B<(↑n:Int)/\x_1.snd.snd.length=n/\B.toNat<n/\h w/\(((e m a).same (e m a)/\(e m b).same (e m b)/\P.same (j 0 E.length 1)/\t.same t/\N.same N/\True)/\V z x_1.snd.fst)/\((d<=w/\w<=q)/\bz E/\E.length=G/\bk E=bk (ω w.toNat a)*bk b)/\(q - w).toNat<(q - x.fst).toNat))/\(decide (x.fst<q)=false->C=x.snd.length/\C<=1000000000000/\(e m (bI x.snd)).same (e m (cM (bk a*bk b))))) (by kernel_rfl) ?_;simp only[vcs];refine⟨by omega,by omega,by omega,by omega,by omega,?_,?_⟩
 ·repeat' refine γi ?_ ?_
  all_goals first|omega|exact lV (by simp)|exact Ah|(simp;omega)|(rw[xU];simp[bk])
 rintro⟨i,row⟩ ⟨⟨i0,i1⟩,hr,hl,hv⟩;simp only at i0 i1 hr hl hv ⊢;refine⟨λlR=>⟨⟨⟨by omega,by omega⟩,rfl,rfl⟩,?_⟩,λnh=>?_⟩
 ·rintro⟨k,c,ro⟩ ⟨⟨k0,k1⟩,e1,e2⟩;simp only at k0 k1 e1 e2 ⊢;have x1:=ec ha i.toNat;obtain⟨m1,m2,⟨m3,m4⟩,m5,m6⟩:=@QC row b (bj a i.toNat 0) i.toNat hr hb x1.1 x1.2 k.toNat (by omega);have hp:=@aa6 row b (bj a i.toNat 0) i.toNat k.toNat;generalize ix row b (bj a i.toNat 0) i.toNat k.toNat=M at*;obtain⟨p,q⟩:=M;simp only at e1 e2 m1 m2 m3 m4 m5 m6 hp;subst e1 e2;have hik:(i+k).toNat=i.toNat+k.toNat:=by omega
  have hk1:(k+1).toNat=k.toNat+1:=by omega
  have hi1:(i+1).toNat=i.toNat+1:=by omega
  refine⟨λklt=>?_,λkge=>?_⟩
  ·have x2:=ec hb k.toNat;have x3:=ec m1 (i.toNat+k.toNat);have hxb:0<=bj a i.toNat 0*bj b k.toNat 0:=γv x1.1 x2.1;have agG:bj a i.toNat 0*bj b k.toNat 0<=4294967295*4294967295:=δI (by omega) (by omega) x2.1 (by omega);rw[hik,hk1,hp];have hq:(((bj a i.toNat 0 % 18446744073709551616*(bj b k.toNat 0 % 18446744073709551616) % 18446744073709551616+bj ro (i.toNat+k.toNat) 0 % 18446744073709551616) % 18446744073709551616+c) % 18446744073709551616)=bj a i.toNat 0*bj b k.toNat 0+bj ro (i.toNat+k.toNat) 0+c:=by
    rw[δo (a:=bj a i.toNat 0) (by omega) (by omega),δo (a:=bj b k.toNat 0) (by omega) (by omega)];omega
   rw[hq];repeat' refine γi ?_ ?_
   all_goals first|omega|exact lV (by simp)|rfl
  ·have hkl:k.toNat=b.length:=by omega
   rw[show(i+(b.length:Int)).toNat=i.toNat+b.length by omega];rw[hkl,π] at m6;rw[hkl] at m5;have hz:bj ro (i.toNat+b.length) 0=0:=by
    rw[m5 _ (φ _)];refine zR hr (i:=i.toNat+b.length) ?_ (φ _);rw[hv,δ6];have t1:=ng (nf ha i.toNat);rw[γq,εg (by omega)] at t1;have t2:=ng hb;have t3:=fb (nf ha i.toNat);have t4:=fb hb;exact εA (Γ (γj t2) t3) (γY t1 (pow_pos _))
   have hc:c % 4294967296=c:=by omega
   rw[hc,hi1];have hfin:bk (ro.set (i.toNat+b.length) c)=bk (a.take (i.toNat+1))*bk b:=by
    rw[tW (by omega),hz,ε2,m6,hv,lQ,Int.add_mul,δk]
   repeat' refine γi ?_ ?_
   all_goals first|omega|exact lV (by simp)|exact ni m1 m3 m4|exact hfin|(rw[τ];omega)
 ·have hi:i.toNat=a.length:=by omega
  rw[hi,π] at hv;refine⟨by omega,?_⟩;rw[qA hr,hv]
theorem Q9 {x m:Int} {k:Nat} (p:0<=x) (t:x<2^k) (o:0<=m) (j:m*2^k<4294967296) (u:x<4294967296):gY.nK .u32 x (m*2^k)=x+m*2^k:=by
 obtain⟨a,rfl⟩:=δG p;obtain⟨b,rfl⟩:=δG o;have e:((b:Int)*2^k)=((2^k*b:Nat):Int):=by grind
 have h:a<2^k:=by grind
 rw[e] at j ⊢;generalize i:2^k*b=c at*;have d:c<4294967296:=by omega
 have f:a<4294967296:=by omega
 have q:(γr 32 ((a:Nat):Int)).toNat=a:=by simp_all
 have r:(γr 32 ((c:Nat):Int)).toNat=c:=by simp_all
 have g:a |||c=a+c:=by
  rw[Nat.or_comm,<-i,<-Nat.two_pow_add_eq_or_of_lt h];omega
 have l:a+c<4294967296:=by
  rw[<-g];exact Nat.or_lt_two_pow (n:=32) f d
 have s:(γr 32 ((a:Nat):Int) |||γr 32 ((c:Nat):Int)).toNat=a+c:=by
  grind
 show eV .u32 ((γr 32 ((a:Nat):Int) |||γr 32 ((c:Nat):Int)).toNat:Nat)=_;grind[s9,IntKind.wrap,IntKind.bits,IntKind.signed]
theorem IZ:∀{l:List Int} {i:Nat},bz l->4294967296^i*bj l i 0<=bk l
 |[],i,_=>by simp[bj,bk];|d::l,0,h=>by
  obtain⟨b,a⟩:=jh.1 h;have:=fb a;grind[bj,bk];|d::l,i+1,h=>by
  obtain⟨b,a⟩:=jh.1 h;have:=@IZ l i a;have e:bj (d::l) (i+1) 0=bj l i 0:=by simp[bj]
  rw[e,γM,δ0 (4294967296^i),δk];grind[bk]
theorem Rb {a b:List Int} {i k:Nat} (n:bz a) (e:bz b) (F:b.length=a.length+1) (G:i<a.length) (u:k<=31) (q:bk b=bk (a.take i)*2^k):
  bz ((b.set i (gY.nK .u32 (bj b i 0) (bj a i 0 % 18446744073709551616*2^k % 18446744073709551616 % 4294967296))).set (i+1) (bj a i 0 % 18446744073709551616*2^k % 18446744073709551616 / 4294967296 % 4294967296))/\
  bk ((b.set i (gY.nK .u32 (bj b i 0) (bj a i 0 % 18446744073709551616*2^k % 18446744073709551616 % 4294967296))).set (i+1) (bj a i 0 % 18446744073709551616*2^k % 18446744073709551616 / 4294967296 % 4294967296))=bk (a.take (i+1))*2^k:=by
 have x:=ec n i;have r:=ec e i;have c:(0:Int)<2^k:=δL (by decide);have A:(2:Int)^k<=2147483648:=by
  have D:(2:Nat)^k<=2^31:=δq (by decide) u;grind
 have w:(4294967296:Int)=2^(32 - k)*2^k:=by
  rw[<-δ6,show 32 - k+k=32 by omega];decide
 have B:(0:Int)<2^(32 - k):=δL (by decide);have v:0<=bj a i 0*2^k:=γv x.1 (γj c);have H:bj a i 0*2^k<4294967296*2^k:=γY x.2 c;have z:bj a i 0 % 18446744073709551616*2^k % 18446744073709551616=bj a i 0*2^k:=by
  rw[δo (a:=bj a i 0) (by omega) (by omega),δo v (by omega)]
 have o:bj a i 0*2^k % 4294967296=(bj a i 0 % 2^(32 - k))*2^k:=by
  conv=>lhs;rw[w]
  rw[δ0 (bj a i 0),δ0 (2^(32 - k)),ζk _ _ c,δ0]
 have p:=δj (bj a i 0) (show(2:Int)^(32 - k)≠0 by omega);have E:=γZ (bj a i 0) B;have s:=pow_pos i;have d:bk b<4294967296^i*2^k:=by
  rw[q];have:=ng (nf n i);rw[γq,εg (by omega)] at this;simp_all
 have h:bj b i 0<2^k:=εm (εA (IZ e) d) (γj s);have m:bj b (i+1) 0=0:=by
  refine zR e (i:=i+1) ?_ (φ _);rw[γM];exact εz d (Γ (by omega) (γj s))
 have f:(bj a i 0 % 2^(32 - k))*2^k+2^k<=4294967296:=by
  have:(bj a i 0 % 2^(32 - k)+1)*2^k<=2^(32 - k)*2^k:=γN (by omega) (γj c);grind
 have l:0<=(bj a i 0 % 2^(32 - k))*2^k:=γv p (γj c);have g:=Q9 (k:=k) r.1 h p (by omega) r.2;rw[z,o,g];generalize y:bj a i 0*2^k=t at*;have j:(bj a i 0 % 2^(32 - k))*2^k=t % 4294967296:=o.symm;rw[j] at f l ⊢;refine⟨ni (ni e (by omega) (by omega)) (by omega) (by omega),?_⟩;rw[tW (by simp;omega),tW (by omega),pE (by omega),m,lQ,Int.add_mul,δk,y,q,γM];have C:t / 4294967296 % 4294967296=t / 4294967296:=by omega
 grind
def shl (a:List Int) (k:Nat):List Int:=iw (a.length+1) (bk a*2^k)
abbrev Re:=List Int×Int
def Ai (a:Re):Prop:=bz a.1/\a.1.length<=100000000000/\0<=a.2/\a.2<=31
def I0:bL:=⟨187,List Int×Int,.cons (dM (.i .u32)) (.one (eK .u64)),Ai,λa=> .row (.i .u32) (shl a.1 a.2.toNat)⟩
def I1:dF where
 f:=187;α:=List Int×Int;put a:=[.row (.i .u32) a.1,.si .u64 a.2];st _:=[];dec v o:=match v,o with
  |[v,m],[]=>match jf (.i .u32) v,m.int .u64 with
   |some p,some m=>some (p,m)
   |_,_=>none
  |_,_=>none;ok v o a h:=by
  split at h
  ·split at h
   ·rename_i h1 h2;simp only[γ] at h;subst h;exact⟨by simp only[gL,oL h1,iK h2];rfl,rfl⟩
   ·cases h
  ·cases h
 inj a b h _:=by
  simp only[gL,Δ,and_true] at h;have h2:=h.2;simp only[SV.g,γ9,Value.int.injEq,true_and] at h2;exact εx ((dM (.i .u32)).inj _ _ h.1) h2
 dom:=Ai;res a:=.ow 0 (shl a.1 a.2.toNat).length 1;out a:=[.row (.i .u32) (shl a.1 a.2.toNat) 187 false]
def Rf (a:Re):Nat->cC
 |3=> .inv (Int×List Int) (λx=>⟨[(0,.row (.i .u32) a.1),(1,.si .u64 a.2),(5,.ow 0 x.2.length 1),(13,.si .i64 a.1.length),(14,.si .i64 x.1)],[.row (.i .u32) x.2 187 false]⟩)
  (λs=>(iS s 14,oS (.i .u32) s 0))
  (λx=>(0<=x.1/\x.1<=a.1.length)/\bz x.2/\x.2.length=a.1.length+1/\bk x.2=bk (a.1.take x.1.toNat)*2^a.2.toNat) (λx=>(a.1.length - x.1).toNat) λ_ _=> .look
 |_=> .look
theorem h168:dZ Tryz.prog I1:=by
 refine Ht (L:=[]) (W:=[]) I1 (λ_=>none) Rf (by simp) (by simp) ?_;rintro⟨a,s⟩ ⟨ha,hla,s0,s1⟩;simp only at ha hla s0 s1;refine bO (let b:=(0:Int);let c:=(18446744073709551616:Int);let d:=(4294967296:Int);let e:=γe .i64;let f:=bq.row;let g:=cn .i64;let h:=Θ;let j:=γS;let w:=(↑a.length:Int);let o:=w+(1:Int);let l:=bp.i .u32;let r:=b::δ a.length b;let m:=(↑a.length:Int);let y:=e m;let A:=f l r 187 false;let z:=a.length+1;let u:=(2:Int)^s.toNat;g o/\b<=o/\o<=o/\o*(4:Int)<=(140737488355328:Int)/\o<=(1000000000000:Int)/\((((h l a).same (h l a)/\(γe .u64 s).same (γe .u64 s)/\(j 0 o.toNat 1).same (j 0 r.length 1)/\(e w).same y/\(γx .i64 0).same (e 0)/\True)/\A.same A/\True)/\(b<=b/\b<=m)/\bz r/\r.length=z/\bk r=bk []*u)/\∀(x:Int×List Int),let p:=x.snd.length;let q:=x.fst.toNat;let B:=bj a q b % c*u % c;let v:=x.snd.set q (gY.nK .u32 (bj x.snd q b) (B % d));let n:=x.snd.length;let k:=x.fst+(1:Int);let C:=j 0 p 1;let t:=v.set k.toNat (B / d % d);let D:=e k;let E:=f l t 187 false;let F:=p=v.length;(b<=x.fst/\x.fst<=m)/\bz x.snd/\p=z/\bk x.snd=bk (ω q a)*u->(decide (x.fst<m)=true->b<=x.fst/\x.fst<w/\q<a.length/\b<=s/\s<=(64:Int)/\p=n/\b<=x.fst/\x.fst<(↑n:Int)/\p=n/\q<n/\p=n/\b<=x.fst/\x.fst<(↑n:Int)/\p=n/\q<n/\g k/\b<=(32:Int)/\(32:Int)<=(64:Int)/\F/\b<=k/\k<(↑v.length:Int)/\F/\k.toNat<v.length/\g k/\(((h l a).same (h l a)/\(γe .u64 s).same (γe .u64 s)/\C.same (j 0 t.length 1)/\y.same y/\D.same D/\True)/\E.same E/\True)/\((b<=k/\k<=m)/\bz t/\t.length=z/\bk t=bk (ω k.toNat a)*u)/\(m - k).toNat<(m - x.fst).toNat)/\(decide (x.fst<m)=false->C.same (j 0 (shl a s.toNat).length 1)/\(f l x.snd 187 false).same (f l (shl a s.toNat) 187 false)/\True)) (by kernel_rfl) ?_;simp only[vcs];refine⟨by omega,by omega,by omega,by omega,by omega,?_,?_⟩
 ·repeat' refine γi ?_ ?_
  all_goals first|omega|exact lV (by simp)|exact jh.2 ⟨by omega,Ah⟩|(simp;done)|(simp only[bk,xU];omega)
 rintro⟨i,row⟩ ⟨⟨i0,i1⟩,hr,hl,hv⟩;simp only at i0 i1 hr hl hv ⊢;refine⟨λlR=>?_,λnh=>?_⟩
 ·obtain⟨k1,k2⟩:=Rb ha hr hl (show i.toNat<a.length by omega) (show s.toNat<=31 by omega) hv;have e:(i+1).toNat=i.toNat+1:=by omega
  rw[e];repeat' refine γi ?_ ?_
  all_goals first|omega|exact lV (by simp)|(simp only[τ];done)|(simp only[τ];omega)|exact k1|exact k2
 ·have hi:i.toNat=a.length:=by omega
  rw[hi,π] at hv;have hrow:row=shl a s.toNat:=Ik hr hl hv;rw[hrow];exact⟨rfl,rfl⟩
theorem h168p:Holds Tryz.prog I0:=by
 refine cF (L:=[]) I0 Rf (by simp) ?_;rintro⟨a,s⟩ ⟨ha,hla,s0,s1⟩;simp only at ha hla s0 s1;refine bO (let b:=(0:Int);let c:=(18446744073709551616:Int);let d:=(4294967296:Int);let e:=γe .i64;let f:=Θ;let g:=cn .i64;let h:=γS;let v:=(↑a.length:Int);let o:=v+(1:Int);let l:=bp.i .u32;let q:=b::δ a.length b;let m:=(↑a.length:Int);let w:=e m;let z:=bq.row l q 187 false;let y:=a.length+1;let t:=(2:Int)^s.toNat;g o/\b<=o/\o<=o/\o*(4:Int)<=(140737488355328:Int)/\o<=(1000000000000:Int)/\((((f l a).same (f l a)/\(γe .u64 s).same (γe .u64 s)/\(h 0 o.toNat 1).same (h 0 q.length 1)/\(e v).same w/\(γx .i64 0).same (e 0)/\True)/\z.same z/\True)/\(b<=b/\b<=m)/\bz q/\q.length=y/\bk q=bk []*t)/\∀(x:Int×List Int),let n:=x.snd.length;let p:=x.fst.toNat;let A:=bj a p b % c*t % c;let u:=x.snd.set p (gY.nK .u32 (bj x.snd p b) (A % d));let k:=x.snd.length;let j:=x.fst+(1:Int);let r:=u.set j.toNat (A / d % d);let B:=e j;let C:=bq.row l r 187 false;let D:=n=u.length;(b<=x.fst/\x.fst<=m)/\bz x.snd/\n=y/\bk x.snd=bk (ω p a)*t->(decide (x.fst<m)=true->b<=x.fst/\x.fst<v/\p<a.length/\b<=s/\s<=(64:Int)/\n=k/\b<=x.fst/\x.fst<(↑k:Int)/\n=k/\p<k/\n=k/\b<=x.fst/\x.fst<(↑k:Int)/\n=k/\p<k/\g j/\b<=(32:Int)/\(32:Int)<=(64:Int)/\D/\b<=j/\j<(↑u.length:Int)/\D/\j.toNat<u.length/\g j/\(((f l a).same (f l a)/\(γe .u64 s).same (γe .u64 s)/\(h 0 n 1).same (h 0 r.length 1)/\w.same w/\B.same B/\True)/\C.same C/\True)/\((b<=j/\j<=m)/\bz r/\r.length=y/\bk r=bk (ω j.toNat a)*t)/\(m - j).toNat<(m - x.fst).toNat)/\(decide (x.fst<m)=false->n=k/\(f l x.snd).same (f l (shl a s.toNat)))) (by kernel_rfl) ?_;simp only[vcs];refine⟨by omega,by omega,by omega,by omega,by omega,?_,?_⟩
 ·repeat' refine γi ?_ ?_
  all_goals first|omega|exact lV (by simp)|exact jh.2 ⟨by omega,Ah⟩|(simp;done)|(simp only[bk,xU];omega)
 rintro⟨i,row⟩ ⟨⟨i0,i1⟩,hr,hl,hv⟩;simp only at i0 i1 hr hl hv ⊢;refine⟨λlR=>?_,λnh=>?_⟩
 ·obtain⟨k1,k2⟩:=Rb ha hr hl (show i.toNat<a.length by omega) (show s.toNat<=31 by omega) hv;have e:(i+1).toNat=i.toNat+1:=by omega
  rw[e];repeat' refine γi ?_ ?_
  all_goals first|omega|exact lV (by simp)|(simp only[τ];done)|(simp only[τ];omega)|exact k1|exact k2
 ·have hi:i.toNat=a.length:=by omega
  rw[hi,π] at hv;have hrow:row=shl a s.toNat:=Ik hr hl hv;rw[hrow]
theorem vM {U:List Int} {j:Nat} (h:j<=U.length):bk U=bk (U.take j)+4294967296^j*bk (U.drop j):=by
 conv=>lhs;rw[<-γH j U]
 grind[Im]
theorem aa8 {U l:List Int} {j:Nat} (h:j<=U.length):(ji U j l).take j=U.take j:=by
 grind[ji]
theorem aa9 {U l:List Int} {j:Nat} (h:j<=U.length):(ji U j l).drop j=l++U.drop (j+l.length):=by
 grind[ji]
theorem abb {U l:List Int} {j:Nat} (a:bz U) (b:bz l):bz (ji U j l):=QB (nf a _) (QB b (zQ a _))
theorem abd {U q v:List Int} {j m:Nat} {A:Int} (d:bz U) (w:bz v) (G:bz q) (H:2<=v.length) (u:U.length=m+1+v.length) (x:q.length=m+1) (J:j<=m) (p:0<bk v)
  (s:bj q j 0=0) (B:bk U+bk v*bk q=A) (D:bk (U.drop (j+1))<bk v):
  bk (prt U j (v.length+1))<4294967296*bk v/\
  (bz (ji U j (iw (v.length+1) (bk (prt U j (v.length+1)) % bk v)))/\(ji U j (iw (v.length+1) (bk (prt U j (v.length+1)) % bk v))).length=U.length)/\
  (0<=bk (prt U j (v.length+1)) / bk v/\bk (prt U j (v.length+1)) / bk v<4294967296)/\
  bk (ji U j (iw (v.length+1) (bk (prt U j (v.length+1)) % bk v)))+bk v*bk (q.set j (bk (prt U j (v.length+1)) / bk v))=A/\
  bk ((ji U j (iw (v.length+1) (bk (prt U j (v.length+1)) % bk v))).drop j)<bk v:=by
 have y:=ng w;have f:=zQ d (j+1);have l:=fb (tY d (j:=j) (k:=v.length+1));have b:bk (U.drop (j+(v.length+1)))=0:=by
  have e:bk (U.drop (j+1))=bk ((U.drop (j+1)).take v.length)+4294967296^v.length*bk ((U.drop (j+1)).drop v.length):=vM (by simp;omega);rw[δi,show j+1+v.length=j+(v.length+1) by omega] at e;have I:=fb (nf f v.length);have F:=fb (zQ d (j+(v.length+1)));by_cases h:bk (U.drop (j+(v.length+1)))=0;·exact h
  ·have:=Γ (show(1:Int)<=bk (U.drop (j+(v.length+1))) by omega) (γj (pow_pos v.length));omega
 have a:bk (U.drop j)=bk (prt U j (v.length+1)):=by
  have e:bk (U.drop j)=bk ((U.drop j).take (v.length+1))+4294967296^(v.length+1)*bk ((U.drop j).drop (v.length+1)):=vM (by simp;omega);rw[δi,b,δJ,εh] at e;exact e
 have g:bk (U.drop j)=bj U j 0+4294967296*bk (U.drop (j+1)):=by
  rw[Dv (show j<U.length by omega)];rfl
 have K:=ec d j;have r:bk (prt U j (v.length+1))<4294967296*bk v:=by omega
 have i:=@zO (v.length+1) (bk (prt U j (v.length+1)) % bk v);have C:=δj (bk (prt U j (v.length+1))) (show bk v≠0 by omega);have E:=γZ (bk (prt U j (v.length+1))) p;have t:bk (iw (v.length+1) (bk (prt U j (v.length+1)) % bk v))=bk (prt U j (v.length+1)) % bk v:=by
  grind[Il]
 have o:bk ((ji U j (iw (v.length+1) (bk (prt U j (v.length+1)) % bk v))).drop j)=bk (prt U j (v.length+1)) % bk v:=by
  grind[aa9,Im]
 have c:(ji U j (iw (v.length+1) (bk (prt U j (v.length+1)) % bk v))).length=U.length:=QF (by rw[i];omega);have n:0<=bk (prt U j (v.length+1)) / bk v:=δY l (by omega);refine⟨r,⟨abb d Ij,c⟩,⟨n,εM p r⟩,?_,by omega⟩;rw[vM (U:=ji U j _) (j:=j) (by rw[c];omega),aa8 (by omega),o,tW (by omega),s,ε2];rw[vM (U:=U) (j:=j) (by omega),a] at B;have z:=εf (bk (prt U j (v.length+1))) (bk v);grind
theorem Rh {a b:List Int} {s:Nat} (k:bz a) (w:bz b) (u:s<=31) (l:b.length<=a.length) (q:1<=b.length) (d:1<=bj b (b.length - 1) 0):
  bz (shl a s)/\(shl a s).length=a.length+1/\bk (shl a s)=bk a*2^s/\bk ((shl a s).drop (a.length - b.length+1))<bk b*2^s:=by
 have e:(0:Int)<2^s:=δL (by decide);have v:(2:Int)^s<=2147483648:=by
  have h:(2:Nat)^s<=2^31:=δq (by decide) u;grind
 have f:=fb k;have g:=ng k;have n:bk a*2^s<4294967296^a.length*2^s:=γY g e;have c:bk (shl a s)=bk a*2^s:=by
  unfold shl;refine Il (γv f (γj e)) (εz n ?_);rw[γM];exact Γ (by omega) (γj (pow_pos _))
 have i:bz (shl a s):=Ij;have t:(shl a s).length=a.length+1:=zO;refine⟨i,t,c,?_⟩;have h:=vM (U:=shl a s) (j:=a.length - b.length+1) (by omega);have y:=fb (nf i (a.length - b.length+1));have x:4294967296^(b.length - 1)*bj b (b.length - 1) 0<=bk b:=IZ w;have o:(4294967296:Int)^(b.length - 1)<=bk b:=by
  have:=Γ d (γj (pow_pos (b.length - 1)));omega
 have m:(4294967296:Int)^a.length=4294967296^(a.length - b.length+1)*4294967296^(b.length - 1):=by
  rw[<-δ6];congr 1;omega
 rw[c] at h;have p:(4294967296:Int)^(a.length - b.length+1)*bk ((shl a s).drop (a.length - b.length+1))<4294967296^(a.length - b.length+1)*(4294967296^(b.length - 1)*2^s):=by
  rw[<-δk,<-m];omega
 have r:=εm p (γj (pow_pos _));exact εz r (γN o (γj e))
theorem abe {x y:Int} {s:Nat} (n:0<=x) (u:x<4294967296) (t:0<=y) (o:y<4294967296) (g:0<s) (q:s<=31):
  ∃r,gY.nK .u32 (x / 2^s) (y*2^(32 - s) % 4294967296)=r/\(0<=r/\r<4294967296)/\2^s*r=x - x % 2^s+4294967296*(y % 2^s):=by
 have b:(0:Int)<2^s:=δL (by decide);have c:(0:Int)<2^(32 - s):=δL (by decide);have l:(4294967296:Int)=2^s*2^(32 - s):=by
  rw[<-δ6,show s+(32 - s)=32 by omega];decide
 have f:y*2^(32 - s) % 4294967296=(y % 2^s)*2^(32 - s):=by
  conv=>lhs;rw[l]
  rw[δ0 y,δ0 (2^s),ζk _ _ c,δ0]
 have d:=δj y (show(2:Int)^s≠0 by omega);have p:=γZ y b;have e:0<=x / 2^s:=δY n (γj b);have m:x / 2^s<2^(32 - s):=εM b (by grind);have h:(y % 2^s)*2^(32 - s)+2^(32 - s)<=4294967296:=by
  have:=γN (show y % 2^s+1<=2^s by omega) (γj c);grind
 have j:0<=(y % 2^s)*2^(32 - s):=γv d (γj c);have a:=Q9 (k:=32 - s) e m d (by omega) (by omega);refine⟨x / 2^s+(y % 2^s)*2^(32 - s),by rw[f,a],⟨by omega,by omega⟩,?_⟩;have i:=εf x (2^s);grind
theorem Ri {U r:List Int} {i s:Nat} {d:Int} (b:bz U) (c:bz r) (h:i<r.length) (g:∀j,i<=j->bj r j 0=0) (a:0<=d/\d<4294967296)
  (f:2^s*d=bj U i 0 - bj U i 0 % 2^s+4294967296*(bj U (i+1) 0 % 2^s))
  (e:2^s*bk r=bk (U.take i) - bj U 0 0 % 2^s+4294967296^i*(bj U i 0 % 2^s)):
  bz (r.set i d)/\(r.set i d).length=r.length/\(∀j,i+1<=j->bj (r.set i d) j 0=0)/\
  2^s*bk (r.set i d)=bk (U.take (i+1)) - bj U 0 0 % 2^s+4294967296^(i+1)*(bj U (i+1) 0 % 2^s):=by
 grind[ni,pE,tW,lQ]
theorem abf {U r v q:List Int} {n s:Nat} {a b:Int} (f:bz U) (A:bz r) (y:bz v) (g:v.length=n) (u:bk U<bk v) (J:bk v=b*2^s) (C:0<b) (D:bk U+bk v*bk q=a*2^s)
  (G:s<=31) (x:n+1<=U.length)
  (c:2^s*bk r=bk (U.take n) - bj U 0 0 % 2^s+4294967296^n*(bj U n 0 % 2^s)):bk q=a / b/\bk r=a % b:=by
 have H:(0:Int)<2^s:=δL (by decide);have m:=ng y;rw[g] at m;have o:bj U n 0=0:=zR f (i:=n) (by omega) (φ _);have e:bk (U.take n)=bk U:=by
  have k:=vM (U:=U) (j:=n) (by omega);have p:=fb (nf f n);have w:=fb (zQ f n);by_cases h:bk (U.drop n)=0;·simp_all
  ·have:=Γ (show(1:Int)<=bk (U.drop n) by omega) (γj (pow_pos n));omega
 have d:bk U=2^s*(a - b*bk q):=by
  grind
 have l:bj U 0 0 % 2^s=0:=by
  have k:=@lQ U 0;have p:=vM (U:=U) (j:=1) (by omega);have E:(4294967296:Int)=2^s*2^(32 - s):=by
   rw[<-δ6,show s+(32 - s)=32 by omega];decide
  simp only[Nat.zero_add,List.take_zero,bk,Int.pow_zero,εr,Int.zero_add] at k;rw[k,γM,Int.pow_zero,εr] at p;have w:bj U 0 0=2^s*(a - b*bk q - 2^(32 - s)*bk (U.drop 1)):=by
   grind
  simp_all
 rw[o,l,e,Int.zero_emod,δJ,ε2,εh,d] at c;have t:bk r=a - b*bk q:=Int.eq_of_mul_eq_mul_left (by omega) c;have B:=fb A;have z:bk r<b:=by
  have:2^s*bk r<2^s*b:=by
   grind
  simp_all
 obtain⟨F,I⟩:=vD (X:=a) (V:=b) (q:=bk q) (by grind) (by grind);grind
theorem DD:∀{w:List Int},bz w->fE w->w≠[]->4294967296^(w.length - 1)<=bk w
 |[],_,_,h=>absurd rfl h
 |[d],a,b,_=>by
  have f:=(jh.1 a).1;have c:=b.1 rfl;grind[bk];|d::e::l,a,b,_=>by
  obtain⟨f,c⟩:=jh.1 a;have g:=DD c b.2 (by simp);have i:bk (d::e::l)=d+4294967296*bk (e::l):=rfl;simp only[List.length_cons,ζH] at g ⊢;omega
theorem Aj {a b:Nat} (h:a<=b):(4294967296:Int)^a<=4294967296^b:=by
 obtain⟨m,rfl⟩:=Nat.exists_eq_add_of_le h;rw[δ6];have c:=pow_pos a;have d:=pow_pos m;have:=Γ (show(1:Int)<=4294967296^m by omega) (γj c);omega
theorem I2 {t:List Int} {s:Nat} (e:bz t) (H:1<=t.length) (G:s<=31) (d:bj t (t.length - 1) 0*2^s<4294967296) (c:2147483648<=bj t (t.length - 1) 0*2^s):
  bz (bI (shl t s))/\(bI (shl t s)).length=t.length/\bk (bI (shl t s))=bk t*2^s/\2147483648<=bj (bI (shl t s)) (t.length - 1) 0/\1<=bj t (t.length - 1) 0:=by
 have o:(0:Int)<2^s:=δL (by decide);have q:=ec e (t.length - 1);have a:1<=bj t (t.length - 1) 0:=by
  grind
 obtain⟨y,N,z,_⟩:=Rh e e G (φ _) H a;obtain⟨f,E⟩:=@rk (shl t s);have i:=sj y;rw[z] at f;generalize bI (shl t s)=w at*;obtain⟨n,A⟩:∃n,t.length=n+1:=⟨t.length - 1,by omega⟩;rw[A] at d c a q ⊢;simp only[ζH] at d c a q ⊢;have p:=pow_pos n;have v:bk t=bk (t.take n)+4294967296^n*bj t n 0:=by
  grind[lQ]
 have B:=fb (nf e n);have k:=ng (nf e n);rw[γq,εg (by omega)] at k;have J:(4294967296:Int)=2^(32 - s)*2^s:=by
  rw[<-δ6,show 32 - s+s=32 by omega];decide
 have L:(0:Int)<2^(32 - s):=δL (by decide);have D:bj t n 0<2^(32 - s):=by
  simp_all
 have l:(bj t n 0+1)*2^s<=4294967296:=by
  have:=γN (show bj t n 0+1<=2^(32 - s) by omega) (γj o);omega
 have x:bk w<4294967296^(n+1):=by
  rw[f,γM];have F:bk t<4294967296^n*(bj t n 0+1):=by grind
  have M:=γY F o;have I:=Γ l (γj p);grind
 have u:4294967296^n*(bj t n 0*2^s)<=bk w:=by
  rw[f,<-δk];exact γN (by omega) (γj o)
 have r:(4294967296:Int)^n<=bk w:=by
  have:=Γ (show(1:Int)<=bj t n 0*2^s by omega) (γj p);omega
 have b:w.length=n+1:=by
  have K:n<w.length:=by
   by_cases h:n<w.length;·exact h
   ·have:=ng i;have:=Aj (show w.length<=n by omega);omega
  by_cases h:w.length=n+1;·exact h
  ·have j:w≠[]:=by grind
   have:=DD i E j;have:=Aj (show n+1<=w.length - 1 by omega);omega
 refine⟨i,b,f,?_,a⟩;have C:bk w=bk (w.take n)+4294967296^n*bj w n 0:=by
  grind[lQ]
 have m:=ng (nf i n);rw[γq,εg (by omega)] at m;have g:4294967296^n*(bj t n 0*2^s)<4294967296^n*(bj w n 0+1):=by grind
 have:=εm g (γj p);omega
@[reducible] def sF:bp:=.pair .b (.pair (.bH (.i .u32)) (.bH (.i .u32)))
abbrev bM:=Bool×(List Int×List Int)
def bu (q:Rat):bM:=(decide (q<0),(cM (q.num.natAbs:Int),cM (q.den:Int)))
def bQ (x:bM):Rat:=mkRat (if x.1 then -bk x.2.1 else bk x.2.1) (bk x.2.2).toNat
def Sz (k:Nat) (q:Rat):Prop:=(q.num.natAbs:Int)<4294967296^k/\(q.den:Int)<4294967296^k
theorem mA {n:Int} {k:Nat} (e:0<=n) (h:n<4294967296^k):(cM n).length<=k:=by
 obtain⟨f,b,d⟩:=fW e;by_cases c:(cM n).length<=k;·exact c
 ·have a:cM n≠[]:=by grind
  have:=DD b d a;have:=Aj (show k<=(cM n).length - 1 by omega);omega
theorem Rj {a:List Int} {k:Nat} (h:bz a) (b:a.length<=k):bk a<4294967296^k:=by
 have:=ng h;have:=Aj b;omega
theorem ez (q:Rat):bQ (bu q)=q:=by
 unfold bQ bu;have a:=(fW (show(0:Int)<=(q.num.natAbs:Int) by omega)).1;have b:=(fW (show(0:Int)<=(q.den:Int) by omega)).1;simp only[a,b,decide_eq_true_eq,Int.toNat_natCast];grind[Rat.num_nonneg,δT]
theorem Rk {N:Int} {D:Nat} (a:D≠0):(mkRat N D).num.natAbs=N.natAbs / N.natAbs.gcd D/\(mkRat N D).den=D / N.natAbs.gcd D:=by
 rw[<-ζp a,Rat.normalize_eq a];simp only;refine⟨?_,trivial⟩;have b:0<N.natAbs.gcd D:=Nat.gcd_pos_of_pos_right _ (by omega);have c:((N.natAbs.gcd D:Nat):Int)∣N:=Int.ofNat_dvd_left.2 (Nat.gcd_dvd_left _ _);generalize N.natAbs.gcd D=g at*;obtain⟨m,rfl⟩:=c;rw[Int.mul_ediv_cancel_left _ (by omega),εn,ε3,Nat.mul_div_cancel_left _ b]
theorem abg {N:Int} {D:Nat} (f:D≠0):mkRat N D<0↔N<0:=by
 have i:(0:Rat)=mkRat 0 D:=(Rat.zero_mkRat D).symm;have e:mkRat N D<0↔¬0<=mkRat N D:=Rat.not_le.symm;rw[e,<-Rat.num_nonneg];have g:=Rat.num_divInt_den (mkRat N D);have c:(mkRat N D).num*(D:Int)=N*((mkRat N D).den:Int):=by
  grind[Rat.mkRat_eq_iff,mkRat,δT]
 have d:(0:Int)<((mkRat N D).den:Int):=by have:=(mkRat N D).den_pos;omega
 have b:(0:Int)<(D:Int):=by omega
 constructor
 ·intro h;by_cases a:N<0;·exact a
  ·exfalso;apply h;have:0<=(mkRat N D).num*(D:Int):=by rw[c];exact γv (by omega) (by omega)
   exact Int.nonneg_of_mul_nonneg_left this b
 ·intro a h;have:0<=(mkRat N D).num*(D:Int):=γv h (by omega);rw[c] at this;have:=Int.mul_neg_of_neg_of_pos a d;omega
theorem Rl {s:Bool} {n d:Int} (n0:0<=n) (f:0<d):bu (mkRat (if s then -n else n) d.toNat)=(s&&decide (0<n),(cM (n / ew n d),cM (d / ew n d))):=by
 have e:d.toNat≠0:=by omega
 obtain⟨b,c⟩:=Rk (N:=if s then -n else n) e;have a:(if s then -n else n).natAbs=n.toNat:=by split<;>omega
 unfold bu;rw[b,c,a];have g:ew n d=((n.toNat.gcd d.toNat:Nat):Int):=rfl;refine εx ?_ (εx ?_ ?_)
 ·simp only;rw[Bool.eq_iff_iff];simp only[decide_eq_true_eq,Bool.and_eq_true];grind[abg]
 all_goals grind
theorem Ak {N:Int} {D:Nat} {k:Nat} (b:D≠0) (f:(N.natAbs:Int)<4294967296^k) (e:(D:Int)<4294967296^k):Sz k (mkRat N D):=by
 obtain⟨c,a⟩:=Rk (N:=N) b;unfold Sz;rw[c,a];have g:=Nat.div_le_self N.natAbs (N.natAbs.gcd D);have d:=Nat.div_le_self D (N.natAbs.gcd D);omega
theorem Sz.mono {j k:Nat} {q:Rat} (h:Sz j q) (a:j<=k):Sz k q:=by
 have:=Aj a;exact⟨by have:=h.1;omega,by have:=h.2;omega⟩
theorem Rm (p q:Rat):p+q=mkRat (p.num*q.den+q.num*p.den) (p.den*q.den):=by
 rw[Rat.add_def,ζp]
theorem Am {p q:Rat} {i j:Nat} (e:Sz i p) (c:Sz j q):Sz (i+j+1) (p+q):=by
 rw[Rm];have g:=p.den_pos;have l:=q.den_pos;have k:p.den*q.den≠0:=Nat.ne_of_gt (Nat.mul_pos g l);have m:∀{a b:Int} {i j:Nat},0<=a->0<=b->a<4294967296^i->b<4294967296^j->a*b<4294967296^(i+j):=by
  intro a b i j h o f d;rw[δ6];exact εA (Γ (γj d) h) (γY f (pow_pos _))
 have f:=m (by omega) (by omega) e.1 c.2;have d:=m (by omega) (by omega) c.1 e.2;have n:=m (by omega) (by omega) e.2 c.2;rw[Nat.add_comm j i] at d;have t:=pow_pos (i+j);refine Ak k ?_ ?_
 ·have r:(p.num*(q.den:Int)).natAbs=p.num.natAbs*q.den:=by rw[εn,ε3]
  have s:(q.num*(p.den:Int)).natAbs=q.num.natAbs*p.den:=by rw[εn,ε3]
  omega
 omega
theorem An {p:Rat} {i:Nat} (a:Sz i p):Sz i (-p):=by
 grind[Sz,Rat.neg_num,Rat.neg_den]
def xX:bL:=⟨111,Int,.one (eK .u64),λx=>0<=(show Int from x)/\(show Int from x)<18446744073709551616,λx=> .row (.i .u32) (cM x)⟩
theorem h128:Holds Tryz.prog xX:=by
 refine cF (L:=[rj]) xX lk (by grind[h152]) ?_;intro(x:Int) h;obtain⟨b,a⟩:0<=x/\x<18446744073709551616:=h;refine bO (let a:=(4294967296:Int);(0:Int)<=(32:Int)/\(32:Int)<=(64:Int)/\2<=1000000000000/\(Θ (bp.i .u32) (bI [x % a,x / a % a])).same (Θ (bp.i .u32) (cM x))) (by kernel_rfl) ?_;simp only[vcs];grind[bz,qA,bk]
end Go.Vi
