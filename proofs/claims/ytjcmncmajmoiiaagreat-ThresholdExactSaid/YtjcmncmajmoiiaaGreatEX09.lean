/-
  Contracts: natural numbers of any size: digit.
  Conditions: none.
-/
import Derived.Test.YtjcmncmajmoiiaaGreatEX06
import Derived.Test.YtjcmncmajmoiiaaGreatEX07
import Derived.Test.YtjcmncmajmoiiaaGreatEX08
set_option maxRecDepth 100000
set_option maxHeartbeats 4000000
set_option linter.all false
open And renaming intro->γj
open BitVec renaming ofInt->γu
open Bool renaming eq_iff_iff->ε3
open Go.Vi.SV renaming row->γc,si->γb,il->γy,ow->δd,sb->γG,agg->γK
open Int renaming mul_ediv_add_emod->εo,emod_nonneg->δV,emod_lt_of_pos->δx,ediv_nonneg->δ8,mul_le_mul_of_nonneg_left->Δ,mul_comm->εb,mul_nonneg->γD,mul_le_mul->δR,sub_mul->ζL,one_mul->δU,pow_succ->γQ,mul_assoc->δo,mul_add->εA,mul_sub->εQ,mul_zero->δS,add_zero->εq,mul_one->ε4,sub_zero->ζe,emod_eq_of_lt->δT,pow_add->εf,lt_of_le_of_lt->εK,le_of_lt->γm,mul_lt_mul_of_pos_right->γ2,eq_ofNat_of_zero_le->δP,pow_pos->δL,mul_emod_mul_of_pos->ζv,lt_of_mul_lt_mul_left->εw,lt_of_lt_of_le->εJ,mul_le_mul_of_nonneg_right->γT,ediv_lt_of_lt_mul->εV,pow_zero->ζF,toNat_natCast->γq,mul_ediv_cancel_left->ζo,natAbs_mul->εx,natAbs_natCast->ζf,mul_neg_of_neg_of_pos->εy,mul_pos->εB
open IntCast renaming intCast->γa
open List renaming length->γp,take->γe,length_take->Ω,take_length->ψ,replicate->ε,getElem?_replicate->εH,eq_of_mem_replicate->εG,replicate_succ->δp,length_set->Ξ,drop_drop->γW,drop->γ8,eq_nil_of_length_eq_zero->Γ
open List.cons renaming injEq->τ
open Nat renaming min_eq_left->εp,le_refl->φ,pow_le_pow_right->δA,add_sub_cancel->ζO,gcd_dvd_left->ζV
open Option.some renaming injEq->γ
open Prod renaming ext->εd
open Rat renaming mkRat_self->δ3,normalize_eq_mkRat->ζz
namespace Go.Vi
open Go.Proofs.YtjcmncmajmoiiaaGreat.Ir
open Go.Proofs
structure nI where
 U:List Int
 j:Nat
 len:Nat
 n:Nat
 v:List Int
def nI.x (a:nI):Int:=bk (prt a.U a.j (a.v.length+1))
def nI.ok (a:nI):Prop:=(bA a.U/\bA a.v)/\(a.len=a.v.length+1/\a.n=a.U.length)/\(2<=a.v.length/\a.j+a.v.length+1<=a.U.length/\a.U.length<=200000000000)/\
 2147483648<=bj a.v (a.v.length - 1) 0/\a.x<4294967296*bk a.v
def nI.row (a:nI):List Int:=je a.U a.j (ik (a.v.length+1) (a.x % bk a.v))
def Jw:cY where
 f:=235;α:=nI;put a:=[.oc 0 a.j a.len a.n 1,.row (.i .u32) a.v];st a:=[.row (.i .u32) a.U 235 false];dec v o:=match v,o with
  |[.oc 0 j len n 1,v],[.row t l 235 false]=>match gu (.i .u32) v,iI t (.i .u32) l with
   |some v,some l=>some ⟨l,j,len,n,v⟩
   |_,_=>none
  |_,_=>none;ok v o a h:=by
  split at h
  ·split at h
   ·rename_i h1 h2;simp only[γ] at h;subst h;obtain⟨rfl,hh⟩:=nz h2;cases hh;exact⟨by simp only[gL,j7 h1],rfl⟩
   ·cases h
  ·cases h
 inj a b h1 h2:=by
  obtain⟨U,j,len,n,v⟩:=a;obtain⟨U',j',len',n',v'⟩:=b;simp only[gL,τ,and_true] at h1;obtain⟨g1,g2⟩:=h1;have e2:=(dY (.i .u32)).inj _ _ g2;simp only[SV.g,AV.os.injEq,true_and,bn.sz,Nat.mul_one] at g1;simp only[gO,List.map_cons,List.map_nil,bq.g,τ,bP.cells.injEq,and_true] at h2;have hl:U=U':=by
   have hf:=congrArg γp h2;rw[fu,fu] at hf;exact l9 (.i .u32) (by simpa[bn.sz] using hf) h2
  obtain⟨q1,q2,q3⟩:=g1;subst q3;have:j=j':=by omega
  rw[e2,hl,q2,this]
 dom:=nI.ok;res a:=.si .u32 (a.x / bk a.v);out a:=[.row (.i .u32) a.row 235 false]
def Jx (U:List Int):bX:=[.row (.i .u32) U 235 false]
def abS (a:nI):Nat->cB
 |4=> .inv (Int×Int) (λx=>⟨[(0,.oc 0 a.j a.len a.n 1),(1,.row (.i .u32) a.v),(5,.si .i64 a.v.length),(7,.si .u64 x.1),(8,.si .u64 x.2)],Jx a.U⟩) (λs=>(iS s 7,iS s 8))
  (λx=>(0<=x.1/\x.1<=4294967297)/\(0<=x.2/\x.2<4294967296)/\x.1*bj a.v (a.v.length - 1) 0+x.2=bj a.U (a.j+(a.v.length - 1)) 0+4294967296*bj a.U (a.j+a.v.length) 0/\a.x<(x.1+1)*bk a.v) (λx=>x.1.toNat) λ_ _=> .look
 |10=> .inv (Int×Int×Int×Int×List Int) (λx=>⟨[(0,.oc 0 a.j a.len a.n 1),(1,.row (.i .u32) a.v),(5,.si .i64 a.v.length),(7,.si .u64 x.2.1),(9,.si .u64 x.2.2.1),(10,.si .u64 x.2.2.2.1),(82,.si .i64 a.v.length),(83,.si .i64 x.1)],Jx x.2.2.2.2⟩)
  (λs=>(iS s 83,iS s 7,iS s 9,iS s 10,oS (.i .u32) s 0))
  (λx=>(0<=x.1/\x.1<=a.v.length)/\(0<=x.2.1/\x.2.1<4294967296)/\(a.x<(x.2.1+1)*bk a.v/\x.2.1*bk a.v<a.x+bk a.v)/\(0<=x.2.2.1/\x.2.2.1<4294967296)/\(0<=x.2.2.2.1/\x.2.2.2.1<=1)/\(bA x.2.2.2.2/\x.2.2.2.2.length=a.U.length)/\
   (∀m,(m<a.j\/a.j+x.1.toNat<=m)->bj x.2.2.2.2 m 0=bj a.U m 0)/\
   bk (prt x.2.2.2.2 a.j x.1.toNat)=bk (prt a.U a.j x.1.toNat) - x.2.1*bk (a.v.take x.1.toNat)+4294967296^x.1.toNat*(x.2.2.1+x.2.2.2.1)) (λx=>(a.v.length - x.1).toNat) λ_ _=> .look
 |23=> .inv (Int×Int×Int×List Int) (λx=>⟨[(0,.oc 0 a.j a.len a.n 1),(1,.row (.i .u32) a.v),(5,.si .i64 a.v.length),(7,.si .u64 x.2.1),(9,.si .u64 x.2.2.1),(134,.si .i64 a.v.length),(135,.si .i64 x.1)],Jx x.2.2.2⟩)
  (λs=>(iS s 135,iS s 7,iS s 9,oS (.i .u32) s 0))
  (λx=>(0<=x.1/\x.1<=a.v.length)/\(0<=x.2.1/\x.2.1<4294967296)/\(a.x<x.2.1*bk a.v/\x.2.1*bk a.v<a.x+bk a.v)/\(0<=x.2.2.1/\x.2.2.1<=1)/\(bA x.2.2.2/\x.2.2.2.length=a.U.length)/\
   ∃W,(bA W/\W.length=a.U.length)/\(∀m,(m<a.j\/a.j+(a.v.length+1)<=m)->bj W m 0=bj a.U m 0)/\bk (prt W a.j (a.v.length+1))=a.x - x.2.1*bk a.v+4294967296^(a.v.length+1)/\
    (∀m,(m<a.j\/a.j+x.1.toNat<=m)->bj x.2.2.2 m 0=bj W m 0)/\bk (prt x.2.2.2 a.j x.1.toNat)+4294967296^x.1.toNat*x.2.2.1=bk (prt W a.j x.1.toNat)+bk (a.v.take x.1.toNat))
  (λx=>(a.v.length - x.1).toNat) λ_ _=> .look
 |_=> .look
theorem h169:dL Tryz.prog Jw:=by
 refine jr (L:=[]) (W:=[]) Jw abS (by simp) (by simp) ?_;rintro⟨U,j,len,n,v⟩ ⟨⟨hU,hv⟩,⟨e1,e2⟩,⟨hn,hj,hlU⟩,hv1,hx⟩;simp only at hU hv hn hj hlU hv1 hx e1 e2;subst e1 e2;refine bQ (let a:=(18446744073709551616:Int);let b:=(0:Int);let c:=(4294967296:Int);let d:=(1:Int);let e:=γc;let f:=γb .i64;let g:=(32:Int);let h:=bY .i64;let k:=(9223372036854775808:Int);let l:=(4294967297:Int);let n:=(64:Int);let o:=bq.row;let p:=γy .i64 0;let q:=(63:Int);let r:=γy .i64;let D:=(↑v.length:Int);let y:=v.length+1;let F:=(↑y:Int);let B:=D - d;let Q:=bj v B.toNat b % a;let a7:=eQ.nZ .u64 (bj U (j+D.toNat) 0 % a*c % a) (bj U (j+B.toNat) 0 % a);let K:=a7.tdiv Q;let C:=SV.oc 0 j y U.length 1;let w:=bn.i .u32;let s:=(↑v.length:Int);let t:=f s;let a8:=γb .u64 K;let R:=a7.tmod Q;let a9:=γb .u64 R;let J:=o w U 235 false;let aa:=v.length - 1;let a3:=bj v aa b;let a4:=bj U (j+aa) 0+c*bj U (j+v.length) 0;let ab:=nI.mk U j y U.length v;let E:=ab.x;let L:=s - d;let aJ:=bj v L.toNat b % a;let M:=E+bk v;let S:=bk (prt U j 0);let I:=j+s.toNat;let ac:=γb .u32 (E / bk v);let ad:=o w ab.row 235 false;let ae:=c^y;let H:=s - (2:Int);U.length=U.length/\b<=D/\D<F/\j+y<=U.length/\U.length=U.length/\j+D.toNat<U.length/\b<=g/\g<=n/\h B/\U.length=U.length/\b<=B/\B<F/\j+y<=U.length/\U.length=U.length/\j+B.toNat<U.length/\h B/\b<=B/\B<D/\B.toNat<v.length/\Q≠b/\bY .u64 K/\h B/\b<=B/\B<D/\B.toNat<v.length/\Q≠b/\(((C.same C/\(e w v).same (e w v)/\(f D).same t/\a8.same a8/\a9.same a9/\True)/\J.same J/\True)/\(b<=K/\K<=l)/\(b<=R/\R<c)/\K*a3+R=a4/\E<(K+d)*bk v)/\∀(x:Int×Int),let N:=(x.snd+aJ) % a;let af:=decide (c<=N);let G:=(x.fst - d) % a;let T:=γb .u64 G;let ag:=γb .u64 N;let ah:=decide (c<=x.fst);let ai:=γb .u64 x.fst;let aj:=∀(x:Int×Int×Int×Int×List Int),let V:=x.snd.fst*bk v;let z:=x.snd.snd.snd.snd;let X:=x.snd.snd.snd.fst;let Y:=x.snd.snd.fst;let ak:=((bj z I b % a - Y) % a - X) % a;let O:=j+x.fst.toNat;let Z:=x.fst+d;let a0:=γb .u64 x.snd.fst;let al:=(x.snd.fst*(bj v x.fst.toNat b % a) % a+Y) % a;let am:=al / c;let an:=γb .u64 am;let ao:=eQ.ry .u64 al (4294967295:Int);let ap:=((bj z O b % a - ao) % a - X) % a;let aq:=ap / k;let ar:=γb .u64 aq;let au:=f Z;let P:=z.set I (ak % c);let av:=λ(u u_1 u_2:Int) (u_3:List Int) ↦(b<=u/\u<=s)/\(b<=x.snd.fst/\x.snd.fst<c)/\(E<(x.snd.fst+d)*bk v/\V<M)/\(b<=u_1/\u_1<c)/\(b<=u_2/\u_2<=d)/\(bA u_3/\u_3.length=U.length)/\(∀(m:Nat),m<j\/j+u.toNat<=m->bj u_3 m b=bj U m b)/\bk (prt u_3 j u.toNat)=bk (prt U j u.toNat) - x.snd.fst*bk (γe u.toNat v)+c^u.toNat*(u_1+u_2);let aw:=λ(u:Nat) (u_1:Int) ↦let ax:=o w (z.set u (((bj z u b % a - u_1) % a - X) % a % c)) 235 false;ax.same ax/\True;let ay:=λ(u:Bool) ↦decide (ak / k=b)=u;av x.fst Y X z->(decide (x.fst<s)=true->b<=x.fst/\x.fst<D/\x.fst.toNat<v.length/\b<=g/\g<=n/\U.length=z.length/\b<=x.fst/\x.fst<F/\j+y<=U.length/\U.length=z.length/\O<z.length/\b<=q/\q<=n/\U.length=z.length/\b<=x.fst/\x.fst<F/\j+y<=U.length/\U.length=z.length/\O<z.length/\h Z/\((C.same C/\(e w v).same (e w v)/\t.same t/\a0.same a0/\an.same an/\ar.same ar/\t.same t/\au.same au/\True)/\aw O ao)/\av Z am aq (z.set O (ap % c))/\(s - Z).toNat<(s - x.fst).toNat)/\(decide (x.fst<s)=false->U.length=z.length/\b<=s/\s<F/\j+y<=U.length/\U.length=z.length/\I<z.length/\U.length=z.length/\b<=s/\s<F/\j+y<=U.length/\U.length=z.length/\I<z.length/\b<=q/\q<=n/\(ay true->(γb .u32 (x.snd.fst % c)).same ac/\(o w P 235 false).same ad/\True)/\(ay false->(((C.same C/\(e w v).same (e w v)/\t.same t/\a0.same a0/\(γy .u64 0).same (γb .u64 0)/\t.same t/\(p).same (f 0)/\True)/\aw I Y)/\(b<=b/\b<=s)/\(b<=x.snd.fst/\x.snd.fst<c)/\(E<V/\V<M)/\(b<=b/\b<=d)/\(bA P/\P.length=U.length)/\∃(W:List Int),(bA W/\W.length=U.length)/\(∀(m:Nat),m<j\/j+y<=m->bj W m b=bj U m b)/\bk (prt W j y)=E - V+ae/\(∀(m:Nat),m<j\/j+0<=m->bj P m b=bj W m b)/\bk (prt P j 0)+b=bk (prt W j 0)+bk [])/\∀(x:Int×Int×Int×List Int),let a5:=x.snd.fst*bk v;let a6:=x.snd.snd.fst;let A:=x.snd.snd.snd;let a1:=j+x.fst.toNat;let a2:=x.fst+d;let az:=γb .u64 x.snd.fst;let aA:=((bj A a1 b % a+bj v x.fst.toNat b % a) % a+a6) % a;let aB:=aA / c;let aC:=γb .u64 aB;let aD:=f a2;let aE:=A.set a1 (aA % c);let aF:=o w aE 235 false;let aG:=λ(u u_1:Int) (u_2:List Int) ↦(b<=u/\u<=s)/\(b<=x.snd.fst/\x.snd.fst<c)/\(E<a5/\a5<M)/\(b<=u_1/\u_1<=d)/\(bA u_2/\u_2.length=U.length)/\∃(W:List Int),(bA W/\W.length=U.length)/\(∀(m:Nat),m<j\/j+y<=m->bj W m b=bj U m b)/\bk (prt W j y)=E - a5+ae/\(∀(m:Nat),m<j\/j+u.toNat<=m->bj u_2 m b=bj W m b)/\bk (prt u_2 j u.toNat)+c^u.toNat*u_1=bk (prt W j u.toNat)+bk (γe u.toNat v);aG x.fst a6 A->(decide (x.fst<s)=true->U.length=A.length/\b<=x.fst/\x.fst<F/\j+y<=U.length/\U.length=A.length/\a1<A.length/\b<=x.fst/\x.fst<D/\x.fst.toNat<v.length/\b<=g/\g<=n/\U.length=A.length/\b<=x.fst/\x.fst<F/\j+y<=U.length/\U.length=A.length/\a1<A.length/\h a2/\((C.same C/\(e w v).same (e w v)/\t.same t/\az.same az/\aC.same aC/\t.same t/\aD.same aD/\True)/\aF.same aF/\True)/\aG a2 aB aE/\(s - a2).toNat<(s - x.fst).toNat)/\(decide (x.fst<s)=false->U.length=A.length/\b<=s/\s<F/\j+y<=U.length/\U.length=A.length/\I<A.length/\U.length=A.length/\b<=s/\s<F/\j+y<=U.length/\U.length=A.length/\I<A.length/\(γb .u32 ((x.snd.fst - d) % a % c)).same ac/\(o w (A.set I ((bj A I b+a6 % c) % c)) 235 false).same ad/\True)));let aH:=h L/\b<=L/\L<D/\L.toNat<v.length/\(af=true->(((C.same C/\(e w v).same (e w v)/\t.same t/\T.same T/\(γy .u64 0).same (γb .u64 0)/\(γy .u64 0).same (γb .u64 0)/\t.same t/\(p).same (f 0)/\True)/\J.same J/\True)/\(b<=b/\b<=s)/\(b<=G/\G<c)/\(E<(G+d)*bk v/\G*bk v<M)/\(b<=b/\b<c)/\(b<=b/\b<=d)/\(bA U/\U.length=U.length)/\(∀(m:Nat),m<j\/j+0<=m->bj U m b=bj U m b)/\S=S - G*bk []+b)/\aj)/\(af=false->((C.same C/\(e w v).same (e w v)/\t.same t/\T.same T/\ag.same ag/\True)/\J.same J/\True)/\((b<=G/\G<=l)/\(b<=N/\N<c)/\G*a3+N=a4/\E<(G+d)*bk v)/\G.toNat<x.fst.toNat);let aI:=λ(u:Bool) ↦decide (eQ.nZ .u64 (x.snd*c % a) (bj U (j+H.toNat) 0 % a)<x.fst*(bj v H.toNat b % a) % a)=u;(b<=x.fst/\x.fst<=l)/\(b<=x.snd/\x.snd<c)/\x.fst*a3+x.snd=a4/\E<(x.fst+d)*bk v->(ah=true->aH)/\(ah=false->h H/\b<=H/\H<D/\H.toNat<v.length/\b<=g/\g<=n/\h H/\U.length=U.length/\b<=H/\H<F/\j+y<=U.length/\U.length=U.length/\j+H.toNat<U.length/\(aI true->aH)/\(aI false->(((C.same C/\(e w v).same (e w v)/\t.same t/\ai.same ai/\(γy .u64 0).same (γb .u64 0)/\(γy .u64 0).same (γb .u64 0)/\t.same t/\(p).same (f 0)/\True)/\J.same J/\True)/\(b<=b/\b<=s)/\(b<=x.fst/\x.fst<c)/\(E<(x.fst+d)*bk v/\x.fst*bk v<M)/\(b<=b/\b<c)/\(b<=b/\b<=d)/\(bA U/\U.length=U.length)/\(∀(m:Nat),m<j\/j+0<=m->bj U m b=bj U m b)/\S=S - x.fst*bk []+b)/\aj))) (by kernel_rfl) ?_;simp only[vcs];have t1:((v.length:Int) - 1).toNat=v.length - 1:=by omega
 have t2:((v.length:Int) - 2).toNat=v.length - 2:=by omega
 have t3:((v.length:Int)).toNat=v.length:=by omega
 have x8:=abQ hn rfl;have x9:=@abR U j v.length hn;have dv1:=dX hv (v.length - 1);have vP:=dX hv (v.length - 2);have RG:=dX hU (j+v.length);have Jy:=dX hU (j+(v.length - 1));have D9:=dX hU (j+(v.length - 2));have m1:bj v (v.length - 1) 0 % 18446744073709551616=bj v (v.length - 1) 0:=by omega
 have m2:bj v (v.length - 2) 0 % 18446744073709551616=bj v (v.length - 2) 0:=by omega
 have m3:bj U (j+v.length) 0 % 18446744073709551616=bj U (j+v.length) 0:=by omega
 have m4:bj U (j+(v.length - 1)) 0 % 18446744073709551616=bj U (j+(v.length - 1)) 0:=by omega
 have m5:bj U (j+(v.length - 2)) 0 % 18446744073709551616=bj U (j+(v.length - 2)) 0:=by omega
 have m6:bj U (j+v.length) 0*4294967296 % 18446744073709551616=bj U (j+v.length) 0*4294967296:=by omega
 have hor:=Jm RG.1 RG.2 Jy.1 Jy.2;have htop:0<=bj U (j+v.length) 0*4294967296+bj U (j+(v.length - 1)) 0:=by omega
 have hx':bk (prt U j (v.length+1))<4294967296*bk v:=hx;have hP:=pow_pos (v.length - 2);have qu:=fc (nG hv (v.length - 2));have Ai:=oq (nG hv (v.length - 2));rw[Ω,εp (by omega)] at Ai;have oP:=fc (uv hU (j:=j) (k:=v.length - 2));have Jz:=vN hU (j:=j) (k:=v.length - 2);have hV0:=fc hv;have hX0:=fc (uv hU (j:=j) (k:=v.length+1));have htp:=abP hP x8 x9 Ai oP D9.1 Jy.1 vP.2 hx';have hax:(nI.mk U j (v.length+1) U.length v).x=bk (prt U j (v.length+1)):=rfl;simp only[hax,t1,t2,t3,m1,m2,m3,m4,m5,m6,hor,Int.tdiv_eq_ediv_of_nonneg htop,Int.tmod_eq_emod_of_nonneg htop];generalize abV:bj v (v.length - 1) 0=v1 at*;generalize abW:bj v (v.length - 2) 0=v2 at*;generalize agR:bj U (j+v.length) 0=u0 at*;generalize abX:bj U (j+(v.length - 1)) 0=u1 at*;generalize abY:bj U (j+(v.length - 2)) 0=u2 at*;have hqr:=εo (u0*4294967296+u1) v1;have hr0:=δV (u0*4294967296+u1) (show v1≠0 by omega);have hr1:=δx (u0*4294967296+u1) (show 0<v1 by omega);have hg0:0<=(u0*4294967296+u1) / v1:=δ8 htop (by omega);generalize hge:(u0*4294967296+u1) / v1=g0 at*;generalize hre:(u0*4294967296+u1) % v1=r0 at*;have hg1:g0<=4294967297:=by
  by_cases h:g0<=4294967297;·exact h
  ·exfalso;have:=Δ (show(4294967298:Int)<=g0 by omega) (show 0<=v1 by omega);omega
 have RI:g0*v1+r0=u1+4294967296*u0:=by rw[εb g0];omega
 have hst:=abO hP x8 x9 qu Jz vP.1 D9.2 hg0 RI hr1;have hin:bY .u64 g0:=u64_in hg0 (by omega);repeat refine γj (by omega) ?_
 clear t1 t2 t3 m1 m2 m3 m4 m5 m6 hor htop hge hre hqr hr0 hr1 hg0 hg1 RI hst hin abV abW abX abY hx;rintro⟨g,r⟩ ⟨⟨g0',g1'⟩,⟨r0',r1'⟩,hgr,hgx⟩;simp only at g0' g1' r0' r1' hgr hgx ⊢;have Ea:0<g+1:=by omega
 have e1:(r+v1) % 18446744073709551616=r+v1:=by omega
 have e2:r*4294967296 % 18446744073709551616=r*4294967296:=by omega
 have gv0:0<=g*v2:=γD g0' vP.1;have gv1:g*v2<=4294967297*4294967295:=δR (by omega) (by omega) vP.1 (by omega);have e3:g*v2 % 18446744073709551616=g*v2:=by omega
 have hor2:=Jm r0' r1' D9.1 D9.2;have JA:g*v1+r=u1+4294967296*u0:=hgr;have RJ:4294967296<=r+v1->g<=4294967296:=λh=>by
  by_cases hg:g<=4294967296;·exact hg
  ·have:g=4294967297:=by omega
   subst this;omega
 have dec:(4294967296<=g\/r*4294967296+u2<g*v2)->(bk (prt U j (v.length+1))<g*bk v/\(g - 1) % 18446744073709551616=g - 1/\0<=g - 1/\(g - 1)*v1+(r+v1)=u1+4294967296*u0):=λh=>by
  have h1:=abN hP x8 x9 qu Jz hx' hV0 g0' JA h;have h2:g≠0:=by
   rintro rfl;omega
  refine⟨h1,by omega,by omega,?_⟩;rw[ζL,δU];omega
 simp only[e1,e2,e3,hor2];have brk:(4294967296<=g\/r*4294967296+u2<g*v2)->4294967296<=r+v1->∃gg,gg=(g - 1) % 18446744073709551616/\(0<=gg/\gg<4294967296)/\bk (prt U j (v.length+1))<(gg+1)*bk v/\gg*bk v<bk (prt U j (v.length+1))+bk v:=λh hb=>by
  obtain⟨k1,k2,k3,k4⟩:=dec h;have k5:=RJ hb;rw[k2];refine⟨_,rfl,by omega,by rw[show g - 1+1=g by omega];exact k1,RF hP x8 x9 qu Ai oP hv1 vP.1 k3 (by omega) k4 ?_⟩;have:=δR (show g - 1<=4294967295 by omega) (show v2<=4294967295 by omega) vP.1 (by omega);omega
 have Aj:(4294967296<=g\/r*4294967296+u2<g*v2)->¬4294967296<=r+v1->(0<=(g - 1) % 18446744073709551616/\(g - 1) % 18446744073709551616<=4294967297)/\(g - 1) % 18446744073709551616*v1+(r+v1)=u1+4294967296*u0/\bk (prt U j (v.length+1))<((g - 1) % 18446744073709551616+1)*bk v/\((g - 1) % 18446744073709551616).toNat<g.toNat:=λh hb=>by
  obtain⟨k1,k2,k3,k4⟩:=dec h;rw[k2];exact⟨by omega,k4,by rw[show g - 1+1=g by omega];exact k1,by omega⟩
 have ext:¬4294967296<=g->¬r*4294967296+u2<g*v2->∃gg,gg=g/\(0<=gg/\gg<4294967296)/\bk (prt U j (v.length+1))<(gg+1)*bk v/\gg*bk v<bk (prt U j (v.length+1))+bk v:=λh h2=>
  ⟨_,rfl,by omega,hgx,RF hP x8 x9 qu Ai oP hv1 vP.1 g0' (by omega) JA (by omega)⟩;clear JA Ea e1 e2 e3 gv0 gv1 hor2 x8 x9 qu Ai oP Jz RJ dec htp;refine⟨λhB=>?_,λhB=>?_⟩
 ·refine⟨by omega,by omega,by omega,by omega,?_⟩;refine⟨λhb=>?_,λhb=>?_⟩
  ·obtain⟨gg,hgg,f0,f2,f3⟩:=brk (.inl hB) hb;rw[<-hgg];clear hB hb;clear hgg brk Aj ext hgx hgr;refine⟨?_,?_⟩
   ·repeat' refine γj ?_ ?_
    all_goals first|omega|exact hU|exact f2|exact f3|exact λ_ _=>trivial|(simp only[bk];omega)
   clear f0 f2 f3;rintro⟨i,ga,c,b,R⟩ ⟨⟨i0,i1⟩,⟨ot,qI⟩,⟨f2,f3⟩,⟨c0,c1⟩,⟨b0,b1⟩,⟨hR,hRl⟩,ho,he⟩;simp only at i0 i1 ot qI f2 f3 c0 c1 b0 b1 hR hRl ho he ⊢;refine⟨λkj=>?_,λmf=>?_⟩
   ·have x:=dX hv i.toNat;have y:=dX hR (j+i.toNat);have RL:0<=ga*bj v i.toNat 0:=γD ot x.1;have RN:ga*bj v i.toNat 0<=4294967295*4294967295:=δR (by omega) (by omega) x.1 (by omega);have q1:bj v i.toNat 0 % 18446744073709551616=bj v i.toNat 0:=by omega
    have q2:bj R (j+i.toNat) 0 % 18446744073709551616=bj R (j+i.toNat) 0:=by omega
    have q3:(ga*bj v i.toNat 0 % 18446744073709551616+c) % 18446744073709551616=ga*bj v i.toNat 0+c:=by omega
    have hi1:(i+1).toNat=i.toNat+1:=by omega
    rw[q1,q2,q3,Jt (by omega) (by omega),hi1];generalize hq:((bj R (j+i.toNat) 0 - (ga*bj v i.toNat 0+c) % 4294967296) % 18446744073709551616 - b) % 18446744073709551616=q;obtain⟨k1,k2,k3,k4,k5⟩:=Ju (d:=q % 4294967296) (e:=q / 9223372036854775808) hR hRl hv ot qI c0 c1 b0 b1 (show j+i.toNat<U.length by omega) ho he (by omega) (by omega);repeat' refine γj ?_ ?_
    all_goals first|omega|exact k1|exact k2|exact k3|exact k4|exact k5|exact f2|exact f3
   ·have hi:i.toNat=v.length:=by omega
    rw[hi,ψ] at he;rw[hi] at ho;have hun:=ho (j+v.length) (.inr (φ _));have du:=dX hU (j+v.length);have q2:bj R (j+v.length) 0 % 18446744073709551616=bj R (j+v.length) 0:=by rw[hun];omega
    have qJ:=@my U j v.length;rw[q2];generalize hq:((bj R (j+v.length) 0 - c) % 18446744073709551616 - b) % 18446744073709551616=q;have kL:bA (R.set (j+v.length) (q % 4294967296)):=nH hR (by omega) (by omega);have hlen:(R.set (j+v.length) (q % 4294967296)).length=U.length:=by simp[hRl]
    have hout:∀m,(m<j\/j+(v.length+1)<=m)->bj (R.set (j+v.length) (q % 4294967296)) m 0=bj U m 0:=λm hm=>by rw[pU (by omega)];exact ho m (by omega)
    have hval:bk (prt (R.set (j+v.length) (q % 4294967296)) j (v.length+1))=bk (prt U j (v.length+1)) - ga*bk v+4294967296^(v.length+1)*(q / 9223372036854775808):=by
     rw[my,uu (φ _),sN (by omega),he,qJ,γQ];have hd:q % 4294967296 - 4294967296*(q / 9223372036854775808)=bj U (j+v.length) 0 - c - b:=by rw[hun] at hq;omega
     generalize (4294967296:Int)^v.length=B;have e:B*4294967296*(q / 9223372036854775808)=B*(q % 4294967296+c+b - bj U (j+v.length) 0):=by rw[δo];congr 1;omega
     rw[e];simp only[εA,εQ];omega
    generalize hW:R.set (j+v.length) (q % 4294967296)=W at*;have hbd:=vN kL (j:=j) (k:=v.length+1);have hnn:=fc (uv kL (j:=j) (k:=v.length+1));have q3:0<=q/\q<18446744073709551616:=by omega
    clear hq hun du q2 he ho hR;repeat refine γj (by omega) ?_
    refine⟨λhz=>?_,λhz=>?_⟩
    ·rw[hz,δS,εq] at hval;obtain⟨w1,w2⟩:=vO (q:=ga) (show ga*bk v<=bk (prt U j (v.length+1)) by omega) f2;refine⟨by rw[w1];omega,?_⟩;have hfin:W=je U j (ik (v.length+1) (bk (prt U j (v.length+1)) % bk v)):=x7 kL hlen (by omega) hout (by rw[hval,w2]);rw[hfin];rfl
    ·have hq1:q / 9223372036854775808=1:=by omega
     rw[hq1,ε4] at hval;have f4:bk (prt U j (v.length+1))<ga*bk v:=by omega
     refine⟨?_,?_⟩
     ·repeat' refine γj ?_ ?_
      all_goals first|omega|exact kL|exact hlen|exact⟨W,⟨kL,hlen⟩,hout,hval,λ_ _=>rfl,by simp only[bk]⟩
     clear kL hlen hout hval hW hbd hnn q3 hz hq1 f4 f2 f3 c0 c1 b0 b1 i0 i1 ot qI;rintro⟨i2,gb,c2,R2⟩ ⟨⟨i0,i1⟩,⟨Ak,Am⟩,⟨f5,f6⟩,⟨c0,c1⟩,⟨hR2,qK⟩,W2,⟨hW2,uw⟩,ho2,uy,ho3,qL⟩;simp only at i0 i1 Ak Am f5 f6 c0 c1 hR2 qK ho3 qL ⊢;refine⟨λkj=>?_,λmf=>?_⟩
     ·have x:=dX hv i2.toNat;have y:=dX hR2 (j+i2.toNat);have hi1:(i2+1).toNat=i2.toNat+1:=by omega
      rw[hi1];have hs:((bj R2 (j+i2.toNat) 0 % 18446744073709551616+bj v i2.toNat 0 % 18446744073709551616) % 18446744073709551616+c2) % 18446744073709551616=bj R2 (j+i2.toNat) 0+bj v i2.toNat 0+c2:=by omega
      rw[hs];obtain⟨k1,k2,k3,k4,k5⟩:=Jv hR2 (qK.trans uw.symm) hv c0 c1 (show j+i2.toNat<W2.length by omega) hW2 ho3 qL rfl;repeat' refine γj ?_ ?_
      all_goals first|omega|exact k1|exact f5|exact f6|exact⟨W2,⟨hW2,uw⟩,ho2,uy,k4,k5⟩
     ·have hi2:i2.toNat=v.length:=by omega
      rw[hi2,ψ] at qL;rw[hi2] at ho3;have hun:=ho3 (j+v.length) (.inr (φ _));have du:=dX hW2 (j+v.length);have qJ:=@my W2 j v.length;have hc2:c2 % 4294967296=c2:=by omega
      rw[hc2,hun];have hF:bA (R2.set (j+v.length) ((bj W2 (j+v.length) 0+c2) % 4294967296)):=nH hR2 (by omega) (by omega);have An:(R2.set (j+v.length) ((bj W2 (j+v.length) 0+c2) % 4294967296)).length=U.length:=by simp[qK]
      have Ao:∀m,(m<j\/j+(v.length+1)<=m)->bj (R2.set (j+v.length) ((bj W2 (j+v.length) 0+c2) % 4294967296)) m 0=bj U m 0:=λm hm=>by rw[pU (by omega),ho3 m (by omega)];exact ho2 m hm
      have qM:bk (prt (R2.set (j+v.length) ((bj W2 (j+v.length) 0+c2) % 4294967296)) j (v.length+1))=bk (prt U j (v.length+1)) - gb*bk v+4294967296^(v.length+1)+bk v - 4294967296^(v.length+1)*((bj W2 (j+v.length) 0+c2) / 4294967296):=by
       rw[my,uu (φ _),sN (by omega),<-uy,qJ,γQ];generalize (4294967296:Int)^v.length=B at*;have e:B*4294967296*((bj W2 (j+v.length) 0+c2) / 4294967296)=B*(bj W2 (j+v.length) 0+c2 - (bj W2 (j+v.length) 0+c2) % 4294967296):=by rw[δo];congr 1;omega
       rw[e];simp only[εA,εQ];omega
      have hbd:=vN hF (j:=j) (k:=v.length+1);have hk:(bj W2 (j+v.length) 0+c2) / 4294967296=1:=by
       by_cases h:(bj W2 (j+v.length) 0+c2) / 4294967296=1;·exact h
       ·have h0:(bj W2 (j+v.length) 0+c2) / 4294967296=0:=by omega
        rw[h0,δS] at qM;omega
      rw[hk,ε4] at qM;have e1:(gb - 1)*bk v=gb*bk v - bk v:=by rw[ζL,δU]
      obtain⟨w1,w2⟩:=vO (q:=gb - 1) (show(gb - 1)*bk v<=bk (prt U j (v.length+1)) by omega) (by rw[show gb - 1+1=gb by omega];exact f5);have Ea:0<gb:=by
       by_cases h:0<gb;·exact h
       ·have:gb=0:=by omega
        subst this;omega
      have hfin:R2.set (j+v.length) ((bj W2 (j+v.length) 0+c2) % 4294967296)=je U j (ik (v.length+1) (bk (prt U j (v.length+1)) % bk v)):=x7 hF An (by omega) Ao (by rw[qM,w2,e1];omega);repeat refine γj (by omega) ?_
      rw[hfin];rfl
  ·obtain⟨k1,k2,k3,k4⟩:=Aj (.inl hB) hb;repeat' refine γj ?_ ?_
   all_goals first|omega|exact k2|exact k3
 ·repeat refine γj (by omega) ?_
  refine⟨λhc=>?_,λhc=>?_⟩
  ·repeat refine γj (by omega) ?_
   refine⟨λhb=>?_,λhb=>?_⟩
   ·obtain⟨gg,hgg,f0,f2,f3⟩:=brk (.inr hc) hb;rw[<-hgg];clear hB hb hc;clear hgg brk Aj ext hgx hgr;refine⟨?_,?_⟩
    ·repeat' refine γj ?_ ?_
     all_goals first|omega|exact hU|exact f2|exact f3|exact λ_ _=>trivial|(simp only[bk];omega)
    clear f0 f2 f3;rintro⟨i,ga,c,b,R⟩ ⟨⟨i0,i1⟩,⟨ot,qI⟩,⟨f2,f3⟩,⟨c0,c1⟩,⟨b0,b1⟩,⟨hR,hRl⟩,ho,he⟩;simp only at i0 i1 ot qI f2 f3 c0 c1 b0 b1 hR hRl ho he ⊢;refine⟨λkj=>?_,λmf=>?_⟩
    ·have x:=dX hv i.toNat;have y:=dX hR (j+i.toNat);have RL:0<=ga*bj v i.toNat 0:=γD ot x.1;have RN:ga*bj v i.toNat 0<=4294967295*4294967295:=δR (by omega) (by omega) x.1 (by omega);have q1:bj v i.toNat 0 % 18446744073709551616=bj v i.toNat 0:=by omega
     have q2:bj R (j+i.toNat) 0 % 18446744073709551616=bj R (j+i.toNat) 0:=by omega
     have q3:(ga*bj v i.toNat 0 % 18446744073709551616+c) % 18446744073709551616=ga*bj v i.toNat 0+c:=by omega
     have hi1:(i+1).toNat=i.toNat+1:=by omega
     rw[q1,q2,q3,Jt (by omega) (by omega),hi1];generalize hq:((bj R (j+i.toNat) 0 - (ga*bj v i.toNat 0+c) % 4294967296) % 18446744073709551616 - b) % 18446744073709551616=q;obtain⟨k1,k2,k3,k4,k5⟩:=Ju (d:=q % 4294967296) (e:=q / 9223372036854775808) hR hRl hv ot qI c0 c1 b0 b1 (show j+i.toNat<U.length by omega) ho he (by omega) (by omega);repeat' refine γj ?_ ?_
     all_goals first|omega|exact k1|exact k2|exact k3|exact k4|exact k5|exact f2|exact f3
    ·have hi:i.toNat=v.length:=by omega
     rw[hi,ψ] at he;rw[hi] at ho;have hun:=ho (j+v.length) (.inr (φ _));have du:=dX hU (j+v.length);have q2:bj R (j+v.length) 0 % 18446744073709551616=bj R (j+v.length) 0:=by rw[hun];omega
     have qJ:=@my U j v.length;rw[q2];generalize hq:((bj R (j+v.length) 0 - c) % 18446744073709551616 - b) % 18446744073709551616=q;have kL:bA (R.set (j+v.length) (q % 4294967296)):=nH hR (by omega) (by omega);have hlen:(R.set (j+v.length) (q % 4294967296)).length=U.length:=by simp[hRl]
     have hout:∀m,(m<j\/j+(v.length+1)<=m)->bj (R.set (j+v.length) (q % 4294967296)) m 0=bj U m 0:=λm hm=>by rw[pU (by omega)];exact ho m (by omega)
     have hval:bk (prt (R.set (j+v.length) (q % 4294967296)) j (v.length+1))=bk (prt U j (v.length+1)) - ga*bk v+4294967296^(v.length+1)*(q / 9223372036854775808):=by
      rw[my,uu (φ _),sN (by omega),he,qJ,γQ];have hd:q % 4294967296 - 4294967296*(q / 9223372036854775808)=bj U (j+v.length) 0 - c - b:=by rw[hun] at hq;omega
      generalize (4294967296:Int)^v.length=B;have e:B*4294967296*(q / 9223372036854775808)=B*(q % 4294967296+c+b - bj U (j+v.length) 0):=by rw[δo];congr 1;omega
      rw[e];simp only[εA,εQ];omega
     generalize hW:R.set (j+v.length) (q % 4294967296)=W at*;have hbd:=vN kL (j:=j) (k:=v.length+1);have hnn:=fc (uv kL (j:=j) (k:=v.length+1));have q3:0<=q/\q<18446744073709551616:=by omega
     clear hq hun du q2 he ho hR;repeat refine γj (by omega) ?_
     refine⟨λhz=>?_,λhz=>?_⟩
     ·rw[hz,δS,εq] at hval;obtain⟨w1,w2⟩:=vO (q:=ga) (show ga*bk v<=bk (prt U j (v.length+1)) by omega) f2;refine⟨by rw[w1];omega,?_⟩;have hfin:W=je U j (ik (v.length+1) (bk (prt U j (v.length+1)) % bk v)):=x7 kL hlen (by omega) hout (by rw[hval,w2]);rw[hfin];rfl
     ·have hq1:q / 9223372036854775808=1:=by omega
      rw[hq1,ε4] at hval;have f4:bk (prt U j (v.length+1))<ga*bk v:=by omega
      refine⟨?_,?_⟩
      ·repeat' refine γj ?_ ?_
       all_goals first|omega|exact kL|exact hlen|exact⟨W,⟨kL,hlen⟩,hout,hval,λ_ _=>rfl,by simp only[bk]⟩
      clear kL hlen hout hval hW hbd hnn q3 hz hq1 f4 f2 f3 c0 c1 b0 b1 i0 i1 ot qI;rintro⟨i2,gb,c2,R2⟩ ⟨⟨i0,i1⟩,⟨Ak,Am⟩,⟨f5,f6⟩,⟨c0,c1⟩,⟨hR2,qK⟩,W2,⟨hW2,uw⟩,ho2,uy,ho3,qL⟩;simp only at i0 i1 Ak Am f5 f6 c0 c1 hR2 qK ho3 qL ⊢;refine⟨λkj=>?_,λmf=>?_⟩
      ·have x:=dX hv i2.toNat;have y:=dX hR2 (j+i2.toNat);have hi1:(i2+1).toNat=i2.toNat+1:=by omega
       rw[hi1];have hs:((bj R2 (j+i2.toNat) 0 % 18446744073709551616+bj v i2.toNat 0 % 18446744073709551616) % 18446744073709551616+c2) % 18446744073709551616=bj R2 (j+i2.toNat) 0+bj v i2.toNat 0+c2:=by omega
       rw[hs];obtain⟨k1,k2,k3,k4,k5⟩:=Jv hR2 (qK.trans uw.symm) hv c0 c1 (show j+i2.toNat<W2.length by omega) hW2 ho3 qL rfl;repeat' refine γj ?_ ?_
       all_goals first|omega|exact k1|exact f5|exact f6|exact⟨W2,⟨hW2,uw⟩,ho2,uy,k4,k5⟩
      ·have hi2:i2.toNat=v.length:=by omega
       rw[hi2,ψ] at qL;rw[hi2] at ho3;have hun:=ho3 (j+v.length) (.inr (φ _));have du:=dX hW2 (j+v.length);have qJ:=@my W2 j v.length;have hc2:c2 % 4294967296=c2:=by omega
       rw[hc2,hun];have hF:bA (R2.set (j+v.length) ((bj W2 (j+v.length) 0+c2) % 4294967296)):=nH hR2 (by omega) (by omega);have An:(R2.set (j+v.length) ((bj W2 (j+v.length) 0+c2) % 4294967296)).length=U.length:=by simp[qK]
       have Ao:∀m,(m<j\/j+(v.length+1)<=m)->bj (R2.set (j+v.length) ((bj W2 (j+v.length) 0+c2) % 4294967296)) m 0=bj U m 0:=λm hm=>by rw[pU (by omega),ho3 m (by omega)];exact ho2 m hm
       have qM:bk (prt (R2.set (j+v.length) ((bj W2 (j+v.length) 0+c2) % 4294967296)) j (v.length+1))=bk (prt U j (v.length+1)) - gb*bk v+4294967296^(v.length+1)+bk v - 4294967296^(v.length+1)*((bj W2 (j+v.length) 0+c2) / 4294967296):=by
        rw[my,uu (φ _),sN (by omega),<-uy,qJ,γQ];generalize (4294967296:Int)^v.length=B at*;have e:B*4294967296*((bj W2 (j+v.length) 0+c2) / 4294967296)=B*(bj W2 (j+v.length) 0+c2 - (bj W2 (j+v.length) 0+c2) % 4294967296):=by rw[δo];congr 1;omega
        rw[e];simp only[εA,εQ];omega
       have hbd:=vN hF (j:=j) (k:=v.length+1);have hk:(bj W2 (j+v.length) 0+c2) / 4294967296=1:=by
        by_cases h:(bj W2 (j+v.length) 0+c2) / 4294967296=1;·exact h
        ·have h0:(bj W2 (j+v.length) 0+c2) / 4294967296=0:=by omega
         rw[h0,δS] at qM;omega
       rw[hk,ε4] at qM;have e1:(gb - 1)*bk v=gb*bk v - bk v:=by rw[ζL,δU]
       obtain⟨w1,w2⟩:=vO (q:=gb - 1) (show(gb - 1)*bk v<=bk (prt U j (v.length+1)) by omega) (by rw[show gb - 1+1=gb by omega];exact f5);have Ea:0<gb:=by
        by_cases h:0<gb;·exact h
        ·have:gb=0:=by omega
         subst this;omega
       have hfin:R2.set (j+v.length) ((bj W2 (j+v.length) 0+c2) % 4294967296)=je U j (ik (v.length+1) (bk (prt U j (v.length+1)) % bk v)):=x7 hF An (by omega) Ao (by rw[qM,w2,e1];omega);repeat refine γj (by omega) ?_
       rw[hfin];rfl
   ·obtain⟨k1,k2,k3,k4⟩:=Aj (.inr hc) hb;repeat' refine γj ?_ ?_
    all_goals first|omega|exact k2|exact k3
  ·obtain⟨gg,hgg,f0,f2,f3⟩:=ext hB hc;rw[<-hgg];clear hB hc;clear hgg brk Aj ext hgx hgr;refine⟨?_,?_⟩
   ·repeat' refine γj ?_ ?_
    all_goals first|omega|exact hU|exact f2|exact f3|exact λ_ _=>trivial|(simp only[bk];omega)
   clear f0 f2 f3;rintro⟨i,ga,c,b,R⟩ ⟨⟨i0,i1⟩,⟨ot,qI⟩,⟨f2,f3⟩,⟨c0,c1⟩,⟨b0,b1⟩,⟨hR,hRl⟩,ho,he⟩;simp only at i0 i1 ot qI f2 f3 c0 c1 b0 b1 hR hRl ho he ⊢;refine⟨λkj=>?_,λmf=>?_⟩
   ·have x:=dX hv i.toNat;have y:=dX hR (j+i.toNat);have RL:0<=ga*bj v i.toNat 0:=γD ot x.1;have RN:ga*bj v i.toNat 0<=4294967295*4294967295:=δR (by omega) (by omega) x.1 (by omega);have q1:bj v i.toNat 0 % 18446744073709551616=bj v i.toNat 0:=by omega
    have q2:bj R (j+i.toNat) 0 % 18446744073709551616=bj R (j+i.toNat) 0:=by omega
    have q3:(ga*bj v i.toNat 0 % 18446744073709551616+c) % 18446744073709551616=ga*bj v i.toNat 0+c:=by omega
    have hi1:(i+1).toNat=i.toNat+1:=by omega
    rw[q1,q2,q3,Jt (by omega) (by omega),hi1];generalize hq:((bj R (j+i.toNat) 0 - (ga*bj v i.toNat 0+c) % 4294967296) % 18446744073709551616 - b) % 18446744073709551616=q;obtain⟨k1,k2,k3,k4,k5⟩:=Ju (d:=q % 4294967296) (e:=q / 9223372036854775808) hR hRl hv ot qI c0 c1 b0 b1 (show j+i.toNat<U.length by omega) ho he (by omega) (by omega);repeat' refine γj ?_ ?_
    all_goals first|omega|exact k1|exact k2|exact k3|exact k4|exact k5|exact f2|exact f3
   ·have hi:i.toNat=v.length:=by omega
    rw[hi,ψ] at he;rw[hi] at ho;have hun:=ho (j+v.length) (.inr (φ _));have du:=dX hU (j+v.length);have q2:bj R (j+v.length) 0 % 18446744073709551616=bj R (j+v.length) 0:=by rw[hun];omega
    have qJ:=@my U j v.length;rw[q2];generalize hq:((bj R (j+v.length) 0 - c) % 18446744073709551616 - b) % 18446744073709551616=q;have kL:bA (R.set (j+v.length) (q % 4294967296)):=nH hR (by omega) (by omega);have hlen:(R.set (j+v.length) (q % 4294967296)).length=U.length:=by simp[hRl]
    have hout:∀m,(m<j\/j+(v.length+1)<=m)->bj (R.set (j+v.length) (q % 4294967296)) m 0=bj U m 0:=λm hm=>by rw[pU (by omega)];exact ho m (by omega)
    have hval:bk (prt (R.set (j+v.length) (q % 4294967296)) j (v.length+1))=bk (prt U j (v.length+1)) - ga*bk v+4294967296^(v.length+1)*(q / 9223372036854775808):=by
     rw[my,uu (φ _),sN (by omega),he,qJ,γQ];have hd:q % 4294967296 - 4294967296*(q / 9223372036854775808)=bj U (j+v.length) 0 - c - b:=by rw[hun] at hq;omega
     generalize (4294967296:Int)^v.length=B;have e:B*4294967296*(q / 9223372036854775808)=B*(q % 4294967296+c+b - bj U (j+v.length) 0):=by rw[δo];congr 1;omega
     rw[e];simp only[εA,εQ];omega
    generalize hW:R.set (j+v.length) (q % 4294967296)=W at*;have hbd:=vN kL (j:=j) (k:=v.length+1);have hnn:=fc (uv kL (j:=j) (k:=v.length+1));have q3:0<=q/\q<18446744073709551616:=by omega
    clear hq hun du q2 he ho hR;repeat refine γj (by omega) ?_
    refine⟨λhz=>?_,λhz=>?_⟩
    ·rw[hz,δS,εq] at hval;obtain⟨w1,w2⟩:=vO (q:=ga) (show ga*bk v<=bk (prt U j (v.length+1)) by omega) f2;refine⟨by rw[w1];omega,?_⟩;have hfin:W=je U j (ik (v.length+1) (bk (prt U j (v.length+1)) % bk v)):=x7 kL hlen (by omega) hout (by rw[hval,w2]);rw[hfin];rfl
    ·have hq1:q / 9223372036854775808=1:=by omega
     rw[hq1,ε4] at hval;have f4:bk (prt U j (v.length+1))<ga*bk v:=by omega
     refine⟨?_,?_⟩
     ·repeat' refine γj ?_ ?_
      all_goals first|omega|exact kL|exact hlen|exact⟨W,⟨kL,hlen⟩,hout,hval,λ_ _=>rfl,by simp only[bk]⟩
     clear kL hlen hout hval hW hbd hnn q3 hz hq1 f4 f2 f3 c0 c1 b0 b1 i0 i1 ot qI;rintro⟨i2,gb,c2,R2⟩ ⟨⟨i0,i1⟩,⟨Ak,Am⟩,⟨f5,f6⟩,⟨c0,c1⟩,⟨hR2,qK⟩,W2,⟨hW2,uw⟩,ho2,uy,ho3,qL⟩;simp only at i0 i1 Ak Am f5 f6 c0 c1 hR2 qK ho3 qL ⊢;refine⟨λkj=>?_,λmf=>?_⟩
     ·have x:=dX hv i2.toNat;have y:=dX hR2 (j+i2.toNat);have hi1:(i2+1).toNat=i2.toNat+1:=by omega
      rw[hi1];have hs:((bj R2 (j+i2.toNat) 0 % 18446744073709551616+bj v i2.toNat 0 % 18446744073709551616) % 18446744073709551616+c2) % 18446744073709551616=bj R2 (j+i2.toNat) 0+bj v i2.toNat 0+c2:=by omega
      rw[hs];obtain⟨k1,k2,k3,k4,k5⟩:=Jv hR2 (qK.trans uw.symm) hv c0 c1 (show j+i2.toNat<W2.length by omega) hW2 ho3 qL rfl;repeat' refine γj ?_ ?_
      all_goals first|omega|exact k1|exact f5|exact f6|exact⟨W2,⟨hW2,uw⟩,ho2,uy,k4,k5⟩
     ·have hi2:i2.toNat=v.length:=by omega
      rw[hi2,ψ] at qL;rw[hi2] at ho3;have hun:=ho3 (j+v.length) (.inr (φ _));have du:=dX hW2 (j+v.length);have qJ:=@my W2 j v.length;have hc2:c2 % 4294967296=c2:=by omega
      rw[hc2,hun];have hF:bA (R2.set (j+v.length) ((bj W2 (j+v.length) 0+c2) % 4294967296)):=nH hR2 (by omega) (by omega);have An:(R2.set (j+v.length) ((bj W2 (j+v.length) 0+c2) % 4294967296)).length=U.length:=by simp[qK]
      have Ao:∀m,(m<j\/j+(v.length+1)<=m)->bj (R2.set (j+v.length) ((bj W2 (j+v.length) 0+c2) % 4294967296)) m 0=bj U m 0:=λm hm=>by rw[pU (by omega),ho3 m (by omega)];exact ho2 m hm
      have qM:bk (prt (R2.set (j+v.length) ((bj W2 (j+v.length) 0+c2) % 4294967296)) j (v.length+1))=bk (prt U j (v.length+1)) - gb*bk v+4294967296^(v.length+1)+bk v - 4294967296^(v.length+1)*((bj W2 (j+v.length) 0+c2) / 4294967296):=by
       rw[my,uu (φ _),sN (by omega),<-uy,qJ,γQ];generalize (4294967296:Int)^v.length=B at*;have e:B*4294967296*((bj W2 (j+v.length) 0+c2) / 4294967296)=B*(bj W2 (j+v.length) 0+c2 - (bj W2 (j+v.length) 0+c2) % 4294967296):=by rw[δo];congr 1;omega
       rw[e];simp only[εA,εQ];omega
      have hbd:=vN hF (j:=j) (k:=v.length+1);have hk:(bj W2 (j+v.length) 0+c2) / 4294967296=1:=by
       by_cases h:(bj W2 (j+v.length) 0+c2) / 4294967296=1;·exact h
       ·have h0:(bj W2 (j+v.length) 0+c2) / 4294967296=0:=by omega
        rw[h0,δS] at qM;omega
      rw[hk,ε4] at qM;have e1:(gb - 1)*bk v=gb*bk v - bk v:=by rw[ζL,δU]
      obtain⟨w1,w2⟩:=vO (q:=gb - 1) (show(gb - 1)*bk v<=bk (prt U j (v.length+1)) by omega) (by rw[show gb - 1+1=gb by omega];exact f5);have Ea:0<gb:=by
       by_cases h:0<gb;·exact h
       ·have:gb=0:=by omega
        subst this;omega
      have hfin:R2.set (j+v.length) ((bj W2 (j+v.length) 0+c2) % 4294967296)=je U j (ik (v.length+1) (bk (prt U j (v.length+1)) % bk v)):=x7 hF An (by omega) Ao (by rw[qM,w2,e1];omega);repeat refine γj (by omega) ?_
      rw[hfin];rfl
def eh (x y:Int):Int:=(Nat.gcd x.toNat y.toNat:Nat)
theorem ab1 {x y:Int} (h0:0<=x) (h1:0<y):eh y (x % y)=eh x y:=by
 unfold eh;congr 1;rw[Nat.gcd_comm x.toNat,Nat.gcd_rec y.toNat x.toNat,Nat.gcd_comm,Int.toNat_emod h0 (by omega)]
theorem ab2 {x:Int} (h0:0<=x):eh x 0=x:=by unfold eh;simp;omega
theorem mA {i u v:Nat} (h:u=v):(δd i u 1).same (δd i v 1):=by subst h;rfl
theorem RO {l:List Int} (h:l=[]):(γc (.i .i64) []).same (γc (.i .u32) l):=by subst h;rfl
def sbO (x y:Int):SV:=.bH [.row (.i .u32) (cF (x - y)),.sb (decide (y<=x))]
theorem JB {n:Int} (h:n<=0):cF n=[]:=by
 unfold cF;rw[show n.toNat=0 by omega];rfl
def JC:bM:=⟨193,List Int×List Int,.cons (dY (.i .u32)) (.one (dY (.i .u32))),λa=>(bA a.1/\bA a.2)/\a.1.length<=100000000000/\a.2.length<=100000000000,
 λa=>sbO (bk a.1) (bk a.2)⟩
def ab4 (a:List Int×List Int):Nat->cB
 |7=> .inv (Int×Int×List Int) (λx=>⟨[(0,.row (.i .u32) (bI a.1)),(1,.row (.i .u32) (bI a.2)),(6,.ow 0 x.2.2.length 1),(7,.si .u64 x.2.1),(22,.si .i64 (bI a.1).length),(23,.si .i64 x.1)],[.row (.i .u32) x.2.2 235 true]⟩)
  (λs=>(iS s 23,iS s 7,oS (.i .u32) s 0))
  (λx=>(0<=x.1/\x.1<=(bI a.1).length)/\(0<=x.2.1/\x.2.1<=1)/\bA x.2.2/\x.2.2.length=(bI a.1).length/\(∀j,x.1.toNat<=j->bj x.2.2 j 0=0)/\
   bk x.2.2 - 4294967296^x.1.toNat*x.2.1=bk ((bI a.1).take x.1.toNat) - bk ((bI a.2).take x.1.toNat)) (λx=>((bI a.1).length - x.1).toNat) λ_ _=> .look
 |_=> .look
theorem RP {s t row:List Int} {i:Nat} {br d v c:Int} (hs:bA s) (ht:bA t) (hr:bA row) (hl:row.length=s.length) (hz:∀j,i<=j->bj row j 0=0)
  (hv:bk row - 4294967296^i*br=bk (s.take i) - bk (t.take i)) (hi:i<s.length) (hd:d=bj s i 0 - br - bj t i 0) (h0:0<=v/\v<4294967296) (hc:v - 4294967296*c=d):
  bA (row.set i v)/\(row.set i v).length=s.length/\(∀j,i+1<=j->bj (row.set i v) j 0=0)/\bk (row.set i v) - 4294967296^(i+1)*c=bk (s.take (i+1)) - bk (t.take (i+1)):=by
 refine⟨nH hr h0.1 h0.2,by simp[hl],λj hj=>by rw[pU (by omega)];exact hz j (by omega),?_⟩;rw[uq (by omega),mj,mj,hz i (φ _),γQ,ζe];have h1:(4294967296:Int)^i*(v - 4294967296*c)=4294967296^i*(bj s i 0 - br - bj t i 0):=by rw[hc,hd]
 simp only[εQ] at h1;rw[<-δo] at h1;omega
theorem h155:Holds Tryz.prog JC:=by
 refine cJ (L:=[rJ,x6]) JC ab4 (by simpa using⟨h152,h132⟩) ?_;rintro⟨a,b⟩ ⟨⟨ha,hb⟩,hla,hlb⟩;simp only at ha hb hla hlb;refine bQ (let c:=(0:Int);let d:=(18446744073709551616:Int);let e:=γc;let f:=(4294967296:Int);let g:=γb .i64;let h:=(1:Int);let k:=δd;let l:=SV.bH;let z0:Nat:=(bI a).length;let B:=decide (mq (bk (bI a)) (bk (bI b))<c);let m:=bn.i .u32;let C:=l [e m (cF (bk a - bk b)),γG (decide (bk b<=bk a))];let o:=(↑(bI a).length:Int);let q:=ε o.toNat c;let p:=(↑z0:Int);let z:=g p;let D:=bq.row m q 235 true;let A:=(↑(bI b).length:Int);a.length<=1000000000000/\b.length<=1000000000000/\((bA (bI a)/\bA (bI b))/\z0<=1000000000000/\(bI b).length<=1000000000000)/\(B=true->(l [e (bn.i .i64) [],SV.bl false]).same C)/\(B=false->c<=o/\o<=o/\o*(4:Int)<=(140737488355328:Int)/\o<=(1000000000000:Int)/\((((e m (bI a)).same (e m (bI a))/\(e m (bI b)).same (e m (bI b))/\(k 0 o.toNat 1).same (k 0 q.length 1)/\(γy .u64 0).same (γb .u64 0)/\(g o).same z/\(γy .i64 0).same (g 0)/\True)/\D.same D/\True)/\(c<=c/\c<=p)/\(c<=c/\c<=h)/\bA q/\q.length=z0/\(∀(j:Nat),0<=j->bj q j c=c)/\bk q - c=c)/\∀(x:Int×Int×List Int),let r:=x.snd.snd.length;let v:=x.snd.snd.length;let n:=x.fst.toNat;let s:=x.fst+h;let E:=g s;let w:=s.toNat;let F:=bj (bI a) n c;let G:=λ(u u_1:Int) ↦let H:=(u % d - u_1) % d;let t:=x.snd.snd.set n (H % f);let y:=H / (9223372036854775808:Int);let I:=γb .u64 y;let J:=bq.row m t 235 true;c<=(63:Int)/\(63:Int)<=(64:Int)/\r=v/\c<=x.fst/\x.fst<(↑v:Int)/\r=v/\n<v/\bY .i64 s/\(((e m (bI a)).same (e m (bI a))/\(e m (bI b)).same (e m (bI b))/\(k 0 r 1).same (k 0 t.length 1)/\I.same I/\z.same z/\E.same E/\True)/\J.same J/\True)/\((c<=s/\s<=p)/\(c<=y/\y<=h)/\bA t/\t.length=z0/\(∀(j:Nat),w<=j->bj t j c=c)/\bk t - f^w*y=bk (γe w (bI a)) - bk (γe w (bI b)))/\(p - s).toNat<(p - x.fst).toNat;(c<=x.fst/\x.fst<=p)/\(c<=x.snd.fst/\x.snd.fst<=h)/\bA x.snd.snd/\r=z0/\(∀(j:Nat),n<=j->bj x.snd.snd j c=c)/\bk x.snd.snd - f^n*x.snd.fst=bk (γe n (bI a)) - bk (γe n (bI b))->(decide (x.fst<p)=true->c<=x.fst/\x.fst<o/\n<(bI a).length/\(decide (x.fst<A)=true->c<=x.fst/\x.fst<A/\n<(bI b).length/\G (F % d - x.snd.fst) (bj (bI b) n c % d))/\(decide (x.fst<A)=false->G F x.snd.fst))/\(decide (x.fst<p)=false->r=v/\r<=1000000000000/\(l [e m (bI x.snd.snd),SV.bl true]).same C))) (by kernel_rfl) ?_;simp only[vcs];obtain⟨va,na⟩:=@rK a;obtain⟨vb,nb⟩:=@rK b;have da:=sL ha;have db:=sL hb;have la:=@uo a;have lb:=@uo b;have pa:=fc da;have pb:=fc db;rw[<-va,<-vb];generalize bI a=s at*;generalize bI b=t at*;have hr0:∀n j,bj (ε n (0:Int)) j 0=0:=λn j=>by
  unfold bj;rw[εH];split<;>rfl
 have hd0:∀n,bA (ε n 0):=λn d hd=>by
  have:=εG hd;omega
 have hv0:∀n,bk (ε n 0)=0:=λn=>by
  induction n with
  |zero=>rfl;|succ n ih=>simp only[δp,bk,ih];omega
 refine⟨by omega,by omega,⟨⟨da,db⟩,by omega,by omega⟩,λhlt=>?_,λhge=>⟨by omega,by omega,by omega,by omega,?_,?_⟩⟩
 ·have hlt2:bk s<bk t:=by unfold mq at hlt;split at hlt<;>(try split at hlt)<;>omega
  refine⟨RO (JB (by omega)),?_⟩;rw[eq_comm,decide_eq_false_iff_not];omega
 ·repeat' refine γj ?_ ?_
  all_goals first|omega|exact mA (by simp)|exact hd0 _|exact λj _=>hr0 _ j|(simp;done)|(rw[hv0];rfl)
 have Io:bk t<=bk s:=by unfold mq at hge;split at hge<;>(try split at hge)<;>omega
 rintro⟨i,br,row⟩ ⟨⟨i0,i1⟩,⟨b0,b1⟩,hr,hl,hz,hv⟩;simp only at i0 i1 b0 b1 hr hl hz hv ⊢;refine⟨λkj=>?_,λmf=>?_⟩
 ·have d1:=dX da i.toNat;have d2:=dX db i.toNat;have e:(i+1).toNat=i.toNat+1:=by omega
  refine⟨i0,kj,by omega,λht=>?_,λht=>?_⟩
  ·generalize hq:((bj s i.toNat 0 % 18446744073709551616 - br) % 18446744073709551616 - bj t i.toNat 0 % 18446744073709551616) % 18446744073709551616=q;obtain⟨k1,k2,k3,k4⟩:=RP (v:=q % 4294967296) (c:=q / 9223372036854775808) da db hr hl hz hv (by omega) rfl (by omega) (by omega);rw[e];repeat' refine γj ?_ ?_
   all_goals first|omega|exact mA (by simp)|exact k1|exact k2|exact k3|exact k4
  ·have hz2:=D6 (a:=t) (i:=i.toNat) (by omega);generalize hq:(bj s i.toNat 0 % 18446744073709551616 - br) % 18446744073709551616=q;obtain⟨k1,k2,k3,k4⟩:=RP (v:=q % 4294967296) (c:=q / 9223372036854775808) da db hr hl hz hv (by omega) rfl (by omega) (by omega);rw[e];repeat' refine γj ?_ ?_
   all_goals first|omega|exact mA (by simp)|exact k1|exact k2|exact k3|exact k4
 ·have hi:i.toNat=s.length:=by omega
  have hlen:t.length<=s.length:=by
   by_cases h:s.length<t.length
   ·have:=x5 da db nb h;omega
   ·omega
  rw[hi,ψ,List.take_of_length_le hlen] at hv;have hbd:=oq hr;have hp:=pow_pos s.length;rw[hl] at hbd;have hb0:br=0:=by
   by_cases h:br=0;·exact h
   ·have:br=1:=by omega
    subst this;omega
  rw[hb0,δS,ζe] at hv;refine⟨by omega,?_,?_⟩;·rw[qH hr,hv]
  ·rw[eq_comm,decide_eq_true_eq];exact Io
theorem RR {n j:Nat}:bj (ε n (0:Int)) j 0=0:=by
 unfold bj;rw[εH];split<;>rfl
theorem Ap {n:Nat}:bA (ε n 0):=λd hd=>by
 have:=εG hd;omega
theorem ya:∀{n:Nat},bk (ε n 0)=0
 |0=>rfl
 |n+1=>by simp only[δp,bk,@ya n];omega
theorem ab5 {o b:List Int} {x:Int} {i k:Nat}:iq o b x i (k+1)=((iq o b x i k).1.set (i+k) ((x*bj b k 0+bj (iq o b x i k).1 (i+k) 0+(iq o b x i k).2) % 4294967296),(x*bj b k 0+bj (iq o b x i k).1 (i+k) 0+(iq o b x i k).2) / 4294967296):=rfl
def yb:bM:=⟨191,List Int×List Int,.cons (dY (.i .u32)) (.one (dY (.i .u32))),λa=>(bA a.1/\bA a.2)/\a.1.length<=100000000000/\a.2.length<=100000000000,
 λa=> .row (.i .u32) (cF (bk a.1*bk a.2))⟩
def stM (a:List Int×List Int) (row:List Int):bX:=[.row (.i .u32) row 235 true]
def ab6 (a:List Int×List Int):Nat->cB
 |3=> .inv (Int×List Int) (λx=>⟨[(0,.row (.i .u32) a.1),(1,.row (.i .u32) a.2),(5,.ow 0 x.2.length 1),(17,.si .i64 a.1.length),(18,.si .i64 x.1)],stM a x.2⟩)
  (λs=>(iS s 18,oS (.i .u32) s 0))
  (λx=>(0<=x.1/\x.1<=a.1.length)/\bA x.2/\x.2.length=a.1.length+a.2.length/\bk x.2=bk (a.1.take x.1.toNat)*bk a.2) (λx=>(a.1.length - x.1).toNat)
  λx=>λ
   |7=> .inv (Int×Int×List Int) (λy=>⟨[(0,.row (.i .u32) a.1),(1,.row (.i .u32) a.2),(5,.ow 0 y.2.2.length 1),(6,.si .i64 x.1),(7,.si .u64 y.2.1),(17,.si .i64 a.1.length),(18,.si .i64 x.1),(22,.si .i64 a.2.length),(23,.si .i64 y.1)],stM a y.2.2⟩)
    (λs=>(iS s 23,iS s 7,oS (.i .u32) s 0))
    (λy=>(0<=y.1/\y.1<=a.2.length)/\y.2.2=(iq x.2 a.2 (bj a.1 x.1.toNat 0) x.1.toNat y.1.toNat).1/\y.2.1=(iq x.2 a.2 (bj a.1 x.1.toNat 0) x.1.toNat y.1.toNat).2) (λy=>(a.2.length - y.1).toNat) λ_ _=> .look
   |_=> .look
 |_=> .look
theorem h153:Holds Tryz.prog yb:=by
 refine cJ (L:=[rJ]) yb ab6 (by simpa using h152) ?_;rintro⟨a,b⟩ ⟨⟨ha,hb⟩,hla,hlb⟩;simp only at ha hb hla hlb;refine bQ (let c:=(18446744073709551616:Int);let d:=(0:Int);let e:=γc;let f:=γb .i64;let g:=(4294967296:Int);let h:=bY .i64;let j:=δd;let k:=γy .i64 0;let l:=bq.row;let F:=(↑a.length:Int);let z:=(↑b.length:Int);let p:=F+z;let m:=bn.i .u32;let A:=ε p.toNat d;let q:=(↑a.length:Int);let t:=f q;let J:=l m A 235 true;let G:=a.length+b.length;let r:=(↑b.length:Int);let H:=f r;h p/\d<=p/\p<=p/\p*(4:Int)<=(140737488355328:Int)/\p<=(1000000000000:Int)/\((((e m a).same (e m a)/\(e m b).same (e m b)/\(j 0 p.toNat 1).same (j 0 A.length 1)/\(f F).same t/\(k).same (f 0)/\True)/\J.same J/\True)/\(d<=d/\d<=q)/\bA A/\A.length=G/\bk A=bk []*bk b)/\∀(x:Int×List Int),let C:=x.snd.length;let v:=x.fst.toNat;let K:=j 0 C 1;let s:=f x.fst;let L:=l m x.snd 235 true;let D:=bj a v d;let M:=iq x.snd b D v 0;let w:=x.fst+(1:Int);let N:=f w;(d<=x.fst/\x.fst<=q)/\bA x.snd/\C=G/\bk x.snd=bk (γe v a)*bk b->(decide (x.fst<q)=true->((((e m a).same (e m a)/\(e m b).same (e m b)/\K.same K/\s.same s/\(γy .u64 0).same (γb .u64 0)/\t.same t/\s.same s/\(f z).same H/\(k).same (f 0)/\True)/\L.same L/\True)/\(d<=d/\d<=r)/\x.snd=M.fst/\d=M.snd)/\∀(x_1:Int×Int×List Int),let O:=iq x.snd b D v x_1.fst.toNat;let o:=x.fst+x_1.fst;let n:=x_1.snd.snd.length;let y:=x_1.fst+(1:Int);let P:=j 0 x_1.snd.snd.length 1;let I:=((D % c*(bj b x_1.fst.toNat d % c) % c+bj x_1.snd.snd o.toNat d % c) % c+x_1.snd.fst) % c;let Q:=x_1.snd.snd.set o.toNat (I % g);let R:=I / g;let S:=γb .u64 R;let T:=f y;let U:=iq x.snd b D v y.toNat;let B:=x.fst+z;let E:=x_1.snd.snd.set B.toNat (x_1.snd.fst % g);let V:=λ(u u_1:Int) ↦let W:=l m (x_1.snd.snd.set (x.fst+u).toNat (u_1 % g)) 235 true;W.same W/\True;(d<=x_1.fst/\x_1.fst<=r)/\x_1.snd.snd=O.fst/\x_1.snd.fst=O.snd->(decide (x_1.fst<r)=true->d<=x.fst/\x.fst<F/\v<a.length/\d<=x_1.fst/\x_1.fst<z/\x_1.fst.toNat<b.length/\h o/\x_1.snd.snd.length=n/\d<=o/\o<(↑n:Int)/\x_1.snd.snd.length=n/\o.toNat<n/\h o/\d<=(32:Int)/\(32:Int)<=(64:Int)/\x_1.snd.snd.length=n/\d<=o/\o<(↑n:Int)/\x_1.snd.snd.length=n/\o.toNat<n/\h y/\(((e m a).same (e m a)/\(e m b).same (e m b)/\P.same (j 0 Q.length 1)/\s.same s/\S.same S/\t.same t/\s.same s/\H.same H/\T.same T/\True)/\V x_1.fst I)/\((d<=y/\y<=r)/\Q=U.fst/\R=U.snd)/\(r - y).toNat<(r - x_1.fst).toNat)/\(decide (x_1.fst<r)=false->h B/\x_1.snd.snd.length=n/\d<=B/\B<(↑n:Int)/\x_1.snd.snd.length=n/\B.toNat<n/\h w/\(((e m a).same (e m a)/\(e m b).same (e m b)/\P.same (j 0 E.length 1)/\t.same t/\N.same N/\True)/\V z x_1.snd.fst)/\((d<=w/\w<=q)/\bA E/\E.length=G/\bk E=bk (γe w.toNat a)*bk b)/\(q - w).toNat<(q - x.fst).toNat))/\(decide (x.fst<q)=false->C=x.snd.length/\C<=1000000000000/\(e m (bI x.snd)).same (e m (cF (bk a*bk b))))) (by kernel_rfl) ?_;simp only[vcs];refine⟨by omega,by omega,by omega,by omega,by omega,?_,?_⟩
 ·repeat' refine γj ?_ ?_
  all_goals first|omega|exact mA (by simp)|exact Ap|(simp;omega)|(rw[ya];simp[bk])
 rintro⟨i,row⟩ ⟨⟨i0,i1⟩,hr,hl,hv⟩;simp only at i0 i1 hr hl hv ⊢;refine⟨λkj=>⟨⟨⟨by omega,by omega⟩,rfl,rfl⟩,?_⟩,λmf=>?_⟩
 ·rintro⟨k,c,ro⟩ ⟨⟨k0,k1⟩,e1,e2⟩;simp only at k0 k1 e1 e2 ⊢;have x1:=dX ha i.toNat;obtain⟨m1,m2,⟨m3,m4⟩,m5,m6⟩:=@RB row b (bj a i.toNat 0) i.toNat hr hb x1.1 x1.2 k.toNat (by omega);have hp:=@ab5 row b (bj a i.toNat 0) i.toNat k.toNat;generalize iq row b (bj a i.toNat 0) i.toNat k.toNat=M at*;obtain⟨p,q⟩:=M;simp only at e1 e2 m1 m2 m3 m4 m5 m6 hp;subst e1 e2;have hik:(i+k).toNat=i.toNat+k.toNat:=by omega
  have hk1:(k+1).toNat=k.toNat+1:=by omega
  have hi1:(i+1).toNat=i.toNat+1:=by omega
  refine⟨λklt=>?_,λkge=>?_⟩
  ·have x2:=dX hb k.toNat;have x3:=dX m1 (i.toNat+k.toNat);have hxb:0<=bj a i.toNat 0*bj b k.toNat 0:=γD x1.1 x2.1;have agU:bj a i.toNat 0*bj b k.toNat 0<=4294967295*4294967295:=δR (by omega) (by omega) x2.1 (by omega);rw[hik,hk1,hp];have hq:(((bj a i.toNat 0 % 18446744073709551616*(bj b k.toNat 0 % 18446744073709551616) % 18446744073709551616+bj ro (i.toNat+k.toNat) 0 % 18446744073709551616) % 18446744073709551616+c) % 18446744073709551616)=bj a i.toNat 0*bj b k.toNat 0+bj ro (i.toNat+k.toNat) 0+c:=by
    rw[δT (a:=bj a i.toNat 0) (by omega) (by omega),δT (a:=bj b k.toNat 0) (by omega) (by omega)];omega
   rw[hq];repeat' refine γj ?_ ?_
   all_goals first|omega|exact mA (by simp)|rfl
  ·have hkl:k.toNat=b.length:=by omega
   rw[show(i+(b.length:Int)).toNat=i.toNat+b.length by omega];rw[hkl,ψ] at m6;rw[hkl] at m5;have hz:bj ro (i.toNat+b.length) 0=0:=by
    rw[m5 _ (φ _)];refine Ah hr (i:=i.toNat+b.length) ?_ (φ _);rw[hv,εf];have t1:=oq (nG ha i.toNat);rw[Ω,εp (by omega)] at t1;have t2:=oq hb;have t3:=fc (nG ha i.toNat);have t4:=fc hb;exact εK (Δ (γm t2) t3) (γ2 t1 (pow_pos _))
   have hc:c % 4294967296=c:=by omega
   rw[hc,hi1];have hfin:bk (ro.set (i.toNat+b.length) c)=bk (a.take (i.toNat+1))*bk b:=by
    rw[uq (by omega),hz,ζe,m6,hv,mj,Int.add_mul,δo]
   repeat' refine γj ?_ ?_
   all_goals first|omega|exact mA (by simp)|exact nH m1 m3 m4|exact hfin|(rw[Ξ];omega)
 ·have hi:i.toNat=a.length:=by omega
  rw[hi,ψ] at hv;refine⟨by omega,?_⟩;rw[qH hr,hv]
theorem RS {x m:Int} {k:Nat} (p:0<=x) (t:x<2^k) (o:0<=m) (j:m*2^k<4294967296) (u:x<4294967296):eQ.nZ .u32 x (m*2^k)=x+m*2^k:=by
 obtain⟨a,rfl⟩:=δP p;obtain⟨b,rfl⟩:=δP o;have e:((b:Int)*2^k)=((2^k*b:Nat):Int):=by grind
 have h:a<2^k:=by grind
 rw[e] at j ⊢;generalize i:2^k*b=c at*;have d:c<4294967296:=by omega
 have f:a<4294967296:=by omega
 have q:(γu 32 ((a:Nat):Int)).toNat=a:=by simp_all
 have r:(γu 32 ((c:Nat):Int)).toNat=c:=by simp_all
 have g:a |||c=a+c:=by
  rw[Nat.or_comm,<-i,<-Nat.two_pow_add_eq_or_of_lt h];omega
 have l:a+c<4294967296:=by
  rw[<-g];exact Nat.or_lt_two_pow (n:=32) f d
 have s:(γu 32 ((a:Nat):Int) |||γu 32 ((c:Nat):Int)).toNat=a+c:=by
  grind
 show eO .u32 ((γu 32 ((a:Nat):Int) |||γu 32 ((c:Nat):Int)).toNat:Nat)=_;grind[tu,IntKind.wrap,IntKind.bits,IntKind.signed]
theorem JD:∀{l:List Int} {i:Nat},bA l->4294967296^i*bj l i 0<=bk l
 |[],i,_=>by simp[bj,bk];|d::l,0,h=>by
  obtain⟨b,a⟩:=jd.1 h;have:=fc a;grind[bj,bk];|d::l,i+1,h=>by
  obtain⟨b,a⟩:=jd.1 h;have:=@JD l i a;have e:bj (d::l) (i+1) 0=bj l i 0:=by simp[bj]
  rw[e,γQ,εb (4294967296^i),δo];grind[bk]
theorem RU {a b:List Int} {i k:Nat} (n:bA a) (e:bA b) (F:b.length=a.length+1) (G:i<a.length) (u:k<=31) (q:bk b=bk (a.take i)*2^k):
  bA ((b.set i (eQ.nZ .u32 (bj b i 0) (bj a i 0 % 18446744073709551616*2^k % 18446744073709551616 % 4294967296))).set (i+1) (bj a i 0 % 18446744073709551616*2^k % 18446744073709551616 / 4294967296 % 4294967296))/\
  bk ((b.set i (eQ.nZ .u32 (bj b i 0) (bj a i 0 % 18446744073709551616*2^k % 18446744073709551616 % 4294967296))).set (i+1) (bj a i 0 % 18446744073709551616*2^k % 18446744073709551616 / 4294967296 % 4294967296))=bk (a.take (i+1))*2^k:=by
 have x:=dX n i;have r:=dX e i;have c:(0:Int)<2^k:=δL (by decide);have A:(2:Int)^k<=2147483648:=by
  have D:(2:Nat)^k<=2^31:=δA (by decide) u;grind
 have w:(4294967296:Int)=2^(32 - k)*2^k:=by
  rw[<-εf,show 32 - k+k=32 by omega];decide
 have B:(0:Int)<2^(32 - k):=δL (by decide);have v:0<=bj a i 0*2^k:=γD x.1 (γm c);have H:bj a i 0*2^k<4294967296*2^k:=γ2 x.2 c;have z:bj a i 0 % 18446744073709551616*2^k % 18446744073709551616=bj a i 0*2^k:=by
  rw[δT (a:=bj a i 0) (by omega) (by omega),δT v (by omega)]
 have o:bj a i 0*2^k % 4294967296=(bj a i 0 % 2^(32 - k))*2^k:=by
  conv=>lhs;rw[w]
  rw[εb (bj a i 0),εb (2^(32 - k)),ζv _ _ c,εb]
 have p:=δV (bj a i 0) (show(2:Int)^(32 - k)≠0 by omega);have E:=δx (bj a i 0) B;have s:=pow_pos i;have d:bk b<4294967296^i*2^k:=by
  rw[q];have:=oq (nG n i);rw[Ω,εp (by omega)] at this;simp_all
 have h:bj b i 0<2^k:=εw (εK (JD e) d) (γm s);have m:bj b (i+1) 0=0:=by
  refine Ah e (i:=i+1) ?_ (φ _);rw[γQ];exact εJ d (Δ (by omega) (γm s))
 have f:(bj a i 0 % 2^(32 - k))*2^k+2^k<=4294967296:=by
  have:(bj a i 0 % 2^(32 - k)+1)*2^k<=2^(32 - k)*2^k:=γT (by omega) (γm c);grind
 have l:0<=(bj a i 0 % 2^(32 - k))*2^k:=γD p (γm c);have g:=RS (k:=k) r.1 h p (by omega) r.2;rw[z,o,g];generalize y:bj a i 0*2^k=t at*;have j:(bj a i 0 % 2^(32 - k))*2^k=t % 4294967296:=o.symm;rw[j] at f l ⊢;refine⟨nH (nH e (by omega) (by omega)) (by omega) (by omega),?_⟩;rw[uq (by simp;omega),uq (by omega),pU (by omega),m,mj,Int.add_mul,δo,y,q,γQ];have C:t / 4294967296 % 4294967296=t / 4294967296:=by omega
 grind
def shl (a:List Int) (k:Nat):List Int:=ik (a.length+1) (bk a*2^k)
abbrev RV:=List Int×Int
def Aq (a:RV):Prop:=bA a.1/\a.1.length<=100000000000/\0<=a.2/\a.2<=31
def JE:bM:=⟨234,List Int×Int,.cons (dY (.i .u32)) (.one (dU .u64)),Aq,λa=> .row (.i .u32) (shl a.1 a.2.toNat)⟩
def JF:cY where
 f:=234;α:=List Int×Int;put a:=[.row (.i .u32) a.1,.si .u64 a.2];st _:=[];dec v o:=match v,o with
  |[v,m],[]=>match gu (.i .u32) v,m.int .u64 with
   |some p,some m=>some (p,m)
   |_,_=>none
  |_,_=>none;ok v o a h:=by
  split at h
  ·split at h
   ·rename_i h1 h2;simp only[γ] at h;subst h;exact⟨by simp only[gL,j7 h1,iw h2];rfl,rfl⟩
   ·cases h
  ·cases h
 inj a b h _:=by
  simp only[gL,τ,and_true] at h;have h2:=h.2;simp only[SV.g,AV.sc.injEq,Value.int.injEq,true_and] at h2;exact εd ((dY (.i .u32)).inj _ _ h.1) h2
 dom:=Aq;res a:=.ow 0 (shl a.1 a.2.toNat).length 1;out a:=[.row (.i .u32) (shl a.1 a.2.toNat) 235 false]
def RX (a:RV):Nat->cB
 |3=> .inv (Int×List Int) (λx=>⟨[(0,.row (.i .u32) a.1),(1,.si .u64 a.2),(5,.ow 0 x.2.length 1),(13,.si .i64 a.1.length),(14,.si .i64 x.1)],[.row (.i .u32) x.2 235 false]⟩)
  (λs=>(iS s 14,oS (.i .u32) s 0))
  (λx=>(0<=x.1/\x.1<=a.1.length)/\bA x.2/\x.2.length=a.1.length+1/\bk x.2=bk (a.1.take x.1.toNat)*2^a.2.toNat) (λx=>(a.1.length - x.1).toNat) λ_ _=> .look
 |_=> .look
theorem h168:dL Tryz.prog JF:=by
 refine zH (L:=[]) (W:=[]) JF (λ_=>none) RX (by simp) (by simp) ?_;rintro⟨a,s⟩ ⟨ha,hla,s0,s1⟩;simp only at ha hla s0 s1;refine bQ (let b:=(0:Int);let c:=(18446744073709551616:Int);let d:=(4294967296:Int);let e:=γb .i64;let f:=bq.row;let g:=bY .i64;let h:=γc;let j:=δd;let w:=(↑a.length:Int);let o:=w+(1:Int);let l:=bn.i .u32;let r:=b::ε a.length b;let m:=(↑a.length:Int);let y:=e m;let A:=f l r 235 false;let z:=a.length+1;let u:=(2:Int)^s.toNat;g o/\b<=o/\o<=o/\o*(4:Int)<=(140737488355328:Int)/\o<=(1000000000000:Int)/\((((h l a).same (h l a)/\(γb .u64 s).same (γb .u64 s)/\(j 0 o.toNat 1).same (j 0 r.length 1)/\(e w).same y/\(γy .i64 0).same (e 0)/\True)/\A.same A/\True)/\(b<=b/\b<=m)/\bA r/\r.length=z/\bk r=bk []*u)/\∀(x:Int×List Int),let p:=x.snd.length;let q:=x.fst.toNat;let B:=bj a q b % c*u % c;let v:=x.snd.set q (eQ.nZ .u32 (bj x.snd q b) (B % d));let n:=x.snd.length;let k:=x.fst+(1:Int);let C:=j 0 p 1;let t:=v.set k.toNat (B / d % d);let D:=e k;let E:=f l t 235 false;let F:=p=v.length;(b<=x.fst/\x.fst<=m)/\bA x.snd/\p=z/\bk x.snd=bk (γe q a)*u->(decide (x.fst<m)=true->b<=x.fst/\x.fst<w/\q<a.length/\b<=s/\s<=(64:Int)/\p=n/\b<=x.fst/\x.fst<(↑n:Int)/\p=n/\q<n/\p=n/\b<=x.fst/\x.fst<(↑n:Int)/\p=n/\q<n/\g k/\b<=(32:Int)/\(32:Int)<=(64:Int)/\F/\b<=k/\k<(↑v.length:Int)/\F/\k.toNat<v.length/\g k/\(((h l a).same (h l a)/\(γb .u64 s).same (γb .u64 s)/\C.same (j 0 t.length 1)/\y.same y/\D.same D/\True)/\E.same E/\True)/\((b<=k/\k<=m)/\bA t/\t.length=z/\bk t=bk (γe k.toNat a)*u)/\(m - k).toNat<(m - x.fst).toNat)/\(decide (x.fst<m)=false->C.same (j 0 (shl a s.toNat).length 1)/\(f l x.snd 235 false).same (f l (shl a s.toNat) 235 false)/\True)) (by kernel_rfl) ?_;simp only[vcs];refine⟨by omega,by omega,by omega,by omega,by omega,?_,?_⟩
 ·repeat' refine γj ?_ ?_
  all_goals first|omega|exact mA (by simp)|exact jd.2 ⟨by omega,Ap⟩|(simp;done)|(simp only[bk,ya];omega)
 rintro⟨i,row⟩ ⟨⟨i0,i1⟩,hr,hl,hv⟩;simp only at i0 i1 hr hl hv ⊢;refine⟨λkj=>?_,λmf=>?_⟩
 ·obtain⟨k1,k2⟩:=RU ha hr hl (show i.toNat<a.length by omega) (show s.toNat<=31 by omega) hv;have e:(i+1).toNat=i.toNat+1:=by omega
  rw[e];repeat' refine γj ?_ ?_
  all_goals first|omega|exact mA (by simp)|(simp only[Ξ];done)|(simp only[Ξ];omega)|exact k1|exact k2
 ·have hi:i.toNat=a.length:=by omega
  rw[hi,ψ] at hv;have hrow:row=shl a s.toNat:=Jq hr hl hv;rw[hrow];exact⟨rfl,rfl⟩
theorem h168p:Holds Tryz.prog JE:=by
 refine cJ (L:=[]) JE RX (by simp) ?_;rintro⟨a,s⟩ ⟨ha,hla,s0,s1⟩;simp only at ha hla s0 s1;refine bQ (let b:=(0:Int);let c:=(18446744073709551616:Int);let d:=(4294967296:Int);let e:=γb .i64;let f:=γc;let g:=bY .i64;let h:=δd;let v:=(↑a.length:Int);let o:=v+(1:Int);let l:=bn.i .u32;let q:=b::ε a.length b;let m:=(↑a.length:Int);let w:=e m;let z:=bq.row l q 235 false;let y:=a.length+1;let t:=(2:Int)^s.toNat;g o/\b<=o/\o<=o/\o*(4:Int)<=(140737488355328:Int)/\o<=(1000000000000:Int)/\((((f l a).same (f l a)/\(γb .u64 s).same (γb .u64 s)/\(h 0 o.toNat 1).same (h 0 q.length 1)/\(e v).same w/\(γy .i64 0).same (e 0)/\True)/\z.same z/\True)/\(b<=b/\b<=m)/\bA q/\q.length=y/\bk q=bk []*t)/\∀(x:Int×List Int),let n:=x.snd.length;let p:=x.fst.toNat;let A:=bj a p b % c*t % c;let u:=x.snd.set p (eQ.nZ .u32 (bj x.snd p b) (A % d));let k:=x.snd.length;let j:=x.fst+(1:Int);let r:=u.set j.toNat (A / d % d);let B:=e j;let C:=bq.row l r 235 false;let D:=n=u.length;(b<=x.fst/\x.fst<=m)/\bA x.snd/\n=y/\bk x.snd=bk (γe p a)*t->(decide (x.fst<m)=true->b<=x.fst/\x.fst<v/\p<a.length/\b<=s/\s<=(64:Int)/\n=k/\b<=x.fst/\x.fst<(↑k:Int)/\n=k/\p<k/\n=k/\b<=x.fst/\x.fst<(↑k:Int)/\n=k/\p<k/\g j/\b<=(32:Int)/\(32:Int)<=(64:Int)/\D/\b<=j/\j<(↑u.length:Int)/\D/\j.toNat<u.length/\g j/\(((f l a).same (f l a)/\(γb .u64 s).same (γb .u64 s)/\(h 0 n 1).same (h 0 r.length 1)/\w.same w/\B.same B/\True)/\C.same C/\True)/\((b<=j/\j<=m)/\bA r/\r.length=y/\bk r=bk (γe j.toNat a)*t)/\(m - j).toNat<(m - x.fst).toNat)/\(decide (x.fst<m)=false->n=k/\(f l x.snd).same (f l (shl a s.toNat)))) (by kernel_rfl) ?_;simp only[vcs];refine⟨by omega,by omega,by omega,by omega,by omega,?_,?_⟩
 ·repeat' refine γj ?_ ?_
  all_goals first|omega|exact mA (by simp)|exact jd.2 ⟨by omega,Ap⟩|(simp;done)|(simp only[bk,ya];omega)
 rintro⟨i,row⟩ ⟨⟨i0,i1⟩,hr,hl,hv⟩;simp only at i0 i1 hr hl hv ⊢;refine⟨λkj=>?_,λmf=>?_⟩
 ·obtain⟨k1,k2⟩:=RU ha hr hl (show i.toNat<a.length by omega) (show s.toNat<=31 by omega) hv;have e:(i+1).toNat=i.toNat+1:=by omega
  rw[e];repeat' refine γj ?_ ?_
  all_goals first|omega|exact mA (by simp)|(simp only[Ξ];done)|(simp only[Ξ];omega)|exact k1|exact k2
 ·have hi:i.toNat=a.length:=by omega
  rw[hi,ψ] at hv;have hrow:row=shl a s.toNat:=Jq hr hl hv;rw[hrow]
theorem vQ {U:List Int} {j:Nat} (h:j<=U.length):bk U=bk (U.take j)+4294967296^j*bk (U.drop j):=by
 conv=>lhs;rw[<-List.take_append_drop j U]
 grind[Js]
theorem ab7 {U l:List Int} {j:Nat} (h:j<=U.length):(je U j l).take j=U.take j:=by
 grind[je]
theorem ab8 {U l:List Int} {j:Nat} (h:j<=U.length):(je U j l).drop j=l++U.drop (j+l.length):=by
 grind[je]
theorem ab9 {U l:List Int} {j:Nat} (a:bA U) (b:bA l):bA (je U j l):=RA (nG a _) (RA b (Ag a _))
theorem acd {U q v:List Int} {j m:Nat} {A:Int} (d:bA U) (w:bA v) (G:bA q) (H:2<=v.length) (u:U.length=m+1+v.length) (x:q.length=m+1) (J:j<=m) (p:0<bk v)
  (s:bj q j 0=0) (B:bk U+bk v*bk q=A) (D:bk (U.drop (j+1))<bk v):
  bk (prt U j (v.length+1))<4294967296*bk v/\
  (bA (je U j (ik (v.length+1) (bk (prt U j (v.length+1)) % bk v)))/\(je U j (ik (v.length+1) (bk (prt U j (v.length+1)) % bk v))).length=U.length)/\
  (0<=bk (prt U j (v.length+1)) / bk v/\bk (prt U j (v.length+1)) / bk v<4294967296)/\
  bk (je U j (ik (v.length+1) (bk (prt U j (v.length+1)) % bk v)))+bk v*bk (q.set j (bk (prt U j (v.length+1)) / bk v))=A/\
  bk ((je U j (ik (v.length+1) (bk (prt U j (v.length+1)) % bk v))).drop j)<bk v:=by
 have y:=oq w;have f:=Ag d (j+1);have l:=fc (uv d (j:=j) (k:=v.length+1));have b:bk (U.drop (j+(v.length+1)))=0:=by
  have e:bk (U.drop (j+1))=bk ((U.drop (j+1)).take v.length)+4294967296^v.length*bk ((U.drop (j+1)).drop v.length):=vQ (by simp;omega);rw[γW,show j+1+v.length=j+(v.length+1) by omega] at e;have I:=fc (nG f v.length);have F:=fc (Ag d (j+(v.length+1)));by_cases h:bk (U.drop (j+(v.length+1)))=0;·exact h
  ·have:=Δ (show(1:Int)<=bk (U.drop (j+(v.length+1))) by omega) (γm (pow_pos v.length));omega
 have a:bk (U.drop j)=bk (prt U j (v.length+1)):=by
  have e:bk (U.drop j)=bk ((U.drop j).take (v.length+1))+4294967296^(v.length+1)*bk ((U.drop j).drop (v.length+1)):=vQ (by simp;omega);rw[γW,b,δS,εq] at e;exact e
 have g:bk (U.drop j)=bj U j 0+4294967296*bk (U.drop (j+1)):=by
  rw[D7 (show j<U.length by omega)];rfl
 have K:=dX d j;have r:bk (prt U j (v.length+1))<4294967296*bk v:=by omega
 have i:=@Af (v.length+1) (bk (prt U j (v.length+1)) % bk v);have C:=δV (bk (prt U j (v.length+1))) (show bk v≠0 by omega);have E:=δx (bk (prt U j (v.length+1))) p;have t:bk (ik (v.length+1) (bk (prt U j (v.length+1)) % bk v))=bk (prt U j (v.length+1)) % bk v:=by
  grind[Jr]
 have o:bk ((je U j (ik (v.length+1) (bk (prt U j (v.length+1)) % bk v))).drop j)=bk (prt U j (v.length+1)) % bk v:=by
  grind[ab8,Js]
 have c:(je U j (ik (v.length+1) (bk (prt U j (v.length+1)) % bk v))).length=U.length:=RE (by rw[i];omega);have n:0<=bk (prt U j (v.length+1)) / bk v:=δ8 l (by omega);refine⟨r,⟨ab9 d Jp,c⟩,⟨n,εV p r⟩,?_,by omega⟩;rw[vQ (U:=je U j _) (j:=j) (by rw[c];omega),ab7 (by omega),o,uq (by omega),s,ζe];rw[vQ (U:=U) (j:=j) (by omega),a] at B;have z:=εo (bk (prt U j (v.length+1))) (bk v);grind
theorem RY {a b:List Int} {s:Nat} (k:bA a) (w:bA b) (u:s<=31) (l:b.length<=a.length) (q:1<=b.length) (d:1<=bj b (b.length - 1) 0):
  bA (shl a s)/\(shl a s).length=a.length+1/\bk (shl a s)=bk a*2^s/\bk ((shl a s).drop (a.length - b.length+1))<bk b*2^s:=by
 have e:(0:Int)<2^s:=δL (by decide);have v:(2:Int)^s<=2147483648:=by
  have h:(2:Nat)^s<=2^31:=δA (by decide) u;grind
 have f:=fc k;have g:=oq k;have n:bk a*2^s<4294967296^a.length*2^s:=γ2 g e;have c:bk (shl a s)=bk a*2^s:=by
  unfold shl;refine Jr (γD f (γm e)) (εJ n ?_);rw[γQ];exact Δ (by omega) (γm (pow_pos _))
 have i:bA (shl a s):=Jp;have t:(shl a s).length=a.length+1:=Af;refine⟨i,t,c,?_⟩;have h:=vQ (U:=shl a s) (j:=a.length - b.length+1) (by omega);have y:=fc (nG i (a.length - b.length+1));have x:4294967296^(b.length - 1)*bj b (b.length - 1) 0<=bk b:=JD w;have o:(4294967296:Int)^(b.length - 1)<=bk b:=by
  have:=Δ d (γm (pow_pos (b.length - 1)));omega
 have m:(4294967296:Int)^a.length=4294967296^(a.length - b.length+1)*4294967296^(b.length - 1):=by
  rw[<-εf];congr 1;omega
 rw[c] at h;have p:(4294967296:Int)^(a.length - b.length+1)*bk ((shl a s).drop (a.length - b.length+1))<4294967296^(a.length - b.length+1)*(4294967296^(b.length - 1)*2^s):=by
  rw[<-δo,<-m];omega
 have r:=εw p (γm (pow_pos _));exact εJ r (γT o (γm e))
theorem ace {x y:Int} {s:Nat} (n:0<=x) (u:x<4294967296) (t:0<=y) (o:y<4294967296) (g:0<s) (q:s<=31):
  ∃r,eQ.nZ .u32 (x / 2^s) (y*2^(32 - s) % 4294967296)=r/\(0<=r/\r<4294967296)/\2^s*r=x - x % 2^s+4294967296*(y % 2^s):=by
 have b:(0:Int)<2^s:=δL (by decide);have c:(0:Int)<2^(32 - s):=δL (by decide);have l:(4294967296:Int)=2^s*2^(32 - s):=by
  rw[<-εf,show s+(32 - s)=32 by omega];decide
 have f:y*2^(32 - s) % 4294967296=(y % 2^s)*2^(32 - s):=by
  conv=>lhs;rw[l]
  rw[εb y,εb (2^s),ζv _ _ c,εb]
 have d:=δV y (show(2:Int)^s≠0 by omega);have p:=δx y b;have e:0<=x / 2^s:=δ8 n (γm b);have m:x / 2^s<2^(32 - s):=εV b (by grind);have h:(y % 2^s)*2^(32 - s)+2^(32 - s)<=4294967296:=by
  have:=γT (show y % 2^s+1<=2^s by omega) (γm c);grind
 have j:0<=(y % 2^s)*2^(32 - s):=γD d (γm c);have a:=RS (k:=32 - s) e m d (by omega) (by omega);refine⟨x / 2^s+(y % 2^s)*2^(32 - s),by rw[f,a],⟨by omega,by omega⟩,?_⟩;have i:=εo x (2^s);grind
theorem RZ {U r:List Int} {i s:Nat} {d:Int} (b:bA U) (c:bA r) (h:i<r.length) (g:∀j,i<=j->bj r j 0=0) (a:0<=d/\d<4294967296)
  (f:2^s*d=bj U i 0 - bj U i 0 % 2^s+4294967296*(bj U (i+1) 0 % 2^s))
  (e:2^s*bk r=bk (U.take i) - bj U 0 0 % 2^s+4294967296^i*(bj U i 0 % 2^s)):
  bA (r.set i d)/\(r.set i d).length=r.length/\(∀j,i+1<=j->bj (r.set i d) j 0=0)/\
  2^s*bk (r.set i d)=bk (U.take (i+1)) - bj U 0 0 % 2^s+4294967296^(i+1)*(bj U (i+1) 0 % 2^s):=by
 grind[nH,pU,uq,mj]
theorem acf {U r v q:List Int} {n s:Nat} {a b:Int} (f:bA U) (A:bA r) (y:bA v) (g:v.length=n) (u:bk U<bk v) (J:bk v=b*2^s) (C:0<b) (D:bk U+bk v*bk q=a*2^s)
  (G:s<=31) (x:n+1<=U.length)
  (c:2^s*bk r=bk (U.take n) - bj U 0 0 % 2^s+4294967296^n*(bj U n 0 % 2^s)):bk q=a / b/\bk r=a % b:=by
 have H:(0:Int)<2^s:=δL (by decide);have m:=oq y;rw[g] at m;have o:bj U n 0=0:=Ah f (i:=n) (by omega) (φ _);have e:bk (U.take n)=bk U:=by
  have k:=vQ (U:=U) (j:=n) (by omega);have p:=fc (nG f n);have w:=fc (Ag f n);by_cases h:bk (U.drop n)=0;·simp_all
  ·have:=Δ (show(1:Int)<=bk (U.drop n) by omega) (γm (pow_pos n));omega
 have d:bk U=2^s*(a - b*bk q):=by
  grind
 have l:bj U 0 0 % 2^s=0:=by
  have k:=@mj U 0;have p:=vQ (U:=U) (j:=1) (by omega);have E:(4294967296:Int)=2^s*2^(32 - s):=by
   rw[<-εf,show s+(32 - s)=32 by omega];decide
  simp only[Nat.zero_add,List.take_zero,bk,ζF,δU,Int.zero_add] at k;rw[k,γQ,ζF,δU] at p;have w:bj U 0 0=2^s*(a - b*bk q - 2^(32 - s)*bk (U.drop 1)):=by
   grind
  simp_all
 rw[o,l,e,Int.zero_emod,δS,ζe,εq,d] at c;have t:bk r=a - b*bk q:=Int.eq_of_mul_eq_mul_left (by omega) c;have B:=fc A;have z:bk r<b:=by
  have:2^s*bk r<2^s*b:=by
   grind
  simp_all
 obtain⟨F,I⟩:=vO (X:=a) (V:=b) (q:=bk q) (by grind) (by grind);grind
theorem Eb:∀{w:List Int},bA w->fN w->w≠[]->4294967296^(w.length - 1)<=bk w
 |[],_,_,h=>absurd rfl h
 |[d],a,b,_=>by
  have f:=(jd.1 a).1;have c:=b.1 rfl;grind[bk];|d::e::l,a,b,_=>by
  obtain⟨f,c⟩:=jd.1 a;have g:=Eb c b.2 (by simp);have i:bk (d::e::l)=d+4294967296*bk (e::l):=rfl;simp only[List.length_cons,ζO] at g ⊢;omega
theorem Ec {a b:Nat} (h:a<=b):(4294967296:Int)^a<=4294967296^b:=by
 obtain⟨m,rfl⟩:=Nat.exists_eq_add_of_le h;rw[εf];have c:=pow_pos a;have d:=pow_pos m;have:=Δ (show(1:Int)<=4294967296^m by omega) (γm c);omega
theorem JG {t:List Int} {s:Nat} (e:bA t) (H:1<=t.length) (G:s<=31) (d:bj t (t.length - 1) 0*2^s<4294967296) (c:2147483648<=bj t (t.length - 1) 0*2^s):
  bA (bI (shl t s))/\(bI (shl t s)).length=t.length/\bk (bI (shl t s))=bk t*2^s/\2147483648<=bj (bI (shl t s)) (t.length - 1) 0/\1<=bj t (t.length - 1) 0:=by
 have o:(0:Int)<2^s:=δL (by decide);have q:=dX e (t.length - 1);have a:1<=bj t (t.length - 1) 0:=by
  grind
 obtain⟨y,N,z,_⟩:=RY e e G (φ _) H a;obtain⟨f,E⟩:=@rK (shl t s);have i:=sL y;rw[z] at f;generalize bI (shl t s)=w at*;obtain⟨n,A⟩:∃n,t.length=n+1:=⟨t.length - 1,by omega⟩;rw[A] at d c a q ⊢;simp only[ζO] at d c a q ⊢;have p:=pow_pos n;have v:bk t=bk (t.take n)+4294967296^n*bj t n 0:=by
  grind[mj]
 have B:=fc (nG e n);have k:=oq (nG e n);rw[Ω,εp (by omega)] at k;have J:(4294967296:Int)=2^(32 - s)*2^s:=by
  rw[<-εf,show 32 - s+s=32 by omega];decide
 have L:(0:Int)<2^(32 - s):=δL (by decide);have D:bj t n 0<2^(32 - s):=by
  simp_all
 have l:(bj t n 0+1)*2^s<=4294967296:=by
  have:=γT (show bj t n 0+1<=2^(32 - s) by omega) (γm o);omega
 have x:bk w<4294967296^(n+1):=by
  rw[f,γQ];have F:bk t<4294967296^n*(bj t n 0+1):=by grind
  have M:=γ2 F o;have I:=Δ l (γm p);grind
 have u:4294967296^n*(bj t n 0*2^s)<=bk w:=by
  rw[f,<-δo];exact γT (by omega) (γm o)
 have r:(4294967296:Int)^n<=bk w:=by
  have:=Δ (show(1:Int)<=bj t n 0*2^s by omega) (γm p);omega
 have b:w.length=n+1:=by
  have K:n<w.length:=by
   by_cases h:n<w.length;·exact h
   ·have:=oq i;have:=Ec (show w.length<=n by omega);omega
  by_cases h:w.length=n+1;·exact h
  ·have j:w≠[]:=by grind
   have:=Eb i E j;have:=Ec (show n+1<=w.length - 1 by omega);omega
 refine⟨i,b,f,?_,a⟩;have C:bk w=bk (w.take n)+4294967296^n*bj w n 0:=by
  grind[mj]
 have m:=oq (nG i n);rw[Ω,εp (by omega)] at m;have g:4294967296^n*(bj t n 0*2^s)<4294967296^n*(bj w n 0+1):=by grind
 have:=εw g (γm p);omega
@[reducible] def sF:bn:=.pair .b (.pair (.bK (.i .u32)) (.bK (.i .u32)))
abbrev bO:=Bool×(List Int×List Int)
def bu (q:Rat):bO:=(decide (q<0),(cF (q.num.natAbs:Int),cF (q.den:Int)))
def ck (x:bO):Rat:=mkRat (if x.1 then -bk x.2.1 else bk x.2.1) (bk x.2.2).toNat
def Sz (k:Nat) (q:Rat):Prop:=(q.num.natAbs:Int)<4294967296^k/\(q.den:Int)<4294967296^k
theorem mY {n:Int} {k:Nat} (e:0<=n) (h:n<4294967296^k):(cF n).length<=k:=by
 obtain⟨f,b,d⟩:=gl e;by_cases c:(cF n).length<=k;·exact c
 ·have a:cF n≠[]:=by grind
  have:=Eb b d a;have:=Ec (show k<=(cF n).length - 1 by omega);omega
theorem fe (q:Rat):ck (bu q)=q:=by
 unfold ck bu;have a:=(gl (show(0:Int)<=(q.num.natAbs:Int) by omega)).1;have b:=(gl (show(0:Int)<=(q.den:Int) by omega)).1;simp only[a,b,decide_eq_true_eq,γq];grind[Rat.num_nonneg,δ3]
theorem R1 {N:Int} {D:Nat} (a:D≠0):(mkRat N D).num.natAbs=N.natAbs / N.natAbs.gcd D/\(mkRat N D).den=D / N.natAbs.gcd D:=by
 rw[<-ζz a,Rat.normalize_eq a];simp only;refine⟨?_,trivial⟩;have b:0<N.natAbs.gcd D:=Nat.gcd_pos_of_pos_right _ (by omega);have c:((N.natAbs.gcd D:Nat):Int)∣N:=Int.ofNat_dvd_left.2 (ζV _ _);generalize N.natAbs.gcd D=g at*;obtain⟨m,rfl⟩:=c;rw[ζo _ (by omega),εx,ζf,Nat.mul_div_cancel_left _ b]
theorem acg {N:Int} {D:Nat} (f:D≠0):mkRat N D<0↔N<0:=by
 have i:(0:Rat)=mkRat 0 D:=(Rat.zero_mkRat D).symm;have e:mkRat N D<0↔¬0<=mkRat N D:=Rat.not_le.symm;rw[e,<-Rat.num_nonneg];have g:=Rat.num_divInt_den (mkRat N D);have c:(mkRat N D).num*(D:Int)=N*((mkRat N D).den:Int):=by
  grind[Rat.mkRat_eq_iff,mkRat,δ3]
 have d:(0:Int)<((mkRat N D).den:Int):=by have:=(mkRat N D).den_pos;omega
 have b:(0:Int)<(D:Int):=by omega
 constructor
 ·intro h;by_cases a:N<0;·exact a
  ·exfalso;apply h;have:0<=(mkRat N D).num*(D:Int):=by rw[c];exact γD (by omega) (by omega)
   exact Int.nonneg_of_mul_nonneg_left this b
 ·intro a h;have:0<=(mkRat N D).num*(D:Int):=γD h (by omega);rw[c] at this;have:=εy a d;omega
theorem R7 {s:Bool} {n d:Int} (n0:0<=n) (f:0<d):bu (mkRat (if s then -n else n) d.toNat)=(s&&decide (0<n),(cF (n / eh n d),cF (d / eh n d))):=by
 have e:d.toNat≠0:=by omega
 obtain⟨b,c⟩:=R1 (N:=if s then -n else n) e;have a:(if s then -n else n).natAbs=n.toNat:=by split<;>omega
 unfold bu;rw[b,c,a];have g:eh n d=((n.toNat.gcd d.toNat:Nat):Int):=rfl;refine εd ?_ (εd ?_ ?_)
 ·simp only;rw[ε3];simp only[decide_eq_true_eq,Bool.and_eq_true];grind[acg]
 all_goals grind
theorem Ar {N:Int} {D:Nat} {k:Nat} (b:D≠0) (f:(N.natAbs:Int)<4294967296^k) (e:(D:Int)<4294967296^k):Sz k (mkRat N D):=by
 obtain⟨c,a⟩:=R1 (N:=N) b;unfold Sz;rw[c,a];have g:=Nat.div_le_self N.natAbs (N.natAbs.gcd D);have d:=Nat.div_le_self D (N.natAbs.gcd D);omega
theorem Sz.mono {j k:Nat} {q:Rat} (h:Sz j q) (a:j<=k):Sz k q:=by
 have:=Ec a;exact⟨by have:=h.1;omega,by have:=h.2;omega⟩
theorem R9 (p q:Rat):p+q=mkRat (p.num*q.den+q.num*p.den) (p.den*q.den):=by
 rw[Rat.add_def,ζz]
theorem Si {p q:Rat} {i j:Nat} (e:Sz i p) (c:Sz j q):Sz (i+j+1) (p+q):=by
 rw[R9];have g:=p.den_pos;have l:=q.den_pos;have k:p.den*q.den≠0:=Nat.ne_of_gt (Nat.mul_pos g l);have m:∀{a b:Int} {i j:Nat},0<=a->0<=b->a<4294967296^i->b<4294967296^j->a*b<4294967296^(i+j):=by
  intro a b i j h o f d;rw[εf];exact εK (Δ (γm d) h) (γ2 f (pow_pos _))
 have f:=m (by omega) (by omega) e.1 c.2;have d:=m (by omega) (by omega) c.1 e.2;have n:=m (by omega) (by omega) e.2 c.2;rw[Nat.add_comm j i] at d;have t:=pow_pos (i+j);refine Ar k ?_ ?_
 ·have r:(p.num*(q.den:Int)).natAbs=p.num.natAbs*q.den:=by rw[εx,ζf]
  have s:(q.num*(p.den:Int)).natAbs=q.num.natAbs*p.den:=by rw[εx,ζf]
  omega
 omega
theorem Ed {p:Rat} {i:Nat} (a:Sz i p):Sz i (-p):=by
 grind[Sz,Rat.neg_num,Rat.neg_den]
def yc:bM:=⟨157,Int,.one (dU .u64),λx=>0<=(show Int from x)/\(show Int from x)<18446744073709551616,λx=> .row (.i .u32) (cF x)⟩
theorem h128:Holds Tryz.prog yc:=by
 refine cJ (L:=[rJ]) yc lk (by grind[h152]) ?_;intro(x:Int) h;obtain⟨b,a⟩:0<=x/\x<18446744073709551616:=h;refine bQ (let a:=(4294967296:Int);(0:Int)<=(32:Int)/\(32:Int)<=(64:Int)/\2<=1000000000000/\(γc (bn.i .u32) (bI [x % a,x / a % a])).same (γc (bn.i .u32) (cF x))) (by kernel_rfl) ?_;simp only[vcs];grind[bA,qH,bk]
def QD:List bM:=[rJ,x6,Ae,Jn,yc,JE]
theorem hQD:∀c∈QD,Holds Tryz.prog c:=by
 simp only[QD,List.forall_mem_cons,List.not_mem_nil,false_implies,implies_true,and_true];grind[h152,h132,h154,h167,h128,h168p]
def WD:List cY:=[JF,Jw]
theorem hWD:∀c∈WD,dL Tryz.prog c:=by
 simp_all[WD,h168,h169]
def Ee:bM:=⟨223,List Int×List Int,.cons (dY (.i .u32)) (.one (dY (.i .u32))),λa=>(bA a.1/\bA a.2)/\(a.1.length<=10000000000/\a.2.length<=10000000000)/\0<bk a.2,
 λa=> .bH [.row (.i .u32) (cF (bk a.1 / bk a.2)),.row (.i .u32) (cF (bk a.1 % bk a.2)),.si .i64 0]⟩
def sO (a:List Int×List Int) (s:Int):Prop:=(0<=s/\s<=31)/\bj (bI a.2) ((bI a.2).length - 1) 0*2^s.toNat<4294967296/\2147483648<=bj (bI a.2) ((bI a.2).length - 1) 0*2^s.toNat
def acj (a:List Int×List Int):Nat->cB
 |10=> .inv Int (λs=>⟨[(0,.row (.i .u32) (bI a.1)),(1,.row (.i .u32) (bI a.2)),(9,.si .u64 s)],[]⟩) (λs=>iS s 9)
  (λs=>(0<=s/\s<=31)/\bj (bI a.2) ((bI a.2).length - 1) 0*2^s.toNat<4294967296) (λs=>(32 - s).toNat) λ_ _=> .look
 |17=> .inv (Int×Int×List Int×List Int) (λx=>⟨[(4,.ow 1 x.2.2.2.length 1),(9,.si .u64 x.2.1),(10,.ow 0 x.2.2.1.length 1),(11,.row (.i .u32) (bI (shl (bI a.2) x.2.1.toNat))),(12,.si .i64 (bI (shl (bI a.2) x.2.1.toNat)).length),
   (13,.si .i64 ((bI a.1).length - (bI a.2).length)),(74,.si .i64 ((bI a.1).length - (bI a.2).length+1)),(75,.si .i64 x.1)],[.row (.i .u32) x.2.2.1 235 false,.row (.i .u32) x.2.2.2 235 true]⟩)
  (λs=>(iS s 75,iS s 9,oS (.i .u32) s 0,oS (.i .u32) s 1))
  (λx=>(0<=x.1/\x.1<=(bI a.1).length - (bI a.2).length+1)/\sO a x.2.1/\(bA x.2.2.1/\x.2.2.1.length=(bI a.1).length+1)/\(bA x.2.2.2/\x.2.2.2.length=(bI a.1).length - (bI a.2).length+1)/\
   (∀j:Nat,(j:Int)<(bI a.1).length - (bI a.2).length+1 - x.1->bj x.2.2.2 j 0=0)/\
   bk x.2.2.1+bk (bI (shl (bI a.2) x.2.1.toNat))*bk x.2.2.2=bk (bI a.1)*2^x.2.1.toNat/\
   bk (x.2.2.1.drop (((bI a.1).length - (bI a.2).length+1 - x.1:Int).toNat))<bk (bI (shl (bI a.2) x.2.1.toNat)))
  (λx=>((bI a.1).length - (bI a.2).length+1 - x.1:Int).toNat) λ_ _=> .look
 |24=> .inv (Int×Int×List Int×List Int×List Int) (λx=>⟨[(4,.ow 1 x.2.2.2.1.length 1),(5,.ow 2 x.2.2.2.2.length 1),(9,.si .u64 x.2.1),(10,.ow 0 x.2.2.1.length 1),(100,.si .i64 (bI (shl (bI a.2) x.2.1.toNat)).length),(101,.si .i64 x.1)],
   [.row (.i .u32) x.2.2.1 235 false,.row (.i .u32) x.2.2.2.1 235 true,.row (.i .u32) x.2.2.2.2 235 true]⟩)
  (λs=>(iS s 101,iS s 9,oS (.i .u32) s 0,oS (.i .u32) s 1,oS (.i .u32) s 2))
  (λx=>(0<=x.1/\x.1<=(bI (shl (bI a.2) x.2.1.toNat)).length)/\sO a x.2.1/\(bA x.2.2.1/\x.2.2.1.length=(bI a.1).length+1)/\(bA x.2.2.2.1/\x.2.2.2.1.length=(bI a.1).length - (bI a.2).length+1)/\
   bk x.2.2.1+bk (bI (shl (bI a.2) x.2.1.toNat))*bk x.2.2.2.1=bk (bI a.1)*2^x.2.1.toNat/\bk x.2.2.1<bk (bI (shl (bI a.2) x.2.1.toNat))/\
   (bA x.2.2.2.2/\x.2.2.2.2.length=(bI (shl (bI a.2) x.2.1.toNat)).length)/\(∀j,x.1.toNat<=j->bj x.2.2.2.2 j 0=0)/\
   2^x.2.1.toNat*bk x.2.2.2.2=bk (x.2.2.1.take x.1.toNat) - bj x.2.2.1 0 0 % 2^x.2.1.toNat+4294967296^x.1.toNat*(bj x.2.2.1 x.1.toNat 0 % 2^x.2.1.toNat))
  (λx=>((bI (shl (bI a.2) x.2.1.toNat)).length - x.1).toNat) λ_ _=> .look
 |_=> .look
theorem h166g:Holds Tryz.prog Ee:=by
 refine con (L:=QD) (W:=fV WD) Ee acj (lg hWD) hQD ?_;rintro⟨a,b⟩ ⟨⟨ha,hb⟩,⟨hla,hlb⟩,b0⟩;simp only at ha hb hla hlb b0;refine bQ (let c:=(0:Int);let d:=(4294967296:Int);let e:=(18446744073709551616:Int);let f:=γc;let g:=γb .i64;let h:=bY .i64;let k:=bq.row;let l:=(1:Int);let m:=δd;let n:=(32:Int);let o:=(140737488355328:Int);let p:=(1000000000000:Int);let q:=(2:Int);let r:=SV.bH;let s:=(31:Int);let z0:Nat:=(bI b).length;let N:=(↑z0:Int);let av:=decide (N=c);let ag:=f (bn.i .i64) [];let t:=bn.i .u32;let ah:=g 0;let aa:=r [f t (cF (bk a / bk b)),f t (cF (bk a % bk b)),ah];let z7:Nat:=(bI a).length;let z8:Nat:=(bI b).length;let F:=bk (bI a);let aw:=decide (mq F (bk (bI b))<c);let a1:=γy .i64 0;let ax:=decide (N=l);let ab:=bj (bI b) 0 c;let ai:=F % ab % e;let aj:=bj (bI b) (z8 - 1) c;let a2:=N - l;let ak:=(↑(bI a).length:Int) - N;let B:=ak+l;let O:=ε B.toNat c;let al:=(↑z7:Int) - (↑z8:Int);let am:=g al;let y:=al+l;let an:=g y;let ay:=k t O 235 true;let P:=z7+1;let Q:=z7 - z8+1;a.length<=1000000000000/\b.length<=1000000000000/\(av=true->(r [ag,ag,γy .i64 8]).same aa)/\(av=false->((bA (bI a)/\bA (bI b))/\z7<=1000000000000/\z8<=1000000000000)/\(aw=true->((bA (bI a)/\bA [])/\z7<=100000000000/\0<=100000000000)/\(r [ag,f t (cF (F+bk [])),a1]).same aa)/\(aw=false->(ax=true->c<=c/\c<N/\0<z0/\(bA (bI a)/\z7<=100000000000/\c<ab/\ab<d)/\(c<=ai/\ai<e)/\(r [f t (cF (F / ab)),f t (cF ai),a1]).same aa)/\(ax=false->((((f t (bI a)).same (f t (bI a))/\(f t (bI b)).same (f t (bI b))/\(γy .u64 0).same (γb .u64 0)/\True)/\True)/\(c<=c/\c<=s)/\aj*l<d)/\∀(x:Int),let ao:=q^x.toNat;let a3:=(x+l) % e;let az:=γb .u64 a3;let aA:=shl (bI b) x.toNat;let R:=shl (bI a) x.toNat;let aB:=m 0 R.length 1;let S:=bI aA;let aC:=k t R 235 false;let aD:=λ(u:Bool) ↦decide (bj (bI b) a2.toNat c*ao % d<(2147483648:Int))=u;(c<=x/\x<=s)/\aj*ao<d->h a2/\c<=a2/\a2<N/\a2.toNat<z0/\c<=x/\x<=n/\(aD true->(((f t (bI a)).same (f t (bI a))/\(f t (bI b)).same (f t (bI b))/\az.same az/\True)/\True)/\((c<=a3/\a3<=s)/\aj*q^a3.toNat<d)/\(n - a3).toNat<(n - x).toNat)/\(aD false->Aq (bI a,x)/\Aq (bI b,x)/\aA.length<=1000000000000/\h ak/\h B/\c<=B/\B<=B/\B*(4:Int)<=o/\B<=p/\h B/\((((m 1 B.toNat 1).same (m 1 O.length 1)/\(γb .u64 x).same (γb .u64 x)/\aB.same aB/\(f t S).same (f t S)/\(g (↑S.length:Int)).same (g (↑S.length:Int))/\(g ak).same am/\(g B).same an/\a1.same ah/\True)/\aC.same aC/\ay.same ay/\True)/\(c<=c/\c<=y)/\sO (a,b) x/\(bA R/\R.length=P)/\(bA O/\O.length=Q)/\(∀(j:Nat),(↑j:Int)<y - c->bj O j c=c)/\bk R+bk S*bk O=F*ao/\bk (γ8 (y - c).toNat R)<bk S)/\∀(x:Int×Int×List Int×List Int),let C:=x.snd.snd.fst;let T:=bI (shl (bI b) x.snd.fst.toNat);let U:=bk T;let w:=x.snd.snd.snd;let ac:=q^x.snd.fst.toNat;let V:=C.length;let aE:=decide (x.fst<y);let G:=al - x.fst;let z:=(↑T.length:Int);let a4:=G+z+l;let a5:=G.toNat;let a6:=a4.toNat;let H:=nI.mk C a5 (a6 - a5) V T;let K:=x.fst+l;let ap:=m 1 w.length 1;let W:=w.set a5 (H.x / U);let ad:=γb .u64 x.snd.fst;let aq:=m 0 V 1;let ae:=g z;let aF:=g K;let aG:=k t H.row 235 false;let aH:=k t W 235 true;let X:=ε z.toNat c;let aI:=k t C 235 false;let aJ:=k t w 235 true;let aK:=k t X 235 true;let aL:=bj C 0 c % ac;let aM:=bk C+U*bk w=F*ac;(c<=x.fst/\x.fst<=y)/\sO (a,b) x.snd.fst/\(bA C/\V=P)/\(bA w/\w.length=Q)/\(∀(j:Nat),(↑j:Int)<y - x.fst->bj w j c=c)/\aM/\bk (γ8 (y - x.fst).toNat C)<U->(aE=true->h G/\h (G+z)/\h a4/\h (G+z)/\h a4/\V=C.length/\c<=G/\c<=a4/\c<=a4/\a5<=a6/\a6<=a6/\a6<=V/\H.ok/\w.length=w.length/\c<=G/\G<(↑w.length:Int)/\w.length=w.length/\a5<w.length/\h K/\((ap.same (m 1 W.length 1)/\ad.same ad/\aq.same (m 0 H.row.length 1)/\(f t T).same (f t T)/\ae.same ae/\am.same am/\an.same an/\aF.same aF/\True)/\aG.same aG/\aH.same aH/\True)/\((c<=K/\K<=y)/\sO (a,b) x.snd.fst/\(bA H.row/\H.row.length=P)/\(bA W/\W.length=Q)/\(∀(j:Nat),(↑j:Int)<y - K->bj W j c=c)/\bk H.row+U*bk W=F*ac/\bk (γ8 (y - K).toNat H.row)<U)/\(y - K).toNat<(y - x.fst).toNat)/\(aE=false->c<=z/\z<=z/\z*(4:Int)<=o/\z<=p/\(((ap.same ap/\(m 2 z.toNat 1).same (m 2 X.length 1)/\ad.same ad/\aq.same aq/\ae.same ae/\a1.same ah/\True)/\aI.same aI/\aJ.same aJ/\aK.same aK/\True)/\(c<=c/\c<=z)/\sO (a,b) x.snd.fst/\(bA C/\V=P)/\(bA w/\w.length=Q)/\aM/\bk C<U/\(bA X/\X.length=T.length)/\(∀(j:Nat),0<=j->bj X j c=c)/\ac*bk X=bk [] - aL+l*aL)/\∀(x:Int×Int×List Int×List Int×List Int),let aN:=γb .u64 x.snd.fst;let v:=x.snd.snd.fst;let aO:=m 0 v.length 1;let Y:=bI (shl (bI b) x.snd.fst.toNat);let Z:=(↑Y.length:Int);let aP:=g Z;let E:=x.fst+l;let aQ:=g E;let A:=x.snd.snd.snd.snd;let L:=A.length;let D:=x.fst.toNat;let ar:=bj v D c;let I:=q^x.snd.fst.toNat;let a7:=A.set D (ar / I);let M:=x.snd.snd.snd.fst;let a8:=M.length;let aR:=m 1 a8 1;let aS:=k t v 235 false;let aT:=k t M 235 true;let a9:=E.toNat;let aU:=bj v 0 c % I;let aV:=bj v a9 c;let aW:=decide (x.fst<Z);let J:=v.length;let aX:=decide (c<x.snd.fst);let au:=(n - x.snd.fst) % e;let b3:=aN.same aN/\aO.same aO/\aP.same aP/\aQ.same aQ/\True;let af:=L=a7.length;let aY:=x.fst<(↑a7.length:Int);let aZ:=D<a7.length;let b0:=bk v+bk Y*bk M=F*I;let b4:=(Z - E).toNat<(Z - x.fst).toNat;let b5:=aR.same aR;let b6:=c<=E/\E<=Z;let b1:=λ(u:List Int) (u_1:Int) ↦let a0:=u.set D u_1;let b2:=k t a0 235 true;h E/\((b5/\(m 2 L 1).same (m 2 a0.length 1)/\b3)/\aS.same aS/\aT.same aT/\b2.same b2/\True)/\(b6/\sO (a,b) x.snd.fst/\(bA v/\v.length=P)/\(bA M/\a8=Q)/\b0/\bk v<bk Y/\(bA a0/\a0.length=Y.length)/\(∀(j:Nat),a9<=j->bj a0 j c=c)/\I*bk a0=bk (γe a9 v) - aU+d^a9*(aV % I))/\b4;(c<=x.fst/\x.fst<=Z)/\sO (a,b) x.snd.fst/\(bA v/\v.length=P)/\(bA M/\a8=Q)/\b0/\bk v<bk Y/\(bA A/\L=Y.length)/\(∀(j:Nat),D<=j->bj A j c=c)/\I*bk A=bk (γe D v) - aU+d^D*(ar % I)->(aW=true->v.length=J/\c<=x.fst/\x.fst<(↑J:Int)/\v.length=J/\D<J/\c<=x.snd.fst/\x.snd.fst<=n/\L=A.length/\c<=x.fst/\x.fst<(↑A.length:Int)/\L=A.length/\D<A.length/\(aX=true->af/\c<=x.fst/\aY/\af/\aZ/\h E/\v.length=J/\c<=E/\E<(↑J:Int)/\v.length=J/\a9<J/\c<=au/\au<=n/\af/\c<=x.fst/\aY/\af/\aZ/\b1 a7 (eQ.nZ .u32 (bj a7 D c) (aV*q^au.toNat % d)))/\(aX=false->b1 A (ar / I)))/\(aW=false->a8=M.length/\L=A.length/\a8<=1000000000000/\L<=1000000000000/\(r [f t (bI M),f t (bI A),a1]).same aa))))))) (by kernel_rfl) ?_;simp only[vcs];obtain⟨va,na⟩:=@rK a;obtain⟨vb,nb⟩:=@rK b;have da:=sL ha;have db:=sL hb;have la:=@uo a;have lb:=@uo b;have p0:=fc da;have d0:bA []:=by simp[bA]
 simp only[sO];rw[<-va,<-vb];rw[<-vb] at b0;generalize bI a=S at*;generalize bI b=T at*;have hm:=δV (bk S) (show bk T≠0 by omega);have hl:=δx (bk S) b0;have hT1:T.length≠0:=by
  intro h;rw[Γ h] at b0;exact absurd b0 (by decide)
 refine⟨by omega,by omega,λh0=>by omega,λh0=>⟨⟨⟨da,db⟩,by omega,by omega⟩,λhlt=>⟨⟨⟨da,d0⟩,by omega,by omega⟩,?_⟩,λhge=>⟨λh1=>?_,λh1=>⟨?_,?_⟩⟩⟩⟩
 ·have hab:bk S<bk T:=by unfold mq at hlt;split at hlt<;>(try split at hlt)<;>omega
  have hdv:bk S / bk T=0:=Int.ediv_eq_zero_of_lt p0 hab;have hmv:bk S % bk T=bk S:=δT p0 hab;refine⟨RO (by rw[hdv];rfl),?_⟩;rw[hmv];simp[bk]
 ·obtain⟨d,rfl⟩:∃d,T=[d]:=List.length_eq_one_iff.1 (by omega);have hd:=(jd.1 db).1;have acn:bj [d] 0 0=d:=rfl;have hv:bk [d]=d:=by simp[bk]
  rw[hv] at b0 hm hl ⊢;rw[acn];have hmm:bk S % d % 18446744073709551616=bk S % d:=by omega
  rw[hmm];repeat' refine γj ?_ ?_
  all_goals first|omega|exact da|rfl|(simp;done)
 ·have:=dX db (T.length - 1);repeat' refine γj ?_ ?_
  all_goals omega
 have Io:bk T<=bk S:=by unfold mq at hge;split at hge<;>(try split at hge)<;>omega
 have hlen:T.length<=S.length:=by
  by_cases h:S.length<T.length
  ·have:=x5 da db nb h;omega
  ·omega
 have hTn:2<=T.length:=by omega
 clear hge h0 h1 hT1 va vb d0;rintro s ⟨⟨s0,s1⟩,hs⟩;have t1:((T.length:Int) - 1).toNat=T.length - 1:=by omega
 have hxt:=dX db (T.length - 1);have hps:(0:Int)<2^s.toNat:=δL (by decide);have hnn:0<=bj T (T.length - 1) 0*2^s.toNat:=γD hxt.1 (γm hps);have hmod:bj T (T.length - 1) 0*2^s.toNat % 4294967296=bj T (T.length - 1) 0*2^s.toNat:=by omega
 rw[t1,hmod];repeat refine γj (by omega) ?_
 refine⟨λhc=>?_,λhc=>?_⟩
 ·have htop:1<=bj T (T.length - 1) 0:=by
   by_cases h:1<=bj T (T.length - 1) 0;·exact h
   ·exfalso;have h4:=Eb db nb (by rintro rfl;simp at hTn);have h5:bk T=bk (T.take (T.length - 1))+4294967296^(T.length - 1)*bj T (T.length - 1) 0:=by
     have:=@mj T (T.length - 1);rwa [show T.length - 1+1=T.length by omega,ψ] at this
    have h6:=oq (nG db (T.length - 1));rw[Ω,εp (by omega)] at h6;rw[show bj T (T.length - 1) 0=0 by omega,δS] at h5;omega
  have h31:s<=30:=by
   by_cases h:s<=30;·exact h
   ·have acp:s.toNat=31:=by omega
    rw[acp,show(2:Int)^31=2147483648 from rfl] at hc;omega
  have e:((s+1) % 18446744073709551616)=s+1:=by omega
  have e2:(s+1).toNat=s.toNat+1:=by omega
  rw[e,e2,γQ,<-δo];repeat' refine γj ?_ ?_
  all_goals omega
 ·obtain⟨dw,lw,vw,tw,As⟩:=JG db (by omega) (show s.toNat<=31 by omega) hs (by omega);obtain⟨ds,ls,vs,hst⟩:=RY da db (show s.toNat<=31 by omega) hlen (by omega) As;have hds:∀z,Aq (z,s)↔(bA z/\z.length<=100000000000):=λz=>⟨λh=>⟨h.1,h.2.1⟩,λh=>⟨h.1,h.2,s0,s1⟩⟩;have bK:(shl T s.toNat).length=T.length+1:=Af;have bits:(0<=s/\s<=31)/\bj T (T.length - 1) 0*2^s.toNat<4294967296/\2147483648<=bj T (T.length - 1) 0*2^s.toNat:=⟨⟨s0,s1⟩,hs,by omega⟩;rw[hds,hds,bK,ls];refine⟨⟨da,by omega⟩,⟨db,by omega⟩,?_⟩;repeat refine γj (by omega) ?_
  refine⟨?_,?_⟩
  ·repeat' refine γj ?_ ?_
   all_goals first|omega|exact mA (by simp)|exact mA (by omega)|exact ds|exact Ap|exact λj _=>RR|(simp;omega)|(rw[ya,δS,εq];exact vs)|(rw[vw,show((S.length:Int) - T.length+1 - 0).toNat=S.length - T.length+1 by omega];exact hst)
  clear hst vs ls ds bits hds hmod hnn hps hxt As tw vw lw dw bK t1 hc hs s0 s1;clear s;rintro⟨i,s,U,q⟩ ⟨⟨i0,i1⟩,⟨⟨s0,s1⟩,hs,hs2⟩,⟨hU,Ef⟩,⟨hq,vR⟩,hz,he,hlt⟩;simp only at i0 i1 s0 s1 hs hs2 hU Ef hq vR hz he hlt ⊢;obtain⟨dw,lw,vw,tw,As⟩:=JG db (by omega) (show s.toNat<=31 by omega) hs (by omega);generalize hw:bI (shl T s.toNat)=w at*;have hw0:0<bk w:=by
   rw[vw];exact εB b0 (δL (by decide))
  refine⟨λkj=>?_,λmf=>?_⟩
  ·obtain⟨j,hj⟩:∃j:Nat,(S.length:Int) - T.length - i=j:=⟨((S.length:Int) - T.length - i).toNat,by omega⟩;have e1:((j:Int)+w.length+1).toNat - j=w.length+1:=by omega
   have e2:((S.length:Int) - T.length+1 - i).toNat=j+1:=by omega
   rw[e2] at hlt;obtain⟨k1,⟨k2,k3⟩,⟨k4,k5⟩,k6,k7⟩:=acd (j:=j) (m:=S.length - T.length) hU dw hq (by omega) (by omega) (by omega) (by omega) hw0 (hz j (by omega)) he hlt;have e3:((S.length:Int) - T.length+1 - (i+1)).toNat=j:=by omega
   simp only[hj,e1,e3,γq,nI.row,nI.x,nI.ok];repeat' refine γj ?_ ?_
   all_goals first|omega|exact mA (by simp)|exact mA k3.symm|exact trivial|exact hU|exact dw|exact k1|exact k2|exact k6|exact k7|exact nH hq k4 k5|(simp;omega)|(rw[lw];exact tw)|exact λp hp=>by rw[pU (by omega)];exact hz p (by omega)
  ·have e2:((S.length:Int) - T.length+1 - i).toNat=0:=by omega
   rw[e2,List.drop_zero] at hlt;repeat refine γj (by omega) ?_
   refine⟨?_,?_⟩
   ·have h1:=@mj U 0;simp only[List.take_zero,bk,ζF,δU];repeat' refine γj ?_ ?_
    all_goals first|omega|exact mA (by simp)|exact hU|exact hq|exact he|exact hlt|exact Ap|exact λj _=>RR|(simp;done)|(rw[ya];omega)
   clear hlt hz e2 mf i0 i1 tw As hw0 hs hs2 s0 s1 he hU Ef hq vR;clear hw dw lw vw;clear w s i U q;rintro⟨i,s,U,q,r⟩ ⟨⟨i0,i1⟩,⟨⟨s0,s1⟩,hs,hs2⟩,⟨hU,Ef⟩,⟨hq,vR⟩,he,hlt,⟨hr,hrl⟩,hz,hv⟩;simp only at i0 i1 s0 s1 hs hs2 hU Ef hq vR he hlt hr hrl hz hv ⊢;obtain⟨dw,lw,vw,tw,As⟩:=JG db (by omega) (show s.toNat<=31 by omega) hs (by omega);generalize hw:bI (shl T s.toNat)=w at*;refine⟨λkj=>?_,λmf=>?_⟩
   ·have x0:=dX hU i.toNat;have x1:=dX hU (i.toNat+1);have e1:(i+1).toNat=i.toNat+1:=by omega
    have x2:=dX hr i.toNat;have hps:(0:Int)<2^s.toNat:=δL (by decide);have y0:0<=bj U i.toNat 0 / 2^s.toNat:=δ8 x0.1 (γm hps);have y1:bj U i.toNat 0 / 2^s.toNat<=bj U i.toNat 0:=Int.ediv_le_self _ x0.1;have e2:((32 - s) % 18446744073709551616).toNat=32 - s.toNat:=by omega
    have e3:(r.set i.toNat (bj U i.toNat 0 / 2^s.toNat)).set i.toNat=r.set i.toNat:=by funext z;rw[List.set_set]
    simp only[e1,e2,e3,sN (show i.toNat<r.length by omega),Ξ];repeat refine γj (by omega) ?_
    refine⟨λhs0=>?_,λhs0=>?_⟩
    ·obtain⟨d,hd1,hd2,hd3⟩:=ace (s:=s.toNat) x0.1 x0.2 x1.1 x1.2 (by omega) (by omega);obtain⟨k1,k2,k3,k4⟩:=RZ hU hr (show i.toNat<r.length by omega) hz hd2 hd3 hv;rw[hd1];repeat' refine γj ?_ ?_
     all_goals first|omega|exact mA (by simp)|exact hU|exact hq|exact k1|exact k3|exact k4|exact he|exact hlt|trivial
    ·have acr:s.toNat=0:=by omega
     obtain⟨k1,k2,k3,k4⟩:=RZ (s:=s.toNat) (d:=bj U i.toNat 0 / 2^s.toNat) hU hr (show i.toNat<r.length by omega) hz ⟨y0,by omega⟩ (by rw[acr];simp) hv;repeat' refine γj ?_ ?_
     all_goals first|omega|exact mA (by simp)|exact hU|exact hq|exact k1|exact k3|exact k4|exact he|exact hlt|trivial
   ·have hi:i.toNat=w.length:=by omega
    rw[hi] at hv;obtain⟨w1,w2⟩:=acf hU hr dw rfl hlt vw b0 he (show s.toNat<=31 by omega) (by omega) hv;rw[qH hq,qH hr,w1,w2];repeat' refine γj ?_ ?_
    all_goals first|omega|rfl|trivial
theorem JH {a b:List Int} (d:bA a) (c:bA b) (f:fN a) (h:bk a<=bk b):a.length<=b.length:=by
 by_cases e:a.length<=b.length;·exact e
 ·have:=x5 c d f (by omega);omega
def Eg:bM:=⟨198,List Int×List Int,.cons (dY (.i .u32)) (.one (dY (.i .u32))),λa=>(bA a.1/\bA a.2)/\(a.1.length<=1000000000/\a.2.length<=1000000000),
 λa=> .row (.i .u32) (cF (eh (bk a.1) (bk a.2)))⟩
def acs (a:List Int×List Int):Nat->cB
 |2=> .inv (List Int×List Int) (λx=>⟨[(0,.row (.i .u32) x.1),(1,.row (.i .u32) x.2)],[]⟩) (λs=>(rS (.i .u32) s 0,rS (.i .u32) s 1))
  (λx=>(bA x.1/\bA x.2)/\(fN x.1/\fN x.2)/\(x.1.length<=1000000000/\x.2.length<=1000000000)/\eh (bk x.1) (bk x.2)=eh (bk a.1) (bk a.2)) (λx=>(bk x.2).toNat) λ_ _=> .look
 |_=> .look
theorem h165g:Holds Tryz.prog Eg:=by
 refine cJ (L:=[Ae,Ee]) Eg acs (by grind[h154,h166g]) ?_;rintro⟨a,b⟩ ⟨⟨l,k⟩,⟨n,m⟩⟩;simp only at l k n m;refine bQ (let h:=γc;let c:=bn.i .u32;let f:=cF (bk a+bk []);let e:=cF (bk b+bk []);let g:=eh (bk a) (bk b);((bA a/\bA [])/\a.length<=100000000000/\0<=100000000000)/\((bA b/\bA [])/\b.length<=100000000000/\0<=100000000000)/\((((h c f).same (h c f)/\(h c e).same (h c e)/\True)/\True)/\(bA f/\bA e)/\(fN f/\fN e)/\(f.length<=1000000000/\e.length<=1000000000)/\eh (bk f) (bk e)=g)/\∀(x:List Int×List Int),let v:=decide ((0:Int)<(↑x.snd.length:Int));let d:=cF (bk x.fst % bk x.snd);(bA x.fst/\bA x.snd)/\(fN x.fst/\fN x.snd)/\(x.fst.length<=1000000000/\x.snd.length<=1000000000)/\eh (bk x.fst) (bk x.snd)=g->(v=true->((bA x.fst/\bA x.snd)/\(x.fst.length<=10000000000/\x.snd.length<=10000000000)/\(0:Int)<bk x.snd)/\(false=true->(h c x.fst).same (h c (cF g)))/\(false=false->(((h c x.snd).same (h c x.snd)/\(h c d).same (h c d)/\True)/\True)/\((bA x.snd/\bA d)/\(fN x.snd/\fN d)/\(x.snd.length<=1000000000/\d.length<=1000000000)/\eh (bk x.snd) (bk d)=g)/\(bk d).toNat<(bk x.snd).toNat))/\(v=false->(h c x.fst).same (h c (cF g)))) (by kernel_rfl) ?_;simp only[vcs];have r:bA []:=by simp[bA]
 have N:=fc l;have E:=fc k;have z:bk []=0:=rfl;rw[z,εq,εq];obtain⟨Q,y,D⟩:=gl N;obtain⟨o,w,H⟩:=gl E;have p:(cF (bk a)).length<=1000000000:=by
  rw[<-qH l];grind[uo]
 have j:(cF (bk b)).length<=1000000000:=by
  rw[<-qH k];grind[uo]
 refine⟨⟨⟨l,r⟩,by omega,by omega⟩,⟨⟨k,r⟩,by omega,by omega⟩,⟨⟨y,w⟩,⟨D,H⟩,⟨p,j⟩,by rw[Q,o]⟩,?_⟩;rintro⟨s,t⟩ ⟨⟨u,q⟩,⟨J,C⟩,⟨O,G⟩,F⟩;simp only at u q J C G O F ⊢;have T:=fc u;have U:=fc q;refine⟨λB=>?_,λB=>?_⟩
 ·have h:0<bk t:=by
   grind[val_zero]
  have K:=δV (bk s) (show bk t≠0 by omega);have A:=δx (bk s) h;obtain⟨I,M,S⟩:=gl K;have P:=JH M q S (by rw[I];omega);grind[ab1]
 ·have R:t=[]:=Γ (by omega);grind[ab2,Ad]
def qN (q:Rat):SV:=.agg (encS sF (bu q))
def dc (x:bO):Prop:=∃q k,x=bu q/\Sz k q/\k<=100000000
def fO (s:Bool) (n d:Int):Rat:=mkRat (if s then -n else n) d.toNat
def Eh:bM:=⟨156,Int,.one (dU .i64),λn=> -9223372036854775808<=(show Int from n)/\(show Int from n)<=9223372036854775807,λn=> .row (.i .u32) (cF ((show Int from n).natAbs:Int))⟩
theorem h127:Holds Tryz.prog Eh:=by
 refine cJ (L:=[yc]) Eh lk (by grind[h128]) ?_;intro(n:Int) h;obtain⟨e,f⟩: -9223372036854775808<=n/\n<=9223372036854775807:=h;refine bQ (let e:=(18446744073709551616:Int);let f:=(1:Int);let g:=(0:Int);let h:=γc;let d:=decide (n<g);let a:=(-(n+f)+f) % e;let b:=bn.i .u32;let c:=h b (cF (↑n.natAbs:Int));(d=true->bY .i64 (n+f)/\bY .i64 (-(n+f))/\bY .u64 (-(n+f))/\(g<=a/\a<e)/\(h b (cF a)).same c)/\(d=false->bY .u64 n/\(g<=n/\n<e)/\(h b (cF n)).same c)) (by kernel_rfl) ?_;simp only[vcs];grind[u64_in]
def Au:bM:=⟨194,Bool×(List Int×List Int),.cons PG (.cons (dY (.i .u32)) (.one (dY (.i .u32)))),λa=>(bA a.2.1/\bA a.2.2)/\(a.2.1.length<=1000000000/\a.2.2.length<=1000000000)/\0<bk a.2.2,
 λa=> .bH [qN (fO a.1 (bk a.2.1) (bk a.2.2)),.si .i64 0]⟩
theorem h151:Holds Tryz.prog Au:=by
 refine cJ (L:=[Eg,Ee]) Au lk (by grind[h165g,h166g]) ?_;rintro⟨s,n,d⟩ ⟨⟨c,f⟩,⟨t,p⟩,j⟩;simp only at c f t p j;refine bQ (let b:=SV.bl false;let c:=γy .i64;let e:=γc;let f:=(0:Int);let g:=γK;let h:=SV.bH;let k:=e (bn.i .i64) [];let w:=bu (fO s (bk n) (bk d));let l:=bn.i .u32;let y:=h [g [γG w.fst,e l w.snd.fst,e l w.snd.snd],γb .i64 0];let a:=cF (eh (bk n) (bk d));let C:=cF (bk n / bk a);let B:=decide ((↑d.length:Int)=f);let F:=false=true->(h [g [b,k,k],c 8]).same y;let E:=λ(u:Bool) (v:SV) ↦s=u->(h [g [v,e l C,e l (cF (bk d / bk a))],c 0]).same y;(B=true->(h [g [b,k,k],c 8]).same y)/\(B=false->((bA n/\bA d)/\n.length<=1000000000/\d.length<=1000000000)/\((bA n/\bA a)/\(n.length<=10000000000/\a.length<=10000000000)/\f<bk a)/\((bA d/\bA a)/\(d.length<=10000000000/\a.length<=10000000000)/\f<bk a)/\F/\(false=false->F/\(false=false->E true (γG (decide (f<(↑C.length:Int))))/\E false (b))))) (by kernel_rfl) ?_;simp only[vcs];have D:=fc c;have b:0<eh (bk n) (bk d):=by
  simp_all[eh]
 have K:eh (bk n) (bk d)<=bk d:=by
  unfold eh;have:=Nat.gcd_le_right (bk n).toNat (show 0<(bk d).toNat by omega);omega
 have o:eh (bk n) (bk d)∣bk n:=by
  unfold eh;have:=ζV (bk n).toNat (bk d).toNat;have S:=Int.natCast_dvd_natCast.2 this;grind
 obtain⟨R,q,Q⟩:=gl (γm b);have I:=JH q (sL f) Q (by grind[rK]);have P:=@uo d;have A:0<=bk n / eh (bk n) (bk d):=δ8 D (γm b);obtain⟨N,H,M⟩:=gl A;have G:(0<((cF (bk n / eh (bk n) (bk d))).length:Int))↔0<bk n:=by
  obtain⟨m,e⟩:=o;have r:bk n / eh (bk n) (bk d)=m:=by
   conv=>lhs;arg 1;rw[e]
   rw[ζo _ (by omega)]
  rw[r] at N H M ⊢;have z:0<bk n↔0<m:=by
   generalize eh (bk n) (bk d)=g at*;rw[e];constructor;·grind
   ·intro h;exact εB b h
  rw[z];constructor
  ·intro h;by_cases e:m=0;·rw[e] at h;exact absurd h (by decide)
   ·omega
  ·intro h;by_cases T:(cF m).length=0<;>grind[cF,bk]
 have O:d.length≠0:=by
  intro h;rw[Γ h] at j;exact absurd j (by decide)
 unfold fO;rw[R7 D j,R];simp only;refine⟨λh=>absurd h (by omega),λ_=>⟨⟨⟨c,f⟩,by omega,by omega⟩,⟨⟨c,q⟩,by omega,b⟩,⟨⟨f,q⟩,by omega,b⟩,?_⟩⟩;have J:decide (0<((cF (bk n / eh (bk n) (bk d))).length:Int))=decide (0<bk n):=by
  simp_all
 refine⟨λh=>absurd h (by decide),λ_=>⟨λh=>absurd h (by decide),λ_=>⟨λx=>?_,λx=>?_⟩⟩⟩
 ·rw[x,J];rfl
 ·rw[x];rfl
def yd:bM:=⟨155,Bool×(List Int×List Int),.cons PG (.cons (dY (.i .u32)) (.one (dY (.i .u32)))),λa=>(bA a.2.1/\bA a.2.2)/\(a.2.1.length<=1000000000/\a.2.2.length<=1000000000)/\0<bk a.2.2,
 λa=>qN (fO a.1 (bk a.2.1) (bk a.2.2))⟩
theorem h126:Holds Tryz.prog yd:=by
 refine cJ (L:=[Au]) yd lk (by grind[h151]) ?_;rintro⟨s,n,d⟩ ⟨⟨h,g⟩,⟨a,c⟩,f⟩;simp only at h g a c f;refine bQ (let b:=bu (fO s (bk n) (bk d));let e:=γK [γG b.fst,γc (bn.i .u32) b.snd.fst,γc (bn.i .u32) b.snd.snd];((bA n/\bA d)/\(n.length<=1000000000/\d.length<=1000000000)/\(0:Int)<bk d)/\e.same e) (by kernel_rfl) ?_;simp_all[vcs]
def qO:bM:=⟨116,Int,.one (dU .i64),λn=> -9223372036854775808<=(show Int from n)/\(show Int from n)<=9223372036854775807,λn=>qN ((show Int from n):Rat)⟩
theorem h94:Holds Tryz.prog qO:=by
 refine cJ (L:=[Eh,yc,yd]) qO lk (by grind[h127,h128,h126]) ?_;intro(n:Int) h;obtain⟨o,p⟩: -9223372036854775808<=n/\n<=9223372036854775807:=h;refine bQ (let e:=γc;let g:=(1:Int);let h:=(0:Int);let c:=cF (↑n.natAbs:Int);let b:=cF g;let f:=bu (fO (decide (n<h)) (bk c) (bk b));let a:=bn.i .u32;let d:=bu (γa n);((-9223372036854775808:Int)<=n/\n<=(9223372036854775807:Int))/\(h<=g/\g<(18446744073709551616:Int))/\((bA c/\bA b)/\(c.length<=1000000000/\b.length<=1000000000)/\h<bk b)/\(γK [γG f.fst,e a f.snd.fst,e a f.snd.snd]).same (γK [γG d.fst,e a d.snd.fst,e a d.snd.snd])) (by kernel_rfl) ?_;conv=>zeta
 obtain⟨j,g,t⟩:=gl (show(0:Int)<=(n.natAbs:Int) by omega);obtain⟨l,m,s⟩:=gl (show(0:Int)<=1 by omega);have u:=mY (k:=2) (show(0:Int)<=(n.natAbs:Int) by omega) (by omega);have q:=mY (k:=1) (show(0:Int)<=1 by omega) (by decide);refine⟨⟨o,p⟩,⟨by omega,by omega⟩,⟨⟨g,m⟩,⟨by omega,by omega⟩,by omega⟩,?_⟩;have e:fO (decide (n<0)) (bk (cF (n.natAbs:Int))) (bk (cF 1))=γa n:=by
  rw[j,l];unfold fO;have r:(if decide (n<0)=true then -(n.natAbs:Int) else(n.natAbs:Int))=n:=by
   grind
  grind[Rat.mkRat_one]
 rw[e];rfl
def kM (q:Rat):Int:=if q<0 then -1 else if 0<q then 1 else 0
def uz:bM:=⟨161,bO,.one (eG sF),dc,λx=> .si .i64 (kM (ck x))⟩
theorem h99:Holds Tryz.prog uz:=by
 refine cJ (L:=[]) uz lk (by simp) ?_;intro(x:bO) h;obtain⟨q,k,rfl,m,f⟩:dc x:=h;refine bQ (let c:=γy .i64;let b:=decide ((↑(γp (bu q).snd.fst):Int)=(0:Int));let a:=γb .i64 (kM (ck (bu q)));(b=true->(c 0).same a)/\(b=false->((bu q).fst=true->(c (-1:Int)).same a)/\((bu q).fst=false->(c 1).same a))) (by kernel_rfl) ?_;simp only[vcs];rw[fe];have e:((bu q).2.1.length:Int)=0↔q.num=0:=by
  unfold bu;simp only;obtain⟨d,j,i⟩:=gl (show(0:Int)<=(q.num.natAbs:Int) by omega);constructor
  ·intro h;rw[Γ (by omega:(cF (q.num.natAbs:Int)).length=0)] at d;grind[bk]
  ·intro h;rw[h];rfl
 have c:(bu q).1=decide (q<0):=rfl;have n:=@Rat.num_nonneg q;have l:q<0↔q.num<0:=by
  grind
 have g:0<q↔0<q.num:=by
  grind[Rat.num_eq_zero]
 rw[e,c];simp only[decide_eq_true_eq,decide_eq_false_iff_not];unfold kM;grind
def vS (x:bO):Prop:=(bA x.2.1/\bA x.2.2)/\x.2.1.length<=100000000/\x.2.2.length<=100000000
def Ei:bM:=⟨158,bO×bO,.cons (eG sF) (.one (eG sF)),λa=>vS a.1/\vS a.2,λa=> .bH [.row (.i .u32) (cF (bk a.1.2.1*bk a.2.2.2)),.row (.i .u32) (cF (bk a.2.2.1*bk a.1.2.2))]⟩
theorem h131:Holds Tryz.prog Ei:=by
 refine cJ (L:=[yb]) Ei lk (by grind[h153]) ?_;rintro⟨⟨s,n,d⟩,⟨o,b,a⟩⟩ ⟨⟨⟨e,j⟩,g,f⟩,⟨⟨k,h⟩,l,m⟩⟩;simp only at e j g f k h l m;refine bQ (let c:=SV.bH [γc (bn.i .u32) (cF (bk n*bk a)),γc (bn.i .u32) (cF (bk b*bk d))];((bA n/\bA a)/\n.length<=100000000000/\a.length<=100000000000)/\((bA b/\bA d)/\b.length<=100000000000/\d.length<=100000000000)/\c.same c) (by kernel_rfl) ?_;simp only[vcs];grind
theorem Ej {p q:Rat} (h:p=q):(γK [.sb (bu p).1,.row (.i .u32) (bu p).2.1,.row (.i .u32) (bu p).2.2]).same (.agg [.sb (bu q).1,.row (.i .u32) (bu q).2.1,.row (.i .u32) (bu q).2.2]):=by subst h;rfl
theorem vT (q:Rat):q.num=if decide (q<0) then -(q.num.natAbs:Int) else(q.num.natAbs:Int):=by
 have a:=@Rat.num_nonneg q;grind
theorem nJ (q:Rat):(bu q).1=decide (q<0)/\(bA (bu q).2.1/\fN (bu q).2.1/\bk (bu q).2.1=(q.num.natAbs:Int))/\(bA (bu q).2.2/\fN (bu q).2.2/\bk (bu q).2.2=(q.den:Int)):=by
 obtain⟨f,e,d⟩:=gl (show(0:Int)<=(q.num.natAbs:Int) by omega);obtain⟨b,c,a⟩:=gl (show(0:Int)<=(q.den:Int) by omega);exact⟨rfl,⟨e,d,f⟩,⟨c,a,b⟩⟩
theorem qQ {q:Rat} {k:Nat} (h:Sz k q):(bu q).2.1.length<=k/\(bu q).2.2.length<=k:=
 ⟨mY (by omega) h.1,mY (by omega) h.2⟩
theorem acu (q:Rat):fO (!decide (q<0)) (q.num.natAbs:Int) (q.den:Int)= -q:=by
 unfold fO;have h:=vT q;have e:(if(!decide (q<0))=true then -(q.num.natAbs:Int) else(q.num.natAbs:Int))= -q.num:=by
  grind
 grind[δ3,Rat.neg_mkRat]
def ye:bM:=⟨164,bO,.one (eG sF),dc,λx=>qN (-(ck x))⟩
theorem h130:Holds Tryz.prog ye:=by
 refine cJ (L:=[yd]) ye lk (by grind[h126]) ?_;intro(x:bO) h;obtain⟨q,k,rfl,f,g⟩:dc x:=h;refine bQ (let f:=γc;let c:=(bu q).snd.fst;let a:=(bu q).snd.snd;let d:=bu (fO (!(bu q).fst) (bk c) (bk a));let b:=bn.i .u32;let e:=(bu (-ck (bu q))).snd;((bA c/\bA a)/\(γp c<=1000000000/\γp a<=1000000000)/\(0:Int)<bk a)/\(γK [γG d.fst,f b d.snd.fst,f b d.snd.snd]).same (γK [γG (bu (-ck (bu q))).fst,f b e.fst,f b e.snd])) (by kernel_rfl) ?_;conv=>zeta
 obtain⟨s,⟨r,p,u⟩,⟨o,l,n⟩⟩:=nJ q;obtain⟨j,m⟩:=qQ f;have t:=q.den_pos;grind[Ej,fe,acu]
theorem qR {a b:Int} {i j:Nat} (e:0<=a) (c:a<4294967296^i) (d:b<4294967296^j):a*b<4294967296^(i+j):=by
 rw[εf];exact εK (Δ (γm d) e) (γ2 c (pow_pos _))
theorem Sj {p q:Rat} {i j:Nat} (c:Sz i p) (b:Sz j q):∃X Y D:Int,bk (bu p).2.1*bk (bu q).2.2=X/\bk (bu q).2.1*bk (bu p).2.2=Y/\bk (bu p).2.2*bk (bu q).2.2=D/\0<=X/\0<=Y/\0<D/\
  (cF X).length<=i+j/\(cF Y).length<=i+j/\(cF (X+Y)).length<=i+j+1/\(cF (X - Y)).length<=i+j/\(cF (Y - X)).length<=i+j/\(cF D).length<=i+j/\p.num*q.den=(if decide (p<0) then -X else X)/\q.num*p.den=(if decide (q<0) then -Y else Y)/\((p.den*q.den:Nat):Int)=D:=by
 obtain⟨_,⟨_,_,l⟩,⟨_,_,r⟩⟩:=nJ p;obtain⟨_,⟨_,_,n⟩,⟨_,_,m⟩⟩:=nJ q;rw[l,r,n,m];have s:=p.den_pos;have t:=q.den_pos;have k:=qR (a:=(p.num.natAbs:Int)) (by omega) c.1 b.2;have d:=qR (a:=(q.num.natAbs:Int)) (by omega) b.1 c.2;rw[Nat.add_comm j i] at d;have o:=qR (a:=(p.den:Int)) (by omega) c.2 b.2;have f:0<=(p.num.natAbs:Int)*q.den:=γD (by omega) (by omega);have e:0<=(q.num.natAbs:Int)*p.den:=γD (by omega) (by omega);have g:0<(p.den:Int)*q.den:=εB (by omega) (by omega);have v:=vT p;have u:=vT q;refine⟨_,_,_,rfl,rfl,rfl,f,e,g,mY f k,mY e d,mY (by omega) ?_,?_,?_,mY (by omega) o,?_,?_,by push_cast;rfl⟩;·omega
 ·by_cases h:(p.num.natAbs:Int)*q.den - (q.num.natAbs:Int)*p.den<=0;·grind[JB]
  ·exact mY (by omega) (by omega)
 ·by_cases h:(q.num.natAbs:Int)*p.den - (p.num.natAbs:Int)*q.den<=0;·grind[JB]
  ·exact mY (by omega) (by omega)
 all_goals grind
theorem acv {p q:Rat} {s:Bool} {n D:Int} (a:((p.den*q.den:Nat):Int)=D) (h:p.num*q.den+q.num*p.den=if s then -n else n):fO s n D=p+q:=by
 rw[R9];grind[fO]
theorem Ek {p:Rat} {k:Nat} (h:Sz k p) (c:k<=100000000):vS (bu p):=by
 obtain⟨_,⟨a,_,_⟩,⟨b,_,_⟩⟩:=nJ p;have:=qQ h;exact⟨⟨a,b⟩,by omega,by omega⟩
def jf (p q:Rat):Int:=if p<q then -1 else if q<p then 1 else 0
def Av:bM:=⟨117,bO×bO,.cons (eG sF) (.one (eG sF)),λa=>dc a.1/\dc a.2,λa=> .si .i64 (jf (ck a.1) (ck a.2))⟩
theorem h97:Holds Tryz.prog Av:=by
 refine cJ (L:=[Ei,x6]) Av lk (by grind[h131,h132]) ?_;rintro⟨x,y⟩ ⟨⟨p,i,t,w,S⟩,⟨q,j,r,o,T⟩⟩;simp only at t r;subst t r;refine bQ (let a:=(bu p).fst;let g:=γb .i64 (jf (ck (bu p)) (ck (bu q)));let s:=λ(u:Bool) (c b:Rat) ↦let k:=cF (bk (bu c).snd.fst*bk (bu b).snd.snd);let l:=cF (bk (bu b).snd.fst*bk (bu c).snd.snd);a=u->((bA k/\bA l)/\k.length<=1000000000000/\l.length<=1000000000000)/\(γb .i64 (mq (bk k) (bk l))).same g;((!a==(bu q).fst)=true->(a=true->(γy .i64 (-1:Int)).same g)/\(a=false->(γy .i64 1).same g))/\((!a==(bu q).fst)=false->(vS (a,(bu p).snd.fst,(bu p).snd.snd)/\vS ((bu q).fst,(bu q).snd.fst,(bu q).snd.snd))/\s true q p/\s false p q)) (by kernel_rfl) ?_;conv=>zeta
 obtain⟨C,_,_⟩:=nJ p;obtain⟨P,_,_⟩:=nJ q;obtain⟨X,Y,D,E,M,hD,G,N,U,l1,l2,l3,l4,Z,V,B,A,W⟩:=Sj w o;obtain⟨J,v,c3⟩:=gl G;obtain⟨K,n,c6⟩:=gl N;simp only[fe,E,M,J,K,C,P];simp only[vcs];have hl:p<q↔p.num*q.den<q.num*p.den:=Rat.lt_iff p q;have R:q<p↔q.num*p.den<p.num*q.den:=Rat.lt_iff q p;have O:=@Rat.num_nonneg p;have H:=@Rat.num_nonneg q;have m:∀{z:Int},(z=if p.num*q.den<q.num*p.den then -1 else if q.num*p.den<p.num*q.den then 1 else 0)->z=jf p q:=λh=>by
  grind[jf]
 have Q:p<0->0<X:=λh=>by
  rw[if_pos (by simpa using h)] at B;have f:p.num<0:=by grind
  have:=εy f (show(0:Int)<q.den by grind);omega
 have F:q<0->0<Y:=λh=>by
  rw[if_pos (by simpa using h)] at A;have f:q.num<0:=by grind
  have:=εy f (show(0:Int)<p.den by grind);omega
 rw[B,A] at m;refine⟨λI=>⟨λd=>?_,λd=>?_⟩,λhe=>⟨⟨Ek w S,Ek o T⟩,λd=>⟨⟨⟨n,v⟩,by omega,by omega⟩,?_⟩,λd=>⟨⟨⟨v,n⟩,by omega,by omega⟩,?_⟩⟩⟩;·grind
 ·grind
 ·apply m;have e:q<0:=by
   grind
  simp only[decide_eq_true_eq,d,e,if_true,if_false];simp only[Int.neg_lt_neg_iff];rfl
 ·apply m;have e:¬q<0:=λe=>by grind
  simp only[decide_eq_true_eq,d,e,if_true,if_false];rfl
def Aw:bM:=⟨153,bO×bO,.cons (eG sF) (.one (eG sF)),λa=>dc a.1/\dc a.2,λa=>qN (ck a.1+ck a.2)⟩
theorem h129:Holds Tryz.prog Aw:=by
 refine cJ (L:=[Ei,yb,Ae,JC,yd]) Aw lk (by grind[h131,h153,h154,h155,h126]) ?_;rintro⟨x,y⟩ ⟨⟨p,i,J,w,S⟩,⟨q,j,E,B,hj⟩⟩;simp only at J E;subst J E;refine bQ (let h:=γc;let j:=γK;let m:=(bu q).snd.snd;let f:=cF (bk (bu p).snd.fst*bk m);let t:=(bu p).snd.snd;let k:=cF (bk (bu q).snd.fst*bk t);let a:=cF (bk t*bk m);let g:=bn.i .u32;let z:=bu (ck (bu p)+ck (bu q));let o:=j [γG z.fst,h g z.snd.fst,h g z.snd.snd];let v:=(bu p).fst==(bu q).fst;let c:=cF (bk f+bk k);let d:=bu (fO (bu p).fst (bk c) (bk a));let I:=(bA f/\bA k)/\f.length<=100000000000/\k.length<=100000000000;let K:=λ(u r:Rat) ↦let e:=cF (bk (cF (bk (bu u).snd.fst*bk (bu r).snd.snd)) - bk (cF (bk (bu r).snd.fst*bk (bu u).snd.snd)));let b:=bu (fO (bu u).fst (bk e) (bk a));((bA e/\bA a)/\(e.length<=1000000000/\a.length<=1000000000)/\(0:Int)<bk a)/\(j [γG b.fst,h g b.snd.fst,h g b.snd.snd]).same o;let F:=λ(u:Bool) ↦decide (bk k<=bk f)=u;(vS ((bu p).fst,(bu p).snd.fst,t)/\vS ((bu q).fst,(bu q).snd.fst,m))/\((bA t/\bA m)/\γp t<=100000000000/\γp m<=100000000000)/\(v=true->I/\((bA c/\bA a)/\(c.length<=1000000000/\a.length<=1000000000)/\(0:Int)<bk a)/\(j [γG d.fst,h g d.snd.fst,h g d.snd.snd]).same o)/\(v=false->I/\(F true->K p q)/\(F false->((bA k/\bA f)/\k.length<=100000000000/\f.length<=100000000000)/\K q p))) (by kernel_rfl) ?_;conv=>zeta
 obtain⟨O,⟨u1,_,_⟩,⟨u2,_,_⟩⟩:=nJ p;obtain⟨W,⟨u3,_,_⟩,⟨P,_,_⟩⟩:=nJ q;obtain⟨m1,m2⟩:=qQ w;obtain⟨m3,m4⟩:=qQ B;obtain⟨X,Y,D,T,Q,hD,U,R,C,l1,l2,l3,l4,l5,l6,n1,n2,n3⟩:=Sj w B;obtain⟨N,H,c3⟩:=gl U;obtain⟨c4,G,c6⟩:=gl R;obtain⟨c7,V,c9⟩:=gl (γm C);obtain⟨s1,M,s3⟩:=gl (show 0<=X+Y by omega);simp only[fe,T,Q,hD,N,c4,c7,s1,O,W];simp only[vcs];have l:∀{s:Bool} {n:Int},(p.num*q.den+q.num*p.den=if s then -n else n)->(γK [.sb (bu (fO s n D)).1,.row (.i .u32) (bu (fO s n D)).2.1,.row (.i .u32) (bu (fO s n D)).2.2]).same (.agg [.sb (bu (p+q)).1,.row (.i .u32) (bu (p+q)).2.1,.row (.i .u32) (bu (p+q)).2.2]):=
  λh=>Ej (acv n3 h);rw[n1,n2] at l;refine⟨⟨Ek w S,Ek B hj⟩,⟨⟨u2,P⟩,by omega,by omega⟩,λZ=>⟨⟨⟨H,G⟩,by omega,by omega⟩,⟨⟨M,V⟩,⟨by omega,by omega⟩,C⟩,l ?_⟩,λZ=>⟨⟨⟨H,G⟩,by omega,by omega⟩,λA=>?_,λA=>?_⟩⟩;all_goals grind[gl]
def Em:bM:=⟨163,bO×bO,.cons (eG sF) (.one (eG sF)),λa=>dc a.1/\dc a.2,λa=>qN (ck a.1 - ck a.2)⟩
theorem h95:Holds Tryz.prog Em:=by
 refine cJ (L:=[ye,Aw]) Em lk (by grind[h130,h129]) ?_;rintro⟨x,y⟩ ⟨⟨p,i,k,m,n⟩,⟨q,j,g,l,o⟩⟩;simp only at k g;subst k g;refine bQ (let g:=γc;let b:=((bu q).fst,(bu q).snd.fst,(bu q).snd.snd);let e:=((bu p).fst,(bu p).snd.fst,(bu p).snd.snd);let h:=(bu (-ck b)).snd;let f:=((bu (-ck b)).fst,h.fst,h.snd);let d:=bu (ck e+ck f);let a:=bn.i .u32;let c:=bu (ck (bu p) - ck (bu q));dc b/\(dc e/\dc f)/\(γK [γG d.fst,g a d.snd.fst,g a d.snd.snd]).same (γK [γG c.fst,g a c.snd.fst,g a c.snd.snd])) (by kernel_rfl) ?_;grind[dc,Ed,Ej,fe]
theorem JI {a:List Int} (h:bA a) (c:fN a) (b:a≠[]):0<bk a:=by
 have:=fc h;grind[val_zero]
def okF (x:bO):Bool:=decide (bu (ck x)=x)
theorem Sl {n d:Int} (h:0<d):0<eh n d:=by
 simp_all[eh]
theorem acw {s:Bool} {n d:List Int} (h:okF (s,(n,d))=true):fN n/\fN d/\d≠[]:=by
 have h:=of_decide_eq_true h;have b:=gl (show(0:Int)<=((ck (s,(n,d))).num.natAbs:Int) by omega);have a:=gl (show(0:Int)<=((ck (s,(n,d))).den:Int) by omega);have e:cF ((ck (s,(n,d))).num.natAbs:Int)=n:=congrArg (λx=>x.2.1) h;have c:cF ((ck (s,(n,d))).den:Int)=d:=congrArg (λx=>x.2.2) h;rw[e] at b;rw[c] at a;refine⟨b.2.2,a.2.2,λf=>?_⟩;have g:=a.1;rw[f] at g;have:=(ck (s,(n,d))).den_pos;grind[bk]
theorem okF_eq {s:Bool} {n d:List Int} (e:bA n) (m:bA d) (l:fN n) (p:fN d) (b:d≠[]):
  okF (s,(n,d))=if n=[] then !s&&decide (d=[1]) else decide (eh (bk n) (bk d)=1):=by
 have c:=JI m p b;have r:=fc e;have j:ck (s,(n,d))=mkRat (if s then -bk n else bk n) (bk d).toNat:=rfl;have o:=@R7 s (bk n) (bk d) r c;have u:=@Sl (bk n) (bk d) c;unfold okF;rw[j,o];by_cases a:n=[]
 ·rw[if_pos a,a];have i:eh (bk []) (bk d)=bk d:=by unfold eh;simp[bk];omega
  have k:cF (bk d / eh (bk []) (bk d))=[1]:=by rw[i,Int.ediv_self (by omega)];rfl
  have f:cF (bk [] / eh (bk []) (bk d))=[]:=by
   have:bk []=0:=rfl;rw[this,Int.zero_ediv];rfl
  rw[k,f];have v:decide (0<bk [])=false:=rfl;grind
 ·rw[if_neg a];have q:=JI e l a;rw[decide_eq_true (show 0<bk n from q),Bool.and_true];rw[ε3,decide_eq_true_eq,decide_eq_true_eq];constructor
  ·intro h;injection h with h1 h2;injection h2 with h2 h3;have g:=(gl (show 0<=bk d / eh (bk n) (bk d) from δ8 (by omega) (by omega))).1;rw[h3] at g;by_cases t:eh (bk n) (bk d)=1;·exact t
   ·have:=Int.ediv_lt_self_of_pos_of_ne_one c (by omega:eh (bk n) (bk d)≠1);omega
  grind[Ad]
end Go.Vi
