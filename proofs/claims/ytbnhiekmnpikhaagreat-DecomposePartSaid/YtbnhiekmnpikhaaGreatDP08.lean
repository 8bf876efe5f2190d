/-
  Contracts: natural numbers of any size: digit.
  Conditions: none.
-/
import Derived.Test.YtbnhiekmnpikhaaGreatDP06
import Derived.Test.YtbnhiekmnpikhaaGreatDP07
import Derived.Test.YtbnhiekmnpikhaaGreatProg
import Derived.Shelf.Sort.AssemblyIn
import Derived.Shelf.SlicesE.Clone
import Derived.Shelf.SlicesE.Delete
import Derived.Shelf.SlSortCmp.NoneTotal
import Derived.KernelRfl
import Derived.Sort.EveryDepth
import Derived.Sort.OwnSortedInts
import Derived.WalkKit
import Derived.Deep.LoopGhost
import Derived.Lib.Walk
import Derived.Lib.SliceRun
import Derived.Shelf.RegionOpenPlain
set_option maxRecDepth 100000
set_option maxHeartbeats 4000000
set_option linter.all false
open And renaming intro->γj
open Classical renaming not_not->γg
open Go.Vi.AV renaming sc->δe
open Go.Vi.AV.os renaming injEq->εx
open Go.Vi.AV.sc renaming injEq->δb
open Go.Vi.AV.sl renaming injEq->δ3
open Go.Vi.SV renaming g->γB,row->Ψ,si->γh,il->γx,ow->γZ,ptr->γO
open Int renaming mul_nonneg->γt,mul_le_mul->δE,sub_mul->ζP,one_mul->εw,pow_succ->γQ,mul_assoc->δj,mul_add->εv,mul_sub->εM,mul_zero->δF,add_zero->εg,mul_one->ε2
open List renaming map_cons->π,map_nil->γq,length->γc,take->Δ,length_take->γu,take_length->ψ,mergeSort_perm->δs,append_assoc->γU,take_append_drop->γL,pairwise_append->δW,cons_append->γG,drop->γ2,mem_of_mem_drop->γS,mem_of_mem_take->γm,nil_append->δJ,Pairwise->ζx,range->ω,range_succ->εd,mem_range->γy,replicate->δ,getElem?_cons_zero->δm,getElem?_map->γD,getElem?_eq_some_iff->ζ,map_append->γa
open List.Perm renaming refl->ζN
open List.cons renaming injEq->Γ
open Nat renaming le_refl->ξ,zero_le->δ2,lt_of_lt_of_le->γi
open Option renaming map_eq_some_iff->ε
open Option.some renaming injEq->γ
open Prod renaming ext->εC
namespace Go.Vi
open Go.Proofs.YtbnhiekmnpikhaaGreat.Ir
open Go.Proofs
structure nC where
 U:List Int
 j:Nat
 len:Nat
 n:Nat
 v:List Int
def nC.x (a:nC):Int:=bk (prt a.U a.j (a.v.length+1))
def nC.ok (a:nC):Prop:=(bA a.U/\bA a.v)/\(a.len=a.v.length+1/\a.n=a.U.length)/\(2<=a.v.length/\a.j+a.v.length+1<=a.U.length/\a.U.length<=200000000000)/\
 2147483648<=bj a.v (a.v.length - 1) 0/\a.x<4294967296*bk a.v
def nC.row (a:nC):List Int:=jr a.U a.j (ix (a.v.length+1) (a.x % bk a.v))
def IG:dH where
 f:=188;α:=nC;put a:=[.oc 0 a.j a.len a.n 1,.row (.i .u32) a.v];st a:=[.row (.i .u32) a.U 172 false];dec v o:=match v,o with
  |[.oc 0 j len n 1,v],[.row t l 172 false]=>match jG (.i .u32) v,iG t (.i .u32) l with
   |some v,some l=>some ⟨l,j,len,n,v⟩
   |_,_=>none
  |_,_=>none;ok v o a h:=by
  split at h
  ·split at h
   ·rename_i h1 h2;simp only[γ] at h;subst h;obtain⟨rfl,hh⟩:=mG h2;cases hh;exact⟨by simp only[gL,oZ h1],rfl⟩
   ·cases h
  ·cases h
 inj a b h1 h2:=by
  obtain⟨U,j,len,n,v⟩:=a;obtain⟨U',j',len',n',v'⟩:=b;simp only[gL,Γ,and_true] at h1;obtain⟨g1,g2⟩:=h1;have e2:=(dF (.i .u32)).inj _ _ g2;simp only[γB,εx,true_and,bp.sz,Nat.mul_one] at g1;simp only[gO,π,γq,bq.g,Γ,bR.cells.injEq,and_true] at h2;have hl:U=U':=by
   have hf:=congrArg γc h2;rw[eY,eY] at hf;exact lz (.i .u32) (by simpa[bp.sz] using hf) h2
  obtain⟨q1,q2,q3⟩:=g1;subst q3;have:j=j':=by omega
  rw[e2,hl,q2,this]
 dom:=nC.ok;res a:=.si .u32 (a.x / bk a.v);out a:=[.row (.i .u32) a.row 172 false]
def II (U:List Int):bZ:=[.row (.i .u32) U 172 false]
def aa9 (a:nC):Nat->cE
 |4=> .inv (Int×Int) (λx=>⟨[(0,.oc 0 a.j a.len a.n 1),(1,.row (.i .u32) a.v),(5,.si .i64 a.v.length),(7,.si .u64 x.1),(8,.si .u64 x.2)],II a.U⟩) (λs=>(iS s 7,iS s 8))
  (λx=>(0<=x.1/\x.1<=4294967297)/\(0<=x.2/\x.2<4294967296)/\x.1*bj a.v (a.v.length - 1) 0+x.2=bj a.U (a.j+(a.v.length - 1)) 0+4294967296*bj a.U (a.j+a.v.length) 0/\a.x<(x.1+1)*bk a.v) (λx=>x.1.toNat) λ_ _=> .look
 |10=> .inv (Int×Int×Int×Int×List Int) (λx=>⟨[(0,.oc 0 a.j a.len a.n 1),(1,.row (.i .u32) a.v),(5,.si .i64 a.v.length),(7,.si .u64 x.2.1),(9,.si .u64 x.2.2.1),(10,.si .u64 x.2.2.2.1),(82,.si .i64 a.v.length),(83,.si .i64 x.1)],II x.2.2.2.2⟩)
  (λs=>(iS s 83,iS s 7,iS s 9,iS s 10,oS (.i .u32) s 0))
  (λx=>(0<=x.1/\x.1<=a.v.length)/\(0<=x.2.1/\x.2.1<4294967296)/\(a.x<(x.2.1+1)*bk a.v/\x.2.1*bk a.v<a.x+bk a.v)/\(0<=x.2.2.1/\x.2.2.1<4294967296)/\(0<=x.2.2.2.1/\x.2.2.2.1<=1)/\(bA x.2.2.2.2/\x.2.2.2.2.length=a.U.length)/\
   (∀m,(m<a.j\/a.j+x.1.toNat<=m)->bj x.2.2.2.2 m 0=bj a.U m 0)/\
   bk (prt x.2.2.2.2 a.j x.1.toNat)=bk (prt a.U a.j x.1.toNat) - x.2.1*bk (a.v.take x.1.toNat)+4294967296^x.1.toNat*(x.2.2.1+x.2.2.2.1)) (λx=>(a.v.length - x.1).toNat) λ_ _=> .look
 |23=> .inv (Int×Int×Int×List Int) (λx=>⟨[(0,.oc 0 a.j a.len a.n 1),(1,.row (.i .u32) a.v),(5,.si .i64 a.v.length),(7,.si .u64 x.2.1),(9,.si .u64 x.2.2.1),(134,.si .i64 a.v.length),(135,.si .i64 x.1)],II x.2.2.2⟩)
  (λs=>(iS s 135,iS s 7,iS s 9,oS (.i .u32) s 0))
  (λx=>(0<=x.1/\x.1<=a.v.length)/\(0<=x.2.1/\x.2.1<4294967296)/\(a.x<x.2.1*bk a.v/\x.2.1*bk a.v<a.x+bk a.v)/\(0<=x.2.2.1/\x.2.2.1<=1)/\(bA x.2.2.2/\x.2.2.2.length=a.U.length)/\
   ∃W,(bA W/\W.length=a.U.length)/\(∀m,(m<a.j\/a.j+(a.v.length+1)<=m)->bj W m 0=bj a.U m 0)/\bk (prt W a.j (a.v.length+1))=a.x - x.2.1*bk a.v+4294967296^(a.v.length+1)/\
    (∀m,(m<a.j\/a.j+x.1.toNat<=m)->bj x.2.2.2 m 0=bj W m 0)/\bk (prt x.2.2.2 a.j x.1.toNat)+4294967296^x.1.toNat*x.2.2.1=bk (prt W a.j x.1.toNat)+bk (a.v.take x.1.toNat))
  (λx=>(a.v.length - x.1).toNat) λ_ _=> .look
 |_=> .look
theorem h169:ec Tryz.prog IG:=by
 refine lA (L:=[]) (W:=[]) IG aa9 (by simp) (by simp) ?_;rintro⟨U,j,len,n,v⟩ ⟨⟨hU,hv⟩,⟨e1,e2⟩,⟨hn,hj,hlU⟩,hv1,hx⟩;simp only at hU hv hn hj hlU hv1 hx e1 e2;subst e1 e2;refine bO (let a:=(18446744073709551616:Int);let b:=(0:Int);let c:=(4294967296:Int);let d:=(1:Int);let e:=Ψ;let f:=γh .i64;let g:=(32:Int);let h:=cq .i64;let k:=(9223372036854775808:Int);let l:=(4294967297:Int);let n:=(64:Int);let o:=bq.row;let p:=γx .i64 0;let q:=(63:Int);let r:=γx .i64;let D:=(↑v.length:Int);let y:=v.length+1;let F:=(↑y:Int);let B:=D - d;let Q:=bj v B.toNat b % a;let a7:=gX.nW .u64 (bj U (j+D.toNat) 0 % a*c % a) (bj U (j+B.toNat) 0 % a);let K:=a7.tdiv Q;let C:=SV.oc 0 j y U.length 1;let w:=bp.i .u32;let s:=(↑v.length:Int);let t:=f s;let a8:=γh .u64 K;let R:=a7.tmod Q;let a9:=γh .u64 R;let J:=o w U 172 false;let aa:=v.length - 1;let a3:=bj v aa b;let a4:=bj U (j+aa) 0+c*bj U (j+v.length) 0;let ab:=nC.mk U j y U.length v;let E:=ab.x;let L:=s - d;let aJ:=bj v L.toNat b % a;let M:=E+bk v;let S:=bk (prt U j 0);let I:=j+s.toNat;let ac:=γh .u32 (E / bk v);let ad:=o w ab.row 172 false;let ae:=c^y;let H:=s - (2:Int);U.length=U.length/\b<=D/\D<F/\j+y<=U.length/\U.length=U.length/\j+D.toNat<U.length/\b<=g/\g<=n/\h B/\U.length=U.length/\b<=B/\B<F/\j+y<=U.length/\U.length=U.length/\j+B.toNat<U.length/\h B/\b<=B/\B<D/\B.toNat<v.length/\Q≠b/\cq .u64 K/\h B/\b<=B/\B<D/\B.toNat<v.length/\Q≠b/\(((C.same C/\(e w v).same (e w v)/\(f D).same t/\a8.same a8/\a9.same a9/\True)/\J.same J/\True)/\(b<=K/\K<=l)/\(b<=R/\R<c)/\K*a3+R=a4/\E<(K+d)*bk v)/\∀(x:Int×Int),let N:=(x.snd+aJ) % a;let af:=decide (c<=N);let G:=(x.fst - d) % a;let T:=γh .u64 G;let ag:=γh .u64 N;let ah:=decide (c<=x.fst);let ai:=γh .u64 x.fst;let aj:=∀(x:Int×Int×Int×Int×List Int),let V:=x.snd.fst*bk v;let z:=x.snd.snd.snd.snd;let X:=x.snd.snd.snd.fst;let Y:=x.snd.snd.fst;let ak:=((bj z I b % a - Y) % a - X) % a;let O:=j+x.fst.toNat;let Z:=x.fst+d;let a0:=γh .u64 x.snd.fst;let al:=(x.snd.fst*(bj v x.fst.toNat b % a) % a+Y) % a;let am:=al / c;let an:=γh .u64 am;let ao:=gX.vy .u64 al (4294967295:Int);let ap:=((bj z O b % a - ao) % a - X) % a;let aq:=ap / k;let ar:=γh .u64 aq;let au:=f Z;let P:=z.set I (ak % c);let av:=λ(u u_1 u_2:Int) (u_3:List Int) ↦(b<=u/\u<=s)/\(b<=x.snd.fst/\x.snd.fst<c)/\(E<(x.snd.fst+d)*bk v/\V<M)/\(b<=u_1/\u_1<c)/\(b<=u_2/\u_2<=d)/\(bA u_3/\u_3.length=U.length)/\(∀(m:Nat),m<j\/j+u.toNat<=m->bj u_3 m b=bj U m b)/\bk (prt u_3 j u.toNat)=bk (prt U j u.toNat) - x.snd.fst*bk (Δ u.toNat v)+c^u.toNat*(u_1+u_2);let aw:=λ(u:Nat) (u_1:Int) ↦let ax:=o w (z.set u (((bj z u b % a - u_1) % a - X) % a % c)) 172 false;ax.same ax/\True;let ay:=λ(u:Bool) ↦decide (ak / k=b)=u;av x.fst Y X z->(decide (x.fst<s)=true->b<=x.fst/\x.fst<D/\x.fst.toNat<v.length/\b<=g/\g<=n/\U.length=z.length/\b<=x.fst/\x.fst<F/\j+y<=U.length/\U.length=z.length/\O<z.length/\b<=q/\q<=n/\U.length=z.length/\b<=x.fst/\x.fst<F/\j+y<=U.length/\U.length=z.length/\O<z.length/\h Z/\((C.same C/\(e w v).same (e w v)/\t.same t/\a0.same a0/\an.same an/\ar.same ar/\t.same t/\au.same au/\True)/\aw O ao)/\av Z am aq (z.set O (ap % c))/\(s - Z).toNat<(s - x.fst).toNat)/\(decide (x.fst<s)=false->U.length=z.length/\b<=s/\s<F/\j+y<=U.length/\U.length=z.length/\I<z.length/\U.length=z.length/\b<=s/\s<F/\j+y<=U.length/\U.length=z.length/\I<z.length/\b<=q/\q<=n/\(ay true->(γh .u32 (x.snd.fst % c)).same ac/\(o w P 172 false).same ad/\True)/\(ay false->(((C.same C/\(e w v).same (e w v)/\t.same t/\a0.same a0/\(γx .u64 0).same (γh .u64 0)/\t.same t/\(p).same (f 0)/\True)/\aw I Y)/\(b<=b/\b<=s)/\(b<=x.snd.fst/\x.snd.fst<c)/\(E<V/\V<M)/\(b<=b/\b<=d)/\(bA P/\P.length=U.length)/\∃(W:List Int),(bA W/\W.length=U.length)/\(∀(m:Nat),m<j\/j+y<=m->bj W m b=bj U m b)/\bk (prt W j y)=E - V+ae/\(∀(m:Nat),m<j\/j+0<=m->bj P m b=bj W m b)/\bk (prt P j 0)+b=bk (prt W j 0)+bk [])/\∀(x:Int×Int×Int×List Int),let a5:=x.snd.fst*bk v;let a6:=x.snd.snd.fst;let A:=x.snd.snd.snd;let a1:=j+x.fst.toNat;let a2:=x.fst+d;let az:=γh .u64 x.snd.fst;let aA:=((bj A a1 b % a+bj v x.fst.toNat b % a) % a+a6) % a;let aB:=aA / c;let aC:=γh .u64 aB;let aD:=f a2;let aE:=A.set a1 (aA % c);let aF:=o w aE 172 false;let aG:=λ(u u_1:Int) (u_2:List Int) ↦(b<=u/\u<=s)/\(b<=x.snd.fst/\x.snd.fst<c)/\(E<a5/\a5<M)/\(b<=u_1/\u_1<=d)/\(bA u_2/\u_2.length=U.length)/\∃(W:List Int),(bA W/\W.length=U.length)/\(∀(m:Nat),m<j\/j+y<=m->bj W m b=bj U m b)/\bk (prt W j y)=E - a5+ae/\(∀(m:Nat),m<j\/j+u.toNat<=m->bj u_2 m b=bj W m b)/\bk (prt u_2 j u.toNat)+c^u.toNat*u_1=bk (prt W j u.toNat)+bk (Δ u.toNat v);aG x.fst a6 A->(decide (x.fst<s)=true->U.length=A.length/\b<=x.fst/\x.fst<F/\j+y<=U.length/\U.length=A.length/\a1<A.length/\b<=x.fst/\x.fst<D/\x.fst.toNat<v.length/\b<=g/\g<=n/\U.length=A.length/\b<=x.fst/\x.fst<F/\j+y<=U.length/\U.length=A.length/\a1<A.length/\h a2/\((C.same C/\(e w v).same (e w v)/\t.same t/\az.same az/\aC.same aC/\t.same t/\aD.same aD/\True)/\aF.same aF/\True)/\aG a2 aB aE/\(s - a2).toNat<(s - x.fst).toNat)/\(decide (x.fst<s)=false->U.length=A.length/\b<=s/\s<F/\j+y<=U.length/\U.length=A.length/\I<A.length/\U.length=A.length/\b<=s/\s<F/\j+y<=U.length/\U.length=A.length/\I<A.length/\(γh .u32 ((x.snd.fst - d) % a % c)).same ac/\(o w (A.set I ((bj A I b+a6 % c) % c)) 172 false).same ad/\True)));let aH:=h L/\b<=L/\L<D/\L.toNat<v.length/\(af=true->(((C.same C/\(e w v).same (e w v)/\t.same t/\T.same T/\(γx .u64 0).same (γh .u64 0)/\(γx .u64 0).same (γh .u64 0)/\t.same t/\(p).same (f 0)/\True)/\J.same J/\True)/\(b<=b/\b<=s)/\(b<=G/\G<c)/\(E<(G+d)*bk v/\G*bk v<M)/\(b<=b/\b<c)/\(b<=b/\b<=d)/\(bA U/\U.length=U.length)/\(∀(m:Nat),m<j\/j+0<=m->bj U m b=bj U m b)/\S=S - G*bk []+b)/\aj)/\(af=false->((C.same C/\(e w v).same (e w v)/\t.same t/\T.same T/\ag.same ag/\True)/\J.same J/\True)/\((b<=G/\G<=l)/\(b<=N/\N<c)/\G*a3+N=a4/\E<(G+d)*bk v)/\G.toNat<x.fst.toNat);let aI:=λ(u:Bool) ↦decide (gX.nW .u64 (x.snd*c % a) (bj U (j+H.toNat) 0 % a)<x.fst*(bj v H.toNat b % a) % a)=u;(b<=x.fst/\x.fst<=l)/\(b<=x.snd/\x.snd<c)/\x.fst*a3+x.snd=a4/\E<(x.fst+d)*bk v->(ah=true->aH)/\(ah=false->h H/\b<=H/\H<D/\H.toNat<v.length/\b<=g/\g<=n/\h H/\U.length=U.length/\b<=H/\H<F/\j+y<=U.length/\U.length=U.length/\j+H.toNat<U.length/\(aI true->aH)/\(aI false->(((C.same C/\(e w v).same (e w v)/\t.same t/\ai.same ai/\(γx .u64 0).same (γh .u64 0)/\(γx .u64 0).same (γh .u64 0)/\t.same t/\(p).same (f 0)/\True)/\J.same J/\True)/\(b<=b/\b<=s)/\(b<=x.fst/\x.fst<c)/\(E<(x.fst+d)*bk v/\x.fst*bk v<M)/\(b<=b/\b<c)/\(b<=b/\b<=d)/\(bA U/\U.length=U.length)/\(∀(m:Nat),m<j\/j+0<=m->bj U m b=bj U m b)/\S=S - x.fst*bk []+b)/\aj))) (by kernel_rfl) ?_;simp only[vcs];have t1:((v.length:Int) - 1).toNat=v.length - 1:=by omega
 have t2:((v.length:Int) - 2).toNat=v.length - 2:=by omega
 have t3:((v.length:Int)).toNat=v.length:=by omega
 have xW:=aa6 hn rfl;have xX:=@aa7 U j v.length hn;have dv1:=ek hv (v.length - 1);have vU:=ek hv (v.length - 2);have Q5:=ek hU (j+v.length);have IJ:=ek hU (j+(v.length - 1));have DK:=ek hU (j+(v.length - 2));have m1:bj v (v.length - 1) 0 % 18446744073709551616=bj v (v.length - 1) 0:=by omega
 have m2:bj v (v.length - 2) 0 % 18446744073709551616=bj v (v.length - 2) 0:=by omega
 have m3:bj U (j+v.length) 0 % 18446744073709551616=bj U (j+v.length) 0:=by omega
 have m4:bj U (j+(v.length - 1)) 0 % 18446744073709551616=bj U (j+(v.length - 1)) 0:=by omega
 have m5:bj U (j+(v.length - 2)) 0 % 18446744073709551616=bj U (j+(v.length - 2)) 0:=by omega
 have m6:bj U (j+v.length) 0*4294967296 % 18446744073709551616=bj U (j+v.length) 0*4294967296:=by omega
 have hor:=Is Q5.1 Q5.2 IJ.1 IJ.2;have htop:0<=bj U (j+v.length) 0*4294967296+bj U (j+(v.length - 1)) 0:=by omega
 have hx':bk (prt U j (v.length+1))<4294967296*bk v:=hx;have hP:=pow_pos (v.length - 2);have Aj:=fi (nz hv (v.length - 2));have Ak:=ot (nz hv (v.length - 2));rw[γu,Nat.min_eq_left (by omega)] at Ak;have oV:=fi (uk hU (j:=j) (k:=v.length - 2));have IK:=vS hU (j:=j) (k:=v.length - 2);have hV0:=fi hv;have hX0:=fi (uk hU (j:=j) (k:=v.length+1));have htp:=aa5 hP xW xX Ak oV DK.1 IJ.1 vU.2 hx';have hax:(nC.mk U j (v.length+1) U.length v).x=bk (prt U j (v.length+1)):=rfl;simp only[hax,t1,t2,t3,m1,m2,m3,m4,m5,m6,hor,Int.tdiv_eq_ediv_of_nonneg htop,Int.tmod_eq_emod_of_nonneg htop];generalize abe:bj v (v.length - 1) 0=v1 at*;generalize abf:bj v (v.length - 2) 0=v2 at*;generalize ah2:bj U (j+v.length) 0=u0 at*;generalize abg:bj U (j+(v.length - 1)) 0=u1 at*;generalize abh:bj U (j+(v.length - 2)) 0=u2 at*;have hqr:=Int.mul_ediv_add_emod (u0*4294967296+u1) v1;have hr0:=Int.emod_nonneg (u0*4294967296+u1) (show v1≠0 by omega);have hr1:=Int.emod_lt_of_pos (u0*4294967296+u1) (show 0<v1 by omega);have hg0:0<=(u0*4294967296+u1) / v1:=Int.ediv_nonneg htop (by omega);generalize hge:(u0*4294967296+u1) / v1=g0 at*;generalize hre:(u0*4294967296+u1) % v1=r0 at*;have hg1:g0<=4294967297:=by
  by_cases h:g0<=4294967297;·exact h
  ·exfalso;have:=Int.mul_le_mul_of_nonneg_left (show(4294967298:Int)<=g0 by omega) (show 0<=v1 by omega);omega
 have Q6:g0*v1+r0=u1+4294967296*u0:=by rw[Int.mul_comm g0];omega
 have hst:=aa4 hP xW xX Aj IK vU.1 DK.2 hg0 Q6 hr1;have hin:cq .u64 g0:=u64_in hg0 (by omega);repeat refine γj (by omega) ?_
 clear t1 t2 t3 m1 m2 m3 m4 m5 m6 hor htop hge hre hqr hr0 hr1 hg0 hg1 Q6 hst hin abe abf abg abh hx;rintro⟨g,r⟩ ⟨⟨g0',g1'⟩,⟨r0',r1'⟩,hgr,hgx⟩;simp only at g0' g1' r0' r1' hgr hgx ⊢;have DL:0<g+1:=by omega
 have e1:(r+v1) % 18446744073709551616=r+v1:=by omega
 have e2:r*4294967296 % 18446744073709551616=r*4294967296:=by omega
 have gv0:0<=g*v2:=γt g0' vU.1;have gv1:g*v2<=4294967297*4294967295:=δE (by omega) (by omega) vU.1 (by omega);have e3:g*v2 % 18446744073709551616=g*v2:=by omega
 have hor2:=Is r0' r1' DK.1 DK.2;have IL:g*v1+r=u1+4294967296*u0:=hgr;have Q7:4294967296<=r+v1->g<=4294967296:=λh=>by
  by_cases hg:g<=4294967296;·exact hg
  ·have:g=4294967297:=by omega
   subst this;omega
 have dec:(4294967296<=g\/r*4294967296+u2<g*v2)->(bk (prt U j (v.length+1))<g*bk v/\(g - 1) % 18446744073709551616=g - 1/\0<=g - 1/\(g - 1)*v1+(r+v1)=u1+4294967296*u0):=λh=>by
  have h1:=aa3 hP xW xX Aj IK hx' hV0 g0' IL h;have h2:g≠0:=by
   rintro rfl;omega
  refine⟨h1,by omega,by omega,?_⟩;rw[ζP,εw];omega
 simp only[e1,e2,e3,hor2];have brk:(4294967296<=g\/r*4294967296+u2<g*v2)->4294967296<=r+v1->∃gg,gg=(g - 1) % 18446744073709551616/\(0<=gg/\gg<4294967296)/\bk (prt U j (v.length+1))<(gg+1)*bk v/\gg*bk v<bk (prt U j (v.length+1))+bk v:=λh hb=>by
  obtain⟨k1,k2,k3,k4⟩:=dec h;have k5:=Q7 hb;rw[k2];refine⟨_,rfl,by omega,by rw[show g - 1+1=g by omega];exact k1,Q0 hP xW xX Aj Ak oV hv1 vU.1 k3 (by omega) k4 ?_⟩;have:=δE (show g - 1<=4294967295 by omega) (show v2<=4294967295 by omega) vU.1 (by omega);omega
 have Am:(4294967296<=g\/r*4294967296+u2<g*v2)->¬4294967296<=r+v1->(0<=(g - 1) % 18446744073709551616/\(g - 1) % 18446744073709551616<=4294967297)/\(g - 1) % 18446744073709551616*v1+(r+v1)=u1+4294967296*u0/\bk (prt U j (v.length+1))<((g - 1) % 18446744073709551616+1)*bk v/\((g - 1) % 18446744073709551616).toNat<g.toNat:=λh hb=>by
  obtain⟨k1,k2,k3,k4⟩:=dec h;rw[k2];exact⟨by omega,k4,by rw[show g - 1+1=g by omega];exact k1,by omega⟩
 have ext:¬4294967296<=g->¬r*4294967296+u2<g*v2->∃gg,gg=g/\(0<=gg/\gg<4294967296)/\bk (prt U j (v.length+1))<(gg+1)*bk v/\gg*bk v<bk (prt U j (v.length+1))+bk v:=λh h2=>
  ⟨_,rfl,by omega,hgx,Q0 hP xW xX Aj Ak oV hv1 vU.1 g0' (by omega) IL (by omega)⟩;clear IL DL e1 e2 e3 gv0 gv1 hor2 xW xX Aj Ak oV IK Q7 dec htp;refine⟨λhB=>?_,λhB=>?_⟩
 ·refine⟨by omega,by omega,by omega,by omega,?_⟩;refine⟨λhb=>?_,λhb=>?_⟩
  ·obtain⟨gg,hgg,f0,f2,f3⟩:=brk (.inl hB) hb;rw[<-hgg];clear hB hb;clear hgg brk Am ext hgx hgr;refine⟨?_,?_⟩
   ·repeat' refine γj ?_ ?_
    all_goals first|omega|exact hU|exact f2|exact f3|exact λ_ _=>trivial|(simp only[bk];omega)
   clear f0 f2 f3;rintro⟨i,ga,c,b,R⟩ ⟨⟨i0,i1⟩,⟨ou,qA⟩,⟨f2,f3⟩,⟨c0,c1⟩,⟨b0,b1⟩,⟨hR,hRl⟩,ho,he⟩;simp only at i0 i1 ou qA f2 f3 c0 c1 b0 b1 hR hRl ho he ⊢;refine⟨λlY=>?_,λnA=>?_⟩
   ·have x:=ek hv i.toNat;have y:=ek hR (j+i.toNat);have Q8:0<=ga*bj v i.toNat 0:=γt ou x.1;have Q9:ga*bj v i.toNat 0<=4294967295*4294967295:=δE (by omega) (by omega) x.1 (by omega);have q1:bj v i.toNat 0 % 18446744073709551616=bj v i.toNat 0:=by omega
    have q2:bj R (j+i.toNat) 0 % 18446744073709551616=bj R (j+i.toNat) 0:=by omega
    have q3:(ga*bj v i.toNat 0 % 18446744073709551616+c) % 18446744073709551616=ga*bj v i.toNat 0+c:=by omega
    have hi1:(i+1).toNat=i.toNat+1:=by omega
    rw[q1,q2,q3,IB (by omega) (by omega),hi1];generalize hq:((bj R (j+i.toNat) 0 - (ga*bj v i.toNat 0+c) % 4294967296) % 18446744073709551616 - b) % 18446744073709551616=q;obtain⟨k1,k2,k3,k4,k5⟩:=IC (d:=q % 4294967296) (e:=q / 9223372036854775808) hR hRl hv ou qA c0 c1 b0 b1 (show j+i.toNat<U.length by omega) ho he (by omega) (by omega);repeat' refine γj ?_ ?_
    all_goals first|omega|exact k1|exact k2|exact k3|exact k4|exact k5|exact f2|exact f3
   ·have hi:i.toNat=v.length:=by omega
    rw[hi,ψ] at he;rw[hi] at ho;have hun:=ho (j+v.length) (.inr (ξ _));have du:=ek hU (j+v.length);have q2:bj R (j+v.length) 0 % 18446744073709551616=bj R (j+v.length) 0:=by rw[hun];omega
    have qB:=@l8 U j v.length;rw[q2];generalize hq:((bj R (j+v.length) 0 - c) % 18446744073709551616 - b) % 18446744073709551616=q;have kJ:bA (R.set (j+v.length) (q % 4294967296)):=nB hR (by omega) (by omega);have hlen:(R.set (j+v.length) (q % 4294967296)).length=U.length:=by simp[hRl]
    have hout:∀m,(m<j\/j+(v.length+1)<=m)->bj (R.set (j+v.length) (q % 4294967296)) m 0=bj U m 0:=λm hm=>by rw[pO (by omega)];exact ho m (by omega)
    have hval:bk (prt (R.set (j+v.length) (q % 4294967296)) j (v.length+1))=bk (prt U j (v.length+1)) - ga*bk v+4294967296^(v.length+1)*(q / 9223372036854775808):=by
     rw[l8,uj (ξ _),sN (by omega),he,qB,γQ];have hd:q % 4294967296 - 4294967296*(q / 9223372036854775808)=bj U (j+v.length) 0 - c - b:=by rw[hun] at hq;omega
     generalize (4294967296:Int)^v.length=B;have e:B*4294967296*(q / 9223372036854775808)=B*(q % 4294967296+c+b - bj U (j+v.length) 0):=by rw[δj];congr 1;omega
     rw[e];simp only[εv,εM];omega
    generalize hW:R.set (j+v.length) (q % 4294967296)=W at*;have hbd:=vS kJ (j:=j) (k:=v.length+1);have hnn:=fi (uk kJ (j:=j) (k:=v.length+1));have q3:0<=q/\q<18446744073709551616:=by omega
    clear hq hun du q2 he ho hR;repeat refine γj (by omega) ?_
    refine⟨λhz=>?_,λhz=>?_⟩
    ·rw[hz,δF,εg] at hval;obtain⟨w1,w2⟩:=vT (q:=ga) (show ga*bk v<=bk (prt U j (v.length+1)) by omega) f2;refine⟨by rw[w1];omega,?_⟩;have hfin:W=jr U j (ix (v.length+1) (bk (prt U j (v.length+1)) % bk v)):=xU kJ hlen (by omega) hout (by rw[hval,w2]);rw[hfin];rfl
    ·have hq1:q / 9223372036854775808=1:=by omega
     rw[hq1,ε2] at hval;have f4:bk (prt U j (v.length+1))<ga*bk v:=by omega
     refine⟨?_,?_⟩
     ·repeat' refine γj ?_ ?_
      all_goals first|omega|exact kJ|exact hlen|exact⟨W,⟨kJ,hlen⟩,hout,hval,λ_ _=>rfl,by simp only[bk]⟩
     clear kJ hlen hout hval hW hbd hnn q3 hz hq1 f4 f2 f3 c0 c1 b0 b1 i0 i1 ou qA;rintro⟨i2,gb,c2,R2⟩ ⟨⟨i0,i1⟩,⟨An,Ao⟩,⟨f5,f6⟩,⟨c0,c1⟩,⟨hR2,qC⟩,W2,⟨hW2,um⟩,ho2,uo,ho3,qD⟩;simp only at i0 i1 An Ao f5 f6 c0 c1 hR2 qC ho3 qD ⊢;refine⟨λlY=>?_,λnA=>?_⟩
     ·have x:=ek hv i2.toNat;have y:=ek hR2 (j+i2.toNat);have hi1:(i2+1).toNat=i2.toNat+1:=by omega
      rw[hi1];have hs:((bj R2 (j+i2.toNat) 0 % 18446744073709551616+bj v i2.toNat 0 % 18446744073709551616) % 18446744073709551616+c2) % 18446744073709551616=bj R2 (j+i2.toNat) 0+bj v i2.toNat 0+c2:=by omega
      rw[hs];obtain⟨k1,k2,k3,k4,k5⟩:=IE hR2 (qC.trans um.symm) hv c0 c1 (show j+i2.toNat<W2.length by omega) hW2 ho3 qD rfl;repeat' refine γj ?_ ?_
      all_goals first|omega|exact k1|exact f5|exact f6|exact⟨W2,⟨hW2,um⟩,ho2,uo,k4,k5⟩
     ·have hi2:i2.toNat=v.length:=by omega
      rw[hi2,ψ] at qD;rw[hi2] at ho3;have hun:=ho3 (j+v.length) (.inr (ξ _));have du:=ek hW2 (j+v.length);have qB:=@l8 W2 j v.length;have hc2:c2 % 4294967296=c2:=by omega
      rw[hc2,hun];have hF:bA (R2.set (j+v.length) ((bj W2 (j+v.length) 0+c2) % 4294967296)):=nB hR2 (by omega) (by omega);have Ap:(R2.set (j+v.length) ((bj W2 (j+v.length) 0+c2) % 4294967296)).length=U.length:=by simp[qC]
      have Aq:∀m,(m<j\/j+(v.length+1)<=m)->bj (R2.set (j+v.length) ((bj W2 (j+v.length) 0+c2) % 4294967296)) m 0=bj U m 0:=λm hm=>by rw[pO (by omega),ho3 m (by omega)];exact ho2 m hm
      have qE:bk (prt (R2.set (j+v.length) ((bj W2 (j+v.length) 0+c2) % 4294967296)) j (v.length+1))=bk (prt U j (v.length+1)) - gb*bk v+4294967296^(v.length+1)+bk v - 4294967296^(v.length+1)*((bj W2 (j+v.length) 0+c2) / 4294967296):=by
       rw[l8,uj (ξ _),sN (by omega),<-uo,qB,γQ];generalize (4294967296:Int)^v.length=B at*;have e:B*4294967296*((bj W2 (j+v.length) 0+c2) / 4294967296)=B*(bj W2 (j+v.length) 0+c2 - (bj W2 (j+v.length) 0+c2) % 4294967296):=by rw[δj];congr 1;omega
       rw[e];simp only[εv,εM];omega
      have hbd:=vS hF (j:=j) (k:=v.length+1);have hk:(bj W2 (j+v.length) 0+c2) / 4294967296=1:=by
       by_cases h:(bj W2 (j+v.length) 0+c2) / 4294967296=1;·exact h
       ·have h0:(bj W2 (j+v.length) 0+c2) / 4294967296=0:=by omega
        rw[h0,δF] at qE;omega
      rw[hk,ε2] at qE;have e1:(gb - 1)*bk v=gb*bk v - bk v:=by rw[ζP,εw]
      obtain⟨w1,w2⟩:=vT (q:=gb - 1) (show(gb - 1)*bk v<=bk (prt U j (v.length+1)) by omega) (by rw[show gb - 1+1=gb by omega];exact f5);have DL:0<gb:=by
       by_cases h:0<gb;·exact h
       ·have:gb=0:=by omega
        subst this;omega
      have hfin:R2.set (j+v.length) ((bj W2 (j+v.length) 0+c2) % 4294967296)=jr U j (ix (v.length+1) (bk (prt U j (v.length+1)) % bk v)):=xU hF Ap (by omega) Aq (by rw[qE,w2,e1];omega);repeat refine γj (by omega) ?_
      rw[hfin];rfl
  ·obtain⟨k1,k2,k3,k4⟩:=Am (.inl hB) hb;repeat' refine γj ?_ ?_
   all_goals first|omega|exact k2|exact k3
 ·repeat refine γj (by omega) ?_
  refine⟨λhc=>?_,λhc=>?_⟩
  ·repeat refine γj (by omega) ?_
   refine⟨λhb=>?_,λhb=>?_⟩
   ·obtain⟨gg,hgg,f0,f2,f3⟩:=brk (.inr hc) hb;rw[<-hgg];clear hB hb hc;clear hgg brk Am ext hgx hgr;refine⟨?_,?_⟩
    ·repeat' refine γj ?_ ?_
     all_goals first|omega|exact hU|exact f2|exact f3|exact λ_ _=>trivial|(simp only[bk];omega)
    clear f0 f2 f3;rintro⟨i,ga,c,b,R⟩ ⟨⟨i0,i1⟩,⟨ou,qA⟩,⟨f2,f3⟩,⟨c0,c1⟩,⟨b0,b1⟩,⟨hR,hRl⟩,ho,he⟩;simp only at i0 i1 ou qA f2 f3 c0 c1 b0 b1 hR hRl ho he ⊢;refine⟨λlY=>?_,λnA=>?_⟩
    ·have x:=ek hv i.toNat;have y:=ek hR (j+i.toNat);have Q8:0<=ga*bj v i.toNat 0:=γt ou x.1;have Q9:ga*bj v i.toNat 0<=4294967295*4294967295:=δE (by omega) (by omega) x.1 (by omega);have q1:bj v i.toNat 0 % 18446744073709551616=bj v i.toNat 0:=by omega
     have q2:bj R (j+i.toNat) 0 % 18446744073709551616=bj R (j+i.toNat) 0:=by omega
     have q3:(ga*bj v i.toNat 0 % 18446744073709551616+c) % 18446744073709551616=ga*bj v i.toNat 0+c:=by omega
     have hi1:(i+1).toNat=i.toNat+1:=by omega
     rw[q1,q2,q3,IB (by omega) (by omega),hi1];generalize hq:((bj R (j+i.toNat) 0 - (ga*bj v i.toNat 0+c) % 4294967296) % 18446744073709551616 - b) % 18446744073709551616=q;obtain⟨k1,k2,k3,k4,k5⟩:=IC (d:=q % 4294967296) (e:=q / 9223372036854775808) hR hRl hv ou qA c0 c1 b0 b1 (show j+i.toNat<U.length by omega) ho he (by omega) (by omega);repeat' refine γj ?_ ?_
     all_goals first|omega|exact k1|exact k2|exact k3|exact k4|exact k5|exact f2|exact f3
    ·have hi:i.toNat=v.length:=by omega
     rw[hi,ψ] at he;rw[hi] at ho;have hun:=ho (j+v.length) (.inr (ξ _));have du:=ek hU (j+v.length);have q2:bj R (j+v.length) 0 % 18446744073709551616=bj R (j+v.length) 0:=by rw[hun];omega
     have qB:=@l8 U j v.length;rw[q2];generalize hq:((bj R (j+v.length) 0 - c) % 18446744073709551616 - b) % 18446744073709551616=q;have kJ:bA (R.set (j+v.length) (q % 4294967296)):=nB hR (by omega) (by omega);have hlen:(R.set (j+v.length) (q % 4294967296)).length=U.length:=by simp[hRl]
     have hout:∀m,(m<j\/j+(v.length+1)<=m)->bj (R.set (j+v.length) (q % 4294967296)) m 0=bj U m 0:=λm hm=>by rw[pO (by omega)];exact ho m (by omega)
     have hval:bk (prt (R.set (j+v.length) (q % 4294967296)) j (v.length+1))=bk (prt U j (v.length+1)) - ga*bk v+4294967296^(v.length+1)*(q / 9223372036854775808):=by
      rw[l8,uj (ξ _),sN (by omega),he,qB,γQ];have hd:q % 4294967296 - 4294967296*(q / 9223372036854775808)=bj U (j+v.length) 0 - c - b:=by rw[hun] at hq;omega
      generalize (4294967296:Int)^v.length=B;have e:B*4294967296*(q / 9223372036854775808)=B*(q % 4294967296+c+b - bj U (j+v.length) 0):=by rw[δj];congr 1;omega
      rw[e];simp only[εv,εM];omega
     generalize hW:R.set (j+v.length) (q % 4294967296)=W at*;have hbd:=vS kJ (j:=j) (k:=v.length+1);have hnn:=fi (uk kJ (j:=j) (k:=v.length+1));have q3:0<=q/\q<18446744073709551616:=by omega
     clear hq hun du q2 he ho hR;repeat refine γj (by omega) ?_
     refine⟨λhz=>?_,λhz=>?_⟩
     ·rw[hz,δF,εg] at hval;obtain⟨w1,w2⟩:=vT (q:=ga) (show ga*bk v<=bk (prt U j (v.length+1)) by omega) f2;refine⟨by rw[w1];omega,?_⟩;have hfin:W=jr U j (ix (v.length+1) (bk (prt U j (v.length+1)) % bk v)):=xU kJ hlen (by omega) hout (by rw[hval,w2]);rw[hfin];rfl
     ·have hq1:q / 9223372036854775808=1:=by omega
      rw[hq1,ε2] at hval;have f4:bk (prt U j (v.length+1))<ga*bk v:=by omega
      refine⟨?_,?_⟩
      ·repeat' refine γj ?_ ?_
       all_goals first|omega|exact kJ|exact hlen|exact⟨W,⟨kJ,hlen⟩,hout,hval,λ_ _=>rfl,by simp only[bk]⟩
      clear kJ hlen hout hval hW hbd hnn q3 hz hq1 f4 f2 f3 c0 c1 b0 b1 i0 i1 ou qA;rintro⟨i2,gb,c2,R2⟩ ⟨⟨i0,i1⟩,⟨An,Ao⟩,⟨f5,f6⟩,⟨c0,c1⟩,⟨hR2,qC⟩,W2,⟨hW2,um⟩,ho2,uo,ho3,qD⟩;simp only at i0 i1 An Ao f5 f6 c0 c1 hR2 qC ho3 qD ⊢;refine⟨λlY=>?_,λnA=>?_⟩
      ·have x:=ek hv i2.toNat;have y:=ek hR2 (j+i2.toNat);have hi1:(i2+1).toNat=i2.toNat+1:=by omega
       rw[hi1];have hs:((bj R2 (j+i2.toNat) 0 % 18446744073709551616+bj v i2.toNat 0 % 18446744073709551616) % 18446744073709551616+c2) % 18446744073709551616=bj R2 (j+i2.toNat) 0+bj v i2.toNat 0+c2:=by omega
       rw[hs];obtain⟨k1,k2,k3,k4,k5⟩:=IE hR2 (qC.trans um.symm) hv c0 c1 (show j+i2.toNat<W2.length by omega) hW2 ho3 qD rfl;repeat' refine γj ?_ ?_
       all_goals first|omega|exact k1|exact f5|exact f6|exact⟨W2,⟨hW2,um⟩,ho2,uo,k4,k5⟩
      ·have hi2:i2.toNat=v.length:=by omega
       rw[hi2,ψ] at qD;rw[hi2] at ho3;have hun:=ho3 (j+v.length) (.inr (ξ _));have du:=ek hW2 (j+v.length);have qB:=@l8 W2 j v.length;have hc2:c2 % 4294967296=c2:=by omega
       rw[hc2,hun];have hF:bA (R2.set (j+v.length) ((bj W2 (j+v.length) 0+c2) % 4294967296)):=nB hR2 (by omega) (by omega);have Ap:(R2.set (j+v.length) ((bj W2 (j+v.length) 0+c2) % 4294967296)).length=U.length:=by simp[qC]
       have Aq:∀m,(m<j\/j+(v.length+1)<=m)->bj (R2.set (j+v.length) ((bj W2 (j+v.length) 0+c2) % 4294967296)) m 0=bj U m 0:=λm hm=>by rw[pO (by omega),ho3 m (by omega)];exact ho2 m hm
       have qE:bk (prt (R2.set (j+v.length) ((bj W2 (j+v.length) 0+c2) % 4294967296)) j (v.length+1))=bk (prt U j (v.length+1)) - gb*bk v+4294967296^(v.length+1)+bk v - 4294967296^(v.length+1)*((bj W2 (j+v.length) 0+c2) / 4294967296):=by
        rw[l8,uj (ξ _),sN (by omega),<-uo,qB,γQ];generalize (4294967296:Int)^v.length=B at*;have e:B*4294967296*((bj W2 (j+v.length) 0+c2) / 4294967296)=B*(bj W2 (j+v.length) 0+c2 - (bj W2 (j+v.length) 0+c2) % 4294967296):=by rw[δj];congr 1;omega
        rw[e];simp only[εv,εM];omega
       have hbd:=vS hF (j:=j) (k:=v.length+1);have hk:(bj W2 (j+v.length) 0+c2) / 4294967296=1:=by
        by_cases h:(bj W2 (j+v.length) 0+c2) / 4294967296=1;·exact h
        ·have h0:(bj W2 (j+v.length) 0+c2) / 4294967296=0:=by omega
         rw[h0,δF] at qE;omega
       rw[hk,ε2] at qE;have e1:(gb - 1)*bk v=gb*bk v - bk v:=by rw[ζP,εw]
       obtain⟨w1,w2⟩:=vT (q:=gb - 1) (show(gb - 1)*bk v<=bk (prt U j (v.length+1)) by omega) (by rw[show gb - 1+1=gb by omega];exact f5);have DL:0<gb:=by
        by_cases h:0<gb;·exact h
        ·have:gb=0:=by omega
         subst this;omega
       have hfin:R2.set (j+v.length) ((bj W2 (j+v.length) 0+c2) % 4294967296)=jr U j (ix (v.length+1) (bk (prt U j (v.length+1)) % bk v)):=xU hF Ap (by omega) Aq (by rw[qE,w2,e1];omega);repeat refine γj (by omega) ?_
       rw[hfin];rfl
   ·obtain⟨k1,k2,k3,k4⟩:=Am (.inr hc) hb;repeat' refine γj ?_ ?_
    all_goals first|omega|exact k2|exact k3
  ·obtain⟨gg,hgg,f0,f2,f3⟩:=ext hB hc;rw[<-hgg];clear hB hc;clear hgg brk Am ext hgx hgr;refine⟨?_,?_⟩
   ·repeat' refine γj ?_ ?_
    all_goals first|omega|exact hU|exact f2|exact f3|exact λ_ _=>trivial|(simp only[bk];omega)
   clear f0 f2 f3;rintro⟨i,ga,c,b,R⟩ ⟨⟨i0,i1⟩,⟨ou,qA⟩,⟨f2,f3⟩,⟨c0,c1⟩,⟨b0,b1⟩,⟨hR,hRl⟩,ho,he⟩;simp only at i0 i1 ou qA f2 f3 c0 c1 b0 b1 hR hRl ho he ⊢;refine⟨λlY=>?_,λnA=>?_⟩
   ·have x:=ek hv i.toNat;have y:=ek hR (j+i.toNat);have Q8:0<=ga*bj v i.toNat 0:=γt ou x.1;have Q9:ga*bj v i.toNat 0<=4294967295*4294967295:=δE (by omega) (by omega) x.1 (by omega);have q1:bj v i.toNat 0 % 18446744073709551616=bj v i.toNat 0:=by omega
    have q2:bj R (j+i.toNat) 0 % 18446744073709551616=bj R (j+i.toNat) 0:=by omega
    have q3:(ga*bj v i.toNat 0 % 18446744073709551616+c) % 18446744073709551616=ga*bj v i.toNat 0+c:=by omega
    have hi1:(i+1).toNat=i.toNat+1:=by omega
    rw[q1,q2,q3,IB (by omega) (by omega),hi1];generalize hq:((bj R (j+i.toNat) 0 - (ga*bj v i.toNat 0+c) % 4294967296) % 18446744073709551616 - b) % 18446744073709551616=q;obtain⟨k1,k2,k3,k4,k5⟩:=IC (d:=q % 4294967296) (e:=q / 9223372036854775808) hR hRl hv ou qA c0 c1 b0 b1 (show j+i.toNat<U.length by omega) ho he (by omega) (by omega);repeat' refine γj ?_ ?_
    all_goals first|omega|exact k1|exact k2|exact k3|exact k4|exact k5|exact f2|exact f3
   ·have hi:i.toNat=v.length:=by omega
    rw[hi,ψ] at he;rw[hi] at ho;have hun:=ho (j+v.length) (.inr (ξ _));have du:=ek hU (j+v.length);have q2:bj R (j+v.length) 0 % 18446744073709551616=bj R (j+v.length) 0:=by rw[hun];omega
    have qB:=@l8 U j v.length;rw[q2];generalize hq:((bj R (j+v.length) 0 - c) % 18446744073709551616 - b) % 18446744073709551616=q;have kJ:bA (R.set (j+v.length) (q % 4294967296)):=nB hR (by omega) (by omega);have hlen:(R.set (j+v.length) (q % 4294967296)).length=U.length:=by simp[hRl]
    have hout:∀m,(m<j\/j+(v.length+1)<=m)->bj (R.set (j+v.length) (q % 4294967296)) m 0=bj U m 0:=λm hm=>by rw[pO (by omega)];exact ho m (by omega)
    have hval:bk (prt (R.set (j+v.length) (q % 4294967296)) j (v.length+1))=bk (prt U j (v.length+1)) - ga*bk v+4294967296^(v.length+1)*(q / 9223372036854775808):=by
     rw[l8,uj (ξ _),sN (by omega),he,qB,γQ];have hd:q % 4294967296 - 4294967296*(q / 9223372036854775808)=bj U (j+v.length) 0 - c - b:=by rw[hun] at hq;omega
     generalize (4294967296:Int)^v.length=B;have e:B*4294967296*(q / 9223372036854775808)=B*(q % 4294967296+c+b - bj U (j+v.length) 0):=by rw[δj];congr 1;omega
     rw[e];simp only[εv,εM];omega
    generalize hW:R.set (j+v.length) (q % 4294967296)=W at*;have hbd:=vS kJ (j:=j) (k:=v.length+1);have hnn:=fi (uk kJ (j:=j) (k:=v.length+1));have q3:0<=q/\q<18446744073709551616:=by omega
    clear hq hun du q2 he ho hR;repeat refine γj (by omega) ?_
    refine⟨λhz=>?_,λhz=>?_⟩
    ·rw[hz,δF,εg] at hval;obtain⟨w1,w2⟩:=vT (q:=ga) (show ga*bk v<=bk (prt U j (v.length+1)) by omega) f2;refine⟨by rw[w1];omega,?_⟩;have hfin:W=jr U j (ix (v.length+1) (bk (prt U j (v.length+1)) % bk v)):=xU kJ hlen (by omega) hout (by rw[hval,w2]);rw[hfin];rfl
    ·have hq1:q / 9223372036854775808=1:=by omega
     rw[hq1,ε2] at hval;have f4:bk (prt U j (v.length+1))<ga*bk v:=by omega
     refine⟨?_,?_⟩
     ·repeat' refine γj ?_ ?_
      all_goals first|omega|exact kJ|exact hlen|exact⟨W,⟨kJ,hlen⟩,hout,hval,λ_ _=>rfl,by simp only[bk]⟩
     clear kJ hlen hout hval hW hbd hnn q3 hz hq1 f4 f2 f3 c0 c1 b0 b1 i0 i1 ou qA;rintro⟨i2,gb,c2,R2⟩ ⟨⟨i0,i1⟩,⟨An,Ao⟩,⟨f5,f6⟩,⟨c0,c1⟩,⟨hR2,qC⟩,W2,⟨hW2,um⟩,ho2,uo,ho3,qD⟩;simp only at i0 i1 An Ao f5 f6 c0 c1 hR2 qC ho3 qD ⊢;refine⟨λlY=>?_,λnA=>?_⟩
     ·have x:=ek hv i2.toNat;have y:=ek hR2 (j+i2.toNat);have hi1:(i2+1).toNat=i2.toNat+1:=by omega
      rw[hi1];have hs:((bj R2 (j+i2.toNat) 0 % 18446744073709551616+bj v i2.toNat 0 % 18446744073709551616) % 18446744073709551616+c2) % 18446744073709551616=bj R2 (j+i2.toNat) 0+bj v i2.toNat 0+c2:=by omega
      rw[hs];obtain⟨k1,k2,k3,k4,k5⟩:=IE hR2 (qC.trans um.symm) hv c0 c1 (show j+i2.toNat<W2.length by omega) hW2 ho3 qD rfl;repeat' refine γj ?_ ?_
      all_goals first|omega|exact k1|exact f5|exact f6|exact⟨W2,⟨hW2,um⟩,ho2,uo,k4,k5⟩
     ·have hi2:i2.toNat=v.length:=by omega
      rw[hi2,ψ] at qD;rw[hi2] at ho3;have hun:=ho3 (j+v.length) (.inr (ξ _));have du:=ek hW2 (j+v.length);have qB:=@l8 W2 j v.length;have hc2:c2 % 4294967296=c2:=by omega
      rw[hc2,hun];have hF:bA (R2.set (j+v.length) ((bj W2 (j+v.length) 0+c2) % 4294967296)):=nB hR2 (by omega) (by omega);have Ap:(R2.set (j+v.length) ((bj W2 (j+v.length) 0+c2) % 4294967296)).length=U.length:=by simp[qC]
      have Aq:∀m,(m<j\/j+(v.length+1)<=m)->bj (R2.set (j+v.length) ((bj W2 (j+v.length) 0+c2) % 4294967296)) m 0=bj U m 0:=λm hm=>by rw[pO (by omega),ho3 m (by omega)];exact ho2 m hm
      have qE:bk (prt (R2.set (j+v.length) ((bj W2 (j+v.length) 0+c2) % 4294967296)) j (v.length+1))=bk (prt U j (v.length+1)) - gb*bk v+4294967296^(v.length+1)+bk v - 4294967296^(v.length+1)*((bj W2 (j+v.length) 0+c2) / 4294967296):=by
       rw[l8,uj (ξ _),sN (by omega),<-uo,qB,γQ];generalize (4294967296:Int)^v.length=B at*;have e:B*4294967296*((bj W2 (j+v.length) 0+c2) / 4294967296)=B*(bj W2 (j+v.length) 0+c2 - (bj W2 (j+v.length) 0+c2) % 4294967296):=by rw[δj];congr 1;omega
       rw[e];simp only[εv,εM];omega
      have hbd:=vS hF (j:=j) (k:=v.length+1);have hk:(bj W2 (j+v.length) 0+c2) / 4294967296=1:=by
       by_cases h:(bj W2 (j+v.length) 0+c2) / 4294967296=1;·exact h
       ·have h0:(bj W2 (j+v.length) 0+c2) / 4294967296=0:=by omega
        rw[h0,δF] at qE;omega
      rw[hk,ε2] at qE;have e1:(gb - 1)*bk v=gb*bk v - bk v:=by rw[ζP,εw]
      obtain⟨w1,w2⟩:=vT (q:=gb - 1) (show(gb - 1)*bk v<=bk (prt U j (v.length+1)) by omega) (by rw[show gb - 1+1=gb by omega];exact f5);have DL:0<gb:=by
       by_cases h:0<gb;·exact h
       ·have:gb=0:=by omega
        subst this;omega
      have hfin:R2.set (j+v.length) ((bj W2 (j+v.length) 0+c2) % 4294967296)=jr U j (ix (v.length+1) (bk (prt U j (v.length+1)) % bk v)):=xU hF Ap (by omega) Aq (by rw[qE,w2,e1];omega);repeat refine γj (by omega) ?_
      rw[hfin];rfl
def kn (D:Int->Int) (x y:Int):Bool:=decide (D y<D x)||(decide (D x=D y)&&decide (x<=y))
theorem Ar {D:Int->Int} {x y:Int}:kn D x y=true↔D y<D x\/(D x=D y/\x<=y):=by grind[kn]
theorem Rb {D:Int->Int} (a b c:Int) (d:kn D a b=true) (e:kn D b c=true):kn D a c=true:=by
 grind[Ar]
theorem abl {D:Int->Int} (a b:Int):(kn D a b||kn D b a)=true:=by
 grind[Ar]
theorem abm {D:Int->Int} {a b:Int} (c:kn D a b=true) (d:kn D b a=true):a=b:=by
 grind[Ar]
abbrev uq (D:Int->Int) (l:List Int):Prop:=l.Pairwise λa b=>kn D a b=true
def dY (D:Int->Int) (l:List Int):List Int:=l.mergeSort (kn D)
theorem As {D:Int->Int} {l:List Int}:(dY D l).Perm l:=δs _ _
theorem Re {D:Int->Int} {l:List Int}:uq D (dY D l):=List.pairwise_mergeSort Rb abl l
theorem sO {D:Int->Int} {l:List Int}:(dY D l).length=l.length:=As.length_eq
theorem IP {D:Int->Int} {l:List Int} {x:Int}:x∈dY D l↔x∈l:=As.mem_iff
theorem Rf {D:Int->Int} {l m:List Int} (e:m.Perm l) (f:uq D m):m=dY D l:=
 List.Perm.eq_of_pairwise (λa b _ _ c d=>abm c d) f Re (e.trans As.symm)
theorem abn {D:Int->Int} {l:List Int} (h:uq D l):dY D l=l:=(Rf (ζN _) h).symm
def seg (l:List Int) (a b:Nat):List Int:=(l.drop a).take (b - a)
def gZ (D:Int->Int) (l:List Int) (a b:Nat):List Int:=l.take a++dY D (seg l a b)++l.drop b
theorem vV {l:List Int} {a b:Nat} (c:a<=b) (d:b<=l.length):(seg l a b).length=b - a:=by
 grind[seg]
theorem IQ {l:List Int} {a b:Nat} (c:a<=b) (d:b<l.length):seg l a (b+1)=seg l a b++[bj l b 0]:=by
 unfold seg;rw[show b+1 - a=(b - a)+1 by omega,List.take_succ_eq_append_getElem (by grind),List.getElem_drop];grind[cY]
theorem Rh {l:List Int} {a:Nat}:seg l a a=[]:=by grind[seg]
theorem Ri {D:Int->Int} {l:List Int} {a b:Nat} (c:a<=b) (d:b<=l.length):(gZ D l a b).length=l.length:=by
 grind[gZ,sO,vV]
theorem Rj {l:List Int} {i:Nat} (h:i<l.length):l.drop i=bj l i 0::l.drop (i+1):=by
 simp_all[cY]
theorem Rk {D:Int->Int} {l:List Int} {a:Nat}:gZ D l a a=l:=by
 simp_all[gZ,Rh,dY]
theorem abo {D:Int->Int} {l:List Int} {a:Nat} (h:a<l.length):gZ D l a (a+1)=l:=by
 have e:seg l a (a+1)=[bj l a 0]:=by grind[IQ,Rh]
 unfold gZ;rw[e,abn (by simp),γU];simp only[List.singleton_append];rw[<-Rj h,γL]
def lh (D:Int->Int) (l:List Int) (a i j:Nat):List Int:=l.take a++((dY D (seg l a i)).take (j - a)++bj l i 0::(dY D (seg l a i)).drop (j - a))++l.drop (i+1)
theorem abp {D:Int->Int} {l:List Int} {a i j:Nat} (b:a<=i) (c:i<l.length):(lh D l a i j).length=l.length:=by
 grind[sO,vV,lh]
theorem abq {D:Int->Int} {l:List Int} {a i:Nat} (b:a<=i) (c:i<l.length):lh D l a i i=gZ D l a i:=by
 grind[sO,vV,lh,gZ,Rj]
theorem abr {A B:List Int} {y x:Int}:((A++y::x::B).set (A.length+1) y).set A.length x=A++x::y::B:=by
 simp_all
theorem abt {A B:List Int} {y:Int}:bj (A++y::B) A.length 0=y:=by grind[bj]
theorem abu {A B:List Int} {y x:Int}:bj (A++y::x::B) (A.length+1) 0=x:=by grind[bj]
theorem abv {D:Int->Int} {l:List Int} {a i k:Nat} (c:a+k+1<=i) (d:i<l.length):
  lh D l a i (a+k+1)=(l.take a++(dY D (seg l a i)).take k)++bj (dY D (seg l a i)) k 0::bj l i 0::((dY D (seg l a i)).drop (k+1)++l.drop (i+1))/\
  lh D l a i (a+k)=(l.take a++(dY D (seg l a i)).take k)++bj l i 0::bj (dY D (seg l a i)) k 0::((dY D (seg l a i)).drop (k+1)++l.drop (i+1))/\
  (l.take a++(dY D (seg l a i)).take k).length=a+k:=by
 have b:=@sO D (seg l a i);rw[vV (by omega) (by omega)] at b;have e:k<(dY D (seg l a i)).length:=by omega
 have g:(dY D (seg l a i)).take (k+1)=(dY D (seg l a i)).take k++[bj (dY D (seg l a i)) k 0]:=by simp_all[cY]
 have f:(dY D (seg l a i)).drop k=bj (dY D (seg l a i)) k 0::(dY D (seg l a i)).drop (k+1):=by simp_all[cY]
 grind[lh]
theorem abw {D:Int->Int} {l:List Int} {a i j:Nat} (g:a<j) (f:j<=i) (d:i<l.length):
  bj (lh D l a i j) j 0=bj l i 0/\bj (lh D l a i j) (j - 1) 0=bj (dY D (seg l a i)) (j - 1 - a) 0/\
  ((lh D l a i j).set j (bj (dY D (seg l a i)) (j - 1 - a) 0)).set (j - 1) (bj l i 0)=lh D l a i (j - 1):=by
 obtain⟨b,c,e⟩:=@abv D l a i (j - 1 - a) (by omega) d;rw[show a+(j - 1 - a)+1=j by omega] at b;rw[show a+(j - 1 - a)=j - 1 by omega] at c e;rw[b,c];generalize l.take a++(dY D (seg l a i)).take (j - 1 - a)=A at*;generalize bj (dY D (seg l a i)) (j - 1 - a) 0=y at*;generalize bj l i 0=x at*;grind[abu,abt,abr]
theorem abx {D:Int->Int} {S:List Int} {x:Int} {k:Nat} (n:uq D S) (d:∀s∈S.drop k,kn D x s=true) (b:k=0\/(k<=S.length/\kn D (bj S (k - 1) 0) x=true)):uq D (S.take k++x::S.drop k):=by
 have a:uq D (S.take k++S.drop k):=by simp_all
 obtain⟨g,f,i⟩:=δW.1 a;have j:∀s∈S.take k,kn D s x=true:=by
  rcases b with rfl|⟨h,b⟩;·simp
  ·intro s l;by_cases m:k=0;·simp_all
   have c:k - 1<S.length:=by omega
   have e:S.take k=S.take (k - 1)++[bj S (k - 1) 0]:=by
    conv=>lhs;rw[show k=(k - 1)+1 by omega]
    simp_all[cY]
   grind[Rb]
 rw[uq,δW];simp_all
theorem aby {S:List Int} {x:Int} {k:Nat}:(S.take k++x::S.drop k).Perm (S++[x]):=by
 refine(List.perm_middle).trans ?_;rw[γL];grind
theorem abz {D:Int->Int} {l:List Int} {a i j:Nat} (k:a<=j) (f:j<=i) (e:i<l.length) (b:∀s∈(dY D (seg l a i)).drop (j - a),kn D (bj l i 0) s=true) (g:j=a\/kn D (bj (dY D (seg l a i)) (j - 1 - a) 0) (bj l i 0)=true):
  lh D l a i j=gZ D l a (i+1):=by
 have c:=@sO D (seg l a i);rw[vV (by omega) (by omega)] at c;have d:uq D ((dY D (seg l a i)).take (j - a)++bj l i 0::(dY D (seg l a i)).drop (j - a)):=by
  refine abx Re b ?_;grind
 have h:((dY D (seg l a i)).take (j - a)++bj l i 0::(dY D (seg l a i)).drop (j - a)).Perm (seg l a (i+1)):=by
  rw[IQ (by omega) e];exact aby.trans (List.Perm.append As (ζN _))
 grind[lh,gZ,Rf]
def IU:bM:=⟨150,Int,.one (eZ .i64),λ_=>True,λ_=> .sb false⟩
theorem h334:Holds Tryz.prog IU:=by
 refine cF (L:=[]) IU lk (by simp) ?_;rintro(x:Int) -;refine bO ((SV.sb (decide (x≠x))).same (SV.sb false)) (by kernel_rfl) ?_;simp_all
def xY (x y:Int):Int:=if x<y then -1 else if y<x then 1 else 0
def IV:bM:=⟨113,Int×Int,.cons (eZ .i64) (.one (eZ .i64)),λ_=>True,λa=> .si .i64 (xY a.1 a.2)⟩
theorem h321:Holds Tryz.prog IV:=by
 refine cF (L:=[IU]) IV lk (by grind[h334]) ?_;rintro⟨x,y⟩ -;refine bO (let b:=γx .i64;let c:=γx .i64 0;let a:=γh .i64 (xY x y);True/\True/\(false=true->(false=true->(b 0).same a)/\(false=false->(b (-1:Int)).same a))/\(false=false->(false=true->(b 1).same a)/\(false=false->(decide (x<y)=true->(b (-1:Int)).same a)/\(decide (x<y)=false->(decide (y<x)=true->(b 1).same a)/\(decide (y<x)=false->(b 0).same a))))) (by kernel_rfl) ?_;simp_all[xY,if_neg]
def vW (b:bB):Int:=b.a0+b.a1+b.a2+b.a3+b.a4+b.a5
def IW:bM:=⟨114,bB,.one (eh .ff),λb=>b.ok=true,λb=> .si .i64 (vW b)⟩
theorem h322:Holds Tryz.prog IW:=by
 refine cF (L:=[]) IW (λ_ _=> .qo 7) (by simp) ?_;rintro(b:bB) (h:b.ok=true);have h:=bB.ja.1 h;refine bO (let d:=cq .i64;let a:=(0:Int)+b.a0+b.a1;let c:=a+b.a2+b.a3+b.a4;d ((0:Int)+b.a0)/\d a/\d (a+b.a2)/\d (a+b.a2+b.a3)/\d c/\d (c+b.a5)/\(γh .i64 (c+b.a5)).same (γh .i64 (vW b))) (by kernel_rfl) ?_;simp only[vcs];unfold vW;omega
def oI (p:bn) (i:Int):Off:=bj p.offers i.toNat bp.off.dflt
def rC (p:bn) (i:Int):Int:=(oI p i).value
def pP (p:bn) (i:Int):Int:=vW (oI p i).want
def fD (p:bn) (i:Int):Int:=rC p i*(5354228880 / pP p i)
def mJ (p:bn) (i:Int):Prop:=0<=i/\i<p.offers.length
theorem Au {p:bn} (b:bz p=0) {i:Int} (h:mJ p i):(1<=rC p i/\rC p i<=1000000)/\(1<=pP p i/\pP p i<=24)/\(oI p i).want.ok=true:=by
 obtain⟨j,k⟩:=h;have c:=dr (d:=bp.off.dflt) (show i.toNat<p.offers.length by omega);have a:=(dQ b).2.2.2.2 _ c;have g:=(HS ((vP b).2 _ c)).2.1;have e:=bB.ja.1 a.2.2.1;have f:¬((oI p i).want.a0=0/\(oI p i).want.a1=0/\(oI p i).want.a2=0/\(oI p i).want.a3=0/\(oI p i).want.a4=0/\(oI p i).want.a5=0):=λh=>g (Da.2 h);have e:(0<=(oI p i).want.a0/\(oI p i).want.a0<=4)/\(0<=(oI p i).want.a1/\(oI p i).want.a1<=4)/\(0<=(oI p i).want.a2/\(oI p i).want.a2<=4)/\(0<=(oI p i).want.a3/\(oI p i).want.a3<=4)/\(0<=(oI p i).want.a4/\(oI p i).want.a4<=4)/\(0<=(oI p i).want.a5/\(oI p i).want.a5<=4):=e;refine⟨⟨a.2.2.2.1,a.2.2.2.2⟩,?_,a.2.2.1⟩;unfold pP vW;omega
theorem Rl {t:Int} (a:1<=t) (b:t<=24):t*(5354228880 / t)=5354228880/\1<=5354228880 / t:=by
 have:t=1\/t=2\/t=3\/t=4\/t=5\/t=6\/t=7\/t=8\/t=9\/t=10\/t=11\/t=12\/t=13\/t=14\/t=15\/t=16\/t=17\/t=18\/t=19\/t=20\/t=21\/t=22\/t=23\/t=24:=by omega
 rcases this with rfl|rfl|rfl|rfl|rfl|rfl|rfl|rfl|rfl|rfl|rfl|rfl|rfl|rfl|rfl|rfl|rfl|rfl|rfl|rfl|rfl|rfl|rfl|rfl<;>decide
theorem abA {p:bn} (g:bz p=0) {x y:Int} (j:mJ p x) (i:mJ p y):fD p x<fD p y↔rC p x*pP p y<rC p y*pP p x:=by
 obtain⟨m,e,_⟩:=Au g j;obtain⟨u,f,_⟩:=Au g i;obtain⟨v,q⟩:=Rl e.1 e.2;obtain⟨o,r⟩:=Rl f.1 f.2;unfold fD;generalize 5354228880 / pP p x=d at*;generalize 5354228880 / pP p y=c at*;generalize rC p x=a at*;generalize rC p y=b at*;generalize pP p x=s at*;generalize pP p y=t at*;have k:0<d*c:=Int.mul_pos (by omega) (by omega);have l:(a*t)*(d*c)=(a*d)*5354228880:=by grind
 have n:(b*s)*(d*c)=(b*c)*5354228880:=by grind
 constructor
 ·intro h;have:(a*t)*(d*c)<(b*s)*(d*c):=by omega
  exact Int.lt_of_mul_lt_mul_right this (by omega)
 ·intro h;have:(a*t)*(d*c)<(b*s)*(d*c):=Int.mul_lt_mul_of_pos_right h k;omega
def Av (p:bn) (x y:Int):Int:=xY (rC p y*pP p x) (rC p x*pP p y)
theorem abB {p:bn} (a:bz p=0) {x y:Int} (c:mJ p x) (b:mJ p y):Av p x y<0↔fD p y<fD p x:=by
 rw[abA a b c];grind[Av,xY]
def IX:dH where
 f:=112;α:=Int×Int×bn;put a:=[.si .i64 a.1,.si .i64 a.2.1,.ptr 0 0 20];st a:=[.cells a.2.2.ss 27 20 false];dec v o:=match v,o with
  |[x,y,.ptr 0 0 20],[.cells cs 27 20 false]=>match x.int .i64,y.int .i64,vM cs with
   |some x,some y,some p=>some (x,y,p)
   |_,_,_=>none
  |_,_=>none;ok v o a h:=by
  split at h
  ·split at h
   ·rename_i h1 h2 h3;simp only[γ] at h;subst h;refine⟨by simp only[gL,iN h1,iN h2];rfl,?_⟩;simp only[gO,π,γq,bq.g,zS h3]
   ·cases h
  ·cases h
 inj a b h1 h2:=by
  simp only[gL,Γ,and_true,γB,δb,Value.int.injEq,true_and] at h1;simp only[gO,π,γq,bq.g,Γ,bR.cells.injEq,and_true] at h2;have h3:=dK.inj a.2.2 b.2.2 (by simp only[dK,γB,h2]);exact εC h1.1 (εC h1.2 h3)
 dom a:=bz a.2.2=0/\mJ a.2.2 a.1/\mJ a.2.2 a.2.1;res a:=.si .i64 (Av a.2.2 a.1 a.2.1);out a:=[.cells a.2.2.ss 27 20 false]
theorem h320:ec Tryz.prog IX:=by
 refine lA (L:=[IW,IV]) (W:=[]) IX lk (by simp) (by grind[h322,h321]) ?_;rintro⟨x,y,p⟩ ⟨f,e,c⟩;refine bO (let a:=bp.off.dflt;let d:=p.offers.length;let g:=bj p.offers x.toNat a;let h:=bj p.offers y.toNat a;let k:=h.value*vW g.want;let l:=g.value*vW h.want;let j:=bq.cells (bn.ss p) 27 20 false;(0:Int)<=x/\x<(↑d:Int)/\x.toNat<d/\(0:Int)<=y/\y<(↑d:Int)/\y.toNat<d/\g.want.ok=true/\cq .i64 k/\h.want.ok=true/\cq .i64 l/\True/\(γh .i64 (xY k l)).same (γh .i64 (Av p x y))/\j.same j/\True) (by kernel_rfl) ?_;simp only[vcs];have f:bz p=0:=f;have e:mJ p x:=e;have c:mJ p y:=c;obtain⟨s,w,q⟩:=Au f e;obtain⟨m,A,z⟩:=Au f c;obtain⟨o,n⟩:=e;obtain⟨B,r⟩:=c;have i:∀{v t:Int},1<=v/\v<=1000000->1<=t/\t<=24-> -9223372036854775808<=v*t/\v*t<=9223372036854775807:=λ{v t} C u=>by
  have a:=γt (show 0<=v by omega) (show 0<=t by omega);have b:=δE C.2 u.2 (by omega) (show(0:Int)<=1000000 by omega);omega
 exact⟨o,n,by omega,B,r,by omega,q,i m w,z,i s A,rfl⟩
def xZ:Nat->List SV->Option (List Int)
 |0,[.fn (.func 112) [] [.ptr 1 0 20]]=>some []
 |k+1,x::r=>match x.int .i64,xZ k r with
  |some n,some l=>some (n::l)
  |_,_=>none
 |_,_=>none
theorem Rm:∀{k:Nat} {r:List SV} {l:List Int},xZ k r=some l->gL r=gL (l.map (γh .i64)++[.fn (.func 112) [] [.ptr 1 0 20]])
 |0,r,l,h=>by
  unfold xZ at h;split at h;·simp only[γ] at h;subst h;rfl
  ·rename_i h0;cases h0
  ·cases h;|k+1,[],l,h=>by simp[xZ] at h;|k+1,x::r,l,h=>by
  simp only[xZ] at h;split at h
  ·rename_i n l' h1 h2;simp only[γ] at h;subst h;simp only[gL,π,γG,Rm h2,iN h1];rfl
  ·cases h
theorem Rn:∀{l m:List Int} {z:List SV},l.length=m.length->gL (l.map (γh .i64)++z)=gL (m.map (γh .i64)++z)->l=m
 |[],[],_,_,_=>rfl
 |[],_::_,_,h,_=>by simp at h;|_::_,[],_,h,_=>by simp at h;|x::l,y::m,z,hl,h=>by
  simp only[π,γG,gL,Γ,γB,δb,Value.int.injEq,true_and] at h;rw[h.1,Rn (by simpa using hl) h.2]
def IY (f:FuncId) (k:Nat) (β:Type) (Aw:β->List Int) (Ro:List Int->Option β) (h0:∀b,(Aw b).length=k) (h1:∀l b,Ro l=some b->l=Aw b) (h2:∀b c,Aw b=Aw c->b=c) (dom:(Nat×List Int×bn)×β->Prop) (out:(Nat×List Int×bn)×β->List Int):dH where
 f:=f;α:=(Nat×List Int×bn)×β;put a:=.ow 0 a.1.1 1::((Aw a.2).map (γh .i64)++[.fn (.func 112) [] [.ptr 1 0 20]]);st a:=[.row (.i .i64) a.1.2.1 3 true,.cells a.1.2.2.ss 27 20 false];dec v o:=match v,o with
  | .ow 0 n 1::r,[.row t l 3 true,.cells cs 27 20 false]=>match xZ k r,iG t (.i .i64) l,vM cs with
   |some xs,some l,some p=>match Ro xs with
    |some b=>some ((n,l,p),b)
    |none=>none
   |_,_,_=>none
  |_,_=>none;ok v o a h:=by
  split at h
  ·split at h
   ·rename_i h3 h4 h5;split at h
    ·rename_i b hb;simp only[γ] at h;subst h;obtain⟨rfl,hh⟩:=mG h4;cases hh;have:=h1 _ _ hb;subst this;refine⟨by simp only[gL,Rm h3],?_⟩;simp only[gO,π,γq,bq.g,zS h5]
    ·cases h
   ·cases h
  ·cases h
 inj a b e1 e2:=by
  obtain⟨⟨n,l,p⟩,x⟩:=a;obtain⟨⟨n',l',p'⟩,x'⟩:=b;simp only[gL,Γ,γB,εx,true_and] at e1;simp only[gO,π,γq,bq.g,Γ,bR.cells.injEq,and_true,true_and] at e2;have h3:p=p':=dK.inj p p' (by simp only[dK,γB,e2.2]);have h4:l=l':=by
   have hf:=congrArg γc e2.1;rw[eY,eY] at hf;exact lz (.i .i64) (by simpa[bp.sz] using hf) e2.1
  have h5:x=x':=h2 _ _ (Rn (by rw[h0,h0]) e1.2);rw[e1.1.1,h3,h4,h5]
 dom:=dom;res _:=.bI [];out a:=[.row (.i .i64) (out a) 3 true,.cells a.1.2.2.ss 27 20 false]
abbrev Srg:=Nat×List Int×bn
def Ax (b:Int×Int):List Int:=[b.1,b.2]
def IZ:List Int->Option (Int×Int)
 |[a,b]=>some (a,b)
 |_=>none
theorem abD:∀l b,IZ l=some b->l=Ax b:=λl b h=>by
 unfold IZ at h;split at h;·simp only[γ] at h;subst h;rfl
 ·cases h
theorem abE:∀b c,Ax b=Ax c->b=c:=λb c h=>by
 unfold Ax at h;simp only[Γ,and_true] at h;exact εC h.1 h.2
def vX (a:Srg):Prop:=(bz a.2.2=0/\a.1=a.2.1.length)/\a.2.1.length<=1000/\∀x∈a.2.1,mJ a.2.2 x
def I0 (l:List Int) (a b:Int):Prop:=0<=a/\a<=b/\b<=l.length
theorem Rq {l m:List Int} (h:l=m):(bq.row (.i .i64) l 3 true).same (bq.row (.i .i64) m 3 true):=by subst h;rfl
def I1:dH:=IY 172 2 (Int×Int) Ax IZ (λ_=>rfl) abD abE (λa=>vX a.1/\I0 a.1.2.1 a.2.1 a.2.2/\(seg a.1.2.1 a.2.1.toNat a.2.2.toNat).Pairwise (·<·)) λa=>gZ (fD a.1.2.2) a.1.2.1 a.2.1.toNat a.2.2.toNat
def abG (n:Nat) (l:List Int) (p:bn) (a b:Int):Nat->cE
 |1=> .inv (Int×List Int) (λx=>⟨[(0,.ow 0 n 1),(1,.si .i64 a),(2,.si .i64 b),(3,.fn (.func 112) [] [.ptr 1 0 20]),(8,.si .i64 x.1)],[.row (.i .i64) x.2 3 true,.cells p.ss 27 20 false]⟩) (λs=>(iS s 8,oS (.i .i64) s 0))
   (λx=>(a<x.1/\(x.1<=b\/x.1=a+1))/\x.2=gZ (fD p) l a.toNat (if a<b then x.1 else a).toNat) (λx=>(b - x.1).toNat) λx k=>match k with
    |4=> .inv (Int×List Int) (λy=>⟨[(0,.ow 0 n 1),(1,.si .i64 a),(2,.si .i64 b),(3,.fn (.func 112) [] [.ptr 1 0 20]),(8,.si .i64 x.1),(9,.si .i64 y.1)],[.row (.i .i64) y.2 3 true,.cells p.ss 27 20 false]⟩) (λs=>(iS s 9,oS (.i .i64) s 0))
      (λy=>(a<=y.1/\y.1<=x.1)/\y.2=lh (fD p) l a.toNat x.1.toNat y.1.toNat/\∀s∈(dY (fD p) (seg l a.toNat x.1.toNat)).drop (y.1 - a).toNat,kn (fD p) (bj l x.1.toNat 0) s=true) (λy=>(y.1 - a).toNat) λ_ _=> .look
    |_=> .look
 |_=> .look
theorem h343:ec Tryz.prog I1:=by
 refine lA (L:=[]) (W:=[IX]) I1 (λa=>abG a.1.1 a.1.2.1 a.1.2.2 a.2.1 a.2.2) (by simpa using h320) (by simp) ?_;rintro⟨⟨n,l,p⟩,a,b⟩ ⟨⟨⟨hc,hn⟩,hl,ho⟩,⟨a0,a1,a2⟩,hi⟩;refine bO (let c:=γh .i64;let d:=(0:Int);let e:=cq .i64;let f:=bq.row;let g:=(1:Int);let m:=a+g;let o:=γZ 0 n 1;let q:=SV.fn (Fn.func 112) [] [γO 1 0 20];let E:=c m;let w:=bp.i .i64;let F:=f w l 3 true;let k:=bq.cells [c p.supply.a0,c p.supply.a1,c p.supply.a2,c p.supply.a3,c p.supply.a4,c p.supply.a5,c p.opn.a0,c p.opn.a1,c p.opn.a2,c p.opn.a3,c p.opn.a4,c p.opn.a5,c p.cls.a0,c p.cls.a1,c p.cls.a2,c p.cls.a3,c p.cls.a4,c p.cls.a5,Ψ w p.classes,Ψ bp.off p.offers] 27 20 false;e m/\(((o.same o/\(c a).same (c a)/\(c b).same (c b)/\q.same q/\E.same E/\True)/\F.same F/\k.same k/\True)/\(a<m/\(m<=b\/m=m))/\l=gZ (fD p) l a.toNat (if a<b then m else a).toNat)/\∀(x:Int×List Int),let y:=c x.fst;let B:=f w x.snd 3 true;let r:=x.fst.toNat;let C:=dY (fD p) (seg l a.toNat r);let t:=x.fst+g;let G:=c t;let N:=gZ (fD p) l a.toNat (if a<b then t else a).toNat;(a<x.fst/\(x.fst<=b\/x.fst=m))/\x.snd=gZ (fD p) l a.toNat (if a<b then x.fst else a).toNat->(decide (x.fst<b)=true->(((o.same o/\(c a).same (c a)/\(c b).same (c b)/\q.same q/\y.same y/\y.same y/\True)/\B.same B/\k.same k/\True)/\(a<=x.fst/\x.fst<=x.fst)/\x.snd=lh (fD p) l a.toNat r r/\∀(s:Int),s∈γ2 (x.fst - a).toNat C->kn (fD p) (bj l r d) s=true)/\∀(x_1:Int×List Int),let H:=f w x_1.snd 3 true;let v:=x_1.fst.toNat;let D:=bj x_1.snd v d;let j:=x_1.fst - g;let z:=j.toNat;let A:=bj x_1.snd z d;let h:=x_1.snd.length;let z23:Nat:=(x_1.snd.set v A).length;let I:=c j;let J:=(x_1.snd.set v A).set z D;let K:=f w J 3 true;let L:=e t/\((o.same o/\(c a).same (c a)/\(c b).same (c b)/\q.same q/\G.same G/\True)/\H.same H/\k.same k/\True)/\((a<t/\(t<=b\/t=m))/\x_1.snd=N)/\(b - t).toNat<(b - x.fst).toNat;let M:=λ(u:Bool) ↦decide (Av p D A<d)=u;((a<=x_1.fst/\x_1.fst<=x.fst)/\x_1.snd=lh (fD p) l a.toNat r v/\∀(s:Int),s∈γ2 (x_1.fst - a).toNat C->kn (fD p) (bj l r d) s=true)->(decide (a<x_1.fst)=true->n=h/\d<=x_1.fst/\x_1.fst<(↑h:Int)/\n=h/\v<h/\e j/\n=h/\d<=j/\j<(↑h:Int)/\n=h/\z<h/\(bz p=d/\mJ p D/\mJ p A)/\(M true->e j/\e j/\n=h/\d<=j/\j<(↑h:Int)/\n=h/\z<h/\n=h/\d<=x_1.fst/\x_1.fst<(↑h:Int)/\n=h/\v<h/\n=h/\d<=x_1.fst/\x_1.fst<(↑h:Int)/\n=h/\v<h/\n=z23/\d<=j/\j<(↑z23:Int)/\n=z23/\z<z23/\e j/\((o.same o/\(c a).same (c a)/\(c b).same (c b)/\q.same q/\y.same y/\I.same I/\True)/\K.same K/\k.same k/\True)/\((a<=j/\j<=x.fst)/\J=lh (fD p) l a.toNat r z/\∀(s:Int),s∈γ2 (j - a).toNat C->kn (fD p) (bj l r d) s=true)/\(j - a).toNat<(x_1.fst - a).toNat)/\(M false->L))/\(decide (a<x_1.fst)=false->L))/\(decide (x.fst<b)=false->(SV.bI []).same (SV.bI [])/\B.same (f w (gZ (fD p) l a.toNat b.toNat) 3 true)/\k.same k/\True)) (by kernel_rfl) ?_;simp only[vcs];have hc:bz p=0:=hc;have hn:n=l.length:=hn;have hl:l.length<=1000:=hl;have ho:∀x∈l,mJ p x:=ho;have a0:0<=a:=a0;have a1:a<=b:=a1;have a2:b<=l.length:=a2;have hi:(seg l a.toNat b.toNat).Pairwise (·<·):=hi;generalize hD:fD p=D at*;have sl:∀{i:Int},a<=i->i<=b->(gZ D l a.toNat i.toNat).length=l.length:=λh1 h2=>Ri (by omega) (by omega);refine⟨by omega,⟨⟨by omega,.inr trivial⟩,?_⟩,?_⟩
 ·by_cases hab:a<b;·rw[if_pos hab,show(a+1).toNat=a.toNat+1 by omega,abo (by omega)]
  ·rw[if_neg hab,Rk]
 rintro⟨i,m⟩ ⟨⟨i0,i1⟩,hm⟩;simp only at i0 i1 hm ⊢;refine⟨λhib=>?_,λhib=>Rq ?_⟩
 ·rw[if_pos (by omega)] at hm;have hx:=ho _ (dr (d:=(0:Int)) (show i.toNat<l.length by omega));have hS:∀s∈dY D (seg l a.toNat i.toNat),s<bj l i.toNat 0/\mJ p s:=λs hs=>by
   have h1:=IP.1 hs;have h2:(seg l a.toNat (i.toNat+1)).Pairwise (·<·):=by
    refine hi.sublist ?_;unfold seg;exact List.take_sublist_take_left (by omega)
   rw[IQ (by omega) (by omega)] at h2;refine⟨(δW.1 h2).2.2 s h1 _ (by simp),ho s ?_⟩;unfold seg at h1;exact γS (γm h1)
  have hSl:(dY D (seg l a.toNat i.toNat)).length=i.toNat - a.toNat:=by rw[sO,vV (by omega) (by omega)]
  have il:∀{j:Nat},(lh D l a.toNat i.toNat j).length=l.length:=λ{j}=>abp (by omega) (by omega);refine⟨⟨⟨by omega,by omega⟩,?_,?_⟩,?_⟩;·rw[hm,abq (by omega) (by omega)]
  ·intro s hs;rw[List.drop_of_length_le (by omega)] at hs;simp at hs
  rintro⟨j,m2⟩ ⟨⟨j0,j1⟩,hm2,hle⟩;simp only at j0 j1 hm2 hle ⊢;subst hm2;simp only[List.length_set,il];have fin:(j=a\/kn D (bj (dY D (seg l a.toNat i.toNat)) (j.toNat - 1 - a.toNat) 0) (bj l i.toNat 0)=true)->lh D l a.toNat i.toNat j.toNat=gZ D l a.toNat (if a<b then i+1 else a).toNat:=λh=>by
   rw[if_pos (by omega),show(i+1).toNat=i.toNat+1 by omega];refine abz (by omega) (by omega) (by omega) ?_ ?_;·rw[show j.toNat - a.toNat=(j - a).toNat by omega];exact hle
   ·rcases h with h|h;·exact .inl (by omega)
    ·exact .inr h
  refine⟨λhj=>?_,λhj=>?_⟩
  ·obtain⟨k1,k2,k3⟩:=@abw D l a.toNat i.toNat j.toNat (by omega) (by omega) (by omega);have ej:(j - 1).toNat=j.toNat - 1:=by omega
   rw[ej,k1,k2,k3];have hs:=dr (d:=(0:Int)) (show j.toNat - 1 - a.toNat<(dY D (seg l a.toNat i.toNat)).length by omega);obtain⟨s1,s2⟩:=hS _ hs;have hcmp:=abB hc hx s2;rw[hD] at hcmp;rw[hcmp];refine⟨by omega,by omega,by omega,by omega,by omega,by omega,by omega,by omega,by omega,by omega,by omega,⟨hc,hx,s2⟩,λh1=>?_,λh1=>?_⟩
   ·repeat' refine γj ?_ ?_
    all_goals first|omega|rfl|skip
    intro s hs2;rw[show(j - 1 - a).toNat=j.toNat - 1 - a.toNat by omega,List.drop_eq_getElem_cons (show j.toNat - 1 - a.toNat<(dY D (seg l a.toNat i.toNat)).length by omega)] at hs2;rcases List.mem_cons.1 hs2 with rfl|hs2
    ·rw[<-cY (d:=(0:Int))];exact Ar.2 (.inl h1)
    ·refine hle s ?_;rw[show(j - a).toNat=j.toNat - 1 - a.toNat+1 by omega];exact hs2
   ·have:=fin (.inr (Ar.2 (by omega)));repeat' refine γj ?_ ?_
    all_goals first|omega|exact this|rfl
  ·have:=fin (.inl (by omega));repeat' refine γj ?_ ?_
   all_goals first|omega|exact this|rfl
 ·rw[hm];by_cases hab:a<b;·rw[if_pos hab,show i=b by omega]
  ·rw[if_neg hab,show a=b by omega]
theorem abH {l:List Int} {a b:Nat} {x:Int} (h:x∈seg l a b):x∈l:=by
 unfold seg at h;exact γS (γm h)
theorem abI {D:Int->Int} {l:List Int} {a b:Nat} {x:Int} (h:x∈gZ D l a b):x∈l:=by
 unfold gZ at h;simp only[List.mem_append] at h;rcases h with(h|h)|h;·exact γm h
 ·exact abH (IP.1 h)
 ·exact γS h
def Az (b:Int):List Int:=[b]
def I2:List Int->Option Int
 |[a]=>some a
 |_=>none
theorem abJ:∀l b,I2 l=some b->l=Az b:=λl b h=>by
 unfold I2 at h;split at h;·simp only[γ] at h;subst h;rfl
 ·cases h
theorem abK:∀b c,Az b=Az c->b=c:=λb c h=>by
 simp_all[Az]
def DN (_:Unit):List Int:=[]
def I3:List Int->Option Unit
 |[]=>some ()
 |_=>none
theorem abL:∀l b,I3 l=some b->l=DN b:=λl b h=>by
 unfold I3 at h;split at h;·rfl
 ·cases h
theorem abM:∀b c,DN b=DN c->b=c:=λ_ _ _=>rfl
theorem Rr {D:Int->Int} {l:List Int} {n:Nat} (h:n=l.length):gZ D l 0 n=dY D l:=by
 grind[gZ,seg]
theorem abN {D:Int->Int} {l:List Int} {b c d:Nat} (h:b<=c) (e:b<=l.length):seg (gZ D l 0 b) c d=seg l c d:=by
 have a:(dY D (seg l 0 b)).length=b:=by grind[sO,vV]
 unfold gZ;have:(l.take 0++dY D (seg l 0 b)++l.drop b).drop c=l.drop c:=by
  rw[List.take_zero,δJ,List.drop_append,List.drop_eq_nil_of_le (by omega),δJ,List.drop_drop,a,show b+(c - b)=c by omega]
 grind[seg]
def I4:dH:=IY 149 1 Int Az I2 (λ_=>rfl) abJ abK (λa=>(vX a.1/\a.1.2.1.Pairwise (·<·))/\a.2=a.1.2.1.length/\a.1.2.1.length<=20) λa=>dY (fD a.1.2.2) a.1.2.1
def abO (n:Nat) (l:List Int) (p:bn):Nat->cE
 |2=> .inv (Int×Int×List Int) (λx=>⟨[(0,.ow 0 n 1),(1,.si .i64 l.length),(2,.fn (.func 112) [] [.ptr 1 0 20]),(6,.si .i64 20),(7,.si .i64 x.1),(8,.si .i64 x.2.1)],[.row (.i .i64) x.2.2 3 true,.cells p.ss 27 20 false]⟩) (λs=>(iS s 7,iS s 8,oS (.i .i64) s 0))
   (λx=>x.2.1=x.1+20/\(x.1=0/\x.2.2=l\/x.1=20/\l.length=20/\x.2.2=gZ (fD p) l 0 20)) (λx=>(1000 - x.1).toNat) λ_ _=> .look
 |7=> .inv (Int×List Int) (λx=>⟨[(0,.ow 0 n 1),(1,.si .i64 l.length),(2,.fn (.func 112) [] [.ptr 1 0 20]),(6,.si .i64 x.1)],[.row (.i .i64) x.2 3 true,.cells p.ss 27 20 false]⟩) (λs=>(iS s 6,oS (.i .i64) s 0))
   (λx=>x.1=20/\x.2=dY (fD p) l) (λx=>(1000 - x.1).toNat) λ_ _=> .look
 |_=> .look
theorem h333:ec Tryz.prog I4:=by
 refine lA (L:=[]) (W:=[I1]) I4 (λa=>abO a.1.1 a.1.2.1 a.1.2.2) (by simpa using h343) (by simp) ?_;rintro⟨⟨n,l,p⟩,N⟩ ⟨⟨⟨⟨hc,hn⟩,hl,ho⟩,hi⟩,hN,h20⟩;simp only at hc hn hl ho hi hN h20;subst hN;refine bO (let a:=γh .i64;let b:=(20:Int);let c:=bq.row;let d:=(0:Int);let e:=γx .i64;let g:=γZ 0 n 1;let h:=(↑l.length:Int);let j:=a h;let k:=SV.fn (Fn.func 112) [] [γO 1 0 20];let m:=a 20;let v:=e 0;let o:=bp.i .i64;let w:=c o l 3 true;let f:=bq.cells [a p.supply.a0,a p.supply.a1,a p.supply.a2,a p.supply.a3,a p.supply.a4,a p.supply.a5,a p.opn.a0,a p.opn.a1,a p.opn.a2,a p.opn.a3,a p.opn.a4,a p.opn.a5,a p.cls.a0,a p.cls.a1,a p.cls.a2,a p.cls.a3,a p.cls.a4,a p.cls.a5,Ψ o p.classes,Ψ bp.off p.offers] 27 20 false;let s:=gZ (fD p) l 0 20;let t:=dY (fD p) l;(((g.same g/\j.same j/\k.same k/\(e 20).same m/\v.same (a 0)/\(e 20).same m/\True)/\w.same w/\f.same f/\True)/\b=b/\(d=d/\l=l\/d=b/\l.length=20/\l=s))/\∀(x:Int×Int×List Int),let y:=decide (x.snd.fst<=h);let q:=x.fst.toNat;let r:=x.snd.fst+b;let z:=a x.snd.fst;let A:=a r;let u:=gZ (fD p) x.snd.snd q x.snd.fst.toNat;let B:=c o u 3 true;let C:=gZ (fD p) x.snd.snd q h.toNat;let D:=c o C 3 true;x.snd.fst=x.fst+b/\(x.fst=d/\x.snd.snd=l\/x.fst=b/\l.length=20/\x.snd.snd=s)->(y=true->(vX (n,x.snd.snd,p)/\I0 x.snd.snd x.fst x.snd.fst/\ζx (λx1 x2 ↦x1<x2) (seg x.snd.snd q x.snd.fst.toNat))/\cq .i64 r/\((g.same g/\j.same j/\k.same k/\m.same m/\z.same z/\A.same A/\True)/\B.same B/\f.same f/\True)/\(r=r/\(x.snd.fst=d/\u=l\/x.snd.fst=b/\l.length=20/\u=s))/\((1000:Int) - x.snd.fst).toNat<((1000:Int) - x.fst).toNat)/\(y=false->(vX (n,x.snd.snd,p)/\I0 x.snd.snd x.fst h/\ζx (λx1 x2 ↦x1<x2) (seg x.snd.snd q h.toNat))/\(((g.same g/\j.same j/\k.same k/\m.same m/\True)/\D.same D/\f.same f/\True)/\b=b/\C=t)/\∀(x:Int×List Int),let E:=c o x.snd 3 true;x.fst=b/\x.snd=t->(decide (x.fst<h)=true->cq .i64 ((2:Int)*x.fst)/\Look (cu.mk [(0,g),(1,j),(2,k),(6,a x.fst),(7,v),(8,a ((2:Int)*x.fst))] [E,f]))/\(decide (x.fst<h)=false->(SV.bI []).same (SV.bI [])/\E.same (c o t 3 true)/\f.same f/\True))) (by kernel_rfl) ?_;simp only[vcs];have pw:∀a b,(seg l a b).Pairwise (·<·):=λa b=>List.Pairwise.sublist ((List.take_sublist _ _).trans (List.drop_sublist _ _)) hi;have e0:((l.length:Int)).toNat=l.length:=by omega
 rw[e0];refine⟨.inl trivial,?_⟩;rintro⟨a,b,w⟩ ⟨hb,hw⟩;simp only at hb hw ⊢;subst hb;refine⟨λh=>?_,λh=>?_⟩
 ·rcases hw with⟨rfl,rfl⟩|⟨rfl,h2,rfl⟩;·refine⟨⟨⟨⟨hc,hn⟩,hl,ho⟩,⟨?_,?_,?_⟩,pw _ _⟩,?_,.inr ⟨?_,?_,rfl⟩,?_⟩<;>omega
  ·omega
 ·refine⟨?_,?_,?_⟩
  ·rcases hw with⟨rfl,rfl⟩|⟨rfl,h2,rfl⟩;·refine⟨⟨⟨hc,hn⟩,hl,ho⟩,⟨?_,?_,?_⟩,pw _ _⟩<;>omega
   ·have hw:=@Ri (fD p) l 0 20 (by omega) (by omega);exact⟨⟨⟨hc,by simp only[hw];exact hn⟩,by simp only[hw];exact hl,λx hx=>ho x (abI hx)⟩,⟨by omega,by omega,by rw[hw];omega⟩,by rw[abN (by omega) (by omega)];exact pw _ _⟩
  ·rcases hw with⟨rfl,rfl⟩|⟨rfl,h2,rfl⟩;·exact Rr rfl
   ·rw[h2];show gZ _ _ 20 20=_;rw[Rk];exact Rr h2.symm
  ·rintro⟨s,w⟩ hw;simp only at hw ⊢;exact⟨λh=>by omega,λh=>Rq hw.2⟩
def I5:dH:=IY 111 0 Unit DN I3 (λ_=>rfl) abL abM (λa=>(vX a.1/\a.1.2.1.Pairwise (·<·))/\a.1.2.1.length<=20) λa=>dY (fD a.1.2.2) a.1.2.1
theorem h319:ec Tryz.prog I5:=by
 refine lA (L:=[]) (W:=[I4]) I5 lk (by simpa using h333) (by simp) ?_;rintro⟨⟨n,l,p⟩,u⟩ ⟨⟨⟨⟨hc,hn⟩,hl,ho⟩,hi⟩,h20⟩;simp only at hc hn hl ho hi h20;refine bO (let a:=bq.row (bp.i .i64) (dY (fD p) l) 3 true;let b:=bq.cells (bn.ss p) 27 20 false;((vX (n,l,p)/\ζx (λx1 x2 ↦x1<x2) l)/\(↑n:Int)=(↑l.length:Int)/\l.length<=20)/\(SV.bI []).same (SV.bI [])/\a.same a/\b.same b/\True) (by kernel_rfl) ?_;simp only[vcs];exact⟨⟨⟨⟨hc,hn⟩,hl,ho⟩,hi⟩,by omega,h20⟩
def dm (n:Nat):List Int:=(ω n).map λi:Nat=>(i:Int)
theorem iP {n:Nat}:(dm n).length=n:=by simp[dm]
theorem sP {n:Nat}:dm (n+1)=dm n++[(n:Int)]:=by simp[dm,εd]
theorem rD {n:Nat}:(dm n).Pairwise (·<·):=by
 unfold dm;rw[List.pairwise_map];exact List.pairwise_lt_range.imp λh=>by omega
theorem kK {n:Nat} {x:Int}:x∈dm n↔0<=x/\x<n:=by
 unfold dm;rw[List.mem_map];constructor;·grind
 ·rintro⟨b,a⟩;exact⟨x.toNat,γy.2 (by omega),by omega⟩
def mK (n i:Nat):List Int:=dm i++δ (n - i) 0
theorem Rt {n i:Nat} (h:i<=n):(mK n i).length=n:=by grind[mK,iP]
theorem abP {n:Nat}:mK n 0=δ n 0:=by simp[mK,dm]
theorem abQ {n:Nat}:mK n n=dm n:=by simp[mK]
theorem abR {n i:Nat} (h:i<n):(mK n i).set i (i:Int)=mK n (i+1):=by
 unfold mK;rw[List.set_append_right _ _ (by grind[iP]),iP,Nat.sub_self,show n - i=(n - (i+1))+1 by omega,List.replicate_succ,List.set_cons_zero,sP,γU];rfl
def vY (p:bn):List Int:=dY (fD p) (dm p.offers.length)
def I6:bM:=⟨76,bn,.one dK,λp=>p.offers.length<=20,λp=> .row (.i .i64) (if bz p=0 then vY p else[])⟩
def abS (p:bn):Nat->cE
 |5=> .inv Int (λi=>⟨[(1,.ptr 0 0 20),(3,.ow 1 (mK p.offers.length i.toNat).length 1),(13,.si .i64 p.offers.length),(14,.si .i64 i)],[.cells p.ss 27 20 false,.row (.i .i64) (mK p.offers.length i.toNat) 3 true]⟩)
   (λs=>iS s 14) (λi=>0<=i/\i<=p.offers.length) (λi=>(p.offers.length - i).toNat) λ_ _=> .look
 |_=> .look
theorem h308:Holds Tryz.prog I6:=by
 refine con (L:=[o7]) (W:=gK [I5]) I6 abS (kZ (by simpa using h319)) (by simpa using h79) ?_;intro(p:bn) (hp:p.offers.length<=20);refine bO (let a:=γh .i64;let b:=(0:Int);let c:=bq.row;let d:=Ψ;let e:=γZ;let r:=decide (bz p≠b);let g:=bp.i .i64;let s:=d g (if bz p=b then vY p else[]);let h:=(↑p.offers.length:Int);let n:=γO 0 0 20;let l:=p.offers.length;let j:=(↑l:Int);let q:=a j;let o:=bq.cells [a p.supply.a0,a p.supply.a1,a p.supply.a2,a p.supply.a3,a p.supply.a4,a p.supply.a5,a p.opn.a0,a p.opn.a1,a p.opn.a2,a p.opn.a3,a p.opn.a4,a p.opn.a5,a p.cls.a0,a p.cls.a1,a p.cls.a2,a p.cls.a3,a p.cls.a4,a p.cls.a5,d g p.classes,d bp.off p.offers] 27 20 false;True/\(r=true->(d g []).same s)/\(r=false->b<=h/\h<=h/\h*(8:Int)<=(140737488355328:Int)/\h<=(1000000000000:Int)/\(((n.same n/\(e 1 h.toNat 1).same (e 1 (mK l 0).length 1)/\(a (↑h.toNat:Int)).same q/\(γx .i64 0).same (a 0)/\True)/\o.same o/\(c g (δ h.toNat b) 3 true).same (c g (mK l 0) 3 true)/\True)/\b<=b/\b<=j)/\∀(x:Int),let f:=mK l x.toNat;let m:=f.length;let k:=x+(1:Int);let t:=a k;b<=x/\x<=j->(decide (x<j)=true->m=f.length/\b<=x/\x<(↑f.length:Int)/\m=f.length/\x.toNat<f.length/\cq .i64 k/\((n.same n/\(e 1 m 1).same (e 1 (mK l k.toNat).length 1)/\q.same q/\t.same t/\True)/\o.same o/\(c g (f.set x.toNat x) 3 true).same (c g (mK l k.toNat) 3 true)/\True)/\(b<=k/\k<=j)/\(j - k).toNat<(j - x).toNat)/\(decide (x<j)=false->((vX (m,f,p)/\ζx (λx1 x2 ↦x1<x2) f)/\m<=20)/\m=(dY (fD p) f).length/\(d g (dY (fD p) f)).same s))) (by kernel_rfl) ?_;simp only[vcs];refine⟨λh=>by rw[if_neg h],λh=>?_⟩;have hc:bz p=0:=γg.1 h;rw[if_pos hc];have e0:((p.offers.length:Int)).toNat=p.offers.length:=by omega
 have how:∀{x y:Nat},x=y->(γZ 1 x 1).same (γZ 1 y 1):=by rintro _ _ rfl;rfl
 rw[e0,abP];refine⟨by omega,by omega,by omega,by omega,⟨⟨⟨how (by simp),rfl⟩,rfl⟩,by omega,by omega⟩,?_⟩;rintro i ⟨i0,i1⟩;have hL:=@Rt p.offers.length i.toNat (by omega);refine⟨λhi=>?_,λhi=>?_⟩
 ·have hs:=@abR p.offers.length i.toNat (by omega);rw[show((i.toNat:Nat):Int)=i by omega] at hs;have hL2:=@Rt p.offers.length (i.toNat+1) (by omega);rw[show(i+1).toNat=i.toNat+1 by omega,hs];exact⟨i0,by omega,by omega,by omega,⟨how (by omega),rfl⟩,by omega,by omega⟩
 ·rw[show i.toNat=p.offers.length by omega,abQ];refine⟨⟨⟨⟨⟨hc,rfl⟩,by simp only[iP];omega,λx hx=>by have:=kK.1 hx;exact this⟩,rD⟩,by simp only[iP];omega⟩,by rw[sO],rfl⟩
end Go.Vi
namespace Go.Proofs
open Go.Shelf
def Tryz.layS_ren:Ren:=
 ⟨λ
  |189=>57
  |125=>69
  |257=>82
  |128=>98
  |129=>99
  |294=>117
  |295=>118
  |296=>119
  |297=>120
  |298=>121
  |299=>122
  |216=>123
  |300=>124
  |301=>125
  |328=>151
  |329=>127
  |330=>128
  |331=>152
  |332=>153
  |215=>154
  |343=>174
  |n=>n,
 λ
  |28=>24
  |3=>3
  |46=>55
  |0=>0
  |51=>172
  |53=>53
  |4=>4
  |183=>165
  |182=>164
  |131=>169
  |5=>5
  |9=>9
  |218=>209
  |222=>213
  |228=>246
  |229=>109
  |n=>n,
 λn=>n⟩
def Tryz.layC_ren:Ren:=
 ⟨λ
  |41=>52
  |n=>n,
 λ
  |22=>24
  |23=>3
  |4=>4
  |n=>n,
 λn=>n⟩
def Tryz.layD_ren:Ren:=
 ⟨λ
  |45=>147
  |n=>n,
 λ
  |22=>24
  |23=>3
  |3=>3
  |4=>4
  |0=>0
  |n=>n,
 λn=>n⟩
def Tryz.layR_ren:Ren:=
 ⟨λ
  |6=>50
  |15=>69
  |14=>68
  |28=>98
  |29=>99
  |20=>90
  |21=>91
  |22=>92
  |23=>93
  |24=>94
  |25=>95
  |26=>96
  |27=>97
  |46=>126
  |47=>127
  |48=>128
  |49=>129
  |50=>130
  |57=>155
  |n=>n,
 λ
  |22=>30
  |24=>24
  |25=>34
  |3=>3
  |39=>55
  |0=>0
  |53=>172
  |55=>53
  |4=>4
  |46=>165
  |45=>164
  |50=>169
  |5=>5
  |9=>9
  |66=>209
  |70=>213
  |76=>246
  |77=>109
  |n=>n,
 λn=>n⟩
theorem Tryz.layS:Lays.n189 Tryz.prog Tryz.layS_ren:={mixed:=by kernel_rfl,f125:=Tryz.func69.trans (by kernel_rfl),f128:=Tryz.func98.trans (by kernel_rfl),f129:=Tryz.func99.trans (by kernel_rfl),f189:=Tryz.func57.trans (by kernel_rfl),f215:=Tryz.func154.trans (by kernel_rfl),f216:=Tryz.func123.trans (by kernel_rfl),f257:=Tryz.func82.trans (by kernel_rfl),f294:=Tryz.func117.trans (by kernel_rfl),f295:=Tryz.func118.trans (by kernel_rfl),f296:=Tryz.func119.trans (by kernel_rfl),f297:=Tryz.func120.trans (by kernel_rfl),f298:=Tryz.func121.trans (by kernel_rfl),f299:=Tryz.func122.trans (by kernel_rfl),f300:=Tryz.func124.trans (by kernel_rfl),f301:=Tryz.func125.trans (by kernel_rfl),f328:=Tryz.func151.trans (by kernel_rfl),f329:=Tryz.func127.trans (by kernel_rfl),f330:=Tryz.func128.trans (by kernel_rfl),f331:=Tryz.func152.trans (by kernel_rfl),f332:=Tryz.func153.trans (by kernel_rfl),f343:=Tryz.func174.trans (by kernel_rfl),t0:=Tryz.underlying0,a0:=Tryz.isAgg0,z0:=Tryz.sizeOf0,v0:=Tryz.zeroValue0,t3:=Tryz.underlying3,a3:=Tryz.isAgg3,z3:=Tryz.sizeOf3,v3:=Tryz.zeroValue3,t4:=Tryz.underlying4,a4:=Tryz.isAgg4,z4:=Tryz.sizeOf4,v4:=Tryz.zeroValue4,t5:=Tryz.underlying5,a5:=Tryz.isAgg5,z5:=Tryz.sizeOf5,v5:=Tryz.zeroValue5,t9:=Tryz.underlying9,a9:=Tryz.isAgg9,z9:=Tryz.sizeOf9,v9:=Tryz.zeroValue9,t28:=Tryz.underlying24,a28:=Tryz.isAgg24,z28:=Tryz.sizeOf24,v28:=Tryz.zeroValue24,t46:=Tryz.underlying55,a46:=Tryz.isAgg55,z46:=Tryz.sizeOf55,v46:=Tryz.zeroValue55,t51:=Tryz.underlying172,a51:=Tryz.isAgg172,z51:=Tryz.sizeOf172,v51:=Tryz.zeroValue172,t53:=Tryz.underlying53,a53:=Tryz.isAgg53,z53:=Tryz.sizeOf53,v53:=Tryz.zeroValue53,t131:=Tryz.underlying169,a131:=Tryz.isAgg169,z131:=Tryz.sizeOf169,v131:=Tryz.zeroValue169,t182:=Tryz.underlying164,a182:=Tryz.isAgg164,z182:=Tryz.sizeOf164,v182:=Tryz.zeroValue164,t183:=Tryz.underlying165,a183:=Tryz.isAgg165,z183:=Tryz.sizeOf165,v183:=Tryz.zeroValue165,t218:=Tryz.underlying209,a218:=Tryz.isAgg209,z218:=Tryz.sizeOf209,v218:=Tryz.zeroValue209,t222:=Tryz.underlying213,a222:=Tryz.isAgg213,z222:=Tryz.sizeOf213,v222:=Tryz.zeroValue213,t228:=Tryz.underlying246,a228:=Tryz.isAgg246,z228:=Tryz.sizeOf246,v228:=Tryz.zeroValue246,t229:=Tryz.underlying109,a229:=Tryz.isAgg109,z229:=Tryz.sizeOf109,v229:=Tryz.zeroValue109}
theorem Tryz.layC:SlLaysE0.n41 Tryz.prog Tryz.layC_ren:={mixed:=by kernel_rfl,f41:=⟨Tryz.f52.name,by decide,Tryz.func52.trans (by kernel_rfl)⟩,t4:=Tryz.underlying4,a4:=Tryz.isAgg4,z4:=Tryz.sizeOf4,v4:=Tryz.zeroValue4,t22:=Tryz.underlying24,a22:=Tryz.isAgg24,z22:=Tryz.sizeOf24,v22:=Tryz.zeroValue24}
theorem Tryz.layD:SlLaysE.n45 Tryz.prog Tryz.layD_ren:={mixed:=by kernel_rfl,f45:=⟨Tryz.f147.name,by decide,Tryz.func147.trans (by kernel_rfl)⟩,t0:=Tryz.underlying0,a0:=Tryz.isAgg0,z0:=Tryz.sizeOf0,v0:=Tryz.zeroValue0,t3:=Tryz.underlying3,a3:=Tryz.isAgg3,z3:=Tryz.sizeOf3,v3:=Tryz.zeroValue3,t4:=Tryz.underlying4,a4:=Tryz.isAgg4,z4:=Tryz.sizeOf4,v4:=Tryz.zeroValue4,t22:=Tryz.underlying24,a22:=Tryz.isAgg24,z22:=Tryz.sizeOf24,v22:=Tryz.zeroValue24,a23:=Tryz.isAgg3,z23:=Tryz.sizeOf3}
theorem Tryz.layR:SlLaysF.n6 Tryz.prog Tryz.layR_ren:={mixed:=by kernel_rfl,f6:=⟨Tryz.f50.name,by decide,Tryz.func50.trans (by kernel_rfl)⟩,f14:=⟨Tryz.f68.name,by decide,Tryz.func68.trans (by kernel_rfl)⟩,f15:=Tryz.func69.trans (by kernel_rfl),f20:=⟨Tryz.f90.name,by decide,Tryz.func90.trans (by kernel_rfl)⟩,f21:=⟨Tryz.f91.name,by decide,Tryz.func91.trans (by kernel_rfl)⟩,f22:=⟨Tryz.f92.name,by decide,Tryz.func92.trans (by kernel_rfl)⟩,f23:=⟨Tryz.f93.name,by decide,Tryz.func93.trans (by kernel_rfl)⟩,f24:=⟨Tryz.f94.name,by decide,Tryz.func94.trans (by kernel_rfl)⟩,f25:=⟨Tryz.f95.name,by decide,Tryz.func95.trans (by kernel_rfl)⟩,f26:=⟨Tryz.f96.name,by decide,Tryz.func96.trans (by kernel_rfl)⟩,f27:=⟨Tryz.f97.name,by decide,Tryz.func97.trans (by kernel_rfl)⟩,f28:=Tryz.func98.trans (by kernel_rfl),f29:=Tryz.func99.trans (by kernel_rfl),f46:=⟨Tryz.f126.name,by decide,Tryz.func126.trans (by kernel_rfl)⟩,f47:=Tryz.func127.trans (by kernel_rfl),f48:=Tryz.func128.trans (by kernel_rfl),f49:=⟨Tryz.f129.name,by decide,Tryz.func129.trans (by kernel_rfl)⟩,f50:=⟨Tryz.f130.name,by decide,Tryz.func130.trans (by kernel_rfl)⟩,f57:=⟨Tryz.f155.name,by decide,Tryz.func155.trans (by kernel_rfl)⟩,t0:=Tryz.underlying0,a0:=Tryz.isAgg0,z0:=Tryz.sizeOf0,v0:=Tryz.zeroValue0,t3:=Tryz.underlying3,a3:=Tryz.isAgg3,z3:=Tryz.sizeOf3,v3:=Tryz.zeroValue3,t4:=Tryz.underlying4,a4:=Tryz.isAgg4,z4:=Tryz.sizeOf4,v4:=Tryz.zeroValue4,t5:=Tryz.underlying5,a5:=Tryz.isAgg5,z5:=Tryz.sizeOf5,v5:=Tryz.zeroValue5,t9:=Tryz.underlying9,a9:=Tryz.isAgg9,z9:=Tryz.sizeOf9,v9:=Tryz.zeroValue9,t22:=Tryz.underlying30,a22:=Tryz.isAgg30,z22:=Tryz.sizeOf30,v22:=Tryz.zeroValue30,a24:=Tryz.isAgg24,z24:=Tryz.sizeOf24,t25:=Tryz.underlying34,a25:=Tryz.isAgg34,z25:=Tryz.sizeOf34,v25:=Tryz.zeroValue34,t39:=Tryz.underlying55,a39:=Tryz.isAgg55,z39:=Tryz.sizeOf55,v39:=Tryz.zeroValue55,t45:=Tryz.underlying164,a45:=Tryz.isAgg164,z45:=Tryz.sizeOf164,v45:=Tryz.zeroValue164,t46:=Tryz.underlying165,a46:=Tryz.isAgg165,z46:=Tryz.sizeOf165,v46:=Tryz.zeroValue165,t50:=Tryz.underlying169,a50:=Tryz.isAgg169,z50:=Tryz.sizeOf169,v50:=Tryz.zeroValue169,t53:=Tryz.underlying172,a53:=Tryz.isAgg172,z53:=Tryz.sizeOf172,v53:=Tryz.zeroValue172,t55:=Tryz.underlying53,a55:=Tryz.isAgg53,z55:=Tryz.sizeOf53,v55:=Tryz.zeroValue53,t66:=Tryz.underlying209,a66:=Tryz.isAgg209,z66:=Tryz.sizeOf209,v66:=Tryz.zeroValue209,t70:=Tryz.underlying213,a70:=Tryz.isAgg213,z70:=Tryz.sizeOf213,v70:=Tryz.zeroValue213,t76:=Tryz.underlying246,a76:=Tryz.isAgg246,z76:=Tryz.sizeOf246,v76:=Tryz.zeroValue246,t77:=Tryz.underlying109,a77:=Tryz.isAgg109,z77:=Tryz.sizeOf109,v77:=Tryz.zeroValue109}
end Go.Proofs
namespace Go.Proofs
open Go.Shelf Go.RowKit Go.Lib
theorem Ru {P:Program} {ρ:Ren} (L:SlLaysE0.n41 P ρ) (i0:TypeInfo) (z:Value) (b g:Nat) (I:P.info? (ρ.t 23)=some i0) (x:i0.zero=some z) (y:i0.size=b) (q:i0.bytes=g) (m:z.cells.size=b) (o:0<b)
  (Q:∀w,(Go.sizeOf (ρ.t 23)).run P w= .ok b w) (p:Addr) (n c:Nat) (d:List Value) (w:World) (K:d.length=n*b) (U:n<=maxLen) (B:n*g<=140737488355328)
  (C:∀j u,d[j]?=some u->w.cell? (p.add j)=some u) (E:∀u∈d,u.oneCell'=true):
  Calls P (ρ.f 41) #[.slice (some p) n c] w λe w'=>∃l,e= .returned l/\w'.ownsRow w.heap.size (ρ.t 23) b l n d/\l≠ .slice none 0 0/\Below w.heap.size w w':=by
 have v:=L.mixed;have W:=L.t4;have V:=L.a4;have T:=L.z4;have S:=L.v4;have i:=L.t22;have N:=L.a22;have O:=L.z22;have H:=L.v22;have G:∀(w:World) (a:Option Addr) (n c r s:Nat),(binOp .eql (ρ.t 22) (.slice a n c) (.slice none r s)).run P w= .ok (.bool a.isNone) w:=λw a n c r s=>Lib.run_eql_slice_nil w _ _ a n c r s L.t22;have F:∀w,Sem.run P (underlying (ρ.t 22)) w= .ok (TypeDesc.slice (ρ.t 23)) w:=run_underlying i;have A:Aside (∀j u,d[j]?=some u->w.cell? (p.add j)=some u):=C;clear C;obtain⟨_,_,M⟩:=L.f41;go_enter M,SlBodyN.n41_ntmps ρ;go_wp2_with (at_builtin;refine wpList_append_own _ rfl _ _ (ρ.t 22) rfl w.heap.size (ρ.t 23) i0 z b g i I x y q m o _ _ _ rfl (World.ownsRow_made w #[] 0 (ξ _) (δ2 _) (by simp)) p n c d rfl ?qc1 ?qc2 ?qc3 ?qc4 ?qc5 ?qc6 ?_);case qc1=>exact K
 case qc2=>
  intro j u J;exact Lib.cell?_alloc_some _ (A.out j u J)
 case qc3=>exact E
 case qc4=>omega
 case qc5=>simp_all
 case qc6=>simp
 intro l R D h k;go_wp2;go_ret;refine⟨l,rfl,by omega,?_,?_⟩;·exact k
 ·exact((Below.refl _ w).alloc (ξ _) _).grown h (by simp) (by grind[Value.ownBlock])
end Go.Proofs
namespace Go.Vi
open Go.Proofs.YtbnhiekmnpikhaaGreat.Ir
open Go.Proofs
theorem mL (l:List Int):cB (.i .i64) l=l.map λx=>δe (.int .i64 x):=by
 unfold cB;induction l with
 |nil=>rfl;|cons x l a=>rw[List.flatMap_cons,a];rfl
theorem Rw {A:dN} {w:World} {σ:bW} {l:List Int} {e:TypeId} (d:bT A w σ [.cells (l.map λx=>δe (.int .i64 x)) e 1 true]) (s:1<=l.length):
  ∃b cap arr,σ=[some (b,cap)]/\cap<=maxLen/\w.heap[b]?=some (.cells arr e (0,0))/\arr.size=cap/\l.length<=cap/\arr.toList.take l.length=l.map (Value.int .i64):=by
 have f:=d.obj 0 _ rfl;simp only[dE] at f;obtain⟨_,_,h|⟨b,cap,arr,a,n,g,r,p,i⟩⟩:=f;·simp_all
 ·have c:=d.len;simp at c;have m:l.length<=arr.size:=by simp_all
  refine⟨b,cap,arr,?_,n,g,by omega,by omega,?_⟩;·match σ,c,a with
   |[x],_,a=>simp_all
  ·apply List.ext_getElem?;intro j;by_cases k:j<l.length
   ·obtain⟨v,o,q⟩:=i j (.sc (.int .i64 l[j])) (by simp[k]);grind[bw]
   simp_all
def dZ (l:List Int):List Int:=l.mergeSort λx y=>decide (x<=y)
theorem rE {l:List Int}:(dZ l).length=l.length:=(δs _ _).length_eq
def AA:dH where
 f:=57;α:=Nat×List Int;put a:=[.ow 0 a.1 1];st a:=[.row (.i .i64) a.2 3 true];dec v o:=match v,o with
  |[.ow 0 n 1],[.row t l 3 true]=>match iG t (.i .i64) l with
   |some l=>some (n,l)
   |_=>none
  |_,_=>none;ok v o a h:=by
  split at h
  ·split at h
   ·rename_i h4;simp only[γ] at h;subst h;obtain⟨rfl,hh⟩:=mG h4;cases hh;exact⟨rfl,rfl⟩
   ·cases h
  ·cases h
 inj a b e1 e2:=by
  obtain⟨n,l⟩:=a;obtain⟨n',l'⟩:=b;simp only[gL,Γ,γB,εx,true_and] at e1;simp only[gO,π,γq,bq.g,Γ,bR.cells.injEq,and_true,true_and] at e2;have h4:l=l':=by
   have hf:=congrArg γc e2;rw[eY,eY] at hf;exact lz (.i .i64) (by simpa[bp.sz] using hf) e2
  rw[e1.1.1,h4]
 dom a:=a.1=a.2.length/\1<=a.2.length/\a.2.length<=1000000;res _:=.bI [];out a:=[.row (.i .i64) (dZ a.2) 3 true]
theorem h337:ec Tryz.prog AA:=by
 rintro⟨n,l⟩ ⟨E,H,V⟩;simp only at E H V;subst E;refine⟨by kernel_rfl,?_⟩;intro A w F Q q s;have C:∀m:List Int,gO [bq.row (.i .i64) m 3 true]=[bR.cells (m.map λx=>δe (.int .i64 x)) 3 1 true]:=λm=>by
  simp only[gO,π,γq,bq.g,mL];rfl
 have T:gL (AA.put (l.length,l))=[.os 0 0 l.length (l.length*1)]:=rfl;show Calls _ _ _ _ λe h=>∃u p,e= .returned u/\bT A h p (gO [bq.row (.i .i64) (dZ l) 3 true])/\bw A h p (gO [bq.row (.i .i64) (dZ l) 3 true]) (.bI []) u/\Ext w F (gO [bq.row (.i .i64) l 3 true]) h p (gO [bq.row (.i .i64) (dZ l) 3 true]);replace q:bT A w F (gO [bq.row (.i .i64) l 3 true]):=q;replace s:bG A w F (gO [bq.row (.i .i64) l 3 true]) (gL (AA.put (l.length,l))) Q:=s;rw[C] at q s;rw[C,C];rw[T] at s;obtain⟨b,Y,d,rfl,U,L,q4,q5,N⟩:=Rw q H;simp only[bG] at s;obtain⟨v,r,rfl,I,rfl⟩:=s;simp only[bw] at I;obtain⟨O,a,y,rfl,a0,B⟩:=I;have K:=B 1 ⟨_,_,_,rfl,by simp⟩;simp only[kD,δm] at K;obtain⟨rfl,rfl⟩:=K.2.1 trivial trivial (by omega);have P:b<w.heap.size:=q.bnd 0 b y rfl;have R:=holds_of_blockI (ss:=l) L N;have S:Calls Tryz.prog (AA).f #[.slice (some ⟨b,0,none⟩) l.length y] w λe h=>e= .returned (.tuple #[])/\∃n z,h=Sort.grow (Sort.putRow (Value.int .i64) (Sort.ahead w n) b 0 (dZ l).toArray) z:=
  calls_of_every_depth λD=>AnyS.slices_Sort_int_in Tryz.layS D b 0 y l w R P (by omega);refine Calls.mono S ?_;rintro e h ⟨rfl,n,z,rfl⟩;have t:=grownBy_sortedI (w:=w) (g:=b) (n:=n) (os:=z) (dZ l).toArray;have W:=heap_sortedI (w:=w) (n:=n) (os:=z) (dZ l).toArray L;have X:=take_putCellsI d (dZ l) (by rw[rE];omega);have hz:(Sort.putCells (Value.int .i64) 0 (dZ l).toArray d).size=d.size:=by simp[Sort.putCells]
 generalize Sort.grow (Sort.putRow (Value.int .i64) (Sort.ahead w n) b 0 (dZ l).toArray) z=h at*;generalize Sort.putCells (Value.int .i64) 0 (dZ l).toArray d=o at*;have hU:=q.upd (w':=h) (id:=0) (x':=.cells ((dZ l).map λx=>δe (.int .i64 x)) 3 1 true) (s':=some (b,y)) rfl t.size t.os t.tape t.output
  (λk M E=>t.block k M λe=>by simp_all) (λb' c' e=>by simp_all)
  ⟨_,_,_,rfl,by simp[rE],λ_=>rfl⟩ ?_;·grind[bw,bG]
 ·intro hx;simp only[dE];refine⟨λ_=>by rw[<-mL];grind[nV],by rw[<-mL];grind[CJ],.inr ⟨b,y,o,rfl,U,W,by omega,by grind[rE],?_⟩⟩;intro j c J;rw[γD] at J;obtain⟨x,G,rfl⟩:=ε.1 J;have Z:=(ζ.1 G).1;refine⟨.int .i64 x,?_,by simp[bw,Value.oneCell']⟩;have h9:(o.toList.take (dZ l).length)[j]?=((dZ l).map (Value.int .i64))[j]?:=by rw[X]
  grind
theorem Rx {A:dN} {w:World} {l:List Int} {vs:List Value} {m:FuncId} (n:m=Tryz.layC_ren.f 41) (N:bT A w [] []) (K:l.length<=1000000) (B:bG A w [] [] [.sl l.length (l.map λx=>δe (.int .i64 x))] vs):
  Calls Tryz.prog m vs.toArray w λe w'=>RowKit.Below w.heap.size w w'/\((e= .returned (.slice none 0 0)/\l=[])\/∃g cap c,e= .returned (.slice (some ⟨g,0,none⟩) l.length cap)/\w.heap.size<=g/\w'.heap[g]?=some (.cells c 3 (0,0))/\l.length<=cap/\cap<=maxLen/\c.size=cap/\c.toList.take l.length=l.map (Value.int .i64)):=by
 subst n;simp only[bG] at B;obtain⟨v,r,rfl,t,rfl⟩:=B;simp only[bw] at t;obtain⟨a,cap,rfl,q,_,C⟩:=t;cases a with
 |none=>
  have z:l=[]:=by
   cases l<;>grind[dq]
  grind[Calls.mono,AnyE.slices_Clone_nil,Tryz.layC,RowKit.Below.refl];|some p=>
  have H:∀j u,(l.map (Value.int .i64))[j]?=some u->w.cell? (p.add j)=some u:=by
   intro j u s;rw[γD] at s;obtain⟨x,F,rfl⟩:=ε.1 s;obtain⟨b,v,e,_,o,y⟩:=dq.get _ _ _ C j (.sc (.int .i64 x)) (by simp[F]);grind[bw]
  refine Calls.mono (Ru Tryz.layC Tryz.t3 (.int .i64 0) 1 8 (by kernel_rfl) (by kernel_rfl) (by kernel_rfl) (by kernel_rfl) (by kernel_rfl) (by omega) Tryz.sizeOf3 p l.length cap (l.map (Value.int .i64)) w (by simp) (by grind[maxLen]) (by omega) H (by simp[Value.oneCell'])) ?_;rintro e w' ⟨L,rfl,k,E,i⟩;refine⟨i,.inr ?_⟩;obtain⟨_,h|⟨g,d,c,rfl,J,I,D,G,M,O⟩⟩:=k;·simp_all
  ·exact⟨g,d,c,rfl,J,I,D,G,by omega,by simp_all⟩
def AB:bM:=⟨52,List Int,.one (dF (.i .i64)),λl=>l.length<=1000000,λl=> .row (.i .i64) l⟩
theorem h330:Holds Tryz.prog AB:=by
 intro(l:List Int) (hl:l.length<=1000000);refine⟨by kernel_rfl,?_⟩;intro A w σ vs hS hR;have hσ:σ=[]:=by have:=hS.len;simpa using this
 subst hσ;have e1:gL (AB.A.put l)=[.sl l.length (l.map λx=>δe (.int .i64 x))]:=by rw[<-mL];rfl
 have e2:(AB.res l).G= .sl l.length (l.map λx=>δe (.int .i64 x)):=by rw[<-mL];rfl
 rw[e1] at hR;rw[e2];refine Calls.mono (Rx (by rfl) hS hl hR) ?_;rintro e w' ⟨hb,h⟩;have hS':bT A w' [] []:=⟨rfl,by simp,by simp,by simp,by simp,λb h=>γi (hS.jE b h) hb.size⟩;have hE:Ext w [] [] w' [] []:=⟨hb.size,λb h _=>⟨hb.block b h,λ⟨i,c,hi⟩=>by simp at hi⟩,ξ _,λ_ _ ⟨_,_,_,_,h,_⟩=>by simp at h,λ_ ⟨_,_,_,h⟩=>by simp at h,hb.os,hb.tape,hb.output⟩;rcases h with⟨rfl,rfl⟩|⟨g,cap,cur,rfl,h1,h2,h3,h4,h5,h6⟩;·exact⟨_,[],rfl,hS',by simp only[bw];exact⟨none,0,rfl,by simp,by rw[<-mL];exact nV _ _,by simp[dq]⟩,hE⟩
 ·refine⟨_,[],rfl,hS',?_,hE⟩;simp only[bw];refine⟨_,_,rfl,h3,by rw[<-mL];exact nV _ _,dq.kY _ _ _ λi c hi=>?_⟩;rw[γD] at hi;obtain⟨x,hx,rfl⟩:=ε.1 hi;have hil:=(ζ.1 hx).1;have h9:(cur.toList.take l.length)[i]?=(l.map (Value.int .i64))[i]?:=by rw[h6]
  rw[List.getElem?_take_of_lt hil,Array.getElem?_toList,γD,hx] at h9;refine⟨⟨g,0,none⟩,.int .i64 x,rfl,⟨λ⟨i,c,hi⟩=>by simp at hi,λhA=>by have:=hS.jE g hA;omega⟩,?_,by simp[bw,Value.oneCell']⟩;rw[Addr.add_lit];simp only[World.cell?,h2,Nat.zero_add,Option.isSome_none,Bool.false_eq_true,if_false];exact h9
def vZ:dH where
 f:=52;α:=List Int;put a:=[.row (.i .i64) a];st a:=[];dec v o:=match v,o with
  |[.row t l],[]=>iG t (.i .i64) l
  |_,_=>none;ok v o a h:=by
  split at h
  ·obtain⟨rfl,hh⟩:=mG h;cases hh;exact⟨rfl,rfl⟩
  ·cases h
 inj a b e1 e2:=by
  simp only[gL,Γ,γB,δ3,and_true] at e1;exact lz (.i .i64) (by simpa using e1.1) e1.2
 dom a:=a.length<=1000000;res a:=.ow 0 a.length 1;out a:=[.row (.i .i64) a 3 true]
theorem h330o:ec Tryz.prog vZ:=by
 intro(l:List Int) (E:l.length<=1000000);refine⟨by kernel_rfl,?_⟩;intro A w s G k p;replace k:bT A w s []:=k;replace p:bG A w s [] (gL (vZ.put l)) G:=p;have q:s=[]:=by have:=k.len;simp_all
 subst q;have F:gL (vZ.put l)=[.sl l.length (l.map λx=>δe (.int .i64 x))]:=by rw[<-mL];rfl
 have B:(vZ.res l).g= .os 0 0 l.length (l.length*1):=rfl;have D:gO (vZ.out l)=[bR.cells (l.map λx=>δe (.int .i64 x)) 3 1 true]:=by rw[<-mL];rfl
 rw[F] at p;rw[B,D];show Calls _ _ _ _ λe n=>∃u f,e= .returned u/\bT A n f [bR.cells (l.map λx=>δe (.int .i64 x)) 3 1 true]/\bw A n f [bR.cells (l.map λx=>δe (.int .i64 x)) 3 1 true] (.os 0 0 l.length (l.length*1)) u/\Ext w [] [] n f [bR.cells (l.map λx=>δe (.int .i64 x)) 3 1 true];refine Calls.mono (Rx (by rfl) k E p) ?_;rintro e n ⟨d,h⟩;have t:tC [bR.cells (l.map λx=>δe (.int .i64 x)) 3 1 true] 0 (l.length*1):=⟨_,_,_,_,rfl,by simp⟩;rcases h with⟨rfl,rfl⟩|⟨g,m,o,rfl,P,z,C,J,O,I⟩
 ·refine⟨_,[none],rfl,⟨rfl,?_,?_,?_,?_,λb h=>γi (k.jE b h) d.size⟩,?_,d.size,λb h _=>⟨d.block b h,?_⟩,δ2 _,λ_ _ ⟨_,_,_,_,h,_⟩=>by simp at h,λ_ ⟨_,_,_,h⟩=>by simp at h,d.os,d.tape,d.output⟩;·grind
  ·grind
  ·intro i x a;cases i with
   |zero=>
    simp at a;subst a;simp only[dE];exact⟨λ_=>rfl,rfl,.inl (by simp)⟩;|succ i=>simp at a
  ·grind
  ·grind[bw,kD]
  ·rintro⟨i,c,a⟩;grind
 ·have L:g<n.heap.size:=(Array.getElem?_eq_some_iff.1 z).1;refine⟨_,[some (g,m)],rfl,⟨rfl,?_,?_,?_,?_,λb h=>γi (k.jE b h) d.size⟩,?_,d.size,λb h _=>⟨d.block b h,?_⟩,δ2 _,λ_ _ ⟨_,_,_,_,h,_⟩=>by simp at h,λ_ ⟨_,_,_,h⟩=>by simp at h,d.os,d.tape,d.output⟩;·grind
  ·grind
  ·intro i x a;cases i with
   |zero=>
    simp at a;subst a;simp only[dE];refine⟨λ_=>by rw[<-mL];grind[nV],by rw[<-mL];grind[CJ],.inr ⟨g,m,o,rfl,J,z,by omega,by simp;omega,?_⟩⟩;intro j c v;rw[γD] at v;obtain⟨x,r,rfl⟩:=ε.1 v;have H:=(ζ.1 r).1;refine⟨.int .i64 x,?_,by simp[bw,Value.oneCell']⟩;have N:(o.toList.take l.length)[j]?=(l.map (Value.int .i64))[j]?:=by rw[I]
    grind;|succ i=>simp at a
  ·intro i b c a;cases i with
   |zero=>
    simp at a;intro K;have:=k.jE b K;omega;|succ i=>simp at a
  ·simp only[bw];refine⟨t,_,_,rfl,C,λM y=>?_⟩;obtain⟨_,_,_,y,_⟩:=y;grind[kD,pD]
  ·rintro⟨i,c,a⟩;grind
def lG (l:List Int) (i j:Nat):List Int:=l.take i++l.drop j++δ (j - i) 0
theorem Ry {l:List Int} {i j:Nat} (a:i<=j) (b:j<=l.length):(lG l i j).length=l.length:=by
 grind[lG]
def v7:dH where
 f:=147;α:=(Nat×List Int)×Int×Int;put a:=[.ow 0 a.1.1 1,.si .i64 a.2.1,.si .i64 a.2.2];st a:=[.row (.i .i64) a.1.2 3 true];dec v o:=match v,o with
  |[.ow 0 n 1,x,y],[.row t l 3 true]=>match iG t (.i .i64) l,x.int .i64,y.int .i64 with
   |some l,some i,some j=>some ((n,l),i,j)
   |_,_,_=>none
  |_,_=>none;ok v o a h:=by
  split at h
  ·split at h
   ·rename_i h4 h5 h6;simp only[γ] at h;subst h;obtain⟨rfl,hh⟩:=mG h4;cases hh;refine⟨?_,rfl⟩;simp only[gL,iN h5,iN h6];rfl
   ·cases h
  ·cases h
 inj a b e1 e2:=by
  obtain⟨⟨n,l⟩,i,j⟩:=a;obtain⟨⟨n',l'⟩,i',j'⟩:=b;simp only[gL,Γ,γB,εx,true_and,and_true,δb,Value.int.injEq] at e1;simp only[gO,π,γq,bq.g,Γ,bR.cells.injEq,and_true,true_and] at e2;have h4:l=l':=by
   have hf:=congrArg γc e2;rw[eY,eY] at hf;exact lz (.i .i64) (by simpa[bp.sz] using hf) e2
  rw[e1.1.1,h4,e1.2.1,e1.2.2]
 dom a:=(a.1.1=a.1.2.length/\1<=a.1.2.length/\a.1.2.length<=1000000)/\0<=a.2.1/\a.2.1<=a.2.2/\a.2.2<=a.1.2.length;res a:=.os 0 0 (a.1.2.length - (a.2.2 - a.2.1).toNat) a.1.1 1;out a:=[.row (.i .i64) (lG a.1.2 a.2.1.toNat a.2.2.toNat) 3 true]
theorem h347:ec Tryz.prog v7:=by
 rintro⟨⟨n,l⟩,i,j⟩ ⟨⟨H,K,h2⟩,i0,ij,Y⟩;simp only at H K h2 i0 ij Y;subst H;obtain⟨i,rfl⟩:∃k:Nat,i=k:=⟨i.toNat,by omega⟩;obtain⟨j,rfl⟩:∃k:Nat,j=k:=⟨j.toNat,by omega⟩;refine⟨by kernel_rfl,?_⟩;intro A w F X t z;have I:∀m:List Int,gO [bq.row (.i .i64) m 3 true]=[bR.cells (m.map λx=>δe (.int .i64 x)) 3 1 true]:=λm=>by
  simp only[gO,π,γq,bq.g,mL];rfl
 have V:gL (v7.put ((l.length,l),(i:Int),(j:Int)))=[.os 0 0 l.length (l.length*1),.sc (.int .i64 i),.sc (.int .i64 j)]:=rfl;have Z:(v7.res ((l.length,l),(i:Int),(j:Int))).g= .os 0 0 (l.length - (j - i)) (l.length*1):=by
  show AV.os 0 (0*1) (l.length - ((j:Int) - (i:Int)).toNat) (l.length*1)=_;simp_all
 show Calls _ _ _ _ λe h=>∃u p,e= .returned u/\bT A h p (gO [bq.row (.i .i64) (lG l i j) 3 true])/\bw A h p (gO [bq.row (.i .i64) (lG l i j) 3 true]) (v7.res ((l.length,l),(i:Int),(j:Int))).g u/\Ext w F (gO [bq.row (.i .i64) l 3 true]) h p (gO [bq.row (.i .i64) (lG l i j) 3 true]);replace t:bT A w F (gO [bq.row (.i .i64) l 3 true]):=t;replace z:bG A w F (gO [bq.row (.i .i64) l 3 true]) (gL (v7.put ((l.length,l),(i:Int),(j:Int)))) X:=z;rw[I] at t z;rw[I,I,Z];rw[V] at z;obtain⟨b,a2,d,rfl,S,Q,q4,q5,q6⟩:=Rw t K;simp only[bG] at z;obtain⟨v,r,rfl,M,v2,r2,rfl,C,v3,r3,rfl,D,rfl⟩:=z;simp only[bw] at M C D;obtain⟨a0,a,s,rfl,a3,J⟩:=M;obtain⟨rfl,_⟩:=C;obtain⟨rfl,_⟩:=D;have O:=J 1 ⟨_,_,_,rfl,by simp⟩;simp only[kD,δm] at O;obtain⟨rfl,rfl⟩:=O.2.1 trivial trivial (by omega);have hb:b<w.heap.size:=t.bnd 0 b s rfl;have W:=holds_of_blockI (ss:=l) Q q6;have T:maxLen=9223372036854775807:=rfl;have B:=@Ry l i j (by omega) (by omega);have E:Calls Tryz.prog (v7).f #[.slice (some ⟨b,0,none⟩) l.length s,.int .i64 i,.int .i64 j] w λe h=>e= .returned (.slice (some ⟨b,0,none⟩) (l.length - (j - i)) s)/\∃q,h=Sort.putRow (Value.int .i64) (Sort.ahead w q) b 0 (lG l i j).toArray:=by
  exact AnyE.slices_Delete Tryz.layD (Value.int .i64) (λ_=>rfl) 0 Tryz.zeroValue3 Tryz.t3 (by kernel_rfl) (by kernel_rfl) b 0 s i j l.toArray w W (by omega) (by omega) (by omega) (by simp;omega)
 refine Calls.mono E ?_;rintro e h ⟨rfl,q,rfl⟩;have y:=grownBy_sortedI (w:=w) (g:=b) (n:=q) (os:=#[]) (lG l i j).toArray;have L:=heap_sortedI (w:=w) (n:=q) (os:=#[]) (lG l i j).toArray Q;rw[Sort.grow_empty] at y L;have R:=take_putCellsI d (lG l i j) (by omega);have hz:(Sort.putCells (Value.int .i64) 0 (lG l i j).toArray d).size=d.size:=by simp[Sort.putCells]
 generalize Sort.putRow (Value.int .i64) (Sort.ahead w q) b 0 (lG l i j).toArray=h at*;generalize Sort.putCells (Value.int .i64) 0 (lG l i j).toArray d=o at*;have N:=t.upd (w':=h) (id:=0) (x':=.cells ((lG l i j).map λx=>δe (.int .i64 x)) 3 1 true) (s':=some (b,s)) rfl y.size y.os y.tape y.output
  (λk U H=>y.block k U λe=>by simp_all) (λb' c' e=>by simp_all)
  ⟨_,_,_,rfl,by simp[B],λ_=>rfl⟩ ?_
 ·refine⟨_,[some (b,s)],rfl,N.1,?_,N.2⟩;simp only[bw];refine⟨⟨_,_,_,_,rfl,by simp[B]⟩,_,_,rfl,by omega,λsz E=>?_⟩;obtain⟨_,_,_,E,_⟩:=E;grind[kD]
 ·intro hx;simp only[dE];refine⟨λ_=>by rw[<-mL];exact nV _ _,by rw[<-mL];exact CJ _ _,.inr ⟨b,s,o,rfl,S,L,by omega,by simp_all,?_⟩⟩;intro k c P;rw[γD] at P;obtain⟨x,G,rfl⟩:=ε.1 P;have a1:=(ζ.1 G).1;refine⟨.int .i64 x,?_,by simp[bw,Value.oneCell']⟩;have h9:(o.toList.take (lG l i j).length)[k]?=((lG l i j).map (Value.int .i64))[k]?:=by rw[R]
  grind
structure Game where
 rows:List (List Int)
 bounds:List Int
 offers:List Off
def AE:qs Game where
 put a:=.agg [.row (.bF (.i .i64)) a.rows,.row (.i .i64) a.bounds,.row .off a.offers];dec
  | .agg [r,v,x]=>match jG (.bF (.i .i64)) r,jG (.i .i64) v,jG .off x with
   |some c,some v,some x=>some ⟨c,v,x⟩
   |_,_,_=>none
  |_=>none;ok v a h:=by
  grind[γB,gL,oZ]
 inj a b h:=by
  obtain⟨c,v,x⟩:=a;obtain⟨l,k,j⟩:=b;simp only[γB,gL,AV.agg.injEq,Γ,and_true,true_and,δ3] at h;have e:=lz (.bF (.i .i64)) h.1.1 h.1.2;have d:=lz (.i .i64) h.2.1.1 h.2.1.2;have f:=lz .off h.2.2.1 h.2.2.2;rw[e,d,f]
def ya:bM:=⟨61,bn,.one dK,λ_=>True,λp=> .si .i64 (if bz p=0 then de p else 0)⟩
theorem h335:Holds Tryz.prog ya:=by
 refine cF (L:=[o7,xJ]) ya lk (by grind[h79,h157]) ?_;rintro(p:bn) -;refine bO (let c:=(0:Int);let b:=decide (bz p≠c);let a:=γh .i64 (if bz p=c then de p else c);True/\(b=true->(γx .i64 0).same a)/\(b=false->p.classes.length<=8/\(γh .i64 (de p)).same a)) (by kernel_rfl) ?_;simp only[vcs];refine⟨λh=>by rw[if_neg h],λh=>?_⟩;have c:bz p=0:=γg.1 h;rw[if_pos c];have:=(dQ c).1;omega
def iz (p:bn) (r:Int) (n:Nat):List Int:=(p.offers.take n).map (dW p r)
def DO:bM:=⟨107,bn×Int,.cons dK (.one (eZ .i64)),λa=>bz a.1=0/\0<=a.2/\a.2<de a.1,λa=> .bI [.row (.i .i64) (iz a.1 a.2 a.1.offers.length),.si .i64 (dj a.1 a.2)]⟩
def abT (a:bn×Int):Nat->cE
 |5=> .inv Int (λi=>⟨[(1,.si .i64 a.2),(4,.ow 1 (iz a.1 a.2 i.toNat).length 1),(6,.ptr 2 0 20),(20,.row .off a.1.offers),(21,.si .i64 a.1.offers.length),(22,.si .i64 i)],[.cells a.1.ss 27 20 false,.row (.i .i64) (iz a.1 a.2 i.toNat) 3 true,.cells a.1.ss 87 20 false]⟩)
   (λs=>iS s 22) (λi=>0<=i/\i<=a.1.offers.length) (λi=>(a.1.offers.length - i).toNat) λ_ _=> .look
 |_=> .look
theorem h336:Holds Tryz.prog DO:=by
 refine cF (L:=[ya,xM,xK]) DO abT (by simpa using⟨h335,h156,h158⟩) ?_;rintro⟨p,r⟩ ⟨hc,r0,r1⟩;simp only at hc r0 r1;refine bO (let a:=γh .i64;let b:=(0:Int);let c:=Ψ;let d:=bq.row;let e:=SV.bI;let f:=γZ;let g:=bp.i .i64;let l:=c bp.off p.offers;let v:=decide (r<b);let o:=γx .i64 0;let w:=[a (dj p r)];let q:=e (c g (iz p r p.offers.length)::w);let y:=decide ((if bz p=b then de p else b)<=r);let m:=γO 2 0 20;let z:=(↑p.offers.length:Int);let h:=(↑p.offers.length:Int);let s:=a h;let n:=λ(u:Nat) ↦let A:=bq.cells [a p.supply.a0,a p.supply.a1,a p.supply.a2,a p.supply.a3,a p.supply.a4,a p.supply.a5,a p.opn.a0,a p.opn.a1,a p.opn.a2,a p.opn.a3,a p.opn.a4,a p.opn.a5,a p.cls.a0,a p.cls.a1,a p.cls.a2,a p.cls.a3,a p.cls.a4,a p.cls.a5,c g p.classes,l] u 20 false;A.same A;(v=true->0=0/\(e [c g [],o]).same q)/\(v=false->True/\(y=true->0=0/\(e [c g [],o]).same q)/\(y=false->((((a r).same (a r)/\(f 1 0 1).same (f 1 (iz p r 0).length 1)/\m.same m/\l.same l/\(a z).same s/\o.same (a 0)/\True)/\n 27/\(d g [] 3 true).same (d g (iz p r 0) 3 true)/\n 87/\True)/\b<=b/\b<=h)/\∀(x:Int),let t:=bj p.offers x.toNat bp.off.dflt;let j:=iz p r x.toNat;let B:=j.length+1;let k:=x+(1:Int);let C:=j++[dW p r t];let D:=a k;b<=x/\x<=h->(decide (x<h)=true->b<=x/\x<z/\x.toNat<p.offers.length/\(p.classes.length<=8/\b<=r/\r<de p/\b<=t.bX/\t.bX<(↑p.classes.length:Int))/\j.length=j.length/\B*8<=140737488355328/\B<=1000000000000/\cq .i64 k/\(((a r).same (a r)/\(f 1 C.length 1).same (f 1 (iz p r k.toNat).length 1)/\m.same m/\l.same l/\s.same s/\D.same D/\True)/\n 27/\(d g C 3 true).same (d g (iz p r k.toNat) 3 true)/\n 87/\True)/\(b<=k/\k<=h)/\(h - k).toNat<(h - x).toNat)/\(decide (x<h)=false->(p.classes.length<=8/\b<=r/\r<de p)/\j.length=j.length/\(e (c g j::w)).same q)))) (by kernel_rfl) ?_;simp only[vcs];obtain⟨g1,g2,g3,g4,g5⟩:=dQ hc;have how:∀{x y:Nat},x=y->(γZ 1 x 1).same (γZ 1 y 1):=by rintro _ _ rfl;rfl
 have hrow:∀{x y:List Int},x=y->(bq.row (.i .i64) x 3 true).same (bq.row (.i .i64) y 3 true):=by rintro _ _ rfl;rfl
 rw[if_pos hc];refine⟨λh=>by omega,λ_=>⟨λh=>by omega,λ_=>⟨⟨?_,by omega,by omega⟩,?_⟩⟩⟩;·exact⟨how rfl,hrow rfl⟩
 ·rintro i ⟨i0,i1⟩;have hL:(iz p r i.toNat).length<=160:=by unfold iz;rw[List.length_map,γu];omega
  refine⟨λhi=>?_,λhi=>?_⟩
  ·have hx:=g5 _ (dr (d:=bp.off.dflt) (show i.toNat<p.offers.length by omega));have e:iz p r (i+1).toNat=iz p r i.toNat++[dW p r (bj p.offers i.toNat bp.off.dflt)]:=by
    unfold iz;rw[jX (d:=bp.off.dflt) i0 hi,γa];rfl
   rw[e];refine⟨i0,hi,?_,⟨g1,r0,r1,hx.1,hx.2.1⟩,?_,?_,?_,⟨how rfl,hrow rfl⟩,?_,?_⟩<;>omega
  ·rw[show i.toNat=p.offers.length by omega];exact⟨⟨g1,r0,r1⟩,rfl⟩
def l9 (p:bn) (n:Nat):List (List Int):=(ω n).map λr:Nat=>iz p r p.offers.length
def ko (p:bn) (n:Nat):List Int:=(ω n).map λr:Nat=>dj p r
def nR (p:bn):Nat:=if bz p=0 then p.classes.length+12 else 0
def cM (p:bn):Game:=⟨l9 p (nR p),ko p (nR p),p.offers⟩
theorem Rz {p:bn} {n:Nat}:(l9 p n).length=n:=by simp[l9]
theorem DR {p:bn} {n:Nat}:(ko p n).length=n:=by simp[ko]
theorem abU {p:bn} {i:Int} (h:0<=i):l9 p (i+1).toNat=l9 p i.toNat++[iz p i p.offers.length]:=by
 unfold l9;rw[show(i+1).toNat=i.toNat+1 from by omega,εd,γa];grind
theorem abV {p:bn} {i:Int} (h:0<=i):ko p (i+1).toNat=ko p i.toNat++[dj p i]:=by
 unfold ko;rw[show(i+1).toNat=i.toNat+1 from by omega,εd,γa];grind
def DT:bM:=⟨73,bn,.one dK,λ_=>True,λp=>AE.put (cM p)⟩
def abW (p:bn):Nat->cE
 |3=> .inv Int (λi=>⟨[(1,.ptr 0 0 20),(2,.ptr 1 0 3),(3,.ptr 2 0 3),(11,.si .i64 (nR p)),(12,.si .i64 i)],[.cells p.ss 27 20 false,.cells [.sc (.slice none 0 0),.sc (.slice none 0 0),.sc (.slice none 0 0)] 130 3 false,.cells [.ow 4 (l9 p i.toNat).length 1,.ow 3 (ko p i.toNat).length 1,.row .off p.offers] 130 3 false,.row (.i .i64) (ko p i.toNat) 3 true,.row (.bF (.i .i64)) (l9 p i.toNat) 24 false]⟩)
   (λs=>iS s 12) (λi=>0<=i/\i<=nR p) (λi=>(nR p - i).toNat) λ_ _=> .look
 |_=> .look
theorem h325:Holds Tryz.prog DT:=by
 refine cF (L:=[ya,DO]) DT abW (by grind[h335,h336]) ?_;rintro(p:bn) -;refine bO (let a:=γh .i64;let b:=bq.row;let h:=(0:Int);let j:=bq.cells;let l:=Ψ;let o:=γZ;let y:=γO;let w:=y 0 0 20;let s:=y 1 0 3;let t:=y 2 0 3;let g:=(↑(nR p):Int);let z:=a g;let f:=bp.i .i64;let k:=[l bp.off p.offers];let u:=j (a p.supply.a0::a p.supply.a1::a p.supply.a2::a p.supply.a3::a p.supply.a4::a p.supply.a5::a p.opn.a0::a p.opn.a1::a p.opn.a2::a p.opn.a3::a p.opn.a4::a p.opn.a5::a p.cls.a0::a p.cls.a1::a p.cls.a2::a p.cls.a3::a p.cls.a4::a p.cls.a5::l f p.classes::k) 27 20 false;let A:=SV.sc (Value.slice none 0 0);let v:=j [A,A,A] 130 3 false;True/\(((w.same w/\s.same s/\t.same t/\(a (if bz p=h then de p else h)).same z/\(γx .i64 0).same (a 0)/\True)/\u.same u/\v.same v/\(j (o 4 0 1::o 3 0 1::k) 130 3 false).same (j (o 4 (l9 p 0).length 1::o 3 (ko p 0).length 1::k) 130 3 false)/\(b f [] 3 true).same (b f (ko p 0) 3 true)/\(b f.bF [] 24 false).same (b f.bF (l9 p 0) 24 false)/\True)/\h<=h/\h<=g)/\∀(x:Int),let e:=l9 p x.toNat;let n:=e.length+1;let d:=ko p x.toNat;let m:=d.length+1;let c:=x+(1:Int);let r:=a c;let q:=e++[iz p x p.offers.length];h<=x/\x<=g->(decide (x<g)=true->(bz p=h/\h<=x/\x<de p)/\1=1/\e.length=e.length/\n*24<=140737488355328/\n<=1000000000000/\1=1/\d.length=d.length/\m*8<=140737488355328/\m<=1000000000000/\cq .i64 c/\((w.same w/\s.same s/\t.same t/\z.same z/\r.same r/\True)/\u.same u/\v.same v/\(j (o 4 q.length 1::o 3 (d++[dj p x]).length 1::k) 130 3 false).same (j (o 4 (l9 p c.toNat).length 1::o 3 (ko p c.toNat).length 1::k) 130 3 false)/\(b f (d++[dj p x]) 3 true).same (b f (ko p c.toNat) 3 true)/\(b f.bF q 24 false).same (b f.bF (l9 p c.toNat) 24 false)/\True)/\(h<=c/\c<=g)/\(g - c).toNat<(g - x).toNat)/\(decide (x<g)=false->e.length=e.length/\d.length=d.length/\(SV.agg (l f.bF e::l f d::k)).same (SV.agg [l f.bF (cM p).rows,l f (cM p).bounds,l bp.off (cM p).offers]))) (by kernel_rfl) ?_;simp only[vcs];have J:∀x:Int,0<=x->x<nR p->bz p=0/\x<de p/\nR p<=20:=by
  intro x H B;unfold nR at B ⊢;split at B
  ·rename_i G;have:=(dQ G).1;simp_all[de]
  ·omega
 have E:(if bz p=0 then de p else 0)=((nR p:Nat):Int):=by
  grind[nR,de]
 have j:∀{a C b D:Nat} {l:List Off},a=C->b=D->(bq.cells [.ow 4 a 1,.ow 3 b 1,.row .off l] 130 3 false).same (.cells [.ow 4 C 1,.ow 3 D 1,.row .off l] 130 3 false):=by rintro _ _ _ _ _ rfl rfl;rfl
 have o:∀{x y:List Int},x=y->(bq.row (.i .i64) x 3 true).same (bq.row (.i .i64) y 3 true):=by rintro _ _ rfl;rfl
 have h:∀{x y:List (List Int)},x=y->(bq.row (.bF (.i .i64)) x 24 false).same (bq.row (.bF (.i .i64)) y 24 false):=by rintro _ _ rfl;rfl
 refine⟨⟨⟨E,j rfl rfl,o rfl,h rfl⟩,by omega,by omega⟩,?_⟩;rintro i ⟨I,K⟩;refine⟨λF=>?_,λF=>?_⟩;·grind[Rz,DR,abU,abV]
 ·rw[show i.toNat=nR p by omega];rfl
def nD (g:Game):Prop:=(g.rows.length=g.bounds.length/\g.bounds.length<=1000/\g.offers.length<=1000)/\(∀r∈g.rows,r.length=g.offers.length/\∀x∈r,0<=x/\x<=1000)/\∀b∈g.bounds, -1000<=b/\b<=1000
def pQ (g:Game) (c:List Int):Prop:=∀x∈c,0<=(bj g.offers x.toNat bp.off.dflt).value/\(bj g.offers x.toNat bp.off.dflt).value<=1000000
def pe (g:Game) (c:List Int):Prop:=c.length<=1000/\∀x∈c,0<=x/\x<g.offers.length
def me (g:Game) (c:List Int) (r:Nat):Int:=(c.map λx=>bj (bj g.rows r []) x.toNat 0).sum
def li (g:Game) (c:List Int):Bool:=(ω g.bounds.length).all λr=>decide (0<=bj g.bounds r 0 - me g c r)
def dI (g:Game) (c:List Int):Int:=(c.map λx=>(bj g.offers x.toNat bp.off.dflt).value).sum
theorem RA {f:Int->Int} {c:List Int} {i:Int} (a:0<=i) (h:i<c.length):((c.take (i+1).toNat).map f).sum=((c.take i.toNat).map f).sum+f (bj c i.toNat 0):=by
 grind[jX]
theorem I7 {f:Int->Int} {c:List Int} {k:Nat} {m:Int} (b:0<=m) (h:∀x∈c,0<=f x/\f x<=m):0<=((c.take k).map f).sum/\((c.take k).map f).sum<=c.length*m:=by
 induction c generalizing k with
 |nil=>simp;|cons x c a=>
  cases k with
  |zero=>simp;exact γt (by omega) b;|succ k=>
   have i:=h x (by simp);obtain⟨g,e⟩:=a (k:=k) λy d=>h y (by simp[d]);simp only[List.take_succ_cons,π,List.sum_cons,List.length_cons];grind
def DU:bM:=⟨78,Game×List Int,.cons AE (.one (dF (.i .i64))),λa=>nD a.1/\pe a.1 a.2,λa=> .sb (li a.1 a.2)⟩
def abX (g:Game) (c:List Int):Nat->cE
 |2=> .inv Int (λi=>⟨[(1,.row (.i .i64) c),(2,.ptr 0 0 3),(10,.row (.i .i64) g.bounds),(11,.si .i64 g.bounds.length),(12,.si .i64 i)],[.cells [.row (.bF (.i .i64)) g.rows,.row (.i .i64) g.bounds,.row .off g.offers] 130 3 false]⟩)
   (λs=>iS s 12) (λi=>(0<=i/\i<=g.bounds.length)/\∀r:Nat,r<i->0<=bj g.bounds r 0 - me g c r) (λi=>(g.bounds.length - i).toNat) λi k=>match k with
   |5=> .inv (Int×Int) (λy=>⟨[(1,.row (.i .i64) c),(2,.ptr 0 0 3),(5,.si .i64 i),(6,.si .i64 y.2),(10,.row (.i .i64) g.bounds),(11,.si .i64 g.bounds.length),(12,.si .i64 i),(17,.row (.i .i64) c),(18,.si .i64 c.length),(19,.si .i64 y.1)],[.cells [.row (.bF (.i .i64)) g.rows,.row (.i .i64) g.bounds,.row .off g.offers] 130 3 false]⟩)
     (λs=>(iS s 19,iS s 6)) (λy=>(0<=y.1/\y.1<=c.length)/\y.2=bj g.bounds i.toNat 0 - me g (c.take y.1.toNat) i.toNat) (λy=>(c.length - y.1).toNat) λ_ _=> .look
   |_=> .look
 |_=> .look
theorem h327:Holds Tryz.prog DU:=by
 refine cF (L:=[]) DU (λa=>abX a.1 a.2) (by simp) ?_;rintro⟨g,c⟩ ⟨⟨⟨Y,q2,q3⟩,hr,U⟩,O,C⟩;simp only at Y q2 q3 hr U O C;refine bO (let a:=(0:Int);let d:=γh .i64;let f:=Ψ;let h:=γx .i64 0;let j:=cq .i64;let e:=bp.i .i64;let t:=γO 0 0 3;let o:=f e g.bounds;let Q:=(↑g.bounds.length:Int);let q:=(↑g.bounds.length:Int);let z:=d q;let u:=bq.cells [f e.bF g.rows,o,f bp.off g.offers] 130 3 false;let s:=(↑c.length:Int);let I:=d s;((((f e c).same (f e c)/\t.same t/\o.same o/\(d Q).same z/\(h).same (d 0)/\True)/\u.same u/\True)/\(a<=a/\a<=q)/\∀(r:Nat),(↑r:Int)<a->a<=bj g.bounds r a - me g c r)/\∀(x:Int),let F:=bj g.bounds x.toNat a;let E:=d F;let y:=bj g.rows x.toNat e.bF.dflt;let k:=x+(1:Int);let A:=d k;((a<=x/\x<=q)/\∀(r:Nat),(↑r:Int)<x->a<=bj g.bounds r a - me g c r)->(decide (x<q)=true->a<=x/\x<Q/\x.toNat<g.bounds.length/\((((f e c).same (f e c)/\t.same t/\(d x).same (d x)/\E.same E/\o.same o/\z.same z/\(d x).same (d x)/\(f e c).same (f e c)/\(d (↑c.length:Int)).same I/\(h).same (d 0)/\True)/\u.same u/\True)/\(a<=a/\a<=s)/\F=F - me g [] x.toNat)/\∀(b:Int×Int),let p:=bj c b.fst.toNat a;let w:=b.snd - bj y p.toNat a;let l:=b.fst+(1:Int);let n:=d x;let H:=d w;let D:=d l;let G:=decide (b.snd<a);(a<=b.fst/\b.fst<=s)/\b.snd=F - me g (Δ b.fst.toNat c) x.toNat->(decide (b.fst<s)=true->a<=b.fst/\b.fst<(↑c.length:Int)/\b.fst.toNat<c.length/\a<=x/\x<(↑g.rows.length:Int)/\x.toNat<g.rows.length/\a<=p/\p<(↑y.length:Int)/\p.toNat<y.length/\j w/\j l/\(((f e c).same (f e c)/\t.same t/\n.same n/\H.same H/\o.same o/\z.same z/\n.same n/\(f e c).same (f e c)/\I.same I/\D.same D/\True)/\u.same u/\True)/\((a<=l/\l<=s)/\w=F - me g (Δ l.toNat c) x.toNat)/\(s - l).toNat<(s - b.fst).toNat)/\(decide (b.fst<s)=false->(G=true->(SV.bl false).same (SV.sb (li g c)))/\(G=false->j k/\(((f e c).same (f e c)/\t.same t/\o.same o/\z.same z/\A.same A/\True)/\u.same u/\True)/\((a<=k/\k<=q)/\∀(r:Nat),(↑r:Int)<k->a<=bj g.bounds r a - me g c r)/\(q - k).toNat<(q - x).toNat)))/\(decide (x<q)=false->(SV.bl true).same (SV.sb (li g c)))) (by kernel_rfl) ?_;simp only[vcs];have hd:(bp.i IntKind.i64).bF.dflt=([]:List Int):=rfl;rw[hd];have M:∀r:Nat,r<g.rows.length->(bj g.rows r []).length=g.offers.length/\∀x∈c,0<=bj (bj g.rows r []) x.toNat 0/\bj (bj g.rows r []) x.toNat 0<=1000:=λr h=>by
  grind[dr]
 refine⟨⟨by omega,λr h=>by omega⟩,?_⟩;rintro i ⟨⟨Z,i1⟩,K⟩;refine⟨λP=>⟨Z,P,by omega,⟨by omega,by simp[me]⟩,?_⟩,λP=>?_⟩
 ·obtain⟨W,B⟩:=M i.toNat (by omega);have a1:=U _ (dr (d:=0) (show i.toNat<g.bounds.length by omega));rintro⟨j,v⟩ ⟨⟨S,j1⟩,J⟩;simp only at S j1 J ⊢;refine⟨λV=>?_,λV=>?_⟩
  ·have hx:=C _ (dr (d:=0) (show j.toNat<c.length by omega));have hs:me g (c.take (j+1).toNat) i.toNat=me g (c.take j.toNat) i.toNat+bj (bj g.rows i.toNat []) (bj c j.toNat 0).toNat 0:=RA (f:=λx=>bj (bj g.rows i.toNat []) x.toNat 0) S V;have X:0<=me g (c.take j.toNat) i.toNat/\me g (c.take j.toNat) i.toNat<=c.length*1000:=I7 (f:=λx=>bj (bj g.rows i.toNat []) x.toNat 0) (m:=1000) (by omega) B;have a0:=B _ (dr (d:=0) (show j.toNat<c.length by omega));omega
  ·have N:j.toNat=c.length:=by omega
   rw[N,ψ] at J;refine⟨λR=>?_,λT=>⟨by omega,⟨by omega,λr h=>?_⟩,by omega⟩⟩
   ·symm;rw[<-Bool.not_eq_true,li,List.all_eq_true];intro h;have:=of_decide_eq_true (h i.toNat (γy.2 (by omega)));omega
   ·by_cases h2:(r:Int)<i;·simp_all
    ·rw[show r=i.toNat by omega,<-J];omega
 grind[li]
def yb:bM:=⟨75,Game×List Int,.cons AE (.one (dF (.i .i64))),λa=>nD a.1/\pe a.1 a.2/\pQ a.1 a.2,λa=> .si .i64 (dI a.1 a.2)⟩
def abY (g:Game) (c:List Int):Nat->cE
 |3=> .inv Int (λi=>⟨[(2,.ptr 0 0 3),(5,.si .i64 (dI g (c.take i.toNat))),(8,.row (.i .i64) c),(9,.si .i64 c.length),(10,.si .i64 i)],[.cells [.row (.bF (.i .i64)) g.rows,.row (.i .i64) g.bounds,.row .off g.offers] 130 3 false]⟩)
   (λs=>iS s 10) (λi=>0<=i/\i<=c.length) (λi=>(c.length - i).toNat) λ_ _=> .look
 |_=> .look
theorem h328:Holds Tryz.prog yb:=by
 refine cF (L:=[]) yb (λa=>abY a.1 a.2) (by simp) ?_;rintro⟨g,c⟩ ⟨⟨⟨D,E,C⟩,B,y⟩,⟨q,l⟩,e⟩;simp only[pQ] at D E C B y q l e;refine bO (let a:=γh .i64;let d:=(0:Int);let e:=Ψ;let o:=γO 0 0 3;let v:=γx .i64 0;let j:=bp.i .i64;let b:=(↑c.length:Int);let r:=a b;let n:=bq.cells [e j.bF g.rows,e j g.bounds,e bp.off g.offers] 130 3 false;(((o.same o/\v.same (a (dI g []))/\(e j c).same (e j c)/\(a (↑c.length:Int)).same r/\v.same (a 0)/\True)/\n.same n/\True)/\d<=d/\d<=b)/\∀(x:Int),let p:=bj c x.toNat d;let t:=dI g (Δ x.toNat c);let s:=t+(bj g.offers p.toNat bp.off.dflt).value;let h:=x+(1:Int);let k:=a h;d<=x/\x<=b->(decide (x<b)=true->d<=x/\x<(↑c.length:Int)/\x.toNat<c.length/\d<=p/\p<(↑g.offers.length:Int)/\p.toNat<g.offers.length/\cq .i64 s/\cq .i64 h/\((o.same o/\(a s).same (a (dI g (Δ h.toNat c)))/\(e j c).same (e j c)/\r.same r/\k.same k/\True)/\n.same n/\True)/\(d<=h/\h<=b)/\(b - h).toNat<(b - x).toNat)/\(decide (x<b)=false->(a t).same (a (dI g c)))) (by kernel_rfl) ?_;conv=>zeta
 try simp only[vcs]
 refine⟨⟨by simp[dI],by omega,by omega⟩,?_⟩;rintro i ⟨A,H⟩;refine⟨λu=>?_,λu=>?_⟩
 ·have F:=l _ (dr (d:=0) (show i.toNat<c.length by omega));have G:dI g (c.take (i+1).toNat)=dI g (c.take i.toNat)+(bj g.offers (bj c i.toNat 0).toNat bp.off.dflt).value:=RA (f:=λx=>(bj g.offers x.toNat bp.off.dflt).value) A u;have w:0<=dI g (c.take i.toNat)/\dI g (c.take i.toNat)<=c.length*1000000:=I7 (f:=λx=>(bj g.offers x.toNat bp.off.dflt).value) (m:=1000000) (by omega) e;have z:=e _ (dr (d:=0) (show i.toNat<c.length by omega));omega
 ·rw[show i.toNat=c.length by omega,ψ]
end Go.Vi
