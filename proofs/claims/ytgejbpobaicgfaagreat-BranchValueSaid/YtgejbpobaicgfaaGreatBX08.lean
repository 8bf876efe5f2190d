/-
  Contracts: natural numbers of any size: digit.
  Conditions: none.
-/
import Derived.Test.YtgejbpobaicgfaaGreatBX06
import Derived.Test.YtgejbpobaicgfaaGreatBX07
set_option maxRecDepth 100000
set_option maxHeartbeats 4000000
set_option linter.all false
open And renaming intro->γe
open Go.Vi.AV.os renaming injEq->δ7
open Go.Vi.AV.sc renaming injEq->γ6
open Go.Vi.SV renaming row->Ξ,si->γa,il->γu,ow->γQ,ptr->γ5
open Int renaming mul_le_mul_of_nonneg_left->ν,mul_comm->δr,mul_nonneg->γh,mul_le_mul->δt,sub_mul->ζJ,one_mul->εz,pow_succ->γx,mul_assoc->γI,mul_add->εy,mul_sub->εP,mul_zero->δL,add_zero->εk,mul_one->δ8,mul_left_comm->ζR,mul_lt_mul_of_pos_right->γP,sub_zero->ζc,emod_eq_of_lt->δm
open List renaming map_cons->ψ,map_nil->γy,length->γb,take->ω,length_take->γd,take_length->τ,map_append->γj,range->Φ,range_succ->εi,length_cons->γz,all_eq_true->γf,mem_range->δh,length_drop->γ3,take_succ_eq_append_getElem->γD,getElem_drop->εp,length_append->θ,drop_eq_getElem_cons->γV,append_assoc->γl,take_append_drop->γc,take_of_length_le->Ω,drop_of_length_le->δP,set_append_right->δz,pairwise_append->δf,mem_append->γt,mem_cons->γX,perm_middle->ζZ,ext_getElem->γ2,length_set->χ,drop_drop->γW,cons_append->γJ,drop->γ1,mem_of_mem_drop->γY,mem_of_mem_take->γi,getElem_take->εQ,append_cancel_right->δC,sublist_append_right->ζg,nil_append->δw,replicate->δ,getElem?_replicate->εF,eq_of_mem_replicate->εD,replicate_succ->δj
open List.Perm renaming refl->ζH,append->ζ0
open List.cons renaming injEq->Δ
open Nat renaming min_eq_left->δO,le_refl->Θ
open Option.some renaming injEq->γ
open Prod renaming ext->εa
namespace Go.Vi
open Go.Proofs.YtgejbpobaicgfaaGreat.Ir
open Go.Proofs
structure DgA where
 U:List Int
 j:Nat
 len:Nat
 n:Nat
 v:List Int
def DgA.x (a:DgA):Int:=bD (prt a.U a.j (a.v.length+1))
def DgA.ok (a:DgA):Prop:=(cQ a.U/\cQ a.v)/\(a.len=a.v.length+1/\a.n=a.U.length)/\(2<=a.v.length/\a.j+a.v.length+1<=a.U.length/\a.U.length<=200000000000)/\
 2147483648<=bC a.v (a.v.length - 1) 0/\a.x<4294967296*bD a.v
def DgA.row (a:DgA):List Int:=Ln a.U a.j (HH (a.v.length+1) (a.x % bD a.v))
def apK:og where
 f:=168
 α:=DgA
 put a:=[.oc 0 a.j a.len a.n 1,.row (.i .u32) a.v]
 st a:=[.row (.i .u32) a.U 161 false]
 dec v o:=match v,o with
  |[.oc 0 j c n 1,v],[.row t l 161 false]=>match Kz (.i .u32) v,AW t (.i .u32) l with
   |some v,some l=>some ⟨l,j,c,n,v⟩
   |_,_=>none
  |_,_=>none
 ok v o a h:=by
  grind[KA,gL,aaW]
 inj a b k d:=by
  obtain⟨U,j,c,n,v⟩:=a
  obtain⟨q,y,e,z,s⟩:=b
  simp only[gL,Δ,and_true] at k
  obtain⟨p,m⟩:=k
  have w:=(mA (.i .u32)).inj _ _ m
  simp only[SV.g,δ7,true_and,cn.sz,Nat.mul_one] at p;simp only[gO,ψ,γy,cJ.g,Δ,ig.cells.injEq,and_true] at d
  have u:U=q:=by
   have r:=congrArg γb d
   rw[x7,x7] at r
   exact XV (.i .u32) (by grind[cn.sz]) d
  grind
 dom:=DgA.ok
 res a:=.si .u32 (a.x / bD a.v)
 out a:=[.row (.i .u32) a.row 161 false]
def apL (U:List Int):jr:=[.row (.i .u32) U 161 false]
def aDx (a:DgA):Nat->jY
 |4=> .inv (Int×Int) (λx=>⟨[(0,.oc 0 a.j a.len a.n 1),(1,.row (.i .u32) a.v),(5,.si .i64 a.v.length),(7,.si .u64 x.1),(8,.si .u64 x.2)],apL a.U⟩) (λs=>(iS s 7,iS s 8))
  (λx=>(0<=x.1/\x.1<=4294967297)/\(0<=x.2/\x.2<4294967296)/\x.1*bC a.v (a.v.length - 1) 0+x.2=bC a.U (a.j+(a.v.length - 1)) 0+4294967296*bC a.U (a.j+a.v.length) 0/\a.x<(x.1+1)*bD a.v) (λx=>x.1.toNat) λ_ _=> .look
 |10=> .inv (Int×Int×Int×Int×List Int) (λx=>⟨[(0,.oc 0 a.j a.len a.n 1),(1,.row (.i .u32) a.v),(5,.si .i64 a.v.length),(7,.si .u64 x.2.1),(9,.si .u64 x.2.2.1),(10,.si .u64 x.2.2.2.1),(82,.si .i64 a.v.length),(83,.si .i64 x.1)],apL x.2.2.2.2⟩)
  (λs=>(iS s 83,iS s 7,iS s 9,iS s 10,oS (.i .u32) s 0))
  (λx=>(0<=x.1/\x.1<=a.v.length)/\(0<=x.2.1/\x.2.1<4294967296)/\(a.x<(x.2.1+1)*bD a.v/\x.2.1*bD a.v<a.x+bD a.v)/\(0<=x.2.2.1/\x.2.2.1<4294967296)/\(0<=x.2.2.2.1/\x.2.2.2.1<=1)/\(cQ x.2.2.2.2/\x.2.2.2.2.length=a.U.length)/\
   (∀m,(m<a.j\/a.j+x.1.toNat<=m)->bC x.2.2.2.2 m 0=bC a.U m 0)/\
   bD (prt x.2.2.2.2 a.j x.1.toNat)=bD (prt a.U a.j x.1.toNat) - x.2.1*bD (a.v.take x.1.toNat)+4294967296^x.1.toNat*(x.2.2.1+x.2.2.2.1)) (λx=>(a.v.length - x.1).toNat) λ_ _=> .look
 |23=> .inv (Int×Int×Int×List Int) (λx=>⟨[(0,.oc 0 a.j a.len a.n 1),(1,.row (.i .u32) a.v),(5,.si .i64 a.v.length),(7,.si .u64 x.2.1),(9,.si .u64 x.2.2.1),(134,.si .i64 a.v.length),(135,.si .i64 x.1)],apL x.2.2.2⟩)
  (λs=>(iS s 135,iS s 7,iS s 9,oS (.i .u32) s 0))
  (λx=>(0<=x.1/\x.1<=a.v.length)/\(0<=x.2.1/\x.2.1<4294967296)/\(a.x<x.2.1*bD a.v/\x.2.1*bD a.v<a.x+bD a.v)/\(0<=x.2.2.1/\x.2.2.1<=1)/\(cQ x.2.2.2/\x.2.2.2.length=a.U.length)/\
   ∃W,(cQ W/\W.length=a.U.length)/\(∀m,(m<a.j\/a.j+(a.v.length+1)<=m)->bC W m 0=bC a.U m 0)/\bD (prt W a.j (a.v.length+1))=a.x - x.2.1*bD a.v+4294967296^(a.v.length+1)/\
    (∀m,(m<a.j\/a.j+x.1.toNat<=m)->bC x.2.2.2 m 0=bC W m 0)/\bD (prt x.2.2.2 a.j x.1.toNat)+4294967296^x.1.toNat*x.2.2.1=bD (prt W a.j x.1.toNat)+bD (a.v.take x.1.toNat))
  (λx=>(a.v.length - x.1).toNat) λ_ _=> .look
 |_=> .look
theorem h169:sd Tryz.prog apK:=by
 refine Sj (L:=[]) (W:=[]) apK aDx (by simp) (by simp) ?_
 rintro⟨U,j,len,n,v⟩ ⟨⟨hU,hv⟩,⟨e1,e2⟩,⟨hn,hj,hlU⟩,hv1,hx⟩
 simp only at hU hv hn hj hlU hv1 hx e1 e2
 subst e1 e2
 refine gp (let a:=(18446744073709551616:Int);let b:=(0:Int);let c:=(4294967296:Int);let d:=(1:Int);let e:=Ξ;let f:=γa .i64;let g:=(32:Int);let h:=ie .i64;let k:=(9223372036854775808:Int);let l:=(4294967297:Int);let n:=(64:Int);let o:=cJ.row;let p:=γu .i64 0;let q:=(63:Int);let r:=γu .i64;let D:=(↑v.length:Int);let y:=v.length+1;let F:=(↑y:Int);let B:=D - d;let Q:=bC v B.toNat b % a;let a7:=J9.orI .u64 (bC U (j+D.toNat) 0 % a*c % a) (bC U (j+B.toNat) 0 % a);let K:=a7.tdiv Q;let C:=SV.oc 0 j y U.length 1;let w:=cn.i .u32;let s:=(↑v.length:Int);let t:=f s;let a8:=γa .u64 K;let R:=a7.tmod Q;let a9:=γa .u64 R;let J:=o w U 161 false;let aa:=v.length - 1;let a3:=bC v aa b;let a4:=bC U (j+aa) 0+c*bC U (j+v.length) 0;let ab:=DgA.mk U j y U.length v;let E:=ab.x;let L:=s - d;let aJ:=bC v L.toNat b % a;let M:=E+bD v;let S:=bD (prt U j 0);let I:=j+s.toNat;let ac:=γa .u32 (E / bD v);let ad:=o w ab.row 161 false;let ae:=c^y;let H:=s - (2:Int);U.length=U.length/\b<=D/\D<F/\j+y<=U.length/\U.length=U.length/\j+D.toNat<U.length/\b<=g/\g<=n/\h B/\U.length=U.length/\b<=B/\B<F/\j+y<=U.length/\U.length=U.length/\j+B.toNat<U.length/\h B/\b<=B/\B<D/\B.toNat<v.length/\Q≠b/\ie .u64 K/\h B/\b<=B/\B<D/\B.toNat<v.length/\Q≠b/\(((C.same C/\(e w v).same (e w v)/\(f D).same t/\a8.same a8/\a9.same a9/\True)/\J.same J/\True)/\(b<=K/\K<=l)/\(b<=R/\R<c)/\K*a3+R=a4/\E<(K+d)*bD v)/\∀(x:Int×Int),let N:=(x.snd+aJ) % a;let af:=decide (c<=N);let G:=(x.fst - d) % a;let T:=γa .u64 G;let ag:=γa .u64 N;let ah:=decide (c<=x.fst);let ai:=γa .u64 x.fst;let aj:=∀(x:Int×Int×Int×Int×List Int),let V:=x.snd.fst*bD v;let z:=x.snd.snd.snd.snd;let X:=x.snd.snd.snd.fst;let Y:=x.snd.snd.fst;let ak:=((bC z I b % a - Y) % a - X) % a;let O:=j+x.fst.toNat;let Z:=x.fst+d;let a0:=γa .u64 x.snd.fst;let al:=(x.snd.fst*(bC v x.fst.toNat b % a) % a+Y) % a;let am:=al / c;let an:=γa .u64 am;let ao:=J9.ai0 .u64 al (4294967295:Int);let ap:=((bC z O b % a - ao) % a - X) % a;let aq:=ap / k;let ar:=γa .u64 aq;let au:=f Z;let P:=z.set I (ak % c);let av:=λ(u u_1 u_2:Int) (u_3:List Int) ↦(b<=u/\u<=s)/\(b<=x.snd.fst/\x.snd.fst<c)/\(E<(x.snd.fst+d)*bD v/\V<M)/\(b<=u_1/\u_1<c)/\(b<=u_2/\u_2<=d)/\(cQ u_3/\u_3.length=U.length)/\(∀(m:Nat),m<j\/j+u.toNat<=m->bC u_3 m b=bC U m b)/\bD (prt u_3 j u.toNat)=bD (prt U j u.toNat) - x.snd.fst*bD (ω u.toNat v)+c^u.toNat*(u_1+u_2);let aw:=λ(u:Nat) (u_1:Int) ↦let ax:=o w (z.set u (((bC z u b % a - u_1) % a - X) % a % c)) 161 false;ax.same ax/\True;let ay:=λ(u:Bool) ↦decide (ak / k=b)=u;av x.fst Y X z->(decide (x.fst<s)=true->b<=x.fst/\x.fst<D/\x.fst.toNat<v.length/\b<=g/\g<=n/\U.length=z.length/\b<=x.fst/\x.fst<F/\j+y<=U.length/\U.length=z.length/\O<z.length/\b<=q/\q<=n/\U.length=z.length/\b<=x.fst/\x.fst<F/\j+y<=U.length/\U.length=z.length/\O<z.length/\h Z/\((C.same C/\(e w v).same (e w v)/\t.same t/\a0.same a0/\an.same an/\ar.same ar/\t.same t/\au.same au/\True)/\aw O ao)/\av Z am aq (z.set O (ap % c))/\(s - Z).toNat<(s - x.fst).toNat)/\(decide (x.fst<s)=false->U.length=z.length/\b<=s/\s<F/\j+y<=U.length/\U.length=z.length/\I<z.length/\U.length=z.length/\b<=s/\s<F/\j+y<=U.length/\U.length=z.length/\I<z.length/\b<=q/\q<=n/\(ay true->(γa .u32 (x.snd.fst % c)).same ac/\(o w P 161 false).same ad/\True)/\(ay false->(((C.same C/\(e w v).same (e w v)/\t.same t/\a0.same a0/\(γu .u64 0).same (γa .u64 0)/\t.same t/\(p).same (f 0)/\True)/\aw I Y)/\(b<=b/\b<=s)/\(b<=x.snd.fst/\x.snd.fst<c)/\(E<V/\V<M)/\(b<=b/\b<=d)/\(cQ P/\P.length=U.length)/\∃(W:List Int),(cQ W/\W.length=U.length)/\(∀(m:Nat),m<j\/j+y<=m->bC W m b=bC U m b)/\bD (prt W j y)=E - V+ae/\(∀(m:Nat),m<j\/j+0<=m->bC P m b=bC W m b)/\bD (prt P j 0)+b=bD (prt W j 0)+bD [])/\∀(x:Int×Int×Int×List Int),let a5:=x.snd.fst*bD v;let a6:=x.snd.snd.fst;let A:=x.snd.snd.snd;let a1:=j+x.fst.toNat;let a2:=x.fst+d;let az:=γa .u64 x.snd.fst;let aA:=((bC A a1 b % a+bC v x.fst.toNat b % a) % a+a6) % a;let aB:=aA / c;let aC:=γa .u64 aB;let aD:=f a2;let aE:=A.set a1 (aA % c);let aF:=o w aE 161 false;let aG:=λ(u u_1:Int) (u_2:List Int) ↦(b<=u/\u<=s)/\(b<=x.snd.fst/\x.snd.fst<c)/\(E<a5/\a5<M)/\(b<=u_1/\u_1<=d)/\(cQ u_2/\u_2.length=U.length)/\∃(W:List Int),(cQ W/\W.length=U.length)/\(∀(m:Nat),m<j\/j+y<=m->bC W m b=bC U m b)/\bD (prt W j y)=E - a5+ae/\(∀(m:Nat),m<j\/j+u.toNat<=m->bC u_2 m b=bC W m b)/\bD (prt u_2 j u.toNat)+c^u.toNat*u_1=bD (prt W j u.toNat)+bD (ω u.toNat v);aG x.fst a6 A->(decide (x.fst<s)=true->U.length=A.length/\b<=x.fst/\x.fst<F/\j+y<=U.length/\U.length=A.length/\a1<A.length/\b<=x.fst/\x.fst<D/\x.fst.toNat<v.length/\b<=g/\g<=n/\U.length=A.length/\b<=x.fst/\x.fst<F/\j+y<=U.length/\U.length=A.length/\a1<A.length/\h a2/\((C.same C/\(e w v).same (e w v)/\t.same t/\az.same az/\aC.same aC/\t.same t/\aD.same aD/\True)/\aF.same aF/\True)/\aG a2 aB aE/\(s - a2).toNat<(s - x.fst).toNat)/\(decide (x.fst<s)=false->U.length=A.length/\b<=s/\s<F/\j+y<=U.length/\U.length=A.length/\I<A.length/\U.length=A.length/\b<=s/\s<F/\j+y<=U.length/\U.length=A.length/\I<A.length/\(γa .u32 ((x.snd.fst - d) % a % c)).same ac/\(o w (A.set I ((bC A I b+a6 % c) % c)) 161 false).same ad/\True)));let aH:=h L/\b<=L/\L<D/\L.toNat<v.length/\(af=true->(((C.same C/\(e w v).same (e w v)/\t.same t/\T.same T/\(γu .u64 0).same (γa .u64 0)/\(γu .u64 0).same (γa .u64 0)/\t.same t/\(p).same (f 0)/\True)/\J.same J/\True)/\(b<=b/\b<=s)/\(b<=G/\G<c)/\(E<(G+d)*bD v/\G*bD v<M)/\(b<=b/\b<c)/\(b<=b/\b<=d)/\(cQ U/\U.length=U.length)/\(∀(m:Nat),m<j\/j+0<=m->bC U m b=bC U m b)/\S=S - G*bD []+b)/\aj)/\(af=false->((C.same C/\(e w v).same (e w v)/\t.same t/\T.same T/\ag.same ag/\True)/\J.same J/\True)/\((b<=G/\G<=l)/\(b<=N/\N<c)/\G*a3+N=a4/\E<(G+d)*bD v)/\G.toNat<x.fst.toNat);let aI:=λ(u:Bool) ↦decide (J9.orI .u64 (x.snd*c % a) (bC U (j+H.toNat) 0 % a)<x.fst*(bC v H.toNat b % a) % a)=u;(b<=x.fst/\x.fst<=l)/\(b<=x.snd/\x.snd<c)/\x.fst*a3+x.snd=a4/\E<(x.fst+d)*bD v->(ah=true->aH)/\(ah=false->h H/\b<=H/\H<D/\H.toNat<v.length/\b<=g/\g<=n/\h H/\U.length=U.length/\b<=H/\H<F/\j+y<=U.length/\U.length=U.length/\j+H.toNat<U.length/\(aI true->aH)/\(aI false->(((C.same C/\(e w v).same (e w v)/\t.same t/\ai.same ai/\(γu .u64 0).same (γa .u64 0)/\(γu .u64 0).same (γa .u64 0)/\t.same t/\(p).same (f 0)/\True)/\J.same J/\True)/\(b<=b/\b<=s)/\(b<=x.fst/\x.fst<c)/\(E<(x.fst+d)*bD v/\x.fst*bD v<M)/\(b<=b/\b<c)/\(b<=b/\b<=d)/\(cQ U/\U.length=U.length)/\(∀(m:Nat),m<j\/j+0<=m->bC U m b=bC U m b)/\S=S - x.fst*bD []+b)/\aj))) (by kernel_rfl) ?_
 simp only[vcs]
 have t1:((v.length:Int) - 1).toNat=v.length - 1:=by omega
 have t2:((v.length:Int) - 2).toNat=v.length - 2:=by omega
 have t3:((v.length:Int)).toNat=v.length:=by omega
 have hVe:=aDv hn rfl
 have hXe:=@aDw U j v.length hn
 have dv1:=qb hv (v.length - 1)
 have dv2:=qb hv (v.length - 2)
 have du0:=qb hU (j+v.length)
 have du1:=qb hU (j+(v.length - 1))
 have du2:=qb hU (j+(v.length - 2))
 have m1:bC v (v.length - 1) 0 % 18446744073709551616=bC v (v.length - 1) 0:=by omega
 have m2:bC v (v.length - 2) 0 % 18446744073709551616=bC v (v.length - 2) 0:=by omega
 have m3:bC U (j+v.length) 0 % 18446744073709551616=bC U (j+v.length) 0:=by omega
 have m4:bC U (j+(v.length - 1)) 0 % 18446744073709551616=bC U (j+(v.length - 1)) 0:=by omega
 have m5:bC U (j+(v.length - 2)) 0 % 18446744073709551616=bC U (j+(v.length - 2)) 0:=by omega
 have m6:bC U (j+v.length) 0*4294967296 % 18446744073709551616=bC U (j+v.length) 0*4294967296:=by omega
 have hor:=apC du0.1 du0.2 du1.1 du1.2
 have htop:0<=bC U (j+v.length) 0*4294967296+bC U (j+(v.length - 1)) 0:=by omega
 have hx':bD (prt U j (v.length+1))<4294967296*bD v:=hx
 have hP:=pow_pos (v.length - 2)
 have hrv:=rf (SU hv (v.length - 2))
 have aju:=Ku (SU hv (v.length - 2))
 rw[γd,δO (by omega)] at aju
 have hru:=rf (afb hU (j:=j) (k:=v.length - 2))
 have apN:=agn hU (j:=j) (k:=v.length - 2)
 have hV0:=rf hv
 have hX0:=rf (afb hU (j:=j) (k:=v.length+1))
 have htp:=aDu hP hVe hXe aju hru du2.1 du1.1 dv2.2 hx'
 have hax:(DgA.mk U j (v.length+1) U.length v).x=bD (prt U j (v.length+1)):=rfl
 simp only[hax,t1,t2,t3,m1,m2,m3,m4,m5,m6,hor,Int.tdiv_eq_ediv_of_nonneg htop,Int.tmod_eq_emod_of_nonneg htop]
 generalize aDA:bC v (v.length - 1) 0=v1 at*
 generalize aDB:bC v (v.length - 2) 0=v2 at*
 generalize aH9:bC U (j+v.length) 0=u0 at*
 generalize aDC:bC U (j+(v.length - 1)) 0=u1 at*
 generalize aDD:bC U (j+(v.length - 2)) 0=u2 at*
 have hqr:=Int.mul_ediv_add_emod (u0*4294967296+u1) v1
 have hr0:=Int.emod_nonneg (u0*4294967296+u1) (show v1≠0 by omega)
 have hr1:=Int.emod_lt_of_pos (u0*4294967296+u1) (show 0<v1 by omega)
 have hg0:0<=(u0*4294967296+u1) / v1:=Int.ediv_nonneg htop (by omega)
 generalize hge:(u0*4294967296+u1) / v1=g0 at*
 generalize hre:(u0*4294967296+u1) % v1=r0 at*
 have hg1:g0<=4294967297:=by
  by_cases h:g0<=4294967297
  ·exact h
  ·exfalso
   have:=ν (show(4294967298:Int)<=g0 by omega) (show 0<=v1 by omega)
   omega
 have av0:g0*v1+r0=u1+4294967296*u0:=by rw[δr g0];omega
 have hst:=aDt hP hVe hXe hrv apN dv2.1 du2.2 hg0 av0 hr1
 have hin:ie .u64 g0:=u64_in hg0 (by omega)
 repeat refine γe (by omega) ?_
 clear t1 t2 t3 m1 m2 m3 m4 m5 m6 hor htop hge hre hqr hr0 hr1 hg0 hg1 av0 hst hin aDA aDB aDC aDD hx
 rintro⟨g,r⟩ ⟨⟨g0',g1'⟩,⟨r0',r1'⟩,hgr,hgx⟩
 simp only at g0' g1' r0' r1' hgr hgx ⊢
 have al3:0<g+1:=by omega
 have e1:(r+v1) % 18446744073709551616=r+v1:=by omega
 have e2:r*4294967296 % 18446744073709551616=r*4294967296:=by omega
 have gv0:0<=g*v2:=γh g0' dv2.1
 have gv1:g*v2<=4294967297*4294967295:=δt (by omega) (by omega) dv2.1 (by omega)
 have e3:g*v2 % 18446744073709551616=g*v2:=by omega
 have hor2:=apC r0' r1' du2.1 du2.2
 have apO:g*v1+r=u1+4294967296*u0:=hgr
 have av1:4294967296<=r+v1->g<=4294967296:=λh=>by
  by_cases hg:g<=4294967296
  ·exact hg
  ·have:g=4294967297:=by omega
   subst this;omega
 have dec:(4294967296<=g\/r*4294967296+u2<g*v2)->(bD (prt U j (v.length+1))<g*bD v/\(g - 1) % 18446744073709551616=g - 1/\0<=g - 1/\(g - 1)*v1+(r+v1)=u1+4294967296*u0):=λh=>by
  have h1:=aDs hP hVe hXe hrv apN hx' hV0 g0' apO h
  have h2:g≠0:=by
   rintro rfl
   omega
  refine⟨h1,by omega,by omega,?_⟩
  rw[ζJ,εz];omega
 simp only[e1,e2,e3,hor2]
 have brk:(4294967296<=g\/r*4294967296+u2<g*v2)->4294967296<=r+v1->∃gg,gg=(g - 1) % 18446744073709551616/\(0<=gg/\gg<4294967296)/\bD (prt U j (v.length+1))<(gg+1)*bD v/\gg*bD v<bD (prt U j (v.length+1))+bD v:=λh hb=>by
  obtain⟨k1,k2,k3,k4⟩:=dec h
  have k5:=av1 hb
  rw[k2]
  refine⟨_,rfl,by omega,by rw[show g - 1+1=g by omega];exact k1,avY hP hVe hXe hrv aju hru hv1 dv2.1 k3 (by omega) k4 ?_⟩
  have:=δt (show g - 1<=4294967295 by omega) (show v2<=4294967295 by omega) dv2.1 (by omega)
  omega
 have nbr:(4294967296<=g\/r*4294967296+u2<g*v2)->¬4294967296<=r+v1->(0<=(g - 1) % 18446744073709551616/\(g - 1) % 18446744073709551616<=4294967297)/\(g - 1) % 18446744073709551616*v1+(r+v1)=u1+4294967296*u0/\bD (prt U j (v.length+1))<((g - 1) % 18446744073709551616+1)*bD v/\((g - 1) % 18446744073709551616).toNat<g.toNat:=λh hb=>by
  obtain⟨k1,k2,k3,k4⟩:=dec h
  rw[k2]
  exact⟨by omega,k4,by rw[show g - 1+1=g by omega];exact k1,by omega⟩
 have ext:¬4294967296<=g->¬r*4294967296+u2<g*v2->∃gg,gg=g/\(0<=gg/\gg<4294967296)/\bD (prt U j (v.length+1))<(gg+1)*bD v/\gg*bD v<bD (prt U j (v.length+1))+bD v:=λh h2=>
  ⟨_,rfl,by omega,hgx,avY hP hVe hXe hrv aju hru hv1 dv2.1 g0' (by omega) apO (by omega)⟩
 clear apO al3 e1 e2 e3 gv0 gv1 hor2 hVe hXe hrv aju hru apN av1 dec htp
 refine⟨λhB=>?_,λhB=>?_⟩
 ·refine⟨by omega,by omega,by omega,by omega,?_⟩
  refine⟨λhb=>?_,λhb=>?_⟩
  ·obtain⟨gg,hgg,f0,f2,f3⟩:=brk (.inl hB) hb
   rw[<-hgg]
   clear hB hb
   clear hgg brk nbr ext hgx hgr
   refine⟨?_,?_⟩
   ·repeat' refine γe ?_ ?_
    all_goals first|omega|exact hU|exact f2|exact f3|exact λ_ _=>trivial|(simp only[bD];omega)
   clear f0 f2 f3
   rintro⟨i,ga,c,b,R⟩ ⟨⟨i0,i1⟩,⟨ga0,ga1⟩,⟨f2,f3⟩,⟨c0,c1⟩,⟨b0,b1⟩,⟨hR,hRl⟩,ho,he⟩
   simp only at i0 i1 ga0 ga1 f2 f3 c0 c1 b0 b1 hR hRl ho he ⊢
   refine⟨λilt=>?_,λige=>?_⟩
   ·have x:=qb hv i.toNat
    have y:=qb hR (j+i.toNat)
    have gx0:0<=ga*bC v i.toNat 0:=γh ga0 x.1
    have gx1:ga*bC v i.toNat 0<=4294967295*4294967295:=δt (by omega) (by omega) x.1 (by omega)
    have q1:bC v i.toNat 0 % 18446744073709551616=bC v i.toNat 0:=by omega
    have q2:bC R (j+i.toNat) 0 % 18446744073709551616=bC R (j+i.toNat) 0:=by omega
    have q3:(ga*bC v i.toNat 0 % 18446744073709551616+c) % 18446744073709551616=ga*bC v i.toNat 0+c:=by omega
    have hi1:(i+1).toNat=i.toNat+1:=by omega
    rw[q1,q2,q3,apH (by omega) (by omega),hi1]
    generalize hq:((bC R (j+i.toNat) 0 - (ga*bC v i.toNat 0+c) % 4294967296) % 18446744073709551616 - b) % 18446744073709551616=q
    obtain⟨k1,k2,k3,k4,k5⟩:=apI (d:=q % 4294967296) (e:=q / 9223372036854775808) hR hRl hv ga0 ga1 c0 c1 b0 b1 (show j+i.toNat<U.length by omega) ho he (by omega) (by omega)
    repeat' refine γe ?_ ?_
    all_goals first|omega|exact k1|exact k2|exact k3|exact k4|exact k5|exact f2|exact f3
   ·have hi:i.toNat=v.length:=by omega
    rw[hi,τ] at he;rw[hi] at ho
    have hun:=ho (j+v.length) (.inr (Θ _))
    have du:=qb hU (j+v.length)
    have q2:bC R (j+v.length) 0 % 18446744073709551616=bC R (j+v.length) 0:=by rw[hun];omega
    have hXs:=@Zi U j v.length
    rw[q2]
    generalize hq:((bC R (j+v.length) 0 - c) % 18446744073709551616 - b) % 18446744073709551616=q
    have S0:cQ (R.set (j+v.length) (q % 4294967296)):=aa2 hR (by omega) (by omega)
    have hlen:(R.set (j+v.length) (q % 4294967296)).length=U.length:=by simp[hRl]
    have hout:∀m,(m<j\/j+(v.length+1)<=m)->bC (R.set (j+v.length) (q % 4294967296)) m 0=bC U m 0:=λm hm=>by rw[acB (by omega)];exact ho m (by omega)
    have hval:bD (prt (R.set (j+v.length) (q % 4294967296)) j (v.length+1))=bD (prt U j (v.length+1)) - ga*bD v+4294967296^(v.length+1)*(q / 9223372036854775808):=by
     rw[Zi,afa (Θ _),ael (by omega),he,hXs,γx]
     have hd:q % 4294967296 - 4294967296*(q / 9223372036854775808)=bC U (j+v.length) 0 - c - b:=by rw[hun] at hq;omega
     generalize (4294967296:Int)^v.length=B
     have e:B*4294967296*(q / 9223372036854775808)=B*(q % 4294967296+c+b - bC U (j+v.length) 0):=by rw[γI];congr 1;omega
     rw[e];simp only[εy,εP];omega
    generalize hW:R.set (j+v.length) (q % 4294967296)=W at*
    have hbd:=agn S0 (j:=j) (k:=v.length+1)
    have hnn:=rf (afb S0 (j:=j) (k:=v.length+1))
    have q3:0<=q/\q<18446744073709551616:=by omega
    clear hq hun du q2 he ho hR
    repeat refine γe (by omega) ?_
    refine⟨λhz=>?_,λhz=>?_⟩
    ·rw[hz,δL,εk] at hval
     obtain⟨w1,w2⟩:=afc (q:=ga) (show ga*bD v<=bD (prt U j (v.length+1)) by omega) f2
     refine⟨by rw[w1];omega,?_⟩
     have hfin:W=Ln U j (HH (v.length+1) (bD (prt U j (v.length+1)) % bD v)):=ahQ S0 hlen (by omega) hout (by rw[hval,w2])
     rw[hfin];rfl
    ·have hq1:q / 9223372036854775808=1:=by omega
     rw[hq1,δ8] at hval
     have f4:bD (prt U j (v.length+1))<ga*bD v:=by omega
     refine⟨?_,?_⟩
     ·repeat' refine γe ?_ ?_
      all_goals first|omega|exact S0|exact hlen|exact⟨W,⟨S0,hlen⟩,hout,hval,λ_ _=>rfl,by simp only[bD]⟩
     clear S0 hlen hout hval hW hbd hnn q3 hz hq1 f4 f2 f3 c0 c1 b0 b1 i0 i1 ga0 ga1
     rintro⟨i2,gb,c2,R2⟩ ⟨⟨i0,i1⟩,⟨gb0,gb1⟩,⟨f5,f6⟩,⟨c0,c1⟩,⟨hR2,ac2⟩,W2,⟨hW2,afd⟩,ho2,hvW,ho3,he3⟩
     simp only at i0 i1 gb0 gb1 f5 f6 c0 c1 hR2 ac2 ho3 he3 ⊢
     refine⟨λilt=>?_,λige=>?_⟩
     ·have x:=qb hv i2.toNat
      have y:=qb hR2 (j+i2.toNat)
      have hi1:(i2+1).toNat=i2.toNat+1:=by omega
      rw[hi1]
      have hs:((bC R2 (j+i2.toNat) 0 % 18446744073709551616+bC v i2.toNat 0 % 18446744073709551616) % 18446744073709551616+c2) % 18446744073709551616=bC R2 (j+i2.toNat) 0+bC v i2.toNat 0+c2:=by omega
      rw[hs]
      obtain⟨k1,k2,k3,k4,k5⟩:=apJ hR2 (ac2.trans afd.symm) hv c0 c1 (show j+i2.toNat<W2.length by omega) hW2 ho3 he3 rfl
      repeat' refine γe ?_ ?_
      all_goals first|omega|exact k1|exact f5|exact f6|exact⟨W2,⟨hW2,afd⟩,ho2,hvW,k4,k5⟩
     ·have hi2:i2.toNat=v.length:=by omega
      rw[hi2,τ] at he3;rw[hi2] at ho3
      have hun:=ho3 (j+v.length) (.inr (Θ _))
      have du:=qb hW2 (j+v.length)
      have hXs:=@Zi W2 j v.length
      have hc2:c2 % 4294967296=c2:=by omega
      rw[hc2,hun]
      have hF:cQ (R2.set (j+v.length) ((bC W2 (j+v.length) 0+c2) % 4294967296)):=aa2 hR2 (by omega) (by omega)
      have hFl:(R2.set (j+v.length) ((bC W2 (j+v.length) 0+c2) % 4294967296)).length=U.length:=by simp[ac2]
      have hFo:∀m,(m<j\/j+(v.length+1)<=m)->bC (R2.set (j+v.length) ((bC W2 (j+v.length) 0+c2) % 4294967296)) m 0=bC U m 0:=λm hm=>by rw[acB (by omega),ho3 m (by omega)];exact ho2 m hm
      have hFv:bD (prt (R2.set (j+v.length) ((bC W2 (j+v.length) 0+c2) % 4294967296)) j (v.length+1))=bD (prt U j (v.length+1)) - gb*bD v+4294967296^(v.length+1)+bD v - 4294967296^(v.length+1)*((bC W2 (j+v.length) 0+c2) / 4294967296):=by
       rw[Zi,afa (Θ _),ael (by omega),<-hvW,hXs,γx]
       generalize (4294967296:Int)^v.length=B at*
       have e:B*4294967296*((bC W2 (j+v.length) 0+c2) / 4294967296)=B*(bC W2 (j+v.length) 0+c2 - (bC W2 (j+v.length) 0+c2) % 4294967296):=by rw[γI];congr 1;omega
       rw[e];simp only[εy,εP];omega
      have hbd:=agn hF (j:=j) (k:=v.length+1)
      have hk:(bC W2 (j+v.length) 0+c2) / 4294967296=1:=by
       by_cases h:(bC W2 (j+v.length) 0+c2) / 4294967296=1
       ·exact h
       ·have h0:(bC W2 (j+v.length) 0+c2) / 4294967296=0:=by omega
        rw[h0,δL] at hFv;omega
      rw[hk,δ8] at hFv
      have e1:(gb - 1)*bD v=gb*bD v - bD v:=by rw[ζJ,εz]
      obtain⟨w1,w2⟩:=afc (q:=gb - 1) (show(gb - 1)*bD v<=bD (prt U j (v.length+1)) by omega) (by rw[show gb - 1+1=gb by omega];exact f5)
      have al3:0<gb:=by
       by_cases h:0<gb
       ·exact h
       ·have:gb=0:=by omega
        subst this;omega
      have hfin:R2.set (j+v.length) ((bC W2 (j+v.length) 0+c2) % 4294967296)=Ln U j (HH (v.length+1) (bD (prt U j (v.length+1)) % bD v)):=ahQ hF hFl (by omega) hFo (by rw[hFv,w2,e1];omega)
      repeat refine γe (by omega) ?_
      rw[hfin];rfl
  ·obtain⟨k1,k2,k3,k4⟩:=nbr (.inl hB) hb
   repeat' refine γe ?_ ?_
   all_goals first|omega|exact k2|exact k3
 ·repeat refine γe (by omega) ?_
  refine⟨λhc=>?_,λhc=>?_⟩
  ·repeat refine γe (by omega) ?_
   refine⟨λhb=>?_,λhb=>?_⟩
   ·obtain⟨gg,hgg,f0,f2,f3⟩:=brk (.inr hc) hb
    rw[<-hgg]
    clear hB hb hc
    clear hgg brk nbr ext hgx hgr
    refine⟨?_,?_⟩
    ·repeat' refine γe ?_ ?_
     all_goals first|omega|exact hU|exact f2|exact f3|exact λ_ _=>trivial|(simp only[bD];omega)
    clear f0 f2 f3
    rintro⟨i,ga,c,b,R⟩ ⟨⟨i0,i1⟩,⟨ga0,ga1⟩,⟨f2,f3⟩,⟨c0,c1⟩,⟨b0,b1⟩,⟨hR,hRl⟩,ho,he⟩
    simp only at i0 i1 ga0 ga1 f2 f3 c0 c1 b0 b1 hR hRl ho he ⊢
    refine⟨λilt=>?_,λige=>?_⟩
    ·have x:=qb hv i.toNat
     have y:=qb hR (j+i.toNat)
     have gx0:0<=ga*bC v i.toNat 0:=γh ga0 x.1
     have gx1:ga*bC v i.toNat 0<=4294967295*4294967295:=δt (by omega) (by omega) x.1 (by omega)
     have q1:bC v i.toNat 0 % 18446744073709551616=bC v i.toNat 0:=by omega
     have q2:bC R (j+i.toNat) 0 % 18446744073709551616=bC R (j+i.toNat) 0:=by omega
     have q3:(ga*bC v i.toNat 0 % 18446744073709551616+c) % 18446744073709551616=ga*bC v i.toNat 0+c:=by omega
     have hi1:(i+1).toNat=i.toNat+1:=by omega
     rw[q1,q2,q3,apH (by omega) (by omega),hi1]
     generalize hq:((bC R (j+i.toNat) 0 - (ga*bC v i.toNat 0+c) % 4294967296) % 18446744073709551616 - b) % 18446744073709551616=q
     obtain⟨k1,k2,k3,k4,k5⟩:=apI (d:=q % 4294967296) (e:=q / 9223372036854775808) hR hRl hv ga0 ga1 c0 c1 b0 b1 (show j+i.toNat<U.length by omega) ho he (by omega) (by omega)
     repeat' refine γe ?_ ?_
     all_goals first|omega|exact k1|exact k2|exact k3|exact k4|exact k5|exact f2|exact f3
    ·have hi:i.toNat=v.length:=by omega
     rw[hi,τ] at he;rw[hi] at ho
     have hun:=ho (j+v.length) (.inr (Θ _))
     have du:=qb hU (j+v.length)
     have q2:bC R (j+v.length) 0 % 18446744073709551616=bC R (j+v.length) 0:=by rw[hun];omega
     have hXs:=@Zi U j v.length
     rw[q2]
     generalize hq:((bC R (j+v.length) 0 - c) % 18446744073709551616 - b) % 18446744073709551616=q
     have S0:cQ (R.set (j+v.length) (q % 4294967296)):=aa2 hR (by omega) (by omega)
     have hlen:(R.set (j+v.length) (q % 4294967296)).length=U.length:=by simp[hRl]
     have hout:∀m,(m<j\/j+(v.length+1)<=m)->bC (R.set (j+v.length) (q % 4294967296)) m 0=bC U m 0:=λm hm=>by rw[acB (by omega)];exact ho m (by omega)
     have hval:bD (prt (R.set (j+v.length) (q % 4294967296)) j (v.length+1))=bD (prt U j (v.length+1)) - ga*bD v+4294967296^(v.length+1)*(q / 9223372036854775808):=by
      rw[Zi,afa (Θ _),ael (by omega),he,hXs,γx]
      have hd:q % 4294967296 - 4294967296*(q / 9223372036854775808)=bC U (j+v.length) 0 - c - b:=by rw[hun] at hq;omega
      generalize (4294967296:Int)^v.length=B
      have e:B*4294967296*(q / 9223372036854775808)=B*(q % 4294967296+c+b - bC U (j+v.length) 0):=by rw[γI];congr 1;omega
      rw[e];simp only[εy,εP];omega
     generalize hW:R.set (j+v.length) (q % 4294967296)=W at*
     have hbd:=agn S0 (j:=j) (k:=v.length+1)
     have hnn:=rf (afb S0 (j:=j) (k:=v.length+1))
     have q3:0<=q/\q<18446744073709551616:=by omega
     clear hq hun du q2 he ho hR
     repeat refine γe (by omega) ?_
     refine⟨λhz=>?_,λhz=>?_⟩
     ·rw[hz,δL,εk] at hval
      obtain⟨w1,w2⟩:=afc (q:=ga) (show ga*bD v<=bD (prt U j (v.length+1)) by omega) f2
      refine⟨by rw[w1];omega,?_⟩
      have hfin:W=Ln U j (HH (v.length+1) (bD (prt U j (v.length+1)) % bD v)):=ahQ S0 hlen (by omega) hout (by rw[hval,w2])
      rw[hfin];rfl
     ·have hq1:q / 9223372036854775808=1:=by omega
      rw[hq1,δ8] at hval
      have f4:bD (prt U j (v.length+1))<ga*bD v:=by omega
      refine⟨?_,?_⟩
      ·repeat' refine γe ?_ ?_
       all_goals first|omega|exact S0|exact hlen|exact⟨W,⟨S0,hlen⟩,hout,hval,λ_ _=>rfl,by simp only[bD]⟩
      clear S0 hlen hout hval hW hbd hnn q3 hz hq1 f4 f2 f3 c0 c1 b0 b1 i0 i1 ga0 ga1
      rintro⟨i2,gb,c2,R2⟩ ⟨⟨i0,i1⟩,⟨gb0,gb1⟩,⟨f5,f6⟩,⟨c0,c1⟩,⟨hR2,ac2⟩,W2,⟨hW2,afd⟩,ho2,hvW,ho3,he3⟩
      simp only at i0 i1 gb0 gb1 f5 f6 c0 c1 hR2 ac2 ho3 he3 ⊢
      refine⟨λilt=>?_,λige=>?_⟩
      ·have x:=qb hv i2.toNat
       have y:=qb hR2 (j+i2.toNat)
       have hi1:(i2+1).toNat=i2.toNat+1:=by omega
       rw[hi1]
       have hs:((bC R2 (j+i2.toNat) 0 % 18446744073709551616+bC v i2.toNat 0 % 18446744073709551616) % 18446744073709551616+c2) % 18446744073709551616=bC R2 (j+i2.toNat) 0+bC v i2.toNat 0+c2:=by omega
       rw[hs]
       obtain⟨k1,k2,k3,k4,k5⟩:=apJ hR2 (ac2.trans afd.symm) hv c0 c1 (show j+i2.toNat<W2.length by omega) hW2 ho3 he3 rfl
       repeat' refine γe ?_ ?_
       all_goals first|omega|exact k1|exact f5|exact f6|exact⟨W2,⟨hW2,afd⟩,ho2,hvW,k4,k5⟩
      ·have hi2:i2.toNat=v.length:=by omega
       rw[hi2,τ] at he3;rw[hi2] at ho3
       have hun:=ho3 (j+v.length) (.inr (Θ _))
       have du:=qb hW2 (j+v.length)
       have hXs:=@Zi W2 j v.length
       have hc2:c2 % 4294967296=c2:=by omega
       rw[hc2,hun]
       have hF:cQ (R2.set (j+v.length) ((bC W2 (j+v.length) 0+c2) % 4294967296)):=aa2 hR2 (by omega) (by omega)
       have hFl:(R2.set (j+v.length) ((bC W2 (j+v.length) 0+c2) % 4294967296)).length=U.length:=by simp[ac2]
       have hFo:∀m,(m<j\/j+(v.length+1)<=m)->bC (R2.set (j+v.length) ((bC W2 (j+v.length) 0+c2) % 4294967296)) m 0=bC U m 0:=λm hm=>by rw[acB (by omega),ho3 m (by omega)];exact ho2 m hm
       have hFv:bD (prt (R2.set (j+v.length) ((bC W2 (j+v.length) 0+c2) % 4294967296)) j (v.length+1))=bD (prt U j (v.length+1)) - gb*bD v+4294967296^(v.length+1)+bD v - 4294967296^(v.length+1)*((bC W2 (j+v.length) 0+c2) / 4294967296):=by
        rw[Zi,afa (Θ _),ael (by omega),<-hvW,hXs,γx]
        generalize (4294967296:Int)^v.length=B at*
        have e:B*4294967296*((bC W2 (j+v.length) 0+c2) / 4294967296)=B*(bC W2 (j+v.length) 0+c2 - (bC W2 (j+v.length) 0+c2) % 4294967296):=by rw[γI];congr 1;omega
        rw[e];simp only[εy,εP];omega
       have hbd:=agn hF (j:=j) (k:=v.length+1)
       have hk:(bC W2 (j+v.length) 0+c2) / 4294967296=1:=by
        by_cases h:(bC W2 (j+v.length) 0+c2) / 4294967296=1
        ·exact h
        ·have h0:(bC W2 (j+v.length) 0+c2) / 4294967296=0:=by omega
         rw[h0,δL] at hFv;omega
       rw[hk,δ8] at hFv
       have e1:(gb - 1)*bD v=gb*bD v - bD v:=by rw[ζJ,εz]
       obtain⟨w1,w2⟩:=afc (q:=gb - 1) (show(gb - 1)*bD v<=bD (prt U j (v.length+1)) by omega) (by rw[show gb - 1+1=gb by omega];exact f5)
       have al3:0<gb:=by
        by_cases h:0<gb
        ·exact h
        ·have:gb=0:=by omega
         subst this;omega
       have hfin:R2.set (j+v.length) ((bC W2 (j+v.length) 0+c2) % 4294967296)=Ln U j (HH (v.length+1) (bD (prt U j (v.length+1)) % bD v)):=ahQ hF hFl (by omega) hFo (by rw[hFv,w2,e1];omega)
       repeat refine γe (by omega) ?_
       rw[hfin];rfl
   ·obtain⟨k1,k2,k3,k4⟩:=nbr (.inr hc) hb
    repeat' refine γe ?_ ?_
    all_goals first|omega|exact k2|exact k3
  ·obtain⟨gg,hgg,f0,f2,f3⟩:=ext hB hc
   rw[<-hgg]
   clear hB hc
   clear hgg brk nbr ext hgx hgr
   refine⟨?_,?_⟩
   ·repeat' refine γe ?_ ?_
    all_goals first|omega|exact hU|exact f2|exact f3|exact λ_ _=>trivial|(simp only[bD];omega)
   clear f0 f2 f3
   rintro⟨i,ga,c,b,R⟩ ⟨⟨i0,i1⟩,⟨ga0,ga1⟩,⟨f2,f3⟩,⟨c0,c1⟩,⟨b0,b1⟩,⟨hR,hRl⟩,ho,he⟩
   simp only at i0 i1 ga0 ga1 f2 f3 c0 c1 b0 b1 hR hRl ho he ⊢
   refine⟨λilt=>?_,λige=>?_⟩
   ·have x:=qb hv i.toNat
    have y:=qb hR (j+i.toNat)
    have gx0:0<=ga*bC v i.toNat 0:=γh ga0 x.1
    have gx1:ga*bC v i.toNat 0<=4294967295*4294967295:=δt (by omega) (by omega) x.1 (by omega)
    have q1:bC v i.toNat 0 % 18446744073709551616=bC v i.toNat 0:=by omega
    have q2:bC R (j+i.toNat) 0 % 18446744073709551616=bC R (j+i.toNat) 0:=by omega
    have q3:(ga*bC v i.toNat 0 % 18446744073709551616+c) % 18446744073709551616=ga*bC v i.toNat 0+c:=by omega
    have hi1:(i+1).toNat=i.toNat+1:=by omega
    rw[q1,q2,q3,apH (by omega) (by omega),hi1]
    generalize hq:((bC R (j+i.toNat) 0 - (ga*bC v i.toNat 0+c) % 4294967296) % 18446744073709551616 - b) % 18446744073709551616=q
    obtain⟨k1,k2,k3,k4,k5⟩:=apI (d:=q % 4294967296) (e:=q / 9223372036854775808) hR hRl hv ga0 ga1 c0 c1 b0 b1 (show j+i.toNat<U.length by omega) ho he (by omega) (by omega)
    repeat' refine γe ?_ ?_
    all_goals first|omega|exact k1|exact k2|exact k3|exact k4|exact k5|exact f2|exact f3
   ·have hi:i.toNat=v.length:=by omega
    rw[hi,τ] at he;rw[hi] at ho
    have hun:=ho (j+v.length) (.inr (Θ _))
    have du:=qb hU (j+v.length)
    have q2:bC R (j+v.length) 0 % 18446744073709551616=bC R (j+v.length) 0:=by rw[hun];omega
    have hXs:=@Zi U j v.length
    rw[q2]
    generalize hq:((bC R (j+v.length) 0 - c) % 18446744073709551616 - b) % 18446744073709551616=q
    have S0:cQ (R.set (j+v.length) (q % 4294967296)):=aa2 hR (by omega) (by omega)
    have hlen:(R.set (j+v.length) (q % 4294967296)).length=U.length:=by simp[hRl]
    have hout:∀m,(m<j\/j+(v.length+1)<=m)->bC (R.set (j+v.length) (q % 4294967296)) m 0=bC U m 0:=λm hm=>by rw[acB (by omega)];exact ho m (by omega)
    have hval:bD (prt (R.set (j+v.length) (q % 4294967296)) j (v.length+1))=bD (prt U j (v.length+1)) - ga*bD v+4294967296^(v.length+1)*(q / 9223372036854775808):=by
     rw[Zi,afa (Θ _),ael (by omega),he,hXs,γx]
     have hd:q % 4294967296 - 4294967296*(q / 9223372036854775808)=bC U (j+v.length) 0 - c - b:=by rw[hun] at hq;omega
     generalize (4294967296:Int)^v.length=B
     have e:B*4294967296*(q / 9223372036854775808)=B*(q % 4294967296+c+b - bC U (j+v.length) 0):=by rw[γI];congr 1;omega
     rw[e];simp only[εy,εP];omega
    generalize hW:R.set (j+v.length) (q % 4294967296)=W at*
    have hbd:=agn S0 (j:=j) (k:=v.length+1)
    have hnn:=rf (afb S0 (j:=j) (k:=v.length+1))
    have q3:0<=q/\q<18446744073709551616:=by omega
    clear hq hun du q2 he ho hR
    repeat refine γe (by omega) ?_
    refine⟨λhz=>?_,λhz=>?_⟩
    ·rw[hz,δL,εk] at hval
     obtain⟨w1,w2⟩:=afc (q:=ga) (show ga*bD v<=bD (prt U j (v.length+1)) by omega) f2
     refine⟨by rw[w1];omega,?_⟩
     have hfin:W=Ln U j (HH (v.length+1) (bD (prt U j (v.length+1)) % bD v)):=ahQ S0 hlen (by omega) hout (by rw[hval,w2])
     rw[hfin];rfl
    ·have hq1:q / 9223372036854775808=1:=by omega
     rw[hq1,δ8] at hval
     have f4:bD (prt U j (v.length+1))<ga*bD v:=by omega
     refine⟨?_,?_⟩
     ·repeat' refine γe ?_ ?_
      all_goals first|omega|exact S0|exact hlen|exact⟨W,⟨S0,hlen⟩,hout,hval,λ_ _=>rfl,by simp only[bD]⟩
     clear S0 hlen hout hval hW hbd hnn q3 hz hq1 f4 f2 f3 c0 c1 b0 b1 i0 i1 ga0 ga1
     rintro⟨i2,gb,c2,R2⟩ ⟨⟨i0,i1⟩,⟨gb0,gb1⟩,⟨f5,f6⟩,⟨c0,c1⟩,⟨hR2,ac2⟩,W2,⟨hW2,afd⟩,ho2,hvW,ho3,he3⟩
     simp only at i0 i1 gb0 gb1 f5 f6 c0 c1 hR2 ac2 ho3 he3 ⊢
     refine⟨λilt=>?_,λige=>?_⟩
     ·have x:=qb hv i2.toNat
      have y:=qb hR2 (j+i2.toNat)
      have hi1:(i2+1).toNat=i2.toNat+1:=by omega
      rw[hi1]
      have hs:((bC R2 (j+i2.toNat) 0 % 18446744073709551616+bC v i2.toNat 0 % 18446744073709551616) % 18446744073709551616+c2) % 18446744073709551616=bC R2 (j+i2.toNat) 0+bC v i2.toNat 0+c2:=by omega
      rw[hs]
      obtain⟨k1,k2,k3,k4,k5⟩:=apJ hR2 (ac2.trans afd.symm) hv c0 c1 (show j+i2.toNat<W2.length by omega) hW2 ho3 he3 rfl
      repeat' refine γe ?_ ?_
      all_goals first|omega|exact k1|exact f5|exact f6|exact⟨W2,⟨hW2,afd⟩,ho2,hvW,k4,k5⟩
     ·have hi2:i2.toNat=v.length:=by omega
      rw[hi2,τ] at he3;rw[hi2] at ho3
      have hun:=ho3 (j+v.length) (.inr (Θ _))
      have du:=qb hW2 (j+v.length)
      have hXs:=@Zi W2 j v.length
      have hc2:c2 % 4294967296=c2:=by omega
      rw[hc2,hun]
      have hF:cQ (R2.set (j+v.length) ((bC W2 (j+v.length) 0+c2) % 4294967296)):=aa2 hR2 (by omega) (by omega)
      have hFl:(R2.set (j+v.length) ((bC W2 (j+v.length) 0+c2) % 4294967296)).length=U.length:=by simp[ac2]
      have hFo:∀m,(m<j\/j+(v.length+1)<=m)->bC (R2.set (j+v.length) ((bC W2 (j+v.length) 0+c2) % 4294967296)) m 0=bC U m 0:=λm hm=>by rw[acB (by omega),ho3 m (by omega)];exact ho2 m hm
      have hFv:bD (prt (R2.set (j+v.length) ((bC W2 (j+v.length) 0+c2) % 4294967296)) j (v.length+1))=bD (prt U j (v.length+1)) - gb*bD v+4294967296^(v.length+1)+bD v - 4294967296^(v.length+1)*((bC W2 (j+v.length) 0+c2) / 4294967296):=by
       rw[Zi,afa (Θ _),ael (by omega),<-hvW,hXs,γx]
       generalize (4294967296:Int)^v.length=B at*
       have e:B*4294967296*((bC W2 (j+v.length) 0+c2) / 4294967296)=B*(bC W2 (j+v.length) 0+c2 - (bC W2 (j+v.length) 0+c2) % 4294967296):=by rw[γI];congr 1;omega
       rw[e];simp only[εy,εP];omega
      have hbd:=agn hF (j:=j) (k:=v.length+1)
      have hk:(bC W2 (j+v.length) 0+c2) / 4294967296=1:=by
       by_cases h:(bC W2 (j+v.length) 0+c2) / 4294967296=1
       ·exact h
       ·have h0:(bC W2 (j+v.length) 0+c2) / 4294967296=0:=by omega
        rw[h0,δL] at hFv;omega
      rw[hk,δ8] at hFv
      have e1:(gb - 1)*bD v=gb*bD v - bD v:=by rw[ζJ,εz]
      obtain⟨w1,w2⟩:=afc (q:=gb - 1) (show(gb - 1)*bD v<=bD (prt U j (v.length+1)) by omega) (by rw[show gb - 1+1=gb by omega];exact f5)
      have al3:0<gb:=by
       by_cases h:0<gb
       ·exact h
       ·have:gb=0:=by omega
        subst this;omega
      have hfin:R2.set (j+v.length) ((bC W2 (j+v.length) 0+c2) % 4294967296)=Ln U j (HH (v.length+1) (bD (prt U j (v.length+1)) % bD v)):=ahQ hF hFl (by omega) hFo (by rw[hFv,w2,e1];omega)
      repeat refine γe (by omega) ?_
      rw[hfin];rfl
structure Game where
 rows:List (List Int)
 bounds:List Int
 offers:List Off
def ajA:Cod Game where
 put a:=.agg [.row (.fK (.i .i64)) a.rows,.row (.i .i64) a.bounds,.row .off a.offers]
 dec
  | .agg [r,v,x]=>match Kz (.fK (.i .i64)) r,Kz (.i .i64) v,Kz .off x with
   |some c,some v,some x=>some ⟨c,v,x⟩
   |_,_,_=>none
  |_=>none
 ok v a h:=by
  split at h
  ·split at h
   ·rename_i h1 h2 h3
    simp only[γ] at h;subst h
    simp only[SV.g,gL,aaW h1,aaW h2,aaW h3]
   ·cases h
  ·cases h
 inj a b h:=by
  obtain⟨c,v,x⟩:=a
  obtain⟨c',v',x'⟩:=b
  simp only[SV.g,gL,AV.agg.injEq,Δ,and_true,true_and,AV.sl.injEq] at h
  have m1:=XV (.fK (.i .i64)) h.1.1 h.1.2
  have m2:=XV (.i .i64) h.2.1.1 h.2.1.2
  have m3:=XV .off h.2.2.1 h.2.2.2
  rw[m1,m2,m3]
def al4:fN:=⟨115,dd,.one qa,λ_=>True,λp=> .si .i64 (if fO p=0 then ki p else 0)⟩
theorem h335:Holds Tryz.prog al4:=by
 refine kh (L:=[r79,ahH]) al4 lk (by simpa using⟨h79,h157⟩) ?_
 rintro(p:dd) -
 refine gp (let a:=(0:Int);let b:=decide (fO p≠a);let c:=γa .i64 (if fO p=a then ki p else a);True/\(b=true->(γu .i64 0).same c)/\(b=false->p.classes.length<=8/\(γa .i64 (ki p)).same c)) (by kernel_rfl) ?_
 simp only[vcs]
 refine⟨λh=>by rw[if_neg h],λh=>?_⟩
 have hc:fO p=0:=Classical.not_not.1 h
 rw[if_pos hc]
 have:=(uw hc).1
 exact⟨this,rfl⟩
def uD (p:dd) (r:Int) (n:Nat):List Int:=(p.offers.take n).map (sV p r)
def apP:fN:=⟨116,dd×Int,.cons qa (.one (sx .i64)),λa=>fO a.1=0/\0<=a.2/\a.2<ki a.1,λa=> .eW [.row (.i .i64) (uD a.1 a.2 a.1.offers.length),.si .i64 (nn a.1 a.2)]⟩
def aDG (a:dd×Int):Nat->jY
 |5=> .inv Int (λi=>⟨[(1,.si .i64 a.2),(4,.ow 1 (uD a.1 a.2 i.toNat).length 1),(6,.ptr 2 0 20),(20,.row .off a.1.offers),(21,.si .i64 a.1.offers.length),(22,.si .i64 i)],[.cells a.1.ss 27 20 false,.row (.i .i64) (uD a.1 a.2 i.toNat) 3 true,.cells a.1.ss 98 20 false]⟩)
   (λs=>iS s 22) (λi=>0<=i/\i<=a.1.offers.length) (λi=>(a.1.offers.length - i).toNat) λ_ _=> .look
 |_=> .look
theorem h336:Holds Tryz.prog apP:=by
 refine kh (L:=[al4,ahJ,ahI]) apP aDG (by simpa using⟨h335,h156,h158⟩) ?_
 rintro⟨p,r⟩ ⟨hc,r0,r1⟩
 simp only at hc r0 r1
 refine gp (let a:=γa .i64;let b:=(0:Int);let c:=Ξ;let d:=cJ.row;let e:=SV.eW;let f:=γQ;let g:=cn.i .i64;let l:=c cn.off p.offers;let v:=decide (r<b);let o:=γu .i64 0;let w:=[a (nn p r)];let q:=e (c g (uD p r p.offers.length)::w);let y:=decide ((if fO p=b then ki p else b)<=r);let m:=γ5 2 0 20;let z:=(↑p.offers.length:Int);let h:=(↑p.offers.length:Int);let s:=a h;let n:=λ(u:Nat) ↦let A:=cJ.cells [a p.supply.a0,a p.supply.a1,a p.supply.a2,a p.supply.a3,a p.supply.a4,a p.supply.a5,a p.opn.a0,a p.opn.a1,a p.opn.a2,a p.opn.a3,a p.opn.a4,a p.opn.a5,a p.cls.a0,a p.cls.a1,a p.cls.a2,a p.cls.a3,a p.cls.a4,a p.cls.a5,c g p.classes,l] u 20 false;A.same A;(v=true->0=0/\(e [c g [],o]).same q)/\(v=false->True/\(y=true->0=0/\(e [c g [],o]).same q)/\(y=false->((((a r).same (a r)/\(f 1 0 1).same (f 1 (uD p r 0).length 1)/\m.same m/\l.same l/\(a z).same s/\o.same (a 0)/\True)/\n 27/\(d g [] 3 true).same (d g (uD p r 0) 3 true)/\n 98/\True)/\b<=b/\b<=h)/\∀(x:Int),let t:=bC p.offers x.toNat cn.off.dflt;let j:=uD p r x.toNat;let B:=j.length+1;let k:=x+(1:Int);let C:=j++[sV p r t];let D:=a k;b<=x/\x<=h->(decide (x<h)=true->b<=x/\x<z/\x.toNat<p.offers.length/\(p.classes.length<=8/\b<=r/\r<ki p/\b<=t.jV/\t.jV<(↑p.classes.length:Int))/\j.length=j.length/\B*8<=140737488355328/\B<=1000000000000/\ie .i64 k/\(((a r).same (a r)/\(f 1 C.length 1).same (f 1 (uD p r k.toNat).length 1)/\m.same m/\l.same l/\s.same s/\D.same D/\True)/\n 27/\(d g C 3 true).same (d g (uD p r k.toNat) 3 true)/\n 98/\True)/\(b<=k/\k<=h)/\(h - k).toNat<(h - x).toNat)/\(decide (x<h)=false->(p.classes.length<=8/\b<=r/\r<ki p)/\j.length=j.length/\(e (c g j::w)).same q)))) (by kernel_rfl) ?_
 simp only[vcs]
 obtain⟨g1,g2,g3,g4,g5⟩:=uw hc
 have how:∀{x y:Nat},x=y->(γQ 1 x 1).same (γQ 1 y 1):=by rintro _ _ rfl;rfl
 have hrow:∀{x y:List Int},x=y->(cJ.row (.i .i64) x 3 true).same (cJ.row (.i .i64) y 3 true):=by rintro _ _ rfl;rfl
 rw[if_pos hc]
 refine⟨λh=>by omega,λ_=>⟨λh=>by omega,λ_=>⟨⟨?_,by omega,by omega⟩,?_⟩⟩⟩
 ·exact⟨how rfl,hrow rfl⟩
 ·rintro i ⟨i0,i1⟩
  have hL:(uD p r i.toNat).length<=160:=by unfold uD;rw[List.length_map,γd];omega
  refine⟨λhi=>?_,λhi=>?_⟩
  ·have hx:=g5 _ (pz (d:=cn.off.dflt) (show i.toNat<p.offers.length by omega))
   have e:uD p r (i+1).toNat=uD p r i.toNat++[sV p r (bC p.offers i.toNat cn.off.dflt)]:=by
    unfold uD;rw[Xx (d:=cn.off.dflt) i0 hi,γj];rfl
   rw[e]
   refine⟨i0,hi,?_,⟨g1,r0,r1,hx.1,hx.2.1⟩,?_,?_,?_,⟨how rfl,hrow rfl⟩,?_,?_⟩<;>omega
  ·rw[show i.toNat=p.offers.length by omega]
   exact⟨⟨g1,r0,r1⟩,rfl⟩
def Zo (p:dd) (n:Nat):List (List Int):=(Φ n).map λr:Nat=>uD p r p.offers.length
def Ss (p:dd) (n:Nat):List Int:=(Φ n).map λr:Nat=>nn p r
def nR (p:dd):Nat:=if fO p=0 then p.classes.length+12 else 0
def lF (p:dd):Game:=⟨Zo p (nR p),Ss p (nR p),p.offers⟩
theorem av4 {p:dd} {n:Nat}:(Zo p n).length=n:=by simp[Zo]
theorem al5 {p:dd} {n:Nat}:(Ss p n).length=n:=by simp[Ss]
theorem aDH {p:dd} {i:Int} (h:0<=i):Zo p (i+1).toNat=Zo p i.toNat++[uD p i p.offers.length]:=by
 unfold Zo
 rw[show(i+1).toNat=i.toNat+1 from by omega,εi,γj]
 simp only[ψ,γy,show((i.toNat:Nat):Int)=i from by omega]
theorem aDI {p:dd} {i:Int} (h:0<=i):Ss p (i+1).toNat=Ss p i.toNat++[nn p i]:=by
 unfold Ss
 rw[show(i+1).toNat=i.toNat+1 from by omega,εi,γj]
 simp only[ψ,γy,show((i.toNat:Nat):Int)=i from by omega]
def al6:fN:=⟨76,dd,.one qa,λ_=>True,λp=>ajA.put (lF p)⟩
def aDJ (p:dd):Nat->jY
 |3=> .inv Int (λi=>⟨[(1,.ptr 0 0 20),(2,.ptr 1 0 3),(3,.ptr 2 0 3),(11,.si .i64 (nR p)),(12,.si .i64 i)],[.cells p.ss 27 20 false,.cells [.sc (.slice none 0 0),.sc (.slice none 0 0),.sc (.slice none 0 0)] 130 3 false,.cells [.ow 4 (Zo p i.toNat).length 1,.ow 3 (Ss p i.toNat).length 1,.row .off p.offers] 130 3 false,.row (.i .i64) (Ss p i.toNat) 3 true,.row (.fK (.i .i64)) (Zo p i.toNat) 24 false]⟩)
   (λs=>iS s 12) (λi=>0<=i/\i<=nR p) (λi=>(nR p - i).toNat) λ_ _=> .look
 |_=> .look
theorem h325:Holds Tryz.prog al6:=by
 refine kh (L:=[al4,apP]) al6 aDJ (by simpa using⟨h335,h336⟩) ?_
 rintro(p:dd) -
 refine gp (let a:=γa .i64;let b:=cJ.row;let c:=(0:Int);let d:=cJ.cells;let e:=Ξ;let f:=γQ;let g:=γ5;let o:=g 0 0 20;let q:=g 1 0 3;let r:=g 2 0 3;let k:=(↑(nR p):Int);let u:=a k;let h:=cn.i .i64;let n:=[e cn.off p.offers];let s:=d (a p.supply.a0::a p.supply.a1::a p.supply.a2::a p.supply.a3::a p.supply.a4::a p.supply.a5::a p.opn.a0::a p.opn.a1::a p.opn.a2::a p.opn.a3::a p.opn.a4::a p.opn.a5::a p.cls.a0::a p.cls.a1::a p.cls.a2::a p.cls.a3::a p.cls.a4::a p.cls.a5::e h p.classes::n) 27 20 false;let v:=SV.sc (Value.slice none 0 0);let t:=d [v,v,v] 130 3 false;True/\(((o.same o/\q.same q/\r.same r/\(a (if fO p=c then ki p else c)).same u/\(γu .i64 0).same (a 0)/\True)/\s.same s/\t.same t/\(d (f 4 0 1::f 3 0 1::n) 130 3 false).same (d (f 4 (Zo p 0).length 1::f 3 (Ss p 0).length 1::n) 130 3 false)/\(b h [] 3 true).same (b h (Ss p 0) 3 true)/\(b h.fK [] 24 false).same (b h.fK (Zo p 0) 24 false)/\True)/\c<=c/\c<=k)/\∀(x:Int),let m:=Zo p x.toNat;let w:=m.length+1;let l:=Ss p x.toNat;let y:=l.length+1;let j:=x+(1:Int);let z:=a j;let A:=m++[uD p x p.offers.length];c<=x/\x<=k->(decide (x<k)=true->(fO p=c/\c<=x/\x<ki p)/\1=1/\m.length=m.length/\w*24<=140737488355328/\w<=1000000000000/\1=1/\l.length=l.length/\y*8<=140737488355328/\y<=1000000000000/\ie .i64 j/\((o.same o/\q.same q/\r.same r/\u.same u/\z.same z/\True)/\s.same s/\t.same t/\(d (f 4 A.length 1::f 3 (l++[nn p x]).length 1::n) 130 3 false).same (d (f 4 (Zo p j.toNat).length 1::f 3 (Ss p j.toNat).length 1::n) 130 3 false)/\(b h (l++[nn p x]) 3 true).same (b h (Ss p j.toNat) 3 true)/\(b h.fK A 24 false).same (b h.fK (Zo p j.toNat) 24 false)/\True)/\(c<=j/\j<=k)/\(k - j).toNat<(k - x).toNat)/\(decide (x<k)=false->m.length=m.length/\l.length=l.length/\(SV.agg (e h.fK m::e h l::n)).same (SV.agg [e h.fK (lF p).rows,e h (lF p).bounds,e cn.off (lF p).offers]))) (by kernel_rfl) ?_
 simp only[vcs]
 have hn:∀x:Int,0<=x->x<nR p->fO p=0/\x<ki p/\nR p<=20:=by
  intro x hx0 hx;unfold nR at hx ⊢;split at hx
  ·rename_i hc
   have:=(uw hc).1
   rw[if_pos hc]
   exact⟨hc,by unfold ki;omega,by omega⟩
  ·omega
 have e0:(if fO p=0 then ki p else 0)=((nR p:Nat):Int):=by
  unfold nR ki;split
  ·omega
  ·rfl
 have hcell:∀{a a' b b':Nat} {l:List Off},a=a'->b=b'->(cJ.cells [.ow 4 a 1,.ow 3 b 1,.row .off l] 130 3 false).same (.cells [.ow 4 a' 1,.ow 3 b' 1,.row .off l] 130 3 false):=by rintro _ _ _ _ _ rfl rfl;rfl
 have hrow:∀{x y:List Int},x=y->(cJ.row (.i .i64) x 3 true).same (cJ.row (.i .i64) y 3 true):=by rintro _ _ rfl;rfl
 have hrow2:∀{x y:List (List Int)},x=y->(cJ.row (.fK (.i .i64)) x 24 false).same (cJ.row (.fK (.i .i64)) y 24 false):=by rintro _ _ rfl;rfl
 refine⟨⟨⟨e0,hcell rfl rfl,hrow rfl,hrow2 rfl⟩,by omega,by omega⟩,?_⟩
 rintro i ⟨i0,i1⟩
 refine⟨λhi=>?_,λhi=>?_⟩
 ·obtain⟨hc,h1,h2⟩:=hn i i0 hi
  have l1:=@av4 p i.toNat
  have l2:=@al5 p i.toNat
  rw[aDH i0,aDI i0]
  refine⟨⟨hc,i0,h1⟩,?_,?_,?_,?_,?_,⟨hcell rfl rfl,hrow rfl,hrow2 rfl⟩,?_,?_⟩<;>omega
 ·rw[show i.toNat=nR p by omega]
  rfl
def aa4 (g:Game):Prop:=(g.rows.length=g.bounds.length/\g.bounds.length<=1000/\g.offers.length<=1000)/\(∀r∈g.rows,r.length=g.offers.length/\∀x∈r,0<=x/\x<=1000)/\∀b∈g.bounds, -1000<=b/\b<=1000
def acC (g:Game) (c:List Int):Prop:=∀x∈c,0<=(bC g.offers x.toNat cn.off.dflt).value/\(bC g.offers x.toNat cn.off.dflt).value<=1000000
def ab3 (g:Game) (c:List Int):Prop:=c.length<=1000/\∀x∈c,0<=x/\x<g.offers.length
def Zp (g:Game) (c:List Int) (r:Nat):Int:=(c.map λx=>bC (bC g.rows r []) x.toNat 0).sum
def Xz (g:Game) (c:List Int):Bool:=(Φ g.bounds.length).all λr=>decide (0<=bC g.bounds r 0 - Zp g c r)
def pI (g:Game) (c:List Int):Int:=(c.map λx=>(bC g.offers x.toNat cn.off.dflt).value).sum
theorem av5 {f:Int->Int} {c:List Int} {i:Int} (h0:0<=i) (h:i<c.length):((c.take (i+1).toNat).map f).sum=((c.take i.toNat).map f).sum+f (bC c i.toNat 0):=by
 rw[Xx (d:=0) h0 h,γj,List.sum_append]
 simp
theorem apQ {f:Int->Int} {c:List Int} {k:Nat} {m:Int} (hm:0<=m) (h:∀x∈c,0<=f x/\f x<=m):0<=((c.take k).map f).sum/\((c.take k).map f).sum<=c.length*m:=by
 induction c generalizing k with
 |nil=>simp
 |cons x c ih=>
  cases k with
  |zero=>simp;exact γh (by omega) hm
  |succ k=>
   have h1:=h x (by simp)
   obtain⟨h2,h3⟩:=ih (k:=k) λy hy=>h y (by simp[hy])
   simp only[List.take_succ_cons,ψ,List.sum_cons,γz]
   rw[show(((c.length+1:Nat):Int))*m=c.length*m+m by rw[Int.natCast_add,Int.add_mul];simp]
   omega
def al7:fN:=⟨82,Game×List Int,.cons ajA (.one (mA (.i .i64))),λa=>aa4 a.1/\ab3 a.1 a.2,λa=> .sb (Xz a.1 a.2)⟩
def aDK (g:Game) (c:List Int):Nat->jY
 |2=> .inv Int (λi=>⟨[(1,.row (.i .i64) c),(2,.ptr 0 0 3),(10,.row (.i .i64) g.bounds),(11,.si .i64 g.bounds.length),(12,.si .i64 i)],[.cells [.row (.fK (.i .i64)) g.rows,.row (.i .i64) g.bounds,.row .off g.offers] 130 3 false]⟩)
   (λs=>iS s 12) (λi=>(0<=i/\i<=g.bounds.length)/\∀r:Nat,r<i->0<=bC g.bounds r 0 - Zp g c r) (λi=>(g.bounds.length - i).toNat) λi k=>match k with
   |5=> .inv (Int×Int) (λy=>⟨[(1,.row (.i .i64) c),(2,.ptr 0 0 3),(5,.si .i64 i),(6,.si .i64 y.2),(10,.row (.i .i64) g.bounds),(11,.si .i64 g.bounds.length),(12,.si .i64 i),(17,.row (.i .i64) c),(18,.si .i64 c.length),(19,.si .i64 y.1)],[.cells [.row (.fK (.i .i64)) g.rows,.row (.i .i64) g.bounds,.row .off g.offers] 130 3 false]⟩)
     (λs=>(iS s 19,iS s 6)) (λy=>(0<=y.1/\y.1<=c.length)/\y.2=bC g.bounds i.toNat 0 - Zp g (c.take y.1.toNat) i.toNat) (λy=>(c.length - y.1).toNat) λ_ _=> .look
   |_=> .look
 |_=> .look
theorem h327:Holds Tryz.prog al7:=by
 refine kh (L:=[]) al7 (λa=>aDK a.1 a.2) (by simp) ?_
 rintro⟨g,c⟩ ⟨⟨⟨q1,q2,q3⟩,hr,hb⟩,hcl,hci⟩
 simp only at q1 q2 q3 hr hb hcl hci
 refine gp (let a:=(0:Int);let b:=γa .i64;let d:=Ξ;let e:=γu .i64 0;let f:=ie .i64;let h:=cn.i .i64;let k:=γ5 0 0 3;let j:=d h g.bounds;let z:=(↑g.bounds.length:Int);let l:=(↑g.bounds.length:Int);let o:=b l;let m:=cJ.cells [d h.fK g.rows,j,d cn.off g.offers] 130 3 false;let n:=(↑c.length:Int);let v:=b n;((((d h c).same (d h c)/\k.same k/\j.same j/\(b z).same o/\(e).same (b 0)/\True)/\m.same m/\True)/\(a<=a/\a<=l)/\∀(r:Nat),(↑r:Int)<a->a<=bC g.bounds r a - Zp g c r)/\∀(x:Int),let s:=bC g.bounds x.toNat a;let A:=b s;let w:=bC g.rows x.toNat h.fK.dflt;let p:=x+(1:Int);let B:=b p;((a<=x/\x<=l)/\∀(r:Nat),(↑r:Int)<x->a<=bC g.bounds r a - Zp g c r)->(decide (x<l)=true->a<=x/\x<z/\x.toNat<g.bounds.length/\((((d h c).same (d h c)/\k.same k/\(b x).same (b x)/\A.same A/\j.same j/\o.same o/\(b x).same (b x)/\(d h c).same (d h c)/\(b (↑c.length:Int)).same v/\(e).same (b 0)/\True)/\m.same m/\True)/\(a<=a/\a<=n)/\s=s - Zp g [] x.toNat)/\∀(x_1:Int×Int),let t:=bC c x_1.fst.toNat a;let y:=x_1.snd - bC w t.toNat a;let q:=x_1.fst+(1:Int);let u:=b x;let C:=b y;let D:=b q;let E:=decide (x_1.snd<a);(a<=x_1.fst/\x_1.fst<=n)/\x_1.snd=s - Zp g (ω x_1.fst.toNat c) x.toNat->(decide (x_1.fst<n)=true->a<=x_1.fst/\x_1.fst<(↑c.length:Int)/\x_1.fst.toNat<c.length/\a<=x/\x<(↑g.rows.length:Int)/\x.toNat<g.rows.length/\a<=t/\t<(↑w.length:Int)/\t.toNat<w.length/\f y/\f q/\(((d h c).same (d h c)/\k.same k/\u.same u/\C.same C/\j.same j/\o.same o/\u.same u/\(d h c).same (d h c)/\v.same v/\D.same D/\True)/\m.same m/\True)/\((a<=q/\q<=n)/\y=s - Zp g (ω q.toNat c) x.toNat)/\(n - q).toNat<(n - x_1.fst).toNat)/\(decide (x_1.fst<n)=false->(E=true->(SV.bl false).same (SV.sb (Xz g c)))/\(E=false->f p/\(((d h c).same (d h c)/\k.same k/\j.same j/\o.same o/\B.same B/\True)/\m.same m/\True)/\((a<=p/\p<=l)/\∀(r:Nat),(↑r:Int)<p->a<=bC g.bounds r a - Zp g c r)/\(l - p).toNat<(l - x).toNat)))/\(decide (x<l)=false->(SV.bl true).same (SV.sb (Xz g c)))) (by kernel_rfl) ?_
 simp only[vcs]
 have hd:(cn.i IntKind.i64).fK.dflt=([]:List Int):=rfl
 rw[hd]
 have hrr:∀r:Nat,r<g.rows.length->(bC g.rows r []).length=g.offers.length/\∀x∈c,0<=bC (bC g.rows r []) x.toNat 0/\bC (bC g.rows r []) x.toNat 0<=1000:=λr h=>by
  have:=hr _ (pz (d:=[]) h)
  refine⟨this.1,λx hx=>?_⟩
  have h2:=hci x hx
  exact this.2 _ (pz (by rw[this.1];omega))
 refine⟨⟨by omega,λr h=>by omega⟩,?_⟩
 rintro i ⟨⟨i0,i1⟩,hdone⟩
 refine⟨λhi=>⟨i0,hi,by omega,⟨by omega,by simp[Zp]⟩,?_⟩,λhi=>?_⟩
 ·obtain⟨hrl,hrx⟩:=hrr i.toNat (by omega)
  have hbi:=hb _ (pz (d:=0) (show i.toNat<g.bounds.length by omega))
  rintro⟨j,v⟩ ⟨⟨j0,j1⟩,hv⟩
  simp only at j0 j1 hv ⊢
  refine⟨λhj=>?_,λhj=>?_⟩
  ·have hx:=hci _ (pz (d:=0) (show j.toNat<c.length by omega))
   have hs:Zp g (c.take (j+1).toNat) i.toNat=Zp g (c.take j.toNat) i.toNat+bC (bC g.rows i.toNat []) (bC c j.toNat 0).toNat 0:=av5 (f:=λx=>bC (bC g.rows i.toNat []) x.toNat 0) j0 hj
   have hbd:0<=Zp g (c.take j.toNat) i.toNat/\Zp g (c.take j.toNat) i.toNat<=c.length*1000:=apQ (f:=λx=>bC (bC g.rows i.toNat []) x.toNat 0) (m:=1000) (by omega) hrx
   have hvx:=hrx _ (pz (d:=0) (show j.toNat<c.length by omega))
   rw[hs,hrl]
   refine⟨j0,hj,?_,i0,?_,?_,hx.1,hx.2,?_,?_,?_,⟨?_,?_⟩,?_⟩<;>omega
  ·have hjc:j.toNat=c.length:=by omega
   rw[hjc,τ] at hv
   refine⟨λhneg=>?_,λhpos=>⟨by omega,⟨by omega,λr h=>?_⟩,by omega⟩⟩
   ·symm
    rw[<-Bool.not_eq_true,Xz,γf];intro h
    have:=of_decide_eq_true (h i.toNat (δh.2 (by omega)))
    omega
   ·by_cases h2:(r:Int)<i
    ·exact hdone r h2
    ·rw[show r=i.toNat by omega,<-hv];omega
 ·symm
  rw[Xz,γf];intro r h;rw[δh] at h
  exact decide_eq_true (hdone r (by omega))
def ahT:fN:=⟨79,Game×List Int,.cons ajA (.one (mA (.i .i64))),λa=>aa4 a.1/\ab3 a.1 a.2/\acC a.1 a.2,λa=> .si .i64 (pI a.1 a.2)⟩
def aDL (g:Game) (c:List Int):Nat->jY
 |3=> .inv Int (λi=>⟨[(2,.ptr 0 0 3),(5,.si .i64 (pI g (c.take i.toNat))),(8,.row (.i .i64) c),(9,.si .i64 c.length),(10,.si .i64 i)],[.cells [.row (.fK (.i .i64)) g.rows,.row (.i .i64) g.bounds,.row .off g.offers] 130 3 false]⟩)
   (λs=>iS s 10) (λi=>0<=i/\i<=c.length) (λi=>(c.length - i).toNat) λ_ _=> .look
 |_=> .look
theorem h328:Holds Tryz.prog ahT:=by
 refine kh (L:=[]) ahT (λa=>aDL a.1 a.2) (by simp) ?_
 rintro⟨g,c⟩ ⟨⟨⟨q1,q2,q3⟩,hr,hb⟩,⟨hcl,hci⟩,hvv⟩
 simp only[acC] at q1 q2 q3 hr hb hcl hci hvv
 refine gp (let a:=γa .i64;let b:=(0:Int);let d:=Ξ;let j:=γ5 0 0 3;let n:=γu .i64 0;let f:=cn.i .i64;let e:=(↑c.length:Int);let m:=a e;let k:=cJ.cells [d f.fK g.rows,d f g.bounds,d cn.off g.offers] 130 3 false;(((j.same j/\n.same (a (pI g []))/\(d f c).same (d f c)/\(a (↑c.length:Int)).same m/\n.same (a 0)/\True)/\k.same k/\True)/\b<=b/\b<=e)/\∀(x:Int),let l:=bC c x.toNat b;let o:=pI g (ω x.toNat c);let p:=o+(bC g.offers l.toNat cn.off.dflt).value;let h:=x+(1:Int);let q:=a h;b<=x/\x<=e->(decide (x<e)=true->b<=x/\x<(↑c.length:Int)/\x.toNat<c.length/\b<=l/\l<(↑g.offers.length:Int)/\l.toNat<g.offers.length/\ie .i64 p/\ie .i64 h/\((j.same j/\(a p).same (a (pI g (ω h.toNat c)))/\(d f c).same (d f c)/\m.same m/\q.same q/\True)/\k.same k/\True)/\(b<=h/\h<=e)/\(e - h).toNat<(e - x).toNat)/\(decide (x<e)=false->(a o).same (a (pI g c)))) (by kernel_rfl) ?_
 conv=>zeta
 try simp only[vcs]
 refine⟨⟨by simp[pI],by omega,by omega⟩,?_⟩
 rintro i ⟨i0,i1⟩
 refine⟨λhi=>?_,λhi=>?_⟩
 ·have hx:=hci _ (pz (d:=0) (show i.toNat<c.length by omega))
  have hs:pI g (c.take (i+1).toNat)=pI g (c.take i.toNat)+(bC g.offers (bC c i.toNat 0).toNat cn.off.dflt).value:=av5 (f:=λx=>(bC g.offers x.toNat cn.off.dflt).value) i0 hi
  have hbd:0<=pI g (c.take i.toNat)/\pI g (c.take i.toNat)<=c.length*1000000:=apQ (f:=λx=>(bC g.offers x.toNat cn.off.dflt).value) (m:=1000000) (by omega) hvv
  have hv1:=hvv _ (pz (d:=0) (show i.toNat<c.length by omega))
  rw[hs]
  refine⟨i0,hi,by omega,hx.1,hx.2,by omega,by omega,by omega,by first|trivial|rfl,by omega,by omega⟩
 ·rw[show i.toNat=c.length by omega,τ]
def p3:dd:=⟨⟨1,1,0,0,0,0⟩,⟨1,1,0,0,0,0⟩,⟨0,0,0,0,0,0⟩,[0,0,0],[⟨0,⟨1,1,0,0,0,0⟩,10⟩,⟨1,⟨1,0,0,0,0,0⟩,6⟩,⟨2,⟨0,1,0,0,0,0⟩,6⟩]⟩
def ET (D:Int->Int) (x y:Int):Bool:=decide (D y<D x)||(decide (D x=D y)&&decide (x<=y))
theorem abB {D:Int->Int} {x y:Int}:ET D x y=true↔D y<D x\/(D x=D y/\x<=y):=by unfold ET;simp
theorem av6 {D:Int->Int} (a b c:Int) (h1:ET D a b=true) (h2:ET D b c=true):ET D a c=true:=by
 rw[abB] at*
 rcases h1 with h1|⟨h1,k1⟩
 ·rcases h2 with h2|⟨h2,k2⟩
  ·exact .inl (by omega)
  ·exact .inl (by omega)
 ·rcases h2 with h2|⟨h2,k2⟩
  ·exact .inl (by omega)
  ·exact .inr ⟨by omega,by omega⟩
theorem aDM {D:Int->Int} (a b:Int):(ET D a b||ET D b a)=true:=by
 rw[Bool.or_eq_true,abB,abB]
 by_cases h1:D b<D a
 ·exact .inl (.inl h1)
 ·by_cases h2:D a<D b
  ·exact .inr (.inl h2)
  ·have h3:D a=D b:=by omega
   by_cases h4:a<=b
   ·exact .inl (.inr ⟨h3,h4⟩)
   ·exact .inr (.inr ⟨h3.symm,by omega⟩)
theorem aDN {D:Int->Int} {a b:Int} (h1:ET D a b=true) (h2:ET D b a=true):a=b:=by
 rw[abB] at*
 rcases h1 with h1|⟨h1,k1⟩
 ·rcases h2 with h2|⟨h2,k2⟩
  ·exact absurd h1 (by omega)
  ·exact absurd h1 (by omega)
 ·rcases h2 with h2|⟨h2,k2⟩
  ·exact absurd h2 (by omega)
  ·omega
abbrev Kp (D:Int->Int) (l:List Int):Prop:=l.Pairwise λa b=>ET D a b=true
def nA (D:Int->Int) (l:List Int):List Int:=l.mergeSort (ET D)
theorem adM {D:Int->Int} {l:List Int}:(nA D l).Perm l:=List.mergeSort_perm _ _
theorem agq {D:Int->Int} {l:List Int}:Kp D (nA D l):=List.pairwise_mergeSort av6 aDM l
theorem abC {D:Int->Int} {l:List Int}:(nA D l).length=l.length:=adM.length_eq
theorem ahU {D:Int->Int} {l:List Int} {x:Int}:x∈nA D l↔x∈l:=adM.mem_iff
theorem ajB {D:Int->Int} {l m:List Int} (hp:m.Perm l) (hs:Kp D m):m=nA D l:=
 List.Perm.eq_of_pairwise (λa b _ _ h1 h2=>aDN h1 h2) hs agq (hp.trans adM.symm)
theorem apR {D:Int->Int} {l:List Int} (h:Kp D l):nA D l=l:=(ajB (ζH _) h).symm
def seg (l:List Int) (a b:Nat):List Int:=(l.drop a).take (b - a)
def od (D:Int->Int) (l:List Int) (a b:Nat):List Int:=l.take a++nA D (seg l a b)++l.drop b
theorem S1 {l:List Int} {a b:Nat} (h1:a<=b) (h2:b<=l.length):(seg l a b).length=b - a:=by
 unfold seg;rw[γd,γ3];omega
theorem apS {l:List Int} {a b:Nat} (h1:a<=b) (h2:b<l.length):seg l a (b+1)=seg l a b++[bC l b 0]:=by
 unfold seg
 rw[show b+1 - a=(b - a)+1 by omega,γD (by rw[γ3];omega),εp]
 congr 2
 rw[my h2]
 congr 1
 omega
theorem ajC {l:List Int} {a:Nat}:seg l a a=[]:=by unfold seg;simp
theorem ahV {D:Int->Int} {l:List Int} {a b:Nat} (h1:a<=b) (h2:b<=l.length):(od D l a b).length=l.length:=by
 unfold od;rw[θ,θ,abC,S1 h1 h2,γd,γ3];omega
theorem al8 {l:List Int} {i:Nat} (h:i<l.length):l.drop i=bC l i 0::l.drop (i+1):=by
 rw[γV h,my h]
theorem av7 {D:Int->Int} {l:List Int} {a:Nat}:od D l a a=l:=by
 unfold od;rw[ajC]
 simp[nA]
theorem aDO {D:Int->Int} {l:List Int} {a:Nat} (h:a<l.length):od D l a (a+1)=l:=by
 have e:seg l a (a+1)=[bC l a 0]:=by rw[apS (Θ _) h,ajC];rfl
 unfold od
 rw[e,apR (by simp),γl]
 simp only[List.singleton_append];rw[<-al8 h,γc]
def N2 (D:Int->Int) (l:List Int) (a i j:Nat):List Int:=l.take a++((nA D (seg l a i)).take (j - a)++bC l i 0::(nA D (seg l a i)).drop (j - a))++l.drop (i+1)
theorem av8 {D:Int->Int} {l:List Int} {a i j:Nat} (h1:a<=i) (h2:i<l.length):(N2 D l a i j).length=l.length:=by
 have hs:=@abC D (seg l a i)
 rw[S1 h1 (by omega)] at hs
 unfold N2;simp only[θ,γz,γd,γ3,hs];omega
theorem av9 {D:Int->Int} {l:List Int} {a i:Nat} (h1:a<=i) (h2:i<l.length):N2 D l a i i=od D l a i:=by
 have hs:=@abC D (seg l a i)
 rw[S1 h1 (by omega)] at hs
 have e1:(nA D (seg l a i)).take (i - a)=nA D (seg l a i):=Ω (by omega)
 have e2:(nA D (seg l a i)).drop (i - a)=[]:=δP (by omega)
 unfold N2 od;rw[e1,e2,al8 h2]
 simp
theorem aDP {A B:List Int} {y x:Int}:((A++y::x::B).set (A.length+1) y).set A.length x=A++x::y::B:=by
 rw[δz _ _ (by omega),δz _ _ (by omega)]
 simp
theorem awc {A B:List Int} {y:Int}:bC (A++y::B) A.length 0=y:=by unfold bC;simp
theorem awd {A B:List Int} {y x:Int}:bC (A++y::x::B) (A.length+1) 0=x:=by unfold bC;simp
theorem aDQ {D:Int->Int} {l:List Int} {a i k:Nat} (h1:a+k+1<=i) (h2:i<l.length):
  N2 D l a i (a+k+1)=(l.take a++(nA D (seg l a i)).take k)++bC (nA D (seg l a i)) k 0::bC l i 0::((nA D (seg l a i)).drop (k+1)++l.drop (i+1))/\
  N2 D l a i (a+k)=(l.take a++(nA D (seg l a i)).take k)++bC l i 0::bC (nA D (seg l a i)) k 0::((nA D (seg l a i)).drop (k+1)++l.drop (i+1))/\
  (l.take a++(nA D (seg l a i)).take k).length=a+k:=by
 have hs:=@abC D (seg l a i)
 rw[S1 (by omega) (by omega)] at hs
 have hk:k<(nA D (seg l a i)).length:=by omega
 have t1:(nA D (seg l a i)).take (k+1)=(nA D (seg l a i)).take k++[bC (nA D (seg l a i)) k 0]:=by rw[γD hk,my hk]
 have t2:(nA D (seg l a i)).drop k=bC (nA D (seg l a i)) k 0::(nA D (seg l a i)).drop (k+1):=by rw[γV hk,my hk]
 unfold N2
 rw[show a+k+1 - a=k+1 by omega,show a+k - a=k by omega]
 refine⟨by rw[t1];simp,by rw[t2];simp,?_⟩
 rw[θ,γd,γd];omega
theorem awe {D:Int->Int} {l:List Int} {a i j:Nat} (h0:a<j) (h1:j<=i) (h2:i<l.length):
  bC (N2 D l a i j) j 0=bC l i 0/\bC (N2 D l a i j) (j - 1) 0=bC (nA D (seg l a i)) (j - 1 - a) 0/\
  ((N2 D l a i j).set j (bC (nA D (seg l a i)) (j - 1 - a) 0)).set (j - 1) (bC l i 0)=N2 D l a i (j - 1):=by
 obtain⟨f1,f2,f3⟩:=@aDQ D l a i (j - 1 - a) (by omega) h2
 rw[show a+(j - 1 - a)+1=j by omega] at f1
 rw[show a+(j - 1 - a)=j - 1 by omega] at f2 f3
 rw[f1,f2]
 generalize l.take a++(nA D (seg l a i)).take (j - 1 - a)=A at*
 generalize bC (nA D (seg l a i)) (j - 1 - a) 0=y at*
 generalize bC l i 0=x at*
 generalize (nA D (seg l a i)).drop (j - 1 - a+1)++l.drop (i+1)=B at*
 have e1:j=A.length+1:=by omega
 have e2:j - 1=A.length:=by omega
 refine⟨?_,?_,?_⟩
 ·rw[e1]
  exact awd
 ·rw[e2]
  exact awc
 ·rw[e2,e1]
  exact aDP
theorem awf {D:Int->Int} {S:List Int} {x:Int} {k:Nat} (hS:Kp D S) (h1:∀s∈S.drop k,ET D x s=true) (h2:k=0\/(k<=S.length/\ET D (bC S (k - 1) 0) x=true)):Kp D (S.take k++x::S.drop k):=by
 have hsplit:Kp D (S.take k++S.drop k):=by rw[γc];exact hS
 obtain⟨p1,p2,p3⟩:=δf.1 hsplit
 have hx:∀s∈S.take k,ET D s x=true:=by
  rcases h2 with rfl|⟨hk,h2⟩
  ·simp
  ·intro s hs
   by_cases h0:k=0
   ·subst h0;simp at hs
   have hk1:k - 1<S.length:=by omega
   have e:S.take k=S.take (k - 1)++[bC S (k - 1) 0]:=by
    conv=>lhs;rw[show k=(k - 1)+1 by omega]
    rw[γD hk1,my hk1]
   rw[e] at hs p1
   rcases γt.1 hs with hs|hs
   ·exact av6 _ _ _ ((δf.1 p1).2.2 s hs _ (by simp)) h2
   ·simp only[List.mem_singleton] at hs
    rw[hs];exact h2
 rw[Kp,δf]
 refine⟨p1,List.pairwise_cons.2 ⟨h1,p2⟩,λs hs t ht=>?_⟩
 rcases γX.1 ht with rfl|ht
 ·exact hx s hs
 ·exact p3 s hs t ht
theorem aDR {S:List Int} {x:Int} {k:Nat}:(S.take k++x::S.drop k).Perm (S++[x]):=by
 refine(ζZ).trans ?_
 rw[γc]
 exact(List.perm_append_singleton x S).symm
theorem awg {D:Int->Int} {l:List Int} {a i j:Nat} (h0:a<=j) (h1:j<=i) (h2:i<l.length) (h3:∀s∈(nA D (seg l a i)).drop (j - a),ET D (bC l i 0) s=true) (h4:j=a\/ET D (bC (nA D (seg l a i)) (j - 1 - a) 0) (bC l i 0)=true):
  N2 D l a i j=od D l a (i+1):=by
 have hs:=@abC D (seg l a i)
 rw[S1 (by omega) (by omega)] at hs
 have key:Kp D ((nA D (seg l a i)).take (j - a)++bC l i 0::(nA D (seg l a i)).drop (j - a)):=by
  refine awf agq h3 ?_
  rcases h4 with rfl|h4
  ·exact .inl (by omega)
  ·exact .inr ⟨by omega,by rw[show j - a - 1=j - 1 - a by omega];exact h4⟩
 have hp:((nA D (seg l a i)).take (j - a)++bC l i 0::(nA D (seg l a i)).drop (j - a)).Perm (seg l a (i+1)):=by
  rw[apS (by omega) h2]
  exact aDR.trans (ζ0 adM (ζH _))
 unfold N2 od;rw[ajB hp key]
def PU (l:List Int) (a b n:Nat):List Int:=(Φ l.length).map λk=>if a<=k/\k<a+n then bC l (k - a+b) 0 else if b<=k/\k<b+n then bC l (k - b+a) 0 else bC l k 0
theorem aff {l:List Int} {a b n:Nat}:(PU l a b n).length=l.length:=by simp[PU]
theorem ahW {l:List Int} {a b n k:Nat} (h:k<l.length):bC (PU l a b n) k 0=if a<=k/\k<a+n then bC l (k - a+b) 0 else if b<=k/\k<b+n then bC l (k - b+a) 0 else bC l k 0:=by
 show(((Φ l.length).map _)[k]?).getD 0=_
 rw[List.getElem?_map,List.getElem?_range h];rfl
theorem aDS {l:List Int} {a b:Nat}:PU l a b 0=l:=by
 apply γ2 aff
 intro k h1 h2
 have:=@ahW l a b 0 k h2
 rw[my h1,if_neg (by omega),if_neg (by omega),my h2] at this
 exact this
theorem awh {l m:List Int} (hl:l.length=m.length) (h:∀k,k<l.length->bC l k 0=bC m k 0):l=m:=
 γ2 hl λk h1 h2=>by
  have:=h k h1
  rwa [my h1,my h2] at this
theorem awi {l:List Int} {i k:Nat} {v:Int} (h:k<l.length):bC (l.set i v) k 0=if i=k then v else bC l k 0:=by
 unfold bC;rw[List.getElem?_set]
 by_cases hi:i=k
 ·subst hi;simp[h]
 ·simp[hi]
theorem aDT {l:List Int} {a b n:Nat} (h1:a+n<b) (h2:b+n<l.length):
  ((PU l a b n).set (a+n) (bC (PU l a b n) (b+n) 0)).set (b+n) (bC (PU l a b n) (a+n) 0)=PU l a b (n+1):=by
 have e1:bC (PU l a b n) (a+n) 0=bC l (a+n) 0:=by rw[ahW (by omega),if_neg (by omega),if_neg (by omega)]
 have e2:bC (PU l a b n) (b+n) 0=bC l (b+n) 0:=by rw[ahW (by omega),if_neg (by omega),if_neg (by omega)]
 rw[e1,e2]
 refine awh (by simp[aff]) λk hk=>?_
 simp only[χ,aff] at hk
 rw[awi (by simp[aff];exact hk),awi (by simp[aff];exact hk),ahW hk,ahW hk]
 by_cases c1:b+n=k
 ·rw[if_pos c1,if_neg (by omega),if_pos (by omega)]
  congr 1
  omega
 ·rw[if_neg c1]
  by_cases c2:a+n=k
  ·rw[if_pos c2,if_pos (by omega)]
   congr 1
   omega
  ·rw[if_neg c2]
   by_cases c3:a<=k/\k<a+n
   ·rw[if_pos c3,if_pos (by omega)]
   ·have d1:¬(a<=k/\k<a+(n+1)):=by omega
    rw[if_neg c3,if_neg d1]
    by_cases c4:b<=k/\k<b+n
    ·have d2:b<=k/\k<b+(n+1):=by omega
     rw[if_pos c4,if_pos d2]
    ·have d2:¬(b<=k/\k<b+(n+1)):=by omega
     rw[if_neg c4,if_neg d2]
theorem aDU {A B:List Int} {k:Nat}:bC (A++B) k 0=if k<A.length then bC A k 0 else bC B (k - A.length) 0:=by
 unfold bC;rw[List.getElem?_append]
 split<;>rfl
theorem apT {A X M Y B:List Int} (h:X.length=Y.length):PU (A++(X++(M++(Y++B)))) A.length (A.length+X.length+M.length) X.length=A++(Y++(M++(X++B))):=by
 refine awh (by simp[aff];omega) λk hk=>?_
 rw[aff] at hk;rw[ahW hk];simp only[aDU];simp only[θ] at hk
 by_cases c1:k<A.length
 ·rw[if_neg (by omega),if_neg (by omega),if_pos c1,if_pos c1]
 by_cases c2:k<A.length+X.length
 ·rw[if_pos (by omega),if_neg (by omega),if_neg (by omega),if_neg (by omega),if_pos (by omega),if_neg c1,if_pos (by omega)]
  congr 1
  omega
 by_cases c3:k<A.length+X.length+M.length
 ·rw[if_neg (by omega),if_neg (by omega),if_neg c1,if_neg (by omega),if_pos (by omega),if_neg c1,if_neg (by omega),if_pos (by omega)]
  congr 1
  omega
 by_cases c4:k<A.length+X.length+M.length+Y.length
 ·rw[if_neg (by omega),if_pos (by omega),if_neg (by omega),if_pos (by omega),if_neg c1,if_neg (by omega),if_neg (by omega),if_pos (by omega)]
  congr 1
  omega
 ·rw[if_neg (by omega),if_neg (by omega),if_neg c1,if_neg (by omega),if_neg (by omega),if_neg (by omega),if_neg c1,if_neg (by omega),if_neg (by omega),if_neg (by omega)]
  congr 1
  omega
def rotR (l:List Int) (a m b:Nat):List Int:=l.take a++(seg l m b++(seg l a m++l.drop b))
theorem awj {l:List Int} {a m b:Nat} (h1:a<=m) (h2:m<=b) (h3:b<=l.length):l=l.take a++(seg l a m++(seg l m b++l.drop b)):=by
 have e1:l.drop a=seg l a m++l.drop m:=by
  have:=γc (m - a) (l.drop a)
  rw[γW,show a+(m - a)=m by omega] at this
  exact this.symm
 have e2:l.drop m=seg l m b++l.drop b:=by
  have:=γc (b - m) (l.drop m)
  rw[γW,show m+(b - m)=b by omega] at this
  exact this.symm
 rw[<-e2,<-e1,γc]
def apU:fN:=⟨158,Int,.one (sx .i64),λ_=>True,λ_=> .sb false⟩
theorem h334:Holds Tryz.prog apU:=by
 refine kh (L:=[]) apU lk (by simp) ?_
 rintro(x:Int) -
 refine gp ((SV.sb (decide (x≠x))).same (SV.sb false)) (by kernel_rfl) ?_
 simp only[vcs]
 simp
def afg (x y:Int):Int:=if x<y then -1 else if y<x then 1 else 0
def apV:fN:=⟨122,Int×Int,.cons (sx .i64) (.one (sx .i64)),λ_=>True,λa=> .si .i64 (afg a.1 a.2)⟩
theorem h321:Holds Tryz.prog apV:=by
 refine kh (L:=[apU]) apV lk (by simpa using h334) ?_
 rintro⟨x,y⟩ -
 refine gp (let a:=γu .i64;let b:=γu .i64 0;let c:=γa .i64 (afg x y);True/\True/\(false=true->(false=true->(a 0).same c)/\(false=false->(a (-1:Int)).same c))/\(false=false->(false=true->(a 1).same c)/\(false=false->(decide (x<y)=true->(a (-1:Int)).same c)/\(decide (x<y)=false->(decide (y<x)=true->(a 1).same c)/\(decide (y<x)=false->(a 0).same c))))) (by kernel_rfl) ?_
 simp only[vcs]
 have h1:∀{X:Prop},(false=true)->X:=λh=>absurd h (by decide)
 refine⟨λh=>h1 h,λ_=>⟨λh=>h1 h,λ_=>⟨λh=>?_,λh=>⟨λh2=>?_,λh2=>?_⟩⟩⟩⟩
 ·unfold afg;rw[if_pos h]
 ·unfold afg;rw[if_neg h,if_pos h2]
 ·unfold afg;rw[if_neg h,if_neg h2]
def agr (b:fZ):Int:=b.a0+b.a1+b.a2+b.a3+b.a4+b.a5
def apW:fN:=⟨123,fZ,.one (Ac .zx),λb=>b.ok=true,λb=> .si .i64 (agr b)⟩
theorem h322:Holds Tryz.prog apW:=by
 refine kh (L:=[]) apW (λ_ _=> .ae0 7) (by simp) ?_
 rintro(b:fZ) (h:b.ok=true)
 have h:=fZ.aaZ.1 h
 refine gp (let a:=ie .i64;let c:=(0:Int)+b.a0+b.a1;let d:=c+b.a2+b.a3+b.a4;a ((0:Int)+b.a0)/\a c/\a (c+b.a2)/\a (c+b.a2+b.a3)/\a d/\a (d+b.a5)/\(γa .i64 (d+b.a5)).same (γa .i64 (agr b))) (by kernel_rfl) ?_
 simp only[vcs];unfold agr;omega
def oI (p:dd) (i:Int):Off:=bC p.offers i.toNat cn.off.dflt
def adN (p:dd) (i:Int):Int:=(oI p i).value
def acD (p:dd) (i:Int):Int:=agr (oI p i).want
def gB (p:dd) (i:Int):Int:=adN p i*(5354228880 / acD p i)
def JI (p:dd) (i:Int):Prop:=0<=i/\i<p.offers.length
theorem ajD {p:dd} (hc:fO p=0) {i:Int} (h:JI p i):(1<=adN p i/\adN p i<=1000000)/\(1<=acD p i/\acD p i<=24)/\(oI p i).want.ok=true:=by
 obtain⟨h0,h1⟩:=h
 have hm:=pz (d:=cn.off.dflt) (show i.toNat<p.offers.length by omega)
 have hx:=(uw hc).2.2.2.2 _ hm
 have ho:=(alJ ((alI hc).2 _ hm)).2.1
 have hk:=fZ.aaZ.1 hx.2.2.1
 have hne:¬((oI p i).want.a0=0/\(oI p i).want.a1=0/\(oI p i).want.a2=0/\(oI p i).want.a3=0/\(oI p i).want.a4=0/\(oI p i).want.a5=0):=λh=>ho (aly.2 h)
 have hk:(0<=(oI p i).want.a0/\(oI p i).want.a0<=4)/\(0<=(oI p i).want.a1/\(oI p i).want.a1<=4)/\(0<=(oI p i).want.a2/\(oI p i).want.a2<=4)/\(0<=(oI p i).want.a3/\(oI p i).want.a3<=4)/\(0<=(oI p i).want.a4/\(oI p i).want.a4<=4)/\(0<=(oI p i).want.a5/\(oI p i).want.a5<=4):=hk
 refine⟨⟨hx.2.2.2.1,hx.2.2.2.2⟩,?_,hx.2.2.1⟩
 unfold acD agr;omega
theorem awk {t:Int} (h1:1<=t) (h2:t<=24):t*(5354228880 / t)=5354228880/\1<=5354228880 / t:=by
 have:t=1\/t=2\/t=3\/t=4\/t=5\/t=6\/t=7\/t=8\/t=9\/t=10\/t=11\/t=12\/t=13\/t=14\/t=15\/t=16\/t=17\/t=18\/t=19\/t=20\/t=21\/t=22\/t=23\/t=24:=by omega
 rcases this with rfl|rfl|rfl|rfl|rfl|rfl|rfl|rfl|rfl|rfl|rfl|rfl|rfl|rfl|rfl|rfl|rfl|rfl|rfl|rfl|rfl|rfl|rfl|rfl<;>decide
theorem aDV {p:dd} (hc:fO p=0) {x y:Int} (hx:JI p x) (hy:JI p y):gB p x<gB p y↔adN p x*acD p y<adN p y*acD p x:=by
 obtain⟨vx,tx,_⟩:=ajD hc hx
 obtain⟨vy,ty,_⟩:=ajD hc hy
 obtain⟨dx,px⟩:=awk tx.1 tx.2
 obtain⟨dy,py⟩:=awk ty.1 ty.2
 unfold gB
 generalize 5354228880 / acD p x=qx at*
 generalize 5354228880 / acD p y=qy at*
 generalize adN p x=a at*
 generalize adN p y=b at*
 generalize acD p x=s at*
 generalize acD p y=t at*
 have hq:0<qx*qy:=Int.mul_pos (by omega) (by omega)
 have e1:(a*t)*(qx*qy)=(a*qx)*5354228880:=by rw[<-dy];simp only[γI,δr,ζR]
 have e2:(b*s)*(qx*qy)=(b*qy)*5354228880:=by rw[<-dx];simp only[γI,δr,ζR]
 constructor
 ·intro h
  have:(a*t)*(qx*qy)<(b*s)*(qx*qy):=by rw[e1,e2];omega
  exact Int.lt_of_mul_lt_mul_right this (by omega)
 ·intro h
  have:(a*t)*(qx*qy)<(b*s)*(qx*qy):=γP h hq
  rw[e1,e2] at this;omega
def aem (p:dd) (x y:Int):Int:=afg (adN p y*acD p x) (adN p x*acD p y)
theorem awl {p:dd} (hc:fO p=0) {x y:Int} (hx:JI p x) (hy:JI p y):aem p x y<0↔gB p y<gB p x:=by
 rw[aDV hc hy hx];unfold aem afg;split
 ·simp[*]
 ·split<;>simp[*]
def al9:og where
 f:=121
 α:=Int×Int×dd
 put a:=[.si .i64 a.1,.si .i64 a.2.1,.ptr 0 0 20]
 st a:=[.cells a.2.2.ss 27 20 false]
 dec v o:=match v,o with
  |[x,y,.ptr 0 0 20],[.cells cs 27 20 false]=>match x.int .i64,y.int .i64,agc cs with
   |some x,some y,some p=>some (x,y,p)
   |_,_,_=>none
  |_,_=>none
 ok v o a h:=by
  split at h
  ·split at h
   ·rename_i h1 h2 h3
    simp only[γ] at h;subst h
    refine⟨by simp only[gL,F2 h1,F2 h2];rfl,?_⟩
    simp only[gO,ψ,γy,cJ.g,aje h3]
   ·cases h
  ·cases h
 inj a b h1 h2:=by
  simp only[gL,Δ,and_true,SV.g,γ6,Value.int.injEq,true_and] at h1;simp only[gO,ψ,γy,cJ.g,Δ,ig.cells.injEq,and_true] at h2
  have h3:=qa.inj a.2.2 b.2.2 (by simp only[qa,SV.g,h2])
  exact εa h1.1 (εa h1.2 h3)
 dom a:=fO a.2.2=0/\JI a.2.2 a.1/\JI a.2.2 a.2.1
 res a:=.si .i64 (aem a.2.2 a.1 a.2.1)
 out a:=[.cells a.2.2.ss 27 20 false]
theorem h320:sd Tryz.prog al9:=by
 refine Sj (L:=[apW,apV]) (W:=[]) al9 lk (by simp) (by simpa using⟨h322,h321⟩) ?_
 rintro⟨x,y,p⟩ ⟨hc,hx,hy⟩
 refine gp (let a:=cn.off.dflt;let b:=p.offers.length;let c:=bC p.offers x.toNat a;let d:=bC p.offers y.toNat a;let e:=d.value*agr c.want;let f:=c.value*agr d.want;let g:=cJ.cells (dd.ss p) 27 20 false;(0:Int)<=x/\x<(↑b:Int)/\x.toNat<b/\(0:Int)<=y/\y<(↑b:Int)/\y.toNat<b/\c.want.ok=true/\ie .i64 e/\d.want.ok=true/\ie .i64 f/\True/\(γa .i64 (afg e f)).same (γa .i64 (aem p x y))/\g.same g/\True) (by kernel_rfl) ?_
 simp only[vcs]
 have hc:fO p=0:=hc
 have hx:JI p x:=hx
 have hy:JI p y:=hy
 obtain⟨vx,tx,ox⟩:=ajD hc hx
 obtain⟨vy,ty,oy⟩:=ajD hc hy
 obtain⟨x0,x1⟩:=hx
 obtain⟨y0,y1⟩:=hy
 have hb:∀{v t:Int},1<=v/\v<=1000000->1<=t/\t<=24-> -9223372036854775808<=v*t/\v*t<=9223372036854775807:=λ{v t} h1 h2=>by
  have a:=γh (show 0<=v by omega) (show 0<=t by omega)
  have b:=δt h1.2 h2.2 (by omega) (show(0:Int)<=1000000 by omega)
  omega
 exact⟨x0,x1,by omega,y0,y1,by omega,ox,hb vy tx,oy,hb vx ty,rfl⟩
def ahX:Nat->List SV->Option (List Int)
 |0,[.fn (.func 121) [] [.ptr 1 0 20]]=>some []
 |k+1,x::r=>match x.int .i64,ahX k r with
  |some n,some l=>some (n::l)
  |_,_=>none
 |_,_=>none
theorem awm:∀{k:Nat} {r:List SV} {l:List Int},ahX k r=some l->gL r=gL (l.map (γa .i64)++[.fn (.func 121) [] [.ptr 1 0 20]])
 |0,r,l,h=>by
  unfold ahX at h;split at h
  ·simp only[γ] at h;subst h;rfl
  ·rename_i h0;cases h0
  ·cases h
 |k+1,[],l,h=>by simp[ahX] at h
 |k+1,x::r,l,h=>by
  simp only[ahX] at h;split at h
  ·rename_i n l' h1 h2
   simp only[γ] at h;subst h
   simp only[gL,ψ,γJ,awm h2,F2 h1];rfl
  ·cases h
theorem awn:∀{l m:List Int} {z:List SV},l.length=m.length->gL (l.map (γa .i64)++z)=gL (m.map (γa .i64)++z)->l=m
 |[],[],_,_,_=>rfl
 |[],_::_,_,h,_=>by simp at h
 |_::_,[],_,h,_=>by simp at h
 |x::l,y::m,z,hl,h=>by
  simp only[ψ,γJ,gL,Δ,SV.g,γ6,Value.int.injEq,true_and] at h
  rw[h.1,awn (by simpa using hl) h.2]
def ahY (f:FuncId) (k:Nat) (β:Type) (toL:β->List Int) (ofL:List Int->Option β) (h0:∀b,(toL b).length=k) (h1:∀l b,ofL l=some b->l=toL b) (h2:∀b c,toL b=toL c->b=c) (dom:(Nat×List Int×dd)×β->Prop) (out:(Nat×List Int×dd)×β->List Int):og where
 f:=f
 α:=(Nat×List Int×dd)×β
 put a:=.ow 0 a.1.1 1::((toL a.2).map (γa .i64)++[.fn (.func 121) [] [.ptr 1 0 20]])
 st a:=[.row (.i .i64) a.1.2.1 3 true,.cells a.1.2.2.ss 27 20 false]
 dec v o:=match v,o with
  | .ow 0 n 1::r,[.row t l 3 true,.cells cs 27 20 false]=>match ahX k r,AW t (.i .i64) l,agc cs with
   |some xs,some l,some p=>match ofL xs with
    |some b=>some ((n,l,p),b)
    |none=>none
   |_,_,_=>none
  |_,_=>none
 ok v o a h:=by
  split at h
  ·split at h
   ·rename_i h3 h4 h5
    split at h
    ·rename_i b hb
     simp only[γ] at h;subst h
     obtain⟨rfl,hh⟩:=KA h4
     cases hh
     have:=h1 _ _ hb
     subst this
     refine⟨by simp only[gL,awm h3],?_⟩
     simp only[gO,ψ,γy,cJ.g,aje h5]
    ·cases h
   ·cases h
  ·cases h
 inj a b e1 e2:=by
  obtain⟨⟨n,l,p⟩,x⟩:=a
  obtain⟨⟨n',l',p'⟩,x'⟩:=b
  simp only[gL,Δ,SV.g,δ7,true_and] at e1;simp only[gO,ψ,γy,cJ.g,Δ,ig.cells.injEq,and_true,true_and] at e2
  have h3:p=p':=qa.inj p p' (by simp only[qa,SV.g,e2.2])
  have h4:l=l':=by
   have hf:=congrArg γb e2.1
   rw[x7,x7] at hf
   exact XV (.i .i64) (by simpa[cn.sz] using hf) e2.1
  have h5:x=x':=h2 _ _ (awn (by rw[h0,h0]) e1.2)
  rw[e1.1.1,h3,h4,h5]
 dom:=dom
 res _:=.eW []
 out a:=[.row (.i .i64) (out a) 3 true,.cells a.1.2.2.ss 27 20 false]
abbrev Srg:=Nat×List Int×dd
def to2 (b:Int×Int):List Int:=[b.1,b.2]
def of2:List Int->Option (Int×Int)
 |[a,b]=>some (a,b)
 |_=>none
theorem aDW:∀l b,of2 l=some b->l=to2 b:=λl b h=>by
 unfold of2 at h;split at h
 ·simp only[γ] at h;subst h;rfl
 ·cases h
theorem aDX:∀b c,to2 b=to2 c->b=c:=λb c h=>by
 unfold to2 at h;simp only[Δ,and_true] at h
 exact εa h.1 h.2
def to3 (b:Int×Int×Int):List Int:=[b.1,b.2.1,b.2.2]
def of3:List Int->Option (Int×Int×Int)
 |[a,b,c]=>some (a,b,c)
 |_=>none
theorem apZ:∀l b,of3 l=some b->l=to3 b:=λl b h=>by
 unfold of3 at h;split at h
 ·simp only[γ] at h;subst h;rfl
 ·cases h
theorem ap0:∀b c,to3 b=to3 c->b=c:=λb c h=>by
 unfold to3 at h;simp only[Δ,and_true] at h
 exact εa h.1 (εa h.2.1 h.2.2)
def afh (a:Srg):Prop:=(fO a.2.2=0/\a.1=a.2.1.length)/\a.2.1.length<=1000/\∀x∈a.2.1,JI a.2.2 x
def ap1 (l:List Int) (a b:Int):Prop:=0<=a/\a<=b/\b<=l.length
theorem aen {l m:List Int} (h:l=m):(cJ.row (.i .i64) l 3 true).same (cJ.row (.i .i64) m 3 true):=by subst h;rfl
def ap2:og:=ahY 197 3 (Int×Int×Int) to3 of3 (λ_=>rfl) apZ ap0 (λa=>a.1.1=a.1.2.1.length/\a.1.2.1.length<=1000/\0<=a.2.1/\0<=a.2.2.2/\a.2.1+a.2.2.2<=a.2.2.1/\a.2.2.1+a.2.2.2<=a.1.2.1.length) λa=>PU a.1.2.1 a.2.1.toNat a.2.2.1.toNat a.2.2.2.toNat
def aDY (n:Nat) (l:List Int) (p:dd) (a b k:Int):Nat->jY
 |1=> .inv (Int×List Int) (λx=>⟨[(0,.ow 0 n 1),(1,.si .i64 a),(2,.si .i64 b),(3,.si .i64 k),(10,.si .i64 x.1)],[.row (.i .i64) x.2 3 true,.cells p.ss 27 20 false]⟩) (λs=>(iS s 10,oS (.i .i64) s 0))
   (λx=>(0<=x.1/\x.1<=k)/\x.2=PU l a.toNat b.toNat x.1.toNat) (λx=>(k - x.1).toNat) λ_ _=> .look
 |_=> .look
theorem h363:sd Tryz.prog ap2:=by
 refine Sj (L:=[]) (W:=[]) ap2 (λa=>aDY a.1.1 a.1.2.1 a.1.2.2 a.2.1 a.2.2.1 a.2.2.2) (by simp) (by simp) ?_
 rintro⟨⟨n,l,p⟩,a,b,k⟩ ⟨hn,hl,a0,k0,h1,h2⟩
 refine gp (let c:=γa .i64;let d:=(0:Int);let e:=ie .i64;let f:=cJ.row;let q:=γQ 0 n 1;let m:=cn.i .i64;let t:=f m l 3 true;let h:=cJ.cells [c p.supply.a0,c p.supply.a1,c p.supply.a2,c p.supply.a3,c p.supply.a4,c p.supply.a5,c p.opn.a0,c p.opn.a1,c p.opn.a2,c p.opn.a3,c p.opn.a4,c p.opn.a5,c p.cls.a0,c p.cls.a1,c p.cls.a2,c p.cls.a3,c p.cls.a4,c p.cls.a5,Ξ m p.classes,Ξ cn.off p.offers] 27 20 false;(((q.same q/\(c a).same (c a)/\(c b).same (c b)/\(c k).same (c k)/\(γu .i64 0).same (c 0)/\True)/\t.same t/\h.same h/\True)/\(d<=d/\d<=k)/\l=PU l a.toNat b.toNat 0)/\∀(x:Int×List Int),let g:=x.snd.length;let r:=(b+x.fst).toNat;let s:=(a+x.fst).toNat;let o:=x.snd.set s (bC x.snd r d);let j:=x.fst+(1:Int);let u:=c j;let v:=o.set r (bC x.snd s d);let w:=f m v 3 true;(d<=x.fst/\x.fst<=k)/\x.snd=PU l a.toNat b.toNat x.fst.toNat->(decide (x.fst<k)=true->e (a+x.fst)/\e (b+x.fst)/\e (b+x.fst)/\n=g/\d<=b+x.fst/\b+x.fst<(↑g:Int)/\n=g/\r<g/\e (a+x.fst)/\n=g/\d<=a+x.fst/\a+x.fst<(↑g:Int)/\n=g/\s<g/\n=g/\d<=a+x.fst/\a+x.fst<(↑g:Int)/\n=g/\s<g/\n=o.length/\d<=b+x.fst/\b+x.fst<(↑o.length:Int)/\n=o.length/\r<o.length/\e j/\((q.same q/\(c a).same (c a)/\(c b).same (c b)/\(c k).same (c k)/\u.same u/\True)/\w.same w/\h.same h/\True)/\((d<=j/\j<=k)/\v=PU l a.toNat b.toNat j.toNat)/\(k - j).toNat<(k - x.fst).toNat)/\(decide (x.fst<k)=false->(SV.eW []).same (SV.eW [])/\(f m x.snd 3 true).same (f m (PU l a.toNat b.toNat k.toNat) 3 true)/\h.same h/\True)) (by kernel_rfl) ?_
 simp only[vcs]
 have hn:n=l.length:=hn
 have hl:l.length<=1000:=hl
 have a0:0<=a:=a0
 have k0:0<=k:=k0
 have h1:a+k<=b:=h1
 have h2:b+k<=l.length:=h2
 refine⟨⟨⟨by omega,by omega⟩,aDS.symm⟩,?_⟩
 rintro⟨i,m⟩ ⟨⟨i0,i1⟩,hm⟩
 simp only at i0 i1 hm ⊢
 have hml:m.length=l.length:=by rw[hm,aff]
 have e:(i+1).toNat=i.toNat+1:=by omega
 have ea:(a+i).toNat=a.toNat+i.toNat:=by omega
 have eb:(b+i).toNat=b.toNat+i.toNat:=by omega
 simp only[χ,hml]
 refine⟨λhi=>?_,λhi=>aen ?_⟩
 ·have hs:=@aDT l a.toNat b.toNat i.toNat (by omega) (by omega)
  rw[<-hm] at hs;rw[e,ea,eb,hs]
  repeat' refine γe ?_ ?_
  all_goals first|omega|rfl
 ·rw[hm,show i=k by omega]
def ap3:og:=ahY 179 2 (Int×Int) to2 of2 (λ_=>rfl) aDW aDX (λa=>afh a.1/\ap1 a.1.2.1 a.2.1 a.2.2/\(seg a.1.2.1 a.2.1.toNat a.2.2.toNat).Pairwise (·<·)) λa=>od (gB a.1.2.2) a.1.2.1 a.2.1.toNat a.2.2.toNat
def aDZ (n:Nat) (l:List Int) (p:dd) (a b:Int):Nat->jY
 |1=> .inv (Int×List Int) (λx=>⟨[(0,.ow 0 n 1),(1,.si .i64 a),(2,.si .i64 b),(3,.fn (.func 121) [] [.ptr 1 0 20]),(8,.si .i64 x.1)],[.row (.i .i64) x.2 3 true,.cells p.ss 27 20 false]⟩) (λs=>(iS s 8,oS (.i .i64) s 0))
   (λx=>(a<x.1/\(x.1<=b\/x.1=a+1))/\x.2=od (gB p) l a.toNat (if a<b then x.1 else a).toNat) (λx=>(b - x.1).toNat) λx k=>match k with
    |4=> .inv (Int×List Int) (λy=>⟨[(0,.ow 0 n 1),(1,.si .i64 a),(2,.si .i64 b),(3,.fn (.func 121) [] [.ptr 1 0 20]),(8,.si .i64 x.1),(9,.si .i64 y.1)],[.row (.i .i64) y.2 3 true,.cells p.ss 27 20 false]⟩) (λs=>(iS s 9,oS (.i .i64) s 0))
      (λy=>(a<=y.1/\y.1<=x.1)/\y.2=N2 (gB p) l a.toNat x.1.toNat y.1.toNat/\∀s∈(nA (gB p) (seg l a.toNat x.1.toNat)).drop (y.1 - a).toNat,ET (gB p) (bC l x.1.toNat 0) s=true) (λy=>(y.1 - a).toNat) λ_ _=> .look
    |_=> .look
 |_=> .look
theorem h343:sd Tryz.prog ap3:=by
 refine Sj (L:=[]) (W:=[al9]) ap3 (λa=>aDZ a.1.1 a.1.2.1 a.1.2.2 a.2.1 a.2.2) (by simpa using h320) (by simp) ?_
 rintro⟨⟨n,l,p⟩,a,b⟩ ⟨⟨⟨hc,hn⟩,hl,ho⟩,⟨a0,a1,a2⟩,hi⟩
 refine gp (let c:=γa .i64;let d:=(0:Int);let e:=ie .i64;let f:=cJ.row;let g:=(1:Int);let m:=a+g;let o:=γQ 0 n 1;let q:=SV.fn (Fn.func 121) [] [γ5 1 0 20];let E:=c m;let w:=cn.i .i64;let F:=f w l 3 true;let k:=cJ.cells [c p.supply.a0,c p.supply.a1,c p.supply.a2,c p.supply.a3,c p.supply.a4,c p.supply.a5,c p.opn.a0,c p.opn.a1,c p.opn.a2,c p.opn.a3,c p.opn.a4,c p.opn.a5,c p.cls.a0,c p.cls.a1,c p.cls.a2,c p.cls.a3,c p.cls.a4,c p.cls.a5,Ξ w p.classes,Ξ cn.off p.offers] 27 20 false;e m/\(((o.same o/\(c a).same (c a)/\(c b).same (c b)/\q.same q/\E.same E/\True)/\F.same F/\k.same k/\True)/\(a<m/\(m<=b\/m=m))/\l=od (gB p) l a.toNat (if a<b then m else a).toNat)/\∀(x:Int×List Int),let y:=c x.fst;let B:=f w x.snd 3 true;let r:=x.fst.toNat;let C:=nA (gB p) (seg l a.toNat r);let t:=x.fst+g;let G:=c t;let N:=od (gB p) l a.toNat (if a<b then t else a).toNat;(a<x.fst/\(x.fst<=b\/x.fst=m))/\x.snd=od (gB p) l a.toNat (if a<b then x.fst else a).toNat->(decide (x.fst<b)=true->(((o.same o/\(c a).same (c a)/\(c b).same (c b)/\q.same q/\y.same y/\y.same y/\True)/\B.same B/\k.same k/\True)/\(a<=x.fst/\x.fst<=x.fst)/\x.snd=N2 (gB p) l a.toNat r r/\∀(s:Int),s∈γ1 (x.fst - a).toNat C->ET (gB p) (bC l r d) s=true)/\∀(x_1:Int×List Int),let H:=f w x_1.snd 3 true;let v:=x_1.fst.toNat;let D:=bC x_1.snd v d;let j:=x_1.fst - g;let z:=j.toNat;let A:=bC x_1.snd z d;let h:=x_1.snd.length;let z23:Nat:=(x_1.snd.set v A).length;let I:=c j;let J:=(x_1.snd.set v A).set z D;let K:=f w J 3 true;let L:=e t/\((o.same o/\(c a).same (c a)/\(c b).same (c b)/\q.same q/\G.same G/\True)/\H.same H/\k.same k/\True)/\((a<t/\(t<=b\/t=m))/\x_1.snd=N)/\(b - t).toNat<(b - x.fst).toNat;let M:=λ(u:Bool) ↦decide (aem p D A<d)=u;((a<=x_1.fst/\x_1.fst<=x.fst)/\x_1.snd=N2 (gB p) l a.toNat r v/\∀(s:Int),s∈γ1 (x_1.fst - a).toNat C->ET (gB p) (bC l r d) s=true)->(decide (a<x_1.fst)=true->n=h/\d<=x_1.fst/\x_1.fst<(↑h:Int)/\n=h/\v<h/\e j/\n=h/\d<=j/\j<(↑h:Int)/\n=h/\z<h/\(fO p=d/\JI p D/\JI p A)/\(M true->e j/\e j/\n=h/\d<=j/\j<(↑h:Int)/\n=h/\z<h/\n=h/\d<=x_1.fst/\x_1.fst<(↑h:Int)/\n=h/\v<h/\n=h/\d<=x_1.fst/\x_1.fst<(↑h:Int)/\n=h/\v<h/\n=z23/\d<=j/\j<(↑z23:Int)/\n=z23/\z<z23/\e j/\((o.same o/\(c a).same (c a)/\(c b).same (c b)/\q.same q/\y.same y/\I.same I/\True)/\K.same K/\k.same k/\True)/\((a<=j/\j<=x.fst)/\J=N2 (gB p) l a.toNat r z/\∀(s:Int),s∈γ1 (j - a).toNat C->ET (gB p) (bC l r d) s=true)/\(j - a).toNat<(x_1.fst - a).toNat)/\(M false->L))/\(decide (a<x_1.fst)=false->L))/\(decide (x.fst<b)=false->(SV.eW []).same (SV.eW [])/\B.same (f w (od (gB p) l a.toNat b.toNat) 3 true)/\k.same k/\True)) (by kernel_rfl) ?_
 simp only[vcs]
 have hc:fO p=0:=hc
 have hn:n=l.length:=hn
 have hl:l.length<=1000:=hl
 have ho:∀x∈l,JI p x:=ho
 have a0:0<=a:=a0
 have a1:a<=b:=a1
 have a2:b<=l.length:=a2
 have hi:(seg l a.toNat b.toNat).Pairwise (·<·):=hi
 generalize hD:gB p=D at*
 have sl:∀{i:Int},a<=i->i<=b->(od D l a.toNat i.toNat).length=l.length:=λh1 h2=>ahV (by omega) (by omega)
 refine⟨by omega,⟨⟨by omega,.inr trivial⟩,?_⟩,?_⟩
 ·by_cases hab:a<b
  ·rw[if_pos hab,show(a+1).toNat=a.toNat+1 by omega,aDO (by omega)]
  ·rw[if_neg hab,av7]
 rintro⟨i,m⟩ ⟨⟨i0,i1⟩,hm⟩
 simp only at i0 i1 hm ⊢
 refine⟨λhib=>?_,λhib=>aen ?_⟩
 ·rw[if_pos (by omega)] at hm
  have hx:=ho _ (pz (d:=(0:Int)) (show i.toNat<l.length by omega))
  have hS:∀s∈nA D (seg l a.toNat i.toNat),s<bC l i.toNat 0/\JI p s:=λs hs=>by
   have h1:=ahU.1 hs
   have h2:(seg l a.toNat (i.toNat+1)).Pairwise (·<·):=by
    refine hi.sublist ?_
    unfold seg
    exact List.take_sublist_take_left (by omega)
   rw[apS (by omega) (by omega)] at h2
   refine⟨(δf.1 h2).2.2 s h1 _ (by simp),ho s ?_⟩
   unfold seg at h1
   exact γY (γi h1)
  have hSl:(nA D (seg l a.toNat i.toNat)).length=i.toNat - a.toNat:=by rw[abC,S1 (by omega) (by omega)]
  have il:∀{j:Nat},(N2 D l a.toNat i.toNat j).length=l.length:=λ{j}=>av8 (by omega) (by omega)
  refine⟨⟨⟨by omega,by omega⟩,?_,?_⟩,?_⟩
  ·rw[hm,av9 (by omega) (by omega)]
  ·intro s hs
   rw[δP (by omega)] at hs
   simp at hs
  rintro⟨j,m2⟩ ⟨⟨j0,j1⟩,hm2,hle⟩
  simp only at j0 j1 hm2 hle ⊢
  subst hm2;simp only[χ,il]
  have fin:(j=a\/ET D (bC (nA D (seg l a.toNat i.toNat)) (j.toNat - 1 - a.toNat) 0) (bC l i.toNat 0)=true)->N2 D l a.toNat i.toNat j.toNat=od D l a.toNat (if a<b then i+1 else a).toNat:=λh=>by
   rw[if_pos (by omega),show(i+1).toNat=i.toNat+1 by omega]
   refine awg (by omega) (by omega) (by omega) ?_ ?_
   ·rw[show j.toNat - a.toNat=(j - a).toNat by omega];exact hle
   ·rcases h with h|h
    ·exact .inl (by omega)
    ·exact .inr h
  refine⟨λhj=>?_,λhj=>?_⟩
  ·obtain⟨k1,k2,k3⟩:=@awe D l a.toNat i.toNat j.toNat (by omega) (by omega) (by omega)
   have ej:(j - 1).toNat=j.toNat - 1:=by omega
   rw[ej,k1,k2,k3]
   have hs:=pz (d:=(0:Int)) (show j.toNat - 1 - a.toNat<(nA D (seg l a.toNat i.toNat)).length by omega)
   obtain⟨s1,s2⟩:=hS _ hs
   have hcmp:=awl hc hx s2
   rw[hD] at hcmp;rw[hcmp]
   refine⟨by omega,by omega,by omega,by omega,by omega,by omega,by omega,by omega,by omega,by omega,by omega,⟨hc,hx,s2⟩,λh1=>?_,λh1=>?_⟩
   ·repeat' refine γe ?_ ?_
    all_goals first|omega|rfl|skip
    intro s hs2
    rw[show(j - 1 - a).toNat=j.toNat - 1 - a.toNat by omega,γV (show j.toNat - 1 - a.toNat<(nA D (seg l a.toNat i.toNat)).length by omega)] at hs2
    rcases γX.1 hs2 with rfl|hs2
    ·rw[<-my (d:=(0:Int))]
     exact abB.2 (.inl h1)
    ·refine hle s ?_
     rw[show(j - a).toNat=j.toNat - 1 - a.toNat+1 by omega]
     exact hs2
   ·have:=fin (.inr (abB.2 (by omega)))
    repeat' refine γe ?_ ?_
    all_goals first|omega|exact this|rfl
  ·have:=fin (.inl (by omega))
   repeat' refine γe ?_ ?_
   all_goals first|omega|exact this|rfl
 ·rw[hm]
  by_cases hab:a<b
  ·rw[if_pos hab,show i=b by omega]
  ·rw[if_neg hab,show a=b by omega]
theorem Qi {l:List Int} {a b:Nat} (h1:a<=b):l.drop a=seg l a b++l.drop b:=by
 have:=γc (b - a) (l.drop a)
 rw[γW,show a+(b - a)=b by omega] at this
 exact this.symm
theorem aeo {P Q R:List Int} {a b:Nat} (ha:a=P.length) (hb:b=P.length+Q.length):seg (P++(Q++R)) a b=Q:=by
 subst ha;subst hb;unfold seg
 rw[List.drop_left,show P.length+Q.length - P.length=Q.length by omega,List.take_left]
theorem ap4 {D:Int->Int} {P Q R:List Int} {a b:Nat} (ha:a=P.length) (hb:b=P.length+Q.length):od D (P++(Q++R)) a b=P++(nA D Q++R):=by
 have h:=@aeo P Q R a b ha hb
 unfold od;rw[h,ha,hb,List.take_left]
 have:(P++(Q++R)).drop (P.length+Q.length)=R:=by rw[<-γl,<-θ,List.drop_left]
 rw[this]
 simp
theorem ahZ {l:List Int} {a b:Nat} {x:Int}:x∈seg l a b↔∃k,a<=k/\k<b/\k<l.length/\bC l k 0=x:=by
 unfold seg
 constructor
 ·intro h
  obtain⟨j,hj,rfl⟩:=List.getElem_of_mem h
  simp only[γd,γ3] at hj
  refine⟨a+j,by omega,by omega,by omega,?_⟩
  rw[εQ,εp,my (show a+j<l.length by omega)]
 ·rintro⟨k,h1,h2,h3,rfl⟩
  have hj:k - a<((l.drop a).take (b - a)).length:=by simp only[γd,γ3];omega
  have:((l.drop a).take (b - a))[k - a]=bC l k 0:=by
   rw[εQ,εp,my h3]
   congr 1
   omega
  rw[<-this]
  exact List.getElem_mem hj
theorem aD0 {D:Int->Int} {l:List Int} {a b:Nat} (h:Kp D (seg l a b)) {i j:Nat} (h1:a<=i) (h2:i<j) (h3:j<b) (h4:b<=l.length):ET D (bC l i 0) (bC l j 0)=true:=by
 have hl:=S1 (l:=l) (show a<=b by omega) h4
 have:=List.pairwise_iff_getElem.1 h (i - a) (j - a) (by omega) (by omega) (by omega)
 have e1:(seg l a b)[i - a]'(by omega)=bC l i 0:=by
  unfold seg
  rw[εQ,εp,my (show i<l.length by omega)]
  congr 1
  omega
 have e2:(seg l a b)[j - a]'(by omega)=bC l j 0:=by
  unfold seg
  rw[εQ,εp,my (show j<l.length by omega)]
  congr 1
  omega
 rwa [e1,e2] at this
theorem ama {D:Int->Int} {x y:Int} (h:ET D x y=true):D y<=D x:=by rw[abB] at h;omega
theorem aD1 {D:Int->Int} {x:Int}:ET D x x=true:=abB.2 (by omega)
theorem amb {D:Int->Int} {l:List Int} {a b:Nat} (h:Kp D (seg l a b)) {i j:Nat} (h1:a<=i) (h2:i<=j) (h3:j<b) (h4:b<=l.length):ET D (bC l i 0) (bC l j 0)=true:=by
 by_cases hij:i=j
 ·subst hij;exact aD1
 ·exact aD0 h h1 (by omega) h3 h4
theorem afi {l:List Int} {a b c d:Nat} (h1:a<=c) (h2:d<=b):(seg l c d).Sublist (seg l a b):=by
 by_cases hcd:c<=d
 ·by_cases hb:d<=l.length
  ·have e:seg l a b=seg l a c++(seg l c d++(seg (l.take b) d b)):=by
    apply δC (bs:=l.drop b)
    have e1:=Qi (l:=l) (show a<=b by omega)
    have e2:=Qi (l:=l) (show a<=c by omega)
    have e3:=Qi (l:=l) hcd
    have e4:=Qi (l:=l) (show d<=b by omega)
    have e5:seg (l.take b) d b=seg l d b:=by
     unfold seg;rw[List.drop_take,List.take_take]
     congr 1
     omega
    rw[<-e1,e2,e3,e4,e5]
    simp
   rw[e]
   exact(List.sublist_append_left _ _).trans (ζg _ _)
  ·have e:seg l c d=l.drop c:=by unfold seg;exact Ω (by rw[γ3];omega)
   have e2:seg l a b=l.drop a:=by unfold seg;exact Ω (by rw[γ3];omega)
   rw[e,e2,Qi (l:=l) h1]
   exact ζg _ _
 ·have:seg l c d=[]:=by unfold seg;rw[show d - c=0 by omega];simp
  rw[this]
  exact List.nil_sublist _
theorem awp {l:List Int} {a m b:Nat} (h1:a<=m) (h2:m<=b) (h3:b<=l.length):(rotR l a m b).length=l.length:=by
 unfold rotR
 simp only[θ,γd,γ3,S1 h1 (show m<=l.length by omega),S1 h2 h3]
 omega
theorem ap5 {l:List Int} {a b:Nat} {x:Int} (h:x∈seg l a b):x∈l:=by
 unfold seg at h
 exact γY (γi h)
theorem aD2 {l:List Int} {a m b:Nat} {x:Int} (h:x∈rotR l a m b):x∈l:=by
 unfold rotR at h;simp only[γt] at h
 rcases h with h|h|h|h
 ·exact γi h
 ·exact ap5 h
 ·exact ap5 h
 ·exact γY h
theorem ajH {D:Int->Int} {l:List Int} {a b:Nat} {x:Int} (h:x∈od D l a b):x∈l:=by
 unfold od at h;simp only[γt] at h
 rcases h with(h|h)|h
 ·exact γi h
 ·exact ap5 (ahU.1 h)
 ·exact γY h
theorem aD3 {l:List Int} {a m b:Nat} (h1:a<=m) (h2:m<=b) (h3:b<=l.length) (h:a=m\/m=b):rotR l a m b=l:=by
 have:=awj h1 h2 h3
 conv=>rhs;rw[this]
 unfold rotR
 rcases h with rfl|rfl
 ·rw[ajC];simp
 ·rw[ajC];simp
theorem ap6 {D:Int->Int} {l:List Int} {a b:Nat} (h1:a<=b) (h:Kp D (seg l a b)):od D l a b=l:=by
 unfold od;rw[apR h,γl,<-Qi h1,γc]
theorem aD4 {D:Int->Int} {l:List Int} {a s m e b mid:Nat} (h1:a<=s) (h2:s<=m) (h3:m<=e) (h4:e<=b) (h5:b<=l.length) (hmid:mid=s+(e - m)) (hL:Kp D (seg l a m)) (hR:Kp D (seg l m b))
  (H1:∀x∈seg l a s,∀y∈seg l e b,ET D x y=true) (H2:∀x∈seg l m e,∀y∈seg l s m,ET D x y=true):
  (seg (rotR l s m e) a s=seg l a s/\seg (rotR l s m e) s mid=seg l m e/\seg (rotR l s m e) a mid=seg l a s++seg l m e)/\
  (seg (od D (rotR l s m e) a mid) mid e=seg l s m/\seg (od D (rotR l s m e) a mid) e b=seg l e b/\seg (od D (rotR l s m e) a mid) mid b=seg l s m++seg l e b)/\
  od D (od D (rotR l s m e) a mid) mid b=od D l a b:=by
 have la:(l.take a).length=a:=by rw[γd];omega
 have l1:=S1 (l:=l) h1 (show s<=l.length by omega)
 have l2:=S1 (l:=l) h2 (show m<=l.length by omega)
 have l3:=S1 (l:=l) h3 (show e<=l.length by omega)
 have l4:=S1 (l:=l) h4 h5
 have hsp:l=l.take a++(seg l a s++(seg l s m++(seg l m e++(seg l e b++l.drop b)))):=by
  rw[<-Qi h4,<-Qi h3,<-Qi h2,<-Qi h1,γc]
 have hts:l.take s=l.take a++seg l a s:=by
  conv=>lhs;rw[hsp]
  rw[<-γl]
  exact List.take_left' (by rw[θ,la,l1];omega)
 have aD5:rotR l s m e=l.take a++(seg l a s++(seg l m e++(seg l s m++(seg l e b++l.drop b)))):=by
  unfold rotR;rw[hts,Qi h4]
  simp
 have hLL:seg l a m=seg l a s++seg l s m:=by
  have:=Qi (l:=l) (show a<=m by omega)
  rw[Qi h1,Qi h2,<-γl] at this
  exact(δC this).symm
 have hRR:seg l m b=seg l m e++seg l e b:=by
  have:=Qi (l:=l) (show m<=b by omega)
  rw[Qi h3,Qi h4,<-γl] at this
  exact(δC this).symm
 have hWh:seg l a b=seg l a s++(seg l s m++(seg l m e++seg l e b)):=by
  have:=Qi (l:=l) (show a<=b by omega)
  rw[Qi (show a<=m by omega),Qi (show m<=b by omega),<-γl] at this
  rw[<-δC this,hLL,hRR]
  simp
 have hsr:od D l a b=l.take a++nA D (seg l a b)++l.drop b:=rfl
 rw[aD5,hsr,hWh];rw[hLL,Kp,δf] at hL;rw[hRR,Kp,δf] at hR
 generalize l.take a=A at*
 generalize seg l a s=X1 at*
 generalize seg l s m=X2 at*
 generalize seg l m e=Y1 at*
 generalize seg l e b=Y2 at*
 generalize l.drop b=Z at*
 have hs1:A++(X1++(Y1++(X2++(Y2++Z))))=A++((X1++Y1)++(X2++(Y2++Z))):=by simp
 have g1:od D (A++(X1++(Y1++(X2++(Y2++Z))))) a mid=A++(nA D (X1++Y1)++(X2++(Y2++Z))):=by
  rw[hs1]
  exact ap4 (by omega) (by rw[θ];omega)
 have hs2:A++(nA D (X1++Y1)++(X2++(Y2++Z)))=(A++nA D (X1++Y1))++((X2++Y2)++Z):=by simp
 have lS:(nA D (X1++Y1)).length=X1.length+Y1.length:=by rw[abC,θ]
 refine⟨⟨aeo (by omega) (by omega),?_,?_⟩,⟨?_,?_,?_⟩,?_⟩
 ·rw[<-γl]
  exact aeo (by rw[θ];omega) (by rw[θ];omega)
 ·rw[hs1]
  exact aeo (by omega) (by rw[θ];omega)
 ·rw[g1,<-γl]
  exact aeo (by rw[θ,lS];omega) (by rw[θ,lS];omega)
 ·rw[g1,<-γl,<-γl]
  exact aeo (by rw[θ,θ,lS];omega) (by rw[θ,θ,lS];omega)
 ·rw[g1,hs2]
  exact aeo (by rw[θ,lS];omega) (by rw[θ,θ,lS];omega)
 ·rw[g1,hs2,ap4 (by rw[θ,lS];omega) (by rw[θ,θ,lS];omega)]
  have:nA D (X1++Y1)++nA D (X2++Y2)=nA D (X1++(X2++(Y1++Y2))):=by
   refine ajB ?_ ?_
   ·refine(ζ0 adM adM).trans ?_
    rw[γl]
    refine List.Perm.append_left X1 ?_
    rw[<-γl,<-γl]
    exact List.Perm.append_right Y2 List.perm_append_comm
   ·rw[Kp,δf]
    refine⟨agq,agq,λx hx y hy=>?_⟩
    have hx:=ahU.1 hx
    have hy:=ahU.1 hy
    rcases γt.1 hx with hx|hx
    ·rcases γt.1 hy with hy|hy
     ·exact hL.2.2 x hx y hy
     ·exact H1 x hx y hy
    ·rcases γt.1 hy with hy|hy
     ·exact H2 x hx y hy
     ·exact hR.2.2 x hx y hy
  rw[<-this]
  simp
theorem aD6 {A X Y B:List Int} {i j:Nat} (hi:X.length=i) (hj:Y.length=j) (h:j<i) {m:Nat} (hm:A.length+i=m):
  PU (A++(X++(Y++B))) (m - i) m j=(A++Y)++(X.drop j++(X.take j++B)):=by
 have e:A++(X++(Y++B))=A++(X.take j++(X.drop j++(Y++B))):=by
  rw[<-γl (X.take j),γc]
 have lt:(X.take j).length=j:=by rw[γd];omega
 have ld:(X.drop j).length=i - j:=by rw[γ3];omega
 have hs:=@apT A (X.take j) (X.drop j) Y B (by omega)
 rw[lt,ld,show A.length+j+(i - j)=m by omega] at hs
 rw[e,show m - i=A.length by omega,hs]
 simp
theorem aD7 {A X Y B:List Int} {i j:Nat} (hi:X.length=i) (hj:Y.length=j) (h:i<j) {m:Nat} (hm:A.length+i=m):
  PU (A++(X++(Y++B))) (m - i) (m+j - i) i=A++(Y.drop (j - i)++(Y.take (j - i)++(X++B))):=by
 have e:A++(X++(Y++B))=A++(X++(Y.take (j - i)++(Y.drop (j - i)++B))):=by
  rw[<-γl (Y.take (j - i)),γc]
 have lt:(Y.take (j - i)).length=j - i:=by rw[γd];omega
 have ld:(Y.drop (j - i)).length=i:=by rw[γ3];omega
 have hs:=@apT A X (Y.take (j - i)) (Y.drop (j - i)) B (by omega)
 rw[hi,lt,show A.length+i+(j - i)=m+j - i by omega] at hs
 rw[e,show m - i=A.length by omega,hs]
theorem aD8 {A X Y B:List Int} {i:Nat} (hi:X.length=i) (hj:Y.length=i) {m:Nat} (hm:A.length+i=m):
  PU (A++(X++(Y++B))) (m - i) m i=A++(Y++(X++B)):=by
 have hs:=@apT A X [] Y B (by omega)
 simp only[δw,List.length_nil,Nat.add_zero] at hs;rw[hi,hm] at hs
 rw[show m - i=A.length by omega,hs]
theorem ap7 {l:List Int} {a b k:Nat} (h:k<(seg l a b).length):(seg l a b)[k]=bC l (a+k) 0:=by
 have h2:bC (seg l a b) k 0=bC l (a+k) 0:=by
  have h3:k<b - a:=by
   unfold seg at h;rw[γd] at h;omega
  unfold seg bC;rw[List.getElem?_take,if_pos h3,List.getElem?_drop]
 rwa [my h] at h2
def ZV (l:List Int) (a b c:Nat):List Int:=l.take a++((seg l (a+1) b).take c++bC l a 0::((seg l (a+1) b).drop c++l.drop b))
theorem aD9 {l:List Int} {a b:Nat} (h1:a<b) (h2:b<=l.length):ZV l a b 0=l:=by
 unfold ZV
 rw[List.take_zero,List.drop_zero,δw,<-Qi (by omega),<-al8 (by omega),γc]
theorem aEa {l:List Int} {a b c:Nat} (h1:a<b) (h2:b<=l.length):(ZV l a b c).length=l.length:=by
 have:=S1 (l:=l) (show a+1<=b by omega) h2
 unfold ZV;simp only[θ,γz,γd,γ3,this];omega
theorem aEb {l:List Int} {a b c:Nat} (h1:a+1+c<b) (h2:b<=l.length):
  bC (ZV l a b c) (a+c) 0=bC l a 0/\bC (ZV l a b c) (a+c+1) 0=bC l (a+1+c) 0/\((ZV l a b c).set (a+c) (bC l (a+1+c) 0)).set (a+c+1) (bC l a 0)=ZV l a b (c+1):=by
 have hl:=S1 (l:=l) (show a+1<=b by omega) h2
 have hc:c<(seg l (a+1) b).length:=by omega
 have hy:(seg l (a+1) b)[c]=bC l (a+1+c) 0:=ap7 hc
 have t1:(seg l (a+1) b).take (c+1)=(seg l (a+1) b).take c++[bC l (a+1+c) 0]:=by rw[γD hc,hy]
 have t2:(seg l (a+1) b).drop c=bC l (a+1+c) 0::(seg l (a+1) b).drop (c+1):=by rw[γV hc,hy]
 have f1:ZV l a b c=(l.take a++(seg l (a+1) b).take c)++bC l a 0::bC l (a+1+c) 0::((seg l (a+1) b).drop (c+1)++l.drop b):=by
  unfold ZV;rw[t2]
  simp
 have f2:ZV l a b (c+1)=(l.take a++(seg l (a+1) b).take c)++bC l (a+1+c) 0::bC l a 0::((seg l (a+1) b).drop (c+1)++l.drop b):=by
  unfold ZV;rw[t1]
  simp
 have f3:(l.take a++(seg l (a+1) b).take c).length=a+c:=by
  rw[θ,γd,γd];omega
 rw[f1,f2]
 generalize l.take a++(seg l (a+1) b).take c=A at*
 generalize (seg l (a+1) b).drop (c+1)++l.drop b=B at*
 generalize bC l a 0=x at*
 generalize bC l (a+1+c) 0=y at*
 rw[<-f3]
 refine⟨awc,awd,?_⟩
 rw[δz _ _ (by omega),δz _ _ (by omega)]
 simp
theorem aEc {D:Int->Int} {l:List Int} {a b c:Nat} (h1:a+1+c<=b) (h2:b<=l.length) (hT:Kp D (seg l (a+1) b)) (h3:∀s∈(seg l (a+1) b).drop c,ET D (bC l a 0) s=true) (h4:c=0\/ET D (bC l (a+c) 0) (bC l a 0)=true):ZV l a b c=od D l a b:=by
 have hl:=S1 (l:=l) (show a+1<=b by omega) h2
 have key:Kp D ((seg l (a+1) b).take c++bC l a 0::(seg l (a+1) b).drop c):=by
  refine awf hT h3 ?_
  rcases h4 with rfl|h4
  ·exact .inl rfl
  ·by_cases hc:c=0
   ·exact .inl hc
   ·refine .inr ⟨by omega,?_⟩
    have:bC (seg l (a+1) b) (c - 1) 0=bC l (a+c) 0:=by
     rw[my (show c - 1<(seg l (a+1) b).length by omega),ap7]
     congr 1
     omega
    rw[this];exact h4
 have hs:seg l a b=bC l a 0::seg l (a+1) b:=by
  have e1:=Qi (l:=l) (show a<=b by omega)
  rw[al8 (show a<l.length by omega),Qi (show a+1<=b by omega),<-γJ] at e1
  exact(δC e1).symm
 have hp:((seg l (a+1) b).take c++bC l a 0::(seg l (a+1) b).drop c).Perm (seg l a b):=by
  rw[hs]
  refine ζZ.trans ?_
  rw[γc]
 unfold ZV od;rw[<-ajB hp key]
 simp
def q9 (x y:Int):Int:=(Nat.gcd x.toNat y.toNat:Nat)
theorem awr {x y:Int} (h0:0<=x) (h1:0<y):q9 y (x % y)=q9 x y:=by
 unfold q9
 congr 1
 rw[Nat.gcd_comm x.toNat,Nat.gcd_rec y.toNat x.toNat,Nat.gcd_comm,Int.toNat_emod h0 (by omega)]
theorem aws {x:Int} (h0:0<=x):q9 x 0=x:=by unfold q9;simp;omega
theorem Yo {i u v:Nat} (h:u=v):(γQ i u 1).same (γQ i v 1):=by subst h;rfl
theorem aEd {u v:List Int} (h:u=v):(Ξ (.i .u32) u).same (Ξ (.i .u32) v):=by subst h;rfl
theorem ap8 {l:List Int} (h:l=[]):(Ξ (.i .i64) []).same (Ξ (.i .u32) l):=by subst h;rfl
def sbO (x y:Int):SV:=.eW [.row (.i .u32) (ey (x - y)),.sb (decide (y<=x))]
theorem amc {n:Int} (h:n<=0):ey n=[]:=by
 unfold ey
 rw[show n.toNat=0 by omega]
 rfl
def ap9:fN:=⟨110,List Int×List Int,.cons (mA (.i .u32)) (.one (mA (.i .u32))),λa=>(cQ a.1/\cQ a.2)/\a.1.length<=100000000000/\a.2.length<=100000000000,
 λa=>sbO (bD a.1) (bD a.2)⟩
def aEe (a:List Int×List Int):Nat->jY
 |7=> .inv (Int×Int×List Int) (λx=>⟨[(0,.row (.i .u32) (eZ a.1)),(1,.row (.i .u32) (eZ a.2)),(6,.ow 0 x.2.2.length 1),(7,.si .u64 x.2.1),(22,.si .i64 (eZ a.1).length),(23,.si .i64 x.1)],[.row (.i .u32) x.2.2 161 true]⟩)
  (λs=>(iS s 23,iS s 7,oS (.i .u32) s 0))
  (λx=>(0<=x.1/\x.1<=(eZ a.1).length)/\(0<=x.2.1/\x.2.1<=1)/\cQ x.2.2/\x.2.2.length=(eZ a.1).length/\(∀j,x.1.toNat<=j->bC x.2.2 j 0=0)/\
   bD x.2.2 - 4294967296^x.1.toNat*x.2.1=bD ((eZ a.1).take x.1.toNat) - bD ((eZ a.2).take x.1.toNat)) (λx=>((eZ a.1).length - x.1).toNat) λ_ _=> .look
 |_=> .look
theorem awu {s t row:List Int} {i:Nat} {br d v c:Int} (hs:cQ s) (ht:cQ t) (hr:cQ row) (hl:row.length=s.length) (hz:∀j,i<=j->bC row j 0=0)
  (hv:bD row - 4294967296^i*br=bD (s.take i) - bD (t.take i)) (hi:i<s.length) (hd:d=bC s i 0 - br - bC t i 0) (h0:0<=v/\v<4294967296) (hc:v - 4294967296*c=d):
  cQ (row.set i v)/\(row.set i v).length=s.length/\(∀j,i+1<=j->bC (row.set i v) j 0=0)/\bD (row.set i v) - 4294967296^(i+1)*c=bD (s.take (i+1)) - bD (t.take (i+1)):=by
 refine⟨aa2 hr h0.1 h0.2,by simp[hl],λj hj=>by rw[acB (by omega)];exact hz j (by omega),?_⟩
 rw[ae9 (by omega),KE,KE,hz i (Θ _),γx,ζc]
 have h1:(4294967296:Int)^i*(v - 4294967296*c)=4294967296^i*(bC s i 0 - br - bC t i 0):=by rw[hc,hd]
 simp only[εP] at h1;rw[<-γI] at h1;omega
theorem h155:Holds Tryz.prog ap9:=by
 refine kh (L:=[adH,ahO]) ap9 aEe (by simpa using⟨h152,h132⟩) ?_
 rintro⟨a,b⟩ ⟨⟨ha,hb⟩,hla,hlb⟩
 simp only at ha hb hla hlb
 refine gp (let c:=(0:Int);let d:=(18446744073709551616:Int);let e:=Ξ;let f:=(4294967296:Int);let g:=γa .i64;let h:=(1:Int);let k:=γQ;let l:=SV.eW;let z0:Nat:=(eZ a).length;let B:=decide (Ig (bD (eZ a)) (bD (eZ b))<c);let m:=cn.i .u32;let C:=l [e m (ey (bD a - bD b)),SV.sb (decide (bD b<=bD a))];let o:=(↑(eZ a).length:Int);let q:=δ o.toNat c;let p:=(↑z0:Int);let z:=g p;let D:=cJ.row m q 161 true;let A:=(↑(eZ b).length:Int);a.length<=1000000000000/\b.length<=1000000000000/\((cQ (eZ a)/\cQ (eZ b))/\z0<=1000000000000/\(eZ b).length<=1000000000000)/\(B=true->(l [e (cn.i .i64) [],SV.bl false]).same C)/\(B=false->c<=o/\o<=o/\o*(4:Int)<=(140737488355328:Int)/\o<=(1000000000000:Int)/\((((e m (eZ a)).same (e m (eZ a))/\(e m (eZ b)).same (e m (eZ b))/\(k 0 o.toNat 1).same (k 0 q.length 1)/\(γu .u64 0).same (γa .u64 0)/\(g o).same z/\(γu .i64 0).same (g 0)/\True)/\D.same D/\True)/\(c<=c/\c<=p)/\(c<=c/\c<=h)/\cQ q/\q.length=z0/\(∀(j:Nat),0<=j->bC q j c=c)/\bD q - c=c)/\∀(x:Int×Int×List Int),let r:=x.snd.snd.length;let v:=x.snd.snd.length;let n:=x.fst.toNat;let s:=x.fst+h;let E:=g s;let w:=s.toNat;let F:=bC (eZ a) n c;let G:=λ(u u_1:Int) ↦let H:=(u % d - u_1) % d;let t:=x.snd.snd.set n (H % f);let y:=H / (9223372036854775808:Int);let I:=γa .u64 y;let J:=cJ.row m t 161 true;c<=(63:Int)/\(63:Int)<=(64:Int)/\r=v/\c<=x.fst/\x.fst<(↑v:Int)/\r=v/\n<v/\ie .i64 s/\(((e m (eZ a)).same (e m (eZ a))/\(e m (eZ b)).same (e m (eZ b))/\(k 0 r 1).same (k 0 t.length 1)/\I.same I/\z.same z/\E.same E/\True)/\J.same J/\True)/\((c<=s/\s<=p)/\(c<=y/\y<=h)/\cQ t/\t.length=z0/\(∀(j:Nat),w<=j->bC t j c=c)/\bD t - f^w*y=bD (ω w (eZ a)) - bD (ω w (eZ b)))/\(p - s).toNat<(p - x.fst).toNat;(c<=x.fst/\x.fst<=p)/\(c<=x.snd.fst/\x.snd.fst<=h)/\cQ x.snd.snd/\r=z0/\(∀(j:Nat),n<=j->bC x.snd.snd j c=c)/\bD x.snd.snd - f^n*x.snd.fst=bD (ω n (eZ a)) - bD (ω n (eZ b))->(decide (x.fst<p)=true->c<=x.fst/\x.fst<o/\n<(eZ a).length/\(decide (x.fst<A)=true->c<=x.fst/\x.fst<A/\n<(eZ b).length/\G (F % d - x.snd.fst) (bC (eZ b) n c % d))/\(decide (x.fst<A)=false->G F x.snd.fst))/\(decide (x.fst<p)=false->r=v/\r<=1000000000000/\(l [e m (eZ x.snd.snd),SV.bl true]).same C))) (by kernel_rfl) ?_
 simp only[vcs]
 obtain⟨va,na⟩:=@adJ a
 obtain⟨vb,nb⟩:=@adJ b
 have da:=aej ha
 have db:=aej hb
 have la:=@ae6 a
 have lb:=@ae6 b
 have pa:=rf da
 have pb:=rf db
 rw[<-va,<-vb]
 generalize eZ a=s at*
 generalize eZ b=t at*
 have hr0:∀n j,bC (δ n (0:Int)) j 0=0:=λn j=>by
  unfold bC;rw[εF]
  split<;>rfl
 have hd0:∀n,cQ (δ n 0):=λn d hd=>by
  have:=εD hd
  omega
 have hv0:∀n,bD (δ n 0)=0:=λn=>by
  induction n with
  |zero=>rfl
  |succ n ih=>simp only[δj,bD,ih];omega
 refine⟨by omega,by omega,⟨⟨da,db⟩,by omega,by omega⟩,λhlt=>?_,λhge=>⟨by omega,by omega,by omega,by omega,?_,?_⟩⟩
 ·have hlt2:bD s<bD t:=by unfold Ig at hlt;split at hlt<;>(try split at hlt)<;>omega
  refine⟨ap8 (amc (by omega)),?_⟩
  rw[eq_comm,decide_eq_false_iff_not];omega
 ·repeat' refine γe ?_ ?_
  all_goals first|omega|exact Yo (by simp)|exact hd0 _|exact λj _=>hr0 _ j|(simp;done)|(rw[hv0];rfl)
 have awv:bD t<=bD s:=by unfold Ig at hge;split at hge<;>(try split at hge)<;>omega
 rintro⟨i,br,row⟩ ⟨⟨i0,i1⟩,⟨b0,b1⟩,hr,hl,hz,hv⟩
 simp only at i0 i1 b0 b1 hr hl hz hv ⊢
 refine⟨λilt=>?_,λige=>?_⟩
 ·have d1:=qb da i.toNat
  have d2:=qb db i.toNat
  have e:(i+1).toNat=i.toNat+1:=by omega
  refine⟨i0,ilt,by omega,λht=>?_,λht=>?_⟩
  ·generalize hq:((bC s i.toNat 0 % 18446744073709551616 - br) % 18446744073709551616 - bC t i.toNat 0 % 18446744073709551616) % 18446744073709551616=q
   obtain⟨k1,k2,k3,k4⟩:=awu (v:=q % 4294967296) (c:=q / 9223372036854775808) da db hr hl hz hv (by omega) rfl (by omega) (by omega)
   rw[e]
   repeat' refine γe ?_ ?_
   all_goals first|omega|exact Yo (by simp)|exact k1|exact k2|exact k3|exact k4
  ·have hz2:=ahM (a:=t) (i:=i.toNat) (by omega)
   generalize hq:(bC s i.toNat 0 % 18446744073709551616 - br) % 18446744073709551616=q
   obtain⟨k1,k2,k3,k4⟩:=awu (v:=q % 4294967296) (c:=q / 9223372036854775808) da db hr hl hz hv (by omega) rfl (by omega) (by omega)
   rw[e]
   repeat' refine γe ?_ ?_
   all_goals first|omega|exact Yo (by simp)|exact k1|exact k2|exact k3|exact k4
 ·have hi:i.toNat=s.length:=by omega
  have hlen:t.length<=s.length:=by
   by_cases h:s.length<t.length
   ·have:=ahN da db nb h
    omega
   ·omega
  rw[hi,τ,Ω hlen] at hv
  have hbd:=Ku hr
  have hp:=pow_pos s.length
  rw[hl] at hbd
  have hb0:br=0:=by
   by_cases h:br=0
   ·exact h
   ·have:br=1:=by omega
    subst this;omega
  rw[hb0,δL,ζc] at hv
  refine⟨by omega,?_,?_⟩
  ·rw[acZ hr,hv]
  ·rw[eq_comm,decide_eq_true_eq]
   exact awv
theorem aww {n j:Nat}:bC (δ n (0:Int)) j 0=0:=by
 unfold bC;rw[εF]
 split<;>rfl
theorem ah0 {n:Nat}:cQ (δ n 0):=λd hd=>by
 have:=εD hd
 omega
theorem agt:∀{n:Nat},bD (δ n 0)=0
 |0=>rfl
 |n+1=>by simp only[δj,bD,@agt n];omega
theorem aEf {o b:List Int} {x:Int} {i k:Nat}:HT o b x i (k+1)=((HT o b x i k).1.set (i+k) ((x*bC b k 0+bC (HT o b x i k).1 (i+k) 0+(HT o b x i k).2) % 4294967296),(x*bC b k 0+bC (HT o b x i k).1 (i+k) 0+(HT o b x i k).2) / 4294967296):=rfl
def ah1:fN:=⟨108,List Int×List Int,.cons (mA (.i .u32)) (.one (mA (.i .u32))),λa=>(cQ a.1/\cQ a.2)/\a.1.length<=100000000000/\a.2.length<=100000000000,
 λa=> .row (.i .u32) (ey (bD a.1*bD a.2))⟩
def stM (a:List Int×List Int) (row:List Int):jr:=[.row (.i .u32) row 161 true]
def aEg (a:List Int×List Int):Nat->jY
 |3=> .inv (Int×List Int) (λx=>⟨[(0,.row (.i .u32) a.1),(1,.row (.i .u32) a.2),(5,.ow 0 x.2.length 1),(17,.si .i64 a.1.length),(18,.si .i64 x.1)],stM a x.2⟩)
  (λs=>(iS s 18,oS (.i .u32) s 0))
  (λx=>(0<=x.1/\x.1<=a.1.length)/\cQ x.2/\x.2.length=a.1.length+a.2.length/\bD x.2=bD (a.1.take x.1.toNat)*bD a.2) (λx=>(a.1.length - x.1).toNat)
  λx=>λ
   |7=> .inv (Int×Int×List Int) (λy=>⟨[(0,.row (.i .u32) a.1),(1,.row (.i .u32) a.2),(5,.ow 0 y.2.2.length 1),(6,.si .i64 x.1),(7,.si .u64 y.2.1),(17,.si .i64 a.1.length),(18,.si .i64 x.1),(22,.si .i64 a.2.length),(23,.si .i64 y.1)],stM a y.2.2⟩)
    (λs=>(iS s 23,iS s 7,oS (.i .u32) s 0))
    (λy=>(0<=y.1/\y.1<=a.2.length)/\y.2.2=(HT x.2 a.2 (bC a.1 x.1.toNat 0) x.1.toNat y.1.toNat).1/\y.2.1=(HT x.2 a.2 (bC a.1 x.1.toNat 0) x.1.toNat y.1.toNat).2) (λy=>(a.2.length - y.1).toNat) λ_ _=> .look
   |_=> .look
 |_=> .look
theorem h153:Holds Tryz.prog ah1:=by
 refine kh (L:=[adH]) ah1 aEg (by simpa using h152) ?_
 rintro⟨a,b⟩ ⟨⟨ha,hb⟩,hla,hlb⟩
 simp only at ha hb hla hlb
 refine gp (let c:=(18446744073709551616:Int);let d:=(0:Int);let e:=Ξ;let f:=γa .i64;let g:=(4294967296:Int);let h:=ie .i64;let j:=γQ;let k:=γu .i64 0;let l:=cJ.row;let F:=(↑a.length:Int);let z:=(↑b.length:Int);let p:=F+z;let m:=cn.i .u32;let A:=δ p.toNat d;let q:=(↑a.length:Int);let t:=f q;let J:=l m A 161 true;let G:=a.length+b.length;let r:=(↑b.length:Int);let H:=f r;h p/\d<=p/\p<=p/\p*(4:Int)<=(140737488355328:Int)/\p<=(1000000000000:Int)/\((((e m a).same (e m a)/\(e m b).same (e m b)/\(j 0 p.toNat 1).same (j 0 A.length 1)/\(f F).same t/\(k).same (f 0)/\True)/\J.same J/\True)/\(d<=d/\d<=q)/\cQ A/\A.length=G/\bD A=bD []*bD b)/\∀(x:Int×List Int),let C:=x.snd.length;let v:=x.fst.toNat;let K:=j 0 C 1;let s:=f x.fst;let L:=l m x.snd 161 true;let D:=bC a v d;let M:=HT x.snd b D v 0;let w:=x.fst+(1:Int);let N:=f w;(d<=x.fst/\x.fst<=q)/\cQ x.snd/\C=G/\bD x.snd=bD (ω v a)*bD b->(decide (x.fst<q)=true->((((e m a).same (e m a)/\(e m b).same (e m b)/\K.same K/\s.same s/\(γu .u64 0).same (γa .u64 0)/\t.same t/\s.same s/\(f z).same H/\(k).same (f 0)/\True)/\L.same L/\True)/\(d<=d/\d<=r)/\x.snd=M.fst/\d=M.snd)/\∀(x_1:Int×Int×List Int),let O:=HT x.snd b D v x_1.fst.toNat;let o:=x.fst+x_1.fst;let n:=x_1.snd.snd.length;let y:=x_1.fst+(1:Int);let P:=j 0 x_1.snd.snd.length 1;let I:=((D % c*(bC b x_1.fst.toNat d % c) % c+bC x_1.snd.snd o.toNat d % c) % c+x_1.snd.fst) % c;let Q:=x_1.snd.snd.set o.toNat (I % g);let R:=I / g;let S:=γa .u64 R;let T:=f y;let U:=HT x.snd b D v y.toNat;let B:=x.fst+z;let E:=x_1.snd.snd.set B.toNat (x_1.snd.fst % g);let V:=λ(u u_1:Int) ↦let W:=l m (x_1.snd.snd.set (x.fst+u).toNat (u_1 % g)) 161 true;W.same W/\True;(d<=x_1.fst/\x_1.fst<=r)/\x_1.snd.snd=O.fst/\x_1.snd.fst=O.snd->(decide (x_1.fst<r)=true->d<=x.fst/\x.fst<F/\v<a.length/\d<=x_1.fst/\x_1.fst<z/\x_1.fst.toNat<b.length/\h o/\x_1.snd.snd.length=n/\d<=o/\o<(↑n:Int)/\x_1.snd.snd.length=n/\o.toNat<n/\h o/\d<=(32:Int)/\(32:Int)<=(64:Int)/\x_1.snd.snd.length=n/\d<=o/\o<(↑n:Int)/\x_1.snd.snd.length=n/\o.toNat<n/\h y/\(((e m a).same (e m a)/\(e m b).same (e m b)/\P.same (j 0 Q.length 1)/\s.same s/\S.same S/\t.same t/\s.same s/\H.same H/\T.same T/\True)/\V x_1.fst I)/\((d<=y/\y<=r)/\Q=U.fst/\R=U.snd)/\(r - y).toNat<(r - x_1.fst).toNat)/\(decide (x_1.fst<r)=false->h B/\x_1.snd.snd.length=n/\d<=B/\B<(↑n:Int)/\x_1.snd.snd.length=n/\B.toNat<n/\h w/\(((e m a).same (e m a)/\(e m b).same (e m b)/\P.same (j 0 E.length 1)/\t.same t/\N.same N/\True)/\V z x_1.snd.fst)/\((d<=w/\w<=q)/\cQ E/\E.length=G/\bD E=bD (ω w.toNat a)*bD b)/\(q - w).toNat<(q - x.fst).toNat))/\(decide (x.fst<q)=false->C=x.snd.length/\C<=1000000000000/\(e m (eZ x.snd)).same (e m (ey (bD a*bD b))))) (by kernel_rfl) ?_
 simp only[vcs]
 refine⟨by omega,by omega,by omega,by omega,by omega,?_,?_⟩
 ·repeat' refine γe ?_ ?_
  all_goals first|omega|exact Yo (by simp)|exact ah0|(simp;omega)|(rw[agt];simp[bD])
 rintro⟨i,row⟩ ⟨⟨i0,i1⟩,hr,hl,hv⟩
 simp only at i0 i1 hr hl hv ⊢
 refine⟨λilt=>⟨⟨⟨by omega,by omega⟩,rfl,rfl⟩,?_⟩,λige=>?_⟩
 ·rintro⟨k,c,ro⟩ ⟨⟨k0,k1⟩,e1,e2⟩
  simp only at k0 k1 e1 e2 ⊢
  have x1:=qb ha i.toNat
  obtain⟨m1,m2,⟨m3,m4⟩,m5,m6⟩:=@avV row b (bC a i.toNat 0) i.toNat hr hb x1.1 x1.2 k.toNat (by omega)
  have hp:=@aEf row b (bC a i.toNat 0) i.toNat k.toNat
  generalize HT row b (bC a i.toNat 0) i.toNat k.toNat=M at*
  obtain⟨p,q⟩:=M
  simp only at e1 e2 m1 m2 m3 m4 m5 m6 hp
  subst e1 e2
  have hik:(i+k).toNat=i.toNat+k.toNat:=by omega
  have hk1:(k+1).toNat=k.toNat+1:=by omega
  have hi1:(i+1).toNat=i.toNat+1:=by omega
  refine⟨λklt=>?_,λkge=>?_⟩
  ·have x2:=qb hb k.toNat
   have x3:=qb m1 (i.toNat+k.toNat)
   have hxb:0<=bC a i.toNat 0*bC b k.toNat 0:=γh x1.1 x2.1
   have aIe:bC a i.toNat 0*bC b k.toNat 0<=4294967295*4294967295:=δt (by omega) (by omega) x2.1 (by omega)
   rw[hik,hk1,hp]
   have hq:(((bC a i.toNat 0 % 18446744073709551616*(bC b k.toNat 0 % 18446744073709551616) % 18446744073709551616+bC ro (i.toNat+k.toNat) 0 % 18446744073709551616) % 18446744073709551616+c) % 18446744073709551616)=bC a i.toNat 0*bC b k.toNat 0+bC ro (i.toNat+k.toNat) 0+c:=by
    rw[δm (a:=bC a i.toNat 0) (by omega) (by omega),δm (a:=bC b k.toNat 0) (by omega) (by omega)]
    omega
   rw[hq]
   repeat' refine γe ?_ ?_
   all_goals first|omega|exact Yo (by simp)|rfl
  ·have hkl:k.toNat=b.length:=by omega
   rw[show(i+(b.length:Int)).toNat=i.toNat+b.length by omega]
   rw[hkl,τ] at m6;rw[hkl] at m5
   have hz:bC ro (i.toNat+b.length) 0=0:=by
    rw[m5 _ (Θ _)]
    refine ajs hr (i:=i.toNat+b.length) ?_ (Θ _)
    rw[hv,Int.pow_add]
    have t1:=Ku (SU ha i.toNat)
    rw[γd,δO (by omega)] at t1
    have t2:=Ku hb
    have t3:=rf (SU ha i.toNat)
    have t4:=rf hb
    exact Int.lt_of_le_of_lt (ν (Int.le_of_lt t2) t3) (γP t1 (pow_pos _))
   have hc:c % 4294967296=c:=by omega
   rw[hc,hi1]
   have hfin:bD (ro.set (i.toNat+b.length) c)=bD (a.take (i.toNat+1))*bD b:=by
    rw[ae9 (by omega),hz,ζc,m6,hv,KE,Int.add_mul,γI]
   repeat' refine γe ?_ ?_
   all_goals first|omega|exact Yo (by simp)|exact aa2 m1 m3 m4|exact hfin|(rw[χ];omega)
 ·have hi:i.toNat=a.length:=by omega
  rw[hi,τ] at hv
  refine⟨by omega,?_⟩
  rw[acZ hr,hv]
end Go.Vi
