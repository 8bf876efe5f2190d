import Derived.Test.YtbnhiekmnpikhaaGreatDR07
import Derived.Shelf.Sort.AssemblyIn
import Derived.Shelf.SlicesE.Clone
import Derived.Shelf.SlicesE.Delete
import Derived.Shelf.SlSortCmp.NoneTotal
import Derived.Sort.EveryDepth
import Derived.Sort.OwnSortedInts
set_option maxRecDepth 100000
set_option maxHeartbeats 4000000
set_option linter.all false
open And renaming intro->γk
open Classical renaming not_not->γc
open Go.Vi.AV renaming sc->δh
open Go.Vi.AV.os renaming injEq->εA
open Go.Vi.AV.sc renaming injEq->δf
open Go.Vi.AV.sl renaming injEq->δ5
open Go.Vi.SV renaming g->γE,row->Ψ,si->γf,il->γv,ow->γW,ptr->γK
open Int renaming mul_nonneg->γu,mul_le_mul->δI,sub_mul->ζR,one_mul->εz,pow_succ->γT,mul_assoc->δm,mul_add->εy,mul_sub->εO,mul_zero->δJ,add_zero->εj,mul_one->ε5
open List renaming map_cons->π,map_nil->γr,length->γb,take->Γ,length_take->γx,take_length->ψ,mergeSort_perm->δx,append_assoc->γC,take_append_drop->γP,pairwise_append->δG,cons_append->γI,drop->γ3,mem_of_mem_drop->γV,mem_of_mem_take->γl,nil_append->δM,Pairwise->ζz,range->ω,range_succ->εg,mem_range->γq,replicate->δ,getElem?_cons_zero->δp,getElem?_map->γF,getElem?_eq_some_iff->ζ,map_append->γa
open List.Perm renaming refl->ζP
open List.cons renaming injEq->Δ
open Nat renaming le_refl->ξ,zero_le->δ4,lt_of_lt_of_le->γj
open Option renaming map_eq_some_iff->ε
open Option.some renaming injEq->γ
open Prod renaming ext->εF
namespace Go.Vi
open Go.Proofs.YtbnhiekmnpikhaaGreat.Ir
open Go.Proofs
structure mf where
 U:List Int
 j:Nat
 len:Nat
 n:Nat
 v:List Int
def mf.x (a:mf):Int:=bX (bM a.U a.j (a.v.length+1))
def mf.ok (a:mf):Prop:=(ou a.U/\ou a.v)/\(a.len=a.v.length+1/\a.n=a.U.length)/\(2<=a.v.length/\a.j+a.v.length+1<=a.U.length/\a.U.length<=200000000000)/\
 2147483648<=bN a.v (a.v.length - 1) 0/\a.x<4294967296*bX a.v
def mf.row (a:mf):List Int:=iu a.U a.j (gk (a.v.length+1) (a.x % bX a.v))
def F0:cU where
 f:=188;α:=mf;put a:=[.oc 0 a.j a.len a.n 1,.row (.i .u32) a.v];st a:=[.row (.i .u32) a.U 172 false];dec v o:=match v,o with
  |[.oc 0 j len n 1,v],[.row t l 172 false]=>match iJ (.i .u32) v,gG t (.i .u32) l with
   |some v,some l=>some ⟨l,j,len,n,v⟩
   |_,_=>none
  |_,_=>none;ok v o a h:=by
  split at h
  ·split at h
   ·rename_i h1 h2;simp only[γ] at h;subst h;obtain⟨rfl,hh⟩:=lF h2;cases hh;exact⟨by simp only[gL,ng h1],rfl⟩
   ·cases h
  ·cases h
 inj a b h1 h2:=by
  obtain⟨U,j,len,n,v⟩:=a;obtain⟨U',j',len',n',v'⟩:=b;simp only[gL,Δ,and_true] at h1;obtain⟨g1,g2⟩:=h1;have e2:=(cL (.i .u32)).inj _ _ g2;simp only[γE,εA,true_and,ew.sz,Nat.mul_one] at g1;simp only[gO,π,γr,iZ.g,Δ,OL.cells.injEq,and_true] at h2;have hl:U=U':=by
   have hf:=congrArg γb h2;rw[ec,ec] at hf;exact ku (.i .u32) (by simpa[ew.sz] using hf) h2
  obtain⟨q1,q2,q3⟩:=g1;subst q3;have:j=j':=by omega
  rw[e2,hl,q2,this]
 dom:=mf.ok;res a:=.si .u32 (a.x / bX a.v);out a:=[.row (.i .u32) a.row 172 false]
def FZ (U:List Int):TN:=[.row (.i .u32) U 172 false]
def WN (a:mf):Nat->bG
 |4=> .inv (Int×Int) (λx=>⟨[(0,.oc 0 a.j a.len a.n 1),(1,.row (.i .u32) a.v),(5,.si .i64 a.v.length),(7,.si .u64 x.1),(8,.si .u64 x.2)],FZ a.U⟩) (λs=>(iS s 7,iS s 8))
  (λx=>(0<=x.1/\x.1<=4294967297)/\(0<=x.2/\x.2<4294967296)/\x.1*bN a.v (a.v.length - 1) 0+x.2=bN a.U (a.j+(a.v.length - 1)) 0+4294967296*bN a.U (a.j+a.v.length) 0/\a.x<(x.1+1)*bX a.v) (λx=>x.1.toNat) λ_ _=> .look
 |10=> .inv (Int×Int×Int×Int×List Int) (λx=>⟨[(0,.oc 0 a.j a.len a.n 1),(1,.row (.i .u32) a.v),(5,.si .i64 a.v.length),(7,.si .u64 x.2.1),(9,.si .u64 x.2.2.1),(10,.si .u64 x.2.2.2.1),(82,.si .i64 a.v.length),(83,.si .i64 x.1)],FZ x.2.2.2.2⟩)
  (λs=>(iS s 83,iS s 7,iS s 9,iS s 10,oS (.i .u32) s 0))
  (λx=>(0<=x.1/\x.1<=a.v.length)/\(0<=x.2.1/\x.2.1<4294967296)/\(a.x<(x.2.1+1)*bX a.v/\x.2.1*bX a.v<a.x+bX a.v)/\(0<=x.2.2.1/\x.2.2.1<4294967296)/\(0<=x.2.2.2.1/\x.2.2.2.1<=1)/\(ou x.2.2.2.2/\x.2.2.2.2.length=a.U.length)/\
   (∀m,(m<a.j\/a.j+x.1.toNat<=m)->bN x.2.2.2.2 m 0=bN a.U m 0)/\
   bX (bM x.2.2.2.2 a.j x.1.toNat)=bX (bM a.U a.j x.1.toNat) - x.2.1*bX (a.v.take x.1.toNat)+4294967296^x.1.toNat*(x.2.2.1+x.2.2.2.1)) (λx=>(a.v.length - x.1).toNat) λ_ _=> .look
 |23=> .inv (Int×Int×Int×List Int) (λx=>⟨[(0,.oc 0 a.j a.len a.n 1),(1,.row (.i .u32) a.v),(5,.si .i64 a.v.length),(7,.si .u64 x.2.1),(9,.si .u64 x.2.2.1),(134,.si .i64 a.v.length),(135,.si .i64 x.1)],FZ x.2.2.2⟩)
  (λs=>(iS s 135,iS s 7,iS s 9,oS (.i .u32) s 0))
  (λx=>(0<=x.1/\x.1<=a.v.length)/\(0<=x.2.1/\x.2.1<4294967296)/\(a.x<x.2.1*bX a.v/\x.2.1*bX a.v<a.x+bX a.v)/\(0<=x.2.2.1/\x.2.2.1<=1)/\(ou x.2.2.2/\x.2.2.2.length=a.U.length)/\
   ∃W,(ou W/\W.length=a.U.length)/\(∀m,(m<a.j\/a.j+(a.v.length+1)<=m)->bN W m 0=bN a.U m 0)/\bX (bM W a.j (a.v.length+1))=a.x - x.2.1*bX a.v+4294967296^(a.v.length+1)/\
    (∀m,(m<a.j\/a.j+x.1.toNat<=m)->bN x.2.2.2 m 0=bN W m 0)/\bX (bM x.2.2.2 a.j x.1.toNat)+4294967296^x.1.toNat*x.2.2.1=bX (bM W a.j x.1.toNat)+bX (a.v.take x.1.toNat))
  (λx=>(a.v.length - x.1).toNat) λ_ _=> .look
 |_=> .look
theorem IE:dA Tryz.prog F0:=by
 refine kq (L:=[]) (W:=[]) F0 WN (by simp) (by simp) ?_;rintro⟨U,j,len,n,v⟩ ⟨⟨hU,hv⟩,⟨e1,e2⟩,⟨hn,hj,hlU⟩,hv1,hx⟩;simp only at hU hv hn hj hlU hv1 hx e1 e2;subst e1 e2;refine NH (let a:=(18446744073709551616:Int);let b:=(0:Int);let c:=(4294967296:Int);let d:=(1:Int);let e:=Ψ;let f:=γf .i64;let g:=(32:Int);let h:=VI .i64;let k:=(9223372036854775808:Int);let l:=(4294967297:Int);let n:=(64:Int);let o:=iZ.row;let p:=γv .i64 0;let q:=(63:Int);let r:=γv .i64;let D:=(↑v.length:Int);let y:=v.length+1;let F:=(↑y:Int);let B:=D - d;let Q:=bN v B.toNat b % a;let a7:=gd.orI .u64 (bN U (j+D.toNat) 0 % a*c % a) (bN U (j+B.toNat) 0 % a);let K:=a7.tdiv Q;let C:=SV.oc 0 j y U.length 1;let w:=ew.i .u32;let s:=(↑v.length:Int);let t:=f s;let a8:=γf .u64 K;let R:=a7.tmod Q;let a9:=γf .u64 R;let J:=o w U 172 false;let aa:=v.length - 1;let a3:=bN v aa b;let a4:=bN U (j+aa) 0+c*bN U (j+v.length) 0;let ab:=mf.mk U j y U.length v;let E:=ab.x;let L:=s - d;let aJ:=bN v L.toNat b % a;let M:=E+bX v;let S:=bX (bM U j 0);let I:=j+s.toNat;let ac:=γf .u32 (E / bX v);let ad:=o w ab.row 172 false;let ae:=c^y;let H:=s - (2:Int);U.length=U.length/\b<=D/\D<F/\j+y<=U.length/\U.length=U.length/\j+D.toNat<U.length/\b<=g/\g<=n/\h B/\U.length=U.length/\b<=B/\B<F/\j+y<=U.length/\U.length=U.length/\j+B.toNat<U.length/\h B/\b<=B/\B<D/\B.toNat<v.length/\Q≠b/\VI .u64 K/\h B/\b<=B/\B<D/\B.toNat<v.length/\Q≠b/\(((C.bi C/\(e w v).bi (e w v)/\(f D).bi t/\a8.bi a8/\a9.bi a9/\True)/\J.bi J/\True)/\(b<=K/\K<=l)/\(b<=R/\R<c)/\K*a3+R=a4/\E<(K+d)*bX v)/\∀(x:Int×Int),let N:=(x.2+aJ) % a;let af:=decide (c<=N);let G:=(x.1 - d) % a;let T:=γf .u64 G;let ag:=γf .u64 N;let ah:=decide (c<=x.1);let ai:=γf .u64 x.1;let aj:=∀(x:Int×Int×Int×Int×List Int),let V:=x.2.1*bX v;let z:=x.2.2.2.2;let X:=x.2.2.2.1;let Y:=x.2.2.1;let ak:=((bN z I b % a - Y) % a - X) % a;let O:=j+x.1.toNat;let Z:=x.1+d;let a0:=γf .u64 x.2.1;let al:=(x.2.1*(bN v x.1.toNat b % a) % a+Y) % a;let am:=al / c;let an:=γf .u64 am;let ao:=gd.asY .u64 al (4294967295:Int);let ap:=((bN z O b % a - ao) % a - X) % a;let aq:=ap / k;let ar:=γf .u64 aq;let au:=f Z;let P:=z.set I (ak % c);let av:=λ(u u_1 u_2:Int) (u_3:List Int) ↦(b<=u/\u<=s)/\(b<=x.2.1/\x.2.1<c)/\(E<(x.2.1+d)*bX v/\V<M)/\(b<=u_1/\u_1<c)/\(b<=u_2/\u_2<=d)/\(ou u_3/\u_3.length=U.length)/\(∀(m:Nat),m<j\/j+u.toNat<=m->bN u_3 m b=bN U m b)/\bX (bM u_3 j u.toNat)=bX (bM U j u.toNat) - x.2.1*bX (Γ u.toNat v)+c^u.toNat*(u_1+u_2);let aw:=λ(u:Nat) (u_1:Int) ↦let ax:=o w (z.set u (((bN z u b % a - u_1) % a - X) % a % c)) 172 false;ax.bi ax/\True;let ay:=λ(u:Bool) ↦decide (ak / k=b)=u;av x.1 Y X z->(decide (x.1<s)=true->b<=x.1/\x.1<D/\x.1.toNat<v.length/\b<=g/\g<=n/\U.length=z.length/\b<=x.1/\x.1<F/\j+y<=U.length/\U.length=z.length/\O<z.length/\b<=q/\q<=n/\U.length=z.length/\b<=x.1/\x.1<F/\j+y<=U.length/\U.length=z.length/\O<z.length/\h Z/\((C.bi C/\(e w v).bi (e w v)/\t.bi t/\a0.bi a0/\an.bi an/\ar.bi ar/\t.bi t/\au.bi au/\True)/\aw O ao)/\av Z am aq (z.set O (ap % c))/\(s - Z).toNat<(s - x.1).toNat)/\(decide (x.1<s)=false->U.length=z.length/\b<=s/\s<F/\j+y<=U.length/\U.length=z.length/\I<z.length/\U.length=z.length/\b<=s/\s<F/\j+y<=U.length/\U.length=z.length/\I<z.length/\b<=q/\q<=n/\(ay true->(γf .u32 (x.2.1 % c)).bi ac/\(o w P 172 false).bi ad/\True)/\(ay false->(((C.bi C/\(e w v).bi (e w v)/\t.bi t/\a0.bi a0/\(γv .u64 0).bi (γf .u64 0)/\t.bi t/\(p).bi (f 0)/\True)/\aw I Y)/\(b<=b/\b<=s)/\(b<=x.2.1/\x.2.1<c)/\(E<V/\V<M)/\(b<=b/\b<=d)/\(ou P/\P.length=U.length)/\∃(W:List Int),(ou W/\W.length=U.length)/\(∀(m:Nat),m<j\/j+y<=m->bN W m b=bN U m b)/\bX (bM W j y)=E - V+ae/\(∀(m:Nat),m<j\/j+0<=m->bN P m b=bN W m b)/\bX (bM P j 0)+b=bX (bM W j 0)+bX [])/\∀(x:Int×Int×Int×List Int),let a5:=x.2.1*bX v;let a6:=x.2.2.1;let A:=x.2.2.2;let a1:=j+x.1.toNat;let a2:=x.1+d;let az:=γf .u64 x.2.1;let aA:=((bN A a1 b % a+bN v x.1.toNat b % a) % a+a6) % a;let aB:=aA / c;let aC:=γf .u64 aB;let aD:=f a2;let aE:=A.set a1 (aA % c);let aF:=o w aE 172 false;let aG:=λ(u u_1:Int) (u_2:List Int) ↦(b<=u/\u<=s)/\(b<=x.2.1/\x.2.1<c)/\(E<a5/\a5<M)/\(b<=u_1/\u_1<=d)/\(ou u_2/\u_2.length=U.length)/\∃(W:List Int),(ou W/\W.length=U.length)/\(∀(m:Nat),m<j\/j+y<=m->bN W m b=bN U m b)/\bX (bM W j y)=E - a5+ae/\(∀(m:Nat),m<j\/j+u.toNat<=m->bN u_2 m b=bN W m b)/\bX (bM u_2 j u.toNat)+c^u.toNat*u_1=bX (bM W j u.toNat)+bX (Γ u.toNat v);aG x.1 a6 A->(decide (x.1<s)=true->U.length=A.length/\b<=x.1/\x.1<F/\j+y<=U.length/\U.length=A.length/\a1<A.length/\b<=x.1/\x.1<D/\x.1.toNat<v.length/\b<=g/\g<=n/\U.length=A.length/\b<=x.1/\x.1<F/\j+y<=U.length/\U.length=A.length/\a1<A.length/\h a2/\((C.bi C/\(e w v).bi (e w v)/\t.bi t/\az.bi az/\aC.bi aC/\t.bi t/\aD.bi aD/\True)/\aF.bi aF/\True)/\aG a2 aB aE/\(s - a2).toNat<(s - x.1).toNat)/\(decide (x.1<s)=false->U.length=A.length/\b<=s/\s<F/\j+y<=U.length/\U.length=A.length/\I<A.length/\U.length=A.length/\b<=s/\s<F/\j+y<=U.length/\U.length=A.length/\I<A.length/\(γf .u32 ((x.2.1 - d) % a % c)).bi ac/\(o w (A.set I ((bN A I b+a6 % c) % c)) 172 false).bi ad/\True)));let aH:=h L/\b<=L/\L<D/\L.toNat<v.length/\(af=true->(((C.bi C/\(e w v).bi (e w v)/\t.bi t/\T.bi T/\(γv .u64 0).bi (γf .u64 0)/\(γv .u64 0).bi (γf .u64 0)/\t.bi t/\(p).bi (f 0)/\True)/\J.bi J/\True)/\(b<=b/\b<=s)/\(b<=G/\G<c)/\(E<(G+d)*bX v/\G*bX v<M)/\(b<=b/\b<c)/\(b<=b/\b<=d)/\(ou U/\U.length=U.length)/\(∀(m:Nat),m<j\/j+0<=m->bN U m b=bN U m b)/\S=S - G*bX []+b)/\aj)/\(af=false->((C.bi C/\(e w v).bi (e w v)/\t.bi t/\T.bi T/\ag.bi ag/\True)/\J.bi J/\True)/\((b<=G/\G<=l)/\(b<=N/\N<c)/\G*a3+N=a4/\E<(G+d)*bX v)/\G.toNat<x.1.toNat);let aI:=λ(u:Bool) ↦decide (gd.orI .u64 (x.2*c % a) (bN U (j+H.toNat) 0 % a)<x.1*(bN v H.toNat b % a) % a)=u;(b<=x.1/\x.1<=l)/\(b<=x.2/\x.2<c)/\x.1*a3+x.2=a4/\E<(x.1+d)*bX v->(ah=true->aH)/\(ah=false->h H/\b<=H/\H<D/\H.toNat<v.length/\b<=g/\g<=n/\h H/\U.length=U.length/\b<=H/\H<F/\j+y<=U.length/\U.length=U.length/\j+H.toNat<U.length/\(aI true->aH)/\(aI false->(((C.bi C/\(e w v).bi (e w v)/\t.bi t/\ai.bi ai/\(γv .u64 0).bi (γf .u64 0)/\(γv .u64 0).bi (γf .u64 0)/\t.bi t/\(p).bi (f 0)/\True)/\J.bi J/\True)/\(b<=b/\b<=s)/\(b<=x.1/\x.1<c)/\(E<(x.1+d)*bX v/\x.1*bX v<M)/\(b<=b/\b<c)/\(b<=b/\b<=d)/\(ou U/\U.length=U.length)/\(∀(m:Nat),m<j\/j+0<=m->bN U m b=bN U m b)/\S=S - x.1*bX []+b)/\aj))) (by kernel_rfl) ?_;simp only[vcs];have t1:((v.length:Int) - 1).toNat=v.length - 1:=by omega
 have t2:((v.length:Int) - 2).toNat=v.length - 2:=by omega
 have t3:((v.length:Int)).toNat=v.length:=by omega
 have hVe:=WQ hn rfl;have hXe:=@WO U j v.length hn;have dv1:=dB hv (v.length - 1);have dv2:=dB hv (v.length - 2);have du0:=dB hU (j+v.length);have du1:=dB hU (j+(v.length - 1));have du2:=dB hU (j+(v.length - 2));have m1:bN v (v.length - 1) 0 % 18446744073709551616=bN v (v.length - 1) 0:=by omega
 have m2:bN v (v.length - 2) 0 % 18446744073709551616=bN v (v.length - 2) 0:=by omega
 have m3:bN U (j+v.length) 0 % 18446744073709551616=bN U (j+v.length) 0:=by omega
 have m4:bN U (j+(v.length - 1)) 0 % 18446744073709551616=bN U (j+(v.length - 1)) 0:=by omega
 have m5:bN U (j+(v.length - 2)) 0 % 18446744073709551616=bN U (j+(v.length - 2)) 0:=by omega
 have m6:bN U (j+v.length) 0*4294967296 % 18446744073709551616=bN U (j+v.length) 0*4294967296:=by omega
 have hor:=FA du0.1 du0.2 du1.1 du1.2;have htop:0<=bN U (j+v.length) 0*4294967296+bN U (j+(v.length - 1)) 0:=by omega
 have hx':bX (bM U j (v.length+1))<4294967296*bX v:=hx;have hP:=pow_pos (v.length - 2);have hrv:=el (lL hv (v.length - 2));have awP:=mN (lL hv (v.length - 2));rw[γx,Nat.min_eq_left (by omega)] at awP;have hru:=el (rA hU (j:=j) (k:=v.length - 2));have aDa:=sV hU (j:=j) (k:=v.length - 2);have hV0:=el hv;have hX0:=el (rA hU (j:=j) (k:=v.length+1));have htp:=WR hP hVe hXe awP hru du2.1 du1.1 dv2.2 hx';have hax:(mf.mk U j (v.length+1) U.length v).x=bX (bM U j (v.length+1)):=rfl;simp only[hax,t1,t2,t3,m1,m2,m3,m4,m5,m6,hor,Int.tdiv_eq_ediv_of_nonneg htop,Int.tmod_eq_emod_of_nonneg htop];generalize aSa:bN v (v.length - 1) 0=v1 at*;generalize aSb:bN v (v.length - 2) 0=v2 at*;generalize aYO:bN U (j+v.length) 0=u0 at*;generalize aSc:bN U (j+(v.length - 1)) 0=u1 at*;generalize aSd:bN U (j+(v.length - 2)) 0=u2 at*;have hqr:=Int.mul_ediv_add_emod (u0*4294967296+u1) v1;have hr0:=Int.emod_nonneg (u0*4294967296+u1) (show v1≠0 by omega);have hr1:=Int.emod_lt_of_pos (u0*4294967296+u1) (show 0<v1 by omega);have hg0:0<=(u0*4294967296+u1) / v1:=Int.ediv_nonneg htop (by omega);generalize hge:(u0*4294967296+u1) / v1=g0 at*;generalize hre:(u0*4294967296+u1) % v1=r0 at*;have hg1:g0<=4294967297:=by
  by_cases h:g0<=4294967297;·exact h
  ·exfalso;have:=Int.mul_le_mul_of_nonneg_left (show(4294967298:Int)<=g0 by omega) (show 0<=v1 by omega);omega
 have aJz:g0*v1+r0=u1+4294967296*u0:=by rw[Int.mul_comm g0];omega
 have hst:=WS hP hVe hXe hrv aDa dv2.1 du2.2 hg0 aJz hr1;have hin:VI .u64 g0:=u64_in hg0 (by omega);repeat refine γk (by omega) ?_
 clear t1 t2 t3 m1 m2 m3 m4 m5 m6 hor htop hge hre hqr hr0 hr1 hg0 hg1 aJz hst hin aSa aSb aSc aSd hx;rintro⟨g,r⟩ ⟨⟨g0',g1'⟩,⟨r0',r1'⟩,hgr,hgx⟩;simp only at g0' g1' r0' r1' hgr hgx ⊢;have azf:0<g+1:=by omega
 have e1:(r+v1) % 18446744073709551616=r+v1:=by omega
 have e2:r*4294967296 % 18446744073709551616=r*4294967296:=by omega
 have gv0:0<=g*v2:=γu g0' dv2.1;have gv1:g*v2<=4294967297*4294967295:=δI (by omega) (by omega) dv2.1 (by omega);have e3:g*v2 % 18446744073709551616=g*v2:=by omega
 have hor2:=FA r0' r1' du2.1 du2.2;have aDb:g*v1+r=u1+4294967296*u0:=hgr;have aJA:4294967296<=r+v1->g<=4294967296:=λh=>by
  by_cases hg:g<=4294967296;·exact hg
  ·have:g=4294967297:=by omega
   subst this;omega
 have dec:(4294967296<=g\/r*4294967296+u2<g*v2)->(bX (bM U j (v.length+1))<g*bX v/\(g - 1) % 18446744073709551616=g - 1/\0<=g - 1/\(g - 1)*v1+(r+v1)=u1+4294967296*u0):=λh=>by
  have h1:=WT hP hVe hXe hrv aDa hx' hV0 g0' aDb h;have h2:g≠0:=by
   rintro rfl;omega
  refine⟨h1,by omega,by omega,?_⟩;rw[ζR,εz];omega
 simp only[e1,e2,e3,hor2];have brk:(4294967296<=g\/r*4294967296+u2<g*v2)->4294967296<=r+v1->∃gg,gg=(g - 1) % 18446744073709551616/\(0<=gg/\gg<4294967296)/\bX (bM U j (v.length+1))<(gg+1)*bX v/\gg*bX v<bX (bM U j (v.length+1))+bX v:=λh hb=>by
  obtain⟨k1,k2,k3,k4⟩:=dec h;have k5:=aJA hb;rw[k2];refine⟨_,rfl,by omega,by rw[show g - 1+1=g by omega];exact k1,LQ hP hVe hXe hrv awP hru hv1 dv2.1 k3 (by omega) k4 ?_⟩;have:=δI (show g - 1<=4294967295 by omega) (show v2<=4294967295 by omega) dv2.1 (by omega);omega
 have nbr:(4294967296<=g\/r*4294967296+u2<g*v2)->¬4294967296<=r+v1->(0<=(g - 1) % 18446744073709551616/\(g - 1) % 18446744073709551616<=4294967297)/\(g - 1) % 18446744073709551616*v1+(r+v1)=u1+4294967296*u0/\bX (bM U j (v.length+1))<((g - 1) % 18446744073709551616+1)*bX v/\((g - 1) % 18446744073709551616).toNat<g.toNat:=λh hb=>by
  obtain⟨k1,k2,k3,k4⟩:=dec h;rw[k2];exact⟨by omega,k4,by rw[show g - 1+1=g by omega];exact k1,by omega⟩
 have ext:¬4294967296<=g->¬r*4294967296+u2<g*v2->∃gg,gg=g/\(0<=gg/\gg<4294967296)/\bX (bM U j (v.length+1))<(gg+1)*bX v/\gg*bX v<bX (bM U j (v.length+1))+bX v:=λh h2=>
  ⟨_,rfl,by omega,hgx,LQ hP hVe hXe hrv awP hru hv1 dv2.1 g0' (by omega) aDb (by omega)⟩;clear aDb azf e1 e2 e3 gv0 gv1 hor2 hVe hXe hrv awP hru aDa aJA dec htp;refine⟨λhB=>?_,λhB=>?_⟩
 ·refine⟨by omega,by omega,by omega,by omega,?_⟩;refine⟨λhb=>?_,λhb=>?_⟩
  ·obtain⟨gg,hgg,f0,f2,f3⟩:=brk (.inl hB) hb;rw[<-hgg];clear hB hb;clear hgg brk nbr ext hgx hgr;refine⟨?_,?_⟩
   ·repeat' refine γk ?_ ?_
    all_goals first|omega|exact hU|exact f2|exact f3|exact λ_ _=>trivial|(simp only[bX];omega)
   clear f0 f2 f3;rintro⟨i,ga,c,b,R⟩ ⟨⟨i0,i1⟩,⟨ga0,ga1⟩,⟨f2,f3⟩,⟨c0,c1⟩,⟨b0,b1⟩,⟨hR,hRl⟩,ho,he⟩;simp only at i0 i1 ga0 ga1 f2 f3 c0 c1 b0 b1 hR hRl ho he ⊢;refine⟨λilt=>?_,λige=>?_⟩
   ·have x:=dB hv i.toNat;have y:=dB hR (j+i.toNat);have gx0:0<=ga*bN v i.toNat 0:=γu ga0 x.1;have gx1:ga*bN v i.toNat 0<=4294967295*4294967295:=δI (by omega) (by omega) x.1 (by omega);have q1:bN v i.toNat 0 % 18446744073709551616=bN v i.toNat 0:=by omega
    have q2:bN R (j+i.toNat) 0 % 18446744073709551616=bN R (j+i.toNat) 0:=by omega
    have q3:(ga*bN v i.toNat 0 % 18446744073709551616+c) % 18446744073709551616=ga*bN v i.toNat 0+c:=by omega
    have hi1:(i+1).toNat=i.toNat+1:=by omega
    rw[q1,q2,q3,F3 (by omega) (by omega),hi1];generalize hq:((bN R (j+i.toNat) 0 - (ga*bN v i.toNat 0+c) % 4294967296) % 18446744073709551616 - b) % 18446744073709551616=q;obtain⟨k1,k2,k3,k4,k5⟩:=F2 (d:=q % 4294967296) (e:=q / 9223372036854775808) hR hRl hv ga0 ga1 c0 c1 b0 b1 (show j+i.toNat<U.length by omega) ho he (by omega) (by omega);repeat' refine γk ?_ ?_
    all_goals first|omega|exact k1|exact k2|exact k3|exact k4|exact k5|exact f2|exact f3
   ·have hi:i.toNat=v.length:=by omega
    rw[hi,ψ] at he;rw[hi] at ho;have hun:=ho (j+v.length) (.inr (ξ _));have du:=dB hU (j+v.length);have q2:bN R (j+v.length) 0 % 18446744073709551616=bN R (j+v.length) 0:=by rw[hun];omega
    have hXs:=@kV U j v.length;rw[q2];generalize hq:((bN R (j+v.length) 0 - c) % 18446744073709551616 - b) % 18446744073709551616=q;have alQ:ou (R.set (j+v.length) (q % 4294967296)):=lK hR (by omega) (by omega);have hlen:(R.set (j+v.length) (q % 4294967296)).length=U.length:=by simp[hRl]
    have hout:∀m,(m<j\/j+(v.length+1)<=m)->bN (R.set (j+v.length) (q % 4294967296)) m 0=bN U m 0:=λm hm=>by rw[nK (by omega)];exact ho m (by omega)
    have hval:bX (bM (R.set (j+v.length) (q % 4294967296)) j (v.length+1))=bX (bM U j (v.length+1)) - ga*bX v+4294967296^(v.length+1)*(q / 9223372036854775808):=by
     rw[kV,rB (ξ _),qm (by omega),he,hXs,γT];have hd:q % 4294967296 - 4294967296*(q / 9223372036854775808)=bN U (j+v.length) 0 - c - b:=by rw[hun] at hq;omega
     generalize (4294967296:Int)^v.length=B;have e:B*4294967296*(q / 9223372036854775808)=B*(q % 4294967296+c+b - bN U (j+v.length) 0):=by rw[δm];congr 1;omega
     rw[e];simp only[εy,εO];omega
    generalize hW:R.set (j+v.length) (q % 4294967296)=W at*;have hbd:=sV alQ (j:=j) (k:=v.length+1);have hnn:=el (rA alQ (j:=j) (k:=v.length+1));have q3:0<=q/\q<18446744073709551616:=by omega
    clear hq hun du q2 he ho hR;repeat refine γk (by omega) ?_
    refine⟨λhz=>?_,λhz=>?_⟩
    ·rw[hz,δJ,εj] at hval;obtain⟨w1,w2⟩:=sU (q:=ga) (show ga*bX v<=bX (bM U j (v.length+1)) by omega) f2;refine⟨by rw[w1];omega,?_⟩;have hfin:W=iu U j (gk (v.length+1) (bX (bM U j (v.length+1)) % bX v)):=vJ alQ hlen (by omega) hout (by rw[hval,w2]);rw[hfin];rfl
    ·have hq1:q / 9223372036854775808=1:=by omega
     rw[hq1,ε5] at hval;have f4:bX (bM U j (v.length+1))<ga*bX v:=by omega
     refine⟨?_,?_⟩
     ·repeat' refine γk ?_ ?_
      all_goals first|omega|exact alQ|exact hlen|exact⟨W,⟨alQ,hlen⟩,hout,hval,λ_ _=>rfl,by simp only[bX]⟩
     clear alQ hlen hout hval hW hbd hnn q3 hz hq1 f4 f2 f3 c0 c1 b0 b1 i0 i1 ga0 ga1;rintro⟨i2,gb,c2,R2⟩ ⟨⟨i0,i1⟩,⟨gb0,gb1⟩,⟨f5,f6⟩,⟨c0,c1⟩,⟨hR2,apA⟩,W2,⟨hW2,arZ⟩,ho2,hvW,ho3,he3⟩;simp only at i0 i1 gb0 gb1 f5 f6 c0 c1 hR2 apA ho3 he3 ⊢;refine⟨λilt=>?_,λige=>?_⟩
     ·have x:=dB hv i2.toNat;have y:=dB hR2 (j+i2.toNat);have hi1:(i2+1).toNat=i2.toNat+1:=by omega
      rw[hi1];have hs:((bN R2 (j+i2.toNat) 0 % 18446744073709551616+bN v i2.toNat 0 % 18446744073709551616) % 18446744073709551616+c2) % 18446744073709551616=bN R2 (j+i2.toNat) 0+bN v i2.toNat 0+c2:=by omega
      rw[hs];obtain⟨k1,k2,k3,k4,k5⟩:=F1 hR2 (apA.trans arZ.symm) hv c0 c1 (show j+i2.toNat<W2.length by omega) hW2 ho3 he3 rfl;repeat' refine γk ?_ ?_
      all_goals first|omega|exact k1|exact f5|exact f6|exact⟨W2,⟨hW2,arZ⟩,ho2,hvW,k4,k5⟩
     ·have hi2:i2.toNat=v.length:=by omega
      rw[hi2,ψ] at he3;rw[hi2] at ho3;have hun:=ho3 (j+v.length) (.inr (ξ _));have du:=dB hW2 (j+v.length);have hXs:=@kV W2 j v.length;have hc2:c2 % 4294967296=c2:=by omega
      rw[hc2,hun];have hF:ou (R2.set (j+v.length) ((bN W2 (j+v.length) 0+c2) % 4294967296)):=lK hR2 (by omega) (by omega);have hFl:(R2.set (j+v.length) ((bN W2 (j+v.length) 0+c2) % 4294967296)).length=U.length:=by simp[apA]
      have hFo:∀m,(m<j\/j+(v.length+1)<=m)->bN (R2.set (j+v.length) ((bN W2 (j+v.length) 0+c2) % 4294967296)) m 0=bN U m 0:=λm hm=>by rw[nK (by omega),ho3 m (by omega)];exact ho2 m hm
      have hFv:bX (bM (R2.set (j+v.length) ((bN W2 (j+v.length) 0+c2) % 4294967296)) j (v.length+1))=bX (bM U j (v.length+1)) - gb*bX v+4294967296^(v.length+1)+bX v - 4294967296^(v.length+1)*((bN W2 (j+v.length) 0+c2) / 4294967296):=by
       rw[kV,rB (ξ _),qm (by omega),<-hvW,hXs,γT];generalize (4294967296:Int)^v.length=B at*;have e:B*4294967296*((bN W2 (j+v.length) 0+c2) / 4294967296)=B*(bN W2 (j+v.length) 0+c2 - (bN W2 (j+v.length) 0+c2) % 4294967296):=by rw[δm];congr 1;omega
       rw[e];simp only[εy,εO];omega
      have hbd:=sV hF (j:=j) (k:=v.length+1);have hk:(bN W2 (j+v.length) 0+c2) / 4294967296=1:=by
       by_cases h:(bN W2 (j+v.length) 0+c2) / 4294967296=1;·exact h
       ·have h0:(bN W2 (j+v.length) 0+c2) / 4294967296=0:=by omega
        rw[h0,δJ] at hFv;omega
      rw[hk,ε5] at hFv;have e1:(gb - 1)*bX v=gb*bX v - bX v:=by rw[ζR,εz]
      obtain⟨w1,w2⟩:=sU (q:=gb - 1) (show(gb - 1)*bX v<=bX (bM U j (v.length+1)) by omega) (by rw[show gb - 1+1=gb by omega];exact f5);have azf:0<gb:=by
       by_cases h:0<gb;·exact h
       ·have:gb=0:=by omega
        subst this;omega
      have hfin:R2.set (j+v.length) ((bN W2 (j+v.length) 0+c2) % 4294967296)=iu U j (gk (v.length+1) (bX (bM U j (v.length+1)) % bX v)):=vJ hF hFl (by omega) hFo (by rw[hFv,w2,e1];omega);repeat refine γk (by omega) ?_
      rw[hfin];rfl
  ·obtain⟨k1,k2,k3,k4⟩:=nbr (.inl hB) hb;repeat' refine γk ?_ ?_
   all_goals first|omega|exact k2|exact k3
 ·repeat refine γk (by omega) ?_
  refine⟨λhc=>?_,λhc=>?_⟩
  ·repeat refine γk (by omega) ?_
   refine⟨λhb=>?_,λhb=>?_⟩
   ·obtain⟨gg,hgg,f0,f2,f3⟩:=brk (.inr hc) hb;rw[<-hgg];clear hB hb hc;clear hgg brk nbr ext hgx hgr;refine⟨?_,?_⟩
    ·repeat' refine γk ?_ ?_
     all_goals first|omega|exact hU|exact f2|exact f3|exact λ_ _=>trivial|(simp only[bX];omega)
    clear f0 f2 f3;rintro⟨i,ga,c,b,R⟩ ⟨⟨i0,i1⟩,⟨ga0,ga1⟩,⟨f2,f3⟩,⟨c0,c1⟩,⟨b0,b1⟩,⟨hR,hRl⟩,ho,he⟩;simp only at i0 i1 ga0 ga1 f2 f3 c0 c1 b0 b1 hR hRl ho he ⊢;refine⟨λilt=>?_,λige=>?_⟩
    ·have x:=dB hv i.toNat;have y:=dB hR (j+i.toNat);have gx0:0<=ga*bN v i.toNat 0:=γu ga0 x.1;have gx1:ga*bN v i.toNat 0<=4294967295*4294967295:=δI (by omega) (by omega) x.1 (by omega);have q1:bN v i.toNat 0 % 18446744073709551616=bN v i.toNat 0:=by omega
     have q2:bN R (j+i.toNat) 0 % 18446744073709551616=bN R (j+i.toNat) 0:=by omega
     have q3:(ga*bN v i.toNat 0 % 18446744073709551616+c) % 18446744073709551616=ga*bN v i.toNat 0+c:=by omega
     have hi1:(i+1).toNat=i.toNat+1:=by omega
     rw[q1,q2,q3,F3 (by omega) (by omega),hi1];generalize hq:((bN R (j+i.toNat) 0 - (ga*bN v i.toNat 0+c) % 4294967296) % 18446744073709551616 - b) % 18446744073709551616=q;obtain⟨k1,k2,k3,k4,k5⟩:=F2 (d:=q % 4294967296) (e:=q / 9223372036854775808) hR hRl hv ga0 ga1 c0 c1 b0 b1 (show j+i.toNat<U.length by omega) ho he (by omega) (by omega);repeat' refine γk ?_ ?_
     all_goals first|omega|exact k1|exact k2|exact k3|exact k4|exact k5|exact f2|exact f3
    ·have hi:i.toNat=v.length:=by omega
     rw[hi,ψ] at he;rw[hi] at ho;have hun:=ho (j+v.length) (.inr (ξ _));have du:=dB hU (j+v.length);have q2:bN R (j+v.length) 0 % 18446744073709551616=bN R (j+v.length) 0:=by rw[hun];omega
     have hXs:=@kV U j v.length;rw[q2];generalize hq:((bN R (j+v.length) 0 - c) % 18446744073709551616 - b) % 18446744073709551616=q;have alQ:ou (R.set (j+v.length) (q % 4294967296)):=lK hR (by omega) (by omega);have hlen:(R.set (j+v.length) (q % 4294967296)).length=U.length:=by simp[hRl]
     have hout:∀m,(m<j\/j+(v.length+1)<=m)->bN (R.set (j+v.length) (q % 4294967296)) m 0=bN U m 0:=λm hm=>by rw[nK (by omega)];exact ho m (by omega)
     have hval:bX (bM (R.set (j+v.length) (q % 4294967296)) j (v.length+1))=bX (bM U j (v.length+1)) - ga*bX v+4294967296^(v.length+1)*(q / 9223372036854775808):=by
      rw[kV,rB (ξ _),qm (by omega),he,hXs,γT];have hd:q % 4294967296 - 4294967296*(q / 9223372036854775808)=bN U (j+v.length) 0 - c - b:=by rw[hun] at hq;omega
      generalize (4294967296:Int)^v.length=B;have e:B*4294967296*(q / 9223372036854775808)=B*(q % 4294967296+c+b - bN U (j+v.length) 0):=by rw[δm];congr 1;omega
      rw[e];simp only[εy,εO];omega
     generalize hW:R.set (j+v.length) (q % 4294967296)=W at*;have hbd:=sV alQ (j:=j) (k:=v.length+1);have hnn:=el (rA alQ (j:=j) (k:=v.length+1));have q3:0<=q/\q<18446744073709551616:=by omega
     clear hq hun du q2 he ho hR;repeat refine γk (by omega) ?_
     refine⟨λhz=>?_,λhz=>?_⟩
     ·rw[hz,δJ,εj] at hval;obtain⟨w1,w2⟩:=sU (q:=ga) (show ga*bX v<=bX (bM U j (v.length+1)) by omega) f2;refine⟨by rw[w1];omega,?_⟩;have hfin:W=iu U j (gk (v.length+1) (bX (bM U j (v.length+1)) % bX v)):=vJ alQ hlen (by omega) hout (by rw[hval,w2]);rw[hfin];rfl
     ·have hq1:q / 9223372036854775808=1:=by omega
      rw[hq1,ε5] at hval;have f4:bX (bM U j (v.length+1))<ga*bX v:=by omega
      refine⟨?_,?_⟩
      ·repeat' refine γk ?_ ?_
       all_goals first|omega|exact alQ|exact hlen|exact⟨W,⟨alQ,hlen⟩,hout,hval,λ_ _=>rfl,by simp only[bX]⟩
      clear alQ hlen hout hval hW hbd hnn q3 hz hq1 f4 f2 f3 c0 c1 b0 b1 i0 i1 ga0 ga1;rintro⟨i2,gb,c2,R2⟩ ⟨⟨i0,i1⟩,⟨gb0,gb1⟩,⟨f5,f6⟩,⟨c0,c1⟩,⟨hR2,apA⟩,W2,⟨hW2,arZ⟩,ho2,hvW,ho3,he3⟩;simp only at i0 i1 gb0 gb1 f5 f6 c0 c1 hR2 apA ho3 he3 ⊢;refine⟨λilt=>?_,λige=>?_⟩
      ·have x:=dB hv i2.toNat;have y:=dB hR2 (j+i2.toNat);have hi1:(i2+1).toNat=i2.toNat+1:=by omega
       rw[hi1];have hs:((bN R2 (j+i2.toNat) 0 % 18446744073709551616+bN v i2.toNat 0 % 18446744073709551616) % 18446744073709551616+c2) % 18446744073709551616=bN R2 (j+i2.toNat) 0+bN v i2.toNat 0+c2:=by omega
       rw[hs];obtain⟨k1,k2,k3,k4,k5⟩:=F1 hR2 (apA.trans arZ.symm) hv c0 c1 (show j+i2.toNat<W2.length by omega) hW2 ho3 he3 rfl;repeat' refine γk ?_ ?_
       all_goals first|omega|exact k1|exact f5|exact f6|exact⟨W2,⟨hW2,arZ⟩,ho2,hvW,k4,k5⟩
      ·have hi2:i2.toNat=v.length:=by omega
       rw[hi2,ψ] at he3;rw[hi2] at ho3;have hun:=ho3 (j+v.length) (.inr (ξ _));have du:=dB hW2 (j+v.length);have hXs:=@kV W2 j v.length;have hc2:c2 % 4294967296=c2:=by omega
       rw[hc2,hun];have hF:ou (R2.set (j+v.length) ((bN W2 (j+v.length) 0+c2) % 4294967296)):=lK hR2 (by omega) (by omega);have hFl:(R2.set (j+v.length) ((bN W2 (j+v.length) 0+c2) % 4294967296)).length=U.length:=by simp[apA]
       have hFo:∀m,(m<j\/j+(v.length+1)<=m)->bN (R2.set (j+v.length) ((bN W2 (j+v.length) 0+c2) % 4294967296)) m 0=bN U m 0:=λm hm=>by rw[nK (by omega),ho3 m (by omega)];exact ho2 m hm
       have hFv:bX (bM (R2.set (j+v.length) ((bN W2 (j+v.length) 0+c2) % 4294967296)) j (v.length+1))=bX (bM U j (v.length+1)) - gb*bX v+4294967296^(v.length+1)+bX v - 4294967296^(v.length+1)*((bN W2 (j+v.length) 0+c2) / 4294967296):=by
        rw[kV,rB (ξ _),qm (by omega),<-hvW,hXs,γT];generalize (4294967296:Int)^v.length=B at*;have e:B*4294967296*((bN W2 (j+v.length) 0+c2) / 4294967296)=B*(bN W2 (j+v.length) 0+c2 - (bN W2 (j+v.length) 0+c2) % 4294967296):=by rw[δm];congr 1;omega
        rw[e];simp only[εy,εO];omega
       have hbd:=sV hF (j:=j) (k:=v.length+1);have hk:(bN W2 (j+v.length) 0+c2) / 4294967296=1:=by
        by_cases h:(bN W2 (j+v.length) 0+c2) / 4294967296=1;·exact h
        ·have h0:(bN W2 (j+v.length) 0+c2) / 4294967296=0:=by omega
         rw[h0,δJ] at hFv;omega
       rw[hk,ε5] at hFv;have e1:(gb - 1)*bX v=gb*bX v - bX v:=by rw[ζR,εz]
       obtain⟨w1,w2⟩:=sU (q:=gb - 1) (show(gb - 1)*bX v<=bX (bM U j (v.length+1)) by omega) (by rw[show gb - 1+1=gb by omega];exact f5);have azf:0<gb:=by
        by_cases h:0<gb;·exact h
        ·have:gb=0:=by omega
         subst this;omega
       have hfin:R2.set (j+v.length) ((bN W2 (j+v.length) 0+c2) % 4294967296)=iu U j (gk (v.length+1) (bX (bM U j (v.length+1)) % bX v)):=vJ hF hFl (by omega) hFo (by rw[hFv,w2,e1];omega);repeat refine γk (by omega) ?_
       rw[hfin];rfl
   ·obtain⟨k1,k2,k3,k4⟩:=nbr (.inr hc) hb;repeat' refine γk ?_ ?_
    all_goals first|omega|exact k2|exact k3
  ·obtain⟨gg,hgg,f0,f2,f3⟩:=ext hB hc;rw[<-hgg];clear hB hc;clear hgg brk nbr ext hgx hgr;refine⟨?_,?_⟩
   ·repeat' refine γk ?_ ?_
    all_goals first|omega|exact hU|exact f2|exact f3|exact λ_ _=>trivial|(simp only[bX];omega)
   clear f0 f2 f3;rintro⟨i,ga,c,b,R⟩ ⟨⟨i0,i1⟩,⟨ga0,ga1⟩,⟨f2,f3⟩,⟨c0,c1⟩,⟨b0,b1⟩,⟨hR,hRl⟩,ho,he⟩;simp only at i0 i1 ga0 ga1 f2 f3 c0 c1 b0 b1 hR hRl ho he ⊢;refine⟨λilt=>?_,λige=>?_⟩
   ·have x:=dB hv i.toNat;have y:=dB hR (j+i.toNat);have gx0:0<=ga*bN v i.toNat 0:=γu ga0 x.1;have gx1:ga*bN v i.toNat 0<=4294967295*4294967295:=δI (by omega) (by omega) x.1 (by omega);have q1:bN v i.toNat 0 % 18446744073709551616=bN v i.toNat 0:=by omega
    have q2:bN R (j+i.toNat) 0 % 18446744073709551616=bN R (j+i.toNat) 0:=by omega
    have q3:(ga*bN v i.toNat 0 % 18446744073709551616+c) % 18446744073709551616=ga*bN v i.toNat 0+c:=by omega
    have hi1:(i+1).toNat=i.toNat+1:=by omega
    rw[q1,q2,q3,F3 (by omega) (by omega),hi1];generalize hq:((bN R (j+i.toNat) 0 - (ga*bN v i.toNat 0+c) % 4294967296) % 18446744073709551616 - b) % 18446744073709551616=q;obtain⟨k1,k2,k3,k4,k5⟩:=F2 (d:=q % 4294967296) (e:=q / 9223372036854775808) hR hRl hv ga0 ga1 c0 c1 b0 b1 (show j+i.toNat<U.length by omega) ho he (by omega) (by omega);repeat' refine γk ?_ ?_
    all_goals first|omega|exact k1|exact k2|exact k3|exact k4|exact k5|exact f2|exact f3
   ·have hi:i.toNat=v.length:=by omega
    rw[hi,ψ] at he;rw[hi] at ho;have hun:=ho (j+v.length) (.inr (ξ _));have du:=dB hU (j+v.length);have q2:bN R (j+v.length) 0 % 18446744073709551616=bN R (j+v.length) 0:=by rw[hun];omega
    have hXs:=@kV U j v.length;rw[q2];generalize hq:((bN R (j+v.length) 0 - c) % 18446744073709551616 - b) % 18446744073709551616=q;have alQ:ou (R.set (j+v.length) (q % 4294967296)):=lK hR (by omega) (by omega);have hlen:(R.set (j+v.length) (q % 4294967296)).length=U.length:=by simp[hRl]
    have hout:∀m,(m<j\/j+(v.length+1)<=m)->bN (R.set (j+v.length) (q % 4294967296)) m 0=bN U m 0:=λm hm=>by rw[nK (by omega)];exact ho m (by omega)
    have hval:bX (bM (R.set (j+v.length) (q % 4294967296)) j (v.length+1))=bX (bM U j (v.length+1)) - ga*bX v+4294967296^(v.length+1)*(q / 9223372036854775808):=by
     rw[kV,rB (ξ _),qm (by omega),he,hXs,γT];have hd:q % 4294967296 - 4294967296*(q / 9223372036854775808)=bN U (j+v.length) 0 - c - b:=by rw[hun] at hq;omega
     generalize (4294967296:Int)^v.length=B;have e:B*4294967296*(q / 9223372036854775808)=B*(q % 4294967296+c+b - bN U (j+v.length) 0):=by rw[δm];congr 1;omega
     rw[e];simp only[εy,εO];omega
    generalize hW:R.set (j+v.length) (q % 4294967296)=W at*;have hbd:=sV alQ (j:=j) (k:=v.length+1);have hnn:=el (rA alQ (j:=j) (k:=v.length+1));have q3:0<=q/\q<18446744073709551616:=by omega
    clear hq hun du q2 he ho hR;repeat refine γk (by omega) ?_
    refine⟨λhz=>?_,λhz=>?_⟩
    ·rw[hz,δJ,εj] at hval;obtain⟨w1,w2⟩:=sU (q:=ga) (show ga*bX v<=bX (bM U j (v.length+1)) by omega) f2;refine⟨by rw[w1];omega,?_⟩;have hfin:W=iu U j (gk (v.length+1) (bX (bM U j (v.length+1)) % bX v)):=vJ alQ hlen (by omega) hout (by rw[hval,w2]);rw[hfin];rfl
    ·have hq1:q / 9223372036854775808=1:=by omega
     rw[hq1,ε5] at hval;have f4:bX (bM U j (v.length+1))<ga*bX v:=by omega
     refine⟨?_,?_⟩
     ·repeat' refine γk ?_ ?_
      all_goals first|omega|exact alQ|exact hlen|exact⟨W,⟨alQ,hlen⟩,hout,hval,λ_ _=>rfl,by simp only[bX]⟩
     clear alQ hlen hout hval hW hbd hnn q3 hz hq1 f4 f2 f3 c0 c1 b0 b1 i0 i1 ga0 ga1;rintro⟨i2,gb,c2,R2⟩ ⟨⟨i0,i1⟩,⟨gb0,gb1⟩,⟨f5,f6⟩,⟨c0,c1⟩,⟨hR2,apA⟩,W2,⟨hW2,arZ⟩,ho2,hvW,ho3,he3⟩;simp only at i0 i1 gb0 gb1 f5 f6 c0 c1 hR2 apA ho3 he3 ⊢;refine⟨λilt=>?_,λige=>?_⟩
     ·have x:=dB hv i2.toNat;have y:=dB hR2 (j+i2.toNat);have hi1:(i2+1).toNat=i2.toNat+1:=by omega
      rw[hi1];have hs:((bN R2 (j+i2.toNat) 0 % 18446744073709551616+bN v i2.toNat 0 % 18446744073709551616) % 18446744073709551616+c2) % 18446744073709551616=bN R2 (j+i2.toNat) 0+bN v i2.toNat 0+c2:=by omega
      rw[hs];obtain⟨k1,k2,k3,k4,k5⟩:=F1 hR2 (apA.trans arZ.symm) hv c0 c1 (show j+i2.toNat<W2.length by omega) hW2 ho3 he3 rfl;repeat' refine γk ?_ ?_
      all_goals first|omega|exact k1|exact f5|exact f6|exact⟨W2,⟨hW2,arZ⟩,ho2,hvW,k4,k5⟩
     ·have hi2:i2.toNat=v.length:=by omega
      rw[hi2,ψ] at he3;rw[hi2] at ho3;have hun:=ho3 (j+v.length) (.inr (ξ _));have du:=dB hW2 (j+v.length);have hXs:=@kV W2 j v.length;have hc2:c2 % 4294967296=c2:=by omega
      rw[hc2,hun];have hF:ou (R2.set (j+v.length) ((bN W2 (j+v.length) 0+c2) % 4294967296)):=lK hR2 (by omega) (by omega);have hFl:(R2.set (j+v.length) ((bN W2 (j+v.length) 0+c2) % 4294967296)).length=U.length:=by simp[apA]
      have hFo:∀m,(m<j\/j+(v.length+1)<=m)->bN (R2.set (j+v.length) ((bN W2 (j+v.length) 0+c2) % 4294967296)) m 0=bN U m 0:=λm hm=>by rw[nK (by omega),ho3 m (by omega)];exact ho2 m hm
      have hFv:bX (bM (R2.set (j+v.length) ((bN W2 (j+v.length) 0+c2) % 4294967296)) j (v.length+1))=bX (bM U j (v.length+1)) - gb*bX v+4294967296^(v.length+1)+bX v - 4294967296^(v.length+1)*((bN W2 (j+v.length) 0+c2) / 4294967296):=by
       rw[kV,rB (ξ _),qm (by omega),<-hvW,hXs,γT];generalize (4294967296:Int)^v.length=B at*;have e:B*4294967296*((bN W2 (j+v.length) 0+c2) / 4294967296)=B*(bN W2 (j+v.length) 0+c2 - (bN W2 (j+v.length) 0+c2) % 4294967296):=by rw[δm];congr 1;omega
       rw[e];simp only[εy,εO];omega
      have hbd:=sV hF (j:=j) (k:=v.length+1);have hk:(bN W2 (j+v.length) 0+c2) / 4294967296=1:=by
       by_cases h:(bN W2 (j+v.length) 0+c2) / 4294967296=1;·exact h
       ·have h0:(bN W2 (j+v.length) 0+c2) / 4294967296=0:=by omega
        rw[h0,δJ] at hFv;omega
      rw[hk,ε5] at hFv;have e1:(gb - 1)*bX v=gb*bX v - bX v:=by rw[ζR,εz]
      obtain⟨w1,w2⟩:=sU (q:=gb - 1) (show(gb - 1)*bX v<=bX (bM U j (v.length+1)) by omega) (by rw[show gb - 1+1=gb by omega];exact f5);have azf:0<gb:=by
       by_cases h:0<gb;·exact h
       ·have:gb=0:=by omega
        subst this;omega
      have hfin:R2.set (j+v.length) ((bN W2 (j+v.length) 0+c2) % 4294967296)=iu U j (gk (v.length+1) (bX (bM U j (v.length+1)) % bX v)):=vJ hF hFl (by omega) hFo (by rw[hFv,w2,e1];omega);repeat refine γk (by omega) ?_
      rw[hfin];rfl
def jo (D:Int->Int) (x y:Int):Bool:=decide (D y<D x)||(decide (D x=D y)&&decide (x<=y))
theorem xM {D:Int->Int} {x y:Int}:jo D x y=true↔D y<D x\/(D x=D y/\x<=y):=by grind[jo]
theorem MH {D:Int->Int} (a b c:Int) (d:jo D a b=true) (e:jo D b c=true):jo D a c=true:=by
 grind[xM]
theorem Vg {D:Int->Int} (a b:Int):(jo D a b||jo D b a)=true:=by
 grind[xM]
theorem Vf {D:Int->Int} {a b:Int} (c:jo D a b=true) (d:jo D b a=true):a=b:=by
 grind[xM]
abbrev sm (D:Int->Int) (l:List Int):Prop:=l.Pairwise λa b=>jo D a b=true
def dr (D:Int->Int) (l:List Int):List Int:=l.mergeSort (jo D)
theorem xL {D:Int->Int} {l:List Int}:(dr D l).Perm l:=δx _ _
theorem MG {D:Int->Int} {l:List Int}:sm D (dr D l):=List.pairwise_mergeSort MH Vg l
theorem ql {D:Int->Int} {l:List Int}:(dr D l).length=l.length:=xL.length_eq
theorem Ey {D:Int->Int} {l:List Int} {x:Int}:x∈dr D l↔x∈l:=xL.mem_iff
theorem MF {D:Int->Int} {l m:List Int} (e:m.Perm l) (f:sm D m):m=dr D l:=
 List.Perm.eq_of_pairwise (λa b _ _ c d=>Vf c d) f MG (e.trans xL.symm)
theorem Ve {D:Int->Int} {l:List Int} (h:sm D l):dr D l=l:=(MF (ζP _) h).symm
def cZ (l:List Int) (a b:Nat):List Int:=(l.drop a).take (b - a)
def f_ (D:Int->Int) (l:List Int) (a b:Nat):List Int:=l.take a++dr D (cZ l a b)++l.drop b
theorem sT {l:List Int} {a b:Nat} (c:a<=b) (d:b<=l.length):(cZ l a b).length=b - a:=by
 grind[cZ]
theorem Ex {l:List Int} {a b:Nat} (c:a<=b) (d:b<l.length):cZ l a (b+1)=cZ l a b++[bN l b 0]:=by
 unfold cZ;rw[show b+1 - a=(b - a)+1 by omega,List.take_succ_eq_append_getElem (by grind),List.getElem_drop];grind[b_]
theorem ME {l:List Int} {a:Nat}:cZ l a a=[]:=by grind[cZ]
theorem MD {D:Int->Int} {l:List Int} {a b:Nat} (c:a<=b) (d:b<=l.length):(f_ D l a b).length=l.length:=by
 grind[f_,ql,sT]
theorem MC {l:List Int} {i:Nat} (h:i<l.length):l.drop i=bN l i 0::l.drop (i+1):=by
 simp_all[b_]
theorem MB {D:Int->Int} {l:List Int} {a:Nat}:f_ D l a a=l:=by
 simp_all[f_,ME,dr]
theorem Vd {D:Int->Int} {l:List Int} {a:Nat} (h:a<l.length):f_ D l a (a+1)=l:=by
 have e:cZ l a (a+1)=[bN l a 0]:=by grind[Ex,ME]
 unfold f_;rw[e,Ve (by simp),γC];simp only[List.singleton_append];rw[<-MC h,γP]
def kc (D:Int->Int) (l:List Int) (a i j:Nat):List Int:=l.take a++((dr D (cZ l a i)).take (j - a)++bN l i 0::(dr D (cZ l a i)).drop (j - a))++l.drop (i+1)
theorem Vb {D:Int->Int} {l:List Int} {a i j:Nat} (b:a<=i) (c:i<l.length):(kc D l a i j).length=l.length:=by
 grind[ql,sT,kc]
theorem Va {D:Int->Int} {l:List Int} {a i:Nat} (b:a<=i) (c:i<l.length):kc D l a i i=f_ D l a i:=by
 grind[ql,sT,kc,f_,MC]
theorem U_ {A B:List Int} {y x:Int}:((A++y::x::B).set (A.length+1) y).set A.length x=A++x::y::B:=by
 simp_all
theorem U9 {A B:List Int} {y:Int}:bN (A++y::B) A.length 0=y:=by grind[bN]
theorem U8 {A B:List Int} {y x:Int}:bN (A++y::x::B) (A.length+1) 0=x:=by grind[bN]
theorem U7 {D:Int->Int} {l:List Int} {a i k:Nat} (c:a+k+1<=i) (d:i<l.length):
  kc D l a i (a+k+1)=(l.take a++(dr D (cZ l a i)).take k)++bN (dr D (cZ l a i)) k 0::bN l i 0::((dr D (cZ l a i)).drop (k+1)++l.drop (i+1))/\
  kc D l a i (a+k)=(l.take a++(dr D (cZ l a i)).take k)++bN l i 0::bN (dr D (cZ l a i)) k 0::((dr D (cZ l a i)).drop (k+1)++l.drop (i+1))/\
  (l.take a++(dr D (cZ l a i)).take k).length=a+k:=by
 have b:=@ql D (cZ l a i);rw[sT (by omega) (by omega)] at b;have e:k<(dr D (cZ l a i)).length:=by omega
 have g:(dr D (cZ l a i)).take (k+1)=(dr D (cZ l a i)).take k++[bN (dr D (cZ l a i)) k 0]:=by simp_all[b_]
 have f:(dr D (cZ l a i)).drop k=bN (dr D (cZ l a i)) k 0::(dr D (cZ l a i)).drop (k+1):=by simp_all[b_]
 grind[kc]
theorem U6 {D:Int->Int} {l:List Int} {a i j:Nat} (g:a<j) (f:j<=i) (d:i<l.length):
  bN (kc D l a i j) j 0=bN l i 0/\bN (kc D l a i j) (j - 1) 0=bN (dr D (cZ l a i)) (j - 1 - a) 0/\
  ((kc D l a i j).set j (bN (dr D (cZ l a i)) (j - 1 - a) 0)).set (j - 1) (bN l i 0)=kc D l a i (j - 1):=by
 obtain⟨b,c,e⟩:=@U7 D l a i (j - 1 - a) (by omega) d;rw[show a+(j - 1 - a)+1=j by omega] at b;rw[show a+(j - 1 - a)=j - 1 by omega] at c e;rw[b,c];generalize l.take a++(dr D (cZ l a i)).take (j - 1 - a)=A at*;generalize bN (dr D (cZ l a i)) (j - 1 - a) 0=y at*;generalize bN l i 0=x at*;grind[U8,U9,U_]
theorem U5 {D:Int->Int} {S:List Int} {x:Int} {k:Nat} (n:sm D S) (d:∀s∈S.drop k,jo D x s=true) (b:k=0\/(k<=S.length/\jo D (bN S (k - 1) 0) x=true)):sm D (S.take k++x::S.drop k):=by
 have a:sm D (S.take k++S.drop k):=by simp_all
 obtain⟨g,f,i⟩:=δG.1 a;have j:∀s∈S.take k,jo D s x=true:=by
  rcases b with rfl|⟨h,b⟩;·simp
  ·intro s l;by_cases m:k=0;·simp_all
   have c:k - 1<S.length:=by omega
   have e:S.take k=S.take (k - 1)++[bN S (k - 1) 0]:=by
    conv=>lhs;rw[show k=(k - 1)+1 by omega]
    simp_all[b_]
   grind[MH]
 rw[sm,δG];simp_all
theorem U4 {S:List Int} {x:Int} {k:Nat}:(S.take k++x::S.drop k).Perm (S++[x]):=by
 refine(List.perm_middle).trans ?_;rw[γP];grind
theorem U3 {D:Int->Int} {l:List Int} {a i j:Nat} (k:a<=j) (f:j<=i) (e:i<l.length) (b:∀s∈(dr D (cZ l a i)).drop (j - a),jo D (bN l i 0) s=true) (g:j=a\/jo D (bN (dr D (cZ l a i)) (j - 1 - a) 0) (bN l i 0)=true):
  kc D l a i j=f_ D l a (i+1):=by
 have c:=@ql D (cZ l a i);rw[sT (by omega) (by omega)] at c;have d:sm D ((dr D (cZ l a i)).take (j - a)++bN l i 0::(dr D (cZ l a i)).drop (j - a)):=by
  refine U5 MG b ?_;grind
 have h:((dr D (cZ l a i)).take (j - a)++bN l i 0::(dr D (cZ l a i)).drop (j - a)).Perm (cZ l a (i+1)):=by
  rw[Ex (by omega) e];exact U4.trans (List.Perm.append xL (ζP _))
 grind[kc,f_,MF]
def Ew:M9:=⟨150,Int,.one (dX .i64),λ_=>True,λ_=> .sb false⟩
theorem Iw:Holds Tryz.prog Ew:=by
 refine bI (L:=[]) Ew lk (by simp) ?_;rintro(x:Int) -;refine NH ((SV.sb (decide (x≠x))).bi (SV.sb false)) (by kernel_rfl) ?_;simp_all
def vI (x y:Int):Int:=if x<y then -1 else if y<x then 1 else 0
def Eu:M9:=⟨113,Int×Int,.cons (dX .i64) (.one (dX .i64)),λ_=>True,λa=> .si .i64 (vI a.1 a.2)⟩
theorem IA:Holds Tryz.prog Eu:=by
 refine bI (L:=[Ew]) Eu lk (by grind[Iw]) ?_;rintro⟨x,y⟩ -;refine NH (let b:=γv .i64;let c:=γv .i64 0;let a:=γf .i64 (vI x y);True/\True/\(false=true->(false=true->(b 0).bi a)/\(false=false->(b (-1:Int)).bi a))/\(false=false->(false=true->(b 1).bi a)/\(false=false->(decide (x<y)=true->(b (-1:Int)).bi a)/\(decide (x<y)=false->(decide (y<x)=true->(b 1).bi a)/\(decide (y<x)=false->(b 0).bi a))))) (by kernel_rfl) ?_;simp_all[vI,if_neg]
def sS (b:zi):Int:=b.a0+b.a1+b.a2+b.a3+b.a4+b.a5
def Et:M9:=⟨114,zi,.one (dy .bun),λb=>b.ok=true,λb=> .si .i64 (sS b)⟩
theorem Iz:Holds Tryz.prog Et:=by
 refine bI (L:=[]) Et (λ_ _=> .apq 7) (by simp) ?_;rintro(b:zi) (h:b.ok=true);have h:=zi.hJ.1 h;refine NH (let d:=VI .i64;let a:=(0:Int)+b.a0+b.a1;let c:=a+b.a2+b.a3+b.a4;d ((0:Int)+b.a0)/\d a/\d (a+b.a2)/\d (a+b.a2+b.a3)/\d c/\d (c+b.a5)/\(γf .i64 (c+b.a5)).bi (γf .i64 (sS b))) (by kernel_rfl) ?_;simp only[vcs];unfold sS;omega
def oI (p:cj) (i:Int):bC:=bN p.bj i.toNat ew.bu.bw
def pE (p:cj) (i:Int):Int:=(oI p i).value
def od (p:cj) (i:Int):Int:=sS (oI p i).bx
def eC (p:cj) (i:Int):Int:=pE p i*(5354228880 / od p i)
def ll (p:cj) (i:Int):Prop:=0<=i/\i<p.bj.length
theorem xK {p:cj} (b:nW p=0) {i:Int} (h:ll p i):(1<=pE p i/\pE p i<=1000000)/\(1<=od p i/\od p i<=24)/\(oI p i).bx.ok=true:=by
 obtain⟨j,k⟩:=h;have c:=cE (d:=ew.bu.bw) (show i.toNat<p.bj.length by omega);have a:=(cT b).2.2.2.2 _ c;have g:=(AK ((rF b).2 _ c)).2.1;have e:=zi.hJ.1 a.2.2.1;have f:¬((oI p i).bx.a0=0/\(oI p i).bx.a1=0/\(oI p i).bx.a2=0/\(oI p i).bx.a3=0/\(oI p i).bx.a4=0/\(oI p i).bx.a5=0):=λh=>g (AS.2 h);have e:(0<=(oI p i).bx.a0/\(oI p i).bx.a0<=4)/\(0<=(oI p i).bx.a1/\(oI p i).bx.a1<=4)/\(0<=(oI p i).bx.a2/\(oI p i).bx.a2<=4)/\(0<=(oI p i).bx.a3/\(oI p i).bx.a3<=4)/\(0<=(oI p i).bx.a4/\(oI p i).bx.a4<=4)/\(0<=(oI p i).bx.a5/\(oI p i).bx.a5<=4):=e;refine⟨⟨a.2.2.2.1,a.2.2.2.2⟩,?_,a.2.2.1⟩;unfold od sS;omega
theorem MA {t:Int} (a:1<=t) (b:t<=24):t*(5354228880 / t)=5354228880/\1<=5354228880 / t:=by
 have:t=1\/t=2\/t=3\/t=4\/t=5\/t=6\/t=7\/t=8\/t=9\/t=10\/t=11\/t=12\/t=13\/t=14\/t=15\/t=16\/t=17\/t=18\/t=19\/t=20\/t=21\/t=22\/t=23\/t=24:=by omega
 rcases this with rfl|rfl|rfl|rfl|rfl|rfl|rfl|rfl|rfl|rfl|rfl|rfl|rfl|rfl|rfl|rfl|rfl|rfl|rfl|rfl|rfl|rfl|rfl|rfl<;>decide
theorem U2 {p:cj} (g:nW p=0) {x y:Int} (j:ll p x) (i:ll p y):eC p x<eC p y↔pE p x*od p y<pE p y*od p x:=by
 obtain⟨m,e,_⟩:=xK g j;obtain⟨u,f,_⟩:=xK g i;obtain⟨v,q⟩:=MA e.1 e.2;obtain⟨o,r⟩:=MA f.1 f.2;unfold eC;generalize 5354228880 / od p x=d at*;generalize 5354228880 / od p y=c at*;generalize pE p x=a at*;generalize pE p y=b at*;generalize od p x=s at*;generalize od p y=t at*;have k:0<d*c:=Int.mul_pos (by omega) (by omega);have l:(a*t)*(d*c)=(a*d)*5354228880:=by grind
 have n:(b*s)*(d*c)=(b*c)*5354228880:=by grind
 constructor
 ·intro h;have:(a*t)*(d*c)<(b*s)*(d*c):=by omega
  exact Int.lt_of_mul_lt_mul_right this (by omega)
 ·intro h;have:(a*t)*(d*c)<(b*s)*(d*c):=Int.mul_lt_mul_of_pos_right h k;omega
def xJ (p:cj) (x y:Int):Int:=vI (pE p y*od p x) (pE p x*od p y)
theorem U1 {p:cj} (a:nW p=0) {x y:Int} (c:ll p x) (b:ll p y):xJ p x y<0↔eC p y<eC p x:=by
 rw[U2 a b c];grind[xJ,vI]
def Es:cU where
 f:=112;α:=Int×Int×cj;put a:=[.si .i64 a.1,.si .i64 a.2.1,.ptr 0 0 20];st a:=[.cells a.2.2.ss 27 20 false];dec v o:=match v,o with
  |[x,y,.ptr 0 0 20],[.cells cs 27 20 false]=>match x.int .i64,y.int .i64,tH cs with
   |some x,some y,some p=>some (x,y,p)
   |_,_,_=>none
  |_,_=>none;ok v o a h:=by
  split at h
  ·split at h
   ·rename_i h1 h2 h3;simp only[γ] at h;subst h;refine⟨by simp only[gL,gS h1,gS h2];rfl,?_⟩;simp only[gO,π,γr,iZ.g,xo h3]
   ·cases h
  ·cases h
 inj a b h1 h2:=by
  simp only[gL,Δ,and_true,γE,δf,Value.int.injEq,true_and] at h1;simp only[gO,π,γr,iZ.g,Δ,OL.cells.injEq,and_true] at h2;have h3:=cO.inj a.2.2 b.2.2 (by simp only[cO,γE,h2]);exact εF h1.1 (εF h1.2 h3)
 dom a:=nW a.2.2=0/\ll a.2.2 a.1/\ll a.2.2 a.2.1;res a:=.si .i64 (xJ a.2.2 a.1 a.2.1);out a:=[.cells a.2.2.ss 27 20 false]
theorem IB:dA Tryz.prog Es:=by
 refine kq (L:=[Et,Eu]) (W:=[]) Es lk (by simp) (by grind[Iz,IA]) ?_;rintro⟨x,y,p⟩ ⟨f,e,c⟩;refine NH (let a:=ew.bu.bw;let d:=p.bj.length;let g:=bN p.bj x.toNat a;let h:=bN p.bj y.toNat a;let k:=h.value*sS g.bx;let l:=g.value*sS h.bx;let j:=iZ.cells (cj.ss p) 27 20 false;(0:Int)<=x/\x<(↑d:Int)/\x.toNat<d/\(0:Int)<=y/\y<(↑d:Int)/\y.toNat<d/\g.bx.ok=true/\VI .i64 k/\h.bx.ok=true/\VI .i64 l/\True/\(γf .i64 (vI k l)).bi (γf .i64 (xJ p x y))/\j.bi j/\True) (by kernel_rfl) ?_;simp only[vcs];have f:nW p=0:=f;have e:ll p x:=e;have c:ll p y:=c;obtain⟨s,w,q⟩:=xK f e;obtain⟨m,A,z⟩:=xK f c;obtain⟨o,n⟩:=e;obtain⟨B,r⟩:=c;have i:∀{v t:Int},1<=v/\v<=1000000->1<=t/\t<=24-> -9223372036854775808<=v*t/\v*t<=9223372036854775807:=λ{v t} C u=>by
  have a:=γu (show 0<=v by omega) (show 0<=t by omega);have b:=δI C.2 u.2 (by omega) (show(0:Int)<=1000000 by omega);omega
 exact⟨o,n,by omega,B,r,by omega,q,i m w,z,i s A,rfl⟩
def vH:Nat->List SV->Option (List Int)
 |0,[.fn (.func 112) [] [.ptr 1 0 20]]=>some []
 |k+1,x::r=>match x.int .i64,vH k r with
  |some n,some l=>some (n::l)
  |_,_=>none
 |_,_=>none
theorem Mz:∀{k:Nat} {r:List SV} {l:List Int},vH k r=some l->gL r=gL (l.map (γf .i64)++[.fn (.func 112) [] [.ptr 1 0 20]])
 |0,r,l,h=>by
  unfold vH at h;split at h;·simp only[γ] at h;subst h;rfl
  ·rename_i h0;cases h0
  ·cases h;|k+1,[],l,h=>by simp[vH] at h;|k+1,x::r,l,h=>by
  simp only[vH] at h;split at h
  ·rename_i n l' h1 h2;simp only[γ] at h;subst h;simp only[gL,π,γI,Mz h2,gS h1];rfl
  ·cases h
theorem My:∀{l m:List Int} {z:List SV},l.length=m.length->gL (l.map (γf .i64)++z)=gL (m.map (γf .i64)++z)->l=m
 |[],[],_,_,_=>rfl
 |[],_::_,_,h,_=>by simp at h;|_::_,[],_,h,_=>by simp at h;|x::l,y::m,z,hl,h=>by
  simp only[π,γI,gL,Δ,γE,δf,Value.int.injEq,true_and] at h;rw[h.1,My (by simpa using hl) h.2]
def Er (f:FuncId) (k:Nat) (β:Type) (toL:β->List Int) (ofL:List Int->Option β) (h0:∀b,(toL b).length=k) (h1:∀l b,ofL l=some b->l=toL b) (h2:∀b c,toL b=toL c->b=c) (dom:(Nat×List Int×cj)×β->Prop) (out:(Nat×List Int×cj)×β->List Int):cU where
 f:=f;α:=(Nat×List Int×cj)×β;put a:=.ow 0 a.1.1 1::((toL a.2).map (γf .i64)++[.fn (.func 112) [] [.ptr 1 0 20]]);st a:=[.row (.i .i64) a.1.2.1 3 true,.cells a.1.2.2.ss 27 20 false];dec v o:=match v,o with
  | .ow 0 n 1::r,[.row t l 3 true,.cells cs 27 20 false]=>match vH k r,gG t (.i .i64) l,tH cs with
   |some xs,some l,some p=>match ofL xs with
    |some b=>some ((n,l,p),b)
    |none=>none
   |_,_,_=>none
  |_,_=>none;ok v o a h:=by
  split at h
  ·split at h
   ·rename_i h3 h4 h5;split at h
    ·rename_i b hb;simp only[γ] at h;subst h;obtain⟨rfl,hh⟩:=lF h4;cases hh;have:=h1 _ _ hb;subst this;refine⟨by simp only[gL,Mz h3],?_⟩;simp only[gO,π,γr,iZ.g,xo h5]
    ·cases h
   ·cases h
  ·cases h
 inj a b e1 e2:=by
  obtain⟨⟨n,l,p⟩,x⟩:=a;obtain⟨⟨n',l',p'⟩,x'⟩:=b;simp only[gL,Δ,γE,εA,true_and] at e1;simp only[gO,π,γr,iZ.g,Δ,OL.cells.injEq,and_true,true_and] at e2;have h3:p=p':=cO.inj p p' (by simp only[cO,γE,e2.2]);have h4:l=l':=by
   have hf:=congrArg γb e2.1;rw[ec,ec] at hf;exact ku (.i .i64) (by simpa[ew.sz] using hf) e2.1
  have h5:x=x':=h2 _ _ (My (by rw[h0,h0]) e1.2);rw[e1.1.1,h3,h4,h5]
 dom:=dom;res _:=.Gz [];out a:=[.row (.i .i64) (out a) 3 true,.cells a.1.2.2.ss 27 20 false]
abbrev Srg:=Nat×List Int×cj
def wz (b:Int×Int):List Int:=[b.1,b.2]
def Cc:List Int->Option (Int×Int)
 |[a,b]=>some (a,b)
 |_=>none
theorem U0:∀l b,Cc l=some b->l=wz b:=λl b h=>by
 unfold Cc at h;split at h;·simp only[γ] at h;subst h;rfl
 ·cases h
theorem UZ:∀b c,wz b=wz c->b=c:=λb c h=>by
 unfold wz at h;simp only[Δ,and_true] at h;exact εF h.1 h.2
def sQ (a:Srg):Prop:=(nW a.2.2=0/\a.1=a.2.1.length)/\a.2.1.length<=1000/\∀x∈a.2.1,ll a.2.2 x
def Ep (l:List Int) (a b:Int):Prop:=0<=a/\a<=b/\b<=l.length
theorem Mx {l m:List Int} (h:l=m):(iZ.row (.i .i64) l 3 true).bi (iZ.row (.i .i64) m 3 true):=by subst h;rfl
def Eo:cU:=Er 172 2 (Int×Int) wz Cc (λ_=>rfl) U0 UZ (λa=>sQ a.1/\Ep a.1.2.1 a.2.1 a.2.2/\(cZ a.1.2.1 a.2.1.toNat a.2.2.toNat).Pairwise (·<·)) λa=>f_ (eC a.1.2.2) a.1.2.1 a.2.1.toNat a.2.2.toNat
def UY (n:Nat) (l:List Int) (p:cj) (a b:Int):Nat->bG
 |1=> .inv (Int×List Int) (λx=>⟨[(0,.ow 0 n 1),(1,.si .i64 a),(2,.si .i64 b),(3,.fn (.func 112) [] [.ptr 1 0 20]),(8,.si .i64 x.1)],[.row (.i .i64) x.2 3 true,.cells p.ss 27 20 false]⟩) (λs=>(iS s 8,oS (.i .i64) s 0))
   (λx=>(a<x.1/\(x.1<=b\/x.1=a+1))/\x.2=f_ (eC p) l a.toNat (if a<b then x.1 else a).toNat) (λx=>(b - x.1).toNat) λx k=>match k with
    |4=> .inv (Int×List Int) (λy=>⟨[(0,.ow 0 n 1),(1,.si .i64 a),(2,.si .i64 b),(3,.fn (.func 112) [] [.ptr 1 0 20]),(8,.si .i64 x.1),(9,.si .i64 y.1)],[.row (.i .i64) y.2 3 true,.cells p.ss 27 20 false]⟩) (λs=>(iS s 9,oS (.i .i64) s 0))
      (λy=>(a<=y.1/\y.1<=x.1)/\y.2=kc (eC p) l a.toNat x.1.toNat y.1.toNat/\∀s∈(dr (eC p) (cZ l a.toNat x.1.toNat)).drop (y.1 - a).toNat,jo (eC p) (bN l x.1.toNat 0) s=true) (λy=>(y.1 - a).toNat) λ_ _=> .look
    |_=> .look
 |_=> .look
theorem Is:dA Tryz.prog Eo:=by
 refine kq (L:=[]) (W:=[Es]) Eo (λa=>UY a.1.1 a.1.2.1 a.1.2.2 a.2.1 a.2.2) (by simpa using IB) (by simp) ?_;rintro⟨⟨n,l,p⟩,a,b⟩ ⟨⟨⟨hc,hn⟩,hl,ho⟩,⟨a0,a1,a2⟩,hi⟩;refine NH (let c:=γf .i64;let d:=(0:Int);let e:=VI .i64;let f:=iZ.row;let g:=(1:Int);let m:=a+g;let o:=γW 0 n 1;let q:=SV.fn (Fn.func 112) [] [γK 1 0 20];let E:=c m;let w:=ew.i .i64;let F:=f w l 3 true;let k:=iZ.cells [c p.bm.a0,c p.bm.a1,c p.bm.a2,c p.bm.a3,c p.bm.a4,c p.bm.a5,c p.bs.a0,c p.bs.a1,c p.bs.a2,c p.bs.a3,c p.bs.a4,c p.bs.a5,c p.bt.a0,c p.bt.a1,c p.bt.a2,c p.bt.a3,c p.bt.a4,c p.bt.a5,Ψ w p.bk,Ψ ew.bu p.bj] 27 20 false;e m/\(((o.bi o/\(c a).bi (c a)/\(c b).bi (c b)/\q.bi q/\E.bi E/\True)/\F.bi F/\k.bi k/\True)/\(a<m/\(m<=b\/m=m))/\l=f_ (eC p) l a.toNat (if a<b then m else a).toNat)/\∀(x:Int×List Int),let y:=c x.1;let B:=f w x.2 3 true;let r:=x.1.toNat;let C:=dr (eC p) (cZ l a.toNat r);let t:=x.1+g;let G:=c t;let N:=f_ (eC p) l a.toNat (if a<b then t else a).toNat;(a<x.1/\(x.1<=b\/x.1=m))/\x.2=f_ (eC p) l a.toNat (if a<b then x.1 else a).toNat->(decide (x.1<b)=true->(((o.bi o/\(c a).bi (c a)/\(c b).bi (c b)/\q.bi q/\y.bi y/\y.bi y/\True)/\B.bi B/\k.bi k/\True)/\(a<=x.1/\x.1<=x.1)/\x.2=kc (eC p) l a.toNat r r/\∀(s:Int),s∈γ3 (x.1 - a).toNat C->jo (eC p) (bN l r d) s=true)/\∀(x_1:Int×List Int),let H:=f w x_1.2 3 true;let v:=x_1.1.toNat;let D:=bN x_1.2 v d;let j:=x_1.1 - g;let z:=j.toNat;let A:=bN x_1.2 z d;let h:=x_1.2.length;let z23:Nat:=(x_1.2.set v A).length;let I:=c j;let J:=(x_1.2.set v A).set z D;let K:=f w J 3 true;let L:=e t/\((o.bi o/\(c a).bi (c a)/\(c b).bi (c b)/\q.bi q/\G.bi G/\True)/\H.bi H/\k.bi k/\True)/\((a<t/\(t<=b\/t=m))/\x_1.2=N)/\(b - t).toNat<(b - x.1).toNat;let M:=λ(u:Bool) ↦decide (xJ p D A<d)=u;((a<=x_1.1/\x_1.1<=x.1)/\x_1.2=kc (eC p) l a.toNat r v/\∀(s:Int),s∈γ3 (x_1.1 - a).toNat C->jo (eC p) (bN l r d) s=true)->(decide (a<x_1.1)=true->n=h/\d<=x_1.1/\x_1.1<(↑h:Int)/\n=h/\v<h/\e j/\n=h/\d<=j/\j<(↑h:Int)/\n=h/\z<h/\(nW p=d/\ll p D/\ll p A)/\(M true->e j/\e j/\n=h/\d<=j/\j<(↑h:Int)/\n=h/\z<h/\n=h/\d<=x_1.1/\x_1.1<(↑h:Int)/\n=h/\v<h/\n=h/\d<=x_1.1/\x_1.1<(↑h:Int)/\n=h/\v<h/\n=z23/\d<=j/\j<(↑z23:Int)/\n=z23/\z<z23/\e j/\((o.bi o/\(c a).bi (c a)/\(c b).bi (c b)/\q.bi q/\y.bi y/\I.bi I/\True)/\K.bi K/\k.bi k/\True)/\((a<=j/\j<=x.1)/\J=kc (eC p) l a.toNat r z/\∀(s:Int),s∈γ3 (j - a).toNat C->jo (eC p) (bN l r d) s=true)/\(j - a).toNat<(x_1.1 - a).toNat)/\(M false->L))/\(decide (a<x_1.1)=false->L))/\(decide (x.1<b)=false->(SV.Gz []).bi (SV.Gz [])/\B.bi (f w (f_ (eC p) l a.toNat b.toNat) 3 true)/\k.bi k/\True)) (by kernel_rfl) ?_;simp only[vcs];have hc:nW p=0:=hc;have hn:n=l.length:=hn;have hl:l.length<=1000:=hl;have ho:∀x∈l,ll p x:=ho;have a0:0<=a:=a0;have a1:a<=b:=a1;have a2:b<=l.length:=a2;have hi:(cZ l a.toNat b.toNat).Pairwise (·<·):=hi;generalize hD:eC p=D at*;have sl:∀{i:Int},a<=i->i<=b->(f_ D l a.toNat i.toNat).length=l.length:=λh1 h2=>MD (by omega) (by omega);refine⟨by omega,⟨⟨by omega,.inr trivial⟩,?_⟩,?_⟩
 ·by_cases hab:a<b;·rw[if_pos hab,show(a+1).toNat=a.toNat+1 by omega,Vd (by omega)]
  ·rw[if_neg hab,MB]
 rintro⟨i,m⟩ ⟨⟨i0,i1⟩,hm⟩;simp only at i0 i1 hm ⊢;refine⟨λhib=>?_,λhib=>Mx ?_⟩
 ·rw[if_pos (by omega)] at hm;have hx:=ho _ (cE (d:=(0:Int)) (show i.toNat<l.length by omega));have hS:∀s∈dr D (cZ l a.toNat i.toNat),s<bN l i.toNat 0/\ll p s:=λs hs=>by
   have h1:=Ey.1 hs;have h2:(cZ l a.toNat (i.toNat+1)).Pairwise (·<·):=by
    refine hi.sublist ?_;unfold cZ;exact List.take_sublist_take_left (by omega)
   rw[Ex (by omega) (by omega)] at h2;refine⟨(δG.1 h2).2.2 s h1 _ (by simp),ho s ?_⟩;unfold cZ at h1;exact γV (γl h1)
  have hSl:(dr D (cZ l a.toNat i.toNat)).length=i.toNat - a.toNat:=by rw[ql,sT (by omega) (by omega)]
  have il:∀{j:Nat},(kc D l a.toNat i.toNat j).length=l.length:=λ{j}=>Vb (by omega) (by omega);refine⟨⟨⟨by omega,by omega⟩,?_,?_⟩,?_⟩;·rw[hm,Va (by omega) (by omega)]
  ·intro s hs;rw[List.drop_of_length_le (by omega)] at hs;simp at hs
  rintro⟨j,m2⟩ ⟨⟨j0,j1⟩,hm2,hle⟩;simp only at j0 j1 hm2 hle ⊢;subst hm2;simp only[List.length_set,il];have fin:(j=a\/jo D (bN (dr D (cZ l a.toNat i.toNat)) (j.toNat - 1 - a.toNat) 0) (bN l i.toNat 0)=true)->kc D l a.toNat i.toNat j.toNat=f_ D l a.toNat (if a<b then i+1 else a).toNat:=λh=>by
   rw[if_pos (by omega),show(i+1).toNat=i.toNat+1 by omega];refine U3 (by omega) (by omega) (by omega) ?_ ?_;·rw[show j.toNat - a.toNat=(j - a).toNat by omega];exact hle
   ·rcases h with h|h;·exact .inl (by omega)
    ·exact .inr h
  refine⟨λhj=>?_,λhj=>?_⟩
  ·obtain⟨k1,k2,k3⟩:=@U6 D l a.toNat i.toNat j.toNat (by omega) (by omega) (by omega);have ej:(j - 1).toNat=j.toNat - 1:=by omega
   rw[ej,k1,k2,k3];have hs:=cE (d:=(0:Int)) (show j.toNat - 1 - a.toNat<(dr D (cZ l a.toNat i.toNat)).length by omega);obtain⟨s1,s2⟩:=hS _ hs;have hcmp:=U1 hc hx s2;rw[hD] at hcmp;rw[hcmp];refine⟨by omega,by omega,by omega,by omega,by omega,by omega,by omega,by omega,by omega,by omega,by omega,⟨hc,hx,s2⟩,λh1=>?_,λh1=>?_⟩
   ·repeat' refine γk ?_ ?_
    all_goals first|omega|rfl|skip
    intro s hs2;rw[show(j - 1 - a).toNat=j.toNat - 1 - a.toNat by omega,List.drop_eq_getElem_cons (show j.toNat - 1 - a.toNat<(dr D (cZ l a.toNat i.toNat)).length by omega)] at hs2;rcases List.mem_cons.1 hs2 with rfl|hs2
    ·rw[<-b_ (d:=(0:Int))];exact xM.2 (.inl h1)
    ·refine hle s ?_;rw[show(j - a).toNat=j.toNat - 1 - a.toNat+1 by omega];exact hs2
   ·have:=fin (.inr (xM.2 (by omega)));repeat' refine γk ?_ ?_
    all_goals first|omega|exact this|rfl
  ·have:=fin (.inl (by omega));repeat' refine γk ?_ ?_
   all_goals first|omega|exact this|rfl
 ·rw[hm];by_cases hab:a<b;·rw[if_pos hab,show i=b by omega]
  ·rw[if_neg hab,show a=b by omega]
theorem VH {l:List Int} {a b:Nat} {x:Int} (h:x∈cZ l a b):x∈l:=by
 unfold cZ at h;exact γV (γl h)
theorem VG {D:Int->Int} {l:List Int} {a b:Nat} {x:Int} (h:x∈f_ D l a b):x∈l:=by
 unfold f_ at h;simp only[List.mem_append] at h;rcases h with(h|h)|h;·exact γl h
 ·exact VH (Ey.1 h)
 ·exact γV h
def wA (b:Int):List Int:=[b]
def Cd:List Int->Option Int
 |[a]=>some a
 |_=>none
theorem VF:∀l b,Cd l=some b->l=wA b:=λl b h=>by
 unfold Cd at h;split at h;·simp only[γ] at h;subst h;rfl
 ·cases h
theorem VE:∀b c,wA b=wA c->b=c:=λb c h=>by
 simp_all[wA]
def y6 (_:Unit):List Int:=[]
def Ce:List Int->Option Unit
 |[]=>some ()
 |_=>none
theorem VD:∀l b,Ce l=some b->l=y6 b:=λl b h=>by
 unfold Ce at h;split at h;·rfl
 ·cases h
theorem VC:∀b c,y6 b=y6 c->b=c:=λ_ _ _=>rfl
theorem Mw {D:Int->Int} {l:List Int} {n:Nat} (h:n=l.length):f_ D l 0 n=dr D l:=by
 grind[f_,cZ]
theorem VB {D:Int->Int} {l:List Int} {b c d:Nat} (h:b<=c) (e:b<=l.length):cZ (f_ D l 0 b) c d=cZ l c d:=by
 have a:(dr D (cZ l 0 b)).length=b:=by grind[ql,sT]
 unfold f_;have:(l.take 0++dr D (cZ l 0 b)++l.drop b).drop c=l.drop c:=by
  rw[List.take_zero,δM,List.drop_append,List.drop_eq_nil_of_le (by omega),δM,List.drop_drop,a,show b+(c - b)=c by omega]
 grind[cZ]
def En:cU:=Er 149 1 Int wA Cd (λ_=>rfl) VF VE (λa=>(sQ a.1/\a.1.2.1.Pairwise (·<·))/\a.2=a.1.2.1.length/\a.1.2.1.length<=20) λa=>dr (eC a.1.2.2) a.1.2.1
def VA (n:Nat) (l:List Int) (p:cj):Nat->bG
 |2=> .inv (Int×Int×List Int) (λx=>⟨[(0,.ow 0 n 1),(1,.si .i64 l.length),(2,.fn (.func 112) [] [.ptr 1 0 20]),(6,.si .i64 20),(7,.si .i64 x.1),(8,.si .i64 x.2.1)],[.row (.i .i64) x.2.2 3 true,.cells p.ss 27 20 false]⟩) (λs=>(iS s 7,iS s 8,oS (.i .i64) s 0))
   (λx=>x.2.1=x.1+20/\(x.1=0/\x.2.2=l\/x.1=20/\l.length=20/\x.2.2=f_ (eC p) l 0 20)) (λx=>(1000 - x.1).toNat) λ_ _=> .look
 |7=> .inv (Int×List Int) (λx=>⟨[(0,.ow 0 n 1),(1,.si .i64 l.length),(2,.fn (.func 112) [] [.ptr 1 0 20]),(6,.si .i64 x.1)],[.row (.i .i64) x.2 3 true,.cells p.ss 27 20 false]⟩) (λs=>(iS s 6,oS (.i .i64) s 0))
   (λx=>x.1=20/\x.2=dr (eC p) l) (λx=>(1000 - x.1).toNat) λ_ _=> .look
 |_=> .look
theorem Ix:dA Tryz.prog En:=by
 refine kq (L:=[]) (W:=[Eo]) En (λa=>VA a.1.1 a.1.2.1 a.1.2.2) (by simpa using Is) (by simp) ?_;rintro⟨⟨n,l,p⟩,N⟩ ⟨⟨⟨⟨hc,hn⟩,hl,ho⟩,hi⟩,hN,h20⟩;simp only at hc hn hl ho hi hN h20;subst hN;refine NH (let a:=γf .i64;let b:=(20:Int);let c:=iZ.row;let d:=(0:Int);let e:=γv .i64;let g:=γW 0 n 1;let h:=(↑l.length:Int);let j:=a h;let k:=SV.fn (Fn.func 112) [] [γK 1 0 20];let m:=a 20;let v:=e 0;let o:=ew.i .i64;let w:=c o l 3 true;let f:=iZ.cells [a p.bm.a0,a p.bm.a1,a p.bm.a2,a p.bm.a3,a p.bm.a4,a p.bm.a5,a p.bs.a0,a p.bs.a1,a p.bs.a2,a p.bs.a3,a p.bs.a4,a p.bs.a5,a p.bt.a0,a p.bt.a1,a p.bt.a2,a p.bt.a3,a p.bt.a4,a p.bt.a5,Ψ o p.bk,Ψ ew.bu p.bj] 27 20 false;let s:=f_ (eC p) l 0 20;let t:=dr (eC p) l;(((g.bi g/\j.bi j/\k.bi k/\(e 20).bi m/\v.bi (a 0)/\(e 20).bi m/\True)/\w.bi w/\f.bi f/\True)/\b=b/\(d=d/\l=l\/d=b/\l.length=20/\l=s))/\∀(x:Int×Int×List Int),let y:=decide (x.2.1<=h);let q:=x.1.toNat;let r:=x.2.1+b;let z:=a x.2.1;let A:=a r;let u:=f_ (eC p) x.2.2 q x.2.1.toNat;let B:=c o u 3 true;let C:=f_ (eC p) x.2.2 q h.toNat;let D:=c o C 3 true;x.2.1=x.1+b/\(x.1=d/\x.2.2=l\/x.1=b/\l.length=20/\x.2.2=s)->(y=true->(sQ (n,x.2.2,p)/\Ep x.2.2 x.1 x.2.1/\ζz (λx1 x2 ↦x1<x2) (cZ x.2.2 q x.2.1.toNat))/\VI .i64 r/\((g.bi g/\j.bi j/\k.bi k/\m.bi m/\z.bi z/\A.bi A/\True)/\B.bi B/\f.bi f/\True)/\(r=r/\(x.2.1=d/\u=l\/x.2.1=b/\l.length=20/\u=s))/\((1000:Int) - x.2.1).toNat<((1000:Int) - x.1).toNat)/\(y=false->(sQ (n,x.2.2,p)/\Ep x.2.2 x.1 h/\ζz (λx1 x2 ↦x1<x2) (cZ x.2.2 q h.toNat))/\(((g.bi g/\j.bi j/\k.bi k/\m.bi m/\True)/\D.bi D/\f.bi f/\True)/\b=b/\C=t)/\∀(x:Int×List Int),let E:=c o x.2 3 true;x.1=b/\x.2=t->(decide (x.1<h)=true->VI .i64 ((2:Int)*x.1)/\uf (VK.mk [(0,g),(1,j),(2,k),(6,a x.1),(7,v),(8,a ((2:Int)*x.1))] [E,f]))/\(decide (x.1<h)=false->(SV.Gz []).bi (SV.Gz [])/\E.bi (c o t 3 true)/\f.bi f/\True))) (by kernel_rfl) ?_;simp only[vcs];have pw:∀a b,(cZ l a b).Pairwise (·<·):=λa b=>List.Pairwise.sublist ((List.take_sublist _ _).trans (List.drop_sublist _ _)) hi;have e0:((l.length:Int)).toNat=l.length:=by omega
 rw[e0];refine⟨.inl trivial,?_⟩;rintro⟨a,b,w⟩ ⟨hb,hw⟩;simp only at hb hw ⊢;subst hb;refine⟨λh=>?_,λh=>?_⟩
 ·rcases hw with⟨rfl,rfl⟩|⟨rfl,h2,rfl⟩;·refine⟨⟨⟨⟨hc,hn⟩,hl,ho⟩,⟨?_,?_,?_⟩,pw _ _⟩,?_,.inr ⟨?_,?_,rfl⟩,?_⟩<;>omega
  ·omega
 ·refine⟨?_,?_,?_⟩
  ·rcases hw with⟨rfl,rfl⟩|⟨rfl,h2,rfl⟩;·refine⟨⟨⟨hc,hn⟩,hl,ho⟩,⟨?_,?_,?_⟩,pw _ _⟩<;>omega
   ·have hw:=@MD (eC p) l 0 20 (by omega) (by omega);exact⟨⟨⟨hc,by simp only[hw];exact hn⟩,by simp only[hw];exact hl,λx hx=>ho x (VG hx)⟩,⟨by omega,by omega,by rw[hw];omega⟩,by rw[VB (by omega) (by omega)];exact pw _ _⟩
  ·rcases hw with⟨rfl,rfl⟩|⟨rfl,h2,rfl⟩;·exact Mw rfl
   ·rw[h2];show f_ _ _ 20 20=_;rw[MB];exact Mw h2.symm
  ·rintro⟨s,w⟩ hw;simp only at hw ⊢;exact⟨λh=>by omega,λh=>Mx hw.2⟩
def Em:cU:=Er 111 0 Unit y6 Ce (λ_=>rfl) VD VC (λa=>(sQ a.1/\a.1.2.1.Pairwise (·<·))/\a.1.2.1.length<=20) λa=>dr (eC a.1.2.2) a.1.2.1
theorem IC:dA Tryz.prog Em:=by
 refine kq (L:=[]) (W:=[En]) Em lk (by simpa using Ix) (by simp) ?_;rintro⟨⟨n,l,p⟩,u⟩ ⟨⟨⟨⟨hc,hn⟩,hl,ho⟩,hi⟩,h20⟩;simp only at hc hn hl ho hi h20;refine NH (let a:=iZ.row (ew.i .i64) (dr (eC p) l) 3 true;let b:=iZ.cells (cj.ss p) 27 20 false;((sQ (n,l,p)/\ζz (λx1 x2 ↦x1<x2) l)/\(↑n:Int)=(↑l.length:Int)/\l.length<=20)/\(SV.Gz []).bi (SV.Gz [])/\a.bi a/\b.bi b/\True) (by kernel_rfl) ?_;simp only[vcs];exact⟨⟨⟨⟨hc,hn⟩,hl,ho⟩,hi⟩,by omega,h20⟩
def bP (n:Nat):List Int:=(ω n).map λi:Nat=>(i:Int)
theorem eY {n:Nat}:(bP n).length=n:=by simp[bP]
theorem ob {n:Nat}:bP (n+1)=bP n++[(n:Int)]:=by simp[bP,εg]
theorem pD {n:Nat}:(bP n).Pairwise (·<·):=by
 unfold bP;rw[List.pairwise_map];exact List.pairwise_lt_range.imp λh=>by omega
theorem iF {n:Nat} {x:Int}:x∈bP n↔0<=x/\x<n:=by
 unfold bP;rw[List.mem_map];constructor;·grind
 ·rintro⟨b,a⟩;exact⟨x.toNat,γq.2 (by omega),by omega⟩
def lB (n i:Nat):List Int:=bP i++δ (n - i) 0
theorem Mv {n i:Nat} (h:i<=n):(lB n i).length=n:=by grind[lB,eY]
theorem Vz {n:Nat}:lB n 0=δ n 0:=by simp[lB,bP]
theorem Vy {n:Nat}:lB n n=bP n:=by simp[lB]
theorem Vx {n i:Nat} (h:i<n):(lB n i).set i (i:Int)=lB n (i+1):=by
 unfold lB;rw[List.set_append_right _ _ (by grind[eY]),eY,Nat.sub_self,show n - i=(n - (i+1))+1 by omega,List.replicate_succ,List.set_cons_zero,ob,γC];rfl
def sP (p:cj):List Int:=dr (eC p) (bP p.bj.length)
def El:M9:=⟨76,cj,.one cO,λp=>p.bj.length<=20,λp=> .row (.i .i64) (if nW p=0 then sP p else[])⟩
def Vw (p:cj):Nat->bG
 |5=> .inv Int (λi=>⟨[(1,.ptr 0 0 20),(3,.ow 1 (lB p.bj.length i.toNat).length 1),(13,.si .i64 p.bj.length),(14,.si .i64 i)],[.cells p.ss 27 20 false,.row (.i .i64) (lB p.bj.length i.toNat) 3 true]⟩)
   (λs=>iS s 14) (λi=>0<=i/\i<=p.bj.length) (λi=>(p.bj.length - i).toNat) λ_ _=> .look
 |_=> .look
theorem ID:Holds Tryz.prog El:=by
 refine j9 (L:=[mW]) (W:=fT [Em]) El Vw (kf (by simpa using IC)) (by simpa using oi) ?_;intro(p:cj) (hp:p.bj.length<=20);refine NH (let a:=γf .i64;let b:=(0:Int);let c:=iZ.row;let d:=Ψ;let e:=γW;let r:=decide (nW p≠b);let g:=ew.i .i64;let s:=d g (if nW p=b then sP p else[]);let h:=(↑p.bj.length:Int);let n:=γK 0 0 20;let l:=p.bj.length;let j:=(↑l:Int);let q:=a j;let o:=iZ.cells [a p.bm.a0,a p.bm.a1,a p.bm.a2,a p.bm.a3,a p.bm.a4,a p.bm.a5,a p.bs.a0,a p.bs.a1,a p.bs.a2,a p.bs.a3,a p.bs.a4,a p.bs.a5,a p.bt.a0,a p.bt.a1,a p.bt.a2,a p.bt.a3,a p.bt.a4,a p.bt.a5,d g p.bk,d ew.bu p.bj] 27 20 false;True/\(r=true->(d g []).bi s)/\(r=false->b<=h/\h<=h/\h*(8:Int)<=(140737488355328:Int)/\h<=(1000000000000:Int)/\(((n.bi n/\(e 1 h.toNat 1).bi (e 1 (lB l 0).length 1)/\(a (↑h.toNat:Int)).bi q/\(γv .i64 0).bi (a 0)/\True)/\o.bi o/\(c g (δ h.toNat b) 3 true).bi (c g (lB l 0) 3 true)/\True)/\b<=b/\b<=j)/\∀(x:Int),let f:=lB l x.toNat;let m:=f.length;let k:=x+(1:Int);let t:=a k;b<=x/\x<=j->(decide (x<j)=true->m=f.length/\b<=x/\x<(↑f.length:Int)/\m=f.length/\x.toNat<f.length/\VI .i64 k/\((n.bi n/\(e 1 m 1).bi (e 1 (lB l k.toNat).length 1)/\q.bi q/\t.bi t/\True)/\o.bi o/\(c g (f.set x.toNat x) 3 true).bi (c g (lB l k.toNat) 3 true)/\True)/\(b<=k/\k<=j)/\(j - k).toNat<(j - x).toNat)/\(decide (x<j)=false->((sQ (m,f,p)/\ζz (λx1 x2 ↦x1<x2) f)/\m<=20)/\m=(dr (eC p) f).length/\(d g (dr (eC p) f)).bi s))) (by kernel_rfl) ?_;simp only[vcs];refine⟨λh=>by rw[if_neg h],λh=>?_⟩;have hc:nW p=0:=γc.1 h;rw[if_pos hc];have e0:((p.bj.length:Int)).toNat=p.bj.length:=by omega
 have how:∀{x y:Nat},x=y->(γW 1 x 1).bi (γW 1 y 1):=by rintro _ _ rfl;rfl
 rw[e0,Vz];refine⟨by omega,by omega,by omega,by omega,⟨⟨⟨how (by simp),rfl⟩,rfl⟩,by omega,by omega⟩,?_⟩;rintro i ⟨i0,i1⟩;have hL:=@Mv p.bj.length i.toNat (by omega);refine⟨λhi=>?_,λhi=>?_⟩
 ·have hs:=@Vx p.bj.length i.toNat (by omega);rw[show((i.toNat:Nat):Int)=i by omega] at hs;have IX:=@Mv p.bj.length (i.toNat+1) (by omega);rw[show(i+1).toNat=i.toNat+1 by omega,hs];exact⟨i0,by omega,by omega,by omega,⟨how (by omega),rfl⟩,by omega,by omega⟩
 ·rw[show i.toNat=p.bj.length by omega,Vy];refine⟨⟨⟨⟨⟨hc,rfl⟩,by simp only[eY];omega,λx hx=>by have:=iF.1 hx;exact this⟩,pD⟩,by simp only[eY];omega⟩,by rw[ql],rfl⟩
end Go.Vi
namespace Go.Proofs
open Go.Shelf
def Tryz.o_:Ren:=
 ⟨λ
  |189=>57
  |125=>69
  |257=>82
  |128=>98
  |129=>99
  |294=>117
  |295=>118
  |296=>119
  |297=>120
  |298=>121
  |299=>122
  |216=>123
  |300=>124
  |301=>125
  |328=>151
  |329=>127
  |330=>128
  |331=>152
  |332=>153
  |215=>154
  |343=>174
  |n=>n,
 λ
  |28=>24
  |3=>3
  |46=>55
  |0=>0
  |51=>172
  |53=>53
  |4=>4
  |183=>165
  |182=>164
  |131=>169
  |5=>5
  |9=>9
  |218=>209
  |222=>213
  |228=>246
  |229=>109
  |n=>n,
 λn=>n⟩
def Tryz.lf:Ren:=
 ⟨λ
  |41=>52
  |n=>n,
 λ
  |22=>24
  |23=>3
  |4=>4
  |n=>n,
 λn=>n⟩
def Tryz.pd:Ren:=
 ⟨λ
  |45=>147
  |n=>n,
 λ
  |22=>24
  |23=>3
  |3=>3
  |4=>4
  |0=>0
  |n=>n,
 λn=>n⟩
def Tryz.pc:Ren:=
 ⟨λ
  |6=>50
  |15=>69
  |14=>68
  |28=>98
  |29=>99
  |20=>90
  |21=>91
  |22=>92
  |23=>93
  |24=>94
  |25=>95
  |26=>96
  |27=>97
  |46=>126
  |47=>127
  |48=>128
  |49=>129
  |50=>130
  |57=>155
  |n=>n,
 λ
  |22=>30
  |24=>24
  |25=>34
  |3=>3
  |39=>55
  |0=>0
  |53=>172
  |55=>53
  |4=>4
  |46=>165
  |45=>164
  |50=>169
  |5=>5
  |9=>9
  |66=>209
  |70=>213
  |76=>246
  |77=>109
  |n=>n,
 λn=>n⟩
theorem Tryz.Hs:Lays.n189 Tryz.prog Tryz.o_:={mixed:=by kernel_rfl,f125:=Tryz.func69.trans (by kernel_rfl),f128:=Tryz.func98.trans (by kernel_rfl),f129:=Tryz.func99.trans (by kernel_rfl),f189:=Tryz.func57.trans (by kernel_rfl),f215:=Tryz.func154.trans (by kernel_rfl),f216:=Tryz.func123.trans (by kernel_rfl),f257:=Tryz.func82.trans (by kernel_rfl),f294:=Tryz.func117.trans (by kernel_rfl),f295:=Tryz.func118.trans (by kernel_rfl),f296:=Tryz.func119.trans (by kernel_rfl),f297:=Tryz.func120.trans (by kernel_rfl),f298:=Tryz.func121.trans (by kernel_rfl),f299:=Tryz.func122.trans (by kernel_rfl),f300:=Tryz.func124.trans (by kernel_rfl),f301:=Tryz.func125.trans (by kernel_rfl),f328:=Tryz.func151.trans (by kernel_rfl),f329:=Tryz.func127.trans (by kernel_rfl),f330:=Tryz.func128.trans (by kernel_rfl),f331:=Tryz.func152.trans (by kernel_rfl),f332:=Tryz.func153.trans (by kernel_rfl),f343:=Tryz.func174.trans (by kernel_rfl),t0:=Tryz.underlying0,a0:=Tryz.isAgg0,z0:=Tryz.sizeOf0,v0:=Tryz.zeroValue0,t3:=Tryz.underlying3,a3:=Tryz.isAgg3,z3:=Tryz.sizeOf3,v3:=Tryz.zeroValue3,t4:=Tryz.underlying4,a4:=Tryz.isAgg4,z4:=Tryz.sizeOf4,v4:=Tryz.zeroValue4,t5:=Tryz.underlying5,a5:=Tryz.isAgg5,z5:=Tryz.sizeOf5,v5:=Tryz.zeroValue5,t9:=Tryz.underlying9,a9:=Tryz.isAgg9,z9:=Tryz.sizeOf9,v9:=Tryz.zeroValue9,t28:=Tryz.underlying24,a28:=Tryz.isAgg24,z28:=Tryz.sizeOf24,v28:=Tryz.zeroValue24,t46:=Tryz.underlying55,a46:=Tryz.isAgg55,z46:=Tryz.sizeOf55,v46:=Tryz.zeroValue55,t51:=Tryz.underlying172,a51:=Tryz.isAgg172,z51:=Tryz.sizeOf172,v51:=Tryz.zeroValue172,t53:=Tryz.underlying53,a53:=Tryz.isAgg53,z53:=Tryz.sizeOf53,v53:=Tryz.zeroValue53,t131:=Tryz.underlying169,a131:=Tryz.isAgg169,z131:=Tryz.sizeOf169,v131:=Tryz.zeroValue169,t182:=Tryz.underlying164,a182:=Tryz.isAgg164,z182:=Tryz.sizeOf164,v182:=Tryz.zeroValue164,t183:=Tryz.underlying165,a183:=Tryz.isAgg165,z183:=Tryz.sizeOf165,v183:=Tryz.zeroValue165,t218:=Tryz.underlying209,a218:=Tryz.isAgg209,z218:=Tryz.sizeOf209,v218:=Tryz.zeroValue209,t222:=Tryz.underlying213,a222:=Tryz.isAgg213,z222:=Tryz.sizeOf213,v222:=Tryz.zeroValue213,t228:=Tryz.underlying246,a228:=Tryz.isAgg246,z228:=Tryz.sizeOf246,v228:=Tryz.zeroValue246,t229:=Tryz.underlying109,a229:=Tryz.isAgg109,z229:=Tryz.sizeOf109,v229:=Tryz.zeroValue109}
theorem Tryz.tV:SlLaysE0.n41 Tryz.prog Tryz.lf:={mixed:=by kernel_rfl,f41:=⟨Tryz.f52.name,by decide,Tryz.func52.trans (by kernel_rfl)⟩,t4:=Tryz.underlying4,a4:=Tryz.isAgg4,z4:=Tryz.sizeOf4,v4:=Tryz.zeroValue4,t22:=Tryz.underlying24,a22:=Tryz.isAgg24,z22:=Tryz.sizeOf24,v22:=Tryz.zeroValue24}
theorem Tryz.Ht:SlLaysE.n45 Tryz.prog Tryz.pd:={mixed:=by kernel_rfl,f45:=⟨Tryz.f147.name,by decide,Tryz.func147.trans (by kernel_rfl)⟩,t0:=Tryz.underlying0,a0:=Tryz.isAgg0,z0:=Tryz.sizeOf0,v0:=Tryz.zeroValue0,t3:=Tryz.underlying3,a3:=Tryz.isAgg3,z3:=Tryz.sizeOf3,v3:=Tryz.zeroValue3,t4:=Tryz.underlying4,a4:=Tryz.isAgg4,z4:=Tryz.sizeOf4,v4:=Tryz.zeroValue4,t22:=Tryz.underlying24,a22:=Tryz.isAgg24,z22:=Tryz.sizeOf24,v22:=Tryz.zeroValue24,a23:=Tryz.isAgg3,z23:=Tryz.sizeOf3}
theorem Tryz.tU:SlLaysF.n6 Tryz.prog Tryz.pc:={mixed:=by kernel_rfl,f6:=⟨Tryz.f50.name,by decide,Tryz.func50.trans (by kernel_rfl)⟩,f14:=⟨Tryz.f68.name,by decide,Tryz.func68.trans (by kernel_rfl)⟩,f15:=Tryz.func69.trans (by kernel_rfl),f20:=⟨Tryz.f90.name,by decide,Tryz.func90.trans (by kernel_rfl)⟩,f21:=⟨Tryz.f91.name,by decide,Tryz.func91.trans (by kernel_rfl)⟩,f22:=⟨Tryz.f92.name,by decide,Tryz.func92.trans (by kernel_rfl)⟩,f23:=⟨Tryz.f93.name,by decide,Tryz.func93.trans (by kernel_rfl)⟩,f24:=⟨Tryz.f94.name,by decide,Tryz.func94.trans (by kernel_rfl)⟩,f25:=⟨Tryz.f95.name,by decide,Tryz.func95.trans (by kernel_rfl)⟩,f26:=⟨Tryz.f96.name,by decide,Tryz.func96.trans (by kernel_rfl)⟩,f27:=⟨Tryz.f97.name,by decide,Tryz.func97.trans (by kernel_rfl)⟩,f28:=Tryz.func98.trans (by kernel_rfl),f29:=Tryz.func99.trans (by kernel_rfl),f46:=⟨Tryz.f126.name,by decide,Tryz.func126.trans (by kernel_rfl)⟩,f47:=Tryz.func127.trans (by kernel_rfl),f48:=Tryz.func128.trans (by kernel_rfl),f49:=⟨Tryz.f129.name,by decide,Tryz.func129.trans (by kernel_rfl)⟩,f50:=⟨Tryz.f130.name,by decide,Tryz.func130.trans (by kernel_rfl)⟩,f57:=⟨Tryz.f155.name,by decide,Tryz.func155.trans (by kernel_rfl)⟩,t0:=Tryz.underlying0,a0:=Tryz.isAgg0,z0:=Tryz.sizeOf0,v0:=Tryz.zeroValue0,t3:=Tryz.underlying3,a3:=Tryz.isAgg3,z3:=Tryz.sizeOf3,v3:=Tryz.zeroValue3,t4:=Tryz.underlying4,a4:=Tryz.isAgg4,z4:=Tryz.sizeOf4,v4:=Tryz.zeroValue4,t5:=Tryz.underlying5,a5:=Tryz.isAgg5,z5:=Tryz.sizeOf5,v5:=Tryz.zeroValue5,t9:=Tryz.underlying9,a9:=Tryz.isAgg9,z9:=Tryz.sizeOf9,v9:=Tryz.zeroValue9,t22:=Tryz.underlying30,a22:=Tryz.isAgg30,z22:=Tryz.sizeOf30,v22:=Tryz.zeroValue30,a24:=Tryz.isAgg24,z24:=Tryz.sizeOf24,t25:=Tryz.underlying34,a25:=Tryz.isAgg34,z25:=Tryz.sizeOf34,v25:=Tryz.zeroValue34,t39:=Tryz.underlying55,a39:=Tryz.isAgg55,z39:=Tryz.sizeOf55,v39:=Tryz.zeroValue55,t45:=Tryz.underlying164,a45:=Tryz.isAgg164,z45:=Tryz.sizeOf164,v45:=Tryz.zeroValue164,t46:=Tryz.underlying165,a46:=Tryz.isAgg165,z46:=Tryz.sizeOf165,v46:=Tryz.zeroValue165,t50:=Tryz.underlying169,a50:=Tryz.isAgg169,z50:=Tryz.sizeOf169,v50:=Tryz.zeroValue169,t53:=Tryz.underlying172,a53:=Tryz.isAgg172,z53:=Tryz.sizeOf172,v53:=Tryz.zeroValue172,t55:=Tryz.underlying53,a55:=Tryz.isAgg53,z55:=Tryz.sizeOf53,v55:=Tryz.zeroValue53,t66:=Tryz.underlying209,a66:=Tryz.isAgg209,z66:=Tryz.sizeOf209,v66:=Tryz.zeroValue209,t70:=Tryz.underlying213,a70:=Tryz.isAgg213,z70:=Tryz.sizeOf213,v70:=Tryz.zeroValue213,t76:=Tryz.underlying246,a76:=Tryz.isAgg246,z76:=Tryz.sizeOf246,v76:=Tryz.zeroValue246,t77:=Tryz.underlying109,a77:=Tryz.isAgg109,z77:=Tryz.sizeOf109,v77:=Tryz.zeroValue109}
end Go.Proofs
namespace Go.Proofs
open Go.Shelf Go.RowKit Go.Lib
theorem Mu {P:Program} {ρ:Ren} (L:SlLaysE0.n41 P ρ) (i0:TypeInfo) (z:Value) (b g:Nat) (I:P.info? (ρ.t 23)=some i0) (x:i0.zero=some z) (y:i0.size=b) (q:i0.bytes=g) (m:z.cells.size=b) (o:0<b)
  (Q:∀w,(Go.sizeOf (ρ.t 23)).run P w= .ok b w) (p:Addr) (n c:Nat) (d:List Value) (w:World) (K:d.length=n*b) (U:n<=maxLen) (B:n*g<=140737488355328)
  (C:∀j u,d[j]?=some u->w.cell? (p.add j)=some u) (E:∀u∈d,u.oneCell'=true):
  Calls P (ρ.f 41) #[.slice (some p) n c] w λe w'=>∃l,e= .returned l/\w'.ownsRow w.heap.size (ρ.t 23) b l n d/\l≠ .slice none 0 0/\Below w.heap.size w w':=by
 have v:=L.mixed;have W:=L.t4;have V:=L.a4;have T:=L.z4;have S:=L.v4;have i:=L.t22;have N:=L.a22;have O:=L.z22;have H:=L.v22;have G:∀(w:World) (a:Option Addr) (n c r s:Nat),(binOp .eql (ρ.t 22) (.slice a n c) (.slice none r s)).run P w= .ok (.bool a.isNone) w:=λw a n c r s=>Lib.run_eql_slice_nil w _ _ a n c r s L.t22;have F:∀w,Sem.run P (underlying (ρ.t 22)) w= .ok (TypeDesc.slice (ρ.t 23)) w:=run_underlying i;have A:Aside (∀j u,d[j]?=some u->w.cell? (p.add j)=some u):=C;clear C;obtain⟨_,_,M⟩:=L.f41;go_enter M,SlBodyN.n41_ntmps ρ;go_wp2_with (at_builtin;refine wpList_append_own _ rfl _ _ (ρ.t 22) rfl w.heap.size (ρ.t 23) i0 z b g i I x y q m o _ _ _ rfl (World.ownsRow_made w #[] 0 (ξ _) (δ4 _) (by simp)) p n c d rfl ?qc1 ?qc2 ?qc3 ?qc4 ?qc5 ?qc6 ?_);case qc1=>exact K
 case qc2=>
  intro j u J;exact Lib.cell?_alloc_some _ (A.out j u J)
 case qc3=>exact E
 case qc4=>omega
 case qc5=>simp_all
 case qc6=>simp
 intro l R D h k;go_wp2;go_ret;refine⟨l,rfl,by omega,?_,?_⟩;·exact k
 ·exact((Below.refl _ w).alloc (ξ _) _).grown h (by simp) (by grind[Value.ownBlock])
end Go.Proofs
namespace Go.Vi
open Go.Proofs.YtbnhiekmnpikhaaGreat.Ir
open Go.Proofs
theorem lA (l:List Int):bO (.i .i64) l=l.map λx=>δh (.int .i64 x):=by
 unfold bO;induction l with
 |nil=>rfl;|cons x l a=>rw[List.flatMap_cons,a];rfl
theorem Mt {A:dc} {w:World} {σ:TM} {l:List Int} {e:TypeId} (d:OM A w σ [.cells (l.map λx=>δh (.int .i64 x)) e 1 true]) (s:1<=l.length):
  ∃b cap arr,σ=[some (b,cap)]/\cap<=maxLen/\w.heap[b]?=some (.cells arr e (0,0))/\arr.size=cap/\l.length<=cap/\arr.toList.take l.length=l.map (Value.int .i64):=by
 have f:=d.obj 0 _ rfl;simp only[cP] at f;obtain⟨_,_,h|⟨b,cap,arr,a,n,g,r,p,i⟩⟩:=f;·simp_all
 ·have c:=d.len;simp at c;have m:l.length<=arr.size:=by simp_all
  refine⟨b,cap,arr,?_,n,g,by omega,by omega,?_⟩;·match σ,c,a with
   |[x],_,a=>simp_all
  ·apply List.ext_getElem?;intro j;by_cases k:j<l.length
   ·obtain⟨v,o,q⟩:=i j (.sc (.int .i64 l[j])) (by simp[k]);grind[nA]
   simp_all
def dx (l:List Int):List Int:=l.mergeSort λx y=>decide (x<=y)
theorem pC {l:List Int}:(dx l).length=l.length:=(δx _ _).length_eq
def yf:cU where
 f:=57;α:=Nat×List Int;put a:=[.ow 0 a.1 1];st a:=[.row (.i .i64) a.2 3 true];dec v o:=match v,o with
  |[.ow 0 n 1],[.row t l 3 true]=>match gG t (.i .i64) l with
   |some l=>some (n,l)
   |_=>none
  |_,_=>none;ok v o a h:=by
  split at h
  ·split at h
   ·rename_i h4;simp only[γ] at h;subst h;obtain⟨rfl,hh⟩:=lF h4;cases hh;exact⟨rfl,rfl⟩
   ·cases h
  ·cases h
 inj a b e1 e2:=by
  obtain⟨n,l⟩:=a;obtain⟨n',l'⟩:=b;simp only[gL,Δ,γE,εA,true_and] at e1;simp only[gO,π,γr,iZ.g,Δ,OL.cells.injEq,and_true,true_and] at e2;have h4:l=l':=by
   have hf:=congrArg γb e2;rw[ec,ec] at hf;exact ku (.i .i64) (by simpa[ew.sz] using hf) e2
  rw[e1.1.1,h4]
 dom a:=a.1=a.2.length/\1<=a.2.length/\a.2.length<=1000000;res _:=.Gz [];out a:=[.row (.i .i64) (dx a.2) 3 true]
theorem yM:dA Tryz.prog yf:=by
 rintro⟨n,l⟩ ⟨E,H,V⟩;simp only at E H V;subst E;refine⟨by kernel_rfl,?_⟩;intro A w F Q q s;have C:∀m:List Int,gO [iZ.row (.i .i64) m 3 true]=[OL.cells (m.map λx=>δh (.int .i64 x)) 3 1 true]:=λm=>by
  simp only[gO,π,γr,iZ.g,lA];rfl
 have T:gL (yf.put (l.length,l))=[.os 0 0 l.length (l.length*1)]:=rfl;show Calls _ _ _ _ λe h=>∃u p,e= .returned u/\OM A h p (gO [iZ.row (.i .i64) (dx l) 3 true])/\nA A h p (gO [iZ.row (.i .i64) (dx l) 3 true]) (.Gz []) u/\Ext w F (gO [iZ.row (.i .i64) l 3 true]) h p (gO [iZ.row (.i .i64) (dx l) 3 true]);replace q:OM A w F (gO [iZ.row (.i .i64) l 3 true]):=q;replace s:Aq A w F (gO [iZ.row (.i .i64) l 3 true]) (gL (yf.put (l.length,l))) Q:=s;rw[C] at q s;rw[C,C];rw[T] at s;obtain⟨b,Y,d,rfl,U,L,q4,q5,N⟩:=Mt q H;simp only[Aq] at s;obtain⟨v,r,rfl,I,rfl⟩:=s;simp only[nA] at I;obtain⟨O,a,y,rfl,a0,B⟩:=I;have K:=B 1 ⟨_,_,_,rfl,by simp⟩;simp only[j3,δp] at K;obtain⟨rfl,rfl⟩:=K.2.1 trivial trivial (by omega);have P:b<w.heap.size:=q.dZ 0 b y rfl;have R:=holds_of_blockI (ss:=l) L N;have S:Calls Tryz.prog (yf).f #[.slice (some ⟨b,0,none⟩) l.length y] w λe h=>e= .returned (.tuple #[])/\∃n z,h=Sort.grow (Sort.putRow (Value.int .i64) (Sort.ahead w n) b 0 (dx l).toArray) z:=
  calls_of_every_depth λD=>AnyS.slices_Sort_int_in Tryz.Hs D b 0 y l w R P (by omega);refine Calls.mono S ?_;rintro e h ⟨rfl,n,z,rfl⟩;have t:=grownBy_sortedI (w:=w) (g:=b) (n:=n) (os:=z) (dx l).toArray;have W:=heap_sortedI (w:=w) (n:=n) (os:=z) (dx l).toArray L;have X:=take_putCellsI d (dx l) (by rw[pC];omega);have hz:(Sort.putCells (Value.int .i64) 0 (dx l).toArray d).size=d.size:=by simp[Sort.putCells]
 generalize Sort.grow (Sort.putRow (Value.int .i64) (Sort.ahead w n) b 0 (dx l).toArray) z=h at*;generalize Sort.putCells (Value.int .i64) 0 (dx l).toArray d=o at*;have hU:=q.iw (w':=h) (id:=0) (x':=.cells ((dx l).map λx=>δh (.int .i64 x)) 3 1 true) (s':=some (b,y)) rfl t.size t.os t.tape t.output
  (λk M E=>t.block k M λe=>by simp_all) (λb' c' e=>by simp_all)
  ⟨_,_,_,rfl,by simp[pC],λ_=>rfl⟩ ?_;·grind[nA,Aq]
 ·intro hx;simp only[cP];refine⟨λ_=>by rw[<-lA];grind[ni],by rw[<-lA];grind[An],.inr ⟨b,y,o,rfl,U,W,by omega,by grind[pC],?_⟩⟩;intro j c J;rw[γF] at J;obtain⟨x,G,rfl⟩:=ε.1 J;have Z:=(ζ.1 G).1;refine⟨.int .i64 x,?_,by simp[nA,Value.oneCell']⟩;have h9:(o.toList.take (dx l).length)[j]?=((dx l).map (Value.int .i64))[j]?:=by rw[X]
  grind
theorem Ms {A:dc} {w:World} {l:List Int} {vs:List Value} {m:FuncId} (n:m=Tryz.lf.f 41) (N:OM A w [] []) (K:l.length<=1000000) (B:Aq A w [] [] [.sl l.length (l.map λx=>δh (.int .i64 x))] vs):
  Calls Tryz.prog m vs.toArray w λe w'=>RowKit.Below w.heap.size w w'/\((e= .returned (.slice none 0 0)/\l=[])\/∃g cap c,e= .returned (.slice (some ⟨g,0,none⟩) l.length cap)/\w.heap.size<=g/\w'.heap[g]?=some (.cells c 3 (0,0))/\l.length<=cap/\cap<=maxLen/\c.size=cap/\c.toList.take l.length=l.map (Value.int .i64)):=by
 subst n;simp only[Aq] at B;obtain⟨v,r,rfl,t,rfl⟩:=B;simp only[nA] at t;obtain⟨a,cap,rfl,q,_,C⟩:=t;cases a with
 |none=>
  have z:l=[]:=by
   cases l<;>grind[cH]
  grind[Calls.mono,AnyE.slices_Clone_nil,Tryz.tV,RowKit.Below.refl];|some p=>
  have H:∀j u,(l.map (Value.int .i64))[j]?=some u->w.cell? (p.add j)=some u:=by
   intro j u s;rw[γF] at s;obtain⟨x,F,rfl⟩:=ε.1 s;obtain⟨b,v,e,_,o,y⟩:=cH.get _ _ _ C j (.sc (.int .i64 x)) (by simp[F]);grind[nA]
  refine Calls.mono (Mu Tryz.tV Tryz.t3 (.int .i64 0) 1 8 (by kernel_rfl) (by kernel_rfl) (by kernel_rfl) (by kernel_rfl) (by kernel_rfl) (by omega) Tryz.sizeOf3 p l.length cap (l.map (Value.int .i64)) w (by simp) (by grind[maxLen]) (by omega) H (by simp[Value.oneCell'])) ?_;rintro e w' ⟨L,rfl,k,E,i⟩;refine⟨i,.inr ?_⟩;obtain⟨_,h|⟨g,d,c,rfl,J,I,D,G,M,O⟩⟩:=k;·simp_all
  ·exact⟨g,d,c,rfl,J,I,D,G,by omega,by simp_all⟩
def ye:M9:=⟨52,List Int,.one (cL (.i .i64)),λl=>l.length<=1000000,λl=> .row (.i .i64) l⟩
theorem yO:Holds Tryz.prog ye:=by
 intro(l:List Int) (hl:l.length<=1000000);refine⟨by kernel_rfl,?_⟩;intro A w σ vs hS hR;have hσ:σ=[]:=by have:=hS.len;simpa using this
 subst hσ;have e1:gL (ye.A.put l)=[.sl l.length (l.map λx=>δh (.int .i64 x))]:=by rw[<-lA];rfl
 have e2:(ye.res l).G= .sl l.length (l.map λx=>δh (.int .i64 x)):=by rw[<-lA];rfl
 rw[e1] at hR;rw[e2];refine Calls.mono (Ms (by rfl) hS hl hR) ?_;rintro e w' ⟨hb,h⟩;have hS':OM A w' [] []:=⟨rfl,by simp,by simp,by simp,by simp,λb h=>γj (hS.avb b h) hb.size⟩;have hE:Ext w [] [] w' [] []:=⟨hb.size,λb h _=>⟨hb.block b h,λ⟨i,c,hi⟩=>by simp at hi⟩,ξ _,λ_ _ ⟨_,_,_,_,h,_⟩=>by simp at h,λ_ ⟨_,_,_,h⟩=>by simp at h,hb.os,hb.tape,hb.output⟩;rcases h with⟨rfl,rfl⟩|⟨g,cap,cur,rfl,h1,h2,h3,h4,h5,h6⟩;·exact⟨_,[],rfl,hS',by simp only[nA];exact⟨none,0,rfl,by simp,by rw[<-lA];exact ni _ _,by simp[cH]⟩,hE⟩
 ·refine⟨_,[],rfl,hS',?_,hE⟩;simp only[nA];refine⟨_,_,rfl,h3,by rw[<-lA];exact ni _ _,cH.kg _ _ _ λi c hi=>?_⟩;rw[γF] at hi;obtain⟨x,hx,rfl⟩:=ε.1 hi;have hil:=(ζ.1 hx).1;have h9:(cur.toList.take l.length)[i]?=(l.map (Value.int .i64))[i]?:=by rw[h6]
  rw[List.getElem?_take_of_lt hil,Array.getElem?_toList,γF,hx] at h9;refine⟨⟨g,0,none⟩,.int .i64 x,rfl,⟨λ⟨i,c,hi⟩=>by simp at hi,λhA=>by have:=hS.avb g hA;omega⟩,?_,by simp[nA,Value.oneCell']⟩;rw[Addr.add_lit];simp only[World.cell?,h2,Nat.zero_add,Option.isSome_none,Bool.false_eq_true,if_false];exact h9
def sO:cU where
 f:=52;α:=List Int;put a:=[.row (.i .i64) a];st a:=[];dec v o:=match v,o with
  |[.row t l],[]=>gG t (.i .i64) l
  |_,_=>none;ok v o a h:=by
  split at h
  ·obtain⟨rfl,hh⟩:=lF h;cases hh;exact⟨rfl,rfl⟩
  ·cases h
 inj a b e1 e2:=by
  simp only[gL,Δ,γE,δ5,and_true] at e1;exact ku (.i .i64) (by simpa using e1.1) e1.2
 dom a:=a.length<=1000000;res a:=.ow 0 a.length 1;out a:=[.row (.i .i64) a 3 true]
theorem sq:dA Tryz.prog sO:=by
 intro(l:List Int) (E:l.length<=1000000);refine⟨by kernel_rfl,?_⟩;intro A w s G k p;replace k:OM A w s []:=k;replace p:Aq A w s [] (gL (sO.put l)) G:=p;have q:s=[]:=by have:=k.len;simp_all
 subst q;have F:gL (sO.put l)=[.sl l.length (l.map λx=>δh (.int .i64 x))]:=by rw[<-lA];rfl
 have B:(sO.res l).g= .os 0 0 l.length (l.length*1):=rfl;have D:gO (sO.out l)=[OL.cells (l.map λx=>δh (.int .i64 x)) 3 1 true]:=by rw[<-lA];rfl
 rw[F] at p;rw[B,D];show Calls _ _ _ _ λe n=>∃u f,e= .returned u/\OM A n f [OL.cells (l.map λx=>δh (.int .i64 x)) 3 1 true]/\nA A n f [OL.cells (l.map λx=>δh (.int .i64 x)) 3 1 true] (.os 0 0 l.length (l.length*1)) u/\Ext w [] [] n f [OL.cells (l.map λx=>δh (.int .i64 x)) 3 1 true];refine Calls.mono (Ms (by rfl) k E p) ?_;rintro e n ⟨d,h⟩;have t:rr [OL.cells (l.map λx=>δh (.int .i64 x)) 3 1 true] 0 (l.length*1):=⟨_,_,_,_,rfl,by simp⟩;rcases h with⟨rfl,rfl⟩|⟨g,m,o,rfl,P,z,C,J,O,I⟩
 ·refine⟨_,[none],rfl,⟨rfl,?_,?_,?_,?_,λb h=>γj (k.avb b h) d.size⟩,?_,d.size,λb h _=>⟨d.block b h,?_⟩,δ4 _,λ_ _ ⟨_,_,_,_,h,_⟩=>by simp at h,λ_ ⟨_,_,_,h⟩=>by simp at h,d.os,d.tape,d.output⟩;·grind
  ·grind
  ·intro i x a;cases i with
   |zero=>
    simp at a;subst a;simp only[cP];exact⟨λ_=>rfl,rfl,.inl (by simp)⟩;|succ i=>simp at a
  ·grind
  ·grind[nA,j3]
  ·rintro⟨i,c,a⟩;grind
 ·have L:g<n.heap.size:=(Array.getElem?_eq_some_iff.1 z).1;refine⟨_,[some (g,m)],rfl,⟨rfl,?_,?_,?_,?_,λb h=>γj (k.avb b h) d.size⟩,?_,d.size,λb h _=>⟨d.block b h,?_⟩,δ4 _,λ_ _ ⟨_,_,_,_,h,_⟩=>by simp at h,λ_ ⟨_,_,_,h⟩=>by simp at h,d.os,d.tape,d.output⟩;·grind
  ·grind
  ·intro i x a;cases i with
   |zero=>
    simp at a;subst a;simp only[cP];refine⟨λ_=>by rw[<-lA];grind[ni],by rw[<-lA];grind[An],.inr ⟨g,m,o,rfl,J,z,by omega,by simp;omega,?_⟩⟩;intro j c v;rw[γF] at v;obtain⟨x,r,rfl⟩:=ε.1 v;have H:=(ζ.1 r).1;refine⟨.int .i64 x,?_,by simp[nA,Value.oneCell']⟩;have N:(o.toList.take l.length)[j]?=(l.map (Value.int .i64))[j]?:=by rw[I]
    grind;|succ i=>simp at a
  ·intro i b c a;cases i with
   |zero=>
    simp at a;intro K;have:=k.avb b K;omega;|succ i=>simp at a
  ·simp only[nA];refine⟨t,_,_,rfl,C,λM y=>?_⟩;obtain⟨_,_,_,y,_⟩:=y;grind[j3,nV]
  ·rintro⟨i,c,a⟩;grind
def kp (l:List Int) (i j:Nat):List Int:=l.take i++l.drop j++δ (j - i) 0
theorem Mr {l:List Int} {i j:Nat} (a:i<=j) (b:j<=l.length):(kp l i j).length=l.length:=by
 grind[kp]
def sN:cU where
 f:=147;α:=(Nat×List Int)×Int×Int;put a:=[.ow 0 a.1.1 1,.si .i64 a.2.1,.si .i64 a.2.2];st a:=[.row (.i .i64) a.1.2 3 true];dec v o:=match v,o with
  |[.ow 0 n 1,x,y],[.row t l 3 true]=>match gG t (.i .i64) l,x.int .i64,y.int .i64 with
   |some l,some i,some j=>some ((n,l),i,j)
   |_,_,_=>none
  |_,_=>none;ok v o a h:=by
  split at h
  ·split at h
   ·rename_i h4 h5 h6;simp only[γ] at h;subst h;obtain⟨rfl,hh⟩:=lF h4;cases hh;refine⟨?_,rfl⟩;simp only[gL,gS h5,gS h6];rfl
   ·cases h
  ·cases h
 inj a b e1 e2:=by
  obtain⟨⟨n,l⟩,i,j⟩:=a;obtain⟨⟨n',l'⟩,i',j'⟩:=b;simp only[gL,Δ,γE,εA,true_and,and_true,δf,Value.int.injEq] at e1;simp only[gO,π,γr,iZ.g,Δ,OL.cells.injEq,and_true,true_and] at e2;have h4:l=l':=by
   have hf:=congrArg γb e2;rw[ec,ec] at hf;exact ku (.i .i64) (by simpa[ew.sz] using hf) e2
  rw[e1.1.1,h4,e1.2.1,e1.2.2]
 dom a:=(a.1.1=a.1.2.length/\1<=a.1.2.length/\a.1.2.length<=1000000)/\0<=a.2.1/\a.2.1<=a.2.2/\a.2.2<=a.1.2.length;res a:=.os 0 0 (a.1.2.length - (a.2.2 - a.2.1).toNat) a.1.1 1;out a:=[.row (.i .i64) (kp a.1.2 a.2.1.toNat a.2.2.toNat) 3 true]
theorem Iq:dA Tryz.prog sN:=by
 rintro⟨⟨n,l⟩,i,j⟩ ⟨⟨H,K,h2⟩,i0,ij,Y⟩;simp only at H K h2 i0 ij Y;subst H;obtain⟨i,rfl⟩:∃k:Nat,i=k:=⟨i.toNat,by omega⟩;obtain⟨j,rfl⟩:∃k:Nat,j=k:=⟨j.toNat,by omega⟩;refine⟨by kernel_rfl,?_⟩;intro A w F X t z;have I:∀m:List Int,gO [iZ.row (.i .i64) m 3 true]=[OL.cells (m.map λx=>δh (.int .i64 x)) 3 1 true]:=λm=>by
  simp only[gO,π,γr,iZ.g,lA];rfl
 have V:gL (sN.put ((l.length,l),(i:Int),(j:Int)))=[.os 0 0 l.length (l.length*1),.sc (.int .i64 i),.sc (.int .i64 j)]:=rfl;have Z:(sN.res ((l.length,l),(i:Int),(j:Int))).g= .os 0 0 (l.length - (j - i)) (l.length*1):=by
  show AV.os 0 (0*1) (l.length - ((j:Int) - (i:Int)).toNat) (l.length*1)=_;simp_all
 show Calls _ _ _ _ λe h=>∃u p,e= .returned u/\OM A h p (gO [iZ.row (.i .i64) (kp l i j) 3 true])/\nA A h p (gO [iZ.row (.i .i64) (kp l i j) 3 true]) (sN.res ((l.length,l),(i:Int),(j:Int))).g u/\Ext w F (gO [iZ.row (.i .i64) l 3 true]) h p (gO [iZ.row (.i .i64) (kp l i j) 3 true]);replace t:OM A w F (gO [iZ.row (.i .i64) l 3 true]):=t;replace z:Aq A w F (gO [iZ.row (.i .i64) l 3 true]) (gL (sN.put ((l.length,l),(i:Int),(j:Int)))) X:=z;rw[I] at t z;rw[I,I,Z];rw[V] at z;obtain⟨b,a2,d,rfl,S,Q,q4,q5,q6⟩:=Mt t K;simp only[Aq] at z;obtain⟨v,r,rfl,M,v2,r2,rfl,C,v3,r3,rfl,D,rfl⟩:=z;simp only[nA] at M C D;obtain⟨a0,a,s,rfl,a3,J⟩:=M;obtain⟨rfl,_⟩:=C;obtain⟨rfl,_⟩:=D;have O:=J 1 ⟨_,_,_,rfl,by simp⟩;simp only[j3,δp] at O;obtain⟨rfl,rfl⟩:=O.2.1 trivial trivial (by omega);have hb:b<w.heap.size:=t.dZ 0 b s rfl;have W:=holds_of_blockI (ss:=l) Q q6;have T:maxLen=9223372036854775807:=rfl;have B:=@Mr l i j (by omega) (by omega);have E:Calls Tryz.prog (sN).f #[.slice (some ⟨b,0,none⟩) l.length s,.int .i64 i,.int .i64 j] w λe h=>e= .returned (.slice (some ⟨b,0,none⟩) (l.length - (j - i)) s)/\∃q,h=Sort.putRow (Value.int .i64) (Sort.ahead w q) b 0 (kp l i j).toArray:=by
  exact AnyE.slices_Delete Tryz.Ht (Value.int .i64) (λ_=>rfl) 0 Tryz.zeroValue3 Tryz.t3 (by kernel_rfl) (by kernel_rfl) b 0 s i j l.toArray w W (by omega) (by omega) (by omega) (by simp;omega)
 refine Calls.mono E ?_;rintro e h ⟨rfl,q,rfl⟩;have y:=grownBy_sortedI (w:=w) (g:=b) (n:=q) (os:=#[]) (kp l i j).toArray;have L:=heap_sortedI (w:=w) (n:=q) (os:=#[]) (kp l i j).toArray Q;rw[Sort.grow_empty] at y L;have R:=take_putCellsI d (kp l i j) (by omega);have hz:(Sort.putCells (Value.int .i64) 0 (kp l i j).toArray d).size=d.size:=by simp[Sort.putCells]
 generalize Sort.putRow (Value.int .i64) (Sort.ahead w q) b 0 (kp l i j).toArray=h at*;generalize Sort.putCells (Value.int .i64) 0 (kp l i j).toArray d=o at*;have N:=t.iw (w':=h) (id:=0) (x':=.cells ((kp l i j).map λx=>δh (.int .i64 x)) 3 1 true) (s':=some (b,s)) rfl y.size y.os y.tape y.output
  (λk U H=>y.block k U λe=>by simp_all) (λb' c' e=>by simp_all)
  ⟨_,_,_,rfl,by simp[B],λ_=>rfl⟩ ?_
 ·refine⟨_,[some (b,s)],rfl,N.1,?_,N.2⟩;simp only[nA];refine⟨⟨_,_,_,_,rfl,by simp[B]⟩,_,_,rfl,by omega,λsz E=>?_⟩;obtain⟨_,_,_,E,_⟩:=E;grind[j3]
 ·intro hx;simp only[cP];refine⟨λ_=>by rw[<-lA];exact ni _ _,by rw[<-lA];exact An _ _,.inr ⟨b,s,o,rfl,S,L,by omega,by simp_all,?_⟩⟩;intro k c P;rw[γF] at P;obtain⟨x,G,rfl⟩:=ε.1 P;have a1:=(ζ.1 G).1;refine⟨.int .i64 x,?_,by simp[nA,Value.oneCell']⟩;have h9:(o.toList.take (kp l i j).length)[k]?=((kp l i j).map (Value.int .i64))[k]?:=by rw[R]
  grind
structure bY where
 rows:List (List Int)
 bounds:List Int
 bj:List bC
def yd:o7 bY where
 put a:=.agg [.row (.qE (.i .i64)) a.rows,.row (.i .i64) a.bounds,.row .bu a.bj];dec
  | .agg [r,v,x]=>match iJ (.qE (.i .i64)) r,iJ (.i .i64) v,iJ .bu x with
   |some c,some v,some x=>some ⟨c,v,x⟩
   |_,_,_=>none
  |_=>none;ok v a h:=by
  grind[γE,gL,ng]
 inj a b h:=by
  obtain⟨c,v,x⟩:=a;obtain⟨l,k,j⟩:=b;simp only[γE,gL,AV.agg.injEq,Δ,and_true,true_and,δ5] at h;have e:=ku (.qE (.i .i64)) h.1.1 h.1.2;have d:=ku (.i .i64) h.2.1.1 h.2.1.2;have f:=ku .bu h.2.2.1 h.2.2.2;rw[e,d,f]
def vG:M9:=⟨61,cj,.one cO,λ_=>True,λp=> .si .i64 (if nW p=0 then cr p else 0)⟩
theorem qP:Holds Tryz.prog vG:=by
 refine bI (L:=[mW,vS]) vG lk (by grind[oi,qS]) ?_;rintro(p:cj) -;refine NH (let c:=(0:Int);let b:=decide (nW p≠c);let a:=γf .i64 (if nW p=c then cr p else c);True/\(b=true->(γv .i64 0).bi a)/\(b=false->p.bk.length<=8/\(γf .i64 (cr p)).bi a)) (by kernel_rfl) ?_;simp only[vcs];refine⟨λh=>by rw[if_neg h],λh=>?_⟩;have c:nW p=0:=γc.1 h;rw[if_pos c];have:=(cT c).1;omega
def gv (p:cj) (r:Int) (n:Nat):List Int:=(p.bj.take n).map (dv p r)
def zw:M9:=⟨107,cj×Int,.cons cO (.one (dX .i64)),λa=>nW a.1=0/\0<=a.2/\a.2<cr a.1,λa=> .Gz [.row (.i .i64) (gv a.1 a.2 a.1.bj.length),.si .i64 (cB a.1 a.2)]⟩
def Vv (a:cj×Int):Nat->bG
 |5=> .inv Int (λi=>⟨[(1,.si .i64 a.2),(4,.ow 1 (gv a.1 a.2 i.toNat).length 1),(6,.ptr 2 0 20),(20,.row .bu a.1.bj),(21,.si .i64 a.1.bj.length),(22,.si .i64 i)],[.cells a.1.ss 27 20 false,.row (.i .i64) (gv a.1 a.2 i.toNat) 3 true,.cells a.1.ss 87 20 false]⟩)
   (λs=>iS s 22) (λi=>0<=i/\i<=a.1.bj.length) (λi=>(a.1.bj.length - i).toNat) λ_ _=> .look
 |_=> .look
theorem yN:Holds Tryz.prog zw:=by
 refine bI (L:=[vG,vQ,vR]) zw Vv (by simpa using⟨qP,qT,qR⟩) ?_;rintro⟨p,r⟩ ⟨hc,r0,r1⟩;simp only at hc r0 r1;refine NH (let a:=γf .i64;let b:=(0:Int);let c:=Ψ;let d:=iZ.row;let e:=SV.Gz;let f:=γW;let g:=ew.i .i64;let l:=c ew.bu p.bj;let v:=decide (r<b);let o:=γv .i64 0;let w:=[a (cB p r)];let q:=e (c g (gv p r p.bj.length)::w);let y:=decide ((if nW p=b then cr p else b)<=r);let m:=γK 2 0 20;let z:=(↑p.bj.length:Int);let h:=(↑p.bj.length:Int);let s:=a h;let n:=λ(u:Nat) ↦let A:=iZ.cells [a p.bm.a0,a p.bm.a1,a p.bm.a2,a p.bm.a3,a p.bm.a4,a p.bm.a5,a p.bs.a0,a p.bs.a1,a p.bs.a2,a p.bs.a3,a p.bs.a4,a p.bs.a5,a p.bt.a0,a p.bt.a1,a p.bt.a2,a p.bt.a3,a p.bt.a4,a p.bt.a5,c g p.bk,l] u 20 false;A.bi A;(v=true->0=0/\(e [c g [],o]).bi q)/\(v=false->True/\(y=true->0=0/\(e [c g [],o]).bi q)/\(y=false->((((a r).bi (a r)/\(f 1 0 1).bi (f 1 (gv p r 0).length 1)/\m.bi m/\l.bi l/\(a z).bi s/\o.bi (a 0)/\True)/\n 27/\(d g [] 3 true).bi (d g (gv p r 0) 3 true)/\n 87/\True)/\b<=b/\b<=h)/\∀(x:Int),let t:=bN p.bj x.toNat ew.bu.bw;let j:=gv p r x.toNat;let B:=j.length+1;let k:=x+(1:Int);let C:=j++[dv p r t];let D:=a k;b<=x/\x<=h->(decide (x<h)=true->b<=x/\x<z/\x.toNat<p.bj.length/\(p.bk.length<=8/\b<=r/\r<cr p/\b<=t.OA/\t.OA<(↑p.bk.length:Int))/\j.length=j.length/\B*8<=140737488355328/\B<=1000000000000/\VI .i64 k/\(((a r).bi (a r)/\(f 1 C.length 1).bi (f 1 (gv p r k.toNat).length 1)/\m.bi m/\l.bi l/\s.bi s/\D.bi D/\True)/\n 27/\(d g C 3 true).bi (d g (gv p r k.toNat) 3 true)/\n 87/\True)/\(b<=k/\k<=h)/\(h - k).toNat<(h - x).toNat)/\(decide (x<h)=false->(p.bk.length<=8/\b<=r/\r<cr p)/\j.length=j.length/\(e (c g j::w)).bi q)))) (by kernel_rfl) ?_;simp only[vcs];obtain⟨g1,g2,g3,g4,g5⟩:=cT hc;have how:∀{x y:Nat},x=y->(γW 1 x 1).bi (γW 1 y 1):=by rintro _ _ rfl;rfl
 have hrow:∀{x y:List Int},x=y->(iZ.row (.i .i64) x 3 true).bi (iZ.row (.i .i64) y 3 true):=by rintro _ _ rfl;rfl
 rw[if_pos hc];refine⟨λh=>by omega,λ_=>⟨λh=>by omega,λ_=>⟨⟨?_,by omega,by omega⟩,?_⟩⟩⟩;·exact⟨how rfl,hrow rfl⟩
 ·rintro i ⟨i0,i1⟩;have hL:(gv p r i.toNat).length<=160:=by unfold gv;rw[List.length_map,γx];omega
  refine⟨λhi=>?_,λhi=>?_⟩
  ·have hx:=g5 _ (cE (d:=ew.bu.bw) (show i.toNat<p.bj.length by omega));have e:gv p r (i+1).toNat=gv p r i.toNat++[dv p r (bN p.bj i.toNat ew.bu.bw)]:=by
    unfold gv;rw[jj (d:=ew.bu.bw) i0 hi,γa];rfl
   rw[e];refine⟨i0,hi,?_,⟨g1,r0,r1,hx.1,hx.2.1⟩,?_,?_,?_,⟨how rfl,hrow rfl⟩,?_,?_⟩<;>omega
  ·rw[show i.toNat=p.bj.length by omega];exact⟨⟨g1,r0,r1⟩,rfl⟩
def kU (p:cj) (n:Nat):List (List Int):=(ω n).map λr:Nat=>gv p r p.bj.length
def jv (p:cj) (n:Nat):List Int:=(ω n).map λr:Nat=>cB p r
def nR (p:cj):Nat:=if nW p=0 then p.bk.length+12 else 0
def bV (p:cj):bY:=⟨kU p (nR p),jv p (nR p),p.bj⟩
theorem Mq {p:cj} {n:Nat}:(kU p n).length=n:=by simp[kU]
theorem zu {p:cj} {n:Nat}:(jv p n).length=n:=by simp[jv]
theorem Vu {p:cj} {i:Int} (h:0<=i):kU p (i+1).toNat=kU p i.toNat++[gv p i p.bj.length]:=by
 unfold kU;rw[show(i+1).toNat=i.toNat+1 from by omega,εg,γa];grind
theorem Vt {p:cj} {i:Int} (h:0<=i):jv p (i+1).toNat=jv p i.toNat++[cB p i]:=by
 unfold jv;rw[show(i+1).toNat=i.toNat+1 from by omega,εg,γa];grind
def zt:M9:=⟨73,cj,.one cO,λ_=>True,λp=>yd.put (bV p)⟩
def Vs (p:cj):Nat->bG
 |3=> .inv Int (λi=>⟨[(1,.ptr 0 0 20),(2,.ptr 1 0 3),(3,.ptr 2 0 3),(11,.si .i64 (nR p)),(12,.si .i64 i)],[.cells p.ss 27 20 false,.cells [.sc (.slice none 0 0),.sc (.slice none 0 0),.sc (.slice none 0 0)] 130 3 false,.cells [.ow 4 (kU p i.toNat).length 1,.ow 3 (jv p i.toNat).length 1,.row .bu p.bj] 130 3 false,.row (.i .i64) (jv p i.toNat) 3 true,.row (.qE (.i .i64)) (kU p i.toNat) 24 false]⟩)
   (λs=>iS s 12) (λi=>0<=i/\i<=nR p) (λi=>(nR p - i).toNat) λ_ _=> .look
 |_=> .look
theorem yR:Holds Tryz.prog zt:=by
 refine bI (L:=[vG,zw]) zt Vs (by grind[qP,yN]) ?_;rintro(p:cj) -;refine NH (let a:=γf .i64;let b:=iZ.row;let h:=(0:Int);let j:=iZ.cells;let l:=Ψ;let o:=γW;let y:=γK;let w:=y 0 0 20;let s:=y 1 0 3;let t:=y 2 0 3;let g:=(↑(nR p):Int);let z:=a g;let f:=ew.i .i64;let k:=[l ew.bu p.bj];let u:=j (a p.bm.a0::a p.bm.a1::a p.bm.a2::a p.bm.a3::a p.bm.a4::a p.bm.a5::a p.bs.a0::a p.bs.a1::a p.bs.a2::a p.bs.a3::a p.bs.a4::a p.bs.a5::a p.bt.a0::a p.bt.a1::a p.bt.a2::a p.bt.a3::a p.bt.a4::a p.bt.a5::l f p.bk::k) 27 20 false;let A:=SV.sc (Value.slice none 0 0);let v:=j [A,A,A] 130 3 false;True/\(((w.bi w/\s.bi s/\t.bi t/\(a (if nW p=h then cr p else h)).bi z/\(γv .i64 0).bi (a 0)/\True)/\u.bi u/\v.bi v/\(j (o 4 0 1::o 3 0 1::k) 130 3 false).bi (j (o 4 (kU p 0).length 1::o 3 (jv p 0).length 1::k) 130 3 false)/\(b f [] 3 true).bi (b f (jv p 0) 3 true)/\(b f.qE [] 24 false).bi (b f.qE (kU p 0) 24 false)/\True)/\h<=h/\h<=g)/\∀(x:Int),let e:=kU p x.toNat;let n:=e.length+1;let d:=jv p x.toNat;let m:=d.length+1;let c:=x+(1:Int);let r:=a c;let q:=e++[gv p x p.bj.length];h<=x/\x<=g->(decide (x<g)=true->(nW p=h/\h<=x/\x<cr p)/\1=1/\e.length=e.length/\n*24<=140737488355328/\n<=1000000000000/\1=1/\d.length=d.length/\m*8<=140737488355328/\m<=1000000000000/\VI .i64 c/\((w.bi w/\s.bi s/\t.bi t/\z.bi z/\r.bi r/\True)/\u.bi u/\v.bi v/\(j (o 4 q.length 1::o 3 (d++[cB p x]).length 1::k) 130 3 false).bi (j (o 4 (kU p c.toNat).length 1::o 3 (jv p c.toNat).length 1::k) 130 3 false)/\(b f (d++[cB p x]) 3 true).bi (b f (jv p c.toNat) 3 true)/\(b f.qE q 24 false).bi (b f.qE (kU p c.toNat) 24 false)/\True)/\(h<=c/\c<=g)/\(g - c).toNat<(g - x).toNat)/\(decide (x<g)=false->e.length=e.length/\d.length=d.length/\(SV.agg (l f.qE e::l f d::k)).bi (SV.agg [l f.qE (bV p).rows,l f (bV p).bounds,l ew.bu (bV p).bj]))) (by kernel_rfl) ?_;simp only[vcs];have J:∀x:Int,0<=x->x<nR p->nW p=0/\x<cr p/\nR p<=20:=by
  intro x H B;unfold nR at B ⊢;split at B
  ·rename_i G;have:=(cT G).1;simp_all[cr]
  ·omega
 have E:(if nW p=0 then cr p else 0)=((nR p:Nat):Int):=by
  grind[nR,cr]
 have j:∀{a C b D:Nat} {l:List bC},a=C->b=D->(iZ.cells [.ow 4 a 1,.ow 3 b 1,.row .bu l] 130 3 false).bi (.cells [.ow 4 C 1,.ow 3 D 1,.row .bu l] 130 3 false):=by rintro _ _ _ _ _ rfl rfl;rfl
 have o:∀{x y:List Int},x=y->(iZ.row (.i .i64) x 3 true).bi (iZ.row (.i .i64) y 3 true):=by rintro _ _ rfl;rfl
 have h:∀{x y:List (List Int)},x=y->(iZ.row (.qE (.i .i64)) x 24 false).bi (iZ.row (.qE (.i .i64)) y 24 false):=by rintro _ _ rfl;rfl
 refine⟨⟨⟨E,j rfl rfl,o rfl,h rfl⟩,by omega,by omega⟩,?_⟩;rintro i ⟨I,K⟩;refine⟨λF=>?_,λF=>?_⟩;·grind[Mq,zu,Vu,Vt]
 ·rw[show i.toNat=nR p by omega];rfl
def mc (g:bY):Prop:=(g.rows.length=g.bounds.length/\g.bounds.length<=1000/\g.bj.length<=1000)/\(∀r∈g.rows,r.length=g.bj.length/\∀x∈r,0<=x/\x<=1000)/\∀b∈g.bounds, -1000<=b/\b<=1000
def oa (g:bY) (c:List Int):Prop:=∀x∈c,0<=(bN g.bj x.toNat ew.bu.bw).value/\(bN g.bj x.toNat ew.bu.bw).value<=1000000
def nB (g:bY) (c:List Int):Prop:=c.length<=1000/\∀x∈c,0<=x/\x<g.bj.length
def kT (g:bY) (c:List Int) (r:Nat):Int:=(c.map λx=>bN (bN g.rows r []) x.toNat 0).sum
def kb (g:bY) (c:List Int):Bool:=(ω g.bounds.length).all λr=>decide (0<=bN g.bounds r 0 - kT g c r)
def cR (g:bY) (c:List Int):Int:=(c.map λx=>(bN g.bj x.toNat ew.bu.bw).value).sum
theorem Mp {f:Int->Int} {c:List Int} {i:Int} (a:0<=i) (h:i<c.length):((c.take (i+1).toNat).map f).sum=((c.take i.toNat).map f).sum+f (bN c i.toNat 0):=by
 grind[jj]
theorem Ek {f:Int->Int} {c:List Int} {k:Nat} {m:Int} (b:0<=m) (h:∀x∈c,0<=f x/\f x<=m):0<=((c.take k).map f).sum/\((c.take k).map f).sum<=c.length*m:=by
 induction c generalizing k with
 |nil=>simp;|cons x c a=>
  cases k with
  |zero=>simp;exact γu (by omega) b;|succ k=>
   have i:=h x (by simp);obtain⟨g,e⟩:=a (k:=k) λy d=>h y (by simp[d]);simp only[List.take_succ_cons,π,List.sum_cons,List.length_cons];grind
def zr:M9:=⟨78,bY×List Int,.cons yd (.one (cL (.i .i64))),λa=>mc a.1/\nB a.1 a.2,λa=> .sb (kb a.1 a.2)⟩
def Vr (g:bY) (c:List Int):Nat->bG
 |2=> .inv Int (λi=>⟨[(1,.row (.i .i64) c),(2,.ptr 0 0 3),(10,.row (.i .i64) g.bounds),(11,.si .i64 g.bounds.length),(12,.si .i64 i)],[.cells [.row (.qE (.i .i64)) g.rows,.row (.i .i64) g.bounds,.row .bu g.bj] 130 3 false]⟩)
   (λs=>iS s 12) (λi=>(0<=i/\i<=g.bounds.length)/\∀r:Nat,r<i->0<=bN g.bounds r 0 - kT g c r) (λi=>(g.bounds.length - i).toNat) λi k=>match k with
   |5=> .inv (Int×Int) (λy=>⟨[(1,.row (.i .i64) c),(2,.ptr 0 0 3),(5,.si .i64 i),(6,.si .i64 y.2),(10,.row (.i .i64) g.bounds),(11,.si .i64 g.bounds.length),(12,.si .i64 i),(17,.row (.i .i64) c),(18,.si .i64 c.length),(19,.si .i64 y.1)],[.cells [.row (.qE (.i .i64)) g.rows,.row (.i .i64) g.bounds,.row .bu g.bj] 130 3 false]⟩)
     (λs=>(iS s 19,iS s 6)) (λy=>(0<=y.1/\y.1<=c.length)/\y.2=bN g.bounds i.toNat 0 - kT g (c.take y.1.toNat) i.toNat) (λy=>(c.length - y.1).toNat) λ_ _=> .look
   |_=> .look
 |_=> .look
theorem yP:Holds Tryz.prog zr:=by
 refine bI (L:=[]) zr (λa=>Vr a.1 a.2) (by simp) ?_;rintro⟨g,c⟩ ⟨⟨⟨Y,q2,q3⟩,hr,U⟩,O,C⟩;simp only at Y q2 q3 hr U O C;refine NH (let a:=(0:Int);let d:=γf .i64;let f:=Ψ;let h:=γv .i64 0;let j:=VI .i64;let e:=ew.i .i64;let t:=γK 0 0 3;let o:=f e g.bounds;let Q:=(↑g.bounds.length:Int);let q:=(↑g.bounds.length:Int);let z:=d q;let u:=iZ.cells [f e.qE g.rows,o,f ew.bu g.bj] 130 3 false;let s:=(↑c.length:Int);let I:=d s;((((f e c).bi (f e c)/\t.bi t/\o.bi o/\(d Q).bi z/\(h).bi (d 0)/\True)/\u.bi u/\True)/\(a<=a/\a<=q)/\∀(r:Nat),(↑r:Int)<a->a<=bN g.bounds r a - kT g c r)/\∀(x:Int),let F:=bN g.bounds x.toNat a;let E:=d F;let y:=bN g.rows x.toNat e.qE.bw;let k:=x+(1:Int);let A:=d k;((a<=x/\x<=q)/\∀(r:Nat),(↑r:Int)<x->a<=bN g.bounds r a - kT g c r)->(decide (x<q)=true->a<=x/\x<Q/\x.toNat<g.bounds.length/\((((f e c).bi (f e c)/\t.bi t/\(d x).bi (d x)/\E.bi E/\o.bi o/\z.bi z/\(d x).bi (d x)/\(f e c).bi (f e c)/\(d (↑c.length:Int)).bi I/\(h).bi (d 0)/\True)/\u.bi u/\True)/\(a<=a/\a<=s)/\F=F - kT g [] x.toNat)/\∀(b:Int×Int),let p:=bN c b.1.toNat a;let w:=b.2 - bN y p.toNat a;let l:=b.1+(1:Int);let n:=d x;let H:=d w;let D:=d l;let G:=decide (b.2<a);(a<=b.1/\b.1<=s)/\b.2=F - kT g (Γ b.1.toNat c) x.toNat->(decide (b.1<s)=true->a<=b.1/\b.1<(↑c.length:Int)/\b.1.toNat<c.length/\a<=x/\x<(↑g.rows.length:Int)/\x.toNat<g.rows.length/\a<=p/\p<(↑y.length:Int)/\p.toNat<y.length/\j w/\j l/\(((f e c).bi (f e c)/\t.bi t/\n.bi n/\H.bi H/\o.bi o/\z.bi z/\n.bi n/\(f e c).bi (f e c)/\I.bi I/\D.bi D/\True)/\u.bi u/\True)/\((a<=l/\l<=s)/\w=F - kT g (Γ l.toNat c) x.toNat)/\(s - l).toNat<(s - b.1).toNat)/\(decide (b.1<s)=false->(G=true->(SV.bl false).bi (SV.sb (kb g c)))/\(G=false->j k/\(((f e c).bi (f e c)/\t.bi t/\o.bi o/\z.bi z/\A.bi A/\True)/\u.bi u/\True)/\((a<=k/\k<=q)/\∀(r:Nat),(↑r:Int)<k->a<=bN g.bounds r a - kT g c r)/\(q - k).toNat<(q - x).toNat)))/\(decide (x<q)=false->(SV.bl true).bi (SV.sb (kb g c)))) (by kernel_rfl) ?_;simp only[vcs];have hd:(ew.i IntKind.i64).qE.bw=([]:List Int):=rfl;rw[hd];have M:∀r:Nat,r<g.rows.length->(bN g.rows r []).length=g.bj.length/\∀x∈c,0<=bN (bN g.rows r []) x.toNat 0/\bN (bN g.rows r []) x.toNat 0<=1000:=λr h=>by
  grind[cE]
 refine⟨⟨by omega,λr h=>by omega⟩,?_⟩;rintro i ⟨⟨Z,i1⟩,K⟩;refine⟨λP=>⟨Z,P,by omega,⟨by omega,by simp[kT]⟩,?_⟩,λP=>?_⟩
 ·obtain⟨W,B⟩:=M i.toNat (by omega);have a1:=U _ (cE (d:=0) (show i.toNat<g.bounds.length by omega));rintro⟨j,v⟩ ⟨⟨S,j1⟩,J⟩;simp only at S j1 J ⊢;refine⟨λV=>?_,λV=>?_⟩
  ·have hx:=C _ (cE (d:=0) (show j.toNat<c.length by omega));have hs:kT g (c.take (j+1).toNat) i.toNat=kT g (c.take j.toNat) i.toNat+bN (bN g.rows i.toNat []) (bN c j.toNat 0).toNat 0:=Mp (f:=λx=>bN (bN g.rows i.toNat []) x.toNat 0) S V;have X:0<=kT g (c.take j.toNat) i.toNat/\kT g (c.take j.toNat) i.toNat<=c.length*1000:=Ek (f:=λx=>bN (bN g.rows i.toNat []) x.toNat 0) (m:=1000) (by omega) B;have a0:=B _ (cE (d:=0) (show j.toNat<c.length by omega));omega
  ·have N:j.toNat=c.length:=by omega
   rw[N,ψ] at J;refine⟨λR=>?_,λT=>⟨by omega,⟨by omega,λr h=>?_⟩,by omega⟩⟩
   ·symm;rw[<-Bool.not_eq_true,kb,List.all_eq_true];intro h;have:=of_decide_eq_true (h i.toNat (γq.2 (by omega)));omega
   ·by_cases h2:(r:Int)<i;·simp_all
    ·rw[show r=i.toNat by omega,<-J];omega
 grind[kb]
def vF:M9:=⟨75,bY×List Int,.cons yd (.one (cL (.i .i64))),λa=>mc a.1/\nB a.1 a.2/\oa a.1 a.2,λa=> .si .i64 (cR a.1 a.2)⟩
def Vq (g:bY) (c:List Int):Nat->bG
 |3=> .inv Int (λi=>⟨[(2,.ptr 0 0 3),(5,.si .i64 (cR g (c.take i.toNat))),(8,.row (.i .i64) c),(9,.si .i64 c.length),(10,.si .i64 i)],[.cells [.row (.qE (.i .i64)) g.rows,.row (.i .i64) g.bounds,.row .bu g.bj] 130 3 false]⟩)
   (λs=>iS s 10) (λi=>0<=i/\i<=c.length) (λi=>(c.length - i).toNat) λ_ _=> .look
 |_=> .look
theorem qQ:Holds Tryz.prog vF:=by
 refine bI (L:=[]) vF (λa=>Vq a.1 a.2) (by simp) ?_;rintro⟨g,c⟩ ⟨⟨⟨D,E,C⟩,B,y⟩,⟨q,l⟩,e⟩;simp only[oa] at D E C B y q l e;refine NH (let a:=γf .i64;let d:=(0:Int);let e:=Ψ;let o:=γK 0 0 3;let v:=γv .i64 0;let j:=ew.i .i64;let b:=(↑c.length:Int);let r:=a b;let n:=iZ.cells [e j.qE g.rows,e j g.bounds,e ew.bu g.bj] 130 3 false;(((o.bi o/\v.bi (a (cR g []))/\(e j c).bi (e j c)/\(a (↑c.length:Int)).bi r/\v.bi (a 0)/\True)/\n.bi n/\True)/\d<=d/\d<=b)/\∀(x:Int),let p:=bN c x.toNat d;let t:=cR g (Γ x.toNat c);let s:=t+(bN g.bj p.toNat ew.bu.bw).value;let h:=x+(1:Int);let k:=a h;d<=x/\x<=b->(decide (x<b)=true->d<=x/\x<(↑c.length:Int)/\x.toNat<c.length/\d<=p/\p<(↑g.bj.length:Int)/\p.toNat<g.bj.length/\VI .i64 s/\VI .i64 h/\((o.bi o/\(a s).bi (a (cR g (Γ h.toNat c)))/\(e j c).bi (e j c)/\r.bi r/\k.bi k/\True)/\n.bi n/\True)/\(d<=h/\h<=b)/\(b - h).toNat<(b - x).toNat)/\(decide (x<b)=false->(a t).bi (a (cR g c)))) (by kernel_rfl) ?_;conv=>zeta
 try simp only[vcs]
 refine⟨⟨by simp[cR],by omega,by omega⟩,?_⟩;rintro i ⟨A,H⟩;refine⟨λu=>?_,λu=>?_⟩
 ·have F:=l _ (cE (d:=0) (show i.toNat<c.length by omega));have G:cR g (c.take (i+1).toNat)=cR g (c.take i.toNat)+(bN g.bj (bN c i.toNat 0).toNat ew.bu.bw).value:=Mp (f:=λx=>(bN g.bj x.toNat ew.bu.bw).value) A u;have w:0<=cR g (c.take i.toNat)/\cR g (c.take i.toNat)<=c.length*1000000:=Ek (f:=λx=>(bN g.bj x.toNat ew.bu.bw).value) (m:=1000000) (by omega) e;have z:=e _ (cE (d:=0) (show i.toNat<c.length by omega));omega
 ·rw[show i.toNat=c.length by omega,ψ]
end Go.Vi
