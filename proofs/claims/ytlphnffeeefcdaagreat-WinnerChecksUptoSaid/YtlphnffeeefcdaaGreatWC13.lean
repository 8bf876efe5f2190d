/-
  Contracts: the methods of a search.
  Conditions: none.
-/
import Derived.Test.YtlphnffeeefcdaaGreatWC12
import Derived.Test.YtlphnffeeefcdaaGreatWC06
import Derived.Test.YtlphnffeeefcdaaGreatWC11
import Derived.Test.YtlphnffeeefcdaaGreatWC10
import Derived.Test.YtlphnffeeefcdaaGreatWC07
import Derived.Test.YtlphnffeeefcdaaGreatWC09
import Derived.Test.YtlphnffeeefcdaaGreatWC08
set_option maxRecDepth 100000
set_option maxHeartbeats 4000000
set_option linter.all false
open Bool renaming false_ne_true->ζK,and_eq_true->θ,not_eq_true'->γX
open Classical renaming not_not->γa
open Go.Vi.AV.sc renaming injEq->γ7
open Go.Vi.SV renaming bl->γ0,sb->γn,si->Ω,row->Δ,fn->ζB,ow->γz,ptr->γU,il->γo,agg->γF
open Int renaming toNat_of_nonneg->δ6,ofNat_lt->εM,le_of_lt->ω
open IntCast renaming intCast->ζ
open List renaming take_append_drop->γK,map_cons->φ,map_nil->γv,length->Φ,length_filter_le->γ8,mem_map->γf,mem_filter->γJ,length_map->γT,map->γd,length_set->Ψ,getElem_of_mem->γB,length_append->γq,replicate->δ,length_replicate->δq,all_eq_true->ξ,take->τ,map_append->γg,length_take->γG,nodup_append->γt
open List.cons renaming injEq->Ξ
open Nat renaming lt_of_lt_of_le->γj
open Option renaming isSome_eq_false_iff->γY,isNone_iff_eq_none->γL,isSome_iff_exists->γk,getD_some->γ2
open Option.some renaming injEq->γ
open Rat renaming not_lt->ζA
namespace Go.Vi
open Go.Proofs.YtlphnffeeefcdaaGreat.Ir
open Go.Proofs
structure dQ where
 p:bz
 ch:List Int
 val:Int
 found:Bool
 en:Option Int
 k1:Nat
 k2:Nat
 most:Int
 err:Int
 prf:List cB
 fx:List Int
def dQ.cs (x:dQ) (e:SV) (i j:Nat):List SV:=[.row (.i .i64) x.ch,.si .i64 x.val,.sb x.found,e,.ow i x.k1 5,.ow j x.k2 1,.si .i64 x.most,.si .i64 x.err]
def dQ.yJ (x:dQ):cu:=[.cells (x.p.ss++x.cs (.fn (.func 45) [] []) 1 2) 85 28 false,.row bD x.prf 68 true,.row (.i .i64) x.fx 3 true]
def dQ.yK (x:dQ) (m:Int):cu:=[.cells (x.p.ss++x.cs (.fn (.func 89) [] [.ptr 1 0 1]) 2 3) 85 28 false,.cells [.si .i64 m] 2 1 false,.row bD x.prf 68 true,.row (.i .i64) x.fx 3 true]
def dQ.gW (x:dQ):cu:=match x.en with
 |none=>x.yJ
 |some m=>x.yK m
def K3:cu->Option dQ
 |[.cells g 85 28 false,.row k a 68 true,.row j e 3 true]=>match g.drop 20 with
  |[c,v,b,.fn (.func 45) [] [],.ow 1 l 5,.ow 2 h 1,d,f]=>match vE (g.take 20),jH (.i .i64) c,v.int .i64,b.boo,d.int .i64,f.int .i64 with
   |some p,some c,some v,some b,some d,some f=>match iF k bD a,iF j (.i .i64) e with
    |some a,some e=>some ⟨p,c,v,b,none,l,h,d,f,a,e⟩
    |_,_=>none
   |_,_,_,_,_,_=>none
  |_=>none
 |[.cells g 85 28 false,.cells [m] 2 1 false,.row k a 68 true,.row j e 3 true]=>match g.drop 20 with
  |[c,v,b,.fn (.func 89) [] [.ptr 1 0 1],.ow 2 l 5,.ow 3 h 1,d,f]=>match vE (g.take 20),jH (.i .i64) c,v.int .i64,b.boo,d.int .i64,f.int .i64 with
   |some p,some c,some v,some b,some d,some f=>match iF k bD a,iF j (.i .i64) e,m.int .i64 with
    |some a,some e,some m=>some ⟨p,c,v,b,some m,l,h,d,f,a,e⟩
    |_,_,_=>none
   |_,_,_,_,_,_=>none
  |_=>none
 |_=>none
theorem aez {o:cu} {x:dQ} (h:K3 o=some x):gO o=gO x.gW:=by
 unfold K3 at h;split at h
 ·rename_i f G F E L;split at h
  ·rename_i c v b A a r B z;split at h
   ·rename_i p K J I e i D t j k w q;split at h
    ·rename_i s l C y;simp only[γ] at h;subst h;obtain⟨rfl,n⟩:=mM C;obtain⟨rfl,d⟩:=mM y;cases n;cases d;have u:gL f=gL p.ss++gL [c,v,b,.fn (.func 45) [] [],.ow 1 A 5,.ow 2 a 1,r,B]:=by
      rw[<-z,<-zQ D,<-vu,γK]
     simp only[dQ.gW,dQ.yJ,dQ.cs,gO,φ,γv,bA.g,vu,u];simp only[gL,oZ t,iP j,xn k,iP w,iP q,SV.g]
    ·cases h
   ·cases h
  ·cases h
 ·rename_i f m G F E L;split at h
  ·rename_i c v b A a r B z;split at h
   ·rename_i p K J I e i D t j k w q;split at h
    ·rename_i s l M C y H;simp only[γ] at h;subst h;obtain⟨rfl,n⟩:=mM C;obtain⟨rfl,d⟩:=mM y;cases n;cases d;have u:gL f=gL p.ss++gL [c,v,b,.fn (.func 89) [] [.ptr 1 0 1],.ow 2 A 5,.ow 3 a 1,r,B]:=by
      rw[<-z,<-zQ D,<-vu,γK]
     simp only[dQ.gW,dQ.yK,dQ.cs,gO,φ,γv,bA.g,vu,u];simp only[gL,oZ t,iP j,xn k,iP w,iP q,iP H,SV.g]
    ·cases h
   ·cases h
  ·cases h
 ·cases h
theorem aeA {p q:bz} (h:gL p.ss=gL q.ss):p=q:=dO.inj p q (by grind[dO,SV.g])
theorem aeB {x y:dQ} (h:gO x.gW=gO y.gW):x=y:=by
 obtain⟨p,E,u,b,J,H,G,k,o,A,L⟩:=x;obtain⟨B,n,d,a,l,r,v,c,f,q,C⟩:=y;have w:∀{e I:SV} {i j:Nat},gL (p.ss++(dQ.mk p E u b J H G k o A L).cs e i j)=gL (B.ss++(dQ.mk B n d a l r v c f q C).cs I i j)->p=B/\E=n/\u=d/\b=a/\H=r/\G=v/\k=c/\o=f:=by
  intro e I i j h;rw[vu,vu] at h;obtain⟨z,t⟩:=List.append_inj h (by rw[jV,jV];rfl);simp only[dQ.cs,gL,SV.g,Ξ,γ7,Value.int.injEq,Value.bool.injEq,AV.os.injEq,AV.sl.injEq,and_true,true_and] at t;grind[aeA,pr]
 cases J with
 |none=>
  cases l with
  |none=>
   simp only[dQ.gW,dQ.yJ,gO,φ,γv,bA.g,Ξ,bW.cells.injEq,and_true] at h;obtain⟨z,t,D⟩:=h;obtain⟨rfl,rfl,rfl,rfl,rfl,rfl,rfl,rfl⟩:=w z;rw[pr (s:=bD) t,pr (s:=.i .i64) D];|some K=>
   have:=congrArg Φ h;simp_all[dQ.gW,dQ.yJ,dQ.yK,gO]
 |some m=>
  cases l with
  |none=>
   have:=congrArg Φ h;simp_all[dQ.gW,dQ.yJ,dQ.yK,gO];|some K=>
   simp only[dQ.gW,dQ.yK,gO,φ,γv,bA.g,Ξ,bW.cells.injEq,and_true] at h;obtain⟨z,F,t,D⟩:=h;obtain⟨rfl,rfl,rfl,rfl,rfl,rfl,rfl,rfl⟩:=w z;simp only[gL,SV.g,Ξ,γ7,Value.int.injEq,and_true,true_and] at F;subst F;rw[pr (s:=bD) t,pr (s:=.i .i64) D]
def E7 (f:FuncId) (c:Type) (A:qB c) (i:dQ->c->Prop) (e:dQ->c->SV) (out:dQ->c->dQ):dD where
 f:=f;α:=dQ×c;put a:=.ptr 0 0 28::A.put a.2;st a:=a.1.gW;dec v o:=match v with
  | .ptr 0 0 28::r=>match K3 o,A.dec r with
   |some s,some b=>some (s,b)
   |_,_=>none
  |_=>none;ok v o a h:=by
  split at h
  ·split at h
   ·rename_i d g;simp only[γ] at h;subst h;exact⟨by simp only[gL,A.ok _ _ g],aez d⟩
   ·cases h
  ·cases h
 inj a b d g:=by
  simp only[gL,Ξ,true_and] at d;exact Prod.ext (aeB g) (A.inj _ _ d)
 dom a:=i a.1 a.2;res a:=e a.1 a.2;out a:=(out a.1 a.2).gW
def cJ (e:Option Int) (v:Int):Bool:=match e with
 |none=>false
 |some m=>decide (m<=v)
def dQ.s (x:dQ):dh:=⟨x.ch,x.val,x.found,x.prf,x.err⟩
def dQ.upd (x:dQ) (s:dh):dQ:=⟨x.p,s.ch,s.val,s.found,x.en,s.prf.length,x.k2,x.most,s.err,s.prf,x.fx⟩
structure fc (x:dQ):Prop where
 f:eQ x.p x.fx
 k1:x.k1=x.prf.length
 k2:x.k2=x.fx.length
 v0:0<=x.val
 v1:x.val<=9223372036854775806
 m0:1<=x.most
 m1:x.most<=65536
 l:x.prf.length<=65536
 c:x.ch.length<=9223372036854775807
def K4:dD where
 f:=45;α:=Alloc;put a:=[mf.put a];st _:=[];dec v o:=match v,o with
  |[a],[]=>mf.dec a
  |_,_=>none;ok v o a h:=by
  split at h;·exact⟨by simp only[gL,mf.ok _ _ h],rfl⟩
  ·cases h
 inj a b c _:=by
  simp only[gL,Ξ,and_true] at c;exact mf.inj _ _ c
 dom _:=True;res _:=.sb false;out _:=[]
theorem h438:eu Tryz.prog K4:=by
 refine lp (L:=[]) (W:=[]) K4 lk (by simp) (by simp) ?_;rintro(a:Alloc) -;refine bQ ((γ0 false).same (γn false)/\True) (by kernel_rfl) ?_;simp_all
def K5:dD where
 f:=89;α:=Alloc×Int;put a:=[mf.put a.1,.ptr 0 0 1];st a:=[.cells [.si .i64 a.2] 2 1 false];dec v o:=match v,o with
  |[a,.ptr 0 0 1],[.cells [m] 2 1 false]=>match mf.dec a,m.int .i64 with
   |some a,some m=>some (a,m)
   |_,_=>none
  |_,_=>none;ok v o a h:=by
  split at h
  ·split at h
   ·rename_i c d;simp only[γ] at h;subst h;exact⟨by simp only[gL,mf.ok _ _ c],by simp only[gO,φ,γv,bA.g,gL,iP d,SV.g]⟩
   ·cases h
  ·cases h
 inj a b c d:=by
  simp only[gL,Ξ,and_true] at c;simp only[gO,φ,γv,bA.g,gL,SV.g,Ξ,bW.cells.injEq,γ7,Value.int.injEq,and_true,true_and] at d;exact Prod.ext (mf.inj _ _ c) d
 dom _:=True;res a:=.sb (decide (a.2<=a.1.value));out a:=[.cells [.si .i64 a.2] 2 1 false]
theorem h442:eu Tryz.prog K5:=by
 refine lp (L:=[]) (W:=[]) K5 lk (by simp) (by simp) ?_;rintro⟨a,m⟩ -;refine bQ (let b:=bA.cells [Ω .i64 m] 2 1 false;(γn (decide (m<=a.value))).same (γn (decide (m<=a.value)))/\b.same b/\True) (by kernel_rfl) ?_;conv=>zeta
 exact⟨rfl,rfl,trivial⟩
def Bh:dD:=E7 46 Alloc (.one mf) (λx _=>x.k1=x.prf.length) (λ_ _=> .bN []) λx a=>x.upd (ek (cJ x.en) x.s a)
theorem h439:eu Tryz.prog Bh:=by
 refine lp (L:=[]) (W:=[K4,K5]) Bh lk (by grind[h438,h442]) (by simp) ?_;rintro⟨⟨p,f,d,b,n,k1,o,g,e,c,q⟩,a⟩ M;have M:k1=c.length:=M;subst M;have e1:∀n:Int->Bool,d<a.value->ek n ⟨f,d,b,c,e⟩ a=⟨a.chosen,a.value,b||n a.value,c,e⟩:=λn h=>if_pos h;have e2:∀n:Int->Bool,¬d<a.value->ek n ⟨f,d,b,c,e⟩ a=⟨f,d,b,c,e⟩:=λn h=>if_neg h;cases n with
 |none=>
  refine bQ (let h:=Ω .i64;let m:=bA.row;let n:=bA.cells;let A:=Δ;let L:=SV.bN;let Y:=h p.supply.a0;let R:=h p.supply.a1;let V:=h p.supply.a2;let N:=h p.supply.a3;let S:=h p.supply.a4;let Z:=h p.supply.a5;let K:=h p.opn.a0;let X:=h p.opn.a1;let Q:=h p.opn.a2;let D:=h p.opn.a3;let z:=h p.opn.a4;let y:=h p.opn.a5;let v:=h p.cls.a0;let t:=h p.cls.a1;let C:=h p.cls.a2;let w:=h p.cls.a3;let r:=h p.cls.a4;let B:=h p.cls.a5;let k:=bw.i .i64;let s:=A k p.classes;let x:=A bw.off p.offers;let H:=ζB (Fn.func 45) [] [];let G:=γz 2 o 1;let F:=h g;let I:=[H,γz 1 c.length 5,G,F,h e];let j:=ek (cJ none) (dh.mk f d b c e) a;let E:=n [Y,R,V,N,S,Z,K,X,Q,D,z,y,v,t,C,w,r,B,s,x,A k j.ch,h j.val,γn j.found,H,γz 1 j.prf.length 5,G,F,h j.err] 85 28 false;let l:=m k q 3 true;let J:=decide (d<a.value);let M:=λ(u T:Bool) (O:List Int) (U:Int) (P:SV) ↦u=T->(L []).same (L [])/\(n (Y::R::V::N::S::Z::K::X::Q::D::z::y::v::t::C::w::r::B::s::x::A k O::h U::P::I) 85 28 false).same E/\(m bD c 68 true).same (m bD j.prf 68 true)/\l.same l/\True;(J=true->M b true a.chosen a.value (γ0 true)/\(b=false->True/\(L []).same (L [])/\(n (Y::R::V::N::S::Z::K::X::Q::D::z::y::v::t::C::w::r::B::s::x::A k a.chosen::h a.value::γn false::I) 85 28 false).same E/\(m bD c 68 true).same (m bD j.prf 68 true)/\l.same l/\True))/\M J false f d (γn b)) (by kernel_rfl) ?_;conv=>zeta
  refine⟨λh=>?_,λh=>?_⟩
  ·simp only[e1 _ (of_decide_eq_true h)];refine⟨λA=>?_,λA=>?_⟩
   ·subst A;exact⟨rfl,rfl,rfl,rfl,trivial⟩
   ·subst A;exact⟨trivial,rfl,rfl,rfl,rfl,trivial⟩
  ·simp only[e2 _ (of_decide_eq_false h)];exact⟨rfl,rfl,rfl,rfl,trivial⟩;|some m=>
  refine bQ (let h:=Ω .i64;let j:=bw.i .i64;let k:=bA.cells;let l:=Δ;let n:=bA.row;let r:=γz;let s:=γU;let t:=SV.bN;let u:=γn;(decide (d<a.value)=true->(b=true->(t []).same (t [])/\(k [h p.supply.a0,h p.supply.a1,h p.supply.a2,h p.supply.a3,h p.supply.a4,h p.supply.a5,h p.opn.a0,h p.opn.a1,h p.opn.a2,h p.opn.a3,h p.opn.a4,h p.opn.a5,h p.cls.a0,h p.cls.a1,h p.cls.a2,h p.cls.a3,h p.cls.a4,h p.cls.a5,l (j) p.classes,l bw.off p.offers,l (j) a.chosen,h a.value,γ0 true,ζB (Fn.func 89) [] [s 1 0 1],r 2 c.length 5,r 3 o 1,h g,h e] 85 28 false).same (k [h p.supply.a0,h p.supply.a1,h p.supply.a2,h p.supply.a3,h p.supply.a4,h p.supply.a5,h p.opn.a0,h p.opn.a1,h p.opn.a2,h p.opn.a3,h p.opn.a4,h p.opn.a5,h p.cls.a0,h p.cls.a1,h p.cls.a2,h p.cls.a3,h p.cls.a4,h p.cls.a5,l (j) p.classes,l bw.off p.offers,l (j) (ek (cJ (some m)) (dh.mk f d b c e) a).ch,h (ek (cJ (some m)) (dh.mk f d b c e) a).val,u (ek (cJ (some m)) (dh.mk f d b c e) a).found,ζB (Fn.func 89) [] [s 1 0 1],r 2 (ek (cJ (some m)) (dh.mk f d b c e) a).prf.length 5,r 3 o 1,h g,h (ek (cJ (some m)) (dh.mk f d b c e) a).err] 85 28 false)/\(k [h m] 2 1 false).same (k [h m] 2 1 false)/\(n bD c 68 true).same (n bD (ek (cJ (some m)) (dh.mk f d b c e) a).prf 68 true)/\(n (j) q 3 true).same (n (j) q 3 true)/\True)/\(b=false->True/\(t []).same (t [])/\(k [h p.supply.a0,h p.supply.a1,h p.supply.a2,h p.supply.a3,h p.supply.a4,h p.supply.a5,h p.opn.a0,h p.opn.a1,h p.opn.a2,h p.opn.a3,h p.opn.a4,h p.opn.a5,h p.cls.a0,h p.cls.a1,h p.cls.a2,h p.cls.a3,h p.cls.a4,h p.cls.a5,l (j) p.classes,l bw.off p.offers,l (j) a.chosen,h a.value,u (decide (m<=a.value)),ζB (Fn.func 89) [] [s 1 0 1],r 2 c.length 5,r 3 o 1,h g,h e] 85 28 false).same (k [h p.supply.a0,h p.supply.a1,h p.supply.a2,h p.supply.a3,h p.supply.a4,h p.supply.a5,h p.opn.a0,h p.opn.a1,h p.opn.a2,h p.opn.a3,h p.opn.a4,h p.opn.a5,h p.cls.a0,h p.cls.a1,h p.cls.a2,h p.cls.a3,h p.cls.a4,h p.cls.a5,l (j) p.classes,l bw.off p.offers,l (j) (ek (cJ (some m)) (dh.mk f d b c e) a).ch,h (ek (cJ (some m)) (dh.mk f d b c e) a).val,u (ek (cJ (some m)) (dh.mk f d b c e) a).found,ζB (Fn.func 89) [] [s 1 0 1],r 2 (ek (cJ (some m)) (dh.mk f d b c e) a).prf.length 5,r 3 o 1,h g,h (ek (cJ (some m)) (dh.mk f d b c e) a).err] 85 28 false)/\(k [h m] 2 1 false).same (k [h m] 2 1 false)/\(n bD c 68 true).same (n bD (ek (cJ (some m)) (dh.mk f d b c e) a).prf 68 true)/\(n (j) q 3 true).same (n (j) q 3 true)/\True))/\(decide (d<a.value)=false->(t []).same (t [])/\(k [h p.supply.a0,h p.supply.a1,h p.supply.a2,h p.supply.a3,h p.supply.a4,h p.supply.a5,h p.opn.a0,h p.opn.a1,h p.opn.a2,h p.opn.a3,h p.opn.a4,h p.opn.a5,h p.cls.a0,h p.cls.a1,h p.cls.a2,h p.cls.a3,h p.cls.a4,h p.cls.a5,l (j) p.classes,l bw.off p.offers,l (j) f,h d,u b,ζB (Fn.func 89) [] [s 1 0 1],r 2 c.length 5,r 3 o 1,h g,h e] 85 28 false).same (k [h p.supply.a0,h p.supply.a1,h p.supply.a2,h p.supply.a3,h p.supply.a4,h p.supply.a5,h p.opn.a0,h p.opn.a1,h p.opn.a2,h p.opn.a3,h p.opn.a4,h p.opn.a5,h p.cls.a0,h p.cls.a1,h p.cls.a2,h p.cls.a3,h p.cls.a4,h p.cls.a5,l (j) p.classes,l bw.off p.offers,l (j) (ek (cJ (some m)) (dh.mk f d b c e) a).ch,h (ek (cJ (some m)) (dh.mk f d b c e) a).val,u (ek (cJ (some m)) (dh.mk f d b c e) a).found,ζB (Fn.func 89) [] [s 1 0 1],r 2 (ek (cJ (some m)) (dh.mk f d b c e) a).prf.length 5,r 3 o 1,h g,h (ek (cJ (some m)) (dh.mk f d b c e) a).err] 85 28 false)/\(k [h m] 2 1 false).same (k [h m] 2 1 false)/\(n bD c 68 true).same (n bD (ek (cJ (some m)) (dh.mk f d b c e) a).prf 68 true)/\(n (j) q 3 true).same (n (j) q 3 true)/\True)) (by kernel_rfl) ?_;refine⟨λh=>?_,λh=>?_⟩
  ·simp only[e1 _ (of_decide_eq_true h)];refine⟨λA=>?_,λA=>?_⟩
   ·subst A;exact⟨rfl,rfl,rfl,rfl,rfl,trivial⟩
   ·subst A;exact⟨trivial,rfl,rfl,rfl,rfl,rfl,trivial⟩
  ·simp only[e2 _ (of_decide_eq_false h)];exact⟨rfl,rfl,rfl,rfl,rfl,trivial⟩
def K6:dD:=E7 76 (List bM) (.one (cV sF)) (λx a=>fc x/\py a/\a.length=x.p.offers.length) (λx a=>mf.put ⟨eO (vL a),cK ((eO (vL a)).map (oI x.p))⟩) λx _=>x
def kG (x:List Rat) (k:Nat):List Int:=(dL k).filter λi=>decide (0<bp x i.toNat 0)
def lR (p:bz) (l:List Int):Int:=cK (l.map (oI p))
def aeC (x:dQ) (a:List bM):Nat->cC
 |3=>match x.en with
  |none=> .inv Int (λi=>⟨[(0,.ptr 0 0 28),(4,.ptr 3 0 2),(5,.ptr 5 0 2),(10,.row sF a),(11,.si .i64 a.length),(12,.si .i64 i)],
    x.yJ++[.cells [.sc (.slice none 0 0),.si .i64 0] 31 2 false,.row (.i .i64) (kG (vL a) i.toNat) 3 true,.cells [.ow 4 (kG (vL a) i.toNat).length 1,.si .i64 (lR x.p (kG (vL a) i.toNat))] 31 2 false]⟩)
    (λs=>iS s 12) (λi=>0<=i/\i<=a.length) (λi=>(a.length - i).toNat) λ_ _=> .look
  |some m=> .inv Int (λi=>⟨[(0,.ptr 0 0 28),(4,.ptr 4 0 2),(5,.ptr 6 0 2),(10,.row sF a),(11,.si .i64 a.length),(12,.si .i64 i)],
    x.yK m++[.cells [.sc (.slice none 0 0),.si .i64 0] 31 2 false,.row (.i .i64) (kG (vL a) i.toNat) 3 true,.cells [.ow 5 (kG (vL a) i.toNat).length 1,.si .i64 (lR x.p (kG (vL a) i.toNat))] 31 2 false]⟩)
    (λs=>iS s 12) (λi=>0<=i/\i<=a.length) (λi=>(a.length - i).toNat) λ_ _=> .look
 |_=> .look
theorem UJ {x:List Rat} {i:Int} (i0:0<=i):kG x (i+1).toNat=if 0<bp x i.toNat 0 then kG x i.toNat++[i] else kG x i.toNat:=by
 unfold kG;rw[show(i+1).toNat=i.toNat+1 by omega,vZ,List.filter_append,δ6 i0];grind
theorem UK {p:bz} {x:List Rat} {k:Nat} (a:bH p=0) (g:k<=p.offers.length):(kG x k).length<=160/\0<=lR p (kG x k)/\lR p (kG x k)<=160000000:=by
 have e:(kG x k).length<=k:=by
  have:=γ8 (λi:Int=>decide (0<bp x i.toNat 0)) (dL k);rw[jw] at this;exact this
 have c:=qG (dR a) (l:=(kG x k).map (oI p)) λy b=>by
  obtain⟨i,d,rfl⟩:=γf.1 b;have:=rL.1 (γJ.1 d).1;exact dn (by omega)
 rw[γT] at c;have f:=(dR a).2.1;grind[lR]
theorem UL {p:bz} {l:List Int} {i:Int}:lR p (l++[i])=lR p l+(oI p i).value:=by
 simp_all[lR,pS,cK]
theorem h446:eu Tryz.prog K6:=by
 refine Be (L:=[sQ]) (W:=[]) K6 (λa=>aeC a.1 a.2) (by simp) (by grind[h99]) ?_;rintro⟨⟨p,ch,U,F,en,k1,k2,M,a6,a7,fx⟩,a⟩ ⟨V,⟨l,hx,a8,hz⟩,hl⟩;simp only at V hx a8 hl;subst hx;have Z:bH p=0:=V.f.c;have b0:=(dR Z).2.1;have b1:=@fy l;have hl:(fL l).length=p.offers.length:=hl;cases en with
 |none=>
  refine bQ (let a:=Ω .i64;let c:=bA.cells;let d:=bA.row;let f:=(0:Int);let h:=Δ;let m:=γz;let v:=γU;let K:=v 0 0 28;let I:=v 3 0 2;let J:=v 5 0 2;let T:=(↑(fL l).length:Int);let r:=(↑(fL l).length:Int);let Q:=a r;let N:=γo .i64 0;let w:=a 0;let k:=bw.i .i64;let A:=c [a p.supply.a0,a p.supply.a1,a p.supply.a2,a p.supply.a3,a p.supply.a4,a p.supply.a5,a p.opn.a0,a p.opn.a1,a p.opn.a2,a p.opn.a3,a p.opn.a4,a p.opn.a5,a p.cls.a0,a p.cls.a1,a p.cls.a2,a p.cls.a3,a p.cls.a4,a p.cls.a5,h k p.classes,h bw.off p.offers,h k ch,a U,γn F,ζB (Fn.func 45) [] [],m 1 k1 5,m 2 k2 1,a M,a a6] 85 28 false;let g:=d bD a7 68 true;let j:=d k fx 3 true;let o:=SV.sc (Value.slice none 0 0);let z:=c [o,w] 31 2 false;let s:=kG (vL (fL l)) 0;(((K.same K/\I.same I/\J.same J/\(h sF (fL l)).same (h sF (fL l))/\(a T).same Q/\N.same w/\True)/\A.same A/\g.same g/\j.same j/\(c [o,N] 31 2 false).same z/\(d k [] 3 true).same (d k s 3 true)/\(c [m 4 0 1,N] 31 2 false).same (c [m 4 s.length 1,a (lR p s)] 31 2 false)/\True)/\f<=f/\f<=r)/\∀(x:Int),let n:=x+(1:Int);let q:=a n;let B:=kG (vL (fL l)) n.toNat;let t:=bp (fL l) x.toNat sF.dflt;let D:=(t.fst,t.snd.fst,t.snd.snd);let b:=kG (vL (fL l)) x.toNat;let e:=b.length+1;let E:=lR p b+(bp p.offers x.toNat bw.off.dflt).value;let C:=λ(u:bA) (O:Nat) (S:Int) ↦bU .i64 n/\((K.same K/\I.same I/\J.same J/\(h sF (fL l)).same (h sF (fL l))/\Q.same Q/\q.same q/\True)/\A.same A/\g.same g/\j.same j/\z.same z/\u.same (d k B 3 true)/\(c [m 4 O 1,a S] 31 2 false).same (c [m 4 B.length 1,a (lR p B)] 31 2 false)/\True)/\(f<=n/\n<=r)/\(r - n).toNat<(r - x).toNat;let H:=λ(u:Bool) ↦decide (f<gG (bK D))=u;f<=x/\x<=r->(decide (x<r)=true->f<=x/\x<T/\x.toNat<(fL l).length/\cF D/\(H true->1=1/\b.length=b.length/\e*8<=140737488355328/\e<=1000000000000/\f<=x/\x<(↑p.offers.length:Int)/\x.toNat<p.offers.length/\bU .i64 E/\C (d k (b++[x]) 3 true) (b++[x]).length E)/\(H false->C (d k b 3 true) b.length (lR p b)))/\(decide (x<r)=false->b.length=b.length/\b.length=b.length/\b.length=b.length/\(γF [h k b,a (lR p b)]).same (γF [h k (eO (vL (fL l))),a (cK (γd (oI p) (eO (vL (fL l)))))])/\A.same A/\g.same g/\j.same j/\True)) (by kernel_rfl) ?_;simp only[vcs];have P:∀{x y:List Int},x=y->(bA.row (.i .i64) x 3 true).same (bA.row (.i .i64) y 3 true):=by rintro _ _ rfl;rfl
  have a9:∀{x y:List Int} {v w:Int},x=y->v=w->(bA.cells [.ow 4 x.length 1,.si .i64 v] 31 2 false).same (bA.cells [.ow 4 y.length 1,.si .i64 w] 31 2 false):=by rintro _ _ _ _ rfl rfl;rfl
  refine⟨⟨⟨rfl,P rfl,rfl⟩,by omega,by omega⟩,?_⟩;rintro i ⟨Y,i1⟩;have hb:=@UK p (vL (fL l)) i.toNat Z (by omega);refine⟨λhi=>?_,λhi=>?_⟩
  ·have hv:bp (fL l) i.toNat sF.dflt=bu (bp l i.toNat 0):=jj (by omega);have hq:=hz _ (dn (d:=0) (show i.toNat<l.length by omega));have ho:=(kC Z (i:=i) (by omega)).2.2.2;have G:(bp p.offers i.toNat bw.off.dflt).value=(oI p i).value:=rfl;have R:=@UJ (vL (fL l)) i Y;rw[hv,G];rw[jY] at R hb ⊢;simp only[ji,dU,rP];refine⟨Y,hi,by omega,dP hq (by omega),λh=>?_,λh=>?_⟩
   ·rw[if_pos h] at R;rw[R,UL];grind
   grind
  ·rw[show i.toNat=(vL (fL l)).length by rw[jY];omega];rfl;|some m=>
  refine bQ (let a:=Ω .i64;let c:=bA.cells;let d:=bA.row;let f:=(0:Int);let h:=Δ;let v:=γz;let w:=γU;let K:=w 0 0 28;let I:=w 4 0 2;let J:=w 6 0 2;let T:=(↑(fL l).length:Int);let r:=(↑(fL l).length:Int);let Q:=a r;let N:=γo .i64 0;let y:=a 0;let k:=bw.i .i64;let A:=c [a p.supply.a0,a p.supply.a1,a p.supply.a2,a p.supply.a3,a p.supply.a4,a p.supply.a5,a p.opn.a0,a p.opn.a1,a p.opn.a2,a p.opn.a3,a p.opn.a4,a p.opn.a5,a p.cls.a0,a p.cls.a1,a p.cls.a2,a p.cls.a3,a p.cls.a4,a p.cls.a5,h k p.classes,h bw.off p.offers,h k ch,a U,γn F,ζB (Fn.func 89) [] [w 1 0 1],v 2 k1 5,v 3 k2 1,a M,a a6] 85 28 false;let g:=c [a m] 2 1 false;let j:=d bD a7 68 true;let o:=d k fx 3 true;let z:=SV.sc (Value.slice none 0 0);let s:=c [z,y] 31 2 false;let C:=kG (vL (fL l)) 0;(((K.same K/\I.same I/\J.same J/\(h sF (fL l)).same (h sF (fL l))/\(a T).same Q/\N.same y/\True)/\A.same A/\g.same g/\j.same j/\o.same o/\(c [z,N] 31 2 false).same s/\(d k [] 3 true).same (d k C 3 true)/\(c [v 5 0 1,N] 31 2 false).same (c [v 5 C.length 1,a (lR p C)] 31 2 false)/\True)/\f<=f/\f<=r)/\∀(x:Int),let q:=x+(1:Int);let B:=a q;let t:=kG (vL (fL l)) q.toNat;let D:=bp (fL l) x.toNat sF.dflt;let b:=(D.fst,D.snd.fst,D.snd.snd);let e:=kG (vL (fL l)) x.toNat;let E:=e.length+1;let X:=lR p e+(bp p.offers x.toNat bw.off.dflt).value;let H:=λ(u:bA) (O:Nat) (S:Int) ↦bU .i64 q/\((K.same K/\I.same I/\J.same J/\(h sF (fL l)).same (h sF (fL l))/\Q.same Q/\B.same B/\True)/\A.same A/\g.same g/\j.same j/\o.same o/\s.same s/\u.same (d k t 3 true)/\(c [v 5 O 1,a S] 31 2 false).same (c [v 5 t.length 1,a (lR p t)] 31 2 false)/\True)/\(f<=q/\q<=r)/\(r - q).toNat<(r - x).toNat;let n:=λ(u:Bool) ↦decide (f<gG (bK b))=u;f<=x/\x<=r->(decide (x<r)=true->f<=x/\x<T/\x.toNat<(fL l).length/\cF b/\(n true->1=1/\e.length=e.length/\E*8<=140737488355328/\E<=1000000000000/\f<=x/\x<(↑p.offers.length:Int)/\x.toNat<p.offers.length/\bU .i64 X/\H (d k (e++[x]) 3 true) (e++[x]).length X)/\(n false->H (d k e 3 true) e.length (lR p e)))/\(decide (x<r)=false->e.length=e.length/\e.length=e.length/\e.length=e.length/\(γF [h k e,a (lR p e)]).same (γF [h k (eO (vL (fL l))),a (cK (γd (oI p) (eO (vL (fL l)))))])/\A.same A/\g.same g/\j.same j/\o.same o/\True)) (by kernel_rfl) ?_;simp only[vcs];have P:∀{x y:List Int},x=y->(bA.row (.i .i64) x 3 true).same (bA.row (.i .i64) y 3 true):=by rintro _ _ rfl;rfl
  have a9:∀{x y:List Int} {v w:Int},x=y->v=w->(bA.cells [.ow 5 x.length 1,.si .i64 v] 31 2 false).same (bA.cells [.ow 5 y.length 1,.si .i64 w] 31 2 false):=by rintro _ _ _ _ rfl rfl;rfl
  refine⟨⟨⟨rfl,P rfl,rfl⟩,by omega,by omega⟩,?_⟩;rintro i ⟨Y,i1⟩;have hb:=@UK p (vL (fL l)) i.toNat Z (by omega);refine⟨λhi=>?_,λhi=>?_⟩
  ·have hv:bp (fL l) i.toNat sF.dflt=bu (bp l i.toNat 0):=jj (by omega);have hq:=hz _ (dn (d:=0) (show i.toNat<l.length by omega));have ho:=(kC Z (i:=i) (by omega)).2.2.2;have G:(bp p.offers i.toNat bw.off.dflt).value=(oI p i).value:=rfl;have R:=@UJ (vL (fL l)) i Y;rw[hv,G];rw[jY] at R hb ⊢;simp only[ji,dU,rP];refine⟨Y,hi,by omega,dP hq (by omega),λh=>?_,λh=>?_⟩
   ·rw[if_pos h] at R;rw[R,UL];grind
   grind
  ·rw[show i.toNat=(vL (fL l)).length by rw[jY];omega];rfl
def K7:bL:=⟨77,List bM,.one (cV sF),py,λx=> .bN [.si .i64 ((jP (vL x)).getD 0),.sb (jP (vL x)).isSome]⟩
def kH:Option (Int×Rat)->bM
 |none=>(false,([],[]))
 |some (_,q)=>bu q
def wz:Option (Int×Rat)->Int
 |none=>0
 |some (i,_)=>i
def aeD (x:List bM):Nat->cC
 |6=> .inv Int (λi=>⟨[(4,.ptr 0 0 3),(6,.ptr 1 0 3),(7,.ptr 2 0 2),(8,.ptr 3 0 3),(17,.row sF x),(18,.si .i64 x.length),(19,.si .i64 i)],
   [.cells [.sb (bu (ey false 1 2)).1,.row (.i .u32) (bu (ey false 1 2)).2.1,.row (.i .u32) (bu (ey false 1 2)).2.2] 126 3 false,
    .cells [.sb (bu ((1:Int):Rat)).1,.row (.i .u32) (bu ((1:Int):Rat)).2.1,.row (.i .u32) (bu ((1:Int):Rat)).2.2] 126 3 false,
    .cells [.sb (jC (vL x) i.toNat).isSome,.si .i64 (wz (jC (vL x) i.toNat))] 189 2 false,
    .cells [.sb (kH (jC (vL x) i.toNat)).1,.row (.i .u32) (kH (jC (vL x) i.toNat)).2.1,.row (.i .u32) (kH (jC (vL x) i.toNat)).2.2] 126 3 false,.dead,.dead]⟩)
   (λs=>iS s 19) (λi=>0<=i/\i<=x.length) (λi=>(x.length - i).toNat) λ_ _=> .look
 |_=> .look
theorem aeE {q:Rat} {k:Nat} (h:Sz k q):Sz k (mX q):=by
 grind[mX,vR]
theorem UM:mkRat 1 2=(1 / 2:Rat):=by
 grind[Rat.mkRat_eq_div]
theorem UN:Sz 1 (1 / 2:Rat):=by
 grind[UM,As]
theorem K8 {q:Rat} (h:Sz 1000 q):Sz 1002 (q - 1 / 2):=by
 rw[Rat.sub_eq_add_neg];exact vQ h (j:=1) (vR UN)
theorem h447:Holds Tryz.prog K7:=by
 refine cq (L:=[K1,oo,uE,sQ,ye,Av,yd]) K7 aeD (by simpa using⟨h451,h94,h407,h99,h97,h95,h130⟩) ?_;rintro(x:List bM) ⟨l,hx,hl,hz⟩;refine bQ (let b:=bA.cells;let c:=Δ;let d:=(0:Int);let e:=Ω .i64;let h:=(9223372036854775807:Int);let j:=γn;let k:=(-9223372036854775808:Int);let l:=(1:Int);let q:=bU .i64;let B:=γU;let F:=γ0 false;let H:=(2:Int);let m:=bw.i .u32;let J:=B 0 0 3;let K:=B 1 0 3;let M:=B 2 0 2;let I:=B 3 0 3;let p:=(↑x.length:Int);let R:=e p;let L:=γo .i64 0;let S:=ey false l H;let n:=ζ l;let C:=jC (vL x) 0;let s:=b [j (bu S).fst,c m (bu S).snd.fst,c m (bu S).snd.snd] 126 3 false;let t:=b [j (bu n).fst,c m (bu n).snd.fst,c m (bu n).snd.snd] 126 3 false;let a2:=((bu n).fst,(bu n).snd.fst,(bu n).snd.snd);let a6:=((bu S).fst,(bu S).snd.fst,(bu S).snd.snd);let P:=λ(u:Rat) ↦(b [j (bu u).fst,c m (bu u).snd.fst,c m (bu u).snd.snd] 126 3 false).same (b [j (bu u).fst,c m (bu u).snd.fst,c m (bu u).snd.snd] 126 3 false);((k<=l/\l<=h)/\d<H/\H<=h)/\(k<=l/\l<=h)/\0=0/\0=0/\(((J.same J/\K.same K/\M.same M/\I.same I/\(c sF x).same (c sF x)/\(e (↑x.length:Int)).same R/\L.same (e 0)/\True)/\P S/\P n/\(b [F,L] 189 2 false).same (b [j C.isSome,e (wz C)] 189 2 false)/\(b [F,c m [],c m []] 126 3 false).same (b [j (kH C).fst,c m (kH C).snd.fst,c m (kH C).snd.snd] 126 3 false)/\bA.dead.same bA.dead/\bA.dead.same bA.dead/\True)/\d<=d/\d<=p)/\∀(a:Int),let f:=a+l;let r:=e f;let y:=jC (vL x) f.toNat;let N:=b [j y.isSome,e (wz y)] 189 2 false;let o:=bp x a.toNat sF.dflt;let w:=(o.fst,o.snd.fst,o.snd.snd);let v:=bu (bK w - bK a6);let A:=(v.fst,v.snd.fst,v.snd.snd);let Y:=(bu (-bK A)).fst;let E:=(bu (-bK A)).snd;let O:=b [j (kH y).fst,c m (kH y).snd.fst,c m (kH y).snd.snd] 126 3 false;let g:=jC (vL x) a.toNat;let a1:=e (wz g);let a3:=(Y,E.fst,E.snd);let G:=((kH g).fst,(kH g).snd.fst,(kH g).snd.snd);let D:=g.isSome==false&&(decide (wz g=d)&&true);let X:=q f/\((J.same J/\K.same K/\M.same M/\I.same I/\(c sF x).same (c sF x)/\R.same R/\r.same r/\True)/\s.same s/\t.same t/\(b [γ0 true,e a] 189 2 false).same N/\(b [j Y,c m E.fst,c m E.snd] 126 3 false).same O/\bA.dead.same bA.dead/\bA.dead.same bA.dead/\True)/\(d<=f/\f<=p)/\(p - f).toNat<(p - a).toNat;let W:=q f/\((J.same J/\K.same K/\M.same M/\I.same I/\(c sF x).same (c sF x)/\R.same R/\r.same r/\True)/\s.same s/\t.same t/\(b [γ0 true,e a] 189 2 false).same N/\(b [j v.fst,c m v.snd.fst,c m v.snd.snd] 126 3 false).same O/\bA.dead.same bA.dead/\bA.dead.same bA.dead/\True)/\(d<=f/\f<=p)/\(p - f).toNat<(p - a).toNat;let z:=q f/\((J.same J/\K.same K/\M.same M/\I.same I/\(c sF x).same (c sF x)/\R.same R/\r.same r/\True)/\s.same s/\t.same t/\(b [j g.isSome,a1] 189 2 false).same N/\(b [j (kH g).fst,c m (kH g).snd.fst,c m (kH g).snd.snd] 126 3 false).same O/\bA.dead.same bA.dead/\bA.dead.same bA.dead/\True)/\(d<=f/\f<=p)/\(p - f).toNat<(p - a).toNat;let T:=cF A;let Q:=cF w;let a4:=λ(u:Bool) ↦decide (gI (bK a3) (bK G)<d)=u;let a5:=λ(u:Bool) ↦decide (gI (bK A) (bK G)<d)=u;let U:=λ(u:Bool) ↦decide (gG (bK A)<d)=u;let a0:=λ(u:Bool) ↦decide (d<=gI (bK w) (bK a2))=u;let V:=λ(u:Bool) ↦decide (gG (bK w)<=d)=u;let a7:=λ(u:Bool) ↦(!okF w)=u;d<=a/\a<=p->(decide (a<p)=true->d<=a/\a<(↑x.length:Int)/\a.toNat<x.length/\((bB o.snd.fst/\bB o.snd.snd)/\Φ o.snd.fst<=10000000/\Φ o.snd.snd<=10000000)/\(a7 true->z)/\(a7 false->Q/\(V true->z)/\(V false->(Q/\cF a2)/\(a0 true->z)/\(a0 false->(Q/\cF a6)/\T/\(U true->T/\(D=true->X)/\(D=false->(cF a3/\cF G)/\(a4 true->X)/\(a4 false->z)))/\(U false->(D=true->W)/\(D=false->(T/\cF G)/\(a5 true->W)/\(a5 false->z)))))))/\(decide (a<p)=false->(SV.bN [a1,j g.isSome]).same (SV.bN [e ((jP (vL x)).getD d),j (jP (vL x)).isSome]))) (by kernel_rfl) ?_;simp only[vcs];subst hx;rw[fy] at hl;have hh:ey false 1 2=1 / 2:=UM;simp only[jY,fy,hh];have F:∀{b c:Option (Int×Rat)},b=c->(bA.cells [.sb b.isSome,.si .i64 (wz b)] 189 2 false).same (bA.cells [.sb c.isSome,.si .i64 (wz c)] 189 2 false):=by rintro _ _ rfl;rfl
 have H:∀{b c:Option (Int×Rat)},b=c->(bA.cells [.sb (kH b).1,.row (.i .u32) (kH b).2.1,.row (.i .u32) (kH b).2.2] 126 3 false).same (bA.cells [.sb (kH c).1,.row (.i .u32) (kH c).2.1,.row (.i .u32) (kH c).2.2] 126 3 false):=by rintro _ _ rfl;rfl
 have f1:cF (bu (ζ 1)):=dP (k:=1) (by unfold Sz;decide) (by omega);have f2:cF (bu (1 / 2)):=dP UN (by omega);refine⟨⟨⟨by omega,by omega⟩,by omega,by omega⟩,⟨by omega,by omega⟩,⟨⟨rfl,rfl⟩,by omega,by omega⟩,?_⟩;rintro i ⟨i0,i1⟩;refine⟨λhi=>?_,λhi=>?_⟩
 ·have hv:bp (fL l) i.toNat sF.dflt=bu (bp l i.toNat 0):=jj (by omega);have hq:=hz _ (dn (d:=0) (show i.toNat<l.length by omega));have hs:jC l (i+1).toNat=if 0<bp l i.toNat 0/\bp l i.toNat 0<1 then(match jC l i.toNat with
   |none=>some (i,mX (bp l i.toNat 0 - 1 / 2))
   |some (j,d)=>if mX (bp l i.toNat 0 - 1 / 2)<d then some (i,mX (bp l i.toNat 0 - 1 / 2)) else some (j,d)) else jC l i.toNat:=by
   rw[show(i+1).toNat=i.toNat+1 by omega];conv=>lhs;unfold jC
   rw[δ6 i0];cases jC l i.toNat<;>rfl
  have Z:∀j d,jC l i.toNat=some (j,d)->cF (bu d):=λj d h=>by
   obtain⟨h1,h2,h3⟩:=KZ h;rw[h3];exact dP (aeE (K8 (hz _ (dn (by omega))))) (by omega)
  rw[hv,hs];generalize bp l i.toNat 0=q at*;generalize jC l i.toNat=B at*;simp only[ji,dU];obtain⟨_,⟨u1,u2,u3⟩,⟨u4,u5,u6⟩⟩:=jg q;obtain⟨m1,m2⟩:=lM hq;have a8:=Bg q;have fq:cF (bu q):=dP hq (by omega);have fd:cF (bu (q - 1 / 2)):=dP (K8 hq) (by omega);have fn:cF (bu (-(q - 1 / 2))):=dP (vR (K8 hq)) (by omega);refine⟨i0,hi,by omega,⟨⟨u1,u4⟩,by omega,by omega⟩,λh=>absurd a8 (by rw[show okF (bu q)=false from h];simp),λ_=>⟨fq,λh1=>?_,λh1=>⟨⟨fq,f1⟩,λh2=>?_,λh2=>?_⟩⟩⟩
  ·rw[if_neg (λh=>by have:=rP.2 h.1;omega)];exact⟨by omega,⟨F rfl,H rfl⟩,by omega⟩
  ·rw[if_neg (λh=>by have:=rJ.2 h.2;have e:gI q (ζ 1)=gI q 1:=rfl;omega)];exact⟨by omega,⟨F rfl,H rfl⟩,by omega⟩
  ·have hp:0<q/\q<1:=⟨rP.1 (by omega),rJ.1 (by have e:gI q (ζ 1)=gI q 1:=rfl;omega)⟩;rw[if_pos hp];refine⟨⟨fq,f2⟩,fd,λh3=>?_,λh3=>?_⟩
   ·have ha:mX (q - 1 / 2)= -(q - 1 / 2):=by unfold mX;rw[if_pos (A7.1 h3)]
    rw[ha];cases B with
    |none=>exact⟨fd,λ_=>⟨by omega,⟨rfl,rfl⟩,by omega⟩,λh=>absurd h (by decide)⟩;|some b=>
     obtain⟨j,d⟩:=b;dsimp only;refine⟨fd,λh=>absurd h.1 ζK,λ_=>⟨⟨fn,Z j d rfl⟩,λP=>?_,λP=>?_⟩⟩
     ·rw[if_pos (rJ.1 (by rw[<-dU d];exact P))];exact⟨by omega,⟨rfl,rfl⟩,by omega⟩
     ·rw[if_neg (λh=>P (by rw[<-dU d] at h;exact rJ.2 h))];exact⟨by omega,⟨F rfl,H rfl⟩,by omega⟩
   ·have ha:mX (q - 1 / 2)=q - 1 / 2:=by unfold mX;rw[if_neg (λh=>h3 (A7.2 h))]
    rw[ha];cases B with
    |none=>exact⟨λ_=>⟨by omega,⟨rfl,rfl⟩,by omega⟩,λh=>absurd h (by decide)⟩;|some b=>
     obtain⟨j,d⟩:=b;dsimp only;refine⟨λh=>absurd h.1 ζK,λ_=>⟨⟨fd,Z j d rfl⟩,λP=>?_,λP=>?_⟩⟩
     ·rw[if_pos (rJ.1 (by rw[<-dU d];exact P))];exact⟨by omega,⟨rfl,rfl⟩,by omega⟩
     ·rw[if_neg (λh=>P (by rw[<-dU d] at h;exact rJ.2 h))];exact⟨by omega,⟨F rfl,H rfl⟩,by omega⟩
 ·rw[show i.toNat=l.length by omega];unfold jP;cases jC l l.length<;>exact⟨rfl,rfl⟩
noncomputable def wA (n:Nat):dD:=E7 47 Int (.one (ef .i64)) (λx a=>fc x/\(0<=a/\a<x.prf.length)/\nF x.fx<n) (λ_ _=> .bN []) λx a=>x.upd (dG x.p (cJ x.en) x.most (nF x.fx) x.s a x.fx)
noncomputable def E8 (n:Nat):dD:=E7 78 (Int×Int×Int) (.cons (ef .i64) (.cons (ef .i64) (.one (ef .i64)))) (λx a=>fc x/\(0<=a.1/\a.1<x.prf.length)/\(0<=a.2.1/\a.2.1<x.fx.length)/\bp x.fx a.2.1.toNat 0=0/\(a.2.2=1\/a.2.2= -1)/\nF (x.fx.set a.2.1.toNat a.2.2)<n) (λ_ _=> .bN []) λx a=>x.upd (dG x.p (cJ x.en) x.most (nF (x.fx.set a.2.1.toNat a.2.2)) x.s a.1 (x.fx.set a.2.1.toNat a.2.2))
theorem agM {L:List bL} {W:List dD} (c:dD) (Λ:c.α->Nat->cC) (i:∀c∈W,eu Tryz.prog c) (e:∀c∈L,Holds Tryz.prog c)
  
  (h:∀a,c.dom a->Vc (Bd (nu L (gC W) qD qE iQ) (Λ a) (fG c.f) (c.put a) (c.st a) λv s=>v.same (c.res a)/\kq s (c.out a))) (j:(iQ c.f).isSome=true:=by kernel_rfl) (b:∀a,(c.put a).length=(fG c.f).params:=by intro _;kernel_rfl) (d:ny c.f W=none:=by kernel_rfl):eu Tryz.prog c:=
 λa g=>Un c rB i e (vG j) b a d (h a g).out
theorem aeF {L:List bL} {W:List dD} (c:dD) (F:fE) (Λ:c.α->Nat->cC) (i:∀c∈W,eu Tryz.prog c) (e:∀c∈L,Holds Tryz.prog c)
  
  (h:∀a,c.dom a->Vc (Bd (nu L (gC W) qD qE iQ) (Λ a) F (c.put a) (c.st a) λv s=>v.same (c.res a)/\kq s (c.out a))) (j:iQ c.f=some F:=by kernel_rfl) (b:∀a,(c.put a).length=F.params:=by intro _;kernel_rfl) (d:ny c.f W=none:=by kernel_rfl):eu Tryz.prog c:=
 λa g=>Un c rB i e j b a d (h a g).out
theorem fc.set {x:dQ} (h:fc x) {k:Nat} {d:Int} (a:d=1\/d= -1):fc ⟨x.p,x.ch,x.val,x.found,x.en,x.k1,x.k2,x.most,x.err,x.prf,x.fx.set k d⟩:=
 ⟨⟨h.f.c,by rw[Ψ];exact h.f.l,K0 h.f.r (by omega)⟩,h.k1,by rw[Ψ];exact h.k2,h.v0,h.v1,h.m0,h.m1,h.l,h.c⟩
theorem aeG {f:List Int} {k:Nat} {d:Int} (b:k<f.length) (a:bp f k 0=0):(f.set k d).set k 0=f:=by
 rw[dj b] at a;rw[List.set_set,<-a,List.set_getElem_self]
theorem aeH {n:Nat} (J:eu Tryz.prog (wA n)):eu Tryz.prog (E8 n):=by
 refine aeF (L:=[]) (W:=[wA n]) (E8 n) (fG 78) lk (by simp_all) (by simp) ?_;rintro⟨⟨p,w,q,e,I,F,j,b,r,g,f⟩,a,k,d⟩ ⟨s,A,o,H,C,z⟩;simp only at s A o H C z;have t:j=f.length:=s.k2;have D:=aeG (d:=d) (show k.toNat<f.length by omega) H;have G:∀{x y:List Int},x=y->(bA.row (.i .i64) x 3 true).same (bA.row (.i .i64) y 3 true):=by rintro _ _ rfl;rfl
 cases I with
 |none=>
  have B:=s.set (k:=k.toNat) C;refine bQ (let m:=Ω .i64;let o:=(0:Int);let s:=bA.row;let t:=Δ;let c:=f.set k.toNat d;let l:=bw.i .i64;let h:=dG p (cJ none) b (nF c) (dh.mk w q e g r) a c;let u:=bA.cells [m p.supply.a0,m p.supply.a1,m p.supply.a2,m p.supply.a3,m p.supply.a4,m p.supply.a5,m p.opn.a0,m p.opn.a1,m p.opn.a2,m p.opn.a3,m p.opn.a4,m p.opn.a5,m p.cls.a0,m p.cls.a1,m p.cls.a2,m p.cls.a3,m p.cls.a4,m p.cls.a5,t l p.classes,t bw.off p.offers,t l h.ch,m h.val,γn h.found,ζB (Fn.func 45) [] [],γz 1 h.prf.length 5,γz 2 j 1,m b,m h.err] 85 28 false;let v:=s bD h.prf 68 true;j=f.length/\o<=k/\k<(↑f.length:Int)/\j=f.length/\k.toNat<f.length/\(fc (dQ.mk p w q e none F j b r g c)/\(o<=a/\a<(↑g.length:Int))/\nF c<n)/\j=c.length/\o<=k/\k<(↑c.length:Int)/\j=c.length/\k.toNat<c.length/\(SV.bN []).same (SV.bN [])/\u.same u/\v.same v/\(s l (c.set k.toNat o) 3 true).same (s l f 3 true)/\True) (by kernel_rfl) ?_;conv=>zeta
  rw[Ψ];exact⟨t,o.1,o.2,t,by omega,⟨B,A,z⟩,t,o.1,o.2,t,by omega,rfl,rfl,rfl,G D,trivial⟩;|some m=>
  have B:=s.set (k:=k.toNat) C;refine bQ (let o:=Ω .i64;let s:=(0:Int);let t:=bA.row;let x:=Δ;let c:=f.set k.toNat d;let l:=bw.i .i64;let h:=dG p (cJ (some m)) b (nF c) (dh.mk w q e g r) a c;let u:=bA.cells [o p.supply.a0,o p.supply.a1,o p.supply.a2,o p.supply.a3,o p.supply.a4,o p.supply.a5,o p.opn.a0,o p.opn.a1,o p.opn.a2,o p.opn.a3,o p.opn.a4,o p.opn.a5,o p.cls.a0,o p.cls.a1,o p.cls.a2,o p.cls.a3,o p.cls.a4,o p.cls.a5,x l p.classes,x bw.off p.offers,x l h.ch,o h.val,γn h.found,ζB (Fn.func 89) [] [γU 1 0 1],γz 2 h.prf.length 5,γz 3 j 1,o b,o h.err] 85 28 false;let v:=bA.cells [o m] 2 1 false;let E:=t bD h.prf 68 true;j=f.length/\s<=k/\k<(↑f.length:Int)/\j=f.length/\k.toNat<f.length/\(fc (dQ.mk p w q e (some m) F j b r g c)/\(s<=a/\a<(↑g.length:Int))/\nF c<n)/\j=c.length/\s<=k/\k<(↑c.length:Int)/\j=c.length/\k.toNat<c.length/\(SV.bN []).same (SV.bN [])/\u.same u/\v.same v/\E.same E/\(t l (c.set k.toNat s) 3 true).same (t l f 3 true)/\True) (by kernel_rfl) ?_;conv=>zeta
  rw[Ψ];exact⟨t,o.1,o.2,t,by omega,⟨B,A,z⟩,t,o.1,o.2,t,by omega,rfl,rfl,rfl,rfl,G D,trivial⟩
theorem UO {p:bz} {en:Int->Bool} {most:Int} {f:List Int} (j:eQ p f) {c b:dh->Int->List Int->dh} {s:dh} {a:Int}
  (h:∀k d:Int,(0<=k/\k<f.length)->bp f k.toNat 0=0->(d=1\/d= -1)->∀s a,c s a (f.set k.toNat d)=b s a (f.set k.toNat d)):fK p en most c s a f=fK p en most b s a f:=by
 unfold fK;split;·rfl
 split;·rfl
 rename_i o;have l:iY p f=true:=by simp_all
 split;·rfl
 split;·rfl
 rename_i k n;split;·rfl
 obtain⟨e,i,g⟩:=s7 n;rw[rT] at e;have m:bp f k.toNat 0=0:=sZ (j.ok l) j.r (by omega) i g;simp_all
theorem Bi {p:bz} {en:Int->Bool} {most:Int} {f:List Int} (e:eQ p f) {s:dh} {a:Int}:dG p en most (nF f) s a f=fK p en most (λs a g=>dG p en most (nF g) s a g) s a f:=by
 have j:∀k d:Int,(0<=k/\k<f.length)->bp f k.toNat 0=0->(d=1\/d= -1)->nF f=nF (f.set k.toNat d)+1:=λk d c b i=>mD c b (by omega);cases h:nF f with
 |zero=>exact UO e λk d c b i=>by grind;|succ n=>
  refine UO e λk d c b i s a=>?_;grind
section
variable {p:bz} {en:Int->Bool} {most:Int} {f:List Int} {s O:dh} {a k:Int}
theorem Bj (b:eQ p f) (h:s.err≠0\/s.found=true):dG p en most (nF f) s a f=s:=by
 simp_all[Bi,fK]
theorem UP (c:eQ p f) (h:¬(s.err≠0\/s.found=true)) (b:iY p f=false):dG p en most (nF f) s a f={s with prf:=s.prf.set a.toNat E1}:=by
 simp_all[Bi,fK]
theorem yL (c:eQ p f) (h:¬(s.err≠0\/s.found=true)) (b:iY p f=true) (d:dq p en s f=O) (e:jk p f<((O.val+1:Int):Rat)):dG p en most (nF f) s a f={O with prf:=O.prf.set a.toNat (qS p f)}:=by
 simp_all[Bi,fK]
theorem qb (b:eQ p f) (h:¬(s.err≠0\/s.found=true)) (d:iY p f=true) (c:dq p en s f=O) (g:¬jk p f<((O.val+1:Int):Rat)) (e:jP (dE p f)=none\/most<(O.prf.length:Int)+2):dG p en most (nF f) s a f={O with err:=12}:=by
 subst c;rw[Bi b];unfold fK;grind
theorem yM (d:eQ p f) (h:¬(s.err≠0\/s.found=true)) (b:iY p f=true) (g:dq p en s f=O) (i:¬jk p f<((O.val+1:Int):Rat)) (c:jP (dE p f)=some k) (e:¬most<(O.prf.length:Int)+2):
  dG p en most (nF f) s a f=dG p en most (nF (f.set k.toNat (-1))) (dG p en most (nF (f.set k.toNat 1)) (gP O a k) (O.prf.length+1) (f.set k.toNat 1)) O.prf.length (f.set k.toNat (-1)):=by
 simp_all[Bi,fK,if_neg]
end
theorem fc.UQ {x:dQ} (h:fc x):fc (x.upd (dq x.p (cJ x.en) x.s x.fx)):=by
 obtain⟨d,i,b,a,g⟩:=@E3 x.p (cJ x.en) x.s x.fx;obtain⟨m,j,k⟩:=UE h.f;have b:x.val<=(dq x.p (cJ x.en) x.s x.fx).val:=b;have a:(dq x.p (cJ x.en) x.s x.fx).val=x.val\/(dq x.p (cJ x.en) x.s x.fx).val=(px x.p x.fx).value:=a;have n:=h.v0;have o:=h.v1;refine⟨h.f,rfl,h.k2,?_,?_,h.m0,h.m1,?_,?_⟩
 ·show 0<=(dq x.p (cJ x.en) x.s x.fx).val;omega
 ·show(dq x.p (cJ x.en) x.s x.fx).val<=_;omega
 ·show(dq x.p (cJ x.en) x.s x.fx).prf.length<=_;rw[d];exact h.l
 ·show(dq x.p (cJ x.en) x.s x.fx).ch.length<=_;rcases g with e|e;·rw[e];exact h.c
  ·rw[e];omega
theorem fc.vis {x:dQ} (h:fc x) {f:List Int} (i:eQ x.p f) {n:Nat} {a:Int}:fc (x.upd (dG x.p (cJ x.en) x.most n x.s a f)):=by
 obtain⟨m,g,b,d,k,q⟩:=@rU x.p (cJ x.en) x.most n x.s a f i;have b:x.val<=(dG x.p (cJ x.en) x.most n x.s a f).val:=b;have d:(dG x.p (cJ x.en) x.most n x.s a f).val=x.val\/(dG x.p (cJ x.en) x.most n x.s a f).val<=160000000:=d;have r:=h.v0;have t:=h.v1;have o:=h.m1;have j:=h.l;refine⟨h.f,rfl,h.k2,?_,?_,h.m0,h.m1,?_,?_⟩
 ·show 0<=(dG x.p (cJ x.en) x.most n x.s a f).val;omega
 ·show(dG x.p (cJ x.en) x.most n x.s a f).val<=_;omega
 ·show(dG x.p (cJ x.en) x.most n x.s a f).prf.length<=_;rcases g with e|e;·omega
  ·rw[e];exact j
 ·show(dG x.p (cJ x.en) x.most n x.s a f).ch.length<=_;rcases k with e|e;·rw[e];exact h.c
  ·omega
theorem fc.spl {x:dQ} (h:fc x) (b:¬x.most<(x.prf.length:Int)+2) {k:Nat} {l:List cB} (a:k=l.length) (d:l.length=x.prf.length+2):fc ⟨x.p,x.ch,x.val,x.found,x.en,k,x.k2,x.most,x.err,l,x.fx⟩:=
 ⟨h.f,a,h.k2,h.v0,h.v1,h.m0,h.m1,by have:=h.m1;grind,h.c⟩
theorem aeI {n:Nat} (hD:eu Tryz.prog (E8 n)):eu Tryz.prog (wA (n+1)):=by
 refine Zy (L:=[oo,ye,K2,K7]) (W:=[KO,K6,Bh,E8 n]) (wA (n+1)) (fG 47) lk (by grind[h390w,h446,h439]) (by grind[h94,h97,h445,h447]) ?_;rintro⟨⟨p,G,s,g,en,k1,k2,o,t,b,j⟩,a⟩ ⟨b6,ha,hn⟩;simp only at b6 ha hn;have e1:k1=b.length:=b6.k1;have e2:k2=j.length:=b6.k2;subst e1;subst e2;have B:eQ p j:=b6.f;have h8:=(dR B.c).2.1;have i1:j.length=p.offers.length:=B.l;have h6:=B.e;have h4:=B.jZ;have i0:0<=s:=b6.v0;have i3:s<=9223372036854775806:=b6.v1;have i2:1<=o:=b6.m0;have i4:o<=65536:=b6.m1;have h9:b.length<=65536:=b6.l;rcases en with _|m
 ·refine bQ (let c:=Ω .i64;let d:=(0:Int);let e:=bA.cells;let f:=SV.bN;let h:=(1:Int);let k:=bA.row;let l:=(-1:Int);let m:=bU .i64;let q:=(-9223372036854775808:Int);let r:=(9223372036854775807:Int);let u:=Δ;let v:=γn;let w:=(2:Int);let x:=γz;let F:=vL (kF p j);let y:=c p.supply.a0;let z:=c p.supply.a1;let B:=c p.supply.a2;let D:=c p.supply.a3;let c8:=c p.supply.a4;let J:=c p.supply.a5;let K:=c p.opn.a0;let U:=c p.opn.a1;let T:=c p.opn.a2;let P:=c p.opn.a3;let S:=c p.opn.a4;let N:=c p.opn.a5;let I:=c p.cls.a0;let M:=c p.cls.a1;let Y:=c p.cls.a2;let Z:=c p.cls.a3;let V:=c p.cls.a4;let X:=c p.cls.a5;let b1:=bw.i .i64;let R:=u b1 p.classes;let a6:=u bw.off p.offers;let b9:=u b1 G;let c0:=c s;let a9:=ζB (Fn.func 45) [] [];let b8:=x 1 b.length 5;let a8:=x 2 j.length 1;let c3:=c o;let f8:=[a8,c3,γo .i64 12];let d1:=dh.mk G s g b t;let d2:=dG p (cJ none) o (nF j) d1 a j;let b3:=e [y,z,B,D,c8,J,K,U,T,P,S,N,I,M,Y,Z,V,X,R,a6,u b1 d2.ch,c d2.val,v d2.found,a9,x 1 d2.prf.length 5,a8,c3,c d2.err] 85 28 false;let b0:=k bD d2.prf 68 true;let H:=k b1 j 3 true;let c7:=(↑b.length:Int);let d4:=decide (o<c7+w);let Q:=b.length+2;let f0:=c7+h;let d0:=(d,d,d,[]);let E:=[(d,d0),(d,d0)];let b7:Nat:=(b++E).length;let b4:=(jP F).getD d;let d6:=(b++E).set a.toNat (w,b4,c7,f0,[]);let f4:=j.set b4.toNat h;let e3:=dG p (cJ none) o (nF f4) (dh.mk G s g d6 t) f0 f4;let c9:=j.set b4.toNat l;let e9:=dG p (cJ none) o (nF c9) e3 c7 c9;let e6:=((kE p j).fst,(kE p j).snd.fst,(kE p j).snd.snd);let d3:=s+h;let a7:=bu (ζ d3);let f9:=(a7.fst,a7.snd.fst,a7.snd.snd);let f5:=gI (bK e6) (bK f9);let e4:=decide (f5<d);let f1:=(h,d,d,d,qR p j);let A:=ek (cJ none) d1 (Alloc.mk (eO F) (cK (γd (oI p) (eO F))));let C:Nat:=(A.prf++E).length;let g4:=c A.val;let d9:=A.prf.length;let g6:=x 1 d9 5;let f6:=decide (t≠d);let g5:=decide (fz p j≠d);let g7:=decide (d<=f5);let g1:=A.val+h;let f7:=bu (ζ g1);let g3:=(f7.fst,f7.snd.fst,f7.snd.snd);let g8:=decide (gI (bK e6) (bK g3)<d);let e5:=A.prf.length;let c2:=(↑d9:Int);let e7:=decide (o<c2+w);let f2:=c2+h;let e8:=(A.prf++E).set a.toNat (w,b4,c2,f2,[]);let d5:=dG p (cJ none) o (nF f4) (dh.mk A.ch A.val A.found e8 A.err) f2 f4;let c1:=dG p (cJ none) o (nF c9) d5 c2 c9;let ab:=let f3:=(f []).same (f [])/\(e (y::z::B::D::c8::J::K::U::T::P::S::N::I::M::Y::Z::V::X::R::a6::b9::c0::v g::a9::b8::f8) 85 28 false).same b3/\(k bD b 68 true).same b0/\H.same H/\True;py (kF p j)/\((!(jP F).isSome)=true->f3)/\((!(jP F).isSome)=false->m (c7+w)/\(d4=true->f3)/\(d4=false->2=2/\b.length=b.length/\Q*56<=140737488355328/\Q<=1000000000000/\m f0/\b7=b7/\d<=a/\a<(↑b7:Int)/\b7=b7/\a.toNat<b7/\m f0/\(fc (dQ.mk p G s g none b7 j.length o t d6 j)/\(d<=f0/\f0<(↑d6.length:Int))/\(d<=b4/\b4<(↑j.length:Int))/\bp j b4.toNat d=d/\(h=h\/h=l)/\nF f4<n)/\(fc (dQ.mk p e3.ch e3.val e3.found none e3.prf.length j.length o e3.err e3.prf j)/\(d<=c7/\c7<(↑e3.prf.length:Int))/\(d<=b4/\b4<(↑j.length:Int))/\bp j b4.toNat d=d/\(l=h\/l=l)/\nF c9<n)/\(f []).same (f [])/\(e [y,z,B,D,c8,J,K,U,T,P,S,N,I,M,Y,Z,V,X,R,a6,u b1 e9.ch,c e9.val,v e9.found,a9,x 1 e9.prf.length 5,a8,c3,c e9.err] 85 28 false).same b3/\(k bD e9.prf 68 true).same b0/\H.same H/\True));let L:=(cF e6/\cF f9)/\(e4=true->b.length=b.length/\d<=a/\a<(↑b.length:Int)/\b.length=b.length/\a.toNat<b.length/\(f []).same (f [])/\(e [y,z,B,D,c8,J,K,U,T,P,S,N,I,M,Y,Z,V,X,R,a6,b9,c0,v g,a9,b8,a8,c3,c t] 85 28 false).same b3/\(k bD (b.set a.toNat f1) 68 true).same b0/\H.same H/\True)/\(e4=false->ab);let O:=C=C;let W:=(f []).same (f [])/\(e (y::z::B::D::c8::J::K::U::T::P::S::N::I::M::Y::Z::V::X::R::a6::u b1 A.ch::g4::v A.found::a9::g6::f8) 85 28 false).same b3/\(k bD A.prf 68 true).same b0/\H.same H/\True;let aa:=(f []).same (f [])/\(e [y,z,B,D,c8,J,K,U,T,P,S,N,I,M,Y,Z,V,X,R,a6,b9,c0,v g,a9,b8,a8,c3,c t] 85 28 false).same b3/\(k bD b 68 true).same b0/\H.same H/\True;(f6=true->aa)/\(f6=false->(g=true->aa)/\(g=false->(j.length=j.length/\j.length<=1000000000000)/\(g5=true->(f []).same (f [])/\(e [y,z,B,D,c8,J,K,U,T,P,S,N,I,M,Y,Z,V,X,R,a6,b9,c0,v g,a9,b8,a8,c3,c (fz p j)] 85 28 false).same b3/\(k bD b 68 true).same b0/\H.same H/\True)/\(g5=false->((!jZ p j)=true->b.length=b.length/\d<=a/\a<(↑b.length:Int)/\b.length=b.length/\a.toNat<b.length/\(f []).same (f [])/\(e [y,z,B,D,c8,J,K,U,T,P,S,N,I,M,Y,Z,V,X,R,a6,b9,c0,v g,a9,b8,a8,c3,c t] 85 28 false).same b3/\(k bD (b.set a.toNat ((3:Int),d0)) 68 true).same b0/\H.same H/\True)/\((!jZ p j)=false->m d3/\(q<=d3/\d3<=r)/\(cF e6/\cF f9)/\(g7=true->py (kF p j)/\(mW F=true->(fc (dQ.mk p G s g none b.length j.length o t b j)/\py (kF p j)/\(kF p j).length=p.offers.length)/\b.length=b.length/\m g1/\(q<=g1/\g1<=r)/\(cF e6/\cF g3)/\(g8=true->d9=e5/\d<=a/\a<(↑e5:Int)/\d9=e5/\a.toNat<e5/\(f []).same (f [])/\(e [y,z,B,D,c8,J,K,U,T,P,S,N,I,M,Y,Z,V,X,R,a6,u b1 A.ch,g4,v A.found,a9,g6,a8,c3,c A.err] 85 28 false).same b3/\(k bD (A.prf.set a.toNat f1) 68 true).same b0/\H.same H/\True)/\(g8=false->py (kF p j)/\((!(jP F).isSome)=true->W)/\((!(jP F).isSome)=false->m (c2+w)/\(e7=true->W)/\(e7=false->2=2/\d9=e5/\(e5+2)*56<=140737488355328/\e5+2<=1000000000000/\m f2/\O/\d<=a/\a<(↑C:Int)/\O/\a.toNat<C/\m f2/\(fc (dQ.mk p A.ch A.val A.found none C j.length o A.err e8 j)/\(d<=f2/\f2<(↑e8.length:Int))/\(d<=b4/\b4<(↑j.length:Int))/\bp j b4.toNat d=d/\(h=h\/h=l)/\nF f4<n)/\(fc (dQ.mk p d5.ch d5.val d5.found none d5.prf.length j.length o d5.err d5.prf j)/\(d<=c2/\c2<(↑d5.prf.length:Int))/\(d<=b4/\b4<(↑j.length:Int))/\bp j b4.toNat d=d/\(l=h\/l=l)/\nF c9<n)/\(f []).same (f [])/\(e [y,z,B,D,c8,J,K,U,T,P,S,N,I,M,Y,Z,V,X,R,a6,u b1 c1.ch,c c1.val,v c1.found,a9,x 1 c1.prf.length 5,a8,c3,c c1.err] 85 28 false).same b3/\(k bD c1.prf 68 true).same b0/\H.same H/\True))))/\(mW F=false->L))/\(g7=false->L)))))) (by kernel_rfl) ?_;simp only[vcs];refine⟨λh=>by rw[Bj B (.inl h)];exact⟨rfl,rfl⟩,λh0=>⟨λh=>by rw[Bj B (.inr h)];exact⟨rfl,rfl⟩,λh1=>⟨by omega,λh=>absurd h6 h,λ_=>⟨λh=>?_,λhb=>?_⟩⟩⟩⟩
  ·have hs:¬((⟨G,s,g,b,t⟩:dh).err≠0\/(⟨G,s,g,b,t⟩:dh).found=true):=by
    simp_all
   rw[UP B hs (by simp_all)];refine⟨ha.1,ha.2,by omega,?_,rfl⟩;simp only[Ψ];rfl
  ·have hs:¬((⟨G,s,g,b,t⟩:dh).err≠0\/(⟨G,s,g,b,t⟩:dh).found=true):=by
    simp_all
   have D:iY p j=true:=by simp_all
   have c4:=B.ok D;have eB:kE p j=bu (jk p j):=by simp_all[kE]
   have eS:kF p j=fL (dE p j):=by simp_all[kF,dE]
   have eP:qR p j=fL (gX p j):=by simp_all[qR]
   have g0:(dE p j).length=j.length:=rT;have oS:py (fL (dE p j)):=⟨dE p j,rfl,by grind[fy],λq hq=>by
    obtain⟨i,hi,rfl⟩:=γB hq;have:=(EY c4 B.r (i:=i) (by omega)).2.2;grind[dj]⟩;have fB:cF (bu (jk p j)):=dP (Ur hb) (by omega);have fI:∀v:Int,0<=v->v<=9223372036854775807->cF (bu (ζ v)):=λv h0 h1=>dP (lN (by omega) h1) (by omega);have z:∀v:Int,gI (jk p j) (ζ v)<0↔jk p j<((v:Int):Rat):=λv=>rJ;simp only[eB,eS,eP,jY,ji,dU];have h7:eO (dE p j)=(px p j).chosen:=rfl;refine⟨by omega,by omega,⟨fB,fI _ (by omega) (by omega)⟩,λh3=>⟨oS,λhi=>?_,λhi=>?_⟩,λh2=>?_⟩
   ·have hO:dq p (cJ none) ⟨G,s,g,b,t⟩ j=ek (cJ none) ⟨G,s,g,b,t⟩ ⟨eO (dE p j),cK ((eO (dE p j)).map (oI p))⟩:=by
     unfold dq;rw[if_pos ⟨ζA.1 λh=>absurd ((z (s+1)).2 h) (Int.not_lt.2 h3),hi⟩];rfl
    have c5:fc (dQ.upd ⟨p,G,s,g,none,b.length,j.length,o,t,b,j⟩ (dq p (cJ none) ⟨G,s,g,b,t⟩ j)):=b6.UQ;rw[hO] at c5;obtain⟨e1,e2,_⟩:=@E2 (cJ none) ⟨G,s,g,b,t⟩ ⟨eO (dE p j),cK ((eO (dE p j)).map (oI p))⟩;generalize ek (cJ none) ⟨G,s,g,b,t⟩ ⟨eO (dE p j),cK ((eO (dE p j)).map (oI p))⟩=O at*;obtain⟨g2,b5,b2,g9,c6⟩:=O;have e1:b=g9:=Eq.symm e1;have e2:t=c6:=Eq.symm e2;subst e1;subst e2;have w0:0<=b5:=c5.v0;have w1:b5<=9223372036854775806:=c5.v1;dsimp only;refine⟨⟨b6,oS,by rw[fy];omega⟩,by omega,by omega,⟨fB,fI _ (by omega) (by omega)⟩,?_⟩;refine⟨λh=>?_,λh=>⟨oS,λhk=>?_,λhk=>⟨by omega,λhm=>?_,λhm=>?_⟩⟩⟩
    ·rw[yL B hs D hO ((z _).1 h)];refine⟨ha.1,ha.2,by omega,?_,rfl⟩;simp only[Ψ];rfl
    ·rw[qb B hs D hO (λh'=>h ((z _).2 h')) (.inl (γY.1 hk |>γL.1))];exact⟨rfl,rfl⟩
    ·rw[qb B hs D hO (λh'=>h ((z _).2 h')) (.inr hm)];exact⟨rfl,rfl⟩
    ·obtain⟨k,F⟩:=γk.1 hk;rw[yM B hs D hO (λh'=>h ((z _).2 h')) F hm];simp only[F,γ2];obtain⟨u,d8,d7⟩:=s7 F;rw[g0] at u;have w:bp j k.toNat 0=0:=sZ c4 B.r (by omega) d8 d7;have n1:=mD u w (d:=1) (by omega);have n2:=mD u w (d:= -1) (by omega);have y:((b++[zN,zN]).set a.toNat (kg k b.length)).length=b.length+2:=by rw[Ψ,γq];rfl
     have e0:(b++[zN,zN]).length=b.length+2:=by rw[γq];rfl
     have o1:=fc.spl (x:=⟨p,g2,b5,b2,none,b.length,j.length,o,c6,b,j⟩) c5 (k:=(b++[zN,zN]).length) (l:=(b++[zN,zN]).set a.toNat (kg k b.length)) hm (by rw[e0,y]) y;have o2:=o1.vis (f:=j.set k.toNat 1) (B.set (by omega)) (n:=nF (j.set k.toNat 1)) (a:=(b.length:Int)+1);have o3:=(@rU p (cJ none) o (nF (j.set k.toNat 1)) (gP ⟨g2,b5,b2,b,c6⟩ a k) ((b.length:Int)+1) (j.set k.toNat 1) (B.set (by omega))).1;have o4:b.length+2<=(dG p (cJ none) o (nF (j.set k.toNat 1)) (gP ⟨g2,b5,b2,b,c6⟩ a k) ((b.length:Int)+1) (j.set k.toNat 1)).prf.length:=by rw[<-y];exact o3
     have q1:a<((b++[zN,zN]).length:Int):=by omega
     have q3:(b.length:Int)+1<(((b++[zN,zN]).set a.toNat (kg k b.length)).length:Int):=by rw[y];omega
     have q2:a.toNat<(b++[zN,zN]).length:=by omega
     exact⟨by omega,by omega,by omega,ha.1,q1,q2,by omega,⟨o1,⟨by omega,q3⟩,u,w,.inl trivial,by omega⟩,⟨o2,⟨by omega,εM.2 (γj (by omega) o4)⟩,u,w,.inr trivial,by omega⟩,rfl,rfl⟩
   ·have hO:dq p (cJ none) ⟨G,s,g,b,t⟩ j=⟨G,s,g,b,t⟩:=by
     unfold dq;rw[if_neg (λh=>by rw[h.2] at hi;cases hi)]
    refine⟨⟨fB,fI _ (by omega) (by omega)⟩,?_⟩;refine⟨λh=>?_,λh=>⟨oS,λhk=>?_,λhk=>⟨by omega,λhm=>?_,λhm=>?_⟩⟩⟩
    ·rw[yL B hs D hO ((z _).1 h)];refine⟨ha.1,ha.2,by omega,?_,rfl⟩;simp only[Ψ];rfl
    ·rw[qb B hs D hO (λh'=>h ((z _).2 h')) (.inl (γY.1 hk |>γL.1))];exact⟨rfl,rfl⟩
    ·rw[qb B hs D hO (λh'=>h ((z _).2 h')) (.inr hm)];exact⟨rfl,rfl⟩
    ·obtain⟨k,F⟩:=γk.1 hk;rw[yM B hs D hO (λh'=>h ((z _).2 h')) F hm];simp only[F,γ2];obtain⟨u,d8,d7⟩:=s7 F;rw[g0] at u;have w:bp j k.toNat 0=0:=sZ c4 B.r (by omega) d8 d7;have n1:=mD u w (d:=1) (by omega);have n2:=mD u w (d:= -1) (by omega);have y:((b++[zN,zN]).set a.toNat (kg k b.length)).length=b.length+2:=by rw[Ψ,γq];rfl
     have e0:(b++[zN,zN]).length=b.length+2:=by rw[γq];rfl
     have o1:=fc.spl b6 (k:=(b++[zN,zN]).length) (l:=(b++[zN,zN]).set a.toNat (kg k b.length)) hm (by rw[e0,y]) y;have o2:=o1.vis (f:=j.set k.toNat 1) (B.set (by omega)) (n:=nF (j.set k.toNat 1)) (a:=(b.length:Int)+1);have o3:=(@rU p (cJ none) o (nF (j.set k.toNat 1)) (gP ⟨G,s,g,b,t⟩ a k) ((b.length:Int)+1) (j.set k.toNat 1) (B.set (by omega))).1;have o4:b.length+2<=(dG p (cJ none) o (nF (j.set k.toNat 1)) (gP ⟨G,s,g,b,t⟩ a k) ((b.length:Int)+1) (j.set k.toNat 1)).prf.length:=by rw[<-y];exact o3
     have q1:a<((b++[zN,zN]).length:Int):=by omega
     have q3:(b.length:Int)+1<(((b++[zN,zN]).set a.toNat (kg k b.length)).length:Int):=by rw[y];omega
     have q2:a.toNat<(b++[zN,zN]).length:=by omega
     exact⟨by omega,by omega,by omega,ha.1,q1,q2,by omega,⟨o1,⟨by omega,q3⟩,u,w,.inl trivial,by omega⟩,⟨o2,⟨by omega,εM.2 (γj (by omega) o4)⟩,u,w,.inr trivial,by omega⟩,rfl,rfl⟩
   ·have hO:dq p (cJ none) ⟨G,s,g,b,t⟩ j=⟨G,s,g,b,t⟩:=by
     unfold dq;rw[if_neg (λh=>ζA.2 h.1 ((z (s+1)).1 (Int.not_le.1 h2)))]
    refine⟨⟨fB,fI _ (by omega) (by omega)⟩,?_⟩;refine⟨λh=>?_,λh=>⟨oS,λhk=>?_,λhk=>⟨by omega,λhm=>?_,λhm=>?_⟩⟩⟩
    ·rw[yL B hs D hO ((z _).1 h)];refine⟨ha.1,ha.2,by omega,?_,rfl⟩;simp only[Ψ];rfl
    ·rw[qb B hs D hO (λh'=>h ((z _).2 h')) (.inl (γY.1 hk |>γL.1))];exact⟨rfl,rfl⟩
    ·rw[qb B hs D hO (λh'=>h ((z _).2 h')) (.inr hm)];exact⟨rfl,rfl⟩
    ·obtain⟨k,F⟩:=γk.1 hk;rw[yM B hs D hO (λh'=>h ((z _).2 h')) F hm];simp only[F,γ2];obtain⟨u,d8,d7⟩:=s7 F;rw[g0] at u;have w:bp j k.toNat 0=0:=sZ c4 B.r (by omega) d8 d7;have n1:=mD u w (d:=1) (by omega);have n2:=mD u w (d:= -1) (by omega);have y:((b++[zN,zN]).set a.toNat (kg k b.length)).length=b.length+2:=by rw[Ψ,γq];rfl
     have e0:(b++[zN,zN]).length=b.length+2:=by rw[γq];rfl
     have o1:=fc.spl b6 (k:=(b++[zN,zN]).length) (l:=(b++[zN,zN]).set a.toNat (kg k b.length)) hm (by rw[e0,y]) y;have o2:=o1.vis (f:=j.set k.toNat 1) (B.set (by omega)) (n:=nF (j.set k.toNat 1)) (a:=(b.length:Int)+1);have o3:=(@rU p (cJ none) o (nF (j.set k.toNat 1)) (gP ⟨G,s,g,b,t⟩ a k) ((b.length:Int)+1) (j.set k.toNat 1) (B.set (by omega))).1;have o4:b.length+2<=(dG p (cJ none) o (nF (j.set k.toNat 1)) (gP ⟨G,s,g,b,t⟩ a k) ((b.length:Int)+1) (j.set k.toNat 1)).prf.length:=by rw[<-y];exact o3
     have q1:a<((b++[zN,zN]).length:Int):=by omega
     have q3:(b.length:Int)+1<(((b++[zN,zN]).set a.toNat (kg k b.length)).length:Int):=by rw[y];omega
     have q2:a.toNat<(b++[zN,zN]).length:=by omega
     exact⟨by omega,by omega,by omega,ha.1,q1,q2,by omega,⟨o1,⟨by omega,q3⟩,u,w,.inl trivial,by omega⟩,⟨o2,⟨by omega,εM.2 (γj (by omega) o4)⟩,u,w,.inr trivial,by omega⟩,rfl,rfl⟩
 ·refine bQ (let c:=Ω .i64;let d:=(0:Int);let e:=bA.cells;let f:=SV.bN;let h:=(1:Int);let k:=bA.row;let l:=(-1:Int);let q:=bU .i64;let r:=(-9223372036854775808:Int);let u:=(9223372036854775807:Int);let v:=Δ;let w:=γn;let x:=(2:Int);let y:=γz;let z:=((kE p j).fst,(kE p j).snd.fst,(kE p j).snd.snd);let B:=s+h;let D:=bu (ζ B);let F:=(D.fst,D.snd.fst,D.snd.snd);let L:=gI (bK z) (bK F);let c8:=decide (L<d);let J:=c p.supply.a0;let K:=c p.supply.a1;let U:=c p.supply.a2;let T:=c p.supply.a3;let P:=c p.supply.a4;let S:=c p.supply.a5;let N:=c p.opn.a0;let I:=c p.opn.a1;let M:=c p.opn.a2;let Y:=c p.opn.a3;let Z:=c p.opn.a4;let V:=c p.opn.a5;let X:=c p.cls.a0;let b1:=c p.cls.a1;let R:=c p.cls.a2;let a6:=c p.cls.a3;let b9:=c p.cls.a4;let c0:=c p.cls.a5;let a9:=bw.i .i64;let b8:=v a9 p.classes;let a8:=v bw.off p.offers;let c3:=v a9 G;let f8:=c s;let d1:=ζB (Fn.func 89) [] [γU 1 0 1];let d2:=y 2 b.length 5;let b3:=y 3 j.length 1;let b0:=c o;let H:=dh.mk G s g b t;let c7:=dG p (cJ (some m)) o (nF j) H a j;let d4:=e [J,K,U,T,P,S,N,I,M,Y,Z,V,X,b1,R,a6,b9,c0,b8,a8,v a9 c7.ch,c c7.val,w c7.found,d1,y 2 c7.prf.length 5,b3,b0,c c7.err] 85 28 false;let Q:=e [c m] 2 1 false;let f0:=(h,d,d,d,qR p j);let d0:=k bD c7.prf 68 true;let E:=k a9 j 3 true;let b7:=vL (kF p j);let b4:=[b3,b0,γo .i64 12];let d6:=(↑b.length:Int);let f4:=decide (o<d6+x);let e3:=b.length+2;let c9:=d6+h;let e9:=(d,d,d,[]);let e6:=[(d,e9),(d,e9)];let d3:Nat:=(b++e6).length;let a7:=(jP b7).getD d;let f9:=(b++e6).set a.toNat (x,a7,d6,c9,[]);let f5:=j.set a7.toNat h;let e4:=dG p (cJ (some m)) o (nF f5) (dh.mk G s g f9 t) c9 f5;let f1:=j.set a7.toNat l;let A:=dG p (cJ (some m)) o (nF f1) e4 d6 f1;let C:=ek (cJ (some m)) H (Alloc.mk (eO b7) (cK (γd (oI p) (eO b7))));let g4:=c C.val;let d9:=C.prf.length;let g6:=y 2 d9 5;let f6:Nat:=(C.prf++e6).length;let g5:=decide (t≠d);let g7:=decide (fz p j≠d);let g1:=decide (d<=L);let f7:=C.val+h;let g3:=bu (ζ f7);let g8:=(g3.fst,g3.snd.fst,g3.snd.snd);let e5:=decide (gI (bK z) (bK g8)<d);let c2:=C.prf.length;let e7:=(↑d9:Int);let f2:=decide (o<e7+x);let e8:=e7+h;let d5:=(C.prf++e6).set a.toNat (x,a7,e7,e8,[]);let c1:=dG p (cJ (some m)) o (nF f5) (dh.mk C.ch C.val C.found d5 C.err) e8 f5;let f3:=dG p (cJ (some m)) o (nF f1) c1 e7 f1;let ac:=let h5:=(f []).same (f [])/\(e (J::K::U::T::P::S::N::I::M::Y::Z::V::X::b1::R::a6::b9::c0::b8::a8::c3::f8::w g::d1::d2::b4) 85 28 false).same d4/\Q.same Q/\(k bD b 68 true).same d0/\E.same E/\True;(c8=true->b.length=b.length/\d<=a/\a<(↑b.length:Int)/\b.length=b.length/\a.toNat<b.length/\(f []).same (f [])/\(e [J,K,U,T,P,S,N,I,M,Y,Z,V,X,b1,R,a6,b9,c0,b8,a8,c3,f8,w g,d1,d2,b3,b0,c t] 85 28 false).same d4/\Q.same Q/\(k bD (b.set a.toNat f0) 68 true).same d0/\E.same E/\True)/\(c8=false->py (kF p j)/\((!(jP b7).isSome)=true->h5)/\((!(jP b7).isSome)=false->q (d6+x)/\(f4=true->h5)/\(f4=false->2=2/\b.length=b.length/\e3*56<=140737488355328/\e3<=1000000000000/\q c9/\d3=d3/\d<=a/\a<(↑d3:Int)/\d3=d3/\a.toNat<d3/\q c9/\(fc (dQ.mk p G s g (some m) d3 j.length o t f9 j)/\(d<=c9/\c9<(↑f9.length:Int))/\(d<=a7/\a7<(↑j.length:Int))/\bp j a7.toNat d=d/\(h=h\/h=l)/\nF f5<n)/\(fc (dQ.mk p e4.ch e4.val e4.found (some m) e4.prf.length j.length o e4.err e4.prf j)/\(d<=d6/\d6<(↑e4.prf.length:Int))/\(d<=a7/\a7<(↑j.length:Int))/\bp j a7.toNat d=d/\(l=h\/l=l)/\nF f1<n)/\(f []).same (f [])/\(e [J,K,U,T,P,S,N,I,M,Y,Z,V,X,b1,R,a6,b9,c0,b8,a8,v a9 A.ch,c A.val,w A.found,d1,y 2 A.prf.length 5,b3,b0,c A.err] 85 28 false).same d4/\Q.same Q/\(k bD A.prf 68 true).same d0/\E.same E/\True)));let O:=(f []).same (f [])/\(e (J::K::U::T::P::S::N::I::M::Y::Z::V::X::b1::R::a6::b9::c0::b8::a8::v a9 C.ch::g4::w C.found::d1::g6::b4) 85 28 false).same d4/\Q.same Q/\(k bD C.prf 68 true).same d0/\E.same E/\True;let W:=f6=f6;let aa:=(f []).same (f [])/\(e [J,K,U,T,P,S,N,I,M,Y,Z,V,X,b1,R,a6,b9,c0,b8,a8,c3,f8,w g,d1,d2,b3,b0,c t] 85 28 false).same d4/\Q.same Q/\(k bD b 68 true).same d0/\E.same E/\True;let ab:=(cF z/\cF F)/\ac;(g5=true->aa)/\(g5=false->(g=true->aa)/\(g=false->(j.length=j.length/\j.length<=1000000000000)/\(g7=true->(f []).same (f [])/\(e [J,K,U,T,P,S,N,I,M,Y,Z,V,X,b1,R,a6,b9,c0,b8,a8,c3,f8,w g,d1,d2,b3,b0,c (fz p j)] 85 28 false).same d4/\Q.same Q/\(k bD b 68 true).same d0/\E.same E/\True)/\(g7=false->((!jZ p j)=true->b.length=b.length/\d<=a/\a<(↑b.length:Int)/\b.length=b.length/\a.toNat<b.length/\(f []).same (f [])/\(e [J,K,U,T,P,S,N,I,M,Y,Z,V,X,b1,R,a6,b9,c0,b8,a8,c3,f8,w g,d1,d2,b3,b0,c t] 85 28 false).same d4/\Q.same Q/\(k bD (b.set a.toNat ((3:Int),e9)) 68 true).same d0/\E.same E/\True)/\((!jZ p j)=false->q B/\(r<=B/\B<=u)/\(cF z/\cF F)/\(g1=true->py (kF p j)/\(mW b7=true->(fc (dQ.mk p G s g (some m) b.length j.length o t b j)/\py (kF p j)/\(kF p j).length=p.offers.length)/\b.length=b.length/\q f7/\(r<=f7/\f7<=u)/\(cF z/\cF g8)/\(e5=true->d9=c2/\d<=a/\a<(↑c2:Int)/\d9=c2/\a.toNat<c2/\(f []).same (f [])/\(e [J,K,U,T,P,S,N,I,M,Y,Z,V,X,b1,R,a6,b9,c0,b8,a8,v a9 C.ch,g4,w C.found,d1,g6,b3,b0,c C.err] 85 28 false).same d4/\Q.same Q/\(k bD (C.prf.set a.toNat f0) 68 true).same d0/\E.same E/\True)/\(e5=false->py (kF p j)/\((!(jP b7).isSome)=true->O)/\((!(jP b7).isSome)=false->q (e7+x)/\(f2=true->O)/\(f2=false->2=2/\d9=c2/\(c2+2)*56<=140737488355328/\c2+2<=1000000000000/\q e8/\W/\d<=a/\a<(↑f6:Int)/\W/\a.toNat<f6/\q e8/\(fc (dQ.mk p C.ch C.val C.found (some m) f6 j.length o C.err d5 j)/\(d<=e8/\e8<(↑d5.length:Int))/\(d<=a7/\a7<(↑j.length:Int))/\bp j a7.toNat d=d/\(h=h\/h=l)/\nF f5<n)/\(fc (dQ.mk p c1.ch c1.val c1.found (some m) c1.prf.length j.length o c1.err c1.prf j)/\(d<=e7/\e7<(↑c1.prf.length:Int))/\(d<=a7/\a7<(↑j.length:Int))/\bp j a7.toNat d=d/\(l=h\/l=l)/\nF f1<n)/\(f []).same (f [])/\(e [J,K,U,T,P,S,N,I,M,Y,Z,V,X,b1,R,a6,b9,c0,b8,a8,v a9 f3.ch,c f3.val,w f3.found,d1,y 2 f3.prf.length 5,b3,b0,c f3.err] 85 28 false).same d4/\Q.same Q/\(k bD f3.prf 68 true).same d0/\E.same E/\True))))/\(mW b7=false->ab))/\(g1=false->ab)))))) (by kernel_rfl) ?_;simp only[vcs];refine⟨λh=>by rw[Bj B (.inl h)];exact⟨rfl,rfl⟩,λh0=>⟨λh=>by rw[Bj B (.inr h)];exact⟨rfl,rfl⟩,λh1=>⟨by omega,λh=>absurd h6 h,λ_=>⟨λh=>?_,λhb=>?_⟩⟩⟩⟩
  ·have hs:¬((⟨G,s,g,b,t⟩:dh).err≠0\/(⟨G,s,g,b,t⟩:dh).found=true):=by
    rintro(h|h);·exact h0 h
    ·rw[show g=true from h] at h1;cases h1
   rw[UP B hs (by rw[<-h4];exact h)];refine⟨ha.1,ha.2,by omega,?_,rfl⟩;simp only[Ψ];rfl
  ·have hs:¬((⟨G,s,g,b,t⟩:dh).err≠0\/(⟨G,s,g,b,t⟩:dh).found=true):=by
    rintro(h|h);·exact h0 h
    ·rw[show g=true from h] at h1;cases h1
   have D:iY p j=true:=by rw[<-h4];exact hb
   have c4:=B.ok D;have eB:kE p j=bu (jk p j):=by unfold kE;rw[if_pos hb]
   have eS:kF p j=fL (dE p j):=by unfold kF dE;rw[if_pos hb]
   have eP:qR p j=fL (gX p j):=by unfold qR;rw[if_pos hb]
   have g0:(dE p j).length=j.length:=rT;have oS:py (fL (dE p j)):=⟨dE p j,rfl,by rw[fy];omega,λq hq=>by
    obtain⟨i,hi,rfl⟩:=γB hq;have:=(EY c4 B.r (i:=i) (by omega)).2.2;rwa [dj hi] at this⟩;have fB:cF (bu (jk p j)):=dP (Ur hb) (by omega);have fI:∀v:Int,0<=v->v<=9223372036854775807->cF (bu (ζ v)):=λv h0 h1=>dP (lN (by omega) h1) (by omega);have z:∀v:Int,gI (jk p j) (ζ v)<0↔jk p j<((v:Int):Rat):=λv=>rJ;simp only[eB,eS,eP,jY,ji,dU];have h7:eO (dE p j)=(px p j).chosen:=rfl;refine⟨by omega,by omega,⟨fB,fI _ (by omega) (by omega)⟩,λh3=>⟨oS,λhi=>?_,λhi=>?_⟩,λh2=>?_⟩
   ·have hO:dq p (cJ (some m)) ⟨G,s,g,b,t⟩ j=ek (cJ (some m)) ⟨G,s,g,b,t⟩ ⟨eO (dE p j),cK ((eO (dE p j)).map (oI p))⟩:=by
     unfold dq;rw[if_pos ⟨ζA.1 λh=>absurd ((z (s+1)).2 h) (Int.not_lt.2 h3),hi⟩];rfl
    have c5:fc (dQ.upd ⟨p,G,s,g,(some m),b.length,j.length,o,t,b,j⟩ (dq p (cJ (some m)) ⟨G,s,g,b,t⟩ j)):=b6.UQ;rw[hO] at c5;obtain⟨e1,e2,_⟩:=@E2 (cJ (some m)) ⟨G,s,g,b,t⟩ ⟨eO (dE p j),cK ((eO (dE p j)).map (oI p))⟩;generalize ek (cJ (some m)) ⟨G,s,g,b,t⟩ ⟨eO (dE p j),cK ((eO (dE p j)).map (oI p))⟩=O at*;obtain⟨g2,b5,b2,g9,c6⟩:=O;have e1:b=g9:=Eq.symm e1;have e2:t=c6:=Eq.symm e2;subst e1;subst e2;have w0:0<=b5:=c5.v0;have w1:b5<=9223372036854775806:=c5.v1;dsimp only;refine⟨⟨b6,oS,by rw[fy];omega⟩,by omega,by omega,⟨fB,fI _ (by omega) (by omega)⟩,?_⟩;refine⟨λh=>?_,λh=>⟨oS,λhk=>?_,λhk=>⟨by omega,λhm=>?_,λhm=>?_⟩⟩⟩
    ·rw[yL B hs D hO ((z _).1 h)];refine⟨ha.1,ha.2,by omega,?_,rfl⟩;simp only[Ψ];rfl
    ·rw[qb B hs D hO (λh'=>h ((z _).2 h')) (.inl (γY.1 hk |>γL.1))];exact⟨rfl,rfl⟩
    ·rw[qb B hs D hO (λh'=>h ((z _).2 h')) (.inr hm)];exact⟨rfl,rfl⟩
    ·obtain⟨k,F⟩:=γk.1 hk;rw[yM B hs D hO (λh'=>h ((z _).2 h')) F hm];simp only[F,γ2];obtain⟨u,d8,d7⟩:=s7 F;rw[g0] at u;have w:bp j k.toNat 0=0:=sZ c4 B.r (by omega) d8 d7;have n1:=mD u w (d:=1) (by omega);have n2:=mD u w (d:= -1) (by omega);have y:((b++[zN,zN]).set a.toNat (kg k b.length)).length=b.length+2:=by rw[Ψ,γq];rfl
     have e0:(b++[zN,zN]).length=b.length+2:=by rw[γq];rfl
     have o1:=fc.spl (x:=⟨p,g2,b5,b2,(some m),b.length,j.length,o,c6,b,j⟩) c5 (k:=(b++[zN,zN]).length) (l:=(b++[zN,zN]).set a.toNat (kg k b.length)) hm (by rw[e0,y]) y;have o2:=o1.vis (f:=j.set k.toNat 1) (B.set (by omega)) (n:=nF (j.set k.toNat 1)) (a:=(b.length:Int)+1);have o3:=(@rU p (cJ (some m)) o (nF (j.set k.toNat 1)) (gP ⟨g2,b5,b2,b,c6⟩ a k) ((b.length:Int)+1) (j.set k.toNat 1) (B.set (by omega))).1;have o4:b.length+2<=(dG p (cJ (some m)) o (nF (j.set k.toNat 1)) (gP ⟨g2,b5,b2,b,c6⟩ a k) ((b.length:Int)+1) (j.set k.toNat 1)).prf.length:=by rw[<-y];exact o3
     have q1:a<((b++[zN,zN]).length:Int):=by omega
     have q3:(b.length:Int)+1<(((b++[zN,zN]).set a.toNat (kg k b.length)).length:Int):=by rw[y];omega
     have q2:a.toNat<(b++[zN,zN]).length:=by omega
     exact⟨by omega,by omega,by omega,ha.1,q1,q2,by omega,⟨o1,⟨by omega,q3⟩,u,w,.inl trivial,by omega⟩,⟨o2,⟨by omega,εM.2 (γj (by omega) o4)⟩,u,w,.inr trivial,by omega⟩,rfl,rfl⟩
   ·have hO:dq p (cJ (some m)) ⟨G,s,g,b,t⟩ j=⟨G,s,g,b,t⟩:=by
     unfold dq;rw[if_neg (λh=>by rw[h.2] at hi;cases hi)]
    refine⟨⟨fB,fI _ (by omega) (by omega)⟩,?_⟩;refine⟨λh=>?_,λh=>⟨oS,λhk=>?_,λhk=>⟨by omega,λhm=>?_,λhm=>?_⟩⟩⟩
    ·rw[yL B hs D hO ((z _).1 h)];refine⟨ha.1,ha.2,by omega,?_,rfl⟩;simp only[Ψ];rfl
    ·rw[qb B hs D hO (λh'=>h ((z _).2 h')) (.inl (γY.1 hk |>γL.1))];exact⟨rfl,rfl⟩
    ·rw[qb B hs D hO (λh'=>h ((z _).2 h')) (.inr hm)];exact⟨rfl,rfl⟩
    ·obtain⟨k,F⟩:=γk.1 hk;rw[yM B hs D hO (λh'=>h ((z _).2 h')) F hm];simp only[F,γ2];obtain⟨u,d8,d7⟩:=s7 F;rw[g0] at u;have w:bp j k.toNat 0=0:=sZ c4 B.r (by omega) d8 d7;have n1:=mD u w (d:=1) (by omega);have n2:=mD u w (d:= -1) (by omega);have y:((b++[zN,zN]).set a.toNat (kg k b.length)).length=b.length+2:=by rw[Ψ,γq];rfl
     have e0:(b++[zN,zN]).length=b.length+2:=by rw[γq];rfl
     have o1:=fc.spl b6 (k:=(b++[zN,zN]).length) (l:=(b++[zN,zN]).set a.toNat (kg k b.length)) hm (by rw[e0,y]) y;have o2:=o1.vis (f:=j.set k.toNat 1) (B.set (by omega)) (n:=nF (j.set k.toNat 1)) (a:=(b.length:Int)+1);have o3:=(@rU p (cJ (some m)) o (nF (j.set k.toNat 1)) (gP ⟨G,s,g,b,t⟩ a k) ((b.length:Int)+1) (j.set k.toNat 1) (B.set (by omega))).1;have o4:b.length+2<=(dG p (cJ (some m)) o (nF (j.set k.toNat 1)) (gP ⟨G,s,g,b,t⟩ a k) ((b.length:Int)+1) (j.set k.toNat 1)).prf.length:=by rw[<-y];exact o3
     have q1:a<((b++[zN,zN]).length:Int):=by omega
     have q3:(b.length:Int)+1<(((b++[zN,zN]).set a.toNat (kg k b.length)).length:Int):=by rw[y];omega
     have q2:a.toNat<(b++[zN,zN]).length:=by omega
     exact⟨by omega,by omega,by omega,ha.1,q1,q2,by omega,⟨o1,⟨by omega,q3⟩,u,w,.inl trivial,by omega⟩,⟨o2,⟨by omega,εM.2 (γj (by omega) o4)⟩,u,w,.inr trivial,by omega⟩,rfl,rfl⟩
   ·have hO:dq p (cJ (some m)) ⟨G,s,g,b,t⟩ j=⟨G,s,g,b,t⟩:=by
     unfold dq;rw[if_neg (λh=>ζA.2 h.1 ((z (s+1)).1 (Int.not_le.1 h2)))]
    refine⟨⟨fB,fI _ (by omega) (by omega)⟩,?_⟩;refine⟨λh=>?_,λh=>⟨oS,λhk=>?_,λhk=>⟨by omega,λhm=>?_,λhm=>?_⟩⟩⟩
    ·rw[yL B hs D hO ((z _).1 h)];refine⟨ha.1,ha.2,by omega,?_,rfl⟩;simp only[Ψ];rfl
    ·rw[qb B hs D hO (λh'=>h ((z _).2 h')) (.inl (γY.1 hk |>γL.1))];exact⟨rfl,rfl⟩
    ·rw[qb B hs D hO (λh'=>h ((z _).2 h')) (.inr hm)];exact⟨rfl,rfl⟩
    ·obtain⟨k,F⟩:=γk.1 hk;rw[yM B hs D hO (λh'=>h ((z _).2 h')) F hm];simp only[F,γ2];obtain⟨u,d8,d7⟩:=s7 F;rw[g0] at u;have w:bp j k.toNat 0=0:=sZ c4 B.r (by omega) d8 d7;have n1:=mD u w (d:=1) (by omega);have n2:=mD u w (d:= -1) (by omega);have y:((b++[zN,zN]).set a.toNat (kg k b.length)).length=b.length+2:=by rw[Ψ,γq];rfl
     have e0:(b++[zN,zN]).length=b.length+2:=by rw[γq];rfl
     have o1:=fc.spl b6 (k:=(b++[zN,zN]).length) (l:=(b++[zN,zN]).set a.toNat (kg k b.length)) hm (by rw[e0,y]) y;have o2:=o1.vis (f:=j.set k.toNat 1) (B.set (by omega)) (n:=nF (j.set k.toNat 1)) (a:=(b.length:Int)+1);have o3:=(@rU p (cJ (some m)) o (nF (j.set k.toNat 1)) (gP ⟨G,s,g,b,t⟩ a k) ((b.length:Int)+1) (j.set k.toNat 1) (B.set (by omega))).1;have o4:b.length+2<=(dG p (cJ (some m)) o (nF (j.set k.toNat 1)) (gP ⟨G,s,g,b,t⟩ a k) ((b.length:Int)+1) (j.set k.toNat 1)).prf.length:=by rw[<-y];exact o3
     have q1:a<((b++[zN,zN]).length:Int):=by omega
     have q3:(b.length:Int)+1<(((b++[zN,zN]).set a.toNat (kg k b.length)).length:Int):=by rw[y];omega
     have q2:a.toNat<(b++[zN,zN]).length:=by omega
     exact⟨by omega,by omega,by omega,ha.1,q1,q2,by omega,⟨o1,⟨by omega,q3⟩,u,w,.inl trivial,by omega⟩,⟨o2,⟨by omega,εM.2 (γj (by omega) o4)⟩,u,w,.inr trivial,by omega⟩,rfl,rfl⟩
theorem K9:∀n,eu Tryz.prog (wA n)
 |0=>λa b=>absurd b.2.2 (by omega)
 |n+1=>aeI (aeH (K9 n))
def iE (p:bz):List Int:=δ p.offers.length 0
theorem yN {n:Nat}:nF (δ n 0)=n:=by
 have e:bE (δ n 0) 0=dL n:=by
  simp_all[bE,rL,dj]
 grind[jw]
theorem mY {p:bz} (a:bH p=0):eQ p (iE p) where
 c:=a;l:=δq;r:=by
  unfold fQ;rw[ξ];intro x b;rw[List.eq_of_mem_replicate b];decide
def kX (p:bz) (c:List Int):dh:=ek (cJ none) (ek (cJ none) ⟨c,dJ p c,false,[zN],0⟩ (gJ p c)) (gJ p (jW p))
noncomputable def iL (p:bz) (c:List Int) (a:Int):dh:=dG p (cJ none) a p.offers.length (kX p c) 0 (iE p)
noncomputable def kJ (p:bz) (c:List Int) (a:Int):Int:=if cH p c≠0 then cH p c else if a<1\/65536<a then 4 else(iL p c a).err
def kY (p:bz) (m:Int):dh:=ek (cJ (some m)) ⟨[],m - 1,false,[zN],0⟩ (gJ p (jW p))
noncomputable def gh (p:bz) (m a:Int):dh:=dG p (cJ (some m)) a p.offers.length (kY p m) 0 (iE p)
noncomputable def jl (p:bz) (m a:Int):Int:=if bH p≠0 then bH p else if a<1\/65536<a then 4 else if m<=0 then 0 else if(gh p m a).found=true then 0 else(gh p m a).err
noncomputable def kh (p:bz) (m a:Int):Bool:=decide (jl p m a=0)&&(decide (m<=0)||(gh p m a).found)
noncomputable def oC (p:bz) (m a:Int):Alloc:=if kh p m a=true/\0<m then⟨(gh p m a).ch,(gh p m a).val⟩ else⟨[],0⟩
theorem UR {p:bz} (a:bH p=0) {t:List Int} (h:cH p t=0):dJ p t<=(cY p).value:=by
 have b:=(xU a).1 h;obtain⟨_,d⟩:=sW h;have c:=Ii (dR a) b.1 (decide_eq_true b.2);rw[wy a d];exact c
theorem US {p:bz} (a:bH p=0):∃t,cH p t=0/\dJ p t=(cY p).value:=by
 obtain⟨t,c,f,e⟩:=Ij (dR a);have b:cH p t=0:=(xU a).2 ⟨c,of_decide_eq_true f⟩;obtain⟨_,d⟩:=sW b;refine⟨t,b,?_⟩;rw[wy a d,e];rfl
theorem UT {p:bz} {l:List Int} (h:fu p.offers.length l):E5 (iE p) l:=by
 have b:∀i:Int,0<=i/\i<p.offers.length->bp (iE p) i.toNat 0=0:=λi a=>by
  grind[iE,dj]
 refine⟨λi a=>by rw[b i (h.2 i a)];omega,λi a=>?_⟩;grind[kW,iE]
theorem UU {p:bz} {v:Int} {t:List cB} {a lo f:Nat} (b:bH p=0) (h:iK p v t a (iE p) lo f):(cY p).value<=v:=by
 obtain⟨l,d,e⟩:=US b;obtain⟨_,c⟩:=sW d;rw[<-e,wy b c];exact h.sound (mY b) c ((E4 b c).1 d) (UT c)
theorem yO {en:Int->Bool} {G:List Int->Int->Bool->Prop} {p:bz} (h:∀c w b d w',G c w b->cH p d=0->dJ p d=w'->w<w'->G d w' (b||en w')) {s:dh} {a:Alloc} (e:G s.ch s.val s.found) (f:cH p a.chosen=0) (g:dJ p a.chosen=a.value):G (ek en s a).ch (ek en s a).val (ek en s a).found:=by
 grind[ek]
theorem yP {p:bz} (a:bH p=0):cH p (gJ p (jW p)).chosen=0/\dJ p (gJ p (jW p)).chosen=(gJ p (jW p)).value:=by
 simp_all[JQ,S0]
theorem La {p:bz} (d:bH p=0) {c:List Int} (h:cH p c=0) {most:Int} {G:List Int->Int->Bool->Prop} (a:∀c w b e w',G c w b->cH p e=0->dJ p e=w'->w<w'->G e w' (b||cJ none w')) (i:G c (dJ p c) false):G (iL p c most).ch (iL p c most).val (iL p c most).found:=by
 have f:=JQ d h;have g:=yP d;exact UH a (mY d) (yO a (yO a i f.2.1 f.2.2.1) g.1 g.2)
theorem Lc {p:bz} {c:List Int}:(kX p c).prf=[zN]/\(kX p c).err=0/\dJ p c<=(kX p c).val:=by
 grind[kX,ek]
theorem Ld {p:bz} (d:bH p=0) {c:List Int} (i:cH p c=0) {most:Int} (C:1<=most):
  ((iL p c most).err=0\/(iL p c most).err=12)/\((iL p c most).err=0->(cH p (iL p c most).ch=0/\dJ p (iL p c most).ch=(iL p c most).val)/\(iL p c most).val=(cY p).value/\(iL p c most).prf.length<=most/\iK p (cY p).value (iL p c most).prf 0 (iE p) 1 (iL p c most).prf.length/\(dJ p c=(cY p).value->(iL p c most).ch=c))/\
   (((1+2^(p.offers.length+1):Nat):Int)<=most+2->(iL p c most).err=0):=by
 obtain⟨y,l,A⟩:=@Lc p c;have t:(kX p c).prf.length=1:=by rw[y];rfl
 have q:=@rU p (cJ none) most p.offers.length (kX p c) 0 (iE p) (mY d);have j:(iL p c most).found=false:=by
  refine(La d i (most:=most) (G:=λ_ _ b=>b=false) (λc w b g o h _ _ _=>?_) rfl);rw[h];rfl
 refine⟨?_,λx=>?_,λB=>?_⟩
 ·have:=q.2.2.2.2.2;rw[l] at this;exact this
 ·have v:=La d i (most:=most) (G:=λc w _=>cH p c=0/\dJ p c=w) (λc w b g o _ k m _=>⟨k,m⟩) ⟨i,rfl⟩;have u:=La d i (most:=most) (G:=λg w _=>dJ p c<=w/\(w=dJ p c->g=c)) (λD w b g o h _ _ r=>⟨by omega,λe=>by omega⟩) ⟨Int.le_refl _,λ_=>rfl⟩;have z:=UG (p:=p) (en:=cJ none) (most:=most) (n:=p.offers.length) (s:=kX p c) (a:=0) (mY d) (by show nF (δ _ 0)<=_;grind[yN]) (by rw[t];omega) x j;have k:=UU d z.1;have m:=UR d v.1;grind[iL]
 ·refine(UI (p:=p) (en:=cJ none) (most:=most) (n:=p.offers.length) (s:=kX p c) (a:=0) (f:=iE p) (mY d) ?_ l ?_).1;all_goals simp_all[yN,iE]
theorem aeJ {p:bz} (i:bH p=0) {m most:Int}:((gh p m most).found=false->(gh p m most).ch=[]/\(gh p m most).val=m - 1)/\((gh p m most).found=true->cH p (gh p m most).ch=0/\dJ p (gh p m most).ch=(gh p m most).val/\m<=(gh p m most).val):=by
 have j:=yP i;have g:∀(c:List Int) (w:Int) (b:Bool) (e:List Int) (d:Int),((m - 1<=w)/\(b=false->c=[]/\w=m - 1)/\(b=true->cH p c=0/\dJ p c=w/\m<=w))->cH p e=0->dJ p e=d->w<d->((m - 1<=d)/\((b||cJ (some m) d)=false->e=[]/\d=m - 1)/\((b||cJ (some m) d)=true->cH p e=0/\dJ p e=d/\m<=d)):=by
  intro c w b e d h l q k;have o:cJ (some m) d=true:=by
   show decide (m<=d)=true;grind
  grind
 have:=UH (p:=p) (en:=cJ (some m)) (most:=most) g (n:=p.offers.length) (s:=kY p m) (a:=0) (f:=iE p) (mY i) (yO g (s:=⟨[],m - 1,false,[zN],0⟩) ⟨Int.le_refl _,λ_=>⟨rfl,rfl⟩,(λh=>by cases h)⟩ j.1 j.2);exact this.2
theorem Le {p:bz} {m:Int}:(kY p m).prf=[zN]/\(kY p m).err=0:=by
 grind[kY,E2]
theorem UW {p:bz} (b:bH p=0) {m most:Int}:
  ((gh p m most).err=0\/(gh p m most).err=12)/\((gh p m most).found=true->m<=(cY p).value)/\((gh p m most).found=false->(gh p m most).err=0->(cY p).value<m)/\
   (((1+2^(p.offers.length+1):Nat):Int)<=most+2->(gh p m most).err=0):=by
 obtain⟨i,d⟩:=@Le p m;have h:(kY p m).prf.length=1:=by rw[i];rfl
 have g:=@rU p (cJ (some m)) most p.offers.length (kY p m) 0 (iE p) (mY b);obtain⟨r,l⟩:=@aeJ p b m most;refine⟨?_,λc=>?_,λc k=>?_,λo=>?_⟩
 ·have:=g.2.2.2.2.2;rw[d] at this;exact this
 ·obtain⟨e,q,t⟩:=l c;have:=UR b e;omega
 ·have j:=UG (p:=p) (en:=cJ (some m)) (most:=most) (n:=p.offers.length) (s:=kY p m) (a:=0) (mY b) (by show nF (δ _ 0)<=_;grind[yN]) (by rw[h];omega) k c;have e:(cY p).value<=(gh p m most).val:=UU b j.1;grind
 ·refine(UI (p:=p) (en:=cJ (some m)) (most:=most) (n:=p.offers.length) (s:=kY p m) (a:=0) (f:=iE p) (mY b) ?_ d ?_).1;all_goals simp_all[yN,iE]
theorem s8 {p:bz} (a:bH p=0) {c:List Int} (f:cH p c=0):0<=dJ p c/\dJ p c<=160000000/\c.length<=160:=by
 obtain⟨_,b⟩:=sW f;have d:=(dR a).2.1;have j:c.length<=p.offers.length:=ym b;have h:=qG (dR a) (l:=c.map (oI p)) λx g=>by
  obtain⟨i,e,rfl⟩:=γf.1 g;have:=b.2 i e;exact dn (by omega)
 grind[wy]
theorem Lh {p:bz} (a:bH p=0):(jW p).length<=160:=(s8 a (S0 a)).2.2
theorem aeK {p:bz} {c:List Int} {a:Int} {k:Nat} (e:bH p=0) (h:cH p c=0) (l:1<=a) (m:a<=65536) (i:k=p.offers.length):fc ⟨p,(kX p c).ch,(kX p c).val,(kX p c).found,none,(kX p c).prf.length,k,a,(kX p c).err,(kX p c).prf,iE p⟩:=by
 have b:=JQ e h;have d:=yP e;have f:cH p (kX p c).ch=0/\dJ p (kX p c).ch=(kX p c).val:=
  yO (G:=λc w _=>cH p c=0/\dJ p c=w) (λ_ _ _ _ _ _ b d _=>⟨b,d⟩) (yO (G:=λc w _=>cH p c=0/\dJ p c=w) (λ_ _ _ _ _ _ b d _=>⟨b,d⟩) (s:=⟨c,dJ p c,false,[zN],0⟩) ⟨h,rfl⟩ b.2.1 b.2.2.1) d.1 d.2;obtain⟨g,j,n⟩:=s8 e f.1;obtain⟨o,_,_⟩:=@Lc p c;rw[f.2] at g j;exact⟨mY e,rfl,by rw[i];exact(δq).symm,g,by grind,l,m,by simp_all,by grind⟩
theorem aeL {p:bz} {m a:Int} {k:Nat} (b:bH p=0) (q:0<m/\m<=9223372036854775807) (h:1<=a) (i:a<=65536) (g:k=p.offers.length):fc ⟨p,(kY p m).ch,(kY p m).val,(kY p m).found,some m,(kY p m).prf.length,k,a,(kY p m).err,(kY p m).prf,iE p⟩:=by
 have d:=yP b;have e:(0<=(kY p m).val/\(kY p m).val<=9223372036854775806)/\(kY p m).ch.length<=160:=
  yO (G:=λc w _=>(0<=w/\w<=9223372036854775806)/\c.length<=160) (λ_ _ _ t l _ f d _=>by
   obtain⟨j,n,o⟩:=s8 b f;omega) (s:=⟨[],m - 1,false,[zN],0⟩) ⟨⟨by grind,by grind⟩,by simp_all⟩ d.1 d.2;obtain⟨r,_⟩:=@Le p m;exact⟨mY b,rfl,by rw[g];exact(δq).symm,e.1.1,e.1.2,h,i,by simp_all,by grind⟩
noncomputable def Lj:bL:=⟨26,bz×Alloc×Int,.cons dO (.cons mf (.one (ef .i64))),λa=>a.1.offers.length<=20/\a.2.1.chosen.length<=9223372036854775807,
 λa=> .bN [.agg [.row (.i .i64) (if kJ a.1 a.2.1.chosen a.2.2=0 then(iL a.1 a.2.1.chosen a.2.2).ch else[]),.si .i64 (if kJ a.1 a.2.1.chosen a.2.2=0 then(iL a.1 a.2.1.chosen a.2.2).val else 0)],.row bD (if kJ a.1 a.2.1.chosen a.2.2=0 then(iL a.1 a.2.1.chosen a.2.2).prf else[]),.si .i64 (kJ a.1 a.2.1.chosen a.2.2)]⟩
theorem h429:Holds Tryz.prog Lj:=by
 refine con (L:=[ub,E6,AW,AS]) (W:=gC [Bh,wA 161]) Lj lk (lj (by grind[h439,K9])) (by grind[h100,h437,h315,h312]) ?_;rintro⟨p,⟨c,v⟩,a⟩ ⟨o,f⟩;simp only at o f;refine bQ (let e:=(0:Int);let f:=Ω .i64;let h:=(140737488355328:Int);let k:=(1000000000000:Int);let o:=(1:Int);let v:=Δ;let w:=γF;let z:=SV.bN;let D:=bw.i .i64;let s:=v D [];let t:=γo .i64 0;let A:=iL p c a;let E:=z [w [v D (if kJ p c a=e then A.ch else[]),f (if kJ p c a=e then A.val else e)],v bD (if kJ p c a=e then A.prf else[]),f (kJ p c a)];let g:=(↑p.offers.length:Int);let r:=δ g.toNat e;let j:=ek (cJ none) (dh.mk c (dJ p c) false [(e,e,e,e,[])] e) (gJ p c);let b:=ek (cJ none) j (gJ p (jW p));let d:=dG p (cJ none) a (nF r) b e r;let m:=decide (cH p c≠e);let n:=decide (a<o);let q:=decide ((65536:Int)<a);let l:=0+c.length;let G:=(z [w [s,t],s,γo .i64 4]).same E;let x:=λ(u:List Int) (y B C:SV) ↦(z [w [v D u,y],B,C]).same E;let F:=λ(u:Bool) ↦decide (d.err≠e)=u;c.length<=9223372036854775807/\(m=true->x [] t s (f (cH p c)))/\(m=false->(n=true->G)/\(n=false->(q=true->G)/\(q=false->0=0/\l*8<=140737488355328/\l<=1000000000000/\(bH p=e/\c.length<=9223372036854775807)/\e<=o/\o<=o/\(56:Int)<=h/\o<=k/\e<=g/\g<=g/\g*(8:Int)<=h/\g<=k/\c.length=c.length/\c.length=c.length/\c.length<=9223372036854775807/\1=1/\p.offers.length<=20/\(jW p).length<=9223372036854775807/\j.prf.length=j.prf.length/\(fc (dQ.mk p b.ch b.val b.found none b.prf.length g.toNat a b.err b.prf r)/\(e<=e/\e<(↑b.prf.length:Int))/\nF r<161)/\(F true->x [] t s (f d.err))/\(F false->d.prf.length=d.prf.length/\x d.ch (f d.val) (v bD d.prf) t))))) (by kernel_rfl) ?_;simp only[vcs];have M:(δ ((p.offers.length:Int)).toNat 0:List Int)=iE p:=by grind[iE]
 have P:ek (cJ none) (ek (cJ none) ⟨c,dJ p c,false,[(0,(0,(0,(0,[]))))],0⟩ (gJ p c)) (gJ p (jW p))=kX p c:=rfl;have J:nF (iE p)=p.offers.length:=yN;simp only[M,P,J];refine⟨f,λh=>?_,λh=>⟨λH=>?_,λH=>⟨λN=>?_,λN=>?_⟩⟩⟩
 ·have e:kJ p c a=cH p c:=by simp_all[kJ]
  rw[e,if_neg h,if_neg h,if_neg h];exact⟨rfl,rfl,rfl⟩
 ·have e:kJ p c a=4:=by simp_all[kJ]
  rw[e];exact⟨rfl,rfl,rfl⟩
 ·have e:kJ p c a=4:=by simp_all[kJ]
  rw[e];exact⟨rfl,rfl,rfl⟩
 ·have z:cH p c=0:=γa.1 h;have w:bH p=0:=(sW z).1;obtain⟨Q,T,U⟩:=s8 w z;obtain⟨I,R,S⟩:=@Lc p c;have e:kJ p c a=(iL p c a).err:=by simp_all[kJ,if_neg]
  have O:dG p (cJ none) a p.offers.length (kX p c) 0 (iE p)=iL p c a:=rfl;have K:=Lh w;rw[O,e];refine⟨by omega,by omega,⟨w,f⟩,by omega,by omega,by omega,by omega,by omega,by omega,by omega,by omega,f,o,by omega,⟨aeK w z (by omega) (by omega) (by omega),⟨by omega,by rw[I];decide⟩,by omega⟩,λk=>?_,λk=>?_⟩
  ·rw[if_neg k,if_neg k,if_neg k];exact⟨rfl,rfl,rfl⟩
  ·rw[γa] at k;rw[k];exact⟨rfl,rfl,rfl⟩
noncomputable def Ll:bL:=⟨56,bz×Int×Int,.cons dO (.cons (ef .i64) (.one (ef .i64))),λa=>a.1.offers.length<=20/\ -9223372036854775808<=a.2.1/\a.2.1<=9223372036854775807,
 λa=> .bN [.agg [.row (.i .i64) (oC a.1 a.2.1 a.2.2).chosen,.si .i64 (oC a.1 a.2.1 a.2.2).value],.sb (kh a.1 a.2.1 a.2.2),.si .i64 (jl a.1 a.2.1 a.2.2)]⟩
theorem h434:Holds Tryz.prog Ll:=by
 refine con (L:=[qF,AW,AS]) (W:=gC [Bh,wA 161]) Ll lk (lj (by grind[h439,K9])) (by grind[h79,h315,h312]) ?_;rintro⟨p,m,b⟩ ⟨x,H,G⟩;simp only at x H G;refine bQ (let a:=(0:Int);let c:=Ω .i64;let e:=(1:Int);let f:=(140737488355328:Int);let h:=SV.bN;let l:=(1000000000000:Int);let v:=γo .i64;let x:=Δ;let y:=γF;let w:=bw.i .i64;let t:=[v 0];let k:=h [y [x w (oC p m b).chosen,c (oC p m b).value],γn (kh p m b),c (jl p m b)];let n:=y (x w []::t);let s:=γ0 false;let g:=ek (cJ (some m)) (dh.mk [] (m - e) false [(a,a,a,a,[])] a) (gJ p (jW p));let A:=decide (bH p≠a);let C:=decide (b<e);let r:=decide ((65536:Int)<b);let q:=decide (m<=a);let d:=(↑p.offers.length:Int);let j:=δ d.toNat a;let z:=λ(u:dh) ↦let o:=decide (u.err≠a);(u.found=true->(h (y [x w u.ch,c u.val]::γ0 true::t)).same k)/\(u.found=false->(o=true->(h [n,s,c u.err]).same k)/\(o=false->(h (n::s::t)).same k));let B:=λ(u:Bool) ↦(!g.found)=u;True/\(A=true->(h [n,s,c (bH p)]).same k)/\(A=false->(C=true->(h [n,s,v 4]).same k)/\(C=false->(r=true->(h [n,s,v 4]).same k)/\(r=false->(q=true->(h (n::γ0 true::t)).same k)/\(q=false->bU .i64 (m - e)/\a<=e/\e<=e/\(56:Int)<=f/\e<=l/\a<=d/\d<=d/\d*(8:Int)<=f/\d<=l/\0=0/\p.offers.length<=20/\(jW p).length<=9223372036854775807/\1=1/\(B true->(fc (dQ.mk p g.ch g.val g.found (some m) g.prf.length d.toNat b g.err g.prf j)/\(a<=a/\a<(↑g.prf.length:Int))/\nF j<161)/\z (dG p (cJ (some m)) b (nF j) g a j))/\(B false->z g)))))) (by kernel_rfl) ?_;simp only[vcs];have P:(δ ((p.offers.length:Int)).toNat 0:List Int)=iE p:=by grind[iE]
 have O:ek (cJ (some m)) ⟨[],m - 1,false,[(0,(0,(0,(0,[]))))],0⟩ (gJ p (jW p))=kY p m:=rfl;have K:nF (iE p)=p.offers.length:=yN;simp only[P,O,K];have I:∀e:Int,jl p m b=e->kh p m b=(decide (e=0)&&(decide (m<=0)||(gh p m b).found)):=λe h=>by grind[kh]
 have c:kh p m b=false\/m<=0->oC p m b=⟨[],0⟩:=λh=>by
  unfold oC;grind
 refine⟨λh=>?_,λh=>⟨λM=>?_,λM=>⟨λN=>?_,λN=>⟨λE=>?_,λE=>?_⟩⟩⟩⟩
 ·have e:jl p m b=bH p:=by simp_all[jl]
  have f:kh p m b=false:=by simp_all
  rw[e,f,c (.inl f)];exact⟨rfl,rfl,rfl⟩
 ·have e:jl p m b=4:=by simp_all[jl]
  have f:kh p m b=false:=by simp_all
  rw[e,f,c (.inl f)];exact⟨rfl,rfl,rfl⟩
 ·have e:jl p m b=4:=by simp_all[jl]
  have f:kh p m b=false:=by simp_all
  rw[e,f,c (.inl f)];exact⟨rfl,rfl,rfl⟩
 ·have e:jl p m b=0:=by simp_all[jl]
  have f:kh p m b=true:=by simp_all
  rw[e,f,c (.inr E)];exact⟨rfl,rfl,rfl⟩
 ·have J:bH p=0:=γa.1 h;obtain⟨R,Q⟩:=@Le p m;have S:dG p (cJ (some m)) b p.offers.length (kY p m) 0 (iE p)=gh p m b:=rfl;have F:=Lh J;have l:jl p m b=if(gh p m b).found=true then 0 else(gh p m b).err:=by simp_all[jl,if_neg]
  have y:((gh p m b).found=true->(γF [Δ (bw.i .i64) (gh p m b).ch,Ω .i64 (gh p m b).val]).same (γF [Δ (bw.i .i64) (oC p m b).chosen,Ω .i64 (oC p m b).value])/\true=kh p m b/\0=jl p m b)/\
    ((gh p m b).found=false->((gh p m b).err≠0->(γF [Δ (bw.i .i64) [],γo .i64 0]).same (γF [Δ (bw.i .i64) (oC p m b).chosen,Ω .i64 (oC p m b).value])/\false=kh p m b/\(gh p m b).err=jl p m b)/\
     (¬(gh p m b).err≠0->(γF [Δ (bw.i .i64) [],γo .i64 0]).same (γF [Δ (bw.i .i64) (oC p m b).chosen,Ω .i64 (oC p m b).value])/\false=kh p m b/\0=jl p m b)):=by
   refine⟨λv=>?_,λv=>⟨λD=>?_,λD=>?_⟩⟩
   ·rw[if_pos v] at l;have f:kh p m b=true:=by simp_all
    have a:oC p m b=⟨(gh p m b).ch,(gh p m b).val⟩:=by simp_all[oC]
    rw[l,f,a];exact⟨rfl,rfl,rfl⟩
   ·rw[if_neg (by rw[v];simp)] at l;have f:kh p m b=false:=by simp_all
    rw[l,f,c (.inl f)];exact⟨rfl,rfl,rfl⟩
   ·rw[if_neg (by rw[v];simp),γa.1 D] at l;have f:kh p m b=false:=by simp_all
    rw[l,f,c (.inl f)];exact⟨rfl,rfl,rfl⟩
  grind[aeL,Bj,mY]
def Lm:bL:=⟨97,bM×bM,.cons (dZ sF) (.one (dZ sF)),λa=>eW a.1/\eW a.2,λa=>lr (bK a.1*bK a.2)⟩
theorem h456:Holds Tryz.prog Lm:=by
 refine cq (L:=[D7,Ax]) Lm lk (by simpa using⟨h104,h105⟩) ?_;rintro⟨x,y⟩ ⟨⟨p,i,o,f,E⟩,⟨q,j,s,e,S⟩⟩;simp only at o s;subst o s;refine bQ (let e:=Δ;let d:=(bu p).snd.fst;let h:=(bu q).snd.fst;let m:=(bu p).snd.snd;let k:=(bu q).snd.snd;let c:=bO (bq d*bq h);let a:=bO (bq m*bq k);let l:=bu (ey (!(bu p).fst==(bu q).fst) (bq c) (bq a));let b:=bw.i .u32;let g:=bu (bK (bu p)*bK (bu q));((bB d/\bB h)/\Φ d<=1000000000/\Φ h<=1000000000)/\((bB m/\bB k)/\Φ m<=1000000000/\Φ k<=1000000000)/\((bB c/\bB a)/\(c.length<=100000000/\a.length<=100000000)/\(dS c/\dS a)/\(0:Int)<bq a)/\(γF [γn l.fst,e b l.snd.fst,e b l.snd.snd]).same (γF [γn g.fst,e b g.snd.fst,e b g.snd.snd])) (by kernel_rfl) ?_;conv=>zeta
 obtain⟨w,⟨K,W,C⟩,⟨U,H,v⟩⟩:=jg p;obtain⟨u,⟨I,X,A⟩,⟨V,T,B⟩⟩:=jg q;obtain⟨Q,F⟩:=lM f;obtain⟨J,N⟩:=lM e;have O:=p.den_pos;have Z:=q.den_pos;rw[C,v,A,B,w,u,dU,dU];have r:0<=(p.num.natAbs:Int)*(q.num.natAbs:Int):=Int.mul_nonneg (by omega) (by omega);have n:0<(p.den:Int)*(q.den:Int):=Int.mul_pos (by omega) (by omega);have Y:=jv r (nB (by omega) f.1 e.1);have D:=jv (ω n) (nB (by omega) f.2 e.2);obtain⟨z,R,G⟩:=ec r;obtain⟨t,P,M⟩:=ec (ω n);rw[z,t];grind[uy,J5]
def Bl:bL:=⟨40,bz,.one dO,λ_=>True,λp=> .si .i64 (if bH p=0 then cE p else 0)⟩
theorem h454:Holds Tryz.prog Bl:=by
 refine cq (L:=[xT]) Bl lk (by grind[h24]) ?_;rintro(p:bz) -;refine bQ (let d:=(0:Int);let b:=decide (bH p≠d);let a:=Ω .i64 (if bH p=d then cE p else d);let c:=(↑p.classes.length:Int)+(12:Int);True/\(b=true->(γo .i64 0).same a)/\(b=false->bU .i64 c/\(Ω .i64 c).same a)) (by kernel_rfl) ?_;simp only[vcs];refine⟨λh=>by rw[if_neg h],λh=>?_⟩;have d:bH p=0:=γa.1 h;rw[if_pos d];have:=(dR d).1;exact⟨by omega,rfl⟩
def Ln:bL:=⟨95,bz×Int,.cons dO (.one (ef .i64)),λa=>bH a.1=0/\0<=a.2/\a.2<cE a.1,λa=> .bN [.row (.i .i64) (eM a.1 a.2 a.1.offers.length),.si .i64 (di a.1 a.2)]⟩
def aeM (a:bz×Int):Nat->cC
 |5=> .inv Int (λi=>⟨[(1,.si .i64 a.2),(2,.ptr 0 0 20),(6,.ow 1 (eM a.1 a.2 i.toNat).length 1),(7,.si .i64 i)],[.cells a.1.ss 27 20 false,.row (.i .i64) (eM a.1 a.2 i.toNat) 3 true]⟩)
   (λs=>iS s 7) (λi=>0<=i/\i<=a.1.offers.length) (λi=>(a.1.offers.length - i).toNat) λ_ _=> .look
 |_=> .look
theorem h455:Holds Tryz.prog Ln:=by
 refine cq (L:=[Bl,Dt]) Ln aeM (by grind[h454,h110]) ?_;rintro⟨p,r⟩ ⟨t,B,E⟩;simp only at t B E;refine bQ (let d:=Ω .i64;let e:=(0:Int);let h:=Δ;let j:=bA.row;let q:=SV.bN;let t:=γz;let z:=decide (r<e);let c:=bw.i .i64;let v:=γo .i64 0;let w:=[d (di p r)];let s:=q (h c (eM p r p.offers.length)::w);let A:=decide ((if bH p=e then cE p else e)<=r);let n:=γU 0 0 20;let o:=bA.cells [d p.supply.a0,d p.supply.a1,d p.supply.a2,d p.supply.a3,d p.supply.a4,d p.supply.a5,d p.opn.a0,d p.opn.a1,d p.opn.a2,d p.opn.a3,d p.opn.a4,d p.opn.a5,d p.cls.a0,d p.cls.a1,d p.cls.a2,d p.cls.a3,d p.cls.a4,d p.cls.a5,h c p.classes,h bw.off p.offers] 27 20 false;let l:=(↑p.offers.length:Int);let u:=(↑p.offers.length:Int);(z=true->(q [h c [],v]).same s)/\(z=false->True/\(A=true->(q [h c [],v]).same s)/\(A=false->((((d r).same (d r)/\n.same n/\(t 1 0 1).same (t 1 (eM p r 0).length 1)/\v.same (d 0)/\True)/\o.same o/\(j c [] 3 true).same (j c (eM p r 0) 3 true)/\True)/\e<=e/\e<=l)/\∀(x:Int),let m:=bp p.offers x.toNat bw.off.dflt;let a:=eM p r x.toNat;let g:=a.length+1;let b:=x+(1:Int);let f:=a++[o9 p r m];let k:=d b;e<=x/\x<=l->(decide (x<u)=true->e<=x/\x<u/\x.toNat<p.offers.length/\(p.classes.length<=8/\e<=r/\r<cE p/\e<=m.ck)/\a.length=a.length/\g*8<=140737488355328/\g<=1000000000000/\bU .i64 b/\(((d r).same (d r)/\n.same n/\(t 1 f.length 1).same (t 1 (eM p r b.toNat).length 1)/\k.same k/\True)/\o.same o/\(j c f 3 true).same (j c (eM p r b.toNat) 3 true)/\True)/\(e<=b/\b<=l)/\(l - b).toNat<(l - x).toNat)/\(decide (x<u)=false->(p.classes.length<=8/\e<=r/\r<cE p/\e<=e)/\a.length=a.length/\(q (h c a::w)).same s)))) (by kernel_rfl) ?_;simp only[vcs];obtain⟨F,H,N,G,D⟩:=dR t;have q:∀{x y:Nat},x=y->(γz 1 x 1).same (γz 1 y 1):=by rintro _ _ rfl;rfl
 have j:∀{x y:List Int},x=y->(bA.row (.i .i64) x 3 true).same (bA.row (.i .i64) y 3 true):=by rintro _ _ rfl;rfl
 rw[if_pos t];refine⟨λh=>by omega,λ_=>⟨λh=>by omega,λ_=>⟨⟨⟨q rfl,j rfl⟩,by omega,by omega⟩,?_⟩⟩⟩;rintro i ⟨M,K⟩;have I:(eM p r i.toNat).length<=160:=by grind[eM]
 refine⟨λC=>?_,λC=>?_⟩
 ·have J:=D _ (dn (d:=bw.off.dflt) (show i.toNat<p.offers.length by omega));have e:eM p r (i+1).toNat=eM p r i.toNat++[o9 p r (bp p.offers i.toNat bw.off.dflt)]:=by
   grind[eM,jN,Qo]
  grind
 grind
def Lq:bL:=⟨94,bz×List Int,.cons dO (.one (cV (.i .i64))),λa=>a.2.length<=1000000000000,λa=> .si .i64 (fz a.1 a.2)⟩
def aeN (p:bz) (f:List Int):Nat->cC
 |7=> .inv Int (λi=>⟨[(1,.row (.i .i64) f),(6,.si .i64 i)],[.cells p.ss 27 20 false]⟩)
   (λs=>iS s 6) (λi=>(0<=i/\i<=f.length)/\fQ (f.take i.toNat)=true) (λi=>(f.length - i).toNat) λ_ _=> .look
 |_=> .look
theorem h453:Holds Tryz.prog Lq:=by
 refine cq (L:=[xT]) Lq (λa=>aeN a.1 a.2) (by grind[h24]) ?_;rintro⟨p,f⟩ (D:f.length<=1000000000000);refine bQ (let a:=(0:Int);let d:=Ω .i64;let g:=γo .i64;let s:=decide (bH p≠a);let k:=d (fz p f);let j:=(↑f.length:Int);let r:=decide (j≠(↑p.offers.length:Int));let n:=Δ (bw.i .i64) f;let t:=g 0;let m:=bA.cells (bz.ss p) 27 20 false;let c:=(↑f.length:Int);True/\(s=true->(d (bH p)).same k)/\(s=false->(r=true->(g 3).same k)/\(r=false->(((n.same n/\t.same (d 0)/\True)/\m.same m/\True)/\(a<=a/\a<=c)/\fQ []=true)/\∀(x:Int),let o:=bp f x.toNat a;let v:=decide (o<(-1:Int));let l:=decide ((1:Int)<o);let b:=x+(1:Int);let e:=d b;(a<=x/\x<=c)/\fQ (τ x.toNat f)=true->(decide (x<j)=true->a<=x/\x<j/\x.toNat<f.length/\(v=true->(g 4).same k)/\(v=false->a<=x/\x<j/\x.toNat<f.length/\(l=true->(g 4).same k)/\(l=false->bU .i64 b/\((n.same n/\e.same e/\True)/\m.same m/\True)/\((a<=b/\b<=c)/\fQ (τ b.toNat f)=true)/\(c - b).toNat<(c - x).toNat)))/\(decide (x<j)=false->t.same k)))) (by kernel_rfl) ?_;simp only[vcs];refine⟨λh=>by simp[fz,h],λh=>?_⟩;have G:bH p=0:=γa.1 h;refine⟨λw=>by
  grind[fz],λw=>⟨⟨⟨by omega,by omega⟩,rfl⟩,?_⟩⟩;have q:f.length=p.offers.length:=by omega
 rintro i ⟨⟨B,F⟩,g⟩;refine⟨λu=>?_,λu=>?_⟩
 ·have A:=dn (d:=0) (show i.toNat<f.length by omega);have E:=jN (d:=0) B u;have y:¬(-1<=bp f i.toNat 0/\bp f i.toNat 0<=1)->(4:Int)=fz p f:=λC=>by
   have:fQ f=false:=by
    rw[Bool.eq_false_iff];intro z;have:=ξ.1 z _ A;grind
   grind[fz]
  grind[fQ]
 ·rw[show i.toNat=f.length by omega,List.take_length] at g;grind[fz]
def gi (p:bz) (y:List Rat) (r:Nat) (i:Int):Rat:=((oI p i).value:Rat) - bV r λk=>bp y k 0*((dW p k (oI p i):Int):Rat)
def jQ (p:bz) (y:List Rat) (r k:Nat):List bM:=(dL p.offers.length).map λ(i:Int)=>bu (gi p y (if i<(k:Int) then r+1 else r) i)
def oD (p:bz) (k:Nat):List bM:=(dL k).map λ(i:Int)=>bu (((oI p i).value:Int):Rat)
def iZ (p:bz) (f:List Int) (y:List Rat) (r:Nat):Rat:=((fj p f:Int):Rat)+bV r λk=>bp y k 0*((di p k - cT p ((bE f 1).map (oI p)) k:Int):Rat)
def kZ (p:bz) (f:List Int) (r:Int) (k:Nat):Int:=di p r - cT p ((bE (f.take k) 1).map (oI p)) r
theorem Bm {p:bz} {k:Nat}:(oD p k).length=k:=by grind[oD,jw]
theorem aeO {p:bz} {i:Int} (a:0<=i):oD p i.toNat++[bu (ζ (oI p i).value)]=oD p (i+1).toNat:=by
 unfold oD;rw[show(i+1).toNat=i.toNat+1 by omega,vZ,γg,δ6 a];rfl
theorem Lr {a:Type} {n j:Nat} (g:Int->a) (d:a) (h:j<n):bp ((dL n).map g) j d=g j:=by
 grind[dj,dL]
theorem UX {p:bz} {k j:Nat} (h:j<k) {d:bM}:bp (oD p k) j d=bu (((oI p j).value:Int):Rat):=Lr _ _ h
theorem pz {p:bz} {y:List Rat} {r k:Nat}:(jQ p y r k).length=p.offers.length:=by grind[jQ,jw]
theorem yQ {p:bz} {y:List Rat} {r k j:Nat} (h:j<p.offers.length) {d:bM}:bp (jQ p y r k) j d=bu (gi p y (if j<k then r+1 else r) j):=by
 simp_all[jQ,Lr]
theorem yR {c:Type} {a b:List c} (d:c) (e:a.length=b.length) (h:∀j,j<a.length->bp a j d=bp b j d):a=b:=by
 refine List.ext_getElem e λj f g=>?_;grind[dj]
theorem aeP {p:bz} {y:List Rat} {r:Nat} {k:Int} (b:0<=k) (h:k<p.offers.length):(jQ p y r k.toNat).set k.toNat (bu (gi p y (r+1) k))=jQ p y r (k+1).toNat:=by
 refine yR (false,([],[])) (by grind[pz]) λj a=>?_;rw[Ψ,pz] at a;rw[iV (by grind[pz]),yQ a,yQ a];grind
theorem aeQ {p:bz} {y:List Rat} {r:Nat}:jQ p y r p.offers.length=jQ p y (r+1) 0:=by
 refine yR (false,([],[])) (by grind[pz]) λj a=>?_;simp_all[pz,yQ]
theorem aeR {p:bz} {y:List Rat}:oD p p.offers.length=jQ p y 0 0:=by
 refine yR (false,([],[])) (by rw[Bm,pz]) λj a=>?_;rw[Bm] at a;rw[UX a,yQ a,if_neg (by omega)];grind[gi,bV]
theorem UY {p:bz} {f:List Int} {y:List Rat}:iZ p f y 0=((fj p f:Int):Rat):=by
 grind[iZ,bV]
theorem Ls {p:bz} {f:List Int} {y:List Rat} {r:Nat}:iZ p f y (r+1)=iZ p f y r+bp y r 0*((di p r - cT p ((bE f 1).map (oI p)) r:Int):Rat):=by
 grind[iZ,bV]
theorem E9 {p:bz} {y:List Rat} {r:Nat} {i:Int}:gi p y (r+1) i=gi p y r i - bp y r 0*((dW p r (oI p i):Int):Rat):=by
 grind[gi,bV]
theorem mE {q:Rat} {k:Nat} (h:Sz k q) (a:k<=10000000):eW (bu q):=⟨q,k,rfl,h,a⟩
theorem Lt {p:bz} {r:Int}:(eM p r p.offers.length).length=p.offers.length:=by grind[eM]
theorem UZ {p:bz} {r i:Int} (h:0<=i/\i<p.offers.length):bp (eM p r p.offers.length) i.toNat 0=dW p r (oI p i):=by
 grind[eM,dj,oI]
theorem U0 {p:bz} {f:List Int} {r:Int}:kZ p f r 0=di p r:=by
 simp_all[kZ,bE,dL,cT]
theorem U1 {p:bz} {f:List Int} {r k:Int} (a:0<=k) (h:k<f.length):kZ p f r (k+1).toNat=kZ p f r k.toNat - if bp f k.toNat 0=1 then dW p r (oI p k) else 0:=by
 grind[kZ,yF,cT]
theorem Fa {p:bz} {f:List Int} {r:Int}:kZ p f r f.length=di p r - cT p ((bE f 1).map (oI p)) r:=by
 grind[kZ]
theorem Lu {p:bz} {f:List Int} {r:Int} {k:Nat} (a:bH p=0) (j:f.length=p.offers.length): -640<=kZ p f r k/\kZ p f r k<=4:=by
 have g:=@AQ p a r;have b:=@sL p r ((bE (f.take k) 1).map (oI p)) λx d=>by
  obtain⟨i,e,rfl⟩:=γf.1 d;have:=(kW.1 e).1;rw[γG] at this;exact(kC a (i:=i) (by omega)).2.2.1
 have c:=@rQ (f.take k) 1;rw[γT] at b;rw[γG] at c;have h:=(dR a).2.1;grind[kZ]
section
variable {p:bz} {f:List Int}
theorem aeS (h:fb p f) {i:Int} (c:0<=i/\i<f.length) (d:bp f i.toNat 0=0):gi p (gX p f) (mF p) i<=0:=by
 have a:i∈bE f 0:=kW.2 ⟨c,d⟩;have b:(bE f 0).idxOf i<nF f:=List.idxOf_lt_length_of_mem a;have g:=aeo h b;have e:bp (bE f 0) ((bE f 0).idxOf i) 0=i:=by grind[dj]
 grind[A8,dM,yw,gi]
theorem aeT (h:fb p f):iZ p f (gX p f) (mF p)=jk p f:=by
 grind[iZ,jk,UC,dM,yx]
end
section
variable {p:bz} {v:Int} {t:List cB} {a lo mid hi n:Nat} {f:List Int} {k:Int} {s:List Bool}
end
structure jD where
 left:bG
 opn:bG
 chosen:List Int
 value:Int
 won:List Bool
def nd (c w a:Int):Int:=if c=0\/c≠a then w else 0
def yS (p:bz) (x:Off):bG:=⟨nd p.cls.a0 x.want.a0 (mg p x),nd p.cls.a1 x.want.a1 (mg p x),nd p.cls.a2 x.want.a2 (mg p x),nd p.cls.a3 x.want.a3 (mg p x),nd p.cls.a4 x.want.a4 (mg p x),nd p.cls.a5 x.want.a5 (mg p x)⟩
def bG.pos (b:bG):Bool:=decide (0<=b.a0)&&decide (0<=b.a1)&&decide (0<=b.a2)&&decide (0<=b.a3)&&decide (0<=b.a4)&&decide (0<=b.a5)
def gQ (p:bz) (u:jD) (x:Off):bG:=(u.opn.sub (yS p x)).meet (u.left.sub x.want)
def jm (p:bz) (u:jD) (x:Off):Bool:=!(bp u.won x.ck.toNat false)&&((u.left.sub x.want).pos&&(gQ p u x).pos)
def fp (p:bz) (u:jD) (i:Int):jD:=⟨u.left.sub (oI p i).want,gQ p u (oI p i),u.chosen++[i],u.value+(oI p i).value,u.won.set (oI p i).ck.toNat true⟩
def gY (p:bz) (u:jD) (k:Nat):bz:=⟨u.left,u.opn,p.cls,p.classes,(p.offers.drop k).filter (jm p u)⟩
theorem Lx {x:bG}:eh [x]=x:=by simp[eh]
theorem six {P:Nat->Prop} (f:P 0) (a:P 1) (b:P 2) (d:P 3) (e:P 4) (c:P 5):∀k,k<6->P k:=by
 grind
theorem Bn {a b:bG}:∀k,k<6->(a.sub b).at k=a.at k - b.at k:=six rfl rfl rfl rfl rfl rfl
theorem Ly {a b:bG}:∀k,k<6->(a.add b).at k=a.at k+b.at k:=six rfl rfl rfl rfl rfl rfl
theorem U2 {a b:bG}:∀k,k<6->(a.meet b).at k=min (a.at k) (b.at k):=six rfl rfl rfl rfl rfl rfl
theorem LA {p:bz} {x:Off}:∀k,k<6->(yS p x).at k=nd (p.cls.at k) (x.want.at k) (mg p x):=six rfl rfl rfl rfl rfl rfl
theorem Fb {p:bz} {x:Off}:∀k,k<6->(ft p x).at k=if p.cls.at k=0\/p.cls.at k=mg p x then 0 else x.want.at k:=by
 refine six ?_ ?_ ?_ ?_ ?_ ?_<;>(show oc _ _ _ _ _=_;unfold oc;simp only[show((0:Int)<6)=True by simp,show((1:Int)<6)=True by simp,show((2:Int)<6)=True by simp,show((3:Int)<6)=True by simp,show((4:Int)<6)=True by simp,show((5:Int)<6)=True by simp,true_and];rfl)
theorem U3 {b:bG}:b.pos=true↔∀k,k<6->0<=b.at k:=by
 unfold bG.pos;simp only[θ,decide_eq_true_eq];constructor
 ·rintro⟨⟨⟨⟨⟨g,a⟩,c⟩,e⟩,f⟩,d⟩;exact six g a c e f d
 ·intro h;exact⟨⟨⟨⟨⟨h 0 (by omega),h 1 (by omega)⟩,h 2 (by omega)⟩,h 3 (by omega)⟩,h 4 (by omega)⟩,h 5 (by omega)⟩
theorem yT {b:bG}:b.ok=true↔∀k,k<6->0<=b.at k/\b.at k<=4:=by
 rw[bG.jM];constructor
 ·rintro⟨g,a,c,e,f,d⟩;exact six g a c e f d
 ·intro h;exact⟨h 0 (by omega),h 1 (by omega),h 2 (by omega),h 3 (by omega),h 4 (by omega),h 5 (by omega)⟩
theorem LC {p:bz} {k:Nat} (a:k<6):∀L:List Off,(eh (L.map (yS p))).at k=if p.cls.at k=0 then(eh (L.map Off.want)).at k else(eh (L.map (ft p))).at k:=by
 intro L;rw[og,og,og];induction L with
 |nil=>simp;|cons x L b=>
  simp only[φ,List.sum_cons];rw[b,LA k a,Fb k a];unfold nd;omega
theorem agN {p:bz} {k:Nat} (c:k<6) (a:p.cls.at k=0):∀L:List Off,(eh (L.map (ft p))).at k=0:=by
 intro L;rw[og];induction L with
 |nil=>simp;|cons x L b=>
  simp_all[Fb]
theorem Fe {p:bz} (c:Good p) {k:Nat} (d:k<6):∀{L:List Off},(∀x∈L,x∈p.offers)->0<=(eh (L.map Off.want)).at k/\(eh (L.map (ft p))).at k<=(eh (L.map Off.want)).at k/\0<=(eh (L.map (ft p))).at k:=by
 intro L;rw[og,og];induction L with
 |nil=>intro _;simp;|cons x L b=>
  intro h;have e:=b λy a=>h y (List.mem_cons_of_mem _ a);have f:=(yT.1 (c.2.2.2.2 x (h x (List.mem_cons_self ..))).2.2.1 k d);grind[Fb]
theorem wB {p:bz} (c:bH p=0) {k:Nat} (b:k<6):0<=p.cls.at k/\p.cls.at k<=4/\0<=p.opn.at k/\p.opn.at k<=p.supply.at k/\(p.cls.at k=0->p.opn.at k=p.supply.at k):=by
 have h:=pR.1 ((vH (vI c).1).2.1 k b);exact⟨h.1,h.2.1,h.2.2.1,h.2.2.2.1,λd=>by rcases h.2.2.2.2 with a|a;exact absurd d a;exact a⟩
theorem LD {a b:bG}:a.le b=true↔∀k,k<6->a.at k<=b.at k:=⟨λh k _=>Ip h k,Iq⟩
structure rV (p:bz) (u:jD):Prop where
 f:rE p u.chosen
 v:u.value=cK (dd p u.chosen)
 l:∀k,k<6->u.left.at k=p.supply.at k - (eh ((dd p u.chosen).map Off.want)).at k
 o:∀k,k<6->u.opn.at k=min (p.opn.at k - (eh ((dd p u.chosen).map (yS p))).at k) (u.left.at k)
 wl:u.won.length=8
 w:∀b:Int,0<=b->b<8->bp u.won b.toNat false=decide (b∈(dd p u.chosen).map Off.ck)
theorem LG {p:bz} {t:List Int} (h:pe 0 p.offers.length t):∀x∈dd p t,x∈p.offers:=λx a=>by
 obtain⟨i,b,rfl⟩:=γf.1 a;have:=h.2 i b;grind[dn]
section
variable {p:bz} {u:jD}
theorem LH {L M:List Off}:jr p (L++M)↔((L.map Off.ck++M.map Off.ck).Nodup/\(∀k,k<6->(eh (L.map Off.want)).at k+(eh (M.map Off.want)).at k<=p.supply.at k)/\∀k,k<6->(eh (L.map (ft p))).at k+(eh (M.map (ft p))).at k<=p.opn.at k):=by
 simp_all[jr,zZ,LD,Ly]
theorem Ff (h:bH p=0) (c:rV p u) {x:Off} (m:x∈p.offers):jm p u x=true↔jr p (dd p u.chosen++[x]):=by
 have b:=dR h;have g:=b.2.2.2.2 x m;have r:=b.1;have q:=LG c.f.1;rw[LH];unfold jm;rw[θ,θ,U3,U3,γX,c.w _ g.1 (by omega),decide_eq_false_iff_not];simp only[φ,γv,Lx];have d:∀k,k<6->((0<=(u.left.sub x.want).at k/\0<=(gQ p u x).at k)↔((eh ((dd p u.chosen).map Off.want)).at k+x.want.at k<=p.supply.at k/\(eh ((dd p u.chosen).map (ft p))).at k+(ft p x).at k<=p.opn.at k)):=λk a=>by
  have A:=c.l k a;have t:=c.o k a;have v:=LC (p:=p) a (dd p u.chosen);have s:=@LA p x k a;have n:=@Fb p x k a;have B:=wB h a;have y:=yT.1 g.2.2.1 k a;have j:=Fe b a q;unfold gQ;rw[U2 k a,Bn k a,Bn k a,s,n];unfold nd;grind
 constructor
 ·rintro⟨z,e,i⟩;refine⟨?_,λk a=>((d k a).1 ⟨e k a,i k a⟩).1,λk a=>((d k a).1 ⟨e k a,i k a⟩).2⟩;rw[γt];refine⟨c.f.2.1,by simp,?_⟩;simp_all
 grind
theorem rV.next (n:bH p=0) (c:rV p u) {i:Int} (D:∀j∈u.chosen,j<i) (C:0<=i/\i<p.offers.length) (s:jm p u (oI p i)=true):rV p (fp p u i):=by
 have m:oI p i∈p.offers:=dn (by omega);have B:=(Ff n c m).1 s;have g:=dR n;have q:=g.2.2.2.2 _ m;have z:=g.1;have e:dd p (u.chosen++[i])=dd p u.chosen++[oI p i]:=by unfold dd;rw[γg];rfl
 refine⟨⟨⟨?_,?_⟩,?_⟩,?_,?_,?_,?_,?_⟩
 ·show(u.chosen++[i]).Pairwise _;rw[List.pairwise_append];exact⟨c.f.1.1,List.pairwise_singleton _ _,λa A b q=>by simp_all⟩
 ·intro j t;rcases List.mem_append.1 t with h|h;·exact c.f.1.2 j h
  simp_all
 ·show jr p (dd p (u.chosen++[i]));simp_all
 ·show u.value+_=cK (dd p (u.chosen++[i]));rw[e,pS,c.v];simp[cK]
 ·intro k d;show(u.left.sub _).at k=_ - (eh ((dd p (u.chosen++[i])).map Off.want)).at k;rw[e,γg,zZ,Ly k d,Bn k d,c.l k d];grind[Lx]
 ·intro k d;show(gQ p u (oI p i)).at k=min (_ - (eh ((dd p (u.chosen++[i])).map (yS p))).at k) ((u.left.sub (oI p i).want).at k);unfold gQ;rw[e,γg,zZ,Ly k d,U2 k d,Bn k d,Bn k d,c.o k d];grind[Lx,LA,yT,nd]
 ·show(u.won.set _ true).length=8;rw[Ψ];exact c.wl
 ·intro b y x;show bp (u.won.set (oI p i).ck.toNat true) b.toNat false=decide (b∈(dd p (u.chosen++[i])).map Off.ck);have r:=c.wl;rw[e,γg,iV (by omega)];simp only[φ,γv];by_cases h:b=(oI p i).ck;·simp_all
  ·rw[if_neg (by omega),c.w b y x];simp_all
theorem LI (s:bH p=0) (g:rV p u) {k:Nat} {M:List Off} (r:∀x∈M,x∈p.offers) (y:∀x∈M,jm p u x=true):jr (gY p u k) M↔jr p (dd p u.chosen++M):=by
 have d:=dR s;have C:=d.1;have A:=LG g.f.1;rw[LH];unfold jr;rw[LD,LD];have D:∀x:Off,ft (gY p u k) x=ft p x:=λx=>rfl;have n:M.map (ft (gY p u k))=M.map (ft p):=rfl;rw[n];have h:∀j,j<6->(((eh (M.map Off.want)).at j<=(gY p u k).supply.at j/\(eh (M.map (ft p))).at j<=(gY p u k).opn.at j)↔((eh ((dd p u.chosen).map Off.want)).at j+(eh (M.map Off.want)).at j<=p.supply.at j/\(eh ((dd p u.chosen).map (ft p))).at j+(eh (M.map (ft p))).at j<=p.opn.at j)):=λj c=>by
  have H:=g.l j c;have F:=g.o j c;have G:=LC (p:=p) c (dd p u.chosen);have J:=wB s c;have I:=Fe d c A;have K:=Fe d c r;have L:(gY p u k).supply.at j=u.left.at j:=rfl;have E:(gY p u k).opn.at j=u.opn.at j:=rfl;omega
 constructor
 ·rintro⟨z,v,q⟩;refine⟨?_,λj c=>((h j c).1 ⟨v j c,q j c⟩).1,λj c=>((h j c).1 ⟨v j c,q j c⟩).2⟩;rw[γt];refine⟨g.f.2.1,z,?_⟩;intro a B b i e;subst e;obtain⟨x,t,rfl⟩:=γf.1 i;have m:=y x t;have i:=d.2.2.2.2 x (r x t);unfold jm at m;rw[θ,γX,g.w _ i.1 (by omega),decide_eq_false_iff_not] at m;exact m.1 B
 grind
theorem aeU {q:bz} (d:iR q=0) (h:∀x∈q.offers,kr q x=0) (b:(q.offers.map Off.key).Nodup):bH q=0:=by
 have a:∀(l:List Off) (s:List nT),(∀x∈l,kr q x=0)->(l.map Off.key).Nodup->(∀x∈l,x.key∉s)->jc q s l=0:=by
  intro l;induction l with
  |nil=>intro s _ _ _;rfl;|cons x l c=>
   simp_all[jc]
 simp_all[bH]
theorem Fg (e:bH p=0) (g:rV p u) {k:Nat}:bH (gY p u k)=0:=by
 have v:=dR e;have C:=LG g.f.1;have r:=(LH (p:=p) (L:=dd p u.chosen) (M:=[])).1 (by rw[List.append_nil];exact g.f.2);obtain⟨d,q⟩:=vI e;obtain⟨J,H,P,R,N⟩:=vH d;have s:∀x∈(gY p u k).offers,x∈p.offers/\jm p u x=true:=λx n=>by
  obtain⟨c,w⟩:=γJ.1 n;grind
 have F:(eh (([]:List Off).map Off.want))=bG.zero:=rfl;have h:∀j,j<6->0<=u.left.at j/\u.left.at j<=4:=λj a=>by
  have B:=g.l j a;have O:=Fe v a C;have w:=r.2.1 j a;have t:(eh (([]:List Off).map Off.want)).at j=0:=by rw[og];rfl
  grind[yT]
 have i:∀j,j<6->0<=u.opn.at j/\u.opn.at j<=u.left.at j/\(p.cls.at j=0->u.opn.at j=u.left.at j):=λj a=>by
  have B:=g.l j a;have I:=g.o j a;have D:=LC (p:=p) a (dd p u.chosen);have m:=wB e a;have w:=r.2.1 j a;have E:=r.2.2 j a;have t:(eh (([]:List Off).map Off.want)).at j=0:=by rw[og];rfl
  grind
 refine aeU ?_ (λx n=>?_) ?_
 ·have Q:(gY p u k).supply.ok=true:=yT.2 h;have G:Df (gY p u k)=true:=zT.2 λj a=>pR.2 (by
   have m:=wB e a;have b:=i j a;refine⟨m.1,m.2.1,b.1,b.2.1,?_⟩;by_cases z:p.cls.at j=0;·exact .inr (b.2.2 z)
   ·exact .inl z);have K:(gY p u k).offers.length<=p.offers.length:=by
   have c:=γ8 (jm p u) (p.offers.drop k);rw[List.length_drop] at c;show((p.offers.drop k).filter (jm p u)).length<=_;omega
  have y:(gY p u k).classes=p.classes:=rfl;unfold iR;grind
 ·obtain⟨c,w⟩:=s x n;have b:=q x c;unfold kr at b ⊢;have y:(gY p u k).classes=p.classes:=rfl;rw[y];split at b;·omega
  ·rename_i t;rw[if_neg t];split at b;·cases b
   ·rename_i A;rw[if_neg A];grind[LI,Ff,QQ]
 ·have c:=(Io (by
   have:=e;unfold bH at this;rw[if_neg (by rw[d];simp)] at this;exact this)).1;exact((List.filter_sublist.trans (List.drop_sublist k _)).map Off.key).nodup c
end
theorem aeV {p:bz} {c:List Int} {m:Int} (b:cH p c=0) (a:1<=m/\m<=65536):kJ p c m=(iL p c m).err:=by
 simp_all[kJ,if_neg]
theorem aeW {p:bz} (d:bH p=0) {c:List Int} {m:Int} (b:cH p c=0) (e:m<=65536) (f:((1+2^(p.offers.length+1):Nat):Int)<=m+2):kJ p c m=0:=by
 have a:=Nat.one_le_two_pow (n:=p.offers.length+1);grind[aeV,Ld]
theorem LJ {p:bz} (a:bH p=0) {m k:Int} (d:k<=65536) (b:((1+2^(p.offers.length+1):Nat):Int)<=k+2):jl p m k=0:=by
 have c:2<=2^(p.offers.length+1):=by grind
 unfold jl;rw[if_neg (by simp[a]),if_neg (by omega)];grind[UW]
theorem U4 {p:bz} (a:bH p=0) {m k:Int} (b:jl p m k=0):kh p m k=true↔m<=(cY p).value:=by
 have j:0<=(cY p).value:=by
  obtain⟨t,d,e⟩:=US a;obtain⟨_,c⟩:=sW d;rw[<-e,wy a c];exact(qG (dR a) (l:=t.map (oI p)) λx g=>by
   obtain⟨i,f,rfl⟩:=γf.1 g;have:=c.2 i f;exact dn (by omega)).1
 have h:=@UW p a m k;unfold kh;rw[b,decide_eq_true rfl,Bool.true_and,Bool.or_eq_true,decide_eq_true_eq];unfold jl at b;grind
end Go.Vi
