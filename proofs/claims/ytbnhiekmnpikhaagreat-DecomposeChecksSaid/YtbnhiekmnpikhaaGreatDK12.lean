/-
  Contracts: the methods of a search.
  Conditions: none.
-/
import Derived.Test.YtbnhiekmnpikhaaGreatDK09
import Derived.Test.YtbnhiekmnpikhaaGreatDK06
import Derived.Test.YtbnhiekmnpikhaaGreatDK11
import Derived.Test.YtbnhiekmnpikhaaGreatDK07
import Derived.Test.YtbnhiekmnpikhaaGreatDK08
import Derived.Test.YtbnhiekmnpikhaaGreatDK10
set_option maxRecDepth 100000
set_option maxHeartbeats 4000000
set_option linter.all false
open Bool renaming and_eq_true->θ,false_ne_true->ζh,not_eq_true'->δe
open Classical renaming not_not->γj
open Go.Vi.AV.os renaming injEq->εz
open Go.Vi.AV.sc renaming injEq->δb
open Go.Vi.SV renaming bl->δf,sb->γw,si->γi,row->Ω,fn->ζN,ow->γ1,ptr->γT,il->γy,agg->γN
open Int renaming toNat_natCast->γl,toNat_of_nonneg->εB
open IntCast renaming intCast->κ
open List renaming take_append_drop->γL,map_cons->π,map_nil->γr,length->γc,map_map->γ3,replicate->δ,all_eq_true->φ,mem_map->Ψ,take->ω,mem_of_mem_take->γm,take_length->ψ,map->γb,length_take->γq,length_map->Δ,append_nil->γ7,map_append->γa,length_set->Φ,length_filter_le->δc,mem_filter->γt,nodup_append->γs
open List.cons renaming injEq->Θ
open Option.some renaming injEq->γ
namespace Go.Vi
open Go.Proofs.YtbnhiekmnpikhaaGreat.Ir
open Go.Proofs
structure dJ where
 p:bn
 ch:List Int
 val:Int
 found:Bool
 en:Option Int
 k1:Nat
 k2:Nat
 most:Int
 err:Int
 prf:List dj
 fx:List Int
def dJ.cs (x:dJ) (e:SV) (i j:Nat):List SV:=[.row (.i .i64) x.ch,.si .i64 x.val,.sb x.found,e,.ow i x.k1 5,.ow j x.k2 1,.si .i64 x.most,.si .i64 x.err]
def dJ.yK (x:dJ):bZ:=[.cells (x.p.ss++x.cs (.fn (.func 70) [] []) 1 2) 126 28 false,.row bF x.prf 108 true,.row (.i .i64) x.fx 3 true]
def dJ.yL (x:dJ) (m:Int):bZ:=[.cells (x.p.ss++x.cs (.fn (.func 116) [] [.ptr 1 0 1]) 2 3) 126 28 false,.cells [.si .i64 m] 2 1 false,.row bF x.prf 108 true,.row (.i .i64) x.fx 3 true]
def dJ.gP (x:dJ):bZ:=match x.en with
 |none=>x.yK
 |some m=>x.yL m
def Kz:bZ->Option dJ
 |[.cells cs 126 28 false,.row s1 l1 108 true,.row s2 l2 3 true]=>match cs.drop 20 with
  |[c,v,b,.fn (.func 70) [] [],.ow 1 k1 5,.ow 2 k2 1,mo,er]=>match vP (cs.take 20),jH (.i .i64) c,v.int .i64,b.boo,mo.int .i64,er.int .i64 with
   |some p,some c,some v,some b,some mo,some er=>match iG s1 bF l1,iG s2 (.i .i64) l2 with
    |some l1,some l2=>some ⟨p,c,v,b,none,k1,k2,mo,er,l1,l2⟩
    |_,_=>none
   |_,_,_,_,_,_=>none
  |_=>none
 |[.cells cs 126 28 false,.cells [m] 2 1 false,.row s1 l1 108 true,.row s2 l2 3 true]=>match cs.drop 20 with
  |[c,v,b,.fn (.func 116) [] [.ptr 1 0 1],.ow 2 k1 5,.ow 3 k2 1,mo,er]=>match vP (cs.take 20),jH (.i .i64) c,v.int .i64,b.boo,mo.int .i64,er.int .i64 with
   |some p,some c,some v,some b,some mo,some er=>match iG s1 bF l1,iG s2 (.i .i64) l2,m.int .i64 with
    |some l1,some l2,some m=>some ⟨p,c,v,b,some m,k1,k2,mo,er,l1,l2⟩
    |_,_,_=>none
   |_,_,_,_,_,_=>none
  |_=>none
 |_=>none
theorem aeA {o:bZ} {x:dJ} (h:Kz o=some x):gO o=gO x.gP:=by
 unfold Kz at h;split at h
 ·rename_i cs s1 l1 s2 l2;split at h
  ·rename_i c v b k1 k2 mo er hd;split at h
   ·rename_i p c' v' b' mo' er' h1 h2 h3 h4 h5 h6;split at h
    ·rename_i l1' l2' g1 g2;simp only[γ] at h;subst h;obtain⟨rfl,e1⟩:=mE g1;obtain⟨rfl,e2⟩:=mE g2;cases e1;cases e2;have e3:gL cs=gL p.ss++gL [c,v,b,.fn (.func 70) [] [],.ow 1 k1 5,.ow 2 k2 1,mo,er]:=by
      rw[<-hd,<-zW h1,<-uh,γL]
     simp only[dJ.gP,dJ.yK,dJ.cs,gO,π,γr,bq.g,uh,e3];simp only[gL,o6 h2,iN h3,vu h4,iN h5,iN h6,SV.g]
    ·cases h
   ·cases h
  ·cases h
 ·rename_i cs m s1 l1 s2 l2;split at h
  ·rename_i c v b k1 k2 mo er hd;split at h
   ·rename_i p c' v' b' mo' er' h1 h2 h3 h4 h5 h6;split at h
    ·rename_i l1' l2' m' g1 g2 g3;simp only[γ] at h;subst h;obtain⟨rfl,e1⟩:=mE g1;obtain⟨rfl,e2⟩:=mE g2;cases e1;cases e2;have e3:gL cs=gL p.ss++gL [c,v,b,.fn (.func 116) [] [.ptr 1 0 1],.ow 2 k1 5,.ow 3 k2 1,mo,er]:=by
      rw[<-hd,<-zW h1,<-uh,γL]
     simp only[dJ.gP,dJ.yL,dJ.cs,gO,π,γr,bq.g,uh,e3];simp only[gL,o6 h2,iN h3,vu h4,iN h5,iN h6,iN g3,SV.g]
    ·cases h
   ·cases h
  ·cases h
 ·cases h
theorem aeF {p q:bn} (h:gL p.ss=gL q.ss):p=q:=dQ.inj p q (by grind[dQ,SV.g])
theorem aeG {x y:dJ} (h:gO x.gP=gO y.gP):x=y:=by
 obtain⟨p,E,u,b,J,H,G,k,o,A,L⟩:=x;obtain⟨B,n,d,a,l,r,v,c,f,q,C⟩:=y;have w:∀{e I:SV} {i j:Nat},gL (p.ss++(dJ.mk p E u b J H G k o A L).cs e i j)=gL (B.ss++(dJ.mk B n d a l r v c f q C).cs I i j)->p=B/\E=n/\u=d/\b=a/\H=r/\G=v/\k=c/\o=f:=by
  intro e I i j h;rw[uh,uh] at h;obtain⟨z,t⟩:=List.append_inj h (by rw[jU,jU];rfl);simp only[dJ.cs,gL,SV.g,Θ,δb,Value.int.injEq,Value.bool.injEq,εz,AV.sl.injEq,and_true,true_and] at t;grind[aeF,pq]
 cases J with
 |none=>
  cases l with
  |none=>
   simp only[dJ.gP,dJ.yK,gO,π,γr,bq.g,Θ,bQ.cells.injEq,and_true] at h;obtain⟨z,t,D⟩:=h;obtain⟨rfl,rfl,rfl,rfl,rfl,rfl,rfl,rfl⟩:=w z;rw[pq (s:=bF) t,pq (s:=.i .i64) D];|some K=>
   have:=congrArg γc h;simp_all[dJ.gP,dJ.yK,dJ.yL,gO]
 |some m=>
  cases l with
  |none=>
   have:=congrArg γc h;simp_all[dJ.gP,dJ.yK,dJ.yL,gO];|some K=>
   simp only[dJ.gP,dJ.yL,gO,π,γr,bq.g,Θ,bQ.cells.injEq,and_true] at h;obtain⟨z,F,t,D⟩:=h;obtain⟨rfl,rfl,rfl,rfl,rfl,rfl,rfl,rfl⟩:=w z;simp only[gL,SV.g,Θ,δb,Value.int.injEq,and_true,true_and] at F;subst F;rw[pq (s:=bF) t,pq (s:=.i .i64) D]
def ET (f:FuncId) (c:Type) (A:qy c) (i:dJ->c->Prop) (e:dJ->c->SV) (out:dJ->c->dJ):dH where
 f:=f;α:=dJ×c;put a:=.ptr 0 0 28::A.put a.2;st a:=a.1.gP;dec v o:=match v with
  | .ptr 0 0 28::r=>match Kz o,A.dec r with
   |some s,some b=>some (s,b)
   |_,_=>none
  |_=>none;ok v o a h:=by
  split at h
  ·split at h
   ·rename_i d g;simp only[γ] at h;subst h;exact⟨by simp only[gL,A.ok _ _ g],aeA d⟩
   ·cases h
  ·cases h
 inj a b d g:=by
  simp only[gL,Θ,true_and] at d;exact Prod.ext (aeG g) (A.inj _ _ d)
 dom a:=i a.1 a.2;res a:=e a.1 a.2;out a:=(out a.1 a.2).gP
def cz (e:Option Int) (v:Int):Bool:=match e with
 |none=>false
 |some m=>decide (m<=v)
def dJ.s (x:dJ):cZ:=⟨x.ch,x.val,x.found,x.prf,x.err⟩
def dJ.upd (x:dJ) (s:cZ):dJ:=⟨x.p,s.ch,s.val,s.found,x.en,s.prf.length,x.k2,x.most,s.err,s.prf,x.fx⟩
structure fu (x:dJ):Prop where
 f:eL x.p x.fx
 k1:x.k1=x.prf.length
 k2:x.k2=x.fx.length
 v0:0<=x.val
 v1:x.val<=9223372036854775806
 m0:1<=x.most
 m1:x.most<=65536
 l:x.prf.length<=65536
 c:x.ch.length<=9223372036854775807
def KA:dH where
 f:=70;α:=Alloc;put a:=[nu.put a];st _:=[];dec v o:=match v,o with
  |[a],[]=>nu.dec a
  |_,_=>none;ok v o a h:=by
  split at h;·exact⟨by simp only[gL,nu.ok _ _ h],rfl⟩
  ·cases h
 inj a b h1 _:=by
  simp only[gL,Θ,and_true] at h1;exact nu.inj _ _ h1
 dom _:=True;res _:=.sb false;out _:=[]
theorem h438:ec Tryz.prog KA:=by
 refine lz (L:=[]) (W:=[]) KA lk (by simp) (by simp) ?_;rintro(a:Alloc) -;refine bR ((δf false).same (γw false)/\True) (by kernel_rfl) ?_;simp_all
def KB:dH where
 f:=116;α:=Alloc×Int;put a:=[nu.put a.1,.ptr 0 0 1];st a:=[.cells [.si .i64 a.2] 2 1 false];dec v o:=match v,o with
  |[a,.ptr 0 0 1],[.cells [m] 2 1 false]=>match nu.dec a,m.int .i64 with
   |some a,some m=>some (a,m)
   |_,_=>none
  |_,_=>none;ok v o a h:=by
  split at h
  ·split at h
   ·rename_i h1 h2;simp only[γ] at h;subst h;exact⟨by simp only[gL,nu.ok _ _ h1],by simp only[gO,π,γr,bq.g,gL,iN h2,SV.g]⟩
   ·cases h
  ·cases h
 inj a b h1 h2:=by
  simp only[gL,Θ,and_true] at h1;simp only[gO,π,γr,bq.g,gL,SV.g,Θ,bQ.cells.injEq,δb,Value.int.injEq,and_true,true_and] at h2;exact Prod.ext (nu.inj _ _ h1) h2
 dom _:=True;res a:=.sb (decide (a.2<=a.1.value));out a:=[.cells [.si .i64 a.2] 2 1 false]
theorem h442:ec Tryz.prog KB:=by
 refine lz (L:=[]) (W:=[]) KB lk (by simp) (by simp) ?_;rintro⟨a,m⟩ -;refine bR (let b:=bq.cells [γi .i64 m] 2 1 false;(γw (decide (m<=a.value))).same (γw (decide (m<=a.value)))/\b.same b/\True) (by kernel_rfl) ?_;conv=>zeta
 exact⟨rfl,rfl,trivial⟩
def Bj:dH:=ET 71 Alloc (.one nu) (λx _=>x.k1=x.prf.length) (λ_ _=> .bI []) λx a=>x.upd (dW (cz x.en) x.s a)
theorem h439:ec Tryz.prog Bj:=by
 refine lz (L:=[]) (W:=[KA,KB]) Bj lk (by simpa using⟨h438,h442⟩) (by simp) ?_;rintro⟨⟨p,ch,val,found,en,k1,k2,most,err,prf,fx⟩,a⟩ hk;have hk:k1=prf.length:=hk;subst hk;have e1:∀en:Int->Bool,val<a.value->dW en ⟨ch,val,found,prf,err⟩ a=⟨a.chosen,a.value,found||en a.value,prf,err⟩:=λen h=>if_pos h;have e2:∀en:Int->Bool,¬val<a.value->dW en ⟨ch,val,found,prf,err⟩ a=⟨ch,val,found,prf,err⟩:=λen h=>if_neg h;cases en with
 |none=>
  refine bR (let b:=γi .i64;let c:=bq.row;let d:=bq.cells;let e:=Ω;let f:=SV.bI;let k:=b p.supply.a0;let l:=b p.supply.a1;let m:=b p.supply.a2;let n:=b p.supply.a3;let o:=b p.supply.a4;let q:=b p.supply.a5;let r:=b p.opn.a0;let s:=b p.opn.a1;let t:=b p.opn.a2;let v:=b p.opn.a3;let w:=b p.opn.a4;let x:=b p.opn.a5;let y:=b p.cls.a0;let z:=b p.cls.a1;let A:=b p.cls.a2;let B:=b p.cls.a3;let C:=b p.cls.a4;let D:=b p.cls.a5;let h:=bp.i .i64;let E:=e h p.classes;let F:=e bp.off p.offers;let G:=ζN (Fn.func 70) [] [];let H:=γ1 2 k2 1;let I:=b most;let J:=[G,γ1 1 prf.length 5,H,I,b err];let g:=dW (cz none) (cZ.mk ch val found prf err) a;let K:=d [k,l,m,n,o,q,r,s,t,v,w,x,y,z,A,B,C,D,E,F,e h g.ch,b g.val,γw g.found,G,γ1 1 g.prf.length 5,H,I,b g.err] 126 28 false;let j:=c h fx 3 true;let L:=decide (val<a.value);let M:=λ(u u_1:Bool) (u_2:List Int) (u_3:Int) (u_4:SV) ↦u=u_1->(f []).same (f [])/\(d (k::l::m::n::o::q::r::s::t::v::w::x::y::z::A::B::C::D::E::F::e h u_2::b u_3::u_4::J) 126 28 false).same K/\(c bF prf 108 true).same (c bF g.prf 108 true)/\j.same j/\True;(L=true->M found true a.chosen a.value (δf true)/\(found=false->True/\(f []).same (f [])/\(d (k::l::m::n::o::q::r::s::t::v::w::x::y::z::A::B::C::D::E::F::e h a.chosen::b a.value::γw false::J) 126 28 false).same K/\(c bF prf 108 true).same (c bF g.prf 108 true)/\j.same j/\True))/\M L false ch val (γw found)) (by kernel_rfl) ?_;conv=>zeta
  refine⟨λh=>?_,λh=>?_⟩
  ·simp only[e1 _ (of_decide_eq_true h)];refine⟨λhf=>?_,λhf=>?_⟩
   ·subst hf;exact⟨rfl,rfl,rfl,rfl,trivial⟩
   ·subst hf;exact⟨trivial,rfl,rfl,rfl,rfl,trivial⟩
  ·simp only[e2 _ (of_decide_eq_false h)];exact⟨rfl,rfl,rfl,rfl,trivial⟩;|some m=>
  refine bR (let b:=γi .i64;let c:=bp.i .i64;let d:=bq.cells;let e:=Ω;let f:=bq.row;let g:=γ1;let h:=γT;let j:=SV.bI;let k:=γw;(decide (val<a.value)=true->(found=true->(j []).same (j [])/\(d [b p.supply.a0,b p.supply.a1,b p.supply.a2,b p.supply.a3,b p.supply.a4,b p.supply.a5,b p.opn.a0,b p.opn.a1,b p.opn.a2,b p.opn.a3,b p.opn.a4,b p.opn.a5,b p.cls.a0,b p.cls.a1,b p.cls.a2,b p.cls.a3,b p.cls.a4,b p.cls.a5,e (c) p.classes,e bp.off p.offers,e (c) a.chosen,b a.value,δf true,ζN (Fn.func 116) [] [h 1 0 1],g 2 prf.length 5,g 3 k2 1,b most,b err] 126 28 false).same (d [b p.supply.a0,b p.supply.a1,b p.supply.a2,b p.supply.a3,b p.supply.a4,b p.supply.a5,b p.opn.a0,b p.opn.a1,b p.opn.a2,b p.opn.a3,b p.opn.a4,b p.opn.a5,b p.cls.a0,b p.cls.a1,b p.cls.a2,b p.cls.a3,b p.cls.a4,b p.cls.a5,e (c) p.classes,e bp.off p.offers,e (c) (dW (cz (some m)) (cZ.mk ch val found prf err) a).ch,b (dW (cz (some m)) (cZ.mk ch val found prf err) a).val,k (dW (cz (some m)) (cZ.mk ch val found prf err) a).found,ζN (Fn.func 116) [] [h 1 0 1],g 2 (dW (cz (some m)) (cZ.mk ch val found prf err) a).prf.length 5,g 3 k2 1,b most,b (dW (cz (some m)) (cZ.mk ch val found prf err) a).err] 126 28 false)/\(d [b m] 2 1 false).same (d [b m] 2 1 false)/\(f bF prf 108 true).same (f bF (dW (cz (some m)) (cZ.mk ch val found prf err) a).prf 108 true)/\(f (c) fx 3 true).same (f (c) fx 3 true)/\True)/\(found=false->True/\(j []).same (j [])/\(d [b p.supply.a0,b p.supply.a1,b p.supply.a2,b p.supply.a3,b p.supply.a4,b p.supply.a5,b p.opn.a0,b p.opn.a1,b p.opn.a2,b p.opn.a3,b p.opn.a4,b p.opn.a5,b p.cls.a0,b p.cls.a1,b p.cls.a2,b p.cls.a3,b p.cls.a4,b p.cls.a5,e (c) p.classes,e bp.off p.offers,e (c) a.chosen,b a.value,k (decide (m<=a.value)),ζN (Fn.func 116) [] [h 1 0 1],g 2 prf.length 5,g 3 k2 1,b most,b err] 126 28 false).same (d [b p.supply.a0,b p.supply.a1,b p.supply.a2,b p.supply.a3,b p.supply.a4,b p.supply.a5,b p.opn.a0,b p.opn.a1,b p.opn.a2,b p.opn.a3,b p.opn.a4,b p.opn.a5,b p.cls.a0,b p.cls.a1,b p.cls.a2,b p.cls.a3,b p.cls.a4,b p.cls.a5,e (c) p.classes,e bp.off p.offers,e (c) (dW (cz (some m)) (cZ.mk ch val found prf err) a).ch,b (dW (cz (some m)) (cZ.mk ch val found prf err) a).val,k (dW (cz (some m)) (cZ.mk ch val found prf err) a).found,ζN (Fn.func 116) [] [h 1 0 1],g 2 (dW (cz (some m)) (cZ.mk ch val found prf err) a).prf.length 5,g 3 k2 1,b most,b (dW (cz (some m)) (cZ.mk ch val found prf err) a).err] 126 28 false)/\(d [b m] 2 1 false).same (d [b m] 2 1 false)/\(f bF prf 108 true).same (f bF (dW (cz (some m)) (cZ.mk ch val found prf err) a).prf 108 true)/\(f (c) fx 3 true).same (f (c) fx 3 true)/\True))/\(decide (val<a.value)=false->(j []).same (j [])/\(d [b p.supply.a0,b p.supply.a1,b p.supply.a2,b p.supply.a3,b p.supply.a4,b p.supply.a5,b p.opn.a0,b p.opn.a1,b p.opn.a2,b p.opn.a3,b p.opn.a4,b p.opn.a5,b p.cls.a0,b p.cls.a1,b p.cls.a2,b p.cls.a3,b p.cls.a4,b p.cls.a5,e (c) p.classes,e bp.off p.offers,e (c) ch,b val,k found,ζN (Fn.func 116) [] [h 1 0 1],g 2 prf.length 5,g 3 k2 1,b most,b err] 126 28 false).same (d [b p.supply.a0,b p.supply.a1,b p.supply.a2,b p.supply.a3,b p.supply.a4,b p.supply.a5,b p.opn.a0,b p.opn.a1,b p.opn.a2,b p.opn.a3,b p.opn.a4,b p.opn.a5,b p.cls.a0,b p.cls.a1,b p.cls.a2,b p.cls.a3,b p.cls.a4,b p.cls.a5,e (c) p.classes,e bp.off p.offers,e (c) (dW (cz (some m)) (cZ.mk ch val found prf err) a).ch,b (dW (cz (some m)) (cZ.mk ch val found prf err) a).val,k (dW (cz (some m)) (cZ.mk ch val found prf err) a).found,ζN (Fn.func 116) [] [h 1 0 1],g 2 (dW (cz (some m)) (cZ.mk ch val found prf err) a).prf.length 5,g 3 k2 1,b most,b (dW (cz (some m)) (cZ.mk ch val found prf err) a).err] 126 28 false)/\(d [b m] 2 1 false).same (d [b m] 2 1 false)/\(f bF prf 108 true).same (f bF (dW (cz (some m)) (cZ.mk ch val found prf err) a).prf 108 true)/\(f (c) fx 3 true).same (f (c) fx 3 true)/\True)) (by kernel_rfl) ?_;refine⟨λh=>?_,λh=>?_⟩
  ·simp only[e1 _ (of_decide_eq_true h)];refine⟨λhf=>?_,λhf=>?_⟩
   ·subst hf;exact⟨rfl,rfl,rfl,rfl,rfl,trivial⟩
   ·subst hf;exact⟨trivial,rfl,rfl,rfl,rfl,rfl,trivial⟩
  ·simp only[e2 _ (of_decide_eq_false h)];exact⟨rfl,rfl,rfl,rfl,rfl,trivial⟩
theorem aeH {p:bn} {f:List Int} {d:Int} (h:f.length=p.offers.length):eO p.offers.length (bD f d):=⟨uK,λi a=>by grind[kN]⟩
theorem yM {a:Type} {l:List a} {i:Nat} {x d:a} (h:l[i]?=some x):bj l i d=x/\i<l.length:=by
 grind[bj]
theorem jh.top {p:bn} {v:Int} {t:List dj} {a lo b:Nat} {f:List Int} (h:jh p v t a f lo b):a<t.length/\(lo<b->b<=t.length):=by
 induction h with
 |bnd c _ _=>grind;|con c _=>grind;|@td a f lo d b k c _ _ _ g e i j=>
  omega
section
variable {p:bn} {v:Int} {t:List dj} {a lo mid hi n:Nat} {f:List Int} {k:Int} {s:List Bool}
end
end Go.Vi
namespace Go.Proofs.YtbnhiekmnpikhaaGreat
open Go.ChangeShapes Go.WideShapes Go.ChangeAt Go.RowKit Go.Vi
theorem aeI {H:Type} {enc:TypeId×Value->H} {w:World} {spare:Nat->Bool} {held:Bool} {fuel:Nat} {cs:List Value} {x:DataW H×List MemPlace} (h:DataW.trod enc Tryz.prog w 0 spare held fuel 58 cs=some x):
  ∃n:Int,(-128<=n/\n<=127)/\cs=[.int .i8 n]:=by
 obtain⟨n,rfl,_,hw⟩:=DataW.trod_int Tryz.underlying58 h;simp only[Lit.wf,θ,decide_eq_true_eq] at hw;exact⟨n,hw,rfl⟩
theorem aeJ {W:World} (n:Int):bw jW W [] [] ((eA .i8).put n).g (.int .i8 n):=by
 simp[eA,SV.g,bw,Value.oneCell']
end Go.Proofs.YtbnhiekmnpikhaaGreat
namespace Go.Vi
open Go.Proofs
theorem KC {a b:bC} (h:∀k,k<6->a.at k<=b.at k):a.le b=true:=by
 have i:=h 0 (by omega);have c:=h 1 (by omega);have d:=h 2 (by omega);have f:=h 3 (by omega);have g:=h 4 (by omega);have e:=h 5 (by omega);simp_all[bC.at,bj,bC.le_iff]
theorem aeK {p:bn} {L:List Off} (d:(L.map Off.bX).Nodup) (c:gk p L=true):jq p L:=by
 refine⟨d,KC λk a=>?_,KC λk a=>?_⟩
 ·have h:=o8.1 c (p.classes.length+k) (by grind[df]);rw[show(((p.classes.length+k:Nat)):Int)=p.classes.length+k by omega,QB a] at h;rw[oo,γ3];have:cV p L (p.classes.length+k)=(L.map ((λb=>bC.at b k)∘Off.want)).sum:=by
   unfold cV;congr 1;simp_all[Qz]
  omega
 ·have h:=o8.1 c (p.classes.length+6+k) (by grind[df]);rw[show(((p.classes.length+6+k:Nat)):Int)=p.classes.length+6+k by omega,QC a] at h;rw[oo,γ3];have:cV p L (p.classes.length+6+k)=(L.map ((λb=>bC.at b k)∘fj p)).sum:=by
   unfold cV;congr 1;simp_all[QA]
  omega
theorem Ur {l:List Off}:∀{t:List Int} {a:Int} {r:List Off}, -1<=a->eW l a t=some r->t.Pairwise (·<·)/\∀j∈t,a<j/\j<l.length
 |[],_,_,_,_=>by simp;|i::t,a,r,g,h=>by
  simp only[eW] at h;split at h;·cases h
  ·rename_i k;obtain⟨f,d,rfl⟩:=Option.map_eq_some_iff.1 h;obtain⟨e,c⟩:=Ur (by omega) d;refine⟨List.pairwise_cons.2 ⟨λj b=>(c j b).1,e⟩,λj b=>?_⟩;grind
def rO (p:bn) (t:List Int):Prop:=ny 0 p.offers.length t/\jq p (cY p t)
theorem yN {p:bn} (c:bz p=0) {t:List Int}:di p t=0↔rO p t:=by
 refine⟨λh=>?_,λh=>QH c h.1 h.2⟩;have e:=aaR h;obtain⟨i,a,l,m,o⟩:=Ia h;obtain⟨r,d⟩:=Option.isSome_iff_exists.1 a;obtain⟨f,g⟩:=Ur (by omega) d;have n:eK p t=cY p t:=by grind[eK,DG]
 have b:gk p (cY p t)=true:=by
  simp_all[di]
 exact⟨⟨f,λj k=>by simp_all⟩,aeK e b⟩
theorem aeL {p:bn} (a:Good p):rO p []:=⟨⟨by simp,by simp⟩,of_decide_eq_true (Qo a)⟩
theorem KD {p:bn} (a:bz p=0) {t:List Int} (h:rO p t):ef p t=cK (cY p t):=by
 grind[yN,aaQ,Ae,DF]
theorem aeM {p:bn} (c:bz p=0) {L:List Off} (b:jq p L) (d:∀x∈L,x∈p.offers):cK L<=rE p (allM p):=by
 have a:=dR c;have f:=Ad a.1;rw[QL c (m:=allM p) (by grind[allM]) (by grind[allM])];refine Dx a ⟨b.1,λx e=>?_,b.2.1,b.2.2⟩;have:=a.2.2.2.2 x (d x e);grind[aaU]
theorem aeN {p:bn} (c:bz p=0):∃L,jq p L/\(∀x∈L,x∈p.offers)/\cK L=rE p (allM p):=by
 have a:=dR c;have f:=Ad a.1;rw[QL c (m:=allM p) (by grind[allM]) (by grind[allM])];have h:=bC.ja.1 a.2.2.1;have g:=bC.ja.1 a.2.2.2.1;obtain⟨L,b,e⟩:=Dy a (Qs (allM p)) (l:=p.supply) (o:=p.opn) (by grind[bC.le_iff,bC.zero]) (by grind[bC.le_iff,bC.zero]);exact⟨L,⟨b.nd,b.w,b.o⟩,λx d=>(b.mem x d).1,e⟩
open Go.Proofs.YtbnhiekmnpikhaaGreat.Ir
def iD (p:bn):List Int:=δ p.offers.length 0
theorem yO {n:Nat}:nF (δ n 0)=n:=by
 have e:bD (δ n 0) 0=dp n:=by
  simp_all[bD,kL,cQ]
 grind[iT]
theorem oG {p:bn} (a:bz p=0):eL p (iD p) where
 c:=a;l:=List.length_replicate;r:=by
  unfold jN;rw[φ];intro x b;rw[List.eq_of_mem_replicate b];decide
def kP (p:bn) (c:List Int):cZ:=dW (cz none) (dW (cz none) ⟨c,ef p c,false,[zN],0⟩ (gw p c)) (gw p (jZ p))
noncomputable def iK (p:bn) (c:List Int) (a:Int):cZ:=dG p (cz none) a p.offers.length (kP p c) 0 (iD p)
noncomputable def kr (p:bn) (c:List Int) (a:Int):Int:=if di p c≠0 then di p c else if a<1\/65536<a then 4 else(iK p c a).err
def kQ (p:bn) (m:Int):cZ:=dW (cz (some m)) ⟨[],m - 1,false,[zN],0⟩ (gw p (jZ p))
noncomputable def fY (p:bn) (m a:Int):cZ:=dG p (cz (some m)) a p.offers.length (kQ p m) 0 (iD p)
noncomputable def ji (p:bn) (m a:Int):Int:=if bz p≠0 then bz p else if a<1\/65536<a then 4 else if m<=0 then 0 else if(fY p m a).found=true then 0 else(fY p m a).err
noncomputable def j6 (p:bn) (m a:Int):Bool:=decide (ji p m a=0)&&(decide (m<=0)||(fY p m a).found)
noncomputable def oH (p:bn) (m a:Int):Alloc:=if j6 p m a=true/\0<m then⟨(fY p m a).ch,(fY p m a).val⟩ else⟨[],0⟩
theorem Us {p:bn} (a:bz p=0) {t:List Int} (h:di p t=0):ef p t<=(cB p).value:=by
 have b:=(yN a).1 h;obtain⟨_,d⟩:=uH h;have c:=Ih (dR a) b.1 (decide_eq_true b.2);rw[yJ a d];exact c
theorem Ut {p:bn} (a:bz p=0):∃t,di p t=0/\ef p t=(cB p).value:=by
 obtain⟨t,c,f,e⟩:=Ii (dR a);have b:di p t=0:=(yN a).2 ⟨c,of_decide_eq_true f⟩;obtain⟨_,d⟩:=uH b;refine⟨t,b,?_⟩;rw[yJ a d,e];rfl
theorem aeO {p:bn} {l:List Int} (h:eO p.offers.length l):ES (iD p) l:=by
 have b:∀i:Int,0<=i/\i<p.offers.length->bj (iD p) i.toNat 0=0:=λi a=>by
  grind[iD,cQ]
 refine⟨λi a=>by rw[b i (h.2 i a)];omega,λi a=>?_⟩;grind[kN,iD]
theorem Uu {p:bn} {v:Int} {t:List dj} {a lo f:Nat} (b:bz p=0) (h:jh p v t a (iD p) lo f):(cB p).value<=v:=by
 obtain⟨l,d,e⟩:=Ut b;obtain⟨_,c⟩:=uH d;rw[<-e,yJ b c];exact h.sound (oG b) c ((Ky b c).1 d) (aeO c)
theorem yP {en:Int->Bool} {G:List Int->Int->Bool->Prop} {p:bn} (h:∀c w b d w',G c w b->di p d=0->ef p d=w'->w<w'->G d w' (b||en w')) {s:cZ} {a:Alloc} (e:G s.ch s.val s.found) (f:di p a.chosen=0) (g:ef p a.chosen=a.value):G (dW en s a).ch (dW en s a).val (dW en s a).found:=by
 grind[dW]
theorem yQ {p:bn} (a:bz p=0):di p (gw p (jZ p)).chosen=0/\ef p (gw p (jZ p)).chosen=(gw p (jZ p)).value:=by
 simp_all[JR,Ta]
theorem KE {p:bn} (d:bz p=0) {c:List Int} (h:di p c=0) {most:Int} {G:List Int->Int->Bool->Prop} (a:∀c w b e w',G c w b->di p e=0->ef p e=w'->w<w'->G e w' (b||cz none w')) (i:G c (ef p c) false):G (iK p c most).ch (iK p c most).val (iK p c most).found:=by
 have f:=JR d h;have g:=yQ d;exact Uo a (oG d) (yP a (yP a i f.2.1 f.2.2.1) g.1 g.2)
theorem KF {p:bn} {c:List Int}:(kP p c).prf=[zN]/\(kP p c).err=0/\ef p c<=(kP p c).val:=by
 grind[kP,dW]
theorem KG {p:bn} (d:bz p=0) {c:List Int} (i:di p c=0) {most:Int} (C:1<=most):
  ((iK p c most).err=0\/(iK p c most).err=12)/\((iK p c most).err=0->(di p (iK p c most).ch=0/\ef p (iK p c most).ch=(iK p c most).val)/\(iK p c most).val=(cB p).value/\(iK p c most).prf.length<=most/\jh p (cB p).value (iK p c most).prf 0 (iD p) 1 (iK p c most).prf.length/\(ef p c=(cB p).value->(iK p c most).ch=c))/\
   (((1+2^(p.offers.length+1):Nat):Int)<=most+2->(iK p c most).err=0):=by
 obtain⟨y,l,A⟩:=@KF p c;have t:(kP p c).prf.length=1:=by rw[y];rfl
 have q:=@rN p (cz none) most p.offers.length (kP p c) 0 (iD p) (oG d);have j:(iK p c most).found=false:=by
  refine(KE d i (most:=most) (G:=λ_ _ b=>b=false) (λc w b g o h _ _ _=>?_) rfl);rw[h];rfl
 refine⟨?_,λx=>?_,λB=>?_⟩
 ·have:=q.2.2.2.2.2;rw[l] at this;exact this
 ·have v:=KE d i (most:=most) (G:=λc w _=>di p c=0/\ef p c=w) (λc w b g o _ k m _=>⟨k,m⟩) ⟨i,rfl⟩;have u:=KE d i (most:=most) (G:=λg w _=>ef p c<=w/\(w=ef p c->g=c)) (λD w b g o h _ _ r=>⟨by omega,λe=>by omega⟩) ⟨Int.le_refl _,λ_=>rfl⟩;have z:=Un (p:=p) (en:=cz none) (most:=most) (n:=p.offers.length) (s:=kP p c) (a:=0) (oG d) (by show nF (δ _ 0)<=_;grind[yO]) (by rw[t];omega) x j;have k:=Uu d z.1;have m:=Us d v.1;grind[iK]
 ·refine(Up (p:=p) (en:=cz none) (most:=most) (n:=p.offers.length) (s:=kP p c) (a:=0) (f:=iD p) (oG d) ?_ l ?_).1;all_goals simp_all[yO,iD]
theorem aeP {p:bn} (i:bz p=0) {m most:Int}:((fY p m most).found=false->(fY p m most).ch=[]/\(fY p m most).val=m - 1)/\((fY p m most).found=true->di p (fY p m most).ch=0/\ef p (fY p m most).ch=(fY p m most).val/\m<=(fY p m most).val):=by
 have j:=yQ i;have g:∀(c:List Int) (w:Int) (b:Bool) (e:List Int) (d:Int),((m - 1<=w)/\(b=false->c=[]/\w=m - 1)/\(b=true->di p c=0/\ef p c=w/\m<=w))->di p e=0->ef p e=d->w<d->((m - 1<=d)/\((b||cz (some m) d)=false->e=[]/\d=m - 1)/\((b||cz (some m) d)=true->di p e=0/\ef p e=d/\m<=d)):=by
  intro c w b e d h l q k;have o:cz (some m) d=true:=by
   show decide (m<=d)=true;grind
  grind
 have:=Uo (p:=p) (en:=cz (some m)) (most:=most) g (n:=p.offers.length) (s:=kQ p m) (a:=0) (f:=iD p) (oG i) (yP g (s:=⟨[],m - 1,false,[zN],0⟩) ⟨Int.le_refl _,λ_=>⟨rfl,rfl⟩,(λh=>by cases h)⟩ j.1 j.2);exact this.2
theorem KH {p:bn} {m:Int}:(kQ p m).prf=[zN]/\(kQ p m).err=0:=by
 grind[kQ,EP]
theorem Uw {p:bn} (b:bz p=0) {m most:Int}:
  ((fY p m most).err=0\/(fY p m most).err=12)/\((fY p m most).found=true->m<=(cB p).value)/\((fY p m most).found=false->(fY p m most).err=0->(cB p).value<m)/\
   (((1+2^(p.offers.length+1):Nat):Int)<=most+2->(fY p m most).err=0):=by
 obtain⟨i,d⟩:=@KH p m;have h:(kQ p m).prf.length=1:=by rw[i];rfl
 have g:=@rN p (cz (some m)) most p.offers.length (kQ p m) 0 (iD p) (oG b);obtain⟨r,l⟩:=@aeP p b m most;refine⟨?_,λc=>?_,λc k=>?_,λo=>?_⟩
 ·have:=g.2.2.2.2.2;rw[d] at this;exact this
 ·obtain⟨e,q,t⟩:=l c;have:=Us b e;omega
 ·have j:=Un (p:=p) (en:=cz (some m)) (most:=most) (n:=p.offers.length) (s:=kQ p m) (a:=0) (oG b) (by show nF (δ _ 0)<=_;grind[yO]) (by rw[h];omega) k c;have e:(cB p).value<=(fY p m most).val:=Uu b j.1;grind
 ·refine(Up (p:=p) (en:=cz (some m)) (most:=most) (n:=p.offers.length) (s:=kQ p m) (a:=0) (f:=iD p) (oG b) ?_ d ?_).1;all_goals simp_all[yO,iD]
theorem aeQ {p:bn} {c:List Int} {m:Int} (b:di p c=0) (a:1<=m/\m<=65536):kr p c m=(iK p c m).err:=by
 simp_all[kr,if_neg]
theorem aeR {p:bn} (d:bz p=0) {c:List Int} {m:Int} (b:di p c=0) (e:m<=65536) (f:((1+2^(p.offers.length+1):Nat):Int)<=m+2):kr p c m=0:=by
 have a:=Nat.one_le_two_pow (n:=p.offers.length+1);grind[aeQ,KG]
theorem KI {p:bn} (a:bz p=0) {m k:Int} (d:k<=65536) (b:((1+2^(p.offers.length+1):Nat):Int)<=k+2):ji p m k=0:=by
 have c:2<=2^(p.offers.length+1):=by grind
 unfold ji;rw[if_neg (by simp[a]),if_neg (by omega)];grind[Uw]
theorem Ux {p:bn} (a:bz p=0) {m k:Int} (b:ji p m k=0):j6 p m k=true↔m<=(cB p).value:=by
 have j:0<=(cB p).value:=by
  obtain⟨t,d,e⟩:=Ut a;obtain⟨_,c⟩:=uH d;rw[<-e,yJ a c];exact(sN (dR a) (l:=t.map (oI p)) λx g=>by
   obtain⟨i,f,rfl⟩:=Ψ.1 g;have:=c.2 i f;exact dr (by omega)).1
 have h:=@Uw p a m k;unfold j6;rw[b,decide_eq_true rfl,Bool.true_and,Bool.or_eq_true,decide_eq_true_eq];unfold ji at b;grind
theorem tf {p q:Rat}:iP p q<0↔p<q:=by
 unfold iP;grind
def EU:bM:=⟨38,bn×List Int,.cons dQ (.one (dM (.i .i64))),λa=>bz a.1=0/\a.2.length<=9223372036854775807,λa=> .si .i64 (ef a.1 a.2)⟩
def aeS (p:bn) (c:List Int):Nat->cF
 |6=> .inv Int (λi=>⟨[(7,.si .i64 (cK ((eK p c).take i.toNat))),(23,.row .off (eK p c)),(24,.si .i64 (eK p c).length),(25,.si .i64 i)],[.cells p.ss 27 20 false]⟩)
   (λs=>iS s 25) (λi=>0<=i/\i<=(eK p c).length) (λi=>((eK p c).length - i).toNat) λ_ _=> .look
 |_=> .look
theorem h437:Holds Tryz.prog EU:=by
 refine cH (L:=[Dq,o9]) EU (λa=>aeS a.1 a.2) (by grind[h133,h79]) ?_;rintro⟨p,c⟩ ⟨f,A⟩;simp only at f A;refine bR (let a:=γi .i64;let f:=(0:Int);let k:=γy .i64 0;let m:=a (ef p c);let z:=decide (bz p≠f);let j:=Ω bp.off (eK p c);let B:=(↑(eK p c).length:Int);let d:=(↑(eK p c).length:Int);let r:=a d;let g:=bq.cells (bn.ss p) 27 20 false;(c.length<=9223372036854775807/\p.offers.length<=1000)/\((!jc p c)=true->k.same m)/\((!jc p c)=false->True/\(z=true->k.same m)/\(z=false->(((k.same (a (cK []))/\j.same j/\(a B).same r/\k.same (a 0)/\True)/\g.same g/\True)/\f<=f/\f<=d)/\∀(x:Int),let w:=cK (ω x.toNat (eK p c));let y:=w+(bj (eK p c) x.toNat bp.off.dflt).value;let b:=x+(1:Int);let e:=a b;f<=x/\x<=d->(decide (x<d)=true->f<=x/\x<B/\x.toNat<(eK p c).length/\cu .i64 y/\cu .i64 b/\(((a y).same (a (cK (ω b.toNat (eK p c))))/\j.same j/\r.same r/\e.same e/\True)/\g.same g/\True)/\(f<=b/\b<=d)/\(d - b).toNat<(d - x).toNat)/\(decide (x<d)=false->(a w).same m)))) (by kernel_rfl) ?_;simp only[vcs];have t:=dR f;obtain⟨G,v⟩:=aaC (c:=c) f;have u:=t.2.1;have q:jc p c=false->0=ef p c:=λh=>by
  unfold ef;rw[if_pos f];unfold eK;unfold jc at h;rw[Option.isSome_eq_false_iff,Option.isNone_iff_eq_none] at h;rw[h];rfl
 refine⟨⟨A,by omega⟩,q,λ_=>⟨λh=>absurd f h,λ_=>⟨⟨by simp[cK],by omega,by omega⟩,?_⟩⟩⟩;rintro i ⟨n,D⟩;refine⟨λo=>?_,λE=>?_⟩
 ·have H:=aaB n o;have F:=sN t (l:=(eK p c).take i.toNat) λx s=>v x (γm s);have C:=sN t (l:=(eK p c).take (i+1).toNat) λx s=>v x (γm s);grind
 ·rw[show i.toNat=(eK p c).length from by omega,ψ];grind[ef]
def KJ:bM:=⟨143,Int×Int,.cons (eA .i64) (.one (eA .i64)),λa=>(-9223372036854775808<=a.1/\a.1<=9223372036854775807)/\0<a.2/\a.2<=9223372036854775807,λa=> .bI [pR (fU (decide (a.1<0)) (a.1.natAbs:Int) a.2),.si .i64 0]⟩
theorem h451:Holds Tryz.prog KJ:=by
 refine cH (L:=[DY,AG]) KJ lk (by grind[h127,h151]) ?_;rintro⟨n,d⟩ ⟨⟨u,w⟩,q,r⟩;simp only at u w q r;refine bR (let e:=(-9223372036854775808:Int);let h:=(9223372036854775807:Int);let k:=(0:Int);let l:=Ω;let g:=cM (↑n.natAbs:Int);let b:=cM (↑d.natAbs:Int);let f:=bu (fU (!decide (n<k)==decide (d<k)) (bk g) (bk b));let a:=bp.i .u32;let j:=[γi .i64 0];let c:=bu (fU (decide (n<k)) (↑n.natAbs:Int) d);(e<=n/\n<=h)/\(e<=d/\d<=h)/\((bA g/\bA b)/\(g.length<=1000000000/\b.length<=1000000000)/\k<bk b)/\(SV.bI (γN [γw f.fst,l a f.snd.fst,l a f.snd.snd]::j)).same (SV.bI (γN [γw c.fst,l a c.snd.fst,l a c.snd.snd]::j))) (by kernel_rfl) ?_;simp only[vcs];obtain⟨v,s,t⟩:=gl (show(0:Int)<=(n.natAbs:Int) by omega);obtain⟨o,l,h⟩:=gl (show(0:Int)<=(d.natAbs:Int) by omega);have x:=mH (k:=2) (show(0:Int)<=(n.natAbs:Int) by omega) (by omega);have p:=mH (k:=2) (show(0:Int)<=(d.natAbs:Int) by omega) (by omega);have e:(d.natAbs:Int)=d:=by omega
 have m:(!(decide (n<0)==decide (d<0)))=decide (n<0):=by
  grind
 rw[m,v,o,e];rw[e] at l h p;repeat' refine And.intro ?_ ?_
 all_goals first|omega|exact s|exact l|exact t|exact h|rfl
def py (x:List bL):Prop:=∃l,x=fL l/\x.length<=1000000/\∀q∈l,Sz 1000 q
theorem aeT (q:Rat):q.den=1↔(bu q).2.2=[1]:=by
 have c:cM 1=[1]:=by decide
 constructor
 ·intro h;show cM (q.den:Int)=[1];simp_all
 ·intro h;have a:=(gl (show(0:Int)<=(q.den:Int) by omega)).1;have b:cM (q.den:Int)=[1]:=h;grind[bk]
theorem EV (q:Rat):okF (bu q)=true:=decide_eq_true (by rw[eD])
def KL:bM:=⟨103,List bL,.one (dM sF),py,λx=> .sb (mP (vL x))⟩
def aeU (x:List bL):Nat->cF
 |2=> .inv Int (λi=>⟨[(5,.row sF x),(6,.si .i64 x.length),(7,.si .i64 i)],[]⟩)
   (λs=>iS s 7) (λi=>(0<=i/\i<=x.length)/\mP ((vL x).take i.toNat)=true) (λi=>(x.length - i).toNat) λ_ _=> .look
 |_=> .look
theorem h445:Holds Tryz.prog KL:=by
 refine cH (L:=[uA]) KL aeU (by grind[h407]) ?_;rintro(x:List bL) ⟨l,v,G,H⟩;refine bR (let c:=(0:Int);let d:=γi .i64;let f:=δf false;let h:=Ω;let i:=(1:Int);let b:=(↑x.length:Int);let w:=d b;((((h sF x).same (h sF x)/\(d (↑x.length:Int)).same w/\(γy .i64 0).same (d 0)/\True)/\True)/\(c<=c/\c<=b)/\mP []=true)/\∀(a:Int),let p:=bj x a.toNat sF.dflt;let e:=p.snd.snd;let C:=(↑(γc e):Int);let r:=γw (mP (vL x));let g:=a+i;let o:=d g;let A:=λ(u:Bool) ↦decide (bj e 0 c≠i)=u;let D:=λ(u:Bool) ↦decide (C≠i)=u;let E:=λ(u:Bool) ↦(!okF (p.fst,p.snd.fst,e))=u;(c<=a/\a<=b)/\mP (ω a.toNat (vL x))=true->(decide (a<b)=true->c<=a/\a<(↑x.length:Int)/\a.toNat<x.length/\((bA p.snd.fst/\bA e)/\γc p.snd.fst<=10000000/\γc e<=10000000)/\(E true->(f).same r)/\(E false->(D true->(f).same r)/\(D false->c<=c/\c<C/\0<γc e/\(A true->(f).same r)/\(A false->cu .i64 g/\(((h sF x).same (h sF x)/\w.same w/\o.same o/\True)/\True)/\((c<=g/\g<=b)/\mP (ω g.toNat (vL x))=true)/\(b - g).toNat<(b - a).toNat))))/\(decide (a<b)=false->(δf true).same r)) (by kernel_rfl) ?_;simp only[vcs];subst v;rw[fF] at G ⊢;rw[kJ];have s:∀k:Nat,((k:Nat):Int).toNat=k:=λk=>γl k;refine⟨⟨⟨by omega,by omega⟩,rfl⟩,?_⟩;rintro i ⟨⟨z,T⟩,c⟩;refine⟨λy=>?_,λy=>?_⟩
 ·have J:bj (fL l) i.toNat sF.dflt=bu (bj l i.toNat 0):=jw (by omega);have B:=dr (d:=0) (show i.toNat<l.length by omega);have N:=H _ B;have K:=jX (d:=0) z y;rw[J];generalize bj l i.toNat 0=q at*;obtain⟨_,⟨I,U,V⟩,⟨M,P,W⟩⟩:=l9 q;obtain⟨R,S⟩:=pn N;have m:=aeT q;have j:q.den≠1->false=mP l:=λQ=>by
   refine(Bool.eq_false_iff.2 λf=>?_).symm;have:=φ.1 f _ B;simp_all
  have t:=EV q;refine⟨z,y,by omega,⟨⟨I,M⟩,by omega,by omega⟩,λh=>absurd t (by simp_all),λ_=>⟨λh=>j λf=>h ?_,λh=>⟨by omega,by omega,by omega,λf=>j λO=>f ?_,λf=>⟨by omega,⟨by omega,?_⟩,by omega⟩⟩⟩⟩;·simp_all
  ·rw[(m.1 O)];rfl
  ·rw[K];unfold mP at c ⊢;rw[List.all_append,c];have:q.den=1:=m.2 (by
    have n:(bu q).2.2.length=1:=by omega
    have F:bj (bu q).2.2 0 0=1:=γj.1 f;match v:(bu q).2.2,n with
    |[x],_=>
     rw[v] at F;have:x=1:=F;rw[this]);simp[this]
 grind
def KN (f:FuncId) (j:bn->List Int->Prop) (e:bn->List Int->SV):dH where
 f:=f;α:=bn×Nat×List Int;put a:=[dQ.put a.1,.ow 0 a.2.1 1];st a:=[.row (.i .i64) a.2.2 3 true];dec v o:=match v,o with
  |[p,.ow 0 n 1],[.row s l 3 true]=>match dQ.dec p,iG s (.i .i64) l with
   |some p,some l=>some (p,n,l)
   |_,_=>none
  |_,_=>none;ok v o a h:=by
  split at h
  ·split at h
   ·rename_i c d;simp only[γ] at h;subst h;obtain⟨rfl,k⟩:=mE d;cases k;exact⟨by simp only[gL,dQ.ok _ _ c],rfl⟩
   ·cases h
  ·cases h
 inj a b c d:=by
  obtain⟨p,n,l⟩:=a;obtain⟨m,q,r⟩:=b;simp only[gL,Θ,and_true,SV.g,εz,true_and] at c;simp only[gO,π,γr,bq.g,Θ,bQ.cells.injEq,and_true] at d;rw[dQ.inj p m c.1,pq (s:=.i .i64) d,c.2.1]
 dom a:=a.2.1=a.2.2.length/\j a.1 a.2.2;res a:=e a.1 a.2.2;out a:=[.row (.i .i64) a.2.2 3 true]
theorem Bl {L:List bM} {W:List dH} (c:dH) (Λ:c.α->Nat->cF) (i:∀c∈W,ec Tryz.prog c) (e:∀c∈L,Holds Tryz.prog c)
  
  (h:∀a,c.dom a->Vc (Eg (og L (gK W) rA rB jK) (Λ a) (fG c.f) (c.put a) (c.st a) λv s=>v.same (c.res a)/\kE s (c.out a))) (j:(jK c.f).isSome=true:=by kernel_rfl) (b:∀a,(c.put a).length=(fG c.f).params:=by intro _;kernel_rfl) (d:oh c.f W=none:=by kernel_rfl):ec Tryz.prog c:=
 λa g=>ach c sL i e (Aa j) b a d (h a g).out
noncomputable def KO:dH:=KN 135 (λp f=>bz p=0/\f.length=p.offers.length) λp f=>pR (κ (gA p f))
def aeV (p:bn) (f:List Int):Nat->cF
 |3=> .inv Int (λi=>⟨[(2,.ptr 1 0 20),(4,.ptr 2 0 3),(5,.si .i64 (gA p (f.take i.toNat))),(8,.ow 0 f.length 1),(9,.si .i64 f.length),(10,.si .i64 i)],[.row (.i .i64) f 3 true,.cells p.ss 27 20 false,.cells [.bl false,.sc (.slice none 0 0),.sc (.slice none 0 0)] 177 3 false]⟩)
   (λs=>iS s 10) (λi=>0<=i/\i<=f.length) (λi=>(f.length - i).toNat) λ_ _=> .look
 |_=> .look
theorem h396w:ec Tryz.prog KO:=by
 refine Bl (L:=[ox]) (W:=[]) KO (λa=>aeV a.1 a.2.2) (by simp) (by simpa using h94) ?_;rintro⟨p,n,f⟩ ⟨hn,⟨hc,hl⟩⟩;simp only at hn;subst hn;simp only at hc hl;refine bR (let a:=γi .i64;let b:=(0:Int);let c:=Ω;let j:=γT 1 0 20;let k:=γT 2 0 3;let t:=γy .i64 0;let l:=γ1 0 f.length 1;let d:=(↑f.length:Int);let m:=a d;let e:=bq.row (bp.i .i64) f 3 true;let n:=bq.cells (bn.ss p) 27 20 false;let v:=SV.sc (Value.slice none 0 0);let o:=bq.cells [δf false,v,v] 177 3 false;let q:=bp.i .u32;let r:=bu (κ (gA p f));(((j.same j/\k.same k/\t.same (a (gA p []))/\l.same l/\m.same m/\t.same (a 0)/\True)/\e.same e/\n.same n/\o.same o/\True)/\b<=b/\b<=d)/\∀(x:Int),let g:=x+(1:Int);let w:=a g;let y:=decide (bj f x.toNat b=(1:Int));let h:=gA p (ω x.toNat f);let z:=h+(bj p.offers x.toNat bp.off.dflt).value;let s:=bu (κ h);let A:=λ(u:Int) ↦cu .i64 g/\((j.same j/\k.same k/\(a u).same (a (gA p (ω g.toNat f)))/\l.same l/\m.same m/\w.same w/\True)/\e.same e/\n.same n/\o.same o/\True)/\(b<=g/\g<=d)/\(d - g).toNat<(d - x).toNat;b<=x/\x<=d->(decide (x<d)=true->f.length=f.length/\b<=x/\x<(↑f.length:Int)/\f.length=f.length/\x.toNat<f.length/\(y=true->b<=x/\x<(↑p.offers.length:Int)/\x.toNat<p.offers.length/\cu .i64 z/\A z)/\(y=false->A h))/\(decide (x<d)=false->((-9223372036854775808:Int)<=h/\h<=(9223372036854775807:Int))/\(γN [γw s.fst,c q s.snd.fst,c q s.snd.snd]).same (γN [γw r.fst,c q r.snd.fst,c q r.snd.snd])/\e.same e/\True)) (by kernel_rfl) ?_;simp only[vcs];have h160:=(dR hc).2.1;refine⟨⟨by simp[gA,bD,dp,cK],by omega,by omega⟩,?_⟩;rintro i ⟨i0,i1⟩;have hb:=@Bh p hc f i.toNat hl;refine⟨λhi=>?_,λhi=>?_⟩
 ·have hs:=@TV p f i i0 hi;have ho:=kO hc (i:=i) ⟨i0,by omega⟩;have hv:(bj p.offers i.toNat bp.off.dflt).value=(oI p i).value:=rfl;rw[hv];refine⟨i0,hi,by omega,λh1=>?_,λh1=>?_⟩
  ·rw[if_pos h1] at hs;refine⟨i0,?_,?_,?_,?_,?_,?_,?_⟩<;>omega
  ·rw[if_neg h1] at hs;refine⟨?_,?_,?_,?_⟩<;>omega
 ·rw[show f.take i.toNat=f by rw[show i.toNat=f.length by omega,ψ]] at hb ⊢;exact⟨by omega,rfl⟩
noncomputable def KP:dH:=KN 132 (λp f=>(bz p=0/\f.length=p.offers.length)/\jN f=true) λp f=> .bI [.agg [.row sF (mO p f).1,.row sR (mO p f).2.1],.row (.i .i64) (mO p f).2.2,.si .i64 (if hJ p f=true then 0 else 14)]
def Uy (p:bn) (f:List Int) (l:List Int) (m:List Off):bZ:=[.row (.i .i64) f 3 true,.cells p.ss 27 20 false,.cells [.sc (.slice none 0 0),.sc (.slice none 0 0)] 217 2 false,.row (.i .i64) l 3 true,.row .off m 65 true]
def EW (p:bn) (f:List Int) (l:List Int) (m:List Off) (k0 k1:Nat) (rs:List (List bL×bL)) (g:List bL):bZ:=Uy p f l m++[.cells p.ss 87 20 false,.cells [.ow 8 k0 3,.ow 7 k1 4] 217 2 false,.row sR rs 249 false,.row sF g 177 false]
def aeW (p:bn) (f:List Int):Nat->cF
 |9=> .inv Int (λi=>⟨[(2,.ptr 1 0 20),(4,.ptr 2 0 2),(8,.ow 3 (bD (f.take i.toNat) 0).length 1),(9,.ow 4 (bD (f.take i.toNat) 1).length 8),(36,.ow 0 f.length 1),(37,.si .i64 f.length),(38,.si .i64 i)],Uy p f (bD (f.take i.toNat) 0) ((bD (f.take i.toNat) 1).map (oI p))⟩)
   (λs=>iS s 38) (λi=>0<=i/\i<=f.length) (λi=>(f.length - i).toNat) λ_ _=> .look
 |24=> .inv Int (λj=>⟨[(2,.ptr 1 0 20),(4,.ptr 2 0 2),(8,.ow 3 (bD f 0).length 1),(9,.ow 4 (bD f 1).length 8),(12,.ptr 5 0 20),(13,.ptr 6 0 2),(71,.ow 3 (bD f 0).length 1),(72,.si .i64 (bD f 0).length),(73,.si .i64 j)],EW p f (bD f 0) ((bD f 1).map (oI p)) j.toNat 0 [] (mj p f j.toNat)⟩)
   (λs=>iS s 73) (λj=>0<=j/\j<=(bD f 0).length) (λj=>((bD f 0).length - j).toNat) λ_ _=> .look
 |29=> .inv Int (λr=>⟨[(2,.ptr 1 0 20),(4,.ptr 2 0 2),(8,.ow 3 (bD f 0).length 1),(9,.ow 4 (bD f 1).length 8),(12,.ptr 5 0 20),(13,.ptr 6 0 2),(91,.si .i64 (df p)),(92,.si .i64 r)],EW p f (bD f 0) ((bD f 1).map (oI p)) (bD f 0).length r.toNat (nN p f r.toNat) (mj p f (bD f 0).length)⟩)
   (λs=>iS s 92) (λr=>0<=r/\r<=df p) (λr=>(df p - r).toNat) λr k=>match k with
   |33=> .inv Int (λj=>⟨[(2,.ptr 1 0 20),(4,.ptr 2 0 2),(8,.ow 3 (bD f 0).length 1),(9,.ow 4 (bD f 1).length 8),(12,.ptr 5 0 20),(13,.ptr 6 0 2),(16,.si .i64 r),(17,.si .i64 (dn p r - cV p (((bD f 1).map (oI p)).take j.toNat) r)),(91,.si .i64 (df p)),(92,.si .i64 r),(98,.ow 4 (bD f 1).length 8),(99,.si .i64 (bD f 1).length),(100,.si .i64 j)],EW p f (bD f 0) ((bD f 1).map (oI p)) (bD f 0).length r.toNat (nN p f r.toNat) (mj p f (bD f 0).length)⟩)
     (λs=>iS s 100) (λj=>0<=j/\j<=(bD f 1).length) (λj=>((bD f 1).length - j).toNat) λ_ _=> .look
   |39=> .inv Int (λj=>⟨[(2,.ptr 1 0 20),(4,.ptr 2 0 2),(8,.ow 3 (bD f 0).length 1),(9,.ow 4 (bD f 1).length 8),(12,.ptr 5 0 20),(13,.ptr 6 0 2),(16,.si .i64 r),(20,.ptr 9 0 4),(91,.si .i64 (df p)),(92,.si .i64 r),(114,.ow 3 (bD f 0).length 1),(115,.si .i64 (bD f 0).length),(116,.si .i64 j)],EW p f (bD f 0) ((bD f 1).map (oI p)) (bD f 0).length r.toNat (nN p f r.toNat) (mj p f (bD f 0).length)++[.cells [.ow 10 j.toNat 3,.sb (bu ((dn p r - cV p ((bD f 1).map (oI p)) r:Int):Rat)).1,.row (.i .u32) (bu ((dn p r - cV p ((bD f 1).map (oI p)) r:Int):Rat)).2.1,.row (.i .u32) (bu ((dn p r - cV p ((bD f 1).map (oI p)) r:Int):Rat)).2.2] 249 4 false,.row sF (nM p f r j.toNat) 177 false]⟩)
     (λs=>iS s 116) (λj=>0<=j/\j<=(bD f 0).length) (λj=>((bD f 0).length - j).toNat) λ_ _=> .look
   |_=> .look
 |_=> .look
theorem h394w:ec Tryz.prog KP:=by
 refine Bl (L:=[o9,ox,Dk,xR,xO,xQ]) (W:=[]) KP (λa=>aeW a.1 a.2.2) (by simp) (by simpa using⟨h79,h94,h134,h156,h157,h158⟩) ?_;rintro⟨p,n,f⟩ ⟨hn,⟨⟨hc,hl⟩,hr⟩⟩;simp only at hn;subst hn;simp only at hc hl hr;refine bR (let a:=γi .i64;let c:=(0:Int);let d:=bq.row;let e:=bq.cells;let g:=γ1;let h:=(-9223372036854775808:Int);let j:=Ω;let k:=(1:Int);let l:=(9223372036854775807:Int);let m:=cu .i64;let n:=γy .i64;let o:=γT;let q:=γN;let r:=SV.bI;let R:=SV.sc (Value.slice none 0 0);let L:=bp.i .i64;let ah:=r [q [j sF (mO p f).fst,j sR (mO p f).snd.fst],j L (mO p f).snd.snd,a (if hJ p f=true then c else(14:Int))];let s:=d L f 3 true;let I:=(↑f.length:Int);let ai:=p.offers.length;let ae:=(↑ai:Int);let t:=o 1 0 20;let v:=o 2 0 2;let Z:=g 0 f.length 1;let a6:=a I;let a7:=n 0;let aM:=[a p.supply.a0,a p.supply.a1,a p.supply.a2,a p.supply.a3,a p.supply.a4,a p.supply.a5,a p.opn.a0,a p.opn.a1,a p.opn.a2,a p.opn.a3,a p.opn.a4,a p.opn.a5,a p.cls.a0,a p.cls.a1,a p.cls.a2,a p.cls.a3,a p.cls.a4,a p.cls.a5,j L p.classes,j bp.off p.offers];let w:=e aM 27 20 false;let y:=e [R,R] 217 2 false;let aN:=d bp.off [] 65 true;let aj:=bp.off.dflt;let ay:=(↑p.classes.length:Int);let a8:=bp.i .u32;let a9:=bp.b.pair (a8.bE.pair a8.bE);let az:=a9.bE.pair a9;let H:=bD f c;let N:=H.length;let z:=g 3 N 1;let z25:Nat:=(bD f k).length;let A:=g 4 z25 8;let B:=o 5 0 20;let C:=o 6 0 2;let E:=(↑N:Int);let V:=a E;let F:=d L H 3 true;let P:=γb (oI p) (bD f k);let G:=d bp.off P 65 true;let D:=e aM 87 20 false;let af:=[g 7 0 4];let aO:=e (g 8 0 3::af) 217 2 false;let ak:=d sR [] 249 false;let aP:=d a9 [] 177 false;let J:=a (df p);let al:=g 8 N 3;let aA:=mj p f N;let M:=d sF aA 177 false;let S:=(↑z25:Int);let am:=a S;let an:=o 9 0 4;let aQ:=g 10 0 3;let aR:=λ(u u_1:Int) (u_2:SV) ↦decide (u≠u_1)=true->(r [q [R,R],R,u_2]).same ah/\s.same s/\True;True/\aR (bz p) c (a (bz p))/\(decide (bz p≠c)=false->aR I ae (n 3)/\(decide (I≠ae)=false->(((t.same t/\v.same v/\(g 3 0 1).same (g 3 (bD [] c).length 1)/\(g 4 0 8).same (g 4 (bD [] k).length 8)/\Z.same Z/\a6.same a6/\a7.same (a 0)/\True)/\s.same s/\w.same w/\y.same y/\(d L [] 3 true).same (d L (bD [] c) 3 true)/\aN.same aN/\True)/\c<=c/\c<=I)/\∀(x:Int),let ao:=bD (ω x.toNat f) k;let aS:=g 4 ao.length 8;let O:=x+k;let ap:=ω O.toNat f;let aT:=g 4 (bD ap k).length 8;let aq:=a O;let aU:=g 3 (bD ap c).length 1;let aV:=d L (bD ap c) 3 true;let Q:=γb (oI p) ao;let aW:=d bp.off Q 65 true;let aX:=d bp.off (γb (oI p) (bD ap k)) 65 true;let aB:=bj f x.toNat c;let aY:=decide (aB=(-1:Int));let aa:=bD (ω x.toNat f) c;let ar:=aa.length;let aC:=d L aa 3 true;let aZ:=decide (aB=c);let b0:=aa.length+1;let b1:=decide (aB=k);let b2:=Q.length+1;let aD:=g 3 ar 1;let b3:=Q++[bj p.offers x.toNat aj];let bh:=aS.same aT/\Z.same Z/\a6.same a6/\aq.same aq/\True;let b4:=λ(u:Nat) (u_1:bq) ↦m O/\((t.same t/\v.same v/\(g 3 u 1).same aU/\bh)/\s.same s/\w.same w/\y.same y/\u_1.same aV/\aW.same aX/\True)/\(c<=O/\O<=I)/\(I - O).toNat<(I - x).toNat;c<=x/\x<=I->(decide (x<I)=true->f.length=f.length/\c<=x/\x<(↑f.length:Int)/\f.length=f.length/\x.toNat<f.length/\(aY=true->b4 ar aC)/\(aY=false->(aZ=true->ar=aa.length/\b0*8<=140737488355328/\b0<=1000000000000/\b4 (aa++[x]).length (d L (aa++[x]) 3 true))/\(aZ=false->(b1=true->c<=x/\x<ae/\x.toNat<ai/\ao.length=Q.length/\b2*64<=140737488355328/\b2<=1000000000000/\m O/\((t.same t/\v.same v/\aD.same aU/\(g 4 b3.length 8).same aT/\Z.same Z/\a6.same a6/\aq.same aq/\True)/\s.same s/\w.same w/\y.same y/\aC.same aV/\(d bp.off b3 65 true).same aX/\True)/\(c<=O/\O<=I)/\(I - O).toNat<(I - x).toNat)/\(b1=false->(r [q [R,R],R,n 4]).same ah/\s.same s/\True))))/\(decide (x<I)=false->ao.length=Q.length/\(p.classes.length<=8/\Q.length<=1000/\∀(x:Off),x∈Q->c<=x.bX/\x.bX<ay/\x.want.ok=true)/\((!gk p Q)=true->0=0/\0=0/\0=0/\(r [q [j a9 [],j az []],j L [],n 14]).same ah/\s.same s/\True)/\((!gk p Q)=false->(((t.same t/\v.same v/\aD.same z/\aS.same A/\B.same B/\C.same C/\aD.same z/\(a (↑ar:Int)).same V/\a7.same (a 0)/\True)/\s.same s/\w.same w/\y.same y/\aC.same F/\aW.same G/\D.same D/\aO.same aO/\(d az [] 249 false).same ak/\aP.same (d sF (mj p f 0) 177 false)/\True)/\c<=c/\c<=E)/\∀(x:Int),let au:=bj H x.toNat c;let aE:=(bj p.offers au.toNat aj).value;let av:=mj p f x.toNat;let b5:=av.length+1;let W:=x+k;let b6:=a W;let aF:=bu (κ aE);let b7:=av++[(aF.fst,aF.snd.fst,aF.snd.snd)];c<=x/\x<=E->(decide (x<E)=true->N=H.length/\c<=x/\x<(↑H.length:Int)/\N=H.length/\x.toNat<H.length/\c<=au/\au<ae/\au.toNat<ai/\(h<=aE/\aE<=l)/\1=1/\x.toNat=av.length/\b5*56<=140737488355328/\b5<=1000000000000/\m W/\((t.same t/\v.same v/\z.same z/\A.same A/\B.same B/\C.same C/\z.same z/\V.same V/\b6.same b6/\True)/\s.same s/\w.same w/\y.same y/\F.same F/\G.same G/\D.same D/\(e (g 8 b7.length 3::af) 217 2 false).same (e (g 8 W.toNat 3::af) 217 2 false)/\ak.same ak/\(d a9 b7 177 false).same (d sF (mj p f W.toNat) 177 false)/\True)/\(c<=W/\W<=E)/\(E - W).toNat<(E - x).toNat)/\(decide (x<E)=false->p.classes.length<=8/\(((t.same t/\v.same v/\z.same z/\A.same A/\B.same B/\C.same C/\J.same J/\a7.same (a 0)/\True)/\s.same s/\w.same w/\y.same y/\F.same F/\G.same G/\D.same D/\(e (g 8 x.toNat 3::af) 217 2 false).same (e (al::af) 217 2 false)/\ak.same (d sR (nN p f 0) 249 false)/\(d sF av 177 false).same M/\True)/\c<=c/\c<=df p)/\∀(x:Int),let b8:=decide (x<df p);let T:=e [al,g 7 x.toNat 4] 217 2 false;let ab:=nN p f x.toNat;let U:=d sR ab 249 false;let ac:=bu (κ (dn p x - cV p P x));let aG:=[γw ac.fst,j a8 ac.snd.fst,j a8 ac.snd.snd];let b9:=ab.length+1;let X:=x+k;let ba:=a X;c<=x/\x<=df p->(b8=true->(p.classes.length<=8/\c<=x/\x<df p)/\(((t.same t/\v.same v/\z.same z/\A.same A/\B.same B/\C.same C/\(a x).same (a x)/\(a (dn p x)).same (a (dn p x - cV p [] x))/\J.same J/\(a x).same (a x)/\A.same A/\am.same am/\a7.same (a 0)/\True)/\s.same s/\w.same w/\y.same y/\F.same F/\G.same G/\D.same D/\T.same T/\U.same U/\M.same M/\True)/\c<=c/\c<=S)/\∀(x_1:Int),let aH:=bj P x_1.toNat aj;let aw:=dn p x - cV p (ω x_1.toNat P) x;let bb:=aw - dX p x aH;let ad:=x_1+k;let K:=a x;let bc:=a ad;let aI:=bu (κ aw);c<=x_1/\x_1<=S->(decide (x_1<S)=true->z25=P.length/\c<=x_1/\x_1<(↑P.length:Int)/\z25=P.length/\x_1.toNat<P.length/\(p.classes.length<=8/\c<=x/\x<df p/\c<=aH.bX/\aH.bX<ay)/\m bb/\m ad/\((t.same t/\v.same v/\z.same z/\A.same A/\B.same B/\C.same C/\K.same K/\(a bb).same (a (dn p x - cV p (ω ad.toNat P) x))/\J.same J/\K.same K/\A.same A/\am.same am/\bc.same bc/\True)/\s.same s/\w.same w/\y.same y/\F.same F/\G.same G/\D.same D/\T.same T/\U.same U/\M.same M/\True)/\(c<=ad/\ad<=S)/\(S - ad).toNat<(S - x_1).toNat)/\(decide (x_1<S)=false->(h<=aw/\aw<=l)/\(((t.same t/\v.same v/\z.same z/\A.same A/\B.same B/\C.same C/\K.same K/\an.same an/\J.same J/\K.same K/\z.same z/\V.same V/\a7.same (a 0)/\True)/\s.same s/\w.same w/\y.same y/\F.same F/\G.same G/\D.same D/\T.same T/\U.same U/\M.same M/\(e [aQ,γw aI.fst,j a8 aI.snd.fst,j a8 aI.snd.snd] 249 4 false).same (e (aQ::aG) 249 4 false)/\aP.same (d sF (nM p f x 0) 177 false)/\True)/\c<=c/\c<=E)/\∀(x_2:Int),let ax:=bj H x_2.toNat c;let aJ:=bj p.offers ax.toNat aj;let aK:=dX p x aJ;let ag:=nM p f x x_2.toNat;let bd:=ag.length+1;let Y:=x_2+k;let be:=a Y;let aL:=bu (κ aK);let bf:=ag++[(aL.fst,aL.snd.fst,aL.snd.snd)];let bg:=ab++[(ag,ac.fst,ac.snd.fst,ac.snd.snd)];c<=x_2/\x_2<=E->(decide (x_2<E)=true->N=H.length/\c<=x_2/\x_2<(↑H.length:Int)/\N=H.length/\x_2.toNat<H.length/\c<=ax/\ax<ae/\ax.toNat<ai/\(p.classes.length<=8/\c<=x/\x<df p/\c<=aJ.bX/\aJ.bX<ay)/\(h<=aK/\aK<=l)/\1=1/\x_2.toNat=ag.length/\bd*56<=140737488355328/\bd<=1000000000000/\m Y/\((t.same t/\v.same v/\z.same z/\A.same A/\B.same B/\C.same C/\K.same K/\an.same an/\J.same J/\K.same K/\z.same z/\V.same V/\be.same be/\True)/\s.same s/\w.same w/\y.same y/\F.same F/\G.same G/\D.same D/\T.same T/\U.same U/\M.same M/\(e (g 10 bf.length 3::aG) 249 4 false).same (e (g 10 Y.toNat 3::aG) 249 4 false)/\(d a9 bf 177 false).same (d sF (nM p f x Y.toNat) 177 false)/\True)/\(c<=Y/\Y<=E)/\(E - Y).toNat<(E - x_2).toNat)/\(decide (x_2<E)=false->x_2.toNat=ag.length/\1=1/\x.toNat=ab.length/\b9*80<=140737488355328/\b9<=1000000000000/\m X/\((t.same t/\v.same v/\z.same z/\A.same A/\B.same B/\C.same C/\J.same J/\ba.same ba/\True)/\s.same s/\w.same w/\y.same y/\F.same F/\G.same G/\D.same D/\(e [al,g 7 bg.length 4] 217 2 false).same (e [al,g 7 X.toNat 4] 217 2 false)/\(d az bg 249 false).same (d sR (nN p f X.toNat) 249 false)/\M.same M/\True)/\(c<=X/\X<=df p)/\(df p - X).toNat<(df p - x).toNat)))/\(b8=false->N=aA.length/\x.toNat=ab.length/\N=H.length/\(r [q [j sF aA,j sR ab],j L H,a7]).same ah/\s.same s/\True))))))) (by kernel_rfl) ?_;simp only[vcs];obtain⟨g1,g2,g3,g4,g5⟩:=dR hc;have hoi:∀k:Nat,∀o:Int,o=k->(bj p.offers k bp.off.dflt)=oI p o:=λk o h=>by subst h;rfl
 have hw2:∀{a b:Nat},a=b->(γ1 3 a 1).same (γ1 3 b 1):=by rintro _ _ rfl;rfl
 have hw3:∀{a b:Nat},a=b->(γ1 4 a 8).same (γ1 4 b 8):=by rintro _ _ rfl;rfl
 have lH:∀{x y:List Int},x=y->(bq.row (.i .i64) x 3 true).same (bq.row (.i .i64) y 3 true):=by rintro _ _ rfl;rfl
 have yR:∀{x y:List Off},x=y->(bq.row .off x 65 true).same (bq.row .off y 65 true):=by rintro _ _ rfl;rfl
 refine⟨λh=>absurd hc h,λ_=>⟨λh=>absurd (by rw[hl]) h,λ_=>⟨⟨⟨⟨hw2 rfl,hw3 rfl⟩,lH rfl⟩,by omega,by omega⟩,?_⟩⟩⟩;rintro i ⟨i0,i1⟩;have htl:(f.take i.toNat).length<=160:=by rw[γq];omega
 have hd0:=@uL (f.take i.toNat) 0;have hd1:=@uL (f.take i.toNat) 1;have hm1:(γb (oI p) (bD (f.take i.toNat) 1)).length=(bD (f.take i.toNat) 1).length:=Δ _;refine⟨λhi=>?_,λhi=>?_⟩
 ·have hs0:=@Bg f 0 i i0 hi;have hs1:=@Bg f 1 i i0 hi;have aif: -1<=bj f i.toNat 0/\bj f i.toNat 0<=1:=by
   have:=φ.1 hr _ (dr (d:=0) (show i.toNat<f.length by omega));simpa using this
  refine⟨i0,hi,by omega,λh1=>?_,λh1=>⟨λh2=>?_,λh2=>⟨λh3=>?_,λh3=>by omega⟩⟩⟩
  ·rw[if_neg (by omega),γ7] at hs0 hs1;rw[hs0,hs1];refine⟨?_,⟨⟨hw2 rfl,hw3 rfl⟩,lH rfl,yR rfl⟩,?_,?_⟩<;>omega
  ·rw[if_pos (by omega)] at hs0;rw[if_neg (by omega),γ7] at hs1;rw[hs0,hs1];refine⟨?_,?_,?_,⟨⟨hw2 rfl,hw3 rfl⟩,lH rfl,yR rfl⟩,?_,?_⟩<;>omega
  ·rw[if_neg (by omega),γ7] at hs0;rw[if_pos (by omega)] at hs1;rw[hs0,hs1,hoi i.toNat i (by omega),hm1];have e:γb (oI p) (bD (f.take i.toNat) 1)++[oI p i]=γb (oI p) (bD (f.take i.toNat) 1++[i]):=by rw[γa];rfl
   rw[e,Δ];refine⟨i0,?_,?_,rfl,?_,?_,?_,⟨⟨hw2 rfl,hw3 rfl⟩,lH rfl,yR rfl⟩,?_,?_⟩<;>omega
 ·have htk:f.take i.toNat=f:=by rw[show i.toNat=f.length by omega,ψ]
  rw[htk] at hd0 hd1 hm1 ⊢;have hdl:∀d,(bD f d).length<=160:=λd=>by have:=@uL f d;omega
  refine⟨hm1.symm,⟨g1,by omega,λx hx=>?_⟩,λhb=>?_,λhb=>?_⟩
  ·obtain⟨k,hk,rfl⟩:=Ψ.1 hx;have h1:=(kN.1 hk).1;have:=kO hc (i:=k) (by omega);exact⟨this.1,this.2.1,this.2.2.1⟩
  ·have hb2:hJ p f=false:=hb;unfold mO;simp only[hb2];exact⟨rfl,rfl,rfl⟩
  ·have hb2:hJ p f=true:=hb;have hG:mO p f=((iJ (jO p f)).1,((iJ (jO p f)).2,bD f 0)):=by unfold mO;rw[if_pos hb2]
   simp only[hb2,if_true,hG];have hfx:eX p f:=⟨hc,hl,hb⟩;have Bm:∀{x y:List bL},x=y->(bq.row sF x 177 false).same (bq.row sF y 177 false):=by rintro _ _ rfl;rfl
   have Uz:∀{x y:List (List bL×bL)},x=y->(bq.row sR x 249 false).same (bq.row sR y 249 false):=by rintro _ _ rfl;rfl
   have KQ:∀{a b c d:Nat},a=b->c=d->(bq.cells [.ow 8 a 3,.ow 7 c 4] 217 2 false).same (bq.cells [.ow 8 b 3,.ow 7 d 4] 217 2 false):=by rintro _ _ _ _ rfl rfl;rfl
   have hc8:∀{a b:Nat} {q q':Rat},a=b->q=q'->(bq.cells [.ow 10 a 3,.sb (bu q).1,.row (.i .u32) (bu q).2.1,.row (.i .u32) (bu q).2.2] 249 4 false).same (bq.cells [.ow 10 b 3,.sb (bu q').1,.row (.i .u32) (bu q').2.1,.row (.i .u32) (bu q').2.2] 249 4 false):=by rintro _ _ _ _ rfl rfl;rfl
   have hn0:=hdl 0;have hn1:=hdl 1;have hfree:∀j:Int,0<=j->j<(bD f 0).length->(0<=bj (bD f 0) j.toNat 0/\bj (bD f 0) j.toNat 0<p.offers.length):=λj h0 h1=>by
    have:=(kN.1 (dr (d:=0) (show j.toNat<(bD f 0).length by omega))).1;omega
   refine⟨⟨⟨⟨hw2 rfl,hw3 rfl,hw2 rfl,trivial⟩,lH rfl,yR rfl,Bm rfl⟩,by omega,by omega⟩,?_⟩;rintro j ⟨j0,j1⟩;have hgl:=@J9 p f j.toNat (by omega);refine⟨λhj=>?_,λhj=>?_⟩
   ·have hk:=hfree j j0 hj;have ho:=kO hc hk;have hs:=@aec p f j j0 hj;have aeX:=@J9 p f (j+1).toNat (by omega);rw[hoi _ (bj (bD f 0) j.toNat 0) (by omega)];simp only[jM];have e:mj p f j.toNat++[bu (κ (oI p (bj (bD f 0) j.toNat 0)).value)]=mj p f (j+1).toNat:=hs.symm;rw[e];refine⟨j0,hj,?_,hk.1,hk.2,?_,?_,?_,?_,?_,?_,⟨KQ aeX rfl,Bm rfl⟩,?_,?_⟩<;>omega
   ·rw[show j.toNat=(bD f 0).length by omega];have hnr:df p=p.classes.length+12:=rfl;refine⟨g1,⟨⟨KQ rfl rfl,Uz rfl,Bm rfl⟩,by omega,by omega⟩,?_⟩;rintro r ⟨r0,r1⟩;have hrl:=@T0 p f r.toNat;refine⟨λhr2=>⟨⟨g1,r0,hr2⟩,⟨by simp[cV],by omega,by omega⟩,?_⟩,λhr2=>?_⟩
    ·rintro k ⟨k0,k1⟩;have hok:∀x∈(γb (oI p) (bD f 1)).take k.toNat,x.want.ok=true:=λx hx=>(Ey hfx x (γm hx)).2.2.1;have hsb:=@sM p r ((γb (oI p) (bD f 1)).take k.toNat) hok;have aeY:((γb (oI p) (bD f 1)).take k.toNat).length<=160:=by rw[γq];omega
     have hbb:=@A7 p hc r;refine⟨λhk=>?_,λhk=>?_⟩
     ·have hx:=Ey hfx _ (dr (d:=bp.off.dflt) (show k.toNat<(γb (oI p) (bD f 1)).length by omega));have hst:=@HL p r (γb (oI p) (bD f 1)) k bp.off.dflt k0 (by omega);have hcb:=@pO p r _ hx.2.2.1;refine⟨?_,k0,?_,?_,?_,⟨g1,r0,hr2,hx.1,hx.2.1⟩,?_,?_,?_,?_,?_⟩<;>omega
     ·have e:(γb (oI p) (bD f 1)).take k.toNat=γb (oI p) (bD f 1):=List.take_of_length_le (by omega);rw[e] at hsb aeY ⊢;refine⟨by omega,⟨⟨hc8 rfl rfl,Bm rfl⟩,by omega,by omega⟩,?_⟩;rintro l ⟨l0,l1⟩;have hcl:=@TY p f r l.toNat (by omega);refine⟨λhl2=>?_,λhl2=>?_⟩
      ·have hk:=hfree l l0 hl2;have ho:=kO hc hk;have hs:=@aed p f r l l0 hl2;have aeZ:=@TY p f r (l+1).toNat (by omega);have hcb:=@pO p r _ ho.2.2.1;rw[hoi _ (bj (bD f 0) l.toNat 0) (by omega)];simp only[jM];have e:nM p f r l.toNat++[bu (κ (dX p r (oI p (bj (bD f 0) l.toNat 0))))]=nM p f r (l+1).toNat:=hs.symm;rw[e];refine⟨l0,hl2,?_,hk.1,hk.2,?_,⟨g1,r0,hr2,ho.1,ho.2.1⟩,?_,?_,?_,?_,?_,⟨hc8 aeZ rfl,Bm rfl⟩,?_,?_⟩<;>omega
      ·rw[show l.toNat=(bD f 0).length by omega] at hcl ⊢;have hs:=@aee p f r r0;have hrl2:=@T0 p f (r+1).toNat;simp only[jM];have e:nN p f r.toNat++[(nM p f r (bD f 0).length,bu (κ (dn p r - cV p (γb (oI p) (bD f 1)) r)))]=nN p f (r+1).toNat:=hs.symm;rw[e];refine⟨hcl.symm,hrl.symm,?_,?_,?_,⟨KQ rfl hrl2,Uz rfl⟩,?_,?_⟩<;>omega
    ·have e:r.toNat=mF p:=by
      show r.toNat=p.classes.length+12;omega
     rw[e] at hrl ⊢;rw[TW,TX];refine⟨?_,hrl.symm.trans (by rw[TX]),rfl,trivial,trivial⟩;rw[<-TW];exact(J9 (Nat.le_refl _)).symm
noncomputable def KR:dH:=KN 100 (λp f=>f.length<=1000000000000) λp f=> .bI [aek p f,.si .i64 (jf p f)]
noncomputable def UA (p:bn) (f:List Int) (x:List bL):bZ:=
 [.row (.i .i64) f 3 true,.cells p.ss 27 20 false,.cells [.bl false,.bl false,.sc (.slice none 0 0),.sc (.slice none 0 0),.sc (.slice none 0 0),.sc (.slice none 0 0)] 179 6 false,.cells [.row sF (mO p f).1,.row sR (mO p f).2.1] 217 2 false,
  .cells [.si .i64 1,.sb (bu (dA p f).value).1,.row (.i .u32) (bu (dA p f).value).2.1,.row (.i .u32) (bu (dA p f).value).2.2,.row sF (fL (gp (dA p f) (nF f) (mF p))),.row sF (fL (iC p f)),.row sF []] 221 7 false,.row sF x 177 true]
noncomputable def ae0 (p:bn) (f:List Int):Nat->cF
 |12=> .inv Int (λi=>⟨[(1,.ow 0 f.length 1),(2,.ptr 1 0 20),(4,.ptr 2 0 6),(8,.row (.i .i64) (bD f 0)),(10,.ptr 4 0 7),(11,.ow 5 f.length 3),(45,.ow 0 f.length 1),(46,.si .i64 f.length),(47,.si .i64 i)],UA p f (eV (fL (j3 p f 0)) i.toNat (false,([],[])))⟩)
   (λs=>iS s 47) (λi=>0<=i/\i<=f.length) (λi=>(f.length - i).toNat) λ_ _=> .look
 |19=> .inv Int (λk=>⟨[(1,.ow 0 f.length 1),(2,.ptr 1 0 20),(4,.ptr 2 0 6),(10,.ptr 4 0 7),(11,.ow 5 f.length 3),(63,.row (.i .i64) (bD f 0)),(64,.si .i64 (bD f 0).length),(65,.si .i64 k)],UA p f (fL (j3 p f k.toNat))⟩)
   (λs=>iS s 65) (λk=>0<=k/\k<=(bD f 0).length) (λk=>((bD f 0).length - k).toNat) λ_ _=> .look
 |_=> .look
theorem h390w:ec Tryz.prog KR:=by
 refine Bl (L:=[EH,J7,ox,v8]) (W:=[KP,KO]) KR (λa=>ae0 a.1 a.2.2) (by simpa using⟨h394w,h396w⟩) (by simpa using⟨h393,h395,h94,h129⟩) ?_;rintro⟨p,n,f⟩ ⟨hn,hl:f.length<=1000000000000⟩;simp only at hn;subst hn;refine bR (let c:=γi .i64;let d:=(0:Int);let e:=Ω;let g:=bq.row;let h:=(-9223372036854775808:Int);let j:=(9223372036854775807:Int);let k:=bq.cells;let l:=(1:Int);let m:=γw;let n:=SV.bI;let o:=γT;let q:=γN;let Q:=δf false;let v:=bp.i .u32;let a6:=bp.b.pair (v.bE.pair v.bE);let ah:=q [Q,Q,e v [],e v [],e a6 [],e a6 []];let ai:=[c (jf p f)];let a7:=n (q [m (j4 p f),m (kp p f).fst,e v (kp p f).snd.fst,e v (kp p f).snd.snd,e sF (qP p f),e sF (kq p f)]::ai);let R:=bp.i .i64;let t:=g R f 3 true;let aj:=decide (jf p f≠d);let ak:=decide ((if hJ p f=true then d else(14:Int))≠d);let S:=γy .i64 0;let T:=(mO p f).fst;let a8:=(mO p f).snd.fst;let a9:=c 0;let s:=(↑f.length:Int);let w:=γ1 0 f.length 1;let y:=o 1 0 20;let z:=o 2 0 6;let J:=bD f d;let G:=e R J;let A:=o 4 0 7;let H:=γ1 5 f.length 3;let U:=c s;let B:=k [c p.supply.a0,c p.supply.a1,c p.supply.a2,c p.supply.a3,c p.supply.a4,c p.supply.a5,c p.opn.a0,c p.opn.a1,c p.opn.a2,c p.opn.a3,c p.opn.a4,c p.opn.a5,c p.cls.a0,c p.cls.a1,c p.cls.a2,c p.cls.a3,c p.cls.a4,c p.cls.a5,e R p.classes,e bp.off p.offers] 27 20 false;let V:=SV.sc (Value.slice none 0 0);let C:=k [Q,Q,V,V,V,V] 179 6 false;let D:=k [e sF T,e sR a8] 217 2 false;let al:=c 1;let aa:=γb (λ(r:List bL×bL) ↦(vL r.fst,bV r.snd)) a8;let P:=nL (vL T,aa);let z31:Nat:=(vL T).length;let K:=bu (dA p f).value;let W:=fL (gp (dA p f) (nF f) (mF p));let am:=e sF (fL (iC p f));let I:=k [al,m K.fst,e v K.snd.fst,e v K.snd.snd,e sF W,am,e sF []] 221 7 false;let X:=(false,[],[]);let Y:=fL (j3 p f 0);let ab:=bu (κ d);let ac:=bu (κ l);let E:=(↑J.length:Int);let ad:=c E;let ae:=bu (κ (gA p f));let an:=(ae.fst,ae.snd.fst,ae.snd.snd);let ao:=(K.fst,K.snd.fst,K.snd.snd);let af:=bu (bV an+bV ao);let ap:=λ(u:Bool) (u_1:SV) ↦u=true->0=0/\0=0/\0=0/\0=0/\(n [ah,u_1]).same a7/\t.same t/\True;f.length=f.length/\f.length<=1000000000000/\(aj=true->0=0/\0=0/\0=0/\0=0/\(n (ah::ai)).same a7/\t.same t/\True)/\(aj=false->(f.length=f.length/\(bz p=d/\f.length=p.offers.length)/\jN f=true)/\ap ak S/\(ak=false->(∃(a:Lp),(T,a8)=iJ a/\Bf a)/\ap false a9/\(false=false->d<=s/\s<=s/\s*(56:Int)<=(140737488355328:Int)/\s<=(1000000000000:Int)/\(((w.same w/\y.same y/\z.same z/\(e R (mO p f).snd.snd).same G/\A.same A/\(γ1 5 s.toNat 3).same H/\w.same w/\U.same U/\S.same a9/\True)/\t.same t/\B.same B/\C.same C/\D.same D/\(k [al,m (bu P.value).fst,e v (bu P.value).snd.fst,e v (bu P.value).snd.snd,e sF (fL (gp P z31 aa.length)),e sF (fL (jy P z31 aa.length z31)),e sF []] 221 7 false).same I/\(g a6 (δ s.toNat X) 177 true).same (g sF (eV Y 0 X) 177 true)/\True)/\d<=d/\d<=s)/\∀(x:Int),let L:=x+l;let aq:=c L;let M:=eV Y x.toNat X;let ar:=decide (bj f x.toNat d=l);let N:=M.set x.toNat (ab.fst,ab.snd.fst,ab.snd.snd);let au:=λ(u:List (Bool×List Int×List Int)) ↦cu .i64 L/\((w.same w/\y.same y/\z.same z/\G.same G/\A.same A/\H.same H/\w.same w/\U.same U/\aq.same aq/\True)/\t.same t/\B.same B/\C.same C/\D.same D/\I.same I/\(g sF u 177 true).same (g sF (eV Y L.toNat X) 177 true)/\True)/\(d<=L/\L<=s)/\(s - L).toNat<(s - x).toNat;d<=x/\x<=s->(decide (x<s)=true->f.length=f.length/\d<=x/\x<(↑f.length:Int)/\f.length=f.length/\x.toNat<f.length/\(h<=d/\d<=j)/\f.length=M.length/\d<=x/\x<(↑M.length:Int)/\f.length=M.length/\x.toNat<M.length/\(ar=true->(h<=l/\l<=j)/\f.length=N.length/\d<=x/\x<(↑N.length:Int)/\f.length=N.length/\x.toNat<N.length/\au (N.set x.toNat (ac.fst,ac.snd.fst,ac.snd.snd)))/\(ar=false->au N))/\(decide (x<s)=false->(((w.same w/\y.same y/\z.same z/\A.same A/\H.same H/\G.same G/\(c (↑J.length:Int)).same ad/\S.same a9/\True)/\t.same t/\B.same B/\C.same C/\D.same D/\I.same I/\(g sF M 177 true).same (g sF Y 177 true)/\True)/\d<=d/\d<=E)/\∀(x:Int),let F:=fL (j3 p f x.toNat);let Z:=bj J x.toNat d;let O:=x+l;let av:=c O;let ag:=bj W x.toNat sF.dflt;d<=x/\x<=E->(decide (x<E)=true->d<=x/\x<(↑J.length:Int)/\x.toNat<J.length/\d<=x/\x<(↑W.length:Int)/\x.toNat<W.length/\f.length=F.length/\d<=Z/\Z<(↑F.length:Int)/\f.length=F.length/\Z.toNat<F.length/\cu .i64 O/\((w.same w/\y.same y/\z.same z/\A.same A/\H.same H/\G.same G/\ad.same ad/\av.same av/\True)/\t.same t/\B.same B/\C.same C/\D.same D/\I.same I/\(g sF (F.set Z.toNat (ag.fst,ag.snd.fst,ag.snd.snd)) 177 true).same (g sF (fL (j3 p f O.toNat)) 177 true)/\True)/\(d<=O/\O<=E)/\(E - O).toNat<(E - x).toNat)/\(decide (x<E)=false->(f.length=f.length/\bz p=d/\f.length=p.offers.length)/\(cC an/\cC ao)/\f.length=F.length/\f.length=F.length/\(n [q [δf true,m af.fst,e v af.snd.fst,e v af.snd.snd,am,e sF F],S]).same a7/\t.same t/\True)))))) (by kernel_rfl) ?_;simp only[vcs];have hz:j4 p f=false->(γN [δf false,δf false,Ω (bp.i IntKind.i64) [],Ω (bp.i IntKind.i64) [],Ω (bp.i IntKind.i64) [],Ω (bp.i IntKind.i64) []]).same
   (γN [γw (j4 p f),γw (kp p f).fst,Ω (bp.i IntKind.u32) (kp p f).snd.fst,Ω (bp.i IntKind.u32) (kp p f).snd.snd,Ω sF (qP p f),Ω sF (kq p f)]):=λh=>by
  unfold kp qP kq;simp only[h];rfl
 refine⟨hl,λh=>hz (by unfold j4;rw[decide_eq_false h];rfl),λh=>?_⟩;have hx0:jf p f=0:=γj.1 h;have hcl:bz p=0/\f.length=p.offers.length/\jN f=true:=by
  unfold jf at hx0;split at hx0;·rename_i h1;exact absurd hx0 h1
  ·rename_i h1;split at hx0;·cases hx0
   ·rename_i h2;split at hx0;·rename_i h3;exact⟨γj.1 h1,γj.1 h2,h3⟩
    ·cases hx0
 obtain⟨hc,hln,hr⟩:=hcl;refine⟨⟨⟨hc,hln⟩,hr⟩,λh1=>⟨hz ?_,hx0.symm⟩,λh1=>?_⟩
 ·have hb:hJ p f=false:=by
   cases hb:hJ p f with
   |false=>rfl;|true=>rw[hb] at h1;exact absurd rfl h1
  unfold j4;rw[hb,Bool.and_false]
 ·have hb:hJ p f=true:=by
   cases hb:hJ p f with
   |true=>rfl;|false=>rw[hb] at h1;exact absurd (by simp) h1
  have hfx:eX p f:=⟨hc,hln,hb⟩;have hG:mO p f=((iJ (jO p f)).1,((iJ (jO p f)).2,bD f 0)):=by unfold mO;rw[if_pos hb]
  have hok:j4 p f=true:=by unfold j4;rw[hb,decide_eq_true hx0];rfl
  have h0:(κ 0:Rat)=0:=rfl;have h1':(κ 1:Rat)=1:=rfl;simp only[hG,TS,TT,h0,h1',jM];have e1:(jO p f).1.length=nF f:=by
   show((bD f 0).map _).length=_;rw[Δ]
  have e2:(jO p f).2.length=mF p:=by
   show((dp (mF p)).map _).length=_;rw[Δ,iT]
  have J8:((jO p f).1,(jO p f).2)=jO p f:=rfl;simp only[J8,aeg,e1,e2];have uM:∀{x y:List bL},x=y->(bq.row sF x 177 true).same (bq.row sF y 177 true):=by rintro _ _ rfl;rfl
  have hs0:=@yH p f 0;have hf0:=@fF (j3 p f 0);have hpt:=@ED (dA p f) (nF f) (mF p);have hfp:=@fF (gp (dA p f) (nF f) (mF p));have hcast:∀k:Nat,((k:Nat):Int).toNat=k:=λk=>γl k;have hnf:nF f=(bD f 0).length:=rfl;have hdl0:=@uL f 0;refine⟨⟨jO p f,rfl,aef hfx⟩,λh=>(by cases h),λ_=>⟨by omega,by omega,by omega,by omega,⟨⟨⟨trivial,by rw[hcast];rfl⟩,rfl,uM (by rw[yC,hf0,hs0,hcast])⟩,by omega,by omega⟩,?_⟩⟩;rintro i ⟨i0,i1⟩;have oW:=@yB (fL (j3 p f 0)) i.toNat (false,([],[])) (by omega);refine⟨λhi=>?_,λhi=>?_⟩
  ·have hv:bj (fL (j3 p f 0)) i.toNat (false,([],[]))=bu (if bj f i.toNat 0=1 then 1 else 0):=by rw[jw (by omega),aej (by omega)]
   have hset:∀x:bL,x=bu (if bj f i.toNat 0=1 then 1 else 0)->(eV (fL (j3 p f 0)) i.toNat (false,([],[]))).set i.toNat x=eV (fL (j3 p f 0)) (i+1).toNat (false,([],[])):=λx hx=>by
    have:=yE (d:=fL (j3 p f 0)) (j:=i.toNat) (z:=(false,([],[]))) (x:=x) (by omega) (hx.trans hv.symm);rw[show(i+1).toNat=i.toNat+1 by omega];exact this
   rw[Φ];refine⟨i0,hi,by omega,by omega,by omega,i0,by omega,by omega,by omega,λh1=>⟨by omega,by omega,i0,by omega,by omega,by omega,by omega,uM ?_,by omega,by omega⟩,λh1=>⟨by omega,uM ?_,by omega,by omega⟩⟩
   ·rw[List.set_set];exact hset _ (by rw[if_pos h1])
   ·exact hset _ (by rw[if_neg h1])
  ·have hi2:i.toNat=(fL (j3 p f 0)).length:=by omega
   rw[hi2,yD];refine⟨⟨uM rfl,by omega,by omega⟩,?_⟩;rintro k ⟨k0,k1⟩;have hsk:=@yH p f k.toNat;have hfk:=@fF (j3 p f k.toNat);refine⟨λhk=>?_,λhk=>?_⟩
   ·have hm:=(kN.1 (dr (d:=0) (show k.toNat<(bD f 0).length by omega))).1;have hv:bj (fL (gp (dA p f) (nF f) (mF p))) k.toNat sF.dflt=bu (bj (gp (dA p f) (nF f) (mF p)) k.toNat 0):=jw (by omega);have hst:=@aei p f k.toNat (by omega);rw[hv];refine⟨k0,hk,by omega,k0,by omega,by omega,by omega,hm.1,by omega,by omega,by omega,by omega,uM ?_,by omega,by omega⟩;rw[yF,show(k+1).toNat=k.toNat+1 by omega,hst]
   ·have hk2:k.toNat=nF f:=by omega
    rw[hk2] at hsk hfk ⊢;have hab:=@Bh p hc f f.length hln;rw[ψ] at hab;have hsa:Sz 1 ((gA p f:Int):Rat):=by
     unfold Sz;rw[Rat.num_intCast,Rat.den_intCast];omega
    have hsv:Sz 1000000 (dA p f).value:=by
     have:=(Ez hfx).wo (oD hfx).1;exact this.2.2.2
    refine⟨⟨hc,hln⟩,⟨dO hsa (by omega),dO hsv (by omega)⟩,by omega,by omega,?_,hx0.symm⟩;unfold kp qP kq;simp only[hok,if_true,eD];rfl
def KT:dH:=ET 104 (List bL) (.one (dM sF)) (λx a=>fu x/\py a/\a.length=x.p.offers.length) (λx a=>nu.put ⟨eI (vL a),cK ((eI (vL a)).map (oI x.p))⟩) λx _=>x
def ku (x:List Rat) (k:Nat):List Int:=(dp k).filter λi=>decide (0<bj x i.toNat 0)
def lI (p:bn) (l:List Int):Int:=cK (l.map (oI p))
def ae2 (x:dJ) (a:List bL):Nat->cF
 |3=>match x.en with
  |none=> .inv Int (λi=>⟨[(0,.ptr 0 0 28),(4,.ptr 3 0 2),(5,.ptr 5 0 2),(10,.row sF a),(11,.si .i64 a.length),(12,.si .i64 i)],
    x.yK++[.cells [.sc (.slice none 0 0),.si .i64 0] 40 2 false,.row (.i .i64) (ku (vL a) i.toNat) 3 true,.cells [.ow 4 (ku (vL a) i.toNat).length 1,.si .i64 (lI x.p (ku (vL a) i.toNat))] 40 2 false]⟩)
    (λs=>iS s 12) (λi=>0<=i/\i<=a.length) (λi=>(a.length - i).toNat) λ_ _=> .look
  |some m=> .inv Int (λi=>⟨[(0,.ptr 0 0 28),(4,.ptr 4 0 2),(5,.ptr 6 0 2),(10,.row sF a),(11,.si .i64 a.length),(12,.si .i64 i)],
    x.yL m++[.cells [.sc (.slice none 0 0),.si .i64 0] 40 2 false,.row (.i .i64) (ku (vL a) i.toNat) 3 true,.cells [.ow 5 (ku (vL a) i.toNat).length 1,.si .i64 (lI x.p (ku (vL a) i.toNat))] 40 2 false]⟩)
    (λs=>iS s 12) (λi=>0<=i/\i<=a.length) (λi=>(a.length - i).toNat) λ_ _=> .look
 |_=> .look
theorem UB {x:List Rat} {i:Int} (i0:0<=i):ku x (i+1).toNat=if 0<bj x i.toNat 0 then ku x i.toNat++[i] else ku x i.toNat:=by
 unfold ku;rw[show(i+1).toNat=i.toNat+1 by omega,sY,List.filter_append,εB i0];grind
theorem UC {p:bn} {x:List Rat} {k:Nat} (a:bz p=0) (g:k<=p.offers.length):(ku x k).length<=160/\0<=lI p (ku x k)/\lI p (ku x k)<=160000000:=by
 have e:(ku x k).length<=k:=by
  have:=δc (λi:Int=>decide (0<bj x i.toNat 0)) (dp k);rw[iT] at this;exact this
 have c:=sN (dR a) (l:=(ku x k).map (oI p)) λy b=>by
  obtain⟨i,d,rfl⟩:=Ψ.1 b;have:=kL.1 (γt.1 d).1;exact dr (by omega)
 rw[Δ] at c;have f:=(dR a).2.1;grind[lI]
theorem UD {p:bn} {l:List Int} {i:Int}:lI p (l++[i])=lI p l+(oI p i).value:=by
 simp_all[lI,pP,cK]
theorem h446:ec Tryz.prog KT:=by
 refine Bl (L:=[sU]) (W:=[]) KT (λa=>ae2 a.1 a.2) (by simp) (by simpa using h99) ?_;rintro⟨⟨p,ch,val,found,en,k1,k2,most,err,prf,fx⟩,a⟩ ⟨hok,⟨l,hx,hla,hz⟩,hl⟩;simp only at hok hx hla hl;subst hx;have hc:bz p=0:=hok.f.c;have h160:=(dR hc).2.1;have hll:=@fF l;have hl:(fL l).length=p.offers.length:=hl;cases en with
 |none=>
  refine bR (let a:=γi .i64;let b:=bq.cells;let c:=bq.row;let d:=(0:Int);let e:=Ω;let f:=γ1;let g:=γT;let r:=g 0 0 28;let s:=g 3 0 2;let t:=g 5 0 2;let C:=(↑(fL l).length:Int);let k:=(↑(fL l).length:Int);let v:=a k;let w:=γy .i64 0;let D:=a 0;let j:=bp.i .i64;let m:=b [a p.supply.a0,a p.supply.a1,a p.supply.a2,a p.supply.a3,a p.supply.a4,a p.supply.a5,a p.opn.a0,a p.opn.a1,a p.opn.a2,a p.opn.a3,a p.opn.a4,a p.opn.a5,a p.cls.a0,a p.cls.a1,a p.cls.a2,a p.cls.a3,a p.cls.a4,a p.cls.a5,e j p.classes,e bp.off p.offers,e j ch,a val,γw found,ζN (Fn.func 70) [] [],f 1 k1 5,f 2 k2 1,a most,a err] 126 28 false;let n:=c bF prf 108 true;let o:=c j fx 3 true;let E:=SV.sc (Value.slice none 0 0);let y:=b [E,D] 40 2 false;let z:=ku (vL (fL l)) 0;(((r.same r/\s.same s/\t.same t/\(e sF (fL l)).same (e sF (fL l))/\(a C).same v/\w.same D/\True)/\m.same m/\n.same n/\o.same o/\(b [E,w] 40 2 false).same y/\(c j [] 3 true).same (c j z 3 true)/\(b [f 4 0 1,w] 40 2 false).same (b [f 4 z.length 1,a (lI p z)] 40 2 false)/\True)/\d<=d/\d<=k)/\∀(x:Int),let q:=x+(1:Int);let F:=a q;let A:=ku (vL (fL l)) q.toNat;let B:=bj (fL l) x.toNat sF.dflt;let G:=(B.fst,B.snd.fst,B.snd.snd);let h:=ku (vL (fL l)) x.toNat;let H:=h.length+1;let I:=lI p h+(bj p.offers x.toNat bp.off.dflt).value;let J:=λ(u:bq) (u_1:Nat) (u_2:Int) ↦cu .i64 q/\((r.same r/\s.same s/\t.same t/\(e sF (fL l)).same (e sF (fL l))/\v.same v/\F.same F/\True)/\m.same m/\n.same n/\o.same o/\y.same y/\u.same (c j A 3 true)/\(b [f 4 u_1 1,a u_2] 40 2 false).same (b [f 4 A.length 1,a (lI p A)] 40 2 false)/\True)/\(d<=q/\q<=k)/\(k - q).toNat<(k - x).toNat;let K:=λ(u:Bool) ↦decide (d<jL (bV G))=u;d<=x/\x<=k->(decide (x<k)=true->d<=x/\x<C/\x.toNat<(fL l).length/\cC G/\(K true->1=1/\h.length=h.length/\H*8<=140737488355328/\H<=1000000000000/\d<=x/\x<(↑p.offers.length:Int)/\x.toNat<p.offers.length/\cu .i64 I/\J (c j (h++[x]) 3 true) (h++[x]).length I)/\(K false->J (c j h 3 true) h.length (lI p h)))/\(decide (x<k)=false->h.length=h.length/\h.length=h.length/\h.length=h.length/\(γN [e j h,a (lI p h)]).same (γN [e j (eI (vL (fL l))),a (cK (γb (oI p) (eI (vL (fL l)))))])/\m.same m/\n.same n/\o.same o/\True)) (by kernel_rfl) ?_;simp only[vcs];have lH:∀{x y:List Int},x=y->(bq.row (.i .i64) x 3 true).same (bq.row (.i .i64) y 3 true):=by rintro _ _ rfl;rfl
  have hcI:∀{x y:List Int} {v w:Int},x=y->v=w->(bq.cells [.ow 4 x.length 1,.si .i64 v] 40 2 false).same (bq.cells [.ow 4 y.length 1,.si .i64 w] 40 2 false):=by rintro _ _ _ _ rfl rfl;rfl
  refine⟨⟨⟨rfl,lH rfl,rfl⟩,by omega,by omega⟩,?_⟩;rintro i ⟨i0,i1⟩;have hb:=@UC p (vL (fL l)) i.toNat hc (by omega);refine⟨λhi=>?_,λhi=>?_⟩
  ·have hv:bj (fL l) i.toNat sF.dflt=bu (bj l i.toNat 0):=jw (by omega);have hq:=hz _ (dr (d:=0) (show i.toNat<l.length by omega));have ho:=(kO hc (i:=i) (by omega)).2.2.2;have hval:(bj p.offers i.toNat bp.off.dflt).value=(oI p i).value:=rfl;have hs:=@UB (vL (fL l)) i i0;rw[hv,hval];rw[kJ] at hs hb ⊢;simp only[jM,eD,uE];refine⟨i0,hi,by omega,dO hq (by omega),λh=>?_,λh=>?_⟩
   ·rw[if_pos h] at hs;rw[hs,UD];refine⟨?_,?_,i0,?_,?_,?_,?_,⟨lH rfl,hcI rfl rfl⟩,?_,?_⟩<;>omega
   ·rw[if_neg h] at hs;rw[hs];refine⟨?_,⟨lH rfl,hcI rfl rfl⟩,?_,?_⟩<;>omega
  ·rw[show i.toNat=(vL (fL l)).length by rw[kJ];omega];rfl;|some m=>
  refine bR (let a:=γi .i64;let b:=bq.cells;let c:=bq.row;let d:=(0:Int);let e:=Ω;let f:=γ1;let g:=γT;let t:=g 0 0 28;let v:=g 4 0 2;let w:=g 6 0 2;let E:=(↑(fL l).length:Int);let k:=(↑(fL l).length:Int);let y:=a k;let z:=γy .i64 0;let F:=a 0;let j:=bp.i .i64;let n:=b [a p.supply.a0,a p.supply.a1,a p.supply.a2,a p.supply.a3,a p.supply.a4,a p.supply.a5,a p.opn.a0,a p.opn.a1,a p.opn.a2,a p.opn.a3,a p.opn.a4,a p.opn.a5,a p.cls.a0,a p.cls.a1,a p.cls.a2,a p.cls.a3,a p.cls.a4,a p.cls.a5,e j p.classes,e bp.off p.offers,e j ch,a val,γw found,ζN (Fn.func 116) [] [g 1 0 1],f 2 k1 5,f 3 k2 1,a most,a err] 126 28 false;let o:=b [a m] 2 1 false;let q:=c bF prf 108 true;let r:=c j fx 3 true;let G:=SV.sc (Value.slice none 0 0);let A:=b [G,F] 40 2 false;let B:=ku (vL (fL l)) 0;(((t.same t/\v.same v/\w.same w/\(e sF (fL l)).same (e sF (fL l))/\(a E).same y/\z.same F/\True)/\n.same n/\o.same o/\q.same q/\r.same r/\(b [G,z] 40 2 false).same A/\(c j [] 3 true).same (c j B 3 true)/\(b [f 5 0 1,z] 40 2 false).same (b [f 5 B.length 1,a (lI p B)] 40 2 false)/\True)/\d<=d/\d<=k)/\∀(x:Int),let s:=x+(1:Int);let H:=a s;let C:=ku (vL (fL l)) s.toNat;let D:=bj (fL l) x.toNat sF.dflt;let I:=(D.fst,D.snd.fst,D.snd.snd);let h:=ku (vL (fL l)) x.toNat;let J:=h.length+1;let K:=lI p h+(bj p.offers x.toNat bp.off.dflt).value;let L:=λ(u:bq) (u_1:Nat) (u_2:Int) ↦cu .i64 s/\((t.same t/\v.same v/\w.same w/\(e sF (fL l)).same (e sF (fL l))/\y.same y/\H.same H/\True)/\n.same n/\o.same o/\q.same q/\r.same r/\A.same A/\u.same (c j C 3 true)/\(b [f 5 u_1 1,a u_2] 40 2 false).same (b [f 5 C.length 1,a (lI p C)] 40 2 false)/\True)/\(d<=s/\s<=k)/\(k - s).toNat<(k - x).toNat;let M:=λ(u:Bool) ↦decide (d<jL (bV I))=u;d<=x/\x<=k->(decide (x<k)=true->d<=x/\x<E/\x.toNat<(fL l).length/\cC I/\(M true->1=1/\h.length=h.length/\J*8<=140737488355328/\J<=1000000000000/\d<=x/\x<(↑p.offers.length:Int)/\x.toNat<p.offers.length/\cu .i64 K/\L (c j (h++[x]) 3 true) (h++[x]).length K)/\(M false->L (c j h 3 true) h.length (lI p h)))/\(decide (x<k)=false->h.length=h.length/\h.length=h.length/\h.length=h.length/\(γN [e j h,a (lI p h)]).same (γN [e j (eI (vL (fL l))),a (cK (γb (oI p) (eI (vL (fL l)))))])/\n.same n/\o.same o/\q.same q/\r.same r/\True)) (by kernel_rfl) ?_;simp only[vcs];have lH:∀{x y:List Int},x=y->(bq.row (.i .i64) x 3 true).same (bq.row (.i .i64) y 3 true):=by rintro _ _ rfl;rfl
  have hcI:∀{x y:List Int} {v w:Int},x=y->v=w->(bq.cells [.ow 5 x.length 1,.si .i64 v] 40 2 false).same (bq.cells [.ow 5 y.length 1,.si .i64 w] 40 2 false):=by rintro _ _ _ _ rfl rfl;rfl
  refine⟨⟨⟨rfl,lH rfl,rfl⟩,by omega,by omega⟩,?_⟩;rintro i ⟨i0,i1⟩;have hb:=@UC p (vL (fL l)) i.toNat hc (by omega);refine⟨λhi=>?_,λhi=>?_⟩
  ·have hv:bj (fL l) i.toNat sF.dflt=bu (bj l i.toNat 0):=jw (by omega);have hq:=hz _ (dr (d:=0) (show i.toNat<l.length by omega));have ho:=(kO hc (i:=i) (by omega)).2.2.2;have hval:(bj p.offers i.toNat bp.off.dflt).value=(oI p i).value:=rfl;have hs:=@UB (vL (fL l)) i i0;rw[hv,hval];rw[kJ] at hs hb ⊢;simp only[jM,eD,uE];refine⟨i0,hi,by omega,dO hq (by omega),λh=>?_,λh=>?_⟩
   ·rw[if_pos h] at hs;rw[hs,UD];refine⟨?_,?_,i0,?_,?_,?_,?_,⟨lH rfl,hcI rfl rfl⟩,?_,?_⟩<;>omega
   ·rw[if_neg h] at hs;rw[hs];refine⟨?_,⟨lH rfl,hcI rfl rfl⟩,?_,?_⟩<;>omega
  ·rw[show i.toNat=(vL (fL l)).length by rw[kJ];omega];rfl
def KU:bM:=⟨105,List bL,.one (dM sF),py,λx=> .bI [.si .i64 ((jP (vL x)).getD 0),.sb (jP (vL x)).isSome]⟩
def kx:Option (Int×Rat)->bL
 |none=>(false,([],[]))
 |some (_,q)=>bu q
def wF:Option (Int×Rat)->Int
 |none=>0
 |some (i,_)=>i
def ae3 (x:List bL):Nat->cF
 |6=> .inv Int (λi=>⟨[(4,.ptr 0 0 3),(6,.ptr 1 0 3),(7,.ptr 2 0 2),(8,.ptr 3 0 3),(17,.row sF x),(18,.si .i64 x.length),(19,.si .i64 i)],
   [.cells [.sb (bu (fU false 1 2)).1,.row (.i .u32) (bu (fU false 1 2)).2.1,.row (.i .u32) (bu (fU false 1 2)).2.2] 177 3 false,
    .cells [.sb (bu ((1:Int):Rat)).1,.row (.i .u32) (bu ((1:Int):Rat)).2.1,.row (.i .u32) (bu ((1:Int):Rat)).2.2] 177 3 false,
    .cells [.sb (jz (vL x) i.toNat).isSome,.si .i64 (wF (jz (vL x) i.toNat))] 237 2 false,
    .cells [.sb (kx (jz (vL x) i.toNat)).1,.row (.i .u32) (kx (jz (vL x) i.toNat)).2.1,.row (.i .u32) (kx (jz (vL x) i.toNat)).2.2] 177 3 false,.dead,.dead]⟩)
   (λs=>iS s 19) (λi=>0<=i/\i<=x.length) (λi=>(x.length - i).toNat) λ_ _=> .look
 |_=> .look
theorem ae4 {q:Rat} {k:Nat} (h:Sz k q):Sz k (mQ q):=by
 grind[mQ,AB]
theorem UE:mkRat 1 2=(1 / 2:Rat):=by
 grind[Rat.mkRat_eq_div]
theorem UF:Sz 1 (1 / 2:Rat):=by
 grind[UE,Az]
theorem KV {q:Rat} (h:Sz 1000 q):Sz 1002 (q - 1 / 2):=by
 rw[Rat.sub_eq_add_neg];exact AA h (j:=1) (AB UF)
theorem h447:Holds Tryz.prog KU:=by
 refine cH (L:=[KJ,ox,uA,sU,yi,AH,yh]) KU ae3 (by simpa using⟨h451,h94,h407,h99,h97,h95,h130⟩) ?_;rintro(x:List bL) ⟨l,hx,hl,hz⟩;refine bR (let a:=bq.cells;let b:=Ω;let c:=(0:Int);let d:=γi .i64;let e:=(9223372036854775807:Int);let f:=γw;let g:=(-9223372036854775808:Int);let h:=(1:Int);let j:=cu .i64;let k:=γT;let l:=δf false;let m:=(2:Int);let n:=bp.i .u32;let r:=k 0 0 3;let s:=k 1 0 3;let t:=k 2 0 2;let v:=k 3 0 3;let o:=(↑x.length:Int);let w:=d o;let R:=γy .i64 0;let y:=fU false h m;let z:=κ h;let F:=jz (vL x) 0;let B:=a [f (bu y).fst,b n (bu y).snd.fst,b n (bu y).snd.snd] 177 3 false;let C:=a [f (bu z).fst,b n (bu z).snd.fst,b n (bu z).snd.snd] 177 3 false;let S:=((bu z).fst,(bu z).snd.fst,(bu z).snd.snd);let T:=((bu y).fst,(bu y).snd.fst,(bu y).snd.snd);let U:=λ(u:Rat) ↦(a [f (bu u).fst,b n (bu u).snd.fst,b n (bu u).snd.snd] 177 3 false).same (a [f (bu u).fst,b n (bu u).snd.fst,b n (bu u).snd.snd] 177 3 false);((g<=h/\h<=e)/\c<m/\m<=e)/\(g<=h/\h<=e)/\0=0/\0=0/\(((r.same r/\s.same s/\t.same t/\v.same v/\(b sF x).same (b sF x)/\(d (↑x.length:Int)).same w/\R.same (d 0)/\True)/\U y/\U z/\(a [l,R] 237 2 false).same (a [f F.isSome,d (wF F)] 237 2 false)/\(a [l,b n [],b n []] 177 3 false).same (a [f (kx F).fst,b n (kx F).snd.fst,b n (kx F).snd.snd] 177 3 false)/\bq.dead.same bq.dead/\bq.dead.same bq.dead/\True)/\c<=c/\c<=o)/\∀(x_1:Int),let p:=x_1+h;let D:=d p;let G:=jz (vL x) p.toNat;let N:=a [f G.isSome,d (wF G)] 237 2 false;let A:=bj x x_1.toNat sF.dflt;let H:=(A.fst,A.snd.fst,A.snd.snd);let E:=bu (bV H - bV T);let I:=(E.fst,E.snd.fst,E.snd.snd);let V:=(bu (-bV I)).fst;let K:=(bu (-bV I)).snd;let O:=a [f (kx G).fst,b n (kx G).snd.fst,b n (kx G).snd.snd] 177 3 false;let q:=jz (vL x) x_1.toNat;let W:=d (wF q);let X:=(V,K.fst,K.snd);let L:=((kx q).fst,(kx q).snd.fst,(kx q).snd.snd);let M:=q.isSome==false&&(decide (wF q=c)&&true);let Y:=j p/\((r.same r/\s.same s/\t.same t/\v.same v/\(b sF x).same (b sF x)/\w.same w/\D.same D/\True)/\B.same B/\C.same C/\(a [δf true,d x_1] 237 2 false).same N/\(a [f V,b n K.fst,b n K.snd] 177 3 false).same O/\bq.dead.same bq.dead/\bq.dead.same bq.dead/\True)/\(c<=p/\p<=o)/\(o - p).toNat<(o - x_1).toNat;let Z:=j p/\((r.same r/\s.same s/\t.same t/\v.same v/\(b sF x).same (b sF x)/\w.same w/\D.same D/\True)/\B.same B/\C.same C/\(a [δf true,d x_1] 237 2 false).same N/\(a [f E.fst,b n E.snd.fst,b n E.snd.snd] 177 3 false).same O/\bq.dead.same bq.dead/\bq.dead.same bq.dead/\True)/\(c<=p/\p<=o)/\(o - p).toNat<(o - x_1).toNat;let J:=j p/\((r.same r/\s.same s/\t.same t/\v.same v/\(b sF x).same (b sF x)/\w.same w/\D.same D/\True)/\B.same B/\C.same C/\(a [f q.isSome,W] 237 2 false).same N/\(a [f (kx q).fst,b n (kx q).snd.fst,b n (kx q).snd.snd] 177 3 false).same O/\bq.dead.same bq.dead/\bq.dead.same bq.dead/\True)/\(c<=p/\p<=o)/\(o - p).toNat<(o - x_1).toNat;let P:=cC I;let Q:=cC H;let a0:=λ(u:Bool) ↦decide (iP (bV X) (bV L)<c)=u;let a1:=λ(u:Bool) ↦decide (iP (bV I) (bV L)<c)=u;let a2:=λ(u:Bool) ↦decide (jL (bV I)<c)=u;let a3:=λ(u:Bool) ↦decide (c<=iP (bV H) (bV S))=u;let a4:=λ(u:Bool) ↦decide (jL (bV H)<=c)=u;let a5:=λ(u:Bool) ↦(!okF H)=u;c<=x_1/\x_1<=o->(decide (x_1<o)=true->c<=x_1/\x_1<(↑x.length:Int)/\x_1.toNat<x.length/\((bA A.snd.fst/\bA A.snd.snd)/\γc A.snd.fst<=10000000/\γc A.snd.snd<=10000000)/\(a5 true->J)/\(a5 false->Q/\(a4 true->J)/\(a4 false->(Q/\cC S)/\(a3 true->J)/\(a3 false->(Q/\cC T)/\P/\(a2 true->P/\(M=true->Y)/\(M=false->(cC X/\cC L)/\(a0 true->Y)/\(a0 false->J)))/\(a2 false->(M=true->Z)/\(M=false->(P/\cC L)/\(a1 true->Z)/\(a1 false->J)))))))/\(decide (x_1<o)=false->(SV.bI [W,f q.isSome]).same (SV.bI [d ((jP (vL x)).getD c),f (jP (vL x)).isSome]))) (by kernel_rfl) ?_;simp only[vcs];subst hx;rw[fF] at hl;have hh:fU false 1 2=1 / 2:=UE;simp only[kJ,fF,hh];have hbr:∀{b c:Option (Int×Rat)},b=c->(bq.cells [.sb b.isSome,.si .i64 (wF b)] 237 2 false).same (bq.cells [.sb c.isSome,.si .i64 (wF c)] 237 2 false):=by rintro _ _ rfl;rfl
 have hbd:∀{b c:Option (Int×Rat)},b=c->(bq.cells [.sb (kx b).1,.row (.i .u32) (kx b).2.1,.row (.i .u32) (kx b).2.2] 177 3 false).same (bq.cells [.sb (kx c).1,.row (.i .u32) (kx c).2.1,.row (.i .u32) (kx c).2.2] 177 3 false):=by rintro _ _ rfl;rfl
 have f1:cC (bu (κ 1)):=dO (k:=1) (by unfold Sz;decide) (by omega);have f2:cC (bu (1 / 2)):=dO UF (by omega);refine⟨⟨⟨by omega,by omega⟩,by omega,by omega⟩,⟨by omega,by omega⟩,⟨⟨rfl,rfl⟩,by omega,by omega⟩,?_⟩;rintro i ⟨i0,i1⟩;refine⟨λhi=>?_,λhi=>?_⟩
 ·have hv:bj (fL l) i.toNat sF.dflt=bu (bj l i.toNat 0):=jw (by omega);have hq:=hz _ (dr (d:=0) (show i.toNat<l.length by omega));have hs:jz l (i+1).toNat=if 0<bj l i.toNat 0/\bj l i.toNat 0<1 then(match jz l i.toNat with
   |none=>some (i,mQ (bj l i.toNat 0 - 1 / 2))
   |some (j,d)=>if mQ (bj l i.toNat 0 - 1 / 2)<d then some (i,mQ (bj l i.toNat 0 - 1 / 2)) else some (j,d)) else jz l i.toNat:=by
   rw[show(i+1).toNat=i.toNat+1 by omega];conv=>lhs;unfold jz
   rw[εB i0];cases jz l i.toNat<;>rfl
  have hbs:∀j d,jz l i.toNat=some (j,d)->cC (bu d):=λj d h=>by
   obtain⟨h1,h2,h3⟩:=Kx h;rw[h3];exact dO (ae4 (KV (hz _ (dr (by omega))))) (by omega)
  rw[hv,hs];generalize bj l i.toNat 0=q at*;generalize jz l i.toNat=B at*;simp only[jM,eD];obtain⟨_,⟨u1,u2,u3⟩,⟨u4,u5,u6⟩⟩:=l9 q;obtain⟨m1,m2⟩:=pn hq;have hok:=EV q;have fq:cC (bu q):=dO hq (by omega);have fd:cC (bu (q - 1 / 2)):=dO (KV hq) (by omega);have fn:cC (bu (-(q - 1 / 2))):=dO (AB (KV hq)) (by omega);refine⟨i0,hi,by omega,⟨⟨u1,u4⟩,by omega,by omega⟩,λh=>absurd hok (by rw[show okF (bu q)=false from h];simp),λ_=>⟨fq,λh1=>?_,λh1=>⟨⟨fq,f1⟩,λh2=>?_,λh2=>?_⟩⟩⟩
  ·rw[if_neg (λh=>by have:=uE.2 h.1;omega)];exact⟨by omega,⟨hbr rfl,hbd rfl⟩,by omega⟩
  ·rw[if_neg (λh=>by have:=tf.2 h.2;have e:iP q (κ 1)=iP q 1:=rfl;omega)];exact⟨by omega,⟨hbr rfl,hbd rfl⟩,by omega⟩
  ·have hp:0<q/\q<1:=⟨uE.1 (by omega),tf.1 (by have e:iP q (κ 1)=iP q 1:=rfl;omega)⟩;rw[if_pos hp];refine⟨⟨fq,f2⟩,fd,λh3=>?_,λh3=>?_⟩
   ·have ha:mQ (q - 1 / 2)= -(q - 1 / 2):=by unfold mQ;rw[if_pos (AS.1 h3)]
    rw[ha];cases B with
    |none=>exact⟨fd,λ_=>⟨by omega,⟨rfl,rfl⟩,by omega⟩,λh=>absurd h (by decide)⟩;|some b=>
     obtain⟨j,d⟩:=b;dsimp only;refine⟨fd,λh=>absurd h.1 ζh,λ_=>⟨⟨fn,hbs j d rfl⟩,λh5=>?_,λh5=>?_⟩⟩
     ·rw[if_pos (tf.1 (by rw[<-eD d];exact h5))];exact⟨by omega,⟨rfl,rfl⟩,by omega⟩
     ·rw[if_neg (λh=>h5 (by rw[<-eD d] at h;exact tf.2 h))];exact⟨by omega,⟨hbr rfl,hbd rfl⟩,by omega⟩
   ·have ha:mQ (q - 1 / 2)=q - 1 / 2:=by unfold mQ;rw[if_neg (λh=>h3 (AS.2 h))]
    rw[ha];cases B with
    |none=>exact⟨λ_=>⟨by omega,⟨rfl,rfl⟩,by omega⟩,λh=>absurd h (by decide)⟩;|some b=>
     obtain⟨j,d⟩:=b;dsimp only;refine⟨λh=>absurd h.1 ζh,λ_=>⟨⟨fd,hbs j d rfl⟩,λh5=>?_,λh5=>?_⟩⟩
     ·rw[if_pos (tf.1 (by rw[<-eD d];exact h5))];exact⟨by omega,⟨rfl,rfl⟩,by omega⟩
     ·rw[if_neg (λh=>h5 (by rw[<-eD d] at h;exact tf.2 h))];exact⟨by omega,⟨hbr rfl,hbd rfl⟩,by omega⟩
 ·rw[show i.toNat=l.length by omega];unfold jP;cases jz l l.length<;>exact⟨rfl,rfl⟩
noncomputable def wG (n:Nat):dH:=ET 72 Int (.one (eA .i64)) (λx a=>fu x/\(0<=a/\a<x.prf.length)/\nF x.fx<n) (λ_ _=> .bI []) λx a=>x.upd (dG x.p (cz x.en) x.most (nF x.fx) x.s a x.fx)
noncomputable def EX (n:Nat):dH:=ET 106 (Int×Int×Int) (.cons (eA .i64) (.cons (eA .i64) (.one (eA .i64)))) (λx a=>fu x/\(0<=a.1/\a.1<x.prf.length)/\(0<=a.2.1/\a.2.1<x.fx.length)/\bj x.fx a.2.1.toNat 0=0/\(a.2.2=1\/a.2.2= -1)/\nF (x.fx.set a.2.1.toNat a.2.2)<n) (λ_ _=> .bI []) λx a=>x.upd (dG x.p (cz x.en) x.most (nF (x.fx.set a.2.1.toNat a.2.2)) x.s a.1 (x.fx.set a.2.1.toNat a.2.2))
theorem ae5 {L:List bM} {W:List dH} (c:dH) (F:fA) (Λ:c.α->Nat->cF) (i:∀c∈W,ec Tryz.prog c) (e:∀c∈L,Holds Tryz.prog c)
  
  (h:∀a,c.dom a->Vc (Ee (og L (gK W) rA rB jK) (Λ a) F (c.put a) (c.st a) λv s=>v.same (c.res a)/\kE s (c.out a))) (j:jK c.f=some F:=by kernel_rfl) (b:∀a,(c.put a).length=F.params:=by intro _;kernel_rfl) (d:oh c.f W=none:=by kernel_rfl):ec Tryz.prog c:=
 λa g=>acd c sL i e j b a d (h a g).out
theorem fu.set {x:dJ} (h:fu x) {k:Nat} {d:Int} (a:d=1\/d= -1):fu ⟨x.p,x.ch,x.val,x.found,x.en,x.k1,x.k2,x.most,x.err,x.prf,x.fx.set k d⟩:=
 ⟨⟨h.f.c,by rw[Φ];exact h.f.l,Uk h.f.r (by omega)⟩,h.k1,by rw[Φ];exact h.k2,h.v0,h.v1,h.m0,h.m1,h.l,h.c⟩
theorem ae6 {f:List Int} {k:Nat} {d:Int} (b:k<f.length) (a:bj f k 0=0):(f.set k d).set k 0=f:=by
 rw[cQ b] at a;rw[List.set_set,<-a,List.set_getElem_self]
theorem ae7 {n:Nat} (hV:ec Tryz.prog (wG n)):ec Tryz.prog (EX n):=by
 refine ae5 (L:=[]) (W:=[wG n]) (EX n) (fG 106) lk (by simpa using hV) (by simp) ?_;rintro⟨⟨p,ch,val,found,en,k1,k2,most,err,prf,fx⟩,a,k,d⟩ ⟨hok,ha,hk,h0,hd,hn⟩;simp only at hok ha hk h0 hd hn;have e2:k2=fx.length:=hok.k2;have hb:=ae6 (d:=d) (show k.toNat<fx.length by omega) h0;have hr:∀{x y:List Int},x=y->(bq.row (.i .i64) x 3 true).same (bq.row (.i .i64) y 3 true):=by rintro _ _ rfl;rfl
 cases en with
 |none=>
  have hs:=hok.set (k:=k.toNat) hd;refine bR (let b:=γi .i64;let c:=(0:Int);let e:=bq.row;let f:=Ω;let g:=fx.set k.toNat d;let j:=bp.i .i64;let h:=dG p (cz none) most (nF g) (cZ.mk ch val found prf err) a g;let l:=bq.cells [b p.supply.a0,b p.supply.a1,b p.supply.a2,b p.supply.a3,b p.supply.a4,b p.supply.a5,b p.opn.a0,b p.opn.a1,b p.opn.a2,b p.opn.a3,b p.opn.a4,b p.opn.a5,b p.cls.a0,b p.cls.a1,b p.cls.a2,b p.cls.a3,b p.cls.a4,b p.cls.a5,f j p.classes,f bp.off p.offers,f j h.ch,b h.val,γw h.found,ζN (Fn.func 70) [] [],γ1 1 h.prf.length 5,γ1 2 k2 1,b most,b h.err] 126 28 false;let m:=e bF h.prf 108 true;k2=fx.length/\c<=k/\k<(↑fx.length:Int)/\k2=fx.length/\k.toNat<fx.length/\(fu (dJ.mk p ch val found none k1 k2 most err prf g)/\(c<=a/\a<(↑prf.length:Int))/\nF g<n)/\k2=g.length/\c<=k/\k<(↑g.length:Int)/\k2=g.length/\k.toNat<g.length/\(SV.bI []).same (SV.bI [])/\l.same l/\m.same m/\(e j (g.set k.toNat c) 3 true).same (e j fx 3 true)/\True) (by kernel_rfl) ?_;conv=>zeta
  rw[Φ];exact⟨e2,hk.1,hk.2,e2,by omega,⟨hs,ha,hn⟩,e2,hk.1,hk.2,e2,by omega,rfl,rfl,rfl,hr hb,trivial⟩;|some m=>
  have hs:=hok.set (k:=k.toNat) hd;refine bR (let b:=γi .i64;let c:=(0:Int);let e:=bq.row;let f:=Ω;let g:=fx.set k.toNat d;let j:=bp.i .i64;let h:=dG p (cz (some m)) most (nF g) (cZ.mk ch val found prf err) a g;let l:=bq.cells [b p.supply.a0,b p.supply.a1,b p.supply.a2,b p.supply.a3,b p.supply.a4,b p.supply.a5,b p.opn.a0,b p.opn.a1,b p.opn.a2,b p.opn.a3,b p.opn.a4,b p.opn.a5,b p.cls.a0,b p.cls.a1,b p.cls.a2,b p.cls.a3,b p.cls.a4,b p.cls.a5,f j p.classes,f bp.off p.offers,f j h.ch,b h.val,γw h.found,ζN (Fn.func 116) [] [γT 1 0 1],γ1 2 h.prf.length 5,γ1 3 k2 1,b most,b h.err] 126 28 false;let o:=bq.cells [b m] 2 1 false;let q:=e bF h.prf 108 true;k2=fx.length/\c<=k/\k<(↑fx.length:Int)/\k2=fx.length/\k.toNat<fx.length/\(fu (dJ.mk p ch val found (some m) k1 k2 most err prf g)/\(c<=a/\a<(↑prf.length:Int))/\nF g<n)/\k2=g.length/\c<=k/\k<(↑g.length:Int)/\k2=g.length/\k.toNat<g.length/\(SV.bI []).same (SV.bI [])/\l.same l/\o.same o/\q.same q/\(e j (g.set k.toNat c) 3 true).same (e j fx 3 true)/\True) (by kernel_rfl) ?_;conv=>zeta
  rw[Φ];exact⟨e2,hk.1,hk.2,e2,by omega,⟨hs,ha,hn⟩,e2,hk.1,hk.2,e2,by omega,rfl,rfl,rfl,rfl,hr hb,trivial⟩
theorem UG {p:bn} {en:Int->Bool} {most:Int} {f:List Int} (j:eL p f) {c b:cZ->Int->List Int->cZ} {s:cZ} {a:Int}
  (h:∀k d:Int,(0<=k/\k<f.length)->bj f k.toNat 0=0->(d=1\/d= -1)->∀s a,c s a (f.set k.toNat d)=b s a (f.set k.toNat d)):fJ p en most c s a f=fJ p en most b s a f:=by
 unfold fJ;split;·rfl
 split;·rfl
 rename_i o;have l:hJ p f=true:=by simp_all
 split;·rfl
 split;·rfl
 rename_i k n;split;·rfl
 obtain⟨e,i,g⟩:=tc n;rw[rM] at e;have m:bj f k.toNat 0=0:=s9 (j.ok l) j.r (by omega) i g;simp_all
theorem Bn {p:bn} {en:Int->Bool} {most:Int} {f:List Int} (e:eL p f) {s:cZ} {a:Int}:dG p en most (nF f) s a f=fJ p en most (λs a g=>dG p en most (nF g) s a g) s a f:=by
 have j:∀k d:Int,(0<=k/\k<f.length)->bj f k.toNat 0=0->(d=1\/d= -1)->nF f=nF (f.set k.toNat d)+1:=λk d c b i=>mq c b (by omega);cases h:nF f with
 |zero=>exact UG e λk d c b i=>by grind;|succ n=>
  refine UG e λk d c b i s a=>?_;grind
section
variable {p:bn} {en:Int->Bool} {most:Int} {f:List Int} {s O:cZ} {a k:Int}
theorem Bo (b:eL p f) (h:s.err≠0\/s.found=true):dG p en most (nF f) s a f=s:=by
 simp_all[Bn,fJ]
theorem UH (c:eL p f) (h:¬(s.err≠0\/s.found=true)) (b:hJ p f=false):dG p en most (nF f) s a f={s with prf:=s.prf.set a.toNat EO}:=by
 simp_all[Bn,fJ]
theorem yS (c:eL p f) (h:¬(s.err≠0\/s.found=true)) (b:hJ p f=true) (d:dx p en s f=O) (e:jg p f<((O.val+1:Int):Rat)):dG p en most (nF f) s a f={O with prf:=O.prf.set a.toNat (qQ p f)}:=by
 simp_all[Bn,fJ]
theorem pW (b:eL p f) (h:¬(s.err≠0\/s.found=true)) (d:hJ p f=true) (c:dx p en s f=O) (g:¬jg p f<((O.val+1:Int):Rat)) (e:jP (dE p f)=none\/most<(O.prf.length:Int)+2):dG p en most (nF f) s a f={O with err:=12}:=by
 subst c;rw[Bn b];unfold fJ;grind
theorem yT (d:eL p f) (h:¬(s.err≠0\/s.found=true)) (b:hJ p f=true) (g:dx p en s f=O) (i:¬jg p f<((O.val+1:Int):Rat)) (c:jP (dE p f)=some k) (e:¬most<(O.prf.length:Int)+2):
  dG p en most (nF f) s a f=dG p en most (nF (f.set k.toNat (-1))) (dG p en most (nF (f.set k.toNat 1)) (gB O a k) (O.prf.length+1) (f.set k.toNat 1)) O.prf.length (f.set k.toNat (-1)):=by
 simp_all[Bn,fJ,if_neg]
end
theorem fu.UI {x:dJ} (h:fu x):fu (x.upd (dx x.p (cz x.en) x.s x.fx)):=by
 obtain⟨d,i,b,a,g⟩:=@ER x.p (cz x.en) x.s x.fx;obtain⟨m,j,k⟩:=Ul h.f;have b:x.val<=(dx x.p (cz x.en) x.s x.fx).val:=b;have a:(dx x.p (cz x.en) x.s x.fx).val=x.val\/(dx x.p (cz x.en) x.s x.fx).val=(px x.p x.fx).value:=a;have n:=h.v0;have o:=h.v1;refine⟨h.f,rfl,h.k2,?_,?_,h.m0,h.m1,?_,?_⟩
 ·show 0<=(dx x.p (cz x.en) x.s x.fx).val;omega
 ·show(dx x.p (cz x.en) x.s x.fx).val<=_;omega
 ·show(dx x.p (cz x.en) x.s x.fx).prf.length<=_;rw[d];exact h.l
 ·show(dx x.p (cz x.en) x.s x.fx).ch.length<=_;rcases g with e|e;·rw[e];exact h.c
  ·rw[e];omega
theorem fu.vis {x:dJ} (h:fu x) {f:List Int} (i:eL x.p f) {n:Nat} {a:Int}:fu (x.upd (dG x.p (cz x.en) x.most n x.s a f)):=by
 obtain⟨m,g,b,d,k,q⟩:=@rN x.p (cz x.en) x.most n x.s a f i;have b:x.val<=(dG x.p (cz x.en) x.most n x.s a f).val:=b;have d:(dG x.p (cz x.en) x.most n x.s a f).val=x.val\/(dG x.p (cz x.en) x.most n x.s a f).val<=160000000:=d;have r:=h.v0;have t:=h.v1;have o:=h.m1;have j:=h.l;refine⟨h.f,rfl,h.k2,?_,?_,h.m0,h.m1,?_,?_⟩
 ·show 0<=(dG x.p (cz x.en) x.most n x.s a f).val;omega
 ·show(dG x.p (cz x.en) x.most n x.s a f).val<=_;omega
 ·show(dG x.p (cz x.en) x.most n x.s a f).prf.length<=_;rcases g with e|e;·omega
  ·rw[e];exact j
 ·show(dG x.p (cz x.en) x.most n x.s a f).ch.length<=_;rcases k with e|e;·rw[e];exact h.c
  ·omega
theorem fu.spl {x:dJ} (h:fu x) (b:¬x.most<(x.prf.length:Int)+2) {k:Nat} {l:List dj} (a:k=l.length) (d:l.length=x.prf.length+2):fu ⟨x.p,x.ch,x.val,x.found,x.en,k,x.k2,x.most,x.err,l,x.fx⟩:=
 ⟨h.f,a,h.k2,h.v0,h.v1,h.m0,h.m1,by have:=h.m1;grind,h.c⟩
structure jA where
 left:bC
 opn:bC
 chosen:List Int
 value:Int
 won:List Bool
def nd (c w a:Int):Int:=if c=0\/c≠a then w else 0
def yU (p:bn) (x:Off):bC:=⟨nd p.cls.a0 x.want.a0 (lT p x),nd p.cls.a1 x.want.a1 (lT p x),nd p.cls.a2 x.want.a2 (lT p x),nd p.cls.a3 x.want.a3 (lT p x),nd p.cls.a4 x.want.a4 (lT p x),nd p.cls.a5 x.want.a5 (lT p x)⟩
def bC.pos (b:bC):Bool:=decide (0<=b.a0)&&decide (0<=b.a1)&&decide (0<=b.a2)&&decide (0<=b.a3)&&decide (0<=b.a4)&&decide (0<=b.a5)
def gC (p:bn) (u:jA) (x:Off):bC:=(u.opn.sub (yU p x)).meet (u.left.sub x.want)
def jj (p:bn) (u:jA) (x:Off):Bool:=!(bj u.won x.bX.toNat false)&&((u.left.sub x.want).pos&&(gC p u x).pos)
def fh (p:bn) (u:jA) (i:Int):jA:=⟨u.left.sub (oI p i).want,gC p u (oI p i),u.chosen++[i],u.value+(oI p i).value,u.won.set (oI p i).bX.toNat true⟩
def gR (p:bn) (u:jA) (k:Nat):bn:=⟨u.left,u.opn,p.cls,p.classes,(p.offers.drop k).filter (jj p u)⟩
theorem KW {x:bC}:dV [x]=x:=by simp[dV]
theorem six {P:Nat->Prop} (f:P 0) (a:P 1) (b:P 2) (d:P 3) (e:P 4) (c:P 5):∀k,k<6->P k:=by
 grind
theorem Bq {a b:bC}:∀k,k<6->(a.sub b).at k=a.at k - b.at k:=six rfl rfl rfl rfl rfl rfl
theorem KX {a b:bC}:∀k,k<6->(a.add b).at k=a.at k+b.at k:=six rfl rfl rfl rfl rfl rfl
theorem UJ {a b:bC}:∀k,k<6->(a.meet b).at k=min (a.at k) (b.at k):=six rfl rfl rfl rfl rfl rfl
theorem KY {p:bn} {x:Off}:∀k,k<6->(yU p x).at k=nd (p.cls.at k) (x.want.at k) (lT p x):=six rfl rfl rfl rfl rfl rfl
theorem EY {p:bn} {x:Off}:∀k,k<6->(fj p x).at k=if p.cls.at k=0\/p.cls.at k=lT p x then 0 else x.want.at k:=by
 refine six ?_ ?_ ?_ ?_ ?_ ?_<;>(show oc _ _ _ _ _=_;unfold oc;simp only[show((0:Int)<6)=True by simp,show((1:Int)<6)=True by simp,show((2:Int)<6)=True by simp,show((3:Int)<6)=True by simp,show((4:Int)<6)=True by simp,show((5:Int)<6)=True by simp,true_and];rfl)
theorem UK {b:bC}:b.pos=true↔∀k,k<6->0<=b.at k:=by
 unfold bC.pos;simp only[θ,decide_eq_true_eq];constructor
 ·rintro⟨⟨⟨⟨⟨g,a⟩,c⟩,e⟩,f⟩,d⟩;exact six g a c e f d
 ·intro h;exact⟨⟨⟨⟨⟨h 0 (by omega),h 1 (by omega)⟩,h 2 (by omega)⟩,h 3 (by omega)⟩,h 4 (by omega)⟩,h 5 (by omega)⟩
theorem yV {b:bC}:b.ok=true↔∀k,k<6->0<=b.at k/\b.at k<=4:=by
 rw[bC.ja];constructor
 ·rintro⟨g,a,c,e,f,d⟩;exact six g a c e f d
 ·intro h;exact⟨h 0 (by omega),h 1 (by omega),h 2 (by omega),h 3 (by omega),h 4 (by omega),h 5 (by omega)⟩
theorem KZ {p:bn} {k:Nat} (a:k<6):∀L:List Off,(dV (L.map (yU p))).at k=if p.cls.at k=0 then(dV (L.map Off.want)).at k else(dV (L.map (fj p))).at k:=by
 intro L;rw[oo,oo,oo];induction L with
 |nil=>simp;|cons x L b=>
  simp only[π,List.sum_cons];rw[b,KY k a,EY k a];unfold nd;omega
theorem aii {p:bn} {k:Nat} (c:k<6) (a:p.cls.at k=0):∀L:List Off,(dV (L.map (fj p))).at k=0:=by
 intro L;rw[oo];induction L with
 |nil=>simp;|cons x L b=>
  simp_all[EY]
theorem EZ {p:bn} (c:Good p) {k:Nat} (d:k<6):∀{L:List Off},(∀x∈L,x∈p.offers)->0<=(dV (L.map Off.want)).at k/\(dV (L.map (fj p))).at k<=(dV (L.map Off.want)).at k/\0<=(dV (L.map (fj p))).at k:=by
 intro L;rw[oo,oo];induction L with
 |nil=>intro _;simp;|cons x L b=>
  intro h;have e:=b λy a=>h y (List.mem_cons_of_mem _ a);have f:=(yV.1 (c.2.2.2.2 x (h x (List.mem_cons_self ..))).2.2.1 k d);grind[EY]
theorem wH {p:bn} (c:bz p=0) {k:Nat} (b:k<6):0<=p.cls.at k/\p.cls.at k<=4/\0<=p.opn.at k/\p.opn.at k<=p.supply.at k/\(p.cls.at k=0->p.opn.at k=p.supply.at k):=by
 have h:=om.1 ((vR (vS c).1).2.1 k b);exact⟨h.1,h.2.1,h.2.2.1,h.2.2.2.1,λd=>by rcases h.2.2.2.2 with a|a;exact absurd d a;exact a⟩
theorem K0 {a b:bC}:a.le b=true↔∀k,k<6->a.at k<=b.at k:=⟨λh k _=>Im h k,KC⟩
structure rP (p:bn) (u:jA):Prop where
 f:rO p u.chosen
 v:u.value=cK (cY p u.chosen)
 l:∀k,k<6->u.left.at k=p.supply.at k - (dV ((cY p u.chosen).map Off.want)).at k
 o:∀k,k<6->u.opn.at k=min (p.opn.at k - (dV ((cY p u.chosen).map (yU p))).at k) (u.left.at k)
 wl:u.won.length=8
 w:∀b:Int,0<=b->b<8->bj u.won b.toNat false=decide (b∈(cY p u.chosen).map Off.bX)
theorem K1 {p:bn} {t:List Int} (h:ny 0 p.offers.length t):∀x∈cY p t,x∈p.offers:=λx a=>by
 obtain⟨i,b,rfl⟩:=Ψ.1 a;have:=h.2 i b;grind[dr]
section
variable {p:bn} {u:jA}
theorem K2 {L M:List Off}:jq p (L++M)↔((L.map Off.bX++M.map Off.bX).Nodup/\(∀k,k<6->(dV (L.map Off.want)).at k+(dV (M.map Off.want)).at k<=p.supply.at k)/\∀k,k<6->(dV (L.map (fj p))).at k+(dV (M.map (fj p))).at k<=p.opn.at k):=by
 simp_all[jq,Af,K0,KX]
theorem E0 (h:bz p=0) (c:rP p u) {x:Off} (m:x∈p.offers):jj p u x=true↔jq p (cY p u.chosen++[x]):=by
 have b:=dR h;have g:=b.2.2.2.2 x m;have r:=b.1;have q:=K1 c.f.1;rw[K2];unfold jj;rw[θ,θ,UK,UK,δe,c.w _ g.1 (by omega),decide_eq_false_iff_not];simp only[π,γr,KW];have d:∀k,k<6->((0<=(u.left.sub x.want).at k/\0<=(gC p u x).at k)↔((dV ((cY p u.chosen).map Off.want)).at k+x.want.at k<=p.supply.at k/\(dV ((cY p u.chosen).map (fj p))).at k+(fj p x).at k<=p.opn.at k)):=λk a=>by
  have A:=c.l k a;have t:=c.o k a;have v:=KZ (p:=p) a (cY p u.chosen);have s:=@KY p x k a;have n:=@EY p x k a;have B:=wH h a;have y:=yV.1 g.2.2.1 k a;have j:=EZ b a q;unfold gC;rw[UJ k a,Bq k a,Bq k a,s,n];unfold nd;grind
 constructor
 ·rintro⟨z,e,i⟩;refine⟨?_,λk a=>((d k a).1 ⟨e k a,i k a⟩).1,λk a=>((d k a).1 ⟨e k a,i k a⟩).2⟩;rw[γs];refine⟨c.f.2.1,by simp,?_⟩;simp_all
 grind
theorem rP.next (n:bz p=0) (c:rP p u) {i:Int} (D:∀j∈u.chosen,j<i) (C:0<=i/\i<p.offers.length) (s:jj p u (oI p i)=true):rP p (fh p u i):=by
 have m:oI p i∈p.offers:=dr (by omega);have B:=(E0 n c m).1 s;have g:=dR n;have q:=g.2.2.2.2 _ m;have z:=g.1;have e:cY p (u.chosen++[i])=cY p u.chosen++[oI p i]:=by unfold cY;rw[γa];rfl
 refine⟨⟨⟨?_,?_⟩,?_⟩,?_,?_,?_,?_,?_⟩
 ·show(u.chosen++[i]).Pairwise _;rw[List.pairwise_append];exact⟨c.f.1.1,List.pairwise_singleton _ _,λa A b q=>by simp_all⟩
 ·intro j t;rcases List.mem_append.1 t with h|h;·exact c.f.1.2 j h
  simp_all
 ·show jq p (cY p (u.chosen++[i]));simp_all
 ·show u.value+_=cK (cY p (u.chosen++[i]));rw[e,pP,c.v];simp[cK]
 ·intro k d;show(u.left.sub _).at k=_ - (dV ((cY p (u.chosen++[i])).map Off.want)).at k;rw[e,γa,Af,KX k d,Bq k d,c.l k d];grind[KW]
 ·intro k d;show(gC p u (oI p i)).at k=min (_ - (dV ((cY p (u.chosen++[i])).map (yU p))).at k) ((u.left.sub (oI p i).want).at k);unfold gC;rw[e,γa,Af,KX k d,UJ k d,Bq k d,Bq k d,c.o k d];grind[KW,KY,yV,nd]
 ·show(u.won.set _ true).length=8;rw[Φ];exact c.wl
 ·intro b y x;show bj (u.won.set (oI p i).bX.toNat true) b.toNat false=decide (b∈(cY p (u.chosen++[i])).map Off.bX);have r:=c.wl;rw[e,γa,iR (by omega)];simp only[π,γr];by_cases h:b=(oI p i).bX;·simp_all
  ·rw[if_neg (by omega),c.w b y x];simp_all
theorem K3 (s:bz p=0) (g:rP p u) {k:Nat} {M:List Off} (r:∀x∈M,x∈p.offers) (y:∀x∈M,jj p u x=true):jq (gR p u k) M↔jq p (cY p u.chosen++M):=by
 have d:=dR s;have C:=d.1;have A:=K1 g.f.1;rw[K2];unfold jq;rw[K0,K0];have D:∀x:Off,fj (gR p u k) x=fj p x:=λx=>rfl;have n:M.map (fj (gR p u k))=M.map (fj p):=rfl;rw[n];have h:∀j,j<6->(((dV (M.map Off.want)).at j<=(gR p u k).supply.at j/\(dV (M.map (fj p))).at j<=(gR p u k).opn.at j)↔((dV ((cY p u.chosen).map Off.want)).at j+(dV (M.map Off.want)).at j<=p.supply.at j/\(dV ((cY p u.chosen).map (fj p))).at j+(dV (M.map (fj p))).at j<=p.opn.at j)):=λj c=>by
  have H:=g.l j c;have F:=g.o j c;have G:=KZ (p:=p) c (cY p u.chosen);have J:=wH s c;have I:=EZ d c A;have K:=EZ d c r;have L:(gR p u k).supply.at j=u.left.at j:=rfl;have E:(gR p u k).opn.at j=u.opn.at j:=rfl;omega
 constructor
 ·rintro⟨z,v,q⟩;refine⟨?_,λj c=>((h j c).1 ⟨v j c,q j c⟩).1,λj c=>((h j c).1 ⟨v j c,q j c⟩).2⟩;rw[γs];refine⟨g.f.2.1,z,?_⟩;intro a B b i e;subst e;obtain⟨x,t,rfl⟩:=Ψ.1 i;have m:=y x t;have i:=d.2.2.2.2 x (r x t);unfold jj at m;rw[θ,δe,g.w _ i.1 (by omega),decide_eq_false_iff_not] at m;exact m.1 B
 grind
theorem UL {q:bn} (d:iO q=0) (h:∀x∈q.offers,kh q x=0) (b:(q.offers.map Off.key).Nodup):bz q=0:=by
 have a:∀(l:List Off) (s:List nU),(∀x∈l,kh q x=0)->(l.map Off.key).Nodup->(∀x∈l,x.key∉s)->jb q s l=0:=by
  intro l;induction l with
  |nil=>intro s _ _ _;rfl;|cons x l c=>
   simp_all[jb]
 simp_all[bz]
theorem E1 (e:bz p=0) (g:rP p u) {k:Nat}:bz (gR p u k)=0:=by
 have v:=dR e;have C:=K1 g.f.1;have r:=(K2 (p:=p) (L:=cY p u.chosen) (M:=[])).1 (by rw[γ7];exact g.f.2);obtain⟨d,q⟩:=vS e;obtain⟨J,H,P,R,N⟩:=vR d;have s:∀x∈(gR p u k).offers,x∈p.offers/\jj p u x=true:=λx n=>by
  obtain⟨c,w⟩:=γt.1 n;grind
 have F:(dV (([]:List Off).map Off.want))=bC.zero:=rfl;have h:∀j,j<6->0<=u.left.at j/\u.left.at j<=4:=λj a=>by
  have B:=g.l j a;have O:=EZ v a C;have w:=r.2.1 j a;have t:(dV (([]:List Off).map Off.want)).at j=0:=by rw[oo];rfl
  grind[yV]
 have i:∀j,j<6->0<=u.opn.at j/\u.opn.at j<=u.left.at j/\(p.cls.at j=0->u.opn.at j=u.left.at j):=λj a=>by
  have B:=g.l j a;have I:=g.o j a;have D:=KZ (p:=p) a (cY p u.chosen);have m:=wH e a;have w:=r.2.1 j a;have E:=r.2.2 j a;have t:(dV (([]:List Off).map Off.want)).at j=0:=by rw[oo];rfl
  grind
 refine UL ?_ (λx n=>?_) ?_
 ·have Q:(gR p u k).supply.ok=true:=yV.2 h;have G:Dl (gR p u k)=true:=Ab.2 λj a=>om.2 (by
   have m:=wH e a;have b:=i j a;refine⟨m.1,m.2.1,b.1,b.2.1,?_⟩;by_cases z:p.cls.at j=0;·exact .inr (b.2.2 z)
   ·exact .inl z);have K:(gR p u k).offers.length<=p.offers.length:=by
   have c:=δc (jj p u) (p.offers.drop k);rw[List.length_drop] at c;show((p.offers.drop k).filter (jj p u)).length<=_;omega
  have y:(gR p u k).classes=p.classes:=rfl;unfold iO;grind
 ·obtain⟨c,w⟩:=s x n;have b:=q x c;unfold kh at b ⊢;have y:(gR p u k).classes=p.classes:=rfl;rw[y];split at b;·omega
  ·rename_i t;rw[if_neg t];split at b;·cases b
   ·rename_i A;rw[if_neg A];grind[K3,E0,QF]
 ·have c:=(DC (by
   have:=e;unfold bz at this;rw[if_neg (by rw[d];simp)] at this;exact this)).1;exact((List.filter_sublist.trans (List.drop_sublist k _)).map Off.key).nodup c
end
end Go.Vi
