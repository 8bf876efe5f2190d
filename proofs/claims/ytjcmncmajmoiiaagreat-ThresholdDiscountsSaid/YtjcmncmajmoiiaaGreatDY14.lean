/-
  Contracts: completion, Branch, visits of nodes.
  Conditions: none.
-/
import Derived.Test.YtjcmncmajmoiiaaGreatDY13
import Derived.Test.YtjcmncmajmoiiaaGreatDY06
import Derived.Test.YtjcmncmajmoiiaaGreatDY07
import Derived.Test.YtjcmncmajmoiiaaGreatDY10
import Derived.Test.YtjcmncmajmoiiaaGreatDY09
import Derived.Test.YtjcmncmajmoiiaaGreatDY11
import Derived.Test.YtjcmncmajmoiiaaGreatDY12
import Derived.Test.YtjcmncmajmoiiaaGreatDY08
set_option maxRecDepth 100000
set_option maxHeartbeats 4000000
set_option linter.all false
open Bool renaming false_ne_true->ζL,and_eq_true->ζ,not_eq_true'->δf
open Classical renaming not_not->ω
open Go.Vi.SV renaming si->Ξ,row->Ψ,ow->γ8,ptr->γV,il->γr,sb->γI,agg->γG,bl->δw
open Int renaming toNat_of_nonneg->εB,ofNat_lt->εY,toNat_natCast->γt
open IntCast renaming intCast->γa
open List renaming length_filter_le->γF,mem_map->γg,mem_filter->γh,length_map->γB,map->γj,length->γn,length_set->γe,replicate->ε,length_replicate->γS,getElem_of_mem->δc,length_append->ν,map_cons->ι,sum_cons->εr,mem_cons_of_mem->δa,mem_cons_self->εK,map_append->γb,map_nil->γp,nodup_append->γz,mem_singleton->γw,pairwise_append->γY,mem_append->Γ,mem_append_right->δX,append_nil->γZ,mem_of_mem_drop->γK,length_drop->γJ,filter_sublist->δl,drop_sublist->ζo,pairwise_cons->γx,append_assoc->γf,cons_append->γE,mem_cons->γq,filter_cons_of_pos->δt,filter_cons_of_neg->δu,filter_eq_nil_iff->δS,filter_eq_self->δm
open List.Perm renaming append_left->εX
open List.cons renaming injEq->π
open Nat renaming lt_of_lt_of_le->γu,pow_le_pow_right->δv
open Option renaming isSome_eq_false_iff->γ1,isNone_iff_eq_none->γR,isSome_iff_exists->γo,getD_some->γ6
open Option.some renaming injEq->γ
open Rat renaming not_lt->ζn
namespace Go.Vi
open Go.Proofs.YtjcmncmajmoiiaaGreat.Ir
open Go.Proofs
def L9:cZ:=Fp 119 (List bP) (.one (dV sF)) (λx a=>fe x/\pE a/\a.length=x.p.offers.length) (λx a=>lV.put ⟨eA (vL a),bV ((eA (vL a)).map (oI x.p))⟩) λx _=>x
def kn (x:List Rat) (k:Nat):List Int:=(dS k).filter λi=>decide (0<bj x i.toNat 0)
def lH (p:bp) (l:List Int):Int:=bV (l.map (oI p))
def afM (x:dG) (a:List bP):Nat->cC
 |3=>match x.en with
  |none=> .inv Int (λi=>⟨[(0,.ptr 0 0 28),(4,.ptr 3 0 2),(5,.ptr 5 0 2),(10,.row sF a),(11,.si .i64 a.length),(12,.si .i64 i)],
    x.yT++[.cells [.sc (.slice none 0 0),.si .i64 0] 41 2 false,.row (.i .i64) (kn (vL a) i.toNat) 3 true,.cells [.ow 4 (kn (vL a) i.toNat).length 1,.si .i64 (lH x.p (kn (vL a) i.toNat))] 41 2 false]⟩)
    (λs=>iS s 12) (λi=>0<=i/\i<=a.length) (λi=>(a.length - i).toNat) λ_ _=> .look
  |some m=> .inv Int (λi=>⟨[(0,.ptr 0 0 28),(4,.ptr 4 0 2),(5,.ptr 6 0 2),(10,.row sF a),(11,.si .i64 a.length),(12,.si .i64 i)],
    x.yU m++[.cells [.sc (.slice none 0 0),.si .i64 0] 41 2 false,.row (.i .i64) (kn (vL a) i.toNat) 3 true,.cells [.ow 5 (kn (vL a) i.toNat).length 1,.si .i64 (lH x.p (kn (vL a) i.toNat))] 41 2 false]⟩)
    (λs=>iS s 12) (λi=>0<=i/\i<=a.length) (λi=>(a.length - i).toNat) λ_ _=> .look
 |_=> .look
theorem Vt {x:List Rat} {i:Int} (i0:0<=i):kn x (i+1).toNat=if 0<bj x i.toNat 0 then kn x i.toNat++[i] else kn x i.toNat:=by
 unfold kn;rw[show(i+1).toNat=i.toNat+1 by omega,yG,List.filter_append,εB i0];grind
theorem Vu {p:bp} {x:List Rat} {k:Nat} (a:bC p=0) (g:k<=p.offers.length):(kn x k).length<=160/\0<=lH p (kn x k)/\lH p (kn x k)<=160000000:=by
 have e:(kn x k).length<=k:=by
  have:=γF (λi:Int=>decide (0<bj x i.toNat 0)) (dS k);rw[jy] at this;exact this
 have c:=sP (dn a) (l:=(kn x k).map (oI p)) λy b=>by
  obtain⟨i,d,rfl⟩:=γg.1 b;have:=rW.1 (γh.1 d).1;exact cO (by omega)
 rw[γB] at c;have f:=(dn a).2.1;grind[lH]
theorem Vv {p:bp} {l:List Int} {i:Int}:lH p (l++[i])=lH p l+(oI p i).value:=by
 simp_all[lH,o8,bV]
theorem h446:dJ Tryz.prog L9:=by
 refine Fq (L:=[uE]) (W:=[]) L9 (λa=>afM a.1 a.2) (by simp) (by simpa using h99) ?_;rintro⟨⟨p,ch,val,found,en,k1,k2,most,err,prf,fx⟩,a⟩ ⟨hok,⟨l,hx,hla,hz⟩,hl⟩;simp only at hok hx hla hl;subst hx;have hc:bC p=0:=hok.f.c;have h160:=(dn hc).2.1;have hll:=@fN l;have hl:(fL l).length=p.offers.length:=hl;cases en with
 |none=>
  refine bO (let a:=Ξ .i64;let b:=bq.cells;let c:=bq.row;let d:=(0:Int);let e:=Ψ;let f:=γ8;let g:=γV;let r:=g 0 0 28;let s:=g 3 0 2;let t:=g 5 0 2;let C:=(↑(fL l).length:Int);let k:=(↑(fL l).length:Int);let v:=a k;let w:=γr .i64 0;let D:=a 0;let j:=bn.i .i64;let m:=b [a p.supply.a0,a p.supply.a1,a p.supply.a2,a p.supply.a3,a p.supply.a4,a p.supply.a5,a p.opn.a0,a p.opn.a1,a p.opn.a2,a p.opn.a3,a p.opn.a4,a p.opn.a5,a p.cls.a0,a p.cls.a1,a p.cls.a2,a p.cls.a3,a p.cls.a4,a p.cls.a5,e j p.classes,e bn.off p.offers,e j ch,a val,γI found,SV.fn (Fn.func 82) [] [],f 1 k1 5,f 2 k2 1,a most,a err] 119 28 false;let n:=c ek prf 93 true;let o:=c j fx 3 true;let E:=SV.sc (Value.slice none 0 0);let y:=b [E,D] 41 2 false;let z:=kn (vL (fL l)) 0;(((r.same r/\s.same s/\t.same t/\(e sF (fL l)).same (e sF (fL l))/\(a C).same v/\w.same D/\True)/\m.same m/\n.same n/\o.same o/\(b [E,w] 41 2 false).same y/\(c j [] 3 true).same (c j z 3 true)/\(b [f 4 0 1,w] 41 2 false).same (b [f 4 z.length 1,a (lH p z)] 41 2 false)/\True)/\d<=d/\d<=k)/\∀(x:Int),let q:=x+(1:Int);let F:=a q;let A:=kn (vL (fL l)) q.toNat;let B:=bj (fL l) x.toNat sF.dflt;let G:=(B.fst,B.snd.fst,B.snd.snd);let h:=kn (vL (fL l)) x.toNat;let H:=h.length+1;let I:=lH p h+(bj p.offers x.toNat bn.off.dflt).value;let J:=λ(u:bq) (u_1:Nat) (u_2:Int) ↦bW .i64 q/\((r.same r/\s.same s/\t.same t/\(e sF (fL l)).same (e sF (fL l))/\v.same v/\F.same F/\True)/\m.same m/\n.same n/\o.same o/\y.same y/\u.same (c j A 3 true)/\(b [f 4 u_1 1,a u_2] 41 2 false).same (b [f 4 A.length 1,a (lH p A)] 41 2 false)/\True)/\(d<=q/\q<=k)/\(k - q).toNat<(k - x).toNat;let K:=λ(u:Bool) ↦decide (d<kK (ck G))=u;d<=x/\x<=k->(decide (x<k)=true->d<=x/\x<C/\x.toNat<(fL l).length/\de G/\(K true->1=1/\h.length=h.length/\H*8<=140737488355328/\H<=1000000000000/\d<=x/\x<(↑p.offers.length:Int)/\x.toNat<p.offers.length/\bW .i64 I/\J (c j (h++[x]) 3 true) (h++[x]).length I)/\(K false->J (c j h 3 true) h.length (lH p h)))/\(decide (x<k)=false->h.length=h.length/\h.length=h.length/\h.length=h.length/\(γG [e j h,a (lH p h)]).same (γG [e j (eA (vL (fL l))),a (bV (γj (oI p) (eA (vL (fL l)))))])/\m.same m/\n.same n/\o.same o/\True)) (by kernel_rfl) ?_;simp only[vcs];have lG:∀{x y:List Int},x=y->(bq.row (.i .i64) x 3 true).same (bq.row (.i .i64) y 3 true):=by rintro _ _ rfl;rfl
  have hcI:∀{x y:List Int} {v w:Int},x=y->v=w->(bq.cells [.ow 4 x.length 1,.si .i64 v] 41 2 false).same (bq.cells [.ow 4 y.length 1,.si .i64 w] 41 2 false):=by rintro _ _ _ _ rfl rfl;rfl
  refine⟨⟨⟨rfl,lG rfl,rfl⟩,by omega,by omega⟩,?_⟩;rintro i ⟨i0,i1⟩;have hb:=@Vu p (vL (fL l)) i.toNat hc (by omega);refine⟨λhi=>?_,λhi=>?_⟩
  ·have hv:bj (fL l) i.toNat sF.dflt=bu (bj l i.toNat 0):=js (by omega);have hq:=hz _ (cO (d:=0) (show i.toNat<l.length by omega));have ho:=(pB hc (i:=i) (by omega)).2.2.2;have hval:(bj p.offers i.toNat bn.off.dflt).value=(oI p i).value:=rfl;have hs:=@Vt (vL (fL l)) i i0;rw[hv,hval];rw[mh] at hs hb ⊢;simp only[kN,fa,yy];refine⟨i0,hi,by omega,ei hq (by omega),λh=>?_,λh=>?_⟩
   ·rw[if_pos h] at hs;rw[hs,Vv];refine⟨?_,?_,i0,?_,?_,?_,?_,⟨lG rfl,hcI rfl rfl⟩,?_,?_⟩<;>omega
   ·rw[if_neg h] at hs;rw[hs];refine⟨?_,⟨lG rfl,hcI rfl rfl⟩,?_,?_⟩<;>omega
  ·rw[show i.toNat=(vL (fL l)).length by rw[mh];omega];rfl;|some m=>
  refine bO (let a:=Ξ .i64;let b:=bq.cells;let c:=bq.row;let d:=(0:Int);let e:=Ψ;let f:=γ8;let g:=γV;let t:=g 0 0 28;let v:=g 4 0 2;let w:=g 6 0 2;let E:=(↑(fL l).length:Int);let k:=(↑(fL l).length:Int);let y:=a k;let z:=γr .i64 0;let F:=a 0;let j:=bn.i .i64;let n:=b [a p.supply.a0,a p.supply.a1,a p.supply.a2,a p.supply.a3,a p.supply.a4,a p.supply.a5,a p.opn.a0,a p.opn.a1,a p.opn.a2,a p.opn.a3,a p.opn.a4,a p.opn.a5,a p.cls.a0,a p.cls.a1,a p.cls.a2,a p.cls.a3,a p.cls.a4,a p.cls.a5,e j p.classes,e bn.off p.offers,e j ch,a val,γI found,SV.fn (Fn.func 132) [] [g 1 0 1],f 2 k1 5,f 3 k2 1,a most,a err] 119 28 false;let o:=b [a m] 2 1 false;let q:=c ek prf 93 true;let r:=c j fx 3 true;let G:=SV.sc (Value.slice none 0 0);let A:=b [G,F] 41 2 false;let B:=kn (vL (fL l)) 0;(((t.same t/\v.same v/\w.same w/\(e sF (fL l)).same (e sF (fL l))/\(a E).same y/\z.same F/\True)/\n.same n/\o.same o/\q.same q/\r.same r/\(b [G,z] 41 2 false).same A/\(c j [] 3 true).same (c j B 3 true)/\(b [f 5 0 1,z] 41 2 false).same (b [f 5 B.length 1,a (lH p B)] 41 2 false)/\True)/\d<=d/\d<=k)/\∀(x:Int),let s:=x+(1:Int);let H:=a s;let C:=kn (vL (fL l)) s.toNat;let D:=bj (fL l) x.toNat sF.dflt;let I:=(D.fst,D.snd.fst,D.snd.snd);let h:=kn (vL (fL l)) x.toNat;let J:=h.length+1;let K:=lH p h+(bj p.offers x.toNat bn.off.dflt).value;let L:=λ(u:bq) (u_1:Nat) (u_2:Int) ↦bW .i64 s/\((t.same t/\v.same v/\w.same w/\(e sF (fL l)).same (e sF (fL l))/\y.same y/\H.same H/\True)/\n.same n/\o.same o/\q.same q/\r.same r/\A.same A/\u.same (c j C 3 true)/\(b [f 5 u_1 1,a u_2] 41 2 false).same (b [f 5 C.length 1,a (lH p C)] 41 2 false)/\True)/\(d<=s/\s<=k)/\(k - s).toNat<(k - x).toNat;let M:=λ(u:Bool) ↦decide (d<kK (ck I))=u;d<=x/\x<=k->(decide (x<k)=true->d<=x/\x<E/\x.toNat<(fL l).length/\de I/\(M true->1=1/\h.length=h.length/\J*8<=140737488355328/\J<=1000000000000/\d<=x/\x<(↑p.offers.length:Int)/\x.toNat<p.offers.length/\bW .i64 K/\L (c j (h++[x]) 3 true) (h++[x]).length K)/\(M false->L (c j h 3 true) h.length (lH p h)))/\(decide (x<k)=false->h.length=h.length/\h.length=h.length/\h.length=h.length/\(γG [e j h,a (lH p h)]).same (γG [e j (eA (vL (fL l))),a (bV (γj (oI p) (eA (vL (fL l)))))])/\n.same n/\o.same o/\q.same q/\r.same r/\True)) (by kernel_rfl) ?_;simp only[vcs];have lG:∀{x y:List Int},x=y->(bq.row (.i .i64) x 3 true).same (bq.row (.i .i64) y 3 true):=by rintro _ _ rfl;rfl
  have hcI:∀{x y:List Int} {v w:Int},x=y->v=w->(bq.cells [.ow 5 x.length 1,.si .i64 v] 41 2 false).same (bq.cells [.ow 5 y.length 1,.si .i64 w] 41 2 false):=by rintro _ _ _ _ rfl rfl;rfl
  refine⟨⟨⟨rfl,lG rfl,rfl⟩,by omega,by omega⟩,?_⟩;rintro i ⟨i0,i1⟩;have hb:=@Vu p (vL (fL l)) i.toNat hc (by omega);refine⟨λhi=>?_,λhi=>?_⟩
  ·have hv:bj (fL l) i.toNat sF.dflt=bu (bj l i.toNat 0):=js (by omega);have hq:=hz _ (cO (d:=0) (show i.toNat<l.length by omega));have ho:=(pB hc (i:=i) (by omega)).2.2.2;have hval:(bj p.offers i.toNat bn.off.dflt).value=(oI p i).value:=rfl;have hs:=@Vt (vL (fL l)) i i0;rw[hv,hval];rw[mh] at hs hb ⊢;simp only[kN,fa,yy];refine⟨i0,hi,by omega,ei hq (by omega),λh=>?_,λh=>?_⟩
   ·rw[if_pos h] at hs;rw[hs,Vv];refine⟨?_,?_,i0,?_,?_,?_,?_,⟨lG rfl,hcI rfl rfl⟩,?_,?_⟩<;>omega
   ·rw[if_neg h] at hs;rw[hs];refine⟨?_,⟨lG rfl,hcI rfl rfl⟩,?_,?_⟩<;>omega
  ·rw[show i.toNat=(vL (fL l)).length by rw[mh];omega];rfl
def Mc:bL:=⟨120,List bP,.one (dV sF),pE,λx=> .bH [.si .i64 ((jA (vL x)).getD 0),.sb (jA (vL x)).isSome]⟩
def ko:Option (Int×Rat)->bP
 |none=>(false,([],[]))
 |some (_,q)=>bu q
def wC:Option (Int×Rat)->Int
 |none=>0
 |some (i,_)=>i
def afN (x:List bP):Nat->cC
 |6=> .inv Int (λi=>⟨[(4,.ptr 0 0 3),(6,.ptr 1 0 3),(7,.ptr 2 0 2),(8,.ptr 3 0 3),(17,.row sF x),(18,.si .i64 x.length),(19,.si .i64 i)],
   [.cells [.sb (bu (fH false 1 2)).1,.row (.i .u32) (bu (fH false 1 2)).2.1,.row (.i .u32) (bu (fH false 1 2)).2.2] 157 3 false,
    .cells [.sb (bu ((1:Int):Rat)).1,.row (.i .u32) (bu ((1:Int):Rat)).2.1,.row (.i .u32) (bu ((1:Int):Rat)).2.2] 157 3 false,
    .cells [.sb (je (vL x) i.toNat).isSome,.si .i64 (wC (je (vL x) i.toNat))] 237 2 false,
    .cells [.sb (ko (je (vL x) i.toNat)).1,.row (.i .u32) (ko (je (vL x) i.toNat)).2.1,.row (.i .u32) (ko (je (vL x) i.toNat)).2.2] 157 3 false,.dead,.dead]⟩)
   (λs=>iS s 19) (λi=>0<=i/\i<=x.length) (λi=>(x.length - i).toNat) λ_ _=> .look
 |_=> .look
theorem afO {q:Rat} {k:Nat} (h:Sz k q):Sz k (mW q):=by
 grind[mW,D9]
theorem Vw:mkRat 1 2=(1 / 2:Rat):=by
 grind[Rat.mkRat_eq_div]
theorem Vx:Sz 1 (1 / 2:Rat):=by
 grind[Vw,As]
theorem Me {q:Rat} (h:Sz 1000 q):Sz 1002 (q - 1 / 2):=by
 rw[Rat.sub_eq_add_neg];exact SG h (j:=1) (D9 Vx)
theorem h447:Holds Tryz.prog Mc:=by
 refine cG (L:=[LV,qW,yo,uE,Aw,Eh,yn]) Mc afN (by simpa using⟨h451,h94,h407,h99,h97,h95,h130⟩) ?_;rintro(x:List bP) ⟨l,hx,hl,hz⟩;refine bO (let a:=bq.cells;let b:=Ψ;let c:=(0:Int);let d:=Ξ .i64;let e:=(9223372036854775807:Int);let f:=γI;let g:=(-9223372036854775808:Int);let h:=(1:Int);let j:=bW .i64;let k:=γV;let l:=δw false;let m:=(2:Int);let n:=bn.i .u32;let r:=k 0 0 3;let s:=k 1 0 3;let t:=k 2 0 2;let v:=k 3 0 3;let o:=(↑x.length:Int);let w:=d o;let R:=γr .i64 0;let y:=fH false h m;let z:=γa h;let F:=je (vL x) 0;let B:=a [f (bu y).fst,b n (bu y).snd.fst,b n (bu y).snd.snd] 157 3 false;let C:=a [f (bu z).fst,b n (bu z).snd.fst,b n (bu z).snd.snd] 157 3 false;let S:=((bu z).fst,(bu z).snd.fst,(bu z).snd.snd);let T:=((bu y).fst,(bu y).snd.fst,(bu y).snd.snd);let U:=λ(u:Rat) ↦(a [f (bu u).fst,b n (bu u).snd.fst,b n (bu u).snd.snd] 157 3 false).same (a [f (bu u).fst,b n (bu u).snd.fst,b n (bu u).snd.snd] 157 3 false);((g<=h/\h<=e)/\c<m/\m<=e)/\(g<=h/\h<=e)/\0=0/\0=0/\(((r.same r/\s.same s/\t.same t/\v.same v/\(b sF x).same (b sF x)/\(d (↑x.length:Int)).same w/\R.same (d 0)/\True)/\U y/\U z/\(a [l,R] 237 2 false).same (a [f F.isSome,d (wC F)] 237 2 false)/\(a [l,b n [],b n []] 157 3 false).same (a [f (ko F).fst,b n (ko F).snd.fst,b n (ko F).snd.snd] 157 3 false)/\bq.dead.same bq.dead/\bq.dead.same bq.dead/\True)/\c<=c/\c<=o)/\∀(x_1:Int),let p:=x_1+h;let D:=d p;let G:=je (vL x) p.toNat;let N:=a [f G.isSome,d (wC G)] 237 2 false;let A:=bj x x_1.toNat sF.dflt;let H:=(A.fst,A.snd.fst,A.snd.snd);let E:=bu (ck H - ck T);let I:=(E.fst,E.snd.fst,E.snd.snd);let V:=(bu (-ck I)).fst;let K:=(bu (-ck I)).snd;let O:=a [f (ko G).fst,b n (ko G).snd.fst,b n (ko G).snd.snd] 157 3 false;let q:=je (vL x) x_1.toNat;let W:=d (wC q);let X:=(V,K.fst,K.snd);let L:=((ko q).fst,(ko q).snd.fst,(ko q).snd.snd);let M:=q.isSome==false&&(decide (wC q=c)&&true);let Y:=j p/\((r.same r/\s.same s/\t.same t/\v.same v/\(b sF x).same (b sF x)/\w.same w/\D.same D/\True)/\B.same B/\C.same C/\(a [δw true,d x_1] 237 2 false).same N/\(a [f V,b n K.fst,b n K.snd] 157 3 false).same O/\bq.dead.same bq.dead/\bq.dead.same bq.dead/\True)/\(c<=p/\p<=o)/\(o - p).toNat<(o - x_1).toNat;let Z:=j p/\((r.same r/\s.same s/\t.same t/\v.same v/\(b sF x).same (b sF x)/\w.same w/\D.same D/\True)/\B.same B/\C.same C/\(a [δw true,d x_1] 237 2 false).same N/\(a [f E.fst,b n E.snd.fst,b n E.snd.snd] 157 3 false).same O/\bq.dead.same bq.dead/\bq.dead.same bq.dead/\True)/\(c<=p/\p<=o)/\(o - p).toNat<(o - x_1).toNat;let J:=j p/\((r.same r/\s.same s/\t.same t/\v.same v/\(b sF x).same (b sF x)/\w.same w/\D.same D/\True)/\B.same B/\C.same C/\(a [f q.isSome,W] 237 2 false).same N/\(a [f (ko q).fst,b n (ko q).snd.fst,b n (ko q).snd.snd] 157 3 false).same O/\bq.dead.same bq.dead/\bq.dead.same bq.dead/\True)/\(c<=p/\p<=o)/\(o - p).toNat<(o - x_1).toNat;let P:=de I;let Q:=de H;let a0:=λ(u:Bool) ↦decide (jc (ck X) (ck L)<c)=u;let a1:=λ(u:Bool) ↦decide (jc (ck I) (ck L)<c)=u;let a2:=λ(u:Bool) ↦decide (kK (ck I)<c)=u;let a3:=λ(u:Bool) ↦decide (c<=jc (ck H) (ck S))=u;let a4:=λ(u:Bool) ↦decide (kK (ck H)<=c)=u;let a5:=λ(u:Bool) ↦(!okF H)=u;c<=x_1/\x_1<=o->(decide (x_1<o)=true->c<=x_1/\x_1<(↑x.length:Int)/\x_1.toNat<x.length/\((bA A.snd.fst/\bA A.snd.snd)/\γn A.snd.fst<=1000000/\γn A.snd.snd<=1000000)/\(a5 true->J)/\(a5 false->Q/\(a4 true->J)/\(a4 false->(Q/\de S)/\(a3 true->J)/\(a3 false->(Q/\de T)/\P/\(a2 true->P/\(M=true->Y)/\(M=false->(de X/\de L)/\(a0 true->Y)/\(a0 false->J)))/\(a2 false->(M=true->Z)/\(M=false->(P/\de L)/\(a1 true->Z)/\(a1 false->J)))))))/\(decide (x_1<o)=false->(SV.bH [W,f q.isSome]).same (SV.bH [d ((jA (vL x)).getD c),f (jA (vL x)).isSome]))) (by kernel_rfl) ?_;simp only[vcs];subst hx;rw[fN] at hl;have hh:fH false 1 2=1 / 2:=Vw;simp only[mh,fN,hh];have hbr:∀{b c:Option (Int×Rat)},b=c->(bq.cells [.sb b.isSome,.si .i64 (wC b)] 237 2 false).same (bq.cells [.sb c.isSome,.si .i64 (wC c)] 237 2 false):=by rintro _ _ rfl;rfl
 have hbd:∀{b c:Option (Int×Rat)},b=c->(bq.cells [.sb (ko b).1,.row (.i .u32) (ko b).2.1,.row (.i .u32) (ko b).2.2] 157 3 false).same (bq.cells [.sb (ko c).1,.row (.i .u32) (ko c).2.1,.row (.i .u32) (ko c).2.2] 157 3 false):=by rintro _ _ rfl;rfl
 have f1:de (bu (γa 1)):=ei (k:=1) (by unfold Sz;decide) (by omega);have f2:de (bu (1 / 2)):=ei Vx (by omega);refine⟨⟨⟨by omega,by omega⟩,by omega,by omega⟩,⟨by omega,by omega⟩,⟨⟨rfl,rfl⟩,by omega,by omega⟩,?_⟩;rintro i ⟨i0,i1⟩;refine⟨λhi=>?_,λhi=>?_⟩
 ·have hv:bj (fL l) i.toNat sF.dflt=bu (bj l i.toNat 0):=js (by omega);have hq:=hz _ (cO (d:=0) (show i.toNat<l.length by omega));have hs:je l (i+1).toNat=if 0<bj l i.toNat 0/\bj l i.toNat 0<1 then(match je l i.toNat with
   |none=>some (i,mW (bj l i.toNat 0 - 1 / 2))
   |some (j,d)=>if mW (bj l i.toNat 0 - 1 / 2)<d then some (i,mW (bj l i.toNat 0 - 1 / 2)) else some (j,d)) else je l i.toNat:=by
   rw[show(i+1).toNat=i.toNat+1 by omega];conv=>lhs;unfold je
   rw[εB i0];cases je l i.toNat<;>rfl
  have hbs:∀j d,je l i.toNat=some (j,d)->de (bu d):=λj d h=>by
   obtain⟨h1,h2,h3⟩:=LP h;rw[h3];exact ei (afO (Me (hz _ (cO (by omega))))) (by omega)
  rw[hv,hs];generalize bj l i.toNat 0=q at*;generalize je l i.toNat=B at*;simp only[kN,fa];obtain⟨_,⟨u1,u2,u3⟩,⟨u4,u5,u6⟩⟩:=nG q;obtain⟨m1,m2⟩:=qX hq;have hok:=Vp q;have fq:de (bu q):=ei hq (by omega);have fd:de (bu (q - 1 / 2)):=ei (Me hq) (by omega);have fn:de (bu (-(q - 1 / 2))):=ei (D9 (Me hq)) (by omega);refine⟨i0,hi,by omega,⟨⟨u1,u4⟩,by omega,by omega⟩,λh=>absurd hok (by rw[show okF (bu q)=false from h];simp),λ_=>⟨fq,λh1=>?_,λh1=>⟨⟨fq,f1⟩,λh2=>?_,λh2=>?_⟩⟩⟩
  ·rw[if_neg (λh=>by have:=yy.2 h.1;omega)];exact⟨by omega,⟨hbr rfl,hbd rfl⟩,by omega⟩
  ·rw[if_neg (λh=>by have:=uO.2 h.2;have e:jc q (γa 1)=jc q 1:=rfl;omega)];exact⟨by omega,⟨hbr rfl,hbd rfl⟩,by omega⟩
  ·have hp:0<q/\q<1:=⟨yy.1 (by omega),uO.1 (by have e:jc q (γa 1)=jc q 1:=rfl;omega)⟩;rw[if_pos hp];refine⟨⟨fq,f2⟩,fd,λh3=>?_,λh3=>?_⟩
   ·have ha:mW (q - 1 / 2)= -(q - 1 / 2):=by unfold mW;rw[if_pos (Ko.1 h3)]
    rw[ha];cases B with
    |none=>exact⟨fd,λ_=>⟨by omega,⟨rfl,rfl⟩,by omega⟩,λh=>absurd h (by decide)⟩;|some b=>
     obtain⟨j,d⟩:=b;dsimp only;refine⟨fd,λh=>absurd h.1 ζL,λ_=>⟨⟨fn,hbs j d rfl⟩,λh5=>?_,λh5=>?_⟩⟩
     ·rw[if_pos (uO.1 (by rw[<-fa d];exact h5))];exact⟨by omega,⟨rfl,rfl⟩,by omega⟩
     ·rw[if_neg (λh=>h5 (by rw[<-fa d] at h;exact uO.2 h))];exact⟨by omega,⟨hbr rfl,hbd rfl⟩,by omega⟩
   ·have ha:mW (q - 1 / 2)=q - 1 / 2:=by unfold mW;rw[if_neg (λh=>h3 (Ko.2 h))]
    rw[ha];cases B with
    |none=>exact⟨λ_=>⟨by omega,⟨rfl,rfl⟩,by omega⟩,λh=>absurd h (by decide)⟩;|some b=>
     obtain⟨j,d⟩:=b;dsimp only;refine⟨λh=>absurd h.1 ζL,λ_=>⟨⟨fd,hbs j d rfl⟩,λh5=>?_,λh5=>?_⟩⟩
     ·rw[if_pos (uO.1 (by rw[<-fa d];exact h5))];exact⟨by omega,⟨rfl,rfl⟩,by omega⟩
     ·rw[if_neg (λh=>h5 (by rw[<-fa d] at h;exact uO.2 h))];exact⟨by omega,⟨hbr rfl,hbd rfl⟩,by omega⟩
 ·rw[show i.toNat=l.length by omega];unfold jA;cases je l l.length<;>exact⟨rfl,rfl⟩
noncomputable def wE (n:Nat):cZ:=Fp 84 Int (.one (dX .i64)) (λx a=>fe x/\(0<=a/\a<x.prf.length)/\nF x.fx<n) (λ_ _=> .bH []) λx a=>x.upd (dE x.p (cy x.en) x.most (nF x.fx) x.s a x.fx)
noncomputable def Fz (n:Nat):cZ:=Fp 121 (Int×Int×Int) (.cons (dX .i64) (.cons (dX .i64) (.one (dX .i64)))) (λx a=>fe x/\(0<=a.1/\a.1<x.prf.length)/\(0<=a.2.1/\a.2.1<x.fx.length)/\bj x.fx a.2.1.toNat 0=0/\(a.2.2=1\/a.2.2= -1)/\nF (x.fx.set a.2.1.toNat a.2.2)<n) (λ_ _=> .bH []) λx a=>x.upd (dE x.p (cy x.en) x.most (nF (x.fx.set a.2.1.toNat a.2.2)) x.s a.1 (x.fx.set a.2.1.toNat a.2.2))
theorem ag6 {L:List bL} {W:List cZ} (c:cZ) (Λ:c.α->Nat->cC) (i:∀c∈W,dJ Tryz.prog c) (e:∀c∈L,Holds Tryz.prog c)
  
  (h:∀a,c.dom a->Vc (Bl (lT L (fQ W) oY oZ gy) (Λ a) (fG c.f) (c.put a) (c.st a) λv s=>v.same (c.res a)/\jk s (c.out a))) (j:(gy c.f).isSome=true:=by kernel_rfl) (b:∀a,(c.put a).length=(fG c.f).params:=by intro _;kernel_rfl) (d:kY c.f W=none:=by kernel_rfl):dJ Tryz.prog c:=
 λa g=>Vo c pU i e (vJ j) b a d (h a g).out
theorem afP {L:List bL} {W:List cZ} (c:cZ) (F:fh) (Λ:c.α->Nat->cC) (i:∀c∈W,dJ Tryz.prog c) (e:∀c∈L,Holds Tryz.prog c)
  
  (h:∀a,c.dom a->Vc (Bl (lT L (fQ W) oY oZ gy) (Λ a) F (c.put a) (c.st a) λv s=>v.same (c.res a)/\jk s (c.out a))) (j:gy c.f=some F:=by kernel_rfl) (b:∀a,(c.put a).length=F.params:=by intro _;kernel_rfl) (d:kY c.f W=none:=by kernel_rfl):dJ Tryz.prog c:=
 λa g=>Vo c pU i e j b a d (h a g).out
theorem fe.set {x:dG} (h:fe x) {k:Nat} {d:Int} (a:d=1\/d= -1):fe ⟨x.p,x.ch,x.val,x.found,x.en,x.k1,x.k2,x.most,x.err,x.prf,x.fx.set k d⟩:=
 ⟨⟨h.f.c,by rw[γe];exact h.f.l,Vg h.f.r (by omega)⟩,h.k1,by rw[γe];exact h.k2,h.v0,h.v1,h.m0,h.m1,h.l,h.c⟩
theorem afQ {f:List Int} {k:Nat} {d:Int} (b:k<f.length) (a:bj f k 0=0):(f.set k d).set k 0=f:=by
 rw[cQ b] at a;rw[List.set_set,<-a,List.set_getElem_self]
theorem afR {n:Nat} (hV:dJ Tryz.prog (wE n)):dJ Tryz.prog (Fz n):=by
 refine afP (L:=[]) (W:=[wE n]) (Fz n) (fG 121) lk (by simpa using hV) (by simp) ?_;rintro⟨⟨p,ch,val,found,en,k1,k2,most,err,prf,fx⟩,a,k,d⟩ ⟨hok,ha,hk,h0,hd,hn⟩;simp only at hok ha hk h0 hd hn;have e2:k2=fx.length:=hok.k2;have hb:=afQ (d:=d) (show k.toNat<fx.length by omega) h0;have hr:∀{x y:List Int},x=y->(bq.row (.i .i64) x 3 true).same (bq.row (.i .i64) y 3 true):=by rintro _ _ rfl;rfl
 cases en with
 |none=>
  have hs:=hok.set (k:=k.toNat) hd;refine bO (let b:=Ξ .i64;let c:=(0:Int);let e:=bq.row;let f:=Ψ;let g:=fx.set k.toNat d;let j:=bn.i .i64;let h:=dE p (cy none) most (nF g) (cK.mk ch val found prf err) a g;let l:=bq.cells [b p.supply.a0,b p.supply.a1,b p.supply.a2,b p.supply.a3,b p.supply.a4,b p.supply.a5,b p.opn.a0,b p.opn.a1,b p.opn.a2,b p.opn.a3,b p.opn.a4,b p.opn.a5,b p.cls.a0,b p.cls.a1,b p.cls.a2,b p.cls.a3,b p.cls.a4,b p.cls.a5,f j p.classes,f bn.off p.offers,f j h.ch,b h.val,γI h.found,SV.fn (Fn.func 82) [] [],γ8 1 h.prf.length 5,γ8 2 k2 1,b most,b h.err] 119 28 false;let m:=e ek h.prf 93 true;k2=fx.length/\c<=k/\k<(↑fx.length:Int)/\k2=fx.length/\k.toNat<fx.length/\(fe (dG.mk p ch val found none k1 k2 most err prf g)/\(c<=a/\a<(↑prf.length:Int))/\nF g<n)/\k2=g.length/\c<=k/\k<(↑g.length:Int)/\k2=g.length/\k.toNat<g.length/\(SV.bH []).same (SV.bH [])/\l.same l/\m.same m/\(e j (g.set k.toNat c) 3 true).same (e j fx 3 true)/\True) (by kernel_rfl) ?_;conv=>zeta
  rw[γe];exact⟨e2,hk.1,hk.2,e2,by omega,⟨hs,ha,hn⟩,e2,hk.1,hk.2,e2,by omega,rfl,rfl,rfl,hr hb,trivial⟩;|some m=>
  have hs:=hok.set (k:=k.toNat) hd;refine bO (let b:=Ξ .i64;let c:=(0:Int);let e:=bq.row;let f:=Ψ;let g:=fx.set k.toNat d;let j:=bn.i .i64;let h:=dE p (cy (some m)) most (nF g) (cK.mk ch val found prf err) a g;let l:=bq.cells [b p.supply.a0,b p.supply.a1,b p.supply.a2,b p.supply.a3,b p.supply.a4,b p.supply.a5,b p.opn.a0,b p.opn.a1,b p.opn.a2,b p.opn.a3,b p.opn.a4,b p.opn.a5,b p.cls.a0,b p.cls.a1,b p.cls.a2,b p.cls.a3,b p.cls.a4,b p.cls.a5,f j p.classes,f bn.off p.offers,f j h.ch,b h.val,γI h.found,SV.fn (Fn.func 132) [] [γV 1 0 1],γ8 2 h.prf.length 5,γ8 3 k2 1,b most,b h.err] 119 28 false;let o:=bq.cells [b m] 2 1 false;let q:=e ek h.prf 93 true;k2=fx.length/\c<=k/\k<(↑fx.length:Int)/\k2=fx.length/\k.toNat<fx.length/\(fe (dG.mk p ch val found (some m) k1 k2 most err prf g)/\(c<=a/\a<(↑prf.length:Int))/\nF g<n)/\k2=g.length/\c<=k/\k<(↑g.length:Int)/\k2=g.length/\k.toNat<g.length/\(SV.bH []).same (SV.bH [])/\l.same l/\o.same o/\q.same q/\(e j (g.set k.toNat c) 3 true).same (e j fx 3 true)/\True) (by kernel_rfl) ?_;conv=>zeta
  rw[γe];exact⟨e2,hk.1,hk.2,e2,by omega,⟨hs,ha,hn⟩,e2,hk.1,hk.2,e2,by omega,rfl,rfl,rfl,rfl,hr hb,trivial⟩
theorem Vy {p:bp} {en:Int->Bool} {most:Int} {f:List Int} (j:eW p f) {c b:cK->Int->List Int->cK} {s:cK} {a:Int}
  (h:∀k d:Int,(0<=k/\k<f.length)->bj f k.toNat 0=0->(d=1\/d= -1)->∀s a,c s a (f.set k.toNat d)=b s a (f.set k.toNat d)):fw p en most c s a f=fw p en most b s a f:=by
 unfold fw;split;·rfl
 split;·rfl
 rename_i o;have l:iD p f=true:=by simp_all
 split;·rfl
 split;·rfl
 rename_i k n;split;·rfl
 obtain⟨e,i,g⟩:=td n;rw[sa] at e;have m:bj f k.toNat 0=0:=tc (j.ok l) j.r (by omega) i g;simp_all
theorem Bo {p:bp} {en:Int->Bool} {most:Int} {f:List Int} (e:eW p f) {s:cK} {a:Int}:dE p en most (nF f) s a f=fw p en most (λs a g=>dE p en most (nF g) s a g) s a f:=by
 have j:∀k d:Int,(0<=k/\k<f.length)->bj f k.toNat 0=0->(d=1\/d= -1)->nF f=nF (f.set k.toNat d)+1:=λk d c b i=>mC c b (by omega);cases h:nF f with
 |zero=>exact Vy e λk d c b i=>by grind;|succ n=>
  refine Vy e λk d c b i s a=>?_;grind
section
variable {p:bp} {en:Int->Bool} {most:Int} {f:List Int} {s O:cK} {a k:Int}
theorem Bq (b:eW p f) (h:s.err≠0\/s.found=true):dE p en most (nF f) s a f=s:=by
 simp_all[Bo,fw]
theorem Vz (c:eW p f) (h:¬(s.err≠0\/s.found=true)) (b:iD p f=false):dE p en most (nF f) s a f={s with prf:=s.prf.set a.toNat Fb}:=by
 simp_all[Bo,fw]
theorem yV (c:eW p f) (h:¬(s.err≠0\/s.found=true)) (b:iD p f=true) (d:dj p en s f=O) (e:jR p f<((O.val+1:Int):Rat)):dE p en most (nF f) s a f={O with prf:=O.prf.set a.toNat (LO p f)}:=by
 simp_all[Bo,fw]
theorem qk (b:eW p f) (h:¬(s.err≠0\/s.found=true)) (d:iD p f=true) (c:dj p en s f=O) (g:¬jR p f<((O.val+1:Int):Rat)) (e:jA (dA p f)=none\/most<(O.prf.length:Int)+2):dE p en most (nF f) s a f={O with err:=12}:=by
 subst c;rw[Bo b];unfold fw;grind
theorem yW (d:eW p f) (h:¬(s.err≠0\/s.found=true)) (b:iD p f=true) (g:dj p en s f=O) (i:¬jR p f<((O.val+1:Int):Rat)) (c:jA (dA p f)=some k) (e:¬most<(O.prf.length:Int)+2):
  dE p en most (nF f) s a f=dE p en most (nF (f.set k.toNat (-1))) (dE p en most (nF (f.set k.toNat 1)) (gv O a k) (O.prf.length+1) (f.set k.toNat 1)) O.prf.length (f.set k.toNat (-1)):=by
 simp_all[Bo,fw,if_neg]
end
theorem fe.VA {x:dG} (h:fe x):fe (x.upd (dj x.p (cy x.en) x.s x.fx)):=by
 obtain⟨d,i,b,a,g⟩:=@Ff x.p (cy x.en) x.s x.fx;obtain⟨m,j,k⟩:=Vh h.f;have b:x.val<=(dj x.p (cy x.en) x.s x.fx).val:=b;have a:(dj x.p (cy x.en) x.s x.fx).val=x.val\/(dj x.p (cy x.en) x.s x.fx).val=(pD x.p x.fx).value:=a;have n:=h.v0;have o:=h.v1;refine⟨h.f,rfl,h.k2,?_,?_,h.m0,h.m1,?_,?_⟩
 ·show 0<=(dj x.p (cy x.en) x.s x.fx).val;omega
 ·show(dj x.p (cy x.en) x.s x.fx).val<=_;omega
 ·show(dj x.p (cy x.en) x.s x.fx).prf.length<=_;rw[d];exact h.l
 ·show(dj x.p (cy x.en) x.s x.fx).ch.length<=_;rcases g with e|e;·rw[e];exact h.c
  ·rw[e];omega
theorem fe.vis {x:dG} (h:fe x) {f:List Int} (i:eW x.p f) {n:Nat} {a:Int}:fe (x.upd (dE x.p (cy x.en) x.most n x.s a f)):=by
 obtain⟨m,g,b,d,k,q⟩:=@sd x.p (cy x.en) x.most n x.s a f i;have b:x.val<=(dE x.p (cy x.en) x.most n x.s a f).val:=b;have d:(dE x.p (cy x.en) x.most n x.s a f).val=x.val\/(dE x.p (cy x.en) x.most n x.s a f).val<=160000000:=d;have r:=h.v0;have t:=h.v1;have o:=h.m1;have j:=h.l;refine⟨h.f,rfl,h.k2,?_,?_,h.m0,h.m1,?_,?_⟩
 ·show 0<=(dE x.p (cy x.en) x.most n x.s a f).val;omega
 ·show(dE x.p (cy x.en) x.most n x.s a f).val<=_;omega
 ·show(dE x.p (cy x.en) x.most n x.s a f).prf.length<=_;rcases g with e|e;·omega
  ·rw[e];exact j
 ·show(dE x.p (cy x.en) x.most n x.s a f).ch.length<=_;rcases k with e|e;·rw[e];exact h.c
  ·omega
theorem fe.spl {x:dG} (h:fe x) (b:¬x.most<(x.prf.length:Int)+2) {k:Nat} {l:List rb} (a:k=l.length) (d:l.length=x.prf.length+2):fe ⟨x.p,x.ch,x.val,x.found,x.en,k,x.k2,x.most,x.err,l,x.fx⟩:=
 ⟨h.f,a,h.k2,h.v0,h.v1,h.m0,h.m1,by have:=h.m1;grind,h.c⟩
def iE (p:bp):List Int:=ε p.offers.length 0
theorem yX {n:Nat}:nF (ε n 0)=n:=by
 have e:bF (ε n 0) 0=dS n:=by
  simp_all[bF,rW,cQ]
 grind[jy]
theorem ql {p:bp} (a:bC p=0):eW p (iE p) where
 c:=a;l:=γS;r:=by
  unfold jP;rw[List.all_eq_true];intro x b;rw[List.eq_of_mem_replicate b];decide
def jB (p:bp) (c:List Int):cK:=dT (cy none) (dT (cy none) ⟨c,ez p c,false,[zN],0⟩ (gu p c)) (gu p (jO p))
noncomputable def iF (p:bp) (c:List Int) (most:Int):cK:=dE p (cy none) most p.offers.length (jB p c) 0 (iE p)
noncomputable def kp (p:bp) (c:List Int) (most:Int):Int:=if dc p c≠0 then dc p c else if most<1\/65536<most then 4 else(iF p c most).err
def jC (p:bp) (m:Int):cK:=dT (cy (some m)) ⟨[],m - 1,false,[zN],0⟩ (gu p (jO p))
noncomputable def fO (p:bp) (m most:Int):cK:=dE p (cy (some m)) most p.offers.length (jC p m) 0 (iE p)
noncomputable def iU (p:bp) (m most:Int):Int:=if bC p≠0 then bC p else if most<1\/65536<most then 4 else if m<=0 then 0 else if(fO p m most).found=true then 0 else(fO p m most).err
noncomputable def jT (p:bp) (m most:Int):Bool:=decide (iU p m most=0)&&(decide (m<=0)||(fO p m most).found)
noncomputable def oD (p:bp) (m most:Int):Alloc:=if jT p m most=true/\0<m then⟨(fO p m most).ch,(fO p m most).val⟩ else⟨[],0⟩
theorem VB {p:bp} (a:bC p=0) {t:List Int} (h:dc p t=0):ez p t<=(cu p).value:=by
 have b:=(uv a).1 h;obtain⟨_,d⟩:=uL h;have c:=IK (dn a) b.1 (decide_eq_true b.2);rw[yS a d];exact c
theorem VC {p:bp} (a:bC p=0):∃t,dc p t=0/\ez p t=(cu p).value:=by
 obtain⟨t,c,f,e⟩:=IL (dn a);have b:dc p t=0:=(uv a).2 ⟨c,of_decide_eq_true f⟩;obtain⟨_,d⟩:=uL b;refine⟨t,b,?_⟩;rw[yS a d,e];rfl
theorem afS {p:bp} {l:List Int} (h:ft p.offers.length l):Fg (iE p) l:=by
 have b:∀i:Int,0<=i/\i<p.offers.length->bj (iE p) i.toNat 0=0:=λi a=>by
  grind[iE,cQ]
 refine⟨λi a=>by rw[b i (h.2 i a)];omega,λi a=>?_⟩;grind[mA,iE]
theorem VD {p:bp} {v:Int} {t:List rb} {a lo f:Nat} (b:bC p=0) (h:mD p v t a (iE p) lo f):(cu p).value<=v:=by
 obtain⟨l,d,e⟩:=VC b;obtain⟨_,c⟩:=uL d;rw[<-e,yS b c];exact h.sound (ql b) c ((Vj b c).1 d) (afS c)
theorem yY {en:Int->Bool} {G:List Int->Int->Bool->Prop} {p:bp} (h:∀c w b d w',G c w b->dc p d=0->ez p d=w'->w<w'->G d w' (b||en w')) {s:cK} {a:Alloc} (e:G s.ch s.val s.found) (f:dc p a.chosen=0) (g:ez p a.chosen=a.value):G (dT en s a).ch (dT en s a).val (dT en s a).found:=by
 grind[dT]
theorem Br {p:bp} (a:bC p=0):dc p (gu p (jO p)).chosen=0/\ez p (gu p (jO p)).chosen=(gu p (jO p)).value:=by
 simp_all[K6,Uw]
theorem MA {p:bp} (d:bC p=0) {c:List Int} (h:dc p c=0) {most:Int} {G:List Int->Int->Bool->Prop} (a:∀c w b e w',G c w b->dc p e=0->ez p e=w'->w<w'->G e w' (b||cy none w')) (i:G c (ez p c) false):G (iF p c most).ch (iF p c most).val (iF p c most).found:=by
 have f:=K6 d h;have g:=Br d;exact Vm a (ql d) (yY a (yY a i f.2.1 f.2.2.1) g.1 g.2)
theorem MB {p:bp} {c:List Int}:(jB p c).prf=[zN]/\(jB p c).err=0/\ez p c<=(jB p c).val:=by
 grind[jB,dT]
theorem VE {p:bp} (d:bC p=0) {c:List Int} (i:dc p c=0) {most:Int} (C:1<=most):
  ((iF p c most).err=0\/(iF p c most).err=12)/\((iF p c most).err=0->(dc p (iF p c most).ch=0/\ez p (iF p c most).ch=(iF p c most).val)/\(iF p c most).val=(cu p).value/\(iF p c most).prf.length<=most/\mD p (cu p).value (iF p c most).prf 0 (iE p) 1 (iF p c most).prf.length/\(ez p c=(cu p).value->(iF p c most).ch=c))/\
   (((1+2^(p.offers.length+1):Nat):Int)<=most+2->(iF p c most).err=0):=by
 obtain⟨y,l,A⟩:=@MB p c;have t:(jB p c).prf.length=1:=by rw[y];rfl
 have q:=@sd p (cy none) most p.offers.length (jB p c) 0 (iE p) (ql d);have j:(iF p c most).found=false:=by
  refine(MA d i (most:=most) (G:=λ_ _ b=>b=false) (λc w b g o h _ _ _=>?_) rfl);rw[h];rfl
 refine⟨?_,λx=>?_,λB=>?_⟩
 ·have:=q.2.2.2.2.2;rw[l] at this;exact this
 ·have v:=MA d i (most:=most) (G:=λc w _=>dc p c=0/\ez p c=w) (λc w b g o _ k m _=>⟨k,m⟩) ⟨i,rfl⟩;have u:=MA d i (most:=most) (G:=λg w _=>ez p c<=w/\(w=ez p c->g=c)) (λD w b g o h _ _ r=>⟨by omega,λe=>by omega⟩) ⟨Int.le_refl _,λ_=>rfl⟩;have z:=Vl (p:=p) (en:=cy none) (most:=most) (n:=p.offers.length) (s:=jB p c) (a:=0) (ql d) (by show nF (ε _ 0)<=_;grind[yX]) (by rw[t];omega) x j;have k:=VD d z.1;have m:=VB d v.1;grind[iF]
 ·refine(Vn (p:=p) (en:=cy none) (most:=most) (n:=p.offers.length) (s:=jB p c) (a:=0) (f:=iE p) (ql d) ?_ l ?_).1;all_goals simp_all[yX,iE]
theorem afT {p:bp} (i:bC p=0) {m most:Int}:((fO p m most).found=false->(fO p m most).ch=[]/\(fO p m most).val=m - 1)/\((fO p m most).found=true->dc p (fO p m most).ch=0/\ez p (fO p m most).ch=(fO p m most).val/\m<=(fO p m most).val):=by
 have j:=Br i;have g:∀(c:List Int) (w:Int) (b:Bool) (e:List Int) (d:Int),((m - 1<=w)/\(b=false->c=[]/\w=m - 1)/\(b=true->dc p c=0/\ez p c=w/\m<=w))->dc p e=0->ez p e=d->w<d->((m - 1<=d)/\((b||cy (some m) d)=false->e=[]/\d=m - 1)/\((b||cy (some m) d)=true->dc p e=0/\ez p e=d/\m<=d)):=by
  intro c w b e d h l q k;have o:cy (some m) d=true:=by
   show decide (m<=d)=true;grind
  grind
 have:=Vm (p:=p) (en:=cy (some m)) (most:=most) g (n:=p.offers.length) (s:=jC p m) (a:=0) (f:=iE p) (ql i) (yY g (s:=⟨[],m - 1,false,[zN],0⟩) ⟨Int.le_refl _,λ_=>⟨rfl,rfl⟩,(λh=>by cases h)⟩ j.1 j.2);exact this.2
theorem MC {p:bp} {m:Int}:(jC p m).prf=[zN]/\(jC p m).err=0:=by
 grind[jC,Fe]
theorem VF {p:bp} (b:bC p=0) {m most:Int}:
  ((fO p m most).err=0\/(fO p m most).err=12)/\((fO p m most).found=true->m<=(cu p).value)/\((fO p m most).found=false->(fO p m most).err=0->(cu p).value<m)/\
   (((1+2^(p.offers.length+1):Nat):Int)<=most+2->(fO p m most).err=0):=by
 obtain⟨i,d⟩:=@MC p m;have h:(jC p m).prf.length=1:=by rw[i];rfl
 have g:=@sd p (cy (some m)) most p.offers.length (jC p m) 0 (iE p) (ql b);obtain⟨r,l⟩:=@afT p b m most;refine⟨?_,λc=>?_,λc k=>?_,λo=>?_⟩
 ·have:=g.2.2.2.2.2;rw[d] at this;exact this
 ·obtain⟨e,q,t⟩:=l c;have:=VB b e;omega
 ·have j:=Vl (p:=p) (en:=cy (some m)) (most:=most) (n:=p.offers.length) (s:=jC p m) (a:=0) (ql b) (by show nF (ε _ 0)<=_;grind[yX]) (by rw[h];omega) k c;have e:(cu p).value<=(fO p m most).val:=VD b j.1;grind
 ·refine(Vn (p:=p) (en:=cy (some m)) (most:=most) (n:=p.offers.length) (s:=jC p m) (a:=0) (f:=iE p) (ql b) ?_ d ?_).1;all_goals simp_all[yX,iE]
theorem afU {p:bp} {c:List Int} {m:Int} (b:dc p c=0) (a:1<=m/\m<=65536):kp p c m=(iF p c m).err:=by
 simp_all[kp,if_neg]
theorem afV {p:bp} (d:bC p=0) {c:List Int} {m:Int} (b:dc p c=0) (e:m<=65536) (f:((1+2^(p.offers.length+1):Nat):Int)<=m+2):kp p c m=0:=by
 have a:=Nat.one_le_two_pow (n:=p.offers.length+1);grind[afU,VE]
theorem MD {p:bp} (a:bC p=0) {m k:Int} (d:k<=65536) (b:((1+2^(p.offers.length+1):Nat):Int)<=k+2):iU p m k=0:=by
 have c:2<=2^(p.offers.length+1):=by grind
 unfold iU;rw[if_neg (by simp[a]),if_neg (by omega)];grind[VF]
theorem VG {p:bp} (a:bC p=0) {m k:Int} (b:iU p m k=0):jT p m k=true↔m<=(cu p).value:=by
 have j:0<=(cu p).value:=by
  obtain⟨t,d,e⟩:=VC a;obtain⟨_,c⟩:=uL d;rw[<-e,yS a c];exact(sP (dn a) (l:=t.map (oI p)) λx g=>by
   obtain⟨i,f,rfl⟩:=γg.1 g;have:=c.2 i f;exact cO (by omega)).1
 have h:=@VF p a m k;unfold jT;rw[b,decide_eq_true rfl,Bool.true_and,Bool.or_eq_true,decide_eq_true_eq];unfold iU at b;grind
theorem VH {W:Int} (a: -9223372036854775808<=W) (b:W<=9223372036854775807):Sz 2 (W:Rat):=by
 unfold Sz;simp;omega
theorem afW {p:bp} {f:List Int} (h:jS p f=true):iq p f:=by
 unfold jS at h;rw[ζ,decide_eq_true_eq] at h;obtain⟨a,b⟩:=h;unfold kS at a;split at a;·omega
 ·rename_i d;split at a;·cases a
  ·rename_i c;exact⟨ω.1 d,ω.1 c,b⟩
theorem VI {p:bp} {f:List Int} (h:jS p f=true):Sz 1000002 (jR p f):=by
 have a:=afW h;have c:=@Lx p a.1 f f.length a.2.1;rw[List.take_length] at c;have d:Sz 1 ((kT p f:Int):Rat):=by
  unfold Sz;rw[Rat.num_intCast,Rat.den_intCast];omega
 have b:Sz 1000000 (fc p f).value:=((E0 a).wi (rZ a).1).2.2.2;exact(SG d b).mono (by omega)
theorem afX {n:Nat} (hD:dJ Tryz.prog (Fz n)):dJ Tryz.prog (wE (n+1)):=by
 refine ZL (L:=[qW,Aw,LW,Mc]) (W:=[L1,L9,Bm,Fz n]) (wE (n+1)) (fG 84) lk (by simpa using⟨h390w,h446,h439,hD⟩) (by simpa using⟨h94,h97,h445,h447⟩) ?_;rintro⟨⟨p,ch,val,found,en,k1,k2,most,err,prf,fx⟩,a⟩ ⟨hok,ha,hn⟩;simp only at hok ha hn;have e1:k1=prf.length:=hok.k1;have e2:k2=fx.length:=hok.k2;subst e1;subst e2;have hf:eW p fx:=hok.f;have h160:=(dn hf.c).2.1;have hfl:fx.length=p.offers.length:=hf.l;have hfe:=hf.e;have hfo:=hf.jS;have hv0:0<=val:=hok.v0;have hv1:val<=9223372036854775806:=hok.v1;have hm0:1<=most:=hok.m0;have hm1:most<=65536:=hok.m1;have hpl:prf.length<=65536:=hok.l;rcases en with _|m
 ·refine bO (let b:=Ξ .i64;let c:=(0:Int);let d:=(1:Int);let e:=bq.cells;let f:=SV.bH;let g:=bq.row;let h:=bW .i64;let j:=(-9223372036854775808:Int);let k:=(-1:Int);let l:=(9223372036854775807:Int);let m:=(2:Int);let o:=Ψ;let q:=γI;let r:=γ8;let v:=vL (kj p fx);let x:=b p.supply.a0;let y:=b p.supply.a1;let z:=b p.supply.a2;let A:=b p.supply.a3;let B:=b p.supply.a4;let C:=b p.supply.a5;let D:=b p.opn.a0;let E:=b p.opn.a1;let F:=b p.opn.a2;let G:=b p.opn.a3;let H:=b p.opn.a4;let I:=b p.opn.a5;let J:=b p.cls.a0;let K:=b p.cls.a1;let L:=b p.cls.a2;let M:=b p.cls.a3;let N:=b p.cls.a4;let O:=b p.cls.a5;let U:=bn.i .i64;let P:=o U p.classes;let Q:=o bn.off p.offers;let ag:=o U ch;let ah:=b val;let R:=SV.fn (Fn.func 82) [] [];let ai:=r 1 prf.length 5;let V:=r 2 fx.length 1;let W:=b most;let aw:=[V,W,γr .i64 12];let ax:=cK.mk ch val found prf err;let a7:=dE p (cy none) most (nF fx) ax a fx;let X:=e [x,y,z,A,B,C,D,E,F,G,H,I,J,K,L,M,N,O,P,Q,o U a7.ch,b a7.val,q a7.found,R,r 1 a7.prf.length 5,V,W,b a7.err] 119 28 false;let an:=g ek prf 93 true;let Y:=g ek a7.prf 93 true;let t:=g U fx 3 true;let Z:=(↑prf.length:Int);let ay:=decide (most<Z+m);let az:=prf.length+2;let a8:=Z+d;let ao:=(c,c,c,[]);let aj:=[(c,ao),(c,ao)];let z53:Nat:=(prf++aj).length;let w:=(jA v).getD c;let ap:=(prf++aj).set a.toNat (m,w,Z,a8,[]);let a9:=w.toNat;let ac:=fx.set a9 d;let S:=dE p (cy none) most (nF ac) (cK.mk ch val found ap err) a8 ac;let ad:=fx.set a9 k;let aa:=dE p (cy none) most (nF ad) S Z ad;let ak:=((ki p fx).fst,(ki p fx).snd.fst,(ki p fx).snd.snd);let al:=val+d;let aq:=bu (γa al);let aA:=(aq.fst,aq.snd.fst,aq.snd.snd);let aB:=jc (ck ak) (ck aA);let aC:=decide (aB<c);let aD:=(d,c,c,c,ra p fx);let s:=dT (cy none) ax (Alloc.mk (eA v) (bV (γj (oI p) (eA v))));let z69:Nat:=(s.prf++aj).length;let ae:=s.prf.length;let am:=s.val+d;let ar:=bu (γa am);let ab:=(↑ae:Int);let aE:=decide (err≠c);let aF:=decide (kS p fx≠c);let a6:=s.prf.length;let af:=ab+d;let au:=(s.prf++aj).set a.toNat (m,w,ab,af,[]);let T:=dE p (cy none) most (nF ac) (cK.mk s.ch s.val s.found au s.err) af ac;let aG:=dE p (cy none) most (nF ad) T ab ad;let aT:=let aH:=(f []).same (f [])/\(e (x::y::z::A::B::C::D::E::F::G::H::I::J::K::L::M::N::O::P::Q::ag::ah::q found::R::ai::aw) 119 28 false).same X/\an.same Y/\t.same t/\True;pE (kj p fx)/\((!(jA v).isSome)=true->aH)/\((!(jA v).isSome)=false->h (Z+m)/\(ay=true->aH)/\(ay=false->2=2/\prf.length=prf.length/\az*56<=140737488355328/\az<=1000000000000/\h a8/\z53=z53/\c<=a/\a<(↑z53:Int)/\z53=z53/\a.toNat<z53/\h a8/\(fe (dG.mk p ch val found none z53 fx.length most err ap fx)/\(c<=a8/\a8<(↑ap.length:Int))/\(c<=w/\w<(↑fx.length:Int))/\bj fx a9 c=c/\(d=d\/d=k)/\nF ac<n)/\(fe (dG.mk p S.ch S.val S.found none S.prf.length fx.length most S.err S.prf fx)/\(c<=Z/\Z<(↑S.prf.length:Int))/\(c<=w/\w<(↑fx.length:Int))/\bj fx a9 c=c/\(k=d\/k=k)/\nF ad<n)/\(f []).same (f [])/\(e [x,y,z,A,B,C,D,E,F,G,H,I,J,K,L,M,N,O,P,Q,o U aa.ch,b aa.val,q aa.found,R,r 1 aa.prf.length 5,V,W,b aa.err] 119 28 false).same X/\(g ek aa.prf 93 true).same Y/\t.same t/\True));let aI:=(de ak/\de aA)/\(aC=true->prf.length=prf.length/\c<=a/\a<(↑prf.length:Int)/\prf.length=prf.length/\a.toNat<prf.length/\(f []).same (f [])/\(e [x,y,z,A,B,C,D,E,F,G,H,I,J,K,L,M,N,O,P,Q,ag,ah,q found,R,ai,V,W,b err] 119 28 false).same X/\(g ek (prf.set a.toNat aD) 93 true).same Y/\t.same t/\True)/\(aC=false->aT);let aJ:=z69=z69;let aK:=(f []).same (f [])/\(e (x::y::z::A::B::C::D::E::F::G::H::I::J::K::L::M::N::O::P::Q::o U s.ch::b s.val::q s.found::R::r 1 ae 5::aw) 119 28 false).same X/\(g ek s.prf 93 true).same Y/\t.same t/\True;let aL:=(f []).same (f [])/\(e [x,y,z,A,B,C,D,E,F,G,H,I,J,K,L,M,N,O,P,Q,ag,ah,q found,R,ai,V,W,b err] 119 28 false).same X/\an.same Y/\t.same t/\True;let aM:=λ(u:cK) (u_1:bq) ↦(f []).same (f [])/\(e [x,y,z,A,B,C,D,E,F,G,H,I,J,K,L,M,N,O,P,Q,o U u.ch,b u.val,q u.found,R,r 1 u.prf.length 5,V,W,b u.err] 119 28 false).same X/\u_1.same Y/\t.same t/\True;let aN:=λ(u:dG) (u_1:Int) (u_2:Nat) (u_3:Int) ↦fe u/\(c<=u_1/\u_1<(↑u_2:Int))/\(c<=w/\w<(↑fx.length:Int))/\bj fx a9 c=c/\(u_3=d\/u_3=k)/\nF (fx.set a9 u_3)<n;let aO:=λ(u:Int) (u_1:bq) ↦(f []).same (f [])/\(e [x,y,z,A,B,C,D,E,F,G,H,I,J,K,L,M,N,O,P,Q,ag,ah,q found,R,ai,V,W,b u] 119 28 false).same X/\u_1.same Y/\t.same t/\True;let aP:=λ(u:Bool) ↦decide (jc (ck ak) (ck (ar.fst,ar.snd.fst,ar.snd.snd))<c)=u;let aQ:=λ(u:Bool) ↦decide (c<=aB)=u;let aR:=λ(u:Int) ↦let av:=bu (γa (u+d));de ak/\de (av.fst,av.snd.fst,av.snd.snd);let aS:=λ(u:Bool) ↦decide (most<ab+m)=u;(aE=true->aL)/\(aE=false->(found=true->aL)/\(found=false->(fx.length=fx.length/\fx.length<=1000000000000)/\(aF=true->aO (kS p fx) an)/\(aF=false->((!jS p fx)=true->prf.length=prf.length/\c<=a/\a<(↑prf.length:Int)/\prf.length=prf.length/\a.toNat<prf.length/\aO err (g ek (prf.set a.toNat ((3:Int),ao)) 93 true))/\((!jS p fx)=false->h al/\(j<=al/\al<=l)/\aR val/\(aQ true->pE (kj p fx)/\(mV v=true->(fe (dG.mk p ch val found none prf.length fx.length most err prf fx)/\pE (kj p fx)/\(kj p fx).length=p.offers.length)/\prf.length=prf.length/\h am/\(j<=am/\am<=l)/\aR s.val/\(aP true->ae=a6/\c<=a/\a<(↑a6:Int)/\ae=a6/\a.toNat<a6/\aM s (g ek (s.prf.set a.toNat aD) 93 true))/\(aP false->pE (kj p fx)/\((!(jA v).isSome)=true->aK)/\((!(jA v).isSome)=false->h (ab+m)/\(aS true->aK)/\(aS false->2=2/\ae=a6/\(a6+2)*56<=140737488355328/\a6+2<=1000000000000/\h af/\aJ/\c<=a/\a<(↑z69:Int)/\aJ/\a.toNat<z69/\h af/\aN (dG.mk p s.ch s.val s.found none z69 fx.length most s.err au fx) af au.length d/\aN (dG.mk p T.ch T.val T.found none T.prf.length fx.length most T.err T.prf fx) ab T.prf.length k/\aM aG (g ek aG.prf 93 true)))))/\(mV v=false->aI))/\(aQ false->aI)))))) (by kernel_rfl) ?_;simp only[vcs];refine⟨λh=>by rw[Bq hf (.inl h)];exact⟨rfl,rfl⟩,λh0=>⟨λh=>by rw[Bq hf (.inr h)];exact⟨rfl,rfl⟩,λh1=>⟨by omega,λh=>absurd hfe h,λ_=>⟨λh=>?_,λhb=>?_⟩⟩⟩⟩
  ·have hs:¬((⟨ch,val,found,prf,err⟩:cK).err≠0\/(⟨ch,val,found,prf,err⟩:cK).found=true):=by
    rintro(h|h);·exact h0 h
    ·rw[show found=true from h] at h1;cases h1
   rw[Vz hf hs (by rw[<-hfo];exact h)];refine⟨ha.1,ha.2,by omega,?_,rfl⟩;simp only[γe];rfl
  ·have hs:¬((⟨ch,val,found,prf,err⟩:cK).err≠0\/(⟨ch,val,found,prf,err⟩:cK).found=true):=by
    rintro(h|h);·exact h0 h
    ·rw[show found=true from h] at h1;cases h1
   have hbf:iD p fx=true:=by rw[<-hfo];exact hb
   have hfix:=hf.ok hbf;have eB:ki p fx=bu (jR p fx):=by unfold ki;rw[if_pos hb]
   have eS:kj p fx=fL (dA p fx):=by unfold kj dA;rw[if_pos hb]
   have eP:ra p fx=fL (yP p fx):=by unfold ra;rw[if_pos hb]
   have hsl:(dA p fx).length=fx.length:=sa;have oS:pE (fL (dA p fx)):=⟨dA p fx,rfl,by rw[fN];omega,λq hq=>by
    obtain⟨i,hi,rfl⟩:=δc hq;have:=(Fa hfix hf.r (i:=i) (by omega)).2.2;rwa [cQ hi] at this⟩;have fB:de (bu (jR p fx)):=ei (VI hb) (by omega);have fI:∀v:Int,0<=v->v<=9223372036854775807->de (bu (γa v)):=λv h0 h1=>ei (VH (by omega) h1) (by omega);have hcv:∀v:Int,jc (jR p fx) (γa v)<0↔jR p fx<((v:Int):Rat):=λv=>uO;simp only[eB,eS,eP,mh,kN,fa];have hcm:eA (dA p fx)=(pD p fx).chosen:=rfl;refine⟨by omega,by omega,⟨fB,fI _ (by omega) (by omega)⟩,λhge=>⟨oS,λhi=>?_,λhi=>?_⟩,λhlt=>?_⟩
   ·have hO:dj p (cy none) ⟨ch,val,found,prf,err⟩ fx=dT (cy none) ⟨ch,val,found,prf,err⟩ ⟨eA (dA p fx),bV ((eA (dA p fx)).map (oI p))⟩:=by
     unfold dj;rw[if_pos ⟨ζn.1 λh=>absurd ((hcv (val+1)).2 h) (Int.not_lt.2 hge),hi⟩];rfl
    have hok':fe (dG.upd ⟨p,ch,val,found,none,prf.length,fx.length,most,err,prf,fx⟩ (dj p (cy none) ⟨ch,val,found,prf,err⟩ fx)):=hok.VA;rw[hO] at hok';obtain⟨e1,e2,_⟩:=@Fe (cy none) ⟨ch,val,found,prf,err⟩ ⟨eA (dA p fx),bV ((eA (dA p fx)).map (oI p))⟩;generalize dT (cy none) ⟨ch,val,found,prf,err⟩ ⟨eA (dA p fx),bV ((eA (dA p fx)).map (oI p))⟩=O at*;obtain⟨ch',val',found',prf',tf⟩:=O;have e1:prf=prf':=Eq.symm e1;have e2:err=tf:=Eq.symm e2;subst e1;subst e2;have w0:0<=val':=hok'.v0;have w1:val'<=9223372036854775806:=hok'.v1;dsimp only;refine⟨⟨hok,oS,by rw[fN];omega⟩,by omega,by omega,⟨fB,fI _ (by omega) (by omega)⟩,?_⟩;refine⟨λh=>?_,λh=>⟨oS,λhk=>?_,λhk=>⟨by omega,λhm=>?_,λhm=>?_⟩⟩⟩
    ·rw[yV hf hs hbf hO ((hcv _).1 h)];refine⟨ha.1,ha.2,by omega,?_,rfl⟩;simp only[γe];rfl
    ·rw[qk hf hs hbf hO (λh'=>h ((hcv _).2 h')) (.inl (γ1.1 hk |>γR.1))];exact⟨rfl,rfl⟩
    ·rw[qk hf hs hbf hO (λh'=>h ((hcv _).2 h')) (.inr hm)];exact⟨rfl,rfl⟩
    ·obtain⟨k,hk'⟩:=γo.1 hk;rw[yW hf hs hbf hO (λh'=>h ((hcv _).2 h')) hk' hm];simp only[hk',γ6];obtain⟨hk1,hk2,hk3⟩:=td hk';rw[hsl] at hk1;have hk0:bj fx k.toNat 0=0:=tc hfix hf.r (by omega) hk2 hk3;have n1:=mC hk1 hk0 (d:=1) (by omega);have n2:=mC hk1 hk0 (d:= -1) (by omega);have hl2:((prf++[zN,zN]).set a.toNat (km k prf.length)).length=prf.length+2:=by rw[γe,ν];rfl
     have hl1:(prf++[zN,zN]).length=prf.length+2:=by rw[ν];rfl
     have o1:=fe.spl (x:=⟨p,ch',val',found',none,prf.length,fx.length,most,tf,prf,fx⟩) hok' (k:=(prf++[zN,zN]).length) (l:=(prf++[zN,zN]).set a.toNat (km k prf.length)) hm (by rw[hl1,hl2]) hl2;have o2:=o1.vis (f:=fx.set k.toNat 1) (hf.set (by omega)) (n:=nF (fx.set k.toNat 1)) (a:=(prf.length:Int)+1);have o3:=(@sd p (cy none) most (nF (fx.set k.toNat 1)) (gv ⟨ch',val',found',prf,tf⟩ a k) ((prf.length:Int)+1) (fx.set k.toNat 1) (hf.set (by omega))).1;have o4:prf.length+2<=(dE p (cy none) most (nF (fx.set k.toNat 1)) (gv ⟨ch',val',found',prf,tf⟩ a k) ((prf.length:Int)+1) (fx.set k.toNat 1)).prf.length:=by rw[<-hl2];exact o3
     have q1:a<((prf++[zN,zN]).length:Int):=by omega
     have q3:(prf.length:Int)+1<(((prf++[zN,zN]).set a.toNat (km k prf.length)).length:Int):=by rw[hl2];omega
     have q2:a.toNat<(prf++[zN,zN]).length:=by omega
     exact⟨by omega,by omega,by omega,ha.1,q1,q2,by omega,⟨o1,⟨by omega,q3⟩,hk1,hk0,.inl trivial,by omega⟩,⟨o2,⟨by omega,εY.2 (γu (by omega) o4)⟩,hk1,hk0,.inr trivial,by omega⟩,rfl,rfl⟩
   ·have hO:dj p (cy none) ⟨ch,val,found,prf,err⟩ fx=⟨ch,val,found,prf,err⟩:=by
     unfold dj;rw[if_neg (λh=>by rw[h.2] at hi;cases hi)]
    refine⟨⟨fB,fI _ (by omega) (by omega)⟩,?_⟩;refine⟨λh=>?_,λh=>⟨oS,λhk=>?_,λhk=>⟨by omega,λhm=>?_,λhm=>?_⟩⟩⟩
    ·rw[yV hf hs hbf hO ((hcv _).1 h)];refine⟨ha.1,ha.2,by omega,?_,rfl⟩;simp only[γe];rfl
    ·rw[qk hf hs hbf hO (λh'=>h ((hcv _).2 h')) (.inl (γ1.1 hk |>γR.1))];exact⟨rfl,rfl⟩
    ·rw[qk hf hs hbf hO (λh'=>h ((hcv _).2 h')) (.inr hm)];exact⟨rfl,rfl⟩
    ·obtain⟨k,hk'⟩:=γo.1 hk;rw[yW hf hs hbf hO (λh'=>h ((hcv _).2 h')) hk' hm];simp only[hk',γ6];obtain⟨hk1,hk2,hk3⟩:=td hk';rw[hsl] at hk1;have hk0:bj fx k.toNat 0=0:=tc hfix hf.r (by omega) hk2 hk3;have n1:=mC hk1 hk0 (d:=1) (by omega);have n2:=mC hk1 hk0 (d:= -1) (by omega);have hl2:((prf++[zN,zN]).set a.toNat (km k prf.length)).length=prf.length+2:=by rw[γe,ν];rfl
     have hl1:(prf++[zN,zN]).length=prf.length+2:=by rw[ν];rfl
     have o1:=fe.spl hok (k:=(prf++[zN,zN]).length) (l:=(prf++[zN,zN]).set a.toNat (km k prf.length)) hm (by rw[hl1,hl2]) hl2;have o2:=o1.vis (f:=fx.set k.toNat 1) (hf.set (by omega)) (n:=nF (fx.set k.toNat 1)) (a:=(prf.length:Int)+1);have o3:=(@sd p (cy none) most (nF (fx.set k.toNat 1)) (gv ⟨ch,val,found,prf,err⟩ a k) ((prf.length:Int)+1) (fx.set k.toNat 1) (hf.set (by omega))).1;have o4:prf.length+2<=(dE p (cy none) most (nF (fx.set k.toNat 1)) (gv ⟨ch,val,found,prf,err⟩ a k) ((prf.length:Int)+1) (fx.set k.toNat 1)).prf.length:=by rw[<-hl2];exact o3
     have q1:a<((prf++[zN,zN]).length:Int):=by omega
     have q3:(prf.length:Int)+1<(((prf++[zN,zN]).set a.toNat (km k prf.length)).length:Int):=by rw[hl2];omega
     have q2:a.toNat<(prf++[zN,zN]).length:=by omega
     exact⟨by omega,by omega,by omega,ha.1,q1,q2,by omega,⟨o1,⟨by omega,q3⟩,hk1,hk0,.inl trivial,by omega⟩,⟨o2,⟨by omega,εY.2 (γu (by omega) o4)⟩,hk1,hk0,.inr trivial,by omega⟩,rfl,rfl⟩
   ·have hO:dj p (cy none) ⟨ch,val,found,prf,err⟩ fx=⟨ch,val,found,prf,err⟩:=by
     unfold dj;rw[if_neg (λh=>ζn.2 h.1 ((hcv (val+1)).1 (Int.not_le.1 hlt)))]
    refine⟨⟨fB,fI _ (by omega) (by omega)⟩,?_⟩;refine⟨λh=>?_,λh=>⟨oS,λhk=>?_,λhk=>⟨by omega,λhm=>?_,λhm=>?_⟩⟩⟩
    ·rw[yV hf hs hbf hO ((hcv _).1 h)];refine⟨ha.1,ha.2,by omega,?_,rfl⟩;simp only[γe];rfl
    ·rw[qk hf hs hbf hO (λh'=>h ((hcv _).2 h')) (.inl (γ1.1 hk |>γR.1))];exact⟨rfl,rfl⟩
    ·rw[qk hf hs hbf hO (λh'=>h ((hcv _).2 h')) (.inr hm)];exact⟨rfl,rfl⟩
    ·obtain⟨k,hk'⟩:=γo.1 hk;rw[yW hf hs hbf hO (λh'=>h ((hcv _).2 h')) hk' hm];simp only[hk',γ6];obtain⟨hk1,hk2,hk3⟩:=td hk';rw[hsl] at hk1;have hk0:bj fx k.toNat 0=0:=tc hfix hf.r (by omega) hk2 hk3;have n1:=mC hk1 hk0 (d:=1) (by omega);have n2:=mC hk1 hk0 (d:= -1) (by omega);have hl2:((prf++[zN,zN]).set a.toNat (km k prf.length)).length=prf.length+2:=by rw[γe,ν];rfl
     have hl1:(prf++[zN,zN]).length=prf.length+2:=by rw[ν];rfl
     have o1:=fe.spl hok (k:=(prf++[zN,zN]).length) (l:=(prf++[zN,zN]).set a.toNat (km k prf.length)) hm (by rw[hl1,hl2]) hl2;have o2:=o1.vis (f:=fx.set k.toNat 1) (hf.set (by omega)) (n:=nF (fx.set k.toNat 1)) (a:=(prf.length:Int)+1);have o3:=(@sd p (cy none) most (nF (fx.set k.toNat 1)) (gv ⟨ch,val,found,prf,err⟩ a k) ((prf.length:Int)+1) (fx.set k.toNat 1) (hf.set (by omega))).1;have o4:prf.length+2<=(dE p (cy none) most (nF (fx.set k.toNat 1)) (gv ⟨ch,val,found,prf,err⟩ a k) ((prf.length:Int)+1) (fx.set k.toNat 1)).prf.length:=by rw[<-hl2];exact o3
     have q1:a<((prf++[zN,zN]).length:Int):=by omega
     have q3:(prf.length:Int)+1<(((prf++[zN,zN]).set a.toNat (km k prf.length)).length:Int):=by rw[hl2];omega
     have q2:a.toNat<(prf++[zN,zN]).length:=by omega
     exact⟨by omega,by omega,by omega,ha.1,q1,q2,by omega,⟨o1,⟨by omega,q3⟩,hk1,hk0,.inl trivial,by omega⟩,⟨o2,⟨by omega,εY.2 (γu (by omega) o4)⟩,hk1,hk0,.inr trivial,by omega⟩,rfl,rfl⟩
 ·refine bO (let b:=Ξ .i64;let c:=(0:Int);let d:=bq.cells;let e:=(1:Int);let f:=SV.bH;let g:=bq.row;let h:=bW .i64;let j:=(-9223372036854775808:Int);let k:=(-1:Int);let l:=(9223372036854775807:Int);let o:=(2:Int);let q:=Ψ;let r:=γI;let s:=γ8;let ai:=((ki p fx).fst,(ki p fx).snd.fst,(ki p fx).snd.snd);let aj:=val+e;let ap:=bu (γa aj);let ay:=(ap.fst,ap.snd.fst,ap.snd.snd);let az:=jc (ck ai) (ck ay);let aA:=decide (az<c);let z:=b p.supply.a0;let A:=b p.supply.a1;let B:=b p.supply.a2;let C:=b p.supply.a3;let D:=b p.supply.a4;let E:=b p.supply.a5;let F:=b p.opn.a0;let G:=b p.opn.a1;let H:=b p.opn.a2;let I:=b p.opn.a3;let J:=b p.opn.a4;let K:=b p.opn.a5;let L:=b p.cls.a0;let M:=b p.cls.a1;let N:=b p.cls.a2;let O:=b p.cls.a3;let P:=b p.cls.a4;let Q:=b p.cls.a5;let W:=bn.i .i64;let R:=q W p.classes;let S:=q bn.off p.offers;let ak:=q W ch;let al:=b val;let T:=SV.fn (Fn.func 132) [] [γV 1 0 1];let am:=s 2 prf.length 5;let X:=s 3 fx.length 1;let Y:=b most;let aB:=cK.mk ch val found prf err;let a9:=dE p (cy (some m)) most (nF fx) aB a fx;let Z:=d [z,A,B,C,D,E,F,G,H,I,J,K,L,M,N,O,P,Q,R,S,q W a9.ch,b a9.val,r a9.found,T,s 2 a9.prf.length 5,X,Y,b a9.err] 119 28 false;let v:=d [b m] 2 1 false;let aC:=(e,c,c,c,ra p fx);let a6:=g ek a9.prf 93 true;let w:=g W fx 3 true;let x:=vL (kj p fx);let aD:=[X,Y,γr .i64 12];let aq:=g ek prf 93 true;let a7:=(↑prf.length:Int);let aE:=decide (most<a7+o);let aF:=prf.length+2;let aa:=a7+e;let ar:=(c,c,c,[]);let an:=[(c,ar),(c,ar)];let z61:Nat:=(prf++an).length;let y:=(jA x).getD c;let au:=(prf++an).set a.toNat (o,y,a7,aa,[]);let ab:=y.toNat;let ae:=fx.set ab e;let U:=dE p (cy (some m)) most (nF ae) (cK.mk ch val found au err) aa ae;let af:=fx.set ab k;let ac:=dE p (cy (some m)) most (nF af) U a7 af;let t:=dT (cy (some m)) aB (Alloc.mk (eA x) (bV (γj (oI p) (eA x))));let ag:=t.prf.length;let z71:Nat:=(t.prf++an).length;let ao:=t.val+e;let av:=bu (γa ao);let ad:=(↑ag:Int);let aG:=decide (err≠c);let aH:=decide (kS p fx≠c);let a8:=t.prf.length;let ah:=ad+e;let aw:=(t.prf++an).set a.toNat (o,y,ad,ah,[]);let V:=dE p (cy (some m)) most (nF ae) (cK.mk t.ch t.val t.found aw t.err) ah ae;let aI:=dE p (cy (some m)) most (nF af) V ad af;let aV:=let aJ:=(f []).same (f [])/\(d (z::A::B::C::D::E::F::G::H::I::J::K::L::M::N::O::P::Q::R::S::ak::al::r found::T::am::aD) 119 28 false).same Z/\v.same v/\aq.same a6/\w.same w/\True;(aA=true->prf.length=prf.length/\c<=a/\a<(↑prf.length:Int)/\prf.length=prf.length/\a.toNat<prf.length/\(f []).same (f [])/\(d [z,A,B,C,D,E,F,G,H,I,J,K,L,M,N,O,P,Q,R,S,ak,al,r found,T,am,X,Y,b err] 119 28 false).same Z/\v.same v/\(g ek (prf.set a.toNat aC) 93 true).same a6/\w.same w/\True)/\(aA=false->pE (kj p fx)/\((!(jA x).isSome)=true->aJ)/\((!(jA x).isSome)=false->h (a7+o)/\(aE=true->aJ)/\(aE=false->2=2/\prf.length=prf.length/\aF*56<=140737488355328/\aF<=1000000000000/\h aa/\z61=z61/\c<=a/\a<(↑z61:Int)/\z61=z61/\a.toNat<z61/\h aa/\(fe (dG.mk p ch val found (some m) z61 fx.length most err au fx)/\(c<=aa/\aa<(↑au.length:Int))/\(c<=y/\y<(↑fx.length:Int))/\bj fx ab c=c/\(e=e\/e=k)/\nF ae<n)/\(fe (dG.mk p U.ch U.val U.found (some m) U.prf.length fx.length most U.err U.prf fx)/\(c<=a7/\a7<(↑U.prf.length:Int))/\(c<=y/\y<(↑fx.length:Int))/\bj fx ab c=c/\(k=e\/k=k)/\nF af<n)/\(f []).same (f [])/\(d [z,A,B,C,D,E,F,G,H,I,J,K,L,M,N,O,P,Q,R,S,q W ac.ch,b ac.val,r ac.found,T,s 2 ac.prf.length 5,X,Y,b ac.err] 119 28 false).same Z/\v.same v/\(g ek ac.prf 93 true).same a6/\w.same w/\True)));let aK:=(f []).same (f [])/\(d (z::A::B::C::D::E::F::G::H::I::J::K::L::M::N::O::P::Q::R::S::q W t.ch::b t.val::r t.found::T::s 2 ag 5::aD) 119 28 false).same Z/\v.same v/\(g ek t.prf 93 true).same a6/\w.same w/\True;let aL:=z71=z71;let aM:=(f []).same (f [])/\(d [z,A,B,C,D,E,F,G,H,I,J,K,L,M,N,O,P,Q,R,S,ak,al,r found,T,am,X,Y,b err] 119 28 false).same Z/\v.same v/\aq.same a6/\w.same w/\True;let aN:=(de ai/\de ay)/\aV;let aO:=λ(u:cK) (u_1:bq) ↦(f []).same (f [])/\(d [z,A,B,C,D,E,F,G,H,I,J,K,L,M,N,O,P,Q,R,S,q W u.ch,b u.val,r u.found,T,s 2 u.prf.length 5,X,Y,b u.err] 119 28 false).same Z/\v.same v/\u_1.same a6/\w.same w/\True;let aP:=λ(u:dG) (u_1:Int) (u_2:Nat) (u_3:Int) ↦fe u/\(c<=u_1/\u_1<(↑u_2:Int))/\(c<=y/\y<(↑fx.length:Int))/\bj fx ab c=c/\(u_3=e\/u_3=k)/\nF (fx.set ab u_3)<n;let aQ:=λ(u:Int) (u_1:bq) ↦(f []).same (f [])/\(d [z,A,B,C,D,E,F,G,H,I,J,K,L,M,N,O,P,Q,R,S,ak,al,r found,T,am,X,Y,b u] 119 28 false).same Z/\v.same v/\u_1.same a6/\w.same w/\True;let aR:=λ(u:Bool) ↦decide (jc (ck ai) (ck (av.fst,av.snd.fst,av.snd.snd))<c)=u;let aS:=λ(u:Bool) ↦decide (c<=az)=u;let aT:=λ(u:Int) ↦let ax:=bu (γa (u+e));de ai/\de (ax.fst,ax.snd.fst,ax.snd.snd);let aU:=λ(u:Bool) ↦decide (most<ad+o)=u;(aG=true->aM)/\(aG=false->(found=true->aM)/\(found=false->(fx.length=fx.length/\fx.length<=1000000000000)/\(aH=true->aQ (kS p fx) aq)/\(aH=false->((!jS p fx)=true->prf.length=prf.length/\c<=a/\a<(↑prf.length:Int)/\prf.length=prf.length/\a.toNat<prf.length/\aQ err (g ek (prf.set a.toNat ((3:Int),ar)) 93 true))/\((!jS p fx)=false->h aj/\(j<=aj/\aj<=l)/\aT val/\(aS true->pE (kj p fx)/\(mV x=true->(fe (dG.mk p ch val found (some m) prf.length fx.length most err prf fx)/\pE (kj p fx)/\(kj p fx).length=p.offers.length)/\prf.length=prf.length/\h ao/\(j<=ao/\ao<=l)/\aT t.val/\(aR true->ag=a8/\c<=a/\a<(↑a8:Int)/\ag=a8/\a.toNat<a8/\aO t (g ek (t.prf.set a.toNat aC) 93 true))/\(aR false->pE (kj p fx)/\((!(jA x).isSome)=true->aK)/\((!(jA x).isSome)=false->h (ad+o)/\(aU true->aK)/\(aU false->2=2/\ag=a8/\(a8+2)*56<=140737488355328/\a8+2<=1000000000000/\h ah/\aL/\c<=a/\a<(↑z71:Int)/\aL/\a.toNat<z71/\h ah/\aP (dG.mk p t.ch t.val t.found (some m) z71 fx.length most t.err aw fx) ah aw.length e/\aP (dG.mk p V.ch V.val V.found (some m) V.prf.length fx.length most V.err V.prf fx) ad V.prf.length k/\aO aI (g ek aI.prf 93 true)))))/\(mV x=false->aN))/\(aS false->aN)))))) (by kernel_rfl) ?_;simp only[vcs];refine⟨λh=>by rw[Bq hf (.inl h)];exact⟨rfl,rfl⟩,λh0=>⟨λh=>by rw[Bq hf (.inr h)];exact⟨rfl,rfl⟩,λh1=>⟨by omega,λh=>absurd hfe h,λ_=>⟨λh=>?_,λhb=>?_⟩⟩⟩⟩
  ·have hs:¬((⟨ch,val,found,prf,err⟩:cK).err≠0\/(⟨ch,val,found,prf,err⟩:cK).found=true):=by
    rintro(h|h);·exact h0 h
    ·rw[show found=true from h] at h1;cases h1
   rw[Vz hf hs (by rw[<-hfo];exact h)];refine⟨ha.1,ha.2,by omega,?_,rfl⟩;simp only[γe];rfl
  ·have hs:¬((⟨ch,val,found,prf,err⟩:cK).err≠0\/(⟨ch,val,found,prf,err⟩:cK).found=true):=by
    rintro(h|h);·exact h0 h
    ·rw[show found=true from h] at h1;cases h1
   have hbf:iD p fx=true:=by rw[<-hfo];exact hb
   have hfix:=hf.ok hbf;have eB:ki p fx=bu (jR p fx):=by unfold ki;rw[if_pos hb]
   have eS:kj p fx=fL (dA p fx):=by unfold kj dA;rw[if_pos hb]
   have eP:ra p fx=fL (yP p fx):=by unfold ra;rw[if_pos hb]
   have hsl:(dA p fx).length=fx.length:=sa;have oS:pE (fL (dA p fx)):=⟨dA p fx,rfl,by rw[fN];omega,λq hq=>by
    obtain⟨i,hi,rfl⟩:=δc hq;have:=(Fa hfix hf.r (i:=i) (by omega)).2.2;rwa [cQ hi] at this⟩;have fB:de (bu (jR p fx)):=ei (VI hb) (by omega);have fI:∀v:Int,0<=v->v<=9223372036854775807->de (bu (γa v)):=λv h0 h1=>ei (VH (by omega) h1) (by omega);have hcv:∀v:Int,jc (jR p fx) (γa v)<0↔jR p fx<((v:Int):Rat):=λv=>uO;simp only[eB,eS,eP,mh,kN,fa];have hcm:eA (dA p fx)=(pD p fx).chosen:=rfl;refine⟨by omega,by omega,⟨fB,fI _ (by omega) (by omega)⟩,λhge=>⟨oS,λhi=>?_,λhi=>?_⟩,λhlt=>?_⟩
   ·have hO:dj p (cy (some m)) ⟨ch,val,found,prf,err⟩ fx=dT (cy (some m)) ⟨ch,val,found,prf,err⟩ ⟨eA (dA p fx),bV ((eA (dA p fx)).map (oI p))⟩:=by
     unfold dj;rw[if_pos ⟨ζn.1 λh=>absurd ((hcv (val+1)).2 h) (Int.not_lt.2 hge),hi⟩];rfl
    have hok':fe (dG.upd ⟨p,ch,val,found,(some m),prf.length,fx.length,most,err,prf,fx⟩ (dj p (cy (some m)) ⟨ch,val,found,prf,err⟩ fx)):=hok.VA;rw[hO] at hok';obtain⟨e1,e2,_⟩:=@Fe (cy (some m)) ⟨ch,val,found,prf,err⟩ ⟨eA (dA p fx),bV ((eA (dA p fx)).map (oI p))⟩;generalize dT (cy (some m)) ⟨ch,val,found,prf,err⟩ ⟨eA (dA p fx),bV ((eA (dA p fx)).map (oI p))⟩=O at*;obtain⟨ch',val',found',prf',tf⟩:=O;have e1:prf=prf':=Eq.symm e1;have e2:err=tf:=Eq.symm e2;subst e1;subst e2;have w0:0<=val':=hok'.v0;have w1:val'<=9223372036854775806:=hok'.v1;dsimp only;refine⟨⟨hok,oS,by rw[fN];omega⟩,by omega,by omega,⟨fB,fI _ (by omega) (by omega)⟩,?_⟩;refine⟨λh=>?_,λh=>⟨oS,λhk=>?_,λhk=>⟨by omega,λhm=>?_,λhm=>?_⟩⟩⟩
    ·rw[yV hf hs hbf hO ((hcv _).1 h)];refine⟨ha.1,ha.2,by omega,?_,rfl⟩;simp only[γe];rfl
    ·rw[qk hf hs hbf hO (λh'=>h ((hcv _).2 h')) (.inl (γ1.1 hk |>γR.1))];exact⟨rfl,rfl⟩
    ·rw[qk hf hs hbf hO (λh'=>h ((hcv _).2 h')) (.inr hm)];exact⟨rfl,rfl⟩
    ·obtain⟨k,hk'⟩:=γo.1 hk;rw[yW hf hs hbf hO (λh'=>h ((hcv _).2 h')) hk' hm];simp only[hk',γ6];obtain⟨hk1,hk2,hk3⟩:=td hk';rw[hsl] at hk1;have hk0:bj fx k.toNat 0=0:=tc hfix hf.r (by omega) hk2 hk3;have n1:=mC hk1 hk0 (d:=1) (by omega);have n2:=mC hk1 hk0 (d:= -1) (by omega);have hl2:((prf++[zN,zN]).set a.toNat (km k prf.length)).length=prf.length+2:=by rw[γe,ν];rfl
     have hl1:(prf++[zN,zN]).length=prf.length+2:=by rw[ν];rfl
     have o1:=fe.spl (x:=⟨p,ch',val',found',(some m),prf.length,fx.length,most,tf,prf,fx⟩) hok' (k:=(prf++[zN,zN]).length) (l:=(prf++[zN,zN]).set a.toNat (km k prf.length)) hm (by rw[hl1,hl2]) hl2;have o2:=o1.vis (f:=fx.set k.toNat 1) (hf.set (by omega)) (n:=nF (fx.set k.toNat 1)) (a:=(prf.length:Int)+1);have o3:=(@sd p (cy (some m)) most (nF (fx.set k.toNat 1)) (gv ⟨ch',val',found',prf,tf⟩ a k) ((prf.length:Int)+1) (fx.set k.toNat 1) (hf.set (by omega))).1;have o4:prf.length+2<=(dE p (cy (some m)) most (nF (fx.set k.toNat 1)) (gv ⟨ch',val',found',prf,tf⟩ a k) ((prf.length:Int)+1) (fx.set k.toNat 1)).prf.length:=by rw[<-hl2];exact o3
     have q1:a<((prf++[zN,zN]).length:Int):=by omega
     have q3:(prf.length:Int)+1<(((prf++[zN,zN]).set a.toNat (km k prf.length)).length:Int):=by rw[hl2];omega
     have q2:a.toNat<(prf++[zN,zN]).length:=by omega
     exact⟨by omega,by omega,by omega,ha.1,q1,q2,by omega,⟨o1,⟨by omega,q3⟩,hk1,hk0,.inl trivial,by omega⟩,⟨o2,⟨by omega,εY.2 (γu (by omega) o4)⟩,hk1,hk0,.inr trivial,by omega⟩,rfl,rfl⟩
   ·have hO:dj p (cy (some m)) ⟨ch,val,found,prf,err⟩ fx=⟨ch,val,found,prf,err⟩:=by
     unfold dj;rw[if_neg (λh=>by rw[h.2] at hi;cases hi)]
    refine⟨⟨fB,fI _ (by omega) (by omega)⟩,?_⟩;refine⟨λh=>?_,λh=>⟨oS,λhk=>?_,λhk=>⟨by omega,λhm=>?_,λhm=>?_⟩⟩⟩
    ·rw[yV hf hs hbf hO ((hcv _).1 h)];refine⟨ha.1,ha.2,by omega,?_,rfl⟩;simp only[γe];rfl
    ·rw[qk hf hs hbf hO (λh'=>h ((hcv _).2 h')) (.inl (γ1.1 hk |>γR.1))];exact⟨rfl,rfl⟩
    ·rw[qk hf hs hbf hO (λh'=>h ((hcv _).2 h')) (.inr hm)];exact⟨rfl,rfl⟩
    ·obtain⟨k,hk'⟩:=γo.1 hk;rw[yW hf hs hbf hO (λh'=>h ((hcv _).2 h')) hk' hm];simp only[hk',γ6];obtain⟨hk1,hk2,hk3⟩:=td hk';rw[hsl] at hk1;have hk0:bj fx k.toNat 0=0:=tc hfix hf.r (by omega) hk2 hk3;have n1:=mC hk1 hk0 (d:=1) (by omega);have n2:=mC hk1 hk0 (d:= -1) (by omega);have hl2:((prf++[zN,zN]).set a.toNat (km k prf.length)).length=prf.length+2:=by rw[γe,ν];rfl
     have hl1:(prf++[zN,zN]).length=prf.length+2:=by rw[ν];rfl
     have o1:=fe.spl hok (k:=(prf++[zN,zN]).length) (l:=(prf++[zN,zN]).set a.toNat (km k prf.length)) hm (by rw[hl1,hl2]) hl2;have o2:=o1.vis (f:=fx.set k.toNat 1) (hf.set (by omega)) (n:=nF (fx.set k.toNat 1)) (a:=(prf.length:Int)+1);have o3:=(@sd p (cy (some m)) most (nF (fx.set k.toNat 1)) (gv ⟨ch,val,found,prf,err⟩ a k) ((prf.length:Int)+1) (fx.set k.toNat 1) (hf.set (by omega))).1;have o4:prf.length+2<=(dE p (cy (some m)) most (nF (fx.set k.toNat 1)) (gv ⟨ch,val,found,prf,err⟩ a k) ((prf.length:Int)+1) (fx.set k.toNat 1)).prf.length:=by rw[<-hl2];exact o3
     have q1:a<((prf++[zN,zN]).length:Int):=by omega
     have q3:(prf.length:Int)+1<(((prf++[zN,zN]).set a.toNat (km k prf.length)).length:Int):=by rw[hl2];omega
     have q2:a.toNat<(prf++[zN,zN]).length:=by omega
     exact⟨by omega,by omega,by omega,ha.1,q1,q2,by omega,⟨o1,⟨by omega,q3⟩,hk1,hk0,.inl trivial,by omega⟩,⟨o2,⟨by omega,εY.2 (γu (by omega) o4)⟩,hk1,hk0,.inr trivial,by omega⟩,rfl,rfl⟩
   ·have hO:dj p (cy (some m)) ⟨ch,val,found,prf,err⟩ fx=⟨ch,val,found,prf,err⟩:=by
     unfold dj;rw[if_neg (λh=>ζn.2 h.1 ((hcv (val+1)).1 (Int.not_le.1 hlt)))]
    refine⟨⟨fB,fI _ (by omega) (by omega)⟩,?_⟩;refine⟨λh=>?_,λh=>⟨oS,λhk=>?_,λhk=>⟨by omega,λhm=>?_,λhm=>?_⟩⟩⟩
    ·rw[yV hf hs hbf hO ((hcv _).1 h)];refine⟨ha.1,ha.2,by omega,?_,rfl⟩;simp only[γe];rfl
    ·rw[qk hf hs hbf hO (λh'=>h ((hcv _).2 h')) (.inl (γ1.1 hk |>γR.1))];exact⟨rfl,rfl⟩
    ·rw[qk hf hs hbf hO (λh'=>h ((hcv _).2 h')) (.inr hm)];exact⟨rfl,rfl⟩
    ·obtain⟨k,hk'⟩:=γo.1 hk;rw[yW hf hs hbf hO (λh'=>h ((hcv _).2 h')) hk' hm];simp only[hk',γ6];obtain⟨hk1,hk2,hk3⟩:=td hk';rw[hsl] at hk1;have hk0:bj fx k.toNat 0=0:=tc hfix hf.r (by omega) hk2 hk3;have n1:=mC hk1 hk0 (d:=1) (by omega);have n2:=mC hk1 hk0 (d:= -1) (by omega);have hl2:((prf++[zN,zN]).set a.toNat (km k prf.length)).length=prf.length+2:=by rw[γe,ν];rfl
     have hl1:(prf++[zN,zN]).length=prf.length+2:=by rw[ν];rfl
     have o1:=fe.spl hok (k:=(prf++[zN,zN]).length) (l:=(prf++[zN,zN]).set a.toNat (km k prf.length)) hm (by rw[hl1,hl2]) hl2;have o2:=o1.vis (f:=fx.set k.toNat 1) (hf.set (by omega)) (n:=nF (fx.set k.toNat 1)) (a:=(prf.length:Int)+1);have o3:=(@sd p (cy (some m)) most (nF (fx.set k.toNat 1)) (gv ⟨ch,val,found,prf,err⟩ a k) ((prf.length:Int)+1) (fx.set k.toNat 1) (hf.set (by omega))).1;have o4:prf.length+2<=(dE p (cy (some m)) most (nF (fx.set k.toNat 1)) (gv ⟨ch,val,found,prf,err⟩ a k) ((prf.length:Int)+1) (fx.set k.toNat 1)).prf.length:=by rw[<-hl2];exact o3
     have q1:a<((prf++[zN,zN]).length:Int):=by omega
     have q3:(prf.length:Int)+1<(((prf++[zN,zN]).set a.toNat (km k prf.length)).length:Int):=by rw[hl2];omega
     have q2:a.toNat<(prf++[zN,zN]).length:=by omega
     exact⟨by omega,by omega,by omega,ha.1,q1,q2,by omega,⟨o1,⟨by omega,q3⟩,hk1,hk0,.inl trivial,by omega⟩,⟨o2,⟨by omega,εY.2 (γu (by omega) o4)⟩,hk1,hk0,.inr trivial,by omega⟩,rfl,rfl⟩
theorem ME:∀n,dJ Tryz.prog (wE n)
 |0=>λa ha=>absurd ha.2.2 (by omega)
 |n+1=>afX (afR (ME n))
theorem wF {p:bp} (hc:bC p=0) {c:List Int} (hf:dc p c=0):0<=ez p c/\ez p c<=160000000/\c.length<=160:=by
 obtain⟨_,ha⟩:=uL hf;have h160:=(dn hc).2.1;have hl:c.length<=p.offers.length:=yJ ha;have h1:=sP (dn hc) (l:=c.map (oI p)) λx hx=>by
  obtain⟨i,hi,rfl⟩:=γg.1 hx;have:=ha.2 i hi;exact cO (by omega)
 rw[γB] at h1;rw[yS hc ha];have e:bV (c.map (oI p))=bV (ca p c):=rfl;omega
theorem MF {p:bp} (hc:bC p=0):(jO p).length<=160:=(wF hc (Uw hc)).2.2
theorem afY {p:bp} {c:List Int} {most:Int} {k:Nat} (hc:bC p=0) (hf:dc p c=0) (m0:1<=most) (m1:most<=65536) (hk:k=p.offers.length):fe ⟨p,(jB p c).ch,(jB p c).val,(jB p c).found,none,(jB p c).prf.length,k,most,(jB p c).err,(jB p c).prf,iE p⟩:=by
 have h1:=K6 hc hf;have h2:=Br hc;have hG:dc p (jB p c).ch=0/\ez p (jB p c).ch=(jB p c).val:=
  yY (G:=λc w _=>dc p c=0/\ez p c=w) (λ_ _ _ _ _ _ h1 h2 _=>⟨h1,h2⟩) (yY (G:=λc w _=>dc p c=0/\ez p c=w) (λ_ _ _ _ _ _ h1 h2 _=>⟨h1,h2⟩) (s:=⟨c,ez p c,false,[zN],0⟩) ⟨hf,rfl⟩ h1.2.1 h1.2.2.1) h2.1 h2.2;obtain⟨b0,b1,b2⟩:=wF hc hG.1;obtain⟨e1,_,_⟩:=@MB p c;rw[hG.2] at b0 b1;exact⟨ql hc,rfl,by rw[hk];exact(γS).symm,b0,by show(jB p c).val<=_;omega,m0,m1,by show(jB p c).prf.length<=_;rw[e1];decide,by show(jB p c).ch.length<=_;omega⟩
theorem afZ {p:bp} {m most:Int} {k:Nat} (hc:bC p=0) (hm:0<m/\m<=9223372036854775807) (m0:1<=most) (m1:most<=65536) (hk:k=p.offers.length):fe ⟨p,(jC p m).ch,(jC p m).val,(jC p m).found,some m,(jC p m).prf.length,k,most,(jC p m).err,(jC p m).prf,iE p⟩:=by
 have h2:=Br hc;have hG:(0<=(jC p m).val/\(jC p m).val<=9223372036854775806)/\(jC p m).ch.length<=160:=
  yY (G:=λc w _=>(0<=w/\w<=9223372036854775806)/\c.length<=160) (λ_ _ _ c' w' _ h1 h2 _=>by
   obtain⟨b0,b1,b2⟩:=wF hc h1;omega) (s:=⟨[],m - 1,false,[zN],0⟩) ⟨⟨by show 0<=m - 1;omega,by show m - 1<=_;omega⟩,by show([]:List Int).length<=160;decide⟩ h2.1 h2.2;obtain⟨e1,_⟩:=@MC p m;exact⟨ql hc,rfl,by rw[hk];exact(γS).symm,hG.1.1,hG.1.2,m0,m1,by show(jC p m).prf.length<=_;rw[e1];decide,by show(jC p m).ch.length<=_;omega⟩
noncomputable def MG:bL:=⟨52,bp×Alloc×Int,.cons cY (.cons lV (.one (dX .i64))),λa=>a.1.offers.length<=40/\a.2.1.chosen.length<=9223372036854775807,
 λa=> .bH [.agg [.row (.i .i64) (if kp a.1 a.2.1.chosen a.2.2=0 then(iF a.1 a.2.1.chosen a.2.2).ch else[]),.si .i64 (if kp a.1 a.2.1.chosen a.2.2=0 then(iF a.1 a.2.1.chosen a.2.2).val else 0)],.row ek (if kp a.1 a.2.1.chosen a.2.2=0 then(iF a.1 a.2.1.chosen a.2.2).prf else[]),.si .i64 (kp a.1 a.2.1.chosen a.2.2)]⟩
theorem h429:Holds Tryz.prog MG:=by
 refine con (L:=[zU,LU,A5,A4]) (W:=fQ [Bm,wE 161]) MG lk (kZ (by simpa using⟨h439,ME 161⟩)) (by simpa using⟨h100,h437,h315,h312⟩) ?_;rintro⟨p,⟨c,v⟩,most⟩ ⟨h40,hcl⟩;simp only at h40 hcl;refine bO (let a:=(0:Int);let b:=Ξ .i64;let d:=(140737488355328:Int);let e:=(1000000000000:Int);let f:=(1:Int);let g:=Ψ;let h:=γG;let j:=SV.bH;let r:=bn.i .i64;let n:=g r [];let o:=γr .i64 0;let s:=iF p c most;let w:=j [h [g r (if kp p c most=a then s.ch else[]),b (if kp p c most=a then s.val else a)],g ek (if kp p c most=a then s.prf else[]),b (kp p c most)];let l:=(↑p.offers.length:Int);let q:=ε l.toNat a;let t:=dT (cy none) (cK.mk c (ez p c) false [(a,a,a,a,[])] a) (gu p c);let k:=dT (cy none) t (gu p (jO p));let m:=dE p (cy none) most (nF q) k a q;let x:=decide (dc p c≠a);let y:=decide (most<f);let z:=decide ((65536:Int)<most);let A:=0+c.length;let B:=(j [h [n,o],n,γr .i64 4]).same w;let v:=λ(u:List Int) (u_1 u_2 u_3:SV) ↦(j [h [g r u,u_1],u_2,u_3]).same w;let C:=λ(u:Bool) ↦decide (m.err≠a)=u;c.length<=9223372036854775807/\(x=true->v [] o n (b (dc p c)))/\(x=false->(y=true->B)/\(y=false->(z=true->B)/\(z=false->0=0/\A*8<=140737488355328/\A<=1000000000000/\(bC p=a/\c.length<=9223372036854775807)/\a<=f/\f<=f/\(56:Int)<=d/\f<=e/\a<=l/\l<=l/\l*(8:Int)<=d/\l<=e/\c.length=c.length/\c.length=c.length/\c.length<=9223372036854775807/\1=1/\p.offers.length<=40/\(jO p).length<=9223372036854775807/\t.prf.length=t.prf.length/\(fe (dG.mk p k.ch k.val k.found none k.prf.length l.toNat most k.err k.prf q)/\(a<=a/\a<(↑k.prf.length:Int))/\nF q<161)/\(C true->v [] o n (b m.err))/\(C false->m.prf.length=m.prf.length/\v m.ch (b m.val) (g ek m.prf) o))))) (by kernel_rfl) ?_;simp only[vcs];have hz:(ε ((p.offers.length:Int)).toNat 0:List Int)=iE p:=by unfold iE;rw[γt]
 have e0:dT (cy none) (dT (cy none) ⟨c,ez p c,false,[(0,(0,(0,(0,[]))))],0⟩ (gu p c)) (gu p (jO p))=jB p c:=rfl;have en:nF (iE p)=p.offers.length:=yX;simp only[hz,e0,en];refine⟨hcl,λh=>?_,λh=>⟨λh1=>?_,λh1=>⟨λh2=>?_,λh2=>?_⟩⟩⟩
 ·have e:kp p c most=dc p c:=by unfold kp;rw[if_pos h]
  rw[e,if_neg h,if_neg h,if_neg h];exact⟨rfl,rfl,rfl⟩
 ·have e:kp p c most=4:=by unfold kp;rw[if_neg h,if_pos (.inl h1)]
  rw[e];exact⟨rfl,rfl,rfl⟩
 ·have e:kp p c most=4:=by unfold kp;rw[if_neg h,if_pos (.inr h2)]
  rw[e];exact⟨rfl,rfl,rfl⟩
 ·have hf:dc p c=0:=ω.1 h;have hc:bC p=0:=(uL hf).1;obtain⟨b0,b1,b2⟩:=wF hc hf;obtain⟨e1,e2,e3⟩:=@MB p c;have e:kp p c most=(iF p c most).err:=by unfold kp;rw[if_neg h,if_neg (by omega)]
  have hv:dE p (cy none) most p.offers.length (jB p c) 0 (iE p)=iF p c most:=rfl;have hst:=MF hc;rw[hv,e];refine⟨by omega,by omega,⟨hc,hcl⟩,by omega,by omega,by omega,by omega,by omega,by omega,by omega,by omega,hcl,h40,by omega,⟨afY hc hf (by omega) (by omega) (by omega),⟨by omega,by rw[e1];decide⟩,by omega⟩,λh3=>?_,λh3=>?_⟩
  ·rw[if_neg h3,if_neg h3,if_neg h3];exact⟨rfl,rfl,rfl⟩
  ·rw[ω] at h3;rw[h3];exact⟨rfl,rfl,rfl⟩
noncomputable def MH:bL:=⟨93,bp×Int×Int,.cons cY (.cons (dX .i64) (.one (dX .i64))),λa=>a.1.offers.length<=40/\ -9223372036854775808<=a.2.1/\a.2.1<=9223372036854775807,
 λa=> .bH [.agg [.row (.i .i64) (oD a.1 a.2.1 a.2.2).chosen,.si .i64 (oD a.1 a.2.1 a.2.2).value],.sb (jT a.1 a.2.1 a.2.2),.si .i64 (iU a.1 a.2.1 a.2.2)]⟩
theorem h434:Holds Tryz.prog MH:=by
 refine con (L:=[pV,A5,A4]) (W:=fQ [Bm,wE 161]) MH lk (kZ (by simpa using⟨h439,ME 161⟩)) (by simpa using⟨h79,h315,h312⟩) ?_;rintro⟨p,m,most⟩ ⟨h40,m0,m1⟩;simp only at h40 m0 m1;refine bO (let a:=(0:Int);let b:=Ξ .i64;let c:=(1:Int);let d:=(140737488355328:Int);let e:=SV.bH;let f:=(1000000000000:Int);let g:=γr .i64;let h:=Ψ;let j:=γG;let t:=bn.i .i64;let r:=[g 0];let l:=e [j [h t (oD p m most).chosen,b (oD p m most).value],γI (jT p m most),b (iU p m most)];let o:=j (h t []::r);let q:=δw false;let k:=dT (cy (some m)) (cK.mk [] (m - c) false [(a,a,a,a,[])] a) (gu p (jO p));let v:=decide (bC p≠a);let w:=decide (most<c);let x:=decide ((65536:Int)<most);let y:=decide (m<=a);let n:=(↑p.offers.length:Int);let s:=ε n.toNat a;let z:=λ(u:cK) ↦let A:=decide (u.err≠a);(u.found=true->(e (j [h t u.ch,b u.val]::δw true::r)).same l)/\(u.found=false->(A=true->(e [o,q,b u.err]).same l)/\(A=false->(e (o::q::r)).same l));let B:=λ(u:Bool) ↦(!k.found)=u;True/\(v=true->(e [o,q,b (bC p)]).same l)/\(v=false->(w=true->(e [o,q,g 4]).same l)/\(w=false->(x=true->(e [o,q,g 4]).same l)/\(x=false->(y=true->(e (o::δw true::r)).same l)/\(y=false->bW .i64 (m - c)/\a<=c/\c<=c/\(56:Int)<=d/\c<=f/\a<=n/\n<=n/\n*(8:Int)<=d/\n<=f/\0=0/\p.offers.length<=40/\(jO p).length<=9223372036854775807/\1=1/\(B true->(fe (dG.mk p k.ch k.val k.found (some m) k.prf.length n.toNat most k.err k.prf s)/\(a<=a/\a<(↑k.prf.length:Int))/\nF s<161)/\z (dE p (cy (some m)) most (nF s) k a s))/\(B false->z k)))))) (by kernel_rfl) ?_;simp only[vcs];have hz:(ε ((p.offers.length:Int)).toNat 0:List Int)=iE p:=by unfold iE;rw[γt]
 have e0:dT (cy (some m)) ⟨[],m - 1,false,[(0,(0,(0,(0,[]))))],0⟩ (gu p (jO p))=jC p m:=rfl;have en:nF (iE p)=p.offers.length:=yX;simp only[hz,e0,en];have key:∀e:Int,iU p m most=e->jT p m most=(decide (e=0)&&(decide (m<=0)||(fO p m most).found)):=λe h=>by unfold jT;rw[h]
 have lr:jT p m most=false\/m<=0->oD p m most=⟨[],0⟩:=λh=>by
  unfold oD;rw[if_neg];rintro⟨h1,h2⟩;rcases h with h|h;·rw[h] at h1;cases h1
  ·omega
 refine⟨λh=>?_,λh=>⟨λh1=>?_,λh1=>⟨λh2=>?_,λh2=>⟨λh3=>?_,λh3=>?_⟩⟩⟩⟩
 ·have e:iU p m most=bC p:=by unfold iU;rw[if_pos h]
  have f:jT p m most=false:=by rw[key _ e,decide_eq_false h];rfl
  rw[e,f,lr (.inl f)];exact⟨rfl,rfl,rfl⟩
 ·have e:iU p m most=4:=by unfold iU;rw[if_neg h,if_pos (.inl h1)]
  have f:jT p m most=false:=by rw[key _ e];rfl
  rw[e,f,lr (.inl f)];exact⟨rfl,rfl,rfl⟩
 ·have e:iU p m most=4:=by unfold iU;rw[if_neg h,if_pos (.inr h2)]
  have f:jT p m most=false:=by rw[key _ e];rfl
  rw[e,f,lr (.inl f)];exact⟨rfl,rfl,rfl⟩
 ·have e:iU p m most=0:=by unfold iU;rw[if_neg h,if_neg (by omega),if_pos h3]
  have f:jT p m most=true:=by rw[key _ e,decide_eq_true h3];rfl
  rw[e,f,lr (.inr h3)];exact⟨rfl,rfl,rfl⟩
 ·have hc:bC p=0:=ω.1 h;obtain⟨e1,e2⟩:=@MC p m;have hv:dE p (cy (some m)) most p.offers.length (jC p m) 0 (iE p)=fO p m most:=rfl;have hst:=MF hc;have hE:iU p m most=if(fO p m most).found=true then 0 else(fO p m most).err:=by unfold iU;rw[if_neg h,if_neg (by omega),if_neg h3]
  have tail:((fO p m most).found=true->(γG [Ψ (bn.i .i64) (fO p m most).ch,Ξ .i64 (fO p m most).val]).same (γG [Ψ (bn.i .i64) (oD p m most).chosen,Ξ .i64 (oD p m most).value])/\true=jT p m most/\0=iU p m most)/\
    ((fO p m most).found=false->((fO p m most).err≠0->(γG [Ψ (bn.i .i64) [],γr .i64 0]).same (γG [Ψ (bn.i .i64) (oD p m most).chosen,Ξ .i64 (oD p m most).value])/\false=jT p m most/\(fO p m most).err=iU p m most)/\
     (¬(fO p m most).err≠0->(γG [Ψ (bn.i .i64) [],γr .i64 0]).same (γG [Ψ (bn.i .i64) (oD p m most).chosen,Ξ .i64 (oD p m most).value])/\false=jT p m most/\0=iU p m most)):=by
   refine⟨λhf=>?_,λhf=>⟨λhe=>?_,λhe=>?_⟩⟩
   ·rw[if_pos hf] at hE;have f:jT p m most=true:=by rw[key _ hE,hf,Bool.or_true];rfl
    have a:oD p m most=⟨(fO p m most).ch,(fO p m most).val⟩:=by unfold oD;rw[if_pos ⟨f,by omega⟩]
    rw[hE,f,a];exact⟨rfl,rfl,rfl⟩
   ·rw[if_neg (by rw[hf];simp)] at hE;have f:jT p m most=false:=by rw[key _ hE,decide_eq_false he];rfl
    rw[hE,f,lr (.inl f)];exact⟨rfl,rfl,rfl⟩
   ·rw[if_neg (by rw[hf];simp),ω.1 he] at hE;have f:jT p m most=false:=by rw[key _ hE,hf,decide_eq_false h3];rfl
    rw[hE,f,lr (.inl f)];exact⟨rfl,rfl,rfl⟩
  rw[hv];refine⟨by omega,by omega,by omega,by omega,by omega,by omega,by omega,by omega,by omega,h40,by omega,λh4=>⟨⟨afZ hc (by omega) (by omega) (by omega) (by omega),⟨by omega,by rw[e1];decide⟩,by omega⟩,tail⟩,λh4=>?_⟩;have hb:fO p m most=jC p m:=by
   have:=Bq (f:=iE p) (en:=cy (some m)) (most:=most) (a:=0) (ql hc) (.inr h4);rw[en] at this;exact this
  rw[hb] at tail;exact tail
structure jf where
 left:bz
 opn:bz
 chosen:List Int
 value:Int
 won:List Bool
def nd (c w cl:Int):Int:=if c=0\/c≠cl then w else 0
def wG (p:bp) (x:Off):bz:=⟨nd p.cls.a0 x.want.a0 (hZ p x),nd p.cls.a1 x.want.a1 (hZ p x),nd p.cls.a2 x.want.a2 (hZ p x),nd p.cls.a3 x.want.a3 (hZ p x),nd p.cls.a4 x.want.a4 (hZ p x),nd p.cls.a5 x.want.a5 (hZ p x)⟩
def bz.pos (b:bz):Bool:=decide (0<=b.a0)&&decide (0<=b.a1)&&decide (0<=b.a2)&&decide (0<=b.a3)&&decide (0<=b.a4)&&decide (0<=b.a5)
def fS (p:bp) (u:jf) (x:Off):bz:=(u.opn.sub (wG p x)).meet (u.left.sub x.want)
def iM (p:bp) (u:jf) (x:Off):Bool:=!(bj u.won x.bE.toNat false)&&((u.left.sub x.want).pos&&(fS p u x).pos)
def eX (p:bp) (u:jf) (i:Int):jf:=⟨u.left.sub (oI p i).want,fS p u (oI p i),u.chosen++[i],u.value+(oI p i).value,u.won.set (oI p i).bE.toNat true⟩
def gw (p:bp) (u:jf) (k:Nat):bp:=⟨u.left,u.opn,p.cls,p.classes,(p.offers.drop k).filter (iM p u)⟩
theorem MI {x:bz}:dP [x]=x:=by simp[dP]
theorem six {P:Nat->Prop} (h0:P 0) (h1:P 1) (h2:P 2) (h3:P 3) (h4:P 4) (h5:P 5):∀k,k<6->P k:=by
 intro k hk;rcases(show k=0\/k=1\/k=2\/k=3\/k=4\/k=5 by omega) with rfl|rfl|rfl|rfl|rfl|rfl;·exact h0
 ·exact h1
 ·exact h2
 ·exact h3
 ·exact h4
 ·exact h5
theorem Bt {a b:bz}:∀k,k<6->(a.sub b).at k=a.at k - b.at k:=six rfl rfl rfl rfl rfl rfl
theorem yZ {a b:bz}:∀k,k<6->(a.add b).at k=a.at k+b.at k:=six rfl rfl rfl rfl rfl rfl
theorem VJ {a b:bz}:∀k,k<6->(a.meet b).at k=min (a.at k) (b.at k):=six rfl rfl rfl rfl rfl rfl
theorem MJ {p:bp} {x:Off}:∀k,k<6->(wG p x).at k=nd (p.cls.at k) (x.want.at k) (hZ p x):=six rfl rfl rfl rfl rfl rfl
theorem FA {p:bp} {x:Off}:∀k,k<6->(dU p x).at k=if p.cls.at k=0\/p.cls.at k=hZ p x then 0 else x.want.at k:=by
 refine six ?_ ?_ ?_ ?_ ?_ ?_<;>(show oc _ _ _ _ _=_;unfold oc;simp only[show((0:Int)<6)=True by simp,show((1:Int)<6)=True by simp,show((2:Int)<6)=True by simp,show((3:Int)<6)=True by simp,show((4:Int)<6)=True by simp,show((5:Int)<6)=True by simp,true_and];rfl)
theorem VK {b:bz}:b.pos=true↔∀k,k<6->0<=b.at k:=by
 unfold bz.pos;simp only[ζ,decide_eq_true_eq];constructor
 ·rintro⟨⟨⟨⟨⟨h0,h1⟩,h2⟩,h3⟩,h4⟩,h5⟩;exact six h0 h1 h2 h3 h4 h5
 ·intro h;exact⟨⟨⟨⟨⟨h 0 (by omega),h 1 (by omega)⟩,h 2 (by omega)⟩,h 3 (by omega)⟩,h 4 (by omega)⟩,h 5 (by omega)⟩
theorem y5 {b:bz}:b.ok=true↔∀k,k<6->0<=b.at k/\b.at k<=4:=by
 rw[bz.eL];constructor
 ·rintro⟨h0,h1,h2,h3,h4,h5⟩;exact six h0 h1 h2 h3 h4 h5
 ·intro h;exact⟨h 0 (by omega),h 1 (by omega),h 2 (by omega),h 3 (by omega),h 4 (by omega),h 5 (by omega)⟩
theorem MK {p:bp} {k:Nat} (hk:k<6):∀L:List Off,(dP (L.map (wG p))).at k=if p.cls.at k=0 then(dP (L.map Off.want)).at k else(dP (L.map (dU p))).at k:=by
 intro L;rw[nB,nB,nB];induction L with
 |nil=>simp;|cons x L ih=>
  simp only[ι,εr];rw[ih,MJ k hk,FA k hk];unfold nd;by_cases h:p.cls.at k=0;·simp[h]
  ·simp only[h,false_or,if_false];by_cases h2:p.cls.at k=hZ p x;·simp[h2]
   ·simp[h2]
theorem ML {p:bp} {k:Nat} (hk:k<6) (h0:p.cls.at k=0):∀L:List Off,(dP (L.map (dU p))).at k=0:=by
 intro L;rw[nB];induction L with
 |nil=>simp;|cons x L ih=>
  simp only[ι,εr];rw[ih,FA k hk,if_pos (.inl h0)];rfl
theorem FB {p:bp} (hg:Good p) {k:Nat} (hk:k<6):∀{L:List Off},(∀x∈L,x∈p.offers)->0<=(dP (L.map Off.want)).at k/\(dP (L.map (dU p))).at k<=(dP (L.map Off.want)).at k/\0<=(dP (L.map (dU p))).at k:=by
 intro L;rw[nB,nB];induction L with
 |nil=>intro _;simp;|cons x L ih=>
  intro h;have i1:=ih λy hy=>h y (δa _ hy);have hw:=(y5.1 (hg.2.2.2.2 x (h x (εK ..))).2.2.1 k hk);simp only[ι,εr];rw[FA k hk];split<;>omega
theorem wH {p:bp} (hc:bC p=0) {k:Nat} (hk:k<6):0<=p.cls.at k/\p.cls.at k<=4/\0<=p.opn.at k/\p.opn.at k<=p.supply.at k/\(p.cls.at k=0->p.opn.at k=p.supply.at k):=by
 have h:=od.1 ((ui (vK hc).1).2.1 k hk);exact⟨h.1,h.2.1,h.2.2.1,h.2.2.2.1,λh0=>by rcases h.2.2.2.2 with h1|h1;exact absurd h0 h1;exact h1⟩
theorem FC {a b:bz}:a.le b=true↔∀k,k<6->a.at k<=b.at k:=⟨λh k _=>IY h k,Jb⟩
structure sf (p:bp) (u:jf):Prop where
 f:lB p u.chosen
 v:u.value=bV (ca p u.chosen)
 l:∀k,k<6->u.left.at k=p.supply.at k - (dP ((ca p u.chosen).map Off.want)).at k
 o:∀k,k<6->u.opn.at k=min (p.opn.at k - (dP ((ca p u.chosen).map (wG p))).at k) (u.left.at k)
 wl:u.won.length=8
 w:∀b:Int,0<=b->b<8->bj u.won b.toNat false=decide (b∈(ca p u.chosen).map Off.bE)
theorem MM {p:bp} {t:List Int} (h:kG 0 p.offers.length t):∀x∈ca p t,x∈p.offers:=λx hx=>by
 obtain⟨i,hi,rfl⟩:=γg.1 hx;have:=h.2 i hi;exact cO (by omega)
section
variable {p:bp} {u:jf}
theorem MN {L M:List Off}:iJ p (L++M)↔((L.map Off.bE++M.map Off.bE).Nodup/\(∀k,k<6->(dP (L.map Off.want)).at k+(dP (M.map Off.want)).at k<=p.supply.at k)/\∀k,k<6->(dP (L.map (dU p))).at k+(dP (M.map (dU p))).at k<=p.opn.at k):=by
 unfold iJ;rw[γb,γb,γb,vM,vM,FC,FC];constructor
 ·rintro⟨h1,h2,h3⟩;exact⟨h1,λk hk=>by rw[<-yZ k hk];exact h2 k hk,λk hk=>by rw[<-yZ k hk];exact h3 k hk⟩
 ·rintro⟨h1,h2,h3⟩;exact⟨h1,λk hk=>by rw[yZ k hk];exact h2 k hk,λk hk=>by rw[yZ k hk];exact h3 k hk⟩
theorem FD (hc:bC p=0) (hg:sf p u) {x:Off} (hx:x∈p.offers):iM p u x=true↔iJ p (ca p u.chosen++[x]):=by
 have hgo:=dn hc;have hb:=hgo.2.2.2.2 x hx;have hc8:=hgo.1;have hm:=MM hg.f.1;rw[MN];unfold iM;rw[ζ,ζ,VK,VK,δf,hg.w _ hb.1 (by omega),decide_eq_false_iff_not];simp only[ι,γp,MI];have key:∀k,k<6->((0<=(u.left.sub x.want).at k/\0<=(fS p u x).at k)↔((dP ((ca p u.chosen).map Off.want)).at k+x.want.at k<=p.supply.at k/\(dP ((ca p u.chosen).map (dU p))).at k+(dU p x).at k<=p.opn.at k)):=λk hk=>by
  have e1:=hg.l k hk;have e2:=hg.o k hk;have e3:=MK (p:=p) hk (ca p u.chosen);have e4:=@MJ p x k hk;have e5:=@FA p x k hk;have hp:=wH hc hk;have hw:=y5.1 hb.2.2.1 k hk;have hpos:=FB hgo hk hm;unfold fS;rw[VJ k hk,Bt k hk,Bt k hk,e4,e5];unfold nd;by_cases h0:p.cls.at k=0
  ·have e6:=ML hk h0 (ca p u.chosen);have:=hp.2.2.2.2 h0;simp only[h0,true_or,if_true] at e3 ⊢;omega
  ·simp only[h0,false_or,if_false] at e3 ⊢;by_cases h2:p.cls.at k=hZ p x
   ·simp only[h2,ne_eq,not_true_eq_false,if_false,if_true] at e3 ⊢;omega
   ·simp only[h2,ne_eq,not_false_eq_true,if_true,if_false] at e3 ⊢;omega
 constructor
 ·rintro⟨h1,h2,h3⟩;refine⟨?_,λk hk=>((key k hk).1 ⟨h2 k hk,h3 k hk⟩).1,λk hk=>((key k hk).1 ⟨h2 k hk,h3 k hk⟩).2⟩;rw[γz];refine⟨hg.f.2.1,by simp,?_⟩;intro a ha b hb2;simp only[γw] at hb2;subst hb2;exact λe=>h1 (e▸ha)
 ·rintro⟨h1,h2,h3⟩;refine⟨λhmem=>?_,λk hk=>((key k hk).2 ⟨h2 k hk,h3 k hk⟩).1,λk hk=>((key k hk).2 ⟨h2 k hk,h3 k hk⟩).2⟩;rw[γz] at h1;exact h1.2.2 _ hmem _ (γw.2 rfl) rfl
theorem sf.next (hc:bC p=0) (hg:sf p u) {i:Int} (h0:∀j∈u.chosen,j<i) (hi:0<=i/\i<p.offers.length) (hw:iM p u (oI p i)=true):sf p (eX p u i):=by
 have hx:oI p i∈p.offers:=cO (by omega);have hF:=(FD hc hg hx).1 hw;have hgo:=dn hc;have hb:=hgo.2.2.2.2 _ hx;have hc8:=hgo.1;have e:ca p (u.chosen++[i])=ca p u.chosen++[oI p i]:=by unfold ca;rw[γb];rfl
 refine⟨⟨⟨?_,?_⟩,?_⟩,?_,?_,?_,?_,?_⟩
 ·show(u.chosen++[i]).Pairwise _;rw[γY];exact⟨hg.f.1.1,List.pairwise_singleton _ _,λa ha b hb=>by rw[γw] at hb;subst hb;exact h0 a ha⟩
 ·intro j hj;rcases Γ.1 hj with h|h;·exact hg.f.1.2 j h
  ·rw[γw] at h;subst h;omega
 ·show iJ p (ca p (u.chosen++[i]));rw[e];exact hF
 ·show u.value+_=bV (ca p (u.chosen++[i]));rw[e,o8,hg.v];simp[bV]
 ·intro k hk;show(u.left.sub _).at k=_ - (dP ((ca p (u.chosen++[i])).map Off.want)).at k;rw[e,γb,vM,yZ k hk,Bt k hk,hg.l k hk];simp only[ι,γp,MI];omega
 ·intro k hk;show(fS p u (oI p i)).at k=min (_ - (dP ((ca p (u.chosen++[i])).map (wG p))).at k) ((u.left.sub (oI p i).want).at k);unfold fS;rw[e,γb,vM,yZ k hk,VJ k hk,Bt k hk,Bt k hk,hg.o k hk];simp only[ι,γp,MI];have e4:=@MJ p (oI p i) k hk;have hw:=y5.1 hb.2.2.1 k hk;have:(wG p (oI p i)).at k<=(oI p i).want.at k:=by
   rw[e4];unfold nd;split<;>omega
  omega
 ·show(u.won.set _ true).length=8;rw[γe];exact hg.wl
 ·intro b b0 b8;show bj (u.won.set (oI p i).bE.toNat true) b.toNat false=decide (b∈(ca p (u.chosen++[i])).map Off.bE);have hwl:=hg.wl;rw[e,γb,sX (by omega)];simp only[ι,γp];by_cases h:b=(oI p i).bE
  ·subst h;rw[if_pos rfl];exact(decide_eq_true (δX _ (γw.2 rfl))).symm
  ·rw[if_neg (by omega),hg.w b b0 b8];congr 1;rw[Γ,γw];simp[h]
theorem MO (hc:bC p=0) (hg:sf p u) {k:Nat} {M:List Off} (hM:∀x∈M,x∈p.offers) (hw:∀x∈M,iM p u x=true):iJ (gw p u k) M↔iJ p (ca p u.chosen++M):=by
 have hgo:=dn hc;have hc8:=hgo.1;have hm:=MM hg.f.1;rw[MN];unfold iJ;rw[FC,FC];have eo:∀x:Off,dU (gw p u k) x=dU p x:=λx=>rfl;have eo2:M.map (dU (gw p u k))=M.map (dU p):=rfl;rw[eo2];have key:∀j,j<6->(((dP (M.map Off.want)).at j<=(gw p u k).supply.at j/\(dP (M.map (dU p))).at j<=(gw p u k).opn.at j)↔((dP ((ca p u.chosen).map Off.want)).at j+(dP (M.map Off.want)).at j<=p.supply.at j/\(dP ((ca p u.chosen).map (dU p))).at j+(dP (M.map (dU p))).at j<=p.opn.at j)):=λj hj=>by
  have e1:=hg.l j hj;have e2:=hg.o j hj;have e3:=MK (p:=p) hj (ca p u.chosen);have hp:=wH hc hj;have w1:=FB hgo hj hm;have w2:=FB hgo hj hM;have r1:(gw p u k).supply.at j=u.left.at j:=rfl;have r2:(gw p u k).opn.at j=u.opn.at j:=rfl;rw[r1,r2,e2];by_cases h0:p.cls.at j=0
  ·have e6:=ML hj h0 (ca p u.chosen);have e7:=ML hj h0 M;have:=hp.2.2.2.2 h0;simp only[h0,if_true] at e3;omega
  ·simp only[h0,if_false] at e3;omega
 constructor
 ·rintro⟨h1,h2,h3⟩;refine⟨?_,λj hj=>((key j hj).1 ⟨h2 j hj,h3 j hj⟩).1,λj hj=>((key j hj).1 ⟨h2 j hj,h3 j hj⟩).2⟩;rw[γz];refine⟨hg.f.2.1,h1,?_⟩;intro a ha b hb e;subst e;obtain⟨x,hx,rfl⟩:=γg.1 hb;have h4:=hw x hx;have hb:=hgo.2.2.2.2 x (hM x hx);unfold iM at h4;rw[ζ,δf,hg.w _ hb.1 (by omega),decide_eq_false_iff_not] at h4;exact h4.1 ha
 ·rintro⟨h1,h2,h3⟩;refine⟨(γz.1 h1).2.1,λj hj=>((key j hj).2 ⟨h2 j hj,h3 j hj⟩).1,λj hj=>((key j hj).2 ⟨h2 j hj,h3 j hj⟩).2⟩
theorem af2 {q:bp} (hf:hJ q=0) (h:∀x∈q.offers,jJ q x=0) (hn:(q.offers.map Off.key).Nodup):bC q=0:=by
 have key:∀(l:List Off) (s:List ni),(∀x∈l,jJ q x=0)->(l.map Off.key).Nodup->(∀x∈l,x.key∉s)->gQ q s l=0:=by
  intro l;induction l with
  |nil=>intro s _ _ _;rfl;|cons x l ih=>
   intro s h1 h2 h3;unfold gQ;rw[if_neg (by rw[h1 x (εK ..)];simp),if_neg (h3 x (εK ..))];rw[ι,List.nodup_cons] at h2;refine ih _ (λy hy=>h1 y (δa _ hy)) h2.2 λy hy hm=>?_;rcases Γ.1 hm with h|h;·exact h3 y (δa _ hy) h
   ·rw[γw] at h;exact h2.1 (h▸List.mem_map_of_mem hy)
 unfold bC;rw[if_neg (by rw[hf];simp)];exact key _ _ h hn λ_ _=>by simp
theorem FG (hc:bC p=0) (hg:sf p u) {k:Nat}:bC (gw p u k)=0:=by
 have hgo:=dn hc;have hm:=MM hg.f.1;have hF:=(MN (p:=p) (L:=ca p u.chosen) (M:=[])).1 (by rw[γZ];exact hg.f.2);obtain⟨hfr,hof⟩:=vK hc;obtain⟨f1,f2,f3,f4,f5⟩:=ui hfr;have hin:∀x∈(gw p u k).offers,x∈p.offers/\iM p u x=true:=λx hx=>by
  obtain⟨h1,h2⟩:=γh.1 hx;exact⟨γK h1,h2⟩
 have hz:(dP (([]:List Off).map Off.want))=bz.zero:=rfl;have hla:∀j,j<6->0<=u.left.at j/\u.left.at j<=4:=λj hj=>by
  have e1:=hg.l j hj;have w1:=FB hgo hj hm;have h2:=hF.2.1 j hj;have h3:(dP (([]:List Off).map Off.want)).at j=0:=by rw[nB];rfl
  have h4:=y5.1 f1 j hj;omega
 have hoa:∀j,j<6->0<=u.opn.at j/\u.opn.at j<=u.left.at j/\(p.cls.at j=0->u.opn.at j=u.left.at j):=λj hj=>by
  have e1:=hg.l j hj;have e2:=hg.o j hj;have e3:=MK (p:=p) hj (ca p u.chosen);have hp:=wH hc hj;have h2:=hF.2.1 j hj;have h5:=hF.2.2 j hj;have h3:(dP (([]:List Off).map Off.want)).at j=0:=by rw[nB];rfl
  have h6:(dP (([]:List Off).map (dU p))).at j=0:=by rw[nB];rfl
  by_cases h0:p.cls.at j=0
  ·have:=hp.2.2.2.2 h0;simp only[h0,if_true] at e3;omega
  ·simp only[h0,if_false] at e3;omega
 refine af2 ?_ (λx hx=>?_) ?_
 ·have a1:(gw p u k).supply.ok=true:=y5.2 hla;have a2:Dh (gw p u k)=true:=zT.2 λj hj=>od.2 (by
   have hp:=wH hc hj;have ho:=hoa j hj;refine⟨hp.1,hp.2.1,ho.1,ho.2.1,?_⟩;by_cases h0:p.cls.at j=0;·exact .inr (ho.2.2 h0)
   ·exact .inl h0);have a3:(gw p u k).offers.length<=p.offers.length:=by
   have h1:=γF (iM p u) (p.offers.drop k);rw[γJ] at h1;show((p.offers.drop k).filter (iM p u)).length<=_;omega
  have a4:(gw p u k).classes=p.classes:=rfl;unfold hJ;rw[a1,a2,a4,if_neg (by simp),if_neg (by simp),if_neg (by omega),if_neg (by simpa using f5)]
 ·obtain⟨h1,h2⟩:=hin x hx;have ho:=hof x h1;unfold jJ at ho ⊢;have a4:(gw p u k).classes=p.classes:=rfl;rw[a4];split at ho;·rename_i h3;exact absurd ho h3
  ·rename_i h3;rw[if_neg h3];split at ho;·cases ho
   ·rename_i h4;rw[if_neg h4];have hb:=hgo.2.2.2.2 x h1;have hF:iJ (gw p u k) [x]:=(MO hc hg (λy hy=>by rw[γw] at hy;subst hy;exact h1) (λy hy=>by rw[γw] at hy;subst hy;exact h2)).2 ((FD hc hg h1).1 h2);rw[Q5 hF];rfl
 ·have h1:=(IV (by
   have:=hc;unfold bC at this;rw[if_neg (by rw[hfr];simp)] at this;exact this)).1;exact((δl.trans (ζo k _)).map Off.key).nodup h1
end
theorem Bv {a b c:Alloc} (h:¬lC a b) (k:¬lC b c):¬lC a c:=λhac=>by
 by_cases hba:lC b a;·exact k (Ry hba hac)
 ·exact k (abx h hba▸hac)
theorem VL {a b:Alloc}:¬lC a (better a b)/\¬lC b (better a b):=by
 unfold better;split
 ·rename_i h;have h:lC a b:=h;exact⟨yb,λhb=>yb (Ry h hb)⟩
 ·rename_i h;exact⟨h,yb⟩
theorem Bw {p:bp}:∀{k:Nat} {i:Int} {a b:Alloc},¬lC b (lA p k i a b)
 |0,_,_,b=>by simp only[lA];exact yb;|k+1,i,a,b=>by
  simp only[lA];refine Bv ?_ Bw;split;·exact Bv VL.2 Bw
  ·exact yb
theorem MP {p:bp} (hg:Good p):∀{k:Nat} {i:Int} {a b:Alloc} {t:List Int},0<=i->i+k<=p.offers.length->t≠[]->kG i k t->lz p (a.chosen++t)=true->¬lC ⟨a.chosen++t,a.value+bV (ca p t)⟩ (lA p k i a b)
 |0,i,a,b,t,_,_,hn,ht,_=>by
  cases t with
  |nil=>exact absurd rfl hn;|cons j t=>
   have:=ht.2 j (by simp);omega
 |k+1,i,a,b,t,h0,h1,hn,ht,hr=>by
  cases t with
  |nil=>exact absurd rfl hn;|cons j t=>
   have hj:=ht.2 j (by simp);have hp:=γx.1 ht.1;simp only[lA];by_cases hji:j=i
   ·subst hji;have hidx:vP p t:=λm hm=>by
     have:=ht.2 m (by simp[hm]);omega
    have hr2:lz p (a.chosen++[j]++t)=true:=by simpa using hr
    have hr1:lz p (a.chosen++[j])=true:=QC hg hidx hr2;rw[if_pos hr1];refine Bv ?_ Bw;rw[oh];simp only[bV];cases t with
    |nil=>
     refine Bv ?_ Bw;refine Bv ?_ VL.1;have e:(⟨a.chosen++[j],a.value+(bj p.offers j.toNat bn.off.dflt).value+bV (ca p [])⟩:Alloc)=⟨a.chosen++[j],a.value+j7 p j⟩:=by simp[bV,ca,j7]
     have e2:(⟨a.chosen++[j],a.value+((bj p.offers j.toNat bn.off.dflt).value+bV (ca p []))⟩:Alloc)=⟨a.chosen++[j],a.value+j7 p j⟩:=by simp[bV,ca,j7]
     rw[e2];exact yb;|cons j2 t2=>
     have:=MP hg (k:=k) (i:=j+1) (a:=⟨a.chosen++[j],a.value+j7 p j⟩) (b:=better ⟨a.chosen++[j],a.value+j7 p j⟩ b) (t:=j2::t2) (by omega) (by omega) (by simp) ⟨hp.2,λm hm=>by
      have q1:=ht.2 m (δa _ hm);have q2:=hp.1 m hm;omega⟩ hr2;have e:(⟨a.chosen++j::j2::t2,a.value+((bj p.offers j.toNat bn.off.dflt).value+bV (ca p (j2::t2)))⟩:Alloc)=⟨a.chosen++[j]++j2::t2,a.value+j7 p j+bV (ca p (j2::t2))⟩:=by
      simp only[Alloc.mk.injEq,γf,γE,List.nil_append,j7,true_and];omega
     rw[e];exact this
   ·exact MP hg (by omega) (by omega) (by simp) ⟨ht.1,λm hm=>by
     have q1:=ht.2 m hm;rcases γq.1 hm with rfl|hm;·omega
     ·have q2:=hp.1 m hm;omega⟩ hr
theorem af4 {p:bp} (hg:Good p) {t:List Int} (ht:lB p t):¬lC ⟨t,bV (ca p t)⟩ (cu p):=by
 rw[IJ];by_cases hn:t=[]
 ·subst hn;exact Bw
 ·have:=MP hg (k:=p.offers.length) (i:=0) (a:=⟨[],0⟩) (b:=⟨[],0⟩) (t:=t) (by omega) (by omega) hn ht.1 (by simpa[lz] using ht.2);simpa using this
theorem VM:∀{c a b:List Int},cmpL (c++a) (c++b)=cmpL a b
 |[],_,_=>rfl
 |x::c,a,b=>by
  simp only[γE,cmpL,Int.lt_irrefl,if_false];exact VM
noncomputable def qm (p:bp) (most:Int) (u:jf) (i:Int):jf:=
 if u.value=most then u else if iM p u (oI p i)=true then(if jT (gw p (eX p u i) (i+1).toNat) (most - (eX p u i).value) 65536=true then eX p u i else u) else u
noncomputable def jU (p:bp) (most:Int):Nat->jf
 |0=>⟨p.supply,p.opn,[],0,ε 8 false⟩
 |n+1=>qm p most (jU p most n) n
theorem good_start {p:bp} (hc:bC p=0):sf p ⟨p.supply,p.opn,[],0,ε 8 false⟩:=by
 have hg:=dn hc;refine⟨Rq hg,rfl,λk hk=>?_,λk hk=>?_,rfl,λb h0 h1=>?_⟩
 ·show _=_ - (dP (([]:List Off).map Off.want)).at k;rw[nB];simp
 ·show _=min (_ - (dP (([]:List Off).map (wG p))).at k) _;rw[nB];have:=wH hc hk;simp only[γp,List.sum_nil];show p.opn.at k=min (p.opn.at k - 0) (p.supply.at k);omega
 ·show _=decide (b∈([]:List Int));rw[cQ (by rw[γS];omega),List.getElem_replicate];simp
theorem VN {i:Int}:∀{L:List Int},L.Pairwise (·<·)->L=L.filter (λj=>decide (j<i))++L.filter (λj=>!decide (j<i))
 |[],_=>rfl
 |x::L,h=>by
  have hp:=γx.1 h;have ih:=VN (i:=i) hp.2;by_cases hx:x<i;·rw[δt (by simp[hx]),δu (by simp[hx]),γE,<-ih]
  ·have e:L.filter (λj=>decide (j<i))=[]:=δS.2 λj hj=>by have:=hp.1 j hj;simp;omega
   have e2:L.filter (λj=>!decide (j<i))=L:=δm.2 λj hj=>by have:=hp.1 j hj;simp;omega
   rw[δu (by simp[hx]),δt (by simp[hx]),e,e2];rfl
theorem af5 {i:Int} {L:List Int} (h:i∉L):L.filter (λj=>decide (j<i+1))=L.filter (λj=>decide (j<i)):=by
 refine List.filter_congr λj hj=>?_;have:j≠i:=λe=>h (e▸hj);rw[Bool.eq_iff_iff,decide_eq_true_eq,decide_eq_true_eq];omega
theorem af6 {i:Int} {L:List Int} (hs:L.Pairwise (·<·)) (h:i∈L):L.filter (λj=>decide (j<i+1))=L.filter (λj=>decide (j<i))++[i]/\L=L.filter (λj=>decide (j<i))++i::L.filter (λj=>decide (i<j)):=by
 induction L with
 |nil=>cases h;|cons x L ih=>
  have hp:=γx.1 hs;by_cases hx:x=i
  ·subst hx;have e:L.filter (λj=>decide (j<x))=[]:=δS.2 λj hj=>by have:=hp.1 j hj;simp;omega
   have e1:L.filter (λj=>decide (j<x+1))=[]:=δS.2 λj hj=>by have:=hp.1 j hj;simp;omega
   have e2:L.filter (λj=>decide (x<j))=L:=δm.2 λj hj=>by have:=hp.1 j hj;simp;omega
   rw[δt (by simp;omega),δu (by simp),δu (by simp),e,e1,e2];exact⟨rfl,rfl⟩
  ·rcases γq.1 h with h|h;·exact absurd h.symm hx
   ·have hlt:=hp.1 i h;obtain⟨i1,i2⟩:=ih hp.2 h;rw[δt (by simp;omega),δt (by simp;omega),δu (by simp;omega),i1];refine⟨rfl,?_⟩;rw[γE,<-i2]
theorem af7 {p:bp} (hg:Good p):∀{L:List Off},(∀x∈L,x∈p.offers)->L≠[]->0<bV L
 |[],_,h=>absurd rfl h
 |x::L,h,_=>by
  have h1:=(hg.2.2.2.2 x (h x (εK ..))).2.2.2.1;have h2:=(sP hg (l:=L) λy hy=>h y (δa _ hy)).1;simp only[bV];omega
theorem af8 {p:bp} (hc:bC p=0) {k:Nat} (hk:k<=p.offers.length) {M:List Off} (hM:∀x∈M,x∈p.offers.drop k) (hn:M.Nodup):∃t:List Int,t.Pairwise (·<·)/\(∀j∈t,(k:Int)<=j/\j<p.offers.length)/\(ca p t).Perm M:=by
 obtain⟨t,h1,h2,h3⟩:=IU (λx=>decide (x∈M)) (p.offers.drop k) (p.offers.take k);have hl:(p.offers.take k).length=k:=by rw[List.length_take];omega
 refine⟨t,h1,λj hj=>?_,?_⟩
 ·have:=h2 j hj;rw[hl,γJ] at this;omega
 ·rw[List.take_append_drop] at h3;unfold ca;rw[h3];refine(List.perm_ext_iff_of_nodup ?_ hn).2 λx=>?_;·exact((δl.trans (ζo k _))).nodup (IW hc)
  ·rw[γh,decide_eq_true_eq];exact⟨λh=>h.2,λh=>⟨hM x h,h⟩⟩
theorem FH {p:bp} (hc:bC p=0):lB p (cu p).chosen/\(cu p).value=bV (ca p (cu p).chosen):=by
 obtain⟨_,h1,h2,h3⟩:=x6 hc;exact⟨⟨h2,h1⟩,h3⟩
theorem MQ {p:bp} (hc:bC p=0) (h15:p.offers.length<=15):∀n:Nat,n<=p.offers.length->sf p (jU p (cu p).value n)/\(jU p (cu p).value n).chosen=(cu p).chosen.filter λ(j:Int)=>decide (j<(n:Int))
 |0,_=>⟨good_start hc,by
   have h:=(FH hc).1.1.2;exact(δS.2 λj hj=>by have:=h j hj;simp;omega).symm⟩
 |n+1,hn=>by
  obtain⟨hG,hC⟩:=MQ hc h15 n (by omega);have hgo:=dn hc;obtain⟨⟨⟨hs,hr⟩,hF⟩,hv⟩:=FH hc;have hF2:lB p (cu p).chosen:=⟨⟨hs,hr⟩,hF⟩;have hlt:∀j∈(jU p (cu p).value n).chosen,j<(n:Int):=λj hj=>by
   rw[hC] at hj;simpa using(γh.1 hj).2
  have hno:((n:Nat):Int)+1=((n+1:Nat):Int):=by omega
  have hin:(0:Int)<=n/\(n:Int)<p.offers.length:=by omega
  have hx:oI p n∈p.offers:=cO (by omega);have hsp:=VN (i:=(n:Int)) hs;show sf p (qm p (cu p).value (jU p (cu p).value n) n)/\(qm p (cu p).value (jU p (cu p).value n) n).chosen=_;generalize jU p (cu p).value n=u at*;have hmem:∀{t:List Int},(∀j∈t,j∈(cu p).chosen)->∀x∈ca p t,x∈p.offers:=λht x hx=>by
   obtain⟨j,hj,rfl⟩:=γg.1 hx;have:=hr j (ht j hj);exact cO (by omega)
  by_cases hval:u.value=(cu p).value
  ·unfold qm;rw[if_pos hval];refine⟨hG,?_⟩;have hd:(cu p).chosen.filter (λj=>!decide (j<(n:Int)))=[]:=by
    refine Classical.byContradiction λhne=>?_;have h1:=af7 hgo (L:=ca p ((cu p).chosen.filter (λj=>!decide (j<(n:Int))))) (hmem λj hj=>(γh.1 hj).1) (by unfold ca;simpa using hne);rw[hG.v,hC,hv] at hval;rw[hsp] at hval;simp only[<-hsp] at hval;have h2:bV (ca p (cu p).chosen)=bV (ca p ((cu p).chosen.filter λj=>decide (j<(n:Int))))+bV (ca p ((cu p).chosen.filter λj=>!decide (j<(n:Int)))):=by
     conv=>lhs;rw[hsp,rP,o8]
    omega
   have hall:∀j∈(cu p).chosen,j<(n:Int):=λj hj=>by
    have:=(δS.1 hd) j hj;simpa using this
   rw[hC,δm.2 λj hj=>by simpa using hall j hj];exact(δm.2 λj hj=>by have:=hall j hj;simp;omega).symm
  ·by_cases MR:(n:Int)∈(cu p).chosen
   ·obtain⟨f1,f2⟩:=af6 hs MR;rw[<-hC] at f1 f2;have By:iJ p (ca p u.chosen++[oI p n]++ca p ((cu p).chosen.filter λj=>decide ((n:Int)<j))):=by
     have:ca p u.chosen++[oI p n]++ca p ((cu p).chosen.filter λj=>decide ((n:Int)<j))=ca p (cu p).chosen:=by
      conv=>rhs;rw[f2]
      rw[rP,oh,γf];rfl
     rw[this];exact hF
    have hmd:=hmem (t:=(cu p).chosen.filter λj=>decide ((n:Int)<j)) λj hj=>(γh.1 hj).1;have hw:iM p u (oI p n)=true:=(FD hc hG hx).2 (zY hgo hmd By);have hG2:=hG.next hc hlt hin hw;have hq:=FG (k:=((n:Int)+1).toNat) hc hG2;have y7:ca p (eX p u n).chosen=ca p u.chosen++[oI p n]:=by
     show ca p (u.chosen++[(n:Int)])=_;rw[rP];rfl
    have hwx:∀x∈ca p ((cu p).chosen.filter λj=>decide ((n:Int)<j)),iM p (eX p u n) x=true:=λx hxm=>by
     refine(FD hc hG2 (hmd x hxm)).2 ?_;rw[y7];obtain⟨s,t,hst⟩:=List.append_of_mem hxm;have hperm:(ca p u.chosen++[oI p n]++ca p ((cu p).chosen.filter λj=>decide ((n:Int)<j))).Perm (ca p u.chosen++[oI p n]++[x]++(s++t)):=by
      rw[hst,γf (ca p u.chosen++[oI p n])];refine εX _ ?_;exact List.perm_middle
     refine zY hgo (M:=s++t) (λy hy=>hmd y ?_) (DL hperm By);rw[hst];rcases Γ.1 hy with h|h;·exact List.mem_append_left _ h
     ·exact δX _ (δa _ h)
    have hqF:=(MO (k:=((n:Int)+1).toNat) hc hG2 hmd hwx).2 (by rw[y7];exact By);have hqm:∀x∈ca p ((cu p).chosen.filter λj=>decide ((n:Int)<j)),x∈(gw p (eX p u n) ((n:Int)+1).toNat).offers:=λx hxm=>by
     refine γh.2 ⟨?_,hwx x hxm⟩;obtain⟨j,hj,rfl⟩:=γg.1 hxm;obtain⟨hj1,hj2⟩:=γh.1 hj;have h3:=hr j hj1;have h4:(n:Int)<j:=by simpa using hj2
     rw[cQ (by omega)];rw[List.mem_iff_getElem];exact⟨j.toNat - ((n:Int)+1).toNat,by rw[γJ];omega,by rw[List.getElem_drop];congr 1;omega⟩
    have hup:=abq hq hqF hqm;rw[Aa hq] at hup;have hsum:(cu p).value=(eX p u n).value+bV (ca p ((cu p).chosen.filter λj=>decide ((n:Int)<j))):=by
     rw[hG2.v,y7,hv];conv=>lhs;rw[f2,rP,oh,o8]
     rw[o8];simp only[bV];have:(bj p.offers (n:Int).toNat bn.off.dflt).value=(oI p n).value:=rfl;omega
    have vY:(gw p (eX p u n) ((n:Int)+1).toNat).offers.length<=15:=by
     have h1:=γF (iM p (eX p u n)) (p.offers.drop ((n:Int)+1).toNat);rw[γJ] at h1;show((p.offers.drop _).filter _).length<=15;omega
    have hroom:iU (gw p (eX p u n) ((n:Int)+1).toNat) ((cu p).value - (eX p u n).value) 65536=0:=MD hq (by omega) (by
     have:2^((gw p (eX p u n) ((n:Int)+1).toNat).offers.length+1)<=2^16:=δv (by omega) (by omega);have h16:(2:Nat)^16=65536:=rfl;omega);have hbf:jT (gw p (eX p u n) ((n:Int)+1).toNat) ((cu p).value - (eX p u n).value) 65536=true:=(VG hq hroom).2 (by omega);unfold qm;rw[if_neg hval,if_pos hw,if_pos hbf];refine⟨hG2,?_⟩;rw[<-hno,f1];rfl
   ·rw[<-hno,af5 MR,<-hC];unfold qm;rw[if_neg hval];split
    ·rename_i hw;split
     ·rename_i hbf;exfalso;have hG2:=hG.next hc hlt hin hw;have hq:=FG (k:=((n:Int)+1).toNat) hc hG2;have y7:ca p (eX p u n).chosen=ca p u.chosen++[oI p n]:=by
       show ca p (u.chosen++[(n:Int)])=_;rw[rP];rfl
      have vY:(gw p (eX p u n) ((n:Int)+1).toNat).offers.length<=15:=by
       have h1:=γF (iM p (eX p u n)) (p.offers.drop ((n:Int)+1).toNat);rw[γJ] at h1;show((p.offers.drop _).filter _).length<=15;omega
      have hroom:iU (gw p (eX p u n) ((n:Int)+1).toNat) ((cu p).value - (eX p u n).value) 65536=0:=MD hq (by omega) (by
       have:2^((gw p (eX p u n) ((n:Int)+1).toNat).offers.length+1)<=2^16:=δv (by omega) (by omega);have h16:(2:Nat)^16=65536:=rfl;omega);have hge:=(VG hq hroom).1 hbf;obtain⟨M,m1,m2,m3⟩:=abr hq;rw[Aa hq] at m3;have MS:∀x∈M,x∈p.offers.drop ((n:Int)+1).toNat/\iM p (eX p u n) x=true:=λx hx=>γh.1 (m2 x hx);have By:=(MO hc hG2 (λx hx=>γK (MS x hx).1) λx hx=>(MS x hx).2).1 m1;obtain⟨t,t1,t2,t3⟩:=af8 hc (k:=((n:Int)+1).toNat) (by omega) (λx hx=>(MS x hx).1) (DN Off.bE m1.1);have hT:lB p (u.chosen++(n:Int)::t):=by
       refine⟨⟨?_,?_⟩,?_⟩
       ·rw[γY];refine⟨hG.f.1.1,γx.2 ⟨λj hj=>by have:=t2 j hj;omega,t1⟩,λa ha b hb=>?_⟩;have h1:=hlt a ha;rcases γq.1 hb with rfl|hb;·exact h1
        ·have:=t2 b hb;omega
       ·intro j hj;rcases Γ.1 hj with h|h;·exact hG.f.1.2 j h
        ·rcases γq.1 h with rfl|h;·omega
         ·have:=t2 j h;omega
       ·rw[rP,oh];refine DL ?_ By;rw[y7,γf];exact εX _ (List.Perm.cons _ t3.symm)
      have hTv:bV (ca p (u.chosen++(n:Int)::t))=(eX p u n).value+bV M:=by
       rw[hG2.v,y7,rP,oh,o8,o8,<-IQ t3];simp only[bV];have:(bj p.offers (n:Int).toNat bn.off.dflt).value=(oI p n).value:=rfl;omega
      have hup:=IK hgo hT.1 (decide_eq_true hT.2);refine af4 hgo hT (.inr ⟨(show bV (ca p (u.chosen++(n:Int)::t))=(cu p).value by omega),?_⟩);show cmpL (u.chosen++(n:Int)::t) (cu p).chosen<0;have hd:(cu p).chosen=u.chosen++(cu p).chosen.filter (λj=>!decide (j<(n:Int))):=by rw[hC];exact hsp
      have hdn:(cu p).chosen.filter (λj=>!decide (j<(n:Int)))≠[]:=λh=>by
       rw[h,γZ] at hd;refine hval ?_;rw[hG.v,<-hd,hv]
      have hdg:∀j∈(cu p).chosen.filter (λj=>!decide (j<(n:Int))),(n:Int)<j:=λj hj=>by
       obtain⟨a1,a2⟩:=γh.1 hj;have:j≠(n:Int):=λe=>MR (e▸a1);simp at a2;omega
      rw[hd];generalize (cu p).chosen.filter (λj=>!decide (j<(n:Int)))=d at*;cases d with
      |nil=>exact absurd rfl hdn;|cons j d=>
       rw[VM];have:=hdg j (by simp);simp only[cmpL];rw[if_pos this];decide
     ·exact⟨hG,rfl⟩
    ·exact⟨hG,rfl⟩
theorem VO {p:bp} (hc:bC p=0) (h15:p.offers.length<=15):(jU p (cu p).value p.offers.length).chosen=(cu p).chosen:=by
 rw[(MQ hc h15 p.offers.length (Nat.le_refl _)).2];have h:=(FH hc).1.1.2;exact δm.2 λj hj=>by have:=h j hj;simp;omega
abbrev y8:=bz×(bz×(List Int×(Int×(Bool×(Bool×(Bool×(Bool×(Bool×(Bool×(Bool×Bool))))))))))
@[reducible] def sg:bn:=.pair .eD (.pair .eD (.pair (.bK (.i .i64)) (.pair (.i .i64) (.pair .b (.pair .b (.pair .b (.pair .b (.pair .b (.pair .b (.pair .b .b))))))))))
def xP (d:y8):jf:=⟨d.1,d.2.1,d.2.2.1,d.2.2.2.1,[d.2.2.2.2.1,d.2.2.2.2.2.1,d.2.2.2.2.2.2.1,d.2.2.2.2.2.2.2.1,d.2.2.2.2.2.2.2.2.1,d.2.2.2.2.2.2.2.2.2.1,d.2.2.2.2.2.2.2.2.2.2.1,d.2.2.2.2.2.2.2.2.2.2.2]⟩
def fP (u:jf):y8:=(u.left,(u.opn,(u.chosen,(u.value,(bj u.won 0 false,(bj u.won 1 false,(bj u.won 2 false,(bj u.won 3 false,(bj u.won 4 false,(bj u.won 5 false,(bj u.won 6 false,bj u.won 7 false)))))))))))
theorem VP {u:jf} (h:u.won.length=8):xP (fP u)=u:=by
 obtain⟨l,o,c,v,w⟩:=u;simp only at h;match w,h with
 |[a,b,c,d,e,f,g,i],_=>rfl
def zX:jf:=⟨bz.zero,bz.zero,[],0,ε 8 false⟩
def pk (k j:Int) (a b:Int):Bool:=decide (k<=j)||(decide (0<=a)&&decide (0<=b))
def jD (a b:bz) (k:Int):Bool:=pk k 0 a.a0 b.a0&&(pk k 1 a.a1 b.a1&&(pk k 2 a.a2 b.a2&&(pk k 3 a.a3 b.a3&&(pk k 4 a.a4 b.a4&&pk k 5 a.a5 b.a5))))
def MU:cZ where
 f:=131;α:=y8×bp×Off;put a:=[.ptr 0 0 22,cY.put a.2.1,(eG .off).put a.2.2];st a:=[.cells (encS sg a.1) 137 22 false];dec v o:=match v,o with
  |[.ptr 0 0 22,p,x],[.cells cs 137 22 false]=>match jF sg cs,cY.dec p,(eG .off).dec x with
   |some d,some p,some x=>some (d,p,x)
   |_,_,_=>none
  |_,_=>none;ok v o a h:=by
  split at h
  ·split at h
   ·rename_i h1 h2 h3;simp only[γ] at h;subst h;refine⟨by simp only[gL,cY.ok _ _ h2,(eG .off).ok _ _ h3],?_⟩;simp only[gO,ι,γp,bq.g,fY,nV h1,tV]
   ·cases h
  ·cases h
 inj a b h1 h2:=by
  obtain⟨d,p,x⟩:=a;obtain⟨d',p',x'⟩:=b;simp only[gL,π,and_true,true_and] at h1;simp only[gO,ι,γp,bq.g,π,bQ.cells.injEq,and_true,fY,tV] at h2;rw[xE sg d d' h2,cY.inj p p' h1.1,(eG .off).inj x x' h1.2]
 dom a:=((∀k,k<6->(-1000<=a.1.1.at k/\a.1.1.at k<=1000)/\(-1000<=a.1.2.1.at k/\a.1.2.1.at k<=1000))/\a.2.2.want.ok=true)/\0<=a.2.2.bE/\a.2.2.bE<a.2.1.classes.length;res a:=.sb ((a.1.1.sub a.2.2.want).pos&&(fS a.2.1 (xP a.1) a.2.2).pos);out a:=[.cells (encS sg (a.1.1.sub a.2.2.want,(fS a.2.1 (xP a.1) a.2.2,a.1.2.2))) 137 22 false]
def aga (d:y8) (p:bp) (x:Off):Nat->cC
 |3=> .inv Int (λk=>⟨[(0,.ptr 0 0 22),(4,.ptr 1 0 20),(5,.ptr 2 0 8),(7,.sb (jD (d.1.sub x.want) (fS p (xP d) x) k)),(11,.agg (encS .eD x.want)),(12,.si .i64 k)],
   [.cells (encS sg (iy d.1 (d.1.sub x.want) k,(iy d.2.1 (fS p (xP d) x) k,d.2.2))) 137 22 false,.cells p.ss 27 20 false,.cells (encS .off x) 39 8 false]⟩)
   (λs=>iS s 12) (λk=>0<=k/\k<=6) (λk=>(6 - k).toNat) λ_ _=> .look
 |_=> .look
theorem h450:dJ Tryz.prog MU:=by
 refine jm (L:=[]) (W:=[]) MU (λa=>aga a.1 a.2.1 a.2.2) (by simp) (by simp) ?_;rintro⟨d,p,x⟩ ⟨⟨hb,hw⟩,hx0,hx1⟩;simp only at hb hw hx0 hx1;refine bO (let a:=Ξ .i64;let b:=(0:Int);let c:=(6:Int);let e:=bq.cells;let f:=γI;let g:=bW .i64;let h:=Ψ;let j:=δw false;let k:=γV;let r:=k 0 0 22;let s:=k 1 0 20;let t:=k 2 0 8;let o:=d.fst.sub x.want;let q:=fS p (xP d) x;let a9:=a x.want.a0;let aa:=a x.want.a1;let ab:=a x.want.a2;let ac:=a x.want.a3;let ad:=a x.want.a4;let ae:=a x.want.a5;let v:=γG [a9,aa,ab,ac,ad,ae];let N:=bn.i .i64;let D:=d.snd.snd.snd.snd.snd;let af:=D.snd.snd.snd.snd.snd;let E:=iy d.fst o b;let F:=iy d.snd.fst q b;let G:=d.snd.snd.snd.snd.snd;let ag:=G.snd.snd.snd.snd.snd;let A:=[h N d.snd.snd.fst,a d.snd.snd.snd.fst,f d.snd.snd.snd.snd.fst,f G.fst,f G.snd.fst,f G.snd.snd.fst,f G.snd.snd.snd.fst,f G.snd.snd.snd.snd.fst,f ag.fst,f ag.snd];let w:=e [a p.supply.a0,a p.supply.a1,a p.supply.a2,a p.supply.a3,a p.supply.a4,a p.supply.a5,a p.opn.a0,a p.opn.a1,a p.opn.a2,a p.opn.a3,a p.opn.a4,a p.opn.a5,a p.cls.a0,a p.cls.a1,a p.cls.a2,a p.cls.a3,a p.cls.a4,a p.cls.a5,h N p.classes,h bn.off p.offers] 27 20 false;let y:=e [a x.bE,a9,aa,ab,ac,ad,ae,a x.value] 39 8 false;let aM:=[x.want.a0,x.want.a1,x.want.a2,x.want.a3,x.want.a4,x.want.a5];let aN:=[p.cls.a0,p.cls.a1,p.cls.a2,p.cls.a3,p.cls.a4,p.cls.a5];(((r.same r/\s.same s/\t.same t/\(δw true).same (f (jD o q b))/\v.same v/\(γr .i64 0).same (a 0)/\True)/\(e [a d.fst.a0,a d.fst.a1,a d.fst.a2,a d.fst.a3,a d.fst.a4,a d.fst.a5,a d.snd.fst.a0,a d.snd.fst.a1,a d.snd.fst.a2,a d.snd.fst.a3,a d.snd.fst.a4,a d.snd.fst.a5,h N d.snd.snd.fst,a d.snd.snd.snd.fst,f d.snd.snd.snd.snd.fst,f D.fst,f D.snd.fst,f D.snd.snd.fst,f D.snd.snd.snd.fst,f D.snd.snd.snd.snd.fst,f af.fst,f af.snd] 137 22 false).same (e (a E.a0::a E.a1::a E.a2::a E.a3::a E.a4::a E.a5::a F.a0::a F.a1::a F.a2::a F.a3::a F.a4::a F.a5::A) 137 22 false)/\w.same w/\y.same y/\True)/\b<=b/\b<=c)/\∀(x_1:Int),let L:=jD o q x_1;let n:=iy d.fst o x_1;let ah:=bj aM x_1.toNat b;let B:=bj [n.a0,n.a1,n.a2,n.a3,n.a4,n.a5] x_1.toNat b - ah;let ai:=if x_1.toNat=0 then B else n.a0;let aj:=if x_1.toNat=1 then B else n.a1;let ak:=if x_1.toNat=2 then B else n.a2;let al:=if x_1.toNat=3 then B else n.a3;let am:=if x_1.toNat=4 then B else n.a4;let an:=if x_1.toNat=5 then B else n.a5;let O:=bj [ai,aj,ak,al,am,an] x_1.toNat b;let P:=decide (b<=O);let m:=x_1+(1:Int);let l:=iy d.snd.fst q x_1;let ao:=bj [l.a0,l.a1,l.a2,l.a3,l.a4,l.a5] x_1.toNat b;let C:=ao - ah;let ap:=if x_1.toNat=0 then C else l.a0;let aq:=if x_1.toNat=1 then C else l.a1;let ar:=if x_1.toNat=2 then C else l.a2;let au:=if x_1.toNat=3 then C else l.a3;let av:=if x_1.toNat=4 then C else l.a4;let aw:=if x_1.toNat=5 then C else l.a5;let H:=min (bj [ap,aq,ar,au,av,aw] x_1.toNat b) O;let Q:=if x_1.toNat=0 then H else ap;let R:=if x_1.toNat=1 then H else aq;let S:=if x_1.toNat=2 then H else ar;let T:=if x_1.toNat=3 then H else au;let U:=if x_1.toNat=4 then H else av;let V:=if x_1.toNat=5 then H else aw;let M:=f (jD o q m);let z:=a m;let W:=a ai;let X:=a aj;let Y:=a ak;let Z:=a al;let a6:=a am;let a7:=a an;let I:=iy d.fst o m;let J:=iy d.snd.fst q m;let a8:=e (a I.a0::a I.a1::a I.a2::a I.a3::a I.a4::a I.a5::a J.a0::a J.a1::a J.a2::a J.a3::a J.a4::a J.a5::A) 137 22 false;let K:=min ao O;let ax:=if x_1.toNat=0 then K else l.a0;let ay:=if x_1.toNat=1 then K else l.a1;let az:=if x_1.toNat=2 then K else l.a2;let aA:=if x_1.toNat=3 then K else l.a3;let aB:=if x_1.toNat=4 then K else l.a4;let aC:=if x_1.toNat=5 then K else l.a5;let aD:=decide (x_1<c);let aE:=bj aN x_1.toNat b;let aF:=decide (aE=b);let aG:=decide (aE≠bj p.classes x.bE.toNat b);let aO:=let aH:=g m/\((r.same r/\s.same s/\t.same t/\(j).same M/\v.same v/\z.same z/\True)/\(e (W::X::Y::Z::a6::a7::a Q::a R::a S::a T::a U::a V::A) 137 22 false).same a8/\w.same w/\y.same y/\True)/\(b<=m/\m<=c)/\(c - m).toNat<(c - x_1).toNat;x_1.toNat<6/\b<=x_1/\x_1<c/\x_1.toNat<6/\b<=x_1/\x_1<c/\x_1.toNat<6/\(L=true->b<=x_1/\x_1<c/\x_1.toNat<6/\(P=true->b<=x_1/\x_1<c/\x_1.toNat<6/\g m/\((r.same r/\s.same s/\t.same t/\(f (decide (b<=bj [Q,R,S,T,U,V] x_1.toNat b))).same M/\v.same v/\z.same z/\True)/\(e (W::X::Y::Z::a6::a7::a Q::a R::a S::a T::a U::a V::A) 137 22 false).same a8/\w.same w/\y.same y/\True)/\(b<=m/\m<=c)/\(c - m).toNat<(c - x_1).toNat)/\(P=false->aH))/\(L=false->aH);let aI:=(e (W::X::Y::Z::a6::a7::a ax::a ay::a az::a aA::a aB::a aC::A) 137 22 false).same a8;let aJ:=b<=x_1/\x_1<c/\x_1.toNat<6/\g C/\b<=x_1/\x_1<c/\x_1.toNat<6/\b<=x_1/\x_1<c/\aO;let aK:=g m/\((r.same r/\s.same s/\t.same t/\(j).same M/\v.same v/\z.same z/\True)/\aI/\w.same w/\y.same y/\True)/\(b<=m/\m<=c)/\(c - m).toNat<(c - x_1).toNat;let aL:=λ(u:Bool) ↦P=u;b<=x_1/\x_1<=c->(aD=true->b<=x_1/\x_1<c/\b<=x_1/\x_1<c/\x_1.toNat<6/\g B/\b<=x_1/\x_1<c/\x_1.toNat<6/\b<=x_1/\x_1<c/\x_1.toNat<6/\(aF=true->aJ)/\(aF=false->b<=x_1/\x_1<c/\x_1.toNat<6/\b<=x.bE/\x.bE<(↑p.classes.length:Int)/\x.bE.toNat<p.classes.length/\(aG=true->aJ)/\(aG=false->b<=x_1/\x_1<c/\x_1.toNat<6/\b<=x_1/\x_1<c/\x_1.toNat<6/\b<=x_1/\x_1<c/\x_1.toNat<6/\(L=true->b<=x_1/\x_1<c/\x_1.toNat<6/\(aL true->b<=x_1/\x_1<c/\x_1.toNat<6/\g m/\((r.same r/\s.same s/\t.same t/\(f (decide (b<=bj [ax,ay,az,aA,aB,aC] x_1.toNat b))).same M/\v.same v/\z.same z/\True)/\aI/\w.same w/\y.same y/\True)/\(b<=m/\m<=c)/\(c - m).toNat<(c - x_1).toNat)/\(aL false->aK))/\(L=false->aK))))/\(aD=false->(f L).same (f (o.pos&&q.pos))/\(e (a n.a0::a n.a1::a n.a2::a n.a3::a n.a4::a n.a5::a l.a0::a l.a1::a l.a2::a l.a3::a l.a4::a l.a5::A) 137 22 false).same (e (a o.a0::a o.a1::a o.a2::a o.a3::a o.a4::a o.a5::a q.a0::a q.a1::a q.a2::a q.a3::a q.a4::a q.a5::A) 137 22 false)/\True)) (by kernel_rfl) ?_;simp only[vcs];refine⟨⟨⟨rfl,rfl⟩,by omega,by omega⟩,?_⟩;rintro k ⟨k0,k6⟩;simp only[show bj p.classes x.bE.toNat 0=hZ p x from rfl];generalize hcl:hZ p x=cl at*;constructor
 ·intro hk;rcases(show k=0\/k=1\/k=2\/k=3\/k=4\/k=5 by omega) with rfl|rfl|rfl|rfl|rfl|rfl
  ·have hb0:=hb 0 (by omega);have hw0:0<=x.want.a0/\x.want.a0<=4:=by have:=bz.eL.1 hw;omega
   have b1: -1000<=d.1.a0/\d.1.a0<=1000:=hb0.1;have b2: -1000<=d.2.1.a0/\d.2.1.a0<=1000:=hb0.2;have eo:(fS p (xP d) x).a0=min (d.2.1.a0 - nd p.cls.a0 x.want.a0 cl) (d.1.a0 - x.want.a0):=by rw[<-hcl];rfl
   generalize fS p (xP d) x=O at*;by_cases h1:p.cls.a0=0;·simp[iy,bj,bz.sub,jD,pk,eo,nd,h1,lg];grind
   ·by_cases h2:p.cls.a0=cl
    ·subst h2;simp[iy,bj,bz.sub,jD,pk,eo,nd,h1,lg];grind
    ·simp[iy,bj,bz.sub,jD,pk,eo,nd,h1,h2,lg];grind
  ·have hb0:=hb 1 (by omega);have hw0:0<=x.want.a1/\x.want.a1<=4:=by have:=bz.eL.1 hw;omega
   have b1: -1000<=d.1.a1/\d.1.a1<=1000:=hb0.1;have b2: -1000<=d.2.1.a1/\d.2.1.a1<=1000:=hb0.2;have eo:(fS p (xP d) x).a1=min (d.2.1.a1 - nd p.cls.a1 x.want.a1 cl) (d.1.a1 - x.want.a1):=by rw[<-hcl];rfl
   generalize fS p (xP d) x=O at*;by_cases h1:p.cls.a1=0;·simp[iy,bj,bz.sub,jD,pk,eo,nd,h1,lg];grind
   ·by_cases h2:p.cls.a1=cl
    ·subst h2;simp[iy,bj,bz.sub,jD,pk,eo,nd,h1,lg];grind
    ·simp[iy,bj,bz.sub,jD,pk,eo,nd,h1,h2,lg];grind
  ·have hb0:=hb 2 (by omega);have hw0:0<=x.want.a2/\x.want.a2<=4:=by have:=bz.eL.1 hw;omega
   have b1: -1000<=d.1.a2/\d.1.a2<=1000:=hb0.1;have b2: -1000<=d.2.1.a2/\d.2.1.a2<=1000:=hb0.2;have eo:(fS p (xP d) x).a2=min (d.2.1.a2 - nd p.cls.a2 x.want.a2 cl) (d.1.a2 - x.want.a2):=by rw[<-hcl];rfl
   generalize fS p (xP d) x=O at*;by_cases h1:p.cls.a2=0;·simp[iy,bj,bz.sub,jD,pk,eo,nd,h1,lg];grind
   ·by_cases h2:p.cls.a2=cl
    ·subst h2;simp[iy,bj,bz.sub,jD,pk,eo,nd,h1,lg];grind
    ·simp[iy,bj,bz.sub,jD,pk,eo,nd,h1,h2,lg];grind
  ·have hb0:=hb 3 (by omega);have hw0:0<=x.want.a3/\x.want.a3<=4:=by have:=bz.eL.1 hw;omega
   have b1: -1000<=d.1.a3/\d.1.a3<=1000:=hb0.1;have b2: -1000<=d.2.1.a3/\d.2.1.a3<=1000:=hb0.2;have eo:(fS p (xP d) x).a3=min (d.2.1.a3 - nd p.cls.a3 x.want.a3 cl) (d.1.a3 - x.want.a3):=by rw[<-hcl];rfl
   generalize fS p (xP d) x=O at*;by_cases h1:p.cls.a3=0;·simp[iy,bj,bz.sub,jD,pk,eo,nd,h1,lg];grind
   ·by_cases h2:p.cls.a3=cl
    ·subst h2;simp[iy,bj,bz.sub,jD,pk,eo,nd,h1,lg];grind
    ·simp[iy,bj,bz.sub,jD,pk,eo,nd,h1,h2,lg];grind
  ·have hb0:=hb 4 (by omega);have hw0:0<=x.want.a4/\x.want.a4<=4:=by have:=bz.eL.1 hw;omega
   have b1: -1000<=d.1.a4/\d.1.a4<=1000:=hb0.1;have b2: -1000<=d.2.1.a4/\d.2.1.a4<=1000:=hb0.2;have eo:(fS p (xP d) x).a4=min (d.2.1.a4 - nd p.cls.a4 x.want.a4 cl) (d.1.a4 - x.want.a4):=by rw[<-hcl];rfl
   generalize fS p (xP d) x=O at*;by_cases h1:p.cls.a4=0;·simp[iy,bj,bz.sub,jD,pk,eo,nd,h1,lg];grind
   ·by_cases h2:p.cls.a4=cl
    ·subst h2;simp[iy,bj,bz.sub,jD,pk,eo,nd,h1,lg];grind
    ·simp[iy,bj,bz.sub,jD,pk,eo,nd,h1,h2,lg];grind
  ·have hb0:=hb 5 (by omega);have hw0:0<=x.want.a5/\x.want.a5<=4:=by have:=bz.eL.1 hw;omega
   have b1: -1000<=d.1.a5/\d.1.a5<=1000:=hb0.1;have b2: -1000<=d.2.1.a5/\d.2.1.a5<=1000:=hb0.2;have eo:(fS p (xP d) x).a5=min (d.2.1.a5 - nd p.cls.a5 x.want.a5 cl) (d.1.a5 - x.want.a5):=by rw[<-hcl];rfl
   generalize fS p (xP d) x=O at*;by_cases h1:p.cls.a5=0;·simp[iy,bj,bz.sub,jD,pk,eo,nd,h1,lg];grind
   ·by_cases h2:p.cls.a5=cl
    ·subst h2;simp[iy,bj,bz.sub,jD,pk,eo,nd,h1,lg];grind
    ·simp[iy,bj,bz.sub,jD,pk,eo,nd,h1,h2,lg];grind
 ·intro hk;have:k=6:=by omega
  subst this;simp[iy,bz.sub,jD,pk,bz.pos,Bool.and_assoc];exact⟨by ac_rfl,rfl⟩
end Go.Vi
