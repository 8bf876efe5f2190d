/-
  Contracts: insertion sort of a part; exchange of parts.
  Conditions: none.
-/
import Derived.Test.YtgejbpobaicgfaaGreatRK06
import Derived.Test.YtgejbpobaicgfaaGreatRK07
import Derived.Test.YtgejbpobaicgfaaGreatRK08
import Derived.Test.YtgejbpobaicgfaaGreatProg
import Derived.Shelf.Sort.AssemblyIn
import Derived.Shelf.SlicesE.Clone
import Derived.Shelf.SlicesE.Delete
import Derived.KernelRfl
import Derived.Sort.EveryDepth
import Derived.Sort.OwnSortedInts
import Derived.WalkKit
import Derived.Deep.LoopGhost
import Derived.Lib.Walk
import Derived.Lib.SliceRun
import Derived.Shelf.RegionOpenPlain
set_option maxRecDepth 100000
set_option maxHeartbeats 4000000
set_option linter.all false
namespace Go.Vi
open Go.Proofs.YtgejbpobaicgfaaGreat.Ir
open Go.Proofs
def ahB:Nat->List SV->Option (List Int)
 |0,[.fn (.func 121) [] [.ptr 1 0 20]]=>some []
 |k+1,x::r=>match x.int .i64,ahB k r with
  |some n,some l=>some (n::l)
  |_,_=>none
 |_,_=>none
theorem avW:∀{k:Nat} {r:List SV} {l:List Int},ahB k r=some l->gL r=gL (l.map (SV.si .i64)++[.fn (.func 121) [] [.ptr 1 0 20]])
 |0,r,l,h=>by
  unfold ahB at h;split at h
  ·simp only[Option.some.injEq] at h;subst h;rfl
  ·rename_i h0;cases h0
  ·cases h
 |k+1,[],l,h=>by simp[ahB] at h
 |k+1,x::r,l,h=>by
  simp only[ahB] at h;split at h
  ·rename_i n l' h1 h2
   simp only[Option.some.injEq] at h;subst h
   simp only[gL,List.map_cons,List.cons_append,avW h2,EG h1];rfl
  ·cases h
theorem avX:∀{l m:List Int} {z:List SV},l.length=m.length->gL (l.map (SV.si .i64)++z)=gL (m.map (SV.si .i64)++z)->l=m
 |[],[],_,_,_=>rfl
 |[],_::_,_,h,_=>by simp at h
 |_::_,[],_,h,_=>by simp at h
 |x::l,y::m,z,hl,h=>by
  simp only[List.map_cons,List.cons_append,gL,List.cons.injEq,SV.g,AV.sc.injEq,Value.int.injEq,true_and] at h
  rw[h.1,avX (by simpa using hl) h.2]
def ahC (f:FuncId) (k:Nat) (β:Type) (toL:β->List Int) (ofL:List Int->Option β) (h0:∀b,(toL b).length=k) (h1:∀l b,ofL l=some b->l=toL b) (h2:∀b c,toL b=toL c->b=c) (dom:(Nat×List Int×cn)×β->Prop) (out:(Nat×List Int×cn)×β->List Int):ob where
 f:=f
 α:=(Nat×List Int×cn)×β
 put a:=.ow 0 a.1.1 1::((toL a.2).map (SV.si .i64)++[.fn (.func 121) [] [.ptr 1 0 20]])
 st a:=[.row (.i .i64) a.1.2.1 3 true,.cells a.1.2.2.ss 27 20 false]
 dec v o:=match v,o with
  | .ow 0 n 1::r,[.row t l 3 true,.cells cs 27 20 false]=>match ahB k r,Hj t (.i .i64) l,aeQ cs with
   |some xs,some l,some p=>match ofL xs with
    |some b=>some ((n,l,p),b)
    |none=>none
   |_,_,_=>none
  |_,_=>none
 ok v o a h:=by
  split at h
  ·split at h
   ·rename_i h3 h4 h5
    split at h
    ·rename_i b hb
     simp only[Option.some.injEq] at h;subst h
     obtain⟨rfl,hh⟩:=aaJ h4
     cases hh
     have:=h1 _ _ hb
     subst this
     refine⟨by simp only[gL,avW h3],?_⟩
     simp only[gO,List.map_cons,List.map_nil,cC.g,ahc h5]
    ·cases h
   ·cases h
  ·cases h
 inj a b e1 e2:=by
  obtain⟨⟨n,l,p⟩,x⟩:=a
  obtain⟨⟨n',l',p'⟩,x'⟩:=b
  simp only[gL,List.cons.injEq,SV.g,AV.os.injEq,true_and] at e1;simp only[gO,List.map_cons,List.map_nil,cC.g,List.cons.injEq,fZ.cells.injEq,and_true,true_and] at e2
  have h3:p=p':=ql.inj p p' (by simp only[ql,SV.g,e2.2])
  have h4:l=l':=by
   have hf:=congrArg List.length e2.1
   rw[xl,xl] at hf
   exact Yg (.i .i64) (by simpa[bD.sz] using hf) e2.1
  have h5:x=x':=h2 _ _ (avX (by rw[h0,h0]) e1.2)
  rw[e1.1.1,h3,h4,h5]
 dom:=dom
 res _:=.eW []
 out a:=[.row (.i .i64) (out a) 3 true,.cells a.1.2.2.ss 27 20 false]
abbrev Srg:=Nat×List Int×cn
def to2 (b:Int×Int):List Int:=[b.1,b.2]
def of2:List Int->Option (Int×Int)
 |[a,b]=>some (a,b)
 |_=>none
theorem aDT:∀l b,of2 l=some b->l=to2 b:=fun l b h=>by
 unfold of2 at h;split at h
 ·simp only[Option.some.injEq] at h;subst h;rfl
 ·cases h
theorem aDU:∀b c,to2 b=to2 c->b=c:=fun b c h=>by
 unfold to2 at h;simp only[List.cons.injEq,and_true] at h
 exact Prod.ext h.1 h.2
def to3 (b:Int×Int×Int):List Int:=[b.1,b.2.1,b.2.2]
def of3:List Int->Option (Int×Int×Int)
 |[a,b,c]=>some (a,b,c)
 |_=>none
theorem apA:∀l b,of3 l=some b->l=to3 b:=fun l b h=>by
 unfold of3 at h;split at h
 ·simp only[Option.some.injEq] at h;subst h;rfl
 ·cases h
theorem apB:∀b c,to3 b=to3 c->b=c:=fun b c h=>by
 unfold to3 at h;simp only[List.cons.injEq,and_true] at h
 exact Prod.ext h.1 (Prod.ext h.2.1 h.2.2)
def ae6 (a:Srg):Prop:=(dV a.2.2=0/\a.1=a.2.1.length)/\a.2.1.length<=1000/\∀x∈a.2.1,GG a.2.2 x
def apC (l:List Int) (a b:Int):Prop:=0<=a/\a<=b/\b<=l.length
theorem aei {l m:List Int} (h:l=m):(cC.row (.i .i64) l 3 true).same (cC.row (.i .i64) m 3 true):=by subst h;rfl
def apD:ob:=ahC 197 3 (Int×Int×Int) to3 of3 (fun _=>rfl) apA apB (fun a=>a.1.1=a.1.2.1.length/\a.1.2.1.length<=1000/\0<=a.2.1/\0<=a.2.2.2/\a.2.1+a.2.2.2<=a.2.2.1/\a.2.2.1+a.2.2.2<=a.1.2.1.length) fun a=>KC a.1.2.1 a.2.1.toNat a.2.2.1.toNat a.2.2.2.toNat
def aDV (n:Nat) (l:List Int) (p:cn) (a b k:Int):Nat->jW
 |1=> .inv (Int×List Int) (fun x=>⟨[(0,.ow 0 n 1),(1,.si .i64 a),(2,.si .i64 b),(3,.si .i64 k),(10,.si .i64 x.1)],[.row (.i .i64) x.2 3 true,.cells p.ss 27 20 false]⟩) (fun s=>(iS s 10,oS (.i .i64) s 0))
   (fun x=>(0<=x.1/\x.1<=k)/\x.2=KC l a.toNat b.toNat x.1.toNat) (fun x=>(k - x.1).toNat) fun _ _=> .look
 |_=> .look
theorem h363:qH Tryz.prog apD:=by
 refine SD (L:=[]) (W:=[]) apD (fun a=>aDV a.1.1 a.1.2.1 a.1.2.2 a.2.1 a.2.2.1 a.2.2.2) (by simp) (by simp) ?_
 rintro⟨⟨n,l,p⟩,a,b,k⟩ ⟨hn,hl,a0,k0,h1,h2⟩
 refine gw (let c:=SV.si .i64;let d:=(0:Int);let e:=iR .i64;let f:=cC.row;let q:=SV.ow 0 n 1;let m:=bD.i .i64;let t:=f m l 3 true;let h:=cC.cells [c p.supply.a0,c p.supply.a1,c p.supply.a2,c p.supply.a3,c p.supply.a4,c p.supply.a5,c p.opn.a0,c p.opn.a1,c p.opn.a2,c p.opn.a3,c p.opn.a4,c p.opn.a5,c p.cls.a0,c p.cls.a1,c p.cls.a2,c p.cls.a3,c p.cls.a4,c p.cls.a5,SV.row m p.classes,SV.row bD.off p.offers] 27 20 false;(((q.same q/\(c a).same (c a)/\(c b).same (c b)/\(c k).same (c k)/\(SV.il .i64 0).same (c 0)/\True)/\t.same t/\h.same h/\True)/\(d<=d/\d<=k)/\l=KC l a.toNat b.toNat 0)/\∀(x:Int×List Int),let g:=x.snd.length;let r:=(b+x.fst).toNat;let s:=(a+x.fst).toNat;let o:=x.snd.set s (bo x.snd r d);let j:=x.fst+(1:Int);let u:=c j;let v:=o.set r (bo x.snd s d);let w:=f m v 3 true;(d<=x.fst/\x.fst<=k)/\x.snd=KC l a.toNat b.toNat x.fst.toNat->(decide (x.fst<k)=true->e (a+x.fst)/\e (b+x.fst)/\e (b+x.fst)/\n=g/\d<=b+x.fst/\b+x.fst<(↑g:Int)/\n=g/\r<g/\e (a+x.fst)/\n=g/\d<=a+x.fst/\a+x.fst<(↑g:Int)/\n=g/\s<g/\n=g/\d<=a+x.fst/\a+x.fst<(↑g:Int)/\n=g/\s<g/\n=o.length/\d<=b+x.fst/\b+x.fst<(↑o.length:Int)/\n=o.length/\r<o.length/\e j/\((q.same q/\(c a).same (c a)/\(c b).same (c b)/\(c k).same (c k)/\u.same u/\True)/\w.same w/\h.same h/\True)/\((d<=j/\j<=k)/\v=KC l a.toNat b.toNat j.toNat)/\(k - j).toNat<(k - x.fst).toNat)/\(decide (x.fst<k)=false->(SV.eW []).same (SV.eW [])/\(f m x.snd 3 true).same (f m (KC l a.toNat b.toNat k.toNat) 3 true)/\h.same h/\True)) (by kernel_rfl) ?_
 simp only[vcs]
 have hn:n=l.length:=hn
 have hl:l.length<=1000:=hl
 have a0:0<=a:=a0
 have k0:0<=k:=k0
 have h1:a+k<=b:=h1
 have h2:b+k<=l.length:=h2
 refine⟨⟨⟨by omega,by omega⟩,aDP.symm⟩,?_⟩
 rintro⟨i,m⟩ ⟨⟨i0,i1⟩,hm⟩
 simp only at i0 i1 hm ⊢
 have hml:m.length=l.length:=by rw[hm,ae5]
 have e:(i+1).toNat=i.toNat+1:=by omega
 have ea:(a+i).toNat=a.toNat+i.toNat:=by omega
 have eb:(b+i).toNat=b.toNat+i.toNat:=by omega
 simp only[List.length_set,hml]
 refine⟨fun hi=>?_,fun hi=>aei ?_⟩
 ·have hs:=@aDQ l a.toNat b.toNat i.toNat (by omega) (by omega)
  rw[<-hm] at hs;rw[e,ea,eb,hs]
  repeat' refine And.intro ?_ ?_
  all_goals first|omega|rfl
 ·rw[hm,show i=k by omega]
def apE:ob:=ahC 179 2 (Int×Int) to2 of2 (fun _=>rfl) aDT aDU (fun a=>ae6 a.1/\apC a.1.2.1 a.2.1 a.2.2/\(seg a.1.2.1 a.2.1.toNat a.2.2.toNat).Pairwise (·<·)) fun a=>np (fK a.1.2.2) a.1.2.1 a.2.1.toNat a.2.2.toNat
def aDW (n:Nat) (l:List Int) (p:cn) (a b:Int):Nat->jW
 |1=> .inv (Int×List Int) (fun x=>⟨[(0,.ow 0 n 1),(1,.si .i64 a),(2,.si .i64 b),(3,.fn (.func 121) [] [.ptr 1 0 20]),(8,.si .i64 x.1)],[.row (.i .i64) x.2 3 true,.cells p.ss 27 20 false]⟩) (fun s=>(iS s 8,oS (.i .i64) s 0))
   (fun x=>(a<x.1/\(x.1<=b\/x.1=a+1))/\x.2=np (fK p) l a.toNat (if a<b then x.1 else a).toNat) (fun x=>(b - x.1).toNat) fun x k=>match k with
    |4=> .inv (Int×List Int) (fun y=>⟨[(0,.ow 0 n 1),(1,.si .i64 a),(2,.si .i64 b),(3,.fn (.func 121) [] [.ptr 1 0 20]),(8,.si .i64 x.1),(9,.si .i64 y.1)],[.row (.i .i64) y.2 3 true,.cells p.ss 27 20 false]⟩) (fun s=>(iS s 9,oS (.i .i64) s 0))
      (fun y=>(a<=y.1/\y.1<=x.1)/\y.2=KB (fK p) l a.toNat x.1.toNat y.1.toNat/\∀s∈(mg (fK p) (seg l a.toNat x.1.toNat)).drop (y.1 - a).toNat,A4 (fK p) (bo l x.1.toNat 0) s=true) (fun y=>(y.1 - a).toNat) fun _ _=> .look
    |_=> .look
 |_=> .look
theorem h343:qH Tryz.prog apE:=by
 refine SD (L:=[]) (W:=[alV]) apE (fun a=>aDW a.1.1 a.1.2.1 a.1.2.2 a.2.1 a.2.2) (by simpa using h320) (by simp) ?_
 rintro⟨⟨n,l,p⟩,a,b⟩ ⟨⟨⟨hc,hn⟩,hl,ho⟩,⟨a0,a1,a2⟩,hi⟩
 refine gw (let c:=SV.si .i64;let d:=(0:Int);let e:=iR .i64;let f:=cC.row;let g:=(1:Int);let m:=a+g;let o:=SV.ow 0 n 1;let q:=SV.fn (Fn.func 121) [] [SV.ptr 1 0 20];let E:=c m;let w:=bD.i .i64;let F:=f w l 3 true;let k:=cC.cells [c p.supply.a0,c p.supply.a1,c p.supply.a2,c p.supply.a3,c p.supply.a4,c p.supply.a5,c p.opn.a0,c p.opn.a1,c p.opn.a2,c p.opn.a3,c p.opn.a4,c p.opn.a5,c p.cls.a0,c p.cls.a1,c p.cls.a2,c p.cls.a3,c p.cls.a4,c p.cls.a5,SV.row w p.classes,SV.row bD.off p.offers] 27 20 false;e m/\(((o.same o/\(c a).same (c a)/\(c b).same (c b)/\q.same q/\E.same E/\True)/\F.same F/\k.same k/\True)/\(a<m/\(m<=b\/m=m))/\l=np (fK p) l a.toNat (if a<b then m else a).toNat)/\∀(x:Int×List Int),let y:=c x.fst;let B:=f w x.snd 3 true;let r:=x.fst.toNat;let C:=mg (fK p) (seg l a.toNat r);let t:=x.fst+g;let G:=c t;let N:=np (fK p) l a.toNat (if a<b then t else a).toNat;(a<x.fst/\(x.fst<=b\/x.fst=m))/\x.snd=np (fK p) l a.toNat (if a<b then x.fst else a).toNat->(decide (x.fst<b)=true->(((o.same o/\(c a).same (c a)/\(c b).same (c b)/\q.same q/\y.same y/\y.same y/\True)/\B.same B/\k.same k/\True)/\(a<=x.fst/\x.fst<=x.fst)/\x.snd=KB (fK p) l a.toNat r r/\∀(s:Int),s∈List.drop (x.fst - a).toNat C->A4 (fK p) (bo l r d) s=true)/\∀(x_1:Int×List Int),let H:=f w x_1.snd 3 true;let v:=x_1.fst.toNat;let D:=bo x_1.snd v d;let j:=x_1.fst - g;let z:=j.toNat;let A:=bo x_1.snd z d;let h:=x_1.snd.length;let z23:Nat:=(x_1.snd.set v A).length;let I:=c j;let J:=(x_1.snd.set v A).set z D;let K:=f w J 3 true;let L:=e t/\((o.same o/\(c a).same (c a)/\(c b).same (c b)/\q.same q/\G.same G/\True)/\H.same H/\k.same k/\True)/\((a<t/\(t<=b\/t=m))/\x_1.snd=N)/\(b - t).toNat<(b - x.fst).toNat;let M:=fun(u:Bool) ↦decide (aeh p D A<d)=u;((a<=x_1.fst/\x_1.fst<=x.fst)/\x_1.snd=KB (fK p) l a.toNat r v/\∀(s:Int),s∈List.drop (x_1.fst - a).toNat C->A4 (fK p) (bo l r d) s=true)->(decide (a<x_1.fst)=true->n=h/\d<=x_1.fst/\x_1.fst<(↑h:Int)/\n=h/\v<h/\e j/\n=h/\d<=j/\j<(↑h:Int)/\n=h/\z<h/\(dV p=d/\GG p D/\GG p A)/\(M true->e j/\e j/\n=h/\d<=j/\j<(↑h:Int)/\n=h/\z<h/\n=h/\d<=x_1.fst/\x_1.fst<(↑h:Int)/\n=h/\v<h/\n=h/\d<=x_1.fst/\x_1.fst<(↑h:Int)/\n=h/\v<h/\n=z23/\d<=j/\j<(↑z23:Int)/\n=z23/\z<z23/\e j/\((o.same o/\(c a).same (c a)/\(c b).same (c b)/\q.same q/\y.same y/\I.same I/\True)/\K.same K/\k.same k/\True)/\((a<=j/\j<=x.fst)/\J=KB (fK p) l a.toNat r z/\∀(s:Int),s∈List.drop (j - a).toNat C->A4 (fK p) (bo l r d) s=true)/\(j - a).toNat<(x_1.fst - a).toNat)/\(M false->L))/\(decide (a<x_1.fst)=false->L))/\(decide (x.fst<b)=false->(SV.eW []).same (SV.eW [])/\B.same (f w (np (fK p) l a.toNat b.toNat) 3 true)/\k.same k/\True)) (by kernel_rfl) ?_
 simp only[vcs]
 have hc:dV p=0:=hc
 have hn:n=l.length:=hn
 have hl:l.length<=1000:=hl
 have ho:∀x∈l,GG p x:=ho
 have a0:0<=a:=a0
 have a1:a<=b:=a1
 have a2:b<=l.length:=a2
 have hi:(seg l a.toNat b.toNat).Pairwise (·<·):=hi
 generalize hD:fK p=D at*
 have sl:∀{i:Int},a<=i->i<=b->(np D l a.toNat i.toNat).length=l.length:=fun h1 h2=>ahy (by omega) (by omega)
 refine⟨by omega,⟨⟨by omega,.inr trivial⟩,?_⟩,?_⟩
 ·by_cases hab:a<b
  ·rw[if_pos hab,show(a+1).toNat=a.toNat+1 by omega,aDL (by omega)]
  ·rw[if_neg hab,avJ]
 rintro⟨i,m⟩ ⟨⟨i0,i1⟩,hm⟩
 simp only at i0 i1 hm ⊢
 refine⟨fun hib=>?_,fun hib=>aei ?_⟩
 ·rw[if_pos (by omega)] at hm
  have hx:=ho _ (nA (d:=(0:Int)) (show i.toNat<l.length by omega))
  have hS:∀s∈mg D (seg l a.toNat i.toNat),s<bo l i.toNat 0/\GG p s:=fun s hs=>by
   have h1:=ahx.1 hs
   have h2:(seg l a.toNat (i.toNat+1)).Pairwise (·<·):=by
    refine hi.sublist ?_
    unfold seg
    exact List.take_sublist_take_left (by omega)
   rw[apt (by omega) (by omega)] at h2
   refine⟨(List.pairwise_append.1 h2).2.2 s h1 _ (by simp),ho s ?_⟩
   unfold seg at h1
   exact List.mem_of_mem_drop (List.mem_of_mem_take h1)
  have hSl:(mg D (seg l a.toNat i.toNat)).length=i.toNat - a.toNat:=by rw[abp,SI (by omega) (by omega)]
  have il:∀{j:Nat},(KB D l a.toNat i.toNat j).length=l.length:=fun {j}=>avK (by omega) (by omega)
  refine⟨⟨⟨by omega,by omega⟩,?_,?_⟩,?_⟩
  ·rw[hm,avL (by omega) (by omega)]
  ·intro s hs
   rw[List.drop_of_length_le (by omega)] at hs
   simp at hs
  rintro⟨j,m2⟩ ⟨⟨j0,j1⟩,hm2,hle⟩
  simp only at j0 j1 hm2 hle ⊢
  subst hm2;simp only[List.length_set,il]
  have fin:(j=a\/A4 D (bo (mg D (seg l a.toNat i.toNat)) (j.toNat - 1 - a.toNat) 0) (bo l i.toNat 0)=true)->KB D l a.toNat i.toNat j.toNat=np D l a.toNat (if a<b then i+1 else a).toNat:=fun h=>by
   rw[if_pos (by omega),show(i+1).toNat=i.toNat+1 by omega]
   refine avQ (by omega) (by omega) (by omega) ?_ ?_
   ·rw[show j.toNat - a.toNat=(j - a).toNat by omega];exact hle
   ·rcases h with h|h
    ·exact .inl (by omega)
    ·exact .inr h
  refine⟨fun hj=>?_,fun hj=>?_⟩
  ·obtain⟨k1,k2,k3⟩:=@avO D l a.toNat i.toNat j.toNat (by omega) (by omega) (by omega)
   have ej:(j - 1).toNat=j.toNat - 1:=by omega
   rw[ej,k1,k2,k3]
   have hs:=nA (d:=(0:Int)) (show j.toNat - 1 - a.toNat<(mg D (seg l a.toNat i.toNat)).length by omega)
   obtain⟨s1,s2⟩:=hS _ hs
   have hcmp:=avV hc hx s2
   rw[hD] at hcmp;rw[hcmp]
   refine⟨by omega,by omega,by omega,by omega,by omega,by omega,by omega,by omega,by omega,by omega,by omega,⟨hc,hx,s2⟩,fun h1=>?_,fun h1=>?_⟩
   ·repeat' refine And.intro ?_ ?_
    all_goals first|omega|rfl|skip
    intro s hs2
    rw[show(j - 1 - a).toNat=j.toNat - 1 - a.toNat by omega,List.drop_eq_getElem_cons (show j.toNat - 1 - a.toNat<(mg D (seg l a.toNat i.toNat)).length by omega)] at hs2
    rcases List.mem_cons.1 hs2 with rfl|hs2
    ·rw[<-jV (d:=(0:Int))]
     exact abO.2 (.inl h1)
    ·refine hle s ?_
     rw[show(j - a).toNat=j.toNat - 1 - a.toNat+1 by omega]
     exact hs2
   ·have:=fin (.inr (abO.2 (by omega)))
    repeat' refine And.intro ?_ ?_
    all_goals first|omega|exact this|rfl
  ·have:=fin (.inl (by omega))
   repeat' refine And.intro ?_ ?_
   all_goals first|omega|exact this|rfl
 ·rw[hm]
  by_cases hab:a<b
  ·rw[if_pos hab,show i=b by omega]
  ·rw[if_neg hab,show a=b by omega]
theorem KD {l:List Int} {a b:Nat} (h1:a<=b):l.drop a=seg l a b++l.drop b:=by
 have:=List.take_append_drop (b - a) (l.drop a)
 rw[List.drop_drop,show a+(b - a)=b by omega] at this
 exact this.symm
theorem aej {P Q R:List Int} {a b:Nat} (ha:a=P.length) (hb:b=P.length+Q.length):seg (P++(Q++R)) a b=Q:=by
 subst ha;subst hb;unfold seg
 rw[List.drop_left,show P.length+Q.length - P.length=Q.length by omega,List.take_left]
theorem apF {D:Int->Int} {P Q R:List Int} {a b:Nat} (ha:a=P.length) (hb:b=P.length+Q.length):np D (P++(Q++R)) a b=P++(mg D Q++R):=by
 have h:=@aej P Q R a b ha hb
 unfold np;rw[h,ha,hb,List.take_left]
 have:(P++(Q++R)).drop (P.length+Q.length)=R:=by rw[<-List.append_assoc,<-List.length_append,List.drop_left]
 rw[this]
 simp
theorem ahD {l:List Int} {a b:Nat} {x:Int}:x∈seg l a b↔∃k,a<=k/\k<b/\k<l.length/\bo l k 0=x:=by
 unfold seg
 constructor
 ·intro h
  obtain⟨j,hj,rfl⟩:=List.getElem_of_mem h
  simp only[List.length_take,List.length_drop] at hj
  refine⟨a+j,by omega,by omega,by omega,?_⟩
  rw[List.getElem_take,List.getElem_drop,jV (show a+j<l.length by omega)]
 ·rintro⟨k,h1,h2,h3,rfl⟩
  have hj:k - a<((l.drop a).take (b - a)).length:=by simp only[List.length_take,List.length_drop];omega
  have:((l.drop a).take (b - a))[k - a]=bo l k 0:=by
   rw[List.getElem_take,List.getElem_drop,jV h3]
   congr 1
   omega
  rw[<-this]
  exact List.getElem_mem hj
theorem aDX {D:Int->Int} {l:List Int} {a b:Nat} (h:Hl D (seg l a b)) {i j:Nat} (h1:a<=i) (h2:i<j) (h3:j<b) (h4:b<=l.length):A4 D (bo l i 0) (bo l j 0)=true:=by
 have hl:=SI (l:=l) (show a<=b by omega) h4
 have:=List.pairwise_iff_getElem.1 h (i - a) (j - a) (by omega) (by omega) (by omega)
 have e1:(seg l a b)[i - a]'(by omega)=bo l i 0:=by
  unfold seg
  rw[List.getElem_take,List.getElem_drop,jV (show i<l.length by omega)]
  congr 1
  omega
 have e2:(seg l a b)[j - a]'(by omega)=bo l j 0:=by
  unfold seg
  rw[List.getElem_take,List.getElem_drop,jV (show j<l.length by omega)]
  congr 1
  omega
 rwa [e1,e2] at this
theorem alW {D:Int->Int} {x y:Int} (h:A4 D x y=true):D y<=D x:=by rw[abO] at h;omega
theorem aDY {D:Int->Int} {x:Int}:A4 D x x=true:=abO.2 (by omega)
theorem alX {D:Int->Int} {l:List Int} {a b:Nat} (h:Hl D (seg l a b)) {i j:Nat} (h1:a<=i) (h2:i<=j) (h3:j<b) (h4:b<=l.length):A4 D (bo l i 0) (bo l j 0)=true:=by
 by_cases hij:i=j
 ·subst hij;exact aDY
 ·exact aDX h h1 (by omega) h3 h4
theorem ae7 {l:List Int} {a b c d:Nat} (h1:a<=c) (h2:d<=b):(seg l c d).Sublist (seg l a b):=by
 by_cases hcd:c<=d
 ·by_cases hb:d<=l.length
  ·have e:seg l a b=seg l a c++(seg l c d++(seg (l.take b) d b)):=by
    apply List.append_cancel_right (bs:=l.drop b)
    have e1:=KD (l:=l) (show a<=b by omega)
    have e2:=KD (l:=l) (show a<=c by omega)
    have e3:=KD (l:=l) hcd
    have e4:=KD (l:=l) (show d<=b by omega)
    have e5:seg (l.take b) d b=seg l d b:=by
     unfold seg;rw[List.drop_take,List.take_take]
     congr 1
     omega
    rw[<-e1,e2,e3,e4,e5]
    simp
   rw[e]
   exact(List.sublist_append_left _ _).trans (List.sublist_append_right _ _)
  ·have e:seg l c d=l.drop c:=by unfold seg;exact List.take_of_length_le (by rw[List.length_drop];omega)
   have e2:seg l a b=l.drop a:=by unfold seg;exact List.take_of_length_le (by rw[List.length_drop];omega)
   rw[e,e2,KD (l:=l) h1]
   exact List.sublist_append_right _ _
 ·have:seg l c d=[]:=by unfold seg;rw[show d - c=0 by omega];simp
  rw[this]
  exact List.nil_sublist _
theorem avZ {l:List Int} {a m b:Nat} (h1:a<=m) (h2:m<=b) (h3:b<=l.length):(rotR l a m b).length=l.length:=by
 unfold rotR
 simp only[List.length_append,List.length_take,List.length_drop,SI h1 (show m<=l.length by omega),SI h2 h3]
 omega
theorem apG {l:List Int} {a b:Nat} {x:Int} (h:x∈seg l a b):x∈l:=by
 unfold seg at h
 exact List.mem_of_mem_drop (List.mem_of_mem_take h)
theorem aDZ {l:List Int} {a m b:Nat} {x:Int} (h:x∈rotR l a m b):x∈l:=by
 unfold rotR at h;simp only[List.mem_append] at h
 rcases h with h|h|h|h
 ·exact List.mem_of_mem_take h
 ·exact apG h
 ·exact apG h
 ·exact List.mem_of_mem_drop h
theorem aji {D:Int->Int} {l:List Int} {a b:Nat} {x:Int} (h:x∈np D l a b):x∈l:=by
 unfold np at h;simp only[List.mem_append] at h
 rcases h with(h|h)|h
 ·exact List.mem_of_mem_take h
 ·exact apG (ahx.1 h)
 ·exact List.mem_of_mem_drop h
theorem aD0 {l:List Int} {a m b:Nat} (h1:a<=m) (h2:m<=b) (h3:b<=l.length) (h:a=m\/m=b):rotR l a m b=l:=by
 have:=avT h1 h2 h3
 conv=>rhs;rw[this]
 unfold rotR
 rcases h with rfl|rfl
 ·rw[ajd];simp
 ·rw[ajd];simp
theorem apH {D:Int->Int} {l:List Int} {a b:Nat} (h1:a<=b) (h:Hl D (seg l a b)):np D l a b=l:=by
 unfold np;rw[aps h,List.append_assoc,<-KD h1,List.take_append_drop]
theorem aD1 {D:Int->Int} {l:List Int} {a s m e b mid:Nat} (h1:a<=s) (h2:s<=m) (h3:m<=e) (h4:e<=b) (h5:b<=l.length) (hmid:mid=s+(e - m)) (hL:Hl D (seg l a m)) (hR:Hl D (seg l m b))
  (H1:∀x∈seg l a s,∀y∈seg l e b,A4 D x y=true) (H2:∀x∈seg l m e,∀y∈seg l s m,A4 D x y=true):
  (seg (rotR l s m e) a s=seg l a s/\seg (rotR l s m e) s mid=seg l m e/\seg (rotR l s m e) a mid=seg l a s++seg l m e)/\
  (seg (np D (rotR l s m e) a mid) mid e=seg l s m/\seg (np D (rotR l s m e) a mid) e b=seg l e b/\seg (np D (rotR l s m e) a mid) mid b=seg l s m++seg l e b)/\
  np D (np D (rotR l s m e) a mid) mid b=np D l a b:=by
 have la:(l.take a).length=a:=by rw[List.length_take];omega
 have l1:=SI (l:=l) h1 (show s<=l.length by omega)
 have l2:=SI (l:=l) h2 (show m<=l.length by omega)
 have l3:=SI (l:=l) h3 (show e<=l.length by omega)
 have l4:=SI (l:=l) h4 h5
 have hsp:l=l.take a++(seg l a s++(seg l s m++(seg l m e++(seg l e b++l.drop b)))):=by
  rw[<-KD h4,<-KD h3,<-KD h2,<-KD h1,List.take_append_drop]
 have hts:l.take s=l.take a++seg l a s:=by
  conv=>lhs;rw[hsp]
  rw[<-List.append_assoc]
  exact List.take_left' (by rw[List.length_append,la,l1];omega)
 have aD2:rotR l s m e=l.take a++(seg l a s++(seg l m e++(seg l s m++(seg l e b++l.drop b)))):=by
  unfold rotR;rw[hts,KD h4]
  simp
 have hLL:seg l a m=seg l a s++seg l s m:=by
  have:=KD (l:=l) (show a<=m by omega)
  rw[KD h1,KD h2,<-List.append_assoc] at this
  exact(List.append_cancel_right this).symm
 have hRR:seg l m b=seg l m e++seg l e b:=by
  have:=KD (l:=l) (show m<=b by omega)
  rw[KD h3,KD h4,<-List.append_assoc] at this
  exact(List.append_cancel_right this).symm
 have hWh:seg l a b=seg l a s++(seg l s m++(seg l m e++seg l e b)):=by
  have:=KD (l:=l) (show a<=b by omega)
  rw[KD (show a<=m by omega),KD (show m<=b by omega),<-List.append_assoc] at this
  rw[<-List.append_cancel_right this,hLL,hRR]
  simp
 have hsr:np D l a b=l.take a++mg D (seg l a b)++l.drop b:=rfl
 rw[aD2,hsr,hWh];rw[hLL,Hl,List.pairwise_append] at hL;rw[hRR,Hl,List.pairwise_append] at hR
 generalize l.take a=A at*
 generalize seg l a s=X1 at*
 generalize seg l s m=X2 at*
 generalize seg l m e=Y1 at*
 generalize seg l e b=Y2 at*
 generalize l.drop b=Z at*
 have hs1:A++(X1++(Y1++(X2++(Y2++Z))))=A++((X1++Y1)++(X2++(Y2++Z))):=by simp
 have g1:np D (A++(X1++(Y1++(X2++(Y2++Z))))) a mid=A++(mg D (X1++Y1)++(X2++(Y2++Z))):=by
  rw[hs1]
  exact apF (by omega) (by rw[List.length_append];omega)
 have hs2:A++(mg D (X1++Y1)++(X2++(Y2++Z)))=(A++mg D (X1++Y1))++((X2++Y2)++Z):=by simp
 have lS:(mg D (X1++Y1)).length=X1.length+Y1.length:=by rw[abp,List.length_append]
 refine⟨⟨aej (by omega) (by omega),?_,?_⟩,⟨?_,?_,?_⟩,?_⟩
 ·rw[<-List.append_assoc]
  exact aej (by rw[List.length_append];omega) (by rw[List.length_append];omega)
 ·rw[hs1]
  exact aej (by omega) (by rw[List.length_append];omega)
 ·rw[g1,<-List.append_assoc]
  exact aej (by rw[List.length_append,lS];omega) (by rw[List.length_append,lS];omega)
 ·rw[g1,<-List.append_assoc,<-List.append_assoc]
  exact aej (by rw[List.length_append,List.length_append,lS];omega) (by rw[List.length_append,List.length_append,lS];omega)
 ·rw[g1,hs2]
  exact aej (by rw[List.length_append,lS];omega) (by rw[List.length_append,List.length_append,lS];omega)
 ·rw[g1,hs2,apF (by rw[List.length_append,lS];omega) (by rw[List.length_append,List.length_append,lS];omega)]
  have:mg D (X1++Y1)++mg D (X2++Y2)=mg D (X1++(X2++(Y1++Y2))):=by
   refine ajc ?_ ?_
   ·refine(List.Perm.append adA adA).trans ?_
    rw[List.append_assoc]
    refine List.Perm.append_left X1 ?_
    rw[<-List.append_assoc,<-List.append_assoc]
    exact List.Perm.append_right Y2 List.perm_append_comm
   ·rw[Hl,List.pairwise_append]
    refine⟨af5,af5,fun x hx y hy=>?_⟩
    have hx:=ahx.1 hx
    have hy:=ahx.1 hy
    rcases List.mem_append.1 hx with hx|hx
    ·rcases List.mem_append.1 hy with hy|hy
     ·exact hL.2.2 x hx y hy
     ·exact H1 x hx y hy
    ·rcases List.mem_append.1 hy with hy|hy
     ·exact H2 x hx y hy
     ·exact hR.2.2 x hx y hy
  rw[<-this]
  simp
theorem aD3 {A X Y B:List Int} {i j:Nat} (hi:X.length=i) (hj:Y.length=j) (h:j<i) {m:Nat} (hm:A.length+i=m):
  KC (A++(X++(Y++B))) (m - i) m j=(A++Y)++(X.drop j++(X.take j++B)):=by
 have e:A++(X++(Y++B))=A++(X.take j++(X.drop j++(Y++B))):=by
  rw[<-List.append_assoc (X.take j),List.take_append_drop]
 have lt:(X.take j).length=j:=by rw[List.length_take];omega
 have ld:(X.drop j).length=i - j:=by rw[List.length_drop];omega
 have hs:=@apu A (X.take j) (X.drop j) Y B (by omega)
 rw[lt,ld,show A.length+j+(i - j)=m by omega] at hs
 rw[e,show m - i=A.length by omega,hs]
 simp
theorem aD4 {A X Y B:List Int} {i j:Nat} (hi:X.length=i) (hj:Y.length=j) (h:i<j) {m:Nat} (hm:A.length+i=m):
  KC (A++(X++(Y++B))) (m - i) (m+j - i) i=A++(Y.drop (j - i)++(Y.take (j - i)++(X++B))):=by
 have e:A++(X++(Y++B))=A++(X++(Y.take (j - i)++(Y.drop (j - i)++B))):=by
  rw[<-List.append_assoc (Y.take (j - i)),List.take_append_drop]
 have lt:(Y.take (j - i)).length=j - i:=by rw[List.length_take];omega
 have ld:(Y.drop (j - i)).length=i:=by rw[List.length_drop];omega
 have hs:=@apu A X (Y.take (j - i)) (Y.drop (j - i)) B (by omega)
 rw[hi,lt,show A.length+i+(j - i)=m+j - i by omega] at hs
 rw[e,show m - i=A.length by omega,hs]
theorem aD5 {A X Y B:List Int} {i:Nat} (hi:X.length=i) (hj:Y.length=i) {m:Nat} (hm:A.length+i=m):
  KC (A++(X++(Y++B))) (m - i) m i=A++(Y++(X++B)):=by
 have hs:=@apu A X [] Y B (by omega)
 simp only[List.nil_append,List.length_nil,Nat.add_zero] at hs;rw[hi,hm] at hs
 rw[show m - i=A.length by omega,hs]
theorem apI {l:List Int} {a b k:Nat} (h:k<(seg l a b).length):(seg l a b)[k]=bo l (a+k) 0:=by
 have h2:bo (seg l a b) k 0=bo l (a+k) 0:=by
  have h3:k<b - a:=by
   unfold seg at h;rw[List.length_take] at h;omega
  unfold seg bo;rw[List.getElem?_take,if_pos h3,List.getElem?_drop]
 rwa [jV h] at h2
def YR (l:List Int) (a b c:Nat):List Int:=l.take a++((seg l (a+1) b).take c++bo l a 0::((seg l (a+1) b).drop c++l.drop b))
theorem aD6 {l:List Int} {a b:Nat} (h1:a<b) (h2:b<=l.length):YR l a b 0=l:=by
 unfold YR
 rw[List.take_zero,List.drop_zero,List.nil_append,<-KD (by omega),<-alU (by omega),List.take_append_drop]
theorem aD7 {l:List Int} {a b c:Nat} (h1:a<b) (h2:b<=l.length):(YR l a b c).length=l.length:=by
 have:=SI (l:=l) (show a+1<=b by omega) h2
 unfold YR;simp only[List.length_append,List.length_cons,List.length_take,List.length_drop,this];omega
theorem aD8 {l:List Int} {a b c:Nat} (h1:a+1+c<b) (h2:b<=l.length):
  bo (YR l a b c) (a+c) 0=bo l a 0/\bo (YR l a b c) (a+c+1) 0=bo l (a+1+c) 0/\((YR l a b c).set (a+c) (bo l (a+1+c) 0)).set (a+c+1) (bo l a 0)=YR l a b (c+1):=by
 have hl:=SI (l:=l) (show a+1<=b by omega) h2
 have hc:c<(seg l (a+1) b).length:=by omega
 have hy:(seg l (a+1) b)[c]=bo l (a+1+c) 0:=apI hc
 have t1:(seg l (a+1) b).take (c+1)=(seg l (a+1) b).take c++[bo l (a+1+c) 0]:=by rw[List.take_succ_eq_append_getElem hc,hy]
 have t2:(seg l (a+1) b).drop c=bo l (a+1+c) 0::(seg l (a+1) b).drop (c+1):=by rw[List.drop_eq_getElem_cons hc,hy]
 have f1:YR l a b c=(l.take a++(seg l (a+1) b).take c)++bo l a 0::bo l (a+1+c) 0::((seg l (a+1) b).drop (c+1)++l.drop b):=by
  unfold YR;rw[t2]
  simp
 have f2:YR l a b (c+1)=(l.take a++(seg l (a+1) b).take c)++bo l (a+1+c) 0::bo l a 0::((seg l (a+1) b).drop (c+1)++l.drop b):=by
  unfold YR;rw[t1]
  simp
 have f3:(l.take a++(seg l (a+1) b).take c).length=a+c:=by
  rw[List.length_append,List.length_take,List.length_take];omega
 rw[f1,f2]
 generalize l.take a++(seg l (a+1) b).take c=A at*
 generalize (seg l (a+1) b).drop (c+1)++l.drop b=B at*
 generalize bo l a 0=x at*
 generalize bo l (a+1+c) 0=y at*
 rw[<-f3]
 refine⟨avM,avN,?_⟩
 rw[List.set_append_right _ _ (by omega),List.set_append_right _ _ (by omega)]
 simp
theorem aD9 {D:Int->Int} {l:List Int} {a b c:Nat} (h1:a+1+c<=b) (h2:b<=l.length) (hT:Hl D (seg l (a+1) b)) (h3:∀s∈(seg l (a+1) b).drop c,A4 D (bo l a 0) s=true) (h4:c=0\/A4 D (bo l (a+c) 0) (bo l a 0)=true):YR l a b c=np D l a b:=by
 have hl:=SI (l:=l) (show a+1<=b by omega) h2
 have key:Hl D ((seg l (a+1) b).take c++bo l a 0::(seg l (a+1) b).drop c):=by
  refine avP hT h3 ?_
  rcases h4 with rfl|h4
  ·exact .inl rfl
  ·by_cases hc:c=0
   ·exact .inl hc
   ·refine .inr ⟨by omega,?_⟩
    have:bo (seg l (a+1) b) (c - 1) 0=bo l (a+c) 0:=by
     rw[jV (show c - 1<(seg l (a+1) b).length by omega),apI]
     congr 1
     omega
    rw[this];exact h4
 have hs:seg l a b=bo l a 0::seg l (a+1) b:=by
  have e1:=KD (l:=l) (show a<=b by omega)
  rw[alU (show a<l.length by omega),KD (show a+1<=b by omega),<-List.cons_append] at e1
  exact(List.append_cancel_right e1).symm
 have hp:((seg l (a+1) b).take c++bo l a 0::(seg l (a+1) b).drop c).Perm (seg l a b):=by
  rw[hs]
  refine List.perm_middle.trans ?_
  rw[List.take_append_drop]
 unfold YR np;rw[<-ajc hp key]
 simp
def apJ:ob:=ahC 191 3 (Int×Int×Int) to3 of3 (fun _=>rfl) apA apB (fun a=>a.1.1=a.1.2.1.length/\a.1.2.1.length<=1000/\0<=a.2.1/\a.2.1<a.2.2.1/\a.2.2.1<a.2.2.2/\a.2.2.2<=a.1.2.1.length) fun a=>rotR a.1.2.1 a.2.1.toNat a.2.2.1.toNat a.2.2.2.toNat
def aEa (n:Nat) (l:List Int) (p:cn) (a m b:Int):Nat->jW
 |2=> .inv (Int×Int×List Int) (fun x=>⟨[(0,.ow 0 n 1),(2,.si .i64 m),(4,.fn (.func 121) [] [.ptr 1 0 20]),(10,.si .i64 x.1),(11,.si .i64 x.2.1)],[.row (.i .i64) x.2.2 3 true,.cells p.ss 27 20 false]⟩) (fun s=>(iS s 10,iS s 11,oS (.i .i64) s 0))
   (fun x=>(0<x.1/\0<x.2.1)/\∃A X Y B:List Int,x.2.2=A++(X++(Y++B))/\(A.length:Int)+x.1=m/\(X.length:Int)=x.1/\(Y.length:Int)=x.2.1/\A++(Y++(X++B))=rotR l a.toNat m.toNat b.toNat) (fun x=>(x.1+x.2.1).toNat) fun _ _=> .look
 |_=> .look
theorem h351:qH Tryz.prog apJ:=by
 refine SD (L:=[]) (W:=[apD]) apJ (fun a=>aEa a.1.1 a.1.2.1 a.1.2.2 a.2.1 a.2.2.1 a.2.2.2) (by grind[h363]) (by simp) ?_
 rintro⟨⟨n,l,p⟩,a,m,b⟩ ⟨hn,T,a0,R,h2,U⟩
 refine gw (let j:=SV.si .i64;let q:=iR .i64;let w:=(0:Int);let K:=cC.row;let s:=SV.ow 0 n 1;let r:=SV.fn (Fn.func 121) [] [SV.ptr 1 0 20];let L:=j (m - a);let Z:=j (b - m);let o:=bD.i .i64;let V:=K o l 3 true;let h:=cC.cells [j p.supply.a0,j p.supply.a1,j p.supply.a2,j p.supply.a3,j p.supply.a4,j p.supply.a5,j p.opn.a0,j p.opn.a1,j p.opn.a2,j p.opn.a3,j p.opn.a4,j p.opn.a5,j p.cls.a0,j p.cls.a1,j p.cls.a2,j p.cls.a3,j p.cls.a4,j p.cls.a5,SV.row o p.classes,SV.row bD.off p.offers] 27 20 false;let M:=rotR l a.toNat m.toNat b.toNat;q (m - a)/\q (b - m)/\(((s.same s/\(j m).same (j m)/\r.same r/\L.same L/\Z.same Z/\True)/\V.same V/\h.same h/\True)/\(w<m - a/\w<b - m)/\∃(A:List Int),∃(X:List Int),∃(Y:List Int),∃(B:List Int),l=A++(X++(Y++B))/\(↑A.length:Int)+(m - a)=m/\(↑X.length:Int)=m - a/\(↑Y.length:Int)=b - m/\A++(Y++(X++B))=M)/\∀(x:Int×Int×List Int),let c:=x.snd.snd.length;let k:=(m - x.fst).toNat;let D:=(x.fst+x.snd.fst).toNat;let C:=decide (x.fst≠x.snd.fst);let J:=decide (x.snd.fst<x.fst);let g:=x.fst - x.snd.fst;let v:=j g;let I:=j x.snd.fst;let G:=KC x.snd.snd k m.toNat x.snd.fst.toNat;let z:=K o G 3 true;let y:=m+x.snd.fst - x.fst;let O:=fun(u d N f e:Int) ↦let H:=j f;let F:=KC x.snd.snd k d.toNat u.toNat;let E:=K o F 3 true;(n=c/\c<=1000/\w<=m - x.fst/\w<=u/\m - x.fst+u<=d/\d+u<=(↑c:Int))/\q (N - u)/\((s.same s/\(j m).same (j m)/\r.same r/\H.same H/\(j e).same (j e)/\True)/\E.same E/\h.same h/\True)/\((w<f/\w<e)/\∃(A:List Int),∃(X:List Int),∃(Y:List Int),∃(B:List Int),F=A++(X++(Y++B))/\(↑A.length:Int)+f=m/\(↑X.length:Int)=f/\(↑Y.length:Int)=e/\A++(Y++(X++B))=M)/\(f+e).toNat<D;let S:=fun(u:Int) (d:List Int) ↦(w<u/\w<x.snd.fst)/\∃(A:List Int),∃(X:List Int),∃(Y:List Int),∃(B:List Int),d=A++(X++(Y++B))/\(↑A.length:Int)+u=m/\(↑X.length:Int)=u/\(↑Y.length:Int)=x.snd.fst/\A++(Y++(X++B))=M;let t:=fun(u:Int) ↦n=c/\c<=1000/\w<=m - x.fst/\w<=u/\m - x.fst+u<=m/\m+u<=(↑c:Int);S x.fst x.snd.snd->(C=true->(J=true->q (m - x.fst)/\t x.snd.fst/\q g/\((s.same s/\(j m).same (j m)/\r.same r/\v.same v/\I.same I/\True)/\z.same z/\h.same h/\True)/\S g G/\(g+x.snd.fst).toNat<D)/\(J=false->q (m - x.fst)/\q (m+x.snd.fst)/\q y/\O x.fst y x.snd.fst x.fst (x.snd.fst - x.fst)))/\(C=false->q (m - x.fst)/\t x.fst/\(SV.eW []).same (SV.eW [])/\(K o (KC x.snd.snd k m.toNat x.fst.toNat) 3 true).same (K o M 3 true)/\h.same h/\True)) (by kernel_rfl) ?_
 simp only[vcs]
 have hn:n=l.length:=hn
 have T:l.length<=1000:=T
 have a0:0<=a:=a0
 have R:a<m:=R
 have h2:m<b:=h2
 have U:b<=l.length:=U
 have la:(l.take a.toNat).length=a.toNat:=by grind
 have l1:=SI (l:=l) (a:=a.toNat) (b:=m.toNat) (by omega) (by omega)
 have l2:=SI (l:=l) (a:=m.toNat) (b:=b.toNat) (by omega) (by omega)
 refine⟨by omega,by omega,⟨⟨by omega,by omega⟩,l.take a.toNat,seg l a.toNat m.toNat,seg l m.toNat b.toNat,l.drop b.toNat,avT (by omega) (by omega) (by omega),by omega,by omega,by omega,rfl⟩,?_⟩
 rintro⟨i,j,w⟩ ⟨⟨i0,j0⟩,A,X,Y,B,P,hA,hX,hY,O⟩
 simp only at i0 j0 P hA hX hY ⊢
 have K:=congrArg List.length O
 rw[avZ (by omega) (by omega) (by omega)] at K
 simp only[List.length_append] at K
 have Q:w.length=l.length:=by grind
 rw[Q]
 refine⟨fun a7=>⟨fun a8=>?_,fun a9=>?_⟩,fun b0=>?_⟩
 ·have q:=aD3 (A:=A) (X:=X) (Y:=Y) (B:=B) (i:=i.toNat) (j:=j.toNat) (by omega) (by omega) (by omega) (m:=m.toNat) (by omega)
  rw[<-P,show m.toNat - i.toNat=(m - i).toNat by omega] at q
  refine⟨by omega,⟨by omega,by omega,by omega,by omega,by omega,by omega⟩,by omega,⟨⟨by omega,by omega⟩,A++Y,X.drop j.toNat,X.take j.toNat,B,q,?_,?_,?_,?_⟩,by omega⟩
  ·grind
  ·grind
  ·grind
  ·rw[<-O]
   rw[<-List.append_assoc (X.take j.toNat),List.take_append_drop]
   simp
 ·have q:=aD4 (A:=A) (X:=X) (Y:=Y) (B:=B) (i:=i.toNat) (j:=j.toNat) (by omega) (by omega) (by omega) (m:=m.toNat) (by omega)
  rw[<-P,show m.toNat - i.toNat=(m - i).toNat by omega,show m.toNat+j.toNat - i.toNat=(m+j - i).toNat by omega] at q
  refine⟨by omega,by omega,by omega,⟨by omega,by omega,by omega,by omega,by omega,by omega⟩,by omega,⟨⟨by omega,by omega⟩,A,Y.drop (j.toNat - i.toNat),Y.take (j.toNat - i.toNat),X++B,q,by omega,?_,?_,?_⟩,by omega⟩
  ·grind
  ·grind
  ·rw[<-O]
   rw[<-List.append_assoc (Y.take (j.toNat - i.toNat)),List.take_append_drop]
 ·have a6:i=j:=by omega
  have q:=aD5 (A:=A) (X:=X) (Y:=Y) (B:=B) (i:=i.toNat) (by omega) (by omega) (m:=m.toNat) (by omega)
  grind[aei]
theorem av1 {l:List Int} {a b c:Nat}:(seg l a b).drop c=seg l (a+c) b:=by
 unfold seg
 rw[List.drop_take,List.drop_drop,show b - a - c=b - (a+c) by omega]
abbrev SyA:=Srg×Int×Int×Int
def acn (a:SyA):Prop:=ae6 a.1/\(0<=a.2.1/\a.2.1<a.2.2.1/\a.2.2.1<a.2.2.2/\a.2.2.2<=a.1.2.1.length)/\Hl (fK a.1.2.2) (seg a.1.2.1 a.2.1.toNat a.2.2.1.toNat)/\Hl (fK a.1.2.2) (seg a.1.2.1 a.2.2.1.toNat a.2.2.2.toNat)/\
 ∀x∈seg a.1.2.1 a.2.1.toNat a.2.2.1.toNat,∀y∈seg a.1.2.1 a.2.2.1.toNat a.2.2.2.toNat,x<y
def acY (k:Nat):ob:=ahC 180 3 (Int×Int×Int) to3 of3 (fun _=>rfl) apA apB (fun a=>acn a/\(a.2.2.2 - a.2.1).toNat<k) fun a=>np (fK a.1.2.2) a.1.2.1 a.2.1.toNat a.2.2.2.toNat
def ajj (k:Nat):List ob:=[acY k,apJ,alV]
def ajk (l:List Int) (p:cn):ie:=[.row (.i .i64) l 3 true,.cells p.ss 27 20 false]
def av2 (n:Nat) (l:List Int) (p:cn) (a m b:Int):Nat->jW
 |3=> .inv (Int×Int) (fun x=>⟨[(0,.ow 0 n 1),(1,.si .i64 a),(4,.fn (.func 121) [] [.ptr 1 0 20]),(10,.si .i64 x.1),(11,.si .i64 x.2)],ajk l p⟩) (fun s=>(iS s 10,iS s 11))
   (fun x=>(m<=x.1/\x.1<=x.2/\x.2<=b)/\(∀k:Nat,m<=k->(k:Int)<x.1->fK p (bo l a.toNat 0)<fK p (bo l k 0))/\∀k:Nat,x.2<=k->(k:Int)<b->¬fK p (bo l a.toNat 0)<fK p (bo l k 0)) (fun x=>(x.2 - x.1).toNat) fun _ _=> .look
 |9=> .inv (Int×Int×List Int) (fun x=>⟨[(0,.ow 0 n 1),(10,.si .i64 x.2.1),(13,.si .i64 x.1)],ajk x.2.2 p⟩) (fun s=>(iS s 13,iS s 10,oS (.i .i64) s 0))
   (fun x=>(a<=x.1/\x.1<=x.2.1 - 1/\m<=x.2.1/\x.2.1<=b)/\((∀k:Nat,m<=k->(k:Int)<x.2.1->fK p (bo l a.toNat 0)<fK p (bo l k 0))/\∀k:Nat,x.2.1<=k->(k:Int)<b->¬fK p (bo l a.toNat 0)<fK p (bo l k 0))/\x.2.2=YR l a.toNat b.toNat (x.1 - a).toNat) (fun x=>(x.2.1 - x.1).toNat) fun _ _=> .look
 |15=> .inv (Int×Int) (fun x=>⟨[(0,.ow 0 n 1),(2,.si .i64 m),(4,.fn (.func 121) [] [.ptr 1 0 20]),(14,.si .i64 x.1),(15,.si .i64 x.2)],ajk l p⟩) (fun s=>(iS s 14,iS s 15))
   (fun x=>(a<=x.1/\x.1<=x.2/\x.2<=m)/\(∀k:Nat,a<=k->(k:Int)<x.1->¬fK p (bo l k 0)<fK p (bo l m.toNat 0))/\∀k:Nat,x.2<=k->(k:Int)<m->fK p (bo l k 0)<fK p (bo l m.toNat 0)) (fun x=>(x.2 - x.1).toNat) fun _ _=> .look
 |21=> .inv (Int×Int×List Int) (fun x=>⟨[(0,.ow 0 n 1),(14,.si .i64 x.2.1),(17,.si .i64 x.1)],ajk x.2.2 p⟩) (fun s=>(iS s 17,iS s 14,oS (.i .i64) s 0))
   (fun x=>(x.2.1<=x.1/\x.1<=m/\a<=x.2.1)/\((∀k:Nat,a<=k->(k:Int)<x.2.1->¬fK p (bo l k 0)<fK p (bo l m.toNat 0))/\∀k:Nat,x.2.1<=k->(k:Int)<m->fK p (bo l k 0)<fK p (bo l m.toNat 0))/\x.2.2=KB (fK p) l a.toNat m.toNat x.1.toNat) (fun x=>(x.1 - x.2.1).toNat) fun _ _=> .look
 |33=> .inv (Int×Int) (fun x=>⟨[(0,.ow 0 n 1),(1,.si .i64 a),(2,.si .i64 m),(3,.si .i64 b),(4,.fn (.func 121) [] [.ptr 1 0 20]),(18,.si .i64 ((a+b) / 2^1)),(19,.si .i64 ((a+b) / 2^1+m)),(20,.si .i64 x.1),(21,.si .i64 x.2),(22,.si .i64 ((a+b) / 2^1+m - 1))],ajk l p⟩) (fun s=>(iS s 20,iS s 21))
   (fun x=>((if(a+b) / 2<m then(a+b) / 2+m - b else a)<=x.1/\x.1<=x.2/\x.2<=(if(a+b) / 2<m then(a+b) / 2 else m))/\(∀k:Nat,(if(a+b) / 2<m then(a+b) / 2+m - b else a)<=k->(k:Int)<x.1->¬fK p (bo l k 0)<fK p (bo l ((a+b) / 2+m - 1 - k).toNat 0))/\
    ∀k:Nat,x.2<=k->(k:Int)<(if(a+b) / 2<m then(a+b) / 2 else m)->fK p (bo l k 0)<fK p (bo l ((a+b) / 2+m - 1 - k).toNat 0)) (fun x=>(x.2 - x.1).toNat) fun _ _=> .look
 |_=> .look
def alY (D:Int->Int) (n k:Nat) (l V:List Int) (p:cn) (a b mid e:Int):Prop:=
 (mid<e->(e<b->(acn ((n,V,p),mid,e,b)/\(b - mid).toNat<k)/\(cC.row (bD.i IntKind.i64) (np D V mid.toNat b.toNat) 3 true).same (cC.row (bD.i IntKind.i64) (np D l a.toNat b.toNat) 3 true))/\
  (¬e<b->(cC.row (bD.i IntKind.i64) V 3 true).same (cC.row (bD.i IntKind.i64) (np D l a.toNat b.toNat) 3 true)))/\(¬mid<e->(cC.row (bD.i IntKind.i64) V 3 true).same (cC.row (bD.i IntKind.i64) (np D l a.toNat b.toNat) 3 true))
def alZ (D:Int->Int) (n k:Nat) (l W:List Int) (p:cn) (a b mid e s:Int):Prop:=
 (a<s->(s<mid->(acn ((n,W,p),a,s,mid)/\(mid - a).toNat<k)/\alY D n k l (np D W a.toNat mid.toNat) p a b mid e)/\(¬s<mid->alY D n k l W p a b mid e))/\(¬a<s->alY D n k l W p a b mid e)
def av3 (D:Int->Int) (n k:Nat) (l:List Int) (p:cn) (a m b mid s:Int):Prop:=
 (-9223372036854775808<=mid+m - s/\mid+m - s<=9223372036854775807)/\
 (s<m->(m<mid+m - s->(n=l.length/\l.length<=1000/\0<=s/\s<m/\m<mid+m - s/\mid+m - s<=l.length)/\alZ D n k l (rotR l s.toNat m.toNat (mid+m - s).toNat) p a b mid (mid+m - s) s)/\
  (¬m<mid+m - s->alZ D n k l l p a b mid (mid+m - s) s))/\(¬s<m->alZ D n k l l p a b mid (mid+m - s) s)
theorem aEc {D:Int->Int} {n k:Nat} {l:List Int} {p:cn} {a m b mid s:Int} (hD:fK p=D) (E:dV p=0) (I:n=l.length) (L:l.length<=1000) (K:∀x∈l,GG p x) (a0:0<=a) (a1:a<=s) (s1:s<=m) (sm:s<=mid) (am:a<mid) (mb:mid<b)
  (Q:m<=mid+m - s) (Y:mid+m - s<=b) (X:b<=l.length) (q:Hl D (seg l a.toNat m.toNat)) (r:Hl D (seg l m.toNat b.toNat)) (w:∀x∈seg l a.toNat m.toNat,∀y∈seg l m.toNat b.toNat,x<y)
  (J:∀x y,x∈seg l a.toNat s.toNat->y∈seg l (mid+m - s).toNat b.toNat->A4 D x y=true) (M:∀x y,x∈seg l m.toNat (mid+m - s).toNat->y∈seg l s.toNat m.toNat->A4 D x y=true) (V:(b - a).toNat<k+1):
  av3 D n k l p a m b mid s:=by
 generalize U:mid+m - s=e at*
 obtain⟨⟨G,N,W⟩,⟨O,F,y3⟩,i⟩:=@aD1 D l a.toNat s.toNat m.toNat e.toNat b.toNat mid.toNat (by omega) (by omega) (by omega) (by omega) (by omega) (by omega) q r (fun x h y g=>J x y h g) (fun x h y g=>M x y h g)
 have rl:(rotR l s.toNat m.toNat e.toNat).length=l.length:=avZ (by omega) (by omega) (by omega)
 have t:∀x∈rotR l s.toNat m.toNat e.toNat,GG p x:=fun x h=>K x (aDZ h)
 have r0:(¬s<m\/¬m<e)->rotR l s.toNat m.toNat e.toNat=l:=fun h=>aD0 (by omega) (by omega) (by omega) (by omega)
 generalize H:rotR l s.toNat m.toNat e.toNat=R at*
 have S:(np D R a.toNat mid.toNat).length=R.length:=ahy (by omega) (by omega)
 have P:∀x∈np D R a.toNat mid.toNat,GG p x:=fun x h=>t x (aji h)
 have A:Hl D (seg l a.toNat s.toNat):=List.Pairwise.sublist (ae7 (by omega) (by omega)) q
 have B:Hl D (seg l s.toNat m.toNat):=List.Pairwise.sublist (ae7 (by omega) (by omega)) q
 have u:Hl D (seg l m.toNat e.toNat):=List.Pairwise.sublist (ae7 (by omega) (by omega)) r
 have f:Hl D (seg l e.toNat b.toNat):=List.Pairwise.sublist (ae7 (by omega) (by omega)) r
 have v:(¬a<s\/¬s<mid)->np D R a.toNat mid.toNat=R:=by
  intro h
  refine apH (by omega) ?_
  grind
 generalize Z:np D R a.toNat mid.toNat=T at*
 have z:(¬mid<e\/¬e<b)->np D T mid.toNat b.toNat=T:=by
  intro h
  refine apH (by omega) ?_
  rcases h with h|h
  ·rw[show mid.toNat=e.toNat by omega,F];exact f
  grind
 have C:alY D n k l T p a b mid e:=by
  refine⟨fun c=>⟨fun d=>⟨⟨⟨⟨⟨E,by simp_all⟩,by simp_all,P⟩,⟨by grind,c,d,by simp_all⟩,?_,?_,?_⟩,by omega⟩,aei i⟩,fun d=>aei ((z (.inr d)).symm.trans i)⟩,fun c=>aei ((z (.inl c)).symm.trans i)⟩
  ·simp_all
  ·simp_all
  ·simp only[O,F]
   exact fun x j y o=>w x ((ae7 (by omega) (by omega)).subset j) y ((ae7 (by omega) (by omega)).subset o)
 have hW:alZ D n k l R p a b mid e s:=by
  refine⟨fun c=>⟨fun d=>⟨⟨⟨⟨⟨E,by simp_all⟩,by simp_all,t⟩,⟨by omega,c,d,by grind⟩,?_,?_,?_⟩,by omega⟩,by simp_all⟩,fun d=>v (.inr d)▸C⟩,fun c=>v (.inl c)▸C⟩
  ·simp_all
  ·simp_all
  ·simp only[G,N]
   exact fun x j y o=>w x ((ae7 (by omega) (by omega)).subset j) y ((ae7 (by omega) (by omega)).subset o)
 refine⟨by omega,fun c=>⟨fun d=>⟨⟨I,L,by omega,c,by omega,by omega⟩,by simp_all⟩,fun d=>?_⟩,fun c=>?_⟩
 all_goals simp_all
theorem aEd (k n:Nat) (l:List Int) (p:cn) (a m b:Int) (hd:acn ((n,l,p),a,m,b)) (hk:(b - a).toNat<k+1):
  Vc (ag6 (SC [] (A2 (ajj k)) ZZ mtN ym) (av2 n l p a m b) (fG 180) ((acY (k+1)).put ((n,l,p),a,m,b)) ((acY (k+1)).st ((n,l,p),a,m,b)) fun v t=>v.same ((acY (k+1)).res ((n,l,p),a,m,b))/\ME t ((acY (k+1)).out ((n,l,p),a,m,b))):=by
 obtain⟨⟨⟨hc,hn⟩,hl,ho⟩,⟨a0,a1,a2,a3⟩,hL,hR,hx⟩:=hd
 simp only at hc hn hl ho a0 a1 a2 a3 hL hR hx
 refine gw (let e:=SV.si .i64;let h:=(0:Int);let j:=iR .i64;let o:=SV.eW;let r:=(1:Int);let s:=cC.row;let t:=(64:Int);let v:=(2:Int);let I:=(a+b) / v;let Q:=I+m;let w:=if I<m then Q - b else a;let y:=if I<m then I else m;let R:=Q - r;let A:=(↑l.length:Int);let f:=SV.ow 0 n 1;let K:=SV.fn (Fn.func 121) [] [SV.ptr 1 0 20];let b1:=e I;let b2:=e Q;let b5:=e R;let g:=bD.i .i64;let S:=s g l 3 true;let c:=cC.cells [e p.supply.a0,e p.supply.a1,e p.supply.a2,e p.supply.a3,e p.supply.a4,e p.supply.a5,e p.opn.a0,e p.opn.a1,e p.opn.a2,e p.opn.a3,e p.opn.a4,e p.opn.a5,e p.cls.a0,e p.cls.a1,e p.cls.a2,e p.cls.a3,e p.cls.a4,e p.cls.a5,SV.row g p.classes,SV.row bD.off p.offers] 27 20 false;let U:=I.toNat;let z:=s g (np (fK p) l a.toNat b.toNat) 3 true;let b3:=np (fK p) l a.toNat U;let c6:=decide (m - a=r);let H:=bo l a.toNat h;let d2:=decide (b - m=r);let q:=bo l m.toNat h;let Y:=∀(x:Int×Int),let P:=decide (I<Q - x.fst);let O:=decide (Q - x.fst<b);let b4:=(I,Q - x.fst,b);let T:=rotR l x.fst.toNat m.toNat (Q - x.fst).toNat;let c0:=x.fst+x.snd;let B:=c0 / v;let f2:=bo l (R - B).toNat h;let g1:=bo l B.toNat h;let c9:=decide (x.fst<x.snd);let f5:=decide (m<Q - x.fst);let a7:=np (fK p) T a.toNat U;let f3:=let g8:=(P=true->(O=true->(acn ((n,l,p),b4)/\(b - I).toNat<k)/\(o []).same (o [])/\(s g (np (fK p) l U b.toNat) 3 true).same z/\c.same c/\True)/\(O=false->(o []).same (o [])/\S.same z/\c.same c/\True))/\(P=false->(o []).same (o [])/\S.same z/\c.same c/\True);(decide (a<x.fst)=true->(decide (x.fst<I)=true->(acn ((n,l,p),a,x.fst,I)/\(I - a).toNat<k)/\(P=true->(O=true->(acn ((n,b3,p),b4)/\(b - I).toNat<k)/\(o []).same (o [])/\(s g (np (fK p) b3 U b.toNat) 3 true).same z/\c.same c/\True)/\(O=false->(o []).same (o [])/\(s g b3 3 true).same z/\c.same c/\True))/\(P=false->(o []).same (o [])/\(s g b3 3 true).same z/\c.same c/\True))/\(decide (x.fst<I)=false->g8))/\(decide (a<x.fst)=false->g8);let h7:=(P=true->(O=true->(acn ((n,T,p),b4)/\(b - I).toNat<k)/\(o []).same (o [])/\(s g (np (fK p) T U b.toNat) 3 true).same z/\c.same c/\True)/\(O=false->(o []).same (o [])/\(s g T 3 true).same z/\c.same c/\True))/\(P=false->(o []).same (o [])/\(s g T 3 true).same z/\c.same c/\True);let g7:=fun(u d:Int) ↦let f0:=e u;((f.same f/\(e a).same (e a)/\(e m).same (e m)/\(e b).same (e b)/\K.same K/\b1.same b1/\b2.same b2/\f0.same f0/\(e d).same (e d)/\b5.same b5/\True)/\S.same S/\c.same c/\True)/\((w<=u/\u<=d/\d<=y)/\(∀(k:Nat),w<=(↑k:Int)->(↑k:Int)<u->fK p (bo l k h)<fK p (bo l (R - (↑k:Int)).toNat h)->False)/\∀(k:Nat),d<=(↑k:Int)->(↑k:Int)<y->fK p (bo l k h)<fK p (bo l (R - (↑k:Int)).toNat h))/\(d - u).toNat<(x.snd - x.fst).toNat;let g4:=fun(u:Bool) ↦(!decide (aeh p f2 g1<h))=u;((w<=x.fst/\x.fst<=x.snd/\x.snd<=y)/\(∀(k:Nat),w<=(↑k:Int)->(↑k:Int)<x.fst->fK p (bo l k h)<fK p (bo l (R - (↑k:Int)).toNat h)->False)/\∀(k:Nat),x.snd<=(↑k:Int)->(↑k:Int)<y->fK p (bo l k h)<fK p (bo l (R - (↑k:Int)).toNat h))->(c9=true->j c0/\iR .u64 c0/\h<=r/\r<=t/\j B/\j (R - B)/\n=l.length/\h<=R - B/\R - B<A/\n=l.length/\(R - B).toNat<l.length/\n=l.length/\h<=B/\B<A/\n=l.length/\B.toNat<l.length/\(dV p=h/\GG p f2/\GG p g1)/\(g4 true->j (B+r)/\g7 (B+r) x.snd)/\(g4 false->g7 x.fst B))/\(c9=false->j (Q - x.fst)/\(decide (x.fst<m)=true->(f5=true->(n=l.length/\l.length<=1000/\h<=x.fst/\x.fst<m/\m<Q - x.fst/\Q - x.fst<=(↑l.length:Int))/\(decide (a<x.fst)=true->(decide (x.fst<I)=true->(acn ((n,T,p),a,x.fst,I)/\(I - a).toNat<k)/\(P=true->(O=true->(acn ((n,a7,p),b4)/\(b - I).toNat<k)/\(o []).same (o [])/\(s g (np (fK p) a7 U b.toNat) 3 true).same z/\c.same c/\True)/\(O=false->(o []).same (o [])/\(s g a7 3 true).same z/\c.same c/\True))/\(P=false->(o []).same (o [])/\(s g a7 3 true).same z/\c.same c/\True))/\(decide (x.fst<I)=false->h7))/\(decide (a<x.fst)=false->h7))/\(f5=false->f3))/\(decide (x.fst<m)=false->f3));let C:=S.same S/\c.same c/\True;let D:=fun(u d:Int) ↦let e7:=e u;j R/\(((f.same f/\(e a).same (e a)/\(e m).same (e m)/\(e b).same (e b)/\K.same K/\b1.same b1/\b2.same b2/\e7.same e7/\(e d).same (e d)/\b5.same b5/\True)/\C)/\(w<=u/\u<=d/\d<=y)/\(∀(k:Nat),w<=(↑k:Int)->(↑k:Int)<u->fK p (bo l k h)<fK p (bo l (R - (↑k:Int)).toNat h)->False)/\∀(k:Nat),d<=(↑k:Int)->(↑k:Int)<y->fK p (bo l k h)<fK p (bo l (R - (↑k:Int)).toNat h))/\Y;let N:=fun(u d d5:Int) ↦let e9:=e u;let f9:=e d;(f.same f/\e9.same e9/\K.same K/\f9.same f9/\(e d5).same (e d5)/\True)/\C;j (m - a)/\(c6=true->(N a m b/\(m<=m/\m<=b/\b<=b)/\(∀(k:Nat),m<=(↑k:Int)->(↑k:Int)<m->fK p H<fK p (bo l k h))/\∀(k:Nat),b<=(↑k:Int)->(↑k:Int)<b->fK p H<fK p (bo l k h)->False)/\∀(x:Int×Int),let c1:=x.fst+x.snd;let M:=c1 / v;let d6:=bo l M.toNat h;let f8:=decide (x.fst<x.snd);let d3:=e x.fst;let c7:=fun(u d:Int) ↦let g2:=e u;((f.same f/\(e a).same (e a)/\K.same K/\g2.same g2/\(e d).same (e d)/\True)/\C)/\((m<=u/\u<=d/\d<=b)/\(∀(k:Nat),m<=(↑k:Int)->(↑k:Int)<u->fK p H<fK p (bo l k h))/\∀(k:Nat),d<=(↑k:Int)->(↑k:Int)<b->fK p H<fK p (bo l k h)->False)/\(d - u).toNat<(x.snd - x.fst).toNat;let g0:=fun(u:Bool) ↦decide (aeh p d6 H<h)=u;((m<=x.fst/\x.fst<=x.snd/\x.snd<=b)/\(∀(k:Nat),m<=(↑k:Int)->(↑k:Int)<x.fst->fK p H<fK p (bo l k h))/\∀(k:Nat),x.snd<=(↑k:Int)->(↑k:Int)<b->fK p H<fK p (bo l k h)->False)->(f8=true->j c1/\iR .u64 c1/\h<=r/\r<=t/\j M/\n=l.length/\h<=M/\M<A/\n=l.length/\M.toNat<l.length/\n=l.length/\h<=a/\a<A/\n=l.length/\a.toNat<l.length/\(dV p=h/\GG p d6/\GG p H)/\(g0 true->j (M+r)/\c7 (M+r) x.snd)/\(g0 false->c7 x.fst M))/\(f8=false->(((f.same f/\d3.same d3/\(e a).same (e a)/\True)/\C)/\(a<=a/\a<=x.fst - r/\m<=x.fst/\x.fst<=b)/\((∀(k:Nat),m<=(↑k:Int)->(↑k:Int)<x.fst->fK p H<fK p (bo l k h))/\∀(k:Nat),x.fst<=(↑k:Int)->(↑k:Int)<b->fK p H<fK p (bo l k h)->False)/\l=YR l a.toNat b.toNat (a - a).toNat)/\∀(x:Int×Int×List Int),let b9:=x.snd.fst - r;let e4:=decide (x.fst<b9);let J:=x.fst+r;let E:=x.snd.snd.length;let a9:=J.toNat;let a6:=x.snd.snd.set x.fst.toNat (bo x.snd.snd a9 h);let g5:=e x.snd.fst;let e5:=e J;let f1:=a6.set a9 (bo x.snd.snd x.fst.toNat h);let c8:=s g f1 3 true;let d1:=fun(u:Int) (d:List Int) ↦(a<=u/\u<=b9/\m<=x.snd.fst/\x.snd.fst<=b)/\((∀(k:Nat),m<=(↑k:Int)->(↑k:Int)<x.snd.fst->fK p H<fK p (bo l k h))/\∀(k:Nat),x.snd.fst<=(↑k:Int)->(↑k:Int)<b->fK p H<fK p (bo l k h)->False)/\d=YR l a.toNat b.toNat (u - a).toNat;d1 x.fst x.snd.snd->j b9/\(e4=true->j J/\j J/\n=E/\h<=J/\J<(↑E:Int)/\n=E/\a9<E/\n=E/\h<=x.fst/\x.fst<(↑E:Int)/\n=E/\x.fst.toNat<E/\n=E/\h<=x.fst/\x.fst<(↑E:Int)/\n=E/\x.fst.toNat<E/\n=a6.length/\h<=J/\J<(↑a6.length:Int)/\n=a6.length/\a9<a6.length/\j J/\((f.same f/\g5.same g5/\e5.same e5/\True)/\c8.same c8/\c.same c/\True)/\d1 J f1/\(x.snd.fst - J).toNat<(x.snd.fst - x.fst).toNat)/\(e4=false->(o []).same (o [])/\(s g x.snd.snd 3 true).same z/\c.same c/\True)))/\(c6=false->j (b - m)/\(d2=true->(N m a m/\(a<=a/\a<=m/\m<=m)/\(∀(k:Nat),a<=(↑k:Int)->(↑k:Int)<a->fK p (bo l k h)<fK p q->False)/\∀(k:Nat),m<=(↑k:Int)->(↑k:Int)<m->fK p (bo l k h)<fK p q)/\∀(x:Int×Int),let c2:=x.fst+x.snd;let L:=c2 / v;let e8:=bo l L.toNat h;let f4:=decide (x.fst<x.snd);let c5:=e x.fst;let e0:=fun(u d:Int) ↦let d8:=e u;((f.same f/\(e m).same (e m)/\K.same K/\d8.same d8/\(e d).same (e d)/\True)/\C)/\((a<=u/\u<=d/\d<=m)/\(∀(k:Nat),a<=(↑k:Int)->(↑k:Int)<u->fK p (bo l k h)<fK p q->False)/\∀(k:Nat),d<=(↑k:Int)->(↑k:Int)<m->fK p (bo l k h)<fK p q)/\(d - u).toNat<(x.snd - x.fst).toNat;let e6:=fun(u:Bool) ↦(!decide (aeh p q e8<h))=u;((a<=x.fst/\x.fst<=x.snd/\x.snd<=m)/\(∀(k:Nat),a<=(↑k:Int)->(↑k:Int)<x.fst->fK p (bo l k h)<fK p q->False)/\∀(k:Nat),x.snd<=(↑k:Int)->(↑k:Int)<m->fK p (bo l k h)<fK p q)->(f4=true->j c2/\iR .u64 c2/\h<=r/\r<=t/\j L/\n=l.length/\h<=m/\m<A/\n=l.length/\m.toNat<l.length/\n=l.length/\h<=L/\L<A/\n=l.length/\L.toNat<l.length/\(dV p=h/\GG p q/\GG p e8)/\(e6 true->j (L+r)/\e0 (L+r) x.snd)/\(e6 false->e0 x.fst L))/\(f4=false->(((f.same f/\c5.same c5/\(e m).same (e m)/\True)/\C)/\(x.fst<=m/\m<=m/\a<=x.fst)/\((∀(k:Nat),a<=(↑k:Int)->(↑k:Int)<x.fst->fK p (bo l k h)<fK p q->False)/\∀(k:Nat),x.fst<=(↑k:Int)->(↑k:Int)<m->fK p (bo l k h)<fK p q)/\l=KB (fK p) l a.toNat m.toNat m.toNat)/\∀(x:Int×Int×List Int),let X:=x.fst.toNat;let d0:=decide (x.snd.fst<x.fst);let F:=x.fst - r;let G:=x.snd.snd.length;let W:=F.toNat;let V:=x.snd.snd.set X (bo x.snd.snd W h);let d9:=e x.snd.fst;let h0:=e F;let f7:=V.set W (bo x.snd.snd X h);let g9:=s g f7 3 true;(x.snd.fst<=x.fst/\x.fst<=m/\a<=x.snd.fst)/\((∀(k:Nat),a<=(↑k:Int)->(↑k:Int)<x.snd.fst->fK p (bo l k h)<fK p q->False)/\∀(k:Nat),x.snd.fst<=(↑k:Int)->(↑k:Int)<m->fK p (bo l k h)<fK p q)/\x.snd.snd=KB (fK p) l a.toNat m.toNat X->(d0=true->j F/\j F/\n=G/\h<=F/\F<(↑G:Int)/\n=G/\W<G/\n=G/\h<=x.fst/\x.fst<(↑G:Int)/\n=G/\X<G/\n=G/\h<=x.fst/\x.fst<(↑G:Int)/\n=G/\X<G/\n=V.length/\h<=F/\F<(↑V.length:Int)/\n=V.length/\W<V.length/\j F/\((f.same f/\d9.same d9/\h0.same h0/\True)/\g9.same g9/\c.same c/\True)/\((x.snd.fst<=F/\F<=m/\a<=x.snd.fst)/\((∀(k:Nat),a<=(↑k:Int)->(↑k:Int)<x.snd.fst->fK p (bo l k h)<fK p q->False)/\∀(k:Nat),x.snd.fst<=(↑k:Int)->(↑k:Int)<m->fK p (bo l k h)<fK p q)/\f7=KB (fK p) l a.toNat m.toNat W)/\(F - x.snd.fst).toNat<(x.fst - x.snd.fst).toNat)/\(d0=false->(o []).same (o [])/\(s g x.snd.snd 3 true).same z/\c.same c/\True)))/\(d2=false->j (a+b)/\iR .u64 (a+b)/\h<=r/\r<=t/\j I/\j Q/\(decide (I<m)=true->j (Q - b)/\D (Q - b) I)/\(decide (I<m)=false->D a m)))) (by kernel_rfl) ?_
 simp only[vcs]
 have hV:∀k:Nat,k<l.length->GG p (bo l k 0):=fun k hk=>ho _ (nA hk)
 have Y:∀i j:Nat,i<l.length->j<l.length->(aeh p (bo l i 0) (bo l j 0)<0↔fK p (bo l j 0)<fK p (bo l i 0)):=fun i j hi hj=>avV hc (hV i hi) (hV j hj)
 have b7:∀i j:Nat,a<=i->(i:Int)<m->m<=j->(j:Int)<b->bo l i 0<bo l j 0:=fun i j h1 h2 h3 h4=>hx _ (ahD.2 ⟨i,by omega,by omega,by omega,rfl⟩) _ (ahD.2 ⟨j,by omega,by omega,by omega,rfl⟩)
 have b6:∀{v:Int},0<=v->v<=100000->iR .u64 v:=fun h1 h2=>u64_in h1 (by omega)
 generalize hD:fK p=D at*
 refine⟨by omega,fun h1=>?_,fun h1=>⟨by omega,fun h2=>?_,fun h2=>?_⟩⟩
 ·have hm:m=a+1:=by omega
  have N:∀i j:Nat,m<=i->i<=j->(j:Int)<b->D (bo l j 0)<=D (bo l i 0):=fun i j A o q3=>alW (alX hR (by omega) o (by omega) (by omega))
  refine⟨⟨⟨by omega,by omega,by omega⟩,fun k A o=>by omega,fun k A o=>by omega⟩,?_⟩
  rintro⟨i,j⟩ ⟨⟨i0,i1,i2⟩,A,o⟩
  simp only at i0 i1 i2 A o ⊢
  refine⟨fun Z=>?_,fun Z=>⟨⟨⟨by omega,by omega,by omega,by omega⟩,⟨A,fun k C r=>o k (by omega) r⟩,?_⟩,?_⟩⟩
  ·rw[Y _ _ (by omega) (by omega)]
   generalize hh:(i+j) / 2=h
   have d7:i<=h/\h<j:=by omega
   refine⟨by omega,b6 (by omega) (by omega),by omega,by omega,by omega,by omega,by omega,by omega,by omega,by omega,by omega,by omega,by omega,by omega,by omega,⟨hc,hV _ (by omega),hV _ (by omega)⟩,fun c3=>⟨by omega,⟨⟨by omega,by omega,by omega⟩,fun k C r=>?_,fun k C r=>o k C r⟩,by omega⟩,fun f6=>⟨⟨⟨by omega,by omega,by omega⟩,fun k C r=>A k C r,fun k C r=>?_⟩,by omega⟩⟩
   ·have:=N k h.toNat (by omega) (by omega) (by omega)
    omega
   ·have:=N h.toNat k (by omega) (by omega) (by omega)
    omega
  ·rw[show(a - a).toNat=0 by omega,aD6 (by omega) (by omega)]
  ·rintro⟨k,i',w⟩ ⟨⟨k0,k1,k2,k3⟩,⟨A,o⟩,hw⟩
   simp only at k0 k1 k2 k3 A o hw ⊢
   have b8:w.length=l.length:=by rw[hw,aD7 (by omega) (by omega)]
   refine⟨by omega,fun hk=>?_,fun hk=>?_⟩
   ·obtain⟨e1,e2,e3⟩:=@aD8 l a.toNat b.toNat (k - a).toNat (by omega) (by omega)
    rw[<-hw] at e1 e2 e3
    rw[show a.toNat+(k - a).toNat=k.toNat by omega] at e1 e2 e3
    rw[show k.toNat+1=(k+1).toNat by omega] at e2 e3
    rw[show(k - a).toNat+1=(k+1 - a).toNat by omega] at e3
    rw[e1,e2,e3];simp only[List.length_set,b8]
    refine⟨by omega,by omega,by omega,by omega,by omega,by omega,by omega,by omega,by omega,by omega,by omega,by omega,by omega,by omega,by omega,by omega,by omega,by omega,by omega,by omega,by omega,by omega,by omega,⟨⟨by omega,by omega,by omega,by omega⟩,⟨A,o⟩,trivial⟩,by omega⟩
   ·have h8:k=i' - 1:=by omega
    refine aei ?_
    rw[hw]
    refine aD9 (by omega) (by omega) (by rw[show a.toNat+1=m.toNat by omega];exact hR) ?_ ?_
    ·intro s hs
     rw[av1,ahD] at hs
     obtain⟨k',C,r,w3,rfl⟩:=hs
     have h9:¬D (bo l a.toNat 0)<D (bo l k' 0):=o k' (by omega) (by omega)
     have:=b7 a.toNat k' (by omega) (by omega) (by omega) (by omega)
     exact abO.2 (by omega)
    ·by_cases i4:k=a
     ·omega
     ·refine .inr (abO.2 (.inl ?_))
      rw[show a.toNat+(k - a).toNat=k.toNat by omega]
      exact A k.toNat (by omega) (by omega)
 ·have hb:b=m+1:=by omega
  have N:∀i j:Nat,a<=i->i<=j->(j:Int)<m->D (bo l j 0)<=D (bo l i 0):=fun i j A o q3=>alW (alX hL (by omega) o (by omega) (by omega))
  refine⟨⟨⟨by omega,by omega,by omega⟩,fun k A o=>by omega,fun k A o=>by omega⟩,?_⟩
  rintro⟨i,j⟩ ⟨⟨i0,i1,i2⟩,A,o⟩
  simp only at i0 i1 i2 A o ⊢
  refine⟨fun Z=>?_,fun Z=>⟨⟨⟨by omega,by omega,by omega⟩,⟨A,fun k C r=>o k (by omega) r⟩,?_⟩,?_⟩⟩
  ·rw[Y _ _ (by omega) (by omega)]
   generalize hh:(i+j) / 2=h
   have d7:i<=h/\h<j:=by omega
   refine⟨by omega,b6 (by omega) (by omega),by omega,by omega,by omega,by omega,by omega,by omega,by omega,by omega,by omega,by omega,by omega,by omega,by omega,⟨hc,hV _ (by omega),hV _ (by omega)⟩,fun f6=>⟨by omega,⟨⟨by omega,by omega,by omega⟩,fun k C r=>?_,fun k C r=>o k C r⟩,by omega⟩,fun c3=>⟨⟨⟨by omega,by omega,by omega⟩,fun k C r=>A k C r,fun k C r=>?_⟩,by omega⟩⟩
   ·have:=N k h.toNat (by omega) (by omega) (by omega)
    omega
   ·have:=N h.toNat k (by omega) (by omega) (by omega)
    omega
  ·rw[avL (by omega) (by omega),apH (by omega) hL]
  ·rintro⟨k,i',w⟩ ⟨⟨k0,k1,k2⟩,⟨A,o⟩,hw⟩
   simp only at k0 k1 k2 A o hw ⊢
   have b8:w.length=l.length:=by rw[hw,avK (by omega) (by omega)]
   have c4:mg D (seg l a.toNat m.toNat)=seg l a.toNat m.toNat:=aps hL
   have i8:=SI (l:=l) (a:=a.toNat) (b:=m.toNat) (by omega) (by omega)
   refine⟨fun hk=>?_,fun hk=>?_⟩
   ·obtain⟨e1,e2,e3⟩:=@avO D l a.toNat m.toNat k.toNat (by omega) (by omega) (by omega)
    rw[<-hw] at e1 e2 e3
    rw[show k.toNat - 1=(k - 1).toNat by omega] at e2 e3
    rw[e1,e2,e3];simp only[List.length_set,b8]
    refine⟨by omega,by omega,by omega,by omega,by omega,by omega,by omega,by omega,by omega,by omega,by omega,by omega,by omega,by omega,by omega,by omega,by omega,by omega,by omega,by omega,by omega,by omega,by omega,⟨⟨by omega,by omega,by omega⟩,⟨A,o⟩,trivial⟩,by omega⟩
   ·have h8:k=i':=by omega
    refine aei ?_
    rw[hw,show b.toNat=m.toNat+1 by omega]
    refine avQ (by omega) (by omega) (by omega) ?_ ?_
    ·intro s hs
     rw[c4,av1,ahD] at hs
     obtain⟨k',C,r,w3,rfl⟩:=hs
     have h9:D (bo l k' 0)<D (bo l m.toNat 0):=o k' (by omega) (by omega)
     exact abO.2 (by omega)
    ·by_cases i4:k=a
     ·omega
     ·refine .inr ?_
      rw[c4,jV (show k.toNat - 1 - a.toNat<(seg l a.toNat m.toNat).length by omega),apI]
      have h9:¬D (bo l (a.toNat+(k.toNat - 1 - a.toNat)) 0)<D (bo l m.toNat 0):=A (a.toNat+(k.toNat - 1 - a.toNat)) (by omega) (by omega)
      have:=b7 (a.toNat+(k.toNat - 1 - a.toNat)) m.toNat (by omega) (by omega) (by omega) (by omega)
      exact abO.2 (by omega)
 ·generalize i6:(a+b) / 2=e
  have md:2*e<=a+b/\a+b<=2*e+1:=by omega
  clear i6
  have i5:∃lo hi,lo=(if e<m then e+m - b else a)/\hi=(if e<m then e else m):=⟨_,_,rfl,rfl⟩
  obtain⟨lo,hi,g3,g6⟩:=i5
  rw[<-g3,<-g6]
  have i9:(e<m/\lo=e+m - b/\hi=e)\/(m<=e/\lo=a/\hi=m):=by
   omega
  clear g3 g6
  have b0:∀i j:Nat,a<=i->i<=j->(j:Int)<m->D (bo l j 0)<=D (bo l i 0):=fun i j A o q3=>alW (alX hL (by omega) o (by omega) (by omega))
  have a8:∀i j:Nat,m<=i->i<=j->(j:Int)<b->D (bo l j 0)<=D (bo l i 0):=fun i j A o q3=>alW (alX hR (by omega) o (by omega) (by omega))
  have d4:∀s:Int,lo<=s->s<=hi->(∀k:Nat,lo<=k->(k:Int)<s->D (bo l k 0)<D (bo l (e+m - 1 - k).toNat 0)->False)->(∀k:Nat,s<=k->(k:Int)<hi->D (bo l k 0)<D (bo l (e+m - 1 - k).toNat 0))->
    av3 D n k l p a m b e s:=by
   intro s s1 s2 A o
   refine aEc hD hc hn hl ho a0 (by omega) (by omega) (by omega) (by omega) (by omega) (by omega) (by omega) a3 hL hR hx ?_ ?_ hk
   ·rintro x y hX hY
    rw[ahD] at hX hY
    obtain⟨i,i1,i2,i3,rfl⟩:=hX
    obtain⟨j,j1,j2,j3,rfl⟩:=hY
    have h3:=A (s - 1).toNat (by omega) (by omega)
    rw[show(e+m - 1 - ((s - 1).toNat:Int)).toNat=(e+m - s).toNat by omega] at h3
    have h4:=b0 i (s - 1).toNat (by omega) (by omega) (by omega)
    have h5:=a8 (e+m - s).toNat j (by omega) (by omega) (by omega)
    have h6:=b7 i j (by omega) (by omega) (by omega) (by omega)
    grind[abO]
   ·rintro x y hX hY
    rw[ahD] at hX hY
    obtain⟨j,j1,j2,j3,rfl⟩:=hX
    obtain⟨i,i1,i2,i3,rfl⟩:=hY
    have h3:=o s.toNat (by omega) (by omega)
    have h4:=b0 s.toNat i (by omega) (by omega) (by omega)
    have h5:=a8 j (e+m - 1 - (s.toNat:Int)).toNat (by omega) (by omega) (by omega)
    exact abO.2 (by omega)
  refine⟨by omega,b6 (by omega) (by omega),by omega,by omega,by omega,by omega,fun hm=>⟨by omega,by omega,⟨⟨by omega,by omega,by omega⟩,fun k C r=>by omega,fun k C r=>by omega⟩,?_⟩,fun hm=>⟨by omega,⟨⟨by omega,by omega,by omega⟩,fun k C r=>by omega,fun k C r=>by omega⟩,?_⟩⟩
  all_goals
   rintro⟨i,j⟩ ⟨⟨i0,i1,i2⟩,A,o⟩
   simp only at i0 i1 i2 A o ⊢
   refine⟨fun Z=>?_,fun Z=>?_⟩
   ·generalize hh:(i+j) / 2=h
    have d7:i<=h/\h<j:=by omega
    rw[Y _ _ (by omega) (by omega)]
    refine⟨by omega,b6 (by omega) (by omega),by omega,by omega,by omega,by omega,by omega,by omega,by omega,by omega,by omega,by omega,by omega,by omega,by omega,by omega,⟨hc,hV _ (by omega),hV _ (by omega)⟩,fun f6=>⟨by omega,⟨⟨by omega,by omega,by omega⟩,fun k C r=>?_,fun k C r=>o k C r⟩,by omega⟩,fun c3=>⟨⟨⟨by omega,by omega,by omega⟩,fun k C r=>A k C r,fun k C r=>?_⟩,by omega⟩⟩
    ·have h3:=b0 k h.toNat (by omega) (by omega) (by omega)
     have h4:=a8 (e+m - 1 - h).toNat (e+m - 1 - (k:Int)).toNat (by omega) (by omega) (by omega)
     omega
    ·have h3:=b0 h.toNat k (by omega) (by omega) (by omega)
     have h4:=a8 (e+m - 1 - (k:Int)).toNat (e+m - 1 - h).toNat (by omega) (by omega) (by omega)
     omega
   ·have i7:i=j:=by omega
    have h3:=d4 i i0 (by omega) A (fun k C r=>o k (by omega) r)
    exact h3
theorem apK:∀n,qH Tryz.prog (acY n)
 |0=>by
  rintro⟨⟨c,l,p⟩,a,m,b⟩ ⟨_,h⟩
  omega
 |n+1=>by
  rintro⟨⟨c,l,p⟩,a,m,b⟩ ⟨j,r⟩
  by_cases o:(b - a).toNat<n
  ·exact apK n ⟨⟨c,l,p⟩,a,m,b⟩ ⟨j,o⟩
  ·refine aop (acY (n+1)) (W:=ajj n) (Λ:=fun x=>av2 x.1.1 x.1.2.1 x.1.2.2 x.2.1 x.2.2.1 x.2.2.2) acg (by simp only[ajj,List.forall_mem_cons,List.not_mem_nil,false_implies,implies_true,and_true];exact⟨apK n,h351,h320⟩) (by simp)
    (show ym 180=some (fG 180) by kernel_rfl) (fun _=>rfl) ⟨⟨c,l,p⟩,a,m,b⟩ ?_ (aEd n c l p a m b j r).out
   intro d q k i e g
   have f:d=acY n:=by
    have:YA 180 (ajj n)=some (acY n):=rfl
    have s:YA 180 (ajj n)=some d:=q
    simp_all
   subst f
   have t:(⟨⟨c,l,p⟩,a,m,b⟩:Srg×Int×Int×Int)=k:=(acY n).inj ⟨⟨c,l,p⟩,a,m,b⟩ k i e
   subst t
   exact o g.2
def to1 (b:Int):List Int:=[b]
def of1:List Int->Option Int
 |[a]=>some a
 |_=>none
theorem aEe:∀l b,of1 l=some b->l=to1 b:=fun l b h=>by
 unfold of1 at h;split at h
 ·simp only[Option.some.injEq] at h;subst h;rfl
 ·cases h
theorem aEf:∀b c,to1 b=to1 c->b=c:=fun b c h=>by
 simp_all[to1]
def to0 (_:Unit):List Int:=[]
def of0:List Int->Option Unit
 |[]=>some ()
 |_=>none
theorem aEg:∀l b,of0 l=some b->l=to0 b:=fun l b h=>by
 unfold of0 at h;split at h
 ·rfl
 ·cases h
theorem aEh:∀b c,to0 b=to0 c->b=c:=fun _ _ _=>rfl
theorem av4 {D:Int->Int} {l:List Int} {n:Nat} (h:n=l.length):np D l 0 n=mg D l:=by
 grind[np,seg]
def m20 (D:Int->Int) (l:List Int):List Int:=mg D (l.take 20)++(mg D (l.drop 20)++[])
theorem aEi {D:Int->Int} {l:List Int} (h:20<=l.length):np D l 0 20=mg D (l.take 20)++(l.drop 20++[]):=by
 grind[np,seg]
theorem aEj {D:Int->Int} {l:List Int} {n:Nat} (b:n=l.length) (h:20<=l.length):np D (np D l 0 20) 20 n=m20 D l:=by
 have a:(mg D (l.take 20)).length=20:=by grind[abp]
 rw[aEi h]
 exact apF a.symm (by simp_all)
theorem al1 {D:Int->Int} {l:List Int}:(m20 D l).length=l.length:=by
 grind[m20,abp]
theorem av5 {D:Int->Int} {l:List Int}:(m20 D l).Perm l:=by
 unfold m20;rw[List.append_nil]
 refine(adA.append adA).trans ?_
 simp_all
theorem aEk {D:Int->Int} {l:List Int} {n:Nat} (b:n=l.length) (h:20<=l.length):seg (m20 D l) 0 20=mg D (l.take 20)/\seg (m20 D l) 20 n=mg D (l.drop 20):=by
 have a:(mg D (l.take 20)).length=20:=by grind[abp]
 refine⟨?_,?_⟩
 ·have:=@aej [] (mg D (l.take 20)) (mg D (l.drop 20)++[]) 0 20 rfl (by rw[a];rfl)
  exact this
 ·exact aej a.symm (by grind[abp])
theorem aEl {D:Int->Int} {l:List Int} {n:Nat} (a:n=l.length):np D (m20 D l) 0 n=mg D l:=by
 rw[av4 (by grind[al1])]
 exact ajc (adA.trans av5) af5
theorem av6 {D:Int->Int} {l:List Int} {b c d:Nat} (h:b<=c) (e:b<=l.length):seg (np D l 0 b) c d=seg l c d:=by
 have a:(mg D (seg l 0 b)).length=b:=by grind[abp,SI]
 unfold np
 have:(l.take 0++mg D (seg l 0 b)++l.drop b).drop c=l.drop c:=by
  rw[List.take_zero,List.nil_append,List.drop_append,List.drop_eq_nil_of_le (by omega),List.nil_append,List.drop_drop,a,show b+(c - b)=c by omega]
 grind[seg]
theorem aEm {l:List Int} {p:cn} {n:Nat} (b:dV p=0) (i:n=l.length) (h:20<l.length) (g:l.length<=1000) (e:∀x∈l,GG p x) (j:l.Pairwise (·<·)):acn ((n,m20 (fK p) l,p),0,20,(l.length:Int)):=by
 obtain⟨f,d⟩:=@aEk (fK p) l l.length rfl (by omega)
 refine⟨⟨⟨b,by grind[al1]⟩,by grind[al1],fun x a=>e x (av5.mem_iff.1 a)⟩,⟨by simp_all,by simp_all,by grind,by grind[al1]⟩,?_,?_,?_⟩
 ·simp_all[af5]
 ·simp_all[af5]
 ·show ∀x∈seg _ 0 20,∀y∈seg _ 20 _,x<y
  rw[show((l.length:Int)).toNat=l.length by omega,f,d]
  intro x a y c;rw[ahx] at a c
  have:=List.take_append_drop 20 l
  grind
def apN:ob:=ahC 157 1 Int to1 of1 (fun _=>rfl) aEe aEf (fun a=>(ae6 a.1/\a.1.2.1.Pairwise (·<·))/\a.2=a.1.2.1.length/\a.1.2.1.length<=40) fun a=>mg (fK a.1.2.2) a.1.2.1
def aEn (n:Nat) (l:List Int) (p:cn):Nat->jW
 |2=> .inv (Int×Int×List Int) (fun x=>⟨[(0,.ow 0 n 1),(1,.si .i64 l.length),(2,.fn (.func 121) [] [.ptr 1 0 20]),(6,.si .i64 20),(7,.si .i64 x.1),(8,.si .i64 x.2.1)],[.row (.i .i64) x.2.2 3 true,.cells p.ss 27 20 false]⟩) (fun s=>(iS s 7,iS s 8,oS (.i .i64) s 0))
   (fun x=>x.2.1=x.1+20/\(x.1=0/\x.2.2=l\/x.1=20/\20<=l.length/\x.2.2=np (fK p) l 0 20\/x.1=40/\l.length=40/\x.2.2=np (fK p) (np (fK p) l 0 20) 20 40)) (fun x=>(1000 - x.1).toNat) fun _ _=> .look
 |7=> .inv (Int×List Int) (fun x=>⟨[(0,.ow 0 n 1),(1,.si .i64 l.length),(2,.fn (.func 121) [] [.ptr 1 0 20]),(6,.si .i64 x.1)],[.row (.i .i64) x.2 3 true,.cells p.ss 27 20 false]⟩) (fun s=>(iS s 6,oS (.i .i64) s 0))
   (fun x=>x.1=20/\(l.length<=20/\x.2=mg (fK p) l\/20<l.length/\x.2=m20 (fK p) l)\/x.1=40/\x.2=mg (fK p) l) (fun x=>(1000 - x.1).toNat) fun x k=>match k with
    |9=> .inv (Int×Int×List Int) (fun y=>⟨[(0,.ow 0 n 1),(1,.si .i64 l.length),(2,.fn (.func 121) [] [.ptr 1 0 20]),(6,.si .i64 x.1),(7,.si .i64 y.1),(8,.si .i64 y.2.1)],[.row (.i .i64) y.2.2 3 true,.cells p.ss 27 20 false]⟩) (fun s=>(iS s 7,iS s 8,oS (.i .i64) s 0))
      (fun y=>y.1=0/\y.2.1=40/\y.2.2=m20 (fK p) l\/y.1=40/\y.2.1=80/\l.length=40/\y.2.2=mg (fK p) l) (fun y=>(1000 - y.1).toNat) fun _ _=> .look
    |_=> .look
 |_=> .look
theorem h333:qH Tryz.prog apN:=by
 refine SD (L:=[]) (W:=[apE,acY 1001]) apN (fun a=>aEn a.1.1 a.1.2.1 a.1.2.2) (by simp_all[h343,apK]) (by simp) ?_
 rintro⟨⟨n,l,p⟩,N⟩ ⟨⟨⟨⟨H,hn⟩,hl,F⟩,hi⟩,hN,a9⟩
 simp only at H hn hl F hi hN a9
 subst hN
 refine gw (let a:=SV.si .i64;let b:=(20:Int);let h:=(40:Int);let j:=(0:Int);let s:=(1000:Int);let w:=cC.row;let F:=iR .i64;let H:=SV.il .i64;let L:=SV.il .i64 0;let M:=(80:Int);let m:=SV.ow 0 n 1;let q:=(↑l.length:Int);let o:=a q;let k:=SV.fn (Fn.func 121) [] [SV.ptr 1 0 20];let I:=a 20;let D:=bD.i .i64;let W:=w D l 3 true;let e:=cC.cells [a p.supply.a0,a p.supply.a1,a p.supply.a2,a p.supply.a3,a p.supply.a4,a p.supply.a5,a p.opn.a0,a p.opn.a1,a p.opn.a2,a p.opn.a3,a p.opn.a4,a p.opn.a5,a p.cls.a0,a p.cls.a1,a p.cls.a2,a p.cls.a3,a p.cls.a4,a p.cls.a5,SV.row D p.classes,SV.row bD.off p.offers] 27 20 false;let N:=np (fK p) l 0 20;let U:=np (fK p) N 20 40;let d:=mg (fK p) l;let f:=m20 (fK p) l;(((m.same m/\o.same o/\k.same k/\(H 20).same I/\(H 0).same (a 0)/\(H 20).same I/\True)/\W.same W/\e.same e/\True)/\b=b/\(j=j/\l=l\/j=b/\20<=l.length/\l=N\/j=h/\l.length=40/\l=U))/\∀(x:Int×Int×List Int),let Q:=decide (x.snd.fst<=q);let v:=x.fst.toNat;let y:=x.snd.fst+b;let a8:=a x.snd.fst;let S:=a y;let C:=np (fK p) x.snd.snd v x.snd.fst.toNat;let a6:=w D C 3 true;let A:=np (fK p) x.snd.snd v q.toNat;let Y:=w D A 3 true;x.snd.fst=x.fst+b/\(x.fst=j/\x.snd.snd=l\/x.fst=b/\20<=l.length/\x.snd.snd=N\/x.fst=h/\l.length=40/\x.snd.snd=U)->(Q=true->(ae6 (n,x.snd.snd,p)/\apC x.snd.snd x.fst x.snd.fst/\List.Pairwise (fun(x1 x2:Int) ↦x1<x2) (seg x.snd.snd v x.snd.fst.toNat))/\F y/\((m.same m/\o.same o/\k.same k/\I.same I/\a8.same a8/\S.same S/\True)/\a6.same a6/\e.same e/\True)/\(y=y/\(x.snd.fst=j/\C=l\/x.snd.fst=b/\20<=l.length/\C=N\/x.snd.fst=h/\l.length=40/\C=U))/\(s - x.snd.fst).toNat<(s - x.fst).toNat)/\(Q=false->(ae6 (n,x.snd.snd,p)/\apC x.snd.snd x.fst q/\List.Pairwise (fun(x1 x2:Int) ↦x1<x2) (seg x.snd.snd v q.toNat))/\(((m.same m/\o.same o/\k.same k/\I.same I/\True)/\Y.same Y/\e.same e/\True)/\(b=b/\(l.length<=20/\A=d\/20<l.length/\A=f)\/b=h/\A=d))/\∀(x:Int×List Int),let g:=(2:Int)*x.fst;let B:=a x.fst;let K:=a g;let E:=w D x.snd 3 true;let t:=x.fst*(2:Int);let J:=a t;x.fst=b/\(l.length<=20/\x.snd=d\/20<l.length/\x.snd=f)\/x.fst=h/\x.snd=d->(decide (x.fst<q)=true->F g/\(((m.same m/\o.same o/\k.same k/\B.same B/\(H 0).same (a 0)/\K.same K/\True)/\E.same E/\e.same e/\True)/\(j=j/\g=h/\x.snd=f\/j=h/\g=M/\l.length=40/\x.snd=d))/\∀(c:Int×Int×List Int),let r:=c.fst+x.fst;let T:=decide (c.snd.fst<=q);let z:=c.snd.fst+g;let P:=a c.snd.fst;let X:=a z;let G:=np (fK p) c.snd.snd c.fst.toNat c.snd.fst.toNat;let O:=w D G 3 true;let a7:=fun(u:List Int) ↦let R:=w D u 3 true;F t/\((m.same m/\o.same o/\k.same k/\J.same J/\True)/\R.same R/\e.same e/\True)/\(t=b/\(l.length<=20/\u=d\/20<l.length/\u=f)\/t=h/\u=d)/\(s - t).toNat<(s - x.fst).toNat;let V:=fun(u:Int) ↦acn ((n,c.snd.snd,p),c.fst,r,u)/\(u - c.fst).toNat<1001;c.fst=j/\c.snd.fst=h/\c.snd.snd=f\/c.fst=h/\c.snd.fst=M/\l.length=40/\c.snd.snd=d->(T=true->F r/\V c.snd.fst/\F g/\F z/\((m.same m/\o.same o/\k.same k/\B.same B/\P.same P/\X.same X/\True)/\O.same O/\e.same e/\True)/\(c.snd.fst=j/\z=h/\G=f\/c.snd.fst=h/\z=M/\l.length=40/\G=d)/\(s - c.snd.fst).toNat<(s - c.fst).toNat)/\(T=false->F r/\(decide (r<q)=true->V q/\a7 (np (fK p) c.snd.snd c.fst.toNat q.toNat))/\(decide (r<q)=false->a7 c.snd.snd)))/\(decide (x.fst<q)=false->(SV.eW []).same (SV.eW [])/\E.same (w D d 3 true)/\e.same e/\True))) (by kernel_rfl) ?_
 simp only[vcs]
 have pw:∀a b,(seg l a b).Pairwise (·<·):=fun a b=>List.Pairwise.sublist ((List.take_sublist _ _).trans (List.drop_sublist _ _)) hi
 have e0:((l.length:Int)).toNat=l.length:=by omega
 rw[e0]
 refine⟨.inl trivial,?_⟩
 rintro⟨a,b,w⟩ ⟨hb,j⟩
 simp only at hb j ⊢
 subst hb
 refine⟨fun h=>?_,fun h=>?_⟩
 ·rcases j with⟨rfl,rfl⟩|⟨rfl,Z,rfl⟩|⟨rfl,Z,rfl⟩
  ·exact⟨⟨⟨⟨H,hn⟩,hl,F⟩,⟨by omega,by omega,by omega⟩,pw _ _⟩,by omega,.inr (.inl ⟨by omega,by omega,rfl⟩),by omega⟩
  ·have j:=@ahy (fK p) l 0 20 (by omega) (by omega)
   exact⟨⟨⟨⟨H,by simp_all⟩,by simp_all,fun x M=>F x (aji M)⟩,⟨by omega,by omega,by rw[j];omega⟩,by grind[av6]⟩,by omega,.inr (.inr ⟨by omega,by omega,rfl⟩),by omega⟩
  ·omega
 ·refine⟨?_,?_,?_⟩
  ·rcases j with⟨rfl,rfl⟩|⟨rfl,Z,rfl⟩|⟨rfl,Z,rfl⟩
   ·exact⟨⟨⟨H,hn⟩,hl,F⟩,⟨by omega,by omega,by omega⟩,pw _ _⟩
   ·have j:=@ahy (fK p) l 0 20 (by omega) (by omega)
    exact⟨⟨⟨H,by simp_all⟩,by simp_all,fun x M=>F x (aji M)⟩,⟨by omega,by omega,by rw[j];omega⟩,by grind[av6]⟩
   ·have j:=@ahy (fK p) l 0 20 (by omega) (by omega)
    have U:=@ahy (fK p) (np (fK p) l 0 20) 20 40 (by omega) (by omega)
    rw[j] at U
    refine⟨⟨⟨H,by simp_all⟩,by simp_all,fun x M=>F x (aji (aji M))⟩,⟨by omega,by omega,by rw[U];omega⟩,?_⟩
    simp_all[ajd]
  ·left
   rcases j with⟨rfl,rfl⟩|⟨rfl,Z,rfl⟩|⟨rfl,Z,rfl⟩<;>grind[av4,aEj,np,avJ]
  ·rintro⟨s,w⟩ j
   simp only at j ⊢
   refine⟨fun h=>?_,fun h=>aei ?_⟩
   ·have hs:s=20/\20<l.length/\w=m20 (fK p) l:=by
     grind
    obtain⟨rfl,b0,rfl⟩:=hs
    refine⟨by omega,.inl ⟨by omega,rfl⟩,?_⟩
    rintro⟨a,b,w⟩ hy
    simp only at hy ⊢
    have hd:=@aEm l p n H hn b0 hl F hi
    rcases hy with⟨rfl,rfl,rfl⟩|⟨rfl,rfl,h4,rfl⟩<;>grind[aEl]
   grind
def apO:ob:=ahC 120 0 Unit to0 of0 (fun _=>rfl) aEg aEh (fun a=>(ae6 a.1/\a.1.2.1.Pairwise (·<·))/\a.1.2.1.length<=40) fun a=>mg (fK a.1.2.2) a.1.2.1
theorem h319:qH Tryz.prog apO:=by
 refine SD (L:=[]) (W:=[apN]) apO lk (by grind[h333]) (by simp) ?_
 rintro⟨⟨n,l,p⟩,u⟩ ⟨⟨⟨⟨g,h⟩,d,c⟩,e⟩,a⟩
 simp only at g h d c e a
 refine gw (let f:=cC.row (bD.i .i64) (mg (fK p) l) 3 true;let b:=cC.cells (cn.ss p) 27 20 false;((ae6 (n,l,p)/\List.Pairwise (fun j k ↦j<k) l)/\(↑n:Int)=(↑l.length:Int)/\l.length<=40)/\(SV.eW []).same (SV.eW [])/\f.same f/\b.same b/\True) (by kernel_rfl) ?_
 simp only[vcs]
 exact⟨⟨⟨⟨g,h⟩,d,c⟩,e⟩,by omega,a⟩
def pA (n:Nat):List Int:=(List.range n).map fun i:Nat=>(i:Int)
theorem FC {n:Nat}:(pA n).length=n:=by simp[pA]
theorem aek {n:Nat}:pA (n+1)=pA n++[(n:Int)]:=by simp[pA,List.range_succ]
theorem af8 {n:Nat}:(pA n).Pairwise (·<·):=by
 unfold pA;rw[List.pairwise_map]
 exact List.pairwise_lt_range.imp fun h=>by omega
theorem QZ {n:Nat} {x:Int}:x∈pA n↔0<=x/\x<n:=by
 unfold pA;rw[List.mem_map]
 constructor
 ·grind
 ·rintro⟨b,a⟩
  exact⟨x.toNat,List.mem_range.2 (by omega),by omega⟩
def aau (n i:Nat):List Int:=pA i++List.replicate (n - i) 0
theorem av7 {n i:Nat} (h:i<=n):(aau n i).length=n:=by grind[aau,FC]
theorem aEo {n:Nat}:aau n 0=List.replicate n 0:=by simp[aau,pA]
theorem aEp {n:Nat}:aau n n=pA n:=by simp[aau]
theorem aEq {n i:Nat} (h:i<n):(aau n i).set i (i:Int)=aau n (i+1):=by
 unfold aau
 rw[List.set_append_right _ _ (by grind[FC]),FC,Nat.sub_self,show n - i=(n - (i+1))+1 by omega,List.replicate_succ,List.set_cons_zero,aek,List.append_assoc]
 rfl
def af9 (p:cn):List Int:=mg (fK p) (pA p.offers.length)
def apP:fN:=⟨80,cn,.one ql,fun p=>p.offers.length<=40,fun p=> .row (.i .i64) (if dV p=0 then af9 p else[])⟩
def aEr (p:cn):Nat->jW
 |5=> .inv Int (fun i=>⟨[(1,.ptr 0 0 20),(3,.ow 1 (aau p.offers.length i.toNat).length 1),(13,.si .i64 p.offers.length),(14,.si .i64 i)],[.cells p.ss 27 20 false,.row (.i .i64) (aau p.offers.length i.toNat) 3 true]⟩)
   (fun s=>iS s 14) (fun i=>0<=i/\i<=p.offers.length) (fun i=>(p.offers.length - i).toNat) fun _ _=> .look
 |_=> .look
theorem h308:Holds Tryz.prog apP:=by
 refine con (L:=[r79]) (W:=A2 [apO]) apP aEr (Xy (by grind[h319])) (by grind[h79]) ?_
 intro(p:cn) (C:p.offers.length<=40)
 refine gw (let h:=SV.si .i64;let k:=(0:Int);let o:=cC.row;let s:=SV.row;let t:=SV.ow;let q:=decide (dV p≠k);let d:=bD.i .i64;let r:=s d (if dV p=k then af9 p else[]);let f:=(↑p.offers.length:Int);let m:=SV.ptr 0 0 20;let g:=p.offers.length;let e:=(↑g:Int);let n:=h e;let l:=cC.cells [h p.supply.a0,h p.supply.a1,h p.supply.a2,h p.supply.a3,h p.supply.a4,h p.supply.a5,h p.opn.a0,h p.opn.a1,h p.opn.a2,h p.opn.a3,h p.opn.a4,h p.opn.a5,h p.cls.a0,h p.cls.a1,h p.cls.a2,h p.cls.a3,h p.cls.a4,h p.cls.a5,s d p.classes,s bD.off p.offers] 27 20 false;True/\(q=true->(s d []).same r)/\(q=false->k<=f/\f<=f/\f*(8:Int)<=(140737488355328:Int)/\f<=(1000000000000:Int)/\(((m.same m/\(t 1 f.toNat 1).same (t 1 (aau g 0).length 1)/\(h (↑f.toNat:Int)).same n/\(SV.il .i64 0).same (h 0)/\True)/\l.same l/\(o d (List.replicate f.toNat k) 3 true).same (o d (aau g 0) 3 true)/\True)/\k<=k/\k<=e)/\∀(x:Int),let c:=aau g x.toNat;let b:=c.length;let a:=x+(1:Int);let j:=h a;k<=x/\x<=e->(decide (x<e)=true->b=c.length/\k<=x/\x<(↑c.length:Int)/\b=c.length/\x.toNat<c.length/\iR .i64 a/\((m.same m/\(t 1 b 1).same (t 1 (aau g a.toNat).length 1)/\n.same n/\j.same j/\True)/\l.same l/\(o d (c.set x.toNat x) 3 true).same (o d (aau g a.toNat) 3 true)/\True)/\(k<=a/\a<=e)/\(e - a).toNat<(e - x).toNat)/\(decide (x<e)=false->((ae6 (b,c,p)/\List.Pairwise (fun B v ↦B<v) c)/\b<=40)/\b=(mg (fK p) c).length/\(s d (mg (fK p) c)).same r))) (by kernel_rfl) ?_
 simp only[vcs]
 refine⟨fun h=>by rw[if_neg h],fun h=>?_⟩
 have s:dV p=0:=Classical.not_not.1 h
 rw[if_pos s]
 have A:((p.offers.length:Int)).toNat=p.offers.length:=by omega
 have k:∀{x y:Nat},x=y->(SV.ow 1 x 1).same (SV.ow 1 y 1):=by rintro _ _ rfl;rfl
 rw[A,aEo]
 refine⟨by omega,by omega,by omega,by omega,⟨⟨⟨k (by simp),rfl⟩,rfl⟩,by omega,by omega⟩,?_⟩
 rintro i ⟨u,D⟩
 have E:=@av7 p.offers.length i.toNat (by omega)
 refine⟨fun z=>?_,fun z=>?_⟩
 ·have o:=@aEq p.offers.length i.toNat (by omega)
  rw[show((i.toNat:Nat):Int)=i by omega] at o
  have t:=@av7 p.offers.length (i.toNat+1) (by omega)
  rw[show(i+1).toNat=i.toNat+1 by omega,o]
  exact⟨u,by omega,by omega,by omega,⟨k (by omega),rfl⟩,by omega,by omega⟩
 ·rw[show i.toNat=p.offers.length by omega,aEp]
  refine⟨⟨⟨⟨⟨s,rfl⟩,by grind[FC],fun x w=>by have:=QZ.1 w;exact this⟩,af8⟩,by grind[FC]⟩,by rw[abp],rfl⟩
end Go.Vi
namespace Go.Proofs
open Go.Shelf
def Tryz.layS_ren:Ren:=
 ⟨fun
  |189=>124
  |125=>160
  |257=>159
  |128=>189
  |129=>190
  |294=>181
  |295=>182
  |296=>183
  |297=>184
  |298=>185
  |299=>186
  |216=>136
  |300=>187
  |301=>188
  |328=>192
  |329=>193
  |330=>194
  |331=>195
  |332=>196
  |215=>164
  |343=>198
  |n=>n,
 fun
  |28=>24
  |3=>3
  |46=>162
  |0=>0
  |51=>161
  |53=>107
  |4=>4
  |183=>231
  |182=>230
  |131=>142
  |5=>5
  |9=>9
  |218=>238
  |222=>242
  |228=>244
  |229=>122
  |n=>n,
 fun n=>n⟩
def Tryz.layC_ren:Ren:=
 ⟨fun
  |41=>77
  |n=>n,
 fun
  |22=>24
  |23=>3
  |4=>4
  |n=>n,
 fun n=>n⟩
def Tryz.layD_ren:Ren:=
 ⟨fun
  |45=>155
  |n=>n,
 fun
  |22=>24
  |23=>3
  |3=>3
  |4=>4
  |0=>0
  |n=>n,
 fun n=>n⟩
theorem Tryz.layS:Lays.n189 Tryz.prog Tryz.layS_ren:={mixed:=by kernel_rfl,f125:=Tryz.func160.trans (by kernel_rfl),f128:=Tryz.func189.trans (by kernel_rfl),f129:=Tryz.func190.trans (by kernel_rfl),f189:=Tryz.func124.trans (by kernel_rfl),f215:=Tryz.func164.trans (by kernel_rfl),f216:=Tryz.func136.trans (by kernel_rfl),f257:=Tryz.func159.trans (by kernel_rfl),f294:=Tryz.func181.trans (by kernel_rfl),f295:=Tryz.func182.trans (by kernel_rfl),f296:=Tryz.func183.trans (by kernel_rfl),f297:=Tryz.func184.trans (by kernel_rfl),f298:=Tryz.func185.trans (by kernel_rfl),f299:=Tryz.func186.trans (by kernel_rfl),f300:=Tryz.func187.trans (by kernel_rfl),f301:=Tryz.func188.trans (by kernel_rfl),f328:=Tryz.func192.trans (by kernel_rfl),f329:=Tryz.func193.trans (by kernel_rfl),f330:=Tryz.func194.trans (by kernel_rfl),f331:=Tryz.func195.trans (by kernel_rfl),f332:=Tryz.func196.trans (by kernel_rfl),f343:=Tryz.func198.trans (by kernel_rfl),t0:=Tryz.underlying0,a0:=Tryz.isAgg0,z0:=Tryz.sizeOf0,v0:=Tryz.zeroValue0,t3:=Tryz.underlying3,a3:=Tryz.isAgg3,z3:=Tryz.sizeOf3,v3:=Tryz.zeroValue3,t4:=Tryz.underlying4,a4:=Tryz.isAgg4,z4:=Tryz.sizeOf4,v4:=Tryz.zeroValue4,t5:=Tryz.underlying5,a5:=Tryz.isAgg5,z5:=Tryz.sizeOf5,v5:=Tryz.zeroValue5,t9:=Tryz.underlying9,a9:=Tryz.isAgg9,z9:=Tryz.sizeOf9,v9:=Tryz.zeroValue9,t28:=Tryz.underlying24,a28:=Tryz.isAgg24,z28:=Tryz.sizeOf24,v28:=Tryz.zeroValue24,t46:=Tryz.underlying162,a46:=Tryz.isAgg162,z46:=Tryz.sizeOf162,v46:=Tryz.zeroValue162,t51:=Tryz.underlying161,a51:=Tryz.isAgg161,z51:=Tryz.sizeOf161,v51:=Tryz.zeroValue161,t53:=Tryz.underlying107,a53:=Tryz.isAgg107,z53:=Tryz.sizeOf107,v53:=Tryz.zeroValue107,t131:=Tryz.underlying142,a131:=Tryz.isAgg142,z131:=Tryz.sizeOf142,v131:=Tryz.zeroValue142,t182:=Tryz.underlying230,a182:=Tryz.isAgg230,z182:=Tryz.sizeOf230,v182:=Tryz.zeroValue230,t183:=Tryz.underlying231,a183:=Tryz.isAgg231,z183:=Tryz.sizeOf231,v183:=Tryz.zeroValue231,t218:=Tryz.underlying238,a218:=Tryz.isAgg238,z218:=Tryz.sizeOf238,v218:=Tryz.zeroValue238,t222:=Tryz.underlying242,a222:=Tryz.isAgg242,z222:=Tryz.sizeOf242,v222:=Tryz.zeroValue242,t228:=Tryz.underlying244,a228:=Tryz.isAgg244,z228:=Tryz.sizeOf244,v228:=Tryz.zeroValue244,t229:=Tryz.underlying122,a229:=Tryz.isAgg122,z229:=Tryz.sizeOf122,v229:=Tryz.zeroValue122}
theorem Tryz.layC:SlLaysE0.n41 Tryz.prog Tryz.layC_ren:={mixed:=by kernel_rfl,f41:=⟨Tryz.f77.name,by decide,Tryz.func77.trans (by kernel_rfl)⟩,t4:=Tryz.underlying4,a4:=Tryz.isAgg4,z4:=Tryz.sizeOf4,v4:=Tryz.zeroValue4,t22:=Tryz.underlying24,a22:=Tryz.isAgg24,z22:=Tryz.sizeOf24,v22:=Tryz.zeroValue24}
theorem Tryz.layD:SlLaysE.n45 Tryz.prog Tryz.layD_ren:={mixed:=by kernel_rfl,f45:=⟨Tryz.f155.name,by decide,Tryz.func155.trans (by kernel_rfl)⟩,t0:=Tryz.underlying0,a0:=Tryz.isAgg0,z0:=Tryz.sizeOf0,v0:=Tryz.zeroValue0,t3:=Tryz.underlying3,a3:=Tryz.isAgg3,z3:=Tryz.sizeOf3,v3:=Tryz.zeroValue3,t4:=Tryz.underlying4,a4:=Tryz.isAgg4,z4:=Tryz.sizeOf4,v4:=Tryz.zeroValue4,t22:=Tryz.underlying24,a22:=Tryz.isAgg24,z22:=Tryz.sizeOf24,v22:=Tryz.zeroValue24,a23:=Tryz.isAgg3,z23:=Tryz.sizeOf3}
end Go.Proofs
namespace Go.Proofs
open Go.Shelf Go.RowKit Go.Lib
theorem aEs {P:Program} {ρ:Ren} (L:SlLaysE0.n41 P ρ) (i0:TypeInfo) (z:Value) (b g:Nat) (I:P.info? (ρ.t 23)=some i0) (x:i0.zero=some z) (y:i0.size=b) (q:i0.bytes=g) (m:z.cells.size=b) (o:0<b)
  (Q:∀w,(Go.sizeOf (ρ.t 23)).run P w= .ok b w) (p:Addr) (n c:Nat) (d:List Value) (w:World) (K:d.length=n*b) (U:n<=maxLen) (B:n*g<=140737488355328)
  (C:∀j u,d[j]?=some u->w.cell? (p.add j)=some u) (E:∀u∈d,u.oneCell'=true):
  Calls P (ρ.f 41) #[.slice (some p) n c] w fun e w'=>∃l,e= .returned l/\w'.ownsRow w.heap.size (ρ.t 23) b l n d/\l≠ .slice none 0 0/\Below w.heap.size w w':=by
 have v:=L.mixed;have W:=L.t4;have V:=L.a4;have T:=L.z4;have S:=L.v4;have i:=L.t22;have N:=L.a22;have O:=L.z22;have H:=L.v22
 have G:∀(w:World) (a:Option Addr) (n c r s:Nat),(binOp .eql (ρ.t 22) (.slice a n c) (.slice none r s)).run P w= .ok (.bool a.isNone) w:=fun w a n c r s=>Lib.run_eql_slice_nil w _ _ a n c r s L.t22
 have F:∀w,Sem.run P (underlying (ρ.t 22)) w= .ok (TypeDesc.slice (ρ.t 23)) w:=run_underlying i
 have A:Aside (∀j u,d[j]?=some u->w.cell? (p.add j)=some u):=C
 clear C
 obtain⟨_,_,M⟩:=L.f41
 go_enter M,SlBodyN.n41_ntmps ρ
 go_wp2_with (at_builtin;refine wpList_append_own _ rfl _ _ (ρ.t 22) rfl w.heap.size (ρ.t 23) i0 z b g i I x y q m o _ _ _ rfl (World.ownsRow_made w #[] 0 (Nat.le_refl _) (Nat.zero_le _) (by simp)) p n c d rfl ?qc1 ?qc2 ?qc3 ?qc4 ?qc5 ?qc6 ?_)
 case qc1=>exact K
 case qc2=>
  intro j u J
  exact Lib.cell?_alloc_some _ (A.out j u J)
 case qc3=>exact E
 case qc4=>omega
 case qc5=>simp_all
 case qc6=>simp
 intro l R D h k
 go_wp2
 go_ret
 refine⟨l,rfl,by omega,?_,?_⟩
 ·exact k
 ·exact((Below.refl _ w).alloc (Nat.le_refl _) _).grown h (by simp) (by grind[Value.ownBlock])
end Go.Proofs
namespace Go.Vi
open Go.Proofs.YtgejbpobaicgfaaGreat.Ir
open Go.Proofs
theorem abq (l:List Int):jY (.i .i64) l=l.map fun x=>AV.sc (.int .i64 x):=by
 unfold jY
 induction l with
 |nil=>rfl
 |cons x l a=>rw[List.flatMap_cons,a];rfl
theorem av8 {A:qa} {w:World} {σ:gB} {l:List Int} {e:TypeId} (d:gp A w σ [.cells (l.map fun x=>AV.sc (.int .i64 x)) e 1 true]) (s:1<=l.length):
  ∃b cap arr,σ=[some (b,cap)]/\cap<=maxLen/\w.heap[b]?=some (.cells arr e (0,0))/\arr.size=cap/\l.length<=cap/\arr.toList.take l.length=l.map (Value.int .i64):=by
 have f:=d.obj 0 _ rfl
 simp only[pd] at f
 obtain⟨_,_,h|⟨b,cap,arr,a,n,g,r,p,i⟩⟩:=f
 ·simp_all
 ·have c:=d.len
  simp at c
  have m:l.length<=arr.size:=by simp_all
  refine⟨b,cap,arr,?_,n,g,by omega,by omega,?_⟩
  ·match σ,c,a with
   |[x],_,a=>simp_all
  ·apply List.ext_getElem?
   intro j
   by_cases k:j<l.length
   ·obtain⟨v,o,q⟩:=i j (.sc (.int .i64 l[j])) (by simp[k])
    grind[cQ]
   simp_all
def uv (l:List Int):List Int:=l.mergeSort fun x y=>decide (x<=y)
theorem aga {l:List Int}:(uv l).length=l.length:=(List.mergeSort_perm _ _).length_eq
def ajm:ob where
 f:=124
 α:=Nat×List Int
 put a:=[.ow 0 a.1 1]
 st a:=[.row (.i .i64) a.2 3 true]
 dec v o:=match v,o with
  |[.ow 0 n 1],[.row t l 3 true]=>match Hj t (.i .i64) l with
   |some l=>some (n,l)
   |_=>none
  |_,_=>none
 ok v o a h:=by
  grind[aaJ]
 inj a b e1 e2:=by
  obtain⟨n,l⟩:=a
  obtain⟨n',l'⟩:=b
  simp only[gL,List.cons.injEq,SV.g,AV.os.injEq,true_and] at e1;simp only[gO,List.map_cons,List.map_nil,cC.g,List.cons.injEq,fZ.cells.injEq,and_true,true_and] at e2
  have h4:l=l':=by
   have hf:=congrArg List.length e2
   rw[xl,xl] at hf
   exact Yg (.i .i64) (by grind[bD.sz]) e2
  rw[e1.1.1,h4]
 dom a:=a.1=a.2.length/\1<=a.2.length/\a.2.length<=1000000
 res _:=.eW []
 out a:=[.row (.i .i64) (uv a.2) 3 true]
theorem h337:qH Tryz.prog ajm:=by
 rintro⟨n,l⟩ ⟨E,H,V⟩
 simp only at E H V
 subst E
 refine⟨by kernel_rfl,?_⟩
 intro A w F Q q s
 have C:∀m:List Int,gO [cC.row (.i .i64) m 3 true]=[fZ.cells (m.map fun x=>AV.sc (.int .i64 x)) 3 1 true]:=fun m=>by
  simp only[gO,List.map_cons,List.map_nil,cC.g,abq];rfl
 have T:gL (ajm.put (l.length,l))=[.os 0 0 l.length (l.length*1)]:=rfl
 show Calls _ _ _ _ fun e h=>∃u p,e= .returned u/\gp A h p (gO [cC.row (.i .i64) (uv l) 3 true])/\cQ A h p (gO [cC.row (.i .i64) (uv l) 3 true]) (.eW []) u/\Ext w F (gO [cC.row (.i .i64) l 3 true]) h p (gO [cC.row (.i .i64) (uv l) 3 true])
 replace q:gp A w F (gO [cC.row (.i .i64) l 3 true]):=q
 replace s:ey A w F (gO [cC.row (.i .i64) l 3 true]) (gL (ajm.put (l.length,l))) Q:=s
 rw[C] at q s;rw[C,C];rw[T] at s
 obtain⟨b,Y,d,rfl,U,L,q4,q5,N⟩:=av8 q H
 simp only[ey] at s
 obtain⟨v,r,rfl,I,rfl⟩:=s
 simp only[cQ] at I
 obtain⟨O,a,y,rfl,a0,B⟩:=I
 have K:=B 1 ⟨_,_,_,rfl,by simp⟩
 simp only[Ss,List.getElem?_cons_zero] at K
 obtain⟨rfl,rfl⟩:=K.2.1 trivial trivial (by omega)
 have P:b<w.heap.size:=q.bnd 0 b y rfl
 have R:=holds_of_blockI (ss:=l) L N
 have S:Calls Tryz.prog (ajm).f #[.slice (some ⟨b,0,none⟩) l.length y] w fun e h=>e= .returned (.tuple #[])/\∃n z,h=Sort.grow (Sort.putRow (Value.int .i64) (Sort.ahead w n) b 0 (uv l).toArray) z:=
  calls_of_every_depth fun D=>AnyS.slices_Sort_int_in Tryz.layS D b 0 y l w R P (by omega)
 refine Calls.mono S ?_
 rintro e h ⟨rfl,n,z,rfl⟩
 have t:=grownBy_sortedI (w:=w) (g:=b) (n:=n) (os:=z) (uv l).toArray
 have W:=heap_sortedI (w:=w) (n:=n) (os:=z) (uv l).toArray L
 have X:=take_putCellsI d (uv l) (by rw[aga];omega)
 have hz:(Sort.putCells (Value.int .i64) 0 (uv l).toArray d).size=d.size:=by simp[Sort.putCells]
 generalize Sort.grow (Sort.putRow (Value.int .i64) (Sort.ahead w n) b 0 (uv l).toArray) z=h at*
 generalize Sort.putCells (Value.int .i64) 0 (uv l).toArray d=o at*
 have hU:=q.upd (w':=h) (id:=0) (x':=.cells ((uv l).map fun x=>AV.sc (.int .i64 x)) 3 1 true) (s':=some (b,y)) rfl t.size t.os t.tape t.output
  (fun k M E=>t.block k M fun e=>by simp_all) (fun b' c' e=>by simp_all)
  ⟨_,_,_,rfl,by simp[aga],fun _=>rfl⟩ ?_
 ·grind[cQ,ey]
 ·intro hx
  simp only[pd]
  refine⟨fun _=>by rw[<-abq];grind[acQ],by rw[<-abq];grind[akQ],.inr ⟨b,y,o,rfl,U,W,by omega,by grind[aga],?_⟩⟩
  intro j c J;rw[List.getElem?_map] at J
  obtain⟨x,G,rfl⟩:=Option.map_eq_some_iff.1 J
  have Z:=(List.getElem?_eq_some_iff.1 G).1
  refine⟨.int .i64 x,?_,by simp[cQ,Value.oneCell']⟩
  have h9:(o.toList.take (uv l).length)[j]?=((uv l).map (Value.int .i64))[j]?:=by rw[X]
  grind
theorem av9 {A:qa} {w:World} {l:List Int} {vs:List Value} {m:FuncId} (n:m=Tryz.layC_ren.f 41) (N:gp A w [] []) (K:l.length<=1000000) (B:ey A w [] [] [.sl l.length (l.map fun x=>AV.sc (.int .i64 x))] vs):
  Calls Tryz.prog m vs.toArray w fun e w'=>RowKit.Below w.heap.size w w'/\((e= .returned (.slice none 0 0)/\l=[])\/∃g cap c,e= .returned (.slice (some ⟨g,0,none⟩) l.length cap)/\w.heap.size<=g/\w'.heap[g]?=some (.cells c 3 (0,0))/\l.length<=cap/\cap<=maxLen/\c.size=cap/\c.toList.take l.length=l.map (Value.int .i64)):=by
 subst n;simp only[ey] at B
 obtain⟨v,r,rfl,t,rfl⟩:=B
 simp only[cQ] at t
 obtain⟨a,cap,rfl,q,_,C⟩:=t
 cases a with
 |none=>
  have z:l=[]:=by
   cases l<;>grind[oQ]
  grind[Calls.mono,AnyE.slices_Clone_nil,Tryz.layC,RowKit.Below.refl]
 |some p=>
  have H:∀j u,(l.map (Value.int .i64))[j]?=some u->w.cell? (p.add j)=some u:=by
   intro j u s;rw[List.getElem?_map] at s
   obtain⟨x,F,rfl⟩:=Option.map_eq_some_iff.1 s
   obtain⟨b,v,e,_,o,y⟩:=oQ.get _ _ _ C j (.sc (.int .i64 x)) (by simp[F])
   grind[cQ]
  refine Calls.mono (aEs Tryz.layC Tryz.t3 (.int .i64 0) 1 8 (by kernel_rfl) (by kernel_rfl) (by kernel_rfl) (by kernel_rfl) (by kernel_rfl) (by omega) Tryz.sizeOf3 p l.length cap (l.map (Value.int .i64)) w (by simp) (by grind[maxLen]) (by omega) H (by simp[Value.oneCell'])) ?_
  rintro e w' ⟨L,rfl,k,E,i⟩
  refine⟨i,.inr ?_⟩
  obtain⟨_,h|⟨g,d,c,rfl,J,I,D,G,M,O⟩⟩:=k
  ·simp_all
  ·exact⟨g,d,c,rfl,J,I,D,G,by omega,by simp_all⟩
def ajn:fN:=⟨77,List Int,.one (qX (.i .i64)),fun l=>l.length<=1000000,fun l=> .row (.i .i64) l⟩
theorem h330:Holds Tryz.prog ajn:=by
 intro(l:List Int) (z:l.length<=1000000)
 refine⟨by kernel_rfl,?_⟩
 intro A w s I j o
 have k:s=[]:=by have:=j.len;simp_all
 subst k
 have t:gL (ajn.A.put l)=[.sl l.length (l.map fun x=>AV.sc (.int .i64 x))]:=by rw[<-abq];rfl
 have y:(ajn.res l).g= .sl l.length (l.map fun x=>AV.sc (.int .i64 x)):=by rw[<-abq];rfl
 rw[t] at o;rw[y]
 refine Calls.mono (av9 (by rfl) j z o) ?_
 rintro e q ⟨d,h⟩
 have f:gp A q [] []:=⟨rfl,by simp,by simp,by simp,by simp,fun b h=>Nat.lt_of_lt_of_le (j.QL b h) d.size⟩
 have p:Ext w [] [] q [] []:=⟨d.size,fun b h _=>⟨d.block b h,fun⟨i,c,a⟩=>by simp at a⟩,Nat.le_refl _,fun _ _ ⟨_,_,_,_,h,_⟩=>by simp at h,fun _ ⟨_,_,_,h⟩=>by simp at h,d.os,d.tape,d.output⟩
 rcases h with⟨rfl,rfl⟩|⟨g,v,m,rfl,H,F,B,E,G,u⟩
 ·exact⟨_,[],rfl,f,by simp only[cQ];exact⟨none,0,rfl,by simp,by rw[<-abq];grind[acQ],by simp[oQ]⟩,p⟩
 ·refine⟨_,[],rfl,f,?_,p⟩
  simp only[cQ]
  refine⟨_,_,rfl,B,by rw[<-abq];grind[acQ],oQ.XR _ _ _ fun i c a=>?_⟩
  rw[List.getElem?_map] at a
  obtain⟨x,r,rfl⟩:=Option.map_eq_some_iff.1 a
  have n:=(List.getElem?_eq_some_iff.1 r).1
  have C:(m.toList.take l.length)[i]?=(l.map (Value.int .i64))[i]?:=by rw[u]
  rw[List.getElem?_take_of_lt n,Array.getElem?_toList,List.getElem?_map,r] at C
  refine⟨⟨g,0,none⟩,.int .i64 x,rfl,⟨fun⟨i,c,a⟩=>by simp at a,fun D=>by have:=j.QL g D;omega⟩,?_,by simp[cQ,Value.oneCell']⟩
  simp_all[Addr.add_lit,World.cell?]
def agb:ob where
 f:=77
 α:=List Int
 put a:=[.row (.i .i64) a]
 st a:=[]
 dec v o:=match v,o with
  |[.row t l],[]=>Hj t (.i .i64) l
  |_,_=>none
 ok v o a h:=by
  grind[aaJ]
 inj a b e1 e2:=by
  simp only[gL,List.cons.injEq,SV.g,AV.sl.injEq,and_true] at e1
  exact Yg (.i .i64) (by omega) e1.2
 dom a:=a.length<=1000000
 res a:=.ow 0 a.length 1
 out a:=[.row (.i .i64) a 3 true]
theorem h330o:qH Tryz.prog agb:=by
 intro(l:List Int) (E:l.length<=1000000)
 refine⟨by kernel_rfl,?_⟩
 intro A w s G k p
 replace k:gp A w s []:=k
 replace p:ey A w s [] (gL (agb.put l)) G:=p
 have q:s=[]:=by have:=k.len;simp_all
 subst q
 have F:gL (agb.put l)=[.sl l.length (l.map fun x=>AV.sc (.int .i64 x))]:=by rw[<-abq];rfl
 have B:(agb.res l).g= .os 0 0 l.length (l.length*1):=rfl
 have D:gO (agb.out l)=[fZ.cells (l.map fun x=>AV.sc (.int .i64 x)) 3 1 true]:=by rw[<-abq];rfl
 rw[F] at p;rw[B,D]
 show Calls _ _ _ _ fun e n=>∃u f,e= .returned u/\gp A n f [fZ.cells (l.map fun x=>AV.sc (.int .i64 x)) 3 1 true]/\cQ A n f [fZ.cells (l.map fun x=>AV.sc (.int .i64 x)) 3 1 true] (.os 0 0 l.length (l.length*1)) u/\Ext w [] [] n f [fZ.cells (l.map fun x=>AV.sc (.int .i64 x)) 3 1 true]
 refine Calls.mono (av9 (by rfl) k E p) ?_
 rintro e n ⟨d,h⟩
 have t:aey [fZ.cells (l.map fun x=>AV.sc (.int .i64 x)) 3 1 true] 0 (l.length*1):=⟨_,_,_,_,rfl,by simp⟩
 rcases h with⟨rfl,rfl⟩|⟨g,m,o,rfl,P,z,C,J,O,I⟩
 ·refine⟨_,[none],rfl,⟨rfl,?_,?_,?_,?_,fun b h=>Nat.lt_of_lt_of_le (k.QL b h) d.size⟩,?_,d.size,fun b h _=>⟨d.block b h,?_⟩,Nat.zero_le _,fun _ _ ⟨_,_,_,_,h,_⟩=>by simp at h,fun _ ⟨_,_,_,h⟩=>by simp at h,d.os,d.tape,d.output⟩
  ·grind
  ·grind
  ·intro i x a
   cases i with
   |zero=>
    simp at a;subst a
    simp only[pd]
    exact⟨fun _=>rfl,rfl,.inl (by simp)⟩
   |succ i=>simp at a
  ·grind
  ·grind[cQ,Ss]
  ·rintro⟨i,c,a⟩;grind
 ·have L:g<n.heap.size:=(Array.getElem?_eq_some_iff.1 z).1
  refine⟨_,[some (g,m)],rfl,⟨rfl,?_,?_,?_,?_,fun b h=>Nat.lt_of_lt_of_le (k.QL b h) d.size⟩,?_,d.size,fun b h _=>⟨d.block b h,?_⟩,Nat.zero_le _,fun _ _ ⟨_,_,_,_,h,_⟩=>by simp at h,fun _ ⟨_,_,_,h⟩=>by simp at h,d.os,d.tape,d.output⟩
  ·grind
  ·grind
  ·intro i x a
   cases i with
   |zero=>
    simp at a;subst a
    simp only[pd]
    refine⟨fun _=>by rw[<-abq];grind[acQ],by rw[<-abq];grind[akQ],.inr ⟨g,m,o,rfl,J,z,by omega,by simp;omega,?_⟩⟩
    intro j c v;rw[List.getElem?_map] at v
    obtain⟨x,r,rfl⟩:=Option.map_eq_some_iff.1 v
    have H:=(List.getElem?_eq_some_iff.1 r).1
    refine⟨.int .i64 x,?_,by simp[cQ,Value.oneCell']⟩
    have N:(o.toList.take l.length)[j]?=(l.map (Value.int .i64))[j]?:=by rw[I]
    grind
   |succ i=>simp at a
  ·intro i b c a
   cases i with
   |zero=>
    simp at a;intro K
    have:=k.QL b K
    omega
   |succ i=>simp at a
  ·simp only[cQ]
   refine⟨t,_,_,rfl,C,fun M y=>?_⟩
   obtain⟨_,_,_,y,_⟩:=y
   grind[Ss,ab4]
  ·rintro⟨i,c,a⟩
   grind
def XB (l:List Int) (i j:Nat):List Int:=l.take i++l.drop j++List.replicate (j - i) 0
theorem awc {l:List Int} {i j:Nat} (a:i<=j) (b:j<=l.length):(XB l i j).length=l.length:=by
 grind[XB]
def agc:ob where
 f:=155
 α:=(Nat×List Int)×Int×Int
 put a:=[.ow 0 a.1.1 1,.si .i64 a.2.1,.si .i64 a.2.2]
 st a:=[.row (.i .i64) a.1.2 3 true]
 dec v o:=match v,o with
  |[.ow 0 n 1,x,y],[.row t l 3 true]=>match Hj t (.i .i64) l,x.int .i64,y.int .i64 with
   |some l,some i,some j=>some ((n,l),i,j)
   |_,_,_=>none
  |_,_=>none
 ok v o a h:=by
  split at h
  ·split at h
   ·rename_i d m r
    simp only[Option.some.injEq] at h;subst h
    obtain⟨rfl,k⟩:=aaJ d
    cases k
    refine⟨?_,rfl⟩
    simp only[gL,EG m,EG r];rfl
   ·cases h
  ·cases h
 inj a b e c:=by
  obtain⟨⟨n,l⟩,i,j⟩:=a
  obtain⟨⟨u,p⟩,w,s⟩:=b
  simp only[gL,List.cons.injEq,SV.g,AV.os.injEq,true_and,and_true,AV.sc.injEq,Value.int.injEq] at e;simp only[gO,List.map_cons,List.map_nil,cC.g,List.cons.injEq,fZ.cells.injEq,and_true,true_and] at c
  have d:l=p:=by
   have q:=congrArg List.length c
   rw[xl,xl] at q
   exact Yg (.i .i64) (by grind[bD.sz]) c
  simp_all
 dom a:=(a.1.1=a.1.2.length/\1<=a.1.2.length/\a.1.2.length<=1000000)/\0<=a.2.1/\a.2.1<=a.2.2/\a.2.2<=a.1.2.length
 res a:=.os 0 0 (a.1.2.length - (a.2.2 - a.2.1).toNat) a.1.1 1
 out a:=[.row (.i .i64) (XB a.1.2 a.2.1.toNat a.2.2.toNat) 3 true]
theorem h347:qH Tryz.prog agc:=by
 rintro⟨⟨n,l⟩,i,j⟩ ⟨⟨H,K,h2⟩,i0,ij,Y⟩
 simp only at H K h2 i0 ij Y
 subst H
 obtain⟨i,rfl⟩:∃k:Nat,i=k:=⟨i.toNat,by omega⟩
 obtain⟨j,rfl⟩:∃k:Nat,j=k:=⟨j.toNat,by omega⟩
 refine⟨by kernel_rfl,?_⟩
 intro A w F X t z
 have I:∀m:List Int,gO [cC.row (.i .i64) m 3 true]=[fZ.cells (m.map fun x=>AV.sc (.int .i64 x)) 3 1 true]:=fun m=>by
  simp only[gO,List.map_cons,List.map_nil,cC.g,abq];rfl
 have V:gL (agc.put ((l.length,l),(i:Int),(j:Int)))=[.os 0 0 l.length (l.length*1),.sc (.int .i64 i),.sc (.int .i64 j)]:=rfl
 have Z:(agc.res ((l.length,l),(i:Int),(j:Int))).g= .os 0 0 (l.length - (j - i)) (l.length*1):=by
  show AV.os 0 (0*1) (l.length - ((j:Int) - (i:Int)).toNat) (l.length*1)=_
  simp_all
 show Calls _ _ _ _ fun e h=>∃u p,e= .returned u/\gp A h p (gO [cC.row (.i .i64) (XB l i j) 3 true])/\cQ A h p (gO [cC.row (.i .i64) (XB l i j) 3 true]) (agc.res ((l.length,l),(i:Int),(j:Int))).g u/\Ext w F (gO [cC.row (.i .i64) l 3 true]) h p (gO [cC.row (.i .i64) (XB l i j) 3 true])
 replace t:gp A w F (gO [cC.row (.i .i64) l 3 true]):=t
 replace z:ey A w F (gO [cC.row (.i .i64) l 3 true]) (gL (agc.put ((l.length,l),(i:Int),(j:Int)))) X:=z
 rw[I] at t z;rw[I,I,Z];rw[V] at z
 obtain⟨b,a2,d,rfl,S,Q,q4,q5,q6⟩:=av8 t K
 simp only[ey] at z
 obtain⟨v,r,rfl,M,v2,r2,rfl,C,v3,r3,rfl,D,rfl⟩:=z
 simp only[cQ] at M C D
 obtain⟨a0,a,s,rfl,a3,J⟩:=M
 obtain⟨rfl,_⟩:=C
 obtain⟨rfl,_⟩:=D
 have O:=J 1 ⟨_,_,_,rfl,by simp⟩
 simp only[Ss,List.getElem?_cons_zero] at O
 obtain⟨rfl,rfl⟩:=O.2.1 trivial trivial (by omega)
 have hb:b<w.heap.size:=t.bnd 0 b s rfl
 have W:=holds_of_blockI (ss:=l) Q q6
 have T:maxLen=9223372036854775807:=rfl
 have B:=@awc l i j (by omega) (by omega)
 have E:Calls Tryz.prog (agc).f #[.slice (some ⟨b,0,none⟩) l.length s,.int .i64 i,.int .i64 j] w fun e h=>e= .returned (.slice (some ⟨b,0,none⟩) (l.length - (j - i)) s)/\∃q,h=Sort.putRow (Value.int .i64) (Sort.ahead w q) b 0 (XB l i j).toArray:=by
  exact AnyE.slices_Delete Tryz.layD (Value.int .i64) (fun _=>rfl) 0 Tryz.zeroValue3 Tryz.t3 (by kernel_rfl) (by kernel_rfl) b 0 s i j l.toArray w W (by omega) (by omega) (by omega) (by simp;omega)
 refine Calls.mono E ?_
 rintro e h ⟨rfl,q,rfl⟩
 have y:=grownBy_sortedI (w:=w) (g:=b) (n:=q) (os:=#[]) (XB l i j).toArray
 have L:=heap_sortedI (w:=w) (n:=q) (os:=#[]) (XB l i j).toArray Q
 rw[Sort.grow_empty] at y L
 have R:=take_putCellsI d (XB l i j) (by omega)
 have hz:(Sort.putCells (Value.int .i64) 0 (XB l i j).toArray d).size=d.size:=by simp[Sort.putCells]
 generalize Sort.putRow (Value.int .i64) (Sort.ahead w q) b 0 (XB l i j).toArray=h at*
 generalize Sort.putCells (Value.int .i64) 0 (XB l i j).toArray d=o at*
 have N:=t.upd (w':=h) (id:=0) (x':=.cells ((XB l i j).map fun x=>AV.sc (.int .i64 x)) 3 1 true) (s':=some (b,s)) rfl y.size y.os y.tape y.output
  (fun k U H=>y.block k U fun e=>by simp_all) (fun b' c' e=>by simp_all)
  ⟨_,_,_,rfl,by simp[B],fun _=>rfl⟩ ?_
 ·refine⟨_,[some (b,s)],rfl,N.1,?_,N.2⟩
  simp only[cQ]
  refine⟨⟨_,_,_,_,rfl,by simp[B]⟩,_,_,rfl,by omega,fun sz E=>?_⟩
  obtain⟨_,_,_,E,_⟩:=E
  grind[Ss]
 ·intro hx
  simp only[pd]
  refine⟨fun _=>by rw[<-abq];exact acQ _ _,by rw[<-abq];exact akQ _ _,.inr ⟨b,s,o,rfl,S,L,by omega,by simp_all,?_⟩⟩
  intro k c P;rw[List.getElem?_map] at P
  obtain⟨x,G,rfl⟩:=Option.map_eq_some_iff.1 P
  have a1:=(List.getElem?_eq_some_iff.1 G).1
  refine⟨.int .i64 x,?_,by simp[cQ,Value.oneCell']⟩
  have h9:(o.toList.take (XB l i j).length)[k]?=((XB l i j).map (Value.int .i64))[k]?:=by rw[R]
  grind
structure Game where
 rows:List (List Int)
 bounds:List Int
 offers:List Off
def ajo:Cod Game where
 put a:=.agg [.row (.fa (.i .i64)) a.rows,.row (.i .i64) a.bounds,.row .off a.offers]
 dec
  | .agg [r,v,x]=>match J6 (.fa (.i .i64)) r,J6 (.i .i64) v,J6 .off x with
   |some c,some v,some x=>some ⟨c,v,x⟩
   |_,_,_=>none
  |_=>none
 ok v a h:=by
  grind[SV.g,gL,abH]
 inj a b h:=by
  obtain⟨c,v,x⟩:=a
  obtain⟨l,k,j⟩:=b
  simp only[SV.g,gL,AV.agg.injEq,List.cons.injEq,and_true,true_and,AV.sl.injEq] at h
  have e:=Yg (.fa (.i .i64)) h.1.1 h.1.2
  have d:=Yg (.i .i64) h.2.1.1 h.2.1.2
  have f:=Yg .off h.2.2.1 h.2.2.2
  rw[e,d,f]
def al2:fN:=⟨115,cn,.one ql,fun _=>True,fun p=> .si .i64 (if dV p=0 then nq p else 0)⟩
theorem h335:Holds Tryz.prog al2:=by
 refine lj (L:=[r79,ahh]) al2 lk (by grind[h79,h157]) ?_
 rintro(p:cn) -
 refine gw (let c:=(0:Int);let b:=decide (dV p≠c);let a:=SV.si .i64 (if dV p=c then nq p else c);True/\(b=true->(SV.il .i64 0).same a)/\(b=false->p.classes.length<=8/\(SV.si .i64 (nq p)).same a)) (by kernel_rfl) ?_
 simp only[vcs]
 refine⟨fun h=>by rw[if_neg h],fun h=>?_⟩
 have c:dV p=0:=Classical.not_not.1 h
 rw[if_pos c]
 have:=(pz c).1
 omega
def N2 (p:cn) (r:Int) (n:Nat):List Int:=(p.offers.take n).map (uu p r)
def apQ:fN:=⟨116,cn×Int,.cons ql (.one (sj .i64)),fun a=>dV a.1=0/\0<=a.2/\a.2<nq a.1,fun a=> .eW [.row (.i .i64) (N2 a.1 a.2 a.1.offers.length),.si .i64 (pg a.1 a.2)]⟩
def aEt (a:cn×Int):Nat->jW
 |5=> .inv Int (fun i=>⟨[(1,.si .i64 a.2),(4,.ow 1 (N2 a.1 a.2 i.toNat).length 1),(6,.ptr 2 0 20),(20,.row .off a.1.offers),(21,.si .i64 a.1.offers.length),(22,.si .i64 i)],[.cells a.1.ss 27 20 false,.row (.i .i64) (N2 a.1 a.2 i.toNat) 3 true,.cells a.1.ss 98 20 false]⟩)
   (fun s=>iS s 22) (fun i=>0<=i/\i<=a.1.offers.length) (fun i=>(a.1.offers.length - i).toNat) fun _ _=> .look
 |_=> .look
theorem h336:Holds Tryz.prog apQ:=by
 refine lj (L:=[al2,ahj,ahi]) apQ aEt (by grind[h335,h156,h158]) ?_
 rintro⟨p,r⟩ ⟨z,F,I⟩
 simp only at z F I
 refine gw (let d:=SV.si .i64;let e:=(0:Int);let h:=SV.row;let n:=cC.row;let v:=SV.eW;let y:=SV.ow;let f:=bD.i .i64;let k:=h bD.off p.offers;let B:=decide (r<e);let A:=SV.il .i64 0;let D:=[d (pg p r)];let w:=v (h f (N2 p r p.offers.length)::D);let E:=decide ((if dV p=e then nq p else e)<=r);let s:=SV.ptr 2 0 20;let C:=(↑p.offers.length:Int);let a:=(↑p.offers.length:Int);let j:=d a;let t:=fun(u:Nat) ↦let o:=cC.cells [d p.supply.a0,d p.supply.a1,d p.supply.a2,d p.supply.a3,d p.supply.a4,d p.supply.a5,d p.opn.a0,d p.opn.a1,d p.opn.a2,d p.opn.a3,d p.opn.a4,d p.opn.a5,d p.cls.a0,d p.cls.a1,d p.cls.a2,d p.cls.a3,d p.cls.a4,d p.cls.a5,h f p.classes,k] u 20 false;o.same o;(B=true->0=0/\(v [h f [],A]).same w)/\(B=false->True/\(E=true->0=0/\(v [h f [],A]).same w)/\(E=false->((((d r).same (d r)/\(y 1 0 1).same (y 1 (N2 p r 0).length 1)/\s.same s/\k.same k/\(d C).same j/\A.same (d 0)/\True)/\t 27/\(n f [] 3 true).same (n f (N2 p r 0) 3 true)/\t 98/\True)/\e<=e/\e<=a)/\∀(x:Int),let g:=bo p.offers x.toNat bD.off.dflt;let c:=N2 p r x.toNat;let q:=c.length+1;let b:=x+(1:Int);let m:=c++[uu p r g];let l:=d b;e<=x/\x<=a->(decide (x<a)=true->e<=x/\x<C/\x.toNat<p.offers.length/\(p.classes.length<=8/\e<=r/\r<nq p/\e<=g.iy/\g.iy<(↑p.classes.length:Int))/\c.length=c.length/\q*8<=140737488355328/\q<=1000000000000/\iR .i64 b/\(((d r).same (d r)/\(y 1 m.length 1).same (y 1 (N2 p r b.toNat).length 1)/\s.same s/\k.same k/\j.same j/\l.same l/\True)/\t 27/\(n f m 3 true).same (n f (N2 p r b.toNat) 3 true)/\t 98/\True)/\(e<=b/\b<=a)/\(a - b).toNat<(a - x).toNat)/\(decide (x<a)=false->(p.classes.length<=8/\e<=r/\r<nq p)/\c.length=c.length/\(v (h f c::D)).same w)))) (by kernel_rfl) ?_
 simp only[vcs]
 obtain⟨R,N,J,K,H⟩:=pz z
 have v:∀{x y:Nat},x=y->(SV.ow 1 x 1).same (SV.ow 1 y 1):=by rintro _ _ rfl;rfl
 have n:∀{x y:List Int},x=y->(cC.row (.i .i64) x 3 true).same (cC.row (.i .i64) y 3 true):=by rintro _ _ rfl;rfl
 rw[if_pos z]
 refine⟨fun h=>by omega,fun _=>⟨fun h=>by omega,fun _=>⟨⟨?_,by omega,by omega⟩,?_⟩⟩⟩
 ·exact⟨v rfl,n rfl⟩
 ·rintro i ⟨Q,P⟩
  have O:(N2 p r i.toNat).length<=160:=by grind[N2]
  refine⟨fun G=>?_,fun G=>?_⟩
  ·have M:=H _ (nA (d:=bD.off.dflt) (show i.toNat<p.offers.length by omega))
   have e:N2 p r (i+1).toNat=N2 p r i.toNat++[uu p r (bo p.offers i.toNat bD.off.dflt)]:=by
    grind[N2,aal]
   grind
  grind
def Y0 (p:cn) (n:Nat):List (List Int):=(List.range n).map fun r:Nat=>N2 p r p.offers.length
def Q0 (p:cn) (n:Nat):List Int:=(List.range n).map fun r:Nat=>pg p r
def nR (p:cn):Nat:=if dV p=0 then p.classes.length+12 else 0
def kz (p:cn):Game:=⟨Y0 p (nR p),Q0 p (nR p),p.offers⟩
theorem awd {p:cn} {n:Nat}:(Y0 p n).length=n:=by simp[Y0]
theorem al3 {p:cn} {n:Nat}:(Q0 p n).length=n:=by simp[Q0]
theorem aEu {p:cn} {i:Int} (h:0<=i):Y0 p (i+1).toNat=Y0 p i.toNat++[N2 p i p.offers.length]:=by
 unfold Y0
 rw[show(i+1).toNat=i.toNat+1 from by omega,List.range_succ,List.map_append]
 grind
theorem aEv {p:cn} {i:Int} (h:0<=i):Q0 p (i+1).toNat=Q0 p i.toNat++[pg p i]:=by
 unfold Q0
 rw[show(i+1).toNat=i.toNat+1 from by omega,List.range_succ,List.map_append]
 grind
def al4:fN:=⟨76,cn,.one ql,fun _=>True,fun p=>ajo.put (kz p)⟩
def aEw (p:cn):Nat->jW
 |3=> .inv Int (fun i=>⟨[(1,.ptr 0 0 20),(2,.ptr 1 0 3),(3,.ptr 2 0 3),(11,.si .i64 (nR p)),(12,.si .i64 i)],[.cells p.ss 27 20 false,.cells [.sc (.slice none 0 0),.sc (.slice none 0 0),.sc (.slice none 0 0)] 130 3 false,.cells [.ow 4 (Y0 p i.toNat).length 1,.ow 3 (Q0 p i.toNat).length 1,.row .off p.offers] 130 3 false,.row (.i .i64) (Q0 p i.toNat) 3 true,.row (.fa (.i .i64)) (Y0 p i.toNat) 24 false]⟩)
   (fun s=>iS s 12) (fun i=>0<=i/\i<=nR p) (fun i=>(nR p - i).toNat) fun _ _=> .look
 |_=> .look
theorem h325:Holds Tryz.prog al4:=by
 refine lj (L:=[al2,apQ]) al4 aEw (by grind[h335,h336]) ?_
 rintro(p:cn) -
 refine gw (let a:=SV.si .i64;let b:=cC.row;let h:=(0:Int);let j:=cC.cells;let l:=SV.row;let o:=SV.ow;let y:=SV.ptr;let w:=y 0 0 20;let s:=y 1 0 3;let t:=y 2 0 3;let g:=(↑(nR p):Int);let z:=a g;let f:=bD.i .i64;let k:=[l bD.off p.offers];let u:=j (a p.supply.a0::a p.supply.a1::a p.supply.a2::a p.supply.a3::a p.supply.a4::a p.supply.a5::a p.opn.a0::a p.opn.a1::a p.opn.a2::a p.opn.a3::a p.opn.a4::a p.opn.a5::a p.cls.a0::a p.cls.a1::a p.cls.a2::a p.cls.a3::a p.cls.a4::a p.cls.a5::l f p.classes::k) 27 20 false;let A:=SV.sc (Value.slice none 0 0);let v:=j [A,A,A] 130 3 false;True/\(((w.same w/\s.same s/\t.same t/\(a (if dV p=h then nq p else h)).same z/\(SV.il .i64 0).same (a 0)/\True)/\u.same u/\v.same v/\(j (o 4 0 1::o 3 0 1::k) 130 3 false).same (j (o 4 (Y0 p 0).length 1::o 3 (Q0 p 0).length 1::k) 130 3 false)/\(b f [] 3 true).same (b f (Q0 p 0) 3 true)/\(b f.fa [] 24 false).same (b f.fa (Y0 p 0) 24 false)/\True)/\h<=h/\h<=g)/\∀(x:Int),let e:=Y0 p x.toNat;let n:=e.length+1;let d:=Q0 p x.toNat;let m:=d.length+1;let c:=x+(1:Int);let r:=a c;let q:=e++[N2 p x p.offers.length];h<=x/\x<=g->(decide (x<g)=true->(dV p=h/\h<=x/\x<nq p)/\1=1/\e.length=e.length/\n*24<=140737488355328/\n<=1000000000000/\1=1/\d.length=d.length/\m*8<=140737488355328/\m<=1000000000000/\iR .i64 c/\((w.same w/\s.same s/\t.same t/\z.same z/\r.same r/\True)/\u.same u/\v.same v/\(j (o 4 q.length 1::o 3 (d++[pg p x]).length 1::k) 130 3 false).same (j (o 4 (Y0 p c.toNat).length 1::o 3 (Q0 p c.toNat).length 1::k) 130 3 false)/\(b f (d++[pg p x]) 3 true).same (b f (Q0 p c.toNat) 3 true)/\(b f.fa q 24 false).same (b f.fa (Y0 p c.toNat) 24 false)/\True)/\(h<=c/\c<=g)/\(g - c).toNat<(g - x).toNat)/\(decide (x<g)=false->e.length=e.length/\d.length=d.length/\(SV.agg (l f.fa e::l f d::k)).same (SV.agg [l f.fa (kz p).rows,l f (kz p).bounds,l bD.off (kz p).offers]))) (by kernel_rfl) ?_
 simp only[vcs]
 have J:∀x:Int,0<=x->x<nR p->dV p=0/\x<nq p/\nR p<=20:=by
  intro x H B;unfold nR at B ⊢;split at B
  ·rename_i G
   have:=(pz G).1
   simp_all[nq]
  ·omega
 have E:(if dV p=0 then nq p else 0)=((nR p:Nat):Int):=by
  grind[nR,nq]
 have j:∀{a C b D:Nat} {l:List Off},a=C->b=D->(cC.cells [.ow 4 a 1,.ow 3 b 1,.row .off l] 130 3 false).same (.cells [.ow 4 C 1,.ow 3 D 1,.row .off l] 130 3 false):=by rintro _ _ _ _ _ rfl rfl;rfl
 have o:∀{x y:List Int},x=y->(cC.row (.i .i64) x 3 true).same (cC.row (.i .i64) y 3 true):=by rintro _ _ rfl;rfl
 have h:∀{x y:List (List Int)},x=y->(cC.row (.fa (.i .i64)) x 24 false).same (cC.row (.fa (.i .i64)) y 24 false):=by rintro _ _ rfl;rfl
 refine⟨⟨⟨E,j rfl rfl,o rfl,h rfl⟩,by omega,by omega⟩,?_⟩
 rintro i ⟨I,K⟩
 refine⟨fun F=>?_,fun F=>?_⟩
 ·grind[awd,al3,aEu,aEv]
 ·rw[show i.toNat=nR p by omega]
  rfl
def aaV (g:Game):Prop:=(g.rows.length=g.bounds.length/\g.bounds.length<=1000/\g.offers.length<=1000)/\(∀r∈g.rows,r.length=g.offers.length/\∀x∈r,0<=x/\x<=1000)/\∀b∈g.bounds, -1000<=b/\b<=1000
def aco (g:Game) (c:List Int):Prop:=∀x∈c,0<=(bo g.offers x.toNat bD.off.dflt).value/\(bo g.offers x.toNat bD.off.dflt).value<=1000000
def abP (g:Game) (c:List Int):Prop:=c.length<=1000/\∀x∈c,0<=x/\x<g.offers.length
def Y9 (g:Game) (c:List Int) (r:Nat):Int:=(c.map fun x=>bo (bo g.rows r []) x.toNat 0).sum
def Uk (g:Game) (c:List Int):Bool:=(List.range g.bounds.length).all fun r=>decide (0<=bo g.bounds r 0 - Y9 g c r)
def pq (g:Game) (c:List Int):Int:=(c.map fun x=>(bo g.offers x.toNat bD.off.dflt).value).sum
theorem awe {f:Int->Int} {c:List Int} {i:Int} (a:0<=i) (h:i<c.length):((c.take (i+1).toNat).map f).sum=((c.take i.toNat).map f).sum+f (bo c i.toNat 0):=by
 grind[aal]
theorem apR {f:Int->Int} {c:List Int} {k:Nat} {m:Int} (b:0<=m) (h:∀x∈c,0<=f x/\f x<=m):0<=((c.take k).map f).sum/\((c.take k).map f).sum<=c.length*m:=by
 induction c generalizing k with
 |nil=>simp
 |cons x c a=>
  cases k with
  |zero=>simp;exact Int.mul_nonneg (by omega) b
  |succ k=>
   have i:=h x (by simp)
   obtain⟨g,e⟩:=a (k:=k) fun y d=>h y (by simp[d])
   simp only[List.take_succ_cons,List.map_cons,List.sum_cons,List.length_cons]
   grind
def al5:fN:=⟨82,Game×List Int,.cons ajo (.one (qX (.i .i64))),fun a=>aaV a.1/\abP a.1 a.2,fun a=> .sb (Uk a.1 a.2)⟩
def aEx (g:Game) (c:List Int):Nat->jW
 |2=> .inv Int (fun i=>⟨[(1,.row (.i .i64) c),(2,.ptr 0 0 3),(10,.row (.i .i64) g.bounds),(11,.si .i64 g.bounds.length),(12,.si .i64 i)],[.cells [.row (.fa (.i .i64)) g.rows,.row (.i .i64) g.bounds,.row .off g.offers] 130 3 false]⟩)
   (fun s=>iS s 12) (fun i=>(0<=i/\i<=g.bounds.length)/\∀r:Nat,r<i->0<=bo g.bounds r 0 - Y9 g c r) (fun i=>(g.bounds.length - i).toNat) fun i k=>match k with
   |5=> .inv (Int×Int) (fun y=>⟨[(1,.row (.i .i64) c),(2,.ptr 0 0 3),(5,.si .i64 i),(6,.si .i64 y.2),(10,.row (.i .i64) g.bounds),(11,.si .i64 g.bounds.length),(12,.si .i64 i),(17,.row (.i .i64) c),(18,.si .i64 c.length),(19,.si .i64 y.1)],[.cells [.row (.fa (.i .i64)) g.rows,.row (.i .i64) g.bounds,.row .off g.offers] 130 3 false]⟩)
     (fun s=>(iS s 19,iS s 6)) (fun y=>(0<=y.1/\y.1<=c.length)/\y.2=bo g.bounds i.toNat 0 - Y9 g (c.take y.1.toNat) i.toNat) (fun y=>(c.length - y.1).toNat) fun _ _=> .look
   |_=> .look
 |_=> .look
theorem h327:Holds Tryz.prog al5:=by
 refine lj (L:=[]) al5 (fun a=>aEx a.1 a.2) (by simp) ?_
 rintro⟨g,c⟩ ⟨⟨⟨Y,q2,q3⟩,hr,U⟩,O,C⟩
 simp only at Y q2 q3 hr U O C
 refine gw (let a:=(0:Int);let d:=SV.si .i64;let f:=SV.row;let h:=SV.il .i64 0;let j:=iR .i64;let e:=bD.i .i64;let t:=SV.ptr 0 0 3;let o:=f e g.bounds;let Q:=(↑g.bounds.length:Int);let q:=(↑g.bounds.length:Int);let z:=d q;let u:=cC.cells [f e.fa g.rows,o,f bD.off g.offers] 130 3 false;let s:=(↑c.length:Int);let I:=d s;((((f e c).same (f e c)/\t.same t/\o.same o/\(d Q).same z/\(h).same (d 0)/\True)/\u.same u/\True)/\(a<=a/\a<=q)/\∀(r:Nat),(↑r:Int)<a->a<=bo g.bounds r a - Y9 g c r)/\∀(x:Int),let F:=bo g.bounds x.toNat a;let E:=d F;let y:=bo g.rows x.toNat e.fa.dflt;let k:=x+(1:Int);let A:=d k;((a<=x/\x<=q)/\∀(r:Nat),(↑r:Int)<x->a<=bo g.bounds r a - Y9 g c r)->(decide (x<q)=true->a<=x/\x<Q/\x.toNat<g.bounds.length/\((((f e c).same (f e c)/\t.same t/\(d x).same (d x)/\E.same E/\o.same o/\z.same z/\(d x).same (d x)/\(f e c).same (f e c)/\(d (↑c.length:Int)).same I/\(h).same (d 0)/\True)/\u.same u/\True)/\(a<=a/\a<=s)/\F=F - Y9 g [] x.toNat)/\∀(b:Int×Int),let p:=bo c b.fst.toNat a;let w:=b.snd - bo y p.toNat a;let l:=b.fst+(1:Int);let n:=d x;let H:=d w;let D:=d l;let G:=decide (b.snd<a);(a<=b.fst/\b.fst<=s)/\b.snd=F - Y9 g (List.take b.fst.toNat c) x.toNat->(decide (b.fst<s)=true->a<=b.fst/\b.fst<(↑c.length:Int)/\b.fst.toNat<c.length/\a<=x/\x<(↑g.rows.length:Int)/\x.toNat<g.rows.length/\a<=p/\p<(↑y.length:Int)/\p.toNat<y.length/\j w/\j l/\(((f e c).same (f e c)/\t.same t/\n.same n/\H.same H/\o.same o/\z.same z/\n.same n/\(f e c).same (f e c)/\I.same I/\D.same D/\True)/\u.same u/\True)/\((a<=l/\l<=s)/\w=F - Y9 g (List.take l.toNat c) x.toNat)/\(s - l).toNat<(s - b.fst).toNat)/\(decide (b.fst<s)=false->(G=true->(SV.bl false).same (SV.sb (Uk g c)))/\(G=false->j k/\(((f e c).same (f e c)/\t.same t/\o.same o/\z.same z/\A.same A/\True)/\u.same u/\True)/\((a<=k/\k<=q)/\∀(r:Nat),(↑r:Int)<k->a<=bo g.bounds r a - Y9 g c r)/\(q - k).toNat<(q - x).toNat)))/\(decide (x<q)=false->(SV.bl true).same (SV.sb (Uk g c)))) (by kernel_rfl) ?_
 simp only[vcs]
 have hd:(bD.i IntKind.i64).fa.dflt=([]:List Int):=rfl
 rw[hd]
 have M:∀r:Nat,r<g.rows.length->(bo g.rows r []).length=g.offers.length/\∀x∈c,0<=bo (bo g.rows r []) x.toNat 0/\bo (bo g.rows r []) x.toNat 0<=1000:=fun r h=>by
  grind[nA]
 refine⟨⟨by omega,fun r h=>by omega⟩,?_⟩
 rintro i ⟨⟨Z,i1⟩,K⟩
 refine⟨fun P=>⟨Z,P,by omega,⟨by omega,by simp[Y9]⟩,?_⟩,fun P=>?_⟩
 ·obtain⟨W,B⟩:=M i.toNat (by omega)
  have a1:=U _ (nA (d:=0) (show i.toNat<g.bounds.length by omega))
  rintro⟨j,v⟩ ⟨⟨S,j1⟩,J⟩
  simp only at S j1 J ⊢
  refine⟨fun V=>?_,fun V=>?_⟩
  ·have hx:=C _ (nA (d:=0) (show j.toNat<c.length by omega))
   have hs:Y9 g (c.take (j+1).toNat) i.toNat=Y9 g (c.take j.toNat) i.toNat+bo (bo g.rows i.toNat []) (bo c j.toNat 0).toNat 0:=awe (f:=fun x=>bo (bo g.rows i.toNat []) x.toNat 0) S V
   have X:0<=Y9 g (c.take j.toNat) i.toNat/\Y9 g (c.take j.toNat) i.toNat<=c.length*1000:=apR (f:=fun x=>bo (bo g.rows i.toNat []) x.toNat 0) (m:=1000) (by omega) B
   have a0:=B _ (nA (d:=0) (show j.toNat<c.length by omega))
   omega
  ·have N:j.toNat=c.length:=by omega
   rw[N,List.take_length] at J
   refine⟨fun R=>?_,fun T=>⟨by omega,⟨by omega,fun r h=>?_⟩,by omega⟩⟩
   ·symm
    rw[<-Bool.not_eq_true,Uk,List.all_eq_true];intro h
    have:=of_decide_eq_true (h i.toNat (List.mem_range.2 (by omega)))
    omega
   ·by_cases h2:(r:Int)<i
    ·simp_all
    ·rw[show r=i.toNat by omega,<-J];omega
 grind[Uk]
def ahE:fN:=⟨79,Game×List Int,.cons ajo (.one (qX (.i .i64))),fun a=>aaV a.1/\abP a.1 a.2/\aco a.1 a.2,fun a=> .si .i64 (pq a.1 a.2)⟩
def aEy (g:Game) (c:List Int):Nat->jW
 |3=> .inv Int (fun i=>⟨[(2,.ptr 0 0 3),(5,.si .i64 (pq g (c.take i.toNat))),(8,.row (.i .i64) c),(9,.si .i64 c.length),(10,.si .i64 i)],[.cells [.row (.fa (.i .i64)) g.rows,.row (.i .i64) g.bounds,.row .off g.offers] 130 3 false]⟩)
   (fun s=>iS s 10) (fun i=>0<=i/\i<=c.length) (fun i=>(c.length - i).toNat) fun _ _=> .look
 |_=> .look
theorem h328:Holds Tryz.prog ahE:=by
 refine lj (L:=[]) ahE (fun a=>aEy a.1 a.2) (by simp) ?_
 rintro⟨g,c⟩ ⟨⟨⟨D,E,C⟩,B,y⟩,⟨q,l⟩,e⟩
 simp only[aco] at D E C B y q l e
 refine gw (let a:=SV.si .i64;let d:=(0:Int);let e:=SV.row;let o:=SV.ptr 0 0 3;let v:=SV.il .i64 0;let j:=bD.i .i64;let b:=(↑c.length:Int);let r:=a b;let n:=cC.cells [e j.fa g.rows,e j g.bounds,e bD.off g.offers] 130 3 false;(((o.same o/\v.same (a (pq g []))/\(e j c).same (e j c)/\(a (↑c.length:Int)).same r/\v.same (a 0)/\True)/\n.same n/\True)/\d<=d/\d<=b)/\∀(x:Int),let p:=bo c x.toNat d;let t:=pq g (List.take x.toNat c);let s:=t+(bo g.offers p.toNat bD.off.dflt).value;let h:=x+(1:Int);let k:=a h;d<=x/\x<=b->(decide (x<b)=true->d<=x/\x<(↑c.length:Int)/\x.toNat<c.length/\d<=p/\p<(↑g.offers.length:Int)/\p.toNat<g.offers.length/\iR .i64 s/\iR .i64 h/\((o.same o/\(a s).same (a (pq g (List.take h.toNat c)))/\(e j c).same (e j c)/\r.same r/\k.same k/\True)/\n.same n/\True)/\(d<=h/\h<=b)/\(b - h).toNat<(b - x).toNat)/\(decide (x<b)=false->(a t).same (a (pq g c)))) (by kernel_rfl) ?_
 conv=>zeta
 try simp only[vcs]
 refine⟨⟨by simp[pq],by omega,by omega⟩,?_⟩
 rintro i ⟨A,H⟩
 refine⟨fun u=>?_,fun u=>?_⟩
 ·have F:=l _ (nA (d:=0) (show i.toNat<c.length by omega))
  have G:pq g (c.take (i+1).toNat)=pq g (c.take i.toNat)+(bo g.offers (bo c i.toNat 0).toNat bD.off.dflt).value:=awe (f:=fun x=>(bo g.offers x.toNat bD.off.dflt).value) A u
  have w:0<=pq g (c.take i.toNat)/\pq g (c.take i.toNat)<=c.length*1000000:=apR (f:=fun x=>(bo g.offers x.toNat bD.off.dflt).value) (m:=1000000) (by omega) e
  have z:=e _ (nA (d:=0) (show i.toNat<c.length by omega))
  omega
 ·rw[show i.toNat=c.length by omega,List.take_length]
end Go.Vi
